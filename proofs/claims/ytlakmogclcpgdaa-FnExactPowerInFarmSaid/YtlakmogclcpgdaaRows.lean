/-
  No cell of these rows narrows 'for every input' (looked for: loops, veiled, ifaces, maps, wideKeys, modest, calm, conditions, laid).
  DERIVED. THE GIVEN ROWS OF THIS SEAT. 9 by the template 'for every input the law returns true; each argument reads behind the call as it read before'; 0 by the template 'total and deterministic' (their statements: YtlakmogclcpgdaaTotals.lean).
  GIVEN WITH THE SEED: the statements are not yours to turn. If you find one false, say at which input.
  Laid BY PROGRAM, IN A SANDBOX (cutbox-rows.mjs): the forced cells as the released guide's own fill.sh prints them over the translation 9a2713adbf0b4140… (all of the seat's roots in one cut). By AI agents, Wed Nov 11 2026. No macro, syntax, notation, axiom, sorry.
-/
import Derived.Test.YtlakmogclcpgdaaChecked
import GoSem.Claim
import GoSem.ClaimJoined
import GoSem.ClaimMapViews
import Derived.JoinedTies
import Derived.KernelRfl
namespace Go.Proofs.Ytlakmogclcpgdaa
/- THE CELL 'sum', in the pinned program and in every row, IS THE sha256 OF THE DUMP (.gsa) THAT YtlakmogclcpgdaaProg.lean LOADS. Nothing in Lean hashes anything: it is a label: what it is worth is what the hold of that sum in a sandbox is worth. -/
noncomputable def Try.pinned : Pinned := { name := "ytlakmogclcpgdaa", sum := "9a2713adbf0b4140ee54ebb3e63a606555380931781dc2f0b0cc250bd5a01d62", checked := Try.checked }
namespace Rows
def none {H : Type} : Left H := { results := [], args := [] }

/-- 'laws.FnExactRowFarm': WHATEVER THE INPUT: true; the input reads as it did. -/
def fnExactRowFarmSpec : ChangeSpec := { name := "fnExactRowFarm", fn := fun _ => fun
  | [d1, d2, d3, d4, d5] => { results := [.lit (.bool true)], args := [d1, d2, d3, d4, d5] }
  | _ => none }
def fnExactRowFarmRow : OpenClaim := { program := "ytlakmogclcpgdaa", sum := "9a2713adbf0b4140ee54ebb3e63a606555380931781dc2f0b0cc250bd5a01d62", func := "loop.example/g01256/laws.FnExactRowFarm", spec := "fnExactRowFarm", unfollowed := true, recurses := true, apart := false }
def FnExactRowFarmSaid : Prop := fnExactRowFarmRow.holds Try.pinned (OpenSpec.ofChange fnExactRowFarmSpec)

/-- ITS FALSE NEIGHBOUR: 'it returns false'. Refute it at one input. -/
def fnExactRowFarmWrong : ChangeSpec := { name := "fnExactRowFarm", fn := fun _ => fun
  | [d1, d2, d3, d4, d5] => { results := [.lit (.bool false)], args := [d1, d2, d3, d4, d5] }
  | _ => none }
def FnExactRowFarmWrongFalsely : Prop := fnExactRowFarmRow.holds Try.pinned (OpenSpec.ofChange fnExactRowFarmWrong)

/-- 'laws.FnExactAddPlace': WHATEVER THE INPUT: true; the input reads as it did. -/
def fnExactAddPlaceSpec : ChangeSpec := { name := "fnExactAddPlace", fn := fun _ => fun
  | [d1, d2, d3] => { results := [.lit (.bool true)], args := [d1, d2, d3] }
  | _ => none }
def fnExactAddPlaceRow : OpenClaim := { program := "ytlakmogclcpgdaa", sum := "9a2713adbf0b4140ee54ebb3e63a606555380931781dc2f0b0cc250bd5a01d62", func := "loop.example/g01256/laws.FnExactAddPlace", spec := "fnExactAddPlace", unfollowed := true, recurses := true, apart := false }
def FnExactAddPlaceSaid : Prop := fnExactAddPlaceRow.holds Try.pinned (OpenSpec.ofChange fnExactAddPlaceSpec)

/-- ITS FALSE NEIGHBOUR: 'it returns false'. Refute it at one input. -/
def fnExactAddPlaceWrong : ChangeSpec := { name := "fnExactAddPlace", fn := fun _ => fun
  | [d1, d2, d3] => { results := [.lit (.bool false)], args := [d1, d2, d3] }
  | _ => none }
def FnExactAddPlaceWrongFalsely : Prop := fnExactAddPlaceRow.holds Try.pinned (OpenSpec.ofChange fnExactAddPlaceWrong)

/-- 'laws.FnExactMovePlace': WHATEVER THE INPUT: true; the input reads as it did. -/
def fnExactMovePlaceSpec : ChangeSpec := { name := "fnExactMovePlace", fn := fun _ => fun
  | [d1, d2, d3, d4] => { results := [.lit (.bool true)], args := [d1, d2, d3, d4] }
  | _ => none }
def fnExactMovePlaceRow : OpenClaim := { program := "ytlakmogclcpgdaa", sum := "9a2713adbf0b4140ee54ebb3e63a606555380931781dc2f0b0cc250bd5a01d62", func := "loop.example/g01256/laws.FnExactMovePlace", spec := "fnExactMovePlace", unfollowed := true, recurses := true, apart := false }
def FnExactMovePlaceSaid : Prop := fnExactMovePlaceRow.holds Try.pinned (OpenSpec.ofChange fnExactMovePlaceSpec)

/-- ITS FALSE NEIGHBOUR: 'it returns false'. Refute it at one input. -/
def fnExactMovePlaceWrong : ChangeSpec := { name := "fnExactMovePlace", fn := fun _ => fun
  | [d1, d2, d3, d4] => { results := [.lit (.bool false)], args := [d1, d2, d3, d4] }
  | _ => none }
def FnExactMovePlaceWrongFalsely : Prop := fnExactMovePlaceRow.holds Try.pinned (OpenSpec.ofChange fnExactMovePlaceWrong)

/-- 'laws.FnExactDropPlace': WHATEVER THE INPUT: true; the input reads as it did. -/
def fnExactDropPlaceSpec : ChangeSpec := { name := "fnExactDropPlace", fn := fun _ => fun
  | [d1, d2] => { results := [.lit (.bool true)], args := [d1, d2] }
  | _ => none }
def fnExactDropPlaceRow : OpenClaim := { program := "ytlakmogclcpgdaa", sum := "9a2713adbf0b4140ee54ebb3e63a606555380931781dc2f0b0cc250bd5a01d62", func := "loop.example/g01256/laws.FnExactDropPlace", spec := "fnExactDropPlace", unfollowed := true, recurses := true, apart := false }
def FnExactDropPlaceSaid : Prop := fnExactDropPlaceRow.holds Try.pinned (OpenSpec.ofChange fnExactDropPlaceSpec)

/-- ITS FALSE NEIGHBOUR: 'it returns false'. Refute it at one input. -/
def fnExactDropPlaceWrong : ChangeSpec := { name := "fnExactDropPlace", fn := fun _ => fun
  | [d1, d2] => { results := [.lit (.bool false)], args := [d1, d2] }
  | _ => none }
def FnExactDropPlaceWrongFalsely : Prop := fnExactDropPlaceRow.holds Try.pinned (OpenSpec.ofChange fnExactDropPlaceWrong)

/-- 'laws.FnExactNearestPlaces': WHATEVER THE INPUT: true; the input reads as it did. -/
def fnExactNearestPlacesSpec : ChangeSpec := { name := "fnExactNearestPlaces", fn := fun _ => fun
  | [d] => { results := [.lit (.bool true)], args := [d] }
  | _ => none }
def fnExactNearestPlacesRow : OpenClaim := { program := "ytlakmogclcpgdaa", sum := "9a2713adbf0b4140ee54ebb3e63a606555380931781dc2f0b0cc250bd5a01d62", func := "loop.example/g01256/laws.FnExactNearestPlaces", spec := "fnExactNearestPlaces", inPlace := ["math.sqrt"], unfollowed := true, recurses := true, apart := false }
def FnExactNearestPlacesSaid : Prop := fnExactNearestPlacesRow.holds Try.pinned (OpenSpec.ofChange fnExactNearestPlacesSpec)

/-- ITS FALSE NEIGHBOUR: 'it returns false'. Refute it at one input. -/
def fnExactNearestPlacesWrong : ChangeSpec := { name := "fnExactNearestPlaces", fn := fun _ => fun
  | [d] => { results := [.lit (.bool false)], args := [d] }
  | _ => none }
def FnExactNearestPlacesWrongFalsely : Prop := fnExactNearestPlacesRow.holds Try.pinned (OpenSpec.ofChange fnExactNearestPlacesWrong)

/-- 'laws.FnExactWakeAt': WHATEVER THE INPUT: true; the input reads as it did. -/
def fnExactWakeAtSpec : ChangeSpec := { name := "fnExactWakeAt", fn := fun _ => fun
  | [d1, d2, d3, d4, d5] => { results := [.lit (.bool true)], args := [d1, d2, d3, d4, d5] }
  | _ => none }
def fnExactWakeAtRow : OpenClaim := { program := "ytlakmogclcpgdaa", sum := "9a2713adbf0b4140ee54ebb3e63a606555380931781dc2f0b0cc250bd5a01d62", func := "loop.example/g01256/laws.FnExactWakeAt", spec := "fnExactWakeAt", inPlace := ["math.Float64frombits", "math.Float64bits", "math.archTrunc"], unfollowed := true, recurses := true, apart := false }
def FnExactWakeAtSaid : Prop := fnExactWakeAtRow.holds Try.pinned (OpenSpec.ofChange fnExactWakeAtSpec)

/-- ITS FALSE NEIGHBOUR: 'it returns false'. Refute it at one input. -/
def fnExactWakeAtWrong : ChangeSpec := { name := "fnExactWakeAt", fn := fun _ => fun
  | [d1, d2, d3, d4, d5] => { results := [.lit (.bool false)], args := [d1, d2, d3, d4, d5] }
  | _ => none }
def FnExactWakeAtWrongFalsely : Prop := fnExactWakeAtRow.holds Try.pinned (OpenSpec.ofChange fnExactWakeAtWrong)

/-- 'laws.FnExactLossAt': WHATEVER THE INPUT: true; the input reads as it did. -/
def fnExactLossAtSpec : ChangeSpec := { name := "fnExactLossAt", fn := fun _ => fun
  | [d1, d2, d3, d4] => { results := [.lit (.bool true)], args := [d1, d2, d3, d4] }
  | _ => none }
def fnExactLossAtRow : OpenClaim := { program := "ytlakmogclcpgdaa", sum := "9a2713adbf0b4140ee54ebb3e63a606555380931781dc2f0b0cc250bd5a01d62", func := "loop.example/g01256/laws.FnExactLossAt", spec := "fnExactLossAt", inPlace := ["math.Float64frombits", "math.sqrt", "math.Float64bits", "math.archTrunc"], unfollowed := true, recurses := true, apart := false }
def FnExactLossAtSaid : Prop := fnExactLossAtRow.holds Try.pinned (OpenSpec.ofChange fnExactLossAtSpec)

/-- ITS FALSE NEIGHBOUR: 'it returns false'. Refute it at one input. -/
def fnExactLossAtWrong : ChangeSpec := { name := "fnExactLossAt", fn := fun _ => fun
  | [d1, d2, d3, d4] => { results := [.lit (.bool false)], args := [d1, d2, d3, d4] }
  | _ => none }
def FnExactLossAtWrongFalsely : Prop := fnExactLossAtRow.holds Try.pinned (OpenSpec.ofChange fnExactLossAtWrong)

/-- 'laws.FnExactSpeedsInFarm': WHATEVER THE INPUT: true; the input reads as it did. -/
def fnExactSpeedsInFarmSpec : ChangeSpec := { name := "fnExactSpeedsInFarm", fn := fun _ => fun
  | [d1, d2, d3] => { results := [.lit (.bool true)], args := [d1, d2, d3] }
  | _ => none }
def fnExactSpeedsInFarmRow : OpenClaim := { program := "ytlakmogclcpgdaa", sum := "9a2713adbf0b4140ee54ebb3e63a606555380931781dc2f0b0cc250bd5a01d62", func := "loop.example/g01256/laws.FnExactSpeedsInFarm", spec := "fnExactSpeedsInFarm", inPlace := ["math.Float64frombits", "math.sqrt", "math.Float64bits", "math.archTrunc"], unfollowed := true, recurses := true, apart := false }
def FnExactSpeedsInFarmSaid : Prop := fnExactSpeedsInFarmRow.holds Try.pinned (OpenSpec.ofChange fnExactSpeedsInFarmSpec)

/-- ITS FALSE NEIGHBOUR: 'it returns false'. Refute it at one input. -/
def fnExactSpeedsInFarmWrong : ChangeSpec := { name := "fnExactSpeedsInFarm", fn := fun _ => fun
  | [d1, d2, d3] => { results := [.lit (.bool false)], args := [d1, d2, d3] }
  | _ => none }
def FnExactSpeedsInFarmWrongFalsely : Prop := fnExactSpeedsInFarmRow.holds Try.pinned (OpenSpec.ofChange fnExactSpeedsInFarmWrong)

/-- 'laws.FnExactPowerInFarm': WHATEVER THE INPUT: true; the input reads as it did. -/
def fnExactPowerInFarmSpec : ChangeSpec := { name := "fnExactPowerInFarm", fn := fun _ => fun
  | [d1, d2, d3, d4] => { results := [.lit (.bool true)], args := [d1, d2, d3, d4] }
  | _ => none }
def fnExactPowerInFarmRow : OpenClaim := { program := "ytlakmogclcpgdaa", sum := "9a2713adbf0b4140ee54ebb3e63a606555380931781dc2f0b0cc250bd5a01d62", func := "loop.example/g01256/laws.FnExactPowerInFarm", spec := "fnExactPowerInFarm", inPlace := ["math.Float64frombits", "math.sqrt", "math.Float64bits", "math.archTrunc"], unfollowed := true, recurses := true, apart := false }
def FnExactPowerInFarmSaid : Prop := fnExactPowerInFarmRow.holds Try.pinned (OpenSpec.ofChange fnExactPowerInFarmSpec)

/-- ITS FALSE NEIGHBOUR: 'it returns false'. Refute it at one input. -/
def fnExactPowerInFarmWrong : ChangeSpec := { name := "fnExactPowerInFarm", fn := fun _ => fun
  | [d1, d2, d3, d4] => { results := [.lit (.bool false)], args := [d1, d2, d3, d4] }
  | _ => none }
def FnExactPowerInFarmWrongFalsely : Prop := fnExactPowerInFarmRow.holds Try.pinned (OpenSpec.ofChange fnExactPowerInFarmWrong)

/- THE SECOND FORM. 'bulk': how many values and letters a reading holds, each counted each time it is reached (what is shared counts as often as it is met; a slice's spare places count too). A statement '..UptoSaid' is the law's where the arguments, and the package variables that the reading takes, are together of bulk at most 1048576: NARROWER than '..Said'. Prove '..Said' where nothing that the law and all that it calls make is longer than what came in: it says more and counts as full. Else prove '..UptoSaid'. A law counts once. -/
mutual
def uptoBulk {H : Type} : DataW H → Nat
  | .lit (.string bytes) => bytes.length + 1
  | .lit _ => 1
  | .nil => 1
  | .ptr d => uptoBulk d + 1
  | .slice elems spare => uptoBulkAll elems + uptoBulkAll spare + 1
  | .agg parts => uptoBulkAll parts + 1
  | .iface _ d => uptoBulk d + 1
  | .map entries => uptoBulkEntries entries + 1
  | .held _ => 1
def uptoBulkAll {H : Type} : List (DataW H) → Nat
  | [] => 0
  | d :: r => uptoBulk d + uptoBulkAll r
def uptoBulkEntries {H : Type} : List (Lit × DataW H) → Nat
  | [] => 0
  | x :: r => uptoBulkEntry x + uptoBulkEntries r
def uptoBulkEntry {H : Type} : Lit × DataW H → Nat
  | (.string bytes, d) => bytes.length + uptoBulk d + 1
  | (_, d) => uptoBulk d + 1
 end
def uptoSmall : (H : Type) → List (DataW H) → Bool := fun _ ds => decide (uptoBulkAll ds ≤ 1048576)
def OpenSpec.upto (s : _root_.Go.ChangeSpec) : _root_.Go.OpenSpec := { _root_.Go.OpenSpec.ofChange s with cond := some uptoSmall }

/-- 'laws.FnExactRowFarm', WHERE WHAT IT READS IS OF BULK AT MOST 1048576: true; the input reads as it did. -/
def fnExactRowFarmUptoRow : OpenClaim := { program := "ytlakmogclcpgdaa", sum := "9a2713adbf0b4140ee54ebb3e63a606555380931781dc2f0b0cc250bd5a01d62", func := "loop.example/g01256/laws.FnExactRowFarm", spec := "fnExactRowFarm", unfollowed := true, recurses := true, apart := false, narrowed := true }
def FnExactRowFarmUptoSaid : Prop := fnExactRowFarmUptoRow.holds Try.pinned (OpenSpec.upto fnExactRowFarmSpec)

/-- 'laws.FnExactAddPlace', WHERE WHAT IT READS IS OF BULK AT MOST 1048576: true; the input reads as it did. -/
def fnExactAddPlaceUptoRow : OpenClaim := { program := "ytlakmogclcpgdaa", sum := "9a2713adbf0b4140ee54ebb3e63a606555380931781dc2f0b0cc250bd5a01d62", func := "loop.example/g01256/laws.FnExactAddPlace", spec := "fnExactAddPlace", unfollowed := true, recurses := true, apart := false, narrowed := true }
def FnExactAddPlaceUptoSaid : Prop := fnExactAddPlaceUptoRow.holds Try.pinned (OpenSpec.upto fnExactAddPlaceSpec)

/-- 'laws.FnExactMovePlace', WHERE WHAT IT READS IS OF BULK AT MOST 1048576: true; the input reads as it did. -/
def fnExactMovePlaceUptoRow : OpenClaim := { program := "ytlakmogclcpgdaa", sum := "9a2713adbf0b4140ee54ebb3e63a606555380931781dc2f0b0cc250bd5a01d62", func := "loop.example/g01256/laws.FnExactMovePlace", spec := "fnExactMovePlace", unfollowed := true, recurses := true, apart := false, narrowed := true }
def FnExactMovePlaceUptoSaid : Prop := fnExactMovePlaceUptoRow.holds Try.pinned (OpenSpec.upto fnExactMovePlaceSpec)

/-- 'laws.FnExactDropPlace', WHERE WHAT IT READS IS OF BULK AT MOST 1048576: true; the input reads as it did. -/
def fnExactDropPlaceUptoRow : OpenClaim := { program := "ytlakmogclcpgdaa", sum := "9a2713adbf0b4140ee54ebb3e63a606555380931781dc2f0b0cc250bd5a01d62", func := "loop.example/g01256/laws.FnExactDropPlace", spec := "fnExactDropPlace", unfollowed := true, recurses := true, apart := false, narrowed := true }
def FnExactDropPlaceUptoSaid : Prop := fnExactDropPlaceUptoRow.holds Try.pinned (OpenSpec.upto fnExactDropPlaceSpec)

/-- 'laws.FnExactNearestPlaces', WHERE WHAT IT READS IS OF BULK AT MOST 1048576: true; the input reads as it did. -/
def fnExactNearestPlacesUptoRow : OpenClaim := { program := "ytlakmogclcpgdaa", sum := "9a2713adbf0b4140ee54ebb3e63a606555380931781dc2f0b0cc250bd5a01d62", func := "loop.example/g01256/laws.FnExactNearestPlaces", spec := "fnExactNearestPlaces", inPlace := ["math.sqrt"], unfollowed := true, recurses := true, apart := false, narrowed := true }
def FnExactNearestPlacesUptoSaid : Prop := fnExactNearestPlacesUptoRow.holds Try.pinned (OpenSpec.upto fnExactNearestPlacesSpec)

/-- 'laws.FnExactWakeAt', WHERE WHAT IT READS IS OF BULK AT MOST 1048576: true; the input reads as it did. -/
def fnExactWakeAtUptoRow : OpenClaim := { program := "ytlakmogclcpgdaa", sum := "9a2713adbf0b4140ee54ebb3e63a606555380931781dc2f0b0cc250bd5a01d62", func := "loop.example/g01256/laws.FnExactWakeAt", spec := "fnExactWakeAt", inPlace := ["math.Float64frombits", "math.Float64bits", "math.archTrunc"], unfollowed := true, recurses := true, apart := false, narrowed := true }
def FnExactWakeAtUptoSaid : Prop := fnExactWakeAtUptoRow.holds Try.pinned (OpenSpec.upto fnExactWakeAtSpec)

/-- 'laws.FnExactLossAt', WHERE WHAT IT READS IS OF BULK AT MOST 1048576: true; the input reads as it did. -/
def fnExactLossAtUptoRow : OpenClaim := { program := "ytlakmogclcpgdaa", sum := "9a2713adbf0b4140ee54ebb3e63a606555380931781dc2f0b0cc250bd5a01d62", func := "loop.example/g01256/laws.FnExactLossAt", spec := "fnExactLossAt", inPlace := ["math.Float64frombits", "math.sqrt", "math.Float64bits", "math.archTrunc"], unfollowed := true, recurses := true, apart := false, narrowed := true }
def FnExactLossAtUptoSaid : Prop := fnExactLossAtUptoRow.holds Try.pinned (OpenSpec.upto fnExactLossAtSpec)

/-- 'laws.FnExactSpeedsInFarm', WHERE WHAT IT READS IS OF BULK AT MOST 1048576: true; the input reads as it did. -/
def fnExactSpeedsInFarmUptoRow : OpenClaim := { program := "ytlakmogclcpgdaa", sum := "9a2713adbf0b4140ee54ebb3e63a606555380931781dc2f0b0cc250bd5a01d62", func := "loop.example/g01256/laws.FnExactSpeedsInFarm", spec := "fnExactSpeedsInFarm", inPlace := ["math.Float64frombits", "math.sqrt", "math.Float64bits", "math.archTrunc"], unfollowed := true, recurses := true, apart := false, narrowed := true }
def FnExactSpeedsInFarmUptoSaid : Prop := fnExactSpeedsInFarmUptoRow.holds Try.pinned (OpenSpec.upto fnExactSpeedsInFarmSpec)

/-- 'laws.FnExactPowerInFarm', WHERE WHAT IT READS IS OF BULK AT MOST 1048576: true; the input reads as it did. -/
def fnExactPowerInFarmUptoRow : OpenClaim := { program := "ytlakmogclcpgdaa", sum := "9a2713adbf0b4140ee54ebb3e63a606555380931781dc2f0b0cc250bd5a01d62", func := "loop.example/g01256/laws.FnExactPowerInFarm", spec := "fnExactPowerInFarm", inPlace := ["math.Float64frombits", "math.sqrt", "math.Float64bits", "math.archTrunc"], unfollowed := true, recurses := true, apart := false, narrowed := true }
def FnExactPowerInFarmUptoSaid : Prop := fnExactPowerInFarmUptoRow.holds Try.pinned (OpenSpec.upto fnExactPowerInFarmSpec)

end Rows
end Go.Proofs.Ytlakmogclcpgdaa
