/-
  No cell of these rows narrows 'for every input' (looked for: loops, veiled, ifaces, maps, wideKeys, modest, calm, conditions, laid).
  DERIVED. THE GIVEN ROWS OF THIS SEAT. 19 by the template 'for every input the law returns true; each argument reads behind the call as it read before'; 0 by the template 'total and deterministic' (their statements: YtnkmdjngnmenbaaTotals.lean).
  GIVEN WITH THE SEED: the statements are not yours to turn. If you find one false, say at which input.
  Laid BY PROGRAM, IN A SANDBOX (cutbox-rows.mjs): the forced cells as the released guide's own fill.sh prints them over the translation 64bb825b2e9ca666… (all of the seat's roots in one cut). By AI agents, Wed Nov 11 2026. No macro, syntax, notation, axiom, sorry.
-/
import Derived.Test.YtnkmdjngnmenbaaChecked
import GoSem.Claim
import GoSem.ClaimJoined
import GoSem.ClaimMapViews
import Derived.JoinedTies
import Derived.KernelRfl
namespace Go.Proofs.Ytnkmdjngnmenbaa
/- THE CELL 'sum', in the pinned program and in every row, IS THE sha256 OF THE DUMP (.gsa) THAT YtnkmdjngnmenbaaProg.lean LOADS. Nothing in Lean hashes anything: it is a label: what it is worth is what the hold of that sum in a sandbox is worth. -/
noncomputable def Try.pinned : Pinned := { name := "ytnkmdjngnmenbaa", sum := "64bb825b2e9ca6665c77bbd7c233e27df14107e9526f58326f69997d53d17c2f", checked := Try.checked }
namespace Rows
def none {H : Type} : Left H := { results := [], args := [] }

/-- 'stockadelaw10.FirstRights': WHATEVER THE INPUT: true; the input reads as it did. -/
def firstRightsSpec : ChangeSpec := { name := "firstRights", fn := fun _ => fun
  | [d1, d2] => { results := [.lit (.bool true)], args := [d1, d2] }
  | _ => none }
def firstRightsRow : OpenClaim := { program := "ytnkmdjngnmenbaa", sum := "64bb825b2e9ca6665c77bbd7c233e27df14107e9526f58326f69997d53d17c2f", func := "stockade/stockadelaw10.FirstRights", spec := "firstRights", unfollowed := true, recurses := true, apart := false }
def FirstRightsSaid : Prop := firstRightsRow.holds Try.pinned (OpenSpec.ofChange firstRightsSpec)

/-- ITS FALSE NEIGHBOUR: 'it returns false'. Refute it at one input. -/
def firstRightsWrong : ChangeSpec := { name := "firstRights", fn := fun _ => fun
  | [d1, d2] => { results := [.lit (.bool false)], args := [d1, d2] }
  | _ => none }
def FirstRightsWrongFalsely : Prop := firstRightsRow.holds Try.pinned (OpenSpec.ofChange firstRightsWrong)

/-- 'stockadelaw10.FirstFinds': WHATEVER THE INPUT: true; the input reads as it did. -/
def firstFindsSpec : ChangeSpec := { name := "firstFinds", fn := fun _ => fun
  | [d1, d2] => { results := [.lit (.bool true)], args := [d1, d2] }
  | _ => none }
def firstFindsRow : OpenClaim := { program := "ytnkmdjngnmenbaa", sum := "64bb825b2e9ca6665c77bbd7c233e27df14107e9526f58326f69997d53d17c2f", func := "stockade/stockadelaw10.FirstFinds", spec := "firstFinds", unfollowed := true, recurses := true, apart := false }
def FirstFindsSaid : Prop := firstFindsRow.holds Try.pinned (OpenSpec.ofChange firstFindsSpec)

/-- ITS FALSE NEIGHBOUR: 'it returns false'. Refute it at one input. -/
def firstFindsWrong : ChangeSpec := { name := "firstFinds", fn := fun _ => fun
  | [d1, d2] => { results := [.lit (.bool false)], args := [d1, d2] }
  | _ => none }
def FirstFindsWrongFalsely : Prop := firstFindsRow.holds Try.pinned (OpenSpec.ofChange firstFindsWrong)

/-- 'stockadelaw10.FirstKeeps': WHATEVER THE INPUT: true; the input reads as it did. -/
def firstKeepsSpec : ChangeSpec := { name := "firstKeeps", fn := fun _ => fun
  | [d] => { results := [.lit (.bool true)], args := [d] }
  | _ => none }
def firstKeepsRow : OpenClaim := { program := "ytnkmdjngnmenbaa", sum := "64bb825b2e9ca6665c77bbd7c233e27df14107e9526f58326f69997d53d17c2f", func := "stockade/stockadelaw10.FirstKeeps", spec := "firstKeeps", unfollowed := true, recurses := true, apart := false }
def FirstKeepsSaid : Prop := firstKeepsRow.holds Try.pinned (OpenSpec.ofChange firstKeepsSpec)

/-- ITS FALSE NEIGHBOUR: 'it returns false'. Refute it at one input. -/
def firstKeepsWrong : ChangeSpec := { name := "firstKeeps", fn := fun _ => fun
  | [d] => { results := [.lit (.bool false)], args := [d] }
  | _ => none }
def FirstKeepsWrongFalsely : Prop := firstKeepsRow.holds Try.pinned (OpenSpec.ofChange firstKeepsWrong)

/-- 'stockadelaw10.FirstHidden': WHATEVER THE INPUT: true; the input reads as it did. -/
def firstHiddenSpec : ChangeSpec := { name := "firstHidden", fn := fun _ => fun
  | [d1, d2] => { results := [.lit (.bool true)], args := [d1, d2] }
  | _ => none }
def firstHiddenRow : OpenClaim := { program := "ytnkmdjngnmenbaa", sum := "64bb825b2e9ca6665c77bbd7c233e27df14107e9526f58326f69997d53d17c2f", func := "stockade/stockadelaw10.FirstHidden", spec := "firstHidden", unfollowed := true, recurses := true, apart := false }
def FirstHiddenSaid : Prop := firstHiddenRow.holds Try.pinned (OpenSpec.ofChange firstHiddenSpec)

/-- ITS FALSE NEIGHBOUR: 'it returns false'. Refute it at one input. -/
def firstHiddenWrong : ChangeSpec := { name := "firstHidden", fn := fun _ => fun
  | [d1, d2] => { results := [.lit (.bool false)], args := [d1, d2] }
  | _ => none }
def FirstHiddenWrongFalsely : Prop := firstHiddenRow.holds Try.pinned (OpenSpec.ofChange firstHiddenWrong)

/-- 'stockadelaw10.FirstBehind': WHATEVER THE INPUT: true; the input reads as it did. -/
def firstBehindSpec : ChangeSpec := { name := "firstBehind", fn := fun _ => fun
  | [d1, d2, d3] => { results := [.lit (.bool true)], args := [d1, d2, d3] }
  | _ => none }
def firstBehindRow : OpenClaim := { program := "ytnkmdjngnmenbaa", sum := "64bb825b2e9ca6665c77bbd7c233e27df14107e9526f58326f69997d53d17c2f", func := "stockade/stockadelaw10.FirstBehind", spec := "firstBehind", unfollowed := true, recurses := true, apart := false }
def FirstBehindSaid : Prop := firstBehindRow.holds Try.pinned (OpenSpec.ofChange firstBehindSpec)

/-- ITS FALSE NEIGHBOUR: 'it returns false'. Refute it at one input. -/
def firstBehindWrong : ChangeSpec := { name := "firstBehind", fn := fun _ => fun
  | [d1, d2, d3] => { results := [.lit (.bool false)], args := [d1, d2, d3] }
  | _ => none }
def FirstBehindWrongFalsely : Prop := firstBehindRow.holds Try.pinned (OpenSpec.ofChange firstBehindWrong)

/-- 'stockadelaw10.FirstTwo': WHATEVER THE INPUT: true; the input reads as it did. -/
def firstTwoSpec : ChangeSpec := { name := "firstTwo", fn := fun _ => fun
  | [d1, d2, d3] => { results := [.lit (.bool true)], args := [d1, d2, d3] }
  | _ => none }
def firstTwoRow : OpenClaim := { program := "ytnkmdjngnmenbaa", sum := "64bb825b2e9ca6665c77bbd7c233e27df14107e9526f58326f69997d53d17c2f", func := "stockade/stockadelaw10.FirstTwo", spec := "firstTwo", unfollowed := true, recurses := true, apart := false }
def FirstTwoSaid : Prop := firstTwoRow.holds Try.pinned (OpenSpec.ofChange firstTwoSpec)

/-- ITS FALSE NEIGHBOUR: 'it returns false'. Refute it at one input. -/
def firstTwoWrong : ChangeSpec := { name := "firstTwo", fn := fun _ => fun
  | [d1, d2, d3] => { results := [.lit (.bool false)], args := [d1, d2, d3] }
  | _ => none }
def FirstTwoWrongFalsely : Prop := firstTwoRow.holds Try.pinned (OpenSpec.ofChange firstTwoWrong)

/-- 'stockadelaw11.ChunkCuts': WHATEVER THE INPUT: true; the input reads as it did. -/
def chunkCutsSpec : ChangeSpec := { name := "chunkCuts", fn := fun _ => fun
  | [d1, d2] => { results := [.lit (.bool true)], args := [d1, d2] }
  | _ => none }
def chunkCutsRow : OpenClaim := { program := "ytnkmdjngnmenbaa", sum := "64bb825b2e9ca6665c77bbd7c233e27df14107e9526f58326f69997d53d17c2f", func := "stockade/stockadelaw11.ChunkCuts", spec := "chunkCuts", unfollowed := true, recurses := true, apart := false }
def ChunkCutsSaid : Prop := chunkCutsRow.holds Try.pinned (OpenSpec.ofChange chunkCutsSpec)

/-- ITS FALSE NEIGHBOUR: 'it returns false'. Refute it at one input. -/
def chunkCutsWrong : ChangeSpec := { name := "chunkCuts", fn := fun _ => fun
  | [d1, d2] => { results := [.lit (.bool false)], args := [d1, d2] }
  | _ => none }
def ChunkCutsWrongFalsely : Prop := chunkCutsRow.holds Try.pinned (OpenSpec.ofChange chunkCutsWrong)

/-- 'stockadelaw11.ChunkFew': WHATEVER THE INPUT: true; the input reads as it did. -/
def chunkFewSpec : ChangeSpec := { name := "chunkFew", fn := fun _ => fun
  | [d1, d2] => { results := [.lit (.bool true)], args := [d1, d2] }
  | _ => none }
def chunkFewRow : OpenClaim := { program := "ytnkmdjngnmenbaa", sum := "64bb825b2e9ca6665c77bbd7c233e27df14107e9526f58326f69997d53d17c2f", func := "stockade/stockadelaw11.ChunkFew", spec := "chunkFew", unfollowed := true, recurses := true, apart := false }
def ChunkFewSaid : Prop := chunkFewRow.holds Try.pinned (OpenSpec.ofChange chunkFewSpec)

/-- ITS FALSE NEIGHBOUR: 'it returns false'. Refute it at one input. -/
def chunkFewWrong : ChangeSpec := { name := "chunkFew", fn := fun _ => fun
  | [d1, d2] => { results := [.lit (.bool false)], args := [d1, d2] }
  | _ => none }
def ChunkFewWrongFalsely : Prop := chunkFewRow.holds Try.pinned (OpenSpec.ofChange chunkFewWrong)

/-- 'stockadelaw11.ChunkMore': WHATEVER THE INPUT: true; the input reads as it did. -/
def chunkMoreSpec : ChangeSpec := { name := "chunkMore", fn := fun _ => fun
  | [d1, d2] => { results := [.lit (.bool true)], args := [d1, d2] }
  | _ => none }
def chunkMoreRow : OpenClaim := { program := "ytnkmdjngnmenbaa", sum := "64bb825b2e9ca6665c77bbd7c233e27df14107e9526f58326f69997d53d17c2f", func := "stockade/stockadelaw11.ChunkMore", spec := "chunkMore", unfollowed := true, recurses := true, apart := false }
def ChunkMoreSaid : Prop := chunkMoreRow.holds Try.pinned (OpenSpec.ofChange chunkMoreSpec)

/-- ITS FALSE NEIGHBOUR: 'it returns false'. Refute it at one input. -/
def chunkMoreWrong : ChangeSpec := { name := "chunkMore", fn := fun _ => fun
  | [d1, d2] => { results := [.lit (.bool false)], args := [d1, d2] }
  | _ => none }
def ChunkMoreWrongFalsely : Prop := chunkMoreRow.holds Try.pinned (OpenSpec.ofChange chunkMoreWrong)

/-- 'stockadelaw11.ChunkOwn': WHATEVER THE INPUT: true; the input reads as it did. -/
def chunkOwnSpec : ChangeSpec := { name := "chunkOwn", fn := fun _ => fun
  | [d1, d2] => { results := [.lit (.bool true)], args := [d1, d2] }
  | _ => none }
def chunkOwnRow : OpenClaim := { program := "ytnkmdjngnmenbaa", sum := "64bb825b2e9ca6665c77bbd7c233e27df14107e9526f58326f69997d53d17c2f", func := "stockade/stockadelaw11.ChunkOwn", spec := "chunkOwn", unfollowed := true, recurses := true, apart := false }
def ChunkOwnSaid : Prop := chunkOwnRow.holds Try.pinned (OpenSpec.ofChange chunkOwnSpec)

/-- ITS FALSE NEIGHBOUR: 'it returns false'. Refute it at one input. -/
def chunkOwnWrong : ChangeSpec := { name := "chunkOwn", fn := fun _ => fun
  | [d1, d2] => { results := [.lit (.bool false)], args := [d1, d2] }
  | _ => none }
def ChunkOwnWrongFalsely : Prop := chunkOwnRow.holds Try.pinned (OpenSpec.ofChange chunkOwnWrong)

/-- 'stockadelaw11.ChunkSpots': WHATEVER THE INPUT: true; the input reads as it did. -/
def chunkSpotsSpec : ChangeSpec := { name := "chunkSpots", fn := fun _ => fun
  | [d1, d2] => { results := [.lit (.bool true)], args := [d1, d2] }
  | _ => none }
def chunkSpotsRow : OpenClaim := { program := "ytnkmdjngnmenbaa", sum := "64bb825b2e9ca6665c77bbd7c233e27df14107e9526f58326f69997d53d17c2f", func := "stockade/stockadelaw11.ChunkSpots", spec := "chunkSpots", unfollowed := true, recurses := true, apart := false }
def ChunkSpotsSaid : Prop := chunkSpotsRow.holds Try.pinned (OpenSpec.ofChange chunkSpotsSpec)

/-- ITS FALSE NEIGHBOUR: 'it returns false'. Refute it at one input. -/
def chunkSpotsWrong : ChangeSpec := { name := "chunkSpots", fn := fun _ => fun
  | [d1, d2] => { results := [.lit (.bool false)], args := [d1, d2] }
  | _ => none }
def ChunkSpotsWrongFalsely : Prop := chunkSpotsRow.holds Try.pinned (OpenSpec.ofChange chunkSpotsWrong)

/-- 'stockadelaw11.ChunkHolds': WHATEVER THE INPUT: true; the input reads as it did. -/
def chunkHoldsSpec : ChangeSpec := { name := "chunkHolds", fn := fun _ => fun
  | [d1, d2, d3] => { results := [.lit (.bool true)], args := [d1, d2, d3] }
  | _ => none }
def chunkHoldsRow : OpenClaim := { program := "ytnkmdjngnmenbaa", sum := "64bb825b2e9ca6665c77bbd7c233e27df14107e9526f58326f69997d53d17c2f", func := "stockade/stockadelaw11.ChunkHolds", spec := "chunkHolds", unfollowed := true, recurses := true, apart := false }
def ChunkHoldsSaid : Prop := chunkHoldsRow.holds Try.pinned (OpenSpec.ofChange chunkHoldsSpec)

/-- ITS FALSE NEIGHBOUR: 'it returns false'. Refute it at one input. -/
def chunkHoldsWrong : ChangeSpec := { name := "chunkHolds", fn := fun _ => fun
  | [d1, d2, d3] => { results := [.lit (.bool false)], args := [d1, d2, d3] }
  | _ => none }
def ChunkHoldsWrongFalsely : Prop := chunkHoldsRow.holds Try.pinned (OpenSpec.ofChange chunkHoldsWrong)

/-- 'stockadelaw11.ChunkFinds': WHATEVER THE INPUT: true; the input reads as it did. -/
def chunkFindsSpec : ChangeSpec := { name := "chunkFinds", fn := fun _ => fun
  | [d1, d2, d3] => { results := [.lit (.bool true)], args := [d1, d2, d3] }
  | _ => none }
def chunkFindsRow : OpenClaim := { program := "ytnkmdjngnmenbaa", sum := "64bb825b2e9ca6665c77bbd7c233e27df14107e9526f58326f69997d53d17c2f", func := "stockade/stockadelaw11.ChunkFinds", spec := "chunkFinds", unfollowed := true, recurses := true, apart := false }
def ChunkFindsSaid : Prop := chunkFindsRow.holds Try.pinned (OpenSpec.ofChange chunkFindsSpec)

/-- ITS FALSE NEIGHBOUR: 'it returns false'. Refute it at one input. -/
def chunkFindsWrong : ChangeSpec := { name := "chunkFinds", fn := fun _ => fun
  | [d1, d2, d3] => { results := [.lit (.bool false)], args := [d1, d2, d3] }
  | _ => none }
def ChunkFindsWrongFalsely : Prop := chunkFindsRow.holds Try.pinned (OpenSpec.ofChange chunkFindsWrong)

/-- 'stockadelaw12.RfcCompiles': WHATEVER THE INPUT: true; the input reads as it did. -/
def rfcCompilesSpec : ChangeSpec := { name := "rfcCompiles", fn := fun _ => fun
  | [d1, d2] => { results := [.lit (.bool true)], args := [d1, d2] }
  | _ => none }
def rfcCompilesRow : OpenClaim := { program := "ytnkmdjngnmenbaa", sum := "64bb825b2e9ca6665c77bbd7c233e27df14107e9526f58326f69997d53d17c2f", func := "stockade/stockadelaw12.RfcCompiles", spec := "rfcCompiles", unfollowed := true, recurses := true, apart := false }
def RfcCompilesSaid : Prop := rfcCompilesRow.holds Try.pinned (OpenSpec.ofChange rfcCompilesSpec)

/-- ITS FALSE NEIGHBOUR: 'it returns false'. Refute it at one input. -/
def rfcCompilesWrong : ChangeSpec := { name := "rfcCompiles", fn := fun _ => fun
  | [d1, d2] => { results := [.lit (.bool false)], args := [d1, d2] }
  | _ => none }
def RfcCompilesWrongFalsely : Prop := rfcCompilesRow.holds Try.pinned (OpenSpec.ofChange rfcCompilesWrong)

/-- 'stockadelaw12.RfcTakes': WHATEVER THE INPUT: true; the input reads as it did. -/
def rfcTakesSpec : ChangeSpec := { name := "rfcTakes", fn := fun _ => fun
  | [d1, d2] => { results := [.lit (.bool true)], args := [d1, d2] }
  | _ => none }
def rfcTakesRow : OpenClaim := { program := "ytnkmdjngnmenbaa", sum := "64bb825b2e9ca6665c77bbd7c233e27df14107e9526f58326f69997d53d17c2f", func := "stockade/stockadelaw12.RfcTakes", spec := "rfcTakes", unfollowed := true, recurses := true, apart := false }
def RfcTakesSaid : Prop := rfcTakesRow.holds Try.pinned (OpenSpec.ofChange rfcTakesSpec)

/-- ITS FALSE NEIGHBOUR: 'it returns false'. Refute it at one input. -/
def rfcTakesWrong : ChangeSpec := { name := "rfcTakes", fn := fun _ => fun
  | [d1, d2] => { results := [.lit (.bool false)], args := [d1, d2] }
  | _ => none }
def RfcTakesWrongFalsely : Prop := rfcTakesRow.holds Try.pinned (OpenSpec.ofChange rfcTakesWrong)

/-- 'stockadelaw12.RfcBudget': WHATEVER THE INPUT: true; the input reads as it did. -/
def rfcBudgetSpec : ChangeSpec := { name := "rfcBudget", fn := fun _ => fun
  | [d] => { results := [.lit (.bool true)], args := [d] }
  | _ => none }
def rfcBudgetRow : OpenClaim := { program := "ytnkmdjngnmenbaa", sum := "64bb825b2e9ca6665c77bbd7c233e27df14107e9526f58326f69997d53d17c2f", func := "stockade/stockadelaw12.RfcBudget", spec := "rfcBudget", unfollowed := true, recurses := true, apart := false }
def RfcBudgetSaid : Prop := rfcBudgetRow.holds Try.pinned (OpenSpec.ofChange rfcBudgetSpec)

/-- ITS FALSE NEIGHBOUR: 'it returns false'. Refute it at one input. -/
def rfcBudgetWrong : ChangeSpec := { name := "rfcBudget", fn := fun _ => fun
  | [d] => { results := [.lit (.bool false)], args := [d] }
  | _ => none }
def RfcBudgetWrongFalsely : Prop := rfcBudgetRow.holds Try.pinned (OpenSpec.ofChange rfcBudgetWrong)

/-- 'stockadelaw12.RfcHidden': WHATEVER THE INPUT: true; the input reads as it did. -/
def rfcHiddenSpec : ChangeSpec := { name := "rfcHidden", fn := fun _ => fun
  | [d1, d2] => { results := [.lit (.bool true)], args := [d1, d2] }
  | _ => none }
def rfcHiddenRow : OpenClaim := { program := "ytnkmdjngnmenbaa", sum := "64bb825b2e9ca6665c77bbd7c233e27df14107e9526f58326f69997d53d17c2f", func := "stockade/stockadelaw12.RfcHidden", spec := "rfcHidden", unfollowed := true, recurses := true, apart := false }
def RfcHiddenSaid : Prop := rfcHiddenRow.holds Try.pinned (OpenSpec.ofChange rfcHiddenSpec)

/-- ITS FALSE NEIGHBOUR: 'it returns false'. Refute it at one input. -/
def rfcHiddenWrong : ChangeSpec := { name := "rfcHidden", fn := fun _ => fun
  | [d1, d2] => { results := [.lit (.bool false)], args := [d1, d2] }
  | _ => none }
def RfcHiddenWrongFalsely : Prop := rfcHiddenRow.holds Try.pinned (OpenSpec.ofChange rfcHiddenWrong)

/-- 'stockadelaw12.RfcOwn': WHATEVER THE INPUT: true; the input reads as it did. -/
def rfcOwnSpec : ChangeSpec := { name := "rfcOwn", fn := fun _ => fun
  | [d] => { results := [.lit (.bool true)], args := [d] }
  | _ => none }
def rfcOwnRow : OpenClaim := { program := "ytnkmdjngnmenbaa", sum := "64bb825b2e9ca6665c77bbd7c233e27df14107e9526f58326f69997d53d17c2f", func := "stockade/stockadelaw12.RfcOwn", spec := "rfcOwn", unfollowed := true, recurses := true, apart := false }
def RfcOwnSaid : Prop := rfcOwnRow.holds Try.pinned (OpenSpec.ofChange rfcOwnSpec)

/-- ITS FALSE NEIGHBOUR: 'it returns false'. Refute it at one input. -/
def rfcOwnWrong : ChangeSpec := { name := "rfcOwn", fn := fun _ => fun
  | [d] => { results := [.lit (.bool false)], args := [d] }
  | _ => none }
def RfcOwnWrongFalsely : Prop := rfcOwnRow.holds Try.pinned (OpenSpec.ofChange rfcOwnWrong)

/-- 'stockadelaw12.RfcCosts': WHATEVER THE INPUT: true; the input reads as it did. -/
def rfcCostsSpec : ChangeSpec := { name := "rfcCosts", fn := fun _ => fun
  | [d1, d2] => { results := [.lit (.bool true)], args := [d1, d2] }
  | _ => none }
def rfcCostsRow : OpenClaim := { program := "ytnkmdjngnmenbaa", sum := "64bb825b2e9ca6665c77bbd7c233e27df14107e9526f58326f69997d53d17c2f", func := "stockade/stockadelaw12.RfcCosts", spec := "rfcCosts", unfollowed := true, recurses := true, apart := false }
def RfcCostsSaid : Prop := rfcCostsRow.holds Try.pinned (OpenSpec.ofChange rfcCostsSpec)

/-- ITS FALSE NEIGHBOUR: 'it returns false'. Refute it at one input. -/
def rfcCostsWrong : ChangeSpec := { name := "rfcCosts", fn := fun _ => fun
  | [d1, d2] => { results := [.lit (.bool false)], args := [d1, d2] }
  | _ => none }
def RfcCostsWrongFalsely : Prop := rfcCostsRow.holds Try.pinned (OpenSpec.ofChange rfcCostsWrong)

/- THE SECOND FORM. 'bulk': how many values and letters a reading holds, each counted each time it is reached (what is shared counts as often as it is met; a slice's spare places count too). A statement '..UptoSaid' is the law's where the arguments, and the package variables that the reading takes, are together of bulk at most 1048576: NARROWER than '..Said'. Prove '..Said' where nothing that the law and all that it calls make is longer than what came in: it says more and counts as full. Else prove '..UptoSaid'. A law counts once. -/
mutual
def uptoBulk {H : Type} : DataW H → Nat
  | .lit (.string bytes) => bytes.length + 1
  | .lit _ => 1
  | .nil => 1
  | .ptr d => uptoBulk d + 1
  | .slice elems spare => uptoBulkAll elems + uptoBulkAll spare + 1
  | .agg parts => uptoBulkAll parts + 1
  | .iface _ d => uptoBulk d + 1
  | .map entries => uptoBulkEntries entries + 1
  | .held _ => 1
def uptoBulkAll {H : Type} : List (DataW H) → Nat
  | [] => 0
  | d :: r => uptoBulk d + uptoBulkAll r
def uptoBulkEntries {H : Type} : List (Lit × DataW H) → Nat
  | [] => 0
  | x :: r => uptoBulkEntry x + uptoBulkEntries r
def uptoBulkEntry {H : Type} : Lit × DataW H → Nat
  | (.string bytes, d) => bytes.length + uptoBulk d + 1
  | (_, d) => uptoBulk d + 1
 end
def uptoSmall : (H : Type) → List (DataW H) → Bool := fun _ ds => decide (uptoBulkAll ds ≤ 1048576)
def OpenSpec.upto (s : _root_.Go.ChangeSpec) : _root_.Go.OpenSpec := { _root_.Go.OpenSpec.ofChange s with cond := some uptoSmall }

/-- 'stockadelaw10.FirstRights', WHERE WHAT IT READS IS OF BULK AT MOST 1048576: true; the input reads as it did. -/
def firstRightsUptoRow : OpenClaim := { program := "ytnkmdjngnmenbaa", sum := "64bb825b2e9ca6665c77bbd7c233e27df14107e9526f58326f69997d53d17c2f", func := "stockade/stockadelaw10.FirstRights", spec := "firstRights", unfollowed := true, recurses := true, apart := false, narrowed := true }
def FirstRightsUptoSaid : Prop := firstRightsUptoRow.holds Try.pinned (OpenSpec.upto firstRightsSpec)

/-- 'stockadelaw10.FirstFinds', WHERE WHAT IT READS IS OF BULK AT MOST 1048576: true; the input reads as it did. -/
def firstFindsUptoRow : OpenClaim := { program := "ytnkmdjngnmenbaa", sum := "64bb825b2e9ca6665c77bbd7c233e27df14107e9526f58326f69997d53d17c2f", func := "stockade/stockadelaw10.FirstFinds", spec := "firstFinds", unfollowed := true, recurses := true, apart := false, narrowed := true }
def FirstFindsUptoSaid : Prop := firstFindsUptoRow.holds Try.pinned (OpenSpec.upto firstFindsSpec)

/-- 'stockadelaw10.FirstKeeps', WHERE WHAT IT READS IS OF BULK AT MOST 1048576: true; the input reads as it did. -/
def firstKeepsUptoRow : OpenClaim := { program := "ytnkmdjngnmenbaa", sum := "64bb825b2e9ca6665c77bbd7c233e27df14107e9526f58326f69997d53d17c2f", func := "stockade/stockadelaw10.FirstKeeps", spec := "firstKeeps", unfollowed := true, recurses := true, apart := false, narrowed := true }
def FirstKeepsUptoSaid : Prop := firstKeepsUptoRow.holds Try.pinned (OpenSpec.upto firstKeepsSpec)

/-- 'stockadelaw10.FirstHidden', WHERE WHAT IT READS IS OF BULK AT MOST 1048576: true; the input reads as it did. -/
def firstHiddenUptoRow : OpenClaim := { program := "ytnkmdjngnmenbaa", sum := "64bb825b2e9ca6665c77bbd7c233e27df14107e9526f58326f69997d53d17c2f", func := "stockade/stockadelaw10.FirstHidden", spec := "firstHidden", unfollowed := true, recurses := true, apart := false, narrowed := true }
def FirstHiddenUptoSaid : Prop := firstHiddenUptoRow.holds Try.pinned (OpenSpec.upto firstHiddenSpec)

/-- 'stockadelaw10.FirstBehind', WHERE WHAT IT READS IS OF BULK AT MOST 1048576: true; the input reads as it did. -/
def firstBehindUptoRow : OpenClaim := { program := "ytnkmdjngnmenbaa", sum := "64bb825b2e9ca6665c77bbd7c233e27df14107e9526f58326f69997d53d17c2f", func := "stockade/stockadelaw10.FirstBehind", spec := "firstBehind", unfollowed := true, recurses := true, apart := false, narrowed := true }
def FirstBehindUptoSaid : Prop := firstBehindUptoRow.holds Try.pinned (OpenSpec.upto firstBehindSpec)

/-- 'stockadelaw10.FirstTwo', WHERE WHAT IT READS IS OF BULK AT MOST 1048576: true; the input reads as it did. -/
def firstTwoUptoRow : OpenClaim := { program := "ytnkmdjngnmenbaa", sum := "64bb825b2e9ca6665c77bbd7c233e27df14107e9526f58326f69997d53d17c2f", func := "stockade/stockadelaw10.FirstTwo", spec := "firstTwo", unfollowed := true, recurses := true, apart := false, narrowed := true }
def FirstTwoUptoSaid : Prop := firstTwoUptoRow.holds Try.pinned (OpenSpec.upto firstTwoSpec)

/-- 'stockadelaw11.ChunkCuts', WHERE WHAT IT READS IS OF BULK AT MOST 1048576: true; the input reads as it did. -/
def chunkCutsUptoRow : OpenClaim := { program := "ytnkmdjngnmenbaa", sum := "64bb825b2e9ca6665c77bbd7c233e27df14107e9526f58326f69997d53d17c2f", func := "stockade/stockadelaw11.ChunkCuts", spec := "chunkCuts", unfollowed := true, recurses := true, apart := false, narrowed := true }
def ChunkCutsUptoSaid : Prop := chunkCutsUptoRow.holds Try.pinned (OpenSpec.upto chunkCutsSpec)

/-- 'stockadelaw11.ChunkFew', WHERE WHAT IT READS IS OF BULK AT MOST 1048576: true; the input reads as it did. -/
def chunkFewUptoRow : OpenClaim := { program := "ytnkmdjngnmenbaa", sum := "64bb825b2e9ca6665c77bbd7c233e27df14107e9526f58326f69997d53d17c2f", func := "stockade/stockadelaw11.ChunkFew", spec := "chunkFew", unfollowed := true, recurses := true, apart := false, narrowed := true }
def ChunkFewUptoSaid : Prop := chunkFewUptoRow.holds Try.pinned (OpenSpec.upto chunkFewSpec)

/-- 'stockadelaw11.ChunkMore', WHERE WHAT IT READS IS OF BULK AT MOST 1048576: true; the input reads as it did. -/
def chunkMoreUptoRow : OpenClaim := { program := "ytnkmdjngnmenbaa", sum := "64bb825b2e9ca6665c77bbd7c233e27df14107e9526f58326f69997d53d17c2f", func := "stockade/stockadelaw11.ChunkMore", spec := "chunkMore", unfollowed := true, recurses := true, apart := false, narrowed := true }
def ChunkMoreUptoSaid : Prop := chunkMoreUptoRow.holds Try.pinned (OpenSpec.upto chunkMoreSpec)

/-- 'stockadelaw11.ChunkOwn', WHERE WHAT IT READS IS OF BULK AT MOST 1048576: true; the input reads as it did. -/
def chunkOwnUptoRow : OpenClaim := { program := "ytnkmdjngnmenbaa", sum := "64bb825b2e9ca6665c77bbd7c233e27df14107e9526f58326f69997d53d17c2f", func := "stockade/stockadelaw11.ChunkOwn", spec := "chunkOwn", unfollowed := true, recurses := true, apart := false, narrowed := true }
def ChunkOwnUptoSaid : Prop := chunkOwnUptoRow.holds Try.pinned (OpenSpec.upto chunkOwnSpec)

/-- 'stockadelaw11.ChunkSpots', WHERE WHAT IT READS IS OF BULK AT MOST 1048576: true; the input reads as it did. -/
def chunkSpotsUptoRow : OpenClaim := { program := "ytnkmdjngnmenbaa", sum := "64bb825b2e9ca6665c77bbd7c233e27df14107e9526f58326f69997d53d17c2f", func := "stockade/stockadelaw11.ChunkSpots", spec := "chunkSpots", unfollowed := true, recurses := true, apart := false, narrowed := true }
def ChunkSpotsUptoSaid : Prop := chunkSpotsUptoRow.holds Try.pinned (OpenSpec.upto chunkSpotsSpec)

/-- 'stockadelaw11.ChunkHolds', WHERE WHAT IT READS IS OF BULK AT MOST 1048576: true; the input reads as it did. -/
def chunkHoldsUptoRow : OpenClaim := { program := "ytnkmdjngnmenbaa", sum := "64bb825b2e9ca6665c77bbd7c233e27df14107e9526f58326f69997d53d17c2f", func := "stockade/stockadelaw11.ChunkHolds", spec := "chunkHolds", unfollowed := true, recurses := true, apart := false, narrowed := true }
def ChunkHoldsUptoSaid : Prop := chunkHoldsUptoRow.holds Try.pinned (OpenSpec.upto chunkHoldsSpec)

/-- 'stockadelaw11.ChunkFinds', WHERE WHAT IT READS IS OF BULK AT MOST 1048576: true; the input reads as it did. -/
def chunkFindsUptoRow : OpenClaim := { program := "ytnkmdjngnmenbaa", sum := "64bb825b2e9ca6665c77bbd7c233e27df14107e9526f58326f69997d53d17c2f", func := "stockade/stockadelaw11.ChunkFinds", spec := "chunkFinds", unfollowed := true, recurses := true, apart := false, narrowed := true }
def ChunkFindsUptoSaid : Prop := chunkFindsUptoRow.holds Try.pinned (OpenSpec.upto chunkFindsSpec)

/-- 'stockadelaw12.RfcCompiles', WHERE WHAT IT READS IS OF BULK AT MOST 1048576: true; the input reads as it did. -/
def rfcCompilesUptoRow : OpenClaim := { program := "ytnkmdjngnmenbaa", sum := "64bb825b2e9ca6665c77bbd7c233e27df14107e9526f58326f69997d53d17c2f", func := "stockade/stockadelaw12.RfcCompiles", spec := "rfcCompiles", unfollowed := true, recurses := true, apart := false, narrowed := true }
def RfcCompilesUptoSaid : Prop := rfcCompilesUptoRow.holds Try.pinned (OpenSpec.upto rfcCompilesSpec)

/-- 'stockadelaw12.RfcTakes', WHERE WHAT IT READS IS OF BULK AT MOST 1048576: true; the input reads as it did. -/
def rfcTakesUptoRow : OpenClaim := { program := "ytnkmdjngnmenbaa", sum := "64bb825b2e9ca6665c77bbd7c233e27df14107e9526f58326f69997d53d17c2f", func := "stockade/stockadelaw12.RfcTakes", spec := "rfcTakes", unfollowed := true, recurses := true, apart := false, narrowed := true }
def RfcTakesUptoSaid : Prop := rfcTakesUptoRow.holds Try.pinned (OpenSpec.upto rfcTakesSpec)

/-- 'stockadelaw12.RfcBudget', WHERE WHAT IT READS IS OF BULK AT MOST 1048576: true; the input reads as it did. -/
def rfcBudgetUptoRow : OpenClaim := { program := "ytnkmdjngnmenbaa", sum := "64bb825b2e9ca6665c77bbd7c233e27df14107e9526f58326f69997d53d17c2f", func := "stockade/stockadelaw12.RfcBudget", spec := "rfcBudget", unfollowed := true, recurses := true, apart := false, narrowed := true }
def RfcBudgetUptoSaid : Prop := rfcBudgetUptoRow.holds Try.pinned (OpenSpec.upto rfcBudgetSpec)

/-- 'stockadelaw12.RfcHidden', WHERE WHAT IT READS IS OF BULK AT MOST 1048576: true; the input reads as it did. -/
def rfcHiddenUptoRow : OpenClaim := { program := "ytnkmdjngnmenbaa", sum := "64bb825b2e9ca6665c77bbd7c233e27df14107e9526f58326f69997d53d17c2f", func := "stockade/stockadelaw12.RfcHidden", spec := "rfcHidden", unfollowed := true, recurses := true, apart := false, narrowed := true }
def RfcHiddenUptoSaid : Prop := rfcHiddenUptoRow.holds Try.pinned (OpenSpec.upto rfcHiddenSpec)

/-- 'stockadelaw12.RfcOwn', WHERE WHAT IT READS IS OF BULK AT MOST 1048576: true; the input reads as it did. -/
def rfcOwnUptoRow : OpenClaim := { program := "ytnkmdjngnmenbaa", sum := "64bb825b2e9ca6665c77bbd7c233e27df14107e9526f58326f69997d53d17c2f", func := "stockade/stockadelaw12.RfcOwn", spec := "rfcOwn", unfollowed := true, recurses := true, apart := false, narrowed := true }
def RfcOwnUptoSaid : Prop := rfcOwnUptoRow.holds Try.pinned (OpenSpec.upto rfcOwnSpec)

/-- 'stockadelaw12.RfcCosts', WHERE WHAT IT READS IS OF BULK AT MOST 1048576: true; the input reads as it did. -/
def rfcCostsUptoRow : OpenClaim := { program := "ytnkmdjngnmenbaa", sum := "64bb825b2e9ca6665c77bbd7c233e27df14107e9526f58326f69997d53d17c2f", func := "stockade/stockadelaw12.RfcCosts", spec := "rfcCosts", unfollowed := true, recurses := true, apart := false, narrowed := true }
def RfcCostsUptoSaid : Prop := rfcCostsUptoRow.holds Try.pinned (OpenSpec.upto rfcCostsSpec)

end Rows
end Go.Proofs.Ytnkmdjngnmenbaa
