/-
  No cell of these rows narrows 'for every input' (looked for: loops, veiled, ifaces, maps, wideKeys, modest, calm, conditions, laid).
  DERIVED. THE GIVEN ROWS OF THIS SEAT. 25 by the template 'for every input the law returns true; each argument reads behind the call as it read before'; 0 by the template 'total and deterministic' (their statements: YteljeekapcenlaaTotals.lean).
  GIVEN WITH THE SEED: the statements are not yours to turn. If you find one false, say at which input.
  Laid BY PROGRAM, IN A SANDBOX (cutbox-rows.mjs): the forced cells as the released guide's own fill.sh prints them over the translation 80ebbb56691a096b… (all of the seat's roots in one cut). By AI agents, Wed Nov 11 2026. No macro, syntax, notation, axiom, sorry.
-/
import Derived.Test.YteljeekapcenlaaChecked
import GoSem.Claim
import GoSem.ClaimJoined
import GoSem.ClaimMapViews
import Derived.JoinedTies
import Derived.KernelRfl
namespace Go.Proofs.Yteljeekapcenlaa
/- THE CELL 'sum', in the pinned program and in every row, IS THE sha256 OF THE DUMP (.gsa) THAT YteljeekapcenlaaProg.lean LOADS. Nothing in Lean hashes anything: it is a label: what it is worth is what the hold of that sum in a sandbox is worth. -/
noncomputable def Try.pinned : Pinned := { name := "yteljeekapcenlaa", sum := "80ebbb56691a096bf0d581b84643bcd1e9695f7c0e4750968e30b42541589e84", checked := Try.checked }
namespace Rows
def none {H : Type} : Left H := { results := [], args := [] }

/-- 'stockadelaw15.TcpBegins': WHATEVER THE INPUT: true; the input reads as it did. -/
def tcpBeginsSpec : ChangeSpec := { name := "tcpBegins", fn := fun _ => fun
  | [d] => { results := [.lit (.bool true)], args := [d] }
  | _ => none }
def tcpBeginsRow : OpenClaim := { program := "yteljeekapcenlaa", sum := "80ebbb56691a096bf0d581b84643bcd1e9695f7c0e4750968e30b42541589e84", func := "stockade/stockadelaw15.TcpBegins", spec := "tcpBegins", plainKeys := false, apart := false }
def TcpBeginsSaid : Prop := tcpBeginsRow.holds Try.pinned (OpenSpec.ofChange tcpBeginsSpec)

/-- ITS FALSE NEIGHBOUR: 'it returns false'. Refute it at one input. -/
def tcpBeginsWrong : ChangeSpec := { name := "tcpBegins", fn := fun _ => fun
  | [d] => { results := [.lit (.bool false)], args := [d] }
  | _ => none }
def TcpBeginsWrongFalsely : Prop := tcpBeginsRow.holds Try.pinned (OpenSpec.ofChange tcpBeginsWrong)

/-- 'stockadelaw15.TcpRights': WHATEVER THE INPUT: true; the input reads as it did. -/
def tcpRightsSpec : ChangeSpec := { name := "tcpRights", fn := fun _ => fun
  | [d] => { results := [.lit (.bool true)], args := [d] }
  | _ => none }
def tcpRightsRow : OpenClaim := { program := "yteljeekapcenlaa", sum := "80ebbb56691a096bf0d581b84643bcd1e9695f7c0e4750968e30b42541589e84", func := "stockade/stockadelaw15.TcpRights", spec := "tcpRights", plainKeys := false, apart := false }
def TcpRightsSaid : Prop := tcpRightsRow.holds Try.pinned (OpenSpec.ofChange tcpRightsSpec)

/-- ITS FALSE NEIGHBOUR: 'it returns false'. Refute it at one input. -/
def tcpRightsWrong : ChangeSpec := { name := "tcpRights", fn := fun _ => fun
  | [d] => { results := [.lit (.bool false)], args := [d] }
  | _ => none }
def TcpRightsWrongFalsely : Prop := tcpRightsRow.holds Try.pinned (OpenSpec.ofChange tcpRightsWrong)

/-- 'stockadelaw15.TcpSteps': WHATEVER THE INPUT: true; the input reads as it did. -/
def tcpStepsSpec : ChangeSpec := { name := "tcpSteps", fn := fun _ => fun
  | [d1, d2, d3] => { results := [.lit (.bool true)], args := [d1, d2, d3] }
  | _ => none }
def tcpStepsRow : OpenClaim := { program := "yteljeekapcenlaa", sum := "80ebbb56691a096bf0d581b84643bcd1e9695f7c0e4750968e30b42541589e84", func := "stockade/stockadelaw15.TcpSteps", spec := "tcpSteps", plainKeys := false, apart := false }
def TcpStepsSaid : Prop := tcpStepsRow.holds Try.pinned (OpenSpec.ofChange tcpStepsSpec)

/-- ITS FALSE NEIGHBOUR: 'it returns false'. Refute it at one input. -/
def tcpStepsWrong : ChangeSpec := { name := "tcpSteps", fn := fun _ => fun
  | [d1, d2, d3] => { results := [.lit (.bool false)], args := [d1, d2, d3] }
  | _ => none }
def TcpStepsWrongFalsely : Prop := tcpStepsRow.holds Try.pinned (OpenSpec.ofChange tcpStepsWrong)

/-- 'stockadelaw15.TcpRuns': WHATEVER THE INPUT: true; the input reads as it did. -/
def tcpRunsSpec : ChangeSpec := { name := "tcpRuns", fn := fun _ => fun
  | [d1, d2, d3] => { results := [.lit (.bool true)], args := [d1, d2, d3] }
  | _ => none }
def tcpRunsRow : OpenClaim := { program := "yteljeekapcenlaa", sum := "80ebbb56691a096bf0d581b84643bcd1e9695f7c0e4750968e30b42541589e84", func := "stockade/stockadelaw15.TcpRuns", spec := "tcpRuns", plainKeys := false, apart := false }
def TcpRunsSaid : Prop := tcpRunsRow.holds Try.pinned (OpenSpec.ofChange tcpRunsSpec)

/-- ITS FALSE NEIGHBOUR: 'it returns false'. Refute it at one input. -/
def tcpRunsWrong : ChangeSpec := { name := "tcpRuns", fn := fun _ => fun
  | [d1, d2, d3] => { results := [.lit (.bool false)], args := [d1, d2, d3] }
  | _ => none }
def TcpRunsWrongFalsely : Prop := tcpRunsRow.holds Try.pinned (OpenSpec.ofChange tcpRunsWrong)

/-- 'stockadelaw15.TcpTalks': WHATEVER THE INPUT: true; the input reads as it did. -/
def tcpTalksSpec : ChangeSpec := { name := "tcpTalks", fn := fun _ => fun
  | [d1, d2, d3] => { results := [.lit (.bool true)], args := [d1, d2, d3] }
  | _ => none }
def tcpTalksRow : OpenClaim := { program := "yteljeekapcenlaa", sum := "80ebbb56691a096bf0d581b84643bcd1e9695f7c0e4750968e30b42541589e84", func := "stockade/stockadelaw15.TcpTalks", spec := "tcpTalks", plainKeys := false, apart := false }
def TcpTalksSaid : Prop := tcpTalksRow.holds Try.pinned (OpenSpec.ofChange tcpTalksSpec)

/-- ITS FALSE NEIGHBOUR: 'it returns false'. Refute it at one input. -/
def tcpTalksWrong : ChangeSpec := { name := "tcpTalks", fn := fun _ => fun
  | [d1, d2, d3] => { results := [.lit (.bool false)], args := [d1, d2, d3] }
  | _ => none }
def TcpTalksWrongFalsely : Prop := tcpTalksRow.holds Try.pinned (OpenSpec.ofChange tcpTalksWrong)

/-- 'stockadelaw15.TcpMoved': WHATEVER THE INPUT: true; the input reads as it did. -/
def tcpMovedSpec : ChangeSpec := { name := "tcpMoved", fn := fun _ => fun
  | [d1, d2, d3] => { results := [.lit (.bool true)], args := [d1, d2, d3] }
  | _ => none }
def tcpMovedRow : OpenClaim := { program := "yteljeekapcenlaa", sum := "80ebbb56691a096bf0d581b84643bcd1e9695f7c0e4750968e30b42541589e84", func := "stockade/stockadelaw15.TcpMoved", spec := "tcpMoved", plainKeys := false, apart := false }
def TcpMovedSaid : Prop := tcpMovedRow.holds Try.pinned (OpenSpec.ofChange tcpMovedSpec)

/-- ITS FALSE NEIGHBOUR: 'it returns false'. Refute it at one input. -/
def tcpMovedWrong : ChangeSpec := { name := "tcpMoved", fn := fun _ => fun
  | [d1, d2, d3] => { results := [.lit (.bool false)], args := [d1, d2, d3] }
  | _ => none }
def TcpMovedWrongFalsely : Prop := tcpMovedRow.holds Try.pinned (OpenSpec.ofChange tcpMovedWrong)

/-- 'stockadelaw15.TcpStrays': WHATEVER THE INPUT: true; the input reads as it did. -/
def tcpStraysSpec : ChangeSpec := { name := "tcpStrays", fn := fun _ => fun
  | [d1, d2] => { results := [.lit (.bool true)], args := [d1, d2] }
  | _ => none }
def tcpStraysRow : OpenClaim := { program := "yteljeekapcenlaa", sum := "80ebbb56691a096bf0d581b84643bcd1e9695f7c0e4750968e30b42541589e84", func := "stockade/stockadelaw15.TcpStrays", spec := "tcpStrays", plainKeys := false, apart := false }
def TcpStraysSaid : Prop := tcpStraysRow.holds Try.pinned (OpenSpec.ofChange tcpStraysSpec)

/-- ITS FALSE NEIGHBOUR: 'it returns false'. Refute it at one input. -/
def tcpStraysWrong : ChangeSpec := { name := "tcpStrays", fn := fun _ => fun
  | [d1, d2] => { results := [.lit (.bool false)], args := [d1, d2] }
  | _ => none }
def TcpStraysWrongFalsely : Prop := tcpStraysRow.holds Try.pinned (OpenSpec.ofChange tcpStraysWrong)

/-- 'stockadelaw16.FlowRights': WHATEVER THE INPUT: true; the input reads as it did. -/
def flowRightsSpec : ChangeSpec := { name := "flowRights", fn := fun _ => fun
  | [d1, d2, d3] => { results := [.lit (.bool true)], args := [d1, d2, d3] }
  | _ => none }
def flowRightsRow : OpenClaim := { program := "yteljeekapcenlaa", sum := "80ebbb56691a096bf0d581b84643bcd1e9695f7c0e4750968e30b42541589e84", func := "stockade/stockadelaw16.FlowRights", spec := "flowRights", plainKeys := false, apart := false }
def FlowRightsSaid : Prop := flowRightsRow.holds Try.pinned (OpenSpec.ofChange flowRightsSpec)

/-- ITS FALSE NEIGHBOUR: 'it returns false'. Refute it at one input. -/
def flowRightsWrong : ChangeSpec := { name := "flowRights", fn := fun _ => fun
  | [d1, d2, d3] => { results := [.lit (.bool false)], args := [d1, d2, d3] }
  | _ => none }
def FlowRightsWrongFalsely : Prop := flowRightsRow.holds Try.pinned (OpenSpec.ofChange flowRightsWrong)

/-- 'stockadelaw16.FlowGoes': WHATEVER THE INPUT: true; the input reads as it did. -/
def flowGoesSpec : ChangeSpec := { name := "flowGoes", fn := fun _ => fun
  | [d1, d2, d3] => { results := [.lit (.bool true)], args := [d1, d2, d3] }
  | _ => none }
def flowGoesRow : OpenClaim := { program := "yteljeekapcenlaa", sum := "80ebbb56691a096bf0d581b84643bcd1e9695f7c0e4750968e30b42541589e84", func := "stockade/stockadelaw16.FlowGoes", spec := "flowGoes", plainKeys := false, apart := false }
def FlowGoesSaid : Prop := flowGoesRow.holds Try.pinned (OpenSpec.ofChange flowGoesSpec)

/-- ITS FALSE NEIGHBOUR: 'it returns false'. Refute it at one input. -/
def flowGoesWrong : ChangeSpec := { name := "flowGoes", fn := fun _ => fun
  | [d1, d2, d3] => { results := [.lit (.bool false)], args := [d1, d2, d3] }
  | _ => none }
def FlowGoesWrongFalsely : Prop := flowGoesRow.holds Try.pinned (OpenSpec.ofChange flowGoesWrong)

/-- 'stockadelaw16.FlowMakes': WHATEVER THE INPUT: true; the input reads as it did. -/
def flowMakesSpec : ChangeSpec := { name := "flowMakes", fn := fun _ => fun
  | [d1, d2, d3] => { results := [.lit (.bool true)], args := [d1, d2, d3] }
  | _ => none }
def flowMakesRow : OpenClaim := { program := "yteljeekapcenlaa", sum := "80ebbb56691a096bf0d581b84643bcd1e9695f7c0e4750968e30b42541589e84", func := "stockade/stockadelaw16.FlowMakes", spec := "flowMakes", plainKeys := false, apart := false }
def FlowMakesSaid : Prop := flowMakesRow.holds Try.pinned (OpenSpec.ofChange flowMakesSpec)

/-- ITS FALSE NEIGHBOUR: 'it returns false'. Refute it at one input. -/
def flowMakesWrong : ChangeSpec := { name := "flowMakes", fn := fun _ => fun
  | [d1, d2, d3] => { results := [.lit (.bool false)], args := [d1, d2, d3] }
  | _ => none }
def FlowMakesWrongFalsely : Prop := flowMakesRow.holds Try.pinned (OpenSpec.ofChange flowMakesWrong)

/-- 'stockadelaw16.FlowSides': WHATEVER THE INPUT: true; the input reads as it did. -/
def flowSidesSpec : ChangeSpec := { name := "flowSides", fn := fun _ => fun
  | [d1, d2, d3] => { results := [.lit (.bool true)], args := [d1, d2, d3] }
  | _ => none }
def flowSidesRow : OpenClaim := { program := "yteljeekapcenlaa", sum := "80ebbb56691a096bf0d581b84643bcd1e9695f7c0e4750968e30b42541589e84", func := "stockade/stockadelaw16.FlowSides", spec := "flowSides", unfollowed := true, recurses := true, plainKeys := false, apart := false }
def FlowSidesSaid : Prop := flowSidesRow.holds Try.pinned (OpenSpec.ofChange flowSidesSpec)

/-- ITS FALSE NEIGHBOUR: 'it returns false'. Refute it at one input. -/
def flowSidesWrong : ChangeSpec := { name := "flowSides", fn := fun _ => fun
  | [d1, d2, d3] => { results := [.lit (.bool false)], args := [d1, d2, d3] }
  | _ => none }
def FlowSidesWrongFalsely : Prop := flowSidesRow.holds Try.pinned (OpenSpec.ofChange flowSidesWrong)

/-- 'stockadelaw16.FlowBounds': WHATEVER THE INPUT: true; the input reads as it did. -/
def flowBoundsSpec : ChangeSpec := { name := "flowBounds", fn := fun _ => fun
  | [d1, d2] => { results := [.lit (.bool true)], args := [d1, d2] }
  | _ => none }
def flowBoundsRow : OpenClaim := { program := "yteljeekapcenlaa", sum := "80ebbb56691a096bf0d581b84643bcd1e9695f7c0e4750968e30b42541589e84", func := "stockade/stockadelaw16.FlowBounds", spec := "flowBounds", unfollowed := true, recurses := true, plainKeys := false, apart := false }
def FlowBoundsSaid : Prop := flowBoundsRow.holds Try.pinned (OpenSpec.ofChange flowBoundsSpec)

/-- ITS FALSE NEIGHBOUR: 'it returns false'. Refute it at one input. -/
def flowBoundsWrong : ChangeSpec := { name := "flowBounds", fn := fun _ => fun
  | [d1, d2] => { results := [.lit (.bool false)], args := [d1, d2] }
  | _ => none }
def FlowBoundsWrongFalsely : Prop := flowBoundsRow.holds Try.pinned (OpenSpec.ofChange flowBoundsWrong)

/-- 'stockadelaw16.FlowNobody': WHATEVER THE INPUT: true; the input reads as it did. -/
def flowNobodySpec : ChangeSpec := { name := "flowNobody", fn := fun _ => fun
  | [d1, d2] => { results := [.lit (.bool true)], args := [d1, d2] }
  | _ => none }
def flowNobodyRow : OpenClaim := { program := "yteljeekapcenlaa", sum := "80ebbb56691a096bf0d581b84643bcd1e9695f7c0e4750968e30b42541589e84", func := "stockade/stockadelaw16.FlowNobody", spec := "flowNobody", unfollowed := true, recurses := true, plainKeys := false, apart := false }
def FlowNobodySaid : Prop := flowNobodyRow.holds Try.pinned (OpenSpec.ofChange flowNobodySpec)

/-- ITS FALSE NEIGHBOUR: 'it returns false'. Refute it at one input. -/
def flowNobodyWrong : ChangeSpec := { name := "flowNobody", fn := fun _ => fun
  | [d1, d2] => { results := [.lit (.bool false)], args := [d1, d2] }
  | _ => none }
def FlowNobodyWrongFalsely : Prop := flowNobodyRow.holds Try.pinned (OpenSpec.ofChange flowNobodyWrong)

/-- 'stockadelaw16.FlowPlays': WHATEVER THE INPUT: true; the input reads as it did. -/
def flowPlaysSpec : ChangeSpec := { name := "flowPlays", fn := fun _ => fun
  | [d1, d2] => { results := [.lit (.bool true)], args := [d1, d2] }
  | _ => none }
def flowPlaysRow : OpenClaim := { program := "yteljeekapcenlaa", sum := "80ebbb56691a096bf0d581b84643bcd1e9695f7c0e4750968e30b42541589e84", func := "stockade/stockadelaw16.FlowPlays", spec := "flowPlays", unfollowed := true, recurses := true, plainKeys := false, apart := false }
def FlowPlaysSaid : Prop := flowPlaysRow.holds Try.pinned (OpenSpec.ofChange flowPlaysSpec)

/-- ITS FALSE NEIGHBOUR: 'it returns false'. Refute it at one input. -/
def flowPlaysWrong : ChangeSpec := { name := "flowPlays", fn := fun _ => fun
  | [d1, d2] => { results := [.lit (.bool false)], args := [d1, d2] }
  | _ => none }
def FlowPlaysWrongFalsely : Prop := flowPlaysRow.holds Try.pinned (OpenSpec.ofChange flowPlaysWrong)

/-- 'stockadelaw17.ExpectRights': WHATEVER THE INPUT: true; the input reads as it did. -/
def expectRightsSpec : ChangeSpec := { name := "expectRights", fn := fun _ => fun
  | [d1, d2] => { results := [.lit (.bool true)], args := [d1, d2] }
  | _ => none }
def expectRightsRow : OpenClaim := { program := "yteljeekapcenlaa", sum := "80ebbb56691a096bf0d581b84643bcd1e9695f7c0e4750968e30b42541589e84", func := "stockade/stockadelaw17.ExpectRights", spec := "expectRights", unfollowed := true, recurses := true, plainKeys := false, apart := false }
def ExpectRightsSaid : Prop := expectRightsRow.holds Try.pinned (OpenSpec.ofChange expectRightsSpec)

/-- ITS FALSE NEIGHBOUR: 'it returns false'. Refute it at one input. -/
def expectRightsWrong : ChangeSpec := { name := "expectRights", fn := fun _ => fun
  | [d1, d2] => { results := [.lit (.bool false)], args := [d1, d2] }
  | _ => none }
def ExpectRightsWrongFalsely : Prop := expectRightsRow.holds Try.pinned (OpenSpec.ofChange expectRightsWrong)

/-- 'stockadelaw17.ExpectOwn': WHATEVER THE INPUT: true; the input reads as it did. -/
def expectOwnSpec : ChangeSpec := { name := "expectOwn", fn := fun _ => fun
  | [d] => { results := [.lit (.bool true)], args := [d] }
  | _ => none }
def expectOwnRow : OpenClaim := { program := "yteljeekapcenlaa", sum := "80ebbb56691a096bf0d581b84643bcd1e9695f7c0e4750968e30b42541589e84", func := "stockade/stockadelaw17.ExpectOwn", spec := "expectOwn", unfollowed := true, recurses := true, plainKeys := false, apart := false }
def ExpectOwnSaid : Prop := expectOwnRow.holds Try.pinned (OpenSpec.ofChange expectOwnSpec)

/-- ITS FALSE NEIGHBOUR: 'it returns false'. Refute it at one input. -/
def expectOwnWrong : ChangeSpec := { name := "expectOwn", fn := fun _ => fun
  | [d] => { results := [.lit (.bool false)], args := [d] }
  | _ => none }
def ExpectOwnWrongFalsely : Prop := expectOwnRow.holds Try.pinned (OpenSpec.ofChange expectOwnWrong)

/-- 'stockadelaw17.ExpectApart': WHATEVER THE INPUT: true; the input reads as it did. -/
def expectApartSpec : ChangeSpec := { name := "expectApart", fn := fun _ => fun
  | [d1, d2, d3] => { results := [.lit (.bool true)], args := [d1, d2, d3] }
  | _ => none }
def expectApartRow : OpenClaim := { program := "yteljeekapcenlaa", sum := "80ebbb56691a096bf0d581b84643bcd1e9695f7c0e4750968e30b42541589e84", func := "stockade/stockadelaw17.ExpectApart", spec := "expectApart", unfollowed := true, recurses := true, plainKeys := false, apart := false }
def ExpectApartSaid : Prop := expectApartRow.holds Try.pinned (OpenSpec.ofChange expectApartSpec)

/-- ITS FALSE NEIGHBOUR: 'it returns false'. Refute it at one input. -/
def expectApartWrong : ChangeSpec := { name := "expectApart", fn := fun _ => fun
  | [d1, d2, d3] => { results := [.lit (.bool false)], args := [d1, d2, d3] }
  | _ => none }
def ExpectApartWrongFalsely : Prop := expectApartRow.holds Try.pinned (OpenSpec.ofChange expectApartWrong)

/-- 'stockadelaw17.ExpectBounds': WHATEVER THE INPUT: true; the input reads as it did. -/
def expectBoundsSpec : ChangeSpec := { name := "expectBounds", fn := fun _ => fun
  | [d1, d2] => { results := [.lit (.bool true)], args := [d1, d2] }
  | _ => none }
def expectBoundsRow : OpenClaim := { program := "yteljeekapcenlaa", sum := "80ebbb56691a096bf0d581b84643bcd1e9695f7c0e4750968e30b42541589e84", func := "stockade/stockadelaw17.ExpectBounds", spec := "expectBounds", unfollowed := true, recurses := true, plainKeys := false, apart := false }
def ExpectBoundsSaid : Prop := expectBoundsRow.holds Try.pinned (OpenSpec.ofChange expectBoundsSpec)

/-- ITS FALSE NEIGHBOUR: 'it returns false'. Refute it at one input. -/
def expectBoundsWrong : ChangeSpec := { name := "expectBounds", fn := fun _ => fun
  | [d1, d2] => { results := [.lit (.bool false)], args := [d1, d2] }
  | _ => none }
def ExpectBoundsWrongFalsely : Prop := expectBoundsRow.holds Try.pinned (OpenSpec.ofChange expectBoundsWrong)

/-- 'stockadelaw17.ExpectNobody': WHATEVER THE INPUT: true; the input reads as it did. -/
def expectNobodySpec : ChangeSpec := { name := "expectNobody", fn := fun _ => fun
  | [d1, d2] => { results := [.lit (.bool true)], args := [d1, d2] }
  | _ => none }
def expectNobodyRow : OpenClaim := { program := "yteljeekapcenlaa", sum := "80ebbb56691a096bf0d581b84643bcd1e9695f7c0e4750968e30b42541589e84", func := "stockade/stockadelaw17.ExpectNobody", spec := "expectNobody", unfollowed := true, recurses := true, plainKeys := false, apart := false }
def ExpectNobodySaid : Prop := expectNobodyRow.holds Try.pinned (OpenSpec.ofChange expectNobodySpec)

/-- ITS FALSE NEIGHBOUR: 'it returns false'. Refute it at one input. -/
def expectNobodyWrong : ChangeSpec := { name := "expectNobody", fn := fun _ => fun
  | [d1, d2] => { results := [.lit (.bool false)], args := [d1, d2] }
  | _ => none }
def ExpectNobodyWrongFalsely : Prop := expectNobodyRow.holds Try.pinned (OpenSpec.ofChange expectNobodyWrong)

/-- 'stockadelaw21.IcmpFates': WHATEVER THE INPUT: true; the input reads as it did. -/
def icmpFatesSpec : ChangeSpec := { name := "icmpFates", fn := fun _ => fun
  | [d1, d2, d3] => { results := [.lit (.bool true)], args := [d1, d2, d3] }
  | _ => none }
def icmpFatesRow : OpenClaim := { program := "yteljeekapcenlaa", sum := "80ebbb56691a096bf0d581b84643bcd1e9695f7c0e4750968e30b42541589e84", func := "stockade/stockadelaw21.IcmpFates", spec := "icmpFates", unfollowed := true, recurses := true, plainKeys := false, apart := false }
def IcmpFatesSaid : Prop := icmpFatesRow.holds Try.pinned (OpenSpec.ofChange icmpFatesSpec)

/-- ITS FALSE NEIGHBOUR: 'it returns false'. Refute it at one input. -/
def icmpFatesWrong : ChangeSpec := { name := "icmpFates", fn := fun _ => fun
  | [d1, d2, d3] => { results := [.lit (.bool false)], args := [d1, d2, d3] }
  | _ => none }
def IcmpFatesWrongFalsely : Prop := icmpFatesRow.holds Try.pinned (OpenSpec.ofChange icmpFatesWrong)

/-- 'stockadelaw21.IcmpEnds': WHATEVER THE INPUT: true; the input reads as it did. -/
def icmpEndsSpec : ChangeSpec := { name := "icmpEnds", fn := fun _ => fun
  | [d1, d2] => { results := [.lit (.bool true)], args := [d1, d2] }
  | _ => none }
def icmpEndsRow : OpenClaim := { program := "yteljeekapcenlaa", sum := "80ebbb56691a096bf0d581b84643bcd1e9695f7c0e4750968e30b42541589e84", func := "stockade/stockadelaw21.IcmpEnds", spec := "icmpEnds", unfollowed := true, recurses := true, plainKeys := false, apart := false }
def IcmpEndsSaid : Prop := icmpEndsRow.holds Try.pinned (OpenSpec.ofChange icmpEndsSpec)

/-- ITS FALSE NEIGHBOUR: 'it returns false'. Refute it at one input. -/
def icmpEndsWrong : ChangeSpec := { name := "icmpEnds", fn := fun _ => fun
  | [d1, d2] => { results := [.lit (.bool false)], args := [d1, d2] }
  | _ => none }
def IcmpEndsWrongFalsely : Prop := icmpEndsRow.holds Try.pinned (OpenSpec.ofChange icmpEndsWrong)

/-- 'stockadelaw21.IcmpBoth': WHATEVER THE INPUT: true; the input reads as it did. -/
def icmpBothSpec : ChangeSpec := { name := "icmpBoth", fn := fun _ => fun
  | [d1, d2] => { results := [.lit (.bool true)], args := [d1, d2] }
  | _ => none }
def icmpBothRow : OpenClaim := { program := "yteljeekapcenlaa", sum := "80ebbb56691a096bf0d581b84643bcd1e9695f7c0e4750968e30b42541589e84", func := "stockade/stockadelaw21.IcmpBoth", spec := "icmpBoth", unfollowed := true, recurses := true, plainKeys := false, apart := false }
def IcmpBothSaid : Prop := icmpBothRow.holds Try.pinned (OpenSpec.ofChange icmpBothSpec)

/-- ITS FALSE NEIGHBOUR: 'it returns false'. Refute it at one input. -/
def icmpBothWrong : ChangeSpec := { name := "icmpBoth", fn := fun _ => fun
  | [d1, d2] => { results := [.lit (.bool false)], args := [d1, d2] }
  | _ => none }
def IcmpBothWrongFalsely : Prop := icmpBothRow.holds Try.pinned (OpenSpec.ofChange icmpBothWrong)

/-- 'stockadelaw21.IcmpNears': WHATEVER THE INPUT: true; the input reads as it did. -/
def icmpNearsSpec : ChangeSpec := { name := "icmpNears", fn := fun _ => fun
  | [d] => { results := [.lit (.bool true)], args := [d] }
  | _ => none }
def icmpNearsRow : OpenClaim := { program := "yteljeekapcenlaa", sum := "80ebbb56691a096bf0d581b84643bcd1e9695f7c0e4750968e30b42541589e84", func := "stockade/stockadelaw21.IcmpNears", spec := "icmpNears", unfollowed := true, recurses := true, plainKeys := false, apart := false }
def IcmpNearsSaid : Prop := icmpNearsRow.holds Try.pinned (OpenSpec.ofChange icmpNearsSpec)

/-- ITS FALSE NEIGHBOUR: 'it returns false'. Refute it at one input. -/
def icmpNearsWrong : ChangeSpec := { name := "icmpNears", fn := fun _ => fun
  | [d] => { results := [.lit (.bool false)], args := [d] }
  | _ => none }
def IcmpNearsWrongFalsely : Prop := icmpNearsRow.holds Try.pinned (OpenSpec.ofChange icmpNearsWrong)

/-- 'stockadelaw21.IcmpKinds': WHATEVER THE INPUT: true; the input reads as it did. -/
def icmpKindsSpec : ChangeSpec := { name := "icmpKinds", fn := fun _ => fun
  | [d1, d2, d3] => { results := [.lit (.bool true)], args := [d1, d2, d3] }
  | _ => none }
def icmpKindsRow : OpenClaim := { program := "yteljeekapcenlaa", sum := "80ebbb56691a096bf0d581b84643bcd1e9695f7c0e4750968e30b42541589e84", func := "stockade/stockadelaw21.IcmpKinds", spec := "icmpKinds", unfollowed := true, recurses := true, plainKeys := false, apart := false }
def IcmpKindsSaid : Prop := icmpKindsRow.holds Try.pinned (OpenSpec.ofChange icmpKindsSpec)

/-- ITS FALSE NEIGHBOUR: 'it returns false'. Refute it at one input. -/
def icmpKindsWrong : ChangeSpec := { name := "icmpKinds", fn := fun _ => fun
  | [d1, d2, d3] => { results := [.lit (.bool false)], args := [d1, d2, d3] }
  | _ => none }
def IcmpKindsWrongFalsely : Prop := icmpKindsRow.holds Try.pinned (OpenSpec.ofChange icmpKindsWrong)

/-- 'stockadelaw21.IcmpNeighbours': WHATEVER THE INPUT: true; the input reads as it did. -/
def icmpNeighboursSpec : ChangeSpec := { name := "icmpNeighbours", fn := fun _ => fun
  | [d1, d2] => { results := [.lit (.bool true)], args := [d1, d2] }
  | _ => none }
def icmpNeighboursRow : OpenClaim := { program := "yteljeekapcenlaa", sum := "80ebbb56691a096bf0d581b84643bcd1e9695f7c0e4750968e30b42541589e84", func := "stockade/stockadelaw21.IcmpNeighbours", spec := "icmpNeighbours", unfollowed := true, recurses := true, plainKeys := false, apart := false }
def IcmpNeighboursSaid : Prop := icmpNeighboursRow.holds Try.pinned (OpenSpec.ofChange icmpNeighboursSpec)

/-- ITS FALSE NEIGHBOUR: 'it returns false'. Refute it at one input. -/
def icmpNeighboursWrong : ChangeSpec := { name := "icmpNeighbours", fn := fun _ => fun
  | [d1, d2] => { results := [.lit (.bool false)], args := [d1, d2] }
  | _ => none }
def IcmpNeighboursWrongFalsely : Prop := icmpNeighboursRow.holds Try.pinned (OpenSpec.ofChange icmpNeighboursWrong)

/- THE SECOND FORM. 'bulk': how many values and letters a reading holds, each counted each time it is reached (what is shared counts as often as it is met; a slice's spare places count too). A statement '..UptoSaid' is the law's where the arguments, and the package variables that the reading takes, are together of bulk at most 1048576: NARROWER than '..Said'. Prove '..Said' where nothing that the law and all that it calls make is longer than what came in: it says more and counts as full. Else prove '..UptoSaid'. A law counts once. -/
mutual
def uptoBulk {H : Type} : DataW H → Nat
  | .lit (.string bytes) => bytes.length + 1
  | .lit _ => 1
  | .nil => 1
  | .ptr d => uptoBulk d + 1
  | .slice elems spare => uptoBulkAll elems + uptoBulkAll spare + 1
  | .agg parts => uptoBulkAll parts + 1
  | .iface _ d => uptoBulk d + 1
  | .map entries => uptoBulkEntries entries + 1
  | .held _ => 1
def uptoBulkAll {H : Type} : List (DataW H) → Nat
  | [] => 0
  | d :: r => uptoBulk d + uptoBulkAll r
def uptoBulkEntries {H : Type} : List (Lit × DataW H) → Nat
  | [] => 0
  | x :: r => uptoBulkEntry x + uptoBulkEntries r
def uptoBulkEntry {H : Type} : Lit × DataW H → Nat
  | (.string bytes, d) => bytes.length + uptoBulk d + 1
  | (_, d) => uptoBulk d + 1
 end
def uptoSmall : (H : Type) → List (DataW H) → Bool := fun _ ds => decide (uptoBulkAll ds ≤ 1048576)
def OpenSpec.upto (s : _root_.Go.ChangeSpec) : _root_.Go.OpenSpec := { _root_.Go.OpenSpec.ofChange s with cond := some uptoSmall }

/-- 'stockadelaw15.TcpBegins', WHERE WHAT IT READS IS OF BULK AT MOST 1048576: true; the input reads as it did. -/
def tcpBeginsUptoRow : OpenClaim := { program := "yteljeekapcenlaa", sum := "80ebbb56691a096bf0d581b84643bcd1e9695f7c0e4750968e30b42541589e84", func := "stockade/stockadelaw15.TcpBegins", spec := "tcpBegins", plainKeys := false, apart := false, narrowed := true }
def TcpBeginsUptoSaid : Prop := tcpBeginsUptoRow.holds Try.pinned (OpenSpec.upto tcpBeginsSpec)

/-- 'stockadelaw15.TcpRights', WHERE WHAT IT READS IS OF BULK AT MOST 1048576: true; the input reads as it did. -/
def tcpRightsUptoRow : OpenClaim := { program := "yteljeekapcenlaa", sum := "80ebbb56691a096bf0d581b84643bcd1e9695f7c0e4750968e30b42541589e84", func := "stockade/stockadelaw15.TcpRights", spec := "tcpRights", plainKeys := false, apart := false, narrowed := true }
def TcpRightsUptoSaid : Prop := tcpRightsUptoRow.holds Try.pinned (OpenSpec.upto tcpRightsSpec)

/-- 'stockadelaw15.TcpSteps', WHERE WHAT IT READS IS OF BULK AT MOST 1048576: true; the input reads as it did. -/
def tcpStepsUptoRow : OpenClaim := { program := "yteljeekapcenlaa", sum := "80ebbb56691a096bf0d581b84643bcd1e9695f7c0e4750968e30b42541589e84", func := "stockade/stockadelaw15.TcpSteps", spec := "tcpSteps", plainKeys := false, apart := false, narrowed := true }
def TcpStepsUptoSaid : Prop := tcpStepsUptoRow.holds Try.pinned (OpenSpec.upto tcpStepsSpec)

/-- 'stockadelaw15.TcpRuns', WHERE WHAT IT READS IS OF BULK AT MOST 1048576: true; the input reads as it did. -/
def tcpRunsUptoRow : OpenClaim := { program := "yteljeekapcenlaa", sum := "80ebbb56691a096bf0d581b84643bcd1e9695f7c0e4750968e30b42541589e84", func := "stockade/stockadelaw15.TcpRuns", spec := "tcpRuns", plainKeys := false, apart := false, narrowed := true }
def TcpRunsUptoSaid : Prop := tcpRunsUptoRow.holds Try.pinned (OpenSpec.upto tcpRunsSpec)

/-- 'stockadelaw15.TcpTalks', WHERE WHAT IT READS IS OF BULK AT MOST 1048576: true; the input reads as it did. -/
def tcpTalksUptoRow : OpenClaim := { program := "yteljeekapcenlaa", sum := "80ebbb56691a096bf0d581b84643bcd1e9695f7c0e4750968e30b42541589e84", func := "stockade/stockadelaw15.TcpTalks", spec := "tcpTalks", plainKeys := false, apart := false, narrowed := true }
def TcpTalksUptoSaid : Prop := tcpTalksUptoRow.holds Try.pinned (OpenSpec.upto tcpTalksSpec)

/-- 'stockadelaw15.TcpMoved', WHERE WHAT IT READS IS OF BULK AT MOST 1048576: true; the input reads as it did. -/
def tcpMovedUptoRow : OpenClaim := { program := "yteljeekapcenlaa", sum := "80ebbb56691a096bf0d581b84643bcd1e9695f7c0e4750968e30b42541589e84", func := "stockade/stockadelaw15.TcpMoved", spec := "tcpMoved", plainKeys := false, apart := false, narrowed := true }
def TcpMovedUptoSaid : Prop := tcpMovedUptoRow.holds Try.pinned (OpenSpec.upto tcpMovedSpec)

/-- 'stockadelaw15.TcpStrays', WHERE WHAT IT READS IS OF BULK AT MOST 1048576: true; the input reads as it did. -/
def tcpStraysUptoRow : OpenClaim := { program := "yteljeekapcenlaa", sum := "80ebbb56691a096bf0d581b84643bcd1e9695f7c0e4750968e30b42541589e84", func := "stockade/stockadelaw15.TcpStrays", spec := "tcpStrays", plainKeys := false, apart := false, narrowed := true }
def TcpStraysUptoSaid : Prop := tcpStraysUptoRow.holds Try.pinned (OpenSpec.upto tcpStraysSpec)

/-- 'stockadelaw16.FlowRights', WHERE WHAT IT READS IS OF BULK AT MOST 1048576: true; the input reads as it did. -/
def flowRightsUptoRow : OpenClaim := { program := "yteljeekapcenlaa", sum := "80ebbb56691a096bf0d581b84643bcd1e9695f7c0e4750968e30b42541589e84", func := "stockade/stockadelaw16.FlowRights", spec := "flowRights", plainKeys := false, apart := false, narrowed := true }
def FlowRightsUptoSaid : Prop := flowRightsUptoRow.holds Try.pinned (OpenSpec.upto flowRightsSpec)

/-- 'stockadelaw16.FlowGoes', WHERE WHAT IT READS IS OF BULK AT MOST 1048576: true; the input reads as it did. -/
def flowGoesUptoRow : OpenClaim := { program := "yteljeekapcenlaa", sum := "80ebbb56691a096bf0d581b84643bcd1e9695f7c0e4750968e30b42541589e84", func := "stockade/stockadelaw16.FlowGoes", spec := "flowGoes", plainKeys := false, apart := false, narrowed := true }
def FlowGoesUptoSaid : Prop := flowGoesUptoRow.holds Try.pinned (OpenSpec.upto flowGoesSpec)

/-- 'stockadelaw16.FlowMakes', WHERE WHAT IT READS IS OF BULK AT MOST 1048576: true; the input reads as it did. -/
def flowMakesUptoRow : OpenClaim := { program := "yteljeekapcenlaa", sum := "80ebbb56691a096bf0d581b84643bcd1e9695f7c0e4750968e30b42541589e84", func := "stockade/stockadelaw16.FlowMakes", spec := "flowMakes", plainKeys := false, apart := false, narrowed := true }
def FlowMakesUptoSaid : Prop := flowMakesUptoRow.holds Try.pinned (OpenSpec.upto flowMakesSpec)

/-- 'stockadelaw16.FlowSides', WHERE WHAT IT READS IS OF BULK AT MOST 1048576: true; the input reads as it did. -/
def flowSidesUptoRow : OpenClaim := { program := "yteljeekapcenlaa", sum := "80ebbb56691a096bf0d581b84643bcd1e9695f7c0e4750968e30b42541589e84", func := "stockade/stockadelaw16.FlowSides", spec := "flowSides", unfollowed := true, recurses := true, plainKeys := false, apart := false, narrowed := true }
def FlowSidesUptoSaid : Prop := flowSidesUptoRow.holds Try.pinned (OpenSpec.upto flowSidesSpec)

/-- 'stockadelaw16.FlowBounds', WHERE WHAT IT READS IS OF BULK AT MOST 1048576: true; the input reads as it did. -/
def flowBoundsUptoRow : OpenClaim := { program := "yteljeekapcenlaa", sum := "80ebbb56691a096bf0d581b84643bcd1e9695f7c0e4750968e30b42541589e84", func := "stockade/stockadelaw16.FlowBounds", spec := "flowBounds", unfollowed := true, recurses := true, plainKeys := false, apart := false, narrowed := true }
def FlowBoundsUptoSaid : Prop := flowBoundsUptoRow.holds Try.pinned (OpenSpec.upto flowBoundsSpec)

/-- 'stockadelaw16.FlowNobody', WHERE WHAT IT READS IS OF BULK AT MOST 1048576: true; the input reads as it did. -/
def flowNobodyUptoRow : OpenClaim := { program := "yteljeekapcenlaa", sum := "80ebbb56691a096bf0d581b84643bcd1e9695f7c0e4750968e30b42541589e84", func := "stockade/stockadelaw16.FlowNobody", spec := "flowNobody", unfollowed := true, recurses := true, plainKeys := false, apart := false, narrowed := true }
def FlowNobodyUptoSaid : Prop := flowNobodyUptoRow.holds Try.pinned (OpenSpec.upto flowNobodySpec)

/-- 'stockadelaw16.FlowPlays', WHERE WHAT IT READS IS OF BULK AT MOST 1048576: true; the input reads as it did. -/
def flowPlaysUptoRow : OpenClaim := { program := "yteljeekapcenlaa", sum := "80ebbb56691a096bf0d581b84643bcd1e9695f7c0e4750968e30b42541589e84", func := "stockade/stockadelaw16.FlowPlays", spec := "flowPlays", unfollowed := true, recurses := true, plainKeys := false, apart := false, narrowed := true }
def FlowPlaysUptoSaid : Prop := flowPlaysUptoRow.holds Try.pinned (OpenSpec.upto flowPlaysSpec)

/-- 'stockadelaw17.ExpectRights', WHERE WHAT IT READS IS OF BULK AT MOST 1048576: true; the input reads as it did. -/
def expectRightsUptoRow : OpenClaim := { program := "yteljeekapcenlaa", sum := "80ebbb56691a096bf0d581b84643bcd1e9695f7c0e4750968e30b42541589e84", func := "stockade/stockadelaw17.ExpectRights", spec := "expectRights", unfollowed := true, recurses := true, plainKeys := false, apart := false, narrowed := true }
def ExpectRightsUptoSaid : Prop := expectRightsUptoRow.holds Try.pinned (OpenSpec.upto expectRightsSpec)

/-- 'stockadelaw17.ExpectOwn', WHERE WHAT IT READS IS OF BULK AT MOST 1048576: true; the input reads as it did. -/
def expectOwnUptoRow : OpenClaim := { program := "yteljeekapcenlaa", sum := "80ebbb56691a096bf0d581b84643bcd1e9695f7c0e4750968e30b42541589e84", func := "stockade/stockadelaw17.ExpectOwn", spec := "expectOwn", unfollowed := true, recurses := true, plainKeys := false, apart := false, narrowed := true }
def ExpectOwnUptoSaid : Prop := expectOwnUptoRow.holds Try.pinned (OpenSpec.upto expectOwnSpec)

/-- 'stockadelaw17.ExpectApart', WHERE WHAT IT READS IS OF BULK AT MOST 1048576: true; the input reads as it did. -/
def expectApartUptoRow : OpenClaim := { program := "yteljeekapcenlaa", sum := "80ebbb56691a096bf0d581b84643bcd1e9695f7c0e4750968e30b42541589e84", func := "stockade/stockadelaw17.ExpectApart", spec := "expectApart", unfollowed := true, recurses := true, plainKeys := false, apart := false, narrowed := true }
def ExpectApartUptoSaid : Prop := expectApartUptoRow.holds Try.pinned (OpenSpec.upto expectApartSpec)

/-- 'stockadelaw17.ExpectBounds', WHERE WHAT IT READS IS OF BULK AT MOST 1048576: true; the input reads as it did. -/
def expectBoundsUptoRow : OpenClaim := { program := "yteljeekapcenlaa", sum := "80ebbb56691a096bf0d581b84643bcd1e9695f7c0e4750968e30b42541589e84", func := "stockade/stockadelaw17.ExpectBounds", spec := "expectBounds", unfollowed := true, recurses := true, plainKeys := false, apart := false, narrowed := true }
def ExpectBoundsUptoSaid : Prop := expectBoundsUptoRow.holds Try.pinned (OpenSpec.upto expectBoundsSpec)

/-- 'stockadelaw17.ExpectNobody', WHERE WHAT IT READS IS OF BULK AT MOST 1048576: true; the input reads as it did. -/
def expectNobodyUptoRow : OpenClaim := { program := "yteljeekapcenlaa", sum := "80ebbb56691a096bf0d581b84643bcd1e9695f7c0e4750968e30b42541589e84", func := "stockade/stockadelaw17.ExpectNobody", spec := "expectNobody", unfollowed := true, recurses := true, plainKeys := false, apart := false, narrowed := true }
def ExpectNobodyUptoSaid : Prop := expectNobodyUptoRow.holds Try.pinned (OpenSpec.upto expectNobodySpec)

/-- 'stockadelaw21.IcmpFates', WHERE WHAT IT READS IS OF BULK AT MOST 1048576: true; the input reads as it did. -/
def icmpFatesUptoRow : OpenClaim := { program := "yteljeekapcenlaa", sum := "80ebbb56691a096bf0d581b84643bcd1e9695f7c0e4750968e30b42541589e84", func := "stockade/stockadelaw21.IcmpFates", spec := "icmpFates", unfollowed := true, recurses := true, plainKeys := false, apart := false, narrowed := true }
def IcmpFatesUptoSaid : Prop := icmpFatesUptoRow.holds Try.pinned (OpenSpec.upto icmpFatesSpec)

/-- 'stockadelaw21.IcmpEnds', WHERE WHAT IT READS IS OF BULK AT MOST 1048576: true; the input reads as it did. -/
def icmpEndsUptoRow : OpenClaim := { program := "yteljeekapcenlaa", sum := "80ebbb56691a096bf0d581b84643bcd1e9695f7c0e4750968e30b42541589e84", func := "stockade/stockadelaw21.IcmpEnds", spec := "icmpEnds", unfollowed := true, recurses := true, plainKeys := false, apart := false, narrowed := true }
def IcmpEndsUptoSaid : Prop := icmpEndsUptoRow.holds Try.pinned (OpenSpec.upto icmpEndsSpec)

/-- 'stockadelaw21.IcmpBoth', WHERE WHAT IT READS IS OF BULK AT MOST 1048576: true; the input reads as it did. -/
def icmpBothUptoRow : OpenClaim := { program := "yteljeekapcenlaa", sum := "80ebbb56691a096bf0d581b84643bcd1e9695f7c0e4750968e30b42541589e84", func := "stockade/stockadelaw21.IcmpBoth", spec := "icmpBoth", unfollowed := true, recurses := true, plainKeys := false, apart := false, narrowed := true }
def IcmpBothUptoSaid : Prop := icmpBothUptoRow.holds Try.pinned (OpenSpec.upto icmpBothSpec)

/-- 'stockadelaw21.IcmpNears', WHERE WHAT IT READS IS OF BULK AT MOST 1048576: true; the input reads as it did. -/
def icmpNearsUptoRow : OpenClaim := { program := "yteljeekapcenlaa", sum := "80ebbb56691a096bf0d581b84643bcd1e9695f7c0e4750968e30b42541589e84", func := "stockade/stockadelaw21.IcmpNears", spec := "icmpNears", unfollowed := true, recurses := true, plainKeys := false, apart := false, narrowed := true }
def IcmpNearsUptoSaid : Prop := icmpNearsUptoRow.holds Try.pinned (OpenSpec.upto icmpNearsSpec)

/-- 'stockadelaw21.IcmpKinds', WHERE WHAT IT READS IS OF BULK AT MOST 1048576: true; the input reads as it did. -/
def icmpKindsUptoRow : OpenClaim := { program := "yteljeekapcenlaa", sum := "80ebbb56691a096bf0d581b84643bcd1e9695f7c0e4750968e30b42541589e84", func := "stockade/stockadelaw21.IcmpKinds", spec := "icmpKinds", unfollowed := true, recurses := true, plainKeys := false, apart := false, narrowed := true }
def IcmpKindsUptoSaid : Prop := icmpKindsUptoRow.holds Try.pinned (OpenSpec.upto icmpKindsSpec)

/-- 'stockadelaw21.IcmpNeighbours', WHERE WHAT IT READS IS OF BULK AT MOST 1048576: true; the input reads as it did. -/
def icmpNeighboursUptoRow : OpenClaim := { program := "yteljeekapcenlaa", sum := "80ebbb56691a096bf0d581b84643bcd1e9695f7c0e4750968e30b42541589e84", func := "stockade/stockadelaw21.IcmpNeighbours", spec := "icmpNeighbours", unfollowed := true, recurses := true, plainKeys := false, apart := false, narrowed := true }
def IcmpNeighboursUptoSaid : Prop := icmpNeighboursUptoRow.holds Try.pinned (OpenSpec.upto icmpNeighboursSpec)

end Rows
end Go.Proofs.Yteljeekapcenlaa
