/-
  No cell of these rows narrows 'for every input' (looked for: loops, veiled, ifaces, maps, wideKeys, modest, calm, conditions, laid).
  DERIVED. THE GIVEN ROWS OF THIS SEAT. 5 by the template 'for every input the law returns true; each argument reads behind the call as it read before'; 0 by the template 'total and deterministic' (their statements: YtkpcfdkkfpbjdaaTotals.lean).
  GIVEN WITH THE SEED: the statements are not yours to turn. If you find one false, say at which input.
  Laid BY PROGRAM, IN A SANDBOX (cutbox-rows.mjs): the forced cells as the released guide's own fill.sh prints them over the translation 8514b54fcb022712… (all of the seat's roots in one cut). By AI agents, Wed Nov 11 2026. No macro, syntax, notation, axiom, sorry.
-/
import Derived.Test.YtkpcfdkkfpbjdaaChecked
import GoSem.Claim
import GoSem.ClaimJoined
import GoSem.ClaimMapViews
import Derived.JoinedTies
import Derived.KernelRfl
namespace Go.Proofs.Ytkpcfdkkfpbjdaa
/- THE CELL 'sum', in the pinned program and in every row, IS THE sha256 OF THE DUMP (.gsa) THAT YtkpcfdkkfpbjdaaProg.lean LOADS. Nothing in Lean hashes anything: it is a label: what it is worth is what the hold of that sum in a sandbox is worth. -/
noncomputable def Try.pinned : Pinned := { name := "ytkpcfdkkfpbjdaa", sum := "8514b54fcb02271253028287749c0aa8f8519737269aa324031c9a1f5894587c", checked := Try.checked }
namespace Rows
def none {H : Type} : Left H := { results := [], args := [] }

/-- 'stockadelaw17.ExpectRights': WHATEVER THE INPUT: true; the input reads as it did. -/
def expectRightsSpec : ChangeSpec := { name := "expectRights", fn := fun _ => fun
  | [d1, d2] => { results := [.lit (.bool true)], args := [d1, d2] }
  | _ => none }
def expectRightsRow : OpenClaim := { program := "ytkpcfdkkfpbjdaa", sum := "8514b54fcb02271253028287749c0aa8f8519737269aa324031c9a1f5894587c", func := "stockade/stockadelaw17.ExpectRights", spec := "expectRights", unfollowed := true, recurses := true, apart := false }
def ExpectRightsSaid : Prop := expectRightsRow.holds Try.pinned (OpenSpec.ofChange expectRightsSpec)

/-- ITS FALSE NEIGHBOUR: 'it returns false'. Refute it at one input. -/
def expectRightsWrong : ChangeSpec := { name := "expectRights", fn := fun _ => fun
  | [d1, d2] => { results := [.lit (.bool false)], args := [d1, d2] }
  | _ => none }
def ExpectRightsWrongFalsely : Prop := expectRightsRow.holds Try.pinned (OpenSpec.ofChange expectRightsWrong)

/-- 'stockadelaw17.ExpectOwn': WHATEVER THE INPUT: true; the input reads as it did. -/
def expectOwnSpec : ChangeSpec := { name := "expectOwn", fn := fun _ => fun
  | [d] => { results := [.lit (.bool true)], args := [d] }
  | _ => none }
def expectOwnRow : OpenClaim := { program := "ytkpcfdkkfpbjdaa", sum := "8514b54fcb02271253028287749c0aa8f8519737269aa324031c9a1f5894587c", func := "stockade/stockadelaw17.ExpectOwn", spec := "expectOwn", unfollowed := true, recurses := true, apart := false }
def ExpectOwnSaid : Prop := expectOwnRow.holds Try.pinned (OpenSpec.ofChange expectOwnSpec)

/-- ITS FALSE NEIGHBOUR: 'it returns false'. Refute it at one input. -/
def expectOwnWrong : ChangeSpec := { name := "expectOwn", fn := fun _ => fun
  | [d] => { results := [.lit (.bool false)], args := [d] }
  | _ => none }
def ExpectOwnWrongFalsely : Prop := expectOwnRow.holds Try.pinned (OpenSpec.ofChange expectOwnWrong)

/-- 'stockadelaw17.ExpectApart': WHATEVER THE INPUT: true; the input reads as it did. -/
def expectApartSpec : ChangeSpec := { name := "expectApart", fn := fun _ => fun
  | [d1, d2, d3] => { results := [.lit (.bool true)], args := [d1, d2, d3] }
  | _ => none }
def expectApartRow : OpenClaim := { program := "ytkpcfdkkfpbjdaa", sum := "8514b54fcb02271253028287749c0aa8f8519737269aa324031c9a1f5894587c", func := "stockade/stockadelaw17.ExpectApart", spec := "expectApart", unfollowed := true, recurses := true, apart := false }
def ExpectApartSaid : Prop := expectApartRow.holds Try.pinned (OpenSpec.ofChange expectApartSpec)

/-- ITS FALSE NEIGHBOUR: 'it returns false'. Refute it at one input. -/
def expectApartWrong : ChangeSpec := { name := "expectApart", fn := fun _ => fun
  | [d1, d2, d3] => { results := [.lit (.bool false)], args := [d1, d2, d3] }
  | _ => none }
def ExpectApartWrongFalsely : Prop := expectApartRow.holds Try.pinned (OpenSpec.ofChange expectApartWrong)

/-- 'stockadelaw17.ExpectBounds': WHATEVER THE INPUT: true; the input reads as it did. -/
def expectBoundsSpec : ChangeSpec := { name := "expectBounds", fn := fun _ => fun
  | [d1, d2] => { results := [.lit (.bool true)], args := [d1, d2] }
  | _ => none }
def expectBoundsRow : OpenClaim := { program := "ytkpcfdkkfpbjdaa", sum := "8514b54fcb02271253028287749c0aa8f8519737269aa324031c9a1f5894587c", func := "stockade/stockadelaw17.ExpectBounds", spec := "expectBounds", unfollowed := true, recurses := true, apart := false }
def ExpectBoundsSaid : Prop := expectBoundsRow.holds Try.pinned (OpenSpec.ofChange expectBoundsSpec)

/-- ITS FALSE NEIGHBOUR: 'it returns false'. Refute it at one input. -/
def expectBoundsWrong : ChangeSpec := { name := "expectBounds", fn := fun _ => fun
  | [d1, d2] => { results := [.lit (.bool false)], args := [d1, d2] }
  | _ => none }
def ExpectBoundsWrongFalsely : Prop := expectBoundsRow.holds Try.pinned (OpenSpec.ofChange expectBoundsWrong)

/-- 'stockadelaw17.ExpectNobody': WHATEVER THE INPUT: true; the input reads as it did. -/
def expectNobodySpec : ChangeSpec := { name := "expectNobody", fn := fun _ => fun
  | [d1, d2] => { results := [.lit (.bool true)], args := [d1, d2] }
  | _ => none }
def expectNobodyRow : OpenClaim := { program := "ytkpcfdkkfpbjdaa", sum := "8514b54fcb02271253028287749c0aa8f8519737269aa324031c9a1f5894587c", func := "stockade/stockadelaw17.ExpectNobody", spec := "expectNobody", unfollowed := true, recurses := true, apart := false }
def ExpectNobodySaid : Prop := expectNobodyRow.holds Try.pinned (OpenSpec.ofChange expectNobodySpec)

/-- ITS FALSE NEIGHBOUR: 'it returns false'. Refute it at one input. -/
def expectNobodyWrong : ChangeSpec := { name := "expectNobody", fn := fun _ => fun
  | [d1, d2] => { results := [.lit (.bool false)], args := [d1, d2] }
  | _ => none }
def ExpectNobodyWrongFalsely : Prop := expectNobodyRow.holds Try.pinned (OpenSpec.ofChange expectNobodyWrong)

/- THE SECOND FORM. 'bulk': how many values and letters a reading holds, each counted each time it is reached (what is shared counts as often as it is met; a slice's spare places count too). A statement '..UptoSaid' is the law's where the arguments, and the package variables that the reading takes, are together of bulk at most 1048576: NARROWER than '..Said'. Prove '..Said' where nothing that the law and all that it calls make is longer than what came in: it says more and counts as full. Else prove '..UptoSaid'. A law counts once. -/
mutual
def uptoBulk {H : Type} : DataW H → Nat
  | .lit (.string bytes) => bytes.length + 1
  | .lit _ => 1
  | .nil => 1
  | .ptr d => uptoBulk d + 1
  | .slice elems spare => uptoBulkAll elems + uptoBulkAll spare + 1
  | .agg parts => uptoBulkAll parts + 1
  | .iface _ d => uptoBulk d + 1
  | .map entries => uptoBulkEntries entries + 1
  | .held _ => 1
def uptoBulkAll {H : Type} : List (DataW H) → Nat
  | [] => 0
  | d :: r => uptoBulk d + uptoBulkAll r
def uptoBulkEntries {H : Type} : List (Lit × DataW H) → Nat
  | [] => 0
  | x :: r => uptoBulkEntry x + uptoBulkEntries r
def uptoBulkEntry {H : Type} : Lit × DataW H → Nat
  | (.string bytes, d) => bytes.length + uptoBulk d + 1
  | (_, d) => uptoBulk d + 1
 end
def uptoSmall : (H : Type) → List (DataW H) → Bool := fun _ ds => decide (uptoBulkAll ds ≤ 1048576)
def OpenSpec.upto (s : _root_.Go.ChangeSpec) : _root_.Go.OpenSpec := { _root_.Go.OpenSpec.ofChange s with cond := some uptoSmall }

/-- 'stockadelaw17.ExpectRights', WHERE WHAT IT READS IS OF BULK AT MOST 1048576: true; the input reads as it did. -/
def expectRightsUptoRow : OpenClaim := { program := "ytkpcfdkkfpbjdaa", sum := "8514b54fcb02271253028287749c0aa8f8519737269aa324031c9a1f5894587c", func := "stockade/stockadelaw17.ExpectRights", spec := "expectRights", unfollowed := true, recurses := true, apart := false, narrowed := true }
def ExpectRightsUptoSaid : Prop := expectRightsUptoRow.holds Try.pinned (OpenSpec.upto expectRightsSpec)

/-- 'stockadelaw17.ExpectOwn', WHERE WHAT IT READS IS OF BULK AT MOST 1048576: true; the input reads as it did. -/
def expectOwnUptoRow : OpenClaim := { program := "ytkpcfdkkfpbjdaa", sum := "8514b54fcb02271253028287749c0aa8f8519737269aa324031c9a1f5894587c", func := "stockade/stockadelaw17.ExpectOwn", spec := "expectOwn", unfollowed := true, recurses := true, apart := false, narrowed := true }
def ExpectOwnUptoSaid : Prop := expectOwnUptoRow.holds Try.pinned (OpenSpec.upto expectOwnSpec)

/-- 'stockadelaw17.ExpectApart', WHERE WHAT IT READS IS OF BULK AT MOST 1048576: true; the input reads as it did. -/
def expectApartUptoRow : OpenClaim := { program := "ytkpcfdkkfpbjdaa", sum := "8514b54fcb02271253028287749c0aa8f8519737269aa324031c9a1f5894587c", func := "stockade/stockadelaw17.ExpectApart", spec := "expectApart", unfollowed := true, recurses := true, apart := false, narrowed := true }
def ExpectApartUptoSaid : Prop := expectApartUptoRow.holds Try.pinned (OpenSpec.upto expectApartSpec)

/-- 'stockadelaw17.ExpectBounds', WHERE WHAT IT READS IS OF BULK AT MOST 1048576: true; the input reads as it did. -/
def expectBoundsUptoRow : OpenClaim := { program := "ytkpcfdkkfpbjdaa", sum := "8514b54fcb02271253028287749c0aa8f8519737269aa324031c9a1f5894587c", func := "stockade/stockadelaw17.ExpectBounds", spec := "expectBounds", unfollowed := true, recurses := true, apart := false, narrowed := true }
def ExpectBoundsUptoSaid : Prop := expectBoundsUptoRow.holds Try.pinned (OpenSpec.upto expectBoundsSpec)

/-- 'stockadelaw17.ExpectNobody', WHERE WHAT IT READS IS OF BULK AT MOST 1048576: true; the input reads as it did. -/
def expectNobodyUptoRow : OpenClaim := { program := "ytkpcfdkkfpbjdaa", sum := "8514b54fcb02271253028287749c0aa8f8519737269aa324031c9a1f5894587c", func := "stockade/stockadelaw17.ExpectNobody", spec := "expectNobody", unfollowed := true, recurses := true, apart := false, narrowed := true }
def ExpectNobodyUptoSaid : Prop := expectNobodyUptoRow.holds Try.pinned (OpenSpec.upto expectNobodySpec)

end Rows
end Go.Proofs.Ytkpcfdkkfpbjdaa
