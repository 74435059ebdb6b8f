/-
  No cell of these rows narrows 'for every input' (looked for: loops, veiled, ifaces, maps, wideKeys, modest, calm, conditions, laid).
  DERIVED. THE GIVEN ROWS OF THIS SEAT. 11 by the template 'for every input the law returns true; each argument reads behind the call as it read before'; 0 by the template 'total and deterministic' (their statements: YtijhoifcpijeiaaTotals.lean).
  GIVEN WITH THE SEED: the statements are not yours to turn. If you find one false, say at which input.
  Laid BY PROGRAM, IN A SANDBOX (cutbox-rows.mjs): the forced cells as the released guide's own fill.sh prints them over the translation 39fc836a052ef1d7… (all of the seat's roots in one cut). By AI agents, Wed Nov 11 2026. No macro, syntax, notation, axiom, sorry.
-/
import Derived.Test.YtijhoifcpijeiaaChecked
import GoSem.Claim
import GoSem.ClaimJoined
import GoSem.ClaimMapViews
import Derived.JoinedTies
import Derived.KernelRfl
namespace Go.Proofs.Ytijhoifcpijeiaa
/- THE CELL 'sum', in the pinned program and in every row, IS THE sha256 OF THE DUMP (.gsa) THAT YtijhoifcpijeiaaProg.lean LOADS. Nothing in Lean hashes anything: it is a label: what it is worth is what the hold of that sum in a sandbox is worth. -/
noncomputable def Try.pinned : Pinned := { name := "ytijhoifcpijeiaa", sum := "39fc836a052ef1d7cf3beb2f9ab1444b02a0a6a344141c4a93d8fd7a0337b78b", checked := Try.checked }
namespace Rows
def none {H : Type} : Left H := { results := [], args := [] }

/-- 'laws.FnExactMostRegions': WHATEVER THE INPUT: true; the input reads as it did. -/
def fnExactMostRegionsSpec : ChangeSpec := { name := "fnExactMostRegions", fn := fun _ => fun
  | [d] => { results := [.lit (.bool true)], args := [d] }
  | _ => none }
def fnExactMostRegionsRow : OpenClaim := { program := "ytijhoifcpijeiaa", sum := "39fc836a052ef1d7cf3beb2f9ab1444b02a0a6a344141c4a93d8fd7a0337b78b", func := "loop.example/g01324/laws.FnExactMostRegions", spec := "fnExactMostRegions", apart := false }
def FnExactMostRegionsSaid : Prop := fnExactMostRegionsRow.holds Try.pinned (OpenSpec.ofChange fnExactMostRegionsSpec)

/-- ITS FALSE NEIGHBOUR: 'it returns false'. Refute it at one input. -/
def fnExactMostRegionsWrong : ChangeSpec := { name := "fnExactMostRegions", fn := fun _ => fun
  | [d] => { results := [.lit (.bool false)], args := [d] }
  | _ => none }
def FnExactMostRegionsWrongFalsely : Prop := fnExactMostRegionsRow.holds Try.pinned (OpenSpec.ofChange fnExactMostRegionsWrong)

/-- 'laws.FnExactCountTriangled': WHATEVER THE INPUT: true; the input reads as it did. -/
def fnExactCountTriangledSpec : ChangeSpec := { name := "fnExactCountTriangled", fn := fun _ => fun
  | [d] => { results := [.lit (.bool true)], args := [d] }
  | _ => none }
def fnExactCountTriangledRow : OpenClaim := { program := "ytijhoifcpijeiaa", sum := "39fc836a052ef1d7cf3beb2f9ab1444b02a0a6a344141c4a93d8fd7a0337b78b", func := "loop.example/g01324/laws.FnExactCountTriangled", spec := "fnExactCountTriangled", apart := false }
def FnExactCountTriangledSaid : Prop := fnExactCountTriangledRow.holds Try.pinned (OpenSpec.ofChange fnExactCountTriangledSpec)

/-- ITS FALSE NEIGHBOUR: 'it returns false'. Refute it at one input. -/
def fnExactCountTriangledWrong : ChangeSpec := { name := "fnExactCountTriangled", fn := fun _ => fun
  | [d] => { results := [.lit (.bool false)], args := [d] }
  | _ => none }
def FnExactCountTriangledWrongFalsely : Prop := fnExactCountTriangledRow.holds Try.pinned (OpenSpec.ofChange fnExactCountTriangledWrong)

/-- 'laws.FnExactPiecesOfChord': WHATEVER THE INPUT: true; the input reads as it did. -/
def fnExactPiecesOfChordSpec : ChangeSpec := { name := "fnExactPiecesOfChord", fn := fun _ => fun
  | [d1, d2, d3] => { results := [.lit (.bool true)], args := [d1, d2, d3] }
  | _ => none }
def fnExactPiecesOfChordRow : OpenClaim := { program := "ytijhoifcpijeiaa", sum := "39fc836a052ef1d7cf3beb2f9ab1444b02a0a6a344141c4a93d8fd7a0337b78b", func := "loop.example/g01324/laws.FnExactPiecesOfChord", spec := "fnExactPiecesOfChord", apart := false }
def FnExactPiecesOfChordSaid : Prop := fnExactPiecesOfChordRow.holds Try.pinned (OpenSpec.ofChange fnExactPiecesOfChordSpec)

/-- ITS FALSE NEIGHBOUR: 'it returns false'. Refute it at one input. -/
def fnExactPiecesOfChordWrong : ChangeSpec := { name := "fnExactPiecesOfChord", fn := fun _ => fun
  | [d1, d2, d3] => { results := [.lit (.bool false)], args := [d1, d2, d3] }
  | _ => none }
def FnExactPiecesOfChordWrongFalsely : Prop := fnExactPiecesOfChordRow.holds Try.pinned (OpenSpec.ofChange fnExactPiecesOfChordWrong)

/-- 'laws.FnExactArcsParted': WHATEVER THE INPUT: true; the input reads as it did. -/
def fnExactArcsPartedSpec : ChangeSpec := { name := "fnExactArcsParted", fn := fun _ => fun
  | [d1, d2, d3, d4] => { results := [.lit (.bool true)], args := [d1, d2, d3, d4] }
  | _ => none }
def fnExactArcsPartedRow : OpenClaim := { program := "ytijhoifcpijeiaa", sum := "39fc836a052ef1d7cf3beb2f9ab1444b02a0a6a344141c4a93d8fd7a0337b78b", func := "loop.example/g01324/laws.FnExactArcsParted", spec := "fnExactArcsParted", unfollowed := true, recurses := true, apart := false }
def FnExactArcsPartedSaid : Prop := fnExactArcsPartedRow.holds Try.pinned (OpenSpec.ofChange fnExactArcsPartedSpec)

/-- ITS FALSE NEIGHBOUR: 'it returns false'. Refute it at one input. -/
def fnExactArcsPartedWrong : ChangeSpec := { name := "fnExactArcsParted", fn := fun _ => fun
  | [d1, d2, d3, d4] => { results := [.lit (.bool false)], args := [d1, d2, d3, d4] }
  | _ => none }
def FnExactArcsPartedWrongFalsely : Prop := fnExactArcsPartedRow.holds Try.pinned (OpenSpec.ofChange fnExactArcsPartedWrong)

/-- 'laws.FnExactShadesOfArcs': WHATEVER THE INPUT: true; the input reads as it did. -/
def fnExactShadesOfArcsSpec : ChangeSpec := { name := "fnExactShadesOfArcs", fn := fun _ => fun
  | [d1, d2] => { results := [.lit (.bool true)], args := [d1, d2] }
  | _ => none }
def fnExactShadesOfArcsRow : OpenClaim := { program := "ytijhoifcpijeiaa", sum := "39fc836a052ef1d7cf3beb2f9ab1444b02a0a6a344141c4a93d8fd7a0337b78b", func := "loop.example/g01324/laws.FnExactShadesOfArcs", spec := "fnExactShadesOfArcs", apart := false }
def FnExactShadesOfArcsSaid : Prop := fnExactShadesOfArcsRow.holds Try.pinned (OpenSpec.ofChange fnExactShadesOfArcsSpec)

/-- ITS FALSE NEIGHBOUR: 'it returns false'. Refute it at one input. -/
def fnExactShadesOfArcsWrong : ChangeSpec := { name := "fnExactShadesOfArcs", fn := fun _ => fun
  | [d1, d2] => { results := [.lit (.bool false)], args := [d1, d2] }
  | _ => none }
def FnExactShadesOfArcsWrongFalsely : Prop := fnExactShadesOfArcsRow.holds Try.pinned (OpenSpec.ofChange fnExactShadesOfArcsWrong)

/-- 'laws.FnExactRegionsOf': WHATEVER THE INPUT: true; the input reads as it did. -/
def fnExactRegionsOfSpec : ChangeSpec := { name := "fnExactRegionsOf", fn := fun _ => fun
  | [d1, d2] => { results := [.lit (.bool true)], args := [d1, d2] }
  | _ => none }
def fnExactRegionsOfRow : OpenClaim := { program := "ytijhoifcpijeiaa", sum := "39fc836a052ef1d7cf3beb2f9ab1444b02a0a6a344141c4a93d8fd7a0337b78b", func := "loop.example/g01324/laws.FnExactRegionsOf", spec := "fnExactRegionsOf", apart := false }
def FnExactRegionsOfSaid : Prop := fnExactRegionsOfRow.holds Try.pinned (OpenSpec.ofChange fnExactRegionsOfSpec)

/-- ITS FALSE NEIGHBOUR: 'it returns false'. Refute it at one input. -/
def fnExactRegionsOfWrong : ChangeSpec := { name := "fnExactRegionsOf", fn := fun _ => fun
  | [d1, d2] => { results := [.lit (.bool false)], args := [d1, d2] }
  | _ => none }
def FnExactRegionsOfWrongFalsely : Prop := fnExactRegionsOfRow.holds Try.pinned (OpenSpec.ofChange fnExactRegionsOfWrong)

/-- 'laws.FnExactCountPieces': WHATEVER THE INPUT: true; the input reads as it did. -/
def fnExactCountPiecesSpec : ChangeSpec := { name := "fnExactCountPieces", fn := fun _ => fun
  | [d1, d2] => { results := [.lit (.bool true)], args := [d1, d2] }
  | _ => none }
def fnExactCountPiecesRow : OpenClaim := { program := "ytijhoifcpijeiaa", sum := "39fc836a052ef1d7cf3beb2f9ab1444b02a0a6a344141c4a93d8fd7a0337b78b", func := "loop.example/g01324/laws.FnExactCountPieces", spec := "fnExactCountPieces", apart := false }
def FnExactCountPiecesSaid : Prop := fnExactCountPiecesRow.holds Try.pinned (OpenSpec.ofChange fnExactCountPiecesSpec)

/-- ITS FALSE NEIGHBOUR: 'it returns false'. Refute it at one input. -/
def fnExactCountPiecesWrong : ChangeSpec := { name := "fnExactCountPieces", fn := fun _ => fun
  | [d1, d2] => { results := [.lit (.bool false)], args := [d1, d2] }
  | _ => none }
def FnExactCountPiecesWrongFalsely : Prop := fnExactCountPiecesRow.holds Try.pinned (OpenSpec.ofChange fnExactCountPiecesWrong)

/-- 'laws.FnExactLeavesTriangles': WHATEVER THE INPUT: true; the input reads as it did. -/
def fnExactLeavesTrianglesSpec : ChangeSpec := { name := "fnExactLeavesTriangles", fn := fun _ => fun
  | [d1, d2] => { results := [.lit (.bool true)], args := [d1, d2] }
  | _ => none }
def fnExactLeavesTrianglesRow : OpenClaim := { program := "ytijhoifcpijeiaa", sum := "39fc836a052ef1d7cf3beb2f9ab1444b02a0a6a344141c4a93d8fd7a0337b78b", func := "loop.example/g01324/laws.FnExactLeavesTriangles", spec := "fnExactLeavesTriangles", unfollowed := true, recurses := true, apart := false }
def FnExactLeavesTrianglesSaid : Prop := fnExactLeavesTrianglesRow.holds Try.pinned (OpenSpec.ofChange fnExactLeavesTrianglesSpec)

/-- ITS FALSE NEIGHBOUR: 'it returns false'. Refute it at one input. -/
def fnExactLeavesTrianglesWrong : ChangeSpec := { name := "fnExactLeavesTriangles", fn := fun _ => fun
  | [d1, d2] => { results := [.lit (.bool false)], args := [d1, d2] }
  | _ => none }
def FnExactLeavesTrianglesWrongFalsely : Prop := fnExactLeavesTrianglesRow.holds Try.pinned (OpenSpec.ofChange fnExactLeavesTrianglesWrong)

/-- 'laws.FnExactEarsOf': WHATEVER THE INPUT: true; the input reads as it did. -/
def fnExactEarsOfSpec : ChangeSpec := { name := "fnExactEarsOf", fn := fun _ => fun
  | [d1, d2] => { results := [.lit (.bool true)], args := [d1, d2] }
  | _ => none }
def fnExactEarsOfRow : OpenClaim := { program := "ytijhoifcpijeiaa", sum := "39fc836a052ef1d7cf3beb2f9ab1444b02a0a6a344141c4a93d8fd7a0337b78b", func := "loop.example/g01324/laws.FnExactEarsOf", spec := "fnExactEarsOf", unfollowed := true, recurses := true, apart := false }
def FnExactEarsOfSaid : Prop := fnExactEarsOfRow.holds Try.pinned (OpenSpec.ofChange fnExactEarsOfSpec)

/-- ITS FALSE NEIGHBOUR: 'it returns false'. Refute it at one input. -/
def fnExactEarsOfWrong : ChangeSpec := { name := "fnExactEarsOf", fn := fun _ => fun
  | [d1, d2] => { results := [.lit (.bool false)], args := [d1, d2] }
  | _ => none }
def FnExactEarsOfWrongFalsely : Prop := fnExactEarsOfRow.holds Try.pinned (OpenSpec.ofChange fnExactEarsOfWrong)

/-- 'laws.FnExactFanOf': WHATEVER THE INPUT: true; the input reads as it did. -/
def fnExactFanOfSpec : ChangeSpec := { name := "fnExactFanOf", fn := fun _ => fun
  | [d1, d2] => { results := [.lit (.bool true)], args := [d1, d2] }
  | _ => none }
def fnExactFanOfRow : OpenClaim := { program := "ytijhoifcpijeiaa", sum := "39fc836a052ef1d7cf3beb2f9ab1444b02a0a6a344141c4a93d8fd7a0337b78b", func := "loop.example/g01324/laws.FnExactFanOf", spec := "fnExactFanOf", unfollowed := true, recurses := true, apart := false }
def FnExactFanOfSaid : Prop := fnExactFanOfRow.holds Try.pinned (OpenSpec.ofChange fnExactFanOfSpec)

/-- ITS FALSE NEIGHBOUR: 'it returns false'. Refute it at one input. -/
def fnExactFanOfWrong : ChangeSpec := { name := "fnExactFanOf", fn := fun _ => fun
  | [d1, d2] => { results := [.lit (.bool false)], args := [d1, d2] }
  | _ => none }
def FnExactFanOfWrongFalsely : Prop := fnExactFanOfRow.holds Try.pinned (OpenSpec.ofChange fnExactFanOfWrong)

/-- 'laws.FnExactRegionsOfStar': WHATEVER THE INPUT: true; the input reads as it did. -/
def fnExactRegionsOfStarSpec : ChangeSpec := { name := "fnExactRegionsOfStar", fn := fun _ => fun
  | [d] => { results := [.lit (.bool true)], args := [d] }
  | _ => none }
def fnExactRegionsOfStarRow : OpenClaim := { program := "ytijhoifcpijeiaa", sum := "39fc836a052ef1d7cf3beb2f9ab1444b02a0a6a344141c4a93d8fd7a0337b78b", func := "loop.example/g01324/laws.FnExactRegionsOfStar", spec := "fnExactRegionsOfStar", unfollowed := true, recurses := true, apart := false }
def FnExactRegionsOfStarSaid : Prop := fnExactRegionsOfStarRow.holds Try.pinned (OpenSpec.ofChange fnExactRegionsOfStarSpec)

/-- ITS FALSE NEIGHBOUR: 'it returns false'. Refute it at one input. -/
def fnExactRegionsOfStarWrong : ChangeSpec := { name := "fnExactRegionsOfStar", fn := fun _ => fun
  | [d] => { results := [.lit (.bool false)], args := [d] }
  | _ => none }
def FnExactRegionsOfStarWrongFalsely : Prop := fnExactRegionsOfStarRow.holds Try.pinned (OpenSpec.ofChange fnExactRegionsOfStarWrong)

/- THE SECOND FORM. 'bulk': how many values and letters a reading holds, each counted each time it is reached (what is shared counts as often as it is met; a slice's spare places count too). A statement '..UptoSaid' is the law's where the arguments, and the package variables that the reading takes, are together of bulk at most 1048576: NARROWER than '..Said'. Prove '..Said' where nothing that the law and all that it calls make is longer than what came in: it says more and counts as full. Else prove '..UptoSaid'. A law counts once. -/
mutual
def uptoBulk {H : Type} : DataW H → Nat
  | .lit (.string bytes) => bytes.length + 1
  | .lit _ => 1
  | .nil => 1
  | .ptr d => uptoBulk d + 1
  | .slice elems spare => uptoBulkAll elems + uptoBulkAll spare + 1
  | .agg parts => uptoBulkAll parts + 1
  | .iface _ d => uptoBulk d + 1
  | .map entries => uptoBulkEntries entries + 1
  | .held _ => 1
def uptoBulkAll {H : Type} : List (DataW H) → Nat
  | [] => 0
  | d :: r => uptoBulk d + uptoBulkAll r
def uptoBulkEntries {H : Type} : List (Lit × DataW H) → Nat
  | [] => 0
  | x :: r => uptoBulkEntry x + uptoBulkEntries r
def uptoBulkEntry {H : Type} : Lit × DataW H → Nat
  | (.string bytes, d) => bytes.length + uptoBulk d + 1
  | (_, d) => uptoBulk d + 1
 end
def uptoSmall : (H : Type) → List (DataW H) → Bool := fun _ ds => decide (uptoBulkAll ds ≤ 1048576)
def OpenSpec.upto (s : _root_.Go.ChangeSpec) : _root_.Go.OpenSpec := { _root_.Go.OpenSpec.ofChange s with cond := some uptoSmall }

/-- 'laws.FnExactMostRegions', WHERE WHAT IT READS IS OF BULK AT MOST 1048576: true; the input reads as it did. -/
def fnExactMostRegionsUptoRow : OpenClaim := { program := "ytijhoifcpijeiaa", sum := "39fc836a052ef1d7cf3beb2f9ab1444b02a0a6a344141c4a93d8fd7a0337b78b", func := "loop.example/g01324/laws.FnExactMostRegions", spec := "fnExactMostRegions", apart := false, narrowed := true }
def FnExactMostRegionsUptoSaid : Prop := fnExactMostRegionsUptoRow.holds Try.pinned (OpenSpec.upto fnExactMostRegionsSpec)

/-- 'laws.FnExactCountTriangled', WHERE WHAT IT READS IS OF BULK AT MOST 1048576: true; the input reads as it did. -/
def fnExactCountTriangledUptoRow : OpenClaim := { program := "ytijhoifcpijeiaa", sum := "39fc836a052ef1d7cf3beb2f9ab1444b02a0a6a344141c4a93d8fd7a0337b78b", func := "loop.example/g01324/laws.FnExactCountTriangled", spec := "fnExactCountTriangled", apart := false, narrowed := true }
def FnExactCountTriangledUptoSaid : Prop := fnExactCountTriangledUptoRow.holds Try.pinned (OpenSpec.upto fnExactCountTriangledSpec)

/-- 'laws.FnExactPiecesOfChord', WHERE WHAT IT READS IS OF BULK AT MOST 1048576: true; the input reads as it did. -/
def fnExactPiecesOfChordUptoRow : OpenClaim := { program := "ytijhoifcpijeiaa", sum := "39fc836a052ef1d7cf3beb2f9ab1444b02a0a6a344141c4a93d8fd7a0337b78b", func := "loop.example/g01324/laws.FnExactPiecesOfChord", spec := "fnExactPiecesOfChord", apart := false, narrowed := true }
def FnExactPiecesOfChordUptoSaid : Prop := fnExactPiecesOfChordUptoRow.holds Try.pinned (OpenSpec.upto fnExactPiecesOfChordSpec)

/-- 'laws.FnExactArcsParted', WHERE WHAT IT READS IS OF BULK AT MOST 1048576: true; the input reads as it did. -/
def fnExactArcsPartedUptoRow : OpenClaim := { program := "ytijhoifcpijeiaa", sum := "39fc836a052ef1d7cf3beb2f9ab1444b02a0a6a344141c4a93d8fd7a0337b78b", func := "loop.example/g01324/laws.FnExactArcsParted", spec := "fnExactArcsParted", unfollowed := true, recurses := true, apart := false, narrowed := true }
def FnExactArcsPartedUptoSaid : Prop := fnExactArcsPartedUptoRow.holds Try.pinned (OpenSpec.upto fnExactArcsPartedSpec)

/-- 'laws.FnExactShadesOfArcs', WHERE WHAT IT READS IS OF BULK AT MOST 1048576: true; the input reads as it did. -/
def fnExactShadesOfArcsUptoRow : OpenClaim := { program := "ytijhoifcpijeiaa", sum := "39fc836a052ef1d7cf3beb2f9ab1444b02a0a6a344141c4a93d8fd7a0337b78b", func := "loop.example/g01324/laws.FnExactShadesOfArcs", spec := "fnExactShadesOfArcs", apart := false, narrowed := true }
def FnExactShadesOfArcsUptoSaid : Prop := fnExactShadesOfArcsUptoRow.holds Try.pinned (OpenSpec.upto fnExactShadesOfArcsSpec)

/-- 'laws.FnExactRegionsOf', WHERE WHAT IT READS IS OF BULK AT MOST 1048576: true; the input reads as it did. -/
def fnExactRegionsOfUptoRow : OpenClaim := { program := "ytijhoifcpijeiaa", sum := "39fc836a052ef1d7cf3beb2f9ab1444b02a0a6a344141c4a93d8fd7a0337b78b", func := "loop.example/g01324/laws.FnExactRegionsOf", spec := "fnExactRegionsOf", apart := false, narrowed := true }
def FnExactRegionsOfUptoSaid : Prop := fnExactRegionsOfUptoRow.holds Try.pinned (OpenSpec.upto fnExactRegionsOfSpec)

/-- 'laws.FnExactCountPieces', WHERE WHAT IT READS IS OF BULK AT MOST 1048576: true; the input reads as it did. -/
def fnExactCountPiecesUptoRow : OpenClaim := { program := "ytijhoifcpijeiaa", sum := "39fc836a052ef1d7cf3beb2f9ab1444b02a0a6a344141c4a93d8fd7a0337b78b", func := "loop.example/g01324/laws.FnExactCountPieces", spec := "fnExactCountPieces", apart := false, narrowed := true }
def FnExactCountPiecesUptoSaid : Prop := fnExactCountPiecesUptoRow.holds Try.pinned (OpenSpec.upto fnExactCountPiecesSpec)

/-- 'laws.FnExactLeavesTriangles', WHERE WHAT IT READS IS OF BULK AT MOST 1048576: true; the input reads as it did. -/
def fnExactLeavesTrianglesUptoRow : OpenClaim := { program := "ytijhoifcpijeiaa", sum := "39fc836a052ef1d7cf3beb2f9ab1444b02a0a6a344141c4a93d8fd7a0337b78b", func := "loop.example/g01324/laws.FnExactLeavesTriangles", spec := "fnExactLeavesTriangles", unfollowed := true, recurses := true, apart := false, narrowed := true }
def FnExactLeavesTrianglesUptoSaid : Prop := fnExactLeavesTrianglesUptoRow.holds Try.pinned (OpenSpec.upto fnExactLeavesTrianglesSpec)

/-- 'laws.FnExactEarsOf', WHERE WHAT IT READS IS OF BULK AT MOST 1048576: true; the input reads as it did. -/
def fnExactEarsOfUptoRow : OpenClaim := { program := "ytijhoifcpijeiaa", sum := "39fc836a052ef1d7cf3beb2f9ab1444b02a0a6a344141c4a93d8fd7a0337b78b", func := "loop.example/g01324/laws.FnExactEarsOf", spec := "fnExactEarsOf", unfollowed := true, recurses := true, apart := false, narrowed := true }
def FnExactEarsOfUptoSaid : Prop := fnExactEarsOfUptoRow.holds Try.pinned (OpenSpec.upto fnExactEarsOfSpec)

/-- 'laws.FnExactFanOf', WHERE WHAT IT READS IS OF BULK AT MOST 1048576: true; the input reads as it did. -/
def fnExactFanOfUptoRow : OpenClaim := { program := "ytijhoifcpijeiaa", sum := "39fc836a052ef1d7cf3beb2f9ab1444b02a0a6a344141c4a93d8fd7a0337b78b", func := "loop.example/g01324/laws.FnExactFanOf", spec := "fnExactFanOf", unfollowed := true, recurses := true, apart := false, narrowed := true }
def FnExactFanOfUptoSaid : Prop := fnExactFanOfUptoRow.holds Try.pinned (OpenSpec.upto fnExactFanOfSpec)

/-- 'laws.FnExactRegionsOfStar', WHERE WHAT IT READS IS OF BULK AT MOST 1048576: true; the input reads as it did. -/
def fnExactRegionsOfStarUptoRow : OpenClaim := { program := "ytijhoifcpijeiaa", sum := "39fc836a052ef1d7cf3beb2f9ab1444b02a0a6a344141c4a93d8fd7a0337b78b", func := "loop.example/g01324/laws.FnExactRegionsOfStar", spec := "fnExactRegionsOfStar", unfollowed := true, recurses := true, apart := false, narrowed := true }
def FnExactRegionsOfStarUptoSaid : Prop := fnExactRegionsOfStarUptoRow.holds Try.pinned (OpenSpec.upto fnExactRegionsOfStarSpec)

end Rows
end Go.Proofs.Ytijhoifcpijeiaa
