/-
  No cell of these rows narrows 'for every input' (looked for: loops, veiled, ifaces, maps, wideKeys, modest, calm, conditions, laid).
  DERIVED. THE GIVEN ROWS OF THIS SEAT. 6 by the template 'for every input the law returns true; each argument reads behind the call as it read before'; 0 by the template 'total and deterministic' (their statements: YtdeenfpcmaadcaaTotals.lean).
  GIVEN WITH THE SEED: the statements are not yours to turn. If you find one false, say at which input.
  Laid BY PROGRAM, IN A SANDBOX (cutbox-rows.mjs): the forced cells as the released guide's own fill.sh prints them over the translation 38d3ad027cb50557… (all of the seat's roots in one cut). By AI agents, Wed Nov 11 2026. No macro, syntax, notation, axiom, sorry.
-/
import Derived.Test.YtdeenfpcmaadcaaChecked
import GoSem.Claim
import GoSem.ClaimJoined
import GoSem.ClaimMapViews
import Derived.JoinedTies
import Derived.KernelRfl
namespace Go.Proofs.Ytdeenfpcmaadcaa
/- THE CELL 'sum', in the pinned program and in every row, IS THE sha256 OF THE DUMP (.gsa) THAT YtdeenfpcmaadcaaProg.lean LOADS. Nothing in Lean hashes anything: it is a label: what it is worth is what the hold of that sum in a sandbox is worth. -/
noncomputable def Try.pinned : Pinned := { name := "ytdeenfpcmaadcaa", sum := "38d3ad027cb50557f9776e802dd0582a0442e298fb2d91d23090c47555059bb8", checked := Try.checked }
namespace Rows
def none {H : Type} : Left H := { results := [], args := [] }

/-- 'laws.FnExactRegionSizes': WHATEVER THE INPUT: true; the input reads as it did. -/
def fnExactRegionSizesSpec : ChangeSpec := { name := "fnExactRegionSizes", fn := fun _ => fun
  | [d1, d2] => { results := [.lit (.bool true)], args := [d1, d2] }
  | _ => none }
def fnExactRegionSizesRow : OpenClaim := { program := "ytdeenfpcmaadcaa", sum := "38d3ad027cb50557f9776e802dd0582a0442e298fb2d91d23090c47555059bb8", func := "loop.example/g01324/laws.FnExactRegionSizes", spec := "fnExactRegionSizes", unfollowed := true, recurses := true, apart := false }
def FnExactRegionSizesSaid : Prop := fnExactRegionSizesRow.holds Try.pinned (OpenSpec.ofChange fnExactRegionSizesSpec)

/-- ITS FALSE NEIGHBOUR: 'it returns false'. Refute it at one input. -/
def fnExactRegionSizesWrong : ChangeSpec := { name := "fnExactRegionSizes", fn := fun _ => fun
  | [d1, d2] => { results := [.lit (.bool false)], args := [d1, d2] }
  | _ => none }
def FnExactRegionSizesWrongFalsely : Prop := fnExactRegionSizesRow.holds Try.pinned (OpenSpec.ofChange fnExactRegionSizesWrong)

/-- 'laws.FnExactRegionOfArc': WHATEVER THE INPUT: true; the input reads as it did. -/
def fnExactRegionOfArcSpec : ChangeSpec := { name := "fnExactRegionOfArc", fn := fun _ => fun
  | [d1, d2, d3] => { results := [.lit (.bool true)], args := [d1, d2, d3] }
  | _ => none }
def fnExactRegionOfArcRow : OpenClaim := { program := "ytdeenfpcmaadcaa", sum := "38d3ad027cb50557f9776e802dd0582a0442e298fb2d91d23090c47555059bb8", func := "loop.example/g01324/laws.FnExactRegionOfArc", spec := "fnExactRegionOfArc", unfollowed := true, recurses := true, apart := false }
def FnExactRegionOfArcSaid : Prop := fnExactRegionOfArcRow.holds Try.pinned (OpenSpec.ofChange fnExactRegionOfArcSpec)

/-- ITS FALSE NEIGHBOUR: 'it returns false'. Refute it at one input. -/
def fnExactRegionOfArcWrong : ChangeSpec := { name := "fnExactRegionOfArc", fn := fun _ => fun
  | [d1, d2, d3] => { results := [.lit (.bool false)], args := [d1, d2, d3] }
  | _ => none }
def FnExactRegionOfArcWrongFalsely : Prop := fnExactRegionOfArcRow.holds Try.pinned (OpenSpec.ofChange fnExactRegionOfArcWrong)

/-- 'laws.FnExactPlaneRegions': WHATEVER THE INPUT: true; the input reads as it did. -/
def fnExactPlaneRegionsSpec : ChangeSpec := { name := "fnExactPlaneRegions", fn := fun _ => fun
  | [d1, d2] => { results := [.lit (.bool true)], args := [d1, d2] }
  | _ => none }
def fnExactPlaneRegionsRow : OpenClaim := { program := "ytdeenfpcmaadcaa", sum := "38d3ad027cb50557f9776e802dd0582a0442e298fb2d91d23090c47555059bb8", func := "loop.example/g01324/laws.FnExactPlaneRegions", spec := "fnExactPlaneRegions", unfollowed := true, recurses := true, apart := false }
def FnExactPlaneRegionsSaid : Prop := fnExactPlaneRegionsRow.holds Try.pinned (OpenSpec.ofChange fnExactPlaneRegionsSpec)

/-- ITS FALSE NEIGHBOUR: 'it returns false'. Refute it at one input. -/
def fnExactPlaneRegionsWrong : ChangeSpec := { name := "fnExactPlaneRegions", fn := fun _ => fun
  | [d1, d2] => { results := [.lit (.bool false)], args := [d1, d2] }
  | _ => none }
def FnExactPlaneRegionsWrongFalsely : Prop := fnExactPlaneRegionsRow.holds Try.pinned (OpenSpec.ofChange fnExactPlaneRegionsWrong)

/-- 'laws.FnExactFlipDiagonal': WHATEVER THE INPUT: true; the input reads as it did. -/
def fnExactFlipDiagonalSpec : ChangeSpec := { name := "fnExactFlipDiagonal", fn := fun _ => fun
  | [d1, d2, d3] => { results := [.lit (.bool true)], args := [d1, d2, d3] }
  | _ => none }
def fnExactFlipDiagonalRow : OpenClaim := { program := "ytdeenfpcmaadcaa", sum := "38d3ad027cb50557f9776e802dd0582a0442e298fb2d91d23090c47555059bb8", func := "loop.example/g01324/laws.FnExactFlipDiagonal", spec := "fnExactFlipDiagonal", unfollowed := true, recurses := true, apart := false }
def FnExactFlipDiagonalSaid : Prop := fnExactFlipDiagonalRow.holds Try.pinned (OpenSpec.ofChange fnExactFlipDiagonalSpec)

/-- ITS FALSE NEIGHBOUR: 'it returns false'. Refute it at one input. -/
def fnExactFlipDiagonalWrong : ChangeSpec := { name := "fnExactFlipDiagonal", fn := fun _ => fun
  | [d1, d2, d3] => { results := [.lit (.bool false)], args := [d1, d2, d3] }
  | _ => none }
def FnExactFlipDiagonalWrongFalsely : Prop := fnExactFlipDiagonalRow.holds Try.pinned (OpenSpec.ofChange fnExactFlipDiagonalWrong)

/-- 'laws.FnExactEndRegions': WHATEVER THE INPUT: true; the input reads as it did. -/
def fnExactEndRegionsSpec : ChangeSpec := { name := "fnExactEndRegions", fn := fun _ => fun
  | [d1, d2] => { results := [.lit (.bool true)], args := [d1, d2] }
  | _ => none }
def fnExactEndRegionsRow : OpenClaim := { program := "ytdeenfpcmaadcaa", sum := "38d3ad027cb50557f9776e802dd0582a0442e298fb2d91d23090c47555059bb8", func := "loop.example/g01324/laws.FnExactEndRegions", spec := "fnExactEndRegions", unfollowed := true, recurses := true, apart := false }
def FnExactEndRegionsSaid : Prop := fnExactEndRegionsRow.holds Try.pinned (OpenSpec.ofChange fnExactEndRegionsSpec)

/-- ITS FALSE NEIGHBOUR: 'it returns false'. Refute it at one input. -/
def fnExactEndRegionsWrong : ChangeSpec := { name := "fnExactEndRegions", fn := fun _ => fun
  | [d1, d2] => { results := [.lit (.bool false)], args := [d1, d2] }
  | _ => none }
def FnExactEndRegionsWrongFalsely : Prop := fnExactEndRegionsRow.holds Try.pinned (OpenSpec.ofChange fnExactEndRegionsWrong)

/-- 'laws.FnExactNextRegions': WHATEVER THE INPUT: true; the input reads as it did. -/
def fnExactNextRegionsSpec : ChangeSpec := { name := "fnExactNextRegions", fn := fun _ => fun
  | [d1, d2] => { results := [.lit (.bool true)], args := [d1, d2] }
  | _ => none }
def fnExactNextRegionsRow : OpenClaim := { program := "ytdeenfpcmaadcaa", sum := "38d3ad027cb50557f9776e802dd0582a0442e298fb2d91d23090c47555059bb8", func := "loop.example/g01324/laws.FnExactNextRegions", spec := "fnExactNextRegions", unfollowed := true, recurses := true, apart := false }
def FnExactNextRegionsSaid : Prop := fnExactNextRegionsRow.holds Try.pinned (OpenSpec.ofChange fnExactNextRegionsSpec)

/-- ITS FALSE NEIGHBOUR: 'it returns false'. Refute it at one input. -/
def fnExactNextRegionsWrong : ChangeSpec := { name := "fnExactNextRegions", fn := fun _ => fun
  | [d1, d2] => { results := [.lit (.bool false)], args := [d1, d2] }
  | _ => none }
def FnExactNextRegionsWrongFalsely : Prop := fnExactNextRegionsRow.holds Try.pinned (OpenSpec.ofChange fnExactNextRegionsWrong)

/- THE SECOND FORM. 'bulk': how many values and letters a reading holds, each counted each time it is reached (what is shared counts as often as it is met; a slice's spare places count too). A statement '..UptoSaid' is the law's where the arguments, and the package variables that the reading takes, are together of bulk at most 1048576: NARROWER than '..Said'. Prove '..Said' where nothing that the law and all that it calls make is longer than what came in: it says more and counts as full. Else prove '..UptoSaid'. A law counts once. -/
mutual
def uptoBulk {H : Type} : DataW H → Nat
  | .lit (.string bytes) => bytes.length + 1
  | .lit _ => 1
  | .nil => 1
  | .ptr d => uptoBulk d + 1
  | .slice elems spare => uptoBulkAll elems + uptoBulkAll spare + 1
  | .agg parts => uptoBulkAll parts + 1
  | .iface _ d => uptoBulk d + 1
  | .map entries => uptoBulkEntries entries + 1
  | .held _ => 1
def uptoBulkAll {H : Type} : List (DataW H) → Nat
  | [] => 0
  | d :: r => uptoBulk d + uptoBulkAll r
def uptoBulkEntries {H : Type} : List (Lit × DataW H) → Nat
  | [] => 0
  | x :: r => uptoBulkEntry x + uptoBulkEntries r
def uptoBulkEntry {H : Type} : Lit × DataW H → Nat
  | (.string bytes, d) => bytes.length + uptoBulk d + 1
  | (_, d) => uptoBulk d + 1
 end
def uptoSmall : (H : Type) → List (DataW H) → Bool := fun _ ds => decide (uptoBulkAll ds ≤ 1048576)
def OpenSpec.upto (s : _root_.Go.ChangeSpec) : _root_.Go.OpenSpec := { _root_.Go.OpenSpec.ofChange s with cond := some uptoSmall }

/-- 'laws.FnExactRegionSizes', WHERE WHAT IT READS IS OF BULK AT MOST 1048576: true; the input reads as it did. -/
def fnExactRegionSizesUptoRow : OpenClaim := { program := "ytdeenfpcmaadcaa", sum := "38d3ad027cb50557f9776e802dd0582a0442e298fb2d91d23090c47555059bb8", func := "loop.example/g01324/laws.FnExactRegionSizes", spec := "fnExactRegionSizes", unfollowed := true, recurses := true, apart := false, narrowed := true }
def FnExactRegionSizesUptoSaid : Prop := fnExactRegionSizesUptoRow.holds Try.pinned (OpenSpec.upto fnExactRegionSizesSpec)

/-- 'laws.FnExactRegionOfArc', WHERE WHAT IT READS IS OF BULK AT MOST 1048576: true; the input reads as it did. -/
def fnExactRegionOfArcUptoRow : OpenClaim := { program := "ytdeenfpcmaadcaa", sum := "38d3ad027cb50557f9776e802dd0582a0442e298fb2d91d23090c47555059bb8", func := "loop.example/g01324/laws.FnExactRegionOfArc", spec := "fnExactRegionOfArc", unfollowed := true, recurses := true, apart := false, narrowed := true }
def FnExactRegionOfArcUptoSaid : Prop := fnExactRegionOfArcUptoRow.holds Try.pinned (OpenSpec.upto fnExactRegionOfArcSpec)

/-- 'laws.FnExactPlaneRegions', WHERE WHAT IT READS IS OF BULK AT MOST 1048576: true; the input reads as it did. -/
def fnExactPlaneRegionsUptoRow : OpenClaim := { program := "ytdeenfpcmaadcaa", sum := "38d3ad027cb50557f9776e802dd0582a0442e298fb2d91d23090c47555059bb8", func := "loop.example/g01324/laws.FnExactPlaneRegions", spec := "fnExactPlaneRegions", unfollowed := true, recurses := true, apart := false, narrowed := true }
def FnExactPlaneRegionsUptoSaid : Prop := fnExactPlaneRegionsUptoRow.holds Try.pinned (OpenSpec.upto fnExactPlaneRegionsSpec)

/-- 'laws.FnExactFlipDiagonal', WHERE WHAT IT READS IS OF BULK AT MOST 1048576: true; the input reads as it did. -/
def fnExactFlipDiagonalUptoRow : OpenClaim := { program := "ytdeenfpcmaadcaa", sum := "38d3ad027cb50557f9776e802dd0582a0442e298fb2d91d23090c47555059bb8", func := "loop.example/g01324/laws.FnExactFlipDiagonal", spec := "fnExactFlipDiagonal", unfollowed := true, recurses := true, apart := false, narrowed := true }
def FnExactFlipDiagonalUptoSaid : Prop := fnExactFlipDiagonalUptoRow.holds Try.pinned (OpenSpec.upto fnExactFlipDiagonalSpec)

/-- 'laws.FnExactEndRegions', WHERE WHAT IT READS IS OF BULK AT MOST 1048576: true; the input reads as it did. -/
def fnExactEndRegionsUptoRow : OpenClaim := { program := "ytdeenfpcmaadcaa", sum := "38d3ad027cb50557f9776e802dd0582a0442e298fb2d91d23090c47555059bb8", func := "loop.example/g01324/laws.FnExactEndRegions", spec := "fnExactEndRegions", unfollowed := true, recurses := true, apart := false, narrowed := true }
def FnExactEndRegionsUptoSaid : Prop := fnExactEndRegionsUptoRow.holds Try.pinned (OpenSpec.upto fnExactEndRegionsSpec)

/-- 'laws.FnExactNextRegions', WHERE WHAT IT READS IS OF BULK AT MOST 1048576: true; the input reads as it did. -/
def fnExactNextRegionsUptoRow : OpenClaim := { program := "ytdeenfpcmaadcaa", sum := "38d3ad027cb50557f9776e802dd0582a0442e298fb2d91d23090c47555059bb8", func := "loop.example/g01324/laws.FnExactNextRegions", spec := "fnExactNextRegions", unfollowed := true, recurses := true, apart := false, narrowed := true }
def FnExactNextRegionsUptoSaid : Prop := fnExactNextRegionsUptoRow.holds Try.pinned (OpenSpec.upto fnExactNextRegionsSpec)

end Rows
end Go.Proofs.Ytdeenfpcmaadcaa
