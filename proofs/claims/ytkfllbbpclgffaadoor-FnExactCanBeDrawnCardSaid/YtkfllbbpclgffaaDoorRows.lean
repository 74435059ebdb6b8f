/-
  NARROWER THAN 'FOR EVERY INPUT', by the rows' own cells (each row's printed sentence says how): FnExactAreInterlaced: laid · FnExactInterlacedWith: laid · FnExactIsEvenLoop: laid · FnExactRankOfLoop: laid · FnExactCanBeDrawn: laid.
  DERIVED. THE GIVEN ROWS OF THIS SEAT. 5 by the template 'for every input the law returns true; each argument reads behind the call as it read before'; 0 by the template 'total and deterministic' (their statements: YtkfllbbpclgffaaDoorTotals.lean).
  GIVEN WITH THE SEED: the statements are not yours to turn. If you find one false, say at which input.
  Laid BY PROGRAM, IN A SANDBOX (cutbox-rows.mjs): the forced cells as the released guide's own fill.sh prints them over the translation 0a415117ac2b3e20… (all of the seat's roots in one cut). By AI agents, Wed Nov 11 2026. No macro, syntax, notation, axiom, sorry.
-/
import Derived.Test.YtkfllbbpclgffaaDoorChecked
import GoSem.PinnedTables
import GoSem.Claim
import GoSem.ClaimJoined
import GoSem.ClaimMapViews
import Derived.JoinedTies
import Derived.KernelRfl
namespace Go.Proofs.YtkfllbbpclgffaaDoor
/- THE CELL 'sum', in the pinned program and in every row, IS THE sha256 OF THE DUMP (.gsa) THAT YtkfllbbpclgffaaDoorProg.lean LOADS. Nothing in Lean hashes anything: it is a label: what it is worth is what the hold of that sum in a sandbox is worth. -/
noncomputable def Tryd.pinned : Pinned := { name := "ytkfllbbpclgffaadoor", sum := "0a415117ac2b3e20209f6e3f69b1c35742f7372dce4ed3ef8faa6e10d5af2ca7", checked := Tryd.checked }
namespace Rows
def none {H : Type} : Left H := { results := [], args := [] }

/- WHAT THE LISTED PACKAGE-LEVEL VARIABLES READ AS WHEN THE CALL BEGINS. Each datum BY PROGRAM (the guide's laid-datum.mjs) off the statement by which the dump's own 'gosem.cut.vars' lays the variable. In a bare row this is a premise. The card (YtkfllbbpclgffaaDoorCards.lean) ties it to the program's text. -/
def laid_unicode_utf8_acceptRanges {H : Type} : DataW H := .agg [.agg [.lit (.int .u8 128), .lit (.int .u8 191)], .agg [.lit (.int .u8 160), .lit (.int .u8 191)], .agg [.lit (.int .u8 128), .lit (.int .u8 159)], .agg [.lit (.int .u8 144), .lit (.int .u8 191)], .agg [.lit (.int .u8 128), .lit (.int .u8 143)], .agg [.lit (.int .u8 0), .lit (.int .u8 0)], .agg [.lit (.int .u8 0), .lit (.int .u8 0)], .agg [.lit (.int .u8 0), .lit (.int .u8 0)], .agg [.lit (.int .u8 0), .lit (.int .u8 0)], .agg [.lit (.int .u8 0), .lit (.int .u8 0)], .agg [.lit (.int .u8 0), .lit (.int .u8 0)], .agg [.lit (.int .u8 0), .lit (.int .u8 0)], .agg [.lit (.int .u8 0), .lit (.int .u8 0)], .agg [.lit (.int .u8 0), .lit (.int .u8 0)], .agg [.lit (.int .u8 0), .lit (.int .u8 0)], .agg [.lit (.int .u8 0), .lit (.int .u8 0)]]
/-- One of Go's own tables, pinned by name: the form's constant. -/
def laid_unicode_utf8_first : DataW Unit := Go.Pinned.utf8First

/-- 'laws.FnExactAreInterlaced': WHATEVER THE INPUT: true; the input reads as it did. -/
def fnExactAreInterlacedSpec : ChangeSpec := { name := "fnExactAreInterlaced", fn := fun _ => fun
  | [d1, d2, d3] => { results := [.lit (.bool true)], args := [d1, d2, d3] }
  | _ => none }
def fnExactAreInterlacedRow : OpenClaim := { program := "ytkfllbbpclgffaadoor", sum := "0a415117ac2b3e20209f6e3f69b1c35742f7372dce4ed3ef8faa6e10d5af2ca7", func := "loop.example/g01324/laws.FnExactAreInterlaced", spec := "fnExactAreInterlaced", inPlace := ["internal/bytealg.IndexByteString", "internal/bytealg.IndexString", "internal/bytealg.CountString"], unfollowed := true, recurses := true, named := ["unicode/utf8.first", "unicode/utf8.acceptRanges", "internal/bytealg.MaxLen"], apart := false, laid := [("unicode/utf8.acceptRanges", laid_unicode_utf8_acceptRanges), ("unicode/utf8.first", laid_unicode_utf8_first)] }
def FnExactAreInterlacedSaid : Prop := fnExactAreInterlacedRow.holds Tryd.pinned (OpenSpec.ofChange fnExactAreInterlacedSpec)

/-- ITS FALSE NEIGHBOUR: 'it returns false'. Refute it at one input. -/
def fnExactAreInterlacedWrong : ChangeSpec := { name := "fnExactAreInterlaced", fn := fun _ => fun
  | [d1, d2, d3] => { results := [.lit (.bool false)], args := [d1, d2, d3] }
  | _ => none }
def FnExactAreInterlacedWrongFalsely : Prop := fnExactAreInterlacedRow.holds Tryd.pinned (OpenSpec.ofChange fnExactAreInterlacedWrong)

/-- 'laws.FnExactInterlacedWith': WHATEVER THE INPUT: true; the input reads as it did. -/
def fnExactInterlacedWithSpec : ChangeSpec := { name := "fnExactInterlacedWith", fn := fun _ => fun
  | [d1, d2] => { results := [.lit (.bool true)], args := [d1, d2] }
  | _ => none }
def fnExactInterlacedWithRow : OpenClaim := { program := "ytkfllbbpclgffaadoor", sum := "0a415117ac2b3e20209f6e3f69b1c35742f7372dce4ed3ef8faa6e10d5af2ca7", func := "loop.example/g01324/laws.FnExactInterlacedWith", spec := "fnExactInterlacedWith", inPlace := ["internal/bytealg.IndexByteString", "internal/bytealg.IndexString", "internal/bytealg.CountString"], unfollowed := true, recurses := true, named := ["unicode/utf8.first", "unicode/utf8.acceptRanges", "internal/bytealg.MaxLen"], apart := false, laid := [("unicode/utf8.acceptRanges", laid_unicode_utf8_acceptRanges), ("unicode/utf8.first", laid_unicode_utf8_first)] }
def FnExactInterlacedWithSaid : Prop := fnExactInterlacedWithRow.holds Tryd.pinned (OpenSpec.ofChange fnExactInterlacedWithSpec)

/-- ITS FALSE NEIGHBOUR: 'it returns false'. Refute it at one input. -/
def fnExactInterlacedWithWrong : ChangeSpec := { name := "fnExactInterlacedWith", fn := fun _ => fun
  | [d1, d2] => { results := [.lit (.bool false)], args := [d1, d2] }
  | _ => none }
def FnExactInterlacedWithWrongFalsely : Prop := fnExactInterlacedWithRow.holds Tryd.pinned (OpenSpec.ofChange fnExactInterlacedWithWrong)

/-- 'laws.FnExactIsEvenLoop': WHATEVER THE INPUT: true; the input reads as it did. -/
def fnExactIsEvenLoopSpec : ChangeSpec := { name := "fnExactIsEvenLoop", fn := fun _ => fun
  | [d] => { results := [.lit (.bool true)], args := [d] }
  | _ => none }
def fnExactIsEvenLoopRow : OpenClaim := { program := "ytkfllbbpclgffaadoor", sum := "0a415117ac2b3e20209f6e3f69b1c35742f7372dce4ed3ef8faa6e10d5af2ca7", func := "loop.example/g01324/laws.FnExactIsEvenLoop", spec := "fnExactIsEvenLoop", inPlace := ["internal/bytealg.IndexByteString", "internal/bytealg.IndexString", "internal/bytealg.CountString"], unfollowed := true, recurses := true, named := ["unicode/utf8.first", "unicode/utf8.acceptRanges", "internal/bytealg.MaxLen"], apart := false, laid := [("unicode/utf8.acceptRanges", laid_unicode_utf8_acceptRanges), ("unicode/utf8.first", laid_unicode_utf8_first)] }
def FnExactIsEvenLoopSaid : Prop := fnExactIsEvenLoopRow.holds Tryd.pinned (OpenSpec.ofChange fnExactIsEvenLoopSpec)

/-- ITS FALSE NEIGHBOUR: 'it returns false'. Refute it at one input. -/
def fnExactIsEvenLoopWrong : ChangeSpec := { name := "fnExactIsEvenLoop", fn := fun _ => fun
  | [d] => { results := [.lit (.bool false)], args := [d] }
  | _ => none }
def FnExactIsEvenLoopWrongFalsely : Prop := fnExactIsEvenLoopRow.holds Tryd.pinned (OpenSpec.ofChange fnExactIsEvenLoopWrong)

/-- 'laws.FnExactRankOfLoop': WHATEVER THE INPUT: true; the input reads as it did. -/
def fnExactRankOfLoopSpec : ChangeSpec := { name := "fnExactRankOfLoop", fn := fun _ => fun
  | [d] => { results := [.lit (.bool true)], args := [d] }
  | _ => none }
def fnExactRankOfLoopRow : OpenClaim := { program := "ytkfllbbpclgffaadoor", sum := "0a415117ac2b3e20209f6e3f69b1c35742f7372dce4ed3ef8faa6e10d5af2ca7", func := "loop.example/g01324/laws.FnExactRankOfLoop", spec := "fnExactRankOfLoop", inPlace := ["internal/bytealg.IndexByteString", "internal/bytealg.IndexString", "internal/bytealg.CountString"], unfollowed := true, recurses := true, named := ["unicode/utf8.first", "unicode/utf8.acceptRanges", "internal/bytealg.MaxLen"], apart := false, laid := [("unicode/utf8.acceptRanges", laid_unicode_utf8_acceptRanges), ("unicode/utf8.first", laid_unicode_utf8_first)] }
def FnExactRankOfLoopSaid : Prop := fnExactRankOfLoopRow.holds Tryd.pinned (OpenSpec.ofChange fnExactRankOfLoopSpec)

/-- ITS FALSE NEIGHBOUR: 'it returns false'. Refute it at one input. -/
def fnExactRankOfLoopWrong : ChangeSpec := { name := "fnExactRankOfLoop", fn := fun _ => fun
  | [d] => { results := [.lit (.bool false)], args := [d] }
  | _ => none }
def FnExactRankOfLoopWrongFalsely : Prop := fnExactRankOfLoopRow.holds Tryd.pinned (OpenSpec.ofChange fnExactRankOfLoopWrong)

/-- 'laws.FnExactCanBeDrawn': WHATEVER THE INPUT: true; the input reads as it did. -/
def fnExactCanBeDrawnSpec : ChangeSpec := { name := "fnExactCanBeDrawn", fn := fun _ => fun
  | [d] => { results := [.lit (.bool true)], args := [d] }
  | _ => none }
def fnExactCanBeDrawnRow : OpenClaim := { program := "ytkfllbbpclgffaadoor", sum := "0a415117ac2b3e20209f6e3f69b1c35742f7372dce4ed3ef8faa6e10d5af2ca7", func := "loop.example/g01324/laws.FnExactCanBeDrawn", spec := "fnExactCanBeDrawn", inPlace := ["internal/bytealg.IndexByteString", "internal/bytealg.IndexString", "internal/bytealg.CountString"], unfollowed := true, recurses := true, named := ["unicode/utf8.first", "unicode/utf8.acceptRanges", "internal/bytealg.MaxLen"], apart := false, laid := [("unicode/utf8.acceptRanges", laid_unicode_utf8_acceptRanges), ("unicode/utf8.first", laid_unicode_utf8_first)] }
def FnExactCanBeDrawnSaid : Prop := fnExactCanBeDrawnRow.holds Tryd.pinned (OpenSpec.ofChange fnExactCanBeDrawnSpec)

/-- ITS FALSE NEIGHBOUR: 'it returns false'. Refute it at one input. -/
def fnExactCanBeDrawnWrong : ChangeSpec := { name := "fnExactCanBeDrawn", fn := fun _ => fun
  | [d] => { results := [.lit (.bool false)], args := [d] }
  | _ => none }
def FnExactCanBeDrawnWrongFalsely : Prop := fnExactCanBeDrawnRow.holds Tryd.pinned (OpenSpec.ofChange fnExactCanBeDrawnWrong)

/- THE SECOND FORM. 'bulk': how many values and letters a reading holds, each counted each time it is reached (what is shared counts as often as it is met; a slice's spare places count too). A statement '..UptoSaid' is the law's where the arguments, and the package variables that the reading takes, are together of bulk at most 1048576: NARROWER than '..Said'. Prove '..Said' where nothing that the law and all that it calls make is longer than what came in: it says more and counts as full. Else prove '..UptoSaid'. A law counts once. -/
mutual
def uptoBulk {H : Type} : DataW H → Nat
  | .lit (.string bytes) => bytes.length + 1
  | .lit _ => 1
  | .nil => 1
  | .ptr d => uptoBulk d + 1
  | .slice elems spare => uptoBulkAll elems + uptoBulkAll spare + 1
  | .agg parts => uptoBulkAll parts + 1
  | .iface _ d => uptoBulk d + 1
  | .map entries => uptoBulkEntries entries + 1
  | .held _ => 1
def uptoBulkAll {H : Type} : List (DataW H) → Nat
  | [] => 0
  | d :: r => uptoBulk d + uptoBulkAll r
def uptoBulkEntries {H : Type} : List (Lit × DataW H) → Nat
  | [] => 0
  | x :: r => uptoBulkEntry x + uptoBulkEntries r
def uptoBulkEntry {H : Type} : Lit × DataW H → Nat
  | (.string bytes, d) => bytes.length + uptoBulk d + 1
  | (_, d) => uptoBulk d + 1
 end
def uptoSmall : (H : Type) → List (DataW H) → Bool := fun _ ds => decide (uptoBulkAll ds ≤ 1048576)
def OpenSpec.upto (s : _root_.Go.ChangeSpec) : _root_.Go.OpenSpec := { _root_.Go.OpenSpec.ofChange s with cond := some uptoSmall }

/-- 'laws.FnExactAreInterlaced', WHERE WHAT IT READS IS OF BULK AT MOST 1048576: true; the input reads as it did. -/
def fnExactAreInterlacedUptoRow : OpenClaim := { program := "ytkfllbbpclgffaadoor", sum := "0a415117ac2b3e20209f6e3f69b1c35742f7372dce4ed3ef8faa6e10d5af2ca7", func := "loop.example/g01324/laws.FnExactAreInterlaced", spec := "fnExactAreInterlaced", inPlace := ["internal/bytealg.IndexByteString", "internal/bytealg.IndexString", "internal/bytealg.CountString"], unfollowed := true, recurses := true, named := ["unicode/utf8.first", "unicode/utf8.acceptRanges", "internal/bytealg.MaxLen"], apart := false, laid := [("unicode/utf8.acceptRanges", laid_unicode_utf8_acceptRanges), ("unicode/utf8.first", laid_unicode_utf8_first)], narrowed := true }
def FnExactAreInterlacedUptoSaid : Prop := fnExactAreInterlacedUptoRow.holds Tryd.pinned (OpenSpec.upto fnExactAreInterlacedSpec)

/-- 'laws.FnExactInterlacedWith', WHERE WHAT IT READS IS OF BULK AT MOST 1048576: true; the input reads as it did. -/
def fnExactInterlacedWithUptoRow : OpenClaim := { program := "ytkfllbbpclgffaadoor", sum := "0a415117ac2b3e20209f6e3f69b1c35742f7372dce4ed3ef8faa6e10d5af2ca7", func := "loop.example/g01324/laws.FnExactInterlacedWith", spec := "fnExactInterlacedWith", inPlace := ["internal/bytealg.IndexByteString", "internal/bytealg.IndexString", "internal/bytealg.CountString"], unfollowed := true, recurses := true, named := ["unicode/utf8.first", "unicode/utf8.acceptRanges", "internal/bytealg.MaxLen"], apart := false, laid := [("unicode/utf8.acceptRanges", laid_unicode_utf8_acceptRanges), ("unicode/utf8.first", laid_unicode_utf8_first)], narrowed := true }
def FnExactInterlacedWithUptoSaid : Prop := fnExactInterlacedWithUptoRow.holds Tryd.pinned (OpenSpec.upto fnExactInterlacedWithSpec)

/-- 'laws.FnExactIsEvenLoop', WHERE WHAT IT READS IS OF BULK AT MOST 1048576: true; the input reads as it did. -/
def fnExactIsEvenLoopUptoRow : OpenClaim := { program := "ytkfllbbpclgffaadoor", sum := "0a415117ac2b3e20209f6e3f69b1c35742f7372dce4ed3ef8faa6e10d5af2ca7", func := "loop.example/g01324/laws.FnExactIsEvenLoop", spec := "fnExactIsEvenLoop", inPlace := ["internal/bytealg.IndexByteString", "internal/bytealg.IndexString", "internal/bytealg.CountString"], unfollowed := true, recurses := true, named := ["unicode/utf8.first", "unicode/utf8.acceptRanges", "internal/bytealg.MaxLen"], apart := false, laid := [("unicode/utf8.acceptRanges", laid_unicode_utf8_acceptRanges), ("unicode/utf8.first", laid_unicode_utf8_first)], narrowed := true }
def FnExactIsEvenLoopUptoSaid : Prop := fnExactIsEvenLoopUptoRow.holds Tryd.pinned (OpenSpec.upto fnExactIsEvenLoopSpec)

/-- 'laws.FnExactRankOfLoop', WHERE WHAT IT READS IS OF BULK AT MOST 1048576: true; the input reads as it did. -/
def fnExactRankOfLoopUptoRow : OpenClaim := { program := "ytkfllbbpclgffaadoor", sum := "0a415117ac2b3e20209f6e3f69b1c35742f7372dce4ed3ef8faa6e10d5af2ca7", func := "loop.example/g01324/laws.FnExactRankOfLoop", spec := "fnExactRankOfLoop", inPlace := ["internal/bytealg.IndexByteString", "internal/bytealg.IndexString", "internal/bytealg.CountString"], unfollowed := true, recurses := true, named := ["unicode/utf8.first", "unicode/utf8.acceptRanges", "internal/bytealg.MaxLen"], apart := false, laid := [("unicode/utf8.acceptRanges", laid_unicode_utf8_acceptRanges), ("unicode/utf8.first", laid_unicode_utf8_first)], narrowed := true }
def FnExactRankOfLoopUptoSaid : Prop := fnExactRankOfLoopUptoRow.holds Tryd.pinned (OpenSpec.upto fnExactRankOfLoopSpec)

/-- 'laws.FnExactCanBeDrawn', WHERE WHAT IT READS IS OF BULK AT MOST 1048576: true; the input reads as it did. -/
def fnExactCanBeDrawnUptoRow : OpenClaim := { program := "ytkfllbbpclgffaadoor", sum := "0a415117ac2b3e20209f6e3f69b1c35742f7372dce4ed3ef8faa6e10d5af2ca7", func := "loop.example/g01324/laws.FnExactCanBeDrawn", spec := "fnExactCanBeDrawn", inPlace := ["internal/bytealg.IndexByteString", "internal/bytealg.IndexString", "internal/bytealg.CountString"], unfollowed := true, recurses := true, named := ["unicode/utf8.first", "unicode/utf8.acceptRanges", "internal/bytealg.MaxLen"], apart := false, laid := [("unicode/utf8.acceptRanges", laid_unicode_utf8_acceptRanges), ("unicode/utf8.first", laid_unicode_utf8_first)], narrowed := true }
def FnExactCanBeDrawnUptoSaid : Prop := fnExactCanBeDrawnUptoRow.holds Tryd.pinned (OpenSpec.upto fnExactCanBeDrawnSpec)

end Rows
end Go.Proofs.YtkfllbbpclgffaaDoor
