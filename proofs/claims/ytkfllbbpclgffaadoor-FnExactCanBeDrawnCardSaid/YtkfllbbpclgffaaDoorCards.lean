/-
  DERIVED. GIVEN WITH THE SEED: THE CARDS: each row of YtkfllbbpclgffaaDoorRows.lean that lists a variable, with what it lists TIED to the program's text (the seventh form; the later family's looks); each row that meets fmt, with fmt's text TOLD by the authors' own Lean function (tested against real Go, not proved from fmt's source: count such statements apart). THE CARD IS WHAT COUNTS. Prove the row's statement (the work); the ties are given (YtkfllbbpclgffaaDoorTie.lean); close each card by the builder's one call (the guide's Derived/Test/ToyasCard.lean, 'card_holds'). Laid BY PROGRAM, IN A SANDBOX (cutbox-door.mjs). By AI agents, Wed Nov 11 2026. No macro, syntax, notation, axiom, sorry.
-/
import Derived.Test.YtkfllbbpclgffaaDoorRows
import GoSem.ClaimSeven
namespace Go.Proofs.YtkfllbbpclgffaaDoor
namespace Rows

/-- THE TIED CARD OF 'laws.FnExactAreInterlaced'. -/
def fnExactAreInterlacedCard : Claim7 := { stood := { row := fnExactAreInterlacedRow, standIns := [], harness := (true, "31d9a1dc8ffde667586e844323c58886a518d04f40daedfe91c3de4547a48eb1"), looks := false }, kinds := [], alts := [], laidByText := true, laidKinds := [.data, .pinned], laidTests := true, laidLooks := .later }
def FnExactAreInterlacedCardSaid : Prop := Claim7.holds Tryd.pinned (.plain (OpenSpec.ofChange fnExactAreInterlacedSpec)) fnExactAreInterlacedCard

/-- THE TIED CARD OF 'laws.FnExactInterlacedWith'. -/
def fnExactInterlacedWithCard : Claim7 := { stood := { row := fnExactInterlacedWithRow, standIns := [], harness := (true, "31d9a1dc8ffde667586e844323c58886a518d04f40daedfe91c3de4547a48eb1"), looks := false }, kinds := [], alts := [], laidByText := true, laidKinds := [.data, .pinned], laidTests := true, laidLooks := .later }
def FnExactInterlacedWithCardSaid : Prop := Claim7.holds Tryd.pinned (.plain (OpenSpec.ofChange fnExactInterlacedWithSpec)) fnExactInterlacedWithCard

/-- THE TIED CARD OF 'laws.FnExactIsEvenLoop'. -/
def fnExactIsEvenLoopCard : Claim7 := { stood := { row := fnExactIsEvenLoopRow, standIns := [], harness := (true, "31d9a1dc8ffde667586e844323c58886a518d04f40daedfe91c3de4547a48eb1"), looks := false }, kinds := [], alts := [], laidByText := true, laidKinds := [.data, .pinned], laidTests := true, laidLooks := .later }
def FnExactIsEvenLoopCardSaid : Prop := Claim7.holds Tryd.pinned (.plain (OpenSpec.ofChange fnExactIsEvenLoopSpec)) fnExactIsEvenLoopCard

/-- THE TIED CARD OF 'laws.FnExactRankOfLoop'. -/
def fnExactRankOfLoopCard : Claim7 := { stood := { row := fnExactRankOfLoopRow, standIns := [], harness := (true, "31d9a1dc8ffde667586e844323c58886a518d04f40daedfe91c3de4547a48eb1"), looks := false }, kinds := [], alts := [], laidByText := true, laidKinds := [.data, .pinned], laidTests := true, laidLooks := .later }
def FnExactRankOfLoopCardSaid : Prop := Claim7.holds Tryd.pinned (.plain (OpenSpec.ofChange fnExactRankOfLoopSpec)) fnExactRankOfLoopCard

/-- THE TIED CARD OF 'laws.FnExactCanBeDrawn'. -/
def fnExactCanBeDrawnCard : Claim7 := { stood := { row := fnExactCanBeDrawnRow, standIns := [], harness := (true, "31d9a1dc8ffde667586e844323c58886a518d04f40daedfe91c3de4547a48eb1"), looks := false }, kinds := [], alts := [], laidByText := true, laidKinds := [.data, .pinned], laidTests := true, laidLooks := .later }
def FnExactCanBeDrawnCardSaid : Prop := Claim7.holds Tryd.pinned (.plain (OpenSpec.ofChange fnExactCanBeDrawnSpec)) fnExactCanBeDrawnCard

/-- THE SECOND FORM's CARD OF 'laws.FnExactAreInterlaced'. -/
def fnExactAreInterlacedUptoCard : Claim7 := { stood := { row := fnExactAreInterlacedUptoRow, standIns := [], harness := (true, "31d9a1dc8ffde667586e844323c58886a518d04f40daedfe91c3de4547a48eb1"), looks := false }, kinds := [], alts := [], laidByText := true, laidKinds := [.data, .pinned], laidTests := true, laidLooks := .later }
def FnExactAreInterlacedUptoCardSaid : Prop := Claim7.holds Tryd.pinned (.plain (OpenSpec.upto fnExactAreInterlacedSpec)) fnExactAreInterlacedUptoCard

/-- THE SECOND FORM's CARD OF 'laws.FnExactInterlacedWith'. -/
def fnExactInterlacedWithUptoCard : Claim7 := { stood := { row := fnExactInterlacedWithUptoRow, standIns := [], harness := (true, "31d9a1dc8ffde667586e844323c58886a518d04f40daedfe91c3de4547a48eb1"), looks := false }, kinds := [], alts := [], laidByText := true, laidKinds := [.data, .pinned], laidTests := true, laidLooks := .later }
def FnExactInterlacedWithUptoCardSaid : Prop := Claim7.holds Tryd.pinned (.plain (OpenSpec.upto fnExactInterlacedWithSpec)) fnExactInterlacedWithUptoCard

/-- THE SECOND FORM's CARD OF 'laws.FnExactIsEvenLoop'. -/
def fnExactIsEvenLoopUptoCard : Claim7 := { stood := { row := fnExactIsEvenLoopUptoRow, standIns := [], harness := (true, "31d9a1dc8ffde667586e844323c58886a518d04f40daedfe91c3de4547a48eb1"), looks := false }, kinds := [], alts := [], laidByText := true, laidKinds := [.data, .pinned], laidTests := true, laidLooks := .later }
def FnExactIsEvenLoopUptoCardSaid : Prop := Claim7.holds Tryd.pinned (.plain (OpenSpec.upto fnExactIsEvenLoopSpec)) fnExactIsEvenLoopUptoCard

/-- THE SECOND FORM's CARD OF 'laws.FnExactRankOfLoop'. -/
def fnExactRankOfLoopUptoCard : Claim7 := { stood := { row := fnExactRankOfLoopUptoRow, standIns := [], harness := (true, "31d9a1dc8ffde667586e844323c58886a518d04f40daedfe91c3de4547a48eb1"), looks := false }, kinds := [], alts := [], laidByText := true, laidKinds := [.data, .pinned], laidTests := true, laidLooks := .later }
def FnExactRankOfLoopUptoCardSaid : Prop := Claim7.holds Tryd.pinned (.plain (OpenSpec.upto fnExactRankOfLoopSpec)) fnExactRankOfLoopUptoCard

/-- THE SECOND FORM's CARD OF 'laws.FnExactCanBeDrawn'. -/
def fnExactCanBeDrawnUptoCard : Claim7 := { stood := { row := fnExactCanBeDrawnUptoRow, standIns := [], harness := (true, "31d9a1dc8ffde667586e844323c58886a518d04f40daedfe91c3de4547a48eb1"), looks := false }, kinds := [], alts := [], laidByText := true, laidKinds := [.data, .pinned], laidTests := true, laidLooks := .later }
def FnExactCanBeDrawnUptoCardSaid : Prop := Claim7.holds Tryd.pinned (.plain (OpenSpec.upto fnExactCanBeDrawnSpec)) fnExactCanBeDrawnUptoCard
end Rows
end Go.Proofs.YtkfllbbpclgffaaDoor
