/-
  DERIVED. GIVEN WITH THE SEED: THE CARDS: each row of YtgdpeabbmbclbaaDoorRows.lean that lists a variable, with what it lists TIED to the program's text (the seventh form; the later family's looks); each row that meets fmt, with fmt's text TOLD by the authors' own Lean function (tested against real Go, not proved from fmt's source: count such statements apart). THE CARD IS WHAT COUNTS. Prove the row's statement (the work); the ties are given (YtgdpeabbmbclbaaDoorTie.lean); close each card by the builder's one call (the guide's Derived/Test/ToyasCard.lean, 'card_holds'). Laid BY PROGRAM, IN A SANDBOX (cutbox-door.mjs). By AI agents, Wed Nov 11 2026. No macro, syntax, notation, axiom, sorry.
-/
import Derived.Test.YtgdpeabbmbclbaaDoorRows
import GoSem.ClaimSeven
namespace Go.Proofs.YtgdpeabbmbclbaaDoor
namespace Rows

/-- THE TIED CARD OF 'laws.FnExactIsLoop'. -/
def fnExactIsLoopCard : Claim7 := { stood := { row := fnExactIsLoopRow, standIns := [], harness := (true, "6c39b66ebf8ce6e358ee65a3ba0e0bf1bbd857d534c242ce5d1d887f1e97a3bb"), looks := false }, kinds := [], alts := [], laidByText := true, laidKinds := [.data, .pinned], laidTests := true, laidLooks := .later }
def FnExactIsLoopCardSaid : Prop := Claim7.holds Tryd.pinned (.plain (OpenSpec.ofChange fnExactIsLoopSpec)) fnExactIsLoopCard

/-- THE TIED CARD OF 'laws.FnExactCountLoopCrossings'. -/
def fnExactCountLoopCrossingsCard : Claim7 := { stood := { row := fnExactCountLoopCrossingsRow, standIns := [], harness := (true, "6c39b66ebf8ce6e358ee65a3ba0e0bf1bbd857d534c242ce5d1d887f1e97a3bb"), looks := false }, kinds := [], alts := [], laidByText := true, laidKinds := [.data, .pinned], laidTests := true, laidLooks := .later }
def FnExactCountLoopCrossingsCardSaid : Prop := Claim7.holds Tryd.pinned (.plain (OpenSpec.ofChange fnExactCountLoopCrossingsSpec)) fnExactCountLoopCrossingsCard

/-- THE TIED CARD OF 'laws.FnExactTurnLoop'. -/
def fnExactTurnLoopCard : Claim7 := { stood := { row := fnExactTurnLoopRow, standIns := [], harness := (true, "6c39b66ebf8ce6e358ee65a3ba0e0bf1bbd857d534c242ce5d1d887f1e97a3bb"), looks := false }, kinds := [], alts := [], laidByText := true, laidKinds := [.data, .pinned], laidTests := true, laidLooks := .later }
def FnExactTurnLoopCardSaid : Prop := Claim7.holds Tryd.pinned (.plain (OpenSpec.ofChange fnExactTurnLoopSpec)) fnExactTurnLoopCard

/-- THE TIED CARD OF 'laws.FnExactJoinLoops'. -/
def fnExactJoinLoopsCard : Claim7 := { stood := { row := fnExactJoinLoopsRow, standIns := [], harness := (true, "6c39b66ebf8ce6e358ee65a3ba0e0bf1bbd857d534c242ce5d1d887f1e97a3bb"), looks := false }, kinds := [], alts := [], laidByText := true, laidKinds := [.data, .pinned], laidTests := true, laidLooks := .later }
def FnExactJoinLoopsCardSaid : Prop := Claim7.holds Tryd.pinned (.plain (OpenSpec.ofChange fnExactJoinLoopsSpec)) fnExactJoinLoopsCard

/-- THE TIED CARD OF 'laws.FnExactBackLoop'. -/
def fnExactBackLoopCard : Claim7 := { stood := { row := fnExactBackLoopRow, standIns := [], harness := (true, "6c39b66ebf8ce6e358ee65a3ba0e0bf1bbd857d534c242ce5d1d887f1e97a3bb"), looks := false }, kinds := [], alts := [], laidByText := true, laidKinds := [.data, .pinned], laidTests := true, laidLooks := .later }
def FnExactBackLoopCardSaid : Prop := Claim7.holds Tryd.pinned (.plain (OpenSpec.ofChange fnExactBackLoopSpec)) fnExactBackLoopCard

/-- THE TIED CARD OF 'laws.FnExactIsOneLoop'. -/
def fnExactIsOneLoopCard : Claim7 := { stood := { row := fnExactIsOneLoopRow, standIns := [], harness := (true, "6c39b66ebf8ce6e358ee65a3ba0e0bf1bbd857d534c242ce5d1d887f1e97a3bb"), looks := false }, kinds := [], alts := [], laidByText := true, laidKinds := [.data, .pinned], laidTests := true, laidLooks := .later }
def FnExactIsOneLoopCardSaid : Prop := Claim7.holds Tryd.pinned (.plain (OpenSpec.ofChange fnExactIsOneLoopSpec)) fnExactIsOneLoopCard

/-- THE TIED CARD OF 'laws.FnExactFirstLoop'. -/
def fnExactFirstLoopCard : Claim7 := { stood := { row := fnExactFirstLoopRow, standIns := [], harness := (true, "6c39b66ebf8ce6e358ee65a3ba0e0bf1bbd857d534c242ce5d1d887f1e97a3bb"), looks := false }, kinds := [], alts := [], laidByText := true, laidKinds := [.data, .pinned], laidTests := true, laidLooks := .later }
def FnExactFirstLoopCardSaid : Prop := Claim7.holds Tryd.pinned (.plain (OpenSpec.ofChange fnExactFirstLoopSpec)) fnExactFirstLoopCard

/-- THE TIED CARD OF 'laws.FnExactSameLoops'. -/
def fnExactSameLoopsCard : Claim7 := { stood := { row := fnExactSameLoopsRow, standIns := [], harness := (true, "6c39b66ebf8ce6e358ee65a3ba0e0bf1bbd857d534c242ce5d1d887f1e97a3bb"), looks := false }, kinds := [], alts := [], laidByText := true, laidKinds := [.data, .pinned], laidTests := true, laidLooks := .later }
def FnExactSameLoopsCardSaid : Prop := Claim7.holds Tryd.pinned (.plain (OpenSpec.ofChange fnExactSameLoopsSpec)) fnExactSameLoopsCard

/-- THE TIED CARD OF 'laws.FnExactCurlsOf'. -/
def fnExactCurlsOfCard : Claim7 := { stood := { row := fnExactCurlsOfRow, standIns := [], harness := (true, "6c39b66ebf8ce6e358ee65a3ba0e0bf1bbd857d534c242ce5d1d887f1e97a3bb"), looks := false }, kinds := [], alts := [], laidByText := true, laidKinds := [.data, .pinned], laidTests := true, laidLooks := .later }
def FnExactCurlsOfCardSaid : Prop := Claim7.holds Tryd.pinned (.plain (OpenSpec.ofChange fnExactCurlsOfSpec)) fnExactCurlsOfCard

/-- THE TIED CARD OF 'laws.FnExactDropCrossing'. -/
def fnExactDropCrossingCard : Claim7 := { stood := { row := fnExactDropCrossingRow, standIns := [], harness := (true, "6c39b66ebf8ce6e358ee65a3ba0e0bf1bbd857d534c242ce5d1d887f1e97a3bb"), looks := false }, kinds := [], alts := [], laidByText := true, laidKinds := [.data, .pinned], laidTests := true, laidLooks := .later }
def FnExactDropCrossingCardSaid : Prop := Claim7.holds Tryd.pinned (.plain (OpenSpec.ofChange fnExactDropCrossingSpec)) fnExactDropCrossingCard

/-- THE SECOND FORM's CARD OF 'laws.FnExactIsLoop'. -/
def fnExactIsLoopUptoCard : Claim7 := { stood := { row := fnExactIsLoopUptoRow, standIns := [], harness := (true, "6c39b66ebf8ce6e358ee65a3ba0e0bf1bbd857d534c242ce5d1d887f1e97a3bb"), looks := false }, kinds := [], alts := [], laidByText := true, laidKinds := [.data, .pinned], laidTests := true, laidLooks := .later }
def FnExactIsLoopUptoCardSaid : Prop := Claim7.holds Tryd.pinned (.plain (OpenSpec.upto fnExactIsLoopSpec)) fnExactIsLoopUptoCard

/-- THE SECOND FORM's CARD OF 'laws.FnExactCountLoopCrossings'. -/
def fnExactCountLoopCrossingsUptoCard : Claim7 := { stood := { row := fnExactCountLoopCrossingsUptoRow, standIns := [], harness := (true, "6c39b66ebf8ce6e358ee65a3ba0e0bf1bbd857d534c242ce5d1d887f1e97a3bb"), looks := false }, kinds := [], alts := [], laidByText := true, laidKinds := [.data, .pinned], laidTests := true, laidLooks := .later }
def FnExactCountLoopCrossingsUptoCardSaid : Prop := Claim7.holds Tryd.pinned (.plain (OpenSpec.upto fnExactCountLoopCrossingsSpec)) fnExactCountLoopCrossingsUptoCard

/-- THE SECOND FORM's CARD OF 'laws.FnExactTurnLoop'. -/
def fnExactTurnLoopUptoCard : Claim7 := { stood := { row := fnExactTurnLoopUptoRow, standIns := [], harness := (true, "6c39b66ebf8ce6e358ee65a3ba0e0bf1bbd857d534c242ce5d1d887f1e97a3bb"), looks := false }, kinds := [], alts := [], laidByText := true, laidKinds := [.data, .pinned], laidTests := true, laidLooks := .later }
def FnExactTurnLoopUptoCardSaid : Prop := Claim7.holds Tryd.pinned (.plain (OpenSpec.upto fnExactTurnLoopSpec)) fnExactTurnLoopUptoCard

/-- THE SECOND FORM's CARD OF 'laws.FnExactJoinLoops'. -/
def fnExactJoinLoopsUptoCard : Claim7 := { stood := { row := fnExactJoinLoopsUptoRow, standIns := [], harness := (true, "6c39b66ebf8ce6e358ee65a3ba0e0bf1bbd857d534c242ce5d1d887f1e97a3bb"), looks := false }, kinds := [], alts := [], laidByText := true, laidKinds := [.data, .pinned], laidTests := true, laidLooks := .later }
def FnExactJoinLoopsUptoCardSaid : Prop := Claim7.holds Tryd.pinned (.plain (OpenSpec.upto fnExactJoinLoopsSpec)) fnExactJoinLoopsUptoCard

/-- THE SECOND FORM's CARD OF 'laws.FnExactBackLoop'. -/
def fnExactBackLoopUptoCard : Claim7 := { stood := { row := fnExactBackLoopUptoRow, standIns := [], harness := (true, "6c39b66ebf8ce6e358ee65a3ba0e0bf1bbd857d534c242ce5d1d887f1e97a3bb"), looks := false }, kinds := [], alts := [], laidByText := true, laidKinds := [.data, .pinned], laidTests := true, laidLooks := .later }
def FnExactBackLoopUptoCardSaid : Prop := Claim7.holds Tryd.pinned (.plain (OpenSpec.upto fnExactBackLoopSpec)) fnExactBackLoopUptoCard

/-- THE SECOND FORM's CARD OF 'laws.FnExactIsOneLoop'. -/
def fnExactIsOneLoopUptoCard : Claim7 := { stood := { row := fnExactIsOneLoopUptoRow, standIns := [], harness := (true, "6c39b66ebf8ce6e358ee65a3ba0e0bf1bbd857d534c242ce5d1d887f1e97a3bb"), looks := false }, kinds := [], alts := [], laidByText := true, laidKinds := [.data, .pinned], laidTests := true, laidLooks := .later }
def FnExactIsOneLoopUptoCardSaid : Prop := Claim7.holds Tryd.pinned (.plain (OpenSpec.upto fnExactIsOneLoopSpec)) fnExactIsOneLoopUptoCard

/-- THE SECOND FORM's CARD OF 'laws.FnExactFirstLoop'. -/
def fnExactFirstLoopUptoCard : Claim7 := { stood := { row := fnExactFirstLoopUptoRow, standIns := [], harness := (true, "6c39b66ebf8ce6e358ee65a3ba0e0bf1bbd857d534c242ce5d1d887f1e97a3bb"), looks := false }, kinds := [], alts := [], laidByText := true, laidKinds := [.data, .pinned], laidTests := true, laidLooks := .later }
def FnExactFirstLoopUptoCardSaid : Prop := Claim7.holds Tryd.pinned (.plain (OpenSpec.upto fnExactFirstLoopSpec)) fnExactFirstLoopUptoCard

/-- THE SECOND FORM's CARD OF 'laws.FnExactSameLoops'. -/
def fnExactSameLoopsUptoCard : Claim7 := { stood := { row := fnExactSameLoopsUptoRow, standIns := [], harness := (true, "6c39b66ebf8ce6e358ee65a3ba0e0bf1bbd857d534c242ce5d1d887f1e97a3bb"), looks := false }, kinds := [], alts := [], laidByText := true, laidKinds := [.data, .pinned], laidTests := true, laidLooks := .later }
def FnExactSameLoopsUptoCardSaid : Prop := Claim7.holds Tryd.pinned (.plain (OpenSpec.upto fnExactSameLoopsSpec)) fnExactSameLoopsUptoCard

/-- THE SECOND FORM's CARD OF 'laws.FnExactCurlsOf'. -/
def fnExactCurlsOfUptoCard : Claim7 := { stood := { row := fnExactCurlsOfUptoRow, standIns := [], harness := (true, "6c39b66ebf8ce6e358ee65a3ba0e0bf1bbd857d534c242ce5d1d887f1e97a3bb"), looks := false }, kinds := [], alts := [], laidByText := true, laidKinds := [.data, .pinned], laidTests := true, laidLooks := .later }
def FnExactCurlsOfUptoCardSaid : Prop := Claim7.holds Tryd.pinned (.plain (OpenSpec.upto fnExactCurlsOfSpec)) fnExactCurlsOfUptoCard

/-- THE SECOND FORM's CARD OF 'laws.FnExactDropCrossing'. -/
def fnExactDropCrossingUptoCard : Claim7 := { stood := { row := fnExactDropCrossingUptoRow, standIns := [], harness := (true, "6c39b66ebf8ce6e358ee65a3ba0e0bf1bbd857d534c242ce5d1d887f1e97a3bb"), looks := false }, kinds := [], alts := [], laidByText := true, laidKinds := [.data, .pinned], laidTests := true, laidLooks := .later }
def FnExactDropCrossingUptoCardSaid : Prop := Claim7.holds Tryd.pinned (.plain (OpenSpec.upto fnExactDropCrossingSpec)) fnExactDropCrossingUptoCard
end Rows
end Go.Proofs.YtgdpeabbmbclbaaDoor
