/-
  DERIVED. GIVEN WITH THE SEED: THE CARDS: each row of YtcgoaipbfnhjhaaGreatDoorRows.lean that lists a variable, with what it lists TIED to the program's text (the seventh form; the later family's looks); each row that meets fmt, with fmt's text TOLD by the authors' own Lean function (tested against real Go, not proved from fmt's source: count such statements apart). THE CARD IS WHAT COUNTS. Prove the row's statement (the work); the ties are given (YtcgoaipbfnhjhaaGreatDoorTie.lean); close each card by the builder's one call (the guide's Derived/Test/ToyasCard.lean, 'card_holds'). Laid BY PROGRAM, IN A SANDBOX (cutbox-door.mjs). By AI agents, Wed Nov 11 2026. No macro, syntax, notation, axiom, sorry.
-/
import Derived.Test.YtcgoaipbfnhjhaaGreatDoorRows
import GoSem.ClaimSeven
namespace Go.Proofs.YtcgoaipbfnhjhaaGreatDoor
namespace Rows

/-- THE TIED CARD OF 'laws.FnLoopsListed'. -/
def fnLoopsListedCard : Claim7 := { stood := { row := fnLoopsListedRow, standIns := [], harness := (true, "484be979eb5d0110e8a26ef3e27895cbe156ac2638e0ebcaac341f1f8ef913b8"), looks := false }, kinds := [], alts := [], laidByText := true, laidKinds := [.data, .pinned], laidTests := true, laidLooks := .later }
def FnLoopsListedCardSaid : Prop := Claim7.holds Tryz.pinned (.plain (OpenSpec.ofChange fnLoopsListedSpec)) fnLoopsListedCard

/-- THE TIED CARD OF 'laws.FnLoopsLace'. -/
def fnLoopsLaceCard : Claim7 := { stood := { row := fnLoopsLaceRow, standIns := [], harness := (true, "484be979eb5d0110e8a26ef3e27895cbe156ac2638e0ebcaac341f1f8ef913b8"), looks := false }, kinds := [], alts := [], laidByText := true, laidKinds := [.data, .pinned], laidTests := true, laidLooks := .later }
def FnLoopsLaceCardSaid : Prop := Claim7.holds Tryz.pinned (.plain (OpenSpec.ofChange fnLoopsLaceSpec)) fnLoopsLaceCard

/-- THE SECOND FORM's CARD OF 'laws.FnLoopsListed'. -/
def fnLoopsListedUptoCard : Claim7 := { stood := { row := fnLoopsListedUptoRow, standIns := [], harness := (true, "484be979eb5d0110e8a26ef3e27895cbe156ac2638e0ebcaac341f1f8ef913b8"), looks := false }, kinds := [], alts := [], laidByText := true, laidKinds := [.data, .pinned], laidTests := true, laidLooks := .later }
def FnLoopsListedUptoCardSaid : Prop := Claim7.holds Tryz.pinned (.plain (OpenSpec.upto fnLoopsListedSpec)) fnLoopsListedUptoCard

/-- THE SECOND FORM's CARD OF 'laws.FnLoopsLace'. -/
def fnLoopsLaceUptoCard : Claim7 := { stood := { row := fnLoopsLaceUptoRow, standIns := [], harness := (true, "484be979eb5d0110e8a26ef3e27895cbe156ac2638e0ebcaac341f1f8ef913b8"), looks := false }, kinds := [], alts := [], laidByText := true, laidKinds := [.data, .pinned], laidTests := true, laidLooks := .later }
def FnLoopsLaceUptoCardSaid : Prop := Claim7.holds Tryz.pinned (.plain (OpenSpec.upto fnLoopsLaceSpec)) fnLoopsLaceUptoCard
end Rows
end Go.Proofs.YtcgoaipbfnhjhaaGreatDoor
