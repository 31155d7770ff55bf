/-
  DERIVED. GIVEN WITH THE SEED: THE CARDS: each row of YtgdlehoglpiifaaGreatDoorRows.lean that lists a variable, with what it lists TIED to the program's text (the seventh form; the later family's looks); each row that meets fmt, with fmt's text TOLD by the authors' own Lean function (tested against real Go, not proved from fmt's source: count such statements apart). THE CARD IS WHAT COUNTS. Prove the row's statement (the work); the ties are given (YtgdlehoglpiifaaGreatDoorTie.lean); close each card by the builder's one call (the guide's Derived/Test/ToyasCard.lean, 'card_holds'). Laid BY PROGRAM, IN A SANDBOX (cutbox-door.mjs). By AI agents, Wed Nov 11 2026. No macro, syntax, notation, axiom, sorry.
-/
import Derived.Test.YtgdlehoglpiifaaGreatDoorRows
import GoSem.ClaimSeven
namespace Go.Proofs.YtgdlehoglpiifaaGreatDoor
namespace Rows

/-- THE TIED CARD OF 'stadiontop.TopBellFair'. -/
def topBellFairCard : Claim7 := { stood := { row := topBellFairRow, standIns := [], harness := (true, "d4e449da5f1d696d1fea5121369394640a175a2ab61a45db7967b3b1a335dc72"), looks := true }, kinds := [], alts := [], laidByText := true, laidKinds := [.data, .data, .data, .data, .sentinel, .sentinel, .pinned], laidTests := true, laidLooks := .later }
def TopBellFairCardSaid : Prop := Claim7.holds Tryz.pinned (.plain (OpenSpec.ofChange topBellFairSpec)) topBellFairCard

/-- THE TIED CARD OF 'stadiontop.TopBellRound'. -/
def topBellRoundCard : Claim7 := { stood := { row := topBellRoundRow, standIns := [], harness := (true, "d4e449da5f1d696d1fea5121369394640a175a2ab61a45db7967b3b1a335dc72"), looks := true }, kinds := [], alts := [], laidByText := true, laidKinds := [.data, .data, .data, .data, .sentinel, .sentinel, .data, .pinned], laidTests := true, laidLooks := .later }
def TopBellRoundCardSaid : Prop := Claim7.holds Tryz.pinned (.plain (OpenSpec.ofChange topBellRoundSpec)) topBellRoundCard

/-- THE SECOND FORM's CARD OF 'stadiontop.TopBellFair'. -/
def topBellFairUptoCard : Claim7 := { stood := { row := topBellFairUptoRow, standIns := [], harness := (true, "d4e449da5f1d696d1fea5121369394640a175a2ab61a45db7967b3b1a335dc72"), looks := true }, kinds := [], alts := [], laidByText := true, laidKinds := [.data, .data, .data, .data, .sentinel, .sentinel, .pinned], laidTests := true, laidLooks := .later }
def TopBellFairUptoCardSaid : Prop := Claim7.holds Tryz.pinned (.plain (OpenSpec.upto topBellFairSpec)) topBellFairUptoCard

/-- THE SECOND FORM's CARD OF 'stadiontop.TopBellRound'. -/
def topBellRoundUptoCard : Claim7 := { stood := { row := topBellRoundUptoRow, standIns := [], harness := (true, "d4e449da5f1d696d1fea5121369394640a175a2ab61a45db7967b3b1a335dc72"), looks := true }, kinds := [], alts := [], laidByText := true, laidKinds := [.data, .data, .data, .data, .sentinel, .sentinel, .data, .pinned], laidTests := true, laidLooks := .later }
def TopBellRoundUptoCardSaid : Prop := Claim7.holds Tryz.pinned (.plain (OpenSpec.upto topBellRoundSpec)) topBellRoundUptoCard
end Rows
end Go.Proofs.YtgdlehoglpiifaaGreatDoor
