/-
  DERIVED. GIVEN WITH THE SEED: THE CARDS: each row of YtfbnghpabppljaaGreatDoorRows.lean that lists a variable, with what it lists TIED to the program's text (the seventh form; the later family's looks); each row that meets fmt, with fmt's text TOLD by the authors' own Lean function (tested against real Go, not proved from fmt's source: count such statements apart). THE CARD IS WHAT COUNTS. Prove the row's statement (the work); the ties are given (YtfbnghpabppljaaGreatDoorTie.lean); close each card by the builder's one call (the guide's Derived/Test/ToyasCard.lean, 'card_holds'). Laid BY PROGRAM, IN A SANDBOX (cutbox-door.mjs). By AI agents, Wed Nov 11 2026. No macro, syntax, notation, axiom, sorry.
-/
import Derived.Test.YtfbnghpabppljaaGreatDoorRows
import GoSem.ClaimSeven
namespace Go.Proofs.YtfbnghpabppljaaGreatDoor
namespace Rows

/-- THE TIED CARD OF 'balustradelaw11.CheckTells'. -/
def checkTellsCard : Claim7 := { stood := { row := checkTellsRow, standIns := [], harness := (true, "ed753f0d0608e617feaa02cd342d4337e331e495cb4c429e551fa71d5635ab8c"), looks := false }, kinds := [], alts := [], laidByText := true, laidKinds := [.widerDeep], laidTests := true, laidLooks := .later }
def CheckTellsCardSaid : Prop := Claim7.holds Tryz.pinned (.plain (OpenSpec.ofChange checkTellsSpec)) checkTellsCard

/-- THE TIED CARD OF 'balustradelaw11.CheckTrees'. -/
def checkTreesCard : Claim7 := { stood := { row := checkTreesRow, standIns := [], harness := (true, "ed753f0d0608e617feaa02cd342d4337e331e495cb4c429e551fa71d5635ab8c"), looks := false }, kinds := [], alts := [], laidByText := true, laidKinds := [.widerDeep], laidTests := true, laidLooks := .later }
def CheckTreesCardSaid : Prop := Claim7.holds Tryz.pinned (.plain (OpenSpec.ofChange checkTreesSpec)) checkTreesCard

/-- THE SECOND FORM's CARD OF 'balustradelaw11.CheckTells'. -/
def checkTellsUptoCard : Claim7 := { stood := { row := checkTellsUptoRow, standIns := [], harness := (true, "ed753f0d0608e617feaa02cd342d4337e331e495cb4c429e551fa71d5635ab8c"), looks := false }, kinds := [], alts := [], laidByText := true, laidKinds := [.widerDeep], laidTests := true, laidLooks := .later }
def CheckTellsUptoCardSaid : Prop := Claim7.holds Tryz.pinned (.plain (OpenSpec.upto checkTellsSpec)) checkTellsUptoCard

/-- THE SECOND FORM's CARD OF 'balustradelaw11.CheckTrees'. -/
def checkTreesUptoCard : Claim7 := { stood := { row := checkTreesUptoRow, standIns := [], harness := (true, "ed753f0d0608e617feaa02cd342d4337e331e495cb4c429e551fa71d5635ab8c"), looks := false }, kinds := [], alts := [], laidByText := true, laidKinds := [.widerDeep], laidTests := true, laidLooks := .later }
def CheckTreesUptoCardSaid : Prop := Claim7.holds Tryz.pinned (.plain (OpenSpec.upto checkTreesSpec)) checkTreesUptoCard
end Rows
end Go.Proofs.YtfbnghpabppljaaGreatDoor
