/-
  DERIVED. GIVEN WITH THE SEED: THE CARDS: each row of YtdiccmapankckaaDoorRows.lean that lists a variable, with what it lists TIED to the program's text (the seventh form; the later family's looks); each row that meets fmt, with fmt's text TOLD by the authors' own Lean function (tested against real Go, not proved from fmt's source: count such statements apart). THE CARD IS WHAT COUNTS. Prove the row's statement (the work); the ties are given (YtdiccmapankckaaDoorTie.lean); close each card by the builder's one call (the guide's Derived/Test/ToyasCard.lean, 'card_holds'). Laid BY PROGRAM, IN A SANDBOX (cutbox-door.mjs). By AI agents, Wed Nov 11 2026. No macro, syntax, notation, axiom, sorry.
-/
import Derived.Test.YtdiccmapankckaaDoorRows
import GoSem.ClaimSeven
namespace Go.Proofs.YtdiccmapankckaaDoor
namespace Rows

/-- THE TIED CARD OF 'balustradelaw08.ParseDeep'. -/
def parseDeepCard : Claim7 := { stood := { row := parseDeepRow, standIns := [], harness := (true, "5572eac864f1576e7b2e3fe08414e40c29e44ee2549525b115d95989c228f253"), looks := false }, kinds := [], alts := [], laidByText := true, laidKinds := [.widerDeep, .widerDeep], laidTests := true, laidLooks := .later }
def ParseDeepCardSaid : Prop := Claim7.holds Tryd.pinned (.plain (OpenSpec.ofChange parseDeepSpec)) parseDeepCard

/-- THE TIED CARD OF 'balustradelaw08.ParseStands'. -/
def parseStandsCard : Claim7 := { stood := { row := parseStandsRow, standIns := [], harness := (true, "5572eac864f1576e7b2e3fe08414e40c29e44ee2549525b115d95989c228f253"), looks := false }, kinds := [], alts := [], laidByText := true, laidKinds := [.widerDeep, .widerDeep], laidTests := true, laidLooks := .later }
def ParseStandsCardSaid : Prop := Claim7.holds Tryd.pinned (.plain (OpenSpec.ofChange parseStandsSpec)) parseStandsCard

/-- THE TIED CARD OF 'balustradelaw08.ParseTokens'. -/
def parseTokensCard : Claim7 := { stood := { row := parseTokensRow, standIns := [], harness := (true, "5572eac864f1576e7b2e3fe08414e40c29e44ee2549525b115d95989c228f253"), looks := false }, kinds := [], alts := [], laidByText := true, laidKinds := [.widerDeep, .widerDeep], laidTests := true, laidLooks := .later }
def ParseTokensCardSaid : Prop := Claim7.holds Tryd.pinned (.plain (OpenSpec.ofChange parseTokensSpec)) parseTokensCard

/-- THE SECOND FORM's CARD OF 'balustradelaw08.ParseDeep'. -/
def parseDeepUptoCard : Claim7 := { stood := { row := parseDeepUptoRow, standIns := [], harness := (true, "5572eac864f1576e7b2e3fe08414e40c29e44ee2549525b115d95989c228f253"), looks := false }, kinds := [], alts := [], laidByText := true, laidKinds := [.widerDeep, .widerDeep], laidTests := true, laidLooks := .later }
def ParseDeepUptoCardSaid : Prop := Claim7.holds Tryd.pinned (.plain (OpenSpec.upto parseDeepSpec)) parseDeepUptoCard

/-- THE SECOND FORM's CARD OF 'balustradelaw08.ParseStands'. -/
def parseStandsUptoCard : Claim7 := { stood := { row := parseStandsUptoRow, standIns := [], harness := (true, "5572eac864f1576e7b2e3fe08414e40c29e44ee2549525b115d95989c228f253"), looks := false }, kinds := [], alts := [], laidByText := true, laidKinds := [.widerDeep, .widerDeep], laidTests := true, laidLooks := .later }
def ParseStandsUptoCardSaid : Prop := Claim7.holds Tryd.pinned (.plain (OpenSpec.upto parseStandsSpec)) parseStandsUptoCard

/-- THE SECOND FORM's CARD OF 'balustradelaw08.ParseTokens'. -/
def parseTokensUptoCard : Claim7 := { stood := { row := parseTokensUptoRow, standIns := [], harness := (true, "5572eac864f1576e7b2e3fe08414e40c29e44ee2549525b115d95989c228f253"), looks := false }, kinds := [], alts := [], laidByText := true, laidKinds := [.widerDeep, .widerDeep], laidTests := true, laidLooks := .later }
def ParseTokensUptoCardSaid : Prop := Claim7.holds Tryd.pinned (.plain (OpenSpec.upto parseTokensSpec)) parseTokensUptoCard
end Rows
end Go.Proofs.YtdiccmapankckaaDoor
