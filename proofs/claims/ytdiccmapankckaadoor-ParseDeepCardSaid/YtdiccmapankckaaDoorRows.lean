/-
  NARROWER THAN 'FOR EVERY INPUT', by the rows' own cells (each row's printed sentence says how): ParseDeep: laid · ParseStands: laid · ParseTokens: laid.
  DERIVED. THE GIVEN ROWS OF THIS SEAT. 3 by the template 'for every input the law returns true; each argument reads behind the call as it read before'; 0 by the template 'total and deterministic' (their statements: YtdiccmapankckaaDoorTotals.lean).
  GIVEN WITH THE SEED: the statements are not yours to turn. If you find one false, say at which input.
  Laid BY PROGRAM, IN A SANDBOX (cutbox-rows.mjs): the forced cells as the released guide's own fill.sh prints them over the translation f09357651b590ba2… (all of the seat's roots in one cut). By AI agents, Wed Nov 11 2026. No macro, syntax, notation, axiom, sorry.
-/
import Derived.Test.YtdiccmapankckaaDoorChecked
import GoSem.Claim
import GoSem.ClaimJoined
import GoSem.ClaimMapViews
import Derived.JoinedTies
import Derived.KernelRfl
namespace Go.Proofs.YtdiccmapankckaaDoor
/- THE CELL 'sum', in the pinned program and in every row, IS THE sha256 OF THE DUMP (.gsa) THAT YtdiccmapankckaaDoorProg.lean LOADS. Nothing in Lean hashes anything: it is a label: what it is worth is what the hold of that sum in a sandbox is worth. -/
noncomputable def Tryd.pinned : Pinned := { name := "ytdiccmapankckaadoor", sum := "f09357651b590ba2729515a4855420e7e0830001c79d2712da35d9cd44918626", checked := Tryd.checked }
namespace Rows
def none {H : Type} : Left H := { results := [], args := [] }

/- WHAT THE LISTED PACKAGE-LEVEL VARIABLES READ AS WHEN THE CALL BEGINS. Each datum BY PROGRAM (the guide's laid-datum.mjs) off the statement by which the dump's own 'gosem.cut.vars' lays the variable. In a bare row this is a premise. The card (YtdiccmapankckaaDoorCards.lean) ties it to the program's text. -/
def laid_balustrade_lex_words {H : Type} : DataW H := .slice [.lit (.string [102, 110]), .lit (.string [118, 97, 114]), .lit (.string [105, 102]), .lit (.string [101, 108, 115, 101]), .lit (.string [119, 104, 105, 108, 101]), .lit (.string [102, 111, 114]), .lit (.string [98, 114, 101, 97, 107]), .lit (.string [99, 111, 110, 116, 105, 110, 117, 101]), .lit (.string [114, 101, 116, 117, 114, 110]), .lit (.string [112, 114, 105, 110, 116]), .lit (.string [108, 101, 110]), .lit (.string [110, 101, 119]), .lit (.string [116, 114, 117, 101]), .lit (.string [102, 97, 108, 115, 101]), .lit (.string [110, 105, 108]), .lit (.string [105, 110, 116]), .lit (.string [98, 111, 111, 108]), .lit (.string [97, 114, 114])] []
def laid_balustrade_lex_signs {H : Type} : DataW H := .slice [.lit (.string [124, 124]), .lit (.string [38, 38]), .lit (.string [61, 61]), .lit (.string [33, 61]), .lit (.string [60, 61]), .lit (.string [62, 61]), .lit (.string [43, 37]), .lit (.string [45, 37]), .lit (.string [42, 37]), .lit (.string [60]), .lit (.string [62]), .lit (.string [43]), .lit (.string [45]), .lit (.string [42]), .lit (.string [47]), .lit (.string [37]), .lit (.string [33]), .lit (.string [61]), .lit (.string [40]), .lit (.string [41]), .lit (.string [123]), .lit (.string [125]), .lit (.string [91]), .lit (.string [93]), .lit (.string [44]), .lit (.string [59])] []

/-- 'balustradelaw08.ParseDeep': WHATEVER THE INPUT: true; the input reads as it did. -/
def parseDeepSpec : ChangeSpec := { name := "parseDeep", fn := fun _ => fun
  | [d1, d2] => { results := [.lit (.bool true)], args := [d1, d2] }
  | _ => none }
def parseDeepRow : OpenClaim := { program := "ytdiccmapankckaadoor", sum := "f09357651b590ba2729515a4855420e7e0830001c79d2712da35d9cd44918626", func := "balustrade/balustradelaw08.ParseDeep", spec := "parseDeep", inPlace := ["internal/bytealg.IndexByteString", "internal/bytealg.IndexString"], unfollowed := true, recurses := true, named := ["balustrade/lex.signs", "internal/bytealg.MaxLen", "balustrade/lex.words"], apart := false, laid := [("balustrade/lex.words", laid_balustrade_lex_words), ("balustrade/lex.signs", laid_balustrade_lex_signs)] }
def ParseDeepSaid : Prop := parseDeepRow.holds Tryd.pinned (OpenSpec.ofChange parseDeepSpec)

/-- ITS FALSE NEIGHBOUR: 'it returns false'. Refute it at one input. -/
def parseDeepWrong : ChangeSpec := { name := "parseDeep", fn := fun _ => fun
  | [d1, d2] => { results := [.lit (.bool false)], args := [d1, d2] }
  | _ => none }
def ParseDeepWrongFalsely : Prop := parseDeepRow.holds Tryd.pinned (OpenSpec.ofChange parseDeepWrong)

/-- 'balustradelaw08.ParseStands': WHATEVER THE INPUT: true; the input reads as it did. -/
def parseStandsSpec : ChangeSpec := { name := "parseStands", fn := fun _ => fun
  | [d] => { results := [.lit (.bool true)], args := [d] }
  | _ => none }
def parseStandsRow : OpenClaim := { program := "ytdiccmapankckaadoor", sum := "f09357651b590ba2729515a4855420e7e0830001c79d2712da35d9cd44918626", func := "balustrade/balustradelaw08.ParseStands", spec := "parseStands", inPlace := ["internal/bytealg.IndexByteString", "internal/bytealg.IndexString"], unfollowed := true, recurses := true, named := ["balustrade/lex.signs", "internal/bytealg.MaxLen", "balustrade/lex.words"], apart := false, laid := [("balustrade/lex.words", laid_balustrade_lex_words), ("balustrade/lex.signs", laid_balustrade_lex_signs)] }
def ParseStandsSaid : Prop := parseStandsRow.holds Tryd.pinned (OpenSpec.ofChange parseStandsSpec)

/-- ITS FALSE NEIGHBOUR: 'it returns false'. Refute it at one input. -/
def parseStandsWrong : ChangeSpec := { name := "parseStands", fn := fun _ => fun
  | [d] => { results := [.lit (.bool false)], args := [d] }
  | _ => none }
def ParseStandsWrongFalsely : Prop := parseStandsRow.holds Tryd.pinned (OpenSpec.ofChange parseStandsWrong)

/-- 'balustradelaw08.ParseTokens': WHATEVER THE INPUT: true; the input reads as it did. -/
def parseTokensSpec : ChangeSpec := { name := "parseTokens", fn := fun _ => fun
  | [d] => { results := [.lit (.bool true)], args := [d] }
  | _ => none }
def parseTokensRow : OpenClaim := { program := "ytdiccmapankckaadoor", sum := "f09357651b590ba2729515a4855420e7e0830001c79d2712da35d9cd44918626", func := "balustrade/balustradelaw08.ParseTokens", spec := "parseTokens", inPlace := ["internal/bytealg.IndexByteString", "internal/bytealg.IndexString"], unfollowed := true, recurses := true, named := ["balustrade/lex.signs", "internal/bytealg.MaxLen", "balustrade/lex.words"], apart := false, laid := [("balustrade/lex.words", laid_balustrade_lex_words), ("balustrade/lex.signs", laid_balustrade_lex_signs)] }
def ParseTokensSaid : Prop := parseTokensRow.holds Tryd.pinned (OpenSpec.ofChange parseTokensSpec)

/-- ITS FALSE NEIGHBOUR: 'it returns false'. Refute it at one input. -/
def parseTokensWrong : ChangeSpec := { name := "parseTokens", fn := fun _ => fun
  | [d] => { results := [.lit (.bool false)], args := [d] }
  | _ => none }
def ParseTokensWrongFalsely : Prop := parseTokensRow.holds Tryd.pinned (OpenSpec.ofChange parseTokensWrong)

/- THE SECOND FORM. 'bulk': how many values and letters a reading holds, each counted each time it is reached (what is shared counts as often as it is met; a slice's spare places count too). A statement '..UptoSaid' is the law's where the arguments, and the package variables that the reading takes, are together of bulk at most 1048576: NARROWER than '..Said'. Prove '..Said' where nothing that the law and all that it calls make is longer than what came in: it says more and counts as full. Else prove '..UptoSaid'. A law counts once. -/
mutual
def uptoBulk {H : Type} : DataW H → Nat
  | .lit (.string bytes) => bytes.length + 1
  | .lit _ => 1
  | .nil => 1
  | .ptr d => uptoBulk d + 1
  | .slice elems spare => uptoBulkAll elems + uptoBulkAll spare + 1
  | .agg parts => uptoBulkAll parts + 1
  | .iface _ d => uptoBulk d + 1
  | .map entries => uptoBulkEntries entries + 1
  | .held _ => 1
def uptoBulkAll {H : Type} : List (DataW H) → Nat
  | [] => 0
  | d :: r => uptoBulk d + uptoBulkAll r
def uptoBulkEntries {H : Type} : List (Lit × DataW H) → Nat
  | [] => 0
  | x :: r => uptoBulkEntry x + uptoBulkEntries r
def uptoBulkEntry {H : Type} : Lit × DataW H → Nat
  | (.string bytes, d) => bytes.length + uptoBulk d + 1
  | (_, d) => uptoBulk d + 1
 end
def uptoSmall : (H : Type) → List (DataW H) → Bool := fun _ ds => decide (uptoBulkAll ds ≤ 1048576)
def OpenSpec.upto (s : _root_.Go.ChangeSpec) : _root_.Go.OpenSpec := { _root_.Go.OpenSpec.ofChange s with cond := some uptoSmall }

/-- 'balustradelaw08.ParseDeep', WHERE WHAT IT READS IS OF BULK AT MOST 1048576: true; the input reads as it did. -/
def parseDeepUptoRow : OpenClaim := { program := "ytdiccmapankckaadoor", sum := "f09357651b590ba2729515a4855420e7e0830001c79d2712da35d9cd44918626", func := "balustrade/balustradelaw08.ParseDeep", spec := "parseDeep", inPlace := ["internal/bytealg.IndexByteString", "internal/bytealg.IndexString"], unfollowed := true, recurses := true, named := ["balustrade/lex.signs", "internal/bytealg.MaxLen", "balustrade/lex.words"], apart := false, laid := [("balustrade/lex.words", laid_balustrade_lex_words), ("balustrade/lex.signs", laid_balustrade_lex_signs)], narrowed := true }
def ParseDeepUptoSaid : Prop := parseDeepUptoRow.holds Tryd.pinned (OpenSpec.upto parseDeepSpec)

/-- 'balustradelaw08.ParseStands', WHERE WHAT IT READS IS OF BULK AT MOST 1048576: true; the input reads as it did. -/
def parseStandsUptoRow : OpenClaim := { program := "ytdiccmapankckaadoor", sum := "f09357651b590ba2729515a4855420e7e0830001c79d2712da35d9cd44918626", func := "balustrade/balustradelaw08.ParseStands", spec := "parseStands", inPlace := ["internal/bytealg.IndexByteString", "internal/bytealg.IndexString"], unfollowed := true, recurses := true, named := ["balustrade/lex.signs", "internal/bytealg.MaxLen", "balustrade/lex.words"], apart := false, laid := [("balustrade/lex.words", laid_balustrade_lex_words), ("balustrade/lex.signs", laid_balustrade_lex_signs)], narrowed := true }
def ParseStandsUptoSaid : Prop := parseStandsUptoRow.holds Tryd.pinned (OpenSpec.upto parseStandsSpec)

/-- 'balustradelaw08.ParseTokens', WHERE WHAT IT READS IS OF BULK AT MOST 1048576: true; the input reads as it did. -/
def parseTokensUptoRow : OpenClaim := { program := "ytdiccmapankckaadoor", sum := "f09357651b590ba2729515a4855420e7e0830001c79d2712da35d9cd44918626", func := "balustrade/balustradelaw08.ParseTokens", spec := "parseTokens", inPlace := ["internal/bytealg.IndexByteString", "internal/bytealg.IndexString"], unfollowed := true, recurses := true, named := ["balustrade/lex.signs", "internal/bytealg.MaxLen", "balustrade/lex.words"], apart := false, laid := [("balustrade/lex.words", laid_balustrade_lex_words), ("balustrade/lex.signs", laid_balustrade_lex_signs)], narrowed := true }
def ParseTokensUptoSaid : Prop := parseTokensUptoRow.holds Tryd.pinned (OpenSpec.upto parseTokensSpec)

end Rows
end Go.Proofs.YtdiccmapankckaaDoor
