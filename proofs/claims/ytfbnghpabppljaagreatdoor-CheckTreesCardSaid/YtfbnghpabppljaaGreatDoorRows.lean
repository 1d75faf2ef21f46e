/-
  NARROWER THAN 'FOR EVERY INPUT', by the rows' own cells (each row's printed sentence says how): CheckTells: laid · CheckTrees: laid.
  DERIVED. THE GIVEN ROWS OF THIS SEAT. 2 by the template 'for every input the law returns true; each argument reads behind the call as it read before'; 0 by the template 'total and deterministic' (their statements: YtfbnghpabppljaaGreatDoorTotals.lean).
  GIVEN WITH THE SEED: the statements are not yours to turn. If you find one false, say at which input.
  Laid BY PROGRAM, IN A SANDBOX (cutbox-rows.mjs): the forced cells as the released guide's own fill.sh prints them over the translation 50459d75776fdbc3… (all of the seat's roots in one cut). By AI agents, Wed Nov 11 2026. No macro, syntax, notation, axiom, sorry.
-/
import Derived.Test.YtfbnghpabppljaaGreatDoorChecked
import GoSem.Claim
import GoSem.ClaimJoined
import GoSem.ClaimMapViews
import Derived.JoinedTies
import Derived.KernelRfl
namespace Go.Proofs.YtfbnghpabppljaaGreatDoor
/- THE CELL 'sum', in the pinned program and in every row, IS THE sha256 OF THE DUMP (.gsa) THAT YtfbnghpabppljaaGreatDoorProg.lean LOADS. Nothing in Lean hashes anything: it is a label: what it is worth is what the hold of that sum in a sandbox is worth. -/
noncomputable def Tryz.pinned : Pinned := { name := "ytfbnghpabppljaagreatdoor", sum := "50459d75776fdbc3363251de06f42f14519b32b996e4e2e4e76c35e67a448371", checked := Tryz.checked }
namespace Rows
def none {H : Type} : Left H := { results := [], args := [] }

/- WHAT THE LISTED PACKAGE-LEVEL VARIABLES READ AS WHEN THE CALL BEGINS. Each datum BY PROGRAM (the guide's laid-datum.mjs) off the statement by which the dump's own 'gosem.cut.vars' lays the variable. In a bare row this is a premise. The card (YtfbnghpabppljaaGreatDoorCards.lean) ties it to the program's text. -/
def laid_balustrade_tree_words {H : Type} : DataW H := .slice [.lit (.string [102, 110]), .lit (.string [118, 97, 114]), .lit (.string [105, 102]), .lit (.string [101, 108, 115, 101]), .lit (.string [119, 104, 105, 108, 101]), .lit (.string [102, 111, 114]), .lit (.string [98, 114, 101, 97, 107]), .lit (.string [99, 111, 110, 116, 105, 110, 117, 101]), .lit (.string [114, 101, 116, 117, 114, 110]), .lit (.string [112, 114, 105, 110, 116]), .lit (.string [108, 101, 110]), .lit (.string [110, 101, 119]), .lit (.string [116, 114, 117, 101]), .lit (.string [102, 97, 108, 115, 101]), .lit (.string [110, 105, 108]), .lit (.string [105, 110, 116]), .lit (.string [98, 111, 111, 108]), .lit (.string [97, 114, 114])] []

/-- 'balustradelaw11.CheckTells': WHATEVER THE INPUT: true; the input reads as it did. -/
def checkTellsSpec : ChangeSpec := { name := "checkTells", fn := fun _ => fun
  | [d] => { results := [.lit (.bool true)], args := [d] }
  | _ => none }
def checkTellsRow : OpenClaim := { program := "ytfbnghpabppljaagreatdoor", sum := "50459d75776fdbc3363251de06f42f14519b32b996e4e2e4e76c35e67a448371", func := "balustrade/balustradelaw11.CheckTells", spec := "checkTells", unfollowed := true, recurses := true, named := ["balustrade/tree.words"], apart := false, laid := [("balustrade/tree.words", laid_balustrade_tree_words)] }
def CheckTellsSaid : Prop := checkTellsRow.holds Tryz.pinned (OpenSpec.ofChange checkTellsSpec)

/-- ITS FALSE NEIGHBOUR: 'it returns false'. Refute it at one input. -/
def checkTellsWrong : ChangeSpec := { name := "checkTells", fn := fun _ => fun
  | [d] => { results := [.lit (.bool false)], args := [d] }
  | _ => none }
def CheckTellsWrongFalsely : Prop := checkTellsRow.holds Tryz.pinned (OpenSpec.ofChange checkTellsWrong)

/-- 'balustradelaw11.CheckTrees': WHATEVER THE INPUT: true; the input reads as it did. -/
def checkTreesSpec : ChangeSpec := { name := "checkTrees", fn := fun _ => fun
  | [d] => { results := [.lit (.bool true)], args := [d] }
  | _ => none }
def checkTreesRow : OpenClaim := { program := "ytfbnghpabppljaagreatdoor", sum := "50459d75776fdbc3363251de06f42f14519b32b996e4e2e4e76c35e67a448371", func := "balustrade/balustradelaw11.CheckTrees", spec := "checkTrees", unfollowed := true, recurses := true, named := ["balustrade/tree.words"], apart := false, laid := [("balustrade/tree.words", laid_balustrade_tree_words)] }
def CheckTreesSaid : Prop := checkTreesRow.holds Tryz.pinned (OpenSpec.ofChange checkTreesSpec)

/-- ITS FALSE NEIGHBOUR: 'it returns false'. Refute it at one input. -/
def checkTreesWrong : ChangeSpec := { name := "checkTrees", fn := fun _ => fun
  | [d] => { results := [.lit (.bool false)], args := [d] }
  | _ => none }
def CheckTreesWrongFalsely : Prop := checkTreesRow.holds Tryz.pinned (OpenSpec.ofChange checkTreesWrong)

/- THE SECOND FORM. 'bulk': how many values and letters a reading holds, each counted each time it is reached (what is shared counts as often as it is met; a slice's spare places count too). A statement '..UptoSaid' is the law's where the arguments, and the package variables that the reading takes, are together of bulk at most 1048576: NARROWER than '..Said'. Prove '..Said' where nothing that the law and all that it calls make is longer than what came in: it says more and counts as full. Else prove '..UptoSaid'. A law counts once. -/
mutual
def uptoBulk {H : Type} : DataW H → Nat
  | .lit (.string bytes) => bytes.length + 1
  | .lit _ => 1
  | .nil => 1
  | .ptr d => uptoBulk d + 1
  | .slice elems spare => uptoBulkAll elems + uptoBulkAll spare + 1
  | .agg parts => uptoBulkAll parts + 1
  | .iface _ d => uptoBulk d + 1
  | .map entries => uptoBulkEntries entries + 1
  | .held _ => 1
def uptoBulkAll {H : Type} : List (DataW H) → Nat
  | [] => 0
  | d :: r => uptoBulk d + uptoBulkAll r
def uptoBulkEntries {H : Type} : List (Lit × DataW H) → Nat
  | [] => 0
  | x :: r => uptoBulkEntry x + uptoBulkEntries r
def uptoBulkEntry {H : Type} : Lit × DataW H → Nat
  | (.string bytes, d) => bytes.length + uptoBulk d + 1
  | (_, d) => uptoBulk d + 1
 end
def uptoSmall : (H : Type) → List (DataW H) → Bool := fun _ ds => decide (uptoBulkAll ds ≤ 1048576)
def OpenSpec.upto (s : _root_.Go.ChangeSpec) : _root_.Go.OpenSpec := { _root_.Go.OpenSpec.ofChange s with cond := some uptoSmall }

/-- 'balustradelaw11.CheckTells', WHERE WHAT IT READS IS OF BULK AT MOST 1048576: true; the input reads as it did. -/
def checkTellsUptoRow : OpenClaim := { program := "ytfbnghpabppljaagreatdoor", sum := "50459d75776fdbc3363251de06f42f14519b32b996e4e2e4e76c35e67a448371", func := "balustrade/balustradelaw11.CheckTells", spec := "checkTells", unfollowed := true, recurses := true, named := ["balustrade/tree.words"], apart := false, laid := [("balustrade/tree.words", laid_balustrade_tree_words)], narrowed := true }
def CheckTellsUptoSaid : Prop := checkTellsUptoRow.holds Tryz.pinned (OpenSpec.upto checkTellsSpec)

/-- 'balustradelaw11.CheckTrees', WHERE WHAT IT READS IS OF BULK AT MOST 1048576: true; the input reads as it did. -/
def checkTreesUptoRow : OpenClaim := { program := "ytfbnghpabppljaagreatdoor", sum := "50459d75776fdbc3363251de06f42f14519b32b996e4e2e4e76c35e67a448371", func := "balustrade/balustradelaw11.CheckTrees", spec := "checkTrees", unfollowed := true, recurses := true, named := ["balustrade/tree.words"], apart := false, laid := [("balustrade/tree.words", laid_balustrade_tree_words)], narrowed := true }
def CheckTreesUptoSaid : Prop := checkTreesUptoRow.holds Tryz.pinned (OpenSpec.upto checkTreesSpec)

end Rows
end Go.Proofs.YtfbnghpabppljaaGreatDoor
