/-
  No cell of these rows narrows 'for every input' (looked for: loops, veiled, ifaces, maps, wideKeys, modest, calm, conditions, laid).
  DERIVED. THE GIVEN ROWS OF THIS SEAT. 3 by the template 'for every input the law returns true; each argument reads behind the call as it read before'; 0 by the template 'total and deterministic' (their statements: YtcgplbakdflkiaaTotals.lean).
  GIVEN WITH THE SEED: the statements are not yours to turn. If you find one false, say at which input.
  Laid BY PROGRAM, IN A SANDBOX (cutbox-rows.mjs): the forced cells as the released guide's own fill.sh prints them over the translation ed08f2a72e3d6de6… (all of the seat's roots in one cut). By AI agents, Wed Nov 11 2026. No macro, syntax, notation, axiom, sorry.
-/
import Derived.Test.YtcgplbakdflkiaaChecked
import GoSem.Claim
import GoSem.ClaimJoined
import GoSem.ClaimMapViews
import Derived.JoinedTies
import Derived.KernelRfl
namespace Go.Proofs.Ytcgplbakdflkiaa
/- THE CELL 'sum', in the pinned program and in every row, IS THE sha256 OF THE DUMP (.gsa) THAT YtcgplbakdflkiaaProg.lean LOADS. Nothing in Lean hashes anything: it is a label: what it is worth is what the hold of that sum in a sandbox is worth. -/
noncomputable def Try.pinned : Pinned := { name := "ytcgplbakdflkiaa", sum := "ed08f2a72e3d6de648fedab50593ad84a2a68c0f8166a925035c2b05dacbb354", checked := Try.checked }
namespace Rows
def none {H : Type} : Left H := { results := [], args := [] }

/-- 'balustradelaw13.AluFits': WHATEVER THE INPUT: true; the input reads as it did. -/
def aluFitsSpec : ChangeSpec := { name := "aluFits", fn := fun _ => fun
  | [d1, d2, d3] => { results := [.lit (.bool true)], args := [d1, d2, d3] }
  | _ => none }
def aluFitsRow : OpenClaim := { program := "ytcgplbakdflkiaa", sum := "ed08f2a72e3d6de648fedab50593ad84a2a68c0f8166a925035c2b05dacbb354", func := "balustrade/balustradelaw13.AluFits", spec := "aluFits", unfollowed := true, recurses := true, apart := false }
def AluFitsSaid : Prop := aluFitsRow.holds Try.pinned (OpenSpec.ofChange aluFitsSpec)

/-- ITS FALSE NEIGHBOUR: 'it returns false'. Refute it at one input. -/
def aluFitsWrong : ChangeSpec := { name := "aluFits", fn := fun _ => fun
  | [d1, d2, d3] => { results := [.lit (.bool false)], args := [d1, d2, d3] }
  | _ => none }
def AluFitsWrongFalsely : Prop := aluFitsRow.holds Try.pinned (OpenSpec.ofChange aluFitsWrong)

/-- 'balustradelaw13.AluMakes': WHATEVER THE INPUT: true; the input reads as it did. -/
def aluMakesSpec : ChangeSpec := { name := "aluMakes", fn := fun _ => fun
  | [d1, d2, d3, d4] => { results := [.lit (.bool true)], args := [d1, d2, d3, d4] }
  | _ => none }
def aluMakesRow : OpenClaim := { program := "ytcgplbakdflkiaa", sum := "ed08f2a72e3d6de648fedab50593ad84a2a68c0f8166a925035c2b05dacbb354", func := "balustrade/balustradelaw13.AluMakes", spec := "aluMakes", unfollowed := true, recurses := true, apart := false }
def AluMakesSaid : Prop := aluMakesRow.holds Try.pinned (OpenSpec.ofChange aluMakesSpec)

/-- ITS FALSE NEIGHBOUR: 'it returns false'. Refute it at one input. -/
def aluMakesWrong : ChangeSpec := { name := "aluMakes", fn := fun _ => fun
  | [d1, d2, d3, d4] => { results := [.lit (.bool false)], args := [d1, d2, d3, d4] }
  | _ => none }
def AluMakesWrongFalsely : Prop := aluMakesRow.holds Try.pinned (OpenSpec.ofChange aluMakesWrong)

/-- 'balustradelaw13.AluTells': WHATEVER THE INPUT: true; the input reads as it did. -/
def aluTellsSpec : ChangeSpec := { name := "aluTells", fn := fun _ => fun
  | [d1, d2, d3] => { results := [.lit (.bool true)], args := [d1, d2, d3] }
  | _ => none }
def aluTellsRow : OpenClaim := { program := "ytcgplbakdflkiaa", sum := "ed08f2a72e3d6de648fedab50593ad84a2a68c0f8166a925035c2b05dacbb354", func := "balustrade/balustradelaw13.AluTells", spec := "aluTells", unfollowed := true, recurses := true, apart := false }
def AluTellsSaid : Prop := aluTellsRow.holds Try.pinned (OpenSpec.ofChange aluTellsSpec)

/-- ITS FALSE NEIGHBOUR: 'it returns false'. Refute it at one input. -/
def aluTellsWrong : ChangeSpec := { name := "aluTells", fn := fun _ => fun
  | [d1, d2, d3] => { results := [.lit (.bool false)], args := [d1, d2, d3] }
  | _ => none }
def AluTellsWrongFalsely : Prop := aluTellsRow.holds Try.pinned (OpenSpec.ofChange aluTellsWrong)

/- THE SECOND FORM. 'bulk': how many values and letters a reading holds, each counted each time it is reached (what is shared counts as often as it is met; a slice's spare places count too). A statement '..UptoSaid' is the law's where the arguments, and the package variables that the reading takes, are together of bulk at most 1048576: NARROWER than '..Said'. Prove '..Said' where nothing that the law and all that it calls make is longer than what came in: it says more and counts as full. Else prove '..UptoSaid'. A law counts once. -/
mutual
def uptoBulk {H : Type} : DataW H → Nat
  | .lit (.string bytes) => bytes.length + 1
  | .lit _ => 1
  | .nil => 1
  | .ptr d => uptoBulk d + 1
  | .slice elems spare => uptoBulkAll elems + uptoBulkAll spare + 1
  | .agg parts => uptoBulkAll parts + 1
  | .iface _ d => uptoBulk d + 1
  | .map entries => uptoBulkEntries entries + 1
  | .held _ => 1
def uptoBulkAll {H : Type} : List (DataW H) → Nat
  | [] => 0
  | d :: r => uptoBulk d + uptoBulkAll r
def uptoBulkEntries {H : Type} : List (Lit × DataW H) → Nat
  | [] => 0
  | x :: r => uptoBulkEntry x + uptoBulkEntries r
def uptoBulkEntry {H : Type} : Lit × DataW H → Nat
  | (.string bytes, d) => bytes.length + uptoBulk d + 1
  | (_, d) => uptoBulk d + 1
 end
def uptoSmall : (H : Type) → List (DataW H) → Bool := fun _ ds => decide (uptoBulkAll ds ≤ 1048576)
def OpenSpec.upto (s : _root_.Go.ChangeSpec) : _root_.Go.OpenSpec := { _root_.Go.OpenSpec.ofChange s with cond := some uptoSmall }

/-- 'balustradelaw13.AluFits', WHERE WHAT IT READS IS OF BULK AT MOST 1048576: true; the input reads as it did. -/
def aluFitsUptoRow : OpenClaim := { program := "ytcgplbakdflkiaa", sum := "ed08f2a72e3d6de648fedab50593ad84a2a68c0f8166a925035c2b05dacbb354", func := "balustrade/balustradelaw13.AluFits", spec := "aluFits", unfollowed := true, recurses := true, apart := false, narrowed := true }
def AluFitsUptoSaid : Prop := aluFitsUptoRow.holds Try.pinned (OpenSpec.upto aluFitsSpec)

/-- 'balustradelaw13.AluMakes', WHERE WHAT IT READS IS OF BULK AT MOST 1048576: true; the input reads as it did. -/
def aluMakesUptoRow : OpenClaim := { program := "ytcgplbakdflkiaa", sum := "ed08f2a72e3d6de648fedab50593ad84a2a68c0f8166a925035c2b05dacbb354", func := "balustrade/balustradelaw13.AluMakes", spec := "aluMakes", unfollowed := true, recurses := true, apart := false, narrowed := true }
def AluMakesUptoSaid : Prop := aluMakesUptoRow.holds Try.pinned (OpenSpec.upto aluMakesSpec)

/-- 'balustradelaw13.AluTells', WHERE WHAT IT READS IS OF BULK AT MOST 1048576: true; the input reads as it did. -/
def aluTellsUptoRow : OpenClaim := { program := "ytcgplbakdflkiaa", sum := "ed08f2a72e3d6de648fedab50593ad84a2a68c0f8166a925035c2b05dacbb354", func := "balustrade/balustradelaw13.AluTells", spec := "aluTells", unfollowed := true, recurses := true, apart := false, narrowed := true }
def AluTellsUptoSaid : Prop := aluTellsUptoRow.holds Try.pinned (OpenSpec.upto aluTellsSpec)

end Rows
end Go.Proofs.Ytcgplbakdflkiaa
