/-
  NARROWER THAN 'FOR EVERY INPUT', by the rows' own cells (each row's printed sentence says how): CellBorders: laid · CellNorms: laid · CellKnown: laid · CellEnters: laid.
  DERIVED. THE GIVEN ROWS OF THIS SEAT. 4 by the template 'for every input the law returns true; each argument reads behind the call as it read before'; 0 by the template 'total and deterministic' (their statements: YtjobijmmjebpaaaDoorTotals.lean).
  GIVEN WITH THE SEED: the statements are not yours to turn. If you find one false, say at which input.
  Laid BY PROGRAM, IN A SANDBOX (cutbox-rows.mjs): the forced cells as the released guide's own fill.sh prints them over the translation ca8bf78ad407373f… (all of the seat's roots in one cut). By AI agents, Wed Nov 11 2026. No macro, syntax, notation, axiom, sorry.
-/
import Derived.Test.YtjobijmmjebpaaaDoorChecked
import GoSem.Claim
import GoSem.ClaimJoined
import GoSem.ClaimMapViews
import Derived.JoinedTies
import Derived.KernelRfl
namespace Go.Proofs.YtjobijmmjebpaaaDoor
/- THE CELL 'sum', in the pinned program and in every row, IS THE sha256 OF THE DUMP (.gsa) THAT YtjobijmmjebpaaaDoorProg.lean LOADS. Nothing in Lean hashes anything: it is a label: what it is worth is what the hold of that sum in a sandbox is worth. -/
noncomputable def Tryd.pinned : Pinned := { name := "ytjobijmmjebpaaadoor", sum := "ca8bf78ad407373fc89031199c757b06cdfc9a8b9cc72cdea17e4fc0b551f914", checked := Tryd.checked }
namespace Rows
def none {H : Type} : Left H := { results := [], args := [] }

/- WHAT THE LISTED PACKAGE-LEVEL VARIABLES READ AS WHEN THE CALL BEGINS. Each datum BY PROGRAM (the guide's laid-datum.mjs) off the statement by which the dump's own 'gosem.cut.vars' lays the variable. In a bare row this is a premise. The card (YtjobijmmjebpaaaDoorCards.lean) ties it to the program's text. -/
def laid_errors_errorType {H : Type} : DataW H := .iface "internal/reflectlite.rtype" (.agg [.ptr (.lit (.string [101, 114, 114, 111, 114]))])

/-- 'milestonelaw23.CellBorders': WHATEVER THE INPUT: true; the input reads as it did. -/
def cellBordersSpec : ChangeSpec := { name := "cellBorders", fn := fun _ => fun
  | [d1, d2, d3] => { results := [.lit (.bool true)], args := [d1, d2, d3] }
  | _ => none }
def cellBordersRow : OpenClaim := { program := "ytjobijmmjebpaaadoor", sum := "ca8bf78ad407373fc89031199c757b06cdfc9a8b9cc72cdea17e4fc0b551f914", func := "milestone/milestonelaw23.CellBorders", spec := "cellBorders", inPlace := ["internal/reflectlite.ValueOf", "(internal/reflectlite.Value).Type", "(internal/reflectlite.Value).IsNil", "internal/reflectlite.TypeOf", "(internal/reflectlite.Value).Elem", "(internal/reflectlite.Value).Set"], unfollowed := true, recurses := true, named := ["errors.errorType"], apart := false, laid := [("errors.errorType", laid_errors_errorType)] }
def CellBordersSaid : Prop := cellBordersRow.holds Tryd.pinned (OpenSpec.ofChange cellBordersSpec)

/-- ITS FALSE NEIGHBOUR: 'it returns false'. Refute it at one input. -/
def cellBordersWrong : ChangeSpec := { name := "cellBorders", fn := fun _ => fun
  | [d1, d2, d3] => { results := [.lit (.bool false)], args := [d1, d2, d3] }
  | _ => none }
def CellBordersWrongFalsely : Prop := cellBordersRow.holds Tryd.pinned (OpenSpec.ofChange cellBordersWrong)

/-- 'milestonelaw23.CellNorms': WHATEVER THE INPUT: true; the input reads as it did. -/
def cellNormsSpec : ChangeSpec := { name := "cellNorms", fn := fun _ => fun
  | [d] => { results := [.lit (.bool true)], args := [d] }
  | _ => none }
def cellNormsRow : OpenClaim := { program := "ytjobijmmjebpaaadoor", sum := "ca8bf78ad407373fc89031199c757b06cdfc9a8b9cc72cdea17e4fc0b551f914", func := "milestone/milestonelaw23.CellNorms", spec := "cellNorms", inPlace := ["internal/reflectlite.ValueOf", "(internal/reflectlite.Value).Type", "(internal/reflectlite.Value).IsNil", "internal/reflectlite.TypeOf", "(internal/reflectlite.Value).Elem", "(internal/reflectlite.Value).Set"], unfollowed := true, recurses := true, named := ["errors.errorType"], apart := false, laid := [("errors.errorType", laid_errors_errorType)] }
def CellNormsSaid : Prop := cellNormsRow.holds Tryd.pinned (OpenSpec.ofChange cellNormsSpec)

/-- ITS FALSE NEIGHBOUR: 'it returns false'. Refute it at one input. -/
def cellNormsWrong : ChangeSpec := { name := "cellNorms", fn := fun _ => fun
  | [d] => { results := [.lit (.bool false)], args := [d] }
  | _ => none }
def CellNormsWrongFalsely : Prop := cellNormsRow.holds Tryd.pinned (OpenSpec.ofChange cellNormsWrong)

/-- 'milestonelaw23.CellKnown': WHATEVER THE INPUT: true; the input reads as it did. -/
def cellKnownSpec : ChangeSpec := { name := "cellKnown", fn := fun _ => fun
  | [] => { results := [.lit (.bool true)], args := [] }
  | _ => none }
def cellKnownRow : OpenClaim := { program := "ytjobijmmjebpaaadoor", sum := "ca8bf78ad407373fc89031199c757b06cdfc9a8b9cc72cdea17e4fc0b551f914", func := "milestone/milestonelaw23.CellKnown", spec := "cellKnown", inPlace := ["internal/reflectlite.ValueOf", "(internal/reflectlite.Value).Type", "(internal/reflectlite.Value).IsNil", "internal/reflectlite.TypeOf", "(internal/reflectlite.Value).Elem", "(internal/reflectlite.Value).Set"], unfollowed := true, recurses := true, named := ["errors.errorType"], apart := false, laid := [("errors.errorType", laid_errors_errorType)] }
def CellKnownSaid : Prop := cellKnownRow.holds Tryd.pinned (OpenSpec.ofChange cellKnownSpec)

/-- ITS FALSE NEIGHBOUR: 'it returns false'. Refute it at one input. -/
def cellKnownWrong : ChangeSpec := { name := "cellKnown", fn := fun _ => fun
  | [] => { results := [.lit (.bool false)], args := [] }
  | _ => none }
def CellKnownWrongFalsely : Prop := cellKnownRow.holds Tryd.pinned (OpenSpec.ofChange cellKnownWrong)

/-- 'milestonelaw23.CellEnters': WHATEVER THE INPUT: true; the input reads as it did. -/
def cellEntersSpec : ChangeSpec := { name := "cellEnters", fn := fun _ => fun
  | [d1, d2, d3] => { results := [.lit (.bool true)], args := [d1, d2, d3] }
  | _ => none }
def cellEntersRow : OpenClaim := { program := "ytjobijmmjebpaaadoor", sum := "ca8bf78ad407373fc89031199c757b06cdfc9a8b9cc72cdea17e4fc0b551f914", func := "milestone/milestonelaw23.CellEnters", spec := "cellEnters", inPlace := ["internal/reflectlite.ValueOf", "(internal/reflectlite.Value).Type", "(internal/reflectlite.Value).IsNil", "internal/reflectlite.TypeOf", "(internal/reflectlite.Value).Elem", "(internal/reflectlite.Value).Set"], unfollowed := true, recurses := true, named := ["errors.errorType"], apart := false, laid := [("errors.errorType", laid_errors_errorType)] }
def CellEntersSaid : Prop := cellEntersRow.holds Tryd.pinned (OpenSpec.ofChange cellEntersSpec)

/-- ITS FALSE NEIGHBOUR: 'it returns false'. Refute it at one input. -/
def cellEntersWrong : ChangeSpec := { name := "cellEnters", fn := fun _ => fun
  | [d1, d2, d3] => { results := [.lit (.bool false)], args := [d1, d2, d3] }
  | _ => none }
def CellEntersWrongFalsely : Prop := cellEntersRow.holds Tryd.pinned (OpenSpec.ofChange cellEntersWrong)

/- THE SECOND FORM. 'bulk': how many values and letters a reading holds, each counted each time it is reached (what is shared counts as often as it is met; a slice's spare places count too). A statement '..UptoSaid' is the law's where the arguments, and the package variables that the reading takes, are together of bulk at most 1048576: NARROWER than '..Said'. Prove '..Said' where nothing that the law and all that it calls make is longer than what came in: it says more and counts as full. Else prove '..UptoSaid'. A law counts once. -/
mutual
def uptoBulk {H : Type} : DataW H → Nat
  | .lit (.string bytes) => bytes.length + 1
  | .lit _ => 1
  | .nil => 1
  | .ptr d => uptoBulk d + 1
  | .slice elems spare => uptoBulkAll elems + uptoBulkAll spare + 1
  | .agg parts => uptoBulkAll parts + 1
  | .iface _ d => uptoBulk d + 1
  | .map entries => uptoBulkEntries entries + 1
  | .held _ => 1
def uptoBulkAll {H : Type} : List (DataW H) → Nat
  | [] => 0
  | d :: r => uptoBulk d + uptoBulkAll r
def uptoBulkEntries {H : Type} : List (Lit × DataW H) → Nat
  | [] => 0
  | x :: r => uptoBulkEntry x + uptoBulkEntries r
def uptoBulkEntry {H : Type} : Lit × DataW H → Nat
  | (.string bytes, d) => bytes.length + uptoBulk d + 1
  | (_, d) => uptoBulk d + 1
 end
def uptoSmall : (H : Type) → List (DataW H) → Bool := fun _ ds => decide (uptoBulkAll ds ≤ 1048576)
def OpenSpec.upto (s : _root_.Go.ChangeSpec) : _root_.Go.OpenSpec := { _root_.Go.OpenSpec.ofChange s with cond := some uptoSmall }

/-- 'milestonelaw23.CellBorders', WHERE WHAT IT READS IS OF BULK AT MOST 1048576: true; the input reads as it did. -/
def cellBordersUptoRow : OpenClaim := { program := "ytjobijmmjebpaaadoor", sum := "ca8bf78ad407373fc89031199c757b06cdfc9a8b9cc72cdea17e4fc0b551f914", func := "milestone/milestonelaw23.CellBorders", spec := "cellBorders", inPlace := ["internal/reflectlite.ValueOf", "(internal/reflectlite.Value).Type", "(internal/reflectlite.Value).IsNil", "internal/reflectlite.TypeOf", "(internal/reflectlite.Value).Elem", "(internal/reflectlite.Value).Set"], unfollowed := true, recurses := true, named := ["errors.errorType"], apart := false, laid := [("errors.errorType", laid_errors_errorType)], narrowed := true }
def CellBordersUptoSaid : Prop := cellBordersUptoRow.holds Tryd.pinned (OpenSpec.upto cellBordersSpec)

/-- 'milestonelaw23.CellNorms', WHERE WHAT IT READS IS OF BULK AT MOST 1048576: true; the input reads as it did. -/
def cellNormsUptoRow : OpenClaim := { program := "ytjobijmmjebpaaadoor", sum := "ca8bf78ad407373fc89031199c757b06cdfc9a8b9cc72cdea17e4fc0b551f914", func := "milestone/milestonelaw23.CellNorms", spec := "cellNorms", inPlace := ["internal/reflectlite.ValueOf", "(internal/reflectlite.Value).Type", "(internal/reflectlite.Value).IsNil", "internal/reflectlite.TypeOf", "(internal/reflectlite.Value).Elem", "(internal/reflectlite.Value).Set"], unfollowed := true, recurses := true, named := ["errors.errorType"], apart := false, laid := [("errors.errorType", laid_errors_errorType)], narrowed := true }
def CellNormsUptoSaid : Prop := cellNormsUptoRow.holds Tryd.pinned (OpenSpec.upto cellNormsSpec)

/-- 'milestonelaw23.CellKnown', WHERE WHAT IT READS IS OF BULK AT MOST 1048576: true; the input reads as it did. -/
def cellKnownUptoRow : OpenClaim := { program := "ytjobijmmjebpaaadoor", sum := "ca8bf78ad407373fc89031199c757b06cdfc9a8b9cc72cdea17e4fc0b551f914", func := "milestone/milestonelaw23.CellKnown", spec := "cellKnown", inPlace := ["internal/reflectlite.ValueOf", "(internal/reflectlite.Value).Type", "(internal/reflectlite.Value).IsNil", "internal/reflectlite.TypeOf", "(internal/reflectlite.Value).Elem", "(internal/reflectlite.Value).Set"], unfollowed := true, recurses := true, named := ["errors.errorType"], apart := false, laid := [("errors.errorType", laid_errors_errorType)], narrowed := true }
def CellKnownUptoSaid : Prop := cellKnownUptoRow.holds Tryd.pinned (OpenSpec.upto cellKnownSpec)

/-- 'milestonelaw23.CellEnters', WHERE WHAT IT READS IS OF BULK AT MOST 1048576: true; the input reads as it did. -/
def cellEntersUptoRow : OpenClaim := { program := "ytjobijmmjebpaaadoor", sum := "ca8bf78ad407373fc89031199c757b06cdfc9a8b9cc72cdea17e4fc0b551f914", func := "milestone/milestonelaw23.CellEnters", spec := "cellEnters", inPlace := ["internal/reflectlite.ValueOf", "(internal/reflectlite.Value).Type", "(internal/reflectlite.Value).IsNil", "internal/reflectlite.TypeOf", "(internal/reflectlite.Value).Elem", "(internal/reflectlite.Value).Set"], unfollowed := true, recurses := true, named := ["errors.errorType"], apart := false, laid := [("errors.errorType", laid_errors_errorType)], narrowed := true }
def CellEntersUptoSaid : Prop := cellEntersUptoRow.holds Tryd.pinned (OpenSpec.upto cellEntersSpec)

end Rows
end Go.Proofs.YtjobijmmjebpaaaDoor
