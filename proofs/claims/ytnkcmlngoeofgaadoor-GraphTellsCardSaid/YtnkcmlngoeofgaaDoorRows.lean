/-
  NARROWER THAN 'FOR EVERY INPUT', by the rows' own cells (each row's printed sentence says how): GraphFirst: laid · GraphTells: laid · GraphBack: laid · GraphKnown: laid · NetOnce: laid · NetTells: laid · NetWrong: laid · NetShares: laid · NetKnown: laid.
  DERIVED. THE GIVEN ROWS OF THIS SEAT. 9 by the template 'for every input the law returns true; each argument reads behind the call as it read before'; 0 by the template 'total and deterministic' (their statements: YtnkcmlngoeofgaaDoorTotals.lean).
  GIVEN WITH THE SEED: the statements are not yours to turn. If you find one false, say at which input.
  Laid BY PROGRAM, IN A SANDBOX (cutbox-rows.mjs): the forced cells as the released guide's own fill.sh prints them over the translation a104309d8723877c… (all of the seat's roots in one cut). By AI agents, Wed Nov 11 2026. No macro, syntax, notation, axiom, sorry.
-/
import Derived.Test.YtnkcmlngoeofgaaDoorChecked
import GoSem.Claim
import GoSem.ClaimJoined
import GoSem.ClaimMapViews
import Derived.JoinedTies
import Derived.KernelRfl
namespace Go.Proofs.YtnkcmlngoeofgaaDoor
/- THE CELL 'sum', in the pinned program and in every row, IS THE sha256 OF THE DUMP (.gsa) THAT YtnkcmlngoeofgaaDoorProg.lean LOADS. Nothing in Lean hashes anything: it is a label: what it is worth is what the hold of that sum in a sandbox is worth. -/
noncomputable def Tryd.pinned : Pinned := { name := "ytnkcmlngoeofgaadoor", sum := "a104309d8723877c3fa44a37d2b3b68c768f52d8fd4e160d5216f0ba6b1cb26f", checked := Tryd.checked }
namespace Rows
def none {H : Type} : Left H := { results := [], args := [] }

/- WHAT THE LISTED PACKAGE-LEVEL VARIABLES READ AS WHEN THE CALL BEGINS. Each datum BY PROGRAM (the guide's laid-datum.mjs) off the statement by which the dump's own 'gosem.cut.vars' lays the variable. In a bare row this is a premise. The card (YtnkcmlngoeofgaaDoorCards.lean) ties it to the program's text. -/
def laid_errors_errorType {H : Type} : DataW H := .iface "internal/reflectlite.rtype" (.agg [.ptr (.lit (.string [101, 114, 114, 111, 114]))])

/-- 'milestonelaw06.GraphFirst': WHATEVER THE INPUT: true; the input reads as it did. -/
def graphFirstSpec : ChangeSpec := { name := "graphFirst", fn := fun _ => fun
  | [d1, d2, d3] => { results := [.lit (.bool true)], args := [d1, d2, d3] }
  | _ => none }
def graphFirstRow : OpenClaim := { program := "ytnkcmlngoeofgaadoor", sum := "a104309d8723877c3fa44a37d2b3b68c768f52d8fd4e160d5216f0ba6b1cb26f", func := "milestone/milestonelaw06.GraphFirst", spec := "graphFirst", inPlace := ["internal/reflectlite.ValueOf", "(internal/reflectlite.Value).Type", "(internal/reflectlite.Value).IsNil", "internal/reflectlite.TypeOf", "(internal/reflectlite.Value).Elem", "(internal/reflectlite.Value).Set"], unfollowed := true, recurses := true, named := ["errors.errorType"], apart := false, laid := [("errors.errorType", laid_errors_errorType)] }
def GraphFirstSaid : Prop := graphFirstRow.holds Tryd.pinned (OpenSpec.ofChange graphFirstSpec)

/-- ITS FALSE NEIGHBOUR: 'it returns false'. Refute it at one input. -/
def graphFirstWrong : ChangeSpec := { name := "graphFirst", fn := fun _ => fun
  | [d1, d2, d3] => { results := [.lit (.bool false)], args := [d1, d2, d3] }
  | _ => none }
def GraphFirstWrongFalsely : Prop := graphFirstRow.holds Tryd.pinned (OpenSpec.ofChange graphFirstWrong)

/-- 'milestonelaw06.GraphTells': WHATEVER THE INPUT: true; the input reads as it did. -/
def graphTellsSpec : ChangeSpec := { name := "graphTells", fn := fun _ => fun
  | [d1, d2, d3] => { results := [.lit (.bool true)], args := [d1, d2, d3] }
  | _ => none }
def graphTellsRow : OpenClaim := { program := "ytnkcmlngoeofgaadoor", sum := "a104309d8723877c3fa44a37d2b3b68c768f52d8fd4e160d5216f0ba6b1cb26f", func := "milestone/milestonelaw06.GraphTells", spec := "graphTells", inPlace := ["internal/reflectlite.ValueOf", "(internal/reflectlite.Value).Type", "(internal/reflectlite.Value).IsNil", "internal/reflectlite.TypeOf", "(internal/reflectlite.Value).Elem", "(internal/reflectlite.Value).Set"], unfollowed := true, recurses := true, named := ["errors.errorType"], apart := false, laid := [("errors.errorType", laid_errors_errorType)] }
def GraphTellsSaid : Prop := graphTellsRow.holds Tryd.pinned (OpenSpec.ofChange graphTellsSpec)

/-- ITS FALSE NEIGHBOUR: 'it returns false'. Refute it at one input. -/
def graphTellsWrong : ChangeSpec := { name := "graphTells", fn := fun _ => fun
  | [d1, d2, d3] => { results := [.lit (.bool false)], args := [d1, d2, d3] }
  | _ => none }
def GraphTellsWrongFalsely : Prop := graphTellsRow.holds Tryd.pinned (OpenSpec.ofChange graphTellsWrong)

/-- 'milestonelaw06.GraphBack': WHATEVER THE INPUT: true; the input reads as it did. -/
def graphBackSpec : ChangeSpec := { name := "graphBack", fn := fun _ => fun
  | [d1, d2, d3] => { results := [.lit (.bool true)], args := [d1, d2, d3] }
  | _ => none }
def graphBackRow : OpenClaim := { program := "ytnkcmlngoeofgaadoor", sum := "a104309d8723877c3fa44a37d2b3b68c768f52d8fd4e160d5216f0ba6b1cb26f", func := "milestone/milestonelaw06.GraphBack", spec := "graphBack", inPlace := ["internal/reflectlite.ValueOf", "(internal/reflectlite.Value).Type", "(internal/reflectlite.Value).IsNil", "internal/reflectlite.TypeOf", "(internal/reflectlite.Value).Elem", "(internal/reflectlite.Value).Set"], unfollowed := true, recurses := true, named := ["errors.errorType"], apart := false, laid := [("errors.errorType", laid_errors_errorType)] }
def GraphBackSaid : Prop := graphBackRow.holds Tryd.pinned (OpenSpec.ofChange graphBackSpec)

/-- ITS FALSE NEIGHBOUR: 'it returns false'. Refute it at one input. -/
def graphBackWrong : ChangeSpec := { name := "graphBack", fn := fun _ => fun
  | [d1, d2, d3] => { results := [.lit (.bool false)], args := [d1, d2, d3] }
  | _ => none }
def GraphBackWrongFalsely : Prop := graphBackRow.holds Tryd.pinned (OpenSpec.ofChange graphBackWrong)

/-- 'milestonelaw06.GraphKnown': WHATEVER THE INPUT: true; the input reads as it did. -/
def graphKnownSpec : ChangeSpec := { name := "graphKnown", fn := fun _ => fun
  | [] => { results := [.lit (.bool true)], args := [] }
  | _ => none }
def graphKnownRow : OpenClaim := { program := "ytnkcmlngoeofgaadoor", sum := "a104309d8723877c3fa44a37d2b3b68c768f52d8fd4e160d5216f0ba6b1cb26f", func := "milestone/milestonelaw06.GraphKnown", spec := "graphKnown", inPlace := ["internal/reflectlite.ValueOf", "(internal/reflectlite.Value).Type", "(internal/reflectlite.Value).IsNil", "internal/reflectlite.TypeOf", "(internal/reflectlite.Value).Elem", "(internal/reflectlite.Value).Set"], unfollowed := true, recurses := true, named := ["errors.errorType"], apart := false, laid := [("errors.errorType", laid_errors_errorType)] }
def GraphKnownSaid : Prop := graphKnownRow.holds Tryd.pinned (OpenSpec.ofChange graphKnownSpec)

/-- ITS FALSE NEIGHBOUR: 'it returns false'. Refute it at one input. -/
def graphKnownWrong : ChangeSpec := { name := "graphKnown", fn := fun _ => fun
  | [] => { results := [.lit (.bool false)], args := [] }
  | _ => none }
def GraphKnownWrongFalsely : Prop := graphKnownRow.holds Tryd.pinned (OpenSpec.ofChange graphKnownWrong)

/-- 'milestonelaw07.NetOnce': WHATEVER THE INPUT: true; the input reads as it did. -/
def netOnceSpec : ChangeSpec := { name := "netOnce", fn := fun _ => fun
  | [d] => { results := [.lit (.bool true)], args := [d] }
  | _ => none }
def netOnceRow : OpenClaim := { program := "ytnkcmlngoeofgaadoor", sum := "a104309d8723877c3fa44a37d2b3b68c768f52d8fd4e160d5216f0ba6b1cb26f", func := "milestone/milestonelaw07.NetOnce", spec := "netOnce", inPlace := ["internal/reflectlite.ValueOf", "(internal/reflectlite.Value).Type", "(internal/reflectlite.Value).IsNil", "internal/reflectlite.TypeOf", "(internal/reflectlite.Value).Elem", "(internal/reflectlite.Value).Set"], unfollowed := true, recurses := true, named := ["errors.errorType"], apart := false, laid := [("errors.errorType", laid_errors_errorType)] }
def NetOnceSaid : Prop := netOnceRow.holds Tryd.pinned (OpenSpec.ofChange netOnceSpec)

/-- ITS FALSE NEIGHBOUR: 'it returns false'. Refute it at one input. -/
def netOnceWrong : ChangeSpec := { name := "netOnce", fn := fun _ => fun
  | [d] => { results := [.lit (.bool false)], args := [d] }
  | _ => none }
def NetOnceWrongFalsely : Prop := netOnceRow.holds Tryd.pinned (OpenSpec.ofChange netOnceWrong)

/-- 'milestonelaw07.NetTells': WHATEVER THE INPUT: true; the input reads as it did. -/
def netTellsSpec : ChangeSpec := { name := "netTells", fn := fun _ => fun
  | [d] => { results := [.lit (.bool true)], args := [d] }
  | _ => none }
def netTellsRow : OpenClaim := { program := "ytnkcmlngoeofgaadoor", sum := "a104309d8723877c3fa44a37d2b3b68c768f52d8fd4e160d5216f0ba6b1cb26f", func := "milestone/milestonelaw07.NetTells", spec := "netTells", inPlace := ["internal/reflectlite.ValueOf", "(internal/reflectlite.Value).Type", "(internal/reflectlite.Value).IsNil", "internal/reflectlite.TypeOf", "(internal/reflectlite.Value).Elem", "(internal/reflectlite.Value).Set"], unfollowed := true, recurses := true, named := ["errors.errorType"], apart := false, laid := [("errors.errorType", laid_errors_errorType)] }
def NetTellsSaid : Prop := netTellsRow.holds Tryd.pinned (OpenSpec.ofChange netTellsSpec)

/-- ITS FALSE NEIGHBOUR: 'it returns false'. Refute it at one input. -/
def netTellsWrong : ChangeSpec := { name := "netTells", fn := fun _ => fun
  | [d] => { results := [.lit (.bool false)], args := [d] }
  | _ => none }
def NetTellsWrongFalsely : Prop := netTellsRow.holds Tryd.pinned (OpenSpec.ofChange netTellsWrong)

/-- 'milestonelaw07.NetWrong': WHATEVER THE INPUT: true; the input reads as it did. -/
def netWrongSpec : ChangeSpec := { name := "netWrong", fn := fun _ => fun
  | [d1, d2, d3] => { results := [.lit (.bool true)], args := [d1, d2, d3] }
  | _ => none }
def netWrongRow : OpenClaim := { program := "ytnkcmlngoeofgaadoor", sum := "a104309d8723877c3fa44a37d2b3b68c768f52d8fd4e160d5216f0ba6b1cb26f", func := "milestone/milestonelaw07.NetWrong", spec := "netWrong", inPlace := ["internal/reflectlite.ValueOf", "(internal/reflectlite.Value).Type", "(internal/reflectlite.Value).IsNil", "internal/reflectlite.TypeOf", "(internal/reflectlite.Value).Elem", "(internal/reflectlite.Value).Set"], unfollowed := true, recurses := true, named := ["errors.errorType"], apart := false, laid := [("errors.errorType", laid_errors_errorType)] }
def NetWrongSaid : Prop := netWrongRow.holds Tryd.pinned (OpenSpec.ofChange netWrongSpec)

/-- ITS FALSE NEIGHBOUR: 'it returns false'. Refute it at one input. -/
def netWrongWrong : ChangeSpec := { name := "netWrong", fn := fun _ => fun
  | [d1, d2, d3] => { results := [.lit (.bool false)], args := [d1, d2, d3] }
  | _ => none }
def NetWrongWrongFalsely : Prop := netWrongRow.holds Tryd.pinned (OpenSpec.ofChange netWrongWrong)

/-- 'milestonelaw07.NetShares': WHATEVER THE INPUT: true; the input reads as it did. -/
def netSharesSpec : ChangeSpec := { name := "netShares", fn := fun _ => fun
  | [d] => { results := [.lit (.bool true)], args := [d] }
  | _ => none }
def netSharesRow : OpenClaim := { program := "ytnkcmlngoeofgaadoor", sum := "a104309d8723877c3fa44a37d2b3b68c768f52d8fd4e160d5216f0ba6b1cb26f", func := "milestone/milestonelaw07.NetShares", spec := "netShares", inPlace := ["internal/reflectlite.ValueOf", "(internal/reflectlite.Value).Type", "(internal/reflectlite.Value).IsNil", "internal/reflectlite.TypeOf", "(internal/reflectlite.Value).Elem", "(internal/reflectlite.Value).Set"], unfollowed := true, recurses := true, named := ["errors.errorType"], apart := false, laid := [("errors.errorType", laid_errors_errorType)] }
def NetSharesSaid : Prop := netSharesRow.holds Tryd.pinned (OpenSpec.ofChange netSharesSpec)

/-- ITS FALSE NEIGHBOUR: 'it returns false'. Refute it at one input. -/
def netSharesWrong : ChangeSpec := { name := "netShares", fn := fun _ => fun
  | [d] => { results := [.lit (.bool false)], args := [d] }
  | _ => none }
def NetSharesWrongFalsely : Prop := netSharesRow.holds Tryd.pinned (OpenSpec.ofChange netSharesWrong)

/-- 'milestonelaw07.NetKnown': WHATEVER THE INPUT: true; the input reads as it did. -/
def netKnownSpec : ChangeSpec := { name := "netKnown", fn := fun _ => fun
  | [] => { results := [.lit (.bool true)], args := [] }
  | _ => none }
def netKnownRow : OpenClaim := { program := "ytnkcmlngoeofgaadoor", sum := "a104309d8723877c3fa44a37d2b3b68c768f52d8fd4e160d5216f0ba6b1cb26f", func := "milestone/milestonelaw07.NetKnown", spec := "netKnown", inPlace := ["internal/reflectlite.ValueOf", "(internal/reflectlite.Value).Type", "(internal/reflectlite.Value).IsNil", "internal/reflectlite.TypeOf", "(internal/reflectlite.Value).Elem", "(internal/reflectlite.Value).Set"], unfollowed := true, recurses := true, named := ["errors.errorType"], apart := false, laid := [("errors.errorType", laid_errors_errorType)] }
def NetKnownSaid : Prop := netKnownRow.holds Tryd.pinned (OpenSpec.ofChange netKnownSpec)

/-- ITS FALSE NEIGHBOUR: 'it returns false'. Refute it at one input. -/
def netKnownWrong : ChangeSpec := { name := "netKnown", fn := fun _ => fun
  | [] => { results := [.lit (.bool false)], args := [] }
  | _ => none }
def NetKnownWrongFalsely : Prop := netKnownRow.holds Tryd.pinned (OpenSpec.ofChange netKnownWrong)

/- THE SECOND FORM. 'bulk': how many values and letters a reading holds, each counted each time it is reached (what is shared counts as often as it is met; a slice's spare places count too). A statement '..UptoSaid' is the law's where the arguments, and the package variables that the reading takes, are together of bulk at most 1048576: NARROWER than '..Said'. Prove '..Said' where nothing that the law and all that it calls make is longer than what came in: it says more and counts as full. Else prove '..UptoSaid'. A law counts once. -/
mutual
def uptoBulk {H : Type} : DataW H → Nat
  | .lit (.string bytes) => bytes.length + 1
  | .lit _ => 1
  | .nil => 1
  | .ptr d => uptoBulk d + 1
  | .slice elems spare => uptoBulkAll elems + uptoBulkAll spare + 1
  | .agg parts => uptoBulkAll parts + 1
  | .iface _ d => uptoBulk d + 1
  | .map entries => uptoBulkEntries entries + 1
  | .held _ => 1
def uptoBulkAll {H : Type} : List (DataW H) → Nat
  | [] => 0
  | d :: r => uptoBulk d + uptoBulkAll r
def uptoBulkEntries {H : Type} : List (Lit × DataW H) → Nat
  | [] => 0
  | x :: r => uptoBulkEntry x + uptoBulkEntries r
def uptoBulkEntry {H : Type} : Lit × DataW H → Nat
  | (.string bytes, d) => bytes.length + uptoBulk d + 1
  | (_, d) => uptoBulk d + 1
 end
def uptoSmall : (H : Type) → List (DataW H) → Bool := fun _ ds => decide (uptoBulkAll ds ≤ 1048576)
def OpenSpec.upto (s : _root_.Go.ChangeSpec) : _root_.Go.OpenSpec := { _root_.Go.OpenSpec.ofChange s with cond := some uptoSmall }

/-- 'milestonelaw06.GraphFirst', WHERE WHAT IT READS IS OF BULK AT MOST 1048576: true; the input reads as it did. -/
def graphFirstUptoRow : OpenClaim := { program := "ytnkcmlngoeofgaadoor", sum := "a104309d8723877c3fa44a37d2b3b68c768f52d8fd4e160d5216f0ba6b1cb26f", func := "milestone/milestonelaw06.GraphFirst", spec := "graphFirst", inPlace := ["internal/reflectlite.ValueOf", "(internal/reflectlite.Value).Type", "(internal/reflectlite.Value).IsNil", "internal/reflectlite.TypeOf", "(internal/reflectlite.Value).Elem", "(internal/reflectlite.Value).Set"], unfollowed := true, recurses := true, named := ["errors.errorType"], apart := false, laid := [("errors.errorType", laid_errors_errorType)], narrowed := true }
def GraphFirstUptoSaid : Prop := graphFirstUptoRow.holds Tryd.pinned (OpenSpec.upto graphFirstSpec)

/-- 'milestonelaw06.GraphTells', WHERE WHAT IT READS IS OF BULK AT MOST 1048576: true; the input reads as it did. -/
def graphTellsUptoRow : OpenClaim := { program := "ytnkcmlngoeofgaadoor", sum := "a104309d8723877c3fa44a37d2b3b68c768f52d8fd4e160d5216f0ba6b1cb26f", func := "milestone/milestonelaw06.GraphTells", spec := "graphTells", inPlace := ["internal/reflectlite.ValueOf", "(internal/reflectlite.Value).Type", "(internal/reflectlite.Value).IsNil", "internal/reflectlite.TypeOf", "(internal/reflectlite.Value).Elem", "(internal/reflectlite.Value).Set"], unfollowed := true, recurses := true, named := ["errors.errorType"], apart := false, laid := [("errors.errorType", laid_errors_errorType)], narrowed := true }
def GraphTellsUptoSaid : Prop := graphTellsUptoRow.holds Tryd.pinned (OpenSpec.upto graphTellsSpec)

/-- 'milestonelaw06.GraphBack', WHERE WHAT IT READS IS OF BULK AT MOST 1048576: true; the input reads as it did. -/
def graphBackUptoRow : OpenClaim := { program := "ytnkcmlngoeofgaadoor", sum := "a104309d8723877c3fa44a37d2b3b68c768f52d8fd4e160d5216f0ba6b1cb26f", func := "milestone/milestonelaw06.GraphBack", spec := "graphBack", inPlace := ["internal/reflectlite.ValueOf", "(internal/reflectlite.Value).Type", "(internal/reflectlite.Value).IsNil", "internal/reflectlite.TypeOf", "(internal/reflectlite.Value).Elem", "(internal/reflectlite.Value).Set"], unfollowed := true, recurses := true, named := ["errors.errorType"], apart := false, laid := [("errors.errorType", laid_errors_errorType)], narrowed := true }
def GraphBackUptoSaid : Prop := graphBackUptoRow.holds Tryd.pinned (OpenSpec.upto graphBackSpec)

/-- 'milestonelaw06.GraphKnown', WHERE WHAT IT READS IS OF BULK AT MOST 1048576: true; the input reads as it did. -/
def graphKnownUptoRow : OpenClaim := { program := "ytnkcmlngoeofgaadoor", sum := "a104309d8723877c3fa44a37d2b3b68c768f52d8fd4e160d5216f0ba6b1cb26f", func := "milestone/milestonelaw06.GraphKnown", spec := "graphKnown", inPlace := ["internal/reflectlite.ValueOf", "(internal/reflectlite.Value).Type", "(internal/reflectlite.Value).IsNil", "internal/reflectlite.TypeOf", "(internal/reflectlite.Value).Elem", "(internal/reflectlite.Value).Set"], unfollowed := true, recurses := true, named := ["errors.errorType"], apart := false, laid := [("errors.errorType", laid_errors_errorType)], narrowed := true }
def GraphKnownUptoSaid : Prop := graphKnownUptoRow.holds Tryd.pinned (OpenSpec.upto graphKnownSpec)

/-- 'milestonelaw07.NetOnce', WHERE WHAT IT READS IS OF BULK AT MOST 1048576: true; the input reads as it did. -/
def netOnceUptoRow : OpenClaim := { program := "ytnkcmlngoeofgaadoor", sum := "a104309d8723877c3fa44a37d2b3b68c768f52d8fd4e160d5216f0ba6b1cb26f", func := "milestone/milestonelaw07.NetOnce", spec := "netOnce", inPlace := ["internal/reflectlite.ValueOf", "(internal/reflectlite.Value).Type", "(internal/reflectlite.Value).IsNil", "internal/reflectlite.TypeOf", "(internal/reflectlite.Value).Elem", "(internal/reflectlite.Value).Set"], unfollowed := true, recurses := true, named := ["errors.errorType"], apart := false, laid := [("errors.errorType", laid_errors_errorType)], narrowed := true }
def NetOnceUptoSaid : Prop := netOnceUptoRow.holds Tryd.pinned (OpenSpec.upto netOnceSpec)

/-- 'milestonelaw07.NetTells', WHERE WHAT IT READS IS OF BULK AT MOST 1048576: true; the input reads as it did. -/
def netTellsUptoRow : OpenClaim := { program := "ytnkcmlngoeofgaadoor", sum := "a104309d8723877c3fa44a37d2b3b68c768f52d8fd4e160d5216f0ba6b1cb26f", func := "milestone/milestonelaw07.NetTells", spec := "netTells", inPlace := ["internal/reflectlite.ValueOf", "(internal/reflectlite.Value).Type", "(internal/reflectlite.Value).IsNil", "internal/reflectlite.TypeOf", "(internal/reflectlite.Value).Elem", "(internal/reflectlite.Value).Set"], unfollowed := true, recurses := true, named := ["errors.errorType"], apart := false, laid := [("errors.errorType", laid_errors_errorType)], narrowed := true }
def NetTellsUptoSaid : Prop := netTellsUptoRow.holds Tryd.pinned (OpenSpec.upto netTellsSpec)

/-- 'milestonelaw07.NetWrong', WHERE WHAT IT READS IS OF BULK AT MOST 1048576: true; the input reads as it did. -/
def netWrongUptoRow : OpenClaim := { program := "ytnkcmlngoeofgaadoor", sum := "a104309d8723877c3fa44a37d2b3b68c768f52d8fd4e160d5216f0ba6b1cb26f", func := "milestone/milestonelaw07.NetWrong", spec := "netWrong", inPlace := ["internal/reflectlite.ValueOf", "(internal/reflectlite.Value).Type", "(internal/reflectlite.Value).IsNil", "internal/reflectlite.TypeOf", "(internal/reflectlite.Value).Elem", "(internal/reflectlite.Value).Set"], unfollowed := true, recurses := true, named := ["errors.errorType"], apart := false, laid := [("errors.errorType", laid_errors_errorType)], narrowed := true }
def NetWrongUptoSaid : Prop := netWrongUptoRow.holds Tryd.pinned (OpenSpec.upto netWrongSpec)

/-- 'milestonelaw07.NetShares', WHERE WHAT IT READS IS OF BULK AT MOST 1048576: true; the input reads as it did. -/
def netSharesUptoRow : OpenClaim := { program := "ytnkcmlngoeofgaadoor", sum := "a104309d8723877c3fa44a37d2b3b68c768f52d8fd4e160d5216f0ba6b1cb26f", func := "milestone/milestonelaw07.NetShares", spec := "netShares", inPlace := ["internal/reflectlite.ValueOf", "(internal/reflectlite.Value).Type", "(internal/reflectlite.Value).IsNil", "internal/reflectlite.TypeOf", "(internal/reflectlite.Value).Elem", "(internal/reflectlite.Value).Set"], unfollowed := true, recurses := true, named := ["errors.errorType"], apart := false, laid := [("errors.errorType", laid_errors_errorType)], narrowed := true }
def NetSharesUptoSaid : Prop := netSharesUptoRow.holds Tryd.pinned (OpenSpec.upto netSharesSpec)

/-- 'milestonelaw07.NetKnown', WHERE WHAT IT READS IS OF BULK AT MOST 1048576: true; the input reads as it did. -/
def netKnownUptoRow : OpenClaim := { program := "ytnkcmlngoeofgaadoor", sum := "a104309d8723877c3fa44a37d2b3b68c768f52d8fd4e160d5216f0ba6b1cb26f", func := "milestone/milestonelaw07.NetKnown", spec := "netKnown", inPlace := ["internal/reflectlite.ValueOf", "(internal/reflectlite.Value).Type", "(internal/reflectlite.Value).IsNil", "internal/reflectlite.TypeOf", "(internal/reflectlite.Value).Elem", "(internal/reflectlite.Value).Set"], unfollowed := true, recurses := true, named := ["errors.errorType"], apart := false, laid := [("errors.errorType", laid_errors_errorType)], narrowed := true }
def NetKnownUptoSaid : Prop := netKnownUptoRow.holds Tryd.pinned (OpenSpec.upto netKnownSpec)

end Rows
end Go.Proofs.YtnkcmlngoeofgaaDoor
