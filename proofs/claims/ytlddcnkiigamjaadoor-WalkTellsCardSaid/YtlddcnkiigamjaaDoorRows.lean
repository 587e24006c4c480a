/-
  NARROWER THAN 'FOR EVERY INPUT', by the rows' own cells (each row's printed sentence says how): GridOrder: laid · GridKnown: laid · WalkTells: laid · WalkBare: laid · WalkJoins: laid · WalkKnown: laid · WalkTurned: laid.
  DERIVED. THE GIVEN ROWS OF THIS SEAT. 7 by the template 'for every input the law returns true; each argument reads behind the call as it read before'; 0 by the template 'total and deterministic' (their statements: YtlddcnkiigamjaaDoorTotals.lean).
  GIVEN WITH THE SEED: the statements are not yours to turn. If you find one false, say at which input.
  Laid BY PROGRAM, IN A SANDBOX (cutbox-rows.mjs): the forced cells as the released guide's own fill.sh prints them over the translation c255fd7d4c04ca11… (all of the seat's roots in one cut). By AI agents, Wed Nov 11 2026. No macro, syntax, notation, axiom, sorry.
-/
import Derived.Test.YtlddcnkiigamjaaDoorChecked
import GoSem.Claim
import GoSem.ClaimJoined
import GoSem.ClaimMapViews
import Derived.JoinedTies
import Derived.KernelRfl
namespace Go.Proofs.YtlddcnkiigamjaaDoor
/- THE CELL 'sum', in the pinned program and in every row, IS THE sha256 OF THE DUMP (.gsa) THAT YtlddcnkiigamjaaDoorProg.lean LOADS. Nothing in Lean hashes anything: it is a label: what it is worth is what the hold of that sum in a sandbox is worth. -/
noncomputable def Tryd.pinned : Pinned := { name := "ytlddcnkiigamjaadoor", sum := "c255fd7d4c04ca112896a73982ecf58c708058bc0316feaff00456a8ae1daff5", checked := Tryd.checked }
namespace Rows
def none {H : Type} : Left H := { results := [], args := [] }

/- WHAT THE LISTED PACKAGE-LEVEL VARIABLES READ AS WHEN THE CALL BEGINS. Each datum BY PROGRAM (the guide's laid-datum.mjs) off the statement by which the dump's own 'gosem.cut.vars' lays the variable. In a bare row this is a premise. The card (YtlddcnkiigamjaaDoorCards.lean) ties it to the program's text. -/
def laid_errors_errorType {H : Type} : DataW H := .iface "internal/reflectlite.rtype" (.agg [.ptr (.lit (.string [101, 114, 114, 111, 114]))])

/-- 'milestonelaw21.GridOrder': WHATEVER THE INPUT: true; the input reads as it did. -/
def gridOrderSpec : ChangeSpec := { name := "gridOrder", fn := fun _ => fun
  | [d1, d2, d3] => { results := [.lit (.bool true)], args := [d1, d2, d3] }
  | _ => none }
def gridOrderRow : OpenClaim := { program := "ytlddcnkiigamjaadoor", sum := "c255fd7d4c04ca112896a73982ecf58c708058bc0316feaff00456a8ae1daff5", func := "milestone/milestonelaw21.GridOrder", spec := "gridOrder", inPlace := ["internal/reflectlite.ValueOf", "(internal/reflectlite.Value).Type", "(internal/reflectlite.Value).IsNil", "internal/reflectlite.TypeOf", "(internal/reflectlite.Value).Elem", "(internal/reflectlite.Value).Set"], unfollowed := true, recurses := true, named := ["errors.errorType"], apart := false, laid := [("errors.errorType", laid_errors_errorType)] }
def GridOrderSaid : Prop := gridOrderRow.holds Tryd.pinned (OpenSpec.ofChange gridOrderSpec)

/-- ITS FALSE NEIGHBOUR: 'it returns false'. Refute it at one input. -/
def gridOrderWrong : ChangeSpec := { name := "gridOrder", fn := fun _ => fun
  | [d1, d2, d3] => { results := [.lit (.bool false)], args := [d1, d2, d3] }
  | _ => none }
def GridOrderWrongFalsely : Prop := gridOrderRow.holds Tryd.pinned (OpenSpec.ofChange gridOrderWrong)

/-- 'milestonelaw21.GridKnown': WHATEVER THE INPUT: true; the input reads as it did. -/
def gridKnownSpec : ChangeSpec := { name := "gridKnown", fn := fun _ => fun
  | [] => { results := [.lit (.bool true)], args := [] }
  | _ => none }
def gridKnownRow : OpenClaim := { program := "ytlddcnkiigamjaadoor", sum := "c255fd7d4c04ca112896a73982ecf58c708058bc0316feaff00456a8ae1daff5", func := "milestone/milestonelaw21.GridKnown", spec := "gridKnown", inPlace := ["internal/reflectlite.ValueOf", "(internal/reflectlite.Value).Type", "(internal/reflectlite.Value).IsNil", "internal/reflectlite.TypeOf", "(internal/reflectlite.Value).Elem", "(internal/reflectlite.Value).Set"], unfollowed := true, recurses := true, named := ["errors.errorType"], apart := false, laid := [("errors.errorType", laid_errors_errorType)] }
def GridKnownSaid : Prop := gridKnownRow.holds Tryd.pinned (OpenSpec.ofChange gridKnownSpec)

/-- ITS FALSE NEIGHBOUR: 'it returns false'. Refute it at one input. -/
def gridKnownWrong : ChangeSpec := { name := "gridKnown", fn := fun _ => fun
  | [] => { results := [.lit (.bool false)], args := [] }
  | _ => none }
def GridKnownWrongFalsely : Prop := gridKnownRow.holds Tryd.pinned (OpenSpec.ofChange gridKnownWrong)

/-- 'milestonelaw09.WalkTells': WHATEVER THE INPUT: true; the input reads as it did. -/
def walkTellsSpec : ChangeSpec := { name := "walkTells", fn := fun _ => fun
  | [d1, d2] => { results := [.lit (.bool true)], args := [d1, d2] }
  | _ => none }
def walkTellsRow : OpenClaim := { program := "ytlddcnkiigamjaadoor", sum := "c255fd7d4c04ca112896a73982ecf58c708058bc0316feaff00456a8ae1daff5", func := "milestone/milestonelaw09.WalkTells", spec := "walkTells", inPlace := ["internal/reflectlite.ValueOf", "(internal/reflectlite.Value).Type", "(internal/reflectlite.Value).IsNil", "internal/reflectlite.TypeOf", "(internal/reflectlite.Value).Elem", "(internal/reflectlite.Value).Set"], unfollowed := true, recurses := true, named := ["errors.errorType"], apart := false, laid := [("errors.errorType", laid_errors_errorType)] }
def WalkTellsSaid : Prop := walkTellsRow.holds Tryd.pinned (OpenSpec.ofChange walkTellsSpec)

/-- ITS FALSE NEIGHBOUR: 'it returns false'. Refute it at one input. -/
def walkTellsWrong : ChangeSpec := { name := "walkTells", fn := fun _ => fun
  | [d1, d2] => { results := [.lit (.bool false)], args := [d1, d2] }
  | _ => none }
def WalkTellsWrongFalsely : Prop := walkTellsRow.holds Tryd.pinned (OpenSpec.ofChange walkTellsWrong)

/-- 'milestonelaw09.WalkBare': WHATEVER THE INPUT: true; the input reads as it did. -/
def walkBareSpec : ChangeSpec := { name := "walkBare", fn := fun _ => fun
  | [d] => { results := [.lit (.bool true)], args := [d] }
  | _ => none }
def walkBareRow : OpenClaim := { program := "ytlddcnkiigamjaadoor", sum := "c255fd7d4c04ca112896a73982ecf58c708058bc0316feaff00456a8ae1daff5", func := "milestone/milestonelaw09.WalkBare", spec := "walkBare", inPlace := ["internal/reflectlite.ValueOf", "(internal/reflectlite.Value).Type", "(internal/reflectlite.Value).IsNil", "internal/reflectlite.TypeOf", "(internal/reflectlite.Value).Elem", "(internal/reflectlite.Value).Set"], unfollowed := true, recurses := true, named := ["errors.errorType"], apart := false, laid := [("errors.errorType", laid_errors_errorType)] }
def WalkBareSaid : Prop := walkBareRow.holds Tryd.pinned (OpenSpec.ofChange walkBareSpec)

/-- ITS FALSE NEIGHBOUR: 'it returns false'. Refute it at one input. -/
def walkBareWrong : ChangeSpec := { name := "walkBare", fn := fun _ => fun
  | [d] => { results := [.lit (.bool false)], args := [d] }
  | _ => none }
def WalkBareWrongFalsely : Prop := walkBareRow.holds Tryd.pinned (OpenSpec.ofChange walkBareWrong)

/-- 'milestonelaw09.WalkJoins': WHATEVER THE INPUT: true; the input reads as it did. -/
def walkJoinsSpec : ChangeSpec := { name := "walkJoins", fn := fun _ => fun
  | [d] => { results := [.lit (.bool true)], args := [d] }
  | _ => none }
def walkJoinsRow : OpenClaim := { program := "ytlddcnkiigamjaadoor", sum := "c255fd7d4c04ca112896a73982ecf58c708058bc0316feaff00456a8ae1daff5", func := "milestone/milestonelaw09.WalkJoins", spec := "walkJoins", inPlace := ["internal/reflectlite.ValueOf", "(internal/reflectlite.Value).Type", "(internal/reflectlite.Value).IsNil", "internal/reflectlite.TypeOf", "(internal/reflectlite.Value).Elem", "(internal/reflectlite.Value).Set"], unfollowed := true, recurses := true, named := ["errors.errorType"], apart := false, laid := [("errors.errorType", laid_errors_errorType)] }
def WalkJoinsSaid : Prop := walkJoinsRow.holds Tryd.pinned (OpenSpec.ofChange walkJoinsSpec)

/-- ITS FALSE NEIGHBOUR: 'it returns false'. Refute it at one input. -/
def walkJoinsWrong : ChangeSpec := { name := "walkJoins", fn := fun _ => fun
  | [d] => { results := [.lit (.bool false)], args := [d] }
  | _ => none }
def WalkJoinsWrongFalsely : Prop := walkJoinsRow.holds Tryd.pinned (OpenSpec.ofChange walkJoinsWrong)

/-- 'milestonelaw09.WalkKnown': WHATEVER THE INPUT: true; the input reads as it did. -/
def walkKnownSpec : ChangeSpec := { name := "walkKnown", fn := fun _ => fun
  | [] => { results := [.lit (.bool true)], args := [] }
  | _ => none }
def walkKnownRow : OpenClaim := { program := "ytlddcnkiigamjaadoor", sum := "c255fd7d4c04ca112896a73982ecf58c708058bc0316feaff00456a8ae1daff5", func := "milestone/milestonelaw09.WalkKnown", spec := "walkKnown", inPlace := ["internal/reflectlite.ValueOf", "(internal/reflectlite.Value).Type", "(internal/reflectlite.Value).IsNil", "internal/reflectlite.TypeOf", "(internal/reflectlite.Value).Elem", "(internal/reflectlite.Value).Set"], unfollowed := true, recurses := true, named := ["errors.errorType"], apart := false, laid := [("errors.errorType", laid_errors_errorType)] }
def WalkKnownSaid : Prop := walkKnownRow.holds Tryd.pinned (OpenSpec.ofChange walkKnownSpec)

/-- ITS FALSE NEIGHBOUR: 'it returns false'. Refute it at one input. -/
def walkKnownWrong : ChangeSpec := { name := "walkKnown", fn := fun _ => fun
  | [] => { results := [.lit (.bool false)], args := [] }
  | _ => none }
def WalkKnownWrongFalsely : Prop := walkKnownRow.holds Tryd.pinned (OpenSpec.ofChange walkKnownWrong)

/-- 'milestonelaw09.WalkTurned': WHATEVER THE INPUT: true; the input reads as it did. -/
def walkTurnedSpec : ChangeSpec := { name := "walkTurned", fn := fun _ => fun
  | [d] => { results := [.lit (.bool true)], args := [d] }
  | _ => none }
def walkTurnedRow : OpenClaim := { program := "ytlddcnkiigamjaadoor", sum := "c255fd7d4c04ca112896a73982ecf58c708058bc0316feaff00456a8ae1daff5", func := "milestone/milestonelaw09.WalkTurned", spec := "walkTurned", inPlace := ["internal/reflectlite.ValueOf", "(internal/reflectlite.Value).Type", "(internal/reflectlite.Value).IsNil", "internal/reflectlite.TypeOf", "(internal/reflectlite.Value).Elem", "(internal/reflectlite.Value).Set"], unfollowed := true, recurses := true, named := ["errors.errorType"], apart := false, laid := [("errors.errorType", laid_errors_errorType)] }
def WalkTurnedSaid : Prop := walkTurnedRow.holds Tryd.pinned (OpenSpec.ofChange walkTurnedSpec)

/-- ITS FALSE NEIGHBOUR: 'it returns false'. Refute it at one input. -/
def walkTurnedWrong : ChangeSpec := { name := "walkTurned", fn := fun _ => fun
  | [d] => { results := [.lit (.bool false)], args := [d] }
  | _ => none }
def WalkTurnedWrongFalsely : Prop := walkTurnedRow.holds Tryd.pinned (OpenSpec.ofChange walkTurnedWrong)

/- THE SECOND FORM. 'bulk': how many values and letters a reading holds, each counted each time it is reached (what is shared counts as often as it is met; a slice's spare places count too). A statement '..UptoSaid' is the law's where the arguments, and the package variables that the reading takes, are together of bulk at most 1048576: NARROWER than '..Said'. Prove '..Said' where nothing that the law and all that it calls make is longer than what came in: it says more and counts as full. Else prove '..UptoSaid'. A law counts once. -/
mutual
def uptoBulk {H : Type} : DataW H → Nat
  | .lit (.string bytes) => bytes.length + 1
  | .lit _ => 1
  | .nil => 1
  | .ptr d => uptoBulk d + 1
  | .slice elems spare => uptoBulkAll elems + uptoBulkAll spare + 1
  | .agg parts => uptoBulkAll parts + 1
  | .iface _ d => uptoBulk d + 1
  | .map entries => uptoBulkEntries entries + 1
  | .held _ => 1
def uptoBulkAll {H : Type} : List (DataW H) → Nat
  | [] => 0
  | d :: r => uptoBulk d + uptoBulkAll r
def uptoBulkEntries {H : Type} : List (Lit × DataW H) → Nat
  | [] => 0
  | x :: r => uptoBulkEntry x + uptoBulkEntries r
def uptoBulkEntry {H : Type} : Lit × DataW H → Nat
  | (.string bytes, d) => bytes.length + uptoBulk d + 1
  | (_, d) => uptoBulk d + 1
 end
def uptoSmall : (H : Type) → List (DataW H) → Bool := fun _ ds => decide (uptoBulkAll ds ≤ 1048576)
def OpenSpec.upto (s : _root_.Go.ChangeSpec) : _root_.Go.OpenSpec := { _root_.Go.OpenSpec.ofChange s with cond := some uptoSmall }

/-- 'milestonelaw21.GridOrder', WHERE WHAT IT READS IS OF BULK AT MOST 1048576: true; the input reads as it did. -/
def gridOrderUptoRow : OpenClaim := { program := "ytlddcnkiigamjaadoor", sum := "c255fd7d4c04ca112896a73982ecf58c708058bc0316feaff00456a8ae1daff5", func := "milestone/milestonelaw21.GridOrder", spec := "gridOrder", inPlace := ["internal/reflectlite.ValueOf", "(internal/reflectlite.Value).Type", "(internal/reflectlite.Value).IsNil", "internal/reflectlite.TypeOf", "(internal/reflectlite.Value).Elem", "(internal/reflectlite.Value).Set"], unfollowed := true, recurses := true, named := ["errors.errorType"], apart := false, laid := [("errors.errorType", laid_errors_errorType)], narrowed := true }
def GridOrderUptoSaid : Prop := gridOrderUptoRow.holds Tryd.pinned (OpenSpec.upto gridOrderSpec)

/-- 'milestonelaw21.GridKnown', WHERE WHAT IT READS IS OF BULK AT MOST 1048576: true; the input reads as it did. -/
def gridKnownUptoRow : OpenClaim := { program := "ytlddcnkiigamjaadoor", sum := "c255fd7d4c04ca112896a73982ecf58c708058bc0316feaff00456a8ae1daff5", func := "milestone/milestonelaw21.GridKnown", spec := "gridKnown", inPlace := ["internal/reflectlite.ValueOf", "(internal/reflectlite.Value).Type", "(internal/reflectlite.Value).IsNil", "internal/reflectlite.TypeOf", "(internal/reflectlite.Value).Elem", "(internal/reflectlite.Value).Set"], unfollowed := true, recurses := true, named := ["errors.errorType"], apart := false, laid := [("errors.errorType", laid_errors_errorType)], narrowed := true }
def GridKnownUptoSaid : Prop := gridKnownUptoRow.holds Tryd.pinned (OpenSpec.upto gridKnownSpec)

/-- 'milestonelaw09.WalkTells', WHERE WHAT IT READS IS OF BULK AT MOST 1048576: true; the input reads as it did. -/
def walkTellsUptoRow : OpenClaim := { program := "ytlddcnkiigamjaadoor", sum := "c255fd7d4c04ca112896a73982ecf58c708058bc0316feaff00456a8ae1daff5", func := "milestone/milestonelaw09.WalkTells", spec := "walkTells", inPlace := ["internal/reflectlite.ValueOf", "(internal/reflectlite.Value).Type", "(internal/reflectlite.Value).IsNil", "internal/reflectlite.TypeOf", "(internal/reflectlite.Value).Elem", "(internal/reflectlite.Value).Set"], unfollowed := true, recurses := true, named := ["errors.errorType"], apart := false, laid := [("errors.errorType", laid_errors_errorType)], narrowed := true }
def WalkTellsUptoSaid : Prop := walkTellsUptoRow.holds Tryd.pinned (OpenSpec.upto walkTellsSpec)

/-- 'milestonelaw09.WalkBare', WHERE WHAT IT READS IS OF BULK AT MOST 1048576: true; the input reads as it did. -/
def walkBareUptoRow : OpenClaim := { program := "ytlddcnkiigamjaadoor", sum := "c255fd7d4c04ca112896a73982ecf58c708058bc0316feaff00456a8ae1daff5", func := "milestone/milestonelaw09.WalkBare", spec := "walkBare", inPlace := ["internal/reflectlite.ValueOf", "(internal/reflectlite.Value).Type", "(internal/reflectlite.Value).IsNil", "internal/reflectlite.TypeOf", "(internal/reflectlite.Value).Elem", "(internal/reflectlite.Value).Set"], unfollowed := true, recurses := true, named := ["errors.errorType"], apart := false, laid := [("errors.errorType", laid_errors_errorType)], narrowed := true }
def WalkBareUptoSaid : Prop := walkBareUptoRow.holds Tryd.pinned (OpenSpec.upto walkBareSpec)

/-- 'milestonelaw09.WalkJoins', WHERE WHAT IT READS IS OF BULK AT MOST 1048576: true; the input reads as it did. -/
def walkJoinsUptoRow : OpenClaim := { program := "ytlddcnkiigamjaadoor", sum := "c255fd7d4c04ca112896a73982ecf58c708058bc0316feaff00456a8ae1daff5", func := "milestone/milestonelaw09.WalkJoins", spec := "walkJoins", inPlace := ["internal/reflectlite.ValueOf", "(internal/reflectlite.Value).Type", "(internal/reflectlite.Value).IsNil", "internal/reflectlite.TypeOf", "(internal/reflectlite.Value).Elem", "(internal/reflectlite.Value).Set"], unfollowed := true, recurses := true, named := ["errors.errorType"], apart := false, laid := [("errors.errorType", laid_errors_errorType)], narrowed := true }
def WalkJoinsUptoSaid : Prop := walkJoinsUptoRow.holds Tryd.pinned (OpenSpec.upto walkJoinsSpec)

/-- 'milestonelaw09.WalkKnown', WHERE WHAT IT READS IS OF BULK AT MOST 1048576: true; the input reads as it did. -/
def walkKnownUptoRow : OpenClaim := { program := "ytlddcnkiigamjaadoor", sum := "c255fd7d4c04ca112896a73982ecf58c708058bc0316feaff00456a8ae1daff5", func := "milestone/milestonelaw09.WalkKnown", spec := "walkKnown", inPlace := ["internal/reflectlite.ValueOf", "(internal/reflectlite.Value).Type", "(internal/reflectlite.Value).IsNil", "internal/reflectlite.TypeOf", "(internal/reflectlite.Value).Elem", "(internal/reflectlite.Value).Set"], unfollowed := true, recurses := true, named := ["errors.errorType"], apart := false, laid := [("errors.errorType", laid_errors_errorType)], narrowed := true }
def WalkKnownUptoSaid : Prop := walkKnownUptoRow.holds Tryd.pinned (OpenSpec.upto walkKnownSpec)

/-- 'milestonelaw09.WalkTurned', WHERE WHAT IT READS IS OF BULK AT MOST 1048576: true; the input reads as it did. -/
def walkTurnedUptoRow : OpenClaim := { program := "ytlddcnkiigamjaadoor", sum := "c255fd7d4c04ca112896a73982ecf58c708058bc0316feaff00456a8ae1daff5", func := "milestone/milestonelaw09.WalkTurned", spec := "walkTurned", inPlace := ["internal/reflectlite.ValueOf", "(internal/reflectlite.Value).Type", "(internal/reflectlite.Value).IsNil", "internal/reflectlite.TypeOf", "(internal/reflectlite.Value).Elem", "(internal/reflectlite.Value).Set"], unfollowed := true, recurses := true, named := ["errors.errorType"], apart := false, laid := [("errors.errorType", laid_errors_errorType)], narrowed := true }
def WalkTurnedUptoSaid : Prop := walkTurnedUptoRow.holds Tryd.pinned (OpenSpec.upto walkTurnedSpec)

end Rows
end Go.Proofs.YtlddcnkiigamjaaDoor
