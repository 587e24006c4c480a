/-
  No cell of these rows narrows 'for every input' (looked for: loops, veiled, ifaces, maps, wideKeys, modest, calm, conditions, laid).
  DERIVED. THE GIVEN ROWS OF THIS SEAT. 8 by the template 'for every input the law returns true; each argument reads behind the call as it read before'; 0 by the template 'total and deterministic' (their statements: YtcnpldeehbleeaaTotals.lean).
  GIVEN WITH THE SEED: the statements are not yours to turn. If you find one false, say at which input.
  Laid BY PROGRAM, IN A SANDBOX (cutbox-rows.mjs): the forced cells as the released guide's own fill.sh prints them over the translation 5a6c0e7998eb7f41… (all of the seat's roots in one cut). By AI agents, Wed Nov 11 2026. No macro, syntax, notation, axiom, sorry.
-/
import Derived.Test.YtcnpldeehbleeaaChecked
import GoSem.Claim
import GoSem.ClaimJoined
import GoSem.ClaimMapViews
import Derived.JoinedTies
import Derived.KernelRfl
namespace Go.Proofs.Ytcnpldeehbleeaa
/- THE CELL 'sum', in the pinned program and in every row, IS THE sha256 OF THE DUMP (.gsa) THAT YtcnpldeehbleeaaProg.lean LOADS. Nothing in Lean hashes anything: it is a label: what it is worth is what the hold of that sum in a sandbox is worth. -/
noncomputable def Try.pinned : Pinned := { name := "ytcnpldeehbleeaa", sum := "5a6c0e7998eb7f418f49134c47ed6d745227a0b950f2cce03e263be7cd3eb28f", checked := Try.checked }
namespace Rows
def none {H : Type} : Left H := { results := [], args := [] }

/-- 'milestonelaw05.DrawTells': WHATEVER THE INPUT: true; the input reads as it did. -/
def drawTellsSpec : ChangeSpec := { name := "drawTells", fn := fun _ => fun
  | [d1, d2] => { results := [.lit (.bool true)], args := [d1, d2] }
  | _ => none }
def drawTellsRow : OpenClaim := { program := "ytcnpldeehbleeaa", sum := "5a6c0e7998eb7f418f49134c47ed6d745227a0b950f2cce03e263be7cd3eb28f", func := "milestone/milestonelaw05.DrawTells", spec := "drawTells", apart := false }
def DrawTellsSaid : Prop := drawTellsRow.holds Try.pinned (OpenSpec.ofChange drawTellsSpec)

/-- ITS FALSE NEIGHBOUR: 'it returns false'. Refute it at one input. -/
def drawTellsWrong : ChangeSpec := { name := "drawTells", fn := fun _ => fun
  | [d1, d2] => { results := [.lit (.bool false)], args := [d1, d2] }
  | _ => none }
def DrawTellsWrongFalsely : Prop := drawTellsRow.holds Try.pinned (OpenSpec.ofChange drawTellsWrong)

/-- 'milestonelaw05.DrawBelow': WHATEVER THE INPUT: true; the input reads as it did. -/
def drawBelowSpec : ChangeSpec := { name := "drawBelow", fn := fun _ => fun
  | [d1, d2] => { results := [.lit (.bool true)], args := [d1, d2] }
  | _ => none }
def drawBelowRow : OpenClaim := { program := "ytcnpldeehbleeaa", sum := "5a6c0e7998eb7f418f49134c47ed6d745227a0b950f2cce03e263be7cd3eb28f", func := "milestone/milestonelaw05.DrawBelow", spec := "drawBelow", apart := false }
def DrawBelowSaid : Prop := drawBelowRow.holds Try.pinned (OpenSpec.ofChange drawBelowSpec)

/-- ITS FALSE NEIGHBOUR: 'it returns false'. Refute it at one input. -/
def drawBelowWrong : ChangeSpec := { name := "drawBelow", fn := fun _ => fun
  | [d1, d2] => { results := [.lit (.bool false)], args := [d1, d2] }
  | _ => none }
def DrawBelowWrongFalsely : Prop := drawBelowRow.holds Try.pinned (OpenSpec.ofChange drawBelowWrong)

/-- 'milestonelaw05.DrawPicks': WHATEVER THE INPUT: true; the input reads as it did. -/
def drawPicksSpec : ChangeSpec := { name := "drawPicks", fn := fun _ => fun
  | [d1, d2, d3] => { results := [.lit (.bool true)], args := [d1, d2, d3] }
  | _ => none }
def drawPicksRow : OpenClaim := { program := "ytcnpldeehbleeaa", sum := "5a6c0e7998eb7f418f49134c47ed6d745227a0b950f2cce03e263be7cd3eb28f", func := "milestone/milestonelaw05.DrawPicks", spec := "drawPicks", apart := false }
def DrawPicksSaid : Prop := drawPicksRow.holds Try.pinned (OpenSpec.ofChange drawPicksSpec)

/-- ITS FALSE NEIGHBOUR: 'it returns false'. Refute it at one input. -/
def drawPicksWrong : ChangeSpec := { name := "drawPicks", fn := fun _ => fun
  | [d1, d2, d3] => { results := [.lit (.bool false)], args := [d1, d2, d3] }
  | _ => none }
def DrawPicksWrongFalsely : Prop := drawPicksRow.holds Try.pinned (OpenSpec.ofChange drawPicksWrong)

/-- 'milestonelaw05.DrawKnown': WHATEVER THE INPUT: true; the input reads as it did. -/
def drawKnownSpec : ChangeSpec := { name := "drawKnown", fn := fun _ => fun
  | [] => { results := [.lit (.bool true)], args := [] }
  | _ => none }
def drawKnownRow : OpenClaim := { program := "ytcnpldeehbleeaa", sum := "5a6c0e7998eb7f418f49134c47ed6d745227a0b950f2cce03e263be7cd3eb28f", func := "milestone/milestonelaw05.DrawKnown", spec := "drawKnown", apart := false }
def DrawKnownSaid : Prop := drawKnownRow.holds Try.pinned (OpenSpec.ofChange drawKnownSpec)

/-- ITS FALSE NEIGHBOUR: 'it returns false'. Refute it at one input. -/
def drawKnownWrong : ChangeSpec := { name := "drawKnown", fn := fun _ => fun
  | [] => { results := [.lit (.bool false)], args := [] }
  | _ => none }
def DrawKnownWrongFalsely : Prop := drawKnownRow.holds Try.pinned (OpenSpec.ofChange drawKnownWrong)

/-- 'milestonelaw03.BitsBack': WHATEVER THE INPUT: true; the input reads as it did. -/
def bitsBackSpec : ChangeSpec := { name := "bitsBack", fn := fun _ => fun
  | [d] => { results := [.lit (.bool true)], args := [d] }
  | _ => none }
def bitsBackRow : OpenClaim := { program := "ytcnpldeehbleeaa", sum := "5a6c0e7998eb7f418f49134c47ed6d745227a0b950f2cce03e263be7cd3eb28f", func := "milestone/milestonelaw03.BitsBack", spec := "bitsBack", unfollowed := true, recurses := true, apart := false }
def BitsBackSaid : Prop := bitsBackRow.holds Try.pinned (OpenSpec.ofChange bitsBackSpec)

/-- ITS FALSE NEIGHBOUR: 'it returns false'. Refute it at one input. -/
def bitsBackWrong : ChangeSpec := { name := "bitsBack", fn := fun _ => fun
  | [d] => { results := [.lit (.bool false)], args := [d] }
  | _ => none }
def BitsBackWrongFalsely : Prop := bitsBackRow.holds Try.pinned (OpenSpec.ofChange bitsBackWrong)

/-- 'milestonelaw03.BitsAlone': WHATEVER THE INPUT: true; the input reads as it did. -/
def bitsAloneSpec : ChangeSpec := { name := "bitsAlone", fn := fun _ => fun
  | [d1, d2, d3] => { results := [.lit (.bool true)], args := [d1, d2, d3] }
  | _ => none }
def bitsAloneRow : OpenClaim := { program := "ytcnpldeehbleeaa", sum := "5a6c0e7998eb7f418f49134c47ed6d745227a0b950f2cce03e263be7cd3eb28f", func := "milestone/milestonelaw03.BitsAlone", spec := "bitsAlone", unfollowed := true, recurses := true, apart := false }
def BitsAloneSaid : Prop := bitsAloneRow.holds Try.pinned (OpenSpec.ofChange bitsAloneSpec)

/-- ITS FALSE NEIGHBOUR: 'it returns false'. Refute it at one input. -/
def bitsAloneWrong : ChangeSpec := { name := "bitsAlone", fn := fun _ => fun
  | [d1, d2, d3] => { results := [.lit (.bool false)], args := [d1, d2, d3] }
  | _ => none }
def BitsAloneWrongFalsely : Prop := bitsAloneRow.holds Try.pinned (OpenSpec.ofChange bitsAloneWrong)

/-- 'milestonelaw03.BitsOr': WHATEVER THE INPUT: true; the input reads as it did. -/
def bitsOrSpec : ChangeSpec := { name := "bitsOr", fn := fun _ => fun
  | [d1, d2] => { results := [.lit (.bool true)], args := [d1, d2] }
  | _ => none }
def bitsOrRow : OpenClaim := { program := "ytcnpldeehbleeaa", sum := "5a6c0e7998eb7f418f49134c47ed6d745227a0b950f2cce03e263be7cd3eb28f", func := "milestone/milestonelaw03.BitsOr", spec := "bitsOr", unfollowed := true, recurses := true, apart := false }
def BitsOrSaid : Prop := bitsOrRow.holds Try.pinned (OpenSpec.ofChange bitsOrSpec)

/-- ITS FALSE NEIGHBOUR: 'it returns false'. Refute it at one input. -/
def bitsOrWrong : ChangeSpec := { name := "bitsOr", fn := fun _ => fun
  | [d1, d2] => { results := [.lit (.bool false)], args := [d1, d2] }
  | _ => none }
def BitsOrWrongFalsely : Prop := bitsOrRow.holds Try.pinned (OpenSpec.ofChange bitsOrWrong)

/-- 'milestonelaw03.BitsKnown': WHATEVER THE INPUT: true; the input reads as it did. -/
def bitsKnownSpec : ChangeSpec := { name := "bitsKnown", fn := fun _ => fun
  | [] => { results := [.lit (.bool true)], args := [] }
  | _ => none }
def bitsKnownRow : OpenClaim := { program := "ytcnpldeehbleeaa", sum := "5a6c0e7998eb7f418f49134c47ed6d745227a0b950f2cce03e263be7cd3eb28f", func := "milestone/milestonelaw03.BitsKnown", spec := "bitsKnown", unfollowed := true, recurses := true, apart := false }
def BitsKnownSaid : Prop := bitsKnownRow.holds Try.pinned (OpenSpec.ofChange bitsKnownSpec)

/-- ITS FALSE NEIGHBOUR: 'it returns false'. Refute it at one input. -/
def bitsKnownWrong : ChangeSpec := { name := "bitsKnown", fn := fun _ => fun
  | [] => { results := [.lit (.bool false)], args := [] }
  | _ => none }
def BitsKnownWrongFalsely : Prop := bitsKnownRow.holds Try.pinned (OpenSpec.ofChange bitsKnownWrong)

/- THE SECOND FORM. 'bulk': how many values and letters a reading holds, each counted each time it is reached (what is shared counts as often as it is met; a slice's spare places count too). A statement '..UptoSaid' is the law's where the arguments, and the package variables that the reading takes, are together of bulk at most 1048576: NARROWER than '..Said'. Prove '..Said' where nothing that the law and all that it calls make is longer than what came in: it says more and counts as full. Else prove '..UptoSaid'. A law counts once. -/
mutual
def uptoBulk {H : Type} : DataW H → Nat
  | .lit (.string bytes) => bytes.length + 1
  | .lit _ => 1
  | .nil => 1
  | .ptr d => uptoBulk d + 1
  | .slice elems spare => uptoBulkAll elems + uptoBulkAll spare + 1
  | .agg parts => uptoBulkAll parts + 1
  | .iface _ d => uptoBulk d + 1
  | .map entries => uptoBulkEntries entries + 1
  | .held _ => 1
def uptoBulkAll {H : Type} : List (DataW H) → Nat
  | [] => 0
  | d :: r => uptoBulk d + uptoBulkAll r
def uptoBulkEntries {H : Type} : List (Lit × DataW H) → Nat
  | [] => 0
  | x :: r => uptoBulkEntry x + uptoBulkEntries r
def uptoBulkEntry {H : Type} : Lit × DataW H → Nat
  | (.string bytes, d) => bytes.length + uptoBulk d + 1
  | (_, d) => uptoBulk d + 1
 end
def uptoSmall : (H : Type) → List (DataW H) → Bool := fun _ ds => decide (uptoBulkAll ds ≤ 1048576)
def OpenSpec.upto (s : _root_.Go.ChangeSpec) : _root_.Go.OpenSpec := { _root_.Go.OpenSpec.ofChange s with cond := some uptoSmall }

/-- 'milestonelaw05.DrawTells', WHERE WHAT IT READS IS OF BULK AT MOST 1048576: true; the input reads as it did. -/
def drawTellsUptoRow : OpenClaim := { program := "ytcnpldeehbleeaa", sum := "5a6c0e7998eb7f418f49134c47ed6d745227a0b950f2cce03e263be7cd3eb28f", func := "milestone/milestonelaw05.DrawTells", spec := "drawTells", apart := false, narrowed := true }
def DrawTellsUptoSaid : Prop := drawTellsUptoRow.holds Try.pinned (OpenSpec.upto drawTellsSpec)

/-- 'milestonelaw05.DrawBelow', WHERE WHAT IT READS IS OF BULK AT MOST 1048576: true; the input reads as it did. -/
def drawBelowUptoRow : OpenClaim := { program := "ytcnpldeehbleeaa", sum := "5a6c0e7998eb7f418f49134c47ed6d745227a0b950f2cce03e263be7cd3eb28f", func := "milestone/milestonelaw05.DrawBelow", spec := "drawBelow", apart := false, narrowed := true }
def DrawBelowUptoSaid : Prop := drawBelowUptoRow.holds Try.pinned (OpenSpec.upto drawBelowSpec)

/-- 'milestonelaw05.DrawPicks', WHERE WHAT IT READS IS OF BULK AT MOST 1048576: true; the input reads as it did. -/
def drawPicksUptoRow : OpenClaim := { program := "ytcnpldeehbleeaa", sum := "5a6c0e7998eb7f418f49134c47ed6d745227a0b950f2cce03e263be7cd3eb28f", func := "milestone/milestonelaw05.DrawPicks", spec := "drawPicks", apart := false, narrowed := true }
def DrawPicksUptoSaid : Prop := drawPicksUptoRow.holds Try.pinned (OpenSpec.upto drawPicksSpec)

/-- 'milestonelaw05.DrawKnown', WHERE WHAT IT READS IS OF BULK AT MOST 1048576: true; the input reads as it did. -/
def drawKnownUptoRow : OpenClaim := { program := "ytcnpldeehbleeaa", sum := "5a6c0e7998eb7f418f49134c47ed6d745227a0b950f2cce03e263be7cd3eb28f", func := "milestone/milestonelaw05.DrawKnown", spec := "drawKnown", apart := false, narrowed := true }
def DrawKnownUptoSaid : Prop := drawKnownUptoRow.holds Try.pinned (OpenSpec.upto drawKnownSpec)

/-- 'milestonelaw03.BitsBack', WHERE WHAT IT READS IS OF BULK AT MOST 1048576: true; the input reads as it did. -/
def bitsBackUptoRow : OpenClaim := { program := "ytcnpldeehbleeaa", sum := "5a6c0e7998eb7f418f49134c47ed6d745227a0b950f2cce03e263be7cd3eb28f", func := "milestone/milestonelaw03.BitsBack", spec := "bitsBack", unfollowed := true, recurses := true, apart := false, narrowed := true }
def BitsBackUptoSaid : Prop := bitsBackUptoRow.holds Try.pinned (OpenSpec.upto bitsBackSpec)

/-- 'milestonelaw03.BitsAlone', WHERE WHAT IT READS IS OF BULK AT MOST 1048576: true; the input reads as it did. -/
def bitsAloneUptoRow : OpenClaim := { program := "ytcnpldeehbleeaa", sum := "5a6c0e7998eb7f418f49134c47ed6d745227a0b950f2cce03e263be7cd3eb28f", func := "milestone/milestonelaw03.BitsAlone", spec := "bitsAlone", unfollowed := true, recurses := true, apart := false, narrowed := true }
def BitsAloneUptoSaid : Prop := bitsAloneUptoRow.holds Try.pinned (OpenSpec.upto bitsAloneSpec)

/-- 'milestonelaw03.BitsOr', WHERE WHAT IT READS IS OF BULK AT MOST 1048576: true; the input reads as it did. -/
def bitsOrUptoRow : OpenClaim := { program := "ytcnpldeehbleeaa", sum := "5a6c0e7998eb7f418f49134c47ed6d745227a0b950f2cce03e263be7cd3eb28f", func := "milestone/milestonelaw03.BitsOr", spec := "bitsOr", unfollowed := true, recurses := true, apart := false, narrowed := true }
def BitsOrUptoSaid : Prop := bitsOrUptoRow.holds Try.pinned (OpenSpec.upto bitsOrSpec)

/-- 'milestonelaw03.BitsKnown', WHERE WHAT IT READS IS OF BULK AT MOST 1048576: true; the input reads as it did. -/
def bitsKnownUptoRow : OpenClaim := { program := "ytcnpldeehbleeaa", sum := "5a6c0e7998eb7f418f49134c47ed6d745227a0b950f2cce03e263be7cd3eb28f", func := "milestone/milestonelaw03.BitsKnown", spec := "bitsKnown", unfollowed := true, recurses := true, apart := false, narrowed := true }
def BitsKnownUptoSaid : Prop := bitsKnownUptoRow.holds Try.pinned (OpenSpec.upto bitsKnownSpec)

end Rows
end Go.Proofs.Ytcnpldeehbleeaa
