/- OctetTells: the walk, from the arguments' readings. -/
import Derived.Test.YtaikcehdomaebaaDoorOctTells
namespace Go.Proofs.YtaikcehdomaebaaDoor
open Go.RowKit
theorem octetTells_rd (v1 v2 : Value) (s : ByteArray) (w : World) (r1 : Rd Tryd.prog w 52 [v1]) (r2 : Rd Tryd.prog w 52 [v2]) (hs : s.size ≤ maxLen) (hg : HG w) :
    Calls Tryd.prog 5 #[v1, v2, .string s] w fun e w' => e = .returned (.bool true) ∧ Below w.heap.size w w' := by
  obtain ⟨L1, h1, k1⟩ := Rd.items r1
  obtain ⟨L2, h2, k2⟩ := Rd.items r2
  exact octetTells_any v1 v2 s L1 L2 w h1 h2 k1 k2 hs hg
end Go.Proofs.YtaikcehdomaebaaDoor
