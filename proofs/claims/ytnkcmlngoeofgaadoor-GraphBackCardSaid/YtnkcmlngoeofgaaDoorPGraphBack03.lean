/- Texts of the law GraphBack, merged: GrBackL. -/
import Derived.Test.YtnkcmlngoeofgaaDoorPGraphBack02
import Derived.Test.YtnkcmlngoeofgaaDoorPGraphFirst15
/- GraphBack: its arguments read. -/
namespace Go.Proofs.YtnkcmlngoeofgaaDoor
open Go.RowKit
theorem graphBack_rd (cs0 : Array Value) (n : Nat) (b : Int) (W : World) (R0 : Rd Tryd.prog W 25 cs0.toList) (ln : n < 256) (_ : -9223372036854775808 ≤ b ∧ b ≤ 9223372036854775807) (hg : HG W) : Calls Tryd.prog 5 #[.agg cs0, .int .u8 (n : Nat), .int .i64 b] W fun e w' => e = .returned (.bool true) ∧ Below W.heap.size W w' := by
  obtain ⟨r, hr⟩ := Rd.raw R0
  exact graphBack_any (.agg cs0) r n b W hr ln hg
end Go.Proofs.YtnkcmlngoeofgaaDoor
