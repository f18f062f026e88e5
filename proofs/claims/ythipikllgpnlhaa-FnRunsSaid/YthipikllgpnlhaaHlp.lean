/- Contracts of the laws' own helpers: toIntS copies, eqIntS compares, markIntS writes numbers, heldIntS reads them. -/
import Derived.Test.YthipikllgpnlhaaProg
import Derived.Test.YthipikllgpnlhaaBase
namespace Go.Proofs.Ythipikllgpnlhaa
set_option maxRecDepth 100000
open Go Go.RowKit

theorem infoI : (Try.prog.info? 3).map (fun i => (i.zero, i.size, i.bytes)) = some (some (.int .i64 0), 1, 8) := by kernel_rfl

/-! eqIntS -/
/-! heldIntS: -1, or the next number -/
def marks (k : Int) (n : Nat) : List Int := (List.range n).map fun i : Nat => k + i

theorem marks_length (k : Int) (n : Nat) : (marks k n).length = n := by simp [marks]
theorem marks_get (k : Int) (n i : Nat) (h : i < (marks k n).length) : (marks k n)[i] = k + i := by simp [marks]

end Go.Proofs.Ythipikllgpnlhaa
