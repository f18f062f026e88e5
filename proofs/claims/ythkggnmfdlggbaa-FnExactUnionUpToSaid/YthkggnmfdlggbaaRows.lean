/-
  No cell of these rows narrows 'for every input' (looked for: loops, veiled, ifaces, maps, wideKeys, modest, calm, conditions, laid).
  DERIVED. THE GIVEN ROWS OF THIS SEAT. 7 by the template 'for every input the law returns true; each argument reads behind the call as it read before'; 0 by the template 'total and deterministic' (their statements: YthkggnmfdlggbaaTotals.lean).
  GIVEN WITH THE SEED: the statements are not yours to turn. If you find one false, say at which input.
  Laid BY PROGRAM, IN A SANDBOX (cutbox-rows.mjs): the forced cells as the released guide's own fill.sh prints them over the translation 06cd6b0ec47821a9… (all of the seat's roots in one cut). By AI agents, Wed Nov 11 2026. No macro, syntax, notation, axiom, sorry.
-/
import Derived.Test.YthkggnmfdlggbaaChecked
import GoSem.Claim
import GoSem.ClaimJoined
import GoSem.ClaimMapViews
import Derived.JoinedTies
import Derived.KernelRfl
namespace Go.Proofs.Ythkggnmfdlggbaa
/- THE CELL 'sum', in the pinned program and in every row, IS THE sha256 OF THE DUMP (.gsa) THAT YthkggnmfdlggbaaProg.lean LOADS. Nothing in Lean hashes anything: it is a label: what it is worth is what the hold of that sum in a sandbox is worth. -/
noncomputable def Try.pinned : Pinned := { name := "ythkggnmfdlggbaa", sum := "06cd6b0ec47821a9292d716500adc802e3c3f04492b0577e230d3a42ec5c24a7", checked := Try.checked }
namespace Rows
def none {H : Type} : Left H := { results := [], args := [] }

/-- 'laws.FnExactReverseNear': WHATEVER THE INPUT: true; the input reads as it did. -/
def fnExactReverseNearSpec : ChangeSpec := { name := "fnExactReverseNear", fn := fun _ => fun
  | [d] => { results := [.lit (.bool true)], args := [d] }
  | _ => none }
def fnExactReverseNearRow : OpenClaim := { program := "ythkggnmfdlggbaa", sum := "06cd6b0ec47821a9292d716500adc802e3c3f04492b0577e230d3a42ec5c24a7", func := "loop.example/g03101/laws.FnExactReverseNear", spec := "fnExactReverseNear", recurses := true, apart := false }
def FnExactReverseNearSaid : Prop := fnExactReverseNearRow.holds Try.pinned (OpenSpec.ofChange fnExactReverseNearSpec)

/-- ITS FALSE NEIGHBOUR: 'it returns false'. Refute it at one input. -/
def fnExactReverseNearWrong : ChangeSpec := { name := "fnExactReverseNear", fn := fun _ => fun
  | [d] => { results := [.lit (.bool false)], args := [d] }
  | _ => none }
def FnExactReverseNearWrongFalsely : Prop := fnExactReverseNearRow.holds Try.pinned (OpenSpec.ofChange fnExactReverseNearWrong)

/-- 'laws.FnExactInverseMesh': WHATEVER THE INPUT: true; the input reads as it did. -/
def fnExactInverseMeshSpec : ChangeSpec := { name := "fnExactInverseMesh", fn := fun _ => fun
  | [d] => { results := [.lit (.bool true)], args := [d] }
  | _ => none }
def fnExactInverseMeshRow : OpenClaim := { program := "ythkggnmfdlggbaa", sum := "06cd6b0ec47821a9292d716500adc802e3c3f04492b0577e230d3a42ec5c24a7", func := "loop.example/g03101/laws.FnExactInverseMesh", spec := "fnExactInverseMesh", unfollowed := true, recurses := true, apart := false }
def FnExactInverseMeshSaid : Prop := fnExactInverseMeshRow.holds Try.pinned (OpenSpec.ofChange fnExactInverseMeshSpec)

/-- ITS FALSE NEIGHBOUR: 'it returns false'. Refute it at one input. -/
def fnExactInverseMeshWrong : ChangeSpec := { name := "fnExactInverseMesh", fn := fun _ => fun
  | [d] => { results := [.lit (.bool false)], args := [d] }
  | _ => none }
def FnExactInverseMeshWrongFalsely : Prop := fnExactInverseMeshRow.holds Try.pinned (OpenSpec.ofChange fnExactInverseMeshWrong)

/-- 'laws.FnExactMakeBasis': WHATEVER THE INPUT: true; the input reads as it did. -/
def fnExactMakeBasisSpec : ChangeSpec := { name := "fnExactMakeBasis", fn := fun _ => fun
  | [d] => { results := [.lit (.bool true)], args := [d] }
  | _ => none }
def fnExactMakeBasisRow : OpenClaim := { program := "ythkggnmfdlggbaa", sum := "06cd6b0ec47821a9292d716500adc802e3c3f04492b0577e230d3a42ec5c24a7", func := "loop.example/g03101/laws.FnExactMakeBasis", spec := "fnExactMakeBasis", unfollowed := true, recurses := true, apart := false }
def FnExactMakeBasisSaid : Prop := fnExactMakeBasisRow.holds Try.pinned (OpenSpec.ofChange fnExactMakeBasisSpec)

/-- ITS FALSE NEIGHBOUR: 'it returns false'. Refute it at one input. -/
def fnExactMakeBasisWrong : ChangeSpec := { name := "fnExactMakeBasis", fn := fun _ => fun
  | [d] => { results := [.lit (.bool false)], args := [d] }
  | _ => none }
def FnExactMakeBasisWrongFalsely : Prop := fnExactMakeBasisRow.holds Try.pinned (OpenSpec.ofChange fnExactMakeBasisWrong)

/-- 'laws.FnExactSymmetryBasis': WHATEVER THE INPUT: true; the input reads as it did. -/
def fnExactSymmetryBasisSpec : ChangeSpec := { name := "fnExactSymmetryBasis", fn := fun _ => fun
  | [d1, d2] => { results := [.lit (.bool true)], args := [d1, d2] }
  | _ => none }
def fnExactSymmetryBasisRow : OpenClaim := { program := "ythkggnmfdlggbaa", sum := "06cd6b0ec47821a9292d716500adc802e3c3f04492b0577e230d3a42ec5c24a7", func := "loop.example/g03101/laws.FnExactSymmetryBasis", spec := "fnExactSymmetryBasis", unfollowed := true, recurses := true, apart := false }
def FnExactSymmetryBasisSaid : Prop := fnExactSymmetryBasisRow.holds Try.pinned (OpenSpec.ofChange fnExactSymmetryBasisSpec)

/-- ITS FALSE NEIGHBOUR: 'it returns false'. Refute it at one input. -/
def fnExactSymmetryBasisWrong : ChangeSpec := { name := "fnExactSymmetryBasis", fn := fun _ => fun
  | [d1, d2] => { results := [.lit (.bool false)], args := [d1, d2] }
  | _ => none }
def FnExactSymmetryBasisWrongFalsely : Prop := fnExactSymmetryBasisRow.holds Try.pinned (OpenSpec.ofChange fnExactSymmetryBasisWrong)

/-- 'laws.FnExactMeetClasses': WHATEVER THE INPUT: true; the input reads as it did. -/
def fnExactMeetClassesSpec : ChangeSpec := { name := "fnExactMeetClasses", fn := fun _ => fun
  | [d1, d2] => { results := [.lit (.bool true)], args := [d1, d2] }
  | _ => none }
def fnExactMeetClassesRow : OpenClaim := { program := "ythkggnmfdlggbaa", sum := "06cd6b0ec47821a9292d716500adc802e3c3f04492b0577e230d3a42ec5c24a7", func := "loop.example/g03101/laws.FnExactMeetClasses", spec := "fnExactMeetClasses", unfollowed := true, recurses := true, apart := false }
def FnExactMeetClassesSaid : Prop := fnExactMeetClassesRow.holds Try.pinned (OpenSpec.ofChange fnExactMeetClassesSpec)

/-- ITS FALSE NEIGHBOUR: 'it returns false'. Refute it at one input. -/
def fnExactMeetClassesWrong : ChangeSpec := { name := "fnExactMeetClasses", fn := fun _ => fun
  | [d1, d2] => { results := [.lit (.bool false)], args := [d1, d2] }
  | _ => none }
def FnExactMeetClassesWrongFalsely : Prop := fnExactMeetClassesRow.holds Try.pinned (OpenSpec.ofChange fnExactMeetClassesWrong)

/-- 'laws.FnExactBasisUpTo': WHATEVER THE INPUT: true; the input reads as it did. -/
def fnExactBasisUpToSpec : ChangeSpec := { name := "fnExactBasisUpTo", fn := fun _ => fun
  | [d1, d2] => { results := [.lit (.bool true)], args := [d1, d2] }
  | _ => none }
def fnExactBasisUpToRow : OpenClaim := { program := "ythkggnmfdlggbaa", sum := "06cd6b0ec47821a9292d716500adc802e3c3f04492b0577e230d3a42ec5c24a7", func := "loop.example/g03101/laws.FnExactBasisUpTo", spec := "fnExactBasisUpTo", unfollowed := true, recurses := true, apart := false }
def FnExactBasisUpToSaid : Prop := fnExactBasisUpToRow.holds Try.pinned (OpenSpec.ofChange fnExactBasisUpToSpec)

/-- ITS FALSE NEIGHBOUR: 'it returns false'. Refute it at one input. -/
def fnExactBasisUpToWrong : ChangeSpec := { name := "fnExactBasisUpTo", fn := fun _ => fun
  | [d1, d2] => { results := [.lit (.bool false)], args := [d1, d2] }
  | _ => none }
def FnExactBasisUpToWrongFalsely : Prop := fnExactBasisUpToRow.holds Try.pinned (OpenSpec.ofChange fnExactBasisUpToWrong)

/-- 'laws.FnExactUnionUpTo': WHATEVER THE INPUT: true; the input reads as it did. -/
def fnExactUnionUpToSpec : ChangeSpec := { name := "fnExactUnionUpTo", fn := fun _ => fun
  | [d1, d2, d3] => { results := [.lit (.bool true)], args := [d1, d2, d3] }
  | _ => none }
def fnExactUnionUpToRow : OpenClaim := { program := "ythkggnmfdlggbaa", sum := "06cd6b0ec47821a9292d716500adc802e3c3f04492b0577e230d3a42ec5c24a7", func := "loop.example/g03101/laws.FnExactUnionUpTo", spec := "fnExactUnionUpTo", unfollowed := true, recurses := true, apart := false }
def FnExactUnionUpToSaid : Prop := fnExactUnionUpToRow.holds Try.pinned (OpenSpec.ofChange fnExactUnionUpToSpec)

/-- ITS FALSE NEIGHBOUR: 'it returns false'. Refute it at one input. -/
def fnExactUnionUpToWrong : ChangeSpec := { name := "fnExactUnionUpTo", fn := fun _ => fun
  | [d1, d2, d3] => { results := [.lit (.bool false)], args := [d1, d2, d3] }
  | _ => none }
def FnExactUnionUpToWrongFalsely : Prop := fnExactUnionUpToRow.holds Try.pinned (OpenSpec.ofChange fnExactUnionUpToWrong)

/- THE SECOND FORM. 'bulk': how many values and letters a reading holds, each counted each time it is reached (what is shared counts as often as it is met; a slice's spare places count too). A statement '..UptoSaid' is the law's where the arguments, and the package variables that the reading takes, are together of bulk at most 1048576: NARROWER than '..Said'. Prove '..Said' where nothing that the law and all that it calls make is longer than what came in: it says more and counts as full. Else prove '..UptoSaid'. A law counts once. -/
mutual
def uptoBulk {H : Type} : DataW H → Nat
  | .lit (.string bytes) => bytes.length + 1
  | .lit _ => 1
  | .nil => 1
  | .ptr d => uptoBulk d + 1
  | .slice elems spare => uptoBulkAll elems + uptoBulkAll spare + 1
  | .agg parts => uptoBulkAll parts + 1
  | .iface _ d => uptoBulk d + 1
  | .map entries => uptoBulkEntries entries + 1
  | .held _ => 1
def uptoBulkAll {H : Type} : List (DataW H) → Nat
  | [] => 0
  | d :: r => uptoBulk d + uptoBulkAll r
def uptoBulkEntries {H : Type} : List (Lit × DataW H) → Nat
  | [] => 0
  | x :: r => uptoBulkEntry x + uptoBulkEntries r
def uptoBulkEntry {H : Type} : Lit × DataW H → Nat
  | (.string bytes, d) => bytes.length + uptoBulk d + 1
  | (_, d) => uptoBulk d + 1
 end
def uptoSmall : (H : Type) → List (DataW H) → Bool := fun _ ds => decide (uptoBulkAll ds ≤ 1048576)
def OpenSpec.upto (s : _root_.Go.ChangeSpec) : _root_.Go.OpenSpec := { _root_.Go.OpenSpec.ofChange s with cond := some uptoSmall }

/-- 'laws.FnExactReverseNear', WHERE WHAT IT READS IS OF BULK AT MOST 1048576: true; the input reads as it did. -/
def fnExactReverseNearUptoRow : OpenClaim := { program := "ythkggnmfdlggbaa", sum := "06cd6b0ec47821a9292d716500adc802e3c3f04492b0577e230d3a42ec5c24a7", func := "loop.example/g03101/laws.FnExactReverseNear", spec := "fnExactReverseNear", recurses := true, apart := false, narrowed := true }
def FnExactReverseNearUptoSaid : Prop := fnExactReverseNearUptoRow.holds Try.pinned (OpenSpec.upto fnExactReverseNearSpec)

/-- 'laws.FnExactInverseMesh', WHERE WHAT IT READS IS OF BULK AT MOST 1048576: true; the input reads as it did. -/
def fnExactInverseMeshUptoRow : OpenClaim := { program := "ythkggnmfdlggbaa", sum := "06cd6b0ec47821a9292d716500adc802e3c3f04492b0577e230d3a42ec5c24a7", func := "loop.example/g03101/laws.FnExactInverseMesh", spec := "fnExactInverseMesh", unfollowed := true, recurses := true, apart := false, narrowed := true }
def FnExactInverseMeshUptoSaid : Prop := fnExactInverseMeshUptoRow.holds Try.pinned (OpenSpec.upto fnExactInverseMeshSpec)

/-- 'laws.FnExactMakeBasis', WHERE WHAT IT READS IS OF BULK AT MOST 1048576: true; the input reads as it did. -/
def fnExactMakeBasisUptoRow : OpenClaim := { program := "ythkggnmfdlggbaa", sum := "06cd6b0ec47821a9292d716500adc802e3c3f04492b0577e230d3a42ec5c24a7", func := "loop.example/g03101/laws.FnExactMakeBasis", spec := "fnExactMakeBasis", unfollowed := true, recurses := true, apart := false, narrowed := true }
def FnExactMakeBasisUptoSaid : Prop := fnExactMakeBasisUptoRow.holds Try.pinned (OpenSpec.upto fnExactMakeBasisSpec)

/-- 'laws.FnExactSymmetryBasis', WHERE WHAT IT READS IS OF BULK AT MOST 1048576: true; the input reads as it did. -/
def fnExactSymmetryBasisUptoRow : OpenClaim := { program := "ythkggnmfdlggbaa", sum := "06cd6b0ec47821a9292d716500adc802e3c3f04492b0577e230d3a42ec5c24a7", func := "loop.example/g03101/laws.FnExactSymmetryBasis", spec := "fnExactSymmetryBasis", unfollowed := true, recurses := true, apart := false, narrowed := true }
def FnExactSymmetryBasisUptoSaid : Prop := fnExactSymmetryBasisUptoRow.holds Try.pinned (OpenSpec.upto fnExactSymmetryBasisSpec)

/-- 'laws.FnExactMeetClasses', WHERE WHAT IT READS IS OF BULK AT MOST 1048576: true; the input reads as it did. -/
def fnExactMeetClassesUptoRow : OpenClaim := { program := "ythkggnmfdlggbaa", sum := "06cd6b0ec47821a9292d716500adc802e3c3f04492b0577e230d3a42ec5c24a7", func := "loop.example/g03101/laws.FnExactMeetClasses", spec := "fnExactMeetClasses", unfollowed := true, recurses := true, apart := false, narrowed := true }
def FnExactMeetClassesUptoSaid : Prop := fnExactMeetClassesUptoRow.holds Try.pinned (OpenSpec.upto fnExactMeetClassesSpec)

/-- 'laws.FnExactBasisUpTo', WHERE WHAT IT READS IS OF BULK AT MOST 1048576: true; the input reads as it did. -/
def fnExactBasisUpToUptoRow : OpenClaim := { program := "ythkggnmfdlggbaa", sum := "06cd6b0ec47821a9292d716500adc802e3c3f04492b0577e230d3a42ec5c24a7", func := "loop.example/g03101/laws.FnExactBasisUpTo", spec := "fnExactBasisUpTo", unfollowed := true, recurses := true, apart := false, narrowed := true }
def FnExactBasisUpToUptoSaid : Prop := fnExactBasisUpToUptoRow.holds Try.pinned (OpenSpec.upto fnExactBasisUpToSpec)

/-- 'laws.FnExactUnionUpTo', WHERE WHAT IT READS IS OF BULK AT MOST 1048576: true; the input reads as it did. -/
def fnExactUnionUpToUptoRow : OpenClaim := { program := "ythkggnmfdlggbaa", sum := "06cd6b0ec47821a9292d716500adc802e3c3f04492b0577e230d3a42ec5c24a7", func := "loop.example/g03101/laws.FnExactUnionUpTo", spec := "fnExactUnionUpTo", unfollowed := true, recurses := true, apart := false, narrowed := true }
def FnExactUnionUpToUptoSaid : Prop := fnExactUnionUpToUptoRow.holds Try.pinned (OpenSpec.upto fnExactUnionUpToSpec)

end Rows
end Go.Proofs.Ythkggnmfdlggbaa
