/-
  No cell of these rows narrows 'for every input' (looked for: loops, veiled, ifaces, maps, wideKeys, modest, calm, conditions, laid).
  DERIVED. THE GIVEN ROWS OF THIS SEAT. 11 by the template 'for every input the law returns true; each argument reads behind the call as it read before'; 0 by the template 'total and deterministic' (their statements: YtmkaelefljjamaaTotals.lean).
  GIVEN WITH THE SEED: the statements are not yours to turn. If you find one false, say at which input.
  Laid BY PROGRAM, IN A SANDBOX (cutbox-rows.mjs): the forced cells as the released guide's own fill.sh prints them over the translation 46d718e12bb7c744… (all of the seat's roots in one cut). By AI agents, Wed Nov 11 2026. No macro, syntax, notation, axiom, sorry.
-/
import Derived.Test.YtmkaelefljjamaaChecked
import GoSem.Claim
import GoSem.ClaimJoined
import GoSem.ClaimMapViews
import Derived.JoinedTies
import Derived.KernelRfl
namespace Go.Proofs.Ytmkaelefljjamaa
/- THE CELL 'sum', in the pinned program and in every row, IS THE sha256 OF THE DUMP (.gsa) THAT YtmkaelefljjamaaProg.lean LOADS. Nothing in Lean hashes anything: it is a label: what it is worth is what the hold of that sum in a sandbox is worth. -/
noncomputable def Try.pinned : Pinned := { name := "ytmkaelefljjamaa", sum := "46d718e12bb7c744d17bcdb6076abe09158835b1451443fd4041b277a761ca40", checked := Try.checked }
namespace Rows
def none {H : Type} : Left H := { results := [], args := [] }

/-- 'laws.FnExactCountNear': WHATEVER THE INPUT: true; the input reads as it did. -/
def fnExactCountNearSpec : ChangeSpec := { name := "fnExactCountNear", fn := fun _ => fun
  | [d1, d2] => { results := [.lit (.bool true)], args := [d1, d2] }
  | _ => none }
def fnExactCountNearRow : OpenClaim := { program := "ytmkaelefljjamaa", sum := "46d718e12bb7c744d17bcdb6076abe09158835b1451443fd4041b277a761ca40", func := "loop.example/g03101/laws.FnExactCountNear", spec := "fnExactCountNear", unfollowed := true, recurses := true, apart := false }
def FnExactCountNearSaid : Prop := fnExactCountNearRow.holds Try.pinned (OpenSpec.ofChange fnExactCountNearSpec)

/-- ITS FALSE NEIGHBOUR: 'it returns false'. Refute it at one input. -/
def fnExactCountNearWrong : ChangeSpec := { name := "fnExactCountNear", fn := fun _ => fun
  | [d1, d2] => { results := [.lit (.bool false)], args := [d1, d2] }
  | _ => none }
def FnExactCountNearWrongFalsely : Prop := fnExactCountNearRow.holds Try.pinned (OpenSpec.ofChange fnExactCountNearWrong)

/-- 'laws.FnExactInClass': WHATEVER THE INPUT: true; the input reads as it did. -/
def fnExactInClassSpec : ChangeSpec := { name := "fnExactInClass", fn := fun _ => fun
  | [d1, d2] => { results := [.lit (.bool true)], args := [d1, d2] }
  | _ => none }
def fnExactInClassRow : OpenClaim := { program := "ytmkaelefljjamaa", sum := "46d718e12bb7c744d17bcdb6076abe09158835b1451443fd4041b277a761ca40", func := "loop.example/g03101/laws.FnExactInClass", spec := "fnExactInClass", unfollowed := true, recurses := true, apart := false }
def FnExactInClassSaid : Prop := fnExactInClassRow.holds Try.pinned (OpenSpec.ofChange fnExactInClassSpec)

/-- ITS FALSE NEIGHBOUR: 'it returns false'. Refute it at one input. -/
def fnExactInClassWrong : ChangeSpec := { name := "fnExactInClass", fn := fun _ => fun
  | [d1, d2] => { results := [.lit (.bool false)], args := [d1, d2] }
  | _ => none }
def FnExactInClassWrongFalsely : Prop := fnExactInClassRow.holds Try.pinned (OpenSpec.ofChange fnExactInClassWrong)

/-- 'laws.FnExactIsWithin': WHATEVER THE INPUT: true; the input reads as it did. -/
def fnExactIsWithinSpec : ChangeSpec := { name := "fnExactIsWithin", fn := fun _ => fun
  | [d1, d2] => { results := [.lit (.bool true)], args := [d1, d2] }
  | _ => none }
def fnExactIsWithinRow : OpenClaim := { program := "ytmkaelefljjamaa", sum := "46d718e12bb7c744d17bcdb6076abe09158835b1451443fd4041b277a761ca40", func := "loop.example/g03101/laws.FnExactIsWithin", spec := "fnExactIsWithin", unfollowed := true, recurses := true, apart := false }
def FnExactIsWithinSaid : Prop := fnExactIsWithinRow.holds Try.pinned (OpenSpec.ofChange fnExactIsWithinSpec)

/-- ITS FALSE NEIGHBOUR: 'it returns false'. Refute it at one input. -/
def fnExactIsWithinWrong : ChangeSpec := { name := "fnExactIsWithin", fn := fun _ => fun
  | [d1, d2] => { results := [.lit (.bool false)], args := [d1, d2] }
  | _ => none }
def FnExactIsWithinWrongFalsely : Prop := fnExactIsWithinRow.holds Try.pinned (OpenSpec.ofChange fnExactIsWithinWrong)

/-- 'laws.FnExactIsSumClosed': WHATEVER THE INPUT: true; the input reads as it did. -/
def fnExactIsSumClosedSpec : ChangeSpec := { name := "fnExactIsSumClosed", fn := fun _ => fun
  | [d] => { results := [.lit (.bool true)], args := [d] }
  | _ => none }
def fnExactIsSumClosedRow : OpenClaim := { program := "ytmkaelefljjamaa", sum := "46d718e12bb7c744d17bcdb6076abe09158835b1451443fd4041b277a761ca40", func := "loop.example/g03101/laws.FnExactIsSumClosed", spec := "fnExactIsSumClosed", unfollowed := true, recurses := true, apart := false }
def FnExactIsSumClosedSaid : Prop := fnExactIsSumClosedRow.holds Try.pinned (OpenSpec.ofChange fnExactIsSumClosedSpec)

/-- ITS FALSE NEIGHBOUR: 'it returns false'. Refute it at one input. -/
def fnExactIsSumClosedWrong : ChangeSpec := { name := "fnExactIsSumClosed", fn := fun _ => fun
  | [d] => { results := [.lit (.bool false)], args := [d] }
  | _ => none }
def FnExactIsSumClosedWrongFalsely : Prop := fnExactIsSumClosedRow.holds Try.pinned (OpenSpec.ofChange fnExactIsSumClosedWrong)

/-- 'laws.FnExactIsFinite': WHATEVER THE INPUT: true; the input reads as it did. -/
def fnExactIsFiniteSpec : ChangeSpec := { name := "fnExactIsFinite", fn := fun _ => fun
  | [d] => { results := [.lit (.bool true)], args := [d] }
  | _ => none }
def fnExactIsFiniteRow : OpenClaim := { program := "ytmkaelefljjamaa", sum := "46d718e12bb7c744d17bcdb6076abe09158835b1451443fd4041b277a761ca40", func := "loop.example/g03101/laws.FnExactIsFinite", spec := "fnExactIsFinite", unfollowed := true, recurses := true, apart := false }
def FnExactIsFiniteSaid : Prop := fnExactIsFiniteRow.holds Try.pinned (OpenSpec.ofChange fnExactIsFiniteSpec)

/-- ITS FALSE NEIGHBOUR: 'it returns false'. Refute it at one input. -/
def fnExactIsFiniteWrong : ChangeSpec := { name := "fnExactIsFinite", fn := fun _ => fun
  | [d] => { results := [.lit (.bool false)], args := [d] }
  | _ => none }
def FnExactIsFiniteWrongFalsely : Prop := fnExactIsFiniteRow.holds Try.pinned (OpenSpec.ofChange fnExactIsFiniteWrong)

/-- 'laws.FnExactFirstBeyond': WHATEVER THE INPUT: true; the input reads as it did. -/
def fnExactFirstBeyondSpec : ChangeSpec := { name := "fnExactFirstBeyond", fn := fun _ => fun
  | [d1, d2, d3] => { results := [.lit (.bool true)], args := [d1, d2, d3] }
  | _ => none }
def fnExactFirstBeyondRow : OpenClaim := { program := "ytmkaelefljjamaa", sum := "46d718e12bb7c744d17bcdb6076abe09158835b1451443fd4041b277a761ca40", func := "loop.example/g03101/laws.FnExactFirstBeyond", spec := "fnExactFirstBeyond", unfollowed := true, recurses := true, apart := false }
def FnExactFirstBeyondSaid : Prop := fnExactFirstBeyondRow.holds Try.pinned (OpenSpec.ofChange fnExactFirstBeyondSpec)

/-- ITS FALSE NEIGHBOUR: 'it returns false'. Refute it at one input. -/
def fnExactFirstBeyondWrong : ChangeSpec := { name := "fnExactFirstBeyond", fn := fun _ => fun
  | [d1, d2, d3] => { results := [.lit (.bool false)], args := [d1, d2, d3] }
  | _ => none }
def FnExactFirstBeyondWrongFalsely : Prop := fnExactFirstBeyondRow.holds Try.pinned (OpenSpec.ofChange fnExactFirstBeyondWrong)

/-- 'laws.FnExactClassOf': WHATEVER THE INPUT: true; the input reads as it did. -/
def fnExactClassOfSpec : ChangeSpec := { name := "fnExactClassOf", fn := fun _ => fun
  | [d1, d2] => { results := [.lit (.bool true)], args := [d1, d2] }
  | _ => none }
def fnExactClassOfRow : OpenClaim := { program := "ytmkaelefljjamaa", sum := "46d718e12bb7c744d17bcdb6076abe09158835b1451443fd4041b277a761ca40", func := "loop.example/g03101/laws.FnExactClassOf", spec := "fnExactClassOf", unfollowed := true, recurses := true, apart := false }
def FnExactClassOfSaid : Prop := fnExactClassOfRow.holds Try.pinned (OpenSpec.ofChange fnExactClassOfSpec)

/-- ITS FALSE NEIGHBOUR: 'it returns false'. Refute it at one input. -/
def fnExactClassOfWrong : ChangeSpec := { name := "fnExactClassOf", fn := fun _ => fun
  | [d1, d2] => { results := [.lit (.bool false)], args := [d1, d2] }
  | _ => none }
def FnExactClassOfWrongFalsely : Prop := fnExactClassOfRow.holds Try.pinned (OpenSpec.ofChange fnExactClassOfWrong)

/-- 'laws.FnExactClassCounts': WHATEVER THE INPUT: true; the input reads as it did. -/
def fnExactClassCountsSpec : ChangeSpec := { name := "fnExactClassCounts", fn := fun _ => fun
  | [d1, d2] => { results := [.lit (.bool true)], args := [d1, d2] }
  | _ => none }
def fnExactClassCountsRow : OpenClaim := { program := "ytmkaelefljjamaa", sum := "46d718e12bb7c744d17bcdb6076abe09158835b1451443fd4041b277a761ca40", func := "loop.example/g03101/laws.FnExactClassCounts", spec := "fnExactClassCounts", unfollowed := true, recurses := true, apart := false }
def FnExactClassCountsSaid : Prop := fnExactClassCountsRow.holds Try.pinned (OpenSpec.ofChange fnExactClassCountsSpec)

/-- ITS FALSE NEIGHBOUR: 'it returns false'. Refute it at one input. -/
def fnExactClassCountsWrong : ChangeSpec := { name := "fnExactClassCounts", fn := fun _ => fun
  | [d1, d2] => { results := [.lit (.bool false)], args := [d1, d2] }
  | _ => none }
def FnExactClassCountsWrongFalsely : Prop := fnExactClassCountsRow.holds Try.pinned (OpenSpec.ofChange fnExactClassCountsWrong)

/-- 'laws.FnExactBasisText': WHATEVER THE INPUT: true; the input reads as it did. -/
def fnExactBasisTextSpec : ChangeSpec := { name := "fnExactBasisText", fn := fun _ => fun
  | [d] => { results := [.lit (.bool true)], args := [d] }
  | _ => none }
def fnExactBasisTextRow : OpenClaim := { program := "ytmkaelefljjamaa", sum := "46d718e12bb7c744d17bcdb6076abe09158835b1451443fd4041b277a761ca40", func := "loop.example/g03101/laws.FnExactBasisText", spec := "fnExactBasisText", inPlace := ["internal/abi.NoEscape", "internal/bytealg.MakeNoZero"], recurses := true, apart := false }
def FnExactBasisTextSaid : Prop := fnExactBasisTextRow.holds Try.pinned (OpenSpec.ofChange fnExactBasisTextSpec)

/-- ITS FALSE NEIGHBOUR: 'it returns false'. Refute it at one input. -/
def fnExactBasisTextWrong : ChangeSpec := { name := "fnExactBasisText", fn := fun _ => fun
  | [d] => { results := [.lit (.bool false)], args := [d] }
  | _ => none }
def FnExactBasisTextWrongFalsely : Prop := fnExactBasisTextRow.holds Try.pinned (OpenSpec.ofChange fnExactBasisTextWrong)

/-- 'laws.FnExactCountMesh': WHATEVER THE INPUT: true; the input reads as it did. -/
def fnExactCountMeshSpec : ChangeSpec := { name := "fnExactCountMesh", fn := fun _ => fun
  | [d1, d2] => { results := [.lit (.bool true)], args := [d1, d2] }
  | _ => none }
def fnExactCountMeshRow : OpenClaim := { program := "ytmkaelefljjamaa", sum := "46d718e12bb7c744d17bcdb6076abe09158835b1451443fd4041b277a761ca40", func := "loop.example/g03101/laws.FnExactCountMesh", spec := "fnExactCountMesh", unfollowed := true, recurses := true, apart := false }
def FnExactCountMeshSaid : Prop := fnExactCountMeshRow.holds Try.pinned (OpenSpec.ofChange fnExactCountMeshSpec)

/-- ITS FALSE NEIGHBOUR: 'it returns false'. Refute it at one input. -/
def fnExactCountMeshWrong : ChangeSpec := { name := "fnExactCountMesh", fn := fun _ => fun
  | [d1, d2] => { results := [.lit (.bool false)], args := [d1, d2] }
  | _ => none }
def FnExactCountMeshWrongFalsely : Prop := fnExactCountMeshRow.holds Try.pinned (OpenSpec.ofChange fnExactCountMeshWrong)

/-- 'laws.FnExactCanShade': WHATEVER THE INPUT: true; the input reads as it did. -/
def fnExactCanShadeSpec : ChangeSpec := { name := "fnExactCanShade", fn := fun _ => fun
  | [d1, d2, d3] => { results := [.lit (.bool true)], args := [d1, d2, d3] }
  | _ => none }
def fnExactCanShadeRow : OpenClaim := { program := "ytmkaelefljjamaa", sum := "46d718e12bb7c744d17bcdb6076abe09158835b1451443fd4041b277a761ca40", func := "loop.example/g03101/laws.FnExactCanShade", spec := "fnExactCanShade", unfollowed := true, recurses := true, apart := false }
def FnExactCanShadeSaid : Prop := fnExactCanShadeRow.holds Try.pinned (OpenSpec.ofChange fnExactCanShadeSpec)

/-- ITS FALSE NEIGHBOUR: 'it returns false'. Refute it at one input. -/
def fnExactCanShadeWrong : ChangeSpec := { name := "fnExactCanShade", fn := fun _ => fun
  | [d1, d2, d3] => { results := [.lit (.bool false)], args := [d1, d2, d3] }
  | _ => none }
def FnExactCanShadeWrongFalsely : Prop := fnExactCanShadeRow.holds Try.pinned (OpenSpec.ofChange fnExactCanShadeWrong)

/- THE SECOND FORM. 'bulk': how many values and letters a reading holds, each counted each time it is reached (what is shared counts as often as it is met; a slice's spare places count too). A statement '..UptoSaid' is the law's where the arguments, and the package variables that the reading takes, are together of bulk at most 1048576: NARROWER than '..Said'. Prove '..Said' where nothing that the law and all that it calls make is longer than what came in: it says more and counts as full. Else prove '..UptoSaid'. A law counts once. -/
mutual
def uptoBulk {H : Type} : DataW H → Nat
  | .lit (.string bytes) => bytes.length + 1
  | .lit _ => 1
  | .nil => 1
  | .ptr d => uptoBulk d + 1
  | .slice elems spare => uptoBulkAll elems + uptoBulkAll spare + 1
  | .agg parts => uptoBulkAll parts + 1
  | .iface _ d => uptoBulk d + 1
  | .map entries => uptoBulkEntries entries + 1
  | .held _ => 1
def uptoBulkAll {H : Type} : List (DataW H) → Nat
  | [] => 0
  | d :: r => uptoBulk d + uptoBulkAll r
def uptoBulkEntries {H : Type} : List (Lit × DataW H) → Nat
  | [] => 0
  | x :: r => uptoBulkEntry x + uptoBulkEntries r
def uptoBulkEntry {H : Type} : Lit × DataW H → Nat
  | (.string bytes, d) => bytes.length + uptoBulk d + 1
  | (_, d) => uptoBulk d + 1
 end
def uptoSmall : (H : Type) → List (DataW H) → Bool := fun _ ds => decide (uptoBulkAll ds ≤ 1048576)
def OpenSpec.upto (s : _root_.Go.ChangeSpec) : _root_.Go.OpenSpec := { _root_.Go.OpenSpec.ofChange s with cond := some uptoSmall }

/-- 'laws.FnExactCountNear', WHERE WHAT IT READS IS OF BULK AT MOST 1048576: true; the input reads as it did. -/
def fnExactCountNearUptoRow : OpenClaim := { program := "ytmkaelefljjamaa", sum := "46d718e12bb7c744d17bcdb6076abe09158835b1451443fd4041b277a761ca40", func := "loop.example/g03101/laws.FnExactCountNear", spec := "fnExactCountNear", unfollowed := true, recurses := true, apart := false, narrowed := true }
def FnExactCountNearUptoSaid : Prop := fnExactCountNearUptoRow.holds Try.pinned (OpenSpec.upto fnExactCountNearSpec)

/-- 'laws.FnExactInClass', WHERE WHAT IT READS IS OF BULK AT MOST 1048576: true; the input reads as it did. -/
def fnExactInClassUptoRow : OpenClaim := { program := "ytmkaelefljjamaa", sum := "46d718e12bb7c744d17bcdb6076abe09158835b1451443fd4041b277a761ca40", func := "loop.example/g03101/laws.FnExactInClass", spec := "fnExactInClass", unfollowed := true, recurses := true, apart := false, narrowed := true }
def FnExactInClassUptoSaid : Prop := fnExactInClassUptoRow.holds Try.pinned (OpenSpec.upto fnExactInClassSpec)

/-- 'laws.FnExactIsWithin', WHERE WHAT IT READS IS OF BULK AT MOST 1048576: true; the input reads as it did. -/
def fnExactIsWithinUptoRow : OpenClaim := { program := "ytmkaelefljjamaa", sum := "46d718e12bb7c744d17bcdb6076abe09158835b1451443fd4041b277a761ca40", func := "loop.example/g03101/laws.FnExactIsWithin", spec := "fnExactIsWithin", unfollowed := true, recurses := true, apart := false, narrowed := true }
def FnExactIsWithinUptoSaid : Prop := fnExactIsWithinUptoRow.holds Try.pinned (OpenSpec.upto fnExactIsWithinSpec)

/-- 'laws.FnExactIsSumClosed', WHERE WHAT IT READS IS OF BULK AT MOST 1048576: true; the input reads as it did. -/
def fnExactIsSumClosedUptoRow : OpenClaim := { program := "ytmkaelefljjamaa", sum := "46d718e12bb7c744d17bcdb6076abe09158835b1451443fd4041b277a761ca40", func := "loop.example/g03101/laws.FnExactIsSumClosed", spec := "fnExactIsSumClosed", unfollowed := true, recurses := true, apart := false, narrowed := true }
def FnExactIsSumClosedUptoSaid : Prop := fnExactIsSumClosedUptoRow.holds Try.pinned (OpenSpec.upto fnExactIsSumClosedSpec)

/-- 'laws.FnExactIsFinite', WHERE WHAT IT READS IS OF BULK AT MOST 1048576: true; the input reads as it did. -/
def fnExactIsFiniteUptoRow : OpenClaim := { program := "ytmkaelefljjamaa", sum := "46d718e12bb7c744d17bcdb6076abe09158835b1451443fd4041b277a761ca40", func := "loop.example/g03101/laws.FnExactIsFinite", spec := "fnExactIsFinite", unfollowed := true, recurses := true, apart := false, narrowed := true }
def FnExactIsFiniteUptoSaid : Prop := fnExactIsFiniteUptoRow.holds Try.pinned (OpenSpec.upto fnExactIsFiniteSpec)

/-- 'laws.FnExactFirstBeyond', WHERE WHAT IT READS IS OF BULK AT MOST 1048576: true; the input reads as it did. -/
def fnExactFirstBeyondUptoRow : OpenClaim := { program := "ytmkaelefljjamaa", sum := "46d718e12bb7c744d17bcdb6076abe09158835b1451443fd4041b277a761ca40", func := "loop.example/g03101/laws.FnExactFirstBeyond", spec := "fnExactFirstBeyond", unfollowed := true, recurses := true, apart := false, narrowed := true }
def FnExactFirstBeyondUptoSaid : Prop := fnExactFirstBeyondUptoRow.holds Try.pinned (OpenSpec.upto fnExactFirstBeyondSpec)

/-- 'laws.FnExactClassOf', WHERE WHAT IT READS IS OF BULK AT MOST 1048576: true; the input reads as it did. -/
def fnExactClassOfUptoRow : OpenClaim := { program := "ytmkaelefljjamaa", sum := "46d718e12bb7c744d17bcdb6076abe09158835b1451443fd4041b277a761ca40", func := "loop.example/g03101/laws.FnExactClassOf", spec := "fnExactClassOf", unfollowed := true, recurses := true, apart := false, narrowed := true }
def FnExactClassOfUptoSaid : Prop := fnExactClassOfUptoRow.holds Try.pinned (OpenSpec.upto fnExactClassOfSpec)

/-- 'laws.FnExactClassCounts', WHERE WHAT IT READS IS OF BULK AT MOST 1048576: true; the input reads as it did. -/
def fnExactClassCountsUptoRow : OpenClaim := { program := "ytmkaelefljjamaa", sum := "46d718e12bb7c744d17bcdb6076abe09158835b1451443fd4041b277a761ca40", func := "loop.example/g03101/laws.FnExactClassCounts", spec := "fnExactClassCounts", unfollowed := true, recurses := true, apart := false, narrowed := true }
def FnExactClassCountsUptoSaid : Prop := fnExactClassCountsUptoRow.holds Try.pinned (OpenSpec.upto fnExactClassCountsSpec)

/-- 'laws.FnExactBasisText', WHERE WHAT IT READS IS OF BULK AT MOST 1048576: true; the input reads as it did. -/
def fnExactBasisTextUptoRow : OpenClaim := { program := "ytmkaelefljjamaa", sum := "46d718e12bb7c744d17bcdb6076abe09158835b1451443fd4041b277a761ca40", func := "loop.example/g03101/laws.FnExactBasisText", spec := "fnExactBasisText", inPlace := ["internal/abi.NoEscape", "internal/bytealg.MakeNoZero"], recurses := true, apart := false, narrowed := true }
def FnExactBasisTextUptoSaid : Prop := fnExactBasisTextUptoRow.holds Try.pinned (OpenSpec.upto fnExactBasisTextSpec)

/-- 'laws.FnExactCountMesh', WHERE WHAT IT READS IS OF BULK AT MOST 1048576: true; the input reads as it did. -/
def fnExactCountMeshUptoRow : OpenClaim := { program := "ytmkaelefljjamaa", sum := "46d718e12bb7c744d17bcdb6076abe09158835b1451443fd4041b277a761ca40", func := "loop.example/g03101/laws.FnExactCountMesh", spec := "fnExactCountMesh", unfollowed := true, recurses := true, apart := false, narrowed := true }
def FnExactCountMeshUptoSaid : Prop := fnExactCountMeshUptoRow.holds Try.pinned (OpenSpec.upto fnExactCountMeshSpec)

/-- 'laws.FnExactCanShade', WHERE WHAT IT READS IS OF BULK AT MOST 1048576: true; the input reads as it did. -/
def fnExactCanShadeUptoRow : OpenClaim := { program := "ytmkaelefljjamaa", sum := "46d718e12bb7c744d17bcdb6076abe09158835b1451443fd4041b277a761ca40", func := "loop.example/g03101/laws.FnExactCanShade", spec := "fnExactCanShade", unfollowed := true, recurses := true, apart := false, narrowed := true }
def FnExactCanShadeUptoSaid : Prop := fnExactCanShadeUptoRow.holds Try.pinned (OpenSpec.upto fnExactCanShadeSpec)

end Rows
end Go.Proofs.Ytmkaelefljjamaa
