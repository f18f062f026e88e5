/-
  No cell of these rows narrows 'for every input' (looked for: loops, veiled, ifaces, maps, wideKeys, modest, calm, conditions, laid).
  DERIVED. THE GIVEN ROWS OF THIS SEAT. 12 by the template 'for every input the law returns true; each argument reads behind the call as it read before'; 0 by the template 'total and deterministic' (their statements: YtgodlofkilgfjaaTotals.lean).
  GIVEN WITH THE SEED: the statements are not yours to turn. If you find one false, say at which input.
  Laid BY PROGRAM, IN A SANDBOX (cutbox-rows.mjs): the forced cells as the released guide's own fill.sh prints them over the translation 0cd938dc11022d38… (all of the seat's roots in one cut). By AI agents, Wed Nov 11 2026. No macro, syntax, notation, axiom, sorry.
-/
import Derived.Test.YtgodlofkilgfjaaChecked
import GoSem.Claim
import GoSem.ClaimJoined
import GoSem.ClaimMapViews
import Derived.JoinedTies
import Derived.KernelRfl
namespace Go.Proofs.Ytgodlofkilgfjaa
/- THE CELL 'sum', in the pinned program and in every row, IS THE sha256 OF THE DUMP (.gsa) THAT YtgodlofkilgfjaaProg.lean LOADS. Nothing in Lean hashes anything: it is a label: what it is worth is what the hold of that sum in a sandbox is worth. -/
noncomputable def Try.pinned : Pinned := { name := "ytgodlofkilgfjaa", sum := "0cd938dc11022d387f242c3be4c219e6772a87b861539f663e84a4c2efe8181f", checked := Try.checked }
namespace Rows
def none {H : Type} : Left H := { results := [], args := [] }

/-- 'laws.FnExactRecordsOf': WHATEVER THE INPUT: true; the input reads as it did. -/
def fnExactRecordsOfSpec : ChangeSpec := { name := "fnExactRecordsOf", fn := fun _ => fun
  | [d] => { results := [.lit (.bool true)], args := [d] }
  | _ => none }
def fnExactRecordsOfRow : OpenClaim := { program := "ytgodlofkilgfjaa", sum := "0cd938dc11022d387f242c3be4c219e6772a87b861539f663e84a4c2efe8181f", func := "loop.example/g03101/laws.FnExactRecordsOf", spec := "fnExactRecordsOf", unfollowed := true, recurses := true, apart := false }
def FnExactRecordsOfSaid : Prop := fnExactRecordsOfRow.holds Try.pinned (OpenSpec.ofChange fnExactRecordsOfSpec)

/-- ITS FALSE NEIGHBOUR: 'it returns false'. Refute it at one input. -/
def fnExactRecordsOfWrong : ChangeSpec := { name := "fnExactRecordsOf", fn := fun _ => fun
  | [d] => { results := [.lit (.bool false)], args := [d] }
  | _ => none }
def FnExactRecordsOfWrongFalsely : Prop := fnExactRecordsOfRow.holds Try.pinned (OpenSpec.ofChange fnExactRecordsOfWrong)

/-- 'laws.FnExactIsNear': WHATEVER THE INPUT: true; the input reads as it did. -/
def fnExactIsNearSpec : ChangeSpec := { name := "fnExactIsNear", fn := fun _ => fun
  | [d] => { results := [.lit (.bool true)], args := [d] }
  | _ => none }
def fnExactIsNearRow : OpenClaim := { program := "ytgodlofkilgfjaa", sum := "0cd938dc11022d387f242c3be4c219e6772a87b861539f663e84a4c2efe8181f", func := "loop.example/g03101/laws.FnExactIsNear", spec := "fnExactIsNear", apart := false }
def FnExactIsNearSaid : Prop := fnExactIsNearRow.holds Try.pinned (OpenSpec.ofChange fnExactIsNearSpec)

/-- ITS FALSE NEIGHBOUR: 'it returns false'. Refute it at one input. -/
def fnExactIsNearWrong : ChangeSpec := { name := "fnExactIsNear", fn := fun _ => fun
  | [d] => { results := [.lit (.bool false)], args := [d] }
  | _ => none }
def FnExactIsNearWrongFalsely : Prop := fnExactIsNearRow.holds Try.pinned (OpenSpec.ofChange fnExactIsNearWrong)

/-- 'laws.FnExactConsecutiveOf': WHATEVER THE INPUT: true; the input reads as it did. -/
def fnExactConsecutiveOfSpec : ChangeSpec := { name := "fnExactConsecutiveOf", fn := fun _ => fun
  | [d] => { results := [.lit (.bool true)], args := [d] }
  | _ => none }
def fnExactConsecutiveOfRow : OpenClaim := { program := "ytgodlofkilgfjaa", sum := "0cd938dc11022d387f242c3be4c219e6772a87b861539f663e84a4c2efe8181f", func := "loop.example/g03101/laws.FnExactConsecutiveOf", spec := "fnExactConsecutiveOf", apart := false }
def FnExactConsecutiveOfSaid : Prop := fnExactConsecutiveOfRow.holds Try.pinned (OpenSpec.ofChange fnExactConsecutiveOfSpec)

/-- ITS FALSE NEIGHBOUR: 'it returns false'. Refute it at one input. -/
def fnExactConsecutiveOfWrong : ChangeSpec := { name := "fnExactConsecutiveOf", fn := fun _ => fun
  | [d] => { results := [.lit (.bool false)], args := [d] }
  | _ => none }
def FnExactConsecutiveOfWrongFalsely : Prop := fnExactConsecutiveOfRow.holds Try.pinned (OpenSpec.ofChange fnExactConsecutiveOfWrong)

/-- 'laws.FnExactCountRuns': WHATEVER THE INPUT: true; the input reads as it did. -/
def fnExactCountRunsSpec : ChangeSpec := { name := "fnExactCountRuns", fn := fun _ => fun
  | [d1, d2] => { results := [.lit (.bool true)], args := [d1, d2] }
  | _ => none }
def fnExactCountRunsRow : OpenClaim := { program := "ytgodlofkilgfjaa", sum := "0cd938dc11022d387f242c3be4c219e6772a87b861539f663e84a4c2efe8181f", func := "loop.example/g03101/laws.FnExactCountRuns", spec := "fnExactCountRuns", apart := false }
def FnExactCountRunsSaid : Prop := fnExactCountRunsRow.holds Try.pinned (OpenSpec.ofChange fnExactCountRunsSpec)

/-- ITS FALSE NEIGHBOUR: 'it returns false'. Refute it at one input. -/
def fnExactCountRunsWrong : ChangeSpec := { name := "fnExactCountRuns", fn := fun _ => fun
  | [d1, d2] => { results := [.lit (.bool false)], args := [d1, d2] }
  | _ => none }
def FnExactCountRunsWrongFalsely : Prop := fnExactCountRunsRow.holds Try.pinned (OpenSpec.ofChange fnExactCountRunsWrong)

/-- 'laws.FnExactIsLoose': WHATEVER THE INPUT: true; the input reads as it did. -/
def fnExactIsLooseSpec : ChangeSpec := { name := "fnExactIsLoose", fn := fun _ => fun
  | [d] => { results := [.lit (.bool true)], args := [d] }
  | _ => none }
def fnExactIsLooseRow : OpenClaim := { program := "ytgodlofkilgfjaa", sum := "0cd938dc11022d387f242c3be4c219e6772a87b861539f663e84a4c2efe8181f", func := "loop.example/g03101/laws.FnExactIsLoose", spec := "fnExactIsLoose", apart := false }
def FnExactIsLooseSaid : Prop := fnExactIsLooseRow.holds Try.pinned (OpenSpec.ofChange fnExactIsLooseSpec)

/-- ITS FALSE NEIGHBOUR: 'it returns false'. Refute it at one input. -/
def fnExactIsLooseWrong : ChangeSpec := { name := "fnExactIsLoose", fn := fun _ => fun
  | [d] => { results := [.lit (.bool false)], args := [d] }
  | _ => none }
def FnExactIsLooseWrongFalsely : Prop := fnExactIsLooseRow.holds Try.pinned (OpenSpec.ofChange fnExactIsLooseWrong)

/-- 'laws.FnExactParentOf': WHATEVER THE INPUT: true; the input reads as it did. -/
def fnExactParentOfSpec : ChangeSpec := { name := "fnExactParentOf", fn := fun _ => fun
  | [d] => { results := [.lit (.bool true)], args := [d] }
  | _ => none }
def fnExactParentOfRow : OpenClaim := { program := "ytgodlofkilgfjaa", sum := "0cd938dc11022d387f242c3be4c219e6772a87b861539f663e84a4c2efe8181f", func := "loop.example/g03101/laws.FnExactParentOf", spec := "fnExactParentOf", apart := false }
def FnExactParentOfSaid : Prop := fnExactParentOfRow.holds Try.pinned (OpenSpec.ofChange fnExactParentOfSpec)

/-- ITS FALSE NEIGHBOUR: 'it returns false'. Refute it at one input. -/
def fnExactParentOfWrong : ChangeSpec := { name := "fnExactParentOf", fn := fun _ => fun
  | [d] => { results := [.lit (.bool false)], args := [d] }
  | _ => none }
def FnExactParentOfWrongFalsely : Prop := fnExactParentOfRow.holds Try.pinned (OpenSpec.ofChange fnExactParentOfWrong)

/-- 'laws.FnExactOverlapsOf': WHATEVER THE INPUT: true; the input reads as it did. -/
def fnExactOverlapsOfSpec : ChangeSpec := { name := "fnExactOverlapsOf", fn := fun _ => fun
  | [d] => { results := [.lit (.bool true)], args := [d] }
  | _ => none }
def fnExactOverlapsOfRow : OpenClaim := { program := "ytgodlofkilgfjaa", sum := "0cd938dc11022d387f242c3be4c219e6772a87b861539f663e84a4c2efe8181f", func := "loop.example/g03101/laws.FnExactOverlapsOf", spec := "fnExactOverlapsOf", apart := false }
def FnExactOverlapsOfSaid : Prop := fnExactOverlapsOfRow.holds Try.pinned (OpenSpec.ofChange fnExactOverlapsOfSpec)

/-- ITS FALSE NEIGHBOUR: 'it returns false'. Refute it at one input. -/
def fnExactOverlapsOfWrong : ChangeSpec := { name := "fnExactOverlapsOf", fn := fun _ => fun
  | [d] => { results := [.lit (.bool false)], args := [d] }
  | _ => none }
def FnExactOverlapsOfWrongFalsely : Prop := fnExactOverlapsOfRow.holds Try.pinned (OpenSpec.ofChange fnExactOverlapsOfWrong)

/-- 'laws.FnExactNearText': WHATEVER THE INPUT: true; the input reads as it did. -/
def fnExactNearTextSpec : ChangeSpec := { name := "fnExactNearText", fn := fun _ => fun
  | [d] => { results := [.lit (.bool true)], args := [d] }
  | _ => none }
def fnExactNearTextRow : OpenClaim := { program := "ytgodlofkilgfjaa", sum := "0cd938dc11022d387f242c3be4c219e6772a87b861539f663e84a4c2efe8181f", func := "loop.example/g03101/laws.FnExactNearText", spec := "fnExactNearText", apart := false }
def FnExactNearTextSaid : Prop := fnExactNearTextRow.holds Try.pinned (OpenSpec.ofChange fnExactNearTextSpec)

/-- ITS FALSE NEIGHBOUR: 'it returns false'. Refute it at one input. -/
def fnExactNearTextWrong : ChangeSpec := { name := "fnExactNearText", fn := fun _ => fun
  | [d] => { results := [.lit (.bool false)], args := [d] }
  | _ => none }
def FnExactNearTextWrongFalsely : Prop := fnExactNearTextRow.holds Try.pinned (OpenSpec.ofChange fnExactNearTextWrong)

/-- 'laws.FnExactIsMesh': WHATEVER THE INPUT: true; the input reads as it did. -/
def fnExactIsMeshSpec : ChangeSpec := { name := "fnExactIsMesh", fn := fun _ => fun
  | [d] => { results := [.lit (.bool true)], args := [d] }
  | _ => none }
def fnExactIsMeshRow : OpenClaim := { program := "ytgodlofkilgfjaa", sum := "0cd938dc11022d387f242c3be4c219e6772a87b861539f663e84a4c2efe8181f", func := "loop.example/g03101/laws.FnExactIsMesh", spec := "fnExactIsMesh", apart := false }
def FnExactIsMeshSaid : Prop := fnExactIsMeshRow.holds Try.pinned (OpenSpec.ofChange fnExactIsMeshSpec)

/-- ITS FALSE NEIGHBOUR: 'it returns false'. Refute it at one input. -/
def fnExactIsMeshWrong : ChangeSpec := { name := "fnExactIsMesh", fn := fun _ => fun
  | [d] => { results := [.lit (.bool false)], args := [d] }
  | _ => none }
def FnExactIsMeshWrongFalsely : Prop := fnExactIsMeshRow.holds Try.pinned (OpenSpec.ofChange fnExactIsMeshWrong)

/-- 'laws.FnExactAvoidRuns': WHATEVER THE INPUT: true; the input reads as it did. -/
def fnExactAvoidRunsSpec : ChangeSpec := { name := "fnExactAvoidRuns", fn := fun _ => fun
  | [d1, d2] => { results := [.lit (.bool true)], args := [d1, d2] }
  | _ => none }
def fnExactAvoidRunsRow : OpenClaim := { program := "ytgodlofkilgfjaa", sum := "0cd938dc11022d387f242c3be4c219e6772a87b861539f663e84a4c2efe8181f", func := "loop.example/g03101/laws.FnExactAvoidRuns", spec := "fnExactAvoidRuns", unfollowed := true, recurses := true, apart := false }
def FnExactAvoidRunsSaid : Prop := fnExactAvoidRunsRow.holds Try.pinned (OpenSpec.ofChange fnExactAvoidRunsSpec)

/-- ITS FALSE NEIGHBOUR: 'it returns false'. Refute it at one input. -/
def fnExactAvoidRunsWrong : ChangeSpec := { name := "fnExactAvoidRuns", fn := fun _ => fun
  | [d1, d2] => { results := [.lit (.bool false)], args := [d1, d2] }
  | _ => none }
def FnExactAvoidRunsWrongFalsely : Prop := fnExactAvoidRunsRow.holds Try.pinned (OpenSpec.ofChange fnExactAvoidRunsWrong)

/-- 'laws.FnExactMeshOf': WHATEVER THE INPUT: true; the input reads as it did. -/
def fnExactMeshOfSpec : ChangeSpec := { name := "fnExactMeshOf", fn := fun _ => fun
  | [d] => { results := [.lit (.bool true)], args := [d] }
  | _ => none }
def fnExactMeshOfRow : OpenClaim := { program := "ytgodlofkilgfjaa", sum := "0cd938dc11022d387f242c3be4c219e6772a87b861539f663e84a4c2efe8181f", func := "loop.example/g03101/laws.FnExactMeshOf", spec := "fnExactMeshOf", apart := false }
def FnExactMeshOfSaid : Prop := fnExactMeshOfRow.holds Try.pinned (OpenSpec.ofChange fnExactMeshOfSpec)

/-- ITS FALSE NEIGHBOUR: 'it returns false'. Refute it at one input. -/
def fnExactMeshOfWrong : ChangeSpec := { name := "fnExactMeshOf", fn := fun _ => fun
  | [d] => { results := [.lit (.bool false)], args := [d] }
  | _ => none }
def FnExactMeshOfWrongFalsely : Prop := fnExactMeshOfRow.holds Try.pinned (OpenSpec.ofChange fnExactMeshOfWrong)

/-- 'laws.FnExactIsBasis': WHATEVER THE INPUT: true; the input reads as it did. -/
def fnExactIsBasisSpec : ChangeSpec := { name := "fnExactIsBasis", fn := fun _ => fun
  | [d] => { results := [.lit (.bool true)], args := [d] }
  | _ => none }
def fnExactIsBasisRow : OpenClaim := { program := "ytgodlofkilgfjaa", sum := "0cd938dc11022d387f242c3be4c219e6772a87b861539f663e84a4c2efe8181f", func := "loop.example/g03101/laws.FnExactIsBasis", spec := "fnExactIsBasis", recurses := true, apart := false }
def FnExactIsBasisSaid : Prop := fnExactIsBasisRow.holds Try.pinned (OpenSpec.ofChange fnExactIsBasisSpec)

/-- ITS FALSE NEIGHBOUR: 'it returns false'. Refute it at one input. -/
def fnExactIsBasisWrong : ChangeSpec := { name := "fnExactIsBasis", fn := fun _ => fun
  | [d] => { results := [.lit (.bool false)], args := [d] }
  | _ => none }
def FnExactIsBasisWrongFalsely : Prop := fnExactIsBasisRow.holds Try.pinned (OpenSpec.ofChange fnExactIsBasisWrong)

/- THE SECOND FORM. 'bulk': how many values and letters a reading holds, each counted each time it is reached (what is shared counts as often as it is met; a slice's spare places count too). A statement '..UptoSaid' is the law's where the arguments, and the package variables that the reading takes, are together of bulk at most 1048576: NARROWER than '..Said'. Prove '..Said' where nothing that the law and all that it calls make is longer than what came in: it says more and counts as full. Else prove '..UptoSaid'. A law counts once. -/
mutual
def uptoBulk {H : Type} : DataW H → Nat
  | .lit (.string bytes) => bytes.length + 1
  | .lit _ => 1
  | .nil => 1
  | .ptr d => uptoBulk d + 1
  | .slice elems spare => uptoBulkAll elems + uptoBulkAll spare + 1
  | .agg parts => uptoBulkAll parts + 1
  | .iface _ d => uptoBulk d + 1
  | .map entries => uptoBulkEntries entries + 1
  | .held _ => 1
def uptoBulkAll {H : Type} : List (DataW H) → Nat
  | [] => 0
  | d :: r => uptoBulk d + uptoBulkAll r
def uptoBulkEntries {H : Type} : List (Lit × DataW H) → Nat
  | [] => 0
  | x :: r => uptoBulkEntry x + uptoBulkEntries r
def uptoBulkEntry {H : Type} : Lit × DataW H → Nat
  | (.string bytes, d) => bytes.length + uptoBulk d + 1
  | (_, d) => uptoBulk d + 1
 end
def uptoSmall : (H : Type) → List (DataW H) → Bool := fun _ ds => decide (uptoBulkAll ds ≤ 1048576)
def OpenSpec.upto (s : _root_.Go.ChangeSpec) : _root_.Go.OpenSpec := { _root_.Go.OpenSpec.ofChange s with cond := some uptoSmall }

/-- 'laws.FnExactRecordsOf', WHERE WHAT IT READS IS OF BULK AT MOST 1048576: true; the input reads as it did. -/
def fnExactRecordsOfUptoRow : OpenClaim := { program := "ytgodlofkilgfjaa", sum := "0cd938dc11022d387f242c3be4c219e6772a87b861539f663e84a4c2efe8181f", func := "loop.example/g03101/laws.FnExactRecordsOf", spec := "fnExactRecordsOf", unfollowed := true, recurses := true, apart := false, narrowed := true }
def FnExactRecordsOfUptoSaid : Prop := fnExactRecordsOfUptoRow.holds Try.pinned (OpenSpec.upto fnExactRecordsOfSpec)

/-- 'laws.FnExactIsNear', WHERE WHAT IT READS IS OF BULK AT MOST 1048576: true; the input reads as it did. -/
def fnExactIsNearUptoRow : OpenClaim := { program := "ytgodlofkilgfjaa", sum := "0cd938dc11022d387f242c3be4c219e6772a87b861539f663e84a4c2efe8181f", func := "loop.example/g03101/laws.FnExactIsNear", spec := "fnExactIsNear", apart := false, narrowed := true }
def FnExactIsNearUptoSaid : Prop := fnExactIsNearUptoRow.holds Try.pinned (OpenSpec.upto fnExactIsNearSpec)

/-- 'laws.FnExactConsecutiveOf', WHERE WHAT IT READS IS OF BULK AT MOST 1048576: true; the input reads as it did. -/
def fnExactConsecutiveOfUptoRow : OpenClaim := { program := "ytgodlofkilgfjaa", sum := "0cd938dc11022d387f242c3be4c219e6772a87b861539f663e84a4c2efe8181f", func := "loop.example/g03101/laws.FnExactConsecutiveOf", spec := "fnExactConsecutiveOf", apart := false, narrowed := true }
def FnExactConsecutiveOfUptoSaid : Prop := fnExactConsecutiveOfUptoRow.holds Try.pinned (OpenSpec.upto fnExactConsecutiveOfSpec)

/-- 'laws.FnExactCountRuns', WHERE WHAT IT READS IS OF BULK AT MOST 1048576: true; the input reads as it did. -/
def fnExactCountRunsUptoRow : OpenClaim := { program := "ytgodlofkilgfjaa", sum := "0cd938dc11022d387f242c3be4c219e6772a87b861539f663e84a4c2efe8181f", func := "loop.example/g03101/laws.FnExactCountRuns", spec := "fnExactCountRuns", apart := false, narrowed := true }
def FnExactCountRunsUptoSaid : Prop := fnExactCountRunsUptoRow.holds Try.pinned (OpenSpec.upto fnExactCountRunsSpec)

/-- 'laws.FnExactIsLoose', WHERE WHAT IT READS IS OF BULK AT MOST 1048576: true; the input reads as it did. -/
def fnExactIsLooseUptoRow : OpenClaim := { program := "ytgodlofkilgfjaa", sum := "0cd938dc11022d387f242c3be4c219e6772a87b861539f663e84a4c2efe8181f", func := "loop.example/g03101/laws.FnExactIsLoose", spec := "fnExactIsLoose", apart := false, narrowed := true }
def FnExactIsLooseUptoSaid : Prop := fnExactIsLooseUptoRow.holds Try.pinned (OpenSpec.upto fnExactIsLooseSpec)

/-- 'laws.FnExactParentOf', WHERE WHAT IT READS IS OF BULK AT MOST 1048576: true; the input reads as it did. -/
def fnExactParentOfUptoRow : OpenClaim := { program := "ytgodlofkilgfjaa", sum := "0cd938dc11022d387f242c3be4c219e6772a87b861539f663e84a4c2efe8181f", func := "loop.example/g03101/laws.FnExactParentOf", spec := "fnExactParentOf", apart := false, narrowed := true }
def FnExactParentOfUptoSaid : Prop := fnExactParentOfUptoRow.holds Try.pinned (OpenSpec.upto fnExactParentOfSpec)

/-- 'laws.FnExactOverlapsOf', WHERE WHAT IT READS IS OF BULK AT MOST 1048576: true; the input reads as it did. -/
def fnExactOverlapsOfUptoRow : OpenClaim := { program := "ytgodlofkilgfjaa", sum := "0cd938dc11022d387f242c3be4c219e6772a87b861539f663e84a4c2efe8181f", func := "loop.example/g03101/laws.FnExactOverlapsOf", spec := "fnExactOverlapsOf", apart := false, narrowed := true }
def FnExactOverlapsOfUptoSaid : Prop := fnExactOverlapsOfUptoRow.holds Try.pinned (OpenSpec.upto fnExactOverlapsOfSpec)

/-- 'laws.FnExactNearText', WHERE WHAT IT READS IS OF BULK AT MOST 1048576: true; the input reads as it did. -/
def fnExactNearTextUptoRow : OpenClaim := { program := "ytgodlofkilgfjaa", sum := "0cd938dc11022d387f242c3be4c219e6772a87b861539f663e84a4c2efe8181f", func := "loop.example/g03101/laws.FnExactNearText", spec := "fnExactNearText", apart := false, narrowed := true }
def FnExactNearTextUptoSaid : Prop := fnExactNearTextUptoRow.holds Try.pinned (OpenSpec.upto fnExactNearTextSpec)

/-- 'laws.FnExactIsMesh', WHERE WHAT IT READS IS OF BULK AT MOST 1048576: true; the input reads as it did. -/
def fnExactIsMeshUptoRow : OpenClaim := { program := "ytgodlofkilgfjaa", sum := "0cd938dc11022d387f242c3be4c219e6772a87b861539f663e84a4c2efe8181f", func := "loop.example/g03101/laws.FnExactIsMesh", spec := "fnExactIsMesh", apart := false, narrowed := true }
def FnExactIsMeshUptoSaid : Prop := fnExactIsMeshUptoRow.holds Try.pinned (OpenSpec.upto fnExactIsMeshSpec)

/-- 'laws.FnExactAvoidRuns', WHERE WHAT IT READS IS OF BULK AT MOST 1048576: true; the input reads as it did. -/
def fnExactAvoidRunsUptoRow : OpenClaim := { program := "ytgodlofkilgfjaa", sum := "0cd938dc11022d387f242c3be4c219e6772a87b861539f663e84a4c2efe8181f", func := "loop.example/g03101/laws.FnExactAvoidRuns", spec := "fnExactAvoidRuns", unfollowed := true, recurses := true, apart := false, narrowed := true }
def FnExactAvoidRunsUptoSaid : Prop := fnExactAvoidRunsUptoRow.holds Try.pinned (OpenSpec.upto fnExactAvoidRunsSpec)

/-- 'laws.FnExactMeshOf', WHERE WHAT IT READS IS OF BULK AT MOST 1048576: true; the input reads as it did. -/
def fnExactMeshOfUptoRow : OpenClaim := { program := "ytgodlofkilgfjaa", sum := "0cd938dc11022d387f242c3be4c219e6772a87b861539f663e84a4c2efe8181f", func := "loop.example/g03101/laws.FnExactMeshOf", spec := "fnExactMeshOf", apart := false, narrowed := true }
def FnExactMeshOfUptoSaid : Prop := fnExactMeshOfUptoRow.holds Try.pinned (OpenSpec.upto fnExactMeshOfSpec)

/-- 'laws.FnExactIsBasis', WHERE WHAT IT READS IS OF BULK AT MOST 1048576: true; the input reads as it did. -/
def fnExactIsBasisUptoRow : OpenClaim := { program := "ytgodlofkilgfjaa", sum := "0cd938dc11022d387f242c3be4c219e6772a87b861539f663e84a4c2efe8181f", func := "loop.example/g03101/laws.FnExactIsBasis", spec := "fnExactIsBasis", recurses := true, apart := false, narrowed := true }
def FnExactIsBasisUptoSaid : Prop := fnExactIsBasisUptoRow.holds Try.pinned (OpenSpec.upto fnExactIsBasisSpec)

end Rows
end Go.Proofs.Ytgodlofkilgfjaa
