/-
  No cell of these rows narrows 'for every input' (looked for: loops, veiled, ifaces, maps, wideKeys, modest, calm, conditions, laid).
  DERIVED. THE GIVEN ROWS OF THIS SEAT. 12 by the template 'for every input the law returns true; each argument reads behind the call as it read before'; 0 by the template 'total and deterministic' (their statements: YtoojcjeffolgfaaTotals.lean).
  GIVEN WITH THE SEED: the statements are not yours to turn. If you find one false, say at which input.
  Laid BY PROGRAM, IN A SANDBOX (cutbox-rows.mjs): the forced cells as the released guide's own fill.sh prints them over the translation 459f4f8949bf3e8f… (all of the seat's roots in one cut). By AI agents, Wed Nov 11 2026. No macro, syntax, notation, axiom, sorry.
-/
import Derived.Test.YtoojcjeffolgfaaChecked
import GoSem.Claim
import GoSem.ClaimJoined
import GoSem.ClaimMapViews
import Derived.JoinedTies
import Derived.KernelRfl
namespace Go.Proofs.Ytoojcjeffolgfaa
/- THE CELL 'sum', in the pinned program and in every row, IS THE sha256 OF THE DUMP (.gsa) THAT YtoojcjeffolgfaaProg.lean LOADS. Nothing in Lean hashes anything: it is a label: what it is worth is what the hold of that sum in a sandbox is worth. -/
noncomputable def Try.pinned : Pinned := { name := "ytoojcjeffolgfaa", sum := "459f4f8949bf3e8fa4dc828329f0c61ae608596b8ca093d12afc552b8474d0ae", checked := Try.checked }
namespace Rows
def none {H : Type} : Left H := { results := [], args := [] }

/-- 'laws.FnExactChoose': WHATEVER THE INPUT: true; the input reads as it did. -/
def fnExactChooseSpec : ChangeSpec := { name := "fnExactChoose", fn := fun _ => fun
  | [d1, d2] => { results := [.lit (.bool true)], args := [d1, d2] }
  | _ => none }
def fnExactChooseRow : OpenClaim := { program := "ytoojcjeffolgfaa", sum := "459f4f8949bf3e8fa4dc828329f0c61ae608596b8ca093d12afc552b8474d0ae", func := "loop.example/g03101/laws.FnExactChoose", spec := "fnExactChoose", apart := false }
def FnExactChooseSaid : Prop := fnExactChooseRow.holds Try.pinned (OpenSpec.ofChange fnExactChooseSpec)

/-- ITS FALSE NEIGHBOUR: 'it returns false'. Refute it at one input. -/
def fnExactChooseWrong : ChangeSpec := { name := "fnExactChoose", fn := fun _ => fun
  | [d1, d2] => { results := [.lit (.bool false)], args := [d1, d2] }
  | _ => none }
def FnExactChooseWrongFalsely : Prop := fnExactChooseRow.holds Try.pinned (OpenSpec.ofChange fnExactChooseWrong)

/-- 'laws.FnExactCountAlternating': WHATEVER THE INPUT: true; the input reads as it did. -/
def fnExactCountAlternatingSpec : ChangeSpec := { name := "fnExactCountAlternating", fn := fun _ => fun
  | [d] => { results := [.lit (.bool true)], args := [d] }
  | _ => none }
def fnExactCountAlternatingRow : OpenClaim := { program := "ytoojcjeffolgfaa", sum := "459f4f8949bf3e8fa4dc828329f0c61ae608596b8ca093d12afc552b8474d0ae", func := "loop.example/g03101/laws.FnExactCountAlternating", spec := "fnExactCountAlternating", apart := false }
def FnExactCountAlternatingSaid : Prop := fnExactCountAlternatingRow.holds Try.pinned (OpenSpec.ofChange fnExactCountAlternatingSpec)

/-- ITS FALSE NEIGHBOUR: 'it returns false'. Refute it at one input. -/
def fnExactCountAlternatingWrong : ChangeSpec := { name := "fnExactCountAlternating", fn := fun _ => fun
  | [d] => { results := [.lit (.bool false)], args := [d] }
  | _ => none }
def FnExactCountAlternatingWrongFalsely : Prop := fnExactCountAlternatingRow.holds Try.pinned (OpenSpec.ofChange fnExactCountAlternatingWrong)

/-- 'laws.FnExactMahonRow': WHATEVER THE INPUT: true; the input reads as it did. -/
def fnExactMahonRowSpec : ChangeSpec := { name := "fnExactMahonRow", fn := fun _ => fun
  | [d] => { results := [.lit (.bool true)], args := [d] }
  | _ => none }
def fnExactMahonRowRow : OpenClaim := { program := "ytoojcjeffolgfaa", sum := "459f4f8949bf3e8fa4dc828329f0c61ae608596b8ca093d12afc552b8474d0ae", func := "loop.example/g03101/laws.FnExactMahonRow", spec := "fnExactMahonRow", apart := false }
def FnExactMahonRowSaid : Prop := fnExactMahonRowRow.holds Try.pinned (OpenSpec.ofChange fnExactMahonRowSpec)

/-- ITS FALSE NEIGHBOUR: 'it returns false'. Refute it at one input. -/
def fnExactMahonRowWrong : ChangeSpec := { name := "fnExactMahonRow", fn := fun _ => fun
  | [d] => { results := [.lit (.bool false)], args := [d] }
  | _ => none }
def FnExactMahonRowWrongFalsely : Prop := fnExactMahonRowRow.holds Try.pinned (OpenSpec.ofChange fnExactMahonRowWrong)

/-- 'laws.FnExactIsAlternating': WHATEVER THE INPUT: true; the input reads as it did. -/
def fnExactIsAlternatingSpec : ChangeSpec := { name := "fnExactIsAlternating", fn := fun _ => fun
  | [d] => { results := [.lit (.bool true)], args := [d] }
  | _ => none }
def fnExactIsAlternatingRow : OpenClaim := { program := "ytoojcjeffolgfaa", sum := "459f4f8949bf3e8fa4dc828329f0c61ae608596b8ca093d12afc552b8474d0ae", func := "loop.example/g03101/laws.FnExactIsAlternating", spec := "fnExactIsAlternating", apart := false }
def FnExactIsAlternatingSaid : Prop := fnExactIsAlternatingRow.holds Try.pinned (OpenSpec.ofChange fnExactIsAlternatingSpec)

/-- ITS FALSE NEIGHBOUR: 'it returns false'. Refute it at one input. -/
def fnExactIsAlternatingWrong : ChangeSpec := { name := "fnExactIsAlternating", fn := fun _ => fun
  | [d] => { results := [.lit (.bool false)], args := [d] }
  | _ => none }
def FnExactIsAlternatingWrongFalsely : Prop := fnExactIsAlternatingRow.holds Try.pinned (OpenSpec.ofChange fnExactIsAlternatingWrong)

/-- 'laws.FnExactEulerRow': WHATEVER THE INPUT: true; the input reads as it did. -/
def fnExactEulerRowSpec : ChangeSpec := { name := "fnExactEulerRow", fn := fun _ => fun
  | [d] => { results := [.lit (.bool true)], args := [d] }
  | _ => none }
def fnExactEulerRowRow : OpenClaim := { program := "ytoojcjeffolgfaa", sum := "459f4f8949bf3e8fa4dc828329f0c61ae608596b8ca093d12afc552b8474d0ae", func := "loop.example/g03101/laws.FnExactEulerRow", spec := "fnExactEulerRow", apart := false }
def FnExactEulerRowSaid : Prop := fnExactEulerRowRow.holds Try.pinned (OpenSpec.ofChange fnExactEulerRowSpec)

/-- ITS FALSE NEIGHBOUR: 'it returns false'. Refute it at one input. -/
def fnExactEulerRowWrong : ChangeSpec := { name := "fnExactEulerRow", fn := fun _ => fun
  | [d] => { results := [.lit (.bool false)], args := [d] }
  | _ => none }
def FnExactEulerRowWrongFalsely : Prop := fnExactEulerRowRow.holds Try.pinned (OpenSpec.ofChange fnExactEulerRowWrong)

/-- 'laws.FnExactCountCycles': WHATEVER THE INPUT: true; the input reads as it did. -/
def fnExactCountCyclesSpec : ChangeSpec := { name := "fnExactCountCycles", fn := fun _ => fun
  | [d] => { results := [.lit (.bool true)], args := [d] }
  | _ => none }
def fnExactCountCyclesRow : OpenClaim := { program := "ytoojcjeffolgfaa", sum := "459f4f8949bf3e8fa4dc828329f0c61ae608596b8ca093d12afc552b8474d0ae", func := "loop.example/g03101/laws.FnExactCountCycles", spec := "fnExactCountCycles", apart := false }
def FnExactCountCyclesSaid : Prop := fnExactCountCyclesRow.holds Try.pinned (OpenSpec.ofChange fnExactCountCyclesSpec)

/-- ITS FALSE NEIGHBOUR: 'it returns false'. Refute it at one input. -/
def fnExactCountCyclesWrong : ChangeSpec := { name := "fnExactCountCycles", fn := fun _ => fun
  | [d] => { results := [.lit (.bool false)], args := [d] }
  | _ => none }
def FnExactCountCyclesWrongFalsely : Prop := fnExactCountCyclesRow.holds Try.pinned (OpenSpec.ofChange fnExactCountCyclesWrong)

/-- 'laws.FnExactCountFixed': WHATEVER THE INPUT: true; the input reads as it did. -/
def fnExactCountFixedSpec : ChangeSpec := { name := "fnExactCountFixed", fn := fun _ => fun
  | [d] => { results := [.lit (.bool true)], args := [d] }
  | _ => none }
def fnExactCountFixedRow : OpenClaim := { program := "ytoojcjeffolgfaa", sum := "459f4f8949bf3e8fa4dc828329f0c61ae608596b8ca093d12afc552b8474d0ae", func := "loop.example/g03101/laws.FnExactCountFixed", spec := "fnExactCountFixed", unfollowed := true, recurses := true, apart := false }
def FnExactCountFixedSaid : Prop := fnExactCountFixedRow.holds Try.pinned (OpenSpec.ofChange fnExactCountFixedSpec)

/-- ITS FALSE NEIGHBOUR: 'it returns false'. Refute it at one input. -/
def fnExactCountFixedWrong : ChangeSpec := { name := "fnExactCountFixed", fn := fun _ => fun
  | [d] => { results := [.lit (.bool false)], args := [d] }
  | _ => none }
def FnExactCountFixedWrongFalsely : Prop := fnExactCountFixedRow.holds Try.pinned (OpenSpec.ofChange fnExactCountFixedWrong)

/-- 'laws.FnExactCountRises': WHATEVER THE INPUT: true; the input reads as it did. -/
def fnExactCountRisesSpec : ChangeSpec := { name := "fnExactCountRises", fn := fun _ => fun
  | [d] => { results := [.lit (.bool true)], args := [d] }
  | _ => none }
def fnExactCountRisesRow : OpenClaim := { program := "ytoojcjeffolgfaa", sum := "459f4f8949bf3e8fa4dc828329f0c61ae608596b8ca093d12afc552b8474d0ae", func := "loop.example/g03101/laws.FnExactCountRises", spec := "fnExactCountRises", unfollowed := true, recurses := true, apart := false }
def FnExactCountRisesSaid : Prop := fnExactCountRisesRow.holds Try.pinned (OpenSpec.ofChange fnExactCountRisesSpec)

/-- ITS FALSE NEIGHBOUR: 'it returns false'. Refute it at one input. -/
def fnExactCountRisesWrong : ChangeSpec := { name := "fnExactCountRises", fn := fun _ => fun
  | [d] => { results := [.lit (.bool false)], args := [d] }
  | _ => none }
def FnExactCountRisesWrongFalsely : Prop := fnExactCountRisesRow.holds Try.pinned (OpenSpec.ofChange fnExactCountRisesWrong)

/-- 'laws.FnExactCountInversions': WHATEVER THE INPUT: true; the input reads as it did. -/
def fnExactCountInversionsSpec : ChangeSpec := { name := "fnExactCountInversions", fn := fun _ => fun
  | [d] => { results := [.lit (.bool true)], args := [d] }
  | _ => none }
def fnExactCountInversionsRow : OpenClaim := { program := "ytoojcjeffolgfaa", sum := "459f4f8949bf3e8fa4dc828329f0c61ae608596b8ca093d12afc552b8474d0ae", func := "loop.example/g03101/laws.FnExactCountInversions", spec := "fnExactCountInversions", apart := false }
def FnExactCountInversionsSaid : Prop := fnExactCountInversionsRow.holds Try.pinned (OpenSpec.ofChange fnExactCountInversionsSpec)

/-- ITS FALSE NEIGHBOUR: 'it returns false'. Refute it at one input. -/
def fnExactCountInversionsWrong : ChangeSpec := { name := "fnExactCountInversions", fn := fun _ => fun
  | [d] => { results := [.lit (.bool false)], args := [d] }
  | _ => none }
def FnExactCountInversionsWrongFalsely : Prop := fnExactCountInversionsRow.holds Try.pinned (OpenSpec.ofChange fnExactCountInversionsWrong)

/-- 'laws.FnExactDescentsOf': WHATEVER THE INPUT: true; the input reads as it did. -/
def fnExactDescentsOfSpec : ChangeSpec := { name := "fnExactDescentsOf", fn := fun _ => fun
  | [d] => { results := [.lit (.bool true)], args := [d] }
  | _ => none }
def fnExactDescentsOfRow : OpenClaim := { program := "ytoojcjeffolgfaa", sum := "459f4f8949bf3e8fa4dc828329f0c61ae608596b8ca093d12afc552b8474d0ae", func := "loop.example/g03101/laws.FnExactDescentsOf", spec := "fnExactDescentsOf", unfollowed := true, recurses := true, apart := false }
def FnExactDescentsOfSaid : Prop := fnExactDescentsOfRow.holds Try.pinned (OpenSpec.ofChange fnExactDescentsOfSpec)

/-- ITS FALSE NEIGHBOUR: 'it returns false'. Refute it at one input. -/
def fnExactDescentsOfWrong : ChangeSpec := { name := "fnExactDescentsOf", fn := fun _ => fun
  | [d] => { results := [.lit (.bool false)], args := [d] }
  | _ => none }
def FnExactDescentsOfWrongFalsely : Prop := fnExactDescentsOfRow.holds Try.pinned (OpenSpec.ofChange fnExactDescentsOfWrong)

/-- 'laws.FnExactMajorOf': WHATEVER THE INPUT: true; the input reads as it did. -/
def fnExactMajorOfSpec : ChangeSpec := { name := "fnExactMajorOf", fn := fun _ => fun
  | [d] => { results := [.lit (.bool true)], args := [d] }
  | _ => none }
def fnExactMajorOfRow : OpenClaim := { program := "ytoojcjeffolgfaa", sum := "459f4f8949bf3e8fa4dc828329f0c61ae608596b8ca093d12afc552b8474d0ae", func := "loop.example/g03101/laws.FnExactMajorOf", spec := "fnExactMajorOf", unfollowed := true, recurses := true, apart := false }
def FnExactMajorOfSaid : Prop := fnExactMajorOfRow.holds Try.pinned (OpenSpec.ofChange fnExactMajorOfSpec)

/-- ITS FALSE NEIGHBOUR: 'it returns false'. Refute it at one input. -/
def fnExactMajorOfWrong : ChangeSpec := { name := "fnExactMajorOf", fn := fun _ => fun
  | [d] => { results := [.lit (.bool false)], args := [d] }
  | _ => none }
def FnExactMajorOfWrongFalsely : Prop := fnExactMajorOfRow.holds Try.pinned (OpenSpec.ofChange fnExactMajorOfWrong)

/-- 'laws.FnExactLowsOf': WHATEVER THE INPUT: true; the input reads as it did. -/
def fnExactLowsOfSpec : ChangeSpec := { name := "fnExactLowsOf", fn := fun _ => fun
  | [d] => { results := [.lit (.bool true)], args := [d] }
  | _ => none }
def fnExactLowsOfRow : OpenClaim := { program := "ytoojcjeffolgfaa", sum := "459f4f8949bf3e8fa4dc828329f0c61ae608596b8ca093d12afc552b8474d0ae", func := "loop.example/g03101/laws.FnExactLowsOf", spec := "fnExactLowsOf", unfollowed := true, recurses := true, apart := false }
def FnExactLowsOfSaid : Prop := fnExactLowsOfRow.holds Try.pinned (OpenSpec.ofChange fnExactLowsOfSpec)

/-- ITS FALSE NEIGHBOUR: 'it returns false'. Refute it at one input. -/
def fnExactLowsOfWrong : ChangeSpec := { name := "fnExactLowsOf", fn := fun _ => fun
  | [d] => { results := [.lit (.bool false)], args := [d] }
  | _ => none }
def FnExactLowsOfWrongFalsely : Prop := fnExactLowsOfRow.holds Try.pinned (OpenSpec.ofChange fnExactLowsOfWrong)

/- THE SECOND FORM. 'bulk': how many values and letters a reading holds, each counted each time it is reached (what is shared counts as often as it is met; a slice's spare places count too). A statement '..UptoSaid' is the law's where the arguments, and the package variables that the reading takes, are together of bulk at most 1048576: NARROWER than '..Said'. Prove '..Said' where nothing that the law and all that it calls make is longer than what came in: it says more and counts as full. Else prove '..UptoSaid'. A law counts once. -/
mutual
def uptoBulk {H : Type} : DataW H → Nat
  | .lit (.string bytes) => bytes.length + 1
  | .lit _ => 1
  | .nil => 1
  | .ptr d => uptoBulk d + 1
  | .slice elems spare => uptoBulkAll elems + uptoBulkAll spare + 1
  | .agg parts => uptoBulkAll parts + 1
  | .iface _ d => uptoBulk d + 1
  | .map entries => uptoBulkEntries entries + 1
  | .held _ => 1
def uptoBulkAll {H : Type} : List (DataW H) → Nat
  | [] => 0
  | d :: r => uptoBulk d + uptoBulkAll r
def uptoBulkEntries {H : Type} : List (Lit × DataW H) → Nat
  | [] => 0
  | x :: r => uptoBulkEntry x + uptoBulkEntries r
def uptoBulkEntry {H : Type} : Lit × DataW H → Nat
  | (.string bytes, d) => bytes.length + uptoBulk d + 1
  | (_, d) => uptoBulk d + 1
 end
def uptoSmall : (H : Type) → List (DataW H) → Bool := fun _ ds => decide (uptoBulkAll ds ≤ 1048576)
def OpenSpec.upto (s : _root_.Go.ChangeSpec) : _root_.Go.OpenSpec := { _root_.Go.OpenSpec.ofChange s with cond := some uptoSmall }

/-- 'laws.FnExactChoose', WHERE WHAT IT READS IS OF BULK AT MOST 1048576: true; the input reads as it did. -/
def fnExactChooseUptoRow : OpenClaim := { program := "ytoojcjeffolgfaa", sum := "459f4f8949bf3e8fa4dc828329f0c61ae608596b8ca093d12afc552b8474d0ae", func := "loop.example/g03101/laws.FnExactChoose", spec := "fnExactChoose", apart := false, narrowed := true }
def FnExactChooseUptoSaid : Prop := fnExactChooseUptoRow.holds Try.pinned (OpenSpec.upto fnExactChooseSpec)

/-- 'laws.FnExactCountAlternating', WHERE WHAT IT READS IS OF BULK AT MOST 1048576: true; the input reads as it did. -/
def fnExactCountAlternatingUptoRow : OpenClaim := { program := "ytoojcjeffolgfaa", sum := "459f4f8949bf3e8fa4dc828329f0c61ae608596b8ca093d12afc552b8474d0ae", func := "loop.example/g03101/laws.FnExactCountAlternating", spec := "fnExactCountAlternating", apart := false, narrowed := true }
def FnExactCountAlternatingUptoSaid : Prop := fnExactCountAlternatingUptoRow.holds Try.pinned (OpenSpec.upto fnExactCountAlternatingSpec)

/-- 'laws.FnExactMahonRow', WHERE WHAT IT READS IS OF BULK AT MOST 1048576: true; the input reads as it did. -/
def fnExactMahonRowUptoRow : OpenClaim := { program := "ytoojcjeffolgfaa", sum := "459f4f8949bf3e8fa4dc828329f0c61ae608596b8ca093d12afc552b8474d0ae", func := "loop.example/g03101/laws.FnExactMahonRow", spec := "fnExactMahonRow", apart := false, narrowed := true }
def FnExactMahonRowUptoSaid : Prop := fnExactMahonRowUptoRow.holds Try.pinned (OpenSpec.upto fnExactMahonRowSpec)

/-- 'laws.FnExactIsAlternating', WHERE WHAT IT READS IS OF BULK AT MOST 1048576: true; the input reads as it did. -/
def fnExactIsAlternatingUptoRow : OpenClaim := { program := "ytoojcjeffolgfaa", sum := "459f4f8949bf3e8fa4dc828329f0c61ae608596b8ca093d12afc552b8474d0ae", func := "loop.example/g03101/laws.FnExactIsAlternating", spec := "fnExactIsAlternating", apart := false, narrowed := true }
def FnExactIsAlternatingUptoSaid : Prop := fnExactIsAlternatingUptoRow.holds Try.pinned (OpenSpec.upto fnExactIsAlternatingSpec)

/-- 'laws.FnExactEulerRow', WHERE WHAT IT READS IS OF BULK AT MOST 1048576: true; the input reads as it did. -/
def fnExactEulerRowUptoRow : OpenClaim := { program := "ytoojcjeffolgfaa", sum := "459f4f8949bf3e8fa4dc828329f0c61ae608596b8ca093d12afc552b8474d0ae", func := "loop.example/g03101/laws.FnExactEulerRow", spec := "fnExactEulerRow", apart := false, narrowed := true }
def FnExactEulerRowUptoSaid : Prop := fnExactEulerRowUptoRow.holds Try.pinned (OpenSpec.upto fnExactEulerRowSpec)

/-- 'laws.FnExactCountCycles', WHERE WHAT IT READS IS OF BULK AT MOST 1048576: true; the input reads as it did. -/
def fnExactCountCyclesUptoRow : OpenClaim := { program := "ytoojcjeffolgfaa", sum := "459f4f8949bf3e8fa4dc828329f0c61ae608596b8ca093d12afc552b8474d0ae", func := "loop.example/g03101/laws.FnExactCountCycles", spec := "fnExactCountCycles", apart := false, narrowed := true }
def FnExactCountCyclesUptoSaid : Prop := fnExactCountCyclesUptoRow.holds Try.pinned (OpenSpec.upto fnExactCountCyclesSpec)

/-- 'laws.FnExactCountFixed', WHERE WHAT IT READS IS OF BULK AT MOST 1048576: true; the input reads as it did. -/
def fnExactCountFixedUptoRow : OpenClaim := { program := "ytoojcjeffolgfaa", sum := "459f4f8949bf3e8fa4dc828329f0c61ae608596b8ca093d12afc552b8474d0ae", func := "loop.example/g03101/laws.FnExactCountFixed", spec := "fnExactCountFixed", unfollowed := true, recurses := true, apart := false, narrowed := true }
def FnExactCountFixedUptoSaid : Prop := fnExactCountFixedUptoRow.holds Try.pinned (OpenSpec.upto fnExactCountFixedSpec)

/-- 'laws.FnExactCountRises', WHERE WHAT IT READS IS OF BULK AT MOST 1048576: true; the input reads as it did. -/
def fnExactCountRisesUptoRow : OpenClaim := { program := "ytoojcjeffolgfaa", sum := "459f4f8949bf3e8fa4dc828329f0c61ae608596b8ca093d12afc552b8474d0ae", func := "loop.example/g03101/laws.FnExactCountRises", spec := "fnExactCountRises", unfollowed := true, recurses := true, apart := false, narrowed := true }
def FnExactCountRisesUptoSaid : Prop := fnExactCountRisesUptoRow.holds Try.pinned (OpenSpec.upto fnExactCountRisesSpec)

/-- 'laws.FnExactCountInversions', WHERE WHAT IT READS IS OF BULK AT MOST 1048576: true; the input reads as it did. -/
def fnExactCountInversionsUptoRow : OpenClaim := { program := "ytoojcjeffolgfaa", sum := "459f4f8949bf3e8fa4dc828329f0c61ae608596b8ca093d12afc552b8474d0ae", func := "loop.example/g03101/laws.FnExactCountInversions", spec := "fnExactCountInversions", apart := false, narrowed := true }
def FnExactCountInversionsUptoSaid : Prop := fnExactCountInversionsUptoRow.holds Try.pinned (OpenSpec.upto fnExactCountInversionsSpec)

/-- 'laws.FnExactDescentsOf', WHERE WHAT IT READS IS OF BULK AT MOST 1048576: true; the input reads as it did. -/
def fnExactDescentsOfUptoRow : OpenClaim := { program := "ytoojcjeffolgfaa", sum := "459f4f8949bf3e8fa4dc828329f0c61ae608596b8ca093d12afc552b8474d0ae", func := "loop.example/g03101/laws.FnExactDescentsOf", spec := "fnExactDescentsOf", unfollowed := true, recurses := true, apart := false, narrowed := true }
def FnExactDescentsOfUptoSaid : Prop := fnExactDescentsOfUptoRow.holds Try.pinned (OpenSpec.upto fnExactDescentsOfSpec)

/-- 'laws.FnExactMajorOf', WHERE WHAT IT READS IS OF BULK AT MOST 1048576: true; the input reads as it did. -/
def fnExactMajorOfUptoRow : OpenClaim := { program := "ytoojcjeffolgfaa", sum := "459f4f8949bf3e8fa4dc828329f0c61ae608596b8ca093d12afc552b8474d0ae", func := "loop.example/g03101/laws.FnExactMajorOf", spec := "fnExactMajorOf", unfollowed := true, recurses := true, apart := false, narrowed := true }
def FnExactMajorOfUptoSaid : Prop := fnExactMajorOfUptoRow.holds Try.pinned (OpenSpec.upto fnExactMajorOfSpec)

/-- 'laws.FnExactLowsOf', WHERE WHAT IT READS IS OF BULK AT MOST 1048576: true; the input reads as it did. -/
def fnExactLowsOfUptoRow : OpenClaim := { program := "ytoojcjeffolgfaa", sum := "459f4f8949bf3e8fa4dc828329f0c61ae608596b8ca093d12afc552b8474d0ae", func := "loop.example/g03101/laws.FnExactLowsOf", spec := "fnExactLowsOf", unfollowed := true, recurses := true, apart := false, narrowed := true }
def FnExactLowsOfUptoSaid : Prop := fnExactLowsOfUptoRow.holds Try.pinned (OpenSpec.upto fnExactLowsOfSpec)

end Rows
end Go.Proofs.Ytoojcjeffolgfaa
