/-
  DERIVED. GIVEN WITH THE SEED: THE CARDS: each row of YtodokdddcikhdaaDoorRows.lean that lists a variable, with what it lists TIED to the program's text (the seventh form; the later family's looks); each row that meets fmt, with fmt's text TOLD by the authors' own Lean function (tested against real Go, not proved from fmt's source: count such statements apart). THE CARD IS WHAT COUNTS. Prove the row's statement (the work); the ties are given (YtodokdddcikhdaaDoorTie.lean); close each card by the builder's one call (the guide's Derived/Test/ToyasCard.lean, 'card_holds'). Laid BY PROGRAM, IN A SANDBOX (cutbox-door.mjs). By AI agents, Wed Nov 11 2026. No macro, syntax, notation, axiom, sorry.
-/
import Derived.Test.YtodokdddcikhdaaDoorRows
import GoSem.ClaimSeven
namespace Go.Proofs.YtodokdddcikhdaaDoor
namespace Rows

/-- THE TIED CARD OF 'laws.FnExactParseNear'. -/
def fnExactParseNearCard : Claim7 := { stood := { row := fnExactParseNearRow, standIns := [], harness := (true, "461b989ef052094fff275e0eb46321b904825992c69849f7383209120df4f5f9"), looks := false }, kinds := [], alts := [], laidByText := true, laidKinds := [.data, .pinned], laidTests := true, laidLooks := .later }
def FnExactParseNearCardSaid : Prop := Claim7.holds Tryd.pinned (.plain (OpenSpec.ofChange fnExactParseNearSpec)) fnExactParseNearCard

/-- THE SECOND FORM's CARD OF 'laws.FnExactParseNear'. -/
def fnExactParseNearUptoCard : Claim7 := { stood := { row := fnExactParseNearUptoRow, standIns := [], harness := (true, "461b989ef052094fff275e0eb46321b904825992c69849f7383209120df4f5f9"), looks := false }, kinds := [], alts := [], laidByText := true, laidKinds := [.data, .pinned], laidTests := true, laidLooks := .later }
def FnExactParseNearUptoCardSaid : Prop := Claim7.holds Tryd.pinned (.plain (OpenSpec.upto fnExactParseNearSpec)) fnExactParseNearUptoCard
end Rows
end Go.Proofs.YtodokdddcikhdaaDoor
