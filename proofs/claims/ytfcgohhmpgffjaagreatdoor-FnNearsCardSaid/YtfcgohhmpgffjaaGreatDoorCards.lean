/-
  DERIVED. GIVEN WITH THE SEED: THE CARDS: each row of YtfcgohhmpgffjaaGreatDoorRows.lean that lists a variable, with what it lists TIED to the program's text (the seventh form; the later family's looks); each row that meets fmt, with fmt's text TOLD by the authors' own Lean function (tested against real Go, not proved from fmt's source: count such statements apart). THE CARD IS WHAT COUNTS. Prove the row's statement (the work); the ties are given (YtfcgohhmpgffjaaGreatDoorTie.lean); close each card by the builder's one call (the guide's Derived/Test/ToyasCard.lean, 'card_holds'). Laid BY PROGRAM, IN A SANDBOX (cutbox-door.mjs). By AI agents, Wed Nov 11 2026. No macro, syntax, notation, axiom, sorry.
-/
import Derived.Test.YtfcgohhmpgffjaaGreatDoorRows
import GoSem.ClaimSeven
namespace Go.Proofs.YtfcgohhmpgffjaaGreatDoor
namespace Rows

/-- THE TIED CARD OF 'laws.FnNears'. -/
def fnNearsCard : Claim7 := { stood := { row := fnNearsRow, standIns := [], harness := (true, "95e4f1b7ccce30c2ca9cf57cf1c053fb8397babc1009a91db3daba2897e0578f"), looks := false }, kinds := [], alts := [], laidByText := true, laidKinds := [.data, .pinned], laidTests := true, laidLooks := .later }
def FnNearsCardSaid : Prop := Claim7.holds Tryz.pinned (.plain (OpenSpec.ofChange fnNearsSpec)) fnNearsCard

/-- THE SECOND FORM's CARD OF 'laws.FnNears'. -/
def fnNearsUptoCard : Claim7 := { stood := { row := fnNearsUptoRow, standIns := [], harness := (true, "95e4f1b7ccce30c2ca9cf57cf1c053fb8397babc1009a91db3daba2897e0578f"), looks := false }, kinds := [], alts := [], laidByText := true, laidKinds := [.data, .pinned], laidTests := true, laidLooks := .later }
def FnNearsUptoCardSaid : Prop := Claim7.holds Tryz.pinned (.plain (OpenSpec.upto fnNearsSpec)) fnNearsUptoCard
end Rows
end Go.Proofs.YtfcgohhmpgffjaaGreatDoor
