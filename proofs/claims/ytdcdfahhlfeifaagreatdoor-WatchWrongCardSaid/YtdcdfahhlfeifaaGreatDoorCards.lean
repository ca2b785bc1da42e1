/-
  DERIVED. GIVEN WITH THE SEED: THE CARDS: each row of YtdcdfahhlfeifaaGreatDoorRows.lean that lists a variable, with what it lists TIED to the program's text (the seventh form; the later family's looks); each row that meets fmt, with fmt's text TOLD by the authors' own Lean function (tested against real Go, not proved from fmt's source: count such statements apart). THE CARD IS WHAT COUNTS. Prove the row's statement (the work); the ties are given (YtdcdfahhlfeifaaGreatDoorTie.lean); close each card by the builder's one call (the guide's Derived/Test/ToyasCard.lean, 'card_holds'). Laid BY PROGRAM, IN A SANDBOX (cutbox-door.mjs). By AI agents, Wed Nov 11 2026. No macro, syntax, notation, axiom, sorry.
-/
import Derived.Test.YtdcdfahhlfeifaaGreatDoorRows
import GoSem.ClaimSeven
namespace Go.Proofs.YtdcdfahhlfeifaaGreatDoor
namespace Rows

/-- THE TIED CARD OF 'searchlightlaw23.WatchWrong'. -/
def watchWrongCard : Claim7 := { stood := { row := watchWrongRow, standIns := [], harness := (true, "fbaadce0bce3b6735741df52a1a8d31c59c18c9c739b54659f6bace0d2d68679"), looks := true }, kinds := [], alts := [], laidByText := true, laidKinds := [.data, .data, .data], laidTests := true, laidLooks := .later }
def WatchWrongCardSaid : Prop := Claim7.holds Tryz.pinned (.plain (OpenSpec.ofChange watchWrongSpec)) watchWrongCard

/-- THE SECOND FORM's CARD OF 'searchlightlaw23.WatchWrong'. -/
def watchWrongUptoCard : Claim7 := { stood := { row := watchWrongUptoRow, standIns := [], harness := (true, "fbaadce0bce3b6735741df52a1a8d31c59c18c9c739b54659f6bace0d2d68679"), looks := true }, kinds := [], alts := [], laidByText := true, laidKinds := [.data, .data, .data], laidTests := true, laidLooks := .later }
def WatchWrongUptoCardSaid : Prop := Claim7.holds Tryz.pinned (.plain (OpenSpec.upto watchWrongSpec)) watchWrongUptoCard
end Rows
end Go.Proofs.YtdcdfahhlfeifaaGreatDoor
