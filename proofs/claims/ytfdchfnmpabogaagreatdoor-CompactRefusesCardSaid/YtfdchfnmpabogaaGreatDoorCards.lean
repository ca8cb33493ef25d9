/-
  DERIVED. GIVEN WITH THE SEED: THE CARDS: each row of YtfdchfnmpabogaaGreatDoorRows.lean that lists a variable, with what it lists TIED to the program's text (the seventh form; the later family's looks); each row that meets fmt, with fmt's text TOLD by the authors' own Lean function (tested against real Go, not proved from fmt's source: count such statements apart). THE CARD IS WHAT COUNTS. Prove the row's statement (the work); the ties are given (YtfdchfnmpabogaaGreatDoorTie.lean); close each card by the builder's one call (the guide's Derived/Test/ToyasCard.lean, 'card_holds'). Laid BY PROGRAM, IN A SANDBOX (cutbox-door.mjs). By AI agents, Wed Nov 11 2026. No macro, syntax, notation, axiom, sorry.
-/
import Derived.Test.YtfdchfnmpabogaaGreatDoorRows
import GoSem.ClaimSeven
namespace Go.Proofs.YtfdchfnmpabogaaGreatDoor
namespace Rows

/-- THE TIED CARD OF 'hoardlaw18.CompactRefuses'. -/
def compactRefusesCard : Claim7 := { stood := { row := compactRefusesRow, standIns := [], harness := (true, "631a9ae3283b88499954790c68d5ada0fd56978d4851c5ca6b9f28d48f5a1d10"), looks := false }, kinds := [], alts := [], laidByText := true, laidKinds := [.data], laidTests := true, laidLooks := .later }
def CompactRefusesCardSaid : Prop := Claim7.holds Tryz.pinned (.plain (OpenSpec.ofChange compactRefusesSpec)) compactRefusesCard

/-- THE SECOND FORM's CARD OF 'hoardlaw18.CompactRefuses'. -/
def compactRefusesUptoCard : Claim7 := { stood := { row := compactRefusesUptoRow, standIns := [], harness := (true, "631a9ae3283b88499954790c68d5ada0fd56978d4851c5ca6b9f28d48f5a1d10"), looks := false }, kinds := [], alts := [], laidByText := true, laidKinds := [.data], laidTests := true, laidLooks := .later }
def CompactRefusesUptoCardSaid : Prop := Claim7.holds Tryz.pinned (.plain (OpenSpec.upto compactRefusesSpec)) compactRefusesUptoCard
end Rows
end Go.Proofs.YtfdchfnmpabogaaGreatDoor
