/-
  DERIVED. GIVEN WITH THE SEED: THE CARDS: each row of YtihngncbioofnaaGreatDoorRows.lean that lists a variable, with what it lists TIED to the program's text (the seventh form; the later family's looks); each row that meets fmt, with fmt's text TOLD by the authors' own Lean function (tested against real Go, not proved from fmt's source: count such statements apart). THE CARD IS WHAT COUNTS. Prove the row's statement (the work); the ties are given (YtihngncbioofnaaGreatDoorTie.lean); close each card by the builder's one call (the guide's Derived/Test/ToyasCard.lean, 'card_holds'). Laid BY PROGRAM, IN A SANDBOX (cutbox-door.mjs). By AI agents, Wed Nov 11 2026. No macro, syntax, notation, axiom, sorry.
-/
import Derived.Test.YtihngncbioofnaaGreatDoorRows
import GoSem.ClaimSeven
namespace Go.Proofs.YtihngncbioofnaaGreatDoor
namespace Rows

/-- THE TIED CARD OF 'hoardlaw18.CompactClean'. -/
def compactCleanCard : Claim7 := { stood := { row := compactCleanRow, standIns := [], harness := (true, "ecf8284fd57b8bc23068e520d8df830b7ca879469dd0ab3087fe19523b2d7fb4"), looks := false }, kinds := [], alts := [], laidByText := true, laidKinds := [.data], laidTests := true, laidLooks := .later }
def CompactCleanCardSaid : Prop := Claim7.holds Tryz.pinned (.plain (OpenSpec.ofChange compactCleanSpec)) compactCleanCard

/-- THE TIED CARD OF 'hoardlaw18.CompactSame'. -/
def compactSameCard : Claim7 := { stood := { row := compactSameRow, standIns := [], harness := (true, "ecf8284fd57b8bc23068e520d8df830b7ca879469dd0ab3087fe19523b2d7fb4"), looks := false }, kinds := [], alts := [], laidByText := true, laidKinds := [.data], laidTests := true, laidLooks := .later }
def CompactSameCardSaid : Prop := Claim7.holds Tryz.pinned (.plain (OpenSpec.ofChange compactSameSpec)) compactSameCard

/-- THE TIED CARD OF 'hoardlaw18.CompactFull'. -/
def compactFullCard : Claim7 := { stood := { row := compactFullRow, standIns := [], harness := (true, "ecf8284fd57b8bc23068e520d8df830b7ca879469dd0ab3087fe19523b2d7fb4"), looks := false }, kinds := [], alts := [], laidByText := true, laidKinds := [.data], laidTests := true, laidLooks := .later }
def CompactFullCardSaid : Prop := Claim7.holds Tryz.pinned (.plain (OpenSpec.ofChange compactFullSpec)) compactFullCard

/-- THE TIED CARD OF 'hoardlaw18.CompactKept'. -/
def compactKeptCard : Claim7 := { stood := { row := compactKeptRow, standIns := [], harness := (true, "ecf8284fd57b8bc23068e520d8df830b7ca879469dd0ab3087fe19523b2d7fb4"), looks := false }, kinds := [], alts := [], laidByText := true, laidKinds := [.data], laidTests := true, laidLooks := .later }
def CompactKeptCardSaid : Prop := Claim7.holds Tryz.pinned (.plain (OpenSpec.ofChange compactKeptSpec)) compactKeptCard

/-- THE SECOND FORM's CARD OF 'hoardlaw18.CompactClean'. -/
def compactCleanUptoCard : Claim7 := { stood := { row := compactCleanUptoRow, standIns := [], harness := (true, "ecf8284fd57b8bc23068e520d8df830b7ca879469dd0ab3087fe19523b2d7fb4"), looks := false }, kinds := [], alts := [], laidByText := true, laidKinds := [.data], laidTests := true, laidLooks := .later }
def CompactCleanUptoCardSaid : Prop := Claim7.holds Tryz.pinned (.plain (OpenSpec.upto compactCleanSpec)) compactCleanUptoCard

/-- THE SECOND FORM's CARD OF 'hoardlaw18.CompactSame'. -/
def compactSameUptoCard : Claim7 := { stood := { row := compactSameUptoRow, standIns := [], harness := (true, "ecf8284fd57b8bc23068e520d8df830b7ca879469dd0ab3087fe19523b2d7fb4"), looks := false }, kinds := [], alts := [], laidByText := true, laidKinds := [.data], laidTests := true, laidLooks := .later }
def CompactSameUptoCardSaid : Prop := Claim7.holds Tryz.pinned (.plain (OpenSpec.upto compactSameSpec)) compactSameUptoCard

/-- THE SECOND FORM's CARD OF 'hoardlaw18.CompactFull'. -/
def compactFullUptoCard : Claim7 := { stood := { row := compactFullUptoRow, standIns := [], harness := (true, "ecf8284fd57b8bc23068e520d8df830b7ca879469dd0ab3087fe19523b2d7fb4"), looks := false }, kinds := [], alts := [], laidByText := true, laidKinds := [.data], laidTests := true, laidLooks := .later }
def CompactFullUptoCardSaid : Prop := Claim7.holds Tryz.pinned (.plain (OpenSpec.upto compactFullSpec)) compactFullUptoCard

/-- THE SECOND FORM's CARD OF 'hoardlaw18.CompactKept'. -/
def compactKeptUptoCard : Claim7 := { stood := { row := compactKeptUptoRow, standIns := [], harness := (true, "ecf8284fd57b8bc23068e520d8df830b7ca879469dd0ab3087fe19523b2d7fb4"), looks := false }, kinds := [], alts := [], laidByText := true, laidKinds := [.data], laidTests := true, laidLooks := .later }
def CompactKeptUptoCardSaid : Prop := Claim7.holds Tryz.pinned (.plain (OpenSpec.upto compactKeptSpec)) compactKeptUptoCard
end Rows
end Go.Proofs.YtihngncbioofnaaGreatDoor
