/-
  DERIVED. GIVEN WITH THE SEED: THE CARDS: each row of YtiglchkhikciiaaGreatDoorRows.lean that lists a variable, with what it lists TIED to the program's text (the seventh form; the later family's looks); each row that meets fmt, with fmt's text TOLD by the authors' own Lean function (tested against real Go, not proved from fmt's source: count such statements apart). THE CARD IS WHAT COUNTS. Prove the row's statement (the work); the ties are given (YtiglchkhikciiaaGreatDoorTie.lean); close each card by the builder's one call (the guide's Derived/Test/ToyasCard.lean, 'card_holds'). Laid BY PROGRAM, IN A SANDBOX (cutbox-door.mjs). By AI agents, Wed Nov 11 2026. No macro, syntax, notation, axiom, sorry.
-/
import Derived.Test.YtiglchkhikciiaaGreatDoorRows
import GoSem.ClaimSeven
namespace Go.Proofs.YtiglchkhikciiaaGreatDoor
namespace Rows

/-- THE TIED CARD OF 'hoardlaw17.RepoHints'. -/
def repoHintsCard : Claim7 := { stood := { row := repoHintsRow, standIns := [], harness := (true, "ebb5e1de4e4ff851aacbe930d680fdacd9b2d593880e20922c36b2930a116222"), looks := false }, kinds := [], alts := [], laidByText := true, laidKinds := [.data], laidTests := true, laidLooks := .later }
def RepoHintsCardSaid : Prop := Claim7.holds Tryz.pinned (.plain (OpenSpec.ofChange repoHintsSpec)) repoHintsCard

/-- THE TIED CARD OF 'hoardlaw18.CompactRefuses'. -/
def compactRefusesCard : Claim7 := { stood := { row := compactRefusesRow, standIns := [], harness := (true, "ebb5e1de4e4ff851aacbe930d680fdacd9b2d593880e20922c36b2930a116222"), looks := false }, kinds := [], alts := [], laidByText := true, laidKinds := [.data], laidTests := true, laidLooks := .later }
def CompactRefusesCardSaid : Prop := Claim7.holds Tryz.pinned (.plain (OpenSpec.ofChange compactRefusesSpec)) compactRefusesCard

/-- THE TIED CARD OF 'hoardlaw18.CompactClean'. -/
def compactCleanCard : Claim7 := { stood := { row := compactCleanRow, standIns := [], harness := (true, "ebb5e1de4e4ff851aacbe930d680fdacd9b2d593880e20922c36b2930a116222"), looks := false }, kinds := [], alts := [], laidByText := true, laidKinds := [.data], laidTests := true, laidLooks := .later }
def CompactCleanCardSaid : Prop := Claim7.holds Tryz.pinned (.plain (OpenSpec.ofChange compactCleanSpec)) compactCleanCard

/-- THE TIED CARD OF 'hoardlaw22.ChunksCounts'. -/
def chunksCountsCard : Claim7 := { stood := { row := chunksCountsRow, standIns := [], harness := (true, "ebb5e1de4e4ff851aacbe930d680fdacd9b2d593880e20922c36b2930a116222"), looks := false }, kinds := [], alts := [], laidByText := true, laidKinds := [.data, .data], laidTests := true, laidLooks := .later }
def ChunksCountsCardSaid : Prop := Claim7.holds Tryz.pinned (.plain (OpenSpec.ofChange chunksCountsSpec)) chunksCountsCard

/-- THE SECOND FORM's CARD OF 'hoardlaw17.RepoHints'. -/
def repoHintsUptoCard : Claim7 := { stood := { row := repoHintsUptoRow, standIns := [], harness := (true, "ebb5e1de4e4ff851aacbe930d680fdacd9b2d593880e20922c36b2930a116222"), looks := false }, kinds := [], alts := [], laidByText := true, laidKinds := [.data], laidTests := true, laidLooks := .later }
def RepoHintsUptoCardSaid : Prop := Claim7.holds Tryz.pinned (.plain (OpenSpec.upto repoHintsSpec)) repoHintsUptoCard

/-- THE SECOND FORM's CARD OF 'hoardlaw18.CompactRefuses'. -/
def compactRefusesUptoCard : Claim7 := { stood := { row := compactRefusesUptoRow, standIns := [], harness := (true, "ebb5e1de4e4ff851aacbe930d680fdacd9b2d593880e20922c36b2930a116222"), looks := false }, kinds := [], alts := [], laidByText := true, laidKinds := [.data], laidTests := true, laidLooks := .later }
def CompactRefusesUptoCardSaid : Prop := Claim7.holds Tryz.pinned (.plain (OpenSpec.upto compactRefusesSpec)) compactRefusesUptoCard

/-- THE SECOND FORM's CARD OF 'hoardlaw18.CompactClean'. -/
def compactCleanUptoCard : Claim7 := { stood := { row := compactCleanUptoRow, standIns := [], harness := (true, "ebb5e1de4e4ff851aacbe930d680fdacd9b2d593880e20922c36b2930a116222"), looks := false }, kinds := [], alts := [], laidByText := true, laidKinds := [.data], laidTests := true, laidLooks := .later }
def CompactCleanUptoCardSaid : Prop := Claim7.holds Tryz.pinned (.plain (OpenSpec.upto compactCleanSpec)) compactCleanUptoCard

/-- THE SECOND FORM's CARD OF 'hoardlaw22.ChunksCounts'. -/
def chunksCountsUptoCard : Claim7 := { stood := { row := chunksCountsUptoRow, standIns := [], harness := (true, "ebb5e1de4e4ff851aacbe930d680fdacd9b2d593880e20922c36b2930a116222"), looks := false }, kinds := [], alts := [], laidByText := true, laidKinds := [.data, .data], laidTests := true, laidLooks := .later }
def ChunksCountsUptoCardSaid : Prop := Claim7.holds Tryz.pinned (.plain (OpenSpec.upto chunksCountsSpec)) chunksCountsUptoCard
end Rows
end Go.Proofs.YtiglchkhikciiaaGreatDoor
