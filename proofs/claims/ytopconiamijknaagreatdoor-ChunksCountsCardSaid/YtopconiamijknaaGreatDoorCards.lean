/-
  DERIVED. GIVEN WITH THE SEED: THE CARDS: each row of YtopconiamijknaaGreatDoorRows.lean that lists a variable, with what it lists TIED to the program's text (the seventh form; the later family's looks); each row that meets fmt, with fmt's text TOLD by the authors' own Lean function (tested against real Go, not proved from fmt's source: count such statements apart). THE CARD IS WHAT COUNTS. Prove the row's statement (the work); the ties are given (YtopconiamijknaaGreatDoorTie.lean); close each card by the builder's one call (the guide's Derived/Test/ToyasCard.lean, 'card_holds'). Laid BY PROGRAM, IN A SANDBOX (cutbox-door.mjs). By AI agents, Wed Nov 11 2026. No macro, syntax, notation, axiom, sorry.
-/
import Derived.Test.YtopconiamijknaaGreatDoorRows
import GoSem.ClaimSeven
namespace Go.Proofs.YtopconiamijknaaGreatDoor
namespace Rows

/-- THE TIED CARD OF 'hoardlaw22.ChunksCounts'. -/
def chunksCountsCard : Claim7 := { stood := { row := chunksCountsRow, standIns := [], harness := (true, "d1ebf5724821e7485db014fa52d1bef6d9b439e3cffe2836065b4678fb0294f4"), looks := false }, kinds := [], alts := [], laidByText := true, laidKinds := [.data, .data], laidTests := true, laidLooks := .later }
def ChunksCountsCardSaid : Prop := Claim7.holds Tryz.pinned (.plain (OpenSpec.ofChange chunksCountsSpec)) chunksCountsCard

/-- THE TIED CARD OF 'hoardlaw22.ChunksNobody'. -/
def chunksNobodyCard : Claim7 := { stood := { row := chunksNobodyRow, standIns := [], harness := (true, "d1ebf5724821e7485db014fa52d1bef6d9b439e3cffe2836065b4678fb0294f4"), looks := false }, kinds := [], alts := [], laidByText := true, laidKinds := [.data, .data], laidTests := true, laidLooks := .later }
def ChunksNobodyCardSaid : Prop := Claim7.holds Tryz.pinned (.plain (OpenSpec.ofChange chunksNobodySpec)) chunksNobodyCard

/-- THE SECOND FORM's CARD OF 'hoardlaw22.ChunksCounts'. -/
def chunksCountsUptoCard : Claim7 := { stood := { row := chunksCountsUptoRow, standIns := [], harness := (true, "d1ebf5724821e7485db014fa52d1bef6d9b439e3cffe2836065b4678fb0294f4"), looks := false }, kinds := [], alts := [], laidByText := true, laidKinds := [.data, .data], laidTests := true, laidLooks := .later }
def ChunksCountsUptoCardSaid : Prop := Claim7.holds Tryz.pinned (.plain (OpenSpec.upto chunksCountsSpec)) chunksCountsUptoCard

/-- THE SECOND FORM's CARD OF 'hoardlaw22.ChunksNobody'. -/
def chunksNobodyUptoCard : Claim7 := { stood := { row := chunksNobodyUptoRow, standIns := [], harness := (true, "d1ebf5724821e7485db014fa52d1bef6d9b439e3cffe2836065b4678fb0294f4"), looks := false }, kinds := [], alts := [], laidByText := true, laidKinds := [.data, .data], laidTests := true, laidLooks := .later }
def ChunksNobodyUptoCardSaid : Prop := Claim7.holds Tryz.pinned (.plain (OpenSpec.upto chunksNobodySpec)) chunksNobodyUptoCard
end Rows
end Go.Proofs.YtopconiamijknaaGreatDoor
