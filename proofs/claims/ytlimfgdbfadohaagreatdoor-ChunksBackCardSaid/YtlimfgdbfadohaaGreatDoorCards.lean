/-
  DERIVED. GIVEN WITH THE SEED: THE CARDS: each row of YtlimfgdbfadohaaGreatDoorRows.lean that lists a variable, with what it lists TIED to the program's text (the seventh form; the later family's looks); each row that meets fmt, with fmt's text TOLD by the authors' own Lean function (tested against real Go, not proved from fmt's source: count such statements apart). THE CARD IS WHAT COUNTS. Prove the row's statement (the work); the ties are given (YtlimfgdbfadohaaGreatDoorTie.lean); close each card by the builder's one call (the guide's Derived/Test/ToyasCard.lean, 'card_holds'). Laid BY PROGRAM, IN A SANDBOX (cutbox-door.mjs). By AI agents, Wed Nov 11 2026. No macro, syntax, notation, axiom, sorry.
-/
import Derived.Test.YtlimfgdbfadohaaGreatDoorRows
import GoSem.ClaimSeven
namespace Go.Proofs.YtlimfgdbfadohaaGreatDoor
namespace Rows

/-- THE TIED CARD OF 'hoardlaw22.ChunksSpoilt'. -/
def chunksSpoiltCard : Claim7 := { stood := { row := chunksSpoiltRow, standIns := [], harness := (true, "f0316399baf0820d352837b5138eb629f71a8d9ee881922a2a26df1a2e525fbe"), looks := false }, kinds := [], alts := [], laidByText := true, laidKinds := [.data, .data], laidTests := true, laidLooks := .later }
def ChunksSpoiltCardSaid : Prop := Claim7.holds Tryz.pinned (.plain (OpenSpec.ofChange chunksSpoiltSpec)) chunksSpoiltCard

/-- THE TIED CARD OF 'hoardlaw22.ChunksBack'. -/
def chunksBackCard : Claim7 := { stood := { row := chunksBackRow, standIns := [], harness := (true, "f0316399baf0820d352837b5138eb629f71a8d9ee881922a2a26df1a2e525fbe"), looks := false }, kinds := [], alts := [], laidByText := true, laidKinds := [.data, .data], laidTests := true, laidLooks := .later }
def ChunksBackCardSaid : Prop := Claim7.holds Tryz.pinned (.plain (OpenSpec.ofChange chunksBackSpec)) chunksBackCard

/-- THE SECOND FORM's CARD OF 'hoardlaw22.ChunksSpoilt'. -/
def chunksSpoiltUptoCard : Claim7 := { stood := { row := chunksSpoiltUptoRow, standIns := [], harness := (true, "f0316399baf0820d352837b5138eb629f71a8d9ee881922a2a26df1a2e525fbe"), looks := false }, kinds := [], alts := [], laidByText := true, laidKinds := [.data, .data], laidTests := true, laidLooks := .later }
def ChunksSpoiltUptoCardSaid : Prop := Claim7.holds Tryz.pinned (.plain (OpenSpec.upto chunksSpoiltSpec)) chunksSpoiltUptoCard

/-- THE SECOND FORM's CARD OF 'hoardlaw22.ChunksBack'. -/
def chunksBackUptoCard : Claim7 := { stood := { row := chunksBackUptoRow, standIns := [], harness := (true, "f0316399baf0820d352837b5138eb629f71a8d9ee881922a2a26df1a2e525fbe"), looks := false }, kinds := [], alts := [], laidByText := true, laidKinds := [.data, .data], laidTests := true, laidLooks := .later }
def ChunksBackUptoCardSaid : Prop := Claim7.holds Tryz.pinned (.plain (OpenSpec.upto chunksBackSpec)) chunksBackUptoCard
end Rows
end Go.Proofs.YtlimfgdbfadohaaGreatDoor
