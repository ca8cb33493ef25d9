/-
  DERIVED. GIVEN WITH THE SEED: THE CARDS: each row of YtlinnpehkfbnkaaGreatDoorRows.lean that lists a variable, with what it lists TIED to the program's text (the seventh form; the later family's looks); each row that meets fmt, with fmt's text TOLD by the authors' own Lean function (tested against real Go, not proved from fmt's source: count such statements apart). THE CARD IS WHAT COUNTS. Prove the row's statement (the work); the ties are given (YtlinnpehkfbnkaaGreatDoorTie.lean); close each card by the builder's one call (the guide's Derived/Test/ToyasCard.lean, 'card_holds'). Laid BY PROGRAM, IN A SANDBOX (cutbox-door.mjs). By AI agents, Wed Nov 11 2026. No macro, syntax, notation, axiom, sorry.
-/
import Derived.Test.YtlinnpehkfbnkaaGreatDoorRows
import GoSem.ClaimSeven
namespace Go.Proofs.YtlinnpehkfbnkaaGreatDoor
namespace Rows

/-- THE TIED CARD OF 'hoardlaw16.HintsStale'. -/
def hintsStaleCard : Claim7 := { stood := { row := hintsStaleRow, standIns := [], harness := (true, "44ab43d4e3495f19682309521e3b6f80ee75264da29f4ae952f5e0be22aa995e"), looks := false }, kinds := [], alts := [], laidByText := true, laidKinds := [.data], laidTests := true, laidLooks := .later }
def HintsStaleCardSaid : Prop := Claim7.holds Tryz.pinned (.plain (OpenSpec.ofChange hintsStaleSpec)) hintsStaleCard

/-- THE TIED CARD OF 'hoardlaw16.HintsBack'. -/
def hintsBackCard : Claim7 := { stood := { row := hintsBackRow, standIns := [], harness := (true, "44ab43d4e3495f19682309521e3b6f80ee75264da29f4ae952f5e0be22aa995e"), looks := false }, kinds := [], alts := [], laidByText := true, laidKinds := [.data], laidTests := true, laidLooks := .later }
def HintsBackCardSaid : Prop := Claim7.holds Tryz.pinned (.plain (OpenSpec.ofChange hintsBackSpec)) hintsBackCard

/-- THE TIED CARD OF 'hoardlaw16.HintsCrash'. -/
def hintsCrashCard : Claim7 := { stood := { row := hintsCrashRow, standIns := [], harness := (true, "44ab43d4e3495f19682309521e3b6f80ee75264da29f4ae952f5e0be22aa995e"), looks := false }, kinds := [], alts := [], laidByText := true, laidKinds := [.data], laidTests := true, laidLooks := .later }
def HintsCrashCardSaid : Prop := Claim7.holds Tryz.pinned (.plain (OpenSpec.ofChange hintsCrashSpec)) hintsCrashCard

/-- THE TIED CARD OF 'hoardlaw17.RepoNobody'. -/
def repoNobodyCard : Claim7 := { stood := { row := repoNobodyRow, standIns := [], harness := (true, "44ab43d4e3495f19682309521e3b6f80ee75264da29f4ae952f5e0be22aa995e"), looks := false }, kinds := [], alts := [], laidByText := true, laidKinds := [.data], laidTests := true, laidLooks := .later }
def RepoNobodyCardSaid : Prop := Claim7.holds Tryz.pinned (.plain (OpenSpec.ofChange repoNobodySpec)) repoNobodyCard

/-- THE TIED CARD OF 'hoardlaw19.MendRefuses'. -/
def mendRefusesCard : Claim7 := { stood := { row := mendRefusesRow, standIns := [], harness := (true, "44ab43d4e3495f19682309521e3b6f80ee75264da29f4ae952f5e0be22aa995e"), looks := false }, kinds := [], alts := [], laidByText := true, laidKinds := [.data], laidTests := true, laidLooks := .later }
def MendRefusesCardSaid : Prop := Claim7.holds Tryz.pinned (.plain (OpenSpec.ofChange mendRefusesSpec)) mendRefusesCard

/-- THE SECOND FORM's CARD OF 'hoardlaw16.HintsStale'. -/
def hintsStaleUptoCard : Claim7 := { stood := { row := hintsStaleUptoRow, standIns := [], harness := (true, "44ab43d4e3495f19682309521e3b6f80ee75264da29f4ae952f5e0be22aa995e"), looks := false }, kinds := [], alts := [], laidByText := true, laidKinds := [.data], laidTests := true, laidLooks := .later }
def HintsStaleUptoCardSaid : Prop := Claim7.holds Tryz.pinned (.plain (OpenSpec.upto hintsStaleSpec)) hintsStaleUptoCard

/-- THE SECOND FORM's CARD OF 'hoardlaw16.HintsBack'. -/
def hintsBackUptoCard : Claim7 := { stood := { row := hintsBackUptoRow, standIns := [], harness := (true, "44ab43d4e3495f19682309521e3b6f80ee75264da29f4ae952f5e0be22aa995e"), looks := false }, kinds := [], alts := [], laidByText := true, laidKinds := [.data], laidTests := true, laidLooks := .later }
def HintsBackUptoCardSaid : Prop := Claim7.holds Tryz.pinned (.plain (OpenSpec.upto hintsBackSpec)) hintsBackUptoCard

/-- THE SECOND FORM's CARD OF 'hoardlaw16.HintsCrash'. -/
def hintsCrashUptoCard : Claim7 := { stood := { row := hintsCrashUptoRow, standIns := [], harness := (true, "44ab43d4e3495f19682309521e3b6f80ee75264da29f4ae952f5e0be22aa995e"), looks := false }, kinds := [], alts := [], laidByText := true, laidKinds := [.data], laidTests := true, laidLooks := .later }
def HintsCrashUptoCardSaid : Prop := Claim7.holds Tryz.pinned (.plain (OpenSpec.upto hintsCrashSpec)) hintsCrashUptoCard

/-- THE SECOND FORM's CARD OF 'hoardlaw17.RepoNobody'. -/
def repoNobodyUptoCard : Claim7 := { stood := { row := repoNobodyUptoRow, standIns := [], harness := (true, "44ab43d4e3495f19682309521e3b6f80ee75264da29f4ae952f5e0be22aa995e"), looks := false }, kinds := [], alts := [], laidByText := true, laidKinds := [.data], laidTests := true, laidLooks := .later }
def RepoNobodyUptoCardSaid : Prop := Claim7.holds Tryz.pinned (.plain (OpenSpec.upto repoNobodySpec)) repoNobodyUptoCard

/-- THE SECOND FORM's CARD OF 'hoardlaw19.MendRefuses'. -/
def mendRefusesUptoCard : Claim7 := { stood := { row := mendRefusesUptoRow, standIns := [], harness := (true, "44ab43d4e3495f19682309521e3b6f80ee75264da29f4ae952f5e0be22aa995e"), looks := false }, kinds := [], alts := [], laidByText := true, laidKinds := [.data], laidTests := true, laidLooks := .later }
def MendRefusesUptoCardSaid : Prop := Claim7.holds Tryz.pinned (.plain (OpenSpec.upto mendRefusesSpec)) mendRefusesUptoCard
end Rows
end Go.Proofs.YtlinnpehkfbnkaaGreatDoor
