/-
  DERIVED. GIVEN WITH THE SEED: THE CARDS: each row of YtjbhhbnopnmcnaaGreatDoorRows.lean that lists a variable, with what it lists TIED to the program's text (the seventh form; the later family's looks); each row that meets fmt, with fmt's text TOLD by the authors' own Lean function (tested against real Go, not proved from fmt's source: count such statements apart). THE CARD IS WHAT COUNTS. Prove the row's statement (the work); the ties are given (YtjbhhbnopnmcnaaGreatDoorTie.lean); close each card by the builder's one call (the guide's Derived/Test/ToyasCard.lean, 'card_holds'). Laid BY PROGRAM, IN A SANDBOX (cutbox-door.mjs). By AI agents, Wed Nov 11 2026. No macro, syntax, notation, axiom, sorry.
-/
import Derived.Test.YtjbhhbnopnmcnaaGreatDoorRows
import GoSem.ClaimSeven
namespace Go.Proofs.YtjbhhbnopnmcnaaGreatDoor
namespace Rows

/-- THE TIED CARD OF 'hoardlaw17.RepoMap'. -/
def repoMapCard : Claim7 := { stood := { row := repoMapRow, standIns := [], harness := (true, "7e7d08be4c2c7b644cfaf607f134e6017ab578832b9c8c2755899e0aeae91aad"), looks := false }, kinds := [], alts := [], laidByText := true, laidKinds := [.data], laidTests := true, laidLooks := .later }
def RepoMapCardSaid : Prop := Claim7.holds Tryz.pinned (.plain (OpenSpec.ofChange repoMapSpec)) repoMapCard

/-- THE TIED CARD OF 'hoardlaw17.RepoFull'. -/
def repoFullCard : Claim7 := { stood := { row := repoFullRow, standIns := [], harness := (true, "7e7d08be4c2c7b644cfaf607f134e6017ab578832b9c8c2755899e0aeae91aad"), looks := false }, kinds := [], alts := [], laidByText := true, laidKinds := [.data], laidTests := true, laidLooks := .later }
def RepoFullCardSaid : Prop := Claim7.holds Tryz.pinned (.plain (OpenSpec.ofChange repoFullSpec)) repoFullCard

/-- THE TIED CARD OF 'hoardlaw17.RepoHints'. -/
def repoHintsCard : Claim7 := { stood := { row := repoHintsRow, standIns := [], harness := (true, "7e7d08be4c2c7b644cfaf607f134e6017ab578832b9c8c2755899e0aeae91aad"), looks := false }, kinds := [], alts := [], laidByText := true, laidKinds := [.data], laidTests := true, laidLooks := .later }
def RepoHintsCardSaid : Prop := Claim7.holds Tryz.pinned (.plain (OpenSpec.ofChange repoHintsSpec)) repoHintsCard

/-- THE TIED CARD OF 'hoardlaw17.RepoSpoilt'. -/
def repoSpoiltCard : Claim7 := { stood := { row := repoSpoiltRow, standIns := [], harness := (true, "7e7d08be4c2c7b644cfaf607f134e6017ab578832b9c8c2755899e0aeae91aad"), looks := false }, kinds := [], alts := [], laidByText := true, laidKinds := [.data], laidTests := true, laidLooks := .later }
def RepoSpoiltCardSaid : Prop := Claim7.holds Tryz.pinned (.plain (OpenSpec.ofChange repoSpoiltSpec)) repoSpoiltCard

/-- THE SECOND FORM's CARD OF 'hoardlaw17.RepoMap'. -/
def repoMapUptoCard : Claim7 := { stood := { row := repoMapUptoRow, standIns := [], harness := (true, "7e7d08be4c2c7b644cfaf607f134e6017ab578832b9c8c2755899e0aeae91aad"), looks := false }, kinds := [], alts := [], laidByText := true, laidKinds := [.data], laidTests := true, laidLooks := .later }
def RepoMapUptoCardSaid : Prop := Claim7.holds Tryz.pinned (.plain (OpenSpec.upto repoMapSpec)) repoMapUptoCard

/-- THE SECOND FORM's CARD OF 'hoardlaw17.RepoFull'. -/
def repoFullUptoCard : Claim7 := { stood := { row := repoFullUptoRow, standIns := [], harness := (true, "7e7d08be4c2c7b644cfaf607f134e6017ab578832b9c8c2755899e0aeae91aad"), looks := false }, kinds := [], alts := [], laidByText := true, laidKinds := [.data], laidTests := true, laidLooks := .later }
def RepoFullUptoCardSaid : Prop := Claim7.holds Tryz.pinned (.plain (OpenSpec.upto repoFullSpec)) repoFullUptoCard

/-- THE SECOND FORM's CARD OF 'hoardlaw17.RepoHints'. -/
def repoHintsUptoCard : Claim7 := { stood := { row := repoHintsUptoRow, standIns := [], harness := (true, "7e7d08be4c2c7b644cfaf607f134e6017ab578832b9c8c2755899e0aeae91aad"), looks := false }, kinds := [], alts := [], laidByText := true, laidKinds := [.data], laidTests := true, laidLooks := .later }
def RepoHintsUptoCardSaid : Prop := Claim7.holds Tryz.pinned (.plain (OpenSpec.upto repoHintsSpec)) repoHintsUptoCard

/-- THE SECOND FORM's CARD OF 'hoardlaw17.RepoSpoilt'. -/
def repoSpoiltUptoCard : Claim7 := { stood := { row := repoSpoiltUptoRow, standIns := [], harness := (true, "7e7d08be4c2c7b644cfaf607f134e6017ab578832b9c8c2755899e0aeae91aad"), looks := false }, kinds := [], alts := [], laidByText := true, laidKinds := [.data], laidTests := true, laidLooks := .later }
def RepoSpoiltUptoCardSaid : Prop := Claim7.holds Tryz.pinned (.plain (OpenSpec.upto repoSpoiltSpec)) repoSpoiltUptoCard
end Rows
end Go.Proofs.YtjbhhbnopnmcnaaGreatDoor
