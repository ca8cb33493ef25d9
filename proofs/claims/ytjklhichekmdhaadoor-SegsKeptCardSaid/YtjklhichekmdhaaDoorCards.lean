/-
  DERIVED. GIVEN WITH THE SEED: THE CARDS: each row of YtjklhichekmdhaaDoorRows.lean that lists a variable, with what it lists TIED to the program's text (the seventh form; the later family's looks); each row that meets fmt, with fmt's text TOLD by the authors' own Lean function (tested against real Go, not proved from fmt's source: count such statements apart). THE CARD IS WHAT COUNTS. Prove the row's statement (the work); the ties are given (YtjklhichekmdhaaDoorTie.lean); close each card by the builder's one call (the guide's Derived/Test/ToyasCard.lean, 'card_holds'). Laid BY PROGRAM, IN A SANDBOX (cutbox-door.mjs). By AI agents, Wed Nov 11 2026. No macro, syntax, notation, axiom, sorry.
-/
import Derived.Test.YtjklhichekmdhaaDoorRows
import GoSem.ClaimSeven
namespace Go.Proofs.YtjklhichekmdhaaDoor
namespace Rows

/-- THE TIED CARD OF 'hoardlaw14.SegsFull'. -/
def segsFullCard : Claim7 := { stood := { row := segsFullRow, standIns := [], harness := (true, "6498177a5efb1324f5ed83f2f949a3e7c8e5c0d93f38d204e081d032c646de08"), looks := false }, kinds := [], alts := [], laidByText := true, laidKinds := [.data], laidTests := true, laidLooks := .later }
def SegsFullCardSaid : Prop := Claim7.holds Tryd.pinned (.plain (OpenSpec.ofChange segsFullSpec)) segsFullCard

/-- THE TIED CARD OF 'hoardlaw14.SegsWhole'. -/
def segsWholeCard : Claim7 := { stood := { row := segsWholeRow, standIns := [], harness := (true, "6498177a5efb1324f5ed83f2f949a3e7c8e5c0d93f38d204e081d032c646de08"), looks := false }, kinds := [], alts := [], laidByText := true, laidKinds := [.data], laidTests := true, laidLooks := .later }
def SegsWholeCardSaid : Prop := Claim7.holds Tryd.pinned (.plain (OpenSpec.ofChange segsWholeSpec)) segsWholeCard

/-- THE TIED CARD OF 'hoardlaw14.SegsKept'. -/
def segsKeptCard : Claim7 := { stood := { row := segsKeptRow, standIns := [], harness := (true, "6498177a5efb1324f5ed83f2f949a3e7c8e5c0d93f38d204e081d032c646de08"), looks := false }, kinds := [], alts := [], laidByText := true, laidKinds := [.data], laidTests := true, laidLooks := .later }
def SegsKeptCardSaid : Prop := Claim7.holds Tryd.pinned (.plain (OpenSpec.ofChange segsKeptSpec)) segsKeptCard

/-- THE SECOND FORM's CARD OF 'hoardlaw14.SegsFull'. -/
def segsFullUptoCard : Claim7 := { stood := { row := segsFullUptoRow, standIns := [], harness := (true, "6498177a5efb1324f5ed83f2f949a3e7c8e5c0d93f38d204e081d032c646de08"), looks := false }, kinds := [], alts := [], laidByText := true, laidKinds := [.data], laidTests := true, laidLooks := .later }
def SegsFullUptoCardSaid : Prop := Claim7.holds Tryd.pinned (.plain (OpenSpec.upto segsFullSpec)) segsFullUptoCard

/-- THE SECOND FORM's CARD OF 'hoardlaw14.SegsWhole'. -/
def segsWholeUptoCard : Claim7 := { stood := { row := segsWholeUptoRow, standIns := [], harness := (true, "6498177a5efb1324f5ed83f2f949a3e7c8e5c0d93f38d204e081d032c646de08"), looks := false }, kinds := [], alts := [], laidByText := true, laidKinds := [.data], laidTests := true, laidLooks := .later }
def SegsWholeUptoCardSaid : Prop := Claim7.holds Tryd.pinned (.plain (OpenSpec.upto segsWholeSpec)) segsWholeUptoCard

/-- THE SECOND FORM's CARD OF 'hoardlaw14.SegsKept'. -/
def segsKeptUptoCard : Claim7 := { stood := { row := segsKeptUptoRow, standIns := [], harness := (true, "6498177a5efb1324f5ed83f2f949a3e7c8e5c0d93f38d204e081d032c646de08"), looks := false }, kinds := [], alts := [], laidByText := true, laidKinds := [.data], laidTests := true, laidLooks := .later }
def SegsKeptUptoCardSaid : Prop := Claim7.holds Tryd.pinned (.plain (OpenSpec.upto segsKeptSpec)) segsKeptUptoCard
end Rows
end Go.Proofs.YtjklhichekmdhaaDoor
