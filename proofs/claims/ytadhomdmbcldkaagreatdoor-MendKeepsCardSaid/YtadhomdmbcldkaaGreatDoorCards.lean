/-
  DERIVED. GIVEN WITH THE SEED: THE CARDS: each row of YtadhomdmbcldkaaGreatDoorRows.lean that lists a variable, with what it lists TIED to the program's text (the seventh form; the later family's looks); each row that meets fmt, with fmt's text TOLD by the authors' own Lean function (tested against real Go, not proved from fmt's source: count such statements apart). THE CARD IS WHAT COUNTS. Prove the row's statement (the work); the ties are given (YtadhomdmbcldkaaGreatDoorTie.lean); close each card by the builder's one call (the guide's Derived/Test/ToyasCard.lean, 'card_holds'). Laid BY PROGRAM, IN A SANDBOX (cutbox-door.mjs). By AI agents, Wed Nov 11 2026. No macro, syntax, notation, axiom, sorry.
-/
import Derived.Test.YtadhomdmbcldkaaGreatDoorRows
import GoSem.ClaimSeven
namespace Go.Proofs.YtadhomdmbcldkaaGreatDoor
namespace Rows

/-- THE TIED CARD OF 'hoardlaw19.MendClean'. -/
def mendCleanCard : Claim7 := { stood := { row := mendCleanRow, standIns := [], harness := (true, "fe7cba617c9127ad897bbe58dda24cb39e9059dd762ecdd98420db157e525fbd"), looks := false }, kinds := [], alts := [], laidByText := true, laidKinds := [.data], laidTests := true, laidLooks := .later }
def MendCleanCardSaid : Prop := Claim7.holds Tryz.pinned (.plain (OpenSpec.ofChange mendCleanSpec)) mendCleanCard

/-- THE TIED CARD OF 'hoardlaw19.MendTwice'. -/
def mendTwiceCard : Claim7 := { stood := { row := mendTwiceRow, standIns := [], harness := (true, "fe7cba617c9127ad897bbe58dda24cb39e9059dd762ecdd98420db157e525fbd"), looks := false }, kinds := [], alts := [], laidByText := true, laidKinds := [.data], laidTests := true, laidLooks := .later }
def MendTwiceCardSaid : Prop := Claim7.holds Tryz.pinned (.plain (OpenSpec.ofChange mendTwiceSpec)) mendTwiceCard

/-- THE TIED CARD OF 'hoardlaw19.MendKeeps'. -/
def mendKeepsCard : Claim7 := { stood := { row := mendKeepsRow, standIns := [], harness := (true, "fe7cba617c9127ad897bbe58dda24cb39e9059dd762ecdd98420db157e525fbd"), looks := false }, kinds := [], alts := [], laidByText := true, laidKinds := [.data], laidTests := true, laidLooks := .later }
def MendKeepsCardSaid : Prop := Claim7.holds Tryz.pinned (.plain (OpenSpec.ofChange mendKeepsSpec)) mendKeepsCard

/-- THE SECOND FORM's CARD OF 'hoardlaw19.MendClean'. -/
def mendCleanUptoCard : Claim7 := { stood := { row := mendCleanUptoRow, standIns := [], harness := (true, "fe7cba617c9127ad897bbe58dda24cb39e9059dd762ecdd98420db157e525fbd"), looks := false }, kinds := [], alts := [], laidByText := true, laidKinds := [.data], laidTests := true, laidLooks := .later }
def MendCleanUptoCardSaid : Prop := Claim7.holds Tryz.pinned (.plain (OpenSpec.upto mendCleanSpec)) mendCleanUptoCard

/-- THE SECOND FORM's CARD OF 'hoardlaw19.MendTwice'. -/
def mendTwiceUptoCard : Claim7 := { stood := { row := mendTwiceUptoRow, standIns := [], harness := (true, "fe7cba617c9127ad897bbe58dda24cb39e9059dd762ecdd98420db157e525fbd"), looks := false }, kinds := [], alts := [], laidByText := true, laidKinds := [.data], laidTests := true, laidLooks := .later }
def MendTwiceUptoCardSaid : Prop := Claim7.holds Tryz.pinned (.plain (OpenSpec.upto mendTwiceSpec)) mendTwiceUptoCard

/-- THE SECOND FORM's CARD OF 'hoardlaw19.MendKeeps'. -/
def mendKeepsUptoCard : Claim7 := { stood := { row := mendKeepsUptoRow, standIns := [], harness := (true, "fe7cba617c9127ad897bbe58dda24cb39e9059dd762ecdd98420db157e525fbd"), looks := false }, kinds := [], alts := [], laidByText := true, laidKinds := [.data], laidTests := true, laidLooks := .later }
def MendKeepsUptoCardSaid : Prop := Claim7.holds Tryz.pinned (.plain (OpenSpec.upto mendKeepsSpec)) mendKeepsUptoCard
end Rows
end Go.Proofs.YtadhomdmbcldkaaGreatDoor
