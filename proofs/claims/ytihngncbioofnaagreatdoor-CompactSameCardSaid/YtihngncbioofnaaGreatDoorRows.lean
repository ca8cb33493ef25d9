/-
  NARROWER THAN 'FOR EVERY INPUT', by the rows' own cells (each row's printed sentence says how): CompactClean: laid · CompactSame: laid · CompactFull: laid · CompactKept: laid.
  DERIVED. THE GIVEN ROWS OF THIS SEAT. 4 by the template 'for every input the law returns true; each argument reads behind the call as it read before'; 0 by the template 'total and deterministic' (their statements: YtihngncbioofnaaGreatDoorTotals.lean).
  GIVEN WITH THE SEED: the statements are not yours to turn. If you find one false, say at which input.
  Laid BY PROGRAM, IN A SANDBOX (cutbox-rows.mjs): the forced cells as the released guide's own fill.sh prints them over the translation 5c6ec351b39d86dd… (all of the seat's roots in one cut). By AI agents, Wed Nov 11 2026. No macro, syntax, notation, axiom, sorry.
-/
import Derived.Test.YtihngncbioofnaaGreatDoorChecked
import GoSem.Claim
import GoSem.ClaimJoined
import GoSem.ClaimMapViews
import Derived.JoinedTies
import Derived.KernelRfl
namespace Go.Proofs.YtihngncbioofnaaGreatDoor
/- THE CELL 'sum', in the pinned program and in every row, IS THE sha256 OF THE DUMP (.gsa) THAT YtihngncbioofnaaGreatDoorProg.lean LOADS. Nothing in Lean hashes anything: it is a label: what it is worth is what the hold of that sum in a sandbox is worth. -/
noncomputable def Tryz.pinned : Pinned := { name := "ytihngncbioofnaagreatdoor", sum := "5c6ec351b39d86dd9c0ec6dc5fc2bc9cba7eb000d8cee06c79b9d6e18deb0214", checked := Tryz.checked }
namespace Rows
def none {H : Type} : Left H := { results := [], args := [] }

/- WHAT THE LISTED PACKAGE-LEVEL VARIABLES READ AS WHEN THE CALL BEGINS. Each datum BY PROGRAM (the guide's laid-datum.mjs) off the statement by which the dump's own 'gosem.cut.vars' lays the variable. In a bare row this is a premise. The card (YtihngncbioofnaaGreatDoorCards.lean) ties it to the program's text. -/
def laid_hoard_crc_half {H : Type} : DataW H := .agg [.lit (.int .u32 0), .lit (.int .u32 498536548), .lit (.int .u32 997073096), .lit (.int .u32 651767980), .lit (.int .u32 1994146192), .lit (.int .u32 1802195444), .lit (.int .u32 1303535960), .lit (.int .u32 1342533948), .lit (.int .u32 3988292384), .lit (.int .u32 4027552580), .lit (.int .u32 3604390888), .lit (.int .u32 3412177804), .lit (.int .u32 2607071920), .lit (.int .u32 2262029012), .lit (.int .u32 2685067896), .lit (.int .u32 3183342108)]

/-- 'hoardlaw18.CompactClean': WHATEVER THE INPUT: true; the input reads as it did. -/
def compactCleanSpec : ChangeSpec := { name := "compactClean", fn := fun _ => fun
  | [d1, d2, d3] => { results := [.lit (.bool true)], args := [d1, d2, d3] }
  | _ => none }
def compactCleanRow : OpenClaim := { program := "ytihngncbioofnaagreatdoor", sum := "5c6ec351b39d86dd9c0ec6dc5fc2bc9cba7eb000d8cee06c79b9d6e18deb0214", func := "hoard/hoardlaw18.CompactClean", spec := "compactClean", inPlace := ["internal/bytealg.Compare"], unfollowed := true, recurses := true, named := ["hoard/crc.half"], apart := false, laid := [("hoard/crc.half", laid_hoard_crc_half)] }
def CompactCleanSaid : Prop := compactCleanRow.holds Tryz.pinned (OpenSpec.ofChange compactCleanSpec)

/-- ITS FALSE NEIGHBOUR: 'it returns false'. Refute it at one input. -/
def compactCleanWrong : ChangeSpec := { name := "compactClean", fn := fun _ => fun
  | [d1, d2, d3] => { results := [.lit (.bool false)], args := [d1, d2, d3] }
  | _ => none }
def CompactCleanWrongFalsely : Prop := compactCleanRow.holds Tryz.pinned (OpenSpec.ofChange compactCleanWrong)

/-- 'hoardlaw18.CompactSame': WHATEVER THE INPUT: true; the input reads as it did. -/
def compactSameSpec : ChangeSpec := { name := "compactSame", fn := fun _ => fun
  | [d1, d2, d3, d4, d5] => { results := [.lit (.bool true)], args := [d1, d2, d3, d4, d5] }
  | _ => none }
def compactSameRow : OpenClaim := { program := "ytihngncbioofnaagreatdoor", sum := "5c6ec351b39d86dd9c0ec6dc5fc2bc9cba7eb000d8cee06c79b9d6e18deb0214", func := "hoard/hoardlaw18.CompactSame", spec := "compactSame", inPlace := ["internal/bytealg.Compare"], unfollowed := true, recurses := true, named := ["hoard/crc.half"], apart := false, laid := [("hoard/crc.half", laid_hoard_crc_half)] }
def CompactSameSaid : Prop := compactSameRow.holds Tryz.pinned (OpenSpec.ofChange compactSameSpec)

/-- ITS FALSE NEIGHBOUR: 'it returns false'. Refute it at one input. -/
def compactSameWrong : ChangeSpec := { name := "compactSame", fn := fun _ => fun
  | [d1, d2, d3, d4, d5] => { results := [.lit (.bool false)], args := [d1, d2, d3, d4, d5] }
  | _ => none }
def CompactSameWrongFalsely : Prop := compactSameRow.holds Tryz.pinned (OpenSpec.ofChange compactSameWrong)

/-- 'hoardlaw18.CompactFull': WHATEVER THE INPUT: true; the input reads as it did. -/
def compactFullSpec : ChangeSpec := { name := "compactFull", fn := fun _ => fun
  | [d1, d2, d3, d4] => { results := [.lit (.bool true)], args := [d1, d2, d3, d4] }
  | _ => none }
def compactFullRow : OpenClaim := { program := "ytihngncbioofnaagreatdoor", sum := "5c6ec351b39d86dd9c0ec6dc5fc2bc9cba7eb000d8cee06c79b9d6e18deb0214", func := "hoard/hoardlaw18.CompactFull", spec := "compactFull", inPlace := ["internal/bytealg.Compare"], unfollowed := true, recurses := true, named := ["hoard/crc.half"], apart := false, laid := [("hoard/crc.half", laid_hoard_crc_half)] }
def CompactFullSaid : Prop := compactFullRow.holds Tryz.pinned (OpenSpec.ofChange compactFullSpec)

/-- ITS FALSE NEIGHBOUR: 'it returns false'. Refute it at one input. -/
def compactFullWrong : ChangeSpec := { name := "compactFull", fn := fun _ => fun
  | [d1, d2, d3, d4] => { results := [.lit (.bool false)], args := [d1, d2, d3, d4] }
  | _ => none }
def CompactFullWrongFalsely : Prop := compactFullRow.holds Tryz.pinned (OpenSpec.ofChange compactFullWrong)

/-- 'hoardlaw18.CompactKept': WHATEVER THE INPUT: true; the input reads as it did. -/
def compactKeptSpec : ChangeSpec := { name := "compactKept", fn := fun _ => fun
  | [d1, d2, d3, d4, d5, d6] => { results := [.lit (.bool true)], args := [d1, d2, d3, d4, d5, d6] }
  | _ => none }
def compactKeptRow : OpenClaim := { program := "ytihngncbioofnaagreatdoor", sum := "5c6ec351b39d86dd9c0ec6dc5fc2bc9cba7eb000d8cee06c79b9d6e18deb0214", func := "hoard/hoardlaw18.CompactKept", spec := "compactKept", inPlace := ["internal/bytealg.Compare"], unfollowed := true, recurses := true, named := ["hoard/crc.half"], apart := false, laid := [("hoard/crc.half", laid_hoard_crc_half)] }
def CompactKeptSaid : Prop := compactKeptRow.holds Tryz.pinned (OpenSpec.ofChange compactKeptSpec)

/-- ITS FALSE NEIGHBOUR: 'it returns false'. Refute it at one input. -/
def compactKeptWrong : ChangeSpec := { name := "compactKept", fn := fun _ => fun
  | [d1, d2, d3, d4, d5, d6] => { results := [.lit (.bool false)], args := [d1, d2, d3, d4, d5, d6] }
  | _ => none }
def CompactKeptWrongFalsely : Prop := compactKeptRow.holds Tryz.pinned (OpenSpec.ofChange compactKeptWrong)

/- THE SECOND FORM. 'bulk': how many values and letters a reading holds, each counted each time it is reached (what is shared counts as often as it is met; a slice's spare places count too). A statement '..UptoSaid' is the law's where the arguments, and the package variables that the reading takes, are together of bulk at most 1048576: NARROWER than '..Said'. Prove '..Said' where nothing that the law and all that it calls make is longer than what came in: it says more and counts as full. Else prove '..UptoSaid'. A law counts once. -/
mutual
def uptoBulk {H : Type} : DataW H → Nat
  | .lit (.string bytes) => bytes.length + 1
  | .lit _ => 1
  | .nil => 1
  | .ptr d => uptoBulk d + 1
  | .slice elems spare => uptoBulkAll elems + uptoBulkAll spare + 1
  | .agg parts => uptoBulkAll parts + 1
  | .iface _ d => uptoBulk d + 1
  | .map entries => uptoBulkEntries entries + 1
  | .held _ => 1
def uptoBulkAll {H : Type} : List (DataW H) → Nat
  | [] => 0
  | d :: r => uptoBulk d + uptoBulkAll r
def uptoBulkEntries {H : Type} : List (Lit × DataW H) → Nat
  | [] => 0
  | x :: r => uptoBulkEntry x + uptoBulkEntries r
def uptoBulkEntry {H : Type} : Lit × DataW H → Nat
  | (.string bytes, d) => bytes.length + uptoBulk d + 1
  | (_, d) => uptoBulk d + 1
 end
def uptoSmall : (H : Type) → List (DataW H) → Bool := fun _ ds => decide (uptoBulkAll ds ≤ 1048576)
def OpenSpec.upto (s : _root_.Go.ChangeSpec) : _root_.Go.OpenSpec := { _root_.Go.OpenSpec.ofChange s with cond := some uptoSmall }

/-- 'hoardlaw18.CompactClean', WHERE WHAT IT READS IS OF BULK AT MOST 1048576: true; the input reads as it did. -/
def compactCleanUptoRow : OpenClaim := { program := "ytihngncbioofnaagreatdoor", sum := "5c6ec351b39d86dd9c0ec6dc5fc2bc9cba7eb000d8cee06c79b9d6e18deb0214", func := "hoard/hoardlaw18.CompactClean", spec := "compactClean", inPlace := ["internal/bytealg.Compare"], unfollowed := true, recurses := true, named := ["hoard/crc.half"], apart := false, laid := [("hoard/crc.half", laid_hoard_crc_half)], narrowed := true }
def CompactCleanUptoSaid : Prop := compactCleanUptoRow.holds Tryz.pinned (OpenSpec.upto compactCleanSpec)

/-- 'hoardlaw18.CompactSame', WHERE WHAT IT READS IS OF BULK AT MOST 1048576: true; the input reads as it did. -/
def compactSameUptoRow : OpenClaim := { program := "ytihngncbioofnaagreatdoor", sum := "5c6ec351b39d86dd9c0ec6dc5fc2bc9cba7eb000d8cee06c79b9d6e18deb0214", func := "hoard/hoardlaw18.CompactSame", spec := "compactSame", inPlace := ["internal/bytealg.Compare"], unfollowed := true, recurses := true, named := ["hoard/crc.half"], apart := false, laid := [("hoard/crc.half", laid_hoard_crc_half)], narrowed := true }
def CompactSameUptoSaid : Prop := compactSameUptoRow.holds Tryz.pinned (OpenSpec.upto compactSameSpec)

/-- 'hoardlaw18.CompactFull', WHERE WHAT IT READS IS OF BULK AT MOST 1048576: true; the input reads as it did. -/
def compactFullUptoRow : OpenClaim := { program := "ytihngncbioofnaagreatdoor", sum := "5c6ec351b39d86dd9c0ec6dc5fc2bc9cba7eb000d8cee06c79b9d6e18deb0214", func := "hoard/hoardlaw18.CompactFull", spec := "compactFull", inPlace := ["internal/bytealg.Compare"], unfollowed := true, recurses := true, named := ["hoard/crc.half"], apart := false, laid := [("hoard/crc.half", laid_hoard_crc_half)], narrowed := true }
def CompactFullUptoSaid : Prop := compactFullUptoRow.holds Tryz.pinned (OpenSpec.upto compactFullSpec)

/-- 'hoardlaw18.CompactKept', WHERE WHAT IT READS IS OF BULK AT MOST 1048576: true; the input reads as it did. -/
def compactKeptUptoRow : OpenClaim := { program := "ytihngncbioofnaagreatdoor", sum := "5c6ec351b39d86dd9c0ec6dc5fc2bc9cba7eb000d8cee06c79b9d6e18deb0214", func := "hoard/hoardlaw18.CompactKept", spec := "compactKept", inPlace := ["internal/bytealg.Compare"], unfollowed := true, recurses := true, named := ["hoard/crc.half"], apart := false, laid := [("hoard/crc.half", laid_hoard_crc_half)], narrowed := true }
def CompactKeptUptoSaid : Prop := compactKeptUptoRow.holds Tryz.pinned (OpenSpec.upto compactKeptSpec)

end Rows
end Go.Proofs.YtihngncbioofnaaGreatDoor
