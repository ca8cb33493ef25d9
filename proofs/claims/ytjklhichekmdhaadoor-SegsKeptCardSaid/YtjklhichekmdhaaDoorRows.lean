/-
  NARROWER THAN 'FOR EVERY INPUT', by the rows' own cells (each row's printed sentence says how): SegsFull: laid · SegsWhole: laid · SegsKept: laid.
  DERIVED. THE GIVEN ROWS OF THIS SEAT. 3 by the template 'for every input the law returns true; each argument reads behind the call as it read before'; 0 by the template 'total and deterministic' (their statements: YtjklhichekmdhaaDoorTotals.lean).
  GIVEN WITH THE SEED: the statements are not yours to turn. If you find one false, say at which input.
  Laid BY PROGRAM, IN A SANDBOX (cutbox-rows.mjs): the forced cells as the released guide's own fill.sh prints them over the translation 98c537e74e6359a0… (all of the seat's roots in one cut). By AI agents, Wed Nov 11 2026. No macro, syntax, notation, axiom, sorry.
-/
import Derived.Test.YtjklhichekmdhaaDoorChecked
import GoSem.Claim
import GoSem.ClaimJoined
import GoSem.ClaimMapViews
import Derived.JoinedTies
import Derived.KernelRfl
namespace Go.Proofs.YtjklhichekmdhaaDoor
/- THE CELL 'sum', in the pinned program and in every row, IS THE sha256 OF THE DUMP (.gsa) THAT YtjklhichekmdhaaDoorProg.lean LOADS. Nothing in Lean hashes anything: it is a label: what it is worth is what the hold of that sum in a sandbox is worth. -/
noncomputable def Tryd.pinned : Pinned := { name := "ytjklhichekmdhaadoor", sum := "98c537e74e6359a0f301f00aa8d3d1174dd2a15aad76365ef69e4b89b2d4cfe7", checked := Tryd.checked }
namespace Rows
def none {H : Type} : Left H := { results := [], args := [] }

/- WHAT THE LISTED PACKAGE-LEVEL VARIABLES READ AS WHEN THE CALL BEGINS. Each datum BY PROGRAM (the guide's laid-datum.mjs) off the statement by which the dump's own 'gosem.cut.vars' lays the variable. In a bare row this is a premise. The card (YtjklhichekmdhaaDoorCards.lean) ties it to the program's text. -/
def laid_hoard_crc_half {H : Type} : DataW H := .agg [.lit (.int .u32 0), .lit (.int .u32 498536548), .lit (.int .u32 997073096), .lit (.int .u32 651767980), .lit (.int .u32 1994146192), .lit (.int .u32 1802195444), .lit (.int .u32 1303535960), .lit (.int .u32 1342533948), .lit (.int .u32 3988292384), .lit (.int .u32 4027552580), .lit (.int .u32 3604390888), .lit (.int .u32 3412177804), .lit (.int .u32 2607071920), .lit (.int .u32 2262029012), .lit (.int .u32 2685067896), .lit (.int .u32 3183342108)]

/-- 'hoardlaw14.SegsFull': WHATEVER THE INPUT: true; the input reads as it did. -/
def segsFullSpec : ChangeSpec := { name := "segsFull", fn := fun _ => fun
  | [d1, d2, d3, d4] => { results := [.lit (.bool true)], args := [d1, d2, d3, d4] }
  | _ => none }
def segsFullRow : OpenClaim := { program := "ytjklhichekmdhaadoor", sum := "98c537e74e6359a0f301f00aa8d3d1174dd2a15aad76365ef69e4b89b2d4cfe7", func := "hoard/hoardlaw14.SegsFull", spec := "segsFull", unfollowed := true, recurses := true, named := ["hoard/crc.half"], apart := false, laid := [("hoard/crc.half", laid_hoard_crc_half)] }
def SegsFullSaid : Prop := segsFullRow.holds Tryd.pinned (OpenSpec.ofChange segsFullSpec)

/-- ITS FALSE NEIGHBOUR: 'it returns false'. Refute it at one input. -/
def segsFullWrong : ChangeSpec := { name := "segsFull", fn := fun _ => fun
  | [d1, d2, d3, d4] => { results := [.lit (.bool false)], args := [d1, d2, d3, d4] }
  | _ => none }
def SegsFullWrongFalsely : Prop := segsFullRow.holds Tryd.pinned (OpenSpec.ofChange segsFullWrong)

/-- 'hoardlaw14.SegsWhole': WHATEVER THE INPUT: true; the input reads as it did. -/
def segsWholeSpec : ChangeSpec := { name := "segsWhole", fn := fun _ => fun
  | [d1, d2] => { results := [.lit (.bool true)], args := [d1, d2] }
  | _ => none }
def segsWholeRow : OpenClaim := { program := "ytjklhichekmdhaadoor", sum := "98c537e74e6359a0f301f00aa8d3d1174dd2a15aad76365ef69e4b89b2d4cfe7", func := "hoard/hoardlaw14.SegsWhole", spec := "segsWhole", unfollowed := true, recurses := true, named := ["hoard/crc.half"], apart := false, laid := [("hoard/crc.half", laid_hoard_crc_half)] }
def SegsWholeSaid : Prop := segsWholeRow.holds Tryd.pinned (OpenSpec.ofChange segsWholeSpec)

/-- ITS FALSE NEIGHBOUR: 'it returns false'. Refute it at one input. -/
def segsWholeWrong : ChangeSpec := { name := "segsWhole", fn := fun _ => fun
  | [d1, d2] => { results := [.lit (.bool false)], args := [d1, d2] }
  | _ => none }
def SegsWholeWrongFalsely : Prop := segsWholeRow.holds Tryd.pinned (OpenSpec.ofChange segsWholeWrong)

/-- 'hoardlaw14.SegsKept': WHATEVER THE INPUT: true; the input reads as it did. -/
def segsKeptSpec : ChangeSpec := { name := "segsKept", fn := fun _ => fun
  | [d1, d2] => { results := [.lit (.bool true)], args := [d1, d2] }
  | _ => none }
def segsKeptRow : OpenClaim := { program := "ytjklhichekmdhaadoor", sum := "98c537e74e6359a0f301f00aa8d3d1174dd2a15aad76365ef69e4b89b2d4cfe7", func := "hoard/hoardlaw14.SegsKept", spec := "segsKept", unfollowed := true, recurses := true, named := ["hoard/crc.half"], apart := false, laid := [("hoard/crc.half", laid_hoard_crc_half)] }
def SegsKeptSaid : Prop := segsKeptRow.holds Tryd.pinned (OpenSpec.ofChange segsKeptSpec)

/-- ITS FALSE NEIGHBOUR: 'it returns false'. Refute it at one input. -/
def segsKeptWrong : ChangeSpec := { name := "segsKept", fn := fun _ => fun
  | [d1, d2] => { results := [.lit (.bool false)], args := [d1, d2] }
  | _ => none }
def SegsKeptWrongFalsely : Prop := segsKeptRow.holds Tryd.pinned (OpenSpec.ofChange segsKeptWrong)

/- THE SECOND FORM. 'bulk': how many values and letters a reading holds, each counted each time it is reached (what is shared counts as often as it is met; a slice's spare places count too). A statement '..UptoSaid' is the law's where the arguments, and the package variables that the reading takes, are together of bulk at most 1048576: NARROWER than '..Said'. Prove '..Said' where nothing that the law and all that it calls make is longer than what came in: it says more and counts as full. Else prove '..UptoSaid'. A law counts once. -/
mutual
def uptoBulk {H : Type} : DataW H → Nat
  | .lit (.string bytes) => bytes.length + 1
  | .lit _ => 1
  | .nil => 1
  | .ptr d => uptoBulk d + 1
  | .slice elems spare => uptoBulkAll elems + uptoBulkAll spare + 1
  | .agg parts => uptoBulkAll parts + 1
  | .iface _ d => uptoBulk d + 1
  | .map entries => uptoBulkEntries entries + 1
  | .held _ => 1
def uptoBulkAll {H : Type} : List (DataW H) → Nat
  | [] => 0
  | d :: r => uptoBulk d + uptoBulkAll r
def uptoBulkEntries {H : Type} : List (Lit × DataW H) → Nat
  | [] => 0
  | x :: r => uptoBulkEntry x + uptoBulkEntries r
def uptoBulkEntry {H : Type} : Lit × DataW H → Nat
  | (.string bytes, d) => bytes.length + uptoBulk d + 1
  | (_, d) => uptoBulk d + 1
 end
def uptoSmall : (H : Type) → List (DataW H) → Bool := fun _ ds => decide (uptoBulkAll ds ≤ 1048576)
def OpenSpec.upto (s : _root_.Go.ChangeSpec) : _root_.Go.OpenSpec := { _root_.Go.OpenSpec.ofChange s with cond := some uptoSmall }

/-- 'hoardlaw14.SegsFull', WHERE WHAT IT READS IS OF BULK AT MOST 1048576: true; the input reads as it did. -/
def segsFullUptoRow : OpenClaim := { program := "ytjklhichekmdhaadoor", sum := "98c537e74e6359a0f301f00aa8d3d1174dd2a15aad76365ef69e4b89b2d4cfe7", func := "hoard/hoardlaw14.SegsFull", spec := "segsFull", unfollowed := true, recurses := true, named := ["hoard/crc.half"], apart := false, laid := [("hoard/crc.half", laid_hoard_crc_half)], narrowed := true }
def SegsFullUptoSaid : Prop := segsFullUptoRow.holds Tryd.pinned (OpenSpec.upto segsFullSpec)

/-- 'hoardlaw14.SegsWhole', WHERE WHAT IT READS IS OF BULK AT MOST 1048576: true; the input reads as it did. -/
def segsWholeUptoRow : OpenClaim := { program := "ytjklhichekmdhaadoor", sum := "98c537e74e6359a0f301f00aa8d3d1174dd2a15aad76365ef69e4b89b2d4cfe7", func := "hoard/hoardlaw14.SegsWhole", spec := "segsWhole", unfollowed := true, recurses := true, named := ["hoard/crc.half"], apart := false, laid := [("hoard/crc.half", laid_hoard_crc_half)], narrowed := true }
def SegsWholeUptoSaid : Prop := segsWholeUptoRow.holds Tryd.pinned (OpenSpec.upto segsWholeSpec)

/-- 'hoardlaw14.SegsKept', WHERE WHAT IT READS IS OF BULK AT MOST 1048576: true; the input reads as it did. -/
def segsKeptUptoRow : OpenClaim := { program := "ytjklhichekmdhaadoor", sum := "98c537e74e6359a0f301f00aa8d3d1174dd2a15aad76365ef69e4b89b2d4cfe7", func := "hoard/hoardlaw14.SegsKept", spec := "segsKept", unfollowed := true, recurses := true, named := ["hoard/crc.half"], apart := false, laid := [("hoard/crc.half", laid_hoard_crc_half)], narrowed := true }
def SegsKeptUptoSaid : Prop := segsKeptUptoRow.holds Tryd.pinned (OpenSpec.upto segsKeptSpec)

end Rows
end Go.Proofs.YtjklhichekmdhaaDoor
