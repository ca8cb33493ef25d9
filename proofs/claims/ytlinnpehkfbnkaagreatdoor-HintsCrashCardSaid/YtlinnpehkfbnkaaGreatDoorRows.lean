/-
  NARROWER THAN 'FOR EVERY INPUT', by the rows' own cells (each row's printed sentence says how): HintsStale: laid · HintsBack: laid · HintsCrash: laid · RepoNobody: laid · MendRefuses: laid.
  DERIVED. THE GIVEN ROWS OF THIS SEAT. 5 by the template 'for every input the law returns true; each argument reads behind the call as it read before'; 0 by the template 'total and deterministic' (their statements: YtlinnpehkfbnkaaGreatDoorTotals.lean).
  GIVEN WITH THE SEED: the statements are not yours to turn. If you find one false, say at which input.
  Laid BY PROGRAM, IN A SANDBOX (cutbox-rows.mjs): the forced cells as the released guide's own fill.sh prints them over the translation d062df1a2c6fceb4… (all of the seat's roots in one cut). By AI agents, Wed Nov 11 2026. No macro, syntax, notation, axiom, sorry.
-/
import Derived.Test.YtlinnpehkfbnkaaGreatDoorChecked
import GoSem.Claim
import GoSem.ClaimJoined
import GoSem.ClaimMapViews
import Derived.JoinedTies
import Derived.KernelRfl
namespace Go.Proofs.YtlinnpehkfbnkaaGreatDoor
/- THE CELL 'sum', in the pinned program and in every row, IS THE sha256 OF THE DUMP (.gsa) THAT YtlinnpehkfbnkaaGreatDoorProg.lean LOADS. Nothing in Lean hashes anything: it is a label: what it is worth is what the hold of that sum in a sandbox is worth. -/
noncomputable def Tryz.pinned : Pinned := { name := "ytlinnpehkfbnkaagreatdoor", sum := "d062df1a2c6fceb480be29e9dfb5728f279228808f2a177ddbc365c50f92d447", checked := Tryz.checked }
namespace Rows
def none {H : Type} : Left H := { results := [], args := [] }

/- WHAT THE LISTED PACKAGE-LEVEL VARIABLES READ AS WHEN THE CALL BEGINS. Each datum BY PROGRAM (the guide's laid-datum.mjs) off the statement by which the dump's own 'gosem.cut.vars' lays the variable. In a bare row this is a premise. The card (YtlinnpehkfbnkaaGreatDoorCards.lean) ties it to the program's text. -/
def laid_hoard_crc_half {H : Type} : DataW H := .agg [.lit (.int .u32 0), .lit (.int .u32 498536548), .lit (.int .u32 997073096), .lit (.int .u32 651767980), .lit (.int .u32 1994146192), .lit (.int .u32 1802195444), .lit (.int .u32 1303535960), .lit (.int .u32 1342533948), .lit (.int .u32 3988292384), .lit (.int .u32 4027552580), .lit (.int .u32 3604390888), .lit (.int .u32 3412177804), .lit (.int .u32 2607071920), .lit (.int .u32 2262029012), .lit (.int .u32 2685067896), .lit (.int .u32 3183342108)]

/-- 'hoardlaw16.HintsStale': WHATEVER THE INPUT: true; the input reads as it did. -/
def hintsStaleSpec : ChangeSpec := { name := "hintsStale", fn := fun _ => fun
  | [d1, d2, d3, d4, d5] => { results := [.lit (.bool true)], args := [d1, d2, d3, d4, d5] }
  | _ => none }
def hintsStaleRow : OpenClaim := { program := "ytlinnpehkfbnkaagreatdoor", sum := "d062df1a2c6fceb480be29e9dfb5728f279228808f2a177ddbc365c50f92d447", func := "hoard/hoardlaw16.HintsStale", spec := "hintsStale", inPlace := ["internal/bytealg.Compare"], unfollowed := true, recurses := true, named := ["hoard/crc.half"], apart := false, laid := [("hoard/crc.half", laid_hoard_crc_half)] }
def HintsStaleSaid : Prop := hintsStaleRow.holds Tryz.pinned (OpenSpec.ofChange hintsStaleSpec)

/-- ITS FALSE NEIGHBOUR: 'it returns false'. Refute it at one input. -/
def hintsStaleWrong : ChangeSpec := { name := "hintsStale", fn := fun _ => fun
  | [d1, d2, d3, d4, d5] => { results := [.lit (.bool false)], args := [d1, d2, d3, d4, d5] }
  | _ => none }
def HintsStaleWrongFalsely : Prop := hintsStaleRow.holds Tryz.pinned (OpenSpec.ofChange hintsStaleWrong)

/-- 'hoardlaw16.HintsBack': WHATEVER THE INPUT: true; the input reads as it did. -/
def hintsBackSpec : ChangeSpec := { name := "hintsBack", fn := fun _ => fun
  | [d1, d2, d3, d4] => { results := [.lit (.bool true)], args := [d1, d2, d3, d4] }
  | _ => none }
def hintsBackRow : OpenClaim := { program := "ytlinnpehkfbnkaagreatdoor", sum := "d062df1a2c6fceb480be29e9dfb5728f279228808f2a177ddbc365c50f92d447", func := "hoard/hoardlaw16.HintsBack", spec := "hintsBack", inPlace := ["internal/bytealg.Compare"], unfollowed := true, recurses := true, named := ["hoard/crc.half"], apart := false, laid := [("hoard/crc.half", laid_hoard_crc_half)] }
def HintsBackSaid : Prop := hintsBackRow.holds Tryz.pinned (OpenSpec.ofChange hintsBackSpec)

/-- ITS FALSE NEIGHBOUR: 'it returns false'. Refute it at one input. -/
def hintsBackWrong : ChangeSpec := { name := "hintsBack", fn := fun _ => fun
  | [d1, d2, d3, d4] => { results := [.lit (.bool false)], args := [d1, d2, d3, d4] }
  | _ => none }
def HintsBackWrongFalsely : Prop := hintsBackRow.holds Tryz.pinned (OpenSpec.ofChange hintsBackWrong)

/-- 'hoardlaw16.HintsCrash': WHATEVER THE INPUT: true; the input reads as it did. -/
def hintsCrashSpec : ChangeSpec := { name := "hintsCrash", fn := fun _ => fun
  | [d1, d2, d3, d4, d5] => { results := [.lit (.bool true)], args := [d1, d2, d3, d4, d5] }
  | _ => none }
def hintsCrashRow : OpenClaim := { program := "ytlinnpehkfbnkaagreatdoor", sum := "d062df1a2c6fceb480be29e9dfb5728f279228808f2a177ddbc365c50f92d447", func := "hoard/hoardlaw16.HintsCrash", spec := "hintsCrash", inPlace := ["internal/bytealg.Compare"], unfollowed := true, recurses := true, named := ["hoard/crc.half"], apart := false, laid := [("hoard/crc.half", laid_hoard_crc_half)] }
def HintsCrashSaid : Prop := hintsCrashRow.holds Tryz.pinned (OpenSpec.ofChange hintsCrashSpec)

/-- ITS FALSE NEIGHBOUR: 'it returns false'. Refute it at one input. -/
def hintsCrashWrong : ChangeSpec := { name := "hintsCrash", fn := fun _ => fun
  | [d1, d2, d3, d4, d5] => { results := [.lit (.bool false)], args := [d1, d2, d3, d4, d5] }
  | _ => none }
def HintsCrashWrongFalsely : Prop := hintsCrashRow.holds Tryz.pinned (OpenSpec.ofChange hintsCrashWrong)

/-- 'hoardlaw17.RepoNobody': WHATEVER THE INPUT: true; the input reads as it did. -/
def repoNobodySpec : ChangeSpec := { name := "repoNobody", fn := fun _ => fun
  | [d1, d2] => { results := [.lit (.bool true)], args := [d1, d2] }
  | _ => none }
def repoNobodyRow : OpenClaim := { program := "ytlinnpehkfbnkaagreatdoor", sum := "d062df1a2c6fceb480be29e9dfb5728f279228808f2a177ddbc365c50f92d447", func := "hoard/hoardlaw17.RepoNobody", spec := "repoNobody", inPlace := ["internal/bytealg.Compare"], unfollowed := true, recurses := true, named := ["hoard/crc.half"], apart := false, laid := [("hoard/crc.half", laid_hoard_crc_half)] }
def RepoNobodySaid : Prop := repoNobodyRow.holds Tryz.pinned (OpenSpec.ofChange repoNobodySpec)

/-- ITS FALSE NEIGHBOUR: 'it returns false'. Refute it at one input. -/
def repoNobodyWrong : ChangeSpec := { name := "repoNobody", fn := fun _ => fun
  | [d1, d2] => { results := [.lit (.bool false)], args := [d1, d2] }
  | _ => none }
def RepoNobodyWrongFalsely : Prop := repoNobodyRow.holds Tryz.pinned (OpenSpec.ofChange repoNobodyWrong)

/-- 'hoardlaw19.MendRefuses': WHATEVER THE INPUT: true; the input reads as it did. -/
def mendRefusesSpec : ChangeSpec := { name := "mendRefuses", fn := fun _ => fun
  | [d] => { results := [.lit (.bool true)], args := [d] }
  | _ => none }
def mendRefusesRow : OpenClaim := { program := "ytlinnpehkfbnkaagreatdoor", sum := "d062df1a2c6fceb480be29e9dfb5728f279228808f2a177ddbc365c50f92d447", func := "hoard/hoardlaw19.MendRefuses", spec := "mendRefuses", inPlace := ["internal/bytealg.Compare"], unfollowed := true, recurses := true, named := ["hoard/crc.half"], apart := false, laid := [("hoard/crc.half", laid_hoard_crc_half)] }
def MendRefusesSaid : Prop := mendRefusesRow.holds Tryz.pinned (OpenSpec.ofChange mendRefusesSpec)

/-- ITS FALSE NEIGHBOUR: 'it returns false'. Refute it at one input. -/
def mendRefusesWrong : ChangeSpec := { name := "mendRefuses", fn := fun _ => fun
  | [d] => { results := [.lit (.bool false)], args := [d] }
  | _ => none }
def MendRefusesWrongFalsely : Prop := mendRefusesRow.holds Tryz.pinned (OpenSpec.ofChange mendRefusesWrong)

/- THE SECOND FORM. 'bulk': how many values and letters a reading holds, each counted each time it is reached (what is shared counts as often as it is met; a slice's spare places count too). A statement '..UptoSaid' is the law's where the arguments, and the package variables that the reading takes, are together of bulk at most 1048576: NARROWER than '..Said'. Prove '..Said' where nothing that the law and all that it calls make is longer than what came in: it says more and counts as full. Else prove '..UptoSaid'. A law counts once. -/
mutual
def uptoBulk {H : Type} : DataW H → Nat
  | .lit (.string bytes) => bytes.length + 1
  | .lit _ => 1
  | .nil => 1
  | .ptr d => uptoBulk d + 1
  | .slice elems spare => uptoBulkAll elems + uptoBulkAll spare + 1
  | .agg parts => uptoBulkAll parts + 1
  | .iface _ d => uptoBulk d + 1
  | .map entries => uptoBulkEntries entries + 1
  | .held _ => 1
def uptoBulkAll {H : Type} : List (DataW H) → Nat
  | [] => 0
  | d :: r => uptoBulk d + uptoBulkAll r
def uptoBulkEntries {H : Type} : List (Lit × DataW H) → Nat
  | [] => 0
  | x :: r => uptoBulkEntry x + uptoBulkEntries r
def uptoBulkEntry {H : Type} : Lit × DataW H → Nat
  | (.string bytes, d) => bytes.length + uptoBulk d + 1
  | (_, d) => uptoBulk d + 1
 end
def uptoSmall : (H : Type) → List (DataW H) → Bool := fun _ ds => decide (uptoBulkAll ds ≤ 1048576)
def OpenSpec.upto (s : _root_.Go.ChangeSpec) : _root_.Go.OpenSpec := { _root_.Go.OpenSpec.ofChange s with cond := some uptoSmall }

/-- 'hoardlaw16.HintsStale', WHERE WHAT IT READS IS OF BULK AT MOST 1048576: true; the input reads as it did. -/
def hintsStaleUptoRow : OpenClaim := { program := "ytlinnpehkfbnkaagreatdoor", sum := "d062df1a2c6fceb480be29e9dfb5728f279228808f2a177ddbc365c50f92d447", func := "hoard/hoardlaw16.HintsStale", spec := "hintsStale", inPlace := ["internal/bytealg.Compare"], unfollowed := true, recurses := true, named := ["hoard/crc.half"], apart := false, laid := [("hoard/crc.half", laid_hoard_crc_half)], narrowed := true }
def HintsStaleUptoSaid : Prop := hintsStaleUptoRow.holds Tryz.pinned (OpenSpec.upto hintsStaleSpec)

/-- 'hoardlaw16.HintsBack', WHERE WHAT IT READS IS OF BULK AT MOST 1048576: true; the input reads as it did. -/
def hintsBackUptoRow : OpenClaim := { program := "ytlinnpehkfbnkaagreatdoor", sum := "d062df1a2c6fceb480be29e9dfb5728f279228808f2a177ddbc365c50f92d447", func := "hoard/hoardlaw16.HintsBack", spec := "hintsBack", inPlace := ["internal/bytealg.Compare"], unfollowed := true, recurses := true, named := ["hoard/crc.half"], apart := false, laid := [("hoard/crc.half", laid_hoard_crc_half)], narrowed := true }
def HintsBackUptoSaid : Prop := hintsBackUptoRow.holds Tryz.pinned (OpenSpec.upto hintsBackSpec)

/-- 'hoardlaw16.HintsCrash', WHERE WHAT IT READS IS OF BULK AT MOST 1048576: true; the input reads as it did. -/
def hintsCrashUptoRow : OpenClaim := { program := "ytlinnpehkfbnkaagreatdoor", sum := "d062df1a2c6fceb480be29e9dfb5728f279228808f2a177ddbc365c50f92d447", func := "hoard/hoardlaw16.HintsCrash", spec := "hintsCrash", inPlace := ["internal/bytealg.Compare"], unfollowed := true, recurses := true, named := ["hoard/crc.half"], apart := false, laid := [("hoard/crc.half", laid_hoard_crc_half)], narrowed := true }
def HintsCrashUptoSaid : Prop := hintsCrashUptoRow.holds Tryz.pinned (OpenSpec.upto hintsCrashSpec)

/-- 'hoardlaw17.RepoNobody', WHERE WHAT IT READS IS OF BULK AT MOST 1048576: true; the input reads as it did. -/
def repoNobodyUptoRow : OpenClaim := { program := "ytlinnpehkfbnkaagreatdoor", sum := "d062df1a2c6fceb480be29e9dfb5728f279228808f2a177ddbc365c50f92d447", func := "hoard/hoardlaw17.RepoNobody", spec := "repoNobody", inPlace := ["internal/bytealg.Compare"], unfollowed := true, recurses := true, named := ["hoard/crc.half"], apart := false, laid := [("hoard/crc.half", laid_hoard_crc_half)], narrowed := true }
def RepoNobodyUptoSaid : Prop := repoNobodyUptoRow.holds Tryz.pinned (OpenSpec.upto repoNobodySpec)

/-- 'hoardlaw19.MendRefuses', WHERE WHAT IT READS IS OF BULK AT MOST 1048576: true; the input reads as it did. -/
def mendRefusesUptoRow : OpenClaim := { program := "ytlinnpehkfbnkaagreatdoor", sum := "d062df1a2c6fceb480be29e9dfb5728f279228808f2a177ddbc365c50f92d447", func := "hoard/hoardlaw19.MendRefuses", spec := "mendRefuses", inPlace := ["internal/bytealg.Compare"], unfollowed := true, recurses := true, named := ["hoard/crc.half"], apart := false, laid := [("hoard/crc.half", laid_hoard_crc_half)], narrowed := true }
def MendRefusesUptoSaid : Prop := mendRefusesUptoRow.holds Tryz.pinned (OpenSpec.upto mendRefusesSpec)

end Rows
end Go.Proofs.YtlinnpehkfbnkaaGreatDoor
