/-
  NARROWER THAN 'FOR EVERY INPUT', by the rows' own cells (each row's printed sentence says how): SegsPlays: laid · ReplayRuns: laid · ReplayDrops: laid · ReplayOpen: laid · ReplayLive: laid · ReplayLast: laid · ReplayCrash: laid · ReplayPlays: laid.
  DERIVED. THE GIVEN ROWS OF THIS SEAT. 8 by the template 'for every input the law returns true; each argument reads behind the call as it read before'; 0 by the template 'total and deterministic' (their statements: YtmjldaedhmipkaaGreatDoorTotals.lean).
  GIVEN WITH THE SEED: the statements are not yours to turn. If you find one false, say at which input.
  Laid BY PROGRAM, IN A SANDBOX (cutbox-rows.mjs): the forced cells as the released guide's own fill.sh prints them over the translation 381a21de27fb709d… (all of the seat's roots in one cut). By AI agents, Wed Nov 11 2026. No macro, syntax, notation, axiom, sorry.
-/
import Derived.Test.YtmjldaedhmipkaaGreatDoorChecked
import GoSem.Claim
import GoSem.ClaimJoined
import GoSem.ClaimMapViews
import Derived.JoinedTies
import Derived.KernelRfl
namespace Go.Proofs.YtmjldaedhmipkaaGreatDoor
/- THE CELL 'sum', in the pinned program and in every row, IS THE sha256 OF THE DUMP (.gsa) THAT YtmjldaedhmipkaaGreatDoorProg.lean LOADS. Nothing in Lean hashes anything: it is a label: what it is worth is what the hold of that sum in a sandbox is worth. -/
noncomputable def Tryz.pinned : Pinned := { name := "ytmjldaedhmipkaagreatdoor", sum := "381a21de27fb709d5aa398bc321f8f05caf3c6b73d993f78de7a8634119dff64", checked := Tryz.checked }
namespace Rows
def none {H : Type} : Left H := { results := [], args := [] }

/- WHAT THE LISTED PACKAGE-LEVEL VARIABLES READ AS WHEN THE CALL BEGINS. Each datum BY PROGRAM (the guide's laid-datum.mjs) off the statement by which the dump's own 'gosem.cut.vars' lays the variable. In a bare row this is a premise. The card (YtmjldaedhmipkaaGreatDoorCards.lean) ties it to the program's text. -/
def laid_hoard_crc_half {H : Type} : DataW H := .agg [.lit (.int .u32 0), .lit (.int .u32 498536548), .lit (.int .u32 997073096), .lit (.int .u32 651767980), .lit (.int .u32 1994146192), .lit (.int .u32 1802195444), .lit (.int .u32 1303535960), .lit (.int .u32 1342533948), .lit (.int .u32 3988292384), .lit (.int .u32 4027552580), .lit (.int .u32 3604390888), .lit (.int .u32 3412177804), .lit (.int .u32 2607071920), .lit (.int .u32 2262029012), .lit (.int .u32 2685067896), .lit (.int .u32 3183342108)]

/-- 'hoardlaw14.SegsPlays': WHATEVER THE INPUT: true; the input reads as it did. -/
def segsPlaysSpec : ChangeSpec := { name := "segsPlays", fn := fun _ => fun
  | [d1, d2, d3] => { results := [.lit (.bool true)], args := [d1, d2, d3] }
  | _ => none }
def segsPlaysRow : OpenClaim := { program := "ytmjldaedhmipkaagreatdoor", sum := "381a21de27fb709d5aa398bc321f8f05caf3c6b73d993f78de7a8634119dff64", func := "hoard/hoardlaw14.SegsPlays", spec := "segsPlays", unfollowed := true, recurses := true, named := ["hoard/crc.half"], apart := false, laid := [("hoard/crc.half", laid_hoard_crc_half)] }
def SegsPlaysSaid : Prop := segsPlaysRow.holds Tryz.pinned (OpenSpec.ofChange segsPlaysSpec)

/-- ITS FALSE NEIGHBOUR: 'it returns false'. Refute it at one input. -/
def segsPlaysWrong : ChangeSpec := { name := "segsPlays", fn := fun _ => fun
  | [d1, d2, d3] => { results := [.lit (.bool false)], args := [d1, d2, d3] }
  | _ => none }
def SegsPlaysWrongFalsely : Prop := segsPlaysRow.holds Tryz.pinned (OpenSpec.ofChange segsPlaysWrong)

/-- 'hoardlaw15.ReplayRuns': WHATEVER THE INPUT: true; the input reads as it did. -/
def replayRunsSpec : ChangeSpec := { name := "replayRuns", fn := fun _ => fun
  | [d] => { results := [.lit (.bool true)], args := [d] }
  | _ => none }
def replayRunsRow : OpenClaim := { program := "ytmjldaedhmipkaagreatdoor", sum := "381a21de27fb709d5aa398bc321f8f05caf3c6b73d993f78de7a8634119dff64", func := "hoard/hoardlaw15.ReplayRuns", spec := "replayRuns", inPlace := ["internal/bytealg.Compare"], unfollowed := true, recurses := true, named := ["hoard/crc.half"], apart := false, laid := [("hoard/crc.half", laid_hoard_crc_half)] }
def ReplayRunsSaid : Prop := replayRunsRow.holds Tryz.pinned (OpenSpec.ofChange replayRunsSpec)

/-- ITS FALSE NEIGHBOUR: 'it returns false'. Refute it at one input. -/
def replayRunsWrong : ChangeSpec := { name := "replayRuns", fn := fun _ => fun
  | [d] => { results := [.lit (.bool false)], args := [d] }
  | _ => none }
def ReplayRunsWrongFalsely : Prop := replayRunsRow.holds Tryz.pinned (OpenSpec.ofChange replayRunsWrong)

/-- 'hoardlaw15.ReplayDrops': WHATEVER THE INPUT: true; the input reads as it did. -/
def replayDropsSpec : ChangeSpec := { name := "replayDrops", fn := fun _ => fun
  | [d1, d2, d3] => { results := [.lit (.bool true)], args := [d1, d2, d3] }
  | _ => none }
def replayDropsRow : OpenClaim := { program := "ytmjldaedhmipkaagreatdoor", sum := "381a21de27fb709d5aa398bc321f8f05caf3c6b73d993f78de7a8634119dff64", func := "hoard/hoardlaw15.ReplayDrops", spec := "replayDrops", inPlace := ["internal/bytealg.Compare"], unfollowed := true, recurses := true, named := ["hoard/crc.half"], apart := false, laid := [("hoard/crc.half", laid_hoard_crc_half)] }
def ReplayDropsSaid : Prop := replayDropsRow.holds Tryz.pinned (OpenSpec.ofChange replayDropsSpec)

/-- ITS FALSE NEIGHBOUR: 'it returns false'. Refute it at one input. -/
def replayDropsWrong : ChangeSpec := { name := "replayDrops", fn := fun _ => fun
  | [d1, d2, d3] => { results := [.lit (.bool false)], args := [d1, d2, d3] }
  | _ => none }
def ReplayDropsWrongFalsely : Prop := replayDropsRow.holds Tryz.pinned (OpenSpec.ofChange replayDropsWrong)

/-- 'hoardlaw15.ReplayOpen': WHATEVER THE INPUT: true; the input reads as it did. -/
def replayOpenSpec : ChangeSpec := { name := "replayOpen", fn := fun _ => fun
  | [d1, d2, d3] => { results := [.lit (.bool true)], args := [d1, d2, d3] }
  | _ => none }
def replayOpenRow : OpenClaim := { program := "ytmjldaedhmipkaagreatdoor", sum := "381a21de27fb709d5aa398bc321f8f05caf3c6b73d993f78de7a8634119dff64", func := "hoard/hoardlaw15.ReplayOpen", spec := "replayOpen", inPlace := ["internal/bytealg.Compare"], unfollowed := true, recurses := true, named := ["hoard/crc.half"], apart := false, laid := [("hoard/crc.half", laid_hoard_crc_half)] }
def ReplayOpenSaid : Prop := replayOpenRow.holds Tryz.pinned (OpenSpec.ofChange replayOpenSpec)

/-- ITS FALSE NEIGHBOUR: 'it returns false'. Refute it at one input. -/
def replayOpenWrong : ChangeSpec := { name := "replayOpen", fn := fun _ => fun
  | [d1, d2, d3] => { results := [.lit (.bool false)], args := [d1, d2, d3] }
  | _ => none }
def ReplayOpenWrongFalsely : Prop := replayOpenRow.holds Tryz.pinned (OpenSpec.ofChange replayOpenWrong)

/-- 'hoardlaw15.ReplayLive': WHATEVER THE INPUT: true; the input reads as it did. -/
def replayLiveSpec : ChangeSpec := { name := "replayLive", fn := fun _ => fun
  | [d1, d2] => { results := [.lit (.bool true)], args := [d1, d2] }
  | _ => none }
def replayLiveRow : OpenClaim := { program := "ytmjldaedhmipkaagreatdoor", sum := "381a21de27fb709d5aa398bc321f8f05caf3c6b73d993f78de7a8634119dff64", func := "hoard/hoardlaw15.ReplayLive", spec := "replayLive", inPlace := ["internal/bytealg.Compare"], unfollowed := true, recurses := true, named := ["hoard/crc.half"], apart := false, laid := [("hoard/crc.half", laid_hoard_crc_half)] }
def ReplayLiveSaid : Prop := replayLiveRow.holds Tryz.pinned (OpenSpec.ofChange replayLiveSpec)

/-- ITS FALSE NEIGHBOUR: 'it returns false'. Refute it at one input. -/
def replayLiveWrong : ChangeSpec := { name := "replayLive", fn := fun _ => fun
  | [d1, d2] => { results := [.lit (.bool false)], args := [d1, d2] }
  | _ => none }
def ReplayLiveWrongFalsely : Prop := replayLiveRow.holds Tryz.pinned (OpenSpec.ofChange replayLiveWrong)

/-- 'hoardlaw15.ReplayLast': WHATEVER THE INPUT: true; the input reads as it did. -/
def replayLastSpec : ChangeSpec := { name := "replayLast", fn := fun _ => fun
  | [d1, d2, d3] => { results := [.lit (.bool true)], args := [d1, d2, d3] }
  | _ => none }
def replayLastRow : OpenClaim := { program := "ytmjldaedhmipkaagreatdoor", sum := "381a21de27fb709d5aa398bc321f8f05caf3c6b73d993f78de7a8634119dff64", func := "hoard/hoardlaw15.ReplayLast", spec := "replayLast", inPlace := ["internal/bytealg.Compare"], unfollowed := true, recurses := true, named := ["hoard/crc.half"], apart := false, laid := [("hoard/crc.half", laid_hoard_crc_half)] }
def ReplayLastSaid : Prop := replayLastRow.holds Tryz.pinned (OpenSpec.ofChange replayLastSpec)

/-- ITS FALSE NEIGHBOUR: 'it returns false'. Refute it at one input. -/
def replayLastWrong : ChangeSpec := { name := "replayLast", fn := fun _ => fun
  | [d1, d2, d3] => { results := [.lit (.bool false)], args := [d1, d2, d3] }
  | _ => none }
def ReplayLastWrongFalsely : Prop := replayLastRow.holds Tryz.pinned (OpenSpec.ofChange replayLastWrong)

/-- 'hoardlaw15.ReplayCrash': WHATEVER THE INPUT: true; the input reads as it did. -/
def replayCrashSpec : ChangeSpec := { name := "replayCrash", fn := fun _ => fun
  | [d1, d2, d3] => { results := [.lit (.bool true)], args := [d1, d2, d3] }
  | _ => none }
def replayCrashRow : OpenClaim := { program := "ytmjldaedhmipkaagreatdoor", sum := "381a21de27fb709d5aa398bc321f8f05caf3c6b73d993f78de7a8634119dff64", func := "hoard/hoardlaw15.ReplayCrash", spec := "replayCrash", inPlace := ["internal/bytealg.Compare"], unfollowed := true, recurses := true, named := ["hoard/crc.half"], apart := false, laid := [("hoard/crc.half", laid_hoard_crc_half)] }
def ReplayCrashSaid : Prop := replayCrashRow.holds Tryz.pinned (OpenSpec.ofChange replayCrashSpec)

/-- ITS FALSE NEIGHBOUR: 'it returns false'. Refute it at one input. -/
def replayCrashWrong : ChangeSpec := { name := "replayCrash", fn := fun _ => fun
  | [d1, d2, d3] => { results := [.lit (.bool false)], args := [d1, d2, d3] }
  | _ => none }
def ReplayCrashWrongFalsely : Prop := replayCrashRow.holds Tryz.pinned (OpenSpec.ofChange replayCrashWrong)

/-- 'hoardlaw15.ReplayPlays': WHATEVER THE INPUT: true; the input reads as it did. -/
def replayPlaysSpec : ChangeSpec := { name := "replayPlays", fn := fun _ => fun
  | [d1, d2] => { results := [.lit (.bool true)], args := [d1, d2] }
  | _ => none }
def replayPlaysRow : OpenClaim := { program := "ytmjldaedhmipkaagreatdoor", sum := "381a21de27fb709d5aa398bc321f8f05caf3c6b73d993f78de7a8634119dff64", func := "hoard/hoardlaw15.ReplayPlays", spec := "replayPlays", inPlace := ["internal/bytealg.Compare"], unfollowed := true, recurses := true, named := ["hoard/crc.half"], apart := false, laid := [("hoard/crc.half", laid_hoard_crc_half)] }
def ReplayPlaysSaid : Prop := replayPlaysRow.holds Tryz.pinned (OpenSpec.ofChange replayPlaysSpec)

/-- ITS FALSE NEIGHBOUR: 'it returns false'. Refute it at one input. -/
def replayPlaysWrong : ChangeSpec := { name := "replayPlays", fn := fun _ => fun
  | [d1, d2] => { results := [.lit (.bool false)], args := [d1, d2] }
  | _ => none }
def ReplayPlaysWrongFalsely : Prop := replayPlaysRow.holds Tryz.pinned (OpenSpec.ofChange replayPlaysWrong)

/- THE SECOND FORM. 'bulk': how many values and letters a reading holds, each counted each time it is reached (what is shared counts as often as it is met; a slice's spare places count too). A statement '..UptoSaid' is the law's where the arguments, and the package variables that the reading takes, are together of bulk at most 1048576: NARROWER than '..Said'. Prove '..Said' where nothing that the law and all that it calls make is longer than what came in: it says more and counts as full. Else prove '..UptoSaid'. A law counts once. -/
mutual
def uptoBulk {H : Type} : DataW H → Nat
  | .lit (.string bytes) => bytes.length + 1
  | .lit _ => 1
  | .nil => 1
  | .ptr d => uptoBulk d + 1
  | .slice elems spare => uptoBulkAll elems + uptoBulkAll spare + 1
  | .agg parts => uptoBulkAll parts + 1
  | .iface _ d => uptoBulk d + 1
  | .map entries => uptoBulkEntries entries + 1
  | .held _ => 1
def uptoBulkAll {H : Type} : List (DataW H) → Nat
  | [] => 0
  | d :: r => uptoBulk d + uptoBulkAll r
def uptoBulkEntries {H : Type} : List (Lit × DataW H) → Nat
  | [] => 0
  | x :: r => uptoBulkEntry x + uptoBulkEntries r
def uptoBulkEntry {H : Type} : Lit × DataW H → Nat
  | (.string bytes, d) => bytes.length + uptoBulk d + 1
  | (_, d) => uptoBulk d + 1
 end
def uptoSmall : (H : Type) → List (DataW H) → Bool := fun _ ds => decide (uptoBulkAll ds ≤ 1048576)
def OpenSpec.upto (s : _root_.Go.ChangeSpec) : _root_.Go.OpenSpec := { _root_.Go.OpenSpec.ofChange s with cond := some uptoSmall }

/-- 'hoardlaw14.SegsPlays', WHERE WHAT IT READS IS OF BULK AT MOST 1048576: true; the input reads as it did. -/
def segsPlaysUptoRow : OpenClaim := { program := "ytmjldaedhmipkaagreatdoor", sum := "381a21de27fb709d5aa398bc321f8f05caf3c6b73d993f78de7a8634119dff64", func := "hoard/hoardlaw14.SegsPlays", spec := "segsPlays", unfollowed := true, recurses := true, named := ["hoard/crc.half"], apart := false, laid := [("hoard/crc.half", laid_hoard_crc_half)], narrowed := true }
def SegsPlaysUptoSaid : Prop := segsPlaysUptoRow.holds Tryz.pinned (OpenSpec.upto segsPlaysSpec)

/-- 'hoardlaw15.ReplayRuns', WHERE WHAT IT READS IS OF BULK AT MOST 1048576: true; the input reads as it did. -/
def replayRunsUptoRow : OpenClaim := { program := "ytmjldaedhmipkaagreatdoor", sum := "381a21de27fb709d5aa398bc321f8f05caf3c6b73d993f78de7a8634119dff64", func := "hoard/hoardlaw15.ReplayRuns", spec := "replayRuns", inPlace := ["internal/bytealg.Compare"], unfollowed := true, recurses := true, named := ["hoard/crc.half"], apart := false, laid := [("hoard/crc.half", laid_hoard_crc_half)], narrowed := true }
def ReplayRunsUptoSaid : Prop := replayRunsUptoRow.holds Tryz.pinned (OpenSpec.upto replayRunsSpec)

/-- 'hoardlaw15.ReplayDrops', WHERE WHAT IT READS IS OF BULK AT MOST 1048576: true; the input reads as it did. -/
def replayDropsUptoRow : OpenClaim := { program := "ytmjldaedhmipkaagreatdoor", sum := "381a21de27fb709d5aa398bc321f8f05caf3c6b73d993f78de7a8634119dff64", func := "hoard/hoardlaw15.ReplayDrops", spec := "replayDrops", inPlace := ["internal/bytealg.Compare"], unfollowed := true, recurses := true, named := ["hoard/crc.half"], apart := false, laid := [("hoard/crc.half", laid_hoard_crc_half)], narrowed := true }
def ReplayDropsUptoSaid : Prop := replayDropsUptoRow.holds Tryz.pinned (OpenSpec.upto replayDropsSpec)

/-- 'hoardlaw15.ReplayOpen', WHERE WHAT IT READS IS OF BULK AT MOST 1048576: true; the input reads as it did. -/
def replayOpenUptoRow : OpenClaim := { program := "ytmjldaedhmipkaagreatdoor", sum := "381a21de27fb709d5aa398bc321f8f05caf3c6b73d993f78de7a8634119dff64", func := "hoard/hoardlaw15.ReplayOpen", spec := "replayOpen", inPlace := ["internal/bytealg.Compare"], unfollowed := true, recurses := true, named := ["hoard/crc.half"], apart := false, laid := [("hoard/crc.half", laid_hoard_crc_half)], narrowed := true }
def ReplayOpenUptoSaid : Prop := replayOpenUptoRow.holds Tryz.pinned (OpenSpec.upto replayOpenSpec)

/-- 'hoardlaw15.ReplayLive', WHERE WHAT IT READS IS OF BULK AT MOST 1048576: true; the input reads as it did. -/
def replayLiveUptoRow : OpenClaim := { program := "ytmjldaedhmipkaagreatdoor", sum := "381a21de27fb709d5aa398bc321f8f05caf3c6b73d993f78de7a8634119dff64", func := "hoard/hoardlaw15.ReplayLive", spec := "replayLive", inPlace := ["internal/bytealg.Compare"], unfollowed := true, recurses := true, named := ["hoard/crc.half"], apart := false, laid := [("hoard/crc.half", laid_hoard_crc_half)], narrowed := true }
def ReplayLiveUptoSaid : Prop := replayLiveUptoRow.holds Tryz.pinned (OpenSpec.upto replayLiveSpec)

/-- 'hoardlaw15.ReplayLast', WHERE WHAT IT READS IS OF BULK AT MOST 1048576: true; the input reads as it did. -/
def replayLastUptoRow : OpenClaim := { program := "ytmjldaedhmipkaagreatdoor", sum := "381a21de27fb709d5aa398bc321f8f05caf3c6b73d993f78de7a8634119dff64", func := "hoard/hoardlaw15.ReplayLast", spec := "replayLast", inPlace := ["internal/bytealg.Compare"], unfollowed := true, recurses := true, named := ["hoard/crc.half"], apart := false, laid := [("hoard/crc.half", laid_hoard_crc_half)], narrowed := true }
def ReplayLastUptoSaid : Prop := replayLastUptoRow.holds Tryz.pinned (OpenSpec.upto replayLastSpec)

/-- 'hoardlaw15.ReplayCrash', WHERE WHAT IT READS IS OF BULK AT MOST 1048576: true; the input reads as it did. -/
def replayCrashUptoRow : OpenClaim := { program := "ytmjldaedhmipkaagreatdoor", sum := "381a21de27fb709d5aa398bc321f8f05caf3c6b73d993f78de7a8634119dff64", func := "hoard/hoardlaw15.ReplayCrash", spec := "replayCrash", inPlace := ["internal/bytealg.Compare"], unfollowed := true, recurses := true, named := ["hoard/crc.half"], apart := false, laid := [("hoard/crc.half", laid_hoard_crc_half)], narrowed := true }
def ReplayCrashUptoSaid : Prop := replayCrashUptoRow.holds Tryz.pinned (OpenSpec.upto replayCrashSpec)

/-- 'hoardlaw15.ReplayPlays', WHERE WHAT IT READS IS OF BULK AT MOST 1048576: true; the input reads as it did. -/
def replayPlaysUptoRow : OpenClaim := { program := "ytmjldaedhmipkaagreatdoor", sum := "381a21de27fb709d5aa398bc321f8f05caf3c6b73d993f78de7a8634119dff64", func := "hoard/hoardlaw15.ReplayPlays", spec := "replayPlays", inPlace := ["internal/bytealg.Compare"], unfollowed := true, recurses := true, named := ["hoard/crc.half"], apart := false, laid := [("hoard/crc.half", laid_hoard_crc_half)], narrowed := true }
def ReplayPlaysUptoSaid : Prop := replayPlaysUptoRow.holds Tryz.pinned (OpenSpec.upto replayPlaysSpec)

end Rows
end Go.Proofs.YtmjldaedhmipkaaGreatDoor
