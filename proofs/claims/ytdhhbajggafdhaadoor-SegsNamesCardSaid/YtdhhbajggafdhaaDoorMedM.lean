import Derived.Sort.Walk0
/- The plain model of layer 6 (media). No program in sight. -/
namespace Go.Med
abbrev Bs := List UInt8
/-- A change of a file's bytes: cut off behind n, or b put behind. -/
structure Chg where
  cut : Bool
  n : Nat
  b : Bs
def Chg.on (c : Chg) (l : Bs) : Bs := if c.cut then l.take c.n else l ++ c.b
structure Fil where
  fast : Bs
  now : Bs
  waits : List Chg
def Fil.new : Fil := ⟨[], [], []⟩
def Fil.do (f : Fil) (c : Chg) : Fil := { f with now := c.on f.now, waits := f.waits ++ [c] }
def Fil.sync (f : Fil) : Fil := { f with fast := f.now, waits := [] }
/-- The bytes behind the first k changes. -/
def Fil.at (f : Fil) (k : Nat) : Bs := (f.waits.take k).foldl (fun b c => c.on b) f.fast
def clampN (x : Int) (hi : Nat) : Nat := min x.toNat hi
def Fil.left (f : Fil) (whole torn : Int) : Bs :=
  let k := clampN whole f.waits.length
  match f.waits[k]? with
  | some c => if c.cut then f.at k else f.at k ++ c.b.take (clampN torn c.b.length)
  | none => f.at k
def Fil.crash (f : Fil) (whole torn : Int) : Fil := ⟨f.left whole torn, f.left whole torn, []⟩

/-! ### names -/
abbrev Names := List (ByteArray × Nat)
def lt (a b : ByteArray) : Bool := decide (a.data.toList < b.data.toList)
def nget (l : Names) (s : ByteArray) : Option Nat := (l.find? fun p => p.1 == s).map (·.2)
def ndel (l : Names) (s : ByteArray) : Names := l.filter fun p => p.1 != s
def nins : Names → ByteArray → Nat → Names
  | [], s, i => [(s, i)]
  | p :: l, s, i => if lt s p.1 then (s, i) :: p :: l else p :: nins l s i
def nput (l : Names) (s : ByteArray) (i : Nat) : Names := nins (ndel l s) s i
structure Lnk where
  fr : ByteArray
  to : ByteArray
  f : Nat
def Lnk.on (x : Lnk) (l : Names) : Names :=
  let l := if x.fr = ByteArray.empty then l else ndel l x.fr
  if x.to = ByteArray.empty then l else nput l x.to x.f
structure Med where
  room : Nat
  fast : Names
  now : Names
  files : List Fil
  waits : List Lnk
  armed : Bool
  left : Nat
  off : Bool
def Med.file (m : Med) (i : Nat) : Fil := m.files.getD i Fil.new
def Med.used (m : Med) : Nat := (m.now.map fun p => (m.file p.2).now.length).sum
def new (room : Nat) : Med := ⟨room, [], [], [], [], false, 0, false⟩
def goodC (c : UInt8) : Bool := (97 ≤ c && c ≤ 122) || (48 ≤ c && c ≤ 57) || c == 46 || c == 45
def good (s : ByteArray) : Bool := decide (1 ≤ s.size) && decide (s.size ≤ 24) && s.data.toList.all goodC
/-- The step: the medium behind it, and whether it was done. -/
def Med.step (m : Med) : Med × Bool :=
  if m.armed then (if m.left = 0 then ({ m with off := true }, false) else ({ m with left := m.left - 1 }, true)) else (m, true)
def Med.link (m : Med) (x : Lnk) : Med := { m with now := x.on m.now, waits := m.waits ++ [x] }
def Med.setFile (m : Med) (i : Nat) (f : Fil) : Med := { m with files := m.files.set i f }
def Med.create (m : Med) (s : ByteArray) : Med × Int :=
  if m.off then (m, 12)
  else if good s = false then (m, 7)
  else if (nget m.now s).isSome then (m, 10)
  else if 500 ≤ m.now.length then (m, 16)
  else if m.step.2 = false then (m.step.1, 12)
  else ({ m.step.1 with files := m.files ++ [Fil.new] }.link ⟨ByteArray.empty, s, m.files.length⟩, 0)
def Med.append (m : Med) (s : ByteArray) (b : Bs) : Med × Int :=
  if m.off then (m, 12)
  else match nget m.now s with
  | none => (m, 9)
  | some i =>
    if (m.room : Int) - m.used < b.length then (m, 11)
    else if m.step.2 = false then (m.step.1, 12)
    else (m.step.1.setFile i ((m.file i).do ⟨false, 0, b⟩), 0)
def Med.truncate (m : Med) (s : ByteArray) (n : Int) : Med × Int :=
  if m.off then (m, 12)
  else match nget m.now s with
  | none => (m, 9)
  | some i =>
    if n < 0 ∨ ((m.file i).now.length : Int) < n then (m, 2)
    else if m.step.2 = false then (m.step.1, 12)
    else (m.step.1.setFile i ((m.file i).do ⟨true, n.toNat, []⟩), 0)
def Med.rename (m : Med) (s t : ByteArray) : Med × Int :=
  if m.off then (m, 12)
  else match nget m.now s with
  | none => (m, 9)
  | some i =>
    if good t = false then (m, 7)
    else if m.step.2 = false then (m.step.1, 12)
    else (m.step.1.link ⟨s, t, i⟩, 0)
def Med.remove (m : Med) (s : ByteArray) : Med × Int :=
  if m.off then (m, 12)
  else match nget m.now s with
  | none => (m, 9)
  | some _ =>
    if m.step.2 = false then (m.step.1, 12)
    else (m.step.1.link ⟨s, ByteArray.empty, 0⟩, 0)
def Med.sync (m : Med) (s : ByteArray) : Med × Int :=
  if m.off then (m, 12)
  else match nget m.now s with
  | none => (m, 9)
  | some i =>
    if m.step.2 = false then (m.step.1, 12)
    else (m.step.1.setFile i (m.file i).sync, 0)
def Med.syncDir (m : Med) : Med × Int :=
  if m.off then (m, 12)
  else if m.step.2 = false then (m.step.1, 12)
  else ({ m.step.1 with fast := m.now, waits := [] }, 0)
def Med.read (m : Med) (s : ByteArray) (at_ n : Int) : Bs × Int :=
  if m.off then ([], 12)
  else match nget m.now s with
  | none => ([], 9)
  | some i =>
    let l := (m.file i).now
    if at_ < 0 ∨ n < 0 then ([], 2)
    else if (l.length : Int) < at_ ∨ (l.length : Int) - at_ < n then ([], 3)
    else ((l.drop at_.toNat).take n.toNat, 0)
def Med.all (m : Med) (s : ByteArray) : Bs × Int :=
  if m.off then ([], 12)
  else match nget m.now s with
  | none => ([], 9)
  | some i => ((m.file i).now, 0)
def Med.size (m : Med) (s : ByteArray) : Int × Int :=
  if m.off then (0, 12)
  else match nget m.now s with
  | none => (0, 9)
  | some i => ((m.file i).now.length, 0)
def Med.list (m : Med) : List ByteArray := if m.off then [] else m.now.map (·.1)
def Med.usedTold (m : Med) : Nat := if m.off then 0 else m.used
def Med.setRoom (m : Med) (n : Int) : Med × Int :=
  if m.off then (m, 12) else if n < 0 ∨ 16777216 < n then (m, 2) else ({ m with room := n.toNat }, 0)
def Med.arm (m : Med) (n : Int) : Med × Int :=
  if m.off then (m, 12) else if n < 0 then (m, 2) else ({ m with armed := true, left := n.toNat }, 0)
/-- The i-th number; 0, where there is none. -/
def num (l : List Int) (i : Nat) : Int := l.getD i 0
/-- The names that last. -/
def Med.lastNames (m : Med) (k : Nat) : Names := (m.waits.take k).foldl (fun l x => x.on l) m.fast
/-- The files of these names, one behind the other; j: which number of l comes next. -/
def crashFiles (l : List Int) : Names → Nat → List Fil → List Fil
  | [], _, fs => fs
  | p :: ns, j, fs => crashFiles l ns (j + 2) (fs.set p.2 ((fs.getD p.2 Fil.new).crash (num l j) (num l (j + 1))))
def Med.crash (m : Med) (l : List Int) : Med :=
  let ns := m.lastNames (clampN (num l 0) m.waits.length)
  { m with fast := ns, now := ns, waits := [], files := crashFiles l ns 1 m.files, off := false, armed := false, left := 0 }
/-! ### spoilt bytes -/
def xorAt (l : Bs) (i : Nat) (y : UInt8) : Bs := l.set i (l.getD i 0 ^^^ y)
/-- From the last change back: the one that put the byte there. -/
def rotWaits (f : Fil) (i : Nat) (y : UInt8) : Nat → Option (List Chg)
  | 0 => none
  | k + 1 =>
    match f.waits[k]? with
    | none => rotWaits f i y k
    | some c => if c.cut then rotWaits f i y k
      else if (f.at k).length ≤ i then some (f.waits.set k { c with b := xorAt c.b (i - (f.at k).length) y })
      else rotWaits f i y k
def Fil.rot (f : Fil) (i : Nat) (y : UInt8) : Fil :=
  match rotWaits f i y f.waits.length with
  | some ws => { f with now := xorAt f.now i y, waits := ws }
  | none => { f with now := xorAt f.now i y, fast := xorAt f.fast i y }
def Med.rot (m : Med) (s : ByteArray) (i : Int) (y : UInt8) : Med × Bool :=
  match nget m.now s with
  | none => (m, false)
  | some k => if i < 0 ∨ ((m.file k).now.length : Int) ≤ i then (m, false) else (m.setFile k ((m.file k).rot i.toNat y), true)
end Go.Med
