import Derived.Test.YtdhhbajggafdhaaDoorMem
import Derived.Test.YtdhhbajggafdhaaDoorMedM
import Derived.Test.YtdhhbajggafdhaaDoorChecked
import Derived.WalkLawsBesides
import Derived.WalkSpells
/- How a medium lies in memory. -/
namespace Go.Proofs.YtdhhbajggafdhaaDoor
open Go Go.Sl Go.Med Go.MapKept

def bys (l : Bs) : List Value := l.map fun b => .int .u8 b.toNat
abbrev ptr (b : Nat) : Value := .pointer (some ⟨b, 0, none⟩)
abbrev errno (n : Int) : Value := .int .i64 n
def chgCells (p : Chg × Value) : List Value := [.bool p.1.cut, .int .i64 p.1.n, p.2]
def bsl (v : Value) (l : Bs) : HProp := osl 5 1 v (bys l)
/-- The changes that wait, each with its bytes. -/
def chgs (ws : List (Chg × Value)) : HProp := stars (ws.map fun p => bsl p.2 p.1.b)
def filPt (b : Nat) (fv nv wv : Value) : HProp := pt b (.cells #[fv, nv, wv] 105 (0,0))
def FilRaw (b : Nat) (f : Fil) (fv nv wv : Value) (ws : List (Chg × Value)) : List HProp :=
  [filPt b fv nv wv, bsl fv f.fast, bsl nv f.now, osl 132 3 wv (ws.flatMap chgCells), chgs ws]
def FilRep (b : Nat) (f : Fil) : HProp := fun h => ∃ fv nv wv ws, ws.map (·.1) = f.waits ∧ stars (FilRaw b f fv nv wv ws) h
def filesRep (bs : List Nat) (fs : List Fil) : HProp := stars (List.zipWith FilRep bs fs)
def mapL (bs : List Nat) (l : Names) : List (Value × Value) := l.map fun p => (.string p.1, ptr (bs.getD p.2 0))
def lnkCells (bs : List Nat) (x : Lnk) : List Value := [.string x.fr, .string x.to, if x.to = ByteArray.empty then .pointer none else ptr (bs.getD x.f 0)]
def medPt (m : Nat) (M : Med) (fb nb : Nat) (wv : Value) : HProp :=
  pt m (.cells #[.int .i64 M.room, .map (some fb), .map (some nb), wv, .bool M.armed, .int .i64 M.left, .bool M.off] 94 (0,0))
def MedRaw (m : Nat) (M : Med) (bs : List Nat) (fb nb : Nat) (wv : Value) : List HProp :=
  [medPt m M fb nb wv, omap .string nb (mapL bs M.now), filesRep bs M.files, omap .string fb (mapL bs M.fast), osl 115 3 wv (M.waits.flatMap (lnkCells bs))]
def MedRep (m : Nat) (M : Med) : HProp := fun h => ∃ bs fb nb wv, bs.length = M.files.length ∧ stars (MedRaw m M bs fb nb wv) h
section
variable {w0 w : World} {F : List HProp} {m b : Nat} {M : Med} {f : Fil}
theorem MedRep.open (h : Sat w0 w (MedRep m M :: F)) : ∃ bs fb nb wv, bs.length = M.files.length ∧ Sat w0 w (MedRaw m M bs fb nb wv ++ F) := by
  obtain ⟨ha, x, hx, p, q, d, rfl, ⟨bs, fb, nb, wv, hl, hp⟩, hq⟩ := h
  refine ⟨bs, fb, nb, wv, hl, ha, _, hx, ?_⟩
  rw [stars_append]
  exact ⟨p, q, d, rfl, hp, hq⟩
theorem MedRep.shut {bs : List Nat} {fb nb : Nat} {wv : Value} (hl : bs.length = M.files.length) (h : Sat w0 w (MedRaw m M bs fb nb wv ++ F)) : Sat w0 w (MedRep m M :: F) :=
  h.join fun _ hx => ⟨bs, fb, nb, wv, hl, hx⟩
theorem FilRep.open (h : Sat w0 w (FilRep b f :: F)) : ∃ fv nv wv ws, ws.map (·.1) = f.waits ∧ Sat w0 w (FilRaw b f fv nv wv ws ++ F) := by
  obtain ⟨ha, x, hx, p, q, d, rfl, ⟨bs, fb, nb, wv, hl, hp⟩, hq⟩ := h
  refine ⟨bs, fb, nb, wv, hl, ha, _, hx, ?_⟩
  rw [stars_append]
  exact ⟨p, q, d, rfl, hp, hq⟩
theorem FilRep.shut {fv nv wv : Value} {ws : List (Chg × Value)} (hl : ws.map (·.1) = f.waits) (h : Sat w0 w (FilRaw b f fv nv wv ws ++ F)) : Sat w0 w (FilRep b f :: F) :=
  h.join fun _ hx => ⟨fv, nv, wv, ws, hl, hx⟩
/-- One file out of all. -/
theorem files_take : ∀ (bs : List Nat) (fs : List Fil) (i : Nat), bs.length = fs.length → i < fs.length →
    ∃ G : HProp, (filesRep bs fs = star (FilRep (bs.getD i 0) (fs.getD i Fil.new)) G) ∧ ∀ f', filesRep bs (fs.set i f') = star (FilRep (bs.getD i 0) f') G
  | [], [], i, _, h => by simp at h
  | [], _ :: _, _, h, _ => by simp at h
  | _ :: _, [], _, h, _ => by simp at h
  | b :: bs, f :: fs, 0, _, _ => ⟨filesRep bs fs, rfl, fun _ => rfl⟩
  | b :: bs, f :: fs, i + 1, hl, hi => by
    obtain ⟨G, h1, h2⟩ := files_take bs fs i (by simpa using hl) (by simpa using hi)
    refine ⟨star (FilRep b f) G, ?_, fun f' => ?_⟩
    · show star (FilRep b f) (filesRep bs fs) = _
      rw [h1, star_left_comm]; rfl
    · show star (FilRep b f) (filesRep bs (fs.set i f')) = _
      rw [h2, star_left_comm]; rfl
theorem files_snoc : ∀ (bs : List Nat) (fs : List Fil) (b : Nat) (f : Fil), bs.length = fs.length → filesRep (bs ++ [b]) (fs ++ [f]) = star (FilRep b f) (filesRep bs fs)
  | [], [], _, _, _ => rfl
  | [], _ :: _, _, _, h => by simp at h
  | _ :: _, [], _, _, h => by simp at h
  | c :: bs, g :: fs, b, f, h => by
    show star (FilRep c g) (filesRep (bs ++ [b]) (fs ++ [f])) = _
    rw [files_snoc bs fs b f (by simpa using h), star_left_comm]; rfl
end
/-! ### facts on the table of types -/
theorem info8 : (Tryd.prog.info? 5).map (fun i => (i.zero, i.size, i.bytes)) = some (some (.int .u8 0), 1, 1) := by kernel_rfl
theorem infoFile (w : World) : (zeroValue 102).run Tryd.prog w = .ok (.pointer none) w := by kernel_rfl
@[go_sem] theorem eqMapNil (w : World) (r : Option Nat) : (binOp .eql 91 (.map r) (.map none)).run Tryd.prog w = .ok (.bool r.isNone) w := run_eql_map_nil w _ _ _ r Tryd.underlying91
end Go.Proofs.YtdhhbajggafdhaaDoor
