import Derived.Test.YtopconiamijknaaGreatDoorJ9
import Derived.Sort.Walk0
import Derived.WalkKit
import Derived.Maps.OwnSet
import Derived.Lib.Hide
import Derived.Maps.RangeWalk
import Derived.Maps.AppendAt
import Derived.Test.YtopconiamijknaaGreatDoorChecked
import Derived.WalkLawsBesides
import Derived.WalkSpells
import Derived.OrdersHeld
import Derived.Deep.RegionHeld3
import Derived.Deep.DrawnRows
import Derived.Test.YtopconiamijknaaGreatDoorShelf
import Derived.Deep.LoopGhost
import Derived.Sort.OwnSorted
import Derived.Laws.BitsAllLaws
import Derived.Laws.Strings
import Derived.Deep.Slices
import Derived.ProofKit
import Derived.OpenShut
import Derived.ShutString
import Derived.ChangeOld
import Derived.Below
import Derived.ChangeKeysEq
import Derived.Laws.Rows
import Derived.Laws.OwnMore
import Derived.Laws.CopyOwn
import Derived.Lib.SlBytesConst
import Derived.Laws.IdiomStrings
import Derived.Deep.MidRow
import Derived.Laws.ResultCell
import Derived.Lib.BufferRead
import Derived.Lib.Bytealg
import Derived.Lib.BytesEntry
import Derived.Sort.Grow
import Derived.Shelf.SlSortCmp.WholeK
import Derived.Shelf.SlSortCmp.NoneTotal
import Derived.Test.YtopconiamijknaaGreatDoorSort
import Derived.RangeFuncNested
import Derived.RangeFuncLeaves
import Derived.TacticsIn
import Derived.OrdersIn
import Derived.Laws.Slices
import Derived.Laws.StructEq
import Derived.Lib.ConvBytes
import Derived.ArgAppend
import Derived.Test.YtopconiamijknaaGreatDoorRows
import Derived.Test.YtopconiamijknaaGreatDoorCards
import Derived.Test.YtopconiamijknaaGreatDoorTie
import Derived.LaidMore
import Derived.SevenTiedAt
set_option linter.unusedVariables false
set_option maxHeartbeats 128000000
namespace Go.Sl
open Go

def ex {α : Type} (A : α → HProp) : HProp := fun h => ∃ x, A x h

theorem ex_star {α : Type} (A : α → HProp) (B : HProp) : star (ex A) B = ex fun x => star (A x) B := by
  apply HProp.ext; intro h
  constructor
  · rintro ⟨a, b, d, e, ⟨x, ha⟩, hb⟩; exact ⟨x, a, b, d, e, ha, hb⟩
  · rintro ⟨x, a, b, d, e, ha, hb⟩; exact ⟨a, b, d, e, ⟨x, ha⟩, hb⟩

section
variable {w0 w : World} {A B C D E G : HProp} {L M F R : List HProp}
theorem Sat.ex {α : Type} {A : α → HProp} : Sat w0 w (Sl.ex A :: R) ↔ ∃ x, Sat w0 w (A x :: R) := by
  constructor
  · rintro ⟨ha, x, hx, hA⟩
    rw [stars_cons, ex_star] at hA
    obtain ⟨y, hA⟩ := hA
    exact ⟨y, ha, x, hx, hA⟩
  · rintro ⟨y, ha, x, hx, hA⟩
    refine ⟨ha, x, hx, ?_⟩
    rw [stars_cons, ex_star]
    exact ⟨y, hA⟩
variable {b : Nat} {o : Obj}
end
end Go.Sl
namespace Go.Proofs.YtopconiamijknaaGreatDoor
open Go Go.Sl Go.Med Go.ChangeShapes Go.WideShapes Go.RowKit
section
variable {H : Type} {enc : TypeId × Value → H} {P : Program} {W : World} {base : Nat} {spare : Nat → Bool} {held : Bool}
theorem open_fields {t : TypeId} {fs : Array Field} {fuel : Nat} {cs : List Value} {x : DataW H × List MemPlace} (ht : P.underlying t = some (.struct fs)) (h : DataW.trod enc P W base spare held fuel t cs = some x) :
    cs.length = P.cellsOf t ∧ ∀ (i : Nat) (f : Field), fs[i]? = some f → ∃ n y, DataW.trod enc P W base spare held n f.type ((cs.drop f.offset).take (P.cellsOf f.type)) = some y := by
  obtain ⟨xs, n, _, _, hl, hxl, hf⟩ := DataW.trod_struct ht h
  refine ⟨hl, fun i f hi => ⟨n, ?_⟩⟩
  have hlt : i < xs.length := by rw [hxl]; exact (Array.getElem?_eq_some_iff.1 hi).1
  exact ⟨xs[i], by rw [hf i f hi]; exact List.getElem?_eq_getElem hlt⟩
theorem cell_old {w : World} {a : Addr} {v : Value} (h : Sat W w [Sl.old W]) (hc : W.cell? a = some v) : w.cell? a = some v := by
  have hlt : a.block < W.heap.size := by
    rcases Nat.lt_or_ge a.block W.heap.size with h1 | h1
    · exact h1
    · unfold World.cell? at hc
      rw [Array.getElem?_eq_none h1] at hc
      simp at hc
  unfold World.cell? at hc ⊢
  rw [h.old hlt]; exact hc
theorem rd_old {v : Value} {k : Nat} {xs : List Value} (h : rdsl k v xs W) : Ro W [Sl.old W] (rdsl k v xs) := by
  intro w hw
  obtain ⟨a, n, c, he, hl, hx⟩ := h
  refine ⟨a, n, c, he, hl, fun i x hi => ?_⟩
  obtain ⟨b, hb, hc⟩ := hx i x hi
  exact ⟨b, hb, cell_old hw hc⟩
end
end Go.Proofs.YtopconiamijknaaGreatDoor
namespace Go.Proofs.YtopconiamijknaaGreatDoor
open Go Go.Sl Go.Med Go.MapKept Go.RowKit
section
variable {P : Program} {w0 w : World} {L L' R : List HProp} {b : Nat} {ops : Array Oper} {rest : List Oper} {a : Act} {Q : Exit → Act → World → Prop}
variable {dst : Option Tmp} {t ty T : TypeId} {pos : String} {after : Array Edge} {x y z : Operand} {cs : Array Value} {v : Value} {o : Nat}
variable {vx vy : Value} {ad : Addr} {fl : Nat} {bo : BinOp} {uo : UnOp} {tz : TypeId} {G : World → Prop}
theorem yg_field {g : Option (Nat × Bool)} (hw : Region.wanted ⟨dst, .fieldAddr ty x fl, t, pos, after, g⟩ (yielded ops a.tmps) = true) (hx : a.eval x = vx) (hr : ∀ w, (Instr.fieldAt ty vx fl).run P w = .ok v w) : Yields P ops ⟨dst, .fieldAddr ty x fl, t, pos, after, g⟩ v a :=
  .inl ⟨hw, fun w => by simp only [execOp, hx, Sem.run_bind, hr, Result.andThen_ok, Sem.run_pure]⟩
theorem yg_index {g : Option (Nat × Bool)} (hw : Region.wanted ⟨dst, .indexAddr ty x y, t, pos, after, g⟩ (yielded ops a.tmps) = true) (hx : a.eval x = vx) (hy : a.eval y = vy) (hr : ∀ w, (Instr.indexAt ty vx vy).run P w = .ok v w) : Yields P ops ⟨dst, .indexAddr ty x y, t, pos, after, g⟩ v a :=
  .inl ⟨hw, fun w => by simp only [execOp, hx, hy, Sem.run_bind, hr, Result.andThen_ok, Sem.run_pure]⟩
theorem yg_un {g : Option (Nat × Bool)} (hw : Region.wanted ⟨dst, .unOp uo ty x, t, pos, after, g⟩ (yielded ops a.tmps) = true) (hx : a.eval x = vx) (hr : ∀ w, (Op.unary uo vx).run P w = .ok v w) : Yields P ops ⟨dst, .unOp uo ty x, t, pos, after, g⟩ v a :=
  .inl ⟨hw, fun w => by simp only [execOp, hx, Sem.run_bind, hr, Result.andThen_ok, Sem.run_pure]⟩
theorem rg_skip {l : Array Bool} {n : Nat} {late : List Nat} {oi : Oper} (i : Nat) (hi : ops.toList[i]? = some oi) (hc : (Region.noSelect ops && Region.free .any ops l i && (Region.ready .any ops l).contains i && shutB ops l) = true)
    (hQ : ∀ c a w, Q (.panic c) (a.put oi.dst undef) w → Q (.panic c) a w) (hw : Region.wanted oi (yielded ops a.tmps) = false) {a' : Act} (ha : a.put oi.dst undef = a')
    (h : wpL P ops Q late G n (l.setIfInBounds i true) a' w) : wpL P ops Q late G (n + 1) l a w :=
  rg_pure i hi hc hQ (.inr ⟨hw, rfl⟩) ha h
end
end Go.Proofs.YtopconiamijknaaGreatDoor
namespace Go.Med
section
variable {φ : Nat → Nat} {L : Nat → Prop} {M D : Med} {K : Nat}
end
def Fil.Small (f : Fil) : Prop := ∀ c ∈ f.waits, c.b.length ≤ 16777216
def Med.Small (m : Med) : Prop := ∀ f ∈ m.files, f.Small
end Go.Med
namespace Go.Tab
open Go.Frm (Bs)
open Go.Seg (Plc)
open Go.Rep (Abt)
section
variable {V : Type}
theorem mapOf_mem : ∀ (n : Nat) {l : List (Bs × V)}, l.length = n → l.Pairwise (fun a b => a.1 < b.1) → ∀ k v, (k, v) ∈ l ↔ mapOf l k = some v
  | 0, l, hn, _, k, v => by
    obtain rfl : l = [] := List.eq_nil_of_length_eq_zero hn
    exact ⟨(fun h => by cases h), (fun h => by cases h)⟩
  | n + 1, l, hn, hs, k, v => by
    obtain ⟨l', p, rfl⟩ : ∃ l' p, l = l' ++ [p] := ⟨l.dropLast, l.getLast (by intro e; rw [e] at hn; cases hn), (List.dropLast_concat_getLast _).symm⟩
    have hn' : l'.length = n := by rw [List.length_append] at hn; simpa using hn
    obtain ⟨s1, _, s3⟩ := List.pairwise_append.1 hs
    have ih := mapOf_mem n hn' s1 k v
    rw [mapOf_snoc, List.mem_append, List.mem_singleton]
    show _ ↔ (if k = p.1 then some p.2 else mapOf l' k) = some v
    by_cases hk : k = p.1
    · rw [if_pos hk]
      constructor
      · rintro (h | h)
        · exact absurd (hk ▸ s3 _ h p (.head _)) (List.lt_irrefl _)
        · rw [← h]
      · intro h; exact .inr (by rw [hk, ← Option.some.inj h])
    · rw [if_neg hk, ← ih]
      exact ⟨fun h => h.elim id fun e => absurd (congrArg Prod.fst e) hk, .inl⟩
theorem mapOf_lists {l : List (Bs × V)} (hs : l.Pairwise fun a b => a.1 < b.1) : Lists (mapOf l) l := ⟨hs, mapOf_mem _ rfl hs⟩
end
end Go.Tab
namespace Go.Rep
open Go.Frm (Bs)
open Go.Tab
end Go.Rep
namespace Go.Proofs.YtopconiamijknaaGreatDoor
open Go Go.Sl Go.Med Go.MapKept Go.RowKit
section
variable {w0 w : World} {R : List HProp} {b : Nat} {f : Int → Int} {l : List (Value × Value)}
end
section
variable {w0 w : World} {R : List HProp} {p B B' : Nat} {m : Frm.Bs → Option Seg.Plc}
end
end Go.Proofs.YtopconiamijknaaGreatDoor
namespace Go.Seg
open Go.Med
structure Fit (K : Nat) (D : Med) : Prop where
  ok : D.Ok K
  small : D.Small
  files : D.files.length ≤ 500 + K
section
variable {φ : Nat → Nat} {V : Nat → Prop} {M D : Med} {K : Nat} {L : Log}
end
end Go.Seg
namespace Go.Seg
open Go.Med
section
variable {φ : Nat → Nat} {V : Nat → Prop} {M D : Med} {K : Nat} {L : Log}
end
structure Two (i : Nat) (L : Log) (M D : Med) : Prop where
  log : L.Ok
  ok : M.Ok (i * 2000)
  fit : Fit (i * 2000) D
  side : ∃ φ V, Side φ V M D
  fresh : L.fresh ≤ i
section
variable {i : Nat} {M D : Med} {L : Log}
end
end Go.Seg
namespace Go.Proofs.YtopconiamijknaaGreatDoor
open Go Go.Sl Go.Med Go.MapKept Go.RowKit
section
variable {P : Program} {d : Nat} {xs : Array Value}
theorem eqF_self : ∀ (fs : List Field), (∀ f ∈ fs, ∃ a, (∀ w, (part f.type xs f.offset).run P w = .ok a w) ∧ ∀ w, (Op.equalIn d f.type a a).run P w = .ok true w) → ∀ w, (Op.eqFields d xs xs fs).run P w = .ok true w
  | [], _, w => by simp [Op.eqFields]
  | f :: fs, h, w => by
    obtain ⟨a, h1, h2⟩ := h f (.head _)
    have ih := eqF_self fs (fun g hg => h g (.tail _ hg)) w
    unfold Op.eqFields
    split
    · simp only [Sem.run_bind, h1, h2, Result.andThen_ok, Bool.not_true, Bool.false_eq_true, if_false, ih]
    · exact ih
theorem eqS_self (T : TypeId) (l : List (TypeId × Nat)) (ht : P.underlying T = some (.struct (P.fieldsOf T))) (hp : P.stoodInHeld T = false) (hl : ((P.fieldsOf T).toList.map fun f => (f.type, f.offset)) = l)
    (h : ∀ q ∈ l, ∃ a, (∀ w, (part q.1 xs q.2).run P w = .ok a w) ∧ ∀ w, (Op.equalIn d q.1 a a).run P w = .ok true w) (w : World) : (Op.equalIn (d + 1) T (.agg xs) (.agg xs)).run P w = .ok true w := by
  rw [run_equalIn_struct w d T xs xs ht hp]
  refine eqF_self _ (fun f hf => ?_) w
  exact h (f.type, f.offset) (by rw [← hl]; exact List.mem_map.2 ⟨f, hf, rfl⟩)
theorem part_int {e : TypeId} {k : IntKind} (he : P.underlying e = some (.int k)) (i : Nat) (z : Int) (hv : xs[i]? = some (.int k z)) : ∃ a, (∀ w, (part e xs i).run P w = .ok a w) ∧ ∀ w, (Op.equalIn (d + 1) e a a).run P w = .ok true w :=
  ⟨_, fun w => run_part_int he xs i _ hv w, fun w => by rw [run_equalIn_int w d e k k z z he]; simp⟩
theorem part_row {e : TypeId} {i : TypeInfo} {dd : TypeDesc} (he : P.underlying e = some dd) (hd : (match dd with | .struct _ | .array _ _ => true | _ => false) = true) (hi : P.info? e = some i) (off : Nat) (w : World) : (part e xs off).run P w = .ok (.agg (xs.extract off (off + i.size))) w := by
  have hc : P.cellsOf e = i.size := by unfold Program.cellsOf; simp [hi]
  unfold part isAgg
  cases dd <;> simp_all [Sem.run_bind, run_underlying he, run_sizeOf w hi]
end
set_option maxRecDepth 20000 in
theorem eqIn_keyD (d : Nat) (k : Frm.Bs) (hk : k.length = 32) (w : World) : (Op.equalIn (d + 2) 24 (.agg (bys k).toArray) (.agg (bys k).toArray)).run Tryz.prog w = .ok true w := by
  obtain ⟨i, hi, _⟩ := info8p
  have h := run_equalIn_array (P := Tryz.prog) w (d + 1) (bys k).toArray (bys k).toArray (t := 24) Tryz.underlying24 hi
  rw [bys_ints, show Tryz.prog.cellsOf 5 = 1 from by kernel_rfl, run_eqItems_int d (P := Tryz.prog) Tryz.underlying5 _ _ (List.range 32) (fun i hi => by have := List.mem_range.1 hi; simp; omega)] at h
  rw [bys_ints, h]
  simp
theorem info_id : ∃ i : TypeInfo, Tryz.prog.info? 24 = some i ∧ i.size = 32 := by
  have h : (Tryz.prog.info? 24).map (·.size) = some 32 := by kernel_rfl
  cases hq : Tryz.prog.info? 24 with
  | none => rw [hq] at h; cases h
  | some i => rw [hq] at h; exact ⟨i, rfl, by simpa using h⟩
theorem part_key {xs : Array Value} {d : Nat} (off : Nat) (k : Frm.Bs) (hk : k.length = 32) (hx : xs.extract off (off + 32) = (bys k).toArray) : ∃ a, (∀ w, (part 24 xs off).run Tryz.prog w = .ok a w) ∧ ∀ w, (Op.equalIn (d + 2) 24 a a).run Tryz.prog w = .ok true w := by
  obtain ⟨i, hi, hs⟩ := info_id
  exact ⟨.agg (bys k).toArray, fun w => by rw [part_row Tryz.underlying24 rfl hi off w, hs, hx], fun w => eqIn_keyD d k hk w⟩
section
variable {P : Program} {T : TypeId} {cs : Array Value}
theorem neq_self (h : ∀ w, (Op.equalIn 10000 T (.agg cs) (.agg cs)).run P w = .ok true w) (w : World) : (binOp .neq T (.agg cs) (.agg cs)).run P w = .ok (.bool false) w := by
  rw [run_neq_struct, h]; rfl
end
end Go.Proofs.YtopconiamijknaaGreatDoor
namespace Go.Frm
theorem lt_take : ∀ {a b : Bs} {i : Nat} {x y : UInt8}, a.take i = b.take i → a[i]? = some x → b[i]? = some y → x ≠ y → (a < b ↔ x < y)
  | [], _, _, _, _, _, h, _, _ => by simp at h
  | _ :: _, [], _, _, _, _, _, h, _ => by simp at h
  | c :: a, d :: b, 0, x, y, _, h1, h2, hne => by
    obtain rfl : c = x := by simpa using h1
    obtain rfl : d = y := by simpa using h2
    rw [List.cons_lt_cons_iff]
    exact ⟨fun h => h.resolve_right fun e => hne e.1, .inl⟩
  | c :: a, d :: b, i + 1, x, y, ht, h1, h2, hne => by
    simp only [List.take_succ_cons, List.cons.injEq] at ht
    obtain ⟨rfl, ht⟩ := ht
    rw [List.cons_lt_cons_iff, ← lt_take ht (by simpa using h1) (by simpa using h2) hne]
    exact ⟨fun h => h.elim (fun h => absurd h (UInt8.lt_irrefl c)) (·.2), fun h => .inr ⟨rfl, h⟩⟩
end Go.Frm
namespace Go.Proofs.YtopconiamijknaaGreatDoor
open Go Go.Sl Go.Med Go.MapKept Go.RowKit
section
variable {w0 w : World} {F : List HProp} {av bv v : Value}
theorem bys_at {l : Bs} {i : Nat} {x : UInt8} (h : l[i]? = some x) : (bys l)[i]? = some (.int .u8 x.toNat) := by unfold bys; rw [List.getElem?_map, h]; rfl
theorem bys_atA {l : Bs} {i : Nat} {x : UInt8} (h : l[i]? = some x) : (bys l).toArray[i]? = some (.int .u8 x.toNat) := by rw [List.getElem?_toArray]; exact bys_at h
theorem take_next {α : Type} {a b : List α} {i : Nat} {x : α} (h : a.take i = b.take i) (h1 : a[i]? = some x) (h2 : b[i]? = some x) : a.take (i + 1) = b.take (i + 1) := by
  rw [List.take_add_one, List.take_add_one, h, h1, h2]
theorem rless_c (a b : Bs) (ha : a.length = 32) (hb : b.length = 32) (h : Sat w0 w F) :
    Calls Tryz.prog 25 #[.agg (bys a).toArray, .agg (bys b).toArray] w (Rtn fun v w' => v = .bool (decide (a < b)) ∧ Sat w0 w' F) := by
  have Ha := Lib.hid ha; have Hb := Lib.hid hb
  clear ha hb
  go_enter Tryz.func25, Tryz.ntmps25
  go_wp2_with (with_reducible apply at_box)
  refine ⟨?_⟩
  refine wl_box h evD evD ?_
  intro b2 w2 h2
  go_wp2_with (with_reducible apply at_box)
  refine ⟨?_⟩
  refine wl_box h2 evD evD ?_
  intro b3 w3 h3
  clear h h2
  go_wp2_with fail
  go_loopg [5] 32 (fun g iq wr => ∃ i : Nat, g = 32 - i ∧ i ≤ 32 ∧ iq = .int .i64 i ∧ a.take i = b.take i ∧ Sat w0 wr (pt b3 (.cells (bys b).toArray 24 (0,0)) :: pt b2 (.cells (bys a).toArray 24 (0,0)) :: F))
  case atStart => exact ⟨0, rfl, Nat.zero_le _, rfl, rfl, h3⟩
  case round =>
    obtain ⟨i, rfl, hi, rfl, htk, hS⟩ := hrel
    clear h3
    by_cases hlt : i < 32
    · have c1 : (i : Int) < 32 := by omega
      have hwi : IntKind.i64.wrap ((i : Int) + 1) = (i : Int) + 1 := IntWalk.i64_in _ (by omega)
      obtain ⟨x, hx⟩ : ∃ x, a[i]? = some x := ⟨_, List.getElem?_eq_getElem (by have := Ha.out; omega)⟩
      obtain ⟨y, hy⟩ : ∃ y, b[i]? = some y := ⟨_, List.getElem?_eq_getElem (by have := Hb.out; omega)⟩
      have hG0 : World.cell? _ ⟨b2, i, none⟩ = some (.int .u8 x.toNat) ∧ World.cell? _ ⟨b3, i, none⟩ = some (.int .u8 y.toNat) := ⟨hS.drew.cellP pick1 i (bys_atA hx), hS.drew.cellP pick0 i (bys_atA hy)⟩
      have Hx := Lib.hid hx; have Hy := Lib.hid hy; have Htk := Lib.hid htk; have Hlt := Lib.hid hlt
      clear htk hi hlt hx hy
      have hS1 := hS.drew
      by_cases hxy : x = y
      · subst hxy
        have Hn := Lib.hid (take_next Htk.out Hx.out Hy.out)
        generalize (x.toNat : Int) = X at *
        go_wp2_with fail
        refine wpL_begin [6] (fun w' => w'.cell? ⟨b2, i, none⟩ = some (.int .u8 X) ∧ w'.cell? ⟨b3, i, none⟩ = some (.int .u8 X)) kRz ?_
        have hG := hG0
        clear hG0
        refine rp 0 (hy := (yl_move evD)) (h := ?_)
        refine rp 1 (hy := (yl_index evD evD rnD)) (h := ?_)
        refine rt 2 (h := ?_)
        refine rp 3 (hy := (yl_move evD)) (h := ?_)
        refine rp 4 (hy := (yl_index evD evD rnD)) (h := ?_)
        refine rt 5 (h := ?_)
        refine rp 6 (hy := (yl_bin evD evD rnD)) (h := ?_)
        refine wpL_done kRz ?_
        clear hG
        try simp only [List.getElem_toArray, List.getElem_cons_succ, List.getElem_cons_zero]
        try go_frame
        go_wp2_with fail
        go_roundg (32 - (i + 1))
        case measure => have := Hlt.out; omega
        case rel => exact ⟨i + 1, rfl, Hlt.out, by first | rfl | go_num, Hn.out, hS1⟩
      · have He := Lib.hid (show decide (a < b) = decide ((x.toNat : Int) < (y.toNat : Int)) by
          rw [decide_eq_decide, Frm.lt_take Htk.out Hx.out Hy.out hxy, UInt8.lt_iff_toNat_lt]; omega)
        have hne : ((x.toNat : Int) == (y.toNat : Int)) = false := by
          rw [beq_eq_false_iff_ne]; intro e; exact hxy (UInt8.toNat_inj.1 (by omega))
        have hne2 : ((x.toNat : Int) != (y.toNat : Int)) = true := by
          rw [bne_iff_ne]; intro e; exact hxy (UInt8.toNat_inj.1 (by omega))
        clear hxy
        generalize (x.toNat : Int) = X at *
        generalize (y.toNat : Int) = Y at *
        go_wp2_with fail
        refine wpL_begin [6] (fun w' => w'.cell? ⟨b2, i, none⟩ = some (.int .u8 X) ∧ w'.cell? ⟨b3, i, none⟩ = some (.int .u8 Y)) kRz ?_
        have hG := hG0
        clear hG0
        refine rp 0 (hy := (yl_move evD)) (h := ?_)
        refine rp 1 (hy := (yl_index evD evD rnD)) (h := ?_)
        refine rt 2 (h := ?_)
        refine rp 3 (hy := (yl_move evD)) (h := ?_)
        refine rp 4 (hy := (yl_index evD evD rnD)) (h := ?_)
        refine rt 5 (h := ?_)
        refine rp 6 (hy := (yl_bin evD evD rnD)) (h := ?_)
        refine wpL_done kRz ?_
        try simp only [List.getElem_toArray, List.getElem_cons_succ, List.getElem_cons_zero]
        try go_frame
        go_wp2_with fail
        have hG2 : World.cell? _ ⟨b2, i, none⟩ = some (.int .u8 X) ∧ World.cell? _ ⟨b3, i, none⟩ = some (.int .u8 Y) := hG
        have hS2 := hS1.drew
        clear hG
        refine wpL_begin [6, 7] (fun w' => w'.cell? ⟨b2, i, none⟩ = some (.int .u8 X) ∧ w'.cell? ⟨b3, i, none⟩ = some (.int .u8 Y)) kRz ?_
        have hG : World.cell? _ ⟨b2, i, none⟩ = some (.int .u8 X) ∧ World.cell? _ ⟨b3, i, none⟩ = some (.int .u8 Y) := ⟨by first | exact hG2.1 | exact hS2.cellP pick1 i (by rw [bys_atA Hx.out]; rfl), by first | exact hG2.2 | exact hS2.cellP pick0 i (by rw [bys_atA Hy.out]; rfl)⟩
        refine rp 0 (hy := (yl_move evD)) (h := ?_)
        refine rp 1 (hy := (yl_index evD evD rnD)) (h := ?_)
        refine rt 2 (h := ?_)
        refine rp 3 (hy := (yl_move evD)) (h := ?_)
        refine rp 4 (hy := (yl_index evD evD rnD)) (h := ?_)
        refine rt 5 (h := ?_)
        refine rp 6 (hy := (yl_bin evD evD rnD)) (h := ?_)
        refine rp 7 (hy := (yl_assign evD)) (h := ?_)
        refine wpL_done kRz ?_
        clear hG hG2
        try simp only [List.getElem_toArray, List.getElem_cons_succ, List.getElem_cons_zero]
        try go_frame
        go_wp2_with fail
        go_ret
        rw [He.out]
        exact ⟨_, rfl, rfl, hS2.sb⟩
    · obtain rfl : i = 32 := by omega
      have hab : a = b := by
        rw [List.take_of_length_le (by have := Ha.out; omega), List.take_of_length_le (by have := Hb.out; omega)] at htk
        exact htk
      have He := Lib.hid (show decide (a < b) = false by rw [hab]; exact decide_eq_false (List.lt_irrefl b))
      clear htk hlt hi hab
      go_wp2_with fail
      go_ret
      rw [He.out]
      exact ⟨_, rfl, rfl, hS.sb⟩
end
section
variable {w0 w : World} {F : List HProp} {v : Value} {l : Bs} {a : Option Addr} {n c k : Nat}
end
section
variable {P : Program} {w : World} {ops : Array Oper} {rest : List Oper} {a : Act} {Q : Exit → Act → World → Prop} {dst : Option Tmp} {t ty : TypeId} {pos : String} {after : Array Edge} {x y z : Operand} {v vx vy vz : Value}
theorem wl_slT (hx : a.eval x = vx) (hy : a.eval y = vy) (hr : ∀ w, (Instr.sliceAt ty vx none (some vy) none).run P w = .ok v w) (h : wpList P ops Q rest (a.put dst v) w) : wpList P ops Q (⟨dst, .slice ty x none (some y) none, t, pos, after, none⟩ :: rest) a w :=
  wpList_plain rfl fun _ hK => by
    unfold Oper.wp execOp
    simp only [hx, hy, Option.map_some, Option.map_none, Sem.run_bind, hr, Result.andThen_ok, Sem.run_pure]
    exact hK _ _ h
theorem at_slT (h : Stop (wpList P ops Q (⟨dst, .slice ty x none (some y) none, t, pos, after, none⟩ :: rest) a w)) : wpList P ops Q (⟨dst, .slice ty x none (some y) none, t, pos, after, none⟩ :: rest) a w := h.out
end
section
variable {w0 w : World} {F : List HProp} {na nb : Value}
set_option maxRecDepth 20000 in
theorem tless_c (a b : Frm.Bs) (ha : a.length = 32) (hb : b.length = 32) (h : Sat w0 w F) :
    Calls Tryz.prog 43 #[.agg (bys a).toArray, .agg (bys b).toArray] w (Rtn fun v w' => v = .bool (decide (a < b)) ∧ Sat w0 w' F) := by
  have He := Lib.hid (show decide (Lib.compareBytes a b < 0) = decide (a < b) from decide_eq_decide.2 (Tab.cmpB_lt a b))
  go_enter Tryz.func43, Tryz.ntmps43
  go_wp2_with (with_reducible apply at_box)
  refine ⟨?_⟩
  refine wl_box h evD evD ?_
  intro b2 w2 h2
  go_wp2_with (with_reducible apply at_box)
  refine ⟨?_⟩
  refine wl_box h2 evD evD ?_
  intro b3 w3 h3
  have hS := h3.drew
  have r1 : rdsl 1 (.slice (some ⟨b2, 0, none⟩) 32 32) (bys a) w3.drew := ⟨_, _, _, rfl, by rw [bys_len, ha], fun j z hj => ⟨_, rfl, by rw [adr_add, Nat.zero_add]; exact hS.cellP pick1 j (by rw [List.getElem?_toArray]; exact hj)⟩⟩
  have r2 : rdsl 1 (.slice (some ⟨b3, 0, none⟩) 32 32) (bys b) w3.drew := ⟨_, _, _, rfl, by rw [bys_len, hb], fun j z hj => ⟨_, rfl, by rw [adr_add, Nat.zero_add]; exact hS.cellP pick0 j (by rw [List.getElem?_toArray]; exact hj)⟩⟩
  have hbc := bcmp_c a b r1 r2
  generalize Lib.compareBytes a b = r at *
  clear h h2 h3 r1 r2 ha hb
  go_wp2_with fail
  have hG : True := trivial
  refine wpL_begin [] (fun w' => True) kRz ?_
  refine rp 0 (hy := (by (refine Or.inl ⟨by rfl, ?_⟩; ((intro wq; go_simp); first | done | (with_reducible rfl))))) (h := ?_)
  refine rp 1 (hy := (by (refine Or.inl ⟨by rfl, ?_⟩; ((intro wq; go_simp); first | done | (with_reducible rfl))))) (h := ?_)
  refine rg_eff 2 evD kRz (fun K hK => ?_)
  (refine eff_call2 kRz evD evD ?_)
  refine hbc.mono ?_
  rintro e w' ⟨rfl, rfl⟩
  refine hK _ _ (.inr (.inr rfl)) ?_
  clear hK hbc
  refine rp 3 (hy := (yl_bin evD evD rnD)) (h := ?_)
  refine rp 4 (hy := (yl_assign evD)) (h := ?_)
  refine wpL_done kRz ?_
  clear hG
  go_wp2_with fail
  go_ret
  exact ⟨_, rfl, by rw [← He.out]; rfl, hS.drop.drop⟩
end
set_option maxRecDepth 20000 in
theorem cmpR_c (x y : Tab.Slot (Rep.Rfc)) (hx : x.key.length = 32) (hy : y.key.length = 32) (W : World) :
    Calls Tryz.prog 77 #[.agg (slotL renc x).toArray, .agg (slotL renc y).toArray] W fun e w' => e = .returned (.int .i64 (Lib.compareBytes x.key y.key)) ∧ ∃ q os', w' = Sort.grow (W.drewN q) os' := by
  have h0 := Sat.start W
  have h1 := h0.alloc (.cells (slotL renc x).toArray 108)
  have h2 := (h1.alloc (.cells (slotL renc y).toArray 108)).drew
  have hsz : (W.alloc (.cells (slotL renc x).toArray 108)).heap.size = W.heap.size + 1 := Array.size_push ..
  rw [hsz] at h2
  have r1 : rdsl 1 (.slice (some ⟨W.heap.size, 1, none⟩) 32 32) (bys x.key) ((W.alloc (.cells (slotL renc x).toArray 108)).alloc (.cells (slotL renc y).toArray 108)).drew :=
    ⟨_, _, _, rfl, by rw [bys_len, hx], fun j z hj => ⟨_, rfl, by rw [adr_add]; exact slot_key (h2.pick pick1) j z hj⟩⟩
  have r2 : rdsl 1 (.slice (some ⟨W.heap.size + 1, 1, none⟩) 32 32) (bys y.key) ((W.alloc (.cells (slotL renc x).toArray 108)).alloc (.cells (slotL renc y).toArray 108)).drew :=
    ⟨_, _, _, rfl, by rw [bys_len, hy], fun j z hj => ⟨_, rfl, by rw [adr_add]; exact slot_key (h2.pick pick0) j z hj⟩⟩
  have hb := bcmp_c x.key y.key r1 r2
  clear h0 h1 h2 r1 r2 hsz
  generalize Lib.compareBytes x.key y.key = r at *
  go_enter Tryz.func77, Tryz.ntmps77
  go_wp2_with fail
  have hG : True := trivial
  refine wpL_begin [] (fun w' => True) kRz ?_
  refine rp 0 (hy := (yl_field evD rnD)) (h := ?_)
  refine rp 1 (hy := (by (refine Or.inl ⟨by rfl, ?_⟩; ((intro wq; go_simp); first | done | (with_reducible rfl))))) (h := ?_)
  refine rp 2 (hy := (yl_field evD rnD)) (h := ?_)
  refine rp 3 (hy := (by (refine Or.inl ⟨by rfl, ?_⟩; ((intro wq; go_simp); first | done | (with_reducible rfl))))) (h := ?_)
  refine rg_eff 4 evD kRz (fun K hK => ?_)
  (refine eff_call2 kRz evD evD ?_)
  refine hb.mono ?_
  rintro e w' ⟨rfl, rfl⟩
  refine hK _ _ (.inr (.inr rfl)) ?_
  clear hK hb
  refine rp 5 (hy := (yl_assign evD)) (h := ?_)
  refine wpL_done kRz ?_
  clear hG
  go_wp2_with fail
  go_ret
  exact ⟨rfl, 1, #[.cells (slotL renc x).toArray 108, .cells (slotL renc y).toArray 108], by rw [Sort.alloc_eq_grow, Sort.alloc_eq_grow, Sort.grow_grow, Sort.drew_grow]; rfl⟩
open Go.Sort
abbrev SlKR : Type := { x : Tab.Slot (Rep.Rfc) // x.key.length = 32 }
instance : Inhabited SlKR := ⟨⟨⟨0, Frm.zero32, ⟨0, 0⟩⟩, rfl⟩⟩
section
variable {w0 w : World} {F : List HProp} {v : Value}
theorem sortR_c (l : List (Tab.Slot (Rep.Rfc))) (hk : ∀ x ∈ l, x.key.length = 32) (hn : l.length ≤ 1073741824) (h : Sat w0 w (osl 108 35 v (l.flatMap (slotL renc)) :: F)) :
    Calls Tryz.prog 76 #[v, .func (.func 77) #[] #[]] w (Rtn fun _ w' => ∃ l' : List (Tab.Slot (Rep.Rfc)), (l'.Perm l ∧ l'.Pairwise fun a b => ¬ b.key < a.key) ∧ Sat w0 w' (osl 108 35 v (l'.flatMap (slotL renc)) :: F)) := by
  have hlen : ∀ x ∈ l, (slotL renc x).length = 35 := fun x hx => slotL_len renc x (hk x hx) 2 (renc_len _)
  rcases h.osl_cases with ⟨rfl, hn', h'⟩ | ⟨g, n, cap, cs, rfl, hl, hn', hc, hcm, htk, hp⟩
  · obtain rfl : l = [] := by
      cases l with
      | nil => rfl
      | cons x l => rw [List.flatMap_cons] at hn'; have := congrArg List.length hn'; rw [List.length_append, hlen x (.head _)] at this; simp at this
    refine (AnyF.slices_SortFunc_none Tryz.sortR none 0 (.func (.func 77) #[] #[]) w).mono ?_
    rintro e w1 ⟨rfl, rfl⟩
    exact ⟨_, rfl, [], ⟨.refl _, .nil⟩, h⟩
  · rw [rows_len hlen, Nat.mul_comm] at hl
    obtain rfl : n = l.length := (Nat.eq_of_mul_eq_mul_right dCz hl).symm
    let d : Array SlKR := (l.attach.map fun x => (⟨x.1, hk x.1 x.2⟩ : SlKR)).toArray
    have hd : d.toList.map (·.1) = l := by
      show (l.attach.map fun x => (⟨x.1, hk x.1 x.2⟩ : SlKR)).map (·.1) = l
      rw [List.map_map]
      exact List.attach_map_subtype_val l
    have hds : d.size = l.length := by rw [← hd, List.length_map, Array.length_toList]
    have hke : ∀ x : SlKR, ((fun x : SlKR => slotL renc x.1) x).length = 35 := fun x => slotL_len renc x.1 x.2 2 (renc_len _)
    have hfl : ∀ d : Array SlKR, (flatK (fun x : SlKR => slotL renc x.1) 35 d).toList = (d.toList.map (·.1)).flatMap (slotL renc) := fun d => by
      rw [flatK_list hke dCz, List.flatMap_map]
    have hH : HoldsK (fun x : SlKR => slotL renc x.1) 35 w g 0 d := holds_blockV hp.at (by rw [size_flatK, hds, hfl, hd]; exact htk)
    refine (AnyQ.slices_SortFunc Tryz.sortR 35 Tryz.isAgg108 Tryz.sizeOf108 (fun x : SlKR => slotL renc x.1) hke (fun x v hv => List.all_eq_true.1 (slotL_ones renc x.1 (renc_ones _)) v hv) (fun x y => Lib.compareBytes x.1.key y.1.key) (Tab.swo_key fun x : SlKR => x.1.key) 77 #[] g 0 cap d w (fun args w => by kernel_rfl) (fun m os dk _ x y => cmpR_c x.1 y.1 x.2 y.2 _) hH hp.lt (by omega) |> fun q => (by rw [hds] at q; exact q : Calls Tryz.prog 76 #[.slice (some ⟨g, 0, none⟩) l.length cap, .func (.func 77) #[] #[]] w _)).mono ?_
    rintro e w1 ⟨rfl, d', n', os, hpm, hst, rfl⟩
    obtain ⟨q1, q2⟩ := Tab.sorted_list (key := fun x : SlKR => x.1.key) (by rw [hds]; exact hpm) (by rw [hds]; exact hst)
    have hl' : d'.toList.length = l.length := by rw [q1.length_eq, Array.length_toList, hds]
    have hS := sat_sorted (n := n') (os := os) hp (flatK (fun x : SlKR => slotL renc x.1) 35 d')
    have hsz' : (flatK (fun x : SlKR => slotL renc x.1) 35 d').size = l.length * 35 := by rw [size_flatK, ← Array.length_toList, hl']
    refine ⟨_, rfl, d'.toList.map (·.1), ⟨by rw [← hd]; exact q1.map _, List.pairwise_map.2 q2⟩, ?_⟩
    refine hS.osl_of_pt ?_ hn' (by simpa [Sort.putCells] using hc) hcm ?_
    · rw [← hfl, Array.length_toList, hsz']
    · rw [← hfl, ← hsz']
      refine take_putCellsV _ ?_
      have : l.length * 35 ≤ cap * 35 := Nat.mul_le_mul_right _ hn'
      omega
end
end Go.Proofs.YtopconiamijknaaGreatDoor
namespace Go.Proofs.YtopconiamijknaaGreatDoor
open Go Go.Sl Go.Med Go.MapKept Go.RowKit
section
variable {w0 w : World} {F R : List HProp} {p B : Nat} {sv v : Value} {k : Frm.Bs} {m : Frm.Bs → Option (Rep.Rfc)} {t : Tab.Tb (Rep.Rfc)}
set_option maxRecDepth 20000 in
theorem risingR_c (hB : B ≤ 13000000) (h : Sat w0 w (TabMR p m B :: F)) :
    Calls Tryz.prog 45 #[ptr p] w (Rtn fun v w' => ∃ l : List (Tab.Slot (Rep.Rfc)), (Tab.Lists m (l.map fun x => (x.key, x.val)) ∧ (∀ x ∈ l, x.st = 1 ∧ x.key.length = 32) ∧ l.length ≤ B) ∧ Sat w0 w' (osl 108 35 v (l.flatMap (slotL renc)) :: TabMR p m B :: F)) := by
  obtain ⟨t, sv, ⟨ok, is, hb⟩, hR⟩ := TabMR.open h
  have hsz : t.slots.length ≤ 56000000 := by have := ok.size; omega
  have Hlen := Lib.hid (show ∀ x ∈ t.slots, (slotL renc x).length = 35 from fun x hx => slotL_len renc x (ok.good.key x hx) 2 (renc_len _))
  obtain ⟨la, lc, rfl⟩ := osl_rows Hlen.out (Sat.rd (hR.pick pick1)) dCz
  have Hok := Lib.hid ok; have His := Lib.hid is; have Hb := Lib.hid hb; have Hsz := Lib.hid hsz; have Hp0 := Lib.hid ok.good.pos_len
  clear h ok is hb hB
  have hS0 : Sat w0 w (osl 108 35 (.slice none 0 0) [] :: tbPt p 116 (.slice la t.slots.length lc) t.n t.gone :: osl 108 35 (.slice la t.slots.length lc) (t.slots.flatMap (slotL renc)) :: F) := Sat.osl_nil.2 hR
  clear hR
  go_enter Tryz.func45, Tryz.ntmps45
  go_wp2_with fail
  refine (okR_c Hp0.out (hS0.pick pick1)).mono ?_
  rintro ee w7 ⟨v, rfl, rfl, rfl⟩
  go_wp2_with ((with_reducible apply at_load); refine ⟨?_⟩; refine wl_load1 hS0 rFz pkD nLz evD kRz ?_)
  go_loopg [3, 14] t.slots.length (fun g oq iq wr => ∃ (i : Nat), g = t.slots.length - i ∧ i ≤ t.slots.length ∧ iq = .int .i64 i ∧
    Sat w0 wr (osl 108 35 oq (((t.slots.take i).filter fun x => decide (x.st = 1)).flatMap (slotL renc)) :: tbPt p 116 (.slice la t.slots.length lc) t.n t.gone :: osl 108 35 (.slice la t.slots.length lc) (t.slots.flatMap (slotL renc)) :: F))
  case atStart => exact ⟨0, rfl, Nat.zero_le _, rfl, hS0⟩
  case round =>
    obtain ⟨i, rfl, hi, rfl, hS⟩ := hrel
    clear hS0
    by_cases hlt : i < t.slots.length
    rotate_left
    · obtain rfl : i = t.slots.length := by omega
      have c1 : ¬ (t.slots.length : Int) < (t.slots.length : Int) := by omega
      rw [List.take_length] at hS
      have hfk : ∀ x ∈ t.slots.filter fun x => decide (x.st = 1), x.key.length = 32 := fun x hx => Hok.out.good.key x (List.mem_filter.1 hx).1
      have hs := sortR_c (t.slots.filter fun x => decide (x.st = 1)) hfk (Nat.le_trans (List.length_filter_le _ _) (Nat.le_trans hsz dCz)) hS
      clear hlt hi hS hfk
      go_wp2_with fail
      refine hs.mono ?_
      rintro ee w8 ⟨v, rfl, l, ⟨h1, h2⟩, hS8⟩
      clear hs
      have Hl := Lib.hid (Tab.lists_of Hok.out.good His.out h1 h2)
      have Hll := Lib.hid (show l.length ≤ B from by
        rw [h1.length_eq, ← List.countP_eq_length_filter]
        have e : t.slots.countP (fun x => decide (x.st = 1)) = Tab.fulls t.slots := by
          unfold Tab.fulls
          refine List.countP_congr fun x _ => ?_
          simp
        have := Hok.out.n; have := Hb.out; omega)
      clear h1 h2
      go_wp2_with fail
      go_ret
      exact ⟨_, rfl, l, ⟨Hl.out.1, Hl.out.2, Hll.out⟩, Sat.put1 (TabMR.shut Hok.out His.out Hb.out (hS8.sb))⟩
    have c1 : (i : Int) < (t.slots.length : Int) := by omega
    have hwi : IntKind.i64.wrap ((i : Int) + 1) = (i : Int) + 1 := IntWalk.i64_in _ (by omega)
    obtain ⟨x, hx⟩ : ∃ x, t.slots[i]? = some x := ⟨_, List.getElem?_eq_getElem hlt⟩
    have hxm := List.mem_of_getElem? hx
    have hst := Hok.out.good.st x hxm
    have Hxk := Lib.hid (Hok.out.good.key x hxm)
    obtain ⟨bk, off, c', hsv, hcell⟩ := osl_row Hlen.out (Sat.rd (hS.pick pick2)) hx dCz
    cases hsv
    have hl38 := Hlen.out x hxm
    have htk : (t.slots.take (i + 1)).filter (fun x => decide (x.st = 1)) = (t.slots.take i).filter (fun x => decide (x.st = 1)) ++ [x].filter fun x => decide (x.st = 1) := by
      rw [List.take_add_one, hx, Option.toList_some, List.filter_append]
    have Htk := Lib.hid htk
    have Hlt := Lib.hid hlt
    have hle5 : (((t.slots.take i).filter fun x => decide (x.st = 1)).flatMap (slotL renc)).length ≤ 2147483648 := by
      rw [rows_len fun y hy => Hlen.out y (List.mem_of_mem_take (List.mem_filter.1 hy).1)]
      have h1 := List.length_filter_le (fun x => decide (x.st = 1)) (t.slots.take i)
      have h2 := List.length_take_le' i t.slots
      have h3 := Hsz.out
      omega
    clear hx hxm hlt hi htk
    go_wp2_with (first
      | ((with_reducible apply at_load); refine ⟨?_⟩; refine wl_loadW (b := bk) (o := off + i * 35) (slotL renc x) rFz hcell Tryz.underlying108 rfl (by rw [hl38]; kernel_rfl) ?_)
      | (with_reducible apply at_alloc))
    refine ⟨?_⟩
    refine wl_alloc zSlotR hS rfl ?_
    intro b7 w7 hS7
    go_wp2_with (first | ((with_reducible apply at_store); refine ⟨?_⟩; refine wl_storeA (slotL renc x).toArray hS7 rFz rFz (by rw [List.size_toArray, hl38]; rfl) upd0 (by rw [List.size_toArray, hl38]; kernel_rfl) (by rw [List.toList_toArray]; exact slotL_ones renc x (renc_ones _)) ?_; intro w10 hS10) | (with_reducible apply at_load))
    refine ⟨?_⟩
    clear hS hS7 hcell
    have f0 : w10.cell? ⟨b7, 0, none⟩ = some (.int .i64 x.st) := hS10.cellP pick0 0 (by rw [List.getElem?_toArray]; rfl)
    by_cases h1 : x.st = 1
    rotate_left
    · have hst1 : ((x.st : Int) == 1) = false := by rw [beq_eq_false_iff_ne]; omega
      have e9 : (t.slots.take (i + 1)).filter (fun x => decide (x.st = 1)) = (t.slots.take i).filter (fun x => decide (x.st = 1)) := by
        rw [Htk.out, List.filter_cons_of_neg (by rw [decide_eq_false h1]; decide), List.filter_nil, List.append_nil]
      have E9 := Lib.hid e9
      clear h1 e9
      go_wp2_with fail
      go_roundg (t.slots.length - (i + 1))
      case measure => have := Hlt.out; omega
      case rel => exact ⟨i + 1, rfl, Hlt.out, by first | rfl | go_num, by rw [E9.out]; exact hS10.sb⟩
    · have hst1 : ((x.st : Int) == 1) = true := by rw [h1]; rfl
      have e9 : ((t.slots.take (i + 1)).filter (fun x => decide (x.st = 1))).flatMap (slotL renc) = ((t.slots.take i).filter (fun x => decide (x.st = 1))).flatMap (slotL renc) ++ slotL renc x := by
        rw [Htk.out, List.filter_cons_of_pos (by rw [decide_eq_true h1]), List.filter_nil, List.flatMap_append, List.flatMap_cons, List.flatMap_nil, List.append_nil]
      have E9 := Lib.hid e9
      clear h1 e9
      go_wp2_with (first
        | ((with_reducible apply at_load); refine ⟨?_⟩; refine wl_loadA hS10 rFz pkD Tryz.underlying108 rfl (by rw [List.size_toArray, hl38]; kernel_rfl) ?_)
        | (with_reducible apply at_build1))
      refine ⟨?_⟩
      refine wl_build1 (e := 108) (sz := 35) (by' := 56) kRz hS10 rFz (cs := (slotL renc x).toArray) rfl (by rw [List.size_toArray, hl38]) dCz ?_
      intro bN wN hN
      go_wp2_with (with_reducible apply at_append)
      refine ⟨?_⟩
      refine wl_app 108 35 56 kRz hN rFz rFz pkD pick0 (by rw [List.size_toArray, hl38]) (Nat.le_refl 1) (by rw [List.toList_toArray]; exact slotL_ones renc x (renc_ones _)) hle5 (by rw [List.size_toArray, hl38]; decide) dCz (by rw [List.toList_toArray]) ?_
      intro bA nA cA wA hA
      go_wp2_with fail
      rw [← E9.out] at hA
      go_roundg (t.slots.length - (i + 1))
      case measure => have := Hlt.out; omega
      case rel => exact ⟨i + 1, rfl, Hlt.out, by first | rfl | go_num, hA.sb⟩
end
def abR (x : Frm.Bs × Rep.Rfc) : Array Value := #[.agg (bys x.1).toArray, .agg (renc x.2).toArray]
section
variable {w0 w : World} {F : List HProp} {p B : Nat} {m : Frm.Bs → Option (Rep.Rfc)}
theorem allR_c (h : Sat w0 w F) : Calls Tryz.prog 26 #[ptr p] w
    (Rtn fun v w' => ∃ b, v = .func (.func 44) #[] #[ptr b] ∧ Sat w0 w' (pt b (.cells #[ptr p] 49 (0,0)) :: F)) := by
  go_enter Tryz.func26, Tryz.ntmps26
  go_wp2_with (first | ((with_reducible apply at_box); refine ⟨?_⟩; refine wl_box (by assumption) evD evD ?_; intro bB wB hB) | (with_reducible apply at_alloc))
  go_ret
  exact ⟨_, rfl, bB, rfl, hB⟩
set_option maxRecDepth 20000 in
theorem allR1_c {b : Nat} {l : List (Frm.Bs × Rep.Rfc)} (hB : B ≤ 13000000) (hl : Tab.Lists m l) :
    Iter Tryz.prog 44 #[ptr b] (l.map abR) w0 [TabMR p m B, pt b (.cells #[ptr p] 49 (0,0))] [TabMR p m B, pt b (.cells #[ptr p] 49 (0,0))] := by
  intro ly R hY W hW
  have Hl := Lib.hid hl
  have hW0 : Sat w0 W (TabMR p m B :: pt b (.cells #[ptr p] 49 (0,0)) :: R []) := hW
  clear hW hl
  show Calls Tryz.prog 44 #[.func (.yield ly) #[] #[], ptr b] W _
  go_enter Tryz.func44, Tryz.ntmps44
  have hr := risingR_c hB hW0
  go_wp2_with ((with_reducible apply at_load); refine ⟨?_⟩; refine wl_load1 hW0 rFz pkD nLz evD kRz ?_)
  clear hW0
  refine hr.mono ?_
  rintro ee w1 ⟨sv, rfl, s, ⟨hs1, hs2, hs3⟩, hS1⟩
  clear hr
  have e0 : l = s.map fun x => (x.key, x.val) := Hl.out.unique hs1
  clear hs1 Hl
  subst e0
  have Hs2 := Lib.hid hs2; have Hs3 := Lib.hid hs3
  have Hlen := Lib.hid (show ∀ x ∈ s, (slotL renc x).length = 35 from fun x hx => slotL_len renc x (hs2 x hx).2 2 (renc_len _))
  obtain ⟨la, lc, rfl⟩ := osl_rows Hlen.out (Sat.rd hS1) dCz
  have hsb : s.length ≤ 13000000 := Nat.le_trans hs3 hB
  clear hs2 hs3 hB
  go_wp2_with fail
  go_loopg [8] s.length (fun g iq wr => ∃ (i : Nat), g = s.length - i ∧ i ≤ s.length ∧ iq = .int .i64 i ∧
    Sat w0 wr (osl 108 35 (.slice la s.length lc) (s.flatMap (slotL renc)) :: TabMR p m B :: pt b (.cells #[ptr p] 49 (0,0)) :: R (((s.take i).map fun x => (x.key, x.val)).map abR)))
  case atStart => exact ⟨0, rfl, Nat.zero_le _, rfl, hS1⟩
  case round =>
    obtain ⟨i, rfl, hi, rfl, hS⟩ := hrel
    clear hS1
    by_cases hlt : i < s.length
    rotate_left
    · obtain rfl : i = s.length := by omega
      have c1 : ¬ (s.length : Int) < (s.length : Int) := by omega
      rw [List.take_length] at hS
      clear hlt hi
      go_wp2_with fail
      go_end0
      exact ⟨_, rfl, by rw [← List.map_map]; exact hS.drop⟩
    have c1 : (i : Int) < (s.length : Int) := by omega
    have hwi : IntKind.i64.wrap ((i : Int) + 1) = (i : Int) + 1 := IntWalk.i64_in _ (by omega)
    obtain ⟨x, hx⟩ : ∃ x, s[i]? = some x := ⟨_, List.getElem?_eq_getElem hlt⟩
    have hxm := List.mem_of_getElem? hx
    have Hxk := Lib.hid (Hs2.out x hxm).2
    obtain ⟨bk, off, c', hsv, hcell⟩ := osl_row Hlen.out (Sat.rd (hS.pick pick0)) hx dCz
    cases hsv
    have hl35 := Hlen.out x hxm
    have Htk := Lib.hid (show s.take (i + 1) = s.take i ++ [x] by rw [List.take_add_one, hx, Option.toList_some])
    have Hlt := Lib.hid hlt
    have Hspl := Lib.hid (show (s.map fun x => (x.key, x.val)).map abR = ((s.take i).map fun x => (x.key, x.val)).map abR ++ abR (x.key, x.val) :: ((s.drop (i + 1)).map fun x => (x.key, x.val)).map abR by
      have e : s = s.take i ++ x :: s.drop (i + 1) := by
        obtain ⟨h1, rfl⟩ := List.getElem?_eq_some_iff.1 hx
        rw [← List.drop_eq_getElem_cons h1, List.take_append_drop]
      conv => lhs; rw [e]
      simp only [List.map_append, List.map_cons])
    clear hx hxm hlt hi
    go_wp2_with (first
      | ((with_reducible apply at_load); refine ⟨?_⟩; refine wl_loadW (b := bk) (o := off + i * 35) (slotL renc x) rFz hcell Tryz.underlying108 rfl (by rw [hl35]; kernel_rfl) ?_)
      | (with_reducible apply at_alloc))
    refine ⟨?_⟩
    refine wl_alloc zSlotR hS rfl ?_
    intro b7 w7 hS7
    go_wp2_with ((with_reducible apply at_store))
    refine ⟨?_⟩
    refine wl_storeA (slotL renc x).toArray hS7 rFz rFz (by rw [List.size_toArray, hl35]; rfl) upd0 (by rw [List.size_toArray, hl35]; kernel_rfl) (by rw [List.toList_toArray]; exact slotL_ones renc x (renc_ones _)) ?_
    intro w10 hS10
    clear hS hS7 hcell
    have f1 : w10.rangeAt b7 1 (bys x.key) := slot_key (hS10.pick pick0)
    have f2 : w10.rangeAt b7 33 (renc x.val) := slot_val Hxk.out (hS10.pick pick0)
    have e1 := Tryz.underlying24
    have hS11 : Sat w0 w10 (R (((s.take i).map fun x => (x.key, x.val)).map abR) ++ [osl 108 35 (.slice (some ⟨bk, off, none⟩) s.length lc) (s.flatMap (slotL renc)), TabMR p m B, pt b (.cells #[ptr p] 49 (0,0))]) :=
      (hS10.drop : Sat w0 w10 ([osl 108 35 (.slice (some ⟨bk, off, none⟩) s.length lc) (s.flatMap (slotL renc)), TabMR p m B, pt b (.cells #[ptr p] 49 (0,0))] ++ R (((s.take i).map fun x => (x.key, x.val)).map abR))).appc
    obtain ⟨yf, yt, ya, yb, hy, hr⟩ := hY _ _ _ w10 _ Hspl.out hS11
    clear hS11 hS10 hY
    go_step
    go_step
    go_step
    refine region_yield6 rFz ?_
    intro K hK
    go_wp2_with (first
      | ((with_reducible apply at_load); refine ⟨?_⟩; refine wl_loadW (b := b7) (o := 1) (bys x.key) rFz f1 e1 rfl (by rw [bys_len, Hxk.out]; kernel_rfl) ?_)
      | ((with_reducible apply at_load); refine ⟨?_⟩; refine wl_loadW (b := b7) (o := 33) (renc x.val) rFz f2 Tryz.underlying44 rfl kRz ?_))
    refine ⟨_, yf, yt, ya, yb, hy, hr.mono ?_⟩
    rintro ee w12 ⟨rfl, hS12⟩
    refine ⟨_, rfl, ?_⟩
    have hS13 : Sat w0 w12 (osl 108 35 (.slice (some ⟨bk, off, none⟩) s.length lc) (s.flatMap (slotL renc)) :: TabMR p m B :: pt b (.cells #[ptr p] 49 (0,0)) :: R (((s.take (i + 1)).map fun x => (x.key, x.val)).map abR)) := by
      have := hS12.appc
      rw [Htk.out, List.map_append, List.map_append]
      exact this
    clear hS12 hr hy f1 f2
    go_wp2_with fail
    go_roundg (s.length - (i + 1))
    case measure => have := Hlt.out; omega
    case rel => exact ⟨i + 1, rfl, Hlt.out, by first | rfl | go_num, hS13⟩
end
def cdL (q : Frm.Bs × Rep.Rfc) : List Value := bys q.1 ++ renc q.2
theorem cdL_len (q : Frm.Bs × Rep.Rfc) (hk : q.1.length = 32) : (cdL q).length = 34 := by unfold cdL; rw [List.length_append, bys_len, hk]; rfl
theorem cdL_ones (q : Frm.Bs × Rep.Rfc) : (cdL q).all (·.oneCell') = true := by unfold cdL; rw [List.all_append, bys_ones]; rfl
theorem plCd : placesB Tryz.prog 75 = some [(0, 32), (32, 2)] := by kernel_rfl
theorem zCd : zeroB Tryz.prog 75 = some (.agg (cdL (Frm.zero32, zwR)).toArray) := by kernel_rfl
theorem run_cd (k : Frm.Bs) (hk : k.length = 32) (v : Rep.Rfc) (w : World) : (Instr.build 75 #[(0, .agg (bys k).toArray), (1, .agg (renc v).toArray)]).run Tryz.prog w = .ok (.agg (cdL (k, v)).toArray) w := by
  have h := run_build (P := Tryz.prog) [(0, .agg (bys k).toArray), (1, .agg (renc v).toArray)] plCd zCd (by
    intro p hp
    have hzz : (Value.agg (cdL (Frm.zero32, zwR)).toArray).cells.size = 34 := by rfl
    rw [hzz]
    rcases List.mem_cons.1 hp with rfl | hp
    · refine ⟨0, ?_, ?_⟩
      · show some (0, 32) = some (0, (bys k).toArray.size); rw [List.size_toArray, bys_len, hk]
      · show 0 + (bys k).toArray.size ≤ 34
        rw [List.size_toArray, bys_len, hk]; decide
    · rw [List.mem_singleton.1 hp]
      exact ⟨32, rfl, by show 32 + 2 ≤ 34; omega⟩) w
  refine h.trans ?_
  have hz : Frm.zero32.length = 32 := rfl
  have hzl : (cdL (Frm.zero32, zwR)).length = 34 := cdL_len _ hz
  have e : putsAt (putsAt (cdL (Frm.zero32, zwR)).toArray 0 (bys k)) 32 (renc v) = (cdL (k, v)).toArray := by
    apply putsAt_eq
    rw [puts_putL _ _ _ (by rw [putsAt_size, List.size_toArray, hzl]; exact Nat.le_refl 34), puts_putL _ _ _ (by rw [List.size_toArray, hzl, bys_len, hk]; decide), List.toList_toArray]
    have e1 : putL (cdL (Frm.zero32, zwR)) 0 (bys k) = bys k ++ renc zwR := by
      unfold cdL
      rw [putL_app2 _ _ _ _ (by rw [bys_len, bys_len, hk, hz]; decide), putL_all (by rw [bys_len, bys_len, hk, hz])]
    have h0 := putL_app (bys k) (renc zwR) (renc v) 0
    rw [bys_len, hk, putL_all (xs := renc zwR) (vs := renc v) rFz] at h0
    rw [e1]
    exact h0
  exact congrArg (fun x => Result.ok (Value.agg x) w) e
theorem res_t1c {fn : Func} {t : Tmp} (h : fn.results = #[.tmp t]) (tmps : Array Value) (P : Program) (w : World) : (results fn tmps).run P w = .ok (tmps.getD t undef) w := by
  simp only [results, h]
  simp
theorem endsM_retc {P : Program} {w0 w : World} {F : List HProp} {fn : Func} {a : Act} {K : Ending → World → Prop} {D : Nat} {v : Value} (ha : a.defers = [{ target := .collected D, args := #[] }]) (h : Sat w0 w (pt D (.deferred (some [])) :: F)) (hv : ∀ w, (results fn a.tmps).run P w = .ok v w)
    (hK : ∀ w', Sat w0 w' F → K (.returned v) w') : endsM P fn K .ret a w := by
  show LeavesInM Fence.wide 0 P fn a.tmps K a.defers .returning w
  rw [ha]
  exact leaves_mark h hv hK
def outC (b : Nat) (xs : List (Frm.Bs × Rep.Rfc)) : HProp := Sl.ex fun ov : Value => star (pt b (.cells #[ov] 22 (0,0))) (osl 75 34 ov (xs.flatMap cdL))
section
variable {w0 w : World} {F : List HProp} {p B b : Nat} {m : Frm.Bs → Option Rep.Rfc} {kv xs : List (Frm.Bs × Rep.Rfc)} {s r : Nat} {st : Bool}
theorem outC_open (h : Sat w0 w (outC b xs :: F)) : ∃ ov, Sat w0 w (pt b (.cells #[ov] 22 (0,0)) :: osl 75 34 ov (xs.flatMap cdL) :: F) := by
  obtain ⟨ov, h1⟩ := Sat.ex.1 h
  exact ⟨ov, Sat.star.1 h1⟩
theorem outC_shut {ov : Value} (h : Sat w0 w (pt b (.cells #[ov] 22 (0,0)) :: osl 75 34 ov (xs.flatMap cdL) :: F)) : Sat w0 w (outC b xs :: F) := Sat.ex.2 ⟨ov, Sat.star.2 h⟩
theorem zCds2 : zeroB Tryz.prog 22 = some (.slice none 0 0) := by kernel_rfl
set_option maxRecDepth 20000 in
theorem scounts_c (hl : Tab.Lists m kv) (hB : B ≤ 13000000) (hkl : kv.length ≤ 13000000) (hks : ∀ q ∈ kv, q.1.length = 32) (h : Sat w0 w (TabMR p m B :: stoPt s r p st :: F)) :
    Calls Tryz.prog 10 #[ptr s] w (Rtn fun v w' => Sat w0 w' (osl 75 34 v (kv.flatMap cdL) :: TabMR p m B :: stoPt s r p st :: F)) := by
  have Hl := Lib.hid hl; have HB := Lib.hid hB; have Hkl := Lib.hid hkl; have Hks := Lib.hid hks
  clear hl hB hkl hks
  refine calls_of_wp_marks Tryz.func10 rfl ?_
  simp only [Tryz.ntmps10, List.size_toArray, List.length_cons, List.length_nil, Nat.reduceAdd, Nat.reduceSub, Array.replicate_succ, Array.replicate_zero, List.push_toArray, List.append_toArray, List.nil_append, List.cons_append]
  go_wp2_with (with_reducible apply at_alloc)
  refine ⟨?_⟩
  refine wl_alloc zCds2 h rfl ?_
  intro b3 w3 h3
  have hok := sok_c (h3.sb : Sat w0 w3 (stoPt s r p st :: pt b3 (.cells #[.slice none 0 0] 22 (0,0)) :: TabMR p m B :: F))
  have e1 : w3.cell? ⟨s, 1, none⟩ = some (ptr p) := h3.cellP pick2 1 rfl
  go_wp2_with fail
  refine hok.mono ?_
  rintro ee w33 ⟨v, rfl, rfl, rfl⟩
  clear hok
  go_wp2_with fail
  refine (allR_c h3).mono ?_
  rintro ee w4 ⟨v, rfl, bA, rfl, h4⟩
  obtain ⟨G, hGe⟩ : ∃ G, stoPt s r p st :: F = G := ⟨_, rfl⟩
  rw [hGe] at h4
  have HGe := Lib.hid hGe
  clear hGe e1
  go_wp2_with fail
  have h5 : Sat w0 w4 (TabMR p m B :: pt bA (.cells #[ptr p] 49 (0,0)) :: outC b3 (kv.take 0) :: G) := by
    have h6 : Sat w0 w4 (pt b3 (.cells #[.slice none 0 0] 22 (0,0)) :: TabMR p m B :: pt bA (.cells #[ptr p] 49 (0,0)) :: G) := h4.sb
    exact (outC_shut (xs := []) ((Sat.osl_nil.2 h6).sb : Sat w0 w4 (pt b3 (.cells #[.slice none 0 0] 22 (0,0)) :: osl 75 34 (.slice none 0 0) [] :: TabMR p m B :: pt bA (.cells #[ptr p] 49 (0,0)) :: G))).sb
  clear h h3 h4
  refine wp_rangeFunc_sat (gf := 44) (lb := #[ptr bA]) rFz (fun args w => by kernel_rfl) (allR1_c HB.out Hl.out) ?_ (fun pre => outC b3 (kv.take pre.length) :: G) h5 ?_ ?_
  · intro x hx
    obtain ⟨p, _, rfl⟩ := List.mem_map.1 hx
    rfl
  · clear h5
    intro l pre x post U W hkv hS T hT
    obtain ⟨i, hi⟩ : ∃ i, i = pre.length := ⟨_, rfl⟩
    have hlt : i < kv.length := by
      have := congrArg List.length hkv
      rw [List.length_map, List.length_append, List.length_cons] at this
      omega
    obtain ⟨⟨k, y⟩, hy⟩ : ∃ p, kv[i]? = some p := ⟨_, List.getElem?_eq_getElem hlt⟩
    obtain rfl : x = abR (k, y) := by
      have e1 : (kv.map abR)[i]? = some (abR (k, y)) := by rw [List.getElem?_map, hy]; rfl
      rw [hkv, hi, List.getElem?_append_right (Nat.le_refl _), Nat.sub_self, List.getElem?_cons_zero] at e1
      exact Option.some.inj e1
    have hk32 := Hks.out _ (List.mem_of_getElem? hy)
    have htk : kv.take (i + 1) = kv.take i ++ [(k, y)] := by rw [List.take_add_one, hy, Option.toList_some]
    have hil : (pre ++ [abR (k, y)]).length = i + 1 := by rw [List.length_append, hi]; rfl
    have Htk := Lib.hid htk; have Hil := Lib.hid hil; have Hk32 := Lib.hid (show k.length = 32 from hk32)
    have Hln := Lib.hid (show ((kv.take i).flatMap cdL).length ≤ 2147483648 from by
      rw [rows_len (k := 34) fun q hq => cdL_len q (Hks.out q (List.mem_of_mem_take hq)), List.length_take]
      have := Hkl.out
      omega)
    have hS0 : Sat w0 W (outC b3 (kv.take i) :: (G ++ U)) := by rw [hi]; exact hS
    clear hkv hS hi hlt hy hk32 htk hil
    simp [abR] at hT
    subst hT
    refine wpIn_seq_k fun K hK => ?_
    refine region_in_lit rFz fun K2 hK2 => ?_
    go_wp2_with (with_reducible apply at_alloc)
    refine ⟨?_⟩
    refine wl_alloc zID hS0 rfl ?_
    intro b5 w5 h5
    go_wp2_with ((with_reducible apply at_store); refine ⟨?_⟩; refine wl_storeA (bys k).toArray h5 rFz rFz (by rw [List.size_toArray, bys_len, Hk32.out]; rfl) upd0 (by rw [List.size_toArray, bys_len, Hk32.out]; kernel_rfl) (by rw [List.toList_toArray]; exact bys_ones _) ?_; intro w6 h6)
    refine region_in_lit rFz fun K3 hK3 => ?_
    go_wp2_with (with_reducible apply at_alloc)
    refine ⟨?_⟩
    refine wl_alloc zValR h6 rfl ?_
    intro b6 w7 h7
    go_wp2_with ((with_reducible apply at_store); refine ⟨?_⟩; refine wl_storeA (renc y).toArray h7 rFz rFz rFz upd0 kRz rFz ?_; intro w8 h8)
    refine ⟨pt b6 (.cells (renc y).toArray 44 (0,0)) :: pt b5 (.cells (bys k).toArray 24 (0,0)) :: outC b3 (kv.take i) :: G, h8, ?_⟩
    clear h8 h7 h6 h5 hS0
    intro U' w9 h9
    have h10 : Sat w0 w9 (pt b6 (.cells (renc y).toArray 44 (0,0)) :: pt b5 (.cells (bys k).toArray 24 (0,0)) :: outC b3 (kv.take i) :: (G ++ U')) := h9
    clear h9
    obtain ⟨ov, h11⟩ := outC_open (h10.sb : Sat w0 w9 (outC b3 (kv.take i) :: pt b6 (.cells (renc y).toArray 44 (0,0)) :: pt b5 (.cells (bys k).toArray 24 (0,0)) :: (G ++ U')))
    clear h10
    obtain ⟨oa, on, oc, rfl, _, _⟩ := Sat.rd (h11.pick pick1)
    refine wpIn_block (region_in_lit rFz fun K6 hK6 => ?_)
    go_wp2_with (first
      | ((with_reducible apply at_load); refine ⟨?_⟩; first
        | refine wl_loadA h11 rFz pick2 Tryz.underlying44 rfl kRz ?_
        | refine wl_loadA h11 rFz pick3 Tryz.underlying24 rfl (by rw [List.size_toArray, bys_len, Hk32.out]; kernel_rfl) ?_
        | refine wl_load1 h11 rFz pick0 nLz evD kRz ?_)
      | ((with_reducible apply at_build2); refine ⟨?_⟩; refine wl_build2 rFz rFz (fun w => run_cd k Hk32.out y w) ?_)
      | ((with_reducible apply at_build1); refine ⟨?_⟩; refine wl_build1 (e := 75) (sz := 34) (by' := 48) (cs := (cdL (k, y)).toArray) kRz h11 rFz rfl (by rw [List.size_toArray, cdL_len _ Hk32.out]) nLz ?_; intro bN wN hN)
      | (with_reducible apply at_append))
    refine ⟨?_⟩
    refine wl_app (cs := (cdL (k, y)).toArray) 75 34 48 kRz hN rFz rFz pick2 pick0 (by rw [List.size_toArray, cdL_len _ Hk32.out]) nLz (by rw [List.toList_toArray]; exact cdL_ones (k, y)) Hln.out (by rw [List.size_toArray, cdL_len _ Hk32.out]; decide) nLz rfl ?_
    intro b' n' c' w12 h12
    clear h11 hN
    go_wp2_with (with_reducible apply at_store)
    refine ⟨?_⟩
    refine wl_store (cs' := #[.slice (some ⟨b', 0, none⟩) n' c']) (h12.sb : Sat w0 w12 (pt b3 (.cells #[.slice oa on oc] 22 (0,0)) :: osl 75 34 (.slice (some ⟨b', 0, none⟩) n' c') ((kv.take i).flatMap cdL ++ cdL (k, y)) :: (G ++ U'))) rFz rFz rFz upd0 nLz kRz rFz ?_
    intro w13 h13
    go_wp2_with fail
    refine ⟨trivial, ?_⟩
    rw [Hil.out, Htk.out]
    have h14 := outC_shut (xs := kv.take i ++ [(k, y)]) (by rw [List.flatMap_append, List.flatMap_cons, List.flatMap_nil, List.append_nil]; exact h13)
    exact h14
  · intro D w8 h8
    have h9 : Sat w0 w8 (TabMR p m B :: pt bA (.cells #[ptr p] 49 (0,0)) :: outC b3 kv :: (G ++ [pt D (.deferred (some []))])) := by
      have q := h8
      rw [List.length_map, List.take_length] at q
      exact q
    have hA : Sat w0 w8 (pt D (.deferred (some [])) :: TabMR p m B :: pt bA (.cells #[ptr p] 49 (0,0)) :: outC b3 kv :: G) :=
      Sat.appc (L := TabMR p m B :: pt bA (.cells #[ptr p] 49 (0,0)) :: outC b3 kv :: G) (R := [pt D (.deferred (some []))]) h9
    clear h5 h8 h9
    obtain ⟨ov, hB2⟩ := outC_open (hA.sb : Sat w0 w8 (outC b3 kv :: pt D (.deferred (some [])) :: TabMR p m B :: G))
    clear hA
    obtain ⟨oa, on, oc, rfl, _, _⟩ := Sat.rd (hB2.pick pick1)
    go_wp2_with ((with_reducible apply at_load); refine ⟨?_⟩; refine wl_load1 hB2 rFz pick0 nLz evD kRz ?_)
    refine endsM_retc rfl (hB2.sb : Sat w0 w8 (pt D (.deferred (some [])) :: osl 75 34 (.slice oa on oc) (kv.flatMap cdL) :: TabMR p m B :: G)) (fun w => res_t1c (t := 2) rFz _ _ w) ?_
    intro w9 h9
    exact ⟨_, rfl, by rw [HGe.out]; exact h9⟩
end
end Go.Proofs.YtopconiamijknaaGreatDoor
namespace Go.Chk
open Go.Frm (Bs)
abbrev CD := Bs × Go.Rep.Rfc
def Rise (l : List CD) : Prop := ∀ j a b, l[j]? = some a → l[j + 1]? = some b → a.1 < b.1
def Okc (c : Go.Rep.Rfc) : Prop := 1 ≤ c.refs ∧ c.refs ≤ 1073741824 ∧ 0 ≤ c.size ∧ c.size ≤ 16379
def All (l : List CD) : Prop := ∀ d ∈ l, Okc d.2
def Is (l : List CD) (e : Int) : Prop := (e = 0 ∧ Rise l ∧ All l) ∨ (e = 2 ∧ Rise l ∧ ¬ All l) ∨ (e = 18 ∧ ¬ Rise l)
theorem Is.unique {l : List CD} {e f : Int} (h : Is l e) (k : Is l f) : e = f := by
  rcases h with ⟨rfl, a, b⟩ | ⟨rfl, a, b⟩ | ⟨rfl, a⟩ <;> rcases k with ⟨rfl, c, d⟩ | ⟨rfl, c, d⟩ | ⟨rfl, c⟩ <;> first | rfl | exact absurd a c | exact absurd c a | exact absurd b d | exact absurd d b
theorem Rise.lt {l : List CD} (h : Rise l) : ∀ (n j : Nat) (a b : CD), l[j]? = some a → l[j + n + 1]? = some b → a.1 < b.1
  | 0, j, a, b, ha, hb => h j a b ha hb
  | n + 1, j, a, b, ha, hb => by
    have hlt : j + n + 1 < l.length := by have := (List.getElem?_eq_some_iff.1 hb).1; omega
    exact List.lt_trans (h.lt n j a _ ha (List.getElem?_eq_getElem hlt)) (h (j + n + 1) _ b (List.getElem?_eq_getElem hlt) hb)
theorem Rise.pair {l : List CD} (h : Rise l) : l.Pairwise fun a b => a.1 < b.1 := by
  rw [List.pairwise_iff_getElem]
  intro i j hi hj hij
  obtain ⟨n, rfl⟩ : ∃ n, j = i + n + 1 := ⟨j - i - 1, by omega⟩
  exact h.lt n i _ _ (List.getElem?_eq_getElem hi) (List.getElem?_eq_getElem hj)
end Go.Chk
namespace Go.Proofs.YtopconiamijknaaGreatDoor
open Go Go.Sl Go.Med Go.MapKept Go.RowKit
section
variable {w0 w : World} {F : List HProp} {lv : Value}
set_option maxRecDepth 20000 in
theorem filled_c (l : List Chk.CD) (hn : l.length ≤ 1000) (hr : Ro w0 F (rdsl 34 lv (l.flatMap cdL))) (hk : ∀ d ∈ l, d.1.length = 32) (h : Sat w0 w F) :
    Calls Tryz.prog 23 #[lv] w (Rtn fun v w' => (Chk.Is l 0 ∧ ∃ t, v = .tuple #[ptr t, errno 0] ∧ Sat w0 w' (TabMR t (Tab.mapOf l) l.length :: F)) ∨ (∃ e, Chk.Is l e ∧ e ≠ 0 ∧ v = .tuple #[.pointer none, errno e] ∧ Sat w0 w' F)) := by
  have hcl : ∀ d ∈ l, (cdL d).length = 34 := fun d hd => cdL_len d (hk d hd)
  obtain ⟨la, lc, rfl⟩ := osl_rows hcl (hr w h) dCz
  have Hr := Lib.hid hr; have Hk := Lib.hid hk; have Hcl := Lib.hid hcl; have Hn := Lib.hid hn
  have hnew := newR_c h
  clear hr hk hcl hn h
  go_enter Tryz.func23, Tryz.ntmps23
  go_wp2_with fail
  refine hnew.mono ?_
  rintro ee w1 ⟨v, rfl, t, rfl, h1⟩
  clear hnew
  go_wp2_with fail
  go_loopg [12] l.length (fun g iq wr => ∃ i : Nat, g = l.length - i ∧ iq = .int .i64 i ∧ i ≤ l.length ∧ (∀ j a b, j + 1 < i → l[j]? = some a → l[j + 1]? = some b → a.1 < b.1) ∧ Sat w0 wr (TabMR t (fun _ => none) 0 :: F))
  case atStart => exact ⟨0, rfl, rfl, Nat.zero_le _, fun j a b hj => absurd hj (Nat.not_lt_zero _), h1⟩
  case round =>
    obtain ⟨i, rfl, rfl, hi, hal, hS⟩ := hrel
    clear h1
    by_cases hlt : i < l.length
    · have c1 : (i : Int) < (l.length : Int) := by omega
      have hw2 : IntKind.i64.wrap ((i : Int) + 1) = (i : Int) + 1 := IntWalk.i64_in _ (by have := Hn.out; omega)
      obtain ⟨x, hx⟩ : ∃ q, l[i]? = some q := ⟨_, List.getElem?_eq_getElem hlt⟩
      have Hx := Lib.hid hx; have Hal := Lib.hid hal; have Hlt := Lib.hid hlt
      have Hxk := Lib.hid (Hk.out x (List.mem_of_getElem? hx)); have Hxl := Lib.hid (Hcl.out x (List.mem_of_getElem? hx))
      obtain ⟨bk, off, c', hsv, hcell⟩ := osl_row (f := cdL) (k := 34) Hcl.out (Hr.out _ hS.drop) hx dCz
      cases hsv
      clear hx hal hlt hi
      go_wp2_with (first
        | ((with_reducible apply at_load); refine ⟨?_⟩; refine wl_loadW (b := bk) (o := off + i * 34) (cdL x) rFz hcell Tryz.underlying75 rfl (by rw [Hxl.out]; kernel_rfl) ?_)
        | (with_reducible apply at_alloc))
      refine ⟨?_⟩
      refine wl_alloc zCd hS rfl ?_
      intro b6 w6 h6
      clear hcell hS
      go_wp2_with (with_reducible apply at_store)
      refine ⟨?_⟩
      refine wl_storeA (cdL x).toArray h6 rFz rFz (by rw [List.size_toArray, Hxl.out]; rfl) upd0 (by rw [List.size_toArray, Hxl.out]; kernel_rfl) (by rw [List.toList_toArray]; exact cdL_ones _) ?_
      intro w7 h7
      clear h6
      have h8 := h7.drew
      clear h7
      rcases Nat.eq_zero_or_pos i with rfl | hpos
      · go_wp2_with fail
        refine wpL_begin [12, 13] (fun w' => True) kRz ?_
        refine rp 0 (hy := (yl_move evD)) (h := ?_)
        refine rp 1 (hy := (yl_bin evD evD rnD)) (h := ?_)
        refine rp 2 (hy := (yl_move evD)) (h := ?_)
        refine rg_skip 3 evD kRz i3z rFz (by go_frame; first | done | rfl) ?_
        refine rg_skip 4 evD kRz i3z rFz (by go_frame; first | done | rfl) ?_
        refine rg_skip 5 evD kRz i3z rFz (by go_frame; first | done | rfl) ?_
        refine rg_skip 6 evD kRz i3z rFz (by go_frame; first | done | rfl) ?_
        refine rg_skip 7 evD kRz i3z rFz (by go_frame; first | done | rfl) ?_
        refine rg_skip 8 evD kRz i3z rFz (by go_frame; first | done | rfl) ?_
        refine rg_skip 9 evD kRz i3z rFz (by go_frame; first | done | rfl) ?_
        refine rg_skip 10 evD kRz i3z rFz (by go_frame; first | done | rfl) ?_
        refine rg_skip 11 evD kRz i3z rFz (by go_frame; first | done | rfl) ?_
        refine rg_skip 12 evD kRz i3z rFz (by go_frame; first | done | rfl) ?_
        refine rp 13 (hy := (yg_pick rFz evD evD)) (h := ?_)
        refine wpL_done kRz ?_
        go_wp2_with fail
        go_roundg (l.length - (0 + 1))
        case measure => have := Hlt.out; omega
        case rel => exact ⟨0 + 1, rfl, by first | rfl | go_num, Hlt.out, fun q a b hq => absurd hq (by omega), h8.drop⟩
      · obtain ⟨j, rfl⟩ : ∃ j, i = j + 1 := ⟨i - 1, by omega⟩
        clear hpos
        have c0 : (j : Int) < (l.length : Int) := by have := Hlt.out; omega
        have c2 : (0 : Int) < ((j + 1 : Nat) : Int) := by omega
        have hw0 : IntKind.i64.wrap (j : Int) = (j : Int) := IntWalk.i64_in _ (by have := Hn.out; have := Hlt.out; omega)
        have hw3 : IntKind.i64.wrap ((j : Int) + 1 + 1) = (j : Int) + 1 + 1 := IntWalk.i64_in _ (by have := Hn.out; have := Hlt.out; omega)
        clear hw2
        obtain ⟨p, hp⟩ : ∃ q, l[j]? = some q := ⟨_, List.getElem?_eq_getElem (by have := Hlt.out; omega)⟩
        have Hp := Lib.hid hp
        have Hpk := Lib.hid (Hk.out p (List.mem_of_getElem? hp))
        obtain ⟨bk', off', c3, e2, hc2⟩ := osl_row (f := cdL) (k := 34) Hcl.out (Hr.out _ h8.drop.drop) hp dCz
        cases e2
        have hG0 : World.rangeAt _ bk (off + j * 34) (bys p.1) ∧ World.rangeAt _ b6 0 (bys x.1) := ⟨fun q y hq => hc2 q y (by unfold cdL; rw [List.getElem?_append_left (List.getElem?_eq_some_iff.1 hq).1]; exact hq), fun q y hq => h8.cellP pick0 (0 + q) (by rw [Nat.zero_add, List.getElem?_toArray]; unfold cdL; rw [List.getElem?_append_left (List.getElem?_eq_some_iff.1 hq).1]; exact hq)⟩
        clear hp hc2
        have hless := tless_c p.1 x.1 Hpk.out Hxk.out h8
        by_cases hab : p.1 < x.1
        focus
          have Hab := Lib.hid hab
          rw [decide_eq_true hab] at hless
          clear hab
          go_wp2_with fail
          refine wpL_begin [11, 12, 13] (fun w' => w'.rangeAt bk (off + j * 34) (bys p.1) ∧ w'.rangeAt b6 0 (bys x.1)) kRz ?_
          have hG := hG0
          clear hG0
          refine rp 0 (hy := (yl_move evD)) (h := ?_)
          refine rp 1 (hy := (yl_bin evD evD rnD)) (h := ?_)
          refine rp 2 (hy := (yl_move evD)) (h := ?_)
          refine rp 3 (hy := (yg_move rFz evD)) (h := ?_)
          refine rp 4 (hy := (yg_move rFz evD)) (h := ?_)
          refine rp 5 (hy := (yg_bin rFz evD evD rnD)) (h := ?_)
          refine rp 6 (hy := (yg_index rFz evD evD rnD)) (h := ?_)
          refine rp 7 (hy := (yg_field rFz evD rnD)) (h := ?_)
          refine rg_take 8 evD kRz i3z (tg_loadN (b := bk) (o := off + j * 34) (bys p.1) rFz rFz Tryz.underlying24 rfl (by rw [bys_len, Hpk.out]; kernel_rfl) (fun w hw => hw.1)) (by assumption) (by go_frame; first | done | rfl) ?_
          refine rp 9 (hy := (yg_field rFz evD rnD)) (h := ?_)
          refine rg_take 10 evD kRz i3z (tg_loadN (b := b6) (o := 0) (bys x.1) rFz rFz Tryz.underlying24 rfl (by rw [bys_len, Hxk.out]; kernel_rfl) (fun w hw => hw.2)) (by assumption) (by go_frame; first | done | rfl) ?_
          clear hG
          refine rg_eff 11 evD kRz (fun K hK => ?_)
          refine eg_call [.agg (bys p.1).toArray, .agg (bys x.1).toArray] rFz kRz rFz ?_
          refine hless.mono ?_
          rintro ee w10 ⟨v, rfl, rfl, h10⟩
          refine hK _ _ (.inl rfl) ?_
          clear hK hless h8
          refine rp 12 (hy := (yg_un rFz evD rnD)) (h := ?_)
          refine rp 13 (hy := (yg_pick rFz evD evD)) (h := ?_)
          refine wpL_done kRz ?_
          go_wp2_with fail
          go_roundg (l.length - (j + 1 + 1))
          case measure => have := Hlt.out; omega
          case rel =>
            refine ⟨j + 1 + 1, rfl, by first | rfl | go_num, Hlt.out, fun q a b hq ha hb => ?_, h10.drop⟩
            rcases Nat.lt_succ_iff_lt_or_eq.1 hq with hq | hq
            · exact Hal.out q a b hq ha hb
            · obtain rfl : q = j := by omega
              rw [Hp.out] at ha; rw [Hx.out] at hb
              cases ha; cases hb
              exact Hab.out
        focus
          have Hab := Lib.hid hab
          rw [decide_eq_false hab] at hless
          clear hab
          go_wp2_with fail
          refine wpL_begin [11, 12, 13] (fun w' => w'.rangeAt bk (off + j * 34) (bys p.1) ∧ w'.rangeAt b6 0 (bys x.1)) kRz ?_
          have hG := hG0
          clear hG0
          refine rp 0 (hy := (yl_move evD)) (h := ?_)
          refine rp 1 (hy := (yl_bin evD evD rnD)) (h := ?_)
          refine rp 2 (hy := (yl_move evD)) (h := ?_)
          refine rp 3 (hy := (yg_move rFz evD)) (h := ?_)
          refine rp 4 (hy := (yg_move rFz evD)) (h := ?_)
          refine rp 5 (hy := (yg_bin rFz evD evD rnD)) (h := ?_)
          refine rp 6 (hy := (yg_index rFz evD evD rnD)) (h := ?_)
          refine rp 7 (hy := (yg_field rFz evD rnD)) (h := ?_)
          refine rg_take 8 evD kRz i3z (tg_loadN (b := bk) (o := off + j * 34) (bys p.1) rFz rFz Tryz.underlying24 rfl (by rw [bys_len, Hpk.out]; kernel_rfl) (fun w hw => hw.1)) (by assumption) (by go_frame; first | done | rfl) ?_
          refine rp 9 (hy := (yg_field rFz evD rnD)) (h := ?_)
          refine rg_take 10 evD kRz i3z (tg_loadN (b := b6) (o := 0) (bys x.1) rFz rFz Tryz.underlying24 rfl (by rw [bys_len, Hxk.out]; kernel_rfl) (fun w hw => hw.2)) (by assumption) (by go_frame; first | done | rfl) ?_
          clear hG
          refine rg_eff 11 evD kRz (fun K hK => ?_)
          refine eg_call [.agg (bys p.1).toArray, .agg (bys x.1).toArray] rFz kRz rFz ?_
          refine hless.mono ?_
          rintro ee w10 ⟨v, rfl, rfl, h10⟩
          refine hK _ _ (.inl rfl) ?_
          clear hK hless h8
          refine rp 12 (hy := (yg_un rFz evD rnD)) (h := ?_)
          refine rp 13 (hy := (yg_pick rFz evD evD)) (h := ?_)
          refine wpL_done kRz ?_
          go_wp2_with fail
          go_ret2
          exact ⟨_, rfl, .inr ⟨18, .inr (.inr ⟨rfl, fun k => Hab.out (k j p x Hp.out Hx.out)⟩), by decide, rfl, h10.sb⟩⟩
    · obtain rfl : i = l.length := by omega
      have c1 : ¬ (l.length : Int) < (l.length : Int) := by omega
      have HR := Lib.hid (show Chk.Rise l from fun j a b ha hb => hal j a b (by have := (List.getElem?_eq_some_iff.1 hb).1; omega) ha hb)
      clear hal hlt hi
      go_wp2_with fail
      clear c1
      go_loopg [34] l.length (fun g iq wr => ∃ i : Nat, g = l.length - i ∧ iq = .int .i64 i ∧ i ≤ l.length ∧ (∀ d ∈ l.take i, Chk.Okc d.2) ∧ Sat w0 wr (TabMR t (Tab.mapOf (l.take i)) i :: F))
      case atStart => exact ⟨0, rfl, rfl, Nat.zero_le _, fun d hd => (by simp at hd), hS⟩
      case round =>
        obtain ⟨i, rfl, rfl, hi, hal, hT⟩ := hrel
        clear hS
        by_cases hlt : i < l.length
        rotate_left
        · obtain rfl : i = l.length := by omega
          have c1 : ¬ (l.length : Int) < (l.length : Int) := by omega
          rw [List.take_length] at hal hT
          have Hal := Lib.hid hal
          clear hlt hi hal
          go_wp2_with fail
          go_ret2
          exact ⟨_, rfl, .inl ⟨.inl ⟨rfl, HR.out, Hal.out⟩, t, rfl, hT⟩⟩
        have c1 : (i : Int) < (l.length : Int) := by omega
        have hw2 : IntKind.i64.wrap ((i : Int) + 1) = (i : Int) + 1 := IntWalk.i64_in _ (by have := Hn.out; omega)
        obtain ⟨x, hx⟩ : ∃ q, l[i]? = some q := ⟨_, List.getElem?_eq_getElem hlt⟩
        have Hx := Lib.hid hx; have Hal := Lib.hid hal; have Hlt := Lib.hid hlt
        have Hxk := Lib.hid (Hk.out x (List.mem_of_getElem? hx)); have Hxl := Lib.hid (Hcl.out x (List.mem_of_getElem? hx))
        have hxb : (bys x.1).length = 32 := by rw [bys_len, Hxk.out]
        have Htk := Lib.hid (show l.take (i + 1) = l.take i ++ [x] by rw [List.take_add_one, hx, Option.toList_some])
        obtain ⟨bk, off, c', hsv, hcell⟩ := osl_row (f := cdL) (k := 34) Hcl.out (Hr.out _ hT.drop) hx dCz
        cases hsv
        clear hx hal hlt hi
        go_wp2_with (first
          | ((with_reducible apply at_load); refine ⟨?_⟩; refine wl_loadW (b := bk) (o := off + i * 34) (cdL x) rFz hcell Tryz.underlying75 rfl (by rw [Hxl.out]; kernel_rfl) ?_)
          | (with_reducible apply at_alloc))
        refine ⟨?_⟩
        refine wl_alloc zCd hT rfl ?_
        intro b8 w8 h8
        clear hcell hT
        go_wp2_with (with_reducible apply at_store)
        refine ⟨?_⟩
        refine wl_storeA (cdL x).toArray h8 rFz rFz (by rw [List.size_toArray, Hxl.out]; rfl) upd0 (by rw [List.size_toArray, Hxl.out]; kernel_rfl) (by rw [List.toList_toArray]; exact cdL_ones _) ?_
        intro w9 h9
        clear h8
        have e32 : w9.cell? ⟨b8, 32, none⟩ = some (.int .i64 x.2.refs) := h9.cellP pick0 32 (by rw [List.getElem?_toArray]; unfold cdL; rw [List.getElem?_append_right (by omega), hxb]; rfl)
        have e33 : w9.cell? ⟨b8, 33, none⟩ = some (.int .i64 x.2.size) := h9.cellP pick0 33 (by rw [List.getElem?_toArray]; unfold cdL; rw [List.getElem?_append_right (by omega), hxb]; rfl)
        by_cases a1 : x.2.refs < 1
        focus
          have Hbad := Lib.hid a1
          go_wp2_with fail
          go_ret2
          exact ⟨_, rfl, .inr ⟨2, .inr (.inl ⟨rfl, HR.out, fun k => by have := k x (List.mem_of_getElem? Hx.out); unfold Chk.Okc at this; have := Hbad.out; omega⟩), by decide, rfl, h9.sb⟩⟩
        by_cases a2 : 1073741824 < x.2.refs
        focus
          have Hbad := Lib.hid a2
          go_wp2_with fail
          go_ret2
          exact ⟨_, rfl, .inr ⟨2, .inr (.inl ⟨rfl, HR.out, fun k => by have := k x (List.mem_of_getElem? Hx.out); unfold Chk.Okc at this; have := Hbad.out; omega⟩), by decide, rfl, h9.sb⟩⟩
        by_cases a3 : x.2.size < 0
        focus
          have Hbad := Lib.hid a3
          go_wp2_with fail
          go_ret2
          exact ⟨_, rfl, .inr ⟨2, .inr (.inl ⟨rfl, HR.out, fun k => by have := k x (List.mem_of_getElem? Hx.out); unfold Chk.Okc at this; have := Hbad.out; omega⟩), by decide, rfl, h9.sb⟩⟩
        by_cases a4 : 16379 < x.2.size
        focus
          have Hbad := Lib.hid a4
          go_wp2_with fail
          go_ret2
          exact ⟨_, rfl, .inr ⟨2, .inr (.inl ⟨rfl, HR.out, fun k => by have := k x (List.mem_of_getElem? Hx.out); unfold Chk.Okc at this; have := Hbad.out; omega⟩), by decide, rfl, h9.sb⟩⟩
        have Hok := Lib.hid (show Chk.Okc x.2 from ⟨by omega, by omega, by omega, by omega⟩)
        have f1 : w9.rangeAt b8 0 (bys x.1) := fun q y hq => h9.cellP pick0 (0 + q) (by rw [Nat.zero_add, List.getElem?_toArray]; unfold cdL; rw [List.getElem?_append_left (List.getElem?_eq_some_iff.1 hq).1]; exact hq)
        have f2 : w9.rangeAt b8 32 (renc x.2) := fun q y hq => h9.cellP pick0 (32 + q) (by rw [List.getElem?_toArray]; unfold cdL; rw [List.getElem?_append_right (by omega), hxb, Nat.add_sub_cancel_left]; exact hq)
        clear hxb
        go_wp2_with (first
          | ((with_reducible apply at_load); refine ⟨?_⟩; refine wl_loadW (b := b8) (o := 0) (bys x.1) rFz f1 Tryz.underlying24 rfl (by rw [bys_len, Hxk.out]; kernel_rfl) ?_)
          | ((with_reducible apply at_load); refine ⟨?_⟩; refine wl_loadW (b := b8) (o := 32) (renc x.2) rFz f2 Tryz.underlying44 rfl kRz ?_))
        clear f1 f2 e32 e33 a1 a2 a3 a4
        refine (putR_c (by have := Hn.out; have := Hlt.out; omega) Hxk.out x.2 (h9.sb : Sat w0 w9 (TabMR t (Tab.mapOf (l.take i)) i :: pt b8 (.cells (cdL x).toArray 75 (0,0)) :: F))).mono ?_
        rintro ee w10 ⟨v, rfl, h10⟩
        clear h9
        go_wp2_with fail
        go_roundg (l.length - (i + 1))
        case measure => have := Hlt.out; omega
        case rel =>
          refine ⟨i + 1, rfl, by first | rfl | go_num, Hlt.out, fun d hd => ?_, ?_⟩
          · rw [Htk.out] at hd
            rcases List.mem_append.1 hd with hd | hd
            · exact Hal.out d hd
            · rw [List.mem_singleton.1 hd]; exact Hok.out
          · rw [Htk.out, Tab.mapOf_snoc]
            exact h10.sb
end
section
variable {w0 w : World} {F : List HProp} {lv : Value}
theorem new22_c {r m p ps pn : Nat} {seg : Int} {d st : Bool} (l : List Chk.CD) (hn : l.length ≤ 1000) (hr : Ro w0 F (rdsl 34 lv (l.flatMap cdL))) (hk : ∀ d ∈ l, d.1.length = 32) (h : Sat w0 w (rpPt r m seg p ps pn d :: F)) :
    Calls Tryz.prog 6 #[ptr r, lv, .bool st] w (Rtn fun v w' => (Chk.Is l 0 ∧ ∃ s t, v = .tuple #[ptr s, errno 0] ∧ Sat w0 w' (stoPt s r t st :: TabMR t (Tab.mapOf l) l.length :: rpPt r m seg p ps pn d :: F)) ∨ (∃ e, Chk.Is l e ∧ e ≠ 0 ∧ v = .tuple #[.pointer none, errno e] ∧ Sat w0 w' (rpPt r m seg p ps pn d :: F))) := by
  have hlog := rplog22_c h
  have hfil := filled_c l hn (F := rpPt r m seg p ps pn d :: F) (Ro.os hr) hk h
  clear h hr hk hn
  generalize Tab.mapOf l = ml at *
  go_enter Tryz.func6, Tryz.ntmps6
  go_wp2_with fail
  refine hlog.mono ?_
  rintro ee w1 ⟨v, rfl, rfl, rfl⟩
  clear hlog
  go_wp2_with fail
  refine hfil.mono ?_
  rintro ee w2 ⟨v, rfl, hh⟩
  clear hfil
  rcases hh with ⟨hi, t, rfl, h2⟩ | ⟨e, hi, he, rfl, h2⟩
  · have Hi := Lib.hid hi
    clear hi
    go_wp2_with (first
      | ((with_reducible apply at_build3); refine ⟨?_⟩; refine wl_build3 rFz rFz rFz (run_sto r t st) ?_)
      | ((with_reducible apply at_box); refine ⟨?_⟩; refine wl_box h2 rFz rFz ?_; intro s w3 h3))
    go_ret2
    exact ⟨_, rfl, .inl ⟨Hi.out, s, t, rfl, h3⟩⟩
  · have Hi := Lib.hid hi; have He := Lib.hid he
    have hb : (e != 0) = true := bne_iff_ne.2 he
    clear hi he
    go_wp2_with fail
    go_ret2
    exact ⟨_, rfl, .inr ⟨e, Hi.out, He.out, rfl, h2⟩⟩
theorem sreset_c {s r t : Nat} {st : Bool} (l : List Chk.CD) (hn : l.length ≤ 1000) (hr : Ro w0 F (rdsl 34 lv (l.flatMap cdL))) (hk : ∀ d ∈ l, d.1.length = 32) (h : Sat w0 w (stoPt s r t st :: F)) :
    Calls Tryz.prog 8 #[ptr s, lv] w (Rtn fun v w' => (Chk.Is l 0 ∧ ∃ t', v = errno 0 ∧ Sat w0 w' (stoPt s r t' st :: TabMR t' (Tab.mapOf l) l.length :: F)) ∨ (∃ e, Chk.Is l e ∧ e ≠ 0 ∧ v = errno e ∧ Sat w0 w' (stoPt s r t st :: F))) := by
  have hok := sok_c h
  have hfil := filled_c l hn (F := stoPt s r t st :: F) (Ro.os hr) hk h
  clear h hr hk hn
  generalize Tab.mapOf l = ml at *
  go_enter Tryz.func8, Tryz.ntmps8
  go_wp2_with fail
  refine hok.mono ?_
  rintro ee w1 ⟨v, rfl, rfl, rfl⟩
  clear hok
  go_wp2_with fail
  refine hfil.mono ?_
  rintro ee w2 ⟨v, rfl, hh⟩
  clear hfil
  rcases hh with ⟨hi, t', rfl, h2⟩ | ⟨e, hi, he, rfl, h2⟩
  · have Hi := Lib.hid hi
    clear hi
    have h3 : Sat w0 w2 (stoPt s r t st :: TabMR t' ml l.length :: F) := h2.sb
    clear h2
    go_wp2_with (with_reducible apply at_store)
    refine ⟨?_⟩
    refine wl_store (cs' := #[ptr r, ptr t', .bool st]) h3 rFz rFz rFz upd0 nLz kRz rFz ?_
    intro w3 h4
    go_wp2_with fail
    go_ret
    exact ⟨_, rfl, .inl ⟨Hi.out, t', rfl, h4⟩⟩
  · have Hi := Lib.hid hi; have He := Lib.hid he
    have hb : (e == 0) = false := by rw [beq_eq_false_iff_ne]; exact he
    clear hi he
    go_wp2_with fail
    go_ret
    exact ⟨_, rfl, .inr ⟨e, Hi.out, He.out, rfl, h2⟩⟩
theorem srepo_c {s r t : Nat} {st : Bool} (h : Sat w0 w (stoPt s r t st :: F)) : Calls Tryz.prog 7 #[ptr s] w (Rtn fun v w' => v = ptr r ∧ w = w') := by
  have e0 : w.cell? ⟨s, 0, none⟩ = some (.pointer (some ⟨r, 0, none⟩)) := h.cellAt 0 _ rfl
  have hok := sok_c h
  clear h
  go_enter Tryz.func7, Tryz.ntmps7
  go_wp2_with fail
  refine hok.mono ?_
  rintro ee w1 ⟨v, rfl, rfl, rfl⟩
  clear hok
  go_wp2_with fail
  go_ret
  exact ⟨_, rfl, rfl, rfl⟩

set_option maxRecDepth 20000 in
theorem rcheck_c (l : List Chk.CD) (hn : l.length ≤ 1000) (hr : Ro w0 F (rdsl 34 lv (l.flatMap cdL))) (hk : ∀ d ∈ l, d.1.length = 32) (h : Sat w0 w F) :
    Calls Tryz.prog 9 #[lv] w (Rtn fun v w' => ∃ e : Int, v = .int .i64 e ∧ Chk.Is l e ∧ Sat w0 w' F) := by
  have hcl : ∀ d ∈ l, (cdL d).length = 34 := fun d hd => cdL_len d (hk d hd)
  obtain ⟨la, lc, rfl⟩ := osl_rows hcl (hr w h) dCz
  have Hr := Lib.hid hr; have Hk := Lib.hid hk; have Hcl := Lib.hid hcl; have Hn := Lib.hid hn
  clear hr hk hcl hn
  go_enter Tryz.func9, Tryz.ntmps9
  go_wp2_with fail
  go_loopg [3] l.length (fun g iq wr => ∃ j : Nat, g = l.length - j ∧ iq = .int .i64 ((j : Int) + 1) ∧ j ≤ l.length ∧ (∀ q a b, q < j → l[q]? = some a → l[q + 1]? = some b → a.1 < b.1) ∧ Sat w0 wr F)
  case atStart => exact ⟨0, rfl, rfl, Nat.zero_le _, fun q a b hq => absurd hq (Nat.not_lt_zero _), h⟩
  case round =>
    obtain ⟨j, rfl, rfl, hj, hal, hS⟩ := hrel
    clear h
    by_cases hlt : j + 1 < l.length
    · have c1 : (j : Int) + 1 < (l.length : Int) := by omega
      have c0 : (j : Int) < (l.length : Int) := by omega
      have c2 : (0 : Int) ≤ (j : Int) + 1 := by omega
      have hw0 : IntKind.i64.wrap (j : Int) = (j : Int) := IntWalk.i64_in _ (by have := Hn.out; omega)
      have hw1 : IntKind.i64.wrap ((j : Int) + 1 - 1) = (j : Int) := by rw [Int.add_sub_cancel]; exact hw0
      have hw2 : IntKind.i64.wrap ((j : Int) + 1 + 1) = (j : Int) + 1 + 1 := IntWalk.i64_in _ (by have := Hn.out; omega)
      obtain ⟨p, hp⟩ : ∃ q, l[j]? = some q := ⟨_, List.getElem?_eq_getElem (by omega)⟩
      obtain ⟨x, hx⟩ : ∃ q, l[j + 1]? = some q := ⟨_, List.getElem?_eq_getElem hlt⟩
      have Hp := Lib.hid hp; have Hx := Lib.hid hx; have Hal := Lib.hid hal; have Hlt := Lib.hid hlt
      have Hpk := Lib.hid (Hk.out p (List.mem_of_getElem? hp)); have Hxk := Lib.hid (Hk.out x (List.mem_of_getElem? hx))
      have h8 := hS.drew
      obtain ⟨bk, off, c', hsv, hc1⟩ := osl_row (f := cdL) (k := 34) Hcl.out (Hr.out _ h8) hp dCz
      cases hsv
      obtain ⟨bk', off', c3, e2, hc2⟩ := osl_row (f := cdL) (k := 34) Hcl.out (Hr.out _ h8) hx dCz
      cases e2
      have hG0 : World.rangeAt _ bk (off + j * 34) (bys p.1) ∧ World.rangeAt _ bk (off + (j + 1) * 34) (bys x.1) := ⟨fun q y hq => hc1 q y (by unfold cdL; rw [List.getElem?_append_left (List.getElem?_eq_some_iff.1 hq).1]; exact hq), fun q y hq => hc2 q y (by unfold cdL; rw [List.getElem?_append_left (List.getElem?_eq_some_iff.1 hq).1]; exact hq)⟩
      have hless := rless_c p.1 x.1 Hpk.out Hxk.out h8
      clear hp hx hc1 hc2 hal hlt hj hS
      by_cases hab : p.1 < x.1
      focus
        have Hab := Lib.hid hab
        rw [decide_eq_true hab] at hless
        clear hab
        go_wp2_with fail
        refine wpL_begin [11, 12] (fun w' => w'.rangeAt bk (off + j * 34) (bys p.1) ∧ w'.rangeAt bk (off + (j + 1) * 34) (bys x.1)) kRz ?_
        have hG := hG0
        clear hG0
        refine rp 0 (hy := (yl_move evD)) (h := ?_)
        refine rp 1 (hy := (yl_move evD)) (h := ?_)
        refine rp 2 (hy := (yl_bin evD evD rnD)) (h := ?_)
        refine rp 3 (hy := (yl_index evD evD rnD)) (h := ?_)
        refine rp 4 (hy := (yl_field evD rnD)) (h := ?_)
        refine rg_take 5 evD kRz i3z (tk_loadN (b := bk) (o := off + j * 34) (bys p.1) rFz Tryz.underlying24 rfl (by rw [bys_len, Hpk.out]; kernel_rfl) (fun w hw => hw.1)) (by assumption) (by go_frame; first | done | rfl) ?_
        refine rp 6 (hy := (yl_move evD)) (h := ?_)
        refine rp 7 (hy := (yl_move evD)) (h := ?_)
        refine rp 8 (hy := (yl_index evD evD rnD)) (h := ?_)
        refine rp 9 (hy := (yl_field evD rnD)) (h := ?_)
        refine rg_take 10 evD kRz i3z (tk_loadN (b := bk) (o := off + (j + 1) * 34) (bys x.1) rFz Tryz.underlying24 rfl (by rw [bys_len, Hxk.out]; kernel_rfl) (fun w hw => hw.2)) (by assumption) (by go_frame; first | done | rfl) ?_
        clear hG
        refine rg_eff 11 evD kRz (fun K hK => ?_)
        (refine eff_call2 kRz evD evD ?_)
        refine hless.mono ?_
        rintro ee w10 ⟨v, rfl, rfl, h10⟩
        refine hK _ _ (.inl rfl) ?_
        clear hK hless h8
        refine rp 12 (hy := (yl_un evD rnD)) (h := ?_)
        refine wpL_done kRz ?_
        go_wp2_with fail
        go_roundg (l.length - (j + 1))
        case measure => have := Hlt.out; omega
        case rel =>
          refine ⟨j + 1, rfl, by first | rfl | go_num, Nat.le_of_lt Hlt.out, fun q a b hq ha hb => ?_, h10⟩
          rcases Nat.lt_succ_iff_lt_or_eq.1 hq with hq | rfl
          · exact Hal.out q a b hq ha hb
          · rw [Hp.out] at ha; rw [Hx.out] at hb
            cases ha; cases hb
            exact Hab.out
      focus
        have Hab := Lib.hid hab
        rw [decide_eq_false hab] at hless
        clear hab
        go_wp2_with fail
        refine wpL_begin [11, 12] (fun w' => w'.rangeAt bk (off + j * 34) (bys p.1) ∧ w'.rangeAt bk (off + (j + 1) * 34) (bys x.1)) kRz ?_
        have hG := hG0
        clear hG0
        refine rp 0 (hy := (yl_move evD)) (h := ?_)
        refine rp 1 (hy := (yl_move evD)) (h := ?_)
        refine rp 2 (hy := (yl_bin evD evD rnD)) (h := ?_)
        refine rp 3 (hy := (yl_index evD evD rnD)) (h := ?_)
        refine rp 4 (hy := (yl_field evD rnD)) (h := ?_)
        refine rg_take 5 evD kRz i3z (tk_loadN (b := bk) (o := off + j * 34) (bys p.1) rFz Tryz.underlying24 rfl (by rw [bys_len, Hpk.out]; kernel_rfl) (fun w hw => hw.1)) (by assumption) (by go_frame; first | done | rfl) ?_
        refine rp 6 (hy := (yl_move evD)) (h := ?_)
        refine rp 7 (hy := (yl_move evD)) (h := ?_)
        refine rp 8 (hy := (yl_index evD evD rnD)) (h := ?_)
        refine rp 9 (hy := (yl_field evD rnD)) (h := ?_)
        refine rg_take 10 evD kRz i3z (tk_loadN (b := bk) (o := off + (j + 1) * 34) (bys x.1) rFz Tryz.underlying24 rfl (by rw [bys_len, Hxk.out]; kernel_rfl) (fun w hw => hw.2)) (by assumption) (by go_frame; first | done | rfl) ?_
        clear hG
        refine rg_eff 11 evD kRz (fun K hK => ?_)
        (refine eff_call2 kRz evD evD ?_)
        refine hless.mono ?_
        rintro ee w10 ⟨v, rfl, rfl, h10⟩
        refine hK _ _ (.inl rfl) ?_
        clear hK hless h8
        refine rp 12 (hy := (yl_un evD rnD)) (h := ?_)
        refine wpL_done kRz ?_
        go_wp2_with fail
        go_ret
        exact ⟨_, rfl, 18, rfl, .inr (.inr ⟨rfl, fun k => Hab.out (k j p x Hp.out Hx.out)⟩), h10⟩
    · have c1 : ¬ (j : Int) + 1 < (l.length : Int) := by omega
      have HR := Lib.hid (show Chk.Rise l from fun q a b ha hb => hal q a b (by have := (List.getElem?_eq_some_iff.1 hb).1; omega) ha hb)
      clear hal hlt hj
      go_wp2_with fail
      clear c1
      go_loopg [4] l.length (fun g iq wr => ∃ i : Nat, g = l.length - i ∧ iq = .int .i64 i ∧ i ≤ l.length ∧ (∀ d ∈ l.take i, Chk.Okc d.2) ∧ Sat w0 wr F)
      case atStart => exact ⟨0, rfl, rfl, Nat.zero_le _, fun d hd => (by simp at hd), hS⟩
      case round =>
        obtain ⟨i, rfl, rfl, hi, hal, hT⟩ := hrel
        clear hS
        by_cases hlt : i < l.length
        rotate_left
        · obtain rfl : i = l.length := by omega
          have c1 : ¬ (l.length : Int) < (l.length : Int) := by omega
          rw [List.take_length] at hal
          have Hal := Lib.hid hal
          clear hlt hi hal
          go_wp2_with fail
          go_ret
          exact ⟨_, rfl, 0, rfl, .inl ⟨rfl, HR.out, Hal.out⟩, hT⟩
        have c1 : (i : Int) < (l.length : Int) := by omega
        have hw2 : IntKind.i64.wrap ((i : Int) + 1) = (i : Int) + 1 := IntWalk.i64_in _ (by have := Hn.out; omega)
        obtain ⟨x, hx⟩ : ∃ q, l[i]? = some q := ⟨_, List.getElem?_eq_getElem hlt⟩
        have Hx := Lib.hid hx; have Hal := Lib.hid hal; have Hlt := Lib.hid hlt
        have Hxk := Lib.hid (Hk.out x (List.mem_of_getElem? hx))
        have hxb : (bys x.1).length = 32 := by rw [bys_len, Hxk.out]
        have Htk := Lib.hid (show l.take (i + 1) = l.take i ++ [x] by rw [List.take_add_one, hx, Option.toList_some])
        obtain ⟨bk, off, c', hsv, hcell⟩ := osl_row (f := cdL) (k := 34) Hcl.out (Hr.out _ hT) hx dCz
        cases hsv
        have f2 : wr.rangeAt bk (off + i * 34 + 32) (renc x.2) := fun q y hq => by
          rw [Nat.add_assoc]
          exact hcell (32 + q) y (by unfold cdL; rw [List.getElem?_append_right (by omega), hxb, Nat.add_sub_cancel_left]; exact hq)
        clear hx hal hlt hi hcell hxb
        go_wp2_with (first
          | ((with_reducible apply at_load); refine ⟨?_⟩; refine wl_loadW (b := bk) (o := off + i * 34 + 32) (renc x.2) rFz f2 Tryz.underlying44 rfl kRz ?_)
          | (with_reducible apply at_alloc))
        refine ⟨?_⟩
        refine wl_alloc zValR hT rfl ?_
        intro b8 w8 h8
        clear f2 hT
        go_wp2_with (with_reducible apply at_store)
        refine ⟨?_⟩
        refine wl_storeA (renc x.2).toArray h8 rFz rFz rFz upd0 kRz rFz ?_
        intro w9 h9
        clear h8
        have e32 : w9.cell? ⟨b8, 0, none⟩ = some (.int .i64 x.2.refs) := h9.cellP pick0 0 rfl
        have e33 : w9.cell? ⟨b8, 1, none⟩ = some (.int .i64 x.2.size) := h9.cellP pick0 1 rfl
        by_cases a1 : x.2.refs < 1
        focus
          have Hbad := Lib.hid a1
          go_wp2_with fail
          go_ret
          exact ⟨_, rfl, 2, rfl, .inr (.inl ⟨rfl, HR.out, fun k => by have := k x (List.mem_of_getElem? Hx.out); unfold Chk.Okc at this; have := Hbad.out; omega⟩), h9.drop⟩
        by_cases a2 : 1073741824 < x.2.refs
        focus
          have Hbad := Lib.hid a2
          go_wp2_with fail
          go_ret
          exact ⟨_, rfl, 2, rfl, .inr (.inl ⟨rfl, HR.out, fun k => by have := k x (List.mem_of_getElem? Hx.out); unfold Chk.Okc at this; have := Hbad.out; omega⟩), h9.drop⟩
        by_cases a3 : x.2.size < 0
        focus
          have Hbad := Lib.hid a3
          go_wp2_with fail
          go_ret
          exact ⟨_, rfl, 2, rfl, .inr (.inl ⟨rfl, HR.out, fun k => by have := k x (List.mem_of_getElem? Hx.out); unfold Chk.Okc at this; have := Hbad.out; omega⟩), h9.drop⟩
        by_cases a4 : 16379 < x.2.size
        focus
          have Hbad := Lib.hid a4
          go_wp2_with fail
          go_ret
          exact ⟨_, rfl, 2, rfl, .inr (.inl ⟨rfl, HR.out, fun k => by have := k x (List.mem_of_getElem? Hx.out); unfold Chk.Okc at this; have := Hbad.out; omega⟩), h9.drop⟩
        have Hok := Lib.hid (show Chk.Okc x.2 from ⟨by omega, by omega, by omega, by omega⟩)
        go_wp2_with fail
        clear e32 e33 a1 a2 a3 a4
        go_roundg (l.length - (i + 1))
        case measure => have := Hlt.out; omega
        case rel =>
          refine ⟨i + 1, rfl, by first | rfl | go_num, Hlt.out, fun d hd => ?_, h9.drop⟩
          rw [Htk.out] at hd
          rcases List.mem_append.1 hd with hd | hd
          · exact Hal.out d hd
          · rw [List.mem_singleton.1 hd]; exact Hok.out
end
theorem info_cnt : ∃ i : TypeInfo, Tryz.prog.info? 44 = some i ∧ i.size = 2 := by
  have h : (Tryz.prog.info? 44).map (·.size) = some 2 := by kernel_rfl
  cases hq : Tryz.prog.info? 44 with
  | none => rw [hq] at h; cases h
  | some i => rw [hq] at h; exact ⟨i, rfl, by simpa using h⟩
theorem eqIn_cnt (d : Nat) (q : Rep.Rfc) (w : World) : (Op.equalIn (d + 2) 44 (.agg (renc q).toArray) (.agg (renc q).toArray)).run Tryz.prog w = .ok true w := by
  refine eqS_self (d := d + 1) 44 [(3, 0), (3, 1)] kRz kRz kRz (fun q hq => ?_) w
  simp only [List.mem_cons, List.not_mem_nil, or_false] at hq
  rcases hq with rfl | rfl
  · exact part_int Tryz.underlying3 0 _ rfl
  · exact part_int Tryz.underlying3 1 _ rfl
theorem cd_key (q : Chk.CD) (hk : q.1.length = 32) : (cdL q).toArray.extract 0 (0 + 32) = (bys q.1).toArray := by
  apply Array.toList_inj.1
  rw [Array.toList_extract, List.toList_toArray, List.toList_toArray]
  unfold cdL
  simp only [List.extract, List.drop_zero, Nat.zero_add, Nat.sub_zero]
  rw [List.take_append_of_le_length (by rw [bys_len]; omega), List.take_of_length_le (by rw [bys_len]; omega)]
theorem cd_cnt (q : Chk.CD) (hk : q.1.length = 32) : (cdL q).toArray.extract 32 (32 + 2) = (renc q.2).toArray := by
  apply Array.toList_inj.1
  rw [Array.toList_extract, List.toList_toArray, List.toList_toArray]
  unfold cdL
  simp only [List.extract]
  rw [List.drop_append, List.drop_of_length_le (by rw [bys_len]; omega), bys_len, hk, List.nil_append]
  rfl
theorem eqIn_cd (q : Chk.CD) (hk : q.1.length = 32) (w : World) : (Op.equalIn 10000 75 (.agg (cdL q).toArray) (.agg (cdL q).toArray)).run Tryz.prog w = .ok true w := by
  refine eqS_self (d := 9999) 75 [(24, 0), (44, 32)] kRz kRz kRz (fun x hx => ?_) w
  simp only [List.mem_cons, List.not_mem_nil, or_false] at hx
  rcases hx with rfl | rfl
  · exact part_key 0 q.1 hk (cd_key q hk)
  · obtain ⟨i, hi, hs⟩ := info_cnt
    exact ⟨.agg (renc q.2).toArray, fun w => by rw [part_row Tryz.underlying44 rfl hi 32 w, hs, cd_cnt q hk], fun w => eqIn_cnt 9997 q.2 w⟩
section
variable {w0 w : World} {F : List HProp} {av bv lv : Value}
set_option maxRecDepth 20000 in
theorem sameCnts_c (l : List Chk.CD) (hk : ∀ q ∈ l, q.1.length = 32) (ha : Ro w0 F (rdsl 34 av (l.flatMap cdL))) (hb : Ro w0 F (rdsl 34 bv (l.flatMap cdL))) (h : Sat w0 w F) (hlen : l.length ≤ 1073741824) :
    Calls Tryz.prog 28 #[av, bv] w (Rtn fun v w' => v = .bool true ∧ Sat w0 w' F) := by
  have Hkl := Lib.hid (show ∀ q ∈ l, (cdL q).length = 34 from fun q hq => cdL_len q (hk q hq))
  obtain ⟨aa, ac, rfl⟩ := osl_rows Hkl.out (ha w h) dCz
  obtain ⟨ba, bc, rfl⟩ := osl_rows Hkl.out (hb w h) dCz
  have Ha := Lib.hid ha; have Hb := Lib.hid hb; have Hk := Lib.hid hk; have Hlen := Lib.hid hlen
  clear ha hb hk hlen
  go_enter Tryz.func28, Tryz.ntmps28
  go_wp2_with fail
  go_loopg [5] l.length (fun g iq wr => ∃ i : Nat, g = l.length - i ∧ i ≤ l.length ∧ iq = .int .i64 i ∧ Sat w0 wr F)
  case atStart => exact ⟨0, rfl, Nat.zero_le _, rfl, h⟩
  case round =>
    obtain ⟨i, rfl, hiN, rfl, hS⟩ := hrel
    clear h
    by_cases hi : i < l.length
    · have hic : (i : Int) < (l.length : Int) := by omega
      have hwi : IntKind.i64.wrap ((i : Int) + 1) = (i : Int) + 1 := IntWalk.i64_in _ (by have := Hlen.out; omega)
      obtain ⟨q, hq⟩ : ∃ q, l[i]? = some q := ⟨_, List.getElem?_eq_getElem hi⟩
      have hS1 := hS.drew
      obtain ⟨bk, off, c', e1, d1⟩ := osl_row Hkl.out (Ha.out _ hS1) hq dCz
      obtain ⟨bk2, off2, c2', e2, d2⟩ := osl_row Hkl.out (Hb.out _ hS1) hq dCz
      cases e1; cases e2
      have Hqk := Lib.hid (Hk.out q (List.mem_of_getElem? hq))
      have Hql := Lib.hid (Hkl.out q (List.mem_of_getElem? hq))
      have Hi := Lib.hid hi
      clear hq hi hiN
      go_wp2_with fail
      refine wpL_begin [8] (fun w' => w'.rangeAt bk (off + i * 34) (cdL q) ∧ w'.rangeAt bk2 (off2 + i * 34) (cdL q)) kRz ?_
      have hG : World.rangeAt _ bk (off + i * 34) (cdL q) ∧ World.rangeAt _ bk2 (off2 + i * 34) (cdL q) := And.intro d1 d2
      refine rp 0 (hy := (yl_move evD)) (h := ?_)
      refine rp 1 (hy := (yl_move evD)) (h := ?_)
      refine rp 2 (hy := (yl_index evD evD rnD)) (h := ?_)
      refine rg_take 3 evD kRz i3z (tk_loadN (b := bk) (o := off + i * 34) (cdL q) rFz Tryz.underlying75 rfl (by rw [Hql.out]; kernel_rfl) (fun w hw => hw.1)) (by assumption) (by go_frame; first | done | rfl) ?_
      refine rp 4 (hy := (yl_move evD)) (h := ?_)
      refine rp 5 (hy := (yl_move evD)) (h := ?_)
      refine rp 6 (hy := (yl_index evD evD rnD)) (h := ?_)
      refine rg_take 7 evD kRz i3z (tk_loadN (b := bk2) (o := off2 + i * 34) (cdL q) rFz Tryz.underlying75 rfl (by rw [Hql.out]; kernel_rfl) (fun w hw => hw.2)) (by assumption) (by go_frame; first | done | rfl) ?_
      clear hG d1 d2
      refine rg_pure 8 evD kRz i3z (yl_bin evD evD (fun w => by
        have := neq_self (eqIn_cd q Hqk.out) w
        simp [eqGuard, Sem.run_bind, this]; rfl)) (by go_frame; first | done | rfl) ?_
      refine wpL_done kRz ?_
      try simp only [List.getElem_toArray, List.getElem_cons_succ, List.getElem_cons_zero]
      try go_frame
      go_wp2_with fail
      go_roundg (l.length - (i + 1))
      case measure => have := Hi.out; omega
      case rel => exact ⟨i + 1, rfl, Nat.succ_le_of_lt Hi.out, by first | rfl | go_num, hS1⟩
    · obtain rfl : i = l.length := by omega
      have hic : ¬ (l.length : Int) < (l.length : Int) := by omega
      clear hi hiN
      go_wp2_with fail
      go_ret
      exact ⟨.bool true, rfl, rfl, hS⟩
theorem sameCnt22_c (l : List Chk.CD) (hk : ∀ q ∈ l, q.1.length = 32) (ha : Ro w0 F (rdsl 34 av (l.flatMap cdL))) (hb : Ro w0 F (rdsl 34 bv (l.flatMap cdL))) (h : Sat w0 w F) (hlen : l.length ≤ 1073741824) :
    Calls Tryz.prog 12 #[av, bv] w (Rtn fun v w' => v = .bool true ∧ Sat w0 w' F) := by
  have hs := sameCnts_c l hk ha hb h hlen
  clear hk ha hb h hlen
  go_enter Tryz.func12, Tryz.ntmps12
  go_wp2_with fail
  refine hs.mono ?_
  rintro ee w1 ⟨v, rfl, rfl, h1⟩
  clear hs
  go_wp2_with fail
  go_ret
  exact ⟨_, rfl, rfl, h1⟩
abbrev rs22Pt (x : Nat) (lv : Value) : HProp := pt x (.cells #[.pointer none, lv, .bool false] 41 (0,0))
set_option maxRecDepth 20000 in
theorem rat_c {x : Nat} {k : Frm.Bs} (hkl : k.length = 32) (l : List Chk.CD) (hn : l.length ≤ 1000) (hr : Ro w0 F (rdsl 34 lv (l.flatMap cdL))) (hk : ∀ d ∈ l, d.1.length = 32) (h : Sat w0 w (rs22Pt x lv :: F)) :
    Calls Tryz.prog 30 #[ptr x, .agg (bys k).toArray] w (Rtn fun v w' => ((∃ (i : Nat) (d : Chk.CD), v = .int .i64 i ∧ l[i]? = some d ∧ d.1 = k) ∨ (v = .int .i64 (-1) ∧ ∀ d ∈ l, d.1 ≠ k)) ∧ Sat w0 w' (rs22Pt x lv :: F)) := by
  have hcl : ∀ d ∈ l, (cdL d).length = 34 := fun d hd => cdL_len d (hk d hd)
  obtain ⟨la, lc, rfl⟩ := osl_rows hcl (hr w h.drop) dCz
  have Hr := Lib.hid hr; have Hk := Lib.hid hk; have Hcl := Lib.hid hcl; have Hn := Lib.hid hn; have Hkl := Lib.hid hkl; have Hks := Lib.hid (show (bys k).length = 32 by rw [bys_len, hkl])
  clear hr hk hcl hn hkl
  go_enter Tryz.func30, Tryz.ntmps30
  go_wp2_with (with_reducible apply at_box)
  refine ⟨?_⟩
  refine wl_box h evD evD ?_
  intro b3 w3 h3
  replace h3 : Sat w0 w3 (pt b3 (.cells (bys k).toArray 24 (0,0)) :: rs22Pt x (.slice la l.length lc) :: F) := h3
  clear h
  go_wp2_with fail
  go_loopg [5] l.length (fun g iq wr => ∃ i : Nat, g = l.length - i ∧ iq = .int .i64 i ∧ i ≤ l.length ∧ (∀ d ∈ l.take i, d.1 ≠ k) ∧ Sat w0 wr (pt b3 (.cells (bys k).toArray 24 (0,0)) :: rs22Pt x (.slice la l.length lc) :: F))
  case atStart => exact ⟨0, rfl, rfl, Nat.zero_le _, fun d hd => (by simp at hd), h3⟩
  case round =>
    obtain ⟨i, rfl, rfl, hi, hal, hS⟩ := hrel
    clear h3
    have e1 : wr.cell? ⟨x, 1, none⟩ = some (.slice la l.length lc) := hS.cellP pick1 1 rfl
    by_cases hlt : i < l.length
    rotate_left
    · obtain rfl : i = l.length := by omega
      have c1 : ¬ (l.length : Int) < (l.length : Int) := by omega
      rw [List.take_length] at hal
      have Hal := Lib.hid hal
      clear hlt hi hal
      go_wp2_with fail
      go_ret
      exact ⟨_, rfl, .inr ⟨rfl, by first | exact Hal.out | (intro a b hab; exact Hal.out (a, b) hab)⟩, hS.drop⟩
    have c1 : (i : Int) < (l.length : Int) := by omega
    have hw2 : IntKind.i64.wrap ((i : Int) + 1) = (i : Int) + 1 := IntWalk.i64_in _ (by have := Hn.out; omega)
    obtain ⟨d, hx⟩ : ∃ q, l[i]? = some q := ⟨_, List.getElem?_eq_getElem hlt⟩
    have Hx := Lib.hid hx; have Hal := Lib.hid hal; have Hlt := Lib.hid hlt
    have Hxk := Lib.hid (Hk.out d (List.mem_of_getElem? hx))
    have Htk := Lib.hid (show l.take (i + 1) = l.take i ++ [d] by rw [List.take_add_one, hx, Option.toList_some])
    have h8 := hS.drew
    obtain ⟨bk, off, c', hsv, hc1⟩ := osl_row (f := cdL) (k := 34) Hcl.out (Hr.out _ h8.drop.drop) hx dCz
    cases hsv
    have hG0 : World.cell? _ ⟨x, 1, none⟩ = some (.slice (some ⟨bk, off, none⟩) l.length lc) ∧ World.rangeAt _ bk (off + i * 34) (bys d.1) ∧ World.rangeAt _ b3 0 (bys k) := ⟨h8.cellP pick1 1 rfl, fun q y hq => hc1 q y (by unfold cdL; rw [List.getElem?_append_left (List.getElem?_eq_some_iff.1 hq).1]; exact hq), fun q y hq => h8.cellP pick0 (0 + q) (by simpa using hq)⟩
    have hbin := fun a b w => eqG_key a b d.1 k Hxk.out Hkl.out w
    clear hx hc1 hal hlt hi hS
    by_cases hab : d.1 = k
    all_goals
      have Hab := Lib.hid hab
      first | simp only [decide_eq_true hab] at hbin | simp only [decide_eq_false hab] at hbin
      clear hab
      go_wp2_with fail
      clear e1
      refine wpL_begin [] (fun w' => w'.cell? ⟨x, 1, none⟩ = some (.slice (some ⟨bk, off, none⟩) l.length lc) ∧ w'.rangeAt bk (off + i * 34) (bys d.1) ∧ w'.rangeAt b3 0 (bys k)) kRz ?_
      have hG := hG0
      clear hG0
      refine rp 0 (hy := (yl_move evD)) (h := ?_)
      refine rp 1 (hy := (yl_nil evD)) (h := ?_)
      refine rp 2 (hy := (yl_field evD rnD)) (h := ?_)
      refine rt 3 (h := ?_)
      refine rp 4 (hy := (yl_move evD)) (h := ?_)
      refine rp 5 (hy := (yl_index evD evD rnD)) (h := ?_)
      refine rp 6 (hy := (yl_field evD rnD)) (h := ?_)
      refine rg_take 7 evD kRz i3z (tk_loadN (b := bk) (o := off + i * 34) (bys d.1) rFz Tryz.underlying24 rfl (by rw [bys_len, Hxk.out]; kernel_rfl) (fun w hw => hw.2.1)) (by assumption) (by go_frame; first | done | rfl) ?_
      refine rg_take 8 evD kRz i3z (tk_loadN (b := b3) (o := 0) (bys k) rFz Tryz.underlying24 rfl (by rw [Hks.out]; kernel_rfl) (fun w hw => hw.2.2)) (by assumption) (by go_frame; first | done | rfl) ?_
      clear hG
      refine rp 9 (hy := (yl_bin evD evD (hbin _ _))) (h := ?_)
      refine wpL_done kRz ?_
      clear hbin
      go_wp2_with fail
    · go_ret
      exact ⟨_, rfl, .inl ⟨i, d, rfl, Hx.out, Hab.out⟩, h8.drop⟩
    · go_roundg (l.length - (i + 1))
      case measure => have := Hlt.out; omega
      case rel =>
        refine ⟨i + 1, rfl, by first | rfl | go_num, Hlt.out, fun y hy => ?_, h8⟩
        rw [Htk.out] at hy
        rcases List.mem_append.1 hy with hy | hy
        · exact Hal.out y hy
        · rw [List.mem_singleton.1 hy]; exact Hab.out
set_option maxRecDepth 20000 in
theorem rcount_c {x : Nat} {k : Frm.Bs} (hkl : k.length = 32) (l : List Chk.CD) (hn : l.length ≤ 1000) (hr : Ro w0 F (rdsl 34 lv (l.flatMap cdL))) (hk : ∀ d ∈ l, d.1.length = 32) (hl : Tab.Lists (Tab.mapOf l) l) (h : Sat w0 w (rs22Pt x lv :: F)) :
    Calls Tryz.prog 14 #[ptr x, .agg (bys k).toArray] w (Rtn fun v w' => v = .agg (renc ((Tab.mapOf l k).getD ⟨0, 0⟩)).toArray ∧ Sat w0 w' (rs22Pt x lv :: F)) := by
  have hcl : ∀ d ∈ l, (cdL d).length = 34 := fun d hd => cdL_len d (hk d hd)
  obtain ⟨la, lc, rfl⟩ := osl_rows hcl (hr w h.drop) dCz
  have Hr := Lib.hid hr; have Hk := Lib.hid hk; have Hcl := Lib.hid hcl; have Hn := Lib.hid hn; have Hkl := Lib.hid hkl; have Hks := Lib.hid (show (bys k).length = 32 by rw [bys_len, hkl]); have Hl := Lib.hid hl
  have Hat := Lib.hid (fun (w' : World) (R : List HProp) (hr' : Ro w0 R (rdsl 34 (.slice la l.length lc) (l.flatMap cdL))) (hw : Sat w0 w' (rs22Pt x (.slice la l.length lc) :: R)) => rat_c hkl l hn hr' hk hw)
  clear hr hk hcl hn hkl hl
  go_enter Tryz.func14, Tryz.ntmps14
  go_wp2_with (with_reducible apply at_box)
  refine ⟨?_⟩
  refine wl_box h evD evD ?_
  intro b3 w3 h3
  replace h3 : Sat w0 w3 (pt b3 (.cells (bys k).toArray 24 (0,0)) :: rs22Pt x (.slice la l.length lc) :: F) := h3
  clear h
  go_wp2_with (with_reducible apply at_alloc)
  refine ⟨?_⟩
  refine wl_alloc zValR h3 rfl ?_
  intro b4 w4 h4
  clear h3
  have hinf : (Tryz.prog.info? 24).map (·.size) = some (bys k).toArray.size := by rw [List.size_toArray, Hks.out]; kernel_rfl
  go_wp2_with ((with_reducible apply at_load); refine ⟨?_⟩; refine wl_loadA h4 rFz pick1 Tryz.underlying24 rfl hinf ?_)
  refine (Hat.out _ _ (Ro.os Hr.out) (h4.sb : Sat w0 w4 (rs22Pt x (.slice la l.length lc) :: pt b4 (.cells (renc zwR).toArray 44 (0,0)) :: pt b3 (.cells (bys k).toArray 24 (0,0)) :: F))).mono ?_
  rintro ee w5 ⟨v, rfl, hv, h5'⟩
  have h5 : Sat w0 w5 (pt b4 (.cells (renc zwR).toArray 44 (0,0)) :: rs22Pt x (.slice la l.length lc) :: F) := h5'.sb
  clear h4 h5'
  rcases hv with ⟨i, d, rfl, hx, hdk⟩ | ⟨rfl, hno⟩
  · have hlt := (List.getElem?_eq_some_iff.1 hx).1
    have c1 : ¬ (i : Int) < 0 := by omega
    have c2 : (i : Int) < (l.length : Int) := by omega
    have e1 : w5.cell? ⟨x, 1, none⟩ = some (.slice la l.length lc) := h5.cellP pick1 1 rfl
    have hxk := Hk.out d (List.mem_of_getElem? hx)
    have hxb : (bys d.1).length = 32 := by rw [bys_len, hxk]
    have Hm := Lib.hid (show (Tab.mapOf l k).getD ⟨0, 0⟩ = d.2 by rw [← hdk, (Hl.out.mem d.1 d.2).1 (List.mem_of_getElem? hx), Option.getD_some])
    obtain ⟨bk, off, c', hsv, hcell⟩ := osl_row (f := cdL) (k := 34) Hcl.out (Hr.out _ h5.drop.drop) hx dCz
    cases hsv
    have f2 : w5.rangeAt bk (off + i * 34 + 32) (renc d.2) := fun q y hq => by
      rw [Nat.add_assoc]
      exact hcell (32 + q) y (by unfold cdL; rw [List.getElem?_append_right (by omega), hxb, Nat.add_sub_cancel_left]; exact hq)
    clear hx hdk hlt hxk hxb hcell hinf
    go_wp2_with (first
      | ((with_reducible apply at_load); refine ⟨?_⟩; refine wl_loadW (b := bk) (o := off + i * 34 + 32) (renc d.2) rFz f2 Tryz.underlying44 rfl kRz ?_)
      | (with_reducible apply at_store))
    refine ⟨?_⟩
    refine wl_storeA (renc d.2).toArray h5 rFz rFz rFz upd0 kRz rFz ?_
    intro w6 h6
    clear f2 e1
    go_wp2_with fail
    refine ⟨rfl, _, res_cell rfl h6 rFz pick0 Tryz.underlying44 rfl kRz, _, rfl, by rw [Hm.out], h6.drop⟩
  · have Hm := Lib.hid (show (Tab.mapOf l k).getD ⟨0, 0⟩ = (⟨0, 0⟩ : Rep.Rfc) by
      cases hq : Tab.mapOf l k with
      | none => rfl
      | some u => exact absurd rfl (hno (k, u) ((Hl.out.mem k u).2 hq)))
    clear hno hinf
    go_wp2_with (first
      | ((with_reducible apply at_build0); refine ⟨?_⟩; refine wl_build0 run_cnt0 ?_)
      | (with_reducible apply at_store))
    refine ⟨?_⟩
    refine wl_storeA (renc ⟨0, 0⟩).toArray h5 rFz rFz rFz upd0 kRz rFz ?_
    intro w6 h6
    go_wp2_with fail
    refine ⟨rfl, _, res_cell rfl h6 rFz pick0 Tryz.underlying44 rfl kRz, _, rfl, by rw [Hm.out], h6.drop⟩
end
theorem sizeCd (w : World) : (sizeOf 75).run Tryz.prog w = .ok 34 w := by kernel_rfl
theorem elemCd : Tryz.prog.elem 22 = 75 := by kernel_rfl
theorem undCd : Tryz.prog.underlying 22 = some (.slice (Tryz.prog.elem 22)) := by rw [elemCd]; exact Tryz.underlying22
theorem run_slCd {a : Option Addr} {n c k : Nat} (hk : k ≤ c) (w : World) : (Instr.sliceAt 22 (.slice a n c) none (some (.int .i64 k)) none).run Tryz.prog w = .ok (sliced a 0 k c 34) w := by
  rw [run_sliceAt_slice _ _ _ _ _ _ undCd, run_slice_h _ _ _ _ _ undCd .i64 (k : Int) (by omega) (by omega), elemCd, sizeCd]
  simp [Result.andThen]
theorem head22 {a : Option Addr} {c : Nat} {l : List Chk.CD} (hcl : ∀ d ∈ l, (cdL d).length = 34) (hl : 20 < l.length) (hc : l.length ≤ c) :
    ∃ sa sc, (∀ w, (Instr.sliceAt 22 (.slice a l.length c) none (some (.int .i64 20)) none).run Tryz.prog w = .ok (.slice sa 20 sc) w) ∧ ∀ W, rdsl 34 (.slice a l.length c) (l.flatMap cdL) W → rdsl 34 (.slice sa 20 sc) ((l.take 20).flatMap cdL) W := by
  refine ⟨_, _, fun w => run_slCd (k := 20) (by omega) w, fun W hW => ?_⟩
  have hw := hW
  obtain ⟨a', n', c', he, hl', hx⟩ := hW
  cases he
  have e : l.flatMap cdL = (l.take 20).flatMap cdL ++ (l.drop 20).flatMap cdL := by rw [← List.flatMap_append, List.take_append_drop]
  refine ⟨_, _, _, rfl, by rw [rows_len (k := 34) fun d hd => hcl d (List.mem_of_mem_take hd), List.length_take]; omega, fun j y hj => ?_⟩
  have hj2 : (l.flatMap cdL)[j]? = some y := by rw [e, List.getElem?_append_left (List.getElem?_eq_some_iff.1 hj).1]; exact hj
  obtain ⟨bk, off, rfl, hc'⟩ := rdsl_cells hw hj2
  rw [if_neg (by omega)]
  refine ⟨_, rfl, ?_⟩
  have := hc' j _ hj2
  show W.cell? (((⟨bk, off, none⟩ : Addr).add (0 * 34)).add j) = _
  rw [Addr.add_mid, Addr.add_mid, Nat.zero_mul, Nat.add_zero]; exact this
theorem plRs : placesB Tryz.prog 41 = some [(0, 1), (1, 1), (2, 1)] := by kernel_rfl
theorem zRs : zeroB Tryz.prog 41 = some (.agg #[.pointer none, .slice none 0 0, .bool false]) := by kernel_rfl
theorem run_rs (a : Option Addr) (n c : Nat) (w : World) : (Instr.build 41 #[(1, .slice a n c)]).run Tryz.prog w = .ok (.agg #[.pointer none, .slice a n c, .bool false]) w :=
  run_build (P := Tryz.prog) [(1, .slice a n c)] plRs zRs (by
    intro q hq
    rw [List.mem_singleton.1 hq]
    exact ⟨1, rfl, by show 1 + 1 ≤ 3; decide⟩) w
theorem eqlG_cnt (x y : Operand) (q : Rep.Rfc) (w : World) : ((do eqGuard .eql 44 x y (.agg (renc q).toArray) (.agg (renc q).toArray); binOp .eql 44 (.agg (renc q).toArray) (.agg (renc q).toArray)) : Sem Value).run Tryz.prog w = .ok (.bool true) w := by
  have h : (binOp .eql 44 (.agg (renc q).toArray) (.agg (renc q).toArray)).run Tryz.prog w = .ok (.bool true) w := by rw [run_eql_struct, eqIn_cnt 9998 q w]; rfl
  simp [eqGuard, Sem.run_bind, h]
theorem none_lists : Tab.Lists (fun _ : Frm.Bs => (none : Option Rep.Rfc)) [] := ⟨List.Pairwise.nil, fun k v => ⟨fun h => (by cases h), fun h => (by cases h)⟩⟩
section
variable {w0 w : World} {F : List HProp} {lv : Value} {k : Frm.Bs}
set_option maxRecDepth 20000 in
theorem chunks_counts_c (hk : k.length = 32) (l : List Chk.CD) (hr : Ro w0 F (rdsl 34 lv (l.flatMap cdL))) (hc : capOk lv) (hlk : ∀ d ∈ l, d.1.length = 32) (hH : Ro w0 F Half) (hSK : Ro w0 F ShaK) (h : Sat w0 w F) :
    Calls Tryz.prog 3 #[lv, .agg (bys k).toArray] w (Rtn fun v w' => v = .bool true ∧ Sat w0 w' F) := by
  have hcl : ∀ d ∈ l, (cdL d).length = 34 := fun d hd => cdL_len d (hlk d hd)
  obtain ⟨la, lc, rfl⟩ := osl_rows hcl (hr w h) dCz
  obtain ⟨_, _, _, he, hcap, _⟩ := hc
  cases he
  have HH := Lib.hid hH; have HSK := Lib.hid hSK; have Hkk := Lib.hid hk; have Hks := Lib.hid (show (bys k).length = 32 by rw [bys_len, hk])
  clear hH hSK hk
  have Hop := Lib.hid (fun (w' : World) (R : List HProp) (hh : Ro w0 R Half) (hw : Sat w0 w' R) => opened22_c 500 hh hw)
  go_enter Tryz.func3, Tryz.ntmps3
  go_wp2_with (with_reducible apply at_box)
  refine ⟨?_⟩
  refine wl_box h evD evD ?_
  intro b3 w3 h3
  replace h3 : Sat w0 w3 (pt b3 (.cells (bys k).toArray 24 (0,0)) :: F) := h3
  clear h
  by_cases h20 : 20 < l.length
  · have c1 : (20 : Int) < (l.length : Int) := by omega
    obtain ⟨sa, sc, hrun, hrd⟩ := head22 (a := la) hcl h20 hcap
    obtain ⟨l2, hl2⟩ : ∃ l2, l.take 20 = l2 := ⟨_, rfl⟩
    have hk2 : ∀ d ∈ l2, d.1.length = 32 := fun d hd => hlk d (List.mem_of_mem_take (by rw [hl2]; exact hd))
    have hn2 : l2.length ≤ 20 := by rw [← hl2, List.length_take]; omega
    rw [hl2] at hrd
    have HX := Lib.hid (show Ro w0 F (rdsl 34 (.slice sa 20 sc) (l2.flatMap cdL)) from fun w hw => hrd w (hr w hw))
    clear hcl hlk hr hrd hl2 hcap h20
    go_wp2_with ((with_reducible apply at_slT); refine ⟨?_⟩; refine wl_slT rFz rFz hrun ?_)
    clear hrun c1
    have Hk2 := Lib.hid hk2; have Hn2 := Lib.hid (show l2.length ≤ 1000 by omega)
    clear hk2 hn2
    refine (Hop.out _ _ (Ro.os HH.out) h3).mono ?_
    rintro ee w4 ⟨v, rfl, s, t, r, m, p, ps, pi, pn, uv, limit, M, rfl, q1, q2, q3, q4, q5, h4'⟩
    have h4 : Sat w0 w4 (stoPt s r t false :: TabMR t (fun _ => none) 0 :: rpPt r m limit p ps pn false :: pt b3 (.cells (bys k).toArray 24 (0,0)) :: F) := h4'.sb
    clear h3 h4' q1 q2 q3 q4 q5
    go_wp2_with fail
    refine (srepo_c h4).mono ?_
    rintro ee w5 ⟨v, rfl, rfl, rfl⟩
    go_wp2_with fail
    refine (new22_c (st := true) l2 Hn2.out (Ro.os HX.out) Hk2.out (h4.sb : Sat w0 w4 (rpPt r m limit p ps pn false :: stoPt s r t false :: TabMR t (fun _ => none) 0 :: pt b3 (.cells (bys k).toArray 24 (0,0)) :: F))).mono ?_
    rintro ee w6 ⟨v, rfl, hh⟩
    clear h4
    rcases hh with ⟨hi, s2, t2, rfl, h6⟩ | ⟨e, hi, he, rfl, h6⟩
    · have Hi := Lib.hid hi
      clear hi
      go_wp2_with fail
      refine (sreset_c l2 Hn2.out (Ro.os HX.out) Hk2.out (h6.sb : Sat w0 w6 (stoPt s r t false :: stoPt s2 r t2 true :: TabMR t2 (Tab.mapOf l2) l2.length :: pt b3 (.cells (bys k).toArray 24 (0,0)) :: F))).mono ?_
      rintro ee w7 ⟨v, rfl, hh⟩
      clear h6
      rcases hh with ⟨_, t3, rfl, h7⟩ | ⟨e, hi, he, _, _⟩
      rotate_left
      · exact absurd (hi.unique Hi.out) he
      go_wp2_with fail
      refine (rcheck_c l2 Hn2.out (Ro.os HX.out) Hk2.out h7).mono ?_
      rintro ee w8 ⟨v, rfl, e, rfl, hi, h8⟩
      obtain rfl : e = 0 := hi.unique Hi.out
      clear h7 hi
      have hl2 : Tab.Lists (Tab.mapOf l2) l2 := by
        rcases Hi.out with ⟨_, a, _⟩ | ⟨e, _⟩ | ⟨e, _⟩
        · exact Tab.mapOf_lists a.pair
        · cases e
        · cases e
      have Hl2 := Lib.hid hl2
      clear hl2
      have hbin := fun x y w => eqlG_cnt x y ((Tab.mapOf l2 k).getD ⟨0, 0⟩) w
      have Hc1 := Lib.hid (fun (w' : World) (s r t : Nat) (st : Bool) (R : List HProp) (hw : Sat w0 w' (TabMR t (Tab.mapOf l2) l2.length :: stoPt s r t st :: R)) => scounts_c Hl2.out (by have := Hn2.out; omega) (by have := Hn2.out; omega) Hk2.out hw)
      have Hc2 := Lib.hid (fun (w' : World) (R : List HProp) (hw : Sat w0 w' (stoPt s r t3 false :: TabMR t3 (Tab.mapOf l2) l2.length :: R)) => scount_c (k := k) (by have := Hn2.out; omega) Hkk.out hw)
      have Hc3 := Lib.hid (fun (w' : World) (x : Nat) (lv : Value) (R : List HProp) (hr : Ro w0 R (rdsl 34 lv (l2.flatMap cdL))) (hw : Sat w0 w' (rs22Pt x lv :: R)) => rcount_c Hkk.out l2 Hn2.out hr Hk2.out Hl2.out hw)
      generalize (Tab.mapOf l2 k).getD ⟨0, 0⟩ = cq at *
      go_wp2_with (first
        | ((with_reducible apply ug_at_build); refine ⟨?_⟩; refine wl_bld rFz (run_rs _ _ _) ?_)
        | ((with_reducible apply at_box); refine ⟨?_⟩; refine wl_box h8 rFz rFz ?_; intro x w9 h9))
      have h10 : Sat w0 _ (TabMR t2 (Tab.mapOf l2) l2.length :: stoPt s2 r t2 true :: pt b3 (.cells (bys k).toArray 24 (0,0)) :: rs22Pt x (.slice sa 20 sc) :: stoPt s r t3 false :: TabMR t3 (Tab.mapOf l2) l2.length :: F) := (h9.sb : Sat w0 w9 (TabMR t2 (Tab.mapOf l2) l2.length :: stoPt s2 r t2 true :: pt b3 (.cells (bys k).toArray 24 (0,0)) :: rs22Pt x (.slice sa 20 sc) :: stoPt s r t3 false :: TabMR t3 (Tab.mapOf l2) l2.length :: F)).drew
      clear h8 h9
      refine wpL_begin [16, 17, 18, 19, 20, 21, 22] (fun w' => w'.rangeAt b3 0 (bys k)) kRz ?_
      refine rp 0 (hy := (yl_move evD)) (h := ?_)
      refine rp 2 (hy := (yl_move evD)) (h := ?_)
      refine rg_eff 1 evD kRz (fun K hK => ?_)
      (refine eff_call1 kRz evD ?_)
      refine (Hc1.out _ _ _ _ _ _ h10).mono ?_
      rintro ee w11 ⟨v, rfl, h11⟩
      refine hK _ _ (.inr (.inl (fun j v hj => h11.cellP pick3 (0 + j) (by simpa using hj)))) ?_
      clear hK h10
      refine rg_eff 3 evD kRz (fun K hK => ?_)
      (refine eff_call2 kRz evD evD ?_)
      refine (sameCnt22_c l2 Hk2.out (fun w hw => Sat.rd hw) (Ro.os HX.out) h11 (by have := Hn2.out; omega)).mono ?_
      rintro ee w12 ⟨v, rfl, rfl, h12⟩
      refine hK _ _ (.inr (.inl (fun j v hj => h12.cellP pick3 (0 + j) (by simpa using hj)))) ?_
      clear hK h11
      refine rp 4 (hy := (yl_move evD)) (h := ?_)
      refine rp 5 (hy := (yg_move rFz evD)) (h := ?_)
      refine rp 7 (hy := (yg_move rFz evD)) (h := ?_)
      refine rg_eff 6 evD kRz (fun K hK => ?_)
      refine eg_call [ptr s] rFz kRz rFz ?_
      refine (Hc1.out _ _ _ _ _ _ (h12.sb : Sat w0 _ (TabMR t3 (Tab.mapOf l2) l2.length :: stoPt s r t3 false :: pt b3 (.cells (bys k).toArray 24 (0,0)) :: rs22Pt x (.slice sa 20 sc) :: F))).mono ?_
      rintro ee w13 ⟨v, rfl, h13⟩
      refine hK _ _ (.inr (.inl (fun j v hj => h13.cellP pick3 (0 + j) (by simpa using hj)))) ?_
      clear hK h12
      refine rg_eff 8 evD kRz (fun K hK => ?_)
      refine eg_call [v, (.slice sa 20 sc)] rFz kRz rFz ?_
      refine (sameCnt22_c l2 Hk2.out (fun w hw => Sat.rd hw) (Ro.os HX.out) h13 (by have := Hn2.out; omega)).mono ?_
      rintro ee w14 ⟨v, rfl, rfl, h14⟩
      have hG : World.rangeAt _ b3 0 (bys k) := fun j v hj => h14.cellP pick3 (0 + j) (by simpa using hj)
      refine hK _ _ (.inr (.inl hG)) ?_
      clear hK h13
      refine rp 9 (hy := (yg_pick rFz evD evD)) (h := ?_)
      refine rp 10 (hy := (yl_move evD)) (h := ?_)
      refine rp 11 (hy := (yg_move rFz evD)) (h := ?_)
      refine rp 14 (hy := (yg_move rFz evD)) (h := ?_)
      refine rg_take 12 evD kRz i3z (tg_loadN (b := b3) (o := 0) (bys k) rFz rFz Tryz.underlying24 rfl (by rw [Hks.out]; kernel_rfl) (fun w hw => hw)) (by assumption) (by go_frame; first | done | rfl) ?_
      refine rg_take 15 evD kRz i3z (tg_loadN (b := b3) (o := 0) (bys k) rFz rFz Tryz.underlying24 rfl (by rw [Hks.out]; kernel_rfl) (fun w hw => hw)) (by assumption) (by go_frame; first | done | rfl) ?_
      clear hG
      refine rg_eff 13 evD kRz (fun K hK => ?_)
      refine eg_call [ptr s, .agg (bys k).toArray] rFz kRz rFz ?_
      refine (Hc2.out _ _ (h14.sb : Sat w0 _ (stoPt s r t3 false :: TabMR t3 (Tab.mapOf l2) l2.length :: rs22Pt x (.slice sa 20 sc) :: pt b3 (.cells (bys k).toArray 24 (0,0)) :: F))).mono ?_
      rintro ee w15 ⟨v, rfl, rfl, h15⟩
      refine hK _ _ (.inr (.inl (fun j v hj => h15.cellP pick3 (0 + j) (by simpa using hj)))) ?_
      clear hK h14
      refine rg_eff 16 evD kRz (fun K hK => ?_)
      refine eg_call [ptr x, .agg (bys k).toArray] rFz kRz rFz ?_
      refine (Hc3.out _ _ _ _ (Ro.os HX.out) (h15.sb : Sat w0 _ (rs22Pt x (.slice sa 20 sc) :: F))).mono ?_
      rintro ee w16 ⟨v, rfl, rfl, h16⟩
      refine hK _ _ (.inl rfl) ?_
      clear hK h15
      refine rp 17 (hy := (yg_bin rFz evD evD (hbin _ _))) (h := ?_)
      refine rp 18 (hy := (yg_pick rFz evD evD)) (h := ?_)
      refine rp 19 (hy := (yl_move evD)) (h := ?_)
      refine rg_eff 20 evD kRz (fun K hK => ?_)
      refine eg_call [] rFz kRz rFz ?_
      refine (lives22_c (Ro.os HH.out) (Ro.os HSK.out) h16).mono ?_
      rintro ee w17 ⟨v, rfl, rfl, h17⟩
      refine hK _ _ (.inl rfl) ?_
      clear hK h16
      refine rp 21 (hy := (yg_pick rFz evD evD)) (h := ?_)
      refine rp 22 (hy := (yl_assign evD)) (h := ?_)
      refine wpL_done kRz ?_
      clear hbin
      go_wp2_with fail
      go_ret
      exact ⟨_, rfl, rfl, h17.sb⟩
    · have Hi := Lib.hid hi; have He := Lib.hid he
      clear hi he
      go_wp2_with fail
      refine (sreset_c l2 Hn2.out (Ro.os HX.out) Hk2.out (h6.sb : Sat w0 w6 (stoPt s r t false :: TabMR t (fun _ => none) 0 :: pt b3 (.cells (bys k).toArray 24 (0,0)) :: F))).mono ?_
      rintro ee w7 ⟨v, rfl, hh⟩
      clear h6
      rcases hh with ⟨hi, _⟩ | ⟨e1, hi, _, rfl, h7⟩
      · exact absurd (Hi.out.unique hi) He.out
      obtain rfl : e1 = e := hi.unique Hi.out
      clear hi
      go_wp2_with fail
      refine (rcheck_c l2 Hn2.out (Ro.os HX.out) Hk2.out h7).mono ?_
      rintro ee w8 ⟨v, rfl, e2, rfl, hi, h8⟩
      obtain rfl : e2 = e1 := hi.unique Hi.out
      clear h7 hi
      have hb : (e2 != 0) = true := bne_iff_ne.2 He.out
      go_wp2_with fail
      clear hb
      refine (scounts_c (kv := []) none_lists dCz dCz (fun q hq => by cases hq) (h8.sb : Sat w0 _ (TabMR t (fun _ => none) 0 :: stoPt s r t false :: F))).mono ?_
      rintro ee w9 ⟨v, rfl, h9⟩
      obtain ⟨oa, on, oc, rfl, hon, _⟩ := Sat.rd h9
      obtain rfl : on = 0 := by simp at hon; omega
      clear hon h8
      go_wp2_with fail
      refine (lives22_c (Ro.os HH.out) (Ro.os HSK.out) h9).mono ?_
      rintro ee w10 ⟨v, rfl, rfl, h10⟩
      go_wp2_with fail
      go_ret
      exact ⟨_, rfl, rfl, h10.sb⟩
  · have c1 : ¬ (20 : Int) < (l.length : Int) := by omega
    obtain ⟨sa, rfl⟩ : ∃ sa, sa = la := ⟨_, rfl⟩
    obtain ⟨sc, rfl⟩ : ∃ sc, sc = lc := ⟨_, rfl⟩
    obtain ⟨l2, rfl⟩ : ∃ l2, l2 = l := ⟨_, rfl⟩
    have hk2 := hlk
    have hn2 : l2.length ≤ 20 := by omega
    have HX := Lib.hid hr
    clear hcl hlk hr hcap h20
    go_wp2_with fail
    clear c1
    have Hk2 := Lib.hid hk2; have Hn2 := Lib.hid (show l2.length ≤ 1000 by omega)
    clear hk2 hn2
    refine (Hop.out _ _ (Ro.os HH.out) h3).mono ?_
    rintro ee w4 ⟨v, rfl, s, t, r, m, p, ps, pi, pn, uv, limit, M, rfl, q1, q2, q3, q4, q5, h4'⟩
    have h4 : Sat w0 w4 (stoPt s r t false :: TabMR t (fun _ => none) 0 :: rpPt r m limit p ps pn false :: pt b3 (.cells (bys k).toArray 24 (0,0)) :: F) := h4'.sb
    clear h3 h4' q1 q2 q3 q4 q5
    go_wp2_with fail
    refine (srepo_c h4).mono ?_
    rintro ee w5 ⟨v, rfl, rfl, rfl⟩
    go_wp2_with fail
    refine (new22_c (st := true) l2 Hn2.out (Ro.os HX.out) Hk2.out (h4.sb : Sat w0 w4 (rpPt r m limit p ps pn false :: stoPt s r t false :: TabMR t (fun _ => none) 0 :: pt b3 (.cells (bys k).toArray 24 (0,0)) :: F))).mono ?_
    rintro ee w6 ⟨v, rfl, hh⟩
    clear h4
    rcases hh with ⟨hi, s2, t2, rfl, h6⟩ | ⟨e, hi, he, rfl, h6⟩
    · have Hi := Lib.hid hi
      clear hi
      go_wp2_with fail
      refine (sreset_c l2 Hn2.out (Ro.os HX.out) Hk2.out (h6.sb : Sat w0 w6 (stoPt s r t false :: stoPt s2 r t2 true :: TabMR t2 (Tab.mapOf l2) l2.length :: pt b3 (.cells (bys k).toArray 24 (0,0)) :: F))).mono ?_
      rintro ee w7 ⟨v, rfl, hh⟩
      clear h6
      rcases hh with ⟨_, t3, rfl, h7⟩ | ⟨e, hi, he, _, _⟩
      rotate_left
      · exact absurd (hi.unique Hi.out) he
      go_wp2_with fail
      refine (rcheck_c l2 Hn2.out (Ro.os HX.out) Hk2.out h7).mono ?_
      rintro ee w8 ⟨v, rfl, e, rfl, hi, h8⟩
      obtain rfl : e = 0 := hi.unique Hi.out
      clear h7 hi
      have hl2 : Tab.Lists (Tab.mapOf l2) l2 := by
        rcases Hi.out with ⟨_, a, _⟩ | ⟨e, _⟩ | ⟨e, _⟩
        · exact Tab.mapOf_lists a.pair
        · cases e
        · cases e
      have Hl2 := Lib.hid hl2
      clear hl2
      have hbin := fun x y w => eqlG_cnt x y ((Tab.mapOf l2 k).getD ⟨0, 0⟩) w
      have Hc1 := Lib.hid (fun (w' : World) (s r t : Nat) (st : Bool) (R : List HProp) (hw : Sat w0 w' (TabMR t (Tab.mapOf l2) l2.length :: stoPt s r t st :: R)) => scounts_c Hl2.out (by have := Hn2.out; omega) (by have := Hn2.out; omega) Hk2.out hw)
      have Hc2 := Lib.hid (fun (w' : World) (R : List HProp) (hw : Sat w0 w' (stoPt s r t3 false :: TabMR t3 (Tab.mapOf l2) l2.length :: R)) => scount_c (k := k) (by have := Hn2.out; omega) Hkk.out hw)
      have Hc3 := Lib.hid (fun (w' : World) (x : Nat) (lv : Value) (R : List HProp) (hr : Ro w0 R (rdsl 34 lv (l2.flatMap cdL))) (hw : Sat w0 w' (rs22Pt x lv :: R)) => rcount_c Hkk.out l2 Hn2.out hr Hk2.out Hl2.out hw)
      generalize (Tab.mapOf l2 k).getD ⟨0, 0⟩ = cq at *
      go_wp2_with (first
        | ((with_reducible apply ug_at_build); refine ⟨?_⟩; refine wl_bld rFz (run_rs _ _ _) ?_)
        | ((with_reducible apply at_box); refine ⟨?_⟩; refine wl_box h8 rFz rFz ?_; intro x w9 h9))
      have h10 : Sat w0 _ (TabMR t2 (Tab.mapOf l2) l2.length :: stoPt s2 r t2 true :: pt b3 (.cells (bys k).toArray 24 (0,0)) :: rs22Pt x (.slice sa l2.length sc) :: stoPt s r t3 false :: TabMR t3 (Tab.mapOf l2) l2.length :: F) := (h9.sb : Sat w0 w9 (TabMR t2 (Tab.mapOf l2) l2.length :: stoPt s2 r t2 true :: pt b3 (.cells (bys k).toArray 24 (0,0)) :: rs22Pt x (.slice sa l2.length sc) :: stoPt s r t3 false :: TabMR t3 (Tab.mapOf l2) l2.length :: F)).drew
      clear h8 h9
      refine wpL_begin [16, 17, 18, 19, 20, 21, 22] (fun w' => w'.rangeAt b3 0 (bys k)) kRz ?_
      refine rp 0 (hy := (yl_move evD)) (h := ?_)
      refine rp 2 (hy := (yl_move evD)) (h := ?_)
      refine rg_eff 1 evD kRz (fun K hK => ?_)
      (refine eff_call1 kRz evD ?_)
      refine (Hc1.out _ _ _ _ _ _ h10).mono ?_
      rintro ee w11 ⟨v, rfl, h11⟩
      refine hK _ _ (.inr (.inl (fun j v hj => h11.cellP pick3 (0 + j) (by simpa using hj)))) ?_
      clear hK h10
      refine rg_eff 3 evD kRz (fun K hK => ?_)
      (refine eff_call2 kRz evD evD ?_)
      refine (sameCnt22_c l2 Hk2.out (fun w hw => Sat.rd hw) (Ro.os HX.out) h11 (by have := Hn2.out; omega)).mono ?_
      rintro ee w12 ⟨v, rfl, rfl, h12⟩
      refine hK _ _ (.inr (.inl (fun j v hj => h12.cellP pick3 (0 + j) (by simpa using hj)))) ?_
      clear hK h11
      refine rp 4 (hy := (yl_move evD)) (h := ?_)
      refine rp 5 (hy := (yg_move rFz evD)) (h := ?_)
      refine rp 7 (hy := (yg_move rFz evD)) (h := ?_)
      refine rg_eff 6 evD kRz (fun K hK => ?_)
      refine eg_call [ptr s] rFz kRz rFz ?_
      refine (Hc1.out _ _ _ _ _ _ (h12.sb : Sat w0 _ (TabMR t3 (Tab.mapOf l2) l2.length :: stoPt s r t3 false :: pt b3 (.cells (bys k).toArray 24 (0,0)) :: rs22Pt x (.slice sa l2.length sc) :: F))).mono ?_
      rintro ee w13 ⟨v, rfl, h13⟩
      refine hK _ _ (.inr (.inl (fun j v hj => h13.cellP pick3 (0 + j) (by simpa using hj)))) ?_
      clear hK h12
      refine rg_eff 8 evD kRz (fun K hK => ?_)
      refine eg_call [v, (.slice sa l2.length sc)] rFz kRz rFz ?_
      refine (sameCnt22_c l2 Hk2.out (fun w hw => Sat.rd hw) (Ro.os HX.out) h13 (by have := Hn2.out; omega)).mono ?_
      rintro ee w14 ⟨v, rfl, rfl, h14⟩
      have hG : World.rangeAt _ b3 0 (bys k) := fun j v hj => h14.cellP pick3 (0 + j) (by simpa using hj)
      refine hK _ _ (.inr (.inl hG)) ?_
      clear hK h13
      refine rp 9 (hy := (yg_pick rFz evD evD)) (h := ?_)
      refine rp 10 (hy := (yl_move evD)) (h := ?_)
      refine rp 11 (hy := (yg_move rFz evD)) (h := ?_)
      refine rp 14 (hy := (yg_move rFz evD)) (h := ?_)
      refine rg_take 12 evD kRz i3z (tg_loadN (b := b3) (o := 0) (bys k) rFz rFz Tryz.underlying24 rfl (by rw [Hks.out]; kernel_rfl) (fun w hw => hw)) (by assumption) (by go_frame; first | done | rfl) ?_
      refine rg_take 15 evD kRz i3z (tg_loadN (b := b3) (o := 0) (bys k) rFz rFz Tryz.underlying24 rfl (by rw [Hks.out]; kernel_rfl) (fun w hw => hw)) (by assumption) (by go_frame; first | done | rfl) ?_
      clear hG
      refine rg_eff 13 evD kRz (fun K hK => ?_)
      refine eg_call [ptr s, .agg (bys k).toArray] rFz kRz rFz ?_
      refine (Hc2.out _ _ (h14.sb : Sat w0 _ (stoPt s r t3 false :: TabMR t3 (Tab.mapOf l2) l2.length :: rs22Pt x (.slice sa l2.length sc) :: pt b3 (.cells (bys k).toArray 24 (0,0)) :: F))).mono ?_
      rintro ee w15 ⟨v, rfl, rfl, h15⟩
      refine hK _ _ (.inr (.inl (fun j v hj => h15.cellP pick3 (0 + j) (by simpa using hj)))) ?_
      clear hK h14
      refine rg_eff 16 evD kRz (fun K hK => ?_)
      refine eg_call [ptr x, .agg (bys k).toArray] rFz kRz rFz ?_
      refine (Hc3.out _ _ _ _ (Ro.os HX.out) (h15.sb : Sat w0 _ (rs22Pt x (.slice sa l2.length sc) :: F))).mono ?_
      rintro ee w16 ⟨v, rfl, rfl, h16⟩
      refine hK _ _ (.inl rfl) ?_
      clear hK h15
      refine rp 17 (hy := (yg_bin rFz evD evD (hbin _ _))) (h := ?_)
      refine rp 18 (hy := (yg_pick rFz evD evD)) (h := ?_)
      refine rp 19 (hy := (yl_move evD)) (h := ?_)
      refine rg_eff 20 evD kRz (fun K hK => ?_)
      refine eg_call [] rFz kRz rFz ?_
      refine (lives22_c (Ro.os HH.out) (Ro.os HSK.out) h16).mono ?_
      rintro ee w17 ⟨v, rfl, rfl, h17⟩
      refine hK _ _ (.inl rfl) ?_
      clear hK h16
      refine rp 21 (hy := (yg_pick rFz evD evD)) (h := ?_)
      refine rp 22 (hy := (yl_assign evD)) (h := ?_)
      refine wpL_done kRz ?_
      clear hbin
      go_wp2_with fail
      go_ret
      exact ⟨_, rfl, rfl, h17.sb⟩
    · have Hi := Lib.hid hi; have He := Lib.hid he
      clear hi he
      go_wp2_with fail
      refine (sreset_c l2 Hn2.out (Ro.os HX.out) Hk2.out (h6.sb : Sat w0 w6 (stoPt s r t false :: TabMR t (fun _ => none) 0 :: pt b3 (.cells (bys k).toArray 24 (0,0)) :: F))).mono ?_
      rintro ee w7 ⟨v, rfl, hh⟩
      clear h6
      rcases hh with ⟨hi, _⟩ | ⟨e1, hi, _, rfl, h7⟩
      · exact absurd (Hi.out.unique hi) He.out
      obtain rfl : e1 = e := hi.unique Hi.out
      clear hi
      go_wp2_with fail
      refine (rcheck_c l2 Hn2.out (Ro.os HX.out) Hk2.out h7).mono ?_
      rintro ee w8 ⟨v, rfl, e2, rfl, hi, h8⟩
      obtain rfl : e2 = e1 := hi.unique Hi.out
      clear h7 hi
      have hb : (e2 != 0) = true := bne_iff_ne.2 He.out
      go_wp2_with fail
      clear hb
      refine (scounts_c (kv := []) none_lists dCz dCz (fun q hq => by cases hq) (h8.sb : Sat w0 _ (TabMR t (fun _ => none) 0 :: stoPt s r t false :: F))).mono ?_
      rintro ee w9 ⟨v, rfl, h9⟩
      obtain ⟨oa, on, oc, rfl, hon, _⟩ := Sat.rd h9
      obtain rfl : on = 0 := by simp at hon; omega
      clear hon h8
      go_wp2_with fail
      refine (lives22_c (Ro.os HH.out) (Ro.os HSK.out) h9).mono ?_
      rintro ee w10 ⟨v, rfl, rfl, h10⟩
      go_wp2_with fail
      go_ret
      exact ⟨_, rfl, rfl, h10.sb⟩
end
end Go.Proofs.YtopconiamijknaaGreatDoor
namespace Go.Proofs.YtopconiamijknaaGreatDoor
open Go Go.Sl Go.Med Go.ChangeShapes Go.WideShapes Go.RowKit
section
variable {H : Type} {enc : TypeId × Value → H} {W : World} {base : Nat} {spare : Nat → Bool} {held : Bool}
set_option maxRecDepth 100000 in
theorem open_cd {fuel : Nat} {cs : List Value} {x : DataW H × List MemPlace} (h : DataW.trod enc Tryz.prog W base spare held fuel 75 cs = some x) : ∃ d : Frm.Bs × Rep.Rfc, cdL d = cs ∧ d.1.length = 32 := by
  obtain ⟨hl, hf⟩ := open_fields Tryz.underlying75 h
  have e34 : Tryz.prog.cellsOf 75 = 34 := by kernel_rfl
  have e1 : Tryz.prog.cellsOf 3 = 1 := by kernel_rfl
  have e2 : Tryz.prog.cellsOf 24 = 32 := by kernel_rfl
  have e3 : Tryz.prog.cellsOf 44 = 2 := by kernel_rfl
  rw [e34] at hl
  obtain ⟨n0, y0, h0⟩ := hf 0 _ rfl
  obtain ⟨n1, y1, h1⟩ := hf 1 _ rfl
  simp only [List.getElem_toArray, List.getElem_cons_zero, List.getElem_cons_succ, e2, e3, List.drop_zero] at h0 h1
  obtain ⟨kl, k1, k2⟩ := open_key Tryz.underlying24 e2 h0
  obtain ⟨hl2, hf2⟩ := open_fields Tryz.underlying44 h1
  obtain ⟨m0, u0, g0⟩ := hf2 0 _ rfl
  obtain ⟨m1, u1, g1⟩ := hf2 1 _ rfl
  simp only [List.getElem_toArray, List.getElem_cons_zero, List.getElem_cons_succ, e1, List.drop_zero] at g0 g1
  obtain ⟨z0, q0, _, _⟩ := DataW.trod_int Tryz.underlying3 g0
  obtain ⟨z1, q1, _, _⟩ := DataW.trod_int Tryz.underlying3 g1
  refine ⟨(kl, ⟨z0, z1⟩), ?_, k2⟩
  show bys kl ++ [.int .i64 z0, .int .i64 z1] = cs
  have s1 : cs = cs.take 32 ++ (cs.drop 32).take 2 := by
    rw [show (cs.drop 32).take 2 = cs.drop 32 from List.take_of_length_le (by rw [List.length_drop]; omega)]
    exact (List.take_append_drop 32 cs).symm
  have s2 : (cs.drop 32).take 2 = ((cs.drop 32).take 2).take 1 ++ (((cs.drop 32).take 2).drop 1).take 1 := by
    rw [show (((cs.drop 32).take 2).drop 1).take 1 = ((cs.drop 32).take 2).drop 1 from List.take_of_length_le (by rw [List.length_drop, List.length_take]; omega)]
    exact (List.take_append_drop 1 _).symm
  rw [s1, s2, ← k1, q0, q1]; rfl
theorem in_cds {fuel : Nat} {v : Value} {x : DataW H × List MemPlace} (h : DataW.trod enc Tryz.prog W base spare held fuel 22 [v] = some x) :
    ∃ ds : List (Frm.Bs × Rep.Rfc), rdsl 34 v (ds.flatMap cdL) W ∧ capOk v ∧ ∀ d ∈ ds, d.1.length = 32 := by
  obtain ⟨elems, h1, h2, h3⟩ := open_sl Tryz.underlying22 (k := 34) kRz (by omega) h
  obtain ⟨ds, h4, h5⟩ := map_of (f := cdL) (p := fun d => d.1.length = 32) elems fun cs hcs => by
    obtain ⟨_, n, y, h6⟩ := h3 cs hcs
    exact open_cd h6
  refine ⟨ds, ?_, h2, h5⟩
  rw [List.flatMap_def, h4]
  exact h1
end
end Go.Proofs.YtopconiamijknaaGreatDoor
