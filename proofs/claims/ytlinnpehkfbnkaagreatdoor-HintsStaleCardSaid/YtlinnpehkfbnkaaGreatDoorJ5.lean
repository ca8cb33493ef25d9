import Derived.Test.YtlinnpehkfbnkaaGreatDoorJ4
import Derived.Lib.Bytealg
import Derived.Lib.BytesEntry
import Derived.Sort.Grow
import Derived.Sort.OwnSorted
import Derived.Shelf.SlSortCmp.WholeK
import Derived.Shelf.SlSortCmp.NoneTotal
import Derived.Test.YtlinnpehkfbnkaaGreatDoorSort
import Derived.RangeFuncNested
import Derived.RangeFuncLeaves
import Derived.TacticsIn
import Derived.OrdersIn
import Derived.Lib.ConvBytes
import Derived.ArgAppend
import Derived.Laws.BitsAllLaws
set_option linter.unusedVariables false
set_option maxHeartbeats 128000000
namespace Go.Tab
open Go.Frm (Bs)
section
variable {V : Type} {x : Slot V} {c : Nat}
theorem good_empty (hc : ∃ j, c = 2 ^ j ∧ 3 ≤ j) (hk : x.key.length = 32) (hx : x.st = 0) : Good (List.replicate c x) :=
 ⟨by rw [List.length_replicate]; exact hc, (fun y hy => by rw [List.eq_of_mem_replicate hy, hx]; decide), (fun y hy => by rw [List.eq_of_mem_replicate hy]; exact hk), fun i y hy h1 => by
  rw [List.eq_of_mem_replicate (List.mem_of_getElem? hy), hx] at h1; cases h1⟩
theorem empty_has (hx : x.st = 0) (k : Bs) (v : V) : ¬ Has (List.replicate c x) k v := by
 rintro ⟨i, y, hy, h1, _⟩
 rw [List.eq_of_mem_replicate (List.mem_of_getElem? hy), hx] at h1; cases h1
theorem empty_fulls (hx : x.st = 0) : fulls (List.replicate c x) = 0 := by unfold fulls; rw [List.countP_replicate, if_neg (by rw [hx]; decide)]
theorem empty_used (hx : x.st = 0) : used (List.replicate c x) = 0 := by unfold used; rw [List.countP_replicate, if_neg (by rw [hx]; decide)]
theorem new_ok (hk : x.key.length = 32) (hx : x.st = 0) : (⟨List.replicate 8 x, 0, 0⟩ : Tb V).Ok :=
 ⟨good_empty ⟨3, rfl, Nat.le_refl 3⟩ hk hx, (empty_fulls hx).symm, (empty_used hx).symm, by simp, by simp⟩
theorem new_is (hx : x.st = 0) (n g : Nat) : (⟨List.replicate 8 x, n, g⟩ : Tb V).Is (fun _ => none) := fun k v => ⟨fun h => absurd h (empty_has hx k v), fun h => by cases h⟩
theorem Tb.Is.some {t : Tb V} {m : Bs → Option V} (hm : t.Is m) (ho : t.Ok) {k : Bs} {d : Nat} (he : Ends t.slots k d) {y : Slot V} (hy : t.slots[pos k t.slots.length d]? = some y) : (y.st = 1 → m k = some y.val) ∧ (y.st ≠ 1 → m k = none) := by
 refine ⟨fun h1 => (hm k _).1 (ends_full he hy h1).2, fun h1 => ?_⟩
 cases hmk : m k with
 | none => rfl
 | some v => exact absurd ((hm k v).2 hmk) ((ends_empty ho.good he hy h1).2 v)
end
end Go.Tab
namespace Go.Proofs.YtlinnpehkfbnkaaGreatDoor
open Go Go.Sl Go.Med Go.MapKept Go.RowKit
theorem made_rows (z : Array Value) (h : 0 < z.size) : ∀ n, (madeCells z (n * z.size)).toList = (List.replicate n z.toList).flatten
 | 0 => by simp [madeCells]
 | n + 1 => by
  have ih := made_rows z h n
  have hl : (madeCells z ((n + 1) * z.size)).toList = (List.range ((n + 1) * z.size)).map (z[· % z.size]!) := by unfold madeCells; simp
  have hl0 : (madeCells z (n * z.size)).toList = (List.range (n * z.size)).map (z[· % z.size]!) := by unfold madeCells; simp
  rw [hl0] at ih
  rw [hl, Nat.succ_mul, List.range_add, List.map_append, ih, List.replicate_succ', List.flatten_append]
  congr 1
  rw [List.map_map]
  simp only [List.flatten_cons, List.flatten_nil, List.append_nil]
  refine List.ext_getElem (by simp) fun i h1 h2 => ?_
  have hi : i < z.size := by simpa using h1
  simp only [List.getElem_map, List.getElem_range, Function.comp]
  rw [Nat.mul_comm n, Nat.mul_add_mod, Nat.mod_eq_of_lt hi, getElem!_pos z i hi, Array.getElem_toList]
section
variable {P : Program} {w0 w : World} {L L' R : List HProp} {b o : Nat} {ops : Array Oper} {rest : List Oper} {a : Act} {Q : Exit → Act → World → Prop} {dst : Option Tmp} {t ty T e sz by' n c : Nat} {pos : String} {after : Array Edge} {x y : Operand} {v : Value} {zs : List Value}
theorem at_make (h : Stop (wpList P ops Q (⟨dst, .makeSlice ty x y, t, pos, after, none⟩ :: rest) a w)) : wpList P ops Q (⟨dst, .makeSlice ty x y, t, pos, after, none⟩ :: rest) a w := h.out
theorem wl_makeN (hb : appB P ty e sz by' = true) (hz : zeroB P e = some (.agg zs.toArray)) (hs : Sat w0 w L) (hx : a.eval x = .int .i64 n) (hy : a.eval y = .int .i64 n) (hle : by' * n ≤ 281474976710656) (hm : n ≤ 9223372036854775807)
  (hK : ∀ b w', Sat w0 w' (osl e sz (.slice (some ⟨b, 0, none⟩) n n) (List.replicate n zs).flatten :: L) → wpList P ops Q rest (a.put dst (.slice (some ⟨b, 0, none⟩) n n)) w') :
  wpList P ops Q (⟨dst, .makeSlice ty x y, t, pos, after, none⟩ :: rest) a w := by
 obtain ⟨hu, i, z, hi, hz1, h1, h2, h3, h4⟩ := appB_spec hb
 have hzz : z = .agg zs.toArray := by
  unfold zeroB at hz
  rw [hi] at hz
  simp only [Option.bind_some] at hz
  rw [hz1] at hz
  exact Option.some.inj hz
 subst hzz
 have hzl : zs.length = sz := by rw [← List.size_toArray]; exact h3
 have hr := run_make (P := P) w ty e i (.agg zs.toArray) hu hi hz1 .i64 .i64 n n (by omega) (Int.le_refl _) (by rw [h2, ← Int.natCast_mul]; omega) (by omega)
 simp only [Int.toNat_natCast] at hr
 have hS := hs.alloc (.cells (madeCells (Value.agg zs.toArray).cells (n * i.size)) e)
 refine wpList_plain rfl fun _ hK' => ?_
 unfold Oper.wp execOp
 simp only [hx, hy, hr, Sem.run_bind, Sem.run_pure, Result.andThen_ok]
 refine hK' _ _ (hK _ _ ?_)
 have hm := made_rows zs.toArray (by rw [List.size_toArray]; omega) n
 rw [List.size_toArray, hzl] at hm
 refine Sat.osl_of_pt hS (by rw [List.length_flatten, List.map_replicate, List.sum_replicate_nat, hzl]) (Nat.le_refl _) (by rw [size_madeCells, h1]; exact Nat.le_refl _) (by unfold maxLen; omega) ?_
 rw [h1]
 show (madeCells zs.toArray (n * sz)).toList.take (n * sz) = _
 rw [hm, List.take_of_length_le (by rw [List.length_flatten, List.map_replicate, List.sum_replicate_nat, hzl]; exact Nat.le_refl _)]
end
end Go.Proofs.YtlinnpehkfbnkaaGreatDoor
namespace Go.Tab
open Go.Frm (Bs)
structure Renewed {V : Type} (t : Tb V) (s' : List (Slot V)) (N : Nat) : Prop where
 good : Good s'
 has : ∀ k v, Has s' k v ↔ Has t.slots k v
 nf : fulls s' = t.n
 nu : used s' = t.n
 lo : 2 * N ≤ s'.length
 lo8 : 8 ≤ s'.length
 hi : s'.length = 8 ∨ s'.length < 4 * N
theorem Renewed.ok {V : Type} {t : Tb V} {s' : List (Slot V)} (h : Renewed t s' (t.n + 1)) : (⟨s', t.n, 0⟩ : Tb V).Ok :=
 ⟨h.good, h.nf.symm, by rw [h.nu]; rfl, by have := h.lo; simp only; omega, by have := h.hi; simp only; omega⟩
theorem Renewed.is {V : Type} {t : Tb V} {s' : List (Slot V)} {N : Nat} (h : Renewed t s' N) {m : Bs → Option V} (hm : t.Is m) (n g : Nat) : (⟨s', n, g⟩ : Tb V).Is m := fun k v => (h.has k v).trans (hm k v)
theorem half_start {V : Type} {old : List (Slot V)} {x : Slot V} {c : Nat} (hc : ∃ j, c = 2 ^ j ∧ 3 ≤ j) (hk : x.key.length = 32) (hx : x.st = 0) : Half old (List.replicate c x) 0 :=
 ⟨good_empty hc hk hx, fun k v => ⟨fun h => absurd h (empty_has hx k v), fun h => by obtain ⟨i, y, hy, _⟩ := h; simp at hy⟩, by rw [empty_fulls hx]; rfl, by rw [empty_used hx]; rfl⟩
end Go.Tab
namespace Go.Proofs.YtlinnpehkfbnkaaGreatDoor
open Go Go.Sl Go.Med Go.MapKept Go.RowKit
theorem putL_app2 (A B vs : List Value) (i : Nat) (h : i + vs.length ≤ A.length) : putL (A ++ B) i vs = putL A i vs ++ B := by
 unfold putL
 rw [List.take_append_of_le_length (by omega), List.drop_append_of_le_length (by omega)]
 simp only [List.append_assoc]
theorem rows_part {α : Type} {f : α → List Value} {k : Nat} : ∀ {l : List α} {i o : Nat} {x x' : α} {vs : List Value}, (∀ x ∈ l, (f x).length = k) → l[i]? = some x → f x' = putL (f x) o vs → o + vs.length ≤ k → (l.set i x').flatMap f = putL (l.flatMap f) (i * k + o) vs
 | [], _, _, _, _, _, _, h, _, _ => by cases h
 | y :: l, 0, o, x, x', vs, hk, h, hx, ho => by
  obtain rfl : y = x := by simpa using h
  rw [List.set_cons_zero, List.flatMap_cons, List.flatMap_cons, Nat.zero_mul, Nat.zero_add, hx, putL_app2 _ _ _ _ (by rw [hk y (.head _)]; exact ho)]
 | y :: l, i + 1, o, x, x', vs, hk, h, hx, ho => by
  have h0 := hk y (.head _)
  rw [List.set_cons_succ, List.flatMap_cons, List.flatMap_cons, rows_part (fun z hz => hk z (.tail _ hz)) (by simpa using h) hx ho, show (i + 1) * k + o = (f y).length + (i * k + o) by rw [h0, Nat.succ_mul]; omega, putL_app]
theorem slotL_setv {V : Type} (enc : V → List Value) (x : Tab.Slot V) (v : V) (hk : x.key.length = 32) (he : (enc v).length = (enc x.val).length) : slotL enc ⟨x.st, x.key, v⟩ = putL (slotL enc x) 33 (enc v) := by
 have e : slotL enc x = (.int .i64 x.st :: bys x.key) ++ enc x.val := rfl
 have hl : (Value.int .i64 x.st :: bys x.key).length = 33 := by rw [List.length_cons, bys_len, hk]
 rw [e, show 33 = (Value.int .i64 x.st :: bys x.key).length + 0 by rw [hl], putL_app]
 unfold putL
 rw [List.take_zero, List.nil_append, Nat.zero_add, he, List.drop_length, List.append_nil]; rfl
section
variable {w0 w : World} {R : List HProp} {T sz n c : Nat} {a : Option Addr} {xs : List Value}
theorem osl_zero (h : Sat w0 w (osl T sz (.slice a n c) xs :: R)) (hx : 0 < xs.length) : ∃ b, a = some ⟨b, 0, none⟩ := by
 rcases Sat.osl_cases h with ⟨_, rfl, _⟩ | ⟨b, n', cap', cs, he, _⟩
 ·simp at hx
 ·cases he; exact ⟨b, rfl⟩
end
theorem wraps4 (n g l : Nat) (h : n + g ≤ 134217728) (hl : l ≤ 1073741824) :
  IntKind.i64.wrap ((n : Int) + (g : Int)) = (n : Int) + (g : Int) ∧ IntKind.i64.wrap ((n : Int) + (g : Int) + 1) = (n : Int) + (g : Int) + 1 ∧ IntKind.i64.wrap (4 * ((n : Int) + (g : Int) + 1)) = 4 * ((n : Int) + (g : Int) + 1) ∧ IntKind.i64.wrap (3 * (l : Int)) = 3 * (l : Int) ∧
  wrap64 ((n : Int) + (g : Int)) = (n : Int) + (g : Int) ∧ wrap64 ((n : Int) + (g : Int) + 1) = (n : Int) + (g : Int) + 1 ∧ wrap64 (4 * ((n : Int) + (g : Int) + 1)) = 4 * ((n : Int) + (g : Int) + 1) ∧ wrap64 (3 * (l : Int)) = 3 * (l : Int) ∧ IntKind.i64.wrap ((n : Int) + 1) = (n : Int) + 1 :=
 ⟨IntWalk.i64_in _ (by omega), IntWalk.i64_in _ (by omega), IntWalk.i64_in _ (by omega), IntWalk.i64_in _ (by omega), IntWalk.wrap64_in _ (by omega), IntWalk.wrap64_in _ (by omega), IntWalk.wrap64_in _ (by omega), IntWalk.wrap64_in _ (by omega), IntWalk.i64_in _ (by omega)⟩
theorem plSlotA : placesB Tryz.prog 256 = some [(0, 1), (1, 32), (33, 5)] := by kernel_rfl
theorem plSlotL : placesB Tryz.prog 230 = some [(0, 1), (1, 32), (33, 3)] := by kernel_rfl
theorem putL_all {xs vs : List Value} (h : vs.length = xs.length) : putL xs 0 vs = vs := by
 unfold putL
 rw [List.take_zero, List.nil_append, Nat.zero_add, h, List.drop_length, List.append_nil]
theorem puts_putL (cs : Array Value) (o : Nat) (vs : List Value) (h : o + vs.length ≤ cs.size) : (putsAt cs o vs).toList = putL cs.toList o vs := by
 rw [putsAt_list _ _ _ h, List.append_assoc]; rfl
theorem put_slot {V : Type} (enc : V → List Value) (z : Tab.Slot V) (k : Frm.Bs) (v : V) (hz : z.key.length = 32) (hk : k.length = 32) (he : (enc v).length = (enc z.val).length) (n : Nat) (hn : (enc z.val).length = n) :
  putParts [(0, 1), (1, 32), (33, n)] (slotL enc z).toArray [(0, .int .i64 1), (1, .agg (bys k).toArray), (2, .agg (enc v).toArray)] = (slotL enc ⟨1, k, v⟩).toArray := by
 have hzl : (slotL enc z).length = 33 + n := by rw [slotL_len enc z hz _ hn]
 show putsAt (putsAt (putsAt (slotL enc z).toArray 0 [.int .i64 1]) 1 (bys k)) 33 (enc v) = _
 apply putsAt_eq
 rw [puts_putL _ _ _ (by rw [putsAt_size, putsAt_size, List.size_toArray, hzl]; omega), puts_putL _ _ _ (by rw [putsAt_size, List.size_toArray, hzl, bys_len, hk]; omega), puts_putL _ _ _ (by rw [List.size_toArray, hzl, List.length_singleton]; omega)]
 have e : slotL enc z = [.int .i64 z.st] ++ (bys z.key ++ enc z.val) := rfl
 have e1 : putL (slotL enc z) 0 [.int .i64 1] = [.int .i64 1] ++ (bys z.key ++ enc z.val) := by
  rw [e, putL_app2 _ _ _ _ (Nat.le_refl 1)]; rfl
 have e2 : putL ([Value.int .i64 1] ++ (bys z.key ++ enc z.val)) 1 (bys k) = [Value.int .i64 1] ++ (bys k ++ enc z.val) := by
  have h0 := putL_app [Value.int .i64 1] (bys z.key ++ enc z.val) (bys k) 0
  have h1 : putL (bys z.key ++ enc z.val) 0 (bys k) = bys k ++ enc z.val := by
   rw [putL_app2 _ _ _ _ (by rw [bys_len, bys_len, hk, hz]; omega), putL_all (by rw [bys_len, bys_len, hk, hz])]
  rw [h1] at h0
  exact h0
 have e3 : putL ([Value.int .i64 1] ++ (bys k ++ enc z.val)) 33 (enc v) = [Value.int .i64 1] ++ (bys k ++ enc v) := by
  have h0 := putL_app ([Value.int .i64 1] ++ bys k) (enc z.val) (enc v) 0
  rw [putL_all he] at h0
  have hl : ([Value.int .i64 1] ++ bys k).length + 0 = 33 := by rw [List.length_append, bys_len, hk]; rfl
  rw [hl, List.append_assoc, List.append_assoc] at h0
  exact h0
 simp only []
 rw [e1, e2, e3]; rfl
end Go.Proofs.YtlinnpehkfbnkaaGreatDoor
namespace Go.Tab
open Go.Frm (Bs)
theorem bs_tri (a b : Bs) : a < b ∨ a = b ∨ b < a := by
 by_cases h1 : a < b
 ·exact .inl h1
 ·rcases List.le_iff_lt_or_eq.1 (List.not_lt.1 h1) with h2 | h2
  ·exact .inr (.inr h2)
  ·exact .inr (.inl h2.symm)
structure Lists {V : Type} (m : Bs → Option V) (l : List (Bs × V)) : Prop where
 rise : l.Pairwise fun a b => a.1 < b.1
 mem : ∀ k v, (k, v) ∈ l ↔ m k = some v
theorem rise_ext {V : Type} : ∀ {l l' : List (Bs × V)}, l.Pairwise (fun a b => a.1 < b.1) → l'.Pairwise (fun a b => a.1 < b.1) → (∀ p, p ∈ l ↔ p ∈ l') → l = l'
 | [], [], _, _, _ => rfl
 | [], b :: l', _, _, h => by have := (h b).2 (.head _); cases this
 | a :: l, [], _, _, h => by have := (h a).1 (.head _); cases this
 | a :: l, b :: l', h1, h2, h => by
  obtain ⟨a1, a2⟩ := List.pairwise_cons.1 h1
  obtain ⟨b1, b2⟩ := List.pairwise_cons.1 h2
  have hab : a = b := by
   rcases List.mem_cons.1 ((h a).1 (.head _)) with e | h3
   ·exact e
   ·rcases List.mem_cons.1 ((h b).2 (.head _)) with e | h4
    ·exact e.symm
    ·exact absurd (List.lt_trans (b1 a h3) (a1 b h4)) (List.lt_irrefl _)
  subst hab
  congr 1
  refine rise_ext a2 b2 fun p => ?_
  have := h p
  rw [List.mem_cons, List.mem_cons] at this
  constructor
  ·intro hp
   rcases this.1 (.inr hp) with e | h3
   ·subst e; exact absurd (a1 p hp) (List.lt_irrefl _)
   ·exact h3
  ·intro hp
   rcases this.2 (.inr hp) with e | h3
   ·subst e; exact absurd (b1 p hp) (List.lt_irrefl _)
   ·exact h3
theorem Lists.unique {V : Type} {m : Bs → Option V} {l l' : List (Bs × V)} (h : Lists m l) (h' : Lists m l') : l = l' :=
 rise_ext h.rise h'.rise fun p => by rw [h.mem p.1 p.2, h'.mem p.1 p.2]
theorem Lists.keys {V : Type} {m : Bs → Option V} {l : List (Bs × V)} (h : Lists m l) : (l.map (·.1)).Nodup := by
 rw [List.nodup_iff_pairwise_ne, List.pairwise_map]
 exact h.rise.imp fun {a b} hab e => by rw [e] at hab; exact List.lt_irrefl _ hab
def ins {V : Type} : List (Bs × V) → Bs × V → List (Bs × V)
 | [], x => [x]
 | y :: l, x => if x.1 < y.1 then x :: y :: l else y :: ins l x
end Go.Tab
namespace Go.Rep
open Go.Frm (Bs Fnd)
open Go.Seg (Plc)
open Go.Tab
def idx (l : List Row) : Nat → List (Bs × Plc)
 | 0 => []
 | i + 1 => match l[i]? with
  | none => idx l i
  | some r => if cnt l i = true ∧ rtag r = 0 then ins (idx l i) (rkey r, rplc r) else idx l i
def live (l : List Row) (s : Int) : Nat → Int
 | 0 => 0
 | i + 1 => match l[i]? with
  | none => live l s i
  | some r => if cnt l i = true ∧ r.1 = s then live l s i + r.2.size else live l s i
def liveL (s : Int) : List (Bs × Abt) → Int
 | [] => 0
 | p :: l => (if counts p.2 = true ∧ p.2.place.seg = s then p.2.place.size else 0) + liveL s l
def puts (kv : List (Bs × Abt)) : List (Bs × Plc) := (kv.filter fun p => decide (p.2.tag = 0)).map fun p => (p.1, p.2.place)
theorem new_one {l : List Row} {i j : Nat} {r x : Row} (hi : l[i]? = some r) (hj : l[j]? = some x) (h1 : isNew l i = true) (h2 : isNew l j = true) (hk : rkey r = rkey x) : i = j := by
 have aux : ∀ {i j : Nat} {r x : Row}, l[i]? = some r → l[j]? = some x → isNew l i = true → isNew l j = true → rkey r = rkey x → ¬ i < j := by
  intro i j r x hi hj h1 h2 hk hlt
  unfold isNew at h1 h2
  rw [hi] at h1; rw [hj] at h2
  simp only [Bool.and_eq_true, decide_eq_true_eq, List.all_eq_true] at h1 h2
  have hm : x ∈ l.drop (i + 1) := by
   refine List.mem_of_getElem? (i := j - (i + 1)) ?_
   rw [List.getElem?_drop, show i + 1 + (j - (i + 1)) = j by omega]; exact hj
  have := h1.2 x hm
  simp [h2.1, hk] at this
 rcases Nat.lt_trichotomy i j with q | q | q
 ·exact absurd q (aux hi hj h1 h2 hk)
 ·exact q
 ·exact absurd q (aux hj hi h2 h1 hk.symm)
def newKeys (l : List Row) : Nat → List Bs
 | 0 => []
 | i + 1 => match l[i]? with
  | none => newKeys l i
  | some r => if isNew l i = true then rkey r :: newKeys l i else newKeys l i
theorem newKeys_mem {l : List Row} : ∀ {n : Nat} {k : Bs}, k ∈ newKeys l n ↔ ∃ i r, i < n ∧ l[i]? = some r ∧ isNew l i = true ∧ rkey r = k
 | 0, k => by simp [newKeys]
 | n + 1, k => by
  have ih := @newKeys_mem l n k
  unfold newKeys
  constructor
  ·intro h
   split at h
   ·obtain ⟨i, r, a, b⟩ := ih.1 h; exact ⟨i, r, by omega, b⟩
   ·rename_i r hr
    split at h
    ·rename_i hc
     rcases List.mem_cons.1 h with e | h
     ·exact ⟨n, r, by omega, hr, hc, e.symm⟩
     ·obtain ⟨i, r, a, b⟩ := ih.1 h; exact ⟨i, r, by omega, b⟩
    ·obtain ⟨i, r, a, b⟩ := ih.1 h; exact ⟨i, r, by omega, b⟩
  ·rintro ⟨i, r, hi, hr, hc, rfl⟩
   by_cases hin : i < n
   ·have := ih.2 ⟨i, r, hin, hr, hc, rfl⟩
    split
    ·exact this
    ·split
     ·exact .tail _ this
     ·exact this
   ·obtain rfl : i = n := by omega
    rw [hr]
    simp only
    rw [if_pos hc]
    exact .head _
theorem newKeys_nodup {l : List Row} : ∀ n, (newKeys l n).Nodup
 | 0 => List.nodup_nil
 | n + 1 => by
  unfold newKeys
  split
  ·exact newKeys_nodup n
  ·rename_i r hr
   split
   ·rename_i hc
    refine List.nodup_cons.2 ⟨fun h => ?_, newKeys_nodup n⟩
    obtain ⟨i, x, a, b, c, d⟩ := newKeys_mem.1 h
    have := new_one b hr c hc d
    omega
   ·exact newKeys_nodup n
def adds (l : List Row) (s : Int) (k : Bs) : Int := match ledger l k with
 | some a => if counts a = true ∧ a.place.seg = s then a.place.size else 0
 | none => 0
theorem sum_perm {f : Bs → Int} {l l' : List Bs} (h : l.Perm l') : (l.map f).sum = (l'.map f).sum := by
 induction h with
 | nil => rfl
 | cons x _ ih => simp only [List.map_cons, List.sum_cons, ih]
 | swap x y l => simp only [List.map_cons, List.sum_cons]; omega
 | trans _ _ h1 h2 => rw [h1, h2]
theorem live_new {l : List Row} (hl : Rows l) (s : Int) : ∀ n, live l s n = ((newKeys l n).map (adds l s)).sum
 | 0 => rfl
 | n + 1 => by
  have ih := live_new hl s n
  unfold live newKeys
  split
  ·rename_i hr; rw [ih]
  ·rename_i r hr
   by_cases hn : isNew l n = true
   ·obtain ⟨a, h1, h2, h3, h4⟩ := cnt_eq hl hr hn
    rw [if_pos hn, List.map_cons, List.sum_cons, ih]
    unfold adds
    rw [h1]
    simp only
    rw [h4, h3, show (rplc r).seg = r.1 from rfl, show (rplc r).size = (r.2.size : Int) from rfl]
    split
    ·exact Int.add_comm _ _
    ·exact (Int.zero_add _).symm
   ·rw [if_neg hn, if_neg (fun h => hn (cnt_new h.1)), ih]
theorem liveL_sum {l : List Row} (s : Int) : ∀ (kv : List (Bs × Abt)), (∀ p ∈ kv, ledger l p.1 = some p.2) → liveL s kv = ((kv.map (·.1)).map (adds l s)).sum
 | [], _ => rfl
 | p :: kv, h => by
  rw [List.map_cons, List.map_cons, List.sum_cons, ← liveL_sum s kv fun q hq => h q (.tail _ hq)]
  unfold adds
  rw [h p (.head _)]
  rfl
theorem live_eq {l : List Row} (hl : Rows l) {kv : List (Bs × Abt)} (hk : Lists (ledger l) kv) (s : Int) : live l s l.length = liveL s kv := by
 rw [live_new hl, liveL_sum s kv fun p hp => (hk.mem p.1 p.2).1 hp]
 refine sum_perm ((List.perm_ext_iff_of_nodup (newKeys_nodup _) hk.keys).2 fun k => ?_)
 rw [newKeys_mem, List.mem_map]
 constructor
 ·rintro ⟨i, r, _, hr, hn, rfl⟩
  obtain ⟨a, h1, _⟩ := cnt_eq hl hr hn
  exact ⟨(rkey r, a), (hk.mem _ _).2 h1, rfl⟩
 ·rintro ⟨⟨k', a⟩, hp, rfl⟩
  have h3 := (hk.mem _ _).1 hp
  unfold ledger at h3
  cases hn : newest l k' with
  | none => rw [hn] at h3; cases h3
  | some r =>
   obtain ⟨i, a, b, c, _⟩ := newest_is hl.tag hn
   exact ⟨i, r, (List.getElem?_eq_some_iff.1 a).1, a, b, c⟩
end Go.Rep
namespace Go.Tab
open Go.Frm (Bs)
theorem cmpB_lt : ∀ (a b : Bs), Lib.compareBytes a b < 0 ↔ a < b
 | [], [] => by simp [Lib.compareBytes]
 | [], b :: bs => by simp [Lib.compareBytes]
 | a :: l, [] => by simp [Lib.compareBytes]
 | a :: l, b :: bs => by
  rw [List.cons_lt_cons_iff, ← cmpB_lt l bs]
  rw [show Lib.compareBytes (a :: l) (b :: bs) = if a < b then -1 else if b < a then 1 else Lib.compareBytes l bs from rfl]
  by_cases h1 : a < b
  ·simp [h1]
  ·rw [if_neg h1]
   by_cases h2 : b < a
   ·rw [if_pos h2]
    constructor
    ·intro h; exact absurd h dCz
    ·rintro (h | ⟨rfl, _⟩)
     ·exact absurd h h1
     ·exact absurd h2 h1
   ·rw [if_neg h2]
    have : a = b := by
     have h3 : ¬ a.toNat < b.toNat := fun h => h1 (UInt8.lt_iff_toNat_lt.2 h)
     have h4 : ¬ b.toNat < a.toNat := fun h => h2 (UInt8.lt_iff_toNat_lt.2 h)
     exact UInt8.toNat_inj.1 (by omega)
    subst this
    constructor
    ·intro h; exact .inr ⟨rfl, h⟩
    ·rintro (h | ⟨_, h⟩)
     ·exact absurd h h1
     ·exact h
end Go.Tab
namespace Go.Proofs.YtlinnpehkfbnkaaGreatDoor
open Go Go.Sl Go.Med Go.MapKept Go.RowKit
theorem adr_add (b o j : Nat) : (⟨b, o, none⟩ : Addr).add j = ⟨b, o + j, none⟩ := by unfold Addr.add; split <;> simp_all
section
variable {w0 w : World} {F R : List HProp} {v bv av : Value}
theorem run_bytesOf {l : Frm.Bs} (h : rdsl 1 v (bys l) w) : (Extern.Bytes.bytesOf v).run Tryz.prog w = .ok ⟨l.toArray⟩ w := by
 obtain ⟨a, n, c, rfl, hl, hx⟩ := h
 rw [bys_len, Nat.mul_one] at hl
 subst hl
 cases a with
 | none =>
  obtain rfl : l = [] := by
   cases l with
   | nil => rfl
   | cons d l => obtain ⟨b, hb, _⟩ := hx 0 _ rfl; cases hb
  rfl
 | some ad =>
  have := Lib.run_loadBytesX (P := Tryz.prog) w (l.map fun c => (c.toNat : Int)) ad .empty (fun j x hj => by
   rw [List.getElem?_map] at hj
   obtain ⟨c', hc', rfl⟩ := Option.map_eq_some_iff.1 hj
   have hy : (bys l)[j]? = some (.int .u8 c'.toNat) := by unfold bys; rw [List.getElem?_map, hc']; rfl
   obtain ⟨b, hb, hc⟩ := hx _ _ hy
   cases hb
   exact hc)
  rw [List.length_map] at this
  simp only [Extern.Bytes.bytesOf, this]
  have e : Lib.bytesOf (l.map fun c => (c.toNat : Int)) = l := by
   unfold Lib.bytesOf
   rw [List.map_map]
   conv => rhs; rw [← List.map_id l]
   exact List.map_congr_left fun c _ => by simp
  rw [e]
  show Result.ok ({ data := (#[] : Array UInt8) ++ l.toArray } : ByteArray) w = _
  rw [Array.empty_append]
theorem run_bcmp {x y : Frm.Bs} (h1 : rdsl 1 av (bys x) w) (h2 : rdsl 1 bv (bys y) w) : (Extern.BytealgCompare.compare #[av, bv]).run Tryz.prog w = .ok (.int .i64 (Lib.compareBytes x y)) w := by
 change Sem.run Tryz.prog (do pure (goInt (Extern.BytealgCompare.cmp (← Extern.Bytes.bytesOf av) (← Extern.Bytes.bytesOf bv)))) w = _
 simp only [Sem.run_bind, Sem.run_pure, run_bytesOf h1, run_bytesOf h2, Result.andThen]
 rw [Lib.cmp_eq]
 rfl
set_option maxRecDepth 100000 in
theorem bcmp_c (x y : Frm.Bs) (h1 : rdsl 1 av (bys x) w) (h2 : rdsl 1 bv (bys y) w) :
  Calls Tryz.prog 196 #[av, bv] w fun e w' => e = .returned (.int .i64 (Lib.compareBytes x y)) ∧ w' = w := by
 have hr := run_bcmp h1 h2
 generalize Lib.compareBytes x y = r at *
 clear h1 h2
 go_enter Tryz.func196, Tryz.ntmps196
 go_wp2
 rw [run_callFunc_extern Tryz.func224 kRz kRz kRz (e := Extern.BytealgCompare.compare) kRz, hr]
 simp only [Result.andThen]
 rw [Oper.upon_value]
 go_wp2
 go_ret
 exact ⟨rfl, rfl⟩
end
end Go.Proofs.YtlinnpehkfbnkaaGreatDoor
namespace Go.Proofs.YtlinnpehkfbnkaaGreatDoor
open Go Go.Sl Go.Med Go.MapKept Go.RowKit Go.Sort
section
variable {α : Type} [Inhabited α] {enc : α → List Value} {k : Nat}
theorem flatK_list (hk : ∀ x, (enc x).length = k) (h0 : 0 < k) (d : Array α) : (flatK enc k d).toList = d.toList.flatMap enc := by
 have hl : (d.toList.flatMap enc).length = k * d.toList.length := rows_len fun x _ => hk x
 refine List.ext_getElem (by rw [hl, Array.length_toList, size_flatK, Array.length_toList, Nat.mul_comm]) fun t h1 h2 => ?_
 have ht : t < d.size * k := by rw [Array.length_toList, size_flatK] at h1; exact h1
 have hi : t / k < d.size := Nat.div_lt_of_lt_mul (by rw [Nat.mul_comm]; exact ht)
 have hx : d.toList[t / k]? = some d[t / k]! := by
  rw [Array.getElem?_toList, Array.getElem?_eq_getElem hi, getElem!_pos d _ hi]
 have hm : t % k < (enc d[t / k]!).length := by rw [hk]; exact Nat.mod_lt _ h0
 have hr := rows_at (l := d.toList) (f := enc) (k := k) (fun x _ => hk x) hx (List.getElem?_eq_getElem hm)
 rw [show t / k * k + t % k = t by rw [Nat.mul_comm]; exact Nat.div_add_mod t k, List.getElem?_eq_getElem h2] at hr
 rw [Option.some.inj hr, Array.getElem_toList, ← getElem!_pos (flatK enc k d) t (by rw [size_flatK]; exact ht), get_flatK _ _ _ _ ht]
 exact getElem!_pos (enc d[t / k]!) (t % k) hm
end
section
variable {w0 w : World} {R : List HProp} {g n m : Nat} {T : TypeId} {cs : Array Value} {os : Array Obj}
theorem heap_sortedV {fr : Nat × Nat} (d : Array Value) (hb : w.heap[g]? = some (.cells cs T fr)) : (grow (putRow id (Sort.ahead w n) g 0 d) os).heap[g]? = some (.cells (putCells id 0 d cs) T fr) := by
 have hg : g < w.heap.size := (Array.getElem?_eq_some_iff.1 hb).1
 rw [heap_grow_old _ _ (by simpa using hg)]
 simp [putRow, mapBlock, Sort.ahead, Array.getElem?_modify, hb, onCells]
theorem grownBy_sortedV (d : Array Value) : w.grownBy (grow (putRow id (Sort.ahead w n) g 0 d) os) (some g) := by
 refine ⟨rfl, rfl, rfl, by simp, fun k hk hne => ?_⟩
 rw [heap_grow_old _ _ (by simpa using hk)]
 have : g ≠ k := fun e => hne (by rw [e])
 simp [putRow, mapBlock, Sort.ahead, Array.getElem?_modify, this]
theorem take_putCellsV (d : Array Value) (h : d.size ≤ cs.size) : (putCells id 0 d cs).toList.take d.size = d.toList := by
 apply List.ext_getElem?
 intro j
 by_cases hj : j < d.size
 ·rw [List.getElem?_take_of_lt hj, Array.getElem?_toList]
  simp [putCells, hj, show j < cs.size by omega]
 ·rw [List.getElem?_take_eq_none (by omega), List.getElem?_eq_none (by simp; omega)]
theorem sat_sorted (hp : Sat w0 w (pt g (.cells cs T (0,0)) :: R)) (d : Array Value) : Sat w0 (grow (putRow id (Sort.ahead w n) g 0 d) os) (pt g (.cells (putCells id 0 d cs) T (0,0)) :: R) := by
 have hg := grownBy_sortedV (w := w) (g := g) (n := n) (os := os) d
 exact hp.turn hg.os hg.tape hg.output hg.size (heap_sortedV (n := n) (os := os) d hp.at) (fun i hi hlt => hg.block i hlt (by simpa using hi))
theorem holds_blockV {d : Array Value} (hb : w.heap[g]? = some (.cells cs T (0, 0))) (ht : cs.toList.take d.size = d.toList) : Holds id w g 0 d := by
 intro j hj
 refine ⟨?_, by simp [World.frozen?, hb]⟩
 have h1 : (cs.toList.take d.size)[j]? = d.toList[j]? := by rw [ht]
 rw [List.getElem?_take_of_lt hj] at h1
 simp only [World.cell?, hb, Nat.zero_add]
 simp only [Option.isSome_none, Bool.false_eq_true, if_false]
 rw [← Array.getElem?_toList, h1, Array.getElem?_toList, Array.getElem?_eq_getElem hj, getElem!_pos d j hj]
 rfl
end
end Go.Proofs.YtlinnpehkfbnkaaGreatDoor
namespace Go.Tab
open Go.Frm (Bs)
open Go.Sort
theorem swo_key {V : Type} (key : V → Bs) : SWO (Go.Proofs.ltOf fun x y => Lib.compareBytes (key x) (key y)) := by
 have e : ∀ x y, Go.Proofs.ltOf (fun x y => Lib.compareBytes (key x) (key y)) x y = decide (key x < key y) := fun x y => by
  unfold Go.Proofs.ltOf
  rw [Bool.eq_iff_iff, decide_eq_true_eq, decide_eq_true_eq]
  exact cmpB_lt _ _
 refine ⟨fun x => ?_, fun x y z => ?_, fun x y z => ?_⟩
 ·rw [e, decide_eq_false_iff_not]; exact List.lt_irrefl _
 ·rw [e, e, e, decide_eq_true_eq, decide_eq_true_eq, decide_eq_true_eq]; exact List.lt_trans
 ·rw [e, e, e, decide_eq_false_iff_not, decide_eq_false_iff_not, decide_eq_false_iff_not]
  intro h1 h2 h3
  rcases bs_tri (key x) (key y) with q | q | q
  ·exact h1 q
  ·exact h2 (q ▸ h3)
  ·rcases bs_tri (key y) (key z) with p | p | p
   ·exact h2 p
   ·exact List.lt_irrefl _ (List.lt_trans q (p ▸ h3))
   ·exact List.lt_irrefl _ (List.lt_trans (List.lt_trans h3 p) q)
theorem sorted_list {V : Type} [Inhabited V] {key : V → Bs} {d d' : Array V} (hp : PermIn 0 d.size d d') (hs : SortedIn (Go.Proofs.ltOf fun x y => Lib.compareBytes (key x) (key y)) 0 d.size d') :
  d'.toList.Perm d.toList ∧ d'.toList.Pairwise fun a b => ¬ key b < key a := by
 obtain ⟨h1, _, h3⟩ := hp
 constructor
 ·have e : ∀ a : Array V, a.extract 0 a.size = a := fun a => by simp
  have h3' := h3
  rw [e d, ← h1, e d'] at h3'
  exact h3'
 ·rw [List.pairwise_iff_getElem]
  intro i j hi hj hij
  rw [Array.length_toList] at hi hj
  have := hs i j (Nat.zero_le _) hij (by omega)
  rw [getElem!_pos d' i hi, getElem!_pos d' j hj] at this
  unfold Go.Proofs.ltOf at this
  rw [decide_eq_false_iff_not, cmpB_lt] at this
  simpa using this
theorem lists_of {V : Type} {s l : List (Slot V)} {m : Bs → Option V} (g : Good s) (hm : ∀ k v, Has s k v ↔ m k = some v) (hp : l.Perm (s.filter fun x => decide (x.st = 1))) (hs : l.Pairwise fun a b => ¬ b.key < a.key) :
  Lists m (l.map fun x => (x.key, x.val)) ∧ ∀ x ∈ l, x.st = 1 ∧ x.key.length = 32 := by
 have hmem : ∀ x, x ∈ l ↔ x ∈ s ∧ x.st = 1 := fun x => by rw [hp.mem_iff, List.mem_filter, decide_eq_true_eq]
 have hnd : l.Pairwise fun a b => a.key ≠ b.key := by
  have h0 : (s.filter fun x => decide (x.st = 1)).Pairwise fun a b => a.key ≠ b.key := by
   rw [List.pairwise_filter, List.pairwise_iff_getElem]
   intro i j hi hj hij h1 h2 h3
   have := g.one (List.getElem?_eq_getElem hi) (List.getElem?_eq_getElem hj) (by simpa using h1) (by simpa using h2) h3
   omega
  exact (hp.pairwise_iff (fun {a b} h => Ne.symm h)).2 h0
 refine ⟨⟨?_, fun k v => ?_⟩, fun x hx => ⟨((hmem x).1 hx).2, g.key x ((hmem x).1 hx).1⟩⟩
 ·rw [List.pairwise_map]
  refine (hs.and hnd).imp fun {a b} h => ?_
  rcases bs_tri a.key b.key with q | q | q
  ·exact q
  ·exact absurd q h.2
  ·exact absurd q h.1
 ·rw [← hm, List.mem_map]
  constructor
  ·rintro ⟨x, hx, e⟩
   obtain ⟨a, b⟩ := (hmem x).1 hx
   obtain ⟨i, hi, he⟩ := List.getElem_of_mem a
   cases e
   exact ⟨i, x, by rw [List.getElem?_eq_getElem hi, he], b, rfl, rfl⟩
  ·rintro ⟨i, x, hi, a, rfl, rfl⟩
   exact ⟨x, (hmem x).2 ⟨List.mem_of_getElem? hi, a⟩, rfl⟩
end Go.Tab
namespace Go.Proofs.YtlinnpehkfbnkaaGreatDoor
open Go Go.Sl Go.Med Go.MapKept Go.RowKit
section
variable {w0 w : World} {F R : List HProp} {p n gn d c : Nat} {sv v : Value} {k : Frm.Bs} {s : List (Tab.Slot (Rep.Abt))} {a : Option Addr}
theorem okA_c (hl : 0 < s.length) (h : Sat w0 w (tbPt p 184 (.slice a s.length c) n gn :: F)) :
  Calls Tryz.prog 173 #[ptr p] w (Rtn fun v w' => v = .bool true ∧ w = w') := by
 have e0 : w.cell? ⟨p, 0, none⟩ = some (.slice a s.length c) := h.cellAt 0 _ rfl
 have c1 : (0 : Int) < (s.length : Int) := by omega
 go_enter Tryz.func173, Tryz.ntmps173
 go_wp2
 go_ret
 exact ⟨_, rfl, rfl, rfl⟩
set_option maxRecDepth 20000 in
theorem findA_c (g : Tab.Good s) (hc : s.length ≤ 1073741824) (hk : k.length = 32) (he : Tab.Ends s k d) (h : Sat w0 w (tbPt p 184 sv n gn :: osl 256 38 sv (s.flatMap (slotL aenc)) :: F)) :
  Calls Tryz.prog 174 #[ptr p, .agg (bys k).toArray] w (Rtn fun v w' => ∃ x, s[Tab.pos k s.length d]? = some x ∧ v = .tuple #[.int .i64 (Tab.pos k s.length d : Nat), .int .i64 ((d : Int) + 1), .bool (decide (x.st = 1))] ∧
   Sat w0 w' (tbPt p 184 sv n gn :: osl 256 38 sv (s.flatMap (slotL aenc)) :: F)) := by
 have Hk := Lib.hid hk; have HG := Lib.hid g; have HE := Lib.hid he; have Hc := Lib.hid hc
 have Hlen := Lib.hid (show ∀ x ∈ s, (slotL aenc x).length = 38 from fun x hx => slotL_len aenc x (g.key x hx) 5 (aenc_len _))
 obtain ⟨la, lc, rfl⟩ := osl_rows Hlen.out (Sat.rd (h.pick pick1)) dCz
 obtain ⟨j, hj, _⟩ := g.pow
 have hj40 : j < 40 := by
  rcases Nat.lt_or_ge j 40 with q | q
  ·exact q
  ·have : 2 ^ 40 ≤ 2 ^ j := Nat.pow_le_pow_right dCz q
   have h40 : (2 : Nat) ^ 40 = 1099511627776 := by decide
   omega
 have Hj := Lib.hid hj; have Hj40 := Lib.hid hj40
 have Hd := Lib.hid (show d < s.length from he.lt)
 have hp0 : 0 < s.length := g.pos_len
 have Hp0 := Lib.hid hp0
 have Hpz := Lib.hid (Tab.pos_zero (k := k) hp0)
 clear hj hj40 hk g he hc hp0
 go_enter Tryz.func174, Tryz.ntmps174
 go_wp2_with ((with_reducible apply at_box); refine ⟨?_⟩; refine wl_box (by assumption) evD evD ?_; intro bB wB hB)
 have hB1 := hB.drew
 clear hB
 refine wpL_begin [6, 7] (fun w' => w'.rangeAt bB 0 (bys k) ∧ w'.cell? ⟨p, 0, none⟩ = some (.slice la s.length lc)) kRz ?_
 have hG : World.rangeAt _ bB 0 (bys k) ∧ World.cell? _ ⟨p, 0, none⟩ = some (.slice la s.length lc) := ⟨pt_rangeL (hB1.pk (A := pt bB (.cells (bys k).toArray 24 (0,0)))), hB1.cellP pkD 0 rfl⟩
 refine rg_take 0 evD kRz i3z (tk_loadN (b := bB) (o := 0) (bys k) rFz Tryz.underlying24 rfl (by rw [bys_len, Hk.out]; kernel_rfl) (fun w hw => hw.1)) (by assumption) (by go_frame; first | done | rfl) ?_
 refine rp 1 (hy := (yl_move evD)) (h := ?_)
 refine rp 2 (hy := (yl_nil evD)) (h := ?_)
 refine rp 3 (hy := (yl_field evD rnD)) (h := ?_)
 refine rt 4 (h := ?_)
 refine rp 5 (hy := (yl_len evD rnD)) (h := ?_)
 clear hG
 have hh := home_c k Hk.out j Hj40.out hB1
 rw [← Hj.out] at hh
 refine rg_eff 6 evD kRz (fun K hK => ?_)
 (refine eff_call2 kRz evD evD ?_)
 refine hh.mono ?_
 rintro ee w2 ⟨v, rfl, rfl, hS2⟩
 refine hK _ _ (.inl rfl) ?_
 clear hK hh hB1
 refine rp 7 (hy := (yl_assign evD)) (h := ?_)
 refine wpL_done kRz ?_
 try simp only [List.getElem_toArray, List.getElem_cons_succ, List.getElem_cons_zero]
 try go_frame
 rw [← Hpz.out]
 go_wp2_with fail
 go_loopg [7, 8] d (fun g aq sq wr => ∃ e : Nat, g = d - e ∧ e ≤ d ∧ aq = .int .i64 (Tab.pos k s.length e : Nat) ∧ sq = .int .i64 ((e : Int) + 1) ∧
  Sat w0 wr (pt bB (.cells (bys k).toArray 24 (0,0)) :: tbPt p 184 (.slice la s.length lc) n gn :: osl 256 38 (.slice la s.length lc) (s.flatMap (slotL aenc)) :: F))
 case atStart => exact ⟨0, rfl, Nat.zero_le _, rfl, rfl, hS2.sb⟩
 case round =>
  obtain ⟨e, rfl, hed, rfl, rfl, hS⟩ := hrel
  clear hS2
  have hlt := Tab.pos_lt (k := k) (d := e) Hp0.out
  have hdl := Hd.out
  have hcl := Hc.out
  obtain ⟨x, hx⟩ : ∃ x, s[Tab.pos k s.length e]? = some x := ⟨_, List.getElem?_eq_getElem hlt⟩
  have hxm := List.mem_of_getElem? hx
  have hst := HG.out.st x hxm
  have Hxk := Lib.hid (HG.out.key x hxm)
  obtain ⟨bk, off, c', hsv, hcell⟩ := osl_row Hlen.out (Sat.rd (hS.pick pick2)) hx dCz
  have Hnext := Lib.hid (Tab.pos_next (k := k) (d := e) Hp0.out)
  have Hmask := Lib.hid (and_mask (Tab.pos k s.length e + 1) j (by omega) (by have := Hj40.out; omega))
  have Hstop := Lib.hid (show e = d ↔ x.stop k from ⟨fun h => by
    subst h
    obtain ⟨y, hy, hs⟩ := HE.out.here
    rw [hx] at hy; cases hy; exact hs, fun h => by
    rcases Nat.lt_or_ge e d with q | q
    ·exact absurd ⟨x, hx, h⟩ (HE.out.no e q)
    ·omega⟩)
  have Hx := Lib.hid hx
  cases hsv
  have c0 : (0 : Int) ≤ ((Tab.pos k s.length e : Nat) : Int) := by omega
  have c1 : ((Tab.pos k s.length e : Nat) : Int) < (s.length : Int) := by omega
  have c2 : Tab.pos k s.length e < s.length := hlt
  have e0 : wr.cell? ⟨p, 0, none⟩ = some (.slice (some ⟨bk, off, none⟩) s.length lc) := hS.cellP pkD 0 rfl
  have hl38 := Hlen.out x hxm
  clear hx hxm
  have hq : bits .and .i64 (((Tab.pos k s.length e : Nat) : Int) + 1) ((s.length : Int) - 1) = ((Tab.pos k s.length (e + 1) : Nat) : Int) := by
   have h1 := Hmask.out
   rw [← Hj.out, Hnext.out] at h1
   rw [← h1]
   congr 1
   have := Hp0.out
   omega
  have hw1 : IntKind.i64.wrap (((Tab.pos k s.length e : Nat) : Int) + 1) = ((Tab.pos k s.length e : Nat) : Int) + 1 := IntWalk.i64_in _ (by omega)
  have hw2 : IntKind.i64.wrap ((s.length : Int) - 1) = (s.length : Int) - 1 := IntWalk.i64_in _ (by omega)
  have hw3 : IntKind.i64.wrap ((e : Int) + 1 + 1) = (e : Int) + 1 + 1 := IntWalk.i64_in _ (by omega)
  clear hdl hcl
  generalize hP1 : Tab.pos k s.length (e + 1) = P1 at hq
  have HP1 := Lib.hid hP1
  generalize hP : Tab.pos k s.length e = P0 at *
  have HP := Lib.hid hP
  clear hP1 hP hlt Hmask Hnext
  have Hed := Lib.hid hed
  clear hed
  go_wp2_with (with_reducible apply at_load)
  refine ⟨?_⟩
  refine wl_load1 hS rFz pkD nLz evD kRz ?_
  go_wp2_with (with_reducible apply at_load)
  refine ⟨?_⟩
  refine wl_loadW (b := bk) (o := off + P0 * 38) (slotL aenc x) rFz hcell Tryz.underlying256 rfl (by rw [hl38]; kernel_rfl) ?_
  go_wp2_with (with_reducible apply at_alloc)
  refine ⟨?_⟩
  refine wl_alloc zSlotA hS rfl ?_
  intro b9 w9 hS9
  go_wp2_with (first | ((with_reducible apply at_store); refine ⟨?_⟩; refine wl_storeA (slotL aenc x).toArray hS9 rFz rFz (by rw [List.size_toArray, hl38]; rfl) upd0 (by rw [List.size_toArray, hl38]; kernel_rfl) (by rw [List.toList_toArray]; exact slotL_ones aenc x (aenc_ones _)) ?_; intro w10 hS10) | (with_reducible apply at_load))
  refine ⟨?_⟩
  clear hS hS9 hcell e0
  have f0 : w10.cell? ⟨b9, 0, none⟩ = some (.int .i64 x.st) := hS10.cellP pick0 0 (by rw [List.getElem?_toArray]; rfl)
  have f1 : w10.rangeAt b9 1 (bys x.key) := slot_key (hS10.pick pick0)
  have f2 : w10.cell? ⟨p, 0, none⟩ = some (.slice (some ⟨bk, off, none⟩) s.length lc) := hS10.cellP pkD 0 rfl
  have hend : Sat w0 w10 (pt bB (.cells (bys k).toArray 24 (0,0)) :: tbPt p 184 (.slice (some ⟨bk, off, none⟩) s.length lc) n gn :: osl 256 38 (.slice (some ⟨bk, off, none⟩) s.length lc) (s.flatMap (slotL aenc)) :: F) := hS10.sb
  have h3 : x.st = 0 ∨ x.st = 1 ∨ x.st = 2 := by omega
  rcases h3 with h3 | h3 | h3
  ·have h4 : e = d := Hstop.out.2 (.inl h3)
   rw [h3] at f0
   have Hdx := Lib.hid (show decide (x.st = 1) = false by rw [h3]; rfl)
   have Hst := Lib.hid (show (x.st : Int) = 0 by rw [h3]; rfl)
   clear Hstop hst h3 f1 f2 hq hw1 hw2 hw3 c0 c1 c2
   subst h4
   go_wp2_with fail
   have hS11 := hS10.drew
   clear hS10
   refine wpL_begin [4, 7] (fun w' => w'.cell? ⟨b9, 0, none⟩ = some (.int .i64 0)) kRz ?_
   have hG : World.cell? _ ⟨b9, 0, none⟩ = some (.int .i64 0) := hS11.cellP pick0 0 (by rw [List.getElem?_toArray, ← Hst.out]; rfl)
   clear f0
   refine rp 0 (hy := (yl_move evD)) (h := ?_)
   refine rp 1 (hy := (yl_move evD)) (h := ?_)
   refine rp 2 (hy := (yl_field evD rnD)) (h := ?_)
   refine rt 3 (h := ?_)
   refine rp 4 (hy := (yl_bin evD evD rnD)) (h := ?_)
   refine rp 5 (hy := (yl_assign evD)) (h := ?_)
   refine rp 6 (hy := (yl_assign evD)) (h := ?_)
   refine rp 7 (hy := (yl_assign evD)) (h := ?_)
   refine wpL_done kRz ?_
   clear hG
   try simp only [List.getElem_toArray, List.getElem_cons_succ, List.getElem_cons_zero]
   try go_frame
   go_wp2_with fail
   go_ret3
   exact ⟨_, rfl, x, by rw [HP.out]; exact Hx.out, by rw [HP.out, Hdx.out]; rfl, hS11.sb⟩
  ·have f3 : w10.rangeAt bB 0 (bys k) := pt_rangeL (hS10.pk (A := pt bB (.cells (bys k).toArray 24 (0,0))))
   have hkk := eqIn_key x.key k Hxk.out Hk.out
   rw [h3] at f0
   by_cases hxk : x.key = k
   ·have h4 : e = d := Hstop.out.2 (.inr ⟨h3, hxk⟩)
    have Hdx := Lib.hid (show decide (x.st = 1) = true by rw [h3]; rfl)
    have Hst := Lib.hid (show (x.st : Int) = 1 by rw [h3]; rfl)
    rw [decide_eq_true hxk] at hkk
    clear Hstop hst h3 hxk hq hw1 hw2 hw3 c0 c1 c2 f2
    subst h4
    go_wp2_with (first
     | ((with_reducible apply at_loadG); refine ⟨?_⟩; refine wl_loadGm (o := 1) rFz rFz (bys x.key) _ f1 Tryz.underlying24 rfl (by rw [bys_len, Hxk.out]; kernel_rfl) ?_)
     | ((with_reducible apply at_loadG); refine ⟨?_⟩; refine wl_loadGm (o := 0) rFz rFz (bys k) _ f3 Tryz.underlying24 rfl (by rw [bys_len, Hk.out]; kernel_rfl) ?_))
    clear hkk f1 f3
    have hS11 := hS10.drew
    clear hS10
    refine wpL_begin [4, 7] (fun w' => w'.cell? ⟨b9, 0, none⟩ = some (.int .i64 1)) kRz ?_
    have hG : World.cell? _ ⟨b9, 0, none⟩ = some (.int .i64 1) := hS11.cellP pick0 0 (by rw [List.getElem?_toArray, ← Hst.out]; rfl)
    clear f0
    refine rp 0 (hy := (yl_move evD)) (h := ?_)
    refine rp 1 (hy := (yl_move evD)) (h := ?_)
    refine rp 2 (hy := (yl_field evD rnD)) (h := ?_)
    refine rt 3 (h := ?_)
    refine rp 4 (hy := (yl_bin evD evD rnD)) (h := ?_)
    refine rp 5 (hy := (yl_assign evD)) (h := ?_)
    refine rp 6 (hy := (yl_assign evD)) (h := ?_)
    refine rp 7 (hy := (yl_assign evD)) (h := ?_)
    refine wpL_done kRz ?_
    clear hG
    try simp only [List.getElem_toArray, List.getElem_cons_succ, List.getElem_cons_zero]
    try go_frame
    go_wp2_with fail
    go_ret3
    exact ⟨_, rfl, x, by rw [HP.out]; exact Hx.out, by rw [HP.out, Hdx.out]; rfl, hS11.sb⟩
   ·have h4 : e < d := by
     have := Hed.out
     rcases Nat.lt_or_ge e d with q | q
     ·exact q
     ·exact absurd (Hstop.out.1 (by omega)) (fun h => h.elim (fun h => by omega) fun h => hxk h.2)
    rw [decide_eq_false hxk] at hkk
    have H4 := Lib.hid h4
    clear Hstop hst h3 hxk h4
    go_wp2_with (first
     | ((with_reducible apply at_loadG); refine ⟨?_⟩; refine wl_loadGm (o := 1) rFz rFz (bys x.key) _ f1 Tryz.underlying24 rfl (by rw [bys_len, Hxk.out]; kernel_rfl) ?_)
     | ((with_reducible apply at_loadG); refine ⟨?_⟩; refine wl_loadGm (o := 0) rFz rFz (bys k) _ f3 Tryz.underlying24 rfl (by rw [bys_len, Hk.out]; kernel_rfl) ?_))
    go_roundg (d - (e + 1))
    case measure => have := H4.out; omega
    case rel => exact ⟨e + 1, rfl, H4.out, by rw [HP1.out], by first | rfl | go_num, hS10.sb⟩
  ·have h4 : e < d := by
    have := Hed.out
    rcases Nat.lt_or_ge e d with q | q
    ·exact q
    ·exact absurd (Hstop.out.1 (by omega)) (fun h => h.elim (fun h => by omega) fun h => by omega)
   rw [h3] at f0
   have H4 := Lib.hid h4
   clear Hstop hst h3 f1 h4
   go_wp2_with fail
   go_roundg (d - (e + 1))
   case measure => have := H4.out; omega
   case rel => exact ⟨e + 1, rfl, H4.out, by rw [HP1.out], by first | rfl | go_num, hS10.sb⟩
end
section
variable {w0 w : World} {F R : List HProp} {p n gn d c : Nat} {sv v : Value} {k : Frm.Bs} {s : List (Tab.Slot (Seg.Plc))} {a : Option Addr}
theorem okL_c (hl : 0 < s.length) (h : Sat w0 w (tbPt p 181 (.slice a s.length c) n gn :: F)) :
  Calls Tryz.prog 144 #[ptr p] w (Rtn fun v w' => v = .bool true ∧ w = w') := by
 have e0 : w.cell? ⟨p, 0, none⟩ = some (.slice a s.length c) := h.cellAt 0 _ rfl
 have c1 : (0 : Int) < (s.length : Int) := by omega
 go_enter Tryz.func144, Tryz.ntmps144
 go_wp2
 go_ret
 exact ⟨_, rfl, rfl, rfl⟩
set_option maxRecDepth 20000 in
theorem findL_c (g : Tab.Good s) (hc : s.length ≤ 1073741824) (hk : k.length = 32) (he : Tab.Ends s k d) (h : Sat w0 w (tbPt p 181 sv n gn :: osl 230 36 sv (s.flatMap (slotL penc)) :: F)) :
  Calls Tryz.prog 145 #[ptr p, .agg (bys k).toArray] w (Rtn fun v w' => ∃ x, s[Tab.pos k s.length d]? = some x ∧ v = .tuple #[.int .i64 (Tab.pos k s.length d : Nat), .int .i64 ((d : Int) + 1), .bool (decide (x.st = 1))] ∧
   Sat w0 w' (tbPt p 181 sv n gn :: osl 230 36 sv (s.flatMap (slotL penc)) :: F)) := by
 have Hk := Lib.hid hk; have HG := Lib.hid g; have HE := Lib.hid he; have Hc := Lib.hid hc
 have Hlen := Lib.hid (show ∀ x ∈ s, (slotL penc x).length = 36 from fun x hx => slotL_len penc x (g.key x hx) 3 (penc_len _))
 obtain ⟨la, lc, rfl⟩ := osl_rows Hlen.out (Sat.rd (h.pick pick1)) dCz
 obtain ⟨j, hj, _⟩ := g.pow
 have hj40 : j < 40 := by
  rcases Nat.lt_or_ge j 40 with q | q
  ·exact q
  ·have : 2 ^ 40 ≤ 2 ^ j := Nat.pow_le_pow_right dCz q
   have h40 : (2 : Nat) ^ 40 = 1099511627776 := by decide
   omega
 have Hj := Lib.hid hj; have Hj40 := Lib.hid hj40
 have Hd := Lib.hid (show d < s.length from he.lt)
 have hp0 : 0 < s.length := g.pos_len
 have Hp0 := Lib.hid hp0
 have Hpz := Lib.hid (Tab.pos_zero (k := k) hp0)
 clear hj hj40 hk g he hc hp0
 go_enter Tryz.func145, Tryz.ntmps145
 go_wp2_with ((with_reducible apply at_box); refine ⟨?_⟩; refine wl_box (by assumption) evD evD ?_; intro bB wB hB)
 have hB1 := hB.drew
 clear hB
 refine wpL_begin [6, 7] (fun w' => w'.rangeAt bB 0 (bys k) ∧ w'.cell? ⟨p, 0, none⟩ = some (.slice la s.length lc)) kRz ?_
 have hG : World.rangeAt _ bB 0 (bys k) ∧ World.cell? _ ⟨p, 0, none⟩ = some (.slice la s.length lc) := ⟨pt_rangeL (hB1.pk (A := pt bB (.cells (bys k).toArray 24 (0,0)))), hB1.cellP pkD 0 rfl⟩
 refine rg_take 0 evD kRz i3z (tk_loadN (b := bB) (o := 0) (bys k) rFz Tryz.underlying24 rfl (by rw [bys_len, Hk.out]; kernel_rfl) (fun w hw => hw.1)) (by assumption) (by go_frame; first | done | rfl) ?_
 refine rp 1 (hy := (yl_move evD)) (h := ?_)
 refine rp 2 (hy := (yl_nil evD)) (h := ?_)
 refine rp 3 (hy := (yl_field evD rnD)) (h := ?_)
 refine rt 4 (h := ?_)
 refine rp 5 (hy := (yl_len evD rnD)) (h := ?_)
 clear hG
 have hh := home_c k Hk.out j Hj40.out hB1
 rw [← Hj.out] at hh
 refine rg_eff 6 evD kRz (fun K hK => ?_)
 (refine eff_call2 kRz evD evD ?_)
 refine hh.mono ?_
 rintro ee w2 ⟨v, rfl, rfl, hS2⟩
 refine hK _ _ (.inl rfl) ?_
 clear hK hh hB1
 refine rp 7 (hy := (yl_assign evD)) (h := ?_)
 refine wpL_done kRz ?_
 try simp only [List.getElem_toArray, List.getElem_cons_succ, List.getElem_cons_zero]
 try go_frame
 rw [← Hpz.out]
 go_wp2_with fail
 go_loopg [7, 8] d (fun g aq sq wr => ∃ e : Nat, g = d - e ∧ e ≤ d ∧ aq = .int .i64 (Tab.pos k s.length e : Nat) ∧ sq = .int .i64 ((e : Int) + 1) ∧
  Sat w0 wr (pt bB (.cells (bys k).toArray 24 (0,0)) :: tbPt p 181 (.slice la s.length lc) n gn :: osl 230 36 (.slice la s.length lc) (s.flatMap (slotL penc)) :: F))
 case atStart => exact ⟨0, rfl, Nat.zero_le _, rfl, rfl, hS2.sb⟩
 case round =>
  obtain ⟨e, rfl, hed, rfl, rfl, hS⟩ := hrel
  clear hS2
  have hlt := Tab.pos_lt (k := k) (d := e) Hp0.out
  have hdl := Hd.out
  have hcl := Hc.out
  obtain ⟨x, hx⟩ : ∃ x, s[Tab.pos k s.length e]? = some x := ⟨_, List.getElem?_eq_getElem hlt⟩
  have hxm := List.mem_of_getElem? hx
  have hst := HG.out.st x hxm
  have Hxk := Lib.hid (HG.out.key x hxm)
  obtain ⟨bk, off, c', hsv, hcell⟩ := osl_row Hlen.out (Sat.rd (hS.pick pick2)) hx dCz
  have Hnext := Lib.hid (Tab.pos_next (k := k) (d := e) Hp0.out)
  have Hmask := Lib.hid (and_mask (Tab.pos k s.length e + 1) j (by omega) (by have := Hj40.out; omega))
  have Hstop := Lib.hid (show e = d ↔ x.stop k from ⟨fun h => by
    subst h
    obtain ⟨y, hy, hs⟩ := HE.out.here
    rw [hx] at hy; cases hy; exact hs, fun h => by
    rcases Nat.lt_or_ge e d with q | q
    ·exact absurd ⟨x, hx, h⟩ (HE.out.no e q)
    ·omega⟩)
  have Hx := Lib.hid hx
  cases hsv
  have c0 : (0 : Int) ≤ ((Tab.pos k s.length e : Nat) : Int) := by omega
  have c1 : ((Tab.pos k s.length e : Nat) : Int) < (s.length : Int) := by omega
  have c2 : Tab.pos k s.length e < s.length := hlt
  have e0 : wr.cell? ⟨p, 0, none⟩ = some (.slice (some ⟨bk, off, none⟩) s.length lc) := hS.cellP pkD 0 rfl
  have hl38 := Hlen.out x hxm
  clear hx hxm
  have hq : bits .and .i64 (((Tab.pos k s.length e : Nat) : Int) + 1) ((s.length : Int) - 1) = ((Tab.pos k s.length (e + 1) : Nat) : Int) := by
   have h1 := Hmask.out
   rw [← Hj.out, Hnext.out] at h1
   rw [← h1]
   congr 1
   have := Hp0.out
   omega
  have hw1 : IntKind.i64.wrap (((Tab.pos k s.length e : Nat) : Int) + 1) = ((Tab.pos k s.length e : Nat) : Int) + 1 := IntWalk.i64_in _ (by omega)
  have hw2 : IntKind.i64.wrap ((s.length : Int) - 1) = (s.length : Int) - 1 := IntWalk.i64_in _ (by omega)
  have hw3 : IntKind.i64.wrap ((e : Int) + 1 + 1) = (e : Int) + 1 + 1 := IntWalk.i64_in _ (by omega)
  clear hdl hcl
  generalize hP1 : Tab.pos k s.length (e + 1) = P1 at hq
  have HP1 := Lib.hid hP1
  generalize hP : Tab.pos k s.length e = P0 at *
  have HP := Lib.hid hP
  clear hP1 hP hlt Hmask Hnext
  have Hed := Lib.hid hed
  clear hed
  go_wp2_with (with_reducible apply at_load)
  refine ⟨?_⟩
  refine wl_load1 hS rFz pkD nLz evD kRz ?_
  go_wp2_with (with_reducible apply at_load)
  refine ⟨?_⟩
  refine wl_loadW (b := bk) (o := off + P0 * 36) (slotL penc x) rFz hcell Tryz.underlying230 rfl (by rw [hl38]; kernel_rfl) ?_
  go_wp2_with (with_reducible apply at_alloc)
  refine ⟨?_⟩
  refine wl_alloc zSlotL hS rfl ?_
  intro b9 w9 hS9
  go_wp2_with (first | ((with_reducible apply at_store); refine ⟨?_⟩; refine wl_storeA (slotL penc x).toArray hS9 rFz rFz (by rw [List.size_toArray, hl38]; rfl) upd0 (by rw [List.size_toArray, hl38]; kernel_rfl) (by rw [List.toList_toArray]; exact slotL_ones penc x (penc_ones _)) ?_; intro w10 hS10) | (with_reducible apply at_load))
  refine ⟨?_⟩
  clear hS hS9 hcell e0
  have f0 : w10.cell? ⟨b9, 0, none⟩ = some (.int .i64 x.st) := hS10.cellP pick0 0 (by rw [List.getElem?_toArray]; rfl)
  have f1 : w10.rangeAt b9 1 (bys x.key) := slot_key (hS10.pick pick0)
  have f2 : w10.cell? ⟨p, 0, none⟩ = some (.slice (some ⟨bk, off, none⟩) s.length lc) := hS10.cellP pkD 0 rfl
  have hend : Sat w0 w10 (pt bB (.cells (bys k).toArray 24 (0,0)) :: tbPt p 181 (.slice (some ⟨bk, off, none⟩) s.length lc) n gn :: osl 230 36 (.slice (some ⟨bk, off, none⟩) s.length lc) (s.flatMap (slotL penc)) :: F) := hS10.sb
  have h3 : x.st = 0 ∨ x.st = 1 ∨ x.st = 2 := by omega
  rcases h3 with h3 | h3 | h3
  ·have h4 : e = d := Hstop.out.2 (.inl h3)
   rw [h3] at f0
   have Hdx := Lib.hid (show decide (x.st = 1) = false by rw [h3]; rfl)
   have Hst := Lib.hid (show (x.st : Int) = 0 by rw [h3]; rfl)
   clear Hstop hst h3 f1 f2 hq hw1 hw2 hw3 c0 c1 c2
   subst h4
   go_wp2_with fail
   have hS11 := hS10.drew
   clear hS10
   refine wpL_begin [4, 7] (fun w' => w'.cell? ⟨b9, 0, none⟩ = some (.int .i64 0)) kRz ?_
   have hG : World.cell? _ ⟨b9, 0, none⟩ = some (.int .i64 0) := hS11.cellP pick0 0 (by rw [List.getElem?_toArray, ← Hst.out]; rfl)
   clear f0
   refine rp 0 (hy := (yl_move evD)) (h := ?_)
   refine rp 1 (hy := (yl_move evD)) (h := ?_)
   refine rp 2 (hy := (yl_field evD rnD)) (h := ?_)
   refine rt 3 (h := ?_)
   refine rp 4 (hy := (yl_bin evD evD rnD)) (h := ?_)
   refine rp 5 (hy := (yl_assign evD)) (h := ?_)
   refine rp 6 (hy := (yl_assign evD)) (h := ?_)
   refine rp 7 (hy := (yl_assign evD)) (h := ?_)
   refine wpL_done kRz ?_
   clear hG
   try simp only [List.getElem_toArray, List.getElem_cons_succ, List.getElem_cons_zero]
   try go_frame
   go_wp2_with fail
   go_ret3
   exact ⟨_, rfl, x, by rw [HP.out]; exact Hx.out, by rw [HP.out, Hdx.out]; rfl, hS11.sb⟩
  ·have f3 : w10.rangeAt bB 0 (bys k) := pt_rangeL (hS10.pk (A := pt bB (.cells (bys k).toArray 24 (0,0))))
   have hkk := eqIn_key x.key k Hxk.out Hk.out
   rw [h3] at f0
   by_cases hxk : x.key = k
   ·have h4 : e = d := Hstop.out.2 (.inr ⟨h3, hxk⟩)
    have Hdx := Lib.hid (show decide (x.st = 1) = true by rw [h3]; rfl)
    have Hst := Lib.hid (show (x.st : Int) = 1 by rw [h3]; rfl)
    rw [decide_eq_true hxk] at hkk
    clear Hstop hst h3 hxk hq hw1 hw2 hw3 c0 c1 c2 f2
    subst h4
    go_wp2_with (first
     | ((with_reducible apply at_loadG); refine ⟨?_⟩; refine wl_loadGm (o := 1) rFz rFz (bys x.key) _ f1 Tryz.underlying24 rfl (by rw [bys_len, Hxk.out]; kernel_rfl) ?_)
     | ((with_reducible apply at_loadG); refine ⟨?_⟩; refine wl_loadGm (o := 0) rFz rFz (bys k) _ f3 Tryz.underlying24 rfl (by rw [bys_len, Hk.out]; kernel_rfl) ?_))
    clear hkk f1 f3
    have hS11 := hS10.drew
    clear hS10
    refine wpL_begin [4, 7] (fun w' => w'.cell? ⟨b9, 0, none⟩ = some (.int .i64 1)) kRz ?_
    have hG : World.cell? _ ⟨b9, 0, none⟩ = some (.int .i64 1) := hS11.cellP pick0 0 (by rw [List.getElem?_toArray, ← Hst.out]; rfl)
    clear f0
    refine rp 0 (hy := (yl_move evD)) (h := ?_)
    refine rp 1 (hy := (yl_move evD)) (h := ?_)
    refine rp 2 (hy := (yl_field evD rnD)) (h := ?_)
    refine rt 3 (h := ?_)
    refine rp 4 (hy := (yl_bin evD evD rnD)) (h := ?_)
    refine rp 5 (hy := (yl_assign evD)) (h := ?_)
    refine rp 6 (hy := (yl_assign evD)) (h := ?_)
    refine rp 7 (hy := (yl_assign evD)) (h := ?_)
    refine wpL_done kRz ?_
    clear hG
    try simp only [List.getElem_toArray, List.getElem_cons_succ, List.getElem_cons_zero]
    try go_frame
    go_wp2_with fail
    go_ret3
    exact ⟨_, rfl, x, by rw [HP.out]; exact Hx.out, by rw [HP.out, Hdx.out]; rfl, hS11.sb⟩
   ·have h4 : e < d := by
     have := Hed.out
     rcases Nat.lt_or_ge e d with q | q
     ·exact q
     ·exact absurd (Hstop.out.1 (by omega)) (fun h => h.elim (fun h => by omega) fun h => hxk h.2)
    rw [decide_eq_false hxk] at hkk
    have H4 := Lib.hid h4
    clear Hstop hst h3 hxk h4
    go_wp2_with (first
     | ((with_reducible apply at_loadG); refine ⟨?_⟩; refine wl_loadGm (o := 1) rFz rFz (bys x.key) _ f1 Tryz.underlying24 rfl (by rw [bys_len, Hxk.out]; kernel_rfl) ?_)
     | ((with_reducible apply at_loadG); refine ⟨?_⟩; refine wl_loadGm (o := 0) rFz rFz (bys k) _ f3 Tryz.underlying24 rfl (by rw [bys_len, Hk.out]; kernel_rfl) ?_))
    go_roundg (d - (e + 1))
    case measure => have := H4.out; omega
    case rel => exact ⟨e + 1, rfl, H4.out, by rw [HP1.out], by first | rfl | go_num, hS10.sb⟩
  ·have h4 : e < d := by
    have := Hed.out
    rcases Nat.lt_or_ge e d with q | q
    ·exact q
    ·exact absurd (Hstop.out.1 (by omega)) (fun h => h.elim (fun h => by omega) fun h => by omega)
   rw [h3] at f0
   have H4 := Lib.hid h4
   clear Hstop hst h3 f1 h4
   go_wp2_with fail
   go_roundg (d - (e + 1))
   case measure => have := H4.out; omega
   case rel => exact ⟨e + 1, rfl, H4.out, by rw [HP1.out], by first | rfl | go_num, hS10.sb⟩
end
def TabML (p : Nat) (m : Frm.Bs → Option (Seg.Plc)) (B : Nat) : HProp := fun h => ∃ (t : Tab.Tb (Seg.Plc)) (sv : Value), (t.Ok ∧ t.Is m ∧ t.n + t.gone ≤ B) ∧ stars [tbPt p 181 sv t.n t.gone, osl 230 36 sv (t.slots.flatMap (slotL penc))] h
theorem zValL : zeroB Tryz.prog 54 = some (.agg (penc Seg.Plc.zero).toArray) := by kernel_rfl
section
variable {w0 w : World} {F R : List HProp} {p B : Nat} {sv v : Value} {k : Frm.Bs} {m : Frm.Bs → Option (Seg.Plc)} {t : Tab.Tb (Seg.Plc)}
theorem TabML.open (h : Sat w0 w (TabML p m B :: F)) : ∃ (t : Tab.Tb (Seg.Plc)) (sv : Value), (t.Ok ∧ t.Is m ∧ t.n + t.gone ≤ B) ∧ Sat w0 w (tbPt p 181 sv t.n t.gone :: osl 230 36 sv (t.slots.flatMap (slotL penc)) :: F) := by
 obtain ⟨ha, x, hx, q, r, dd, rfl, ⟨t, sv, hin, hp⟩, hq⟩ := h
 refine ⟨t, sv, hin, ha, _, hx, ?_⟩
 show stars ([tbPt p 181 sv t.n t.gone, osl 230 36 sv (t.slots.flatMap (slotL penc))] ++ F) _
 rw [stars_append]
 exact ⟨q, r, dd, rfl, hp, hq⟩
theorem TabML.shut (h1 : t.Ok) (h2 : t.Is m) (h3 : t.n + t.gone ≤ B) (h : Sat w0 w (tbPt p 181 sv t.n t.gone :: osl 230 36 sv (t.slots.flatMap (slotL penc)) :: F)) : Sat w0 w (TabML p m B :: F) :=
 Sat.join (M := [tbPt p 181 sv t.n t.gone, osl 230 36 sv (t.slots.flatMap (slotL penc))]) h fun _ hx => ⟨t, sv, ⟨h1, h2, h3⟩, hx⟩
theorem newL_c (h : Sat w0 w F) : Calls Tryz.prog 53 #[] w (Rtn fun v w' => ∃ p, v = ptr p ∧ Sat w0 w' (TabML p (fun _ => none) 0 :: F)) := by
 go_enter Tryz.func53, Tryz.ntmps53
 go_wp2_with (first
  | ((with_reducible apply at_make); refine ⟨?_⟩; refine wl_makeN (e := 230) (sz := 36) (by' := 64) (n := 8) kRz zSlotL h rFz rFz dCz dCz ?_; intro bM wM hM)
  | ((with_reducible apply at_box); refine ⟨?_⟩; refine wl_box hM evD evD ?_; intro bB wB hB))
 go_ret
 refine ⟨_, rfl, bB, rfl, ?_⟩
 have e : (List.replicate 8 (slotL penc ⟨0, Frm.zero32, Seg.Plc.zero⟩)).flatten = (List.replicate 8 (⟨0, Frm.zero32, Seg.Plc.zero⟩ : Tab.Slot (Seg.Plc))).flatMap (slotL penc) := (rows_rep 8 _).symm
 rw [e] at hB
 exact TabML.shut (t := ⟨List.replicate 8 ⟨0, Frm.zero32, Seg.Plc.zero⟩, 0, 0⟩) (Tab.new_ok dCz rfl) (Tab.new_is rfl 0 0) (Nat.le_refl 0) hB
end
section
variable {w0 w : World} {F R : List HProp} {p B N : Nat} {sv v : Value} {k : Frm.Bs} {m : Frm.Bs → Option (Seg.Plc)} {t : Tab.Tb (Seg.Plc)}
set_option maxRecDepth 20000 in
theorem renewL_c (ok : t.Ok) (hN : t.n ≤ N) (hNb : N ≤ 134217728) (hlen31 : t.slots.length ≤ 1073741824) (h : Sat w0 w (tbPt p 181 sv t.n t.gone :: osl 230 36 sv (t.slots.flatMap (slotL penc)) :: F)) :
  Calls Tryz.prog 146 #[ptr p, .int .i64 N] w (Rtn fun _ w' => ∃ s' sv', Tab.Renewed t s' N ∧ Sat w0 w' (tbPt p 181 sv' t.n 0 :: osl 230 36 sv' (s'.flatMap (slotL penc)) :: F)) := by
 have Hok := Lib.hid ok; have HN := Lib.hid hN; have HNb := Lib.hid hNb
 have Hlen := Lib.hid (show ∀ x ∈ t.slots, (slotL penc x).length = 36 from fun x hx => slotL_len penc x (ok.good.key x hx) 3 (penc_len _))
 obtain ⟨la, lc, rfl⟩ := osl_rows Hlen.out (Sat.rd (h.pick pick1)) dCz
 have hw0 : IntKind.i64.wrap (2 * (N : Int)) = 2 * (N : Int) := IntWalk.i64_in _ (by omega)
 have hw0b : wrap64 (2 * (N : Int)) = 2 * (N : Int) := IntWalk.wrap64_in _ (by omega)
 clear ok hN
 go_enter Tryz.func146, Tryz.ntmps146
 go_wp2_with fail
 go_loopg [4] (4 * N) (fun g cq wr => ∃ c : Nat, g = 4 * N + 8 - c ∧ cq = .int .i64 c ∧ (∃ j, c = 2 ^ j ∧ 3 ≤ j) ∧ 8 ≤ c ∧ (c = 8 ∨ c < 4 * N) ∧ wr = w)
 case atStart => exact ⟨8, by omega, rfl, ⟨3, rfl, Nat.le_refl 3⟩, Nat.le_refl 8, .inl rfl, rfl⟩
 case round =>
  obtain ⟨c, rfl, rfl, ⟨j, hj, hj3⟩, hc8, hc, rfl⟩ := hrel
  by_cases hlt : c < 2 * N
  ·have c1 : (c : Int) < 2 * (N : Int) := by omega
   have hw1 : IntKind.i64.wrap ((c : Int) * 2) = (c : Int) * 2 := IntWalk.i64_in _ (by omega)
   have hw1b : wrap64 ((c : Int) * 2) = (c : Int) * 2 := IntWalk.wrap64_in _ (by omega)
   have Hj := Lib.hid hj; have Hj3 := Lib.hid hj3; have Hlt := Lib.hid hlt; have Hc8 := Lib.hid hc8
   clear hj hj3 hlt hc hc8
   go_wp2_with fail
   go_roundg (4 * N + 8 - c * 2)
   case measure => have := Hlt.out; have := Hc8.out; omega
   case rel => exact ⟨c * 2, rfl, by first | rfl | go_num, ⟨j + 1, by rw [Nat.pow_succ, Hj.out], by have := Hj3.out; omega⟩, by have := Hc8.out; omega, .inr (by have := Hlt.out; omega), rfl⟩
  ·have c1 : ¬ (c : Int) < 2 * (N : Int) := by omega
   have HC := Lib.hid (show (∃ j, c = 2 ^ j ∧ 3 ≤ j) ∧ 2 * N ≤ c ∧ 8 ≤ c ∧ (c = 8 ∨ c < 4 * N) from ⟨⟨j, hj, hj3⟩, by omega, hc8, hc⟩)
   have hcb : c ≤ 1073741824 := by omega
   have Hcb := Lib.hid hcb
   clear hj hj3 hlt hc hc8 hw0 hcb hNb
   go_wp2_with (first
    | ((with_reducible apply at_load); refine ⟨?_⟩; refine wl_load1 h rFz pkD nLz evD kRz ?_)
    | ((with_reducible apply at_make); refine ⟨?_⟩; refine wl_makeN (e := 230) (sz := 36) (by' := 64) (n := c) kRz zSlotL h rFz rFz (by have := Hcb.out; omega) (by have := Hcb.out; omega) ?_; intro bM wM hM)
    | ((with_reducible apply at_store); refine ⟨?_⟩; refine wl_store (by assumption) rFz evD (by first | (simp only [putsAt, Value.cells]; (try go_frame); first | done | rfl) | rfl) upD nLz kRz rFz ?_; intro wS hS))
   have e8 : (List.replicate c (slotL penc ⟨0, Frm.zero32, Seg.Plc.zero⟩)).flatten = (List.replicate c (⟨0, Frm.zero32, Seg.Plc.zero⟩ : Tab.Slot (Seg.Plc))).flatMap (slotL penc) := (rows_rep c _).symm
   rw [e8] at hS
   have hS0 : Sat w0 _ (tbPt p 181 (.slice (some ⟨bM, 0, none⟩) c c) t.n 0 :: osl 230 36 (.slice (some ⟨bM, 0, none⟩) c c) ((List.replicate c (⟨0, Frm.zero32, Seg.Plc.zero⟩ : Tab.Slot (Seg.Plc))).flatMap (slotL penc)) :: osl 230 36 (.slice la t.slots.length lc) (t.slots.flatMap (slotL penc)) :: F) := hS.sb
   clear hS hM h e8 c1
   go_wp2_with fail
   go_loopg [31] t.slots.length (fun g iq wr => ∃ (i : Nat) (cur : List (Tab.Slot (Seg.Plc))), g = t.slots.length - i ∧ i ≤ t.slots.length ∧ iq = .int .i64 i ∧ Tab.Half t.slots cur i ∧ cur.length = c ∧
    Sat w0 wr (tbPt p 181 (.slice (some ⟨bM, 0, none⟩) c c) t.n 0 :: osl 230 36 (.slice (some ⟨bM, 0, none⟩) c c) (cur.flatMap (slotL penc)) :: osl 230 36 (.slice la t.slots.length lc) (t.slots.flatMap (slotL penc)) :: F))
   case atStart => exact ⟨0, _, rfl, Nat.zero_le _, rfl, Tab.half_start HC.out.1 dCz rfl, List.length_replicate, hS0⟩
   case round =>
    obtain ⟨i, cur, rfl, hi, rfl, hH, hcl, hS⟩ := hrel
    clear hS0
    have HH := Lib.hid hH; have Hcl := Lib.hid hcl
    by_cases hlt : i < t.slots.length
    rotate_left
    ·obtain rfl : i = t.slots.length := by omega
     have c1 : ¬ (t.slots.length : Int) < (t.slots.length : Int) := by omega
     clear hlt hH hi
     go_wp2_with fail
     go_end0
     obtain ⟨q1, q2, q3, q4⟩ := HH.out.done
     exact ⟨_, rfl, cur, ⟨q1, q2, q3.trans Hok.out.n.symm, q4.trans Hok.out.n.symm, by rw [Hcl.out]; exact HC.out.2.1, by rw [Hcl.out]; exact HC.out.2.2.1, by rw [Hcl.out]; exact HC.out.2.2.2⟩, _, hS.sb⟩
    have c1 : (i : Int) < (t.slots.length : Int) := by omega
    have hwi : IntKind.i64.wrap ((i : Int) + 1) = (i : Int) + 1 := IntWalk.i64_in _ (by omega)
    obtain ⟨x, hx⟩ : ∃ x, t.slots[i]? = some x := ⟨_, List.getElem?_eq_getElem hlt⟩
    have hxm := List.mem_of_getElem? hx
    have hst := Hok.out.good.st x hxm
    have Hxk := Lib.hid (Hok.out.good.key x hxm)
    obtain ⟨bk, off, c', hsv, hcell⟩ := osl_row Hlen.out (Sat.rd (hS.pick pick2)) hx dCz
    cases hsv
    have hl38 := Hlen.out x hxm
    have Hx := Lib.hid hx; have Hlt := Lib.hid hlt
    clear hx hxm hlt hH hi
    go_wp2_with (first
     | ((with_reducible apply at_load); refine ⟨?_⟩; refine wl_loadW (b := bk) (o := off + i * 36) (slotL penc x) rFz hcell Tryz.underlying230 rfl (by rw [hl38]; kernel_rfl) ?_)
     | (with_reducible apply at_alloc))
    refine ⟨?_⟩
    refine wl_alloc zSlotL hS rfl ?_
    intro b7 w7 hS7
    go_wp2_with (first | ((with_reducible apply at_store); refine ⟨?_⟩; refine wl_storeA (slotL penc x).toArray hS7 rFz rFz (by rw [List.size_toArray, hl38]; rfl) upd0 (by rw [List.size_toArray, hl38]; kernel_rfl) (by rw [List.toList_toArray]; exact slotL_ones penc x (penc_ones _)) ?_; intro w10 hS10) | (with_reducible apply at_load))
    refine ⟨?_⟩
    clear hS hS7 hcell
    have f0 : w10.cell? ⟨b7, 0, none⟩ = some (.int .i64 x.st) := hS10.cellP pick0 0 (by rw [List.getElem?_toArray]; rfl)
    have f1 : w10.rangeAt b7 1 (bys x.key) := slot_key (hS10.pick pick0)
    by_cases h1 : x.st = 1
    rotate_left
    ·have hst1 : ((x.st : Int) == 1) = false := by rw [beq_eq_false_iff_ne]; omega
     have H1 := Lib.hid h1
     clear h1 f1
     go_wp2_with fail
     go_roundg (t.slots.length - (i + 1))
     case measure => have := Hlt.out; omega
     case rel => exact ⟨i + 1, cur, rfl, Hlt.out, by first | rfl | go_num, HH.out.skip Hx.out H1.out, Hcl.out, hS10.sb⟩
    ·have hus : Tab.used cur < cur.length := by
      have h2 := HH.out.nu
      have h3 := Tab.fulls_take_le t.slots i
      have h4 := Hok.out.n
      have h5 := HN.out
      have h6 := HC.out
      rw [Hcl.out]; omega
     obtain ⟨dd, hdd⟩ := Tab.ends_of (k := x.key) HH.out.good (Tab.free_of hus)
     have H1 := Lib.hid h1; have Hdd := Lib.hid hdd
     have hst1 : ((x.st : Int) == 1) = true := by rw [h1]; rfl
     have Hcl38 := Lib.hid (show ∀ y ∈ cur, (slotL penc y).length = 36 from fun y hy => slotL_len penc y (HH.out.good.key y hy) 3 (penc_len _))
     clear h1 hus hdd
     go_wp2_with ((with_reducible apply at_load); refine ⟨?_⟩; refine wl_loadW (b := b7) (o := 1) (bys x.key) rFz f1 Tryz.underlying24 rfl (by rw [bys_len, Hxk.out]; kernel_rfl) ?_)
     have hf := findL_c HH.out.good (by rw [Hcl.out]; exact Hcb.out) Hxk.out Hdd.out (hS10.sb : Sat w0 w10 (tbPt p 181 (.slice (some ⟨bM, 0, none⟩) c c) t.n 0 :: osl 230 36 (.slice (some ⟨bM, 0, none⟩) c c) (cur.flatMap (slotL penc)) :: pt b7 (.cells (slotL penc x).toArray 230 (0,0)) :: osl 230 36 (.slice (some ⟨bk, off, none⟩) t.slots.length lc) (t.slots.flatMap (slotL penc)) :: F))
     clear hS10 f0 f1
     refine hf.mono ?_
     rintro ee w11 ⟨v, rfl, y, hy, rfl, hS11⟩
     clear hf hy
     have hlt2 := Tab.pos_lt (k := x.key) (d := dd) HH.out.good.pos_len
     rw [Hcl.out] at hlt2
     have Hset := Lib.hid (rows_set (f := slotL penc) (k := 36) (i := Tab.pos x.key cur.length dd) (x := x) Hcl38.out hl38 (Tab.pos_lt HH.out.good.pos_len))
     have Hst2 := Lib.hid (HH.out.step Hok.out.good Hx.out H1.out Hdd.out)
     rw [Hcl.out] at Hset Hst2
     rw [Hcl.out]
     have hrl : (cur.flatMap (slotL penc)).length = 36 * c := by rw [rows_len Hcl38.out, Hcl.out]
     generalize Tab.pos x.key c dd = P0 at *
     have c2 : (0 : Int) ≤ (P0 : Int) := by omega
     have c3 : (P0 : Int) < (c : Int) := by omega
     go_wp2_with fail
     have hSd := hS11.drew
     clear hS11
     refine wpL_begin [6, 7] (fun w' => w'.cell? ⟨p, 0, none⟩ = some (.slice (some ⟨bM, 0, none⟩) c c) ∧ w'.rangeAt b7 0 (slotL penc x)) kRz ?_
     have hG : World.cell? _ ⟨p, 0, none⟩ = some (.slice (some ⟨bM, 0, none⟩) c c) ∧ World.rangeAt _ b7 0 (slotL penc x) := ⟨hSd.cellP pkD 0 rfl, pt_rangeL (hSd.pk (A := pt b7 (.cells (slotL penc x).toArray 230 (0,0))))⟩
     refine rp 0 (hy := (yl_move evD)) (h := ?_)
     refine rp 1 (hy := (yl_nil evD)) (h := ?_)
     refine rp 2 (hy := (yl_field evD rnD)) (h := ?_)
     refine rt 3 (h := ?_)
     refine rp 4 (hy := (yl_move evD)) (h := ?_)
     refine rg_take 5 evD kRz i3z (tk_loadN (b := b7) (o := 0) (slotL penc x) rFz Tryz.underlying230 rfl (by rw [hl38]; kernel_rfl) (fun w hw => hw.2)) (by assumption) (by go_frame; first | done | rfl) ?_
     refine rp 6 (hy := (yl_index evD evD rnD)) (h := ?_)
     clear hG
     refine rg_eff 7 evD kRz (fun K hK => ?_)
     refine eff_storeSN (vs := slotL penc x) (P0 * 36) hSd evD evD rfl (upd_there upd0) (by rw [hl38, hrl]; omega) (by rw [hl38]; kernel_rfl) (slotL_ones penc x (penc_ones _)) ?_
     intro w12 hS12
     refine hK _ _ (.inl rfl) ?_
     clear hK hSd
     refine wpL_done kRz ?_
     try simp only [List.getElem_toArray, List.getElem_cons_succ, List.getElem_cons_zero]
     try go_frame
     rw [← Hset.out] at hS12
     go_wp2_with fail
     go_roundg (t.slots.length - (i + 1))
     case measure => have := Hlt.out; omega
     case rel => exact ⟨i + 1, _, rfl, Hlt.out, by first | rfl | go_num, Hst2.out, by rw [List.length_set]; exact Hcl.out, hS12.sb⟩
end
theorem run_slotL (k : Frm.Bs) (hk : k.length = 32) (v : Seg.Plc) (w : World) :
  (Instr.build 230 #[(0, .int .i64 1), (1, .agg (bys k).toArray), (2, .agg (penc v).toArray)]).run Tryz.prog w = .ok (.agg (slotL penc ⟨1, k, v⟩).toArray) w := by
 have hbk : (bys k).toArray.size = 32 := by rw [List.size_toArray, bys_len, hk]
 refine (run_build (P := Tryz.prog) [(0, .int .i64 1), (1, .agg (bys k).toArray), (2, .agg (penc v).toArray)] plSlotL zSlotL (by
  intro p' hp
  simp only [List.mem_cons, List.not_mem_nil, or_false] at hp
  have hzz : (Value.agg (slotL penc (⟨0, Frm.zero32, Seg.Plc.zero⟩ : Tab.Slot (Seg.Plc))).toArray).cells.size = 36 := by
   show (slotL penc (⟨0, Frm.zero32, Seg.Plc.zero⟩ : Tab.Slot (Seg.Plc))).toArray.size = 36
   rw [List.size_toArray, slotL_len penc _ dCz 3 rfl]
  rw [hzz]
  rcases hp with rfl | rfl | rfl
  ·exact ⟨0, rfl, by show 0 + 1 ≤ 36; omega⟩
  ·refine ⟨1, ?_, ?_⟩
   ·show some (1, 32) = some (1, (bys k).toArray.size); rw [hbk]
   ·show 1 + (bys k).toArray.size ≤ 36; omega
  ·exact ⟨33, rfl, by show 33 + 3 ≤ 36; omega⟩) w).trans ?_
 rw [show (Value.agg (slotL penc (⟨0, Frm.zero32, Seg.Plc.zero⟩ : Tab.Slot (Seg.Plc))).toArray).cells = (slotL penc (⟨0, Frm.zero32, Seg.Plc.zero⟩ : Tab.Slot (Seg.Plc))).toArray from rfl, put_slot penc ⟨0, Frm.zero32, Seg.Plc.zero⟩ k v dCz hk rfl 3 rfl]
section
variable {w0 w : World} {F R : List HProp} {p B : Nat} {sv : Value} {k : Frm.Bs} {m : Frm.Bs → Option (Seg.Plc)}
set_option maxRecDepth 20000 in
theorem putL_c (hB : B ≤ 134217000) (hk : k.length = 32) (v : Seg.Plc) (h : Sat w0 w (TabML p m B :: F)) :
  Calls Tryz.prog 82 #[ptr p, .agg (bys k).toArray, .agg (penc v).toArray] w (Rtn fun _ w' => Sat w0 w' (TabML p (Tab.put m k v) (B + 1) :: F)) := by
 obtain ⟨t, sv, ⟨ok, is, hb⟩, hR⟩ := TabML.open h
 obtain ⟨d, he⟩ := ok.ends k
 have hsz : t.slots.length ≤ 1073741824 := by have := ok.size; omega
 have Hlen := Lib.hid (show ∀ x ∈ t.slots, (slotL penc x).length = 36 from fun x hx => slotL_len penc x (ok.good.key x hx) 3 (penc_len _))
 obtain ⟨la, lc, rfl⟩ := osl_rows Hlen.out (Sat.rd (hR.pick pick1)) dCz
 have hrl : 0 < (t.slots.flatMap (slotL penc)).length := by rw [rows_len Hlen.out]; have := ok.good.pos_len; omega
 obtain ⟨bk, rfl⟩ := osl_zero (hR.pick pick1) hrl
 have Hk := Lib.hid hk; have Hok := Lib.hid ok; have His := Lib.hid is; have Hb := Lib.hid hb; have He := Lib.hid he; have Hsz := Lib.hid hsz; have HB := Lib.hid hB
 have Hp0 := Lib.hid ok.good.pos_len
 have Hbs := Lib.hid (show (bys k).length = 32 by rw [bys_len, hk])
 clear h hk ok is hb he hsz hB hrl
 go_enter Tryz.func82, Tryz.ntmps82
 go_wp2_with (with_reducible apply at_box)
 refine ⟨?_⟩
 refine wl_box hR evD evD ?_
 intro b4 w4 hS4
 go_wp2_with (with_reducible apply at_box)
 refine ⟨?_⟩
 refine wl_box hS4 evD evD ?_
 intro b5 w5 hS5
 have hA : Sat w0 w5 (tbPt p 181 (.slice (some ⟨bk, 0, none⟩) t.slots.length lc) t.n t.gone :: osl 230 36 (.slice (some ⟨bk, 0, none⟩) t.slots.length lc) (t.slots.flatMap (slotL penc)) :: pt b4 (.cells (bys k).toArray 24 (0,0)) :: pt b5 (.cells (penc v).toArray 54 (0,0)) :: F) := hS5.sb
 clear hR hS4 hS5
 go_wp2_with fail
 refine (okL_c Hp0.out hA).mono ?_
 rintro ee w7 ⟨v', rfl, rfl, rfl⟩
 go_wp2_with ((with_reducible apply at_load); refine ⟨?_⟩; refine wl_loadA hA rFz (pick_there (pick_there (pick0 (A := pt b4 (.cells (bys k).toArray 24 (0,0)))))) Tryz.underlying24 rfl (by rw [List.size_toArray, Hbs.out]; kernel_rfl) ?_)
 have hf := findL_c Hok.out.good Hsz.out Hk.out He.out hA
 clear hA
 refine hf.mono ?_
 rintro ee w8 ⟨v', rfl, x, hx, rfl, hS8⟩
 clear hf
 have hlt := Tab.pos_lt (k := k) (d := d) Hp0.out
 by_cases h1 : x.st = 1
 ·have hd : decide (x.st = 1) = true := decide_eq_true h1
  have hxm := List.mem_of_getElem? hx
  have Hrow := Lib.hid (rows_part (f := slotL penc) (k := 36) (o := 33) (x' := ⟨x.st, x.key, v⟩) (vs := penc v) Hlen.out hx (slotL_setv penc x v (Hok.out.good.key x hxm) rfl) (by show 33 + 3 ≤ 36; decide))
  have Hok2 := Lib.hid (Tab.put_old_ok Hok.out He.out hx h1 v)
  have His2 := Lib.hid (Tab.is_put His.out (Tab.put_found Hok.out.good He.out hx h1 v).2 t.n t.gone)
  have hrl : (t.slots.flatMap (slotL penc)).length = 36 * t.slots.length := rows_len Hlen.out
  clear hx hxm h1
  generalize Tab.pos k t.slots.length d = P0 at *
  have c0 : (0 : Int) ≤ (P0 : Int) := by omega
  have c1 : (P0 : Int) < (t.slots.length : Int) := by omega
  go_wp2_with fail
  have hSd := hS8.drew
  clear hS8
  refine wpL_begin [6, 7, 8] (fun w' => w'.cell? ⟨p, 0, none⟩ = some (.slice (some ⟨bk, 0, none⟩) t.slots.length lc) ∧ w'.rangeAt b5 0 (penc v)) kRz ?_
  have hG : World.cell? _ ⟨p, 0, none⟩ = some (.slice (some ⟨bk, 0, none⟩) t.slots.length lc) ∧ World.rangeAt _ b5 0 (penc v) := ⟨hSd.cellP pkD 0 rfl, pt_rangeL (hSd.pk (A := pt b5 (.cells (penc v).toArray 54 (0,0))))⟩
  refine rp 0 (hy := (yl_move evD)) (h := ?_)
  refine rp 1 (hy := (yl_nil evD)) (h := ?_)
  refine rp 2 (hy := (yl_field evD rnD)) (h := ?_)
  refine rt 3 (h := ?_)
  refine rp 4 (hy := (yl_move evD)) (h := ?_)
  refine rg_take 5 evD kRz i3z (tk_loadN (b := b5) (o := 0) (penc v) rFz Tryz.underlying54 rfl kRz (fun w hw => hw.2)) (by assumption) (by go_frame; first | done | rfl) ?_
  refine rp 6 (hy := (yl_index evD evD rnD)) (h := ?_)
  refine rp 7 (hy := (yl_field evD rnD)) (h := ?_)
  clear hG
  refine rg_eff 8 evD kRz (fun K hK => ?_)
  refine eff_storeSN (vs := penc v) (P0 * 36 + 33) hSd evD evD rfl (upd_there upd0) (by rw [hrl]; show P0 * 36 + 33 + 3 ≤ _; omega) kRz rFz ?_
  intro w12 hS12
  refine hK _ _ (.inl rfl) ?_
  clear hK hSd
  refine wpL_done kRz ?_
  try simp only [List.getElem_toArray, List.getElem_cons_succ, List.getElem_cons_zero]
  try go_frame
  rw [← Hrow.out] at hS12
  go_wp2_with fail
  go_end0
  exact ⟨_, rfl, TabML.shut (sv := .slice (some ⟨bk, 0, none⟩) t.slots.length lc) Hok2.out His2.out (Nat.le_succ_of_le Hb.out) (hS12.sb)⟩
 have hd : decide (x.st = 1) = false := decide_eq_false h1
 have hb4 := Hb.out
 have hB4 := HB.out
 have hsz4 := Hsz.out
 obtain ⟨hA1, hA2, hA3, hA4, hA1b, hA2b, hA3b, hA4b, hA5⟩ := wraps4 t.n t.gone t.slots.length (by omega) hsz4
 have Hx := Lib.hid hx; have H1 := Lib.hid h1
 clear hx h1 hb4 hB4 hsz4
 go_wp2_with fail
 have hSd := hS8.drew
 clear hS8
 have e0 : World.cell? _ ⟨p, 0, none⟩ = some (.slice (some ⟨bk, 0, none⟩) t.slots.length lc) := hSd.cellP pkD 0 rfl
 have e1 : World.cell? _ ⟨p, 1, none⟩ = some (.int .i64 t.n) := hSd.cellP pkD 1 rfl
 have e2 : World.cell? _ ⟨p, 2, none⟩ = some (.int .i64 t.gone) := hSd.cellP pkD 2 rfl
 go_region
 have hcmp : 3 * t.slots.length < 4 * (t.n + t.gone + 1) ∨ 4 * (t.n + t.gone + 1) ≤ 3 * t.slots.length := by omega
 rcases hcmp with hcmp | hcmp
 focus
  have hci : (3 : Int) * (t.slots.length : Int) < 4 * ((t.n : Int) + (t.gone : Int) + 1) := by omega
  have hrn := renewL_c (N := t.n + 1) Hok.out (Nat.le_succ _) (by have := Hb.out; have := HB.out; omega) Hsz.out hSd
  rw [show (((t.n + 1 : Nat)) : Int) = (t.n : Int) + 1 by omega] at hrn
  clear hSd e0 e2
  go_wp2_with fail
  refine hrn.mono ?_
  rintro ee w9 ⟨v', rfl, s', sv', hren, hS9⟩
  clear hrn e1 hci hcmp
  have hok1 := hren.ok
  have his1 := hren.is His.out t.n 0
  have hld1 : 4 * ((⟨s', t.n, 0⟩ : Tab.Tb (Seg.Plc)).n + (⟨s', t.n, 0⟩ : Tab.Tb (Seg.Plc)).gone + 1) ≤ 3 * (⟨s', t.n, 0⟩ : Tab.Tb (Seg.Plc)).slots.length := by have := hren.lo; simp only; omega
  have hb1 : (⟨s', t.n, 0⟩ : Tab.Tb (Seg.Plc)).n + (⟨s', t.n, 0⟩ : Tab.Tb (Seg.Plc)).gone ≤ B := by have := Hb.out; simp only; omega
  have hS10 : Sat w0 w9 (tbPt p 181 sv' (⟨s', t.n, 0⟩ : Tab.Tb (Seg.Plc)).n (⟨s', t.n, 0⟩ : Tab.Tb (Seg.Plc)).gone :: osl 230 36 sv' ((⟨s', t.n, 0⟩ : Tab.Tb (Seg.Plc)).slots.flatMap (slotL penc)) :: pt b4 (.cells (bys k).toArray 24 (0,0)) :: pt b5 (.cells (penc v).toArray 54 (0,0)) :: F) := hS9
  clear hS9 hren hA1 hA2 hA3 hA4 hA1b hA2b hA3b hA4b hA5
  generalize (⟨s', t.n, 0⟩ : Tab.Tb (Seg.Plc)) = t1 at hok1 his1 hld1 hb1 hS10
  have Hlen1 := Lib.hid (show ∀ x ∈ t1.slots, (slotL penc x).length = 36 from fun x hx => slotL_len penc x (hok1.good.key x hx) 3 (penc_len _))
  obtain ⟨la1, lc1, rfl⟩ := osl_rows Hlen1.out (Sat.rd (hS10.pick pick1)) dCz
  have Hok1 := Lib.hid hok1; have His1 := Lib.hid his1; have Hld1 := Lib.hid hld1; have Hb1 := Lib.hid hb1
  obtain ⟨d1, he1⟩ := hok1.ends k
  have He1 := Lib.hid he1
  have hno : m k = none := by
   obtain ⟨_, q2⟩ := His.out.some Hok.out He.out Hx.out
   exact q2 H1.out
  have hsz1 : t1.slots.length ≤ 1073741824 := by have := hok1.size; have := HB.out; omega
  clear hok1 his1 hld1 hb1 he1
  go_wp2_with ((with_reducible apply at_load); refine ⟨?_⟩; refine wl_loadA hS10 rFz (pick_there (pick_there (pick0 (A := pt b4 (.cells (bys k).toArray 24 (0,0)))))) Tryz.underlying24 rfl (by rw [List.size_toArray, Hbs.out]; kernel_rfl) ?_)
  have hf := findL_c Hok1.out.good hsz1 Hk.out He1.out hS10
  clear hS10 hsz1
  refine hf.mono ?_
  rintro ee w8b ⟨v', rfl, x1, hx1, rfl, hT⟩
  have Hx1 := Lib.hid hx1
  have H1f := Lib.hid (show x1.st ≠ 1 from fun h => by
   have := (His1.out.some Hok1.out He1.out hx1).1 h
   rw [hno] at this; cases this)
  clear hf hx1 hno Hx H1 He Hok His Hlen Hp0 Hb Hsz hlt hd
  go_wp2_with fail
 rotate_left
 focus
  have hci : ¬ (3 : Int) * (t.slots.length : Int) < 4 * ((t.n : Int) + (t.gone : Int) + 1) := by omega
  have Hld1 := Lib.hid hcmp
  clear e0 e1 e2 hcmp
  go_wp2_with fail
  clear hci hA1 hA2 hA3 hA4 hA1b hA2b hA3b hA4b hA5 hlt hd Hp0 Hsz
  obtain ⟨t1, rfl⟩ : ∃ y, y = t := ⟨t, rfl⟩
  obtain ⟨x1, rfl⟩ : ∃ y, y = x := ⟨x, rfl⟩
  obtain ⟨d1, rfl⟩ : ∃ y, y = d := ⟨d, rfl⟩
  obtain ⟨la1, hla1⟩ : ∃ y : Option Addr, y = some ⟨bk, 0, none⟩ := ⟨_, rfl⟩
  obtain ⟨lc1, rfl⟩ : ∃ y, y = lc := ⟨lc, rfl⟩
  rw [← hla1] at hSd
  have hT := hSd
  have Hok1 := Lib.hid Hok.out; have His1 := Lib.hid His.out; have Hb1 := Lib.hid Hb.out; have He1 := Lib.hid He.out; have Hx1 := Lib.hid Hx.out; have H1f := Lib.hid H1.out; have Hlen1 := Lib.hid Hlen.out
  clear hSd Hok His Hb He Hx H1 Hlen hla1
 all_goals
  have hrl : (t1.slots.flatMap (slotL penc)).length = 36 * t1.slots.length := rows_len Hlen1.out
  obtain ⟨bk1, rfl⟩ := osl_zero (hT.pick pick1) (by rw [hrl]; have := Hok1.out.good.pos_len; omega)
  have Hrow := Lib.hid (rows_set (f := slotL penc) (k := 36) (i := Tab.pos k t1.slots.length d1) (x := ⟨1, k, v⟩) Hlen1.out (slotL_len penc _ Hk.out 3 rfl) (Tab.pos_lt Hok1.out.good.pos_len))
  have Hok2 := Lib.hid (Tab.put_new_ok Hok1.out Hld1.out He1.out Hx1.out H1f.out Hk.out v)
  have His2 := Lib.hid (Tab.is_put His1.out (Tab.put_new Hok1.out.good He1.out Hx1.out H1f.out Hk.out v).2 (t1.n + 1) t1.gone)
  have hlt1 := Tab.pos_lt (k := k) (d := d1) Hok1.out.good.pos_len
  have hls := slotL_len penc (⟨1, k, v⟩ : Tab.Slot (Seg.Plc)) Hk.out 3 rfl
  have hwn : IntKind.i64.wrap ((t1.n : Int) + 1) = (t1.n : Int) + 1 := IntWalk.i64_in _ (by have := Hb1.out; have := HB.out; omega)
  clear Hx1 H1f He1 Hok1 His1 Hld1
  generalize Tab.pos k t1.slots.length d1 = P1 at *
  have c0 : (0 : Int) ≤ (P1 : Int) := by omega
  have c1 : (P1 : Int) < (t1.slots.length : Int) := by omega
  have hSd := hT.drew
  clear hT
  refine wpL_begin [8, 9] (fun w' => w'.cell? ⟨p, 0, none⟩ = some (.slice (some ⟨bk1, 0, none⟩) t1.slots.length lc1) ∧ w'.rangeAt b4 0 (bys k) ∧ w'.rangeAt b5 0 (penc v)) kRz ?_
  have hG : World.cell? _ ⟨p, 0, none⟩ = some (.slice (some ⟨bk1, 0, none⟩) t1.slots.length lc1) ∧ World.rangeAt _ b4 0 (bys k) ∧ World.rangeAt _ b5 0 (penc v) := ⟨hSd.cellP pkD 0 rfl, pt_rangeL (hSd.pk (A := pt b4 (.cells (bys k).toArray 24 (0,0)))), pt_rangeL (hSd.pk (A := pt b5 (.cells (penc v).toArray 54 (0,0))))⟩
  refine rp 0 (hy := (yl_move evD)) (h := ?_)
  refine rp 1 (hy := (yl_nil evD)) (h := ?_)
  refine rp 2 (hy := (yl_field evD rnD)) (h := ?_)
  refine rt 3 (h := ?_)
  refine rp 4 (hy := (yl_move evD)) (h := ?_)
  refine rg_take 5 evD kRz i3z (tk_loadN (b := b4) (o := 0) (bys k) rFz Tryz.underlying24 rfl (by rw [Hbs.out]; kernel_rfl) (fun w hw => hw.2.1)) (by assumption) (by go_frame; first | done | rfl) ?_
  refine rg_take 6 evD kRz i3z (tk_loadN (b := b5) (o := 0) (penc v) rFz Tryz.underlying54 rfl kRz (fun w hw => hw.2.2)) (by assumption) (by go_frame; first | done | rfl) ?_
  refine rp 7 (hy := (yl_build3 evD evD evD (fun w => run_slotL k Hk.out v w))) (h := ?_)
  refine rp 8 (hy := (yl_index evD evD rnD)) (h := ?_)
  clear hG
  refine rg_eff 9 evD kRz (fun K hK => ?_)
  refine eff_storeSN (vs := slotL penc ⟨1, k, v⟩) (P1 * 36) hSd evD evD rfl (upd_there upd0) (by rw [hrl, hls]; omega) (by rw [hls]; kernel_rfl) (slotL_ones penc _ rFz) ?_
  intro w12 hS12
  refine hK _ _ (.inl rfl) ?_
  clear hK hSd
  refine wpL_done kRz ?_
  try simp only [List.getElem_toArray, List.getElem_cons_succ, List.getElem_cons_zero]
  try go_frame
  rw [← Hrow.out] at hS12
  go_wp2_with (first
   | ((with_reducible apply at_load); refine ⟨?_⟩; refine wl_load1 hS12 rFz pkD nLz evD kRz ?_)
   | ((with_reducible apply at_store); refine ⟨?_⟩; refine wl_store (by assumption) rFz evD (by first | (simp only [putsAt, Value.cells]; (try go_frame); first | done | rfl) | rfl) upD nLz kRz rFz ?_; intro wS hS))
  go_end0
  exact ⟨_, rfl, TabML.shut (sv := .slice (some ⟨bk1, 0, none⟩) t1.slots.length lc1) Hok2.out His2.out (by have := Hb1.out; simp only; omega) (hS.sb)⟩
end
set_option maxRecDepth 20000 in
theorem cmpL_c (x y : Tab.Slot (Seg.Plc)) (hx : x.key.length = 32) (hy : y.key.length = 32) (W : World) :
  Calls Tryz.prog 195 #[.agg (slotL penc x).toArray, .agg (slotL penc y).toArray] W fun e w' => e = .returned (.int .i64 (Lib.compareBytes x.key y.key)) ∧ ∃ q os', w' = Sort.grow (W.drewN q) os' := by
 have h0 := Sat.start W
 have h1 := h0.alloc (.cells (slotL penc x).toArray 230)
 have h2 := (h1.alloc (.cells (slotL penc y).toArray 230)).drew
 have hsz : (W.alloc (.cells (slotL penc x).toArray 230)).heap.size = W.heap.size + 1 := Array.size_push ..
 rw [hsz] at h2
 have r1 : rdsl 1 (.slice (some ⟨W.heap.size, 1, none⟩) 32 32) (bys x.key) ((W.alloc (.cells (slotL penc x).toArray 230)).alloc (.cells (slotL penc y).toArray 230)).drew :=
  ⟨_, _, _, rfl, by rw [bys_len, hx], fun j z hj => ⟨_, rfl, by rw [adr_add]; exact slot_key (h2.pick pick1) j z hj⟩⟩
 have r2 : rdsl 1 (.slice (some ⟨W.heap.size + 1, 1, none⟩) 32 32) (bys y.key) ((W.alloc (.cells (slotL penc x).toArray 230)).alloc (.cells (slotL penc y).toArray 230)).drew :=
  ⟨_, _, _, rfl, by rw [bys_len, hy], fun j z hj => ⟨_, rfl, by rw [adr_add]; exact slot_key (h2.pick pick0) j z hj⟩⟩
 have hb := bcmp_c x.key y.key r1 r2
 clear h0 h1 h2 r1 r2 hsz
 generalize Lib.compareBytes x.key y.key = r at *
 go_enter Tryz.func195, Tryz.ntmps195
 go_wp2_with fail
 have hG : True := trivial
 refine wpL_begin [] (fun w' => True) kRz ?_
 refine rp 0 (hy := (yl_field evD rnD)) (h := ?_)
 refine rp 1 (hy := (by (refine Or.inl ⟨by rfl, ?_⟩; ((intro wq; go_simp); first | done | (with_reducible rfl))))) (h := ?_)
 refine rp 2 (hy := (yl_field evD rnD)) (h := ?_)
 refine rp 3 (hy := (by (refine Or.inl ⟨by rfl, ?_⟩; ((intro wq; go_simp); first | done | (with_reducible rfl))))) (h := ?_)
 refine rg_eff 4 evD kRz (fun K hK => ?_)
 (refine eff_call2 kRz evD evD ?_)
 refine hb.mono ?_
 rintro e w' ⟨rfl, rfl⟩
 refine hK _ _ (.inr (.inr rfl)) ?_
 clear hK hb
 refine rp 5 (hy := (yl_assign evD)) (h := ?_)
 refine wpL_done kRz ?_
 clear hG
 go_wp2_with fail
 go_ret
 exact ⟨rfl, 1, #[.cells (slotL penc x).toArray 230, .cells (slotL penc y).toArray 230], by rw [Sort.alloc_eq_grow, Sort.alloc_eq_grow, Sort.grow_grow, Sort.drew_grow]; rfl⟩
open Go.Sort
abbrev SlKL : Type := { x : Tab.Slot (Seg.Plc) // x.key.length = 32 }
instance : Inhabited SlKL := ⟨⟨⟨0, Frm.zero32, Seg.Plc.zero⟩, rfl⟩⟩
section
variable {w0 w : World} {F : List HProp} {v : Value}
theorem sortL_c (l : List (Tab.Slot (Seg.Plc))) (hk : ∀ x ∈ l, x.key.length = 32) (hn : l.length ≤ 1073741824) (h : Sat w0 w (osl 230 36 v (l.flatMap (slotL penc)) :: F)) :
  Calls Tryz.prog 194 #[v, .func (.func 195) #[] #[]] w (Rtn fun _ w' => ∃ l' : List (Tab.Slot (Seg.Plc)), (l'.Perm l ∧ l'.Pairwise fun a b => ¬ b.key < a.key) ∧ Sat w0 w' (osl 230 36 v (l'.flatMap (slotL penc)) :: F)) := by
 have hlen : ∀ x ∈ l, (slotL penc x).length = 36 := fun x hx => slotL_len penc x (hk x hx) 3 (penc_len _)
 rcases h.osl_cases with ⟨rfl, hn', h'⟩ | ⟨g, n, cap, cs, rfl, hl, hn', hc, hcm, htk, hp⟩
 ·obtain rfl : l = [] := by
   cases l with
   | nil => rfl
   | cons x l => rw [List.flatMap_cons] at hn'; have := congrArg List.length hn'; rw [List.length_append, hlen x (.head _)] at this; simp at this
  refine (AnyF.slices_SortFunc_none Tryz.sortL none 0 (.func (.func 195) #[] #[]) w).mono ?_
  rintro e w1 ⟨rfl, rfl⟩
  exact ⟨_, rfl, [], ⟨.refl _, .nil⟩, h⟩
 ·rw [rows_len hlen, Nat.mul_comm] at hl
  obtain rfl : n = l.length := (Nat.eq_of_mul_eq_mul_right dCz hl).symm
  let d : Array SlKL := (l.attach.map fun x => (⟨x.1, hk x.1 x.2⟩ : SlKL)).toArray
  have hd : d.toList.map (·.1) = l := by
   show (l.attach.map fun x => (⟨x.1, hk x.1 x.2⟩ : SlKL)).map (·.1) = l
   rw [List.map_map]
   exact List.attach_map_subtype_val l
  have hds : d.size = l.length := by rw [← hd, List.length_map, Array.length_toList]
  have hke : ∀ x : SlKL, ((fun x : SlKL => slotL penc x.1) x).length = 36 := fun x => slotL_len penc x.1 x.2 3 (penc_len _)
  have hfl : ∀ d : Array SlKL, (flatK (fun x : SlKL => slotL penc x.1) 36 d).toList = (d.toList.map (·.1)).flatMap (slotL penc) := fun d => by
   rw [flatK_list hke dCz, List.flatMap_map]
  have hH : HoldsK (fun x : SlKL => slotL penc x.1) 36 w g 0 d := holds_blockV hp.at (by rw [size_flatK, hds, hfl, hd]; exact htk)
  refine (AnyQ.slices_SortFunc Tryz.sortL 36 Tryz.isAgg230 Tryz.sizeOf230 (fun x : SlKL => slotL penc x.1) hke (fun x v hv => List.all_eq_true.1 (slotL_ones penc x.1 (penc_ones _)) v hv) (fun x y => Lib.compareBytes x.1.key y.1.key) (Tab.swo_key fun x : SlKL => x.1.key) 195 #[] g 0 cap d w (fun args w => by kernel_rfl) (fun m os dk _ x y => cmpL_c x.1 y.1 x.2 y.2 _) hH hp.lt (by omega) |> fun q => (by rw [hds] at q; exact q : Calls Tryz.prog 194 #[.slice (some ⟨g, 0, none⟩) l.length cap, .func (.func 195) #[] #[]] w _)).mono ?_
  rintro e w1 ⟨rfl, d', n', os, hpm, hst, rfl⟩
  obtain ⟨q1, q2⟩ := Tab.sorted_list (key := fun x : SlKL => x.1.key) (by rw [hds]; exact hpm) (by rw [hds]; exact hst)
  have hl' : d'.toList.length = l.length := by rw [q1.length_eq, Array.length_toList, hds]
  have hS := sat_sorted (n := n') (os := os) hp (flatK (fun x : SlKL => slotL penc x.1) 36 d')
  have hsz' : (flatK (fun x : SlKL => slotL penc x.1) 36 d').size = l.length * 36 := by rw [size_flatK, ← Array.length_toList, hl']
  refine ⟨_, rfl, d'.toList.map (·.1), ⟨by rw [← hd]; exact q1.map _, List.pairwise_map.2 q2⟩, ?_⟩
  refine hS.osl_of_pt ?_ hn' (by simpa [Sort.putCells] using hc) hcm ?_
  ·rw [← hfl, Array.length_toList, hsz']
  ·rw [← hfl, ← hsz']
   refine take_putCellsV _ ?_
   have : l.length * 36 ≤ cap * 36 := Nat.mul_le_mul_right _ hn'
   omega
end
end Go.Proofs.YtlinnpehkfbnkaaGreatDoor
namespace Go.Proofs.YtlinnpehkfbnkaaGreatDoor
open Go Go.Sl Go.Med Go.MapKept Go.RowKit
section
variable {w0 w : World} {F R : List HProp} {p B : Nat} {sv v : Value} {k : Frm.Bs} {m : Frm.Bs → Option (Seg.Plc)} {t : Tab.Tb (Seg.Plc)}
set_option maxRecDepth 20000 in
theorem risingL_c (hB : B ≤ 13000000) (h : Sat w0 w (TabML p m B :: F)) :
  Calls Tryz.prog 155 #[ptr p] w (Rtn fun v w' => ∃ l : List (Tab.Slot (Seg.Plc)), (Tab.Lists m (l.map fun x => (x.key, x.val)) ∧ (∀ x ∈ l, x.st = 1 ∧ x.key.length = 32) ∧ l.length ≤ B) ∧ Sat w0 w' (osl 230 36 v (l.flatMap (slotL penc)) :: TabML p m B :: F)) := by
 obtain ⟨t, sv, ⟨ok, is, hb⟩, hR⟩ := TabML.open h
 have hsz : t.slots.length ≤ 56000000 := by have := ok.size; omega
 have Hlen := Lib.hid (show ∀ x ∈ t.slots, (slotL penc x).length = 36 from fun x hx => slotL_len penc x (ok.good.key x hx) 3 (penc_len _))
 obtain ⟨la, lc, rfl⟩ := osl_rows Hlen.out (Sat.rd (hR.pick pick1)) dCz
 have Hok := Lib.hid ok; have His := Lib.hid is; have Hb := Lib.hid hb; have Hsz := Lib.hid hsz; have Hp0 := Lib.hid ok.good.pos_len
 clear h ok is hb hB
 have hS0 : Sat w0 w (osl 230 36 (.slice none 0 0) [] :: tbPt p 181 (.slice la t.slots.length lc) t.n t.gone :: osl 230 36 (.slice la t.slots.length lc) (t.slots.flatMap (slotL penc)) :: F) := Sat.osl_nil.2 hR
 clear hR
 go_enter Tryz.func155, Tryz.ntmps155
 go_wp2_with fail
 refine (okL_c Hp0.out (hS0.pick pick1)).mono ?_
 rintro ee w7 ⟨v, rfl, rfl, rfl⟩
 go_wp2_with ((with_reducible apply at_load); refine ⟨?_⟩; refine wl_load1 hS0 rFz pkD nLz evD kRz ?_)
 go_loopg [3, 14] t.slots.length (fun g oq iq wr => ∃ (i : Nat), g = t.slots.length - i ∧ i ≤ t.slots.length ∧ iq = .int .i64 i ∧
  Sat w0 wr (osl 230 36 oq (((t.slots.take i).filter fun x => decide (x.st = 1)).flatMap (slotL penc)) :: tbPt p 181 (.slice la t.slots.length lc) t.n t.gone :: osl 230 36 (.slice la t.slots.length lc) (t.slots.flatMap (slotL penc)) :: F))
 case atStart => exact ⟨0, rfl, Nat.zero_le _, rfl, hS0⟩
 case round =>
  obtain ⟨i, rfl, hi, rfl, hS⟩ := hrel
  clear hS0
  by_cases hlt : i < t.slots.length
  rotate_left
  ·obtain rfl : i = t.slots.length := by omega
   have c1 : ¬ (t.slots.length : Int) < (t.slots.length : Int) := by omega
   rw [List.take_length] at hS
   have hfk : ∀ x ∈ t.slots.filter fun x => decide (x.st = 1), x.key.length = 32 := fun x hx => Hok.out.good.key x (List.mem_filter.1 hx).1
   have hs := sortL_c (t.slots.filter fun x => decide (x.st = 1)) hfk (Nat.le_trans (List.length_filter_le _ _) (Nat.le_trans hsz dCz)) hS
   clear hlt hi hS hfk
   go_wp2_with fail
   refine hs.mono ?_
   rintro ee w8 ⟨v, rfl, l, ⟨h1, h2⟩, hS8⟩
   clear hs
   have Hl := Lib.hid (Tab.lists_of Hok.out.good His.out h1 h2)
   have Hll := Lib.hid (show l.length ≤ B from by
    rw [h1.length_eq, ← List.countP_eq_length_filter]
    have e : t.slots.countP (fun x => decide (x.st = 1)) = Tab.fulls t.slots := by
     unfold Tab.fulls
     refine List.countP_congr fun x _ => ?_
     simp
    have := Hok.out.n; have := Hb.out; omega)
   clear h1 h2
   go_wp2_with fail
   go_ret
   exact ⟨_, rfl, l, ⟨Hl.out.1, Hl.out.2, Hll.out⟩, Sat.put1 (TabML.shut Hok.out His.out Hb.out (hS8.sb))⟩
  have c1 : (i : Int) < (t.slots.length : Int) := by omega
  have hwi : IntKind.i64.wrap ((i : Int) + 1) = (i : Int) + 1 := IntWalk.i64_in _ (by omega)
  obtain ⟨x, hx⟩ : ∃ x, t.slots[i]? = some x := ⟨_, List.getElem?_eq_getElem hlt⟩
  have hxm := List.mem_of_getElem? hx
  have hst := Hok.out.good.st x hxm
  have Hxk := Lib.hid (Hok.out.good.key x hxm)
  obtain ⟨bk, off, c', hsv, hcell⟩ := osl_row Hlen.out (Sat.rd (hS.pick pick2)) hx dCz
  cases hsv
  have hl38 := Hlen.out x hxm
  have htk : (t.slots.take (i + 1)).filter (fun x => decide (x.st = 1)) = (t.slots.take i).filter (fun x => decide (x.st = 1)) ++ [x].filter fun x => decide (x.st = 1) := by
   rw [List.take_add_one, hx, Option.toList_some, List.filter_append]
  have Htk := Lib.hid htk
  have Hlt := Lib.hid hlt
  have hle5 : (((t.slots.take i).filter fun x => decide (x.st = 1)).flatMap (slotL penc)).length ≤ 2147483648 := by
   rw [rows_len fun y hy => Hlen.out y (List.mem_of_mem_take (List.mem_filter.1 hy).1)]
   have h1 := List.length_filter_le (fun x => decide (x.st = 1)) (t.slots.take i)
   have h2 := List.length_take_le' i t.slots
   have h3 := Hsz.out
   omega
  clear hx hxm hlt hi htk
  go_wp2_with (first
   | ((with_reducible apply at_load); refine ⟨?_⟩; refine wl_loadW (b := bk) (o := off + i * 36) (slotL penc x) rFz hcell Tryz.underlying230 rfl (by rw [hl38]; kernel_rfl) ?_)
   | (with_reducible apply at_alloc))
  refine ⟨?_⟩
  refine wl_alloc zSlotL hS rfl ?_
  intro b7 w7 hS7
  go_wp2_with (first | ((with_reducible apply at_store); refine ⟨?_⟩; refine wl_storeA (slotL penc x).toArray hS7 rFz rFz (by rw [List.size_toArray, hl38]; rfl) upd0 (by rw [List.size_toArray, hl38]; kernel_rfl) (by rw [List.toList_toArray]; exact slotL_ones penc x (penc_ones _)) ?_; intro w10 hS10) | (with_reducible apply at_load))
  refine ⟨?_⟩
  clear hS hS7 hcell
  have f0 : w10.cell? ⟨b7, 0, none⟩ = some (.int .i64 x.st) := hS10.cellP pick0 0 (by rw [List.getElem?_toArray]; rfl)
  by_cases h1 : x.st = 1
  rotate_left
  ·have hst1 : ((x.st : Int) == 1) = false := by rw [beq_eq_false_iff_ne]; omega
   have e9 : (t.slots.take (i + 1)).filter (fun x => decide (x.st = 1)) = (t.slots.take i).filter (fun x => decide (x.st = 1)) := by
    rw [Htk.out, List.filter_cons_of_neg (by rw [decide_eq_false h1]; decide), List.filter_nil, List.append_nil]
   have E9 := Lib.hid e9
   clear h1 e9
   go_wp2_with fail
   go_roundg (t.slots.length - (i + 1))
   case measure => have := Hlt.out; omega
   case rel => exact ⟨i + 1, rfl, Hlt.out, by first | rfl | go_num, by rw [E9.out]; exact hS10.sb⟩
  ·have hst1 : ((x.st : Int) == 1) = true := by rw [h1]; rfl
   have e9 : ((t.slots.take (i + 1)).filter (fun x => decide (x.st = 1))).flatMap (slotL penc) = ((t.slots.take i).filter (fun x => decide (x.st = 1))).flatMap (slotL penc) ++ slotL penc x := by
    rw [Htk.out, List.filter_cons_of_pos (by rw [decide_eq_true h1]), List.filter_nil, List.flatMap_append, List.flatMap_cons, List.flatMap_nil, List.append_nil]
   have E9 := Lib.hid e9
   clear h1 e9
   go_wp2_with (first
    | ((with_reducible apply at_load); refine ⟨?_⟩; refine wl_loadA hS10 rFz pkD Tryz.underlying230 rfl (by rw [List.size_toArray, hl38]; kernel_rfl) ?_)
    | (with_reducible apply at_build1))
   refine ⟨?_⟩
   refine wl_build1 (e := 230) (sz := 36) (by' := 64) kRz hS10 rFz (cs := (slotL penc x).toArray) rfl (by rw [List.size_toArray, hl38]) dCz ?_
   intro bN wN hN
   go_wp2_with (with_reducible apply at_append)
   refine ⟨?_⟩
   refine wl_app 230 36 64 kRz hN rFz rFz pkD pick0 (by rw [List.size_toArray, hl38]) (Nat.le_refl 1) (by rw [List.toList_toArray]; exact slotL_ones penc x (penc_ones _)) hle5 (by rw [List.size_toArray, hl38]; decide) dCz (by rw [List.toList_toArray]) ?_
   intro bA nA cA wA hA
   go_wp2_with fail
   rw [← E9.out] at hA
   go_roundg (t.slots.length - (i + 1))
   case measure => have := Hlt.out; omega
   case rel => exact ⟨i + 1, rfl, Hlt.out, by first | rfl | go_num, hA.sb⟩
end
end Go.Proofs.YtlinnpehkfbnkaaGreatDoor
namespace Go
open Go.Sl
variable {P : Program} {ops : Array Oper} {Q : Exit → Act → World → Prop} {K : Act → World → Prop} {l : Option Nat} {n : Nat}
abbrev rf (l : Option Nat) : Fence := { Fence.wide with round := l }
abbrev calm (K : Act → World → Prop) : Exit → Act → World → Prop := Exit.then K fun _ _ _ => False
theorem calm_out : ¬ LetsOut (calm K) := fun ⟨_, _, h⟩ => h
theorem rowsIn_rf {row : String} {args : Array Value} {w : World} {R : Value → World → Prop} (h : Rows P row args w R) : RowsIn (rf l) n P row args w R := fun c cs _ => by
 obtain ⟨v, w', r, s⟩ := h c cs
 exact ⟨v, w', r, stepsIn_wide.2 s⟩
theorem op_in {o : Oper} {a : Act} {w : World} {N N' : Act → World → Prop} (ho : ∀ c, o.op ≠ .defer c) (hN : ∀ a w, N a w → N' a w) (h : o.wp P a w N (calm K)) : o.wpIn (rf l) n P a w N' Q := by
 refine ⟨fun _ _ => trivial, ?_⟩
 rw [Oper.semAt_eq _ _ _ ho]
 unfold Oper.wp at h
 generalize (execOp a.eval o).run P w = r at h ⊢
 cases r with
 | ok x w' =>
  cases x with
  | value v => exact hN _ _ h
  | skip => exact hN _ _ h
  | defer d => exact hN _ _ h
  | enter f args =>
   refine ⟨(fun hd => by cases hd), ?_⟩
   refine CallsIn.mono (callsIn_wide.2 h) fun e w'' he => ?_
   cases e with
   | returned v => exact hN _ _ he
   | panicked c => exact False.elim he
   | outgrown => exact (calm_out he).elim
  | row row args => exact ⟨(fun hd => by cases hd), (rowsIn_rf h).mono fun v w'' he => hN _ _ he⟩
  | round l' f tmps assign body => exact h.elim
  | _ => exact h.elim
 | halt x w' =>
  cases x with
  | panic v => exact False.elim h
  | _ => exact h.elim
theorem list_in {rest2 : List Oper} (hK : ∀ a w, K a w → wpListIn (rf l) n P ops Q rest2 a w) : ∀ (rest : List Oper) (a : Act) (w : World), (∀ o ∈ rest, ∀ c, o.op ≠ .defer c) → wpList P ops (calm K) rest a w → wpListIn (rf l) n P ops Q (rest ++ rest2) a w
 | [], a, w, _, h => hK _ _ h
 | o :: rest, a, w, hd, h => by
  have ih := list_in (rest2 := rest2) hK rest
  show if Region.wanted o (yielded ops a.tmps) = true then o.wpIn (rf l) n P a w (wpListIn (rf l) n P ops Q (rest ++ rest2)) Q else (∀ f, o.about P w a.eval = some f → (rf l).fn f) ∧ wpListIn (rf l) n P ops Q (rest ++ rest2) (a.put o.dst undef) w
  have h' : if Region.wanted o (yielded ops a.tmps) = true then o.wp P a w (wpList P ops (calm K) rest) (calm K) ∨ (o.asks P a w ∧ LetsOut (calm K)) else wpList P ops (calm K) rest (a.put o.dst undef) w := h
  split at h'
  ·rename_i hw
   rw [if_pos hw]
   rcases h' with h' | h'
   ·exact op_in (hd o (.head _)) (fun a w h => ih a w (fun o ho => hd o (.tail _ ho)) h) h'
   ·exact (calm_out h'.2).elim
  ·rename_i hw
   rw [if_neg hw]
   exact ⟨fun _ _ => trivial, ih _ _ (fun o ho => hd o (.tail _ ho)) h'⟩
abbrev noDefer (ops : Array Oper) : Bool := ops.toList.all fun o => match o.op with | .defer _ => false | _ => true
theorem noDefer_of (hd : noDefer ops = true) : ∀ o ∈ ops.toList, ∀ c, o.op ≠ .defer c := fun o ho c e => by
 have := (List.all_eq_true.1 hd) o ho
 rw [e] at this; cases this
theorem list_in' {rest : List Oper} {a : Act} {w : World} (hd : ∀ o ∈ rest, ∀ c, o.op ≠ .defer c) (h : wpList P ops (calm (Q .normal)) rest a w) : wpListIn (rf l) n P ops Q rest a w := by
 have := list_in (l := l) (n := n) (rest2 := []) (Q := Q) (fun _ _ h => h) rest a w hd h
 rw [List.append_nil] at this
 exact this
theorem region_in {id : Nat} {a : Act} {w : World} (hd : noDefer ops = true) (h : wpList P ops (calm (Q .normal)) ops.toList a w) : (Code.region id ops false).wpIn (rf l) n P Q a w :=
 wpIn_region_list (list_in' (noDefer_of hd) h)
theorem any_in (hd : ∀ o ∈ ops.toList, ∀ c, o.op ≠ .defer c) : ∀ (k : Nat) (ls : Array Bool) (a : Act) (w : World), wpAny P .any ops (calm (Q .normal)) k ls a w → wpAnyIn (rf l) n P .any ops Q k ls a w
 | 0, _, _, _, h => h
 | k + 1, ls, a, w, h => by
  refine ⟨h.1, fun i hi => ?_⟩
  have h' := h.2 i hi
  unfold wpOp at h'
  unfold wpOpIn
  split at h'
  ·rename_i he; simp only [he]; exact any_in hd k _ _ _ h'
  ·rename_i o he
   simp only [he]
   split at h'
   ·rename_i hw
    rw [if_pos hw]
    rcases h' with h' | h'
    ·refine op_in (hd o ?_) (fun a w h => any_in hd k _ a w h) h'
     rw [← Array.getElem?_toList] at he
     exact List.mem_of_getElem? he
    ·exact (calm_out h'.2).elim
   ·rename_i hw
    rw [if_neg hw]
    exact ⟨fun _ _ => trivial, any_in hd k _ _ _ h'⟩
theorem region_in_any {id : Nat} {a : Act} {w : World} (late : List Nat) (G : World → Prop) (hd : noDefer ops = true) (hm : P.follows .mixedOrders = true)
  (h : wpL P ops (calm (Q .normal)) late G ops.size (Array.replicate ops.size false) a w.drew) : (Code.region id ops true).wpIn (rf l) n P Q a w :=
 wpIn_region_any hm (any_in (noDefer_of hd) _ _ _ _ (wpAny_of_L _ _ _ _ h))
theorem region_in_lit {id : Nat} {rest : List Oper} {a : Act} {w : World} (hd : noDefer rest.toArray = true) (h : ∀ K : Act → World → Prop, (∀ a w, Q .normal a w → K a w) → wpList P rest.toArray (Exit.then K fun _ _ _ => False) rest a w) : (Code.region id rest.toArray false).wpIn (rf l) n P Q a w :=
 region_in hd (by simpa using h _ fun _ _ h => h)
theorem region_in_anyK {id : Nat} {a : Act} {w : World} (late : List Nat) (G : World → Prop) (hd : noDefer ops = true) (hm : P.follows .mixedOrders = true)
  (h : ∀ K : Act → World → Prop, (∀ a w, Q .normal a w → K a w) → wpL P ops (Exit.then K fun _ _ _ => False) late G ops.size (Array.replicate ops.size false) a w.drew) : (Code.region id ops true).wpIn (rf l) n P Q a w :=
 region_in_any late G hd hm (h _ fun _ _ h => h)
theorem region_yield {id : Nat} {a : Act} {w : World} (pre : List Oper) (o : Oper) (post : List Oper) (he : ops.toList = pre ++ o :: post) (hd : noDefer ops = true)
  (h : wpList P ops (calm fun a w => Region.wanted o (yielded ops a.tmps) = true ∧ ∃ (l' : Nat) (f : FuncId) (tmps : Array Value) (assign body : Code), (execOp a.eval o).run P w = .ok (.round l' f tmps assign body) w ∧
   RoundIn Fence.wide 0 P l' f tmps assign body w (fun e w' => ∃ v, e = .returned v ∧ wpList P ops (calm (Q .normal)) post (a.put o.dst v) w')) pre a w) :
  (Code.region id ops false).wp P Q a w := by
 refine wpIn_wide (n := 0).1 (wpIn_region_list ?_)
 have hd' := noDefer_of hd
 rw [he] at hd' ⊢
 refine list_in (l := none) (n := 0) (K := _) (fun a w hk => ?_) pre a w (fun o ho => hd' o (List.mem_append_left _ ho)) h
 obtain ⟨hw, l', f, tmps, assign, body, hx, hF, hc⟩ := hk
 show if Region.wanted o (yielded ops a.tmps) = true then o.wpIn (rf none) 0 P a w (wpListIn (rf none) 0 P ops Q post) Q else _
 rw [if_pos hw]
 refine ⟨fun _ _ => trivial, ?_⟩
 rw [Oper.semAt_eq _ _ _ (hd' o (by simp)), hx]
 refine ⟨(fun hd => by cases hd), hF, fun c cs hro => ?_⟩
 obtain ⟨e, w', ⟨v, rfl, hv⟩, hs⟩ := hc c cs hro
 exact ⟨.returned v, w', list_in' (l := none) (n := 0) (fun o ho => hd' o (List.mem_append_right _ (.tail _ ho))) hv, hs⟩
theorem region_yield6 {a : Act} {w : World} {id : Nat} {o0 o1 o2 o3 o4 o o6 : Oper} {c : Code} (hd : noDefer #[o0, o1, o2, o3, o4, o, o6] = true)
  (h : ∀ K : Act → World → Prop, (∀ a w, c.wp P Q a w → K a w) → wpList P #[o0, o1, o2, o3, o4, o, o6] (calm fun a w => Region.wanted o (yielded #[o0, o1, o2, o3, o4, o, o6] a.tmps) = true ∧ ∃ (l' : Nat) (f : FuncId) (tmps : Array Value) (assign body : Code), (execOp a.eval o).run P w = .ok (.round l' f tmps assign body) w ∧
   RoundIn Fence.wide 0 P l' f tmps assign body w (fun e w' => ∃ v, e = .returned v ∧ wpList P #[o0, o1, o2, o3, o4, o, o6] (Exit.then K fun _ _ _ => False) [o6] (a.put o.dst v) w')) [o0, o1, o2, o3, o4] a w) :
  (Code.seq (Code.region id #[o0, o1, o2, o3, o4, o, o6] false) c).wp P Q a w :=
 wp_seq (region_yield [o0, o1, o2, o3, o4] o [o6] rfl hd (h _ fun _ _ h => h))
end Go
namespace Go
open Go.Sl Go.RowKit
section
variable {P : Program} {w0 w : World} {F R L : List HProp} {b : Nat} {o o' : Obj} {kv : List (Array Value)} {A A' : List HProp}
theorem Sl.Sat.putObj (o' : Obj) (h : Sat w0 w (pt b o :: R)) : Sat w0 (w.putObj b o') (pt b o' :: R) :=
 h.turn rfl rfl rfl (by rw [World.putObj_size]; exact Nat.le_refl _) (World.putObj_heap_same h.lt) fun i hi _ => World.putObj_heap_other hi
theorem Sl.Sat.appc (h : Sat w0 w (L ++ R)) : Sat w0 w (R ++ L) := h.perm List.perm_append_comm
def Iter (P : Program) (gf : Nat) (lb : Array Value) (kv : List (Array Value)) (w0 : World) (A A' : List HProp) : Prop :=
 ∀ (l : Nat) (R : List (Array Value) → List HProp),
  (∀ pre x post W U, kv = pre ++ x :: post → Sat w0 W (R pre ++ U) → ∃ f tmps assign body, (Instr.yield l x).run P W = .ok (.round l f tmps assign body) W ∧
   RoundIn Fence.wide 0 P l f tmps assign body W (fun e W' => e = .returned (.bool true) ∧ Sat w0 W' (R (pre ++ [x]) ++ U))) →
  ∀ W, Sat w0 W (A ++ R []) → Calls P gf (#[.func (.yield l) #[] #[]] ++ lb) W (Rtn fun v W' => Sat w0 W' (A' ++ R kv))
theorem wp_rangeFunc_sat {g : Operand} {ps : Array Tmp} {assign body : Code} {Q : Exit → Act → World → Prop} {a : Act} {gf : Nat} {lb : Array Value}
  (hg : a.eval g = .func (.func gf) #[] lb) (eg : ∀ args w, (callFunc gf args).run P w = .ok (.enter gf args) w)
  (hit : Iter P gf lb kv w0 A A') (hps : ∀ x ∈ kv, x.size = ps.size) (R : List (Array Value) → List HProp) (h : Sat w0 w (A ++ R []))
  (hround : ∀ (l : Nat) (pre : List (Array Value)) (x : Array Value) (post : List (Array Value)) (U : List HProp) (W : World), kv = pre ++ x :: post → Sat w0 W (R pre ++ U) →
   ∀ T, T = (ps.zip x).foldl (fun t (p, v) => t.setIfInBounds p v) a.tmps → assign.wpIn (rf (some l)) 0 P (Exit.then (fun a₁ w₁ => ∃ M : List HProp, Sat w0 w₁ (M ++ U) ∧ ∀ U' w₂, Sat w0 w₂ (M ++ U') → body.wpIn (rf (some l)) 0 P (fun e _ w₃ => e = .normal ∧ Sat w0 w₃ (R (pre ++ [x]) ++ U')) a₁ w₂) (fun _ _ _ => False))
    { tmps := T, defers := [] } W)
  (hdone : ∀ D w', Sat w0 w' (A' ++ (R kv ++ [pt D (.deferred (some []))])) → Q .normal { a with defers := { target := .collected D, args := #[] } :: a.defers } w') :
  (Code.rangeFunc g ps assign body).wp P Q a w := by
 refine (wpIn_wide (n := 0)).1 (wpIn_rangeFunc ?_)
 intro fn hfn
 obtain ⟨rec, hrec⟩ : ∃ rec : LoopState → Option Code → Loop, rec = fun st pe => { state := st, pending := pe, fn, tmps := a.tmps, params := ps, assign, body, defers := w.heap.size } := ⟨_, rfl⟩
 obtain ⟨D, hD⟩ : ∃ D, D = w.heap.size := ⟨_, rfl⟩
 obtain ⟨l, hl⟩ : ∃ l, l = D + 1 := ⟨_, rfl⟩
 obtain ⟨W1, hW1⟩ : ∃ W1, W1 = (w.alloc (.deferred (some []))).alloc (.loop (rec .ready none)) := ⟨_, rfl⟩
 have hS1 : Sat w0 W1 (pt l (.loop (rec .ready none)) :: pt D (.deferred (some [])) :: (A ++ R [])) := by
  have := (h.alloc (.deferred (some []))).alloc (.loop (rec .ready none))
  rw [World.size_alloc, ← hW1, ← hD, ← hl] at this
  exact this
 refine ⟨l, [{ target := .collected D, args := #[] }], W1, { target := .fn (.func gf) lb, args := #[.func (.yield l) #[] #[]] }, W1, gf, #[.func (.yield l) #[] #[]] ++ lb, W1, ?_, ?_, ?_, ?_, (fun h => by cases h), ?_⟩
 ·rw [hW1, hl, hD, hrec]; exact run_enterLoop_outer _ _ _ _ _
 ·simp only [resolve, hg]
  simp [go_sem]
 ·intro f' _; trivial
 ·simp [invoke, go_sem, eg]
 ·refine callsIn_wide.2 ((hit l (fun pre => R pre ++ [pt l (.loop (rec .ready none)), pt D (.deferred (some []))]) ?_ W1 ?_).mono ?_)
  ·intro pre x post W U hkv hS
   have hS' : Sat w0 W (pt l (.loop (rec .ready none)) :: (R pre ++ (pt D (.deferred (some [])) :: U))) := by
    rw [List.append_assoc] at hS
    exact hS.perm List.perm_middle
   have hat := hS'.at
   have hy := run_yield (P := P) (args := x) hat (by rw [hrec]; exact hps x (by rw [hkv]; simp))
   refine ⟨_, _, _, _, hy, roundIn_of_wpIn trivial ?_⟩
   have hr := hround l pre x post (pt D (.deferred (some [])) :: U ++ [pt l (.loop (rec .ready none))]) W hkv (hS'.perm (by
    rw [← List.cons_append, ← List.append_assoc]
    exact (List.perm_append_comm (l₁ := [pt l (.loop (rec .ready none))]) (l₂ := R pre ++ (pt D (.deferred (some [])) :: U))))) _ rfl
   have e1 : ((rec .ready none).params.zip x).foldl (fun tmps (t, a) => tmps.setIfInBounds t a) (rec .ready none).tmps = (ps.zip x).foldl (fun t (p, v) => t.setIfInBounds p v) a.tmps := by rw [hrec]
   rw [e1]
   have e2 : (rec .ready none).assign = assign := by rw [hrec]
   have e3 : (rec .ready none).body = body := by rw [hrec]
   rw [e2, e3]
   refine wpIn_mono hr ?_
   intro e a1 w1 he
   cases e with
   | normal =>
    obtain ⟨M, hM, hb⟩ := he
    have hM' : Sat w0 w1 (pt l (.loop (rec .ready none)) :: (M ++ (pt D (.deferred (some [])) :: U))) := hM.perm (by
     rw [← List.append_assoc]
     exact List.perm_append_comm (l₁ := M ++ (pt D (.deferred (some [])) :: U)) (l₂ := [pt l (.loop (rec .ready none))]))
    have hM2 := hM'.putObj (.loop { rec .ready none with state := .busy })
    refine ⟨_, run_beginRound hM'.at (by rw [hrec]), ?_⟩
    refine wpIn_mono (hb (pt D (.deferred (some [])) :: U ++ [pt l (.loop { rec .ready none with state := .busy })]) _ (hM2.perm (by
     rw [← List.cons_append, ← List.append_assoc]
     exact (List.perm_append_comm (l₁ := [pt l (.loop { rec .ready none with state := .busy })]) (l₂ := M ++ (pt D (.deferred (some [])) :: U)))))) ?_
    rintro e2 a2 w2 ⟨rfl, hS2⟩
    have hS3 : Sat w0 w2 (pt l (.loop { rec .ready none with state := .busy }) :: (R (pre ++ [x]) ++ (pt D (.deferred (some [])) :: U))) := hS2.perm (by
     rw [← List.append_assoc]
     exact List.perm_append_comm (l₁ := R (pre ++ [x]) ++ (pt D (.deferred (some [])) :: U)) (l₂ := [pt l (.loop { rec .ready none with state := .busy })]))
    refine ⟨_, _, run_endRound none hS3.at, rfl, ?_⟩
    have hS4 := hS3.putObj (.loop (rec .ready none))
    have e4 : (Obj.loop { { rec .ready none with state := .busy } with state := if (none : Option Code).isNone then .ready else .done, pending := none }) = .loop (rec .ready none) := by rw [hrec]; rfl
    rw [e4]
    refine hS4.perm ?_
    rw [List.append_assoc]
    exact List.perm_middle.symm
   | exit id => exact he.elim
   | goto t => exact he.elim
   | ret => exact he.elim
   | panic c => exact he.elim
   | outgrown => exact he.elim
  ·refine hS1.perm ?_
   rw [← List.append_assoc]
   exact (List.perm_append_comm (l₁ := [pt l (.loop (rec .ready none)), pt D (.deferred (some []))]) (l₂ := A ++ R []))
  ·rintro e W2 ⟨v, rfl, hS⟩
   have hS' : Sat w0 W2 (pt l (.loop (rec .ready none)) :: (A' ++ (R kv ++ [pt D (.deferred (some []))]))) := hS.perm (by
    rw [← List.append_assoc, ← List.append_assoc]
    exact List.perm_middle)
   refine ⟨none, _, by have := run_endLoop (P := P) hS'.at (by rw [hrec]; simp); rw [show (rec .ready none).pending = none by rw [hrec]] at this; exact this, ?_⟩
   exact hdone D _ (hS'.putObj _).drop
theorem leaves_mark {fn : Func} {tmps : Array Value} {K : Ending → World → Prop} {D : Nat} {v : Value} (h : Sat w0 w (pt D (.deferred (some [])) :: F)) (hv : ∀ w, (results fn tmps).run P w = .ok v w) (hK : ∀ w', Sat w0 w' F → K (.returned v) w') :
  LeavesInM Fence.wide 0 P fn tmps K [{ target := .collected D, args := #[] }] .returning w :=
 ⟨by simp, .inl ⟨_, _, rfl, run_takeDeferred h.at, ⟨_, hv _, hK _ ((h.putObj (.deferred none)).drop)⟩⟩⟩
def endsM (P : Program) (fn : Func) (K : Ending → World → Prop) : Exit → Act → World → Prop
 | .normal, a, w | .ret, a, w => LeavesInM Fence.wide 0 P fn a.tmps K a.defers .returning w
 | _, _, _ => False
theorem calls_of_wp_marks {f : FuncId} {fn : Func} {c : Code} {args : Array Value} {K : Ending → World → Prop} (hf : P.funcs[f]? = some fn) (hb : fn.body = some c)
  (h : c.wp P (endsM P fn K) { tmps := args ++ Array.replicate (fn.ntmps - args.size) undef, defers := [] } w) : Calls P f args w K :=
 (callsIn_wide (n := 0)).1 (callsIn_of_wp_marks hf hb trivial (wpIn_wide.2 (wp_mono h fun e a w he => by
  cases e with
  | normal => exact he
  | ret => exact he
  | _ => exact he.elim)) rfl)
theorem endsM_end {fn : Func} {a : Act} {K : Ending → World → Prop} {D : Nat} {v : Value} (ha : a.defers = [{ target := .collected D, args := #[] }]) (h : Sat w0 w (pt D (.deferred (some [])) :: F)) (hv : ∀ w, (results fn a.tmps).run P w = .ok v w)
  (hK : ∀ w', Sat w0 w' F → K (.returned v) w') : endsM P fn K .normal a w := by
 show LeavesInM Fence.wide 0 P fn a.tmps K a.defers .returning w
 rw [ha]
 exact leaves_mark h hv hK
end
end Go
namespace Go.Proofs.YtlinnpehkfbnkaaGreatDoor
open Go Go.Sl Go.Med Go.MapKept Go.RowKit
def abL (x : Frm.Bs × Seg.Plc) : Array Value := #[.agg (bys x.1).toArray, .agg (penc x.2).toArray]
section
variable {w0 w : World} {F : List HProp} {p B : Nat} {m : Frm.Bs → Option (Seg.Plc)}
theorem allL_c (h : Sat w0 w F) : Calls Tryz.prog 126 #[ptr p] w
  (Rtn fun v w' => ∃ b, v = .func (.func 181) #[] #[ptr b] ∧ Sat w0 w' (pt b (.cells #[ptr p] 48 (0,0)) :: F)) := by
 go_enter Tryz.func126, Tryz.ntmps126
 go_wp2_with (first | ((with_reducible apply at_box); refine ⟨?_⟩; refine wl_box (by assumption) evD evD ?_; intro bB wB hB) | (with_reducible apply at_alloc))
 go_ret
 exact ⟨_, rfl, bB, rfl, hB⟩
set_option maxRecDepth 20000 in
theorem allL1_c {b : Nat} {l : List (Frm.Bs × Seg.Plc)} (hB : B ≤ 13000000) (hl : Tab.Lists m l) :
  Iter Tryz.prog 181 #[ptr b] (l.map abL) w0 [TabML p m B, pt b (.cells #[ptr p] 48 (0,0))] [TabML p m B, pt b (.cells #[ptr p] 48 (0,0))] := by
 intro ly R hY W hW
 have Hl := Lib.hid hl
 have hW0 : Sat w0 W (TabML p m B :: pt b (.cells #[ptr p] 48 (0,0)) :: R []) := hW
 clear hW hl
 show Calls Tryz.prog 181 #[.func (.yield ly) #[] #[], ptr b] W _
 go_enter Tryz.func181, Tryz.ntmps181
 have hr := risingL_c hB hW0
 go_wp2_with ((with_reducible apply at_load); refine ⟨?_⟩; refine wl_load1 hW0 rFz pkD nLz evD kRz ?_)
 clear hW0
 refine hr.mono ?_
 rintro ee w1 ⟨sv, rfl, s, ⟨hs1, hs2, hs3⟩, hS1⟩
 clear hr
 have e0 : l = s.map fun x => (x.key, x.val) := Hl.out.unique hs1
 clear hs1 Hl
 subst e0
 have Hs2 := Lib.hid hs2; have Hs3 := Lib.hid hs3
 have Hlen := Lib.hid (show ∀ x ∈ s, (slotL penc x).length = 36 from fun x hx => slotL_len penc x (hs2 x hx).2 3 (penc_len _))
 obtain ⟨la, lc, rfl⟩ := osl_rows Hlen.out (Sat.rd hS1) dCz
 have hsb : s.length ≤ 13000000 := Nat.le_trans hs3 hB
 clear hs2 hs3 hB
 go_wp2_with fail
 go_loopg [8] s.length (fun g iq wr => ∃ (i : Nat), g = s.length - i ∧ i ≤ s.length ∧ iq = .int .i64 i ∧
  Sat w0 wr (osl 230 36 (.slice la s.length lc) (s.flatMap (slotL penc)) :: TabML p m B :: pt b (.cells #[ptr p] 48 (0,0)) :: R (((s.take i).map fun x => (x.key, x.val)).map abL)))
 case atStart => exact ⟨0, rfl, Nat.zero_le _, rfl, hS1⟩
 case round =>
  obtain ⟨i, rfl, hi, rfl, hS⟩ := hrel
  clear hS1
  by_cases hlt : i < s.length
  rotate_left
  ·obtain rfl : i = s.length := by omega
   have c1 : ¬ (s.length : Int) < (s.length : Int) := by omega
   rw [List.take_length] at hS
   clear hlt hi
   go_wp2_with fail
   go_end0
   exact ⟨_, rfl, by rw [← List.map_map]; exact hS.drop⟩
  have c1 : (i : Int) < (s.length : Int) := by omega
  have hwi : IntKind.i64.wrap ((i : Int) + 1) = (i : Int) + 1 := IntWalk.i64_in _ (by omega)
  obtain ⟨x, hx⟩ : ∃ x, s[i]? = some x := ⟨_, List.getElem?_eq_getElem hlt⟩
  have hxm := List.mem_of_getElem? hx
  have Hxk := Lib.hid (Hs2.out x hxm).2
  obtain ⟨bk, off, c', hsv, hcell⟩ := osl_row Hlen.out (Sat.rd (hS.pick pick0)) hx dCz
  cases hsv
  have hl36 := Hlen.out x hxm
  have Htk := Lib.hid (show s.take (i + 1) = s.take i ++ [x] by rw [List.take_add_one, hx, Option.toList_some])
  have Hlt := Lib.hid hlt
  have Hspl := Lib.hid (show (s.map fun x => (x.key, x.val)).map abL = ((s.take i).map fun x => (x.key, x.val)).map abL ++ abL (x.key, x.val) :: ((s.drop (i + 1)).map fun x => (x.key, x.val)).map abL by
   have e : s = s.take i ++ x :: s.drop (i + 1) := by
    obtain ⟨h1, rfl⟩ := List.getElem?_eq_some_iff.1 hx
    rw [← List.drop_eq_getElem_cons h1, List.take_append_drop]
   conv => lhs; rw [e]
   simp only [List.map_append, List.map_cons])
  clear hx hxm hlt hi
  go_wp2_with (first
   | ((with_reducible apply at_load); refine ⟨?_⟩; refine wl_loadW (b := bk) (o := off + i * 36) (slotL penc x) rFz hcell Tryz.underlying230 rfl (by rw [hl36]; kernel_rfl) ?_)
   | (with_reducible apply at_alloc))
  refine ⟨?_⟩
  refine wl_alloc zSlotL hS rfl ?_
  intro b7 w7 hS7
  go_wp2_with ((with_reducible apply at_store))
  refine ⟨?_⟩
  refine wl_storeA (slotL penc x).toArray hS7 rFz rFz (by rw [List.size_toArray, hl36]; rfl) upd0 (by rw [List.size_toArray, hl36]; kernel_rfl) (by rw [List.toList_toArray]; exact slotL_ones penc x (penc_ones _)) ?_
  intro w10 hS10
  clear hS hS7 hcell
  have f1 : w10.rangeAt b7 1 (bys x.key) := slot_key (hS10.pick pick0)
  have f2 : w10.rangeAt b7 33 (penc x.val) := slot_val Hxk.out (hS10.pick pick0)
  have e1 := Tryz.underlying24
  have hS11 : Sat w0 w10 (R (((s.take i).map fun x => (x.key, x.val)).map abL) ++ [osl 230 36 (.slice (some ⟨bk, off, none⟩) s.length lc) (s.flatMap (slotL penc)), TabML p m B, pt b (.cells #[ptr p] 48 (0,0))]) :=
   (hS10.drop : Sat w0 w10 ([osl 230 36 (.slice (some ⟨bk, off, none⟩) s.length lc) (s.flatMap (slotL penc)), TabML p m B, pt b (.cells #[ptr p] 48 (0,0))] ++ R (((s.take i).map fun x => (x.key, x.val)).map abL))).appc
  obtain ⟨yf, yt, ya, yb, hy, hr⟩ := hY _ _ _ w10 _ Hspl.out hS11
  clear hS11 hS10 hY
  go_step
  go_step
  go_step
  refine region_yield6 rFz ?_
  intro K hK
  go_wp2_with (first
   | ((with_reducible apply at_load); refine ⟨?_⟩; refine wl_loadW (b := b7) (o := 1) (bys x.key) rFz f1 e1 rfl (by rw [bys_len, Hxk.out]; kernel_rfl) ?_)
   | ((with_reducible apply at_load); refine ⟨?_⟩; refine wl_loadW (b := b7) (o := 33) (penc x.val) rFz f2 Tryz.underlying54 rfl kRz ?_))
  refine ⟨_, yf, yt, ya, yb, hy, hr.mono ?_⟩
  rintro ee w12 ⟨rfl, hS12⟩
  refine ⟨_, rfl, ?_⟩
  have hS13 : Sat w0 w12 (osl 230 36 (.slice (some ⟨bk, off, none⟩) s.length lc) (s.flatMap (slotL penc)) :: TabML p m B :: pt b (.cells #[ptr p] 48 (0,0)) :: R (((s.take (i + 1)).map fun x => (x.key, x.val)).map abL)) := by
   have := hS12.appc
   rw [Htk.out, List.map_append, List.map_append]
   exact this
  clear hS12 hr hy f1 f2
  go_wp2_with fail
  go_roundg (s.length - (i + 1))
  case measure => have := Hlt.out; omega
  case rel => exact ⟨i + 1, rfl, Hlt.out, by first | rfl | go_num, hS13⟩
end
def msl (T sz : Nat) (v : Value) (xs : List Value) : HProp := fun h =>
 ∃ b n cap cs m, v = .slice (some ⟨b, 0, none⟩) n cap ∧ xs.length = n * sz ∧ n ≤ cap ∧ cap * sz ≤ cs.size ∧ cap ≤ maxLen ∧ cs.toList.take (n * sz) = xs ∧ cs.size ≤ m ∧ pt b (.cells cs T (m, m + 1)) h
def asl (T sz : Nat) (v : Value) (xs : List Value) : HProp := fun h => osl T sz v xs h ∨ msl T sz v xs h
abbrev abl (v : Value) (l : Frm.Bs) : HProp := asl 5 1 v (bys l)
section
variable {P : Program} {w0 w : World} {R : List HProp} {T sz b : Nat} {v x : Value} {xs ys : List Value} {fr : Nat × Nat}
theorem cellAtF {cs : Array Value} {T : TypeId} (h : Sat w0 w (pt b (.cells cs T fr) :: R)) (i : Nat) (v : Value) (hv : cs[i]? = some v) : w.cell? ⟨b, i, none⟩ = some v := by
 have := h.at
 simp [World.cell?, this, hv]
theorem freeAtM {cs : Array Value} {T : TypeId} {m : Nat} (h : Sat w0 w (pt b (.cells cs T (m, m + 1)) :: R)) (i : Nat) (hi : i < m) : w.frozen? ⟨b, i, none⟩ = false := by
 have := h.at
 simp [World.frozen?, this]
 omega
theorem setF {cs : Array Value} {T : TypeId} (h : Sat w0 w (pt b (.cells cs T fr) :: R)) (i : Nat) (v : Value) : Sat w0 (w.setCell ⟨b, i, none⟩ v) (pt b (.cells (cs.setIfInBounds i v) T fr) :: R) := by
 have hb := h.at
 have hlt := h.lt
 refine h.turn rfl rfl rfl (by simp) ?_ ?_
 ·simp only [World.setCell, Array.getElem?_modify, if_true, hb]
  simp
 ·intro j hj _
  simp only [World.setCell, Array.getElem?_modify]
  rw [if_neg (Ne.symm hj)]
theorem setsF : ∀ (vs : List Value) {cs : Array Value} {T : TypeId} {w : World} (o : Nat), Sat w0 w (pt b (.cells cs T fr) :: R) → Sat w0 (w.setCells b o vs) (pt b (.cells (putsAt cs o vs) T fr) :: R)
 | [], _, _, _, _, h => h
 | v :: r, _, _, _, o, h => setsF r (o + 1) (setF h o v)
theorem asl_cases (h : Sat w0 w (asl T sz v xs :: R)) : Sat w0 w (osl T sz v xs :: R) ∨ ∃ b n cap cs m, v = .slice (some ⟨b, 0, none⟩) n cap ∧ xs.length = n * sz ∧ n ≤ cap ∧ cap * sz ≤ cs.size ∧ cap ≤ maxLen ∧ cs.toList.take (n * sz) = xs ∧ cs.size ≤ m ∧ Sat w0 w (pt b (.cells cs T (m, m + 1)) :: R) := by
 obtain ⟨ha, x, hx, p, q, d, rfl, hp, hq⟩ := h
 rcases hp with hp | ⟨b, n, cap, cs, m, h1, h2, h3, h4, h5, h6, h7, h8⟩
 ·exact .inl ⟨ha, _, hx, p, q, d, rfl, hp, hq⟩
 ·exact .inr ⟨b, n, cap, cs, m, h1, h2, h3, h4, h5, h6, h7, ha, _, hx, p, q, d, rfl, h8, hq⟩
theorem asl_of_osl (h : Sat w0 w (osl T sz v xs :: R)) : Sat w0 w (asl T sz v xs :: R) := h.head fun _ hx => .inl hx
theorem asl_of_pt {n cap m : Nat} {cs : Array Value} (h : Sat w0 w (pt b (.cells cs T (m, m + 1)) :: R)) (h2 : xs.length = n * sz) (h3 : n ≤ cap) (h4 : cap * sz ≤ cs.size) (h5 : cap ≤ maxLen) (h6 : cs.toList.take (n * sz) = xs) (h7 : cs.size ≤ m) : Sat w0 w (asl T sz (.slice (some ⟨b, 0, none⟩) n cap) xs :: R) :=
 h.head fun _ hx => .inr ⟨b, n, cap, cs, m, rfl, h2, h3, h4, h5, h6, h7, hx⟩
theorem asl_rd (h : Sat w0 w (asl T sz v xs :: R)) : rdsl sz v xs w := by
 rcases asl_cases h with h | ⟨b, n, cap, cs, m, rfl, hl, hn, hc, hcm, htk, hm, hp⟩
 ·exact Sat.rd h
 ·exact ⟨_, n, cap, rfl, hl, fun j y hj => ⟨_, rfl, by rw [add_zero_lit]; exact cellAtF hp j y (take_get htk hj)⟩⟩
theorem asl_text (h : Sat w0 w R) (e : TypeId) (s : ByteArray) (l : Frm.Bs) (hs : s.data.toList = l) (hl : l.length ≤ 1073741824) : Sat w0 (Lib.bytesWorld w e s) (asl e 1 (.slice (some ⟨w.heap.size, 0, none⟩) s.size (grownCap w s.size 0 e)) (bys l) :: R) := by
 have h1 := (h.drew).alloc (.cells (Lib.bytesCells w e s) e)
 have hsz : s.size = l.length := by rw [← hs]; exact Array.length_toList.symm
 have hge := grownCap_ge w s.size 0 e
 have hcm := grownCap_le_maxLen w s.size 0 e (by have : maxLen = 9223372036854775807 := rfl; omega)
 have hcs : (Lib.bytesCells w e s).size = grownCap w s.size 0 e := by
  unfold Lib.bytesCells
  rw [Array.size_append, Array.size_map, Array.size_replicate]
  have : s.data.size = s.size := rfl
  omega
 have h2 : Sat w0 (Lib.bytesWorld w e s) (pt w.heap.size (.cells (Lib.bytesCells w e s) e ((Lib.bytesCells w e s).size, (Lib.bytesCells w e s).size + 1)) :: R) := by
  refine h1.turn (w' := Lib.bytesWorld w e s) rfl rfl rfl ?_ (Lib.bytesWorld_at_new w e s) (fun j hj _ => ?_)
  ·rw [Lib.bytesWorld_size]; exact Nat.le_of_eq (Array.size_push ..)
  ·unfold Lib.bytesWorld World.freeze
   rw [if_neg dCz]
   show (Array.modify _ _ _)[j]? = _
   rw [Array.getElem?_modify]
   exact if_neg (fun e => hj e.symm)
 refine asl_of_pt h2 ?_ hge (by rw [Nat.mul_one, hcs]; exact Nat.le_refl _) hcm ?_ (Nat.le_refl _)
 ·rw [bys_len, hsz, Nat.mul_one]
 ·unfold Lib.bytesCells
  rw [Array.toList_append, Nat.mul_one, List.take_append_of_le_length (by rw [Array.length_toList, Array.size_map]; exact Nat.le_refl _), List.take_of_length_le (by rw [Array.length_toList, Array.size_map]; exact Nat.le_refl _), Array.toList_map, hs]
  rfl
theorem run_appendA (t ty e : TypeId) (i : TypeInfo) (z : Value) (ht : P.underlying t = some (.slice e)) (hi : P.info? e = some i) (hz : i.zero = some z)
  (hs : i.size = sz) (hzs : z.cells.size = sz) (hsz : 0 < sz) (h1 : ∀ u ∈ ys, u.oneCell' = true) (hy0 : ys ≠ [])
  (h : Sat w0 w (asl e sz v xs :: R)) (hx : rdsl sz x ys w) (h63 : xs.length + ys.length ≤ maxLen) (hby : (xs.length + ys.length) * i.bytes ≤ 140737488355328) :
  ∃ v' w', (Builtin.append_ #[t, t] ty #[v, x]).run P w = .ok v' w' ∧ Sat w0 w' (asl e sz v' (xs ++ ys) :: R) := by
 rcases asl_cases h with h | ⟨b, n, cap, cs, mk, rfl, hl, hn, hc, hcm, htk, hmk, hp⟩
 ·obtain ⟨v', w', hr, hS, _⟩ := run_append (P := P) t ty e i z ht hi hz hs hzs hsz h1 h hx h63 hby
  exact ⟨v', w', hr, asl_of_osl hS⟩
 ·subst hs
  obtain ⟨xa, m, c, rfl, hyl, hyc⟩ := hx
  have hle : ∀ {p q : Nat}, p = q * i.size → q ≤ p := fun {p q} e => by rw [e]; exact Nat.le_mul_of_pos_right _ hsz
  have hm := hle hyl
  obtain ⟨ad, rfl⟩ : ∃ ad, xa = some ad := by
   obtain ⟨y, hy⟩ : ∃ y, ys[0]? = some y := by
    cases ys with
    | nil => exact absurd rfl hy0
    | cons y _ => exact ⟨y, rfl⟩
   obtain ⟨b, hb, _⟩ := hyc 0 y hy
   exact ⟨b, hb⟩
  have hnews : ∀ j u, ys[j]? = some u → w.cell? (ad.add j) = some u := fun j u hj => by
   obtain ⟨b, hb, hx⟩ := hyc j u hj
   cases hb; exact hx
  have hnx := hle hl
  have h63' : maxLen = 9223372036854775807 := rfl
  by_cases hroom : n + m ≤ cap
  ·have hfit : n * i.size + ys.length ≤ cs.size := by
    rw [hyl, ← Nat.add_mul]; exact Nat.le_trans (Nat.mul_le_mul_right _ hroom) hc
   have hr := run_append_room_cells (P := P) w t ty e i ht hi b 0 n cap ad m c ys hyl hnews h1 hroom
    (fun j hj => by rw [Nat.zero_add, cellAtF hp (n * i.size + j) _ (Array.getElem?_eq_getElem (show n * i.size + j < cs.size by omega))]; rfl)
    (fun j hj => by rw [Nat.zero_add]; exact freeAtM hp _ (by omega))
   rw [Nat.zero_add] at hr
   refine ⟨_, _, hr, asl_of_pt (setsF ys (n * i.size) hp) ?_ hroom (by rw [putsAt_size]; exact hc) hcm ?_ (by rw [putsAt_size]; exact hmk)⟩
   ·rw [List.length_append, hl, hyl, Nat.add_mul]
   ·rw [putsAt_list _ _ _ hfit, htk]
    have e1 : (n + m) * i.size = (xs ++ ys).length := by rw [List.length_append, hl, hyl, Nat.add_mul]
    rw [e1]
    exact List.take_left
  ·have holds : ∀ j u, xs[j]? = some u → w.cell? ((⟨b, 0, none⟩ : Addr).add j) = some u := fun j u hj => by
    rw [add_zero_lit]; exact cellAtF hp j u (take_get htk hj)
   have hby' : (n + m) * i.bytes ≤ 140737488355328 := Nat.le_trans (Nat.mul_le_mul_right _ (by omega)) hby
   have hr := run_append_grow (P := P) w t ty e i z ht hi hz ⟨b, 0, none⟩ n cap xs hl holds ad m c ys hyl hnews (by omega) (by omega) (growslice_fits (by omega) hby')
   have hge := grownCap_ge w (n + m) cap e
   have hcm' := grownCap_le_maxLen w (n + m) cap e (by omega)
   refine ⟨_, _, hr, asl_of_osl (Sat.osl_of_pt ((hp.drop.drew).alloc (.cells (xs.toArray ++ ys.toArray ++ Builtin.zeroCells z.cells (grownCap w (n + m) cap e - (n + m))) e)) ?_ hge ?_ hcm' ?_)⟩
   ·rw [List.length_append, hl, hyl, Nat.add_mul]
   ·simp only [Array.size_append, List.size_toArray, size_zeroCells, hzs]
    rw [hl, hyl, ← Nat.add_mul, ← Nat.add_mul]
    exact Nat.mul_le_mul_right _ (by omega)
   ·simp only [Array.toList_append, List.append_assoc]
    rw [← List.append_assoc]
    have e1 : (n + m) * i.size = (xs ++ ys).length := by rw [List.length_append, hl, hyl, Nat.add_mul]
    rw [e1]
    exact List.take_left
end
end Go.Proofs.YtlinnpehkfbnkaaGreatDoor
namespace Go.Xx
open Go.Frm (Bs num le num_lt)
def W : Nat := 18446744073709551616
def p1 : Nat := 11400714785074694791
def p2 : Nat := 14029467366897019727
def p3 : Nat := 1609587929392839161
def p4 : Nat := 9650029242287828579
def p5 : Nat := 2870177450012600261
def turn (x k : Nat) : Nat := (x * 2 ^ k % W) ||| (x / 2 ^ (64 - k))
def lane (a w : Nat) : Nat := turn ((a + w * p2 % W) % W) 31 * p1 % W
structure Ln where
 a : Nat
 b : Nat
 c : Nat
 d : Nat
def Ln.zero : Ln := ⟨(p1 + p2) % W, p2, 0, W - p1⟩
def Ln.lt (l : Ln) : Prop := l.a < W ∧ l.b < W ∧ l.c < W ∧ l.d < W
def strip (l : Ln) (b : Bs) : Ln := ⟨lane l.a (num (b.take 8)), lane l.b (num ((b.drop 8).take 8)), lane l.c (num ((b.drop 16).take 8)), lane l.d (num ((b.drop 24).take 8))⟩
def goL : Nat → Ln → Bs → Ln × Bs
 | 0, l, b => (l, b)
 | n + 1, l, b => if 32 ≤ b.length then goL n (strip l b) (b.drop 32) else (l, b)
def mix (x a : Nat) : Nat := ((x ^^^ lane 0 a) * p1 % W + p4) % W
def joined (l : Ln) : Nat := mix (mix (mix (mix ((((turn l.a 1 + turn l.b 7) % W + turn l.c 12) % W + turn l.d 18) % W) l.a) l.b) l.c) l.d
def t8 (x w : Nat) : Nat := (turn (x ^^^ lane 0 w) 27 * p1 % W + p4) % W
def t4 (x w : Nat) : Nat := (turn (x ^^^ (w * p1 % W)) 23 * p2 % W + p3) % W
def t1 (x : Nat) (c : UInt8) : Nat := turn (x ^^^ (c.toNat * p5 % W)) 11 * p1 % W
def tail8 : Nat → Nat → Bs → Nat × Bs
 | 0, x, b => (x, b)
 | n + 1, x, b => if 8 ≤ b.length then tail8 n (t8 x (num (b.take 8))) (b.drop 8) else (x, b)
def tail4 (x : Nat) (b : Bs) : Nat × Bs := if 4 ≤ b.length then (t4 x (num (b.take 4)), b.drop 4) else (x, b)
def tail (x : Nat) (b : Bs) : Nat := (tail4 (tail8 b.length x b).1 (tail8 b.length x b).2).2.foldl t1 (tail4 (tail8 b.length x b).1 (tail8 b.length x b).2).1
def f1 (x : Nat) : Nat := (x ^^^ (x / 8589934592)) * p2 % W
def f2 (x : Nat) : Nat := (x ^^^ (x / 536870912)) * p3 % W
def f3 (x : Nat) : Nat := x ^^^ (x / 4294967296)
def sum (b : Bs) : Nat := f3 (f2 (f1 (tail (((if 32 ≤ b.length then joined (goL b.length Ln.zero b).1 else p5) + b.length) % W) (goL b.length Ln.zero b).2)))
theorem W_pos : 0 < W := by decide
theorem mod_lt (x : Nat) : x % W < W := Nat.mod_lt _ W_pos
theorem W64 : W = 2 ^ 64 := by decide
theorem xor_lt {a b : Nat} (ha : a < W) (hb : b < W) : a ^^^ b < W := by rw [W64] at *; exact Nat.xor_lt_two_pow ha hb
theorem div_lt {x : Nat} (k : Nat) (h : x < W) : x / k < W := Nat.lt_of_le_of_lt (Nat.div_le_self _ _) h
theorem lane_lt (a w : Nat) : lane a w < W := mod_lt _
theorem zero_lt : Ln.zero.lt := ⟨mod_lt _, by decide, by decide, by decide⟩
theorem strip_lt (l : Ln) (b : Bs) : (strip l b).lt := ⟨lane_lt _ _, lane_lt _ _, lane_lt _ _, lane_lt _ _⟩
theorem goL_lt : ∀ (n : Nat) (l : Ln) (b : Bs), l.lt → (goL n l b).1.lt
 | 0, l, b, h => h
 | n + 1, l, b, h => by
  unfold goL
  split
  ·exact goL_lt n _ _ (strip_lt l b)
  ·exact h
theorem t8_lt (x w : Nat) : t8 x w < W := mod_lt _
theorem t4_lt (x w : Nat) : t4 x w < W := mod_lt _
theorem t1_lt (x : Nat) (c : UInt8) : t1 x c < W := mod_lt _
theorem tail8_lt : ∀ (n x : Nat) (b : Bs), x < W → (tail8 n x b).1 < W
 | 0, x, b, h => h
 | n + 1, x, b, h => by
  unfold tail8
  split
  ·exact tail8_lt n _ _ (t8_lt _ _)
  ·exact h
theorem tail4_lt (x : Nat) (b : Bs) (h : x < W) : (tail4 x b).1 < W := by
 unfold tail4
 split
 ·exact t4_lt _ _
 ·exact h
theorem fold_lt : ∀ (b : Bs) (x : Nat), x < W → b.foldl t1 x < W
 | [], x, h => h
 | c :: b, x, h => fold_lt b _ (t1_lt _ _)
theorem tail_lt (x : Nat) (b : Bs) (h : x < W) : tail x b < W := fold_lt _ _ (tail4_lt _ _ (tail8_lt _ _ _ h))
theorem f2_lt (x : Nat) : f2 x < W := mod_lt _
theorem f3_lt {x : Nat} (h : x < W) : f3 x < W := xor_lt h (div_lt _ h)
theorem sum_lt (b : Bs) : sum b < W := f3_lt (f2_lt _)
theorem goL_len2 : ∀ (n : Nat) (l : Ln) (b : Bs), (goL n l b).2.length ≤ b.length
 | 0, l, b => Nat.le_refl _
 | n + 1, l, b => by
  unfold goL
  split
  ·exact Nat.le_trans (goL_len2 n _ _) (by rw [List.length_drop]; omega)
  ·exact Nat.le_refl _
theorem goL_step {n : Nat} {l : Ln} {b : Bs} (hb : 32 ≤ b.length) (hn : b.length ≤ n) : goL n l b = goL (n - 32) (strip l b) (b.drop 32) := by
 obtain ⟨m, rfl⟩ : ∃ m, n = m + 1 := ⟨n - 1, by omega⟩
 have h : goL (m + 1) l b = goL m (strip l b) (b.drop 32) := by
  conv => lhs; unfold goL
  rw [if_pos hb]
 rw [h]
 exact goL_fuel m (m + 1 - 32) (strip l b) (b.drop 32) (by rw [List.length_drop]; omega) (by rw [List.length_drop]; omega)
where
 goL_fuel : ∀ (n m : Nat) (l : Ln) (b : Bs), b.length ≤ n → b.length ≤ m → goL n l b = goL m l b
 | 0, 0, l, b, _, _ => rfl
 | 0, m + 1, l, b, h, _ => by
  have : ¬ 32 ≤ b.length := by omega
  unfold goL; rw [if_neg this]
 | n + 1, 0, l, b, _, h => by
  have : ¬ 32 ≤ b.length := by omega
  unfold goL; rw [if_neg this]
 | n + 1, m + 1, l, b, h1, h2 => by
  unfold goL
  split
  ·exact goL_fuel n m _ _ (by rw [List.length_drop]; omega) (by rw [List.length_drop]; omega)
  ·rfl
theorem goL_stop {n : Nat} {l : Ln} {b : Bs} (hb : ¬ 32 ≤ b.length) : goL n l b = (l, b) := by
 cases n with
 | zero => rfl
 | succ n => unfold goL; rw [if_neg hb]
theorem tail8_step {n x : Nat} {b : Bs} (hb : 8 ≤ b.length) (hn : b.length ≤ n) : tail8 n x b = tail8 (n - 8) (t8 x (num (b.take 8))) (b.drop 8) := by
 obtain ⟨m, rfl⟩ : ∃ m, n = m + 1 := ⟨n - 1, by omega⟩
 have h : tail8 (m + 1) x b = tail8 m (t8 x (num (b.take 8))) (b.drop 8) := by
  conv => lhs; unfold tail8
  rw [if_pos hb]
 rw [h]
 exact fuel m (m + 1 - 8) _ (b.drop 8) (by rw [List.length_drop]; omega) (by rw [List.length_drop]; omega)
where
 fuel : ∀ (n m x : Nat) (b : Bs), b.length ≤ n → b.length ≤ m → tail8 n x b = tail8 m x b
 | 0, 0, x, b, _, _ => rfl
 | 0, m + 1, x, b, h, _ => by
  have : ¬ 8 ≤ b.length := by omega
  unfold tail8; rw [if_neg this]
 | n + 1, 0, x, b, _, h => by
  have : ¬ 8 ≤ b.length := by omega
  unfold tail8; rw [if_neg this]
 | n + 1, m + 1, x, b, h1, h2 => by
  unfold tail8
  split
  ·exact fuel n m _ _ (by rw [List.length_drop]; omega) (by rw [List.length_drop]; omega)
  ·rfl
theorem tail8_stop {n x : Nat} {b : Bs} (hb : ¬ 8 ≤ b.length) : tail8 n x b = (x, b) := by
 cases n with
 | zero => rfl
 | succ n => unfold tail8; rw [if_neg hb]
end Go.Xx
namespace Go.Proofs.YtlinnpehkfbnkaaGreatDoor
open Go Go.Sl Go.Med Go.MapKept Go.RowKit
section
variable {x y z a n c : Nat}
theorem wrapN (x : Nat) : IntKind.u64.wrap (x : Int) = ((x % 18446744073709551616 : Nat) : Int) := by rw [IntKind.wrap_u64]; rfl
theorem mulN (x c : Nat) : IntKind.u64.wrap ((x : Int) * (c : Int)) = ((x * c % 18446744073709551616 : Nat) : Int) := by rw [← Int.natCast_mul, wrapN]
theorem addN (x c : Nat) : IntKind.u64.wrap ((x : Int) + (c : Int)) = (((x + c) % 18446744073709551616 : Nat) : Int) := by rw [← Int.natCast_add, wrapN]
theorem orN (x y : Nat) (hx : x < 18446744073709551616) (hy : y < 18446744073709551616) : bits .or .u64 (x : Int) (y : Int) = ((x ||| y : Nat) : Int) := u64_or_nat x y hx hy
theorem xorN (x y : Nat) (hx : x < 18446744073709551616) (hy : y < 18446744073709551616) : bits .xor .u64 (x : Int) (y : Int) = ((x ^^^ y : Nat) : Int) := u64_xor_nat x y hx hy
theorem modW (x : Nat) : x % 18446744073709551616 < 18446744073709551616 := Nat.mod_lt _ dCz
theorem xorW (hx : x < 18446744073709551616) (hy : y < 18446744073709551616) : x ^^^ y < 18446744073709551616 := Xx.xor_lt (show x < Xx.W from hx) (show y < Xx.W from hy)
theorem laneW (a w : Nat) : Xx.lane a w < 18446744073709551616 := Xx.lane_lt a w
theorem lane_ex (a x : Nat) : ∃ y z u : Nat, IntKind.u64.wrap ((x : Int) * 14029467366897019727) = (y : Int) ∧ IntKind.u64.wrap ((a : Int) + (y : Int)) = (z : Int) ∧ z < 18446744073709551616 ∧ IntKind.u64.wrap ((Xx.turn z 31 : Nat) * (11400714785074694791 : Int)) = (u : Int) ∧ Xx.lane a x = u :=
 ⟨x * Xx.p2 % 18446744073709551616, (a + x * Xx.p2 % 18446744073709551616) % 18446744073709551616, Xx.turn ((a + x * Xx.p2 % 18446744073709551616) % 18446744073709551616) 31 * Xx.p1 % 18446744073709551616, mulN x Xx.p2, addN _ _, modW _, mulN _ Xx.p1, rfl⟩
theorem mix_ex (hx : x < 18446744073709551616) (a : Nat) : ∃ y z u : Nat, bits .xor .u64 (x : Int) ((Xx.lane 0 a : Nat) : Int) = (y : Int) ∧ IntKind.u64.wrap ((y : Int) * 11400714785074694791) = (z : Int) ∧ IntKind.u64.wrap ((z : Int) + 9650029242287828579) = (u : Int) ∧ u < 18446744073709551616 ∧ Xx.mix x a = u :=
 ⟨x ^^^ Xx.lane 0 a, (x ^^^ Xx.lane 0 a) * Xx.p1 % 18446744073709551616, ((x ^^^ Xx.lane 0 a) * Xx.p1 % 18446744073709551616 + Xx.p4) % 18446744073709551616, xorN x _ hx (laneW 0 a), mulN _ Xx.p1, addN _ Xx.p4, modW _, rfl⟩
theorem t8_ex (hx : x < 18446744073709551616) (n : Nat) : ∃ r z u : Nat, bits .xor .u64 (x : Int) ((Xx.lane 0 n : Nat) : Int) = (r : Int) ∧ r < 18446744073709551616 ∧ IntKind.u64.wrap ((Xx.turn r 27 : Nat) * (11400714785074694791 : Int)) = (z : Int) ∧ IntKind.u64.wrap ((z : Int) + 9650029242287828579) = (u : Int) ∧ u < 18446744073709551616 ∧ Xx.t8 x n = u :=
 ⟨x ^^^ Xx.lane 0 n, Xx.turn (x ^^^ Xx.lane 0 n) 27 * Xx.p1 % 18446744073709551616, (Xx.turn (x ^^^ Xx.lane 0 n) 27 * Xx.p1 % 18446744073709551616 + Xx.p4) % 18446744073709551616, xorN x _ hx (laneW 0 n), xorW hx (laneW 0 n), mulN _ Xx.p1, addN _ Xx.p4, modW _, rfl⟩
theorem t4_ex (hx : x < 18446744073709551616) (n : Nat) : ∃ t r z u : Nat, IntKind.u64.wrap ((n : Int) * 11400714785074694791) = (t : Int) ∧ bits .xor .u64 (x : Int) (t : Int) = (r : Int) ∧ r < 18446744073709551616 ∧ IntKind.u64.wrap ((Xx.turn r 23 : Nat) * (14029467366897019727 : Int)) = (z : Int) ∧ IntKind.u64.wrap ((z : Int) + 1609587929392839161) = (u : Int) ∧ u < 18446744073709551616 ∧ Xx.t4 x n = u :=
 ⟨n * Xx.p1 % 18446744073709551616, x ^^^ (n * Xx.p1 % 18446744073709551616), Xx.turn (x ^^^ (n * Xx.p1 % 18446744073709551616)) 23 * Xx.p2 % 18446744073709551616, (Xx.turn (x ^^^ (n * Xx.p1 % 18446744073709551616)) 23 * Xx.p2 % 18446744073709551616 + Xx.p3) % 18446744073709551616, mulN n Xx.p1, xorN x _ hx (modW _), xorW hx (modW _), mulN _ Xx.p2, addN _ Xx.p3, modW _, rfl⟩
theorem t1_ex (hx : x < 18446744073709551616) (c : UInt8) : ∃ q r u : Nat, IntKind.u64.wrap ((c.toNat : Int) * 2870177450012600261) = (q : Int) ∧ bits .xor .u64 (x : Int) (q : Int) = (r : Int) ∧ r < 18446744073709551616 ∧ IntKind.u64.wrap ((Xx.turn r 11 : Nat) * (11400714785074694791 : Int)) = (u : Int) ∧ u < 18446744073709551616 ∧ Xx.t1 x c = u :=
 ⟨c.toNat * Xx.p5 % 18446744073709551616, x ^^^ (c.toNat * Xx.p5 % 18446744073709551616), Xx.turn (x ^^^ (c.toNat * Xx.p5 % 18446744073709551616)) 11 * Xx.p1 % 18446744073709551616, mulN _ Xx.p5, xorN x _ hx (modW _), xorW hx (modW _), mulN _ Xx.p1, modW _, rfl⟩
theorem join_ex (l : Xx.Ln) : ∃ s1 s2 x0 : Nat, IntKind.u64.wrap ((Xx.turn l.a 1 : Nat) + ((Xx.turn l.b 7 : Nat) : Int)) = (s1 : Int) ∧ IntKind.u64.wrap ((s1 : Int) + ((Xx.turn l.c 12 : Nat) : Int)) = (s2 : Int) ∧ IntKind.u64.wrap ((s2 : Int) + ((Xx.turn l.d 18 : Nat) : Int)) = (x0 : Int) ∧ x0 < 18446744073709551616 ∧ Xx.joined l = Xx.mix (Xx.mix (Xx.mix (Xx.mix x0 l.a) l.b) l.c) l.d :=
 ⟨_, _, _, addN _ _, addN _ _, addN _ _, modW _, rfl⟩
theorem fin_ex (hx : x < 18446744073709551616) : ∃ t1 t2 t3 t4 t5 : Nat, bits .xor .u64 (x : Int) ((x : Int) / 8589934592) = (t1 : Int) ∧ IntKind.u64.wrap ((t1 : Int) * 14029467366897019727) = (t2 : Int) ∧ bits .xor .u64 (t2 : Int) ((t2 : Int) / 536870912) = (t3 : Int) ∧ IntKind.u64.wrap ((t3 : Int) * 1609587929392839161) = (t4 : Int) ∧ bits .xor .u64 (t4 : Int) ((t4 : Int) / 4294967296) = (t5 : Int) ∧ Xx.f3 (Xx.f2 (Xx.f1 x)) = t5 := by
 have d : ∀ (y k : Nat), y < 18446744073709551616 → y / k < 18446744073709551616 := fun y k h => Nat.lt_of_le_of_lt (Nat.div_le_self _ _) h
 exact ⟨x ^^^ (x / 8589934592), (x ^^^ (x / 8589934592)) * Xx.p2 % 18446744073709551616, Xx.f1 x ^^^ (Xx.f1 x / 536870912), (Xx.f1 x ^^^ (Xx.f1 x / 536870912)) * Xx.p3 % 18446744073709551616, Xx.f2 (Xx.f1 x) ^^^ (Xx.f2 (Xx.f1 x) / 4294967296), xorN x _ hx (d _ _ hx), mulN _ Xx.p2, xorN (Xx.f1 x) _ (modW _) (d _ _ (modW _)), mulN _ Xx.p3, xorN (Xx.f2 (Xx.f1 x)) _ (modW _) (d _ _ (modW _)), rfl⟩
theorem start_ex (j n : Nat) : ∃ x : Nat, IntKind.u64.wrap ((j : Int) + (n : Int)) = (x : Int) ∧ x < 18446744073709551616 ∧ (j + n) % Xx.W = x := ⟨(j + n) % 18446744073709551616, addN j n, modW _, rfl⟩
end
end Go.Proofs.YtlinnpehkfbnkaaGreatDoor
