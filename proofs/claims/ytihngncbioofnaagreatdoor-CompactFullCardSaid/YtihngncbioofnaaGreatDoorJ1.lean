import Derived.Sort.Walk0
import Derived.WalkKit
import Derived.Maps.OwnSet
import Derived.Lib.Hide
import Derived.Maps.RangeWalk
import Derived.Maps.AppendAt
import Derived.Test.YtihngncbioofnaaGreatDoorChecked
import Derived.WalkLawsBesides
import Derived.WalkSpells
import Derived.OrdersHeld
import Derived.Deep.RegionHeld3
import Derived.Deep.DrawnRows
import Derived.Test.YtihngncbioofnaaGreatDoorShelf
import Derived.Deep.LoopGhost
namespace Go
theorem aaI:type_of% @List.getElem?_eq_getElem:=@List.getElem?_eq_getElem
theorem aaK:type_of% @List.length_append:=@List.length_append
theorem abl:type_of% @List.length_map:=@List.length_map
theorem abA:type_of% @if_neg:=@if_neg
theorem abL:type_of% @Nat.le_refl:=@Nat.le_refl
theorem abV:type_of% @List.mem_of_getElem?:=@List.mem_of_getElem?
theorem abW:type_of% @List.getElem?_eq_some_iff:=@List.getElem?_eq_some_iff
theorem abX:type_of% @List.size_toArray:=@List.size_toArray
theorem abY:type_of% @List.getElem?_toArray:=@List.getElem?_toArray
theorem abZ:type_of% @List.mem_map:=@List.mem_map
theorem acr:type_of% @if_pos:=@if_pos
theorem acz:type_of% @Nat.le_trans:=@Nat.le_trans
theorem acA:type_of% @List.length_take:=@List.length_take
theorem acB:type_of% @Go.Result.andThen_ok:=@Go.Result.andThen_ok
theorem acC:type_of% @Go.IntWalk.i64_in:=@Go.IntWalk.i64_in
theorem acD:type_of% @List.append_assoc:=@List.append_assoc
theorem acE:type_of% @List.getElem?_map:=@List.getElem?_map
theorem acF:type_of% @decide_eq_true_eq:=@decide_eq_true_eq
theorem acG:type_of% @List.getD_eq_getElem?_getD:=@List.getD_eq_getElem?_getD
theorem acH:type_of% @beq_eq_false_iff_ne:=@beq_eq_false_iff_ne
theorem acI:type_of% @List.map_append:=@List.map_append
theorem acJ:type_of% @Array.length_toList:=@Array.length_toList
theorem acK:type_of% @List.mem_cons:=@List.mem_cons
theorem acL:type_of% @List.length_drop:=@List.length_drop
theorem acM:type_of% @List.append_nil:=@List.append_nil
theorem acN:type_of% @Go.Sem.run_bind:=@Go.Sem.run_bind
theorem acO:type_of% @List.mem_singleton:=@List.mem_singleton
theorem acS:type_of% @List.map_cons:=@List.map_cons
theorem acT:type_of% @Nat.zero_add:=@Nat.zero_add
theorem acV:type_of% @Nat.zero_le:=@Nat.zero_le
theorem acW:type_of% @List.toList_toArray:=@List.toList_toArray
theorem acX:type_of% @List.take_of_length_le:=@List.take_of_length_le
theorem acY:type_of% @List.mem_filter:=@List.mem_filter
theorem ac0:type_of% @List.getElem?_append_right:=@List.getElem?_append_right
theorem ac1:type_of% @Go.Sem.run_pure:=@Go.Sem.run_pure
theorem ac2:type_of% @List.getElem?_append_left:=@List.getElem?_append_left
theorem ac3:type_of% @List.mem_append:=@List.mem_append
theorem ac4:type_of% @decide_eq_false:=@decide_eq_false
theorem ac5:type_of% @List.length_cons:=@List.length_cons
theorem ac7:type_of% @List.length_singleton:=@List.length_singleton
theorem ada:type_of% @List.flatMap_cons:=@List.flatMap_cons
theorem adb:type_of% @Nat.mul_one:=@Nat.mul_one
theorem adg:type_of% @Bool.and_eq_true:=@Bool.and_eq_true
theorem adi:type_of% @Nat.succ_le_of_lt:=@Nat.succ_le_of_lt
theorem adk:type_of% @List.take_length:=@List.take_length
theorem adl:type_of% @List.nil_append:=@List.nil_append
theorem ado:type_of% @List.take_append_of_le_length:=@List.take_append_of_le_length
theorem adp:type_of% @List.drop_of_length_le:=@List.drop_of_length_le
theorem adt:type_of% @decide_eq_true:=@decide_eq_true
theorem adu:type_of% @congrArg:=@congrArg
theorem adv:type_of% @List.getLast?_eq_getElem?:=@List.getLast?_eq_getElem?
theorem adw:type_of% @List.map_nil:=@List.map_nil
theorem adz:type_of% @List.flatMap_append:=@List.flatMap_append
theorem adA:type_of% @List.cons_append:=@List.cons_append
theorem adB:type_of% @List.take_append_drop:=@List.take_append_drop
theorem adC:type_of% @List.getElem?_take:=@List.getElem?_take
theorem adD:type_of% @List.take_add_one:=@List.take_add_one
theorem adE:type_of% @decide_eq_false_iff_not:=@decide_eq_false_iff_not
theorem adF:type_of% @List.length_nil:=@List.length_nil
theorem adG:type_of% @List.mem_of_mem_take:=@List.mem_of_mem_take
theorem adH:type_of% @List.take_zero:=@List.take_zero
theorem adI:type_of% @List.length_replicate:=@List.length_replicate
theorem adL:type_of% @Go.IntKind.wrap_i64:=@Go.IntKind.wrap_i64
theorem adM:type_of% @Go.IntWalk.wrap64_in:=@Go.IntWalk.wrap64_in
theorem aee:type_of% @List.map_map:=@List.map_map
theorem aes:type_of% @List.map_toArray:=@List.map_toArray
theorem aeA:type_of% @List.pairwise_cons:=@List.pairwise_cons
theorem aeB:type_of% @Go.wpList_plain:=@Go.wpList_plain
theorem aeD:type_of% @List.all_eq_true:=@List.all_eq_true
theorem afx:type_of% @Nat.mul_le_mul_right:=@Nat.mul_le_mul_right
theorem afy:type_of% @Bool.false_eq_true:=@Bool.false_eq_true
theorem agl:type_of% @List.eq_nil_of_length_eq_zero:=@List.eq_nil_of_length_eq_zero
theorem agm:type_of% @List.take_succ_eq_append_getElem:=@List.take_succ_eq_append_getElem
theorem agv:type_of% @List.mem_of_getLast?:=@List.mem_of_getLast?
theorem agJ:type_of% @List.length_filter_le:=@List.length_filter_le
theorem agK:type_of% @Go.run_underlying:=@Go.run_underlying
theorem agL:type_of% @bne_iff_ne:=@bne_iff_ne
theorem agU:type_of% @Option.toList_some:=@Option.toList_some
theorem ag0:type_of% @List.not_mem_nil:=@List.not_mem_nil
theorem ag1:type_of% @Go.MapKept.run_getObj_map:=@Go.MapKept.run_getObj_map
theorem ag4:type_of% @Option.map_eq_some_iff:=@Option.map_eq_some_iff
theorem ag6:type_of% @List.length_set:=@List.length_set
theorem ahf:type_of% @Option.map_some:=@Option.map_some
theorem ahh:type_of% @List.all_append:=@List.all_append
theorem ahB:type_of% @beq_false_of_ne:=@beq_false_of_ne
theorem ahC:type_of% @Nat.mul_comm:=@Nat.mul_comm
theorem ahD:type_of% @Nat.le_succ:=@Nat.le_succ
theorem ahE:type_of% @List.pairwise_append:=@List.pairwise_append
theorem ahF:type_of% @List.getElem?_eq_none:=@List.getElem?_eq_none
theorem ahG:type_of% @List.getElem?_eq_none_iff:=@List.getElem?_eq_none_iff
theorem ahJ:type_of% @List.length_dropLast:=@List.length_dropLast
theorem ahK:type_of% @List.mem_flatMap:=@List.mem_flatMap
theorem ahL:type_of% @Go.IntKind.wrap_u64:=@Go.IntKind.wrap_u64
theorem ahM:type_of% @Option.some.inj:=@Option.some.inj
theorem ah6:type_of% @Array.getElem?_toList:=@Array.getElem?_toList
theorem ah9:type_of% @List.getElem?_cons_succ:=@List.getElem?_cons_succ
theorem aib:type_of% @Array.getElem?_eq_getElem:=@Array.getElem?_eq_getElem
theorem aic:type_of% @List.drop_eq_getElem_cons:=@List.drop_eq_getElem_cons
theorem aie:type_of% @List.filter_cons:=@List.filter_cons
theorem aif:type_of% @Nat.add_zero:=@Nat.add_zero
theorem aij:type_of% @List.pairwise_map:=@List.pairwise_map
theorem ail:type_of% @of_decide_eq_true:=@of_decide_eq_true
theorem ai7:type_of% @beq_iff_eq:=@beq_iff_eq
theorem ai8:type_of% @Array.getD_eq_getD_getElem?:=@Array.getD_eq_getD_getElem?
theorem ai9:type_of% @Array.getElem?_modify:=@Array.getElem?_modify
theorem ajl:type_of% @List.perm_append_comm:=@List.perm_append_comm
theorem ak4:type_of% @Nat.add_mul:=@Nat.add_mul
theorem amw:type_of% @List.filter_eq_self:=@List.filter_eq_self
theorem amB:type_of% @Nat.lt_or_ge:=@Nat.lt_or_ge
theorem amJ:type_of% @List.map_congr_left:=@List.map_congr_left
theorem amK:type_of% @List.length_pos_iff:=@List.length_pos_iff
theorem amL:type_of% @List.nodup_cons:=@List.nodup_cons
theorem amM:type_of% @Array.getElem?_eq_some_iff:=@Array.getElem?_eq_some_iff
theorem am1:type_of% @List.filter_cons_of_neg:=@List.filter_cons_of_neg
theorem anf:type_of% @List.drop_append_of_le_length:=@List.drop_append_of_le_length
theorem anj:type_of% @List.mem_or_eq_of_mem_set:=@List.mem_or_eq_of_mem_set
theorem ank:type_of% @List.getLast?_eq_none_iff:=@List.getLast?_eq_none_iff
theorem anl:type_of% @List.pairwise_iff_getElem:=@List.pairwise_iff_getElem
theorem anm:type_of% @Nat.sub_self:=@Nat.sub_self
theorem anq:type_of% @Nat.lt_of_le_of_lt:=@Nat.lt_of_le_of_lt
theorem anr:type_of% @List.Perm.refl:=@List.Perm.refl
theorem anu:type_of% @Bool.eq_iff_iff:=@Bool.eq_iff_iff
theorem anv:type_of% @Nat.mul_le_mul:=@Nat.mul_le_mul
theorem anw:type_of% @List.map_take:=@List.map_take
theorem anA:type_of% @List.getElem_of_mem:=@List.getElem_of_mem
theorem anH:type_of% @Nat.mod_lt:=@Nat.mod_lt
theorem anI:type_of% @List.flatten_cons:=@List.flatten_cons
theorem anJ:type_of% @if_true:=@if_true
theorem anK:type_of% @List.eraseIdx_eq_take_drop_succ:=@List.eraseIdx_eq_take_drop_succ
theorem anL:type_of% @UInt8.toNat_ofNat':=@UInt8.toNat_ofNat'
theorem anP:type_of% @Go.MapKept.run_checkKey:=@Go.MapKept.run_checkKey
theorem anQ:type_of% @List.getElem?_drop:=@List.getElem?_drop
theorem anR:type_of% @Nat.pow_le_pow_right:=@Nat.pow_le_pow_right
theorem anS:type_of% @List.filter_append:=@List.filter_append
theorem anT:type_of% @List.getLast?_append:=@List.getLast?_append
theorem anU:type_of% @Nat.mod_eq_of_lt:=@Nat.mod_eq_of_lt
theorem anV:type_of% @List.perm_middle:=@List.perm_middle
theorem anW:type_of% @Option.getD_some:=@Option.getD_some
theorem anX:type_of% @List.flatMap_nil:=@List.flatMap_nil
theorem anY:type_of% @if_false:=@if_false
theorem anZ:type_of% @List.filter_sublist:=@List.filter_sublist
theorem an0:type_of% @Go.MapKept.run_findKey:=@Go.MapKept.run_findKey
theorem an1:type_of% @List.ext_getElem?:=@List.ext_getElem?
theorem an2:type_of% @Int.le_refl:=@Int.le_refl
theorem an3:type_of% @List.contains_iff_mem:=@List.contains_iff_mem
theorem an4:type_of% @List.getElem?_take_of_lt:=@List.getElem?_take_of_lt
theorem an5:type_of% @Option.map_none:=@Option.map_none
theorem an6:type_of% @Nat.div_le_self:=@Nat.div_le_self
theorem an7:type_of% @List.filter_cons_of_pos:=@List.filter_cons_of_pos
theorem an8:type_of% @List.getElem?_of_mem:=@List.getElem?_of_mem
theorem an9:type_of% @Nat.add_assoc:=@Nat.add_assoc
theorem aoa:type_of% @Array.getElem?_eq_none:=@Array.getElem?_eq_none
theorem aob:type_of% @List.foldl_append:=@List.foldl_append
theorem aoc:type_of% @List.lt_irrefl:=@List.lt_irrefl
theorem aod:type_of% @Go.run_build:=@Go.run_build
theorem aoe:type_of% @Nat.min_eq_left:=@Nat.min_eq_left
theorem aof:type_of% @Array.getElem?_setIfInBounds_ne:=@Array.getElem?_setIfInBounds_ne
theorem aog:type_of% @Classical.byContradiction:=@Classical.byContradiction
theorem aoh:type_of% @Nat.add_comm:=@Nat.add_comm
theorem aoi:type_of% @List.length_take_le':=@List.length_take_le'
theorem aoj:type_of% @or_false:=@or_false
theorem aok:type_of% @Go.DataW.trod_int:=@Go.DataW.trod_int
theorem aol:type_of% @List.drop_drop:=@List.drop_drop
theorem aom:type_of% @Int.eq_ofNat_of_zero_le:=@Int.eq_ofNat_of_zero_le
theorem aoo:type_of% @Array.toList_append:=@Array.toList_append
theorem aop:type_of% @List.drop_succ_cons:=@List.drop_succ_cons
theorem aoq:type_of% @Nat.pow_succ:=@Nat.pow_succ
theorem aor:type_of% @List.sum_cons:=@List.sum_cons
theorem aos:type_of% @List.countP_cons:=@List.countP_cons
theorem aot:type_of% @List.getElem_mem:=@List.getElem_mem
theorem aou:type_of% @List.drop_append:=@List.drop_append
theorem aov:type_of% @Bool.not_eq_true:=@Bool.not_eq_true
theorem aox:type_of% @List.length_range':=@List.length_range'
theorem aoy:type_of% @List.drop_zero:=@List.drop_zero
theorem aoD:type_of% @Nat.lt_trichotomy:=@Nat.lt_trichotomy
theorem aoE:type_of% @Bool.not_eq_true':=@Bool.not_eq_true'
theorem aoH:type_of% @List.lt_trans:=@List.lt_trans
theorem aoI:type_of% @List.all_cons:=@List.all_cons
theorem aoJ:type_of% @Bool.true_and:=@Bool.true_and
end Go
namespace Go
open Go
theorem rQ {p : Prop} (h : p := by rfl) : p := h
theorem kQ {p : Prop} (h : p := by kernel_rfl) : p := h
theorem aQ {p : Prop} (h : p := by assumption) : p := h
theorem oQ {p : Prop} (h : p := by omega) : p := h
theorem yA {i : Nat} (h : -9223372036854775808 ≤ ((i : Int) + 1) ∧ ((i : Int) + 1) ≤ 9223372036854775807 := by omega) : IntKind.i64.wrap ((i : Int) + 1) = (i : Int) + 1 := by rw [adL]; omega
theorem iQ {p : Prop} (h : p := by intro _ _ _ h; exact h) : p := h
theorem dQ {p : Prop} (h : p := by decide) : p := h
theorem bQ {a b : Nat} (h : Nat.ble a b = true := by rfl) : a ≤ b := Nat.le_of_ble_eq_true h
theorem uQ {p : Prop} (h : p) : RowKit.Hid p := Lib.hid h
end Go
set_option linter.unusedVariables false
set_option maxHeartbeats 128000000
theorem au {p:Prop} (h:p:=by kernel_rfl):p:=h
theorem aj {p:Prop} (h:p:=by rfl):p:=h
theorem aN {p:Prop} (h:p:=by decide):p:=h
theorem eU {p:Prop} (h:p:=by intro _ _ _ h;exact h):p:=h
theorem bJ {p:Prop} (h:p:=by exact Nat.le_of_ble_eq_true rQ):p:=h
namespace Go.ah
abbrev Bs:=List UInt8
def half:List Nat:=[0,498536548,997073096,651767980,1994146192,1802195444,1303535960,1342533948,3988292384,4027552580,3604390888,3412177804,2607071920,2262029012,2685067896,3183342108]
def CO (x:Nat):Nat:=(x / 16) ^^^ half.getD (x%16) 0
def uF (x:Nat) (c:UInt8):Nat:=CO (CO (x ^^^ c.toNat))
def EP (s:Nat) (b:Bs):Nat:=4294967295 - b.foldl uF (4294967295 - s)
def crc (b:Bs):Nat:=EP 0 b
theorem Jq:∀ i,half.getD i 0<4294967296:=by
 intro i;rw [acG];cases h:half[i]? with
 |none=>simp
 |some x=>
  have:x∈half:=abV h;have h2:∀ y∈half,y<4294967296:=by decide
  exact h2 x this
theorem BL {a b:Nat} (ha:a<4294967296) (hb:b<4294967296):a ^^^ b<4294967296:=Nat.xor_lt_two_pow (n:=32) ha hb
theorem WW {x:Nat} (h:x<4294967296):CO x<4294967296:=BL oQ (Jq _)
theorem ae0 {x:Nat} (h:x<4294967296) (c:UInt8):uF x c<4294967296:=WW (WW (BL h (by have:=c.toNat_lt;omega)))
theorem WZ:∀ (b:Bs) (x:Nat),x<4294967296→b.foldl uF x<4294967296
 |[],_,h=>h
 |c::b,x,h=>WZ b _ (ae0 h c)
theorem NQ (b:Bs):crc b<4294967296:=by unfold crc EP;omega
def le (x:Nat):Nat→Bs
 |0=>[]
 |n+1=>UInt8.ofNat (x%256)::le (x / 256) n
def num:Bs→Nat
 |[]=>0
 |c::b=>c.toNat+256 * num b
theorem kJ (x n:Nat):(le x n).length=n:=by
 induction n generalizing x with
 |zero=>rfl
 |succ n ih=>simp [le,ih]
theorem JK (n:Nat):∀ x,x<256^n→num (le x n)=x:=by
 induction n with
 |zero=>intro x h;simp at h;subst h;rfl
 |succ n ih=>
  intro x h;show (UInt8.ofNat (x%256)).toNat+256 * num (le (x / 256) n)=x;rw [ih (x / 256) (by rw [Nat.div_lt_iff_lt_mul oQ];rw [aoq]at h;exact h),anL];omega
theorem yE:∀ b:Bs,num b<256^b.length
 |[]=>by simp [num]
 |c::b=>by
  have h1:=yE b;have h2:=c.toNat_lt;show c.toNat+256 * num b<256^(b.length+1);rw [aoq];omega
structure aG where
 tag:Int
 key:Bs
 data:Bs
def zero32:Bs:=List.replicate 32 0
def check (x:aG):Int:=
 if x.tag=0 then (if 16384<x.data.length then 5 else 0)
 else if x.tag=2 then (if x.key≠zero32 then 4 else if 0<x.data.length then 4 else if 16384<x.data.length then 5 else 0)
 else if x.tag=1 then (if 0<x.data.length then 4 else if 16384<x.data.length then 5 else 0)
 else 4
def size (x:aG):Nat:=if check x≠0 then 0 else if x.tag=2 then 9 else 41+x.data.length
def body (x:aG):Bs:=le (size x) 4++[UInt8.ofNat x.tag.toNat]++(if x.tag=2 then [] else x.key)++x.data
def encode (x:aG):Bs×Int:=if check x≠0 then ([],check x) else (le (crc (body x)) 4++body x,0)
def zeroE:aG:=⟨0,zero32,[]⟩
def fits (tag:UInt8) (n:Nat):Bool:=
 if tag=0 then decide (41≤n∧n≤16425) else if tag=1 then decide (n=41) else if tag=2 then decide (n=9) else false
def read (b:Bs):aG×Nat×Int:=
 if b.length<9 then (zeroE,0,3)
 else
  let n:=num ((b.drop 4).take 4)
  if fits (b.getD 8 0) n=false then (zeroE,0,4)
  else if b.length<n then (zeroE,0,3)
  else if crc ((b.take n).drop 4)≠num (b.take 4) then (zeroE,0,13)
  else if 41≤n then (⟨(b.getD 8 0).toNat,(b.drop 9).take 32,(b.take n).drop 41⟩,n,0)
  else (⟨(b.getD 8 0).toNat,zero32,[]⟩,n,0)
end Go.ah
namespace Go.Tab
open Go.ah (Bs num)
structure Slot (V:Type) where
 st:Nat
 key:Bs
 val:V
def home (k:Bs) (c:Nat):Nat:=num (k.take 4)%c
def pos (k:Bs) (c d:Nat):Nat:=(home k c+d)%c
section
variable {V:Type}{s s':List (Slot V)}{x y:Slot V}{k l:Bs}{v u:V}{d e i j c:Nat}
def Slot.stop (x:Slot V) (k:Bs):Prop:=x.st=0∨(x.st=1∧x.key=k)
instance (x:Slot V) (k:Bs):Decidable (x.stop k):=by unfold Slot.stop;infer_instance
def qB (s:List (Slot V)) (k:Bs) (i:Nat):Prop:=∃ x,s[i]?=some x∧x.stop k
structure Ends (s:List (Slot V)) (k:Bs) (d:Nat):Prop where
 lt:d<s.length
 here:qB s k (pos k s.length d)
 no:∀ e,e<d→¬ qB s k (pos k s.length e)
structure Good (s:List (Slot V)):Prop where
 pow:∃ j,s.length=2^j∧3≤j
 st:∀ x∈s,x.st≤2
 key:∀ x∈s,x.key.length=32
 reach:∀ i x,s[i]?=some x→x.st=1→∃ d,d<s.length∧pos x.key s.length d=i∧∀ e,e<d→¬ qB s x.key (pos x.key s.length e)
def Has (s:List (Slot V)) (k:Bs) (v:V):Prop:=∃ (i:Nat) (x:Slot V),s[i]?=some x∧x.st=1∧x.key=k∧x.val=v
theorem Good.jB (h:Good s):0<s.length:=by
 obtain ⟨j,h1,_⟩:=h.pow;rw [h1];exact Nat.two_pow_pos j
theorem lV (h:0<c):pos k c d<c:=anH _ h
theorem OJ (h:0<c):home k c<c:=anH _ h
theorem ajo (h:0<c):(pos k c d+1)%c=pos k c (d+1):=by
 unfold pos;rw [Nat.mod_add_mod,an9]
theorem ajp (h:0<c):pos k c 0=home k c:=by
 unfold pos;rw [aif];exact anU (OJ h)
theorem ajm (h:i<c):∃ d,d<c∧pos k c d=i:=by
 have hc:0<c:=by omega
 have hh:home k c<c:=OJ hc;by_cases hi:home k c≤i
 ·refine ⟨i - home k c,by omega,?_⟩;unfold pos;rw [show home k c+(i - home k c)=i by omega];exact anU h
 ·refine ⟨i+c - home k c,by omega,?_⟩;unfold pos;rw [show home k c+(i+c - home k c)=i+c by omega,Nat.add_mod_right];exact anU h
theorem ajn (hd:d<c) (he:e<c) (h:pos k c d=pos k c e):d=e:=by
 have hc:0<c:=by omega
 have hh:home k c<c:=OJ hc;unfold pos at h;have f:∀ d,d<c→(home k c+d)%c=if home k c+d<c then home k c+d else home k c+d - c:=fun d hd=>by
  split
  ·exact anU ‹_›
  ·rw [Nat.mod_eq_sub_mod oQ];exact anU oQ
 rw [f d hd,f e he]at h;split at h <;> split at h <;> omega
theorem least {p:Nat→Prop}:∀ (n:Nat),(∃ d,d<n∧p d)→∃ d,d<n∧p d∧∀ e,e<d→¬ p e
 |0,h=>by obtain ⟨d,hd,_⟩:=h;omega
 |n+1,h=>by
  by_cases h1:∃ d,d<n∧p d
  ·obtain ⟨d,h2,h3,h4⟩:=least n h1;exact ⟨d,by omega,h3,h4⟩
  ·obtain ⟨d,h2,h3⟩:=h;refine ⟨d,h2,h3,fun e he h5=>h1 ⟨e,by omega,h5⟩⟩
theorem Jc (h:Good s) (hf:∃ x∈s,x.st=0):∃ d,Ends s k d:=by
 obtain ⟨x,hx,h0⟩:=hf;obtain ⟨i,hi,he⟩:=anA hx;obtain ⟨d,h1,h2⟩:=ajm (k:=k) hi;obtain ⟨d',a,b,c⟩:=least (p:=fun d=>qB s k (pos k s.length d)) s.length ⟨d,h1,by rw [h2];exact ⟨x,by rw [aaI hi,he],.inl h0⟩⟩;exact ⟨d',a,b,c⟩
theorem Ends.unique (h:Ends s k d) (h':Ends s k e):d=e:=by
 rcases aoD d e with q|q|q
 ·exact absurd h.here (h'.no d q)
 ·exact q
 ·exact absurd h'.here (h.no e q)
theorem Good.ends (h:Good s) (hi:s[i]?=some x) (hf:x.st=1):∃ d,Ends s x.key d∧pos x.key s.length d=i:=by
 obtain ⟨d,h1,h2,h3⟩:=h.reach i x hi hf;exact ⟨d,⟨h1,⟨x,by rw [h2];exact hi,.inr ⟨hf,rfl⟩⟩,h3⟩,h2⟩
theorem Ends.slot (h:Ends s k d):∃ x,s[pos k s.length d]?=some x∧x.stop k:=h.here
theorem Jb (he:Ends s k d) (hx:s[pos k s.length d]?=some x) (hf:x.st=1):x.key=k∧Has s k x.val:=by
 obtain ⟨y,hy,hs⟩:=he.here;rw [hx]at hy;cases hy;rcases hs with h|⟨_,h⟩
 ·omega
 ·exact ⟨h,_,x,hx,hf,h,rfl⟩
theorem Ja (g:Good s) (he:Ends s k d) (hx:s[pos k s.length d]?=some x) (hf:x.st≠1):x.st=0∧∀ v,¬ Has s k v:=by
 obtain ⟨y,hy,hs⟩:=he.here;rw [hx]at hy;cases hy;refine ⟨?_,fun v hv=>?_⟩
 ·rcases hs with h|⟨h,_⟩
  ·exact h
  ·exact absurd h hf
 ·obtain ⟨i,z,hz,h1,rfl,_⟩:=hv;obtain ⟨d',h2,h3⟩:=g.ends hz h1;obtain rfl:=he.unique h2;rw [h3,hz]at hx;cases hx;exact hf h1
theorem Good.one (g:Good s) (hx:s[i]?=some x) (hy:s[j]?=some y) (h1:x.st=1) (h2:y.st=1) (hk:x.key=y.key):i=j:=by
 obtain ⟨d,a,b⟩:=g.ends hx h1;obtain ⟨e,a',b'⟩:=g.ends hy h2;rw [← hk]at a' b';obtain rfl:=a.unique a';rw [← b,← b']
theorem uV (hi:i<s.length):(s.set i x)[i]?=some x:=by rw [List.getElem?_set_self hi]
theorem rW (h:i≠j):(s.set i x)[j]?=s[j]?:=List.getElem?_set_ne h
theorem JX (g:Good s) (he:Ends s k d) (hx:s[pos k s.length d]?=some x) (hf:x.st=1) (v:V) :
  Good (s.set (pos k s.length d) ⟨x.st,x.key,v⟩)∧∀ k' v',Has (s.set (pos k s.length d) ⟨x.st,x.key,v⟩) k' v'↔if k'=k then v'=v else Has s k' v':=by
 obtain ⟨hk,_⟩:=Jb he hx hf;have hlt:pos k s.length d<s.length:=lV g.jB;generalize hp:pos k s.length d=p at *
 have hst:∀ q l,qB (s.set p ⟨x.st,x.key,v⟩) l q↔qB s l q:=fun q l=>by
  unfold qB;by_cases h:p=q
  ·subst h;rw [uV hlt,hx];constructor
   ·rintro ⟨y,hy,hs⟩;cases hy;exact ⟨x,rfl,hs⟩
   ·rintro ⟨y,hy,hs⟩;cases hy;exact ⟨_,rfl,hs⟩
  ·rw [rW h]
 have hmem:x∈s:=abV hx;refine ⟨⟨by rw [ag6];exact g.pow,fun y hy=>?_,fun y hy=>?_,fun q y hq hy=>?_⟩,fun k' v'=>?_⟩
 ·rcases anj hy with h|rfl
  ·exact g.st y h
  ·exact g.st x hmem
 ·rcases anj hy with h|rfl
  ·exact g.key y h
  ·exact g.key x hmem
 ·rw [ag6];by_cases h:p=q
  ·subst h;rw [uV hlt]at hq;cases hq;obtain ⟨d',a,b,c⟩:=g.reach p x hx hf;exact ⟨d',a,b,fun e h hh=>c e h ((hst _ _).1 hh)⟩
  ·rw [rW h]at hq;obtain ⟨d',a,b,c⟩:=g.reach q y hq hy;exact ⟨d',a,b,fun e h hh=>c e h ((hst _ _).1 hh)⟩
 ·constructor
  ·rintro ⟨q,y,hq,h1,h2,h3⟩;by_cases h:p=q
   ·subst h;rw [uV hlt]at hq;cases hq;rw [acr (h2.symm.trans hk)];exact h3.symm
   ·rw [rW h]at hq;rw [abA fun hkk:k'=k=>h (g.one hx hq hf h1 (hk.trans (hkk.symm.trans h2.symm)))];exact ⟨q,y,hq,h1,h2,h3⟩
  ·intro h;split at h
   ·rename_i hkk;exact ⟨p,_,uV hlt,hf,hk.trans hkk.symm,h.symm⟩
   ·rename_i hkk;obtain ⟨q,y,hq,h1,h2,h3⟩:=h;have:p≠q:=fun h=>by subst h;rw [hx]at hq;cases hq;exact hkk (h2.symm.trans hk)
    exact ⟨q,y,by rw [rW this];exact hq,h1,h2,h3⟩
theorem Bd (g:Good s) (he:Ends s k d) (hx:s[pos k s.length d]?=some x) (hf:x.st≠1) (hk:k.length=32) (v:V) :
  Good (s.set (pos k s.length d) ⟨1,k,v⟩)∧∀ k' v',Has (s.set (pos k s.length d) ⟨1,k,v⟩) k' v'↔if k'=k then v'=v else Has s k' v':=by
 obtain ⟨h0,hno⟩:=Ja g he hx hf;have hlt:pos k s.length d<s.length:=lV g.jB;have hst:∀ q l,q≠pos k s.length d→(qB (s.set (pos k s.length d) ⟨1,k,v⟩) l q↔qB s l q):=fun q l h=>by
  unfold qB;rw [rW (Ne.symm h)]
 have hp0:∀ l,qB s l (pos k s.length d):=fun l=>⟨x,hx,.inl h0⟩;refine ⟨⟨by rw [ag6];exact g.pow,fun y hy=>?_,fun y hy=>?_,fun q y hq hy=>?_⟩,fun k' v'=>?_⟩
 ·rcases anj hy with h|rfl
  ·exact g.st y h
  ·exact (by decide:1≤2)
 ·rcases anj hy with h|rfl
  ·exact g.key y h
  ·exact hk
 ·rw [ag6];by_cases h:pos k s.length d=q
  ·subst h;rw [uV hlt]at hq;cases hq;refine ⟨d,he.lt,rfl,fun e h=>?_⟩;have hne:pos k s.length e≠pos k s.length d:=fun hh=>by have:=ajn (Nat.lt_trans h he.lt) he.lt hh;omega
   exact fun hh=>he.no e h ((hst _ _ hne).1 hh)
  ·rw [rW h]at hq;obtain ⟨d',a,b,c⟩:=g.reach q y hq hy;refine ⟨d',a,b,fun e h=>?_⟩;have hne:pos y.key s.length e≠pos k s.length d:=fun hh=>c e h (by rw [hh];exact hp0 _);exact fun hh=>c e h ((hst _ _ hne).1 hh)
 ·constructor
  ·rintro ⟨q,y,hq,h1,h2,h3⟩;by_cases h:pos k s.length d=q
   ·subst h;rw [uV hlt]at hq;cases hq;rw [acr h2.symm];exact h3.symm
   ·rw [rW h]at hq;rw [abA fun hkk:k'=k=>hno v' ⟨q,y,hq,h1,h2.trans hkk,h3⟩];exact ⟨q,y,hq,h1,h2,h3⟩
  ·intro h;split at h
   ·rename_i hkk;exact ⟨_,_,uV hlt,rfl,hkk.symm,h.symm⟩
   ·obtain ⟨q,y,hq,h1,h2,h3⟩:=h;have:pos k s.length d≠q:=fun h=>by subst h;rw [hx]at hq;cases hq;exact hf h1
    exact ⟨q,y,by rw [rW this];exact hq,h1,h2,h3⟩
def jP (s:List (Slot V)):Nat:=s.countP fun x=>x.st==1
def used (s:List (Slot V)):Nat:=s.countP fun x=>x.st != 0
theorem wH (p:Slot V→Bool):∀ (s:List (Slot V)) (i:Nat) (x y:Slot V),s[i]?=some x→(s.set i y).countP p+(if p x=true then 1 else 0)=s.countP p+(if p y=true then 1 else 0)
 |[],_,_,_,h=>by simp at h
 |a::s,0,x,y,h=>by
  obtain rfl:a=x:=by simpa using h
  rw [List.set_cons_zero,aos,aos];omega
 |a::s,i+1,x,y,h=>by
  rw [List.set_cons_succ,aos,aos];have:=wH p s i x y (by simpa using h);omega
theorem Je (h:used s<s.length):∃ x∈s,x.st=0:=by
 apply aog;intro hn;have:used s=s.length:=by
  unfold used;rw [List.countP_eq_length];intro x hx;have:x.st≠0:=fun h0=>hn ⟨x,hx,h0⟩;simpa using this
 omega
structure Tb (V:Type) where
 slots:List (Slot V)
 n:Nat
 gone:Nat
structure Tb.Ok (t:Tb V):Prop where
 good:Good t.slots
 n:t.n=jP t.slots
 gone:t.n+t.gone=used t.slots
 load:4 * (t.n+t.gone)≤3 * t.slots.length
 size:t.slots.length≤8+4 * (t.n+t.gone)
theorem Tb.Ok.free {t:Tb V} (h:t.Ok):∃ x∈t.slots,x.st=0:=Je (by have:=h.gone;have:=h.load;have:=h.good.jB;omega)
theorem Tb.Ok.ends {t:Tb V} (h:t.Ok) (k:Bs):∃ d,Ends t.slots k d:=Jc h.good h.free
def Tb.Is (t:Tb V) (m:Bs→Option V):Prop:=∀ k v,Has t.slots k v↔m k=some v
def put (m:Bs→Option V) (k:Bs) (v:V):Bs→Option V:=fun l=>if l=k then some v else m l
theorem CZ {t:Tb V}{m:Bs→Option V} (hm:t.Is m) (h:∀ k' v',Has s' k' v'↔if k'=k then v'=v else Has t.slots k' v') (n g:Nat):(⟨s',n,g⟩:Tb V).Is (put m k v):=fun k' v'=>by
 rw [show (⟨s',n,g⟩:Tb V).slots=s' from rfl,h];unfold put;split
 ·exact ⟨fun e=>by rw [e],fun e=>(ahM e).symm⟩
 ·exact hm k' v'
theorem Ql {t:Tb V} (h:t.Ok) (he:Ends t.slots k d) (hx:t.slots[pos k t.slots.length d]?=some x) (hf:x.st=1) (v:V) :
  (⟨t.slots.set (pos k t.slots.length d) ⟨x.st,x.key,v⟩,t.n,t.gone⟩:Tb V).Ok:=by
 have h1:=wH (fun x=>x.st==1) t.slots _ x ⟨x.st,x.key,v⟩ hx;have h2:=wH (fun x=>x.st != 0) t.slots _ x ⟨x.st,x.key,v⟩ hx;refine ⟨(JX h.good he hx hf v).1,?_,?_,by simp only [ag6];exact h.load,by simp only [ag6];exact h.size⟩
 ·have:=h.n;unfold jP at *;simp only at *;omega
 ·have:=h.gone;unfold used at *;simp only at *;omega
theorem Qk {t:Tb V} (h:t.Ok) (hl:4 * (t.n+t.gone+1)≤3 * t.slots.length) (he:Ends t.slots k d) (hx:t.slots[pos k t.slots.length d]?=some x) (hf:x.st≠1) (hk:k.length=32) (v:V) :
  (⟨t.slots.set (pos k t.slots.length d) ⟨1,k,v⟩,t.n+1,t.gone⟩:Tb V).Ok:=by
 have h0:=(Ja h.good he hx hf).1;have h1:=wH (fun x=>x.st==1) t.slots _ x ⟨1,k,v⟩ hx;have h2:=wH (fun x=>x.st != 0) t.slots _ x ⟨1,k,v⟩ hx;refine ⟨(Bd h.good he hx hf hk v).1,?_,?_,?_,?_⟩
 ·have:=h.n;unfold jP at *;simp [h0]at h1 ⊢;omega
 ·have:=h.gone;unfold used at *;simp [h0]at h2 ⊢;omega
 ·simp only [ag6];omega
 ·have:=h.size;simp only [ag6];omega
structure Half (old cur:List (Slot V)) (j:Nat):Prop where
 good:Good cur
 has:∀ k v,Has cur k v↔Has (old.take j) k v
 nf:jP cur=jP (old.take j)
 nu:used cur=jP (old.take j)
theorem abr (h:s[j]?=some x):Has (s.take (j+1)) k v↔Has (s.take j) k v∨(x.st=1∧x.key=k∧x.val=v):=by
 have hj:j<s.length:=(abW.1 h).1;have e:s.take (j+1)=s.take j++[x]:=by rw [adD,h];rfl
 rw [e];unfold Has;constructor
 ·rintro ⟨i,y,hy,a,b,c⟩;by_cases hi:i<(s.take j).length
  ·rw [ac2 hi]at hy;exact .inl ⟨i,y,hy,a,b,c⟩
  ·rw [ac0 oQ]at hy;cases hz:i - (s.take j).length with
   |zero=>rw [hz]at hy;cases hy;exact .inr ⟨a,b,c⟩
   |succ z=>rw [hz]at hy;simp at hy
 ·rintro (⟨i,y,hy,a,b,c⟩|⟨a,b,c⟩)
  ·exact ⟨i,y,by rw [ac2 (abW.1 hy).1];exact hy,a,b,c⟩
  ·exact ⟨(s.take j).length,x,by simp,a,b,c⟩
theorem KP (h:s[j]?=some x):jP (s.take (j+1))=jP (s.take j)+(if x.st=1 then 1 else 0):=by
 unfold jP;rw [adD,h,List.countP_append];simp [aos]
theorem Og (s:List (Slot V)) (j:Nat):jP (s.take j)≤jP s:=by
 unfold jP;exact (List.take_sublist j s).countP_le
theorem Half.skip {old cur:List (Slot V)} (h:Half old cur j) (hx:old[j]?=some x) (hf:x.st≠1):Half old cur (j+1):=
 ⟨h.good,fun k v=>by rw [abr hx,h.has];exact ⟨.inl,fun q=>q.elim id fun q=>absurd q.1 hf⟩,by rw [KP hx,abA hf];exact h.nf,by rw [KP hx,abA hf];exact h.nu⟩
theorem Half.fresh {old cur:List (Slot V)} (go:Good old) (h:Half old cur j) (hx:old[j]?=some x) (hf:x.st=1) (u:V):¬ Has cur x.key u:=by
 rw [h.has];rintro ⟨i,y,hy,a,b,c⟩;have hi:i<(old.take j).length:=(abW.1 hy).1;have hij:i<j:=by rw [acA]at hi;omega
 have hy':old[i]?=some y:=by rw [an4 hij]at hy;exact hy
 have:=go.one hy' hx a hf b;omega
theorem Half.step {old cur:List (Slot V)} (go:Good old) (h:Half old cur j) (hx:old[j]?=some x) (hf:x.st=1) (he:Ends cur x.key d) :
  Half old (cur.set (pos x.key cur.length d) x) (j+1):=by
 obtain ⟨y,hy,hs⟩:=he.slot;have Yq:y.st≠1:=fun h1=>h.fresh go hx hf y.val (Jb he hy h1).2;obtain ⟨h0,_⟩:=Ja h.good he hy Yq;obtain ⟨st,key,val⟩:=x;obtain rfl:st=1:=hf;obtain ⟨g,hh⟩:=Bd h.good he hy Yq (go.key _ (abV hx)) val;have h1:=wH (fun x=>x.st==1) cur _ y ⟨1,key,val⟩ hy;have h2:=wH (fun x=>x.st != 0) cur _ y ⟨1,key,val⟩ hy;refine ⟨g,fun k v=>?_,?_,?_⟩
 ·rw [hh,abr hx];split
  ·rename_i hk;subst hk;constructor
   ·intro e;exact .inr ⟨rfl,rfl,e.symm⟩
   ·rintro (q|⟨_,_,e⟩)
    ·exact absurd ((h.has _ _).2 q) (h.fresh go hx rfl v)
    ·exact e.symm
  ·rename_i hk;rw [h.has];exact ⟨.inl,fun q=>q.elim id fun q=>absurd q.2.1.symm hk⟩
 ·rw [KP hx,acr rfl,← h.nf];unfold jP at *;simp [h0]at h1 ⊢;omega
 ·rw [KP hx,acr rfl,← h.nu];unfold used at *;simp [h0]at h2 ⊢;omega
theorem Half.done {old cur:List (Slot V)} (h:Half old cur old.length):Good cur∧(∀ k v,Has cur k v↔Has old k v)∧jP cur=jP old∧used cur=jP old:=by
 have h1:=h.has;have h2:=h.nf;have h3:=h.nu;rw [adk]at h1 h2 h3;exact ⟨h.good,h1,h2,h3⟩
end
end Go.Tab
namespace Go.Sl
open Go
abbrev Hp:Type:=Nat→Option Obj
def aH:Type:=Hp→Prop
def Hp.I8 (a b:Hp):Prop:=∀ i,a i=none∨b i=none
def Hp.join (a b:Hp):Hp:=fun i=>(a i).or (b i)
theorem aH.ext {A B:aH} (h:∀ x,A x↔B x):A=B:=funext fun x=>propext (h x)
def emp:aH:=fun h=>h=fun _=>none
def star (A B:aH):aH:=fun h=>∃ a b,Hp.I8 a b∧h=Hp.join a b∧A a∧B b
def pt (b:Nat) (o:Obj):aH:=fun h=>h=fun i=>if i=b then some o else none
def ex {α:Type} (A:α→aH):aH:=fun h=>∃ x,A x h
theorem Hp.afk {a b:Hp} (h:a.I8 b):b.I8 a:=fun i=>(h i).symm
theorem Hp.join_comm {a b:Hp} (h:a.I8 b):a.join b=b.join a:=by
 funext i
 rcases h i with h|h <;> simp [Hp.join,h]
theorem Hp.join_assoc (a b c:Hp):(a.join b).join c=a.join (b.join c):=by
 funext i;simp [Hp.join,Option.or_assoc]
theorem DC (A B:aH):star A B=star B A:=by
 apply aH.ext;intro h;constructor <;> (rintro ⟨a,b,d,rfl,ha,hb⟩;exact ⟨b,a,Hp.afk d,Hp.join_comm d,hb,ha⟩)
theorem KF (A B C:aH):star (star A B) C=star A (star B C):=by
 apply aH.ext;intro h;constructor
 ·rintro ⟨ab,c,d,rfl,⟨a,b,d',rfl,ha,hb⟩,hc⟩;refine ⟨a,b.join c,?_,Hp.join_assoc _ _ _,ha,⟨b,c,?_,rfl,hb,hc⟩⟩
  ·intro i;have h1:=d i;have h2:=d' i;simp only [Hp.join,Option.or_eq_none_iff]at *
   cases h:a i <;> simp_all
  ·intro i;have h1:=d i;simp only [Hp.join,Option.or_eq_none_iff]at *
   exact h1.imp (·.2) id
 ·rintro ⟨a,bc,d,rfl,ha,⟨b,c,d',rfl,hb,hc⟩⟩;refine ⟨a.join b,c,?_,(Hp.join_assoc _ _ _).symm,⟨a,b,?_,rfl,ha,hb⟩,hc⟩
  ·intro i;have h1:=d i;have h2:=d' i;simp only [Hp.join,Option.or_eq_none_iff]at *
   cases h:c i <;> simp_all
  ·intro i;have h1:=d i;simp only [Hp.join,Option.or_eq_none_iff]at *
   exact h1.imp id (·.1)
theorem uY (A B C:aH):star A (star B C)=star B (star A C):=by
 rw [← KF,DC A B,KF]
theorem NU (A:aH):star emp A=A:=by
 apply aH.ext;intro h;constructor
 ·rintro ⟨a,b,_,rfl,ha,hb⟩;have:Hp.join a b=b:=by funext i;rw [show a=_ from ha];simp [Hp.join]
  rw [this];exact hb
 ·intro hh;exact ⟨fun _=>none,h,fun _=> .inl rfl,by funext i;simp [Hp.join],rfl,hh⟩
theorem alP (A:aH):star A emp=A:=by rw [DC,NU]
def stars:List aH→aH
 |[]=>emp
 |A::L=>star A (stars L)
theorem qA (A:aH) (L:List aH):stars (A::L)=star A (stars L):=rfl
theorem qy:∀ L M:List aH,stars (L++M)=star (stars L) (stars M)
 |[],M=>(NU _).symm
 |A::L,M=>by rw [adA,qA,qy L M,qA,KF]
theorem alQ {L M:List aH} (h:L.Perm M):stars L=stars M:=by
 induction h with
 |nil=>rfl
 |cons x _ ih=>rw [qA,qA,ih]
 |swap x y l=>rw [qA,qA,qA,qA,uY]
 |trans _ _ ih1 ih2=>exact ih1.trans ih2
theorem DF (A:aH):stars [A]=A:=alP A
def aG (A B:aH):Prop:=∀ h,A h→B h
theorem aG.refl (A:aH):aG A A:=fun _ h=>h
theorem aG.star {A B C D:aH} (h:aG A C) (k:aG B D):aG (star A B) (star C D):=
 fun _ ⟨a,b,d,e,ha,hb⟩=>⟨a,b,d,e,h a ha,k b hb⟩
theorem aG.of_eq {A B:aH} (h:A=B):aG A B:=h ▸ aG.refl _
theorem aG.left {A B C:aH} (h:aG A B):aG (Sl.star A C) (Sl.star B C):=h.star (aG.refl _)
theorem WB {α:Type} (A:α→aH) (B:aH):star (ex A) B=ex fun x=>star (A x) B:=by
 apply aH.ext;intro h;constructor
 ·rintro ⟨a,b,d,e,⟨x,ha⟩,hb⟩;exact ⟨x,a,b,d,e,ha,hb⟩
 ·rintro ⟨x,a,b,d,e,ha,hb⟩;exact ⟨a,b,d,e,⟨x,ha⟩,hb⟩
structure Anch (w0 w:World):Prop where
 os:w.os=w0.os
 tape:w.tape=w0.tape
 output:w.output=w0.output
 size:w0.heap.size≤w.heap.size
theorem Anch.refl (w:World):Anch w w:=⟨rfl,rfl,rfl,abL _⟩
def Sat (w0 w:World) (L:List aH):Prop:=Anch w0 w∧∃ h:Hp,(∀ i o,h i=some o→w.heap[i]?=some o)∧stars L h
section
variable {w0 w:World}{A B C D E G:aH}{L M F R:List aH}
theorem Sat.mono (h:Sat w0 w L) (k:aG (stars L) (stars M)):Sat w0 w M:=⟨h.1,h.2.imp fun x hx=>⟨hx.1,k x hx.2⟩⟩
theorem Sat.perm (h:Sat w0 w L) (k:L.Perm M):Sat w0 w M:=h.mono (aG.of_eq (alQ k))
theorem Sat.head (h:Sat w0 w (A::R)) (k:aG A B):Sat w0 w (B::R):=h.mono k.left
theorem Sat.join (h:Sat w0 w (M++R)) (k:aG (stars M) A):Sat w0 w (A::R):=
 h.mono (fun x hx=>by rw [qy]at hx;exact k.left x hx)
theorem Sat.drop (h:Sat w0 w (A::R)):Sat w0 w R:=by
 obtain ⟨ha,x,hx,a,b,d,rfl,pa,pb⟩:=h;refine ⟨ha,b,fun i o hi=>hx i o ?_,pb⟩;simp only [Hp.join];rcases d i with h1|h1
 ·simp [h1,hi]
 ·simp [h1]at hi
theorem Sat.aY (h:Sat w0 w (A::B::R)):Sat w0 w (B::A::R):=h.perm (List.Perm.swap _ _ _)
theorem Sat.eH (h:Sat w0 w (A::B::C::R)):Sat w0 w (C::A::B::R):=
 h.perm (((List.Perm.swap C B R).cons A).trans (List.Perm.swap C A _))
theorem Sat.iJ (h:Sat w0 w (A::B::C::D::R)):Sat w0 w (D::A::B::C::R):=
 h.perm ((((List.Perm.swap D C R).cons B).cons A).trans (((List.Perm.swap D B _).cons A).trans (List.Perm.swap D A _)))
theorem Sat.rJ (h:Sat w0 w (A::B::C::D::E::R)):Sat w0 w (E::A::B::C::D::R):=
 (h.perm ((((List.Perm.swap E D R).cons C).cons B).cons A)).iJ
theorem Sat.Z7 (h:Sat w0 w (B::A::R)):Sat w0 w (A::B::R):=h.aY
theorem Sat.ex {α:Type}{A:α→aH}:Sat w0 w (Sl.ex A::R)↔∃ x,Sat w0 w (A x::R):=by
 constructor
 ·rintro ⟨ha,x,hx,hA⟩;rw [qA,WB]at hA;obtain ⟨y,hA⟩:=hA;exact ⟨y,ha,x,hx,hA⟩
 ·rintro ⟨y,ha,x,hx,hA⟩;refine ⟨ha,x,hx,?_⟩;rw [qA,WB];exact ⟨y,hA⟩
theorem Sat.emp:Sat w0 w (Sl.emp::R)↔Sat w0 w R:=by
 unfold Sat;rw [qA,NU]
theorem Sat.star:Sat w0 w (Sl.star A B::R)↔Sat w0 w (A::B::R):=by
 unfold Sat;rw [qA,qA,qA,KF]
variable {b:Nat}{o:Obj}
theorem Sat.at (h:Sat w0 w (pt b o::R)):w.heap[b]?=some o:=by
 obtain ⟨_,x,hx,a,c,d,rfl,pa,_⟩:=h;refine hx b o ?_;rw [show a=_ from pa];simp [Hp.join]
theorem Sat.lt (h:Sat w0 w (pt b o::R)):b<w.heap.size:=by
 have:=h.at;rw [amM]at this;exact this.1
theorem Sat.ne {b':Nat}{o':Obj} (h:Sat w0 w (pt b o::pt b' o'::R)):b≠b':=by
 obtain ⟨_,x,hx,a,c,d,rfl,pa,a',c',d',rfl,pa',_⟩:=h;intro e;subst e;rcases d b with h1|h1
 ·rw [show a=_ from pa]at h1;simp at h1
 ·rw [show a'=_ from pa']at h1;simp [Hp.join]at h1
theorem Sat.turn {w':World}{o':Obj} (h:Sat w0 w (pt b o::R)) (ho:w'.os=w.os) (ht:w'.tape=w.tape) (hu:w'.output=w.output)
  (hz:w.heap.size≤w'.heap.size) (hb:w'.heap[b]?=some o') (hr:∀ i,i≠b→i<w.heap.size→w'.heap[i]?=w.heap[i]?):Sat w0 w' (pt b o'::R):=by
 obtain ⟨ha,x,hx,a,c,d,rfl,pa,pr⟩:=h;rw [show a=_ from pa]at hx d;refine ⟨⟨ho.trans ha.os,ht.trans ha.tape,hu.trans ha.output,acz ha.size hz⟩,Hp.join (fun i=>if i=b then some o' else none) c,?_,_,c,?_,rfl,rfl,pr⟩
 ·intro i y hy;by_cases hi:i=b
  ·subst hi;simp [Hp.join]at hy;subst hy;exact hb
  ·simp [Hp.join,hi]at hy;have:=hx i y (by simp [Hp.join,hi,hy]);rw [hr i hi,this];rw [amM]at this;exact this.1
 ·intro i;have:=d i;by_cases hi:i=b <;> simp_all
theorem Sat.fresh {w':World} (h:Sat w0 w R) (ho:w'.os=w.os) (ht:w'.tape=w.tape) (hu:w'.output=w.output)
  (hz:w.heap.size≤w'.heap.size) (hbn:w.heap.size≤b) (hb:w'.heap[b]?=some o) (hr:∀ i,i<w.heap.size→w'.heap[i]?=w.heap[i]?):Sat w0 w' (pt b o::R):=by
 obtain ⟨ha,x,hx,pr⟩:=h;have hn:x b=none:=by
  cases hh:x b with
  |none=>rfl
  |some y=>
   have:=hx _ _ hh;rw [amM]at this;have:=this.1;omega
 refine ⟨⟨ho.trans ha.os,ht.trans ha.tape,hu.trans ha.output,acz ha.size hz⟩,Hp.join (fun i=>if i=b then some o else none) x,?_,_,x,?_,rfl,rfl,pr⟩
 ·intro i y hy;by_cases hi:i=b
  ·subst hi;simp [Hp.join]at hy;subst hy;exact hb
  ·simp [Hp.join,hi]at hy;have:=hx i y hy;rw [hr i,this];rw [amM]at this;exact this.1
 ·intro i;by_cases hi:i=b <;> simp_all
theorem Sat.alloc (h:Sat w0 w R) (o:Obj):Sat w0 (w.alloc o) (pt w.heap.size o::R):=
 h.fresh rfl rfl rfl (by simp) (abL _) (heap_alloc_new w o) (fun i hi=>RowKit.Below.heap_alloc w o i hi)
theorem Sat.drew (h:Sat w0 w R):Sat w0 w.drew R:=⟨⟨h.1.os,h.1.tape,h.1.output,h.1.size⟩,h.2⟩
theorem Sat.cellAt {cs:Array Value}{T:TypeId} (h:Sat w0 w (pt b (.cells cs T (0,0))::R)) (i:Nat) (v:Value) (hv:cs[i]?=some v):w.cell? ⟨b,i,none⟩=some v:=by
 have:=h.at;simp [World.cell?,this,hv]
theorem Sat.oL {cs:Array Value}{T:TypeId} (h:Sat w0 w (pt b (.cells cs T (0,0))::R)) (i:Nat):w.frozen? ⟨b,i,none⟩=false:=by
 have:=h.at;simp [World.frozen?,this]
theorem Sat.set {cs:Array Value}{T:TypeId} (h:Sat w0 w (pt b (.cells cs T (0,0))::R)) (i:Nat) (v:Value):Sat w0 (w.setCell ⟨b,i,none⟩ v) (pt b (.cells (cs.setIfInBounds i v) T (0,0))::R):=by
 have hb:=h.at;have hlt:=h.lt;refine h.turn rfl rfl rfl (by simp) ?_ ?_
 ·simp only [World.setCell,ai9,anJ,hb];simp
 ·intro j hj _;simp only [World.setCell,ai9];rw [abA (Ne.symm hj)]
theorem alq (L:List aH) (k:Nat) (idx:List Nat) (hk:(L.take k).length=k) (hi:(idx.all (fun i=>decide (i<k)) && decide idx.Nodup)=true) :
  ∃ rest,L.Perm ((idx.map (fun i=>L.getD i Sl.emp)++L.drop k)++rest):=by
 simp only [adg,aeD,acF]at hi;obtain ⟨h1,h2⟩:=hi;have hrk:L.take k=(List.range k).map (fun i=>L.getD i Sl.emp):=by
  apply an1;intro i;rw [adC,acE];by_cases hik:i<k
  ·have:i<L.length:=by
    have:=aoi k L;rw [hk]at this;omega
   simp [hik,acG,this]
  ·simp [hik]
 have hp:(List.range k).Perm (idx++(List.range k).filter fun i => !idx.contains i):=by
  rw [List.perm_ext_iff_of_nodup List.nodup_range]
  ·intro a;simp only [List.mem_range,ac3,acY,aoE,List.contains_eq_mem,adE];constructor
   ·intro h;by_cases ha:a∈idx
    ·exact .inl ha
    ·exact .inr ⟨h,ha⟩
   ·rintro (h|h)
    ·exact h1 a h
    ·exact h.1
  ·rw [List.nodup_append];refine ⟨h2,List.nodup_range.sublist anZ,?_⟩;intro a ha b hb e;subst e;have:=(acY.1 hb).2;simp [ha]at this
 refine ⟨((List.range k).filter fun i => !idx.contains i).map (fun i=>L.getD i Sl.emp),?_⟩;have h3:L=L.take k++L.drop k:=(adB k L).symm;rw [hrk]at h3;have h4:=(hp.map (fun i=>L.getD i Sl.emp)).append_right (L.drop k);rw [acI]at h4;have h5:L.Perm _:=(List.Perm.of_eq h3).trans h4;refine h5.trans ?_;rw [acD,acD];exact List.Perm.append_left _ ajl
theorem Sat.V6 (h:Sat w0 w (L++M)):Sat w0 w L:=by
 obtain ⟨ha,x,hx,hs⟩:=h;rw [qy]at hs;obtain ⟨a,b,d,rfl,pa,pb⟩:=hs;refine ⟨ha,a,fun i o hi=>hx i o ?_,pa⟩;simp [Hp.join,hi]
theorem Sat.sel (h:Sat w0 w L) (k:Nat) (idx:List Nat) (hk:(L.take k).length=k) (hi:(idx.all (fun i=>decide (i<k)) && decide idx.Nodup)=true) :
  Sat w0 w (idx.map (fun i=>L.getD i Sl.emp)++L.drop k):=by
 obtain ⟨rest,hp⟩:=alq L k idx hk hi;exact (h.perm hp).V6
def Ro (w0:World) (L:List aH) (p:World→Prop):Prop:=∀ w,Sat w0 w L→p w
theorem Ro.cons {p:World→Prop} (h:Ro w0 L p):Ro w0 (A::L) p:=fun w hw=>h w hw.drop
def old (w0:World):aH:=fun h=>h=fun i=>w0.heap[i]?
theorem Sat.old (h:Sat w0 w (old w0::R)){i:Nat} (hi:i<w0.heap.size):w.heap[i]?=w0.heap[i]?:=by
 obtain ⟨_,x,hx,a,c,d,rfl,pa,_⟩:=h;have:w0.heap[i]?=some (w0.heap[i]):=by simp [hi]
 rw [this];refine hx i _ ?_;rw [show a=_ from pa];simp [Hp.join,hi]
theorem Sat.start (w0:World):Sat w0 w0 [Sl.old w0]:=by
 refine ⟨Anch.refl _,fun i=>w0.heap[i]?,fun i o h=>h,?_⟩;rw [DF];exact rfl
theorem Sat.below (h:Sat w0 w (Sl.old w0::R)):RowKit.Below w0.heap.size w0 w:=
 ⟨h.1.os,h.1.tape,h.1.output,h.1.size,fun k hk=>h.old hk⟩
end
end Go.Sl
namespace Go.Sl
open Go Go.MapKept
def aP (Q:Value→World→Prop) (e:Ending) (w:World):Prop:=∃ v,e = .returned v∧Q v w
def bG (sz:Nat) (v:Value) (xs:List Value) (w:World):Prop:=
 ∃ a n cap,v = .slice a n cap∧xs.length=n * sz∧∀ i x,xs[i]?=some x→∃ b,a=some b∧w.cell? (b.add i)=some x
def aB (T sz:Nat) (v:Value) (xs:List Value):aH:=fun h=>
 (v = .slice none 0 0∧xs=[]∧emp h) ∨
 ∃ b n cap cs,v = .slice (some ⟨b,0,none⟩) n cap∧xs.length=n * sz∧n≤cap∧cap * sz≤cs.size∧cap≤maxLen∧cs.toList.take (n * sz)=xs∧pt b (.cells cs T (0,0)) h
section
variable {w0 w:World}{R L:List aH}{T sz:Nat}{v:Value}{xs:List Value}
theorem gI (T sz:Nat):aB T sz (.slice none 0 0) []=emp:=by
 apply aH.ext;intro h;constructor
 ·rintro (⟨_,_,h⟩|⟨b,n,cap,cs,he,_⟩)
  ·exact h
  ·cases he
 ·intro h;exact .inl ⟨rfl,rfl,h⟩
theorem Sat.gI:Sat w0 w (aB T sz (.slice none 0 0) []::R)↔Sat w0 w R:=by
 rw [Sl.gI];exact Sat.emp
theorem Sat.kR {b n cap:Nat}{cs:Array Value} (h:Sat w0 w (pt b (.cells cs T (0,0))::R)) (hl:xs.length=n * sz) (hn:n≤cap) (hc:cap * sz≤cs.size) (hm:cap≤maxLen)
  (ht:cs.toList.take (n * sz)=xs):Sat w0 w (aB T sz (.slice (some ⟨b,0,none⟩) n cap) xs::R):=
 h.head fun _ hx=> .inr ⟨b,n,cap,cs,rfl,hl,hn,hc,hm,ht,hx⟩
theorem Sat.kP (h:Sat w0 w (aB T sz v xs::R)):(v = .slice none 0 0∧xs=[]∧Sat w0 w R) ∨
  ∃ b n cap cs,v = .slice (some ⟨b,0,none⟩) n cap∧xs.length=n * sz∧n≤cap∧cap * sz≤cs.size∧cap≤maxLen∧cs.toList.take (n * sz)=xs∧Sat w0 w (pt b (.cells cs T (0,0))::R):=by
 obtain ⟨ha,x,hx,p,q,d,rfl,hp,hq⟩:=h;rcases hp with ⟨h1,h2,h3⟩|⟨b,n,cap,cs,h1,h2,h3,h4,h5,h6,h7⟩
 ·refine .inl ⟨h1,h2,ha,q,fun i o hi=>hx i o ?_,hq⟩;rw [show p=_ from h3];simp [Hp.join,hi]
 ·exact .inr ⟨b,n,cap,cs,h1,h2,h3,h4,h5,h6,ha,_,hx,p,q,d,rfl,h7,hq⟩
theorem qO (b j:Nat):(⟨b,0,none⟩:Addr).add j=⟨b,j,none⟩:=by unfold Addr.add;split <;> simp_all
theorem mZ {cs:Array Value}{k:Nat} (ht:cs.toList.take k=xs){i:Nat}{x:Value} (hi:xs[i]?=some x):cs[i]?=some x:=by
 rw [← ht,adC]at hi;split at hi
 ·simpa using hi
 ·cases hi
theorem Sat.rd (h:Sat w0 w (aB T sz v xs::R)):bG sz v xs w:=by
 rcases h.kP with ⟨rfl,rfl,_⟩|⟨b,n,cap,cs,rfl,hl,hn,hc,hm,ht,hp⟩
 ·exact ⟨none,0,0,rfl,by simp,by simp⟩
 ·refine ⟨some ⟨b,0,none⟩,n,cap,rfl,hl,fun i x hi=>⟨_,rfl,?_⟩⟩;rw [qO];exact hp.cellAt i x (mZ ht hi)
theorem wG (sz cap:Nat) (w:World):bG sz (.slice none 0 cap) [] w:=⟨none,0,cap,rfl,by simp,by simp⟩
end
section
variable {P:Program}{w0 w:World}{R:List aH}{sz:Nat}{v x:Value}{xs ys:List Value}
theorem aaM (t ty e:TypeId) (i:TypeInfo) (z:Value) (ht:P.underlying t=some (.slice e)) (hi:P.info? e=some i) (hz:i.zero=some z)
  (hs:i.size=sz) (hzs:z.cells.size=sz) (hsz:0<sz) (h1:∀ u∈ys,u.oneCell'=true)
  (h:Sat w0 w (aB e sz v xs::R)) (hx:bG sz x ys w) (h63:xs.length+ys.length≤maxLen) (hby:(xs.length+ys.length) * i.bytes≤140737488355328) :
  ∃ v' w',(Builtin.append_ #[t,t] ty #[v,x]).run P w = .ok v' w'∧Sat w0 w' (aB e sz v' (xs++ys)::R)∧(xs++ys≠[]→∃ b n c,v' = .slice (some ⟨b,0,none⟩) n c):=by
 subst hs;obtain ⟨xa,m,c,rfl,hyl,yx⟩:=hx;have hle:∀ {p q:Nat},p=q * i.size→q≤p:=fun {p q} e=>by rw [e];exact Nat.le_mul_of_pos_right _ hsz
 have hm:=hle hyl;by_cases hm0:m=0
 ·subst hm0;obtain rfl:ys=[]:=agl (by simpa using hyl);rcases h.kP with ⟨rfl,rfl,h'⟩|⟨b,n,cap,cs,rfl,hl,hn,hc,hcm,htk,hp⟩
  ·refine ⟨.slice none 0 0,w,?_,by simpa using h,by simp⟩;cases xa <;> simp [Builtin.append_,agK ht,sizeOf,typeInfo,hi,Builtin.lenOf,Builtin.firstCells,loadCells,loadCellsFrom]
  ·refine ⟨.slice (some ⟨b,0,none⟩) n cap,w,?_,by simpa using h,fun _=>⟨_,_,_,rfl⟩⟩;cases xa <;> simp [Builtin.append_,agK ht,sizeOf,typeInfo,hi,Builtin.lenOf,Builtin.firstCells,loadCells,loadCellsFrom,hn,storeCells]
 ·have hy0:ys≠[]:=by
   intro e;subst e;have:m * i.size=0:=by simpa using hyl.symm
   rcases Nat.mul_eq_zero.1 this with h|h <;> omega
  obtain ⟨ad,rfl⟩:∃ ad,xa=some ad:=by
   obtain ⟨y,hy⟩:∃ y,ys[0]?=some y:=by
    cases ys with
    |nil=>exact absurd rfl hy0
    |cons y _=>exact ⟨y,rfl⟩
   obtain ⟨b,hb,_⟩:=yx 0 y hy;exact ⟨b,hb⟩
  have hnews:∀ j u,ys[j]?=some u→w.cell? (ad.add j)=some u:=fun j u hj=>by
   obtain ⟨b,hb,hx⟩:=yx j u hj;cases hb;exact hx
  have h63':maxLen=9223372036854775807:=rfl
  have grown:∀ (n old:Nat) (_:n * i.size=xs.length) (_:old<n+m) (_:Sat w0 w R),Sat w0 (w.drew.alloc (.cells (xs.toArray++ys.toArray++Builtin.zeroCells z.cells (grownCap w (n+m) old e - (n+m))) e))
    (aB e i.size (.slice (some ⟨w.heap.size,0,none⟩) (n+m) (grownCap w (n+m) old e)) (xs++ys)::R):=by
   intro n old hn ho hR;have hge:=grownCap_ge w (n+m) old e;have hnx:=hle hn.symm;have hcm:=grownCap_le_maxLen w (n+m) old e oQ;have:=(hR.drew).alloc (.cells (xs.toArray++ys.toArray++Builtin.zeroCells z.cells (grownCap w (n+m) old e - (n+m))) e);refine Sat.kR this ?_ hge ?_ hcm ?_
   ·rw [aaK,← hn,hyl,ak4]
   ·simp only [Array.size_append,abX,size_zeroCells,hzs];rw [← hn,hyl,← ak4,← ak4];exact afx _ oQ
   ·simp only [aoo,acD];rw [← acD];have e1:(n+m) * i.size=(xs++ys).length:=by rw [aaK,← hn,hyl,ak4]
    rw [e1];exact List.take_left
  rcases h.kP with ⟨rfl,rfl,h'⟩|⟨b,n,cap,cs,rfl,hl,hn,hc,hcm,htk,hp⟩
  ·have CU:m * i.bytes≤140737488355328:=by
    refine acz (afx _ ?_) hby;simp;omega
   have hr:=run_append_nil (P:=P) w t ty e i z ht hi hz ad m c ys hyl hnews oQ (by simp at h63;omega) oQ;have hg:=grown 0 0 (by simp) oQ h';simp only [acT,adl,Array.empty_append]at hg ⊢;exact ⟨_,_,hr,hg,fun _=>⟨_,_,_,rfl⟩⟩
  ·by_cases hroom:n+m≤cap
   ·have hfit:n * i.size+ys.length≤cs.size:=by
     rw [hyl,← ak4];exact acz (afx _ hroom) hc
    have hr:=run_append_room (P:=P) w t ty e i ht hi b n cap cs hp.at ad m c ys hyl hnews h1 hroom hfit;refine ⟨_,_,hr,?_,fun _=>⟨_,_,_,rfl⟩⟩;have ahb:=hp.turn (w':=w.setRow b (cs.toList.take (n * i.size)++ys++cs.toList.drop (n * i.size+ys.length)).toArray) rfl rfl rfl (by simp) (setRow_heap w b cs _ e _ hp.at) (fun j hj _=>setRow_other w b j _ hj);refine Sat.kR ahb ?_ hroom ?_ hcm ?_
    ·rw [aaK,hl,hyl,ak4]
    ·simp only [abX,aaK,acA,acL,acJ];omega
    ·rw [htk];have e1:(n+m) * i.size=(xs++ys).length:=by rw [aaK,hl,hyl,ak4]
     rw [e1];exact List.take_left
   ·have holds:∀ j u,xs[j]?=some u→w.cell? ((⟨b,0,none⟩:Addr).add j)=some u:=fun j u hj=>by
     rw [qO];exact hp.cellAt j u (mZ htk hj)
    have hnx:=hle hl;have CU:(n+m) * i.bytes≤140737488355328:=acz (afx _ oQ) hby;have hr:=run_append_grow (P:=P) w t ty e i z ht hi hz ⟨b,0,none⟩ n cap xs hl holds ad m c ys hyl hnews oQ oQ (growslice_fits oQ CU);exact ⟨_,_,hr,grown n cap hl.symm oQ hp.drop,fun _=>⟨_,_,_,rfl⟩⟩
theorem Tf {o:Oper}{a:Act}{K:Act→World→Prop}{Q:Exit→Act→World→Prop} (s y:Operand) (t:TypeId)
  (ho:o.op = .call { callee:= .builtin .append,args:=#[s,y],argTypes:=#[t,t] })
  (e:TypeId) (i:TypeInfo) (z:Value) (ht:P.underlying t=some (.slice e)) (hi:P.info? e=some i) (hz:i.zero=some z)
  (hs:i.size=sz) (hzs:z.cells.size=sz) (hsz:0<sz) (hv:a.eval s=v) (hxv:a.eval y=x) (h1:∀ u∈ys,u.oneCell'=true)
  (h:Sat w0 w (aB e sz v xs::R)) (hx:bG sz x ys w) (h63:xs.length+ys.length≤maxLen) (hby:(xs.length+ys.length) * i.bytes≤140737488355328)
  (hK:∀ v' w',Sat w0 w' (aB e sz v' (xs++ys)::R)→(xs++ys≠[]→∃ b n c,v' = .slice (some ⟨b,0,none⟩) n c)→K (a.put o.dst v') w'):o.wp P a w K Q:=by
 obtain ⟨v',w',hr,h2,h3⟩:=aaM (P:=P) t o.type e i z ht hi hz hs hzs hsz h1 h hx h63 hby;unfold Oper.wp execOp;simp only [ho,resolve,invoke,builtin,acN,ac1,acB,aes,acS,adw,hv,hxv,hr];exact hK v' w' h2 h3
theorem y7 {ops:Array Oper}{rest:List Oper}{o:Oper}{a:Act}{Q:Exit→Act→World→Prop} (hgd:o.guard=none) (s y:Operand) (t:TypeId)
  (ho:o.op = .call { callee:= .builtin .append,args:=#[s,y],argTypes:=#[t,t] })
  (e:TypeId) (i:TypeInfo) (z:Value) (ht:P.underlying t=some (.slice e)) (hi:P.info? e=some i) (hz:i.zero=some z)
  (hs:i.size=sz) (hzs:z.cells.size=sz) (hsz:0<sz) (hv:a.eval s=v) (hxv:a.eval y=x) (h1:∀ u∈ys,u.oneCell'=true)
  (h:Sat w0 w (aB e sz v xs::R)) (hx:bG sz x ys w) (h63:xs.length+ys.length≤maxLen) (hby:(xs.length+ys.length) * i.bytes≤140737488355328)
  (hK:∀ v' w',Sat w0 w' (aB e sz v' (xs++ys)::R)→(xs++ys≠[]→∃ b n c,v' = .slice (some ⟨b,0,none⟩) n c)→wpList P ops Q rest (a.put o.dst v') w'):wpList P ops Q (o::rest) a w:=
 aeB hgd fun _ hK'=>Tf s y t ho e i z ht hi hz hs hzs hsz hv hxv h1 h hx h63 hby fun v' w' h2 h3=>hK' _ _ (hK v' w' h2 h3)
end
theorem step_append {P:Program}{w0 w:World}{R:List aH}{sz:Nat}{v x:Value}{xs ys:List Value}{ops:Array Oper}{o:Oper}{a:Act}{K:Act→World→Prop}{Q:Exit→Act→World→Prop}{E:Prop} (hgd:o.guard=none) (s y:Operand) (t:TypeId)
  (ho:o.op = .call { callee:= .builtin .append,args:=#[s,y],argTypes:=#[t,t] })
  (e:TypeId) (i:TypeInfo) (z:Value) (ht:P.underlying t=some (.slice e)) (hi:P.info? e=some i) (hz:i.zero=some z)
  (hs:i.size=sz) (hzs:z.cells.size=sz) (hsz:0<sz) (hv:a.eval s=v) (hxv:a.eval y=x) (h1:∀ u∈ys,u.oneCell'=true)
  (h:Sat w0 w (aB e sz v xs::R)) (hx:bG sz x ys w) (h63:xs.length+ys.length≤maxLen) (hby:(xs.length+ys.length) * i.bytes≤140737488355328)
  (hK:∀ v' w',Sat w0 w' (aB e sz v' (xs++ys)::R)→(xs++ys≠[]→∃ b n c,v' = .slice (some ⟨b,0,none⟩) n c)→K (a.put o.dst v') w') :
  if Region.wanted o (yielded ops a.tmps)=true then Oper.wp P o a w K Q else E:=by
 have hw:Region.wanted o (yielded ops a.tmps)=true:=by simp [Region.wanted,hgd]
 rw [acr hw];exact Tf s y t ho e i z ht hi hz hs hzs hsz hv hxv h1 h hx h63 hby hK
theorem Bl (w:World) (cs:Array Value) (T sz n c:Nat) (hn:cs.size=n * sz):bG sz (.slice (some ⟨w.heap.size,0,none⟩) n c) cs.toList (w.alloc (.cells cs T)):=
 ⟨_,n,c,rfl,by simpa using hn,fun i x hi=>⟨_,rfl,by rw [qO,World.cell?_alloc_new];simpa using hi⟩⟩
def omap (d:TypeDesc) (b:Nat) (l:List (Value×Value)):aH:=fun h=>
 ∃ es clock,(es.toList.map fun e=>(e.key,e.val)).Perm l∧Stamped es clock∧(∀ x∈es.toList,IsKey d x.key)∧pt b (.map es clock) h
section
variable {P:Program}{w0 w:World}{R:List aH}{d:TypeDesc}{b:Nat}{l l':List (Value×Value)}
theorem F8 (hp:l.Perm l'):omap d b l=omap d b l':=by
 apply aH.ext;intro h;exact ⟨fun ⟨es,c,h1,h2⟩=>⟨es,c,h1.trans hp,h2⟩,fun ⟨es,c,h1,h2⟩=>⟨es,c,h1.trans hp.symm,h2⟩⟩
theorem Sat.F8 (h:Sat w0 w (omap d b l::R)) (hp:l.Perm l'):Sat w0 w (omap d b l'::R):=Sl.F8 hp ▸ h
theorem Sat.Dl (h:Sat w0 w (omap d b l::R)):∃ es clock,(es.toList.map fun e=>(e.key,e.val)).Perm l∧Stamped es clock∧(∀ x∈es.toList,IsKey d x.key)∧Sat w0 w (pt b (.map es clock)::R):=by
 obtain ⟨ha,x,hx,p,q,dd,rfl,⟨es,c,h1,h2,h3,h4⟩,hq⟩:=h;exact ⟨es,c,h1,h2,h3,ha,_,hx,p,q,dd,rfl,h4,hq⟩
theorem Sat.Dn {es:Array MapEntry}{clock:Nat} (h:Sat w0 w (pt b (.map es clock)::R)) (h1:(es.toList.map fun e=>(e.key,e.val)).Perm l) (h2:Stamped es clock) (h3:∀ x∈es.toList,IsKey d x.key):Sat w0 w (omap d b l::R):=
 h.head fun _ hx=>⟨es,clock,h1,h2,h3,hx⟩
theorem Sat.JQ (h:Sat w0 w (omap d b l::R)):(l.map (·.1)).Nodup:=by
 obtain ⟨es,c,h1,h2,h3,h4⟩:=h.Dl;have:=(h1.map (·.1)).nodup_iff.1 (by rw [aee];exact h2.2.2);exact this
theorem Sat.F7 (h:Sat w0 w R) (d:TypeDesc):Sat w0 (w.alloc (.map #[] 0)) (omap d w.heap.size []::R):=
 (h.alloc _).Dn (by simp) (stamped_empty 0) (by simp)
variable {mty kt et:TypeId}{key:Value}
theorem Q8 (hm:P.underlying mty=some (.map kt et)) (hd:P.underlying kt=some d){z:Value} (hz:(zeroValue et).run P w = .ok z w) (hk:IsKey d key) (h:Sat w0 w (omap d b l::R)) :
  (∃ v,(key,v)∈l∧(Instr.lookup mty (.map (some b)) key false).run P w = .ok v w∧(Instr.lookup mty (.map (some b)) key true).run P w = .ok (.tuple #[v,.bool true]) w) ∨
  ((∀ p∈l,p.1≠key)∧(Instr.lookup mty (.map (some b)) key false).run P w = .ok z w∧(Instr.lookup mty (.map (some b)) key true).run P w = .ok (.tuple #[z,.bool false]) w):=by
 obtain ⟨es,c,h1,h2,h3,h4⟩:=h.Dl;have hb:=h4.at;rcases findNow_spec hk es.toList 0 h3 with ⟨f1,f2⟩|⟨j,e,f1,f2,f3⟩
 ·refine .inr ⟨?_,?_,?_⟩
  ·intro p hp e;have:=(h1.mem_iff.2 hp);obtain ⟨x,hx,hxe⟩:=abZ.1 this;refine f2 x hx ?_;rw [← e,← hxe]
  ·simp [Instr.lookup,agK hm,ag1 hb,anP hd hk,an0 hd f1,Result.andThen,hz]
  ·simp [Instr.lookup,agK hm,ag1 hb,anP hd hk,an0 hd f1,Result.andThen,hz]
 ·refine .inl ⟨e.val,?_,?_,?_⟩
  ·refine h1.mem_iff.1 (abZ.2 ⟨e,abV f2,?_⟩);rw [f3]
  ·simp [Instr.lookup,agK hm,ag1 hb,anP hd hk,an0 hd f1,Result.andThen]
  ·simp [Instr.lookup,agK hm,ag1 hb,anP hd hk,an0 hd f1,Result.andThen]
theorem run_store (hm:P.underlying mty=some (.map kt et)) (hd:P.underlying kt=some d) (hk:IsKey d key) (v:Value) (h:Sat w0 w (omap d b l::R)) :
  ∃ w',(Instr.mapUpdate mty (.map (some b)) key v).run P w = .ok () w'∧∀ l0,(l.Perm l0∧(∀ p∈l0,p.1≠key)∨∃ v0,l.Perm ((key,v0)::l0))→Sat w0 w' (omap d b ((key,v)::l0)::R):=by
 obtain ⟨es,c,h1,h2,h3,h4⟩:=h.Dl;have hb:=h4.at;have hnd:=h.JQ
 have turn:∀ o':Obj,Sat w0 { w with heap:=w.heap.setIfInBounds b o' } (pt b o'::R):=fun o'=>
  h4.turn rfl rfl rfl (by simp) (heap_set hb).1 (fun i hi _=>(heap_set hb).2 i hi)
 rcases findNow_spec hk es.toList 0 h3 with ⟨f1,f2⟩|⟨j,e,f1,f2,f3⟩
 ·refine ⟨_,by simp [Instr.mapUpdate,agK hm,ag1 hb,anP hd hk,an0 hd f1,MapKept.run_setObj_map _ hb,Result.andThen];rfl,?_⟩;intro l0 hl0;refine (turn _).Dn ?_ (stamped_push h2 f2) ?_
  ·have hp:l.Perm l0:=by
    rcases hl0 with ⟨hp,_⟩|⟨v0,hp⟩
    ·exact hp
    ·exfalso;have:(key,v0)∈es.toList.map fun e=>(e.key,e.val):=h1.mem_iff.2 (hp.mem_iff.2 (.head _));obtain ⟨x,hx,hxe⟩:=abZ.1 this;exact f2 x hx (adu Prod.fst hxe)
   simp only [Array.toList_push,acI,acS,adw];exact (ajl).trans (by simpa using (h1.trans hp).cons (key,v))
  ·intro x hx;simp only [Array.toList_push,ac3,acO]at hx;rcases hx with hx|rfl
   ·exact h3 x hx
   ·exact hk
 ·have hj:es[j]?=some e:=by simpa using f2
  refine ⟨_,by simp [Instr.mapUpdate,agK hm,ag1 hb,anP hd hk,an0 hd f1,hj,f3,MapKept.run_keyThatStays hk,MapKept.run_setObj_map _ hb,Result.andThen];rfl,?_⟩;intro l0 hl0;have hkey:∀ e',es[j]?=some e'→({ e' with key:=key,val:=v }:MapEntry).key=e'.key:=fun e' he'=>by rw [hj]at he';cases he';exact f3.symm
  refine (turn _).Dn ?_ (stamped_modify h2 _ _ (fun _ _=>rfl) (fun e' _ he'=>hkey e' he')) (isKey_modify h3 _ _ hkey);have hmem:(key,e.val)∈l:=h1.mem_iff.1 (abZ.2 ⟨e,abV f2,by rw [f3]⟩);have hlt:j<es.toList.length:=(abW.1 f2).1;have hsplit:es.toList=es.toList.take j++e::es.toList.drop (j+1):=by
   have he:es.toList[j]=e:=(abW.1 f2).2;rw [← he,List.getElem_cons_drop,adB]
  have hp:l.Perm ((key,e.val)::l0):=by
   rcases hl0 with ⟨hp,hne⟩|⟨v0,hp⟩
   ·exact absurd rfl (hne _ (hp.mem_iff.1 hmem))
   ·have:(key,e.val)∈(key,v0)::l0:=hp.mem_iff.1 hmem;rcases acK.1 this with hh|hh
    ·rw [hh];exact hp
    ·have hn:=(hp.map (·.1)).nodup_iff.1 hnd;simp only [acS,amL]at hn;exact absurd (abZ.2 ⟨_,hh,rfl⟩) hn.1
  have hmod:(es.modify j fun e=>{ e with key:=key,val:=v }).toList=es.toList.take j++{ e with key:=key,val:=v }::es.toList.drop (j+1):=by
   rw [Array.toList_modify,List.modify_eq_take_cons_drop hlt];have he:es.toList[j]=e:=(abW.1 f2).2;rw [he]
  rw [hmod];rw [hsplit]at h1;simp only [acI,acS]at h1 ⊢;rw [f3]at h1;have h5:((key,e.val)::((es.toList.take j).map (fun e=>(e.key,e.val))++(es.toList.drop (j+1)).map (fun e=>(e.key,e.val)))).Perm ((key,e.val)::l0):=(anV.symm.trans h1).trans hp;exact anV.trans ((List.Perm.cons_inv h5).cons _)
theorem akE {ty:TypeId} (hm:P.underlying mty=some (.map kt et)) (hd:P.underlying kt=some d) (hk:IsKey d key) (h:Sat w0 w (omap d b l::R)) :
  ∃ w',(Builtin.delete_ #[mty,kt] ty #[.map (some b),key]).run P w = .ok (.tuple #[]) w'∧∀ l0,(l.Perm l0∧(∀ p∈l0,p.1≠key)∨∃ v0,l.Perm ((key,v0)::l0))→Sat w0 w' (omap d b l0::R):=by
 obtain ⟨es,c,h1,h2,h3,h4⟩:=h.Dl;have hb:=h4.at;have hnd:=h.JQ
 have turn:∀ o':Obj,Sat w0 { w with heap:=w.heap.setIfInBounds b o' } (pt b o'::R):=fun o'=>
  h4.turn rfl rfl rfl (by simp) (heap_set hb).1 (fun i hi _=>(heap_set hb).2 i hi)
 rcases findNow_spec hk es.toList 0 h3 with ⟨f1,f2⟩|⟨j,e,f1,f2,f3⟩
 ·refine ⟨_,by simp [Builtin.delete_,agK hm,ag1 hb,anP hd hk,an0 hd f1,MapKept.run_setObj_map _ hb,Result.andThen];rfl,?_⟩;intro l0 hl0;refine (turn _).Dn ?_ h2 h3;rcases hl0 with ⟨hp,_⟩|⟨v0,hp⟩
  ·exact h1.trans hp
  ·exfalso;have:(key,v0)∈es.toList.map fun e=>(e.key,e.val):=h1.mem_iff.2 (hp.mem_iff.2 (.head _));obtain ⟨x,hx,hxe⟩:=abZ.1 this;exact f2 x hx (adu Prod.fst hxe)
 ·refine ⟨_,by simp [Builtin.delete_,agK hm,ag1 hb,anP hd hk,an0 hd f1,MapKept.run_setObj_map _ hb,Result.andThen];rfl,?_⟩;intro l0 hl0;have hlt:j<es.toList.length:=(abW.1 f2).1;have XO:(es.eraseIdxIfInBounds j).toList=es.toList.take j++es.toList.drop (j+1):=by
   unfold Array.eraseIdxIfInBounds;rw [dif_pos (by simpa using hlt),Array.toList_eraseIdx,anK]
  refine (turn _).Dn ?_ (stamped_erase h2 _) ?_
  ·have hmem:(key,e.val)∈l:=h1.mem_iff.1 (abZ.2 ⟨e,abV f2,by rw [f3]⟩);have hp:l.Perm ((key,e.val)::l0):=by
    rcases hl0 with ⟨hp,hne⟩|⟨v0,hp⟩
    ·exact absurd rfl (hne _ (hp.mem_iff.1 hmem))
    ·have:(key,e.val)∈(key,v0)::l0:=hp.mem_iff.1 hmem;rcases acK.1 this with hh|hh
     ·rw [hh];exact hp
     ·have hn:=(hp.map (·.1)).nodup_iff.1 hnd;simp only [acS,amL]at hn;exact absurd (abZ.2 ⟨_,hh,rfl⟩) hn.1
   have hsplit:es.toList=es.toList.take j++e::es.toList.drop (j+1):=by
    have he:es.toList[j]=e:=(abW.1 f2).2;rw [← he,List.getElem_cons_drop,adB]
   rw [XO];rw [hsplit]at h1;simp only [acI,acS]at h1 ⊢;rw [f3]at h1;exact List.Perm.cons_inv ((anV.symm.trans h1).trans hp)
  ·intro x hx;rw [XO]at hx;refine h3 x ?_;rcases ac3.1 hx with hx|hx
   ·exact adG hx
   ·exact List.mem_of_mem_drop hx
theorem aaT (hm:P.underlying mty=some (.map kt et)) (ty:TypeId) (h:Sat w0 w (omap d b l::R)):(Builtin.len_ #[mty] ty #[.map (some b)]).run P w = .ok (.int .i64 l.length) w:=by
 obtain ⟨es,c,h1,h2,h3,h4⟩:=h.Dl;have hb:=h4.at;have hl:=h1.length_eq;simp at hl;simp [Builtin.len_,agK hm,ag1 hb,Result.andThen,goInt,hl]
end
section
variable {P:Program}{w0 w:World}{R:List aH}{d:TypeDesc}{b:Nat}{l:List (Value×Value)}{key:Value}{t kt et:TypeId}
variable {ops:Array Oper}{rest:List Oper}{o:Oper}{a:Act}{Q:Exit→Act→World→Prop}
theorem acd (hg:o.guard=none) (m x:Operand) (hop:o.op=Op.call { callee:=Callee.builtin Builtin.delete,args:=#[m,x],argTypes:=#[t,kt] })
  (hm:P.underlying t=some (.map kt et)) (hd:P.underlying kt=some d) (hmv:a.eval m = .map (some b)) (hxv:a.eval x=key) (hk:IsKey d key) (h:Sat w0 w (omap d b l::R))
  (l0:List (Value×Value)) (hl:l.Perm l0∧(∀ p∈l0,p.1≠key)∨∃ v0,l.Perm ((key,v0)::l0))
  (hK:∀ w',Sat w0 w' (omap d b l0::R)→wpList P ops Q rest (a.put o.dst (.tuple #[])) w'):wpList P ops Q (o::rest) a w:=by
 refine aeB hg fun K' hK'=>?_;obtain ⟨w',hrun,hs⟩:=akE (P:=P) (ty:=o.type) hm hd hk h;unfold Oper.wp;simp [execOp,hop,resolve,invoke,builtin,hmv,hxv,hrun,Result.andThen];exact hK' _ _ (hK w' (hs l0 hl))
theorem Lm (hg:o.guard=none) (m x y:Operand) (hop:o.op=Op.mapUpdate t m x y)
  (hm:P.underlying t=some (.map kt et)) (hd:P.underlying kt=some d) (hmv:a.eval m = .map (some b)) (hxv:a.eval x=key) {v:Value} (hyv:a.eval y=v) (hk:IsKey d key) (h:Sat w0 w (omap d b l::R))
  (l0:List (Value×Value)) (hl:l.Perm l0∧(∀ p∈l0,p.1≠key)∨∃ v0,l.Perm ((key,v0)::l0))
  (hK:∀ w',Sat w0 w' (omap d b ((key,v)::l0)::R)→wpList P ops Q rest (a.put o.dst undef) w'):wpList P ops Q (o::rest) a w:=by
 refine aeB hg fun K' hK'=>?_;obtain ⟨w',hrun,hs⟩:=run_store (P:=P) hm hd hk v h;unfold Oper.wp;simp [execOp,hop,hmv,hxv,hyv,hrun,Result.andThen];exact hK' _ _ (hK w' (hs l0 hl))
end
end Go.Sl
namespace Go.ay
abbrev Bs:=List UInt8
structure jd where
 cut:Bool
 n:Nat
 b:Bs
def jd.on (c:jd) (l:Bs):Bs:=if c.cut then l.take c.n else l++c.b
structure bH where
 fast:Bs
 now:Bs
 waits:List jd
def bH.new:bH:=⟨[],[],[]⟩
def bH.do (f:bH) (c:jd):bH:={ f with now:=c.on f.now,waits:=f.waits++[c] }
def bH.sync (f:bH):bH:={ f with fast:=f.now,waits:=[] }
def bH.at (f:bH) (k:Nat):Bs:=(f.waits.take k).foldl (fun b c=>c.on b) f.fast
def IY (x:Int) (hi:Nat):Nat:=min x.toNat hi
def bH.left (f:bH) (whole KR:Int):Bs:=
 let k:=IY whole f.waits.length
 match f.waits[k]? with
 |some c=>if c.cut then f.at k else f.at k++c.b.take (IY KR c.b.length)
 |none=>f.at k
def bH.crash (f:bH) (whole KR:Int):bH:=⟨f.left whole KR,f.left whole KR,[]⟩
abbrev Names:=List (ByteArray×Nat)
def lt (a b:ByteArray):Bool:=decide (a.data.toList<b.data.toList)
def bP (l:Names) (s:ByteArray):Option Nat:=(l.find? fun p=>p.1==s).map (·.2)
def gU (l:Names) (s:ByteArray):Names:=l.filter fun p=>p.1 != s
def rF:Names→ByteArray→Nat→Names
 |[],s,i=>[(s,i)]
 |p::l,s,i=>if lt s p.1 then (s,i)::p::l else p::rF l s i
def kC (l:Names) (s:ByteArray) (i:Nat):Names:=rF (gU l s) s i
structure iT where
 fr:ByteArray
 to:ByteArray
 f:Nat
def iT.on (x:iT) (l:Names):Names:=
 let l:=if x.fr=ByteArray.empty then l else gU l x.fr
 if x.to=ByteArray.empty then l else kC l x.to x.f
structure ay where
 room:Nat
 fast:Names
 now:Names
 files:List bH
 waits:List iT
 armed:Bool
 left:Nat
 off:Bool
def ay.file (m:ay) (i:Nat):bH:=m.files.getD i bH.new
def ay.used (m:ay):Nat:=(m.now.map fun p=>(m.file p.2).now.length).sum
def new (room:Nat):ay:=⟨room,[],[],[],[],false,0,false⟩
def nU (c:UInt8):Bool:=(97≤c && c≤122) || (48≤c && c≤57) || c==46 || c==45
def good (s:ByteArray):Bool:=decide (1≤s.size) && decide (s.size≤24) && s.data.toList.all nU
def ay.step (m:ay):ay×Bool:=
 if m.armed then (if m.left=0 then ({ m with off:=true },false) else ({ m with left:=m.left - 1 },true)) else (m,true)
def ay.link (m:ay) (x:iT):ay:={ m with now:=x.on m.now,waits:=m.waits++[x] }
def ay.iU (m:ay) (i:Nat) (f:bH):ay:={ m with files:=m.files.set i f }
def ay.create (m:ay) (s:ByteArray):ay×Int:=
 if m.off then (m,12)
 else if good s=false then (m,7)
 else if (bP m.now s).isSome then (m,10)
 else if 500≤m.now.length then (m,16)
 else if m.step.2=false then (m.step.1,12)
 else ({ m.step.1 with files:=m.files++[bH.new] }.link ⟨ByteArray.empty,s,m.files.length⟩,0)
def ay.append (m:ay) (s:ByteArray) (b:Bs):ay×Int:=
 if m.off then (m,12)
 else match bP m.now s with
 |none=>(m,9)
 |some i=>
  if (m.room:Int) - m.used<b.length then (m,11)
  else if m.step.2=false then (m.step.1,12)
  else (m.step.1.iU i ((m.file i).do ⟨false,0,b⟩),0)
def ay.truncate (m:ay) (s:ByteArray) (n:Int):ay×Int:=
 if m.off then (m,12)
 else match bP m.now s with
 |none=>(m,9)
 |some i=>
  if n<0∨((m.file i).now.length:Int)<n then (m,2)
  else if m.step.2=false then (m.step.1,12)
  else (m.step.1.iU i ((m.file i).do ⟨true,n.toNat,[]⟩),0)
def ay.rename (m:ay) (s t:ByteArray):ay×Int:=
 if m.off then (m,12)
 else match bP m.now s with
 |none=>(m,9)
 |some i=>
  if good t=false then (m,7)
  else if m.step.2=false then (m.step.1,12)
  else (m.step.1.link ⟨s,t,i⟩,0)
def ay.remove (m:ay) (s:ByteArray):ay×Int:=
 if m.off then (m,12)
 else match bP m.now s with
 |none=>(m,9)
 |some _=>
  if m.step.2=false then (m.step.1,12)
  else (m.step.1.link ⟨s,ByteArray.empty,0⟩,0)
def ay.sync (m:ay) (s:ByteArray):ay×Int:=
 if m.off then (m,12)
 else match bP m.now s with
 |none=>(m,9)
 |some i=>
  if m.step.2=false then (m.step.1,12)
  else (m.step.1.iU i (m.file i).sync,0)
def ay.dR (m:ay):ay×Int:=
 if m.off then (m,12)
 else if m.step.2=false then (m.step.1,12)
 else ({ m.step.1 with fast:=m.now,waits:=[] },0)
def ay.read (m:ay) (s:ByteArray) (at_ n:Int):Bs×Int:=
 if m.off then ([],12)
 else match bP m.now s with
 |none=>([],9)
 |some i=>
  let l:=(m.file i).now
  if at_<0∨n<0 then ([],2)
  else if (l.length:Int)<at_∨(l.length:Int) - at_<n then ([],3)
  else ((l.drop at_.toNat).take n.toNat,0)
def ay.all (m:ay) (s:ByteArray):Bs×Int:=
 if m.off then ([],12)
 else match bP m.now s with
 |none=>([],9)
 |some i=>((m.file i).now,0)
def ay.size (m:ay) (s:ByteArray):Int×Int:=
 if m.off then (0,12)
 else match bP m.now s with
 |none=>(0,9)
 |some i=>((m.file i).now.length,0)
def ay.list (m:ay):List ByteArray:=if m.off then [] else m.now.map (·.1)
def ay.qF (m:ay):Nat:=if m.off then 0 else m.used
def ay.jR (m:ay) (n:Int):ay×Int:=
 if m.off then (m,12) else if n<0∨16777216<n then (m,2) else ({ m with room:=n.toNat },0)
def ay.arm (m:ay) (n:Int):ay×Int:=
 if m.off then (m,12) else if n<0 then (m,2) else ({ m with armed:=true,left:=n.toNat },0)
def num (l:List Int) (i:Nat):Int:=l.getD i 0
def ay.mD (m:ay) (k:Nat):Names:=(m.waits.take k).foldl (fun l x=>x.on l) m.fast
def VO (l:List Int):Names→Nat→List bH→List bH
 |[],_,fs=>fs
 |p::ns,j,fs=>VO l ns (j+2) (fs.set p.2 ((fs.getD p.2 bH.new).crash (num l j) (num l (j+1))))
def ay.crash (m:ay) (l:List Int):ay:=
 let ns:=m.mD (IY (num l 0) m.waits.length)
 { m with fast:=ns,now:=ns,waits:=[],files:=VO l ns 1 m.files,off:=false,armed:=false,left:=0 }
def jo (l:Bs) (i:Nat) (y:UInt8):Bs:=l.set i (l.getD i 0 ^^^ y)
def yM (f:bH) (i:Nat) (y:UInt8):Nat→Option (List jd)
 |0=>none
 |k+1=>
  match f.waits[k]? with
  |none=>yM f i y k
  |some c=>if c.cut then yM f i y k
   else if (f.at k).length≤i then some (f.waits.set k { c with b:=jo c.b (i - (f.at k).length) y })
   else yM f i y k
def bH.nM (f:bH) (i:Nat) (y:UInt8):bH:=
 match yM f i y f.waits.length with
 |some ws=>{ f with now:=jo f.now i y,waits:=ws }
 |none=>{ f with now:=jo f.now i y,fast:=jo f.fast i y }
def ay.nM (m:ay) (s:ByteArray) (i:Int) (y:UInt8):ay×Bool:=
 match bP m.now s with
 |none=>(m,false)
 |some k=>if i<0∨((m.file k).now.length:Int)≤i then (m,false) else (m.iU k ((m.file k).nM i.toNat y),true)
end Go.ay
namespace Go.Proofs.YtihngncbioofnaaGreatDoor
open Go Go.Sl Go.ay Go.MapKept
def aA (l:Bs):List Value:=l.map fun b=> .int .u8 b.toNat
abbrev ptr (b:Nat):Value:= .pointer (some ⟨b,0,none⟩)
abbrev errno (n:Int):Value:= .int .i64 n
def vT (p:jd×Value):List Value:=[.bool p.1.cut,.int .i64 p.1.n,p.2]
def bK (v:Value) (l:Bs):aH:=aB 5 1 v (aA l)
def uD (ws:List (jd×Value)):aH:=stars (ws.map fun p=>bK p.2 p.1.b)
def CB (b:Nat) (fv nv wv:Value):aH:=pt b (.cells #[fv,nv,wv] 130 (0,0))
def D7 (b:Nat) (f:bH) (fv nv wv:Value) (ws:List (jd×Value)):List aH:=
 [CB b fv nv wv,bK fv f.fast,bK nv f.now,aB 199 3 wv (ws.flatMap vT),uD ws]
def kG (b:Nat) (f:bH):aH:=fun h=>∃ fv nv wv ws,ws.map (·.1)=f.waits∧stars (D7 b f fv nv wv ws) h
def nS (bs:List Nat) (fs:List bH):aH:=stars (List.zipWith kG bs fs)
def dX (bs:List Nat) (l:Names):List (Value×Value):=l.map fun p=>(.string p.1,ptr (bs.getD p.2 0))
def mV (bs:List Nat) (x:iT):List Value:=[.string x.fr,.string x.to,if x.to=ByteArray.empty then .pointer none else ptr (bs.getD x.f 0)]
def nI (m:Nat) (M:ay) (fb nb:Nat) (wv:Value):aH:=
 pt m (.cells #[.int .i64 M.room,.map (some fb),.map (some nb),wv,.bool M.armed,.int .i64 M.left,.bool M.off] 126 (0,0))
def vK (m:Nat) (M:ay) (bs:List Nat) (fb nb:Nat) (wv:Value):List aH:=
 [nI m M fb nb wv,omap .string nb (dX bs M.now),nS bs M.files,omap .string fb (dX bs M.fast),aB 133 3 wv (M.waits.flatMap (mV bs))]
def aJ (m:Nat) (M:ay):aH:=fun h=>∃ bs fb nb wv,bs.length=M.files.length∧stars (vK m M bs fb nb wv) h
section
variable {w0 w:World}{F:List aH}{m b:Nat}{M:ay}{f:bH}
theorem aJ.open (h:Sat w0 w (aJ m M::F)):∃ bs fb nb wv,bs.length=M.files.length∧Sat w0 w (vK m M bs fb nb wv++F):=by
 obtain ⟨ha,x,hx,p,q,d,rfl,⟨bs,fb,nb,wv,hl,hp⟩,hq⟩:=h;refine ⟨bs,fb,nb,wv,hl,ha,_,hx,?_⟩;rw [qy];exact ⟨p,q,d,rfl,hp,hq⟩
theorem aJ.shut {bs:List Nat}{fb nb:Nat}{wv:Value} (hl:bs.length=M.files.length) (h:Sat w0 w (vK m M bs fb nb wv++F)):Sat w0 w (aJ m M::F):=
 h.join fun _ hx=>⟨bs,fb,nb,wv,hl,hx⟩
theorem kG.open (h:Sat w0 w (kG b f::F)):∃ fv nv wv ws,ws.map (·.1)=f.waits∧Sat w0 w (D7 b f fv nv wv ws++F):=by
 obtain ⟨ha,x,hx,p,q,d,rfl,⟨bs,fb,nb,wv,hl,hp⟩,hq⟩:=h;refine ⟨bs,fb,nb,wv,hl,ha,_,hx,?_⟩;rw [qy];exact ⟨p,q,d,rfl,hp,hq⟩
theorem kG.shut {fv nv wv:Value}{ws:List (jd×Value)} (hl:ws.map (·.1)=f.waits) (h:Sat w0 w (D7 b f fv nv wv ws++F)):Sat w0 w (kG b f::F):=
 h.join fun _ hx=>⟨fv,nv,wv,ws,hl,hx⟩
theorem NZ:∀ (bs:List Nat) (fs:List bH) (i:Nat),bs.length=fs.length→i<fs.length →
  ∃ G:aH,(nS bs fs=star (kG (bs.getD i 0) (fs.getD i bH.new)) G)∧∀ f',nS bs (fs.set i f')=star (kG (bs.getD i 0) f') G
 |[],[],i,_,h=>by simp at h
 |[],_::_,_,h,_=>by simp at h
 |_::_,[],_,h,_=>by simp at h
 |b::bs,f::fs,0,_,_=>⟨nS bs fs,rfl,fun _=>rfl⟩
 |b::bs,f::fs,i+1,hl,hi=>by
  obtain ⟨G,h1,h2⟩:=NZ bs fs i (by simpa using hl) (by simpa using hi);refine ⟨star (kG b f) G,?_,fun f'=>?_⟩
  ·show star (kG b f) (nS bs fs)=_;rw [h1,uY];rfl
  ·show star (kG b f) (nS bs (fs.set i f'))=_;rw [h2,uY];rfl
theorem WG:∀ (bs:List Nat) (fs:List bH) (b:Nat) (f:bH),bs.length=fs.length→nS (bs++[b]) (fs++[f])=star (kG b f) (nS bs fs)
 |[],[],_,_,_=>rfl
 |[],_::_,_,_,h=>by simp at h
 |_::_,[],_,_,h=>by simp at h
 |c::bs,g::fs,b,f,h=>by
  show star (kG c g) (nS (bs++[b]) (fs++[f]))=_;rw [WG bs fs b f (by simpa using h),uY];rfl
end
theorem info8:(Tryz.prog.info? 5).map (fun i=>(i.zero,i.size,i.bytes))=some (some (.int .u8 0),1,1):=by kernel_rfl
theorem aht (w:World):(zeroValue 127).run Tryz.prog w = .ok (.pointer none) w:=by kernel_rfl
@[go_sem] theorem ant (w:World) (r:Option Nat):(binOp .eql 123 (.map r) (.map none)).run Tryz.prog w = .ok (.bool r.isNone) w:=run_eql_map_nil w _ _ _ r Tryz.underlying123
end Go.Proofs.YtihngncbioofnaaGreatDoor
namespace Go.Proofs.YtihngncbioofnaaGreatDoor
open Go Go.Sl Go.ay Go.MapKept Go.RowKit
section
variable {w0 w:World}{F:List aH}{m fb nb:Nat}{M:ay}{bs:List Nat}{wv:Value}{s:ByteArray}
theorem xJ (h:Sat w0 w (nI m M fb nb wv::F)) :
  Calls Tryz.prog 63 #[ptr m] w (aP fun v w'=>v=errno (bif M.off then 12 else 0)∧w=w'):=by
 obtain ⟨room,fast,now,files,waits,armed,left,off⟩:=M;have c2:=h.cellAt 2 _ rfl;have c6:=h.cellAt 6 _ rfl;go_enter Tryz.func63,Tryz.ntmps63;cases off <;> (go_wp2;go_ret;exact ⟨_,rfl,rfl,rfl⟩)
theorem BF (h:Sat w0 w (nI m M fb nb wv::F)) (hl:M.left≤9223372036854775807) :
  Calls Tryz.prog 128 #[ptr m] w (aP fun v w'=>v=errno (bif M.step.2 then 0 else 12)∧Sat w0 w' (nI m M.step.1 fb nb wv::F)):=by
 obtain ⟨room,fast,now,files,waits,armed,left,off⟩:=M;have c4:=h.cellAt 4 _ rfl;have c5:=h.cellAt 5 _ rfl;have f5:=h.oL 5;have f6:=h.oL 6;have c6:=h.cellAt 6 _ rfl;simp only at hl;go_enter Tryz.func128,Tryz.ntmps128;cases armed
 ·go_wp2;go_ret;exact ⟨_,rfl,by simp [ay.step],by simpa [ay.step] using h⟩
 ·by_cases hz:left=0
  ·subst hz;go_wp2;go_ret;exact ⟨_,rfl,rfl,h.set 6 (.bool true)⟩
  ·have hz':((left:Int)==0)=false:=by simpa using hz
   have e1:((left - 1:Nat):Int)=(left:Int) - 1:=by omega
   go_wp2;go_ret;refine ⟨_,rfl,by simp [ay.step,hz],?_⟩;have:=h.set 5 (.int .i64 ((left:Int) - 1));simp only [ay.step,hz,anJ,anY,nI,e1];exact this
end
end Go.Proofs.YtihngncbioofnaaGreatDoor
namespace Go.ay
theorem nD (a b:ByteArray):(a==b)=decide (a=b):=by
 by_cases h:a=b
 ·subst h;simp [(MapKept.bytes_beq a a).2 rfl]
 ·have:¬ (a==b)=true:=fun e=>h ((MapKept.bytes_beq a b).1 e);simp [h,Bool.eq_false_iff.2 this]
theorem jF {l:Names}{s:ByteArray}{i:Nat} (h:bP l s=some i):(s,i)∈l:=by
 unfold bP at h;cases hf:l.find? (fun p=>p.1==s) with
 |none=>rw [hf]at h;cases h
 |some p=>
  rw [hf]at h;have h1:=List.find?_some hf;have h2:=List.mem_of_find?_eq_some hf;simp [nD]at h1 h;obtain ⟨a,b⟩:=p;simp at h1 h;subst h1;subst h;exact h2
theorem JI {l:Names}{s:ByteArray} (h:bP l s=none):∀ p∈l,p.1≠s:=by
 intro p hp e;simp only [bP,Option.map_eq_none_iff,List.find?_eq_none]at h;exact h p hp (by simp [nD,e])
theorem Dh {l:Names} (hn:(l.map (·.1)).Nodup){s:ByteArray}{i:Nat} (h:(s,i)∈l):bP l s=some i:=by
 cases hg:bP l s with
 |none=>exact absurd rfl (JI hg _ h)
 |some j=>
  have hj:=jF hg
  induction l with
  |nil=>cases h
  |cons p l ih=>
   simp only [acS,amL]at hn;rcases acK.1 h with h1|h1 <;> rcases acK.1 hj with h2|h2
   ·rw [← h1]at h2;cases h2;rfl
   ·exact (hn.1 (abZ.2 ⟨_,h2,by rw [← h1]⟩)).elim
   ·exact (hn.1 (abZ.2 ⟨_,h1,by rw [← h2]⟩)).elim
   ·refine ih hn.2 h1 ?_ h2;unfold bP at hg ⊢;have:(p.1==s)=false:=by
     rw [nD];simp;intro e;exact hn.1 (abZ.2 ⟨_,h1,e.symm⟩)
    rw [List.find?_cons_of_neg (by simp [this])]at hg;exact hg
theorem air (l:Names) (s:ByteArray):∀ p∈gU l s,p.1≠s:=by
 intro p hp;have:=(acY.1 hp).2;simpa [nD,bne] using this
theorem PL {l:Names} (hn:(l.map (·.1)).Nodup){s:ByteArray}{i:Nat} (h:(s,i)∈l):l.Perm ((s,i)::gU l s):=by
 induction l with
 |nil=>cases h
 |cons p l ih=>
  simp only [acS,amL]at hn;rcases acK.1 h with h1|h1
  ·subst h1;have:gU ((s,i)::l) s=l:=by
    unfold gU;rw [am1 (by simp [nD,bne]),amw];intro q hq;simp only [bne,nD,aoE,adE];exact fun e=>hn.1 (abZ.2 ⟨q,hq,e⟩)
   rw [this]
  ·have hps:p.1≠s:=fun e=>hn.1 (abZ.2 ⟨_,h1,e.symm⟩);have:gU (p::l) s=p::gU l s:=by
    unfold gU;rw [an7 (by simpa [nD,bne] using hps)]
   rw [this];exact ((ih hn.2 h1).cons p).trans (List.Perm.swap _ _ _)
theorem yC {l:Names}{s:ByteArray} (h:bP l s=none):gU l s=l:=by
 unfold gU;rw [amw];intro q hq;simpa [nD,bne] using JI h q hq
theorem PY:∀ (l:Names) (s:ByteArray) (i:Nat),(rF l s i).Perm ((s,i)::l)
 |[],_,_=>anr _
 |p::l,s,i=>by
  unfold rF;split
  ·exact anr _
  ·exact ((PY l s i).cons p).trans (List.Perm.swap _ _ _)
theorem wo (l:Names) (s:ByteArray) (i:Nat):(kC l s i).Perm ((s,i)::gU l s):=PY _ _ _
end Go.ay
namespace Go.Sl
open Go Go.MapKept
abbrev kv (e:MapEntry):Value×Value:=(e.key,e.val)
theorem O4 {α β:Type}{f:α→β}:∀ {l:List α},(l.map f).Nodup→∀ {x y:α},x∈l→y∈l→f x=f y→x=y
 |[],_,_,_,h,_,_=>by cases h
 |z::l,hn,x,y,hx,hy,e=>by
  simp only [acS,amL]at hn;rcases acK.1 hx with h1|h1 <;> rcases acK.1 hy with h2|h2
  ·rw [h1,h2]
  ·subst h1;exact (hn.1 (abZ.2 ⟨y,h2,e.symm⟩)).elim
  ·subst h2;exact (hn.1 (abZ.2 ⟨x,h1,e⟩)).elim
  ·exact O4 hn.2 h1 h2 e
def rng (d:TypeDesc) (b r:Nat) (l left:List (Value×Value)):aH:=fun h=>
 ∃ es clock seen,(es.toList.map kv).Perm l∧Stamped es clock∧(∀ x∈es.toList,IsKey d x.key)∧((es.toList.filter fun e => !seen.contains e.born).map kv).Perm left ∧
  star (pt b (.map es clock)) (pt r (.mapIter (some b) clock seen clock)) h
section
variable {P:Program}{w0 w:World}{R:List aH}{d:TypeDesc}{b r:Nat}{l left:List (Value×Value)}
theorem Sat.aav (h:Sat w0 w (rng d b r l left::R)):∃ es clock seen,(es.toList.map kv).Perm l∧Stamped es clock∧(∀ x∈es.toList,IsKey d x.key)∧((es.toList.filter fun e => !seen.contains e.born).map kv).Perm left ∧
  Sat w0 w (pt b (.map es clock)::pt r (.mapIter (some b) clock seen clock)::R):=by
 obtain ⟨ha,x,hx,p,q,dd,rfl,⟨es,c,se,h1,h2,h3,h4,h5⟩,hq⟩:=h;refine ⟨es,c,se,h1,h2,h3,h4,Sat.star.1 ⟨ha,_,hx,p,q,dd,rfl,h5,hq⟩⟩
theorem Sat.aaw {es:Array MapEntry}{clock:Nat}{seen:Array Nat} (h:Sat w0 w (pt b (.map es clock)::pt r (.mapIter (some b) clock seen clock)::R))
  (h1:(es.toList.map kv).Perm l) (h2:Stamped es clock) (h3:∀ x∈es.toList,IsKey d x.key) (h4:((es.toList.filter fun e => !seen.contains e.born).map kv).Perm left):Sat w0 w (rng d b r l left::R):=
 (Sat.star.2 h).head fun _ hx=>⟨es,clock,seen,h1,h2,h3,h4,hx⟩
theorem Sat.QA (h:Sat w0 w (rng d b r l left::R)):Sat w0 w (omap d b l::R):=by
 obtain ⟨es,c,se,h1,h2,h3,h4,h5⟩:=h.aav;exact (h5.aY.drop).Dn h1 h2 h3
theorem akR {t k e:TypeId} (ht:P.underlying t=some (.map k e)) (h:Sat w0 w (omap d b l::R)) :
  ∃ r w',(Instr.range t (.map (some b))).run P w = .ok (.pointer (some ⟨r,0,none⟩)) w'∧Sat w0 w' (rng d b r l l::R):=by
 obtain ⟨es,c,h1,h2,h3,h4⟩:=h.Dl;have hb:=h4.at;refine ⟨w.heap.size,w.alloc (.mapIter (some b) c #[] c),?_,?_⟩
 ·simp [Instr.range,agK ht,ag1 hb,Result.andThen]
 ·exact (h4.alloc (.mapIter (some b) c #[] c)).aY.aaw h1 h2 h3 (by rw [amw.2 (by simp)];exact h1)
theorem akO (h:Sat w0 w (rng d b r l left::R)) (ty:TypeId) :
  (left=[]∧(Instr.next (.pointer (some ⟨r,0,none⟩)) false ty).run P w = .ok (.tuple #[.bool false]) w) ∨
  ∃ k v left' w',left.Perm ((k,v)::left')∧(Instr.next (.pointer (some ⟨r,0,none⟩)) false ty).run P w = .ok (.tuple #[.bool true,k,v]) w'∧Sat w0 w' (rng d b r l left'::R) ∧
   (Instr.entry (.pointer (some ⟨r,0,none⟩))).run P w' = .ok (.tuple #[k,v]) w':=by
 obtain ⟨es,c,se,h1,h2,h3,h4,h5⟩:=h.aav;have hb:=h5.at;have hr:=h5.aY.at;have hne:=h5.ne;have hgr:(getObj r).run P w = .ok (.mapIter (some b) c se c) w:=by simp [getObj,Sem.run,hr]
 have hgb:(getObj b).run P w = .ok (.map es c) w:=ag1 hb;have hborn:=h2.1;have hold:(es.filter fun e => !se.contains e.born).filter (fun e=>decide (e.born<c))=es.filter fun e => !se.contains e.born:=by
  apply Array.ext';simp only [Array.toList_filter];rw [amw];intro x hx;simpa using hborn x ((acY.1 hx).1)
 have hnew:(es.filter fun e => !se.contains e.born).filter (fun e=>decide (e.born≥c))=#[]:=by
  apply Array.ext';simp only [Array.toList_filter];rw [List.filter_eq_nil_iff];intro x hx;have:=hborn x ((acY.1 hx).1);simp;omega
 have hall:(!se.isEmpty && !es.isEmpty && es.all (fun e=>decide (e.born≥c)))=false:=by
  by_cases he:es.isEmpty
  ·simp [he]
  ·have:es.all (fun e=>decide (e.born≥c))=false:=by
    rw [Array.all_eq_false];have:0<es.size:=by
     rcases Nat.eq_zero_or_pos es.size with h|h
     ·exact absurd (by simpa using h) he
     ·exact h
    refine ⟨0,this,?_⟩;have:=hborn es[0] (by simp);simp;omega
   simp [this]
 generalize hlf:(es.filter fun e => !se.contains e.born)=lf at *
 have Js:lf.toList=es.toList.filter fun e => !se.contains e.born:=by rw [← hlf];simp
 rw [← Js]at h4
 have key:(Instr.next (.pointer (some ⟨r,0,none⟩)) false ty).run P w =
   (do
    let candidates:=(if lf.isEmpty then #[none] else #[])++lf.map some
    match candidates[← choose (.mapNext candidates.size)]? with
    |some (some e)=>
     setObj r (.mapIter (some b) c (se.push e.born) c)
     pure (.tuple #[.bool true,e.key,e.val])
    |some none=>pure (.tuple #[.bool false])
    |none=>stuck "Next: no such candidate" : Sem Value).run P w:=by
  unfold Instr.next;simp only [acN,hgr,acB,hgb,hall,afy,anY,hlf,hold,hnew,Array.append_empty]
  rfl
 by_cases hle:lf=#[]
 ·left;subst hle;have:left=[]:=by simpa using h4.symm
  refine ⟨this,?_⟩;rw [key];simp [choose,Sem.run,Question.forced,Result.andThen]
 ·right;have hpos:0<lf.size:=by
   rcases Nat.eq_zero_or_pos lf.size with h|h
   ·exact absurd (by simpa using h) hle
   ·exact h
  have hemp:lf.isEmpty=false:=by simpa using hle
  -- which one
  obtain ⟨i,w1,hi,hw1,hch⟩:∃ i w1,i<lf.size∧(w1=w∨w1=w.drew)∧(choose (.mapNext (lf.map some).size)).run P w = .ok i w1:=by
   by_cases h1:lf.size≤1
   ·refine ⟨0,w,hpos,.inl rfl,?_⟩;simp [choose,Sem.run,Question.forced,h1]
   ·refine ⟨w.tape w.drawn (.mapNext (lf.map some).size)%lf.size,w.drew,anH _ hpos,.inr rfl,?_⟩;simp [choose,Sem.run,Question.forced,h1,Question.cut]
  have h5':Sat w0 w1 (pt b (.map es c)::pt r (.mapIter (some b) c se c)::R):=by
   rcases hw1 with rfl|rfl
   ·exact h5
   ·exact h5.drew
  have hr1:=h5'.aY.at;have hget:(lf.map some)[i]?=some (some lf[i]):=by simp [hi]
  obtain ⟨x,hx⟩:∃ x,x=lf[i]:=⟨_,rfl⟩;have hxm:x∈es.toList.filter fun e => !se.contains e.born:=by rw [← Js,hx];simp
  have OW:x∈es.toList:=(acY.1 hxm).1;have hset:(setObj r (.mapIter (some b) c (se.push x.born) c)).run P w1 = .ok () { w1 with heap:=w1.heap.setIfInBounds r (.mapIter (some b) c (se.push x.born) c) }:=by
   simp [setObj,Sem.run,hr1]
  have h6:Sat w0 { w1 with heap:=w1.heap.setIfInBounds r (.mapIter (some b) c (se.push x.born) c) } (pt r (.mapIter (some b) c (se.push x.born) c)::pt b (.map es c)::R):=
   h5'.aY.turn rfl rfl rfl (by simp) (heap_set hr1).1 (fun i hi _=>(heap_set hr1).2 i hi)
  have hnd:=h2.2.1;refine ⟨x.key,x.val,(es.toList.filter fun e => !(se.push x.born).contains e.born).map kv,_,?_,?_,h6.aY.aaw h1 h2 h3 (anr _),?_⟩
  ·
   refine h4.symm.trans ?_;rw [Js];have hbn:∀ y∈es.toList,y.born=x.born→y=x:=by
    intro y hy hyx;exact O4 hnd hy OW hyx
   have hmem:x∈es.toList.filter fun e => !se.contains e.born:=hxm;have:(es.toList.filter fun e => !se.contains e.born).Perm (x::es.toList.filter fun e => !(se.push x.born).contains e.born):=by
    have hf:(es.toList.filter fun e => !(se.push x.born).contains e.born)=(es.toList.filter fun e => !se.contains e.born).filter fun e=>e.born != x.born:=by
     rw [List.filter_filter];apply List.filter_congr;intro y _;by_cases hb:y.born=x.born <;> simp [hb]
    rw [hf];have hnd':((es.toList.filter fun e => !se.contains e.born).map (·.born)).Nodup:=hnd.sublist ((anZ).map _);clear hf h4 Js hlf key;generalize (es.toList.filter fun e => !se.contains e.born)=L at *
    induction L with
    |nil=>cases hmem
    |cons y L ih=>
     simp only [acS,amL]at hnd';rcases acK.1 hmem with rfl|hm
     ·rw [am1 (by simp)];rw [amw.2];intro z hz;simp only [agL,ne_eq];intro e;exact hnd'.1 (abZ.2 ⟨z,hz,e⟩)
     ·have hyx:y.born≠x.born:=fun e=>hnd'.1 (abZ.2 ⟨x,hm,e.symm⟩);rw [an7 (by simpa using hyx)];exact ((ih hm hm hnd'.2).cons y).trans (List.Perm.swap _ _ _)
   simpa using this.map kv
  ·rw [key,hemp];simp only [afy,anY,Array.empty_append,acN,hch,acB,hget,← hx,hset,ac1]
  ·have AA:=h6.at;have hb6:=h6.aY.at;have hg1:∀ w',w'.heap[r]?=some (.mapIter (some b) c (se.push x.born) c)→(getObj r).run P w' = .ok (.mapIter (some b) c (se.push x.born) c) w':=by
    intro w' hw;simp [getObj,Sem.run,hw]
   have hfind:es.find? (fun e=>e.born==x.born)=some x:=by
    rw [← Array.find?_toList];cases hf:es.toList.find? (fun e=>e.born==x.born) with
    |none=>
     rw [List.find?_eq_none]at hf;exact absurd (by simp) (hf x OW)
    |some y=>
     have h7:=List.find?_some hf;have h8:=List.mem_of_find?_eq_some hf;rw [O4 hnd h8 OW (by simpa using h7)]
   unfold Instr.entry;simp only [acN,hg1 _ AA,acB,ag1 hb6,Array.back?_push,hfind];simp
variable {ops:Array Oper}{rest:List Oper}{o:Oper}{a:Act}{Q:Exit→Act→World→Prop}
theorem Td (hg:o.guard=none) (m:Operand) (t k e:TypeId) (hop:o.op=Op.range t m) (ht:P.underlying t=some (.map k e)) (hm:a.eval m = .map (some b)) (h:Sat w0 w (omap d b l::R))
  (hK:∀ r w',Sat w0 w' (rng d b r l l::R)→wpList P ops Q rest (a.put o.dst (.pointer (some ⟨r,0,none⟩))) w'):wpList P ops Q (o::rest) a w:=by
 refine aeB hg fun K hK'=>?_;obtain ⟨r,w',hr,hs⟩:=akR (P:=P) ht h;unfold Oper.wp;simp [execOp,hop,hm,hr,Result.andThen];exact hK' _ _ (hK r w' hs)
theorem Tc (hg:o.guard=none) (it:Operand) (hop:o.op=Op.next it false) (hit:a.eval it = .pointer (some ⟨r,0,none⟩)) (h:Sat w0 w (rng d b r l left::R))
  (hnil:left=[]→wpList P ops Q rest (a.put o.dst (.tuple #[.bool false])) w)
  (hK:∀ k v left' w',left.Perm ((k,v)::left')→Sat w0 w' (rng d b r l left'::R)→(Instr.entry (.pointer (some ⟨r,0,none⟩))).run P w' = .ok (.tuple #[k,v]) w' →
   wpList P ops Q rest (a.put o.dst (.tuple #[.bool true,k,v])) w'):wpList P ops Q (o::rest) a w:=by
 refine aeB hg fun K hK'=>?_;unfold Oper.wp;rcases akO (P:=P) h o.type with ⟨h1,h2⟩|⟨k,v,left',w',h1,h2,h3,h4⟩
 ·simp [execOp,hop,hit,h2,Result.andThen];exact hK' _ _ (hnil h1)
 ·simp [execOp,hop,hit,h2,Result.andThen];exact hK' _ _ (hK k v left' w' h1 h3 h4)
end
end Go.Sl
namespace Go.Proofs.YtihngncbioofnaaGreatDoor
open Go Go.Sl Go.ay Go.MapKept Go.RowKit
section
variable {w0 w:World}{F:List aH}{m fb nb b:Nat}{M:ay}{bs:List Nat}{wv:Value}{s:ByteArray}{l:Names}
theorem PE (h:Sat w0 w (omap .string b (dX bs l)::F)):(l.map (·.1)).Nodup:=by
 have:=h.JQ;simp only [dX,aee]at this;rw [List.nodup_iff_pairwise_ne,aij]at this ⊢;refine this.imp fun {x y} hxy e=>hxy ?_;simp [e]
def Ac (bs:List Nat) (l:Names) (s:ByteArray):Value:=match bP l s with|some i=>ptr (bs.getD i 0)|none=> .pointer none
theorem Pv (h:Sat w0 w (omap .string b (dX bs l)::F)):(Instr.lookup 123 (.map (some b)) (.string s) false).run Tryz.prog w = .ok (Ac bs l s) w:=by
 have hn:=PE h;rcases Q8 (P:=Tryz.prog) Tryz.underlying123 Tryz.underlying9 (aht w) (key:= .string s) trivial h with ⟨v,h1,h2,_⟩|⟨h1,h2,_⟩
 ·rw [h2];obtain ⟨p,hp,e⟩:=abZ.1 h1;simp only [Prod.mk.injEq,Value.string.injEq]at e;obtain ⟨a,i⟩:=p;simp only at e;rw [← e.1,← e.2,Ac,Dh hn hp]
 ·rw [h2,Ac];cases hg:bP l s with
  |none=>rfl
  |some i=>exact absurd rfl (h1 (.string s,ptr (bs.getD i 0)) (abZ.2 ⟨(s,i),jF hg,rfl⟩))
abbrev Za (m:Nat) (M:ay) (fb nb:Nat) (wv:Value) (bs:List Nat) (F:List aH):List aH:=nI m M fb nb wv::omap .string nb (dX bs M.now)::F
theorem zX (h:Sat w0 w (nI m M fb nb wv::F)) (ho:M.off=true) :
  Calls Tryz.prog 90 #[ptr m,.string s] w (aP fun v w'=>v = .tuple #[.pointer none,errno 12]∧w=w'):=by
 go_enter Tryz.func90,Tryz.ntmps90;go_wp2_with (go_at_call 63;refine (xJ h).mono ?_;rintro e w1 ⟨v,rfl,rfl,rfl⟩;rw [ho])
 go_ret2
 exact ⟨_,rfl,rfl,rfl⟩
theorem zW (h:Sat w0 w (Za m M fb nb wv bs F)) (ho:M.off=false) (hn:bP M.now s=none) :
  Calls Tryz.prog 90 #[ptr m,.string s] w (aP fun v w'=>v = .tuple #[.pointer none,errno 9]∧w=w'):=by
 have c2:=h.cellAt 2 _ rfl;have hl:=Pv (s:=s) h.aY;rw [Ac,hn]at hl;have hd:=xJ h;rw [ho]at hd;clear hn ho;go_enter Tryz.func90,Tryz.ntmps90;go_wp2_with (go_at_call 63;refine hd.mono ?_;rintro e w1 ⟨v,rfl,rfl,rfl⟩)
 go_ret2
 exact ⟨_,rfl,rfl,rfl⟩
theorem zY {i:Nat} (h:Sat w0 w (Za m M fb nb wv bs F)) (ho:M.off=false) (hn:bP M.now s=some i) :
  Calls Tryz.prog 90 #[ptr m,.string s] w (aP fun v w'=>v = .tuple #[ptr (bs.getD i 0),errno 0]∧w=w'):=by
 have c2:=h.cellAt 2 _ rfl;have hl:=Pv (s:=s) h.aY;rw [Ac,hn]at hl;have hd:=xJ h;rw [ho]at hd;clear hn ho;simp only at hl;generalize bs.getD i 0=fp at *
 go_enter Tryz.func90,Tryz.ntmps90;go_wp2_with (go_at_call 63;refine hd.mono ?_;rintro e w1 ⟨v,rfl,rfl,rfl⟩)
 go_ret2
 exact ⟨_,rfl,rfl,rfl⟩
end
section
variable {w0 w:World}{F:List aH}{m fb nb b:Nat}{M:ay}{bs:List Nat}{wv:Value}{s:ByteArray}{l:Names}
theorem JC {l l':Names} (h:l.Perm l'):(dX bs l).Perm (dX bs l'):=h.map _
theorem V3 (hn:(l.map (·.1)).Nodup) (s:ByteArray):(dX bs l).Perm (dX bs (gU l s))∧(∀ p∈dX bs (gU l s),p.1 ≠ .string s)∨∃ v0,(dX bs l).Perm ((.string s,v0)::dX bs (gU l s)):=by
 cases hg:bP l s with
 |none=>
  left;rw [yC hg];refine ⟨anr _,fun p hp=>?_⟩;obtain ⟨q,hq,rfl⟩:=abZ.1 hp;simpa using JI hg q hq
 |some i=>exact .inr ⟨ptr (bs.getD i 0),JC (PL hn (jF hg))⟩
def nZ (bs:List Nat) (x:iT):Value:=if x.to=ByteArray.empty then .pointer none else ptr (bs.getD x.f 0)
theorem Ns {s:ByteArray} (h:s≠ByteArray.empty):s.toList.isEmpty=false:=by
 cases hs:s.toList with
 |cons _ _=>rfl
 |nil=>
  exfalso;apply h;have:s.data.toList=[]:=by rw [← Lib.toList_data];exact hs
  obtain ⟨⟨d⟩⟩:=s;simp at this;subst this;rfl
theorem Nu {s:ByteArray} (h:s=ByteArray.empty):s.toList=[]:=by subst h;rw [Lib.toList_data];rfl
theorem aiW (fr to:ByteArray) (q:Value) (h:Sat w0 w (omap .string b (dX bs l)::F)) (l1 l2:List (Value×Value))
  (h1:fr=ByteArray.empty∧l1=dX bs l∨fr≠ByteArray.empty∧((dX bs l).Perm l1∧(∀ p∈l1,p.1 ≠ .string fr)∨∃ v0,(dX bs l).Perm ((.string fr,v0)::l1)))
  (h2:to=ByteArray.empty∧l2=l1∨to≠ByteArray.empty∧∃ l3,(l1.Perm l3∧(∀ p∈l3,p.1 ≠ .string to)∨∃ v0,l1.Perm ((.string to,v0)::l3))∧l2=(.string to,q)::l3) :
  Calls Tryz.prog 66 #[.agg #[.string fr,.string to,q],.map (some b)] w (aP fun _ w'=>Sat w0 w' (omap .string b l2::F)):=by
 have hb:=(h.alloc (.cells #[.string fr,.string to,q] 133)).aY;go_enter Tryz.func66,Tryz.ntmps66;rcases h1 with ⟨hf,h1⟩|⟨hf,h1⟩
 ·have e1:=Nu hf;clear hf;subst h1;rcases h2 with ⟨ht,h2⟩|⟨ht,l3,h3,h2⟩
  ·have e2:=Nu ht;clear ht;subst h2;go_wp2
   go_end0
   exact ⟨_,rfl,hb.aY.drop⟩
  ·have e2:=Ns ht;clear ht;have H2:=uQ h2;clear h2;have H3:=uQ h3;clear h3;go_wp2_with (at_mapUpdate;go_must (refine Lm (key:= .string to) aj _ _ _ aj Tryz.underlying123 Tryz.underlying9 aj aj aj trivial hb l3 H3.out ?_);intro w1 hS1)
   go_end0
   rw [H2.out];exact ⟨_,rfl,hS1.aY.drop⟩
 ·have e1:=Ns hf;clear hf;have H1:=uQ h1;clear h1;rcases h2 with ⟨ht,h2⟩|⟨ht,l3,h3,h2⟩
  ·have e2:=Nu ht;clear ht;subst h2;go_wp2_with (at_delete;go_must (refine acd (key:= .string fr) aj _ _ aj Tryz.underlying123 Tryz.underlying9 aj aj trivial hb l2 H1.out ?_);intro w1 hS1;have c0:=hS1.aY.cellAt 0 _ rfl;have c1:=hS1.aY.cellAt 1 _ rfl)
   go_end0
   exact ⟨_,rfl,hS1.aY.drop⟩
  ·have e2:=Ns ht;clear ht;have H2:=uQ h2;clear h2;have H3:=uQ h3;clear h3
   go_wp2_with (first
    |(at_delete;go_must (refine acd (key:= .string fr) aj _ _ aj Tryz.underlying123 Tryz.underlying9 aj aj trivial hb l1 H1.out ?_);intro w1 hS1;have c0:=hS1.aY.cellAt 0 _ rfl;have c1:=hS1.aY.cellAt 1 _ rfl;have c2:=hS1.aY.cellAt 2 _ rfl)
    |(at_mapUpdate;go_must (refine Lm (key:= .string to) aj _ _ _ aj Tryz.underlying123 Tryz.underlying9 aj aj aj trivial hS1 l3 H3.out ?_);intro w2 hS2))
   go_end0
   rw [H2.out];exact ⟨_,rfl,hS2.aY.drop⟩
theorem aiV (x:iT) (h:Sat w0 w (omap .string b (dX bs l)::F)) :
  Calls Tryz.prog 66 #[.agg #[.string x.fr,.string x.to,nZ bs x],.map (some b)] w (aP fun _ w'=>Sat w0 w' (omap .string b (dX bs (x.on l))::F)):=by
 have hn:=PE h;obtain ⟨fr,to,f⟩:=x;have key:∀ l1:Names,l1=(if fr=ByteArray.empty then l else gU l fr)→(l1.map (·.1)).Nodup:=by
  rintro l1 rfl;split
  ·exact hn
  ·exact hn.sublist ((anZ).map _)
 have:=aiW fr to (nZ bs ⟨fr,to,f⟩) h (dX bs (if fr=ByteArray.empty then l else gU l fr))
  (if to=ByteArray.empty then dX bs (if fr=ByteArray.empty then l else gU l fr) else (.string to,ptr (bs.getD f 0))::dX bs (gU (if fr=ByteArray.empty then l else gU l fr) to)) ?_ ?_
 ·refine this.mono ?_;rintro e w1 ⟨v,rfl,hS⟩;refine ⟨v,rfl,?_⟩;unfold iT.on;simp only;split
  ·rename_i ht;rw [acr ht]at hS;exact hS
  ·rename_i ht;rw [abA ht]at hS;exact hS.F8 (JC (wo _ _ _)).symm
 ·by_cases hf:fr=ByteArray.empty
  ·exact .inl ⟨hf,by rw [acr hf]⟩
  ·exact .inr ⟨hf,by rw [abA hf];exact V3 hn fr⟩
 ·by_cases ht:to=ByteArray.empty
  ·exact .inl ⟨ht,by rw [acr ht]⟩
  ·refine .inr ⟨ht,_,V3 (key _ rfl) to,?_⟩;rw [abA ht];simp [nZ,ht]
end
end Go.Proofs.YtihngncbioofnaaGreatDoor
namespace Go.Sl
open Go
section
variable {P:Program}{ops:Array Oper}{Q:Exit→Act→World→Prop}{late:List Nat}{G:World→Prop}
def keeps (late:List Nat) (G:World→Prop) (i:Nat) (w w':World):Prop:=late.contains i=true∨G w'∨w'=w
def jm (P:Program) (ops:Array Oper) (Q:Exit→Act→World→Prop) (late:List Nat) (G:World→Prop):Nat→Array Bool→Act→World→Prop
 |0,l,a,w=>Region.ready .any ops l=[]∧Q .normal a w
 |n+1,l,a,w=>(Region.ready .any ops l=[]→Q .normal a w) ∧
  ∀ i∈Region.ready .any ops l,wpOp P ops Q i (fun a' w'=>keeps late G i w w'∧jm P ops Q late G n (l.setIfInBounds i true) a' w') a w
theorem SY:∀ (n:Nat) (l:Array Bool) (a:Act) (w:World),jm P ops Q late G n l a w→wpAny P .any ops Q n l a w
 |0,_,_,_,h=>h
 |n+1,_,_,_,h=>⟨h.1,fun i hi=>wpOp_mono (fun a' w' h'=>SY n _ a' w' h'.2) (h.2 i hi)⟩
theorem dS {id:Nat}{a:Act}{w:World} (late:List Nat) (G:World→Prop) (hm:P.follows .mixedOrders=true)
  (h:jm P ops Q late G ops.size (Array.replicate ops.size false) a w.drew):(Code.region id ops true).wp P Q a w:=
 wp_region_any hm (SY _ _ _ _ h)
def waitsFor (ops:Array Oper) (i:Nat):Nat→Nat→Bool
 |0,_=>false
 |n+1,j=>((ops[j]?).map fun o=>(o.after.any fun e=>Region.binds .any e && e.on==i) || (o.after.any fun e=>Region.binds .any e && waitsFor ops i n e.on)).getD false
def Pg (ops:Array Oper) (late:List Nat) (i:Nat):Bool:=late.all fun j=>j==i || waitsFor ops i 8 j
def Gv (ops:Array Oper) (l:Array Bool):Prop:=∀ (k:Nat) (ok:Oper),ops[k]?=some ok→l.getD k false=true→∀ e∈ok.after,Region.binds .any e=true→l.getD e.on false=true
def uX (ops:Array Oper) (l:Array Bool):Bool:=(List.range ops.size).all fun k => !l.getD k false || ((ops[k]?).map fun o=>o.after.all fun e => !Region.binds .any e || l.getD e.on false).getD true
theorem abb {l:Array Bool} (h:uX ops l=true):Gv ops l:=by
 intro k ok hk hl e he hb;have hlt:k<ops.size:=(amM.1 hk).1;have h1:=(aeD.1 h) k (by simpa using hlt);simp only [hl,hk,ahf,anW,Bool.not_true,Bool.false_or]at h1;obtain ⟨m,hm,rfl⟩:=Array.getElem_of_mem he;have h2:=Array.all_eq_true.1 h1 m hm;simpa [hb] using h2
theorem aly {l:Array Bool}{j:Nat} (h:Gv ops l) (hj:j∈Region.ready .any ops l):Gv ops (l.setIfInBounds j true):=by
 obtain ⟨hun,oj,hoj,hall⟩:=mem_ready.1 hj;have hmono:∀ k,l.getD k false=true→(l.setIfInBounds j true).getD k false=true:=by
  intro k hk;by_cases hjk:j=k
  ·subst hjk;rcases amB j l.size with h'|h'
   ·simp [h']
   ·simp [aoa h']at hk
  ·simp only [ai8]at hk ⊢;rw [aof hjk];exact hk
 intro k ok hk hl e he hb;by_cases hjk:j=k
 ·subst hjk;rw [hoj]at hk;cases hk;exact hmono _ (hall e he hb)
 ·refine hmono _ (h k ok hk ?_ e he hb);simp only [ai8]at hl ⊢;rw [aof hjk]at hl;exact hl
theorem ab1 {l:Array Bool} (hs:Gv ops l) (i:Nat):∀ (n j:Nat),waitsFor ops i n j=true→(∀ oj,ops[j]?=some oj→∀ e∈oj.after,Region.binds .any e=true→l.getD e.on false=true)→l.getD i false=true
 |0,_,h,_=>by cases h
 |n+1,j,h,hj=>by
  unfold waitsFor at h;cases ho:ops[j]? with
  |none=>rw [ho]at h;simp at h
  |some o=>
   rw [ho]at h;simp only [ahf,anW,Bool.or_eq_true]at h;rcases h with h|h
   ·obtain ⟨k,hk,h2⟩:=Array.any_eq_true.1 h;simp only [adg,ai7]at h2;rw [← h2.2];exact hj o ho _ (Array.getElem_mem hk) h2.1
   ·obtain ⟨k,hk,h2⟩:=Array.any_eq_true.1 h;simp only [adg]at h2;have hl:=hj o ho _ (Array.getElem_mem hk) h2.1;exact ab1 hs i n _ h2.2 (fun ok hok=>hs _ ok hok hl)
theorem ab8 {i:Nat}{oi:Oper}{v:Value}{S:World→Prop} (hi:ops[i]?=some oi) (hsel:∀ (j:Nat) (o:Oper) cs b,ops[j]?=some o→o.op ≠ .select cs b)
  (hQ:∀ c a w,Q (.panic c) (a.put oi.dst v) w→Q (.panic c) a w)
  (hS:∀ j,waitsFor ops i 8 j=false→j≠i→∀ w w',S w→keeps late G j w w'→S w') :
  ∀ (n:Nat) (l:Array Bool) (a:Act) (w:World),Gv ops l →
   (∀ j oj,ops[j]?=some oj→j≠i→l.getD j true=false→(∀ e∈oj.after,Region.binds .any e=true→e.on≠i)→oi.apart ops oj=true) →
   i∈Region.ready .any ops l→YieldsIf P ops S oi v a→S w →
   jm P ops Q late G n (l.setIfInBounds i true) (a.put oi.dst v) w→jm P ops Q late G (n+1) l a w:=by
 intro n
 induction n with
 |zero=>
  intro l a w _ _ hr hy hs H;refine ⟨(fun h=>(by rw [h]at hr;cases hr)),fun j hj=>?_⟩;by_cases hji:j=i
  ·subst hji;exact hy.wpOp hi hs ⟨.inr (.inr rfl),H⟩
  ·have:=ready_mono hj hji;rw [H.1]at this;cases this
 |succ n ih=>
  intro l a w hsh hfree hr hy hs H;refine ⟨(fun h=>(by rw [h]at hr;cases hr)),fun j hj=>?_⟩;by_cases hji:j=i
  ·subst hji;exact hy.wpOp hi hs ⟨.inr (.inr rfl),H⟩
  ·have h1:=H.2 j (ready_mono hj hji);obtain ⟨hjun,oj,hoj,hall⟩:=mem_ready.1 hj;have XR:l.getD i false=false:=by
    have h0:=(mem_ready.1 hr).1;rcases amB i l.size with h'|h'
    ·simp [h']at h0 ⊢;exact h0
    ·simp [aoa h']at h0
   have hnot:∀ e∈oj.after,Region.binds .any e=true→e.on≠i:=fun e he hb heq=>by
    have h1:=hall e he hb;rw [heq,XR]at h1;cases h1
   have ahi:waitsFor ops i 8 j=false:=by
    cases hw:waitsFor ops i 8 j with
    |false=>rfl
    |true=>
     have:=ab1 hsh i 8 j hw (fun o ho=>by rw [hoj]at ho;cases ho;exact hall);rw [XR]at this;cases this
   have h2:=wpOp_putIf hoj (hfree j oj hoj hji hjun hnot) (fun cs b=>hsel i oi cs b hi) (fun cs b=>hsel j oj cs b hoj) hQ hy h1
   have hfree':∀ k ok,ops[k]?=some ok→k≠i→(l.setIfInBounds j true).getD k true=false →
     (∀ e∈ok.after,Region.binds .any e=true→e.on≠i)→oi.apart ops ok=true:=fun k ok hok hki hun hno=>by
    refine hfree k ok hok hki ?_ hno;by_cases hjk:j=k
    ·subst hjk;exact hjun
    ·rw [getD_set_ne true hjk]at hun;exact hun
   refine wpOp_mono (fun a' w' h3=>⟨h3.2.1,ih (l.setIfInBounds j true) a' w' (aly hsh hj) hfree' (ready_mono hr (Ne.symm hji)) h3.1 (hS j ahi hji w w' hs h3.2.1) ?_⟩) h2;rw [Array.setIfInBounds_comm _ _ hji];exact h3.2.2
theorem pY {i:Nat}{oi:Oper}{v:Value}{n:Nat}{l:Array Bool}{a:Act}{w:World} (hi:ops[i]?=some oi)
  (hc:(Region.noSelect ops && Region.free .any ops l i && (Region.ready .any ops l).contains i && Pg ops late i && uX ops l)=true)
  (hQ:∀ c a w,Q (.panic c) (a.put oi.dst v) w→Q (.panic c) a w) (hy:YieldsIf P ops G oi v a) (hG:G w)
  (h:jm P ops Q late G n (l.setIfInBounds i true) (a.put oi.dst v) w):jm P ops Q late G (n+1) l a w:=by
 simp only [adg]at hc;obtain ⟨⟨⟨⟨hs,hf⟩,hr⟩,hl⟩,hsh⟩:=hc;refine ab8 hi (Region.noSelect_spec hs) hQ ?_ n l a w (abb hsh) (Region.free_spec hi hf) (by simpa using hr) hy hG h;intro j hno hji w w' hw hk;rcases hk with hc|hk|rfl
 ·exfalso;have h1:=(aeD.1 hl) j (by simpa using hc);rw [hno,Bool.or_false]at h1;exact hji (by simpa using h1)
 ·exact hk
 ·exact hw
theorem fO {i:Nat}{oi:Oper}{v:Value}{n:Nat}{l:Array Bool}{a:Act}{w:World} (hi:ops[i]?=some oi)
  (hc:(Region.noSelect ops && Region.free .any ops l i && (Region.ready .any ops l).contains i && uX ops l)=true)
  (hQ:∀ c a w,Q (.panic c) (a.put oi.dst v) w→Q (.panic c) a w) (hy:Yields P ops oi v a)
  (h:jm P ops Q late G n (l.setIfInBounds i true) (a.put oi.dst v) w):jm P ops Q late G (n+1) l a w:=by
 simp only [adg]at hc;obtain ⟨⟨⟨hs,hf⟩,hr⟩,hsh⟩:=hc;exact ab8 (S:=fun _=>True) hi (Region.noSelect_spec hs) hQ (fun _ _ _ _ _ _ _=>trivial) n l a w (abb hsh) (Region.free_spec hi hf) (by simpa using hr) hy.yieldsIf trivial h
theorem pX {i:Nat}{o:Oper}{n:Nat}{l:Array Bool}{a:Act}{w:World} (ho:ops[i]?=some o) (hr:Region.ready .any ops l=[i])
  (h:∀ K:Act→World→Prop,(∀ a' w',keeps late G i w w'→jm P ops Q late G n (l.setIfInBounds i true) a' w'→K a' w') →
   if Region.wanted o (yielded ops a.tmps)=true then Oper.wp P o a w K Q else K (a.put o.dst undef) w):jm P ops Q late G (n+1) l a w:=by
 refine ⟨(fun h0=>by rw [hr]at h0;cases h0),fun j hj=>?_⟩;rw [hr]at hj;obtain rfl:j=i:=by simpa using hj
 have:=h _ (fun a' w' h1 h2=>And.intro h1 h2);unfold wpOp;rw [ho];show if Region.wanted o (yielded ops a.tmps)=true then _ else _
 split
 ·rename_i hw;rw [acr hw]at this;exact .inl this
 ·rename_i hw;rw [abA hw]at this;exact this
theorem dI {n:Nat}{l:Array Bool}{a:Act}{w:World} (hr:Region.ready .any ops l=[]) (h:Q .normal a w):jm P ops Q late G n l a w:=by
 cases n with
 |zero=>exact ⟨hr,h⟩
 |succ n=>exact ⟨fun _=>h,(by rw [hr];intro i hi;cases hi)⟩
end
end Go.Sl
namespace Go.Proofs.YtihngncbioofnaaGreatDoor
open Go Go.Sl Go.ay Go.MapKept Go.RowKit
attribute [local go_sem ↓] Go.wp_at_zero Go.wp_at_succ
section
variable {w0 w:World}{F:List aH}{m fb nb b:Nat}{M:ay}{bs:List Nat}{wv:Value}{s:ByteArray}{l:Names}
theorem ahv:(Tryz.prog.info? 133).map (fun i=>(i.zero,i.size,i.bytes))=some (some (.agg #[.string ByteArray.empty,.string ByteArray.empty,.pointer none]),3,40):=by kernel_rfl
theorem YM (x:iT) (h:Sat w0 w (nI m M fb nb wv::omap .string nb (dX bs M.now)::aB 133 3 wv (M.waits.flatMap (mV bs))::F)) (hw:M.waits.length≤1099511627776) :
  Calls Tryz.prog 129 #[ptr m,.agg #[.string x.fr,.string x.to,nZ bs x]] w
   (aP fun _ w'=>∃ wv',Sat w0 w' (nI m (M.link x) fb nb wv'::omap .string nb (dX bs (M.link x).now)::aB 133 3 wv' ((M.link x).waits.flatMap (mV bs))::F)):=by
 obtain ⟨i,hi,hz0,hz1,hz2⟩:=info_parts ahv;have hb:=(h.alloc (.cells #[.string x.fr,.string x.to,nZ bs x] 133));have hon:=aiV (w:=(w.alloc (.cells #[.string x.fr,.string x.to,nZ bs x] 133)).drew) x hb.eH.drew;have c2:=hb.aY.cellAt 2 _ rfl;have b0:=hb.cellAt 0 _ rfl;have b1:=hb.cellAt 1 _ rfl;have b2:=hb.cellAt 2 _ rfl;have hoc:∀ u∈(#[.string x.fr,.string x.to,nZ bs x]:Array Value).toList,u.oneCell'=true:=by
  intro u hu;simp only [acK,ag0,aoj]at hu;rcases hu with rfl|rfl|rfl
  ·rfl
  ·rfl
  ·unfold nZ;split <;> rfl
 have hlen:(M.waits.flatMap (mV bs)).length=M.waits.length * 3:=by
  rw [List.length_flatMap];simp [mV,List.map_const']
 have h63:(M.waits.flatMap (mV bs)).length+3≤maxLen:=by unfold maxLen;omega
 have hby:((M.waits.flatMap (mV bs)).length+3) * i.bytes≤140737488355328:=by rw [hz2];omega
 have hcs:mV bs x=(#[.string x.fr,.string x.to,nZ bs x]:Array Value).toList:=rfl;have hfin:∀ wv',nI m (M.link x) fb nb wv'=pt m (.cells #[.int .i64 M.room,.map (some fb),.map (some nb),wv',.bool M.armed,.int .i64 M.left,.bool M.off] 126 (0,0)):=fun _=>rfl;have Hcs:=uQ hcs;clear hcs;have Hlen:=uQ hlen;clear hlen;have bF:=uQ hfin;clear hfin;generalize nZ bs x=q at *
 go_enter Tryz.func129,Tryz.ntmps129;go_wp2_with fail;refine dS [5] (fun w'=>w'.cell? ⟨m,2,none⟩=some (.map (some nb))∧w'.cell? ⟨w.heap.size,0,none⟩=some (.string x.fr)∧w'.cell? ⟨w.heap.size,1,none⟩=some (.string x.to)∧w'.cell? ⟨w.heap.size,2,none⟩=some q) au ?_;have hG:=And.intro c2 (And.intro b0 (And.intro b1 b2));refine pY (i:=0) (v:=?_) rfl au (fun _ _ _ h=>h) (Or.inl ⟨by rfl,?_⟩) aQ ?_;rotate_left;focus ((intro wq hq;go_split_ands;go_simp);first|done|(with_reducible rfl))
 refine fO (i:=1) (v:=?_) rfl au (fun _ _ _ h=>h) (Or.inl ⟨by rfl,?_⟩) ?_;rotate_left;focus ((intro wq;go_simp);first|done|(with_reducible rfl))
 refine fO (i:=2) (v:=?_) rfl au (fun _ _ _ h=>h) (Or.inl ⟨by rfl,?_⟩) ?_;rotate_left;focus ((intro wq;go_simp);first|done|(with_reducible rfl))
 refine fO (i:=3) (v:=?_) rfl au (fun _ _ _ h=>h) (Or.inl ⟨by rfl,?_⟩) ?_;rotate_left;focus ((intro wq;go_simp);first|done|(with_reducible rfl))
 refine pY (i:=4) (v:=?_) rfl au (fun _ _ _ h=>h) (Or.inl ⟨by rfl,?_⟩) aQ ?_;rotate_left;focus ((intro wq hq;go_split_ands;go_simp);first|done|(with_reducible rfl))
 refine pX (i:=5) rfl au (fun K hK=>?_);go_simp;refine hon.mono ?_;rintro e w1 ⟨v,rfl,hS1⟩;refine hK _ _ (.inl rfl) ?_;clear hK K hG;refine dI au ?_;have hS2:=hS1.eH;have d3:=hS2.cellAt 3 _ rfl;have b0:=hS1.aY.cellAt 0 _ rfl;have b1:=hS1.aY.cellAt 1 _ rfl;have b2:=hS1.aY.cellAt 2 _ rfl;clear hS2;go_wp2_with fail;refine dS [7,8,9,10] (fun w'=>w'.cell? ⟨m,3,none⟩=some wv∧w'.cell? ⟨w.heap.size,0,none⟩=some (.string x.fr)∧w'.cell? ⟨w.heap.size,1,none⟩=some (.string x.to)∧w'.cell? ⟨w.heap.size,2,none⟩=some q) au ?_;have hG:=And.intro d3 (And.intro b0 (And.intro b1 b2));refine fO (i:=0) (v:=?_) rfl au (fun _ _ _ h=>h) (Or.inl ⟨by rfl,?_⟩) ?_;rotate_left;focus ((intro wq;go_simp);first|done|(with_reducible rfl))
 refine fO (i:=1) (v:=?_) rfl au (fun _ _ _ h=>h) (Or.inl ⟨by rfl,?_⟩) ?_;rotate_left;focus ((intro wq;go_simp);first|done|(with_reducible rfl))
 refine fO (i:=2) (v:=?_) rfl au (fun _ _ _ h=>h) (Or.inl ⟨by rfl,?_⟩) ?_;rotate_left;focus ((intro wq;go_simp);first|done|(with_reducible rfl))
 refine fO (i:=3) (v:=?_) rfl au (fun _ _ _ h=>h) (Or.inl ⟨by rfl,?_⟩) ?_;rotate_left;focus ((intro wq;go_simp);first|done|(with_reducible rfl))
 refine pY (i:=4) (v:=?_) rfl au (fun _ _ _ h=>h) (Or.inl ⟨by rfl,?_⟩) aQ ?_;rotate_left;focus ((intro wq hq;go_split_ands;go_simp);first|done|(with_reducible rfl))
 refine pY (i:=5) (v:=?_) rfl au (fun _ _ _ h=>h) (Or.inl ⟨by rfl,?_⟩) aQ ?_;rotate_left;focus ((intro wq hq;go_split_ands;go_simp);first|done|(with_reducible rfl))
 refine pX (i:=6) rfl au (fun K hK=>?_);go_simp;have h7:=hS1.drew.alloc (.cells #[.string x.fr,.string x.to,q] 133);have d3:=h7.iJ.cellAt 3 _ rfl;have b0:=h7.eH.cellAt 0 _ rfl;have b1:=h7.eH.cellAt 1 _ rfl;have b2:=h7.eH.cellAt 2 _ rfl;refine hK _ _ (.inr <| .inl <| And.intro d3 (And.intro b0 (And.intro b1 b2))) ?_;clear hK K;refine pX (i:=7) rfl au (fun K hK=>?_);refine step_append (w0:=w0) aj _ _ _ aj _ i _ Tryz.underlying124 hi hz0 hz1 aj oQ aj aj hoc (h7.rJ) (Bl _ _ _ 3 1 1 aj) h63 hby ?_;intro v2 w2 hS2 hne;obtain ⟨g2,n2,k2,rfl⟩:=hne (by simp);have e3:=hS2.rJ.cellAt 3 _ rfl;have g3:=hS2.rJ.oL 3;have b0:=hS2.iJ.cellAt 0 _ rfl;have b1:=hS2.iJ.cellAt 1 _ rfl;have b2:=hS2.iJ.cellAt 2 _ rfl;refine hK _ _ (.inl rfl) ?_;clear hK K;refine fO (i:=8) (v:=?_) rfl au (fun _ _ _ h=>h) (Or.inl ⟨by rfl,?_⟩) ?_;rotate_left;focus ((intro wq;go_simp);first|done|(with_reducible rfl))
 refine fO (i:=9) (v:=?_) rfl au (fun _ _ _ h=>h) (Or.inl ⟨by rfl,?_⟩) ?_;rotate_left;focus ((intro wq;go_simp);first|done|(with_reducible rfl))
 refine pX (i:=10) rfl au (fun K hK=>?_);go_simp;refine hK _ _ (.inl rfl) ?_;clear hK K;refine dI au ?_;go_wp2
 go_end0
 refine ⟨_,rfl,.slice (some ⟨g2,0,none⟩) n2 k2,?_⟩;have h9:=hS2.rJ.set 3 (.slice (some ⟨g2,0,none⟩) n2 k2);rw [bF.out];unfold ay.link;simp only [adz,ada,anX,acM];rw [Hcs.out];exact h9.sel 5 [0,3,1] rfl rfl
end
section
variable {w0 w:World}{F:List aH}{m fb nb b:Nat}{M:ay}{bs:List Nat}{wv v:Value}{s:ByteArray}{l:Bs}
theorem aX (l:Bs):(aA l).length=l.length:=by simp [aA]
theorem vS (l:Bs):∀ u∈aA l,u.oneCell'=true:=by
 intro u hu;obtain ⟨b,_,rfl⟩:=abZ.1 hu
 rfl
theorem zO (l k:Bs):aA (l++k)=aA l++aA k:=by simp [aA]
theorem aez (l:Bs) (n:Nat):aA (l.take n)=(aA l).take n:=by simp [aA,anw]
theorem zS (h:Sat w0 w F) (hr:bG 1 v (aA l) w) (hl:l.length≤140737488355328) :
  Calls Tryz.prog 91 #[v] w (aP fun v' w'=>Sat w0 w' (bK v' l::F)∧∃ a n c,v' = .slice a n c):=by
 obtain ⟨a,n,c,rfl,hn,hc⟩:=hr;rw [aX,adb]at hn;subst hn;cases a with
 |none=>
  have:l=[]:=by
   cases l with
   |nil=>rfl
   |cons x l=>obtain ⟨b,hb,_⟩:=hc 0 _ rfl;cases hb
  subst this;refine (Tryz.bytes_Clone_nil 0 c w).mono ?_;rintro e w1 ⟨rfl,rfl⟩;exact ⟨_,rfl,Sat.gI.2 h,_,_,_,rfl⟩
 |some a=>
  refine (Tryz.bytes_Clone_at a l.length c (l.map fun b=>(b.toNat:Int)) w (by simp) hl ?_).mono ?_
  ·intro i hi;obtain ⟨b,hb,hx⟩:=hc i (.int .u8 (l[i]).toNat) (by simp [aA,hi]);cases hb;rw [hx];simp [hi]
  ·rintro e w1 ⟨v',rfl,ho,hne,hb⟩;obtain ⟨hlen,hv|⟨g,cap,cur,rfl,hbg,hg,hnc,hcm,hcs,htk⟩⟩:=ho
   ·exact absurd hv.1 hne
   ·refine ⟨_,rfl,?_,_,_,_,rfl⟩;refine (h.fresh hb.os hb.tape hb.output hb.size hbg hg hb.block).kR ?_ hnc oQ hcm ?_
    ·rw [aX];omega
    ·rw [htk];simp [aA]
def NK (c:jd) (bv:Value):Value:= .agg #[.bool c.cut,.int .i64 c.n,bv]
theorem aeJ (n:Nat) (bv:Value) (h:Sat w0 w (bK v l::F)) (hn:n≤l.length) :
  Calls Tryz.prog 118 #[.agg #[.bool true,.int .i64 n,bv],v] w (aP fun v' w'=>Sat w0 w' (bK v' (l.take n)::F)∧∃ a n c,v' = .slice a n c):=by
 have hb:=(h.alloc (.cells #[.bool true,.int .i64 n,bv] 199));have b0:=hb.cellAt 0 _ rfl;have b1:=hb.cellAt 1 _ rfl;rcases hb.aY.kP with ⟨rfl,hl,h'⟩|⟨g,m,cap,cs,rfl,hl,hm,hc,hcm,htk,hp⟩
 ·have hl0:l=[]:=by simpa [aA] using hl
  subst hl0;obtain rfl:n=0:=by simpa using hn
  go_enter Tryz.func118,Tryz.ntmps118;go_wp2;go_ret;exact ⟨_,rfl,Sat.gI.2 h'.drop,_,_,_,rfl⟩
 ·rw [aX,adb]at hl;subst hl;have e1:(n:Int)≤(cap:Int):=by omega
  have e0:(0:Int)≤(n:Int):=by omega
  have gY:=uQ htk;clear htk;have hfin:Sat w0 (w.alloc (.cells #[.bool true,.int .i64 n,bv] 199)) (bK (.slice (some ⟨g,0,none⟩) n n) (l.take n)::F):=by
   refine (hp.aY.drop).kR ?_ (abL _) oQ oQ ?_
   ·rw [aX,acA];omega
   ·rw [aez,← gY.out];simp [List.take_take,aoe hn]
  go_enter Tryz.func118,Tryz.ntmps118;go_wp2;go_ret;exact ⟨_,rfl,hfin,_,_,_,rfl⟩
theorem uK:∃ i:TypeInfo,Tryz.prog.info? 5=some i∧i.zero=some (.int .u8 0)∧i.size=1∧i.bytes=1:=by
 obtain ⟨i,hi,hz0,hz1,hz2⟩:=info_parts info8;exact ⟨i,hi,hz0,hz1,hz2⟩
theorem aeH (n:Int) (bv:Value) (cb:Bs) (h:Sat w0 w (bK v l::F)) (hr:Ro w0 F (bG 1 bv (aA cb))) (hl:l.length+cb.length≤140737488355328) (hbv:∃ a n c,bv = .slice a n c) :
  Calls Tryz.prog 118 #[.agg #[.bool false,.int .i64 n,bv],v] w (aP fun v' w'=>Sat w0 w' (bK v' (l++cb)::F)∧∃ a n c,v' = .slice a n c):=by
 obtain ⟨i,hi,hz0,hz1,hz2⟩:=uK;have hb:=(h.alloc (.cells #[.bool false,.int .i64 n,bv] 199));have b0:=hb.cellAt 0 _ rfl;have b2:=hb.cellAt 2 _ rfl;have hcl:=zS hb.drew hb.drew.aY.rd oQ;have h63:(aA l).length+(aA cb).length≤maxLen:=by rw [aX,aX];unfold maxLen;omega
 have hby:((aA l).length+(aA cb).length) * i.bytes≤140737488355328:=by rw [aX,aX,hz2];omega
 obtain ⟨ba,bn,bc,rfl⟩:=hbv;go_enter Tryz.func118,Tryz.ntmps118;go_wp2_with fail;refine dS [4,5] (fun w'=>w'.cell? ⟨w.heap.size,2,none⟩=some (.slice ba bn bc)) au ?_;refine fO (i:=0) (v:=?_) rfl au (fun _ _ _ h=>h) (Or.inl ⟨by rfl,?_⟩) ?_;rotate_left;focus ((intro wq;go_simp);first|done|(with_reducible rfl))
 refine fO (i:=2) (v:=?_) rfl au (fun _ _ _ h=>h) (Or.inl ⟨by rfl,?_⟩) ?_;rotate_left;focus ((intro wq;go_simp);first|done|(with_reducible rfl))
 refine pY (i:=3) (v:=?_) rfl au (fun _ _ _ h=>h) (Or.inl ⟨by rfl,?_⟩) aQ ?_;rotate_left;focus ((intro wq hq;go_split_ands;go_simp);first|done|(with_reducible rfl))
 refine pX (i:=1) rfl au (fun K hK=>?_);go_simp;refine hcl.mono ?_;rintro e w1 ⟨v1,rfl,hS1,a1,n1,c1,rfl⟩;have b2:=hS1.aY.cellAt 2 _ rfl;refine hK _ _ (.inr (.inl b2)) ?_;clear hK K;refine pX (i:=4) rfl au (fun K hK=>?_);refine step_append (w0:=w0) aj _ _ _ aj _ i _ Tryz.underlying39 hi hz0 hz1 aj oQ aj aj (vS cb) hS1 (hr _ hS1.drop.drop.drop) h63 hby ?_;intro v2 w2 hS2 _;refine hK _ _ (.inl rfl) ?_;clear hK K;refine fO (i:=5) (v:=?_) rfl au (fun _ _ _ h=>h) (Or.inl ⟨by rfl,?_⟩) ?_;rotate_left;focus ((intro wq;go_simp);first|done|(with_reducible rfl))
 refine dI au ?_;go_wp2;go_ret;have h9:=hS2.sel 3 [0] rfl rfl;have hsh:=hS2.rd;obtain ⟨a2,n2,c2,rfl,_⟩:=hsh;refine ⟨_,rfl,?_,_,_,_,rfl⟩;unfold bK;rw [zO];exact h9
end
section
variable {w0 w:World}{F:List aH}{m fb nb b:Nat}{M:ay}{bs:List Nat}{wv v bv:Value}{s:ByteArray}{l:Bs}{f:bH}
def Vz (c:jd) (l:Bs):Prop:=(c.cut=true→c.n≤l.length)∧(c.cut=false→l.length+c.b.length≤140737488355328)
theorem aeI (c:jd) (h:Sat w0 w (bK v l::F)) (hr:Ro w0 F (bG 1 bv (aA c.b))) (hbv:∃ a n c,bv = .slice a n c) (hc:Vz c l) :
  Calls Tryz.prog 118 #[NK c bv,v] w (aP fun v' w'=>Sat w0 w' (bK v' (c.on l)::F)∧∃ a n c,v' = .slice a n c):=by
 obtain ⟨cut,n,cb⟩:=c;cases cut
 ·exact aeH n bv cb h hr (hc.2 rfl) hbv
 ·exact aeJ n bv h (hc.1 rfl)
theorem IW (h:Sat w0 w (bK v l::F)):∃ a n c,v = .slice a n c:=by
 obtain ⟨a,n,c,rfl,_⟩:=h.rd;exact ⟨a,n,c,rfl⟩
theorem Ro.bK {R:List aH} (v:Value) (l:Bs):Ro w0 (bK v l::R) (bG 1 v (aA l)):=fun w hw=>hw.rd
theorem ahs:(Tryz.prog.info? 199).map (fun i=>(i.zero,i.size,i.bytes))=some (some (.agg #[.bool false,.int .i64 0,.slice none 0 0]),3,40):=by kernel_rfl
theorem aeK (ws:List (jd×Value)) (p:jd×Value):uD (ws++[p])=star (uD ws) (bK p.2 p.1.b):=by
 unfold uD;rw [acI,qy];simp [DF]
theorem afl {fv nv:Value}{ws:List (jd×Value)} (c:jd) (h:Sat w0 w (D7 b f fv nv wv ws++bK bv c.b::F)) (hws:ws.map (·.1)=f.waits) (hc:Vz c f.now) (hw:f.waits.length≤1099511627776) :
  Calls Tryz.prog 177 #[ptr b,NK c bv] w (aP fun _ w'=>Sat w0 w' (kG b (f.do c)::F)):=by
 obtain ⟨i,hi,hz0,hz1,hz2⟩:=info_parts ahs;obtain ⟨ba,bn,bc,rfl⟩:=IW (h.sel 6 [5] rfl rfl);have hb:=h.alloc (.cells #[.bool c.cut,.int .i64 c.n,.slice ba bn bc] 199);have hb':Sat w0 _ (bK nv f.now::bK (.slice ba bn bc) c.b::pt w.heap.size _::CB b fv nv wv::bK fv f.fast::aB 199 3 wv (ws.flatMap vT)::uD ws::F):=hb.sel 7 [3,6,0,1,2,4,5] rfl rfl;have hon:=aeI c hb'.drew (Ro.bK _ _) ⟨_,_,_,rfl⟩ hc;obtain ⟨na,nn,nc,rfl⟩:=IW hb';have b0:=hb.cellAt 0 _ rfl;have b1:=hb.cellAt 1 _ rfl;have b2:=hb.cellAt 2 _ rfl;have c1:=hb.aY.cellAt 1 _ rfl;have hoc:∀ u∈(#[.bool c.cut,.int .i64 c.n,.slice ba bn bc]:Array Value).toList,u.oneCell'=true:=by
  intro u hu;simp only [acK,ag0,aoj]at hu;rcases hu with rfl|rfl|rfl <;> rfl
 have hwl:ws.length=f.waits.length:=by rw [← hws];simp
 have hlen:(ws.flatMap vT).length=f.waits.length * 3:=by
  rw [List.length_flatMap,← hwl];simp [vT,List.map_const']
 have h63:(ws.flatMap vT).length+3≤maxLen:=by unfold maxLen;omega
 have hby:((ws.flatMap vT).length+3) * i.bytes≤140737488355328:=by rw [hz2];omega
 have Hlen:=uQ hlen;clear hlen;have Hws:=uQ hws;clear hws;have Hwl:=uQ hwl;clear hwl;unfold NK at *
 go_enter Tryz.func177,Tryz.ntmps177;go_wp2_with fail;refine dS [6,7,8,9] (fun w'=>w'.cell? ⟨b,1,none⟩=some (.slice na nn nc)∧w'.cell? ⟨w.heap.size,0,none⟩=some (.bool c.cut)∧w'.cell? ⟨w.heap.size,1,none⟩=some (.int .i64 c.n)∧w'.cell? ⟨w.heap.size,2,none⟩=some (.slice ba bn bc)) au ?_;have hG:=And.intro c1 (And.intro b0 (And.intro b1 b2));refine fO (i:=0) (v:=?_) rfl au (fun _ _ _ h=>h) (Or.inl ⟨by rfl,?_⟩) ?_;rotate_left;focus ((intro wq;go_simp);first|done|(with_reducible rfl))
 refine pY (i:=1) (v:=?_) rfl au (fun _ _ _ h=>h) (Or.inl ⟨by rfl,?_⟩) aQ ?_;rotate_left;focus ((intro wq hq;go_split_ands;go_simp);first|done|(with_reducible rfl))
 refine fO (i:=2) (v:=?_) rfl au (fun _ _ _ h=>h) (Or.inl ⟨by rfl,?_⟩) ?_;rotate_left;focus ((intro wq;go_simp);first|done|(with_reducible rfl))
 refine fO (i:=3) (v:=?_) rfl au (fun _ _ _ h=>h) (Or.inl ⟨by rfl,?_⟩) ?_;rotate_left;focus ((intro wq;go_simp);first|done|(with_reducible rfl))
 refine fO (i:=4) (v:=?_) rfl au (fun _ _ _ h=>h) (Or.inl ⟨by rfl,?_⟩) ?_;rotate_left;focus ((intro wq;go_simp);first|done|(with_reducible rfl))
 refine pY (i:=5) (v:=?_) rfl au (fun _ _ _ h=>h) (Or.inl ⟨by rfl,?_⟩) aQ ?_;rotate_left;focus ((intro wq hq;go_split_ands;go_simp);first|done|(with_reducible rfl))
 refine pX (i:=6) rfl au (fun K hK=>?_);go_simp;refine hon.mono ?_;rintro e w1 ⟨v1,rfl,hS1,a1,n1,k1,rfl⟩;refine hK _ _ (.inl rfl) ?_;clear hK K;refine fO (i:=7) (v:=?_) rfl au (fun _ _ _ h=>h) (Or.inl ⟨by rfl,?_⟩) ?_;rotate_left;focus ((intro wq;go_simp);first|done|(with_reducible rfl))
 refine fO (i:=8) (v:=?_) rfl au (fun _ _ _ h=>h) (Or.inl ⟨by rfl,?_⟩) ?_;rotate_left;focus ((intro wq;go_simp);first|done|(with_reducible rfl))
 have d1:=hS1.iJ.cellAt 1 _ rfl;have g1:=hS1.iJ.oL 1;refine pX (i:=9) rfl au (fun K hK=>?_);go_simp;refine hK _ _ (.inl rfl) ?_;clear hK K hG;refine dI au ?_;have hS2:=hS1.iJ.set 1 (.slice a1 n1 k1);generalize w1.setCell _ _=w2 at *
 clear d1 g1;have d2:=hS2.cellAt 2 _ rfl;have b0:=hS2.iJ.cellAt 0 _ rfl;have b1:=hS2.iJ.cellAt 1 _ rfl;have b2:=hS2.iJ.cellAt 2 _ rfl;go_wp2_with fail;refine dS [7,8,9,10] (fun w'=>w'.cell? ⟨b,2,none⟩=some wv∧w'.cell? ⟨w.heap.size,0,none⟩=some (.bool c.cut)∧w'.cell? ⟨w.heap.size,1,none⟩=some (.int .i64 c.n)∧w'.cell? ⟨w.heap.size,2,none⟩=some (.slice ba bn bc)) au ?_;have hG:=And.intro d2 (And.intro b0 (And.intro b1 b2));refine fO (i:=0) (v:=?_) rfl au (fun _ _ _ h=>h) (Or.inl ⟨by rfl,?_⟩) ?_;rotate_left;focus ((intro wq;go_simp);first|done|(with_reducible rfl))
 refine fO (i:=1) (v:=?_) rfl au (fun _ _ _ h=>h) (Or.inl ⟨by rfl,?_⟩) ?_;rotate_left;focus ((intro wq;go_simp);first|done|(with_reducible rfl))
 refine fO (i:=2) (v:=?_) rfl au (fun _ _ _ h=>h) (Or.inl ⟨by rfl,?_⟩) ?_;rotate_left;focus ((intro wq;go_simp);first|done|(with_reducible rfl))
 refine fO (i:=3) (v:=?_) rfl au (fun _ _ _ h=>h) (Or.inl ⟨by rfl,?_⟩) ?_;rotate_left;focus ((intro wq;go_simp);first|done|(with_reducible rfl))
 refine pY (i:=4) (v:=?_) rfl au (fun _ _ _ h=>h) (Or.inl ⟨by rfl,?_⟩) aQ ?_;rotate_left;focus ((intro wq hq;go_split_ands;go_simp);first|done|(with_reducible rfl))
 refine pY (i:=5) (v:=?_) rfl au (fun _ _ _ h=>h) (Or.inl ⟨by rfl,?_⟩) aQ ?_;rotate_left;focus ((intro wq hq;go_split_ands;go_simp);first|done|(with_reducible rfl))
 refine pX (i:=6) rfl au (fun K hK=>?_);go_simp;have h7:=hS2.drew.alloc (.cells #[.bool c.cut,.int .i64 c.n,.slice ba bn bc] 199);have d2:=h7.aY.cellAt 2 _ rfl;have b0:=h7.rJ.cellAt 0 _ rfl;have b1:=h7.rJ.cellAt 1 _ rfl;have b2:=h7.rJ.cellAt 2 _ rfl;refine hK _ _ (.inr <| .inl <| And.intro d2 (And.intro b0 (And.intro b1 b2))) ?_;clear hK K;have h8:Sat w0 _ (aB 199 3 wv (ws.flatMap vT)::CB b fv (.slice a1 n1 k1) wv::bK (.slice a1 n1 k1) (c.on f.now)::bK (.slice ba bn bc) c.b::bK fv f.fast::uD ws::pt w.heap.size _::F):=h7.sel 8 [6,1,2,3,5,7,4] rfl rfl;refine pX (i:=7) rfl au (fun K hK=>?_);refine step_append (w0:=w0) aj _ _ _ aj _ i _ Tryz.underlying128 hi hz0 hz1 aj oQ aj aj hoc h8 (Bl _ _ _ 3 1 1 aj) h63 hby ?_;intro v2 w3 hS3 hne;obtain ⟨g2,n2,k2,rfl⟩:=hne (by simp);have e2:=hS3.aY.cellAt 2 _ rfl;have g3:=hS3.aY.oL 2;have b0:=(hS3.sel 7 [6] rfl rfl).cellAt 0 _ rfl
 have b1:=(hS3.sel 7 [6] rfl rfl).cellAt 1 _ rfl;have b2:=(hS3.sel 7 [6] rfl rfl).cellAt 2 _ rfl;refine hK _ _ (.inl rfl) ?_;clear hK K;refine fO (i:=8) (v:=?_) rfl au (fun _ _ _ h=>h) (Or.inl ⟨by rfl,?_⟩) ?_;rotate_left;focus ((intro wq;go_simp);first|done|(with_reducible rfl))
 refine fO (i:=9) (v:=?_) rfl au (fun _ _ _ h=>h) (Or.inl ⟨by rfl,?_⟩) ?_;rotate_left;focus ((intro wq;go_simp);first|done|(with_reducible rfl))
 refine pX (i:=10) rfl au (fun K hK=>?_);go_simp;refine hK _ _ (.inl rfl) ?_;clear hK K;refine dI au ?_;go_wp2
 go_end0
 refine ⟨_,rfl,?_⟩;have h9:=hS3.aY.set 2 (.slice (some ⟨g2,0,none⟩) n2 k2);refine kG.shut (fv:=fv) (nv:= .slice a1 n1 k1) (wv:= .slice (some ⟨g2,0,none⟩) n2 k2) (ws:=ws++[(c,.slice ba bn bc)]) ?_ ?_
 ·rw [acI,Hws.out];rfl
 ·have h10:Sat w0 _ (bK (.slice ba bn bc) c.b::uD ws::CB b fv (.slice a1 n1 k1) (.slice (some ⟨g2,0,none⟩) n2 k2)::bK fv f.fast::bK (.slice a1 n1 k1) (c.on f.now)::aB 199 3 (.slice (some ⟨g2,0,none⟩) n2 k2) (ws.flatMap vT++[.bool c.cut,.int .i64 c.n,.slice ba bn bc])::F):=h9.sel 7 [3,5,0,4,2,1] rfl rfl;have h11:=Sat.star.2 h10.aY;rw [← aeK ws (c,.slice ba bn bc)]at h11;unfold D7;rw [adz];simp only [ada,anX,acM,vT];exact h11.sel 5 [1,2,3,4,0] rfl rfl
end
section
variable {w:World}{s:ByteArray}
theorem agC (c:UInt8):nU c=decide ((97≤(c.toNat:Int)∧(c.toNat:Int)≤122)∨(48≤(c.toNat:Int)∧(c.toNat:Int)≤57)∨(c.toNat:Int)=46∨(c.toNat:Int)=45):=by
 rw [anu];have e1:∀ k:UInt8,(c==k)=decide (c.toNat=k.toNat):=fun k=>by
  rw [anu];simp [UInt8.toNat_inj]
 simp only [nU,Bool.or_eq_true,adg,acF,UInt8.le_iff_toNat_le,e1];simp only [UInt8.reduceToNat];omega
theorem adZ (l:List UInt8) (k:Nat) (h:k<l.length):(l.take (k+1)).all nU=((l.take k).all nU && nU l[k]):=by
 rw [agm h,ahh];simp
theorem Xk (s:ByteArray) (w:World) (hs:s.size≤9223372036854775807) :
  Calls Tryz.prog 176 #[.string s] w (aP fun v w'=>v = .bool (good s)∧w=w'):=by
 go_enter Tryz.func176,Tryz.ntmps176;by_cases h1:(s.size:Int)<1
 ·go_wp2;go_ret;exact ⟨.bool false,rfl,by rw [show good s=false from by unfold good;simp;omega],rfl⟩
 by_cases h2:24<(s.size:Int)
 ·have h1':decide ((s.size:Int)<1)=false:=by simpa using h1
  go_wp2;go_ret;exact ⟨.bool false,rfl,by rw [show good s=false from by unfold good;simp;omega],rfl⟩
 have h1':decide ((s.size:Int)<1)=false:=by simpa using h1
 have h2':decide (24<(s.size:Int))=false:=by simpa using h2
 go_wp2
 go_loop [15] (fun i=>∃ k:Nat,k≤s.size∧i = .int .i64 k∧(s.data.toList.take k).all nU=true) (fun i=>s.size - (intOf i).toNat)
 case atStart=>exact ⟨0,acV _,rfl,by simp⟩
 case round=>
  obtain ⟨k,hk,rfl,hall⟩:=hrel;have vg:=uQ hall;clear hall;by_cases hlt:k<s.size
  ·have Hc:=uQ (agC s[k]);have Hn:=uQ (adZ s.data.toList k (by simpa using hlt));have hcls:(s[k].toNat:Int)≤44∨(s[k].toNat:Int)=45∨(s[k].toNat:Int)=46∨(s[k].toNat:Int)=47∨(48≤(s[k].toNat:Int)∧(s[k].toNat:Int)≤57)∨(58≤(s[k].toNat:Int)∧(s[k].toNat:Int)≤96)∨(97≤(s[k].toNat:Int)∧(s[k].toNat:Int)≤122)∨123≤(s[k].toNat:Int):=by omega
   have hbad:nU s[k]=false→good s=false:=by
    intro hgc;unfold good;have:s.data.toList.all nU=false:=by
     rw [List.all_eq_false];exact ⟨s[k],by exact aot (by simpa using hlt),by simpa using hgc⟩
    rw [this];simp
   have vk:=uQ hbad;clear hbad;have hgd:nU s[k]=true→(s.data.toList.take (k+1)).all nU=true:=by
    intro hgc;rw [Hn.out,vg.out];exact hgc
   have Ih:=uQ hgd;clear hgd;rcases hcls with g1|g1|g1|g1|⟨g1,g2⟩|⟨g1,g2⟩|⟨g1,g2⟩|g1
   ·have Nr:((s[k].toNat:Int)==46)=false:=by rw [acH];omega
    have Nq:((s[k].toNat:Int)==45)=false:=by rw [acH];omega
    go_wp2;go_ret;exact ⟨.bool false,rfl,by rw [vk.out (by rw [Hc.out];simp;omega)],rfl⟩
   ·go_wp2
    go_round
    case rel=>exact ⟨k+1,by omega,by go_num,Ih.out (by rw [Hc.out];simp;omega)⟩
    case measure=>simp [intOf];omega
   ·go_wp2
    go_round
    case rel=>exact ⟨k+1,by omega,by go_num,Ih.out (by rw [Hc.out];simp;omega)⟩
    case measure=>simp [intOf];omega
   ·have Nr:((s[k].toNat:Int)==46)=false:=by rw [acH];omega
    have Nq:((s[k].toNat:Int)==45)=false:=by rw [acH];omega
    go_wp2;go_ret;exact ⟨.bool false,rfl,by rw [vk.out (by rw [Hc.out];simp;omega)],rfl⟩
   ·go_wp2
    go_round
    case rel=>exact ⟨k+1,by omega,by go_num,Ih.out (by rw [Hc.out];simp;omega)⟩
    case measure=>simp [intOf];omega
   ·have b57:decide ((s[k].toNat:Int)≤57)=false:=by simp;omega
    have Nr:((s[k].toNat:Int)==46)=false:=by rw [acH];omega
    have Nq:((s[k].toNat:Int)==45)=false:=by rw [acH];omega
    go_wp2;go_ret;exact ⟨.bool false,rfl,by rw [vk.out (by rw [Hc.out];simp;omega)],rfl⟩
   ·go_wp2
    go_round
    case rel=>exact ⟨k+1,by omega,by go_num,Ih.out (by rw [Hc.out];simp;omega)⟩
    case measure=>simp [intOf];omega
   ·have anp:decide ((s[k].toNat:Int)≤122)=false:=by simp;omega
    have b57:decide ((s[k].toNat:Int)≤57)=false:=by simp;omega
    have Nr:((s[k].toNat:Int)==46)=false:=by rw [acH];omega
    have Nq:((s[k].toNat:Int)==45)=false:=by rw [acH];omega
    go_wp2;go_ret;exact ⟨.bool false,rfl,by rw [vk.out (by rw [Hc.out];simp;omega)],rfl⟩
  ·go_wp2;go_ret;refine ⟨.bool true,rfl,?_,rfl⟩;have:k=s.size:=by omega
   subst this;have:=vg.out;rw [acX (by simp)]at this;rw [show good s=true from by unfold good;simp only [this];simp;omega]
end
end Go.Proofs.YtihngncbioofnaaGreatDoor
