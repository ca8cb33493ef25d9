import Derived.Sort.Walk0
import Derived.WalkKit
import Derived.Maps.OwnSet
import Derived.Lib.Hide
import Derived.Maps.RangeWalk
import Derived.Maps.AppendAt
import Derived.Test.YtadhomdmbcldkaaGreatDoorChecked
import Derived.WalkLawsBesides
import Derived.WalkSpells
import Derived.OrdersHeld
import Derived.Deep.RegionHeld3
import Derived.Deep.DrawnRows
import Derived.Test.YtadhomdmbcldkaaGreatDoorShelf
import Derived.Deep.LoopGhost
import Derived.Sort.OwnSorted
import Derived.Laws.BitsAllLaws
import Derived.Laws.Strings
import Derived.Deep.Slices
import Derived.ProofKit
import Derived.OpenShut
import Derived.ShutString
import Derived.ChangeOld
import Derived.Below
import Derived.ChangeKeysEq
import Derived.Laws.Rows
import Derived.Laws.OwnMore
import Derived.Laws.CopyOwn
import Derived.Lib.SlBytesConst
import Derived.Laws.IdiomStrings
import Derived.Deep.MidRow
import Derived.Laws.ResultCell
import Derived.Lib.BufferRead
import Derived.Lib.Bytealg
import Derived.Lib.BytesEntry
import Derived.Sort.Grow
import Derived.Shelf.SlSortCmp.WholeK
import Derived.Shelf.SlSortCmp.NoneTotal
import Derived.Test.YtadhomdmbcldkaaGreatDoorSort
import Derived.RangeFuncNested
import Derived.RangeFuncLeaves
import Derived.TacticsIn
import Derived.OrdersIn
import Derived.Laws.Slices
import Derived.Laws.StructEq
import Derived.Lib.ConvBytes
import Derived.ArgAppend
import Derived.Test.YtadhomdmbcldkaaGreatDoorRows
import Derived.Test.YtadhomdmbcldkaaGreatDoorCards
import Derived.Test.YtadhomdmbcldkaaGreatDoorTie
import Derived.LaidMore
import Derived.SevenTiedAt
set_option linter.unusedSimpArgs false
variable {H I:Prop}
open Go.Proofs.Tryz
theorem Go.RowKit.Hid.o{p:Prop} (h:Go.RowKit.Hid p):p:=h
namespace Go.Proofs.YtadhomdmbcldkaaGreatDoor
end Go.Proofs.YtadhomdmbcldkaaGreatDoor
theorem yD0(h:H:=by simp):H:=h
theorem yJ0(h:H:=by simpa using h):H:=h
theorem zC0(h:H:=by rw [wZ.o];kernel_rfl):H:=h
set_option linter.unusedVariables false
theorem aC(h:H:=by kernel_rfl):H:=h
theorem aA(h:H:=by rfl):H:=h
theorem aU(h:H:=by decide):H:=h
theorem dF(h:H:=by intro _ _ _ h;exact h):H:=h
namespace Go
theorem aaf:type_of% @List.getElem?_eq_getElem:=@List.getElem?_eq_getElem
theorem aay:type_of% @List.length_append:=@List.length_append
theorem abl:type_of% @List.length_map:=@List.length_map
theorem abA:type_of% @List.length_take:=@List.length_take
theorem abB:type_of% @if_neg:=@if_neg
theorem abC:type_of% @List.size_toArray:=@List.size_toArray
theorem abG:type_of% @Nat.le_refl:=@Nat.le_refl
theorem abH:type_of% @List.mem_of_getElem?:=@List.mem_of_getElem?
theorem abI:type_of% @List.mem_map:=@List.mem_map
theorem abJ:type_of% @List.length_drop:=@List.length_drop
theorem abL:type_of% @if_pos:=@if_pos
theorem abM:type_of% @List.getElem?_eq_some_iff:=@List.getElem?_eq_some_iff
theorem abQ:type_of% @Nat.le_trans:=@Nat.le_trans
theorem abR:type_of% @Go.IntWalk.i64_in:=@Go.IntWalk.i64_in
theorem abY:type_of% @List.getD_eq_getElem?_getD:=@List.getD_eq_getElem?_getD
theorem ab4:type_of% @List.getElem?_map:=@List.getElem?_map
theorem ab5:type_of% @List.getElem?_toArray:=@List.getElem?_toArray
theorem ab6:type_of% @List.append_assoc:=@List.append_assoc
theorem ab9:type_of% @List.mem_cons:=@List.mem_cons
theorem acj:type_of% @beq_eq_false_iff_ne:=@beq_eq_false_iff_ne
theorem acn:type_of% @Nat.zero_le:=@Nat.zero_le
theorem acy:type_of% @List.map_append:=@List.map_append
theorem acz:type_of% @Go.Result.andThen_ok:=@Go.Result.andThen_ok
theorem acE:type_of% @List.take_of_length_le:=@List.take_of_length_le
theorem acS:type_of% @List.mem_singleton:=@List.mem_singleton
theorem ad2:type_of% @decide_eq_true_eq:=@decide_eq_true_eq
theorem aes:type_of% @decide_eq_false:=@decide_eq_false
theorem agQ:type_of% @List.toList_toArray:=@List.toList_toArray
theorem ahc:type_of% @List.mem_append:=@List.mem_append
theorem ahB:type_of% @List.append_nil:=@List.append_nil
theorem ahN:type_of% @Array.length_toList:=@Array.length_toList
theorem aii:type_of% @Go.Sem.run_bind:=@Go.Sem.run_bind
theorem aij:type_of% @List.map_cons:=@List.map_cons
theorem aiC:type_of% @decide_eq_true:=@decide_eq_true
theorem aiN:type_of% @List.flatMap_cons:=@List.flatMap_cons
theorem aiO:type_of% @Nat.zero_add:=@Nat.zero_add
theorem aiP:type_of% @List.getElem?_append_right:=@List.getElem?_append_right
theorem aiR:type_of% @Nat.mul_one:=@Nat.mul_one
theorem aiS:type_of% @List.getElem?_append_left:=@List.getElem?_append_left
theorem aiT:type_of% @List.length_cons:=@List.length_cons
theorem aiU:type_of% @List.drop_of_length_le:=@List.drop_of_length_le
theorem aiV:type_of% @Go.Sem.run_pure:=@Go.Sem.run_pure
theorem aiW:type_of% @Nat.succ_le_of_lt:=@Nat.succ_le_of_lt
theorem aiX:type_of% @congrArg:=@congrArg
theorem aiY:type_of% @Go.IntKind.wrap_i64:=@Go.IntKind.wrap_i64
theorem ai0:type_of% @List.take_length:=@List.take_length
theorem ai4:type_of% @List.mem_filter:=@List.mem_filter
theorem ai5:type_of% @List.flatMap_append:=@List.flatMap_append
theorem ai8:type_of% @List.length_singleton:=@List.length_singleton
theorem ai9:type_of% @decide_eq_false_iff_not:=@decide_eq_false_iff_not
theorem aja:type_of% @List.take_append_drop:=@List.take_append_drop
theorem ajc:type_of% @List.nil_append:=@List.nil_append
theorem ajf:type_of% @List.take_add_one:=@List.take_add_one
theorem ajg:type_of% @Bool.and_eq_true:=@Bool.and_eq_true
theorem ajj:type_of% @List.take_append_of_le_length:=@List.take_append_of_le_length
theorem ajk:type_of% @List.pairwise_cons:=@List.pairwise_cons
theorem ajm:type_of% @List.mem_append_left:=@List.mem_append_left
theorem ajn:type_of% @List.eq_nil_of_length_eq_zero:=@List.eq_nil_of_length_eq_zero
theorem ajo:type_of% @bne_iff_ne:=@bne_iff_ne
theorem ajq:type_of% @List.mem_of_mem_take:=@List.mem_of_mem_take
theorem ajr:type_of% @List.map_map:=@List.map_map
theorem ajs:type_of% @Go.wpList_plain:=@Go.wpList_plain
theorem aju:type_of% @List.mem_of_getLast?:=@List.mem_of_getLast?
theorem ajw:type_of% @List.length_nil:=@List.length_nil
theorem ajz:type_of% @List.map_nil:=@List.map_nil
theorem ajA:type_of% @List.take_succ_eq_append_getElem:=@List.take_succ_eq_append_getElem
theorem ajB:type_of% @List.drop_eq_getElem_cons:=@List.drop_eq_getElem_cons
theorem ajC:type_of% @List.all_eq_true:=@List.all_eq_true
theorem ajF:type_of% @List.getLast?_eq_none_iff:=@List.getLast?_eq_none_iff
theorem ajH:type_of% @Option.some.inj:=@Option.some.inj
theorem ajI:type_of% @Bool.false_eq_true:=@Bool.false_eq_true
theorem ajJ:type_of% @List.pairwise_append:=@List.pairwise_append
theorem ajK:type_of% @List.cons_append:=@List.cons_append
theorem ajM:type_of% @List.length_replicate:=@List.length_replicate
theorem ajN:type_of% @List.take_zero:=@List.take_zero
theorem ajU:type_of% @Go.IntWalk.wrap64_in:=@Go.IntWalk.wrap64_in
theorem ajW:type_of% @List.not_mem_nil:=@List.not_mem_nil
theorem ake:type_of% @List.mem_append_right:=@List.mem_append_right
theorem akf:type_of% @Option.toList_some:=@Option.toList_some
theorem akg:type_of% @List.map_toArray:=@List.map_toArray
theorem akA:type_of% @Nat.le_succ:=@Nat.le_succ
theorem akB:type_of% @Go.run_underlying:=@Go.run_underlying
theorem akC:type_of% @List.pairwise_map:=@List.pairwise_map
theorem akW:type_of% @List.length_set:=@List.length_set
theorem ak4:type_of% @UInt8.toNat_inj:=@UInt8.toNat_inj
theorem ak5:type_of% @of_decide_eq_true:=@of_decide_eq_true
theorem ak6:type_of% @List.length_filter_le:=@List.length_filter_le
theorem ak7:type_of% @List.getElem?_take:=@List.getElem?_take
theorem alj:type_of% @beq_iff_eq:=@beq_iff_eq
theorem alE:type_of% @beq_false_of_ne:=@beq_false_of_ne
theorem alF:type_of% @Array.getD_eq_getD_getElem?:=@Array.getD_eq_getD_getElem?
theorem alQ:type_of% @Nat.mul_comm:=@Nat.mul_comm
theorem amV:type_of% @Option.map_eq_some_iff:=@Option.map_eq_some_iff
theorem am2:type_of% @Nat.mul_le_mul_right:=@Nat.mul_le_mul_right
theorem am6:type_of% @List.flatMap_nil:=@List.flatMap_nil
theorem am7:type_of% @Go.IntKind.wrap_u64:=@Go.IntKind.wrap_u64
theorem am8:type_of% @Option.map_some:=@Option.map_some
theorem ana:type_of% @List.all_append:=@List.all_append
theorem anv:type_of% @List.getElem?_drop:=@List.getElem?_drop
theorem anx:type_of% @Nat.lt_of_le_of_lt:=@Nat.lt_of_le_of_lt
theorem anF:type_of% @Nat.lt_or_ge:=@Nat.lt_or_ge
theorem anO:type_of% @Array.getElem?_toList:=@Array.getElem?_toList
theorem anP:type_of% @List.map_congr_left:=@List.map_congr_left
theorem anS:type_of% @List.getElem?_eq_none_iff:=@List.getElem?_eq_none_iff
theorem anT:type_of% @List.filter_cons:=@List.filter_cons
theorem aob:type_of% @List.mem_flatMap:=@List.mem_flatMap
theorem aoc:type_of% @Go.IntWalk.i64_left:=@Go.IntWalk.i64_left
theorem aod:type_of% @Go.MapKept.run_getObj_map:=@Go.MapKept.run_getObj_map
theorem aoe:type_of% @Nat.add_zero:=@Nat.add_zero
theorem aof:type_of% @List.filter_append:=@List.filter_append
theorem aog:type_of% @List.eq_nil_or_concat:=@List.eq_nil_or_concat
theorem aok:type_of% @List.concat_eq_append:=@List.concat_eq_append
theorem aol:type_of% @Array.getElem?_eq_some_iff:=@Array.getElem?_eq_some_iff
theorem aom:type_of% @List.drop_take:=@List.drop_take
theorem aon:type_of% @Nat.pow_le_pow_right:=@Nat.pow_le_pow_right
theorem aoU:type_of% @List.mem_or_eq_of_mem_set:=@List.mem_or_eq_of_mem_set
theorem ao1:type_of% @Array.getElem?_eq_getElem:=@Array.getElem?_eq_getElem
theorem ao2:type_of% @List.getLast?_eq_getElem?:=@List.getLast?_eq_getElem?
theorem ao3:type_of% @List.pairwise_iff_getElem:=@List.pairwise_iff_getElem
theorem ao4:type_of% @UInt8.toNat_ofNat':=@UInt8.toNat_ofNat'
theorem ao5:type_of% @List.nodup_cons:=@List.nodup_cons
theorem ao9:type_of% @List.Perm.refl:=@List.Perm.refl
theorem apl:type_of% @List.drop_drop:=@List.drop_drop
theorem aqe:type_of% @Nat.mul_le_mul:=@Nat.mul_le_mul
theorem aqj:type_of% @List.getElem_of_mem:=@List.getElem_of_mem
theorem aqv:type_of% @Nat.mod_lt:=@Nat.mod_lt
theorem arZ:type_of% @List.perm_append_comm:=@List.perm_append_comm
theorem asl:type_of% @List.foldl_append:=@List.foldl_append
theorem asq:type_of% @List.getLast?_map:=@List.getLast?_map
theorem asQ:type_of% @List.getElem?_cons_succ:=@List.getElem?_cons_succ
theorem as3:type_of% @Nat.add_mul:=@Nat.add_mul
theorem as4:type_of% @List.getLast?_append:=@List.getLast?_append
theorem atd:type_of% @Bool.eq_iff_iff:=@Bool.eq_iff_iff
theorem ate:type_of% @Nat.div_le_self:=@Nat.div_le_self
theorem auE:type_of% @Nat.mod_eq_of_lt:=@Nat.mod_eq_of_lt
theorem auH:type_of% @List.perm_middle:=@List.perm_middle
theorem auP:type_of% @Nat.sub_self:=@Nat.sub_self
theorem auQ:type_of% @if_false:=@if_false
theorem auR:type_of% @List.filter_sublist:=@List.filter_sublist
theorem auS:type_of% @List.mem_map_of_mem:=@List.mem_map_of_mem
theorem auT:type_of% @if_true:=@if_true
theorem auU:type_of% @List.drop_append_of_le_length:=@List.drop_append_of_le_length
theorem avf:type_of% @Int.le_refl:=@Int.le_refl
theorem avx:type_of% @Array.getElem?_modify:=@Array.getElem?_modify
theorem avA:type_of% @List.getElem?_eq_none:=@List.getElem?_eq_none
theorem avC:type_of% @Nat.add_assoc:=@Nat.add_assoc
theorem avD:type_of% @List.getElem?_take_of_lt:=@List.getElem?_take_of_lt
theorem avE:type_of% @List.sum_cons:=@List.sum_cons
theorem avG:type_of% @Nat.min_eq_left:=@Nat.min_eq_left
theorem avH:type_of% @List.length_take_le':=@List.length_take_le'
theorem avL:type_of% @Option.getD_some:=@Option.getD_some
theorem avN:type_of% @Nat.add_sub_cancel_left:=@Nat.add_sub_cancel_left
theorem avO:type_of% @List.getElem?_of_mem:=@List.getElem?_of_mem
theorem avP:type_of% @Go.RowKit.Hid.out:=@Go.RowKit.Hid.o
theorem avQ:type_of% @Array.getElem?_eq_none:=@Array.getElem?_eq_none
theorem avR:type_of% @List.lt_irrefl:=@List.lt_irrefl
theorem avS:type_of% @Array.toList_setIfInBounds:=@Array.toList_setIfInBounds
theorem avT:type_of% @Go.DataW.trod_int:=@Go.DataW.trod_int
theorem avV:type_of% @List.filter_eq_self:=@List.filter_eq_self
theorem avX:type_of% @Option.map_none:=@Option.map_none
theorem avY:type_of% @Array.getElem?_setIfInBounds_ne:=@Array.getElem?_setIfInBounds_ne
theorem avZ:type_of% @List.map_take:=@List.map_take
theorem av2:type_of% @or_false:=@or_false
theorem av5:type_of% @List.drop_zero:=@List.drop_zero
theorem awf:type_of% @List.ext_getElem?:=@List.ext_getElem?
theorem awg:type_of% @Int.eq_ofNat_of_zero_le:=@Int.eq_ofNat_of_zero_le
theorem awk:type_of% @Array.toList_append:=@Array.toList_append
theorem awl:type_of% @List.lt_trans:=@List.lt_trans
theorem awm:type_of% @List.drop_length:=@List.drop_length
theorem awo:type_of% @List.take_take:=@List.take_take
theorem awp:type_of% @Nat.lt_of_lt_of_le:=@Nat.lt_of_lt_of_le
theorem awu:type_of% @List.foldl_cons:=@List.foldl_cons
theorem awx:type_of% @Nat.pow_succ:=@Nat.pow_succ
theorem awy:type_of% @Nat.lt_trichotomy:=@Nat.lt_trichotomy
theorem awz:type_of% @List.flatten_cons:=@List.flatten_cons
theorem awC:type_of% @Bool.true_and:=@Bool.true_and
open Go
theorem rQ(h:H:=by rfl):H:=h
theorem aQ(h:H:=by assumption):H:=h
theorem oQ(h:H:=by omega):H:=h
theorem EN {i : Nat} (h : -9223372036854775808 <= ((i : Int) + 1) /\ ((i : Int) + 1) <= 9223372036854775807 := by omega) : IntKind.i64.wrap (i + 1) = i + 1 := by rw [aiY]; omega
theorem iQ(h:H:=by intro _ _ _ h; exact h):H:=h
theorem uQ {p : Prop} (h : p) : RowKit.Hid p := Lib.hid h
theorem Pq(h:H:=by
 have b46:((s[k].toNat:Int)==46)=false:=by rw [acj];omega
 have b45:((s[k].toNat:Int)==45)=false:=by rw [acj];omega
 go_wp2;go_ret;exact ⟨.bool false,rfl,by rw [AP.o (by rw [Hc.o];simp;omega)],rfl⟩):H:=h
theorem Py(h:H:=by
 go_wp2
 go_round
 case rel=>exact ⟨k+1,by omega,by go_num,QL.o (by rw [Hc.o];simp;omega)⟩
 case measure=>simp [intOf];omega):H:=h
theorem Vj(h:H:=by
 obtain ⟨y,hy⟩:∃ y,ys[0]?=some y:=by
  cases ys with
  |nil=>exact absurd rfl hy0
  |cons y _=>exact ⟨y,rfl⟩
 obtain ⟨b,hb,_⟩:=NT 0 y hy;exact ⟨b,hb⟩):H:=h
theorem Vq(h:H:=by
 have e1:(n+m)*i.size=(xs++ys).length:=by rw [aay,hl,hyl,as3]
 rw [e1];exact List.take_left):H:=h
theorem afc(h:H:=by
 exfalso;have:(key,v0)∈es.toList.map λe=>(e.key,e.val):=h1.mem_iff.2 (hp.mem_iff.2 (.head _));obtain ⟨x,hx,hxe⟩:=abI.1 this;exact f2 x hx (aiX Prod.fst hxe)):H:=h
theorem afm(k:I)(h:RowKit.Hid I->H:=by
 intro fM;have Jv:(n+m)*i.bytes<=140737488355328:=abQ (am2 _ oQ) hby;have hr:=run_append_grow (P:=P) w t ty e i z ht hi hz ⟨b,0,none⟩ n cap xs hl holds ad m c ys hyl hnews oQ oQ (growslice_fits oQ Jv);revert Jv hr;exact fM.o):H:=h (uQ k)
theorem Vu(h:H:=by
 intro j hj _;simp only [World.setCell,avx];rw [abB (Ne.symm hj)]):H:=h
theorem afr(k:I)(h:RowKit.Hid I->H:=by
 intro fM;refine ⟨_,by simp [Builtin.delete_,akB hm,aod hb,MapKept.run_checkKey hd hk,MapKept.run_findKey hd f1,MapKept.run_setObj_map _ hb,Result.andThen];rfl,?_⟩;exact fM.o):H:=h (uQ k)
theorem afu(h:H:=by
 obtain ⟨ha,x,hx,p,q,d,rfl,⟨bs,fb,nb,wv,hl,hp⟩,hq⟩:=h;refine ⟨bs,fb,nb,wv,hl,ha,_,hx,?_⟩;rw [zG];exact ⟨p,q,d,rfl,hp,hq⟩):H:=h
theorem afy(h:H:=by
 have hn:=(hp.map (·.1)).nodup_iff.1 hnd;simp only [aij,ao5]at hn;exact absurd (abI.2 ⟨_,hh,rfl⟩) hn.1):H:=h
theorem afB(h:H:=by
 simp [Instr.lookup,akB hm,aod hb,MapKept.run_checkKey hd hk,MapKept.run_findKey hd f1,Result.andThen,hz]):H:=h
theorem afC(h:H:=by
 simp [Instr.lookup,akB hm,aod hb,MapKept.run_checkKey hd hk,MapKept.run_findKey hd f1,Result.andThen]):H:=h
theorem afF(k:I)(h:RowKit.Hid I->H:=by
 intro fM;unfold Oper.wp execOp;simp only [ho,resolve,invoke,builtin,aii,aiV,acz,akg,aij,ajz,hv,hxv,hr];exact fM.o):H:=h (uQ k)
theorem afR(h:H:=by
 go_wp2;go_ret;exact ⟨.bool false,rfl,by rw [show dW s=false from by unfold dW;simp;omega],rfl⟩):H:=h
theorem VD(h:H:=by
 obtain ⟨b,hb,hx⟩:=NT j u hj;cases hb;exact hx):H:=h
end Go
theorem dG(h:H:=by exact Nat.le_of_ble_eq_true rQ):H:=h
namespace Go.ay
abbrev Bs:=List UInt8
def half:List Nat:=[0,498536548,997073096,651767980,1994146192,1802195444,1303535960,1342533948,3988292384,4027552580,3604390888,3412177804,2607071920,2262029012,2685067896,3183342108]
def zq (x:Nat):Nat:=(x/16) ^^^ half.getD (x%16) 0
def rD (x:Nat) (c:UInt8):Nat:=zq (zq (x ^^^ c.toNat))
def Jh (s:Nat) (b:Bs):Nat:=4294967295-b.foldl rD (4294967295-s)
def lq (b:Bs):Nat:=Jh 0 b
theorem NM:∀ i,half.getD i 0<4294967296:=by
 intro i;rw [abY];cases h:half[i]? with
 |none=>simp
 |some x=>
  have:x∈half:=abH h;have h2:∀ y∈half,y<4294967296:=by decide
  exact h2 x this
theorem DY {a b:Nat} (ha:a<4294967296) (hb:b<4294967296):a ^^^ b<4294967296:=Nat.xor_lt_two_pow (n:=32) ha hb
theorem abf {x:Nat} (h:x<4294967296):zq x<4294967296:=DY oQ (NM _)
theorem alx {x:Nat} (h:x<4294967296) (c:UInt8):rD x c<4294967296:=abf (abf (DY h (by have:=c.toNat_lt;omega)))
theorem Tq:∀ (b:Bs) (x:Nat),x<4294967296->b.foldl rD x<4294967296
 |[],_,h=>h
 |c::b,x,h=>Tq b _ (alx h c)
theorem Gq (b:Bs):lq b<4294967296:=by unfold lq Jh;omega
def le (x:Nat):Nat->Bs
 |0=>[]
 |n+1=>UInt8.ofNat (x%256)::le (x/256) n
def bD:Bs->Nat
 |[]=>0
 |c::b=>c.toNat+256*bD b
theorem nK (x n:Nat):(le x n).length=n:=by
 induction n generalizing x with
 |zero=>rfl
 |succ n ih=>simp [le,ih]
theorem EZ (n:Nat):∀ x,x<256^n->bD (le x n)=x:=by
 induction n with
 |zero=>intro x h;simp at h;subst h;rfl
 |succ n ih=>
  intro x h;show (UInt8.ofNat (x%256)).toNat+256*bD (le (x/256) n)=x;rw [ih (x/256) (by rw [Nat.div_lt_iff_lt_mul oQ];rw [awx]at h;exact h),ao4];omega
theorem uP:∀ b:Bs,bD b<256^b.length
 |[]=>by simp [bD]
 |c::b=>by
  have h1:=uP b;have h2:=c.toNat_lt;show c.toNat+256*bD b<256^(b.length+1);rw [awx];omega
structure aT where
 dB:Int
 key:Bs
 data:Bs
def gu:Bs:=List.replicate 32 0
def kK (x:aT):Int:=
 if x.dB=0 then (if 16384<x.data.length then 5 else 0)
 else if x.dB=2 then (if x.key≠gu then 4 else if 0<x.data.length then 4 else if 16384<x.data.length then 5 else 0)
 else if x.dB=1 then (if 0<x.data.length then 4 else if 16384<x.data.length then 5 else 0)
 else 4
def size (x:aT):Nat:=if kK x≠0 then 0 else if x.dB=2 then 9 else 41+x.data.length
def body (x:aT):Bs:=le (size x) 4++[UInt8.ofNat x.dB.toNat]++(if x.dB=2 then [] else x.key)++x.data
def dI (x:aT):Bs×Int:=if kK x≠0 then ([],kK x) else (le (lq (body x)) 4++body x,0)
def iL:aT:=⟨0,gu,[]⟩
def fC (dB:UInt8) (n:Nat):Bool:=
 if dB=0 then decide (41<=n/\n<=16425) else if dB=1 then decide (n=41) else if dB=2 then decide (n=9) else false
def read (b:Bs):aT×Nat×Int:=
 if b.length<9 then (iL,0,3)
 else
  let n:=bD ((b.drop 4).take 4)
  if fC (b.getD 8 0) n=false then (iL,0,4)
  else if b.length<n then (iL,0,3)
  else if lq ((b.take n).drop 4)≠bD (b.take 4) then (iL,0,13)
  else if 41<=n then (⟨(b.getD 8 0).toNat,(b.drop 9).take 32,(b.take n).drop 41⟩,n,0)
  else (⟨(b.getD 8 0).toNat,gu,[]⟩,n,0)
end Go.ay
namespace Go.aY
open Go.ay (Bs bD)
structure gy (V:Type) where
 st:Nat
 key:Bs
 val:V
def uj (k:Bs) (c:Nat):Nat:=bD (k.take 4)%c
def pos (k:Bs) (c d:Nat):Nat:=(uj k c+d)%c
section
variable {V:Type}{s s':List (gy V)}{x y:gy V}{k l:Bs}{v u:V}{d e i j c:Nat}
def gy.KE (x:gy V) (k:Bs):Prop:=x.st=0\/(x.st=1/\x.key=k)
instance (x:gy V) (k:Bs):Decidable (x.KE k):=by unfold gy.KE;infer_instance
def xQ (s:List (gy V)) (k:Bs) (i:Nat):Prop:=∃ x,s[i]?=some x/\x.KE k
structure rO (s:List (gy V)) (k:Bs) (d:Nat):Prop where
 lt:d<s.length
 GR:xQ s k (pos k s.length d)
 no:∀ e,e<d->¬ xQ s k (pos k s.length e)
structure pK (s:List (gy V)):Prop where
 J4:∃ j,s.length=2^j/\3<=j
 st:∀ x∈s,x.st<=2
 key:∀ x∈s,x.key.length=32
 Ko:∀ i x,s[i]?=some x->x.st=1->∃ d,d<s.length/\pos x.key s.length d=i/\∀ e,e<d->¬ xQ s x.key (pos x.key s.length e)
def oC (s:List (gy V)) (k:Bs) (v:V):Prop:=∃ (i:Nat) (x:gy V),s[i]?=some x/\x.st=1/\x.key=k/\x.val=v
theorem pK.qX (h:pK s):0<s.length:=by
 obtain ⟨j,h1,_⟩:=h.J4;rw [h1];exact Nat.two_pow_pos j
theorem xK (h:0<c):pos k c d<c:=aqv _ h
theorem TT (h:0<c):uj k c<c:=aqv _ h
theorem aqy (h:0<c):(pos k c d+1)%c=pos k c (d+1):=by
 unfold pos;rw [Nat.mod_add_mod,avC]
theorem aqz (h:0<c):pos k c 0=uj k c:=by
 unfold pos;rw [aoe];exact auE (TT h)
theorem aqw (h:i<c):∃ d,d<c/\pos k c d=i:=by
 have hc:0<c:=by omega
 have hh:uj k c<c:=TT hc;by_cases hi:uj k c<=i
 ·refine ⟨i-uj k c,by omega,?_⟩;unfold pos;rw [show uj k c+(i-uj k c)=i by omega];exact auE h
 ·refine ⟨i+c-uj k c,by omega,?_⟩;unfold pos;rw [show uj k c+(i+c-uj k c)=i+c by omega,Nat.add_mod_right];exact auE h
theorem aqx (hd:d<c) (he:e<c) (h:pos k c d=pos k c e):d=e:=by
 have hc:0<c:=by omega
 have hh:uj k c<c:=TT hc;unfold pos at h;have f:∀ d,d<c->(uj k c+d)%c=if uj k c+d<c then uj k c+d else uj k c+d-c:=λd hd=>by
  split
  ·exact auE ‹_›
  ·rw [Nat.mod_eq_sub_mod oQ];exact auE oQ
 rw [f d hd,f e he]at h;split at h <;> split at h <;> omega
theorem ac8 {p:Nat->Prop}:∀ (n:Nat),(∃ d,d<n/\p d)->∃ d,d<n/\p d/\∀ e,e<d->¬ p e
 |0,h=>by obtain ⟨d,hd,_⟩:=h;omega
 |n+1,h=>by
  by_cases b:∃ d,d<n/\p d
  ·have⟨d,c,a,f⟩:=ac8 n b;exact ⟨d,by omega,a,f⟩
  ·have⟨d,c,a⟩:=h;refine ⟨d,c,a,λe i g=>b ⟨e,by omega,g⟩⟩
theorem aaL (h:pK s) (hf:∃ x∈s,x.st=0):∃ d,rO s k d:=by
 have⟨x,e,f⟩:=hf;have⟨i,hi,g⟩:=aqj e;obtain ⟨d,j,l⟩:=aqw hi;obtain ⟨m,a,b,c⟩:=ac8 (p:=λd=>xQ s k (pos k s.length d)) s.length ⟨d,j,by rw [l];exact ⟨x,by rw [aaf hi,g],.inl f⟩⟩;exact ⟨m,a,b,c⟩
theorem rO.FD (h:rO s k d) (h':rO s k e):d=e:=by
 rcases awy d e with q|q|q
 ·exact absurd h.GR (h'.no d q)
 ·exact q
 ·exact absurd h'.GR (h.no e q)
theorem pK.pU (h:pK s) (hi:s[i]?=some x) (hf:x.st=1):∃ d,rO s x.key d/\pos x.key s.length d=i:=by
 obtain ⟨d,h1,h2,h3⟩:=h.Ko i x hi hf;exact ⟨d,⟨h1,⟨x,by rw [h2];exact hi,.inr ⟨hf,rfl⟩⟩,h3⟩,h2⟩
theorem rO.atB (h:rO s k d):∃ x,s[pos k s.length d]?=some x/\x.KE k:=h.GR
theorem Nl (he:rO s k d) (hx:s[pos k s.length d]?=some x) (hf:x.st=1):x.key=k/\oC s k x.val:=by
 obtain ⟨y,hy,hs⟩:=he.GR;rw [hx]at hy;cases hy;rcases hs with h|⟨_,h⟩
 ·omega
 ·exact ⟨h,_,x,hx,hf,h,rfl⟩
theorem Nk (g:pK s) (o:rO s k d) (n:s[pos k s.length d]?=some x) (hf:x.st≠1):x.st=0/\∀ v,¬ oC s k v:=by
 obtain ⟨y,a,e⟩:=o.GR;rw [n]at a;cases a;refine ⟨?_,λv f=>?_⟩
 ·rcases e with h|⟨h,_⟩
  ·exact h
  ·exact absurd h hf
 ·obtain ⟨i,z,b,c,rfl,_⟩:=f;obtain ⟨m,j,l⟩:=g.pU b c;obtain rfl:=o.FD j;rw [l,b]at n;cases n;exact hf c
theorem pK.yS (g:pK s) (hx:s[i]?=some x) (hy:s[j]?=some y) (h1:x.st=1) (h2:y.st=1) (hk:x.key=y.key):i=j:=by
 obtain ⟨d,a,b⟩:=g.pU hx h1;obtain ⟨e,a',b'⟩:=g.pU hy h2;rw [<-hk]at a' b';obtain rfl:=a.FD a';rw [<-b,<-b']
theorem Ar (hi:i<s.length):(s.set i x)[i]?=some x:=by rw [List.getElem?_set_self hi]
theorem yZ (h:i≠j):(s.set i x)[j]?=s[j]?:=List.getElem?_set_ne h
theorem U8 (g:pK s) (G:rO s k d) (D:s[pos k s.length d]?=some x) (hf:x.st=1) (v:V) :
  pK (s.set (pos k s.length d) ⟨x.st,x.key,v⟩)/\∀ E F,oC (s.set (pos k s.length d) ⟨x.st,x.key,v⟩) E F↔if E=k then F=v else oC s E F:=by
 have⟨t,_⟩:=Nl G D hf;have j:pos k s.length d<s.length:=xK g.qX;generalize C:pos k s.length d=p at *
 have r:∀ q l,xQ (s.set p ⟨x.st,x.key,v⟩) l q↔xQ s l q:=λq l=>by
  unfold xQ;by_cases h:p=q
  ·subst h;rw [Ar j,D];constructor
   ·rintro ⟨y,m,z⟩;cases m;exact ⟨x,rfl,z⟩
   ·rintro ⟨y,m,z⟩;cases m;exact ⟨_,rfl,z⟩
  ·rw [yZ h]
 have n:x∈s:=abH D;refine ⟨⟨by rw [akW];exact g.J4,λy m=>?_,λy m=>?_,λq y f m=>?_⟩,λE F=>?_⟩
 ·rcases aoU m with h|rfl
  ·exact g.st y h
  ·exact g.st x n
 ·rcases aoU m with h|rfl
  ·exact g.key y h
  ·exact g.key x n
 ·rw [akW];by_cases h:p=q
  ·subst h;rw [Ar j]at f;cases f;have⟨A,a,b,c⟩:=g.Ko p x D hf;exact ⟨A,a,b,λe h B=>c e h ((r _ _).1 B)⟩
  ·rw [yZ h]at f;have⟨A,a,b,c⟩:=g.Ko q y f m;exact ⟨A,a,b,λe h B=>c e h ((r _ _).1 B)⟩
 ·constructor
  ·rintro ⟨q,y,f,u,o,w⟩;by_cases h:p=q
   ·subst h;rw [Ar j]at f;cases f;rw [abL (o.symm.trans t)];exact w.symm
   ·rw [yZ h]at f;rw [abB λi:E=k=>h (g.yS D f hf u (t.trans (i.symm.trans o.symm)))];exact ⟨q,y,f,u,o,w⟩
  ·intro h;split at h
   ·rename_i i;exact ⟨p,_,Ar j,hf,t.trans i.symm,h.symm⟩
   ·rename_i i;have⟨q,y,f,u,o,w⟩:=h;have:p≠q:=λh=>by subst h;rw [D]at f;cases f;exact i (o.symm.trans t)
    exact ⟨q,y,by rw [yZ this];exact f,u,o,w⟩
theorem OW (g:pK s) (p:rO s k d) (F:s[pos k s.length d]?=some x) (hf:x.st≠1) (G:k.length=32) (v:V) :
  pK (s.set (pos k s.length d) ⟨1,k,v⟩)/\∀ D E,oC (s.set (pos k s.length d) ⟨1,k,v⟩) D E↔if D=k then E=v else oC s D E:=by
 have⟨B,z⟩:=Nk g p F hf;have i:pos k s.length d<s.length:=xK g.qX;have o:∀ q l,q≠pos k s.length d->(xQ (s.set (pos k s.length d) ⟨1,k,v⟩) l q↔xQ s l q):=λq l h=>by
  unfold xQ;rw [yZ (Ne.symm h)]
 have A:∀ l,xQ s l (pos k s.length d):=λl=>⟨x,F,.inl B⟩;refine ⟨⟨by rw [akW];exact g.J4,λy r=>?_,λy r=>?_,λq y f r=>?_⟩,λD E=>?_⟩
 ·rcases aoU r with h|rfl
  ·exact g.st y h
  ·exact (by decide:1<=2)
 ·rcases aoU r with h|rfl
  ·exact g.key y h
  ·exact G
 ·rw [akW];by_cases h:pos k s.length d=q
  ·subst h;rw [Ar i]at f;cases f;refine ⟨d,p.lt,rfl,λe h=>?_⟩;have j:pos k s.length e≠pos k s.length d:=λm=>by have:=aqx (Nat.lt_trans h p.lt) p.lt m;omega
   exact λm=>p.no e h ((o _ _ j).1 m)
  ·rw [yZ h]at f;have⟨C,a,b,c⟩:=g.Ko q y f r;refine ⟨C,a,b,λe h=>?_⟩;have j:pos y.key s.length e≠pos k s.length d:=λm=>c e h (by rw [m];exact A _);exact λm=>c e h ((o _ _ j).1 m)
 ·constructor
  ·rintro ⟨q,y,f,t,u,w⟩;by_cases h:pos k s.length d=q
   ·subst h;rw [Ar i]at f;cases f;rw [abL u.symm];exact w.symm
   ·rw [yZ h]at f;rw [abB λn:D=k=>z E ⟨q,y,f,t,u.trans n,w⟩];exact ⟨q,y,f,t,u,w⟩
  ·intro h;split at h
   ·rename_i n;exact ⟨_,_,Ar i,rfl,n.symm,h.symm⟩
   ·have⟨q,y,f,t,u,w⟩:=h;have:pos k s.length d≠q:=λh=>by subst h;rw [F]at f;cases f;exact hf t
    exact ⟨q,y,by rw [yZ this];exact f,t,u,w⟩
def oW (s:List (gy V)):Nat:=s.countP λx=>x.st==1
def cO (s:List (gy V)):Nat:=s.countP λx=>x.st != 0
theorem BQ (p:gy V->Bool):∀ (s:List (gy V)) (i:Nat) (x y:gy V),s[i]?=some x->(s.set i y).countP p+(if p x=true then 1 else 0)=s.countP p+(if p y=true then 1 else 0)
 |[],_,_,_,h=>by simp at h
 |a::s,0,x,y,h=>by
  obtain rfl:a=x:=by simpa using h
  rw [List.set_cons_zero,List.countP_cons,List.countP_cons];omega
 |a::s,i+1,x,y,h=>by
  rw [List.set_cons_succ,List.countP_cons,List.countP_cons];have:=BQ p s i x y yJ0;omega
theorem abk (h:cO s<s.length):∃ x∈s,x.st=0:=by
 apply Classical.byContradiction;intro hn;have:cO s=s.length:=by
  unfold cO;rw [List.countP_eq_length];intro x hx;have:x.st≠0:=λh0=>hn ⟨x,hx,h0⟩;simpa using this
 omega
structure Tb (V:Type) where
 bG:List (gy V)
 n:Nat
 gB:Nat
structure Tb.Ok (t:Tb V):Prop where
 dW:pK t.bG
 n:t.n=oW t.bG
 gB:t.n+t.gB=cO t.bG
 load:4*(t.n+t.gB)<=3*t.bG.length
 size:t.bG.length<=8+4*(t.n+t.gB)
theorem Tb.Ok.free {t:Tb V} (h:t.Ok):∃ x∈t.bG,x.st=0:=abk (by have:=h.gB;have:=h.load;have:=h.dW.qX;omega)
theorem Tb.Ok.pU {t:Tb V} (h:t.Ok) (k:Bs):∃ d,rO t.bG k d:=aaL h.dW h.free
def Tb.Is (t:Tb V) (m:Bs->Option V):Prop:=∀ k v,oC t.bG k v↔m k=some v
def put (m:Bs->Option V) (k:Bs) (v:V):Bs->Option V:=λl=>if l=k then some v else m l
theorem N7 {t:Tb V}{m:Bs->Option V} (c:t.Is m) (h:∀ a b,oC s' a b↔if a=k then b=v else oC t.bG a b) (n g:Nat):(⟨s',n,g⟩:Tb V).Is (put m k v):=λa b=>by
 rw [show (⟨s',n,g⟩:Tb V).bG=s' from rfl,h];unfold put;split
 ·exact ⟨λe=>by rw [e],λe=>(ajH e).symm⟩
 ·exact c a b
theorem aez {t:Tb V} (h:t.Ok) (he:rO t.bG k d) (hx:t.bG[pos k t.bG.length d]?=some x) (hf:x.st=1) (v:V) :
  (⟨t.bG.set (pos k t.bG.length d) ⟨x.st,x.key,v⟩,t.n,t.gB⟩:Tb V).Ok:=by
 have h1:=BQ (λx=>x.st==1) t.bG _ x ⟨x.st,x.key,v⟩ hx;have h2:=BQ (λx=>x.st != 0) t.bG _ x ⟨x.st,x.key,v⟩ hx;refine ⟨(U8 h.dW he hx hf v).1,?_,?_,by simp only [akW];exact h.load,by simp only [akW];exact h.size⟩
 ·have:=h.n;unfold oW at *;simp only at *;omega
 ·have:=h.gB;unfold cO at *;simp only at *;omega
theorem aex {t:Tb V} (h:t.Ok) (hl:4*(t.n+t.gB+1)<=3*t.bG.length) (he:rO t.bG k d) (hx:t.bG[pos k t.bG.length d]?=some x) (hf:x.st≠1) (hk:k.length=32) (v:V) :
  (⟨t.bG.set (pos k t.bG.length d) ⟨1,k,v⟩,t.n+1,t.gB⟩:Tb V).Ok:=by
 have h0:=(Nk h.dW he hx hf).1;have h1:=BQ (λx=>x.st==1) t.bG _ x ⟨1,k,v⟩ hx;have h2:=BQ (λx=>x.st != 0) t.bG _ x ⟨1,k,v⟩ hx;refine ⟨(OW h.dW he hx hf hk v).1,?_,?_,?_,?_⟩
 ·have:=h.n;unfold oW at *;simp [h0]at h1 ⊢;omega
 ·have:=h.gB;unfold cO at *;simp [h0]at h2 ⊢;omega
 ·simp only [akW];omega
 ·have:=h.size;simp only [akW];omega
structure iO (kP cur:List (gy V)) (j:Nat):Prop where
 dW:pK cur
 oD:∀ k v,oC cur k v↔oC (kP.take j) k v
 nf:oW cur=oW (kP.take j)
 nu:cO cur=oW (kP.take j)
theorem ahH (h:s[j]?=some x):oC (s.take (j+1)) k v↔oC (s.take j) k v\/(x.st=1/\x.key=k/\x.val=v):=by
 have e:s.take (j+1)=s.take j++[x]:=by rw [ajf,h];rfl
 rw [e];unfold oC;constructor
 ·rintro ⟨i,y,d,a,b,c⟩;by_cases hi:i<(s.take j).length
  ·rw [aiS hi]at d;exact .inl ⟨i,y,d,a,b,c⟩
  ·rw [aiP oQ]at d;cases hz:i-(s.take j).length with
   |zero=>rw [hz]at d;cases d;exact .inr ⟨a,b,c⟩
   |succ z=>rw [hz]at d;simp at d
 ·rintro (⟨i,y,d,a,b,c⟩|⟨a,b,c⟩)
  ·exact ⟨i,y,by rw [aiS (abM.1 d).1];exact d,a,b,c⟩
  ·exact ⟨(s.take j).length,x,by simp,a,b,c⟩
theorem Qd (h:s[j]?=some x):oW (s.take (j+1))=oW (s.take j)+(if x.st=1 then 1 else 0):=by
 unfold oW;rw [ajf,h,List.countP_append];simp [List.countP_cons]
theorem amQ (s:List (gy V)) (j:Nat):oW (s.take j)<=oW s:=by
 unfold oW;exact (List.take_sublist j s).countP_le
theorem iO.skip {kP a:List (gy V)} (h:iO kP a j) (b:kP[j]?=some x) (hf:x.st≠1):iO kP a (j+1):=
 ⟨h.dW,λk v=>by rw [ahH b,h.oD];exact ⟨.inl,λq=>q.elim id λq=>absurd q.1 hf⟩,by rw [Qd b,abB hf];exact h.nf,by rw [Qd b,abB hf];exact h.nu⟩
theorem iO.dK {kP g:List (gy V)} (k:pK kP) (h:iO kP g j) (l:kP[j]?=some x) (hf:x.st=1) (u:V):¬ oC g x.key u:=by
 rw [h.oD];rintro ⟨i,y,d,a,b,c⟩;have hi:=(abM.1 d).1;have e:i<j:=by rw [abA]at hi;omega
 have f:kP[i]?=some y:=by rw [avD e]at d;exact d
 have:=k.yS f l a hf b;omega
theorem iO.step {kP o:List (gy V)} (s:pK kP) (h:iO kP o j) (p:kP[j]?=some x) (hf:x.st=1) (r:rO o x.key d) :
  iO kP (o.set (pos x.key o.length d) x) (j+1):=by
 have⟨y,a,n⟩:=r.atB;have b:y.st≠1:=λc=>h.dK s p hf y.val (Nl r a c).2;have⟨i,_⟩:=Nk h.dW r a b;have⟨st,key,val⟩:=x;obtain rfl:st=1:=hf;have⟨g,l⟩:=OW h.dW r a b (s.key _ (abH p)) val;have c:=BQ (λx=>x.st==1) o _ y ⟨1,key,val⟩ a;have m:=BQ (λx=>x.st != 0) o _ y ⟨1,key,val⟩ a;refine ⟨g,λk v=>?_,?_,?_⟩
 ·rw [l,ahH p];split
  ·rename_i f;subst f;constructor
   ·intro e;exact .inr ⟨rfl,rfl,e.symm⟩
   ·rintro (q|⟨_,_,e⟩)
    ·exact absurd ((h.oD _ _).2 q) (h.dK s p rfl v)
    ·exact e.symm
  ·rename_i f;rw [h.oD];exact ⟨.inl,λq=>q.elim id λq=>absurd q.2.1.symm f⟩
 ·rw [Qd p,abL rfl,<-h.nf];unfold oW at *;simp [i]at c ⊢;omega
 ·rw [Qd p,abL rfl,<-h.nu];unfold cO at *;simp [i]at m ⊢;omega
theorem iO.done {kP d:List (gy V)} (h:iO kP d kP.length):pK d/\(∀ k v,oC d k v↔oC kP k v)/\oW d=oW kP/\cO d=oW kP:=by
 have a:=h.oD;have b:=h.nf;have c:=h.nu;rw [ai0]at a b c;exact ⟨h.dW,a,b,c⟩
end
end Go.aY
namespace Go.Sl
open Go
abbrev Hp:Type:=Nat->Option Obj
def aO:Type:=Hp->Prop
def Hp.Na (a b:Hp):Prop:=∀ i,a i=none\/b i=none
def Hp.join (a b:Hp):Hp:=λi=>(a i).or (b i)
theorem aO.ext {A B:aO} (h:∀ x,A x↔B x):A=B:=funext λx=>propext (h x)
def ng:aO:=λh=>h=λ_=>none
def fP (A B:aO):aO:=λh=>∃ a b,Hp.Na a b/\h=Hp.join a b/\A a/\B b
def pt (b:Nat) (o:Obj):aO:=λh=>h=λi=>if i=b then some o else none
def ex {α:Type} (A:α->aO):aO:=λh=>∃ x,A x h
theorem Hp.alR {a b:Hp} (h:a.Na b):b.Na a:=λi=>(h i).symm
theorem Hp.aoh {a b:Hp} (h:a.Na b):a.join b=b.join a:=by
 funext i
 rcases h i with h|h <;> simp [Hp.join,h]
theorem Hp.acT (a b c:Hp):(a.join b).join c=a.join (b.join c):=by
 funext i;simp [Hp.join,Option.or_assoc]
theorem Iu (A B:aO):fP A B=fP B A:=by
 apply aO.ext;intro h;constructor <;> (rintro ⟨a,b,d,rfl,ha,hb⟩;exact ⟨b,a,Hp.alR d,Hp.aoh d,hb,ha⟩)
theorem P6 (A B C:aO):fP (fP A B) C=fP A (fP B C):=by
 apply aO.ext;intro h;constructor
 ·rintro ⟨n,c,d,rfl,⟨a,b,f,rfl,g,j⟩,l⟩;refine ⟨a,b.join c,?_,Hp.acT _ _ _,g,⟨b,c,?_,rfl,j,l⟩⟩
  ·intro i;have e:=d i;have m:=f i;simp only [Hp.join,Option.or_eq_none_iff]at *
   cases h:a i <;> simp_all
  ·intro i;have e:=d i;simp only [Hp.join,Option.or_eq_none_iff]at *
   exact e.imp (·.2) id
 ·rintro ⟨a,bc,d,rfl,g,⟨b,c,f,rfl,j,l⟩⟩;refine ⟨a.join b,c,?_,(Hp.acT _ _ _).symm,⟨a,b,?_,rfl,g,j⟩,l⟩
  ·intro i;have e:=d i;have m:=f i;simp only [Hp.join,Option.or_eq_none_iff]at *
   cases h:c i <;> simp_all
  ·intro i;have e:=d i;simp only [Hp.join,Option.or_eq_none_iff]at *
   exact e.imp id (·.1)
theorem zF (A B C:aO):fP A (fP B C)=fP B (fP A C):=by
 rw [<-P6,Iu A B,P6]
theorem SI (A:aO):fP ng A=A:=by
 apply aO.ext;intro h;constructor
 ·rintro ⟨a,b,_,rfl,ha,hb⟩;have:Hp.join a b=b:=by funext i;rw [show a=_ from ha];simp [Hp.join]
  rw [this];exact hb
 ·intro hh;exact ⟨λ_=>none,h,λ_=> .inl rfl,by funext i;simp [Hp.join],rfl,hh⟩
theorem atP (A:aO):fP A ng=A:=by rw [Iu,SI]
def nP:List aO->aO
 |[]=>ng
 |A::L=>fP A (nP L)
theorem xP (A:aO) (L:List aO):nP (A::L)=fP A (nP L):=rfl
theorem zG:∀ L M:List aO,nP (L++M)=fP (nP L) (nP M)
 |[],M=>(SI _).symm
 |A::L,M=>by rw [ajK,xP,zG L M,xP,P6]
theorem atQ {L M:List aO} (h:L.Perm M):nP L=nP M:=by
 induction h with
 |nil=>rfl
 |cons x _ c=>rw [xP,xP,c]
 |swap x y l=>rw [xP,xP,xP,xP,zF]
 |trans _ _ a b=>exact a.trans b
theorem Iw (A:aO):nP [A]=A:=atP A
def aT (A B:aO):Prop:=∀ h,A h->B h
theorem aT.refl (A:aO):aT A A:=λ_ h=>h
theorem aT.fP {A B C D:aO} (h:aT A C) (k:aT B D):aT (fP A B) (fP C D):=
 λ_ ⟨a,b,d,e,ha,hb⟩=>⟨a,b,d,e,h a ha,k b hb⟩
theorem aT.of_eq {A B:aO} (h:A=B):aT A B:=h ▸ aT.refl _
theorem aT.left {A B C:aO} (h:aT A B):aT (Sl.fP A C) (Sl.fP B C):=h.fP (aT.refl _)
theorem aaS {α:Type} (A:α->aO) (B:aO):fP (ex A) B=ex λx=>fP (A x) B:=by
 apply aO.ext;intro h;constructor
 ·rintro ⟨a,b,d,e,⟨x,c⟩,f⟩;exact ⟨x,a,b,d,e,c,f⟩
 ·rintro ⟨x,a,b,d,e,c,f⟩;exact ⟨a,b,d,e,⟨x,c⟩,f⟩
structure Lh (w0 w:World):Prop where
 os:w.os=w0.os
 tape:w.tape=w0.tape
 output:w.output=w0.output
 size:w0.heap.size<=w.heap.size
theorem Lh.refl (w:World):Lh w w:=⟨rfl,rfl,rfl,abG _⟩
def au (w0 w:World) (L:List aO):Prop:=Lh w0 w/\∃ h:Hp,(∀ i o,h i=some o->w.heap[i]?=some o)/\nP L h
section
variable {w0 w:World}{A B C D E G:aO}{L M F R:List aO}
theorem au.mono (h:au w0 w L) (k:aT (nP L) (nP M)):au w0 w M:=⟨h.1,h.2.imp λx hx=>⟨hx.1,k x hx.2⟩⟩
theorem au.perm (h:au w0 w L) (k:L.Perm M):au w0 w M:=h.mono (aT.of_eq (atQ k))
theorem au.head (h:au w0 w (A::R)) (k:aT A B):au w0 w (B::R):=h.mono k.left
theorem au.join (h:au w0 w (M++R)) (k:aT (nP M) A):au w0 w (A::R):=
 h.mono (λx hx=>by rw [zG]at hx;exact k.left x hx)
theorem au.drop (h:au w0 w (A::R)):au w0 w R:=by
 obtain ⟨e,x,f,a,b,d,rfl,j,g⟩:=h;refine ⟨e,b,λi o hi=>f i o ?_,g⟩;simp only [Hp.join];rcases d i with c|c
 ·simp [c,hi]
 ·simp [c]at hi
theorem au.bZ (h:au w0 w (A::B::R)):au w0 w (B::A::R):=h.perm (List.Perm.swap _ _ _)
theorem au.jS (h:au w0 w (A::B::C::R)):au w0 w (C::A::B::R):=
 h.perm (((List.Perm.swap C B R).cons A).trans (List.Perm.swap C A _))
theorem au.mD (h:au w0 w (A::B::C::D::R)):au w0 w (D::A::B::C::R):=
 h.perm ((((List.Perm.swap D C R).cons B).cons A).trans (((List.Perm.swap D B _).cons A).trans (List.Perm.swap D A _)))
theorem au.yU (h:au w0 w (A::B::C::D::E::R)):au w0 w (E::A::B::C::D::R):=
 (h.perm ((((List.Perm.swap E D R).cons C).cons B).cons A)).mD
theorem au.aqE (h:au w0 w (B::A::R)):au w0 w (A::B::R):=h.bZ
theorem au.ex {α:Type}{A:α->aO}:au w0 w (Sl.ex A::R)↔∃ x,au w0 w (A x::R):=by
 constructor
 ·rintro ⟨b,x,c,a⟩;rw [xP,aaS]at a;obtain ⟨y,a⟩:=a;exact ⟨y,b,x,c,a⟩
 ·rintro ⟨y,b,x,c,a⟩;refine ⟨b,x,c,?_⟩;rw [xP,aaS];exact ⟨y,a⟩
theorem au.ng:au w0 w (Sl.ng::R)↔au w0 w R:=by
 unfold au;rw [xP,SI]
theorem au.fP:au w0 w (Sl.fP A B::R)↔au w0 w (A::B::R):=by
 unfold au;rw [xP,xP,xP,P6]
variable {b:Nat}{o:Obj}
theorem au.at (h:au w0 w (pt b o::R)):w.heap[b]?=some o:=by
 obtain ⟨_,x,hx,a,c,d,rfl,pa,_⟩:=h;refine hx b o ?_;rw [show a=_ from pa];simp [Hp.join]
theorem au.lt (h:au w0 w (pt b o::R)):b<w.heap.size:=by
 have:=h.at;rw [aol]at this;exact this.1
theorem au.ne {k:Nat}{p:Obj} (h:au w0 w (pt b o::pt k p::R)):b≠k:=by
 obtain ⟨_,x,l,a,c,d,rfl,i,j,m,n,rfl,g,_⟩:=h;intro e;subst e;rcases d b with f|f
 ·rw [show a=_ from i]at f;simp at f
 ·rw [show j=_ from g]at f;simp [Hp.join]at f
theorem au.jc {w':World}{m:Obj} (h:au w0 w (pt b o::R)) (n:w'.os=w.os) (r:w'.tape=w.tape) (s:w'.output=w.output)
  (t:w.heap.size<=w'.heap.size) (u:w'.heap[b]?=some m) (v:∀ i,i≠b->i<w.heap.size->w'.heap[i]?=w.heap[i]?):au w0 w' (pt b m::R):=by
 obtain ⟨e,x,g,a,c,d,rfl,j,l⟩:=h;rw [show a=_ from j]at g d;refine ⟨⟨n.trans e.os,r.trans e.tape,s.trans e.output,abQ e.size t⟩,Hp.join (λi=>if i=b then some m else none) c,?_,_,c,?_,rfl,rfl,l⟩
 ·intro i y f;by_cases hi:i=b
  ·subst hi;simp [Hp.join]at f;subst f;exact u
  ·simp [Hp.join,hi]at f;have:=g i y (by simp [Hp.join,hi,f]);rw [v i hi,this];rw [aol]at this;exact this.1
 ·intro i;have:=d i;by_cases hi:i=b <;> simp_all
theorem au.dK {w':World} (h:au w0 w R) (ho:w'.os=w.os) (ht:w'.tape=w.tape) (hu:w'.output=w.output)
  (hz:w.heap.size<=w'.heap.size) (hbn:w.heap.size<=b) (hb:w'.heap[b]?=some o) (hr:∀ i,i<w.heap.size->w'.heap[i]?=w.heap[i]?):au w0 w' (pt b o::R):=by
 obtain ⟨ha,x,hx,pr⟩:=h;have hn:x b=none:=by
  cases hh:x b with
  |none=>rfl
  |some y=>
   have:=hx _ _ hh;rw [aol]at this;have:=this.1;omega
 refine ⟨⟨ho.trans ha.os,ht.trans ha.tape,hu.trans ha.output,abQ ha.size hz⟩,Hp.join (λi=>if i=b then some o else none) x,?_,_,x,?_,rfl,rfl,pr⟩
 ·intro i y hy;by_cases hi:i=b
  ·subst hi;simp [Hp.join]at hy;subst hy;exact hb
  ·simp [Hp.join,hi]at hy;have:=hx i y hy;rw [hr i,this];rw [aol]at this;exact this.1
 ·intro i;by_cases hi:i=b <;> simp_all
theorem au.alloc (h:au w0 w R) (o:Obj):au w0 (w.alloc o) (pt w.heap.size o::R):=
 h.dK rfl rfl rfl yD0 (abG _) (heap_alloc_new w o) (λi hi=>RowKit.Below.heap_alloc w o i hi)
theorem au.drew (h:au w0 w R):au w0 w.drew R:=⟨⟨h.1.os,h.1.tape,h.1.output,h.1.size⟩,h.2⟩
theorem au.dD {cs:Array Value}{T:TypeId} (h:au w0 w (pt b (.cells cs T (0,0))::R)) (i:Nat) (v:Value) (hv:cs[i]?=some v):w.cell? ⟨b,i,none⟩=some v:=by
 have:=h.at;simp [World.cell?,this,hv]
theorem au.uJ {cs:Array Value}{T:TypeId} (h:au w0 w (pt b (.cells cs T (0,0))::R)) (i:Nat):w.frozen? ⟨b,i,none⟩=false:=by
 have:=h.at;simp [World.frozen?,this]
theorem au.set {cs:Array Value}{T:TypeId} (h:au w0 w (pt b (.cells cs T (0,0))::R)) (i:Nat) (v:Value):au w0 (w.setCell ⟨b,i,none⟩ v) (pt b (.cells (cs.setIfInBounds i v) T (0,0))::R):=by
 have hb:=h.at;have hlt:=h.lt;refine h.jc rfl rfl rfl yD0 ?_ ?_
 ·simp only [World.setCell,avx,auT,hb];simp
 ·exact Vu
theorem atp (L:List aO) (k:Nat) (gY:List Nat) (hk:(L.take k).length=k) (hi:(gY.all (λi=>decide (i<k)) && decide gY.Nodup)=true) :
  ∃ rest,L.Perm ((gY.map (λi=>L.getD i Sl.ng)++L.drop k)++rest):=by
 simp only [ajg,ajC,ad2]at hi;obtain ⟨l,m⟩:=hi;have f:L.take k=(List.range k).map (λi=>L.getD i Sl.ng):=by
  apply awf;intro i;rw [ak7,ab4];by_cases c:i<k
  ·have:i<L.length:=by
    have:=avH k L;rw [hk]at this;omega
   simp [c,abY,this]
  ·simp [c]
 have n:(List.range k).Perm (gY++(List.range k).filter λi => !gY.contains i):=by
  rw [List.perm_ext_iff_of_nodup List.nodup_range]
  ·intro a;simp only [List.mem_range,ahc,ai4,Bool.not_eq_true',List.contains_eq_mem,ai9];constructor
   ·intro h;by_cases d:a∈gY
    ·exact .inl d
    ·exact .inr ⟨h,d⟩
   ·rintro (h|h)
    ·exact l a h
    ·exact h.1
  ·rw [List.nodup_append];refine ⟨m,List.nodup_range.sublist auR,?_⟩;intro a d b o e;subst e;have:=(ai4.1 o).2;simp [d]at this
 refine ⟨((List.range k).filter λi => !gY.contains i).map (λi=>L.getD i Sl.ng),?_⟩;have g:=(aja k L).symm;rw [f]at g;have j:=(n.map (λi=>L.getD i Sl.ng)).append_right (L.drop k);rw [acy]at j;have r:=(List.Perm.of_eq g).trans j;refine r.trans ?_;rw [ab6,ab6];exact List.Perm.append_left _ arZ
theorem au.aaw (h:au w0 w (L++M)):au w0 w L:=by
 obtain ⟨e,x,f,c⟩:=h;rw [zG]at c;obtain ⟨a,b,d,rfl,g,j⟩:=c;refine ⟨e,a,λi o hi=>f i o ?_,g⟩;simp [Hp.join,hi]
theorem au.gZ (h:au w0 w L) (k:Nat) (gY:List Nat) (hk:(L.take k).length=k) (hi:(gY.all (λi=>decide (i<k)) && decide gY.Nodup)=true) :
  au w0 w (gY.map (λi=>L.getD i Sl.ng)++L.drop k):=by
 obtain ⟨rest,hp⟩:=atp L k gY hk hi;exact (h.perm hp).aaw
def Ro (w0:World) (L:List aO) (p:World->Prop):Prop:=∀ w,au w0 w L->p w
theorem Ro.cons {p:World->Prop} (h:Ro w0 L p):Ro w0 (A::L) p:=λw hw=>h w hw.drop
def kP (w0:World):aO:=λh=>h=λi=>w0.heap[i]?
theorem au.kP (h:au w0 w (kP w0::R)){i:Nat} (hi:i<w0.heap.size):w.heap[i]?=w0.heap[i]?:=by
 obtain ⟨_,x,hx,a,c,d,rfl,pa,_⟩:=h;have:w0.heap[i]?=some (w0.heap[i]):=by simp [hi]
 rw [this];refine hx i _ ?_;rw [show a=_ from pa];simp [Hp.join,hi]
theorem au.start (w0:World):au w0 w0 [Sl.kP w0]:=by
 refine ⟨Lh.refl _,λi=>w0.heap[i]?,λi o h=>h,?_⟩;rw [Iw];exact rfl
theorem au.below (h:au w0 w (Sl.kP w0::R)):RowKit.Below w0.heap.size w0 w:=
 ⟨h.1.os,h.1.tape,h.1.output,h.1.size,λk hk=>h.kP hk⟩
end
end Go.Sl
namespace Go.Sl
open Go Go.MapKept
def bf (Q:Value->World->Prop) (e:Ending) (w:World):Prop:=∃ v,e=.returned v/\Q v w
def bK (sz:Nat) (v:Value) (xs:List Value) (w:World):Prop:=
 ∃ a n cap,v=.slice a n cap/\xs.length=n*sz/\∀ i x,xs[i]?=some x->∃ b,a=some b/\w.cell? (b.add i)=some x
def aK (T sz:Nat) (v:Value) (xs:List Value):aO:=λh=>
 (v=.slice none 0 0/\xs=[]/\ng h) \/
 ∃ b n cap cs,v=.slice (some ⟨b,0,none⟩) n cap/\xs.length=n*sz/\n<=cap/\cap*sz<=cs.size/\cap<=maxLen/\cs.toList.take (n*sz)=xs/\pt b (.cells cs T (0,0)) h
section
variable {w0 w:World}{R L:List aO}{T sz:Nat}{v:Value}{xs:List Value}
theorem iW (T sz:Nat):aK T sz (.slice none 0 0) []=ng:=by
 apply aO.ext;intro h;constructor
 ·rintro (⟨_,_,h⟩|⟨b,n,cap,cs,he,_⟩)
  ·exact h
  ·cases he
 ·intro h;exact .inl ⟨rfl,rfl,h⟩
theorem au.iW:au w0 w (aK T sz (.slice none 0 0) []::R)↔au w0 w R:=by
 rw [Sl.iW];exact au.ng
theorem au.pV {b n cap:Nat}{cs:Array Value} (h:au w0 w (pt b (.cells cs T (0,0))::R)) (a:xs.length=n*sz) (hn:n<=cap) (c:cap*sz<=cs.size) (d:cap<=maxLen)
  (e:cs.toList.take (n*sz)=xs):au w0 w (aK T sz (.slice (some ⟨b,0,none⟩) n cap) xs::R):=
 h.head λ_ f=> .inr ⟨b,n,cap,cs,rfl,a,hn,c,d,e,f⟩
theorem au.nV (h:au w0 w (aK T sz v xs::R)):(v=.slice none 0 0/\xs=[]/\au w0 w R) \/
  ∃ b n cap cs,v=.slice (some ⟨b,0,none⟩) n cap/\xs.length=n*sz/\n<=cap/\cap*sz<=cs.size/\cap<=maxLen/\cs.toList.take (n*sz)=xs/\au w0 w (pt b (.cells cs T (0,0))::R):=by
 obtain ⟨f,x,g,p,q,d,rfl,l,j⟩:=h;rcases l with ⟨a,c,e⟩|⟨b,n,cap,cs,a,c,e,m,r,s,t⟩
 ·refine .inl ⟨a,c,f,q,λi o hi=>g i o ?_,j⟩;rw [show p=_ from e];simp [Hp.join,hi]
 ·exact .inr ⟨b,n,cap,cs,a,c,e,m,r,s,f,_,g,p,q,d,rfl,t,j⟩
theorem xw (b j:Nat):(⟨b,0,none⟩:Addr).add j=⟨b,j,none⟩:=by unfold Addr.add;split <;> simp_all
theorem qy {cs:Array Value}{k:Nat} (ht:cs.toList.take k=xs){i:Nat}{x:Value} (hi:xs[i]?=some x):cs[i]?=some x:=by
 rw [<-ht,ak7]at hi;split at hi
 ·simpa using hi
 ·cases hi
theorem au.rd (h:au w0 w (aK T sz v xs::R)):bK sz v xs w:=by
 rcases h.nV with ⟨rfl,rfl,_⟩|⟨b,n,cap,e,rfl,a,hn,f,g,c,d⟩
 ·exact ⟨none,0,0,rfl,by simp,by simp⟩
 ·refine ⟨some ⟨b,0,none⟩,n,cap,rfl,a,λi x hi=>⟨_,rfl,?_⟩⟩;rw [xw];exact d.dD i x (qy c hi)
theorem J9 (sz cap:Nat) (w:World):bK sz (.slice none 0 cap) [] w:=⟨none,0,cap,rfl,by simp,by simp⟩
end
section
variable {P:Program}{w0 w:World}{R:List aO}{sz:Nat}{v x:Value}{xs ys:List Value}
theorem agW (t ty e:TypeId) (i:TypeInfo) (z:Value) (ht:P.underlying t=some (.slice e)) (hi:P.info? e=some i) (hz:i.zero=some z)
  (hs:i.size=sz) (hzs:z.cells.size=sz) (hsz:0<sz) (h1:∀ u∈ys,u.oneCell'=true)
  (h:au w0 w (aK e sz v xs::R)) (hx:bK sz x ys w) (h63:xs.length+ys.length<=maxLen) (hby:(xs.length+ys.length)*i.bytes<=140737488355328) :
  ∃ v' w',(Builtin.append_ #[t,t] ty #[v,x]).run P w=.ok v' w'/\au w0 w' (aK e sz v' (xs++ys)::R)/\(xs++ys≠[]->∃ b n c,v'=.slice (some ⟨b,0,none⟩) n c):=by
 subst hs;obtain ⟨A,m,c,rfl,hyl,NT⟩:=hx;have f:∀ {p q:Nat},p=q*i.size->q<=p:=λ{p q} e=>by rw [e];exact Nat.le_mul_of_pos_right _ hsz
 have I:=f hyl;by_cases B:m=0
 ·subst B;obtain rfl:ys=[]:=ajn (by simpa using hyl);rcases h.nV with ⟨rfl,rfl,E⟩|⟨b,n,cap,l,rfl,hl,hn,F,d,g,o⟩
  ·refine ⟨.slice none 0 0,w,?_,by simpa using h,by simp⟩;cases A <;> simp [Builtin.append_,akB ht,sizeOf,typeInfo,hi,Builtin.lenOf,Builtin.firstCells,loadCells,loadCellsFrom]
  ·refine ⟨.slice (some ⟨b,0,none⟩) n cap,w,?_,by simpa using h,λ_=>⟨_,_,_,rfl⟩⟩;cases A <;> simp [Builtin.append_,akB ht,sizeOf,typeInfo,hi,Builtin.lenOf,Builtin.firstCells,loadCells,loadCellsFrom,hn,storeCells]
 ·have hy0:ys≠[]:=by
   intro e;subst e;have:m*i.size=0:=by simpa using hyl.symm
   rcases Nat.mul_eq_zero.1 this with h|h <;> omega
  obtain ⟨ad,rfl⟩:∃ ad,A=some ad:=by
   exact Vj
  have hnews:∀ j u,ys[j]?=some u->w.cell? (ad.add j)=some u:=λj u hj=>by
   exact VD
  have G:maxLen=9223372036854775807:=rfl
  have BD:∀ (n kP:Nat) (_:n*i.size=xs.length) (_:kP<n+m) (_:au w0 w R),au w0 (w.drew.alloc (.cells (xs.toArray++ys.toArray++Builtin.zeroCells z.cells (grownCap w (n+m) kP e-(n+m))) e))
    (aK e i.size (.slice (some ⟨w.heap.size,0,none⟩) (n+m) (grownCap w (n+m) kP e)) (xs++ys)::R):=by
   intro n kP hn J H;have C:=grownCap_ge w (n+m) kP e;have D:=f hn.symm;have d:=grownCap_le_maxLen w (n+m) kP e oQ;have:=(H.drew).alloc (.cells (xs.toArray++ys.toArray++Builtin.zeroCells z.cells (grownCap w (n+m) kP e-(n+m))) e);refine au.pV this ?_ C ?_ d ?_
   ·rw [aay,<-hn,hyl,as3]
   ·simp only [Array.size_append,abC,size_zeroCells,hzs];rw [<-hn,hyl,<-as3,<-as3];exact am2 _ oQ
   ·simp only [awk,ab6];rw [<-ab6];have e1:(n+m)*i.size=(xs++ys).length:=by rw [aay,<-hn,hyl,as3]
    rw [e1];exact List.take_left
  rcases h.nV with ⟨rfl,rfl,E⟩|⟨b,n,cap,l,rfl,hl,hn,F,d,g,o⟩
  ·have Jv:m*i.bytes<=140737488355328:=by
    refine abQ (am2 _ ?_) hby;simp;omega
   have hr:=run_append_nil (P:=P) w t ty e i z ht hi hz ad m c ys hyl hnews oQ (by simp at h63;omega) oQ;have hg:=BD 0 0 yD0 oQ E;simp only [aiO,ajc,Array.empty_append]at hg ⊢;exact ⟨_,_,hr,hg,λ_=>⟨_,_,_,rfl⟩⟩
  ·by_cases a:n+m<=cap
   ·have r:n*i.size+ys.length<=l.size:=by
     rw [hyl,<-as3];exact abQ (am2 _ a) F
    have hr:=run_append_room (P:=P) w t ty e i ht hi b n cap l o.at ad m c ys hyl hnews h1 a r;refine ⟨_,_,hr,?_,λ_=>⟨_,_,_,rfl⟩⟩;have s:=o.jc (w':=w.setRow b (l.toList.take (n*i.size)++ys++l.toList.drop (n*i.size+ys.length)).toArray) rfl rfl rfl yD0 (setRow_heap w b l _ e _ o.at) (λj hj _=>setRow_other w b j _ hj);refine au.pV s ?_ a ?_ d ?_
    ·rw [aay,hl,hyl,as3]
    ·simp only [abC,aay,abA,abJ,ahN];omega
    ·rw [g];exact Vq
   ·have holds:∀ j u,xs[j]?=some u->w.cell? ((⟨b,0,none⟩:Addr).add j)=some u:=λj u hj=>by
     rw [xw];exact o.dD j u (qy g hj)
    have D:=f hl;refine afm ?_;intro Jv hr;exact ⟨_,_,hr,BD n cap hl.symm oQ o.drop,λ_=>⟨_,_,_,rfl⟩⟩
theorem X0 {o:Oper}{a:Act}{K:Act->World->Prop}{Q:Exit->Act->World->Prop} (s y:Operand) (t:TypeId)
  (ho:o.op=.call { callee:= .builtin .append,args:=#[s,y],argTypes:=#[t,t] })
  (e:TypeId) (i:TypeInfo) (z:Value) (ht:P.underlying t=some (.slice e)) (hi:P.info? e=some i) (hz:i.zero=some z)
  (hs:i.size=sz) (hzs:z.cells.size=sz) (hsz:0<sz) (hv:a.eval s=v) (hxv:a.eval y=x) (h1:∀ u∈ys,u.oneCell'=true)
  (h:au w0 w (aK e sz v xs::R)) (hx:bK sz x ys w) (h63:xs.length+ys.length<=maxLen) (hby:(xs.length+ys.length)*i.bytes<=140737488355328)
  (hK:∀ v' w',au w0 w' (aK e sz v' (xs++ys)::R)->(xs++ys≠[]->∃ b n c,v'=.slice (some ⟨b,0,none⟩) n c)->K (a.put o.dst v') w'):o.wp P a w K Q:=by
 obtain ⟨v',w',hr,h2,h3⟩:=agW t o.type e i z ht hi hz hs hzs hsz h1 h hx h63 hby;refine afF ?_;exact hK v' w' h2 h3
theorem AA {ops:Array Oper}{rest:List Oper}{o:Oper}{a:Act}{Q:Exit->Act->World->Prop} (f:o.guard=none) (s y:Operand) (t:TypeId)
  (j:o.op=.call { callee:= .builtin .append,args:=#[s,y],argTypes:=#[t,t] })
  e i z (ht:P.underlying t=some (.slice e)) (hi:P.info? e=some i) (hz:i.zero=some z)
  (hs:i.size=sz) (hzs:z.cells.size=sz) (hsz:0<sz) (hv:a.eval s=v) (hxv:a.eval y=x) (h1:∀ u∈ys,u.oneCell'=true)
  (h:au w0 w (aK e sz v xs::R)) (hx:bK sz x ys w) (h63:xs.length+ys.length<=maxLen) (hby:(xs.length+ys.length)*i.bytes<=140737488355328)
  (hK:∀ d w',au w0 w' (aK e sz d (xs++ys)::R)->(xs++ys≠[]->∃ b n c,d=.slice (some ⟨b,0,none⟩) n c)->wpList P ops Q rest (a.put o.dst d) w'):wpList P ops Q (o::rest) a w:=
 ajs f λ_ g=>X0 s y t j e i z ht hi hz hs hzs hsz hv hxv h1 h hx h63 hby λd w' k l=>g _ _ (hK d w' k l)
end
theorem WY {P:Program}{w0 w:World}{R:List aO}{sz:Nat}{v x:Value}{xs ys:List Value}{ops:Array Oper}{o:Oper}{a:Act}{K:Act->World->Prop}{Q:Exit->Act->World->Prop}{E:Prop} (d:o.guard=none) (s y:Operand) (t:TypeId)
  (p:o.op=.call { callee:= .builtin .append,args:=#[s,y],argTypes:=#[t,t] })
  (e:TypeId) (i:TypeInfo) (z:Value) (q:P.underlying t=some (.slice e)) (hi:P.info? e=some i) (r:i.zero=some z)
  (A:i.size=sz) (f:z.cells.size=sz) (g:0<sz) (B:a.eval s=v) (j:a.eval y=x) (C:∀ u∈ys,u.oneCell'=true)
  (h:au w0 w (aK e sz v xs::R)) (D:bK sz x ys w) (k:xs.length+ys.length<=maxLen) (l:(xs.length+ys.length)*i.bytes<=140737488355328)
  (F:∀ m w',au w0 w' (aK e sz m (xs++ys)::R)->(xs++ys≠[]->∃ b n c,m=.slice (some ⟨b,0,none⟩) n c)->K (a.put o.dst m) w') :
  if Region.wanted o (yielded ops a.tmps)=true then Oper.wp P o a w K Q else E:=by
 have G:Region.wanted o (yielded ops a.tmps)=true:=by simp [Region.wanted,d]
 rw [abL G];exact X0 s y t p e i z q hi r A f g B j C h D k l F
theorem Dx (w:World) (cs:Array Value) (T sz n c:Nat) (hn:cs.size=n*sz):bK sz (.slice (some ⟨w.heap.size,0,none⟩) n c) cs.toList (w.alloc (.cells cs T)):=
 ⟨_,n,c,rfl,by simpa using hn,λi x hi=>⟨_,rfl,by rw [xw,World.cell?_alloc_new];simpa using hi⟩⟩
def jJ (d:TypeDesc) (b:Nat) (l:List (Value×Value)):aO:=λh=>
 ∃ es clock,(es.toList.map λe=>(e.key,e.val)).Perm l/\Stamped es clock/\(∀ x∈es.toList,IsKey d x.key)/\pt b (.map es clock) h
section
variable {P:Program}{w0 w:World}{R:List aO}{d:TypeDesc}{b:Nat}{l l':List (Value×Value)}
theorem OI (hp:l.Perm l'):jJ d b l=jJ d b l':=by
 apply aO.ext;intro h;exact ⟨λ⟨es,c,a,e⟩=>⟨es,c,a.trans hp,e⟩,λ⟨es,c,a,e⟩=>⟨es,c,a.trans hp.symm,e⟩⟩
theorem au.OI (h:au w0 w (jJ d b l::R)) (hp:l.Perm l'):au w0 w (jJ d b l'::R):=Sl.OI hp ▸ h
theorem au.Ia (h:au w0 w (jJ d b l::R)):∃ es k,(es.toList.map λe=>(e.key,e.val)).Perm l/\Stamped es k/\(∀ x∈es.toList,IsKey d x.key)/\au w0 w (pt b (.map es k)::R):=by
 obtain ⟨a,x,f,p,q,g,rfl,⟨es,c,i,j,m,n⟩,o⟩:=h;exact ⟨es,c,i,j,m,a,_,f,p,q,g,rfl,n,o⟩
theorem au.Ib {es:Array MapEntry}{a:Nat} (h:au w0 w (pt b (.map es a)::R)) (c:(es.toList.map λe=>(e.key,e.val)).Perm l) (f:Stamped es a) (g:∀ x∈es.toList,IsKey d x.key):au w0 w (jJ d b l::R):=
 h.head λ_ i=>⟨es,a,c,f,g,i⟩
theorem au.OG (h:au w0 w (jJ d b l::R)):(l.map (·.1)).Nodup:=by
 obtain ⟨es,c,h1,h2,h3,h4⟩:=h.Ia;have:=(h1.map (·.1)).nodup_iff.1 (by rw [ajr];exact h2.2.2);exact this
theorem au.OH (h:au w0 w R) (d:TypeDesc):au w0 (w.alloc (.map #[] 0)) (jJ d w.heap.size []::R):=
 (h.alloc _).Ib yD0 (stamped_empty 0) yD0
variable {mty kt et:TypeId}{key:Value}
theorem ag7 (hm:P.underlying mty=some (.map kt et)) (hd:P.underlying kt=some d){z:Value} (hz:(zeroValue et).run P w=.ok z w) (hk:IsKey d key) (h:au w0 w (jJ d b l::R)) :
  (∃ v,(key,v)∈l/\(Instr.lookup mty (.map (some b)) key false).run P w=.ok v w/\(Instr.lookup mty (.map (some b)) key true).run P w=.ok (.tuple #[v,.bool true]) w) \/
  ((∀ p∈l,p.1≠key)/\(Instr.lookup mty (.map (some b)) key false).run P w=.ok z w/\(Instr.lookup mty (.map (some b)) key true).run P w=.ok (.tuple #[z,.bool false]) w):=by
 have⟨es,c,f,o,g,i⟩:=h.Ia;have hb:=i.at;rcases findNow_spec hk es.toList 0 g with ⟨f1,f2⟩|⟨j,e,f1,f2,f3⟩
 ·refine .inr ⟨?_,?_,?_⟩
  ·intro p m e;have:=(f.mem_iff.2 m);have⟨x,n,a⟩:=abI.1 this;refine f2 x n ?_;rw [<-e,<-a]
  ·exact afB
  ·exact afB
 ·refine .inl ⟨e.val,?_,?_,?_⟩
  ·refine f.mem_iff.1 (abI.2 ⟨e,abH f2,?_⟩);rw [f3]
  ·exact afC
  ·exact afC
theorem ahb (E:P.underlying mty=some (.map kt et)) (hd:P.underlying kt=some d) (D:IsKey d key) (v:Value) (h:au w0 w (jJ d b l::R)) :
  ∃ w',(Instr.mapUpdate mty (.map (some b)) key v).run P w=.ok () w'/\∀ C,(l.Perm C/\(∀ p∈C,p.1≠key)\/∃ v0,l.Perm ((key,v0)::C))->au w0 w' (jJ d b ((key,v)::C)::R):=by
 obtain ⟨es,c,h1,z,s,h4⟩:=h.Ia;have hb:=h4.at;have hnd:=h.OG
 have jc:∀ o':Obj,au w0 { w with heap:=w.heap.setIfInBounds b o' } (pt b o'::R):=λo'=>
  h4.jc rfl rfl rfl yD0 (heap_set hb).1 (λi hi _=>(heap_set hb).2 i hi)
 rcases findNow_spec D es.toList 0 s with ⟨f1,f2⟩|⟨j,e,f1,f2,f3⟩
 ·refine ⟨_,by simp [Instr.mapUpdate,akB E,aod hb,MapKept.run_checkKey hd D,MapKept.run_findKey hd f1,MapKept.run_setObj_map _ hb,Result.andThen];rfl,?_⟩;intro C n;refine (jc _).Ib ?_ (stamped_push z f2) ?_
  ·have hp:l.Perm C:=by
    rcases n with ⟨hp,_⟩|⟨v0,hp⟩
    ·exact hp
    ·exact afc
   simp only [Array.toList_push,acy,aij,ajz];exact (arZ).trans (by simpa using (h1.trans hp).cons (key,v))
  ·intro x hx;simp only [Array.toList_push,ahc,acS]at hx;rcases hx with hx|rfl
   ·exact s x hx
   ·exact D
 ·have A:es[j]?=some e:=by simpa using f2
  refine ⟨_,by simp [Instr.mapUpdate,akB E,aod hb,MapKept.run_checkKey hd D,MapKept.run_findKey hd f1,A,f3,MapKept.run_keyThatStays D,MapKept.run_setObj_map _ hb,Result.andThen];rfl,?_⟩;intro C n;have g:∀ o,es[j]?=some o->({ o with key:=key,val:=v }:MapEntry).key=o.key:=λo a=>by rw [A]at a;cases a;exact f3.symm
  refine (jc _).Ib ?_ (stamped_modify z _ _ (λ_ _=>rfl) (λo _ a=>g o a)) (isKey_modify s _ _ g);have m:=h1.mem_iff.1 (abI.2 ⟨e,abH f2,by rw [f3]⟩);have t:=(abM.1 f2).1;have f:es.toList=es.toList.take j++e::es.toList.drop (j+1):=by
   have u:=(abM.1 f2).2;rw [<-u,List.getElem_cons_drop,aja]
  have hp:l.Perm ((key,e.val)::C):=by
   rcases n with ⟨hp,y⟩|⟨v0,hp⟩
   ·exact absurd rfl (y _ (hp.mem_iff.1 m))
   ·have:(key,e.val)∈(key,v0)::C:=hp.mem_iff.1 m;rcases ab9.1 this with hh|hh
    ·rw [hh];exact hp
    ·exact afy
  have r:(es.modify j λe=>{ e with key:=key,val:=v }).toList=es.toList.take j++{ e with key:=key,val:=v }::es.toList.drop (j+1):=by
   rw [Array.toList_modify,List.modify_eq_take_cons_drop t];have u:=(abM.1 f2).2;rw [u]
  rw [r];rw [f]at h1;simp only [acy,aij]at h1 ⊢;rw [f3]at h1;have B:=(auH.symm.trans h1).trans hp;exact auH.trans ((List.Perm.cons_inv B).cons _)
theorem asB {ty:TypeId} (hm:P.underlying mty=some (.map kt et)) (hd:P.underlying kt=some d) (hk:IsKey d key) (h:au w0 w (jJ d b l::R)) :
  ∃ w',(Builtin.delete_ #[mty,kt] ty #[.map (some b),key]).run P w=.ok (.tuple #[]) w'/\∀ u,(l.Perm u/\(∀ p∈u,p.1≠key)\/∃ v0,l.Perm ((key,v0)::u))->au w0 w' (jJ d b u::R):=by
 obtain ⟨es,c,h1,s,n,h4⟩:=h.Ia;have hb:=h4.at;have hnd:=h.OG
 have jc:∀ o':Obj,au w0 { w with heap:=w.heap.setIfInBounds b o' } (pt b o'::R):=λo'=>
  h4.jc rfl rfl rfl yD0 (heap_set hb).1 (λi hi _=>(heap_set hb).2 i hi)
 rcases findNow_spec hk es.toList 0 n with ⟨f1,f2⟩|⟨j,e,f1,f2,f3⟩
 ·refine afr ?_;intro u m;refine (jc _).Ib ?_ s n;rcases m with ⟨hp,_⟩|⟨v0,hp⟩
  ·exact h1.trans hp
  ·exact afc
 ·refine afr ?_;intro u m;have o:=(abM.1 f2).1;have f:(es.eraseIdxIfInBounds j).toList=es.toList.take j++es.toList.drop (j+1):=by
   unfold Array.eraseIdxIfInBounds;rw [dif_pos (by simpa using o),Array.toList_eraseIdx,List.eraseIdx_eq_take_drop_succ]
  refine (jc _).Ib ?_ (stamped_erase s _) ?_
  ·have g:=h1.mem_iff.1 (abI.2 ⟨e,abH f2,by rw [f3]⟩);have hp:l.Perm ((key,e.val)::u):=by
    rcases m with ⟨hp,r⟩|⟨v0,hp⟩
    ·exact absurd rfl (r _ (hp.mem_iff.1 g))
    ·have:(key,e.val)∈(key,v0)::u:=hp.mem_iff.1 g;rcases ab9.1 this with hh|hh
     ·rw [hh];exact hp
     ·exact afy
   have a:es.toList=es.toList.take j++e::es.toList.drop (j+1):=by
    have t:=(abM.1 f2).2;rw [<-t,List.getElem_cons_drop,aja]
   rw [f];rw [a]at h1;simp only [acy,aij]at h1 ⊢;rw [f3]at h1;exact List.Perm.cons_inv ((auH.symm.trans h1).trans hp)
  ·intro x hx;rw [f]at hx;refine n x ?_;rcases ahc.1 hx with hx|hx
   ·exact ajq hx
   ·exact List.mem_of_mem_drop hx
theorem asG (hm:P.underlying mty=some (.map kt et)) (ty:TypeId) (h:au w0 w (jJ d b l::R)):(Builtin.len_ #[mty] ty #[.map (some b)]).run P w=.ok (.int .i64 l.length) w:=by
 obtain ⟨es,c,e,i,j,f⟩:=h.Ia;have g:=f.at;have a:=e.length_eq;simp at a;simp [Builtin.len_,akB hm,aod g,Result.andThen,goInt,a]
end
section
variable {P:Program}{w0 w:World}{R:List aO}{d:TypeDesc}{b:Nat}{l:List (Value×Value)}{key:Value}{t kt et:TypeId}
variable {ops:Array Oper}{rest:List Oper}{o:Oper}{a:Act}{Q:Exit->Act->World->Prop}
theorem aiw (hg:o.guard=none) (m x:Operand) (hop:o.op=Op.call { callee:=Callee.builtin Builtin.delete,args:=#[m,x],argTypes:=#[t,kt] })
  (hm:P.underlying t=some (.map kt et)) (hd:P.underlying kt=some d) (hmv:a.eval m=.map (some b)) (hxv:a.eval x=key) (hk:IsKey d key) (h:au w0 w (jJ d b l::R))
  (l0:List (Value×Value)) (hl:l.Perm l0/\(∀ p∈l0,p.1≠key)\/∃ v0,l.Perm ((key,v0)::l0))
  (hK:∀ w',au w0 w' (jJ d b l0::R)->wpList P ops Q rest (a.put o.dst (.tuple #[])) w'):wpList P ops Q (o::rest) a w:=by
 refine ajs hg λK' hK'=>?_;obtain ⟨w',hrun,hs⟩:=asB (P:=P) (ty:=o.type) hm hd hk h;unfold Oper.wp;simp [execOp,hop,resolve,invoke,builtin,hmv,hxv,hrun,Result.andThen];exact hK' _ _ (hK w' (hs l0 hl))
theorem XZ (hg:o.guard=none) (m x y:Operand) (hop:o.op=Op.mapUpdate t m x y)
  (hm:P.underlying t=some (.map kt et)) (hd:P.underlying kt=some d) (hmv:a.eval m=.map (some b)) (hxv:a.eval x=key) {v:Value} (hyv:a.eval y=v) (hk:IsKey d key) (h:au w0 w (jJ d b l::R))
  (l0:List (Value×Value)) (hl:l.Perm l0/\(∀ p∈l0,p.1≠key)\/∃ v0,l.Perm ((key,v0)::l0))
  (hK:∀ w',au w0 w' (jJ d b ((key,v)::l0)::R)->wpList P ops Q rest (a.put o.dst undef) w'):wpList P ops Q (o::rest) a w:=by
 refine ajs hg λK' hK'=>?_;obtain ⟨w',hrun,hs⟩:=ahb (P:=P) hm hd hk v h;unfold Oper.wp;simp [execOp,hop,hmv,hxv,hyv,hrun,Result.andThen];exact hK' _ _ (hK w' (hs l0 hl))
end
end Go.Sl
namespace Go.aG
abbrev Bs:=List UInt8
structure jQ where
 cut:Bool
 n:Nat
 b:Bs
def jQ.on (c:jQ) (l:Bs):Bs:=if c.cut then l.take c.n else l++c.b
structure dw where
 jo:Bs
 aN:Bs
 waits:List jQ
def dw.iZ:dw:=⟨[],[],[]⟩
def dw.do (f:dw) (c:jQ):dw:={ f with aN:=c.on f.aN,waits:=f.waits++[c] }
def dw.dY (f:dw):dw:={ f with jo:=f.aN,waits:=[] }
def dw.at (f:dw) (k:Nat):Bs:=(f.waits.take k).foldl (λb c=>c.on b) f.jo
def MQ (x:Int) (hi:Nat):Nat:=min x.toNat hi
def dw.left (f:dw) (whole Qg:Int):Bs:=
 let k:=MQ whole f.waits.length
 match f.waits[k]? with
 |some c=>if c.cut then f.at k else f.at k++c.b.take (MQ Qg c.b.length)
 |none=>f.at k
def dw.Jg (f:dw) (whole Qg:Int):dw:=⟨f.left whole Qg,f.left whole Qg,[]⟩
abbrev iI:=List (ByteArray×Nat)
def lt (a b:ByteArray):Bool:=decide (a.data.toList<b.data.toList)
def dN (l:iI) (s:ByteArray):Option Nat:=(l.find? λp=>p.1==s).map (·.2)
def jY (l:iI) (s:ByteArray):iI:=l.filter λp=>p.1 != s
def yR:iI->ByteArray->Nat->iI
 |[],s,i=>[(s,i)]
 |p::l,s,i=>if lt s p.1 then (s,i)::p::l else p::yR l s i
def qp (l:iI) (s:ByteArray) (i:Nat):iI:=yR (jY l s) s i
structure lY where
 fr:ByteArray
 to:ByteArray
 f:Nat
def lY.on (x:lY) (l:iI):iI:=
 let l:=if x.fr=ByteArray.empty then l else jY l x.fr
 if x.to=ByteArray.empty then l else qp l x.to x.f
structure aG where
 room:Nat
 jo:iI
 aN:iI
 dU:List dw
 waits:List lY
 vI:Bool
 left:Nat
 off:Bool
def aG.file (m:aG) (i:Nat):dw:=m.dU.getD i dw.iZ
def aG.cO (m:aG):Nat:=(m.aN.map λp=>(m.file p.2).aN.length).sum
def iZ (room:Nat):aG:=⟨room,[],[],[],[],false,0,false⟩
def vM (c:UInt8):Bool:=(97<=c && c<=122) || (48<=c && c<=57) || c==46 || c==45
def dW (s:ByteArray):Bool:=decide (1<=s.size) && decide (s.size<=24) && s.data.toList.all vM
def aG.step (m:aG):aG×Bool:=
 if m.vI then (if m.left=0 then ({ m with off:=true },false) else ({ m with left:=m.left-1 },true)) else (m,true)
def aG.kL (m:aG) (x:lY):aG:={ m with aN:=x.on m.aN,waits:=m.waits++[x] }
def aG.lW (m:aG) (i:Nat) (f:dw):aG:={ m with dU:=m.dU.set i f }
def aG.dM (m:aG) (s:ByteArray):aG×Int:=
 if m.off then (m,12)
 else if dW s=false then (m,7)
 else if (dN m.aN s).isSome then (m,10)
 else if 500<=m.aN.length then (m,16)
 else if m.step.2=false then (m.step.1,12)
 else ({ m.step.1 with dU:=m.dU++[dw.iZ] }.kL ⟨ByteArray.empty,s,m.dU.length⟩,0)
def aG.append (m:aG) (s:ByteArray) (b:Bs):aG×Int:=
 if m.off then (m,12)
 else match dN m.aN s with
 |none=>(m,9)
 |some i=>
  if (m.room:Int)-m.cO<b.length then (m,11)
  else if m.step.2=false then (m.step.1,12)
  else (m.step.1.lW i ((m.file i).do ⟨false,0,b⟩),0)
def aG.FC (m:aG) (s:ByteArray) (n:Int):aG×Int:=
 if m.off then (m,12)
 else match dN m.aN s with
 |none=>(m,9)
 |some i=>
  if n<0\/((m.file i).aN.length:Int)<n then (m,2)
  else if m.step.2=false then (m.step.1,12)
  else (m.step.1.lW i ((m.file i).do ⟨true,n.toNat,[]⟩),0)
def aG.kC (m:aG) (s t:ByteArray):aG×Int:=
 if m.off then (m,12)
 else match dN m.aN s with
 |none=>(m,9)
 |some i=>
  if dW t=false then (m,7)
  else if m.step.2=false then (m.step.1,12)
  else (m.step.1.kL ⟨s,t,i⟩,0)
def aG.dA (m:aG) (s:ByteArray):aG×Int:=
 if m.off then (m,12)
 else match dN m.aN s with
 |none=>(m,9)
 |some _=>
  if m.step.2=false then (m.step.1,12)
  else (m.step.1.kL ⟨s,ByteArray.empty,0⟩,0)
def aG.dY (m:aG) (s:ByteArray):aG×Int:=
 if m.off then (m,12)
 else match dN m.aN s with
 |none=>(m,9)
 |some i=>
  if m.step.2=false then (m.step.1,12)
  else (m.step.1.lW i (m.file i).dY,0)
def aG.fU (m:aG):aG×Int:=
 if m.off then (m,12)
 else if m.step.2=false then (m.step.1,12)
 else ({ m.step.1 with jo:=m.aN,waits:=[] },0)
def aG.read (m:aG) (s:ByteArray) (aP n:Int):Bs×Int:=
 if m.off then ([],12)
 else match dN m.aN s with
 |none=>([],9)
 |some i=>
  let l:=(m.file i).aN
  if aP<0\/n<0 then ([],2)
  else if (l.length:Int)<aP\/(l.length:Int)-aP<n then ([],3)
  else ((l.drop aP.toNat).take n.toNat,0)
def aG.all (m:aG) (s:ByteArray):Bs×Int:=
 if m.off then ([],12)
 else match dN m.aN s with
 |none=>([],9)
 |some i=>((m.file i).aN,0)
def aG.size (m:aG) (s:ByteArray):Int×Int:=
 if m.off then (0,12)
 else match dN m.aN s with
 |none=>(0,9)
 |some i=>((m.file i).aN.length,0)
def aG.list (m:aG):List ByteArray:=if m.off then [] else m.aN.map (·.1)
def aG.zI (m:aG):Nat:=if m.off then 0 else m.cO
def aG.Iq (m:aG) (n:Int):aG×Int:=
 if m.off then (m,12) else if n<0\/16777216<n then (m,2) else ({ m with room:=n.toNat },0)
def aG.En (m:aG) (n:Int):aG×Int:=
 if m.off then (m,12) else if n<0 then (m,2) else ({ m with vI:=true,left:=n.toNat },0)
def bD (l:List Int) (i:Nat):Int:=l.getD i 0
def aG.vO (m:aG) (k:Nat):iI:=(m.waits.take k).foldl (λl x=>x.on l) m.jo
def aae (l:List Int):iI->Nat->List dw->List dw
 |[],_,fs=>fs
 |p::ns,j,fs=>aae l ns (j+2) (fs.set p.2 ((fs.getD p.2 dw.iZ).Jg (bD l j) (bD l (j+1))))
def aG.Jg (m:aG) (l:List Int):aG:=
 let ns:=m.vO (MQ (bD l 0) m.waits.length)
 { m with jo:=ns,aN:=ns,waits:=[],dU:=aae l ns 1 m.dU,off:=false,vI:=false,left:=0 }
def iE (l:Bs) (i:Nat) (y:UInt8):Bs:=l.set i (l.getD i 0 ^^^ y)
def Am (f:dw) (i:Nat) (y:UInt8):Nat->Option (List jQ)
 |0=>none
 |k+1=>
  match f.waits[k]? with
  |none=>Am f i y k
  |some c=>if c.cut then Am f i y k
   else if (f.at k).length<=i then some (f.waits.set k { c with b:=iE c.b (i-(f.at k).length) y })
   else Am f i y k
def dw.gW (f:dw) (i:Nat) (y:UInt8):dw:=
 match Am f i y f.waits.length with
 |some ws=>{ f with aN:=iE f.aN i y,waits:=ws }
 |none=>{ f with aN:=iE f.aN i y,jo:=iE f.jo i y }
def aG.gW (m:aG) (s:ByteArray) (i:Int) (y:UInt8):aG×Bool:=
 match dN m.aN s with
 |none=>(m,false)
 |some k=>if i<0\/((m.file k).aN.length:Int)<=i then (m,false) else (m.lW k ((m.file k).gW i.toNat y),true)
end Go.aG
namespace Go.Proofs.Y
open Go Go.Sl Go.aG Go.MapKept
def aI (l:Bs):List Value:=l.map λb=> .int .u8 b.toNat
abbrev aW (b:Nat):Value:= .pointer (some ⟨b,0,none⟩)
abbrev dS (n:Int):Value:= .int .i64 n
def qC (p:jQ×Value):List Value:=[.bool p.1.cut,.int .i64 p.1.n,p.2]
def cZ (v:Value) (l:Bs):aO:=aK 5 1 v (aI l)
def rW (ws:List (jQ×Value)):aO:=nP (ws.map λp=>cZ p.2 p.1.b)
def Bv (b:Nat) (fv nv wv:Value):aO:=pt b (.cells #[fv,nv,wv] 157 (0,0))
def D7 (b:Nat) (f:dw) (fv nv wv:Value) (ws:List (jQ×Value)):List aO:=
 [Bv b fv nv wv,cZ fv f.jo,cZ nv f.aN,aK 182 3 wv (ws.flatMap qC),rW ws]
def lN (b:Nat) (f:dw):aO:=λh=>∃ fv nv wv ws,ws.map (·.1)=f.waits/\nP (D7 b f fv nv wv ws) h
def uH (bs:List Nat) (fs:List dw):aO:=nP (List.zipWith lN bs fs)
def iU (bs:List Nat) (l:iI):List (Value×Value):=l.map λp=>(.string p.1,aW (bs.getD p.2 0))
def uN (bs:List Nat) (x:lY):List Value:=[.string x.fr,.string x.to,if x.to=ByteArray.empty then .pointer none else aW (bs.getD x.f 0)]
def uw (m:Nat) (M:aG) (fb nb:Nat) (wv:Value):aO:=
 pt m (.cells #[.int .i64 M.room,.map (some fb),.map (some nb),wv,.bool M.vI,.int .i64 M.left,.bool M.off] 131 (0,0))
def Bc (m:Nat) (M:aG) (bs:List Nat) (fb nb:Nat) (wv:Value):List aO:=
 [uw m M fb nb wv,jJ .string nb (iU bs M.aN),uH bs M.dU,jJ .string fb (iU bs M.jo),aK 135 3 wv (M.waits.flatMap (uN bs))]
def aV (m:Nat) (M:aG):aO:=λh=>∃ bs fb nb wv,bs.length=M.dU.length/\nP (Bc m M bs fb nb wv) h
section
variable {w0 w:World}{F:List aO}{m b:Nat}{M:aG}{f:dw}
theorem aV.open (h:au w0 w (aV m M::F)):∃ bs fb nb wv,bs.length=M.dU.length/\au w0 w (Bc m M bs fb nb wv++F):=by
 exact afu
theorem aV.fA {bs:List Nat}{fb nb:Nat}{wv:Value} (hl:bs.length=M.dU.length) (h:au w0 w (Bc m M bs fb nb wv++F)):au w0 w (aV m M::F):=
 h.join λ_ hx=>⟨bs,fb,nb,wv,hl,hx⟩
theorem lN.open (h:au w0 w (lN b f::F)):∃ fv nv wv ws,ws.map (·.1)=f.waits/\au w0 w (D7 b f fv nv wv ws++F):=by
 exact afu
theorem lN.fA {fv nv wv:Value}{ws:List (jQ×Value)} (hl:ws.map (·.1)=f.waits) (h:au w0 w (D7 b f fv nv wv ws++F)):au w0 w (lN b f::F):=
 h.join λ_ hx=>⟨fv,nv,wv,ws,hl,hx⟩
theorem Td:∀ (bs:List Nat) (fs:List dw) (i:Nat),bs.length=fs.length->i<fs.length ->
  ∃ G:aO,(uH bs fs=fP (lN (bs.getD i 0) (fs.getD i dw.iZ)) G)/\∀ f',uH bs (fs.set i f')=fP (lN (bs.getD i 0) f') G
 |[],[],i,_,h=>by simp at h
 |[],_::_,_,h,_=>by simp at h
 |_::_,[],_,h,_=>by simp at h
 |b::bs,f::fs,0,_,_=>⟨uH bs fs,rfl,λ_=>rfl⟩
 |b::bs,f::fs,i+1,hl,hi=>by
  obtain ⟨G,h1,h2⟩:=Td bs fs i (by simpa using hl) (by simpa using hi);refine ⟨fP (lN b f) G,?_,λf'=>?_⟩
  ·show fP (lN b f) (uH bs fs)=_;rw [h1,zF];rfl
  ·show fP (lN b f) (uH bs (fs.set i f'))=_;rw [h2,zF];rfl
theorem aaW:∀ (bs:List Nat) (fs:List dw) (b:Nat) (f:dw),bs.length=fs.length->uH (bs++[b]) (fs++[f])=fP (lN b f) (uH bs fs)
 |[],[],_,_,_=>rfl
 |[],_::_,_,_,h=>by simp at h
 |_::_,[],_,_,h=>by simp at h
 |c::bs,g::fs,b,f,h=>by
  show fP (lN c g) (uH (bs++[b]) (fs++[f]))=_;rw [aaW bs fs b f yJ0,zF];rfl
end
theorem info8:(prog.info? 5).map (λi=>(i.zero,i.size,i.bytes))=some (some (.int .u8 0),1,1):=by kernel_rfl
theorem an2 (w:World):(zeroValue 133).run prog w=.ok (.pointer none) w:=by kernel_rfl
@[go_sem] theorem avW (w:World) (r:Option Nat):(binOp .eql 128 (.map r) (.map none)).run prog w=.ok (.bool r.isNone) w:=run_eql_map_nil w _ _ _ r underlying128
end Go.Proofs.Y
namespace Go.Proofs.Y
open Go Go.Sl Go.aG Go.MapKept Go.RowKit
section
variable {w0 w:World}{F:List aO}{m fb nb:Nat}{M:aG}{bs:List Nat}{wv:Value}{s:ByteArray}
theorem Ew (h:au w0 w (uw m M fb nb wv::F)) :
  Calls prog 58 #[aW m] w (bf λv w'=>v=dS (bif M.off then 12 else 0)/\w=w'):=by
 obtain ⟨room,jo,aN,dU,waits,vI,left,off⟩:=M;have c2:=h.dD 2 _ rfl;have c6:=h.dD 6 _ rfl
 go_in
 cases off <;> (go_wp2;go_ret;exact ⟨_,rfl,rfl,rfl⟩)
theorem Fz (h:au w0 w (uw m M fb nb wv::F)) (hl:M.left<=9223372036854775807) :
  Calls prog 82 #[aW m] w (bf λv w'=>v=dS (bif M.step.2 then 0 else 12)/\au w0 w' (uw m M.step.1 fb nb wv::F)):=by
 obtain ⟨room,jo,aN,dU,waits,vI,left,off⟩:=M;have c4:=h.dD 4 _ rfl;have c5:=h.dD 5 _ rfl;have f5:=h.uJ 5;have f6:=h.uJ 6;have c6:=h.dD 6 _ rfl;simp only at hl
 go_in
 cases vI
 ·go_wp2;go_ret;exact ⟨_,rfl,by simp [aG.step],by simpa [aG.step] using h⟩
 ·by_cases hz:left=0
  ·subst hz;go_wp2;go_ret;exact ⟨_,rfl,rfl,h.set 6 (.bool true)⟩
  ·have hz':(left==0)=false:=by simpa using hz
   have e1:((left-1:Nat):Int)=left-1:=by omega
   go_wp2;go_ret;refine ⟨_,rfl,by simp [aG.step,hz],?_⟩;have:=h.set 5 (.int .i64 (left-1));simp only [aG.step,hz,auT,auQ,uw,e1];exact this
end
end Go.Proofs.Y
namespace Go.aG
theorem tY (a b:ByteArray):(a==b)=decide (a=b):=by
 by_cases h:a=b
 ·subst h;simp [(MapKept.bytes_beq a a).2 rfl]
 ·have:¬ (a==b)=true:=λe=>h ((MapKept.bytes_beq a b).1 e);simp [h,Bool.eq_false_iff.2 this]
theorem lZ {l:iI}{s:ByteArray}{i:Nat} (h:dN l s=some i):(s,i)∈l:=by
 unfold dN at h;cases hf:l.find? (λp=>p.1==s) with
 |none=>rw [hf]at h;cases h
 |some p=>
  rw [hf]at h;have h1:=List.find?_some hf;have h2:=List.mem_of_find?_eq_some hf;simp [tY]at h1 h;obtain ⟨a,b⟩:=p;simp at h1 h;subst h1;subst h;exact h2
theorem Oy {l:iI}{s:ByteArray} (h:dN l s=none):∀ p∈l,p.1≠s:=by
 intro p hp e;simp only [dN,Option.map_eq_none_iff,List.find?_eq_none]at h;exact h p hp (by simp [tY,e])
theorem G8 {l:iI} (hn:(l.map (·.1)).Nodup){s:ByteArray}{i:Nat} (h:(s,i)∈l):dN l s=some i:=by
 cases hg:dN l s with
 |none=>exact absurd rfl (Oy hg _ h)
 |some j=>
  have c:=lZ hg
  induction l with
  |nil=>cases h
  |cons p l d=>
   simp only [aij,ao5]at hn;rcases ab9.1 h with a|a <;> rcases ab9.1 c with b|b
   ·rw [<-a]at b;cases b;rfl
   ·exact (hn.1 (abI.2 ⟨_,b,by rw [<-a]⟩)).elim
   ·exact (hn.1 (abI.2 ⟨_,a,by rw [<-b]⟩)).elim
   ·refine d hn.2 a ?_ b;unfold dN at hg ⊢;have:(p.1==s)=false:=by
     rw [tY];simp;intro e;exact hn.1 (abI.2 ⟨_,a,e.symm⟩)
    rw [List.find?_cons_of_neg (by simp [this])]at hg;exact hg
theorem apq (l:iI) (s:ByteArray):∀ p∈jY l s,p.1≠s:=by
 intro p hp;have:=(ai4.1 hp).2;simpa [tY,bne] using this
theorem UJ {l:iI} (hn:(l.map (·.1)).Nodup){s:ByteArray}{i:Nat} (h:(s,i)∈l):l.Perm ((s,i)::jY l s):=by
 induction l with
 |nil=>cases h
 |cons p l ih=>
  simp only [aij,ao5]at hn;rcases ab9.1 h with h1|h1
  ·subst h1;have:jY ((s,i)::l) s=l:=by
    unfold jY;rw [List.filter_cons_of_neg (by simp [tY,bne]),avV];intro q hq;simp only [bne,tY,Bool.not_eq_true',ai9];exact λe=>hn.1 (abI.2 ⟨q,hq,e⟩)
   rw [this]
  ·have hps:p.1≠s:=λe=>hn.1 (abI.2 ⟨_,h1,e.symm⟩);have:jY (p::l) s=p::jY l s:=by
    unfold jY;rw [List.filter_cons_of_pos (by simpa [tY,bne] using hps)]
   rw [this];exact ((ih hn.2 h1).cons p).trans (List.Perm.swap _ _ _)
theorem EX {l:iI}{s:ByteArray} (h:dN l s=none):jY l s=l:=by
 unfold jY;rw [avV];intro q hq;simpa [tY,bne] using Oy h q hq
theorem UN:∀ (l:iI) (s:ByteArray) (i:Nat),(yR l s i).Perm ((s,i)::l)
 |[],_,_=>ao9 _
 |p::l,s,i=>by
  unfold yR;split
  ·exact ao9 _
  ·exact ((UN l s i).cons p).trans (List.Perm.swap _ _ _)
theorem BG (l:iI) (s:ByteArray) (i:Nat):(qp l s i).Perm ((s,i)::jY l s):=UN _ _ _
structure dw.Ok (K:Nat) (f:dw):Prop where
 aN:f.aN=f.at f.waits.length
 MX:∀ k c,f.waits[k]?=some c->c.cut=true->c.n<=(f.at k).length
 size:∀ k,k<=f.waits.length->(f.at k).length<=16777216
 wC:f.waits.length<=K
theorem dw.akz (f:dw):f.at 0=f.jo:=rfl
theorem dw.MH (f:dw) (c:jQ) (k:Nat) (h:k<=f.waits.length):(f.do c).at k=f.at k:=by
 unfold dw.at dw.do;simp only;rw [ajj h]
theorem dw.yj (f:dw) (k:Nat) (c:jQ) (h:f.waits[k]?=some c):f.at (k+1)=c.on (f.at k):=by
 unfold dw.at;obtain ⟨hlt,rfl⟩:=abM.1 h;rw [ajA hlt,asl]
 rfl
theorem dw.Zt (f:dw) (c:jQ) (hn:f.aN=f.at f.waits.length):(f.do c).at (f.waits.length+1)=c.on f.aN:=by
 rw [dw.yj _ _ c (by simp [dw.do]),dw.MH _ _ _ (abG _),hn]
theorem dw.Ok.zD {K:Nat}{f:dw} (h:f.Ok K):f.aN.length<=16777216:=by
 rw [h.aN];exact h.size _ (abG _)
theorem dw.Ok.mono {K K':Nat}{f:dw} (h:f.Ok K) (hk:K<=K'):f.Ok K':=⟨h.aN,h.MX,h.size,abQ h.wC hk⟩
theorem dw.Ok.iZ (K:Nat):dw.iZ.Ok K:=⟨rfl,by simp [dw.iZ],by simp [dw.iZ,dw.at],by simp [dw.iZ]⟩
theorem dw.Ok.do {K:Nat}{f:dw} (h:f.Ok K) (c:jQ) (h1:c.cut=true->c.n<=f.aN.length) (h2:c.cut=false->f.aN.length+c.b.length<=16777216):(f.do c).Ok (K+1):=by
 have g:(f.do c).waits.length=f.waits.length+1:=by simp [dw.do]
 refine ⟨?_,?_,?_,by rw [g];exact Nat.succ_le_succ h.wC⟩
 ·rw [g,f.Zt c h.aN];rfl
 ·intro k l a e;simp only [dw.do]at a;rcases awy k f.waits.length with d|rfl|i
  ·rw [aiS d]at a;rw [f.MH c k (Nat.le_of_lt d)];exact h.MX k l a e
  ·rw [aiP (abG _),auP]at a;simp at a;subst a;rw [f.MH c _ (abG _),<-h.aN];exact h1 e
  ·rw [aiP (Nat.le_of_lt i)]at a;have:k-f.waits.length≠0:=oQ;obtain ⟨j,m⟩:∃ j,k-f.waits.length=j+1:=⟨k-f.waits.length-1,by omega⟩;rw [m]at a;simp at a
 ·intro k a;rw [g]at a;rcases anF k (f.waits.length+1) with d|o
  ·rw [f.MH c k oQ];exact h.size k oQ
  ·obtain rfl:k=f.waits.length+1:=oQ;rw [f.Zt c h.aN];unfold jQ.on;cases e:c.cut
   ·simpa using h2 e
   ·simp;have:=h.zD;omega
theorem dw.Ok.dY {K:Nat}{f:dw} (h:f.Ok K):f.dY.Ok K:=
 ⟨rfl,by simp [dw.dY],(by simp only [dw.dY,dw.at];intro k _;simpa using h.zD),by simp [dw.dY]⟩
def tX (l:iI):Prop:=l.Pairwise λa b=>lt a.1 b.1=true
theorem lt_trans {a b c:ByteArray} (h:lt a b=true) (k:lt b c=true):lt a c=true:=by
 simp only [lt,ad2]at *;exact awl h k
theorem lt_irrefl (a:ByteArray):lt a a=false:=by simp [lt,avR]
theorem ao6 {a b:ByteArray} (h:a≠b):lt a b=true\/lt b a=true:=by
 simp only [lt,ad2];by_cases d:a.data.toList<b.data.toList
 ·exact .inl d
 ·right;have e:=List.not_lt.1 d;rcases List.le_iff_lt_or_eq.1 e with c|c
  ·exact c
  ·exfalso;apply h;obtain ⟨⟨y⟩⟩:=b;simp at c;subst c;rfl
theorem tX.keys {l:iI} (h:tX l):(l.map (·.1)).Nodup:=by
 rw [List.nodup_iff_pairwise_ne,akC];refine h.imp λ{a b} hab e=>?_;rw [e,lt_irrefl]at hab;cases hab
theorem tX.qo {l:iI} (h:tX l) (s:ByteArray):tX (jY l s):=h.sublist auR
theorem tX.yP:∀ {l:iI},tX l->∀ {s:ByteArray} (i:Nat),(∀ p∈l,p.1≠s)->tX (yR l s i)
 |[],_,_,_,_=>List.pairwise_singleton _ _
 |p::l,h,s,i,hs=>by
  unfold yR;obtain ⟨d,e⟩:=ajk.1 h;split
  ·rename_i a;refine ajk.2 ⟨λq b=>?_,h⟩;rcases ab9.1 b with rfl|b
   ·exact a
   ·exact lt_trans a (d q b)
  ·rename_i a;have c:=(ao6 (hs p (.head _))).resolve_right (by simpa using a);refine ajk.2 ⟨λq b=>?_,tX.yP e i (λq b=>hs q (.tail _ b))⟩;have:=(UN l s i).mem_iff.1 b;rcases ab9.1 this with rfl|b
   ·exact c
   ·exact d q b
theorem tX.put {l:iI} (h:tX l) (s:ByteArray) (i:Nat):tX (qp l s i):=(h.qo s).yP i (apq l s)
structure yg (n:Nat) (l:iI):Prop where
 sU:tX l
 len:l.length<=500
 qG:∀ p∈l,p.2<n
 ne:∀ p∈l,p.1≠ByteArray.empty
theorem yg.mono {n n':Nat}{l:iI} (h:yg n l) (hn:n<=n'):yg n' l:=⟨h.sU,h.len,λp hp=>awp (h.qG p hp) hn,h.ne⟩
theorem EW (l:iI) (s:ByteArray):(jY l s).length<=l.length:=ak6 _ _
theorem yg.qo {n:Nat}{l:iI} (h:yg n l) (s:ByteArray):yg n (jY l s):=
 ⟨h.sU.qo s,abQ (EW l s) h.len,λp hp=>h.qG p (ai4.1 hp).1,λp hp=>h.ne p (ai4.1 hp).1⟩
theorem UU (l:iI) (s:ByteArray) (i:Nat):(qp l s i).length=(jY l s).length+1:=(BG l s i).length_eq
theorem yg.put {n:Nat}{l:iI} (h:yg n l) (s:ByteArray) (i:Nat) (hi:i<n) (hl:(jY l s).length<500) (hs:s≠ByteArray.empty):yg n (qp l s i):=by
 refine ⟨h.sU.put s i,by rw [UU];omega,λp hp=>?_,λp hp=>?_⟩;rotate_left
 ·rcases ab9.1 ((BG l s i).mem_iff.1 hp) with rfl|hp
  ·exact hs
  ·exact h.ne p (ai4.1 hp).1
 rcases ab9.1 ((BG l s i).mem_iff.1 hp) with rfl|hp
 ·exact hi
 ·exact h.qG p (ai4.1 hp).1
theorem apr {l:iI} (hs:tX l){s:ByteArray}{i:Nat} (h:dN l s=some i):(jY l s).length+1=l.length:=by
 have:=(UJ hs.keys (lZ h)).length_eq;simp at this;omega
structure aG.Ok (K:Nat) (m:aG):Prop where
 room:m.room<=16777216
 left:m.left<=9223372036854775807
 EP:∀ x∈m.waits,x.to≠ByteArray.empty->x.f<m.dU.length
 ku:∀ k,k<=m.waits.length->yg m.dU.length (m.vO k)
 aN:m.aN=m.vO m.waits.length
 dU:∀ f∈m.dU,f.Ok K
 wC:m.waits.length<=K
theorem aG.Ok.jR {K:Nat}{m:aG} (h:m.Ok K):yg m.dU.length m.aN:=by rw [h.aN];exact h.ku _ (abG _)
theorem aG.Ok.ami {K:Nat}{m:aG} (h:m.Ok K):yg m.dU.length m.jo:=h.ku 0 (acn _)
theorem aG.Ok.file {K:Nat}{m:aG} (h:m.Ok K) (i:Nat):(m.file i).Ok K:=by
 unfold aG.file;rcases anF i m.dU.length with hi|hi
 ·rw [abY,aaf hi];exact h.dU _ (List.getElem_mem hi)
 ·rw [abY,avA hi];exact dw.Ok.iZ K
theorem aG.Ok.mono {K K':Nat}{m:aG} (h:m.Ok K) (hk:K<=K'):m.Ok K':=
 ⟨h.room,h.left,h.EP,h.ku,h.aN,λf hf=>(h.dU f hf).mono hk,abQ h.wC hk⟩
theorem aG.Ok.iZ (K room:Nat) (h:room<=16777216):(iZ room).Ok K:=
 ⟨h,by simp [aG.iZ],by simp [aG.iZ],(by intro k _;simp [aG.iZ,aG.vO];exact ⟨List.Pairwise.nil,by simp,by simp,by simp⟩),by simp [aG.iZ,aG.vO],by simp [aG.iZ],by simp [aG.iZ]⟩
theorem aG.Ok.step {K:Nat}{m:aG} (h:m.Ok K):m.step.1.Ok K:=by
 unfold aG.step;split
 ·split
  ·exact ⟨h.room,h.left,h.EP,h.ku,h.aN,h.dU,h.wC⟩
  ·exact ⟨h.room,abQ (Nat.sub_le _ _) h.left,h.EP,h.ku,h.aN,h.dU,h.wC⟩
 ·exact h
theorem aG.qg (m:aG):m.step.1.room=m.room/\m.step.1.jo=m.jo/\m.step.1.aN=m.aN/\m.step.1.dU=m.dU/\m.step.1.waits=m.waits:=by
 unfold aG.step;split
 ·split <;> exact ⟨rfl,rfl,rfl,rfl,rfl⟩
 ·exact ⟨rfl,rfl,rfl,rfl,rfl⟩
theorem aG.aoE (m:aG) (x:lY) (k:Nat) (h:k<=m.waits.length):(m.kL x).vO k=m.vO k:=by
 unfold aG.vO aG.kL;simp only;rw [ajj h]
theorem aG.ac2 (m:aG) (x:lY) (h:m.aN=m.vO m.waits.length):(m.kL x).vO (m.waits.length+1)=x.on m.aN:=by
 rw [h];unfold aG.vO aG.kL;simp only;rw [acE yD0,acE (abG _),asl]
 rfl
theorem aG.Ok.kL {K:Nat}{m:aG} (h:m.Ok K) (x:lY) (hf:x.to≠ByteArray.empty->x.f<m.dU.length) (hn:yg m.dU.length (x.on m.aN)):(m.kL x).Ok (K+1):=by
 have hw:(m.kL x).waits.length=m.waits.length+1:=by simp [aG.kL]
 refine ⟨h.room,h.left,?_,?_,?_,λf hf=>(h.dU f hf).mono (akA _),by rw [hw];exact Nat.succ_le_succ h.wC⟩
 ·intro y hy;simp only [aG.kL,ahc,acS]at hy;rcases hy with hy|rfl
  ·exact h.EP y hy
  ·exact hf
 ·intro k hk;rw [hw]at hk;rcases anF k (m.waits.length+1) with hlt|hge
  ·rw [m.aoE x k oQ];exact h.ku k oQ
  ·obtain rfl:k=m.waits.length+1:=oQ;rw [m.ac2 x h.aN];exact hn
 ·rw [hw,m.ac2 x h.aN];rfl
theorem aG.Ok.lW {K:Nat}{m:aG} (h:m.Ok K) (i:Nat) (f:dw) (hf:f.Ok (K+1)):(m.lW i f).Ok (K+1):=by
 have hl:(m.lW i f).dU.length=m.dU.length:=by simp [aG.lW]
 refine ⟨h.room,h.left,(by rw [hl];exact h.EP),(by rw [hl];exact h.ku),h.aN,?_,Nat.le_succ_of_le h.wC⟩;intro g hg;rcases aoU hg with hg|rfl
 ·exact (h.dU g hg).mono (akA _)
 ·exact hf
theorem aG.Ok.apu {K:Nat}{m:aG} (h:m.Ok K):({ m with dU:=m.dU++[dw.iZ] }:aG).Ok K:=by
 have hl:(m.dU++[dw.iZ]).length=m.dU.length+1:=by simp
 refine ⟨h.room,h.left,λx hx ht=>(by have:=h.EP x hx ht;simp only [hl];omega),λk hk=>(h.ku k hk).mono yD0,h.aN,?_,h.wC⟩;intro f hf;rcases ahc.1 hf with hf|hf
 ·exact h.dU f hf
 ·rw [acS.1 hf];exact dw.Ok.iZ K
theorem yx {s:ByteArray} (h:dW s=true):s≠ByteArray.empty:=by
 intro e;subst e;simp [dW]at h
theorem aG.Ok.dM {K:Nat}{m:aG} (h:m.Ok K) (s:ByteArray):(m.dM s).1.Ok (K+1):=by
 unfold aG.dM;have a:=h.mono (akA K);split;· exact a
 split;· exact a
 rename_i hg;split;· exact a
 rename_i hn;split;· exact a
 rename_i i;split;· exact a.step
 have c:=h.step;obtain ⟨j,l,f,g,n⟩:=m.qg;have b:dW s=true:=by simpa using hg
 have d:dN m.aN s=none:=by simpa using hn
 have e:=c.apu;rw [g]at e;refine e.kL _ (λ_=>by simp) ?_;rw [f];unfold lY.on;simp only [auT,abB (yx b)];exact (h.jR.mono yD0).put s _ yD0 (by rw [EX d];omega) (yx b)
theorem ac7:∀ (l:List Nat) (n:Nat),n∈l->n<=l.sum
 |[],_,h=>by cases h
 |x::l,n,h=>by
  rcases ab9.1 h with rfl|h
  ·simp
  ·have:=ac7 l n h;simp;omega
theorem aG.Ok.append {K:Nat}{m:aG} (h:m.Ok K) (s:ByteArray) (b:Bs):(m.append s b).1.Ok (K+1):=by
 unfold aG.append;have h':=h.mono (akA K);split;· exact h'
 split;· exact h'
 rename_i i hi;split;· exact h'
 rename_i hroom;split;· exact h'.step
 refine h.step.lW _ _ ((h.file i).do _ yD0 ?_);intro _;have hu:(m.file i).aN.length<=m.cO:=by
  unfold aG.cO;have:(s,i)∈m.aN:=lZ hi;exact ac7 _ _ (abI.2 ⟨(s,i),this,rfl⟩)
 have:=h.room;simp only;omega
theorem aG.Ok.kC {K:Nat}{m:aG} (h:m.Ok K) (s t:ByteArray):(m.kC s t).1.Ok (K+1):=by
 unfold aG.kC;have c:=h.mono (akA K);split;· exact c
 split;· exact c
 rename_i i hi;split;· exact c
 rename_i hg;split;· exact c.step
 obtain ⟨g,j,e,d,l⟩:=m.qg;have a:dW t=true:=by simpa using hg
 have b:=h.jR.qG _ (lZ hi);refine h.step.kL _ (λ_=>by rw [d];exact b) ?_;rw [e,d];unfold lY.on;simp only [abB (yx a)];have hd:=apr h.jR.sU hi;have n:=h.jR.len;have f:=h.jR.ne _ (lZ hi);rw [abB f];refine (h.jR.qo s).put t i b ?_ (yx a);have:=EW (jY m.aN s) t;omega
theorem aG.Ok.dA {K:Nat}{m:aG} (h:m.Ok K) (s:ByteArray):(m.dA s).1.Ok (K+1):=by
 unfold aG.dA;have a:=h.mono (akA K);split;· exact a
 split;· exact a
 rename_i i hi;split;· exact a.step
 obtain ⟨f,g,b,c,j⟩:=m.qg;refine h.step.kL _ (λd=>absurd rfl d) ?_;rw [b,c];unfold lY.on;have e:=h.jR.ne _ (lZ hi);simp only [auT,abB e];exact h.jR.qo s
theorem aG.Ok.dY {K:Nat}{m:aG} (h:m.Ok K) (s:ByteArray):(m.dY s).1.Ok (K+1):=by
 unfold aG.dY;have h':=h.mono (akA K);split;· exact h'
 split;· exact h'
 rename_i i hi;split;· exact h'.step
 exact h.step.lW _ _ ((h.file i).dY.mono (akA _))
theorem aG.Ok.fU {K:Nat}{m:aG} (h:m.Ok K):m.fU.1.Ok K:=by
 unfold aG.fU;split;· exact h
 split;· exact h.step
 obtain ⟨d,e,b,c,f⟩:=m.qg;have a:=h.step;refine ⟨a.room,a.left,by simp,?_,?_,a.dU,by simp⟩
 ·intro k _;simp only [aG.vO,List.take_nil,List.foldl_nil];rw [c];exact h.jR
 ·simp only [aG.vO,List.take_nil,List.foldl_nil];exact b
theorem atZ (l:List Nat) (b:Nat) (h:∀ x∈l,x<=b):l.sum<=l.length*b:=by
 induction l with
 |nil=>simp
 |cons x l ih=>
  have h1:=h x (.head _);have h2:=ih λy hy=>h y (.tail _ hy);simp only [avE,aiT,as3];omega
theorem aG.Ok.aia {K:Nat}{m:aG} (h:m.Ok K):m.cO<=8388608000:=by
 unfold aG.cO
 have h1:=atZ (m.aN.map λp=>(m.file p.2).aN.length) 16777216 (by
  intro x hx;obtain ⟨p,_,rfl⟩:=abI.1 hx;exact (h.file p.2).zD)
 have:=h.jR.len;rw [abl]at h1;omega
def aG.awq (D:aG) (s:ByteArray):Int:=match dN D.aN s with
 |none=> -1
 |some i=>(i:Int)
end Go.aG
namespace Go.Sl
open Go Go.MapKept
abbrev kv (e:MapEntry):Value×Value:=(e.key,e.val)
theorem Uc {α β:Type}{f:α->β}:∀ {l:List α},(l.map f).Nodup->∀ {x y:α},x∈l->y∈l->f x=f y->x=y
 |[],_,_,_,h,_,_=>by cases h
 |z::l,hn,x,y,hx,hy,e=>by
  simp only [aij,ao5]at hn;rcases ab9.1 hx with a|a <;> rcases ab9.1 hy with b|b
  ·rw [a,b]
  ·subst a;exact (hn.1 (abI.2 ⟨y,b,e.symm⟩)).elim
  ·subst b;exact (hn.1 (abI.2 ⟨x,a,e⟩)).elim
  ·exact Uc hn.2 a b e
def yX (d:TypeDesc) (b r:Nat) (l left:List (Value×Value)):aO:=λh=>
 ∃ es clock seen,(es.toList.map kv).Perm l/\Stamped es clock/\(∀ x∈es.toList,IsKey d x.key)/\((es.toList.filter λe => !seen.contains e.born).map kv).Perm left /\
  fP (pt b (.map es clock)) (pt r (.mapIter (some b) clock seen clock)) h
section
variable {P:Program}{w0 w:World}{R:List aO}{d:TypeDesc}{b r:Nat}{l left:List (Value×Value)}
theorem au.agB (h:au w0 w (yX d b r l left::R)):∃ es k u,(es.toList.map kv).Perm l/\Stamped es k/\(∀ x∈es.toList,IsKey d x.key)/\((es.toList.filter λe => !u.contains e.born).map kv).Perm left /\
  au w0 w (pt b (.map es k)::pt r (.mapIter (some b) k u k)::R):=by
 obtain ⟨a,x,f,p,q,g,rfl,⟨es,c,i,j,m,n,o,s⟩,t⟩:=h;refine ⟨es,c,i,j,m,n,o,au.fP.1 ⟨a,_,f,p,q,g,rfl,s,t⟩⟩
theorem au.agC {es:Array MapEntry}{a:Nat}{c:Array Nat} (h:au w0 w (pt b (.map es a)::pt r (.mapIter (some b) a c a)::R))
  (f:(es.toList.map kv).Perm l) (g:Stamped es a) (i:∀ x∈es.toList,IsKey d x.key) (j:((es.toList.filter λe => !c.contains e.born).map kv).Perm left):au w0 w (yX d b r l left::R):=
 (au.fP.2 h).head λ_ k=>⟨es,a,c,f,g,i,j,k⟩
theorem au.VW (h:au w0 w (yX d b r l left::R)):au w0 w (jJ d b l::R):=by
 obtain ⟨es,c,i,a,e,f,j,g⟩:=h.agB;exact (g.bZ.drop).Ib a e f
theorem asN {t k e:TypeId} (ht:P.underlying t=some (.map k e)) (h:au w0 w (jJ d b l::R)) :
  ∃ r w',(Instr.range t (.map (some b))).run P w=.ok (.pointer (some ⟨r,0,none⟩)) w'/\au w0 w' (yX d b r l l::R):=by
 obtain ⟨es,c,h1,h2,h3,h4⟩:=h.Ia;have hb:=h4.at;refine ⟨w.heap.size,w.alloc (.mapIter (some b) c #[] c),?_,?_⟩
 ·simp [Instr.range,akB ht,aod hb,Result.andThen]
 ·exact (h4.alloc (.mapIter (some b) c #[] c)).bZ.agC h1 h2 h3 (by rw [avV.2 yD0];exact h1)
theorem asJ (h:au w0 w (yX d b r l left::R)) (ty:TypeId) :
  (left=[]/\(Instr.next (.pointer (some ⟨r,0,none⟩)) false ty).run P w=.ok (.tuple #[.bool false]) w) \/
  ∃ k v left' w',left.Perm ((k,v)::left')/\(Instr.next (.pointer (some ⟨r,0,none⟩)) false ty).run P w=.ok (.tuple #[.bool true,k,v]) w'/\au w0 w' (yX d b r l left'::R) /\
   (Instr.entry (.pointer (some ⟨r,0,none⟩))).run P w'=.ok (.tuple #[k,v]) w':=by
 obtain ⟨es,c,f,T,V,h3,U,H⟩:=h.agB;have W:=H.at;have hr:=H.bZ.at;have ae:=H.ne;have X:(getObj r).run P w=.ok (.mapIter (some b) c f c) w:=by simp [getObj,Sem.run,hr]
 have Y:(getObj b).run P w=.ok (.map es c) w:=aod W;have g:=V.1;have I:(es.filter λe => !f.contains e.born).filter (λe=>decide (e.born<c))=es.filter λe => !f.contains e.born:=by
  apply Array.ext';simp only [Array.toList_filter];rw [avV];intro x G;simpa using g x ((ai4.1 G).1)
 have J:(es.filter λe => !f.contains e.born).filter (λe=>decide (e.born>=c))=#[]:=by
  apply Array.ext';simp only [Array.toList_filter];rw [List.filter_eq_nil_iff];intro x G;have:=g x ((ai4.1 G).1);simp;omega
 have K:(!f.isEmpty && !es.isEmpty && es.all (λe=>decide (e.born>=c)))=false:=by
  by_cases he:es.isEmpty
  ·simp [he]
  ·have:es.all (λe=>decide (e.born>=c))=false:=by
    rw [Array.all_eq_false];have:0<es.size:=by
     rcases Nat.eq_zero_or_pos es.size with h|h
     ·exact absurd yJ0 he
     ·exact h
    refine ⟨0,this,?_⟩;have:=g es[0] yD0;simp;omega
   simp [this]
 generalize A:(es.filter λe => !f.contains e.born)=j at *
 have m:j.toList=es.toList.filter λe => !f.contains e.born:=by rw [<-A];simp
 rw [<-m]at U
 have key:(Instr.next (.pointer (some ⟨r,0,none⟩)) false ty).run P w =
   (do
    let a:=(if j.isEmpty then #[none] else #[])++j.map some
    match a[<-choose (.mapNext a.size)]? with
    |some (some e)=>
     setObj r (.mapIter (some b) c (f.push e.born) c)
     pure (.tuple #[.bool true,e.key,e.val])
    |some none=>pure (.tuple #[.bool false])
    |none=>stuck "Next: no such candidate" : Sem Value).run P w:=by
  unfold Instr.next;simp only [aii,X,acz,Y,K,ajI,auQ,A,I,J,Array.append_empty]
  rfl
 by_cases B:j=#[]
 ·left;subst B;have:left=[]:=by simpa using U.symm
  refine ⟨this,?_⟩;rw [key];simp [choose,Sem.run,Question.forced,Result.andThen]
 ·right;have t:0<j.size:=by
   rcases Nat.eq_zero_or_pos j.size with h|h
   ·exact absurd yJ0 B
   ·exact h
  have M:j.isEmpty=false:=by simpa using B
  -- which one
  obtain ⟨i,s,hi,Z,aa⟩:∃ i s,i<j.size/\(s=w\/s=w.drew)/\(choose (.mapNext (j.map some).size)).run P w=.ok i s:=by
   by_cases T:j.size<=1
   ·refine ⟨0,w,t,.inl rfl,?_⟩;simp [choose,Sem.run,Question.forced,T]
   ·refine ⟨w.tape w.drawn (.mapNext (j.map some).size)%j.size,w.drew,aqv _ t,.inr rfl,?_⟩;simp [choose,Sem.run,Question.forced,T,Question.cut]
  have N:au w0 s (pt b (.map es c)::pt r (.mapIter (some b) c f c)::R):=by
   rcases Z with rfl|rfl
   ·exact H
   ·exact H.drew
  have C:=N.bZ.at;have O:(j.map some)[i]?=some (some j[i]):=by simp [hi]
  obtain ⟨x,G⟩:∃ x,x=j[i]:=⟨_,rfl⟩;have Q:x∈es.toList.filter λe => !f.contains e.born:=by rw [<-m,G];simp
  have o:x∈es.toList:=(ai4.1 Q).1;have S:(setObj r (.mapIter (some b) c (f.push x.born) c)).run P s=.ok () { s with heap:=s.heap.setIfInBounds r (.mapIter (some b) c (f.push x.born) c) }:=by
   simp [setObj,Sem.run,C]
  have h6:au w0 { s with heap:=s.heap.setIfInBounds r (.mapIter (some b) c (f.push x.born) c) } (pt r (.mapIter (some b) c (f.push x.born) c)::pt b (.map es c)::R):=
   N.bZ.jc rfl rfl rfl yD0 (heap_set C).1 (λi hi _=>(heap_set C).2 i hi)
  have D:=V.2.1;refine ⟨x.key,x.val,(es.toList.filter λe => !(f.push x.born).contains e.born).map kv,_,?_,?_,h6.bZ.agC T V h3 (ao9 _),?_⟩
  ·
   refine U.symm.trans ?_;rw [m];have af:∀ y∈es.toList,y.born=x.born->y=x:=by
    intro y hy E;exact Uc D hy o E
   have u:x∈es.toList.filter λe => !f.contains e.born:=Q;have:(es.toList.filter λe => !f.contains e.born).Perm (x::es.toList.filter λe => !(f.push x.born).contains e.born):=by
    have hf:(es.toList.filter λe => !(f.push x.born).contains e.born)=(es.toList.filter λe => !f.contains e.born).filter λe=>e.born != x.born:=by
     rw [List.filter_filter];apply List.filter_congr;intro y _;by_cases W:y.born=x.born <;> simp [W]
    rw [hf];have n:((es.toList.filter λe => !f.contains e.born).map (·.born)).Nodup:=D.sublist ((auR).map _);clear hf U m A key;generalize (es.toList.filter λe => !f.contains e.born)=L at *
    induction L with
    |nil=>cases u
    |cons y L ih=>
     simp only [aij,ao5]at n;rcases ab9.1 u with rfl|hm
     ·rw [List.filter_cons_of_neg yD0];rw [avV.2];intro z hz;simp only [ajo,ne_eq];intro e;exact n.1 (abI.2 ⟨z,hz,e⟩)
     ·have E:y.born≠x.born:=λe=>n.1 (abI.2 ⟨x,hm,e.symm⟩);rw [List.filter_cons_of_pos (by simpa using E)];exact ((ih hm hm n.2).cons y).trans (List.Perm.swap _ _ _)
   simpa using this.map kv
  ·rw [key,M];simp only [ajI,auQ,Array.empty_append,aii,aa,acz,O,<-G,S,aiV]
  ·have ab:=h6.at;have ac:=h6.bZ.at;have ad:∀ w',w'.heap[r]?=some (.mapIter (some b) c (f.push x.born) c)->(getObj r).run P w'=.ok (.mapIter (some b) c (f.push x.born) c) w':=by
    intro w' hw;simp [getObj,Sem.run,hw]
   have F:es.find? (λe=>e.born==x.born)=some x:=by
    rw [<-Array.find?_toList];cases hf:es.toList.find? (λe=>e.born==x.born) with
    |none=>
     rw [List.find?_eq_none]at hf;exact absurd yD0 (hf x o)
    |some y=>
     have h7:=List.find?_some hf;have h8:=List.mem_of_find?_eq_some hf;rw [Uc D h8 o (by simpa using h7)]
   unfold Instr.entry;simp only [aii,ad _ ab,acz,aod ac,Array.back?_push,F];simp
variable {ops:Array Oper}{rest:List Oper}{o:Oper}{a:Act}{Q:Exit->Act->World->Prop}
theorem XY (hg:o.guard=none) (m:Operand) (t k e:TypeId) (i:o.op=Op.range t m) (j:P.underlying t=some (.map k e)) (n:a.eval m=.map (some b)) (h:au w0 w (jJ d b l::R))
  (p:∀ r w',au w0 w' (yX d b r l l::R)->wpList P ops Q rest (a.put o.dst (.pointer (some ⟨r,0,none⟩))) w'):wpList P ops Q (o::rest) a w:=by
 refine ajs hg λK c=>?_;obtain ⟨r,w',f,g⟩:=asN j h;unfold Oper.wp;simp [execOp,i,n,f,Result.andThen];exact c _ _ (p r w' g)
theorem XW (hg:o.guard=none) (p:Operand) (m:o.op=Op.next p false) (GU:a.eval p=.pointer (some ⟨r,0,none⟩)) (h:au w0 w (yX d b r l left::R))
  (n:left=[]->wpList P ops Q rest (a.put o.dst (.tuple #[.bool false])) w)
  (q:∀ k v j w',left.Perm ((k,v)::j)->au w0 w' (yX d b r l j::R)->(Instr.entry (.pointer (some ⟨r,0,none⟩))).run P w'=.ok (.tuple #[k,v]) w' ->
   wpList P ops Q rest (a.put o.dst (.tuple #[.bool true,k,v])) w'):wpList P ops Q (o::rest) a w:=by
 refine ajs hg λK c=>?_;unfold Oper.wp;rcases asJ (P:=P) h o.type with ⟨e,f⟩|⟨k,v,j,w',e,f,g,i⟩
 ·simp [execOp,m,GU,f,Result.andThen];exact c _ _ (n e)
 ·simp [execOp,m,GU,f,Result.andThen];exact c _ _ (q k v j w' e g i)
end
end Go.Sl
namespace Go.Sl
open Go
section
variable {P:Program}{ops:Array Oper}{Q:Exit->Act->World->Prop}{late:List Nat}{G:World->Prop}
def fD (late:List Nat) (G:World->Prop) (i:Nat) (w w':World):Prop:=late.contains i=true\/G w'\/w'=w
def nZ (P:Program) (ops:Array Oper) (Q:Exit->Act->World->Prop) (late:List Nat) (G:World->Prop):Nat->Array Bool->Act->World->Prop
 |0,l,a,w=>Region.ready .any ops l=[]/\Q .normal a w
 |n+1,l,a,w=>(Region.ready .any ops l=[]->Q .normal a w) /\
  ∀ i∈Region.ready .any ops l,wpOp P ops Q i (λa' w'=>fD late G i w w'/\nZ P ops Q late G n (l.setIfInBounds i true) a' w') a w
theorem XV:∀ (n:Nat) (l:Array Bool) (a:Act) (w:World),nZ P ops Q late G n l a w->wpAny P .any ops Q n l a w
 |0,_,_,_,h=>h
 |n+1,_,_,_,h=>⟨h.1,λi hi=>wpOp_mono (λa' w' h'=>XV n _ a' w' h'.2) (h.2 i hi)⟩
theorem gK {id:Nat}{a:Act}{w:World} (late:List Nat) (G:World->Prop) (hm:P.follows .mixedOrders=true)
  (h:nZ P ops Q late G ops.size (Array.replicate ops.size false) a w.drew):(Code.region id ops true).wp P Q a w:=
 wp_region_any hm (XV _ _ _ _ h)
def FN (ops:Array Oper) (i:Nat):Nat->Nat->Bool
 |0,_=>false
 |n+1,j=>((ops[j]?).map λo=>(o.after.any λe=>Region.binds .any e && e.on==i) || (o.after.any λe=>Region.binds .any e && FN ops i n e.on)).getD false
def Uk (ops:Array Oper) (late:List Nat) (i:Nat):Bool:=late.all λj=>j==i || FN ops i 8 j
def KC (ops:Array Oper) (l:Array Bool):Prop:=∀ (k:Nat) (ok:Oper),ops[k]?=some ok->l.getD k false=true->∀ e∈ok.after,Region.binds .any e=true->l.getD e.on false=true
def BR (ops:Array Oper) (l:Array Bool):Bool:=(List.range ops.size).all λk => !l.getD k false || ((ops[k]?).map λo=>o.after.all λe => !Region.binds .any e || l.getD e.on false).getD true
theorem aho {l:Array Bool} (h:BR ops l=true):KC ops l:=by
 intro k ok b d e f g;have a:=(aol.1 b).1;have c:=(ajC.1 h) k (by simpa using a);simp only [d,b,am8,avL,Bool.not_true,Bool.false_or]at c;obtain ⟨m,i,rfl⟩:=Array.getElem_of_mem f;have j:=Array.all_eq_true.1 c m i;simpa [g] using j
theorem atv {l:Array Bool}{j:Nat} (h:KC ops l) (hj:j∈Region.ready .any ops l):KC ops (l.setIfInBounds j true):=by
 obtain ⟨o,r,f,d⟩:=mem_ready.1 hj;have a:∀ k,l.getD k false=true->(l.setIfInBounds j true).getD k false=true:=by
  intro k c;by_cases b:j=k
  ·subst b;rcases anF j l.size with g|g
   ·simp [g]
   ·simp [avQ g]at c
  ·simp only [alF]at c ⊢;rw [avY b];exact c
 intro k ok c i e m n;by_cases b:j=k
 ·subst b;rw [f]at c;cases c;exact a _ (d e m n)
 ·refine a _ (h k ok c ?_ e m n);simp only [alF]at i ⊢;rw [avY b]at i;exact i
theorem aik {l:Array Bool} (d:KC ops l) (i:Nat):∀ (n j:Nat),FN ops i n j=true->(∀ f,ops[j]?=some f->∀ e∈f.after,Region.binds .any e=true->l.getD e.on false=true)->l.getD i false=true
 |0,_,h,_=>by cases h
 |n+1,j,h,hj=>by
  unfold FN at h;cases ho:ops[j]? with
  |none=>rw [ho]at h;simp at h
  |some o=>
   rw [ho]at h;simp only [am8,avL,Bool.or_eq_true]at h;rcases h with h|h
   ·obtain ⟨k,b,a⟩:=Array.any_eq_true.1 h;simp only [ajg,alj]at a;rw [<-a.2];exact hj o ho _ (Array.getElem_mem b) a.1
   ·obtain ⟨k,b,a⟩:=Array.any_eq_true.1 h;simp only [ajg]at a;have g:=hj o ho _ (Array.getElem_mem b) a.1;exact aik d i n _ a.2 (λok c=>d _ ok c g)
theorem aiv {i:Nat}{q:Oper}{v:Value}{S:World->Prop} (hi:ops[i]?=some q) (p:∀ (j:Nat) (o:Oper) cs b,ops[j]?=some o->o.op ≠ .select cs b)
  (Z:∀ c a w,Q (.panic c) (a.put q.dst v) w->Q (.panic c) a w)
  (hS:∀ j,FN ops i 8 j=false->j≠i->∀ w w',S w->fD late G j w w'->S w') :
  ∀ (n:Nat) (l:Array Bool) (a:Act) (w:World),KC ops l ->
   (∀ j Y,ops[j]?=some Y->j≠i->l.getD j true=false->(∀ e∈Y.after,Region.binds .any e=true->e.on≠i)->q.apart ops Y=true) ->
   i∈Region.ready .any ops l->YieldsIf P ops S q v a->S w ->
   nZ P ops Q late G n (l.setIfInBounds i true) (a.put q.dst v) w->nZ P ops Q late G (n+1) l a w:=by
 intro n
 induction n with
 |zero=>
  intro l a w _ _ u D E H;refine ⟨(λh=>(by rw [h]at u;cases u)),λj y=>?_⟩;by_cases d:j=i
  ·subst d;exact D.wpOp hi E ⟨.inr (.inr rfl),H⟩
  ·have:=ready_mono y d;rw [H.1]at this;cases this
 |succ n T=>
  intro l a w z f u D E H;refine ⟨(λh=>(by rw [h]at u;cases u)),λj y=>?_⟩;by_cases d:j=i
  ·subst d;exact D.wpOp hi E ⟨.inr (.inr rfl),H⟩
  ·have F:=H.2 j (ready_mono y d);obtain ⟨r,Y,g,s⟩:=mem_ready.1 y;have t:l.getD i false=false:=by
    have J:=(mem_ready.1 u).1;rcases anF i l.size with K|K
    ·simp [K]at J ⊢;exact J
    ·simp [avQ K]at J
   have A:∀ e∈Y.after,Region.binds .any e=true->e.on≠i:=λe U V L=>by
    have F:=s e U V;rw [L,t]at F;cases F
   have x:FN ops i 8 j=false:=by
    cases hw:FN ops i 8 j with
    |false=>rfl
    |true=>
     have:=aik z i 8 j hw (λo R=>by rw [g]at R;cases R;exact s);rw [t]at this;cases this
   have W:=wpOp_putIf g (f j Y g d r A) (λcs b=>p i q cs b hi) (λcs b=>p j Y cs b g) Z D F
   have m:∀ k ok,ops[k]?=some ok->k≠i->(l.setIfInBounds j true).getD k true=false ->
     (∀ e∈ok.after,Region.binds .any e=true->e.on≠i)->q.apart ops ok=true:=λk ok M N B O=>by
    refine f k ok M N ?_ O;by_cases C:j=k
    ·subst C;exact r
    ·rw [getD_set_ne true C]at B;exact B
   refine wpOp_mono (λX w' I=>⟨I.2.1,T (l.setIfInBounds j true) X w' (atv z y) m (ready_mono u (Ne.symm d)) I.1 (hS j x d w w' E I.2.1) ?_⟩) W;rw [Array.setIfInBounds_comm _ _ d];exact I.2.2
theorem uY {i:Nat}{k:Oper}{v:Value}{n:Nat}{l:Array Bool}{a:Act}{w:World} (hi:ops[i]?=some k)
  (p:(Region.noSelect ops && Region.free .any ops l i && (Region.ready .any ops l).contains i && Uk ops late i && BR ops l)=true)
  (q:∀ c a w,Q (.panic c) (a.put k.dst v) w->Q (.panic c) a w) (hy:YieldsIf P ops G k v a) (u:G w)
  (h:nZ P ops Q late G n (l.setIfInBounds i true) (a.put k.dst v) w):nZ P ops Q late G (n+1) l a w:=by
 simp only [ajg]at p;obtain ⟨⟨⟨⟨m,hf⟩,o⟩,r⟩,b⟩:=p;refine aiv hi (Region.noSelect_spec m) q ?_ n l a w (aho b) (Region.free_spec hi hf) (by simpa using o) hy u h;intro j d e w t s f;rcases f with p|f|rfl
 ·exfalso;have g:=(ajC.1 r) j (by simpa using p);rw [d,Bool.or_false]at g;exact e (by simpa using g)
 ·exact f
 ·exact s
theorem jh {i:Nat}{f:Oper}{v:Value}{n:Nat}{l:Array Bool}{a:Act}{w:World} (hi:ops[i]?=some f)
  (g:(Region.noSelect ops && Region.free .any ops l i && (Region.ready .any ops l).contains i && BR ops l)=true)
  (j:∀ c a w,Q (.panic c) (a.put f.dst v) w->Q (.panic c) a w) (hy:Yields P ops f v a)
  (h:nZ P ops Q late G n (l.setIfInBounds i true) (a.put f.dst v) w):nZ P ops Q late G (n+1) l a w:=by
 simp only [ajg]at g;obtain ⟨⟨⟨d,hf⟩,e⟩,b⟩:=g;exact aiv hi (Region.noSelect_spec d) j (λ_ _ _ _ _ _ _=>trivial) n l a w (aho b) (Region.free_spec hi hf) (by simpa using e) hy.yieldsIf trivial h
theorem wY {i:Nat}{o:Oper}{n:Nat}{l:Array Bool}{a:Act}{w:World} (ho:ops[i]?=some o) (hr:Region.ready .any ops l=[i])
  (h:∀ K:Act->World->Prop,(∀ a' w',fD late G i w w'->nZ P ops Q late G n (l.setIfInBounds i true) a' w'->K a' w') ->
   if Region.wanted o (yielded ops a.tmps)=true then Oper.wp P o a w K Q else K (a.put o.dst undef) w):nZ P ops Q late G (n+1) l a w:=by
 refine ⟨(λh0=>by rw [hr]at h0;cases h0),λj hj=>?_⟩;rw [hr]at hj;obtain rfl:j=i:=by simpa using hj
 have:=h _ (λa' w' h1 h2=>And.intro h1 h2);unfold wpOp;rw [ho];show if Region.wanted o (yielded ops a.tmps)=true then _ else _
 split
 ·rename_i hw;rw [abL hw]at this;exact .inl this
 ·rename_i hw;rw [abB hw]at this;exact this
theorem fK {n:Nat}{l:Array Bool}{a:Act}{w:World} (hr:Region.ready .any ops l=[]) (h:Q .normal a w):nZ P ops Q late G n l a w:=by
 cases n with
 |zero=>exact ⟨hr,h⟩
 |succ n=>exact ⟨λ_=>h,(by rw [hr];intro i hi;cases hi)⟩
end
theorem kW {α : Type} : (∀ (l : List α) (i : Nat) (h : i < l.toArray.size), l.toArray[i]'h = l[i]' yJ0) /\ (∀ (x : α) (l : List α) (i : Nat) (h : i + 1 < (x :: l).length), (x :: l)[i + 1]'h = l[i]' yJ0) /\ (∀ (x : α) (l : List α) (h : 0 < (x :: l).length), (x :: l)[0]'h = x) := ⟨λ_ _ h => List.getElem_toArray h, λ_ _ _ _ => rfl, λ_ _ _ => rfl⟩
end Go.Sl
namespace Go
open Go
theorem Fb(k:I)(h:RowKit.Hid I->H:=by
 intro fM;go_wp2_with (go_at_call 76;refine hf.mono ?_;rintro e w1 ⟨v,rfl,rfl,rfl⟩);exact fM.o):H:=h (uQ k)
theorem J8(h:H:=by
 go_ret;refine ⟨dS 12,rfl,by rw [iT.o],?_⟩;rw [iT.o];exact aV.fA (bs:=bs) (fb:=fb) (nb:=nb) (wv:=wv) (by rw [M.qg.2.2.2.1];exact hl) (Fe hS1)):H:=h
theorem VH(h:H:=by
 go_enter func173,ntmps173;go_wp2_with (first|(go_at_call 76;refine hf.mono ?_;rintro e w1 ⟨v,rfl,rfl,rfl⟩)|(go_at_call 74;go_must (refine hcl.mono ?_);rintro e w1 ⟨v,rfl,hS,_⟩))
 go_ret2
 exact ⟨_,rfl,v,by rw [iT.o];rfl,by rw [iT.o];exact hS⟩):H:=h
theorem VJ(k:I)(h:RowKit.Hid I->H:=by
 intro fM;go_enter func202,ntmps202;go_wp2_with (refine avd (P:=prog) aA 34 _ aA _ 1 aA _ _ (aI x.key).toArray (0,0) _ vk.o QS.o underlying34 aA zC0 ?_);go_ret;exact fM.o):H:=h (uQ k)
theorem Vg(k:I)(h:RowKit.Hid I->H:=by
 intro fM;go_enter func36,ntmps36;go_wp2_with (first|(go_at_call 58;refine hd.mono ?_;rintro e w1 ⟨v,rfl,rfl,rfl⟩)|(go_at_call 81;refine hg.mono ?_;rintro e w1 ⟨v,rfl,rfl,rfl⟩));go_ret;exact fM.o):H:=h (uQ k)
theorem O1(h:H:=by
 go_ret;exact ⟨dS 12,rfl,by rw [iT.o],by rw [iT.o];exact h⟩):H:=h
theorem O6(h:H:=by
 go_ret2
 exact ⟨_,rfl,.slice none 0 0,by rw [iT.o];rfl,by rw [iT.o];exact au.iW.2 h⟩):H:=h
theorem O9(k:I)(h:RowKit.Hid I->H:=by
 intro fM;go_ret;refine ⟨dS 0,rfl,by rw [iT.o],?_⟩;rw [iT.o];exact fM.o):H:=h (uQ k)
theorem Vp(h:H:=by
 exact ⟨_,rfl,.slice none 0 0,by rw [this];rfl,by rw [this];exact au.iW.2 h⟩):H:=h
theorem Vs(h:H:=by
 go_ret;exact ⟨dS 9,rfl,by rw [iT.o],by rw [iT.o];exact h⟩):H:=h
theorem Pg(k:I)(h:RowKit.Hid I->H:=by
 intro fM;go_wp2_with (first|(go_at_call 76;refine hf.mono ?_;rintro e w1 ⟨v,rfl,rfl,rfl⟩));exact fM.o):H:=h (uQ k)
theorem afv(k:I)(h:RowKit.Hid I->H:=by
 intro fM;have h:=run_equalIn_array (P:=P) w 9999 (ks.map (.int k)).toArray (ls.map (.int k)).toArray hu hi;rw [hc,ag3 9998 he ks ls (List.range n) (λi hi=>by have:=List.mem_range.1 hi;omega)]at h;revert h;exact fM.o):H:=h (uQ k)
theorem afI(h:H:=by
 go_wp2_with fail;refine ha.mono ?_;rintro e w1 ⟨v,rfl,rfl,rfl⟩;clear ha;go_wp2;go_ret;exact ⟨_,rfl,rfl,rfl⟩):H:=h
end Go
namespace Go.Proofs.Y
open Go Go.Sl Go.aG Go.MapKept Go.RowKit
section
variable {w0 w:World}{F:List aO}{m fb nb b:Nat}{M:aG}{bs:List Nat}{wv:Value}{s:ByteArray}{l:iI}
theorem UC (h:au w0 w (jJ .string b (iU bs l)::F)):(l.map (·.1)).Nodup:=by
 have:=h.OG;simp only [iU,ajr]at this;rw [List.nodup_iff_pairwise_ne,akC]at this ⊢;refine this.imp λ{x y} hxy e=>hxy ?_;simp [e]
def BA (bs:List Nat) (l:iI) (s:ByteArray):Value:=match dN l s with|some i=>aW (bs.getD i 0)|none=> .pointer none
theorem Ol (h:au w0 w (jJ .string b (iU bs l)::F)):(Instr.lookup 128 (.map (some b)) (.string s) false).run prog w=.ok (BA bs l s) w:=by
 have hn:=UC h;rcases ag7 underlying128 underlying9 (an2 w) (key:= .string s) trivial h with ⟨v,c,d,_⟩|⟨c,d,_⟩
 ·rw [d];have⟨p,f,e⟩:=abI.1 c;simp only [Prod.mk.injEq,Value.string.injEq]at e;have⟨a,i⟩:=p;simp only at e;rw [<-e.1,<-e.2,BA,G8 hn f]
 ·rw [d,BA];cases hg:dN l s with
  |none=>rfl
  |some i=>exact absurd rfl (c (.string s,aW (bs.getD i 0)) (abI.2 ⟨(s,i),lZ hg,rfl⟩))
abbrev adL (m:Nat) (M:aG) (fb nb:Nat) (wv:Value) (bs:List Nat) (F:List aO):List aO:=uw m M fb nb wv::jJ .string nb (iU bs M.aN)::F
theorem ED (h:au w0 w (uw m M fb nb wv::F)) (ho:M.off=true) :
  Calls prog 76 #[aW m,.string s] w (bf λv w'=>v=.tuple #[.pointer none,dS 12]/\w=w'):=by
 go_in
 go_wp2_with (go_at_call 58;refine (Ew h).mono ?_;rintro e w1 ⟨v,rfl,rfl,rfl⟩;rw [ho])
 go_ret2
 exact ⟨_,rfl,rfl,rfl⟩
theorem EC (h:au w0 w (adL m M fb nb wv bs F)) (ho:M.off=false) (hn:dN M.aN s=none) :
  Calls prog 76 #[aW m,.string s] w (bf λv w'=>v=.tuple #[.pointer none,dS 9]/\w=w'):=by
 have c2:=h.dD 2 _ rfl;have hl:=Ol (s:=s) h.bZ;rw [BA,hn]at hl;have hd:=Ew h;rw [ho]at hd
 go_in
 go_wp2_with (go_at_call 58;refine hd.mono ?_;rintro e w1 ⟨v,rfl,rfl,rfl⟩)
 go_ret2
 exact ⟨_,rfl,rfl,rfl⟩
theorem EF {i:Nat} (h:au w0 w (adL m M fb nb wv bs F)) (ho:M.off=false) (hn:dN M.aN s=some i) :
  Calls prog 76 #[aW m,.string s] w (bf λv w'=>v=.tuple #[aW (bs.getD i 0),dS 0]/\w=w'):=by
 have c2:=h.dD 2 _ rfl;have hl:=Ol (s:=s) h.bZ;rw [BA,hn]at hl;have hd:=Ew h;rw [ho]at hd;clear hn ho;simp only at hl;generalize bs.getD i 0=fp at *
 go_in
 go_wp2_with (go_at_call 58;refine hd.mono ?_;rintro e w1 ⟨v,rfl,rfl,rfl⟩)
 go_ret2
 exact ⟨_,rfl,rfl,rfl⟩
end
section
variable {w0 w:World}{F:List aO}{m fb nb b:Nat}{M:aG}{bs:List Nat}{wv:Value}{s:ByteArray}{l:iI}
theorem Om {l l':iI} (h:l.Perm l'):(iU bs l).Perm (iU bs l'):=h.map _
theorem aas (hn:(l.map (·.1)).Nodup) (s:ByteArray):(iU bs l).Perm (iU bs (jY l s))/\(∀ p∈iU bs (jY l s),p.1 ≠ .string s)\/∃ v0,(iU bs l).Perm ((.string s,v0)::iU bs (jY l s)):=by
 cases hg:dN l s with
 |none=>
  left;rw [EX hg];refine ⟨ao9 _,λp hp=>?_⟩;obtain ⟨q,hq,rfl⟩:=abI.1 hp;simpa using Oy hg q hq
 |some i=>exact .inr ⟨aW (bs.getD i 0),Om (UJ hn (lZ hg))⟩
def vP (bs:List Nat) (x:lY):Value:=if x.to=ByteArray.empty then .pointer none else aW (bs.getD x.f 0)
theorem RN {s:ByteArray} (h:s≠ByteArray.empty):s.toList.isEmpty=false:=by
 cases hs:s.toList with
 |cons _ _=>rfl
 |nil=>
  exfalso;apply h;have:s.data.toList=[]:=by rw [<-Lib.toList_data];exact hs
  obtain ⟨⟨d⟩⟩:=s;simp at this;subst this;rfl
theorem RP {s:ByteArray} (h:s=ByteArray.empty):s.toList=[]:=by subst h;rw [Lib.toList_data];rfl
theorem ap4 (fr to:ByteArray) (q:Value) (h:au w0 w (jJ .string b (iU bs l)::F)) (x A:List (Value×Value))
  (z:fr=ByteArray.empty/\x=iU bs l\/fr≠ByteArray.empty/\((iU bs l).Perm x/\(∀ p∈x,p.1 ≠ .string fr)\/∃ B,(iU bs l).Perm ((.string fr,B)::x)))
  (v:to=ByteArray.empty/\A=x\/to≠ByteArray.empty/\∃ y,(x.Perm y/\(∀ p∈y,p.1 ≠ .string to)\/∃ B,x.Perm ((.string to,B)::y))/\A=(.string to,q)::y) :
  Calls prog 61 #[.agg #[.string fr,.string to,q],.map (some b)] w (bf λ_ w'=>au w0 w' (jJ .string b A::F)):=by
 have e:=(h.alloc (.cells #[.string fr,.string to,q] 135)).bZ;go_enter func61,ntmps61;rcases z with ⟨hf,z⟩|⟨hf,z⟩
 ·have o:=RP hf;clear hf;subst z;rcases v with ⟨c,v⟩|⟨c,y,d,v⟩
  ·have f:=RP c;clear c;subst v;go_wp2
   go_end0
   exact ⟨_,rfl,e.bZ.drop⟩
  ·have f:=RN c;clear c;have g:=uQ v;clear v;have i:=uQ d;clear d;go_wp2_with (at_mapUpdate;go_must (refine XZ (key:= .string to) aA _ _ _ aA underlying128 underlying9 aA aA aA trivial e y i.o ?_);intro m a)
   go_end0
   rw [g.o];exact ⟨_,rfl,a.bZ.drop⟩
 ·have o:=RN hf;clear hf;have n:=uQ z;clear z;rcases v with ⟨c,v⟩|⟨c,y,d,v⟩
  ·have f:=RP c;clear c;subst v;go_wp2_with (at_delete;go_must (refine aiw (key:= .string fr) aA _ _ aA underlying128 underlying9 aA aA trivial e A n.o ?_);intro m a;have r:=a.bZ.dD 0 _ rfl;have s:=a.bZ.dD 1 _ rfl)
   go_end0
   exact ⟨_,rfl,a.bZ.drop⟩
  ·have f:=RN c;clear c;have g:=uQ v;clear v;have i:=uQ d;clear d
   go_wp2_with (first
    |(at_delete;go_must (refine aiw (key:= .string fr) aA _ _ aA underlying128 underlying9 aA aA trivial e x n.o ?_);intro m a;have r:=a.bZ.dD 0 _ rfl;have s:=a.bZ.dD 1 _ rfl;have t:=a.bZ.dD 2 _ rfl)
    |(at_mapUpdate;go_must (refine XZ (key:= .string to) aA _ _ _ aA underlying128 underlying9 aA aA aA trivial a y i.o ?_);intro u j))
   go_end0
   rw [g.o];exact ⟨_,rfl,j.bZ.drop⟩
theorem ap0 (x:lY) (h:au w0 w (jJ .string b (iU bs l)::F)) :
  Calls prog 61 #[.agg #[.string x.fr,.string x.to,vP bs x],.map (some b)] w (bf λ_ w'=>au w0 w' (jJ .string b (iU bs (x.on l))::F)):=by
 have hn:=UC h;obtain ⟨fr,to,f⟩:=x;have key:∀ l1:iI,l1=(if fr=ByteArray.empty then l else jY l fr)->(l1.map (·.1)).Nodup:=by
  rintro l1 rfl;split
  ·exact hn
  ·exact hn.sublist ((auR).map _)
 have:=ap4 fr to (vP bs ⟨fr,to,f⟩) h (iU bs (if fr=ByteArray.empty then l else jY l fr))
  (if to=ByteArray.empty then iU bs (if fr=ByteArray.empty then l else jY l fr) else (.string to,aW (bs.getD f 0))::iU bs (jY (if fr=ByteArray.empty then l else jY l fr) to)) ?_ ?_
 ·refine this.mono ?_;rintro e w1 ⟨v,rfl,hS⟩;refine ⟨v,rfl,?_⟩;unfold lY.on;simp only;split
  ·rename_i ht;rw [abL ht]at hS;exact hS
  ·rename_i ht;rw [abB ht]at hS;exact hS.OI (Om (BG _ _ _)).symm
 ·by_cases hf:fr=ByteArray.empty
  ·exact .inl ⟨hf,by rw [abL hf]⟩
  ·exact .inr ⟨hf,by rw [abB hf];exact aas hn fr⟩
 ·by_cases ht:to=ByteArray.empty
  ·exact .inl ⟨ht,by rw [abL ht]⟩
  ·refine .inr ⟨ht,_,aas (key _ rfl) to,?_⟩;rw [abB ht];simp [vP,ht]
end
attribute [local go_sem ↓] Go.wp_at_zero Go.wp_at_succ
section
variable {w0 w:World}{F:List aO}{m fb nb b:Nat}{M:aG}{bs:List Nat}{wv:Value}{s:ByteArray}{l:iI}
theorem an4:(prog.info? 135).map (λi=>(i.zero,i.size,i.bytes))=some (some (.agg #[.string ByteArray.empty,.string ByteArray.empty,.pointer none]),3,40):=by kernel_rfl
theorem adi (x:lY) (h:au w0 w (uw m M fb nb wv::jJ .string nb (iU bs M.aN)::aK 135 3 wv (M.waits.flatMap (uN bs))::F)) (hw:M.waits.length<=1099511627776) :
  Calls prog 83 #[aW m,.agg #[.string x.fr,.string x.to,vP bs x]] w
   (bf λ_ w'=>∃ wv',au w0 w' (uw m (M.kL x) fb nb wv'::jJ .string nb (iU bs (M.kL x).aN)::aK 135 3 wv' ((M.kL x).waits.flatMap (uN bs))::F)):=by
 obtain ⟨i,hi,s,t,y⟩:=info_parts an4;have l:=(h.alloc (.cells #[.string x.fr,.string x.to,vP bs x] 135));have z:=ap0 x l.jS.drew;have Q:=l.bZ.dD 2 _ rfl;have j:=l.dD 0 _ rfl;have b1:=l.dD 1 _ rfl;have b2:=l.dD 2 _ rfl;have A:∀ u∈(#[.string x.fr,.string x.to,vP bs x]:Array Value).toList,u.oneCell'=true:=by
  intro u I;simp only [ab9,ajW,av2]at I;rcases I with rfl|rfl|rfl
  ·rfl
  ·rfl
  ·unfold vP;split <;> rfl
 have f:(M.waits.flatMap (uN bs)).length=M.waits.length*3:=by
  rw [List.length_flatMap];simp [uN,List.map_const']
 have B:(M.waits.flatMap (uN bs)).length+3<=maxLen:=by unfold maxLen;omega
 have C:((M.waits.flatMap (uN bs)).length+3)*i.bytes<=140737488355328:=by rw [y];omega
 have n:uN bs x=(#[.string x.fr,.string x.to,vP bs x]:Array Value).toList:=rfl;have g:∀ wv',uw m (M.kL x) fb nb wv'=pt m (.cells #[.int .i64 M.room,.map (some fb),.map (some nb),wv',.bool M.vI,.int .i64 M.left,.bool M.off] 131 (0,0)):=λ_=>rfl;have D:=uQ n;clear n;have J:=uQ f;clear f;have o:=uQ g;clear g;generalize vP bs x=q at *
 go_enter func83,ntmps83;go_wp2_with fail;refine gK [5] (λw'=>w'.cell? ⟨m,2,none⟩=some (.map (some nb))/\w'.cell? ⟨w.heap.size,0,none⟩=some (.string x.fr)/\w'.cell? ⟨w.heap.size,1,none⟩=some (.string x.to)/\w'.cell? ⟨w.heap.size,2,none⟩=some q) aC ?_;have L:=And.intro Q (And.intro j (And.intro b1 b2));refine uY (i:=0) (v:=?_) rfl aC (λ_ _ _ h=>h) (Or.inl ⟨by rfl,?_⟩) aQ ?_;rotate_left;focus ((intro b E;go_split_ands;go_simp);first|done|(with_reducible rfl))
 refine jh (i:=1) (v:=?_) rfl aC (λ_ _ _ h=>h) (Or.inl ⟨by rfl,?_⟩) ?_;rotate_left;focus ((intro b;go_simp);first|done|(with_reducible rfl))
 refine jh (i:=2) (v:=?_) rfl aC (λ_ _ _ h=>h) (Or.inl ⟨by rfl,?_⟩) ?_;rotate_left;focus ((intro b;go_simp);first|done|(with_reducible rfl))
 refine jh (i:=3) (v:=?_) rfl aC (λ_ _ _ h=>h) (Or.inl ⟨by rfl,?_⟩) ?_;rotate_left;focus ((intro b;go_simp);first|done|(with_reducible rfl))
 refine uY (i:=4) (v:=?_) rfl aC (λ_ _ _ h=>h) (Or.inl ⟨by rfl,?_⟩) aQ ?_;rotate_left;focus ((intro b E;go_split_ands;go_simp);first|done|(with_reducible rfl))
 refine wY (i:=5) rfl aC (λK c=>?_);go_simp;refine z.mono ?_;rintro e S ⟨v,rfl,d⟩;refine c _ _ (.inl rfl) ?_;clear c K L;refine fK aC ?_;have a:=d.jS;have G:=a.dD 3 _ rfl;have j:=d.bZ.dD 0 _ rfl;have b1:=d.bZ.dD 1 _ rfl;have b2:=d.bZ.dD 2 _ rfl;clear a;go_wp2_with fail;refine gK [7,8,9,10] (λw'=>w'.cell? ⟨m,3,none⟩=some wv/\w'.cell? ⟨w.heap.size,0,none⟩=some (.string x.fr)/\w'.cell? ⟨w.heap.size,1,none⟩=some (.string x.to)/\w'.cell? ⟨w.heap.size,2,none⟩=some q) aC ?_;have L:=And.intro G (And.intro j (And.intro b1 b2));refine jh (i:=0) (v:=?_) rfl aC (λ_ _ _ h=>h) (Or.inl ⟨by rfl,?_⟩) ?_;rotate_left;focus ((intro b;go_simp);first|done|(with_reducible rfl))
 refine jh (i:=1) (v:=?_) rfl aC (λ_ _ _ h=>h) (Or.inl ⟨by rfl,?_⟩) ?_;rotate_left;focus ((intro b;go_simp);first|done|(with_reducible rfl))
 refine jh (i:=2) (v:=?_) rfl aC (λ_ _ _ h=>h) (Or.inl ⟨by rfl,?_⟩) ?_;rotate_left;focus ((intro b;go_simp);first|done|(with_reducible rfl))
 refine jh (i:=3) (v:=?_) rfl aC (λ_ _ _ h=>h) (Or.inl ⟨by rfl,?_⟩) ?_;rotate_left;focus ((intro b;go_simp);first|done|(with_reducible rfl))
 refine uY (i:=4) (v:=?_) rfl aC (λ_ _ _ h=>h) (Or.inl ⟨by rfl,?_⟩) aQ ?_;rotate_left;focus ((intro b E;go_split_ands;go_simp);first|done|(with_reducible rfl))
 refine uY (i:=5) (v:=?_) rfl aC (λ_ _ _ h=>h) (Or.inl ⟨by rfl,?_⟩) aQ ?_;rotate_left;focus ((intro b E;go_split_ands;go_simp);first|done|(with_reducible rfl))
 refine wY (i:=6) rfl aC (λK c=>?_);go_simp;have r:=d.drew.alloc (.cells #[.string x.fr,.string x.to,q] 135);have G:=r.mD.dD 3 _ rfl;have j:=r.jS.dD 0 _ rfl;have b1:=r.jS.dD 1 _ rfl;have b2:=r.jS.dD 2 _ rfl;refine c _ _ (.inr <| .inl <| And.intro G (And.intro j (And.intro b1 b2))) ?_;clear c K;refine wY (i:=7) rfl aC (λK c=>?_);refine WY (w0:=w0) aA _ _ _ aA _ i _ underlying129 hi s t aA oQ aA aA A (r.yU) (Dx _ _ _ 3 1 1 aA) B C ?_;intro T U a H;obtain ⟨N,O,P,rfl⟩:=H yD0;have V:=a.yU.dD 3 _ rfl;have W:=a.yU.uJ 3;have j:=a.mD.dD 0 _ rfl;have b1:=a.mD.dD 1 _ rfl;have b2:=a.mD.dD 2 _ rfl;refine c _ _ (.inl rfl) ?_;clear c K;refine jh (i:=8) (v:=?_) rfl aC (λ_ _ _ h=>h) (Or.inl ⟨by rfl,?_⟩) ?_;rotate_left;focus ((intro b;go_simp);first|done|(with_reducible rfl))
 refine jh (i:=9) (v:=?_) rfl aC (λ_ _ _ h=>h) (Or.inl ⟨by rfl,?_⟩) ?_;rotate_left;focus ((intro b;go_simp);first|done|(with_reducible rfl))
 refine wY (i:=10) rfl aC (λK c=>?_);go_simp;refine c _ _ (.inl rfl) ?_;clear c K;refine fK aC ?_;go_wp2
 go_end0
 refine ⟨_,rfl,.slice (some ⟨N,0,none⟩) O P,?_⟩;have R:=a.yU.set 3 (.slice (some ⟨N,0,none⟩) O P);rw [o.o];unfold aG.kL;simp only [ai5,aiN,am6,ahB];rw [D.o];exact R.gZ 5 [0,3,1] rfl rfl
end
section
variable {w0 w:World}{F:List aO}{m fb nb b:Nat}{M:aG}{bs:List Nat}{wv v:Value}{s:ByteArray}{l:Bs}
theorem bP (l:Bs):(aI l).length=l.length:=by simp [aI]
theorem Bo (l:Bs):∀ u∈aI l,u.oneCell'=true:=by
 intro u hu;obtain ⟨b,_,rfl⟩:=abI.1 hu
 rfl
theorem Et (l k:Bs):aI (l++k)=aI l++aI k:=by simp [aI]
theorem ak3 (l:Bs) (n:Nat):aI (l.take n)=(aI l).take n:=by simp [aI,avZ]
theorem yL (h:au w0 w F) (E:bK 1 v (aI l) w) (G:l.length<=140737488355328) :
  Calls prog 74 #[v] w (bf λD w'=>au w0 w' (cZ D l::F)/\∃ a n c,D=.slice a n c):=by
 obtain ⟨a,n,c,rfl,hn,s⟩:=E;rw [bP,aiR]at hn;subst hn;cases a with
 |none=>
  have:l=[]:=by
   cases l with
   |nil=>rfl
   |cons x l=>obtain ⟨b,d,_⟩:=s 0 _ rfl;cases d
  subst this;refine (Tryz.bytes_Clone_nil 0 c w).mono ?_;rintro e u ⟨rfl,rfl⟩;exact ⟨_,rfl,au.iW.2 h,_,_,_,rfl⟩
 |some a=>
  refine (Tryz.bytes_Clone_at a l.length c (l.map λb=>(b.toNat:Int)) w yD0 G ?_).mono ?_
  ·intro i hi;obtain ⟨b,d,y⟩:=s i (.int .u8 (l[i]).toNat) (by simp [aI,hi]);cases d;rw [y];simp [hi]
  ·rintro e u ⟨D,rfl,z,f,d⟩;obtain ⟨t,A|⟨g,cap,B,rfl,j,hg,m,o,C,r⟩⟩:=z
   ·exact absurd A.1 f
   ·refine ⟨_,rfl,?_,_,_,_,rfl⟩;refine (h.dK d.os d.tape d.output d.size j hg d.block).pV ?_ m oQ o ?_
    ·rw [bP];omega
    ·rw [r];simp [aI]
def Sv (c:jQ) (bv:Value):Value:= .agg #[.bool c.cut,.int .i64 c.n,bv]
theorem alb (n:Nat) (bv:Value) (h:au w0 w (cZ v l::F)) (hn:n<=l.length) :
  Calls prog 130 #[.agg #[.bool true,.int .i64 n,bv],v] w (bf λv' w'=>au w0 w' (cZ v' (l.take n)::F)/\∃ a n c,v'=.slice a n c):=by
 have e:=(h.alloc (.cells #[.bool true,.int .i64 n,bv] 182));rcases e.bZ.nV with ⟨rfl,d,j⟩|⟨g,m,cap,t,rfl,d,u,x,o,f,r⟩
 ·have i:l=[]:=by simpa [aI] using d
  subst i;obtain rfl:n=0:=by simpa using hn
  go_in
  go_wp2;go_ret;exact ⟨_,rfl,au.iW.2 j.drop,_,_,_,rfl⟩
 ·rw [bP,aiR]at d;subst d;have b:au w0 (w.alloc (.cells #[.bool true,.int .i64 n,bv] 182)) (cZ (.slice (some ⟨g,0,none⟩) n n) (l.take n)::F):=by
   refine (r.bZ.drop).pV ?_ (abG _) oQ oQ ?_
   ·rw [bP,abA];omega
   ·rw [ak3,<-f];simp [awo,avG hn]
  go_in
  go_wp2;go_ret;exact ⟨_,rfl,b,_,_,_,rfl⟩
theorem Aa:∃ i:TypeInfo,prog.info? 5=some i/\i.zero=some (.int .u8 0)/\i.size=1/\i.bytes=1:=by
 obtain ⟨i,hi,a,b,c⟩:=info_parts info8;exact ⟨i,hi,a,b,c⟩
theorem ak9 (n:Int) (bv:Value) (cb:Bs) (h:au w0 w (cZ v l::F)) (hr:Ro w0 F (bK 1 bv (aI cb))) (hl:l.length+cb.length<=140737488355328) (hbv:∃ a n c,bv=.slice a n c) :
  Calls prog 130 #[.agg #[.bool false,.int .i64 n,bv],v] w (bf λv' w'=>au w0 w' (cZ v' (l++cb)::F)/\∃ a n c,v'=.slice a n c):=by
 obtain ⟨i,hi,j,m,o⟩:=Aa;have g:=(h.alloc (.cells #[.bool false,.int .i64 n,bv] 182));have B:=g.dD 0 _ rfl;have b2:=g.dD 2 _ rfl;have r:=yL g.drew g.drew.bZ.rd oQ;have s:(aI l).length+(aI cb).length<=maxLen:=by rw [bP,bP];unfold maxLen;omega
 have t:((aI l).length+(aI cb).length)*i.bytes<=140737488355328:=by rw [bP,bP,o];omega
 obtain ⟨y,z,bc,rfl⟩:=hbv;go_enter func130,ntmps130;go_wp2_with fail;refine gK [4,5] (λw'=>w'.cell? ⟨w.heap.size,2,none⟩=some (.slice y z bc)) aC ?_;refine jh (i:=0) (v:=?_) rfl aC (λ_ _ _ h=>h) (Or.inl ⟨by rfl,?_⟩) ?_;rotate_left;focus ((intro u;go_simp);first|done|(with_reducible rfl))
 refine jh (i:=2) (v:=?_) rfl aC (λ_ _ _ h=>h) (Or.inl ⟨by rfl,?_⟩) ?_;rotate_left;focus ((intro u;go_simp);first|done|(with_reducible rfl))
 refine uY (i:=3) (v:=?_) rfl aC (λ_ _ _ h=>h) (Or.inl ⟨by rfl,?_⟩) aQ ?_;rotate_left;focus ((intro u C;go_split_ands;go_simp);first|done|(with_reducible rfl))
 refine wY (i:=1) rfl aC (λK d=>?_);go_simp;refine r.mono ?_;rintro e D ⟨E,rfl,b,G,H,I,rfl⟩;have b2:=b.bZ.dD 2 _ rfl;refine d _ _ (.inr (.inl b2)) ?_;clear d K;refine wY (i:=4) rfl aC (λK d=>?_);refine WY (w0:=w0) aA _ _ _ aA _ i _ underlying59 hi j m aA oQ aA aA (Bo cb) b (hr _ b.drop.drop.drop) s t ?_;intro J L f _;refine d _ _ (.inl rfl) ?_;clear d K;refine jh (i:=5) (v:=?_) rfl aC (λ_ _ _ h=>h) (Or.inl ⟨by rfl,?_⟩) ?_;rotate_left;focus ((intro u;go_simp);first|done|(with_reducible rfl))
 refine fK aC ?_;go_wp2;go_ret;have A:=f.gZ 3 [0] rfl rfl;have x:=f.rd;obtain ⟨M,N,O,rfl,_⟩:=x;refine ⟨_,rfl,?_,_,_,_,rfl⟩;unfold cZ;rw [Et];exact A
end
section
variable {w0 w:World}{F:List aO}{m fb nb b:Nat}{M:aG}{bs:List Nat}{wv v bv:Value}{s:ByteArray}{l:Bs}{f:dw}
def ZQ (c:jQ) (l:Bs):Prop:=(c.cut=true->c.n<=l.length)/\(c.cut=false->l.length+c.b.length<=140737488355328)
theorem ala (c:jQ) (h:au w0 w (cZ v l::F)) (g:Ro w0 F (bK 1 bv (aI c.b))) (d:∃ a n c,bv=.slice a n c) (e:ZQ c l) :
  Calls prog 130 #[Sv c bv,v] w (bf λf w'=>au w0 w' (cZ f (c.on l)::F)/\∃ a n c,f=.slice a n c):=by
 obtain ⟨cut,n,i⟩:=c;cases cut
 ·exact ak9 n bv i h g (e.2 rfl) d
 ·exact alb n bv h (e.1 rfl)
theorem Gm (h:au w0 w (cZ v l::F)):∃ a n c,v=.slice a n c:=by
 obtain ⟨a,n,c,rfl,_⟩:=h.rd;exact ⟨a,n,c,rfl⟩
theorem Ro.cZ {R:List aO} (v:Value) (l:Bs):Ro w0 (cZ v l::R) (bK 1 v (aI l)):=λw hw=>hw.rd
theorem an1:(prog.info? 182).map (λi=>(i.zero,i.size,i.bytes))=some (some (.agg #[.bool false,.int .i64 0,.slice none 0 0]),3,40):=by kernel_rfl
theorem alc (ws:List (jQ×Value)) (p:jQ×Value):rW (ws++[p])=fP (rW ws) (cZ p.2 p.1.b):=by
 unfold rW;rw [acy,zG];simp [Iw]
theorem alU {fv nv:Value}{ws:List (jQ×Value)} (c:jQ) (h:au w0 w (D7 b f fv nv wv ws++cZ bv c.b::F)) (hws:ws.map (·.1)=f.waits) (hc:ZQ c f.aN) (hw:f.waits.length<=1099511627776) :
  Calls prog 90 #[aW b,Sv c bv] w (bf λ_ w'=>au w0 w' (lN b (f.do c)::F)):=by
 obtain ⟨i,hi,I,J,L⟩:=info_parts an1;obtain ⟨j,l,bc,rfl⟩:=Gm (h.gZ 6 [5] rfl rfl);have A:=h.alloc (.cells #[.bool c.cut,.int .i64 c.n,.slice j l bc] 182);have B:au w0 _ (cZ nv f.aN::cZ (.slice j l bc) c.b::pt w.heap.size _::Bv b fv nv wv::cZ fv f.jo::aK 182 3 wv (ws.flatMap qC)::rW ws::F):=A.gZ 7 [3,6,0,1,2,4,5] rfl rfl;have M:=ala c B.drew (Ro.cZ _ _) ⟨_,_,_,rfl⟩ hc;obtain ⟨Y,Z,nc,rfl⟩:=Gm B;have t:=A.dD 0 _ rfl;have b1:=A.dD 1 _ rfl;have b2:=A.dD 2 _ rfl;have c1:=A.bZ.dD 1 _ rfl;have N:∀ u∈(#[.bool c.cut,.int .i64 c.n,.slice j l bc]:Array Value).toList,u.oneCell'=true:=by
  intro u V;simp only [ab9,ajW,av2]at V;rcases V with rfl|rfl|rfl <;> rfl
 have r:ws.length=f.waits.length:=by rw [<-hws];simp
 have o:(ws.flatMap qC).length=f.waits.length*3:=by
  rw [List.length_flatMap,<-r];simp [qC,List.map_const']
 have O:(ws.flatMap qC).length+3<=maxLen:=by unfold maxLen;omega
 have P:((ws.flatMap qC).length+3)*i.bytes<=140737488355328:=by rw [L];omega
 have W:=uQ o;clear o;have Q:=uQ hws;clear hws;have aa:=uQ r;clear r;unfold Sv at *
 go_enter func90,ntmps90;go_wp2_with fail;refine gK [6,7,8,9] (λw'=>w'.cell? ⟨b,1,none⟩=some (.slice Y Z nc)/\w'.cell? ⟨w.heap.size,0,none⟩=some (.bool c.cut)/\w'.cell? ⟨w.heap.size,1,none⟩=some (.int .i64 c.n)/\w'.cell? ⟨w.heap.size,2,none⟩=some (.slice j l bc)) aC ?_;have X:=And.intro c1 (And.intro t (And.intro b1 b2));refine jh (i:=0) (v:=?_) rfl aC (λ_ _ _ h=>h) (Or.inl ⟨by rfl,?_⟩) ?_;rotate_left;focus ((intro a;go_simp);first|done|(with_reducible rfl))
 refine uY (i:=1) (v:=?_) rfl aC (λ_ _ _ h=>h) (Or.inl ⟨by rfl,?_⟩) aQ ?_;rotate_left;focus ((intro a R;go_split_ands;go_simp);first|done|(with_reducible rfl))
 refine jh (i:=2) (v:=?_) rfl aC (λ_ _ _ h=>h) (Or.inl ⟨by rfl,?_⟩) ?_;rotate_left;focus ((intro a;go_simp);first|done|(with_reducible rfl))
 refine jh (i:=3) (v:=?_) rfl aC (λ_ _ _ h=>h) (Or.inl ⟨by rfl,?_⟩) ?_;rotate_left;focus ((intro a;go_simp);first|done|(with_reducible rfl))
 refine jh (i:=4) (v:=?_) rfl aC (λ_ _ _ h=>h) (Or.inl ⟨by rfl,?_⟩) ?_;rotate_left;focus ((intro a;go_simp);first|done|(with_reducible rfl))
 refine uY (i:=5) (v:=?_) rfl aC (λ_ _ _ h=>h) (Or.inl ⟨by rfl,?_⟩) aQ ?_;rotate_left;focus ((intro a R;go_split_ands;go_simp);first|done|(with_reducible rfl))
 refine wY (i:=6) rfl aC (λK d=>?_);go_simp;refine M.mono ?_;rintro e w1 ⟨v1,rfl,s,x,y,z,rfl⟩;refine d _ _ (.inl rfl) ?_;clear d K;refine jh (i:=7) (v:=?_) rfl aC (λ_ _ _ h=>h) (Or.inl ⟨by rfl,?_⟩) ?_;rotate_left;focus ((intro a;go_simp);first|done|(with_reducible rfl))
 refine jh (i:=8) (v:=?_) rfl aC (λ_ _ _ h=>h) (Or.inl ⟨by rfl,?_⟩) ?_;rotate_left;focus ((intro a;go_simp);first|done|(with_reducible rfl))
 have d1:=s.mD.dD 1 _ rfl;have g1:=s.mD.uJ 1;refine wY (i:=9) rfl aC (λK d=>?_);go_simp;refine d _ _ (.inl rfl) ?_;clear d K X;refine fK aC ?_;have m:=s.mD.set 1 (.slice x y z);generalize w1.setCell _ _=w2 at *
 clear d1 g1;have S:=m.dD 2 _ rfl;have t:=m.mD.dD 0 _ rfl;have b1:=m.mD.dD 1 _ rfl;have b2:=m.mD.dD 2 _ rfl;go_wp2_with fail;refine gK [7,8,9,10] (λw'=>w'.cell? ⟨b,2,none⟩=some wv/\w'.cell? ⟨w.heap.size,0,none⟩=some (.bool c.cut)/\w'.cell? ⟨w.heap.size,1,none⟩=some (.int .i64 c.n)/\w'.cell? ⟨w.heap.size,2,none⟩=some (.slice j l bc)) aC ?_;have X:=And.intro S (And.intro t (And.intro b1 b2));refine jh (i:=0) (v:=?_) rfl aC (λ_ _ _ h=>h) (Or.inl ⟨by rfl,?_⟩) ?_;rotate_left;focus ((intro a;go_simp);first|done|(with_reducible rfl))
 refine jh (i:=1) (v:=?_) rfl aC (λ_ _ _ h=>h) (Or.inl ⟨by rfl,?_⟩) ?_;rotate_left;focus ((intro a;go_simp);first|done|(with_reducible rfl))
 refine jh (i:=2) (v:=?_) rfl aC (λ_ _ _ h=>h) (Or.inl ⟨by rfl,?_⟩) ?_;rotate_left;focus ((intro a;go_simp);first|done|(with_reducible rfl))
 refine jh (i:=3) (v:=?_) rfl aC (λ_ _ _ h=>h) (Or.inl ⟨by rfl,?_⟩) ?_;rotate_left;focus ((intro a;go_simp);first|done|(with_reducible rfl))
 refine uY (i:=4) (v:=?_) rfl aC (λ_ _ _ h=>h) (Or.inl ⟨by rfl,?_⟩) aQ ?_;rotate_left;focus ((intro a R;go_split_ands;go_simp);first|done|(with_reducible rfl))
 refine uY (i:=5) (v:=?_) rfl aC (λ_ _ _ h=>h) (Or.inl ⟨by rfl,?_⟩) aQ ?_;rotate_left;focus ((intro a R;go_split_ands;go_simp);first|done|(with_reducible rfl))
 refine wY (i:=6) rfl aC (λK d=>?_);go_simp;have C:=m.drew.alloc (.cells #[.bool c.cut,.int .i64 c.n,.slice j l bc] 182);have S:=C.bZ.dD 2 _ rfl;have t:=C.yU.dD 0 _ rfl;have b1:=C.yU.dD 1 _ rfl;have b2:=C.yU.dD 2 _ rfl;refine d _ _ (.inr <| .inl <| And.intro S (And.intro t (And.intro b1 b2))) ?_;clear d K;have h8:au w0 _ (aK 182 3 wv (ws.flatMap qC)::Bv b fv (.slice x y z) wv::cZ (.slice x y z) (c.on f.aN)::cZ (.slice j l bc) c.b::cZ fv f.jo::rW ws::pt w.heap.size _::F):=C.gZ 8 [6,1,2,3,5,7,4] rfl rfl;refine wY (i:=7) rfl aC (λK d=>?_);refine WY (w0:=w0) aA _ _ _ aA _ i _ underlying155 hi I J aA oQ aA aA N h8 (Dx _ _ _ 3 1 1 aA) O P ?_;intro v2 w3 g T;obtain ⟨E,G,H,rfl⟩:=T yD0;have e2:=g.bZ.dD 2 _ rfl;have g3:=g.bZ.uJ 2;have t:=(g.gZ 7 [6] rfl rfl).dD 0 _ rfl;have b1:=(g.gZ 7 [6] rfl rfl).dD 1 _ rfl;have b2:=(g.gZ 7 [6] rfl rfl).dD 2 _ rfl;refine d _ _ (.inl rfl) ?_
 clear d K;refine jh (i:=8) (v:=?_) rfl aC (λ_ _ _ h=>h) (Or.inl ⟨by rfl,?_⟩) ?_;rotate_left;focus ((intro a;go_simp);first|done|(with_reducible rfl))
 refine jh (i:=9) (v:=?_) rfl aC (λ_ _ _ h=>h) (Or.inl ⟨by rfl,?_⟩) ?_;rotate_left;focus ((intro a;go_simp);first|done|(with_reducible rfl))
 refine wY (i:=10) rfl aC (λK d=>?_);go_simp;refine d _ _ (.inl rfl) ?_;clear d K;refine fK aC ?_;go_wp2
 go_end0
 refine ⟨_,rfl,?_⟩;have h9:=g.bZ.set 2 (.slice (some ⟨E,0,none⟩) G H);refine lN.fA (fv:=fv) (nv:= .slice x y z) (wv:= .slice (some ⟨E,0,none⟩) G H) (ws:=ws++[(c,.slice j l bc)]) ?_ ?_
 ·rw [acy,Q.o];rfl
 ·have U:au w0 _ (cZ (.slice j l bc) c.b::rW ws::Bv b fv (.slice x y z) (.slice (some ⟨E,0,none⟩) G H)::cZ fv f.jo::cZ (.slice x y z) (c.on f.aN)::aK 182 3 (.slice (some ⟨E,0,none⟩) G H) (ws.flatMap qC++[.bool c.cut,.int .i64 c.n,.slice j l bc])::F):=h9.gZ 7 [3,5,0,4,2,1] rfl rfl;have D:=au.fP.2 U.bZ;rw [<-alc ws (c,.slice j l bc)]at D;unfold D7;rw [ai5];simp only [aiN,am6,ahB,qC];exact D.gZ 5 [1,2,3,4,0] rfl rfl
end
section
variable {w:World}{s:ByteArray}
theorem amY (c:UInt8):vM c=decide ((97<=(c.toNat:Int)/\(c.toNat:Int)<=122)\/(48<=(c.toNat:Int)/\(c.toNat:Int)<=57)\/(c.toNat:Int)=46\/(c.toNat:Int)=45):=by
 rw [atd];have e1:∀ k:UInt8,(c==k)=decide (c.toNat=k.toNat):=λk=>by
  rw [atd];simp [ak4]
 simp only [vM,Bool.or_eq_true,ajg,ad2,UInt8.le_iff_toNat_le,e1,UInt8.reduceToNat];omega
theorem akc (l:List UInt8) (k:Nat) (h:k<l.length):(l.take (k+1)).all vM=((l.take k).all vM && vM l[k]):=by
 rw [ajA h,ana];simp
theorem abx (s:ByteArray) (w:World) (hs:s.size<=9223372036854775807) :
  Calls prog 81 #[.string s] w (bf λv w'=>v=.bool (dW s)/\w=w'):=by
 go_enter func81,ntmps81;by_cases h1:(s.size:Int)<1
 ·exact afR
 by_cases h2:24<(s.size:Int)
 ·have h1':decide ((s.size:Int)<1)=false:=by simpa using h1
  exact afR
 have h1':decide ((s.size:Int)<1)=false:=by simpa using h1
 have h2':decide (24<(s.size:Int))=false:=by simpa using h2
 go_wp2
 go_loop [15] (λi=>∃ k:Nat,k<=s.size/\i=.int .i64 k/\(s.data.toList.take k).all vM=true) (λi=>s.size-(intOf i).toNat)
 case atStart=>exact ⟨0,acn _,rfl,by simp⟩
 case round=>
  obtain ⟨k,hk,rfl,hall⟩:=hrel;have Ym:=uQ hall;clear hall;by_cases hlt:k<s.size
  ·have Hc:=uQ (amY s[k]);have Hn:=uQ (akc s.data.toList k (by simpa using hlt));have hcls:(s[k].toNat:Int)<=44\/(s[k].toNat:Int)=45\/(s[k].toNat:Int)=46\/(s[k].toNat:Int)=47\/(48<=(s[k].toNat:Int)/\(s[k].toNat:Int)<=57)\/(58<=(s[k].toNat:Int)/\(s[k].toNat:Int)<=96)\/(97<=(s[k].toNat:Int)/\(s[k].toNat:Int)<=122)\/123<=(s[k].toNat:Int):=by omega
   have hbad:vM s[k]=false->dW s=false:=by
    intro hgc;unfold dW;have:s.data.toList.all vM=false:=by
     rw [List.all_eq_false];exact ⟨s[k],by exact List.getElem_mem (by simpa using hlt),by simpa using hgc⟩
    rw [this];simp
   have AP:=uQ hbad;clear hbad;have hgd:vM s[k]=true->(s.data.toList.take (k+1)).all vM=true:=by
    intro hgc;rw [Hn.o,Ym.o];exact hgc
   have QL:=uQ hgd;clear hgd;rcases hcls with g1|g1|g1|g1|⟨g1,g2⟩|⟨g1,g2⟩|⟨g1,g2⟩|g1
   ·exact Pq
   ·exact Py
   ·exact Py
   ·exact Pq
   ·exact Py
   ·have b57:decide ((s[k].toNat:Int)<=57)=false:=by simp;omega
    exact Pq
   ·exact Py
   ·have avM:decide ((s[k].toNat:Int)<=122)=false:=by simp;omega
    have b57:decide ((s[k].toNat:Int)<=57)=false:=by simp;omega
    exact Pq
  ·go_wp2;go_ret;refine ⟨.bool true,rfl,?_,rfl⟩;have:k=s.size:=by omega
   subst this;have:=Ym.o;rw [acE yD0]at this;rw [show dW s=true from by unfold dW;simp only [this];simp;omega]
end
end Go.Proofs.Y
