import Derived.WalkKit
import Derived.Maps.OwnSet
import Derived.Lib.Hide
import Derived.Maps.RangeWalk
import Derived.Maps.AppendAt
import Derived.Sort.Walk0
import Derived.Test.YtadhomdmbcldkaaGreatDoorChecked
import Derived.WalkLawsBesides
import Derived.WalkSpells
import Derived.OrdersHeld
import Derived.Deep.RegionHeld3
import Derived.Deep.DrawnRows
import Derived.Test.YtadhomdmbcldkaaGreatDoorShelf
import Derived.Deep.LoopGhost
set_option linter.unusedSimpArgs false
open Go.Proofs.Tryz
theorem Go.RowKit.Hid.o{p:Prop} (h:Go.RowKit.Hid p):p:=h
namespace Go.Proofs.YtadhomdmbcldkaaGreatDoor
end Go.Proofs.YtadhomdmbcldkaaGreatDoor
theorem yF0{p:Prop} (h:p:=by simp):p:=h
theorem yH0{p:Prop} (h:p:=by rw [Hc.o];simp;omega):p:=h
theorem yL0{p:Prop} (h:p:=by simpa using h):p:=h
theorem zH0{p:Prop} (h:p:=by simpa using hlt):p:=h
namespace Go
theorem aaJ:type_of% @List.getElem?_eq_getElem:=@List.getElem?_eq_getElem
theorem aa7:type_of% @List.length_append:=@List.length_append
theorem abl:type_of% @List.length_map:=@List.length_map
theorem abA:type_of% @List.size_toArray:=@List.size_toArray
theorem abL:type_of% @if_neg:=@if_neg
theorem ab1:type_of% @Nat.le_refl:=@Nat.le_refl
theorem acr:type_of% @List.mem_of_getElem?:=@List.mem_of_getElem?
theorem acO:type_of% @Go.IntWalk.i64_in:=@Go.IntWalk.i64_in
theorem acZ:type_of% @List.getElem?_eq_some_iff:=@List.getElem?_eq_some_iff
theorem adt:type_of% @List.length_take:=@List.length_take
theorem adu:type_of% @List.mem_map:=@List.mem_map
theorem adT:type_of% @Nat.le_trans:=@Nat.le_trans
theorem adU:type_of% @if_pos:=@if_pos
theorem adV:type_of% @List.getD_eq_getElem?_getD:=@List.getD_eq_getElem?_getD
theorem adW:type_of% @Go.Result.andThen_ok:=@Go.Result.andThen_ok
theorem adX:type_of% @List.length_drop:=@List.length_drop
theorem adZ:type_of% @List.take_of_length_le:=@List.take_of_length_le
theorem ad1:type_of% @List.getElem?_map:=@List.getElem?_map
theorem ad2:type_of% @List.append_assoc:=@List.append_assoc
theorem ad3:type_of% @beq_eq_false_iff_ne:=@beq_eq_false_iff_ne
theorem ad4:type_of% @Nat.zero_le:=@Nat.zero_le
theorem ad5:type_of% @decide_eq_true_eq:=@decide_eq_true_eq
theorem ad6:type_of% @Array.length_toList:=@Array.length_toList
theorem ad7:type_of% @List.toList_toArray:=@List.toList_toArray
theorem ad8:type_of% @Nat.succ_le_of_lt:=@Nat.succ_le_of_lt
theorem ad9:type_of% @List.mem_cons:=@List.mem_cons
theorem aea:type_of% @decide_eq_false:=@decide_eq_false
theorem aed:type_of% @Go.Sem.run_bind:=@Go.Sem.run_bind
theorem aef:type_of% @List.map_append:=@List.map_append
theorem aeh:type_of% @List.getElem?_toArray:=@List.getElem?_toArray
theorem aei:type_of% @List.append_nil:=@List.append_nil
theorem aek:type_of% @List.getElem?_append_left:=@List.getElem?_append_left
theorem aem:type_of% @decide_eq_true:=@decide_eq_true
theorem aen:type_of% @List.flatMap_cons:=@List.flatMap_cons
theorem aeo:type_of% @Nat.mul_one:=@Nat.mul_one
theorem aep:type_of% @Go.Sem.run_pure:=@Go.Sem.run_pure
theorem aes:type_of% @List.map_cons:=@List.map_cons
theorem aev:type_of% @List.length_cons:=@List.length_cons
theorem aew:type_of% @List.getElem?_append_right:=@List.getElem?_append_right
theorem aex:type_of% @List.mem_filter:=@List.mem_filter
theorem aeB:type_of% @List.flatMap_append:=@List.flatMap_append
theorem aeE:type_of% @Nat.zero_add:=@Nat.zero_add
theorem aeG:type_of% @List.mem_singleton:=@List.mem_singleton
theorem aeH:type_of% @List.take_length:=@List.take_length
theorem aeI:type_of% @List.drop_of_length_le:=@List.drop_of_length_le
theorem aeJ:type_of% @decide_eq_false_iff_not:=@decide_eq_false_iff_not
theorem aeN:type_of% @List.take_add_one:=@List.take_add_one
theorem aeO:type_of% @congrArg:=@congrArg
theorem aeQ:type_of% @List.mem_append:=@List.mem_append
theorem aeT:type_of% @List.take_append_of_le_length:=@List.take_append_of_le_length
theorem aeV:type_of% @List.nil_append:=@List.nil_append
theorem aeW:type_of% @Bool.and_eq_true:=@Bool.and_eq_true
theorem aeX:type_of% @List.take_append_drop:=@List.take_append_drop
theorem aeZ:type_of% @List.pairwise_cons:=@List.pairwise_cons
theorem ae0:type_of% @List.length_nil:=@List.length_nil
theorem ae2:type_of% @List.mem_of_mem_take:=@List.mem_of_mem_take
theorem ae3:type_of% @List.length_singleton:=@List.length_singleton
theorem ae5:type_of% @Go.wpList_plain:=@Go.wpList_plain
theorem ae9:type_of% @List.eq_nil_of_length_eq_zero:=@List.eq_nil_of_length_eq_zero
theorem afa:type_of% @List.length_replicate:=@List.length_replicate
theorem afB:type_of% @List.take_succ_eq_append_getElem:=@List.take_succ_eq_append_getElem
theorem afC:type_of% @List.take_zero:=@List.take_zero
theorem agf:type_of% @List.drop_eq_getElem_cons:=@List.drop_eq_getElem_cons
theorem agt:type_of% @List.all_eq_true:=@List.all_eq_true
theorem agu:type_of% @Go.run_underlying:=@Go.run_underlying
theorem ahu:type_of% @List.length_set:=@List.length_set
theorem ahB:type_of% @List.pairwise_map:=@List.pairwise_map
theorem ahC:type_of% @Array.getElem?_toList:=@Array.getElem?_toList
theorem ahS:type_of% @List.map_toArray:=@List.map_toArray
theorem ahU:type_of% @List.map_map:=@List.map_map
theorem ahV:type_of% @bne_iff_ne:=@bne_iff_ne
theorem ahW:type_of% @Option.toList_some:=@Option.toList_some
theorem ahX:type_of% @Go.IntWalk.wrap64_in:=@Go.IntWalk.wrap64_in
theorem ah3:type_of% @List.map_nil:=@List.map_nil
theorem ail:type_of% @Go.MapKept.run_getObj_map:=@Go.MapKept.run_getObj_map
theorem aip:type_of% @Bool.false_eq_true:=@Bool.false_eq_true
theorem aiq:type_of% @List.flatMap_nil:=@List.flatMap_nil
theorem aiI:type_of% @Nat.mul_le_mul_right:=@Nat.mul_le_mul_right
theorem aiJ:type_of% @Option.some.inj:=@Option.some.inj
theorem aiK:type_of% @List.length_filter_le:=@List.length_filter_le
theorem aiL:type_of% @Nat.le_succ:=@Nat.le_succ
theorem aiM:type_of% @Option.map_some:=@Option.map_some
theorem aiN:type_of% @Nat.lt_or_ge:=@Nat.lt_or_ge
theorem aiQ:type_of% @List.cons_append:=@List.cons_append
theorem aiR:type_of% @List.not_mem_nil:=@List.not_mem_nil
theorem aiS:type_of% @Nat.mul_comm:=@Nat.mul_comm
theorem aiT:type_of% @List.getElem?_eq_none:=@List.getElem?_eq_none
theorem ajk:type_of% @List.all_append:=@List.all_append
theorem ajq:type_of% @Nat.lt_of_le_of_lt:=@Nat.lt_of_le_of_lt
theorem ajr:type_of% @List.mem_or_eq_of_mem_set:=@List.mem_or_eq_of_mem_set
theorem ajC:type_of% @Array.getElem?_eq_getElem:=@Array.getElem?_eq_getElem
theorem aj6:type_of% @List.map_congr_left:=@List.map_congr_left
theorem akk:type_of% @Go.ByteArray.toList_eq:=@Go.ByteArray.toList_eq
theorem ako:type_of% @beq_iff_eq:=@beq_iff_eq
theorem akB:type_of% @Option.map_eq_some_iff:=@Option.map_eq_some_iff
theorem alj:type_of% @Go.IntKind.wrap_i64:=@Go.IntKind.wrap_i64
theorem alK:type_of% @Go.IntKind.wrap_u64:=@Go.IntKind.wrap_u64
theorem alM:type_of% @List.getElem?_take:=@List.getElem?_take
theorem aml:type_of% @Nat.add_zero:=@Nat.add_zero
theorem anr:type_of% @List.pairwise_append:=@List.pairwise_append
theorem anD:type_of% @Nat.mod_lt:=@Nat.mod_lt
theorem anP:type_of% @List.filter_append:=@List.filter_append
theorem anQ:type_of% @Array.getElem?_modify:=@Array.getElem?_modify
theorem anR:type_of% @Array.getElem?_eq_some_iff:=@Array.getElem?_eq_some_iff
theorem anS:type_of% @Go.RowKit.Hid.out:=@Go.RowKit.Hid.o
theorem anT:type_of% @List.drop_append_of_le_length:=@List.drop_append_of_le_length
theorem aob:type_of% @List.mem_append_left:=@List.mem_append_left
theorem aox:type_of% @List.getLast?_eq_none_iff:=@List.getLast?_eq_none_iff
theorem aoy:type_of% @List.getLast?_eq_getElem?:=@List.getLast?_eq_getElem?
theorem aoz:type_of% @List.getElem?_drop:=@List.getElem?_drop
theorem aoB:type_of% @UInt8.toNat_ofNat':=@UInt8.toNat_ofNat'
theorem aoC:type_of% @List.nodup_cons:=@List.nodup_cons
theorem aoF:type_of% @List.Perm.refl:=@List.Perm.refl
theorem aoG:type_of% @Nat.div_le_self:=@Nat.div_le_self
theorem aoH:type_of% @Nat.add_mul:=@Nat.add_mul
theorem aoI:type_of% @List.getElem_of_mem:=@List.getElem_of_mem
theorem aoJ:type_of% @List.perm_append_comm:=@List.perm_append_comm
theorem aoK:type_of% @of_decide_eq_true:=@of_decide_eq_true
theorem aoL:type_of% @List.getElem?_cons_succ:=@List.getElem?_cons_succ
theorem aoM:type_of% @List.length_take_le':=@List.length_take_le'
theorem aoN:type_of% @Go.MapKept.run_checkKey:=@Go.MapKept.run_checkKey
theorem aoR:type_of% @Array.toList_setIfInBounds:=@Array.toList_setIfInBounds
theorem aoS:type_of% @Nat.pow_le_pow_right:=@Nat.pow_le_pow_right
theorem aoT:type_of% @Bool.eq_iff_iff:=@Bool.eq_iff_iff
theorem aoW:type_of% @beq_false_of_ne:=@beq_false_of_ne
theorem ao1:type_of% @Option.map_none:=@Option.map_none
theorem ao2:type_of% @List.perm_middle:=@List.perm_middle
theorem ao3:type_of% @Nat.mod_eq_of_lt:=@Nat.mod_eq_of_lt
theorem ao4:type_of% @List.drop_length:=@List.drop_length
theorem ao5:type_of% @List.filter_cons:=@List.filter_cons
theorem ao6:type_of% @List.mem_flatMap:=@List.mem_flatMap
theorem ao7:type_of% @if_false:=@if_false
theorem ao8:type_of% @List.pairwise_iff_getElem:=@List.pairwise_iff_getElem
theorem ao9:type_of% @Go.MapKept.run_findKey:=@Go.MapKept.run_findKey
theorem apa:type_of% @List.mem_map_of_mem:=@List.mem_map_of_mem
theorem apc:type_of% @if_true:=@if_true
theorem apd:type_of% @List.foldl_append:=@List.foldl_append
theorem ape:type_of% @Int.le_refl:=@Int.le_refl
theorem apf:type_of% @List.sum_cons:=@List.sum_cons
theorem apg:type_of% @Nat.min_eq_left:=@Nat.min_eq_left
theorem aph:type_of% @Nat.sub_self:=@Nat.sub_self
theorem apj:type_of% @List.filter_nil:=@List.filter_nil
theorem apk:type_of% @List.countP_eq_length_filter:=@List.countP_eq_length_filter
theorem apl:type_of% @List.filter_cons_of_neg:=@List.filter_cons_of_neg
theorem apm:type_of% @List.filter_cons_of_pos:=@List.filter_cons_of_pos
theorem apn:type_of% @List.getElem_mem:=@List.getElem_mem
theorem apo:type_of% @Array.getD_eq_getD_getElem?:=@Array.getD_eq_getD_getElem?
theorem apq:type_of% @Nat.add_assoc:=@Nat.add_assoc
theorem apr:type_of% @Array.getElem?_eq_none:=@Array.getElem?_eq_none
theorem aps:type_of% @List.lt_irrefl:=@List.lt_irrefl
theorem apt:type_of% @Nat.pow_succ:=@Nat.pow_succ
theorem apu:type_of% @Nat.mul_le_mul:=@Nat.mul_le_mul
theorem apv:type_of% @List.getElem?_set_self:=@List.getElem?_set_self
theorem apw:type_of% @List.getLast?_map:=@List.getLast?_map
theorem apx:type_of% @List.filter_sublist:=@List.filter_sublist
theorem apy:type_of% @Array.toList_append:=@Array.toList_append
theorem apz:type_of% @List.getElem?_eq_none_iff:=@List.getElem?_eq_none_iff
theorem apA:type_of% @Go.run_build:=@Go.run_build
theorem apB:type_of% @Nat.le_add_right:=@Nat.le_add_right
theorem apC:type_of% @Array.size_setIfInBounds:=@Array.size_setIfInBounds
theorem apD:type_of% @List.drop_drop:=@List.drop_drop
theorem apE:type_of% @List.getElem?_set_ne:=@List.getElem?_set_ne
theorem apF:type_of% @List.mem_of_getLast?:=@List.mem_of_getLast?
theorem apG:type_of% @Nat.le_succ_of_le:=@Nat.le_succ_of_le
theorem apH:type_of% @Int.toNat_natCast:=@Int.toNat_natCast
theorem apI:type_of% @Nat.add_sub_cancel_left:=@Nat.add_sub_cancel_left
theorem apJ:type_of% @List.filter_eq_self:=@List.filter_eq_self
theorem apK:type_of% @List.drop_succ_cons:=@List.drop_succ_cons
theorem apL:type_of% @List.lt_trans:=@List.lt_trans
theorem apM:type_of% @List.drop_append:=@List.drop_append
theorem apO:type_of% @List.take_take:=@List.take_take
theorem apP:type_of% @List.drop_zero:=@List.drop_zero
theorem apT:type_of% @Int.natCast_mul:=@Int.natCast_mul
theorem apU:type_of% @List.find?_cons:=@List.find?_cons
theorem apV:type_of% @List.ext_getElem?:=@List.ext_getElem?
theorem apW:type_of% @or_false:=@or_false
theorem apX:type_of% @Nat.add_comm:=@Nat.add_comm
theorem apY:type_of% @List.map_take:=@List.map_take
end Go
namespace Go
open Go
theorem rQ {p : Prop} (h : p := by rfl) : p := h
theorem aQ {p : Prop} (h : p := by assumption) : p := h
theorem oQ {p : Prop} (h : p := by omega) : p := h
theorem qm {i : Nat} (h : -9223372036854775808 <= ((i : Int) + 1) /\ ((i : Int) + 1) <= 9223372036854775807 := by omega) : IntKind.i64.wrap ((i : Int) + 1) = (i : Int) + 1 := by rw [alj]; omega
theorem uQ {p : Prop} (h : p) : RowKit.Hid p := Lib.hid h
end Go
set_option linter.unusedVariables false
set_option maxHeartbeats 128000000
theorem au {p:Prop} (h:p:=by kernel_rfl):p:=h
theorem ah {p:Prop} (h:p:=by rfl):p:=h
theorem aG {p:Prop} (h:p:=by decide):p:=h
theorem bP {p:Prop} (h:p:=by intro _ _ _ h;exact h):p:=h
theorem bG {p:Prop} (h:p:=by exact Nat.le_of_ble_eq_true rQ):p:=h
namespace Go.Sl
open Go
abbrev Hp:Type:=Nat->Option Obj
def aF:Type:=Hp->Prop
def Hp.JG (a b:Hp):Prop:=∀ i,a i=none\/b i=none
def Hp.join (a b:Hp):Hp:=λi=>(a i).or (b i)
theorem aF.ext {A B:aF} (h:∀ x,A x↔B x):A=B:=funext λx=>propext (h x)
def emp:aF:=λh=>h=λ_=>none
def star (A B:aF):aF:=λh=>∃ a b,Hp.JG a b/\h=Hp.join a b/\A a/\B b
def pt (b:Nat) (o:Obj):aF:=λh=>h=λi=>if i=b then some o else none
def ex {α:Type} (A:α->aF):aF:=λh=>∃ x,A x h
theorem Hp.agC {a b:Hp} (h:a.JG b):b.JG a:=λi=>(h i).symm
theorem Hp.join_comm {a b:Hp} (h:a.JG b):a.join b=b.join a:=by
 funext i
 rcases h i with h|h <;> simp [Hp.join,h]
theorem Hp.join_assoc (a b c:Hp):(a.join b).join c=a.join (b.join c):=by
 funext i;simp [Hp.join,Option.or_assoc]
theorem EJ (A B:aF):star A B=star B A:=by
 apply aF.ext;intro h;constructor <;> (rintro ⟨a,b,d,rfl,ha,hb⟩;exact ⟨b,a,Hp.agC d,Hp.join_comm d,hb,ha⟩)
theorem Me (A B C:aF):star (star A B) C=star A (star B C):=by
 apply aF.ext;intro h;constructor
 ·rintro ⟨ab,c,d,rfl,⟨a,b,d',rfl,ha,hb⟩,hc⟩;refine ⟨a,b.join c,?_,Hp.join_assoc _ _ _,ha,⟨b,c,?_,rfl,hb,hc⟩⟩
  ·intro i;have h1:=d i;have h2:=d' i;simp only [Hp.join,Option.or_eq_none_iff]at *
   cases h:a i <;> simp_all
  ·intro i;have h1:=d i;simp only [Hp.join,Option.or_eq_none_iff]at *
   exact h1.imp (·.2) id
 ·rintro ⟨a,bc,d,rfl,ha,⟨b,c,d',rfl,hb,hc⟩⟩;refine ⟨a.join b,c,?_,(Hp.join_assoc _ _ _).symm,⟨a,b,?_,rfl,ha,hb⟩,hc⟩
  ·intro i;have h1:=d i;have h2:=d' i;simp only [Hp.join,Option.or_eq_none_iff]at *
   cases h:c i <;> simp_all
  ·intro i;have h1:=d i;simp only [Hp.join,Option.or_eq_none_iff]at *
   exact h1.imp id (·.1)
theorem xg (A B C:aF):star A (star B C)=star B (star A C):=by
 rw [<-Me,EJ A B,Me]
theorem PE (A:aF):star emp A=A:=by
 apply aF.ext;intro h;constructor
 ·rintro ⟨a,b,_,rfl,ha,hb⟩;have:Hp.join a b=b:=by funext i;rw [show a=_ from ha];simp [Hp.join]
  rw [this];exact hb
 ·intro hh;exact ⟨λ_=>none,h,λ_=> .inl rfl,by funext i;simp [Hp.join],rfl,hh⟩
theorem amQ (A:aF):star A emp=A:=by rw [EJ,PE]
def stars:List aF->aF
 |[]=>emp
 |A::L=>star A (stars L)
theorem rZ (A:aF) (L:List aF):stars (A::L)=star A (stars L):=rfl
theorem qx:∀ L M:List aF,stars (L++M)=star (stars L) (stars M)
 |[],M=>(PE _).symm
 |A::L,M=>by rw [aiQ,rZ,qx L M,rZ,Me]
theorem amR {L M:List aF} (h:L.Perm M):stars L=stars M:=by
 induction h with
 |nil=>rfl
 |cons x _ ih=>rw [rZ,rZ,ih]
 |swap x y l=>rw [rZ,rZ,rZ,rZ,xg]
 |trans _ _ ih1 ih2=>exact ih1.trans ih2
theorem EK (A:aF):stars [A]=A:=amQ A
def aJ (A B:aF):Prop:=∀ h,A h->B h
theorem aJ.refl (A:aF):aJ A A:=λ_ h=>h
theorem aJ.star {A B C D:aF} (h:aJ A C) (k:aJ B D):aJ (star A B) (star C D):=
 λ_ ⟨a,b,d,e,ha,hb⟩=>⟨a,b,d,e,h a ha,k b hb⟩
theorem aJ.of_eq {A B:aF} (h:A=B):aJ A B:=h ▸ aJ.refl _
theorem aJ.left {A B C:aF} (h:aJ A B):aJ (Sl.star A C) (Sl.star B C):=h.star (aJ.refl _)
theorem XZ {α:Type} (A:α->aF) (B:aF):star (ex A) B=ex λx=>star (A x) B:=by
 apply aF.ext;intro h;constructor
 ·rintro ⟨a,b,d,e,⟨x,ha⟩,hb⟩;exact ⟨x,a,b,d,e,ha,hb⟩
 ·rintro ⟨x,a,b,d,e,ha,hb⟩;exact ⟨a,b,d,e,⟨x,ha⟩,hb⟩
structure Anch (w0 w:World):Prop where
 os:w.os=w0.os
 tape:w.tape=w0.tape
 output:w.output=w0.output
 size:w0.heap.size<=w.heap.size
theorem Anch.refl (w:World):Anch w w:=⟨rfl,rfl,rfl,ab1 _⟩
def Sat (w0 w:World) (L:List aF):Prop:=Anch w0 w/\∃ h:Hp,(∀ i o,h i=some o->w.heap[i]?=some o)/\stars L h
section
variable {w0 w:World}{A B C D E G:aF}{L M F R:List aF}
theorem Sat.mono (h:Sat w0 w L) (k:aJ (stars L) (stars M)):Sat w0 w M:=⟨h.1,h.2.imp λx hx=>⟨hx.1,k x hx.2⟩⟩
theorem Sat.perm (h:Sat w0 w L) (k:L.Perm M):Sat w0 w M:=h.mono (aJ.of_eq (amR k))
theorem Sat.head (h:Sat w0 w (A::R)) (k:aJ A B):Sat w0 w (B::R):=h.mono k.left
theorem Sat.join (h:Sat w0 w (M++R)) (k:aJ (stars M) A):Sat w0 w (A::R):=
 h.mono (λx hx=>by rw [qx]at hx;exact k.left x hx)
theorem Sat.drop (h:Sat w0 w (A::R)):Sat w0 w R:=by
 obtain ⟨ha,x,hx,a,b,d,rfl,pa,pb⟩:=h;refine ⟨ha,b,λi o hi=>hx i o ?_,pb⟩;simp only [Hp.join];rcases d i with h1|h1
 ·simp [h1,hi]
 ·simp [h1]at hi
theorem Sat.aT (h:Sat w0 w (A::B::R)):Sat w0 w (B::A::R):=h.perm (List.Perm.swap _ _ _)
theorem Sat.fE (h:Sat w0 w (A::B::C::R)):Sat w0 w (C::A::B::R):=
 h.perm (((List.Perm.swap C B R).cons A).trans (List.Perm.swap C A _))
theorem Sat.iw (h:Sat w0 w (A::B::C::D::R)):Sat w0 w (D::A::B::C::R):=
 h.perm ((((List.Perm.swap D C R).cons B).cons A).trans (((List.Perm.swap D B _).cons A).trans (List.Perm.swap D A _)))
theorem Sat.rW (h:Sat w0 w (A::B::C::D::E::R)):Sat w0 w (E::A::B::C::D::R):=
 (h.perm ((((List.Perm.swap E D R).cons C).cons B).cons A)).iw
theorem Sat.SG (h:Sat w0 w (B::A::R)):Sat w0 w (A::B::R):=h.aT
theorem Sat.ex {α:Type}{A:α->aF}:Sat w0 w (Sl.ex A::R)↔∃ x,Sat w0 w (A x::R):=by
 constructor
 ·rintro ⟨ha,x,hx,hA⟩;rw [rZ,XZ]at hA;obtain ⟨y,hA⟩:=hA;exact ⟨y,ha,x,hx,hA⟩
 ·rintro ⟨y,ha,x,hx,hA⟩;refine ⟨ha,x,hx,?_⟩;rw [rZ,XZ];exact ⟨y,hA⟩
theorem Sat.emp:Sat w0 w (Sl.emp::R)↔Sat w0 w R:=by
 unfold Sat;rw [rZ,PE]
theorem Sat.star:Sat w0 w (Sl.star A B::R)↔Sat w0 w (A::B::R):=by
 unfold Sat;rw [rZ,rZ,rZ,Me]
variable {b:Nat}{o:Obj}
theorem Sat.at (h:Sat w0 w (pt b o::R)):w.heap[b]?=some o:=by
 obtain ⟨_,x,hx,a,c,d,rfl,pa,_⟩:=h;refine hx b o ?_;rw [show a=_ from pa];simp [Hp.join]
theorem Sat.lt (h:Sat w0 w (pt b o::R)):b<w.heap.size:=by
 have:=h.at;rw [anR]at this;exact this.1
theorem Sat.ne {b':Nat}{o':Obj} (h:Sat w0 w (pt b o::pt b' o'::R)):b≠b':=by
 obtain ⟨_,x,hx,a,c,d,rfl,pa,a',c',d',rfl,pa',_⟩:=h;intro e;subst e;rcases d b with h1|h1
 ·rw [show a=_ from pa]at h1;simp at h1
 ·rw [show a'=_ from pa']at h1;simp [Hp.join]at h1
theorem Sat.turn {w':World}{o':Obj} (h:Sat w0 w (pt b o::R)) (ho:w'.os=w.os) (ht:w'.tape=w.tape) (hu:w'.output=w.output)
  (hz:w.heap.size<=w'.heap.size) (hb:w'.heap[b]?=some o') (hr:∀ i,i≠b->i<w.heap.size->w'.heap[i]?=w.heap[i]?):Sat w0 w' (pt b o'::R):=by
 obtain ⟨ha,x,hx,a,c,d,rfl,pa,pr⟩:=h;rw [show a=_ from pa]at hx d;refine ⟨⟨ho.trans ha.os,ht.trans ha.tape,hu.trans ha.output,adT ha.size hz⟩,Hp.join (λi=>if i=b then some o' else none) c,?_,_,c,?_,rfl,rfl,pr⟩
 ·intro i y hy;by_cases hi:i=b
  ·subst hi;simp [Hp.join]at hy;subst hy;exact hb
  ·simp [Hp.join,hi]at hy;have:=hx i y (by simp [Hp.join,hi,hy]);rw [hr i hi,this];rw [anR]at this;exact this.1
 ·intro i;have:=d i;by_cases hi:i=b <;> simp_all
theorem Sat.fresh {w':World} (h:Sat w0 w R) (ho:w'.os=w.os) (ht:w'.tape=w.tape) (hu:w'.output=w.output)
  (hz:w.heap.size<=w'.heap.size) (hbn:w.heap.size<=b) (hb:w'.heap[b]?=some o) (hr:∀ i,i<w.heap.size->w'.heap[i]?=w.heap[i]?):Sat w0 w' (pt b o::R):=by
 obtain ⟨ha,x,hx,pr⟩:=h;have hn:x b=none:=by
  cases hh:x b with
  |none=>rfl
  |some y=>
   have:=hx _ _ hh;rw [anR]at this;have:=this.1;omega
 refine ⟨⟨ho.trans ha.os,ht.trans ha.tape,hu.trans ha.output,adT ha.size hz⟩,Hp.join (λi=>if i=b then some o else none) x,?_,_,x,?_,rfl,rfl,pr⟩
 ·intro i y hy;by_cases hi:i=b
  ·subst hi;simp [Hp.join]at hy;subst hy;exact hb
  ·simp [Hp.join,hi]at hy;have:=hx i y hy;rw [hr i,this];rw [anR]at this;exact this.1
 ·intro i;by_cases hi:i=b <;> simp_all
theorem Sat.alloc (h:Sat w0 w R) (o:Obj):Sat w0 (w.alloc o) (pt w.heap.size o::R):=
 h.fresh rfl rfl rfl yF0 (ab1 _) (heap_alloc_new w o) (λi hi=>RowKit.Below.heap_alloc w o i hi)
theorem Sat.drew (h:Sat w0 w R):Sat w0 w.drew R:=⟨⟨h.1.os,h.1.tape,h.1.output,h.1.size⟩,h.2⟩
theorem Sat.cellAt {cs:Array Value}{T:TypeId} (h:Sat w0 w (pt b (.cells cs T (0,0))::R)) (i:Nat) (v:Value) (hv:cs[i]?=some v):w.cell? ⟨b,i,none⟩=some v:=by
 have:=h.at;simp [World.cell?,this,hv]
theorem Sat.oC {cs:Array Value}{T:TypeId} (h:Sat w0 w (pt b (.cells cs T (0,0))::R)) (i:Nat):w.frozen? ⟨b,i,none⟩=false:=by
 have:=h.at;simp [World.frozen?,this]
theorem Sat.set {cs:Array Value}{T:TypeId} (h:Sat w0 w (pt b (.cells cs T (0,0))::R)) (i:Nat) (v:Value):Sat w0 (w.setCell ⟨b,i,none⟩ v) (pt b (.cells (cs.setIfInBounds i v) T (0,0))::R):=by
 have hb:=h.at;have hlt:=h.lt;refine h.turn rfl rfl rfl yF0 ?_ ?_
 ·simp only [World.setCell,anQ,apc,hb];simp
 ·intro j hj _;simp only [World.setCell,anQ];rw [abL (Ne.symm hj)]
theorem amD (L:List aF) (k:Nat) (idx:List Nat) (hk:(L.take k).length=k) (hi:(idx.all (λi=>decide (i<k)) && decide idx.Nodup)=true) :
  ∃ rest,L.Perm ((idx.map (λi=>L.getD i Sl.emp)++L.drop k)++rest):=by
 simp only [aeW,agt,ad5]at hi;obtain ⟨h1,h2⟩:=hi;have hrk:L.take k=(List.range k).map (λi=>L.getD i Sl.emp):=by
  apply apV;intro i;rw [alM,ad1];by_cases hik:i<k
  ·have:i<L.length:=by
    have:=aoM k L;rw [hk]at this;omega
   simp [hik,adV,this]
  ·simp [hik]
 have hp:(List.range k).Perm (idx++(List.range k).filter λi => !idx.contains i):=by
  rw [List.perm_ext_iff_of_nodup List.nodup_range]
  ·intro a;simp only [List.mem_range,aeQ,aex,Bool.not_eq_true',List.contains_eq_mem,aeJ];constructor
   ·intro h;by_cases ha:a∈idx
    ·exact .inl ha
    ·exact .inr ⟨h,ha⟩
   ·rintro (h|h)
    ·exact h1 a h
    ·exact h.1
  ·rw [List.nodup_append];refine ⟨h2,List.nodup_range.sublist apx,?_⟩;intro a ha b hb e;subst e;have:=(aex.1 hb).2;simp [ha]at this
 refine ⟨((List.range k).filter λi => !idx.contains i).map (λi=>L.getD i Sl.emp),?_⟩;have h3:L=L.take k++L.drop k:=(aeX k L).symm;rw [hrk]at h3;have h4:=(hp.map (λi=>L.getD i Sl.emp)).append_right (L.drop k);rw [aef]at h4;have h5:L.Perm _:=(List.Perm.of_eq h3).trans h4;refine h5.trans ?_;rw [ad2,ad2];exact List.Perm.append_left _ aoJ
theorem Sat.XD (h:Sat w0 w (L++M)):Sat w0 w L:=by
 obtain ⟨ha,x,hx,hs⟩:=h;rw [qx]at hs;obtain ⟨a,b,d,rfl,pa,pb⟩:=hs;refine ⟨ha,a,λi o hi=>hx i o ?_,pa⟩;simp [Hp.join,hi]
theorem Sat.sel (h:Sat w0 w L) (k:Nat) (idx:List Nat) (hk:(L.take k).length=k) (hi:(idx.all (λi=>decide (i<k)) && decide idx.Nodup)=true) :
  Sat w0 w (idx.map (λi=>L.getD i Sl.emp)++L.drop k):=by
 obtain ⟨rest,hp⟩:=amD L k idx hk hi;exact (h.perm hp).XD
def Ro (w0:World) (L:List aF) (p:World->Prop):Prop:=∀ w,Sat w0 w L->p w
theorem Ro.cons {p:World->Prop} (h:Ro w0 L p):Ro w0 (A::L) p:=λw hw=>h w hw.drop
def old (w0:World):aF:=λh=>h=λi=>w0.heap[i]?
theorem Sat.old (h:Sat w0 w (old w0::R)){i:Nat} (hi:i<w0.heap.size):w.heap[i]?=w0.heap[i]?:=by
 obtain ⟨_,x,hx,a,c,d,rfl,pa,_⟩:=h;have:w0.heap[i]?=some (w0.heap[i]):=by simp [hi]
 rw [this];refine hx i _ ?_;rw [show a=_ from pa];simp [Hp.join,hi]
theorem Sat.start (w0:World):Sat w0 w0 [Sl.old w0]:=by
 refine ⟨Anch.refl _,λi=>w0.heap[i]?,λi o h=>h,?_⟩;rw [EK];exact rfl
theorem Sat.below (h:Sat w0 w (Sl.old w0::R)):RowKit.Below w0.heap.size w0 w:=
 ⟨h.1.os,h.1.tape,h.1.output,h.1.size,λk hk=>h.old hk⟩
end
end Go.Sl
namespace Go.Sl
open Go Go.MapKept
def aN (Q:Value->World->Prop) (e:Ending) (w:World):Prop:=∃ v,e=.returned v/\Q v w
def aW (sz:Nat) (v:Value) (xs:List Value) (w:World):Prop:=
 ∃ a n cap,v=.slice a n cap/\xs.length=n*sz/\∀ i x,xs[i]?=some x->∃ b,a=some b/\w.cell? (b.add i)=some x
def aC (T sz:Nat) (v:Value) (xs:List Value):aF:=λh=>
 (v=.slice none 0 0/\xs=[]/\emp h) \/
 ∃ b n cap cs,v=.slice (some ⟨b,0,none⟩) n cap/\xs.length=n*sz/\n<=cap/\cap*sz<=cs.size/\cap<=maxLen/\cs.toList.take (n*sz)=xs/\pt b (.cells cs T (0,0)) h
section
variable {w0 w:World}{R L:List aF}{T sz:Nat}{v:Value}{xs:List Value}
theorem dO (T sz:Nat):aC T sz (.slice none 0 0) []=emp:=by
 apply aF.ext;intro h;constructor
 ·rintro (⟨_,_,h⟩|⟨b,n,cap,cs,he,_⟩)
  ·exact h
  ·cases he
 ·intro h;exact .inl ⟨rfl,rfl,h⟩
theorem Sat.dO:Sat w0 w (aC T sz (.slice none 0 0) []::R)↔Sat w0 w R:=by
 rw [Sl.dO];exact Sat.emp
theorem Sat.kU {b n cap:Nat}{cs:Array Value} (h:Sat w0 w (pt b (.cells cs T (0,0))::R)) (hl:xs.length=n*sz) (hn:n<=cap) (hc:cap*sz<=cs.size) (hm:cap<=maxLen)
  (ht:cs.toList.take (n*sz)=xs):Sat w0 w (aC T sz (.slice (some ⟨b,0,none⟩) n cap) xs::R):=
 h.head λ_ hx=> .inr ⟨b,n,cap,cs,rfl,hl,hn,hc,hm,ht,hx⟩
theorem Sat.kL (h:Sat w0 w (aC T sz v xs::R)):(v=.slice none 0 0/\xs=[]/\Sat w0 w R) \/
  ∃ b n cap cs,v=.slice (some ⟨b,0,none⟩) n cap/\xs.length=n*sz/\n<=cap/\cap*sz<=cs.size/\cap<=maxLen/\cs.toList.take (n*sz)=xs/\Sat w0 w (pt b (.cells cs T (0,0))::R):=by
 obtain ⟨ha,x,hx,p,q,d,rfl,hp,hq⟩:=h;rcases hp with ⟨h1,h2,h3⟩|⟨b,n,cap,cs,h1,h2,h3,h4,h5,h6,h7⟩
 ·refine .inl ⟨h1,h2,ha,q,λi o hi=>hx i o ?_,hq⟩;rw [show p=_ from h3];simp [Hp.join,hi]
 ·exact .inr ⟨b,n,cap,cs,h1,h2,h3,h4,h5,h6,ha,_,hx,p,q,d,rfl,h7,hq⟩
theorem sO (b j:Nat):(⟨b,0,none⟩:Addr).add j=⟨b,j,none⟩:=by unfold Addr.add;split <;> simp_all
theorem lX {cs:Array Value}{k:Nat} (ht:cs.toList.take k=xs){i:Nat}{x:Value} (hi:xs[i]?=some x):cs[i]?=some x:=by
 rw [<-ht,alM]at hi;split at hi
 ·simpa using hi
 ·cases hi
theorem Sat.rd (h:Sat w0 w (aC T sz v xs::R)):aW sz v xs w:=by
 rcases h.kL with ⟨rfl,rfl,_⟩|⟨b,n,cap,cs,rfl,hl,hn,hc,hm,ht,hp⟩
 ·exact ⟨none,0,0,rfl,by simp,by simp⟩
 ·refine ⟨some ⟨b,0,none⟩,n,cap,rfl,hl,λi x hi=>⟨_,rfl,?_⟩⟩;rw [sO];exact hp.cellAt i x (lX ht hi)
theorem SQ (sz cap:Nat) (w:World):aW sz (.slice none 0 cap) [] w:=⟨none,0,cap,rfl,by simp,by simp⟩
end
section
variable {P:Program}{w0 w:World}{R:List aF}{sz:Nat}{v x:Value}{xs ys:List Value}
theorem ab6 (t ty e:TypeId) (i:TypeInfo) (z:Value) (ht:P.underlying t=some (.slice e)) (hi:P.info? e=some i) (hz:i.zero=some z)
  (hs:i.size=sz) (hzs:z.cells.size=sz) (hsz:0<sz) (h1:∀ u∈ys,u.oneCell'=true)
  (h:Sat w0 w (aC e sz v xs::R)) (hx:aW sz x ys w) (h63:xs.length+ys.length<=maxLen) (hby:(xs.length+ys.length)*i.bytes<=140737488355328) :
  ∃ v' w',(Builtin.append_ #[t,t] ty #[v,x]).run P w=.ok v' w'/\Sat w0 w' (aC e sz v' (xs++ys)::R)/\(xs++ys≠[]->∃ b n c,v'=.slice (some ⟨b,0,none⟩) n c):=by
 subst hs;obtain ⟨xa,m,c,rfl,hyl,vS⟩:=hx;have hle:∀ {p q:Nat},p=q*i.size->q<=p:=λ{p q} e=>by rw [e];exact Nat.le_mul_of_pos_right _ hsz
 have hm:=hle hyl;by_cases hm0:m=0
 ·subst hm0;obtain rfl:ys=[]:=ae9 (by simpa using hyl);rcases h.kL with ⟨rfl,rfl,h'⟩|⟨b,n,cap,cs,rfl,hl,hn,hc,hcm,htk,hp⟩
  ·refine ⟨.slice none 0 0,w,?_,by simpa using h,by simp⟩;cases xa <;> simp [Builtin.append_,agu ht,sizeOf,typeInfo,hi,Builtin.lenOf,Builtin.firstCells,loadCells,loadCellsFrom]
  ·refine ⟨.slice (some ⟨b,0,none⟩) n cap,w,?_,by simpa using h,λ_=>⟨_,_,_,rfl⟩⟩;cases xa <;> simp [Builtin.append_,agu ht,sizeOf,typeInfo,hi,Builtin.lenOf,Builtin.firstCells,loadCells,loadCellsFrom,hn,storeCells]
 ·have hy0:ys≠[]:=by
   intro e;subst e;have:m*i.size=0:=by simpa using hyl.symm
   rcases Nat.mul_eq_zero.1 this with h|h <;> omega
  obtain ⟨ad,rfl⟩:∃ ad,xa=some ad:=by
   obtain ⟨y,hy⟩:∃ y,ys[0]?=some y:=by
    cases ys with
    |nil=>exact absurd rfl hy0
    |cons y _=>exact ⟨y,rfl⟩
   obtain ⟨b,hb,_⟩:=vS 0 y hy;exact ⟨b,hb⟩
  have hnews:∀ j u,ys[j]?=some u->w.cell? (ad.add j)=some u:=λj u hj=>by
   obtain ⟨b,hb,hx⟩:=vS j u hj;cases hb;exact hx
  have h63':maxLen=9223372036854775807:=rfl
  have grown:∀ (n old:Nat) (_:n*i.size=xs.length) (_:old<n+m) (_:Sat w0 w R),Sat w0 (w.drew.alloc (.cells (xs.toArray++ys.toArray++Builtin.zeroCells z.cells (grownCap w (n+m) old e-(n+m))) e))
    (aC e i.size (.slice (some ⟨w.heap.size,0,none⟩) (n+m) (grownCap w (n+m) old e)) (xs++ys)::R):=by
   intro n old hn ho hR;have hge:=grownCap_ge w (n+m) old e;have hnx:=hle hn.symm;have hcm:=grownCap_le_maxLen w (n+m) old e oQ;have:=(hR.drew).alloc (.cells (xs.toArray++ys.toArray++Builtin.zeroCells z.cells (grownCap w (n+m) old e-(n+m))) e);refine Sat.kU this ?_ hge ?_ hcm ?_
   ·rw [aa7,<-hn,hyl,aoH]
   ·simp only [Array.size_append,abA,size_zeroCells,hzs];rw [<-hn,hyl,<-aoH,<-aoH];exact aiI _ oQ
   ·simp only [apy,ad2];rw [<-ad2];have e1:(n+m)*i.size=(xs++ys).length:=by rw [aa7,<-hn,hyl,aoH]
    rw [e1];exact List.take_left
  rcases h.kL with ⟨rfl,rfl,h'⟩|⟨b,n,cap,cs,rfl,hl,hn,hc,hcm,htk,hp⟩
  ·have Eh:m*i.bytes<=140737488355328:=by
    refine adT (aiI _ ?_) hby;simp;omega
   have hr:=run_append_nil (P:=P) w t ty e i z ht hi hz ad m c ys hyl hnews oQ (by simp at h63;omega) oQ;have hg:=grown 0 0 yF0 oQ h';simp only [aeE,aeV,Array.empty_append]at hg ⊢;exact ⟨_,_,hr,hg,λ_=>⟨_,_,_,rfl⟩⟩
  ·by_cases hroom:n+m<=cap
   ·have hfit:n*i.size+ys.length<=cs.size:=by
     rw [hyl,<-aoH];exact adT (aiI _ hroom) hc
    have hr:=run_append_room (P:=P) w t ty e i ht hi b n cap cs hp.at ad m c ys hyl hnews h1 hroom hfit;refine ⟨_,_,hr,?_,λ_=>⟨_,_,_,rfl⟩⟩;have ah6:=hp.turn (w':=w.setRow b (cs.toList.take (n*i.size)++ys++cs.toList.drop (n*i.size+ys.length)).toArray) rfl rfl rfl yF0 (setRow_heap w b cs _ e _ hp.at) (λj hj _=>setRow_other w b j _ hj);refine Sat.kU ah6 ?_ hroom ?_ hcm ?_
    ·rw [aa7,hl,hyl,aoH]
    ·simp only [abA,aa7,adt,adX,ad6];omega
    ·rw [htk];have e1:(n+m)*i.size=(xs++ys).length:=by rw [aa7,hl,hyl,aoH]
     rw [e1];exact List.take_left
   ·have holds:∀ j u,xs[j]?=some u->w.cell? ((⟨b,0,none⟩:Addr).add j)=some u:=λj u hj=>by
     rw [sO];exact hp.cellAt j u (lX htk hj)
    have hnx:=hle hl;have Eh:(n+m)*i.bytes<=140737488355328:=adT (aiI _ oQ) hby;have hr:=run_append_grow (P:=P) w t ty e i z ht hi hz ⟨b,0,none⟩ n cap xs hl holds ad m c ys hyl hnews oQ oQ (growslice_fits oQ Eh);exact ⟨_,_,hr,grown n cap hl.symm oQ hp.drop,λ_=>⟨_,_,_,rfl⟩⟩
theorem U0 {o:Oper}{a:Act}{K:Act->World->Prop}{Q:Exit->Act->World->Prop} (s y:Operand) (t:TypeId)
  (ho:o.op=.call { callee:= .builtin .append,args:=#[s,y],argTypes:=#[t,t] })
  (e:TypeId) (i:TypeInfo) (z:Value) (ht:P.underlying t=some (.slice e)) (hi:P.info? e=some i) (hz:i.zero=some z)
  (hs:i.size=sz) (hzs:z.cells.size=sz) (hsz:0<sz) (hv:a.eval s=v) (hxv:a.eval y=x) (h1:∀ u∈ys,u.oneCell'=true)
  (h:Sat w0 w (aC e sz v xs::R)) (hx:aW sz x ys w) (h63:xs.length+ys.length<=maxLen) (hby:(xs.length+ys.length)*i.bytes<=140737488355328)
  (hK:∀ v' w',Sat w0 w' (aC e sz v' (xs++ys)::R)->(xs++ys≠[]->∃ b n c,v'=.slice (some ⟨b,0,none⟩) n c)->K (a.put o.dst v') w'):o.wp P a w K Q:=by
 obtain ⟨v',w',hr,h2,h3⟩:=ab6 (P:=P) t o.type e i z ht hi hz hs hzs hsz h1 h hx h63 hby;unfold Oper.wp execOp;simp only [ho,resolve,invoke,builtin,aed,aep,adW,ahS,aes,ah3,hv,hxv,hr];exact hK v' w' h2 h3
theorem Ah {ops:Array Oper}{rest:List Oper}{o:Oper}{a:Act}{Q:Exit->Act->World->Prop} (hgd:o.guard=none) (s y:Operand) (t:TypeId)
  (ho:o.op=.call { callee:= .builtin .append,args:=#[s,y],argTypes:=#[t,t] })
  (e:TypeId) (i:TypeInfo) (z:Value) (ht:P.underlying t=some (.slice e)) (hi:P.info? e=some i) (hz:i.zero=some z)
  (hs:i.size=sz) (hzs:z.cells.size=sz) (hsz:0<sz) (hv:a.eval s=v) (hxv:a.eval y=x) (h1:∀ u∈ys,u.oneCell'=true)
  (h:Sat w0 w (aC e sz v xs::R)) (hx:aW sz x ys w) (h63:xs.length+ys.length<=maxLen) (hby:(xs.length+ys.length)*i.bytes<=140737488355328)
  (hK:∀ v' w',Sat w0 w' (aC e sz v' (xs++ys)::R)->(xs++ys≠[]->∃ b n c,v'=.slice (some ⟨b,0,none⟩) n c)->wpList P ops Q rest (a.put o.dst v') w'):wpList P ops Q (o::rest) a w:=
 ae5 hgd λ_ hK'=>U0 s y t ho e i z ht hi hz hs hzs hsz hv hxv h1 h hx h63 hby λv' w' h2 h3=>hK' _ _ (hK v' w' h2 h3)
end
theorem step_append {P:Program}{w0 w:World}{R:List aF}{sz:Nat}{v x:Value}{xs ys:List Value}{ops:Array Oper}{o:Oper}{a:Act}{K:Act->World->Prop}{Q:Exit->Act->World->Prop}{E:Prop} (hgd:o.guard=none) (s y:Operand) (t:TypeId)
  (ho:o.op=.call { callee:= .builtin .append,args:=#[s,y],argTypes:=#[t,t] })
  (e:TypeId) (i:TypeInfo) (z:Value) (ht:P.underlying t=some (.slice e)) (hi:P.info? e=some i) (hz:i.zero=some z)
  (hs:i.size=sz) (hzs:z.cells.size=sz) (hsz:0<sz) (hv:a.eval s=v) (hxv:a.eval y=x) (h1:∀ u∈ys,u.oneCell'=true)
  (h:Sat w0 w (aC e sz v xs::R)) (hx:aW sz x ys w) (h63:xs.length+ys.length<=maxLen) (hby:(xs.length+ys.length)*i.bytes<=140737488355328)
  (hK:∀ v' w',Sat w0 w' (aC e sz v' (xs++ys)::R)->(xs++ys≠[]->∃ b n c,v'=.slice (some ⟨b,0,none⟩) n c)->K (a.put o.dst v') w') :
  if Region.wanted o (yielded ops a.tmps)=true then Oper.wp P o a w K Q else E:=by
 have hw:Region.wanted o (yielded ops a.tmps)=true:=by simp [Region.wanted,hgd]
 rw [adU hw];exact U0 s y t ho e i z ht hi hz hs hzs hsz hv hxv h1 h hx h63 hby hK
theorem Ez (w:World) (cs:Array Value) (T sz n c:Nat) (hn:cs.size=n*sz):aW sz (.slice (some ⟨w.heap.size,0,none⟩) n c) cs.toList (w.alloc (.cells cs T)):=
 ⟨_,n,c,rfl,by simpa using hn,λi x hi=>⟨_,rfl,by rw [sO,World.cell?_alloc_new];simpa using hi⟩⟩
def omap (d:TypeDesc) (b:Nat) (l:List (Value×Value)):aF:=λh=>
 ∃ es clock,(es.toList.map λe=>(e.key,e.val)).Perm l/\Stamped es clock/\(∀ x∈es.toList,IsKey d x.key)/\pt b (.map es clock) h
section
variable {P:Program}{w0 w:World}{R:List aF}{d:TypeDesc}{b:Nat}{l l':List (Value×Value)}
theorem Le (hp:l.Perm l'):omap d b l=omap d b l':=by
 apply aF.ext;intro h;exact ⟨λ⟨es,c,h1,h2⟩=>⟨es,c,h1.trans hp,h2⟩,λ⟨es,c,h1,h2⟩=>⟨es,c,h1.trans hp.symm,h2⟩⟩
theorem Sat.Le (h:Sat w0 w (omap d b l::R)) (hp:l.Perm l'):Sat w0 w (omap d b l'::R):=Sl.Le hp ▸ h
theorem Sat.Et (h:Sat w0 w (omap d b l::R)):∃ es clock,(es.toList.map λe=>(e.key,e.val)).Perm l/\Stamped es clock/\(∀ x∈es.toList,IsKey d x.key)/\Sat w0 w (pt b (.map es clock)::R):=by
 obtain ⟨ha,x,hx,p,q,dd,rfl,⟨es,c,h1,h2,h3,h4⟩,hq⟩:=h;exact ⟨es,c,h1,h2,h3,ha,_,hx,p,q,dd,rfl,h4,hq⟩
theorem Sat.Eu {es:Array MapEntry}{clock:Nat} (h:Sat w0 w (pt b (.map es clock)::R)) (h1:(es.toList.map λe=>(e.key,e.val)).Perm l) (h2:Stamped es clock) (h3:∀ x∈es.toList,IsKey d x.key):Sat w0 w (omap d b l::R):=
 h.head λ_ hx=>⟨es,clock,h1,h2,h3,hx⟩
theorem Sat.Lc (h:Sat w0 w (omap d b l::R)):(l.map (·.1)).Nodup:=by
 obtain ⟨es,c,h1,h2,h3,h4⟩:=h.Et;have:=(h1.map (·.1)).nodup_iff.1 (by rw [ahU];exact h2.2.2);exact this
theorem Sat.Ld (h:Sat w0 w R) (d:TypeDesc):Sat w0 (w.alloc (.map #[] 0)) (omap d w.heap.size []::R):=
 (h.alloc _).Eu yF0 (stamped_empty 0) yF0
variable {mty kt et:TypeId}{key:Value}
theorem ach (hm:P.underlying mty=some (.map kt et)) (hd:P.underlying kt=some d){z:Value} (hz:(zeroValue et).run P w=.ok z w) (hk:IsKey d key) (h:Sat w0 w (omap d b l::R)) :
  (∃ v,(key,v)∈l/\(Instr.lookup mty (.map (some b)) key false).run P w=.ok v w/\(Instr.lookup mty (.map (some b)) key true).run P w=.ok (.tuple #[v,.bool true]) w) \/
  ((∀ p∈l,p.1≠key)/\(Instr.lookup mty (.map (some b)) key false).run P w=.ok z w/\(Instr.lookup mty (.map (some b)) key true).run P w=.ok (.tuple #[z,.bool false]) w):=by
 obtain ⟨es,c,h1,h2,h3,h4⟩:=h.Et;have hb:=h4.at;rcases findNow_spec hk es.toList 0 h3 with ⟨f1,f2⟩|⟨j,e,f1,f2,f3⟩
 ·refine .inr ⟨?_,?_,?_⟩
  ·intro p hp e;have:=(h1.mem_iff.2 hp);obtain ⟨x,hx,hxe⟩:=adu.1 this;refine f2 x hx ?_;rw [<-e,<-hxe]
  ·simp [Instr.lookup,agu hm,ail hb,aoN hd hk,ao9 hd f1,Result.andThen,hz]
  ·simp [Instr.lookup,agu hm,ail hb,aoN hd hk,ao9 hd f1,Result.andThen,hz]
 ·refine .inl ⟨e.val,?_,?_,?_⟩
  ·refine h1.mem_iff.1 (adu.2 ⟨e,acr f2,?_⟩);rw [f3]
  ·simp [Instr.lookup,agu hm,ail hb,aoN hd hk,ao9 hd f1,Result.andThen]
  ·simp [Instr.lookup,agu hm,ail hb,aoN hd hk,ao9 hd f1,Result.andThen]
theorem run_store (hm:P.underlying mty=some (.map kt et)) (hd:P.underlying kt=some d) (hk:IsKey d key) (v:Value) (h:Sat w0 w (omap d b l::R)) :
  ∃ w',(Instr.mapUpdate mty (.map (some b)) key v).run P w=.ok () w'/\∀ l0,(l.Perm l0/\(∀ p∈l0,p.1≠key)\/∃ v0,l.Perm ((key,v0)::l0))->Sat w0 w' (omap d b ((key,v)::l0)::R):=by
 obtain ⟨es,c,h1,h2,h3,h4⟩:=h.Et;have hb:=h4.at;have hnd:=h.Lc
 have turn:∀ o':Obj,Sat w0 { w with heap:=w.heap.setIfInBounds b o' } (pt b o'::R):=λo'=>
  h4.turn rfl rfl rfl yF0 (heap_set hb).1 (λi hi _=>(heap_set hb).2 i hi)
 rcases findNow_spec hk es.toList 0 h3 with ⟨f1,f2⟩|⟨j,e,f1,f2,f3⟩
 ·refine ⟨_,by simp [Instr.mapUpdate,agu hm,ail hb,aoN hd hk,ao9 hd f1,MapKept.run_setObj_map _ hb,Result.andThen];rfl,?_⟩;intro l0 hl0;refine (turn _).Eu ?_ (stamped_push h2 f2) ?_
  ·have hp:l.Perm l0:=by
    rcases hl0 with ⟨hp,_⟩|⟨v0,hp⟩
    ·exact hp
    ·exfalso;have:(key,v0)∈es.toList.map λe=>(e.key,e.val):=h1.mem_iff.2 (hp.mem_iff.2 (.head _));obtain ⟨x,hx,hxe⟩:=adu.1 this;exact f2 x hx (aeO Prod.fst hxe)
   simp only [Array.toList_push,aef,aes,ah3];exact (aoJ).trans (by simpa using (h1.trans hp).cons (key,v))
  ·intro x hx;simp only [Array.toList_push,aeQ,aeG]at hx;rcases hx with hx|rfl
   ·exact h3 x hx
   ·exact hk
 ·have hj:es[j]?=some e:=by simpa using f2
  refine ⟨_,by simp [Instr.mapUpdate,agu hm,ail hb,aoN hd hk,ao9 hd f1,hj,f3,MapKept.run_keyThatStays hk,MapKept.run_setObj_map _ hb,Result.andThen];rfl,?_⟩;intro l0 hl0;have hkey:∀ e',es[j]?=some e'->({ e' with key:=key,val:=v }:MapEntry).key=e'.key:=λe' he'=>by rw [hj]at he';cases he';exact f3.symm
  refine (turn _).Eu ?_ (stamped_modify h2 _ _ (λ_ _=>rfl) (λe' _ he'=>hkey e' he')) (isKey_modify h3 _ _ hkey);have hmem:(key,e.val)∈l:=h1.mem_iff.1 (adu.2 ⟨e,acr f2,by rw [f3]⟩);have hlt:j<es.toList.length:=(acZ.1 f2).1;have hsplit:es.toList=es.toList.take j++e::es.toList.drop (j+1):=by
   have he:es.toList[j]=e:=(acZ.1 f2).2;rw [<-he,List.getElem_cons_drop,aeX]
  have hp:l.Perm ((key,e.val)::l0):=by
   rcases hl0 with ⟨hp,hne⟩|⟨v0,hp⟩
   ·exact absurd rfl (hne _ (hp.mem_iff.1 hmem))
   ·have:(key,e.val)∈(key,v0)::l0:=hp.mem_iff.1 hmem;rcases ad9.1 this with hh|hh
    ·rw [hh];exact hp
    ·have hn:=(hp.map (·.1)).nodup_iff.1 hnd;simp only [aes,aoC]at hn;exact absurd (adu.2 ⟨_,hh,rfl⟩) hn.1
  have hmod:(es.modify j λe=>{ e with key:=key,val:=v }).toList=es.toList.take j++{ e with key:=key,val:=v }::es.toList.drop (j+1):=by
   rw [Array.toList_modify,List.modify_eq_take_cons_drop hlt];have he:es.toList[j]=e:=(acZ.1 f2).2;rw [he]
  rw [hmod];rw [hsplit]at h1;simp only [aef,aes]at h1 ⊢;rw [f3]at h1;have h5:((key,e.val)::((es.toList.take j).map (λe=>(e.key,e.val))++(es.toList.drop (j+1)).map (λe=>(e.key,e.val)))).Perm ((key,e.val)::l0):=(ao2.symm.trans h1).trans hp;exact ao2.trans ((List.Perm.cons_inv h5).cons _)
theorem alX {ty:TypeId} (hm:P.underlying mty=some (.map kt et)) (hd:P.underlying kt=some d) (hk:IsKey d key) (h:Sat w0 w (omap d b l::R)) :
  ∃ w',(Builtin.delete_ #[mty,kt] ty #[.map (some b),key]).run P w=.ok (.tuple #[]) w'/\∀ l0,(l.Perm l0/\(∀ p∈l0,p.1≠key)\/∃ v0,l.Perm ((key,v0)::l0))->Sat w0 w' (omap d b l0::R):=by
 obtain ⟨es,c,h1,h2,h3,h4⟩:=h.Et;have hb:=h4.at;have hnd:=h.Lc
 have turn:∀ o':Obj,Sat w0 { w with heap:=w.heap.setIfInBounds b o' } (pt b o'::R):=λo'=>
  h4.turn rfl rfl rfl yF0 (heap_set hb).1 (λi hi _=>(heap_set hb).2 i hi)
 rcases findNow_spec hk es.toList 0 h3 with ⟨f1,f2⟩|⟨j,e,f1,f2,f3⟩
 ·refine ⟨_,by simp [Builtin.delete_,agu hm,ail hb,aoN hd hk,ao9 hd f1,MapKept.run_setObj_map _ hb,Result.andThen];rfl,?_⟩;intro l0 hl0;refine (turn _).Eu ?_ h2 h3;rcases hl0 with ⟨hp,_⟩|⟨v0,hp⟩
  ·exact h1.trans hp
  ·exfalso;have:(key,v0)∈es.toList.map λe=>(e.key,e.val):=h1.mem_iff.2 (hp.mem_iff.2 (.head _));obtain ⟨x,hx,hxe⟩:=adu.1 this;exact f2 x hx (aeO Prod.fst hxe)
 ·refine ⟨_,by simp [Builtin.delete_,agu hm,ail hb,aoN hd hk,ao9 hd f1,MapKept.run_setObj_map _ hb,Result.andThen];rfl,?_⟩;intro l0 hl0;have hlt:j<es.toList.length:=(acZ.1 f2).1;have YU:(es.eraseIdxIfInBounds j).toList=es.toList.take j++es.toList.drop (j+1):=by
   unfold Array.eraseIdxIfInBounds;rw [dif_pos zH0,Array.toList_eraseIdx,List.eraseIdx_eq_take_drop_succ]
  refine (turn _).Eu ?_ (stamped_erase h2 _) ?_
  ·have hmem:(key,e.val)∈l:=h1.mem_iff.1 (adu.2 ⟨e,acr f2,by rw [f3]⟩);have hp:l.Perm ((key,e.val)::l0):=by
    rcases hl0 with ⟨hp,hne⟩|⟨v0,hp⟩
    ·exact absurd rfl (hne _ (hp.mem_iff.1 hmem))
    ·have:(key,e.val)∈(key,v0)::l0:=hp.mem_iff.1 hmem;rcases ad9.1 this with hh|hh
     ·rw [hh];exact hp
     ·have hn:=(hp.map (·.1)).nodup_iff.1 hnd;simp only [aes,aoC]at hn;exact absurd (adu.2 ⟨_,hh,rfl⟩) hn.1
   have hsplit:es.toList=es.toList.take j++e::es.toList.drop (j+1):=by
    have he:es.toList[j]=e:=(acZ.1 f2).2;rw [<-he,List.getElem_cons_drop,aeX]
   rw [YU];rw [hsplit]at h1;simp only [aef,aes]at h1 ⊢;rw [f3]at h1;exact List.Perm.cons_inv ((ao2.symm.trans h1).trans hp)
  ·intro x hx;rw [YU]at hx;refine h3 x ?_;rcases aeQ.1 hx with hx|hx
   ·exact ae2 hx
   ·exact List.mem_of_mem_drop hx
theorem al3 (hm:P.underlying mty=some (.map kt et)) (ty:TypeId) (h:Sat w0 w (omap d b l::R)):(Builtin.len_ #[mty] ty #[.map (some b)]).run P w=.ok (.int .i64 l.length) w:=by
 obtain ⟨es,c,h1,h2,h3,h4⟩:=h.Et;have hb:=h4.at;have hl:=h1.length_eq;simp at hl;simp [Builtin.len_,agu hm,ail hb,Result.andThen,goInt,hl]
end
section
variable {P:Program}{w0 w:World}{R:List aF}{d:TypeDesc}{b:Nat}{l:List (Value×Value)}{key:Value}{t kt et:TypeId}
variable {ops:Array Oper}{rest:List Oper}{o:Oper}{a:Act}{Q:Exit->Act->World->Prop}
theorem adF (hg:o.guard=none) (m x:Operand) (hop:o.op=Op.call { callee:=Callee.builtin Builtin.delete,args:=#[m,x],argTypes:=#[t,kt] })
  (hm:P.underlying t=some (.map kt et)) (hd:P.underlying kt=some d) (hmv:a.eval m=.map (some b)) (hxv:a.eval x=key) (hk:IsKey d key) (h:Sat w0 w (omap d b l::R))
  (l0:List (Value×Value)) (hl:l.Perm l0/\(∀ p∈l0,p.1≠key)\/∃ v0,l.Perm ((key,v0)::l0))
  (hK:∀ w',Sat w0 w' (omap d b l0::R)->wpList P ops Q rest (a.put o.dst (.tuple #[])) w'):wpList P ops Q (o::rest) a w:=by
 refine ae5 hg λK' hK'=>?_;obtain ⟨w',hrun,hs⟩:=alX (P:=P) (ty:=o.type) hm hd hk h;unfold Oper.wp;simp [execOp,hop,resolve,invoke,builtin,hmv,hxv,hrun,Result.andThen];exact hK' _ _ (hK w' (hs l0 hl))
theorem UZ (hg:o.guard=none) (m x y:Operand) (hop:o.op=Op.mapUpdate t m x y)
  (hm:P.underlying t=some (.map kt et)) (hd:P.underlying kt=some d) (hmv:a.eval m=.map (some b)) (hxv:a.eval x=key) {v:Value} (hyv:a.eval y=v) (hk:IsKey d key) (h:Sat w0 w (omap d b l::R))
  (l0:List (Value×Value)) (hl:l.Perm l0/\(∀ p∈l0,p.1≠key)\/∃ v0,l.Perm ((key,v0)::l0))
  (hK:∀ w',Sat w0 w' (omap d b ((key,v)::l0)::R)->wpList P ops Q rest (a.put o.dst undef) w'):wpList P ops Q (o::rest) a w:=by
 refine ae5 hg λK' hK'=>?_;obtain ⟨w',hrun,hs⟩:=run_store (P:=P) hm hd hk v h;unfold Oper.wp;simp [execOp,hop,hmv,hxv,hyv,hrun,Result.andThen];exact hK' _ _ (hK w' (hs l0 hl))
end
end Go.Sl
namespace Go.ak
abbrev Bs:=List UInt8
structure gX where
 cut:Bool
 n:Nat
 b:Bs
def gX.on (c:gX) (l:Bs):Bs:=if c.cut then l.take c.n else l++c.b
structure aX where
 fast:Bs
 now:Bs
 waits:List gX
def aX.new:aX:=⟨[],[],[]⟩
def aX.do (f:aX) (c:gX):aX:={ f with now:=c.on f.now,waits:=f.waits++[c] }
def aX.sync (f:aX):aX:={ f with fast:=f.now,waits:=[] }
def aX.at (f:aX) (k:Nat):Bs:=(f.waits.take k).foldl (λb c=>c.on b) f.fast
def zh (x:Int) (hi:Nat):Nat:=min x.toNat hi
def aX.left (f:aX) (whole MN:Int):Bs:=
 let k:=zh whole f.waits.length
 match f.waits[k]? with
 |some c=>if c.cut then f.at k else f.at k++c.b.take (zh MN c.b.length)
 |none=>f.at k
def aX.crash (f:aX) (whole MN:Int):aX:=⟨f.left whole MN,f.left whole MN,[]⟩
abbrev Names:=List (ByteArray×Nat)
def lt (a b:ByteArray):Bool:=decide (a.data.toList<b.data.toList)
def bH (l:Names) (s:ByteArray):Option Nat:=(l.find? λp=>p.1==s).map (·.2)
def dS (l:Names) (s:ByteArray):Names:=l.filter λp=>p.1 != s
def jo:Names->ByteArray->Nat->Names
 |[],s,i=>[(s,i)]
 |p::l,s,i=>if lt s p.1 then (s,i)::p::l else p::jo l s i
def jR (l:Names) (s:ByteArray) (i:Nat):Names:=jo (dS l s) s i
structure gU where
 fr:ByteArray
 to:ByteArray
 f:Nat
def gU.on (x:gU) (l:Names):Names:=
 let l:=if x.fr=ByteArray.empty then l else dS l x.fr
 if x.to=ByteArray.empty then l else jR l x.to x.f
structure ak where
 room:Nat
 fast:Names
 now:Names
 files:List aX
 waits:List gU
 armed:Bool
 left:Nat
 off:Bool
def ak.file (m:ak) (i:Nat):aX:=m.files.getD i aX.new
def ak.used (m:ak):Nat:=(m.now.map λp=>(m.file p.2).now.length).sum
def new (room:Nat):ak:=⟨room,[],[],[],[],false,0,false⟩
def l9 (c:UInt8):Bool:=(97<=c && c<=122) || (48<=c && c<=57) || c==46 || c==45
def good (s:ByteArray):Bool:=decide (1<=s.size) && decide (s.size<=24) && s.data.toList.all l9
def ak.step (m:ak):ak×Bool:=
 if m.armed then (if m.left=0 then ({ m with off:=true },false) else ({ m with left:=m.left-1 },true)) else (m,true)
def ak.link (m:ak) (x:gU):ak:={ m with now:=x.on m.now,waits:=m.waits++[x] }
def ak.eP (m:ak) (i:Nat) (f:aX):ak:={ m with files:=m.files.set i f }
def ak.create (m:ak) (s:ByteArray):ak×Int:=
 if m.off then (m,12)
 else if good s=false then (m,7)
 else if (bH m.now s).isSome then (m,10)
 else if 500<=m.now.length then (m,16)
 else if m.step.2=false then (m.step.1,12)
 else ({ m.step.1 with files:=m.files++[aX.new] }.link ⟨ByteArray.empty,s,m.files.length⟩,0)
def ak.append (m:ak) (s:ByteArray) (b:Bs):ak×Int:=
 if m.off then (m,12)
 else match bH m.now s with
 |none=>(m,9)
 |some i=>
  if (m.room:Int)-m.used<b.length then (m,11)
  else if m.step.2=false then (m.step.1,12)
  else (m.step.1.eP i ((m.file i).do ⟨false,0,b⟩),0)
def ak.truncate (m:ak) (s:ByteArray) (n:Int):ak×Int:=
 if m.off then (m,12)
 else match bH m.now s with
 |none=>(m,9)
 |some i=>
  if n<0\/((m.file i).now.length:Int)<n then (m,2)
  else if m.step.2=false then (m.step.1,12)
  else (m.step.1.eP i ((m.file i).do ⟨true,n.toNat,[]⟩),0)
def ak.rename (m:ak) (s t:ByteArray):ak×Int:=
 if m.off then (m,12)
 else match bH m.now s with
 |none=>(m,9)
 |some i=>
  if good t=false then (m,7)
  else if m.step.2=false then (m.step.1,12)
  else (m.step.1.link ⟨s,t,i⟩,0)
def ak.remove (m:ak) (s:ByteArray):ak×Int:=
 if m.off then (m,12)
 else match bH m.now s with
 |none=>(m,9)
 |some _=>
  if m.step.2=false then (m.step.1,12)
  else (m.step.1.link ⟨s,ByteArray.empty,0⟩,0)
def ak.sync (m:ak) (s:ByteArray):ak×Int:=
 if m.off then (m,12)
 else match bH m.now s with
 |none=>(m,9)
 |some i=>
  if m.step.2=false then (m.step.1,12)
  else (m.step.1.eP i (m.file i).sync,0)
def ak.dH (m:ak):ak×Int:=
 if m.off then (m,12)
 else if m.step.2=false then (m.step.1,12)
 else ({ m.step.1 with fast:=m.now,waits:=[] },0)
def ak.read (m:ak) (s:ByteArray) (at_ n:Int):Bs×Int:=
 if m.off then ([],12)
 else match bH m.now s with
 |none=>([],9)
 |some i=>
  let l:=(m.file i).now
  if at_<0\/n<0 then ([],2)
  else if (l.length:Int)<at_\/(l.length:Int)-at_<n then ([],3)
  else ((l.drop at_.toNat).take n.toNat,0)
def ak.all (m:ak) (s:ByteArray):Bs×Int:=
 if m.off then ([],12)
 else match bH m.now s with
 |none=>([],9)
 |some i=>((m.file i).now,0)
def ak.size (m:ak) (s:ByteArray):Int×Int:=
 if m.off then (0,12)
 else match bH m.now s with
 |none=>(0,9)
 |some i=>((m.file i).now.length,0)
def ak.list (m:ak):List ByteArray:=if m.off then [] else m.now.map (·.1)
def ak.wu (m:ak):Nat:=if m.off then 0 else m.used
def ak.qw (m:ak) (n:Int):ak×Int:=
 if m.off then (m,12) else if n<0\/16777216<n then (m,2) else ({ m with room:=n.toNat },0)
def ak.arm (m:ak) (n:Int):ak×Int:=
 if m.off then (m,12) else if n<0 then (m,2) else ({ m with armed:=true,left:=n.toNat },0)
def num (l:List Int) (i:Nat):Int:=l.getD i 0
def ak.iO (m:ak) (k:Nat):Names:=(m.waits.take k).foldl (λl x=>x.on l) m.fast
def Xm (l:List Int):Names->Nat->List aX->List aX
 |[],_,fs=>fs
 |p::ns,j,fs=>Xm l ns (j+2) (fs.set p.2 ((fs.getD p.2 aX.new).crash (num l j) (num l (j+1))))
def ak.crash (m:ak) (l:List Int):ak:=
 let ns:=m.iO (zh (num l 0) m.waits.length)
 { m with fast:=ns,now:=ns,waits:=[],files:=Xm l ns 1 m.files,off:=false,armed:=false,left:=0 }
def jv (l:Bs) (i:Nat) (y:UInt8):Bs:=l.set i (l.getD i 0 ^^^ y)
def zY (f:aX) (i:Nat) (y:UInt8):Nat->Option (List gX)
 |0=>none
 |k+1=>
  match f.waits[k]? with
  |none=>zY f i y k
  |some c=>if c.cut then zY f i y k
   else if (f.at k).length<=i then some (f.waits.set k { c with b:=jv c.b (i-(f.at k).length) y })
   else zY f i y k
def aX.jE (f:aX) (i:Nat) (y:UInt8):aX:=
 match zY f i y f.waits.length with
 |some ws=>{ f with now:=jv f.now i y,waits:=ws }
 |none=>{ f with now:=jv f.now i y,fast:=jv f.fast i y }
def ak.jE (m:ak) (s:ByteArray) (i:Int) (y:UInt8):ak×Bool:=
 match bH m.now s with
 |none=>(m,false)
 |some k=>if i<0\/((m.file k).now.length:Int)<=i then (m,false) else (m.eP k ((m.file k).jE i.toNat y),true)
end Go.ak
namespace Go.Proofs.Y
open Go Go.Sl Go.ak Go.MapKept
def aB (l:Bs):List Value:=l.map λb=> .int .u8 b.toNat
abbrev ptr (b:Nat):Value:= .pointer (some ⟨b,0,none⟩)
abbrev errno (n:Int):Value:= .int .i64 n
def mO (p:gX×Value):List Value:=[.bool p.1.cut,.int .i64 p.1.n,p.2]
def aY (v:Value) (l:Bs):aF:=aC 5 1 v (aB l)
def pG (ws:List (gX×Value)):aF:=stars (ws.map λp=>aY p.2 p.1.b)
def Ea (b:Nat) (fv nv wv:Value):aF:=pt b (.cells #[fv,nv,wv] 157 (0,0))
def E8 (b:Nat) (f:aX) (fv nv wv:Value) (ws:List (gX×Value)):List aF:=
 [Ea b fv nv wv,aY fv f.fast,aY nv f.now,aC 182 3 wv (ws.flatMap mO),pG ws]
def lI (b:Nat) (f:aX):aF:=λh=>∃ fv nv wv ws,ws.map (·.1)=f.waits/\stars (E8 b f fv nv wv ws) h
def pJ (bs:List Nat) (fs:List aX):aF:=stars (List.zipWith lI bs fs)
def dR (bs:List Nat) (l:Names):List (Value×Value):=l.map λp=>(.string p.1,ptr (bs.getD p.2 0))
def oG (bs:List Nat) (x:gU):List Value:=[.string x.fr,.string x.to,if x.to=ByteArray.empty then .pointer none else ptr (bs.getD x.f 0)]
def oV (m:Nat) (M:ak) (fb nb:Nat) (wv:Value):aF:=
 pt m (.cells #[.int .i64 M.room,.map (some fb),.map (some nb),wv,.bool M.armed,.int .i64 M.left,.bool M.off] 131 (0,0))
def xP (m:Nat) (M:ak) (bs:List Nat) (fb nb:Nat) (wv:Value):List aF:=
 [oV m M fb nb wv,omap .string nb (dR bs M.now),pJ bs M.files,omap .string fb (dR bs M.fast),aC 135 3 wv (M.waits.flatMap (oG bs))]
def aI (m:Nat) (M:ak):aF:=λh=>∃ bs fb nb wv,bs.length=M.files.length/\stars (xP m M bs fb nb wv) h
section
variable {w0 w:World}{F:List aF}{m b:Nat}{M:ak}{f:aX}
theorem aI.open (h:Sat w0 w (aI m M::F)):∃ bs fb nb wv,bs.length=M.files.length/\Sat w0 w (xP m M bs fb nb wv++F):=by
 obtain ⟨ha,x,hx,p,q,d,rfl,⟨bs,fb,nb,wv,hl,hp⟩,hq⟩:=h;refine ⟨bs,fb,nb,wv,hl,ha,_,hx,?_⟩;rw [qx];exact ⟨p,q,d,rfl,hp,hq⟩
theorem aI.shut {bs:List Nat}{fb nb:Nat}{wv:Value} (hl:bs.length=M.files.length) (h:Sat w0 w (xP m M bs fb nb wv++F)):Sat w0 w (aI m M::F):=
 h.join λ_ hx=>⟨bs,fb,nb,wv,hl,hx⟩
theorem lI.open (h:Sat w0 w (lI b f::F)):∃ fv nv wv ws,ws.map (·.1)=f.waits/\Sat w0 w (E8 b f fv nv wv ws++F):=by
 obtain ⟨ha,x,hx,p,q,d,rfl,⟨bs,fb,nb,wv,hl,hp⟩,hq⟩:=h;refine ⟨bs,fb,nb,wv,hl,ha,_,hx,?_⟩;rw [qx];exact ⟨p,q,d,rfl,hp,hq⟩
theorem lI.shut {fv nv wv:Value}{ws:List (gX×Value)} (hl:ws.map (·.1)=f.waits) (h:Sat w0 w (E8 b f fv nv wv ws++F)):Sat w0 w (lI b f::F):=
 h.join λ_ hx=>⟨fv,nv,wv,ws,hl,hx⟩
theorem PO:∀ (bs:List Nat) (fs:List aX) (i:Nat),bs.length=fs.length->i<fs.length ->
  ∃ G:aF,(pJ bs fs=star (lI (bs.getD i 0) (fs.getD i aX.new)) G)/\∀ f',pJ bs (fs.set i f')=star (lI (bs.getD i 0) f') G
 |[],[],i,_,h=>by simp at h
 |[],_::_,_,h,_=>by simp at h
 |_::_,[],_,h,_=>by simp at h
 |b::bs,f::fs,0,_,_=>⟨pJ bs fs,rfl,λ_=>rfl⟩
 |b::bs,f::fs,i+1,hl,hi=>by
  obtain ⟨G,h1,h2⟩:=PO bs fs i (by simpa using hl) (by simpa using hi);refine ⟨star (lI b f) G,?_,λf'=>?_⟩
  ·show star (lI b f) (pJ bs fs)=_;rw [h1,xg];rfl
  ·show star (lI b f) (pJ bs (fs.set i f'))=_;rw [h2,xg];rfl
theorem X7:∀ (bs:List Nat) (fs:List aX) (b:Nat) (f:aX),bs.length=fs.length->pJ (bs++[b]) (fs++[f])=star (lI b f) (pJ bs fs)
 |[],[],_,_,_=>rfl
 |[],_::_,_,_,h=>by simp at h
 |_::_,[],_,_,h=>by simp at h
 |c::bs,g::fs,b,f,h=>by
  show star (lI c g) (pJ (bs++[b]) (fs++[f]))=_;rw [X7 bs fs b f yL0,xg];rfl
end
theorem info8:(prog.info? 5).map (λi=>(i.zero,i.size,i.bytes))=some (some (.int .u8 0),1,1):=by kernel_rfl
theorem aiz (w:World):(zeroValue 133).run prog w=.ok (.pointer none) w:=by kernel_rfl
@[go_sem] theorem aoP (w:World) (r:Option Nat):(binOp .eql 128 (.map r) (.map none)).run prog w=.ok (.bool r.isNone) w:=run_eql_map_nil w _ _ _ r underlying128
end Go.Proofs.Y
namespace Go.Proofs.Y
open Go Go.Sl Go.ak Go.MapKept Go.RowKit
section
variable {w0 w:World}{F:List aF}{m fb nb:Nat}{M:ak}{bs:List Nat}{wv:Value}{s:ByteArray}
theorem Bz (h:Sat w0 w (oV m M fb nb wv::F)) :
  Calls prog 58 #[ptr m] w (aN λv w'=>v=errno (bif M.off then 12 else 0)/\w=w'):=by
 obtain ⟨room,fast,now,files,waits,armed,left,off⟩:=M;have c2:=h.cellAt 2 _ rfl;have c6:=h.cellAt 6 _ rfl;go_enter func58,ntmps58;cases off <;> (go_wp2;go_ret;exact ⟨_,rfl,rfl,rfl⟩)
theorem Dh (h:Sat w0 w (oV m M fb nb wv::F)) (hl:M.left<=9223372036854775807) :
  Calls prog 82 #[ptr m] w (aN λv w'=>v=errno (bif M.step.2 then 0 else 12)/\Sat w0 w' (oV m M.step.1 fb nb wv::F)):=by
 obtain ⟨room,fast,now,files,waits,armed,left,off⟩:=M;have c4:=h.cellAt 4 _ rfl;have c5:=h.cellAt 5 _ rfl;have f5:=h.oC 5;have f6:=h.oC 6;have c6:=h.cellAt 6 _ rfl;simp only at hl;go_enter func82,ntmps82;cases armed
 ·go_wp2;go_ret;exact ⟨_,rfl,by simp [ak.step],by simpa [ak.step] using h⟩
 ·by_cases hz:left=0
  ·subst hz;go_wp2;go_ret;exact ⟨_,rfl,rfl,h.set 6 (.bool true)⟩
  ·have hz':((left:Int)==0)=false:=by simpa using hz
   have e1:((left-1:Nat):Int)=(left:Int)-1:=by omega
   go_wp2;go_ret;refine ⟨_,rfl,by simp [ak.step,hz],?_⟩;have:=h.set 5 (.int .i64 ((left:Int)-1));simp only [ak.step,hz,apc,ao7,oV,e1];exact this
end
end Go.Proofs.Y
namespace Go.ak
theorem mM (a b:ByteArray):(a==b)=decide (a=b):=by
 by_cases h:a=b
 ·subst h;simp [(MapKept.bytes_beq a a).2 rfl]
 ·have:¬ (a==b)=true:=λe=>h ((MapKept.bytes_beq a b).1 e);simp [h,Bool.eq_false_iff.2 this]
theorem ji {l:Names}{s:ByteArray}{i:Nat} (h:bH l s=some i):(s,i)∈l:=by
 unfold bH at h;cases hf:l.find? (λp=>p.1==s) with
 |none=>rw [hf]at h;cases h
 |some p=>
  rw [hf]at h;have h1:=List.find?_some hf;have h2:=List.mem_of_find?_eq_some hf;simp [mM]at h1 h;obtain ⟨a,b⟩:=p;simp at h1 h;subst h1;subst h;exact h2
theorem KT {l:Names}{s:ByteArray} (h:bH l s=none):∀ p∈l,p.1≠s:=by
 intro p hp e;simp only [bH,Option.map_eq_none_iff,List.find?_eq_none]at h;exact h p hp (by simp [mM,e])
theorem Ep {l:Names} (hn:(l.map (·.1)).Nodup){s:ByteArray}{i:Nat} (h:(s,i)∈l):bH l s=some i:=by
 cases hg:bH l s with
 |none=>exact absurd rfl (KT hg _ h)
 |some j=>
  have hj:=ji hg
  induction l with
  |nil=>cases h
  |cons p l ih=>
   simp only [aes,aoC]at hn;rcases ad9.1 h with h1|h1 <;> rcases ad9.1 hj with h2|h2
   ·rw [<-h1]at h2;cases h2;rfl
   ·exact (hn.1 (adu.2 ⟨_,h2,by rw [<-h1]⟩)).elim
   ·exact (hn.1 (adu.2 ⟨_,h1,by rw [<-h2]⟩)).elim
   ·refine ih hn.2 h1 ?_ h2;unfold bH at hg ⊢;have:(p.1==s)=false:=by
     rw [mM];simp;intro e;exact hn.1 (adu.2 ⟨_,h1,e.symm⟩)
    rw [List.find?_cons_of_neg (by simp [this])]at hg;exact hg
theorem ajG (l:Names) (s:ByteArray):∀ p∈dS l s,p.1≠s:=by
 intro p hp;have:=(aex.1 hp).2;simpa [mM,bne] using this
theorem Rq {l:Names} (hn:(l.map (·.1)).Nodup){s:ByteArray}{i:Nat} (h:(s,i)∈l):l.Perm ((s,i)::dS l s):=by
 induction l with
 |nil=>cases h
 |cons p l ih=>
  simp only [aes,aoC]at hn;rcases ad9.1 h with h1|h1
  ·subst h1;have:dS ((s,i)::l) s=l:=by
    unfold dS;rw [apl (by simp [mM,bne]),apJ];intro q hq;simp only [bne,mM,Bool.not_eq_true',aeJ];exact λe=>hn.1 (adu.2 ⟨q,hq,e⟩)
   rw [this]
  ·have hps:p.1≠s:=λe=>hn.1 (adu.2 ⟨_,h1,e.symm⟩);have:dS (p::l) s=p::dS l s:=by
    unfold dS;rw [apm (by simpa [mM,bne] using hps)]
   rw [this];exact ((ih hn.2 h1).cons p).trans (List.Perm.swap _ _ _)
theorem CJ {l:Names}{s:ByteArray} (h:bH l s=none):dS l s=l:=by
 unfold dS;rw [apJ];intro q hq;simpa [mM,bne] using KT h q hq
theorem RH:∀ (l:Names) (s:ByteArray) (i:Nat),(jo l s i).Perm ((s,i)::l)
 |[],_,_=>aoF _
 |p::l,s,i=>by
  unfold jo;split
  ·exact aoF _
  ·exact ((RH l s i).cons p).trans (List.Perm.swap _ _ _)
theorem wU (l:Names) (s:ByteArray) (i:Nat):(jR l s i).Perm ((s,i)::dS l s):=RH _ _ _
end Go.ak
namespace Go.Sl
open Go Go.MapKept
abbrev kv (e:MapEntry):Value×Value:=(e.key,e.val)
theorem QK {α β:Type}{f:α->β}:∀ {l:List α},(l.map f).Nodup->∀ {x y:α},x∈l->y∈l->f x=f y->x=y
 |[],_,_,_,h,_,_=>by cases h
 |z::l,hn,x,y,hx,hy,e=>by
  simp only [aes,aoC]at hn;rcases ad9.1 hx with h1|h1 <;> rcases ad9.1 hy with h2|h2
  ·rw [h1,h2]
  ·subst h1;exact (hn.1 (adu.2 ⟨y,h2,e.symm⟩)).elim
  ·subst h2;exact (hn.1 (adu.2 ⟨x,h1,e⟩)).elim
  ·exact QK hn.2 h1 h2 e
def rng (d:TypeDesc) (b r:Nat) (l left:List (Value×Value)):aF:=λh=>
 ∃ es clock seen,(es.toList.map kv).Perm l/\Stamped es clock/\(∀ x∈es.toList,IsKey d x.key)/\((es.toList.filter λe => !seen.contains e.born).map kv).Perm left /\
  star (pt b (.map es clock)) (pt r (.mapIter (some b) clock seen clock)) h
section
variable {P:Program}{w0 w:World}{R:List aF}{d:TypeDesc}{b r:Nat}{l left:List (Value×Value)}
theorem Sat.abQ (h:Sat w0 w (rng d b r l left::R)):∃ es clock seen,(es.toList.map kv).Perm l/\Stamped es clock/\(∀ x∈es.toList,IsKey d x.key)/\((es.toList.filter λe => !seen.contains e.born).map kv).Perm left /\
  Sat w0 w (pt b (.map es clock)::pt r (.mapIter (some b) clock seen clock)::R):=by
 obtain ⟨ha,x,hx,p,q,dd,rfl,⟨es,c,se,h1,h2,h3,h4,h5⟩,hq⟩:=h;refine ⟨es,c,se,h1,h2,h3,h4,Sat.star.1 ⟨ha,_,hx,p,q,dd,rfl,h5,hq⟩⟩
theorem Sat.abR {es:Array MapEntry}{clock:Nat}{seen:Array Nat} (h:Sat w0 w (pt b (.map es clock)::pt r (.mapIter (some b) clock seen clock)::R))
  (h1:(es.toList.map kv).Perm l) (h2:Stamped es clock) (h3:∀ x∈es.toList,IsKey d x.key) (h4:((es.toList.filter λe => !seen.contains e.born).map kv).Perm left):Sat w0 w (rng d b r l left::R):=
 (Sat.star.2 h).head λ_ hx=>⟨es,clock,seen,h1,h2,h3,h4,hx⟩
theorem Sat.Ti (h:Sat w0 w (rng d b r l left::R)):Sat w0 w (omap d b l::R):=by
 obtain ⟨es,c,se,h1,h2,h3,h4,h5⟩:=h.abQ;exact (h5.aT.drop).Eu h1 h2 h3
theorem al9 {t k e:TypeId} (ht:P.underlying t=some (.map k e)) (h:Sat w0 w (omap d b l::R)) :
  ∃ r w',(Instr.range t (.map (some b))).run P w=.ok (.pointer (some ⟨r,0,none⟩)) w'/\Sat w0 w' (rng d b r l l::R):=by
 obtain ⟨es,c,h1,h2,h3,h4⟩:=h.Et;have hb:=h4.at;refine ⟨w.heap.size,w.alloc (.mapIter (some b) c #[] c),?_,?_⟩
 ·simp [Instr.range,agu ht,ail hb,Result.andThen]
 ·exact (h4.alloc (.mapIter (some b) c #[] c)).aT.abR h1 h2 h3 (by rw [apJ.2 yF0];exact h1)
theorem al6 (h:Sat w0 w (rng d b r l left::R)) (ty:TypeId) :
  (left=[]/\(Instr.next (.pointer (some ⟨r,0,none⟩)) false ty).run P w=.ok (.tuple #[.bool false]) w) \/
  ∃ k v left' w',left.Perm ((k,v)::left')/\(Instr.next (.pointer (some ⟨r,0,none⟩)) false ty).run P w=.ok (.tuple #[.bool true,k,v]) w'/\Sat w0 w' (rng d b r l left'::R) /\
   (Instr.entry (.pointer (some ⟨r,0,none⟩))).run P w'=.ok (.tuple #[k,v]) w':=by
 obtain ⟨es,c,se,h1,h2,h3,h4,h5⟩:=h.abQ;have hb:=h5.at;have hr:=h5.aT.at;have hne:=h5.ne;have hgr:(getObj r).run P w=.ok (.mapIter (some b) c se c) w:=by simp [getObj,Sem.run,hr]
 have hgb:(getObj b).run P w=.ok (.map es c) w:=ail hb;have hborn:=h2.1;have hold:(es.filter λe => !se.contains e.born).filter (λe=>decide (e.born<c))=es.filter λe => !se.contains e.born:=by
  apply Array.ext';simp only [Array.toList_filter];rw [apJ];intro x hx;simpa using hborn x ((aex.1 hx).1)
 have hnew:(es.filter λe => !se.contains e.born).filter (λe=>decide (e.born>=c))=#[]:=by
  apply Array.ext';simp only [Array.toList_filter];rw [List.filter_eq_nil_iff];intro x hx;have:=hborn x ((aex.1 hx).1);simp;omega
 have hall:(!se.isEmpty && !es.isEmpty && es.all (λe=>decide (e.born>=c)))=false:=by
  by_cases he:es.isEmpty
  ·simp [he]
  ·have:es.all (λe=>decide (e.born>=c))=false:=by
    rw [Array.all_eq_false];have:0<es.size:=by
     rcases Nat.eq_zero_or_pos es.size with h|h
     ·exact absurd yL0 he
     ·exact h
    refine ⟨0,this,?_⟩;have:=hborn es[0] yF0;simp;omega
   simp [this]
 generalize hlf:(es.filter λe => !se.contains e.born)=lf at *
 have J8:lf.toList=es.toList.filter λe => !se.contains e.born:=by rw [<-hlf];simp
 rw [<-J8]at h4
 have key:(Instr.next (.pointer (some ⟨r,0,none⟩)) false ty).run P w =
   (do
    let candidates:=(if lf.isEmpty then #[none] else #[])++lf.map some
    match candidates[<-choose (.mapNext candidates.size)]? with
    |some (some e)=>
     setObj r (.mapIter (some b) c (se.push e.born) c)
     pure (.tuple #[.bool true,e.key,e.val])
    |some none=>pure (.tuple #[.bool false])
    |none=>stuck "Next: no such candidate" : Sem Value).run P w:=by
  unfold Instr.next;simp only [aed,hgr,adW,hgb,hall,aip,ao7,hlf,hold,hnew,Array.append_empty]
  rfl
 by_cases hle:lf=#[]
 ·left;subst hle;have:left=[]:=by simpa using h4.symm
  refine ⟨this,?_⟩;rw [key];simp [choose,Sem.run,Question.forced,Result.andThen]
 ·right;have hpos:0<lf.size:=by
   rcases Nat.eq_zero_or_pos lf.size with h|h
   ·exact absurd yL0 hle
   ·exact h
  have hemp:lf.isEmpty=false:=by simpa using hle
  -- which one
  obtain ⟨i,w1,hi,hw1,hch⟩:∃ i w1,i<lf.size/\(w1=w\/w1=w.drew)/\(choose (.mapNext (lf.map some).size)).run P w=.ok i w1:=by
   by_cases h1:lf.size<=1
   ·refine ⟨0,w,hpos,.inl rfl,?_⟩;simp [choose,Sem.run,Question.forced,h1]
   ·refine ⟨w.tape w.drawn (.mapNext (lf.map some).size)%lf.size,w.drew,anD _ hpos,.inr rfl,?_⟩;simp [choose,Sem.run,Question.forced,h1,Question.cut]
  have h5':Sat w0 w1 (pt b (.map es c)::pt r (.mapIter (some b) c se c)::R):=by
   rcases hw1 with rfl|rfl
   ·exact h5
   ·exact h5.drew
  have hr1:=h5'.aT.at;have hget:(lf.map some)[i]?=some (some lf[i]):=by simp [hi]
  obtain ⟨x,hx⟩:∃ x,x=lf[i]:=⟨_,rfl⟩;have hxm:x∈es.toList.filter λe => !se.contains e.born:=by rw [<-J8,hx];simp
  have QH:x∈es.toList:=(aex.1 hxm).1;have hset:(setObj r (.mapIter (some b) c (se.push x.born) c)).run P w1=.ok () { w1 with heap:=w1.heap.setIfInBounds r (.mapIter (some b) c (se.push x.born) c) }:=by
   simp [setObj,Sem.run,hr1]
  have h6:Sat w0 { w1 with heap:=w1.heap.setIfInBounds r (.mapIter (some b) c (se.push x.born) c) } (pt r (.mapIter (some b) c (se.push x.born) c)::pt b (.map es c)::R):=
   h5'.aT.turn rfl rfl rfl yF0 (heap_set hr1).1 (λi hi _=>(heap_set hr1).2 i hi)
  have hnd:=h2.2.1;refine ⟨x.key,x.val,(es.toList.filter λe => !(se.push x.born).contains e.born).map kv,_,?_,?_,h6.aT.abR h1 h2 h3 (aoF _),?_⟩
  ·
   refine h4.symm.trans ?_;rw [J8];have hbn:∀ y∈es.toList,y.born=x.born->y=x:=by
    intro y hy hyx;exact QK hnd hy QH hyx
   have hmem:x∈es.toList.filter λe => !se.contains e.born:=hxm;have:(es.toList.filter λe => !se.contains e.born).Perm (x::es.toList.filter λe => !(se.push x.born).contains e.born):=by
    have hf:(es.toList.filter λe => !(se.push x.born).contains e.born)=(es.toList.filter λe => !se.contains e.born).filter λe=>e.born != x.born:=by
     rw [List.filter_filter];apply List.filter_congr;intro y _;by_cases hb:y.born=x.born <;> simp [hb]
    rw [hf];have hnd':((es.toList.filter λe => !se.contains e.born).map (·.born)).Nodup:=hnd.sublist ((apx).map _);clear hf h4 J8 hlf key;generalize (es.toList.filter λe => !se.contains e.born)=L at *
    induction L with
    |nil=>cases hmem
    |cons y L ih=>
     simp only [aes,aoC]at hnd';rcases ad9.1 hmem with rfl|hm
     ·rw [apl yF0];rw [apJ.2];intro z hz;simp only [ahV,ne_eq];intro e;exact hnd'.1 (adu.2 ⟨z,hz,e⟩)
     ·have hyx:y.born≠x.born:=λe=>hnd'.1 (adu.2 ⟨x,hm,e.symm⟩);rw [apm (by simpa using hyx)];exact ((ih hm hm hnd'.2).cons y).trans (List.Perm.swap _ _ _)
   simpa using this.map kv
  ·rw [key,hemp];simp only [aip,ao7,Array.empty_append,aed,hch,adW,hget,<-hx,hset,aep]
  ·have Cc:=h6.at;have hb6:=h6.aT.at;have hg1:∀ w',w'.heap[r]?=some (.mapIter (some b) c (se.push x.born) c)->(getObj r).run P w'=.ok (.mapIter (some b) c (se.push x.born) c) w':=by
    intro w' hw;simp [getObj,Sem.run,hw]
   have hfind:es.find? (λe=>e.born==x.born)=some x:=by
    rw [<-Array.find?_toList];cases hf:es.toList.find? (λe=>e.born==x.born) with
    |none=>
     rw [List.find?_eq_none]at hf;exact absurd yF0 (hf x QH)
    |some y=>
     have h7:=List.find?_some hf;have h8:=List.mem_of_find?_eq_some hf;rw [QK hnd h8 QH (by simpa using h7)]
   unfold Instr.entry;simp only [aed,hg1 _ Cc,adW,ail hb6,Array.back?_push,hfind];simp
variable {ops:Array Oper}{rest:List Oper}{o:Oper}{a:Act}{Q:Exit->Act->World->Prop}
theorem UY (hg:o.guard=none) (m:Operand) (t k e:TypeId) (hop:o.op=Op.range t m) (ht:P.underlying t=some (.map k e)) (hm:a.eval m=.map (some b)) (h:Sat w0 w (omap d b l::R))
  (hK:∀ r w',Sat w0 w' (rng d b r l l::R)->wpList P ops Q rest (a.put o.dst (.pointer (some ⟨r,0,none⟩))) w'):wpList P ops Q (o::rest) a w:=by
 refine ae5 hg λK hK'=>?_;obtain ⟨r,w',hr,hs⟩:=al9 (P:=P) ht h;unfold Oper.wp;simp [execOp,hop,hm,hr,Result.andThen];exact hK' _ _ (hK r w' hs)
theorem UW (hg:o.guard=none) (it:Operand) (hop:o.op=Op.next it false) (hit:a.eval it=.pointer (some ⟨r,0,none⟩)) (h:Sat w0 w (rng d b r l left::R))
  (hnil:left=[]->wpList P ops Q rest (a.put o.dst (.tuple #[.bool false])) w)
  (hK:∀ k v left' w',left.Perm ((k,v)::left')->Sat w0 w' (rng d b r l left'::R)->(Instr.entry (.pointer (some ⟨r,0,none⟩))).run P w'=.ok (.tuple #[k,v]) w' ->
   wpList P ops Q rest (a.put o.dst (.tuple #[.bool true,k,v])) w'):wpList P ops Q (o::rest) a w:=by
 refine ae5 hg λK hK'=>?_;unfold Oper.wp;rcases al6 (P:=P) h o.type with ⟨h1,h2⟩|⟨k,v,left',w',h1,h2,h3,h4⟩
 ·simp [execOp,hop,hit,h2,Result.andThen];exact hK' _ _ (hnil h1)
 ·simp [execOp,hop,hit,h2,Result.andThen];exact hK' _ _ (hK k v left' w' h1 h3 h4)
end
end Go.Sl
namespace Go.Proofs.Y
open Go Go.Sl Go.ak Go.MapKept Go.RowKit
section
variable {w0 w:World}{F:List aF}{m fb nb b:Nat}{M:ak}{bs:List Nat}{wv:Value}{s:ByteArray}{l:Names}
theorem Rj (h:Sat w0 w (omap .string b (dR bs l)::F)):(l.map (·.1)).Nodup:=by
 have:=h.Lc;simp only [dR,ahU]at this;rw [List.nodup_iff_pairwise_ne,ahB]at this ⊢;refine this.imp λ{x y} hxy e=>hxy ?_;simp [e]
def BL (bs:List Nat) (l:Names) (s:ByteArray):Value:=match bH l s with|some i=>ptr (bs.getD i 0)|none=> .pointer none
theorem Q9 (h:Sat w0 w (omap .string b (dR bs l)::F)):(Instr.lookup 128 (.map (some b)) (.string s) false).run prog w=.ok (BL bs l s) w:=by
 have hn:=Rj h;rcases ach (P:=prog) underlying128 underlying9 (aiz w) (key:= .string s) trivial h with ⟨v,h1,h2,_⟩|⟨h1,h2,_⟩
 ·rw [h2];obtain ⟨p,hp,e⟩:=adu.1 h1;simp only [Prod.mk.injEq,Value.string.injEq]at e;obtain ⟨a,i⟩:=p;simp only at e;rw [<-e.1,<-e.2,BL,Ep hn hp]
 ·rw [h2,BL];cases hg:bH l s with
  |none=>rfl
  |some i=>exact absurd rfl (h1 (.string s,ptr (bs.getD i 0)) (adu.2 ⟨(s,i),ji hg,rfl⟩))
abbrev aar (m:Nat) (M:ak) (fb nb:Nat) (wv:Value) (bs:List Nat) (F:List aF):List aF:=oV m M fb nb wv::omap .string nb (dR bs M.now)::F
theorem BG (h:Sat w0 w (oV m M fb nb wv::F)) (ho:M.off=true) :
  Calls prog 76 #[ptr m,.string s] w (aN λv w'=>v=.tuple #[.pointer none,errno 12]/\w=w'):=by
 go_enter func76,ntmps76;go_wp2_with (go_at_call 58;refine (Bz h).mono ?_;rintro e w1 ⟨v,rfl,rfl,rfl⟩;rw [ho])
 go_ret2
 exact ⟨_,rfl,rfl,rfl⟩
theorem BF (h:Sat w0 w (aar m M fb nb wv bs F)) (ho:M.off=false) (hn:bH M.now s=none) :
  Calls prog 76 #[ptr m,.string s] w (aN λv w'=>v=.tuple #[.pointer none,errno 9]/\w=w'):=by
 have c2:=h.cellAt 2 _ rfl;have hl:=Q9 (s:=s) h.aT;rw [BL,hn]at hl;have hd:=Bz h;rw [ho]at hd;clear hn ho;go_enter func76,ntmps76;go_wp2_with (go_at_call 58;refine hd.mono ?_;rintro e w1 ⟨v,rfl,rfl,rfl⟩)
 go_ret2
 exact ⟨_,rfl,rfl,rfl⟩
theorem BH {i:Nat} (h:Sat w0 w (aar m M fb nb wv bs F)) (ho:M.off=false) (hn:bH M.now s=some i) :
  Calls prog 76 #[ptr m,.string s] w (aN λv w'=>v=.tuple #[ptr (bs.getD i 0),errno 0]/\w=w'):=by
 have c2:=h.cellAt 2 _ rfl;have hl:=Q9 (s:=s) h.aT;rw [BL,hn]at hl;have hd:=Bz h;rw [ho]at hd;clear hn ho;simp only at hl;generalize bs.getD i 0=fp at *
 go_enter func76,ntmps76;go_wp2_with (go_at_call 58;refine hd.mono ?_;rintro e w1 ⟨v,rfl,rfl,rfl⟩)
 go_ret2
 exact ⟨_,rfl,rfl,rfl⟩
end
section
variable {w0 w:World}{F:List aF}{m fb nb b:Nat}{M:ak}{bs:List Nat}{wv:Value}{s:ByteArray}{l:Names}
theorem KH {l l':Names} (h:l.Perm l'):(dR bs l).Perm (dR bs l'):=h.map _
theorem Xz (hn:(l.map (·.1)).Nodup) (s:ByteArray):(dR bs l).Perm (dR bs (dS l s))/\(∀ p∈dR bs (dS l s),p.1 ≠ .string s)\/∃ v0,(dR bs l).Perm ((.string s,v0)::dR bs (dS l s)):=by
 cases hg:bH l s with
 |none=>
  left;rw [CJ hg];refine ⟨aoF _,λp hp=>?_⟩;obtain ⟨q,hq,rfl⟩:=adu.1 hp;simpa using KT hg q hq
 |some i=>exact .inr ⟨ptr (bs.getD i 0),KH (Rq hn (ji hg))⟩
def pU (bs:List Nat) (x:gU):Value:=if x.to=ByteArray.empty then .pointer none else ptr (bs.getD x.f 0)
theorem OZ {s:ByteArray} (h:s≠ByteArray.empty):s.toList.isEmpty=false:=by
 cases hs:s.toList with
 |cons _ _=>rfl
 |nil=>
  exfalso;apply h;have:s.data.toList=[]:=by rw [<-Lib.toList_data];exact hs
  obtain ⟨⟨d⟩⟩:=s;simp at this;subst this;rfl
theorem DW {s:ByteArray} (h:s=ByteArray.empty):s.toList=[]:=by subst h;rw [Lib.toList_data];rfl
theorem akb (fr to:ByteArray) (q:Value) (h:Sat w0 w (omap .string b (dR bs l)::F)) (l1 l2:List (Value×Value))
  (h1:fr=ByteArray.empty/\l1=dR bs l\/fr≠ByteArray.empty/\((dR bs l).Perm l1/\(∀ p∈l1,p.1 ≠ .string fr)\/∃ v0,(dR bs l).Perm ((.string fr,v0)::l1)))
  (h2:to=ByteArray.empty/\l2=l1\/to≠ByteArray.empty/\∃ l3,(l1.Perm l3/\(∀ p∈l3,p.1 ≠ .string to)\/∃ v0,l1.Perm ((.string to,v0)::l3))/\l2=(.string to,q)::l3) :
  Calls prog 61 #[.agg #[.string fr,.string to,q],.map (some b)] w (aN λ_ w'=>Sat w0 w' (omap .string b l2::F)):=by
 have hb:=(h.alloc (.cells #[.string fr,.string to,q] 135)).aT;go_enter func61,ntmps61;rcases h1 with ⟨hf,h1⟩|⟨hf,h1⟩
 ·have e1:=DW hf;clear hf;subst h1;rcases h2 with ⟨ht,h2⟩|⟨ht,l3,h3,h2⟩
  ·have e2:=DW ht;clear ht;subst h2;go_wp2
   go_end0
   exact ⟨_,rfl,hb.aT.drop⟩
  ·have e2:=OZ ht;clear ht;have H2:=uQ h2;clear h2;have H3:=uQ h3;clear h3;go_wp2_with (at_mapUpdate;go_must (refine UZ (key:= .string to) ah _ _ _ ah underlying128 underlying9 ah ah ah trivial hb l3 H3.o ?_);intro w1 hS1)
   go_end0
   rw [H2.o];exact ⟨_,rfl,hS1.aT.drop⟩
 ·have e1:=OZ hf;clear hf;have H1:=uQ h1;clear h1;rcases h2 with ⟨ht,h2⟩|⟨ht,l3,h3,h2⟩
  ·have e2:=DW ht;clear ht;subst h2;go_wp2_with (at_delete;go_must (refine adF (key:= .string fr) ah _ _ ah underlying128 underlying9 ah ah trivial hb l2 H1.o ?_);intro w1 hS1;have c0:=hS1.aT.cellAt 0 _ rfl;have c1:=hS1.aT.cellAt 1 _ rfl)
   go_end0
   exact ⟨_,rfl,hS1.aT.drop⟩
  ·have e2:=OZ ht;clear ht;have H2:=uQ h2;clear h2;have H3:=uQ h3;clear h3
   go_wp2_with (first
    |(at_delete;go_must (refine adF (key:= .string fr) ah _ _ ah underlying128 underlying9 ah ah trivial hb l1 H1.o ?_);intro w1 hS1;have c0:=hS1.aT.cellAt 0 _ rfl;have c1:=hS1.aT.cellAt 1 _ rfl;have c2:=hS1.aT.cellAt 2 _ rfl)
    |(at_mapUpdate;go_must (refine UZ (key:= .string to) ah _ _ _ ah underlying128 underlying9 ah ah ah trivial hS1 l3 H3.o ?_);intro w2 hS2))
   go_end0
   rw [H2.o];exact ⟨_,rfl,hS2.aT.drop⟩
theorem aj9 (x:gU) (h:Sat w0 w (omap .string b (dR bs l)::F)) :
  Calls prog 61 #[.agg #[.string x.fr,.string x.to,pU bs x],.map (some b)] w (aN λ_ w'=>Sat w0 w' (omap .string b (dR bs (x.on l))::F)):=by
 have hn:=Rj h;obtain ⟨fr,to,f⟩:=x;have key:∀ l1:Names,l1=(if fr=ByteArray.empty then l else dS l fr)->(l1.map (·.1)).Nodup:=by
  rintro l1 rfl;split
  ·exact hn
  ·exact hn.sublist ((apx).map _)
 have:=akb fr to (pU bs ⟨fr,to,f⟩) h (dR bs (if fr=ByteArray.empty then l else dS l fr))
  (if to=ByteArray.empty then dR bs (if fr=ByteArray.empty then l else dS l fr) else (.string to,ptr (bs.getD f 0))::dR bs (dS (if fr=ByteArray.empty then l else dS l fr) to)) ?_ ?_
 ·refine this.mono ?_;rintro e w1 ⟨v,rfl,hS⟩;refine ⟨v,rfl,?_⟩;unfold gU.on;simp only;split
  ·rename_i ht;rw [adU ht]at hS;exact hS
  ·rename_i ht;rw [abL ht]at hS;exact hS.Le (KH (wU _ _ _)).symm
 ·by_cases hf:fr=ByteArray.empty
  ·exact .inl ⟨hf,by rw [adU hf]⟩
  ·exact .inr ⟨hf,by rw [abL hf];exact Xz hn fr⟩
 ·by_cases ht:to=ByteArray.empty
  ·exact .inl ⟨ht,by rw [adU ht]⟩
  ·refine .inr ⟨ht,_,Xz (key _ rfl) to,?_⟩;rw [abL ht];simp [pU,ht]
end
end Go.Proofs.Y
namespace Go.Sl
open Go
section
variable {P:Program}{ops:Array Oper}{Q:Exit->Act->World->Prop}{late:List Nat}{G:World->Prop}
def keeps (late:List Nat) (G:World->Prop) (i:Nat) (w w':World):Prop:=late.contains i=true\/G w'\/w'=w
def jT (P:Program) (ops:Array Oper) (Q:Exit->Act->World->Prop) (late:List Nat) (G:World->Prop):Nat->Array Bool->Act->World->Prop
 |0,l,a,w=>Region.ready .any ops l=[]/\Q .normal a w
 |n+1,l,a,w=>(Region.ready .any ops l=[]->Q .normal a w) /\
  ∀ i∈Region.ready .any ops l,wpOp P ops Q i (λa' w'=>keeps late G i w w'/\jT P ops Q late G n (l.setIfInBounds i true) a' w') a w
theorem UR:∀ (n:Nat) (l:Array Bool) (a:Act) (w:World),jT P ops Q late G n l a w->wpAny P .any ops Q n l a w
 |0,_,_,_,h=>h
 |n+1,_,_,_,h=>⟨h.1,λi hi=>wpOp_mono (λa' w' h'=>UR n _ a' w' h'.2) (h.2 i hi)⟩
theorem eF {id:Nat}{a:Act}{w:World} (late:List Nat) (G:World->Prop) (hm:P.follows .mixedOrders=true)
  (h:jT P ops Q late G ops.size (Array.replicate ops.size false) a w.drew):(Code.region id ops true).wp P Q a w:=
 wp_region_any hm (UR _ _ _ _ h)
def waitsFor (ops:Array Oper) (i:Nat):Nat->Nat->Bool
 |0,_=>false
 |n+1,j=>((ops[j]?).map λo=>(o.after.any λe=>Region.binds .any e && e.on==i) || (o.after.any λe=>Region.binds .any e && waitsFor ops i n e.on)).getD false
def QX (ops:Array Oper) (late:List Nat) (i:Nat):Bool:=late.all λj=>j==i || waitsFor ops i 8 j
def Iw (ops:Array Oper) (l:Array Bool):Prop:=∀ (k:Nat) (ok:Oper),ops[k]?=some ok->l.getD k false=true->∀ e∈ok.after,Region.binds .any e=true->l.getD e.on false=true
def yK (ops:Array Oper) (l:Array Bool):Bool:=(List.range ops.size).all λk => !l.getD k false || ((ops[k]?).map λo=>o.after.all λe => !Region.binds .any e || l.getD e.on false).getD true
theorem acG {l:Array Bool} (h:yK ops l=true):Iw ops l:=by
 intro k ok hk hl e he hb;have hlt:k<ops.size:=(anR.1 hk).1;have h1:=(agt.1 h) k zH0;simp only [hl,hk,aiM,Option.getD_some,Bool.not_true,Bool.false_or]at h1;obtain ⟨m,hm,rfl⟩:=Array.getElem_of_mem he;have h2:=Array.all_eq_true.1 h1 m hm;simpa [hb] using h2
theorem amF {l:Array Bool}{j:Nat} (h:Iw ops l) (hj:j∈Region.ready .any ops l):Iw ops (l.setIfInBounds j true):=by
 obtain ⟨hun,oj,hoj,hall⟩:=mem_ready.1 hj;have hmono:∀ k,l.getD k false=true->(l.setIfInBounds j true).getD k false=true:=by
  intro k hk;by_cases hjk:j=k
  ·subst hjk;rcases aiN j l.size with h'|h'
   ·simp [h']
   ·simp [apr h']at hk
  ·simp only [apo]at hk ⊢;rw [Array.getElem?_setIfInBounds_ne hjk];exact hk
 intro k ok hk hl e he hb;by_cases hjk:j=k
 ·subst hjk;rw [hoj]at hk;cases hk;exact hmono _ (hall e he hb)
 ·refine hmono _ (h k ok hk ?_ e he hb);simp only [apo]at hl ⊢;rw [Array.getElem?_setIfInBounds_ne hjk]at hl;exact hl
theorem adv {l:Array Bool} (hs:Iw ops l) (i:Nat):∀ (n j:Nat),waitsFor ops i n j=true->(∀ oj,ops[j]?=some oj->∀ e∈oj.after,Region.binds .any e=true->l.getD e.on false=true)->l.getD i false=true
 |0,_,h,_=>by cases h
 |n+1,j,h,hj=>by
  unfold waitsFor at h;cases ho:ops[j]? with
  |none=>rw [ho]at h;simp at h
  |some o=>
   rw [ho]at h;simp only [aiM,Option.getD_some,Bool.or_eq_true]at h;rcases h with h|h
   ·obtain ⟨k,hk,h2⟩:=Array.any_eq_true.1 h;simp only [aeW,ako]at h2;rw [<-h2.2];exact hj o ho _ (Array.getElem_mem hk) h2.1
   ·obtain ⟨k,hk,h2⟩:=Array.any_eq_true.1 h;simp only [aeW]at h2;have hl:=hj o ho _ (Array.getElem_mem hk) h2.1;exact adv hs i n _ h2.2 (λok hok=>hs _ ok hok hl)
theorem adD {i:Nat}{oi:Oper}{v:Value}{S:World->Prop} (hi:ops[i]?=some oi) (hsel:∀ (j:Nat) (o:Oper) cs b,ops[j]?=some o->o.op ≠ .select cs b)
  (hQ:∀ c a w,Q (.panic c) (a.put oi.dst v) w->Q (.panic c) a w)
  (hS:∀ j,waitsFor ops i 8 j=false->j≠i->∀ w w',S w->keeps late G j w w'->S w') :
  ∀ (n:Nat) (l:Array Bool) (a:Act) (w:World),Iw ops l ->
   (∀ j oj,ops[j]?=some oj->j≠i->l.getD j true=false->(∀ e∈oj.after,Region.binds .any e=true->e.on≠i)->oi.apart ops oj=true) ->
   i∈Region.ready .any ops l->YieldsIf P ops S oi v a->S w ->
   jT P ops Q late G n (l.setIfInBounds i true) (a.put oi.dst v) w->jT P ops Q late G (n+1) l a w:=by
 intro n
 induction n with
 |zero=>
  intro l a w _ _ hr hy hs H;refine ⟨(λh=>(by rw [h]at hr;cases hr)),λj hj=>?_⟩;by_cases hji:j=i
  ·subst hji;exact hy.wpOp hi hs ⟨.inr (.inr rfl),H⟩
  ·have:=ready_mono hj hji;rw [H.1]at this;cases this
 |succ n ih=>
  intro l a w hsh hfree hr hy hs H;refine ⟨(λh=>(by rw [h]at hr;cases hr)),λj hj=>?_⟩;by_cases hji:j=i
  ·subst hji;exact hy.wpOp hi hs ⟨.inr (.inr rfl),H⟩
  ·have h1:=H.2 j (ready_mono hj hji);obtain ⟨hjun,oj,hoj,hall⟩:=mem_ready.1 hj;have Y0:l.getD i false=false:=by
    have h0:=(mem_ready.1 hr).1;rcases aiN i l.size with h'|h'
    ·simp [h']at h0 ⊢;exact h0
    ·simp [apr h']at h0
   have hnot:∀ e∈oj.after,Region.binds .any e=true->e.on≠i:=λe he hb heq=>by
    have h1:=hall e he hb;rw [heq,Y0]at h1;cases h1
   have ain:waitsFor ops i 8 j=false:=by
    cases hw:waitsFor ops i 8 j with
    |false=>rfl
    |true=>
     have:=adv hsh i 8 j hw (λo ho=>by rw [hoj]at ho;cases ho;exact hall);rw [Y0]at this;cases this
   have h2:=wpOp_putIf hoj (hfree j oj hoj hji hjun hnot) (λcs b=>hsel i oi cs b hi) (λcs b=>hsel j oj cs b hoj) hQ hy h1
   have hfree':∀ k ok,ops[k]?=some ok->k≠i->(l.setIfInBounds j true).getD k true=false ->
     (∀ e∈ok.after,Region.binds .any e=true->e.on≠i)->oi.apart ops ok=true:=λk ok hok hki hun hno=>by
    refine hfree k ok hok hki ?_ hno;by_cases hjk:j=k
    ·subst hjk;exact hjun
    ·rw [getD_set_ne true hjk]at hun;exact hun
   refine wpOp_mono (λa' w' h3=>⟨h3.2.1,ih (l.setIfInBounds j true) a' w' (amF hsh hj) hfree' (ready_mono hr (Ne.symm hji)) h3.1 (hS j ain hji w w' hs h3.2.1) ?_⟩) h2;rw [Array.setIfInBounds_comm _ _ hji];exact h3.2.2
theorem qY {i:Nat}{oi:Oper}{v:Value}{n:Nat}{l:Array Bool}{a:Act}{w:World} (hi:ops[i]?=some oi)
  (hc:(Region.noSelect ops && Region.free .any ops l i && (Region.ready .any ops l).contains i && QX ops late i && yK ops l)=true)
  (hQ:∀ c a w,Q (.panic c) (a.put oi.dst v) w->Q (.panic c) a w) (hy:YieldsIf P ops G oi v a) (hG:G w)
  (h:jT P ops Q late G n (l.setIfInBounds i true) (a.put oi.dst v) w):jT P ops Q late G (n+1) l a w:=by
 simp only [aeW]at hc;obtain ⟨⟨⟨⟨hs,hf⟩,hr⟩,hl⟩,hsh⟩:=hc;refine adD hi (Region.noSelect_spec hs) hQ ?_ n l a w (acG hsh) (Region.free_spec hi hf) (by simpa using hr) hy hG h;intro j hno hji w w' hw hk;rcases hk with hc|hk|rfl
 ·exfalso;have h1:=(agt.1 hl) j (by simpa using hc);rw [hno,Bool.or_false]at h1;exact hji (by simpa using h1)
 ·exact hk
 ·exact hw
theorem yB0 (i:Nat){oi:Oper}{v:Value}{n:Nat}{l:Array Bool}{a:Act}{w:World} (h:jT P ops Q late G n (l.setIfInBounds i true) (a.put oi.dst v) w) (hi:ops[i]?=some oi:=by exact rfl) (hc:(Region.noSelect ops && Region.free .any ops l i && (Region.ready .any ops l).contains i && QX ops late i && yK ops l)=true:=by kernel_rfl) (hQ:∀ c a w,Q (.panic c) (a.put oi.dst v) w->Q (.panic c) a w:=by exact λ_ _ _ h=>h) (hG:G w:=by assumption) (hy:YieldsIf P ops G oi v a:=by refine Or.inl ⟨by rfl,?_⟩;(intro wq hq;go_split_ands;go_simp);first|done|(with_reducible rfl)):jT P ops Q late G (n+1) l a w:=qY hi hc hQ hy hG h
theorem fK {i:Nat}{oi:Oper}{v:Value}{n:Nat}{l:Array Bool}{a:Act}{w:World} (hi:ops[i]?=some oi)
  (hc:(Region.noSelect ops && Region.free .any ops l i && (Region.ready .any ops l).contains i && yK ops l)=true)
  (hQ:∀ c a w,Q (.panic c) (a.put oi.dst v) w->Q (.panic c) a w) (hy:Yields P ops oi v a)
  (h:jT P ops Q late G n (l.setIfInBounds i true) (a.put oi.dst v) w):jT P ops Q late G (n+1) l a w:=by
 simp only [aeW]at hc;obtain ⟨⟨⟨hs,hf⟩,hr⟩,hsh⟩:=hc;exact adD (S:=λ_=>True) hi (Region.noSelect_spec hs) hQ (λ_ _ _ _ _ _ _=>trivial) n l a w (acG hsh) (Region.free_spec hi hf) (by simpa using hr) hy.yieldsIf trivial h
theorem yA0 (i:Nat){oi:Oper}{v:Value}{n:Nat}{l:Array Bool}{a:Act}{w:World} (h:jT P ops Q late G n (l.setIfInBounds i true) (a.put oi.dst v) w) (hi:ops[i]?=some oi:=by exact rfl) (hc:(Region.noSelect ops && Region.free .any ops l i && (Region.ready .any ops l).contains i && yK ops l)=true:=by kernel_rfl) (hQ:∀ c a w,Q (.panic c) (a.put oi.dst v) w->Q (.panic c) a w:=by exact λ_ _ _ h=>h) (hy:Yields P ops oi v a:=by refine Or.inl ⟨by rfl,?_⟩;(intro wq;go_simp);first|done|(with_reducible rfl)):jT P ops Q late G (n+1) l a w:=fK hi hc hQ hy h
theorem qX {i:Nat}{o:Oper}{n:Nat}{l:Array Bool}{a:Act}{w:World} (ho:ops[i]?=some o) (hr:Region.ready .any ops l=[i])
  (h:∀ K:Act->World->Prop,(∀ a' w',keeps late G i w w'->jT P ops Q late G n (l.setIfInBounds i true) a' w'->K a' w') ->
   if Region.wanted o (yielded ops a.tmps)=true then Oper.wp P o a w K Q else K (a.put o.dst undef) w):jT P ops Q late G (n+1) l a w:=by
 refine ⟨(λh0=>by rw [hr]at h0;cases h0),λj hj=>?_⟩;rw [hr]at hj;obtain rfl:j=i:=by simpa using hj
 have:=h _ (λa' w' h1 h2=>And.intro h1 h2);unfold wpOp;rw [ho];show if Region.wanted o (yielded ops a.tmps)=true then _ else _
 split
 ·rename_i hw;rw [adU hw]at this;exact .inl this
 ·rename_i hw;rw [abL hw]at this;exact this
theorem dX {n:Nat}{l:Array Bool}{a:Act}{w:World} (hr:Region.ready .any ops l=[]) (h:Q .normal a w):jT P ops Q late G n l a w:=by
 cases n with
 |zero=>exact ⟨hr,h⟩
 |succ n=>exact ⟨λ_=>h,(by rw [hr];intro i hi;cases hi)⟩
end
end Go.Sl
namespace Go.Proofs.Y
open Go Go.Sl Go.ak Go.MapKept Go.RowKit
attribute [local go_sem ↓] Go.wp_at_zero Go.wp_at_succ
section
variable {w0 w:World}{F:List aF}{m fb nb b:Nat}{M:ak}{bs:List Nat}{wv:Value}{s:ByteArray}{l:Names}
theorem aiB:(prog.info? 135).map (λi=>(i.zero,i.size,i.bytes))=some (some (.agg #[.string ByteArray.empty,.string ByteArray.empty,.pointer none]),3,40):=by kernel_rfl
theorem ZW (x:gU) (h:Sat w0 w (oV m M fb nb wv::omap .string nb (dR bs M.now)::aC 135 3 wv (M.waits.flatMap (oG bs))::F)) (hw:M.waits.length<=1099511627776) :
  Calls prog 83 #[ptr m,.agg #[.string x.fr,.string x.to,pU bs x]] w
   (aN λ_ w'=>∃ wv',Sat w0 w' (oV m (M.link x) fb nb wv'::omap .string nb (dR bs (M.link x).now)::aC 135 3 wv' ((M.link x).waits.flatMap (oG bs))::F)):=by
 obtain ⟨i,hi,hz0,hz1,hz2⟩:=info_parts aiB;have hb:=(h.alloc (.cells #[.string x.fr,.string x.to,pU bs x] 135));have hon:=aj9 (w:=(w.alloc (.cells #[.string x.fr,.string x.to,pU bs x] 135)).drew) x hb.fE.drew;have c2:=hb.aT.cellAt 2 _ rfl;have b0:=hb.cellAt 0 _ rfl;have b1:=hb.cellAt 1 _ rfl;have b2:=hb.cellAt 2 _ rfl;have hoc:∀ u∈(#[.string x.fr,.string x.to,pU bs x]:Array Value).toList,u.oneCell'=true:=by
  intro u hu;simp only [ad9,aiR,apW]at hu;rcases hu with rfl|rfl|rfl
  ·rfl
  ·rfl
  ·unfold pU;split <;> rfl
 have hlen:(M.waits.flatMap (oG bs)).length=M.waits.length*3:=by
  rw [List.length_flatMap];simp [oG,List.map_const']
 have h63:(M.waits.flatMap (oG bs)).length+3<=maxLen:=by unfold maxLen;omega
 have hby:((M.waits.flatMap (oG bs)).length+3)*i.bytes<=140737488355328:=by rw [hz2];omega
 have hcs:oG bs x=(#[.string x.fr,.string x.to,pU bs x]:Array Value).toList:=rfl;have hfin:∀ wv',oV m (M.link x) fb nb wv'=pt m (.cells #[.int .i64 M.room,.map (some fb),.map (some nb),wv',.bool M.armed,.int .i64 M.left,.bool M.off] 131 (0,0)):=λ_=>rfl;have Hcs:=uQ hcs;clear hcs;have Hlen:=uQ hlen;clear hlen;have bF:=uQ hfin;clear hfin;generalize pU bs x=q at *
 go_enter func83,ntmps83;go_wp2_with fail;refine eF [5] (λw'=>w'.cell? ⟨m,2,none⟩=some (.map (some nb))/\w'.cell? ⟨w.heap.size,0,none⟩=some (.string x.fr)/\w'.cell? ⟨w.heap.size,1,none⟩=some (.string x.to)/\w'.cell? ⟨w.heap.size,2,none⟩=some q) au ?_;have hG:=And.intro c2 (And.intro b0 (And.intro b1 b2));refine yB0 0 ?_;refine yA0 1 ?_;refine yA0 2 ?_;refine yA0 3 ?_;refine yB0 4 ?_;refine qX (i:=5) rfl au (λK hK=>?_);go_simp;refine hon.mono ?_;rintro e w1 ⟨v,rfl,hS1⟩;refine hK _ _ (.inl rfl) ?_;clear hK K hG;refine dX au ?_;have hS2:=hS1.fE;have d3:=hS2.cellAt 3 _ rfl;have b0:=hS1.aT.cellAt 0 _ rfl;have b1:=hS1.aT.cellAt 1 _ rfl;have b2:=hS1.aT.cellAt 2 _ rfl;clear hS2;go_wp2_with fail
 refine eF [7,8,9,10] (λw'=>w'.cell? ⟨m,3,none⟩=some wv/\w'.cell? ⟨w.heap.size,0,none⟩=some (.string x.fr)/\w'.cell? ⟨w.heap.size,1,none⟩=some (.string x.to)/\w'.cell? ⟨w.heap.size,2,none⟩=some q) au ?_;have hG:=And.intro d3 (And.intro b0 (And.intro b1 b2));refine yA0 0 ?_;refine yA0 1 ?_;refine yA0 2 ?_;refine yA0 3 ?_;refine yB0 4 ?_;refine yB0 5 ?_;refine qX (i:=6) rfl au (λK hK=>?_);go_simp;have h7:=hS1.drew.alloc (.cells #[.string x.fr,.string x.to,q] 135);have d3:=h7.iw.cellAt 3 _ rfl;have b0:=h7.fE.cellAt 0 _ rfl;have b1:=h7.fE.cellAt 1 _ rfl;have b2:=h7.fE.cellAt 2 _ rfl;refine hK _ _ (.inr <| .inl <| And.intro d3 (And.intro b0 (And.intro b1 b2))) ?_;clear hK K;refine qX (i:=7) rfl au (λK hK=>?_);refine step_append (w0:=w0) ah _ _ _ ah _ i _ underlying129 hi hz0 hz1 ah oQ ah ah hoc (h7.rW) (Ez _ _ _ 3 1 1 ah) h63 hby ?_;intro v2 w2 hS2 hne
 obtain ⟨g2,n2,k2,rfl⟩:=hne yF0;have e3:=hS2.rW.cellAt 3 _ rfl;have g3:=hS2.rW.oC 3;have b0:=hS2.iw.cellAt 0 _ rfl;have b1:=hS2.iw.cellAt 1 _ rfl;have b2:=hS2.iw.cellAt 2 _ rfl;refine hK _ _ (.inl rfl) ?_;clear hK K;refine yA0 8 ?_;refine yA0 9 ?_;refine qX (i:=10) rfl au (λK hK=>?_);go_simp;refine hK _ _ (.inl rfl) ?_;clear hK K;refine dX au ?_;go_wp2
 go_end0
 refine ⟨_,rfl,.slice (some ⟨g2,0,none⟩) n2 k2,?_⟩;have h9:=hS2.rW.set 3 (.slice (some ⟨g2,0,none⟩) n2 k2);rw [bF.o];unfold ak.link;simp only [aeB,aen,aiq,aei];rw [Hcs.o];exact h9.sel 5 [0,3,1] rfl rfl
end
section
variable {w0 w:World}{F:List aF}{m fb nb b:Nat}{M:ak}{bs:List Nat}{wv v:Value}{s:ByteArray}{l:Bs}
theorem aP (l:Bs):(aB l).length=l.length:=by simp [aB]
theorem vK (l:Bs):∀ u∈aB l,u.oneCell'=true:=by
 intro u hu;obtain ⟨b,_,rfl⟩:=adu.1 hu
 rfl
theorem Bo (l k:Bs):aB (l++k)=aB l++aB k:=by simp [aB]
theorem afZ (l:Bs) (n:Nat):aB (l.take n)=(aB l).take n:=by simp [aB,apY]
theorem xW (h:Sat w0 w F) (hr:aW 1 v (aB l) w) (hl:l.length<=140737488355328) :
  Calls prog 74 #[v] w (aN λv' w'=>Sat w0 w' (aY v' l::F)/\∃ a n c,v'=.slice a n c):=by
 obtain ⟨a,n,c,rfl,hn,hc⟩:=hr;rw [aP,aeo]at hn;subst hn;cases a with
 |none=>
  have:l=[]:=by
   cases l with
   |nil=>rfl
   |cons x l=>obtain ⟨b,hb,_⟩:=hc 0 _ rfl;cases hb
  subst this;refine (Tryz.bytes_Clone_nil 0 c w).mono ?_;rintro e w1 ⟨rfl,rfl⟩;exact ⟨_,rfl,Sat.dO.2 h,_,_,_,rfl⟩
 |some a=>
  refine (Tryz.bytes_Clone_at a l.length c (l.map λb=>(b.toNat:Int)) w yF0 hl ?_).mono ?_
  ·intro i hi;obtain ⟨b,hb,hx⟩:=hc i (.int .u8 (l[i]).toNat) (by simp [aB,hi]);cases hb;rw [hx];simp [hi]
  ·rintro e w1 ⟨v',rfl,ho,hne,hb⟩;obtain ⟨hlen,hv|⟨g,cap,cur,rfl,hbg,hg,hnc,hcm,hcs,htk⟩⟩:=ho
   ·exact absurd hv.1 hne
   ·refine ⟨_,rfl,?_,_,_,_,rfl⟩;refine (h.fresh hb.os hb.tape hb.output hb.size hbg hg hb.block).kU ?_ hnc oQ hcm ?_
    ·rw [aP];omega
    ·rw [htk];simp [aB]
def Pe (c:gX) (bv:Value):Value:= .agg #[.bool c.cut,.int .i64 c.n,bv]
theorem af7 (n:Nat) (bv:Value) (h:Sat w0 w (aY v l::F)) (hn:n<=l.length) :
  Calls prog 130 #[.agg #[.bool true,.int .i64 n,bv],v] w (aN λv' w'=>Sat w0 w' (aY v' (l.take n)::F)/\∃ a n c,v'=.slice a n c):=by
 have hb:=(h.alloc (.cells #[.bool true,.int .i64 n,bv] 182));have b0:=hb.cellAt 0 _ rfl;have b1:=hb.cellAt 1 _ rfl;rcases hb.aT.kL with ⟨rfl,hl,h'⟩|⟨g,m,cap,cs,rfl,hl,hm,hc,hcm,htk,hp⟩
 ·have hl0:l=[]:=by simpa [aB] using hl
  subst hl0;obtain rfl:n=0:=by simpa using hn
  go_enter func130,ntmps130;go_wp2;go_ret;exact ⟨_,rfl,Sat.dO.2 h'.drop,_,_,_,rfl⟩
 ·rw [aP,aeo]at hl;subst hl;have e1:(n:Int)<=(cap:Int):=by omega
  have e0:(0:Int)<=(n:Int):=by omega
  have dP:=uQ htk;clear htk;have hfin:Sat w0 (w.alloc (.cells #[.bool true,.int .i64 n,bv] 182)) (aY (.slice (some ⟨g,0,none⟩) n n) (l.take n)::F):=by
   refine (hp.aT.drop).kU ?_ (ab1 _) oQ oQ ?_
   ·rw [aP,adt];omega
   ·rw [afZ,<-dP.o];simp [apO,apg hn]
  go_enter func130,ntmps130;go_wp2;go_ret;exact ⟨_,rfl,hfin,_,_,_,rfl⟩
theorem uO:∃ i:TypeInfo,prog.info? 5=some i/\i.zero=some (.int .u8 0)/\i.size=1/\i.bytes=1:=by
 obtain ⟨i,hi,hz0,hz1,hz2⟩:=info_parts info8;exact ⟨i,hi,hz0,hz1,hz2⟩
theorem af5 (n:Int) (bv:Value) (cb:Bs) (h:Sat w0 w (aY v l::F)) (hr:Ro w0 F (aW 1 bv (aB cb))) (hl:l.length+cb.length<=140737488355328) (hbv:∃ a n c,bv=.slice a n c) :
  Calls prog 130 #[.agg #[.bool false,.int .i64 n,bv],v] w (aN λv' w'=>Sat w0 w' (aY v' (l++cb)::F)/\∃ a n c,v'=.slice a n c):=by
 obtain ⟨i,hi,hz0,hz1,hz2⟩:=uO;have hb:=(h.alloc (.cells #[.bool false,.int .i64 n,bv] 182));have b0:=hb.cellAt 0 _ rfl;have b2:=hb.cellAt 2 _ rfl;have hcl:=xW hb.drew hb.drew.aT.rd oQ;have h63:(aB l).length+(aB cb).length<=maxLen:=by rw [aP,aP];unfold maxLen;omega
 have hby:((aB l).length+(aB cb).length)*i.bytes<=140737488355328:=by rw [aP,aP,hz2];omega
 obtain ⟨ba,bn,bc,rfl⟩:=hbv;go_enter func130,ntmps130;go_wp2_with fail;refine eF [4,5] (λw'=>w'.cell? ⟨w.heap.size,2,none⟩=some (.slice ba bn bc)) au ?_;refine yA0 0 ?_;refine yA0 2 ?_;refine yB0 3 ?_;refine qX (i:=1) rfl au (λK hK=>?_);go_simp;refine hcl.mono ?_;rintro e w1 ⟨v1,rfl,hS1,a1,n1,c1,rfl⟩;have b2:=hS1.aT.cellAt 2 _ rfl;refine hK _ _ (.inr (.inl b2)) ?_;clear hK K;refine qX (i:=4) rfl au (λK hK=>?_);refine step_append (w0:=w0) ah _ _ _ ah _ i _ underlying59 hi hz0 hz1 ah oQ ah ah (vK cb) hS1 (hr _ hS1.drop.drop.drop) h63 hby ?_;intro v2 w2 hS2 _;refine hK _ _ (.inl rfl) ?_;clear hK K;refine yA0 5 ?_;refine dX au ?_;go_wp2;go_ret;have h9:=hS2.sel 3 [0] rfl rfl;have hsh:=hS2.rd;obtain ⟨a2,n2,c2,rfl,_⟩:=hsh;refine ⟨_,rfl,?_,_,_,_,rfl⟩;unfold aY;rw [Bo];exact h9
end
section
variable {w0 w:World}{F:List aF}{m fb nb b:Nat}{M:ak}{bs:List Nat}{wv v bv:Value}{s:ByteArray}{l:Bs}{f:aX}
def WZ (c:gX) (l:Bs):Prop:=(c.cut=true->c.n<=l.length)/\(c.cut=false->l.length+c.b.length<=140737488355328)
theorem af6 (c:gX) (h:Sat w0 w (aY v l::F)) (hr:Ro w0 F (aW 1 bv (aB c.b))) (hbv:∃ a n c,bv=.slice a n c) (hc:WZ c l) :
  Calls prog 130 #[Pe c bv,v] w (aN λv' w'=>Sat w0 w' (aY v' (c.on l)::F)/\∃ a n c,v'=.slice a n c):=by
 obtain ⟨cut,n,cb⟩:=c;cases cut
 ·exact af5 n bv cb h hr (hc.2 rfl) hbv
 ·exact af7 n bv h (hc.1 rfl)
theorem O6 (h:Sat w0 w (aY v l::F)):∃ a n c,v=.slice a n c:=by
 obtain ⟨a,n,c,rfl,_⟩:=h.rd;exact ⟨a,n,c,rfl⟩
theorem Ro.aY {R:List aF} (v:Value) (l:Bs):Ro w0 (aY v l::R) (aW 1 v (aB l)):=λw hw=>hw.rd
theorem aiy:(prog.info? 182).map (λi=>(i.zero,i.size,i.bytes))=some (some (.agg #[.bool false,.int .i64 0,.slice none 0 0]),3,40):=by kernel_rfl
theorem Xa (ws:List (gX×Value)) (p:gX×Value):pG (ws++[p])=star (pG ws) (aY p.2 p.1.b):=by
 unfold pG;rw [aef,qx];simp [EK]
theorem agD {fv nv:Value}{ws:List (gX×Value)} (c:gX) (h:Sat w0 w (E8 b f fv nv wv ws++aY bv c.b::F)) (hws:ws.map (·.1)=f.waits) (hc:WZ c f.now) (hw:f.waits.length<=1099511627776) :
  Calls prog 90 #[ptr b,Pe c bv] w (aN λ_ w'=>Sat w0 w' (lI b (f.do c)::F)):=by
 obtain ⟨i,hi,hz0,hz1,hz2⟩:=info_parts aiy;obtain ⟨ba,bn,bc,rfl⟩:=O6 (h.sel 6 [5] rfl rfl);have hb:=h.alloc (.cells #[.bool c.cut,.int .i64 c.n,.slice ba bn bc] 182);have hb':Sat w0 _ (aY nv f.now::aY (.slice ba bn bc) c.b::pt w.heap.size _::Ea b fv nv wv::aY fv f.fast::aC 182 3 wv (ws.flatMap mO)::pG ws::F):=hb.sel 7 [3,6,0,1,2,4,5] rfl rfl;have hon:=af6 c hb'.drew (Ro.aY _ _) ⟨_,_,_,rfl⟩ hc;obtain ⟨na,nn,nc,rfl⟩:=O6 hb';have b0:=hb.cellAt 0 _ rfl;have b1:=hb.cellAt 1 _ rfl;have b2:=hb.cellAt 2 _ rfl;have c1:=hb.aT.cellAt 1 _ rfl;have hoc:∀ u∈(#[.bool c.cut,.int .i64 c.n,.slice ba bn bc]:Array Value).toList,u.oneCell'=true:=by
  intro u hu;simp only [ad9,aiR,apW]at hu;rcases hu with rfl|rfl|rfl <;> rfl
 have hwl:ws.length=f.waits.length:=by rw [<-hws];simp
 have hlen:(ws.flatMap mO).length=f.waits.length*3:=by
  rw [List.length_flatMap,<-hwl];simp [mO,List.map_const']
 have h63:(ws.flatMap mO).length+3<=maxLen:=by unfold maxLen;omega
 have hby:((ws.flatMap mO).length+3)*i.bytes<=140737488355328:=by rw [hz2];omega
 have Hlen:=uQ hlen;clear hlen;have Hws:=uQ hws;clear hws;have Hwl:=uQ hwl;clear hwl;unfold Pe at *
 go_enter func90,ntmps90;go_wp2_with fail;refine eF [6,7,8,9] (λw'=>w'.cell? ⟨b,1,none⟩=some (.slice na nn nc)/\w'.cell? ⟨w.heap.size,0,none⟩=some (.bool c.cut)/\w'.cell? ⟨w.heap.size,1,none⟩=some (.int .i64 c.n)/\w'.cell? ⟨w.heap.size,2,none⟩=some (.slice ba bn bc)) au ?_;have hG:=And.intro c1 (And.intro b0 (And.intro b1 b2));refine yA0 0 ?_;refine yB0 1 ?_;refine yA0 2 ?_;refine yA0 3 ?_;refine yA0 4 ?_;refine yB0 5 ?_;refine qX (i:=6) rfl au (λK hK=>?_);go_simp;refine hon.mono ?_;rintro e w1 ⟨v1,rfl,hS1,a1,n1,k1,rfl⟩;refine hK _ _ (.inl rfl) ?_;clear hK K;refine yA0 7 ?_;refine yA0 8 ?_;have d1:=hS1.iw.cellAt 1 _ rfl;have g1:=hS1.iw.oC 1;refine qX (i:=9) rfl au (λK hK=>?_);go_simp;refine hK _ _ (.inl rfl) ?_;clear hK K hG;refine dX au ?_;have hS2:=hS1.iw.set 1 (.slice a1 n1 k1);generalize w1.setCell _ _=w2 at *
 clear d1 g1;have d2:=hS2.cellAt 2 _ rfl;have b0:=hS2.iw.cellAt 0 _ rfl;have b1:=hS2.iw.cellAt 1 _ rfl;have b2:=hS2.iw.cellAt 2 _ rfl;go_wp2_with fail;refine eF [7,8,9,10] (λw'=>w'.cell? ⟨b,2,none⟩=some wv/\w'.cell? ⟨w.heap.size,0,none⟩=some (.bool c.cut)/\w'.cell? ⟨w.heap.size,1,none⟩=some (.int .i64 c.n)/\w'.cell? ⟨w.heap.size,2,none⟩=some (.slice ba bn bc)) au ?_;have hG:=And.intro d2 (And.intro b0 (And.intro b1 b2));refine yA0 0 ?_;refine yA0 1 ?_;refine yA0 2 ?_;refine yA0 3 ?_;refine yB0 4 ?_;refine yB0 5 ?_;refine qX (i:=6) rfl au (λK hK=>?_);go_simp;have h7:=hS2.drew.alloc (.cells #[.bool c.cut,.int .i64 c.n,.slice ba bn bc] 182);have d2:=h7.aT.cellAt 2 _ rfl;have b0:=h7.rW.cellAt 0 _ rfl;have b1:=h7.rW.cellAt 1 _ rfl;have b2:=h7.rW.cellAt 2 _ rfl;refine hK _ _ (.inr <| .inl <| And.intro d2 (And.intro b0 (And.intro b1 b2))) ?_;clear hK K
 have h8:Sat w0 _ (aC 182 3 wv (ws.flatMap mO)::Ea b fv (.slice a1 n1 k1) wv::aY (.slice a1 n1 k1) (c.on f.now)::aY (.slice ba bn bc) c.b::aY fv f.fast::pG ws::pt w.heap.size _::F):=h7.sel 8 [6,1,2,3,5,7,4] rfl rfl;refine qX (i:=7) rfl au (λK hK=>?_);refine step_append (w0:=w0) ah _ _ _ ah _ i _ underlying155 hi hz0 hz1 ah oQ ah ah hoc h8 (Ez _ _ _ 3 1 1 ah) h63 hby ?_;intro v2 w3 hS3 hne;obtain ⟨g2,n2,k2,rfl⟩:=hne yF0;have e2:=hS3.aT.cellAt 2 _ rfl;have g3:=hS3.aT.oC 2;have b0:=(hS3.sel 7 [6] rfl rfl).cellAt 0 _ rfl;have b1:=(hS3.sel 7 [6] rfl rfl).cellAt 1 _ rfl;have b2:=(hS3.sel 7 [6] rfl rfl).cellAt 2 _ rfl;refine hK _ _ (.inl rfl) ?_;clear hK K;refine yA0 8 ?_;refine yA0 9 ?_;refine qX (i:=10) rfl au (λK hK=>?_);go_simp;refine hK _ _ (.inl rfl) ?_;clear hK K;refine dX au ?_;go_wp2
 go_end0
 refine ⟨_,rfl,?_⟩;have h9:=hS3.aT.set 2 (.slice (some ⟨g2,0,none⟩) n2 k2);refine lI.shut (fv:=fv) (nv:= .slice a1 n1 k1) (wv:= .slice (some ⟨g2,0,none⟩) n2 k2) (ws:=ws++[(c,.slice ba bn bc)]) ?_ ?_
 ·rw [aef,Hws.o];rfl
 ·have h10:Sat w0 _ (aY (.slice ba bn bc) c.b::pG ws::Ea b fv (.slice a1 n1 k1) (.slice (some ⟨g2,0,none⟩) n2 k2)::aY fv f.fast::aY (.slice a1 n1 k1) (c.on f.now)::aC 182 3 (.slice (some ⟨g2,0,none⟩) n2 k2) (ws.flatMap mO++[.bool c.cut,.int .i64 c.n,.slice ba bn bc])::F):=h9.sel 7 [3,5,0,4,2,1] rfl rfl;have h11:=Sat.star.2 h10.aT;rw [<-Xa ws (c,.slice ba bn bc)]at h11;unfold E8;rw [aeB];simp only [aen,aiq,aei,mO];exact h11.sel 5 [1,2,3,4,0] rfl rfl
end
section
variable {w:World}{s:ByteArray}
theorem Yy (c:UInt8):l9 c=decide ((97<=(c.toNat:Int)/\(c.toNat:Int)<=122)\/(48<=(c.toNat:Int)/\(c.toNat:Int)<=57)\/(c.toNat:Int)=46\/(c.toNat:Int)=45):=by
 rw [aoT];have e1:∀ k:UInt8,(c==k)=decide (c.toNat=k.toNat):=λk=>by
  rw [aoT];simp [UInt8.toNat_inj]
 simp only [l9,Bool.or_eq_true,aeW,ad5,UInt8.le_iff_toNat_le,e1];simp only [UInt8.reduceToNat];omega
theorem V8 (l:List UInt8) (k:Nat) (h:k<l.length):(l.take (k+1)).all l9=((l.take k).all l9 && l9 l[k]):=by
 rw [afB h,ajk];simp
theorem Yz (s:ByteArray) (w:World) (hs:s.size<=9223372036854775807) :
  Calls prog 81 #[.string s] w (aN λv w'=>v=.bool (good s)/\w=w'):=by
 go_enter func81,ntmps81;by_cases h1:(s.size:Int)<1
 ·go_wp2;go_ret;exact ⟨.bool false,rfl,by rw [show good s=false from by unfold good;simp;omega],rfl⟩
 by_cases h2:24<(s.size:Int)
 ·have h1':decide ((s.size:Int)<1)=false:=by simpa using h1
  go_wp2;go_ret;exact ⟨.bool false,rfl,by rw [show good s=false from by unfold good;simp;omega],rfl⟩
 have h1':decide ((s.size:Int)<1)=false:=by simpa using h1
 have h2':decide (24<(s.size:Int))=false:=by simpa using h2
 go_wp2
 go_loop [15] (λi=>∃ k:Nat,k<=s.size/\i=.int .i64 k/\(s.data.toList.take k).all l9=true) (λi=>s.size-(intOf i).toNat)
 case atStart=>exact ⟨0,ad4 _,rfl,by simp⟩
 case round=>
  obtain ⟨k,hk,rfl,hall⟩:=hrel;have ug:=uQ hall;clear hall;by_cases hlt:k<s.size
  ·have Hc:=uQ (Yy s[k]);have Hn:=uQ (V8 s.data.toList k zH0);have hcls:(s[k].toNat:Int)<=44\/(s[k].toNat:Int)=45\/(s[k].toNat:Int)=46\/(s[k].toNat:Int)=47\/(48<=(s[k].toNat:Int)/\(s[k].toNat:Int)<=57)\/(58<=(s[k].toNat:Int)/\(s[k].toNat:Int)<=96)\/(97<=(s[k].toNat:Int)/\(s[k].toNat:Int)<=122)\/123<=(s[k].toNat:Int):=by omega
   have hbad:l9 s[k]=false->good s=false:=by
    intro hgc;unfold good;have:s.data.toList.all l9=false:=by
     rw [List.all_eq_false];exact ⟨s[k],by exact apn zH0,by simpa using hgc⟩
    rw [this];simp
   have nV:=uQ hbad;clear hbad;have hgd:l9 s[k]=true->(s.data.toList.take (k+1)).all l9=true:=by
    intro hgc;rw [Hn.o,ug.o];exact hgc
   have xH:=uQ hgd;clear hgd;rcases hcls with g1|g1|g1|g1|⟨g1,g2⟩|⟨g1,g2⟩|⟨g1,g2⟩|g1
   ·have OX:((s[k].toNat:Int)==46)=false:=by rw [ad3];omega
    have OW:((s[k].toNat:Int)==45)=false:=by rw [ad3];omega
    go_wp2;go_ret;exact ⟨.bool false,rfl,by rw [nV.o yH0],rfl⟩
   ·go_wp2
    go_round
    case rel=>exact ⟨k+1,by omega,by go_num,xH.o yH0⟩
    case measure=>simp [intOf];omega
   ·go_wp2
    go_round
    case rel=>exact ⟨k+1,by omega,by go_num,xH.o yH0⟩
    case measure=>simp [intOf];omega
   ·have OX:((s[k].toNat:Int)==46)=false:=by rw [ad3];omega
    have OW:((s[k].toNat:Int)==45)=false:=by rw [ad3];omega
    go_wp2;go_ret;exact ⟨.bool false,rfl,by rw [nV.o yH0],rfl⟩
   ·go_wp2
    go_round
    case rel=>exact ⟨k+1,by omega,by go_num,xH.o yH0⟩
    case measure=>simp [intOf];omega
   ·have b57:decide ((s[k].toNat:Int)<=57)=false:=by simp;omega
    have OX:((s[k].toNat:Int)==46)=false:=by rw [ad3];omega
    have OW:((s[k].toNat:Int)==45)=false:=by rw [ad3];omega
    go_wp2;go_ret;exact ⟨.bool false,rfl,by rw [nV.o yH0],rfl⟩
   ·go_wp2
    go_round
    case rel=>exact ⟨k+1,by omega,by go_num,xH.o yH0⟩
    case measure=>simp [intOf];omega
   ·have aoE:decide ((s[k].toNat:Int)<=122)=false:=by simp;omega
    have b57:decide ((s[k].toNat:Int)<=57)=false:=by simp;omega
    have OX:((s[k].toNat:Int)==46)=false:=by rw [ad3];omega
    have OW:((s[k].toNat:Int)==45)=false:=by rw [ad3];omega
    go_wp2;go_ret;exact ⟨.bool false,rfl,by rw [nV.o yH0],rfl⟩
  ·go_wp2;go_ret;refine ⟨.bool true,rfl,?_,rfl⟩;have:k=s.size:=by omega
   subst this;have:=ug.o;rw [adZ yF0]at this;rw [show good s=true from by unfold good;simp only [this];simp;omega]
end
end Go.Proofs.Y
namespace Go.ak
structure aX.Ok (K:Nat) (f:aX):Prop where
 now:f.now=f.at f.waits.length
 cuts:∀ k c,f.waits[k]?=some c->c.cut=true->c.n<=(f.at k).length
 size:∀ k,k<=f.waits.length->(f.at k).length<=16777216
 budget:f.waits.length<=K
theorem aX.FY (f:aX) (c:gX) (k:Nat) (h:k<=f.waits.length):(f.do c).at k=f.at k:=by
 unfold aX.at aX.do;simp only;rw [aeT h]
theorem aX.y9 (f:aX) (k:Nat) (c:gX) (h:f.waits[k]?=some c):f.at (k+1)=c.on (f.at k):=by
 unfold aX.at;obtain ⟨hlt,rfl⟩:=acZ.1 h;rw [afB hlt,apd]
 rfl
theorem aX.OT (f:aX) (c:gX) (hn:f.now=f.at f.waits.length):(f.do c).at (f.waits.length+1)=c.on f.now:=by
 rw [aX.y9 _ _ c (by simp [aX.do]),aX.FY _ _ _ (ab1 _),hn]
theorem aX.Ok.uT {K:Nat}{f:aX} (h:f.Ok K):f.now.length<=16777216:=by
 rw [h.now];exact h.size _ (ab1 _)
theorem aX.Ok.mono {K K':Nat}{f:aX} (h:f.Ok K) (hk:K<=K'):f.Ok K':=⟨h.now,h.cuts,h.size,adT h.budget hk⟩
theorem aX.Ok.new (K:Nat):aX.new.Ok K:=⟨rfl,by simp [aX.new],by simp [aX.new,aX.at],by simp [aX.new]⟩
theorem aX.Ok.do {K:Nat}{f:aX} (h:f.Ok K) (c:gX) (h1:c.cut=true->c.n<=f.now.length) (h2:c.cut=false->f.now.length+c.b.length<=16777216):(f.do c).Ok (K+1):=by
 have hw:(f.do c).waits.length=f.waits.length+1:=by simp [aX.do]
 refine ⟨?_,?_,?_,by rw [hw];exact Nat.succ_le_succ h.budget⟩
 ·rw [hw,f.OT c h.now];rfl
 ·intro k c' hk hc;simp only [aX.do]at hk;rcases Nat.lt_trichotomy k f.waits.length with hlt|rfl|hgt
  ·rw [aek hlt]at hk;rw [f.FY c k (Nat.le_of_lt hlt)];exact h.cuts k c' hk hc
  ·rw [aew (ab1 _),aph]at hk;simp at hk;subst hk;rw [f.FY c _ (ab1 _),<-h.now];exact h1 hc
  ·rw [aew (Nat.le_of_lt hgt)]at hk;have:k-f.waits.length≠0:=by omega
   obtain ⟨j,hj⟩:∃ j,k-f.waits.length=j+1:=⟨k-f.waits.length-1,by omega⟩;rw [hj]at hk;simp at hk
 ·intro k hk;rw [hw]at hk;rcases aiN k (f.waits.length+1) with hlt|hge
  ·rw [f.FY c k oQ];exact h.size k oQ
  ·obtain rfl:k=f.waits.length+1:=by omega
   rw [f.OT c h.now];unfold gX.on;cases hc:c.cut
   ·simpa using h2 hc
   ·simp;have:=h.uT;omega
theorem aX.Ok.sync {K:Nat}{f:aX} (h:f.Ok K):f.sync.Ok K:=
 ⟨rfl,by simp [aX.sync],(by simp only [aX.sync,aX.at];intro k _;simpa using h.uT),by simp [aX.sync]⟩
theorem aX.Ok.flat (K:Nat) (b:Bs) (h:b.length<=16777216):(⟨b,b,[]⟩:aX).Ok K:=⟨rfl,by simp,by intro k _;simpa [aX.at] using h,by simp⟩
theorem Pg (x:Int) (n:Nat):zh x n<=n:=Nat.min_le_right _ _
theorem aX.ajd {K:Nat}{f:aX} (h:f.Ok K) (a b:Int):(f.left a b).length<=16777216:=by
 unfold aX.left;have hk:=Pg a f.waits.length;generalize zh a f.waits.length=k at *
 simp only;cases hc:f.waits[k]? with
 |none=>exact h.size k hk
 |some c=>
  simp only;split
  ·exact h.size k hk
  ·rename_i hcut;have hlt:=(acZ.1 hc).1;have:=h.size (k+1) hlt;rw [f.y9 k c hc]at this;unfold gX.on at this;rw [abL hcut]at this;simp at this ⊢;have:min (zh b c.b.length) c.b.length<=c.b.length:=Nat.min_le_right _ _;omega
theorem aX.Ok.crash {K:Nat}{f:aX} (h:f.Ok K) (a b:Int):(f.crash a b).Ok K:=aX.Ok.flat K _ (f.ajd h a b)
def oP (l:Names):Prop:=l.Pairwise λa b=>lt a.1 b.1=true
theorem lt_trans {a b c:ByteArray} (h:lt a b=true) (k:lt b c=true):lt a c=true:=by
 simp only [lt,ad5]at *;exact apL h k
theorem lt_irrefl (a:ByteArray):lt a a=false:=by simp [lt,aps]
theorem aac {a b:ByteArray} (h:a≠b):lt a b=true\/lt b a=true:=by
 simp only [lt,ad5];by_cases h1:a.data.toList<b.data.toList
 ·exact .inl h1
 ·right;have h2:b.data.toList<=a.data.toList:=List.not_lt.1 h1;rcases List.le_iff_lt_or_eq.1 h2 with h3|h3
  ·exact h3
  ·exfalso;apply h;obtain ⟨⟨x⟩⟩:=a;obtain ⟨⟨y⟩⟩:=b;simp at h3;subst h3;rfl
theorem oP.keys {l:Names} (h:oP l):(l.map (·.1)).Nodup:=by
 rw [List.nodup_iff_pairwise_ne,ahB];refine h.imp λ{a b} hab e=>?_;rw [e,lt_irrefl]at hab;cases hab
theorem oP.del {l:Names} (h:oP l) (s:ByteArray):oP (dS l s):=h.sublist apx
theorem oP.ins:∀ {l:Names},oP l->∀ {s:ByteArray} (i:Nat),(∀ p∈l,p.1≠s)->oP (jo l s i)
 |[],_,_,_,_=>List.pairwise_singleton _ _
 |p::l,h,s,i,hs=>by
  unfold jo;obtain ⟨h1,h2⟩:=aeZ.1 h;split
  ·rename_i hlt;refine aeZ.2 ⟨λq hq=>?_,h⟩;rcases ad9.1 hq with rfl|hq
   ·exact hlt
   ·exact lt_trans hlt (h1 q hq)
  ·rename_i hlt;have hps:lt p.1 s=true:=(aac (hs p (.head _))).resolve_right zH0;refine aeZ.2 ⟨λq hq=>?_,oP.ins h2 i (λq hq=>hs q (.tail _ hq))⟩;have:=(RH l s i).mem_iff.1 hq;rcases ad9.1 this with rfl|hq
   ·exact hps
   ·exact h1 q hq
theorem oP.put {l:Names} (h:oP l) (s:ByteArray) (i:Nat):oP (jR l s i):=(h.del s).ins i (ajG l s)
structure pq (n:Nat) (l:Names):Prop where
 oM:oP l
 len:l.length<=500
 ids:∀ p∈l,p.2<n
 ne:∀ p∈l,p.1≠ByteArray.empty
theorem pq.mono {n n':Nat}{l:Names} (h:pq n l) (hn:n<=n'):pq n' l:=⟨h.oM,h.len,λp hp=>Nat.lt_of_lt_of_le (h.ids p hp) hn,h.ne⟩
theorem wO (l:Names) (s:ByteArray):(dS l s).length<=l.length:=aiK _ _
theorem pq.del {n:Nat}{l:Names} (h:pq n l) (s:ByteArray):pq n (dS l s):=
 ⟨h.oM.del s,adT (wO l s) h.len,λp hp=>h.ids p (aex.1 hp).1,λp hp=>h.ne p (aex.1 hp).1⟩
theorem RX (l:Names) (s:ByteArray) (i:Nat):(jR l s i).length=(dS l s).length+1:=(wU l s i).length_eq
theorem pq.put {n:Nat}{l:Names} (h:pq n l) (s:ByteArray) (i:Nat) (hi:i<n) (hl:(dS l s).length<500) (hs:s≠ByteArray.empty):pq n (jR l s i):=by
 refine ⟨h.oM.put s i,by rw [RX];omega,λp hp=>?_,λp hp=>?_⟩;rotate_left
 ·rcases ad9.1 ((wU l s i).mem_iff.1 hp) with rfl|hp
  ·exact hs
  ·exact h.ne p (aex.1 hp).1
 rcases ad9.1 ((wU l s i).mem_iff.1 hp) with rfl|hp
 ·exact hi
 ·exact h.ids p (aex.1 hp).1
theorem ajH {l:Names} (hs:oP l){s:ByteArray}{i:Nat} (h:bH l s=some i):(dS l s).length+1=l.length:=by
 have:=(Rq hs.keys (ji h)).length_eq;simp at this;omega
structure ak.Ok (K:Nat) (m:ak):Prop where
 room:m.room<=16777216
 left:m.left<=9223372036854775807
 links:∀ x∈m.waits,x.to≠ByteArray.empty->x.f<m.files.length
 names:∀ k,k<=m.waits.length->pq m.files.length (m.iO k)
 now:m.now=m.iO m.waits.length
 files:∀ f∈m.files,f.Ok K
 budget:m.waits.length<=K
theorem ak.Ok.fU {K:Nat}{m:ak} (h:m.Ok K):pq m.files.length m.now:=by rw [h.now];exact h.names _ (ab1 _)
theorem ak.Ok.ag1 {K:Nat}{m:ak} (h:m.Ok K):pq m.files.length m.fast:=h.names 0 (ad4 _)
theorem ak.Ok.file {K:Nat}{m:ak} (h:m.Ok K) (i:Nat):(m.file i).Ok K:=by
 unfold ak.file;rcases aiN i m.files.length with hi|hi
 ·rw [adV,aaJ hi];exact h.files _ (apn hi)
 ·rw [adV,aiT hi];exact aX.Ok.new K
theorem ak.Ok.mono {K K':Nat}{m:ak} (h:m.Ok K) (hk:K<=K'):m.Ok K':=
 ⟨h.room,h.left,h.links,h.names,h.now,λf hf=>(h.files f hf).mono hk,adT h.budget hk⟩
theorem ak.Ok.new (K room:Nat) (h:room<=16777216):(new room).Ok K:=
 ⟨h,by simp [ak.new],by simp [ak.new],(by intro k _;simp [ak.new,ak.iO];exact ⟨List.Pairwise.nil,by simp,by simp,by simp⟩),by simp [ak.new,ak.iO],by simp [ak.new],by simp [ak.new]⟩
theorem ak.Ok.step {K:Nat}{m:ak} (h:m.Ok K):m.step.1.Ok K:=by
 unfold ak.step;split
 ·split
  ·exact ⟨h.room,h.left,h.links,h.names,h.now,h.files,h.budget⟩
  ·exact ⟨h.room,adT (Nat.sub_le _ _) h.left,h.links,h.names,h.now,h.files,h.budget⟩
 ·exact h
theorem ak.jf (m:ak):m.step.1.room=m.room/\m.step.1.fast=m.fast/\m.step.1.now=m.now/\m.step.1.files=m.files/\m.step.1.waits=m.waits:=by
 unfold ak.step;split
 ·split <;> exact ⟨rfl,rfl,rfl,rfl,rfl⟩
 ·exact ⟨rfl,rfl,rfl,rfl,rfl⟩
theorem ak.QV (m:ak) (x:gU) (k:Nat) (h:k<=m.waits.length):(m.link x).iO k=m.iO k:=by
 unfold ak.iO ak.link;simp only;rw [aeT h]
theorem ak.KD (m:ak) (x:gU) (h:m.now=m.iO m.waits.length):(m.link x).iO (m.waits.length+1)=x.on m.now:=by
 rw [h];unfold ak.iO ak.link;simp only;rw [adZ yF0,adZ (ab1 _),apd]
 rfl
theorem ak.Ok.link {K:Nat}{m:ak} (h:m.Ok K) (x:gU) (hf:x.to≠ByteArray.empty->x.f<m.files.length) (hn:pq m.files.length (x.on m.now)):(m.link x).Ok (K+1):=by
 have hw:(m.link x).waits.length=m.waits.length+1:=by simp [ak.link]
 refine ⟨h.room,h.left,?_,?_,?_,λf hf=>(h.files f hf).mono (aiL _),by rw [hw];exact Nat.succ_le_succ h.budget⟩
 ·intro y hy;simp only [ak.link,aeQ,aeG]at hy;rcases hy with hy|rfl
  ·exact h.links y hy
  ·exact hf
 ·intro k hk;rw [hw]at hk;rcases aiN k (m.waits.length+1) with hlt|hge
  ·rw [m.QV x k oQ];exact h.names k oQ
  ·obtain rfl:k=m.waits.length+1:=by omega
   rw [m.KD x h.now];exact hn
 ·rw [hw,m.KD x h.now];rfl
theorem ak.Ok.eP {K:Nat}{m:ak} (h:m.Ok K) (i:Nat) (f:aX) (hf:f.Ok (K+1)):(m.eP i f).Ok (K+1):=by
 have hl:(m.eP i f).files.length=m.files.length:=by simp [ak.eP]
 refine ⟨h.room,h.left,(by rw [hl];exact h.links),(by rw [hl];exact h.names),h.now,?_,apG h.budget⟩;intro g hg;rcases ajr hg with hg|rfl
 ·exact (h.files g hg).mono (aiL _)
 ·exact hf
theorem ak.Ok.Rt {K:Nat}{m:ak} (h:m.Ok K):({ m with files:=m.files++[aX.new] }:ak).Ok K:=by
 have hl:(m.files++[aX.new]).length=m.files.length+1:=by simp
 refine ⟨h.room,h.left,λx hx ht=>(by have:=h.links x hx ht;simp only [hl];omega),λk hk=>(h.names k hk).mono yF0,h.now,?_,h.budget⟩;intro f hf;rcases aeQ.1 hf with hf|hf
 ·exact h.files f hf
 ·rw [aeG.1 hf];exact aX.Ok.new K
theorem tu {s:ByteArray} (h:good s=true):s≠ByteArray.empty:=by
 intro e;subst e;simp [good]at h
theorem ak.Ok.create {K:Nat}{m:ak} (h:m.Ok K) (s:ByteArray):(m.create s).1.Ok (K+1):=by
 unfold ak.create;have h':=h.mono (aiL K);split;· exact h'
 split;· exact h'
 rename_i hg;split;· exact h'
 rename_i hn;split;· exact h'
 rename_i hl;split;· exact h'.step
 have hst:=h.step;obtain ⟨e1,e2,e3,e4,e5⟩:=m.jf;have hg':good s=true:=by simpa using hg
 have hn':bH m.now s=none:=by simpa using hn
 have h1:=hst.Rt;rw [e4]at h1;refine h1.link _ (λ_=>by simp) ?_;show pq _ (gU.on _ m.step.1.now);rw [e3];unfold gU.on;simp only [apc,abL (tu hg')];exact (h.fU.mono yF0).put s _ yF0 (by rw [CJ hn'];omega) (tu hg')
theorem ZO:∀ (l:List Nat) (n:Nat),n∈l->n<=l.sum
 |[],_,h=>by cases h
 |x::l,n,h=>by
  rcases ad9.1 h with rfl|h
  ·simp
  ·have:=ZO l n h;simp;omega
theorem ak.Ok.append {K:Nat}{m:ak} (h:m.Ok K) (s:ByteArray) (b:Bs):(m.append s b).1.Ok (K+1):=by
 unfold ak.append;have h':=h.mono (aiL K);split;· exact h'
 split;· exact h'
 rename_i i hi;split;· exact h'
 rename_i hroom;split;· exact h'.step
 refine h.step.eP _ _ ((h.file i).do _ yF0 ?_);intro _;have hu:(m.file i).now.length<=m.used:=by
  unfold ak.used;have:(s,i)∈m.now:=ji hi;exact ZO _ _ (adu.2 ⟨(s,i),this,rfl⟩)
 have:=h.room;simp only;omega
theorem ak.Ok.truncate {K:Nat}{m:ak} (h:m.Ok K) (s:ByteArray) (n:Int):(m.truncate s n).1.Ok (K+1):=by
 unfold ak.truncate;have h':=h.mono (aiL K);split;· exact h'
 split;· exact h'
 rename_i i hi;split;· exact h'
 rename_i hn;split;· exact h'.step
 exact h.step.eP _ _ ((h.file i).do _ (by intro _;simp only;omega) yF0)
theorem ak.Ok.rename {K:Nat}{m:ak} (h:m.Ok K) (s t:ByteArray):(m.rename s t).1.Ok (K+1):=by
 unfold ak.rename;have h':=h.mono (aiL K);split;· exact h'
 split;· exact h'
 rename_i i hi;split;· exact h'
 rename_i hg;split;· exact h'.step
 obtain ⟨e1,e2,e3,e4,e5⟩:=m.jf;have hg':good t=true:=by simpa using hg
 have hid:i<m.files.length:=h.fU.ids _ (ji hi);refine h.step.link _ (λ_=>by rw [e4];exact hid) ?_;rw [e3,e4];unfold gU.on;simp only [abL (tu hg')];have hd:=ajH h.fU.oM hi;have hl:=h.fU.len;have hs:s≠ByteArray.empty:=h.fU.ne _ (ji hi);rw [abL hs];refine (h.fU.del s).put t i hid ?_ (tu hg');have:=wO (dS m.now s) t;omega
theorem ak.Ok.remove {K:Nat}{m:ak} (h:m.Ok K) (s:ByteArray):(m.remove s).1.Ok (K+1):=by
 unfold ak.remove;have h':=h.mono (aiL K);split;· exact h'
 split;· exact h'
 rename_i i hi;split;· exact h'.step
 obtain ⟨e1,e2,e3,e4,e5⟩:=m.jf;refine h.step.link _ (λhh=>absurd rfl hh) ?_;rw [e3,e4];unfold gU.on;have hs:s≠ByteArray.empty:=h.fU.ne _ (ji hi);simp only [apc,abL hs];exact h.fU.del s
theorem ak.Ok.sync {K:Nat}{m:ak} (h:m.Ok K) (s:ByteArray):(m.sync s).1.Ok (K+1):=by
 unfold ak.sync;have h':=h.mono (aiL K);split;· exact h'
 split;· exact h'
 rename_i i hi;split;· exact h'.step
 exact h.step.eP _ _ ((h.file i).sync.mono (aiL _))
theorem ak.Ok.dH {K:Nat}{m:ak} (h:m.Ok K):m.dH.1.Ok K:=by
 unfold ak.dH;split;· exact h
 split;· exact h.step
 obtain ⟨e1,e2,e3,e4,e5⟩:=m.jf;have hs:=h.step;refine ⟨hs.room,hs.left,by simp,?_,?_,hs.files,by simp⟩
 ·intro k _;show pq _ _;simp only [ak.iO,List.take_nil,List.foldl_nil];rw [e4];exact h.fU
 ·simp only [ak.iO,List.take_nil,List.foldl_nil];exact e3
theorem ak.Ok.qw {K:Nat}{m:ak} (h:m.Ok K) (n:Int):(m.qw n).1.Ok K:=by
 unfold ak.qw;split;· exact h
 split;· exact h
 exact ⟨by simp only;omega,h.left,h.links,h.names,h.now,h.files,h.budget⟩
theorem ak.Ok.arm {K:Nat}{m:ak} (h:m.Ok K) (n:Int) (hn:n<=9223372036854775807):(m.arm n).1.Ok K:=by
 unfold ak.arm;split;· exact h
 split;· exact h
 exact ⟨h.room,by simp only;omega,h.links,h.names,h.now,h.files,h.budget⟩
theorem am1 (l:List Nat) (b:Nat) (h:∀ x∈l,x<=b):l.sum<=l.length*b:=by
 induction l with
 |nil=>simp
 |cons x l ih=>
  have h1:=h x (.head _);have h2:=ih λy hy=>h y (.tail _ hy);simp only [apf,aev,aoH];omega
theorem ak.Ok.ET {K:Nat}{m:ak} (h:m.Ok K):m.used<=8388608000:=by
 unfold ak.used
 have h1:=am1 (m.now.map λp=>(m.file p.2).now.length) 16777216 (by
  intro x hx;obtain ⟨p,_,rfl⟩:=adu.1 hx;exact (h.file p.2).uT)
 have:=h.fU.len;rw [abl]at h1;have:=aiI 16777216 this;omega
end Go.ak
namespace Go.Proofs.Y
open Go Go.Sl Go.ak Go.MapKept Go.RowKit
section
variable {w0 w:World}{F:List aF}{m fb nb b r:Nat}{M:ak}{bs:List Nat}{wv v bv:Value}{s:ByteArray}{l:Names}{fs:List aX}
theorem JR (h:Sat w0 w (pJ bs fs::F)) (hl:bs.length=fs.length){i:Nat} (hi:i<fs.length) :
  ∃ fa fn fc na nc wv,w.cell? ⟨bs.getD i 0,0,none⟩=some (.slice fa fn fc)/\w.cell? ⟨bs.getD i 0,1,none⟩=some (.slice na (fs.getD i aX.new).now.length nc)/\w.cell? ⟨bs.getD i 0,2,none⟩=some wv /\
   aW 1 (.slice na (fs.getD i aX.new).now.length nc) (aB (fs.getD i aX.new).now) w/\(fs.getD i aX.new).now.length<=nc/\nc<=9223372036854775807/\(na=none/\nc=0\/∃ g,na=some ⟨g,0,none⟩):=by
 obtain ⟨G,h1,_⟩:=PO bs fs i hl hi;rw [h1]at h;obtain ⟨fv,nv,wv,ws,hws,h⟩:=lI.open (Sat.star.1 h);obtain ⟨fa,fn,fc,rfl,_⟩:=(h.sel 2 [1] rfl rfl).rd;have hN:=h.sel 3 [2] rfl rfl;have hr:=hN.rd;rcases Sat.kL hN with ⟨rfl,hx,_⟩|⟨g,n,cap,cs,rfl,hx,h1,_,h3,_,_⟩
 ·have hx0:(fs.getD i aX.new).now.length=0:=by rw [<-aP];exact aeO List.length hx
  rw [hx0];exact ⟨fa,fn,fc,none,0,wv,h.cellAt 0 _ rfl,h.cellAt 1 _ rfl,h.cellAt 2 _ rfl,hr,ab1 _,by omega,.inl ⟨rfl,rfl⟩⟩
 ·rw [aP,aeo]at hx;subst hx;exact ⟨fa,fn,fc,_,cap,wv,h.cellAt 0 _ rfl,h.cellAt 1 _ rfl,h.cellAt 2 _ rfl,hr,h1,h3,.inr ⟨g,rfl⟩⟩
theorem Rk {todo:Names}{k v:Value}{left:List (Value×Value)} (h:(dR bs todo).Perm ((k,v)::left)) :
  ∃ p todo',todo.Perm (p::todo')/\k=.string p.1/\v=ptr (bs.getD p.2 0)/\left.Perm (dR bs todo'):=by
 have hm:(k,v)∈dR bs todo:=h.mem_iff.2 (.head _);obtain ⟨p,hp,e⟩:=adu.1 hm;simp only [Prod.mk.injEq]at e;obtain ⟨t1,t2,rfl⟩:=List.append_of_mem hp;have h1:(t1++p::t2).Perm (p::(t1++t2)):=ao2;refine ⟨p,t1++t2,h1,e.1.symm,e.2.symm,?_⟩;have h2:((k,v)::left).Perm ((k,v)::dR bs (t1++t2)):=by
  refine h.symm.trans ((KH h1).trans ?_);show List.Perm ((Value.string p.1,ptr (bs.getD p.2 0))::dR bs (t1++t2)) _;rw [e.1,e.2]
 exact (List.Perm.cons_inv h2)
def sumOf (M:ak) (l:Names):Nat:=(l.map λp=>(M.file p.2).now.length).sum
theorem am0 {l l':Names} (h:l.Perm l'):sumOf M l=sumOf M l':=(h.map _).sum_nat
abbrev adp (m:Nat) (M:ak) (fb nb:Nat) (wv:Value) (bs:List Nat) (F:List aF):List aF:=oV m M fb nb wv::omap .string nb (dR bs M.now)::pJ bs M.files::F
theorem anL (h:Sat w0 w (adp m M fb nb wv bs F)) (hl:bs.length=M.files.length) (hid:∀ p∈M.now,p.2<M.files.length) (hu:M.used<=9223372036854775807) :
  Calls prog 89 #[ptr m] w (aN λv w'=>v=.int .i64 M.wu/\Sat w0 w' (adp m M fb nb wv bs F)):=by
 have hd:=Bz h;have c2:=h.cellAt 2 _ rfl;cases ho:M.off
 ·rw [ho]at hd;have Hu:Hid (M.wu=M.used):=by show _=_;unfold ak.wu;rw [ho];rfl
  clear ho;go_enter func89,ntmps89
  go_wp2_with (first
   |(go_at_call 58;refine hd.mono ?_;rintro e w1 ⟨v,rfl,rfl,rfl⟩)
   |(at_range;go_must (refine UY ah _ _ _ _ ah underlying128 ah h.aT ?_);intro r w1 hS))
  go_frame
  go_loopg [3] M.now.length (λg n wr=>∃ (acc:Nat) (todo:Names) (left:List (Value×Value)),n=.int .i64 acc/\g=todo.length/\left.Perm (dR bs todo)/\(∀ p∈todo,p∈M.now)/\acc+sumOf M todo=M.used /\
   Sat w0 wr (rng .string nb r (dR bs M.now) left::oV m M fb nb wv::pJ bs M.files::F))
  case atStart=>exact ⟨0,M.now,_,rfl,rfl,aoF _,λ_ h=>h,by simp [ak.used,sumOf],hS⟩
  case round=>
   obtain ⟨acc,todo,left,rfl,rfl,hleft,hsub,hacc,hS⟩:=hrel;have NJ:=uQ hacc;have AV:=uQ hsub;have hb:acc<=M.used:=by omega
   clear hacc hsub
   go_wp2_with (first
    |(at_next;go_must (refine UW ah _ ah ah hS ?_ ?_)))
   ·intro hnil;have FK:=uQ hnil;clear hnil;go_wp2;go_ret;refine ⟨.int .i64 acc,rfl,?_,?_⟩
    ·have h0:todo=[]:=by
      have:=hleft;rw [FK.o]at this;simpa [dR] using this.symm
     subst h0;have:=NJ.o;simp only [sumOf,ah3,List.sum_nil,aml]at this;rw [Hu.o,this]
    ·exact (hS.Ti).aT
   ·intro k v left' w1 hp hS1 hen;obtain ⟨p,todo',hp',rfl,rfl,hl'⟩:=Rk (hleft.symm.trans hp);have hpi:p.2<M.files.length:=hid p (AV.o p (hp'.mem_iff.2 (.head _)));obtain ⟨fa,fn,fc,na,nc,wv',f0,f1,f2,_,_,_,hna⟩:=JR (hS1.sel 3 [2] rfl rfl) hl hpi;have hsum:Hid (sumOf M todo=(M.file p.2).now.length+sumOf M todo'):=by
     show _=_;rw [am0 hp'];simp [sumOf]
    have hb2:acc+(M.file p.2).now.length<=M.used:=by
     have h1:=NJ.o;have h2:=hsum.o;omega
    have Hp:=uQ hp';have Hl:=uQ hl';clear hp hp' hl' hleft;clear hna;change w1.cell? ⟨bs.getD p.2 0,1,none⟩=some (.slice na (M.file p.2).now.length nc) at f1;generalize bs.getD p.2 0=q at *
    generalize hL:(M.file p.2).now.length=L at *
    have HL:=uQ hL;clear hL;go_wp2
    go_roundg todo'.length
    case measure=>have:=Hp.o.length_eq;simp at this;omega
    case rel=>
     refine ⟨acc+L,todo',left',by go_num,rfl,Hl.o,λx hx=>AV.o x (Hp.o.mem_iff.2 (.tail _ hx)),?_,hS1⟩;have h1:=NJ.o;have h2:=hsum.o;omega
 ·rw [ho]at hd;have Hu:Hid (M.wu=0):=by show _=_;unfold ak.wu;rw [ho];rfl
  clear ho;go_enter func89,ntmps89;go_wp2_with (go_at_call 58;refine hd.mono ?_;rintro e w1 ⟨v,rfl,rfl,rfl⟩);go_ret;exact ⟨.int .i64 0,rfl,by rw [Hu.o];rfl,h⟩
end
end Go.Proofs.Y
