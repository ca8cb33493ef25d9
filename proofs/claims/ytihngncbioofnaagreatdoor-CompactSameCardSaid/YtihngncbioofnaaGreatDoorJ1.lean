import Derived.WalkKit
import Derived.Maps.OwnSet
import Derived.Lib.Hide
import Derived.Maps.RangeWalk
import Derived.Maps.AppendAt
import Derived.Sort.Walk0
import Derived.Test.YtihngncbioofnaaGreatDoorChecked
import Derived.WalkLawsBesides
import Derived.WalkSpells
import Derived.OrdersHeld
import Derived.Deep.RegionHeld3
import Derived.Deep.DrawnRows
import Derived.Test.YtihngncbioofnaaGreatDoorShelf
import Derived.Deep.LoopGhost
import Derived.Sort.OwnSorted
open Go.Proofs.Tryz
theorem Go.RowKit.Hid.o{p:Prop} (h:Go.RowKit.Hid p):p:=h
namespace Go.Proofs.YtihngncbioofnaaGreatDoor
end Go.Proofs.YtihngncbioofnaaGreatDoor
theorem yF0{p:Prop} (h:p:=by simp):p:=h
theorem yP0{p:Prop} (h:p:=by simpa using h):p:=h
theorem yR0{p:Prop} (h:p:=by rw [Hc.o];simp;omega):p:=h
namespace Go
theorem aay:type_of% @List.getElem?_eq_getElem:=@List.getElem?_eq_getElem
theorem aaL:type_of% @List.length_append:=@List.length_append
theorem aa4:type_of% @List.length_map:=@List.length_map
theorem abj:type_of% @if_neg:=@if_neg
theorem abl:type_of% @Nat.le_refl:=@Nat.le_refl
theorem abm:type_of% @List.getElem?_eq_some_iff:=@List.getElem?_eq_some_iff
theorem abn:type_of% @List.size_toArray:=@List.size_toArray
theorem abA:type_of% @List.mem_of_getElem?:=@List.mem_of_getElem?
theorem abL:type_of% @List.mem_map:=@List.mem_map
theorem ace:type_of% @List.getElem?_toArray:=@List.getElem?_toArray
theorem acg:type_of% @if_pos:=@if_pos
theorem adr:type_of% @Go.IntWalk.i64_in:=@Go.IntWalk.i64_in
theorem ads:type_of% @List.length_take:=@List.length_take
theorem adt:type_of% @Nat.le_trans:=@Nat.le_trans
theorem adu:type_of% @Go.Result.andThen_ok:=@Go.Result.andThen_ok
theorem adQ:type_of% @List.append_assoc:=@List.append_assoc
theorem adT:type_of% @List.getD_eq_getElem?_getD:=@List.getD_eq_getElem?_getD
theorem adU:type_of% @List.map_append:=@List.map_append
theorem adV:type_of% @List.append_nil:=@List.append_nil
theorem adW:type_of% @List.getElem?_map:=@List.getElem?_map
theorem adX:type_of% @beq_eq_false_iff_ne:=@beq_eq_false_iff_ne
theorem adY:type_of% @decide_eq_true_eq:=@decide_eq_true_eq
theorem adZ:type_of% @List.mem_singleton:=@List.mem_singleton
theorem ad1:type_of% @Go.Sem.run_bind:=@Go.Sem.run_bind
theorem ad2:type_of% @decide_eq_false:=@decide_eq_false
theorem ad3:type_of% @List.length_drop:=@List.length_drop
theorem ad4:type_of% @Array.length_toList:=@Array.length_toList
theorem ad5:type_of% @List.mem_cons:=@List.mem_cons
theorem ad6:type_of% @List.toList_toArray:=@List.toList_toArray
theorem ad7:type_of% @List.map_cons:=@List.map_cons
theorem ad8:type_of% @Nat.zero_add:=@Nat.zero_add
theorem ad9:type_of% @List.take_of_length_le:=@List.take_of_length_le
theorem aea:type_of% @Nat.zero_le:=@Nat.zero_le
theorem aeb:type_of% @decide_eq_true:=@decide_eq_true
theorem aec:type_of% @Nat.succ_le_of_lt:=@Nat.succ_le_of_lt
theorem aeg:type_of% @List.mem_append:=@List.mem_append
theorem aeh:type_of% @List.getElem?_append_right:=@List.getElem?_append_right
theorem aej:type_of% @List.getElem?_append_left:=@List.getElem?_append_left
theorem aek:type_of% @Go.Sem.run_pure:=@Go.Sem.run_pure
theorem ael:type_of% @List.flatMap_cons:=@List.flatMap_cons
theorem aem:type_of% @List.mem_filter:=@List.mem_filter
theorem aeo:type_of% @List.take_length:=@List.take_length
theorem aep:type_of% @List.length_cons:=@List.length_cons
theorem aer:type_of% @List.length_singleton:=@List.length_singleton
theorem aes:type_of% @Nat.mul_one:=@Nat.mul_one
theorem aeu:type_of% @List.nil_append:=@List.nil_append
theorem aev:type_of% @Bool.and_eq_true:=@Bool.and_eq_true
theorem aew:type_of% @List.drop_of_length_le:=@List.drop_of_length_le
theorem aey:type_of% @congrArg:=@congrArg
theorem aeB:type_of% @List.flatMap_append:=@List.flatMap_append
theorem aeC:type_of% @List.take_append_of_le_length:=@List.take_append_of_le_length
theorem aeF:type_of% @List.map_nil:=@List.map_nil
theorem aeH:type_of% @List.getLast?_eq_getElem?:=@List.getLast?_eq_getElem?
theorem aeI:type_of% @List.cons_append:=@List.cons_append
theorem aeK:type_of% @List.take_add_one:=@List.take_add_one
theorem aeL:type_of% @List.length_nil:=@List.length_nil
theorem aeO:type_of% @List.take_zero:=@List.take_zero
theorem aeP:type_of% @List.mem_of_mem_take:=@List.mem_of_mem_take
theorem aeS:type_of% @List.take_append_drop:=@List.take_append_drop
theorem aeT:type_of% @List.length_filter_le:=@List.length_filter_le
theorem aeU:type_of% @Go.IntKind.wrap_i64:=@Go.IntKind.wrap_i64
theorem aeV:type_of% @Go.wpList_plain:=@Go.wpList_plain
theorem aeW:type_of% @List.map_map:=@List.map_map
theorem aeX:type_of% @List.map_toArray:=@List.map_toArray
theorem aeY:type_of% @List.getElem?_take:=@List.getElem?_take
theorem aeZ:type_of% @List.pairwise_cons:=@List.pairwise_cons
theorem ae0:type_of% @List.all_eq_true:=@List.all_eq_true
theorem ae1:type_of% @decide_eq_false_iff_not:=@decide_eq_false_iff_not
theorem ae4:type_of% @Nat.mul_le_mul_right:=@Nat.mul_le_mul_right
theorem ae5:type_of% @List.mem_of_getLast?:=@List.mem_of_getLast?
theorem afw:type_of% @Option.toList_some:=@Option.toList_some
theorem afx:type_of% @List.length_replicate:=@List.length_replicate
theorem afM:type_of% @Go.run_underlying:=@Go.run_underlying
theorem afW:type_of% @Option.map_some:=@Option.map_some
theorem afX:type_of% @Bool.false_eq_true:=@Bool.false_eq_true
theorem afZ:type_of% @bne_iff_ne:=@bne_iff_ne
theorem agZ:type_of% @List.eq_nil_of_length_eq_zero:=@List.eq_nil_of_length_eq_zero
theorem ahI:type_of% @List.take_succ_eq_append_getElem:=@List.take_succ_eq_append_getElem
theorem ahJ:type_of% @Go.IntWalk.wrap64_in:=@Go.IntWalk.wrap64_in
theorem ahP:type_of% @List.getLast?_eq_none_iff:=@List.getLast?_eq_none_iff
theorem ah3:type_of% @List.drop_eq_getElem_cons:=@List.drop_eq_getElem_cons
theorem ah4:type_of% @List.not_mem_nil:=@List.not_mem_nil
theorem ah5:type_of% @Go.MapKept.run_getObj_map:=@Go.MapKept.run_getObj_map
theorem aip:type_of% @Option.map_eq_some_iff:=@Option.map_eq_some_iff
theorem aiq:type_of% @List.pairwise_append:=@List.pairwise_append
theorem aiv:type_of% @Nat.mul_comm:=@Nat.mul_comm
theorem aiH:type_of% @List.getElem?_eq_none:=@List.getElem?_eq_none
theorem aiJ:type_of% @List.all_append:=@List.all_append
theorem aiM:type_of% @beq_false_of_ne:=@beq_false_of_ne
theorem ai2:type_of% @Option.some.inj:=@Option.some.inj
theorem ai3:type_of% @List.length_set:=@List.length_set
theorem ai4:type_of% @List.getElem?_eq_none_iff:=@List.getElem?_eq_none_iff
theorem ai5:type_of% @beq_iff_eq:=@beq_iff_eq
theorem ai6:type_of% @Nat.add_zero:=@Nat.add_zero
theorem ai7:type_of% @Nat.le_succ:=@Nat.le_succ
theorem aja:type_of% @List.getLast?_append:=@List.getLast?_append
theorem ajb:type_of% @List.flatMap_nil:=@List.flatMap_nil
theorem ajc:type_of% @List.mem_flatMap:=@List.mem_flatMap
theorem ajd:type_of% @Go.IntKind.wrap_u64:=@Go.IntKind.wrap_u64
theorem ajl:type_of% @of_decide_eq_true:=@of_decide_eq_true
theorem ajw:type_of% @Array.getElem?_toList:=@Array.getElem?_toList
theorem ajF:type_of% @List.getElem?_cons_succ:=@List.getElem?_cons_succ
theorem ajI:type_of% @Array.getElem?_eq_getElem:=@Array.getElem?_eq_getElem
theorem ajL:type_of% @List.filter_cons:=@List.filter_cons
theorem ajM:type_of% @List.pairwise_map:=@List.pairwise_map
theorem ajN:type_of% @Nat.sub_self:=@Nat.sub_self
theorem ajO:type_of% @List.filter_append:=@List.filter_append
theorem ajP:type_of% @Nat.lt_of_le_of_lt:=@Nat.lt_of_le_of_lt
theorem ajS:type_of% @Array.getD_eq_getD_getElem?:=@Array.getD_eq_getD_getElem?
theorem ajU:type_of% @Array.getElem?_modify:=@Array.getElem?_modify
theorem akF:type_of% @List.perm_append_comm:=@List.perm_append_comm
theorem akH:type_of% @Nat.add_mul:=@Nat.add_mul
theorem akI:type_of% @List.filter_eq_self:=@List.filter_eq_self
theorem akJ:type_of% @Nat.lt_or_ge:=@Nat.lt_or_ge
theorem akU:type_of% @List.map_congr_left:=@List.map_congr_left
theorem akZ:type_of% @List.nodup_cons:=@List.nodup_cons
theorem amF:type_of% @Array.getElem?_eq_some_iff:=@Array.getElem?_eq_some_iff
theorem an5:type_of% @List.filter_cons_of_neg:=@List.filter_cons_of_neg
theorem an9:type_of% @Nat.mul_le_mul:=@Nat.mul_le_mul
theorem aoa:type_of% @List.drop_append_of_le_length:=@List.drop_append_of_le_length
theorem aog:type_of% @List.mem_or_eq_of_mem_set:=@List.mem_or_eq_of_mem_set
theorem aoj:type_of% @List.pairwise_iff_getElem:=@List.pairwise_iff_getElem
theorem aok:type_of% @List.Perm.refl:=@List.Perm.refl
theorem aol:type_of% @Bool.eq_iff_iff:=@Bool.eq_iff_iff
theorem aoC:type_of% @Option.map_none:=@Option.map_none
theorem aoU:type_of% @List.map_take:=@List.map_take
theorem aoY:type_of% @List.getElem_of_mem:=@List.getElem_of_mem
theorem aoZ:type_of% @Int.le_refl:=@Int.le_refl
theorem ao0:type_of% @Nat.mod_lt:=@Nat.mod_lt
theorem ao1:type_of% @List.flatten_cons:=@List.flatten_cons
theorem ao2:type_of% @Go.MapKept.run_checkKey:=@Go.MapKept.run_checkKey
theorem ao5:type_of% @List.getElem?_drop:=@List.getElem?_drop
theorem ao6:type_of% @UInt8.toNat_ofNat':=@UInt8.toNat_ofNat'
theorem ao7:type_of% @Nat.pow_le_pow_right:=@Nat.pow_le_pow_right
theorem ao8:type_of% @Nat.add_sub_cancel:=@Nat.add_sub_cancel
theorem apa:type_of% @if_true:=@if_true
theorem apb:type_of% @List.perm_middle:=@List.perm_middle
theorem apd:type_of% @Option.getD_some:=@Option.getD_some
theorem ape:type_of% @Nat.mod_eq_of_lt:=@Nat.mod_eq_of_lt
theorem apj:type_of% @List.filter_sublist:=@List.filter_sublist
theorem aps:type_of% @Go.MapKept.run_findKey:=@Go.MapKept.run_findKey
theorem apt:type_of% @List.mem_map_of_mem:=@List.mem_map_of_mem
theorem apu:type_of% @List.ext_getElem?:=@List.ext_getElem?
theorem apv:type_of% @List.foldl_append:=@List.foldl_append
theorem apx:type_of% @List.eq_nil_or_concat:=@List.eq_nil_or_concat
theorem apy:type_of% @List.concat_eq_append:=@List.concat_eq_append
theorem apz:type_of% @List.contains_iff_mem:=@List.contains_iff_mem
theorem apA:type_of% @if_false:=@if_false
theorem apB:type_of% @Nat.add_assoc:=@Nat.add_assoc
theorem apC:type_of% @List.getElem?_take_of_lt:=@List.getElem?_take_of_lt
theorem apD:type_of% @Nat.div_le_self:=@Nat.div_le_self
theorem apE:type_of% @List.length_take_le':=@List.length_take_le'
theorem apF:type_of% @List.filter_cons_of_pos:=@List.filter_cons_of_pos
theorem apG:type_of% @Nat.add_sub_cancel_left:=@Nat.add_sub_cancel_left
theorem apH:type_of% @List.drop_length:=@List.drop_length
theorem apI:type_of% @List.getElem?_of_mem:=@List.getElem?_of_mem
theorem apJ:type_of% @Go.RowKit.Hid.out:=@Go.RowKit.Hid.o
theorem apK:type_of% @Array.getElem?_eq_none:=@Array.getElem?_eq_none
theorem apL:type_of% @List.lt_irrefl:=@List.lt_irrefl
theorem apM:type_of% @Int.toNat_natCast:=@Int.toNat_natCast
theorem apN:type_of% @List.drop_zero:=@List.drop_zero
theorem apO:type_of% @List.length_pos_iff:=@List.length_pos_iff
theorem apP:type_of% @Go.run_build:=@Go.run_build
theorem apQ:type_of% @List.eraseIdx_eq_take_drop_succ:=@List.eraseIdx_eq_take_drop_succ
theorem apR:type_of% @Array.getElem?_setIfInBounds_ne:=@Array.getElem?_setIfInBounds_ne
theorem apS:type_of% @Classical.byContradiction:=@Classical.byContradiction
theorem apT:type_of% @List.getElem_mem:=@List.getElem_mem
theorem apU:type_of% @List.drop_append:=@List.drop_append
theorem apV:type_of% @Bool.true_and:=@Bool.true_and
theorem apW:type_of% @Nat.add_comm:=@Nat.add_comm
theorem apX:type_of% @or_false:=@or_false
theorem apY:type_of% @Go.DataW.trod_int:=@Go.DataW.trod_int
theorem apZ:type_of% @List.drop_drop:=@List.drop_drop
theorem ap0:type_of% @List.mem_append_left:=@List.mem_append_left
theorem ap1:type_of% @Nat.min_eq_left:=@Nat.min_eq_left
theorem ap3:type_of% @Array.toList_append:=@Array.toList_append
theorem ap4:type_of% @List.drop_succ_cons:=@List.drop_succ_cons
theorem ap5:type_of% @List.filter_eq_nil_iff:=@List.filter_eq_nil_iff
theorem ap6:type_of% @List.sum_cons:=@List.sum_cons
theorem ap7:type_of% @List.countP_cons:=@List.countP_cons
theorem ap8:type_of% @Bool.not_eq_true:=@Bool.not_eq_true
theorem aqa:type_of% @Nat.lt_of_lt_of_le:=@Nat.lt_of_lt_of_le
theorem aqb:type_of% @List.length_range':=@List.length_range'
theorem aqe:type_of% @Int.natCast_mul:=@Int.natCast_mul
theorem aqf:type_of% @Bool.not_eq_true':=@Bool.not_eq_true'
theorem aqg:type_of% @Nat.lt_trichotomy:=@Nat.lt_trichotomy
theorem aqh:type_of% @Option.some.injEq:=@Option.some.injEq
theorem aqi:type_of% @List.getLast?_map:=@List.getLast?_map
theorem aqk:type_of% @List.lt_trans:=@List.lt_trans
theorem aql:type_of% @List.all_cons:=@List.all_cons
end Go
namespace Go
open Go
theorem rQ {p : Prop} (h : p := by rfl) : p := h
theorem aQ {p : Prop} (h : p := by assumption) : p := h
theorem oQ {p : Prop} (h : p := by omega) : p := h
theorem CS {i : Nat} (h : -9223372036854775808 <= ((i : Int) + 1) /\ ((i : Int) + 1) <= 9223372036854775807 := by omega) : IntKind.i64.wrap ((i : Int) + 1) = (i : Int) + 1 := by rw [aeU]; omega
theorem uQ {p : Prop} (h : p) : RowKit.Hid p := Lib.hid h
end Go
set_option linter.unusedVariables false
set_option linter.unusedSimpArgs false
set_option maxHeartbeats 128000000
theorem au {p:Prop} (h:p:=by kernel_rfl):p:=h
theorem ah {p:Prop} (h:p:=by rfl):p:=h
theorem aN {p:Prop} (h:p:=by decide):p:=h
theorem bV {p:Prop} (h:p:=by intro _ _ _ h;exact h):p:=h
theorem bI {p:Prop} (h:p:=by exact Nat.le_of_ble_eq_true rQ):p:=h
namespace Go.Sl
open Go
abbrev Hp:Type:=Nat->Option Obj
def aG:Type:=Hp->Prop
def Hp.Ji (a b:Hp):Prop:=∀ i,a i=none\/b i=none
def Hp.join (a b:Hp):Hp:=λi=>(a i).or (b i)
theorem aG.ext {A B:aG} (h:∀ x,A x↔B x):A=B:=funext λx=>propext (h x)
def emp:aG:=λh=>h=λ_=>none
def star (A B:aG):aG:=λh=>∃ a b,Hp.Ji a b/\h=Hp.join a b/\A a/\B b
def pt (b:Nat) (o:Obj):aG:=λh=>h=λi=>if i=b then some o else none
def ex {α:Type} (A:α->aG):aG:=λh=>∃ x,A x h
theorem Hp.agJ {a b:Hp} (h:a.Ji b):b.Ji a:=λi=>(h i).symm
theorem Hp.join_comm {a b:Hp} (h:a.Ji b):a.join b=b.join a:=by
 funext i
 rcases h i with h|h <;> simp [Hp.join,h]
theorem Hp.join_assoc (a b c:Hp):(a.join b).join c=a.join (b.join c):=by
 funext i;simp [Hp.join,Option.or_assoc]
theorem DK (A B:aG):star A B=star B A:=by
 apply aG.ext;intro h;constructor <;> (rintro ⟨a,b,d,rfl,ha,hb⟩;exact ⟨b,a,Hp.agJ d,Hp.join_comm d,hb,ha⟩)
theorem Lr (A B C:aG):star (star A B) C=star A (star B C):=by
 apply aG.ext;intro h;constructor
 ·rintro ⟨ab,c,d,rfl,⟨a,b,d',rfl,ha,hb⟩,hc⟩;refine ⟨a,b.join c,?_,Hp.join_assoc _ _ _,ha,⟨b,c,?_,rfl,hb,hc⟩⟩
  ·intro i;have h1:=d i;have h2:=d' i;simp only [Hp.join,Option.or_eq_none_iff]at *
   cases h:a i <;> simp_all
  ·intro i;have h1:=d i;simp only [Hp.join,Option.or_eq_none_iff]at *
   exact h1.imp (·.2) id
 ·rintro ⟨a,bc,d,rfl,ha,⟨b,c,d',rfl,hb,hc⟩⟩;refine ⟨a.join b,c,?_,(Hp.join_assoc _ _ _).symm,⟨a,b,?_,rfl,ha,hb⟩,hc⟩
  ·intro i;have h1:=d i;have h2:=d' i;simp only [Hp.join,Option.or_eq_none_iff]at *
   cases h:c i <;> simp_all
  ·intro i;have h1:=d i;simp only [Hp.join,Option.or_eq_none_iff]at *
   exact h1.imp id (·.1)
theorem yZ (A B C:aG):star A (star B C)=star B (star A C):=by
 rw [<-Lr,DK A B,Lr]
theorem OW (A:aG):star emp A=A:=by
 apply aG.ext;intro h;constructor
 ·rintro ⟨a,b,_,rfl,ha,hb⟩;have:Hp.join a b=b:=by funext i;rw [show a=_ from ha];simp [Hp.join]
  rw [this];exact hb
 ·intro hh;exact ⟨λ_=>none,h,λ_=> .inl rfl,by funext i;simp [Hp.join],rfl,hh⟩
theorem ano (A:aG):star A emp=A:=by rw [DK,OW]
def stars:List aG->aG
 |[]=>emp
 |A::L=>star A (stars L)
theorem qP (A:aG) (L:List aG):stars (A::L)=star A (stars L):=rfl
theorem qO:∀ L M:List aG,stars (L++M)=star (stars L) (stars M)
 |[],M=>(OW _).symm
 |A::L,M=>by rw [aeI,qP,qO L M,qP,Lr]
theorem anp {L M:List aG} (h:L.Perm M):stars L=stars M:=by
 induction h with
 |nil=>rfl
 |cons x _ ih=>rw [qP,qP,ih]
 |swap x y l=>rw [qP,qP,qP,qP,yZ]
 |trans _ _ ih1 ih2=>exact ih1.trans ih2
theorem DL (A:aG):stars [A]=A:=ano A
def aI (A B:aG):Prop:=∀ h,A h->B h
theorem aI.refl (A:aG):aI A A:=λ_ h=>h
theorem aI.star {A B C D:aG} (h:aI A C) (k:aI B D):aI (star A B) (star C D):=
 λ_ ⟨a,b,d,e,ha,hb⟩=>⟨a,b,d,e,h a ha,k b hb⟩
theorem aI.of_eq {A B:aG} (h:A=B):aI A B:=h ▸ aI.refl _
theorem aI.left {A B C:aG} (h:aI A B):aI (Sl.star A C) (Sl.star B C):=h.star (aI.refl _)
theorem XY {α:Type} (A:α->aG) (B:aG):star (ex A) B=ex λx=>star (A x) B:=by
 apply aG.ext;intro h;constructor
 ·rintro ⟨a,b,d,e,⟨x,ha⟩,hb⟩;exact ⟨x,a,b,d,e,ha,hb⟩
 ·rintro ⟨x,a,b,d,e,ha,hb⟩;exact ⟨a,b,d,e,⟨x,ha⟩,hb⟩
structure Anch (w0 w:World):Prop where
 os:w.os=w0.os
 tape:w.tape=w0.tape
 output:w.output=w0.output
 size:w0.heap.size<=w.heap.size
theorem Anch.refl (w:World):Anch w w:=⟨rfl,rfl,rfl,abl _⟩
def Sat (w0 w:World) (L:List aG):Prop:=Anch w0 w/\∃ h:Hp,(∀ i o,h i=some o->w.heap[i]?=some o)/\stars L h
section
variable {w0 w:World}{A B C D E G:aG}{L M F R:List aG}
theorem Sat.mono (h:Sat w0 w L) (k:aI (stars L) (stars M)):Sat w0 w M:=⟨h.1,h.2.imp λx hx=>⟨hx.1,k x hx.2⟩⟩
theorem Sat.perm (h:Sat w0 w L) (k:L.Perm M):Sat w0 w M:=h.mono (aI.of_eq (anp k))
theorem Sat.head (h:Sat w0 w (A::R)) (k:aI A B):Sat w0 w (B::R):=h.mono k.left
theorem Sat.join (h:Sat w0 w (M++R)) (k:aI (stars M) A):Sat w0 w (A::R):=
 h.mono (λx hx=>by rw [qO]at hx;exact k.left x hx)
theorem Sat.drop (h:Sat w0 w (A::R)):Sat w0 w R:=by
 obtain ⟨ha,x,hx,a,b,d,rfl,pa,pb⟩:=h;refine ⟨ha,b,λi o hi=>hx i o ?_,pb⟩;simp only [Hp.join];rcases d i with h1|h1
 ·simp [h1,hi]
 ·simp [h1]at hi
theorem Sat.bf (h:Sat w0 w (A::B::R)):Sat w0 w (B::A::R):=h.perm (List.Perm.swap _ _ _)
theorem Sat.eH (h:Sat w0 w (A::B::C::R)):Sat w0 w (C::A::B::R):=
 h.perm (((List.Perm.swap C B R).cons A).trans (List.Perm.swap C A _))
theorem Sat.iO (h:Sat w0 w (A::B::C::D::R)):Sat w0 w (D::A::B::C::R):=
 h.perm ((((List.Perm.swap D C R).cons B).cons A).trans (((List.Perm.swap D B _).cons A).trans (List.Perm.swap D A _)))
theorem Sat.rH (h:Sat w0 w (A::B::C::D::E::R)):Sat w0 w (E::A::B::C::D::R):=
 (h.perm ((((List.Perm.swap E D R).cons C).cons B).cons A)).iO
theorem Sat.abo (h:Sat w0 w (B::A::R)):Sat w0 w (A::B::R):=h.bf
theorem Sat.ex {α:Type}{A:α->aG}:Sat w0 w (Sl.ex A::R)↔∃ x,Sat w0 w (A x::R):=by
 constructor
 ·rintro ⟨ha,x,hx,hA⟩;rw [qP,XY]at hA;obtain ⟨y,hA⟩:=hA;exact ⟨y,ha,x,hx,hA⟩
 ·rintro ⟨y,ha,x,hx,hA⟩;refine ⟨ha,x,hx,?_⟩;rw [qP,XY];exact ⟨y,hA⟩
theorem Sat.emp:Sat w0 w (Sl.emp::R)↔Sat w0 w R:=by
 unfold Sat;rw [qP,OW]
theorem Sat.star:Sat w0 w (Sl.star A B::R)↔Sat w0 w (A::B::R):=by
 unfold Sat;rw [qP,qP,qP,Lr]
variable {b:Nat}{o:Obj}
theorem Sat.at (h:Sat w0 w (pt b o::R)):w.heap[b]?=some o:=by
 obtain ⟨_,x,hx,a,c,d,rfl,pa,_⟩:=h;refine hx b o ?_;rw [show a=_ from pa];simp [Hp.join]
theorem Sat.lt (h:Sat w0 w (pt b o::R)):b<w.heap.size:=by
 have:=h.at;rw [amF]at this;exact this.1
theorem Sat.ne {b':Nat}{o':Obj} (h:Sat w0 w (pt b o::pt b' o'::R)):b≠b':=by
 obtain ⟨_,x,hx,a,c,d,rfl,pa,a',c',d',rfl,pa',_⟩:=h;intro e;subst e;rcases d b with h1|h1
 ·rw [show a=_ from pa]at h1;simp at h1
 ·rw [show a'=_ from pa']at h1;simp [Hp.join]at h1
theorem Sat.turn {w':World}{o':Obj} (h:Sat w0 w (pt b o::R)) (ho:w'.os=w.os) (ht:w'.tape=w.tape) (hu:w'.output=w.output)
  (hz:w.heap.size<=w'.heap.size) (hb:w'.heap[b]?=some o') (hr:∀ i,i≠b->i<w.heap.size->w'.heap[i]?=w.heap[i]?):Sat w0 w' (pt b o'::R):=by
 obtain ⟨ha,x,hx,a,c,d,rfl,pa,pr⟩:=h;rw [show a=_ from pa]at hx d;refine ⟨⟨ho.trans ha.os,ht.trans ha.tape,hu.trans ha.output,adt ha.size hz⟩,Hp.join (λi=>if i=b then some o' else none) c,?_,_,c,?_,rfl,rfl,pr⟩
 ·intro i y hy;by_cases hi:i=b
  ·subst hi;simp [Hp.join]at hy;subst hy;exact hb
  ·simp [Hp.join,hi]at hy;have:=hx i y (by simp [Hp.join,hi,hy]);rw [hr i hi,this];rw [amF]at this;exact this.1
 ·intro i;have:=d i;by_cases hi:i=b <;> simp_all
theorem Sat.fresh {w':World} (h:Sat w0 w R) (ho:w'.os=w.os) (ht:w'.tape=w.tape) (hu:w'.output=w.output)
  (hz:w.heap.size<=w'.heap.size) (hbn:w.heap.size<=b) (hb:w'.heap[b]?=some o) (hr:∀ i,i<w.heap.size->w'.heap[i]?=w.heap[i]?):Sat w0 w' (pt b o::R):=by
 obtain ⟨ha,x,hx,pr⟩:=h;have hn:x b=none:=by
  cases hh:x b with
  |none=>rfl
  |some y=>
   have:=hx _ _ hh;rw [amF]at this;have:=this.1;omega
 refine ⟨⟨ho.trans ha.os,ht.trans ha.tape,hu.trans ha.output,adt ha.size hz⟩,Hp.join (λi=>if i=b then some o else none) x,?_,_,x,?_,rfl,rfl,pr⟩
 ·intro i y hy;by_cases hi:i=b
  ·subst hi;simp [Hp.join]at hy;subst hy;exact hb
  ·simp [Hp.join,hi]at hy;have:=hx i y hy;rw [hr i,this];rw [amF]at this;exact this.1
 ·intro i;by_cases hi:i=b <;> simp_all
theorem Sat.alloc (h:Sat w0 w R) (o:Obj):Sat w0 (w.alloc o) (pt w.heap.size o::R):=
 h.fresh rfl rfl rfl yF0 (abl _) (heap_alloc_new w o) (λi hi=>RowKit.Below.heap_alloc w o i hi)
theorem Sat.drew (h:Sat w0 w R):Sat w0 w.drew R:=⟨⟨h.1.os,h.1.tape,h.1.output,h.1.size⟩,h.2⟩
theorem Sat.cellAt {cs:Array Value}{T:TypeId} (h:Sat w0 w (pt b (.cells cs T (0,0))::R)) (i:Nat) (v:Value) (hv:cs[i]?=some v):w.cell? ⟨b,i,none⟩=some v:=by
 have:=h.at;simp [World.cell?,this,hv]
theorem Sat.pY {cs:Array Value}{T:TypeId} (h:Sat w0 w (pt b (.cells cs T (0,0))::R)) (i:Nat):w.frozen? ⟨b,i,none⟩=false:=by
 have:=h.at;simp [World.frozen?,this]
theorem Sat.set {cs:Array Value}{T:TypeId} (h:Sat w0 w (pt b (.cells cs T (0,0))::R)) (i:Nat) (v:Value):Sat w0 (w.setCell ⟨b,i,none⟩ v) (pt b (.cells (cs.setIfInBounds i v) T (0,0))::R):=by
 have hb:=h.at;have hlt:=h.lt;refine h.turn rfl rfl rfl yF0 ?_ ?_
 ·simp only [World.setCell,ajU,apa,hb];simp
 ·intro j hj _;simp only [World.setCell,ajU];rw [abj (Ne.symm hj)]
theorem amZ (L:List aG) (k:Nat) (idx:List Nat) (hk:(L.take k).length=k) (hi:(idx.all (λi=>decide (i<k)) && decide idx.Nodup)=true) :
  ∃ rest,L.Perm ((idx.map (λi=>L.getD i Sl.emp)++L.drop k)++rest):=by
 simp only [aev,ae0,adY]at hi;obtain ⟨h1,h2⟩:=hi;have hrk:L.take k=(List.range k).map (λi=>L.getD i Sl.emp):=by
  apply apu;intro i;rw [aeY,adW];by_cases hik:i<k
  ·have:i<L.length:=by
    have:=apE k L;rw [hk]at this;omega
   simp [hik,adT,this]
  ·simp [hik]
 have hp:(List.range k).Perm (idx++(List.range k).filter λi => !idx.contains i):=by
  rw [List.perm_ext_iff_of_nodup List.nodup_range]
  ·intro a;simp only [List.mem_range,aeg,aem,aqf,List.contains_eq_mem,ae1];constructor
   ·intro h;by_cases ha:a∈idx
    ·exact .inl ha
    ·exact .inr ⟨h,ha⟩
   ·rintro (h|h)
    ·exact h1 a h
    ·exact h.1
  ·rw [List.nodup_append];refine ⟨h2,List.nodup_range.sublist apj,?_⟩;intro a ha b hb e;subst e;have:=(aem.1 hb).2;simp [ha]at this
 refine ⟨((List.range k).filter λi => !idx.contains i).map (λi=>L.getD i Sl.emp),?_⟩;have h3:L=L.take k++L.drop k:=(aeS k L).symm;rw [hrk]at h3;have h4:=(hp.map (λi=>L.getD i Sl.emp)).append_right (L.drop k);rw [adU]at h4;have h5:L.Perm _:=(List.Perm.of_eq h3).trans h4;refine h5.trans ?_;rw [adQ,adQ];exact List.Perm.append_left _ akF
theorem Sat.XA (h:Sat w0 w (L++M)):Sat w0 w L:=by
 obtain ⟨ha,x,hx,hs⟩:=h;rw [qO]at hs;obtain ⟨a,b,d,rfl,pa,pb⟩:=hs;refine ⟨ha,a,λi o hi=>hx i o ?_,pa⟩;simp [Hp.join,hi]
theorem Sat.sel (h:Sat w0 w L) (k:Nat) (idx:List Nat) (hk:(L.take k).length=k) (hi:(idx.all (λi=>decide (i<k)) && decide idx.Nodup)=true) :
  Sat w0 w (idx.map (λi=>L.getD i Sl.emp)++L.drop k):=by
 obtain ⟨rest,hp⟩:=amZ L k idx hk hi;exact (h.perm hp).XA
def Ro (w0:World) (L:List aG) (p:World->Prop):Prop:=∀ w,Sat w0 w L->p w
theorem Ro.cons {p:World->Prop} (h:Ro w0 L p):Ro w0 (A::L) p:=λw hw=>h w hw.drop
def old (w0:World):aG:=λh=>h=λi=>w0.heap[i]?
theorem Sat.old (h:Sat w0 w (old w0::R)){i:Nat} (hi:i<w0.heap.size):w.heap[i]?=w0.heap[i]?:=by
 obtain ⟨_,x,hx,a,c,d,rfl,pa,_⟩:=h;have:w0.heap[i]?=some (w0.heap[i]):=by simp [hi]
 rw [this];refine hx i _ ?_;rw [show a=_ from pa];simp [Hp.join,hi]
theorem Sat.start (w0:World):Sat w0 w0 [Sl.old w0]:=by
 refine ⟨Anch.refl _,λi=>w0.heap[i]?,λi o h=>h,?_⟩;rw [DL];exact rfl
theorem Sat.below (h:Sat w0 w (Sl.old w0::R)):RowKit.Below w0.heap.size w0 w:=
 ⟨h.1.os,h.1.tape,h.1.output,h.1.size,λk hk=>h.old hk⟩
end
end Go.Sl
namespace Go.Sl
open Go Go.MapKept
def aP (Q:Value->World->Prop) (e:Ending) (w:World):Prop:=∃ v,e=.returned v/\Q v w
def bF (sz:Nat) (v:Value) (xs:List Value) (w:World):Prop:=
 ∃ a n cap,v=.slice a n cap/\xs.length=n*sz/\∀ i x,xs[i]?=some x->∃ b,a=some b/\w.cell? (b.add i)=some x
def aC (T sz:Nat) (v:Value) (xs:List Value):aG:=λh=>
 (v=.slice none 0 0/\xs=[]/\emp h) \/
 ∃ b n cap cs,v=.slice (some ⟨b,0,none⟩) n cap/\xs.length=n*sz/\n<=cap/\cap*sz<=cs.size/\cap<=maxLen/\cs.toList.take (n*sz)=xs/\pt b (.cells cs T (0,0)) h
section
variable {w0 w:World}{R L:List aG}{T sz:Nat}{v:Value}{xs:List Value}
theorem gB (T sz:Nat):aC T sz (.slice none 0 0) []=emp:=by
 apply aG.ext;intro h;constructor
 ·rintro (⟨_,_,h⟩|⟨b,n,cap,cs,he,_⟩)
  ·exact h
  ·cases he
 ·intro h;exact .inl ⟨rfl,rfl,h⟩
theorem Sat.gB:Sat w0 w (aC T sz (.slice none 0 0) []::R)↔Sat w0 w R:=by
 rw [Sl.gB];exact Sat.emp
theorem Sat.lN {b n cap:Nat}{cs:Array Value} (h:Sat w0 w (pt b (.cells cs T (0,0))::R)) (hl:xs.length=n*sz) (hn:n<=cap) (hc:cap*sz<=cs.size) (hm:cap<=maxLen)
  (ht:cs.toList.take (n*sz)=xs):Sat w0 w (aC T sz (.slice (some ⟨b,0,none⟩) n cap) xs::R):=
 h.head λ_ hx=> .inr ⟨b,n,cap,cs,rfl,hl,hn,hc,hm,ht,hx⟩
theorem Sat.lC (h:Sat w0 w (aC T sz v xs::R)):(v=.slice none 0 0/\xs=[]/\Sat w0 w R) \/
  ∃ b n cap cs,v=.slice (some ⟨b,0,none⟩) n cap/\xs.length=n*sz/\n<=cap/\cap*sz<=cs.size/\cap<=maxLen/\cs.toList.take (n*sz)=xs/\Sat w0 w (pt b (.cells cs T (0,0))::R):=by
 obtain ⟨ha,x,hx,p,q,d,rfl,hp,hq⟩:=h;rcases hp with ⟨h1,h2,h3⟩|⟨b,n,cap,cs,h1,h2,h3,h4,h5,h6,h7⟩
 ·refine .inl ⟨h1,h2,ha,q,λi o hi=>hx i o ?_,hq⟩;rw [show p=_ from h3];simp [Hp.join,hi]
 ·exact .inr ⟨b,n,cap,cs,h1,h2,h3,h4,h5,h6,ha,_,hx,p,q,d,rfl,h7,hq⟩
theorem rC (b j:Nat):(⟨b,0,none⟩:Addr).add j=⟨b,j,none⟩:=by unfold Addr.add;split <;> simp_all
theorem kY {cs:Array Value}{k:Nat} (ht:cs.toList.take k=xs){i:Nat}{x:Value} (hi:xs[i]?=some x):cs[i]?=some x:=by
 rw [<-ht,aeY]at hi;split at hi
 ·simpa using hi
 ·cases hi
theorem Sat.rd (h:Sat w0 w (aC T sz v xs::R)):bF sz v xs w:=by
 rcases h.lC with ⟨rfl,rfl,_⟩|⟨b,n,cap,cs,rfl,hl,hn,hc,hm,ht,hp⟩
 ·exact ⟨none,0,0,rfl,by simp,by simp⟩
 ·refine ⟨some ⟨b,0,none⟩,n,cap,rfl,hl,λi x hi=>⟨_,rfl,?_⟩⟩;rw [rC];exact hp.cellAt i x (kY ht hi)
theorem xu (sz cap:Nat) (w:World):bF sz (.slice none 0 cap) [] w:=⟨none,0,cap,rfl,by simp,by simp⟩
end
section
variable {P:Program}{w0 w:World}{R:List aG}{sz:Nat}{v x:Value}{xs ys:List Value}
theorem acn (t ty e:TypeId) (i:TypeInfo) (z:Value) (ht:P.underlying t=some (.slice e)) (hi:P.info? e=some i) (hz:i.zero=some z)
  (hs:i.size=sz) (hzs:z.cells.size=sz) (hsz:0<sz) (h1:∀ u∈ys,u.oneCell'=true)
  (h:Sat w0 w (aC e sz v xs::R)) (hx:bF sz x ys w) (h63:xs.length+ys.length<=maxLen) (hby:(xs.length+ys.length)*i.bytes<=140737488355328) :
  ∃ v' w',(Builtin.append_ #[t,t] ty #[v,x]).run P w=.ok v' w'/\Sat w0 w' (aC e sz v' (xs++ys)::R)/\(xs++ys≠[]->∃ b n c,v'=.slice (some ⟨b,0,none⟩) n c):=by
 subst hs;obtain ⟨xa,m,c,rfl,hyl,yE⟩:=hx;have hle:∀ {p q:Nat},p=q*i.size->q<=p:=λ{p q} e=>by rw [e];exact Nat.le_mul_of_pos_right _ hsz
 have hm:=hle hyl;by_cases hm0:m=0
 ·subst hm0;obtain rfl:ys=[]:=agZ (by simpa using hyl);rcases h.lC with ⟨rfl,rfl,h'⟩|⟨b,n,cap,cs,rfl,hl,hn,hc,hcm,htk,hp⟩
  ·refine ⟨.slice none 0 0,w,?_,by simpa using h,by simp⟩;cases xa <;> simp [Builtin.append_,afM ht,sizeOf,typeInfo,hi,Builtin.lenOf,Builtin.firstCells,loadCells,loadCellsFrom]
  ·refine ⟨.slice (some ⟨b,0,none⟩) n cap,w,?_,by simpa using h,λ_=>⟨_,_,_,rfl⟩⟩;cases xa <;> simp [Builtin.append_,afM ht,sizeOf,typeInfo,hi,Builtin.lenOf,Builtin.firstCells,loadCells,loadCellsFrom,hn,storeCells]
 ·have hy0:ys≠[]:=by
   intro e;subst e;have:m*i.size=0:=by simpa using hyl.symm
   rcases Nat.mul_eq_zero.1 this with h|h <;> omega
  obtain ⟨ad,rfl⟩:∃ ad,xa=some ad:=by
   obtain ⟨y,hy⟩:∃ y,ys[0]?=some y:=by
    cases ys with
    |nil=>exact absurd rfl hy0
    |cons y _=>exact ⟨y,rfl⟩
   obtain ⟨b,hb,_⟩:=yE 0 y hy;exact ⟨b,hb⟩
  have hnews:∀ j u,ys[j]?=some u->w.cell? (ad.add j)=some u:=λj u hj=>by
   obtain ⟨b,hb,hx⟩:=yE j u hj;cases hb;exact hx
  have h63':maxLen=9223372036854775807:=rfl
  have grown:∀ (n old:Nat) (_:n*i.size=xs.length) (_:old<n+m) (_:Sat w0 w R),Sat w0 (w.drew.alloc (.cells (xs.toArray++ys.toArray++Builtin.zeroCells z.cells (grownCap w (n+m) old e-(n+m))) e))
    (aC e i.size (.slice (some ⟨w.heap.size,0,none⟩) (n+m) (grownCap w (n+m) old e)) (xs++ys)::R):=by
   intro n old hn ho hR;have hge:=grownCap_ge w (n+m) old e;have hnx:=hle hn.symm;have hcm:=grownCap_le_maxLen w (n+m) old e oQ;have:=(hR.drew).alloc (.cells (xs.toArray++ys.toArray++Builtin.zeroCells z.cells (grownCap w (n+m) old e-(n+m))) e);refine Sat.lN this ?_ hge ?_ hcm ?_
   ·rw [aaL,<-hn,hyl,akH]
   ·simp only [Array.size_append,abn,size_zeroCells,hzs];rw [<-hn,hyl,<-akH,<-akH];exact ae4 _ oQ
   ·simp only [ap3,adQ];rw [<-adQ];have e1:(n+m)*i.size=(xs++ys).length:=by rw [aaL,<-hn,hyl,akH]
    rw [e1];exact List.take_left
  rcases h.lC with ⟨rfl,rfl,h'⟩|⟨b,n,cap,cs,rfl,hl,hn,hc,hcm,htk,hp⟩
  ·have CG:m*i.bytes<=140737488355328:=by
    refine adt (ae4 _ ?_) hby;simp;omega
   have hr:=run_append_nil (P:=P) w t ty e i z ht hi hz ad m c ys hyl hnews oQ (by simp at h63;omega) oQ;have hg:=grown 0 0 yF0 oQ h';simp only [ad8,aeu,Array.empty_append]at hg ⊢;exact ⟨_,_,hr,hg,λ_=>⟨_,_,_,rfl⟩⟩
  ·by_cases hroom:n+m<=cap
   ·have hfit:n*i.size+ys.length<=cs.size:=by
     rw [hyl,<-akH];exact adt (ae4 _ hroom) hc
    have hr:=run_append_room (P:=P) w t ty e i ht hi b n cap cs hp.at ad m c ys hyl hnews h1 hroom hfit;refine ⟨_,_,hr,?_,λ_=>⟨_,_,_,rfl⟩⟩;have aiC:=hp.turn (w':=w.setRow b (cs.toList.take (n*i.size)++ys++cs.toList.drop (n*i.size+ys.length)).toArray) rfl rfl rfl yF0 (setRow_heap w b cs _ e _ hp.at) (λj hj _=>setRow_other w b j _ hj);refine Sat.lN aiC ?_ hroom ?_ hcm ?_
    ·rw [aaL,hl,hyl,akH]
    ·simp only [abn,aaL,ads,ad3,ad4];omega
    ·rw [htk];have e1:(n+m)*i.size=(xs++ys).length:=by rw [aaL,hl,hyl,akH]
     rw [e1];exact List.take_left
   ·have holds:∀ j u,xs[j]?=some u->w.cell? ((⟨b,0,none⟩:Addr).add j)=some u:=λj u hj=>by
     rw [rC];exact hp.cellAt j u (kY htk hj)
    have hnx:=hle hl;have CG:(n+m)*i.bytes<=140737488355328:=adt (ae4 _ oQ) hby;have hr:=run_append_grow (P:=P) w t ty e i z ht hi hz ⟨b,0,none⟩ n cap xs hl holds ad m c ys hyl hnews oQ oQ (growslice_fits oQ CG);exact ⟨_,_,hr,grown n cap hl.symm oQ hp.drop,λ_=>⟨_,_,_,rfl⟩⟩
theorem UD {o:Oper}{a:Act}{K:Act->World->Prop}{Q:Exit->Act->World->Prop} (s y:Operand) (t:TypeId)
  (ho:o.op=.call { callee:= .builtin .append,args:=#[s,y],argTypes:=#[t,t] })
  (e:TypeId) (i:TypeInfo) (z:Value) (ht:P.underlying t=some (.slice e)) (hi:P.info? e=some i) (hz:i.zero=some z)
  (hs:i.size=sz) (hzs:z.cells.size=sz) (hsz:0<sz) (hv:a.eval s=v) (hxv:a.eval y=x) (h1:∀ u∈ys,u.oneCell'=true)
  (h:Sat w0 w (aC e sz v xs::R)) (hx:bF sz x ys w) (h63:xs.length+ys.length<=maxLen) (hby:(xs.length+ys.length)*i.bytes<=140737488355328)
  (hK:∀ v' w',Sat w0 w' (aC e sz v' (xs++ys)::R)->(xs++ys≠[]->∃ b n c,v'=.slice (some ⟨b,0,none⟩) n c)->K (a.put o.dst v') w'):o.wp P a w K Q:=by
 obtain ⟨v',w',hr,h2,h3⟩:=acn (P:=P) t o.type e i z ht hi hz hs hzs hsz h1 h hx h63 hby;unfold Oper.wp execOp;simp only [ho,resolve,invoke,builtin,ad1,aek,adu,aeX,ad7,aeF,hv,hxv,hr];exact hK v' w' h2 h3
theorem zo {ops:Array Oper}{rest:List Oper}{o:Oper}{a:Act}{Q:Exit->Act->World->Prop} (hgd:o.guard=none) (s y:Operand) (t:TypeId)
  (ho:o.op=.call { callee:= .builtin .append,args:=#[s,y],argTypes:=#[t,t] })
  (e:TypeId) (i:TypeInfo) (z:Value) (ht:P.underlying t=some (.slice e)) (hi:P.info? e=some i) (hz:i.zero=some z)
  (hs:i.size=sz) (hzs:z.cells.size=sz) (hsz:0<sz) (hv:a.eval s=v) (hxv:a.eval y=x) (h1:∀ u∈ys,u.oneCell'=true)
  (h:Sat w0 w (aC e sz v xs::R)) (hx:bF sz x ys w) (h63:xs.length+ys.length<=maxLen) (hby:(xs.length+ys.length)*i.bytes<=140737488355328)
  (hK:∀ v' w',Sat w0 w' (aC e sz v' (xs++ys)::R)->(xs++ys≠[]->∃ b n c,v'=.slice (some ⟨b,0,none⟩) n c)->wpList P ops Q rest (a.put o.dst v') w'):wpList P ops Q (o::rest) a w:=
 aeV hgd λ_ hK'=>UD s y t ho e i z ht hi hz hs hzs hsz hv hxv h1 h hx h63 hby λv' w' h2 h3=>hK' _ _ (hK v' w' h2 h3)
end
theorem step_append {P:Program}{w0 w:World}{R:List aG}{sz:Nat}{v x:Value}{xs ys:List Value}{ops:Array Oper}{o:Oper}{a:Act}{K:Act->World->Prop}{Q:Exit->Act->World->Prop}{E:Prop} (hgd:o.guard=none) (s y:Operand) (t:TypeId)
  (ho:o.op=.call { callee:= .builtin .append,args:=#[s,y],argTypes:=#[t,t] })
  (e:TypeId) (i:TypeInfo) (z:Value) (ht:P.underlying t=some (.slice e)) (hi:P.info? e=some i) (hz:i.zero=some z)
  (hs:i.size=sz) (hzs:z.cells.size=sz) (hsz:0<sz) (hv:a.eval s=v) (hxv:a.eval y=x) (h1:∀ u∈ys,u.oneCell'=true)
  (h:Sat w0 w (aC e sz v xs::R)) (hx:bF sz x ys w) (h63:xs.length+ys.length<=maxLen) (hby:(xs.length+ys.length)*i.bytes<=140737488355328)
  (hK:∀ v' w',Sat w0 w' (aC e sz v' (xs++ys)::R)->(xs++ys≠[]->∃ b n c,v'=.slice (some ⟨b,0,none⟩) n c)->K (a.put o.dst v') w') :
  if Region.wanted o (yielded ops a.tmps)=true then Oper.wp P o a w K Q else E:=by
 have hw:Region.wanted o (yielded ops a.tmps)=true:=by simp [Region.wanted,hgd]
 rw [acg hw];exact UD s y t ho e i z ht hi hz hs hzs hsz hv hxv h1 h hx h63 hby hK
theorem AU (w:World) (cs:Array Value) (T sz n c:Nat) (hn:cs.size=n*sz):bF sz (.slice (some ⟨w.heap.size,0,none⟩) n c) cs.toList (w.alloc (.cells cs T)):=
 ⟨_,n,c,rfl,by simpa using hn,λi x hi=>⟨_,rfl,by rw [rC,World.cell?_alloc_new];simpa using hi⟩⟩
def omap (d:TypeDesc) (b:Nat) (l:List (Value×Value)):aG:=λh=>
 ∃ es clock,(es.toList.map λe=>(e.key,e.val)).Perm l/\Stamped es clock/\(∀ x∈es.toList,IsKey d x.key)/\pt b (.map es clock) h
section
variable {P:Program}{w0 w:World}{R:List aG}{d:TypeDesc}{b:Nat}{l l':List (Value×Value)}
theorem F8 (hp:l.Perm l'):omap d b l=omap d b l':=by
 apply aG.ext;intro h;exact ⟨λ⟨es,c,h1,h2⟩=>⟨es,c,h1.trans hp,h2⟩,λ⟨es,c,h1,h2⟩=>⟨es,c,h1.trans hp.symm,h2⟩⟩
theorem Sat.F8 (h:Sat w0 w (omap d b l::R)) (hp:l.Perm l'):Sat w0 w (omap d b l'::R):=Sl.F8 hp ▸ h
theorem Sat.Di (h:Sat w0 w (omap d b l::R)):∃ es clock,(es.toList.map λe=>(e.key,e.val)).Perm l/\Stamped es clock/\(∀ x∈es.toList,IsKey d x.key)/\Sat w0 w (pt b (.map es clock)::R):=by
 obtain ⟨ha,x,hx,p,q,dd,rfl,⟨es,c,h1,h2,h3,h4⟩,hq⟩:=h;exact ⟨es,c,h1,h2,h3,ha,_,hx,p,q,dd,rfl,h4,hq⟩
theorem Sat.Dj {es:Array MapEntry}{clock:Nat} (h:Sat w0 w (pt b (.map es clock)::R)) (h1:(es.toList.map λe=>(e.key,e.val)).Perm l) (h2:Stamped es clock) (h3:∀ x∈es.toList,IsKey d x.key):Sat w0 w (omap d b l::R):=
 h.head λ_ hx=>⟨es,clock,h1,h2,h3,hx⟩
theorem Sat.KA (h:Sat w0 w (omap d b l::R)):(l.map (·.1)).Nodup:=by
 obtain ⟨es,c,h1,h2,h3,h4⟩:=h.Di;have:=(h1.map (·.1)).nodup_iff.1 (by rw [aeW];exact h2.2.2);exact this
theorem Sat.F7 (h:Sat w0 w R) (d:TypeDesc):Sat w0 (w.alloc (.map #[] 0)) (omap d w.heap.size []::R):=
 (h.alloc _).Dj yF0 (stamped_empty 0) yF0
variable {mty kt et:TypeId}{key:Value}
theorem Tm (hm:P.underlying mty=some (.map kt et)) (hd:P.underlying kt=some d){z:Value} (hz:(zeroValue et).run P w=.ok z w) (hk:IsKey d key) (h:Sat w0 w (omap d b l::R)) :
  (∃ v,(key,v)∈l/\(Instr.lookup mty (.map (some b)) key false).run P w=.ok v w/\(Instr.lookup mty (.map (some b)) key true).run P w=.ok (.tuple #[v,.bool true]) w) \/
  ((∀ p∈l,p.1≠key)/\(Instr.lookup mty (.map (some b)) key false).run P w=.ok z w/\(Instr.lookup mty (.map (some b)) key true).run P w=.ok (.tuple #[z,.bool false]) w):=by
 obtain ⟨es,c,h1,h2,h3,h4⟩:=h.Di;have hb:=h4.at;rcases findNow_spec hk es.toList 0 h3 with ⟨f1,f2⟩|⟨j,e,f1,f2,f3⟩
 ·refine .inr ⟨?_,?_,?_⟩
  ·intro p hp e;have:=(h1.mem_iff.2 hp);obtain ⟨x,hx,hxe⟩:=abL.1 this;refine f2 x hx ?_;rw [<-e,<-hxe]
  ·simp [Instr.lookup,afM hm,ah5 hb,ao2 hd hk,aps hd f1,Result.andThen,hz]
  ·simp [Instr.lookup,afM hm,ah5 hb,ao2 hd hk,aps hd f1,Result.andThen,hz]
 ·refine .inl ⟨e.val,?_,?_,?_⟩
  ·refine h1.mem_iff.1 (abL.2 ⟨e,abA f2,?_⟩);rw [f3]
  ·simp [Instr.lookup,afM hm,ah5 hb,ao2 hd hk,aps hd f1,Result.andThen]
  ·simp [Instr.lookup,afM hm,ah5 hb,ao2 hd hk,aps hd f1,Result.andThen]
theorem run_store (hm:P.underlying mty=some (.map kt et)) (hd:P.underlying kt=some d) (hk:IsKey d key) (v:Value) (h:Sat w0 w (omap d b l::R)) :
  ∃ w',(Instr.mapUpdate mty (.map (some b)) key v).run P w=.ok () w'/\∀ l0,(l.Perm l0/\(∀ p∈l0,p.1≠key)\/∃ v0,l.Perm ((key,v0)::l0))->Sat w0 w' (omap d b ((key,v)::l0)::R):=by
 obtain ⟨es,c,h1,h2,h3,h4⟩:=h.Di;have hb:=h4.at;have hnd:=h.KA
 have turn:∀ o':Obj,Sat w0 { w with heap:=w.heap.setIfInBounds b o' } (pt b o'::R):=λo'=>
  h4.turn rfl rfl rfl yF0 (heap_set hb).1 (λi hi _=>(heap_set hb).2 i hi)
 rcases findNow_spec hk es.toList 0 h3 with ⟨f1,f2⟩|⟨j,e,f1,f2,f3⟩
 ·refine ⟨_,by simp [Instr.mapUpdate,afM hm,ah5 hb,ao2 hd hk,aps hd f1,MapKept.run_setObj_map _ hb,Result.andThen];rfl,?_⟩;intro l0 hl0;refine (turn _).Dj ?_ (stamped_push h2 f2) ?_
  ·have hp:l.Perm l0:=by
    rcases hl0 with ⟨hp,_⟩|⟨v0,hp⟩
    ·exact hp
    ·exfalso;have:(key,v0)∈es.toList.map λe=>(e.key,e.val):=h1.mem_iff.2 (hp.mem_iff.2 (.head _));obtain ⟨x,hx,hxe⟩:=abL.1 this;exact f2 x hx (aey Prod.fst hxe)
   simp only [Array.toList_push,adU,ad7,aeF];exact (akF).trans (by simpa using (h1.trans hp).cons (key,v))
  ·intro x hx;simp only [Array.toList_push,aeg,adZ]at hx;rcases hx with hx|rfl
   ·exact h3 x hx
   ·exact hk
 ·have hj:es[j]?=some e:=by simpa using f2
  refine ⟨_,by simp [Instr.mapUpdate,afM hm,ah5 hb,ao2 hd hk,aps hd f1,hj,f3,MapKept.run_keyThatStays hk,MapKept.run_setObj_map _ hb,Result.andThen];rfl,?_⟩;intro l0 hl0;have hkey:∀ e',es[j]?=some e'->({ e' with key:=key,val:=v }:MapEntry).key=e'.key:=λe' he'=>by rw [hj]at he';cases he';exact f3.symm
  refine (turn _).Dj ?_ (stamped_modify h2 _ _ (λ_ _=>rfl) (λe' _ he'=>hkey e' he')) (isKey_modify h3 _ _ hkey);have hmem:(key,e.val)∈l:=h1.mem_iff.1 (abL.2 ⟨e,abA f2,by rw [f3]⟩);have hlt:j<es.toList.length:=(abm.1 f2).1;have hsplit:es.toList=es.toList.take j++e::es.toList.drop (j+1):=by
   have he:es.toList[j]=e:=(abm.1 f2).2;rw [<-he,List.getElem_cons_drop,aeS]
  have hp:l.Perm ((key,e.val)::l0):=by
   rcases hl0 with ⟨hp,hne⟩|⟨v0,hp⟩
   ·exact absurd rfl (hne _ (hp.mem_iff.1 hmem))
   ·have:(key,e.val)∈(key,v0)::l0:=hp.mem_iff.1 hmem;rcases ad5.1 this with hh|hh
    ·rw [hh];exact hp
    ·have hn:=(hp.map (·.1)).nodup_iff.1 hnd;simp only [ad7,akZ]at hn;exact absurd (abL.2 ⟨_,hh,rfl⟩) hn.1
  have hmod:(es.modify j λe=>{ e with key:=key,val:=v }).toList=es.toList.take j++{ e with key:=key,val:=v }::es.toList.drop (j+1):=by
   rw [Array.toList_modify,List.modify_eq_take_cons_drop hlt];have he:es.toList[j]=e:=(abm.1 f2).2;rw [he]
  rw [hmod];rw [hsplit]at h1;simp only [adU,ad7]at h1 ⊢;rw [f3]at h1;have h5:((key,e.val)::((es.toList.take j).map (λe=>(e.key,e.val))++(es.toList.drop (j+1)).map (λe=>(e.key,e.val)))).Perm ((key,e.val)::l0):=(apb.symm.trans h1).trans hp;exact apb.trans ((List.Perm.cons_inv h5).cons _)
theorem ame {ty:TypeId} (hm:P.underlying mty=some (.map kt et)) (hd:P.underlying kt=some d) (hk:IsKey d key) (h:Sat w0 w (omap d b l::R)) :
  ∃ w',(Builtin.delete_ #[mty,kt] ty #[.map (some b),key]).run P w=.ok (.tuple #[]) w'/\∀ l0,(l.Perm l0/\(∀ p∈l0,p.1≠key)\/∃ v0,l.Perm ((key,v0)::l0))->Sat w0 w' (omap d b l0::R):=by
 obtain ⟨es,c,h1,h2,h3,h4⟩:=h.Di;have hb:=h4.at;have hnd:=h.KA
 have turn:∀ o':Obj,Sat w0 { w with heap:=w.heap.setIfInBounds b o' } (pt b o'::R):=λo'=>
  h4.turn rfl rfl rfl yF0 (heap_set hb).1 (λi hi _=>(heap_set hb).2 i hi)
 rcases findNow_spec hk es.toList 0 h3 with ⟨f1,f2⟩|⟨j,e,f1,f2,f3⟩
 ·refine ⟨_,by simp [Builtin.delete_,afM hm,ah5 hb,ao2 hd hk,aps hd f1,MapKept.run_setObj_map _ hb,Result.andThen];rfl,?_⟩;intro l0 hl0;refine (turn _).Dj ?_ h2 h3;rcases hl0 with ⟨hp,_⟩|⟨v0,hp⟩
  ·exact h1.trans hp
  ·exfalso;have:(key,v0)∈es.toList.map λe=>(e.key,e.val):=h1.mem_iff.2 (hp.mem_iff.2 (.head _));obtain ⟨x,hx,hxe⟩:=abL.1 this;exact f2 x hx (aey Prod.fst hxe)
 ·refine ⟨_,by simp [Builtin.delete_,afM hm,ah5 hb,ao2 hd hk,aps hd f1,MapKept.run_setObj_map _ hb,Result.andThen];rfl,?_⟩;intro l0 hl0;have hlt:j<es.toList.length:=(abm.1 f2).1;have Y3:(es.eraseIdxIfInBounds j).toList=es.toList.take j++es.toList.drop (j+1):=by
   unfold Array.eraseIdxIfInBounds;rw [dif_pos (by simpa using hlt),Array.toList_eraseIdx,apQ]
  refine (turn _).Dj ?_ (stamped_erase h2 _) ?_
  ·have hmem:(key,e.val)∈l:=h1.mem_iff.1 (abL.2 ⟨e,abA f2,by rw [f3]⟩);have hp:l.Perm ((key,e.val)::l0):=by
    rcases hl0 with ⟨hp,hne⟩|⟨v0,hp⟩
    ·exact absurd rfl (hne _ (hp.mem_iff.1 hmem))
    ·have:(key,e.val)∈(key,v0)::l0:=hp.mem_iff.1 hmem;rcases ad5.1 this with hh|hh
     ·rw [hh];exact hp
     ·have hn:=(hp.map (·.1)).nodup_iff.1 hnd;simp only [ad7,akZ]at hn;exact absurd (abL.2 ⟨_,hh,rfl⟩) hn.1
   have hsplit:es.toList=es.toList.take j++e::es.toList.drop (j+1):=by
    have he:es.toList[j]=e:=(abm.1 f2).2;rw [<-he,List.getElem_cons_drop,aeS]
   rw [Y3];rw [hsplit]at h1;simp only [adU,ad7]at h1 ⊢;rw [f3]at h1;exact List.Perm.cons_inv ((apb.symm.trans h1).trans hp)
  ·intro x hx;rw [Y3]at hx;refine h3 x ?_;rcases aeg.1 hx with hx|hx
   ·exact aeP hx
   ·exact List.mem_of_mem_drop hx
theorem acy (hm:P.underlying mty=some (.map kt et)) (ty:TypeId) (h:Sat w0 w (omap d b l::R)):(Builtin.len_ #[mty] ty #[.map (some b)]).run P w=.ok (.int .i64 l.length) w:=by
 obtain ⟨es,c,h1,h2,h3,h4⟩:=h.Di;have hb:=h4.at;have hl:=h1.length_eq;simp at hl;simp [Builtin.len_,afM hm,ah5 hb,Result.andThen,goInt,hl]
end
section
variable {P:Program}{w0 w:World}{R:List aG}{d:TypeDesc}{b:Nat}{l:List (Value×Value)}{key:Value}{t kt et:TypeId}
variable {ops:Array Oper}{rest:List Oper}{o:Oper}{a:Act}{Q:Exit->Act->World->Prop}
theorem adE (hg:o.guard=none) (m x:Operand) (hop:o.op=Op.call { callee:=Callee.builtin Builtin.delete,args:=#[m,x],argTypes:=#[t,kt] })
  (hm:P.underlying t=some (.map kt et)) (hd:P.underlying kt=some d) (hmv:a.eval m=.map (some b)) (hxv:a.eval x=key) (hk:IsKey d key) (h:Sat w0 w (omap d b l::R))
  (l0:List (Value×Value)) (hl:l.Perm l0/\(∀ p∈l0,p.1≠key)\/∃ v0,l.Perm ((key,v0)::l0))
  (hK:∀ w',Sat w0 w' (omap d b l0::R)->wpList P ops Q rest (a.put o.dst (.tuple #[])) w'):wpList P ops Q (o::rest) a w:=by
 refine aeV hg λK' hK'=>?_;obtain ⟨w',hrun,hs⟩:=ame (P:=P) (ty:=o.type) hm hd hk h;unfold Oper.wp;simp [execOp,hop,resolve,invoke,builtin,hmv,hxv,hrun,Result.andThen];exact hK' _ _ (hK w' (hs l0 hl))
theorem MC (hg:o.guard=none) (m x y:Operand) (hop:o.op=Op.mapUpdate t m x y)
  (hm:P.underlying t=some (.map kt et)) (hd:P.underlying kt=some d) (hmv:a.eval m=.map (some b)) (hxv:a.eval x=key) {v:Value} (hyv:a.eval y=v) (hk:IsKey d key) (h:Sat w0 w (omap d b l::R))
  (l0:List (Value×Value)) (hl:l.Perm l0/\(∀ p∈l0,p.1≠key)\/∃ v0,l.Perm ((key,v0)::l0))
  (hK:∀ w',Sat w0 w' (omap d b ((key,v)::l0)::R)->wpList P ops Q rest (a.put o.dst undef) w'):wpList P ops Q (o::rest) a w:=by
 refine aeV hg λK' hK'=>?_;obtain ⟨w',hrun,hs⟩:=run_store (P:=P) hm hd hk v h;unfold Oper.wp;simp [execOp,hop,hmv,hxv,hyv,hrun,Result.andThen];exact hK' _ _ (hK w' (hs l0 hl))
end
end Go.Sl
namespace Go.ay
abbrev Bs:=List UInt8
structure jm where
 cut:Bool
 n:Nat
 b:Bs
def jm.on (c:jm) (l:Bs):Bs:=if c.cut then l.take c.n else l++c.b
structure bK where
 fast:Bs
 now:Bs
 waits:List jm
def bK.new:bK:=⟨[],[],[]⟩
def bK.do (f:bK) (c:jm):bK:={ f with now:=c.on f.now,waits:=f.waits++[c] }
def bK.sync (f:bK):bK:={ f with fast:=f.now,waits:=[] }
def bK.at (f:bK) (k:Nat):Bs:=(f.waits.take k).foldl (λb c=>c.on b) f.fast
def Jd (x:Int) (hi:Nat):Nat:=min x.toNat hi
def bK.left (f:bK) (whole LQ:Int):Bs:=
 let k:=Jd whole f.waits.length
 match f.waits[k]? with
 |some c=>if c.cut then f.at k else f.at k++c.b.take (Jd LQ c.b.length)
 |none=>f.at k
def bK.crash (f:bK) (whole LQ:Int):bK:=⟨f.left whole LQ,f.left whole LQ,[]⟩
abbrev Names:=List (ByteArray×Nat)
def lt (a b:ByteArray):Bool:=decide (a.data.toList<b.data.toList)
def bU (l:Names) (s:ByteArray):Option Nat:=(l.find? λp=>p.1==s).map (·.2)
def iD (l:Names) (s:ByteArray):Names:=l.filter λp=>p.1 != s
def sJ:Names->ByteArray->Nat->Names
 |[],s,i=>[(s,i)]
 |p::l,s,i=>if lt s p.1 then (s,i)::p::l else p::sJ l s i
def kV (l:Names) (s:ByteArray) (i:Nat):Names:=sJ (iD l s) s i
structure jc where
 fr:ByteArray
 to:ByteArray
 f:Nat
def jc.on (x:jc) (l:Names):Names:=
 let l:=if x.fr=ByteArray.empty then l else iD l x.fr
 if x.to=ByteArray.empty then l else kV l x.to x.f
structure ay where
 room:Nat
 fast:Names
 now:Names
 files:List bK
 waits:List jc
 armed:Bool
 left:Nat
 off:Bool
def ay.file (m:ay) (i:Nat):bK:=m.files.getD i bK.new
def ay.used (m:ay):Nat:=(m.now.map λp=>(m.file p.2).now.length).sum
def new (room:Nat):ay:=⟨room,[],[],[],[],false,0,false⟩
def oO (c:UInt8):Bool:=(97<=c && c<=122) || (48<=c && c<=57) || c==46 || c==45
def good (s:ByteArray):Bool:=decide (1<=s.size) && decide (s.size<=24) && s.data.toList.all oO
def ay.step (m:ay):ay×Bool:=
 if m.armed then (if m.left=0 then ({ m with off:=true },false) else ({ m with left:=m.left-1 },true)) else (m,true)
def ay.link (m:ay) (x:jc):ay:={ m with now:=x.on m.now,waits:=m.waits++[x] }
def ay.jf (m:ay) (i:Nat) (f:bK):ay:={ m with files:=m.files.set i f }
def ay.create (m:ay) (s:ByteArray):ay×Int:=
 if m.off then (m,12)
 else if good s=false then (m,7)
 else if (bU m.now s).isSome then (m,10)
 else if 500<=m.now.length then (m,16)
 else if m.step.2=false then (m.step.1,12)
 else ({ m.step.1 with files:=m.files++[bK.new] }.link ⟨ByteArray.empty,s,m.files.length⟩,0)
def ay.append (m:ay) (s:ByteArray) (b:Bs):ay×Int:=
 if m.off then (m,12)
 else match bU m.now s with
 |none=>(m,9)
 |some i=>
  if (m.room:Int)-m.used<b.length then (m,11)
  else if m.step.2=false then (m.step.1,12)
  else (m.step.1.jf i ((m.file i).do ⟨false,0,b⟩),0)
def ay.truncate (m:ay) (s:ByteArray) (n:Int):ay×Int:=
 if m.off then (m,12)
 else match bU m.now s with
 |none=>(m,9)
 |some i=>
  if n<0\/((m.file i).now.length:Int)<n then (m,2)
  else if m.step.2=false then (m.step.1,12)
  else (m.step.1.jf i ((m.file i).do ⟨true,n.toNat,[]⟩),0)
def ay.rename (m:ay) (s t:ByteArray):ay×Int:=
 if m.off then (m,12)
 else match bU m.now s with
 |none=>(m,9)
 |some i=>
  if good t=false then (m,7)
  else if m.step.2=false then (m.step.1,12)
  else (m.step.1.link ⟨s,t,i⟩,0)
def ay.remove (m:ay) (s:ByteArray):ay×Int:=
 if m.off then (m,12)
 else match bU m.now s with
 |none=>(m,9)
 |some _=>
  if m.step.2=false then (m.step.1,12)
  else (m.step.1.link ⟨s,ByteArray.empty,0⟩,0)
def ay.sync (m:ay) (s:ByteArray):ay×Int:=
 if m.off then (m,12)
 else match bU m.now s with
 |none=>(m,9)
 |some i=>
  if m.step.2=false then (m.step.1,12)
  else (m.step.1.jf i (m.file i).sync,0)
def ay.dR (m:ay):ay×Int:=
 if m.off then (m,12)
 else if m.step.2=false then (m.step.1,12)
 else ({ m.step.1 with fast:=m.now,waits:=[] },0)
def ay.read (m:ay) (s:ByteArray) (at_ n:Int):Bs×Int:=
 if m.off then ([],12)
 else match bU m.now s with
 |none=>([],9)
 |some i=>
  let l:=(m.file i).now
  if at_<0\/n<0 then ([],2)
  else if (l.length:Int)<at_\/(l.length:Int)-at_<n then ([],3)
  else ((l.drop at_.toNat).take n.toNat,0)
def ay.all (m:ay) (s:ByteArray):Bs×Int:=
 if m.off then ([],12)
 else match bU m.now s with
 |none=>([],9)
 |some i=>((m.file i).now,0)
def ay.size (m:ay) (s:ByteArray):Int×Int:=
 if m.off then (0,12)
 else match bU m.now s with
 |none=>(0,9)
 |some i=>((m.file i).now.length,0)
def ay.list (m:ay):List ByteArray:=if m.off then [] else m.now.map (·.1)
def ay.uJ (m:ay):Nat:=if m.off then 0 else m.used
def ay.DI (m:ay) (n:Int):ay×Int:=
 if m.off then (m,12) else if n<0\/16777216<n then (m,2) else ({ m with room:=n.toNat },0)
def ay.arm (m:ay) (n:Int):ay×Int:=
 if m.off then (m,12) else if n<0 then (m,2) else ({ m with armed:=true,left:=n.toNat },0)
def num (l:List Int) (i:Nat):Int:=l.getD i 0
def ay.pG (m:ay) (k:Nat):Names:=(m.waits.take k).foldl (λl x=>x.on l) m.fast
def Xi (l:List Int):Names->Nat->List bK->List bK
 |[],_,fs=>fs
 |p::ns,j,fs=>Xi l ns (j+2) (fs.set p.2 ((fs.getD p.2 bK.new).crash (num l j) (num l (j+1))))
def ay.crash (m:ay) (l:List Int):ay:=
 let ns:=m.pG (Jd (num l 0) m.waits.length)
 { m with fast:=ns,now:=ns,waits:=[],files:=Xi l ns 1 m.files,off:=false,armed:=false,left:=0 }
def jE (l:Bs) (i:Nat) (y:UInt8):Bs:=l.set i (l.getD i 0 ^^^ y)
def yV (f:bK) (i:Nat) (y:UInt8):Nat->Option (List jm)
 |0=>none
 |k+1=>
  match f.waits[k]? with
  |none=>yV f i y k
  |some c=>if c.cut then yV f i y k
   else if (f.at k).length<=i then some (f.waits.set k { c with b:=jE c.b (i-(f.at k).length) y })
   else yV f i y k
def bK.oJ (f:bK) (i:Nat) (y:UInt8):bK:=
 match yV f i y f.waits.length with
 |some ws=>{ f with now:=jE f.now i y,waits:=ws }
 |none=>{ f with now:=jE f.now i y,fast:=jE f.fast i y }
def ay.oJ (m:ay) (s:ByteArray) (i:Int) (y:UInt8):ay×Bool:=
 match bU m.now s with
 |none=>(m,false)
 |some k=>if i<0\/((m.file k).now.length:Int)<=i then (m,false) else (m.jf k ((m.file k).oJ i.toNat y),true)
end Go.ay
namespace Go.Proofs.Y
open Go Go.Sl Go.ay Go.MapKept
def aA (l:Bs):List Value:=l.map λb=> .int .u8 b.toNat
abbrev ptr (b:Nat):Value:= .pointer (some ⟨b,0,none⟩)
abbrev errno (n:Int):Value:= .int .i64 n
def wH (p:jm×Value):List Value:=[.bool p.1.cut,.int .i64 p.1.n,p.2]
def bQ (v:Value) (l:Bs):aG:=aC 5 1 v (aA l)
def uT (ws:List (jm×Value)):aG:=stars (ws.map λp=>bQ p.2 p.1.b)
def Cc (b:Nat) (fv nv wv:Value):aG:=pt b (.cells #[fv,nv,wv] 130 (0,0))
def D6 (b:Nat) (f:bK) (fv nv wv:Value) (ws:List (jm×Value)):List aG:=
 [Cc b fv nv wv,bQ fv f.fast,bQ nv f.now,aC 199 3 wv (ws.flatMap wH),uT ws]
def kZ (b:Nat) (f:bK):aG:=λh=>∃ fv nv wv ws,ws.map (·.1)=f.waits/\stars (D6 b f fv nv wv ws) h
def oM (bs:List Nat) (fs:List bK):aG:=stars (List.zipWith kZ bs fs)
def dZ (bs:List Nat) (l:Names):List (Value×Value):=l.map λp=>(.string p.1,ptr (bs.getD p.2 0))
def nX (bs:List Nat) (x:jc):List Value:=[.string x.fr,.string x.to,if x.to=ByteArray.empty then .pointer none else ptr (bs.getD x.f 0)]
def oH (m:Nat) (M:ay) (fb nb:Nat) (wv:Value):aG:=
 pt m (.cells #[.int .i64 M.room,.map (some fb),.map (some nb),wv,.bool M.armed,.int .i64 M.left,.bool M.off] 126 (0,0))
def wu (m:Nat) (M:ay) (bs:List Nat) (fb nb:Nat) (wv:Value):List aG:=
 [oH m M fb nb wv,omap .string nb (dZ bs M.now),oM bs M.files,omap .string fb (dZ bs M.fast),aC 133 3 wv (M.waits.flatMap (nX bs))]
def aJ (m:Nat) (M:ay):aG:=λh=>∃ bs fb nb wv,bs.length=M.files.length/\stars (wu m M bs fb nb wv) h
section
variable {w0 w:World}{F:List aG}{m b:Nat}{M:ay}{f:bK}
theorem aJ.open (h:Sat w0 w (aJ m M::F)):∃ bs fb nb wv,bs.length=M.files.length/\Sat w0 w (wu m M bs fb nb wv++F):=by
 obtain ⟨ha,x,hx,p,q,d,rfl,⟨bs,fb,nb,wv,hl,hp⟩,hq⟩:=h;refine ⟨bs,fb,nb,wv,hl,ha,_,hx,?_⟩;rw [qO];exact ⟨p,q,d,rfl,hp,hq⟩
theorem aJ.shut {bs:List Nat}{fb nb:Nat}{wv:Value} (hl:bs.length=M.files.length) (h:Sat w0 w (wu m M bs fb nb wv++F)):Sat w0 w (aJ m M::F):=
 h.join λ_ hx=>⟨bs,fb,nb,wv,hl,hx⟩
theorem kZ.open (h:Sat w0 w (kZ b f::F)):∃ fv nv wv ws,ws.map (·.1)=f.waits/\Sat w0 w (D6 b f fv nv wv ws++F):=by
 obtain ⟨ha,x,hx,p,q,d,rfl,⟨bs,fb,nb,wv,hl,hp⟩,hq⟩:=h;refine ⟨bs,fb,nb,wv,hl,ha,_,hx,?_⟩;rw [qO];exact ⟨p,q,d,rfl,hp,hq⟩
theorem kZ.shut {fv nv wv:Value}{ws:List (jm×Value)} (hl:ws.map (·.1)=f.waits) (h:Sat w0 w (D6 b f fv nv wv ws++F)):Sat w0 w (kZ b f::F):=
 h.join λ_ hx=>⟨fv,nv,wv,ws,hl,hx⟩
theorem OZ:∀ (bs:List Nat) (fs:List bK) (i:Nat),bs.length=fs.length->i<fs.length ->
  ∃ G:aG,(oM bs fs=star (kZ (bs.getD i 0) (fs.getD i bK.new)) G)/\∀ f',oM bs (fs.set i f')=star (kZ (bs.getD i 0) f') G
 |[],[],i,_,h=>by simp at h
 |[],_::_,_,h,_=>by simp at h
 |_::_,[],_,h,_=>by simp at h
 |b::bs,f::fs,0,_,_=>⟨oM bs fs,rfl,λ_=>rfl⟩
 |b::bs,f::fs,i+1,hl,hi=>by
  obtain ⟨G,h1,h2⟩:=OZ bs fs i (by simpa using hl) (by simpa using hi);refine ⟨star (kZ b f) G,?_,λf'=>?_⟩
  ·show star (kZ b f) (oM bs fs)=_;rw [h1,yZ];rfl
  ·show star (kZ b f) (oM bs (fs.set i f'))=_;rw [h2,yZ];rfl
theorem X5:∀ (bs:List Nat) (fs:List bK) (b:Nat) (f:bK),bs.length=fs.length->oM (bs++[b]) (fs++[f])=star (kZ b f) (oM bs fs)
 |[],[],_,_,_=>rfl
 |[],_::_,_,_,h=>by simp at h
 |_::_,[],_,_,h=>by simp at h
 |c::bs,g::fs,b,f,h=>by
  show star (kZ c g) (oM (bs++[b]) (fs++[f]))=_;rw [X5 bs fs b f yP0,yZ];rfl
end
theorem info8:(prog.info? 5).map (λi=>(i.zero,i.size,i.bytes))=some (some (.int .u8 0),1,1):=by kernel_rfl
theorem aiU (w:World):(zeroValue 127).run prog w=.ok (.pointer none) w:=by kernel_rfl
@[go_sem] theorem apc (w:World) (r:Option Nat):(binOp .eql 123 (.map r) (.map none)).run prog w=.ok (.bool r.isNone) w:=run_eql_map_nil w _ _ _ r underlying123
end Go.Proofs.Y
namespace Go.Proofs.Y
open Go Go.Sl Go.ay Go.MapKept Go.RowKit
section
variable {w0 w:World}{F:List aG}{m fb nb:Nat}{M:ay}{bs:List Nat}{wv:Value}{s:ByteArray}
theorem zY (h:Sat w0 w (oH m M fb nb wv::F)) :
  Calls prog 63 #[ptr m] w (aP λv w'=>v=errno (bif M.off then 12 else 0)/\w=w'):=by
 obtain ⟨room,fast,now,files,waits,armed,left,off⟩:=M;have c2:=h.cellAt 2 _ rfl;have c6:=h.cellAt 6 _ rfl;go_enter func63,ntmps63;cases off <;> (go_wp2;go_ret;exact ⟨_,rfl,rfl,rfl⟩)
theorem Bc (h:Sat w0 w (oH m M fb nb wv::F)) (hl:M.left<=9223372036854775807) :
  Calls prog 128 #[ptr m] w (aP λv w'=>v=errno (bif M.step.2 then 0 else 12)/\Sat w0 w' (oH m M.step.1 fb nb wv::F)):=by
 obtain ⟨room,fast,now,files,waits,armed,left,off⟩:=M;have c4:=h.cellAt 4 _ rfl;have c5:=h.cellAt 5 _ rfl;have f5:=h.pY 5;have f6:=h.pY 6;have c6:=h.cellAt 6 _ rfl;simp only at hl;go_enter func128,ntmps128;cases armed
 ·go_wp2;go_ret;exact ⟨_,rfl,by simp [ay.step],by simpa [ay.step] using h⟩
 ·by_cases hz:left=0
  ·subst hz;go_wp2;go_ret;exact ⟨_,rfl,rfl,h.set 6 (.bool true)⟩
  ·have hz':((left:Int)==0)=false:=by simpa using hz
   have e1:((left-1:Nat):Int)=(left:Int)-1:=by omega
   go_wp2;go_ret;refine ⟨_,rfl,by simp [ay.step,hz],?_⟩;have:=h.set 5 (.int .i64 ((left:Int)-1));simp only [ay.step,hz,apa,apA,oH,e1];exact this
end
end Go.Proofs.Y
namespace Go.ay
theorem oL (a b:ByteArray):(a==b)=decide (a=b):=by
 by_cases h:a=b
 ·subst h;simp [(MapKept.bytes_beq a a).2 rfl]
 ·have:¬ (a==b)=true:=λe=>h ((MapKept.bytes_beq a b).1 e);simp [h,Bool.eq_false_iff.2 this]
theorem jD {l:Names}{s:ByteArray}{i:Nat} (h:bU l s=some i):(s,i)∈l:=by
 unfold bU at h;cases hf:l.find? (λp=>p.1==s) with
 |none=>rw [hf]at h;cases h
 |some p=>
  rw [hf]at h;have h1:=List.find?_some hf;have h2:=List.mem_of_find?_eq_some hf;simp [oL]at h1 h;obtain ⟨a,b⟩:=p;simp at h1 h;subst h1;subst h;exact h2
theorem Kq {l:Names}{s:ByteArray} (h:bU l s=none):∀ p∈l,p.1≠s:=by
 intro p hp e;simp only [bU,Option.map_eq_none_iff,List.find?_eq_none]at h;exact h p hp (by simp [oL,e])
theorem Az {l:Names} (hn:(l.map (·.1)).Nodup){s:ByteArray}{i:Nat} (h:(s,i)∈l):bU l s=some i:=by
 cases hg:bU l s with
 |none=>exact absurd rfl (Kq hg _ h)
 |some j=>
  have hj:=jD hg
  induction l with
  |nil=>cases h
  |cons p l ih=>
   simp only [ad7,akZ]at hn;rcases ad5.1 h with h1|h1 <;> rcases ad5.1 hj with h2|h2
   ·rw [<-h1]at h2;cases h2;rfl
   ·exact (hn.1 (abL.2 ⟨_,h2,by rw [<-h1]⟩)).elim
   ·exact (hn.1 (abL.2 ⟨_,h1,by rw [<-h2]⟩)).elim
   ·refine ih hn.2 h1 ?_ h2;unfold bU at hg ⊢;have:(p.1==s)=false:=by
     rw [oL];simp;intro e;exact hn.1 (abL.2 ⟨_,h1,e.symm⟩)
    rw [List.find?_cons_of_neg (by simp [this])]at hg;exact hg
theorem ajZ (l:Names) (s:ByteArray):∀ p∈iD l s,p.1≠s:=by
 intro p hp;have:=(aem.1 hp).2;simpa [oL,bne] using this
theorem QJ {l:Names} (hn:(l.map (·.1)).Nodup){s:ByteArray}{i:Nat} (h:(s,i)∈l):l.Perm ((s,i)::iD l s):=by
 induction l with
 |nil=>cases h
 |cons p l ih=>
  simp only [ad7,akZ]at hn;rcases ad5.1 h with h1|h1
  ·subst h1;have:iD ((s,i)::l) s=l:=by
    unfold iD;rw [an5 (by simp [oL,bne]),akI];intro q hq;simp only [bne,oL,aqf,ae1];exact λe=>hn.1 (abL.2 ⟨q,hq,e⟩)
   rw [this]
  ·have hps:p.1≠s:=λe=>hn.1 (abL.2 ⟨_,h1,e.symm⟩);have:iD (p::l) s=p::iD l s:=by
    unfold iD;rw [apF (by simpa [oL,bne] using hps)]
   rw [this];exact ((ih hn.2 h1).cons p).trans (List.Perm.swap _ _ _)
theorem yH {l:Names}{s:ByteArray} (h:bU l s=none):iD l s=l:=by
 unfold iD;rw [akI];intro q hq;simpa [oL,bne] using Kq h q hq
theorem QU:∀ (l:Names) (s:ByteArray) (i:Nat),(sJ l s i).Perm ((s,i)::l)
 |[],_,_=>aok _
 |p::l,s,i=>by
  unfold sJ;split
  ·exact aok _
  ·exact ((QU l s i).cons p).trans (List.Perm.swap _ _ _)
theorem wW (l:Names) (s:ByteArray) (i:Nat):(kV l s i).Perm ((s,i)::iD l s):=QU _ _ _
end Go.ay
namespace Go.Sl
open Go Go.MapKept
abbrev kv (e:MapEntry):Value×Value:=(e.key,e.val)
theorem Qj {α β:Type}{f:α->β}:∀ {l:List α},(l.map f).Nodup->∀ {x y:α},x∈l->y∈l->f x=f y->x=y
 |[],_,_,_,h,_,_=>by cases h
 |z::l,hn,x,y,hx,hy,e=>by
  simp only [ad7,akZ]at hn;rcases ad5.1 hx with h1|h1 <;> rcases ad5.1 hy with h2|h2
  ·rw [h1,h2]
  ·subst h1;exact (hn.1 (abL.2 ⟨y,h2,e.symm⟩)).elim
  ·subst h2;exact (hn.1 (abL.2 ⟨x,h1,e⟩)).elim
  ·exact Qj hn.2 h1 h2 e
def rng (d:TypeDesc) (b r:Nat) (l left:List (Value×Value)):aG:=λh=>
 ∃ es clock seen,(es.toList.map kv).Perm l/\Stamped es clock/\(∀ x∈es.toList,IsKey d x.key)/\((es.toList.filter λe => !seen.contains e.born).map kv).Perm left /\
  star (pt b (.map es clock)) (pt r (.mapIter (some b) clock seen clock)) h
section
variable {P:Program}{w0 w:World}{R:List aG}{d:TypeDesc}{b r:Nat}{l left:List (Value×Value)}
theorem Sat.abV (h:Sat w0 w (rng d b r l left::R)):∃ es clock seen,(es.toList.map kv).Perm l/\Stamped es clock/\(∀ x∈es.toList,IsKey d x.key)/\((es.toList.filter λe => !seen.contains e.born).map kv).Perm left /\
  Sat w0 w (pt b (.map es clock)::pt r (.mapIter (some b) clock seen clock)::R):=by
 obtain ⟨ha,x,hx,p,q,dd,rfl,⟨es,c,se,h1,h2,h3,h4,h5⟩,hq⟩:=h;refine ⟨es,c,se,h1,h2,h3,h4,Sat.star.1 ⟨ha,_,hx,p,q,dd,rfl,h5,hq⟩⟩
theorem Sat.abW {es:Array MapEntry}{clock:Nat}{seen:Array Nat} (h:Sat w0 w (pt b (.map es clock)::pt r (.mapIter (some b) clock seen clock)::R))
  (h1:(es.toList.map kv).Perm l) (h2:Stamped es clock) (h3:∀ x∈es.toList,IsKey d x.key) (h4:((es.toList.filter λe => !seen.contains e.born).map kv).Perm left):Sat w0 w (rng d b r l left::R):=
 (Sat.star.2 h).head λ_ hx=>⟨es,clock,seen,h1,h2,h3,h4,hx⟩
theorem Sat.RY (h:Sat w0 w (rng d b r l left::R)):Sat w0 w (omap d b l::R):=by
 obtain ⟨es,c,se,h1,h2,h3,h4,h5⟩:=h.abV;exact (h5.bf.drop).Dj h1 h2 h3
theorem amr {t k e:TypeId} (ht:P.underlying t=some (.map k e)) (h:Sat w0 w (omap d b l::R)) :
  ∃ r w',(Instr.range t (.map (some b))).run P w=.ok (.pointer (some ⟨r,0,none⟩)) w'/\Sat w0 w' (rng d b r l l::R):=by
 obtain ⟨es,c,h1,h2,h3,h4⟩:=h.Di;have hb:=h4.at;refine ⟨w.heap.size,w.alloc (.mapIter (some b) c #[] c),?_,?_⟩
 ·simp [Instr.range,afM ht,ah5 hb,Result.andThen]
 ·exact (h4.alloc (.mapIter (some b) c #[] c)).bf.abW h1 h2 h3 (by rw [akI.2 yF0];exact h1)
theorem amn (h:Sat w0 w (rng d b r l left::R)) (ty:TypeId) :
  (left=[]/\(Instr.next (.pointer (some ⟨r,0,none⟩)) false ty).run P w=.ok (.tuple #[.bool false]) w) \/
  ∃ k v left' w',left.Perm ((k,v)::left')/\(Instr.next (.pointer (some ⟨r,0,none⟩)) false ty).run P w=.ok (.tuple #[.bool true,k,v]) w'/\Sat w0 w' (rng d b r l left'::R) /\
   (Instr.entry (.pointer (some ⟨r,0,none⟩))).run P w'=.ok (.tuple #[k,v]) w':=by
 obtain ⟨es,c,se,h1,h2,h3,h4,h5⟩:=h.abV;have hb:=h5.at;have hr:=h5.bf.at;have hne:=h5.ne;have hgr:(getObj r).run P w=.ok (.mapIter (some b) c se c) w:=by simp [getObj,Sem.run,hr]
 have hgb:(getObj b).run P w=.ok (.map es c) w:=ah5 hb;have hborn:=h2.1;have hold:(es.filter λe => !se.contains e.born).filter (λe=>decide (e.born<c))=es.filter λe => !se.contains e.born:=by
  apply Array.ext';simp only [Array.toList_filter];rw [akI];intro x hx;simpa using hborn x ((aem.1 hx).1)
 have hnew:(es.filter λe => !se.contains e.born).filter (λe=>decide (e.born>=c))=#[]:=by
  apply Array.ext';simp only [Array.toList_filter];rw [ap5];intro x hx;have:=hborn x ((aem.1 hx).1);simp;omega
 have hall:(!se.isEmpty && !es.isEmpty && es.all (λe=>decide (e.born>=c)))=false:=by
  by_cases he:es.isEmpty
  ·simp [he]
  ·have:es.all (λe=>decide (e.born>=c))=false:=by
    rw [Array.all_eq_false];have:0<es.size:=by
     rcases Nat.eq_zero_or_pos es.size with h|h
     ·exact absurd yP0 he
     ·exact h
    refine ⟨0,this,?_⟩;have:=hborn es[0] yF0;simp;omega
   simp [this]
 generalize hlf:(es.filter λe => !se.contains e.born)=lf at *
 have JI:lf.toList=es.toList.filter λe => !se.contains e.born:=by rw [<-hlf];simp
 rw [<-JI]at h4
 have key:(Instr.next (.pointer (some ⟨r,0,none⟩)) false ty).run P w =
   (do
    let candidates:=(if lf.isEmpty then #[none] else #[])++lf.map some
    match candidates[<-choose (.mapNext candidates.size)]? with
    |some (some e)=>
     setObj r (.mapIter (some b) c (se.push e.born) c)
     pure (.tuple #[.bool true,e.key,e.val])
    |some none=>pure (.tuple #[.bool false])
    |none=>stuck "Next: no such candidate" : Sem Value).run P w:=by
  unfold Instr.next;simp only [ad1,hgr,adu,hgb,hall,afX,apA,hlf,hold,hnew,Array.append_empty]
  rfl
 by_cases hle:lf=#[]
 ·left;subst hle;have:left=[]:=by simpa using h4.symm
  refine ⟨this,?_⟩;rw [key];simp [choose,Sem.run,Question.forced,Result.andThen]
 ·right;have hpos:0<lf.size:=by
   rcases Nat.eq_zero_or_pos lf.size with h|h
   ·exact absurd yP0 hle
   ·exact h
  have hemp:lf.isEmpty=false:=by simpa using hle
  -- which one
  obtain ⟨i,w1,hi,hw1,hch⟩:∃ i w1,i<lf.size/\(w1=w\/w1=w.drew)/\(choose (.mapNext (lf.map some).size)).run P w=.ok i w1:=by
   by_cases h1:lf.size<=1
   ·refine ⟨0,w,hpos,.inl rfl,?_⟩;simp [choose,Sem.run,Question.forced,h1]
   ·refine ⟨w.tape w.drawn (.mapNext (lf.map some).size)%lf.size,w.drew,ao0 _ hpos,.inr rfl,?_⟩;simp [choose,Sem.run,Question.forced,h1,Question.cut]
  have h5':Sat w0 w1 (pt b (.map es c)::pt r (.mapIter (some b) c se c)::R):=by
   rcases hw1 with rfl|rfl
   ·exact h5
   ·exact h5.drew
  have hr1:=h5'.bf.at;have hget:(lf.map some)[i]?=some (some lf[i]):=by simp [hi]
  obtain ⟨x,hx⟩:∃ x,x=lf[i]:=⟨_,rfl⟩;have hxm:x∈es.toList.filter λe => !se.contains e.born:=by rw [<-JI,hx];simp
  have Qd:x∈es.toList:=(aem.1 hxm).1;have hset:(setObj r (.mapIter (some b) c (se.push x.born) c)).run P w1=.ok () { w1 with heap:=w1.heap.setIfInBounds r (.mapIter (some b) c (se.push x.born) c) }:=by
   simp [setObj,Sem.run,hr1]
  have h6:Sat w0 { w1 with heap:=w1.heap.setIfInBounds r (.mapIter (some b) c (se.push x.born) c) } (pt r (.mapIter (some b) c (se.push x.born) c)::pt b (.map es c)::R):=
   h5'.bf.turn rfl rfl rfl yF0 (heap_set hr1).1 (λi hi _=>(heap_set hr1).2 i hi)
  have hnd:=h2.2.1;refine ⟨x.key,x.val,(es.toList.filter λe => !(se.push x.born).contains e.born).map kv,_,?_,?_,h6.bf.abW h1 h2 h3 (aok _),?_⟩
  ·
   refine h4.symm.trans ?_;rw [JI];have hbn:∀ y∈es.toList,y.born=x.born->y=x:=by
    intro y hy hyx;exact Qj hnd hy Qd hyx
   have hmem:x∈es.toList.filter λe => !se.contains e.born:=hxm;have:(es.toList.filter λe => !se.contains e.born).Perm (x::es.toList.filter λe => !(se.push x.born).contains e.born):=by
    have hf:(es.toList.filter λe => !(se.push x.born).contains e.born)=(es.toList.filter λe => !se.contains e.born).filter λe=>e.born != x.born:=by
     rw [List.filter_filter];apply List.filter_congr;intro y _;by_cases hb:y.born=x.born <;> simp [hb]
    rw [hf];have hnd':((es.toList.filter λe => !se.contains e.born).map (·.born)).Nodup:=hnd.sublist ((apj).map _);clear hf h4 JI hlf key;generalize (es.toList.filter λe => !se.contains e.born)=L at *
    induction L with
    |nil=>cases hmem
    |cons y L ih=>
     simp only [ad7,akZ]at hnd';rcases ad5.1 hmem with rfl|hm
     ·rw [an5 yF0];rw [akI.2];intro z hz;simp only [afZ,ne_eq];intro e;exact hnd'.1 (abL.2 ⟨z,hz,e⟩)
     ·have hyx:y.born≠x.born:=λe=>hnd'.1 (abL.2 ⟨x,hm,e.symm⟩);rw [apF (by simpa using hyx)];exact ((ih hm hm hnd'.2).cons y).trans (List.Perm.swap _ _ _)
   simpa using this.map kv
  ·rw [key,hemp];simp only [afX,apA,Array.empty_append,ad1,hch,adu,hget,<-hx,hset,aek]
  ·have Ap:=h6.at;have hb6:=h6.bf.at;have hg1:∀ w',w'.heap[r]?=some (.mapIter (some b) c (se.push x.born) c)->(getObj r).run P w'=.ok (.mapIter (some b) c (se.push x.born) c) w':=by
    intro w' hw;simp [getObj,Sem.run,hw]
   have hfind:es.find? (λe=>e.born==x.born)=some x:=by
    rw [<-Array.find?_toList];cases hf:es.toList.find? (λe=>e.born==x.born) with
    |none=>
     rw [List.find?_eq_none]at hf;exact absurd yF0 (hf x Qd)
    |some y=>
     have h7:=List.find?_some hf;have h8:=List.mem_of_find?_eq_some hf;rw [Qj hnd h8 Qd (by simpa using h7)]
   unfold Instr.entry;simp only [ad1,hg1 _ Ap,adu,ah5 hb6,Array.back?_push,hfind];simp
variable {ops:Array Oper}{rest:List Oper}{o:Oper}{a:Act}{Q:Exit->Act->World->Prop}
theorem UC (hg:o.guard=none) (m:Operand) (t k e:TypeId) (hop:o.op=Op.range t m) (ht:P.underlying t=some (.map k e)) (hm:a.eval m=.map (some b)) (h:Sat w0 w (omap d b l::R))
  (hK:∀ r w',Sat w0 w' (rng d b r l l::R)->wpList P ops Q rest (a.put o.dst (.pointer (some ⟨r,0,none⟩))) w'):wpList P ops Q (o::rest) a w:=by
 refine aeV hg λK hK'=>?_;obtain ⟨r,w',hr,hs⟩:=amr (P:=P) ht h;unfold Oper.wp;simp [execOp,hop,hm,hr,Result.andThen];exact hK' _ _ (hK r w' hs)
theorem UA (hg:o.guard=none) (it:Operand) (hop:o.op=Op.next it false) (hit:a.eval it=.pointer (some ⟨r,0,none⟩)) (h:Sat w0 w (rng d b r l left::R))
  (hnil:left=[]->wpList P ops Q rest (a.put o.dst (.tuple #[.bool false])) w)
  (hK:∀ k v left' w',left.Perm ((k,v)::left')->Sat w0 w' (rng d b r l left'::R)->(Instr.entry (.pointer (some ⟨r,0,none⟩))).run P w'=.ok (.tuple #[k,v]) w' ->
   wpList P ops Q rest (a.put o.dst (.tuple #[.bool true,k,v])) w'):wpList P ops Q (o::rest) a w:=by
 refine aeV hg λK hK'=>?_;unfold Oper.wp;rcases amn (P:=P) h o.type with ⟨h1,h2⟩|⟨k,v,left',w',h1,h2,h3,h4⟩
 ·simp [execOp,hop,hit,h2,Result.andThen];exact hK' _ _ (hnil h1)
 ·simp [execOp,hop,hit,h2,Result.andThen];exact hK' _ _ (hK k v left' w' h1 h3 h4)
end
end Go.Sl
namespace Go.Proofs.Y
open Go Go.Sl Go.ay Go.MapKept Go.RowKit
section
variable {w0 w:World}{F:List aG}{m fb nb b:Nat}{M:ay}{bs:List Nat}{wv:Value}{s:ByteArray}{l:Names}
theorem QE (h:Sat w0 w (omap .string b (dZ bs l)::F)):(l.map (·.1)).Nodup:=by
 have:=h.KA;simp only [dZ,aeW]at this;rw [List.nodup_iff_pairwise_ne,ajM]at this ⊢;refine this.imp λ{x y} hxy e=>hxy ?_;simp [e]
def Ag (bs:List Nat) (l:Names) (s:ByteArray):Value:=match bU l s with|some i=>ptr (bs.getD i 0)|none=> .pointer none
theorem Qx (h:Sat w0 w (omap .string b (dZ bs l)::F)):(Instr.lookup 123 (.map (some b)) (.string s) false).run prog w=.ok (Ag bs l s) w:=by
 have hn:=QE h;rcases Tm (P:=prog) underlying123 underlying9 (aiU w) (key:= .string s) trivial h with ⟨v,h1,h2,_⟩|⟨h1,h2,_⟩
 ·rw [h2];obtain ⟨p,hp,e⟩:=abL.1 h1;simp only [Prod.mk.injEq,Value.string.injEq]at e;obtain ⟨a,i⟩:=p;simp only at e;rw [<-e.1,<-e.2,Ag,Az hn hp]
 ·rw [h2,Ag];cases hg:bU l s with
  |none=>rfl
  |some i=>exact absurd rfl (h1 (.string s,ptr (bs.getD i 0)) (abL.2 ⟨(s,i),jD hg,rfl⟩))
abbrev aax (m:Nat) (M:ay) (fb nb:Nat) (wv:Value) (bs:List Nat) (F:List aG):List aG:=oH m M fb nb wv::omap .string nb (dZ bs M.now)::F
theorem Ad (h:Sat w0 w (oH m M fb nb wv::F)) (ho:M.off=true) :
  Calls prog 90 #[ptr m,.string s] w (aP λv w'=>v=.tuple #[.pointer none,errno 12]/\w=w'):=by
 go_enter func90,ntmps90;go_wp2_with (go_at_call 63;refine (zY h).mono ?_;rintro e w1 ⟨v,rfl,rfl,rfl⟩;rw [ho])
 go_ret2
 exact ⟨_,rfl,rfl,rfl⟩
theorem Ac (h:Sat w0 w (aax m M fb nb wv bs F)) (ho:M.off=false) (hn:bU M.now s=none) :
  Calls prog 90 #[ptr m,.string s] w (aP λv w'=>v=.tuple #[.pointer none,errno 9]/\w=w'):=by
 have c2:=h.cellAt 2 _ rfl;have hl:=Qx (s:=s) h.bf;rw [Ag,hn]at hl;have hd:=zY h;rw [ho]at hd;clear hn ho;go_enter func90,ntmps90;go_wp2_with (go_at_call 63;refine hd.mono ?_;rintro e w1 ⟨v,rfl,rfl,rfl⟩)
 go_ret2
 exact ⟨_,rfl,rfl,rfl⟩
theorem Ae {i:Nat} (h:Sat w0 w (aax m M fb nb wv bs F)) (ho:M.off=false) (hn:bU M.now s=some i) :
  Calls prog 90 #[ptr m,.string s] w (aP λv w'=>v=.tuple #[ptr (bs.getD i 0),errno 0]/\w=w'):=by
 have c2:=h.cellAt 2 _ rfl;have hl:=Qx (s:=s) h.bf;rw [Ag,hn]at hl;have hd:=zY h;rw [ho]at hd;clear hn ho;simp only at hl;generalize bs.getD i 0=fp at *
 go_enter func90,ntmps90;go_wp2_with (go_at_call 63;refine hd.mono ?_;rintro e w1 ⟨v,rfl,rfl,rfl⟩)
 go_ret2
 exact ⟨_,rfl,rfl,rfl⟩
end
section
variable {w0 w:World}{F:List aG}{m fb nb b:Nat}{M:ay}{bs:List Nat}{wv:Value}{s:ByteArray}{l:Names}
theorem J3 {l l':Names} (h:l.Perm l'):(dZ bs l).Perm (dZ bs l'):=h.map _
theorem Xw (hn:(l.map (·.1)).Nodup) (s:ByteArray):(dZ bs l).Perm (dZ bs (iD l s))/\(∀ p∈dZ bs (iD l s),p.1 ≠ .string s)\/∃ v0,(dZ bs l).Perm ((.string s,v0)::dZ bs (iD l s)):=by
 cases hg:bU l s with
 |none=>
  left;rw [yH hg];refine ⟨aok _,λp hp=>?_⟩;obtain ⟨q,hq,rfl⟩:=abL.1 hp;simpa using Kq hg q hq
 |some i=>exact .inr ⟨ptr (bs.getD i 0),J3 (QJ hn (jD hg))⟩
def oU (bs:List Nat) (x:jc):Value:=if x.to=ByteArray.empty then .pointer none else ptr (bs.getD x.f 0)
theorem Ot {s:ByteArray} (h:s≠ByteArray.empty):s.toList.isEmpty=false:=by
 cases hs:s.toList with
 |cons _ _=>rfl
 |nil=>
  exfalso;apply h;have:s.data.toList=[]:=by rw [<-Lib.toList_data];exact hs
  obtain ⟨⟨d⟩⟩:=s;simp at this;subst this;rfl
theorem Ou {s:ByteArray} (h:s=ByteArray.empty):s.toList=[]:=by subst h;rw [Lib.toList_data];rfl
theorem aku (fr to:ByteArray) (q:Value) (h:Sat w0 w (omap .string b (dZ bs l)::F)) (l1 l2:List (Value×Value))
  (h1:fr=ByteArray.empty/\l1=dZ bs l\/fr≠ByteArray.empty/\((dZ bs l).Perm l1/\(∀ p∈l1,p.1 ≠ .string fr)\/∃ v0,(dZ bs l).Perm ((.string fr,v0)::l1)))
  (h2:to=ByteArray.empty/\l2=l1\/to≠ByteArray.empty/\∃ l3,(l1.Perm l3/\(∀ p∈l3,p.1 ≠ .string to)\/∃ v0,l1.Perm ((.string to,v0)::l3))/\l2=(.string to,q)::l3) :
  Calls prog 66 #[.agg #[.string fr,.string to,q],.map (some b)] w (aP λ_ w'=>Sat w0 w' (omap .string b l2::F)):=by
 have hb:=(h.alloc (.cells #[.string fr,.string to,q] 133)).bf;go_enter func66,ntmps66;rcases h1 with ⟨hf,h1⟩|⟨hf,h1⟩
 ·have e1:=Ou hf;clear hf;subst h1;rcases h2 with ⟨ht,h2⟩|⟨ht,l3,h3,h2⟩
  ·have e2:=Ou ht;clear ht;subst h2;go_wp2
   go_end0
   exact ⟨_,rfl,hb.bf.drop⟩
  ·have e2:=Ot ht;clear ht;have H2:=uQ h2;clear h2;have H3:=uQ h3;clear h3;go_wp2_with (at_mapUpdate;go_must (refine MC (key:= .string to) ah _ _ _ ah underlying123 underlying9 ah ah ah trivial hb l3 H3.o ?_);intro w1 hS1)
   go_end0
   rw [H2.o];exact ⟨_,rfl,hS1.bf.drop⟩
 ·have e1:=Ot hf;clear hf;have H1:=uQ h1;clear h1;rcases h2 with ⟨ht,h2⟩|⟨ht,l3,h3,h2⟩
  ·have e2:=Ou ht;clear ht;subst h2;go_wp2_with (at_delete;go_must (refine adE (key:= .string fr) ah _ _ ah underlying123 underlying9 ah ah trivial hb l2 H1.o ?_);intro w1 hS1;have c0:=hS1.bf.cellAt 0 _ rfl;have c1:=hS1.bf.cellAt 1 _ rfl)
   go_end0
   exact ⟨_,rfl,hS1.bf.drop⟩
  ·have e2:=Ot ht;clear ht;have H2:=uQ h2;clear h2;have H3:=uQ h3;clear h3
   go_wp2_with (first
    |(at_delete;go_must (refine adE (key:= .string fr) ah _ _ ah underlying123 underlying9 ah ah trivial hb l1 H1.o ?_);intro w1 hS1;have c0:=hS1.bf.cellAt 0 _ rfl;have c1:=hS1.bf.cellAt 1 _ rfl;have c2:=hS1.bf.cellAt 2 _ rfl)
    |(at_mapUpdate;go_must (refine MC (key:= .string to) ah _ _ _ ah underlying123 underlying9 ah ah ah trivial hS1 l3 H3.o ?_);intro w2 hS2))
   go_end0
   rw [H2.o];exact ⟨_,rfl,hS2.bf.drop⟩
theorem akt (x:jc) (h:Sat w0 w (omap .string b (dZ bs l)::F)) :
  Calls prog 66 #[.agg #[.string x.fr,.string x.to,oU bs x],.map (some b)] w (aP λ_ w'=>Sat w0 w' (omap .string b (dZ bs (x.on l))::F)):=by
 have hn:=QE h;obtain ⟨fr,to,f⟩:=x;have key:∀ l1:Names,l1=(if fr=ByteArray.empty then l else iD l fr)->(l1.map (·.1)).Nodup:=by
  rintro l1 rfl;split
  ·exact hn
  ·exact hn.sublist ((apj).map _)
 have:=aku fr to (oU bs ⟨fr,to,f⟩) h (dZ bs (if fr=ByteArray.empty then l else iD l fr))
  (if to=ByteArray.empty then dZ bs (if fr=ByteArray.empty then l else iD l fr) else (.string to,ptr (bs.getD f 0))::dZ bs (iD (if fr=ByteArray.empty then l else iD l fr) to)) ?_ ?_
 ·refine this.mono ?_;rintro e w1 ⟨v,rfl,hS⟩;refine ⟨v,rfl,?_⟩;unfold jc.on;simp only;split
  ·rename_i ht;rw [acg ht]at hS;exact hS
  ·rename_i ht;rw [abj ht]at hS;exact hS.F8 (J3 (wW _ _ _)).symm
 ·by_cases hf:fr=ByteArray.empty
  ·exact .inl ⟨hf,by rw [acg hf]⟩
  ·exact .inr ⟨hf,by rw [abj hf];exact Xw hn fr⟩
 ·by_cases ht:to=ByteArray.empty
  ·exact .inl ⟨ht,by rw [acg ht]⟩
  ·refine .inr ⟨ht,_,Xw (key _ rfl) to,?_⟩;rw [abj ht];simp [oU,ht]
end
end Go.Proofs.Y
namespace Go.Sl
open Go
section
variable {P:Program}{ops:Array Oper}{Q:Exit->Act->World->Prop}{late:List Nat}{G:World->Prop}
def keeps (late:List Nat) (G:World->Prop) (i:Nat) (w w':World):Prop:=late.contains i=true\/G w'\/w'=w
def jV (P:Program) (ops:Array Oper) (Q:Exit->Act->World->Prop) (late:List Nat) (G:World->Prop):Nat->Array Bool->Act->World->Prop
 |0,l,a,w=>Region.ready .any ops l=[]/\Q .normal a w
 |n+1,l,a,w=>(Region.ready .any ops l=[]->Q .normal a w) /\
  ∀ i∈Region.ready .any ops l,wpOp P ops Q i (λa' w'=>keeps late G i w w'/\jV P ops Q late G n (l.setIfInBounds i true) a' w') a w
theorem Uy:∀ (n:Nat) (l:Array Bool) (a:Act) (w:World),jV P ops Q late G n l a w->wpAny P .any ops Q n l a w
 |0,_,_,_,h=>h
 |n+1,_,_,_,h=>⟨h.1,λi hi=>wpOp_mono (λa' w' h'=>Uy n _ a' w' h'.2) (h.2 i hi)⟩
theorem dN {id:Nat}{a:Act}{w:World} (late:List Nat) (G:World->Prop) (hm:P.follows .mixedOrders=true)
  (h:jV P ops Q late G ops.size (Array.replicate ops.size false) a w.drew):(Code.region id ops true).wp P Q a w:=
 wp_region_any hm (Uy _ _ _ _ h)
def waitsFor (ops:Array Oper) (i:Nat):Nat->Nat->Bool
 |0,_=>false
 |n+1,j=>((ops[j]?).map λo=>(o.after.any λe=>Region.binds .any e && e.on==i) || (o.after.any λe=>Region.binds .any e && waitsFor ops i n e.on)).getD false
def Qq (ops:Array Oper) (late:List Nat) (i:Nat):Bool:=late.all λj=>j==i || waitsFor ops i 8 j
def Gs (ops:Array Oper) (l:Array Bool):Prop:=∀ (k:Nat) (ok:Oper),ops[k]?=some ok->l.getD k false=true->∀ e∈ok.after,Region.binds .any e=true->l.getD e.on false=true
def xA (ops:Array Oper) (l:Array Bool):Bool:=(List.range ops.size).all λk => !l.getD k false || ((ops[k]?).map λo=>o.after.all λe => !Region.binds .any e || l.getD e.on false).getD true
theorem acO {l:Array Bool} (h:xA ops l=true):Gs ops l:=by
 intro k ok hk hl e he hb;have hlt:k<ops.size:=(amF.1 hk).1;have h1:=(ae0.1 h) k (by simpa using hlt);simp only [hl,hk,afW,apd,Bool.not_true,Bool.false_or]at h1;obtain ⟨m,hm,rfl⟩:=Array.getElem_of_mem he;have h2:=Array.all_eq_true.1 h1 m hm;simpa [hb] using h2
theorem am3 {l:Array Bool}{j:Nat} (h:Gs ops l) (hj:j∈Region.ready .any ops l):Gs ops (l.setIfInBounds j true):=by
 obtain ⟨hun,oj,hoj,hall⟩:=mem_ready.1 hj;have hmono:∀ k,l.getD k false=true->(l.setIfInBounds j true).getD k false=true:=by
  intro k hk;by_cases hjk:j=k
  ·subst hjk;rcases akJ j l.size with h'|h'
   ·simp [h']
   ·simp [apK h']at hk
  ·simp only [ajS]at hk ⊢;rw [apR hjk];exact hk
 intro k ok hk hl e he hb;by_cases hjk:j=k
 ·subst hjk;rw [hoj]at hk;cases hk;exact hmono _ (hall e he hb)
 ·refine hmono _ (h k ok hk ?_ e he hb);simp only [ajS]at hl ⊢;rw [apR hjk]at hl;exact hl
theorem adv {l:Array Bool} (hs:Gs ops l) (i:Nat):∀ (n j:Nat),waitsFor ops i n j=true->(∀ oj,ops[j]?=some oj->∀ e∈oj.after,Region.binds .any e=true->l.getD e.on false=true)->l.getD i false=true
 |0,_,h,_=>by cases h
 |n+1,j,h,hj=>by
  unfold waitsFor at h;cases ho:ops[j]? with
  |none=>rw [ho]at h;simp at h
  |some o=>
   rw [ho]at h;simp only [afW,apd,Bool.or_eq_true]at h;rcases h with h|h
   ·obtain ⟨k,hk,h2⟩:=Array.any_eq_true.1 h;simp only [aev,ai5]at h2;rw [<-h2.2];exact hj o ho _ (Array.getElem_mem hk) h2.1
   ·obtain ⟨k,hk,h2⟩:=Array.any_eq_true.1 h;simp only [aev]at h2;have hl:=hj o ho _ (Array.getElem_mem hk) h2.1;exact adv hs i n _ h2.2 (λok hok=>hs _ ok hok hl)
theorem adC {i:Nat}{oi:Oper}{v:Value}{S:World->Prop} (hi:ops[i]?=some oi) (hsel:∀ (j:Nat) (o:Oper) cs b,ops[j]?=some o->o.op ≠ .select cs b)
  (hQ:∀ c a w,Q (.panic c) (a.put oi.dst v) w->Q (.panic c) a w)
  (hS:∀ j,waitsFor ops i 8 j=false->j≠i->∀ w w',S w->keeps late G j w w'->S w') :
  ∀ (n:Nat) (l:Array Bool) (a:Act) (w:World),Gs ops l ->
   (∀ j oj,ops[j]?=some oj->j≠i->l.getD j true=false->(∀ e∈oj.after,Region.binds .any e=true->e.on≠i)->oi.apart ops oj=true) ->
   i∈Region.ready .any ops l->YieldsIf P ops S oi v a->S w ->
   jV P ops Q late G n (l.setIfInBounds i true) (a.put oi.dst v) w->jV P ops Q late G (n+1) l a w:=by
 intro n
 induction n with
 |zero=>
  intro l a w _ _ hr hy hs H;refine ⟨(λh=>(by rw [h]at hr;cases hr)),λj hj=>?_⟩;by_cases hji:j=i
  ·subst hji;exact hy.wpOp hi hs ⟨.inr (.inr rfl),H⟩
  ·have:=ready_mono hj hji;rw [H.1]at this;cases this
 |succ n ih=>
  intro l a w hsh hfree hr hy hs H;refine ⟨(λh=>(by rw [h]at hr;cases hr)),λj hj=>?_⟩;by_cases hji:j=i
  ·subst hji;exact hy.wpOp hi hs ⟨.inr (.inr rfl),H⟩
  ·have h1:=H.2 j (ready_mono hj hji);obtain ⟨hjun,oj,hoj,hall⟩:=mem_ready.1 hj;have Y5:l.getD i false=false:=by
    have h0:=(mem_ready.1 hr).1;rcases akJ i l.size with h'|h'
    ·simp [h']at h0 ⊢;exact h0
    ·simp [apK h']at h0
   have hnot:∀ e∈oj.after,Region.binds .any e=true->e.on≠i:=λe he hb heq=>by
    have h1:=hall e he hb;rw [heq,Y5]at h1;cases h1
   have aiK:waitsFor ops i 8 j=false:=by
    cases hw:waitsFor ops i 8 j with
    |false=>rfl
    |true=>
     have:=adv hsh i 8 j hw (λo ho=>by rw [hoj]at ho;cases ho;exact hall);rw [Y5]at this;cases this
   have h2:=wpOp_putIf hoj (hfree j oj hoj hji hjun hnot) (λcs b=>hsel i oi cs b hi) (λcs b=>hsel j oj cs b hoj) hQ hy h1
   have hfree':∀ k ok,ops[k]?=some ok->k≠i->(l.setIfInBounds j true).getD k true=false ->
     (∀ e∈ok.after,Region.binds .any e=true->e.on≠i)->oi.apart ops ok=true:=λk ok hok hki hun hno=>by
    refine hfree k ok hok hki ?_ hno;by_cases hjk:j=k
    ·subst hjk;exact hjun
    ·rw [getD_set_ne true hjk]at hun;exact hun
   refine wpOp_mono (λa' w' h3=>⟨h3.2.1,ih (l.setIfInBounds j true) a' w' (am3 hsh hj) hfree' (ready_mono hr (Ne.symm hji)) h3.1 (hS j aiK hji w w' hs h3.2.1) ?_⟩) h2;rw [Array.setIfInBounds_comm _ _ hji];exact h3.2.2
theorem qx {i:Nat}{oi:Oper}{v:Value}{n:Nat}{l:Array Bool}{a:Act}{w:World} (hi:ops[i]?=some oi)
  (hc:(Region.noSelect ops && Region.free .any ops l i && (Region.ready .any ops l).contains i && Qq ops late i && xA ops l)=true)
  (hQ:∀ c a w,Q (.panic c) (a.put oi.dst v) w->Q (.panic c) a w) (hy:YieldsIf P ops G oi v a) (hG:G w)
  (h:jV P ops Q late G n (l.setIfInBounds i true) (a.put oi.dst v) w):jV P ops Q late G (n+1) l a w:=by
 simp only [aev]at hc;obtain ⟨⟨⟨⟨hs,hf⟩,hr⟩,hl⟩,hsh⟩:=hc;refine adC hi (Region.noSelect_spec hs) hQ ?_ n l a w (acO hsh) (Region.free_spec hi hf) (by simpa using hr) hy hG h;intro j hno hji w w' hw hk;rcases hk with hc|hk|rfl
 ·exfalso;have h1:=(ae0.1 hl) j (by simpa using hc);rw [hno,Bool.or_false]at h1;exact hji (by simpa using h1)
 ·exact hk
 ·exact hw
theorem yB0 (i:Nat){oi:Oper}{v:Value}{n:Nat}{l:Array Bool}{a:Act}{w:World} (h:jV P ops Q late G n (l.setIfInBounds i true) (a.put oi.dst v) w) (hi:ops[i]?=some oi:=by exact rfl) (hc:(Region.noSelect ops && Region.free .any ops l i && (Region.ready .any ops l).contains i && Qq ops late i && xA ops l)=true:=by kernel_rfl) (hQ:∀ c a w,Q (.panic c) (a.put oi.dst v) w->Q (.panic c) a w:=by exact λ_ _ _ h=>h) (hG:G w:=by assumption) (hy:YieldsIf P ops G oi v a:=by refine Or.inl ⟨by rfl,?_⟩;(intro wq hq;go_split_ands;go_simp);first|done|(with_reducible rfl)):jV P ops Q late G (n+1) l a w:=qx hi hc hQ hy hG h
theorem gU {i:Nat}{oi:Oper}{v:Value}{n:Nat}{l:Array Bool}{a:Act}{w:World} (hi:ops[i]?=some oi)
  (hc:(Region.noSelect ops && Region.free .any ops l i && (Region.ready .any ops l).contains i && xA ops l)=true)
  (hQ:∀ c a w,Q (.panic c) (a.put oi.dst v) w->Q (.panic c) a w) (hy:Yields P ops oi v a)
  (h:jV P ops Q late G n (l.setIfInBounds i true) (a.put oi.dst v) w):jV P ops Q late G (n+1) l a w:=by
 simp only [aev]at hc;obtain ⟨⟨⟨hs,hf⟩,hr⟩,hsh⟩:=hc;exact adC (S:=λ_=>True) hi (Region.noSelect_spec hs) hQ (λ_ _ _ _ _ _ _=>trivial) n l a w (acO hsh) (Region.free_spec hi hf) (by simpa using hr) hy.yieldsIf trivial h
theorem yA0 (i:Nat){oi:Oper}{v:Value}{n:Nat}{l:Array Bool}{a:Act}{w:World} (h:jV P ops Q late G n (l.setIfInBounds i true) (a.put oi.dst v) w) (hi:ops[i]?=some oi:=by exact rfl) (hc:(Region.noSelect ops && Region.free .any ops l i && (Region.ready .any ops l).contains i && xA ops l)=true:=by kernel_rfl) (hQ:∀ c a w,Q (.panic c) (a.put oi.dst v) w->Q (.panic c) a w:=by exact λ_ _ _ h=>h) (hy:Yields P ops oi v a:=by refine Or.inl ⟨by rfl,?_⟩;(intro wq;go_simp);first|done|(with_reducible rfl)):jV P ops Q late G (n+1) l a w:=gU hi hc hQ hy h
theorem qw {i:Nat}{o:Oper}{n:Nat}{l:Array Bool}{a:Act}{w:World} (ho:ops[i]?=some o) (hr:Region.ready .any ops l=[i])
  (h:∀ K:Act->World->Prop,(∀ a' w',keeps late G i w w'->jV P ops Q late G n (l.setIfInBounds i true) a' w'->K a' w') ->
   if Region.wanted o (yielded ops a.tmps)=true then Oper.wp P o a w K Q else K (a.put o.dst undef) w):jV P ops Q late G (n+1) l a w:=by
 refine ⟨(λh0=>by rw [hr]at h0;cases h0),λj hj=>?_⟩;rw [hr]at hj;obtain rfl:j=i:=by simpa using hj
 have:=h _ (λa' w' h1 h2=>And.intro h1 h2);unfold wpOp;rw [ho];show if Region.wanted o (yielded ops a.tmps)=true then _ else _
 split
 ·rename_i hw;rw [acg hw]at this;exact .inl this
 ·rename_i hw;rw [abj hw]at this;exact this
theorem dH {n:Nat}{l:Array Bool}{a:Act}{w:World} (hr:Region.ready .any ops l=[]) (h:Q .normal a w):jV P ops Q late G n l a w:=by
 cases n with
 |zero=>exact ⟨hr,h⟩
 |succ n=>exact ⟨λ_=>h,(by rw [hr];intro i hi;cases hi)⟩
end
end Go.Sl
namespace Go.Proofs.Y
open Go Go.Sl Go.ay Go.MapKept Go.RowKit
attribute [local go_sem ↓] Go.wp_at_zero Go.wp_at_succ
section
variable {w0 w:World}{F:List aG}{m fb nb b:Nat}{M:ay}{bs:List Nat}{wv:Value}{s:ByteArray}{l:Names}
theorem aiW:(prog.info? 133).map (λi=>(i.zero,i.size,i.bytes))=some (some (.agg #[.string ByteArray.empty,.string ByteArray.empty,.pointer none]),3,40):=by kernel_rfl
theorem aac (x:jc) (h:Sat w0 w (oH m M fb nb wv::omap .string nb (dZ bs M.now)::aC 133 3 wv (M.waits.flatMap (nX bs))::F)) (hw:M.waits.length<=1099511627776) :
  Calls prog 129 #[ptr m,.agg #[.string x.fr,.string x.to,oU bs x]] w
   (aP λ_ w'=>∃ wv',Sat w0 w' (oH m (M.link x) fb nb wv'::omap .string nb (dZ bs (M.link x).now)::aC 133 3 wv' ((M.link x).waits.flatMap (nX bs))::F)):=by
 obtain ⟨i,hi,hz0,hz1,hz2⟩:=info_parts aiW;have hb:=(h.alloc (.cells #[.string x.fr,.string x.to,oU bs x] 133));have hon:=akt (w:=(w.alloc (.cells #[.string x.fr,.string x.to,oU bs x] 133)).drew) x hb.eH.drew;have c2:=hb.bf.cellAt 2 _ rfl;have b0:=hb.cellAt 0 _ rfl;have b1:=hb.cellAt 1 _ rfl;have b2:=hb.cellAt 2 _ rfl;have hoc:∀ u∈(#[.string x.fr,.string x.to,oU bs x]:Array Value).toList,u.oneCell'=true:=by
  intro u hu;simp only [ad5,ah4,apX]at hu;rcases hu with rfl|rfl|rfl
  ·rfl
  ·rfl
  ·unfold oU;split <;> rfl
 have hlen:(M.waits.flatMap (nX bs)).length=M.waits.length*3:=by
  rw [List.length_flatMap];simp [nX,List.map_const']
 have h63:(M.waits.flatMap (nX bs)).length+3<=maxLen:=by unfold maxLen;omega
 have hby:((M.waits.flatMap (nX bs)).length+3)*i.bytes<=140737488355328:=by rw [hz2];omega
 have hcs:nX bs x=(#[.string x.fr,.string x.to,oU bs x]:Array Value).toList:=rfl;have hfin:∀ wv',oH m (M.link x) fb nb wv'=pt m (.cells #[.int .i64 M.room,.map (some fb),.map (some nb),wv',.bool M.armed,.int .i64 M.left,.bool M.off] 126 (0,0)):=λ_=>rfl;have Hcs:=uQ hcs;clear hcs;have Hlen:=uQ hlen;clear hlen;have bH:=uQ hfin;clear hfin;generalize oU bs x=q at *
 go_enter func129,ntmps129;go_wp2_with fail;refine dN [5] (λw'=>w'.cell? ⟨m,2,none⟩=some (.map (some nb))/\w'.cell? ⟨w.heap.size,0,none⟩=some (.string x.fr)/\w'.cell? ⟨w.heap.size,1,none⟩=some (.string x.to)/\w'.cell? ⟨w.heap.size,2,none⟩=some q) au ?_;have hG:=And.intro c2 (And.intro b0 (And.intro b1 b2));refine yB0 0 ?_;refine yA0 1 ?_;refine yA0 2 ?_;refine yA0 3 ?_;refine yB0 4 ?_;refine qw (i:=5) rfl au (λK hK=>?_);go_simp;refine hon.mono ?_;rintro e w1 ⟨v,rfl,hS1⟩;refine hK _ _ (.inl rfl) ?_;clear hK K hG;refine dH au ?_;have hS2:=hS1.eH;have d3:=hS2.cellAt 3 _ rfl;have b0:=hS1.bf.cellAt 0 _ rfl;have b1:=hS1.bf.cellAt 1 _ rfl;have b2:=hS1.bf.cellAt 2 _ rfl;clear hS2;go_wp2_with fail
 refine dN [7,8,9,10] (λw'=>w'.cell? ⟨m,3,none⟩=some wv/\w'.cell? ⟨w.heap.size,0,none⟩=some (.string x.fr)/\w'.cell? ⟨w.heap.size,1,none⟩=some (.string x.to)/\w'.cell? ⟨w.heap.size,2,none⟩=some q) au ?_;have hG:=And.intro d3 (And.intro b0 (And.intro b1 b2));refine yA0 0 ?_;refine yA0 1 ?_;refine yA0 2 ?_;refine yA0 3 ?_;refine yB0 4 ?_;refine yB0 5 ?_;refine qw (i:=6) rfl au (λK hK=>?_);go_simp;have h7:=hS1.drew.alloc (.cells #[.string x.fr,.string x.to,q] 133);have d3:=h7.iO.cellAt 3 _ rfl;have b0:=h7.eH.cellAt 0 _ rfl;have b1:=h7.eH.cellAt 1 _ rfl;have b2:=h7.eH.cellAt 2 _ rfl;refine hK _ _ (.inr <| .inl <| And.intro d3 (And.intro b0 (And.intro b1 b2))) ?_;clear hK K;refine qw (i:=7) rfl au (λK hK=>?_);refine step_append (w0:=w0) ah _ _ _ ah _ i _ underlying124 hi hz0 hz1 ah oQ ah ah hoc (h7.rH) (AU _ _ _ 3 1 1 ah) h63 hby ?_;intro v2 w2 hS2 hne
 obtain ⟨g2,n2,k2,rfl⟩:=hne yF0;have e3:=hS2.rH.cellAt 3 _ rfl;have g3:=hS2.rH.pY 3;have b0:=hS2.iO.cellAt 0 _ rfl;have b1:=hS2.iO.cellAt 1 _ rfl;have b2:=hS2.iO.cellAt 2 _ rfl;refine hK _ _ (.inl rfl) ?_;clear hK K;refine yA0 8 ?_;refine yA0 9 ?_;refine qw (i:=10) rfl au (λK hK=>?_);go_simp;refine hK _ _ (.inl rfl) ?_;clear hK K;refine dH au ?_;go_wp2
 go_end0
 refine ⟨_,rfl,.slice (some ⟨g2,0,none⟩) n2 k2,?_⟩;have h9:=hS2.rH.set 3 (.slice (some ⟨g2,0,none⟩) n2 k2);rw [bH.o];unfold ay.link;simp only [aeB,ael,ajb,adV];rw [Hcs.o];exact h9.sel 5 [0,3,1] rfl rfl
end
section
variable {w0 w:World}{F:List aG}{m fb nb b:Nat}{M:ay}{bs:List Nat}{wv v:Value}{s:ByteArray}{l:Bs}
theorem aX (l:Bs):(aA l).length=l.length:=by simp [aA]
theorem wG (l:Bs):∀ u∈aA l,u.oneCell'=true:=by
 intro u hu;obtain ⟨b,_,rfl⟩:=abL.1 hu
 rfl
theorem zW (l k:Bs):aA (l++k)=aA l++aA k:=by simp [aA]
theorem afV (l:Bs) (n:Nat):aA (l.take n)=(aA l).take n:=by simp [aA,aoU]
theorem wI (h:Sat w0 w F) (hr:bF 1 v (aA l) w) (hl:l.length<=140737488355328) :
  Calls prog 91 #[v] w (aP λv' w'=>Sat w0 w' (bQ v' l::F)/\∃ a n c,v'=.slice a n c):=by
 obtain ⟨a,n,c,rfl,hn,hc⟩:=hr;rw [aX,aes]at hn;subst hn;cases a with
 |none=>
  have:l=[]:=by
   cases l with
   |nil=>rfl
   |cons x l=>obtain ⟨b,hb,_⟩:=hc 0 _ rfl;cases hb
  subst this;refine (Tryz.bytes_Clone_nil 0 c w).mono ?_;rintro e w1 ⟨rfl,rfl⟩;exact ⟨_,rfl,Sat.gB.2 h,_,_,_,rfl⟩
 |some a=>
  refine (Tryz.bytes_Clone_at a l.length c (l.map λb=>(b.toNat:Int)) w yF0 hl ?_).mono ?_
  ·intro i hi;obtain ⟨b,hb,hx⟩:=hc i (.int .u8 (l[i]).toNat) (by simp [aA,hi]);cases hb;rw [hx];simp [hi]
  ·rintro e w1 ⟨v',rfl,ho,hne,hb⟩;obtain ⟨hlen,hv|⟨g,cap,cur,rfl,hbg,hg,hnc,hcm,hcs,htk⟩⟩:=ho
   ·exact absurd hv.1 hne
   ·refine ⟨_,rfl,?_,_,_,_,rfl⟩;refine (h.fresh hb.os hb.tape hb.output hb.size hbg hg hb.block).lN ?_ hnc oQ hcm ?_
    ·rw [aX];omega
    ·rw [htk];simp [aA]
def OH (c:jm) (bv:Value):Value:= .agg #[.bool c.cut,.int .i64 c.n,bv]
theorem af7 (n:Nat) (bv:Value) (h:Sat w0 w (bQ v l::F)) (hn:n<=l.length) :
  Calls prog 118 #[.agg #[.bool true,.int .i64 n,bv],v] w (aP λv' w'=>Sat w0 w' (bQ v' (l.take n)::F)/\∃ a n c,v'=.slice a n c):=by
 have hb:=(h.alloc (.cells #[.bool true,.int .i64 n,bv] 199));have b0:=hb.cellAt 0 _ rfl;have b1:=hb.cellAt 1 _ rfl;rcases hb.bf.lC with ⟨rfl,hl,h'⟩|⟨g,m,cap,cs,rfl,hl,hm,hc,hcm,htk,hp⟩
 ·have hl0:l=[]:=by simpa [aA] using hl
  subst hl0;obtain rfl:n=0:=by simpa using hn
  go_enter func118,ntmps118;go_wp2;go_ret;exact ⟨_,rfl,Sat.gB.2 h'.drop,_,_,_,rfl⟩
 ·rw [aX,aes]at hl;subst hl;have e1:(n:Int)<=(cap:Int):=by omega
  have e0:(0:Int)<=(n:Int):=by omega
  have eG:=uQ htk;clear htk;have hfin:Sat w0 (w.alloc (.cells #[.bool true,.int .i64 n,bv] 199)) (bQ (.slice (some ⟨g,0,none⟩) n n) (l.take n)::F):=by
   refine (hp.bf.drop).lN ?_ (abl _) oQ oQ ?_
   ·rw [aX,ads];omega
   ·rw [afV,<-eG.o];simp [List.take_take,ap1 hn]
  go_enter func118,ntmps118;go_wp2;go_ret;exact ⟨_,rfl,hfin,_,_,_,rfl⟩
theorem vC:∃ i:TypeInfo,prog.info? 5=some i/\i.zero=some (.int .u8 0)/\i.size=1/\i.bytes=1:=by
 obtain ⟨i,hi,hz0,hz1,hz2⟩:=info_parts info8;exact ⟨i,hi,hz0,hz1,hz2⟩
theorem af5 (n:Int) (bv:Value) (cb:Bs) (h:Sat w0 w (bQ v l::F)) (hr:Ro w0 F (bF 1 bv (aA cb))) (hl:l.length+cb.length<=140737488355328) (hbv:∃ a n c,bv=.slice a n c) :
  Calls prog 118 #[.agg #[.bool false,.int .i64 n,bv],v] w (aP λv' w'=>Sat w0 w' (bQ v' (l++cb)::F)/\∃ a n c,v'=.slice a n c):=by
 obtain ⟨i,hi,hz0,hz1,hz2⟩:=vC;have hb:=(h.alloc (.cells #[.bool false,.int .i64 n,bv] 199));have b0:=hb.cellAt 0 _ rfl;have b2:=hb.cellAt 2 _ rfl;have hcl:=wI hb.drew hb.drew.bf.rd oQ;have h63:(aA l).length+(aA cb).length<=maxLen:=by rw [aX,aX];unfold maxLen;omega
 have hby:((aA l).length+(aA cb).length)*i.bytes<=140737488355328:=by rw [aX,aX,hz2];omega
 obtain ⟨ba,bn,bc,rfl⟩:=hbv;go_enter func118,ntmps118;go_wp2_with fail;refine dN [4,5] (λw'=>w'.cell? ⟨w.heap.size,2,none⟩=some (.slice ba bn bc)) au ?_;refine yA0 0 ?_;refine yA0 2 ?_;refine yB0 3 ?_;refine qw (i:=1) rfl au (λK hK=>?_);go_simp;refine hcl.mono ?_;rintro e w1 ⟨v1,rfl,hS1,a1,n1,c1,rfl⟩;have b2:=hS1.bf.cellAt 2 _ rfl;refine hK _ _ (.inr (.inl b2)) ?_;clear hK K;refine qw (i:=4) rfl au (λK hK=>?_);refine step_append (w0:=w0) ah _ _ _ ah _ i _ underlying39 hi hz0 hz1 ah oQ ah ah (wG cb) hS1 (hr _ hS1.drop.drop.drop) h63 hby ?_;intro v2 w2 hS2 _;refine hK _ _ (.inl rfl) ?_;clear hK K;refine yA0 5 ?_;refine dH au ?_;go_wp2;go_ret;have h9:=hS2.sel 3 [0] rfl rfl;have hsh:=hS2.rd;obtain ⟨a2,n2,c2,rfl,_⟩:=hsh;refine ⟨_,rfl,?_,_,_,_,rfl⟩;unfold bQ;rw [zW];exact h9
end
section
variable {w0 w:World}{F:List aG}{m fb nb b:Nat}{M:ay}{bs:List Nat}{wv v bv:Value}{s:ByteArray}{l:Bs}{f:bK}
def WW (c:jm) (l:Bs):Prop:=(c.cut=true->c.n<=l.length)/\(c.cut=false->l.length+c.b.length<=140737488355328)
theorem af6 (c:jm) (h:Sat w0 w (bQ v l::F)) (hr:Ro w0 F (bF 1 bv (aA c.b))) (hbv:∃ a n c,bv=.slice a n c) (hc:WW c l) :
  Calls prog 118 #[OH c bv,v] w (aP λv' w'=>Sat w0 w' (bQ v' (c.on l)::F)/\∃ a n c,v'=.slice a n c):=by
 obtain ⟨cut,n,cb⟩:=c;cases cut
 ·exact af5 n bv cb h hr (hc.2 rfl) hbv
 ·exact af7 n bv h (hc.1 rfl)
theorem OA (h:Sat w0 w (bQ v l::F)):∃ a n c,v=.slice a n c:=by
 obtain ⟨a,n,c,rfl,_⟩:=h.rd;exact ⟨a,n,c,rfl⟩
theorem Ro.bQ {R:List aG} (v:Value) (l:Bs):Ro w0 (bQ v l::R) (bF 1 v (aA l)):=λw hw=>hw.rd
theorem aiT:(prog.info? 199).map (λi=>(i.zero,i.size,i.bytes))=some (some (.agg #[.bool false,.int .i64 0,.slice none 0 0]),3,40):=by kernel_rfl
theorem af8 (ws:List (jm×Value)) (p:jm×Value):uT (ws++[p])=star (uT ws) (bQ p.2 p.1.b):=by
 unfold uT;rw [adU,qO];simp [DL]
theorem agK {fv nv:Value}{ws:List (jm×Value)} (c:jm) (h:Sat w0 w (D6 b f fv nv wv ws++bQ bv c.b::F)) (hws:ws.map (·.1)=f.waits) (hc:WW c f.now) (hw:f.waits.length<=1099511627776) :
  Calls prog 177 #[ptr b,OH c bv] w (aP λ_ w'=>Sat w0 w' (kZ b (f.do c)::F)):=by
 obtain ⟨i,hi,hz0,hz1,hz2⟩:=info_parts aiT;obtain ⟨ba,bn,bc,rfl⟩:=OA (h.sel 6 [5] rfl rfl);have hb:=h.alloc (.cells #[.bool c.cut,.int .i64 c.n,.slice ba bn bc] 199);have hb':Sat w0 _ (bQ nv f.now::bQ (.slice ba bn bc) c.b::pt w.heap.size _::Cc b fv nv wv::bQ fv f.fast::aC 199 3 wv (ws.flatMap wH)::uT ws::F):=hb.sel 7 [3,6,0,1,2,4,5] rfl rfl;have hon:=af6 c hb'.drew (Ro.bQ _ _) ⟨_,_,_,rfl⟩ hc;obtain ⟨na,nn,nc,rfl⟩:=OA hb';have b0:=hb.cellAt 0 _ rfl;have b1:=hb.cellAt 1 _ rfl;have b2:=hb.cellAt 2 _ rfl;have c1:=hb.bf.cellAt 1 _ rfl;have hoc:∀ u∈(#[.bool c.cut,.int .i64 c.n,.slice ba bn bc]:Array Value).toList,u.oneCell'=true:=by
  intro u hu;simp only [ad5,ah4,apX]at hu;rcases hu with rfl|rfl|rfl <;> rfl
 have hwl:ws.length=f.waits.length:=by rw [<-hws];simp
 have hlen:(ws.flatMap wH).length=f.waits.length*3:=by
  rw [List.length_flatMap,<-hwl];simp [wH,List.map_const']
 have h63:(ws.flatMap wH).length+3<=maxLen:=by unfold maxLen;omega
 have hby:((ws.flatMap wH).length+3)*i.bytes<=140737488355328:=by rw [hz2];omega
 have Hlen:=uQ hlen;clear hlen;have Hws:=uQ hws;clear hws;have Hwl:=uQ hwl;clear hwl;unfold OH at *
 go_enter func177,ntmps177;go_wp2_with fail;refine dN [6,7,8,9] (λw'=>w'.cell? ⟨b,1,none⟩=some (.slice na nn nc)/\w'.cell? ⟨w.heap.size,0,none⟩=some (.bool c.cut)/\w'.cell? ⟨w.heap.size,1,none⟩=some (.int .i64 c.n)/\w'.cell? ⟨w.heap.size,2,none⟩=some (.slice ba bn bc)) au ?_;have hG:=And.intro c1 (And.intro b0 (And.intro b1 b2));refine yA0 0 ?_;refine yB0 1 ?_;refine yA0 2 ?_;refine yA0 3 ?_;refine yA0 4 ?_;refine yB0 5 ?_;refine qw (i:=6) rfl au (λK hK=>?_);go_simp;refine hon.mono ?_;rintro e w1 ⟨v1,rfl,hS1,a1,n1,k1,rfl⟩;refine hK _ _ (.inl rfl) ?_;clear hK K;refine yA0 7 ?_;refine yA0 8 ?_;have d1:=hS1.iO.cellAt 1 _ rfl;have g1:=hS1.iO.pY 1;refine qw (i:=9) rfl au (λK hK=>?_);go_simp;refine hK _ _ (.inl rfl) ?_;clear hK K hG;refine dH au ?_;have hS2:=hS1.iO.set 1 (.slice a1 n1 k1);generalize w1.setCell _ _=w2 at *
 clear d1 g1;have d2:=hS2.cellAt 2 _ rfl;have b0:=hS2.iO.cellAt 0 _ rfl;have b1:=hS2.iO.cellAt 1 _ rfl;have b2:=hS2.iO.cellAt 2 _ rfl;go_wp2_with fail;refine dN [7,8,9,10] (λw'=>w'.cell? ⟨b,2,none⟩=some wv/\w'.cell? ⟨w.heap.size,0,none⟩=some (.bool c.cut)/\w'.cell? ⟨w.heap.size,1,none⟩=some (.int .i64 c.n)/\w'.cell? ⟨w.heap.size,2,none⟩=some (.slice ba bn bc)) au ?_;have hG:=And.intro d2 (And.intro b0 (And.intro b1 b2));refine yA0 0 ?_;refine yA0 1 ?_;refine yA0 2 ?_;refine yA0 3 ?_;refine yB0 4 ?_;refine yB0 5 ?_;refine qw (i:=6) rfl au (λK hK=>?_);go_simp;have h7:=hS2.drew.alloc (.cells #[.bool c.cut,.int .i64 c.n,.slice ba bn bc] 199);have d2:=h7.bf.cellAt 2 _ rfl;have b0:=h7.rH.cellAt 0 _ rfl;have b1:=h7.rH.cellAt 1 _ rfl;have b2:=h7.rH.cellAt 2 _ rfl;refine hK _ _ (.inr <| .inl <| And.intro d2 (And.intro b0 (And.intro b1 b2))) ?_;clear hK K
 have h8:Sat w0 _ (aC 199 3 wv (ws.flatMap wH)::Cc b fv (.slice a1 n1 k1) wv::bQ (.slice a1 n1 k1) (c.on f.now)::bQ (.slice ba bn bc) c.b::bQ fv f.fast::uT ws::pt w.heap.size _::F):=h7.sel 8 [6,1,2,3,5,7,4] rfl rfl;refine qw (i:=7) rfl au (λK hK=>?_);refine step_append (w0:=w0) ah _ _ _ ah _ i _ underlying128 hi hz0 hz1 ah oQ ah ah hoc h8 (AU _ _ _ 3 1 1 ah) h63 hby ?_;intro v2 w3 hS3 hne;obtain ⟨g2,n2,k2,rfl⟩:=hne yF0;have e2:=hS3.bf.cellAt 2 _ rfl;have g3:=hS3.bf.pY 2;have b0:=(hS3.sel 7 [6] rfl rfl).cellAt 0 _ rfl;have b1:=(hS3.sel 7 [6] rfl rfl).cellAt 1 _ rfl;have b2:=(hS3.sel 7 [6] rfl rfl).cellAt 2 _ rfl;refine hK _ _ (.inl rfl) ?_;clear hK K;refine yA0 8 ?_;refine yA0 9 ?_;refine qw (i:=10) rfl au (λK hK=>?_);go_simp;refine hK _ _ (.inl rfl) ?_;clear hK K;refine dH au ?_;go_wp2
 go_end0
 refine ⟨_,rfl,?_⟩;have h9:=hS3.bf.set 2 (.slice (some ⟨g2,0,none⟩) n2 k2);refine kZ.shut (fv:=fv) (nv:= .slice a1 n1 k1) (wv:= .slice (some ⟨g2,0,none⟩) n2 k2) (ws:=ws++[(c,.slice ba bn bc)]) ?_ ?_
 ·rw [adU,Hws.o];rfl
 ·have h10:Sat w0 _ (bQ (.slice ba bn bc) c.b::uT ws::Cc b fv (.slice a1 n1 k1) (.slice (some ⟨g2,0,none⟩) n2 k2)::bQ fv f.fast::bQ (.slice a1 n1 k1) (c.on f.now)::aC 199 3 (.slice (some ⟨g2,0,none⟩) n2 k2) (ws.flatMap wH++[.bool c.cut,.int .i64 c.n,.slice ba bn bc])::F):=h9.sel 7 [3,5,0,4,2,1] rfl rfl;have h11:=Sat.star.2 h10.bf;rw [<-af8 ws (c,.slice ba bn bc)]at h11;unfold D6;rw [aeB];simp only [ael,ajb,adV,wH];exact h11.sel 5 [1,2,3,4,0] rfl rfl
end
section
variable {w:World}{s:ByteArray}
theorem ahW (c:UInt8):oO c=decide ((97<=(c.toNat:Int)/\(c.toNat:Int)<=122)\/(48<=(c.toNat:Int)/\(c.toNat:Int)<=57)\/(c.toNat:Int)=46\/(c.toNat:Int)=45):=by
 rw [aol];have e1:∀ k:UInt8,(c==k)=decide (c.toNat=k.toNat):=λk=>by
  rw [aol];simp [UInt8.toNat_inj]
 simp only [oO,Bool.or_eq_true,aev,adY,UInt8.le_iff_toNat_le,e1];simp only [UInt8.reduceToNat];omega
theorem afh (l:List UInt8) (k:Nat) (h:k<l.length):(l.take (k+1)).all oO=((l.take k).all oO && oO l[k]):=by
 rw [ahI h,aiJ];simp
theorem Yz (s:ByteArray) (w:World) (hs:s.size<=9223372036854775807) :
  Calls prog 176 #[.string s] w (aP λv w'=>v=.bool (good s)/\w=w'):=by
 go_enter func176,ntmps176;by_cases h1:(s.size:Int)<1
 ·go_wp2;go_ret;exact ⟨.bool false,rfl,by rw [show good s=false from by unfold good;simp;omega],rfl⟩
 by_cases h2:24<(s.size:Int)
 ·have h1':decide ((s.size:Int)<1)=false:=by simpa using h1
  go_wp2;go_ret;exact ⟨.bool false,rfl,by rw [show good s=false from by unfold good;simp;omega],rfl⟩
 have h1':decide ((s.size:Int)<1)=false:=by simpa using h1
 have h2':decide (24<(s.size:Int))=false:=by simpa using h2
 go_wp2
 go_loop [15] (λi=>∃ k:Nat,k<=s.size/\i=.int .i64 k/\(s.data.toList.take k).all oO=true) (λi=>s.size-(intOf i).toNat)
 case atStart=>exact ⟨0,aea _,rfl,by simp⟩
 case round=>
  obtain ⟨k,hk,rfl,hall⟩:=hrel;have vV:=uQ hall;clear hall;by_cases hlt:k<s.size
  ·have Hc:=uQ (ahW s[k]);have Hn:=uQ (afh s.data.toList k (by simpa using hlt));have hcls:(s[k].toNat:Int)<=44\/(s[k].toNat:Int)=45\/(s[k].toNat:Int)=46\/(s[k].toNat:Int)=47\/(48<=(s[k].toNat:Int)/\(s[k].toNat:Int)<=57)\/(58<=(s[k].toNat:Int)/\(s[k].toNat:Int)<=96)\/(97<=(s[k].toNat:Int)/\(s[k].toNat:Int)<=122)\/123<=(s[k].toNat:Int):=by omega
   have hbad:oO s[k]=false->good s=false:=by
    intro hgc;unfold good;have:s.data.toList.all oO=false:=by
     rw [List.all_eq_false];exact ⟨s[k],by exact apT (by simpa using hlt),by simpa using hgc⟩
    rw [this];simp
   have vW:=uQ hbad;clear hbad;have hgd:oO s[k]=true->(s.data.toList.take (k+1)).all oO=true:=by
    intro hgc;rw [Hn.o,vV.o];exact hgc
   have Iq:=uQ hgd;clear hgd;rcases hcls with g1|g1|g1|g1|⟨g1,g2⟩|⟨g1,g2⟩|⟨g1,g2⟩|g1
   ·have Oq:((s[k].toNat:Int)==46)=false:=by rw [adX];omega
    have Oo:((s[k].toNat:Int)==45)=false:=by rw [adX];omega
    go_wp2;go_ret;exact ⟨.bool false,rfl,by rw [vW.o yR0],rfl⟩
   ·go_wp2
    go_round
    case rel=>exact ⟨k+1,by omega,by go_num,Iq.o yR0⟩
    case measure=>simp [intOf];omega
   ·go_wp2
    go_round
    case rel=>exact ⟨k+1,by omega,by go_num,Iq.o yR0⟩
    case measure=>simp [intOf];omega
   ·have Oq:((s[k].toNat:Int)==46)=false:=by rw [adX];omega
    have Oo:((s[k].toNat:Int)==45)=false:=by rw [adX];omega
    go_wp2;go_ret;exact ⟨.bool false,rfl,by rw [vW.o yR0],rfl⟩
   ·go_wp2
    go_round
    case rel=>exact ⟨k+1,by omega,by go_num,Iq.o yR0⟩
    case measure=>simp [intOf];omega
   ·have b57:decide ((s[k].toNat:Int)<=57)=false:=by simp;omega
    have Oq:((s[k].toNat:Int)==46)=false:=by rw [adX];omega
    have Oo:((s[k].toNat:Int)==45)=false:=by rw [adX];omega
    go_wp2;go_ret;exact ⟨.bool false,rfl,by rw [vW.o yR0],rfl⟩
   ·go_wp2
    go_round
    case rel=>exact ⟨k+1,by omega,by go_num,Iq.o yR0⟩
    case measure=>simp [intOf];omega
   ·have ao4:decide ((s[k].toNat:Int)<=122)=false:=by simp;omega
    have b57:decide ((s[k].toNat:Int)<=57)=false:=by simp;omega
    have Oq:((s[k].toNat:Int)==46)=false:=by rw [adX];omega
    have Oo:((s[k].toNat:Int)==45)=false:=by rw [adX];omega
    go_wp2;go_ret;exact ⟨.bool false,rfl,by rw [vW.o yR0],rfl⟩
  ·go_wp2;go_ret;refine ⟨.bool true,rfl,?_,rfl⟩;have:k=s.size:=by omega
   subst this;have:=vV.o;rw [ad9 yF0]at this;rw [show good s=true from by unfold good;simp only [this];simp;omega]
end
end Go.Proofs.Y
namespace Go.ay
structure bK.Ok (K:Nat) (f:bK):Prop where
 now:f.now=f.at f.waits.length
 cuts:∀ k c,f.waits[k]?=some c->c.cut=true->c.n<=(f.at k).length
 size:∀ k,k<=f.waits.length->(f.at k).length<=16777216
 budget:f.waits.length<=K
theorem bK.I5 (f:bK) (c:jm) (k:Nat) (h:k<=f.waits.length):(f.do c).at k=f.at k:=by
 unfold bK.at bK.do;simp only;rw [aeC h]
theorem bK.zU (f:bK) (k:Nat) (c:jm) (h:f.waits[k]?=some c):f.at (k+1)=c.on (f.at k):=by
 unfold bK.at;obtain ⟨hlt,rfl⟩:=abm.1 h;rw [ahI hlt,apv]
 rfl
theorem bK.Wx (f:bK) (c:jm) (hn:f.now=f.at f.waits.length):(f.do c).at (f.waits.length+1)=c.on f.now:=by
 rw [bK.zU _ _ c (by simp [bK.do]),bK.I5 _ _ _ (abl _),hn]
theorem bK.Ok.vG {K:Nat}{f:bK} (h:f.Ok K):f.now.length<=16777216:=by
 rw [h.now];exact h.size _ (abl _)
theorem bK.Ok.mono {K K':Nat}{f:bK} (h:f.Ok K) (hk:K<=K'):f.Ok K':=⟨h.now,h.cuts,h.size,adt h.budget hk⟩
theorem bK.Ok.new (K:Nat):bK.new.Ok K:=⟨rfl,by simp [bK.new],by simp [bK.new,bK.at],by simp [bK.new]⟩
theorem bK.Ok.do {K:Nat}{f:bK} (h:f.Ok K) (c:jm) (h1:c.cut=true->c.n<=f.now.length) (h2:c.cut=false->f.now.length+c.b.length<=16777216):(f.do c).Ok (K+1):=by
 have hw:(f.do c).waits.length=f.waits.length+1:=by simp [bK.do]
 refine ⟨?_,?_,?_,by rw [hw];exact Nat.succ_le_succ h.budget⟩
 ·rw [hw,f.Wx c h.now];rfl
 ·intro k c' hk hc;simp only [bK.do]at hk;rcases aqg k f.waits.length with hlt|rfl|hgt
  ·rw [aej hlt]at hk;rw [f.I5 c k (Nat.le_of_lt hlt)];exact h.cuts k c' hk hc
  ·rw [aeh (abl _),ajN]at hk;simp at hk;subst hk;rw [f.I5 c _ (abl _),<-h.now];exact h1 hc
  ·rw [aeh (Nat.le_of_lt hgt)]at hk;have:k-f.waits.length≠0:=by omega
   obtain ⟨j,hj⟩:∃ j,k-f.waits.length=j+1:=⟨k-f.waits.length-1,by omega⟩;rw [hj]at hk;simp at hk
 ·intro k hk;rw [hw]at hk;rcases akJ k (f.waits.length+1) with hlt|hge
  ·rw [f.I5 c k oQ];exact h.size k oQ
  ·obtain rfl:k=f.waits.length+1:=by omega
   rw [f.Wx c h.now];unfold jm.on;cases hc:c.cut
   ·simpa using h2 hc
   ·simp;have:=h.vG;omega
theorem bK.Ok.sync {K:Nat}{f:bK} (h:f.Ok K):f.sync.Ok K:=
 ⟨rfl,by simp [bK.sync],(by simp only [bK.sync,bK.at];intro k _;simpa using h.vG),by simp [bK.sync]⟩
def oD (l:Names):Prop:=l.Pairwise λa b=>lt a.1 b.1=true
theorem lt_trans {a b c:ByteArray} (h:lt a b=true) (k:lt b c=true):lt a c=true:=by
 simp only [lt,adY]at *;exact aqk h k
theorem lt_irrefl (a:ByteArray):lt a a=false:=by simp [lt,apL]
theorem ajQ {a b:ByteArray} (h:a≠b):lt a b=true\/lt b a=true:=by
 simp only [lt,adY];by_cases h1:a.data.toList<b.data.toList
 ·exact .inl h1
 ·right;have h2:b.data.toList<=a.data.toList:=List.not_lt.1 h1;rcases List.le_iff_lt_or_eq.1 h2 with h3|h3
  ·exact h3
  ·exfalso;apply h;obtain ⟨⟨x⟩⟩:=a;obtain ⟨⟨y⟩⟩:=b;simp at h3;subst h3;rfl
theorem oD.keys {l:Names} (h:oD l):(l.map (·.1)).Nodup:=by
 rw [List.nodup_iff_pairwise_ne,ajM];refine h.imp λ{a b} hab e=>?_;rw [e,lt_irrefl]at hab;cases hab
theorem oD.del {l:Names} (h:oD l) (s:ByteArray):oD (iD l s):=h.sublist apj
theorem oD.ins:∀ {l:Names},oD l->∀ {s:ByteArray} (i:Nat),(∀ p∈l,p.1≠s)->oD (sJ l s i)
 |[],_,_,_,_=>List.pairwise_singleton _ _
 |p::l,h,s,i,hs=>by
  unfold sJ;obtain ⟨h1,h2⟩:=aeZ.1 h;split
  ·rename_i hlt;refine aeZ.2 ⟨λq hq=>?_,h⟩;rcases ad5.1 hq with rfl|hq
   ·exact hlt
   ·exact lt_trans hlt (h1 q hq)
  ·rename_i hlt;have hps:lt p.1 s=true:=(ajQ (hs p (.head _))).resolve_right (by simpa using hlt);refine aeZ.2 ⟨λq hq=>?_,oD.ins h2 i (λq hq=>hs q (.tail _ hq))⟩;have:=(QU l s i).mem_iff.1 hq;rcases ad5.1 this with rfl|hq
   ·exact hps
   ·exact h1 q hq
theorem oD.put {l:Names} (h:oD l) (s:ByteArray) (i:Nat):oD (kV l s i):=(h.del s).ins i (ajZ l s)
structure pV (n:Nat) (l:Names):Prop where
 ny:oD l
 len:l.length<=500
 ids:∀ p∈l,p.2<n
 ne:∀ p∈l,p.1≠ByteArray.empty
theorem pV.mono {n n':Nat}{l:Names} (h:pV n l) (hn:n<=n'):pV n' l:=⟨h.ny,h.len,λp hp=>aqa (h.ids p hp) hn,h.ne⟩
theorem CW (l:Names) (s:ByteArray):(iD l s).length<=l.length:=aeT _ _
theorem pV.del {n:Nat}{l:Names} (h:pV n l) (s:ByteArray):pV n (iD l s):=
 ⟨h.ny.del s,adt (CW l s) h.len,λp hp=>h.ids p (aem.1 hp).1,λp hp=>h.ne p (aem.1 hp).1⟩
theorem QY (l:Names) (s:ByteArray) (i:Nat):(kV l s i).length=(iD l s).length+1:=(wW l s i).length_eq
theorem pV.put {n:Nat}{l:Names} (h:pV n l) (s:ByteArray) (i:Nat) (hi:i<n) (hl:(iD l s).length<500) (hs:s≠ByteArray.empty):pV n (kV l s i):=by
 refine ⟨h.ny.put s i,by rw [QY];omega,λp hp=>?_,λp hp=>?_⟩;rotate_left
 ·rcases ad5.1 ((wW l s i).mem_iff.1 hp) with rfl|hp
  ·exact hs
  ·exact h.ne p (aem.1 hp).1
 rcases ad5.1 ((wW l s i).mem_iff.1 hp) with rfl|hp
 ·exact hi
 ·exact h.ids p (aem.1 hp).1
theorem aj0 {l:Names} (hs:oD l){s:ByteArray}{i:Nat} (h:bU l s=some i):(iD l s).length+1=l.length:=by
 have:=(QJ hs.keys (jD h)).length_eq;simp at this;omega
structure ay.Ok (K:Nat) (m:ay):Prop where
 room:m.room<=16777216
 left:m.left<=9223372036854775807
 links:∀ x∈m.waits,x.to≠ByteArray.empty->x.f<m.files.length
 names:∀ k,k<=m.waits.length->pV m.files.length (m.pG k)
 now:m.now=m.pG m.waits.length
 files:∀ f∈m.files,f.Ok K
 budget:m.waits.length<=K
theorem ay.Ok.ig {K:Nat}{m:ay} (h:m.Ok K):pV m.files.length m.now:=by rw [h.now];exact h.names _ (abl _)
theorem ay.Ok.ahh {K:Nat}{m:ay} (h:m.Ok K):pV m.files.length m.fast:=h.names 0 (aea _)
theorem ay.Ok.file {K:Nat}{m:ay} (h:m.Ok K) (i:Nat):(m.file i).Ok K:=by
 unfold ay.file;rcases akJ i m.files.length with hi|hi
 ·rw [adT,aay hi];exact h.files _ (apT hi)
 ·rw [adT,aiH hi];exact bK.Ok.new K
theorem ay.Ok.mono {K K':Nat}{m:ay} (h:m.Ok K) (hk:K<=K'):m.Ok K':=
 ⟨h.room,h.left,h.links,h.names,h.now,λf hf=>(h.files f hf).mono hk,adt h.budget hk⟩
theorem ay.Ok.new (K room:Nat) (h:room<=16777216):(new room).Ok K:=
 ⟨h,by simp [ay.new],by simp [ay.new],(by intro k _;simp [ay.new,ay.pG];exact ⟨List.Pairwise.nil,by simp,by simp,by simp⟩),by simp [ay.new,ay.pG],by simp [ay.new],by simp [ay.new]⟩
theorem ay.Ok.step {K:Nat}{m:ay} (h:m.Ok K):m.step.1.Ok K:=by
 unfold ay.step;split
 ·split
  ·exact ⟨h.room,h.left,h.links,h.names,h.now,h.files,h.budget⟩
  ·exact ⟨h.room,adt (Nat.sub_le _ _) h.left,h.links,h.names,h.now,h.files,h.budget⟩
 ·exact h
theorem ay.jZ (m:ay):m.step.1.room=m.room/\m.step.1.fast=m.fast/\m.step.1.now=m.now/\m.step.1.files=m.files/\m.step.1.waits=m.waits:=by
 unfold ay.step;split
 ·split <;> exact ⟨rfl,rfl,rfl,rfl,rfl⟩
 ·exact ⟨rfl,rfl,rfl,rfl,rfl⟩
theorem ay.ajt (m:ay) (x:jc) (k:Nat) (h:k<=m.waits.length):(m.link x).pG k=m.pG k:=by
 unfold ay.pG ay.link;simp only;rw [aeC h]
theorem ay.ZW (m:ay) (x:jc) (h:m.now=m.pG m.waits.length):(m.link x).pG (m.waits.length+1)=x.on m.now:=by
 rw [h];unfold ay.pG ay.link;simp only;rw [ad9 yF0,ad9 (abl _),apv]
 rfl
theorem ay.Ok.link {K:Nat}{m:ay} (h:m.Ok K) (x:jc) (hf:x.to≠ByteArray.empty->x.f<m.files.length) (hn:pV m.files.length (x.on m.now)):(m.link x).Ok (K+1):=by
 have hw:(m.link x).waits.length=m.waits.length+1:=by simp [ay.link]
 refine ⟨h.room,h.left,?_,?_,?_,λf hf=>(h.files f hf).mono (ai7 _),by rw [hw];exact Nat.succ_le_succ h.budget⟩
 ·intro y hy;simp only [ay.link,aeg,adZ]at hy;rcases hy with hy|rfl
  ·exact h.links y hy
  ·exact hf
 ·intro k hk;rw [hw]at hk;rcases akJ k (m.waits.length+1) with hlt|hge
  ·rw [m.ajt x k oQ];exact h.names k oQ
  ·obtain rfl:k=m.waits.length+1:=by omega
   rw [m.ZW x h.now];exact hn
 ·rw [hw,m.ZW x h.now];rfl
theorem ay.Ok.jf {K:Nat}{m:ay} (h:m.Ok K) (i:Nat) (f:bK) (hf:f.Ok (K+1)):(m.jf i f).Ok (K+1):=by
 have hl:(m.jf i f).files.length=m.files.length:=by simp [ay.jf]
 refine ⟨h.room,h.left,(by rw [hl];exact h.links),(by rw [hl];exact h.names),h.now,?_,Nat.le_succ_of_le h.budget⟩;intro g hg;rcases aog hg with hg|rfl
 ·exact (h.files g hg).mono (ai7 _)
 ·exact hf
theorem ay.Ok.aj3 {K:Nat}{m:ay} (h:m.Ok K):({ m with files:=m.files++[bK.new] }:ay).Ok K:=by
 have hl:(m.files++[bK.new]).length=m.files.length+1:=by simp
 refine ⟨h.room,h.left,λx hx ht=>(by have:=h.links x hx ht;simp only [hl];omega),λk hk=>(h.names k hk).mono yF0,h.now,?_,h.budget⟩;intro f hf;rcases aeg.1 hf with hf|hf
 ·exact h.files f hf
 ·rw [adZ.1 hf];exact bK.Ok.new K
theorem rE {s:ByteArray} (h:good s=true):s≠ByteArray.empty:=by
 intro e;subst e;simp [good]at h
theorem ay.Ok.create {K:Nat}{m:ay} (h:m.Ok K) (s:ByteArray):(m.create s).1.Ok (K+1):=by
 unfold ay.create;have h':=h.mono (ai7 K);split;· exact h'
 split;· exact h'
 rename_i hg;split;· exact h'
 rename_i hn;split;· exact h'
 rename_i hl;split;· exact h'.step
 have hst:=h.step;obtain ⟨e1,e2,e3,e4,e5⟩:=m.jZ;have hg':good s=true:=by simpa using hg
 have hn':bU m.now s=none:=by simpa using hn
 have h1:=hst.aj3;rw [e4]at h1;refine h1.link _ (λ_=>by simp) ?_;show pV _ (jc.on _ m.step.1.now);rw [e3];unfold jc.on;simp only [apa,abj (rE hg')];exact (h.ig.mono yF0).put s _ yF0 (by rw [yH hn'];omega) (rE hg')
theorem ZX:∀ (l:List Nat) (n:Nat),n∈l->n<=l.sum
 |[],_,h=>by cases h
 |x::l,n,h=>by
  rcases ad5.1 h with rfl|h
  ·simp
  ·have:=ZX l n h;simp;omega
theorem ay.Ok.append {K:Nat}{m:ay} (h:m.Ok K) (s:ByteArray) (b:Bs):(m.append s b).1.Ok (K+1):=by
 unfold ay.append;have h':=h.mono (ai7 K);split;· exact h'
 split;· exact h'
 rename_i i hi;split;· exact h'
 rename_i hroom;split;· exact h'.step
 refine h.step.jf _ _ ((h.file i).do _ yF0 ?_);intro _;have hu:(m.file i).now.length<=m.used:=by
  unfold ay.used;have:(s,i)∈m.now:=jD hi;exact ZX _ _ (abL.2 ⟨(s,i),this,rfl⟩)
 have:=h.room;simp only;omega
theorem ay.Ok.rename {K:Nat}{m:ay} (h:m.Ok K) (s t:ByteArray):(m.rename s t).1.Ok (K+1):=by
 unfold ay.rename;have h':=h.mono (ai7 K);split;· exact h'
 split;· exact h'
 rename_i i hi;split;· exact h'
 rename_i hg;split;· exact h'.step
 obtain ⟨e1,e2,e3,e4,e5⟩:=m.jZ;have hg':good t=true:=by simpa using hg
 have hid:i<m.files.length:=h.ig.ids _ (jD hi);refine h.step.link _ (λ_=>by rw [e4];exact hid) ?_;rw [e3,e4];unfold jc.on;simp only [abj (rE hg')];have hd:=aj0 h.ig.ny hi;have hl:=h.ig.len;have hs:s≠ByteArray.empty:=h.ig.ne _ (jD hi);rw [abj hs];refine (h.ig.del s).put t i hid ?_ (rE hg');have:=CW (iD m.now s) t;omega
theorem ay.Ok.remove {K:Nat}{m:ay} (h:m.Ok K) (s:ByteArray):(m.remove s).1.Ok (K+1):=by
 unfold ay.remove;have h':=h.mono (ai7 K);split;· exact h'
 split;· exact h'
 rename_i i hi;split;· exact h'.step
 obtain ⟨e1,e2,e3,e4,e5⟩:=m.jZ;refine h.step.link _ (λhh=>absurd rfl hh) ?_;rw [e3,e4];unfold jc.on;have hs:s≠ByteArray.empty:=h.ig.ne _ (jD hi);simp only [apa,abj hs];exact h.ig.del s
theorem ay.Ok.sync {K:Nat}{m:ay} (h:m.Ok K) (s:ByteArray):(m.sync s).1.Ok (K+1):=by
 unfold ay.sync;have h':=h.mono (ai7 K);split;· exact h'
 split;· exact h'
 rename_i i hi;split;· exact h'.step
 exact h.step.jf _ _ ((h.file i).sync.mono (ai7 _))
theorem ay.Ok.dR {K:Nat}{m:ay} (h:m.Ok K):m.dR.1.Ok K:=by
 unfold ay.dR;split;· exact h
 split;· exact h.step
 obtain ⟨e1,e2,e3,e4,e5⟩:=m.jZ;have hs:=h.step;refine ⟨hs.room,hs.left,by simp,?_,?_,hs.files,by simp⟩
 ·intro k _;show pV _ _;simp only [ay.pG,List.take_nil,List.foldl_nil];rw [e4];exact h.ig
 ·simp only [ay.pG,List.take_nil,List.foldl_nil];exact e3
theorem anA (l:List Nat) (b:Nat) (h:∀ x∈l,x<=b):l.sum<=l.length*b:=by
 induction l with
 |nil=>simp
 |cons x l ih=>
  have h1:=h x (.head _);have h2:=ih λy hy=>h y (.tail _ hy);simp only [ap6,aep,akH];omega
theorem ay.Ok.adn {K:Nat}{m:ay} (h:m.Ok K):m.used<=8388608000:=by
 unfold ay.used
 have h1:=anA (m.now.map λp=>(m.file p.2).now.length) 16777216 (by
  intro x hx;obtain ⟨p,_,rfl⟩:=abL.1 hx;exact (h.file p.2).vG)
 have:=h.ig.len;rw [aa4]at h1;have:=ae4 16777216 this;omega
end Go.ay
namespace Go.Proofs.Y
open Go Go.Sl Go.ay Go.MapKept Go.RowKit
section
variable {w0 w:World}{F:List aG}{m fb nb b r:Nat}{M:ay}{bs:List Nat}{wv v bv:Value}{s:ByteArray}{l:Names}{fs:List bK}
theorem Jq (h:Sat w0 w (oM bs fs::F)) (hl:bs.length=fs.length){i:Nat} (hi:i<fs.length) :
  ∃ fa fn fc na nc wv,w.cell? ⟨bs.getD i 0,0,none⟩=some (.slice fa fn fc)/\w.cell? ⟨bs.getD i 0,1,none⟩=some (.slice na (fs.getD i bK.new).now.length nc)/\w.cell? ⟨bs.getD i 0,2,none⟩=some wv /\
   bF 1 (.slice na (fs.getD i bK.new).now.length nc) (aA (fs.getD i bK.new).now) w/\(fs.getD i bK.new).now.length<=nc/\nc<=9223372036854775807/\(na=none/\nc=0\/∃ g,na=some ⟨g,0,none⟩):=by
 obtain ⟨G,h1,_⟩:=OZ bs fs i hl hi;rw [h1]at h;obtain ⟨fv,nv,wv,ws,hws,h⟩:=kZ.open (Sat.star.1 h);obtain ⟨fa,fn,fc,rfl,_⟩:=(h.sel 2 [1] rfl rfl).rd;have hN:=h.sel 3 [2] rfl rfl;have hr:=hN.rd;rcases Sat.lC hN with ⟨rfl,hx,_⟩|⟨g,n,cap,cs,rfl,hx,h1,_,h3,_,_⟩
 ·have hx0:(fs.getD i bK.new).now.length=0:=by rw [<-aX];exact aey List.length hx
  rw [hx0];exact ⟨fa,fn,fc,none,0,wv,h.cellAt 0 _ rfl,h.cellAt 1 _ rfl,h.cellAt 2 _ rfl,hr,abl _,by omega,.inl ⟨rfl,rfl⟩⟩
 ·rw [aX,aes]at hx;subst hx;exact ⟨fa,fn,fc,_,cap,wv,h.cellAt 0 _ rfl,h.cellAt 1 _ rfl,h.cellAt 2 _ rfl,hr,h1,h3,.inr ⟨g,rfl⟩⟩
theorem QF {todo:Names}{k v:Value}{left:List (Value×Value)} (h:(dZ bs todo).Perm ((k,v)::left)) :
  ∃ p todo',todo.Perm (p::todo')/\k=.string p.1/\v=ptr (bs.getD p.2 0)/\left.Perm (dZ bs todo'):=by
 have hm:(k,v)∈dZ bs todo:=h.mem_iff.2 (.head _);obtain ⟨p,hp,e⟩:=abL.1 hm;simp only [Prod.mk.injEq]at e;obtain ⟨t1,t2,rfl⟩:=List.append_of_mem hp;have h1:(t1++p::t2).Perm (p::(t1++t2)):=apb;refine ⟨p,t1++t2,h1,e.1.symm,e.2.symm,?_⟩;have h2:((k,v)::left).Perm ((k,v)::dZ bs (t1++t2)):=by
  refine h.symm.trans ((J3 h1).trans ?_);show List.Perm ((Value.string p.1,ptr (bs.getD p.2 0))::dZ bs (t1++t2)) _;rw [e.1,e.2]
 exact (List.Perm.cons_inv h2)
def sumOf (M:ay) (l:Names):Nat:=(l.map λp=>(M.file p.2).now.length).sum
theorem anz {l l':Names} (h:l.Perm l'):sumOf M l=sumOf M l':=(h.map _).sum_nat
abbrev adl (m:Nat) (M:ay) (fb nb:Nat) (wv:Value) (bs:List Nat) (F:List aG):List aG:=oH m M fb nb wv::omap .string nb (dZ bs M.now)::oM bs M.files::F
theorem aod (h:Sat w0 w (adl m M fb nb wv bs F)) (hl:bs.length=M.files.length) (hid:∀ p∈M.now,p.2<M.files.length) (hu:M.used<=9223372036854775807) :
  Calls prog 24 #[ptr m] w (aP λv w'=>v=.int .i64 M.uJ/\Sat w0 w' (adl m M fb nb wv bs F)):=by
 have hd:=zY h;have c2:=h.cellAt 2 _ rfl;cases ho:M.off
 ·rw [ho]at hd;have Hu:Hid (M.uJ=M.used):=by show _=_;unfold ay.uJ;rw [ho];rfl
  clear ho;go_enter func24,ntmps24
  go_wp2_with (first
   |(go_at_call 63;refine hd.mono ?_;rintro e w1 ⟨v,rfl,rfl,rfl⟩)
   |(at_range;go_must (refine UC ah _ _ _ _ ah underlying123 ah h.bf ?_);intro r w1 hS))
  go_frame
  go_loopg [3] M.now.length (λg n wr=>∃ (acc:Nat) (todo:Names) (left:List (Value×Value)),n=.int .i64 acc/\g=todo.length/\left.Perm (dZ bs todo)/\(∀ p∈todo,p∈M.now)/\acc+sumOf M todo=M.used /\
   Sat w0 wr (rng .string nb r (dZ bs M.now) left::oH m M fb nb wv::oM bs M.files::F))
  case atStart=>exact ⟨0,M.now,_,rfl,rfl,aok _,λ_ h=>h,by simp [ay.used,sumOf],hS⟩
  case round=>
   obtain ⟨acc,todo,left,rfl,rfl,hleft,hsub,hacc,hS⟩:=hrel;have MS:=uQ hacc;have zH:=uQ hsub;have hb:acc<=M.used:=by omega
   clear hacc hsub
   go_wp2_with (first
    |(at_next;go_must (refine UA ah _ ah ah hS ?_ ?_)))
   ·intro hnil;have Es:=uQ hnil;clear hnil;go_wp2;go_ret;refine ⟨.int .i64 acc,rfl,?_,?_⟩
    ·have h0:todo=[]:=by
      have:=hleft;rw [Es.o]at this;simpa [dZ] using this.symm
     subst h0;have:=MS.o;simp only [sumOf,aeF,List.sum_nil,ai6]at this;rw [Hu.o,this]
    ·exact (hS.RY).bf
   ·intro k v left' w1 hp hS1 hen;obtain ⟨p,todo',hp',rfl,rfl,hl'⟩:=QF (hleft.symm.trans hp);have hpi:p.2<M.files.length:=hid p (zH.o p (hp'.mem_iff.2 (.head _)));obtain ⟨fa,fn,fc,na,nc,wv',f0,f1,f2,_,_,_,hna⟩:=Jq (hS1.sel 3 [2] rfl rfl) hl hpi;have hsum:Hid (sumOf M todo=(M.file p.2).now.length+sumOf M todo'):=by
     show _=_;rw [anz hp'];simp [sumOf]
    have hb2:acc+(M.file p.2).now.length<=M.used:=by
     have h1:=MS.o;have h2:=hsum.o;omega
    have Hp:=uQ hp';have Hl:=uQ hl';clear hp hp' hl' hleft;clear hna;change w1.cell? ⟨bs.getD p.2 0,1,none⟩=some (.slice na (M.file p.2).now.length nc) at f1;generalize bs.getD p.2 0=q at *
    generalize hL:(M.file p.2).now.length=L at *
    have HL:=uQ hL;clear hL;go_wp2
    go_roundg todo'.length
    case measure=>have:=Hp.o.length_eq;simp at this;omega
    case rel=>
     refine ⟨acc+L,todo',left',by go_num,rfl,Hl.o,λx hx=>zH.o x (Hp.o.mem_iff.2 (.tail _ hx)),?_,hS1⟩;have h1:=MS.o;have h2:=hsum.o;omega
 ·rw [ho]at hd;have Hu:Hid (M.uJ=0):=by show _=_;unfold ay.uJ;rw [ho];rfl
  clear ho;go_enter func24,ntmps24;go_wp2_with (go_at_call 63;refine hd.mono ?_;rintro e w1 ⟨v,rfl,rfl,rfl⟩);go_ret;exact ⟨.int .i64 0,rfl,by rw [Hu.o];rfl,h⟩
end
section
variable {w0 w:World}{F:List aG}{m fb nb b r:Nat}{M:ay}{bs:List Nat}{wv v bv:Value}{s:ByteArray}{l:Names}{fs:List bK}
open Go.Sort in
theorem sort_c (ss:List (List UInt8)) (h:Sat w0 w (aC 9 1 v (ss.map encStr)::F)) (hsz:ss.length<4611686018427387904) :
  Calls prog 117 #[v] w (aP λ_ w'=>Sat w0 w' (aC 9 1 v ((ss.mergeSort λx y=>decide (x<=y)).map encStr)::F)):=by
 rcases h.lC with ⟨rfl,hn,h'⟩|⟨g,n,cap,cs,rfl,hl,hn,hc,hcm,htk,hp⟩
 ·have hn':ss=[]:=by simpa using hn
  subst hn';refine (Tryz.slices_Sort_string_none none 0 w).mono ?_;rintro e w1 ⟨rfl,rfl⟩;exact ⟨_,rfl,by simpa using h⟩
 ·have hl':n=ss.length:=by simpa using hl.symm
  subst hl';rw [aes]at htk;refine (Tryz.slices_Sort_string g 0 cap ss w (holds_of_block hp.at htk) hp.lt hsz).mono ?_;rintro e w1 ⟨rfl,n,os,rfl⟩;refine ⟨_,rfl,?_⟩;have hg:=grownBy_sorted (w:=w) (g:=g) (n:=n) (os:=os) (ss.mergeSort λx y=>decide (x<=y)).toArray;have:=hp.turn hg.os hg.tape hg.output hg.size (heap_sorted (n:=n) (os:=os) (ss.mergeSort λx y=>decide (x<=y)).toArray hp.at) (λi hi hlt=>hg.block i hlt (by simpa using hi));refine this.lN yF0 hn (by simpa [Sort.putCells] using hc) hcm ?_;have h1:=take_putCells cs (ss.mergeSort λx y=>decide (x<=y)) (by rw [List.length_mergeSort];omega);rw [List.length_mergeSort]at h1;rw [aes];exact h1
theorem XK (s:ByteArray):encStr s.data.toList=.string s:=by simp [encStr]
theorem ank {l:Names} (hs:oD l){ks:List ByteArray} (hp:ks.Perm (l.map (·.1))) :
  ((ks.map λs=>s.data.toList).mergeSort λx y=>decide (x<=y)).map encStr=l.map λp=> .string p.1:=by
 have h1:((ks.map λs=>s.data.toList).mergeSort λx y=>decide (x<=y))=l.map λp=>p.1.data.toList:=by
  refine List.Perm.eq_of_pairwise (le:=λx y=>decide (x<=y)=true) ?_ ?_ ?_ ?_
  ·intro a b _ _ h1 h2;simp only [adY]at h1 h2;exact List.le_antisymm h1 h2
  ·refine List.pairwise_mergeSort ?_ ?_ _
   ·intro a b c h1 h2;simp only [adY]at *
    exact List.le_trans h1 h2
   ·intro a b;simp only [Bool.or_eq_true,adY];exact List.le_total a b
  ·rw [ajM];refine hs.imp λ{a b} hab=>?_;simp only [lt,adY]at hab ⊢;exact List.le_of_lt hab
  ·refine (List.mergeSort_perm _ _).trans ?_;have:=hp.map λs:ByteArray=>s.data.toList;rw [aeW]at this;exact this
 rw [h1,aeW];apply akU;intro p _;exact XK p.1
theorem aiY:(prog.info? 9).map (λi=>(i.zero,i.size,i.bytes))=some (some (.string ByteArray.empty),1,16):=by kernel_rfl
def strs (l:List ByteArray):List Value:=l.map Value.string
theorem anw (l:List ByteArray):strs l=(l.map λs=>s.data.toList).map encStr:=by
 unfold strs;rw [aeW];apply akU;intro s _;exact (XK s).symm
theorem ajX (h:Sat w0 w (omap .string b (dZ bs l)::F)) (hs:oD l) (hl:l.length<=1099511627776) :
  Calls prog 67 #[.map (some b)] w (aP λv w'=>Sat w0 w' (aC 9 1 v (strs (l.map (·.1)))::omap .string b (dZ bs l)::F)/\∃ a n c,v=.slice a n c):=by
 obtain ⟨i,hi,hz0,hz1,hz2⟩:=info_parts aiY;have Hs:=uQ hs;clear hs;go_enter func67,ntmps67;go_wp2_with (at_range;go_must (refine UC ah _ _ _ _ ah underlying123 ah h ?_);intro r w1 hS)
 go_frame
 go_loopg [3] l.length (λg n wr=>∃ (ks:List ByteArray) (todo:Names) (left:List (Value×Value)),g=todo.length/\left.Perm (dZ bs todo)/\(ks++todo.map (·.1)).Perm (l.map (·.1)) /\
   Sat w0 wr (aC 9 1 n (strs ks)::rng .string b r (dZ bs l) left::F))
 case atStart=>exact ⟨[],l,_,rfl,aok _,aok _,by unfold strs;exact Sat.gB.2 hS⟩
 case round=>
  obtain ⟨ks,todo,left,rfl,hleft,hperm,hS⟩:=hrel;have hlen:ks.length+todo.length=l.length:=by have:=hperm.length_eq;simpa using this
  obtain ⟨oa,on,oc,rfl,hoc,_⟩:=hS.rd;clear hoc;have En:=uQ hleft;have BN:=uQ hperm;clear hleft hperm;go_wp2_with (at_next;go_must (refine UA ah _ ah ah hS.bf ?_ ?_))
  ·intro hnil;have Es:=uQ hnil;clear hnil;have h0:todo=[]:=by
    have:=En.o;rw [Es.o]at this;simpa [dZ] using this.symm
   subst h0;have hk:ks.Perm (l.map (·.1)):=by simpa using BN.o
   have hsort:=sort_c (ks.map λs=>s.data.toList) (by rw [<-anw];exact hS) (by simp at hlen ⊢;omega);rw [ank Hs.o hk]at hsort;have Hk:=uQ hk;clear hk;go_wp2_with (go_at_call 117;refine hsort.mono ?_;rintro e w2 ⟨v,rfl,hS2⟩);go_ret;refine ⟨_,rfl,?_,_,_,_,rfl⟩;have h9:=(hS2.bf.RY).bf;have e1:strs (l.map (·.1))=l.map λp=>Value.string p.1:=by unfold strs;rw [aeW];rfl
   rw [e1];exact h9
  ·intro k v left' w1 hp hS1 hen;obtain ⟨p,todo',hp',rfl,rfl,hl'⟩:=QF (En.o.symm.trans hp);have hlen2:todo.length=todo'.length+1:=by have:=hp'.length_eq;simpa using this
   have Hp:=uQ hp';have Hl:=uQ hl';clear hp hp' hl';have hb1:=hS1.bf.alloc (.cells #[.string p.1] 9);have h63:(strs ks).length+1<=maxLen:=by unfold strs maxLen;rw [aa4];omega
   have hby:((strs ks).length+1)*i.bytes<=140737488355328:=by unfold strs;rw [aa4,hz2];omega
   have hoc:∀ u∈(#[.string p.1]:Array Value).toList,u.oneCell'=true:=by
    intro u hu;simp only [ad5,ah4,apX]at hu;subst hu;rfl
   go_wp2_with (at_builtin;go_must (refine zo (w0:=w0) ah _ _ _ ah _ i _ underlying135 hi hz0 hz1 ah oQ ah ah hoc hb1.bf (AU _ _ _ 1 1 1 ah) h63 hby ?_);intro v2 w2 hS2 hne)
   go_roundg todo'.length
   case measure=>omega
   case rel=>
    refine ⟨ks++[p.1],todo',left',rfl,Hl.o,?_,?_⟩
    ·refine List.Perm.trans ?_ BN.o;rw [adQ];exact List.Perm.append_left ks (show List.Perm ((p::todo').map (·.1)) _ from (Hp.o.map (·.1)).symm)
    ·have:strs (ks++[p.1])=strs ks++[.string p.1]:=by simp [strs]
     rw [this];exact hS2.sel 3 [0,2] rfl rfl
theorem agk (h:Sat w0 w (omap .string b (dZ bs l)::F)) :
  Calls prog 65 #[.map (some b)] w (aP λv w'=>∃ b',v=.map (some b')/\Sat w0 w' (omap .string b' (dZ bs l)::omap .string b (dZ bs l)::F)):=by
 have hn:=QE h;have hmm:=@run_makeMap prog;have h0:=h.F7 .string;have Hn:=uQ hn;clear hn;go_enter func65,ntmps65;go_wp2_with (at_range;go_must (refine UC ah _ _ _ _ ah underlying123 ah h0.bf ?_);intro r w1 hS)
 go_frame
 generalize w.heap.size=b' at *
 go_loopg [4,5] l.length (λg _ _ wr=>∃ (done todo:Names) (left:List (Value×Value)),g=todo.length/\left.Perm (dZ bs todo)/\(done++todo).Perm l /\
   Sat w0 wr (omap .string b' (dZ bs done)::rng .string b r (dZ bs l) left::F))
 case atStart=>exact ⟨[],l,_,rfl,aok _,aok _,hS.bf⟩
 case round=>
  obtain ⟨done,todo,left,rfl,hleft,hperm,hS⟩:=hrel;have En:=uQ hleft;have BN:=uQ hperm;clear hleft hperm;go_wp2_with (at_next;go_must (refine UA ah _ ah ah hS.bf ?_ ?_))
  ·intro hnil;have Es:=uQ hnil;clear hnil;have h0:todo=[]:=by
    have:=En.o;rw [Es.o]at this;simpa [dZ] using this.symm
   subst h0;have hk:done.Perm l:=by simpa using BN.o
   have Hk:=uQ hk;clear hk;go_wp2;go_ret;refine ⟨_,rfl,b',rfl,?_⟩;exact ((hS.bf.RY).bf).F8 (J3 Hk.o)
  ·intro k v left' w1 hp hS1 hen;obtain ⟨p,todo',hp',rfl,rfl,hl'⟩:=QF (En.o.symm.trans hp);have hlen2:todo.length=todo'.length+1:=by have:=hp'.length_eq;simpa using this
   have hkey:∀ x∈dZ bs done,x.1 ≠ .string p.1:=by
    intro x hx e;obtain ⟨q,hq,rfl⟩:=abL.1 hx;simp only [Value.string.injEq]at e;have h1:=((BN.o.map (·.1)).nodup_iff.2 Hn.o);rw [adU,List.nodup_append]at h1;exact h1.2.2 q.1 (abL.2 ⟨q,hq,rfl⟩) p.1 (abL.2 ⟨p,hp'.mem_iff.2 (.head _),rfl⟩) e
   have hside:(dZ bs done).Perm (dZ bs done)/\(∀ x∈dZ bs done,x.1 ≠ .string p.1)\/∃ v0,(dZ bs done).Perm ((.string p.1,v0)::dZ bs done):= .inl ⟨aok _,hkey⟩;have NV:=uQ hside;clear hside hkey;have Hp:=uQ hp';have Hl:=uQ hl';clear hp hp' hl';generalize hq:ptr (bs.getD p.2 0)=q at *
   have Hq:=uQ hq;clear hq;go_wp2_with (at_mapUpdate;go_must (refine MC (key:= .string p.1) ah _ _ _ ah underlying123 underlying9 ah ah ah trivial hS1.bf _ NV.o ?_);intro w2 hS2)
   go_roundg todo'.length
   case measure=>omega
   case rel=>
    refine ⟨p::done,todo',left',rfl,Hl.o,?_,?_⟩
    ·refine List.Perm.trans ?_ BN.o;exact (apb.symm).trans (List.Perm.append_left done Hp.o.symm)
    ·show Sat w0 _ (omap .string b' ((.string p.1,ptr (bs.getD p.2 0))::dZ bs done)::_);rw [Hq.o];exact hS2
end
end Go.Proofs.Y
