import Derived.WalkKit
import Derived.Maps.OwnSet
import Derived.Lib.Hide
import Derived.Maps.RangeWalk
import Derived.Maps.AppendAt
import Derived.Sort.Walk0
import Derived.Test.YtiglchkhikciiaaGreatDoorChecked
import Derived.WalkLawsBesides
import Derived.WalkSpells
import Derived.OrdersHeld
import Derived.Deep.RegionHeld3
import Derived.Deep.DrawnRows
import Derived.Test.YtiglchkhikciiaaGreatDoorShelf
import Derived.Deep.LoopGhost
import Derived.Sort.OwnSorted
namespace Go
theorem aak:type_of% @List.getElem?_eq_getElem:=@List.getElem?_eq_getElem
theorem aal:type_of% @List.length_append:=@List.length_append
theorem aaI:type_of% @List.size_toArray:=@List.size_toArray
theorem aaJ:type_of% @List.length_map:=@List.length_map
theorem abl:type_of% @List.getElem?_eq_some_iff:=@List.getElem?_eq_some_iff
theorem abw:type_of% @if_neg:=@if_neg
theorem abA:type_of% @List.mem_of_getElem?:=@List.mem_of_getElem?
theorem abL:type_of% @List.getElem?_toArray:=@List.getElem?_toArray
theorem acy:type_of% @Nat.le_refl:=@Nat.le_refl
theorem acI:type_of% @Go.IntWalk.i64_in:=@Go.IntWalk.i64_in
theorem acJ:type_of% @List.length_take:=@List.length_take
theorem acK:type_of% @List.mem_map:=@List.mem_map
theorem ac2:type_of% @Go.Result.andThen_ok:=@Go.Result.andThen_ok
theorem ac3:type_of% @if_pos:=@if_pos
theorem adr:type_of% @Nat.le_trans:=@Nat.le_trans
theorem adu:type_of% @Array.length_toList:=@Array.length_toList
theorem adM:type_of% @List.toList_toArray:=@List.toList_toArray
theorem adN:type_of% @decide_eq_true_eq:=@decide_eq_true_eq
theorem adO:type_of% @Go.Sem.run_bind:=@Go.Sem.run_bind
theorem adP:type_of% @List.getD_eq_getElem?_getD:=@List.getD_eq_getElem?_getD
theorem adQ:type_of% @List.getElem?_append_right:=@List.getElem?_append_right
theorem adR:type_of% @List.append_assoc:=@List.append_assoc
theorem adU:type_of% @List.length_drop:=@List.length_drop
theorem adV:type_of% @List.getElem?_append_left:=@List.getElem?_append_left
theorem adW:type_of% @beq_eq_false_iff_ne:=@beq_eq_false_iff_ne
theorem adX:type_of% @List.length_singleton:=@List.length_singleton
theorem aeb:type_of% @List.take_of_length_le:=@List.take_of_length_le
theorem aen:type_of% @Nat.zero_add:=@Nat.zero_add
theorem aer:type_of% @List.mem_cons:=@List.mem_cons
theorem aex:type_of% @decide_eq_false:=@decide_eq_false
theorem aey:type_of% @List.map_append:=@List.map_append
theorem aeC:type_of% @Go.Sem.run_pure:=@Go.Sem.run_pure
theorem afm:type_of% @Nat.zero_le:=@Nat.zero_le
theorem afo:type_of% @List.append_nil:=@List.append_nil
theorem ag8:type_of% @List.map_cons:=@List.map_cons
theorem aiu:type_of% @decide_eq_true:=@decide_eq_true
theorem aiv:type_of% @List.take_length:=@List.take_length
theorem aiw:type_of% @Nat.mul_one:=@Nat.mul_one
theorem aix:type_of% @List.getElem?_map:=@List.getElem?_map
theorem aiy:type_of% @Nat.succ_le_of_lt:=@Nat.succ_le_of_lt
theorem aiz:type_of% @List.drop_of_length_le:=@List.drop_of_length_le
theorem aiR:type_of% @List.mem_singleton:=@List.mem_singleton
theorem ai7:type_of% @List.flatMap_cons:=@List.flatMap_cons
theorem aja:type_of% @List.length_cons:=@List.length_cons
theorem ajb:type_of% @List.take_append_of_le_length:=@List.take_append_of_le_length
theorem ajc:type_of% @Bool.and_eq_true:=@Bool.and_eq_true
theorem ajd:type_of% @List.nil_append:=@List.nil_append
theorem aje:type_of% @congrArg:=@congrArg
theorem aji:type_of% @List.mem_filter:=@List.mem_filter
theorem ajj:type_of% @List.flatMap_append:=@List.flatMap_append
theorem ajk:type_of% @List.mem_append:=@List.mem_append
theorem ajl:type_of% @List.getElem?_take:=@List.getElem?_take
theorem ajm:type_of% @List.mem_of_mem_take:=@List.mem_of_mem_take
theorem ajn:type_of% @List.length_nil:=@List.length_nil
theorem ajr:type_of% @List.length_dropLast:=@List.length_dropLast
theorem ajs:type_of% @List.take_append_drop:=@List.take_append_drop
theorem ajt:type_of% @Go.IntKind.wrap_i64:=@Go.IntKind.wrap_i64
theorem ajx:type_of% @Go.wpList_plain:=@Go.wpList_plain
theorem ajD:type_of% @List.take_zero:=@List.take_zero
theorem ajE:type_of% @List.all_eq_true:=@List.all_eq_true
theorem ajH:type_of% @List.getElem?_eq_none:=@List.getElem?_eq_none
theorem ajI:type_of% @List.length_replicate:=@List.length_replicate
theorem ajJ:type_of% @decide_eq_false_iff_not:=@decide_eq_false_iff_not
theorem ajK:type_of% @Bool.false_eq_true:=@Bool.false_eq_true
theorem ajL:type_of% @List.take_add_one:=@List.take_add_one
theorem ajM:type_of% @Go.IntWalk.wrap64_in:=@Go.IntWalk.wrap64_in
theorem ajN:type_of% @List.cons_append:=@List.cons_append
theorem ajO:type_of% @Go.run_underlying:=@Go.run_underlying
theorem ajP:type_of% @List.map_nil:=@List.map_nil
theorem ajQ:type_of% @List.take_succ_eq_append_getElem:=@List.take_succ_eq_append_getElem
theorem ajR:type_of% @List.map_toArray:=@List.map_toArray
theorem ajS:type_of% @List.getLast?_eq_getElem?:=@List.getLast?_eq_getElem?
theorem ajT:type_of% @Nat.mul_le_mul_right:=@Nat.mul_le_mul_right
theorem ajU:type_of% @List.not_mem_nil:=@List.not_mem_nil
theorem ajV:type_of% @Go.MapKept.run_getObj_map:=@Go.MapKept.run_getObj_map
theorem ajW:type_of% @Nat.mul_comm:=@Nat.mul_comm
theorem ajX:type_of% @List.drop_eq_getElem_cons:=@List.drop_eq_getElem_cons
theorem ajY:type_of% @Option.toList_some:=@Option.toList_some
theorem ajZ:type_of% @List.all_append:=@List.all_append
theorem aj0:type_of% @List.length_set:=@List.length_set
theorem aj1:type_of% @beq_false_of_ne:=@beq_false_of_ne
theorem aj2:type_of% @List.eq_nil_of_length_eq_zero:=@List.eq_nil_of_length_eq_zero
theorem aj3:type_of% @List.getElem?_cons_succ:=@List.getElem?_cons_succ
theorem aj6:type_of% @bne_iff_ne:=@bne_iff_ne
theorem aj7:type_of% @Option.map_some:=@Option.map_some
theorem aj8:type_of% @Nat.le_succ:=@Nat.le_succ
theorem aj9:type_of% @List.map_map:=@List.map_map
theorem akb:type_of% @Nat.sub_self:=@Nat.sub_self
theorem akc:type_of% @Nat.add_zero:=@Nat.add_zero
theorem akd:type_of% @Go.IntKind.wrap_u64:=@Go.IntKind.wrap_u64
theorem ake:type_of% @Option.some.inj:=@Option.some.inj
theorem akf:type_of% @Nat.lt_or_ge:=@Nat.lt_or_ge
theorem akg:type_of% @Array.getElem?_toList:=@Array.getElem?_toList
theorem akh:type_of% @Array.getElem?_eq_getElem:=@Array.getElem?_eq_getElem
theorem aki:type_of% @List.pairwise_map:=@List.pairwise_map
theorem akj:type_of% @List.mem_of_getLast?:=@List.mem_of_getLast?
theorem akk:type_of% @Option.map_eq_some_iff:=@Option.map_eq_some_iff
theorem akl:type_of% @List.pairwise_cons:=@List.pairwise_cons
theorem akm:type_of% @Nat.lt_of_le_of_lt:=@Nat.lt_of_le_of_lt
theorem akn:type_of% @Array.getD_eq_getD_getElem?:=@Array.getD_eq_getD_getElem?
theorem ako:type_of% @Array.getElem?_modify:=@Array.getElem?_modify
theorem akp:type_of% @List.getElem_of_mem:=@List.getElem_of_mem
theorem akq:type_of% @Array.getElem?_eq_some_iff:=@Array.getElem?_eq_some_iff
theorem akr:type_of% @beq_iff_eq:=@beq_iff_eq
theorem aks:type_of% @List.flatMap_nil:=@List.flatMap_nil
theorem akt:type_of% @Nat.add_mul:=@Nat.add_mul
theorem aku:type_of% @List.drop_append_of_le_length:=@List.drop_append_of_le_length
theorem akv:type_of% @Nat.pow_le_pow_right:=@Nat.pow_le_pow_right
theorem akw:type_of% @List.mem_or_eq_of_mem_set:=@List.mem_or_eq_of_mem_set
theorem akx:type_of% @List.nodup_cons:=@List.nodup_cons
theorem aky:type_of% @List.Perm.refl:=@List.Perm.refl
theorem akz:type_of% @List.map_congr_left:=@List.map_congr_left
theorem akA:type_of% @List.length_pos_iff:=@List.length_pos_iff
theorem akB:type_of% @List.perm_append_comm:=@List.perm_append_comm
theorem akC:type_of% @Nat.mod_lt:=@Nat.mod_lt
theorem akD:type_of% @List.length_filter_le:=@List.length_filter_le
theorem akE:type_of% @of_decide_eq_true:=@of_decide_eq_true
theorem akF:type_of% @Go.MapKept.run_checkKey:=@Go.MapKept.run_checkKey
theorem akG:type_of% @List.getElem?_drop:=@List.getElem?_drop
theorem akH:type_of% @UInt8.toNat_ofNat':=@UInt8.toNat_ofNat'
theorem akI:type_of% @Nat.mul_le_mul:=@Nat.mul_le_mul
theorem akJ:type_of% @Bool.eq_iff_iff:=@Bool.eq_iff_iff
theorem akK:type_of% @Option.map_none:=@Option.map_none
theorem akL:type_of% @if_true:=@if_true
theorem akM:type_of% @List.perm_middle:=@List.perm_middle
theorem akN:type_of% @Nat.mod_eq_of_lt:=@Nat.mod_eq_of_lt
theorem akO:type_of% @if_false:=@if_false
theorem akP:type_of% @List.getLast?_eq_none_iff:=@List.getLast?_eq_none_iff
theorem akQ:type_of% @List.pairwise_iff_getElem:=@List.pairwise_iff_getElem
theorem akR:type_of% @Go.MapKept.run_findKey:=@Go.MapKept.run_findKey
theorem akS:type_of% @List.mem_map_of_mem:=@List.mem_map_of_mem
theorem akT:type_of% @Nat.lt_trichotomy:=@Nat.lt_trichotomy
theorem akU:type_of% @Nat.add_assoc:=@Nat.add_assoc
theorem akV:type_of% @Nat.div_le_self:=@Nat.div_le_self
theorem akW:type_of% @Nat.add_sub_cancel:=@Nat.add_sub_cancel
theorem akX:type_of% @List.length_take_le':=@List.length_take_le'
theorem akY:type_of% @Nat.add_sub_cancel_left:=@Nat.add_sub_cancel_left
theorem akZ:type_of% @Go.RowKit.Hid.out:=@Go.RowKit.Hid.out
theorem ak0:type_of% @Array.getElem?_eq_none:=@Array.getElem?_eq_none
theorem ak1:type_of% @List.foldl_append:=@List.foldl_append
theorem ak2:type_of% @List.lt_irrefl:=@List.lt_irrefl
theorem ak3:type_of% @List.drop_drop:=@List.drop_drop
theorem ak4:type_of% @List.filter_sublist:=@List.filter_sublist
theorem ak5:type_of% @List.drop_succ_cons:=@List.drop_succ_cons
theorem ak6:type_of% @Array.getElem?_setIfInBounds_ne:=@Array.getElem?_setIfInBounds_ne
theorem ak7:type_of% @List.drop_append:=@List.drop_append
theorem ak8:type_of% @Go.run_build:=@Go.run_build
theorem ak9:type_of% @List.drop_length:=@List.drop_length
theorem ala:type_of% @List.map_take:=@List.map_take
theorem alb:type_of% @or_false:=@or_false
theorem alc:type_of% @List.filter_cons_of_neg:=@List.filter_cons_of_neg
theorem ald:type_of% @List.filter_cons_of_pos:=@List.filter_cons_of_pos
theorem ale:type_of% @List.flatten_cons:=@List.flatten_cons
theorem alf:type_of% @Int.toNat_natCast:=@Int.toNat_natCast
theorem alg:type_of% @List.getElem?_cons_zero:=@List.getElem?_cons_zero
theorem alh:type_of% @Nat.min_eq_left:=@Nat.min_eq_left
theorem alj:type_of% @Array.toList_append:=@Array.toList_append
theorem alk:type_of% @List.take_succ_cons:=@List.take_succ_cons
theorem alm:type_of% @Nat.add_comm:=@Nat.add_comm
theorem aln:type_of% @List.sum_cons:=@List.sum_cons
theorem alo:type_of% @List.getElem_mem:=@List.getElem_mem
theorem alp:type_of% @List.countP_cons:=@List.countP_cons
theorem alq:type_of% @List.mem_flatMap:=@List.mem_flatMap
theorem alu:type_of% @List.drop_zero:=@List.drop_zero
theorem alv:type_of% @List.length_range':=@List.length_range'
theorem alz:type_of% @Int.natCast_mul:=@Int.natCast_mul
theorem alA:type_of% @Nat.pow_succ:=@Nat.pow_succ
theorem alC:type_of% @Int.le_refl:=@Int.le_refl
theorem alD:type_of% @List.lt_trans:=@List.lt_trans
theorem alE:type_of% @List.all_cons:=@List.all_cons
end Go
namespace Go
open Go
theorem rQ {p : Prop} (h : p := by rfl) : p := h
theorem kQ {p : Prop} (h : p := by kernel_rfl) : p := h
theorem aQ {p : Prop} (h : p := by assumption) : p := h
theorem oQ {p : Prop} (h : p := by omega) : p := h
theorem vU {i : Nat} (h : -9223372036854775808 ≤ ((i : Int) + 1) ∧ ((i : Int) + 1) ≤ 9223372036854775807 := by omega) : IntKind.i64.wrap ((i : Int) + 1) = (i : Int) + 1 := by rw [ajt]; omega
theorem iQ {p : Prop} (h : p := by intro _ _ _ h; exact h) : p := h
theorem dQ {p : Prop} (h : p := by decide) : p := h
theorem bQ {a b : Nat} (h : Nat.ble a b = true := by rfl) : a ≤ b := Nat.le_of_ble_eq_true h
theorem uQ {p : Prop} (h : p) : RowKit.Hid p := Lib.hid h
end Go
set_option linter.unusedVariables false
set_option maxHeartbeats 128000000
theorem au {p:Prop} (h:p:=by kernel_rfl):p:=h
theorem ah {p:Prop} (h:p:=by rfl):p:=h
theorem aN {p:Prop} (h:p:=by decide):p:=h
theorem bK {p:Prop} (h:p:=by intro _ _ _ h;exact h):p:=h
theorem bF {p:Prop} (h:p:=by exact Nat.le_of_ble_eq_true rQ):p:=h
namespace Go.Sl
open Go
abbrev Hp:Type:=Nat→Option Obj
def aG:Type:=Hp→Prop
def Hp.EN (a b:Hp):Prop:=∀ i,a i=none∨b i=none
def Hp.join (a b:Hp):Hp:=fun i=>(a i).or (b i)
theorem aG.ext {A B:aG} (h:∀ x,A x↔B x):A=B:=funext fun x=>propext (h x)
def emp:aG:=fun h=>h=fun _=>none
def star (A B:aG):aG:=fun h=>∃ a b,Hp.EN a b∧h=Hp.join a b∧A a∧B b
def pt (b:Nat) (o:Obj):aG:=fun h=>h=fun i=>if i=b then some o else none
def ex {α:Type} (A:α→aG):aG:=fun h=>∃ x,A x h
theorem Hp.abh {a b:Hp} (h:a.EN b):b.EN a:=fun i=>(h i).symm
theorem Hp.join_comm {a b:Hp} (h:a.EN b):a.join b=b.join a:=by
 funext i
 rcases h i with h|h <;> simp [Hp.join,h]
theorem Hp.join_assoc (a b c:Hp):(a.join b).join c=a.join (b.join c):=by
 funext i;simp [Hp.join,Option.or_assoc]
theorem Aj (A B:aG):star A B=star B A:=by
 apply aG.ext;intro h
 constructor <;> (rintro ⟨a,b,d,rfl,ha,hb⟩;exact ⟨b,a,Hp.abh d,Hp.join_comm d,hb,ha⟩)
theorem GZ (A B C:aG):star (star A B) C=star A (star B C):=by
 apply aG.ext;intro h
 constructor
 ·rintro ⟨ab,c,d,rfl,⟨a,b,d',rfl,ha,hb⟩,hc⟩
  refine ⟨a,b.join c,?_,Hp.join_assoc _ _ _,ha,⟨b,c,?_,rfl,hb,hc⟩⟩
  ·intro i
   have h1:=d i;have h2:=d' i
   simp only [Hp.join,Option.or_eq_none_iff]at *
   cases h:a i <;> simp_all
  ·intro i
   have h1:=d i
   simp only [Hp.join,Option.or_eq_none_iff]at *
   exact h1.imp (·.2) id
 ·rintro ⟨a,bc,d,rfl,ha,⟨b,c,d',rfl,hb,hc⟩⟩
  refine ⟨a.join b,c,?_,(Hp.join_assoc _ _ _).symm,⟨a,b,?_,rfl,ha,hb⟩,hc⟩
  ·intro i
   have h1:=d i;have h2:=d' i
   simp only [Hp.join,Option.or_eq_none_iff]at *
   cases h:c i <;> simp_all
  ·intro i
   have h1:=d i
   simp only [Hp.join,Option.or_eq_none_iff]at *
   exact h1.imp id (·.1)
theorem wR (A B C:aG):star A (star B C)=star B (star A C):=by
 rw [← GZ,Aj A B,GZ]
theorem Ko (A:aG):star emp A=A:=by
 apply aG.ext;intro h
 constructor
 ·rintro ⟨a,b,_,rfl,ha,hb⟩
  have:Hp.join a b=b:=by funext i;rw [show a=_ from ha];simp [Hp.join]
  rw [this];exact hb
 ·intro hh
  exact ⟨fun _=>none,h,fun _=> .inl rfl,by funext i;simp [Hp.join],rfl,hh⟩
theorem ahG (A:aG):star A emp=A:=by rw [Aj,Ko]
def stars:List aG→aG
 |[]=>emp
 |A::L=>star A (stars L)
theorem oP (A:aG) (L:List aG):stars (A::L)=star A (stars L):=rfl
theorem pK:∀ L M:List aG,stars (L++M)=star (stars L) (stars M)
 |[],M=>(Ko _).symm
 |A::L,M=>by rw [ajN,oP,pK L M,oP,GZ]
theorem ahH {L M:List aG} (h:L.Perm M):stars L=stars M:=by
 induction h with
 |nil=>rfl
 |cons x _ ih=>rw [oP,oP,ih]
 |swap x y l=>rw [oP,oP,oP,oP,wR]
 |trans _ _ ih1 ih2=>exact ih1.trans ih2
theorem Ak (A:aG):stars [A]=A:=ahG A
def aP (A B:aG):Prop:=∀ h,A h→B h
theorem aP.refl (A:aG):aP A A:=fun _ h=>h
theorem aP.star {A B C D:aG} (h:aP A C) (k:aP B D):aP (star A B) (star C D):=
 fun _ ⟨a,b,d,e,ha,hb⟩=>⟨a,b,d,e,h a ha,k b hb⟩
theorem aP.of_eq {A B:aG} (h:A=B):aP A B:=h ▸ aP.refl _
theorem aP.left {A B C:aG} (h:aP A B):aP (Sl.star A C) (Sl.star B C):=h.star (aP.refl _)
theorem Ri {α:Type} (A:α→aG) (B:aG):star (ex A) B=ex fun x=>star (A x) B:=by
 apply aG.ext;intro h
 constructor
 ·rintro ⟨a,b,d,e,⟨x,ha⟩,hb⟩;exact ⟨x,a,b,d,e,ha,hb⟩
 ·rintro ⟨x,a,b,d,e,ha,hb⟩;exact ⟨a,b,d,e,⟨x,ha⟩,hb⟩
structure Anch (w0 w:World):Prop where
 os:w.os=w0.os
 tape:w.tape=w0.tape
 output:w.output=w0.output
 size:w0.heap.size≤w.heap.size
theorem Anch.refl (w:World):Anch w w:=⟨rfl,rfl,rfl,acy _⟩
def Sat (w0 w:World) (L:List aG):Prop:=Anch w0 w∧∃ h:Hp,(∀ i o,h i=some o→w.heap[i]?=some o)∧stars L h
section
variable {w0 w:World}{A B C D E G:aG}{L M F R:List aG}
theorem Sat.mono (h:Sat w0 w L) (k:aP (stars L) (stars M)):Sat w0 w M:=⟨h.1,h.2.imp fun x hx=>⟨hx.1,k x hx.2⟩⟩
theorem Sat.perm (h:Sat w0 w L) (k:L.Perm M):Sat w0 w M:=h.mono (aP.of_eq (ahH k))
theorem Sat.head (h:Sat w0 w (A::R)) (k:aP A B):Sat w0 w (B::R):=h.mono k.left
theorem Sat.join (h:Sat w0 w (M++R)) (k:aP (stars M) A):Sat w0 w (A::R):=
 h.mono (fun x hx=>by rw [pK]at hx;exact k.left x hx)
theorem Sat.drop (h:Sat w0 w (A::R)):Sat w0 w R:=by
 obtain ⟨ha,x,hx,a,b,d,rfl,pa,pb⟩:=h
 refine ⟨ha,b,fun i o hi=>hx i o ?_,pb⟩
 simp only [Hp.join]
 rcases d i with h1|h1
 ·simp [h1,hi]
 ·simp [h1]at hi
theorem Sat.aZ (h:Sat w0 w (A::B::R)):Sat w0 w (B::A::R):=h.perm (List.Perm.swap _ _ _)
theorem Sat.fG (h:Sat w0 w (A::B::C::R)):Sat w0 w (C::A::B::R):=
 h.perm (((List.Perm.swap C B R).cons A).trans (List.Perm.swap C A _))
theorem Sat.iZ (h:Sat w0 w (A::B::C::D::R)):Sat w0 w (D::A::B::C::R):=
 h.perm ((((List.Perm.swap D C R).cons B).cons A).trans (((List.Perm.swap D B _).cons A).trans (List.Perm.swap D A _)))
theorem Sat.qA (h:Sat w0 w (A::B::C::D::E::R)):Sat w0 w (E::A::B::C::D::R):=
 (h.perm ((((List.Perm.swap E D R).cons C).cons B).cons A)).iZ
theorem Sat.VN (h:Sat w0 w (B::A::R)):Sat w0 w (A::B::R):=h.aZ
theorem Sat.ex {α:Type}{A:α→aG}:Sat w0 w (Sl.ex A::R)↔∃ x,Sat w0 w (A x::R):=by
 constructor
 ·rintro ⟨ha,x,hx,hA⟩
  rw [oP,Ri]at hA
  obtain ⟨y,hA⟩:=hA
  exact ⟨y,ha,x,hx,hA⟩
 ·rintro ⟨y,ha,x,hx,hA⟩
  refine ⟨ha,x,hx,?_⟩
  rw [oP,Ri]
  exact ⟨y,hA⟩
theorem Sat.emp:Sat w0 w (Sl.emp::R)↔Sat w0 w R:=by
 unfold Sat;rw [oP,Ko]
theorem Sat.star:Sat w0 w (Sl.star A B::R)↔Sat w0 w (A::B::R):=by
 unfold Sat;rw [oP,oP,oP,GZ]
variable {b:Nat}{o:Obj}
theorem Sat.at (h:Sat w0 w (pt b o::R)):w.heap[b]?=some o:=by
 obtain ⟨_,x,hx,a,c,d,rfl,pa,_⟩:=h
 refine hx b o ?_
 rw [show a=_ from pa]
 simp [Hp.join]
theorem Sat.lt (h:Sat w0 w (pt b o::R)):b<w.heap.size:=by
 have:=h.at
 rw [akq]at this
 exact this.1
theorem Sat.ne {b':Nat}{o':Obj} (h:Sat w0 w (pt b o::pt b' o'::R)):b≠b':=by
 obtain ⟨_,x,hx,a,c,d,rfl,pa,a',c',d',rfl,pa',_⟩:=h
 intro e
 subst e
 rcases d b with h1|h1
 ·rw [show a=_ from pa]at h1;simp at h1
 ·rw [show a'=_ from pa']at h1;simp [Hp.join]at h1
theorem Sat.turn {w':World}{o':Obj} (h:Sat w0 w (pt b o::R)) (ho:w'.os=w.os) (ht:w'.tape=w.tape) (hu:w'.output=w.output)
  (hz:w.heap.size≤w'.heap.size) (hb:w'.heap[b]?=some o') (hr:∀ i,i≠b→i<w.heap.size→w'.heap[i]?=w.heap[i]?):Sat w0 w' (pt b o'::R):=by
 obtain ⟨ha,x,hx,a,c,d,rfl,pa,pr⟩:=h
 rw [show a=_ from pa]at hx d
 refine ⟨⟨ho.trans ha.os,ht.trans ha.tape,hu.trans ha.output,adr ha.size hz⟩,Hp.join (fun i=>if i=b then some o' else none) c,?_,_,c,?_,rfl,rfl,pr⟩
 ·intro i y hy
  by_cases hi:i=b
  ·subst hi
   simp [Hp.join]at hy
   subst hy
   exact hb
  ·simp [Hp.join,hi]at hy
   have:=hx i y (by simp [Hp.join,hi,hy])
   rw [hr i hi,this]
   rw [akq]at this
   exact this.1
 ·intro i
  have:=d i
  by_cases hi:i=b <;> simp_all
theorem Sat.fresh {w':World} (h:Sat w0 w R) (ho:w'.os=w.os) (ht:w'.tape=w.tape) (hu:w'.output=w.output)
  (hz:w.heap.size≤w'.heap.size) (hbn:w.heap.size≤b) (hb:w'.heap[b]?=some o) (hr:∀ i,i<w.heap.size→w'.heap[i]?=w.heap[i]?):Sat w0 w' (pt b o::R):=by
 obtain ⟨ha,x,hx,pr⟩:=h
 have hn:x b=none:=by
  cases hh:x b with
  |none=>rfl
  |some y=>
   have:=hx _ _ hh
   rw [akq]at this
   have:=this.1
   omega
 refine ⟨⟨ho.trans ha.os,ht.trans ha.tape,hu.trans ha.output,adr ha.size hz⟩,Hp.join (fun i=>if i=b then some o else none) x,?_,_,x,?_,rfl,rfl,pr⟩
 ·intro i y hy
  by_cases hi:i=b
  ·subst hi
   simp [Hp.join]at hy
   subst hy
   exact hb
  ·simp [Hp.join,hi]at hy
   have:=hx i y hy
   rw [hr i,this]
   rw [akq]at this
   exact this.1
 ·intro i
  by_cases hi:i=b <;> simp_all
theorem Sat.alloc (h:Sat w0 w R) (o:Obj):Sat w0 (w.alloc o) (pt w.heap.size o::R):=
 h.fresh rfl rfl rfl (by simp) (acy _) (heap_alloc_new w o) (fun i hi=>RowKit.Below.heap_alloc w o i hi)
theorem Sat.drew (h:Sat w0 w R):Sat w0 w.drew R:=⟨⟨h.1.os,h.1.tape,h.1.output,h.1.size⟩,h.2⟩
theorem Sat.cellAt {cs:Array Value}{T:TypeId} (h:Sat w0 w (pt b (.cells cs T (0,0))::R)) (i:Nat) (v:Value) (hv:cs[i]?=some v):w.cell? ⟨b,i,none⟩=some v:=by
 have:=h.at
 simp [World.cell?,this,hv]
theorem Sat.nR {cs:Array Value}{T:TypeId} (h:Sat w0 w (pt b (.cells cs T (0,0))::R)) (i:Nat):w.frozen? ⟨b,i,none⟩=false:=by
 have:=h.at
 simp [World.frozen?,this]
theorem Sat.set {cs:Array Value}{T:TypeId} (h:Sat w0 w (pt b (.cells cs T (0,0))::R)) (i:Nat) (v:Value):Sat w0 (w.setCell ⟨b,i,none⟩ v) (pt b (.cells (cs.setIfInBounds i v) T (0,0))::R):=by
 have hb:=h.at
 have hlt:=h.lt
 refine h.turn rfl rfl rfl (by simp) ?_ ?_
 ·simp only [World.setCell,ako,akL,hb]
  simp
 ·intro j hj _
  simp only [World.setCell,ako]
  rw [abw (Ne.symm hj)]
theorem ahm (L:List aG) (k:Nat) (idx:List Nat) (hk:(L.take k).length=k) (hi:(idx.all (fun i=>decide (i<k)) && decide idx.Nodup)=true) :
  ∃ rest,L.Perm ((idx.map (fun i=>L.getD i Sl.emp)++L.drop k)++rest):=by
 simp only [ajc,ajE,adN]at hi
 obtain ⟨h1,h2⟩:=hi
 have hrk:L.take k=(List.range k).map (fun i=>L.getD i Sl.emp):=by
  apply List.ext_getElem?
  intro i
  rw [ajl,aix]
  by_cases hik:i<k
  ·have:i<L.length:=by
    have:=akX k L
    rw [hk]at this;omega
   simp [hik,this]
  ·simp [hik]
 have hp:(List.range k).Perm (idx++(List.range k).filter fun i => !idx.contains i):=by
  rw [List.perm_ext_iff_of_nodup List.nodup_range]
  ·intro a
   simp only [List.mem_range,ajk,aji,Bool.not_eq_true',List.contains_eq_mem,ajJ]
   constructor
   ·intro h;by_cases ha:a∈idx
    ·exact .inl ha
    ·exact .inr ⟨h,ha⟩
   ·rintro (h|h)
    ·exact h1 a h
    ·exact h.1
  ·rw [List.nodup_append]
   refine ⟨h2,List.nodup_range.sublist ak4,?_⟩
   intro a ha b hb e
   subst e
   have:=(aji.1 hb).2
   simp [ha]at this
 refine ⟨((List.range k).filter fun i => !idx.contains i).map (fun i=>L.getD i Sl.emp),?_⟩
 have h3:L=L.take k++L.drop k:=(ajs k L).symm
 rw [hrk]at h3
 have h4:=(hp.map (fun i=>L.getD i Sl.emp)).append_right (L.drop k)
 rw [aey]at h4
 have h5:L.Perm _:=(List.Perm.of_eq h3).trans h4
 refine h5.trans ?_
 rw [adR,adR]
 exact List.Perm.append_left _ akB
theorem Sat.QM (h:Sat w0 w (L++M)):Sat w0 w L:=by
 obtain ⟨ha,x,hx,hs⟩:=h
 rw [pK]at hs
 obtain ⟨a,b,d,rfl,pa,pb⟩:=hs
 refine ⟨ha,a,fun i o hi=>hx i o ?_,pa⟩
 simp [Hp.join,hi]
theorem Sat.sel (h:Sat w0 w L) (k:Nat) (idx:List Nat) (hk:(L.take k).length=k) (hi:(idx.all (fun i=>decide (i<k)) && decide idx.Nodup)=true) :
  Sat w0 w (idx.map (fun i=>L.getD i Sl.emp)++L.drop k):=by
 obtain ⟨rest,hp⟩:=ahm L k idx hk hi
 exact (h.perm hp).QM
def Ro (w0:World) (L:List aG) (p:World→Prop):Prop:=∀ w,Sat w0 w L→p w
theorem Ro.cons {p:World→Prop} (h:Ro w0 L p):Ro w0 (A::L) p:=fun w hw=>h w hw.drop
def old (w0:World):aG:=fun h=>h=fun i=>w0.heap[i]?
theorem Sat.old (h:Sat w0 w (old w0::R)){i:Nat} (hi:i<w0.heap.size):w.heap[i]?=w0.heap[i]?:=by
 obtain ⟨_,x,hx,a,c,d,rfl,pa,_⟩:=h
 have:w0.heap[i]?=some (w0.heap[i]):=by simp [hi]
 rw [this]
 refine hx i _ ?_
 rw [show a=_ from pa]
 simp [Hp.join,hi]
theorem Sat.start (w0:World):Sat w0 w0 [Sl.old w0]:=by
 refine ⟨Anch.refl _,fun i=>w0.heap[i]?,fun i o h=>h,?_⟩
 rw [Ak]
 exact rfl
theorem Sat.below (h:Sat w0 w (Sl.old w0::R)):RowKit.Below w0.heap.size w0 w:=
 ⟨h.1.os,h.1.tape,h.1.output,h.1.size,fun k hk=>h.old hk⟩
end
end Go.Sl
namespace Go.Sl
open Go Go.MapKept
def aO (Q:Value→World→Prop) (e:Ending) (w:World):Prop:=∃ v,e = .returned v∧Q v w
def bg (sz:Nat) (v:Value) (xs:List Value) (w:World):Prop:=
 ∃ a n cap,v = .slice a n cap∧xs.length=n * sz∧∀ i x,xs[i]?=some x→∃ b,a=some b∧w.cell? (b.add i)=some x
def aC (T sz:Nat) (v:Value) (xs:List Value):aG:=fun h=>
 (v = .slice none 0 0∧xs=[]∧emp h) ∨
 ∃ b n cap cs,v = .slice (some ⟨b,0,none⟩) n cap∧xs.length=n * sz∧n≤cap∧cap * sz≤cs.size∧cap≤maxLen∧cs.toList.take (n * sz)=xs∧pt b (.cells cs T (0,0)) h
section
variable {w0 w:World}{R L:List aG}{T sz:Nat}{v:Value}{xs:List Value}
theorem fD (T sz:Nat):aC T sz (.slice none 0 0) []=emp:=by
 apply aG.ext;intro h
 constructor
 ·rintro (⟨_,_,h⟩|⟨b,n,cap,cs,he,_⟩)
  ·exact h
  ·cases he
 ·intro h;exact .inl ⟨rfl,rfl,h⟩
theorem Sat.fD:Sat w0 w (aC T sz (.slice none 0 0) []::R)↔Sat w0 w R:=by
 rw [Sl.fD];exact Sat.emp
theorem Sat.kC {b n cap:Nat}{cs:Array Value} (h:Sat w0 w (pt b (.cells cs T (0,0))::R)) (hl:xs.length=n * sz) (hn:n≤cap) (hc:cap * sz≤cs.size) (hm:cap≤maxLen)
  (ht:cs.toList.take (n * sz)=xs):Sat w0 w (aC T sz (.slice (some ⟨b,0,none⟩) n cap) xs::R):=
 h.head fun _ hx=> .inr ⟨b,n,cap,cs,rfl,hl,hn,hc,hm,ht,hx⟩
theorem Sat.jQ (h:Sat w0 w (aC T sz v xs::R)):(v = .slice none 0 0∧xs=[]∧Sat w0 w R) ∨
  ∃ b n cap cs,v = .slice (some ⟨b,0,none⟩) n cap∧xs.length=n * sz∧n≤cap∧cap * sz≤cs.size∧cap≤maxLen∧cs.toList.take (n * sz)=xs∧Sat w0 w (pt b (.cells cs T (0,0))::R):=by
 obtain ⟨ha,x,hx,p,q,d,rfl,hp,hq⟩:=h
 rcases hp with ⟨h1,h2,h3⟩|⟨b,n,cap,cs,h1,h2,h3,h4,h5,h6,h7⟩
 ·refine .inl ⟨h1,h2,ha,q,fun i o hi=>hx i o ?_,hq⟩
  rw [show p=_ from h3];simp [Hp.join,hi]
 ·exact .inr ⟨b,n,cap,cs,h1,h2,h3,h4,h5,h6,ha,_,hx,p,q,d,rfl,h7,hq⟩
theorem o9 (b j:Nat):(⟨b,0,none⟩:Addr).add j=⟨b,j,none⟩:=by unfold Addr.add;split <;> simp_all
theorem jS {cs:Array Value}{k:Nat} (ht:cs.toList.take k=xs){i:Nat}{x:Value} (hi:xs[i]?=some x):cs[i]?=some x:=by
 rw [← ht,ajl]at hi
 split at hi
 ·simpa using hi
 ·cases hi
theorem Sat.rd (h:Sat w0 w (aC T sz v xs::R)):bg sz v xs w:=by
 rcases h.jQ with ⟨rfl,rfl,_⟩|⟨b,n,cap,cs,rfl,hl,hn,hc,hm,ht,hp⟩
 ·exact ⟨none,0,0,rfl,by simp,by simp⟩
 ·refine ⟨some ⟨b,0,none⟩,n,cap,rfl,hl,fun i x hi=>⟨_,rfl,?_⟩⟩
  rw [o9]
  exact hp.cellAt i x (jS ht hi)
theorem yI (sz cap:Nat) (w:World):bg sz (.slice none 0 cap) [] w:=⟨none,0,cap,rfl,by simp,by simp⟩
end
section
variable {P:Program}{w0 w:World}{R:List aG}{sz:Nat}{v x:Value}{xs ys:List Value}
theorem Xa (t ty e:TypeId) (i:TypeInfo) (z:Value) (ht:P.underlying t=some (.slice e)) (hi:P.info? e=some i) (hz:i.zero=some z)
  (hs:i.size=sz) (hzs:z.cells.size=sz) (hsz:0<sz) (h1:∀ u∈ys,u.oneCell'=true)
  (h:Sat w0 w (aC e sz v xs::R)) (hx:bg sz x ys w) (h63:xs.length+ys.length≤maxLen) (hby:(xs.length+ys.length) * i.bytes≤140737488355328) :
  ∃ v' w',(Builtin.append_ #[t,t] ty #[v,x]).run P w = .ok v' w'∧Sat w0 w' (aC e sz v' (xs++ys)::R)∧(xs++ys≠[]→∃ b n c,v' = .slice (some ⟨b,0,none⟩) n c):=by
 subst hs
 obtain ⟨xa,m,c,rfl,hyl,vT⟩:=hx
 have hle:∀ {p q:Nat},p=q * i.size→q≤p:=fun {p q} e=>by rw [e];exact Nat.le_mul_of_pos_right _ hsz
 have hm:=hle hyl
 by_cases hm0:m=0
 ·subst hm0
  obtain rfl:ys=[]:=aj2 (by simpa using hyl)
  rcases h.jQ with ⟨rfl,rfl,h'⟩|⟨b,n,cap,cs,rfl,hl,hn,hc,hcm,htk,hp⟩
  ·refine ⟨.slice none 0 0,w,?_,by simpa using h,by simp⟩
   cases xa <;> simp [Builtin.append_,ajO ht,sizeOf,typeInfo,hi,Builtin.lenOf,Builtin.firstCells,loadCells,loadCellsFrom]
  ·refine ⟨.slice (some ⟨b,0,none⟩) n cap,w,?_,by simpa using h,fun _=>⟨_,_,_,rfl⟩⟩
   cases xa <;> simp [Builtin.append_,ajO ht,sizeOf,typeInfo,hi,Builtin.lenOf,Builtin.firstCells,loadCells,loadCellsFrom,hn,storeCells]
 ·have hy0:ys≠[]:=by
   intro e;subst e
   have:m * i.size=0:=by simpa using hyl.symm
   rcases Nat.mul_eq_zero.1 this with h|h <;> omega
  obtain ⟨ad,rfl⟩:∃ ad,xa=some ad:=by
   obtain ⟨y,hy⟩:∃ y,ys[0]?=some y:=by
    cases ys with
    |nil=>exact absurd rfl hy0
    |cons y _=>exact ⟨y,rfl⟩
   obtain ⟨b,hb,_⟩:=vT 0 y hy
   exact ⟨b,hb⟩
  have hnews:∀ j u,ys[j]?=some u→w.cell? (ad.add j)=some u:=fun j u hj=>by
   obtain ⟨b,hb,hx⟩:=vT j u hj
   cases hb;exact hx
  have h63':maxLen=9223372036854775807:=rfl
  have grown:∀ (n old:Nat) (_:n * i.size=xs.length) (_:old<n+m) (_:Sat w0 w R),Sat w0 (w.drew.alloc (.cells (xs.toArray++ys.toArray++Builtin.zeroCells z.cells (grownCap w (n+m) old e - (n+m))) e))
    (aC e i.size (.slice (some ⟨w.heap.size,0,none⟩) (n+m) (grownCap w (n+m) old e)) (xs++ys)::R):=by
   intro n old hn ho hR
   have hge:=grownCap_ge w (n+m) old e
   have hnx:=hle hn.symm
   have hcm:=grownCap_le_maxLen w (n+m) old e oQ
   have:=(hR.drew).alloc (.cells (xs.toArray++ys.toArray++Builtin.zeroCells z.cells (grownCap w (n+m) old e - (n+m))) e)
   refine Sat.kC this ?_ hge ?_ hcm ?_
   ·rw [aal,← hn,hyl,akt]
   ·simp only [Array.size_append,aaI,size_zeroCells,hzs]
    rw [← hn,hyl,← akt,← akt]
    exact ajT _ oQ
   ·simp only [alj,adR]
    rw [← adR]
    have e1:(n+m) * i.size=(xs++ys).length:=by rw [aal,← hn,hyl,akt]
    rw [e1]
    exact List.take_left
  rcases h.jQ with ⟨rfl,rfl,h'⟩|⟨b,n,cap,cs,rfl,hl,hn,hc,hcm,htk,hp⟩
  ·have zF:m * i.bytes≤140737488355328:=by
    refine adr (ajT _ ?_) hby
    simp;omega
   have hr:=run_append_nil (P:=P) w t ty e i z ht hi hz ad m c ys hyl hnews oQ (by simp at h63;omega) oQ
   have hg:=grown 0 0 (by simp) oQ h'
   simp only [aen,ajd,Array.empty_append]at hg ⊢
   exact ⟨_,_,hr,hg,fun _=>⟨_,_,_,rfl⟩⟩
  ·by_cases hroom:n+m≤cap
   ·have hfit:n * i.size+ys.length≤cs.size:=by
     rw [hyl,← akt];exact adr (ajT _ hroom) hc
    have hr:=run_append_room (P:=P) w t ty e i ht hi b n cap cs hp.at ad m c ys hyl hnews h1 hroom hfit
    refine ⟨_,_,hr,?_,fun _=>⟨_,_,_,rfl⟩⟩
    have adg:=hp.turn (w':=w.setRow b (cs.toList.take (n * i.size)++ys++cs.toList.drop (n * i.size+ys.length)).toArray) rfl rfl rfl (by simp) (setRow_heap w b cs _ e _ hp.at) (fun j hj _=>setRow_other w b j _ hj)
    refine Sat.kC adg ?_ hroom ?_ hcm ?_
    ·rw [aal,hl,hyl,akt]
    ·simp only [aaI,aal,acJ,adU,adu]
     omega
    ·rw [htk]
     have e1:(n+m) * i.size=(xs++ys).length:=by rw [aal,hl,hyl,akt]
     rw [e1]
     exact List.take_left
   ·have holds:∀ j u,xs[j]?=some u→w.cell? ((⟨b,0,none⟩:Addr).add j)=some u:=fun j u hj=>by
     rw [o9];exact hp.cellAt j u (jS htk hj)
    have hnx:=hle hl
    have zF:(n+m) * i.bytes≤140737488355328:=adr (ajT _ oQ) hby
    have hr:=run_append_grow (P:=P) w t ty e i z ht hi hz ⟨b,0,none⟩ n cap xs hl holds ad m c ys hyl hnews oQ oQ (growslice_fits oQ zF)
    exact ⟨_,_,hr,grown n cap hl.symm oQ hp.drop,fun _=>⟨_,_,_,rfl⟩⟩
theorem OB {o:Oper}{a:Act}{K:Act→World→Prop}{Q:Exit→Act→World→Prop} (s y:Operand) (t:TypeId)
  (ho:o.op = .call { callee:= .builtin .append,args:=#[s,y],argTypes:=#[t,t] })
  (e:TypeId) (i:TypeInfo) (z:Value) (ht:P.underlying t=some (.slice e)) (hi:P.info? e=some i) (hz:i.zero=some z)
  (hs:i.size=sz) (hzs:z.cells.size=sz) (hsz:0<sz) (hv:a.eval s=v) (hxv:a.eval y=x) (h1:∀ u∈ys,u.oneCell'=true)
  (h:Sat w0 w (aC e sz v xs::R)) (hx:bg sz x ys w) (h63:xs.length+ys.length≤maxLen) (hby:(xs.length+ys.length) * i.bytes≤140737488355328)
  (hK:∀ v' w',Sat w0 w' (aC e sz v' (xs++ys)::R)→(xs++ys≠[]→∃ b n c,v' = .slice (some ⟨b,0,none⟩) n c)→K (a.put o.dst v') w'):o.wp P a w K Q:=by
 obtain ⟨v',w',hr,h2,h3⟩:=Xa (P:=P) t o.type e i z ht hi hz hs hzs hsz h1 h hx h63 hby
 unfold Oper.wp execOp
 simp only [ho,resolve,invoke,builtin,adO,aeC,ac2,ajR,ag8,ajP,hv,hxv,hr]
 exact hK v' w' h2 h3
theorem wW {ops:Array Oper}{rest:List Oper}{o:Oper}{a:Act}{Q:Exit→Act→World→Prop} (hgd:o.guard=none) (s y:Operand) (t:TypeId)
  (ho:o.op = .call { callee:= .builtin .append,args:=#[s,y],argTypes:=#[t,t] })
  (e:TypeId) (i:TypeInfo) (z:Value) (ht:P.underlying t=some (.slice e)) (hi:P.info? e=some i) (hz:i.zero=some z)
  (hs:i.size=sz) (hzs:z.cells.size=sz) (hsz:0<sz) (hv:a.eval s=v) (hxv:a.eval y=x) (h1:∀ u∈ys,u.oneCell'=true)
  (h:Sat w0 w (aC e sz v xs::R)) (hx:bg sz x ys w) (h63:xs.length+ys.length≤maxLen) (hby:(xs.length+ys.length) * i.bytes≤140737488355328)
  (hK:∀ v' w',Sat w0 w' (aC e sz v' (xs++ys)::R)→(xs++ys≠[]→∃ b n c,v' = .slice (some ⟨b,0,none⟩) n c)→wpList P ops Q rest (a.put o.dst v') w'):wpList P ops Q (o::rest) a w:=
 ajx hgd fun _ hK'=>OB s y t ho e i z ht hi hz hs hzs hsz hv hxv h1 h hx h63 hby fun v' w' h2 h3=>hK' _ _ (hK v' w' h2 h3)
end
theorem step_append {P:Program}{w0 w:World}{R:List aG}{sz:Nat}{v x:Value}{xs ys:List Value}{ops:Array Oper}{o:Oper}{a:Act}{K:Act→World→Prop}{Q:Exit→Act→World→Prop}{E:Prop} (hgd:o.guard=none) (s y:Operand) (t:TypeId)
  (ho:o.op = .call { callee:= .builtin .append,args:=#[s,y],argTypes:=#[t,t] })
  (e:TypeId) (i:TypeInfo) (z:Value) (ht:P.underlying t=some (.slice e)) (hi:P.info? e=some i) (hz:i.zero=some z)
  (hs:i.size=sz) (hzs:z.cells.size=sz) (hsz:0<sz) (hv:a.eval s=v) (hxv:a.eval y=x) (h1:∀ u∈ys,u.oneCell'=true)
  (h:Sat w0 w (aC e sz v xs::R)) (hx:bg sz x ys w) (h63:xs.length+ys.length≤maxLen) (hby:(xs.length+ys.length) * i.bytes≤140737488355328)
  (hK:∀ v' w',Sat w0 w' (aC e sz v' (xs++ys)::R)→(xs++ys≠[]→∃ b n c,v' = .slice (some ⟨b,0,none⟩) n c)→K (a.put o.dst v') w') :
  if Region.wanted o (yielded ops a.tmps)=true then Oper.wp P o a w K Q else E:=by
 have hw:Region.wanted o (yielded ops a.tmps)=true:=by simp [Region.wanted,hgd]
 rw [ac3 hw]
 exact OB s y t ho e i z ht hi hz hs hzs hsz hv hxv h1 h hx h63 hby hK
theorem yH (w:World) (cs:Array Value) (T sz n c:Nat) (hn:cs.size=n * sz):bg sz (.slice (some ⟨w.heap.size,0,none⟩) n c) cs.toList (w.alloc (.cells cs T)):=
 ⟨_,n,c,rfl,by simpa using hn,fun i x hi=>⟨_,rfl,by rw [o9,World.cell?_alloc_new];simpa using hi⟩⟩
def omap (d:TypeDesc) (b:Nat) (l:List (Value×Value)):aG:=fun h=>
 ∃ es clock,(es.toList.map fun e=>(e.key,e.val)).Perm l∧Stamped es clock∧(∀ x∈es.toList,IsKey d x.key)∧pt b (.map es clock) h
section
variable {P:Program}{w0 w:World}{R:List aG}{d:TypeDesc}{b:Nat}{l l':List (Value×Value)}
theorem F8 (hp:l.Perm l'):omap d b l=omap d b l':=by
 apply aG.ext;intro h
 exact ⟨fun ⟨es,c,h1,h2⟩=>⟨es,c,h1.trans hp,h2⟩,fun ⟨es,c,h1,h2⟩=>⟨es,c,h1.trans hp.symm,h2⟩⟩
theorem Sat.F8 (h:Sat w0 w (omap d b l::R)) (hp:l.Perm l'):Sat w0 w (omap d b l'::R):=Sl.F8 hp ▸ h
theorem Sat.zT (h:Sat w0 w (omap d b l::R)):∃ es clock,(es.toList.map fun e=>(e.key,e.val)).Perm l∧Stamped es clock∧(∀ x∈es.toList,IsKey d x.key)∧Sat w0 w (pt b (.map es clock)::R):=by
 obtain ⟨ha,x,hx,p,q,dd,rfl,⟨es,c,h1,h2,h3,h4⟩,hq⟩:=h
 exact ⟨es,c,h1,h2,h3,ha,_,hx,p,q,dd,rfl,h4,hq⟩
theorem Sat.zU {es:Array MapEntry}{clock:Nat} (h:Sat w0 w (pt b (.map es clock)::R)) (h1:(es.toList.map fun e=>(e.key,e.val)).Perm l) (h2:Stamped es clock) (h3:∀ x∈es.toList,IsKey d x.key):Sat w0 w (omap d b l::R):=
 h.head fun _ hx=>⟨es,clock,h1,h2,h3,hx⟩
theorem Sat.F6 (h:Sat w0 w (omap d b l::R)):(l.map (·.1)).Nodup:=by
 obtain ⟨es,c,h1,h2,h3,h4⟩:=h.zT
 have:=(h1.map (·.1)).nodup_iff.1 (by rw [aj9];exact h2.2.2)
 exact this
theorem Sat.F7 (h:Sat w0 w R) (d:TypeDesc):Sat w0 (w.alloc (.map #[] 0)) (omap d w.heap.size []::R):=
 (h.alloc _).zU (by simp) (stamped_empty 0) (by simp)
variable {mty kt et:TypeId}{key:Value}
theorem Xh (hm:P.underlying mty=some (.map kt et)) (hd:P.underlying kt=some d){z:Value} (hz:(zeroValue et).run P w = .ok z w) (hk:IsKey d key) (h:Sat w0 w (omap d b l::R)) :
  (∃ v,(key,v)∈l∧(Instr.lookup mty (.map (some b)) key false).run P w = .ok v w∧(Instr.lookup mty (.map (some b)) key true).run P w = .ok (.tuple #[v,.bool true]) w) ∨
  ((∀ p∈l,p.1≠key)∧(Instr.lookup mty (.map (some b)) key false).run P w = .ok z w∧(Instr.lookup mty (.map (some b)) key true).run P w = .ok (.tuple #[z,.bool false]) w):=by
 obtain ⟨es,c,h1,h2,h3,h4⟩:=h.zT
 have hb:=h4.at
 rcases findNow_spec hk es.toList 0 h3 with ⟨f1,f2⟩|⟨j,e,f1,f2,f3⟩
 ·refine .inr ⟨?_,?_,?_⟩
  ·intro p hp e
   have:=(h1.mem_iff.2 hp)
   obtain ⟨x,hx,hxe⟩:=acK.1 this
   refine f2 x hx ?_
   rw [← e,← hxe]
  ·simp [Instr.lookup,ajO hm,ajV hb,akF hd hk,akR hd f1,Result.andThen,hz]
  ·simp [Instr.lookup,ajO hm,ajV hb,akF hd hk,akR hd f1,Result.andThen,hz]
 ·refine .inl ⟨e.val,?_,?_,?_⟩
  ·refine h1.mem_iff.1 (acK.2 ⟨e,abA f2,?_⟩)
   rw [f3]
  ·simp [Instr.lookup,ajO hm,ajV hb,akF hd hk,akR hd f1,Result.andThen]
  ·simp [Instr.lookup,ajO hm,ajV hb,akF hd hk,akR hd f1,Result.andThen]
theorem run_store (hm:P.underlying mty=some (.map kt et)) (hd:P.underlying kt=some d) (hk:IsKey d key) (v:Value) (h:Sat w0 w (omap d b l::R)) :
  ∃ w',(Instr.mapUpdate mty (.map (some b)) key v).run P w = .ok () w'∧∀ l0,(l.Perm l0∧(∀ p∈l0,p.1≠key)∨∃ v0,l.Perm ((key,v0)::l0))→Sat w0 w' (omap d b ((key,v)::l0)::R):=by
 obtain ⟨es,c,h1,h2,h3,h4⟩:=h.zT
 have hb:=h4.at
 have hnd:=h.F6
 have turn:∀ o':Obj,Sat w0 { w with heap:=w.heap.setIfInBounds b o' } (pt b o'::R):=fun o'=>
  h4.turn rfl rfl rfl (by simp) (heap_set hb).1 (fun i hi _=>(heap_set hb).2 i hi)
 rcases findNow_spec hk es.toList 0 h3 with ⟨f1,f2⟩|⟨j,e,f1,f2,f3⟩
 ·refine ⟨_,by simp [Instr.mapUpdate,ajO hm,ajV hb,akF hd hk,akR hd f1,MapKept.run_setObj_map _ hb,Result.andThen];rfl,?_⟩
  intro l0 hl0
  refine (turn _).zU ?_ (stamped_push h2 f2) ?_
  ·have hp:l.Perm l0:=by
    rcases hl0 with ⟨hp,_⟩|⟨v0,hp⟩
    ·exact hp
    ·exfalso
     have:(key,v0)∈es.toList.map fun e=>(e.key,e.val):=h1.mem_iff.2 (hp.mem_iff.2 (.head _))
     obtain ⟨x,hx,hxe⟩:=acK.1 this
     exact f2 x hx (aje Prod.fst hxe)
   simp only [Array.toList_push,aey,ag8,ajP]
   exact (akB).trans (by simpa using (h1.trans hp).cons (key,v))
  ·intro x hx
   simp only [Array.toList_push,ajk,aiR]at hx
   rcases hx with hx|rfl
   ·exact h3 x hx
   ·exact hk
 ·have hj:es[j]?=some e:=by simpa using f2
  refine ⟨_,by simp [Instr.mapUpdate,ajO hm,ajV hb,akF hd hk,akR hd f1,hj,f3,MapKept.run_keyThatStays hk,MapKept.run_setObj_map _ hb,Result.andThen];rfl,?_⟩
  intro l0 hl0
  have hkey:∀ e',es[j]?=some e'→({ e' with key:=key,val:=v }:MapEntry).key=e'.key:=fun e' he'=>by rw [hj]at he';cases he';exact f3.symm
  refine (turn _).zU ?_ (stamped_modify h2 _ _ (fun _ _=>rfl) (fun e' _ he'=>hkey e' he')) (isKey_modify h3 _ _ hkey)
  have hmem:(key,e.val)∈l:=h1.mem_iff.1 (acK.2 ⟨e,abA f2,by rw [f3]⟩)
  have hlt:j<es.toList.length:=(abl.1 f2).1
  have hsplit:es.toList=es.toList.take j++e::es.toList.drop (j+1):=by
   have he:es.toList[j]=e:=(abl.1 f2).2
   rw [← he,List.getElem_cons_drop,ajs]
  have hp:l.Perm ((key,e.val)::l0):=by
   rcases hl0 with ⟨hp,hne⟩|⟨v0,hp⟩
   ·exact absurd rfl (hne _ (hp.mem_iff.1 hmem))
   ·have:(key,e.val)∈(key,v0)::l0:=hp.mem_iff.1 hmem
    rcases aer.1 this with hh|hh
    ·rw [hh];exact hp
    ·have hn:=(hp.map (·.1)).nodup_iff.1 hnd
     simp only [ag8,akx]at hn
     exact absurd (acK.2 ⟨_,hh,rfl⟩) hn.1
  have hmod:(es.modify j fun e=>{ e with key:=key,val:=v }).toList=es.toList.take j++{ e with key:=key,val:=v }::es.toList.drop (j+1):=by
   rw [Array.toList_modify,List.modify_eq_take_cons_drop hlt]
   have he:es.toList[j]=e:=(abl.1 f2).2
   rw [he]
  rw [hmod]
  rw [hsplit]at h1
  simp only [aey,ag8]at h1 ⊢
  rw [f3]at h1
  have h5:((key,e.val)::((es.toList.take j).map (fun e=>(e.key,e.val))++(es.toList.drop (j+1)).map (fun e=>(e.key,e.val)))).Perm ((key,e.val)::l0):=(akM.symm.trans h1).trans hp
  exact akM.trans ((List.Perm.cons_inv h5).cons _)
theorem agH {ty:TypeId} (hm:P.underlying mty=some (.map kt et)) (hd:P.underlying kt=some d) (hk:IsKey d key) (h:Sat w0 w (omap d b l::R)) :
  ∃ w',(Builtin.delete_ #[mty,kt] ty #[.map (some b),key]).run P w = .ok (.tuple #[]) w'∧∀ l0,(l.Perm l0∧(∀ p∈l0,p.1≠key)∨∃ v0,l.Perm ((key,v0)::l0))→Sat w0 w' (omap d b l0::R):=by
 obtain ⟨es,c,h1,h2,h3,h4⟩:=h.zT
 have hb:=h4.at
 have hnd:=h.F6
 have turn:∀ o':Obj,Sat w0 { w with heap:=w.heap.setIfInBounds b o' } (pt b o'::R):=fun o'=>
  h4.turn rfl rfl rfl (by simp) (heap_set hb).1 (fun i hi _=>(heap_set hb).2 i hi)
 rcases findNow_spec hk es.toList 0 h3 with ⟨f1,f2⟩|⟨j,e,f1,f2,f3⟩
 ·refine ⟨_,by simp [Builtin.delete_,ajO hm,ajV hb,akF hd hk,akR hd f1,MapKept.run_setObj_map _ hb,Result.andThen];rfl,?_⟩
  intro l0 hl0
  refine (turn _).zU ?_ h2 h3
  rcases hl0 with ⟨hp,_⟩|⟨v0,hp⟩
  ·exact h1.trans hp
  ·exfalso
   have:(key,v0)∈es.toList.map fun e=>(e.key,e.val):=h1.mem_iff.2 (hp.mem_iff.2 (.head _))
   obtain ⟨x,hx,hxe⟩:=acK.1 this
   exact f2 x hx (aje Prod.fst hxe)
 ·refine ⟨_,by simp [Builtin.delete_,ajO hm,ajV hb,akF hd hk,akR hd f1,MapKept.run_setObj_map _ hb,Result.andThen];rfl,?_⟩
  intro l0 hl0
  have hlt:j<es.toList.length:=(abl.1 f2).1
  have TA:(es.eraseIdxIfInBounds j).toList=es.toList.take j++es.toList.drop (j+1):=by
   unfold Array.eraseIdxIfInBounds
   rw [dif_pos (by simpa using hlt),Array.toList_eraseIdx,List.eraseIdx_eq_take_drop_succ]
  refine (turn _).zU ?_ (stamped_erase h2 _) ?_
  ·have hmem:(key,e.val)∈l:=h1.mem_iff.1 (acK.2 ⟨e,abA f2,by rw [f3]⟩)
   have hp:l.Perm ((key,e.val)::l0):=by
    rcases hl0 with ⟨hp,hne⟩|⟨v0,hp⟩
    ·exact absurd rfl (hne _ (hp.mem_iff.1 hmem))
    ·have:(key,e.val)∈(key,v0)::l0:=hp.mem_iff.1 hmem
     rcases aer.1 this with hh|hh
     ·rw [hh];exact hp
     ·have hn:=(hp.map (·.1)).nodup_iff.1 hnd
      simp only [ag8,akx]at hn
      exact absurd (acK.2 ⟨_,hh,rfl⟩) hn.1
   have hsplit:es.toList=es.toList.take j++e::es.toList.drop (j+1):=by
    have he:es.toList[j]=e:=(abl.1 f2).2
    rw [← he,List.getElem_cons_drop,ajs]
   rw [TA]
   rw [hsplit]at h1
   simp only [aey,ag8]at h1 ⊢
   rw [f3]at h1
   exact List.Perm.cons_inv ((akM.symm.trans h1).trans hp)
  ·intro x hx
   rw [TA]at hx
   refine h3 x ?_
   rcases ajk.1 hx with hx|hx
   ·exact ajm hx
   ·exact List.mem_of_mem_drop hx
theorem agQ (hm:P.underlying mty=some (.map kt et)) (ty:TypeId) (h:Sat w0 w (omap d b l::R)):(Builtin.len_ #[mty] ty #[.map (some b)]).run P w = .ok (.int .i64 l.length) w:=by
 obtain ⟨es,c,h1,h2,h3,h4⟩:=h.zT
 have hb:=h4.at
 have hl:=h1.length_eq
 simp at hl
 simp [Builtin.len_,ajO hm,ajV hb,Result.andThen,goInt,hl]
end
section
variable {P:Program}{w0 w:World}{R:List aG}{d:TypeDesc}{b:Nat}{l:List (Value×Value)}{key:Value}{t kt et:TypeId}
variable {ops:Array Oper}{rest:List Oper}{o:Oper}{a:Act}{Q:Exit→Act→World→Prop}
theorem Yk (hg:o.guard=none) (m x:Operand) (hop:o.op=Op.call { callee:=Callee.builtin Builtin.delete,args:=#[m,x],argTypes:=#[t,kt] })
  (hm:P.underlying t=some (.map kt et)) (hd:P.underlying kt=some d) (hmv:a.eval m = .map (some b)) (hxv:a.eval x=key) (hk:IsKey d key) (h:Sat w0 w (omap d b l::R))
  (l0:List (Value×Value)) (hl:l.Perm l0∧(∀ p∈l0,p.1≠key)∨∃ v0,l.Perm ((key,v0)::l0))
  (hK:∀ w',Sat w0 w' (omap d b l0::R)→wpList P ops Q rest (a.put o.dst (.tuple #[])) w'):wpList P ops Q (o::rest) a w:=by
 refine ajx hg fun K' hK'=>?_
 obtain ⟨w',hrun,hs⟩:=agH (P:=P) (ty:=o.type) hm hd hk h
 unfold Oper.wp
 simp [execOp,hop,resolve,invoke,builtin,hmv,hxv,hrun,Result.andThen]
 exact hK' _ _ (hK w' (hs l0 hl))
theorem OA (hg:o.guard=none) (m x y:Operand) (hop:o.op=Op.mapUpdate t m x y)
  (hm:P.underlying t=some (.map kt et)) (hd:P.underlying kt=some d) (hmv:a.eval m = .map (some b)) (hxv:a.eval x=key) {v:Value} (hyv:a.eval y=v) (hk:IsKey d key) (h:Sat w0 w (omap d b l::R))
  (l0:List (Value×Value)) (hl:l.Perm l0∧(∀ p∈l0,p.1≠key)∨∃ v0,l.Perm ((key,v0)::l0))
  (hK:∀ w',Sat w0 w' (omap d b ((key,v)::l0)::R)→wpList P ops Q rest (a.put o.dst undef) w'):wpList P ops Q (o::rest) a w:=by
 refine ajx hg fun K' hK'=>?_
 obtain ⟨w',hrun,hs⟩:=run_store (P:=P) hm hd hk v h
 unfold Oper.wp
 simp [execOp,hop,hmv,hxv,hyv,hrun,Result.andThen]
 exact hK' _ _ (hK w' (hs l0 hl))
end
end Go.Sl
namespace Go.ay
abbrev Bs:=List UInt8
structure iJ where
 cut:Bool
 n:Nat
 b:Bs
def iJ.on (c:iJ) (l:Bs):Bs:=if c.cut then l.take c.n else l++c.b
structure bC where
 fast:Bs
 now:Bs
 waits:List iJ
def bC.new:bC:=⟨[],[],[]⟩
def bC.do (f:bC) (c:iJ):bC:={ f with now:=c.on f.now,waits:=f.waits++[c] }
def bC.sync (f:bC):bC:={ f with fast:=f.now,waits:=[] }
def bC.at (f:bC) (k:Nat):Bs:=(f.waits.take k).foldl (fun b c=>c.on b) f.fast
def EJ (x:Int) (hi:Nat):Nat:=min x.toNat hi
def bC.left (f:bC) (whole Ie:Int):Bs:=
 let k:=EJ whole f.waits.length
 match f.waits[k]? with
 |some c=>if c.cut then f.at k else f.at k++c.b.take (EJ Ie c.b.length)
 |none=>f.at k
def bC.crash (f:bC) (whole Ie:Int):bC:=⟨f.left whole Ie,f.left whole Ie,[]⟩
abbrev Names:=List (ByteArray×Nat)
def lt (a b:ByteArray):Bool:=decide (a.data.toList<b.data.toList)
def bP (l:Names) (s:ByteArray):Option Nat:=(l.find? fun p=>p.1==s).map (·.2)
def fK (l:Names) (s:ByteArray):Names:=l.filter fun p=>p.1 != s
def qx:Names→ByteArray→Nat→Names
 |[],s,i=>[(s,i)]
 |p::l,s,i=>if lt s p.1 then (s,i)::p::l else p::qx l s i
def jP (l:Names) (s:ByteArray) (i:Nat):Names:=qx (fK l s) s i
structure gV where
 fr:ByteArray
 to:ByteArray
 f:Nat
def gV.on (x:gV) (l:Names):Names:=
 let l:=if x.fr=ByteArray.empty then l else fK l x.fr
 if x.to=ByteArray.empty then l else jP l x.to x.f
structure ay where
 room:Nat
 fast:Names
 now:Names
 files:List bC
 waits:List gV
 armed:Bool
 left:Nat
 off:Bool
def ay.file (m:ay) (i:Nat):bC:=m.files.getD i bC.new
def ay.used (m:ay):Nat:=(m.now.map fun p=>(m.file p.2).now.length).sum
def new (room:Nat):ay:=⟨room,[],[],[],[],false,0,false⟩
def mM (c:UInt8):Bool:=(97≤c && c≤122) || (48≤c && c≤57) || c==46 || c==45
def good (s:ByteArray):Bool:=decide (1≤s.size) && decide (s.size≤24) && s.data.toList.all mM
def ay.step (m:ay):ay×Bool:=
 if m.armed then (if m.left=0 then ({ m with off:=true },false) else ({ m with left:=m.left - 1 },true)) else (m,true)
def ay.link (m:ay) (x:gV):ay:={ m with now:=x.on m.now,waits:=m.waits++[x] }
def ay.gZ (m:ay) (i:Nat) (f:bC):ay:={ m with files:=m.files.set i f }
def ay.create (m:ay) (s:ByteArray):ay×Int:=
 if m.off then (m,12)
 else if good s=false then (m,7)
 else if (bP m.now s).isSome then (m,10)
 else if 500≤m.now.length then (m,16)
 else if m.step.2=false then (m.step.1,12)
 else ({ m.step.1 with files:=m.files++[bC.new] }.link ⟨ByteArray.empty,s,m.files.length⟩,0)
def ay.append (m:ay) (s:ByteArray) (b:Bs):ay×Int:=
 if m.off then (m,12)
 else match bP m.now s with
 |none=>(m,9)
 |some i=>
  if (m.room:Int) - m.used<b.length then (m,11)
  else if m.step.2=false then (m.step.1,12)
  else (m.step.1.gZ i ((m.file i).do ⟨false,0,b⟩),0)
def ay.truncate (m:ay) (s:ByteArray) (n:Int):ay×Int:=
 if m.off then (m,12)
 else match bP m.now s with
 |none=>(m,9)
 |some i=>
  if n<0∨((m.file i).now.length:Int)<n then (m,2)
  else if m.step.2=false then (m.step.1,12)
  else (m.step.1.gZ i ((m.file i).do ⟨true,n.toNat,[]⟩),0)
def ay.rename (m:ay) (s t:ByteArray):ay×Int:=
 if m.off then (m,12)
 else match bP m.now s with
 |none=>(m,9)
 |some i=>
  if good t=false then (m,7)
  else if m.step.2=false then (m.step.1,12)
  else (m.step.1.link ⟨s,t,i⟩,0)
def ay.remove (m:ay) (s:ByteArray):ay×Int:=
 if m.off then (m,12)
 else match bP m.now s with
 |none=>(m,9)
 |some _=>
  if m.step.2=false then (m.step.1,12)
  else (m.step.1.link ⟨s,ByteArray.empty,0⟩,0)
def ay.sync (m:ay) (s:ByteArray):ay×Int:=
 if m.off then (m,12)
 else match bP m.now s with
 |none=>(m,9)
 |some i=>
  if m.step.2=false then (m.step.1,12)
  else (m.step.1.gZ i (m.file i).sync,0)
def ay.dN (m:ay):ay×Int:=
 if m.off then (m,12)
 else if m.step.2=false then (m.step.1,12)
 else ({ m.step.1 with fast:=m.now,waits:=[] },0)
def ay.read (m:ay) (s:ByteArray) (at_ n:Int):Bs×Int:=
 if m.off then ([],12)
 else match bP m.now s with
 |none=>([],9)
 |some i=>
  let l:=(m.file i).now
  if at_<0∨n<0 then ([],2)
  else if (l.length:Int)<at_∨(l.length:Int) - at_<n then ([],3)
  else ((l.drop at_.toNat).take n.toNat,0)
def ay.all (m:ay) (s:ByteArray):Bs×Int:=
 if m.off then ([],12)
 else match bP m.now s with
 |none=>([],9)
 |some i=>((m.file i).now,0)
def ay.size (m:ay) (s:ByteArray):Int×Int:=
 if m.off then (0,12)
 else match bP m.now s with
 |none=>(0,9)
 |some i=>((m.file i).now.length,0)
def ay.list (m:ay):List ByteArray:=if m.off then [] else m.now.map (·.1)
def ay.ru (m:ay):Nat:=if m.off then 0 else m.used
def ay.Ah (m:ay) (n:Int):ay×Int:=
 if m.off then (m,12) else if n<0∨16777216<n then (m,2) else ({ m with room:=n.toNat },0)
def ay.arm (m:ay) (n:Int):ay×Int:=
 if m.off then (m,12) else if n<0 then (m,2) else ({ m with armed:=true,left:=n.toNat },0)
def num (l:List Int) (i:Nat):Int:=l.getD i 0
def ay.lC (m:ay) (k:Nat):Names:=(m.waits.take k).foldl (fun l x=>x.on l) m.fast
def Qx (l:List Int):Names→Nat→List bC→List bC
 |[],_,fs=>fs
 |p::ns,j,fs=>Qx l ns (j+2) (fs.set p.2 ((fs.getD p.2 bC.new).crash (num l j) (num l (j+1))))
def ay.crash (m:ay) (l:List Int):ay:=
 let ns:=m.lC (EJ (num l 0) m.waits.length)
 { m with fast:=ns,now:=ns,waits:=[],files:=Qx l ns 1 m.files,off:=false,armed:=false,left:=0 }
def iU (l:Bs) (i:Nat) (y:UInt8):Bs:=l.set i (l.getD i 0 ^^^ y)
def wL (f:bC) (i:Nat) (y:UInt8):Nat→Option (List iJ)
 |0=>none
 |k+1=>
  match f.waits[k]? with
  |none=>wL f i y k
  |some c=>if c.cut then wL f i y k
   else if (f.at k).length≤i then some (f.waits.set k { c with b:=iU c.b (i - (f.at k).length) y })
   else wL f i y k
def bC.lY (f:bC) (i:Nat) (y:UInt8):bC:=
 match wL f i y f.waits.length with
 |some ws=>{ f with now:=iU f.now i y,waits:=ws }
 |none=>{ f with now:=iU f.now i y,fast:=iU f.fast i y }
def ay.lY (m:ay) (s:ByteArray) (i:Int) (y:UInt8):ay×Bool:=
 match bP m.now s with
 |none=>(m,false)
 |some k=>if i<0∨((m.file k).now.length:Int)≤i then (m,false) else (m.gZ k ((m.file k).lY i.toNat y),true)
end Go.ay
namespace Go.Proofs.YtiglchkhikciiaaGreatDoor
open Go Go.Sl Go.ay Go.MapKept
def aA (l:Bs):List Value:=l.map fun b=> .int .u8 b.toNat
abbrev ptr (b:Nat):Value:= .pointer (some ⟨b,0,none⟩)
abbrev errno (n:Int):Value:= .int .i64 n
def tY (p:iJ×Value):List Value:=[.bool p.1.cut,.int .i64 p.1.n,p.2]
def bJ (v:Value) (l:Bs):aG:=aC 5 1 v (aA l)
def rH (ws:List (iJ×Value)):aG:=stars (ws.map fun p=>bJ p.2 p.1.b)
def zA (b:Nat) (fv nv wv:Value):aG:=pt b (.cells #[fv,nv,wv] 192 (0,0))
def Az (b:Nat) (f:bC) (fv nv wv:Value) (ws:List (iJ×Value)):List aG:=
 [zA b fv nv wv,bJ fv f.fast,bJ nv f.now,aC 330 3 wv (ws.flatMap tY),rH ws]
def jT (b:Nat) (f:bC):aG:=fun h=>∃ fv nv wv ws,ws.map (·.1)=f.waits∧stars (Az b f fv nv wv ws) h
def mG (bs:List Nat) (fs:List bC):aG:=stars (List.zipWith jT bs fs)
def dL (bs:List Nat) (l:Names):List (Value×Value):=l.map fun p=>(.string p.1,ptr (bs.getD p.2 0))
def lK (bs:List Nat) (x:gV):List Value:=[.string x.fr,.string x.to,if x.to=ByteArray.empty then .pointer none else ptr (bs.getD x.f 0)]
def lW (m:Nat) (M:ay) (fb nb:Nat) (wv:Value):aG:=
 pt m (.cells #[.int .i64 M.room,.map (some fb),.map (some nb),wv,.bool M.armed,.int .i64 M.left,.bool M.off] 108 (0,0))
def tH (m:Nat) (M:ay) (bs:List Nat) (fb nb:Nat) (wv:Value):List aG:=
 [lW m M fb nb wv,omap .string nb (dL bs M.now),mG bs M.files,omap .string fb (dL bs M.fast),aC 258 3 wv (M.waits.flatMap (lK bs))]
def aH (m:Nat) (M:ay):aG:=fun h=>∃ bs fb nb wv,bs.length=M.files.length∧stars (tH m M bs fb nb wv) h
section
variable {w0 w:World}{F:List aG}{m b:Nat}{M:ay}{f:bC}
theorem aH.open (h:Sat w0 w (aH m M::F)):∃ bs fb nb wv,bs.length=M.files.length∧Sat w0 w (tH m M bs fb nb wv++F):=by
 obtain ⟨ha,x,hx,p,q,d,rfl,⟨bs,fb,nb,wv,hl,hp⟩,hq⟩:=h
 refine ⟨bs,fb,nb,wv,hl,ha,_,hx,?_⟩
 rw [pK]
 exact ⟨p,q,d,rfl,hp,hq⟩
theorem aH.shut {bs:List Nat}{fb nb:Nat}{wv:Value} (hl:bs.length=M.files.length) (h:Sat w0 w (tH m M bs fb nb wv++F)):Sat w0 w (aH m M::F):=
 h.join fun _ hx=>⟨bs,fb,nb,wv,hl,hx⟩
theorem jT.open (h:Sat w0 w (jT b f::F)):∃ fv nv wv ws,ws.map (·.1)=f.waits∧Sat w0 w (Az b f fv nv wv ws++F):=by
 obtain ⟨ha,x,hx,p,q,d,rfl,⟨bs,fb,nb,wv,hl,hp⟩,hq⟩:=h
 refine ⟨bs,fb,nb,wv,hl,ha,_,hx,?_⟩
 rw [pK]
 exact ⟨p,q,d,rfl,hp,hq⟩
theorem jT.shut {fv nv wv:Value}{ws:List (iJ×Value)} (hl:ws.map (·.1)=f.waits) (h:Sat w0 w (Az b f fv nv wv ws++F)):Sat w0 w (jT b f::F):=
 h.join fun _ hx=>⟨fv,nv,wv,ws,hl,hx⟩
theorem Kv:∀ (bs:List Nat) (fs:List bC) (i:Nat),bs.length=fs.length→i<fs.length →
  ∃ G:aG,(mG bs fs=star (jT (bs.getD i 0) (fs.getD i bC.new)) G)∧∀ f',mG bs (fs.set i f')=star (jT (bs.getD i 0) f') G
 |[],[],i,_,h=>by simp at h
 |[],_::_,_,h,_=>by simp at h
 |_::_,[],_,h,_=>by simp at h
 |b::bs,f::fs,0,_,_=>⟨mG bs fs,rfl,fun _=>rfl⟩
 |b::bs,f::fs,i+1,hl,hi=>by
  obtain ⟨G,h1,h2⟩:=Kv bs fs i (by simpa using hl) (by simpa using hi)
  refine ⟨star (jT b f) G,?_,fun f'=>?_⟩
  ·show star (jT b f) (mG bs fs)=_
   rw [h1,wR];rfl
  ·show star (jT b f) (mG bs (fs.set i f'))=_
   rw [h2,wR];rfl
theorem Rl:∀ (bs:List Nat) (fs:List bC) (b:Nat) (f:bC),bs.length=fs.length→mG (bs++[b]) (fs++[f])=star (jT b f) (mG bs fs)
 |[],[],_,_,_=>rfl
 |[],_::_,_,_,h=>by simp at h
 |_::_,[],_,_,h=>by simp at h
 |c::bs,g::fs,b,f,h=>by
  show star (jT c g) (mG (bs++[b]) (fs++[f]))=_
  rw [Rl bs fs b f (by simpa using h),wR];rfl
end
theorem info8:(Tryz.prog.info? 5).map (fun i=>(i.zero,i.size,i.bytes))=some (some (.int .u8 0),1,1):=by kernel_rfl
theorem adD (w:World):(zeroValue 187).run Tryz.prog w = .ok (.pointer none) w:=by kernel_rfl
@[go_sem] theorem ajq (w:World) (r:Option Nat):(binOp .eql 105 (.map r) (.map none)).run Tryz.prog w = .ok (.bool r.isNone) w:=run_eql_map_nil w _ _ _ r Tryz.underlying105
end Go.Proofs.YtiglchkhikciiaaGreatDoor
namespace Go.Proofs.YtiglchkhikciiaaGreatDoor
open Go Go.Sl Go.ay Go.MapKept Go.RowKit
section
variable {w0 w:World}{F:List aG}{m fb nb:Nat}{M:ay}{bs:List Nat}{wv:Value}{s:ByteArray}
theorem xQ (h:Sat w0 w (lW m M fb nb wv::F)) :
  Calls Tryz.prog 106 #[ptr m] w (aO fun v w'=>v=errno (bif M.off then 12 else 0)∧w=w'):=by
 obtain ⟨room,fast,now,files,waits,armed,left,off⟩:=M
 have c2:=h.cellAt 2 _ rfl
 have c6:=h.cellAt 6 _ rfl
 go_enter Tryz.func106,Tryz.ntmps106
 cases off <;> (go_wp2;go_ret;exact ⟨_,rfl,rfl,rfl⟩)
theorem yO (h:Sat w0 w (lW m M fb nb wv::F)) (hl:M.left≤9223372036854775807) :
  Calls Tryz.prog 157 #[ptr m] w (aO fun v w'=>v=errno (bif M.step.2 then 0 else 12)∧Sat w0 w' (lW m M.step.1 fb nb wv::F)):=by
 obtain ⟨room,fast,now,files,waits,armed,left,off⟩:=M
 have c4:=h.cellAt 4 _ rfl
 have c5:=h.cellAt 5 _ rfl
 have f5:=h.nR 5
 have f6:=h.nR 6
 have c6:=h.cellAt 6 _ rfl
 simp only at hl
 go_enter Tryz.func157,Tryz.ntmps157
 cases armed
 ·go_wp2
  go_ret
  exact ⟨_,rfl,by simp [ay.step],by simpa [ay.step] using h⟩
 ·by_cases hz:left=0
  ·subst hz
   go_wp2
   go_ret
   exact ⟨_,rfl,rfl,h.set 6 (.bool true)⟩
  ·have hz':((left:Int)==0)=false:=by simpa using hz
   have e1:((left - 1:Nat):Int)=(left:Int) - 1:=by omega
   go_wp2
   go_ret
   refine ⟨_,rfl,by simp [ay.step,hz],?_⟩
   have:=h.set 5 (.int .i64 ((left:Int) - 1))
   simp only [ay.step,hz,akL,akO,lW,e1]
   exact this
end
end Go.Proofs.YtiglchkhikciiaaGreatDoor
namespace Go.ay
theorem mF (a b:ByteArray):(a==b)=decide (a=b):=by
 by_cases h:a=b
 ·subst h;simp [(MapKept.bytes_beq a a).2 rfl]
 ·have:¬ (a==b)=true:=fun e=>h ((MapKept.bytes_beq a b).1 e)
  simp [h,Bool.eq_false_iff.2 this]
theorem jk {l:Names}{s:ByteArray}{i:Nat} (h:bP l s=some i):(s,i)∈l:=by
 unfold bP at h
 cases hf:l.find? (fun p=>p.1==s) with
 |none=>rw [hf]at h;cases h
 |some p=>
  rw [hf]at h
  have h1:=List.find?_some hf
  have h2:=List.mem_of_find?_eq_some hf
  simp [mF]at h1 h
  obtain ⟨a,b⟩:=p
  simp at h1 h;subst h1;subst h;exact h2
theorem FW {l:Names}{s:ByteArray} (h:bP l s=none):∀ p∈l,p.1≠s:=by
 intro p hp e
 simp only [bP,Option.map_eq_none_iff,List.find?_eq_none]at h
 exact h p hp (by simp [mF,e])
theorem zL {l:Names} (hn:(l.map (·.1)).Nodup){s:ByteArray}{i:Nat} (h:(s,i)∈l):bP l s=some i:=by
 cases hg:bP l s with
 |none=>exact absurd rfl (FW hg _ h)
 |some j=>
  have hj:=jk hg
  induction l with
  |nil=>cases h
  |cons p l ih=>
   simp only [ag8,akx]at hn
   rcases aer.1 h with h1|h1 <;> rcases aer.1 hj with h2|h2
   ·rw [← h1]at h2;cases h2;rfl
   ·exact (hn.1 (acK.2 ⟨_,h2,by rw [← h1]⟩)).elim
   ·exact (hn.1 (acK.2 ⟨_,h1,by rw [← h2]⟩)).elim
   ·refine ih hn.2 h1 ?_ h2
    unfold bP at hg ⊢
    have:(p.1==s)=false:=by
     rw [mF];simp
     intro e
     exact hn.1 (acK.2 ⟨_,h1,e.symm⟩)
    rw [List.find?_cons_of_neg (by simp [this])]at hg
    exact hg
theorem aeI (l:Names) (s:ByteArray):∀ p∈fK l s,p.1≠s:=by
 intro p hp
 have:=(aji.1 hp).2
 simpa [mF,bne] using this
theorem LZ {l:Names} (hn:(l.map (·.1)).Nodup){s:ByteArray}{i:Nat} (h:(s,i)∈l):l.Perm ((s,i)::fK l s):=by
 induction l with
 |nil=>cases h
 |cons p l ih=>
  simp only [ag8,akx]at hn
  rcases aer.1 h with h1|h1
  ·subst h1
   have:fK ((s,i)::l) s=l:=by
    unfold fK
    rw [alc (by simp [mF,bne]),List.filter_eq_self]
    intro q hq
    simp only [bne,mF,Bool.not_eq_true',ajJ]
    exact fun e=>hn.1 (acK.2 ⟨q,hq,e⟩)
   rw [this]
  ·have hps:p.1≠s:=fun e=>hn.1 (acK.2 ⟨_,h1,e.symm⟩)
   have:fK (p::l) s=p::fK l s:=by
    unfold fK
    rw [ald (by simpa [mF,bne] using hps)]
   rw [this]
   exact ((ih hn.2 h1).cons p).trans (List.Perm.swap _ _ _)
theorem vW {l:Names}{s:ByteArray} (h:bP l s=none):fK l s=l:=by
 unfold fK
 rw [List.filter_eq_self]
 intro q hq
 simpa [mF,bne] using FW h q hq
theorem L9:∀ (l:Names) (s:ByteArray) (i:Nat),(qx l s i).Perm ((s,i)::l)
 |[],_,_=>aky _
 |p::l,s,i=>by
  unfold qx
  split
  ·exact aky _
  ·exact ((L9 l s i).cons p).trans (List.Perm.swap _ _ _)
theorem uz (l:Names) (s:ByteArray) (i:Nat):(jP l s i).Perm ((s,i)::fK l s):=L9 _ _ _
end Go.ay
namespace Go.Sl
open Go Go.MapKept
abbrev kv (e:MapEntry):Value×Value:=(e.key,e.val)
theorem Ll {α β:Type}{f:α→β}:∀ {l:List α},(l.map f).Nodup→∀ {x y:α},x∈l→y∈l→f x=f y→x=y
 |[],_,_,_,h,_,_=>by cases h
 |z::l,hn,x,y,hx,hy,e=>by
  simp only [ag8,akx]at hn
  rcases aer.1 hx with h1|h1 <;> rcases aer.1 hy with h2|h2
  ·rw [h1,h2]
  ·subst h1;exact (hn.1 (acK.2 ⟨y,h2,e.symm⟩)).elim
  ·subst h2;exact (hn.1 (acK.2 ⟨x,h1,e⟩)).elim
  ·exact Ll hn.2 h1 h2 e
def rng (d:TypeDesc) (b r:Nat) (l left:List (Value×Value)):aG:=fun h=>
 ∃ es clock seen,(es.toList.map kv).Perm l∧Stamped es clock∧(∀ x∈es.toList,IsKey d x.key)∧((es.toList.filter fun e => !seen.contains e.born).map kv).Perm left ∧
  star (pt b (.map es clock)) (pt r (.mapIter (some b) clock seen clock)) h
section
variable {P:Program}{w0 w:World}{R:List aG}{d:TypeDesc}{b r:Nat}{l left:List (Value×Value)}
theorem Sat.WC (h:Sat w0 w (rng d b r l left::R)):∃ es clock seen,(es.toList.map kv).Perm l∧Stamped es clock∧(∀ x∈es.toList,IsKey d x.key)∧((es.toList.filter fun e => !seen.contains e.born).map kv).Perm left ∧
  Sat w0 w (pt b (.map es clock)::pt r (.mapIter (some b) clock seen clock)::R):=by
 obtain ⟨ha,x,hx,p,q,dd,rfl,⟨es,c,se,h1,h2,h3,h4,h5⟩,hq⟩:=h
 refine ⟨es,c,se,h1,h2,h3,h4,Sat.star.1 ⟨ha,_,hx,p,q,dd,rfl,h5,hq⟩⟩
theorem Sat.WE {es:Array MapEntry}{clock:Nat}{seen:Array Nat} (h:Sat w0 w (pt b (.map es clock)::pt r (.mapIter (some b) clock seen clock)::R))
  (h1:(es.toList.map kv).Perm l) (h2:Stamped es clock) (h3:∀ x∈es.toList,IsKey d x.key) (h4:((es.toList.filter fun e => !seen.contains e.born).map kv).Perm left):Sat w0 w (rng d b r l left::R):=
 (Sat.star.2 h).head fun _ hx=>⟨es,clock,seen,h1,h2,h3,h4,hx⟩
theorem Sat.Nj (h:Sat w0 w (rng d b r l left::R)):Sat w0 w (omap d b l::R):=by
 obtain ⟨es,c,se,h1,h2,h3,h4,h5⟩:=h.WC
 exact (h5.aZ.drop).zU h1 h2 h3
theorem agV {t k e:TypeId} (ht:P.underlying t=some (.map k e)) (h:Sat w0 w (omap d b l::R)) :
  ∃ r w',(Instr.range t (.map (some b))).run P w = .ok (.pointer (some ⟨r,0,none⟩)) w'∧Sat w0 w' (rng d b r l l::R):=by
 obtain ⟨es,c,h1,h2,h3,h4⟩:=h.zT
 have hb:=h4.at
 refine ⟨w.heap.size,w.alloc (.mapIter (some b) c #[] c),?_,?_⟩
 ·simp [Instr.range,ajO ht,ajV hb,Result.andThen]
 ·exact (h4.alloc (.mapIter (some b) c #[] c)).aZ.WE h1 h2 h3 (by rw [List.filter_eq_self.2 (by simp)];exact h1)
theorem agS (h:Sat w0 w (rng d b r l left::R)) (ty:TypeId) :
  (left=[]∧(Instr.next (.pointer (some ⟨r,0,none⟩)) false ty).run P w = .ok (.tuple #[.bool false]) w) ∨
  ∃ k v left' w',left.Perm ((k,v)::left')∧(Instr.next (.pointer (some ⟨r,0,none⟩)) false ty).run P w = .ok (.tuple #[.bool true,k,v]) w'∧Sat w0 w' (rng d b r l left'::R) ∧
   (Instr.entry (.pointer (some ⟨r,0,none⟩))).run P w' = .ok (.tuple #[k,v]) w':=by
 obtain ⟨es,c,se,h1,h2,h3,h4,h5⟩:=h.WC
 have hb:=h5.at
 have hr:=h5.aZ.at
 have hne:=h5.ne
 have hgr:(getObj r).run P w = .ok (.mapIter (some b) c se c) w:=by simp [getObj,Sem.run,hr]
 have hgb:(getObj b).run P w = .ok (.map es c) w:=ajV hb
 have hborn:=h2.1
 have hold:(es.filter fun e => !se.contains e.born).filter (fun e=>decide (e.born<c))=es.filter fun e => !se.contains e.born:=by
  apply Array.ext'
  simp only [Array.toList_filter]
  rw [List.filter_eq_self]
  intro x hx
  simpa using hborn x ((aji.1 hx).1)
 have hnew:(es.filter fun e => !se.contains e.born).filter (fun e=>decide (e.born≥c))=#[]:=by
  apply Array.ext'
  simp only [Array.toList_filter]
  rw [List.filter_eq_nil_iff]
  intro x hx
  have:=hborn x ((aji.1 hx).1)
  simp;omega
 have hall:(!se.isEmpty && !es.isEmpty && es.all (fun e=>decide (e.born≥c)))=false:=by
  by_cases he:es.isEmpty
  ·simp [he]
  ·have:es.all (fun e=>decide (e.born≥c))=false:=by
    rw [Array.all_eq_false]
    have:0<es.size:=by
     rcases Nat.eq_zero_or_pos es.size with h|h
     ·exact absurd (by simpa using h) he
     ·exact h
    refine ⟨0,this,?_⟩
    have:=hborn es[0] (by simp)
    simp;omega
   simp [this]
 generalize hlf:(es.filter fun e => !se.contains e.born)=lf at *
 have Fg:lf.toList=es.toList.filter fun e => !se.contains e.born:=by rw [← hlf];simp
 rw [← Fg]at h4
 have key:(Instr.next (.pointer (some ⟨r,0,none⟩)) false ty).run P w =
   (do
    let candidates:=(if lf.isEmpty then #[none] else #[])++lf.map some
    match candidates[← choose (.mapNext candidates.size)]? with
    |some (some e)=>
     setObj r (.mapIter (some b) c (se.push e.born) c)
     pure (.tuple #[.bool true,e.key,e.val])
    |some none=>pure (.tuple #[.bool false])
    |none=>stuck "Next: no such candidate" : Sem Value).run P w:=by
  unfold Instr.next
  simp only [adO,hgr,ac2,hgb,hall,ajK,akO,hlf,hold,hnew,Array.append_empty]
  rfl
 by_cases hle:lf=#[]
 ·left
  subst hle
  have:left=[]:=by simpa using h4.symm
  refine ⟨this,?_⟩
  rw [key]
  simp [choose,Sem.run,Question.forced,Result.andThen]
 ·right
  have hpos:0<lf.size:=by
   rcases Nat.eq_zero_or_pos lf.size with h|h
   ·exact absurd (by simpa using h) hle
   ·exact h
  have hemp:lf.isEmpty=false:=by simpa using hle
  -- which one
  obtain ⟨i,w1,hi,hw1,hch⟩:∃ i w1,i<lf.size∧(w1=w∨w1=w.drew)∧(choose (.mapNext (lf.map some).size)).run P w = .ok i w1:=by
   by_cases h1:lf.size≤1
   ·refine ⟨0,w,hpos,.inl rfl,?_⟩
    simp [choose,Sem.run,Question.forced,h1]
   ·refine ⟨w.tape w.drawn (.mapNext (lf.map some).size)%lf.size,w.drew,akC _ hpos,.inr rfl,?_⟩
    simp [choose,Sem.run,Question.forced,h1,Question.cut]
  have h5':Sat w0 w1 (pt b (.map es c)::pt r (.mapIter (some b) c se c)::R):=by
   rcases hw1 with rfl|rfl
   ·exact h5
   ·exact h5.drew
  have hr1:=h5'.aZ.at
  have hget:(lf.map some)[i]?=some (some lf[i]):=by simp [hi]
  obtain ⟨x,hx⟩:∃ x,x=lf[i]:=⟨_,rfl⟩
  have hxm:x∈es.toList.filter fun e => !se.contains e.born:=by rw [← Fg,hx];simp
  have Ld:x∈es.toList:=(aji.1 hxm).1
  have hset:(setObj r (.mapIter (some b) c (se.push x.born) c)).run P w1 = .ok () { w1 with heap:=w1.heap.setIfInBounds r (.mapIter (some b) c (se.push x.born) c) }:=by
   simp [setObj,Sem.run,hr1]
  have h6:Sat w0 { w1 with heap:=w1.heap.setIfInBounds r (.mapIter (some b) c (se.push x.born) c) } (pt r (.mapIter (some b) c (se.push x.born) c)::pt b (.map es c)::R):=
   h5'.aZ.turn rfl rfl rfl (by simp) (heap_set hr1).1 (fun i hi _=>(heap_set hr1).2 i hi)
  have hnd:=h2.2.1
  refine ⟨x.key,x.val,(es.toList.filter fun e => !(se.push x.born).contains e.born).map kv,_,?_,?_,h6.aZ.WE h1 h2 h3 (aky _),?_⟩
  ·
   refine h4.symm.trans ?_
   rw [Fg]
   have hbn:∀ y∈es.toList,y.born=x.born→y=x:=by
    intro y hy hyx
    exact Ll hnd hy Ld hyx
   have hmem:x∈es.toList.filter fun e => !se.contains e.born:=hxm
   have:(es.toList.filter fun e => !se.contains e.born).Perm (x::es.toList.filter fun e => !(se.push x.born).contains e.born):=by
    have hf:(es.toList.filter fun e => !(se.push x.born).contains e.born)=(es.toList.filter fun e => !se.contains e.born).filter fun e=>e.born != x.born:=by
     rw [List.filter_filter]
     apply List.filter_congr
     intro y _
     by_cases hb:y.born=x.born <;> simp [hb]
    rw [hf]
    have hnd':((es.toList.filter fun e => !se.contains e.born).map (·.born)).Nodup:=hnd.sublist ((ak4).map _)
    clear hf h4 Fg hlf key
    generalize (es.toList.filter fun e => !se.contains e.born)=L at *
    induction L with
    |nil=>cases hmem
    |cons y L ih=>
     simp only [ag8,akx]at hnd'
     rcases aer.1 hmem with rfl|hm
     ·rw [alc (by simp)]
      rw [List.filter_eq_self.2]
      intro z hz
      simp only [aj6,ne_eq]
      intro e
      exact hnd'.1 (acK.2 ⟨z,hz,e⟩)
     ·have hyx:y.born≠x.born:=fun e=>hnd'.1 (acK.2 ⟨x,hm,e.symm⟩)
      rw [ald (by simpa using hyx)]
      exact ((ih hm hm hnd'.2).cons y).trans (List.Perm.swap _ _ _)
   simpa using this.map kv
  ·rw [key,hemp]
   simp only [ajK,akO,Array.empty_append,adO,hch,ac2,hget,← hx,hset,aeC]
  ·have yB:=h6.at
   have hb6:=h6.aZ.at
   have hg1:∀ w',w'.heap[r]?=some (.mapIter (some b) c (se.push x.born) c)→(getObj r).run P w' = .ok (.mapIter (some b) c (se.push x.born) c) w':=by
    intro w' hw;simp [getObj,Sem.run,hw]
   have hfind:es.find? (fun e=>e.born==x.born)=some x:=by
    rw [← Array.find?_toList]
    cases hf:es.toList.find? (fun e=>e.born==x.born) with
    |none=>
     rw [List.find?_eq_none]at hf
     exact absurd (by simp) (hf x Ld)
    |some y=>
     have h7:=List.find?_some hf
     have h8:=List.mem_of_find?_eq_some hf
     rw [Ll hnd h8 Ld (by simpa using h7)]
   unfold Instr.entry
   simp only [adO,hg1 _ yB,ac2,ajV hb6,Array.back?_push,hfind]
   simp
variable {ops:Array Oper}{rest:List Oper}{o:Oper}{a:Act}{Q:Exit→Act→World→Prop}
theorem Oz (hg:o.guard=none) (m:Operand) (t k e:TypeId) (hop:o.op=Op.range t m) (ht:P.underlying t=some (.map k e)) (hm:a.eval m = .map (some b)) (h:Sat w0 w (omap d b l::R))
  (hK:∀ r w',Sat w0 w' (rng d b r l l::R)→wpList P ops Q rest (a.put o.dst (.pointer (some ⟨r,0,none⟩))) w'):wpList P ops Q (o::rest) a w:=by
 refine ajx hg fun K hK'=>?_
 obtain ⟨r,w',hr,hs⟩:=agV (P:=P) ht h
 unfold Oper.wp
 simp [execOp,hop,hm,hr,Result.andThen]
 exact hK' _ _ (hK r w' hs)
theorem Oy (hg:o.guard=none) (it:Operand) (hop:o.op=Op.next it false) (hit:a.eval it = .pointer (some ⟨r,0,none⟩)) (h:Sat w0 w (rng d b r l left::R))
  (hnil:left=[]→wpList P ops Q rest (a.put o.dst (.tuple #[.bool false])) w)
  (hK:∀ k v left' w',left.Perm ((k,v)::left')→Sat w0 w' (rng d b r l left'::R)→(Instr.entry (.pointer (some ⟨r,0,none⟩))).run P w' = .ok (.tuple #[k,v]) w' →
   wpList P ops Q rest (a.put o.dst (.tuple #[.bool true,k,v])) w'):wpList P ops Q (o::rest) a w:=by
 refine ajx hg fun K hK'=>?_
 unfold Oper.wp
 rcases agS (P:=P) h o.type with ⟨h1,h2⟩|⟨k,v,left',w',h1,h2,h3,h4⟩
 ·simp [execOp,hop,hit,h2,Result.andThen]
  exact hK' _ _ (hnil h1)
 ·simp [execOp,hop,hit,h2,Result.andThen]
  exact hK' _ _ (hK k v left' w' h1 h3 h4)
end
end Go.Sl
namespace Go.Proofs.YtiglchkhikciiaaGreatDoor
open Go Go.Sl Go.ay Go.MapKept Go.RowKit
section
variable {w0 w:World}{F:List aG}{m fb nb b:Nat}{M:ay}{bs:List Nat}{wv:Value}{s:ByteArray}{l:Names}
theorem LU (h:Sat w0 w (omap .string b (dL bs l)::F)):(l.map (·.1)).Nodup:=by
 have:=h.F6
 simp only [dL,aj9]at this
 rw [List.nodup_iff_pairwise_ne,aki]at this ⊢
 refine this.imp fun {x y} hxy e=>hxy ?_
 simp [e]
def yg (bs:List Nat) (l:Names) (s:ByteArray):Value:=match bP l s with|some i=>ptr (bs.getD i 0)|none=> .pointer none
theorem LP (h:Sat w0 w (omap .string b (dL bs l)::F)):(Instr.lookup 105 (.map (some b)) (.string s) false).run Tryz.prog w = .ok (yg bs l s) w:=by
 have hn:=LU h
 rcases Xh (P:=Tryz.prog) Tryz.underlying105 Tryz.underlying9 (adD w) (key:= .string s) trivial h with ⟨v,h1,h2,_⟩|⟨h1,h2,_⟩
 ·rw [h2]
  obtain ⟨p,hp,e⟩:=acK.1 h1
  simp only [Prod.mk.injEq,Value.string.injEq]at e
  obtain ⟨a,i⟩:=p
  simp only at e
  rw [← e.1,← e.2,yg,zL hn hp]
 ·rw [h2,yg]
  cases hg:bP l s with
  |none=>rfl
  |some i=>exact absurd rfl (h1 (.string s,ptr (bs.getD i 0)) (acK.2 ⟨(s,i),jk hg,rfl⟩))
abbrev U3 (m:Nat) (M:ay) (fb nb:Nat) (wv:Value) (bs:List Nat) (F:List aG):List aG:=lW m M fb nb wv::omap .string nb (dL bs M.now)::F
theorem xZ (h:Sat w0 w (lW m M fb nb wv::F)) (ho:M.off=true) :
  Calls Tryz.prog 103 #[ptr m,.string s] w (aO fun v w'=>v = .tuple #[.pointer none,errno 12]∧w=w'):=by
 go_enter Tryz.func103,Tryz.ntmps103
 go_wp2_with (go_at_call 106;refine (xQ h).mono ?_;rintro e w1 ⟨v,rfl,rfl,rfl⟩;rw [ho])
 go_ret2
 exact ⟨_,rfl,rfl,rfl⟩
theorem xY (h:Sat w0 w (U3 m M fb nb wv bs F)) (ho:M.off=false) (hn:bP M.now s=none) :
  Calls Tryz.prog 103 #[ptr m,.string s] w (aO fun v w'=>v = .tuple #[.pointer none,errno 9]∧w=w'):=by
 have c2:=h.cellAt 2 _ rfl
 have hl:=LP (s:=s) h.aZ
 rw [yg,hn]at hl
 have hd:=xQ h
 rw [ho]at hd
 clear hn ho
 go_enter Tryz.func103,Tryz.ntmps103
 go_wp2_with (go_at_call 106;refine hd.mono ?_;rintro e w1 ⟨v,rfl,rfl,rfl⟩)
 go_ret2
 exact ⟨_,rfl,rfl,rfl⟩
theorem x8 {i:Nat} (h:Sat w0 w (U3 m M fb nb wv bs F)) (ho:M.off=false) (hn:bP M.now s=some i) :
  Calls Tryz.prog 103 #[ptr m,.string s] w (aO fun v w'=>v = .tuple #[ptr (bs.getD i 0),errno 0]∧w=w'):=by
 have c2:=h.cellAt 2 _ rfl
 have hl:=LP (s:=s) h.aZ
 rw [yg,hn]at hl
 have hd:=xQ h
 rw [ho]at hd
 clear hn ho
 simp only at hl
 generalize bs.getD i 0=fp at *
 go_enter Tryz.func103,Tryz.ntmps103
 go_wp2_with (go_at_call 106;refine hd.mono ?_;rintro e w1 ⟨v,rfl,rfl,rfl⟩)
 go_ret2
 exact ⟨_,rfl,rfl,rfl⟩
end
section
variable {w0 w:World}{F:List aG}{m fb nb b:Nat}{M:ay}{bs:List Nat}{wv:Value}{s:ByteArray}{l:Names}
theorem FK {l l':Names} (h:l.Perm l'):(dL bs l).Perm (dL bs l'):=h.map _
theorem QJ (hn:(l.map (·.1)).Nodup) (s:ByteArray):(dL bs l).Perm (dL bs (fK l s))∧(∀ p∈dL bs (fK l s),p.1 ≠ .string s)∨∃ v0,(dL bs l).Perm ((.string s,v0)::dL bs (fK l s)):=by
 cases hg:bP l s with
 |none=>
  left
  rw [vW hg]
  refine ⟨aky _,fun p hp=>?_⟩
  obtain ⟨q,hq,rfl⟩:=acK.1 hp
  simpa using FW hg q hq
 |some i=>exact .inr ⟨ptr (bs.getD i 0),FK (LZ hn (jk hg))⟩
def mO (bs:List Nat) (x:gV):Value:=if x.to=ByteArray.empty then .pointer none else ptr (bs.getD x.f 0)
theorem JO {s:ByteArray} (h:s≠ByteArray.empty):s.toList.isEmpty=false:=by
 cases hs:s.toList with
 |cons _ _=>rfl
 |nil=>
  exfalso;apply h
  have:s.data.toList=[]:=by rw [← Lib.toList_data];exact hs
  obtain ⟨⟨d⟩⟩:=s
  simp at this;subst this;rfl
theorem JQ {s:ByteArray} (h:s=ByteArray.empty):s.toList=[]:=by subst h;rw [Lib.toList_data];rfl
theorem afc (fr to:ByteArray) (q:Value) (h:Sat w0 w (omap .string b (dL bs l)::F)) (l1 l2:List (Value×Value))
  (h1:fr=ByteArray.empty∧l1=dL bs l∨fr≠ByteArray.empty∧((dL bs l).Perm l1∧(∀ p∈l1,p.1 ≠ .string fr)∨∃ v0,(dL bs l).Perm ((.string fr,v0)::l1)))
  (h2:to=ByteArray.empty∧l2=l1∨to≠ByteArray.empty∧∃ l3,(l1.Perm l3∧(∀ p∈l3,p.1 ≠ .string to)∨∃ v0,l1.Perm ((.string to,v0)::l3))∧l2=(.string to,q)::l3) :
  Calls Tryz.prog 211 #[.agg #[.string fr,.string to,q],.map (some b)] w (aO fun _ w'=>Sat w0 w' (omap .string b l2::F)):=by
 have hb:=(h.alloc (.cells #[.string fr,.string to,q] 258)).aZ
 go_enter Tryz.func211,Tryz.ntmps211
 rcases h1 with ⟨hf,h1⟩|⟨hf,h1⟩
 ·have e1:=JQ hf
  clear hf
  subst h1
  rcases h2 with ⟨ht,h2⟩|⟨ht,l3,h3,h2⟩
  ·have e2:=JQ ht
   clear ht
   subst h2
   go_wp2
   go_end0
   exact ⟨_,rfl,hb.aZ.drop⟩
  ·have e2:=JO ht
   clear ht
   have H2:=uQ h2;clear h2
   have H3:=uQ h3;clear h3
   go_wp2_with (at_mapUpdate;go_must (refine OA (key:= .string to) ah _ _ _ ah Tryz.underlying105 Tryz.underlying9 ah ah ah trivial hb l3 H3.out ?_);intro w1 hS1)
   go_end0
   rw [H2.out]
   exact ⟨_,rfl,hS1.aZ.drop⟩
 ·have e1:=JO hf
  clear hf
  have H1:=uQ h1;clear h1
  rcases h2 with ⟨ht,h2⟩|⟨ht,l3,h3,h2⟩
  ·have e2:=JQ ht
   clear ht
   subst h2
   go_wp2_with (at_delete;go_must (refine Yk (key:= .string fr) ah _ _ ah Tryz.underlying105 Tryz.underlying9 ah ah trivial hb l2 H1.out ?_);intro w1 hS1;have c0:=hS1.aZ.cellAt 0 _ rfl;have c1:=hS1.aZ.cellAt 1 _ rfl)
   go_end0
   exact ⟨_,rfl,hS1.aZ.drop⟩
  ·have e2:=JO ht
   clear ht
   have H2:=uQ h2;clear h2
   have H3:=uQ h3;clear h3
   go_wp2_with (first
    |(at_delete;go_must (refine Yk (key:= .string fr) ah _ _ ah Tryz.underlying105 Tryz.underlying9 ah ah trivial hb l1 H1.out ?_);intro w1 hS1;have c0:=hS1.aZ.cellAt 0 _ rfl;have c1:=hS1.aZ.cellAt 1 _ rfl;have c2:=hS1.aZ.cellAt 2 _ rfl)
    |(at_mapUpdate;go_must (refine OA (key:= .string to) ah _ _ _ ah Tryz.underlying105 Tryz.underlying9 ah ah ah trivial hS1 l3 H3.out ?_);intro w2 hS2))
   go_end0
   rw [H2.out]
   exact ⟨_,rfl,hS2.aZ.drop⟩
theorem afb (x:gV) (h:Sat w0 w (omap .string b (dL bs l)::F)) :
  Calls Tryz.prog 211 #[.agg #[.string x.fr,.string x.to,mO bs x],.map (some b)] w (aO fun _ w'=>Sat w0 w' (omap .string b (dL bs (x.on l))::F)):=by
 have hn:=LU h
 obtain ⟨fr,to,f⟩:=x
 have key:∀ l1:Names,l1=(if fr=ByteArray.empty then l else fK l fr)→(l1.map (·.1)).Nodup:=by
  rintro l1 rfl
  split
  ·exact hn
  ·exact hn.sublist ((ak4).map _)
 have:=afc fr to (mO bs ⟨fr,to,f⟩) h (dL bs (if fr=ByteArray.empty then l else fK l fr))
  (if to=ByteArray.empty then dL bs (if fr=ByteArray.empty then l else fK l fr) else (.string to,ptr (bs.getD f 0))::dL bs (fK (if fr=ByteArray.empty then l else fK l fr) to)) ?_ ?_
 ·refine this.mono ?_
  rintro e w1 ⟨v,rfl,hS⟩
  refine ⟨v,rfl,?_⟩
  unfold gV.on
  simp only
  split
  ·rename_i ht;rw [ac3 ht]at hS;exact hS
  ·rename_i ht
   rw [abw ht]at hS
   exact hS.F8 (FK (uz _ _ _)).symm
 ·by_cases hf:fr=ByteArray.empty
  ·exact .inl ⟨hf,by rw [ac3 hf]⟩
  ·exact .inr ⟨hf,by rw [abw hf];exact QJ hn fr⟩
 ·by_cases ht:to=ByteArray.empty
  ·exact .inl ⟨ht,by rw [ac3 ht]⟩
  ·refine .inr ⟨ht,_,QJ (key _ rfl) to,?_⟩
   rw [abw ht]
   simp [mO,ht]
end
end Go.Proofs.YtiglchkhikciiaaGreatDoor
namespace Go.Sl
open Go
section
variable {P:Program}{ops:Array Oper}{Q:Exit→Act→World→Prop}{late:List Nat}{G:World→Prop}
def keeps (late:List Nat) (G:World→Prop) (i:Nat) (w w':World):Prop:=late.contains i=true∨G w'∨w'=w
def iI (P:Program) (ops:Array Oper) (Q:Exit→Act→World→Prop) (late:List Nat) (G:World→Prop):Nat→Array Bool→Act→World→Prop
 |0,l,a,w=>Region.ready .any ops l=[]∧Q .normal a w
 |n+1,l,a,w=>(Region.ready .any ops l=[]→Q .normal a w) ∧
  ∀ i∈Region.ready .any ops l,wpOp P ops Q i (fun a' w'=>keeps late G i w w'∧iI P ops Q late G n (l.setIfInBounds i true) a' w') a w
theorem Ov:∀ (n:Nat) (l:Array Bool) (a:Act) (w:World),iI P ops Q late G n l a w→wpAny P .any ops Q n l a w
 |0,_,_,_,h=>h
 |n+1,_,_,_,h=>⟨h.1,fun i hi=>wpOp_mono (fun a' w' h'=>Ov n _ a' w' h'.2) (h.2 i hi)⟩
theorem dH {id:Nat}{a:Act}{w:World} (late:List Nat) (G:World→Prop) (hm:P.follows .mixedOrders=true)
  (h:iI P ops Q late G ops.size (Array.replicate ops.size false) a w.drew):(Code.region id ops true).wp P Q a w:=
 wp_region_any hm (Ov _ _ _ _ h)
def waitsFor (ops:Array Oper) (i:Nat):Nat→Nat→Bool
 |0,_=>false
 |n+1,j=>((ops[j]?).map fun o=>(o.after.any fun e=>Region.binds .any e && e.on==i) || (o.after.any fun e=>Region.binds .any e && waitsFor ops i n e.on)).getD false
def LG (ops:Array Oper) (late:List Nat) (i:Nat):Bool:=late.all fun j=>j==i || waitsFor ops i 8 j
def DL (ops:Array Oper) (l:Array Bool):Prop:=∀ (k:Nat) (ok:Oper),ops[k]?=some ok→l.getD k false=true→∀ e∈ok.after,Region.binds .any e=true→l.getD e.on false=true
def sK (ops:Array Oper) (l:Array Bool):Bool:=(List.range ops.size).all fun k => !l.getD k false || ((ops[k]?).map fun o=>o.after.all fun e => !Region.binds .any e || l.getD e.on false).getD true
theorem Xw {l:Array Bool} (h:sK ops l=true):DL ops l:=by
 intro k ok hk hl e he hb
 have hlt:k<ops.size:=(akq.1 hk).1
 have h1:=(ajE.1 h) k (by simpa using hlt)
 simp only [hl,hk,aj7,Option.getD_some,Bool.not_true,Bool.false_or]at h1
 obtain ⟨m,hm,rfl⟩:=Array.getElem_of_mem he
 have h2:=Array.all_eq_true.1 h1 m hm
 simpa [hb] using h2
theorem ahq {l:Array Bool}{j:Nat} (h:DL ops l) (hj:j∈Region.ready .any ops l):DL ops (l.setIfInBounds j true):=by
 obtain ⟨hun,oj,hoj,hall⟩:=mem_ready.1 hj
 have hmono:∀ k,l.getD k false=true→(l.setIfInBounds j true).getD k false=true:=by
  intro k hk
  by_cases hjk:j=k
  ·subst hjk
   rcases akf j l.size with h'|h'
   ·simp [h']
   ·simp [ak0 h']at hk
  ·simp only [akn]at hk ⊢
   rw [ak6 hjk];exact hk
 intro k ok hk hl e he hb
 by_cases hjk:j=k
 ·subst hjk
  rw [hoj]at hk;cases hk
  exact hmono _ (hall e he hb)
 ·refine hmono _ (h k ok hk ?_ e he hb)
  simp only [akn]at hl ⊢
  rw [ak6 hjk]at hl;exact hl
theorem Ya {l:Array Bool} (hs:DL ops l) (i:Nat):∀ (n j:Nat),waitsFor ops i n j=true→(∀ oj,ops[j]?=some oj→∀ e∈oj.after,Region.binds .any e=true→l.getD e.on false=true)→l.getD i false=true
 |0,_,h,_=>by cases h
 |n+1,j,h,hj=>by
  unfold waitsFor at h
  cases ho:ops[j]? with
  |none=>rw [ho]at h;simp at h
  |some o=>
   rw [ho]at h
   simp only [aj7,Option.getD_some,Bool.or_eq_true]at h
   rcases h with h|h
   ·obtain ⟨k,hk,h2⟩:=Array.any_eq_true.1 h
    simp only [ajc,akr]at h2
    rw [← h2.2]
    exact hj o ho _ (Array.getElem_mem hk) h2.1
   ·obtain ⟨k,hk,h2⟩:=Array.any_eq_true.1 h
    simp only [ajc]at h2
    have hl:=hj o ho _ (Array.getElem_mem hk) h2.1
    exact Ya hs i n _ h2.2 (fun ok hok=>hs _ ok hok hl)
theorem Yi {i:Nat}{oi:Oper}{v:Value}{S:World→Prop} (hi:ops[i]?=some oi) (hsel:∀ (j:Nat) (o:Oper) cs b,ops[j]?=some o→o.op ≠ .select cs b)
  (hQ:∀ c a w,Q (.panic c) (a.put oi.dst v) w→Q (.panic c) a w)
  (hS:∀ j,waitsFor ops i 8 j=false→j≠i→∀ w w',S w→keeps late G j w w'→S w') :
  ∀ (n:Nat) (l:Array Bool) (a:Act) (w:World),DL ops l →
   (∀ j oj,ops[j]?=some oj→j≠i→l.getD j true=false→(∀ e∈oj.after,Region.binds .any e=true→e.on≠i)→oi.apart ops oj=true) →
   i∈Region.ready .any ops l→YieldsIf P ops S oi v a→S w →
   iI P ops Q late G n (l.setIfInBounds i true) (a.put oi.dst v) w→iI P ops Q late G (n+1) l a w:=by
 intro n
 induction n with
 |zero=>
  intro l a w _ _ hr hy hs H
  refine ⟨(fun h=>(by rw [h]at hr;cases hr)),fun j hj=>?_⟩
  by_cases hji:j=i
  ·subst hji;exact hy.wpOp hi hs ⟨.inr (.inr rfl),H⟩
  ·have:=ready_mono hj hji
   rw [H.1]at this
   cases this
 |succ n ih=>
  intro l a w hsh hfree hr hy hs H
  refine ⟨(fun h=>(by rw [h]at hr;cases hr)),fun j hj=>?_⟩
  by_cases hji:j=i
  ·subst hji;exact hy.wpOp hi hs ⟨.inr (.inr rfl),H⟩
  ·have h1:=H.2 j (ready_mono hj hji)
   obtain ⟨hjun,oj,hoj,hall⟩:=mem_ready.1 hj
   have TD:l.getD i false=false:=by
    have h0:=(mem_ready.1 hr).1
    rcases akf i l.size with h'|h'
    ·simp [h']at h0 ⊢;exact h0
    ·simp [ak0 h']at h0
   have hnot:∀ e∈oj.after,Region.binds .any e=true→e.on≠i:=fun e he hb heq=>by
    have h1:=hall e he hb
    rw [heq,TD]at h1
    cases h1
   have ads:waitsFor ops i 8 j=false:=by
    cases hw:waitsFor ops i 8 j with
    |false=>rfl
    |true=>
     have:=Ya hsh i 8 j hw (fun o ho=>by rw [hoj]at ho;cases ho;exact hall)
     rw [TD]at this;cases this
   have h2:=wpOp_putIf hoj (hfree j oj hoj hji hjun hnot) (fun cs b=>hsel i oi cs b hi) (fun cs b=>hsel j oj cs b hoj) hQ hy h1
   have hfree':∀ k ok,ops[k]?=some ok→k≠i→(l.setIfInBounds j true).getD k true=false →
     (∀ e∈ok.after,Region.binds .any e=true→e.on≠i)→oi.apart ops ok=true:=fun k ok hok hki hun hno=>by
    refine hfree k ok hok hki ?_ hno
    by_cases hjk:j=k
    ·subst hjk;exact hjun
    ·rw [getD_set_ne true hjk]at hun;exact hun
   refine wpOp_mono (fun a' w' h3=>⟨h3.2.1,ih (l.setIfInBounds j true) a' w' (ahq hsh hj) hfree' (ready_mono hr (Ne.symm hji)) h3.1 (hS j ads hji w w' hs h3.2.1) ?_⟩) h2
   rw [Array.setIfInBounds_comm _ _ hji]
   exact h3.2.2
theorem nY {i:Nat}{oi:Oper}{v:Value}{n:Nat}{l:Array Bool}{a:Act}{w:World} (hi:ops[i]?=some oi)
  (hc:(Region.noSelect ops && Region.free .any ops l i && (Region.ready .any ops l).contains i && LG ops late i && sK ops l)=true)
  (hQ:∀ c a w,Q (.panic c) (a.put oi.dst v) w→Q (.panic c) a w) (hy:YieldsIf P ops G oi v a) (hG:G w)
  (h:iI P ops Q late G n (l.setIfInBounds i true) (a.put oi.dst v) w):iI P ops Q late G (n+1) l a w:=by
 simp only [ajc]at hc
 obtain ⟨⟨⟨⟨hs,hf⟩,hr⟩,hl⟩,hsh⟩:=hc
 refine Yi hi (Region.noSelect_spec hs) hQ ?_ n l a w (Xw hsh) (Region.free_spec hi hf) (by simpa using hr) hy hG h
 intro j hno hji w w' hw hk
 rcases hk with hc|hk|rfl
 ·exfalso
  have h1:=(ajE.1 hl) j (by simpa using hc)
  rw [hno,Bool.or_false]at h1
  exact hji (by simpa using h1)
 ·exact hk
 ·exact hw
theorem fA {i:Nat}{oi:Oper}{v:Value}{n:Nat}{l:Array Bool}{a:Act}{w:World} (hi:ops[i]?=some oi)
  (hc:(Region.noSelect ops && Region.free .any ops l i && (Region.ready .any ops l).contains i && sK ops l)=true)
  (hQ:∀ c a w,Q (.panic c) (a.put oi.dst v) w→Q (.panic c) a w) (hy:Yields P ops oi v a)
  (h:iI P ops Q late G n (l.setIfInBounds i true) (a.put oi.dst v) w):iI P ops Q late G (n+1) l a w:=by
 simp only [ajc]at hc
 obtain ⟨⟨⟨hs,hf⟩,hr⟩,hsh⟩:=hc
 exact Yi (S:=fun _=>True) hi (Region.noSelect_spec hs) hQ (fun _ _ _ _ _ _ _=>trivial) n l a w (Xw hsh) (Region.free_spec hi hf) (by simpa using hr) hy.yieldsIf trivial h
theorem nX {i:Nat}{o:Oper}{n:Nat}{l:Array Bool}{a:Act}{w:World} (ho:ops[i]?=some o) (hr:Region.ready .any ops l=[i])
  (h:∀ K:Act→World→Prop,(∀ a' w',keeps late G i w w'→iI P ops Q late G n (l.setIfInBounds i true) a' w'→K a' w') →
   if Region.wanted o (yielded ops a.tmps)=true then Oper.wp P o a w K Q else K (a.put o.dst undef) w):iI P ops Q late G (n+1) l a w:=by
 refine ⟨(fun h0=>by rw [hr]at h0;cases h0),fun j hj=>?_⟩
 rw [hr]at hj
 obtain rfl:j=i:=by simpa using hj
 have:=h _ (fun a' w' h1 h2=>And.intro h1 h2)
 unfold wpOp
 rw [ho]
 show if Region.wanted o (yielded ops a.tmps)=true then _ else _
 split
 ·rename_i hw;rw [ac3 hw]at this;exact .inl this
 ·rename_i hw;rw [abw hw]at this;exact this
theorem dD {n:Nat}{l:Array Bool}{a:Act}{w:World} (hr:Region.ready .any ops l=[]) (h:Q .normal a w):iI P ops Q late G n l a w:=by
 cases n with
 |zero=>exact ⟨hr,h⟩
 |succ n=>exact ⟨fun _=>h,(by rw [hr];intro i hi;cases hi)⟩
end
end Go.Sl
namespace Go.Proofs.YtiglchkhikciiaaGreatDoor
open Go Go.Sl Go.ay Go.MapKept Go.RowKit
attribute [local go_sem ↓] Go.wp_at_zero Go.wp_at_succ
section
variable {w0 w:World}{F:List aG}{m fb nb b:Nat}{M:ay}{bs:List Nat}{wv:Value}{s:ByteArray}{l:Names}
theorem adF:(Tryz.prog.info? 258).map (fun i=>(i.zero,i.size,i.bytes))=some (some (.agg #[.string ByteArray.empty,.string ByteArray.empty,.pointer none]),3,40):=by kernel_rfl
theorem UH (x:gV) (h:Sat w0 w (lW m M fb nb wv::omap .string nb (dL bs M.now)::aC 258 3 wv (M.waits.flatMap (lK bs))::F)) (hw:M.waits.length≤1099511627776) :
  Calls Tryz.prog 158 #[ptr m,.agg #[.string x.fr,.string x.to,mO bs x]] w
   (aO fun _ w'=>∃ wv',Sat w0 w' (lW m (M.link x) fb nb wv'::omap .string nb (dL bs (M.link x).now)::aC 258 3 wv' ((M.link x).waits.flatMap (lK bs))::F)):=by
 obtain ⟨i,hi,hz0,hz1,hz2⟩:=info_parts adF
 have hb:=(h.alloc (.cells #[.string x.fr,.string x.to,mO bs x] 258))
 have hon:=afb (w:=(w.alloc (.cells #[.string x.fr,.string x.to,mO bs x] 258)).drew) x hb.fG.drew
 have c2:=hb.aZ.cellAt 2 _ rfl
 have b0:=hb.cellAt 0 _ rfl
 have b1:=hb.cellAt 1 _ rfl
 have b2:=hb.cellAt 2 _ rfl
 have hoc:∀ u∈(#[.string x.fr,.string x.to,mO bs x]:Array Value).toList,u.oneCell'=true:=by
  intro u hu
  simp only [aer,ajU,alb]at hu
  rcases hu with rfl|rfl|rfl
  ·rfl
  ·rfl
  ·unfold mO;split <;> rfl
 have hlen:(M.waits.flatMap (lK bs)).length=M.waits.length * 3:=by
  rw [List.length_flatMap];simp [lK,List.map_const']
 have h63:(M.waits.flatMap (lK bs)).length+3≤maxLen:=by unfold maxLen;omega
 have hby:((M.waits.flatMap (lK bs)).length+3) * i.bytes≤140737488355328:=by rw [hz2];omega
 have hcs:lK bs x=(#[.string x.fr,.string x.to,mO bs x]:Array Value).toList:=rfl
 have hfin:∀ wv',lW m (M.link x) fb nb wv'=pt m (.cells #[.int .i64 M.room,.map (some fb),.map (some nb),wv',.bool M.armed,.int .i64 M.left,.bool M.off] 108 (0,0)):=fun _=>rfl
 have YU:=uQ hcs;clear hcs
 have Hlen:=uQ hlen;clear hlen
 have bH:=uQ hfin;clear hfin
 generalize mO bs x=q at *
 go_enter Tryz.func158,Tryz.ntmps158
 go_wp2_with fail
 refine dH [5] (fun w'=>w'.cell? ⟨m,2,none⟩=some (.map (some nb))∧w'.cell? ⟨w.heap.size,0,none⟩=some (.string x.fr)∧w'.cell? ⟨w.heap.size,1,none⟩=some (.string x.to)∧w'.cell? ⟨w.heap.size,2,none⟩=some q) au ?_
 have hG:=And.intro c2 (And.intro b0 (And.intro b1 b2))
 refine nY (i:=0) (v:=?_) rfl au (fun _ _ _ h=>h) (Or.inl ⟨by rfl,?_⟩) aQ ?_;rotate_left;focus ((intro wq hq;go_split_ands;go_simp);first|done|(with_reducible rfl))
 refine fA (i:=1) (v:=?_) rfl au (fun _ _ _ h=>h) (Or.inl ⟨by rfl,?_⟩) ?_;rotate_left;focus ((intro wq;go_simp);first|done|(with_reducible rfl))
 refine fA (i:=2) (v:=?_) rfl au (fun _ _ _ h=>h) (Or.inl ⟨by rfl,?_⟩) ?_;rotate_left;focus ((intro wq;go_simp);first|done|(with_reducible rfl))
 refine fA (i:=3) (v:=?_) rfl au (fun _ _ _ h=>h) (Or.inl ⟨by rfl,?_⟩) ?_;rotate_left;focus ((intro wq;go_simp);first|done|(with_reducible rfl))
 refine nY (i:=4) (v:=?_) rfl au (fun _ _ _ h=>h) (Or.inl ⟨by rfl,?_⟩) aQ ?_;rotate_left;focus ((intro wq hq;go_split_ands;go_simp);first|done|(with_reducible rfl))
 refine nX (i:=5) rfl au (fun K hK=>?_)
 go_simp
 refine hon.mono ?_
 rintro e w1 ⟨v,rfl,hS1⟩
 refine hK _ _ (.inl rfl) ?_
 clear hK K hG
 refine dD au ?_
 have hS2:=hS1.fG
 have d3:=hS2.cellAt 3 _ rfl
 have b0:=hS1.aZ.cellAt 0 _ rfl
 have b1:=hS1.aZ.cellAt 1 _ rfl
 have b2:=hS1.aZ.cellAt 2 _ rfl
 clear hS2
 go_wp2_with fail
 refine dH [7,8,9,10] (fun w'=>w'.cell? ⟨m,3,none⟩=some wv∧w'.cell? ⟨w.heap.size,0,none⟩=some (.string x.fr)∧w'.cell? ⟨w.heap.size,1,none⟩=some (.string x.to)∧w'.cell? ⟨w.heap.size,2,none⟩=some q) au ?_
 have hG:=And.intro d3 (And.intro b0 (And.intro b1 b2))
 refine fA (i:=0) (v:=?_) rfl au (fun _ _ _ h=>h) (Or.inl ⟨by rfl,?_⟩) ?_;rotate_left;focus ((intro wq;go_simp);first|done|(with_reducible rfl))
 refine fA (i:=1) (v:=?_) rfl au (fun _ _ _ h=>h) (Or.inl ⟨by rfl,?_⟩) ?_;rotate_left;focus ((intro wq;go_simp);first|done|(with_reducible rfl))
 refine fA (i:=2) (v:=?_) rfl au (fun _ _ _ h=>h) (Or.inl ⟨by rfl,?_⟩) ?_;rotate_left;focus ((intro wq;go_simp);first|done|(with_reducible rfl))
 refine fA (i:=3) (v:=?_) rfl au (fun _ _ _ h=>h) (Or.inl ⟨by rfl,?_⟩) ?_;rotate_left;focus ((intro wq;go_simp);first|done|(with_reducible rfl))
 refine nY (i:=4) (v:=?_) rfl au (fun _ _ _ h=>h) (Or.inl ⟨by rfl,?_⟩) aQ ?_;rotate_left;focus ((intro wq hq;go_split_ands;go_simp);first|done|(with_reducible rfl))
 refine nY (i:=5) (v:=?_) rfl au (fun _ _ _ h=>h) (Or.inl ⟨by rfl,?_⟩) aQ ?_;rotate_left;focus ((intro wq hq;go_split_ands;go_simp);first|done|(with_reducible rfl))
 refine nX (i:=6) rfl au (fun K hK=>?_)
 go_simp
 have h7:=hS1.drew.alloc (.cells #[.string x.fr,.string x.to,q] 258)
 have d3:=h7.iZ.cellAt 3 _ rfl
 have b0:=h7.fG.cellAt 0 _ rfl
 have b1:=h7.fG.cellAt 1 _ rfl
 have b2:=h7.fG.cellAt 2 _ rfl
 refine hK _ _ (.inr <| .inl <| And.intro d3 (And.intro b0 (And.intro b1 b2))) ?_
 clear hK K
 refine nX (i:=7) rfl au (fun K hK=>?_)
 refine step_append (w0:=w0) ah _ _ _ ah _ i _ Tryz.underlying106 hi hz0 hz1 ah oQ ah ah hoc (h7.qA) (yH _ _ _ 3 1 1 ah) h63 hby ?_
 intro v2 w2 hS2 hne
 obtain ⟨g2,n2,k2,rfl⟩:=hne (by simp)
 have e3:=hS2.qA.cellAt 3 _ rfl
 have g3:=hS2.qA.nR 3
 have b0:=hS2.iZ.cellAt 0 _ rfl
 have b1:=hS2.iZ.cellAt 1 _ rfl
 have b2:=hS2.iZ.cellAt 2 _ rfl
 refine hK _ _ (.inl rfl) ?_
 clear hK K
 refine fA (i:=8) (v:=?_) rfl au (fun _ _ _ h=>h) (Or.inl ⟨by rfl,?_⟩) ?_;rotate_left;focus ((intro wq;go_simp);first|done|(with_reducible rfl))
 refine fA (i:=9) (v:=?_) rfl au (fun _ _ _ h=>h) (Or.inl ⟨by rfl,?_⟩) ?_;rotate_left;focus ((intro wq;go_simp);first|done|(with_reducible rfl))
 refine nX (i:=10) rfl au (fun K hK=>?_)
 go_simp
 refine hK _ _ (.inl rfl) ?_
 clear hK K
 refine dD au ?_
 go_wp2
 go_end0
 refine ⟨_,rfl,.slice (some ⟨g2,0,none⟩) n2 k2,?_⟩
 have h9:=hS2.qA.set 3 (.slice (some ⟨g2,0,none⟩) n2 k2)
 rw [bH.out]
 unfold ay.link
 simp only [ajj,ai7,aks,afo]
 rw [YU.out]
 exact h9.sel 5 [0,3,1] rfl rfl
end
section
variable {w0 w:World}{F:List aG}{m fb nb b:Nat}{M:ay}{bs:List Nat}{wv v:Value}{s:ByteArray}{l:Bs}
theorem aV (l:Bs):(aA l).length=l.length:=by simp [aA]
theorem tX (l:Bs):∀ u∈aA l,u.oneCell'=true:=by
 intro u hu
 obtain ⟨b,_,rfl⟩:=acK.1 hu
 rfl
theorem xO (l k:Bs):aA (l++k)=aA l++aA k:=by simp [aA]
theorem aaH (l:Bs) (n:Nat):aA (l.take n)=(aA l).take n:=by simp [aA]
theorem tZ (h:Sat w0 w F) (hr:bg 1 v (aA l) w) (hl:l.length≤140737488355328) :
  Calls Tryz.prog 102 #[v] w (aO fun v' w'=>Sat w0 w' (bJ v' l::F)∧∃ a n c,v' = .slice a n c):=by
 obtain ⟨a,n,c,rfl,hn,hc⟩:=hr
 rw [aV,aiw]at hn
 subst hn
 cases a with
 |none=>
  have:l=[]:=by
   cases l with
   |nil=>rfl
   |cons x l=>obtain ⟨b,hb,_⟩:=hc 0 _ rfl;cases hb
  subst this
  refine (Tryz.bytes_Clone_nil 0 c w).mono ?_
  rintro e w1 ⟨rfl,rfl⟩
  exact ⟨_,rfl,Sat.fD.2 h,_,_,_,rfl⟩
 |some a=>
  refine (Tryz.bytes_Clone_at a l.length c (l.map fun b=>(b.toNat:Int)) w (by simp) hl ?_).mono ?_
  ·intro i hi
   obtain ⟨b,hb,hx⟩:=hc i (.int .u8 (l[i]).toNat) (by simp [aA,hi])
   cases hb
   rw [hx]
   simp [hi]
  ·rintro e w1 ⟨v',rfl,ho,hne,hb⟩
   obtain ⟨hlen,hv|⟨g,cap,cur,rfl,hbg,hg,hnc,hcm,hcs,htk⟩⟩:=ho
   ·exact absurd hv.1 hne
   ·refine ⟨_,rfl,?_,_,_,_,rfl⟩
    refine (h.fresh hb.os hb.tape hb.output hb.size hbg hg hb.block).kC ?_ hnc oQ hcm ?_
    ·rw [aV];omega
    ·rw [htk];simp [aA]
def J3 (c:iJ) (bv:Value):Value:= .agg #[.bool c.cut,.int .i64 c.n,bv]
theorem aaN (n:Nat) (bv:Value) (h:Sat w0 w (bJ v l::F)) (hn:n≤l.length) :
  Calls Tryz.prog 257 #[.agg #[.bool true,.int .i64 n,bv],v] w (aO fun v' w'=>Sat w0 w' (bJ v' (l.take n)::F)∧∃ a n c,v' = .slice a n c):=by
 have hb:=(h.alloc (.cells #[.bool true,.int .i64 n,bv] 330))
 have b0:=hb.cellAt 0 _ rfl
 have b1:=hb.cellAt 1 _ rfl
 rcases hb.aZ.jQ with ⟨rfl,hl,h'⟩|⟨g,m,cap,cs,rfl,hl,hm,hc,hcm,htk,hp⟩
 ·have hl0:l=[]:=by simpa [aA] using hl
  subst hl0
  obtain rfl:n=0:=by simpa using hn
  go_enter Tryz.func257,Tryz.ntmps257
  go_wp2
  go_ret
  exact ⟨_,rfl,Sat.fD.2 h'.drop,_,_,_,rfl⟩
 ·rw [aV,aiw]at hl
  subst hl
  have e1:(n:Int)≤(cap:Int):=by omega
  have e0:(0:Int)≤(n:Int):=by omega
  have fB:=uQ htk;clear htk
  have hfin:Sat w0 (w.alloc (.cells #[.bool true,.int .i64 n,bv] 330)) (bJ (.slice (some ⟨g,0,none⟩) n n) (l.take n)::F):=by
   refine (hp.aZ.drop).kC ?_ (acy _) oQ oQ ?_
   ·rw [aV,acJ];omega
   ·rw [aaH,← fB.out];simp [List.take_take,alh hn]
  go_enter Tryz.func257,Tryz.ntmps257
  go_wp2
  go_ret
  exact ⟨_,rfl,hfin,_,_,_,rfl⟩
theorem rX:∃ i:TypeInfo,Tryz.prog.info? 5=some i∧i.zero=some (.int .u8 0)∧i.size=1∧i.bytes=1:=by
 obtain ⟨i,hi,hz0,hz1,hz2⟩:=info_parts info8
 exact ⟨i,hi,hz0,hz1,hz2⟩
theorem aaL (n:Int) (bv:Value) (cb:Bs) (h:Sat w0 w (bJ v l::F)) (hr:Ro w0 F (bg 1 bv (aA cb))) (hl:l.length+cb.length≤140737488355328) (hbv:∃ a n c,bv = .slice a n c) :
  Calls Tryz.prog 257 #[.agg #[.bool false,.int .i64 n,bv],v] w (aO fun v' w'=>Sat w0 w' (bJ v' (l++cb)::F)∧∃ a n c,v' = .slice a n c):=by
 obtain ⟨i,hi,hz0,hz1,hz2⟩:=rX
 have hb:=(h.alloc (.cells #[.bool false,.int .i64 n,bv] 330))
 have b0:=hb.cellAt 0 _ rfl
 have b2:=hb.cellAt 2 _ rfl
 have hcl:=tZ hb.drew hb.drew.aZ.rd oQ
 have h63:(aA l).length+(aA cb).length≤maxLen:=by rw [aV,aV];unfold maxLen;omega
 have hby:((aA l).length+(aA cb).length) * i.bytes≤140737488355328:=by rw [aV,aV,hz2];omega
 obtain ⟨ba,bn,bc,rfl⟩:=hbv
 go_enter Tryz.func257,Tryz.ntmps257
 go_wp2_with fail
 refine dH [4,5] (fun w'=>w'.cell? ⟨w.heap.size,2,none⟩=some (.slice ba bn bc)) au ?_
 refine fA (i:=0) (v:=?_) rfl au (fun _ _ _ h=>h) (Or.inl ⟨by rfl,?_⟩) ?_;rotate_left;focus ((intro wq;go_simp);first|done|(with_reducible rfl))
 refine fA (i:=2) (v:=?_) rfl au (fun _ _ _ h=>h) (Or.inl ⟨by rfl,?_⟩) ?_;rotate_left;focus ((intro wq;go_simp);first|done|(with_reducible rfl))
 refine nY (i:=3) (v:=?_) rfl au (fun _ _ _ h=>h) (Or.inl ⟨by rfl,?_⟩) aQ ?_;rotate_left;focus ((intro wq hq;go_split_ands;go_simp);first|done|(with_reducible rfl))
 refine nX (i:=1) rfl au (fun K hK=>?_)
 go_simp
 refine hcl.mono ?_
 rintro e w1 ⟨v1,rfl,hS1,a1,n1,c1,rfl⟩
 have b2:=hS1.aZ.cellAt 2 _ rfl
 refine hK _ _ (.inr (.inl b2)) ?_
 clear hK K
 refine nX (i:=4) rfl au (fun K hK=>?_)
 refine step_append (w0:=w0) ah _ _ _ ah _ i _ Tryz.underlying36 hi hz0 hz1 ah oQ ah ah (tX cb) hS1 (hr _ hS1.drop.drop.drop) h63 hby ?_
 intro v2 w2 hS2 _
 refine hK _ _ (.inl rfl) ?_
 clear hK K
 refine fA (i:=5) (v:=?_) rfl au (fun _ _ _ h=>h) (Or.inl ⟨by rfl,?_⟩) ?_;rotate_left;focus ((intro wq;go_simp);first|done|(with_reducible rfl))
 refine dD au ?_
 go_wp2
 go_ret
 have h9:=hS2.sel 3 [0] rfl rfl
 have hsh:=hS2.rd
 obtain ⟨a2,n2,c2,rfl,_⟩:=hsh
 refine ⟨_,rfl,?_,_,_,_,rfl⟩
 unfold bJ
 rw [xO]
 exact h9
end
section
variable {w0 w:World}{F:List aG}{m fb nb b:Nat}{M:ay}{bs:List Nat}{wv v bv:Value}{s:ByteArray}{l:Bs}{f:bC}
def Qu (c:iJ) (l:Bs):Prop:=(c.cut=true→c.n≤l.length)∧(c.cut=false→l.length+c.b.length≤140737488355328)
theorem aaM (c:iJ) (h:Sat w0 w (bJ v l::F)) (hr:Ro w0 F (bg 1 bv (aA c.b))) (hbv:∃ a n c,bv = .slice a n c) (hc:Qu c l) :
  Calls Tryz.prog 257 #[J3 c bv,v] w (aO fun v' w'=>Sat w0 w' (bJ v' (c.on l)::F)∧∃ a n c,v' = .slice a n c):=by
 obtain ⟨cut,n,cb⟩:=c
 cases cut
 ·exact aaL n bv cb h hr (hc.2 rfl) hbv
 ·exact aaN n bv h (hc.1 rfl)
theorem JV (h:Sat w0 w (bJ v l::F)):∃ a n c,v = .slice a n c:=by
 obtain ⟨a,n,c,rfl,_⟩:=h.rd
 exact ⟨a,n,c,rfl⟩
theorem Ro.bJ {R:List aG} (v:Value) (l:Bs):Ro w0 (bJ v l::R) (bg 1 v (aA l)):=fun w hw=>hw.rd
theorem adC:(Tryz.prog.info? 330).map (fun i=>(i.zero,i.size,i.bytes))=some (some (.agg #[.bool false,.int .i64 0,.slice none 0 0]),3,40):=by kernel_rfl
theorem aaO (ws:List (iJ×Value)) (p:iJ×Value):rH (ws++[p])=star (rH ws) (bJ p.2 p.1.b):=by
 unfold rH
 rw [aey,pK]
 simp [Ak]
theorem abj {fv nv:Value}{ws:List (iJ×Value)} (c:iJ) (h:Sat w0 w (Az b f fv nv wv ws++bJ bv c.b::F)) (hws:ws.map (·.1)=f.waits) (hc:Qu c f.now) (hw:f.waits.length≤1099511627776) :
  Calls Tryz.prog 216 #[ptr b,J3 c bv] w (aO fun _ w'=>Sat w0 w' (jT b (f.do c)::F)):=by
 obtain ⟨i,hi,hz0,hz1,hz2⟩:=info_parts adC
 obtain ⟨ba,bn,bc,rfl⟩:=JV (h.sel 6 [5] rfl rfl)
 have hb:=h.alloc (.cells #[.bool c.cut,.int .i64 c.n,.slice ba bn bc] 330)
 have hb':Sat w0 _ (bJ nv f.now::bJ (.slice ba bn bc) c.b::pt w.heap.size _::zA b fv nv wv::bJ fv f.fast::aC 330 3 wv (ws.flatMap tY)::rH ws::F):=hb.sel 7 [3,6,0,1,2,4,5] rfl rfl
 have hon:=aaM c hb'.drew (Ro.bJ _ _) ⟨_,_,_,rfl⟩ hc
 obtain ⟨na,nn,nc,rfl⟩:=JV hb'
 have b0:=hb.cellAt 0 _ rfl
 have b1:=hb.cellAt 1 _ rfl
 have b2:=hb.cellAt 2 _ rfl
 have c1:=hb.aZ.cellAt 1 _ rfl
 have hoc:∀ u∈(#[.bool c.cut,.int .i64 c.n,.slice ba bn bc]:Array Value).toList,u.oneCell'=true:=by
  intro u hu
  simp only [aer,ajU,alb]at hu
  rcases hu with rfl|rfl|rfl <;> rfl
 have hwl:ws.length=f.waits.length:=by rw [← hws];simp
 have hlen:(ws.flatMap tY).length=f.waits.length * 3:=by
  rw [List.length_flatMap,← hwl];simp [tY,List.map_const']
 have h63:(ws.flatMap tY).length+3≤maxLen:=by unfold maxLen;omega
 have hby:((ws.flatMap tY).length+3) * i.bytes≤140737488355328:=by rw [hz2];omega
 have Hlen:=uQ hlen;clear hlen
 have Hws:=uQ hws;clear hws
 have Hwl:=uQ hwl;clear hwl
 unfold J3 at *
 go_enter Tryz.func216,Tryz.ntmps216
 go_wp2_with fail
 refine dH [6,7,8,9] (fun w'=>w'.cell? ⟨b,1,none⟩=some (.slice na nn nc)∧w'.cell? ⟨w.heap.size,0,none⟩=some (.bool c.cut)∧w'.cell? ⟨w.heap.size,1,none⟩=some (.int .i64 c.n)∧w'.cell? ⟨w.heap.size,2,none⟩=some (.slice ba bn bc)) au ?_
 have hG:=And.intro c1 (And.intro b0 (And.intro b1 b2))
 refine fA (i:=0) (v:=?_) rfl au (fun _ _ _ h=>h) (Or.inl ⟨by rfl,?_⟩) ?_;rotate_left;focus ((intro wq;go_simp);first|done|(with_reducible rfl))
 refine nY (i:=1) (v:=?_) rfl au (fun _ _ _ h=>h) (Or.inl ⟨by rfl,?_⟩) aQ ?_;rotate_left;focus ((intro wq hq;go_split_ands;go_simp);first|done|(with_reducible rfl))
 refine fA (i:=2) (v:=?_) rfl au (fun _ _ _ h=>h) (Or.inl ⟨by rfl,?_⟩) ?_;rotate_left;focus ((intro wq;go_simp);first|done|(with_reducible rfl))
 refine fA (i:=3) (v:=?_) rfl au (fun _ _ _ h=>h) (Or.inl ⟨by rfl,?_⟩) ?_;rotate_left;focus ((intro wq;go_simp);first|done|(with_reducible rfl))
 refine fA (i:=4) (v:=?_) rfl au (fun _ _ _ h=>h) (Or.inl ⟨by rfl,?_⟩) ?_;rotate_left;focus ((intro wq;go_simp);first|done|(with_reducible rfl))
 refine nY (i:=5) (v:=?_) rfl au (fun _ _ _ h=>h) (Or.inl ⟨by rfl,?_⟩) aQ ?_;rotate_left;focus ((intro wq hq;go_split_ands;go_simp);first|done|(with_reducible rfl))
 refine nX (i:=6) rfl au (fun K hK=>?_)
 go_simp
 refine hon.mono ?_
 rintro e w1 ⟨v1,rfl,hS1,a1,n1,k1,rfl⟩
 refine hK _ _ (.inl rfl) ?_
 clear hK K
 refine fA (i:=7) (v:=?_) rfl au (fun _ _ _ h=>h) (Or.inl ⟨by rfl,?_⟩) ?_;rotate_left;focus ((intro wq;go_simp);first|done|(with_reducible rfl))
 refine fA (i:=8) (v:=?_) rfl au (fun _ _ _ h=>h) (Or.inl ⟨by rfl,?_⟩) ?_;rotate_left;focus ((intro wq;go_simp);first|done|(with_reducible rfl))
 have d1:=hS1.iZ.cellAt 1 _ rfl
 have g1:=hS1.iZ.nR 1
 refine nX (i:=9) rfl au (fun K hK=>?_)
 go_simp
 refine hK _ _ (.inl rfl) ?_
 clear hK K hG
 refine dD au ?_
 have hS2:=hS1.iZ.set 1 (.slice a1 n1 k1)
 generalize w1.setCell _ _=w2 at *
 clear d1 g1
 have d2:=hS2.cellAt 2 _ rfl
 have b0:=hS2.iZ.cellAt 0 _ rfl
 have b1:=hS2.iZ.cellAt 1 _ rfl
 have b2:=hS2.iZ.cellAt 2 _ rfl
 go_wp2_with fail
 refine dH [7,8,9,10] (fun w'=>w'.cell? ⟨b,2,none⟩=some wv∧w'.cell? ⟨w.heap.size,0,none⟩=some (.bool c.cut)∧w'.cell? ⟨w.heap.size,1,none⟩=some (.int .i64 c.n)∧w'.cell? ⟨w.heap.size,2,none⟩=some (.slice ba bn bc)) au ?_
 have hG:=And.intro d2 (And.intro b0 (And.intro b1 b2))
 refine fA (i:=0) (v:=?_) rfl au (fun _ _ _ h=>h) (Or.inl ⟨by rfl,?_⟩) ?_;rotate_left;focus ((intro wq;go_simp);first|done|(with_reducible rfl))
 refine fA (i:=1) (v:=?_) rfl au (fun _ _ _ h=>h) (Or.inl ⟨by rfl,?_⟩) ?_;rotate_left;focus ((intro wq;go_simp);first|done|(with_reducible rfl))
 refine fA (i:=2) (v:=?_) rfl au (fun _ _ _ h=>h) (Or.inl ⟨by rfl,?_⟩) ?_;rotate_left;focus ((intro wq;go_simp);first|done|(with_reducible rfl))
 refine fA (i:=3) (v:=?_) rfl au (fun _ _ _ h=>h) (Or.inl ⟨by rfl,?_⟩) ?_;rotate_left;focus ((intro wq;go_simp);first|done|(with_reducible rfl))
 refine nY (i:=4) (v:=?_) rfl au (fun _ _ _ h=>h) (Or.inl ⟨by rfl,?_⟩) aQ ?_;rotate_left;focus ((intro wq hq;go_split_ands;go_simp);first|done|(with_reducible rfl))
 refine nY (i:=5) (v:=?_) rfl au (fun _ _ _ h=>h) (Or.inl ⟨by rfl,?_⟩) aQ ?_;rotate_left;focus ((intro wq hq;go_split_ands;go_simp);first|done|(with_reducible rfl))
 refine nX (i:=6) rfl au (fun K hK=>?_)
 go_simp
 have h7:=hS2.drew.alloc (.cells #[.bool c.cut,.int .i64 c.n,.slice ba bn bc] 330)
 have d2:=h7.aZ.cellAt 2 _ rfl
 have b0:=h7.qA.cellAt 0 _ rfl
 have b1:=h7.qA.cellAt 1 _ rfl
 have b2:=h7.qA.cellAt 2 _ rfl
 refine hK _ _ (.inr <| .inl <| And.intro d2 (And.intro b0 (And.intro b1 b2))) ?_
 clear hK K
 have h8:Sat w0 _ (aC 330 3 wv (ws.flatMap tY)::zA b fv (.slice a1 n1 k1) wv::bJ (.slice a1 n1 k1) (c.on f.now)::bJ (.slice ba bn bc) c.b::bJ fv f.fast::rH ws::pt w.heap.size _::F):=h7.sel 8 [6,1,2,3,5,7,4] rfl rfl
 refine nX (i:=7) rfl au (fun K hK=>?_)
 refine step_append (w0:=w0) ah _ _ _ ah _ i _ Tryz.underlying190 hi hz0 hz1 ah oQ ah ah hoc h8 (yH _ _ _ 3 1 1 ah) h63 hby ?_
 intro v2 w3 hS3 hne
 obtain ⟨g2,n2,k2,rfl⟩:=hne (by simp)
 have e2:=hS3.aZ.cellAt 2 _ rfl
 have g3:=hS3.aZ.nR 2
 have b0:=(hS3.sel 7 [6] rfl rfl).cellAt 0 _ rfl
 have b1:=(hS3.sel 7 [6] rfl rfl).cellAt 1 _ rfl
 have b2:=(hS3.sel 7 [6] rfl rfl).cellAt 2 _ rfl
 refine hK _ _ (.inl rfl) ?_
 clear hK K
 refine fA (i:=8) (v:=?_) rfl au (fun _ _ _ h=>h) (Or.inl ⟨by rfl,?_⟩) ?_;rotate_left;focus ((intro wq;go_simp);first|done|(with_reducible rfl))
 refine fA (i:=9) (v:=?_) rfl au (fun _ _ _ h=>h) (Or.inl ⟨by rfl,?_⟩) ?_;rotate_left;focus ((intro wq;go_simp);first|done|(with_reducible rfl))
 refine nX (i:=10) rfl au (fun K hK=>?_)
 go_simp
 refine hK _ _ (.inl rfl) ?_
 clear hK K
 refine dD au ?_
 go_wp2
 go_end0
 refine ⟨_,rfl,?_⟩
 have h9:=hS3.aZ.set 2 (.slice (some ⟨g2,0,none⟩) n2 k2)
 refine jT.shut (fv:=fv) (nv:= .slice a1 n1 k1) (wv:= .slice (some ⟨g2,0,none⟩) n2 k2) (ws:=ws++[(c,.slice ba bn bc)]) ?_ ?_
 ·rw [aey,Hws.out];rfl
 ·have h10:Sat w0 _ (bJ (.slice ba bn bc) c.b::rH ws::zA b fv (.slice a1 n1 k1) (.slice (some ⟨g2,0,none⟩) n2 k2)::bJ fv f.fast::bJ (.slice a1 n1 k1) (c.on f.now)::aC 330 3 (.slice (some ⟨g2,0,none⟩) n2 k2) (ws.flatMap tY++[.bool c.cut,.int .i64 c.n,.slice ba bn bc])::F):=h9.sel 7 [3,5,0,4,2,1] rfl rfl
  have h11:=Sat.star.2 h10.aZ
  rw [← aaO ws (c,.slice ba bn bc)]at h11
  unfold Az
  rw [ajj]
  simp only [ai7,aks,afo,tY]
  exact h11.sel 5 [1,2,3,4,0] rfl rfl
end
section
variable {w:World}{s:ByteArray}
theorem acB (c:UInt8):mM c=decide ((97≤(c.toNat:Int)∧(c.toNat:Int)≤122)∨(48≤(c.toNat:Int)∧(c.toNat:Int)≤57)∨(c.toNat:Int)=46∨(c.toNat:Int)=45):=by
 rw [akJ]
 have e1:∀ k:UInt8,(c==k)=decide (c.toNat=k.toNat):=fun k=>by
  rw [akJ];simp [UInt8.toNat_inj]
 simp only [mM,Bool.or_eq_true,ajc,adN,UInt8.le_iff_toNat_le,e1]
 simp only [UInt8.reduceToNat]
 omega
theorem ZV (l:List UInt8) (k:Nat) (h:k<l.length):(l.take (k+1)).all mM=((l.take k).all mM && mM l[k]):=by
 rw [ajQ h,ajZ];simp
theorem SE (s:ByteArray) (w:World) (hs:s.size≤9223372036854775807) :
  Calls Tryz.prog 217 #[.string s] w (aO fun v w'=>v = .bool (good s)∧w=w'):=by
 go_enter Tryz.func217,Tryz.ntmps217
 by_cases h1:(s.size:Int)<1
 ·go_wp2
  go_ret
  exact ⟨.bool false,rfl,by rw [show good s=false from by unfold good;simp;omega],rfl⟩
 by_cases h2:24<(s.size:Int)
 ·have h1':decide ((s.size:Int)<1)=false:=by simpa using h1
  go_wp2
  go_ret
  exact ⟨.bool false,rfl,by rw [show good s=false from by unfold good;simp;omega],rfl⟩
 have h1':decide ((s.size:Int)<1)=false:=by simpa using h1
 have h2':decide (24<(s.size:Int))=false:=by simpa using h2
 go_wp2
 go_loop [15] (fun i=>∃ k:Nat,k≤s.size∧i = .int .i64 k∧(s.data.toList.take k).all mM=true) (fun i=>s.size - (intOf i).toNat)
 case atStart=>exact ⟨0,afm _,rfl,by simp⟩
 case round=>
  obtain ⟨k,hk,rfl,hall⟩:=hrel
  have sU:=uQ hall;clear hall
  by_cases hlt:k<s.size
  ·have Hc:=uQ (acB s[k])
   have Hn:=uQ (ZV s.data.toList k (by simpa using hlt))
   have hcls:(s[k].toNat:Int)≤44∨(s[k].toNat:Int)=45∨(s[k].toNat:Int)=46∨(s[k].toNat:Int)=47∨(48≤(s[k].toNat:Int)∧(s[k].toNat:Int)≤57)∨(58≤(s[k].toNat:Int)∧(s[k].toNat:Int)≤96)∨(97≤(s[k].toNat:Int)∧(s[k].toNat:Int)≤122)∨123≤(s[k].toNat:Int):=by omega
   have hbad:mM s[k]=false→good s=false:=by
    intro hgc
    unfold good
    have:s.data.toList.all mM=false:=by
     rw [List.all_eq_false]
     exact ⟨s[k],by exact alo (by simpa using hlt),by simpa using hgc⟩
    rw [this];simp
   have sV:=uQ hbad;clear hbad
   have hgd:mM s[k]=true→(s.data.toList.take (k+1)).all mM=true:=by
    intro hgc
    rw [Hn.out,sU.out]
    exact hgc
   have Ed:=uQ hgd;clear hgd
   rcases hcls with g1|g1|g1|g1|⟨g1,g2⟩|⟨g1,g2⟩|⟨g1,g2⟩|g1
   ·have JM:((s[k].toNat:Int)==46)=false:=by rw [adW];omega
    have JL:((s[k].toNat:Int)==45)=false:=by rw [adW];omega
    go_wp2
    go_ret
    exact ⟨.bool false,rfl,by rw [sV.out (by rw [Hc.out];simp;omega)],rfl⟩
   ·go_wp2
    go_round
    case rel=>exact ⟨k+1,by omega,by go_num,Ed.out (by rw [Hc.out];simp;omega)⟩
    case measure=>simp [intOf];omega
   ·go_wp2
    go_round
    case rel=>exact ⟨k+1,by omega,by go_num,Ed.out (by rw [Hc.out];simp;omega)⟩
    case measure=>simp [intOf];omega
   ·have JM:((s[k].toNat:Int)==46)=false:=by rw [adW];omega
    have JL:((s[k].toNat:Int)==45)=false:=by rw [adW];omega
    go_wp2
    go_ret
    exact ⟨.bool false,rfl,by rw [sV.out (by rw [Hc.out];simp;omega)],rfl⟩
   ·go_wp2
    go_round
    case rel=>exact ⟨k+1,by omega,by go_num,Ed.out (by rw [Hc.out];simp;omega)⟩
    case measure=>simp [intOf];omega
   ·have b57:decide ((s[k].toNat:Int)≤57)=false:=by simp;omega
    have JM:((s[k].toNat:Int)==46)=false:=by rw [adW];omega
    have JL:((s[k].toNat:Int)==45)=false:=by rw [adW];omega
    go_wp2
    go_ret
    exact ⟨.bool false,rfl,by rw [sV.out (by rw [Hc.out];simp;omega)],rfl⟩
   ·go_wp2
    go_round
    case rel=>exact ⟨k+1,by omega,by go_num,Ed.out (by rw [Hc.out];simp;omega)⟩
    case measure=>simp [intOf];omega
   ·have ajh:decide ((s[k].toNat:Int)≤122)=false:=by simp;omega
    have b57:decide ((s[k].toNat:Int)≤57)=false:=by simp;omega
    have JM:((s[k].toNat:Int)==46)=false:=by rw [adW];omega
    have JL:((s[k].toNat:Int)==45)=false:=by rw [adW];omega
    go_wp2
    go_ret
    exact ⟨.bool false,rfl,by rw [sV.out (by rw [Hc.out];simp;omega)],rfl⟩
  ·go_wp2
   go_ret
   refine ⟨.bool true,rfl,?_,rfl⟩
   have:k=s.size:=by omega
   subst this
   have:=sU.out
   rw [aeb (by simp)]at this
   rw [show good s=true from by unfold good;simp only [this];simp;omega]
end
end Go.Proofs.YtiglchkhikciiaaGreatDoor
namespace Go.ay
structure bC.Ok (K:Nat) (f:bC):Prop where
 now:f.now=f.at f.waits.length
 cuts:∀ k c,f.waits[k]?=some c→c.cut=true→c.n≤(f.at k).length
 size:∀ k,k≤f.waits.length→(f.at k).length≤16777216
 budget:f.waits.length≤K
theorem bC.Ew (f:bC) (c:iJ) (k:Nat) (h:k≤f.waits.length):(f.do c).at k=f.at k:=by
 unfold bC.at bC.do
 simp only
 rw [ajb h]
theorem bC.xM (f:bC) (k:Nat) (c:iJ) (h:f.waits[k]?=some c):f.at (k+1)=c.on (f.at k):=by
 unfold bC.at
 obtain ⟨hlt,rfl⟩:=abl.1 h
 rw [ajQ hlt,ak1]
 rfl
theorem bC.Qb (f:bC) (c:iJ) (hn:f.now=f.at f.waits.length):(f.do c).at (f.waits.length+1)=c.on f.now:=by
 rw [bC.xM _ _ c (by simp [bC.do]),bC.Ew _ _ _ (acy _),hn]
theorem bC.Ok.su {K:Nat}{f:bC} (h:f.Ok K):f.now.length≤16777216:=by
 rw [h.now];exact h.size _ (acy _)
theorem bC.Ok.mono {K K':Nat}{f:bC} (h:f.Ok K) (hk:K≤K'):f.Ok K':=⟨h.now,h.cuts,h.size,adr h.budget hk⟩
theorem bC.Ok.new (K:Nat):bC.new.Ok K:=⟨rfl,by simp [bC.new],by simp [bC.new,bC.at],by simp [bC.new]⟩
theorem bC.Ok.do {K:Nat}{f:bC} (h:f.Ok K) (c:iJ) (h1:c.cut=true→c.n≤f.now.length) (h2:c.cut=false→f.now.length+c.b.length≤16777216):(f.do c).Ok (K+1):=by
 have hw:(f.do c).waits.length=f.waits.length+1:=by simp [bC.do]
 refine ⟨?_,?_,?_,by rw [hw];exact Nat.succ_le_succ h.budget⟩
 ·rw [hw,f.Qb c h.now];rfl
 ·intro k c' hk hc
  simp only [bC.do]at hk
  rcases akT k f.waits.length with hlt|rfl|hgt
  ·rw [adV hlt]at hk
   rw [f.Ew c k (Nat.le_of_lt hlt)]
   exact h.cuts k c' hk hc
  ·rw [adQ (acy _),akb]at hk
   simp at hk;subst hk
   rw [f.Ew c _ (acy _),← h.now];exact h1 hc
  ·rw [adQ (Nat.le_of_lt hgt)]at hk
   have:k - f.waits.length≠0:=by omega
   obtain ⟨j,hj⟩:∃ j,k - f.waits.length=j+1:=⟨k - f.waits.length - 1,by omega⟩
   rw [hj]at hk;simp at hk
 ·intro k hk
  rw [hw]at hk
  rcases akf k (f.waits.length+1) with hlt|hge
  ·rw [f.Ew c k oQ];exact h.size k oQ
  ·obtain rfl:k=f.waits.length+1:=by omega
   rw [f.Qb c h.now]
   unfold iJ.on
   cases hc:c.cut
   ·simpa using h2 hc
   ·simp;have:=h.su;omega
theorem bC.Ok.sync {K:Nat}{f:bC} (h:f.Ok K):f.sync.Ok K:=
 ⟨rfl,by simp [bC.sync],(by simp only [bC.sync,bC.at];intro k _;simpa using h.su),by simp [bC.sync]⟩
def lS (l:Names):Prop:=l.Pairwise fun a b=>lt a.1 b.1=true
theorem lt_trans {a b c:ByteArray} (h:lt a b=true) (k:lt b c=true):lt a c=true:=by
 simp only [lt,adN]at *;exact alD h k
theorem lt_irrefl (a:ByteArray):lt a a=false:=by simp [lt,ak2]
theorem aez {a b:ByteArray} (h:a≠b):lt a b=true∨lt b a=true:=by
 simp only [lt,adN]
 by_cases h1:a.data.toList<b.data.toList
 ·exact .inl h1
 ·right
  have h2:b.data.toList≤a.data.toList:=List.not_lt.1 h1
  rcases List.le_iff_lt_or_eq.1 h2 with h3|h3
  ·exact h3
  ·exfalso;apply h
   obtain ⟨⟨x⟩⟩:=a;obtain ⟨⟨y⟩⟩:=b
   simp at h3;subst h3;rfl
theorem lS.keys {l:Names} (h:lS l):(l.map (·.1)).Nodup:=by
 rw [List.nodup_iff_pairwise_ne,aki]
 refine h.imp fun {a b} hab e=>?_
 rw [e,lt_irrefl]at hab;cases hab
theorem lS.del {l:Names} (h:lS l) (s:ByteArray):lS (fK l s):=h.sublist ak4
theorem lS.ins:∀ {l:Names},lS l→∀ {s:ByteArray} (i:Nat),(∀ p∈l,p.1≠s)→lS (qx l s i)
 |[],_,_,_,_=>List.pairwise_singleton _ _
 |p::l,h,s,i,hs=>by
  unfold qx
  obtain ⟨h1,h2⟩:=akl.1 h
  split
  ·rename_i hlt
   refine akl.2 ⟨fun q hq=>?_,h⟩
   rcases aer.1 hq with rfl|hq
   ·exact hlt
   ·exact lt_trans hlt (h1 q hq)
  ·rename_i hlt
   have hps:lt p.1 s=true:=(aez (hs p (.head _))).resolve_right (by simpa using hlt)
   refine akl.2 ⟨fun q hq=>?_,lS.ins h2 i (fun q hq=>hs q (.tail _ hq))⟩
   have:=(L9 l s i).mem_iff.1 hq
   rcases aer.1 this with rfl|hq
   ·exact hps
   ·exact h1 q hq
theorem lS.put {l:Names} (h:lS l) (s:ByteArray) (i:Nat):lS (jP l s i):=(h.del s).ins i (aeI l s)
structure nO (n:Nat) (l:Names):Prop where
 lF:lS l
 len:l.length≤500
 ids:∀ p∈l,p.2<n
 ne:∀ p∈l,p.1≠ByteArray.empty
theorem nO.mono {n n':Nat}{l:Names} (h:nO n l) (hn:n≤n'):nO n' l:=⟨h.lF,h.len,fun p hp=>Nat.lt_of_lt_of_le (h.ids p hp) hn,h.ne⟩
theorem zJ (l:Names) (s:ByteArray):(fK l s).length≤l.length:=akD _ _
theorem nO.del {n:Nat}{l:Names} (h:nO n l) (s:ByteArray):nO n (fK l s):=
 ⟨h.lF.del s,adr (zJ l s) h.len,fun p hp=>h.ids p (aji.1 hp).1,fun p hp=>h.ne p (aji.1 hp).1⟩
theorem Me (l:Names) (s:ByteArray) (i:Nat):(jP l s i).length=(fK l s).length+1:=(uz l s i).length_eq
theorem nO.put {n:Nat}{l:Names} (h:nO n l) (s:ByteArray) (i:Nat) (hi:i<n) (hl:(fK l s).length<500) (hs:s≠ByteArray.empty):nO n (jP l s i):=by
 refine ⟨h.lF.put s i,by rw [Me];omega,fun p hp=>?_,fun p hp=>?_⟩
 rotate_left
 ·rcases aer.1 ((uz l s i).mem_iff.1 hp) with rfl|hp
  ·exact hs
  ·exact h.ne p (aji.1 hp).1
 rcases aer.1 ((uz l s i).mem_iff.1 hp) with rfl|hp
 ·exact hi
 ·exact h.ids p (aji.1 hp).1
theorem aeJ {l:Names} (hs:lS l){s:ByteArray}{i:Nat} (h:bP l s=some i):(fK l s).length+1=l.length:=by
 have:=(LZ hs.keys (jk h)).length_eq
 simp at this;omega
structure ay.Ok (K:Nat) (m:ay):Prop where
 room:m.room≤16777216
 left:m.left≤9223372036854775807
 links:∀ x∈m.waits,x.to≠ByteArray.empty→x.f<m.files.length
 names:∀ k,k≤m.waits.length→nO m.files.length (m.lC k)
 now:m.now=m.lC m.waits.length
 files:∀ f∈m.files,f.Ok K
 budget:m.waits.length≤K
theorem ay.Ok.fH {K:Nat}{m:ay} (h:m.Ok K):nO m.files.length m.now:=by rw [h.now];exact h.names _ (acy _)
theorem ay.Ok.abT {K:Nat}{m:ay} (h:m.Ok K):nO m.files.length m.fast:=h.names 0 (afm _)
theorem ay.Ok.file {K:Nat}{m:ay} (h:m.Ok K) (i:Nat):(m.file i).Ok K:=by
 unfold ay.file
 rcases akf i m.files.length with hi|hi
 ·rw [adP,aak hi];exact h.files _ (alo hi)
 ·rw [adP,ajH hi];exact bC.Ok.new K
theorem ay.Ok.mono {K K':Nat}{m:ay} (h:m.Ok K) (hk:K≤K'):m.Ok K':=
 ⟨h.room,h.left,h.links,h.names,h.now,fun f hf=>(h.files f hf).mono hk,adr h.budget hk⟩
theorem ay.Ok.new (K room:Nat) (h:room≤16777216):(new room).Ok K:=
 ⟨h,by simp [ay.new],by simp [ay.new],(by intro k _;simp [ay.new,ay.lC];exact ⟨List.Pairwise.nil,by simp,by simp,by simp⟩),by simp [ay.new,ay.lC],by simp [ay.new],by simp [ay.new]⟩
theorem ay.Ok.step {K:Nat}{m:ay} (h:m.Ok K):m.step.1.Ok K:=by
 unfold ay.step
 split
 ·split
  ·exact ⟨h.room,h.left,h.links,h.names,h.now,h.files,h.budget⟩
  ·exact ⟨h.room,adr (Nat.sub_le _ _) h.left,h.links,h.names,h.now,h.files,h.budget⟩
 ·exact h
theorem ay.jv (m:ay):m.step.1.room=m.room∧m.step.1.fast=m.fast∧m.step.1.now=m.now∧m.step.1.files=m.files∧m.step.1.waits=m.waits:=by
 unfold ay.step
 split
 ·split <;> exact ⟨rfl,rfl,rfl,rfl,rfl⟩
 ·exact ⟨rfl,rfl,rfl,rfl,rfl⟩
theorem ay.ad7 (m:ay) (x:gV) (k:Nat) (h:k≤m.waits.length):(m.link x).lC k=m.lC k:=by
 unfold ay.lC ay.link
 simp only
 rw [ajb h]
theorem ay.UA (m:ay) (x:gV) (h:m.now=m.lC m.waits.length):(m.link x).lC (m.waits.length+1)=x.on m.now:=by
 rw [h]
 unfold ay.lC ay.link
 simp only
 rw [aeb (by simp),aeb (acy _),ak1]
 rfl
theorem ay.Ok.link {K:Nat}{m:ay} (h:m.Ok K) (x:gV) (hf:x.to≠ByteArray.empty→x.f<m.files.length) (hn:nO m.files.length (x.on m.now)):(m.link x).Ok (K+1):=by
 have hw:(m.link x).waits.length=m.waits.length+1:=by simp [ay.link]
 refine ⟨h.room,h.left,?_,?_,?_,fun f hf=>(h.files f hf).mono (aj8 _),by rw [hw];exact Nat.succ_le_succ h.budget⟩
 ·intro y hy
  simp only [ay.link,ajk,aiR]at hy
  rcases hy with hy|rfl
  ·exact h.links y hy
  ·exact hf
 ·intro k hk
  rw [hw]at hk
  rcases akf k (m.waits.length+1) with hlt|hge
  ·rw [m.ad7 x k oQ];exact h.names k oQ
  ·obtain rfl:k=m.waits.length+1:=by omega
   rw [m.UA x h.now];exact hn
 ·rw [hw,m.UA x h.now];rfl
theorem ay.Ok.gZ {K:Nat}{m:ay} (h:m.Ok K) (i:Nat) (f:bC) (hf:f.Ok (K+1)):(m.gZ i f).Ok (K+1):=by
 have hl:(m.gZ i f).files.length=m.files.length:=by simp [ay.gZ]
 refine ⟨h.room,h.left,(by rw [hl];exact h.links),(by rw [hl];exact h.names),h.now,?_,Nat.le_succ_of_le h.budget⟩
 intro g hg
 rcases akw hg with hg|rfl
 ·exact (h.files g hg).mono (aj8 _)
 ·exact hf
theorem ay.Ok.aeN {K:Nat}{m:ay} (h:m.Ok K):({ m with files:=m.files++[bC.new] }:ay).Ok K:=by
 have hl:(m.files++[bC.new]).length=m.files.length+1:=by simp
 refine ⟨h.room,h.left,fun x hx ht=>(by have:=h.links x hx ht;simp only [hl];omega),fun k hk=>(h.names k hk).mono (by simp),h.now,?_,h.budget⟩
 intro f hf
 rcases ajk.1 hf with hf|hf
 ·exact h.files f hf
 ·rw [aiR.1 hf];exact bC.Ok.new K
theorem pI {s:ByteArray} (h:good s=true):s≠ByteArray.empty:=by
 intro e;subst e;simp [good]at h
theorem ay.Ok.create {K:Nat}{m:ay} (h:m.Ok K) (s:ByteArray):(m.create s).1.Ok (K+1):=by
 unfold ay.create
 have h':=h.mono (aj8 K)
 split;· exact h'
 split;· exact h'
 rename_i hg
 split;· exact h'
 rename_i hn
 split;· exact h'
 rename_i hl
 split;· exact h'.step
 have hst:=h.step
 obtain ⟨e1,e2,e3,e4,e5⟩:=m.jv
 have hg':good s=true:=by simpa using hg
 have hn':bP m.now s=none:=by simpa using hn
 have h1:=hst.aeN
 rw [e4]at h1
 refine h1.link _ (fun _=>by simp) ?_
 show nO _ (gV.on _ m.step.1.now)
 rw [e3]
 unfold gV.on
 simp only [akL,abw (pI hg')]
 exact (h.fH.mono (by simp)).put s _ (by simp) (by rw [vW hn'];omega) (pI hg')
theorem UE:∀ (l:List Nat) (n:Nat),n∈l→n≤l.sum
 |[],_,h=>by cases h
 |x::l,n,h=>by
  rcases aer.1 h with rfl|h
  ·simp
  ·have:=UE l n h;simp;omega
theorem ay.Ok.append {K:Nat}{m:ay} (h:m.Ok K) (s:ByteArray) (b:Bs):(m.append s b).1.Ok (K+1):=by
 unfold ay.append
 have h':=h.mono (aj8 K)
 split;· exact h'
 split;· exact h'
 rename_i i hi
 split;· exact h'
 rename_i hroom
 split;· exact h'.step
 refine h.step.gZ _ _ ((h.file i).do _ (by simp) ?_)
 intro _
 have hu:(m.file i).now.length≤m.used:=by
  unfold ay.used
  have:(s,i)∈m.now:=jk hi
  exact UE _ _ (acK.2 ⟨(s,i),this,rfl⟩)
 have:=h.room
 simp only
 omega
theorem ay.Ok.rename {K:Nat}{m:ay} (h:m.Ok K) (s t:ByteArray):(m.rename s t).1.Ok (K+1):=by
 unfold ay.rename
 have h':=h.mono (aj8 K)
 split;· exact h'
 split;· exact h'
 rename_i i hi
 split;· exact h'
 rename_i hg
 split;· exact h'.step
 obtain ⟨e1,e2,e3,e4,e5⟩:=m.jv
 have hg':good t=true:=by simpa using hg
 have hid:i<m.files.length:=h.fH.ids _ (jk hi)
 refine h.step.link _ (fun _=>by rw [e4];exact hid) ?_
 rw [e3,e4]
 unfold gV.on
 simp only [abw (pI hg')]
 have hd:=aeJ h.fH.lF hi
 have hl:=h.fH.len
 have hs:s≠ByteArray.empty:=h.fH.ne _ (jk hi)
 rw [abw hs]
 refine (h.fH.del s).put t i hid ?_ (pI hg')
 have:=zJ (fK m.now s) t
 omega
theorem ay.Ok.remove {K:Nat}{m:ay} (h:m.Ok K) (s:ByteArray):(m.remove s).1.Ok (K+1):=by
 unfold ay.remove
 have h':=h.mono (aj8 K)
 split;· exact h'
 split;· exact h'
 rename_i i hi
 split;· exact h'.step
 obtain ⟨e1,e2,e3,e4,e5⟩:=m.jv
 refine h.step.link _ (fun hh=>absurd rfl hh) ?_
 rw [e3,e4]
 unfold gV.on
 have hs:s≠ByteArray.empty:=h.fH.ne _ (jk hi)
 simp only [akL,abw hs]
 exact h.fH.del s
theorem ay.Ok.sync {K:Nat}{m:ay} (h:m.Ok K) (s:ByteArray):(m.sync s).1.Ok (K+1):=by
 unfold ay.sync
 have h':=h.mono (aj8 K)
 split;· exact h'
 split;· exact h'
 rename_i i hi
 split;· exact h'.step
 exact h.step.gZ _ _ ((h.file i).sync.mono (aj8 _))
theorem ay.Ok.dN {K:Nat}{m:ay} (h:m.Ok K):m.dN.1.Ok K:=by
 unfold ay.dN
 split;· exact h
 split;· exact h.step
 obtain ⟨e1,e2,e3,e4,e5⟩:=m.jv
 have hs:=h.step
 refine ⟨hs.room,hs.left,by simp,?_,?_,hs.files,by simp⟩
 ·intro k _
  show nO _ _
  simp only [ay.lC,List.take_nil,List.foldl_nil]
  rw [e4];exact h.fH
 ·simp only [ay.lC,List.take_nil,List.foldl_nil]
  exact e3
theorem ahP (l:List Nat) (b:Nat) (h:∀ x∈l,x≤b):l.sum≤l.length * b:=by
 induction l with
 |nil=>simp
 |cons x l ih=>
  have h1:=h x (.head _)
  have h2:=ih fun y hy=>h y (.tail _ hy)
  simp only [aln,aja,akt]
  omega
theorem ay.Ok.X3 {K:Nat}{m:ay} (h:m.Ok K):m.used≤8388608000:=by
 unfold ay.used
 have h1:=ahP (m.now.map fun p=>(m.file p.2).now.length) 16777216 (by
  intro x hx
  obtain ⟨p,_,rfl⟩:=acK.1 hx
  exact (h.file p.2).su)
 have:=h.fH.len
 rw [aaJ]at h1
 have:=ajT 16777216 this
 omega
end Go.ay
namespace Go.Proofs.YtiglchkhikciiaaGreatDoor
open Go Go.Sl Go.ay Go.MapKept Go.RowKit
section
variable {w0 w:World}{F:List aG}{m fb nb b r:Nat}{M:ay}{bs:List Nat}{wv v bv:Value}{s:ByteArray}{l:Names}{fs:List bC}
theorem ET (h:Sat w0 w (mG bs fs::F)) (hl:bs.length=fs.length){i:Nat} (hi:i<fs.length) :
  ∃ fa fn fc na nc wv,w.cell? ⟨bs.getD i 0,0,none⟩=some (.slice fa fn fc)∧w.cell? ⟨bs.getD i 0,1,none⟩=some (.slice na (fs.getD i bC.new).now.length nc)∧w.cell? ⟨bs.getD i 0,2,none⟩=some wv ∧
   bg 1 (.slice na (fs.getD i bC.new).now.length nc) (aA (fs.getD i bC.new).now) w∧(fs.getD i bC.new).now.length≤nc∧nc≤9223372036854775807∧(na=none∧nc=0∨∃ g,na=some ⟨g,0,none⟩):=by
 obtain ⟨G,h1,_⟩:=Kv bs fs i hl hi
 rw [h1]at h
 obtain ⟨fv,nv,wv,ws,hws,h⟩:=jT.open (Sat.star.1 h)
 obtain ⟨fa,fn,fc,rfl,_⟩:=(h.sel 2 [1] rfl rfl).rd
 have hN:=h.sel 3 [2] rfl rfl
 have hr:=hN.rd
 rcases Sat.jQ hN with ⟨rfl,hx,_⟩|⟨g,n,cap,cs,rfl,hx,h1,_,h3,_,_⟩
 ·have hx0:(fs.getD i bC.new).now.length=0:=by rw [← aV];exact aje List.length hx
  rw [hx0]
  exact ⟨fa,fn,fc,none,0,wv,h.cellAt 0 _ rfl,h.cellAt 1 _ rfl,h.cellAt 2 _ rfl,hr,acy _,by omega,.inl ⟨rfl,rfl⟩⟩
 ·rw [aV,aiw]at hx
  subst hx
  exact ⟨fa,fn,fc,_,cap,wv,h.cellAt 0 _ rfl,h.cellAt 1 _ rfl,h.cellAt 2 _ rfl,hr,h1,h3,.inr ⟨g,rfl⟩⟩
theorem LV {todo:Names}{k v:Value}{left:List (Value×Value)} (h:(dL bs todo).Perm ((k,v)::left)) :
  ∃ p todo',todo.Perm (p::todo')∧k = .string p.1∧v=ptr (bs.getD p.2 0)∧left.Perm (dL bs todo'):=by
 have hm:(k,v)∈dL bs todo:=h.mem_iff.2 (.head _)
 obtain ⟨p,hp,e⟩:=acK.1 hm
 simp only [Prod.mk.injEq]at e
 obtain ⟨t1,t2,rfl⟩:=List.append_of_mem hp
 have h1:(t1++p::t2).Perm (p::(t1++t2)):=akM
 refine ⟨p,t1++t2,h1,e.1.symm,e.2.symm,?_⟩
 have h2:((k,v)::left).Perm ((k,v)::dL bs (t1++t2)):=by
  refine h.symm.trans ((FK h1).trans ?_)
  show List.Perm ((Value.string p.1,ptr (bs.getD p.2 0))::dL bs (t1++t2)) _
  rw [e.1,e.2]
 exact (List.Perm.cons_inv h2)
def sumOf (M:ay) (l:Names):Nat:=(l.map fun p=>(M.file p.2).now.length).sum
theorem ahO {l l':Names} (h:l.Perm l'):sumOf M l=sumOf M l':=(h.map _).sum_nat
abbrev X0 (m:Nat) (M:ay) (fb nb:Nat) (wv:Value) (bs:List Nat) (F:List aG):List aG:=lW m M fb nb wv::omap .string nb (dL bs M.now)::mG bs M.files::F
theorem aiq (h:Sat w0 w (X0 m M fb nb wv bs F)) (hl:bs.length=M.files.length) (hid:∀ p∈M.now,p.2<M.files.length) (hu:M.used≤9223372036854775807) :
  Calls Tryz.prog 215 #[ptr m] w (aO fun v w'=>v = .int .i64 M.ru∧Sat w0 w' (X0 m M fb nb wv bs F)):=by
 have hd:=xQ h
 have c2:=h.cellAt 2 _ rfl
 cases ho:M.off
 ·rw [ho]at hd
  have Hu:Hid (M.ru=M.used):=by show _=_;unfold ay.ru;rw [ho];rfl
  clear ho
  go_enter Tryz.func215,Tryz.ntmps215
  go_wp2_with (first
   |(go_at_call 106;refine hd.mono ?_;rintro e w1 ⟨v,rfl,rfl,rfl⟩)
   |(at_range;go_must (refine Oz ah _ _ _ _ ah Tryz.underlying105 ah h.aZ ?_);intro r w1 hS))
  go_frame
  go_loopg [3] M.now.length (fun g n wr=>∃ (acc:Nat) (todo:Names) (left:List (Value×Value)),n = .int .i64 acc∧g=todo.length∧left.Perm (dL bs todo)∧(∀ p∈todo,p∈M.now)∧acc+sumOf M todo=M.used ∧
   Sat w0 wr (rng .string nb r (dL bs M.now) left::lW m M fb nb wv::mG bs M.files::F))
  case atStart=>exact ⟨0,M.now,_,rfl,rfl,aky _,fun _ h=>h,by simp [ay.used,sumOf],hS⟩
  case round=>
   obtain ⟨acc,todo,left,rfl,rfl,hleft,hsub,hacc,hS⟩:=hrel
   have IJ:=uQ hacc
   have xG:=uQ hsub
   have hb:acc≤M.used:=by omega
   clear hacc hsub
   go_wp2_with (first
    |(at_next;go_must (refine Oy ah _ ah ah hS ?_ ?_)))
   ·intro hnil
    have Bd:=uQ hnil;clear hnil
    go_wp2
    go_ret
    refine ⟨.int .i64 acc,rfl,?_,?_⟩
    ·have h0:todo=[]:=by
      have:=hleft
      rw [Bd.out]at this
      simpa [dL] using this.symm
     subst h0
     have:=IJ.out
     simp only [sumOf,ajP,List.sum_nil,akc]at this
     rw [Hu.out,this]
    ·exact (hS.Nj).aZ
   ·intro k v left' w1 hp hS1 hen
    obtain ⟨p,todo',hp',rfl,rfl,hl'⟩:=LV (hleft.symm.trans hp)
    have hpi:p.2<M.files.length:=hid p (xG.out p (hp'.mem_iff.2 (.head _)))
    obtain ⟨fa,fn,fc,na,nc,wv',f0,f1,f2,_,_,_,hna⟩:=ET (hS1.sel 3 [2] rfl rfl) hl hpi
    have hsum:Hid (sumOf M todo=(M.file p.2).now.length+sumOf M todo'):=by
     show _=_
     rw [ahO hp'];simp [sumOf]
    have hb2:acc+(M.file p.2).now.length≤M.used:=by
     have h1:=IJ.out
     have h2:=hsum.out
     omega
    have Hp:=uQ hp'
    have Hl:=uQ hl'
    clear hp hp' hl' hleft
    clear hna
    change w1.cell? ⟨bs.getD p.2 0,1,none⟩=some (.slice na (M.file p.2).now.length nc) at f1
    generalize bs.getD p.2 0=q at *
    generalize hL:(M.file p.2).now.length=L at *
    have HL:=uQ hL;clear hL
    go_wp2
    go_roundg todo'.length
    case measure=>have:=Hp.out.length_eq;simp at this;omega
    case rel=>
     refine ⟨acc+L,todo',left',by go_num,rfl,Hl.out,fun x hx=>xG.out x (Hp.out.mem_iff.2 (.tail _ hx)),?_,hS1⟩
     have h1:=IJ.out
     have h2:=hsum.out
     omega
 ·rw [ho]at hd
  have Hu:Hid (M.ru=0):=by show _=_;unfold ay.ru;rw [ho];rfl
  clear ho
  go_enter Tryz.func215,Tryz.ntmps215
  go_wp2_with (go_at_call 106;refine hd.mono ?_;rintro e w1 ⟨v,rfl,rfl,rfl⟩)
  go_ret
  exact ⟨.int .i64 0,rfl,by rw [Hu.out];rfl,h⟩
end
section
variable {w0 w:World}{F:List aG}{m fb nb b r:Nat}{M:ay}{bs:List Nat}{wv v bv:Value}{s:ByteArray}{l:Names}{fs:List bC}
open Go.Sort in
theorem sort_c (ss:List (List UInt8)) (h:Sat w0 w (aC 9 1 v (ss.map encStr)::F)) (hsz:ss.length<4611686018427387904) :
  Calls Tryz.prog 160 #[v] w (aO fun _ w'=>Sat w0 w' (aC 9 1 v ((ss.mergeSort fun x y=>decide (x≤y)).map encStr)::F)):=by
 rcases h.jQ with ⟨rfl,hn,h'⟩|⟨g,n,cap,cs,rfl,hl,hn,hc,hcm,htk,hp⟩
 ·have hn':ss=[]:=by simpa using hn
  subst hn'
  refine (Tryz.slices_Sort_string_none none 0 w).mono ?_
  rintro e w1 ⟨rfl,rfl⟩
  exact ⟨_,rfl,by simpa using h⟩
 ·have hl':n=ss.length:=by simpa using hl.symm
  subst hl'
  rw [aiw]at htk
  refine (Tryz.slices_Sort_string g 0 cap ss w (holds_of_block hp.at htk) hp.lt hsz).mono ?_
  rintro e w1 ⟨rfl,n,os,rfl⟩
  refine ⟨_,rfl,?_⟩
  have hg:=grownBy_sorted (w:=w) (g:=g) (n:=n) (os:=os) (ss.mergeSort fun x y=>decide (x≤y)).toArray
  have:=hp.turn hg.os hg.tape hg.output hg.size (heap_sorted (n:=n) (os:=os) (ss.mergeSort fun x y=>decide (x≤y)).toArray hp.at) (fun i hi hlt=>hg.block i hlt (by simpa using hi))
  refine this.kC (by simp) hn (by simpa [Sort.putCells] using hc) hcm ?_
  have h1:=take_putCells cs (ss.mergeSort fun x y=>decide (x≤y)) (by rw [List.length_mergeSort];omega)
  rw [List.length_mergeSort]at h1
  rw [aiw];exact h1
theorem Q5 (s:ByteArray):encStr s.data.toList = .string s:=by simp [encStr]
theorem ahE {l:Names} (hs:lS l){ks:List ByteArray} (hp:ks.Perm (l.map (·.1))) :
  ((ks.map fun s=>s.data.toList).mergeSort fun x y=>decide (x≤y)).map encStr=l.map fun p=> .string p.1:=by
 have h1:((ks.map fun s=>s.data.toList).mergeSort fun x y=>decide (x≤y))=l.map fun p=>p.1.data.toList:=by
  refine List.Perm.eq_of_pairwise (le:=fun x y=>decide (x≤y)=true) ?_ ?_ ?_ ?_
  ·intro a b _ _ h1 h2
   simp only [adN]at h1 h2
   exact List.le_antisymm h1 h2
  ·refine List.pairwise_mergeSort ?_ ?_ _
   ·intro a b c h1 h2
    simp only [adN]at *
    exact List.le_trans h1 h2
   ·intro a b
    simp only [Bool.or_eq_true,adN]
    exact List.le_total a b
  ·rw [aki]
   refine hs.imp fun {a b} hab=>?_
   simp only [lt,adN]at hab ⊢
   exact List.le_of_lt hab
  ·refine (List.mergeSort_perm _ _).trans ?_
   have:=hp.map fun s:ByteArray=>s.data.toList
   rw [aj9]at this
   exact this
 rw [h1,aj9]
 apply akz
 intro p _
 exact Q5 p.1
theorem adH:(Tryz.prog.info? 9).map (fun i=>(i.zero,i.size,i.bytes))=some (some (.string ByteArray.empty),1,16):=by kernel_rfl
def strs (l:List ByteArray):List Value:=l.map Value.string
theorem ahM (l:List ByteArray):strs l=(l.map fun s=>s.data.toList).map encStr:=by
 unfold strs;rw [aj9];apply akz;intro s _;exact (Q5 s).symm
theorem aeG (h:Sat w0 w (omap .string b (dL bs l)::F)) (hs:lS l) (hl:l.length≤1099511627776) :
  Calls Tryz.prog 107 #[.map (some b)] w (aO fun v w'=>Sat w0 w' (aC 9 1 v (strs (l.map (·.1)))::omap .string b (dL bs l)::F)∧∃ a n c,v = .slice a n c):=by
 obtain ⟨i,hi,hz0,hz1,hz2⟩:=info_parts adH
 have Hs:=uQ hs;clear hs
 go_enter Tryz.func107,Tryz.ntmps107
 go_wp2_with (at_range;go_must (refine Oz ah _ _ _ _ ah Tryz.underlying105 ah h ?_);intro r w1 hS)
 go_frame
 go_loopg [3] l.length (fun g n wr=>∃ (ks:List ByteArray) (todo:Names) (left:List (Value×Value)),g=todo.length∧left.Perm (dL bs todo)∧(ks++todo.map (·.1)).Perm (l.map (·.1)) ∧
   Sat w0 wr (aC 9 1 n (strs ks)::rng .string b r (dL bs l) left::F))
 case atStart=>exact ⟨[],l,_,rfl,aky _,aky _,by unfold strs;exact Sat.fD.2 hS⟩
 case round=>
  obtain ⟨ks,todo,left,rfl,hleft,hperm,hS⟩:=hrel
  have hlen:ks.length+todo.length=l.length:=by have:=hperm.length_eq;simpa using this
  obtain ⟨oa,on,oc,rfl,hoc,_⟩:=hS.rd
  clear hoc
  have AZ:=uQ hleft
  have zf:=uQ hperm
  clear hleft hperm
  go_wp2_with (at_next;go_must (refine Oy ah _ ah ah hS.aZ ?_ ?_))
  ·intro hnil
   have Bd:=uQ hnil;clear hnil
   have h0:todo=[]:=by
    have:=AZ.out
    rw [Bd.out]at this
    simpa [dL] using this.symm
   subst h0
   have hk:ks.Perm (l.map (·.1)):=by simpa using zf.out
   have hsort:=sort_c (ks.map fun s=>s.data.toList) (by rw [← ahM];exact hS) (by simp at hlen ⊢;omega)
   rw [ahE Hs.out hk]at hsort
   have Hk:=uQ hk;clear hk
   go_wp2_with (go_at_call 160;refine hsort.mono ?_;rintro e w2 ⟨v,rfl,hS2⟩)
   go_ret
   refine ⟨_,rfl,?_,_,_,_,rfl⟩
   have h9:=(hS2.aZ.Nj).aZ
   have e1:strs (l.map (·.1))=l.map fun p=>Value.string p.1:=by unfold strs;rw [aj9];rfl
   rw [e1];exact h9
  ·intro k v left' w1 hp hS1 hen
   obtain ⟨p,todo',hp',rfl,rfl,hl'⟩:=LV (AZ.out.symm.trans hp)
   have hlen2:todo.length=todo'.length+1:=by have:=hp'.length_eq;simpa using this
   have Hp:=uQ hp'
   have Hl:=uQ hl'
   clear hp hp' hl'
   have hb1:=hS1.aZ.alloc (.cells #[.string p.1] 9)
   have h63:(strs ks).length+1≤maxLen:=by unfold strs maxLen;rw [aaJ];omega
   have hby:((strs ks).length+1) * i.bytes≤140737488355328:=by unfold strs;rw [aaJ,hz2];omega
   have hoc:∀ u∈(#[.string p.1]:Array Value).toList,u.oneCell'=true:=by
    intro u hu
    simp only [aer,ajU,alb]at hu
    subst hu;rfl
   go_wp2_with (at_builtin;go_must (refine wW (w0:=w0) ah _ _ _ ah _ i _ Tryz.underlying129 hi hz0 hz1 ah oQ ah ah hoc hb1.aZ (yH _ _ _ 1 1 1 ah) h63 hby ?_);intro v2 w2 hS2 hne)
   go_roundg todo'.length
   case measure=>omega
   case rel=>
    refine ⟨ks++[p.1],todo',left',rfl,Hl.out,?_,?_⟩
    ·refine List.Perm.trans ?_ zf.out
     rw [adR]
     exact List.Perm.append_left ks (show List.Perm ((p::todo').map (·.1)) _ from (Hp.out.map (·.1)).symm)
    ·have:strs (ks++[p.1])=strs ks++[.string p.1]:=by simp [strs]
     rw [this]
     exact hS2.sel 3 [0,2] rfl rfl
theorem aaX (h:Sat w0 w (omap .string b (dL bs l)::F)) :
  Calls Tryz.prog 175 #[.map (some b)] w (aO fun v w'=>∃ b',v = .map (some b')∧Sat w0 w' (omap .string b' (dL bs l)::omap .string b (dL bs l)::F)):=by
 have hn:=LU h
 have hmm:=@run_makeMap Tryz.prog
 have h0:=h.F7 .string
 have Hn:=uQ hn;clear hn
 go_enter Tryz.func175,Tryz.ntmps175
 go_wp2_with (at_range;go_must (refine Oz ah _ _ _ _ ah Tryz.underlying105 ah h0.aZ ?_);intro r w1 hS)
 go_frame
 generalize w.heap.size=b' at *
 go_loopg [4,5] l.length (fun g _ _ wr=>∃ (done todo:Names) (left:List (Value×Value)),g=todo.length∧left.Perm (dL bs todo)∧(done++todo).Perm l ∧
   Sat w0 wr (omap .string b' (dL bs done)::rng .string b r (dL bs l) left::F))
 case atStart=>exact ⟨[],l,_,rfl,aky _,aky _,hS.aZ⟩
 case round=>
  obtain ⟨done,todo,left,rfl,hleft,hperm,hS⟩:=hrel
  have AZ:=uQ hleft
  have zf:=uQ hperm
  clear hleft hperm
  go_wp2_with (at_next;go_must (refine Oy ah _ ah ah hS.aZ ?_ ?_))
  ·intro hnil
   have Bd:=uQ hnil;clear hnil
   have h0:todo=[]:=by
    have:=AZ.out
    rw [Bd.out]at this
    simpa [dL] using this.symm
   subst h0
   have hk:done.Perm l:=by simpa using zf.out
   have Hk:=uQ hk;clear hk
   go_wp2
   go_ret
   refine ⟨_,rfl,b',rfl,?_⟩
   exact ((hS.aZ.Nj).aZ).F8 (FK Hk.out)
  ·intro k v left' w1 hp hS1 hen
   obtain ⟨p,todo',hp',rfl,rfl,hl'⟩:=LV (AZ.out.symm.trans hp)
   have hlen2:todo.length=todo'.length+1:=by have:=hp'.length_eq;simpa using this
   have hkey:∀ x∈dL bs done,x.1 ≠ .string p.1:=by
    intro x hx e
    obtain ⟨q,hq,rfl⟩:=acK.1 hx
    simp only [Value.string.injEq]at e
    have h1:=((zf.out.map (·.1)).nodup_iff.2 Hn.out)
    rw [aey,List.nodup_append]at h1
    exact h1.2.2 q.1 (acK.2 ⟨q,hq,rfl⟩) p.1 (acK.2 ⟨p,hp'.mem_iff.2 (.head _),rfl⟩) e
   have hside:(dL bs done).Perm (dL bs done)∧(∀ x∈dL bs done,x.1 ≠ .string p.1)∨∃ v0,(dL bs done).Perm ((.string p.1,v0)::dL bs done):= .inl ⟨aky _,hkey⟩
   have Zt:=uQ hside;clear hside hkey
   have Hp:=uQ hp'
   have Hl:=uQ hl'
   clear hp hp' hl'
   generalize hq:ptr (bs.getD p.2 0)=q at *
   have Hq:=uQ hq;clear hq
   go_wp2_with (at_mapUpdate;go_must (refine OA (key:= .string p.1) ah _ _ _ ah Tryz.underlying105 Tryz.underlying9 ah ah ah trivial hS1.aZ _ Zt.out ?_);intro w2 hS2)
   go_roundg todo'.length
   case measure=>omega
   case rel=>
    refine ⟨p::done,todo',left',rfl,Hl.out,?_,?_⟩
    ·refine List.Perm.trans ?_ zf.out
     exact (akM.symm).trans (List.Perm.append_left done Hp.out.symm)
    ·show Sat w0 _ (omap .string b' ((.string p.1,ptr (bs.getD p.2 0))::dL bs done)::_)
     rw [Hq.out];exact hS2
end
end Go.Proofs.YtiglchkhikciiaaGreatDoor
