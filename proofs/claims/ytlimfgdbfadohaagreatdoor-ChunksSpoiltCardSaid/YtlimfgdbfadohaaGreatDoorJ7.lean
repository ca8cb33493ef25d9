import Derived.Test.YtlimfgdbfadohaaGreatDoorJ6
import Derived.Laws.StructEq
import Derived.Lib.ConvBytes
import Derived.ArgAppend
import Derived.Laws.BitsAllLaws
import Derived.Test.YtlimfgdbfadohaaGreatDoorShelf
set_option linter.unusedVariables false
set_option maxHeartbeats 128000000
namespace Go.Rep
open Go.Frm (Bs)
def runAt (bt:Told) (ns:List Int) (n:Nat):(Flt×Int) ⊕ Nat:=match bad bt (ns.take n) with
 |some x=> .inl x
 |none=> .inr n
def run (bt:Told) (ns:List Int):(Flt×Int) ⊕ Nat:=
 if (split bt ns ns.length).2≠0 then .inl (Flt.zero,(split bt ns ns.length).2) else runAt bt ns (split bt ns ns.length).1
theorem runAt_bad {bt:Told}{ns:List Int}{n:Nat}{x:Flt×Int} (h:bad bt (ns.take n)=some x):runAt bt ns n = .inl x:=by unfold runAt;rw [h]
theorem runAt_none {bt:Told}{ns:List Int}{n:Nat} (h:bad bt (ns.take n)=none):runAt bt ns n = .inr n:=by unfold runAt;rw [h]
def lastOfL (l:List Int):Int:=match l.getLast? with
 |some s=>s
 |none=> -1
theorem newest_mem:∀ {l:List Row}{k:Bs}{r:Row},newest l k=some r→r∈l
 |[],_,_,h=>by cases h
 |x::l,k,r,h=>by
  unfold newest at h
  split at h
  ·rename_i y hy
   cases h
   exact .tail _ (newest_mem hy)
  ·split at h
   ·cases h;exact .head _
   ·cases h
theorem ledger_place {l:List Row}{k:Bs}{a:Abt} (h:ledger l k=some a):∃ r∈l,a.place=rplc r:=by
 unfold ledger at h
 cases hn:newest l k with
 |none=>rw [hn]at h;cases h
 |some r=>rw [hn]at h;cases h;exact ⟨r,newest_mem hn,rfl⟩
theorem rowsOf_take (bt:Told) (ns:List Int) (n:Nat):∀ r∈rowsOf bt (ns.take n),r∈rowsOf bt ns:=fun r hr=>by
 unfold rowsOf at hr ⊢
 obtain ⟨s,hs,h⟩:=List.mem_flatMap.1 hr
 exact List.mem_flatMap.2 ⟨s,List.mem_of_mem_take hs,h⟩
theorem rowsOf_le (bt:Told) (ns:List Int) (n:Nat):(rowsOf bt (ns.take n)).length≤(rowsOf bt ns).length:=by
 have e:rowsOf bt ns=rowsOf bt (ns.take n)++rowsOf bt (ns.drop n):=by
  unfold rowsOf;rw [← List.flatMap_append,List.take_append_drop]
 rw [e,List.length_append];omega
theorem lastOfL_snoc (l:List Int) (s:Int):lastOfL (l++[s])=s:=by unfold lastOfL;rw [List.getLast?_append];rfl
end Go.Rep
namespace Go.Proofs.YtlimfgdbfadohaaGreatDoor
open Go Go.Sl Go.Med Go.MapKept Go.RowKit
section
variable {P:Program}{w0 w:World}{L R:List HProp}{b:Nat}{ops:Array Oper}{a:Act}{Q:Exit→Act→World→Prop}{K:Act→World→Prop}{E:Prop}{dst:Option Tmp}{t ty:TypeId}{pos:String}{after:Array Edge}{y:Operand}{v:Value}{cs:Array Value}
theorem eff_box (hs:Sat w0 w L) (hy:a.eval y=v) (hcs:v.cells=cs)
  (hK:∀ b w',Sat w0 w' (pt b (.cells cs ty (0,0))::L)→K (a.put dst (.pointer (some ⟨b,0,none⟩))) w') :
  if Region.wanted ⟨dst,.box ty y,t,pos,after,none⟩ (yielded ops a.tmps)=true then Oper.wp P ⟨dst,.box ty y,t,pos,after,none⟩ a w K Q else E:=by
 subst hcs
 refine eff_of rfl ?_
 have hS:=hs.alloc (.cells v.cells ty)
 unfold Oper.wp execOp
 have hrun:(Instr.box ty v).run P w = .ok (.pointer (some ⟨w.heap.size,0,none⟩)) (w.alloc (.cells v.cells ty)):=by
  simp [Instr.box,newVar,newRow,go_sem]
 simp only [hy,Sem.run_bind,Sem.run_pure,hrun,Result.andThen_ok]
 exact hK _ _ hS
end
section
variable {w0 w:World}{F R:List HProp}{sv:Value}
theorem tail_c {l:List Int}{n:Nat} (hn:n≤l.length) (h:Sat w0 w (osl 3 1 sv (ints l)::R)) :
  ∃ tv,(∀ w,(Instr.sliceAt 44 sv (some (.int .i64 n)) none none).run Tryz.prog w = .ok tv w)∧(∃ a' c',tv = .slice a' (l.length - n) c')∧∀ W,rdsl 1 sv (ints l) W→rdsl 1 tv (ints (l.drop n)) W:=by
 rcases h.osl_cases with ⟨rfl,he,h'⟩|⟨g,k,cap,cs,rfl,hl,hk,hc,hcm,htk,hp⟩
 ·obtain rfl:l=[]:=by simpa [ints] using he
  obtain rfl:n=0:=by simpa using hn
  refine ⟨.slice none 0 0,fun w=>by go_simp,⟨none,0,rfl⟩,fun W hW=>by simpa using hW⟩
 ·obtain rfl:k=l.length:=by simpa [ints] using hl.symm
  by_cases hce:cap=n
  ·have hd:l.drop n=[]:=List.drop_eq_nil_of_le oQ
   have e0:l.length - n=0:=oQ
   rw [hd,e0]
   have h1:n≤cap:=oQ
   have h2:l.length=n:=oQ
   refine ⟨.slice (some ⟨g,0,none⟩) 0 0,fun w=>?_,⟨_,_,rfl⟩,fun W hW=>⟨_,_,_,rfl,rfl,fun j x hj=>by cases hj⟩⟩
   have h4:(0:Int)≤(n:Int):=oQ
   have h5:(n:Int).toNat=n:=oQ
   subst hce
   go_simp
  ·refine ⟨.slice (some ⟨g,n,none⟩) (l.length - n) (cap - n),fun w=>?_,⟨_,_,rfl⟩,fun W hW=>?_⟩
   ·have h4:(0:Int)≤(n:Int):=by omega
    have h5:(n:Int).toNat=n:=oQ
    have h6:n≤cap:=oQ
    go_simp
   ·obtain ⟨a,n',c,he,hl',hx⟩:=hW
    cases he
    refine ⟨_,_,_,rfl,by unfold ints;rw [List.length_map,List.length_drop,Nat.mul_one],fun j x hj=>⟨_,rfl,?_⟩⟩
    have hj2:(ints l)[n+j]?=some x:=by
     unfold ints at hj ⊢
     rw [List.map_drop,List.getElem?_drop]at hj
     exact hj
    obtain ⟨ad,e,hc'⟩:=hx (n+j) x hj2
    cases e
    rw [adr_add,Nat.zero_add]at hc'
    rw [adr_add]
    exact hc'
theorem head_c {l:List Int}{n:Nat} (hn:n≤l.length) (h:Sat w0 w (osl 3 1 sv (ints l)::R)) :
  ∃ a' c',(∀ w,(Instr.sliceAt 44 sv none (some (.int .i64 n)) none).run Tryz.prog w = .ok (.slice a' n c') w)∧∀ W,rdsl 1 sv (ints l) W→rdsl 1 (.slice a' n c') (ints (l.take n)) W:=by
 rcases h.osl_cases with ⟨rfl,he,h'⟩|⟨g,k,cap,cs,rfl,hl,hk,hc,hcm,htk,hp⟩
 ·obtain rfl:l=[]:=by simpa [ints] using he
  obtain rfl:n=0:=by simpa using hn
  refine ⟨none,0,fun w=>by go_simp,fun W hW=>by simpa using hW⟩
 ·obtain rfl:k=l.length:=by simpa [ints] using hl.symm
  refine ⟨some ⟨g,0,none⟩,cap,fun w=>?_,fun W hW=>?_⟩
  ·have h4:(0:Int)≤(n:Int):=by omega
   have h5:(n:Int).toNat=n:=oQ
   have h6:n≤cap:=oQ
   go_simp
  ·obtain ⟨a,n',c,he,hl',hx⟩:=hW
   cases he
   refine ⟨_,_,_,rfl,by unfold ints;rw [List.length_map,List.length_take,Nat.mul_one];omega,fun j x hj=>?_⟩
   refine hx j x ?_
   unfold ints at hj ⊢
   rw [List.map_take,List.getElem?_take]at hj
   split at hj
   ·exact hj
   ·cases hj
theorem TabMA.lists {p B:Nat}{m:Frm.Bs→Option Rep.Abt} (h:Sat w0 w (TabMA p m B::R)):∃ kv,Tab.Lists m kv∧(∀ q∈kv,q.1.length=32)∧kv.length≤B:=by
 obtain ⟨t,sv',⟨ok,is,hb⟩,hS⟩:=TabMA.open h
 have hp:=List.mergeSort_perm (t.slots.filter fun x=>decide (x.st=1)) (fun a b:Tab.Slot Rep.Abt=>decide (¬ b.key<a.key))
 have hw:=List.pairwise_mergeSort (le:=fun a b:Tab.Slot Rep.Abt=>decide (¬ b.key<a.key)) (fun a b c h1 h2=>by
   rw [decide_eq_true_eq]at h1 h2 ⊢
   intro h3
   rcases Tab.bs_tri a.key b.key with q|q|q
   ·exact h2 (List.lt_trans h3 q)
   ·exact h2 (q ▸ h3)
   ·exact h1 q) (fun a b=>by
   rw [Bool.or_eq_true,decide_eq_true_eq,decide_eq_true_eq]
   by_cases q:b.key<a.key
   ·exact .inr fun q2=>List.lt_irrefl _ (List.lt_trans q q2)
   ·exact .inl q) (t.slots.filter fun x=>decide (x.st=1))
 obtain ⟨h1,h2⟩:=Tab.lists_of ok.good is hp (hw.imp fun {a b} q=>by rwa [decide_eq_true_eq]at q)
 refine ⟨_,h1,fun q hq=>?_,?_⟩
 ·obtain ⟨x,hx,rfl⟩:=List.mem_map.1 hq
  exact (h2 x hx).2
 ·rw [List.length_map,hp.length_eq,← List.countP_eq_length_filter]
  have e:t.slots.countP (fun x=>decide (x.st=1))=Tab.fulls t.slots:=by
   unfold Tab.fulls
   refine List.countP_congr fun x _=>?_
   simp
  have:=ok.n;omega
end
end Go.Proofs.YtlimfgdbfadohaaGreatDoor
namespace Go.Rep
open Go.Frm (Bs Fnd Ent fnds encs GoodE)
open Go.Seg (Plc mag)
open Go.Tab
def rowsC:Nat→List (List Ent)→List Row
 |_,[]=>[]
 |k,es::C=>((fnds es 8).map fun f=>((k:Int),f))++rowsC (k+1) C
section
variable {C:List (List Ent)}{bt:Told}{k n:Nat}
theorem rowsC_e:∀ (k:Nat) (C:List (List Ent)),(rowsC k C).map (·.2.e)=C.flatten
 |_,[]=>rfl
 |k,es::C=>by
  unfold rowsC
  rw [List.map_append,List.map_map,rowsC_e (k+1) C,List.flatten_cons]
  congr 1
  exact Frm.fnds_e es 8
def endsC (es:List Ent):Bool:=match es.getLast? with
 |some x=>x.tag==2
 |none=>false
def lastE:List Ent→Bs→Option Ent
 |[],_=>none
 |x::l,k=>match lastE l k with
  |some y=>some y
  |none=>if x.tag≠2∧x.key=k then some x else none
theorem newest_e:∀ (l:List Row) (k:Bs),(newest l k).map (·.2.e)=lastE (l.map (·.2.e)) k
 |[],_=>rfl
 |r::l,k=>by
  have ih:=newest_e l k
  unfold newest
  rw [List.map_cons]
  conv=>rhs;unfold lastE
  rw [← ih]
  cases newest l k with
  |some x=>rfl
  |none=>
   simp only [Option.map_none]
   unfold rtag rkey
   split <;> rfl
theorem lastE_app (a b:List Ent) (k:Bs):lastE (a++b) k=match lastE b k with
  |some y=>some y
  |none=>lastE a k:=by
 induction a with
 |nil=>cases h:lastE b k <;> simp [lastE,h]
 |cons x a ih=>
  rw [List.cons_append]
  conv=>lhs;unfold lastE
  rw [ih]
  cases h:lastE b k with
  |some y=>rfl
  |none=>simp only;conv=>rhs;unfold lastE
theorem lastE_snoc (a:List Ent) (x:Ent) (k:Bs):lastE (a++[x]) k=if x.tag≠2∧x.key=k then some x else lastE a k:=by
 rw [lastE_app]
 unfold lastE
 simp only [lastE]
 split
 ·rename_i y h;split at h
  ·rename_i h2;rw [if_pos h2];exact h.symm
  ·cases h
 ·rename_i h;split at h
  ·cases h
  ·rename_i h2;rw [if_neg h2]
theorem rowsC_mem:∀ (C:List (List Ent)) (k:Nat){r:Row},r∈rowsC k C→∃ j es,C[j]?=some es∧r.1=((k+j:Nat):Int)∧r.2∈fnds es 8
 |[],_,r,h=>by cases h
 |es::C,k,r,h=>by
  unfold rowsC at h
  rcases List.mem_append.1 h with h|h
  ·obtain ⟨f,hf,rfl⟩:=List.mem_map.1 h
   exact ⟨0,es,rfl,by simp,hf⟩
  ·obtain ⟨j,fs,h1,h2,h3⟩:=rowsC_mem C (k+1) h
   exact ⟨j+1,fs,by simpa using h1,by rw [h2];congr 1;omega,h3⟩
theorem fnds_mem:∀ (es:List Ent) (a:Nat){f:Fnd},f∈fnds es a→∃ u v,es=u++f.e::v∧f.at_=a+(encs u).length∧f.size=(Frm.encode f.e).1.length
 |[],_,f,h=>by cases h
 |x::es,a,f,h=>by
  unfold fnds at h
  rcases List.mem_cons.1 h with rfl|h
  ·exact ⟨[],es,rfl,rfl,rfl⟩
  ·obtain ⟨u,v,h1,h2,h3⟩:=fnds_mem es _ h
   refine ⟨x::u,v,by rw [h1];rfl,?_,h3⟩
   have e:encs (x::u)=(Frm.encode x).1++encs u:=rfl
   rw [h2,e,List.length_append];omega
end
end Go.Rep
namespace Go.Seg
open Go.Med
open Go.Frm (encs GoodE fnds)
section
variable {n:Nat}{M:Med}{L:Log}{C:List (List Frm.Ent)}
end
end Go.Seg
namespace Go.Seg
open Go.Med
open Go.Frm (encs GoodE)
section
variable {K:Nat}{M M':Med}{L:Log}{s t:ByteArray}{i:Nat}
def Grow (M:Med):Prop:=∀ j,∀ c∈(M.file j).waits,c.cut=false
def Dur (s:ByteArray) (i:Nat) (M:Med):Prop:=nget M.fast s=some i∧∀ w∈M.waits,w.fr≠s∧w.to≠s
end
section
variable {K:Nat}{M M':Med}{L:Log}{s t:ByteArray}{i:Nat}
def nf (L:Log):List Int:=(L.l.map (·.1)).take (L.l.length - L.fresh.toNat)
def Slice (p:Plc) (x:Frm.Ent) (b:Bs):Prop:=∃ a:Nat,p.at_=a∧p.size=((Frm.encode x).1.length:Int)∧(Frm.encode x).1 <+: b.drop a
structure Sure (L:Log) (M:Med) (p:Plc) (x:Frm.Ent):Prop where
 good:GoodE x
 mem:p.seg∈nf L
 file:∃ i,nget M.now (name p.seg)=some i∧Dur (name p.seg) i M∧Slice p x (M.file i).fast
structure Pend (L:Log) (M:Med) (p:Plc) (x:Frm.Ent):Prop where
 good:GoodE x
 mem:p.seg∈L.l.map (·.1)
 file:∃ i,nget M.now (name p.seg)=some i∧Slice p x (M.file i).now∧(Slice p x (M.file i).fast∨L.on=true∧∃ s,L.l.getLast?=some s∧s.1=p.seg)
structure St (K:Nat) (L:Log) (M:Med) (sure opn:List (Plc×Frm.Ent)):Prop where
 log:L.Ok
 ok:M.Ok K
 grow:Grow M
 has:Has L M
 tail:L.on=true→∃ s i,L.l.getLast?=some s∧nget M.now (name s.1)=some i∧s.2=((M.file i).now.length:Int)
 sure:∀ q∈sure,Sure L M q.1 q.2
 opn:M.off=false→∀ q∈opn,Pend L M q.1 q.2
variable {sure opn:List (Plc×Frm.Ent)}
end
end Go.Seg
namespace Go.Seg
open Go.Med
section
variable {K K':Nat}{M M':Med}{L:Log}{s t:ByteArray}{i:Nat}{sure opn:List (Plc×Frm.Ent)}
theorem app_lt:∀ (x y u v:Bs),x.length=y.length→x<y→x++u<y++v
 |[],[],_,_,_,h=>absurd h (List.not_lt_nil [])
 |[],_::_,_,_,h,_=>by simp at h
 |_::_,[],_,_,h,_=>by simp at h
 |a::x,b::y,u,v,hl,h=>by
  rw [List.cons_append,List.cons_append,List.cons_lt_cons_iff]
  rcases List.cons_lt_cons_iff.1 h with h1|⟨e,h1⟩
  ·exact .inl h1
  ·exact .inr ⟨e,app_lt x y u v (by simpa using hl) h1⟩
theorem app_lt_r:∀ (x u v:Bs),u<v→x++u<x++v
 |[],_,_,h=>h
 |a::x,u,v,h=>by
  rw [List.cons_append,List.cons_append,List.cons_lt_cons_iff]
  exact .inr ⟨rfl,app_lt_r x u v h⟩
theorem digs_lt:∀ (k a b:Nat),a<b→b<10^k→digs a k<digs b k
 |0,a,b,h,hb=>by simp at hb;omega
 |k+1,a,b,h,hb=>by
  show digs (a / 10) k++[UInt8.ofNat (48+a%10)]<digs (b / 10) k++[UInt8.ofNat (48+b%10)]
  have hb':b / 10<10^k:=by rw [Nat.div_lt_iff_lt_mul oQ];rw [Nat.pow_succ]at hb;exact hb
  rcases Nat.lt_or_ge (a / 10) (b / 10) with q|q
  ·exact app_lt _ _ _ _ (by rw [digs_len,digs_len]) (digs_lt k _ _ q hb')
  ·have e:a / 10=b / 10:=by omega
   rw [e]
   refine app_lt_r _ _ _ ?_
   rw [List.cons_lt_cons_iff]
   left
   rw [UInt8.lt_iff_toNat_lt,UInt8.toNat_ofNat',UInt8.toNat_ofNat']
   omega
theorem name_lt {a b:Int} (h1:0≤a) (h2:a<b) (h3:b<1048576):lt (name a) (name b)=true:=by
 unfold name
 rw [if_neg oQ,if_neg oQ]
 unfold lt
 rw [decide_eq_true_eq]
 show lead++digs a.toNat 8<lead++digs b.toNat 8
 exact app_lt_r _ _ _ (digs_lt 8 _ _ oQ oQ)
theorem number_is {s:ByteArray} (h:(number s).2=true):0≤(number s).1∧(number s).1<1048576∧name (number s).1=s:=by
 unfold number at h ⊢
 dsimp only at h ⊢
 split at h
 ·rename_i hc
  rw [if_pos hc]
  obtain ⟨c1,c2,c3,c4⟩:=hc
  refine ⟨by simp only;omega,by simp only;omega,?_⟩
  simp only
  unfold name
  rw [if_neg oQ]
  have hl:(s.data.toList.drop 4).length=8:=by
   have:s.data.toList.length=12:=by first|exact c1|(rw [Array.length_toList];exact c1)
   rw [List.length_drop,this]
  have hd:=digs_val (s.data.toList.drop 4) c3
  rw [hl]at hd
  have e:lead++digs (Int.toNat ((val (s.data.toList.drop 4):Nat):Int)) 8=s.data.toList:=by
   rw [Int.toNat_natCast,hd,← c2,List.take_append_drop]
  rw [e]
 ·cases h
theorem found_mem {l:List ByteArray}{x:Int×Int} (h:x∈found M l):∃ t∈l,(number t).2=true∧x=((number t).1,(M.size t).1):=by
 unfold found at h
 obtain ⟨t,ht,he⟩:=List.mem_filterMap.1 h
 split at he
 ·rename_i hn;exact ⟨t,ht,hn,(Option.some.inj he).symm⟩
 ·cases he
theorem found_rise:∀ (l:List ByteArray),l.Pairwise (fun a b=>lt a b=true)→((found M l).map (·.1)).Pairwise (· < ·)
 |[],_=>List.Pairwise.nil
 |t::l,h=>by
  obtain ⟨h1,h2⟩:=List.pairwise_cons.1 h
  have ih:=found_rise l h2
  by_cases hn:(number t).2=true
  ·have e:found M (t::l)=((number t).1,(M.size t).1)::found M l:=by unfold found;rw [List.filterMap_cons];simp [hn]
   rw [e,List.map_cons,List.pairwise_cons]
   refine ⟨fun x hx=>?_,ih⟩
   obtain ⟨y,hy,rfl⟩:=List.mem_map.1 hx
   obtain ⟨u,hu,hun,rfl⟩:=found_mem hy
   have hlt:=h1 u hu
   obtain ⟨a1,a2,a3⟩:=number_is hn
   obtain ⟨b1,b2,b3⟩:=number_is hun
   rcases Int.lt_or_le (number t).1 (number u).1 with q|q
   ·exact q
   ·exfalso
    rcases Int.lt_or_eq_of_le q with q|q
    ·have h3:=name_lt b1 q a2
     rw [a3,b3]at h3
     have:=lt_trans hlt h3
     rw [lt_irrefl]at this;cases this
    ·rw [← a3,← q,b3,lt_irrefl]at hlt;cases hlt
  ·have e:found M (t::l)=found M l:=by unfold found;rw [List.filterMap_cons];simp [hn]
   rw [e];exact ih
theorem fresh_ok (ok:M.Ok K) (limit:Int) (h1:128≤limit) (h2:limit≤1048576):(fresh M limit).Ok:=by
 refine ⟨⟨h1,h2⟩,?_,fun x hx=>?_,fun x hx=>?_,⟨Int.le_refl _,by simp [fresh]⟩,fun hh=>by cases hh⟩
 ·refine found_rise M.list ?_
  unfold Med.list
  split
  ·exact List.Pairwise.nil
  ·rw [List.pairwise_map];exact ok.nowOk.srt
 ·obtain ⟨t,_,hn,rfl⟩:=found_mem hx
  have:=number_is hn
  exact ⟨this.1,this.2.1⟩
 ·obtain ⟨t,_,hn,rfl⟩:=found_mem hx
  unfold Med.size
  split
  ·simp
  split
  ·simp
  ·have:=(ok.file ‹Nat›).now_len
   simp only
   omega
end
end Go.Seg
namespace Go.Hin
open Go.Med
def name (lead:ByteArray) (n:Int):ByteArray:=if Seg.name n=ByteArray.empty then ByteArray.empty else lead++(Seg.name n).extract 4 12
def idx:ByteArray:=⟨#[105,100,120,46]⟩
def use:ByteArray:=⟨#[117,115,101,46]⟩
theorem seg_name (n:Int):Seg.name n=ByteArray.empty∨(Seg.name n).size=12∧(Seg.name n).data.toList.take 4=Seg.lead:=by
 unfold Seg.name
 split
 ·exact .inl rfl
 ·right
  refine ⟨?_,rfl⟩
  show (Seg.lead++Seg.digs n.toNat 8).toArray.size=12
  rw [List.size_toArray,List.length_append,Seg.digs_len];rfl
end Go.Hin
namespace Go.Proofs.YtlimfgdbfadohaaGreatDoor
open Go Go.Sl Go.Med Go.MapKept Go.RowKit
section
variable {w0 w:World}{F:List HProp}{v bv dv x:Value}{q m:Nat}
def hM:Med:=Med.new 100
end
end Go.Proofs.YtlimfgdbfadohaaGreatDoor
namespace Go.Hin
open Go.Med
def number (s:ByteArray):Int×Bool:=
 if s.data.toList.take 4=[105,100,120,46]∨s.data.toList.take 4=[117,115,101,46] then Seg.number ⟨(Seg.lead++s.data.toList.drop 4).toArray⟩ else (0,false)
def newestL:List ByteArray→Int→Int
 |[],m=>m
 |f::l,m=>newestL l (if (number f).2=true then max m (number f).1 else m)
def newest (M:Med):Int:=newestL M.list (-1)
def tmp:ByteArray:=⟨#[116,109,112]⟩
def there (M:Med) (s:ByteArray):Bool:=decide ((M.size s).2=0)
def remTmp (M:Med):Med×Int:=if there M tmp=true then M.remove tmp else (M,0)
def fill (M:Med) (s:ByteArray) (b:Bs):Med×Int:=
 if (M.append tmp b).2=0 then
  (if ((M.append tmp b).1.sync tmp).2=0 then ((M.append tmp b).1.sync tmp).1.rename tmp s else (M.append tmp b).1.sync tmp)
 else if (M.append tmp b).2=11 then
  (if ((M.append tmp b).1.remove tmp).2=0 then (((M.append tmp b).1.remove tmp).1,11) else (M.append tmp b).1.remove tmp)
 else M.append tmp b
def write (M:Med) (s:ByteArray) (b:Bs):Med×Int:=
 if (remTmp M).2=0 then (if ((remTmp M).1.create tmp).2=0 then fill ((remTmp M).1.create tmp).1 s b else (remTmp M).1.create tmp) else remTmp M
def sweep (p:ByteArray→Bool):List ByteArray→Med→Med×Int
 |[],M=>(M,0)
 |f::l,M=>if p f=true then (if (M.remove f).2=0 then sweep p l (M.remove f).1 else M.remove f) else sweep p l M
def other (n:Int) (s:ByteArray):Bool:=(number s).2 && (number s).1 != n
abbrev Kept:Type:=List (ByteArray×Nat×Fil)
section
variable {T:Kept}{s1 s2 s:ByteArray}{b1 b2 b:Bs}{K j:Nat}{M M':Med}{l:Names}{fs fs':Nat→Fil}
theorem tmp_ne:tmp≠ByteArray.empty:=by decide
end
end Go.Hin
namespace Go.Seg
open Go.Med
open Go.Frm (encs GoodE fnds)
structure HG (K r E B n:Nat) (L:Log) (M:Med) (C:List (List Frm.Ent)):Prop where
 keeps:Keeps K r L M
 len:L.l.length=C.length
 at_:∀ (k:Nat) (es:List Frm.Ent),C[k]?=some es→L.l[k]?=some ((k:Int),8+((encs es).length:Int))
 file:∀ (k:Nat) (es:List Frm.Ent),C[k]?=some es→M.all (name k)=(mag++encs es,0)
 good:∀ es∈C,(∀ x∈es,GoodE x)∧es≠[]
 count:C.length≤n
 used:M.used≤n * 400+B
 names:M.now.length≤n+E
 cover:∀ (k i:Nat),k<1048576→nget M.now (name (k:Int))=some i→k<C.length
section
variable {K r E B n:Nat}{L:Log}{M:Med}{C:List (List Frm.Ent)}
theorem HG.mono {K' E' B' n':Nat} (h:HG K r E B n L M C) (h1:K≤K') (h2:E≤E') (h3:B≤B') (h4:n≤n'):HG K' r E' B' n' L M C:=
 ⟨h.keeps.mono h1,h.len,h.at_,h.file,h.good,Nat.le_trans h.count h4,Nat.le_trans h.used (Nat.add_le_add (Nat.mul_le_mul_right 400 h4) h3),Nat.le_trans h.names oQ,h.cover⟩
theorem HG.next (h:HG K r E B n L M C):L.next=C.length:=by
 unfold Log.next
 cases hl:L.l.getLast? with
 |none=>
  have:=List.getLast?_eq_none_iff.1 hl
  have h2:=h.len
  rw [this]at h2
  simp only [List.length_nil]at h2
  simp only;omega
 |some s=>
  rw [List.getLast?_eq_getElem?]at hl
  have hlt:=(List.getElem?_eq_some_iff.1 hl).1
  have h2:=h.len
  have hc:C[L.l.length - 1]?=some (C[L.l.length - 1]'oQ):=List.getElem?_eq_getElem oQ
  have h3:=h.at_ _ _ hc
  rw [hl]at h3
  cases h3
  simp only;omega
theorem HG.at_k (h:HG K r E B n L M C){k:Nat}{es:List Frm.Ent} (hk:C[k]?=some es):L.at (k:Int)=some k:=by
 have h1:=h.at_ k es hk
 cases hat:L.at (k:Int) with
 |none=>
  exfalso
  unfold Log.at at hat
  rw [List.findIdx?_eq_none_iff]at hat
  have:=hat _ (List.mem_of_getElem? h1)
  simp at this
 |some i=>
  obtain ⟨h2,s,h3,h4⟩:=Log.at_lt hat
  have h5:i<C.length:=by rw [← h.len];exact h2
  have h6:=h.at_ i _ (List.getElem?_eq_getElem h5)
  rw [h6]at h3
  cases h3
  simp only at h4
  congr 1
  omega
theorem HG.readRow (h:HG K r E B n L M C){r:Rep.Row} (hr:r∈Rep.rowsC 0 C):L.read M (Rep.rplc r)=(r.2.e,0):=by
 obtain ⟨j,es,h1,h2,h3⟩:=Rep.rowsC_mem C 0 hr
 obtain ⟨u,v,h4,h5,h6⟩:=Rep.fnds_mem es 8 h3
 obtain ⟨s,⟨e,at_,size⟩⟩:=r
 simp only at h2 h3 h4 h5 h6
 rw [Nat.zero_add]at h2
 subst h2;subst h5;subst h6
 have hx:GoodE e:=(h.good es (List.mem_of_getElem? h1)).1 e (by rw [h4];simp)
 have hf:=h.file j es h1
 have hm:mag.length=8:=rfl
 have hes:encs es=encs u++((Frm.encode e).1++encs v):=by rw [h4,encs_app];rfl
 have hrd:=read_all h.keeps.calm.quiet hf (a:=8+(encs u).length) (n:=(Frm.encode e).1.length) (by rw [List.length_append,hes,List.length_append,List.length_append];omega)
 have hd:((mag++encs es).drop (8+(encs u).length)).take (Frm.encode e).1.length=(Frm.encode e).1:=by
  rw [hes,← List.append_assoc,List.drop_append,List.drop_of_length_le (by rw [List.length_append];omega)]
  rw [show 8+(encs u).length - (mag++encs u).length=0 by rw [List.length_append];omega,List.drop_zero,List.nil_append,List.take_append_of_le_length (Nat.le_refl _),List.take_length]
 rw [hd]at hrd
 have hre:=Frm.read_encode hx.1 hx.2 []
 rw [List.append_nil]at hre
 unfold Log.read Rep.rplc
 simp only [h.at_k h1]
 rw [hrd]
 simp only [hre]
 rw [if_neg dCz,if_neg dCz,if_neg (by simp)]
theorem HG.append (h:HG K r E B n L M C) (hn:n<1000) (x:Frm.Ent) (hk:x.key.length=32) (hd:x.data.length≤300) (h0:(Frm.encode x).2=0) (hz:(L.append M x).2.2=0∨M.used+400≤M.room∧M.now.length<500) :
  (L.append M x).2.2=0∧(L.append M x).1.1.on=true∧(L.append M x).1.1.limit=L.limit∧HG (K+4) r E B (n+1) (L.append M x).1.1 (L.append M x).1.2 (put C (L.fits (Frm.encode x).1.length) x) ∧
   (L.append M x).1.1.read (L.append M x).1.2 (L.append M x).2.1=(x,0)∧(L.append M x).2.1.seg=(put C (L.fits (Frm.encode x).1.length) x).length - 1:=by
 have hzz:=enc_small h0 hk hd
 have hK:=(h.keeps.append x hk).1
 have hu:=h.used
 have hroom:=h.keeps.calm.room
 have hcnt:=h.count
 cases hf:L.fits (Frm.encode x).1.length with
 |true=>
  rw [Log.append_grow h0 hf]at hK hz ⊢
  have hf':=hf
  unfold Log.fits at hf'
  rw [Bool.and_eq_true,decide_eq_true_eq]at hf'
  obtain ⟨s,hl⟩:=h.keeps.log.last hf'.1
  rw [hl]at hf'
  have hl':=hl
  rw [List.getLast?_eq_getElem?]at hl'
  have hlt:=(List.getElem?_eq_some_iff.1 hl').1
  have hlen:=h.len
  have hne:C≠[]:=by intro e;rw [e,List.length_nil]at hlen;omega
  obtain ⟨c,hc⟩:∃ c,C.length=c+1:=⟨C.length - 1,by omega⟩
  have hcl:C[c]?=some (C.getLastD []):=by
   conv=>lhs;rw [last_of hne]
   rw [List.getElem?_append_right (by rw [List.length_dropLast];omega),List.length_dropLast,show c - (C.length - 1)=0 by omega];rfl
  generalize hes:C.getLastD []=es at *
  have hat:=h.at_ _ _ hcl
  rw [show L.l.length - 1=c by omega,hat]at hl'
  obtain rfl:((c:Int),8+((encs es).length:Int))=s:=by injection hl'
  obtain ⟨i,hi⟩:=h.keeps.has _ (List.mem_of_getLast? hl)
  simp only at hi
  have hall:=h.file _ _ hcl
  have hrm:M.used+(Frm.encode x).1.length≤M.room:=by
   rcases hz with hz|⟨hz,_⟩
   ·rcases append_cases h.keeps.calm.quiet (name (c:Int)) (Frm.encode x).1 with ⟨q1,_⟩|⟨j,q1,⟨q2,q3⟩|⟨q2,q3⟩⟩
    ·rw [hi]at q1;cases q1
    ·unfold Log.grow at hz
     rw [hl]at hz
     simp only [q3]at hz
     rw [if_neg dCz]at hz
     exact absurd (show (11:Int)=0 from hz) dCz
    ·omega
   ·omega
  obtain ⟨a1,a2,a3,a4,a5⟩:=append_full h.keeps.calm hi (Frm.encode x).1 hrm
  have hmem:es∈C:=List.mem_of_getElem? hcl
  have hE:L.grow M (Frm.encode x).1=(({ L with l:=L.l.dropLast++[((c:Int),8+((encs es).length:Int)+((Frm.encode x).1.length:Int))] },(M.append (name (c:Int)) (Frm.encode x).1).1),⟨(c:Int),8+((encs es).length:Int),(Frm.encode x).1.length⟩,0):=by
   unfold Log.grow;rw [hl];simp only [a1,if_true]
  rw [hE]at hK ⊢
  simp only at hK ⊢
  rw [hall]at a4
  have hsz:(encs (es++[x])).length=(encs es).length+(Frm.encode x).1.length:=by rw [encs_app,encs_one,List.length_append]
  have hput:put C true x=C.dropLast++[es++[x]]:=by unfold put;rw [if_pos rfl,hes]
  rw [hput]
  have hdl:C.dropLast.length=c:=by rw [List.length_dropLast];omega
  have a4':(M.append (name (c:Int)) (Frm.encode x).1).1.all (name (c:Int))=(mag++encs (es++[x]),0):=by rw [a4,encs_app,encs_one];simp
  refine ⟨by first|trivial|rfl,hf'.1,by first|trivial|rfl,⟨hK,?_,?_,?_,?_,?_,?_,?_,?_⟩,?_,?_⟩
  ·simp only [List.length_append,List.length_dropLast,List.length_singleton];omega
  ·intro k fs hk'
   have hcl':C[k]?=some fs∧k<c∨k=c∧fs=es++[x]:=by
    rcases Nat.lt_trichotomy k c with q|q|q
    ·rw [List.getElem?_append_left oQ,List.getElem?_dropLast,if_pos oQ]at hk'
     exact .inl ⟨hk',q⟩
    ·subst q
     rw [List.getElem?_append_right oQ,hdl,Nat.sub_self]at hk'
     simp at hk'
     exact .inr ⟨rfl,hk'.symm⟩
    ·rw [List.getElem?_eq_none (by simp only [List.length_append,List.length_singleton];omega)]at hk';cases hk'
   rcases hcl' with ⟨q1,q2⟩|⟨rfl,rfl⟩
   ·rw [List.getElem?_append_left (by rw [List.length_dropLast];omega),List.getElem?_dropLast,if_pos oQ]
    exact h.at_ _ _ q1
   ·rw [List.getElem?_append_right (by rw [List.length_dropLast];omega),List.length_dropLast,show k - (L.l.length - 1)=0 by omega,hsz]
    simp only [List.getElem?_cons_zero,Option.some.injEq,Prod.mk.injEq,true_and]
    omega
  ·intro k fs hk'
   have hcl':C[k]?=some fs∧k<c∨k=c∧fs=es++[x]:=by
    rcases Nat.lt_trichotomy k c with q|q|q
    ·rw [List.getElem?_append_left oQ,List.getElem?_dropLast,if_pos oQ]at hk'
     exact .inl ⟨hk',q⟩
    ·subst q
     rw [List.getElem?_append_right oQ,hdl,Nat.sub_self]at hk'
     simp at hk'
     exact .inr ⟨rfl,hk'.symm⟩
    ·rw [List.getElem?_eq_none (by simp only [List.length_append,List.length_singleton];omega)]at hk';cases hk'
   rcases hcl' with ⟨q1,q2⟩|⟨rfl,rfl⟩
   ·rw [a5 _ (fun e=>by have:=name_inj oQ oQ oQ oQ e;omega)]
    exact h.file _ _ q1
   ·exact a4'
  ·intro fs hfs
   rcases List.mem_append.1 hfs with hfs|hfs
   ·exact h.good fs ((List.dropLast_subset _ hfs))
   ·rw [List.mem_singleton.1 hfs]
    refine ⟨fun y hy=>?_,by simp⟩
    rcases List.mem_append.1 hy with hy|hy
    ·exact (h.good es hmem).1 y hy
    ·rw [List.mem_singleton.1 hy];exact ⟨h0,hk⟩
  ·simp only [List.length_append,List.length_singleton];omega
  ·rw [a3];omega
  ·rw [a2];have:=h.names;omega
  ·intro k j hkk hj
   rw [a2]at hj
   have:=h.cover k j hkk hj
   simp only [List.length_append,List.length_singleton];omega
  ·exact read_back (s:=((c:Int),8+((encs es).length:Int)+((Frm.encode x).1.length:Int))) hK (by simp) a4' ⟨h0,hk⟩
  ·simp only [List.length_append,List.length_singleton];omega
 |false=>
  rw [Log.append_begin h0 hf]at hK hz ⊢
  obtain ⟨s1,s2,s3,s4,s5⟩:=h.keeps.shut
  have hlim:=Log.shut_limit L M
  have hB:L.begin M (Frm.encode x).1=(L.shut M).1.1.begin1 (L.shut M).1.2 (Frm.encode x).1:=by unfold Log.begin;rw [if_pos s2]
  rw [hB]at hK hz ⊢
  have hnx:(L.shut M).1.1.next=C.length:=by rw [← h.next];unfold Log.next;rw [s3]
  have hall2:=s5.all
  have hnow:=s5.now
  have hused:=s5.used
  have hroom2:=s1.calm.room
  generalize (L.shut M).1.1=L1 at *
  generalize (L.shut M).1.2=M1 at *
  have hnn:nget M1.now (name (C.length:Int))=none:=by
   cases hq:nget M1.now (name (C.length:Int)) with
   |none=>rfl
   |some i=>
    exfalso
    rw [hnow]at hq
    have:=h.cover C.length i oQ hq
    omega
  have hlt5:M1.now.length<500:=by
   rcases hz with hz|⟨_,hz⟩
   ·rcases create_cases s1.calm.quiet (name (C.length:Int)) with ⟨q1,_,_⟩|⟨_,_,q3,_⟩
    ·unfold Log.begin1 at hz
     rw [hnx,if_neg oQ,if_pos q1]at hz
     exact absurd hz q1
    ·exact q3
   ·rw [hnow];exact hz
  obtain ⟨c1,c2,c3,c4,c5⟩:=create_full s1.calm (good_name (C.length:Int) oQ oQ) hnn hlt5
  have hc1:=s1.calm.create (name (C.length:Int))
  have hself:nget (M1.create (name (C.length:Int))).1.now (name (C.length:Int))=some M1.files.length:=by rw [c2];exact nget_put_self s1.calm.ok.nowOk.srt _ _
  have hrm:(M1.create (name (C.length:Int))).1.used+(mag++(Frm.encode x).1).length≤(M1.create (name (C.length:Int))).1.room:=by
   rcases hz with hz|⟨hz,_⟩
   ·rcases append_cases hc1.quiet (name (C.length:Int)) (mag++(Frm.encode x).1) with ⟨q1,_⟩|⟨j,q1,⟨q2,q3⟩|⟨q2,q3⟩⟩
    ·rw [hself]at q1;cases q1
    ·unfold Log.begin1 at hz
     rw [hnx,if_neg oQ,if_neg (fun hh=>hh c1)]at hz
     simp only [q3]at hz
     rw [if_neg dCz]at hz
     simp only [if_true]at hz
     split at hz
     ·exact absurd hz dCz
     ·rename_i g;exact absurd hz g
    ·omega
   ·rw [c3,hused,hc1.room,List.length_append];have:mag.length=8:=rfl;omega
  obtain ⟨a1,a2,a3,a4,a5⟩:=append_full hc1 hself (mag++(Frm.encode x).1) hrm
  have hE:L1.begin1 M1 (Frm.encode x).1=(({ L1 with l:=L1.l++[((C.length:Int),8+((Frm.encode x).1.length:Int))],on:=true,fresh:=L1.fresh+1 },((M1.create (name (C.length:Int))).1.append (name (C.length:Int)) (mag++(Frm.encode x).1)).1),⟨(C.length:Int),8,(Frm.encode x).1.length⟩,0):=by
   unfold Log.begin1
   rw [hnx,if_neg oQ,if_neg (fun hh=>hh c1),if_pos a1]
  rw [hE]at hK ⊢
  simp only at hK ⊢
  rw [c4]at a4
  have a4':((M1.create (name (C.length:Int))).1.append (name (C.length:Int)) (mag++(Frm.encode x).1)).1.all (name (C.length:Int))=(mag++encs ([]++[x]),0):=by rw [a4,encs_app,encs_one];simp [encs]
  have hput:put C false x=C++[[x]]:=by unfold put;rw [if_neg dCz]
  rw [hput]
  have hlen:=h.len
  refine ⟨by first|trivial|rfl,by first|trivial|rfl,hlim,⟨hK,?_,?_,?_,?_,?_,?_,?_,?_⟩,?_,?_⟩
  ·simp only [s3,List.length_append,List.length_singleton];omega
  ·intro k fs hk'
   rcases Nat.lt_trichotomy k C.length with q|q|q
   ·rw [List.getElem?_append_left q]at hk'
    rw [s3,List.getElem?_append_left oQ]
    exact h.at_ _ _ hk'
   ·subst q
    rw [List.getElem?_append_right (Nat.le_refl _),Nat.sub_self]at hk'
    simp at hk'
    subst hk'
    rw [s3,List.getElem?_append_right oQ,hlen,Nat.sub_self,encs_one]
    rfl
   ·rw [List.getElem?_eq_none (by simp only [List.length_append,List.length_singleton];omega)]at hk';cases hk'
  ·intro k fs hk'
   rcases Nat.lt_trichotomy k C.length with q|q|q
   ·rw [List.getElem?_append_left q]at hk'
    have hne:name (k:Int)≠name (C.length:Int):=fun e=>by have:=name_inj oQ oQ oQ oQ e;omega
    rw [a5 _ hne,c5 _ hne,hall2]
    exact h.file _ _ hk'
   ·subst q
    rw [List.getElem?_append_right (Nat.le_refl _),Nat.sub_self]at hk'
    simp at hk'
    subst hk'
    exact a4'
   ·rw [List.getElem?_eq_none (by simp only [List.length_append,List.length_singleton];omega)]at hk';cases hk'
  ·intro fs hfs
   rcases List.mem_append.1 hfs with hfs|hfs
   ·exact h.good fs hfs
   ·rw [List.mem_singleton.1 hfs]
    exact ⟨fun y hy=>by rw [List.mem_singleton.1 hy];exact ⟨h0,hk⟩,by simp⟩
  ·simp only [List.length_append,List.length_singleton];omega
  ·rw [a3,c3,hused,List.length_append];have:mag.length=8:=rfl;omega
  ·rw [a2,c2,nput_len]
   have:=ndel_len M1.now (name (C.length:Int))
   rw [hnow]at this
   have:=h.names
   rw [hnow];omega
  ·intro k j hkk hj
   by_cases e:k=C.length
   ·subst e;simp
   ·rw [a2,c2,nget_put_ne (fun q=>e (by have:=name_inj oQ oQ oQ oQ q;omega)),hnow]at hj
    have:=h.cover k j hkk hj
    simp only [List.length_append,List.length_singleton];omega
  ·exact read_back (s:=((C.length:Int),8+((Frm.encode x).1.length:Int))) (es:=[]) hK (by simp) a4' ⟨h0,hk⟩
  ·simp only [List.length_append,List.length_singleton];omega
end
end Go.Seg
namespace Go.Seg
open Go.Med
open Go.Frm (encs GoodE fnds Ent)
def toE (d:Ent):Ent:=if d.tag=0 then ⟨0,d.key,d.data⟩ else if d.tag=1 then ⟨1,d.key,[]⟩ else comEnt
def isPut (d:Ent):Prop:=d.tag=0∨d.tag=1
instance (d:Ent):Decidable (isPut d):=by unfold isPut;infer_instance
structure Pl (n:Nat) (ds:List Ent) (L:Log) (M:Med) (C:List (List Ent)):Prop where
 holds:Holds n L M C
 tail:Tail L.on C
 flat:C.flatten=ds.map toE
 small:∀ x∈C.flatten,x.data.length≤300
section
variable {n:Nat}{ds:List Ent}{L:Log}{M:Med}{C C0:List (List Ent)}{d:Ent}
theorem toE_good (hk:d.key.length=32) (hd:d.data.length≤300):(Frm.encode (toE d)).2=0:=by
 have hc:Frm.check (toE d)=0:=by
  unfold toE
  split
  ·unfold Frm.check
   simp only [if_true]
   rw [if_neg oQ]
  split
  ·unfold Frm.check
   simp
  ·decide
 unfold Frm.encode
 rw [if_neg (by simp [hc])]
end
end Go.Seg
namespace Go.Seg
open Go.Med
structure Fit (K:Nat) (D:Med):Prop where
 ok:D.Ok K
 small:D.Small
 files:D.files.length≤500+K
section
variable {φ:Nat→Nat}{V:Nat→Prop}{M D:Med}{K:Nat}{L:Log}
end
end Go.Seg
namespace Go.Frm
theorem le_snoc (x:Nat):∀ n,le x (n+1)=le x n++[UInt8.ofNat (x / 256^n%256)]:=by
 intro n
 induction n generalizing x with
 |zero=>simp [le]
 |succ n ih=>
  show UInt8.ofNat (x%256)::le (x / 256) (n+1)=UInt8.ofNat (x%256)::le (x / 256) n++_
  rw [ih,Nat.div_div_eq_div_mul,Nat.mul_comm 256,← Nat.pow_succ];rfl
theorem num_drop {l:Bs}{i:Nat} (h:i<l.length):num (l.drop i)=(l[i]'h).toNat+256 * num (l.drop (i+1)):=by
 rw [List.drop_eq_getElem_cons h];rfl
end Go.Frm
namespace Go.Proofs.YtlimfgdbfadohaaGreatDoor
open Go Go.Sl Go.Med Go.MapKept Go.RowKit
section
variable {w0 w:World}{F:List HProp}{v bv:Value}
theorem rput_c (x n:Nat) (hx:x<18446744073709551616) (h1:1≤n) (h8:n≤8) (h:Sat w0 w F) :
  Calls Tryz.prog 31 #[.int .u64 x,.int .i64 n] w (Rtn fun v w'=>Sat w0 w' (bsl v (Frm.le x n)::F)∧∃ a n c,v = .slice a n c):=by
 have d1:decide ((n:Int)<1)=false:=by rw [decide_eq_false_iff_not];omega
 have d2:decide (8<(n:Int))=false:=by rw [decide_eq_false_iff_not];omega
 have d1':¬ n<1:=oQ
 have d2':¬ 8<n:=oQ
 have Hx:=uQ hx;have H8:=uQ h8
 clear hx h1 h8
 go_enter Tryz.func31,Tryz.ntmps31
 go_wp2_with fail
 clear d1 d2 d1' d2'
 go_loopg [0,5,6] n (fun g xq bq iq wr=>∃ i:Nat,g=n - i∧i≤n∧iq = .int .i64 i∧xq = .int .u64 (x / 256^i:Nat)∧Sat w0 wr (bsl bq (Frm.le x i)::F))
 case atStart=>exact ⟨0,rfl,Nat.zero_le _,rfl,by rw [Nat.pow_zero,Nat.div_one],Sat.osl_nil.2 h⟩
 case round=>
  obtain ⟨i,rfl,hi,rfl,rfl,hS⟩:=hrel
  clear h
  obtain ⟨ba,bn,bc,rfl,_⟩:=id (Sat.rd hS)
  by_cases hlt:i<n
  ·have c1:(i:Int)<(n:Int):=by omega
   have h8:=H8.out
   have hwi:=iwQ (i:=i)
   have hX:x / 256^i<18446744073709551616:=Nat.lt_of_le_of_lt (Nat.div_le_self _ _) Hx.out
   have hnx:x / 256^(i+1)=x / 256^i / 256:=by rw [Nat.pow_succ,Nat.div_div_eq_div_mul]
   have hle:=Frm.le_snoc x i
   have Hle:=uQ hle;have Hnx:=uQ hnx;have Hlt:=uQ hlt
   have hlen:(bys (Frm.le x i)).length≤2147483648:=by rw [bys_len,Frm.le_len];omega
   clear hle hnx hlt h8
   generalize x / 256^i=X at *
   obtain ⟨cc,hcc⟩:∃ cc,cc=UInt8.ofNat (X%256):=⟨_,rfl⟩
   have hcv:(X:Int)%256=(cc.toNat:Int):=by rw [hcc,UInt8.toNat_ofNat'];omega
   have hcw:(cc.toNat:Int)%256=(cc.toNat:Int):=by have:=cc.toNat_lt;omega
   have hdv:(X:Int) / 256=((X / 256:Nat):Int):=rfl
   have hdw:((X / 256:Nat):Int)%18446744073709551616=((X / 256:Nat):Int):=oQ
   rw [← hcc]at Hle
   clear hcc hX
   generalize X / 256=Y at *
   have hSo:Sat w0 wr (osl 5 1 (.slice ba bn bc) (bys (Frm.le x i))::F):=hS
   generalize hB:bys (Frm.le x i)=B at *
   clear hS
   go_wp2_with (first
    |((with_reducible refine at_build1 ⟨?_⟩);refine wl_build1 (e:=5) (sz:=1) (by':=1) kRz aQ evD evD rFz nLz ?_;intro bN wN hN)
    |((with_reducible refine at_append ⟨?_⟩);refine wl_app 5 1 1 kRz hN rFz rFz (pick_there pick0) pick0 rFz (Nat.le_refl 1) rFz hlen (by show 1≤65536;decide) dCz evD ?_;intro bA nA cA wA hA))
   go_roundg (n - (i+1))
   case measure=>have:=Hlt.out;omega
   case rel=>
    refine ⟨i+1,rfl,Nat.succ_le_of_lt Hlt.out,by first|rfl|go_num,by rw [Hnx.out],?_⟩
    rw [Hle.out]
    unfold bsl
    have e:bys (Frm.le x i++[cc])=B++[Value.int .u8 cc.toNat]:=by rw [← hB];unfold bys;rw [List.map_append];rfl
    rw [e]
    exact hA
  ·obtain rfl:i=n:=by omega
   have c1:¬ (i:Int)<(i:Int):=oQ
   clear hlt
   go_wp2
   go_ret
   exact ⟨_,rfl,hS,_,_,_,rfl⟩
theorem rget_c (l:Bs) (h1:1≤l.length) (h8:l.length≤8) (hr:rdsl 1 bv (bys l) w) :
  Calls Tryz.prog 61 #[bv] w (Rtn fun v w'=>v = .tuple #[.int .u64 (Frm.num l:Nat),.bool true]∧w=w'):=by
 obtain ⟨a,n,c,rfl,hn,_⟩:=id hr
 rw [bys_len,Nat.mul_one]at hn
 subst hn
 have d1:((l.length:Int)==0)=false:=by rw [beq_eq_false_iff_ne];omega
 have d2:decide (8<(l.length:Int))=false:=by rw [decide_eq_false_iff_not];omega
 have d1':¬ l.length=0:=oQ
 have d2':¬ 8<l.length:=oQ
 have hw1:IntKind.i64.wrap ((l.length:Int) - 1)=(l.length:Int) - 1:=IntWalk.i64_in _ oQ
 have H8:=uQ h8;have Hr:=uQ hr
 clear h1 h8 hr
 go_enter Tryz.func61,Tryz.ntmps61
 go_wp2_with fail
 clear d1 d2 d1' d2'
 go_loopg [4,5] l.length (fun g xq iq wr=>∃ (m:Nat) (z:Int),g=l.length - (l.length - m)∧m≤l.length∧iq = .int .i64 z∧z=(m:Int) - 1∧xq = .int .u64 (Frm.num (l.drop m):Nat)∧wr=w)
 case atStart=>exact ⟨l.length,_,by omega,Nat.le_refl _,rfl,rfl,by rw [List.drop_length];rfl,rfl⟩
 case round=>
  obtain ⟨m,zz,rfl,hm,rfl,hzz,rfl,rfl⟩:=hrel
  cases m with
  |zero=>
   obtain rfl:zz = -1:=by omega
   clear hzz hw1
   rw [List.drop_zero]
   go_wp2
   go_ret2
   exact ⟨_,rfl,rfl,rfl⟩
  |succ m=>
   have hzm:zz=(m:Int):=oQ
   clear hzz
   subst hzm
   have hml:m<l.length:=oQ
   have c8:(m:Int)<(l.length:Int):=oQ
   have h8:=H8.out
   have hwm:IntKind.i64.wrap ((m:Int) - 1)=(m:Int) - 1:=IntWalk.i64_in _ oQ
   have hb:(bys l)[m]?=some (.int .u8 (l[m]'hml).toNat):=by unfold bys;simp [hml]
   obtain ⟨bk,off,rfl,c1⟩:=rdsl_cell Hr.out hb
   have hnd:=Frm.num_drop hml
   have hlt:=Frm.num_lt (l.drop m)
   have hlt2:Frm.num (l.drop m)<18446744073709551616:=Nat.lt_of_lt_of_le hlt (by
    have:256^(l.drop m).length≤256^8:=Nat.pow_le_pow_right dCz (by rw [List.length_drop];omega)
    exact Nat.le_trans this dCz)
   rw [hnd]at hlt2
   have hcm:((l[m]'hml).toNat:Int)%18446744073709551616=((l[m]'hml).toNat:Int):=oQ
   have Hnd:=uQ hnd;have Hml:=uQ hml
   clear hb hnd hlt h8 hm hw1
   generalize (l[m]'hml).toNat=cb at *
   clear hml
   generalize Frm.num (l.drop (m+1))=X at *
   have e1:(X:Int) * 256%18446744073709551616=((X * 256:Nat):Int):=oQ
   have e2:(((X * 256:Nat):Int)+(cb:Int))%18446744073709551616=((cb+256 * X:Nat):Int):=oQ
   have e3:((X:Int) * 256+(cb:Int))%18446744073709551616=((cb+256 * X:Nat):Int):=oQ
   clear hlt2
   go_wp2_with fail
   go_roundg m
   case measure=>have:=Hml.out;omega
   case rel=>exact ⟨m,_,by have:=Hml.out;omega,Nat.le_of_lt Hml.out,rfl,rfl,by rw [Hnd.out];congr 1;omega,rfl⟩
end
section
variable {P:Program}{w0 w:World}{L L':List HProp}{b o:Nat}{ops:Array Oper}{rest:List Oper}{a:Act}{Q:Exit→Act→World→Prop}{dst:Option Tmp}{t ty T sz n c:Nat}{pos:String}{after:Array Edge}{x y:Operand}{v:Value}{xs:List Value}{K:Act→World→Prop}{E:Prop}
theorem eff_storeS (i:Nat) (hs:Sat w0 w L) (hx:a.eval x = .pointer (some ⟨b,i,none⟩)) (hy:a.eval y=v) (u:Upd (osl T sz (.slice (some ⟨b,0,none⟩) n c) xs) (osl T sz (.slice (some ⟨b,0,none⟩) n c) (xs.set i v)) L L')
  (hi:i<xs.length) (hty:(P.info? ty).map (·.size)=some 1) (h0:v.cells=#[v]) (h1:v.oneCell'=true)
  (hK:∀ w',Sat w0 w' L'→K (a.put dst undef) w') :
  if Region.wanted ⟨dst,.store ty x y,t,pos,after,none⟩ (yielded ops a.tmps)=true then Oper.wp P ⟨dst,.store ty x y,t,pos,after,none⟩ a w K Q else E:=by
 obtain ⟨R',h2,h3⟩:=u
 have h:=hs.perm h2
 rcases Sat.osl_cases h with ⟨he,_⟩|⟨g',n',cap',cs,he,k1,k2,k3,k4,k5,k6⟩
 ·cases he
 ·cases he
  have hlen:xs.length≤cs.size:=by rw [← k5,List.length_take,Array.length_toList];omega
  refine eff_store k6 hx hy (cs':=cs.setIfInBounds i v) (by rw [h0];rfl) upd0 (by rw [h0];show i+1≤cs.size;omega) (by rw [h0];exact hty) (by rw [h0];simpa using h1) fun w' hS=>hK w' (Sat.perm ?_ h3.symm)
  refine Sat.osl_of_pt hS (by rw [List.length_set];exact k1) k2 (by rw [Array.size_setIfInBounds];exact k3) k4 ?_
  rw [Array.toList_setIfInBounds,List.take_set,k5]
end
section
variable {w0 w:World}{F R:List HProp}{d i:Nat}{D:Med}{fsv fv nv wv v lv bv:Value}{xs:List RF}{x:RF}{g:Bag}{K:Nat}
end
section
variable {P:Program}{w0 w:World}{L L':List HProp}{b o:Nat}{ops:Array Oper}{a:Act}{Q:Exit→Act→World→Prop}{dst:Option Tmp}{t ty T:TypeId}{pos:String}{after:Array Edge}{x y:Operand}{cs:Array Value}{v:Value}{K:Act→World→Prop}{E:Prop}
theorem eff_alloc (hz:zeroB P ty=some v) (hs:Sat w0 w L) (hcs:v.cells=cs)
  (hK:∀ b w',Sat w0 w' (pt b (.cells cs ty (0,0))::L)→K (a.put dst (.pointer (some ⟨b,0,none⟩))) w') :
  if Region.wanted ⟨dst,.alloc ty,t,pos,after,none⟩ (yielded ops a.tmps)=true then Oper.wp P ⟨dst,.alloc ty,t,pos,after,none⟩ a w K Q else E:=by
 subst hcs
 refine eff_of rfl ?_
 have hS:=hs.alloc (.cells v.cells ty)
 unfold Oper.wp execOp
 have hrun:(Instr.alloc ty true (.tuple #[])).run P w = .ok (.pointer (some ⟨w.heap.size,0,none⟩)) (w.alloc (.cells v.cells ty)):=by
  simp [Instr.alloc,run_zeroB hz w,newVar,newRow,go_sem,Result.andThen]
 simp only [Sem.run_bind,Sem.run_pure,hrun,Result.andThen_ok]
 exact hK _ _ hS
end
section
variable {w0 w:World}{F R:List HProp}{d i:Nat}{D:Med}{fsv fv nv wv v lv bv:Value}{xs:List RF}{x:RF}{g:Bag}{K:Nat}
section
variable {P:Program}{b o:Nat}{ops:Array Oper}{rest:List Oper}{a:Act}{Q:Exit→Act→World→Prop}{dst:Option Tmp}{t ty:Nat}{pos:String}{after:Array Edge}{y:Operand}
end
end
section
variable {P:Program}{w0 w:World}{L R:List HProp}{ops:Array Oper}{rest:List Oper}{a:Act}{Q:Exit→Act→World→Prop}{dst:Option Tmp}{t ty e:TypeId}{pos:String}{after:Array Edge}{x y s:Operand}{sz by':Nat}{v v1:Value}
theorem wl_appD (e:TypeId) (sz by':Nat){xs ys:List Value} (hb:appB P ty e sz by'=true) (hs:Sat w0 w L) (hv:a.eval s=v) (hy:a.eval y=v1) (p:Pick (osl e sz v xs) L R) (hrd:rdsl sz v1 ys w) (h1:∀ u∈ys,u.oneCell'=true)
  (h63:xs.length+ys.length≤2147483648) (hby:by'≤65000)
  (hK:∀ v' w',Sat w0 w' (osl e sz v' (xs++ys)::R)→wpList P ops Q rest (a.put dst v') w') :
  wpList P ops Q (⟨dst,.call { callee:= .builtin .append,args:=#[s,y],argTypes:=#[ty,ty] },t,pos,after,none⟩::rest) a w:=by
 obtain ⟨hu,i,z,hi,hz,e1,e2,e3,e4⟩:=appB_spec hb
 subst e2
 refine wpList_append (w0:=w0) rfl s y ty rfl e i z hu hi hz e1 e3 e4 hv hy h1 (hs.pick p) hrd (by unfold maxLen;omega) ?_ fun v' w' hS _=>hK v' w' hS
 calc (xs.length+ys.length) * i.bytes≤2147483648 * 65000:=Nat.mul_le_mul h63 hby
  _≤140737488355328:=by decide
end
section
variable {P:Program}{w0 w:World}{F R:List HProp}{e:TypeId}{ops:Array Oper}{a:Act}{Q:Exit→Act→World→Prop}{dst:Option Tmp}{ty:TypeId}{t:Nat}{pos:String}{after:Array Edge}{s y:Operand}{v x:Value}{xs ys:List Value}{K:Act→World→Prop}{E:Prop}
theorem eff_appG (sz by':Nat) (hb:appB P ty e sz by'=true) (hs:Sat w0 w (osl e sz v xs::R)) (hv:a.eval s=v) (hy:a.eval y=x) (hx:rdsl sz x ys w) (h1:∀ u∈ys,u.oneCell'=true)
  (hl:xs.length+ys.length≤2147483648) (hby:by'≤65000)
  (hK:∀ v' w',Sat w0 w' (osl e sz v' (xs++ys)::R)→K (a.put dst v') w') :
  if Region.wanted ⟨dst,.call { callee:= .builtin .append,args:=#[s,y],argTypes:=#[ty,ty] },t,pos,after,none⟩ (yielded ops a.tmps)=true then
   Oper.wp P ⟨dst,.call { callee:= .builtin .append,args:=#[s,y],argTypes:=#[ty,ty] },t,pos,after,none⟩ a w K Q else E:=by
 obtain ⟨hu,i,z,hi,hz,e1,e2,e3,e4⟩:=appB_spec hb
 subst e2
 refine step_append (w0:=w0) rFz s y ty rFz _ i z hu hi hz e1 e3 e4 hv hy h1 hs hx (by unfold maxLen;omega) ?_ fun v' w' h2 _=>hK v' w' h2
 exact Nat.le_trans (Nat.mul_le_mul hl hby) dCz
end
end Go.Proofs.YtlimfgdbfadohaaGreatDoor
namespace Go.Seg
open Go.Med
section
variable {φ:Nat→Nat}{V:Nat→Prop}{M D:Med}{K:Nat}{L:Log}
end
structure Two (i:Nat) (L:Log) (M D:Med):Prop where
 log:L.Ok
 ok:M.Ok (i * 2000)
 fit:Fit (i * 2000) D
 side:∃ φ V,Side φ V M D
 fresh:L.fresh≤i
section
variable {i:Nat}{M D:Med}{L:Log}
end
def Log.drop (t:List Int):Nat→Log→Med→(Log×Med)×Int
 |0,L,M=>if t=[] then ((L,M),0) else ((L,M.syncDir.1),M.syncDir.2)
 |k+1,L,M=>if (L.remove M (t.getD k 0)).2=0 then Log.drop t k (L.remove M (t.getD k 0)).1.1 (L.remove M (t.getD k 0)).1.2 else L.remove M (t.getD k 0)
section
variable {t:List Int}{L:Log}{M D:Med}{K i:Nat}
theorem drop_nil (h:t=[]):Log.drop t 0 L M=((L,M),0):=by unfold Log.drop;rw [if_pos h]
theorem drop_end (h:t≠[]):Log.drop t 0 L M=((L,M.syncDir.1),M.syncDir.2):=by unfold Log.drop;rw [if_neg h]
theorem drop_go {k:Nat} (h:(L.remove M (t.getD k 0)).2=0):Log.drop t (k+1) L M=Log.drop t k (L.remove M (t.getD k 0)).1.1 (L.remove M (t.getD k 0)).1.2:=by
 conv=>lhs;unfold Log.drop
 rw [if_pos h]
theorem drop_no {k:Nat} (h:(L.remove M (t.getD k 0)).2≠0):Log.drop t (k+1) L M=L.remove M (t.getD k 0):=by
 conv=>lhs;unfold Log.drop
 rw [if_neg h]
theorem remove_med (h:M.Ok K) (n:Int):(L.remove M n).1.2.Ok (K+1):=by
 unfold Log.remove
 cases L.at n with
 |none=>exact h.mono (Nat.le_succ K)
 |some i=>simp only;split <;> exact h.remove _
end
end Go.Seg
namespace Go.Proofs.YtlimfgdbfadohaaGreatDoor
open Go Go.Sl Go.Med Go.MapKept Go.RowKit
def RunOut (w0:World) (F:List HProp) (bt:Rep.Told) (ns:List Int) (p m:Nat) (L:Seg.Log) (M:Med) (v:Value) (w':World):Prop:=
 match Rep.run bt ns with
 |.inl (fl,e)=>v = .tuple #[.pointer none,.agg (fltA fl),errno e]∧Sat w0 w' (LogRep p m L::MedRep m M::F)
 |.inr n=>∃ (ps pi:Nat) (uv tv av:Value) (kv:List (Frm.Bs×Rep.Abt)),v = .tuple #[ptr ps,.agg (fltA Rep.Flt.zero),errno 0] ∧
   (Tab.Lists (Rep.ledger (Rep.rowsOf bt (ns.take n))) kv∧(∀ q∈kv,q.1.length=32)∧kv.length≤(Rep.rowsOf bt (ns.take n)).length) ∧
   ((∃ a' c',tv = .slice a' (ns.length - n) c')∧∀ W,rdsl 1 av (ints ns) W→rdsl 1 tv (ints (ns.drop n)) W) ∧
   Sat w0 w' (stPt ps (Rep.lastOfL (ns.take n)) pi uv tv::TabML pi (Tab.mapOf (Rep.puts kv)) kv.length::osl 207 3 uv (((Rep.usesOf bt (ns.take n)).map (Rep.upd kv)).flatMap uenc)::osl 3 1 av (ints ns)::LogRep p m L::MedRep m M::F)
section
variable {w0 w:World}{F:List HProp}{p m K:Nat}{L:Seg.Log}{M:Med}
theorem zLed:zeroB Tryz.prog 216=some (.agg #[.pointer none]):=by kernel_rfl
set_option maxRecDepth 20000 in
theorem run_c (hL:L.Ok) (hM:M.Ok K) (hH:Ro w0 F Half) (hrows:(Rep.rowsOf (lbt L M) L.segs).length≤12000000) (hsz:∀ r∈Rep.rowsOf (lbt L M) L.segs,(r.2.size:Int)≤4294967296) (h:Sat w0 w (LogRep p m L::MedRep m M::F)) :
  Calls Tryz.prog 78 #[ptr p] w (Rtn fun v w'=>RunOut w0 F (lbt L M) L.segs p m L M v w'):=by
 have Hlen:=uQ (show L.segs.length≤1048576 from by unfold Seg.Log.segs;rw [List.length_map];have:=hL.len;omega)
 have hse:=lsegs_c hL h
 have Hnn:=uQ (show ∀ s∈L.segs,0≤s from fun s hs=>by
  unfold Seg.Log.segs at hs
  obtain ⟨x,hx,rfl⟩:=List.mem_map.1 hs
  exact (hL.nums x hx).1)
 have HL:=uQ hL;have HM:=uQ hM;have HH:=uQ hH;have Hrows:=uQ hrows;have Hsz:=uQ hsz
 clear hL hM hH hrows hsz
 go_enter Tryz.func78,Tryz.ntmps78
 go_wp2_with (with_reducible apply at_alloc)
 refine ⟨wl_alloc zFlt h rfl ?_⟩
 intro b3 w3 h3
 clear hse h
 go_wp2_with fail
 refine (lsegs_c HL.out (h3.pick pick1)).mono ?_
 rintro ee w4 ⟨sv,rfl,h4⟩
 have hsp:=split_c HL.out HM.out (Ro.os HH.out) (h4.sb:Sat w0 w4 (osl 3 1 sv (ints L.segs)::LogRep p m L::MedRep m M::pt b3 (.cells (fltA Rep.Flt.zero) 53 (0,0))::F))
 clear h3 h4
 go_wp2_with fail
 refine hsp.mono ?_
 rintro ee w5 ⟨v,rfl,rfl,h5⟩
 clear hsp
 by_cases h0:(Rep.split (lbt L M) L.segs L.segs.length).2=0
 rotate_left
 ·have hb:((Rep.split (lbt L M) L.segs L.segs.length).2 != 0)=true:=by rw [bne_iff_ne];exact h0
  have Hf:=uQ (show Rep.run (lbt L M) L.segs = .inl (Rep.Flt.zero,(Rep.split (lbt L M) L.segs L.segs.length).2) by unfold Rep.run;rw [if_pos h0])
  have h6:Sat w0 w5 (pt b3 (.cells (fltA Rep.Flt.zero) 53 (0,0))::LogRep p m L::MedRep m M::F):=h5.sb
  clear h0 h5
  go_wp2_with (first
   |((with_reducible refine at_build0 ⟨?_⟩);refine wl_build0 (fun w=>run_flt0 w) ?_)
   |((with_reducible refine at_store ⟨?_⟩);refine wl_storeA (fltA Rep.Flt.zero) h6 rFz rFz rFz upd0 kRz rFz ?_;intro w9 h9))
  refine ⟨rfl,_,res_tct rfl h9 rFz pkD Tryz.underlying53 rfl kRz,_,rfl,?_⟩
  unfold RunOut
  rw [Hf.out]
  exact ⟨rfl,h9.drop⟩
 have hb:((Rep.split (lbt L M) L.segs L.segs.length).2 != 0)=false:=by rw [h0];rfl
 have Hle:=uQ (Rep.split_le (lbt L M) L.segs L.segs.length)
 have Hf:=uQ (show Rep.run (lbt L M) L.segs=Rep.runAt (lbt L M) L.segs (Rep.split (lbt L M) L.segs L.segs.length).1 by unfold Rep.run;rw [if_neg (fun h=>h h0)])
 rw [h0]
 generalize (Rep.split (lbt L M) L.segs L.segs.length).1=n at *
 clear h0
 obtain ⟨tv,htl,⟨ta,tc,rfl⟩,htr⟩:=tail_c Hle.out h5
 have Htr:=uQ htr
 clear htr
 go_wp2_with fail
 have hG:True:=trivial
 have h6:=h5.drew
 clear h5
 refine wpL_begin [] (fun w'=>True) kRz ?_
 refine rP 1 ?_ (y:=mvQ)
 refine rP 2 ?_ (y:=mvQ)
 refine rP 3 ?_ (y:=(yl_slice_lo evD evD htl))
 refine rg_eff 0 evD kRz (fun K hK=>?_)
 refine eff_call [] kRz (by simp) ?_
 refine (newL_c h6).mono ?_
 rintro ee w7 ⟨v,rfl,pi,rfl,h7⟩
 refine hK _ _ (.inr (.inl trivial)) ?_
 clear hK h6
 refine rp 4 (hy:=(by (refine Or.inl ⟨by rfl,?_⟩;((intro wq;go_simp);first|done|exact wQ)))) (h:=?_)
 refine rg_eff 5 evD kRz (fun K hK=>?_)
 refine eff_box (cs:=#[.int .i64 (-1),ptr pi,.slice none 0 0,.slice ta (L.segs.length - n) tc]) h7 evD evD ?_
 intro ps w8 h8
 refine hK _ _ (.inr (.inl trivial)) ?_
 clear hK h7
 refine rP 6 ?_ (y:=asQ)
 refine wpL_done kRz ?_
 clear hG
 go_wp2_with fail
 refine (newA_c h8).mono ?_
 rintro ee w9 ⟨v,rfl,pg,rfl,h9⟩
 clear h8
 go_wp2_with (with_reducible apply at_alloc)
 refine ⟨wl_alloc zLed h9 rfl ?_⟩
 intro b9 w10 h10
 clear h9
 obtain ⟨ha,hc,hhl,hhr⟩:=head_c Hle.out (h10.sb:Sat w0 w10 (osl 3 1 sv (ints L.segs)::F))
 go_wp2_with ((with_reducible refine at_store ⟨?_⟩);refine wl_store (cs':=#[ptr pg]) h10 rFz evD rFz upd0 nLz kRz rFz ?_;intro w11 h11)
 have h12:Sat w0 w11 (stPt ps (Rep.lastOfL (L.segs.take 0)) pi (.slice none 0 0) (.slice ta (L.segs.length - n) tc)::osl 207 3 (.slice none 0 0) ((Rep.usesOf (lbt L M) (L.segs.take 0)).flatMap uenc)::TabML pi (fun _=>none) 0::pt b9 (.cells #[ptr pg] 216 (0,0)) ::
  TabMA pg (Rep.ledger (Rep.rowsOf (lbt L M) (L.segs.take 0))) (Rep.rowsOf (lbt L M) (L.segs.take 0)).length::pt b3 (.cells (fltA Rep.Flt.zero) 53 (0,0))::osl 3 1 sv (ints L.segs)::LogRep p m L::MedRep m M::F):=(Sat.osl_nil.2 h11).sb
 clear h10 h11 htl
 go_loopg [45] n (fun g iq wr=>∃ (i:Nat) (uv:Value),g=n - i∧i≤n∧iq = .int .i64 i∧Rep.bad (lbt L M) (L.segs.take i)=none∧Sat w0 wr (stPt ps (Rep.lastOfL (L.segs.take i)) pi uv (.slice ta (L.segs.length - n) tc)::osl 207 3 uv ((Rep.usesOf (lbt L M) (L.segs.take i)).flatMap uenc)::TabML pi (fun _=>none) 0::pt b9 (.cells #[ptr pg] 216 (0,0)) ::
  TabMA pg (Rep.ledger (Rep.rowsOf (lbt L M) (L.segs.take i))) (Rep.rowsOf (lbt L M) (L.segs.take i)).length::pt b3 (.cells (fltA Rep.Flt.zero) 53 (0,0))::osl 3 1 sv (ints L.segs)::LogRep p m L::MedRep m M::F))
 case atStart=>exact ⟨0,.slice none 0 0,rfl,Nat.zero_le _,rfl,rfl,h12⟩
 case round=>
  obtain ⟨i,uv,rfl,hi,rfl,hbad,hS⟩:=hrel
  clear h12
  have Hbad:=uQ hbad
  clear hbad
  by_cases hlt:i<n
  rotate_left
  ·obtain rfl:i=n:=by omega
   have c1:¬ (i:Int)<(i:Int):=oQ
   obtain ⟨kv,k1,k2,k3⟩:=TabMA.lists (hS.pk (A:=TabMA pg (Rep.ledger (Rep.rowsOf (lbt L M) (L.segs.take i))) (Rep.rowsOf (lbt L M) (L.segs.take i)).length))
   have k4:=Nat.le_trans (Rep.rowsOf_le (lbt L M) L.segs i) Hrows.out
   have hks:∀ q∈kv,q.1.length=32∧0≤q.2.place.size∧q.2.place.size≤4294967296:=fun q hq=>by
    obtain ⟨r,hr,e⟩:=Rep.ledger_place ((k1.mem q.1 q.2).1 hq)
    rw [e]
    exact ⟨k2 q hq,Int.natCast_nonneg _,Hsz.out r (Rep.rowsOf_take _ _ _ r hr)⟩
   have hfl:=fill_c (us:=Rep.usesOf (lbt L M) (L.segs.take i)) k1 oQ oQ hks (by unfold Rep.usesOf;rw [List.length_map,List.length_take];have:=Hlen.out;omega)
    (hS.sb:Sat w0 wr (stPt ps (Rep.lastOfL (L.segs.take i)) pi uv (.slice ta (L.segs.length - i) tc)::TabML pi (fun _=>none) 0::TabMA pg (Rep.ledger (Rep.rowsOf (lbt L M) (L.segs.take i))) (Rep.rowsOf (lbt L M) (L.segs.take i)).length ::
     osl 207 3 uv ((Rep.usesOf (lbt L M) (L.segs.take i)).flatMap uenc)::pt b3 (.cells (fltA Rep.Flt.zero) 53 (0,0))::osl 3 1 sv (ints L.segs)::LogRep p m L::MedRep m M::F))
   have K:=uQ (And.intro k1 (And.intro k2 k3))
   have Hg:=uQ (Hf.out.trans (Rep.runAt_none Hbad.out))
   have Htv:=uQ Htr.out
   clear k1 k2 k3 k4 hks hlt hi
   go_wp2_with ((with_reducible refine at_load ⟨?_⟩);refine wl_loadA (cs:=#[ptr pg]) hS rFz (pick_there (pick_there (pick_there pick0))) Tryz.underlying216 rfl kRz ?_)
   refine hfl.mono ?_
   rintro ee w14 ⟨v,rfl,h14⟩
   clear hfl hS
   go_wp2_with (first
    |((with_reducible refine at_build0 ⟨?_⟩);refine wl_build0 (fun w=>run_flt0 w) ?_)
    |((with_reducible refine at_store ⟨?_⟩);refine wl_storeA (fltA Rep.Flt.zero) h14 rFz rFz rFz (upd_there (upd_there (upd_there (upd_there upd0)))) kRz rFz ?_;intro w15 h15))
   refine ⟨rfl,_,res_tct rfl h15 rFz (pick_there (pick_there (pick_there (pick_there pick0)))) Tryz.underlying53 rfl kRz,_,rfl,?_⟩
   unfold RunOut
   rw [Hg.out]
   exact ⟨ps,pi,uv,.slice ta (L.segs.length - i) tc,sv,kv,rfl,K.out,⟨⟨ta,tc,rfl⟩,Htv.out⟩,h15.sb⟩
  have c1:(i:Int)<(n:Int):=oQ
  have hwi:IntKind.i64.wrap ((i:Int)+1)=(i:Int)+1:=IntWalk.i64_in _ (by have:=Hle.out;have:=Hlen.out;omega)
  have hni:(L.segs.take n).length=n:=by rw [List.length_take];have:=Hle.out;omega
  obtain ⟨s,hs⟩:∃ s,(L.segs.take n)[i]?=some s:=⟨_,List.getElem?_eq_getElem oQ⟩
  have hs2:L.segs[i]?=some s:=by rw [List.getElem?_take]at hs;rw [if_pos hlt]at hs;exact hs
  have Htk:=uQ (show L.segs.take (i+1)=L.segs.take i++[s] by rw [List.take_add_one,hs2,Option.toList_some])
  have Hspl:=uQ (show ∃ post,L.segs.take n=L.segs.take i++s::post by
   obtain ⟨h1,e⟩:=List.getElem?_eq_some_iff.1 hs
   refine ⟨(L.segs.take n).drop (i+1),?_⟩
   have e2:L.segs.take i=(L.segs.take n).take i:=by rw [List.take_take,Nat.min_eq_left (Nat.le_of_lt hlt)]
   rw [e2,← e,← List.drop_eq_getElem_cons h1,List.take_append_drop])
  have Hs0:=uQ (Hnn.out s (List.mem_of_getElem? hs2))
  obtain ⟨bk,off,c',hsv,f0⟩:=ints_cell (hhr _ (Sat.rd (hS.pk (A:=osl 3 1 sv (ints L.segs))))) hs
  rw [hni]at hsv
  cases hsv
  have hb:=lbytes_c HL.out HM.out s (hS.sb:Sat w0 wr (LogRep p m L::MedRep m M::stPt ps (Rep.lastOfL (L.segs.take i)) pi uv (.slice ta (L.segs.length - n) tc)::osl 207 3 uv ((Rep.usesOf (lbt L M) (L.segs.take i)).flatMap uenc)::TabML pi (fun _=>none) 0::pt b9 (.cells #[ptr pg] 216 (0,0)) ::
   TabMA pg (Rep.ledger (Rep.rowsOf (lbt L M) (L.segs.take i))) (Rep.rowsOf (lbt L M) (L.segs.take i)).length::pt b3 (.cells (fltA Rep.Flt.zero) 53 (0,0))::osl 3 1 sv (ints L.segs)::F))
  have Hlt:=uQ hlt
  clear hS hs hs2 hni hlt hi
  go_wp2_with fail
  refine hb.mono ?_
  rintro ee w20 ⟨v,rfl,bv,rfl,h20⟩
  clear hb f0
  obtain ⟨hcap,ca,cc,rfl⟩:=bsl_capL h20
  by_cases h0:(L.bytes M s).2=0
  rotate_left
  ·have hb1:((L.bytes M s).2 != 0)=true:=by rw [bne_iff_ne];exact h0
   have Hg:=uQ (show Rep.run (lbt L M) L.segs = .inl (Rep.Flt.zero,(L.bytes M s).2) by
    rw [Hf.out]
    obtain ⟨post,e⟩:=Hspl.out
    exact Rep.runAt_bad (by rw [e];exact Rep.bad_power Hbad.out h0))
   have h21:Sat w0 w20 (pt b3 (.cells (fltA Rep.Flt.zero) 53 (0,0))::LogRep p m L::MedRep m M::F):=h20.sb
   clear h20 h0 hcap
   go_wp2_with (first
    |((with_reducible refine at_build0 ⟨?_⟩);refine wl_build0 (fun w=>run_flt0 w) ?_)
    |((with_reducible refine at_store ⟨?_⟩);refine wl_storeA (fltA Rep.Flt.zero) h21 rFz rFz rFz upd0 kRz rFz ?_;intro w22 h22))
   refine ⟨rfl,_,res_tct rfl h22 rFz pkD Tryz.underlying53 rfl kRz,_,rfl,?_⟩
   unfold RunOut
   rw [Hg.out]
   exact ⟨rfl,h22.drop⟩
  have hb1:((L.bytes M s).2 != 0)=false:=by rw [h0];rfl
  have H0:=uQ h0
  rw [h0]
  clear h0
  have hbl:=Seg.bytes_len (L:=L) HM.out s
  have hsc:=fscan_c (w0:=w0) (w:=w20) (L.bytes M s).1 (Ro.bsl _ _) hcap (Ro.os HH.out) (Nat.le_trans hbl dCz) h20
  clear hcap
  go_wp2_with fail
  refine hsc.mono ?_
  rintro ee w21 ⟨v,rfl,fs,fv,hfs,hfk,rfl,h21⟩
  clear hsc h20
  obtain ⟨fa,fc,rfl⟩:=fnds_sl hfk h21
  by_cases h1:(Frm.scan (L.bytes M s).1).2.2=0
  rotate_left
  ·have hb2:((Frm.scan (L.bytes M s).1).2.2 != 0)=true:=by rw [bne_iff_ne];exact h1
   have Hg:=uQ (show Rep.run (lbt L M) L.segs = .inl (Rep.fault s (Frm.scan (L.bytes M s).1).2.1,13) by
    rw [Hf.out]
    obtain ⟨post,e⟩:=Hspl.out
    exact Rep.runAt_bad (by rw [e];exact Rep.bad_scan Hbad.out H0.out h1))
   have h22:Sat w0 w21 (pt b3 (.cells (fltA Rep.Flt.zero) 53 (0,0))::LogRep p m L::MedRep m M::F):=h21.sb
   clear h21 h1 hfs hfk
   go_wp2_with fail
   refine (fault_c s (Frm.scan (L.bytes M s).1).2.1 h22).mono ?_
   rintro ee w23 ⟨v,rfl,rfl,h23⟩
   clear h22
   go_wp2_with ((with_reducible refine at_store ⟨?_⟩);refine wl_storeA (fltA (Rep.fault s (Frm.scan (L.bytes M s).1).2.1)) h23 rFz rFz rFz upd0 kRz rFz ?_;intro w24 h24)
   refine ⟨rfl,_,res_tct rfl h24 rFz pkD Tryz.underlying53 rfl kRz,_,rfl,?_⟩
   unfold RunOut
   rw [Hg.out]
   exact ⟨rfl,h24.drop⟩
  have hb2:((Frm.scan (L.bytes M s).1).2.2 != 0)=false:=by rw [h1];rfl
  have H1:=uQ h1
  rw [h1]
  clear h1
  have h22:Sat w0 w21 (TabMA pg (Rep.ledger (Rep.rowsOf (lbt L M) (L.segs.take i)++(fs.take 0).map fun q=>(s,q.1))) ((Rep.rowsOf (lbt L M) (L.segs.take i)).length+0)::stPt ps (Rep.lastOfL (L.segs.take i)) pi uv (.slice ta (L.segs.length - n) tc)::osl 207 3 uv ((Rep.usesOf (lbt L M) (L.segs.take i)).flatMap uenc)::TabML pi (fun _=>none) 0::pt b9 (.cells #[ptr pg] 216 (0,0)) ::
   pt b3 (.cells (fltA Rep.Flt.zero) 53 (0,0))::osl 3 1 sv (ints L.segs)::LogRep p m L::MedRep m M::osl 223 36 (.slice fa fs.length fc) (fndsL fs)::dataF fs::F):=by
   have q:Sat w0 w21 (TabMA pg (Rep.ledger (Rep.rowsOf (lbt L M) (L.segs.take i))) (Rep.rowsOf (lbt L M) (L.segs.take i)).length::stPt ps (Rep.lastOfL (L.segs.take i)) pi uv (.slice ta (L.segs.length - n) tc)::osl 207 3 uv ((Rep.usesOf (lbt L M) (L.segs.take i)).flatMap uenc)::TabML pi (fun _=>none) 0::pt b9 (.cells #[ptr pg] 216 (0,0)) ::
   pt b3 (.cells (fltA Rep.Flt.zero) 53 (0,0))::osl 3 1 sv (ints L.segs)::LogRep p m L::MedRep m M::osl 223 36 (.slice fa fs.length fc) (fndsL fs)::dataF fs::F):=h21.sb
   rw [List.take_zero,List.map_nil,List.append_nil,Nat.add_zero]
   exact q
  have Hcnt:=uQ (show (Rep.rowsOf (lbt L M) (L.segs.take i)).length+fs.length≤12000000 by
   have q1:=Rep.rowsOf_le (lbt L M) L.segs (i+1)
   rw [Htk.out,Rep.rowsOf_snoc,List.length_append,List.length_map,show (Frm.scan (lbt L M s).1).1=fs.map (·.1) from hfs.symm,List.length_map]at q1
   exact Nat.le_trans q1 Hrows.out)
  have hfl:fs.length≤16777216:=by
   have:=Frm.scan_count (L.bytes M s).1
   rw [← hfs,List.length_map]at this;omega
  have Hfl:=uQ hfl;have Hfs:=uQ hfs;have Hfk:=uQ hfk
  clear h21 hbl hfs hfk
  go_wp2_with fail
  go_loopg [72] fs.length (fun g jq wr=>∃ j:Nat,g=fs.length - j∧j≤fs.length∧jq = .int .i64 j∧Sat w0 wr (TabMA pg (Rep.ledger (Rep.rowsOf (lbt L M) (L.segs.take i)++(fs.take j).map fun q=>(s,q.1))) ((Rep.rowsOf (lbt L M) (L.segs.take i)).length+j)::stPt ps (Rep.lastOfL (L.segs.take i)) pi uv (.slice ta (L.segs.length - n) tc)::osl 207 3 uv ((Rep.usesOf (lbt L M) (L.segs.take i)).flatMap uenc)::TabML pi (fun _=>none) 0::pt b9 (.cells #[ptr pg] 216 (0,0)) ::
   pt b3 (.cells (fltA Rep.Flt.zero) 53 (0,0))::osl 3 1 sv (ints L.segs)::LogRep p m L::MedRep m M::osl 223 36 (.slice fa fs.length fc) (fndsL fs)::dataF fs::F))
  case atStart=>exact ⟨0,rfl,Nat.zero_le _,rfl,h22⟩
  case round=>
   obtain ⟨j,rfl,hj,rfl,hS⟩:=hrel
   clear h22
   by_cases hjl:j<fs.length
   rotate_left
   ·obtain rfl:j=fs.length:=by omega
    have d1:¬ (fs.length:Int)<(fs.length:Int):=oQ
    rw [List.take_length]at hS
    clear hjl hj
    have hul:((Rep.usesOf (lbt L M) (L.segs.take i)).flatMap uenc).length≤2147483648:=by
     rw [rows_len (k:=3) fun u _=>rfl]
     unfold Rep.usesOf
     rw [List.length_map,List.length_take]
     have:=Hlen.out;omega
    go_wp2_with (first
     |((with_reducible refine at_store ⟨?_⟩);refine wl_store (cs':=#[.int .i64 s,ptr pi,uv,.slice ta (L.segs.length - n) tc]) hS rFz evD rFz (upd_there upd0) nLz kRz rFz ?_;intro w40 h40)
     |((with_reducible refine at_load ⟨?_⟩);refine wl_load1 h40 rFz (pick_there pick0) nLz evD kRz ?_)
     |(with_reducible apply at_build1))
    refine ⟨wl_build1 (e:=207) (sz:=3) (by':=24) kRz h40 rFz (cs:=#[.int .i64 s,.int .i64 ((L.bytes M s).1.length:Nat),.int .i64 0]) rfl rfl dCz ?_⟩
    intro b41 w41 h41
    go_wp2_with (with_reducible apply at_append)
    refine ⟨wl_app 207 3 24 kRz h41 rFz rFz (pick_there (pick_there (pick_there pick0))) pick0 rfl (Nat.le_refl 1) rFz hul (by show 3≤65536;decide) dCz rfl ?_⟩
    intro bA nA cA w42 h42
    go_wp2_with ((with_reducible refine at_store ⟨?_⟩);refine wl_store (cs':=#[.int .i64 s,ptr pi,.slice (some ⟨bA,0,none⟩) nA cA,.slice ta (L.segs.length - n) tc]) h42 rFz evD rFz (upd_there (upd_there upd0)) nLz kRz rFz ?_;intro w43 h43)
    have h44:Sat w0 w43 (stPt ps (Rep.lastOfL (L.segs.take (i+1))) pi (.slice (some ⟨bA,0,none⟩) nA cA) (.slice ta (L.segs.length - n) tc)::osl 207 3 (.slice (some ⟨bA,0,none⟩) nA cA) ((Rep.usesOf (lbt L M) (L.segs.take (i+1))).flatMap uenc)::TabML pi (fun _=>none) 0::pt b9 (.cells #[ptr pg] 216 (0,0)) ::
     TabMA pg (Rep.ledger (Rep.rowsOf (lbt L M) (L.segs.take (i+1)))) (Rep.rowsOf (lbt L M) (L.segs.take (i+1))).length::pt b3 (.cells (fltA Rep.Flt.zero) 53 (0,0))::osl 3 1 sv (ints L.segs)::LogRep p m L::MedRep m M::F):=by
     rw [Htk.out,Rep.lastOfL_snoc,Rep.usesOf_snoc,Rep.rowsOf_snoc,List.length_append,List.length_map,show (Frm.scan (lbt L M s).1).1=fs.map (·.1) from Hfs.out.symm,List.length_map,List.map_map,List.flatMap_append]
     exact h43.sb
    clear h40 h41 h42 h43 hS
    go_roundg (n - (i+1))
    case measure=>have:=Hlt.out;omega
    case rel=>exact ⟨i+1,.slice (some ⟨bA,0,none⟩) nA cA,rfl,Hlt.out,by first|rfl|go_num,by rw [Htk.out];exact Rep.bad_none Hbad.out H0.out H1.out,h44⟩
   have d1:(j:Int)<(fs.length:Int):=oQ
   have hwj:IntKind.i64.wrap ((j:Int)+1)=(j:Int)+1:=IntWalk.i64_in _ oQ
   obtain ⟨⟨f,dv⟩,hq⟩:∃ q,fs[j]?=some q:=⟨_,List.getElem?_eq_getElem hjl⟩
   have hkf:f.e.key.length=32:=Hfk.out _ (List.mem_of_getElem? hq)
   obtain ⟨da,dn,dc,rfl,_,_⟩:=dataF_ro hq wr (hS.pk (A:=dataF fs))
   obtain ⟨bk2,off2,c2,e2,hcell⟩:=osl_row (f:=fun q:Frm.Fnd×Value=>fndL q.1 q.2) (k:=36) (fun q hq=>fndL_len q.1 q.2 (Hfk.out q hq)) (Sat.rd (hS.pk (A:=osl 223 36 (.slice fa fs.length fc) (fndsL fs)))) hq dCz
   cases e2
   have hl36:(fndL f (.slice da dn dc)).length=36:=fndL_len _ _ hkf
   have Htj:=uQ (show (fs.take (j+1)).map (fun q=>(s,q.1))=(fs.take j).map (fun q=>(s,q.1))++[(s,f)] by rw [List.take_add_one,hq,Option.toList_some,List.map_append];rfl)
   have Hjl:=uQ hjl;have Hkf:=uQ hkf
   clear hq hkf hj
   go_wp2_with (first
    |((with_reducible refine at_load ⟨?_⟩);refine wl_loadW (b:=bk2) (o:=off2+j * 36) (fndL f (.slice da dn dc)) rFz hcell Tryz.underlying223 rfl (by rw [hl36];kernel_rfl) ?_)
    |(with_reducible apply at_alloc))
   refine ⟨wl_alloc zFnd hS rfl ?_⟩
   intro b17 w30 h30
   go_wp2_with (first
    |((with_reducible refine at_store ⟨?_⟩);refine wl_storeA (fndA f (.slice da dn dc)) h30 rFz rFz (by rw [fndA_size _ _ Hkf.out];rfl) upd0 (by rw [fndA_size _ _ Hkf.out];kernel_rfl) (fndA_ones _ _ _ _) ?_;intro w31 h31)
    |((with_reducible refine at_load ⟨?_⟩);refine wl_loadA (cs:=fndA f (.slice da dn dc)) h31 rFz pick0 Tryz.underlying223 rfl (by rw [fndA_size _ _ Hkf.out];kernel_rfl) ?_)
    |((with_reducible refine at_load ⟨?_⟩);refine wl_loadA (cs:=#[ptr pg]) h31 rFz (pick_there (pick_there (pick_there (pick_there (pick_there pick0))))) Tryz.underlying216 rfl kRz ?_))
   have hrl:=Rep.rowsOf_le (lbt L M) L.segs i
   refine (take_c (p:=pg) s f Hkf.out (by have:=Hrows.out;have:=Hfl.out;have:=Hjl.out;have:=Hcnt.out;omega) (h31.pick pick1)).mono ?_
   rintro ee w32 ⟨v,rfl,h32⟩
   clear h30 h31 hS hcell
   have hnn:∀ x∈Rep.rowsOf (lbt L M) (L.segs.take i)++(fs.take j).map (fun q=>(s,q.1)),0≤x.1:=fun x hx=>by
    rcases List.mem_append.1 hx with hx|hx
    ·unfold Rep.rowsOf at hx
     obtain ⟨u,hu,hx⟩:=List.mem_flatMap.1 hx
     obtain ⟨g,_,rfl⟩:=List.mem_map.1 hx
     exact Hnn.out u (List.mem_of_mem_take hu)
    ·obtain ⟨g,_,rfl⟩:=List.mem_map.1 hx
     exact Hs0.out
   rw [← Rep.ledger_snoc _ _ hnn,List.append_assoc,← Htj.out]at h32
   clear hnn
   go_wp2_with fail
   go_roundg (fs.length - (j+1))
   case measure=>have:=Hjl.out;omega
   case rel=>exact ⟨j+1,rfl,Hjl.out,by first|rfl|go_num,h32.sb⟩
end
end Go.Proofs.YtlimfgdbfadohaaGreatDoor
namespace Go.Rep
open Go.Frm (Bs Fnd Ent fnds encs GoodE)
open Go.Seg (Plc mag)
open Go.Tab
theorem newest_some:∀ {l:List Row}{k:Bs}{r:Row},newest l k=some r→r∈l∧rtag r≠2∧rkey r=k
 |[],_,_,h=>by cases h
 |x::l,k,r,h=>by
  unfold newest at h
  split at h
  ·rename_i y hy
   cases h
   obtain ⟨h1,h2⟩:=newest_some hy
   exact ⟨.tail _ h1,h2⟩
  ·split at h
   ·rename_i hh
    cases h
    exact ⟨.head _,hh⟩
   ·cases h
end Go.Rep
namespace Go.Seg
open Go.Med
open Go.Frm (Bs Fnd encs GoodE fnds Ent)
open Go.Rep
section
variable {n:Nat}{ds:List Ent}{L:Log}{M:Med}{C:List (List Ent)}{c:Nat}
end
end Go.Seg
namespace Go.Rep
open Go.Frm (Bs Fnd Ent fnds encs GoodE)
open Go.Seg (Plc mag)
open Go.Tab
def nowOf (l:List Row) (k:Bs):Option Plc:=(newest l k).bind fun r=>if rtag r=0 then some (rplc r) else none
def objOf (es:List Ent) (k:Bs):Option Bs:=(lastE es k).bind fun e=>if e.tag=0 then some e.data else none
section
variable {l:List Row}{r:Row}{k:Bs}{es:List Ent}{x:Ent}{C:List (List Ent)}
theorem nowOf_put (h:rtag r=0):nowOf (l++[r])=Tab.put (nowOf l) (rkey r) (rplc r):=by
 funext k
 unfold nowOf Tab.put
 rw [newest_snoc]
 by_cases hk:k=rkey r
 ·rw [if_pos ⟨by rw [h];decide,hk.symm⟩,if_pos hk]
  show (if rtag r=0 then some (rplc r) else none)=_
  rw [if_pos h]
 ·rw [if_neg (fun q=>hk q.2.symm),if_neg hk]
theorem nowOf_obj (l:List Row) (k:Bs):(nowOf l k).isSome=(objOf (l.map (·.2.e)) k).isSome∧∀ r,newest l k=some r→rtag r=0→objOf (l.map (·.2.e)) k=some r.2.e.data:=by
 have e:=newest_e l k
 unfold nowOf objOf
 rw [← e]
 cases hn:newest l k with
 |none=>exact ⟨rfl,fun r hr=>by cases hr⟩
 |some r=>
  refine ⟨?_,fun r' hr h0=>?_⟩
  ·show (if rtag r=0 then some (rplc r) else none).isSome=(if r.2.e.tag=0 then some r.2.e.data else none).isSome
   unfold rtag
   split <;> rfl
  ·cases hr
   show (if r.2.e.tag=0 then some r.2.e.data else none)=_
   rw [if_pos (show r.2.e.tag=0 from h0)]
theorem nowOf_data {p:Plc} (h:nowOf l k=some p):∃ r∈l,rplc r=p∧rtag r=0∧rkey r=k∧objOf (l.map (·.2.e)) k=some r.2.e.data:=by
 have h':=h
 unfold nowOf at h
 obtain ⟨r,h1,h2⟩:=Option.bind_eq_some_iff.1 h
 obtain ⟨h3,h4,h5⟩:=newest_some h1
 split at h2
 ·rename_i h6
  cases h2
  exact ⟨r,h3,rfl,h6,h5,(nowOf_obj l k).2 r h1 h6⟩
 ·cases h2
theorem objOf_put (h:x.tag=0):objOf (es++[x])=Tab.put (objOf es) x.key x.data:=by
 funext k
 unfold objOf Tab.put
 rw [lastE_snoc]
 by_cases hk:k=x.key
 ·rw [if_pos ⟨by rw [h];decide,hk.symm⟩,if_pos hk]
  show (if x.tag=0 then some x.data else none)=_
  rw [if_pos h]
 ·rw [if_neg (fun q=>hk q.2.symm),if_neg hk]
theorem fnds_snoc:∀ (es:List Ent) (a:Nat) (x:Ent),fnds (es++[x]) a=fnds es a++[⟨x,a+(encs es).length,(Frm.encode x).1.length⟩]
 |[],a,x=>by show [_]=[_];rw [show (encs []).length=0 from rfl,Nat.add_zero]
 |y::es,a,x=>by
  rw [List.cons_append,fnds,fnds,fnds_snoc es _ x,List.cons_append]
  rw [show encs (y::es)=(Frm.encode y).1++encs es from rfl,List.length_append,Nat.add_assoc]
theorem rowsC_app:∀ (C D:List (List Ent)) (k:Nat),rowsC k (C++D)=rowsC k C++rowsC (k+C.length) D
 |[],D,k=>rfl
 |es::C,D,k=>by
  rw [List.cons_append]
  show _++rowsC (k+1) (C++D)=(_++rowsC (k+1) C)++_
  rw [rowsC_app C D (k+1),List.append_assoc,List.length_cons,show k+1+C.length=k+(C.length+1) by omega]
def putRow (C:List (List Ent)) (b:Bool) (x:Ent):Row:=
 if b then (((C.length - 1:Nat):Int),⟨x,8+(encs (C.getLastD [])).length,(Frm.encode x).1.length⟩) else ((C.length:Int),⟨x,8,(Frm.encode x).1.length⟩)
theorem rowsC_put (C:List (List Ent)) (b:Bool) (x:Ent) (hb:b=true→C≠[]):rowsC 0 (Seg.put C b x)=rowsC 0 C++[putRow C b x]:=by
 cases b with
 |true=>
  have hne:=hb rfl
  unfold Seg.put putRow
  simp only [if_true]
  rw [rowsC_app]
  conv=>rhs;rw [Seg.last_of hne,rowsC_app]
  rw [List.append_assoc]
  congr 1
  show _++[]=(_++[])++_
  rw [List.append_nil,List.append_nil,fnds_snoc,List.map_append,List.length_dropLast,Nat.zero_add]
  have hg:(C.dropLast++[C.getLastD []]).getLastD []=C.getLastD []:=by rw [List.getLastD_eq_getLast?,List.getLast?_concat];rfl
  have hlen:(C.dropLast++[C.getLastD []]).length=C.length:=by rw [← Seg.last_of hne]
  rw [hg,hlen]
  rfl
 |false=>
  unfold Seg.put putRow
  simp only [Bool.false_eq_true,if_false]
  rw [rowsC_app]
  congr 1
  show _++[]=_
  rw [List.append_nil,Nat.zero_add]
  rfl
theorem putRow_e (C:List (List Ent)) (b:Bool) (x:Ent):(putRow C b x).2.e=x:=by
 unfold putRow;split <;> rfl
end
end Go.Rep
namespace Go.Seg
open Go.Med
open Go.Frm (Bs Ent encs GoodE)
open Go.Rep
section
variable {K r E B n:Nat}{L:Log}{M:Med}{C:List (List Ent)}{x:Ent}
theorem HG.append_at (h:HG K r E B n L M C) (h0:(Frm.encode x).2=0) (hz:(L.append M x).2.2=0):(L.append M x).2.1=rplc (putRow C (L.fits (Frm.encode x).1.length) x):=by
 cases hf:L.fits (Frm.encode x).1.length with
 |true=>
  rw [Log.append_grow h0 hf]at hz ⊢
  obtain ⟨s,hl⟩:=h.keeps.log.last (fits_on' hf)
  have hl':=hl
  rw [List.getLast?_eq_getElem?]at hl'
  have hlt:=(List.getElem?_eq_some_iff.1 hl').1
  have hlen:=h.len
  have hne:C≠[]:=by intro e;rw [e,List.length_nil]at hlen;omega
  have hcl:C[L.l.length - 1]?=some (C.getLastD []):=by
   conv=>lhs;rw [last_of hne]
   rw [List.getElem?_append_right (by rw [List.length_dropLast];omega),List.length_dropLast,show L.l.length - 1 - (C.length - 1)=0 by omega];rfl
  have hat:=h.at_ _ _ hcl
  rw [hl']at hat
  cases hat
  unfold Log.grow at hz ⊢
  rw [hl]at hz ⊢
  simp only at hz ⊢
  split at hz
  ·rename_i g
   rw [if_pos g]
   unfold putRow rplc
   simp only [if_true]
   rw [hlen]
   rfl
  ·rename_i g
   exact absurd hz g
 |false=>
  rw [Log.append_begin h0 hf]at hz ⊢
  obtain ⟨_,s2,s3,_,_⟩:=h.keeps.shut
  have hnx:(L.shut M).1.1.next=C.length:=by
   have:=h.next
   unfold Log.next at this ⊢
   rw [s3];exact this
  unfold Log.begin at hz ⊢
  rw [if_pos s2]at hz ⊢
  generalize (L.shut M).1.1=L1 at *
  generalize (L.shut M).1.2=M1 at *
  unfold Log.begin1 at hz ⊢
  by_cases g2:1048576≤L1.next
  ·rw [if_pos g2]at hz
   exact absurd (show (16:Int)=0 from hz) dCz
  rw [if_neg g2]at hz ⊢
  by_cases g3:(M1.create (name L1.next)).2=0
  rotate_left
  ·rw [if_pos g3]at hz
   exact absurd hz g3
  rw [if_neg (fun q=>q g3)]at hz ⊢
  by_cases g4:((M1.create (name L1.next)).1.append (name L1.next) (mag++(Frm.encode x).1)).2=0
  ·rw [if_pos g4,hnx]
   rfl
  rw [if_neg g4]at hz
  split at hz
  ·simp only at hz
   split at hz
   ·exact absurd hz dCz
   ·rename_i g5;exact absurd hz g5
  ·exact absurd hz g4
theorem HG.fits_ne (h:HG K r E B n L M C){k:Nat}:L.fits k=true→C≠[]:=fun hf=>by
 have h1:=h.keeps.log.on (fits_on' hf)
 intro e
 have:=h.len
 rw [e,List.length_nil]at this
 exact h1 (List.eq_nil_of_length_eq_zero this)
end
end Go.Seg
namespace Go.Frm
end Go.Frm
namespace Go.Proofs.YtlimfgdbfadohaaGreatDoor
open Go Go.Sl Go.Med Go.MapKept Go.RowKit
section
variable {w0 w:World}{F:List HProp}{av bv v:Value}
theorem bys_at {l:Bs}{i:Nat}{x:UInt8} (h:l[i]?=some x):(bys l)[i]?=some (.int .u8 x.toNat):=by unfold bys;rw [List.getElem?_map,h];rfl
theorem take_next {α:Type}{a b:List α}{i:Nat}{x:α} (h:a.take i=b.take i) (h1:a[i]?=some x) (h2:b[i]?=some x):a.take (i+1)=b.take (i+1):=by
 rw [List.take_add_one,List.take_add_one,h,h1,h2]
theorem rsame_c (la lb:Bs) (ha:Ro w0 F (rdsl 1 av (bys la))) (hb:Ro w0 F (rdsl 1 bv (bys lb))) (h:Sat w0 w F) (hlen:la.length≤1099511627776) :
  Calls Tryz.prog 12 #[av,bv] w (Rtn fun v w'=>v = .bool (decide (la=lb))∧Sat w0 w' F):=by
 obtain ⟨aa,an,ac,rfl,hal,_⟩:=id (ha w h)
 obtain ⟨ba,bn,bc,rfl,hbl,_⟩:=id (hb w h)
 rw [bys_len,Nat.mul_one]at hal hbl
 subst hal;subst hbl
 have Ha:=uQ ha;have Hb:=uQ hb;have Hlen:=uQ hlen
 clear ha hb hlen
 by_cases hl:la.length=lb.length
 ·have Hl:=uQ hl
  have hli:(la.length:Int)=(lb.length:Int):=oQ
  go_enter Tryz.func12,Tryz.ntmps12
  clear hl
  go_wp2_with fail
  clear hli
  go_loopg [5] la.length (fun g iq wr=>∃ i:Nat,g=la.length - i∧i≤la.length∧iq = .int .i64 i∧la.take i=lb.take i∧Sat w0 wr F)
  case atStart=>exact ⟨0,rfl,Nat.zero_le _,rfl,rfl,h⟩
  case round=>
   obtain ⟨i,rfl,hiN,rfl,htk,hS⟩:=hrel
   clear h
   by_cases hi:i<la.length
   ·obtain ⟨x,hx⟩:∃ x,la[i]?=some x:=⟨_,List.getElem?_eq_getElem hi⟩
    obtain ⟨y,hy⟩:∃ y,lb[i]?=some y:=⟨_,List.getElem?_eq_getElem (by have:=Hl.out;omega)⟩
    have hS1:=hS.drew
    obtain ⟨bk,off,rfl,d1⟩:=rdsl_cell (Ha.out _ hS1) (bys_at hx)
    obtain ⟨bk2,off2,rfl,d2⟩:=rdsl_cell (Hb.out _ hS1) (bys_at hy)
    have hic:(i:Int)<(la.length:Int):=oQ
    have hil:(i:Int)<(lb.length:Int):=by have:=Hl.out;omega
    have hwi:IntKind.i64.wrap ((i:Int)+1)=(i:Int)+1:=IntWalk.i64_in _ (by have:=Hlen.out;omega)
    have Hi:=uQ hi
    by_cases hxy:x=y
    ·subst hxy
     have Hn:=uQ (take_next htk hx hy)
     clear htk hx hy hi hiN
     generalize (x.toNat:Int)=X at *
     go_wp2_with fail
     refine wpL_begin [8] (fun w'=>w'.cell? ⟨bk,off+i,none⟩=some (.int .u8 X)∧w'.cell? ⟨bk2,off2+i,none⟩=some (.int .u8 X)) kRz ?_
     have hG:_∧_:=And.intro d1 d2
     refine rP 0 ?_ (y:=mvQ)
     refine rP 1 ?_ (y:=mvQ)
     refine rP 2 ?_ (y:=ixQ)
     refine rt 3 (h:=?_)
     refine rP 4 ?_ (y:=mvQ)
     refine rP 5 ?_ (y:=mvQ)
     refine rP 6 ?_ (y:=ixQ)
     refine rt 7 (h:=?_)
     refine rP 8 ?_ (y:=bnQ)
     refine wpL_done kRz ?_
     clear hG
     try simp only [ayQ]
     try go_frame
     go_wp2_with fail
     go_roundg (la.length - (i+1))
     case measure=>have:=Hi.out;omega
     case rel=>exact ⟨i+1,rfl,Nat.succ_le_of_lt Hi.out,by first|rfl|go_num,Hn.out,hS1⟩
    ·have Hne:=uQ (show decide (la=lb)=false from decide_eq_false fun e=>hxy (by rw [e,hy]at hx;exact (Option.some.inj hx).symm))
     have hne:((x.toNat:Int)==(y.toNat:Int))=false:=by
      rw [beq_eq_false_iff_ne];intro e;exact hxy (UInt8.toNat_inj.1 oQ)
     have hne2:((x.toNat:Int) != (y.toNat:Int))=true:=by
      rw [bne_iff_ne];intro e;exact hxy (UInt8.toNat_inj.1 oQ)
     clear htk hx hy hi hiN hxy
     generalize (x.toNat:Int)=X at *
     generalize (y.toNat:Int)=Y at *
     go_wp2_with fail
     refine wpL_begin [8] (fun w'=>w'.cell? ⟨bk,off+i,none⟩=some (.int .u8 X)∧w'.cell? ⟨bk2,off2+i,none⟩=some (.int .u8 Y)) kRz ?_
     have hG:_∧_:=And.intro d1 d2
     refine rP 0 ?_ (y:=mvQ)
     refine rP 1 ?_ (y:=mvQ)
     refine rP 2 ?_ (y:=ixQ)
     refine rt 3 (h:=?_)
     refine rP 4 ?_ (y:=mvQ)
     refine rP 5 ?_ (y:=mvQ)
     refine rP 6 ?_ (y:=ixQ)
     refine rt 7 (h:=?_)
     refine rP 8 ?_ (y:=bnQ)
     refine wpL_done kRz ?_
     clear hG
     try simp only [ayQ]
     try go_frame
     go_wp2_with fail
     go_ret
     rw [Hne.out]
     exact ⟨_,rfl,rfl,hS1⟩
   ·obtain rfl:i=la.length:=by omega
    have hic:¬ (la.length:Int)<(la.length:Int):=oQ
    have Hfin:=uQ (show decide (la=lb)=true from decide_eq_true (by
     have h1:=Hl.out
     rw [List.take_length]at htk
     rw [h1,List.take_length]at htk
     exact htk))
    clear htk hi hiN
    go_wp2_with fail
    go_ret
    rw [Hfin.out]
    exact ⟨_,rfl,rfl,hS⟩
 ·have hli:¬ ((la.length:Int)=(lb.length:Int)):=by omega
  have hlb:((la.length:Int)==(lb.length:Int))=false:=by rw [beq_eq_false_iff_ne];exact hli
  have hlb2:((la.length:Int) != (lb.length:Int))=true:=by rw [bne_iff_ne];exact hli
  have Hne:=uQ (show decide (la=lb)=false from decide_eq_false fun e=>hl (by rw [e]))
  clear hl
  go_enter Tryz.func12,Tryz.ntmps12
  go_wp2_with fail
  go_ret
  rw [Hne.out]
  exact ⟨_,rfl,rfl,h⟩
end
end Go.Proofs.YtlimfgdbfadohaaGreatDoor
namespace Go.Rep
open Go.Frm (Bs Fnd)
open Go.Seg (Plc)
open Go.Tab
def hit (k:Bs) (r:Row):Bool:=decide (rtag r<2) && decide (rkey r=k)
section
variable {l:List Row}{k:Bs}{i:Nat}{r:Row}
end
section
variable {V:Type}
variable {l:List (Bs×V)}{x y:Bs×V}{i:Nat}
end
section
variable {l:List Row}{us:List Use}{i k:Nat}{r:Row}{u:Use}
end
end Go.Rep
namespace Go.Proofs.YtlimfgdbfadohaaGreatDoor
open Go Go.Sl Go.Med Go.MapKept Go.RowKit
set_option maxRecDepth 20000 in
theorem eql_key (k l:Frm.Bs) (hk:k.length=32) (hl:l.length=32) (w:World):(binOp .eql 30 (.agg (bys k).toArray) (.agg (bys l).toArray)).run Tryz.prog w = .ok (.bool (decide (k=l))) w:=by
 rw [run_eql_struct,eqIn_key k l hk hl];rfl
theorem eqG_key (x y:Operand) (k l:Frm.Bs) (hk:k.length=32) (hl:l.length=32) (w:World):((do eqGuard .eql 30 x y (.agg (bys k).toArray) (.agg (bys l).toArray);binOp .eql 30 (.agg (bys k).toArray) (.agg (bys l).toArray)):Sem Value).run Tryz.prog w = .ok (.bool (decide (k=l))) w:=by
 simp [eqGuard,Sem.run_bind,eql_key k l hk hl w]
section
variable {w0 w:World}{F:List HProp}{rv:Value}
end
section
variable {P:Program}{ops:Array Oper}{a:Act}{dst:Option Tmp}{t ty:TypeId}{pos:String}{after:Array Edge}{x y:Operand}{v v1 v2:Value}{i1 i2:Nat}
theorem yl_build2 (hx:a.eval x=v1) (hy:a.eval y=v2) (hr:∀ w,(Instr.build ty #[(i1,v1),(i2,v2)]).run P w = .ok v w):Yields P ops ⟨dst,.build ty #[(i1,x),(i2,y)],t,pos,after,none⟩ v a:=
 .inl ⟨want_none _ rfl,fun w=>by simp only [execOp,List.map_toArray,List.map_cons,List.map_nil,hx,hy,Sem.run_bind,hr,Result.andThen_ok,Sem.run_pure]⟩
end
section
variable {w0 w:World}{F:List HProp}{p B:Nat}{m:Frm.Bs→Option (Seg.Plc)}
end
end Go.Proofs.YtlimfgdbfadohaaGreatDoor
namespace Go.Proofs.YtlimfgdbfadohaaGreatDoor
open Go Go.Sl Go.Med Go.ChangeShapes Go.WideShapes Go.RowKit
section
variable {H:Type}{enc:TypeId×Value→H}{W:World}{base:Nat}{spare:Nat→Bool}{held:Bool}
structure EntAt (W:World) (p:Frm.Ent×Value):Prop where
 key:p.1.key.length=32
 tag:inI p.1.tag
 rd:rdsl 1 p.2 (bys p.1.data) W
 cap:capOk p.2
end
structure PC where
 n:Int
 es:List (Frm.Ent×Value)
 ev:Value
 rest:Bs
 rv:Value
 bad:Bool
 at_:Int
 plain:Bool
structure PC.At (W:World) (d:PC):Prop where
 n:inI d.n
 rd:rdsl 34 d.ev (entsL d.es) W
 cap:capOk d.ev
 ents:∀ p∈d.es,EntAt W p
 rr:rdsl 1 d.rv (bys d.rest) W
 rc:capOk d.rv
 at_:inI d.at_
section
variable {H:Type}{enc:TypeId×Value→H}{W:World}{base:Nat}{spare:Nat→Bool}{held:Bool}
end
end Go.Proofs.YtlimfgdbfadohaaGreatDoor
namespace Go.Seg
open Go.Med
open Go.Frm (Bs Fnd encs GoodE fnds Ent)
open Go.Rep
section
variable {n n2:Nat}{ds ps:List Ent}{L L2:Log}{M M2:Med}{C C0 C2:List (List Ent)}{c c2:Nat}{d:Ent}
structure Same (L L2:Log) (M M2:Med) (c c2:Nat):Prop where
 one:c=L.segs.length
 two:c2=L.segs.length
 segs:L2.segs.take c2=L.segs.take c
 rows:rowsOf (fun s=>L2.bytes M2 s) (L2.segs.take c2)=rowsOf (fun s=>L.bytes M s) (L.segs.take c)
 uses:usesOf (fun s=>L2.bytes M2 s) (L2.segs.take c2)=usesOf (fun s=>L.bytes M s) (L.segs.take c)
 le:L.segs.length≤L2.segs.length
end
end Go.Seg
namespace Go.Hin
open Go.Med
open Go.Rep (Use)
open Go.Seg (Plc)
def fin (n:Int) (us:List Use) (i:Nat):Bool:=decide (i=us.length) && (decide (0<i) && decide ((us.getD (i - 1) ⟨0,0,0⟩).seg=n))
def fitU (sz:Int→Int) (s:Int) (u:Use):Bool:=decide (u.seg=s) && (decide (u.size=sz s) && decide (u.live≤u.size))
def fitsL (sz:Int→Int) (n:Int) (us:List Use):List Int→Nat→Bool
 |[],i=>fin n us i
 |s::ss,i=>if n<s then fin n us i else match us[i]? with
  |none=>false
  |some u=>if fitU sz s u=true then fitsL sz n us ss (i+1) else false
def fits (L:Seg.Log) (us:List Use) (n:Int):Bool:=fitsL L.size n us L.segs 0
def lies (p:Plc) (sz:Int→Int):Bool:=decide (8≤p.at_) && (decide (41≤p.size) && decide (p.size≤sz p.seg - p.at_))
def sizes (us:List Use):Int→Int:=us.foldl (fun f u=>fun s=>if s=u.seg then u.size else f s) fun _=>0
section
variable {T:Kept}{s1 s2 s:ByteArray}{b1 b2 b:Bs}{K:Nat}{M:Med}
end
end Go.Hin
namespace Go.Hin
open Go.Med
open Go.Seg (Log Keeps Holds HG mag)
open Go.Frm (Fnd encs GoodE fnds Ent)
open Go.Rep (Use)
section
variable {n K r E B:Nat}{L:Log}{M:Med}{C:List (List Ent)}{N:Int}{b1 b2:Frm.Bs}
theorem tmp_ne_seg (k:Int):tmp≠Seg.name k:=fun e=>by
 rcases seg_name k with q|⟨q,_⟩
 ·rw [q]at e;exact tmp_ne e
 ·rw [← e]at q;exact absurd q dCz
end
end Go.Hin
namespace Go.Hin
open Go.Med
open Go.Seg (Log Keeps Holds HG mag Plc)
open Go.Frm (Fnd encs GoodE fnds Ent)
open Go.Rep (Use)
theorem create_now {M:Med}{s:ByteArray}{p:ByteArray×Nat} (h:p∈(M.create s).1.now):p∈M.now∨p.1=s:=by
 obtain ⟨_,e1,e2,e3,e4⟩:=M.step_same
 unfold Med.create at h
 split at h;· exact .inl h
 split at h;· exact .inl h
 rename_i hg
 split at h;· exact .inl h
 split at h;· exact .inl h
 split at h;· rw [e2]at h;exact .inl h
 have h2:p∈Lnk.on ⟨ByteArray.empty,s,M.files.length⟩ M.step.1.now:=h
 rw [e2]at h2
 unfold Lnk.on at h2
 simp only [if_true,if_neg (good_ne (by simpa using hg):s≠ByteArray.empty)]at h2
 rcases List.mem_cons.1 ((nput_perm _ _ _).mem_iff.1 h2) with rfl|h3
 ·exact .inr rfl
 ·exact .inl (List.mem_filter.1 h3).1
theorem append_now (M:Med) (s:ByteArray) (b:Bs):(M.append s b).1.now=M.now:=by
 obtain ⟨_,e1,e2,e3,e4⟩:=M.step_same
 unfold Med.append
 split;· rfl
 split;· rfl
 split;· rfl
 split;· exact e2
 exact e2
theorem sync_now (M:Med) (s:ByteArray):(M.sync s).1.now=M.now:=by
 obtain ⟨_,e1,e2,e3,e4⟩:=M.step_same
 unfold Med.sync
 split;· rfl
 split;· rfl
 split;· exact e2
 exact e2
theorem remove_now {M:Med}{s:ByteArray}{p:ByteArray×Nat} (h:p∈(M.remove s).1.now):p∈M.now:=by
 obtain ⟨_,e1,e2,e3,e4⟩:=M.step_same
 unfold Med.remove at h
 split at h;· exact h
 split at h;· exact h
 split at h;· rw [e2]at h;exact h
 have h2:p∈Lnk.on ⟨s,ByteArray.empty,0⟩ M.step.1.now:=h
 rw [e2]at h2
 unfold Lnk.on at h2
 simp only [if_true]at h2
 split at h2
 ·exact h2
 ·exact (List.mem_filter.1 h2).1
def Grown (M M':Med):Prop:=∀ p∈M'.now,p∈M.now∨∃ k,p.1=Seg.name k
theorem Grown.refl (M:Med):Grown M M:=fun p hp=> .inl hp
theorem Grown.trans {A B D:Med} (h:Grown A B) (k:Grown B D):Grown A D:=fun p hp=>by
 rcases k p hp with q|q
 ·exact h p q
 ·exact .inr q
theorem Grown.same {A B:Med} (h:B.now=A.now):Grown A B:=fun p hp=> .inl (by rw [← h];exact hp)
theorem shut_grown (L:Log) (M:Med):Grown M (L.shut M).1.2:=by
 unfold Log.shut
 split;· exact Grown.refl M
 split
 ·split <;> exact Grown.same (sync_now M _)
 ·exact Grown.refl M
theorem begin1_grown (L:Log) (M:Med) (b:Bs):Grown M (L.begin1 M b).1.2:=by
 have hc:Grown M (M.create (Seg.name L.next)).1:=fun p hp=>(create_now hp).imp id fun e=>⟨_,e⟩
 have ha:Grown M ((M.create (Seg.name L.next)).1.append (Seg.name L.next) (mag++b)).1:=hc.trans (Grown.same (append_now _ _ _))
 unfold Log.begin1
 split;· exact Grown.refl M
 split;· exact hc
 split;· exact ha
 split
 ·exact ha.trans fun p hp=> .inl (remove_now hp)
 ·exact ha
theorem lappend_grown (L:Log) (M:Med) (x:Ent):Grown M (L.append M x).1.2:=by
 unfold Log.append
 split;· exact Grown.refl M
 split
 ·unfold Log.grow
  split
  ·exact Grown.refl M
  ·split <;> exact Grown.same (append_now _ _ _)
 ·unfold Log.begin
  split
  ·exact (shut_grown L M).trans (begin1_grown _ _ _)
  ·exact shut_grown L M
section
variable {n K B c:Nat}{L:Log}{M M':Med}{C:List (List Ent)}{N:Int}{b1 b2:Frm.Bs}{us:List Use}
end
end Go.Hin
namespace Go.Bok
open Go.Frm (Bs le num le_len num_le)
structure Rw where
 key:Bs
 nums:List Int
def numsB (ns:List Int):Bs:=ns.flatMap fun n=>le n.toNat 4
def rowB (kd:Bool) (r:Rw):Bs:=(if kd then r.key else [])++numsB r.nums
def rowsB (kd:Bool) (l:List Rw):Bs:=l.flatMap (rowB kd)
def body (mg:Bs) (kd:Bool) (l:List Rw):Bs:=mg++le l.length 4++rowsB kd l
def book (X:Bs→Nat) (mg:Bs) (kd:Bool) (l:List Rw):Bs:=body mg kd l++le (X (body mg kd l)) 8
structure RwOk (k:Nat) (r:Rw):Prop where
 key:r.key.length=32
 len:r.nums.length=k
 num:∀ n∈r.nums,0≤n∧n≤4294967295
def ahead (kd:Bool) (a b:Rw):Prop:=if kd then a.key<b.key else a.nums.getD 0 0<b.nums.getD 0 0
instance (kd:Bool) (a b:Rw):Decidable (ahead kd a b):=by unfold ahead;infer_instance
def Rises (kd:Bool) (l:List Rw):Prop:=∀ i a b,l[i]?=some a→l[i+1]?=some b→ahead kd a b
structure Ok (k:Nat) (kd:Bool) (l:List Rw):Prop where
 len:l.length≤65536
 row:∀ r∈l,RwOk k r
 rise:Rises kd l
section
variable {X:Bs→Nat}{mg:Bs}{kd:Bool}{l:List Rw}{r:Rw}{k i:Nat}{n:Int}{ns:List Int}
end
end Go.Bok
namespace Go.Proofs.YtlimfgdbfadohaaGreatDoor
open Go Go.Sl Go.Med Go.MapKept Go.RowKit
def msl (T sz:Nat) (v:Value) (xs:List Value):HProp:=fun h=>
 ∃ b n cap cs m,v = .slice (some ⟨b,0,none⟩) n cap∧xs.length=n * sz∧n≤cap∧cap * sz≤cs.size∧cap≤maxLen∧cs.toList.take (n * sz)=xs∧cs.size≤m∧pt b (.cells cs T (m,m+1)) h
def asl (T sz:Nat) (v:Value) (xs:List Value):HProp:=fun h=>osl T sz v xs h∨msl T sz v xs h
abbrev abl (v:Value) (l:Frm.Bs):HProp:=asl 5 1 v (bys l)
section
variable {P:Program}{w0 w:World}{R:List HProp}{T sz b:Nat}{v x:Value}{xs ys:List Value}{fr:Nat×Nat}
theorem cellAtF {cs:Array Value}{T:TypeId} (h:Sat w0 w (pt b (.cells cs T fr)::R)) (i:Nat) (v:Value) (hv:cs[i]?=some v):w.cell? ⟨b,i,none⟩=some v:=by
 have:=h.at
 simp [World.cell?,this,hv]
theorem asl_cases (h:Sat w0 w (asl T sz v xs::R)):Sat w0 w (osl T sz v xs::R)∨∃ b n cap cs m,v = .slice (some ⟨b,0,none⟩) n cap∧xs.length=n * sz∧n≤cap∧cap * sz≤cs.size∧cap≤maxLen∧cs.toList.take (n * sz)=xs∧cs.size≤m∧Sat w0 w (pt b (.cells cs T (m,m+1))::R):=by
 obtain ⟨ha,x,hx,p,q,d,rfl,hp,hq⟩:=h
 rcases hp with hp|⟨b,n,cap,cs,m,h1,h2,h3,h4,h5,h6,h7,h8⟩
 ·exact .inl ⟨ha,_,hx,p,q,d,rfl,hp,hq⟩
 ·exact .inr ⟨b,n,cap,cs,m,h1,h2,h3,h4,h5,h6,h7,ha,_,hx,p,q,d,rfl,h8,hq⟩
theorem asl_of_pt {n cap m:Nat}{cs:Array Value} (h:Sat w0 w (pt b (.cells cs T (m,m+1))::R)) (h2:xs.length=n * sz) (h3:n≤cap) (h4:cap * sz≤cs.size) (h5:cap≤maxLen) (h6:cs.toList.take (n * sz)=xs) (h7:cs.size≤m):Sat w0 w (asl T sz (.slice (some ⟨b,0,none⟩) n cap) xs::R):=
 h.head fun _ hx=> .inr ⟨b,n,cap,cs,m,rfl,h2,h3,h4,h5,h6,h7,hx⟩
theorem asl_rd (h:Sat w0 w (asl T sz v xs::R)):rdsl sz v xs w:=by
 rcases asl_cases h with h|⟨b,n,cap,cs,m,rfl,hl,hn,hc,hcm,htk,hm,hp⟩
 ·exact Sat.rd h
 ·exact ⟨_,n,cap,rfl,hl,fun j y hj=>⟨_,rfl,by rw [add_zero_lit];exact cellAtF hp j y (take_get htk hj)⟩⟩
end
end Go.Proofs.YtlimfgdbfadohaaGreatDoor
namespace Go.Xx
open Go.Frm (Bs num le num_lt)
def W:Nat:=18446744073709551616
def p1:Nat:=11400714785074694791
def p2:Nat:=14029467366897019727
def p3:Nat:=1609587929392839161
def p4:Nat:=9650029242287828579
def p5:Nat:=2870177450012600261
def turn (x k:Nat):Nat:=(x * 2^k%W) ||| (x / 2^(64 - k))
def lane (a w:Nat):Nat:=turn ((a+w * p2%W)%W) 31 * p1%W
structure Ln where
 a:Nat
 b:Nat
 c:Nat
 d:Nat
def Ln.zero:Ln:=⟨(p1+p2)%W,p2,0,W - p1⟩
def Ln.lt (l:Ln):Prop:=l.a<W∧l.b<W∧l.c<W∧l.d<W
def strip (l:Ln) (b:Bs):Ln:=⟨lane l.a (num (b.take 8)),lane l.b (num ((b.drop 8).take 8)),lane l.c (num ((b.drop 16).take 8)),lane l.d (num ((b.drop 24).take 8))⟩
def goL:Nat→Ln→Bs→Ln×Bs
 |0,l,b=>(l,b)
 |n+1,l,b=>if 32≤b.length then goL n (strip l b) (b.drop 32) else (l,b)
def mix (x a:Nat):Nat:=((x ^^^ lane 0 a) * p1%W+p4)%W
def joined (l:Ln):Nat:=mix (mix (mix (mix ((((turn l.a 1+turn l.b 7)%W+turn l.c 12)%W+turn l.d 18)%W) l.a) l.b) l.c) l.d
def t8 (x w:Nat):Nat:=(turn (x ^^^ lane 0 w) 27 * p1%W+p4)%W
def t4 (x w:Nat):Nat:=(turn (x ^^^ (w * p1%W)) 23 * p2%W+p3)%W
def t1 (x:Nat) (c:UInt8):Nat:=turn (x ^^^ (c.toNat * p5%W)) 11 * p1%W
def tail8:Nat→Nat→Bs→Nat×Bs
 |0,x,b=>(x,b)
 |n+1,x,b=>if 8≤b.length then tail8 n (t8 x (num (b.take 8))) (b.drop 8) else (x,b)
def tail4 (x:Nat) (b:Bs):Nat×Bs:=if 4≤b.length then (t4 x (num (b.take 4)),b.drop 4) else (x,b)
def tail (x:Nat) (b:Bs):Nat:=(tail4 (tail8 b.length x b).1 (tail8 b.length x b).2).2.foldl t1 (tail4 (tail8 b.length x b).1 (tail8 b.length x b).2).1
def f1 (x:Nat):Nat:=(x ^^^ (x / 8589934592)) * p2%W
def f2 (x:Nat):Nat:=(x ^^^ (x / 536870912)) * p3%W
def f3 (x:Nat):Nat:=x ^^^ (x / 4294967296)
def sum (b:Bs):Nat:=f3 (f2 (f1 (tail (((if 32≤b.length then joined (goL b.length Ln.zero b).1 else p5)+b.length)%W) (goL b.length Ln.zero b).2)))
end Go.Xx
namespace Go.Proofs.YtlimfgdbfadohaaGreatDoor
open Go Go.Sl Go.Med Go.MapKept Go.RowKit
section
variable {x y z a n c:Nat}
theorem modW (x:Nat):x%18446744073709551616<18446744073709551616:=Nat.mod_lt _ dCz
end
structure RS (w0:World) (F:List HProp) (v:Value) (l:Bs):Prop where
 rd:Ro w0 F (rdsl 1 v (bys l))
 cap:capOk v
section
variable {w0 w:World}{F:List HProp}{v:Value}{l:Bs}{a:Option Addr}{n c k:Nat}
theorem sizeU8 (w:World):(sizeOf 5).run Tryz.prog w = .ok 1 w:=by kernel_rfl
theorem elemU8:Tryz.prog.elem 27=5:=by kernel_rfl
theorem undU8:Tryz.prog.underlying 27=some (.slice (Tryz.prog.elem 27)):=by rw [elemU8];exact Tryz.underlying27
theorem run_slF (hk:k≤n) (w:World):(Instr.sliceAt 27 (.slice a n c) (some (.int .i64 k)) none none).run Tryz.prog w = .ok (sliced a k n c 1) w:=by
 rw [run_sliceAt_slice _ _ _ _ _ _ undU8,run_slice_l _ _ _ _ _ undU8 .i64 (k:Int) oQ oQ,elemU8,sizeU8]
 simp [Result.andThen]
theorem run_slT (hk:k≤c) (w:World):(Instr.sliceAt 27 (.slice a n c) none (some (.int .i64 k)) none).run Tryz.prog w = .ok (sliced a 0 k c 1) w:=by
 rw [run_sliceAt_slice _ _ _ _ _ _ undU8,run_slice_h _ _ _ _ _ undU8 .i64 (k:Int) oQ oQ,elemU8,sizeU8]
 simp [Result.andThen]
theorem run_slM (hk:k≤c) (w:World):(Instr.sliceAt 27 (.slice a n c) none (some (.int .i64 k)) (some (.int .i64 k))).run Tryz.prog w = .ok (sliced a 0 k k 1) w:=by
 rw [run_sliceAt_slice _ _ _ _ _ _ undU8,run_slice_hm _ _ _ _ _ undU8 .i64 .i64 (k:Int) (k:Int) oQ oQ oQ,elemU8,sizeU8]
 simp [Result.andThen]
theorem RS.len (h:RS w0 F v l) (hS:Sat w0 w F):∃ a c,v = .slice a l.length c∧l.length≤c∧c≤9223372036854775807:=by
 obtain ⟨a,n,c,rfl,h1,h2⟩:=h.cap
 obtain ⟨_,_,_,he,hl,_⟩:=h.rd w hS
 cases he
 rw [bys_len,Nat.mul_one]at hl
 subst hl
 exact ⟨a,c,rfl,h1,h2⟩
theorem bys_get {l:Bs}{j:Nat}{y:Value}:(bys l)[j]?=some y↔∃ u,l[j]?=some u∧y = .int .u8 u.toNat:=by
 unfold bys
 rw [List.getElem?_map,Option.map_eq_some_iff]
 constructor
 ·rintro ⟨u,h1,h2⟩;exact ⟨u,h1,h2.symm⟩
 ·rintro ⟨u,h1,h2⟩;exact ⟨u,h1,h2.symm⟩
theorem RS.from (h:RS w0 F (.slice a l.length c) l) (hk:k≤l.length):RS w0 F (sliced a k l.length c 1) (l.drop k):=by
 obtain ⟨a',n',c',he,h1,h2⟩:=h.cap
 cases he
 refine ⟨fun w hw=>?_,⟨_,_,_,rfl,by omega,by omega⟩⟩
 refine ⟨_,_,_,rfl,by rw [bys_len,List.length_drop,Nat.mul_one],fun j y hj=>?_⟩
 obtain ⟨u,hu,rfl⟩:=bys_get.1 hj
 rw [List.getElem?_drop]at hu
 have hlt:=(List.getElem?_eq_some_iff.1 hu).1
 obtain ⟨bk,off,rfl,hc⟩:=rdsl_cells (h.rd w hw) (bys_get.2 ⟨u,hu,rfl⟩)
 rw [if_neg oQ]
 refine ⟨_,rfl,?_⟩
 have:=hc (k+j) _ (bys_get.2 ⟨u,hu,rfl⟩)
 show w.cell? (((⟨bk,off,none⟩:Addr).add (k * 1)).add j)=_
 rw [Addr.add_mid,Addr.add_mid,Nat.mul_one,Nat.add_assoc];exact this
theorem RS.to (h:RS w0 F (.slice a l.length c) l) (hk:k≤l.length) (m:Nat) (hm:k≤m) (hmc:m≤c):RS w0 F (sliced a 0 k m 1) (l.take k):=by
 obtain ⟨a',n',c',he,h1,h2⟩:=h.cap
 cases he
 refine ⟨fun w hw=>?_,⟨_,_,_,rfl,by omega,by omega⟩⟩
 refine ⟨_,_,_,rfl,by rw [bys_len,List.length_take,Nat.mul_one];omega,fun j y hj=>?_⟩
 obtain ⟨u,hu,rfl⟩:=bys_get.1 hj
 rw [List.getElem?_take]at hu
 split at hu
 ·rename_i hjk
  obtain ⟨bk,off,rfl,hc⟩:=rdsl_cells (h.rd w hw) (bys_get.2 ⟨u,hu,rfl⟩)
  rw [if_neg oQ]
  refine ⟨_,rfl,?_⟩
  have:=hc j _ (bys_get.2 ⟨u,hu,rfl⟩)
  show w.cell? (((⟨bk,off,none⟩:Addr).add (0 * 1)).add j)=_
  rw [Addr.add_mid,Addr.add_mid,Nat.zero_mul,Nat.add_zero];exact this
 ·cases hu
theorem RS.of_bsl (h:Sat w0 w (bsl v l::F)):RS w0 (bsl v l::F) v l:=by
 obtain ⟨a,n,c,e,h1,h2,h3⟩:=bsl_cap' h
 exact ⟨Ro.bsl _ _,⟨a,n,c,e,h1,h2⟩⟩
theorem RS.more (h:RS w0 F v l){G:List HProp} (k:Sub G F):RS w0 G v l:=⟨Ro.of_sub h.rd k,h.cap⟩
end
section
variable {P:Program}{w:World}{ops:Array Oper}{rest:List Oper}{a:Act}{Q:Exit→Act→World→Prop}{dst:Option Tmp}{t ty:TypeId}{pos:String}{after:Array Edge}{x y z:Operand}{v vx vy vz:Value}
theorem wl_slF (hx:a.eval x=vx) (hy:a.eval y=vy) (hr:∀ w,(Instr.sliceAt ty vx (some vy) none none).run P w = .ok v w) (h:wpList P ops Q rest (a.put dst v) w):wpList P ops Q (⟨dst,.slice ty x (some y) none none,t,pos,after,none⟩::rest) a w:=
 wpList_plain rfl fun _ hK=>by
  unfold Oper.wp execOp
  simp only [hx,hy,Option.map_some,Option.map_none,Sem.run_bind,hr,Result.andThen_ok,Sem.run_pure]
  exact hK _ _ h
theorem wl_slT (hx:a.eval x=vx) (hy:a.eval y=vy) (hr:∀ w,(Instr.sliceAt ty vx none (some vy) none).run P w = .ok v w) (h:wpList P ops Q rest (a.put dst v) w):wpList P ops Q (⟨dst,.slice ty x none (some y) none,t,pos,after,none⟩::rest) a w:=
 wpList_plain rfl fun _ hK=>by
  unfold Oper.wp execOp
  simp only [hx,hy,Option.map_some,Option.map_none,Sem.run_bind,hr,Result.andThen_ok,Sem.run_pure]
  exact hK _ _ h
theorem wl_slM (hx:a.eval x=vx) (hy:a.eval y=vy) (hz:a.eval z=vz) (hr:∀ w,(Instr.sliceAt ty vx none (some vy) (some vz)).run P w = .ok v w) (h:wpList P ops Q rest (a.put dst v) w):wpList P ops Q (⟨dst,.slice ty x none (some y) (some z),t,pos,after,none⟩::rest) a w:=
 wpList_plain rfl fun _ hK=>by
  unfold Oper.wp execOp
  simp only [hx,hy,hz,Option.map_some,Option.map_none,Sem.run_bind,hr,Result.andThen_ok,Sem.run_pure]
  exact hK _ _ h
theorem at_slF (h:Stop (wpList P ops Q (⟨dst,.slice ty x (some y) none none,t,pos,after,none⟩::rest) a w)):wpList P ops Q (⟨dst,.slice ty x (some y) none none,t,pos,after,none⟩::rest) a w:=h.out
theorem at_slT (h:Stop (wpList P ops Q (⟨dst,.slice ty x none (some y) none,t,pos,after,none⟩::rest) a w)):wpList P ops Q (⟨dst,.slice ty x none (some y) none,t,pos,after,none⟩::rest) a w:=h.out
theorem at_slM (h:Stop (wpList P ops Q (⟨dst,.slice ty x none (some y) (some z),t,pos,after,none⟩::rest) a w)):wpList P ops Q (⟨dst,.slice ty x none (some y) (some z),t,pos,after,none⟩::rest) a w:=h.out
end
section
variable {w0 w:World}{F:List HProp}{v bv:Value}
theorem or_num8 (l:Bs) (c:UInt8) (k:Nat) (hl:l.length=k) (hk:k<8):bits .or .u64 ((Frm.num l:Nat):Int) ((c.toNat:Int) * ((256^k:Nat):Int))=((Frm.num (l++[c]):Nat):Int):=by
 subst hl
 have h1:=Frm.num_lt l
 have h2:=c.toNat_lt
 have h3:256^l.length≤256^7:=Nat.pow_le_pow_right dCz oQ
 have h4:c.toNat * 256^l.length≤255 * 256^7:=Nat.mul_le_mul oQ h3
 have h5:(256:Nat)^7=72057594037927936:=by decide
 have e:(c.toNat:Int) * ((256^l.length:Nat):Int)=((c.toNat * 256^l.length:Nat):Int):=by rw [Int.natCast_mul]
 rw [e,u64_or_nat _ _ oQ oQ,Frm.num_snoc]
 congr 1
 have hp:(256:Nat)^l.length=2^(8 * l.length):=by rw [Nat.pow_mul]
 rw [hp]at h1 ⊢
 have:=Nat.two_pow_add_eq_or_of_lt h1 c.toNat
 rw [Nat.or_comm,Nat.mul_comm c.toNat,← this,Nat.add_comm]
theorem eight {l:Bs} (h:l.length=8):∃ c0 c1 c2 c3 c4 c5 c6 c7,l=[c0,c1,c2,c3,c4,c5,c6,c7]:=by
 match l,h with
 |[c0,c1,c2,c3,c4,c5,c6,c7],_=>exact ⟨c0,c1,c2,c3,c4,c5,c6,c7,rfl⟩
set_option maxRecDepth 20000 in
theorem put8_c (x:Nat) (hx:x<18446744073709551616) (h:Sat w0 w F) :
  Calls Tryz.prog 133 #[.int .u64 x,.int .i64 8] w (Rtn fun v w'=>Sat w0 w' (bsl v (Frm.le x 8)::F)∧∃ a,v = .slice a 8 8):=by
 have Hx:=uQ hx
 clear hx
 have hmk:∀ w,(Instr.makeSlice 27 (.int .i64 8) (.int .i64 8)).run Tryz.prog w = .ok (.slice (some ⟨w.heap.size,0,none⟩) 8 8) (w.alloc (.cells #[.int .u8 0,.int .u8 0,.int .u8 0,.int .u8 0,.int .u8 0,.int .u8 0,.int .u8 0,.int .u8 0] 5)):=fun w=>by kernel_rfl
 go_enter Tryz.func133,Tryz.ntmps133
 go_wp2_with fail
 have hA:=h.alloc (.cells #[.int .u8 0,.int .u8 0,.int .u8 0,.int .u8 0,.int .u8 0,.int .u8 0,.int .u8 0,.int .u8 0] 5)
 have hB:Sat w0 (w.alloc (.cells #[.int .u8 0,.int .u8 0,.int .u8 0,.int .u8 0,.int .u8 0,.int .u8 0,.int .u8 0,.int .u8 0] 5)) (bsl (.slice (some ⟨w.heap.size,0,none⟩) 8 8) [0,0,0,0,0,0,0,0]::F):=Sat.osl_of_pt hA rfl (Nat.le_refl _) (Nat.le_refl _) (by unfold maxLen;omega) rfl
 obtain ⟨b0,b1,b2,b3,b4,b5,b6,b7,hb0,hb1,hb2,hb3,hb4,hb5,hb6,hb7,hle⟩:∃ b0 b1 b2 b3 b4 b5 b6 b7:UInt8,(x:Int)%256=b0.toNat∧(x:Int) / 256%256=b1.toNat∧(x:Int) / 65536%256=b2.toNat∧(x:Int) / 16777216%256=b3.toNat∧(x:Int) / 4294967296%256=b4.toNat∧(x:Int) / 1099511627776%256=b5.toNat∧(x:Int) / 281474976710656%256=b6.toNat∧(x:Int) / 72057594037927936%256=b7.toNat∧Frm.le x 8=[b0,b1,b2,b3,b4,b5,b6,b7]:=by
  refine ⟨_,_,_,_,_,_,_,_,?_,?_,?_,?_,?_,?_,?_,?_,rfl⟩
  all_goals (rw [UInt8.toNat_ofNat'];omega)
 have Hle:=uQ hle
 clear hle hmk hA
 generalize w.heap.size=q at *
 go_loopg [17] 8 (fun g iq wr=>∃ (i:Nat) (l':Bs),g=8 - i∧i≤8∧iq = .int .i64 i∧l'=(match i with|0=>[0,0,0,0,0,0,0,0]|1=>[b0,0,0,0,0,0,0,0]|2=>[b0,b1,0,0,0,0,0,0]|3=>[b0,b1,b2,0,0,0,0,0]|4=>[b0,b1,b2,b3,0,0,0,0]|5=>[b0,b1,b2,b3,b4,0,0,0]|6=>[b0,b1,b2,b3,b4,b5,0,0]|7=>[b0,b1,b2,b3,b4,b5,b6,0]|_=>[b0,b1,b2,b3,b4,b5,b6,b7])∧Sat w0 wr (bsl (.slice (some ⟨q,0,none⟩) 8 8) l'::F))
 case atStart=>exact ⟨0,_,rfl,by omega,rfl,rfl,hB⟩
 case round=>
  obtain ⟨i,l',rfl,hi,rfl,hl',hS⟩:=hrel
  clear hB
  obtain rfl|rfl|rfl|rfl|rfl|rfl|rfl|rfl|rfl:i=0∨i=1∨i=2∨i=3∨i=4∨i=5∨i=6∨i=7∨i=8:=by omega
  ·obtain rfl:l'=[0,0,0,0,0,0,0,0]:=hl'
   obtain ⟨g,he,e0,e1,hS5⟩:=bsl_set (i:=0) hS (by simp) b0
   cases he
   go_wp2_with fail
   go_roundg 7
   case measure=>omega
   case rel=>exact ⟨1,[b0,0,0,0,0,0,0,0],rfl,by omega,rfl,rfl,hS5⟩
  ·obtain rfl:l'=[b0,0,0,0,0,0,0,0]:=hl'
   obtain ⟨g,he,e0,e1,hS5⟩:=bsl_set (i:=1) hS (by simp) b1
   cases he
   go_wp2_with fail
   go_roundg 6
   case measure=>omega
   case rel=>exact ⟨2,[b0,b1,0,0,0,0,0,0],rfl,by omega,rfl,rfl,hS5⟩
  ·obtain rfl:l'=[b0,b1,0,0,0,0,0,0]:=hl'
   obtain ⟨g,he,e0,e1,hS5⟩:=bsl_set (i:=2) hS (by simp) b2
   cases he
   go_wp2_with fail
   go_roundg 5
   case measure=>omega
   case rel=>exact ⟨3,[b0,b1,b2,0,0,0,0,0],rfl,by omega,rfl,rfl,hS5⟩
  ·obtain rfl:l'=[b0,b1,b2,0,0,0,0,0]:=hl'
   obtain ⟨g,he,e0,e1,hS5⟩:=bsl_set (i:=3) hS (by simp) b3
   cases he
   go_wp2_with fail
   go_roundg 4
   case measure=>omega
   case rel=>exact ⟨4,[b0,b1,b2,b3,0,0,0,0],rfl,by omega,rfl,rfl,hS5⟩
  ·obtain rfl:l'=[b0,b1,b2,b3,0,0,0,0]:=hl'
   obtain ⟨g,he,e0,e1,hS5⟩:=bsl_set (i:=4) hS (by simp) b4
   cases he
   go_wp2_with fail
   go_roundg 3
   case measure=>omega
   case rel=>exact ⟨5,[b0,b1,b2,b3,b4,0,0,0],rfl,by omega,rfl,rfl,hS5⟩
  ·obtain rfl:l'=[b0,b1,b2,b3,b4,0,0,0]:=hl'
   obtain ⟨g,he,e0,e1,hS5⟩:=bsl_set (i:=5) hS (by simp) b5
   cases he
   go_wp2_with fail
   go_roundg 2
   case measure=>omega
   case rel=>exact ⟨6,[b0,b1,b2,b3,b4,b5,0,0],rfl,by omega,rfl,rfl,hS5⟩
  ·obtain rfl:l'=[b0,b1,b2,b3,b4,b5,0,0]:=hl'
   obtain ⟨g,he,e0,e1,hS5⟩:=bsl_set (i:=6) hS (by simp) b6
   cases he
   go_wp2_with fail
   go_roundg 1
   case measure=>omega
   case rel=>exact ⟨7,[b0,b1,b2,b3,b4,b5,b6,0],rfl,by omega,rfl,rfl,hS5⟩
  ·obtain rfl:l'=[b0,b1,b2,b3,b4,b5,b6,0]:=hl'
   obtain ⟨g,he,e0,e1,hS5⟩:=bsl_set (i:=7) hS (by simp) b7
   cases he
   go_wp2_with fail
   go_roundg 0
   case measure=>omega
   case rel=>exact ⟨8,[b0,b1,b2,b3,b4,b5,b6,b7],rfl,by omega,rfl,rfl,hS5⟩
  ·obtain rfl:l'=[b0,b1,b2,b3,b4,b5,b6,b7]:=hl'
   go_wp2
   go_ret
   exact ⟨_,rfl,by rw [Hle.out];exact hS,_,rfl⟩
end
section
variable {P:Program}{w0 w:World}{L:List HProp}{ops:Array Oper}{rest:List Oper}{a:Act}{Q:Exit→Act→World→Prop}{dst:Option Tmp}{t ty e:TypeId}{pos:String}{after:Array Edge}{x y:Operand}{g:Nat×Bool}{op:Op}{sz by' n:Nat}{v:Value}{zs:List Value}
theorem ug_op (hw:Region.wanted ⟨dst,op,t,pos,after,some g⟩ (yielded ops a.tmps)=true) (h:wpList P ops Q (⟨dst,op,t,pos,after,none⟩::rest) a w):wpList P ops Q (⟨dst,op,t,pos,after,some g⟩::rest) a w:=by
 unfold wpList at h ⊢
 rw [if_pos hw]
 rw [if_pos (want_none _ rfl)]at h
 exact h
theorem ug_load (h:Stop (wpList P ops Q (⟨dst,.load ty x,t,pos,after,some g⟩::rest) a w)):wpList P ops Q (⟨dst,.load ty x,t,pos,after,some g⟩::rest) a w:=h.out
theorem ug_at_build {xs:Array (Nat×Operand)} (h:Stop (wpList P ops Q (⟨dst,.build ty xs,t,pos,after,none⟩::rest) a w)):wpList P ops Q (⟨dst,.build ty xs,t,pos,after,none⟩::rest) a w:=h.out
theorem wl_bld {xs:Array (Nat×Operand)}{ps:Array (Nat×Value)} (h1:xs.map (fun p=>(p.1,a.eval p.2))=ps) (hr:∀ w,(Instr.build ty ps).run P w = .ok v w) (h:wpList P ops Q rest (a.put dst v) w) :
  wpList P ops Q (⟨dst,.build ty xs,t,pos,after,none⟩::rest) a w:=
 wpList_plain rfl fun _ hK=>by
  unfold Oper.wp execOp
  simp only [h1,Sem.run_bind,hr,Result.andThen_ok,Sem.run_pure]
  exact hK _ _ h
end
abbrev hshPt (p:Nat) (l:Xx.Ln) (rv:Value) (n:Nat):HProp:=pt p (.cells #[.bool true,.int .u64 0,.int .u64 l.a,.int .u64 l.b,.int .u64 l.c,.int .u64 l.d,rv,.int .u64 n] 339 (0,0))
section
variable {w0 w:World}{F:List HProp}{v bv rv:Value}{p n:Nat}{l:Xx.Ln}
end
section
variable {w0 w:World}{F:List HProp}{v bv rv:Value}{p n:Nat}{l:Bs}
theorem get4_r (l:Bs) (hl:l.length=4) (a:Option Addr) (c:Nat) (h:rdsl 1 (.slice a 4 c) (bys l) w) :
  Calls Tryz.prog 101 #[.slice a 4 c] w (Rtn fun v w'=>v = .tuple #[.int .u64 (Frm.num l:Nat),.bool true]∧w=w'):=get4_l l hl a c h
theorem cut_from (hr:RS w0 F bv l) (h:Sat w0 w F){k:Nat} (hk:k≤l.length):∃ a c a2 c2,bv = .slice a l.length c∧l.length≤c∧c≤9223372036854775807∧(∀ w,(Instr.sliceAt 27 (.slice a l.length c) (some (.int .i64 k)) none none).run Tryz.prog w = .ok (.slice a2 (l.drop k).length c2) w)∧RS w0 F (.slice a2 (l.drop k).length c2) (l.drop k):=by
 obtain ⟨a,c,rfl,h1,h2⟩:=hr.len h
 have hs:=hr.from hk
 obtain ⟨a2,c2,he,h3,h4⟩:=hs.len h
 refine ⟨a,c,a2,c2,rfl,h1,h2,fun w=>?_,by rw [← he];exact hs⟩
 rw [← he];exact run_slF hk w
end
abbrev rdrPt (p:Nat) (rv:Value):HProp:=pt p (.cells #[rv,errno 0,.bool true] 288 (0,0))
section
variable {w0 w:World}{F:List HProp}{v bv rv:Value}{p n k:Nat}{l m:Bs}
theorem ropen1_c (hl:l.length≤140737488355328) (hr:RS w0 F bv l) (h:Sat w0 w F):Calls Tryz.prog 147 #[bv] w (Rtn fun v w'=>∃ p rv,v=ptr p∧Sat w0 w' (rdrPt p rv::bsl rv l::F)∧RS w0 (bsl rv l::F) rv l):=by
 obtain ⟨ba,bc,rfl,_,_⟩:=hr.len h
 have hc:=clone_c h (hr.rd w h) hl
 clear hr
 go_enter Tryz.func147,Tryz.ntmps147
 go_wp2_with fail
 refine hc.mono ?_
 rintro ee w1 ⟨v,rfl,h1,a1,n1,c1,rfl⟩
 clear hc h
 have hb1:∀ w,(Instr.build 288 #[(0,.slice a1 n1 c1),(2,.bool true)]).run Tryz.prog w = .ok (.agg #[.slice a1 n1 c1,.int .i64 0,.bool true]) w:=fun w=>by kernel_rfl
 go_wp2_with ((with_reducible refine at_box ⟨?_⟩);refine wl_box h1 rFz rFz ?_;intro bB wB hB)
 go_ret
 exact ⟨_,rfl,bB,_,rfl,hB,RS.of_bsl hB.drop⟩
theorem rerr_c (h:Sat w0 w (rdrPt p rv::F)):Calls Tryz.prog 185 #[ptr p] w (Rtn fun v w'=>v=errno 0∧w=w'):=by
 have c1:w.cell? ⟨p,1,none⟩=some (errno 0):=h.cellAt 1 _ rfl
 have c2:w.cell? ⟨p,2,none⟩=some (.bool true):=h.cellAt 2 _ rfl
 go_enter Tryz.func185,Tryz.ntmps185
 go_wp2
 go_ret
 exact ⟨_,rfl,rfl,rfl⟩
set_option maxRecDepth 20000 in
theorem rtake_c (hk:k≤m.length) (hr:RS w0 F rv m) (h:Sat w0 w (rdrPt p rv::F)):Calls Tryz.prog 208 #[ptr p,.int .i64 k] w (Rtn fun v w'=>∃ ta tc ra rc,v = .tuple #[.slice ta k tc,.bool true]∧RS w0 F (.slice ta k tc) (m.take k)∧(∀ F0,RS w0 F0 rv m→RS w0 F0 (.slice ra (m.drop k).length rc) (m.drop k))∧Sat w0 w' (rdrPt p (.slice ra (m.drop k).length rc)::F)):=by
 obtain ⟨ba,bc,ra,rc,rfl,h1,h2,hrunF,_⟩:=cut_from hr h.drop hk
 have hrs2:∀ F0,RS w0 F0 (.slice ba m.length bc) m→RS w0 F0 (.slice ra (m.drop k).length rc) (m.drop k):=fun F0 h0=>by
  have e:=(run_slF (a:=ba) (c:=bc) hk w).symm.trans (hrunF w)
  have e2:sliced ba k m.length bc 1 = .slice ra (m.drop k).length rc:=by injection e
  rw [← e2];exact h0.from hk
 have hrsT:=hr.to hk k (Nat.le_refl k) oQ
 obtain ⟨ta,tc,he,_,_⟩:=hrsT.len h.drop
 rw [show (m.take k).length=k by rw [List.length_take];omega]at he
 have hrunT:∀ w,(Instr.sliceAt 27 (.slice ba m.length bc) none (some (.int .i64 k)) (some (.int .i64 k))).run Tryz.prog w = .ok (.slice ta k tc) w:=fun w=>by rw [← he];exact run_slM oQ w
 rw [he]at hrsT
 have her:=rerr_c h
 have c0:¬ (k:Int)<0:=oQ
 have c0d:decide ((k:Int)<0)=false:=decide_eq_false c0
 have c1:¬ (m.length:Int)<(k:Int):=oQ
 have c1d:decide ((m.length:Int)<(k:Int))=false:=decide_eq_false c1
 have HT:=uQ hrsT;have HF:=uQ hrs2
 clear hr hrsT hrs2 he h1 h2 hk
 generalize (m.drop k).length=q at *
 go_enter Tryz.func208,Tryz.ntmps208
 go_wp2_with fail
 refine her.mono ?_
 rintro ee w1 ⟨v,rfl,rfl,rfl⟩
 clear her
 go_wp2_with (first
  |((with_reducible refine at_load ⟨?_⟩);refine wl_load1 h rFz pick0 nLz evD kRz ?_)
  |((with_reducible refine at_slM ⟨?_⟩);refine wl_slM rFz rFz rFz hrunT ?_)
  |((with_reducible refine at_slF ⟨?_⟩);refine wl_slF rFz rFz hrunF ?_)
  |((with_reducible refine at_store ⟨?_⟩);refine wl_store (v:= .slice ra q rc) h rFz rFz rFz upd0 (by exact Nat.le_of_ble_eq_true rFz) kRz rFz ?_;intro w2 h2))
 go_ret2
 exact ⟨_,rfl,ta,tc,ra,rc,rfl,HT.out,HF.out,h2⟩
end
section
variable {P:Program}{w0 w:World}{ops:Array Oper}{rest:List Oper}{a:Act}{Q:Exit→Act→World→Prop}{dst:Option Tmp}{t ty:TypeId}{pos:String}{after:Array Edge}{v:Value}{parts:Array (Nat×Operand)}
end
section
variable {w0 w:World}{F:List HProp}
abbrev kndA (mg:ByteArray) (kd:Bool) (k:Nat):Array Value:=#[.string mg,.bool kd,.int .i64 k]
abbrev idxK:Array Value:=kndA ⟨#[72,79,65,82,68,73,68,88]⟩ true 3
abbrev useK:Array Value:=kndA ⟨#[72,79,65,82,68,85,83,69]⟩ false 3
end
abbrev rwA (x:Bok.Rw) (nv:Value):Array Value:=(bys x.key++[nv]).toArray
section
variable {w0 w:World}{F:List HProp}{na nb:Value}
end
end Go.Proofs.YtlimfgdbfadohaaGreatDoor
namespace Go.Sl
open Go
section
variable {P:Program}{ops:Array Oper}{Q:Exit→Act→World→Prop}{late:List Nat}{G:World→Prop}{n:Nat}{l:Array Bool}{a:Act}{w:World}{oi oj:Oper}
theorem rg_eff2 (i j:Nat) (hi:ops.toList[i]?=some oi) (hj:ops.toList[j]?=some oj) (hr:Region.ready .any ops l=[i,j])
  (h1:∀ K:Act→World→Prop,(∀ a' w',keeps late G i w w'→wpL P ops Q late G n (l.setIfInBounds i true) a' w'→K a' w') →
   if Region.wanted oi (yielded ops a.tmps)=true then Oper.wp P oi a w K Q else K (a.put oi.dst undef) w)
  (h2:∀ K:Act→World→Prop,(∀ a' w',keeps late G j w w'→wpL P ops Q late G n (l.setIfInBounds j true) a' w'→K a' w') →
   if Region.wanted oj (yielded ops a.tmps)=true then Oper.wp P oj a w K Q else K (a.put oj.dst undef) w):wpL P ops Q late G (n+1) l a w:=by
 rw [Array.getElem?_toList]at hi hj
 refine ⟨(fun h0=>by rw [hr]at h0;cases h0),fun k hk=>?_⟩
 rw [hr]at hk
 have hk2:k=i∨k=j:=by simpa using hk
 rcases hk2 with rfl|rfl
 ·have:=h1 _ (fun a' w' h1 h2=>And.intro h1 h2)
  unfold wpOp
  rw [hi]
  show if Region.wanted oi (yielded ops a.tmps)=true then _ else _
  split
  ·rename_i hw;rw [if_pos hw]at this;exact .inl this
  ·rename_i hw;rw [if_neg hw]at this;exact this
 ·have:=h2 _ (fun a' w' h1 h2=>And.intro h1 h2)
  unfold wpOp
  rw [hj]
  show if Region.wanted oj (yielded ops a.tmps)=true then _ else _
  split
  ·rename_i hw;rw [if_pos hw]at this;exact .inl this
  ·rename_i hw;rw [if_neg hw]at this;exact this
end
end Go.Sl
namespace Go.Hin
open Go.Med
open Go.Seg (Log Keeps Holds HG mag Plc)
open Go.Frm (Fnd encs GoodE fnds Ent)
open Go.Rep (Use)
structure Hd (T:Kept) (P:ByteArray→Prop) (K:Nat) (M:Med):Prop where
 ok:M.Ok K
 nm:∀ k,k≤M.waits.length→(∀ t∈T,nget (M.lastNames k) t.1=some t.2.1)∧∀ p∈M.lastNames k,(∃ t∈T,p.1=t.1)∨P p.1
 fil:∀ t∈T,M.file t.2.1=t.2.2
section
variable {T:Kept}{P:ByteArray→Prop}{K K' r:Nat}{M:Med}{s:ByteArray}{L:Log}{N:Int}
end
section
variable {T:Kept}{P:ByteArray→Prop}{n K K' E B c:Nat}{L:Log}{M M':Med}{C:List (List Ent)}{N:Int}{b1 b2:Frm.Bs}{us:List Use}
end
end Go.Hin
namespace Go.Seg
open Go.Med
open Go.Frm (Bs Ent encs GoodE)
open Go.Rep
structure Rp (K r E B n:Nat) (L:Log) (M:Med) (C:List (List Ent)):Prop where
 hg:HG K r E B n L M C
 tmp:nget M.now Hin.tmp=none
 few:C.flatten.length≤n
 small:∀ p∈M.now,p.1.size≤24
section
variable {K r E B n:Nat}{L:Log}{M M':Med}{C:List (List Ent)}{x:Ent}
theorem name_24 (k:Int):(name k).size≤24:=by
 rcases Hin.seg_name k with z|⟨z,_⟩
 ·rw [z];decide
 ·rw [z];decide
theorem Rp.grown (h:Rp K r E B n L M C){K' n':Nat}{L':Log}{C':List (List Ent)} (hg:HG K' r E B n' L' M' C') (hr:Hin.Grown M M') (hf:C'.flatten.length≤n'):Rp K' r E B n' L' M' C':=by
 refine ⟨hg,?_,hf,fun p hp=>?_⟩
 ·cases hi:nget M'.now Hin.tmp with
  |none=>rfl
  |some i=>
   rcases hr _ (nget_mem hi) with q|⟨k,q⟩
   ·have:=nget_of_mem h.hg.keeps.calm.ok.nowOk.srt.keys (show (Hin.tmp,i)∈M.now from q)
    rw [h.tmp]at this;cases this
   ·exact absurd q (Hin.tmp_ne_seg k)
 ·rcases hr p hp with q|⟨k,q⟩
  ·exact h.small p q
  ·rw [q];exact name_24 k
theorem Rp.mono (h:Rp K r E B n L M C){K' E' B' n':Nat} (h1:K≤K') (h2:E≤E') (h3:B≤B') (h4:n≤n'):Rp K' r E' B' n' L M C:=⟨h.hg.mono h1 h2 h3 h4,h.tmp,Nat.le_trans h.few h4,h.small⟩
theorem Rp.yes (h:Rp K r E B n L M C) (hn:n<1000) (hk:x.key.length=32) (hd:x.data.length≤300) (h0:(Frm.encode x).2=0) (hz:(L.append M x).2.2=0) :
  ∃ C',Rp (K+4) r E B (n+1) (L.append M x).1.1 (L.append M x).1.2 C'∧C'=put C (L.fits (Frm.encode x).1.length) x∧C'.flatten=C.flatten++[x]∧∃ row,rowsC 0 C'=rowsC 0 C++[row]∧row.2.e=x∧rplc row=(L.append M x).2.1:=by
 obtain ⟨_,_,_,a4,_,_⟩:=h.hg.append hn x hk hd h0 (.inl hz)
 have hfl:=put_flat C (L.fits (Frm.encode x).1.length) x h.hg.fits_ne
 refine ⟨_,h.grown a4 (Hin.lappend_grown L M x) ?_,rfl,hfl,_,rowsC_put C _ x h.hg.fits_ne,putRow_e C _ x,(h.hg.append_at h0 hz).symm⟩
 rw [hfl,List.length_append,List.length_singleton];have:=h.few;omega
theorem Rp.row (h:Rp K r E B n L M C){q:Row} (hq:q∈rowsC 0 C):L.read M (rplc q)=(q.2.e,0)∧GoodE q.2.e∧(q.2.size:Int)≤4294967296∧(q.2.at_:Int)≤4294967296:=by
 refine ⟨h.hg.readRow hq,?_⟩
 obtain ⟨j,es,h5,h6,h7⟩:=rowsC_mem C 0 hq
 obtain ⟨u,v,h8,h9,h10⟩:=fnds_mem es 8 h7
 have hat:=List.mem_of_getElem? (h.hg.at_ j es h5)
 have hsz:=h.hg.keeps.log.sizes _ hat
 have he:(encs es).length=(encs u).length+((Frm.encode q.2.e).1.length+(encs v).length):=by
  conv=>lhs;rw [h8]
  rw [encs_app,List.length_append]
  congr 1
  exact List.length_append
 simp only at hsz
 exact ⟨(h.hg.good es (List.mem_of_getElem? h5)).1 _ (by rw [h8];simp),by omega,by omega⟩
end
end Go.Seg
namespace Go.Tab
open Go.Frm (Bs)
section
variable {α V:Type}{m:Bs→Option V}{k:Bs}{v:V}
end
end Go.Tab
namespace Go.Seg
open Go.Med
open Go.Frm (Bs Ent encs GoodE)
section
variable {K r:Nat}{L:Log}{M:Med}
end
end Go.Seg
namespace Go.Rep
open Go.Frm (Bs Ent GoodE)
open Go.Seg (Plc)
open Go.Tab
end Go.Rep
namespace Go.Seg
open Go.Med
open Go.Frm (Bs Ent encs GoodE)
open Go.Rep
section
variable {K r E B n:Nat}{L:Log}{M:Med}{C:List (List Ent)}{k:Bs}{pl:Plc}
theorem Rp.got (h:Rp K r E B n L M C) (hk:nowOf (rowsC 0 C) k=some pl):∃ data,L.read M pl=(⟨0,k,data⟩,0)∧objOf C.flatten k=some data∧data.length≤16384∧(-9223372036854775808≤pl.at_∧pl.at_≤9223372036854775807)∧(-9223372036854775808≤pl.size∧pl.size≤9223372036854775807)∧k.length=32:=by
 obtain ⟨q,hq,e1,e2,e3,e4⟩:=nowOf_data hk
 obtain ⟨r1,r2,r3,r4⟩:=h.row hq
 rw [rowsC_e]at e4
 obtain ⟨s,⟨⟨tag,key,data⟩,at_,size⟩⟩:=q
 obtain rfl:tag=0:=e2
 obtain rfl:key=k:=e3
 refine ⟨data,by rw [← e1];exact r1,e4,?_,?_,?_,r2.2⟩
 ·rcases Frm.check_cases (Frm.encode_zero r2.1).1 with ⟨_,q⟩|⟨q,_⟩|⟨q,_⟩
  ·exact q
  ·cases q
  ·cases q
 ·rw [← e1]
  show -9223372036854775808≤(at_:Int)∧(at_:Int)≤9223372036854775807
  have:(at_:Int)≤4294967296:=r4
  omega
 ·rw [← e1]
  show -9223372036854775808≤(size:Int)∧(size:Int)≤9223372036854775807
  have:(size:Int)≤4294967296:=r3
  omega
theorem good_put (hk:k.length=32) (d:Bs) (hd:d.length≤300):(Frm.encode ⟨0,k,d⟩).2=0:=toE_good (d:=⟨0,k,d⟩) hk hd
end
end Go.Seg
namespace Go.Proofs.YtlimfgdbfadohaaGreatDoor
open Go Go.Sl Go.Med Go.MapKept Go.RowKit
section
variable {P:Program}{w0 w:World}{L R:List HProp}{ops:Array Oper}{rest:List Oper}{a:Act}{Q:Exit→Act→World→Prop}{dst:Option Tmp}{t ty e:TypeId}{pos:String}{after:Array Edge}{x y s:Operand}{sz by':Nat}{v v1:Value}
theorem run_slice0 (hb:appB P t e sz by'=true) (w:World):(Instr.buildSlice t 0 #[]).run P w = .ok (.slice (some ⟨w.heap.size,0,none⟩) 0 0) (w.alloc (.cells #[] e)):=by
 obtain ⟨hu,i,z,hi,hz,e1,e2,e3,e4⟩:=appB_spec hb
 have hsz':(sizeOf e).run P w = .ok i.size w:=by simp [sizeOf,typeInfo,hi]
 have hf:Instr.fill (fun i'=>some (i' * i.size,i.size)) ((Array.range 0).map ((#[]:Array Value)[· % (#[]:Array Value).size]!)) []=some #[]:=by unfold Instr.fill;simp
 unfold Instr.buildSlice
 simp only [Sem.run_bind,run_underlying hu,Result.andThen_ok,hsz',Nat.zero_mul,if_neg (show ¬ (0>2^24) by omega)]
 simp [newRow,go_sem]
theorem at_slice0 (h:Stop (wpList P ops Q (⟨dst,.buildSlice ty 0 #[],t,pos,after,none⟩::rest) a w)):wpList P ops Q (⟨dst,.buildSlice ty 0 #[],t,pos,after,none⟩::rest) a w:=h.out
theorem wl_slice0 (hb:appB P ty e sz by'=true) (hs:Sat w0 w L)
  (hK:∀ b w',Sat w0 w' (osl e sz (.slice (some ⟨b,0,none⟩) 0 0) []::L)→wpList P ops Q rest (a.put dst (.slice (some ⟨b,0,none⟩) 0 0)) w'):wpList P ops Q (⟨dst,.buildSlice ty 0 #[],t,pos,after,none⟩::rest) a w:=by
 refine wpList_plain rfl fun _ hK'=>?_
 have hS:=hs.alloc (.cells #[] e)
 unfold Oper.wp execOp
 simp only [List.map_toArray,List.map_nil,Sem.run_bind,Sem.run_pure,run_slice0 hb w,Result.andThen_ok]
 exact hK' _ _ (hK _ _ (Sat.osl_of_pt hS (by simp) (Nat.le_refl _) (by simp) dCz (by simp)))
end
section
variable {w0 w:World}{F:List HProp}{p b n c B:Nat}{m:Frm.Bs→Option Seg.Plc}{xs:List Value}
set_option maxRecDepth 20000 in
theorem cloneL_c (h1:∀ u∈xs,u.oneCell'=true) (hl:xs.length≤2147483648) (h:Sat w0 w (osl 170 36 (.slice (some ⟨b,0,none⟩) n c) xs::F)) :
  Calls Tryz.prog 82 #[.slice (some ⟨b,0,none⟩) n c] w (Rtn fun v w'=>Sat w0 w' (osl 170 36 v xs::osl 170 36 (.slice (some ⟨b,0,none⟩) n c) xs::F)):=by
 have H1:=uQ h1;have Hl:=uQ hl
 have he:∀ w,(binOp .eql 167 (.slice (some ⟨b,0,none⟩) n c) (.slice none 0 0)).run Tryz.prog w = .ok (.bool false) w:=fun w=>by first|kernel_rfl|rfl
 clear h1 hl
 go_enter Tryz.func82,Tryz.ntmps82
 go_wp2_with (first
  |((with_reducible refine at_slice0 ⟨?_⟩);refine wl_slice0 (e:=170) (sz:=36) (by':=64) kRz h ?_;intro bN wN hN)
  |(with_reducible apply at_append))
 refine ⟨wl_appD 170 36 64 kRz hN rFz rFz pick0 (Sat.rd hN.drop) H1.out (by have:=Hl.out;simp only [List.length_nil];omega) dCz ?_⟩
 intro v' w' hS
 rw [List.nil_append]at hS
 go_wp2_with fail
 go_ret
 exact ⟨_,rfl,hS⟩
theorem slots_one (s:List (Tab.Slot Seg.Plc)):∀ u∈s.flatMap (slotL penc),u.oneCell'=true:=fun u hu=>by
 obtain ⟨x,_,hx⟩:=List.mem_flatMap.1 hu
 have:=(List.all_eq_true.1 (slotL_ones penc x (penc_ones _))) u hx
 exact this
set_option maxRecDepth 20000 in
theorem copyL_c (hB:B≤14000000) (h:Sat w0 w (TabML p m B::F)) :
  Calls Tryz.prog 46 #[ptr p] w (Rtn fun v w'=>∃ q,v=ptr q∧Sat w0 w' (TabML q m B::TabML p m B::F)):=by
 obtain ⟨t,sv,⟨ok,is,hb⟩,hR⟩:=TabML.open h
 have hsz:t.slots.length≤56000008:=by have:=ok.size;omega
 have Hlen:=uQ (show ∀ x∈t.slots,(slotL penc x).length=36 from fun x hx=>slotL_len penc x (ok.good.key x hx) 3 (penc_len _))
 have Hp0:=uQ ok.good.pos_len
 have Hxl:=uQ (show (t.slots.flatMap (slotL penc)).length=t.slots.length * 36 from (rows_len Hlen.out).trans (Nat.mul_comm _ _))
 obtain ⟨la,lc,rfl⟩:=osl_rows Hlen.out (Sat.rd (hR.pick pick1)) dCz
 obtain ⟨bs,rfl⟩:∃ bs,la=some ⟨bs,0,none⟩:=by
  rcases Sat.osl_cases (hR.pick pick1) with ⟨_,he,_⟩|⟨b,n,cap,cs,he,_⟩
  ·have:=congrArg List.length he
   have:=Hxl.out
   have:=Hp0.out
   simp only [List.length_nil]at *;omega
  ·cases he;exact ⟨b,rfl⟩
 have hok:=okL_c Hp0.out hR
 have Hok:=uQ ok;have His:=uQ is;have Hb:=uQ hb;have Hsz:=uQ hsz
 clear h ok is hb hsz hB
 go_enter Tryz.func46,Tryz.ntmps46
 go_wp2_with fail
 refine hok.mono ?_
 rintro ee w1 ⟨v,rfl,rfl,rfl⟩
 clear hok
 go_wp2_with fail
 have hR1:=hR.drew
 clear hR
 refine wpL_begin [13,14,15] (fun w'=>w'.cell? ⟨p,0,none⟩=some (.slice (some ⟨bs,0,none⟩) t.slots.length lc)∧w'.cell? ⟨p,1,none⟩=some (.int .i64 t.n)∧w'.cell? ⟨p,2,none⟩=some (.int .i64 t.gone)) kRz ?_
 have hG:World.cell? _ ⟨p,0,none⟩=some (.slice (some ⟨bs,0,none⟩) t.slots.length lc)∧World.cell? _ ⟨p,1,none⟩=some (.int .i64 t.n)∧World.cell? _ ⟨p,2,none⟩=some (.int .i64 t.gone):=⟨hR1.cellAt 0 _ rfl,hR1.cellAt 1 _ rfl,hR1.cellAt 2 _ rfl⟩
 refine rP 0 ?_ (y:=mvQ)
 refine rP 1 ?_ (y:=nlQ)
 refine rP 2 ?_ (y:=flQ)
 refine rt 3 (h:=?_)
 refine rP 5 ?_ (y:=mvQ)
 refine rP 6 ?_ (y:=nlQ)
 refine rP 7 ?_ (y:=flQ)
 refine rt 8 (h:=?_)
 refine rP 9 ?_ (y:=mvQ)
 refine rP 10 ?_ (y:=nlQ)
 refine rP 11 ?_ (y:=flQ)
 refine rt 12 (h:=?_)
 clear hG
 refine rg_eff 4 evD kRz (fun K hK=>?_)
 (refine eff_call1 kRz evD ?_)
 refine (cloneL_c (slots_one _) (by rw [Hxl.out];have:=Hsz.out;omega) (hR1.sb:Sat w0 _ (osl 170 36 (.slice (some ⟨bs,0,none⟩) t.slots.length lc) (t.slots.flatMap (slotL penc))::tbPt p 172 (.slice (some ⟨bs,0,none⟩) t.slots.length lc) t.n t.gone::F))).mono ?_
 rintro ee w2 ⟨v,rfl,h2⟩
 refine hK _ _ (.inr (.inl ⟨h2.cellP pick2 0 rfl,h2.cellP pick2 1 rfl,h2.cellP pick2 2 rfl⟩)) ?_
 clear hK hR1
 obtain ⟨a2,c2,rfl⟩:=osl_rows Hlen.out (Sat.rd h2) dCz
 refine rp 13 (hy:=(by (refine Or.inl ⟨by rfl,?_⟩;((intro wq;go_simp);first|done|exact wQ)))) (h:=?_)
 refine rg_eff 14 evD kRz (fun K hK=>?_)
 refine eff_box (cs:=#[.slice a2 t.slots.length c2,.int .i64 t.n,.int .i64 t.gone]) h2 evD evD ?_
 intro q w3 h3
 refine hK _ _ (.inl rfl) ?_
 clear hK h2
 refine rP 15 ?_ (y:=asQ)
 refine wpL_done kRz ?_
 try simp only [ayQ]
 try go_frame
 go_wp2_with fail
 go_ret
 have h4:=TabML.shut Hok.out His.out Hb.out (h3.sb:Sat w0 w3 (tbPt p 172 (.slice (some ⟨bs,0,none⟩) t.slots.length lc) t.n t.gone::osl 170 36 (.slice (some ⟨bs,0,none⟩) t.slots.length lc) (t.slots.flatMap (slotL penc))::tbPt q 172 (.slice a2 t.slots.length c2) t.n t.gone::osl 170 36 (.slice a2 t.slots.length c2) (t.slots.flatMap (slotL penc))::F))
 exact ⟨_,rfl,q,rfl,TabML.shut Hok.out His.out Hb.out (h4.sb)⟩
end
section
variable {w0 w:World}{F:List HProp}{p q m d K i:Nat}{L:Seg.Log}{M D:Med}{tv:Value}
set_option maxRecDepth 20000 in
theorem drop_c (t:List Int) (htl:t.length≤1048576) (hL:L.Ok) (hM:M.Ok K) (hK:K≤1048576) (hr:Ro w0 F (rdsl 1 tv (ints t))) (h:Sat w0 w (LogRep p m L::MedRep m M::F)) :
  Calls Tryz.prog 45 #[ptr p,tv] w (Rtn fun v w'=>v=errno (Seg.Log.drop t t.length L M).2∧Sat w0 w' (LogRep p m (Seg.Log.drop t t.length L M).1.1::MedRep m (Seg.Log.drop t t.length L M).1.2::F)):=by
 obtain ⟨ta,tc,rfl⟩:=ints_sl (hr w h.drop.drop)
 have Hr:=uQ hr;have Htl:=uQ htl;have HK:=uQ hK
 have w1:IntKind.i64.wrap ((t.length:Int) - 1)=(t.length:Int) - 1:=IntWalk.i64_in _ oQ
 have H0:=uQ (show L.Ok∧M.Ok K from ⟨hL,hM⟩)
 clear hr htl hK hL hM
 go_enter Tryz.func45,Tryz.ntmps45
 go_wp2_with fail
 go_loopg [5] t.length (fun g iq wr=>∃ (k:Nat) (L':Seg.Log) (M':Med),g=0+k∧k≤t.length∧iq = .int .i64 ((k:Int) - 1)∧Seg.Log.drop t t.length L M=Seg.Log.drop t k L' M'∧L'.Ok∧M'.Ok (K+(t.length - k))∧Sat w0 wr (LogRep p m L'::MedRep m M'::F))
 case atStart=>exact ⟨t.length,L,M,(Nat.zero_add _).symm,Nat.le_refl _,rfl,rfl,H0.out.1,H0.out.2.mono (Nat.le_add_right _ _),h⟩
 case round=>
  obtain ⟨k,L',M',rfl,hk,rfl,he,hL,hM,hS⟩:=hrel
  clear h
  cases k with
  |zero=>
   have c1:¬ (((0:Nat):Int) - 1)≥0:=by decide
   have He:=uQ he;have HM:=uQ hM;have HL:=uQ hL
   clear he hL hM hk
   by_cases ht:t=[]
   ·have hb:((t.length:Int)==0)=true:=by rw [ht];rfl
    have Hf:=uQ (Seg.drop_nil (L:=L') (M:=M') ht)
    clear ht
    go_wp2_with fail
    go_ret
    rw [He.out,Hf.out]
    exact ⟨_,rfl,rfl,hS⟩
   ·have hb:((t.length:Int)==0)=false:=by
     rw [beq_eq_false_iff_ne]
     intro e
     exact ht (List.eq_nil_of_length_eq_zero oQ)
    have Hf:=uQ (Seg.drop_end (L:=L') (M:=M') ht)
    clear ht
    go_wp2_with fail
    refine (lsync_c HM.out hS).mono ?_
    rintro ee w2 ⟨v,rfl,rfl,hS2⟩
    clear hS
    go_wp2_with fail
    go_ret
    rw [He.out,Hf.out]
    exact ⟨_,rfl,rfl,hS2⟩
  |succ k=>
   have e1:((k+1:Nat):Int) - 1=(k:Int):=oQ
   rw [e1]
   have c1:(k:Int)≥0:=oQ
   have c2:(k:Int)<(t.length:Int):=oQ
   have w2:IntKind.i64.wrap ((k:Int) - 1)=(k:Int) - 1:=IntWalk.i64_in _ (by have:=Htl.out;omega)
   obtain ⟨s,hs⟩:∃ s,t[k]?=some s:=⟨_,List.getElem?_eq_getElem oQ⟩
   have hgd:t.getD k 0=s:=by rw [List.getD,hs];rfl
   obtain ⟨bk,off,cc,e2,c0⟩:=ints_cell (Hr.out _ hS.drop.drop) hs
   cases e2
   have hrm:=lremove_c hL hM (by have:=HK.out;have:=Htl.out;omega) s hS
   have He:=uQ he;have Hk:=uQ hk
   have hlog:=hL.remove M' s
   have hmed:=Seg.remove_med (L:=L') hM s
   have Hgo:=uQ (fun (h0:(L'.remove M' s).2=0)=>Seg.drop_go (t:=t) (L:=L') (M:=M') (k:=k) (by rw [hgd];exact h0))
   have Hno:=uQ (fun (h0:(L'.remove M' s).2≠0)=>Seg.drop_no (t:=t) (L:=L') (M:=M') (k:=k) (by rw [hgd];exact h0))
   rw [hgd]at Hgo Hno
   clear he hk hs hgd hL hM hS
   generalize L'.remove M' s=r at *
   obtain ⟨⟨L2,M2⟩,e⟩:=r
   dsimp only at hrm hlog hmed Hgo Hno
   have Hlog:=uQ hlog;have Hmed:=uQ hmed
   clear hlog hmed
   go_wp2_with fail
   refine hrm.mono ?_
   rintro ee w3 ⟨v,rfl,rfl,hS3⟩
   clear hrm c0
   by_cases h0:e=0
   ·subst h0
    have Hf:=uQ (Hgo.out rfl)
    go_wp2_with fail
    go_roundg (0+k)
    case measure=>omega
    case rel=>exact ⟨k,L2,M2,rfl,Nat.le_of_succ_le Hk.out,by first|rfl|go_num,He.out.trans Hf.out,Hlog.out,Hmed.out.mono (by have:=Hk.out;omega),hS3⟩
   ·have hb:(e != 0)=true:=by rw [bne_iff_ne];exact h0
    have hb2:(e==0)=false:=by rw [beq_eq_false_iff_ne];exact h0
    have Hf:=uQ (Hno.out h0)
    clear h0
    go_wp2_with fail
    go_ret
    rw [He.out,Hf.out]
    exact ⟨_,rfl,rfl,hS3⟩
end
end Go.Proofs.YtlimfgdbfadohaaGreatDoor
