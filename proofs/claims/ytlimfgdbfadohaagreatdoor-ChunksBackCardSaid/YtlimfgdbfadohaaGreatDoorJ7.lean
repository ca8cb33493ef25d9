import Derived.Test.YtlimfgdbfadohaaGreatDoorJ6
import Derived.Laws.StructEq
import Derived.Lib.ConvBytes
import Derived.ArgAppend
import Derived.Laws.BitsAllLaws
import Derived.Test.YtlimfgdbfadohaaGreatDoorShelf
set_option linter.unusedVariables false
set_option maxHeartbeats 128000000
namespace Go.Rep
open Go.ak (Bs)
def zW (bt:Told) (ns:List Int) (n:Nat):(eY×Int) ⊕ Nat:=match bad bt (ns.take n) with
 |some x=> .inl x
 |none=> .inr n
def run (bt:Told) (ns:List Int):(eY×Int) ⊕ Nat:=
 if (split bt ns ns.length).2≠0 then .inl (eY.zero,(split bt ns ns.length).2) else zW bt ns (split bt ns ns.length).1
theorem TY {bt:Told}{ns:List Int}{n:Nat}{x:eY×Int} (h:bad bt (ns.take n)=some x):zW bt ns n = .inl x:=by unfold zW;rw [h]
theorem aea {bt:Told}{ns:List Int}{n:Nat} (h:bad bt (ns.take n)=none):zW bt ns n = .inr n:=by unfold zW;rw [h]
def rE (l:List Int):Int:=match l.getLast? with
 |some s=>s
 |none=> -1
theorem Sm:∀ {l:List Row}{k:Bs}{r:Row},newest l k=some r→r∈l
 |[],_,_,h=>by cases h
 |x::l,k,r,h=>by
  unfold newest at h
  split at h
  ·rename_i y hy
   cases h
   exact .tail _ (Sm hy)
  ·split at h
   ·cases h;exact .head _
   ·cases h
theorem abo {l:List Row}{k:Bs}{a:dP} (h:ledger l k=some a):∃ r∈l,a.place=mO r:=by
 unfold ledger at h
 cases hn:newest l k with
 |none=>rw [hn]at h;cases h
 |some r=>rw [hn]at h;cases h;exact ⟨r,Sm hn,rfl⟩
theorem ad1 (bt:Told) (ns:List Int) (n:Nat):∀ r∈rowsOf bt (ns.take n),r∈rowsOf bt ns:=fun r hr=>by
 unfold rowsOf at hr ⊢
 obtain ⟨s,hs,h⟩:=List.mem_flatMap.1 hr
 exact List.mem_flatMap.2 ⟨s,List.mem_of_mem_take hs,h⟩
theorem KI (bt:Told) (ns:List Int) (n:Nat):(rowsOf bt (ns.take n)).length≤(rowsOf bt ns).length:=by
 have e:rowsOf bt ns=rowsOf bt (ns.take n)++rowsOf bt (ns.drop n):=by
  unfold rowsOf;rw [← List.flatMap_append,List.take_append_drop]
 rw [e,List.length_append];omega
theorem abh (l:List Int) (s:Int):rE (l++[s])=s:=by unfold rE;rw [List.getLast?_append];rfl
end Go.Rep
namespace Go.Proofs.YtlimfgdbfadohaaGreatDoor
open Go Go.Sl Go.aB Go.MapKept Go.RowKit
section
variable {P:Program}{w0 w:World}{L R:List aC}{b:Nat}{ops:Array Oper}{a:Act}{Q:Exit→Act→World→Prop}{K:Act→World→Prop}{E:Prop}{dst:Option Tmp}{t ty:TypeId}{pos:String}{after:Array Edge}{y:Operand}{v:Value}{cs:Array Value}
theorem OL (hs:Sat w0 w L) (hy:a.eval y=v) (hcs:v.cells=cs)
  (hK:∀ b w',Sat w0 w' (pt b (.cells cs ty (0,0))::L)→K (a.put dst (.pointer (some ⟨b,0,none⟩))) w') :
  if Region.wanted ⟨dst,.box ty y,t,pos,after,none⟩ (yielded ops a.tmps)=true then Oper.wp P ⟨dst,.box ty y,t,pos,after,none⟩ a w K Q else E:=by
 subst hcs
 refine xR rfl ?_
 have hS:=hs.alloc (.cells v.cells ty)
 unfold Oper.wp execOp
 have hrun:(Instr.box ty v).run P w = .ok (.pointer (some ⟨w.heap.size,0,none⟩)) (w.alloc (.cells v.cells ty)):=by
  simp [Instr.box,newVar,newRow,go_sem]
 simp only [hy,Sem.run_bind,Sem.run_pure,hrun,Result.andThen_ok]
 exact hK _ _ hS
end
section
variable {w0 w:World}{F R:List aC}{sv:Value}
theorem af5 {l:List Int}{n:Nat} (hn:n≤l.length) (h:Sat w0 w (aF 3 1 sv (ints l)::R)) :
  ∃ tv,(∀ w,(Instr.sliceAt 44 sv (some (.int .i64 n)) none none).run Tryz.prog w = .ok tv w)∧(∃ a' c',tv = .slice a' (l.length - n) c')∧∀ W,bK 1 sv (ints l) W→bK 1 tv (ints (l.drop n)) W:=by
 rcases h.jR with ⟨rfl,he,h'⟩|⟨g,k,cap,cs,rfl,hl,hk,hc,hcm,htk,hp⟩
 ·obtain rfl:l=[]:=by simpa [ints] using he
  obtain rfl:n=0:=by simpa using hn
  refine ⟨.slice none 0 0,fun w=>by go_simp,⟨none,0,rfl⟩,fun W hW=>by simpa using hW⟩
 ·obtain rfl:k=l.length:=by simpa [ints] using hl.symm
  by_cases hce:cap=n
  ·have hd:l.drop n=[]:=List.drop_eq_nil_of_le oQ
   have e0:l.length - n=0:=oQ
   rw [hd,e0]
   have h1:n≤cap:=oQ
   have h2:l.length=n:=oQ
   refine ⟨.slice (some ⟨g,0,none⟩) 0 0,fun w=>?_,⟨_,_,rfl⟩,fun W hW=>⟨_,_,_,rfl,rfl,fun j x hj=>by cases hj⟩⟩
   have h4:(0:Int)≤(n:Int):=oQ
   have h5:(n:Int).toNat=n:=oQ
   subst hce
   go_simp
  ·refine ⟨.slice (some ⟨g,n,none⟩) (l.length - n) (cap - n),fun w=>?_,⟨_,_,rfl⟩,fun W hW=>?_⟩
   ·have h4:(0:Int)≤(n:Int):=by omega
    have h5:(n:Int).toNat=n:=oQ
    have h6:n≤cap:=oQ
    go_simp
   ·obtain ⟨a,n',c,he,hl',hx⟩:=hW
    cases he
    refine ⟨_,_,_,rfl,by unfold ints;rw [List.length_map,List.length_drop,Nat.mul_one],fun j x hj=>⟨_,rfl,?_⟩⟩
    have hj2:(ints l)[n+j]?=some x:=by
     unfold ints at hj ⊢
     rw [List.map_drop,List.getElem?_drop]at hj
     exact hj
    obtain ⟨ad,e,hc'⟩:=hx (n+j) x hj2
    cases e
    rw [y9,Nat.zero_add]at hc'
    rw [y9]
    exact hc'
theorem aam {l:List Int}{n:Nat} (hn:n≤l.length) (h:Sat w0 w (aF 3 1 sv (ints l)::R)) :
  ∃ a' c',(∀ w,(Instr.sliceAt 44 sv none (some (.int .i64 n)) none).run Tryz.prog w = .ok (.slice a' n c') w)∧∀ W,bK 1 sv (ints l) W→bK 1 (.slice a' n c') (ints (l.take n)) W:=by
 rcases h.jR with ⟨rfl,he,h'⟩|⟨g,k,cap,cs,rfl,hl,hk,hc,hcm,htk,hp⟩
 ·obtain rfl:l=[]:=by simpa [ints] using he
  obtain rfl:n=0:=by simpa using hn
  refine ⟨none,0,fun w=>by go_simp,fun W hW=>by simpa using hW⟩
 ·obtain rfl:k=l.length:=by simpa [ints] using hl.symm
  refine ⟨some ⟨g,0,none⟩,cap,fun w=>?_,fun W hW=>?_⟩
  ·have h4:(0:Int)≤(n:Int):=by omega
   have h5:(n:Int).toNat=n:=oQ
   have h6:n≤cap:=oQ
   go_simp
  ·obtain ⟨a,n',c,he,hl',hx⟩:=hW
   cases he
   refine ⟨_,_,_,rfl,by unfold ints;rw [List.length_map,List.length_take,Nat.mul_one];omega,fun j x hj=>?_⟩
   refine hx j x ?_
   unfold ints at hj ⊢
   rw [List.map_take,List.getElem?_take]at hj
   split at hj
   ·exact hj
   ·cases hj
theorem eF.lists {p B:Nat}{m:ak.Bs→Option Rep.dP} (h:Sat w0 w (eF p m B::R)):∃ kv,Tab.Lists m kv∧(∀ q∈kv,q.1.length=32)∧kv.length≤B:=by
 obtain ⟨t,sv',⟨ok,is,hb⟩,hS⟩:=eF.open h
 have hp:=List.mergeSort_perm (t.slots.filter fun x=>decide (x.st=1)) (fun a b:Tab.Slot Rep.dP=>decide (¬ b.key<a.key))
 have hw:=List.pairwise_mergeSort (le:=fun a b:Tab.Slot Rep.dP=>decide (¬ b.key<a.key)) (fun a b c h1 h2=>by
   rw [decide_eq_true_eq]at h1 h2 ⊢
   intro h3
   rcases Tab.zn a.key b.key with q|q|q
   ·exact h2 (List.lt_trans h3 q)
   ·exact h2 (q ▸ h3)
   ·exact h1 q) (fun a b=>by
   rw [Bool.or_eq_true,decide_eq_true_eq,decide_eq_true_eq]
   by_cases q:b.key<a.key
   ·exact .inr fun q2=>List.lt_irrefl _ (List.lt_trans q q2)
   ·exact .inl q) (t.slots.filter fun x=>decide (x.st=1))
 obtain ⟨h1,h2⟩:=Tab.Jz ok.good is hp (hw.imp fun {a b} q=>by rwa [decide_eq_true_eq]at q)
 refine ⟨_,h1,fun q hq=>?_,?_⟩
 ·obtain ⟨x,hx,rfl⟩:=List.mem_map.1 hq
  exact (h2 x hx).2
 ·rw [List.length_map,hp.length_eq,← List.countP_eq_length_filter]
  have e:t.slots.countP (fun x=>decide (x.st=1))=Tab.jg t.slots:=by
   unfold Tab.jg
   refine List.countP_congr fun x _=>?_
   simp
  have:=ok.n;omega
end
end Go.Proofs.YtlimfgdbfadohaaGreatDoor
namespace Go.Rep
open Go.ak (Bs gG aX kG encs jd)
open Go.Seg (bF mag)
open Go.Tab
def iD:Nat→List (List aX)→List Row
 |_,[]=>[]
 |k,es::C=>((kG es 8).map fun f=>((k:Int),f))++iD (k+1) C
section
variable {C:List (List aX)}{bt:Told}{k n:Nat}
theorem KG:∀ (k:Nat) (C:List (List aX)),(iD k C).map (·.2.e)=C.flatten
 |_,[]=>rfl
 |k,es::C=>by
  unfold iD
  rw [List.map_append,List.map_map,KG (k+1) C,List.flatten_cons]
  congr 1
  exact ak.Pz es 8
def ahH (es:List aX):Bool:=match es.getLast? with
 |some x=>x.tag==2
 |none=>false
def nN:List aX→Bs→Option aX
 |[],_=>none
 |x::l,k=>match nN l k with
  |some y=>some y
  |none=>if x.tag≠2∧x.key=k then some x else none
theorem Sj:∀ (l:List Row) (k:Bs),(newest l k).map (·.2.e)=nN (l.map (·.2.e)) k
 |[],_=>rfl
 |r::l,k=>by
  have ih:=Sj l k
  unfold newest
  rw [List.map_cons]
  conv=>rhs;unfold nN
  rw [← ih]
  cases newest l k with
  |some x=>rfl
  |none=>
   simp only [Option.map_none]
   unfold iC jo
   split <;> rfl
theorem abf (a b:List aX) (k:Bs):nN (a++b) k=match nN b k with
  |some y=>some y
  |none=>nN a k:=by
 induction a with
 |nil=>cases h:nN b k <;> simp [nN,h]
 |cons x a ih=>
  rw [List.cons_append]
  conv=>lhs;unfold nN
  rw [ih]
  cases h:nN b k with
  |some y=>rfl
  |none=>simp only;conv=>rhs;unfold nN
theorem Rl (a:List aX) (x:aX) (k:Bs):nN (a++[x]) k=if x.tag≠2∧x.key=k then some x else nN a k:=by
 rw [abf]
 unfold nN
 simp only [nN]
 split
 ·rename_i y h;split at h
  ·rename_i h2;rw [if_pos h2];exact h.symm
  ·cases h
 ·rename_i h;split at h
  ·cases h
  ·rename_i h2;rw [if_neg h2]
theorem KH:∀ (C:List (List aX)) (k:Nat){r:Row},r∈iD k C→∃ j es,C[j]?=some es∧r.1=((k+j:Nat):Int)∧r.2∈kG es 8
 |[],_,r,h=>by cases h
 |es::C,k,r,h=>by
  unfold iD at h
  rcases List.mem_append.1 h with h|h
  ·obtain ⟨f,hf,rfl⟩:=List.mem_map.1 h
   exact ⟨0,es,rfl,by simp,hf⟩
  ·obtain ⟨j,fs,h1,h2,h3⟩:=KH C (k+1) h
   exact ⟨j+1,fs,by simpa using h1,by rw [h2];congr 1;omega,h3⟩
theorem Iy:∀ (es:List aX) (a:Nat){f:gG},f∈kG es a→∃ u v,es=u++f.e::v∧f.at_=a+(encs u).length∧f.size=(ak.encode f.e).1.length
 |[],_,f,h=>by cases h
 |x::es,a,f,h=>by
  unfold kG at h
  rcases List.mem_cons.1 h with rfl|h
  ·exact ⟨[],es,rfl,rfl,rfl⟩
  ·obtain ⟨u,v,h1,h2,h3⟩:=Iy es _ h
   refine ⟨x::u,v,by rw [h1];rfl,?_,h3⟩
   have e:encs (x::u)=(ak.encode x).1++encs u:=rfl
   rw [h2,e,List.length_append];omega
end
end Go.Rep
namespace Go.Seg
open Go.aB
open Go.ak (encs jd kG)
section
variable {n:Nat}{M:aB}{L:Log}{C:List (List ak.aX)}
end
end Go.Seg
namespace Go.Seg
open Go.aB
open Go.ak (encs jd)
section
variable {K:Nat}{M M':aB}{L:Log}{s t:ByteArray}{i:Nat}
def Grow (M:aB):Prop:=∀ j,∀ c∈(M.file j).waits,c.cut=false
def VP (s:ByteArray) (i:Nat) (M:aB):Prop:=dD M.fast s=some i∧∀ w∈M.waits,w.fr≠s∧w.to≠s
end
section
variable {K:Nat}{M M':aB}{L:Log}{s t:ByteArray}{i:Nat}
def nf (L:Log):List Int:=(L.l.map (·.1)).take (L.l.length - L.fresh.toNat)
def Slice (p:bF) (x:ak.aX) (b:Bs):Prop:=∃ a:Nat,p.at_=a∧p.size=((ak.encode x).1.length:Int)∧(ak.encode x).1 <+: b.drop a
structure XD (L:Log) (M:aB) (p:bF) (x:ak.aX):Prop where
 good:jd x
 mem:p.seg∈nf L
 file:∃ i,dD M.now (name p.seg)=some i∧VP (name p.seg) i M∧Slice p x (M.file i).fast
structure Xz (L:Log) (M:aB) (p:bF) (x:ak.aX):Prop where
 good:jd x
 mem:p.seg∈L.l.map (·.1)
 file:∃ i,dD M.now (name p.seg)=some i∧Slice p x (M.file i).now∧(Slice p x (M.file i).fast∨L.on=true∧∃ s,L.l.getLast?=some s∧s.1=p.seg)
structure St (K:Nat) (L:Log) (M:aB) (sure opn:List (bF×ak.aX)):Prop where
 log:L.Ok
 ok:M.Ok K
 grow:Grow M
 has:Has L M
 tail:L.on=true→∃ s i,L.l.getLast?=some s∧dD M.now (name s.1)=some i∧s.2=((M.file i).now.length:Int)
 sure:∀ q∈sure,XD L M q.1 q.2
 opn:M.off=false→∀ q∈opn,Xz L M q.1 q.2
variable {sure opn:List (bF×ak.aX)}
end
end Go.Seg
namespace Go.Seg
open Go.aB
section
variable {K K':Nat}{M M':aB}{L:Log}{s t:ByteArray}{i:Nat}{sure opn:List (bF×ak.aX)}
theorem Np:∀ (x y u v:Bs),x.length=y.length→x<y→x++u<y++v
 |[],[],_,_,_,h=>absurd h (List.not_lt_nil [])
 |[],_::_,_,_,h,_=>by simp at h
 |_::_,[],_,_,h,_=>by simp at h
 |a::x,b::y,u,v,hl,h=>by
  rw [List.cons_append,List.cons_append,List.cons_lt_cons_iff]
  rcases List.cons_lt_cons_iff.1 h with h1|⟨e,h1⟩
  ·exact .inl h1
  ·exact .inr ⟨e,Np x y u v (by simpa using hl) h1⟩
theorem G5:∀ (x u v:Bs),u<v→x++u<x++v
 |[],_,_,h=>h
 |a::x,u,v,h=>by
  rw [List.cons_append,List.cons_append,List.cons_lt_cons_iff]
  exact .inr ⟨rfl,G5 x u v h⟩
theorem OE:∀ (k a b:Nat),a<b→b<10^k→iI a k<iI b k
 |0,a,b,h,hb=>by simp at hb;omega
 |k+1,a,b,h,hb=>by
  show iI (a / 10) k++[UInt8.ofNat (48+a%10)]<iI (b / 10) k++[UInt8.ofNat (48+b%10)]
  have hb':b / 10<10^k:=by rw [Nat.div_lt_iff_lt_mul oQ];rw [Nat.pow_succ]at hb;exact hb
  rcases Nat.lt_or_ge (a / 10) (b / 10) with q|q
  ·exact Np _ _ _ _ (by rw [zq,zq]) (OE k _ _ q hb')
  ·have e:a / 10=b / 10:=by omega
   rw [e]
   refine G5 _ _ _ ?_
   rw [List.cons_lt_cons_iff]
   left
   rw [UInt8.lt_iff_toNat_lt,UInt8.toNat_ofNat',UInt8.toNat_ofNat']
   omega
theorem abX {a b:Int} (h1:0≤a) (h2:a<b) (h3:b<1048576):lt (name a) (name b)=true:=by
 unfold name
 rw [if_neg oQ,if_neg oQ]
 unfold lt
 rw [decide_eq_true_eq]
 show lead++iI a.toNat 8<lead++iI b.toNat 8
 exact G5 _ _ _ (OE 8 _ _ oQ oQ)
theorem J4 {s:ByteArray} (h:(number s).2=true):0≤(number s).1∧(number s).1<1048576∧name (number s).1=s:=by
 unfold number at h ⊢
 dsimp only at h ⊢
 split at h
 ·rename_i hc
  rw [if_pos hc]
  obtain ⟨c1,c2,c3,c4⟩:=hc
  refine ⟨by simp only;omega,by simp only;omega,?_⟩
  simp only
  unfold name
  rw [if_neg oQ]
  have hl:(s.data.toList.drop 4).length=8:=by
   have:s.data.toList.length=12:=by first|exact c1|(rw [Array.length_toList];exact c1)
   rw [List.length_drop,this]
  have hd:=YR (s.data.toList.drop 4) c3
  rw [hl]at hd
  have e:lead++iI (Int.toNat ((val (s.data.toList.drop 4):Nat):Int)) 8=s.data.toList:=by
   rw [Int.toNat_natCast,hd,← c2,List.take_append_drop]
  rw [e]
 ·cases h
theorem Iz {l:List ByteArray}{x:Int×Int} (h:x∈found M l):∃ t∈l,(number t).2=true∧x=((number t).1,(M.size t).1):=by
 unfold found at h
 obtain ⟨t,ht,he⟩:=List.mem_filterMap.1 h
 split at he
 ·rename_i hn;exact ⟨t,ht,hn,(Option.some.inj he).symm⟩
 ·cases he
theorem PL:∀ (l:List ByteArray),l.Pairwise (fun a b=>lt a b=true)→((found M l).map (·.1)).Pairwise (· < ·)
 |[],_=>List.Pairwise.nil
 |t::l,h=>by
  obtain ⟨h1,h2⟩:=List.pairwise_cons.1 h
  have ih:=PL l h2
  by_cases hn:(number t).2=true
  ·have e:found M (t::l)=((number t).1,(M.size t).1)::found M l:=by unfold found;rw [List.filterMap_cons];simp [hn]
   rw [e,List.map_cons,List.pairwise_cons]
   refine ⟨fun x hx=>?_,ih⟩
   obtain ⟨y,hy,rfl⟩:=List.mem_map.1 hx
   obtain ⟨u,hu,hun,rfl⟩:=Iz hy
   have hlt:=h1 u hu
   obtain ⟨a1,a2,a3⟩:=J4 hn
   obtain ⟨b1,b2,b3⟩:=J4 hun
   rcases Int.lt_or_le (number t).1 (number u).1 with q|q
   ·exact q
   ·exfalso
    rcases Int.lt_or_eq_of_le q with q|q
    ·have h3:=abX b1 q a2
     rw [a3,b3]at h3
     have:=lt_trans hlt h3
     rw [lt_irrefl]at this;cases this
    ·rw [← a3,← q,b3,lt_irrefl]at hlt;cases hlt
  ·have e:found M (t::l)=found M l:=by unfold found;rw [List.filterMap_cons];simp [hn]
   rw [e];exact ih
theorem IB (ok:M.Ok K) (limit:Int) (h1:128≤limit) (h2:limit≤1048576):(fresh M limit).Ok:=by
 refine ⟨⟨h1,h2⟩,?_,fun x hx=>?_,fun x hx=>?_,⟨Int.le_refl _,by simp [fresh]⟩,fun hh=>by cases hh⟩
 ·refine PL M.list ?_
  unfold aB.list
  split
  ·exact List.Pairwise.nil
  ·rw [List.pairwise_map];exact ok.iO.qM
 ·obtain ⟨t,_,hn,rfl⟩:=Iz hx
  have:=J4 hn
  exact ⟨this.1,this.2.1⟩
 ·obtain ⟨t,_,hn,rfl⟩:=Iz hx
  unfold aB.size
  split
  ·simp
  split
  ·simp
  ·have:=(ok.file ‹Nat›).sH
   simp only
   omega
end
end Go.Seg
namespace Go.kS
open Go.aB
def name (lead:ByteArray) (n:Int):ByteArray:=if Seg.name n=ByteArray.empty then ByteArray.empty else lead++(Seg.name n).extract 4 12
def idx:ByteArray:=⟨#[105,100,120,46]⟩
def use:ByteArray:=⟨#[117,115,101,46]⟩
theorem Uo (n:Int):Seg.name n=ByteArray.empty∨(Seg.name n).size=12∧(Seg.name n).data.toList.take 4=Seg.lead:=by
 unfold Seg.name
 split
 ·exact .inl rfl
 ·right
  refine ⟨?_,rfl⟩
  show (Seg.lead++Seg.iI n.toNat 8).toArray.size=12
  rw [List.size_toArray,List.length_append,Seg.zq];rfl
end Go.kS
namespace Go.Proofs.YtlimfgdbfadohaaGreatDoor
open Go Go.Sl Go.aB Go.MapKept Go.RowKit
section
variable {w0 w:World}{F:List aC}{v bv dv x:Value}{q m:Nat}
def hM:aB:=aB.new 100
end
end Go.Proofs.YtlimfgdbfadohaaGreatDoor
namespace Go.kS
open Go.aB
def number (s:ByteArray):Int×Bool:=
 if s.data.toList.take 4=[105,100,120,46]∨s.data.toList.take 4=[117,115,101,46] then Seg.number ⟨(Seg.lead++s.data.toList.drop 4).toArray⟩ else (0,false)
def Si:List ByteArray→Int→Int
 |[],m=>m
 |f::l,m=>Si l (if (number f).2=true then max m (number f).1 else m)
def newest (M:aB):Int:=Si M.list (-1)
def tmp:ByteArray:=⟨#[116,109,112]⟩
def there (M:aB) (s:ByteArray):Bool:=decide ((M.size s).2=0)
def CU (M:aB):aB×Int:=if there M tmp=true then M.remove tmp else (M,0)
def fill (M:aB) (s:ByteArray) (b:Bs):aB×Int:=
 if (M.append tmp b).2=0 then
  (if ((M.append tmp b).1.sync tmp).2=0 then ((M.append tmp b).1.sync tmp).1.rename tmp s else (M.append tmp b).1.sync tmp)
 else if (M.append tmp b).2=11 then
  (if ((M.append tmp b).1.remove tmp).2=0 then (((M.append tmp b).1.remove tmp).1,11) else (M.append tmp b).1.remove tmp)
 else M.append tmp b
def write (M:aB) (s:ByteArray) (b:Bs):aB×Int:=
 if (CU M).2=0 then (if ((CU M).1.create tmp).2=0 then fill ((CU M).1.create tmp).1 s b else (CU M).1.create tmp) else CU M
def sweep (p:ByteArray→Bool):List ByteArray→aB→aB×Int
 |[],M=>(M,0)
 |f::l,M=>if p f=true then (if (M.remove f).2=0 then sweep p l (M.remove f).1 else M.remove f) else sweep p l M
def other (n:Int) (s:ByteArray):Bool:=(number s).2 && (number s).1 != n
abbrev Kept:Type:=List (ByteArray×Nat×bD)
section
variable {T:Kept}{s1 s2 s:ByteArray}{b1 b2 b:Bs}{K j:Nat}{M M':aB}{l:Names}{fs fs':Nat→bD}
theorem af8:tmp≠ByteArray.empty:=by decide
end
end Go.kS
namespace Go.Seg
open Go.aB
open Go.ak (encs jd kG)
structure HG (K r E B n:Nat) (L:Log) (M:aB) (C:List (List ak.aX)):Prop where
 keeps:Keeps K r L M
 len:L.l.length=C.length
 at_:∀ (k:Nat) (es:List ak.aX),C[k]?=some es→L.l[k]?=some ((k:Int),8+((encs es).length:Int))
 file:∀ (k:Nat) (es:List ak.aX),C[k]?=some es→M.all (name k)=(mag++encs es,0)
 good:∀ es∈C,(∀ x∈es,jd x)∧es≠[]
 count:C.length≤n
 used:M.used≤n * 400+B
 names:M.now.length≤n+E
 cover:∀ (k i:Nat),k<1048576→dD M.now (name (k:Int))=some i→k<C.length
section
variable {K r E B n:Nat}{L:Log}{M:aB}{C:List (List ak.aX)}
theorem HG.mono {K' E' B' n':Nat} (h:HG K r E B n L M C) (h1:K≤K') (h2:E≤E') (h3:B≤B') (h4:n≤n'):HG K' r E' B' n' L M C:=
 ⟨h.keeps.mono h1,h.len,h.at_,h.file,h.good,Nat.le_trans h.count h4,Nat.le_trans h.used (Nat.add_le_add (Nat.mul_le_mul_right 400 h4) h3),Nat.le_trans h.names oQ,h.cover⟩
theorem HG.next (h:HG K r E B n L M C):L.next=C.length:=by
 unfold Log.next
 cases hl:L.l.getLast? with
 |none=>
  have:=List.getLast?_eq_none_iff.1 hl
  have h2:=h.len
  rw [this]at h2
  simp only [List.length_nil]at h2
  simp only;omega
 |some s=>
  rw [List.getLast?_eq_getElem?]at hl
  have hlt:=(List.getElem?_eq_some_iff.1 hl).1
  have h2:=h.len
  have hc:C[L.l.length - 1]?=some (C[L.l.length - 1]'oQ):=List.getElem?_eq_getElem oQ
  have h3:=h.at_ _ _ hc
  rw [hl]at h3
  cases h3
  simp only;omega
theorem HG.at_k (h:HG K r E B n L M C){k:Nat}{es:List ak.aX} (hk:C[k]?=some es):L.at (k:Int)=some k:=by
 have h1:=h.at_ k es hk
 cases hat:L.at (k:Int) with
 |none=>
  exfalso
  unfold Log.at at hat
  rw [List.findIdx?_eq_none_iff]at hat
  have:=hat _ (List.mem_of_getElem? h1)
  simp at this
 |some i=>
  obtain ⟨h2,s,h3,h4⟩:=Log.qx hat
  have h5:i<C.length:=by rw [← h.len];exact h2
  have h6:=h.at_ i _ (List.getElem?_eq_getElem h5)
  rw [h6]at h3
  cases h3
  simp only at h4
  congr 1
  omega
theorem HG.adn (h:HG K r E B n L M C){r:Rep.Row} (hr:r∈Rep.iD 0 C):L.read M (Rep.mO r)=(r.2.e,0):=by
 obtain ⟨j,es,h1,h2,h3⟩:=Rep.KH C 0 hr
 obtain ⟨u,v,h4,h5,h6⟩:=Rep.Iy es 8 h3
 obtain ⟨s,⟨e,at_,size⟩⟩:=r
 simp only at h2 h3 h4 h5 h6
 rw [Nat.zero_add]at h2
 subst h2;subst h5;subst h6
 have hx:jd e:=(h.good es (List.mem_of_getElem? h1)).1 e (by rw [h4];simp)
 have hf:=h.file j es h1
 have hm:mag.length=8:=rfl
 have hes:encs es=encs u++((ak.encode e).1++encs v):=by rw [h4,xU];rfl
 have hrd:=TA h.keeps.calm.quiet hf (a:=8+(encs u).length) (n:=(ak.encode e).1.length) (by rw [List.length_append,hes,List.length_append,List.length_append];omega)
 have hd:((mag++encs es).drop (8+(encs u).length)).take (ak.encode e).1.length=(ak.encode e).1:=by
  rw [hes,← List.append_assoc,List.drop_append,List.drop_of_length_le (by rw [List.length_append];omega)]
  rw [show 8+(encs u).length - (mag++encs u).length=0 by rw [List.length_append];omega,List.drop_zero,List.nil_append,List.take_append_of_le_length (Nat.le_refl _),List.take_length]
 rw [hd]at hrd
 have hre:=ak.TD hx.1 hx.2 []
 rw [List.append_nil]at hre
 unfold Log.read Rep.mO
 simp only [h.at_k h1]
 rw [hrd]
 simp only [hre]
 rw [if_neg aJ,if_neg aJ,if_neg (by simp)]
theorem HG.append (h:HG K r E B n L M C) (hn:n<1000) (x:ak.aX) (hk:x.key.length=32) (hd:x.data.length≤300) (h0:(ak.encode x).2=0) (hz:(L.append M x).2.2=0∨M.used+400≤M.room∧M.now.length<500) :
  (L.append M x).2.2=0∧(L.append M x).1.1.on=true∧(L.append M x).1.1.limit=L.limit∧HG (K+4) r E B (n+1) (L.append M x).1.1 (L.append M x).1.2 (put C (L.fits (ak.encode x).1.length) x) ∧
   (L.append M x).1.1.read (L.append M x).1.2 (L.append M x).2.1=(x,0)∧(L.append M x).2.1.seg=(put C (L.fits (ak.encode x).1.length) x).length - 1:=by
 have hzz:=Y7 h0 hk hd
 have hK:=(h.keeps.append x hk).1
 have hu:=h.used
 have hroom:=h.keeps.calm.room
 have hcnt:=h.count
 cases hf:L.fits (ak.encode x).1.length with
 |true=>
  rw [Log.DU h0 hf]at hK hz ⊢
  have hf':=hf
  unfold Log.fits at hf'
  rw [Bool.and_eq_true,decide_eq_true_eq]at hf'
  obtain ⟨s,hl⟩:=h.keeps.log.last hf'.1
  rw [hl]at hf'
  have hl':=hl
  rw [List.getLast?_eq_getElem?]at hl'
  have hlt:=(List.getElem?_eq_some_iff.1 hl').1
  have hlen:=h.len
  have hne:C≠[]:=by intro e;rw [e,List.length_nil]at hlen;omega
  obtain ⟨c,hc⟩:∃ c,C.length=c+1:=⟨C.length - 1,by omega⟩
  have hcl:C[c]?=some (C.getLastD []):=by
   conv=>lhs;rw [Ci hne]
   rw [List.getElem?_append_right (by rw [List.length_dropLast];omega),List.length_dropLast,show c - (C.length - 1)=0 by omega];rfl
  generalize hes:C.getLastD []=es at *
  have hat:=h.at_ _ _ hcl
  rw [show L.l.length - 1=c by omega,hat]at hl'
  obtain rfl:((c:Int),8+((encs es).length:Int))=s:=by injection hl'
  obtain ⟨i,hi⟩:=h.keeps.has _ (List.mem_of_getLast? hl)
  simp only at hi
  have hall:=h.file _ _ hcl
  have hrm:M.used+(ak.encode x).1.length≤M.room:=by
   rcases hz with hz|⟨hz,_⟩
   ·rcases zh h.keeps.calm.quiet (name (c:Int)) (ak.encode x).1 with ⟨q1,_⟩|⟨j,q1,⟨q2,q3⟩|⟨q2,q3⟩⟩
    ·rw [hi]at q1;cases q1
    ·unfold Log.grow at hz
     rw [hl]at hz
     simp only [q3]at hz
     rw [if_neg aJ]at hz
     exact absurd (show (11:Int)=0 from hz) aJ
    ·omega
   ·omega
  obtain ⟨a1,a2,a3,a4,a5⟩:=Ns h.keeps.calm hi (ak.encode x).1 hrm
  have hmem:es∈C:=List.mem_of_getElem? hcl
  have hE:L.grow M (ak.encode x).1=(({ L with l:=L.l.dropLast++[((c:Int),8+((encs es).length:Int)+((ak.encode x).1.length:Int))] },(M.append (name (c:Int)) (ak.encode x).1).1),⟨(c:Int),8+((encs es).length:Int),(ak.encode x).1.length⟩,0):=by
   unfold Log.grow;rw [hl];simp only [a1,if_true]
  rw [hE]at hK ⊢
  simp only at hK ⊢
  rw [hall]at a4
  have hsz:(encs (es++[x])).length=(encs es).length+(ak.encode x).1.length:=by rw [xU,zy,List.length_append]
  have hput:put C true x=C.dropLast++[es++[x]]:=by unfold put;rw [if_pos rfl,hes]
  rw [hput]
  have hdl:C.dropLast.length=c:=by rw [List.length_dropLast];omega
  have a4':(M.append (name (c:Int)) (ak.encode x).1).1.all (name (c:Int))=(mag++encs (es++[x]),0):=by rw [a4,xU,zy];simp
  refine ⟨by first|trivial|rfl,hf'.1,by first|trivial|rfl,⟨hK,?_,?_,?_,?_,?_,?_,?_,?_⟩,?_,?_⟩
  ·simp only [List.length_append,List.length_dropLast,List.length_singleton];omega
  ·intro k fs hk'
   have hcl':C[k]?=some fs∧k<c∨k=c∧fs=es++[x]:=by
    rcases Nat.lt_trichotomy k c with q|q|q
    ·rw [List.getElem?_append_left oQ,List.getElem?_dropLast,if_pos oQ]at hk'
     exact .inl ⟨hk',q⟩
    ·subst q
     rw [List.getElem?_append_right oQ,hdl,Nat.sub_self]at hk'
     simp at hk'
     exact .inr ⟨rfl,hk'.symm⟩
    ·rw [List.getElem?_eq_none (by simp only [List.length_append,List.length_singleton];omega)]at hk';cases hk'
   rcases hcl' with ⟨q1,q2⟩|⟨rfl,rfl⟩
   ·rw [List.getElem?_append_left (by rw [List.length_dropLast];omega),List.getElem?_dropLast,if_pos oQ]
    exact h.at_ _ _ q1
   ·rw [List.getElem?_append_right (by rw [List.length_dropLast];omega),List.length_dropLast,show k - (L.l.length - 1)=0 by omega,hsz]
    simp only [List.getElem?_cons_zero,Option.some.injEq,Prod.mk.injEq,true_and]
    omega
  ·intro k fs hk'
   have hcl':C[k]?=some fs∧k<c∨k=c∧fs=es++[x]:=by
    rcases Nat.lt_trichotomy k c with q|q|q
    ·rw [List.getElem?_append_left oQ,List.getElem?_dropLast,if_pos oQ]at hk'
     exact .inl ⟨hk',q⟩
    ·subst q
     rw [List.getElem?_append_right oQ,hdl,Nat.sub_self]at hk'
     simp at hk'
     exact .inr ⟨rfl,hk'.symm⟩
    ·rw [List.getElem?_eq_none (by simp only [List.length_append,List.length_singleton];omega)]at hk';cases hk'
   rcases hcl' with ⟨q1,q2⟩|⟨rfl,rfl⟩
   ·rw [a5 _ (fun e=>by have:=JK oQ oQ oQ oQ e;omega)]
    exact h.file _ _ q1
   ·exact a4'
  ·intro fs hfs
   rcases List.mem_append.1 hfs with hfs|hfs
   ·exact h.good fs ((List.dropLast_subset _ hfs))
   ·rw [List.mem_singleton.1 hfs]
    refine ⟨fun y hy=>?_,by simp⟩
    rcases List.mem_append.1 hy with hy|hy
    ·exact (h.good es hmem).1 y hy
    ·rw [List.mem_singleton.1 hy];exact ⟨h0,hk⟩
  ·simp only [List.length_append,List.length_singleton];omega
  ·rw [a3];omega
  ·rw [a2];have:=h.names;omega
  ·intro k j hkk hj
   rw [a2]at hj
   have:=h.cover k j hkk hj
   simp only [List.length_append,List.length_singleton];omega
  ·exact TB (s:=((c:Int),8+((encs es).length:Int)+((ak.encode x).1.length:Int))) hK (by simp) a4' ⟨h0,hk⟩
  ·simp only [List.length_append,List.length_singleton];omega
 |false=>
  rw [Log.DT h0 hf]at hK hz ⊢
  obtain ⟨s1,s2,s3,s4,s5⟩:=h.keeps.shut
  have hlim:=Log.afh L M
  have hB:L.begin M (ak.encode x).1=(L.shut M).1.1.jY (L.shut M).1.2 (ak.encode x).1:=by unfold Log.begin;rw [if_pos s2]
  rw [hB]at hK hz ⊢
  have hnx:(L.shut M).1.1.next=C.length:=by rw [← h.next];unfold Log.next;rw [s3]
  have aae:=s5.all
  have qB:=s5.now
  have BU:=s5.used
  have ahT:=s1.calm.room
  generalize (L.shut M).1.1=L1 at *
  generalize (L.shut M).1.2=M1 at *
  have hnn:dD M1.now (name (C.length:Int))=none:=by
   cases hq:dD M1.now (name (C.length:Int)) with
   |none=>rfl
   |some i=>
    exfalso
    rw [qB]at hq
    have:=h.cover C.length i oQ hq
    omega
  have aau:M1.now.length<500:=by
   rcases hz with hz|⟨_,hz⟩
   ·rcases Ec s1.calm.quiet (name (C.length:Int)) with ⟨q1,_,_⟩|⟨_,_,q3,_⟩
    ·unfold Log.jY at hz
     rw [hnx,if_neg oQ,if_pos q1]at hz
     exact absurd hz q1
    ·exact q3
   ·rw [qB];exact hz
  obtain ⟨c1,c2,c3,c4,c5⟩:=YH s1.calm (ZW (C.length:Int) oQ oQ) hnn aau
  have hc1:=s1.calm.create (name (C.length:Int))
  have hself:dD (M1.create (name (C.length:Int))).1.now (name (C.length:Int))=some M1.files.length:=by rw [c2];exact JU s1.calm.ok.iO.qM _ _
  have hrm:(M1.create (name (C.length:Int))).1.used+(mag++(ak.encode x).1).length≤(M1.create (name (C.length:Int))).1.room:=by
   rcases hz with hz|⟨hz,_⟩
   ·rcases zh hc1.quiet (name (C.length:Int)) (mag++(ak.encode x).1) with ⟨q1,_⟩|⟨j,q1,⟨q2,q3⟩|⟨q2,q3⟩⟩
    ·rw [hself]at q1;cases q1
    ·unfold Log.jY at hz
     rw [hnx,if_neg oQ,if_neg (fun hh=>hh c1)]at hz
     simp only [q3]at hz
     rw [if_neg aJ]at hz
     simp only [if_true]at hz
     split at hz
     ·exact absurd hz aJ
     ·rename_i g;exact absurd hz g
    ·omega
   ·rw [c3,BU,hc1.room,List.length_append];have:mag.length=8:=rfl;omega
  obtain ⟨a1,a2,a3,a4,a5⟩:=Ns hc1 hself (mag++(ak.encode x).1) hrm
  have hE:L1.jY M1 (ak.encode x).1=(({ L1 with l:=L1.l++[((C.length:Int),8+((ak.encode x).1.length:Int))],on:=true,fresh:=L1.fresh+1 },((M1.create (name (C.length:Int))).1.append (name (C.length:Int)) (mag++(ak.encode x).1)).1),⟨(C.length:Int),8,(ak.encode x).1.length⟩,0):=by
   unfold Log.jY
   rw [hnx,if_neg oQ,if_neg (fun hh=>hh c1),if_pos a1]
  rw [hE]at hK ⊢
  simp only at hK ⊢
  rw [c4]at a4
  have a4':((M1.create (name (C.length:Int))).1.append (name (C.length:Int)) (mag++(ak.encode x).1)).1.all (name (C.length:Int))=(mag++encs ([]++[x]),0):=by rw [a4,xU,zy];simp [encs]
  have hput:put C false x=C++[[x]]:=by unfold put;rw [if_neg aJ]
  rw [hput]
  have hlen:=h.len
  refine ⟨by first|trivial|rfl,by first|trivial|rfl,hlim,⟨hK,?_,?_,?_,?_,?_,?_,?_,?_⟩,?_,?_⟩
  ·simp only [s3,List.length_append,List.length_singleton];omega
  ·intro k fs hk'
   rcases Nat.lt_trichotomy k C.length with q|q|q
   ·rw [List.getElem?_append_left q]at hk'
    rw [s3,List.getElem?_append_left oQ]
    exact h.at_ _ _ hk'
   ·subst q
    rw [List.getElem?_append_right (Nat.le_refl _),Nat.sub_self]at hk'
    simp at hk'
    subst hk'
    rw [s3,List.getElem?_append_right oQ,hlen,Nat.sub_self,zy]
    rfl
   ·rw [List.getElem?_eq_none (by simp only [List.length_append,List.length_singleton];omega)]at hk';cases hk'
  ·intro k fs hk'
   rcases Nat.lt_trichotomy k C.length with q|q|q
   ·rw [List.getElem?_append_left q]at hk'
    have hne:name (k:Int)≠name (C.length:Int):=fun e=>by have:=JK oQ oQ oQ oQ e;omega
    rw [a5 _ hne,c5 _ hne,aae]
    exact h.file _ _ hk'
   ·subst q
    rw [List.getElem?_append_right (Nat.le_refl _),Nat.sub_self]at hk'
    simp at hk'
    subst hk'
    exact a4'
   ·rw [List.getElem?_eq_none (by simp only [List.length_append,List.length_singleton];omega)]at hk';cases hk'
  ·intro fs hfs
   rcases List.mem_append.1 hfs with hfs|hfs
   ·exact h.good fs hfs
   ·rw [List.mem_singleton.1 hfs]
    exact ⟨fun y hy=>by rw [List.mem_singleton.1 hy];exact ⟨h0,hk⟩,by simp⟩
  ·simp only [List.length_append,List.length_singleton];omega
  ·rw [a3,c3,BU,List.length_append];have:mag.length=8:=rfl;omega
  ·rw [a2,c2,SB]
   have:=RV M1.now (name (C.length:Int))
   rw [qB]at this
   have:=h.names
   rw [qB];omega
  ·intro k j hkk hj
   by_cases e:k=C.length
   ·subst e;simp
   ·rw [a2,c2,JR (fun q=>e (by have:=JK oQ oQ oQ oQ q;omega)),qB]at hj
    have:=h.cover k j hkk hj
    simp only [List.length_append,List.length_singleton];omega
  ·exact TB (s:=((C.length:Int),8+((ak.encode x).1.length:Int))) (es:=[]) hK (by simp) a4' ⟨h0,hk⟩
  ·simp only [List.length_append,List.length_singleton];omega
end
end Go.Seg
namespace Go.Seg
open Go.aB
open Go.ak (encs jd kG aX)
def FP (d:aX):aX:=if d.tag=0 then ⟨0,d.key,d.data⟩ else if d.tag=1 then ⟨1,d.key,[]⟩ else kM
def Q9 (d:aX):Prop:=d.tag=0∨d.tag=1
instance (d:aX):Decidable (Q9 d):=by unfold Q9;infer_instance
structure Pl (n:Nat) (ds:List aX) (L:Log) (M:aB) (C:List (List aX)):Prop where
 holds:Holds n L M C
 tail:Tail L.on C
 flat:C.flatten=ds.map FP
 small:∀ x∈C.flatten,x.data.length≤300
section
variable {n:Nat}{ds:List aX}{L:Log}{M:aB}{C C0:List (List aX)}{d:aX}
theorem U5 (hk:d.key.length=32) (hd:d.data.length≤300):(ak.encode (FP d)).2=0:=by
 have hc:ak.check (FP d)=0:=by
  unfold FP
  split
  ·unfold ak.check
   simp only [if_true]
   rw [if_neg oQ]
  split
  ·unfold ak.check
   simp
  ·decide
 unfold ak.encode
 rw [if_neg (by simp [hc])]
end
end Go.Seg
namespace Go.Seg
open Go.aB
structure Fit (K:Nat) (D:aB):Prop where
 ok:D.Ok K
 small:D.Small
 files:D.files.length≤500+K
section
variable {φ:Nat→Nat}{V:Nat→Prop}{M D:aB}{K:Nat}{L:Log}
end
end Go.Seg
namespace Go.ak
theorem abn (x:Nat):∀ n,le x (n+1)=le x n++[UInt8.ofNat (x / 256^n%256)]:=by
 intro n
 induction n generalizing x with
 |zero=>simp [le]
 |succ n ih=>
  show UInt8.ofNat (x%256)::le (x / 256) (n+1)=UInt8.ofNat (x%256)::le (x / 256) n++_
  rw [ih,Nat.div_div_eq_div_mul,Nat.mul_comm 256,← Nat.pow_succ];rfl
theorem SC {l:Bs}{i:Nat} (h:i<l.length):num (l.drop i)=(l[i]'h).toNat+256 * num (l.drop (i+1)):=by
 rw [List.drop_eq_getElem_cons h];rfl
end Go.ak
namespace Go.Proofs.YtlimfgdbfadohaaGreatDoor
open Go Go.Sl Go.aB Go.MapKept Go.RowKit
section
variable {w0 w:World}{F:List aC}{v bv:Value}
theorem TW (x n:Nat) (hx:x<18446744073709551616) (h1:1≤n) (h8:n≤8) (h:Sat w0 w F) :
  Calls Tryz.prog 31 #[.int .u64 x,.int .i64 n] w (aI fun v w'=>Sat w0 w' (aK v (ak.le x n)::F)∧∃ a n c,v = .slice a n c):=by
 have d1:decide ((n:Int)<1)=false:=by rw [decide_eq_false_iff_not];omega
 have d2:decide (8<(n:Int))=false:=by rw [decide_eq_false_iff_not];omega
 have d1':¬ n<1:=oQ
 have Ik:¬ 8<n:=oQ
 have Hx:=uQ hx;have H8:=uQ h8
 clear hx h1 h8
 go_enter Tryz.func31,Tryz.ntmps31
 go_wp2_with fail
 clear d1 d2 d1' Ik
 go_loopg [0,5,6] n (fun g xq bq iq wr=>∃ i:Nat,g=n - i∧i≤n∧iq = .int .i64 i∧xq = .int .u64 (x / 256^i:Nat)∧Sat w0 wr (aK bq (ak.le x i)::F))
 case atStart=>exact ⟨0,rfl,Nat.zero_le _,rfl,by rw [Nat.pow_zero,Nat.div_one],Sat.fM.2 h⟩
 case round=>
  obtain ⟨i,rfl,hi,rfl,rfl,hS⟩:=hrel
  clear h
  obtain ⟨ba,bn,bc,rfl,_⟩:=id (Sat.rd hS)
  by_cases hlt:i<n
  ·have c1:(i:Int)<(n:Int):=by omega
   have h8:=H8.out
   have hwi:=pU (i:=i)
   have hX:x / 256^i<18446744073709551616:=Nat.lt_of_le_of_lt (Nat.div_le_self _ _) Hx.out
   have hnx:x / 256^(i+1)=x / 256^i / 256:=by rw [Nat.pow_succ,Nat.div_div_eq_div_mul]
   have hle:=ak.abn x i
   have lD:=uQ hle;have vC:=uQ hnx;have dH:=uQ hlt
   have hlen:(ay (ak.le x i)).length≤2147483648:=by rw [aU,ak.gW];omega
   clear hle hnx hlt h8
   generalize x / 256^i=X at *
   obtain ⟨cc,hcc⟩:∃ cc,cc=UInt8.ofNat (X%256):=⟨_,rfl⟩
   have hcv:(X:Int)%256=(cc.toNat:Int):=by rw [hcc,UInt8.toNat_ofNat'];omega
   have hcw:(cc.toNat:Int)%256=(cc.toNat:Int):=by have:=cc.toNat_lt;omega
   have hdv:(X:Int) / 256=((X / 256:Nat):Int):=rfl
   have hdw:((X / 256:Nat):Int)%18446744073709551616=((X / 256:Nat):Int):=oQ
   rw [← hcc]at lD
   clear hcc hX
   generalize X / 256=Y at *
   have hSo:Sat w0 wr (aF 5 1 (.slice ba bn bc) (ay (ak.le x i))::F):=hS
   generalize hB:ay (ak.le x i)=B at *
   clear hS
   go_wp2_with (first
    |((with_reducible refine kU ⟨?_⟩);refine lu (e:=5) (sz:=1) (dX:=1) au aQ aj aj ah bH ?_;intro bN wN hN)
    |((with_reducible refine jf ⟨?_⟩);refine lq 5 1 1 au hN ah ah (aO aH) aH ah (Nat.le_refl 1) ah hlen (by show 1≤65536;decide) aJ aj ?_;intro bA nA cA wA hA))
   go_roundg (n - (i+1))
   case measure=>have:=dH.out;omega
   case rel=>
    refine ⟨i+1,rfl,Nat.succ_le_of_lt dH.out,by first|rfl|go_num,by rw [vC.out],?_⟩
    rw [lD.out]
    unfold aK
    have e:ay (ak.le x i++[cc])=B++[Value.int .u8 cc.toNat]:=by rw [← hB];unfold ay;rw [List.map_append];rfl
    rw [e]
    exact hA
  ·obtain rfl:i=n:=by omega
   have c1:¬ (i:Int)<(i:Int):=oQ
   clear hlt
   go_wp2
   go_ret
   exact ⟨_,rfl,hS,_,_,_,rfl⟩
theorem adB (l:Bs) (h1:1≤l.length) (h8:l.length≤8) (hr:bK 1 bv (ay l) w) :
  Calls Tryz.prog 61 #[bv] w (aI fun v w'=>v = .tuple #[.int .u64 (ak.num l:Nat),.bool true]∧w=w'):=by
 obtain ⟨a,n,c,rfl,hn,_⟩:=id hr
 rw [aU,Nat.mul_one]at hn
 subst hn
 have d1:((l.length:Int)==0)=false:=by rw [beq_eq_false_iff_ne];omega
 have d2:decide (8<(l.length:Int))=false:=by rw [decide_eq_false_iff_not];omega
 have d1':¬ l.length=0:=oQ
 have Ik:¬ 8<l.length:=oQ
 have hw1:IntKind.i64.wrap ((l.length:Int) - 1)=(l.length:Int) - 1:=IntWalk.i64_in _ oQ
 have H8:=uQ h8;have Hr:=uQ hr
 clear h1 h8 hr
 go_enter Tryz.func61,Tryz.ntmps61
 go_wp2_with fail
 clear d1 d2 d1' Ik
 go_loopg [4,5] l.length (fun g xq iq wr=>∃ (m:Nat) (z:Int),g=l.length - (l.length - m)∧m≤l.length∧iq = .int .i64 z∧z=(m:Int) - 1∧xq = .int .u64 (ak.num (l.drop m):Nat)∧wr=w)
 case atStart=>exact ⟨l.length,_,by omega,Nat.le_refl _,rfl,rfl,by rw [List.drop_length];rfl,rfl⟩
 case round=>
  obtain ⟨m,zz,rfl,hm,rfl,hzz,rfl,rfl⟩:=hrel
  cases m with
  |zero=>
   obtain rfl:zz = -1:=by omega
   clear hzz hw1
   rw [List.drop_zero]
   go_wp2
   go_ret2
   exact ⟨_,rfl,rfl,rfl⟩
  |succ m=>
   have hzm:zz=(m:Int):=oQ
   clear hzz
   subst hzm
   have hml:m<l.length:=oQ
   have c8:(m:Int)<(l.length:Int):=oQ
   have h8:=H8.out
   have hwm:IntKind.i64.wrap ((m:Int) - 1)=(m:Int) - 1:=IntWalk.i64_in _ oQ
   have hb:(ay l)[m]?=some (.int .u8 (l[m]'hml).toNat):=by unfold ay;simp [hml]
   obtain ⟨bk,off,rfl,c1⟩:=zQ Hr.out hb
   have hnd:=ak.SC hml
   have hlt:=ak.sJ (l.drop m)
   have hlt2:ak.num (l.drop m)<18446744073709551616:=Nat.lt_of_lt_of_le hlt (by
    have:256^(l.drop m).length≤256^8:=Nat.pow_le_pow_right aJ (by rw [List.length_drop];omega)
    exact Nat.le_trans this aJ)
   rw [hnd]at hlt2
   have hcm:((l[m]'hml).toNat:Int)%18446744073709551616=((l[m]'hml).toNat:Int):=oQ
   have Hnd:=uQ hnd;have Gu:=uQ hml
   clear hb hnd hlt h8 hm hw1
   generalize (l[m]'hml).toNat=cb at *
   clear hml
   generalize ak.num (l.drop (m+1))=X at *
   have e1:(X:Int) * 256%18446744073709551616=((X * 256:Nat):Int):=oQ
   have e2:(((X * 256:Nat):Int)+(cb:Int))%18446744073709551616=((cb+256 * X:Nat):Int):=oQ
   have e3:((X:Int) * 256+(cb:Int))%18446744073709551616=((cb+256 * X:Nat):Int):=oQ
   clear hlt2
   go_wp2_with fail
   go_roundg m
   case measure=>have:=Gu.out;omega
   case rel=>exact ⟨m,_,by have:=Gu.out;omega,Nat.le_of_lt Gu.out,rfl,rfl,by rw [Hnd.out];congr 1;omega,rfl⟩
end
section
variable {P:Program}{w0 w:World}{L L':List aC}{b o:Nat}{ops:Array Oper}{rest:List Oper}{a:Act}{Q:Exit→Act→World→Prop}{dst:Option Tmp}{t ty T sz n c:Nat}{pos:String}{after:Array Edge}{x y:Operand}{v:Value}{xs:List Value}{K:Act→World→Prop}{E:Prop}
theorem Y6 (i:Nat) (hs:Sat w0 w L) (hx:a.eval x = .pointer (some ⟨b,i,none⟩)) (hy:a.eval y=v) (u:mW (aF T sz (.slice (some ⟨b,0,none⟩) n c) xs) (aF T sz (.slice (some ⟨b,0,none⟩) n c) (xs.set i v)) L L')
  (hi:i<xs.length) (hty:(P.info? ty).map (·.size)=some 1) (h0:v.cells=#[v]) (h1:v.oneCell'=true)
  (hK:∀ w',Sat w0 w' L'→K (a.put dst undef) w') :
  if Region.wanted ⟨dst,.store ty x y,t,pos,after,none⟩ (yielded ops a.tmps)=true then Oper.wp P ⟨dst,.store ty x y,t,pos,after,none⟩ a w K Q else E:=by
 obtain ⟨R',h2,h3⟩:=u
 have h:=hs.perm h2
 rcases Sat.jR h with ⟨he,_⟩|⟨g',n',cap',cs,he,k1,k2,k3,k4,k5,k6⟩
 ·cases he
 ·cases he
  have hlen:xs.length≤cs.size:=by rw [← k5,List.length_take,Array.length_toList];omega
  refine jD k6 hx hy (cs':=cs.setIfInBounds i v) (by rw [h0];rfl) bJ (by rw [h0];show i+1≤cs.size;omega) (by rw [h0];exact hty) (by rw [h0];simpa using h1) fun w' hS=>hK w' (Sat.perm ?_ h3.symm)
  refine Sat.jV hS (by rw [List.length_set];exact k1) k2 (by rw [Array.size_setIfInBounds];exact k3) k4 ?_
  rw [Array.toList_setIfInBounds,List.take_set,k5]
end
section
variable {w0 w:World}{F R:List aC}{d i:Nat}{D:aB}{Ep fv nv wv v lv bv:Value}{xs:List RF}{x:RF}{g:Ah}{K:Nat}
end
section
variable {P:Program}{w0 w:World}{L L':List aC}{b o:Nat}{ops:Array Oper}{a:Act}{Q:Exit→Act→World→Prop}{dst:Option Tmp}{t ty T:TypeId}{pos:String}{after:Array Edge}{x y:Operand}{cs:Array Value}{v:Value}{K:Act→World→Prop}{E:Prop}
theorem kP (hz:iH P ty=some v) (hs:Sat w0 w L) (hcs:v.cells=cs)
  (hK:∀ b w',Sat w0 w' (pt b (.cells cs ty (0,0))::L)→K (a.put dst (.pointer (some ⟨b,0,none⟩))) w') :
  if Region.wanted ⟨dst,.alloc ty,t,pos,after,none⟩ (yielded ops a.tmps)=true then Oper.wp P ⟨dst,.alloc ty,t,pos,after,none⟩ a w K Q else E:=by
 subst hcs
 refine xR rfl ?_
 have hS:=hs.alloc (.cells v.cells ty)
 unfold Oper.wp execOp
 have hrun:(Instr.alloc ty true (.tuple #[])).run P w = .ok (.pointer (some ⟨w.heap.size,0,none⟩)) (w.alloc (.cells v.cells ty)):=by
  simp [Instr.alloc,Fq hz w,newVar,newRow,go_sem,Result.andThen]
 simp only [Sem.run_bind,Sem.run_pure,hrun,Result.andThen_ok]
 exact hK _ _ hS
end
section
variable {w0 w:World}{F R:List aC}{d i:Nat}{D:aB}{Ep fv nv wv v lv bv:Value}{xs:List RF}{x:RF}{g:Ah}{K:Nat}
section
variable {P:Program}{b o:Nat}{ops:Array Oper}{rest:List Oper}{a:Act}{Q:Exit→Act→World→Prop}{dst:Option Tmp}{t ty:Nat}{pos:String}{after:Array Edge}{y:Operand}
end
end
section
variable {P:Program}{w0 w:World}{L R:List aC}{ops:Array Oper}{rest:List Oper}{a:Act}{Q:Exit→Act→World→Prop}{dst:Option Tmp}{t ty e:TypeId}{pos:String}{after:Array Edge}{x y s:Operand}{sz dX:Nat}{v v1:Value}
theorem wY (e:TypeId) (sz dX:Nat){xs ys:List Value} (hb:oU P ty e sz dX=true) (hs:Sat w0 w L) (hv:a.eval s=v) (hy:a.eval y=v1) (p:Pick (aF e sz v xs) L R) (hrd:bK sz v1 ys w) (h1:∀ u∈ys,u.oneCell'=true)
  (h63:xs.length+ys.length≤2147483648) (hby:dX≤65000)
  (hK:∀ v' w',Sat w0 w' (aF e sz v' (xs++ys)::R)→wpList P ops Q rest (a.put dst v') w') :
  wpList P ops Q (⟨dst,.call { callee:= .builtin .append,args:=#[s,y],argTypes:=#[ty,ty] },t,pos,after,none⟩::rest) a w:=by
 obtain ⟨hu,i,z,hi,hz,e1,e2,e3,e4⟩:=vJ hb
 subst e2
 refine yN (w0:=w0) rfl s y ty rfl e i z hu hi hz e1 e3 e4 hv hy h1 (hs.pick p) hrd (by unfold maxLen;omega) ?_ fun v' w' hS _=>hK v' w' hS
 calc (xs.length+ys.length) * i.bytes≤2147483648 * 65000:=Nat.mul_le_mul h63 hby
  _≤140737488355328:=by decide
end
section
variable {P:Program}{w0 w:World}{F R:List aC}{e:TypeId}{ops:Array Oper}{a:Act}{Q:Exit→Act→World→Prop}{dst:Option Tmp}{ty:TypeId}{t:Nat}{pos:String}{after:Array Edge}{s y:Operand}{v x:Value}{xs ys:List Value}{K:Act→World→Prop}{E:Prop}
theorem Y1 (sz dX:Nat) (hb:oU P ty e sz dX=true) (hs:Sat w0 w (aF e sz v xs::R)) (hv:a.eval s=v) (hy:a.eval y=x) (hx:bK sz x ys w) (h1:∀ u∈ys,u.oneCell'=true)
  (hl:xs.length+ys.length≤2147483648) (hby:dX≤65000)
  (hK:∀ v' w',Sat w0 w' (aF e sz v' (xs++ys)::R)→K (a.put dst v') w') :
  if Region.wanted ⟨dst,.call { callee:= .builtin .append,args:=#[s,y],argTypes:=#[ty,ty] },t,pos,after,none⟩ (yielded ops a.tmps)=true then
   Oper.wp P ⟨dst,.call { callee:= .builtin .append,args:=#[s,y],argTypes:=#[ty,ty] },t,pos,after,none⟩ a w K Q else E:=by
 obtain ⟨hu,i,z,hi,hz,e1,e2,e3,e4⟩:=vJ hb
 subst e2
 refine step_append (w0:=w0) ah s y ty ah _ i z hu hi hz e1 e3 e4 hv hy h1 hs hx (by unfold maxLen;omega) ?_ fun v' w' h2 _=>hK v' w' h2
 exact Nat.le_trans (Nat.mul_le_mul hl hby) aJ
end
end Go.Proofs.YtlimfgdbfadohaaGreatDoor
namespace Go.Seg
open Go.aB
section
variable {φ:Nat→Nat}{V:Nat→Prop}{M D:aB}{K:Nat}{L:Log}
end
structure Two (i:Nat) (L:Log) (M D:aB):Prop where
 log:L.Ok
 ok:M.Ok (i * 2000)
 fit:Fit (i * 2000) D
 side:∃ φ V,Side φ V M D
 fresh:L.fresh≤i
section
variable {i:Nat}{M D:aB}{L:Log}
end
def Log.drop (t:List Int):Nat→Log→aB→(Log×aB)×Int
 |0,L,M=>if t=[] then ((L,M),0) else ((L,M.jG.1),M.jG.2)
 |k+1,L,M=>if (L.remove M (t.getD k 0)).2=0 then Log.drop t k (L.remove M (t.getD k 0)).1.1 (L.remove M (t.getD k 0)).1.2 else L.remove M (t.getD k 0)
section
variable {t:List Int}{L:Log}{M D:aB}{K i:Nat}
theorem drop_nil (h:t=[]):Log.drop t 0 L M=((L,M),0):=by unfold Log.drop;rw [if_pos h]
theorem drop_end (h:t≠[]):Log.drop t 0 L M=((L,M.jG.1),M.jG.2):=by unfold Log.drop;rw [if_neg h]
theorem YX {k:Nat} (h:(L.remove M (t.getD k 0)).2=0):Log.drop t (k+1) L M=Log.drop t k (L.remove M (t.getD k 0)).1.1 (L.remove M (t.getD k 0)).1.2:=by
 conv=>lhs;unfold Log.drop
 rw [if_pos h]
theorem YZ {k:Nat} (h:(L.remove M (t.getD k 0)).2≠0):Log.drop t (k+1) L M=L.remove M (t.getD k 0):=by
 conv=>lhs;unfold Log.drop
 rw [if_neg h]
theorem TI (h:M.Ok K) (n:Int):(L.remove M n).1.2.Ok (K+1):=by
 unfold Log.remove
 cases L.at n with
 |none=>exact h.mono (Nat.le_succ K)
 |some i=>simp only;split <;> exact h.remove _
end
end Go.Seg
namespace Go.Proofs.YtlimfgdbfadohaaGreatDoor
open Go Go.Sl Go.aB Go.MapKept Go.RowKit
def xH (w0:World) (F:List aC) (bt:Rep.Told) (ns:List Int) (p m:Nat) (L:Seg.Log) (M:aB) (v:Value) (w':World):Prop:=
 match Rep.run bt ns with
 |.inl (fl,e)=>v = .tuple #[.pointer none,.agg (fJ fl),errno e]∧Sat w0 w' (aS p m L::aT m M::F)
 |.inr n=>∃ (ps pi:Nat) (uv tv av:Value) (kv:List (ak.Bs×Rep.dP)),v = .tuple #[ptr ps,.agg (fJ Rep.eY.zero),errno 0] ∧
   (Tab.Lists (Rep.ledger (Rep.rowsOf bt (ns.take n))) kv∧(∀ q∈kv,q.1.length=32)∧kv.length≤(Rep.rowsOf bt (ns.take n)).length) ∧
   ((∃ a' c',tv = .slice a' (ns.length - n) c')∧∀ W,bK 1 av (ints ns) W→bK 1 tv (ints (ns.drop n)) W) ∧
   Sat w0 w' (iw ps (Rep.rE (ns.take n)) pi uv tv::aZ pi (Tab.mapOf (Rep.puts kv)) kv.length::aF 207 3 uv (((Rep.mQ bt (ns.take n)).map (Rep.upd kv)).flatMap gU)::aF 3 1 av (ints ns)::aS p m L::aT m M::F)
section
variable {w0 w:World}{F:List aC}{p m K:Nat}{L:Seg.Log}{M:aB}
theorem ahh:iH Tryz.prog 216=some (.agg #[.pointer none]):=by kernel_rfl
set_option maxRecDepth 20000 in
theorem aem (hL:L.Ok) (hM:M.Ok K) (hH:Ro w0 F Half) (hrows:(Rep.rowsOf (dJ L M) L.aV).length≤12000000) (hsz:∀ r∈Rep.rowsOf (dJ L M) L.aV,(r.2.size:Int)≤4294967296) (h:Sat w0 w (aS p m L::aT m M::F)) :
  Calls Tryz.prog 78 #[ptr p] w (aI fun v w'=>xH w0 F (dJ L M) L.aV p m L M v w'):=by
 have Hlen:=uQ (show L.aV.length≤1048576 from by unfold Seg.Log.aV;rw [List.length_map];have:=hL.len;omega)
 have hse:=JC hL h
 have Az:=uQ (show ∀ s∈L.aV,0≤s from fun s hs=>by
  unfold Seg.Log.aV at hs
  obtain ⟨x,hx,rfl⟩:=List.mem_map.1 hs
  exact (hL.nums x hx).1)
 have HL:=uQ hL;have HM:=uQ hM;have HH:=uQ hH;have GK:=uQ hrows;have dw:=uQ hsz
 clear hL hM hH hrows hsz
 go_enter Tryz.func78,Tryz.ntmps78
 go_wp2_with (with_reducible apply dY)
 refine ⟨dS tH h rfl ?_⟩
 intro b3 w3 h3
 clear hse h
 go_wp2_with fail
 refine (JC HL.out (h3.pick aP)).mono ?_
 rintro ee w4 ⟨sv,rfl,h4⟩
 have hsp:=split_c HL.out HM.out (Ro.os HH.out) (h4.sb:Sat w0 w4 (aF 3 1 sv (ints L.aV)::aS p m L::aT m M::pt b3 (.cells (fJ Rep.eY.zero) 53 (0,0))::F))
 clear h3 h4
 go_wp2_with fail
 refine hsp.mono ?_
 rintro ee w5 ⟨v,rfl,rfl,h5⟩
 clear hsp
 by_cases h0:(Rep.split (dJ L M) L.aV L.aV.length).2=0
 rotate_left
 ·have hb:((Rep.split (dJ L M) L.aV L.aV.length).2 != 0)=true:=by rw [bne_iff_ne];exact h0
  have Hf:=uQ (show Rep.run (dJ L M) L.aV = .inl (Rep.eY.zero,(Rep.split (dJ L M) L.aV L.aV.length).2) by unfold Rep.run;rw [if_pos h0])
  have h6:Sat w0 w5 (pt b3 (.cells (fJ Rep.eY.zero) 53 (0,0))::aS p m L::aT m M::F):=h5.sb
  clear h0 h5
  go_wp2_with (first
   |((with_reducible refine rZ ⟨?_⟩);refine tC (fun w=>Fp w) ?_)
   |((with_reducible refine bU ⟨?_⟩);refine eH (fJ Rep.eY.zero) h6 ah ah ah bJ au ah ?_;intro w9 h9))
  refine ⟨rfl,_,zU rfl h9 ah aY Tryz.underlying53 rfl au,_,rfl,?_⟩
  unfold xH
  rw [Hf.out]
  exact ⟨rfl,h9.drop⟩
 have hb:((Rep.split (dJ L M) L.aV L.aV.length).2 != 0)=false:=by rw [h0];rfl
 have lD:=uQ (Rep.KZ (dJ L M) L.aV L.aV.length)
 have Hf:=uQ (show Rep.run (dJ L M) L.aV=Rep.zW (dJ L M) L.aV (Rep.split (dJ L M) L.aV L.aV.length).1 by unfold Rep.run;rw [if_neg (fun h=>h h0)])
 rw [h0]
 generalize (Rep.split (dJ L M) L.aV L.aV.length).1=n at *
 clear h0
 obtain ⟨tv,htl,⟨ta,tc,rfl⟩,htr⟩:=af5 lD.out h5
 have Xo:=uQ htr
 clear htr
 go_wp2_with fail
 have hG:True:=trivial
 have h6:=h5.drew
 clear h5
 refine dh [] (fun w'=>True) au ?_
 refine rP 1 ?_ (y:=aG)
 refine rP 2 ?_ (y:=aG)
 refine rP 3 ?_ (y:=(VG aj aj htl))
 refine bG 0 aj au (fun K hK=>?_)
 refine zu [] au (by simp) ?_
 refine (ab7 h6).mono ?_
 rintro ee w7 ⟨v,rfl,pi,rfl,h7⟩
 refine hK _ _ (.inr (.inl trivial)) ?_
 clear hK h6
 refine rp 4 (hy:=(by (refine Or.inl ⟨by rfl,?_⟩;((intro wq;go_simp);first|done|exact wQ)))) (h:=?_)
 refine bG 5 aj au (fun K hK=>?_)
 refine OL (cs:=#[.int .i64 (-1),ptr pi,.slice none 0 0,.slice ta (L.aV.length - n) tc]) h7 aj aj ?_
 intro ps w8 h8
 refine hK _ _ (.inr (.inl trivial)) ?_
 clear hK h7
 refine rP 6 ?_ (y:=dN)
 refine cu au ?_
 clear hG
 go_wp2_with fail
 refine (ab5 h8).mono ?_
 rintro ee w9 ⟨v,rfl,pg,rfl,h9⟩
 clear h8
 go_wp2_with (with_reducible apply dY)
 refine ⟨dS ahh h9 rfl ?_⟩
 intro b9 w10 h10
 clear h9
 obtain ⟨ha,hc,hhl,hhr⟩:=aam lD.out (h10.sb:Sat w0 w10 (aF 3 1 sv (ints L.aV)::F))
 go_wp2_with ((with_reducible refine bU ⟨?_⟩);refine eX (cs':=#[ptr pg]) h10 ah aj ah bJ bH au ah ?_;intro fU h11)
 have h12:Sat w0 fU (iw ps (Rep.rE (L.aV.take 0)) pi (.slice none 0 0) (.slice ta (L.aV.length - n) tc)::aF 207 3 (.slice none 0 0) ((Rep.mQ (dJ L M) (L.aV.take 0)).flatMap gU)::aZ pi (fun _=>none) 0::pt b9 (.cells #[ptr pg] 216 (0,0)) ::
  eF pg (Rep.ledger (Rep.rowsOf (dJ L M) (L.aV.take 0))) (Rep.rowsOf (dJ L M) (L.aV.take 0)).length::pt b3 (.cells (fJ Rep.eY.zero) 53 (0,0))::aF 3 1 sv (ints L.aV)::aS p m L::aT m M::F):=(Sat.fM.2 h11).sb
 clear h10 h11 htl
 go_loopg [45] n (fun g iq wr=>∃ (i:Nat) (uv:Value),g=n - i∧i≤n∧iq = .int .i64 i∧Rep.bad (dJ L M) (L.aV.take i)=none∧Sat w0 wr (iw ps (Rep.rE (L.aV.take i)) pi uv (.slice ta (L.aV.length - n) tc)::aF 207 3 uv ((Rep.mQ (dJ L M) (L.aV.take i)).flatMap gU)::aZ pi (fun _=>none) 0::pt b9 (.cells #[ptr pg] 216 (0,0)) ::
  eF pg (Rep.ledger (Rep.rowsOf (dJ L M) (L.aV.take i))) (Rep.rowsOf (dJ L M) (L.aV.take i)).length::pt b3 (.cells (fJ Rep.eY.zero) 53 (0,0))::aF 3 1 sv (ints L.aV)::aS p m L::aT m M::F))
 case atStart=>exact ⟨0,.slice none 0 0,rfl,Nat.zero_le _,rfl,rfl,h12⟩
 case round=>
  obtain ⟨i,uv,rfl,hi,rfl,hbad,hS⟩:=hrel
  clear h12
  have tJ:=uQ hbad
  clear hbad
  by_cases hlt:i<n
  rotate_left
  ·obtain rfl:i=n:=by omega
   have c1:¬ (i:Int)<(i:Int):=oQ
   obtain ⟨kv,k1,k2,k3⟩:=eF.lists (hS.pk (A:=eF pg (Rep.ledger (Rep.rowsOf (dJ L M) (L.aV.take i))) (Rep.rowsOf (dJ L M) (L.aV.take i)).length))
   have k4:=Nat.le_trans (Rep.KI (dJ L M) L.aV i) GK.out
   have hks:∀ q∈kv,q.1.length=32∧0≤q.2.place.size∧q.2.place.size≤4294967296:=fun q hq=>by
    obtain ⟨r,hr,e⟩:=Rep.abo ((k1.mem q.1 q.2).1 hq)
    rw [e]
    exact ⟨k2 q hq,Int.natCast_nonneg _,dw.out r (Rep.ad1 _ _ _ r hr)⟩
   have hfl:=Zp (us:=Rep.mQ (dJ L M) (L.aV.take i)) k1 oQ oQ hks (by unfold Rep.mQ;rw [List.length_map,List.length_take];have:=Hlen.out;omega)
    (hS.sb:Sat w0 wr (iw ps (Rep.rE (L.aV.take i)) pi uv (.slice ta (L.aV.length - i) tc)::aZ pi (fun _=>none) 0::eF pg (Rep.ledger (Rep.rowsOf (dJ L M) (L.aV.take i))) (Rep.rowsOf (dJ L M) (L.aV.take i)).length ::
     aF 207 3 uv ((Rep.mQ (dJ L M) (L.aV.take i)).flatMap gU)::pt b3 (.cells (fJ Rep.eY.zero) 53 (0,0))::aF 3 1 sv (ints L.aV)::aS p m L::aT m M::F))
   have K:=uQ (And.intro k1 (And.intro k2 k3))
   have Hg:=uQ (Hf.out.trans (Rep.aea tJ.out))
   have Xp:=uQ Xo.out
   clear k1 k2 k3 k4 hks hlt hi
   go_wp2_with ((with_reducible refine bI ⟨?_⟩);refine fB (cs:=#[ptr pg]) hS ah (aO (aO (aO aH))) Tryz.underlying216 rfl au ?_)
   refine hfl.mono ?_
   rintro ee pq ⟨v,rfl,jE⟩
   clear hfl hS
   go_wp2_with (first
    |((with_reducible refine rZ ⟨?_⟩);refine tC (fun w=>Fp w) ?_)
    |((with_reducible refine bU ⟨?_⟩);refine eH (fJ Rep.eY.zero) jE ah ah ah (fD (fD (fD (fD bJ)))) au ah ?_;intro Dk h15))
   refine ⟨rfl,_,zU rfl h15 ah (aO (aO (aO (aO aH)))) Tryz.underlying53 rfl au,_,rfl,?_⟩
   unfold xH
   rw [Hg.out]
   exact ⟨ps,pi,uv,.slice ta (L.aV.length - i) tc,sv,kv,rfl,K.out,⟨⟨ta,tc,rfl⟩,Xp.out⟩,h15.sb⟩
  have c1:(i:Int)<(n:Int):=oQ
  have hwi:IntKind.i64.wrap ((i:Int)+1)=(i:Int)+1:=IntWalk.i64_in _ (by have:=lD.out;have:=Hlen.out;omega)
  have hni:(L.aV.take n).length=n:=by rw [List.length_take];have:=lD.out;omega
  obtain ⟨s,hs⟩:∃ s,(L.aV.take n)[i]?=some s:=⟨_,List.getElem?_eq_getElem oQ⟩
  have hs2:L.aV[i]?=some s:=by rw [List.getElem?_take]at hs;rw [if_pos hlt]at hs;exact hs
  have iM:=uQ (show L.aV.take (i+1)=L.aV.take i++[s] by rw [List.take_add_one,hs2,Option.toList_some])
  have yZ:=uQ (show ∃ post,L.aV.take n=L.aV.take i++s::post by
   obtain ⟨h1,e⟩:=List.getElem?_eq_some_iff.1 hs
   refine ⟨(L.aV.take n).drop (i+1),?_⟩
   have e2:L.aV.take i=(L.aV.take n).take i:=by rw [List.take_take,Nat.min_eq_left (Nat.le_of_lt hlt)]
   rw [e2,← e,← List.drop_eq_getElem_cons h1,List.take_append_drop])
  have Xd:=uQ (Az.out s (List.mem_of_getElem? hs2))
  obtain ⟨bk,off,c',hsv,f0⟩:=Jt (hhr _ (Sat.rd (hS.pk (A:=aF 3 1 sv (ints L.aV))))) hs
  rw [hni]at hsv
  cases hsv
  have hb:=Rq HL.out HM.out s (hS.sb:Sat w0 wr (aS p m L::aT m M::iw ps (Rep.rE (L.aV.take i)) pi uv (.slice ta (L.aV.length - n) tc)::aF 207 3 uv ((Rep.mQ (dJ L M) (L.aV.take i)).flatMap gU)::aZ pi (fun _=>none) 0::pt b9 (.cells #[ptr pg] 216 (0,0)) ::
   eF pg (Rep.ledger (Rep.rowsOf (dJ L M) (L.aV.take i))) (Rep.rowsOf (dJ L M) (L.aV.take i)).length::pt b3 (.cells (fJ Rep.eY.zero) 53 (0,0))::aF 3 1 sv (ints L.aV)::F))
  have dH:=uQ hlt
  clear hS hs hs2 hni hlt hi
  go_wp2_with fail
  refine hb.mono ?_
  rintro ee Vf ⟨v,rfl,bv,rfl,h20⟩
  clear hb f0
  obtain ⟨hcap,ca,cc,rfl⟩:=NY h20
  by_cases h0:(L.bytes M s).2=0
  rotate_left
  ·have hb1:((L.bytes M s).2 != 0)=true:=by rw [bne_iff_ne];exact h0
   have Hg:=uQ (show Rep.run (dJ L M) L.aV = .inl (Rep.eY.zero,(L.bytes M s).2) by
    rw [Hf.out]
    obtain ⟨post,e⟩:=yZ.out
    exact Rep.TY (by rw [e];exact Rep.Yd tJ.out h0))
   have h21:Sat w0 Vf (pt b3 (.cells (fJ Rep.eY.zero) 53 (0,0))::aS p m L::aT m M::F):=h20.sb
   clear h20 h0 hcap
   go_wp2_with (first
    |((with_reducible refine rZ ⟨?_⟩);refine tC (fun w=>Fp w) ?_)
    |((with_reducible refine bU ⟨?_⟩);refine eH (fJ Rep.eY.zero) h21 ah ah ah bJ au ah ?_;intro w22 h22))
   refine ⟨rfl,_,zU rfl h22 ah aY Tryz.underlying53 rfl au,_,rfl,?_⟩
   unfold xH
   rw [Hg.out]
   exact ⟨rfl,h22.drop⟩
  have hb1:((L.bytes M s).2 != 0)=false:=by rw [h0];rfl
  have H0:=uQ h0
  rw [h0]
  clear h0
  have hbl:=Seg.N7 (L:=L) HM.out s
  have hsc:=PS (w0:=w0) (w:=Vf) (L.bytes M s).1 (Ro.aK _ _) hcap (Ro.os HH.out) (Nat.le_trans hbl aJ) h20
  clear hcap
  go_wp2_with fail
  refine hsc.mono ?_
  rintro ee Lm ⟨v,rfl,fs,fv,hfs,hfk,rfl,h21⟩
  clear hsc h20
  obtain ⟨fa,fc,rfl⟩:=PD hfk h21
  by_cases h1:(ak.scan (L.bytes M s).1).2.2=0
  rotate_left
  ·have hb2:((ak.scan (L.bytes M s).1).2.2 != 0)=true:=by rw [bne_iff_ne];exact h1
   have Hg:=uQ (show Rep.run (dJ L M) L.aV = .inl (Rep.fault s (ak.scan (L.bytes M s).1).2.1,13) by
    rw [Hf.out]
    obtain ⟨post,e⟩:=yZ.out
    exact Rep.TY (by rw [e];exact Rep.Ye tJ.out H0.out h1))
   have h22:Sat w0 Lm (pt b3 (.cells (fJ Rep.eY.zero) 53 (0,0))::aS p m L::aT m M::F):=h21.sb
   clear h21 h1 hfs hfk
   go_wp2_with fail
   refine (Zm s (ak.scan (L.bytes M s).1).2.1 h22).mono ?_
   rintro ee w23 ⟨v,rfl,rfl,h23⟩
   clear h22
   go_wp2_with ((with_reducible refine bU ⟨?_⟩);refine eH (fJ (Rep.fault s (ak.scan (L.bytes M s).1).2.1)) h23 ah ah ah bJ au ah ?_;intro w24 Qa)
   refine ⟨rfl,_,zU rfl Qa ah aY Tryz.underlying53 rfl au,_,rfl,?_⟩
   unfold xH
   rw [Hg.out]
   exact ⟨rfl,Qa.drop⟩
  have hb2:((ak.scan (L.bytes M s).1).2.2 != 0)=false:=by rw [h1];rfl
  have H1:=uQ h1
  rw [h1]
  clear h1
  have h22:Sat w0 Lm (eF pg (Rep.ledger (Rep.rowsOf (dJ L M) (L.aV.take i)++(fs.take 0).map fun q=>(s,q.1))) ((Rep.rowsOf (dJ L M) (L.aV.take i)).length+0)::iw ps (Rep.rE (L.aV.take i)) pi uv (.slice ta (L.aV.length - n) tc)::aF 207 3 uv ((Rep.mQ (dJ L M) (L.aV.take i)).flatMap gU)::aZ pi (fun _=>none) 0::pt b9 (.cells #[ptr pg] 216 (0,0)) ::
   pt b3 (.cells (fJ Rep.eY.zero) 53 (0,0))::aF 3 1 sv (ints L.aV)::aS p m L::aT m M::aF 223 36 (.slice fa fs.length fc) (lF fs)::pI fs::F):=by
   have q:Sat w0 Lm (eF pg (Rep.ledger (Rep.rowsOf (dJ L M) (L.aV.take i))) (Rep.rowsOf (dJ L M) (L.aV.take i)).length::iw ps (Rep.rE (L.aV.take i)) pi uv (.slice ta (L.aV.length - n) tc)::aF 207 3 uv ((Rep.mQ (dJ L M) (L.aV.take i)).flatMap gU)::aZ pi (fun _=>none) 0::pt b9 (.cells #[ptr pg] 216 (0,0)) ::
   pt b3 (.cells (fJ Rep.eY.zero) 53 (0,0))::aF 3 1 sv (ints L.aV)::aS p m L::aT m M::aF 223 36 (.slice fa fs.length fc) (lF fs)::pI fs::F):=h21.sb
   rw [List.take_zero,List.map_nil,List.append_nil,Nat.add_zero]
   exact q
  have Wn:=uQ (show (Rep.rowsOf (dJ L M) (L.aV.take i)).length+fs.length≤12000000 by
   have q1:=Rep.KI (dJ L M) L.aV (i+1)
   rw [iM.out,Rep.TU,List.length_append,List.length_map,show (ak.scan (dJ L M s).1).1=fs.map (·.1) from hfs.symm,List.length_map]at q1
   exact Nat.le_trans q1 GK.out)
  have hfl:fs.length≤16777216:=by
   have:=ak.Un (L.bytes M s).1
   rw [← hfs,List.length_map]at this;omega
  have Ak:=uQ hfl;have pF:=uQ hfs;have xA:=uQ hfk
  clear h21 hbl hfs hfk
  go_wp2_with fail
  go_loopg [72] fs.length (fun g jq wr=>∃ j:Nat,g=fs.length - j∧j≤fs.length∧jq = .int .i64 j∧Sat w0 wr (eF pg (Rep.ledger (Rep.rowsOf (dJ L M) (L.aV.take i)++(fs.take j).map fun q=>(s,q.1))) ((Rep.rowsOf (dJ L M) (L.aV.take i)).length+j)::iw ps (Rep.rE (L.aV.take i)) pi uv (.slice ta (L.aV.length - n) tc)::aF 207 3 uv ((Rep.mQ (dJ L M) (L.aV.take i)).flatMap gU)::aZ pi (fun _=>none) 0::pt b9 (.cells #[ptr pg] 216 (0,0)) ::
   pt b3 (.cells (fJ Rep.eY.zero) 53 (0,0))::aF 3 1 sv (ints L.aV)::aS p m L::aT m M::aF 223 36 (.slice fa fs.length fc) (lF fs)::pI fs::F))
  case atStart=>exact ⟨0,rfl,Nat.zero_le _,rfl,h22⟩
  case round=>
   obtain ⟨j,rfl,hj,rfl,hS⟩:=hrel
   clear h22
   by_cases hjl:j<fs.length
   rotate_left
   ·obtain rfl:j=fs.length:=by omega
    have d1:¬ (fs.length:Int)<(fs.length:Int):=oQ
    rw [List.take_length]at hS
    clear hjl hj
    have EG:((Rep.mQ (dJ L M) (L.aV.take i)).flatMap gU).length≤2147483648:=by
     rw [jr (k:=3) fun u _=>rfl]
     unfold Rep.mQ
     rw [List.length_map,List.length_take]
     have:=Hlen.out;omega
    go_wp2_with (first
     |((with_reducible refine bU ⟨?_⟩);refine eX (cs':=#[.int .i64 s,ptr pi,uv,.slice ta (L.aV.length - n) tc]) hS ah aj ah (fD bJ) bH au ah ?_;intro w40 zI)
     |((with_reducible refine bI ⟨?_⟩);refine gK zI ah (aO aH) bH aj au ?_)
     |(with_reducible apply kU))
    refine ⟨lu (e:=207) (sz:=3) (dX:=24) au zI ah (cs:=#[.int .i64 s,.int .i64 ((L.bytes M s).1.length:Nat),.int .i64 0]) rfl rfl aJ ?_⟩
    intro b41 w41 qZ
    go_wp2_with (with_reducible apply jf)
    refine ⟨lq 207 3 24 au qZ ah ah (aO (aO (aO aH))) aH rfl (Nat.le_refl 1) ah EG (by show 3≤65536;decide) aJ rfl ?_⟩
    intro bA nA cA w42 h42
    go_wp2_with ((with_reducible refine bU ⟨?_⟩);refine eX (cs':=#[.int .i64 s,ptr pi,.slice (some ⟨bA,0,none⟩) nA cA,.slice ta (L.aV.length - n) tc]) h42 ah aj ah (fD (fD bJ)) bH au ah ?_;intro w43 h43)
    have Z7:Sat w0 w43 (iw ps (Rep.rE (L.aV.take (i+1))) pi (.slice (some ⟨bA,0,none⟩) nA cA) (.slice ta (L.aV.length - n) tc)::aF 207 3 (.slice (some ⟨bA,0,none⟩) nA cA) ((Rep.mQ (dJ L M) (L.aV.take (i+1))).flatMap gU)::aZ pi (fun _=>none) 0::pt b9 (.cells #[ptr pg] 216 (0,0)) ::
     eF pg (Rep.ledger (Rep.rowsOf (dJ L M) (L.aV.take (i+1)))) (Rep.rowsOf (dJ L M) (L.aV.take (i+1))).length::pt b3 (.cells (fJ Rep.eY.zero) 53 (0,0))::aF 3 1 sv (ints L.aV)::aS p m L::aT m M::F):=by
     rw [iM.out,Rep.abh,Rep.agF,Rep.TU,List.length_append,List.length_map,show (ak.scan (dJ L M s).1).1=fs.map (·.1) from pF.out.symm,List.length_map,List.map_map,List.flatMap_append]
     exact h43.sb
    clear zI qZ h42 h43 hS
    go_roundg (n - (i+1))
    case measure=>have:=dH.out;omega
    case rel=>exact ⟨i+1,.slice (some ⟨bA,0,none⟩) nA cA,rfl,dH.out,by first|rfl|go_num,by rw [iM.out];exact Rep.Yc tJ.out H0.out H1.out,Z7⟩
   have d1:(j:Int)<(fs.length:Int):=oQ
   have QV:IntKind.i64.wrap ((j:Int)+1)=(j:Int)+1:=IntWalk.i64_in _ oQ
   obtain ⟨⟨f,dv⟩,hq⟩:∃ q,fs[j]?=some q:=⟨_,List.getElem?_eq_getElem hjl⟩
   have I7:f.e.key.length=32:=xA.out _ (List.mem_of_getElem? hq)
   obtain ⟨da,dn,dc,rfl,_,_⟩:=YM hq wr (hS.pk (A:=pI fs))
   obtain ⟨bk2,off2,c2,e2,hcell⟩:=mJ (f:=fun q:ak.gG×Value=>ug q.1 q.2) (k:=36) (fun q hq=>Bq q.1 q.2 (xA.out q hq)) (Sat.rd (hS.pk (A:=aF 223 36 (.slice fa fs.length fc) (lF fs)))) hq aJ
   cases e2
   have aat:(ug f (.slice da dn dc)).length=36:=Bq _ _ I7
   have Xn:=uQ (show (fs.take (j+1)).map (fun q=>(s,q.1))=(fs.take j).map (fun q=>(s,q.1))++[(s,f)] by rw [List.take_add_one,hq,Option.toList_some,List.map_append];rfl)
   have xB:=uQ hjl;have DF:=uQ I7
   clear hq I7 hj
   go_wp2_with (first
    |((with_reducible refine bI ⟨?_⟩);refine jw (b:=bk2) (o:=off2+j * 36) (ug f (.slice da dn dc)) ah hcell Tryz.underlying223 rfl (by rw [aat];kernel_rfl) ?_)
    |(with_reducible apply dY))
   refine ⟨dS VH hS rfl ?_⟩
   intro b17 w30 h30
   go_wp2_with (first
    |((with_reducible refine bU ⟨?_⟩);refine eH (kF f (.slice da dn dc)) h30 ah ah (by rw [xZ _ _ DF.out];rfl) bJ (by rw [xZ _ _ DF.out];kernel_rfl) (Px _ _ _ _) ?_;intro w31 h31)
    |((with_reducible refine bI ⟨?_⟩);refine fB (cs:=kF f (.slice da dn dc)) h31 ah aH Tryz.underlying223 rfl (by rw [xZ _ _ DF.out];kernel_rfl) ?_)
    |((with_reducible refine bI ⟨?_⟩);refine fB (cs:=#[ptr pg]) h31 ah (aO (aO (aO (aO (aO aH))))) Tryz.underlying216 rfl au ?_))
   have hrl:=Rep.KI (dJ L M) L.aV i
   refine (af6 (p:=pg) s f DF.out (by have:=GK.out;have:=Ak.out;have:=xB.out;have:=Wn.out;omega) (h31.pick aP)).mono ?_
   rintro ee w32 ⟨v,rfl,h32⟩
   clear h30 h31 hS hcell
   have hnn:∀ x∈Rep.rowsOf (dJ L M) (L.aV.take i)++(fs.take j).map (fun q=>(s,q.1)),0≤x.1:=fun x hx=>by
    rcases List.mem_append.1 hx with hx|hx
    ·unfold Rep.rowsOf at hx
     obtain ⟨u,hu,hx⟩:=List.mem_flatMap.1 hx
     obtain ⟨g,_,rfl⟩:=List.mem_map.1 hx
     exact Az.out u (List.mem_of_mem_take hu)
    ·obtain ⟨g,_,rfl⟩:=List.mem_map.1 hx
     exact Xd.out
   rw [← Rep.abp _ _ hnn,List.append_assoc,← Xn.out]at h32
   clear hnn
   go_wp2_with fail
   go_roundg (fs.length - (j+1))
   case measure=>have:=xB.out;omega
   case rel=>exact ⟨j+1,rfl,xB.out,by first|rfl|go_num,h32.sb⟩
end
end Go.Proofs.YtlimfgdbfadohaaGreatDoor
namespace Go.Rep
open Go.ak (Bs gG aX kG encs jd)
open Go.Seg (bF mag)
open Go.Tab
theorem Sr:∀ {l:List Row}{k:Bs}{r:Row},newest l k=some r→r∈l∧iC r≠2∧jo r=k
 |[],_,_,h=>by cases h
 |x::l,k,r,h=>by
  unfold newest at h
  split at h
  ·rename_i y hy
   cases h
   obtain ⟨h1,h2⟩:=Sr hy
   exact ⟨.tail _ h1,h2⟩
  ·split at h
   ·rename_i hh
    cases h
    exact ⟨.head _,hh⟩
   ·cases h
end Go.Rep
namespace Go.Seg
open Go.aB
open Go.ak (Bs gG encs jd kG aX)
open Go.Rep
section
variable {n:Nat}{ds:List aX}{L:Log}{M:aB}{C:List (List aX)}{c:Nat}
end
end Go.Seg
namespace Go.Rep
open Go.ak (Bs gG aX kG encs jd)
open Go.Seg (bF mag)
open Go.Tab
def jc (l:List Row) (k:Bs):Option bF:=(newest l k).bind fun r=>if iC r=0 then some (mO r) else none
def o7 (es:List aX) (k:Bs):Option Bs:=(nN es k).bind fun e=>if e.tag=0 then some e.data else none
section
variable {l:List Row}{r:Row}{k:Bs}{es:List aX}{x:aX}{C:List (List aX)}
theorem acp (h:iC r=0):jc (l++[r])=Tab.put (jc l) (jo r) (mO r):=by
 funext k
 unfold jc Tab.put
 rw [CB]
 by_cases hk:k=jo r
 ·rw [if_pos ⟨by rw [h];decide,hk.symm⟩,if_pos hk]
  show (if iC r=0 then some (mO r) else none)=_
  rw [if_pos h]
 ·rw [if_neg (fun q=>hk q.2.symm),if_neg hk]
theorem aco (h:iC r=1):jc (l++[r])=Tab.del (jc l) (jo r):=by
 funext k
 unfold jc Tab.del
 rw [CB]
 by_cases hk:k=jo r
 ·rw [if_pos ⟨by rw [h];decide,hk.symm⟩,if_pos hk]
  show (if iC r=0 then some (mO r) else none)=_
  rw [if_neg (by rw [h];decide)]
 ·rw [if_neg (fun q=>hk q.2.symm),if_neg hk]
theorem SA (l:List Row) (k:Bs):(jc l k).isSome=(o7 (l.map (·.2.e)) k).isSome∧∀ r,newest l k=some r→iC r=0→o7 (l.map (·.2.e)) k=some r.2.e.data:=by
 have e:=Sj l k
 unfold jc o7
 rw [← e]
 cases hn:newest l k with
 |none=>exact ⟨rfl,fun r hr=>by cases hr⟩
 |some r=>
  refine ⟨?_,fun r' hr h0=>?_⟩
  ·show (if iC r=0 then some (mO r) else none).isSome=(if r.2.e.tag=0 then some r.2.e.data else none).isSome
   unfold iC
   split <;> rfl
  ·cases hr
   show (if r.2.e.tag=0 then some r.2.e.data else none)=_
   rw [if_pos (show r.2.e.tag=0 from h0)]
theorem acn {p:bF} (h:jc l k=some p):∃ r∈l,mO r=p∧iC r=0∧jo r=k∧o7 (l.map (·.2.e)) k=some r.2.e.data:=by
 have h':=h
 unfold jc at h
 obtain ⟨r,h1,h2⟩:=Option.bind_eq_some_iff.1 h
 obtain ⟨h3,h4,h5⟩:=Sr h1
 split at h2
 ·rename_i h6
  cases h2
  exact ⟨r,h3,rfl,h6,h5,(SA l k).2 r h1 h6⟩
 ·cases h2
theorem acy (h:x.tag=0):o7 (es++[x])=Tab.put (o7 es) x.key x.data:=by
 funext k
 unfold o7 Tab.put
 rw [Rl]
 by_cases hk:k=x.key
 ·rw [if_pos ⟨by rw [h];decide,hk.symm⟩,if_pos hk]
  show (if x.tag=0 then some x.data else none)=_
  rw [if_pos h]
 ·rw [if_neg (fun q=>hk q.2.symm),if_neg hk]
theorem acw (h:x.tag=1):o7 (es++[x])=Tab.del (o7 es) x.key:=by
 funext k
 unfold o7 Tab.del
 rw [Rl]
 by_cases hk:k=x.key
 ·rw [if_pos ⟨by rw [h];decide,hk.symm⟩,if_pos hk]
  show (if x.tag=0 then some x.data else none)=_
  rw [if_neg (by rw [h];decide)]
 ·rw [if_neg (fun q=>hk q.2.symm),if_neg hk]
theorem PE:∀ (es:List aX) (a:Nat) (x:aX),kG (es++[x]) a=kG es a++[⟨x,a+(encs es).length,(ak.encode x).1.length⟩]
 |[],a,x=>by show [_]=[_];rw [show (encs []).length=0 from rfl,Nat.add_zero]
 |y::es,a,x=>by
  rw [List.cons_append,kG,kG,PE es _ x,List.cons_append]
  rw [show encs (y::es)=(ak.encode y).1++encs es from rfl,List.length_append,Nat.add_assoc]
theorem Fg:∀ (C D:List (List aX)) (k:Nat),iD k (C++D)=iD k C++iD (k+C.length) D
 |[],D,k=>rfl
 |es::C,D,k=>by
  rw [List.cons_append]
  show _++iD (k+1) (C++D)=(_++iD (k+1) C)++_
  rw [Fg C D (k+1),List.append_assoc,List.length_cons,show k+1+C.length=k+(C.length+1) by omega]
def putRow (C:List (List aX)) (b:Bool) (x:aX):Row:=
 if b then (((C.length - 1:Nat):Int),⟨x,8+(encs (C.getLastD [])).length,(ak.encode x).1.length⟩) else ((C.length:Int),⟨x,8,(ak.encode x).1.length⟩)
theorem adY (C:List (List aX)) (b:Bool) (x:aX) (hb:b=true→C≠[]):iD 0 (Seg.put C b x)=iD 0 C++[putRow C b x]:=by
 cases b with
 |true=>
  have hne:=hb rfl
  unfold Seg.put putRow
  simp only [if_true]
  rw [Fg]
  conv=>rhs;rw [Seg.Ci hne,Fg]
  rw [List.append_assoc]
  congr 1
  show _++[]=(_++[])++_
  rw [List.append_nil,List.append_nil,PE,List.map_append,List.length_dropLast,Nat.zero_add]
  have hg:(C.dropLast++[C.getLastD []]).getLastD []=C.getLastD []:=by rw [List.getLastD_eq_getLast?,List.getLast?_concat];rfl
  have hlen:(C.dropLast++[C.getLastD []]).length=C.length:=by rw [← Seg.Ci hne]
  rw [hg,hlen]
  rfl
 |false=>
  unfold Seg.put putRow
  simp only [Bool.false_eq_true,if_false]
  rw [Fg]
  congr 1
  show _++[]=_
  rw [List.append_nil,Nat.zero_add]
  rfl
theorem ac4 (C:List (List aX)) (b:Bool) (x:aX):(putRow C b x).2.e=x:=by
 unfold putRow;split <;> rfl
end
end Go.Rep
namespace Go.Seg
open Go.aB
open Go.ak (Bs aX encs jd)
open Go.Rep
section
variable {K r E B n:Nat}{L:Log}{M:aB}{C:List (List aX)}{x:aX}
theorem HG.XR (h:HG K r E B n L M C) (h0:(ak.encode x).2=0) (hz:(L.append M x).2.2=0):(L.append M x).2.1=mO (putRow C (L.fits (ak.encode x).1.length) x):=by
 cases hf:L.fits (ak.encode x).1.length with
 |true=>
  rw [Log.DU h0 hf]at hz ⊢
  obtain ⟨s,hl⟩:=h.keeps.log.last (Ph hf)
  have hl':=hl
  rw [List.getLast?_eq_getElem?]at hl'
  have hlt:=(List.getElem?_eq_some_iff.1 hl').1
  have hlen:=h.len
  have hne:C≠[]:=by intro e;rw [e,List.length_nil]at hlen;omega
  have hcl:C[L.l.length - 1]?=some (C.getLastD []):=by
   conv=>lhs;rw [Ci hne]
   rw [List.getElem?_append_right (by rw [List.length_dropLast];omega),List.length_dropLast,show L.l.length - 1 - (C.length - 1)=0 by omega];rfl
  have hat:=h.at_ _ _ hcl
  rw [hl']at hat
  cases hat
  unfold Log.grow at hz ⊢
  rw [hl]at hz ⊢
  simp only at hz ⊢
  split at hz
  ·rename_i g
   rw [if_pos g]
   unfold putRow mO
   simp only [if_true]
   rw [hlen]
   rfl
  ·rename_i g
   exact absurd hz g
 |false=>
  rw [Log.DT h0 hf]at hz ⊢
  obtain ⟨_,s2,s3,_,_⟩:=h.keeps.shut
  have hnx:(L.shut M).1.1.next=C.length:=by
   have:=h.next
   unfold Log.next at this ⊢
   rw [s3];exact this
  unfold Log.begin at hz ⊢
  rw [if_pos s2]at hz ⊢
  generalize (L.shut M).1.1=L1 at *
  generalize (L.shut M).1.2=M1 at *
  unfold Log.jY at hz ⊢
  by_cases g2:1048576≤L1.next
  ·rw [if_pos g2]at hz
   exact absurd (show (16:Int)=0 from hz) aJ
  rw [if_neg g2]at hz ⊢
  by_cases g3:(M1.create (name L1.next)).2=0
  rotate_left
  ·rw [if_pos g3]at hz
   exact absurd hz g3
  rw [if_neg (fun q=>q g3)]at hz ⊢
  by_cases g4:((M1.create (name L1.next)).1.append (name L1.next) (mag++(ak.encode x).1)).2=0
  ·rw [if_pos g4,hnx]
   rfl
  rw [if_neg g4]at hz
  split at hz
  ·simp only at hz
   split at hz
   ·exact absurd hz aJ
   ·rename_i g5;exact absurd hz g5
  ·exact absurd hz g4
theorem HG.Pg (h:HG K r E B n L M C){k:Nat}:L.fits k=true→C≠[]:=fun hf=>by
 have h1:=h.keeps.log.on (Ph hf)
 intro e
 have:=h.len
 rw [e,List.length_nil]at this
 exact h1 (List.eq_nil_of_length_eq_zero this)
end
end Go.Seg
namespace Go.ak
end Go.ak
namespace Go.Proofs.YtlimfgdbfadohaaGreatDoor
open Go Go.Sl Go.aB Go.MapKept Go.RowKit
section
variable {w0 w:World}{F:List aC}{av bv v:Value}
theorem NZ {l:Bs}{i:Nat}{x:UInt8} (h:l[i]?=some x):(ay l)[i]?=some (.int .u8 x.toNat):=by unfold ay;rw [List.getElem?_map,h];rfl
theorem af7 {α:Type}{a b:List α}{i:Nat}{x:α} (h:a.take i=b.take i) (h1:a[i]?=some x) (h2:b[i]?=some x):a.take (i+1)=b.take (i+1):=by
 rw [List.take_add_one,List.take_add_one,h,h1,h2]
theorem KJ (la lb:Bs) (ha:Ro w0 F (bK 1 av (ay la))) (hb:Ro w0 F (bK 1 bv (ay lb))) (h:Sat w0 w F) (hlen:la.length≤1099511627776) :
  Calls Tryz.prog 12 #[av,bv] w (aI fun v w'=>v = .bool (decide (la=lb))∧Sat w0 w' F):=by
 obtain ⟨aa,an,ac,rfl,hal,_⟩:=id (ha w h)
 obtain ⟨ba,bn,bc,rfl,hbl,_⟩:=id (hb w h)
 rw [aU,Nat.mul_one]at hal hbl
 subst hal;subst hbl
 have Ha:=uQ ha;have Hb:=uQ hb;have Hlen:=uQ hlen
 clear ha hb hlen
 by_cases hl:la.length=lb.length
 ·have Hl:=uQ hl
  have ED:(la.length:Int)=(lb.length:Int):=oQ
  go_enter Tryz.func12,Tryz.ntmps12
  clear hl
  go_wp2_with fail
  clear ED
  go_loopg [5] la.length (fun g iq wr=>∃ i:Nat,g=la.length - i∧i≤la.length∧iq = .int .i64 i∧la.take i=lb.take i∧Sat w0 wr F)
  case atStart=>exact ⟨0,rfl,Nat.zero_le _,rfl,rfl,h⟩
  case round=>
   obtain ⟨i,rfl,hiN,rfl,htk,hS⟩:=hrel
   clear h
   by_cases hi:i<la.length
   ·obtain ⟨x,hx⟩:∃ x,la[i]?=some x:=⟨_,List.getElem?_eq_getElem hi⟩
    obtain ⟨y,hy⟩:∃ y,lb[i]?=some y:=⟨_,List.getElem?_eq_getElem (by have:=Hl.out;omega)⟩
    have hS1:=hS.drew
    obtain ⟨bk,off,rfl,d1⟩:=zQ (Ha.out _ hS1) (NZ hx)
    obtain ⟨bk2,off2,rfl,d2⟩:=zQ (Hb.out _ hS1) (NZ hy)
    have hic:(i:Int)<(la.length:Int):=oQ
    have hil:(i:Int)<(lb.length:Int):=by have:=Hl.out;omega
    have hwi:IntKind.i64.wrap ((i:Int)+1)=(i:Int)+1:=IntWalk.i64_in _ (by have:=Hlen.out;omega)
    have Hi:=uQ hi
    by_cases hxy:x=y
    ·subst hxy
     have Hn:=uQ (af7 htk hx hy)
     clear htk hx hy hi hiN
     generalize (x.toNat:Int)=X at *
     go_wp2_with fail
     refine dh [8] (fun w'=>w'.cell? ⟨bk,off+i,none⟩=some (.int .u8 X)∧w'.cell? ⟨bk2,off2+i,none⟩=some (.int .u8 X)) au ?_
     have hG:_∧_:=And.intro d1 d2
     refine rP 0 ?_ (y:=aG)
     refine rP 1 ?_ (y:=aG)
     refine rP 2 ?_ (y:=dZ)
     refine rt 3 (h:=?_)
     refine rP 4 ?_ (y:=aG)
     refine rP 5 ?_ (y:=aG)
     refine rP 6 ?_ (y:=dZ)
     refine rt 7 (h:=?_)
     refine rP 8 ?_ (y:=dB)
     refine cu au ?_
     clear hG
     try simp only [jB]
     try go_frame
     go_wp2_with fail
     go_roundg (la.length - (i+1))
     case measure=>have:=Hi.out;omega
     case rel=>exact ⟨i+1,rfl,Nat.succ_le_of_lt Hi.out,by first|rfl|go_num,Hn.out,hS1⟩
    ·have qW:=uQ (show decide (la=lb)=false from decide_eq_false fun e=>hxy (by rw [e,hy]at hx;exact (Option.some.inj hx).symm))
     have hne:((x.toNat:Int)==(y.toNat:Int))=false:=by
      rw [beq_eq_false_iff_ne];intro e;exact hxy (UInt8.toNat_inj.1 oQ)
     have hne2:((x.toNat:Int) != (y.toNat:Int))=true:=by
      rw [bne_iff_ne];intro e;exact hxy (UInt8.toNat_inj.1 oQ)
     clear htk hx hy hi hiN hxy
     generalize (x.toNat:Int)=X at *
     generalize (y.toNat:Int)=Y at *
     go_wp2_with fail
     refine dh [8] (fun w'=>w'.cell? ⟨bk,off+i,none⟩=some (.int .u8 X)∧w'.cell? ⟨bk2,off2+i,none⟩=some (.int .u8 Y)) au ?_
     have hG:_∧_:=And.intro d1 d2
     refine rP 0 ?_ (y:=aG)
     refine rP 1 ?_ (y:=aG)
     refine rP 2 ?_ (y:=dZ)
     refine rt 3 (h:=?_)
     refine rP 4 ?_ (y:=aG)
     refine rP 5 ?_ (y:=aG)
     refine rP 6 ?_ (y:=dZ)
     refine rt 7 (h:=?_)
     refine rP 8 ?_ (y:=dB)
     refine cu au ?_
     clear hG
     try simp only [jB]
     try go_frame
     go_wp2_with fail
     go_ret
     rw [qW.out]
     exact ⟨_,rfl,rfl,hS1⟩
   ·obtain rfl:i=la.length:=by omega
    have hic:¬ (la.length:Int)<(la.length:Int):=oQ
    have bV:=uQ (show decide (la=lb)=true from decide_eq_true (by
     have h1:=Hl.out
     rw [List.take_length]at htk
     rw [h1,List.take_length]at htk
     exact htk))
    clear htk hi hiN
    go_wp2_with fail
    go_ret
    rw [bV.out]
    exact ⟨_,rfl,rfl,hS⟩
 ·have ED:¬ ((la.length:Int)=(lb.length:Int)):=by omega
  have hlb:((la.length:Int)==(lb.length:Int))=false:=by rw [beq_eq_false_iff_ne];exact ED
  have ahR:((la.length:Int) != (lb.length:Int))=true:=by rw [bne_iff_ne];exact ED
  have qW:=uQ (show decide (la=lb)=false from decide_eq_false fun e=>hl (by rw [e]))
  clear hl
  go_enter Tryz.func12,Tryz.ntmps12
  go_wp2_with fail
  go_ret
  rw [qW.out]
  exact ⟨_,rfl,rfl,h⟩
end
end Go.Proofs.YtlimfgdbfadohaaGreatDoor
namespace Go.Rep
open Go.ak (Bs gG)
open Go.Seg (bF)
open Go.Tab
def hit (k:Bs) (r:Row):Bool:=decide (iC r<2) && decide (jo r=k)
section
variable {l:List Row}{k:Bs}{i:Nat}{r:Row}
end
section
variable {V:Type}
variable {l:List (Bs×V)}{x y:Bs×V}{i:Nat}
end
section
variable {l:List Row}{us:List Use}{i k:Nat}{r:Row}{u:Use}
end
end Go.Rep
namespace Go.Proofs.YtlimfgdbfadohaaGreatDoor
open Go Go.Sl Go.aB Go.MapKept Go.RowKit
set_option maxRecDepth 20000 in
theorem Zj (k l:ak.Bs) (hk:k.length=32) (hl:l.length=32) (w:World):(binOp .eql 30 (.agg (ay k).toArray) (.agg (ay l).toArray)).run Tryz.prog w = .ok (.bool (decide (k=l))) w:=by
 rw [run_eql_struct,pJ k l hk hl];rfl
theorem Zh (x y:Operand) (k l:ak.Bs) (hk:k.length=32) (hl:l.length=32) (w:World):((do eqGuard .eql 30 x y (.agg (ay k).toArray) (.agg (ay l).toArray);binOp .eql 30 (.agg (ay k).toArray) (.agg (ay l).toArray)):Sem Value).run Tryz.prog w = .ok (.bool (decide (k=l))) w:=by
 simp [eqGuard,Sem.run_bind,Zj k l hk hl w]
section
variable {w0 w:World}{F:List aC}{rv:Value}
end
section
variable {P:Program}{ops:Array Oper}{a:Act}{dst:Option Tmp}{t ty:TypeId}{pos:String}{after:Array Edge}{x y:Operand}{v v1 v2:Value}{i1 i2:Nat}
theorem LP (hx:a.eval x=v1) (hy:a.eval y=v2) (hr:∀ w,(Instr.build ty #[(i1,v1),(i2,v2)]).run P w = .ok v w):Yields P ops ⟨dst,.build ty #[(i1,x),(i2,y)],t,pos,after,none⟩ v a:=
 .inl ⟨kR _ rfl,fun w=>by simp only [execOp,List.map_toArray,List.map_cons,List.map_nil,hx,hy,Sem.run_bind,hr,Result.andThen_ok,Sem.run_pure]⟩
end
section
variable {w0 w:World}{F:List aC}{p B:Nat}{m:ak.Bs→Option (Seg.bF)}
end
end Go.Proofs.YtlimfgdbfadohaaGreatDoor
namespace Go.Proofs.YtlimfgdbfadohaaGreatDoor
open Go Go.Sl Go.aB Go.ChangeShapes Go.WideShapes Go.RowKit
section
variable {H:Type}{enc:TypeId×Value→H}{W:World}{base:Nat}{spare:Nat→Bool}{held:Bool}
structure VQ (W:World) (p:ak.aX×Value):Prop where
 key:p.1.key.length=32
 tag:pR p.1.tag
 rd:bK 1 p.2 (ay p.1.data) W
 cap:kK p.2
end
structure PC where
 n:Int
 es:List (ak.aX×Value)
 ev:Value
 rest:Bs
 rv:Value
 bad:Bool
 at_:Int
 plain:Bool
structure PC.At (W:World) (d:PC):Prop where
 n:pR d.n
 rd:bK 34 d.ev (Zg d.es) W
 cap:kK d.ev
 ents:∀ p∈d.es,VQ W p
 rr:bK 1 d.rv (ay d.rest) W
 rc:kK d.rv
 at_:pR d.at_
section
variable {H:Type}{enc:TypeId×Value→H}{W:World}{base:Nat}{spare:Nat→Bool}{held:Bool}
end
end Go.Proofs.YtlimfgdbfadohaaGreatDoor
namespace Go.Seg
open Go.aB
open Go.ak (encs jd kG aX)
end Go.Seg
namespace Go.Proofs.YtlimfgdbfadohaaGreatDoor
open Go Go.Sl Go.aB Go.MapKept Go.RowKit
theorem ac9 (cs:Array Value) (hs:cs.size=34) (u:Value) (kl:List Value) (hk:kl.length=32):(eG (eG cs 0 [u]) 1 kl).toList=u::(kl++cs.toList.drop 33):=by
 have hcl:cs.toList.length=34:=by simpa using hs
 rw [lW _ _ _ (by rw [kZ];omega),lW _ _ _ (by simp;omega)]
 simp only [List.take_zero,List.nil_append,List.length_singleton,Nat.zero_add]
 rw [List.singleton_append,List.take_succ_cons,List.take_zero,hk,show 1+32=32+1 by omega,List.drop_succ_cons,List.drop_drop]
 simp
section
variable {w0 w:World}{F R:List aC}{v bv dv x lv:Value}{p m:Nat}{L:Seg.Log}{M:aB}
end
end Go.Proofs.YtlimfgdbfadohaaGreatDoor
namespace Go.Seg
open Go.aB
open Go.ak (Bs gG encs jd kG aX)
open Go.Rep
section
variable {n n2:Nat}{ds ps:List aX}{L L2:Log}{M M2:aB}{C C0 C2:List (List aX)}{c c2:Nat}{d:aX}
structure Same (L L2:Log) (M M2:aB) (c c2:Nat):Prop where
 one:c=L.aV.length
 two:c2=L.aV.length
 aV:L2.aV.take c2=L.aV.take c
 rows:rowsOf (fun s=>L2.bytes M2 s) (L2.aV.take c2)=rowsOf (fun s=>L.bytes M s) (L.aV.take c)
 uses:mQ (fun s=>L2.bytes M2 s) (L2.aV.take c2)=mQ (fun s=>L.bytes M s) (L.aV.take c)
 le:L.aV.length≤L2.aV.length
end
end Go.Seg
namespace Go.kS
open Go.aB
open Go.Rep (Use)
open Go.Seg (bF)
def fin (n:Int) (us:List Use) (i:Nat):Bool:=decide (i=us.length) && (decide (0<i) && decide ((us.getD (i - 1) ⟨0,0,0⟩).seg=n))
def Zw (sz:Int→Int) (s:Int) (u:Use):Bool:=decide (u.seg=s) && (decide (u.size=sz s) && decide (u.live≤u.size))
def Pe (sz:Int→Int) (n:Int) (us:List Use):List Int→Nat→Bool
 |[],i=>fin n us i
 |s::ss,i=>if n<s then fin n us i else match us[i]? with
  |none=>false
  |some u=>if Zw sz s u=true then Pe sz n us ss (i+1) else false
def fits (L:Seg.Log) (us:List Use) (n:Int):Bool:=Pe L.size n us L.aV 0
def lies (p:bF) (sz:Int→Int):Bool:=decide (8≤p.at_) && (decide (41≤p.size) && decide (p.size≤sz p.seg - p.at_))
def sizes (us:List Use):Int→Int:=us.foldl (fun f u=>fun s=>if s=u.seg then u.size else f s) fun _=>0
section
variable {T:Kept}{s1 s2 s:ByteArray}{b1 b2 b:Bs}{K:Nat}{M:aB}
end
end Go.kS
namespace Go.kS
open Go.aB
open Go.Seg (Log Keeps Holds HG mag)
open Go.ak (gG encs jd kG aX)
open Go.Rep (Use)
section
variable {n K r E B:Nat}{L:Log}{M:aB}{C:List (List aX)}{N:Int}{b1 b2:ak.Bs}
theorem af9 (k:Int):tmp≠Seg.name k:=fun e=>by
 rcases Uo k with q|⟨q,_⟩
 ·rw [q]at e;exact af8 e
 ·rw [← e]at q;exact absurd q aJ
end
end Go.kS
namespace Go.kS
open Go.aB
open Go.Seg (Log Keeps Holds HG mag bF)
open Go.ak (gG encs jd kG aX)
open Go.Rep (Use)
theorem YJ {M:aB}{s:ByteArray}{p:ByteArray×Nat} (h:p∈(M.create s).1.now):p∈M.now∨p.1=s:=by
 obtain ⟨_,e1,e2,e3,e4⟩:=M.jW
 unfold aB.create at h
 split at h;· exact .inl h
 split at h;· exact .inl h
 rename_i hg
 split at h;· exact .inl h
 split at h;· exact .inl h
 split at h;· rw [e2]at h;exact .inl h
 have h2:p∈iW.on ⟨ByteArray.empty,s,M.files.length⟩ M.step.1.now:=h
 rw [e2]at h2
 unfold iW.on at h2
 simp only [if_true,if_neg (vW (by simpa using hg):s≠ByteArray.empty)]at h2
 rcases List.mem_cons.1 ((wO _ _ _).mem_iff.1 h2) with rfl|h3
 ·exact .inr rfl
 ·exact .inl (List.mem_filter.1 h3).1
theorem Nu (M:aB) (s:ByteArray) (b:Bs):(M.append s b).1.now=M.now:=by
 obtain ⟨_,e1,e2,e3,e4⟩:=M.jW
 unfold aB.append
 split;· rfl
 split;· rfl
 split;· rfl
 split;· exact e2
 exact e2
theorem afU (M:aB) (s:ByteArray):(M.sync s).1.now=M.now:=by
 obtain ⟨_,e1,e2,e3,e4⟩:=M.jW
 unfold aB.sync
 split;· rfl
 split;· rfl
 split;· exact e2
 exact e2
theorem adv {M:aB}{s:ByteArray}{p:ByteArray×Nat} (h:p∈(M.remove s).1.now):p∈M.now:=by
 obtain ⟨_,e1,e2,e3,e4⟩:=M.jW
 unfold aB.remove at h
 split at h;· exact h
 split at h;· exact h
 split at h;· rw [e2]at h;exact h
 have h2:p∈iW.on ⟨s,ByteArray.empty,0⟩ M.step.1.now:=h
 rw [e2]at h2
 unfold iW.on at h2
 simp only [if_true]at h2
 split at h2
 ·exact h2
 ·exact (List.mem_filter.1 h2).1
def Grown (M M':aB):Prop:=∀ p∈M'.now,p∈M.now∨∃ k,p.1=Seg.name k
theorem Grown.refl (M:aB):Grown M M:=fun p hp=> .inl hp
theorem Grown.trans {A B D:aB} (h:Grown A B) (k:Grown B D):Grown A D:=fun p hp=>by
 rcases k p hp with q|q
 ·exact h p q
 ·exact .inr q
theorem Grown.same {A B:aB} (h:B.now=A.now):Grown A B:=fun p hp=> .inl (by rw [← h];exact hp)
theorem Uy (L:Log) (M:aB):Grown M (L.shut M).1.2:=by
 unfold Log.shut
 split;· exact Grown.refl M
 split
 ·split <;> exact Grown.same (afU M _)
 ·exact Grown.refl M
theorem Yh (L:Log) (M:aB) (b:Bs):Grown M (L.jY M b).1.2:=by
 have hc:Grown M (M.create (Seg.name L.next)).1:=fun p hp=>(YJ hp).imp id fun e=>⟨_,e⟩
 have ha:Grown M ((M.create (Seg.name L.next)).1.append (Seg.name L.next) (mag++b)).1:=hc.trans (Grown.same (Nu _ _ _))
 unfold Log.jY
 split;· exact Grown.refl M
 split;· exact hc
 split;· exact ha
 split
 ·exact ha.trans fun p hp=> .inl (adv hp)
 ·exact ha
theorem abe (L:Log) (M:aB) (x:aX):Grown M (L.append M x).1.2:=by
 unfold Log.append
 split;· exact Grown.refl M
 split
 ·unfold Log.grow
  split
  ·exact Grown.refl M
  ·split <;> exact Grown.same (Nu _ _ _)
 ·unfold Log.begin
  split
  ·exact (Uy L M).trans (Yh _ _ _)
  ·exact Uy L M
section
variable {n K B c:Nat}{L:Log}{M M':aB}{C:List (List aX)}{N:Int}{b1 b2:ak.Bs}{us:List Use}
end
end Go.kS
namespace Go.LV
open Go.ak (Bs le num gW CG)
structure Rw where
 key:Bs
 nums:List Int
def acv (ns:List Int):Bs:=ns.flatMap fun n=>le n.toNat 4
def rowB (kd:Bool) (r:Rw):Bs:=(if kd then r.key else [])++acv r.nums
def adX (kd:Bool) (l:List Rw):Bs:=l.flatMap (rowB kd)
def body (mg:Bs) (kd:Bool) (l:List Rw):Bs:=mg++le l.length 4++adX kd l
def book (X:Bs→Nat) (mg:Bs) (kd:Bool) (l:List Rw):Bs:=body mg kd l++le (X (body mg kd l)) 8
structure XB (k:Nat) (r:Rw):Prop where
 key:r.key.length=32
 len:r.nums.length=k
 num:∀ n∈r.nums,0≤n∧n≤4294967295
def ahead (kd:Bool) (a b:Rw):Prop:=if kd then a.key<b.key else a.nums.getD 0 0<b.nums.getD 0 0
instance (kd:Bool) (a b:Rw):Decidable (ahead kd a b):=by unfold ahead;infer_instance
def XA (kd:Bool) (l:List Rw):Prop:=∀ i a b,l[i]?=some a→l[i+1]?=some b→ahead kd a b
structure Ok (k:Nat) (kd:Bool) (l:List Rw):Prop where
 len:l.length≤65536
 row:∀ r∈l,XB k r
 rise:XA kd l
section
variable {X:Bs→Nat}{mg:Bs}{kd:Bool}{l:List Rw}{r:Rw}{k i:Nat}{n:Int}{ns:List Int}
end
end Go.LV
namespace Go.Proofs.YtlimfgdbfadohaaGreatDoor
open Go Go.Sl Go.aB Go.MapKept Go.RowKit
def msl (T sz:Nat) (v:Value) (xs:List Value):aC:=fun h=>
 ∃ b n cap cs m,v = .slice (some ⟨b,0,none⟩) n cap∧xs.length=n * sz∧n≤cap∧cap * sz≤cs.size∧cap≤maxLen∧cs.toList.take (n * sz)=xs∧cs.size≤m∧pt b (.cells cs T (m,m+1)) h
def DV (T sz:Nat) (v:Value) (xs:List Value):aC:=fun h=>aF T sz v xs h∨msl T sz v xs h
abbrev AU (v:Value) (l:ak.Bs):aC:=DV 5 1 v (ay l)
section
variable {P:Program}{w0 w:World}{R:List aC}{T sz b:Nat}{v x:Value}{xs ys:List Value}{fr:Nat×Nat}
theorem Yo {cs:Array Value}{T:TypeId} (h:Sat w0 w (pt b (.cells cs T fr)::R)) (i:Nat) (v:Value) (hv:cs[i]?=some v):w.cell? ⟨b,i,none⟩=some v:=by
 have:=h.at
 simp [World.cell?,this,hv]
theorem Ny (h:Sat w0 w (DV T sz v xs::R)):Sat w0 w (aF T sz v xs::R)∨∃ b n cap cs m,v = .slice (some ⟨b,0,none⟩) n cap∧xs.length=n * sz∧n≤cap∧cap * sz≤cs.size∧cap≤maxLen∧cs.toList.take (n * sz)=xs∧cs.size≤m∧Sat w0 w (pt b (.cells cs T (m,m+1))::R):=by
 obtain ⟨ha,x,hx,p,q,d,rfl,hp,hq⟩:=h
 rcases hp with hp|⟨b,n,cap,cs,m,h1,h2,h3,h4,h5,h6,h7,h8⟩
 ·exact .inl ⟨ha,_,hx,p,q,d,rfl,hp,hq⟩
 ·exact .inr ⟨b,n,cap,cs,m,h1,h2,h3,h4,h5,h6,h7,ha,_,hx,p,q,d,rfl,h8,hq⟩
theorem XU {n cap m:Nat}{cs:Array Value} (h:Sat w0 w (pt b (.cells cs T (m,m+1))::R)) (h2:xs.length=n * sz) (h3:n≤cap) (h4:cap * sz≤cs.size) (h5:cap≤maxLen) (h6:cs.toList.take (n * sz)=xs) (h7:cs.size≤m):Sat w0 w (DV T sz (.slice (some ⟨b,0,none⟩) n cap) xs::R):=
 h.head fun _ hx=> .inr ⟨b,n,cap,cs,m,rfl,h2,h3,h4,h5,h6,h7,hx⟩
theorem XV (h:Sat w0 w (DV T sz v xs::R)):bK sz v xs w:=by
 rcases Ny h with h|⟨b,n,cap,cs,m,rfl,hl,hn,hc,hcm,htk,hm,hp⟩
 ·exact Sat.rd h
 ·exact ⟨_,n,cap,rfl,hl,fun j y hj=>⟨_,rfl,by rw [pG];exact Yo hp j y (pY htk hj)⟩⟩
end
end Go.Proofs.YtlimfgdbfadohaaGreatDoor
namespace Go.Xx
open Go.ak (Bs num le sJ)
def W:Nat:=18446744073709551616
def p1:Nat:=11400714785074694791
def p2:Nat:=14029467366897019727
def p3:Nat:=1609587929392839161
def p4:Nat:=9650029242287828579
def p5:Nat:=2870177450012600261
def turn (x k:Nat):Nat:=(x * 2^k%W) ||| (x / 2^(64 - k))
def lane (a w:Nat):Nat:=turn ((a+w * p2%W)%W) 31 * p1%W
structure Ln where
 a:Nat
 b:Nat
 c:Nat
 d:Nat
def Ln.zero:Ln:=⟨(p1+p2)%W,p2,0,W - p1⟩
def Ln.lt (l:Ln):Prop:=l.a<W∧l.b<W∧l.c<W∧l.d<W
def strip (l:Ln) (b:Bs):Ln:=⟨lane l.a (num (b.take 8)),lane l.b (num ((b.drop 8).take 8)),lane l.c (num ((b.drop 16).take 8)),lane l.d (num ((b.drop 24).take 8))⟩
def IG:Nat→Ln→Bs→Ln×Bs
 |0,l,b=>(l,b)
 |n+1,l,b=>if 32≤b.length then IG n (strip l b) (b.drop 32) else (l,b)
def mix (x a:Nat):Nat:=((x ^^^ lane 0 a) * p1%W+p4)%W
def joined (l:Ln):Nat:=mix (mix (mix (mix ((((turn l.a 1+turn l.b 7)%W+turn l.c 12)%W+turn l.d 18)%W) l.a) l.b) l.c) l.d
def t8 (x w:Nat):Nat:=(turn (x ^^^ lane 0 w) 27 * p1%W+p4)%W
def t4 (x w:Nat):Nat:=(turn (x ^^^ (w * p1%W)) 23 * p2%W+p3)%W
def t1 (x:Nat) (c:UInt8):Nat:=turn (x ^^^ (c.toNat * p5%W)) 11 * p1%W
def Di:Nat→Nat→Bs→Nat×Bs
 |0,x,b=>(x,b)
 |n+1,x,b=>if 8≤b.length then Di n (t8 x (num (b.take 8))) (b.drop 8) else (x,b)
def tail4 (x:Nat) (b:Bs):Nat×Bs:=if 4≤b.length then (t4 x (num (b.take 4)),b.drop 4) else (x,b)
def tail (x:Nat) (b:Bs):Nat:=(tail4 (Di b.length x b).1 (Di b.length x b).2).2.foldl t1 (tail4 (Di b.length x b).1 (Di b.length x b).2).1
def f1 (x:Nat):Nat:=(x ^^^ (x / 8589934592)) * p2%W
def f2 (x:Nat):Nat:=(x ^^^ (x / 536870912)) * p3%W
def f3 (x:Nat):Nat:=x ^^^ (x / 4294967296)
def sum (b:Bs):Nat:=f3 (f2 (f1 (tail (((if 32≤b.length then joined (IG b.length Ln.zero b).1 else p5)+b.length)%W) (IG b.length Ln.zero b).2)))
end Go.Xx
namespace Go.Proofs.YtlimfgdbfadohaaGreatDoor
open Go Go.Sl Go.aB Go.MapKept Go.RowKit
section
variable {x y z a n c:Nat}
theorem rG (x:Nat):x%18446744073709551616<18446744073709551616:=Nat.mod_lt _ aJ
end
structure RS (w0:World) (F:List aC) (v:Value) (l:Bs):Prop where
 rd:Ro w0 F (bK 1 v (ay l))
 cap:kK v
section
variable {w0 w:World}{F:List aC}{v:Value}{l:Bs}{a:Option Addr}{n c k:Nat}
theorem Fz (w:World):(sizeOf 5).run Tryz.prog w = .ok 1 w:=by kernel_rfl
theorem Bg:Tryz.prog.elem 27=5:=by kernel_rfl
theorem wX:Tryz.prog.underlying 27=some (.slice (Tryz.prog.elem 27)):=by rw [Bg];exact Tryz.underlying27
theorem zX (hk:k≤n) (w:World):(Instr.sliceAt 27 (.slice a n c) (some (.int .i64 k)) none none).run Tryz.prog w = .ok (sliced a k n c 1) w:=by
 rw [run_sliceAt_slice _ _ _ _ _ _ wX,run_slice_l _ _ _ _ _ wX .i64 (k:Int) oQ oQ,Bg,Fz]
 simp [Result.andThen]
theorem KO (hk:k≤c) (w:World):(Instr.sliceAt 27 (.slice a n c) none (some (.int .i64 k)) none).run Tryz.prog w = .ok (sliced a 0 k c 1) w:=by
 rw [run_sliceAt_slice _ _ _ _ _ _ wX,run_slice_h _ _ _ _ _ wX .i64 (k:Int) oQ oQ,Bg,Fz]
 simp [Result.andThen]
theorem aeI (hk:k≤c) (w:World):(Instr.sliceAt 27 (.slice a n c) none (some (.int .i64 k)) (some (.int .i64 k))).run Tryz.prog w = .ok (sliced a 0 k k 1) w:=by
 rw [run_sliceAt_slice _ _ _ _ _ _ wX,run_slice_hm _ _ _ _ _ wX .i64 .i64 (k:Int) (k:Int) oQ oQ oQ,Bg,Fz]
 simp [Result.andThen]
theorem RS.len (h:RS w0 F v l) (hS:Sat w0 w F):∃ a c,v = .slice a l.length c∧l.length≤c∧c≤9223372036854775807:=by
 obtain ⟨a,n,c,rfl,h1,h2⟩:=h.cap
 obtain ⟨_,_,_,he,hl,_⟩:=h.rd w hS
 cases he
 rw [aU,Nat.mul_one]at hl
 subst hl
 exact ⟨a,c,rfl,h1,h2⟩
theorem nX {l:Bs}{j:Nat}{y:Value}:(ay l)[j]?=some y↔∃ u,l[j]?=some u∧y = .int .u8 u.toNat:=by
 unfold ay
 rw [List.getElem?_map,Option.map_eq_some_iff]
 constructor
 ·rintro ⟨u,h1,h2⟩;exact ⟨u,h1,h2.symm⟩
 ·rintro ⟨u,h1,h2⟩;exact ⟨u,h1,h2.symm⟩
theorem RS.from (h:RS w0 F (.slice a l.length c) l) (hk:k≤l.length):RS w0 F (sliced a k l.length c 1) (l.drop k):=by
 obtain ⟨a',n',c',he,h1,h2⟩:=h.cap
 cases he
 refine ⟨fun w hw=>?_,⟨_,_,_,rfl,by omega,by omega⟩⟩
 refine ⟨_,_,_,rfl,by rw [aU,List.length_drop,Nat.mul_one],fun j y hj=>?_⟩
 obtain ⟨u,hu,rfl⟩:=nX.1 hj
 rw [List.getElem?_drop]at hu
 have hlt:=(List.getElem?_eq_some_iff.1 hu).1
 obtain ⟨bk,off,rfl,hc⟩:=iU (h.rd w hw) (nX.2 ⟨u,hu,rfl⟩)
 rw [if_neg oQ]
 refine ⟨_,rfl,?_⟩
 have:=hc (k+j) _ (nX.2 ⟨u,hu,rfl⟩)
 show w.cell? (((⟨bk,off,none⟩:Addr).add (k * 1)).add j)=_
 rw [Addr.add_mid,Addr.add_mid,Nat.mul_one,Nat.add_assoc];exact this
theorem RS.to (h:RS w0 F (.slice a l.length c) l) (hk:k≤l.length) (m:Nat) (hm:k≤m) (hmc:m≤c):RS w0 F (sliced a 0 k m 1) (l.take k):=by
 obtain ⟨a',n',c',he,h1,h2⟩:=h.cap
 cases he
 refine ⟨fun w hw=>?_,⟨_,_,_,rfl,by omega,by omega⟩⟩
 refine ⟨_,_,_,rfl,by rw [aU,List.length_take,Nat.mul_one];omega,fun j y hj=>?_⟩
 obtain ⟨u,hu,rfl⟩:=nX.1 hj
 rw [List.getElem?_take]at hu
 split at hu
 ·rename_i hjk
  obtain ⟨bk,off,rfl,hc⟩:=iU (h.rd w hw) (nX.2 ⟨u,hu,rfl⟩)
  rw [if_neg oQ]
  refine ⟨_,rfl,?_⟩
  have:=hc j _ (nX.2 ⟨u,hu,rfl⟩)
  show w.cell? (((⟨bk,off,none⟩:Addr).add (0 * 1)).add j)=_
  rw [Addr.add_mid,Addr.add_mid,Nat.zero_mul,Nat.add_zero];exact this
 ·cases hu
theorem RS.sK (h:Sat w0 w (aK v l::F)):RS w0 (aK v l::F) v l:=by
 obtain ⟨a,n,c,e,h1,h2,h3⟩:=iY h
 exact ⟨Ro.aK _ _,⟨a,n,c,e,h1,h2⟩⟩
theorem RS.more (h:RS w0 F v l){G:List aC} (k:Sub G F):RS w0 G v l:=⟨Ro.of_sub h.rd k,h.cap⟩
end
section
variable {P:Program}{w:World}{ops:Array Oper}{rest:List Oper}{a:Act}{Q:Exit→Act→World→Prop}{dst:Option Tmp}{t ty:TypeId}{pos:String}{after:Array Edge}{x y z:Operand}{v vx vy vz:Value}
theorem yM (hx:a.eval x=vx) (hy:a.eval y=vy) (hr:∀ w,(Instr.sliceAt ty vx (some vy) none none).run P w = .ok v w) (h:wpList P ops Q rest (a.put dst v) w):wpList P ops Q (⟨dst,.slice ty x (some y) none none,t,pos,after,none⟩::rest) a w:=
 wpList_plain rfl fun _ hK=>by
  unfold Oper.wp execOp
  simp only [hx,hy,Option.map_some,Option.map_none,Sem.run_bind,hr,Result.andThen_ok,Sem.run_pure]
  exact hK _ _ h
theorem agR (hx:a.eval x=vx) (hy:a.eval y=vy) (hr:∀ w,(Instr.sliceAt ty vx none (some vy) none).run P w = .ok v w) (h:wpList P ops Q rest (a.put dst v) w):wpList P ops Q (⟨dst,.slice ty x none (some y) none,t,pos,after,none⟩::rest) a w:=
 wpList_plain rfl fun _ hK=>by
  unfold Oper.wp execOp
  simp only [hx,hy,Option.map_some,Option.map_none,Sem.run_bind,hr,Result.andThen_ok,Sem.run_pure]
  exact hK _ _ h
theorem agQ (hx:a.eval x=vx) (hy:a.eval y=vy) (hz:a.eval z=vz) (hr:∀ w,(Instr.sliceAt ty vx none (some vy) (some vz)).run P w = .ok v w) (h:wpList P ops Q rest (a.put dst v) w):wpList P ops Q (⟨dst,.slice ty x none (some y) (some z),t,pos,after,none⟩::rest) a w:=
 wpList_plain rfl fun _ hK=>by
  unfold Oper.wp execOp
  simp only [hx,hy,hz,Option.map_some,Option.map_none,Sem.run_bind,hr,Result.andThen_ok,Sem.run_pure]
  exact hK _ _ h
theorem xJ (h:Stop (wpList P ops Q (⟨dst,.slice ty x (some y) none none,t,pos,after,none⟩::rest) a w)):wpList P ops Q (⟨dst,.slice ty x (some y) none none,t,pos,after,none⟩::rest) a w:=h.out
theorem X4 (h:Stop (wpList P ops Q (⟨dst,.slice ty x none (some y) none,t,pos,after,none⟩::rest) a w)):wpList P ops Q (⟨dst,.slice ty x none (some y) none,t,pos,after,none⟩::rest) a w:=h.out
theorem X3 (h:Stop (wpList P ops Q (⟨dst,.slice ty x none (some y) (some z),t,pos,after,none⟩::rest) a w)):wpList P ops Q (⟨dst,.slice ty x none (some y) (some z),t,pos,after,none⟩::rest) a w:=h.out
end
section
variable {w0 w:World}{F:List aC}{v bv:Value}
theorem SQ (l:Bs) (c:UInt8) (k:Nat) (hl:l.length=k) (hk:k<8):bits .or .u64 ((ak.num l:Nat):Int) ((c.toNat:Int) * ((256^k:Nat):Int))=((ak.num (l++[c]):Nat):Int):=by
 subst hl
 have h1:=ak.sJ l
 have h2:=c.toNat_lt
 have h3:256^l.length≤256^7:=Nat.pow_le_pow_right aJ oQ
 have h4:c.toNat * 256^l.length≤255 * 256^7:=Nat.mul_le_mul oQ h3
 have h5:(256:Nat)^7=72057594037927936:=by decide
 have e:(c.toNat:Int) * ((256^l.length:Nat):Int)=((c.toNat * 256^l.length:Nat):Int):=by rw [Int.natCast_mul]
 rw [e,u64_or_nat _ _ oQ oQ,ak.J3]
 congr 1
 have hp:(256:Nat)^l.length=2^(8 * l.length):=by rw [Nat.pow_mul]
 rw [hp]at h1 ⊢
 have:=Nat.two_pow_add_eq_or_of_lt h1 c.toNat
 rw [Nat.or_comm,Nat.mul_comm c.toNat,← this,Nat.add_comm]
theorem eight {l:Bs} (h:l.length=8):∃ c0 c1 c2 c3 c4 c5 c6 c7,l=[c0,c1,c2,c3,c4,c5,c6,c7]:=by
 match l,h with
 |[c0,c1,c2,c3,c4,c5,c6,c7],_=>exact ⟨c0,c1,c2,c3,c4,c5,c6,c7,rfl⟩
set_option maxRecDepth 20000 in
theorem ac2 (x:Nat) (hx:x<18446744073709551616) (h:Sat w0 w F) :
  Calls Tryz.prog 133 #[.int .u64 x,.int .i64 8] w (aI fun v w'=>Sat w0 w' (aK v (ak.le x 8)::F)∧∃ a,v = .slice a 8 8):=by
 have Hx:=uQ hx
 clear hx
 have hmk:∀ w,(Instr.makeSlice 27 (.int .i64 8) (.int .i64 8)).run Tryz.prog w = .ok (.slice (some ⟨w.heap.size,0,none⟩) 8 8) (w.alloc (.cells #[.int .u8 0,.int .u8 0,.int .u8 0,.int .u8 0,.int .u8 0,.int .u8 0,.int .u8 0,.int .u8 0] 5)):=fun w=>by kernel_rfl
 go_enter Tryz.func133,Tryz.ntmps133
 go_wp2_with fail
 have hA:=h.alloc (.cells #[.int .u8 0,.int .u8 0,.int .u8 0,.int .u8 0,.int .u8 0,.int .u8 0,.int .u8 0,.int .u8 0] 5)
 have hB:Sat w0 (w.alloc (.cells #[.int .u8 0,.int .u8 0,.int .u8 0,.int .u8 0,.int .u8 0,.int .u8 0,.int .u8 0,.int .u8 0] 5)) (aK (.slice (some ⟨w.heap.size,0,none⟩) 8 8) [0,0,0,0,0,0,0,0]::F):=Sat.jV hA rfl (Nat.le_refl _) (Nat.le_refl _) (by unfold maxLen;omega) rfl
 obtain ⟨b0,b1,b2,b3,b4,b5,b6,b7,hb0,hb1,hb2,hb3,hb4,hb5,hb6,hb7,hle⟩:∃ b0 b1 b2 b3 b4 b5 b6 b7:UInt8,(x:Int)%256=b0.toNat∧(x:Int) / 256%256=b1.toNat∧(x:Int) / 65536%256=b2.toNat∧(x:Int) / 16777216%256=b3.toNat∧(x:Int) / 4294967296%256=b4.toNat∧(x:Int) / 1099511627776%256=b5.toNat∧(x:Int) / 281474976710656%256=b6.toNat∧(x:Int) / 72057594037927936%256=b7.toNat∧ak.le x 8=[b0,b1,b2,b3,b4,b5,b6,b7]:=by
  refine ⟨_,_,_,_,_,_,_,_,?_,?_,?_,?_,?_,?_,?_,?_,rfl⟩
  all_goals (rw [UInt8.toNat_ofNat'];omega)
 have lD:=uQ hle
 clear hle hmk hA
 generalize w.heap.size=q at *
 go_loopg [17] 8 (fun g iq wr=>∃ (i:Nat) (l':Bs),g=8 - i∧i≤8∧iq = .int .i64 i∧l'=(match i with|0=>[0,0,0,0,0,0,0,0]|1=>[b0,0,0,0,0,0,0,0]|2=>[b0,b1,0,0,0,0,0,0]|3=>[b0,b1,b2,0,0,0,0,0]|4=>[b0,b1,b2,b3,0,0,0,0]|5=>[b0,b1,b2,b3,b4,0,0,0]|6=>[b0,b1,b2,b3,b4,b5,0,0]|7=>[b0,b1,b2,b3,b4,b5,b6,0]|_=>[b0,b1,b2,b3,b4,b5,b6,b7])∧Sat w0 wr (aK (.slice (some ⟨q,0,none⟩) 8 8) l'::F))
 case atStart=>exact ⟨0,_,rfl,by omega,rfl,rfl,hB⟩
 case round=>
  obtain ⟨i,l',rfl,hi,rfl,hl',hS⟩:=hrel
  clear hB
  obtain rfl|rfl|rfl|rfl|rfl|rfl|rfl|rfl|rfl:i=0∨i=1∨i=2∨i=3∨i=4∨i=5∨i=6∨i=7∨i=8:=by omega
  ·obtain rfl:l'=[0,0,0,0,0,0,0,0]:=hl'
   obtain ⟨g,he,e0,e1,hS5⟩:=nV (i:=0) hS (by simp) b0
   cases he
   go_wp2_with fail
   go_roundg 7
   case measure=>omega
   case rel=>exact ⟨1,[b0,0,0,0,0,0,0,0],rfl,by omega,rfl,rfl,hS5⟩
  ·obtain rfl:l'=[b0,0,0,0,0,0,0,0]:=hl'
   obtain ⟨g,he,e0,e1,hS5⟩:=nV (i:=1) hS (by simp) b1
   cases he
   go_wp2_with fail
   go_roundg 6
   case measure=>omega
   case rel=>exact ⟨2,[b0,b1,0,0,0,0,0,0],rfl,by omega,rfl,rfl,hS5⟩
  ·obtain rfl:l'=[b0,b1,0,0,0,0,0,0]:=hl'
   obtain ⟨g,he,e0,e1,hS5⟩:=nV (i:=2) hS (by simp) b2
   cases he
   go_wp2_with fail
   go_roundg 5
   case measure=>omega
   case rel=>exact ⟨3,[b0,b1,b2,0,0,0,0,0],rfl,by omega,rfl,rfl,hS5⟩
  ·obtain rfl:l'=[b0,b1,b2,0,0,0,0,0]:=hl'
   obtain ⟨g,he,e0,e1,hS5⟩:=nV (i:=3) hS (by simp) b3
   cases he
   go_wp2_with fail
   go_roundg 4
   case measure=>omega
   case rel=>exact ⟨4,[b0,b1,b2,b3,0,0,0,0],rfl,by omega,rfl,rfl,hS5⟩
  ·obtain rfl:l'=[b0,b1,b2,b3,0,0,0,0]:=hl'
   obtain ⟨g,he,e0,e1,hS5⟩:=nV (i:=4) hS (by simp) b4
   cases he
   go_wp2_with fail
   go_roundg 3
   case measure=>omega
   case rel=>exact ⟨5,[b0,b1,b2,b3,b4,0,0,0],rfl,by omega,rfl,rfl,hS5⟩
  ·obtain rfl:l'=[b0,b1,b2,b3,b4,0,0,0]:=hl'
   obtain ⟨g,he,e0,e1,hS5⟩:=nV (i:=5) hS (by simp) b5
   cases he
   go_wp2_with fail
   go_roundg 2
   case measure=>omega
   case rel=>exact ⟨6,[b0,b1,b2,b3,b4,b5,0,0],rfl,by omega,rfl,rfl,hS5⟩
  ·obtain rfl:l'=[b0,b1,b2,b3,b4,b5,0,0]:=hl'
   obtain ⟨g,he,e0,e1,hS5⟩:=nV (i:=6) hS (by simp) b6
   cases he
   go_wp2_with fail
   go_roundg 1
   case measure=>omega
   case rel=>exact ⟨7,[b0,b1,b2,b3,b4,b5,b6,0],rfl,by omega,rfl,rfl,hS5⟩
  ·obtain rfl:l'=[b0,b1,b2,b3,b4,b5,b6,0]:=hl'
   obtain ⟨g,he,e0,e1,hS5⟩:=nV (i:=7) hS (by simp) b7
   cases he
   go_wp2_with fail
   go_roundg 0
   case measure=>omega
   case rel=>exact ⟨8,[b0,b1,b2,b3,b4,b5,b6,b7],rfl,by omega,rfl,rfl,hS5⟩
  ·obtain rfl:l'=[b0,b1,b2,b3,b4,b5,b6,b7]:=hl'
   go_wp2
   go_ret
   exact ⟨_,rfl,by rw [lD.out];exact hS,_,rfl⟩
end
section
variable {P:Program}{w0 w:World}{L:List aC}{ops:Array Oper}{rest:List Oper}{a:Act}{Q:Exit→Act→World→Prop}{dst:Option Tmp}{t ty e:TypeId}{pos:String}{after:Array Edge}{x y:Operand}{g:Nat×Bool}{op:Op}{sz dX n:Nat}{v:Value}{zs:List Value}
theorem U8 (hw:Region.wanted ⟨dst,op,t,pos,after,some g⟩ (yielded ops a.tmps)=true) (h:wpList P ops Q (⟨dst,op,t,pos,after,none⟩::rest) a w):wpList P ops Q (⟨dst,op,t,pos,after,some g⟩::rest) a w:=by
 unfold wpList at h ⊢
 rw [if_pos hw]
 rw [if_pos (kR _ rfl)]at h
 exact h
theorem U7 (h:Stop (wpList P ops Q (⟨dst,.load ty x,t,pos,after,some g⟩::rest) a w)):wpList P ops Q (⟨dst,.load ty x,t,pos,after,some g⟩::rest) a w:=h.out
theorem wW {xs:Array (Nat×Operand)} (h:Stop (wpList P ops Q (⟨dst,.build ty xs,t,pos,after,none⟩::rest) a w)):wpList P ops Q (⟨dst,.build ty xs,t,pos,after,none⟩::rest) a w:=h.out
theorem uM {xs:Array (Nat×Operand)}{ps:Array (Nat×Value)} (h1:xs.map (fun p=>(p.1,a.eval p.2))=ps) (hr:∀ w,(Instr.build ty ps).run P w = .ok v w) (h:wpList P ops Q rest (a.put dst v) w) :
  wpList P ops Q (⟨dst,.build ty xs,t,pos,after,none⟩::rest) a w:=
 wpList_plain rfl fun _ hK=>by
  unfold Oper.wp execOp
  simp only [h1,Sem.run_bind,hr,Result.andThen_ok,Sem.run_pure]
  exact hK _ _ h
end
abbrev ahU (p:Nat) (l:Xx.Ln) (rv:Value) (n:Nat):aC:=pt p (.cells #[.bool true,.int .u64 0,.int .u64 l.a,.int .u64 l.b,.int .u64 l.c,.int .u64 l.d,rv,.int .u64 n] 339 (0,0))
section
variable {w0 w:World}{F:List aC}{v bv rv:Value}{p n:Nat}{l:Xx.Ln}
end
section
variable {w0 w:World}{F:List aC}{v bv rv:Value}{p n:Nat}{l:Bs}
theorem PY (l:Bs) (hl:l.length=4) (a:Option Addr) (c:Nat) (h:bK 1 (.slice a 4 c) (ay l) w) :
  Calls Tryz.prog 101 #[.slice a 4 c] w (aI fun v w'=>v = .tuple #[.int .u64 (ak.num l:Nat),.bool true]∧w=w'):=PX l hl a c h
theorem Ox (hr:RS w0 F bv l) (h:Sat w0 w F){k:Nat} (hk:k≤l.length):∃ a c a2 c2,bv = .slice a l.length c∧l.length≤c∧c≤9223372036854775807∧(∀ w,(Instr.sliceAt 27 (.slice a l.length c) (some (.int .i64 k)) none none).run Tryz.prog w = .ok (.slice a2 (l.drop k).length c2) w)∧RS w0 F (.slice a2 (l.drop k).length c2) (l.drop k):=by
 obtain ⟨a,c,rfl,h1,h2⟩:=hr.len h
 have hs:=hr.from hk
 obtain ⟨a2,c2,he,h3,h4⟩:=hs.len h
 refine ⟨a,c,a2,c2,rfl,h1,h2,fun w=>?_,by rw [← he];exact hs⟩
 rw [← he];exact zX hk w
end
abbrev ji (p:Nat) (rv:Value):aC:=pt p (.cells #[rv,errno 0,.bool true] 288 (0,0))
section
variable {w0 w:World}{F:List aC}{v bv rv:Value}{p n k:Nat}{l m:Bs}
theorem adS (hl:l.length≤140737488355328) (hr:RS w0 F bv l) (h:Sat w0 w F):Calls Tryz.prog 147 #[bv] w (aI fun v w'=>∃ p rv,v=ptr p∧Sat w0 w' (ji p rv::aK rv l::F)∧RS w0 (aK rv l::F) rv l):=by
 obtain ⟨ba,bc,rfl,_,_⟩:=hr.len h
 have hc:=qA h (hr.rd w h) hl
 clear hr
 go_enter Tryz.func147,Tryz.ntmps147
 go_wp2_with fail
 refine hc.mono ?_
 rintro ee w1 ⟨v,rfl,h1,a1,n1,c1,rfl⟩
 clear hc h
 have hb1:∀ w,(Instr.build 288 #[(0,.slice a1 n1 c1),(2,.bool true)]).run Tryz.prog w = .ok (.agg #[.slice a1 n1 c1,.int .i64 0,.bool true]) w:=fun w=>by kernel_rfl
 go_wp2_with ((with_reducible refine fH ⟨?_⟩);refine fO h1 ah ah ?_;intro bB wB hB)
 go_ret
 exact ⟨_,rfl,bB,_,rfl,hB,RS.sK hB.drop⟩
theorem zS (h:Sat w0 w (ji p rv::F)):Calls Tryz.prog 185 #[ptr p] w (aI fun v w'=>v=errno 0∧w=w'):=by
 have c1:w.cell? ⟨p,1,none⟩=some (errno 0):=h.cellAt 1 _ rfl
 have c2:w.cell? ⟨p,2,none⟩=some (.bool true):=h.cellAt 2 _ rfl
 go_enter Tryz.func185,Tryz.ntmps185
 go_wp2
 go_ret
 exact ⟨_,rfl,rfl,rfl⟩
set_option maxRecDepth 20000 in
theorem KL (hk:k≤m.length) (hr:RS w0 F rv m) (h:Sat w0 w (ji p rv::F)):Calls Tryz.prog 208 #[ptr p,.int .i64 k] w (aI fun v w'=>∃ ta tc ra rc,v = .tuple #[.slice ta k tc,.bool true]∧RS w0 F (.slice ta k tc) (m.take k)∧(∀ F0,RS w0 F0 rv m→RS w0 F0 (.slice ra (m.drop k).length rc) (m.drop k))∧Sat w0 w' (ji p (.slice ra (m.drop k).length rc)::F)):=by
 obtain ⟨ba,bc,ra,rc,rfl,h1,h2,QL,_⟩:=Ox hr h.drop hk
 have QJ:∀ F0,RS w0 F0 (.slice ba m.length bc) m→RS w0 F0 (.slice ra (m.drop k).length rc) (m.drop k):=fun F0 h0=>by
  have e:=(zX (a:=ba) (c:=bc) hk w).symm.trans (QL w)
  have e2:sliced ba k m.length bc 1 = .slice ra (m.drop k).length rc:=by injection e
  rw [← e2];exact h0.from hk
 have EF:=hr.to hk k (Nat.le_refl k) oQ
 obtain ⟨ta,tc,he,_,_⟩:=EF.len h.drop
 rw [show (m.take k).length=k by rw [List.length_take];omega]at he
 have hrunT:∀ w,(Instr.sliceAt 27 (.slice ba m.length bc) none (some (.int .i64 k)) (some (.int .i64 k))).run Tryz.prog w = .ok (.slice ta k tc) w:=fun w=>by rw [← he];exact aeI oQ w
 rw [he]at EF
 have her:=zS h
 have c0:¬ (k:Int)<0:=oQ
 have c0d:decide ((k:Int)<0)=false:=decide_eq_false c0
 have c1:¬ (m.length:Int)<(k:Int):=oQ
 have N8:decide ((m.length:Int)<(k:Int))=false:=decide_eq_false c1
 have HT:=uQ EF;have HF:=uQ QJ
 clear hr EF QJ he h1 h2 hk
 generalize (m.drop k).length=q at *
 go_enter Tryz.func208,Tryz.ntmps208
 go_wp2_with fail
 refine her.mono ?_
 rintro ee w1 ⟨v,rfl,rfl,rfl⟩
 clear her
 go_wp2_with (first
  |((with_reducible refine bI ⟨?_⟩);refine gK h ah aH bH aj au ?_)
  |((with_reducible refine X3 ⟨?_⟩);refine agQ ah ah ah hrunT ?_)
  |((with_reducible refine xJ ⟨?_⟩);refine yM ah ah QL ?_)
  |((with_reducible refine bU ⟨?_⟩);refine eX (v:= .slice ra q rc) h ah ah ah bJ (by exact Nat.le_of_ble_eq_true ah) au ah ?_;intro w2 h2))
 go_ret2
 exact ⟨_,rfl,ta,tc,ra,rc,rfl,HT.out,HF.out,h2⟩
end
section
variable {P:Program}{w0 w:World}{ops:Array Oper}{rest:List Oper}{a:Act}{Q:Exit→Act→World→Prop}{dst:Option Tmp}{t ty:TypeId}{pos:String}{after:Array Edge}{v:Value}{parts:Array (Nat×Operand)}
end
section
variable {w0 w:World}{F:List aC}
abbrev Rh (mg:ByteArray) (kd:Bool) (k:Nat):Array Value:=#[.string mg,.bool kd,.int .i64 k]
abbrev ahX:Array Value:=Rh ⟨#[72,79,65,82,68,73,68,88]⟩ true 3
abbrev ah3:Array Value:=Rh ⟨#[72,79,65,82,68,85,83,69]⟩ false 3
end
abbrev rwA (x:LV.Rw) (nv:Value):Array Value:=(ay x.key++[nv]).toArray
section
variable {w0 w:World}{F:List aC}{na nb:Value}
end
end Go.Proofs.YtlimfgdbfadohaaGreatDoor
namespace Go.Sl
open Go
section
variable {P:Program}{ops:Array Oper}{Q:Exit→Act→World→Prop}{late:List Nat}{G:World→Prop}{n:Nat}{l:Array Bool}{a:Act}{w:World}{oi oj:Oper}
theorem rM (i j:Nat) (hi:ops.toList[i]?=some oi) (hj:ops.toList[j]?=some oj) (hr:Region.ready .any ops l=[i,j])
  (h1:∀ K:Act→World→Prop,(∀ a' w',keeps late G i w w'→iK P ops Q late G n (l.setIfInBounds i true) a' w'→K a' w') →
   if Region.wanted oi (yielded ops a.tmps)=true then Oper.wp P oi a w K Q else K (a.put oi.dst undef) w)
  (h2:∀ K:Act→World→Prop,(∀ a' w',keeps late G j w w'→iK P ops Q late G n (l.setIfInBounds j true) a' w'→K a' w') →
   if Region.wanted oj (yielded ops a.tmps)=true then Oper.wp P oj a w K Q else K (a.put oj.dst undef) w):iK P ops Q late G (n+1) l a w:=by
 rw [Array.getElem?_toList]at hi hj
 refine ⟨(fun h0=>by rw [hr]at h0;cases h0),fun k hk=>?_⟩
 rw [hr]at hk
 have hk2:k=i∨k=j:=by simpa using hk
 rcases hk2 with rfl|rfl
 ·have:=h1 _ (fun a' w' h1 h2=>And.intro h1 h2)
  unfold wpOp
  rw [hi]
  show if Region.wanted oi (yielded ops a.tmps)=true then _ else _
  split
  ·rename_i hw;rw [if_pos hw]at this;exact .inl this
  ·rename_i hw;rw [if_neg hw]at this;exact this
 ·have:=h2 _ (fun a' w' h1 h2=>And.intro h1 h2)
  unfold wpOp
  rw [hj]
  show if Region.wanted oj (yielded ops a.tmps)=true then _ else _
  split
  ·rename_i hw;rw [if_pos hw]at this;exact .inl this
  ·rename_i hw;rw [if_neg hw]at this;exact this
end
end Go.Sl
namespace Go.kS
open Go.aB
open Go.Seg (Log Keeps Holds HG mag bF)
open Go.ak (gG encs jd kG aX)
open Go.Rep (Use)
structure Hd (T:Kept) (P:ByteArray→Prop) (K:Nat) (M:aB):Prop where
 ok:M.Ok K
 nm:∀ k,k≤M.waits.length→(∀ t∈T,dD (M.mF k) t.1=some t.2.1)∧∀ p∈M.mF k,(∃ t∈T,p.1=t.1)∨P p.1
 fil:∀ t∈T,M.file t.2.1=t.2.2
section
variable {T:Kept}{P:ByteArray→Prop}{K K' r:Nat}{M:aB}{s:ByteArray}{L:Log}{N:Int}
end
section
variable {T:Kept}{P:ByteArray→Prop}{n K K' E B c:Nat}{L:Log}{M M':aB}{C:List (List aX)}{N:Int}{b1 b2:ak.Bs}{us:List Use}
end
end Go.kS
namespace Go.Seg
open Go.aB
open Go.ak (Bs aX encs jd)
open Go.Rep
structure Rp (K r E B n:Nat) (L:Log) (M:aB) (C:List (List aX)):Prop where
 hg:HG K r E B n L M C
 tmp:dD M.now kS.tmp=none
 few:C.flatten.length≤n
 small:∀ p∈M.now,p.1.size≤24
section
variable {K r E B n:Nat}{L:Log}{M M':aB}{C:List (List aX)}{x:aX}
theorem abW (k:Int):(name k).size≤24:=by
 rcases kS.Uo k with z|⟨z,_⟩
 ·rw [z];decide
 ·rw [z];decide
theorem Rp.grown (h:Rp K r E B n L M C){K' n':Nat}{L':Log}{C':List (List aX)} (hg:HG K' r E B n' L' M' C') (hr:kS.Grown M M') (hf:C'.flatten.length≤n'):Rp K' r E B n' L' M' C':=by
 refine ⟨hg,?_,hf,fun p hp=>?_⟩
 ·cases hi:dD M'.now kS.tmp with
  |none=>rfl
  |some i=>
   rcases hr _ (kX hi) with q|⟨k,q⟩
   ·have:=JQ h.hg.keeps.calm.ok.iO.qM.keys (show (kS.tmp,i)∈M.now from q)
    rw [h.tmp]at this;cases this
   ·exact absurd q (kS.af9 k)
 ·rcases hr p hp with q|⟨k,q⟩
  ·exact h.small p q
  ·rw [q];exact abW k
theorem Rp.mono (h:Rp K r E B n L M C){K' E' B' n':Nat} (h1:K≤K') (h2:E≤E') (h3:B≤B') (h4:n≤n'):Rp K' r E' B' n' L M C:=⟨h.hg.mono h1 h2 h3 h4,h.tmp,Nat.le_trans h.few h4,h.small⟩
theorem Rp.yes (h:Rp K r E B n L M C) (hn:n<1000) (hk:x.key.length=32) (hd:x.data.length≤300) (h0:(ak.encode x).2=0) (hz:(L.append M x).2.2=0) :
  ∃ C',Rp (K+4) r E B (n+1) (L.append M x).1.1 (L.append M x).1.2 C'∧C'=put C (L.fits (ak.encode x).1.length) x∧C'.flatten=C.flatten++[x]∧∃ row,iD 0 C'=iD 0 C++[row]∧row.2.e=x∧mO row=(L.append M x).2.1:=by
 obtain ⟨_,_,_,a4,_,_⟩:=h.hg.append hn x hk hd h0 (.inl hz)
 have hfl:=ac6 C (L.fits (ak.encode x).1.length) x h.hg.Pg
 refine ⟨_,h.grown a4 (kS.abe L M x) ?_,rfl,hfl,_,adY C _ x h.hg.Pg,ac4 C _ x,(h.hg.XR h0 hz).symm⟩
 rw [hfl,List.length_append,List.length_singleton];have:=h.few;omega
theorem Rp.row (h:Rp K r E B n L M C){q:Row} (hq:q∈iD 0 C):L.read M (mO q)=(q.2.e,0)∧jd q.2.e∧(q.2.size:Int)≤4294967296∧(q.2.at_:Int)≤4294967296:=by
 refine ⟨h.hg.adn hq,?_⟩
 obtain ⟨j,es,h5,h6,h7⟩:=KH C 0 hq
 obtain ⟨u,v,h8,h9,h10⟩:=Iy es 8 h7
 have hat:=List.mem_of_getElem? (h.hg.at_ j es h5)
 have hsz:=h.hg.keeps.log.sizes _ hat
 have he:(encs es).length=(encs u).length+((ak.encode q.2.e).1.length+(encs v).length):=by
  conv=>lhs;rw [h8]
  rw [xU,List.length_append]
  congr 1
  exact List.length_append
 simp only at hsz
 exact ⟨(h.hg.good es (List.mem_of_getElem? h5)).1 _ (by rw [h8];simp),by omega,by omega⟩
end
end Go.Seg
namespace Go.Tab
open Go.ak (Bs)
section
variable {α V:Type}{m:Bs→Option V}{k:Bs}{v:V}
theorem Jw [DecidableEq α]:∀ {l l':List α},l.Nodup→(∀ x∈l,x∈l')→l.length≤l'.length
 |[],_,_,_=>Nat.zero_le _
 |a::l,l',hd,hs=>by
  obtain ⟨h1,h2⟩:=List.nodup_cons.1 hd
  have hm:=hs a (.head _)
  have ih:=Jw (l':=l'.erase a) h2 (fun x hx=>(List.mem_erase_of_ne (fun e:x=a=>h1 (by rw [← e];exact hx))).2 (hs x (.tail _ hx)))
  rw [List.length_erase_of_mem hm]at ih
  have:=List.length_pos_of_mem hm
  rw [List.length_cons];omega
theorem abr {t:Tb V} (h:t.Ok) (hi:t.Is m){kv:List (Bs×V)} (hl:Lists m kv):t.n=kv.length:=by
 have hA:((t.slots.filter fun x=>x.st==1).map (·.key)).Nodup:=by
  rw [List.nodup_iff_pairwise_ne,List.pairwise_map,List.pairwise_filter,List.pairwise_iff_getElem]
  intro i j hi hj hij p1 p2 e
  have:=h.good.one (List.getElem?_eq_getElem hi) (List.getElem?_eq_getElem hj) (by simpa using p1) (by simpa using p2) e
  omega
 have hn:t.n=((t.slots.filter fun x=>x.st==1).map (·.key)).length:=by
  rw [List.length_map,h.n]
  unfold jg
  rw [List.countP_eq_length_filter]
 have hB:=hl.keys
 have hAB:∀ x∈(t.slots.filter fun x=>x.st==1).map (·.key),x∈kv.map (·.1):=fun x hx=>by
  obtain ⟨y,hy,rfl⟩:=List.mem_map.1 hx
  obtain ⟨h1,h2⟩:=List.mem_filter.1 hy
  obtain ⟨i,hi1,hi2⟩:=List.getElem_of_mem h1
  have:m y.key=some y.val:=(hi _ _).1 ⟨i,y,by rw [List.getElem?_eq_getElem hi1,hi2],by simpa using h2,rfl,rfl⟩
  exact List.mem_map.2 ⟨(y.key,y.val),(hl.mem _ _).2 this,rfl⟩
 have Z9:∀ x∈kv.map (·.1),x∈(t.slots.filter fun x=>x.st==1).map (·.key):=fun x hx=>by
  obtain ⟨q,hq,rfl⟩:=List.mem_map.1 hx
  obtain ⟨i,y,h1,h2,h3,h4⟩:=(hi q.1 q.2).2 ((hl.mem q.1 q.2).1 hq)
  exact List.mem_map.2 ⟨y,List.mem_filter.2 ⟨List.mem_of_getElem? h1,by simpa using h2⟩,h3⟩
 have l1:=Jw hA hAB
 have l2:=Jw hB Z9
 rw [List.length_map]at l1 l2 hn
 rw [List.length_map]at l1 l2
 omega
def setAux (k:Bs) (b:V):List (Bs×V)→Bool→List (Bs×V)
 |[],done=>if done then [] else [(k,b)]
 |x::m,done=>(if !done && !decide (x.1<k) then [(k,b)] else [])++((if x.1≠k then [x] else [])++setAux k b m (done || !decide (x.1<k)))
theorem KU (k:Bs) (b:V):∀ l:List (Bs×V),setAux k b l true=l.filter fun x=>decide (x.1≠k)
 |[]=>rfl
 |x::l=>by
  unfold setAux
  rw [Bool.true_or,KU k b l,List.filter_cons]
  simp only [Bool.not_true,Bool.false_and,Bool.false_eq_true,if_false,List.nil_append]
  by_cases h:x.1=k
  ·simp [h]
  ·simp [h]
theorem Ur (k:Bs) (b:V):∀ {l:List (Bs×V)},l.Pairwise (fun a b=>a.1<b.1)→(∀ p,p∈setAux k b l false↔p=(k,b)∨p∈l∧p.1≠k)∧(setAux k b l false).Pairwise (fun a b=>a.1<b.1)
 |[],_=>⟨fun p=>by unfold setAux;simp,by unfold setAux;simp⟩
 |x::l,h=>by
  obtain ⟨h1,h2⟩:=List.pairwise_cons.1 h
  unfold setAux
  by_cases hx:x.1<k
  ·obtain ⟨i1,i2⟩:=Ur k b h2
   have hne:x.1≠k:=fun e=>by rw [e]at hx;exact List.lt_irrefl _ hx
   rw [decide_eq_true hx]
   simp only [Bool.not_true,Bool.and_false,Bool.false_eq_true,if_false,List.nil_append,Bool.or_false,if_pos hne,List.singleton_append]
   refine ⟨fun p=>?_,?_⟩
   ·rw [List.mem_cons,i1,List.mem_cons]
    constructor
    ·rintro (e|e|⟨e,f⟩)
     ·exact .inr ⟨.inl e,by rw [e];exact hne⟩
     ·exact .inl e
     ·exact .inr ⟨.inr e,f⟩
    ·rintro (e|⟨e|e,f⟩)
     ·exact .inr (.inl e)
     ·exact .inl e
     ·exact .inr (.inr ⟨e,f⟩)
   ·refine List.pairwise_cons.2 ⟨fun p hp=>?_,i2⟩
    rcases (i1 p).1 hp with e|⟨e,_⟩
    ·rw [e];exact hx
    ·exact h1 p e
  ·have hlt:∀ p∈l,k<p.1:=fun p hp=>by
    rcases zn x.1 k with q|q|q
    ·exact absurd q hx
    ·rw [← q];exact h1 p hp
    ·exact List.lt_trans q (h1 p hp)
   rw [decide_eq_false hx]
   simp only [Bool.not_false,Bool.and_true,if_true,Bool.or_true,List.singleton_append]
   rw [KU]
   have hf:(l.filter fun x=>decide (x.1≠k))=l:=List.filter_eq_self.2 fun p hp=>decide_eq_true fun e=>by
    have:=hlt p hp
    rw [e]at this
    exact List.lt_irrefl _ this
   rw [hf]
   by_cases e:x.1=k
   ·rw [if_neg (fun q=>q e),List.nil_append]
    refine ⟨fun p=>?_,List.pairwise_cons.2 ⟨hlt,h2⟩⟩
    rw [List.mem_cons,List.mem_cons]
    constructor
    ·rintro (q|q)
     ·exact .inl q
     ·exact .inr ⟨.inr q,fun z=>by have:=hlt p q;rw [z]at this;exact List.lt_irrefl _ this⟩
    ·rintro (q|⟨q|q,f⟩)
     ·exact .inl q
     ·exact absurd (by rw [q];exact e) f
     ·exact .inr q
   ·rw [if_pos e]
    have hkx:k<x.1:=by
     rcases zn x.1 k with q|q|q
     ·exact absurd q hx
     ·exact absurd q e
     ·exact q
    refine ⟨fun p=>?_,List.pairwise_cons.2 ⟨fun p hp=>?_,List.pairwise_cons.2 ⟨h1,h2⟩⟩⟩
    ·rw [List.mem_cons,List.mem_cons,List.singleton_append]at *
     rw [List.mem_cons]
     constructor
     ·rintro (q|q|q)
      ·exact .inl q
      ·exact .inr ⟨.inl q,by rw [q];exact e⟩
      ·exact .inr ⟨.inr q,fun z=>by have:=hlt p q;rw [z]at this;exact List.lt_irrefl _ this⟩
     ·rintro (q|⟨q|q,f⟩)
      ·exact .inl q
      ·exact .inr (.inl q)
      ·exact .inr (.inr q)
    ·rcases List.mem_cons.1 hp with q|q
     ·rw [q];exact hkx
     ·exact hlt p q
theorem Us {l:List (Bs×V)} (h:Lists m l):Lists (put m k v) (setAux k v l false):=by
 obtain ⟨h1,h2⟩:=Ur k v h.rise
 refine ⟨h2,fun k' v'=>?_⟩
 rw [h1,h.mem]
 unfold put
 constructor
 ·rintro (e|⟨e,f⟩)
  ·rw [if_pos (congrArg Prod.fst e)];exact congrArg some (congrArg Prod.snd e).symm
  ·rw [if_neg f];exact e
 ·intro e
  split at e
  ·rename_i hk
   exact .inl (by rw [hk,← Option.some.inj e])
  ·rename_i hk
   exact .inr ⟨e,hk⟩
theorem YQ {l:List (Bs×V)} (h:Lists m l) (b:V):Lists (del m k) (setAux k b l true):=by
 rw [KU]
 refine ⟨h.rise.sublist List.filter_sublist,fun k' v'=>?_⟩
 rw [List.mem_filter,h.mem]
 unfold del
 constructor
 ·rintro ⟨e,f⟩
  rw [if_neg (by simpa using f)];exact e
 ·intro e
  split at e
  ·cases e
  ·rename_i hk
   exact ⟨e,by simpa using hk⟩
end
end Go.Tab
namespace Go.Seg
open Go.aB
open Go.ak (Bs aX encs jd)
section
variable {K r:Nat}{L:Log}{M:aB}
end
end Go.Seg
namespace Go.Rep
open Go.ak (Bs aX jd)
open Go.Seg (bF)
open Go.Tab
end Go.Rep
namespace Go.Seg
open Go.aB
open Go.ak (Bs aX encs jd)
open Go.Rep
section
variable {K r E B n:Nat}{L:Log}{M:aB}{C:List (List aX)}{k:Bs}{pl:bF}
theorem Rp.got (h:Rp K r E B n L M C) (hk:jc (iD 0 C) k=some pl):∃ data,L.read M pl=(⟨0,k,data⟩,0)∧o7 C.flatten k=some data∧data.length≤16384∧(-9223372036854775808≤pl.at_∧pl.at_≤9223372036854775807)∧(-9223372036854775808≤pl.size∧pl.size≤9223372036854775807)∧k.length=32:=by
 obtain ⟨q,hq,e1,e2,e3,e4⟩:=acn hk
 obtain ⟨r1,r2,r3,r4⟩:=h.row hq
 rw [KG]at e4
 obtain ⟨s,⟨⟨tag,key,data⟩,at_,size⟩⟩:=q
 obtain rfl:tag=0:=e2
 obtain rfl:key=k:=e3
 refine ⟨data,by rw [← e1];exact r1,e4,?_,?_,?_,r2.2⟩
 ·rcases ak.Ea (ak.OY r2.1).1 with ⟨_,q⟩|⟨q,_⟩|⟨q,_⟩
  ·exact q
  ·cases q
  ·cases q
 ·rw [← e1]
  show -9223372036854775808≤(at_:Int)∧(at_:Int)≤9223372036854775807
  have:(at_:Int)≤4294967296:=r4
  omega
 ·rw [← e1]
  show -9223372036854775808≤(size:Int)∧(size:Int)≤9223372036854775807
  have:(size:Int)≤4294967296:=r3
  omega
theorem ZX (hk:k.length=32) (d:Bs) (hd:d.length≤300):(ak.encode ⟨0,k,d⟩).2=0:=U5 (d:=⟨0,k,d⟩) hk hd
theorem ZV (hk:k.length=32):(ak.encode ⟨1,k,[]⟩).2=0:=U5 (d:=⟨1,k,[]⟩) hk (Nat.zero_le _)
end
end Go.Seg
