import Derived.Test.YtadhomdmbcldkaaGreatDoorJ8
import Derived.Lib.ConvBytes
import Derived.ArgAppend
import Derived.Laws.BitsAllLaws
set_option linter.unusedSimpArgs false
open Go.Proofs.Tryz
set_option maxRecDepth 20000
set_option linter.unusedVariables false
set_option maxHeartbeats 128000000
open Go Go.Sl Go.MapKept Go.RowKit
open Go.Proofs.YtadhomdmbcldkaaGreatDoor Go.Proofs.Y
variable {w w0:World}{v bv rv:Value}{F:List aF}{n p sz c k:Nat}{P:Program}{l:ak.Bs}{ops:Array Oper}{rest:List Oper}{a:Act}{Q:Exit->Act->World->Prop}{dst:Option Tmp}{ty:TypeId}{after:Array Edge}{x y:Operand}
theorem zA0{p:Prop} (h:p:=by rw [lV _ H1.o.key];kernel_rfl):p:=h
namespace Go.aA
open Go.ak
section
variable {s t:ByteArray}{b b1 b2:Bs}{K r:Nat}{M M':ak}{n:Int}
theorem uF (q:Quiet M):(M.all t).2=0↔∃ i,bH M.now t=some i:=by
 cases h:bH M.now t with
 |none=>rw [Seg.all_none q h];simp
 |some i=>rw [Seg.all_some q h];simp
structure Wr (s:ByteArray) (b:Bs) (K r:Nat) (M:ak) (R:ak×Int):Prop where
 calm:Seg.Calm K r R.1
 tmp:bH R.1.now aA.tmp=none
 len:R.1.now.length<=M.now.length+1
 used:R.1.used<=M.used+b.length
 other:∀ t,t≠aA.tmp->t≠s->R.1.all t=M.all t
 names:∀ p∈R.1.now,p∈M.now\/p.1=s
 done:R.2=0/\R.1.all s=(b,0)\/R.2=11/\R.1.now=M.now/\∀ t,R.1.all t=M.all t
 room:M.used+b.length<=r->R.2=0
theorem IZ (h:Seg.Calm K r M) (ht:bH M.now tmp=none) (hl:M.now.length<500) (hg:good s=true) (hst:s≠tmp):Wr s b (K+5) r M (write M s b):=by
 have e0:oK M=(M,0):=by unfold oK;rw [Um h.quiet ht];rfl
 obtain ⟨c1,c2,c3,c4,c5⟩:=Seg.Xn h ahy ht hl;have hc:=h.create tmp;have hi:bH (M.create tmp).1.now tmp=some M.files.length:=by rw [c2];exact Seg.RG h.ok.fU.oM _ _
 have hroom:(M.create tmp).1.room=r:=hc.room;have hw:write M s b=fill (M.create tmp).1 s b:=by
  unfold write;rw [e0,adU rfl];show (if (M.create tmp).2=0 then _ else _)=_;rw [adU c1]
 rw [hw];have hse:s≠ByteArray.empty:=tu hg;rcases Seg.OJ hc.quiet tmp b with ⟨a1,_⟩|⟨j,a1,⟨a2,a3⟩|⟨a2,a3⟩⟩
 ·rw [hi]at a1;cases a1
 ·have hr:=Seg.abu hc.quiet hi;have hrc:=hc.remove tmp;have hf:fill (M.create tmp).1 s b=(((M.create tmp).1.remove tmp).1,11):=by
   have f1:((M.create tmp).1.append tmp b).2=11:=by rw [a3]
   have f2:((M.create tmp).1.append tmp b).1=(M.create tmp).1:=by rw [a3]
   unfold fill;rw [abL (by rw [f1];decide),adU f1,f2,adU (by rw [hr])]
  have ha:Seg.Alike M ((M.create tmp).1.remove tmp).1:=by
   rcases Seg.Pn h.quiet tmp with ⟨q1,_⟩|⟨_,hn,_,c⟩
   ·exact absurd c1 q1
   rw [hr,c];refine ⟨?_,rfl,rfl,λp hp=>?_⟩
   ·show gU.on ⟨tmp,ByteArray.empty,0⟩ (jR M.now tmp M.files.length)=M.now;unfold gU.on;simp only [abL Un,apc];exact Seg.aaA hn
   ·have:=h.ok.fU.ids p hp;simp only [ak.file,ak.link,adV];rw [aek this]
  rw [hf];refine ⟨hrc.mono oQ,by rw [ha.now];exact ht,by show _<=_;rw [ha.now];omega,by show _<=_;rw [ha.used];omega,λt _ _=>ha.all t,λp hp=> .inl (by rw [<-ha.now];exact hp),.inr ⟨rfl,ha.now,ha.all⟩,λhh=>?_⟩;exfalso;rw [c3,hroom]at a2;omega
 ·obtain ⟨b1,b2,b3,b4,b5⟩:=Seg.Wq hc hi b oQ;have ha:=hc.append tmp b;have hi2:bH ((M.create tmp).1.append tmp b).1.now tmp=some M.files.length:=by rw [b2];exact hi
  have es:=ha.quiet.acR hi2;have hsy:=ha.sync tmp;have hs0:(((M.create tmp).1.append tmp b).1.sync tmp).2=0:=by rw [es]
  have hal:=Seg.am7 ha.ok ha.quiet tmp;have hi3:bH (((M.create tmp).1.append tmp b).1.sync tmp).1.now tmp=some M.files.length:=by rw [hal.now];exact hi2
  have hre:=Seg.Calm.rename hsy tmp s;have er:(((M.create tmp).1.append tmp b).1.sync tmp).1.rename tmp s=((((M.create tmp).1.append tmp b).1.sync tmp).1.link ⟨tmp,s,M.files.length⟩,0):=by
   unfold ak.rename;rw [hsy.quiet.off,hsy.quiet.step,hi3,hg];simp
  have hf:fill (M.create tmp).1 s b=(((M.create tmp).1.append tmp b).1.sync tmp).1.rename tmp s:=by
   unfold fill;rw [adU b1,adU hs0]
  rw [hf];have hall:∀ t,(((M.create tmp).1.append tmp b).1.sync tmp).1.all t=((M.create tmp).1.append tmp b).1.all t:=hal.all;have Qz:(((M.create tmp).1.append tmp b).1.sync tmp).1.now=jR M.now tmp M.files.length:=by rw [hal.now,b2,c2]
  have hu0:(((M.create tmp).1.append tmp b).1.sync tmp).1.used=M.used+b.length:=by rw [hal.used,b3,c3]
  have hgt:(((M.create tmp).1.append tmp b).1.sync tmp).1.all tmp=(b,0):=by rw [hall,b4,c4];rfl
  have hot:∀ t,t≠tmp->(((M.create tmp).1.append tmp b).1.sync tmp).1.all t=M.all t:=λt h1=>by rw [hall,b5 t h1,c5 t h1]
  generalize (((M.create tmp).1.append tmp b).1.sync tmp).1=M2 at *
  have vO:(M2.rename tmp s).1.now=jR (dS (jR M.now tmp M.files.length) tmp) s M.files.length:=by
   rw [er];show gU.on _ M2.now=_;rw [Qz];unfold gU.on;simp only [abL Un,abL hse]
  rw [Seg.aaA ht]at vO;have x9:(M2.rename tmp s).1.file=M2.file:=by rw [er];rfl
  have hq:=hre.quiet;refine ⟨hre.mono oQ,?_,?_,?_,λt h1 h2=>?_,λp hp=>?_,.inl ⟨by rw [er],?_⟩,λ_=>by rw [er]⟩
  ·rw [vO,Seg.KU (Ne.symm hst)];exact ht
  ·rw [vO];exact aaM _ _ _
  ·rw [<-hu0];show ((M2.rename tmp s).1.now.map λp=>((M2.rename tmp s).1.file p.2).now.length).sum<=(M2.now.map λp=>(M2.file p.2).now.length).sum;rw [vO,x9,Qz];rw [IB _ _ _ (λj=>(M2.file j).now.length),IB _ _ _ (λj=>(M2.file j).now.length),CJ ht];have h2:=MF M.now s (λj=>(M2.file j).now.length);omega
  ·have e1:bH (M2.rename tmp s).1.now t=bH M.now t:=by rw [vO,Seg.KU h2]
   have e2:bH M2.now t=bH M.now t:=by rw [Qz,Seg.KU h1]
   rw [<-hot t h1];cases hj:bH M.now t with
   |none=>rw [hj]at e1 e2;rw [Seg.all_none hq e1,Seg.all_none hsy.quiet e2]
   |some j=>rw [hj]at e1 e2;rw [Seg.all_some hq e1,Seg.all_some hsy.quiet e2,x9]
  ·rw [vO]at hp;rcases ad9.1 ((wU _ _ _).mem_iff.1 hp) with rfl|hp
   ·exact .inr rfl
   ·exact .inl (aex.1 hp).1
  ·have e1:bH (M2.rename tmp s).1.now s=some M.files.length:=by rw [vO];exact Seg.RG h.ok.fU.oM _ _
   rw [Seg.all_some hq e1,x9];rw [Seg.all_some hsy.quiet hi3]at hgt;exact hgt
theorem LG (h:Seg.Calm K r M){i:Nat} (hi:bH M.now s=some i):(M.remove s).2=0/\(M.remove s).1.now=dS M.now s/\(∀ t,t≠s->(M.remove s).1.all t=M.all t)/\(M.remove s).1.used<=M.used:=by
 have hr:=Seg.abu h.quiet hi;have hc:=h.remove s;have hse:s≠ByteArray.empty:=λe=>h.ok.fU.ne _ (ji hi) e;have vO:(M.remove s).1.now=dS M.now s:=by
  rw [hr];show gU.on ⟨s,ByteArray.empty,0⟩ M.now=_;unfold gU.on;simp only [abL hse,apc]
 have x9:(M.remove s).1.file=M.file:=by rw [hr];rfl
 refine ⟨by rw [hr],vO,λt ht=>?_,?_⟩
 ·have e1:bH (M.remove s).1.now t=bH M.now t:=by rw [vO,Seg.KR ht]
  cases hj:bH M.now t with
  |none=>rw [hj]at e1;rw [Seg.all_none hc.quiet e1,Seg.all_none h.quiet hj]
  |some j=>rw [hj]at e1;rw [Seg.all_some hc.quiet e1,Seg.all_some h.quiet hj,x9]
 ·show ((M.remove s).1.now.map λp=>((M.remove s).1.file p.2).now.length).sum<=(M.now.map λp=>(M.file p.2).now.length).sum;rw [vO,x9];exact MF M.now s (λj=>(M.file j).now.length)
structure Sw (p:ByteArray->Bool) (K r:Nat) (l:List ByteArray) (M:ak) (R:ak×Int):Prop where
 zero:R.2=0
 calm:Seg.Calm K r R.1
 sub:∀ q∈R.1.now,q∈M.now
 len:R.1.now.length<=M.now.length
 used:R.1.used<=M.used
 other:∀ t,p t=false->R.1.all t=M.all t
 gone:∀ q∈R.1.now,q.1∈l->p q.1=false
theorem MJ {p:ByteArray->Bool}:∀ (l:List ByteArray) (K:Nat) (M:ak),Seg.Calm K r M->l.Nodup->(∀ f∈l,∃ i,bH M.now f=some i)->Sw p (K+l.length) r l M (sweep p l M)
 |[],K,M,h,_,_=>⟨rfl,h,λq hq=>hq,ab1 _,ab1 _,λ_ _=>rfl,λ_ _ hl=>by cases hl⟩
 |f::l,K,M,h,hd,hh=>by
  obtain ⟨d1,d2⟩:=aoC.1 hd;unfold sweep;split
  ·rename_i hp;obtain ⟨i,hi⟩:=hh f (.head _);obtain ⟨r1,r2,r3,r4⟩:=LG h hi;rw [adU r1]
   have hs:=MJ (p:=p) l (K+1) (M.remove f).1 (h.remove f) d2 (λg hg=>by
    rw [r2,Seg.KR (λe=>d1 (by rw [<-e];exact hg))];exact hh g (.tail _ hg))
   refine ⟨hs.zero,hs.calm.mono (by rw [aev];omega),λq hq=>?_,adT hs.len (by rw [r2];exact wO M.now f),adT hs.used r4,λt ht=>?_,λq hq hl=>?_⟩
   ·have:=hs.sub q hq;rw [r2]at this;exact (aex.1 this).1
   ·rw [hs.other t ht,r3 t (λe=>by rw [e,hp]at ht;cases ht)]
   ·rcases ad9.1 hl with e|hl
    ·have:=hs.sub q hq;rw [r2]at this;have:=(aex.1 this).2;rw [e]at this;simp [bne,mM]at this
    ·exact hs.gone q hq hl
  ·rename_i hp;have hs:=MJ (p:=p) l K M h d2 (λg hg=>hh g (.tail _ hg));refine ⟨hs.zero,hs.calm.mono (by rw [aev];omega),hs.sub,hs.len,hs.used,hs.other,λq hq hl=>?_⟩;rcases ad9.1 hl with e|hl
   ·rw [e];simpa using hp
   ·exact hs.gone q hq hl
theorem aaL (h:Seg.Calm K r M):(M.now.map (·.1)).Nodup:=h.ok.fU.oM.keys
structure Svd (n:Int) (b1 b2:Bs) (K r:Nat) (M:ak) (R:ak×Int):Prop where
 calm:Seg.Calm K r R.1
 tmp:bH R.1.now aA.tmp=none
 len:R.1.now.length<=M.now.length+2
 used:R.1.used<=M.used+b1.length+b2.length
 other:∀ t,t≠aA.tmp->t≠name idx n->t≠name use n->other n t=false->R.1.all t=M.all t
 names:∀ p∈R.1.now,p∈M.now\/p.1=name idx n\/p.1=name use n
 done:R.2=0/\R.1.all (name idx n)=(b1,0)/\R.1.all (name use n)=(b2,0)\/R.2=11
 room:M.used+b1.length+b2.length<=r->R.2=0
 gone:R.2=0->∀ p∈R.1.now,aA.other n p.1=false
theorem acv (h:Seg.Calm K r M) (ht:bH M.now tmp=none) (hl:M.now.length<=480) (h1:0<=n) (h2:n<1048576):Svd n b1 b2 (K+600) r M (save M n b1 b2):=by
 have g1:=G9 (ld:=idx) rfl aG n h1 h2;have g2:=G9 (ld:=use) rfl aG n h1 h2;have n1:=Zx n h1 h2;have n2:=ado n h1 h2;have ne:=Eo n h1 h2;have o1:other n (name idx n)=false:=aa2 (wV (.inl Cj) n h1 h2);have o2:other n (name use n)=false:=aa2 (wV (.inr IL) n h1 h2);have w1:=IZ (b:=b1) h ht oQ g1 n1;unfold save;by_cases c1:(write M (name idx n) b1).2=0;rotate_left
 ·rw [abL c1];have e11:(write M (name idx n) b1).2=11:=by
   rcases w1.done with ⟨e,_⟩|⟨e,_⟩
   ·exact absurd e c1
   ·exact e
  exact ⟨w1.calm.mono oQ,w1.tmp,by have:=w1.len;omega,by have:=w1.used;omega,λt a b _ _=>w1.other t a b,λp hp=>(w1.names p hp).imp id .inl,.inr e11,λhh=>w1.room oQ,λe=>absurd e c1⟩
 rw [adU c1];have a1:(write M (name idx n) b1).1.all (name idx n)=(b1,0):=by
  rcases w1.done with ⟨_,e⟩|⟨e,_⟩
  ·exact e
  ·rw [e]at c1;cases c1
 have w2:=IZ (b:=b2) w1.calm w1.tmp (by have:=w1.len;omega) g2 n2;unfold TU;generalize hM1:(write M (name idx n) b1).1=M1 at *
 by_cases c2:(write M1 (name use n) b2).2=0;rotate_left
 ·rw [abL c2];have e11:(write M1 (name use n) b2).2=11:=by
   rcases w2.done with ⟨e,_⟩|⟨e,_⟩
   ·exact absurd e c2
   ·exact e
  refine ⟨w2.calm.mono oQ,w2.tmp,?_,?_,λt a b c _=>?_,λp hp=>?_,.inr e11,λhh=>?_,λe=>absurd e c2⟩
  ·have:=w1.len;have:=w2.len;rw [hM1]at *;omega
  ·have:=w1.used;have:=w2.used;rw [hM1]at *;omega
  ·have:=w1.other t a b;rw [hM1]at this;rw [w2.other t a c,this]
  ·rcases w2.names p hp with q|q
   ·have:=w1.names p (by rw [hM1];exact q);exact this.imp id .inl
   ·exact .inr (.inr q)
  ·have:=w1.used;rw [hM1]at this;exact w2.room oQ
 rw [adU c2];have a2:(write M1 (name use n) b2).1.all (name use n)=(b2,0):=by
  rcases w2.done with ⟨_,e⟩|⟨e,_⟩
  ·exact e
  ·rw [e]at c2;cases c2
 have a3:(write M1 (name use n) b2).1.all (name idx n)=(b1,0):=by rw [w2.other _ n1 ne,a1]
 generalize hM2:(write M1 (name use n) b2).1=M2 at *
 have k2:Seg.Calm (K+5+5) r M2:=by have:=w2.calm;rw [hM2]at this;exact this
 have hd:=k2.quiet.Uj;have hds:=k2.dH;unfold TV;rw [adU (by rw [hd])];have hz:M2.dH.1.now=M2.now:=by rw [hd]
 have hu:M2.dH.1.used=M2.used:=by rw [hd];rfl
 have hall:∀ t,M2.dH.1.all t=M2.all t:=λt=>by rw [hd];rfl
 generalize M2.dH.1=M3 at *
 have qM:M3.list=M3.now.map (·.1):=hds.quiet.list
 have hs:=MJ (p:=other n) M3.list (K+5+5) M3 hds (by rw [qM];exact aaL hds) (λf hf=>by
  rw [qM]at hf;obtain ⟨p,hp,rfl⟩:=adu.1 hf;exact ⟨p.2,Ep hds.ok.fU.oM.keys (show (p.1,p.2)∈M3.now from hp)⟩)
 have hlen:M3.list.length<=500:=by rw [qM,abl];exact hds.ok.fU.len
 refine ⟨hs.calm.mono oQ,?_,?_,?_,λt a b c d=>?_,λp hp=>?_,.inl ⟨hs.zero,?_,?_⟩,λ_=>hs.zero,λ_ p hp=>hs.gone p hp (by rw [qM];exact adu.2 ⟨p,hs.sub p hp,rfl⟩)⟩
 ·cases hi:bH (sweep (other n) M3.list M3).1.now tmp with
  |none=>rfl
  |some i=>
   have q:=hs.sub _ (ji hi);have:=Ep hds.ok.fU.oM.keys q;rw [hz]at this;have e:=w2.tmp;rw [hM2,this]at e;cases e
 ·have:=hs.len;have:=w1.len;have:=w2.len;rw [hM1]at *;rw [hM2]at *;rw [hz]at *;omega
 ·have:=hs.used;have:=w1.used;have:=w2.used;rw [hM1]at *;rw [hM2]at *;omega
 ·have e1:=w1.other t a b;have e2:=w2.other t a c;rw [hM1]at e1;rw [hM2]at e2;rw [hs.other t d,hall,e2,e1]
 ·have q:=hs.sub p hp;rw [hz]at q;rcases w2.names p (by rw [hM2];exact q) with q|q
  ·have:=w1.names p (by rw [hM1];exact q);exact this.imp id .inl
  ·exact .inr (.inr q)
 ·rw [hs.other _ o1,hall,a3]
 ·rw [hs.other _ o2,hall,a2]
end
end Go.aA
namespace Go.aO
open Go.aj (Bs le num iE CP)
structure Rw where
 key:Bs
 nums:List Int
def jk (ns:List Int):Bs:=ns.flatMap λn=>le n.toNat 4
def rowB (kd:Bool) (r:Rw):Bs:=(if kd then r.key else [])++jk r.nums
def jL (kd:Bool) (l:List Rw):Bs:=l.flatMap (rowB kd)
def body (mg:Bs) (kd:Bool) (l:List Rw):Bs:=mg++le l.length 4++jL kd l
def book (X:Bs->Nat) (mg:Bs) (kd:Bool) (l:List Rw):Bs:=body mg kd l++le (X (body mg kd l)) 8
structure yY (k:Nat) (r:Rw):Prop where
 key:r.key.length=32
 len:r.nums.length=k
 num:∀ n∈r.nums,0<=n/\n<=4294967295
def ahead (kd:Bool) (a b:Rw):Prop:=if kd then a.key<b.key else a.nums.getD 0 0<b.nums.getD 0 0
instance (kd:Bool) (a b:Rw):Decidable (ahead kd a b):=by unfold ahead;infer_instance
def V4 (kd:Bool) (l:List Rw):Prop:=∀ i a b,l[i]?=some a->l[i+1]?=some b->ahead kd a b
structure Ok (k:Nat) (kd:Bool) (l:List Rw):Prop where
 len:l.length<=65536
 row:∀ r∈l,yY k r
 rise:V4 kd l
section
variable {X:Bs->Nat}{mg:Bs}{kd:Bool}{l:List Rw}{r:Rw}{k i:Nat}{n:Int}{ns:List Int}
theorem aaW:jk []=[]:=rfl
theorem RZ (n:Int) (ns:List Int):jk (n::ns)=le n.toNat 4++jk ns:=rfl
theorem aj1 (a b:List Int):jk (a++b)=jk a++jk b:=by unfold jk;rw [aeB]
theorem aaV (ns:List Int):(jk ns).length=4*ns.length:=by
 induction ns with
 |nil=>rfl
 |cons n ns ih=>rw [RZ,aa7,iE,ih,aev];omega
theorem Tt:jL kd []=[]:=rfl
theorem Tn (r:Rw) (l:List Rw):jL kd (r::l)=rowB kd r++jL kd l:=rfl
theorem alC (a b:List Rw):jL kd (a++b)=jL kd a++jL kd b:=by unfold jL;rw [aeB]
def kM (kd:Bool) (k:Nat):Nat:=4*k+if kd then 32 else 0
theorem alB (h:yY k r):(rowB kd r).length=kM kd k:=by
 unfold rowB kM;rw [aa7,aaV,h.len];cases kd
 ·simp
 ·rw [adU rfl,adU rfl,h.key];omega
theorem Tq:∀ (l:List Rw),(∀ r∈l,yY k r)->(jL kd l).length=l.length*kM kd k
 |[],_=>by simp [Tt]
 |r::l,h=>by
  rw [Tn,aa7,alB (h r (.head _)),Tq l (λx hx=>h x (.tail _ hx)),aev,aoH];omega
theorem DY (hm:mg.length=8) (h:∀ r∈l,yY k r):(body mg kd l).length=12+l.length*kM kd k:=by
 unfold body;rw [aa7,aa7,hm,iE,Tq l h]
theorem JC (hm:mg.length=8) (h:∀ r∈l,yY k r):(book X mg kd l).length=20+l.length*kM kd k:=by
 unfold book;rw [aa7,DY hm h,iE];omega
theorem LP (hk:k<=3):kM kd k<=44:=by unfold kM;split <;> omega
theorem afS (hm:mg.length=8) (hk:k<=3) (h:Ok k kd l):(body mg kd l).length<=3000000:=by
 rw [DY hm h.row];have h1:=h.len;have h2:l.length*kM kd k<=65536*44:=apu h1 (LP hk);omega
theorem aaP (h:0<=n/\n<=4294967295):num (le n.toNat 4)=n.toNat:=by
 refine CP 4 _ ?_;have:(256:Nat)^4=4294967296:=by decide
 rw [this];omega
theorem Ul (x:Nat) (t:Bs):(le x 4++t).take 4=le x 4:=by rw [aeT (by rw [iE];omega),adZ (by rw [iE];omega)]
theorem JH (x:Nat) (t:Bs):(le x 4++t).drop 4=t:=by
 rw [apM,iE,aeI (by rw [iE];omega),aph,apP,aeV]
theorem XE {α:Type}{l:List α}{x:α} (h:l[i]?=some x):l.drop i=x::l.drop (i+1):=by
 obtain ⟨hi,rfl⟩:=acZ.1 h;exact agf hi
theorem lX {α:Type}{l:List α}{x:α} (h:l[i]?=some x):l.take (i+1)=l.take i++[x]:=by
 obtain ⟨hi,rfl⟩:=acZ.1 h;exact afB hi
theorem alD (h:l[i]?=some r):jL kd (l.take (i+1))=jL kd (l.take i)++rowB kd r:=by
 rw [lX h,alC,Tn,Tt,aei]
theorem aj2 {j:Nat} (h:ns[j]?=some n):jk (ns.take (j+1))=jk (ns.take j)++le n.toNat 4:=by
 rw [lX h,aj1,RZ,aaW,aei]
theorem abV (h:l[i]?=some r):jL kd (l.drop i)=rowB kd r++jL kd (l.drop (i+1)):=by rw [XE h,Tn]
theorem aaU {j:Nat} (h:ns[j]?=some n):jk (ns.drop j)=le n.toNat 4++jk (ns.drop (j+1)):=by rw [XE h,RZ]
def uP:Bs:=[72,79,65,82,68,73,68,88]
def uS:Bs:=[72,79,65,82,68,85,83,69]
end
end Go.aO
namespace Go.Proofs.Y
open Go.ak
def msl (T sz:Nat) (v:Value) (xs:List Value):aF:=λh=>
 ∃ b n cap cs m,v=.slice (some ⟨b,0,none⟩) n cap/\xs.length=n*sz/\n<=cap/\cap*sz<=cs.size/\cap<=maxLen/\cs.toList.take (n*sz)=xs/\cs.size<=m/\pt b (.cells cs T (m,m+1)) h
def y7 (T sz:Nat) (v:Value) (xs:List Value):aF:=λh=>aC T sz v xs h\/msl T sz v xs h
abbrev jl (v:Value) (l:aj.Bs):aF:=y7 5 1 v (aB l)
section
variable {R:List aF}{T b:Nat}{x:Value}{xs ys:List Value}{fr:Nat×Nat}
theorem O9 {cs:Array Value}{T:TypeId} (h:Sat w0 w (pt b (.cells cs T fr)::R)) (i:Nat) (v:Value) (hv:cs[i]?=some v):w.cell? ⟨b,i,none⟩=some v:=by
 have:=h.at;simp [World.cell?,this,hv]
theorem ahk {cs:Array Value}{T:TypeId}{m:Nat} (h:Sat w0 w (pt b (.cells cs T (m,m+1))::R)) (i:Nat) (hi:i<m):w.frozen? ⟨b,i,none⟩=false:=by
 have:=h.at;simp [World.frozen?,this];omega
theorem amE {cs:Array Value}{T:TypeId} (h:Sat w0 w (pt b (.cells cs T fr)::R)) (i:Nat) (v:Value):Sat w0 (w.setCell ⟨b,i,none⟩ v) (pt b (.cells (cs.setIfInBounds i v) T fr)::R):=by
 have hb:=h.at;have hlt:=h.lt;refine h.turn rfl rfl rfl yF0 ?_ ?_
 ·simp only [World.setCell,anQ,apc,hb];simp
 ·intro j hj _;simp only [World.setCell,anQ];rw [abL (Ne.symm hj)]
theorem acF:∀ (vs:List Value){cs:Array Value}{T:TypeId}{w:World} (o:Nat),Sat w0 w (pt b (.cells cs T fr)::R)->Sat w0 (w.setCells b o vs) (pt b (.cells (eH cs o vs) T fr)::R)
 |[],_,_,_,_,h=>h
 |v::r,_,_,_,o,h=>acF r (o+1) (amE h o v)
theorem OL (h:Sat w0 w (y7 T sz v xs::R)):Sat w0 w (aC T sz v xs::R)\/∃ b n cap cs m,v=.slice (some ⟨b,0,none⟩) n cap/\xs.length=n*sz/\n<=cap/\cap*sz<=cs.size/\cap<=maxLen/\cs.toList.take (n*sz)=xs/\cs.size<=m/\Sat w0 w (pt b (.cells cs T (m,m+1))::R):=by
 obtain ⟨ha,x,hx,p,q,d,rfl,hp,hq⟩:=h;rcases hp with hp|⟨b,n,cap,cs,m,h1,h2,h3,h4,h5,h6,h7,h8⟩
 ·exact .inl ⟨ha,_,hx,p,q,d,rfl,hp,hq⟩
 ·exact .inr ⟨b,n,cap,cs,m,h1,h2,h3,h4,h5,h6,h7,ha,_,hx,p,q,d,rfl,h8,hq⟩
theorem Wu (h:Sat w0 w (aC T sz v xs::R)):Sat w0 w (y7 T sz v xs::R):=h.head λ_ hx=> .inl hx
theorem Wv {n cap m:Nat}{cs:Array Value} (h:Sat w0 w (pt b (.cells cs T (m,m+1))::R)) (h2:xs.length=n*sz) (h3:n<=cap) (h4:cap*sz<=cs.size) (h5:cap<=maxLen) (h6:cs.toList.take (n*sz)=xs) (h7:cs.size<=m):Sat w0 w (y7 T sz (.slice (some ⟨b,0,none⟩) n cap) xs::R):=
 h.head λ_ hx=> .inr ⟨b,n,cap,cs,m,rfl,h2,h3,h4,h5,h6,h7,hx⟩
theorem OM (h:Sat w0 w (y7 T sz v xs::R)):aW sz v xs w:=by
 rcases OL h with h|⟨b,n,cap,cs,m,rfl,hl,hn,hc,hcm,htk,hm,hp⟩
 ·exact Sat.rd h
 ·exact ⟨_,n,cap,rfl,hl,λj y hj=>⟨_,rfl,by rw [sO];exact O9 hp j y (lX htk hj)⟩⟩
theorem afp (h:Sat w0 w R) (e:TypeId) (s:ByteArray) (l:aj.Bs) (hs:s.data.toList=l) (hl:l.length<=1073741824):Sat w0 (Lib.bytesWorld w e s) (y7 e 1 (.slice (some ⟨w.heap.size,0,none⟩) s.size (grownCap w s.size 0 e)) (aB l)::R):=by
 have h1:=(h.drew).alloc (.cells (Lib.bytesCells w e s) e);have hsz:s.size=l.length:=by rw [<-hs];exact ad6.symm
 have hge:=grownCap_ge w s.size 0 e;have hcm:=grownCap_le_maxLen w s.size 0 e (by have:maxLen=9223372036854775807:=rfl;omega);have hcs:(Lib.bytesCells w e s).size=grownCap w s.size 0 e:=by
  unfold Lib.bytesCells;rw [Array.size_append,Array.size_map,Array.size_replicate];have:s.data.size=s.size:=rfl;omega
 have h2:Sat w0 (Lib.bytesWorld w e s) (pt w.heap.size (.cells (Lib.bytesCells w e s) e ((Lib.bytesCells w e s).size,(Lib.bytesCells w e s).size+1))::R):=by
  refine h1.turn (w':=Lib.bytesWorld w e s) rfl rfl rfl ?_ (Lib.bytesWorld_at_new w e s) (λj hj _=>?_)
  ·rw [Lib.bytesWorld_size];exact Nat.le_of_eq (Array.size_push ..)
  ·unfold Lib.bytesWorld World.freeze;rw [abL aG];show (Array.modify _ _ _)[j]?=_;rw [anQ];exact abL (λe=>hj e.symm)
 refine Wv h2 ?_ hge (by rw [aeo,hcs];exact ab1 _) hcm ?_ (ab1 _)
 ·rw [aP,hsz,aeo]
 ·unfold Lib.bytesCells;rw [apy,aeo,aeT (by rw [ad6,Array.size_map];exact ab1 _),adZ (by rw [ad6,Array.size_map];exact ab1 _),Array.toList_map,hs]
  rfl
theorem alQ (t ty e:TypeId) (i:TypeInfo) (z:Value) (ht:P.underlying t=some (.slice e)) (hi:P.info? e=some i) (hz:i.zero=some z)
  (hs:i.size=sz) (hzs:z.cells.size=sz) (hsz:0<sz) (h1:∀ u∈ys,u.oneCell'=true) (hy0:ys≠[])
  (h:Sat w0 w (y7 e sz v xs::R)) (hx:aW sz x ys w) (h63:xs.length+ys.length<=maxLen) (hby:(xs.length+ys.length)*i.bytes<=140737488355328) :
  ∃ v' w',(Builtin.append_ #[t,t] ty #[v,x]).run P w=.ok v' w'/\Sat w0 w' (y7 e sz v' (xs++ys)::R):=by
 rcases OL h with h|⟨b,n,cap,cs,mk,rfl,hl,hn,hc,hcm,htk,hmk,hp⟩
 ·obtain ⟨v',w',hr,hS,_⟩:=ab6 (P:=P) t ty e i z ht hi hz hs hzs hsz h1 h hx h63 hby;exact ⟨v',w',hr,Wu hS⟩
 ·subst hs;obtain ⟨xa,m,c,rfl,hyl,vS⟩:=hx;have hle:∀ {p q:Nat},p=q*i.size->q<=p:=λ{p q} e=>by rw [e];exact Nat.le_mul_of_pos_right _ hsz
  have hm:=hle hyl;obtain ⟨ad,rfl⟩:∃ ad,xa=some ad:=by
   obtain ⟨y,hy⟩:∃ y,ys[0]?=some y:=by
    cases ys with
    |nil=>exact absurd rfl hy0
    |cons y _=>exact ⟨y,rfl⟩
   obtain ⟨b,hb,_⟩:=vS 0 y hy;exact ⟨b,hb⟩
  have hnews:∀ j u,ys[j]?=some u->w.cell? (ad.add j)=some u:=λj u hj=>by
   obtain ⟨b,hb,hx⟩:=vS j u hj;cases hb;exact hx
  have hnx:=hle hl;have h63':maxLen=9223372036854775807:=rfl;by_cases hroom:n+m<=cap
  ·have hfit:n*i.size+ys.length<=cs.size:=by
    rw [hyl,<-aoH];exact adT (aiI _ hroom) hc
   have hr:=run_append_room_cells (P:=P) w t ty e i ht hi b 0 n cap ad m c ys hyl hnews h1 hroom
    (λj hj=>by rw [aeE,O9 hp (n*i.size+j) _ (ajC (show n*i.size+j<cs.size by omega))];rfl)
    (λj hj=>by rw [aeE];exact ahk hp _ oQ)
   rw [aeE]at hr;refine ⟨_,_,hr,Wv (acF ys (n*i.size) hp) ?_ hroom (by rw [lC];exact hc) hcm ?_ (by rw [lC];exact hmk)⟩
   ·rw [aa7,hl,hyl,aoH]
   ·rw [mV _ _ _ hfit,htk];have e1:(n+m)*i.size=(xs++ys).length:=by rw [aa7,hl,hyl,aoH]
    rw [e1];exact List.take_left
  ·have holds:∀ j u,xs[j]?=some u->w.cell? ((⟨b,0,none⟩:Addr).add j)=some u:=λj u hj=>by
    rw [sO];exact O9 hp j u (lX htk hj)
   have Eh:(n+m)*i.bytes<=140737488355328:=adT (aiI _ oQ) hby;have hr:=run_append_grow (P:=P) w t ty e i z ht hi hz ⟨b,0,none⟩ n cap xs hl holds ad m c ys hyl hnews oQ oQ (growslice_fits oQ Eh);have hge:=grownCap_ge w (n+m) cap e;have hcm':=grownCap_le_maxLen w (n+m) cap e oQ;refine ⟨_,_,hr,Wu (Sat.kU ((hp.drop.drew).alloc (.cells (xs.toArray++ys.toArray++Builtin.zeroCells z.cells (grownCap w (n+m) cap e-(n+m))) e)) ?_ hge ?_ hcm' ?_)⟩
   ·rw [aa7,hl,hyl,aoH]
   ·simp only [Array.size_append,abA,size_zeroCells,hzs];rw [hl,hyl,<-aoH,<-aoH];exact aiI _ oQ
   ·simp only [apy,ad2];rw [<-ad2];have e1:(n+m)*i.size=(xs++ys).length:=by rw [aa7,hl,hyl,aoH]
    rw [e1];exact List.take_left
end
end Go.Proofs.Y
namespace Go.Xx
open Go.aj (Bs num le zL)
def W:Nat:=18446744073709551616
def p1:Nat:=11400714785074694791
def p2:Nat:=14029467366897019727
def p3:Nat:=1609587929392839161
def p4:Nat:=9650029242287828579
def p5:Nat:=2870177450012600261
def turn (x k:Nat):Nat:=(x*2^k%W) ||| (x/2^(64-k))
def lane (a w:Nat):Nat:=turn ((a+w*p2%W)%W) 31*p1%W
structure Ln where
 a:Nat
 b:Nat
 c:Nat
 d:Nat
def Ln.zero:Ln:=⟨(p1+p2)%W,p2,0,W-p1⟩
def Ln.lt (l:Ln):Prop:=l.a<W/\l.b<W/\l.c<W/\l.d<W
def strip (l:Ln) (b:Bs):Ln:=⟨lane l.a (num (b.take 8)),lane l.b (num ((b.drop 8).take 8)),lane l.c (num ((b.drop 16).take 8)),lane l.d (num ((b.drop 24).take 8))⟩
def kG:Nat->Ln->Bs->Ln×Bs
 |0,l,b=>(l,b)
 |n+1,l,b=>if 32<=b.length then kG n (strip l b) (b.drop 32) else (l,b)
def mix (x a:Nat):Nat:=((x ^^^ lane 0 a)*p1%W+p4)%W
def joined (l:Ln):Nat:=mix (mix (mix (mix ((((turn l.a 1+turn l.b 7)%W+turn l.c 12)%W+turn l.d 18)%W) l.a) l.b) l.c) l.d
def t8 (x w:Nat):Nat:=(turn (x ^^^ lane 0 w) 27*p1%W+p4)%W
def t4 (x w:Nat):Nat:=(turn (x ^^^ (w*p1%W)) 23*p2%W+p3)%W
def t1 (x:Nat) (c:UInt8):Nat:=turn (x ^^^ (c.toNat*p5%W)) 11*p1%W
def lW:Nat->Nat->Bs->Nat×Bs
 |0,x,b=>(x,b)
 |n+1,x,b=>if 8<=b.length then lW n (t8 x (num (b.take 8))) (b.drop 8) else (x,b)
def tail4 (x:Nat) (b:Bs):Nat×Bs:=if 4<=b.length then (t4 x (num (b.take 4)),b.drop 4) else (x,b)
def tail (x:Nat) (b:Bs):Nat:=(tail4 (lW b.length x b).1 (lW b.length x b).2).2.foldl t1 (tail4 (lW b.length x b).1 (lW b.length x b).2).1
def f1 (x:Nat):Nat:=(x ^^^ (x/8589934592))*p2%W
def f2 (x:Nat):Nat:=(x ^^^ (x/536870912))*p3%W
def f3 (x:Nat):Nat:=x ^^^ (x/4294967296)
def sum (b:Bs):Nat:=f3 (f2 (f1 (tail (((if 32<=b.length then joined (kG b.length Ln.zero b).1 else p5)+b.length)%W) (kG b.length Ln.zero b).2)))
theorem afb:0<W:=by decide
theorem mod_lt (x:Nat):x%W<W:=anD _ afb
theorem W64:W=2^64:=by decide
theorem Ai {a b:Nat} (ha:a<W) (hb:b<W):a ^^^ b<W:=by rw [W64]at *;exact Nat.xor_lt_two_pow ha hb
theorem div_lt {x:Nat} (k:Nat) (h:x<W):x/k<W:=ajq (aoG _ _) h
theorem GY (a w:Nat):lane a w<W:=mod_lt _
theorem adQ:Ln.zero.lt:=⟨mod_lt _,by decide,by decide,by decide⟩
theorem acQ (l:Ln) (b:Bs):(strip l b).lt:=⟨GY _ _,GY _ _,GY _ _,GY _ _⟩
theorem Yx:∀ (n:Nat) (l:Ln) (b:Bs),l.lt->(kG n l b).1.lt
 |0,l,b,h=>h
 |n+1,l,b,h=>by
  unfold kG;split
  ·exact Yx n _ _ (acQ l b)
  ·exact h
theorem anc (x w:Nat):t8 x w<W:=mod_lt _
theorem ana (x w:Nat):t4 x w<W:=mod_lt _
theorem am8 (x:Nat) (c:UInt8):t1 x c<W:=mod_lt _
theorem acT:∀ (n x:Nat) (b:Bs),x<W->(lW n x b).1<W
 |0,x,b,h=>h
 |n+1,x,b,h=>by
  unfold lW;split
  ·exact acT n _ _ (anc _ _)
  ·exact h
theorem ang (x:Nat) (b:Bs) (h:x<W):(tail4 x b).1<W:=by
 unfold tail4;split
 ·exact ana _ _
 ·exact h
theorem Yn:∀ (b:Bs) (x:Nat),x<W->b.foldl t1 x<W
 |[],x,h=>h
 |c::b,x,h=>Yn b _ (am8 _ _)
theorem acU (x:Nat) (b:Bs) (h:x<W):tail x b<W:=Yn _ _ (ang _ _ (acT _ _ _ h))
theorem agZ (x:Nat):f2 x<W:=mod_lt _
theorem ag0 {x:Nat} (h:x<W):f3 x<W:=Ai h (div_lt _ h)
theorem sum_lt (b:Bs):sum b<W:=ag0 (agZ _)
theorem Yw:∀ (n:Nat) (l:Ln) (b:Bs),(kG n l b).2.length<=b.length
 |0,l,b=>ab1 _
 |n+1,l,b=>by
  unfold kG;split
  ·exact adT (Yw n _ _) yM0
  ·exact ab1 _
theorem ahv {n:Nat}{l:Ln}{b:Bs} (hb:32<=b.length) (hn:b.length<=n):kG n l b=kG (n-32) (strip l b) (b.drop 32):=by
 obtain ⟨m,rfl⟩:∃ m,n=m+1:=⟨n-1,by omega⟩;have h:kG (m+1) l b=kG m (strip l b) (b.drop 32):=by
  conv=>lhs;unfold kG
  rw [adU hb]
 rw [h];exact Yv m (m+1-32) (strip l b) (b.drop 32) yM0 yM0
where
 Yv:∀ (n m:Nat) (l:Ln) (b:Bs),b.length<=n->b.length<=m->kG n l b=kG m l b
 |0,0,l,b,_,_=>rfl
 |0,m+1,l,b,h,_=>by
  have:¬ 32<=b.length:=oQ;unfold kG;rw [abL this]
 |n+1,0,l,b,_,h=>by
  have:¬ 32<=b.length:=oQ;unfold kG;rw [abL this]
 |n+1,m+1,l,b,h1,h2=>by
  unfold kG;split
  ·exact Yv n m _ _ yM0 yM0
  ·rfl
theorem ahw {n:Nat}{l:Ln}{b:Bs} (hb:¬ 32<=b.length):kG n l b=(l,b):=by
 cases n with
 |zero=>rfl
 |succ n=>unfold kG;rw [abL hb]
theorem anh {n x:Nat}{b:Bs} (hb:8<=b.length) (hn:b.length<=n):lW n x b=lW (n-8) (t8 x (num (b.take 8))) (b.drop 8):=by
 obtain ⟨m,rfl⟩:∃ m,n=m+1:=⟨n-1,by omega⟩;have h:lW (m+1) x b=lW m (t8 x (num (b.take 8))) (b.drop 8):=by
  conv=>lhs;unfold lW
  rw [adU hb]
 rw [h];exact fuel m (m+1-8) _ (b.drop 8) yM0 yM0
where
 fuel:∀ (n m x:Nat) (b:Bs),b.length<=n->b.length<=m->lW n x b=lW m x b
 |0,0,x,b,_,_=>rfl
 |0,m+1,x,b,h,_=>by
  have:¬ 8<=b.length:=oQ;unfold lW;rw [abL this]
 |n+1,0,x,b,_,h=>by
  have:¬ 8<=b.length:=oQ;unfold lW;rw [abL this]
 |n+1,m+1,x,b,h1,h2=>by
  unfold lW;split
  ·exact fuel n m _ _ yM0 yM0
  ·rfl
theorem ani {n x:Nat}{b:Bs} (hb:¬ 8<=b.length):lW n x b=(x,b):=by
 cases n with
 |zero=>rfl
 |succ n=>unfold lW;rw [abL hb]
end Go.Xx
namespace Go.Proofs.Y
open Go.ak
section
variable {x y z a:Nat}
theorem wrapN (x:Nat):IntKind.u64.wrap (x:Int)=((x%18446744073709551616:Nat):Int):=by rw [alK];rfl
theorem mulN (x c:Nat):IntKind.u64.wrap ((x:Int)*(c:Int))=((x*c%18446744073709551616:Nat):Int):=by rw [<-apT,wrapN]
theorem addN (x c:Nat):IntKind.u64.wrap ((x:Int)+(c:Int))=(((x+c)%18446744073709551616:Nat):Int):=by rw [<-Int.natCast_add,wrapN]
theorem zN (x y:Nat) (hx:x<18446744073709551616) (hy:y<18446744073709551616):bits .or .u64 (x:Int) (y:Int)=((x ||| y:Nat):Int):=u64_or_nat x y hx hy
theorem Dq (x y:Nat) (hx:x<18446744073709551616) (hy:y<18446744073709551616):bits .xor .u64 (x:Int) (y:Int)=((x ^^^ y:Nat):Int):=u64_xor_nat x y hx hy
theorem qP (x:Nat):x%18446744073709551616<18446744073709551616:=anD _ aG
theorem U4 (hx:x<18446744073709551616) (hy:y<18446744073709551616):x ^^^ y<18446744073709551616:=Xx.Ai (show x<Xx.W from hx) (show y<Xx.W from hy)
theorem QT (a w:Nat):Xx.lane a w<18446744073709551616:=Xx.GY a w
theorem ai4 (a x:Nat):∃ y z u:Nat,IntKind.u64.wrap ((x:Int)*14029467366897019727)=(y:Int)/\IntKind.u64.wrap ((a:Int)+(y:Int))=(z:Int)/\z<18446744073709551616/\IntKind.u64.wrap ((Xx.turn z 31:Nat)*(11400714785074694791:Int))=(u:Int)/\Xx.lane a x=u:=
 ⟨x*Xx.p2%18446744073709551616,(a+x*Xx.p2%18446744073709551616)%18446744073709551616,Xx.turn ((a+x*Xx.p2%18446744073709551616)%18446744073709551616) 31*Xx.p1%18446744073709551616,mulN x Xx.p2,addN _ _,qP _,mulN _ Xx.p1,rfl⟩
theorem KJ (hx:x<18446744073709551616) (a:Nat):∃ y z u:Nat,bits .xor .u64 (x:Int) ((Xx.lane 0 a:Nat):Int)=(y:Int)/\IntKind.u64.wrap ((y:Int)*11400714785074694791)=(z:Int)/\IntKind.u64.wrap ((z:Int)+9650029242287828579)=(u:Int)/\u<18446744073709551616/\Xx.mix x a=u:=
 ⟨x ^^^ Xx.lane 0 a,(x ^^^ Xx.lane 0 a)*Xx.p1%18446744073709551616,((x ^^^ Xx.lane 0 a)*Xx.p1%18446744073709551616+Xx.p4)%18446744073709551616,Dq x _ hx (QT 0 a),mulN _ Xx.p1,addN _ Xx.p4,qP _,rfl⟩
theorem anb (hx:x<18446744073709551616) (n:Nat):∃ r z u:Nat,bits .xor .u64 (x:Int) ((Xx.lane 0 n:Nat):Int)=(r:Int)/\r<18446744073709551616/\IntKind.u64.wrap ((Xx.turn r 27:Nat)*(11400714785074694791:Int))=(z:Int)/\IntKind.u64.wrap ((z:Int)+9650029242287828579)=(u:Int)/\u<18446744073709551616/\Xx.t8 x n=u:=
 ⟨x ^^^ Xx.lane 0 n,Xx.turn (x ^^^ Xx.lane 0 n) 27*Xx.p1%18446744073709551616,(Xx.turn (x ^^^ Xx.lane 0 n) 27*Xx.p1%18446744073709551616+Xx.p4)%18446744073709551616,Dq x _ hx (QT 0 n),U4 hx (QT 0 n),mulN _ Xx.p1,addN _ Xx.p4,qP _,rfl⟩
theorem am9 (hx:x<18446744073709551616) (n:Nat):∃ t r z u:Nat,IntKind.u64.wrap ((n:Int)*11400714785074694791)=(t:Int)/\bits .xor .u64 (x:Int) (t:Int)=(r:Int)/\r<18446744073709551616/\IntKind.u64.wrap ((Xx.turn r 23:Nat)*(14029467366897019727:Int))=(z:Int)/\IntKind.u64.wrap ((z:Int)+1609587929392839161)=(u:Int)/\u<18446744073709551616/\Xx.t4 x n=u:=
 ⟨n*Xx.p1%18446744073709551616,x ^^^ (n*Xx.p1%18446744073709551616),Xx.turn (x ^^^ (n*Xx.p1%18446744073709551616)) 23*Xx.p2%18446744073709551616,(Xx.turn (x ^^^ (n*Xx.p1%18446744073709551616)) 23*Xx.p2%18446744073709551616+Xx.p3)%18446744073709551616,mulN n Xx.p1,Dq x _ hx (qP _),U4 hx (qP _),mulN _ Xx.p2,addN _ Xx.p3,qP _,rfl⟩
theorem acS (hx:x<18446744073709551616) (c:UInt8):∃ q r u:Nat,IntKind.u64.wrap ((c.toNat:Int)*2870177450012600261)=(q:Int)/\bits .xor .u64 (x:Int) (q:Int)=(r:Int)/\r<18446744073709551616/\IntKind.u64.wrap ((Xx.turn r 11:Nat)*(11400714785074694791:Int))=(u:Int)/\u<18446744073709551616/\Xx.t1 x c=u:=
 ⟨c.toNat*Xx.p5%18446744073709551616,x ^^^ (c.toNat*Xx.p5%18446744073709551616),Xx.turn (x ^^^ (c.toNat*Xx.p5%18446744073709551616)) 11*Xx.p1%18446744073709551616,mulN _ Xx.p5,Dq x _ hx (qP _),U4 hx (qP _),mulN _ Xx.p1,qP _,rfl⟩
theorem aiO (l:Xx.Ln):∃ s1 s2 x0:Nat,IntKind.u64.wrap ((Xx.turn l.a 1:Nat)+((Xx.turn l.b 7:Nat):Int))=(s1:Int)/\IntKind.u64.wrap ((s1:Int)+((Xx.turn l.c 12:Nat):Int))=(s2:Int)/\IntKind.u64.wrap ((s2:Int)+((Xx.turn l.d 18:Nat):Int))=(x0:Int)/\x0<18446744073709551616/\Xx.joined l=Xx.mix (Xx.mix (Xx.mix (Xx.mix x0 l.a) l.b) l.c) l.d:=
 ⟨_,_,_,addN _ _,addN _ _,addN _ _,qP _,rfl⟩
theorem X9 (hx:x<18446744073709551616):∃ t1 t2 t3 t4 t5:Nat,bits .xor .u64 (x:Int) ((x:Int)/8589934592)=(t1:Int)/\IntKind.u64.wrap ((t1:Int)*14029467366897019727)=(t2:Int)/\bits .xor .u64 (t2:Int) ((t2:Int)/536870912)=(t3:Int)/\IntKind.u64.wrap ((t3:Int)*1609587929392839161)=(t4:Int)/\bits .xor .u64 (t4:Int) ((t4:Int)/4294967296)=(t5:Int)/\Xx.f3 (Xx.f2 (Xx.f1 x))=t5:=by
 have d:∀ (y k:Nat),y<18446744073709551616->y/k<18446744073709551616:=λy k h=>ajq (aoG _ _) h;exact ⟨x ^^^ (x/8589934592),(x ^^^ (x/8589934592))*Xx.p2%18446744073709551616,Xx.f1 x ^^^ (Xx.f1 x/536870912),(Xx.f1 x ^^^ (Xx.f1 x/536870912))*Xx.p3%18446744073709551616,Xx.f2 (Xx.f1 x) ^^^ (Xx.f2 (Xx.f1 x)/4294967296),Dq x _ hx (d _ _ hx),mulN _ Xx.p2,Dq (Xx.f1 x) _ (qP _) (d _ _ (qP _)),mulN _ Xx.p3,Dq (Xx.f2 (Xx.f1 x)) _ (qP _) (d _ _ (qP _)),rfl⟩
theorem acM (j n:Nat):∃ x:Nat,IntKind.u64.wrap ((j:Int)+(n:Int))=(x:Int)/\x<18446744073709551616/\(j+n)%Xx.W=x:=⟨(j+n)%18446744073709551616,addN j n,qP _,rfl⟩
end
theorem anx (x:Nat) (hx:x<18446744073709551616) (h:Sat w0 w F):Calls prog 284 #[.int .u64 x,.int .i64 1] w (aN λv w'=>v=.int .u64 (Xx.turn x 1:Nat)/\Sat w0 w' F):=by
 have hf:=uQ (show Xx.turn x 1=(x*2%18446744073709551616) ||| (x/9223372036854775808) from rfl);have e1:IntKind.u64.wrap ((x:Int)*2)=((x*2%18446744073709551616:Nat):Int):=by rw [alK];omega
 have e2:(x:Int)/9223372036854775808=((x/9223372036854775808:Nat):Int):=rfl;have ha:x*2%18446744073709551616<18446744073709551616:=anD _ aG;have hb:x/9223372036854775808<18446744073709551616:=ajq (aoG _ _) hx;generalize x*2%18446744073709551616=a at *
 generalize x/9223372036854775808=b at *
 have e3:=zN a b ha hb;have hS:=h.drew;have e0:bits .and .i64 (1:Int) 63=1:=by decide
 have BA:wrap64 (64-1:Int)=63:=by rw [ahX _ aG];rfl
 clear ha hb h;go_enter func284,ntmps284;go_wp2_with fail
 go_region
 go_wp2;go_ret;exact ⟨_,rfl,by rw [hf.o];rfl,hS⟩
theorem anC (x:Nat) (hx:x<18446744073709551616) (h:Sat w0 w F):Calls prog 284 #[.int .u64 x,.int .i64 7] w (aN λv w'=>v=.int .u64 (Xx.turn x 7:Nat)/\Sat w0 w' F):=by
 have hf:=uQ (show Xx.turn x 7=(x*128%18446744073709551616) ||| (x/144115188075855872) from rfl);have e1:IntKind.u64.wrap ((x:Int)*128)=((x*128%18446744073709551616:Nat):Int):=by rw [alK];omega
 have e2:(x:Int)/144115188075855872=((x/144115188075855872:Nat):Int):=rfl;have ha:x*128%18446744073709551616<18446744073709551616:=anD _ aG;have hb:x/144115188075855872<18446744073709551616:=ajq (aoG _ _) hx;generalize x*128%18446744073709551616=a at *
 generalize x/144115188075855872=b at *
 have e3:=zN a b ha hb;have hS:=h.drew;have e0:bits .and .i64 (7:Int) 63=7:=by decide
 have BA:wrap64 (64-7:Int)=57:=by rw [ahX _ aG];rfl
 clear ha hb h;go_enter func284,ntmps284;go_wp2_with fail
 go_region
 go_wp2;go_ret;exact ⟨_,rfl,by rw [hf.o];rfl,hS⟩
theorem acY (x:Nat) (hx:x<18446744073709551616) (h:Sat w0 w F):Calls prog 284 #[.int .u64 x,.int .i64 11] w (aN λv w'=>v=.int .u64 (Xx.turn x 11:Nat)/\Sat w0 w' F):=by
 have hf:=uQ (show Xx.turn x 11=(x*2048%18446744073709551616) ||| (x/9007199254740992) from rfl);have e1:IntKind.u64.wrap ((x:Int)*2048)=((x*2048%18446744073709551616:Nat):Int):=by rw [alK];omega
 have e2:(x:Int)/9007199254740992=((x/9007199254740992:Nat):Int):=rfl;have ha:x*2048%18446744073709551616<18446744073709551616:=anD _ aG;have hb:x/9007199254740992<18446744073709551616:=ajq (aoG _ _) hx;generalize x*2048%18446744073709551616=a at *
 generalize x/9007199254740992=b at *
 have e3:=zN a b ha hb;have hS:=h.drew;have e0:bits .and .i64 (11:Int) 63=11:=by decide
 have BA:wrap64 (64-11:Int)=53:=by rw [ahX _ aG];rfl
 clear ha hb h;go_enter func284,ntmps284;go_wp2_with fail
 go_region
 go_wp2;go_ret;exact ⟨_,rfl,by rw [hf.o];rfl,hS⟩
theorem anv (x:Nat) (hx:x<18446744073709551616) (h:Sat w0 w F):Calls prog 284 #[.int .u64 x,.int .i64 12] w (aN λv w'=>v=.int .u64 (Xx.turn x 12:Nat)/\Sat w0 w' F):=by
 have hf:=uQ (show Xx.turn x 12=(x*4096%18446744073709551616) ||| (x/4503599627370496) from rfl);have e1:IntKind.u64.wrap ((x:Int)*4096)=((x*4096%18446744073709551616:Nat):Int):=by rw [alK];omega
 have e2:(x:Int)/4503599627370496=((x/4503599627370496:Nat):Int):=rfl;have ha:x*4096%18446744073709551616<18446744073709551616:=anD _ aG;have hb:x/4503599627370496<18446744073709551616:=ajq (aoG _ _) hx;generalize x*4096%18446744073709551616=a at *
 generalize x/4503599627370496=b at *
 have e3:=zN a b ha hb;have hS:=h.drew;have e0:bits .and .i64 (12:Int) 63=12:=by decide
 have BA:wrap64 (64-12:Int)=52:=by rw [ahX _ aG];rfl
 clear ha hb h;go_enter func284,ntmps284;go_wp2_with fail
 go_region
 go_wp2;go_ret;exact ⟨_,rfl,by rw [hf.o];rfl,hS⟩
theorem anw (x:Nat) (hx:x<18446744073709551616) (h:Sat w0 w F):Calls prog 284 #[.int .u64 x,.int .i64 18] w (aN λv w'=>v=.int .u64 (Xx.turn x 18:Nat)/\Sat w0 w' F):=by
 have hf:=uQ (show Xx.turn x 18=(x*262144%18446744073709551616) ||| (x/70368744177664) from rfl);have e1:IntKind.u64.wrap ((x:Int)*262144)=((x*262144%18446744073709551616:Nat):Int):=by rw [alK];omega
 have e2:(x:Int)/70368744177664=((x/70368744177664:Nat):Int):=rfl;have ha:x*262144%18446744073709551616<18446744073709551616:=anD _ aG;have hb:x/70368744177664<18446744073709551616:=ajq (aoG _ _) hx;generalize x*262144%18446744073709551616=a at *
 generalize x/70368744177664=b at *
 have e3:=zN a b ha hb;have hS:=h.drew;have e0:bits .and .i64 (18:Int) 63=18:=by decide
 have BA:wrap64 (64-18:Int)=46:=by rw [ahX _ aG];rfl
 clear ha hb h;go_enter func284,ntmps284;go_wp2_with fail
 go_region
 go_wp2;go_ret;exact ⟨_,rfl,by rw [hf.o];rfl,hS⟩
theorem anz (x:Nat) (hx:x<18446744073709551616) (h:Sat w0 w F):Calls prog 284 #[.int .u64 x,.int .i64 23] w (aN λv w'=>v=.int .u64 (Xx.turn x 23:Nat)/\Sat w0 w' F):=by
 have hf:=uQ (show Xx.turn x 23=(x*8388608%18446744073709551616) ||| (x/2199023255552) from rfl);have e1:IntKind.u64.wrap ((x:Int)*8388608)=((x*8388608%18446744073709551616:Nat):Int):=by rw [alK];omega
 have e2:(x:Int)/2199023255552=((x/2199023255552:Nat):Int):=rfl;have ha:x*8388608%18446744073709551616<18446744073709551616:=anD _ aG;have hb:x/2199023255552<18446744073709551616:=ajq (aoG _ _) hx;generalize x*8388608%18446744073709551616=a at *
 generalize x/2199023255552=b at *
 have e3:=zN a b ha hb;have hS:=h.drew;have e0:bits .and .i64 (23:Int) 63=23:=by decide
 have BA:wrap64 (64-23:Int)=41:=by rw [ahX _ aG];rfl
 clear ha hb h;go_enter func284,ntmps284;go_wp2_with fail
 go_region
 go_wp2;go_ret;exact ⟨_,rfl,by rw [hf.o];rfl,hS⟩
theorem anA (x:Nat) (hx:x<18446744073709551616) (h:Sat w0 w F):Calls prog 284 #[.int .u64 x,.int .i64 27] w (aN λv w'=>v=.int .u64 (Xx.turn x 27:Nat)/\Sat w0 w' F):=by
 have hf:=uQ (show Xx.turn x 27=(x*134217728%18446744073709551616) ||| (x/137438953472) from rfl);have e1:IntKind.u64.wrap ((x:Int)*134217728)=((x*134217728%18446744073709551616:Nat):Int):=by rw [alK];omega
 have e2:(x:Int)/137438953472=((x/137438953472:Nat):Int):=rfl;have ha:x*134217728%18446744073709551616<18446744073709551616:=anD _ aG;have hb:x/137438953472<18446744073709551616:=ajq (aoG _ _) hx;generalize x*134217728%18446744073709551616=a at *
 generalize x/137438953472=b at *
 have e3:=zN a b ha hb;have hS:=h.drew;have e0:bits .and .i64 (27:Int) 63=27:=by decide
 have BA:wrap64 (64-27:Int)=37:=by rw [ahX _ aG];rfl
 clear ha hb h;go_enter func284,ntmps284;go_wp2_with fail
 go_region
 go_wp2;go_ret;exact ⟨_,rfl,by rw [hf.o];rfl,hS⟩
theorem anB (x:Nat) (hx:x<18446744073709551616) (h:Sat w0 w F):Calls prog 284 #[.int .u64 x,.int .i64 31] w (aN λv w'=>v=.int .u64 (Xx.turn x 31:Nat)/\Sat w0 w' F):=by
 have hf:=uQ (show Xx.turn x 31=(x*2147483648%18446744073709551616) ||| (x/8589934592) from rfl);have e1:IntKind.u64.wrap ((x:Int)*2147483648)=((x*2147483648%18446744073709551616:Nat):Int):=by rw [alK];omega
 have e2:(x:Int)/8589934592=((x/8589934592:Nat):Int):=rfl;have ha:x*2147483648%18446744073709551616<18446744073709551616:=anD _ aG;have hb:x/8589934592<18446744073709551616:=ajq (aoG _ _) hx;generalize x*2147483648%18446744073709551616=a at *
 generalize x/8589934592=b at *
 have e3:=zN a b ha hb;have hS:=h.drew;have e0:bits .and .i64 (31:Int) 63=31:=by decide
 have BA:wrap64 (64-31:Int)=33:=by rw [ahX _ aG];rfl
 clear ha hb h;go_enter func284,ntmps284;go_wp2_with fail
 go_region
 go_wp2;go_ret;exact ⟨_,rfl,by rw [hf.o];rfl,hS⟩
theorem yx (a x:Nat) (h:Sat w0 w F):Calls prog 262 #[.int .u64 a,.int .u64 x] w (aN λv w'=>v=.int .u64 (Xx.lane a x:Nat)/\Sat w0 w' F):=by
 obtain ⟨y,z,u,e1,e2,hz,e3,e4⟩:=ai4 a x;rw [e4];have ht:=anB z hz h;clear hz e4 h;generalize Xx.turn z 31=t at *
 go_enter func262,ntmps262;go_wp2_with fail;refine ht.mono ?_;rintro ee w1 ⟨v,rfl,rfl,hS⟩;clear ht;go_wp2;go_ret;exact ⟨_,rfl,rfl,hS⟩
structure RS (w0:World) (F:List aF) (v:Value) (l:Bs):Prop where
 rd:Ro w0 F (aW 1 v (aB l))
 cap:nN v
section
variable {a:Option Addr}
theorem Ua (w:World):(sizeOf 5).run prog w=.ok 1 w:=by kernel_rfl
theorem JL:prog.elem 59=5:=by kernel_rfl
theorem EO:prog.underlying 59=some (.slice (prog.elem 59)):=by rw [JL];exact underlying59
theorem acn (hk:k<=n) (w:World):(Instr.sliceAt 59 (.slice a n c) (some (.int .i64 k)) none none).run prog w=.ok (sliced a k n c 1) w:=by
 rw [run_sliceAt_slice _ _ _ _ _ _ EO,run_slice_l _ _ _ _ _ EO .i64 (k:Int) oQ oQ,JL,Ua];simp [Result.andThen]
theorem LY (hk:k<=c) (w:World):(Instr.sliceAt 59 (.slice a n c) none (some (.int .i64 k)) none).run prog w=.ok (sliced a 0 k c 1) w:=by
 rw [run_sliceAt_slice _ _ _ _ _ _ EO,run_slice_h _ _ _ _ _ EO .i64 (k:Int) oQ oQ,JL,Ua];simp [Result.andThen]
theorem amc (hk:k<=c) (w:World):(Instr.sliceAt 59 (.slice a n c) none (some (.int .i64 k)) (some (.int .i64 k))).run prog w=.ok (sliced a 0 k k 1) w:=by
 rw [run_sliceAt_slice _ _ _ _ _ _ EO,run_slice_hm _ _ _ _ _ EO .i64 .i64 (k:Int) (k:Int) oQ oQ oQ,JL,Ua];simp [Result.andThen]
theorem RS.len (h:RS w0 F v l) (hS:Sat w0 w F):∃ a c,v=.slice a l.length c/\l.length<=c/\c<=9223372036854775807:=by
 obtain ⟨a,n,c,rfl,h1,h2⟩:=h.cap;obtain ⟨_,_,_,he,hl,_⟩:=h.rd w hS;cases he;rw [aP,aeo]at hl;subst hl;exact ⟨a,c,rfl,h1,h2⟩
theorem xU {l:Bs}{j:Nat}{y:Value}:(aB l)[j]?=some y↔∃ u,l[j]?=some u/\y=.int .u8 u.toNat:=by
 unfold aB;rw [ad1,akB];constructor
 ·rintro ⟨u,h1,h2⟩;exact ⟨u,h1,h2.symm⟩
 ·rintro ⟨u,h1,h2⟩;exact ⟨u,h1,h2.symm⟩
theorem RS.from (h:RS w0 F (.slice a l.length c) l) (hk:k<=l.length):RS w0 F (sliced a k l.length c 1) (l.drop k):=by
 obtain ⟨a',n',c',he,h1,h2⟩:=h.cap;cases he;refine ⟨λw hw=>?_,⟨_,_,_,rfl,by omega,by omega⟩⟩;refine ⟨_,_,_,rfl,by rw [aP,adX,aeo],λj y hj=>?_⟩;obtain ⟨u,hu,rfl⟩:=xU.1 hj;rw [aoz]at hu;have hlt:=(acZ.1 hu).1;obtain ⟨bk,off,rfl,hc⟩:=oJ (h.rd w hw) (xU.2 ⟨u,hu,rfl⟩);rw [abL oQ];refine ⟨_,rfl,?_⟩;have:=hc (k+j) _ (xU.2 ⟨u,hu,rfl⟩);show w.cell? (((⟨bk,off,none⟩:Addr).add (k*1)).add j)=_;rw [Addr.add_mid,Addr.add_mid,aeo,apq];exact this
theorem RS.to (h:RS w0 F (.slice a l.length c) l) (hk:k<=l.length) (m:Nat) (hm:k<=m) (hmc:m<=c):RS w0 F (sliced a 0 k m 1) (l.take k):=by
 obtain ⟨a',n',c',he,h1,h2⟩:=h.cap;cases he;refine ⟨λw hw=>?_,⟨_,_,_,rfl,by omega,by omega⟩⟩;refine ⟨_,_,_,rfl,by rw [aP,adt,aeo];omega,λj y hj=>?_⟩;obtain ⟨u,hu,rfl⟩:=xU.1 hj;rw [alM]at hu;split at hu
 ·rename_i hjk;obtain ⟨bk,off,rfl,hc⟩:=oJ (h.rd w hw) (xU.2 ⟨u,hu,rfl⟩);rw [abL oQ];refine ⟨_,rfl,?_⟩;have:=hc j _ (xU.2 ⟨u,hu,rfl⟩);show w.cell? (((⟨bk,off,none⟩:Addr).add (0*1)).add j)=_;rw [Addr.add_mid,Addr.add_mid,Nat.zero_mul,aml];exact this
 ·cases hu
theorem RS.La (h:Sat w0 w (aY v l::F)):RS w0 (aY v l::F) v l:=by
 obtain ⟨a,n,c,e,h1,h2,h3⟩:=Bj h;exact ⟨Ro.aY _ _,⟨a,n,c,e,h1,h2⟩⟩
theorem RS.more (h:RS w0 F v l){G:List aF} (k:Sub G F):RS w0 G v l:=⟨Ro.of_sub h.rd k,h.cap⟩
end
section
variable {t:TypeId}{pos:String}{z:Operand}{vx vy vz:Value}
theorem Nl (hx:a.eval x=vx) (hy:a.eval y=vy) (hr:∀ w,(Instr.sliceAt ty vx (some vy) none none).run P w=.ok v w) (h:wpList P ops Q rest (a.put dst v) w):wpList P ops Q (⟨dst,.slice ty x (some y) none none,t,pos,after,none⟩::rest) a w:=
 ae5 rfl λ_ hK=>by
  unfold Oper.wp execOp;simp only [hx,hy,aiM,ao1,aed,hr,adW,aep];exact hK _ _ h
theorem adB (hx:a.eval x=vx) (hy:a.eval y=vy) (hr:∀ w,(Instr.sliceAt ty vx none (some vy) none).run P w=.ok v w) (h:wpList P ops Q rest (a.put dst v) w):wpList P ops Q (⟨dst,.slice ty x none (some y) none,t,pos,after,none⟩::rest) a w:=
 ae5 rfl λ_ hK=>by
  unfold Oper.wp execOp;simp only [hx,hy,aiM,ao1,aed,hr,adW,aep];exact hK _ _ h
theorem an4 (hx:a.eval x=vx) (hy:a.eval y=vy) (hz:a.eval z=vz) (hr:∀ w,(Instr.sliceAt ty vx none (some vy) (some vz)).run P w=.ok v w) (h:wpList P ops Q rest (a.put dst v) w):wpList P ops Q (⟨dst,.slice ty x none (some y) (some z),t,pos,after,none⟩::rest) a w:=
 ae5 rfl λ_ hK=>by
  unfold Oper.wp execOp;simp only [hx,hy,hz,aiM,ao1,aed,hr,adW,aep];exact hK _ _ h
theorem Jy (h:Stop (wpList P ops Q (⟨dst,.slice ty x (some y) none none,t,pos,after,none⟩::rest) a w)):wpList P ops Q (⟨dst,.slice ty x (some y) none none,t,pos,after,none⟩::rest) a w:=h.o
theorem WC (h:Stop (wpList P ops Q (⟨dst,.slice ty x none (some y) none,t,pos,after,none⟩::rest) a w)):wpList P ops Q (⟨dst,.slice ty x none (some y) none,t,pos,after,none⟩::rest) a w:=h.o
theorem afy (h:Stop (wpList P ops Q (⟨dst,.slice ty x none (some y) (some z),t,pos,after,none⟩::rest) a w)):wpList P ops Q (⟨dst,.slice ty x none (some y) (some z),t,pos,after,none⟩::rest) a w:=h.o
end
theorem zO (l:Bs) (c:UInt8) (k:Nat) (hl:l.length=k) (hk:k<8):bits .or .u64 ((aj.num l:Nat):Int) ((c.toNat:Int)*((256^k:Nat):Int))=((aj.num (l++[c]):Nat):Int):=by
 subst hl;have h1:=aj.zL l;have h2:=c.toNat_lt;have h3:256^l.length<=256^7:=aoS aG oQ;have h4:c.toNat*256^l.length<=255*256^7:=apu oQ h3;have h5:(256:Nat)^7=72057594037927936:=by decide
 have e:(c.toNat:Int)*((256^l.length:Nat):Int)=((c.toNat*256^l.length:Nat):Int):=by rw [apT]
 rw [e,u64_or_nat _ _ oQ oQ,aj.RY]
 congr 1
 have hp:(256:Nat)^l.length=2^(8*l.length):=by rw [Nat.pow_mul]
 rw [hp]at h1 ⊢;have:=Nat.two_pow_add_eq_or_of_lt h1 c.toNat;rw [Nat.or_comm,aiS c.toNat,<-this,apX]
theorem ahq (c0 c1 c2 c3 c4 c5 c6 c7:UInt8) (a:Option Addr) (c:Nat) (h:aW 1 (.slice a 8 c) (aB [c0,c1,c2,c3,c4,c5,c6,c7]) w) :
  Calls prog 227 #[.slice a 8 c] w (aN λv w'=>v=.tuple #[.int .u64 (aj.num [c0,c1,c2,c3,c4,c5,c6,c7]:Nat),.bool true]/\w=w'):=by
 obtain ⟨bk,off,rfl,hc⟩:=oJ h (i:=0) rfl;have e0:w.cell? ⟨bk,off,none⟩=some (.int .u8 c0.toNat):=hc 0 _ rfl;have t0:=c0.toNat_lt;have e1:w.cell? ⟨bk,off+1,none⟩=some (.int .u8 c1.toNat):=hc 1 _ rfl;have t1:=c1.toNat_lt;have e2:w.cell? ⟨bk,off+2,none⟩=some (.int .u8 c2.toNat):=hc 2 _ rfl;have t2:=c2.toNat_lt;have e3:w.cell? ⟨bk,off+3,none⟩=some (.int .u8 c3.toNat):=hc 3 _ rfl;have t3:=c3.toNat_lt;have e4:w.cell? ⟨bk,off+4,none⟩=some (.int .u8 c4.toNat):=hc 4 _ rfl;have t4:=c4.toNat_lt;have e5:w.cell? ⟨bk,off+5,none⟩=some (.int .u8 c5.toNat):=hc 5 _ rfl;have t5:=c5.toNat_lt;have e6:w.cell? ⟨bk,off+6,none⟩=some (.int .u8 c6.toNat):=hc 6 _ rfl;have t6:=c6.toNat_lt;have e7:w.cell? ⟨bk,off+7,none⟩=some (.int .u8 c7.toNat):=hc 7 _ rfl;have t7:=c7.toNat_lt;clear hc h;go_enter func227,ntmps227;go_wp2_with fail
 go_loopg [17,4] 8 (λg iq xq wr=>∃ i:Nat,g=8-i/\i<=8/\iq=.int .i64 i/\xq=.int .u64 (aj.num ([c0,c1,c2,c3,c4,c5,c6,c7].take i):Nat)/\wr=w)
 case atStart=>exact ⟨0,rfl,by omega,rfl,rfl,rfl⟩
 case round=>
  obtain ⟨i,rfl,hi,rfl,rfl,rfl⟩:=hrel;by_cases h4:i<8
  ·have h0:i=0\/i=1\/i=2\/i=3\/i=4\/i=5\/i=6\/i=7:=by omega
   clear hi h4;rcases h0 with rfl|rfl|rfl|rfl|rfl|rfl|rfl|rfl
   ·have hq:bits .or .u64 ((aj.num []:Nat):Int) (c0.toNat:Int)=((aj.num [c0]:Nat):Int):=by
     have:=zO [] c0 0 rfl aG;simpa using this
    go_wp2_with fail
    go_roundg (8-1)
    case measure=>decide
    case rel=>exact ⟨1,rfl,by decide,by first|rfl|go_num,rfl,rfl⟩
   ·have hq:bits .or .u64 ((aj.num [c0]:Nat):Int) ((c1.toNat:Int)*256)=((aj.num [c0,c1]:Nat):Int):=zO [c0] c1 1 rfl aG;go_wp2_with fail
    go_roundg (8-2)
    case measure=>decide
    case rel=>exact ⟨2,rfl,by decide,by first|rfl|go_num,rfl,rfl⟩
   ·have hq:bits .or .u64 ((aj.num [c0,c1]:Nat):Int) ((c2.toNat:Int)*65536)=((aj.num [c0,c1,c2]:Nat):Int):=zO [c0,c1] c2 2 rfl aG;go_wp2_with fail
    go_roundg (8-3)
    case measure=>decide
    case rel=>exact ⟨3,rfl,by decide,by first|rfl|go_num,rfl,rfl⟩
   ·have hq:bits .or .u64 ((aj.num [c0,c1,c2]:Nat):Int) ((c3.toNat:Int)*16777216)=((aj.num [c0,c1,c2,c3]:Nat):Int):=zO [c0,c1,c2] c3 3 rfl aG;go_wp2_with fail
    go_roundg (8-4)
    case measure=>decide
    case rel=>exact ⟨4,rfl,by decide,by first|rfl|go_num,rfl,rfl⟩
   ·have hq:bits .or .u64 ((aj.num [c0,c1,c2,c3]:Nat):Int) ((c4.toNat:Int)*4294967296)=((aj.num [c0,c1,c2,c3,c4]:Nat):Int):=zO [c0,c1,c2,c3] c4 4 rfl aG;go_wp2_with fail
    go_roundg (8-5)
    case measure=>decide
    case rel=>exact ⟨5,rfl,by decide,by first|rfl|go_num,rfl,rfl⟩
   ·have hq:bits .or .u64 ((aj.num [c0,c1,c2,c3,c4]:Nat):Int) ((c5.toNat:Int)*1099511627776)=((aj.num [c0,c1,c2,c3,c4,c5]:Nat):Int):=zO [c0,c1,c2,c3,c4] c5 5 rfl aG;go_wp2_with fail
    go_roundg (8-6)
    case measure=>decide
    case rel=>exact ⟨6,rfl,by decide,by first|rfl|go_num,rfl,rfl⟩
   ·have hq:bits .or .u64 ((aj.num [c0,c1,c2,c3,c4,c5]:Nat):Int) ((c6.toNat:Int)*281474976710656)=((aj.num [c0,c1,c2,c3,c4,c5,c6]:Nat):Int):=zO [c0,c1,c2,c3,c4,c5] c6 6 rfl aG;go_wp2_with fail
    go_roundg (8-7)
    case measure=>decide
    case rel=>exact ⟨7,rfl,by decide,by first|rfl|go_num,rfl,rfl⟩
   ·have hq:bits .or .u64 ((aj.num [c0,c1,c2,c3,c4,c5,c6]:Nat):Int) ((c7.toNat:Int)*72057594037927936)=((aj.num [c0,c1,c2,c3,c4,c5,c6,c7]:Nat):Int):=zO [c0,c1,c2,c3,c4,c5,c6] c7 7 rfl aG;go_wp2_with fail
    go_roundg (8-8)
    case measure=>decide
    case rel=>exact ⟨8,rfl,by decide,by first|rfl|go_num,rfl,rfl⟩
  ·obtain rfl:i=8:=by omega
   go_wp2
   go_ret2
   exact ⟨_,rfl,rfl,rfl⟩
theorem eight {l:Bs} (h:l.length=8):∃ c0 c1 c2 c3 c4 c5 c6 c7,l=[c0,c1,c2,c3,c4,c5,c6,c7]:=by
 match l,h with
 |[c0,c1,c2,c3,c4,c5,c6,c7],_=>exact ⟨c0,c1,c2,c3,c4,c5,c6,c7,rfl⟩
theorem Qd (l:Bs) (hl:l.length=8) (a:Option Addr) (c:Nat) (h:aW 1 (.slice a 8 c) (aB l) w) :
  Calls prog 227 #[.slice a 8 c] w (aN λv w'=>v=.tuple #[.int .u64 (aj.num l:Nat),.bool true]/\w=w'):=by
 obtain ⟨c0,c1,c2,c3,c4,c5,c6,c7,rfl⟩:=eight hl;exact ahq c0 c1 c2 c3 c4 c5 c6 c7 a c h
theorem IY (l:Bs) (hl:8<=l.length) (hr:RS w0 F bv l) (h:Sat w0 w F) :
  Calls prog 263 #[bv] w (aN λv w'=>v=.int .u64 (aj.num (l.take 8):Nat)/\w=w'):=by
 obtain ⟨a,c,rfl,h1,h2⟩:=hr.len h;have ht:=(hr.to hl c oQ (ab1 c)).rd w h;have hs:sliced a 0 8 c 1=.slice (if c=0 then a else a.map (·.add (0*1))) 8 c:=rfl;rw [hs]at ht;have hg:=Qd (l.take 8) zM0 _ c ht;have hrun:∀ w,(Instr.sliceAt 59 (.slice a l.length c) none (some (.int .i64 8)) none).run prog w=.ok (.slice (if c=0 then a else a.map (·.add (0*1))) 8 c) w:=λw=>LY (k:=8) oQ w;generalize (if c=0 then a else a.map (·.add (0*1)))=a2 at *
 generalize aj.num (l.take 8)=N at *
 clear ht hs;go_enter func263,ntmps263;go_wp2_with ((with_reducible refine WC ⟨?_⟩);refine adB ah ah hrun ?_);refine hg.mono ?_;rintro e w1 ⟨v,rfl,rfl,rfl⟩;go_wp2;go_ret;exact ⟨_,rfl,rfl,rfl⟩
theorem akG (x:Nat) (hx:x<18446744073709551616) (h:Sat w0 w F) :
  Calls prog 204 #[.int .u64 x,.int .i64 8] w (aN λv w'=>Sat w0 w' (aY v (aj.le x 8)::F)/\∃ a,v=.slice a 8 8):=by
 have Hx:=uQ hx;clear hx;have hmk:∀ w,(Instr.makeSlice 59 (.int .i64 8) (.int .i64 8)).run prog w=.ok (.slice (some ⟨w.heap.size,0,none⟩) 8 8) (w.alloc (.cells #[.int .u8 0,.int .u8 0,.int .u8 0,.int .u8 0,.int .u8 0,.int .u8 0,.int .u8 0,.int .u8 0] 5)):=λw=>by kernel_rfl
 go_enter func204,ntmps204;go_wp2_with fail;have hA:=h.alloc (.cells #[.int .u8 0,.int .u8 0,.int .u8 0,.int .u8 0,.int .u8 0,.int .u8 0,.int .u8 0,.int .u8 0] 5);have hB:Sat w0 (w.alloc (.cells #[.int .u8 0,.int .u8 0,.int .u8 0,.int .u8 0,.int .u8 0,.int .u8 0,.int .u8 0,.int .u8 0] 5)) (aY (.slice (some ⟨w.heap.size,0,none⟩) 8 8) [0,0,0,0,0,0,0,0]::F):=Sat.kU hA rfl (ab1 _) (ab1 _) zG0 rfl;obtain ⟨b0,b1,b2,b3,b4,b5,b6,b7,hb0,hb1,hb2,hb3,hb4,hb5,hb6,hb7,hle⟩:∃ b0 b1 b2 b3 b4 b5 b6 b7:UInt8,(x:Int)%256=b0.toNat/\(x:Int)/256%256=b1.toNat/\(x:Int)/65536%256=b2.toNat/\(x:Int)/16777216%256=b3.toNat/\(x:Int)/4294967296%256=b4.toNat/\(x:Int)/1099511627776%256=b5.toNat/\(x:Int)/281474976710656%256=b6.toNat/\(x:Int)/72057594037927936%256=b7.toNat/\aj.le x 8=[b0,b1,b2,b3,b4,b5,b6,b7]:=by
  refine ⟨_,_,_,_,_,_,_,_,?_,?_,?_,?_,?_,?_,?_,?_,rfl⟩
  all_goals (rw [aoB];omega)
 have nX:=uQ hle;clear hle hmk hA;generalize w.heap.size=q at *
 go_loopg [17] 8 (λg iq wr=>∃ (i:Nat) (l':Bs),g=8-i/\i<=8/\iq=.int .i64 i/\l'=(match i with|0=>[0,0,0,0,0,0,0,0]|1=>[b0,0,0,0,0,0,0,0]|2=>[b0,b1,0,0,0,0,0,0]|3=>[b0,b1,b2,0,0,0,0,0]|4=>[b0,b1,b2,b3,0,0,0,0]|5=>[b0,b1,b2,b3,b4,0,0,0]|6=>[b0,b1,b2,b3,b4,b5,0,0]|7=>[b0,b1,b2,b3,b4,b5,b6,0]|_=>[b0,b1,b2,b3,b4,b5,b6,b7])/\Sat w0 wr (aY (.slice (some ⟨q,0,none⟩) 8 8) l'::F))
 case atStart=>exact ⟨0,_,rfl,by omega,rfl,rfl,hB⟩
 case round=>
  obtain ⟨i,l',rfl,hi,rfl,hl',hS⟩:=hrel;clear hB;obtain rfl|rfl|rfl|rfl|rfl|rfl|rfl|rfl|rfl:i=0\/i=1\/i=2\/i=3\/i=4\/i=5\/i=6\/i=7\/i=8:=by omega
  ·obtain rfl:l'=[0,0,0,0,0,0,0,0]:=hl';obtain ⟨g,he,e0,e1,hS5⟩:=uG (i:=0) hS yF0 b0;cases he;go_wp2_with fail
   go_roundg 7
   case measure=>omega
   case rel=>exact ⟨1,[b0,0,0,0,0,0,0,0],rfl,by omega,rfl,rfl,hS5⟩
  ·obtain rfl:l'=[b0,0,0,0,0,0,0,0]:=hl';obtain ⟨g,he,e0,e1,hS5⟩:=uG (i:=1) hS yF0 b1;cases he;go_wp2_with fail
   go_roundg 6
   case measure=>omega
   case rel=>exact ⟨2,[b0,b1,0,0,0,0,0,0],rfl,by omega,rfl,rfl,hS5⟩
  ·obtain rfl:l'=[b0,b1,0,0,0,0,0,0]:=hl';obtain ⟨g,he,e0,e1,hS5⟩:=uG (i:=2) hS yF0 b2;cases he;go_wp2_with fail
   go_roundg 5
   case measure=>omega
   case rel=>exact ⟨3,[b0,b1,b2,0,0,0,0,0],rfl,by omega,rfl,rfl,hS5⟩
  ·obtain rfl:l'=[b0,b1,b2,0,0,0,0,0]:=hl';obtain ⟨g,he,e0,e1,hS5⟩:=uG (i:=3) hS yF0 b3;cases he;go_wp2_with fail
   go_roundg 4
   case measure=>omega
   case rel=>exact ⟨4,[b0,b1,b2,b3,0,0,0,0],rfl,by omega,rfl,rfl,hS5⟩
  ·obtain rfl:l'=[b0,b1,b2,b3,0,0,0,0]:=hl';obtain ⟨g,he,e0,e1,hS5⟩:=uG (i:=4) hS yF0 b4;cases he;go_wp2_with fail
   go_roundg 3
   case measure=>omega
   case rel=>exact ⟨5,[b0,b1,b2,b3,b4,0,0,0],rfl,by omega,rfl,rfl,hS5⟩
  ·obtain rfl:l'=[b0,b1,b2,b3,b4,0,0,0]:=hl';obtain ⟨g,he,e0,e1,hS5⟩:=uG (i:=5) hS yF0 b5;cases he;go_wp2_with fail
   go_roundg 2
   case measure=>omega
   case rel=>exact ⟨6,[b0,b1,b2,b3,b4,b5,0,0],rfl,by omega,rfl,rfl,hS5⟩
  ·obtain rfl:l'=[b0,b1,b2,b3,b4,b5,0,0]:=hl';obtain ⟨g,he,e0,e1,hS5⟩:=uG (i:=6) hS yF0 b6;cases he;go_wp2_with fail
   go_roundg 1
   case measure=>omega
   case rel=>exact ⟨7,[b0,b1,b2,b3,b4,b5,b6,0],rfl,by omega,rfl,rfl,hS5⟩
  ·obtain rfl:l'=[b0,b1,b2,b3,b4,b5,b6,0]:=hl';obtain ⟨g,he,e0,e1,hS5⟩:=uG (i:=7) hS yF0 b7;cases he;go_wp2_with fail
   go_roundg 0
   case measure=>omega
   case rel=>exact ⟨8,[b0,b1,b2,b3,b4,b5,b6,b7],rfl,by omega,rfl,rfl,hS5⟩
  ·obtain rfl:l'=[b0,b1,b2,b3,b4,b5,b6,b7]:=hl';go_wp2;go_ret;exact ⟨_,rfl,by rw [nX.o];exact hS,_,rfl⟩
section
variable {L:List aF}{t e:TypeId}{pos:String}{g:Nat×Bool}{op:Op}{dF:Nat}{zs:List Value}
theorem EN (hw:Region.wanted ⟨dst,op,t,pos,after,some g⟩ (yielded ops a.tmps)=true) (h:wpList P ops Q (⟨dst,op,t,pos,after,none⟩::rest) a w):wpList P ops Q (⟨dst,op,t,pos,after,some g⟩::rest) a w:=by
 unfold wpList at h ⊢;rw [adU hw];rw [adU (mZ _ rfl)]at h;exact h
theorem EM (h:Stop (wpList P ops Q (⟨dst,.load ty x,t,pos,after,some g⟩::rest) a w)):wpList P ops Q (⟨dst,.load ty x,t,pos,after,some g⟩::rest) a w:=h.o
theorem ac0 {xs:Array (Nat×Operand)} (h:Stop (wpList P ops Q (⟨dst,.build ty xs,t,pos,after,none⟩::rest) a w)):wpList P ops Q (⟨dst,.build ty xs,t,pos,after,none⟩::rest) a w:=h.o
theorem EU {xs:Array (Nat×Operand)}{ps:Array (Nat×Value)} (h1:xs.map (λp=>(p.1,a.eval p.2))=ps) (hr:∀ w,(Instr.build ty ps).run P w=.ok v w) (h:wpList P ops Q rest (a.put dst v) w) :
  wpList P ops Q (⟨dst,.build ty xs,t,pos,after,none⟩::rest) a w:=
 ae5 rfl λ_ hK=>by
  unfold Oper.wp execOp;simp only [h1,aed,hr,adW,aep];exact hK _ _ h
end
abbrev jC (p:Nat) (l:Xx.Ln) (rv:Value) (n:Nat):aF:=pt p (.cells #[.bool true,.int .u64 0,.int .u64 l.a,.int .u64 l.b,.int .u64 l.c,.int .u64 l.d,rv,.int .u64 n] 371 (0,0))
section
variable {l:Xx.Ln}
theorem aoq:kD prog 369=some (.agg #[.int .u64 0,.int .u64 0,.int .u64 0,.int .u64 0]):=by kernel_rfl
theorem ajQ (h:Sat w0 w F):Calls prog 244 #[.int .u64 0] w (aN λv w'=>∃ p,v=ptr p/\Sat w0 w' (jC p Xx.Ln.zero (.slice none 0 0) 0::F)):=by
 have hb1:∀ w,(Instr.build 371 #[(0,.bool true),(1,.int .u64 0)]).run prog w=.ok (.agg #[.bool true,.int .u64 0,.int .u64 0,.int .u64 0,.int .u64 0,.int .u64 0,.slice none 0 0,.int .u64 0]) w:=λw=>by kernel_rfl
 have hb2:∀ w,(Instr.build 369 #[(0,.int .u64 6983438078262162902),(1,.int .u64 14029467366897019727),(2,.int .u64 0),(3,.int .u64 7046029288634856825)]).run prog w=.ok (.agg #[.int .u64 6983438078262162902,.int .u64 14029467366897019727,.int .u64 0,.int .u64 7046029288634856825]) w:=λw=>by kernel_rfl
 go_enter func244,ntmps244
 go_wp2_with (first
  |((with_reducible refine fC ⟨?_⟩);refine fB h ah ah ?_;intro bB wB hB)
  |((with_reducible refine bW ⟨?_⟩);refine jM (v:= .agg #[.int .u64 6983438078262162902,.int .u64 14029467366897019727,.int .u64 0,.int .u64 7046029288634856825]) hB ah ah ah bU aG au ah ?_;intro wS hS))
 go_ret;exact ⟨_,rfl,bB,rfl,hS⟩
theorem aiP (hl:l.lt) (h:Sat w0 w (jC p l rv n::F)):Calls prog 264 #[ptr p] w (aN λv w'=>v=.int .u64 (Xx.joined l:Nat)/\Sat w0 w' (jC p l rv n::F)):=by
 obtain ⟨la,lb,lc,ld⟩:=l;obtain ⟨l1,l2,l3,l4⟩:=hl;simp only at l1 l2 l3 l4;obtain ⟨s1,s2,x0,f1,f2,f3,q5,hJ⟩:=aiO ⟨la,lb,lc,ld⟩;simp only at f1 f2 f3 hJ;have HJ:=uQ hJ;have Jp:=uQ (λ(w:World) (R:List aF) (hS:Sat w0 w R)=>anx la l1 hS);have rE:=uQ (λ(w:World) (R:List aF) (hS:Sat w0 w R)=>anC lb l2 hS);have VT:=uQ (λ(w:World) (R:List aF) (hS:Sat w0 w R)=>anv lc l3 hS);have VU:=uQ (λ(w:World) (R:List aF) (hS:Sat w0 w R)=>anw ld l4 hS);generalize Xx.turn la 1=ta at *
 generalize Xx.turn lb 7=tb at *
 generalize Xx.turn lc 12=tc at *
 generalize Xx.turn ld 18=td at *
 have Hq:=uQ q5;have Hf:=uQ (And.intro f1 (And.intro f2 f3));clear l1 l2 l3 l4 q5 f1 f2 f3 hJ;go_enter func264,ntmps264
 go_wp2_with (first
  |((with_reducible refine bC ⟨?_⟩);refine EW (b:=p) (o:=2) [.int .u64 la,.int .u64 lb,.int .u64 lc,.int .u64 ld] h ah aK (λj v hj=>by
    rcases j with _|_|_|_|j
    ·cases hj;rfl
    ·cases hj;rfl
    ·cases hj;rfl
    ·cases hj;rfl
    ·simp at hj) underlying369 rfl au ?_)
  |((with_reducible refine eG ⟨?_⟩);refine eU aoq h rfl ?_;intro b3 w3 h3)
  |((with_reducible refine bW ⟨?_⟩);refine fG #[.int .u64 la,.int .u64 lb,.int .u64 lc,.int .u64 ld] h3 ah ah ah bU au ah ?_;intro w4 h4))
 have hS:=h4.drew;clear h h3 h4;refine eF [13,14,15] (λw'=>w'.cell? ⟨b3,0,none⟩=some (.int .u64 la)/\w'.cell? ⟨b3,1,none⟩=some (.int .u64 lb)/\w'.cell? ⟨b3,2,none⟩=some (.int .u64 lc)/\w'.cell? ⟨b3,3,none⟩=some (.int .u64 ld)) au ?_;have HG:=uQ (λ(w:World) (R:List aF) (hS:Sat w0 w (pt b3 (.cells #[.int .u64 la,.int .u64 lb,.int .u64 lc,.int .u64 ld] 369 (0,0))::R))=>show w.cell? ⟨b3,0,none⟩=some (.int .u64 la)/\w.cell? ⟨b3,1,none⟩=some (.int .u64 lb)/\w.cell? ⟨b3,2,none⟩=some (.int .u64 lc)/\w.cell? ⟨b3,3,none⟩=some (.int .u64 ld) from ⟨hS.cellAt 0 _ rfl,hS.cellAt 1 _ rfl,hS.cellAt 2 _ rfl,hS.cellAt 3 _ rfl⟩);have hG:=HG.o _ _ hS;refine rP 0 ?_ (y:=iV);refine rt 1 (h:=?_);refine rP 3 ?_ (y:=iV);refine rt 4 (h:=?_);refine rP 7 ?_ (y:=iV);refine rt 8 (h:=?_);refine rP 11 ?_ (y:=iV);refine rt 12 (h:=?_);clear hG
 refine cZ 2 ay au (λK hK=>?_)
 (refine jB au ay ay ?_)
 refine (Jp.o _ _ hS).mono ?_;rintro ee w5 ⟨v,rfl,rfl,h5⟩;refine hK _ _ (.inr (.inl (HG.o _ _ h5))) ?_;clear hK hS;refine cZ 5 ay au (λK hK=>?_)
 (refine jB au ay ay ?_)
 refine (rE.o _ _ h5).mono ?_;rintro ee w6 ⟨v,rfl,rfl,h6⟩;refine hK _ _ (.inr (.inl (HG.o _ _ h6))) ?_;clear hK h5;refine rp 6 (hy:=(Dt ay ay (by intro wq;have f1:=Hf.o.1;(go_simp);first|done|exact wQ))) (h:=?_);refine cZ 9 ay au (λK hK=>?_)
 (refine jB au ay ay ?_)
 refine (VT.o _ _ h6).mono ?_;rintro ee w7 ⟨v,rfl,rfl,h7⟩;refine hK _ _ (.inr (.inl (HG.o _ _ h7))) ?_;clear hK h6;refine rp 10 (hy:=(Dt ay ay (by intro wq;have f2:=Hf.o.2.1;(go_simp);first|done|exact wQ))) (h:=?_);refine cZ 13 ay au (λK hK=>?_)
 (refine jB au ay ay ?_)
 refine (VU.o _ _ h7).mono ?_;rintro ee w8 ⟨v,rfl,rfl,h8⟩;refine hK _ _ (.inl rfl) ?_;clear hK h7;refine rp 14 (hy:=(Dt ay ay (by intro wq;have f3:=Hf.o.2.2;(go_simp);first|done|exact wQ))) (h:=?_);refine rP 15 ?_ (y:=jU);refine dX au ?_
 try simp only [jI]
 try go_frame
 clear Jp rE VT VU HG Hf
 as_aux_lemma=>
  go_wp2_with ((with_reducible refine bC ⟨?_⟩);refine iC h8 ah aK underlying369 rfl au ?_)
  go_loopg [27,4] 4 (λg iq xq wr=>∃ (i x:Nat),g=4-i/\i<=4/\iq=.int .i64 i/\xq=.int .u64 (x:Nat)/\x<18446744073709551616/\((i=0->x=x0)/\(i=1->x=Xx.mix x0 la)/\(i=2->x=Xx.mix (Xx.mix x0 la) lb)/\(i=3->x=Xx.mix (Xx.mix (Xx.mix x0 la) lb) lc)/\(i=4->x=Xx.mix (Xx.mix (Xx.mix (Xx.mix x0 la) lb) lc) ld))/\Sat w0 wr (pt b3 (.cells #[.int .u64 la,.int .u64 lb,.int .u64 lc,.int .u64 ld] 369 (0,0))::jC p ⟨la,lb,lc,ld⟩ rv n::F))
  case atStart=>exact ⟨0,x0,rfl,by decide,rfl,rfl,Hq.o,⟨λ_=>rfl,λh=>absurd h aG,λh=>absurd h aG,λh=>absurd h aG,λh=>absurd h aG⟩,h8⟩
  case round=>
   obtain ⟨i,x,rfl,hi,rfl,rfl,hx,hxe,hS⟩:=hrel;clear h8;obtain rfl|rfl|rfl|rfl|rfl:i=0\/i=1\/i=2\/i=3\/i=4:=by omega
   ·as_aux_lemma=>
    have hlc:Calls prog 262 #[.int .u64 0,.int .u64 la] wr (aN λv w'=>v=.int .u64 (Xx.lane 0 la:Nat)/\Sat w0 w' _):=yx 0 la hS;have hix:∀ w,(Instr.index 369 (.agg #[.int .u64 la,.int .u64 lb,.int .u64 lc,.int .u64 ld]) (.int .i64 0)).run prog w=.ok (.int .u64 la) w:=λw=>by kernel_rfl
    obtain ⟨y,z,u,g1,g2,g3,hu,hm⟩:=KJ hx la;generalize Xx.lane 0 la=t at *
    have Hu:=uQ hu;have AL:=uQ hm;have AX:=uQ (hxe.1 rfl);clear hx hm hu hxe hS;go_wp2_with fail;refine hlc.mono ?_;rintro ee w9 ⟨v,rfl,rfl,h9⟩;clear hlc;go_wp2
    go_roundg 3
    case measure=>omega
    case rel=>exact ⟨1,u,rfl,by decide,rfl,rfl,Hu.o,⟨λh=>absurd h aG,λ_=>by rw [<-AL.o,AX.o],λh=>absurd h aG,λh=>absurd h aG,λh=>absurd h aG⟩,h9⟩
   ·as_aux_lemma=>
    have hlc:Calls prog 262 #[.int .u64 0,.int .u64 lb] wr (aN λv w'=>v=.int .u64 (Xx.lane 0 lb:Nat)/\Sat w0 w' _):=yx 0 lb hS;have hix:∀ w,(Instr.index 369 (.agg #[.int .u64 la,.int .u64 lb,.int .u64 lc,.int .u64 ld]) (.int .i64 1)).run prog w=.ok (.int .u64 lb) w:=λw=>by kernel_rfl
    obtain ⟨y,z,u,g1,g2,g3,hu,hm⟩:=KJ hx lb;generalize Xx.lane 0 lb=t at *
    have Hu:=uQ hu;have AL:=uQ hm;have AX:=uQ (hxe.2.1 rfl);clear hx hm hu hxe hS;go_wp2_with fail;refine hlc.mono ?_;rintro ee w9 ⟨v,rfl,rfl,h9⟩;clear hlc;go_wp2
    go_roundg 2
    case measure=>omega
    case rel=>exact ⟨2,u,rfl,by decide,rfl,rfl,Hu.o,⟨λh=>absurd h aG,λh=>absurd h aG,λ_=>by rw [<-AL.o,AX.o],λh=>absurd h aG,λh=>absurd h aG⟩,h9⟩
   ·as_aux_lemma=>
    have hlc:Calls prog 262 #[.int .u64 0,.int .u64 lc] wr (aN λv w'=>v=.int .u64 (Xx.lane 0 lc:Nat)/\Sat w0 w' _):=yx 0 lc hS;have hix:∀ w,(Instr.index 369 (.agg #[.int .u64 la,.int .u64 lb,.int .u64 lc,.int .u64 ld]) (.int .i64 2)).run prog w=.ok (.int .u64 lc) w:=λw=>by kernel_rfl
    obtain ⟨y,z,u,g1,g2,g3,hu,hm⟩:=KJ hx lc;generalize Xx.lane 0 lc=t at *
    have Hu:=uQ hu;have AL:=uQ hm;have AX:=uQ (hxe.2.2.1 rfl);clear hx hm hu hxe hS;go_wp2_with fail;refine hlc.mono ?_;rintro ee w9 ⟨v,rfl,rfl,h9⟩;clear hlc;go_wp2
    go_roundg 1
    case measure=>omega
    case rel=>exact ⟨3,u,rfl,by decide,rfl,rfl,Hu.o,⟨λh=>absurd h aG,λh=>absurd h aG,λh=>absurd h aG,λ_=>by rw [<-AL.o,AX.o],λh=>absurd h aG⟩,h9⟩
   ·as_aux_lemma=>
    have hlc:Calls prog 262 #[.int .u64 0,.int .u64 ld] wr (aN λv w'=>v=.int .u64 (Xx.lane 0 ld:Nat)/\Sat w0 w' _):=yx 0 ld hS;have hix:∀ w,(Instr.index 369 (.agg #[.int .u64 la,.int .u64 lb,.int .u64 lc,.int .u64 ld]) (.int .i64 3)).run prog w=.ok (.int .u64 ld) w:=λw=>by kernel_rfl
    obtain ⟨y,z,u,g1,g2,g3,hu,hm⟩:=KJ hx ld;generalize Xx.lane 0 ld=t at *
    have Hu:=uQ hu;have AL:=uQ hm;have AX:=uQ (hxe.2.2.2.1 rfl);clear hx hm hu hxe hS;go_wp2_with fail;refine hlc.mono ?_;rintro ee w9 ⟨v,rfl,rfl,h9⟩;clear hlc;go_wp2
    go_roundg 0
    case measure=>omega
    case rel=>exact ⟨4,u,rfl,by decide,rfl,rfl,Hu.o,⟨λh=>absurd h aG,λh=>absurd h aG,λh=>absurd h aG,λh=>absurd h aG,λ_=>by rw [<-AL.o,AX.o]⟩,h9⟩
   ·have Hx:=uQ (show x=Xx.joined ⟨la,lb,lc,ld⟩ by rw [HJ.o];exact hxe.2.2.2.2 rfl);clear hxe hx;go_wp2;go_ret;exact ⟨_,rfl,by rw [Hx.o];rfl,hS.drop⟩
end
theorem Qc (l:Bs) (hl:l.length=4) (a:Option Addr) (c:Nat) (h:aW 1 (.slice a 4 c) (aB l) w) :
  Calls prog 227 #[.slice a 4 c] w (aN λv w'=>v=.tuple #[.int .u64 (aj.num l:Nat),.bool true]/\w=w'):=Yt l hl a c h
theorem ai3 (x:Nat) (h:Sat w0 w F):Calls prog 262 #[.int .u64 0,.int .u64 x] w (aN λv w'=>v=.int .u64 (Xx.lane 0 x:Nat)/\Sat w0 w' F):=yx 0 x h
theorem zl (hr:RS w0 F bv l) (h:Sat w0 w F){k:Nat} (hk:k<=l.length):∃ a c a2 c2,bv=.slice a l.length c/\l.length<=c/\c<=9223372036854775807/\(∀ w,(Instr.sliceAt 59 (.slice a l.length c) (some (.int .i64 k)) none none).run prog w=.ok (.slice a2 (l.drop k).length c2) w)/\RS w0 F (.slice a2 (l.drop k).length c2) (l.drop k):=by
 obtain ⟨a,c,rfl,h1,h2⟩:=hr.len h;have hs:=hr.from hk;obtain ⟨a2,c2,he,h3,h4⟩:=hs.len h;refine ⟨a,c,a2,c2,rfl,h1,h2,λw=>?_,by rw [<-he];exact hs⟩;rw [<-he];exact acn hk w
theorem agr (hr:RS w0 F bv l) (h:Sat w0 w F){k:Nat} (hk:k<=l.length):∃ a c a2 c2,bv=.slice a l.length c/\l.length<=c/\c<=9223372036854775807/\(∀ w,(Instr.sliceAt 59 (.slice a l.length c) none (some (.int .i64 k)) none).run prog w=.ok (.slice a2 k c2) w)/\RS w0 F (.slice a2 k c2) (l.take k):=by
 obtain ⟨a,c,rfl,h1,h2⟩:=hr.len h;have hs:=hr.to hk c oQ (ab1 c);obtain ⟨a2,c2,he,h3,h4⟩:=hs.len h;have e:(l.take k).length=k:=by rw [adt];omega
 rw [e]at he;refine ⟨a,c,a2,c2,rfl,h1,h2,λw=>?_,by rw [<-he];exact hs⟩;rw [<-he];exact LY oQ w
theorem aoh (x:Nat) (hx:x<18446744073709551616) (l:Bs) (hl:l.length<=1073741824) (hr:RS w0 F bv l) (h:Sat w0 w F):Calls prog 265 #[.int .u64 x,bv] w (aN λv w'=>v=.int .u64 (Xx.tail x l:Nat)/\Sat w0 w' F):=by
 obtain ⟨ba,bc,rfl,hb1,hb2⟩:=hr.len h;have Hr:=uQ hr;have Hx:=uQ hx;have Hl:=uQ hl;clear hr hx hl hb1 hb2;go_enter func265,ntmps265;go_wp2_with fail
 go_loopg [0,1] l.length (λg xq bq wr=>∃ (y:Nat) (m:Bs),g=m.length/\m.length<=l.length/\xq=.int .u64 (y:Nat)/\y<18446744073709551616/\RS w0 F bq m/\Xx.lW l.length x l=Xx.lW m.length y m/\Sat w0 wr F)
 case atStart=>exact ⟨x,l,rfl,ab1 _,rfl,Hx.o,Hr.o,rfl,h⟩
 case round=>
  obtain ⟨y,m,rfl,hml,rfl,hy,hRS,heq,hS⟩:=hrel;clear h;by_cases h8:8<=m.length
  ·as_aux_lemma=>
   obtain ⟨a,c,a2,c2,rfl,k1,k2,hrun,YN⟩:=zl hRS hS h8;have hwd:=IY m h8 hRS hS;have hst:Xx.lW m.length y m=Xx.lW (m.drop 8).length (Xx.t8 y (aj.num (m.take 8))) (m.drop 8):=by rw [Xx.anh h8 (ab1 _),adX]
   generalize aj.num (m.take 8)=N at *
   have hln:=uQ (λ(w:World) (hS:Sat w0 w F)=>ai3 N hS);obtain ⟨r,z,u,g1,hr1,g3,g4,hu,GN⟩:=anb hy N;generalize Xx.lane 0 N=t at *
   have htu:=uQ (λ(w:World) (hS:Sat w0 w F)=>anA r hr1 hS);generalize Xx.turn r 27=s at *
   rw [GN]at hst;have Y7:(m.drop 8).length<m.length:=by rw [adX];omega
   generalize m.drop 8=m2 at *
   have c1:(8:Int)<=(m.length:Int):=oQ;have Hu:=uQ hu;have o9:=uQ (heq.trans hst);have HR:=uQ YN;have aS:=uQ (And.intro Y7 hml);clear hu hr1 hst GN heq YN hRS Y7 hml hy k1 k2 h8;go_wp2_with fail;refine hwd.mono ?_;rintro ee w2 ⟨v,rfl,rfl,rfl⟩;clear hwd;go_wp2_with fail;refine (hln.o _ hS).mono ?_;rintro ee w3 ⟨v,rfl,rfl,h3⟩;clear hln hS;go_wp2_with fail;refine (htu.o _ h3).mono ?_;rintro ee w4 ⟨v,rfl,rfl,h4⟩;clear htu h3;go_wp2_with ((with_reducible refine Jy ⟨?_⟩);refine Nl ah ah hrun ?_)
   go_roundg m2.length
   case measure=>exact aS.o.1
   case rel=>exact ⟨u,m2,rfl,by have:=aS.o;omega,rfl,Hu.o,HR.o,o9.o,h4⟩
  ·have hst:Xx.lW l.length x l=(y,m):=heq.trans (Xx.ani h8);have hT:Xx.tail x l=(Xx.tail4 y m).2.foldl Xx.t1 (Xx.tail4 y m).1:=by unfold Xx.tail;rw [hst]
   have hl2:m.length<=1073741824:=adT hml Hl.o;have c1:¬ (8:Int)<=(m.length:Int):=oQ;clear heq hst h8 hml;by_cases h4:4<=m.length
   ·have e4:Xx.tail4 y m=(Xx.t4 y (aj.num (m.take 4)),m.drop 4):=by unfold Xx.tail4;rw [adU h4]
    rw [e4]at hT;obtain ⟨a,c,a2,c2,rfl,k1,k2,hrunT,YP⟩:=agr hRS hS h4;obtain ⟨a',c',a3,c3,he,_,_,GK,YO⟩:=zl hRS hS h4;cases he;have hgt:=Qc (m.take 4) zM0 a2 c2 (YP.rd _ hS);obtain ⟨t,r,z,u,g0,g1,hr1,g3,g4,hu,Zm⟩:=am9 hy (aj.num (m.take 4));rw [Zm]at hT;generalize aj.num (m.take 4)=N at *
    have htu:=anz r hr1 hS;generalize Xx.turn r 23=s at *
    have hl4:(m.drop 4).length<=1073741824:=by rw [adX];omega
    have WW:(4:Int)<=(m.length:Int):=oQ;dsimp only at hT;generalize m.drop 4=m2 at *
    have Hu:=uQ hu;have HT:=uQ hT;have HR:=uQ YO;clear hu hr1 hT Zm hRS YP YO hy k1 k2 h4 e4 hl2
    go_wp2_with (first
     |((with_reducible refine WC ⟨?_⟩);refine adB ah ah hrunT ?_))
    refine hgt.mono ?_;rintro ee w2 ⟨v,rfl,rfl,rfl⟩;clear hgt;go_wp2_with fail;refine htu.mono ?_;rintro ee w3 ⟨v,rfl,rfl,h3⟩;clear htu hS;go_wp2_with ((with_reducible refine Jy ⟨?_⟩);refine Nl ah ah GK ?_);clear c1 WW g0 g1 g3 g4 hrunT GK;have Hm:=uQ (show m2.length<=1073741824 from by omega);have kW:=uQ HR.o;have HE:=uQ HT.o;have Hy:=uQ Hu.o;go_wp2_with fail
    go_loopg [0,42] m2.length (λg xq iq wr=>∃ (i z:Nat),g=m2.length-i/\i<=m2.length/\xq=.int .u64 (z:Nat)/\iq=.int .i64 i/\z<18446744073709551616/\z=(m2.take i).foldl Xx.t1 u/\Sat w0 wr F)
    case atStart=>exact ⟨0,u,rfl,ad4 _,rfl,rfl,Hy.o,rfl,h3⟩
    case round=>
     obtain ⟨i,z,rfl,hi,rfl,rfl,hz,hze,iU⟩:=hrel;by_cases hi':i<m2.length
     ·as_aux_lemma=>
      have hb:(aB m2)[i]?=some (.int .u8 (m2[i]'hi').toNat):=by unfold aB;simp [hi']
      obtain ⟨bk,off,rfl,c1⟩:=CV (kW.o.rd _ iU) hb;have hic:(i:Int)<(m2.length:Int):=oQ;have hwi:IntKind.i64.wrap ((i:Int)+1)=(i:Int)+1:=acO _ (by have:=Hm.o;omega);have hnx:(m2.take (i+1)).foldl Xx.t1 u=Xx.t1 z (m2[i]'hi'):=by rw [afB hi',apd,<-hze,List.foldl_cons,List.foldl_nil]
      have hcb:=(m2[i]'hi').toNat_lt;obtain ⟨q,r,u,g1,g2,hr,g3,hu,GU⟩:=acS hz (m2[i]'hi');rw [GU]at hnx;have ht1:=hnx;clear hnx hb GU;generalize (m2[i]'hi').toNat=cb at *
      have htu:=acY r hr iU;generalize Xx.turn r 11=s at *
      have hcm:IntKind.u64.wrap (cb:Int)=(cb:Int):=by rw [alK];omega
      have Hu:=uQ hu;have OC:=uQ ht1;have Hi:=uQ hi';clear hu hr ht1 hze hz hcb hi hi';go_wp2_with fail;refine htu.mono ?_;rintro ee w9 ⟨v,rfl,rfl,h9⟩;clear htu iU;go_wp2
      go_roundg (m2.length-(i+1))
      case measure=>have:=Hi.o;omega
      case rel=>exact ⟨i+1,u,rfl,ad8 Hi.o,rfl,by first|rfl|go_num,Hu.o,OC.o.symm,h9⟩
     ·as_aux_lemma=>
      obtain rfl:i=m2.length:=by omega
      have hic:¬ (m2.length:Int)<(m2.length:Int):=oQ;rw [aeH]at hze;have Hf:=uQ (show Xx.tail x l=z by rw [HE.o,hze]);clear hze hz hi hi';go_wp2;go_ret;exact ⟨_,rfl,by first|(rw [Hf.o];rfl)|(rw [<-HE.o,Hf.o];rfl),iU⟩
   ·have e4:Xx.tail4 y m=(y,m):=by unfold Xx.tail4;rw [abL h4]
    rw [e4]at hT;dsimp only at hT;obtain ⟨a,c,rfl,k1,k2⟩:=hRS.len hS;have WW:¬ (4:Int)<=(m.length:Int):=oQ;have HT:=uQ hT;clear e4 h4 k1 k2 hT;have Hm:=uQ (show m.length<=1073741824 from by omega);have kW:=uQ hRS;have HE:=uQ HT.o;have Hy:=uQ hy;go_wp2_with fail
    go_loopg [0,42] m.length (λg xq iq wr=>∃ (i z:Nat),g=m.length-i/\i<=m.length/\xq=.int .u64 (z:Nat)/\iq=.int .i64 i/\z<18446744073709551616/\z=(m.take i).foldl Xx.t1 y/\Sat w0 wr F)
    case atStart=>exact ⟨0,y,rfl,ad4 _,rfl,rfl,Hy.o,rfl,hS⟩
    case round=>
     obtain ⟨i,z,rfl,hi,rfl,rfl,hz,hze,iU⟩:=hrel;by_cases hi':i<m.length
     ·as_aux_lemma=>
      have hb:(aB m)[i]?=some (.int .u8 (m[i]'hi').toNat):=by unfold aB;simp [hi']
      obtain ⟨bk,off,rfl,c1⟩:=CV (kW.o.rd _ iU) hb;have hic:(i:Int)<(m.length:Int):=oQ;have hwi:IntKind.i64.wrap ((i:Int)+1)=(i:Int)+1:=acO _ (by have:=Hm.o;omega);have hnx:(m.take (i+1)).foldl Xx.t1 y=Xx.t1 z (m[i]'hi'):=by rw [afB hi',apd,<-hze,List.foldl_cons,List.foldl_nil]
      have hcb:=(m[i]'hi').toNat_lt;obtain ⟨q,r,u,g1,g2,hr,g3,hu,GU⟩:=acS hz (m[i]'hi');rw [GU]at hnx;have ht1:=hnx;clear hnx hb GU;generalize (m[i]'hi').toNat=cb at *
      have htu:=acY r hr iU;generalize Xx.turn r 11=s at *
      have hcm:IntKind.u64.wrap (cb:Int)=(cb:Int):=by rw [alK];omega
      have Hu:=uQ hu;have OC:=uQ ht1;have Hi:=uQ hi';clear hu hr ht1 hze hz hcb hi hi';go_wp2_with fail;refine htu.mono ?_;rintro ee w9 ⟨v,rfl,rfl,h9⟩;clear htu iU;go_wp2
      go_roundg (m.length-(i+1))
      case measure=>have:=Hi.o;omega
      case rel=>exact ⟨i+1,u,rfl,ad8 Hi.o,rfl,by first|rfl|go_num,Hu.o,OC.o.symm,h9⟩
     ·as_aux_lemma=>
      obtain rfl:i=m.length:=by omega
      have hic:¬ (m.length:Int)<(m.length:Int):=oQ;rw [aeH]at hze;have Hf:=uQ (show Xx.tail x l=z by rw [HE.o,hze]);clear hze hz hi hi';go_wp2;go_ret;exact ⟨_,rfl,by first|(rw [Hf.o];rfl)|(rw [<-HE.o,Hf.o];rfl),iU⟩
abbrev iW (p:Nat) (rv:Value):aF:=pt p (.cells #[rv,errno 0,.bool true] 363 (0,0))
section
variable {m:Bs}
theorem abT (hl:l.length<=140737488355328) (hr:RS w0 F bv l) (h:Sat w0 w F):Calls prog 229 #[bv] w (aN λv w'=>∃ p rv,v=ptr p/\Sat w0 w' (iW p rv::aY rv l::F)/\RS w0 (aY rv l::F) rv l):=by
 obtain ⟨ba,bc,rfl,_,_⟩:=hr.len h;have hc:=xW h (hr.rd w h) hl;clear hr;go_enter func229,ntmps229;go_wp2_with fail;refine hc.mono ?_;rintro ee w1 ⟨v,rfl,h1,a1,n1,c1,rfl⟩;clear hc h;have hb1:∀ w,(Instr.build 363 #[(0,.slice a1 n1 c1),(2,.bool true)]).run prog w=.ok (.agg #[.slice a1 n1 c1,.int .i64 0,.bool true]) w:=λw=>by kernel_rfl
 go_wp2_with ((with_reducible refine fC ⟨?_⟩);refine fB h1 ah ah ?_;intro bB wB hB);go_ret;exact ⟨_,rfl,bB,_,rfl,hB,RS.La hB.drop⟩
theorem abB (h:Sat w0 w (iW p rv::F)):Calls prog 256 #[ptr p] w (aN λv w'=>v=errno 0/\w=w'):=by
 have c1:w.cell? ⟨p,1,none⟩=some (errno 0):=h.cellAt 1 _ rfl;have c2:w.cell? ⟨p,2,none⟩=some (.bool true):=h.cellAt 2 _ rfl;go_enter func256,ntmps256;go_wp2;go_ret;exact ⟨_,rfl,rfl,rfl⟩
theorem TJ (hk:k<=m.length) (hr:RS w0 F rv m) (h:Sat w0 w (iW p rv::F)):Calls prog 255 #[ptr p,.int .i64 k] w (aN λv w'=>∃ ta tc ra rc,v=.tuple #[.slice ta k tc,.bool true]/\RS w0 F (.slice ta k tc) (m.take k)/\(∀ F0,RS w0 F0 rv m->RS w0 F0 (.slice ra (m.drop k).length rc) (m.drop k))/\Sat w0 w' (iW p (.slice ra (m.drop k).length rc)::F)):=by
 obtain ⟨ba,bc,ra,rc,rfl,h1,h2,GK,_⟩:=zl hr h.drop hk;have zD:∀ F0,RS w0 F0 (.slice ba m.length bc) m->RS w0 F0 (.slice ra (m.drop k).length rc) (m.drop k):=λF0 h0=>by
  have e:=(acn (a:=ba) (c:=bc) hk w).symm.trans (GK w);have e2:sliced ba k m.length bc 1=.slice ra (m.drop k).length rc:=by injection e
  rw [<-e2];exact h0.from hk
 have J9:=hr.to hk k (ab1 k) oQ;obtain ⟨ta,tc,he,_,_⟩:=J9.len h.drop;rw [show (m.take k).length=k by rw [adt];omega]at he;have hrunT:∀ w,(Instr.sliceAt 59 (.slice ba m.length bc) none (some (.int .i64 k)) (some (.int .i64 k))).run prog w=.ok (.slice ta k tc) w:=λw=>by rw [<-he];exact amc oQ w
 rw [he]at J9;have her:=abB h;have c0:¬ (k:Int)<0:=oQ;have c0d:decide ((k:Int)<0)=false:=aea c0;have c1:¬ (m.length:Int)<(k:Int):=oQ;have c1d:decide ((m.length:Int)<(k:Int))=false:=aea c1;have HT:=uQ J9;have HF:=uQ zD;clear hr J9 zD he h1 h2 hk;generalize (m.drop k).length=q at *
 go_enter func255,ntmps255;go_wp2_with fail;refine her.mono ?_;rintro ee w1 ⟨v,rfl,rfl,rfl⟩;clear her
 go_wp2_with (first
  |((with_reducible refine bC ⟨?_⟩);refine eY h ah aK bG ay au ?_)
  |((with_reducible refine afy ⟨?_⟩);refine an4 ah ah ah hrunT ?_)
  |((with_reducible refine Jy ⟨?_⟩);refine Nl ah ah GK ?_)
  |((with_reducible refine bW ⟨?_⟩);refine jM (v:= .slice ra q rc) h ah ah ah bU (by exact Nat.le_of_ble_eq_true ah) au ah ?_;intro w2 h2))
 go_ret2
 exact ⟨_,rfl,ta,tc,ra,rc,rfl,HT.o,HF.o,h2⟩
theorem aai {p : Prop} (h : p := by
 have her:=abB h;have htk:=TJ (k:=Dk) hk hr h;have Hl:=uQ (show (m.take Dk).length=Dk by rw [adt];((try simp only [Dk] at *);omega));clear hr hk;go_enter func231,ntmps231;go_wp2_with fail;refine her.mono ?_;rintro ee w1 ⟨v,rfl,rfl,rfl⟩;clear her;go_wp2_with fail;refine htk.mono ?_;rintro ee w2 ⟨v,rfl,ta,tc,ra,rc,rfl,hT,hF,h2⟩;have hg:=adn (m.take Dk) Hl.o ta tc (hT.rd w2 h2.drop);have HF:=uQ hF;obtain ⟨N,hN⟩:∃ N,Hid (aj.num (m.take Dk)=N):=⟨_,uQ rfl⟩;rw [hN.o]at hg;clear htk h hT hF Hl;go_wp2_with fail;refine hg.mono ?_;rintro ee w3 ⟨v,rfl,rfl,rfl⟩;clear hg;go_wp2;go_ret;exact ⟨_,rfl,_,by rw [hN.o];rfl,HF.o,h2⟩) : p := h
abbrev dM.Dk:Nat:=4
theorem dM.adn:type_of% @Qc:=@Qc
open dM in
theorem LK (hk:4<=m.length) (hr:RS w0 F rv m) (h:Sat w0 w (iW p rv::F)):Calls prog 231 #[ptr p,.int .i64 4] w (aN λv w'=>∃ rv',v=.int .u64 (aj.num (m.take 4):Nat)/\(∀ F0,RS w0 F0 rv m->RS w0 F0 rv' (m.drop 4))/\Sat w0 w' (iW p rv'::F)):=aai
abbrev dN.Dk:Nat:=8
theorem dN.adn:type_of% @Qd:=@Qd
open dN in
theorem abS (hk:8<=m.length) (hr:RS w0 F rv m) (h:Sat w0 w (iW p rv::F)):Calls prog 231 #[ptr p,.int .i64 8] w (aN λv w'=>∃ rv',v=.int .u64 (aj.num (m.take 8):Nat)/\(∀ F0,RS w0 F0 rv m->RS w0 F0 rv' (m.drop 8))/\Sat w0 w' (iW p rv'::F)):=aai
theorem akU (hk:32<=m.length) (hr:RS w0 F rv m) (h:Sat w0 w (iW p rv::F)):Calls prog 257 #[ptr p,.int .i64 32] w (aN λv w'=>∃ rv',(∀ F0,RS w0 F0 rv m->RS w0 F0 rv' (m.drop 32))/\(∃ a n c,v=.slice a n c)/\Sat w0 w' (aY v (m.take 32)::iW p rv'::F)):=by
 have htk:=TJ (k:=32) hk hr h;have Hl:=uQ (show (m.take 32).length<=140737488355328 by rw [adt];omega);clear hr hk;go_enter func257,ntmps257;go_wp2_with fail;refine htk.mono ?_;rintro ee w2 ⟨v,rfl,ta,tc,ra,rc,rfl,hT,hF,h2⟩;have hc:=xW h2 (hT.rd w2 h2.drop) Hl.o;have HF:=uQ hF;clear htk h hT hF;go_wp2_with fail;refine hc.mono ?_;rintro ee w3 ⟨v,rfl,h3,a3,n3,c3,rfl⟩;clear hc;go_wp2;go_ret;exact ⟨_,rfl,_,HF.o,⟨_,_,_,rfl⟩,h3⟩
theorem amg (hr:RS w0 F bv m) (h:Sat w0 w F) (hm:0<m.length):(convert 59 9 bv).run prog w=.ok (.string ⟨m.toArray⟩) w:=by
 obtain ⟨a,c,rfl,_,_⟩:=hr.len h;obtain ⟨bk,off,rfl,hc⟩:=oJ (hr.rd w h) (i:=0) (xU.2 ⟨m[0],aaJ hm,rfl⟩);refine run_convert_bytes_back (P:=prog) w _ _ 5 _ c m underlying59 underlying5 underlying9 (λj hj=>?_);have:=hc j _ (xU.2 ⟨m[j],aaJ hj,rfl⟩);rw [Addr.add_mid];exact this
theorem ab3 (hk:8<=m.length) (hr:RS w0 F rv m) (h:Sat w0 w (iW p rv::F)):Calls prog 230 #[ptr p,.int .i64 8] w (aN λv w'=>∃ rv',v=.string ⟨(m.take 8).toArray⟩/\(∀ F0,RS w0 F0 rv m->RS w0 F0 rv' (m.drop 8))/\Sat w0 w' (iW p rv'::F)):=by
 have htk:=TJ (k:=8) hk hr h;have Hl:=uQ (show 0<(m.take 8).length by rw [adt];omega);clear hr hk;go_enter func230,ntmps230;go_wp2_with fail;refine htk.mono ?_;rintro ee w2 ⟨v,rfl,ta,tc,ra,rc,rfl,hT,hF,h2⟩;have hcv:=amg hT h2.drop Hl.o;have HF:=uQ hF;clear htk h hT hF;go_wp2;go_ret;exact ⟨_,rfl,_,rfl,HF.o,h2⟩
end
section
variable {t:TypeId}{pos:String}{parts:Array (Nat×Operand)}
theorem anY (parts':Array (Nat×Value)) (he:parts.map (λp=>(p.1,a.eval p.2))=parts') (hr:∀ w,(Instr.build ty parts').run P w=.ok v w) (h:wpList P ops Q rest (a.put dst v) w):wpList P ops Q (⟨dst,.build ty parts,t,pos,after,none⟩::rest) a w:=
 ae5 rfl λ_ hK=>by
  unfold Oper.wp execOp;simp only [he,aed,hr,adW,aep];exact hK _ _ h
theorem afs (h:Stop (wpList P ops Q (⟨dst,.build ty parts,t,pos,after,none⟩::rest) a w)):wpList P ops Q (⟨dst,.build ty parts,t,pos,after,none⟩::rest) a w:=h.o
end
abbrev nI (mg:ByteArray) (kd:Bool) (k:Nat):Array Value:=#[.string mg,.bool kd,.int .i64 k]
abbrev QI:Array Value:=nI ⟨#[72,79,65,82,68,73,68,88]⟩ true 3
abbrev UJ:Array Value:=nI ⟨#[72,79,65,82,68,85,83,69]⟩ false 3
theorem adO:kD prog 270=some (.agg #[.string ⟨#[]⟩,.bool false,.int .i64 0]):=by kernel_rfl
theorem al0 (w:World):(Instr.build 270 #[(0,.string ⟨#[72,79,65,82,68,73,68,88]⟩),(1,.bool true),(2,.int .i64 3)]).run prog w=.ok (.agg QI) w:=by kernel_rfl
theorem amh (w:World):(Instr.build 270 #[(0,.string ⟨#[72,79,65,82,68,85,83,69]⟩),(1,.bool false),(2,.int .i64 3)]).run prog w=.ok (.agg UJ) w:=by kernel_rfl
theorem ZC (h:Sat w0 w F):Calls prog 162 #[] w (aN λv w'=>v=.agg QI/\Sat w0 w' F):=by
 go_enter func162,ntmps162;go_wp2_with (with_reducible apply eG);refine ⟨eU adO h rfl ?_⟩;intro b4 w4 h4;have hb:=al0
 go_wp2_with (first
  |((with_reducible refine bW ⟨?_⟩);refine fG QI h4 ah ah ah bU au ah ?_;intro w9 h9))
 refine ⟨rfl,_,wY rfl h9 ah bK underlying270 rfl au,?_⟩;exact ⟨_,rfl,rfl,h9.drop⟩
theorem ads (h:Sat w0 w F):Calls prog 167 #[] w (aN λv w'=>v=.agg UJ/\Sat w0 w' F):=by
 go_enter func167,ntmps167;go_wp2_with (with_reducible apply eG);refine ⟨eU adO h rfl ?_⟩;intro b4 w4 h4;have hb:=amh
 go_wp2_with (first
  |((with_reducible refine bW ⟨?_⟩);refine fG UJ h4 ah ah ah bU au ah ?_;intro w9 h9))
 refine ⟨rfl,_,wY rfl h9 ah bK underlying270 rfl au,?_⟩;exact ⟨_,rfl,rfl,h9.drop⟩
theorem ZK (mg:ByteArray) (kd:Bool) (k:Nat) (hk:k<=1000) (h:Sat w0 w F):Calls prog 232 #[.agg (nI mg kd k)] w (aN λv w'=>v=.int .i64 (aO.kM kd k:Nat)/\Sat w0 w' F):=by
 have e1:IntKind.i64.wrap (4*(k:Int))=4*(k:Int):=acO _ oQ;have e2:IntKind.i64.wrap (4*(k:Int)+32)=4*(k:Int)+32:=acO _ oQ;cases kd
 ·have e:=uQ (show ((aO.kM false k:Nat):Int)=4*(k:Int) by unfold aO.kM;simp);go_enter func232,ntmps232;go_wp2_with (with_reducible apply fC);refine ⟨fB h ah ah ?_⟩;intro b w1 h1;go_wp2_with ((with_reducible refine bC ⟨?_⟩);refine eY h1 ah aK bG ay au ?_);go_ret;exact ⟨_,rfl,by rw [e.o];rfl,h1.drop⟩
 ·have e:=uQ (show ((aO.kM true k:Nat):Int)=4*(k:Int)+32 by unfold aO.kM;simp);go_enter func232,ntmps232;go_wp2_with (with_reducible apply fC);refine ⟨fB h ah ah ?_⟩;intro b w1 h1;go_wp2_with ((with_reducible refine bC ⟨?_⟩);refine eY h1 ah aK bG ay au ?_);go_ret;exact ⟨_,rfl,by rw [e.o];rfl,h1.drop⟩
abbrev zZ (x:aO.Rw) (nv:Value):Array Value:=(aB x.key++[nv]).toArray
section
variable {na nb:Value}
theorem L6 {x:aO.Rw}{nv:Value}{j:Nat}{v:Value} (h:(aB x.key)[j]?=some v):(zZ x nv)[j]?=some v:=by
 have hj:j<(aB x.key).length:=by
  rcases aiN j (aB x.key).length with k|k
  ·exact k
  ·rw [aiT k]at h;cases h
 rw [aeh,aek hj];exact h
theorem CX {x:aO.Rw}{nv:Value} (hk:x.key.length=32):(zZ x nv)[32]?=some nv:=by
 rw [aeh,aew (by rw [aP,hk];exact ab1 32),aP,hk];rfl
theorem anq (a b:aj.Bs) (ha:a.length=32) (hb:b.length=32) (h:Sat w0 w F) :
  Calls prog 261 #[.agg (aB a).toArray,.agg (aB b).toArray] w (aN λv w'=>v=.bool (decide (a<b))/\Sat w0 w' F):=by
 have He:=uQ (show decide (Lib.compareBytes a b<0)=decide (a<b) from decide_eq_decide.2 (Tab.JF a b));go_enter func261,ntmps261;go_wp2_with (with_reducible apply fC);refine ⟨fB h ay ay ?_⟩;intro b2 w2 h2;go_wp2_with (with_reducible apply fC);refine ⟨fB h2 ay ay ?_⟩;intro b3 w3 h3;have hS:=h3.drew;have r1:aW 1 (.slice (some ⟨b2,0,none⟩) 32 32) (aB a) w3.drew:=⟨_,_,_,rfl,by rw [aP,ha],λj z hj=>⟨_,rfl,by rw [Bd,aeE];exact hS.cellP aT j zN0⟩⟩;have r2:aW 1 (.slice (some ⟨b3,0,none⟩) 32 32) (aB b) w3.drew:=⟨_,_,_,rfl,by rw [aP,hb],λj z hj=>⟨_,rfl,by rw [Bd,aeE];exact hS.cellP aK j zN0⟩⟩;have hbc:=WL a b r1 r2;generalize Lib.compareBytes a b=r at *
 clear h h2 h3 r1 r2 ha hb;go_wp2_with fail;have hG:True:=trivial;refine eF [] (λw'=>True) au ?_;refine rp 0 (hy:=yE0) (h:=?_);refine rp 1 (hy:=yE0) (h:=?_);refine cZ 2 ay au (λK hK=>?_)
 (refine jB au ay ay ?_)
 refine hbc.mono ?_;rintro e w' ⟨rfl,rfl⟩;refine hK _ _ (.inr (.inr rfl)) ?_;clear hK hbc;refine rP 3 ?_ (y:=lZ);refine rP 4 ?_ (y:=jU);refine dX au ?_;clear hG;go_wp2_with fail;go_ret;exact ⟨_,rfl,by rw [<-He.o];rfl,hS.drop.drop⟩
theorem afe (mg:ByteArray) (k:Nat) (a b:aO.Rw) (ha:a.key.length=32) (hb:b.key.length=32) (h:Sat w0 w F) :
  Calls prog 243 #[.agg (nI mg true k),.agg (zZ a na),.agg (zZ b nb)] w (aN λv w'=>v=.bool (decide (aO.ahead true a b))/\Sat w0 w' F):=by
 have He:=uQ (show decide (aO.ahead true a b)=decide (a.key<b.key) from decide_eq_decide.2 Iff.rfl);have hia:(prog.info? 34).map (·.size)=some (aB a.key).length:=by rw [aP,ha];kernel_rfl
 have hib:(prog.info? 34).map (·.size)=some (aB b.key).length:=by rw [aP,hb];kernel_rfl
 have Hl:=uQ (λ(w':World) (R:List aF) (hw:Sat w0 w' R)=>anq a.key b.key ha hb hw);clear ha hb;go_enter func243,ntmps243;go_wp2_with (with_reducible apply fC);refine ⟨fB h ay ay ?_⟩;intro b1 w1 h1;go_wp2_with (with_reducible apply fC);refine ⟨fB h1 ay ay ?_⟩;intro b2 w2 h2;go_wp2_with (with_reducible apply fC);refine ⟨fB h2 ay ay ?_⟩;intro b3 w3 h3;clear h h1 h2
 go_wp2_with (first
  |((with_reducible refine bC ⟨?_⟩);first
   |refine eY h3 ah (aU aT) bG ay au ?_
   |refine EW (o:=0) (aB a.key) h3 ah aT (λj v hj=>by rw [aeE];exact L6 hj) underlying34 rfl hia ?_
   |refine EW (o:=0) (aB b.key) h3 ah aK (λj v hj=>by rw [aeE];exact L6 hj) underlying34 rfl hib ?_))
 refine (Hl.o _ _ h3).mono ?_;rintro e w4 ⟨v,rfl,rfl,h4⟩;clear Hl h3;go_wp2;go_ret;exact ⟨_,rfl,by rw [He.o];rfl,h4.drop.drop.drop⟩
end
structure RV where
 x:aO.Rw
 nv:Value
def bQ (r:RV):List Value:=aB r.x.key++[r.nv]
structure uD (w0:World) (F:List aF) (r:RV):Prop where
 key:r.x.key.length=32
 rd:Ro w0 F (aW 1 r.nv (ints r.x.nums))
 ne:0<r.x.nums.length
section
variable {lv:Value}
theorem lV (r:RV) (h:r.x.key.length=32):(bQ r).length=33:=by unfold bQ;rw [aa7,aP,h];rfl
theorem uD.sub {r:RV}{G:List aF} (h:uD w0 F r) (k:Sub G F):uD w0 G r:=⟨h.key,Ro.of_sub h.rd k,h.ne⟩
theorem aaX {nv:Value}{l:List Int} (h:aW 1 nv (ints l) w) (hl:0<l.length):∃ bk off c,nv=.slice (some ⟨bk,off,none⟩) l.length c/\w.cell? ⟨bk,off,none⟩=some (.int .i64 (l.getD 0 0)):=by
 have h0:l[0]?=some (l.getD 0 0):=by rw [adV,aaJ hl];rfl
 obtain ⟨bk,off,cc,hsv,hcell⟩:=iL (f:=λi:Int=>[Value.int .i64 i]) (k:=1) (l:=l) (λu _=>rfl) yI0 h0 aG;have f0:=hcell 0 _ rfl;rw [aeo,aml]at f0;exact ⟨bk,off,cc,hsv,f0⟩
theorem aff (mg:ByteArray) (k:Nat) (a b:RV) (ha:uD w0 F a) (hb:uD w0 F b) (h:Sat w0 w F) :
  Calls prog 243 #[.agg (nI mg false k),.agg (zZ a.x a.nv),.agg (zZ b.x b.nv)] w (aN λv w'=>v=.bool (decide (aO.ahead false a.x b.x))/\Sat w0 w' F):=by
 obtain ⟨a,na⟩:=a;obtain ⟨b,nb⟩:=b;have He:=uQ (show decide (aO.ahead false a b)=decide (a.nums.getD 0 0<b.nums.getD 0 0) from decide_eq_decide.2 Iff.rfl);have Ha:=uQ ha;have Hb:=uQ hb;clear ha hb;go_enter func243,ntmps243;go_wp2_with (with_reducible apply fC);refine ⟨fB h ay ay ?_⟩;intro b1 w1 h1;go_wp2_with (with_reducible apply fC);refine ⟨fB h1 ay ay ?_⟩;intro b2 w2 h2;go_wp2_with (with_reducible apply fC);refine ⟨fB h2 ay ay ?_⟩;intro b3 w3 h3;clear h h1 h2;have hS:=h3.drew;obtain ⟨ka,oa,ca,e1,f1⟩:=aaX (Ha.o.rd _ hS.drop.drop.drop) Ha.o.ne;obtain ⟨kb,ob,cb,e2,f2⟩:=aaX (Hb.o.rd _ hS.drop.drop.drop) Hb.o.ne;dsimp only at e1 e2 f1 f2;subst e1 e2;have hG0:=And.intro (hS.cellP aT 32 (CX Ha.o.key)) (And.intro f1 (And.intro (hS.cellP aK 32 (CX Hb.o.key)) f2));have Oj:=uQ Ha.o.ne;have Ol:=uQ Hb.o.ne;dsimp only at Oj Ol;clear f1 f2
 generalize a.nums.getD 0 0=X at *
 generalize b.nums.getD 0 0=Y at *
 have q1:(0:Int)<(a.nums.length:Int):=by have:=Oj.o;omega
 have q2:(0:Int)<(b.nums.length:Int):=by have:=Ol.o;omega
 have q3:0<a.nums.length:=Oj.o;have q4:0<b.nums.length:=Ol.o;go_wp2_with ((with_reducible refine bC ⟨?_⟩);refine eY h3 ah (aU aT) bG ay au ?_);clear h3;refine eF [8,9] (λw'=>w'.cell? ⟨b2,32,none⟩=some (.slice (some ⟨ka,oa,none⟩) a.nums.length ca)/\w'.cell? ⟨ka,oa,none⟩=some (.int .i64 X)/\w'.cell? ⟨b3,32,none⟩=some (.slice (some ⟨kb,ob,none⟩) b.nums.length cb)/\w'.cell? ⟨kb,ob,none⟩=some (.int .i64 Y)) au ?_;have hG:=hG0;clear hG0;refine rP 0 ?_ (y:=dh);refine rt 1 (h:=?_);refine rP 2 ?_ (y:=iV);refine rt 3 (h:=?_);refine rP 4 ?_ (y:=dh);refine rt 5 (h:=?_);refine rP 6 ?_ (y:=iV);refine rt 7 (h:=?_);clear hG;refine rP 8 ?_ (y:=lZ);refine rP 9 ?_ (y:=jU);refine dX au ?_;go_wp2_with fail;go_ret;exact ⟨_,rfl,by rw [He.o];rfl,hS.drop.drop.drop⟩
theorem afg (mg:ByteArray) (kd:Bool) (k:Nat) (a b:RV) (ha:uD w0 F a) (hb:uD w0 F b) (h:Sat w0 w F) :
  Calls prog 243 #[.agg (nI mg kd k),.agg (zZ a.x a.nv),.agg (zZ b.x b.nv)] w (aN λv w'=>v=.bool (decide (aO.ahead kd a.x b.x))/\Sat w0 w' F):=by
 cases kd
 ·exact aff mg k a b ha hb h
 ·exact afe mg k a.x b.x ha.key hb.key h
theorem Td (mg:ByteArray) (kd:Bool) (k:Nat) (rs:List RV) (hn:rs.length<=1073741824) (hr:Ro w0 F (aW 33 lv (rs.flatMap bQ))) (he:∀ r∈rs,uD w0 F r) (h:Sat w0 w F) :
  Calls prog 207 #[.agg (nI mg kd k),lv] w (aN λv w'=>∃ t:Bool,v=.bool t/\(t=true↔aO.V4 kd (rs.map (·.x)))/\Sat w0 w' F):=by
 obtain ⟨la,lc,rfl⟩:=iP (λr hr=>lV r (he r hr).key) (hr w h) aG;have Hr:=uQ hr;have He:=uQ he;have Hn:=uQ hn;clear hr he hn;go_enter func207,ntmps207;go_wp2_with (with_reducible apply fC);refine ⟨fB h ay ay ?_⟩;intro b2 w2 h2;clear h;go_wp2_with fail
 go_loopg [5] rs.length (λg iq wr=>∃ m:Nat,g=rs.length-m/\iq=.int .i64 ((m:Int)+1)/\(∀ i a b,i<m->(rs.map (·.x))[i]?=some a->(rs.map (·.x))[i+1]?=some b->aO.ahead kd a b)/\m<=rs.length/\Sat w0 wr (pt b2 (.cells (nI mg kd k) 270 (0,0))::F))
 case atStart=>exact ⟨0,rfl,rfl,λi a b hi=>absurd hi (Nat.not_lt_zero _),ad4 _,h2⟩
 case round=>
  obtain ⟨m,rfl,rfl,hal,hm,hS⟩:=hrel;clear h2;have Fp:=uQ hal;clear hal;by_cases hlt:m+1<rs.length
  ·have c1:(m:Int)+1<(rs.length:Int):=by omega
   have c0:(m:Int)<(rs.length:Int):=oQ;have c2:(0:Int)<=(m:Int)+1:=oQ;have hw0:IntKind.i64.wrap (m:Int)=(m:Int):=acO _ yP0;have hw1:IntKind.i64.wrap ((m:Int)+1-1)=(m:Int):=by rw [Int.add_sub_cancel];exact hw0
   have hw2:IntKind.i64.wrap ((m:Int)+1+1)=(m:Int)+1+1:=acO _ yP0;obtain ⟨r1,hx1⟩:∃ q,rs[m]?=some q:=⟨_,aaJ oQ⟩;obtain ⟨r2,hx2⟩:∃ q,rs[m+1]?=some q:=⟨_,aaJ hlt⟩;have uz:=uQ hx1;have Jr:=uQ hx2;have H1:=uQ (He.o r1 (acr hx1));have H2:=uQ (He.o r2 (acr hx2));have hS1:=hS.drew;obtain ⟨bk,off,c',hsv,hc1⟩:=iL (f:=bQ) (k:=33) (λr hr=>lV r (He.o r hr).key) (Hr.o _ hS1.drop) hx1 aG;cases hsv;obtain ⟨DX,off',c2',e2,hc2⟩:=iL (f:=bQ) (k:=33) (λr hr=>lV r (He.o r hr).key) (Hr.o _ hS1.drop) hx2 aG;cases e2;have hG0:World.rangeAt _ b2 0 [.string mg,.bool kd,.int .i64 k]/\World.rangeAt _ bk (off+m*33) (bQ r1)/\World.rangeAt _ bk (off+(m+1)*33) (bQ r2):=⟨qp (l:=[.string mg,.bool kd,.int .i64 k]) hS1,hc1,hc2⟩;have hah:=afg mg kd k r1 r2 (H1.o.sub jS) (H2.o.sub jS) hS1;have aS:=uQ hlt;clear hx1 hx2 hc1 hc2 hlt hm hS
   by_cases hab:aO.ahead kd r1.x r2.x
   ·rw [aem hab]at hah;have xF:=uQ hab;clear hab;go_wp2_with fail;refine eF [10,11] (λw'=>w'.rangeAt b2 0 [.string mg,.bool kd,.int .i64 k]/\w'.rangeAt bk (off+m*33) (bQ r1)/\w'.rangeAt bk (off+(m+1)*33) (bQ r2)) au ?_;have hG:=hG0;clear hG0;refine gJ 0 ay au bP (lM (b:=b2) (o:=0) [.string mg,.bool kd,.int .i64 k] ah underlying270 rfl au (λw hw=>hw.1)) aQ gQ ?_;refine rP 1 ?_ (y:=bD);refine rP 2 ?_ (y:=bD);refine rP 3 ?_ (y:=lZ);refine rP 4 ?_ (y:=iV);refine gJ 5 ay au bP (lM (b:=bk) (o:=off+m*33) (bQ r1) ah underlying276 rfl zA0 (λw hw=>hw.2.1)) aQ gQ ?_;refine rP 6 ?_ (y:=bD);refine rP 7 ?_ (y:=bD);refine rP 8 ?_ (y:=iV);refine gJ 9 ay au bP (lM (b:=bk) (o:=off+(m+1)*33) (bQ r2) ah underlying276 rfl (by rw [lV _ H2.o.key];kernel_rfl) (λw hw=>hw.2.2)) aQ gQ ?_;clear hG;refine cZ 10 ay au (λK hK=>?_)
    (refine JK au ay ay ay ?_)
    refine hah.mono ?_;rintro ee w9 ⟨v,rfl,rfl,h9⟩;refine hK _ _ (.inl rfl) ?_;clear hK hah hS1;refine rP 11 ?_ (y:=(EY ay bY));refine dX au ?_;go_wp2_with fail
    go_roundg (rs.length-(m+1))
    case measure=>have:=aS.o;omega
    case rel=>
     refine ⟨m+1,rfl,by first|rfl|go_num,λi a b hi ha hb=>?_,Nat.le_of_lt aS.o,h9⟩;rcases Nat.lt_succ_iff_lt_or_eq.1 hi with hi|rfl
     ·exact Fp.o i a b hi ha hb
     ·rw [ad1,uz.o]at ha;rw [ad1,Jr.o]at hb;cases ha;cases hb;exact xF.o
   ·rw [aea hab]at hah;have xF:=uQ hab;clear hab;go_wp2_with fail;refine eF [10,11] (λw'=>w'.rangeAt b2 0 [.string mg,.bool kd,.int .i64 k]/\w'.rangeAt bk (off+m*33) (bQ r1)/\w'.rangeAt bk (off+(m+1)*33) (bQ r2)) au ?_;have hG:=hG0;clear hG0;refine gJ 0 ay au bP (lM (b:=b2) (o:=0) [.string mg,.bool kd,.int .i64 k] ah underlying270 rfl au (λw hw=>hw.1)) aQ gQ ?_;refine rP 1 ?_ (y:=bD);refine rP 2 ?_ (y:=bD);refine rP 3 ?_ (y:=lZ);refine rP 4 ?_ (y:=iV);refine gJ 5 ay au bP (lM (b:=bk) (o:=off+m*33) (bQ r1) ah underlying276 rfl zA0 (λw hw=>hw.2.1)) aQ gQ ?_;refine rP 6 ?_ (y:=bD);refine rP 7 ?_ (y:=bD);refine rP 8 ?_ (y:=iV);refine gJ 9 ay au bP (lM (b:=bk) (o:=off+(m+1)*33) (bQ r2) ah underlying276 rfl (by rw [lV _ H2.o.key];kernel_rfl) (λw hw=>hw.2.2)) aQ gQ ?_;clear hG;refine cZ 10 ay au (λK hK=>?_)
    (refine JK au ay ay ay ?_)
    refine hah.mono ?_;rintro ee w9 ⟨v,rfl,rfl,h9⟩;refine hK _ _ (.inl rfl) ?_;clear hK hah hS1;refine rP 11 ?_ (y:=(EY ay bY));refine dX au ?_;go_wp2_with fail;go_ret;refine ⟨_,rfl,false,rfl,⟨λk=>(by cases k),λk=>absurd (k m r1.x r2.x ?_ ?_) xF.o⟩,h9.drop⟩
    ·rw [ad1,uz.o];rfl
    ·rw [ad1,Jr.o];rfl
  ·have c1:¬ (m:Int)+1<(rs.length:Int):=by omega
   have aS:=uQ hlt;clear hlt hm;go_wp2;go_ret;refine ⟨_,rfl,.inr ⟨rfl,λi a b ha hb=>?_,hS.drop⟩⟩;have hi:=(acZ.1 hb).1;rw [abl]at hi;exact Fp.o i a b (by have:=aS.o;omega) ha hb
end
end Go.Proofs.Y
