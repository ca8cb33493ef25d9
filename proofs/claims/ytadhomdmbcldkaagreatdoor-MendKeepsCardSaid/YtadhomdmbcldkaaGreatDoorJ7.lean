import Derived.Test.YtadhomdmbcldkaaGreatDoorJ6
set_option linter.unusedSimpArgs false
variable {A H:Prop}
open Go.Proofs.Tryz
set_option maxRecDepth 20000
set_option linter.unusedVariables false
set_option maxHeartbeats 128000000
open Go Go.Sl Go.MapKept Go.RowKit
open Go.Proofs.YtadhomdmbcldkaaGreatDoor Go.Proofs.Y
variable {w w0:World}{v bv rv vx vy:Value}{F L:List aO}{n p sz c k:Nat}{P:Program}{l m:aG.Bs}{ops:Array Oper}{rest:List Oper}{a:Act}{Q:Exit->Act->World->Prop}{dst:Option Tmp}{ty:TypeId}{after:Array Edge}{x y:Operand}
theorem zG0(h:A:=by rw [abJ];have:=T.o;omega):A:=h
theorem zR0(h:A:=by (refine Or.inl ⟨by rfl,?_⟩;((intro x;go_simp);first|done|exact wQ))):A:=h
theorem zT0(h:A:=by go_simp;first|done|rfl):A:=h
namespace Go.aH
open Go.aG
open Go.aJ (gX)
open Go.aB (bT)
def wF (n:Int) (us:List gX) (i:Nat):Bool:=decide (i=us.length) && (decide (0<i) && decide ((us.getD (i-1) ⟨0,0,0⟩).aZ=n))
def Ns (sz:Int->Int) (s:Int) (u:gX):Bool:=decide (u.aZ=s) && (decide (u.size=sz s) && decide (u.live<=u.size))
def zW (sz:Int->Int) (n:Int) (us:List gX):List Int->Nat->Bool
 |[],i=>wF n us i
 |s::ss,i=>if n<s then wF n us i else match us[i]? with
  |none=>false
  |some u=>if Ns sz s u=true then zW sz n us ss (i+1) else false
def fC (L:aB.aS) (us:List gX) (n:Int):Bool:=zW L.size n us L.aX 0
theorem amA {sz:Int->Int}{n:Int}{us:List gX} (v:∀ u∈us,u.aZ<=n/\u.size=sz u.aZ/\u.live<=u.size) (t:us.getLast?.map (·.aZ)=some n) :
  ∀ (r:List Int) (i:Nat) (rest:List Int),r=(us.drop i).map (·.aZ)++rest->(∀ s∈rest,n<s)->i<=us.length->zW sz n us r i=true:=by
 have b:wF n us us.length=true:=by
  cases us with
  |nil=>cases t
  |cons u us=>
   unfold wF;have e:(u::us).getLast?=some ((u::us).getD ((u::us).length-1) ⟨0,0,0⟩):=by
    rw [ao2,abY];rw [aaf yD0];rfl
   rw [e]at t;simp only [am8,Option.some.injEq]at t;rw [t];simp
 intro r
 induction r with
 |nil=>
  intro i rest c d hi;have:=aiX List.length c;simp only [ajw,aay,abl,abJ]at this;obtain rfl:i=us.length:=oQ;exact b
 |cons s r f=>
  intro i rest c d hi;by_cases a:i<us.length
  ·have hd:us.drop i=us[i]::us.drop (i+1):=ajB a;rw [hd,aij,ajK]at c;obtain ⟨g,j⟩:=List.cons.inj c;obtain ⟨m,l,o⟩:=v us[i] (List.getElem_mem a);unfold zW;rw [abB oQ,aaf a];simp only;rw [abL (by unfold Ns;rw [g,l];simp;omega)];exact f (i+1) rest j d a
  ·obtain rfl:i=us.length:=oQ;rw [awm,ajz,ajc]at c;have:=d s (by rw [<-c];exact List.mem_cons_self);unfold zW;rw [abL this];exact b
def zB (p:bT) (sz:Int->Int):Bool:=decide (8<=p.aP) && (decide (41<=p.size) && decide (p.size<=sz p.aZ-p.aP))
def nY (us:List gX):Int->Int:=us.foldl (λf u=>λs=>if s=u.aZ then u.size else f s) λ_=>0
theorem ahs (us:List gX) (u:gX):nY (us++[u])=λs=>if s=u.aZ then u.size else nY us s:=by unfold nY;rw [asl];rfl
theorem atA {us:List gX} (h:(us.map (·.aZ)).Nodup){u:gX} (a:u∈us):nY us u.aZ=u.size:=by
 rw [<-List.reverse_reverse us]at h a ⊢;generalize us.reverse=r at *
 induction r with
 |nil=>cases a
 |cons v r c=>
  rw [List.reverse_cons]at h a ⊢;rw [ahs];rw [acy,List.nodup_append]at h;rcases ahc.1 a with a|a
  ·have b:u.aZ≠v.aZ:=h.2.2 _ (abI.2 ⟨u,a,rfl⟩) _ yD0;simp only;rw [abB b];exact c h.1 a
  ·rw [acS.1 a];simp
theorem abn {M:aG}{lim:Int} (hoff:M.off=false) (s:Int):s∈(aB.dK M lim).aX↔(0<=s/\s<1048576)/\∃ i,dN M.aN (aB.name s)=some i:=by
 constructor
 ·intro hs;unfold aB.aS.aX at hs;obtain ⟨x,hx,rfl⟩:=abI.1 hs;obtain ⟨t,ht,hn,rfl⟩:=aB.EH hx;obtain ⟨a,b,c⟩:=aB.E5 hn;refine ⟨⟨a,b⟩,?_⟩;simp only;rw [c];exact aB.adn ht
 ·rintro ⟨⟨a,b⟩,i,hi⟩;have:=aB.amN (lim:=lim) hoff a b hi;unfold aB.nf at this;exact ajq this
end Go.aH
namespace Go.aB
open Go.aG
open Go.ay (Bs fO bU gV iJ aT)
open Go.aJ
theorem Ud:∀ {l l':List Int},l.Pairwise (· < ·)->l'.Pairwise (· < ·)->(∀ p,p∈l↔p∈l')->l=l'
 |[],[],_,_,_=>rfl
 |[],b::l',_,_,h=>by have:=(h b).2 (.head _);cases this
 |a::l,[],_,_,h=>by have:=(h a).1 (.head _);cases this
 |a::l,b::l',h1,h2,h=>by
  obtain ⟨a1,a2⟩:=ajk.1 h1;obtain ⟨b1,b2⟩:=ajk.1 h2;have hab:a=b:=by
   rcases ab9.1 ((h a).1 (.head _)) with e|h3
   ·exact e
   ·rcases ab9.1 ((h b).2 (.head _)) with e|h4
    ·exact e.symm
    ·have:=b1 a h3;have:=a1 b h4;omega
  subst hab
  congr 1
  refine Ud a2 b2 λp=>?_;have:=h p;rw [ab9,ab9]at this;constructor
  ·intro hp;rcases this.1 (.inr hp) with e|h3
   ·subst e;have:=a1 p hp;omega
   ·exact h3
  ·intro hp;rcases this.2 (.inr hp) with e|h3
   ·subst e;have:=b1 p hp;omega
   ·exact h3
structure qP (L:aS) (c:Nat) (us:List gX) (ps:List (Bs×bT)):Prop where
 aX:us.map (·.aZ)=L.aX.take c
 kJ:∀ u∈us,0<=u.live/\u.live<=u.size/\u.size=L.size u.aZ/\u.size<=33554432
 key:∀ q∈ps,q.1.length=32
 jA:ps.Pairwise λa b=>a.1<b.1
 plc:∀ q∈ps,8<=q.2.aP/\41<=q.2.size/\q.2.aP+q.2.size<=L.size q.2.aZ/\q.2.aZ∈L.aX.take c
end Go.aB
namespace Go.aH
open Go.aG
open Go.aB (aS ny Holds HG qP dL)
open Go.ay (fO bU gV iJ aT)
open Go.aJ (gX)
section
variable {n K r E B:Nat}{L:aS}{M:aG}{C:List (List aT)}{N:Int}{b1 b2:ay.Bs}
theorem DJ (k:Int):tmp≠aB.name k:=λe=>by
 rcases PX k with q|⟨q,_⟩
 ·rw [q]at e;exact Xg e
 ·rw [<-e]at q;exact absurd q aU
end
open Go.aG
open Go.aB (aS ny Holds HG qP dL bT)
open Go.ay (fO bU gV iJ aT)
open Go.aJ (gX)
theorem alA {M:aG}{s:ByteArray}{p:ByteArray×Nat} (h:p∈(M.dM s).1.aN):p∈M.aN\/p.1=s:=by
 obtain ⟨_,e1,e2,e3,e4⟩:=M.qg;unfold aG.dM at h;split at h;· exact .inl h
 split at h;· exact .inl h
 rename_i hg;split at h;· exact .inl h
 split at h;· exact .inl h
 split at h;· rw [e2]at h;exact .inl h
 have h2:p∈lY.on ⟨ByteArray.empty,s,M.dU.length⟩ M.step.1.aN:=h;rw [e2]at h2;unfold lY.on at h2;simp only [auT,abB (yx (by simpa using hg):s≠ByteArray.empty)]at h2;rcases ab9.1 ((BG _ _ _).mem_iff.1 h2) with rfl|h3
 ·exact .inr rfl
 ·exact .inl (ai4.1 h3).1
theorem Zm (M:aG) (s:ByteArray) (b:Bs):(M.append s b).1.aN=M.aN:=by
 obtain ⟨_,e1,e2,e3,e4⟩:=M.qg;unfold aG.append;split;· rfl
 split;· rfl
 split;· rfl
 split;· exact e2
 exact e2
theorem Qc (M:aG) (s:ByteArray):(M.dY s).1.aN=M.aN:=by
 obtain ⟨_,e1,e2,e3,e4⟩:=M.qg;unfold aG.dY;split;· rfl
 split;· rfl
 split;· exact e2
 exact e2
theorem Xd (M:aG):M.fU.1.aN=M.aN:=by
 obtain ⟨_,e1,e2,e3,e4⟩:=M.qg;unfold aG.fU;split;· rfl
 split;· exact e2
 exact e2
theorem aro {M:aG}{s:ByteArray}{p:ByteArray×Nat} (h:p∈(M.dA s).1.aN):p∈M.aN:=by
 obtain ⟨_,c,b,d,e⟩:=M.qg;unfold aG.dA at h;split at h;· exact h
 split at h;· exact h
 split at h;· rw [b]at h;exact h
 have a:p∈lY.on ⟨s,ByteArray.empty,0⟩ M.step.1.aN:=h;rw [b]at a;unfold lY.on at a;simp only [auT]at a;split at a
 ·exact a
 ·exact (ai4.1 a).1
def kS (M M':aG):Prop:=∀ p∈M'.aN,p∈M.aN\/∃ k,p.1=aB.name k
theorem kS.refl (M:aG):kS M M:=λp hp=> .inl hp
theorem kS.trans {A B D:aG} (h:kS A B) (k:kS B D):kS A D:=λp hp=>by
 rcases k p hp with q|q
 ·exact h p q
 ·exact .inr q
theorem kS.DF {A B:aG} (h:B.aN=A.aN):kS A B:=λp hp=> .inl (by rw [<-h];exact hp)
theorem ahp (L:aS) (M:aG):kS M (L.fA M).1.2:=by
 unfold aS.fA;split;· exact kS.refl M
 split
 ·split <;> exact kS.DF (Qc M _)
 ·exact kS.refl M
theorem akP (L:aS) (M:aG) (b:Bs):kS M (L.nC M b).1.2:=by
 have d:kS M (M.dM (aB.name L.next)).1:=λp a=>(alA a).imp id λe=>⟨_,e⟩;have c:kS M ((M.dM (aB.name L.next)).1.append (aB.name L.next) (dL++b)).1:=d.trans (kS.DF (Zm _ _ _));unfold aS.nC;split;· exact kS.refl M
 split;· exact d
 split;· exact c
 split
 ·exact c.trans λp a=> .inl (aro a)
 ·exact c
theorem Ob (L:aS) (M:aG) (x:aT):kS M (L.append M x).1.2:=by
 unfold aS.append;split;· exact kS.refl M
 split
 ·unfold aS.grow;split
  ·exact kS.refl M
  ·split <;> exact kS.DF (Zm _ _ _)
 ·unfold aS.begin;split
  ·exact (ahp L M).trans (akP _ _ _)
  ·exact ahp L M
theorem Um (L:aS) (M:aG):kS M (L.jO M).1.2:=by
 have h:=Ob L M aB.gq;rw [aB.aS.MV];split;· exact h
 split;· exact h.trans (kS.DF (Qc _ _))
 split;· exact h.trans ((kS.DF (Qc _ _)).trans (kS.DF (Xd _)))
 exact h.trans ((kS.DF (Qc _ _)).trans (kS.DF (Xd _)))
section
variable {n K B c:Nat}{L:aS}{M M':aG}{C:List (List aT)}{N:Int}{b1 b2:ay.Bs}{us:List gX}
theorem amy (n:L.Ok){ps:List (ay.Bs×bT)} (h:qP L c us ps) (o:L.aX.take c=L.aX) (k:L.aX.getLast?=some N):fC L us N=true:=by
 have d:∀ s∈L.aX,s<=N:=λs b=>by
  have⟨m,e⟩:=List.getLast?_eq_some_iff.1 k;have f:=aB.Fp n;rw [e]at b f;rcases ahc.1 b with b|b
  ·have:=(ajJ.1 f).2.2 s b N yD0;omega
  ·rw [acS.1 b];exact avf _
 have a:us.map (·.aZ)=L.aX:=by rw [h.aX,o]
 unfold aH.fC;refine amA (λu g=>?_) ?_ _ 0 [] (by rw [av5,a,ahB]) (λs b=>by cases b) (acn _)
 ·have i:u.aZ∈L.aX:=by rw [<-a];exact abI.2 ⟨u,g,rfl⟩
  have⟨_,j,l,_⟩:=h.kJ u g;exact ⟨d _ i,l,j⟩
 ·rw [<-asq,a];exact k
end
open Go.aG
section
variable {s t:ByteArray}{b b1 b2:Bs}{K r:Nat}{M M':aG}{n:Int}
theorem yh (q:jL M):(M.all t).2=0↔∃ i,dN M.aN t=some i:=by
 cases h:dN M.aN t with
 |none=>rw [aB.zi q h];simp
 |some i=>rw [aB.sN q h];simp
structure Wr (s:ByteArray) (b:Bs) (K r:Nat) (M:aG) (R:aG×Int):Prop where
 dV:aB.gU K r R.1
 tmp:dN R.1.aN aH.tmp=none
 len:R.1.aN.length<=M.aN.length+1
 cO:R.1.cO<=M.cO+b.length
 kU:∀ t,t≠aH.tmp->t≠s->R.1.all t=M.all t
 ku:∀ p∈R.1.aN,p∈M.aN\/p.1=s
 done:R.2=0/\R.1.all s=(b,0)\/R.2=11/\R.1.aN=M.aN/\∀ t,R.1.all t=M.all t
 room:M.cO+b.length<=r->R.2=0
theorem KY (h:aB.gU K r M) (ht:dN M.aN tmp=none) (hl:M.aN.length<500) (hg:dW s=true) (hst:s≠tmp):Wr s b (K+5) r M (gG M s b):=by
 have T:tJ M=(M,0):=by unfold tJ;rw [Xe h.fE ht];rfl
 obtain ⟨N,O,P,U,V⟩:=aB.MW h am1 ht hl;have u:=h.dM tmp;have hi:dN (M.dM tmp).1.aN tmp=some M.dU.length:=by rw [O];exact aB.Hw h.ok.jR.sU _ _
 have o:=u.room;have W:gG M s b=fill (M.dM tmp).1 s b:=by
  unfold gG;rw [T,abL rfl,abL N]
 rw [W];have D:=yx hg;rcases aB.zS u.fE tmp b with ⟨E,_⟩|⟨j,E,⟨Q,F⟩|⟨Q,F⟩⟩
 ·rw [hi]at E;cases E
 ·have R:=aB.Pz u.fE hi;have G:=u.dA tmp;have hf:fill (M.dM tmp).1 s b=(((M.dM tmp).1.dA tmp).1,11):=by
   have f1:((M.dM tmp).1.append tmp b).2=11:=by rw [F]
   have f2:((M.dM tmp).1.append tmp b).1=(M.dM tmp).1:=by rw [F]
   unfold fill;rw [abB (by rw [f1];decide),abL f1,f2,abL (by rw [R])]
  have i:aB.nH M ((M.dM tmp).1.dA tmp).1:=by
   rcases aB.Gs h.fE tmp with ⟨X,_⟩|⟨_,hn,_,c⟩
   ·exact absurd N X
   rw [R,c];refine ⟨?_,rfl,rfl,λp m=>?_⟩
   ·show lY.on ⟨tmp,ByteArray.empty,0⟩ (qp M.aN tmp M.dU.length)=M.aN;unfold lY.on;simp only [abB Xg,auT];exact aB.UK hn
   ·have:=h.ok.jR.qG p m;simp only [aG.file,aG.kL,abY];rw [aiS this]
  rw [hf];refine ⟨G.mono oQ,by rw [i.aN];exact ht,by rw [i.aN];omega,by rw [i.cO];omega,λt _ _=>i.all t,λp m=> .inl (by rw [<-i.aN];exact m),.inr ⟨rfl,i.aN,i.all⟩,λhh=>?_⟩;rw [P,o]at Q;omega
 ·obtain ⟨b1,b2,Y,Z,b5⟩:=aB.MF u hi b oQ;have i:=u.append tmp b;have w:dN ((M.dM tmp).1.append tmp b).1.aN tmp=some M.dU.length:=by rw [b2];exact hi
  have es:=i.fE.KI w;have g:=i.dY tmp;have H:(((M.dM tmp).1.append tmp b).1.dY tmp).2=0:=by rw [es]
  have l:=aB.Qa i.ok i.fE tmp;have x:dN (((M.dM tmp).1.append tmp b).1.dY tmp).1.aN tmp=some M.dU.length:=by rw [l.aN];exact w
  have y:=aB.gU.kC g tmp s;have B:(((M.dM tmp).1.append tmp b).1.dY tmp).1.kC tmp s=((((M.dM tmp).1.append tmp b).1.dY tmp).1.kL ⟨tmp,s,M.dU.length⟩,0):=by
   unfold aG.kC;rw [g.fE.off,g.fE.step,x,hg];simp
  have hf:fill (M.dM tmp).1 s b=(((M.dM tmp).1.append tmp b).1.dY tmp).1.kC tmp s:=by
   unfold fill;rw [abL b1,abL H]
  rw [hf];have n:=l.all;have d:(((M.dM tmp).1.append tmp b).1.dY tmp).1.aN=qp M.aN tmp M.dU.length:=by rw [l.aN,b2,O]
  have I:(((M.dM tmp).1.append tmp b).1.dY tmp).1.cO=M.cO+b.length:=by rw [l.cO,Y,P]
  have z:(((M.dM tmp).1.append tmp b).1.dY tmp).1.all tmp=(b,0):=by rw [n,Z,U];rfl
  have J:∀ t,t≠tmp->(((M.dM tmp).1.append tmp b).1.dY tmp).1.all t=M.all t:=λt A=>by rw [n,b5 t A,V t A]
  generalize (((M.dM tmp).1.append tmp b).1.dY tmp).1=f at *
  have a:(f.kC tmp s).1.aN=qp (jY (qp M.aN tmp M.dU.length) tmp) s M.dU.length:=by
   rw [B];show lY.on _ f.aN=_;rw [d];unfold lY.on;simp only [abB Xg,abB D]
  rw [aB.UK ht]at a;have e:(f.kC tmp s).1.file=f.file:=by rw [B];rfl
  have L:=y.fE;refine ⟨y.mono oQ,?_,?_,?_,λt A S=>?_,λp m=>?_,.inl ⟨by rw [B],?_⟩,λ_=>by rw [B]⟩
  ·rw [a,aB.G9 (Ne.symm hst)];exact ht
  ·rw [a];exact apL _ _ _
  ·rw [<-I];show ((f.kC tmp s).1.aN.map λp=>((f.kC tmp s).1.file p.2).aN.length).sum<=(f.aN.map λp=>(f.file p.2).aN.length).sum;rw [a,e,d];rw [KF _ _ _ (λj=>(f.file j).aN.length),KF _ _ _ (λj=>(f.file j).aN.length),EX ht];have S:=P7 M.aN s (λj=>(f.file j).aN.length);omega
  ·have v:dN (f.kC tmp s).1.aN t=dN M.aN t:=by rw [a,aB.G9 S]
   have C:dN f.aN t=dN M.aN t:=by rw [d,aB.G9 A]
   rw [<-J t A];cases hj:dN M.aN t with
   |none=>rw [hj]at v C;rw [aB.zi L v,aB.zi g.fE C]
   |some j=>rw [hj]at v C;rw [aB.sN L v,aB.sN g.fE C,e]
  ·rw [a]at m;rcases ab9.1 ((BG _ _ _).mem_iff.1 m) with rfl|m
   ·exact .inr rfl
   ·exact .inl (ai4.1 m).1
  ·have v:dN (f.kC tmp s).1.aN s=some M.dU.length:=by rw [a];exact aB.Hw h.ok.jR.sU _ _
   rw [aB.sN L v,e];rw [aB.sN g.fE x]at z;exact z
theorem Kq (h:aB.gU K r M){i:Nat} (hi:dN M.aN s=some i):(M.dA s).2=0/\(M.dA s).1.aN=jY M.aN s/\(∀ t,t≠s->(M.dA s).1.all t=M.all t)/\(M.dA s).1.cO<=M.cO:=by
 have d:=aB.Pz h.fE hi;have g:=h.dA s;have f:s≠ByteArray.empty:=λe=>h.ok.jR.ne _ (lZ hi) e;have a:(M.dA s).1.aN=jY M.aN s:=by
  rw [d];show lY.on ⟨s,ByteArray.empty,0⟩ M.aN=_;unfold lY.on;simp only [abB f,auT]
 have b:(M.dA s).1.file=M.file:=by rw [d];rfl
 refine ⟨by rw [d],a,λt l=>?_,?_⟩
 ·have c:dN (M.dA s).1.aN t=dN M.aN t:=by rw [a,aB.Ox l]
  cases hj:dN M.aN t with
  |none=>rw [hj]at c;rw [aB.zi g.fE c,aB.zi h.fE hj]
  |some j=>rw [hj]at c;rw [aB.sN g.fE c,aB.sN h.fE hj,b]
 ·show ((M.dA s).1.aN.map λp=>((M.dA s).1.file p.2).aN.length).sum<=(M.aN.map λp=>(M.file p.2).aN.length).sum;rw [a,b];exact P7 M.aN s (λj=>(M.file j).aN.length)
structure Sw (p:ByteArray->Bool) (K r:Nat) (l:List ByteArray) (M:aG) (R:aG×Int):Prop where
 zero:R.2=0
 dV:aB.gU K r R.1
 sub:∀ q∈R.1.aN,q∈M.aN
 len:R.1.aN.length<=M.aN.length
 cO:R.1.cO<=M.cO
 kU:∀ t,p t=false->R.1.all t=M.all t
 gB:∀ q∈R.1.aN,q.1∈l->p q.1=false
theorem P9 {p:ByteArray->Bool}:∀ (l:List ByteArray) (K:Nat) (M:aG),aB.gU K r M->l.Nodup->(∀ f∈l,∃ i,dN M.aN f=some i)->Sw p (K+l.length) r l M (lI p l M)
 |[],K,M,h,_,_=>⟨rfl,h,λq c=>c,abG _,abG _,λ_ _=>rfl,λ_ _ b=>by cases b⟩
 |f::l,K,M,h,hd,hh=>by
  obtain ⟨n,m⟩:=ao5.1 hd;unfold lI;split
  ·rename_i j;have⟨i,hi⟩:=hh f (.head _);have⟨o,d,s,u⟩:=Kq h hi;rw [abL o]
   have a:=P9 (p:=p) l (K+1) (M.dA f).1 (h.dA f) m (λg hg=>by
    rw [d,aB.Ox (λe=>n (by rw [<-e];exact hg))];exact hh g (.tail _ hg))
   refine ⟨a.zero,a.dV.mono (by rw [aiT];omega),λq c=>?_,abQ a.len (by rw [d];exact EW M.aN f),abQ a.cO u,λt k=>?_,λq c b=>?_⟩
   ·have:=a.sub q c;rw [d]at this;exact (ai4.1 this).1
   ·rw [a.kU t k,s t (λe=>by rw [e,j]at k;cases k)]
   ·rcases ab9.1 b with e|b
    ·have:=a.sub q c;rw [d]at this;have:=(ai4.1 this).2;rw [e]at this;simp [bne,tY]at this
    ·exact a.gB q c b
  ·rename_i j;have a:=P9 (p:=p) l K M h m (λg hg=>hh g (.tail _ hg));refine ⟨a.zero,a.dV.mono (by rw [aiT];omega),a.sub,a.len,a.cO,a.kU,λq c b=>?_⟩;rcases ab9.1 b with e|b
   ·rw [e];simpa using j
   ·exact a.gB q c b
theorem ad5 (h:aB.gU K r M):(M.aN.map (·.1)).Nodup:=h.ok.jR.sU.keys
structure Svd (n:Int) (b1 b2:Bs) (K r:Nat) (M:aG) (R:aG×Int):Prop where
 dV:aB.gU K r R.1
 tmp:dN R.1.aN aH.tmp=none
 len:R.1.aN.length<=M.aN.length+2
 cO:R.1.cO<=M.cO+b1.length+b2.length
 kU:∀ t,t≠aH.tmp->t≠name gY n->t≠name kJ n->kU n t=false->R.1.all t=M.all t
 ku:∀ p∈R.1.aN,p∈M.aN\/p.1=name gY n\/p.1=name kJ n
 done:R.2=0/\R.1.all (name gY n)=(b1,0)/\R.1.all (name kJ n)=(b2,0)\/R.2=11
 room:M.cO+b1.length+b2.length<=r->R.2=0
 gB:R.2=0->∀ p∈R.1.aN,aH.kU n p.1=false
theorem WH (h:aB.gU K r M) (X:dN M.aN tmp=none) (Y:M.aN.length<=480) (V:0<=n) (W:n<1048576):Svd n b1 b2 (K+600) r M (nO M n b1 b2):=by
 have J:=JU (ld:=gY) rfl aU n V W;have L:=JU (ld:=kJ) rfl aU n V W;have E:=acG n V W;have N:=ah8 n V W;have ne:=EU n V W;have O:=aem (Ah (.inl EM) n V W);have P:=aem (Ah (.inr KR) n V W);have g:=KY (b:=b1) h X oQ J E;unfold nO;by_cases A:(gG M (name gY n) b1).2=0;rotate_left
 ·rw [abB A];have z:(gG M (name gY n) b1).2=11:=by
   rcases g.done with ⟨e,_⟩|⟨e,_⟩
   ·exact absurd e A
   ·exact e
  exact ⟨g.dV.mono oQ,g.tmp,by have:=g.len;omega,by have:=g.cO;omega,λt a b _ _=>g.kU t a b,λp v=>(g.ku p v).imp id .inl,.inr z,λQ=>g.room oQ,λe=>absurd e A⟩
 rw [abL A];have R:(gG M (name gY n) b1).1.all (name gY n)=(b1,0):=by
  rcases g.done with ⟨_,e⟩|⟨e,_⟩
  ·exact e
  ·rw [e]at A;cases A
 have l:=KY (b:=b2) g.dV g.tmp (by have:=g.len;omega) L N;unfold WC;generalize j:(gG M (name gY n) b1).1=C at *
 by_cases B:(gG C (name kJ n) b2).2=0;rotate_left
 ·rw [abB B];have z:(gG C (name kJ n) b2).2=11:=by
   rcases l.done with ⟨e,_⟩|⟨e,_⟩
   ·exact absurd e B
   ·exact e
  refine ⟨l.dV.mono oQ,l.tmp,?_,?_,λt a b c _=>?_,λp v=>?_,.inr z,λQ=>?_,λe=>absurd e B⟩
  ·have:=g.len;have:=l.len;rw [j]at *;omega
  ·have:=g.cO;have:=l.cO;rw [j]at *;omega
  ·have:=g.kU t a b;rw [j]at this;rw [l.kU t a c,this]
  ·rcases l.ku p v with q|q
   ·have:=g.ku p (by rw [j];exact q);exact this.imp id .inl
   ·exact .inr (.inr q)
  ·have:=g.cO;rw [j]at this;exact l.room oQ
 rw [abL B];have S:(gG C (name kJ n) b2).1.all (name kJ n)=(b2,0):=by
  rcases l.done with ⟨_,e⟩|⟨e,_⟩
  ·exact e
  ·rw [e]at B;cases B
 have T:(gG C (name kJ n) b2).1.all (name gY n)=(b1,0):=by rw [l.kU _ E ne,R]
 generalize m:(gG C (name kJ n) b2).1=x at *
 have F:aB.gU (K+5+5) r x:=by have:=l.dV;rw [m]at this;exact this
 have hd:=F.fE.KH;have o:=F.fU;unfold WE;rw [abL (by rw [hd])];have D:x.fU.1.aN=x.aN:=by rw [hd]
 have U:x.fU.1.cO=x.cO:=by rw [hd];rfl
 have u:∀ t,x.fU.1.all t=x.all t:=λt=>by rw [hd];rfl
 generalize x.fU.1=y at *
 have w:=o.fE.list
 have s:=P9 (p:=kU n) y.list (K+5+5) y o (by rw [w];exact ad5 o) (λf hf=>by
  rw [w]at hf;obtain ⟨p,v,rfl⟩:=abI.1 hf;exact ⟨p.2,G8 o.ok.jR.sU.keys v⟩)
 have G:y.list.length<=500:=by rw [w,abl];exact o.ok.jR.len
 refine ⟨s.dV.mono oQ,?_,?_,?_,λt a b c d=>?_,λp v=>?_,.inl ⟨s.zero,?_,?_⟩,λ_=>s.zero,λ_ p v=>s.gB p v (by rw [w];exact abI.2 ⟨p,s.sub p v,rfl⟩)⟩
 ·cases hi:dN (lI (kU n) y.list y).1.aN tmp with
  |none=>rfl
  |some i=>
   have q:=s.sub _ (lZ hi);have:=G8 o.ok.jR.sU.keys q;rw [D]at this;have e:=l.tmp;rw [m,this]at e;cases e
 ·have:=s.len;have:=g.len;have:=l.len;rw [j]at *;rw [m]at *;rw [D]at *;omega
 ·have:=s.cO;have:=g.cO;have:=l.cO;rw [j]at *;rw [m]at *;omega
 ·have H:=g.kU t a b;have I:=l.kU t a c;rw [j]at H;rw [m]at I;rw [s.kU t d,u,I,H]
 ·have q:=s.sub p v;rw [D]at q;rcases l.ku p (by rw [m];exact q) with q|q
  ·have:=g.ku p (by rw [j];exact q);exact this.imp id .inl
  ·exact .inr (.inr q)
 ·rw [s.kU _ O,u,T]
 ·rw [s.kU _ P,u,S]
end
end Go.aH
namespace Go.bH
open Go.ay (Bs le bD nK EZ)
structure Rw where
 key:Bs
 eU:List Int
def ou (ns:List Int):Bs:=ns.flatMap λn=>le n.toNat 4
def BO (kd:Bool) (r:Rw):Bs:=(if kd then r.key else [])++ou r.eU
def nN (kd:Bool) (l:List Rw):Bs:=l.flatMap (BO kd)
def body (mg:Bs) (kd:Bool) (l:List Rw):Bs:=mg++le l.length 4++nN kd l
def jM (X:Bs->Nat) (mg:Bs) (kd:Bool) (l:List Rw):Bs:=body mg kd l++le (X (body mg kd l)) 8
structure CO (k:Nat) (r:Rw):Prop where
 key:r.key.length=32
 len:r.eU.length=k
 bD:∀ n∈r.eU,0<=n/\n<=4294967295
def ahead (kd:Bool) (a b:Rw):Prop:=if kd then a.key<b.key else a.eU.getD 0 0<b.eU.getD 0 0
instance (kd:Bool) (a b:Rw):Decidable (ahead kd a b):=by unfold ahead;infer_instance
def Za (kd:Bool) (l:List Rw):Prop:=∀ i a b,l[i]?=some a->l[i+1]?=some b->ahead kd a b
structure Ok (k:Nat) (kd:Bool) (l:List Rw):Prop where
 len:l.length<=65536
 row:∀ r∈l,CO k r
 jA:Za kd l
section
variable {X:Bs->Nat}{mg:Bs}{kd:Bool}{l:List Rw}{r:Rw}{k i:Nat}{n:Int}{ns:List Int}
theorem aee:ou []=[]:=rfl
theorem UY (n:Int) (ns:List Int):ou (n::ns)=le n.toNat 4++ou ns:=rfl
theorem apP (a b:List Int):ou (a++b)=ou a++ou b:=by unfold ou;rw [ai5]
theorem aed (ns:List Int):(ou ns).length=4*ns.length:=by
 induction ns with
 |nil=>rfl
 |cons n ns ih=>rw [UY,aay,nK,ih,aiT];omega
theorem V6:nN kd []=[]:=rfl
theorem V4 (r:Rw) (l:List Rw):nN kd (r::l)=BO kd r++nN kd l:=rfl
theorem arO (a b:List Rw):nN kd (a++b)=nN kd a++nN kd b:=by unfold nN;rw [ai5]
def nX (kd:Bool) (k:Nat):Nat:=4*k+if kd then 32 else 0
theorem arN (h:CO k r):(BO kd r).length=nX kd k:=by
 unfold BO nX;rw [aay,aed,h.len];cases kd
 ·simp
 ·rw [abL rfl,abL rfl,h.key];omega
theorem V5:∀ (l:List Rw),(∀ r∈l,CO k r)->(nN kd l).length=l.length*nX kd k
 |[],_=>by simp [V6]
 |r::l,h=>by
  rw [V4,aay,arN (h r (.head _)),V5 l (λx hx=>h x (.tail _ hx)),aiT,as3];omega
theorem Gj (hm:mg.length=8) (h:∀ r∈l,CO k r):(body mg kd l).length=12+l.length*nX kd k:=by
 unfold body;rw [aay,aay,hm,nK,V5 l h]
theorem Gl (hm:mg.length=8) (h:∀ r∈l,CO k r):(jM X mg kd l).length=20+l.length*nX kd k:=by
 unfold jM;rw [aay,Gj hm h,nK];omega
theorem PK (hk:k<=3):nX kd k<=44:=by unfold nX;split <;> omega
theorem akX (hm:mg.length=8) (hk:k<=3) (h:Ok k kd l):(body mg kd l).length<=3000000:=by
 rw [Gj hm h.row];have h1:=h.len;have h2:l.length*nX kd k<=65536*44:=aqe h1 (PK hk);omega
theorem apM (h:0<=n/\n<=4294967295):bD (le n.toNat 4)=n.toNat:=by
 refine EZ 4 _ ?_;have:(256:Nat)^4=4294967296:=aU;rw [this];omega
theorem ahI (x:Nat) (t:Bs):(le x 4++t).take 4=le x 4:=by rw [ajj (by rw [nK];omega),acE (by rw [nK];omega)]
theorem SE (x:Nat) (t:Bs):(le x 4++t).drop 4=t:=by
 rw [List.drop_append,nK,aiU (by rw [nK];omega),auP,av5,ajc]
theorem aax {α:Type}{l:List α}{x:α} (h:l[i]?=some x):l.drop i=x::l.drop (i+1):=by
 obtain ⟨hi,rfl⟩:=abM.1 h;exact ajB hi
theorem qy {α:Type}{l:List α}{x:α} (h:l[i]?=some x):l.take (i+1)=l.take i++[x]:=by
 obtain ⟨hi,rfl⟩:=abM.1 h;exact ajA hi
theorem arQ (h:l[i]?=some r):nN kd (l.take (i+1))=nN kd (l.take i)++BO kd r:=by
 rw [qy h,arO,V4,V6,ahB]
theorem apR {j:Nat} (h:ns[j]?=some n):ou (ns.take (j+1))=ou (ns.take j)++le n.toNat 4:=by
 rw [qy h,apP,UY,aee,ahB]
theorem arP (h:l[i]?=some r):nN kd (l.drop i)=BO kd r++nN kd (l.drop (i+1)):=by rw [aax h,V4]
theorem apQ {j:Nat} (h:ns[j]?=some n):ou (ns.drop j)=le n.toNat 4++ou (ns.drop (j+1)):=by rw [aax h,UY]
def xH:Bs:=[72,79,65,82,68,73,68,88]
def xI:Bs:=[72,79,65,82,68,85,83,69]
end
end Go.bH
namespace Go.Xx
open Go.ay (Bs bD le uP)
def W:Nat:=18446744073709551616
def p1:Nat:=11400714785074694791
def p2:Nat:=14029467366897019727
def p3:Nat:=1609587929392839161
def p4:Nat:=9650029242287828579
def p5:Nat:=2870177450012600261
def jc (x k:Nat):Nat:=(x*2^k%W) ||| (x/2^(64-k))
def mP (a w:Nat):Nat:=jc ((a+w*p2%W)%W) 31*p1%W
structure Ln where
 a:Nat
 b:Nat
 c:Nat
 d:Nat
def Ln.zero:Ln:=⟨(p1+p2)%W,p2,0,W-p1⟩
def Ln.lt (l:Ln):Prop:=l.a<W/\l.b<W/\l.c<W/\l.d<W
def FB (l:Ln) (b:Bs):Ln:=⟨mP l.a (bD (b.take 8)),mP l.b (bD ((b.drop 8).take 8)),mP l.c (bD ((b.drop 16).take 8)),mP l.d (bD ((b.drop 24).take 8))⟩
def oL:Nat->Ln->Bs->Ln×Bs
 |0,l,b=>(l,b)
 |n+1,l,b=>if 32<=b.length then oL n (FB l b) (b.drop 32) else (l,b)
def tu (x a:Nat):Nat:=((x ^^^ mP 0 a)*p1%W+p4)%W
def EO (l:Ln):Nat:=tu (tu (tu (tu ((((jc l.a 1+jc l.b 7)%W+jc l.c 12)%W+jc l.d 18)%W) l.a) l.b) l.c) l.d
def t8 (x w:Nat):Nat:=(jc (x ^^^ mP 0 w) 27*p1%W+p4)%W
def t4 (x w:Nat):Nat:=(jc (x ^^^ (w*p1%W)) 23*p2%W+p3)%W
def t1 (x:Nat) (c:UInt8):Nat:=jc (x ^^^ (c.toNat*p5%W)) 11*p1%W
def qL:Nat->Nat->Bs->Nat×Bs
 |0,x,b=>(x,b)
 |n+1,x,b=>if 8<=b.length then qL n (t8 x (bD (b.take 8))) (b.drop 8) else (x,b)
def Aw (x:Nat) (b:Bs):Nat×Bs:=if 4<=b.length then (t4 x (bD (b.take 4)),b.drop 4) else (x,b)
def tail (x:Nat) (b:Bs):Nat:=(Aw (qL b.length x b).1 (qL b.length x b).2).2.foldl t1 (Aw (qL b.length x b).1 (qL b.length x b).2).1
def f1 (x:Nat):Nat:=(x ^^^ (x/8589934592))*p2%W
def f2 (x:Nat):Nat:=(x ^^^ (x/536870912))*p3%W
def f3 (x:Nat):Nat:=x ^^^ (x/4294967296)
def sum (b:Bs):Nat:=f3 (f2 (f1 (tail (((if 32<=b.length then EO (oL b.length Ln.zero b).1 else p5)+b.length)%W) (oL b.length Ln.zero b).2)))
theorem ajX:0<W:=by decide
theorem mod_lt (x:Nat):x%W<W:=aqv _ ajX
theorem W64:W=2^64:=by decide
theorem DY {a b:Nat} (ha:a<W) (hb:b<W):a ^^^ b<W:=by rw [W64]at *;exact Nat.xor_lt_two_pow ha hb
theorem alS {x:Nat} (k:Nat) (h:x<W):x/k<W:=anx (ate _ _) h
theorem JI (a w:Nat):mP a w<W:=mod_lt _
theorem aiJ:Ln.zero.lt:=⟨mod_lt _,by decide,by decide,by decide⟩
theorem ahD (l:Ln) (b:Bs):(FB l b).lt:=⟨JI _ _,JI _ _,JI _ _,JI _ _⟩
theorem abw:∀ (n:Nat) (l:Ln) (b:Bs),l.lt->(oL n l b).1.lt
 |0,l,b,h=>h
 |n+1,l,b,h=>by
  unfold oL;split
  ·exact abw n _ _ (ahD l b)
  ·exact h
theorem aug (x w:Nat):t8 x w<W:=mod_lt _
theorem aue (x w:Nat):t4 x w<W:=mod_lt _
theorem auc (x:Nat) (c:UInt8):t1 x c<W:=mod_lt _
theorem ahF:∀ (n x:Nat) (b:Bs),x<W->(qL n x b).1<W
 |0,x,b,h=>h
 |n+1,x,b,h=>by
  unfold qL;split
  ·exact ahF n _ _ (aug _ _)
  ·exact h
theorem auj (x:Nat) (b:Bs) (h:x<W):(Aw x b).1<W:=by
 unfold Aw;split
 ·exact aue _ _
 ·exact h
theorem abg:∀ (b:Bs) (x:Nat),x<W->b.foldl t1 x<W
 |[],x,h=>h
 |c::b,x,h=>abg b _ (auc _ _)
theorem ahG (x:Nat) (b:Bs) (h:x<W):tail x b<W:=abg _ _ (auj _ _ (ahF _ _ _ h))
theorem amg (x:Nat):f2 x<W:=mod_lt _
theorem amh {x:Nat} (h:x<W):f3 x<W:=DY h (alS _ h)
theorem Xb (b:Bs):sum b<W:=amh (amg _)
theorem abv:∀ (n:Nat) (l:Ln) (b:Bs),(oL n l b).2.length<=b.length
 |0,l,b=>abG _
 |n+1,l,b=>by
  unfold oL;split
  ·exact abQ (abv n _ _) yK0
  ·exact abG _
theorem amW {n:Nat}{l:Ln}{b:Bs} (hb:32<=b.length) (hn:b.length<=n):oL n l b=oL (n-32) (FB l b) (b.drop 32):=by
 obtain ⟨m,rfl⟩:∃ m,n=m+1:=⟨n-1,by omega⟩;have h:oL (m+1) l b=oL m (FB l b) (b.drop 32):=by
  conv=>lhs;unfold oL
  rw [abL hb]
 rw [h];exact abu m (m+1-32) (FB l b) (b.drop 32) yK0 yK0
where
 abu:∀ (n m:Nat) (l:Ln) (b:Bs),b.length<=n->b.length<=m->oL n l b=oL m l b
 |0,0,l,b,_,_=>rfl
 |0,m+1,l,b,h,_=>by
  have:¬ 32<=b.length:=oQ;unfold oL;rw [abB this]
 |n+1,0,l,b,_,h=>by
  have:¬ 32<=b.length:=oQ;unfold oL;rw [abB this]
 |n+1,m+1,l,b,h1,h2=>by
  unfold oL;split
  ·exact abu n m _ _ yK0 yK0
  ·rfl
theorem amX {n:Nat}{l:Ln}{b:Bs} (hb:¬ 32<=b.length):oL n l b=(l,b):=by
 cases n with
 |zero=>rfl
 |succ n=>unfold oL;rw [abB hb]
theorem auk {n x:Nat}{b:Bs} (hb:8<=b.length) (hn:b.length<=n):qL n x b=qL (n-8) (t8 x (bD (b.take 8))) (b.drop 8):=by
 obtain ⟨m,rfl⟩:∃ m,n=m+1:=⟨n-1,by omega⟩;have h:qL (m+1) x b=qL m (t8 x (bD (b.take 8))) (b.drop 8):=by
  conv=>lhs;unfold qL
  rw [abL hb]
 rw [h];exact fuel m (m+1-8) _ (b.drop 8) yK0 yK0
where
 fuel:∀ (n m x:Nat) (b:Bs),b.length<=n->b.length<=m->qL n x b=qL m x b
 |0,0,x,b,_,_=>rfl
 |0,m+1,x,b,h,_=>by
  have:¬ 8<=b.length:=oQ;unfold qL;rw [abB this]
 |n+1,0,x,b,_,h=>by
  have:¬ 8<=b.length:=oQ;unfold qL;rw [abB this]
 |n+1,m+1,x,b,h1,h2=>by
  unfold qL;split
  ·exact fuel n m _ _ yK0 yK0
  ·rfl
theorem aul {n x:Nat}{b:Bs} (hb:¬ 8<=b.length):qL n x b=(x,b):=by
 cases n with
 |zero=>rfl
 |succ n=>unfold qL;rw [abB hb]
end Go.Xx
namespace Go.Sl
open Go
section
variable {P:Program}{ops:Array Oper}{Q:Exit->Act->World->Prop}{late:List Nat}{G:World->Prop}{n:Nat}{l:Array Bool}{a:Act}{w:World}{oi oj:Oper}
theorem BN (i j:Nat) (hi:ops.toList[i]?=some oi) (m:ops.toList[j]?=some oj) (o:Region.ready .any ops l=[i,j])
  (f:∀ K:Act->World->Prop,(∀ e w',fD late G i w w'->nZ P ops Q late G n (l.setIfInBounds i true) e w'->K e w') ->
   if Region.wanted oi (yielded ops a.tmps)=true then Oper.wp P oi a w K Q else K (a.put oi.dst undef) w)
  (g:∀ K:Act->World->Prop,(∀ e w',fD late G j w w'->nZ P ops Q late G n (l.setIfInBounds j true) e w'->K e w') ->
   if Region.wanted oj (yielded ops a.tmps)=true then Oper.wp P oj a w K Q else K (a.put oj.dst undef) w):nZ P ops Q late G (n+1) l a w:=by
 rw [anO]at hi m;refine ⟨(λc=>by rw [o]at c;cases c),λk d=>?_⟩;rw [o]at d;have b:k=i\/k=j:=by simpa using d
 rcases b with rfl|rfl
 ·have:=f _ (λe w' f g=>And.intro f g);unfold wpOp;rw [hi];show if Region.wanted oi (yielded ops a.tmps)=true then _ else _
  split
  ·rename_i hw;rw [abL hw]at this;exact .inl this
  ·rename_i hw;rw [abB hw]at this;exact this
 ·have:=g _ (λe w' f g=>And.intro f g);unfold wpOp;rw [m];show if Region.wanted oj (yielded ops a.tmps)=true then _ else _
  split
  ·rename_i hw;rw [abL hw]at this;exact .inl this
  ·rename_i hw;rw [abB hw]at this;exact this
end
end Go.Sl
namespace Go.aJ
def mV (u:gX):bH.Rw:=⟨ay.gu,[u.aZ,u.size,u.live]⟩
def mO (p:ay.Bs×aB.bT):bH.Rw:=⟨p.1,[p.2.aZ,p.2.aP,p.2.size]⟩
open Go.ay (Bs aT gV)
open Go.aB (bT)
open Go.aY
def BH (es:List aT) (kv:List (Bs×bT)):List (Bs×Bs):=kv.map λq=>(q.1,(l7 es q.1).getD [])
theorem aqg {l:List fZ}{es:List aT}{kv:List (Bs×bT)} (he:l.map (·.2.e)=es) (h:kE (jZ l) kv):kE (l7 es) (BH es kv):=by
 subst he;refine ⟨?_,λk v=>?_⟩
 ·unfold BH;rw [akC];exact h.jA
 ·unfold BH;rw [abI];obtain ⟨a,_⟩:=ad4 l k;constructor
  ·rintro ⟨q,g,e⟩;have f:=aiX Prod.fst e;have c:=aiX Prod.snd e;rw [f]at c;have hn:=(h.mem q.1 q.2).1 g;rw [f]at hn;rw [hn]at a;cases b:l7 (l.map (·.2.e)) k with
   |none=>rw [b]at a;cases a
   |some d=>rw [b]at c;exact aiX some c
  ·intro b;rw [b]at a;cases hn:jZ l k with
   |none=>rw [hn]at a;cases a
   |some i=>exact ⟨(k,i),(h.mem _ _).2 hn,by simp only;rw [b];rfl⟩
end Go.aJ
namespace Go.aH
open Go.ay (Bs)
theorem U7 (l p:List UInt8):Lib.hasPrefix l p=decide (l.take p.length=p):=by
 rw [atd,decide_eq_true_iff];unfold Lib.hasPrefix;rw [List.isPrefixOf_iff_prefix,List.prefix_iff_eq_take];exact eq_comm
theorem alD {l p:List UInt8} (h:l.take p.length=p):Lib.trimPrefix l p=l.drop p.length:=by
 unfold Lib.trimPrefix;rw [abL (by rw [U7,decide_eq_true_iff];exact h)]
theorem ad9 {s:ByteArray} (h:s.data.toList.take 4=[105,100,120,46]\/s.data.toList.take 4=[117,115,101,46]):iD s=aB.iD ⟨(aB.jW++s.data.toList.drop 4).toArray⟩:=by unfold iD;rw [abL h]
theorem apN {s:ByteArray} (h:¬ (s.data.toList.take 4=[105,100,120,46]\/s.data.toList.take 4=[117,115,101,46])):iD s=(0,false):=by unfold iD;rw [abB h]
end Go.aH
namespace Go.Proofs.Y
open Go.aG
def msl (T sz:Nat) (v:Value) (xs:List Value):aO:=λh=>
 ∃ b n cap cs m,v=.slice (some ⟨b,0,none⟩) n cap/\xs.length=n*sz/\n<=cap/\cap*sz<=cs.size/\cap<=maxLen/\cs.toList.take (n*sz)=xs/\cs.size<=m/\pt b (.cells cs T (m,m+1)) h
def CU (T sz:Nat) (v:Value) (xs:List Value):aO:=λh=>aK T sz v xs h\/msl T sz v xs h
abbrev mX (v:Value) (l:ay.Bs):aO:=CU 5 1 v (aI l)
section
variable {R:List aO}{T b:Nat}{x:Value}{xs ys:List Value}{fr:Nat×Nat}
theorem Sr {cs:Array Value}{T:TypeId} (h:au w0 w (pt b (.cells cs T fr)::R)) (i:Nat) (v:Value) (hv:cs[i]?=some v):w.cell? ⟨b,i,none⟩=some v:=by
 have:=h.at;simp [World.cell?,this,hv]
theorem amM {cs:Array Value}{T:TypeId}{m:Nat} (h:au w0 w (pt b (.cells cs T (m,m+1))::R)) (i:Nat) (hi:i<m):w.frozen? ⟨b,i,none⟩=false:=by
 have:=h.at;simp [World.frozen?,this];omega
theorem atr {cs:Array Value}{T:TypeId} (h:au w0 w (pt b (.cells cs T fr)::R)) (i:Nat) (v:Value):au w0 (w.setCell ⟨b,i,none⟩ v) (pt b (.cells (cs.setIfInBounds i v) T fr)::R):=by
 have hb:=h.at;have hlt:=h.lt;refine h.jc rfl rfl rfl yD0 ?_ ?_
 ·simp only [World.setCell,avx,auT,hb];simp
 ·exact Vu
theorem ahn:∀ (vs:List Value){cs:Array Value}{T:TypeId}{w:World} (o:Nat),au w0 w (pt b (.cells cs T fr)::R)->au w0 (w.setCells b o vs) (pt b (.cells (iK cs o vs) T fr)::R)
 |[],_,_,_,_,h=>h
 |v::r,_,_,_,o,h=>ahn r (o+1) (atr h o v)
theorem Rz (h:au w0 w (CU T sz v xs::R)):au w0 w (aK T sz v xs::R)\/∃ b n cap cs m,v=.slice (some ⟨b,0,none⟩) n cap/\xs.length=n*sz/\n<=cap/\cap*sz<=cs.size/\cap<=maxLen/\cs.toList.take (n*sz)=xs/\cs.size<=m/\au w0 w (pt b (.cells cs T (m,m+1))::R):=by
 obtain ⟨c,x,e,p,q,d,rfl,a,f⟩:=h;rcases a with a|⟨b,n,cap,cs,m,g,i,j,l,o,r,s,t⟩
 ·exact .inl ⟨c,_,e,p,q,d,rfl,a,f⟩
 ·exact .inr ⟨b,n,cap,cs,m,g,i,j,l,o,r,s,c,_,e,p,q,d,rfl,t,f⟩
theorem Zo (h:au w0 w (aK T sz v xs::R)):au w0 w (CU T sz v xs::R):=h.head λ_ hx=> .inl hx
theorem Zp {n cap m:Nat}{cs:Array Value} (h:au w0 w (pt b (.cells cs T (m,m+1))::R)) (a:xs.length=n*sz) (c:n<=cap) (d:cap*sz<=cs.size) (e:cap<=maxLen) (f:cs.toList.take (n*sz)=xs) (g:cs.size<=m):au w0 w (CU T sz (.slice (some ⟨b,0,none⟩) n cap) xs::R):=
 h.head λ_ i=> .inr ⟨b,n,cap,cs,m,rfl,a,c,d,e,f,g,i⟩
theorem RD (h:au w0 w (CU T sz v xs::R)):bK sz v xs w:=by
 rcases Rz h with h|⟨b,n,cap,g,m,rfl,c,hn,i,d,a,l,e⟩
 ·exact au.rd h
 ·exact ⟨_,n,cap,rfl,c,λj y f=>⟨_,rfl,by rw [xw];exact Sr e j y (qy a f)⟩⟩
theorem akm (h:au w0 w R) (e:TypeId) (s:ByteArray) (l:ay.Bs) (hs:s.data.toList=l) (hl:l.length<=1073741824):au w0 (Lib.bytesWorld w e s) (CU e 1 (.slice (some ⟨w.heap.size,0,none⟩) s.size (grownCap w s.size 0 e)) (aI l)::R):=by
 have f:=(h.drew).alloc (.cells (Lib.bytesCells w e s) e);have a:s.size=l.length:=by rw [<-hs];exact ahN.symm
 have b:=grownCap_ge w s.size 0 e;have c:=grownCap_le_maxLen w s.size 0 e (by have:maxLen=9223372036854775807:=rfl;omega);have d:(Lib.bytesCells w e s).size=grownCap w s.size 0 e:=by
  unfold Lib.bytesCells;rw [Array.size_append,Array.size_map,Array.size_replicate];have:s.data.size=s.size:=rfl;omega
 have g:au w0 (Lib.bytesWorld w e s) (pt w.heap.size (.cells (Lib.bytesCells w e s) e ((Lib.bytesCells w e s).size,(Lib.bytesCells w e s).size+1))::R):=by
  refine f.jc rfl rfl rfl ?_ (Lib.bytesWorld_at_new w e s) (λj i _=>?_)
  ·rw [Lib.bytesWorld_size];exact Nat.le_of_eq (Array.size_push ..)
  ·unfold Lib.bytesWorld World.freeze;rw [abB aU,avx];exact abB (λe=>i e.symm)
 refine Zp g ?_ b (by rw [aiR,d];exact abG _) c ?_ (abG _)
 ·rw [bP,a,aiR]
 ·unfold Lib.bytesCells;rw [awk,aiR,ajj (by rw [ahN,Array.size_map];exact abG _),acE (by rw [ahN,Array.size_map];exact abG _),Array.toList_map,hs]
  rfl
theorem asw (t ty e:TypeId) (i:TypeInfo) (z:Value) (ht:P.underlying t=some (.slice e)) (hi:P.info? e=some i) (hz:i.zero=some z)
  (L:i.size=sz) (hzs:z.cells.size=sz) (I:0<sz) (M:∀ u∈ys,u.oneCell'=true) (hy0:ys≠[])
  (h:au w0 w (CU e sz v xs::R)) (hx:bK sz x ys w) (K:xs.length+ys.length<=maxLen) (hby:(xs.length+ys.length)*i.bytes<=140737488355328) :
  ∃ J w',(Builtin.append_ #[t,t] ty #[v,x]).run P w=.ok J w'/\au w0 w' (CU e sz J (xs++ys)::R):=by
 rcases Rz h with h|⟨b,n,cap,B,mk,rfl,hl,hn,C,r,d,s,f⟩
 ·obtain ⟨J,w',hr,E,_⟩:=agW t ty e i z ht hi hz L hzs I M h hx K hby;exact ⟨J,w',hr,Zo E⟩
 ·subst L;obtain ⟨F,m,c,rfl,hyl,NT⟩:=hx;have g:∀ {p q:Nat},p=q*i.size->q<=p:=λ{p q} e=>by rw [e];exact Nat.le_mul_of_pos_right _ I
  have H:=g hyl;obtain ⟨ad,rfl⟩:∃ ad,F=some ad:=by
   exact Vj
  have hnews:∀ j u,ys[j]?=some u->w.cell? (ad.add j)=some u:=λj u hj=>by
   exact VD
  have G:=g hl;have D:maxLen=9223372036854775807:=rfl;by_cases a:n+m<=cap
  ·have l:n*i.size+ys.length<=B.size:=by
    rw [hyl,<-as3];exact abQ (am2 _ a) C
   have hr:=run_append_room_cells w t ty e i ht hi b 0 n cap ad m c ys hyl hnews M a
    (λj hj=>by rw [aiO,Sr f (n*i.size+j) _ (ao1 (show n*i.size+j<B.size by omega))];rfl)
    (λj hj=>by rw [aiO];exact amM f _ oQ)
   rw [aiO]at hr;refine ⟨_,_,hr,Zp (ahn ys (n*i.size) f) ?_ a (by rw [pW];exact C) r ?_ (by rw [pW];exact s)⟩
   ·rw [aay,hl,hyl,as3]
   ·rw [qY _ _ _ l,d];exact Vq
  ·have holds:∀ j u,xs[j]?=some u->w.cell? ((⟨b,0,none⟩:Addr).add j)=some u:=λj u hj=>by
    rw [xw];exact Sr f j u (qy d hj)
   refine afm ?_;intro Jv hr;have A:=grownCap_ge w (n+m) cap e;have o:=grownCap_le_maxLen w (n+m) cap e oQ;refine ⟨_,_,hr,Zo (au.pV ((f.drop.drew).alloc (.cells (xs.toArray++ys.toArray++Builtin.zeroCells z.cells (grownCap w (n+m) cap e-(n+m))) e)) ?_ A ?_ o ?_)⟩
   ·rw [aay,hl,hyl,as3]
   ·simp only [Array.size_append,abC,size_zeroCells,hzs];rw [hl,hyl,<-as3,<-as3];exact am2 _ oQ
   ·simp only [awk,ab6];rw [<-ab6];exact Vq
end
section
variable {x y z a:Nat}
theorem aiz (x:Nat):IntKind.u64.wrap (x:Int)=((x%18446744073709551616:Nat):Int):=by rw [am7];rfl
theorem Ad (x c:Nat):IntKind.u64.wrap ((x:Int)*(c:Int))=((x*c%18446744073709551616:Nat):Int):=by rw [<-Int.natCast_mul,aiz]
theorem CP (x c:Nat):IntKind.u64.wrap ((x:Int)+(c:Int))=(((x+c)%18446744073709551616:Nat):Int):=by rw [<-Int.natCast_add,aiz]
theorem Dp (x y:Nat) (hx:x<18446744073709551616) (hy:y<18446744073709551616):bits .or .u64 (x:Int) (y:Int)=((x ||| y:Nat):Int):=u64_or_nat x y hx hy
theorem FU (x y:Nat) (hx:x<18446744073709551616) (hy:y<18446744073709551616):bits .xor .u64 (x:Int) (y:Int)=((x ^^^ y:Nat):Int):=u64_xor_nat x y hx hy
theorem wJ (x:Nat):x%18446744073709551616<18446744073709551616:=aqv _ aU
theorem X5 (hx:x<18446744073709551616) (hy:y<18446744073709551616):x ^^^ y<18446744073709551616:=Xx.DY hx hy
theorem Uj (a w:Nat):Xx.mP a w<18446744073709551616:=Xx.JI a w
theorem aoz (a x:Nat):∃ y z u:Nat,IntKind.u64.wrap ((x:Int)*14029467366897019727)=(y:Int)/\IntKind.u64.wrap ((a:Int)+(y:Int))=(z:Int)/\z<18446744073709551616/\IntKind.u64.wrap ((Xx.jc z 31:Nat)*(11400714785074694791:Int))=(u:Int)/\Xx.mP a x=u:=
 ⟨x*Xx.p2%18446744073709551616,(a+x*Xx.p2%18446744073709551616)%18446744073709551616,Xx.jc ((a+x*Xx.p2%18446744073709551616)%18446744073709551616) 31*Xx.p1%18446744073709551616,Ad x Xx.p2,CP _ _,wJ _,Ad _ Xx.p1,rfl⟩
theorem Oo (hx:x<18446744073709551616) (a:Nat):∃ y z u:Nat,bits .xor .u64 (x:Int) ((Xx.mP 0 a:Nat):Int)=(y:Int)/\IntKind.u64.wrap ((y:Int)*11400714785074694791)=(z:Int)/\IntKind.u64.wrap ((z:Int)+9650029242287828579)=(u:Int)/\u<18446744073709551616/\Xx.tu x a=u:=
 ⟨x ^^^ Xx.mP 0 a,(x ^^^ Xx.mP 0 a)*Xx.p1%18446744073709551616,((x ^^^ Xx.mP 0 a)*Xx.p1%18446744073709551616+Xx.p4)%18446744073709551616,FU x _ hx (Uj 0 a),Ad _ Xx.p1,CP _ Xx.p4,wJ _,rfl⟩
theorem auf (hx:x<18446744073709551616) (n:Nat):∃ r z u:Nat,bits .xor .u64 (x:Int) ((Xx.mP 0 n:Nat):Int)=(r:Int)/\r<18446744073709551616/\IntKind.u64.wrap ((Xx.jc r 27:Nat)*(11400714785074694791:Int))=(z:Int)/\IntKind.u64.wrap ((z:Int)+9650029242287828579)=(u:Int)/\u<18446744073709551616/\Xx.t8 x n=u:=
 ⟨x ^^^ Xx.mP 0 n,Xx.jc (x ^^^ Xx.mP 0 n) 27*Xx.p1%18446744073709551616,(Xx.jc (x ^^^ Xx.mP 0 n) 27*Xx.p1%18446744073709551616+Xx.p4)%18446744073709551616,FU x _ hx (Uj 0 n),X5 hx (Uj 0 n),Ad _ Xx.p1,CP _ Xx.p4,wJ _,rfl⟩
theorem aud (hx:x<18446744073709551616) (n:Nat):∃ t r z u:Nat,IntKind.u64.wrap ((n:Int)*11400714785074694791)=(t:Int)/\bits .xor .u64 (x:Int) (t:Int)=(r:Int)/\r<18446744073709551616/\IntKind.u64.wrap ((Xx.jc r 23:Nat)*(14029467366897019727:Int))=(z:Int)/\IntKind.u64.wrap ((z:Int)+1609587929392839161)=(u:Int)/\u<18446744073709551616/\Xx.t4 x n=u:=
 ⟨n*Xx.p1%18446744073709551616,x ^^^ (n*Xx.p1%18446744073709551616),Xx.jc (x ^^^ (n*Xx.p1%18446744073709551616)) 23*Xx.p2%18446744073709551616,(Xx.jc (x ^^^ (n*Xx.p1%18446744073709551616)) 23*Xx.p2%18446744073709551616+Xx.p3)%18446744073709551616,Ad n Xx.p1,FU x _ hx (wJ _),X5 hx (wJ _),Ad _ Xx.p2,CP _ Xx.p3,wJ _,rfl⟩
theorem ahE (hx:x<18446744073709551616) (c:UInt8):∃ q r u:Nat,IntKind.u64.wrap ((c.toNat:Int)*2870177450012600261)=(q:Int)/\bits .xor .u64 (x:Int) (q:Int)=(r:Int)/\r<18446744073709551616/\IntKind.u64.wrap ((Xx.jc r 11:Nat)*(11400714785074694791:Int))=(u:Int)/\u<18446744073709551616/\Xx.t1 x c=u:=
 ⟨c.toNat*Xx.p5%18446744073709551616,x ^^^ (c.toNat*Xx.p5%18446744073709551616),Xx.jc (x ^^^ (c.toNat*Xx.p5%18446744073709551616)) 11*Xx.p1%18446744073709551616,Ad _ Xx.p5,FU x _ hx (wJ _),X5 hx (wJ _),Ad _ Xx.p1,wJ _,rfl⟩
theorem aoi (l:Xx.Ln):∃ f g e:Nat,IntKind.u64.wrap ((Xx.jc l.a 1:Nat)+((Xx.jc l.b 7:Nat):Int))=(f:Int)/\IntKind.u64.wrap ((f:Int)+((Xx.jc l.c 12:Nat):Int))=(g:Int)/\IntKind.u64.wrap ((g:Int)+((Xx.jc l.d 18:Nat):Int))=(e:Int)/\e<18446744073709551616/\Xx.EO l=Xx.tu (Xx.tu (Xx.tu (Xx.tu e l.a) l.b) l.c) l.d:=
 ⟨_,_,_,CP _ _,CP _ _,CP _ _,wJ _,rfl⟩
theorem aaY (hx:x<18446744073709551616):∃ t1 t2 t3 t4 t5:Nat,bits .xor .u64 (x:Int) ((x:Int)/8589934592)=(t1:Int)/\IntKind.u64.wrap ((t1:Int)*14029467366897019727)=(t2:Int)/\bits .xor .u64 (t2:Int) ((t2:Int)/536870912)=(t3:Int)/\IntKind.u64.wrap ((t3:Int)*1609587929392839161)=(t4:Int)/\bits .xor .u64 (t4:Int) ((t4:Int)/4294967296)=(t5:Int)/\Xx.f3 (Xx.f2 (Xx.f1 x))=t5:=by
 have d:∀ (y k:Nat),y<18446744073709551616->y/k<18446744073709551616:=λy k h=>anx (ate _ _) h;exact ⟨x ^^^ (x/8589934592),(x ^^^ (x/8589934592))*Xx.p2%18446744073709551616,Xx.f1 x ^^^ (Xx.f1 x/536870912),(Xx.f1 x ^^^ (Xx.f1 x/536870912))*Xx.p3%18446744073709551616,Xx.f2 (Xx.f1 x) ^^^ (Xx.f2 (Xx.f1 x)/4294967296),FU x _ hx (d _ _ hx),Ad _ Xx.p2,FU (Xx.f1 x) _ (wJ _) (d _ _ (wJ _)),Ad _ Xx.p3,FU (Xx.f2 (Xx.f1 x)) _ (wJ _) (d _ _ (wJ _)),rfl⟩
theorem ahA (j n:Nat):∃ x:Nat,IntKind.u64.wrap ((j:Int)+(n:Int))=(x:Int)/\x<18446744073709551616/\(j+n)%Xx.W=x:=⟨(j+n)%18446744073709551616,CP j n,wJ _,rfl⟩
end
theorem auz (x:Nat) (hx:x<18446744073709551616) (h:au w0 w F):Calls prog 284 #[.int .u64 x,.int .i64 1] w (bf λv w'=>v=.int .u64 (Xx.jc x 1:Nat)/\au w0 w' F):=by
 have hf:=uQ (show Xx.jc x 1=(x*2%18446744073709551616) ||| (x/9223372036854775808) from rfl);have e1:IntKind.u64.wrap (x*2)=((x*2%18446744073709551616:Nat):Int):=by rw [am7];omega
 have e2:x/9223372036854775808=((x/9223372036854775808:Nat):Int):=rfl;have ha:x*2%18446744073709551616<18446744073709551616:=aqv _ aU;have hb:x/9223372036854775808<18446744073709551616:=anx (ate _ _) hx;generalize x*2%18446744073709551616=a at *
 generalize x/9223372036854775808=b at *
 have e3:=Dp a b ha hb;have hS:=h.drew;have e0:bits .and .i64 (1:Int) 63=1:=aU;have Gt:wrap64 (64-1:Int)=63:=by rw [ajU _ aU];rfl
 exact Dw
theorem auD (x:Nat) (hx:x<18446744073709551616) (h:au w0 w F):Calls prog 284 #[.int .u64 x,.int .i64 7] w (bf λv w'=>v=.int .u64 (Xx.jc x 7:Nat)/\au w0 w' F):=by
 have hf:=uQ (show Xx.jc x 7=(x*128%18446744073709551616) ||| (x/144115188075855872) from rfl);have d:IntKind.u64.wrap (x*128)=((x*128%18446744073709551616:Nat):Int):=by rw [am7];omega
 have e:x/144115188075855872=((x/144115188075855872:Nat):Int):=rfl;have ha:x*128%18446744073709551616<18446744073709551616:=aqv _ aU;have hb:x/144115188075855872<18446744073709551616:=anx (ate _ _) hx;generalize x*128%18446744073709551616=a at *
 generalize x/144115188075855872=b at *
 have f:=Dp a b ha hb;have hS:=h.drew;have g:bits .and .i64 (7:Int) 63=7:=aU;have c:wrap64 (64-7:Int)=57:=by rw [ajU _ aU];rfl
 exact Dw
theorem ahM (x:Nat) (hx:x<18446744073709551616) (h:au w0 w F):Calls prog 284 #[.int .u64 x,.int .i64 11] w (bf λv w'=>v=.int .u64 (Xx.jc x 11:Nat)/\au w0 w' F):=by
 have hf:=uQ (show Xx.jc x 11=(x*2048%18446744073709551616) ||| (x/9007199254740992) from rfl);have e1:IntKind.u64.wrap (x*2048)=((x*2048%18446744073709551616:Nat):Int):=by rw [am7];omega
 have e2:x/9007199254740992=((x/9007199254740992:Nat):Int):=rfl;have ha:x*2048%18446744073709551616<18446744073709551616:=aqv _ aU;have hb:x/9007199254740992<18446744073709551616:=anx (ate _ _) hx;generalize x*2048%18446744073709551616=a at *
 generalize x/9007199254740992=b at *
 have e3:=Dp a b ha hb;have hS:=h.drew;have e0:bits .and .i64 (11:Int) 63=11:=aU;have Gt:wrap64 (64-11:Int)=53:=by rw [ajU _ aU];rfl
 exact Dw
theorem auw (x:Nat) (hx:x<18446744073709551616) (h:au w0 w F):Calls prog 284 #[.int .u64 x,.int .i64 12] w (bf λv w'=>v=.int .u64 (Xx.jc x 12:Nat)/\au w0 w' F):=by
 have hf:=uQ (show Xx.jc x 12=(x*4096%18446744073709551616) ||| (x/4503599627370496) from rfl);have e1:IntKind.u64.wrap (x*4096)=((x*4096%18446744073709551616:Nat):Int):=by rw [am7];omega
 have e2:x/4503599627370496=((x/4503599627370496:Nat):Int):=rfl;have ha:x*4096%18446744073709551616<18446744073709551616:=aqv _ aU;have hb:x/4503599627370496<18446744073709551616:=anx (ate _ _) hx;generalize x*4096%18446744073709551616=a at *
 generalize x/4503599627370496=b at *
 have e3:=Dp a b ha hb;have hS:=h.drew;have e0:bits .and .i64 (12:Int) 63=12:=aU;have Gt:wrap64 (64-12:Int)=52:=by rw [ajU _ aU];rfl
 exact Dw
theorem auy (x:Nat) (hx:x<18446744073709551616) (h:au w0 w F):Calls prog 284 #[.int .u64 x,.int .i64 18] w (bf λv w'=>v=.int .u64 (Xx.jc x 18:Nat)/\au w0 w' F):=by
 have hf:=uQ (show Xx.jc x 18=(x*262144%18446744073709551616) ||| (x/70368744177664) from rfl);have e1:IntKind.u64.wrap (x*262144)=((x*262144%18446744073709551616:Nat):Int):=by rw [am7];omega
 have e2:x/70368744177664=((x/70368744177664:Nat):Int):=rfl;have ha:x*262144%18446744073709551616<18446744073709551616:=aqv _ aU;have hb:x/70368744177664<18446744073709551616:=anx (ate _ _) hx;generalize x*262144%18446744073709551616=a at *
 generalize x/70368744177664=b at *
 have e3:=Dp a b ha hb;have hS:=h.drew;have e0:bits .and .i64 (18:Int) 63=18:=aU;have Gt:wrap64 (64-18:Int)=46:=by rw [ajU _ aU];rfl
 exact Dw
theorem auA (x:Nat) (hx:x<18446744073709551616) (h:au w0 w F):Calls prog 284 #[.int .u64 x,.int .i64 23] w (bf λv w'=>v=.int .u64 (Xx.jc x 23:Nat)/\au w0 w' F):=by
 have hf:=uQ (show Xx.jc x 23=(x*8388608%18446744073709551616) ||| (x/2199023255552) from rfl);have e1:IntKind.u64.wrap (x*8388608)=((x*8388608%18446744073709551616:Nat):Int):=by rw [am7];omega
 have e2:x/2199023255552=((x/2199023255552:Nat):Int):=rfl;have ha:x*8388608%18446744073709551616<18446744073709551616:=aqv _ aU;have hb:x/2199023255552<18446744073709551616:=anx (ate _ _) hx;generalize x*8388608%18446744073709551616=a at *
 generalize x/2199023255552=b at *
 have e3:=Dp a b ha hb;have hS:=h.drew;have e0:bits .and .i64 (23:Int) 63=23:=aU;have Gt:wrap64 (64-23:Int)=41:=by rw [ajU _ aU];rfl
 exact Dw
theorem auB (x:Nat) (hx:x<18446744073709551616) (h:au w0 w F):Calls prog 284 #[.int .u64 x,.int .i64 27] w (bf λv w'=>v=.int .u64 (Xx.jc x 27:Nat)/\au w0 w' F):=by
 have hf:=uQ (show Xx.jc x 27=(x*134217728%18446744073709551616) ||| (x/137438953472) from rfl);have e1:IntKind.u64.wrap (x*134217728)=((x*134217728%18446744073709551616:Nat):Int):=by rw [am7];omega
 have e2:x/137438953472=((x/137438953472:Nat):Int):=rfl;have ha:x*134217728%18446744073709551616<18446744073709551616:=aqv _ aU;have hb:x/137438953472<18446744073709551616:=anx (ate _ _) hx;generalize x*134217728%18446744073709551616=a at *
 generalize x/137438953472=b at *
 have e3:=Dp a b ha hb;have hS:=h.drew;have e0:bits .and .i64 (27:Int) 63=27:=aU;have Gt:wrap64 (64-27:Int)=37:=by rw [ajU _ aU];rfl
 exact Dw
theorem auC (x:Nat) (hx:x<18446744073709551616) (h:au w0 w F):Calls prog 284 #[.int .u64 x,.int .i64 31] w (bf λv w'=>v=.int .u64 (Xx.jc x 31:Nat)/\au w0 w' F):=by
 have hf:=uQ (show Xx.jc x 31=(x*2147483648%18446744073709551616) ||| (x/8589934592) from rfl);have e1:IntKind.u64.wrap (x*2147483648)=((x*2147483648%18446744073709551616:Nat):Int):=by rw [am7];omega
 have e2:x/8589934592=((x/8589934592:Nat):Int):=rfl;have ha:x*2147483648%18446744073709551616<18446744073709551616:=aqv _ aU;have hb:x/8589934592<18446744073709551616:=anx (ate _ _) hx;generalize x*2147483648%18446744073709551616=a at *
 generalize x/8589934592=b at *
 have e3:=Dp a b ha hb;have hS:=h.drew;have e0:bits .and .i64 (31:Int) 63=31:=aU;have Gt:wrap64 (64-31:Int)=33:=by rw [ajU _ aU];rfl
 exact Dw
theorem BF (a x:Nat) (h:au w0 w F):Calls prog 262 #[.int .u64 a,.int .u64 x] w (bf λv w'=>v=.int .u64 (Xx.mP a x:Nat)/\au w0 w' F):=by
 obtain ⟨y,z,u,f,g,b,i,c⟩:=aoz a x;rw [c];have d:=auC z b h;generalize Xx.jc z 31=t at *
 go_in
 go_wp2_with fail;refine d.mono ?_;rintro j l ⟨v,rfl,rfl,e⟩;go_wp2;go_ret;exact ⟨_,rfl,rfl,e⟩
structure RS (w0:World) (F:List aO) (v:Value) (l:Bs):Prop where
 rd:Ro w0 F (bK 1 v (aI l))
 cap:lS v
section
variable {a:Option Addr}
theorem WT (w:World):(sizeOf 5).run prog w=.ok 1 w:=aC
theorem Nb:prog.elem 59=5:=aC
theorem IE:prog.underlying 59=some (.slice (prog.elem 59)):=by rw [Nb];exact underlying59
theorem aha (hk:k<=n) (w:World):(Instr.sliceAt 59 (.slice a n c) (some (.int .i64 k)) none none).run prog w=.ok (sliced a k n c 1) w:=by
 rw [run_sliceAt_slice _ _ _ _ _ _ IE,run_slice_l _ _ _ _ _ IE .i64 k oQ oQ,Nb,WT];simp [Result.andThen]
theorem PU (hk:k<=c) (w:World):(Instr.sliceAt 59 (.slice a n c) none (some (.int .i64 k)) none).run prog w=.ok (sliced a 0 k c 1) w:=by
 rw [run_sliceAt_slice _ _ _ _ _ _ IE,run_slice_h _ _ _ _ _ IE .i64 k oQ oQ,Nb,WT];simp [Result.andThen]
theorem asR (hk:k<=c) (w:World):(Instr.sliceAt 59 (.slice a n c) none (some (.int .i64 k)) (some (.int .i64 k))).run prog w=.ok (sliced a 0 k k 1) w:=by
 rw [run_sliceAt_slice _ _ _ _ _ _ IE,run_slice_hm _ _ _ _ _ IE .i64 .i64 k k oQ oQ oQ,Nb,WT];simp [Result.andThen]
theorem RS.len (h:RS w0 F v l) (hS:au w0 w F):∃ a c,v=.slice a l.length c/\l.length<=c/\c<=9223372036854775807:=by
 obtain ⟨a,n,c,rfl,d,e⟩:=h.cap;obtain ⟨_,_,_,f,b,_⟩:=h.rd w hS;cases f;rw [bP,aiR]at b;subst b;exact ⟨a,c,rfl,d,e⟩
theorem Bj {l:Bs}{j:Nat}{y:Value}:(aI l)[j]?=some y↔∃ u,l[j]?=some u/\y=.int .u8 u.toNat:=by
 unfold aI;rw [ab4,amV];constructor
 ·rintro ⟨u,h1,h2⟩;exact ⟨u,h1,h2.symm⟩
 ·rintro ⟨u,h1,h2⟩;exact ⟨u,h1,h2.symm⟩
theorem RS.from (h:RS w0 F (.slice a l.length c) l) (hk:k<=l.length):RS w0 F (sliced a k l.length c 1) (l.drop k):=by
 obtain ⟨n,o,r,d,s,t⟩:=h.cap;cases d;refine ⟨λw e=>?_,⟨_,_,_,rfl,by omega,by omega⟩⟩;refine ⟨_,_,_,rfl,by rw [bP,abJ,aiR],λj y f=>?_⟩;obtain ⟨u,b,rfl⟩:=Bj.1 f;rw [anv]at b;have g:=(abM.1 b).1;obtain ⟨i,off,rfl,m⟩:=pq (h.rd w e) (Bj.2 ⟨u,b,rfl⟩);rw [abB oQ];refine ⟨_,rfl,?_⟩;have:=m (k+j) _ (Bj.2 ⟨u,b,rfl⟩);show w.cell? (((⟨i,off,none⟩:Addr).add (k*1)).add j)=_;rw [Addr.add_mid,Addr.add_mid,aiR,avC];exact this
theorem RS.to (h:RS w0 F (.slice a l.length c) l) (hk:k<=l.length) (m:Nat) (hm:k<=m) (hmc:m<=c):RS w0 F (sliced a 0 k m 1) (l.take k):=by
 obtain ⟨o,r,s,d,t,v⟩:=h.cap;cases d;refine ⟨λw e=>?_,⟨_,_,_,rfl,by omega,by omega⟩⟩;refine ⟨_,_,_,rfl,by rw [bP,abA,aiR];omega,λj y f=>?_⟩;obtain ⟨u,b,rfl⟩:=Bj.1 f;rw [ak7]at b;split at b
 ·rename_i g;obtain ⟨i,off,rfl,n⟩:=pq (h.rd w e) (Bj.2 ⟨u,b,rfl⟩);rw [abB oQ];refine ⟨_,rfl,?_⟩;have:=n j _ (Bj.2 ⟨u,b,rfl⟩);show w.cell? (((⟨i,off,none⟩:Addr).add (0*1)).add j)=_;rw [Addr.add_mid,Addr.add_mid,Nat.zero_mul,aoe];exact this
 ·cases b
theorem RS.OE (h:au w0 w (cZ v l::F)):RS w0 (cZ v l::F) v l:=by
 obtain ⟨a,n,c,e,h1,h2,h3⟩:=Bh h;exact ⟨Ro.cZ _ _,⟨a,n,c,e,h1,h2⟩⟩
theorem RS.tC (h:RS w0 F v l){G:List aO} (k:xu G F):RS w0 G v l:=⟨Ro.H9 h.rd k,h.cap⟩
end
section
variable {t:TypeId}{pos:String}{z:Operand}{vz:Value}
theorem Qq (hx:a.eval x=vx) (hy:a.eval y=vy) (hr:∀ w,(Instr.sliceAt ty vx (some vy) none none).run P w=.ok v w) (h:wpList P ops Q rest (a.put dst v) w):wpList P ops Q (⟨dst,.slice ty x (some y) none none,t,pos,after,none⟩::rest) a w:=
 ajs rfl λ_ hK=>by
  exact Vl
theorem aiq (hx:a.eval x=vx) (hy:a.eval y=vy) (hr:∀ w,(Instr.sliceAt ty vx none (some vy) none).run P w=.ok v w) (h:wpList P ops Q rest (a.put dst v) w):wpList P ops Q (⟨dst,.slice ty x none (some y) none,t,pos,after,none⟩::rest) a w:=
 ajs rfl λ_ hK=>by
  exact Vl
theorem au9 (hx:a.eval x=vx) (hy:a.eval y=vy) (hz:a.eval z=vz) (hr:∀ w,(Instr.sliceAt ty vx none (some vy) (some vz)).run P w=.ok v w) (h:wpList P ops Q rest (a.put dst v) w):wpList P ops Q (⟨dst,.slice ty x none (some y) (some z),t,pos,after,none⟩::rest) a w:=
 ajs rfl λ_ hK=>by
  exact afz
theorem MJ (h:lQ (wpList P ops Q (⟨dst,.slice ty x (some y) none none,t,pos,after,none⟩::rest) a w)):wpList P ops Q (⟨dst,.slice ty x (some y) none none,t,pos,after,none⟩::rest) a w:=h.o
theorem Zv (h:lQ (wpList P ops Q (⟨dst,.slice ty x none (some y) none,t,pos,after,none⟩::rest) a w)):wpList P ops Q (⟨dst,.slice ty x none (some y) none,t,pos,after,none⟩::rest) a w:=h.o
theorem akx (h:lQ (wpList P ops Q (⟨dst,.slice ty x none (some y) (some z),t,pos,after,none⟩::rest) a w)):wpList P ops Q (⟨dst,.slice ty x none (some y) (some z),t,pos,after,none⟩::rest) a w:=h.o
end
theorem Dq (l:Bs) (c:UInt8) (k:Nat) (hl:l.length=k) (hk:k<8):bits .or .u64 ((ay.bD l:Nat):Int) ((c.toNat:Int)*((256^k:Nat):Int))=((ay.bD (l++[c]):Nat):Int):=by
 subst hl;have h1:=ay.uP l;have h2:=c.toNat_lt;have h3:256^l.length<=256^7:=aon aU oQ;have h4:c.toNat*256^l.length<=255*256^7:=aqe oQ h3;have h5:(256:Nat)^7=72057594037927936:=aU;refine Vx ?_;intro e;rw [e,u64_or_nat _ _ oQ oQ,ay.UW];exact VK
theorem amT (c0 c1 c2 c3 c4 c5 c6 c7:UInt8) (a:Option Addr) (c:Nat) (h:bK 1 (.slice a 8 c) (aI [c0,c1,c2,c3,c4,c5,c6,c7]) w) :
  Calls prog 227 #[.slice a 8 c] w (bf λv w'=>v=.tuple #[.int .u64 (ay.bD [c0,c1,c2,c3,c4,c5,c6,c7]:Nat),.bool true]/\w=w'):=by
 obtain ⟨bk,off,rfl,hc⟩:=pq h (i:=0) rfl;have e0:w.cell? ⟨bk,off,none⟩=some (.int .u8 c0.toNat):=hc 0 _ rfl;have t0:=c0.toNat_lt;have e1:w.cell? ⟨bk,off+1,none⟩=some (.int .u8 c1.toNat):=hc 1 _ rfl;have t1:=c1.toNat_lt;have e2:w.cell? ⟨bk,off+2,none⟩=some (.int .u8 c2.toNat):=hc 2 _ rfl;have t2:=c2.toNat_lt;have e3:w.cell? ⟨bk,off+3,none⟩=some (.int .u8 c3.toNat):=hc 3 _ rfl;have t3:=c3.toNat_lt;have e4:w.cell? ⟨bk,off+4,none⟩=some (.int .u8 c4.toNat):=hc 4 _ rfl;have t4:=c4.toNat_lt;have e5:w.cell? ⟨bk,off+5,none⟩=some (.int .u8 c5.toNat):=hc 5 _ rfl;have t5:=c5.toNat_lt;have e6:w.cell? ⟨bk,off+6,none⟩=some (.int .u8 c6.toNat):=hc 6 _ rfl;have t6:=c6.toNat_lt;have e7:w.cell? ⟨bk,off+7,none⟩=some (.int .u8 c7.toNat):=hc 7 _ rfl;have t7:=c7.toNat_lt;clear hc h;go_enter func227,ntmps227;go_wp2_with fail
 go_loopg [17,4] 8 (λg iq xq wr=>∃ i:Nat,g=8-i/\i<=8/\iq=.int .i64 i/\xq=.int .u64 (ay.bD ([c0,c1,c2,c3,c4,c5,c6,c7].take i):Nat)/\wr=w)
 case atStart=>exact ⟨0,rfl,by omega,rfl,rfl,rfl⟩
 case round=>
  obtain ⟨i,rfl,hi,rfl,rfl,rfl⟩:=hrel;by_cases h4:i<8
  ·have h0:i=0\/i=1\/i=2\/i=3\/i=4\/i=5\/i=6\/i=7:=oQ;clear hi h4;rcases h0 with rfl|rfl|rfl|rfl|rfl|rfl|rfl|rfl
   ·have hq:bits .or .u64 ((ay.bD []:Nat):Int) (c0.toNat:Int)=((ay.bD [c0]:Nat):Int):=by
     have:=Dq [] c0 0 rfl aU;simpa using this
    go_wp2_with fail
    go_roundg (8-1)
    case measure=>decide
    case rel=>exact ⟨1,rfl,by decide,by first|rfl|go_num,rfl,rfl⟩
   ·have hq:bits .or .u64 ((ay.bD [c0]:Nat):Int) ((c1.toNat:Int)*256)=((ay.bD [c0,c1]:Nat):Int):=Dq [c0] c1 1 rfl aU;go_wp2_with fail
    go_roundg (8-2)
    case measure=>decide
    case rel=>exact ⟨2,rfl,by decide,by first|rfl|go_num,rfl,rfl⟩
   ·have hq:bits .or .u64 ((ay.bD [c0,c1]:Nat):Int) ((c2.toNat:Int)*65536)=((ay.bD [c0,c1,c2]:Nat):Int):=Dq [c0,c1] c2 2 rfl aU;go_wp2_with fail
    go_roundg (8-3)
    case measure=>decide
    case rel=>exact ⟨3,rfl,by decide,by first|rfl|go_num,rfl,rfl⟩
   ·have hq:bits .or .u64 ((ay.bD [c0,c1,c2]:Nat):Int) ((c3.toNat:Int)*16777216)=((ay.bD [c0,c1,c2,c3]:Nat):Int):=Dq [c0,c1,c2] c3 3 rfl aU;go_wp2_with fail
    go_roundg (8-4)
    case measure=>decide
    case rel=>exact ⟨4,rfl,by decide,by first|rfl|go_num,rfl,rfl⟩
   ·have hq:bits .or .u64 ((ay.bD [c0,c1,c2,c3]:Nat):Int) ((c4.toNat:Int)*4294967296)=((ay.bD [c0,c1,c2,c3,c4]:Nat):Int):=Dq [c0,c1,c2,c3] c4 4 rfl aU;go_wp2_with fail
    go_roundg (8-5)
    case measure=>decide
    case rel=>exact ⟨5,rfl,by decide,by first|rfl|go_num,rfl,rfl⟩
   ·have hq:bits .or .u64 ((ay.bD [c0,c1,c2,c3,c4]:Nat):Int) ((c5.toNat:Int)*1099511627776)=((ay.bD [c0,c1,c2,c3,c4,c5]:Nat):Int):=Dq [c0,c1,c2,c3,c4] c5 5 rfl aU;go_wp2_with fail
    go_roundg (8-6)
    case measure=>decide
    case rel=>exact ⟨6,rfl,by decide,by first|rfl|go_num,rfl,rfl⟩
   ·have hq:bits .or .u64 ((ay.bD [c0,c1,c2,c3,c4,c5]:Nat):Int) ((c6.toNat:Int)*281474976710656)=((ay.bD [c0,c1,c2,c3,c4,c5,c6]:Nat):Int):=Dq [c0,c1,c2,c3,c4,c5] c6 6 rfl aU;go_wp2_with fail
    go_roundg (8-7)
    case measure=>decide
    case rel=>exact ⟨7,rfl,by decide,by first|rfl|go_num,rfl,rfl⟩
   ·have hq:bits .or .u64 ((ay.bD [c0,c1,c2,c3,c4,c5,c6]:Nat):Int) ((c7.toNat:Int)*72057594037927936)=((ay.bD [c0,c1,c2,c3,c4,c5,c6,c7]:Nat):Int):=Dq [c0,c1,c2,c3,c4,c5,c6] c7 7 rfl aU;go_wp2_with fail
    go_roundg (8-8)
    case measure=>decide
    case rel=>exact ⟨8,rfl,by decide,by first|rfl|go_num,rfl,rfl⟩
  ·obtain rfl:i=8:=oQ;go_wp2
   go_ret2
   exact ⟨_,rfl,rfl,rfl⟩
theorem al5 {l:Bs} (h:l.length=8):∃ a b c d e f g i,l=[a,b,c,d,e,f,g,i]:=by
 match l,h with
 |[a,b,c,d,e,f,g,i],_=>exact ⟨a,b,c,d,e,f,g,i,rfl⟩
theorem abq (l:Bs) (hl:l.length=8) (a:Option Addr) (c:Nat) (h:bK 1 (.slice a 8 c) (aI l) w) :
  Calls prog 227 #[.slice a 8 c] w (bf λv w'=>v=.tuple #[.int .u64 (ay.bD l:Nat),.bool true]/\w=w'):=by
 obtain ⟨b,d,e,f,g,i,j,m,rfl⟩:=al5 hl;exact amT b d e f g i j m a c h
theorem KW (l:Bs) (hl:8<=l.length) (hr:RS w0 F bv l) (h:au w0 w F) :
  Calls prog 263 #[bv] w (bf λv w'=>v=.int .u64 (ay.bD (l.take 8):Nat)/\w=w'):=by
 obtain ⟨a,c,rfl,g,i⟩:=hr.len h;have d:=(hr.to hl c oQ (abG c)).rd w h;have f:sliced a 0 8 c 1=.slice (if c=0 then a else a.map (·.add (0*1))) 8 c:=rfl;rw [f]at d;have hg:=abq (l.take 8) yE0 _ c d;have b:∀ w,(Instr.sliceAt 59 (.slice a l.length c) none (some (.int .i64 8)) none).run prog w=.ok (.slice (if c=0 then a else a.map (·.add (0*1))) 8 c) w:=λw=>PU (k:=8) oQ w;generalize (if c=0 then a else a.map (·.add (0*1)))=j at *
 generalize ay.bD (l.take 8)=N at *
 go_in
 go_wp2_with ((with_reducible refine Zv ⟨?_⟩);refine aiq aA aA b ?_);refine hg.mono ?_;rintro e m ⟨v,rfl,rfl,rfl⟩;go_wp2;go_ret;exact ⟨_,rfl,rfl,rfl⟩
theorem aqF (x:Nat) (hx:x<18446744073709551616) (h:au w0 w F) :
  Calls prog 204 #[.int .u64 x,.int .i64 8] w (bf λv w'=>au w0 w' (cZ v (ay.le x 8)::F)/\∃ a,v=.slice a 8 8):=by
 have N:=uQ hx;clear hx;have y:∀ w,(Instr.makeSlice 59 (.int .i64 8) (.int .i64 8)).run prog w=.ok (.slice (some ⟨w.heap.size,0,none⟩) 8 8) (w.alloc (.cells #[.int .u8 0,.int .u8 0,.int .u8 0,.int .u8 0,.int .u8 0,.int .u8 0,.int .u8 0,.int .u8 0] 5)):=λw=>by kernel_rfl
 go_enter func204,ntmps204;go_wp2_with fail;have A:=h.alloc (.cells #[.int .u8 0,.int .u8 0,.int .u8 0,.int .u8 0,.int .u8 0,.int .u8 0,.int .u8 0,.int .u8 0] 5);have B:au w0 (w.alloc (.cells #[.int .u8 0,.int .u8 0,.int .u8 0,.int .u8 0,.int .u8 0,.int .u8 0,.int .u8 0,.int .u8 0] 5)) (cZ (.slice (some ⟨w.heap.size,0,none⟩) 8 8) [0,0,0,0,0,0,0,0]::F):=au.pV A rfl (abG _) (abG _) yT0 rfl;obtain ⟨c,b1,b2,d,f,l,n,r,C,D,E,G,H,I,J,K,u⟩:∃ c b1 b2 d f l n r:UInt8,(x:Int)%256=c.toNat/\(x:Int)/256%256=b1.toNat/\(x:Int)/65536%256=b2.toNat/\(x:Int)/16777216%256=d.toNat/\(x:Int)/4294967296%256=f.toNat/\(x:Int)/1099511627776%256=l.toNat/\(x:Int)/281474976710656%256=n.toNat/\(x:Int)/72057594037927936%256=r.toNat/\ay.le x 8=[c,b1,b2,d,f,l,n,r]:=by
  refine ⟨_,_,_,_,_,_,_,_,?_,?_,?_,?_,?_,?_,?_,?_,rfl⟩
  all_goals (rw [ao4];omega)
 have z:=uQ u;clear u y A;generalize w.heap.size=q at *
 go_loopg [17] 8 (λg L M=>∃ (i:Nat) (m:Bs),g=8-i/\i<=8/\L=.int .i64 i/\m=(match i with|0=>[0,0,0,0,0,0,0,0]|1=>[c,0,0,0,0,0,0,0]|2=>[c,b1,0,0,0,0,0,0]|3=>[c,b1,b2,0,0,0,0,0]|4=>[c,b1,b2,d,0,0,0,0]|5=>[c,b1,b2,d,f,0,0,0]|6=>[c,b1,b2,d,f,l,0,0]|7=>[c,b1,b2,d,f,l,n,0]|_=>[c,b1,b2,d,f,l,n,r])/\au w0 M (cZ (.slice (some ⟨q,0,none⟩) 8 8) m::F))
 case atStart=>exact ⟨0,_,rfl,by omega,rfl,rfl,B⟩
 case round=>
  obtain ⟨i,m,rfl,hi,rfl,e,o⟩:=hrel;clear B;obtain rfl|rfl|rfl|rfl|rfl|rfl|rfl|rfl|rfl:i=0\/i=1\/i=2\/i=3\/i=4\/i=5\/i=6\/i=7\/i=8:=oQ
  ·obtain rfl:m=[0,0,0,0,0,0,0,0]:=e;obtain ⟨g,j,s,t,b⟩:=wz (i:=0) o yD0 c;cases j;go_wp2_with fail
   go_roundg 7
   case measure=>omega
   case rel=>exact ⟨1,[c,0,0,0,0,0,0,0],rfl,by omega,rfl,rfl,b⟩
  ·obtain rfl:m=[c,0,0,0,0,0,0,0]:=e;obtain ⟨g,j,s,t,b⟩:=wz (i:=1) o yD0 b1;cases j;go_wp2_with fail
   go_roundg 6
   case measure=>omega
   case rel=>exact ⟨2,[c,b1,0,0,0,0,0,0],rfl,by omega,rfl,rfl,b⟩
  ·obtain rfl:m=[c,b1,0,0,0,0,0,0]:=e;obtain ⟨g,j,s,t,b⟩:=wz (i:=2) o yD0 b2;cases j;go_wp2_with fail
   go_roundg 5
   case measure=>omega
   case rel=>exact ⟨3,[c,b1,b2,0,0,0,0,0],rfl,by omega,rfl,rfl,b⟩
  ·obtain rfl:m=[c,b1,b2,0,0,0,0,0]:=e;obtain ⟨g,j,s,t,b⟩:=wz (i:=3) o yD0 d;cases j;go_wp2_with fail
   go_roundg 4
   case measure=>omega
   case rel=>exact ⟨4,[c,b1,b2,d,0,0,0,0],rfl,by omega,rfl,rfl,b⟩
  ·obtain rfl:m=[c,b1,b2,d,0,0,0,0]:=e;obtain ⟨g,j,s,t,b⟩:=wz (i:=4) o yD0 f;cases j;go_wp2_with fail
   go_roundg 3
   case measure=>omega
   case rel=>exact ⟨5,[c,b1,b2,d,f,0,0,0],rfl,by omega,rfl,rfl,b⟩
  ·obtain rfl:m=[c,b1,b2,d,f,0,0,0]:=e;obtain ⟨g,j,s,t,b⟩:=wz (i:=5) o yD0 l;cases j;go_wp2_with fail
   go_roundg 2
   case measure=>omega
   case rel=>exact ⟨6,[c,b1,b2,d,f,l,0,0],rfl,by omega,rfl,rfl,b⟩
  ·obtain rfl:m=[c,b1,b2,d,f,l,0,0]:=e;obtain ⟨g,j,s,t,b⟩:=wz (i:=6) o yD0 n;cases j;go_wp2_with fail
   go_roundg 1
   case measure=>omega
   case rel=>exact ⟨7,[c,b1,b2,d,f,l,n,0],rfl,by omega,rfl,rfl,b⟩
  ·obtain rfl:m=[c,b1,b2,d,f,l,n,0]:=e;obtain ⟨g,j,s,t,b⟩:=wz (i:=7) o yD0 r;cases j;go_wp2_with fail
   go_roundg 0
   case measure=>omega
   case rel=>exact ⟨8,[c,b1,b2,d,f,l,n,r],rfl,by omega,rfl,rfl,b⟩
  ·obtain rfl:m=[c,b1,b2,d,f,l,n,r]:=e;go_wp2;go_ret;exact ⟨_,rfl,by rw [z.o];exact o,_,rfl⟩
section
variable {t e:TypeId}{pos:String}{g:Nat×Bool}{op:Op}{je:Nat}{zs:List Value}
theorem BX (hw:Region.wanted ⟨dst,op,t,pos,after,some g⟩ (yielded ops a.tmps)=true) (h:wpList P ops Q (⟨dst,op,t,pos,after,none⟩::rest) a w):wpList P ops Q (⟨dst,op,t,pos,after,some g⟩::rest) a w:=by
 unfold wpList at h ⊢;rw [abL hw];rw [abL (rH _ rfl)]at h;exact h
theorem BU (h:lQ (wpList P ops Q (⟨dst,.load ty x,t,pos,after,some g⟩::rest) a w)):wpList P ops Q (⟨dst,.load ty x,t,pos,after,some g⟩::rest) a w:=h.o
theorem Xi {xs:Array (Nat×Operand)} (h:lQ (wpList P ops Q (⟨dst,.build ty xs,t,pos,after,none⟩::rest) a w)):wpList P ops Q (⟨dst,.build ty xs,t,pos,after,none⟩::rest) a w:=h.o
theorem FQ {xs:Array (Nat×Operand)}{ps:Array (Nat×Value)} (h1:xs.map (λp=>(p.1,a.eval p.2))=ps) (hr:∀ w,(Instr.build ty ps).run P w=.ok v w) (h:wpList P ops Q rest (a.put dst v) w) :
  wpList P ops Q (⟨dst,.build ty xs,t,pos,after,none⟩::rest) a w:=
 ajs rfl λ_ hK=>by
  unfold Oper.wp execOp;simp only [h1,aii,hr,acz,aiV];exact hK _ _ h
end
abbrev nD (p:Nat) (l:Xx.Ln) (rv:Value) (n:Nat):aO:=pt p (.cells #[.bool true,.int .u64 0,.int .u64 l.a,.int .u64 l.b,.int .u64 l.c,.int .u64 l.d,rv,.int .u64 n] 371 (0,0))
section
variable {l:Xx.Ln}
theorem avs:nR prog 369=some (.agg #[.int .u64 0,.int .u64 0,.int .u64 0,.int .u64 0]):=aC
theorem apC (h:au w0 w F):Calls prog 244 #[.int .u64 0] w (bf λv w'=>∃ p,v=aW p/\au w0 w' (nD p Xx.Ln.zero (.slice none 0 0) 0::F)):=by
 go_in
 go_wp2_with (first
  |((with_reducible refine jy ⟨?_⟩);refine jB h aA aA ?_;intro bB wB hB)
  |((with_reducible refine eG ⟨?_⟩);refine jI (v:= .agg #[.int .u64 6983438078262162902,.int .u64 14029467366897019727,.int .u64 0,.int .u64 7046029288634856825]) hB aA aA aA eu aU aC aA ?_;intro wS hS))
 go_ret;exact ⟨_,rfl,bB,rfl,hS⟩
theorem aoj (hl:l.lt) (h:au w0 w (nD p l rv n::F)):Calls prog 264 #[aW p] w (bf λv w'=>v=.int .u64 (Xx.EO l:Nat)/\au w0 w' (nD p l rv n::F)):=by
 obtain ⟨c,d,lc,f⟩:=l;obtain ⟨l1,l2,l3,l4⟩:=hl;simp only at l1 l2 l3 l4;obtain ⟨s1,s2,x0,f1,f2,f3,q5,hJ⟩:=aoi ⟨c,d,lc,f⟩;simp only at f1 f2 f3 hJ;have HJ:=uQ hJ;have LY:=uQ (λ(w:World) (R:List aO) (a:au w0 w R)=>auz c l1 a);have LZ:=uQ (λ(w:World) (R:List aO) (a:au w0 w R)=>auD d l2 a);have Y1:=uQ (λ(w:World) (R:List aO) (a:au w0 w R)=>auw lc l3 a);have Y2:=uQ (λ(w:World) (R:List aO) (a:au w0 w R)=>auy f l4 a);generalize Xx.jc c 1=ta at *
 generalize Xx.jc d 7=tb at *
 generalize Xx.jc lc 12=tc at *
 generalize Xx.jc f 18=td at *
 have Hq:=uQ q5;have Hf:=uQ (And.intro f1 (And.intro f2 f3));clear l1 l2 l3 l4 q5 f1 f2 f3 hJ;go_enter func264,ntmps264
 go_wp2_with (first
  |((with_reducible refine dH ⟨?_⟩);refine IU (b:=p) (o:=2) [.int .u64 c,.int .u64 d,.int .u64 lc,.int .u64 f] h aA bJ (λj v hj=>by
    rcases j with _|_|_|_|j
    ·cases hj;rfl
    ·cases hj;rfl
    ·cases hj;rfl
    ·cases hj;rfl
    ·simp at hj) underlying369 rfl aC ?_)
  |((with_reducible refine jd ⟨?_⟩);refine iR avs h rfl ?_;intro D w3 h3)
  |((with_reducible refine eG ⟨?_⟩);refine jK #[.int .u64 c,.int .u64 d,.int .u64 lc,.int .u64 f] h3 aA aA aA eu aC aA ?_;intro w4 h4))
 have a:=h4.drew;clear h h3 h4;refine gK [13,14,15] (λw'=>w'.cell? ⟨D,0,none⟩=some (.int .u64 c)/\w'.cell? ⟨D,1,none⟩=some (.int .u64 d)/\w'.cell? ⟨D,2,none⟩=some (.int .u64 lc)/\w'.cell? ⟨D,3,none⟩=some (.int .u64 f)) aC ?_;have HG:=uQ (λ(w:World) (R:List aO) (a:au w0 w (pt D (.cells #[.int .u64 c,.int .u64 d,.int .u64 lc,.int .u64 f] 369 (0,0))::R))=>show w.cell? ⟨D,0,none⟩=some (.int .u64 c)/\w.cell? ⟨D,1,none⟩=some (.int .u64 d)/\w.cell? ⟨D,2,none⟩=some (.int .u64 lc)/\w.cell? ⟨D,3,none⟩=some (.int .u64 f) from ⟨a.dD 0 _ rfl,a.dD 1 _ rfl,a.dD 2 _ rfl,a.dD 3 _ rfl⟩);have hG:=HG.o _ _ a;refine rP 0 ?_ (y:=kX);refine rt 1 (h:=?_);refine rP 3 ?_ (y:=kX);refine rt 4 (h:=?_);refine rP 7 ?_ (y:=kX);refine rt 8 (h:=?_);refine rP 11 ?_ (y:=kX);refine rt 12 (h:=?_);clear hG;refine dZ 2 aF aC (λK A=>?_)
 (refine kM aC aF aF ?_)
 refine (LY.o _ _ a).mono ?_;rintro G w5 ⟨v,rfl,rfl,h5⟩;refine A _ _ (.inr (.inl (HG.o _ _ h5))) ?_;clear A a;refine dZ 5 aF aC (λK A=>?_)
 (refine kM aC aF aF ?_)
 refine (LZ.o _ _ h5).mono ?_;rintro G w6 ⟨v,rfl,rfl,h6⟩;refine A _ _ (.inr (.inl (HG.o _ _ h6))) ?_;clear A h5;refine rp 6 (hy:=(DZ aF aF (by intro wq;have f1:=Hf.o.1;(go_simp);first|done|exact wQ))) (h:=?_);refine dZ 9 aF aC (λK A=>?_)
 (refine kM aC aF aF ?_)
 refine (Y1.o _ _ h6).mono ?_;rintro G w7 ⟨v,rfl,rfl,h7⟩;refine A _ _ (.inr (.inl (HG.o _ _ h7))) ?_;clear A h6;refine rp 10 (hy:=(DZ aF aF (by intro wq;have f2:=Hf.o.2.1;(go_simp);first|done|exact wQ))) (h:=?_);refine dZ 13 aF aC (λK A=>?_)
 (refine kM aC aF aF ?_)
 refine (Y2.o _ _ h7).mono ?_;rintro G w8 ⟨v,rfl,rfl,h8⟩;refine A _ _ (.inl rfl) ?_;clear A h7;refine rp 14 (hy:=(DZ aF aF (by intro wq;have f3:=Hf.o.2.2;(go_simp);first|done|exact wQ))) (h:=?_);refine rP 15 ?_ (y:=kR);refine fK aC ?_
 try simp only [kW]
 try go_frame
 clear LY LZ Y1 Y2 HG Hf
 as_aux_lemma=>
  go_wp2_with ((with_reducible refine dH ⟨?_⟩);refine kG h8 aA bJ underlying369 rfl aC ?_)
  go_loopg [27,4] 4 (λg iq xq wr=>∃ (i x:Nat),g=4-i/\i<=4/\iq=.int .i64 i/\xq=.int .u64 (x:Nat)/\x<18446744073709551616/\((i=0->x=x0)/\(i=1->x=Xx.tu x0 c)/\(i=2->x=Xx.tu (Xx.tu x0 c) d)/\(i=3->x=Xx.tu (Xx.tu (Xx.tu x0 c) d) lc)/\(i=4->x=Xx.tu (Xx.tu (Xx.tu (Xx.tu x0 c) d) lc) f))/\au w0 wr (pt D (.cells #[.int .u64 c,.int .u64 d,.int .u64 lc,.int .u64 f] 369 (0,0))::nD p ⟨c,d,lc,f⟩ rv n::F))
  case atStart=>exact ⟨0,x0,rfl,by decide,rfl,rfl,Hq.o,⟨λ_=>rfl,λh=>absurd h aU,λh=>absurd h aU,λh=>absurd h aU,λh=>absurd h aU⟩,h8⟩
  case round=>
   obtain ⟨i,x,rfl,hi,rfl,rfl,E,m,a⟩:=hrel;clear h8;obtain rfl|rfl|rfl|rfl|rfl:i=0\/i=1\/i=2\/i=3\/i=4:=oQ
   ·as_aux_lemma=>
    have e:Calls prog 262 #[.int .u64 0,.int .u64 c] wr (bf λv w'=>v=.int .u64 (Xx.mP 0 c:Nat)/\au w0 w' _):=BF 0 c a;have H:∀ w,(Instr.index 369 (.agg #[.int .u64 c,.int .u64 d,.int .u64 lc,.int .u64 f]) (.int .i64 0)).run prog w=.ok (.int .u64 c) w:=λw=>by kernel_rfl
    obtain ⟨y,z,u,g1,g2,g3,B,C⟩:=Oo E c;generalize Xx.mP 0 c=t at *
    have Hu:=uQ B;have r:=uQ C;have s:=uQ (m.1 rfl);clear E C B m a;go_wp2_with fail;refine e.mono ?_;rintro G w9 ⟨v,rfl,rfl,h9⟩;clear e;go_wp2
    go_roundg 3
    case measure=>omega
    case rel=>exact ⟨1,u,rfl,by decide,rfl,rfl,Hu.o,⟨λh=>absurd h aU,λ_=>by rw [<-r.o,s.o],λh=>absurd h aU,λh=>absurd h aU,λh=>absurd h aU⟩,h9⟩
   ·as_aux_lemma=>
    have e:Calls prog 262 #[.int .u64 0,.int .u64 d] wr (bf λv w'=>v=.int .u64 (Xx.mP 0 d:Nat)/\au w0 w' _):=BF 0 d a;have H:∀ w,(Instr.index 369 (.agg #[.int .u64 c,.int .u64 d,.int .u64 lc,.int .u64 f]) (.int .i64 1)).run prog w=.ok (.int .u64 d) w:=λw=>by kernel_rfl
    obtain ⟨y,z,u,g1,g2,g3,B,C⟩:=Oo E d;generalize Xx.mP 0 d=t at *
    have Hu:=uQ B;have r:=uQ C;have s:=uQ (m.2.1 rfl);clear E C B m a;go_wp2_with fail;refine e.mono ?_;rintro G w9 ⟨v,rfl,rfl,h9⟩;clear e;go_wp2
    go_roundg 2
    case measure=>omega
    case rel=>exact ⟨2,u,rfl,by decide,rfl,rfl,Hu.o,⟨λh=>absurd h aU,λh=>absurd h aU,λ_=>by rw [<-r.o,s.o],λh=>absurd h aU,λh=>absurd h aU⟩,h9⟩
   ·as_aux_lemma=>
    have e:Calls prog 262 #[.int .u64 0,.int .u64 lc] wr (bf λv w'=>v=.int .u64 (Xx.mP 0 lc:Nat)/\au w0 w' _):=BF 0 lc a;have H:∀ w,(Instr.index 369 (.agg #[.int .u64 c,.int .u64 d,.int .u64 lc,.int .u64 f]) (.int .i64 2)).run prog w=.ok (.int .u64 lc) w:=λw=>by kernel_rfl
    obtain ⟨y,z,u,g1,g2,g3,B,C⟩:=Oo E lc;generalize Xx.mP 0 lc=t at *
    have Hu:=uQ B;have r:=uQ C;have s:=uQ (m.2.2.1 rfl);clear E C B m a;go_wp2_with fail;refine e.mono ?_;rintro G w9 ⟨v,rfl,rfl,h9⟩;clear e;go_wp2
    go_roundg 1
    case measure=>omega
    case rel=>exact ⟨3,u,rfl,by decide,rfl,rfl,Hu.o,⟨λh=>absurd h aU,λh=>absurd h aU,λh=>absurd h aU,λ_=>by rw [<-r.o,s.o],λh=>absurd h aU⟩,h9⟩
   ·as_aux_lemma=>
    have e:Calls prog 262 #[.int .u64 0,.int .u64 f] wr (bf λv w'=>v=.int .u64 (Xx.mP 0 f:Nat)/\au w0 w' _):=BF 0 f a;have H:∀ w,(Instr.index 369 (.agg #[.int .u64 c,.int .u64 d,.int .u64 lc,.int .u64 f]) (.int .i64 3)).run prog w=.ok (.int .u64 f) w:=λw=>by kernel_rfl
    obtain ⟨y,z,u,g1,g2,g3,B,C⟩:=Oo E f;generalize Xx.mP 0 f=t at *
    have Hu:=uQ B;have r:=uQ C;have s:=uQ (m.2.2.2.1 rfl);clear E C B m a;go_wp2_with fail;refine e.mono ?_;rintro G w9 ⟨v,rfl,rfl,h9⟩;clear e;go_wp2
    go_roundg 0
    case measure=>omega
    case rel=>exact ⟨4,u,rfl,by decide,rfl,rfl,Hu.o,⟨λh=>absurd h aU,λh=>absurd h aU,λh=>absurd h aU,λh=>absurd h aU,λ_=>by rw [<-r.o,s.o]⟩,h9⟩
   ·have Hx:=uQ (show x=Xx.EO ⟨c,d,lc,f⟩ by rw [HJ.o];exact m.2.2.2.2 rfl);clear m E;go_wp2;go_ret;exact ⟨_,rfl,by rw [Hx.o];rfl,a.drop⟩
end
theorem abp (l:Bs) (hl:l.length=4) (a:Option Addr) (c:Nat) (h:bK 1 (.slice a 4 c) (aI l) w) :
  Calls prog 227 #[.slice a 4 c] w (bf λv w'=>v=.tuple #[.int .u64 (ay.bD l:Nat),.bool true]/\w=w'):=abo l hl a c h
theorem aoy (x:Nat) (h:au w0 w F):Calls prog 262 #[.int .u64 0,.int .u64 x] w (bf λv w'=>v=.int .u64 (Xx.mP 0 x:Nat)/\au w0 w' F):=BF 0 x h
theorem CX (n:RS w0 F bv l) (h:au w0 w F){k:Nat} (o:k<=l.length):∃ a c j m,bv=.slice a l.length c/\l.length<=c/\c<=9223372036854775807/\(∀ w,(Instr.sliceAt 59 (.slice a l.length c) (some (.int .i64 k)) none none).run prog w=.ok (.slice j (l.drop k).length m) w)/\RS w0 F (.slice j (l.drop k).length m) (l.drop k):=by
 obtain ⟨a,c,rfl,e,f⟩:=n.len h;have b:=n.from o;obtain ⟨j,m,d,g,i⟩:=b.len h;refine ⟨a,c,j,m,rfl,e,f,λw=>?_,by rw [<-d];exact b⟩;rw [<-d];exact aha o w
theorem alC (o:RS w0 F bv l) (h:au w0 w F){k:Nat} (r:k<=l.length):∃ a c m n,bv=.slice a l.length c/\l.length<=c/\c<=9223372036854775807/\(∀ w,(Instr.sliceAt 59 (.slice a l.length c) none (some (.int .i64 k)) none).run prog w=.ok (.slice m k n) w)/\RS w0 F (.slice m k n) (l.take k):=by
 obtain ⟨a,c,rfl,f,g⟩:=o.len h;have d:=o.to r c oQ (abG c);obtain ⟨m,n,b,i,j⟩:=d.len h;have e:(l.take k).length=k:=by rw [abA];omega
 rw [e]at b;refine ⟨a,c,m,n,rfl,f,g,λw=>?_,by rw [<-b];exact d⟩;rw [<-b];exact PU oQ w
theorem avl (x:Nat) (hx:x<18446744073709551616) (l:Bs) (hl:l.length<=1073741824) (hr:RS w0 F bv l) (h:au w0 w F):Calls prog 265 #[.int .u64 x,bv] w (bf λv w'=>v=.int .u64 (Xx.tail x l:Nat)/\au w0 w' F):=by
 obtain ⟨ba,bc,rfl,hb1,hb2⟩:=hr.len h;have Hr:=uQ hr;have Hx:=uQ hx;have Hl:=uQ hl;clear hr hx hl hb1 hb2
 go_in
 go_wp2_with fail
 go_loopg [0,1] l.length (λg xq bq wr=>∃ (y:Nat) (m:Bs),g=m.length/\m.length<=l.length/\xq=.int .u64 y/\y<18446744073709551616/\RS w0 F bq m/\Xx.qL l.length x l=Xx.qL m.length y m/\au w0 wr F)
 case atStart=>exact ⟨x,l,rfl,abG _,rfl,Hx.o,Hr.o,rfl,h⟩
 case round=>
  obtain ⟨y,m,rfl,hml,rfl,hy,hRS,heq,hS⟩:=hrel;clear h;by_cases h8:8<=m.length
  ·as_aux_lemma=>
   obtain ⟨a,c,a2,c2,rfl,k1,k2,hrun,abN⟩:=CX hRS hS h8;have hwd:=KW m h8 hRS hS;have hst:Xx.qL m.length y m=Xx.qL (m.drop 8).length (Xx.t8 y (ay.bD (m.take 8))) (m.drop 8):=by rw [Xx.auk h8 (abG _),abJ]
   generalize ay.bD (m.take 8)=N at *
   have hln:=uQ (λ(w:World) (hS:au w0 w F)=>aoy N hS);obtain ⟨r,z,u,g1,hr1,g3,g4,hu,ht8⟩:=auf hy N;generalize Xx.mP 0 N=t at *
   have htu:=uQ (λ(w:World) (hS:au w0 w F)=>auB r hr1 hS);generalize Xx.jc r 27=s at *
   rw [ht8]at hst;have ab3:(m.drop 8).length<m.length:=by rw [abJ];omega
   generalize m.drop 8=m2 at *
   have c1:(8:Int)<=m.length:=oQ;have Hu:=uQ hu;have x9:=uQ (heq.trans hst);have HR:=uQ abN;have dP:=uQ (And.intro ab3 hml);clear hu hr1 hst ht8 heq abN hRS ab3 hml hy k1 k2 h8;go_wp2_with fail;refine hwd.mono ?_;rintro ee w2 ⟨v,rfl,rfl,rfl⟩;clear hwd;go_wp2_with fail;refine (hln.o _ hS).mono ?_;rintro ee w3 ⟨v,rfl,rfl,h3⟩;clear hln hS;go_wp2_with fail;refine (htu.o _ h3).mono ?_;rintro ee w4 ⟨v,rfl,rfl,h4⟩;clear htu h3;go_wp2_with ((with_reducible refine MJ ⟨?_⟩);refine Qq aA aA hrun ?_)
   go_roundg m2.length
   case measure=>exact dP.o.1
   case rel=>exact ⟨u,m2,rfl,by have:=dP.o;omega,rfl,Hu.o,HR.o,x9.o,h4⟩
  ·have hst:Xx.qL l.length x l=(y,m):=heq.trans (Xx.aul h8);have hT:Xx.tail x l=(Xx.Aw y m).2.foldl Xx.t1 (Xx.Aw y m).1:=by unfold Xx.tail;rw [hst]
   have hl2:m.length<=1073741824:=abQ hml Hl.o;have c1:¬ (8:Int)<=m.length:=oQ;clear heq hst h8 hml;by_cases h4:4<=m.length
   ·have e4:Xx.Aw y m=(Xx.t4 y (ay.bD (m.take 4)),m.drop 4):=by unfold Xx.Aw;rw [abL h4]
    rw [e4]at hT;obtain ⟨a,c,a2,c2,rfl,k1,k2,hrunT,abP⟩:=alC hRS hS h4;obtain ⟨a',c',a3,c3,he,_,_,acp,abO⟩:=CX hRS hS h4;cases he;have hgt:=abp (m.take 4) yE0 a2 c2 (abP.rd _ hS);obtain ⟨t,r,z,u,g0,g1,hr1,g3,g4,hu,ht4⟩:=aud hy (ay.bD (m.take 4));rw [ht4]at hT;generalize ay.bD (m.take 4)=N at *
    have htu:=auA r hr1 hS;generalize Xx.jc r 23=s at *
    have hl4:(m.drop 4).length<=1073741824:=by rw [abJ];omega
    have ZM:(4:Int)<=m.length:=oQ;dsimp only at hT;generalize m.drop 4=m2 at *
    have Hu:=uQ hu;have HT:=uQ hT;have HR:=uQ abO;clear hu hr1 hT ht4 hRS abP abO hy k1 k2 h4 e4 hl2
    go_wp2_with (first
     |((with_reducible refine Zv ⟨?_⟩);refine aiq aA aA hrunT ?_))
    refine hgt.mono ?_;rintro ee w2 ⟨v,rfl,rfl,rfl⟩;clear hgt;go_wp2_with fail;refine htu.mono ?_;rintro ee w3 ⟨v,rfl,rfl,h3⟩;clear htu hS;go_wp2_with ((with_reducible refine MJ ⟨?_⟩);refine Qq aA aA acp ?_);clear c1 ZM g0 g1 g3 g4 hrunT acp;have Hm:=uQ (show m2.length<=1073741824 from by omega);have oU:=uQ HR.o;have HE:=uQ HT.o;have Hy:=uQ Hu.o;go_wp2_with fail
    go_loopg [0,42] m2.length (λg xq iq wr=>∃ (i z:Nat),g=m2.length-i/\i<=m2.length/\xq=.int .u64 z/\iq=.int .i64 i/\z<18446744073709551616/\z=(m2.take i).foldl Xx.t1 u/\au w0 wr F)
    case atStart=>exact ⟨0,u,rfl,acn _,rfl,rfl,Hy.o,rfl,h3⟩
    case round=>
     obtain ⟨i,z,rfl,hi,rfl,rfl,hz,hze,oh⟩:=hrel;by_cases hi':i<m2.length
     ·as_aux_lemma=>
      have hb:(aI m2)[i]?=some (.int .u8 (m2[i]'hi').toNat):=by unfold aI;simp [hi']
      obtain ⟨bk,off,rfl,c1⟩:=Ak (oU.o.rd _ oh) hb;have hic:i<m2.length:=oQ;have hwi:IntKind.i64.wrap (i+1)=i+1:=abR _ (by have:=Hm.o;omega);have hnx:(m2.take (i+1)).foldl Xx.t1 u=Xx.t1 z (m2[i]'hi'):=by rw [ajA hi',asl,<-hze,awu,List.foldl_nil]
      have hcb:=(m2[i]'hi').toNat_lt;obtain ⟨q,r,u,g1,g2,hr,g3,hu,JF⟩:=ahE hz (m2[i]'hi');rw [JF]at hnx;have ht1:=hnx;clear hnx hb JF;generalize (m2[i]'hi').toNat=cb at *
      have htu:=ahM r hr oh;generalize Xx.jc r 11=s at *
      have hcm:IntKind.u64.wrap cb=cb:=by rw [am7];omega
      have Hu:=uQ hu;have Rl:=uQ ht1;have Hi:=uQ hi';clear hu hr ht1 hze hz hcb hi hi';go_wp2_with fail;refine htu.mono ?_;rintro ee w9 ⟨v,rfl,rfl,h9⟩;clear htu oh;go_wp2
      go_roundg (m2.length-(i+1))
      case measure=>have:=Hi.o;omega
      case rel=>exact ⟨i+1,u,rfl,aiW Hi.o,rfl,by first|rfl|go_num,Hu.o,Rl.o.symm,h9⟩
     ·as_aux_lemma=>
      obtain rfl:i=m2.length:=oQ;have hic:¬ m2.length<m2.length:=oQ;rw [ai0]at hze;have Hf:=uQ (show Xx.tail x l=z by rw [HE.o,hze]);clear hze hz hi hi';go_wp2;go_ret;exact ⟨_,rfl,by first|(rw [Hf.o];rfl)|(rw [<-HE.o,Hf.o];rfl),oh⟩
   ·have e4:Xx.Aw y m=(y,m):=by unfold Xx.Aw;rw [abB h4]
    rw [e4]at hT;dsimp only at hT;obtain ⟨a,c,rfl,k1,k2⟩:=hRS.len hS;have ZM:¬ (4:Int)<=m.length:=oQ;have HT:=uQ hT;clear e4 h4 k1 k2 hT;have Hm:=uQ (show m.length<=1073741824 from by omega);have oU:=uQ hRS;have HE:=uQ HT.o;have Hy:=uQ hy;go_wp2_with fail
    go_loopg [0,42] m.length (λg xq iq wr=>∃ (i z:Nat),g=m.length-i/\i<=m.length/\xq=.int .u64 z/\iq=.int .i64 i/\z<18446744073709551616/\z=(m.take i).foldl Xx.t1 y/\au w0 wr F)
    case atStart=>exact ⟨0,y,rfl,acn _,rfl,rfl,Hy.o,rfl,hS⟩
    case round=>
     obtain ⟨i,z,rfl,hi,rfl,rfl,hz,hze,oh⟩:=hrel;by_cases hi':i<m.length
     ·as_aux_lemma=>
      have hb:(aI m)[i]?=some (.int .u8 (m[i]'hi').toNat):=by unfold aI;simp [hi']
      obtain ⟨bk,off,rfl,c1⟩:=Ak (oU.o.rd _ oh) hb;have hic:i<m.length:=oQ;have hwi:IntKind.i64.wrap (i+1)=i+1:=abR _ (by have:=Hm.o;omega);have hnx:(m.take (i+1)).foldl Xx.t1 y=Xx.t1 z (m[i]'hi'):=by rw [ajA hi',asl,<-hze,awu,List.foldl_nil]
      have hcb:=(m[i]'hi').toNat_lt;obtain ⟨q,r,u,g1,g2,hr,g3,hu,JF⟩:=ahE hz (m[i]'hi');rw [JF]at hnx;have ht1:=hnx;clear hnx hb JF;generalize (m[i]'hi').toNat=cb at *
      have htu:=ahM r hr oh;generalize Xx.jc r 11=s at *
      have hcm:IntKind.u64.wrap cb=cb:=by rw [am7];omega
      have Hu:=uQ hu;have Rl:=uQ ht1;have Hi:=uQ hi';clear hu hr ht1 hze hz hcb hi hi';go_wp2_with fail;refine htu.mono ?_;rintro ee w9 ⟨v,rfl,rfl,h9⟩;clear htu oh;go_wp2
      go_roundg (m.length-(i+1))
      case measure=>have:=Hi.o;omega
      case rel=>exact ⟨i+1,u,rfl,aiW Hi.o,rfl,by first|rfl|go_num,Hu.o,Rl.o.symm,h9⟩
     ·as_aux_lemma=>
      obtain rfl:i=m.length:=oQ;have hic:¬ m.length<m.length:=oQ;rw [ai0]at hze;have Hf:=uQ (show Xx.tail x l=z by rw [HE.o,hze]);clear hze hz hi hi';go_wp2;go_ret;exact ⟨_,rfl,by first|(rw [Hf.o];rfl)|(rw [<-HE.o,Hf.o];rfl),oh⟩
abbrev mG (p:Nat) (rv:Value):aO:=pt p (.cells #[rv,dS 0,.bool true] 363 (0,0))
theorem agE (hl:l.length<=140737488355328) (hr:RS w0 F bv l) (h:au w0 w F):Calls prog 229 #[bv] w (bf λv w'=>∃ p rv,v=aW p/\au w0 w' (mG p rv::cZ rv l::F)/\RS w0 (cZ rv l::F) rv l):=by
 obtain ⟨j,bc,rfl,_,_⟩:=hr.len h;have a:=yL h (hr.rd w h) hl
 go_in
 go_wp2_with fail;refine a.mono ?_;rintro m n ⟨v,rfl,f,b,c,d,rfl⟩;go_wp2_with ((with_reducible refine jy ⟨?_⟩);refine jB f aA aA ?_;intro i o e);go_ret;exact ⟨_,rfl,i,_,rfl,e,RS.OE e.drop⟩
theorem agv (h:au w0 w (mG p rv::F)):Calls prog 256 #[aW p] w (bf λv w'=>v=dS 0/\w=w'):=by
 have c1:=h.dD 1 _ rfl;have c2:=h.dD 2 _ rfl
 go_in
 go_wp2;go_ret;exact ⟨_,rfl,rfl,rfl⟩
theorem Wu (D:k<=m.length) (H:RS w0 F rv m) (h:au w0 w (mG p rv::F)):Calls prog 255 #[aW p,.int .i64 k] w (bf λv w'=>∃ E G B rc,v=.tuple #[.slice E k G,.bool true]/\RS w0 F (.slice E k G) (m.take k)/\(∀ C,RS w0 C rv m->RS w0 C (.slice B (m.drop k).length rc) (m.drop k))/\au w0 w' (mG p (.slice B (m.drop k).length rc)::F)):=by
 obtain ⟨i,bc,B,rc,rfl,l,j,b,_⟩:=CX H h.drop D;have c:∀ C,RS w0 C (.slice i m.length bc) m->RS w0 C (.slice B (m.drop k).length rc) (m.drop k):=λC n=>by
  have e:=(aha D w).symm.trans (b w);have o:sliced i k m.length bc 1=.slice B (m.drop k).length rc:=by injection e
  rw [<-o];exact n.from D
 have a:=H.to D k (abG k) oQ;obtain ⟨E,G,g,_,_⟩:=a.len h.drop;rw [show (m.take k).length=k by rw [abA];omega]at g;have d:∀ w,(Instr.sliceAt 59 (.slice i m.length bc) none (some (.int .i64 k)) (some (.int .i64 k))).run prog w=.ok (.slice E k G) w:=λw=>by rw [<-g];exact asR oQ w
 rw [g]at a;have f:=agv h;have r:¬ k<0:=oQ;have t:¬ m.length<k:=oQ;have HF:=uQ c;generalize (m.drop k).length=q at *
 go_in
 go_wp2_with fail;refine f.mono ?_;rintro y z ⟨v,rfl,rfl,rfl⟩
 go_wp2_with (first
  |((with_reducible refine dH ⟨?_⟩);refine jC h aA bJ dG aF aC ?_)
  |((with_reducible refine akx ⟨?_⟩);refine au9 aA aA aA d ?_)
  |((with_reducible refine MJ ⟨?_⟩);refine Qq aA aA b ?_)
  |((with_reducible refine eG ⟨?_⟩);refine jI h aA aA aA eu (by exact Nat.le_of_ble_eq_true aA) aC aA ?_;intro A j))
 go_ret2
 exact ⟨_,rfl,E,G,B,rc,rfl,a,HF.o,j⟩
theorem adz(h:A:=by
 have her:=agv h;have htk:=Wu (k:=FM) hk hr h;have Hl:=uQ (show (m.take FM).length=FM by rw [abA];((try simp only [FM] at *);omega));clear hr hk;go_enter func231,ntmps231;go_wp2_with fail;refine her.mono ?_;rintro ee w1 ⟨v,rfl,rfl,rfl⟩;clear her;go_wp2_with fail;refine htk.mono ?_;rintro ee w2 ⟨v,rfl,ta,tc,ra,rc,rfl,hT,hF,h2⟩;have hg:=ah7 (m.take FM) Hl.o ta tc (hT.rd w2 h2.drop);have HF:=uQ hF;obtain ⟨N,hN⟩:∃ N,Hid (ay.bD (m.take FM)=N):=⟨_,uQ rfl⟩;rw [hN.o]at hg;clear htk h hT hF Hl;go_wp2_with fail;refine hg.mono ?_;rintro ee w3 ⟨v,rfl,rfl,rfl⟩;clear hg;go_wp2;go_ret;exact ⟨_,rfl,_,by rw [hN.o];rfl,HF.o,h2⟩):A:=h
abbrev fG.FM:Nat:=4
abbrev fG.ah7:=@abp
open fG in
theorem VX (hk:4<=m.length) (hr:RS w0 F rv m) (h:au w0 w (mG p rv::F)):Calls prog 231 #[aW p,.int .i64 4] w (bf λv w'=>∃ rv',v=.int .u64 (ay.bD (m.take 4):Nat)/\(∀ F0,RS w0 F0 rv m->RS w0 F0 rv' (m.drop 4))/\au w0 w' (mG p rv'::F)):=adz
abbrev fH.FM:Nat:=8
abbrev fH.ah7:=@abq
open fH in
theorem agD (hk:8<=m.length) (hr:RS w0 F rv m) (h:au w0 w (mG p rv::F)):Calls prog 231 #[aW p,.int .i64 8] w (bf λv w'=>∃ rv',v=.int .u64 (ay.bD (m.take 8):Nat)/\(∀ F0,RS w0 F0 rv m->RS w0 F0 rv' (m.drop 8))/\au w0 w' (mG p rv'::F)):=adz
theorem aq1 (B:32<=m.length) (C:RS w0 F rv m) (h:au w0 w (mG p rv::F)):Calls prog 257 #[aW p,.int .i64 32] w (bf λv w'=>∃ A,(∀ D,RS w0 D rv m->RS w0 D A (m.drop 32))/\(∃ a n c,v=.slice a n c)/\au w0 w' (cZ v (m.take 32)::mG p A::F)):=by
 have b:=Wu B C h;have i:=uQ (show (m.take 32).length<=140737488355328 by rw [abA];omega);clear C B
 go_in
 go_wp2_with fail;refine b.mono ?_;rintro j l ⟨v,rfl,r,s,t,rc,rfl,d,e,f⟩;have g:=yL f (d.rd l f.drop) i.o;have HF:=uQ e;clear b h d e;go_wp2_with fail;refine g.mono ?_;rintro j u ⟨v,rfl,o,x,y,z,rfl⟩;clear g;go_wp2;go_ret;exact ⟨_,rfl,_,HF.o,⟨_,_,_,rfl⟩,o⟩
theorem asZ (f:RS w0 F bv m) (h:au w0 w F) (g:0<m.length):(convert 59 9 bv).run prog w=.ok (.string ⟨m.toArray⟩) w:=by
 obtain ⟨a,c,rfl,_,_⟩:=f.len h;obtain ⟨e,off,rfl,b⟩:=pq (f.rd w h) (Bj.2 ⟨m[0],aaf g,rfl⟩);refine run_convert_bytes_back w _ _ 5 _ c m underlying59 underlying5 underlying9 (λj d=>?_);have:=b j _ (Bj.2 ⟨m[j],aaf d,rfl⟩);rw [Addr.add_mid];exact this
theorem agT (r:8<=m.length) (s:RS w0 F rv m) (h:au w0 w (mG p rv::F)):Calls prog 230 #[aW p,.int .i64 8] w (bf λv w'=>∃ o,v=.string ⟨(m.take 8).toArray⟩/\(∀ t,RS w0 t rv m->RS w0 t o (m.drop 8))/\au w0 w' (mG p o::F)):=by
 have a:=Wu r s h;have e:=(show 0<(m.take 8).length by rw [abA];omega)
 go_in
 go_wp2_with fail;refine a.mono ?_;rintro g i ⟨v,rfl,j,l,n,rc,rfl,b,c,d⟩;have f:=asZ b d.drop e;clear a h b;go_wp2;go_ret;exact ⟨_,rfl,_,rfl,c,d⟩
section
variable {t:TypeId}{pos:String}{parts:Array (Nat×Operand)}
theorem au2 (b:Array (Nat×Value)) (he:parts.map (λp=>(p.1,a.eval p.2))=b) (hr:∀ w,(Instr.build ty b).run P w=.ok v w) (h:wpList P ops Q rest (a.put dst v) w):wpList P ops Q (⟨dst,.build ty parts,t,pos,after,none⟩::rest) a w:=
 ajs rfl λ_ hK=>by
  exact afV
theorem akp (h:lQ (wpList P ops Q (⟨dst,.build ty parts,t,pos,after,none⟩::rest) a w)):wpList P ops Q (⟨dst,.build ty parts,t,pos,after,none⟩::rest) a w:=h.o
end
abbrev su (mg:ByteArray) (kd:Bool) (k:Nat):Array Value:=#[.string mg,.bool kd,.int .i64 k]
abbrev TY:Array Value:=su ⟨#[72,79,65,82,68,73,68,88]⟩ true 3
abbrev XJ:Array Value:=su ⟨#[72,79,65,82,68,85,83,69]⟩ false 3
theorem aiG:nR prog 270=some (.agg #[.string ⟨#[]⟩,.bool false,.int .i64 0]):=aC
theorem awh (w:World):(Instr.build 270 #[(0,.string ⟨#[72,79,65,82,68,73,68,88]⟩),(1,.bool true),(2,.int .i64 3)]).run prog w=.ok (.agg TY) w:=aC
theorem awi (w:World):(Instr.build 270 #[(0,.string ⟨#[72,79,65,82,68,85,83,69]⟩),(1,.bool false),(2,.int .i64 3)]).run prog w=.ok (.agg XJ) w:=aC
theorem acM (h:au w0 w F):Calls prog 162 #[] w (bf λv w'=>v=.agg TY/\au w0 w' F):=by
 go_in
 go_wp2_with (apply jd);refine ⟨iR aiG h rfl ?_⟩;intro b4 w4 h4
 go_wp2_with (first
  |((with_reducible refine eG ⟨?_⟩);refine jK TY h4 aA aA aA eu aC aA ?_;intro w9 h9))
 exact afS
theorem aif (h:au w0 w F):Calls prog 167 #[] w (bf λv w'=>v=.agg XJ/\au w0 w' F):=by
 go_in
 go_wp2_with (apply jd);refine ⟨iR aiG h rfl ?_⟩;intro b4 w4 h4
 go_wp2_with (first
  |((with_reducible refine eG ⟨?_⟩);refine jK XJ h4 aA aA aA eu aC aA ?_;intro w9 h9))
 exact afS
theorem acZ (mg:ByteArray) (kd:Bool) (k:Nat) (hk:k<=1000) (h:au w0 w F):Calls prog 232 #[.agg (su mg kd k)] w (bf λv w'=>v=.int .i64 (bH.nX kd k:Nat)/\au w0 w' F):=by
 cases kd
 ·have e:=uQ (show ((bH.nX false k:Nat):Int)=4*k by unfold bH.nX;simp)
  go_in
  go_wp2_with (apply jy);exact ae3
 ·have e:=uQ (show ((bH.nX true k:Nat):Int)=4*k+32 by unfold bH.nX;simp)
  go_in
  go_wp2_with (apply jy);exact ae3
abbrev DC (x:bH.Rw) (nv:Value):Array Value:=(aI x.key++[nv]).toArray
section
variable {na nb:Value}
theorem PW {x:bH.Rw}{nv:Value}{j:Nat}{v:Value} (h:(aI x.key)[j]?=some v):(DC x nv)[j]?=some v:=by
 have hj:j<(aI x.key).length:=by
  rcases anF j (aI x.key).length with k|k
  ·exact k
  ·rw [avA k]at h;cases h
 rw [ab5,aiS hj];exact h
theorem Fj {x:bH.Rw}{nv:Value} (hk:x.key.length=32):(DC x nv)[32]?=some nv:=by
 rw [ab5,aiP (by rw [bP,hk];exact abG 32),bP,hk];rfl
theorem aut (a b:ay.Bs) (ha:a.length=32) (hb:b.length=32) (h:au w0 w F) :
  Calls prog 261 #[.agg (aI a).toArray,.agg (aI b).toArray] w (bf λv w'=>v=.bool (decide (a<b))/\au w0 w' F):=by
 have s:=uQ (show decide (Lib.compareBytes a b<0)=decide (a<b) from decide_eq_decide.2 (aY.MS a b))
 go_in
 go_wp2_with (with_reducible apply jy);refine ⟨jB h aF aF ?_⟩;intro b2 A g;go_wp2_with (with_reducible apply jy);refine ⟨jB g aF aF ?_⟩;intro t i l;have d:=l.drew;have m:bK 1 (.slice (some ⟨b2,0,none⟩) 32 32) (aI a) i.drew:=⟨_,_,_,rfl,by rw [bP,ha],λj z f=>⟨_,rfl,by rw [Ei,aiO];exact d.bI bZ j (by rw [ab5];exact f)⟩⟩;have n:bK 1 (.slice (some ⟨t,0,none⟩) 32 32) (aI b) i.drew:=⟨_,_,_,rfl,by rw [bP,hb],λj z f=>⟨_,rfl,by rw [Ei,aiO];exact d.bI bJ j (by rw [ab5];exact f)⟩⟩;have c:=ZB a b m n;generalize Lib.compareBytes a b=r at *
 clear h g l m n ha hb;go_wp2;have u:=trivial;refine gK [] (λw'=>True) aC ?_;refine rp 0 (hy:=zR0) (h:=?_);refine rp 1 (hy:=zR0) (h:=?_);refine dZ 2 aF aC (λK o=>?_)
 (refine kM aC aF aF ?_)
 refine c.mono ?_;rintro e w' ⟨rfl,rfl⟩;refine o _ _ (.inr (.inr rfl)) ?_;clear o c;refine rP 3 ?_ (y:=nT);refine rP 4 ?_ (y:=kR);refine fK aC ?_;clear u;go_wp2;go_ret;exact ⟨_,rfl,by rw [<-s.o];rfl,d.drop.drop⟩
theorem aj1 (mg:ByteArray) (k:Nat) (a b:bH.Rw) (ha:a.key.length=32) (hb:b.key.length=32) (h:au w0 w F) :
  Calls prog 243 #[.agg (su mg true k),.agg (DC a na),.agg (DC b nb)] w (bf λv w'=>v=.bool (decide (bH.ahead true a b))/\au w0 w' F):=by
 have n:=(show decide (bH.ahead true a b)=decide (a.key<b.key) from decide_eq_decide.2 Iff.rfl);have d:(prog.info? 34).map (·.size)=some (aI a.key).length:=by rw [bP,ha];kernel_rfl
 have f:(prog.info? 34).map (·.size)=some (aI b.key).length:=by rw [bP,hb];kernel_rfl
 have i:=(λ(w':World) (R:List aO) (r:au w0 w' R)=>aut a.key b.key ha hb r)
 go_in
 go_wp2_with (apply jy);refine ⟨jB h aF aF ?_⟩;intro b1 t l;go_wp2_with (apply jy);refine ⟨jB l aF aF ?_⟩;intro b2 u m;go_wp2_with (apply jy);refine ⟨jB m aF aF ?_⟩;intro x y c
 go_wp2_with (first
  |((refine dH ⟨?_⟩);first
   |refine jC c aA (bW bZ) dG aF aC ?_
   |refine IU (o:=0) (aI a.key) c aA bZ (λj v g=>by rw [aiO];exact PW g) underlying34 rfl d ?_
   |refine IU (o:=0) (aI b.key) c aA bJ (λj v g=>by rw [aiO];exact PW g) underlying34 rfl f ?_))
 refine (i _ _ c).mono ?_;rintro e z ⟨v,rfl,rfl,s⟩;go_wp2;go_ret;exact ⟨_,rfl,by rw [n];rfl,s.drop.drop.drop⟩
end
end Go.Proofs.Y
namespace Go
open Go
theorem BJ(k:H)(h:RowKit.Hid H->A:=by
 intro fM;go_wp2_with (with_reducible apply eG);exact fM.o):A:=h (uQ k)
theorem VF(k:H)(h:RowKit.Hid H->A:=by
 intro fM;have hG:=HG.o _ _ hS1;refine rP 0 ?_ (y:=bV);refine rP 1 ?_ (y:=bV);refine rP 2 ?_ (y:=bV);refine rP 3 ?_ (y:=bV);refine rP 4 ?_ (y:=jF);refine rP 5 ?_ (y:=eY);refine rP 6 ?_ (y:=kX);refine rt 7 (h:=?_);refine rP 8 ?_ (y:=bV);refine rP 9 ?_ (y:=bV);refine rP 10 ?_ (y:=nT);revert hG;exact fM.o):A:=h (uQ k)
theorem aeM(h:A:=by
 go_wp2_with fail;rw [show (⟨#[115,101,103,46]⟩:ByteArray)++(⟨(s.data.toList.drop 4).toArray⟩:ByteArray)=⟨(aB.jW++s.data.toList.drop 4).toArray⟩ from aoH _];refine (ahw _ h1).mono ?_;rintro e w3 ⟨v,rfl,rfl,h3⟩;go_wp2_with fail
 go_ret2
 exact ⟨_,rfl,by rw [Hy.o];rfl,h3.drop⟩):A:=h
theorem O7(k:H)(h:RowKit.Hid H->A:=by
 intro fM;have c3:(i:Int)<(us.length:Int):=oQ;have hwi:IntKind.i64.wrap ((i:Int)+1)=(i:Int)+1:=abR _ (by have:=Hl.o;omega);revert c3 hwi;exact fM.o):A:=h (uQ k)
theorem aeU(k:H)(h:RowKit.Hid H->A:=by
 intro fM;have dP:=uQ hlt;have yI:=uQ hrs;have jl:=uQ (show us.take (i+1)=us.take i++[u] from bH.qy hx)
 have zK:=uQ (show (rs.flatMap eX).length<=2147483648 from by
  rw [lK λr hr=>rF r (hrs.2 r hr)];have:=aiX List.length hrs.1;rw [abl,abl,abA]at this;have:=Hl.o;omega)
 revert dP yI jl zK;exact fM.o):A:=h (uQ k)
theorem ae5(h:A:=by
 exfalso;have hl:D[D.length-1]?=some (D[D.length-1]'oQ):=aaf oQ;have h5:=h4 _ _ oQ hl;have h6:=hc _ (by rw [ao2];exact hl);rw [h5]at h6;cases h6):A:=h
theorem afb(k:H)(h:RowKit.Hid H->A:=by
 intro fM;have hbs:∀ w,(Instr.buildSlice 46 3 #[(0,.int .i64 a),(1,.int .i64 b),(2,.int .i64 c)]).run prog w=.ok (.slice (some ⟨w.heap.size,0,none⟩) 3 3) (w.alloc (.cells #[.int .i64 a,.int .i64 b,.int .i64 c] 3)):=λw=>by kernel_rfl
 revert hbs;exact fM.o):A:=h (uQ k)
theorem afe(h:A:=by
 have c3:¬ (i:Int)<(us.length:Int):=oQ;have hi2:i=us.length:=oQ;subst hi2;rw [ai0]at hrs;clear hi hlt;go_wp2_with fail;go_ret;exact ⟨_,rfl,rs,hrs.1,hS⟩):A:=h
theorem af7(h:A:=by
 obtain ⟨f1,f2,f3,f4,f5⟩:=Hf.o;go_wp2;go_ret;exact ⟨_,rfl,by rw [Yx.o];rfl,h2⟩):A:=h
end Go
namespace Go.Proofs.Y
open Go.aG
structure RV where
 x:bH.Rw
 nv:Value
def eX (r:RV):List Value:=aI r.x.key++[r.nv]
structure yK (w0:World) (F:List aO) (r:RV):Prop where
 key:r.x.key.length=32
 rd:Ro w0 F (bK 1 r.nv (dJ r.x.eU))
 ne:0<r.x.eU.length
section
variable {lv:Value}
theorem rF (r:RV) (h:r.x.key.length=32):(eX r).length=33:=by unfold eX;rw [aay,bP,h];rfl
theorem yK.sub {r:RV}{G:List aO} (h:yK w0 F r) (k:xu G F):yK w0 G r:=⟨h.key,Ro.H9 h.rd k,h.ne⟩
theorem aef {nv:Value}{l:List Int} (h:bK 1 nv (dJ l) w) (j:0<l.length):∃ g off c,nv=.slice (some ⟨g,off,none⟩) l.length c/\w.cell? ⟨g,off,none⟩=some (.int .i64 (l.getD 0 0)):=by
 have e:l[0]?=some (l.getD 0 0):=by rw [abY,aaf j];rfl
 obtain ⟨g,off,f,b,a⟩:=lV (k:=1) (λu _=>rfl) yM0 e aU;have d:=a 0 _ rfl;rw [aiR,aoe]at d;exact ⟨g,off,f,b,d⟩
theorem aj2 (mg:ByteArray) (k:Nat) (a b:RV) (ha:yK w0 F a) (hb:yK w0 F b) (h:au w0 w F) :
  Calls prog 243 #[.agg (su mg false k),.agg (DC a.x a.nv),.agg (DC b.x b.nv)] w (bf λv w'=>v=.bool (decide (bH.ahead false a.x b.x))/\au w0 w' F):=by
 obtain ⟨a,E⟩:=a;obtain ⟨b,G⟩:=b;have z:=uQ (show decide (bH.ahead false a b)=decide (a.eU.getD 0 0<b.eU.getD 0 0) from decide_eq_decide.2 Iff.rfl);have g:=uQ ha;have i:=uQ hb;clear ha hb;go_enter func243,ntmps243;go_wp2_with (with_reducible apply jy);refine ⟨jB h aF aF ?_⟩;intro b1 H l;go_wp2_with (with_reducible apply jy);refine ⟨jB l aF aF ?_⟩;intro b2 I m;go_wp2_with (with_reducible apply jy);refine ⟨jB m aF aF ?_⟩;intro A J j;clear h l m;have e:=j.drew;obtain ⟨n,o,B,r,f1⟩:=aef (g.o.rd _ e.drop.drop.drop) g.o.ne;obtain ⟨s,t,C,u,f2⟩:=aef (i.o.rd _ e.drop.drop.drop) i.o.ne;dsimp only at r u f1 f2;subst r u;have f:=And.intro (e.bI bZ 32 (Fj g.o.key)) (And.intro f1 (And.intro (e.bI bJ 32 (Fj i.o.key)) f2));have c:=uQ g.o.ne;have d:=uQ i.o.ne;dsimp only at c d;clear f1 f2;generalize a.eU.getD 0 0=X at *
 generalize b.eU.getD 0 0=Y at *
 have K:(0:Int)<(a.eU.length:Int):=by have:=c.o;omega
 have L:(0:Int)<(b.eU.length:Int):=by have:=d.o;omega
 have M:0<a.eU.length:=c.o;have N:0<b.eU.length:=d.o;go_wp2_with ((with_reducible refine dH ⟨?_⟩);refine jC j aA (bW bZ) dG aF aC ?_);clear j;refine gK [8,9] (λw'=>w'.cell? ⟨b2,32,none⟩=some (.slice (some ⟨n,o,none⟩) a.eU.length B)/\w'.cell? ⟨n,o,none⟩=some (.int .i64 X)/\w'.cell? ⟨A,32,none⟩=some (.slice (some ⟨s,t,none⟩) b.eU.length C)/\w'.cell? ⟨s,t,none⟩=some (.int .i64 Y)) aC ?_;have D:=f;clear f;refine rP 0 ?_ (y:=eY);refine rt 1 (h:=?_);refine rP 2 ?_ (y:=kX);refine rt 3 (h:=?_);refine rP 4 ?_ (y:=eY);refine rt 5 (h:=?_);refine rP 6 ?_ (y:=kX);refine rt 7 (h:=?_);clear D;refine rP 8 ?_ (y:=nT);refine rP 9 ?_ (y:=kR);refine fK aC ?_;go_wp2_with fail;go_ret;exact ⟨_,rfl,by rw [z.o];rfl,e.drop.drop.drop⟩
theorem aj3 (mg:ByteArray) (kd:Bool) (k:Nat) (a b:RV) (ha:yK w0 F a) (hb:yK w0 F b) (h:au w0 w F) :
  Calls prog 243 #[.agg (su mg kd k),.agg (DC a.x a.nv),.agg (DC b.x b.nv)] w (bf λv w'=>v=.bool (decide (bH.ahead kd a.x b.x))/\au w0 w' F):=by
 cases kd
 ·exact aj2 mg k a b ha hb h
 ·exact aj1 mg k a.x b.x ha.key hb.key h
theorem VU (mg:ByteArray) (kd:Bool) (k:Nat) (rs:List RV) (hn:rs.length<=1073741824) (hr:Ro w0 F (bK 33 lv (rs.flatMap eX))) (he:∀ r∈rs,yK w0 F r) (h:au w0 w F) :
  Calls prog 207 #[.agg (su mg kd k),lv] w (bf λv w'=>∃ t:Bool,v=.bool t/\(t=true↔bH.Za kd (rs.map (·.x)))/\au w0 w' F):=by
 obtain ⟨la,lc,rfl⟩:=l9 (λr hr=>rF r (he r hr).key) (hr w h) aU;have S:=uQ hn
 go_in
 go_wp2_with (with_reducible apply jy);refine ⟨jB h aF aF ?_⟩;intro b2 w2 T;go_wp2
 go_loopg [5] rs.length (λg W X=>∃ m:Nat,g=rs.length-m/\W=.int .i64 (m+1)/\(∀ i a b,i<m->(rs.map (·.x))[i]?=some a->(rs.map (·.x))[i+1]?=some b->bH.ahead kd a b)/\m<=rs.length/\au w0 X (pt b2 (.cells (su mg kd k) 270 (0,0))::F))
 case atStart=>exact ⟨0,rfl,rfl,λi a b hi=>absurd hi (Nat.not_lt_zero _),acn _,T⟩
 case round=>
  obtain ⟨m,rfl,rfl,D,U,L⟩:=hrel;by_cases f:m+1<rs.length
  ·have Y:m+1<rs.length:=oQ;have c0:m<rs.length:=oQ;have c2:(0:Int)<=m+1:=oQ;have M:IntKind.i64.wrap m=m:=abR _ (by omega);have Z:IntKind.i64.wrap (m+1-1)=m:=by rw [Int.add_sub_cancel];exact M
   have aa:IntKind.i64.wrap (m+1+1)=m+1+1:=abR _ (by omega);obtain ⟨l,n⟩:=Nz oQ;obtain ⟨o,s⟩:=Nz f;have E:=uQ s;have N:=(he l (abH n));have O:=(he o (abH s));have c:=L.drew;obtain ⟨B,off,c',P,G⟩:=lV (λr hr=>rF r (he r hr).key) (hr _ c.drop) n aU;cases P;obtain ⟨ab,V,ac,e2,H⟩:=lV (λr hr=>rF r (he r hr).key) (hr _ c.drop) s aU;cases e2;have u:World.rangeAt _ b2 0 [.string mg,.bool kd,.int .i64 k]/\World.rangeAt _ B (off+m*33) (eX l)/\World.rangeAt _ B (off+(m+1)*33) (eX o):=⟨wO c,G,H⟩;have d:=aj3 mg kd k l o (N.sub oG) (O.sub oG) c;have z:=uQ f;by_cases e:bH.ahead kd l.x o.x
   ·rw [aiC e]at d;have A:=uQ e;go_wp2;refine gK [10,11] (λw'=>w'.rangeAt b2 0 [.string mg,.bool kd,.int .i64 k]/\w'.rangeAt B (off+m*33) (eX l)/\w'.rangeAt B (off+(m+1)*33) (eX o)) aC ?_;have Q:=u;refine ji 0 aF aC dF (lF [.string mg,.bool kd,.int .i64 k] aA underlying270 rfl aC (λw j=>j.1)) aQ gQ ?_;refine rP 1 ?_ (y:=bV);refine rP 2 ?_ (y:=bV);refine rP 3 ?_ (y:=nT);refine rP 4 ?_ (y:=kX);refine ji 5 aF aC dF (lF (eX l) aA underlying276 rfl (by rw [rF _ N.key];kernel_rfl) (λw j=>j.2.1)) aQ gQ ?_;refine rP 6 ?_ (y:=bV);refine rP 7 ?_ (y:=bV);refine rP 8 ?_ (y:=kX);refine ji 9 aF aC dF (lF (eX o) aA underlying276 rfl (by rw [rF _ O.key];kernel_rfl) (λw j=>j.2.2)) aQ gQ ?_;refine dZ 10 aF aC (λK I=>?_)
    (refine Bq aC aF aF aF ?_)
    refine d.mono ?_;rintro ee w9 ⟨v,rfl,rfl,R⟩;refine I _ _ (.inl rfl) ?_;refine rP 11 ?_ (y:=(Qv aF dX));refine fK aC ?_;go_wp2
    go_roundg (rs.length-(m+1))
    case measure=>omega
    case rel=>
     refine ⟨m+1,rfl,by first|rfl|go_num,λi a b hi J C=>?_,Nat.le_of_lt z.o,R⟩;rcases Nat.lt_succ_iff_lt_or_eq.1 hi with hi|rfl
     ·exact D i a b hi J C
     ·rw [ab4,n]at J;rw [ab4,E.o]at C;cases J;cases C;exact A.o
   ·rw [aes e]at d;have A:=uQ e;go_wp2;refine gK [10,11] (λw'=>w'.rangeAt b2 0 [.string mg,.bool kd,.int .i64 k]/\w'.rangeAt B (off+m*33) (eX l)/\w'.rangeAt B (off+(m+1)*33) (eX o)) aC ?_;have Q:=u;refine ji 0 aF aC dF (lF [.string mg,.bool kd,.int .i64 k] aA underlying270 rfl aC (λw j=>j.1)) aQ gQ ?_;refine rP 1 ?_ (y:=bV);refine rP 2 ?_ (y:=bV);refine rP 3 ?_ (y:=nT);refine rP 4 ?_ (y:=kX);refine ji 5 aF aC dF (lF (eX l) aA underlying276 rfl (by rw [rF _ N.key];kernel_rfl) (λw j=>j.2.1)) aQ gQ ?_;refine rP 6 ?_ (y:=bV);refine rP 7 ?_ (y:=bV);refine rP 8 ?_ (y:=kX);refine ji 9 aF aC dF (lF (eX o) aA underlying276 rfl (by rw [rF _ O.key];kernel_rfl) (λw j=>j.2.2)) aQ gQ ?_;refine dZ 10 aF aC (λK I=>?_)
    (refine Bq aC aF aF aF ?_)
    refine d.mono ?_;rintro ee w9 ⟨v,rfl,rfl,R⟩;refine I _ _ (.inl rfl) ?_;clear I d c;refine rP 11 ?_ (y:=(Qv aF dX));refine fK aC ?_;go_wp2;go_ret;refine ⟨_,rfl,false,rfl,⟨λk=>(by cases k),λk=>absurd (k m l.x o.x ?_ ?_) A.o⟩,R.drop⟩
    ·rw [ab4,n];rfl
    ·rw [ab4,E.o];rfl
  ·have Y:¬ m+1<rs.length:=oQ;have z:=uQ f;clear f U;go_wp2;go_ret;refine ⟨_,rfl,.inr ⟨rfl,λi a b J C=>?_,L.drop⟩⟩;have hi:=(abM.1 C).1;rw [abl]at hi;exact D i a b (by omega) J C
end
section
variable {t:TypeId}{pos:String}{s:Operand}
theorem Qu (hx:a.eval x=vx) (hy:a.eval y=vy) (hr:∀ w,(Instr.sliceAt ty vx (some vy) none none).run P w=.ok v w):Yields P ops ⟨dst,.slice ty x (some y) none none,t,pos,after,none⟩ v a:=
 .inl ⟨rH _ rfl,λw=>by simp only [execOp,hx,hy,am8,avX,aii,hr,acz,aiV]⟩
theorem au6 (l c:Nat) (e:l<=c) (f:c<=1099511627776) (g:au w0 w L) (h:a.eval x=.int .i64 l) (hy:a.eval y=.int .i64 c)
  (i:∀ b w',au w0 w' (cZ (.slice (some ⟨b,0,none⟩) l c) (List.replicate l 0)::L)->wpList prog ops Q rest (a.put dst (.slice (some ⟨b,0,none⟩) l c)) w') :
  wpList prog ops Q (⟨dst,.makeSlice 59 x y,t,pos,after,none⟩::rest) a w:=by
 have j:=g.alloc (.cells (madeCells #[.int .u8 0] c) 5);refine ajs rfl λ_ d=>?_;unfold Oper.wp execOp;simp only [h,hy,adH l c e f,aii,aiV,acz];exact d _ _ (i _ _ (adF e f j))
theorem aku (h:lQ (wpList P ops Q (⟨dst,.makeSlice ty x y,t,pos,after,none⟩::rest) a w)):wpList P ops Q (⟨dst,.makeSlice ty x y,t,pos,after,none⟩::rest) a w:=h.o
theorem ain (hs:au w0 w (cZ v l::F)) (hv:a.eval s=v) (hy:a.eval y=vy) (hx:bK 1 vy (aI m) w) (hlen:l.length+m.length<=1099511627776)
  (hK:∀ v' w',au w0 w' (cZ v' (l++m)::F)->wpList prog ops Q rest (a.put dst v') w') :
  wpList prog ops Q (⟨dst,.call { callee:= .builtin .append,args:=#[s,y],argTypes:=#[59,59] },59,pos,after,none⟩::rest) a w:=by
 refine Vh ?_;intro i hi hz0 hz1 hz2 h63 hby;refine AA rfl s y 59 rfl _ i _ underlying59 hi hz0 hz1 aA oQ hv hy (Bo _) hs hx h63 hby ?_;intro v' w' hS hn;rw [<-Et]at hS;exact hK v' w' hS
end
theorem atS (n:Nat):∃ x:Nat,IntKind.u64.wrap ((2870177450012600261:Int)+(n:Int))=(x:Int)/\x<18446744073709551616/\(2870177450012600261+n)%18446744073709551616=x:=by
 obtain ⟨x,a,b,c⟩:=ahA 2870177450012600261 n;unfold Xx.W at c;exact ⟨x,(aiX (λz=>IntKind.u64.wrap (z+n)) rfl).trans a,b,c⟩
theorem anK (hl0:l≠[]) (hl:l.length<=1073741824) (hr:RS w0 F bv l) (h:au w0 w (nD p Xx.Ln.zero (.slice none 0 0) 0::F)) :
  Calls prog 245 #[aW p,bv] w (bf λ_ w'=>∃ rv bA cA,au w0 w' (nD p (Xx.oL l.length Xx.Ln.zero l).1 rv l.length::cZ (.slice (some ⟨bA,0,none⟩) l.length cA) l::F)/\RS w0 (cZ (.slice (some ⟨bA,0,none⟩) l.length cA) l::F) rv (Xx.oL l.length Xx.Ln.zero l).2):=by
 obtain ⟨ba,bc,rfl,hb1,hb2⟩:=(hr.tC (G:=nD p Xx.Ln.zero (.slice none 0 0) 0::F) oG).len h;have Hr:=uQ hr;have Hl:=uQ hl;have Hl0:=uQ hl0;have c0:w.cell? ⟨p,0,none⟩=some (.bool true):=h.dD 0 _ rfl;have n1:IntKind.u64.wrap (l.length:Int)=(l.length:Int):=by rw [am7];omega
 have n2:(l.length:Int)%18446744073709551616=(l.length:Int):=oQ;have n3:IntKind.i64.wrap (l.length:Int)=(l.length:Int):=abR _ oQ;clear hr hl hb1 hb2 hl0;go_enter func245,ntmps245
 go_wp2_with (first
  |((with_reducible refine dH ⟨?_⟩);refine jC h aA bJ dG aF aC ?_)
  |(with_reducible apply eG))
 refine ⟨jI (v:= .int .u64 l.length) h aA aA aA eu (by exact abG 8) aC aA ?_⟩;intro w1 h1;have h2:au w0 w1 (nD p Xx.Ln.zero (.slice none 0 0) l.length::F):=h1;clear h h1 c0
 go_wp2_with (first
  |((with_reducible refine dH ⟨?_⟩);refine jC h2 aA bJ dG aF aC ?_)
  |(with_reducible apply aku))
 refine ⟨au6 0 l.length (acn _) (by have:=Hl.o;omega) h2 aA aA ?_⟩;intro bM w3 h3
 go_wp2_with (first
  |((with_reducible refine dH ⟨?_⟩);refine jC h3 aA bZ dG aF aC ?_)
  |(with_reducible apply oK))
 refine ⟨ain (m:=[]) h3 aA aA (J9 1 0 _) yD0 ?_⟩;intro v4 w4 h4;go_wp2_with (with_reducible apply oK);refine ⟨ain (m:=l) h4 aA aA (Hr.o.rd _ h4.drop.drop) (by simp only [List.replicate,ahB,ajw];have:=Hl.o;omega) ?_⟩;intro v5 w5 h5;have h6:au w0 w5 (cZ v5 l::nD p Xx.Ln.zero (.slice none 0 0) l.length::F):=h5;clear h2 h3 h4 h5;obtain ⟨bA,cA,rfl⟩:∃ bA cA,v5=.slice (some ⟨bA,0,none⟩) l.length cA:=by
  rcases au.nV h6 with ⟨_,H,_⟩|⟨b,n,cap,cs,H,k1,_⟩
  ·exfalso;apply Hl0.o;have:=aiX List.length H;rw [bP]at this;exact ajn (by simpa using this)
  ·rw [bP,aiR]at k1;subst k1;exact ⟨b,cap,H⟩
 have h7:au w0 w5 (nD p Xx.Ln.zero (.slice none 0 0) l.length::cZ (.slice (some ⟨bA,0,none⟩) l.length cA) l::F):=h6.sb;have U:=uQ (show RS w0 (cZ (.slice (some ⟨bA,0,none⟩) l.length cA) l::F) (.slice (some ⟨bA,0,none⟩) l.length cA) l from RS.OE h7.drop);clear h6;go_wp2_with fail
 go_loopg [4] l.length (λg aq wr=>∃ (ln:Xx.Ln) (m:Bs),g=m.length/\m.length<=l.length/\ln.lt/\RS w0 (cZ (.slice (some ⟨bA,0,none⟩) l.length cA) l::F) aq m/\Xx.oL l.length Xx.Ln.zero l=Xx.oL m.length ln m /\
  au w0 wr (nD p ln (.slice none 0 0) l.length::cZ (.slice (some ⟨bA,0,none⟩) l.length cA) l::F))
 case atStart=>exact ⟨Xx.Ln.zero,l,rfl,abG _,Xx.aiJ,U.o,rfl,h7⟩
 case round=>
  obtain ⟨⟨E,x,lc,o⟩,m,rfl,hml,hlt,s,Q,t⟩:=hrel;clear h7 U;by_cases C:32<=m.length
  ·obtain ⟨a,c,a4,c4,rfl,k1,k2,I,rs4⟩:=CX s t.drop C;obtain ⟨_,_,a0,c0,H,_,_,J,Wj⟩:=CX s t.drop (k:=0) oQ;cases H;obtain ⟨_,_,a1,c1,H,_,_,L,Wn⟩:=CX s t.drop (k:=8) oQ;cases H;obtain ⟨_,_,a2,c2,H,_,_,M,Wp⟩:=CX s t.drop (k:=16) oQ;cases H;obtain ⟨_,_,a3,c3,H,_,_,O,Wq⟩:=CX s t.drop (k:=24) oQ;cases H;have D:Xx.oL m.length ⟨E,x,lc,o⟩ m=Xx.oL (m.drop 32).length (Xx.FB ⟨E,x,lc,o⟩ m) (m.drop 32):=by rw [Xx.amW C (abG _),abJ]
   have hsl:=Xx.ahD ⟨E,x,lc,o⟩ m;have S:Xx.FB ⟨E,x,lc,o⟩ m=⟨Xx.mP E (ay.bD ((m.drop 0).take 8)),Xx.mP x (ay.bD ((m.drop 8).take 8)),Xx.mP lc (ay.bD ((m.drop 16).take 8)),Xx.mP o (ay.bD ((m.drop 24).take 8))⟩:=rfl;obtain ⟨N0,YM⟩:∃ N,Hid (ay.bD ((m.drop 0).take 8)=N):=⟨_,uQ rfl⟩;obtain ⟨N1,LK⟩:∃ N,Hid (ay.bD ((m.drop 8).take 8)=N):=⟨_,uQ rfl⟩;obtain ⟨N2,YN⟩:∃ N,Hid (ay.bD ((m.drop 16).take 8)=N):=⟨_,uQ rfl⟩;obtain ⟨N3,YO⟩:∃ N,Hid (ay.bD ((m.drop 24).take 8)=N):=⟨_,uQ rfl⟩;rw [YM.o,LK.o,YN.o,YO.o]at S;obtain ⟨B,V⟩:∃ N,Hid (Xx.mP E N0=N):=⟨_,uQ rfl⟩;obtain ⟨e,YF⟩:∃ N,Hid (Xx.mP x N1=N):=⟨_,uQ rfl⟩;obtain ⟨u,YG⟩:∃ N,Hid (Xx.mP lc N2=N):=⟨_,uQ rfl⟩;obtain ⟨P,YH⟩:∃ N,Hid (Xx.mP o N3=N):=⟨_,uQ rfl⟩;rw [V.o,YF.o,YG.o,YH.o]at S;rw [S]at D hsl
   have x9:=uQ (Q.trans D);have zN:=uQ hsl;have ajx:=uQ rs4;have T:=uQ C;have Hll:=uQ (show (m.drop 32).length<m.length/\(m.drop 32).length<=l.length by rw [abJ];omega);replace Wj:=uQ Wj;replace Wn:=uQ Wn;replace Wp:=uQ Wp;replace Wq:=uQ Wq;replace J:=uQ J;replace L:=uQ L;replace M:=uQ M;replace O:=uQ O;have ajy:=uQ I;have cc:(32:Int)<=(m.length:Int):=oQ;clear D hsl S Q s rs4 hlt hml k1 k2 C I;go_wp2_with fail
   go_loopg [45] 4 (λg iq wr=>∃ (i:Nat),g=4-i/\i<=4/\iq=.int .i64 i/\au w0 wr ((match i with|0=>nD p ⟨E,x,lc,o⟩ (.slice none 0 0) l.length|1=>nD p ⟨B,x,lc,o⟩ (.slice none 0 0) l.length|2=>nD p ⟨B,e,lc,o⟩ (.slice none 0 0) l.length|3=>nD p ⟨B,e,u,o⟩ (.slice none 0 0) l.length|_=>nD p ⟨B,e,u,P⟩ (.slice none 0 0) l.length)::cZ (.slice (some ⟨bA,0,none⟩) l.length cA) l::F))
   case atStart=>exact ⟨0,rfl,by omega,rfl,t⟩
   case round=>
    obtain ⟨i,rfl,hi,rfl,r⟩:=hrel;clear t;obtain rfl|rfl|rfl|rfl|rfl:i=0\/i=1\/i=2\/i=3\/i=4:=oQ
    ·have hw1:(8:Int)*0=0:=aU;have hw2:IntKind.i64.wrap (0:Int)=(0:Int):=aU;have HG:=uQ (λ(w:World) (R:List aO) (t:au w0 w (nD p ⟨E,x,lc,o⟩ (.slice none 0 0) l.length::R))=>show w.cell? ⟨p,2,none⟩=some (.int .u64 E) from t.dD 2 _ rfl);go_wp2_with fail;have hS1:=r.drew;clear r;refine gK [13,16,17] (λw'=>w'.cell? ⟨p,2,none⟩=some (.int .u64 E)) aC ?_;have hG:=HG.o _ _ hS1;refine rP 0 ?_ (y:=bV);refine rP 1 ?_ (y:=bV);refine rP 2 ?_ (y:=bV);refine rP 3 ?_ (y:=bV);refine rP 4 ?_ (y:=jF);refine rP 5 ?_ (y:=eY);refine rP 6 ?_ (y:=kX);refine rt 7 (h:=?_);refine rP 8 ?_ (y:=bV);refine rP 9 ?_ (y:=bV);refine rP 10 ?_ (y:=nT);refine rP 11 ?_ (y:=(Qu aF zT0 J.o));refine rP 14 ?_ (y:=jF);refine rP 15 ?_ (y:=eY);clear hG;refine dZ 12 aF aC (λK d=>?_)
     (refine yw aC aF ?_)
     refine (KW (m.drop 0) zG0 (Wj.o.tC oG) hS1).mono ?_;rintro ee w12 ⟨v,rfl,rfl,rfl⟩;refine d _ _ (.inr (.inr rfl)) ?_;clear d;rw [YM.o];refine dZ 13 aF aC (λK d=>?_)
     (refine kM aC aF aF ?_)
     refine (BF E N0 hS1).mono ?_;rintro ee vU ⟨v,rfl,rfl,f⟩;refine d _ _ (.inl rfl) ?_;clear d hS1;rw [V.o];refine rP 16 ?_ (y:=kX);refine dZ 17 aF aC (λK d=>?_);refine qE (v:= .int .u64 B) f aF aF aA eu (by exact (by decide:3<=8)) aC aA ?_;intro z j;refine d _ _ (.inl rfl) ?_;clear d f;refine fK aC ?_
     try simp only [kW]
     try go_frame
     have A:au w0 z (nD p ⟨B,x,lc,o⟩ (.slice none 0 0) l.length::cZ (.slice (some ⟨bA,0,none⟩) l.length cA) l::F):=j;clear j;go_wp2_with fail
     go_roundg 3
     case measure=>omega
     case rel=>exact ⟨1,rfl,by omega,rfl,A⟩
    ·have hw1:(8:Int)*1=8:=aU;have hw2:IntKind.i64.wrap (8:Int)=(8:Int):=aU;have HG:=uQ (λ(w:World) (R:List aO) (t:au w0 w (nD p ⟨B,x,lc,o⟩ (.slice none 0 0) l.length::R))=>show w.cell? ⟨p,3,none⟩=some (.int .u64 x) from t.dD 3 _ rfl);go_wp2_with fail;have hS1:=r.drew;clear r;refine gK [13,16,17] (λw'=>w'.cell? ⟨p,3,none⟩=some (.int .u64 x)) aC ?_;refine VF ?_;intro hG;refine rP 11 ?_ (y:=(Qu aF zT0 L.o));refine rP 14 ?_ (y:=jF);refine rP 15 ?_ (y:=eY);clear hG;refine dZ 12 aF aC (λK d=>?_)
     (refine yw aC aF ?_)
     refine (KW (m.drop 8) zG0 (Wn.o.tC oG) hS1).mono ?_;rintro ee w12 ⟨v,rfl,rfl,rfl⟩;refine d _ _ (.inr (.inr rfl)) ?_;clear d;rw [LK.o];refine dZ 13 aF aC (λK d=>?_)
     (refine kM aC aF aF ?_)
     refine (BF x N1 hS1).mono ?_;rintro ee vU ⟨v,rfl,rfl,f⟩;refine d _ _ (.inl rfl) ?_;clear d hS1;rw [YF.o];refine rP 16 ?_ (y:=kX);refine dZ 17 aF aC (λK d=>?_);refine qE (v:= .int .u64 e) f aF aF aA eu (by exact (by decide:4<=8)) aC aA ?_;intro z j;refine d _ _ (.inl rfl) ?_;clear d f;refine fK aC ?_
     try simp only [kW]
     try go_frame
     have A:au w0 z (nD p ⟨B,e,lc,o⟩ (.slice none 0 0) l.length::cZ (.slice (some ⟨bA,0,none⟩) l.length cA) l::F):=j;clear j;go_wp2_with fail
     go_roundg 2
     case measure=>omega
     case rel=>exact ⟨2,rfl,by omega,rfl,A⟩
    ·have hw1:(8:Int)*2=16:=aU;have hw2:IntKind.i64.wrap (16:Int)=(16:Int):=aU;have HG:=uQ (λ(w:World) (R:List aO) (t:au w0 w (nD p ⟨B,e,lc,o⟩ (.slice none 0 0) l.length::R))=>show w.cell? ⟨p,4,none⟩=some (.int .u64 lc) from t.dD 4 _ rfl);go_wp2_with fail;have hS1:=r.drew;clear r;refine gK [13,16,17] (λw'=>w'.cell? ⟨p,4,none⟩=some (.int .u64 lc)) aC ?_;refine VF ?_;intro hG;refine rP 11 ?_ (y:=(Qu aF zT0 M.o));refine rP 14 ?_ (y:=jF);refine rP 15 ?_ (y:=eY);clear hG;refine dZ 12 aF aC (λK d=>?_)
     (refine yw aC aF ?_)
     refine (KW (m.drop 16) zG0 (Wp.o.tC oG) hS1).mono ?_;rintro ee w12 ⟨v,rfl,rfl,rfl⟩;refine d _ _ (.inr (.inr rfl)) ?_;clear d;rw [YN.o];refine dZ 13 aF aC (λK d=>?_)
     (refine kM aC aF aF ?_)
     refine (BF lc N2 hS1).mono ?_;rintro ee vU ⟨v,rfl,rfl,f⟩;refine d _ _ (.inl rfl) ?_;clear d hS1;rw [YG.o];refine rP 16 ?_ (y:=kX);refine dZ 17 aF aC (λK d=>?_);refine qE (v:= .int .u64 u) f aF aF aA eu (by exact (by decide:5<=8)) aC aA ?_;intro z j;refine d _ _ (.inl rfl) ?_;clear d f;refine fK aC ?_
     try simp only [kW]
     try go_frame
     have A:au w0 z (nD p ⟨B,e,u,o⟩ (.slice none 0 0) l.length::cZ (.slice (some ⟨bA,0,none⟩) l.length cA) l::F):=j;clear j;go_wp2_with fail
     go_roundg 1
     case measure=>omega
     case rel=>exact ⟨3,rfl,by omega,rfl,A⟩
    ·have hw1:(8:Int)*3=24:=aU;have hw2:IntKind.i64.wrap (24:Int)=(24:Int):=aU;have HG:=uQ (λ(w:World) (R:List aO) (t:au w0 w (nD p ⟨B,e,u,o⟩ (.slice none 0 0) l.length::R))=>show w.cell? ⟨p,5,none⟩=some (.int .u64 o) from t.dD 5 _ rfl);go_wp2_with fail;have hS1:=r.drew;clear r;refine gK [13,16,17] (λw'=>w'.cell? ⟨p,5,none⟩=some (.int .u64 o)) aC ?_;refine VF ?_;intro hG;refine rP 11 ?_ (y:=(Qu aF zT0 O.o));refine rP 14 ?_ (y:=jF);refine rP 15 ?_ (y:=eY);clear hG;refine dZ 12 aF aC (λK d=>?_)
     (refine yw aC aF ?_)
     refine (KW (m.drop 24) zG0 (Wq.o.tC oG) hS1).mono ?_;rintro ee w12 ⟨v,rfl,rfl,rfl⟩;refine d _ _ (.inr (.inr rfl)) ?_;clear d;rw [YO.o];refine dZ 13 aF aC (λK d=>?_)
     (refine kM aC aF aF ?_)
     refine (BF o N3 hS1).mono ?_;rintro ee vU ⟨v,rfl,rfl,f⟩;refine d _ _ (.inl rfl) ?_;clear d hS1;rw [YH.o];refine rP 16 ?_ (y:=kX);refine dZ 17 aF aC (λK d=>?_);refine qE (v:= .int .u64 P) f aF aF aA eu (by exact (by decide:6<=8)) aC aA ?_;intro z j;refine d _ _ (.inl rfl) ?_;clear d f;refine fK aC ?_
     try simp only [kW]
     try go_frame
     have A:au w0 z (nD p ⟨B,e,u,P⟩ (.slice none 0 0) l.length::cZ (.slice (some ⟨bA,0,none⟩) l.length cA) l::F):=j;clear j;go_wp2_with fail
     go_roundg 0
     case measure=>omega
     case rel=>exact ⟨4,rfl,by omega,rfl,A⟩
    ·have hS4:au w0 wr (nD p ⟨B,e,u,P⟩ (.slice none 0 0) l.length::cZ (.slice (some ⟨bA,0,none⟩) l.length cA) l::F):=r;clear r;go_wp2_with ((with_reducible refine MJ ⟨?_⟩);refine Qq aA aA ajy.o ?_)
     go_roundg (m.drop 32).length
     case measure=>exact Hll.o.1
     case rel=>exact ⟨⟨B,e,u,P⟩,m.drop 32,rfl,Hll.o.2,zN.o,by have k:=ajx.o;rw [abJ]at k;exact k,x9.o,hS4⟩
  ·have D:=uQ (show Xx.oL l.length Xx.Ln.zero l=(⟨E,x,lc,o⟩,m) from Q.trans (Xx.amX C));have oU:=uQ s;obtain ⟨a,c,rfl,k1,k2⟩:=s.len t.drop;have cc:¬ (32:Int)<=(m.length:Int):=oQ;clear Q hlt hml C s k1 k2;go_wp2_with ((with_reducible refine eG ⟨?_⟩);refine jI (v:= .slice a m.length c) t aA aA aA eu (by exact akA 7) aC aA ?_;intro w9 h9)
   go_end0
   exact ⟨_,rfl,.slice a m.length c,bA,cA,by rw [D.o];exact h9,by rw [D.o];exact oU.o⟩
theorem anJ {ln:Xx.Ln}{m:Bs} (hln:ln.lt) (hn:n<=1073741824) (hm:m.length<=1073741824) (hr:RS w0 F rv m) (h:au w0 w (nD p ln rv n::F)):Calls prog 246 #[aW p] w (bf λv w'=>v=.int .u64 (Xx.f3 (Xx.f2 (Xx.f1 (Xx.tail (((if 32<=n then Xx.EO ln else 2870177450012600261)+n)%18446744073709551616) m))):Nat)/\au w0 w' (nD p ln rv n::F)):=by
 obtain ⟨ra,rc,rfl,r,s⟩:=(hr.tC (G:=nD p ln rv n::F) oG).len h;have Hr:=uQ (λ(w:World) (x:Nat) (hx:x<18446744073709551616) (hS:au w0 w (nD p ln (.slice ra m.length rc) n::F))=>avl x hx m hm (hr.tC oG) hS);have l:=h.dD 0 _ rfl;have i:=uQ (λ(w:World) (hS:au w0 w (nD p ln (.slice ra m.length rc) n::F))=>aoj hln hS);have d:=uQ (λ(w:World) (hS:au w0 w (nD p ln (.slice ra m.length rc) n::F))=>show w.cell? ⟨p,7,none⟩=some (.int .u64 n)/\w.cell? ⟨p,6,none⟩=some (.slice ra m.length rc) from ⟨hS.dD 7 _ rfl,hS.dD 6 _ rfl⟩);have D:=uQ hn;clear hr hm r s hn;by_cases a:32<=n
 ·rw [abL a];generalize Xx.EO ln=J at *
  obtain ⟨x,b,hx,e2⟩:=ahA J n;change (J+n)%18446744073709551616=x at e2;rw [e2];have htl:Xx.tail x m<18446744073709551616:=Xx.ahG x m (show x<Xx.W from hx);have AZ:=uQ (λ(w:World) (hS:au w0 w (nD p ln (.slice ra m.length rc) n::F))=>Hr.o w x hx hS);generalize Xx.tail x m=y at *
  obtain ⟨t1,t,u,t4,z,f1,f2,f3,f4,f5,e⟩:=aaY htl;have Yx:=uQ e;have c:=uQ b;have Hf:=uQ (And.intro f1 (And.intro f2 (And.intro f3 (And.intro f4 f5))));have A:(32:Int)<=(n:Int):=oQ;clear hx htl e b e2 f1 f2 f3 f4 f5 Hr a hln
  go_in
  go_wp2_with ((with_reducible refine dH ⟨?_⟩);refine jC h aA bJ dG aF aC ?_);refine (i.o _ h).mono ?_;rintro o E ⟨v,rfl,rfl,f⟩;clear h l i;go_wp2;have hS:=f.drew;clear f;refine gK [10,11] (λw'=>w'.cell? ⟨p,7,none⟩=some (.int .u64 n)/\w'.cell? ⟨p,6,none⟩=some (.slice ra m.length rc)) aC ?_;have j:=d.o _ hS;refine rP 0 ?_ (y:=bV);refine rP 1 ?_ (y:=bV);refine rP 2 ?_ (y:=jF);refine rP 3 ?_ (y:=eY);refine rt 4 (h:=?_);refine rp 5 (hy:=(DZ aF aF (by intro B;have b:=c.o;(go_simp);first|done|exact wQ))) (h:=?_);refine rP 6 ?_ (y:=bV);refine rP 7 ?_ (y:=jF);refine rP 8 ?_ (y:=eY);refine rt 9 (h:=?_);clear j;refine dZ 10 aF aC (λK g=>?_)
  (refine kM aC aF aF ?_)
  refine (AZ.o _ hS).mono ?_;rintro o C ⟨v,rfl,rfl,h2⟩;refine g _ _ (.inl rfl) ?_;clear g hS AZ;refine rP 11 ?_ (y:=kR);refine fK aC ?_
  try simp only [kW]
  try go_frame
  exact af7
 ·rw [abB a];obtain ⟨x,b,hx,e2⟩:=atS n;rw [e2];have htl:Xx.tail x m<18446744073709551616:=Xx.ahG x m (show x<Xx.W from hx);have AZ:=uQ (λ(w:World) (hS:au w0 w (nD p ln (.slice ra m.length rc) n::F))=>Hr.o w x hx hS);generalize Xx.tail x m=y at *
  obtain ⟨t1,t,u,t4,z,f1,f2,f3,f4,f5,e⟩:=aaY htl;have Yx:=uQ e;have c:=uQ b;have Hf:=uQ (And.intro f1 (And.intro f2 (And.intro f3 (And.intro f4 f5))));have A:¬ (32:Int)<=(n:Int):=oQ;clear hx htl e b e2 f1 f2 f3 f4 f5 Hr a hln i
  go_in
  go_wp2_with ((with_reducible refine dH ⟨?_⟩);refine jC h aA bJ dG aF aC ?_);have f:=h;clear h l;go_wp2;have hS:=f.drew;clear f;refine gK [10,11] (λw'=>w'.cell? ⟨p,7,none⟩=some (.int .u64 n)/\w'.cell? ⟨p,6,none⟩=some (.slice ra m.length rc)) aC ?_;have j:=d.o _ hS;refine rP 0 ?_ (y:=bV);refine rP 1 ?_ (y:=bV);refine rP 2 ?_ (y:=jF);refine rP 3 ?_ (y:=eY);refine rt 4 (h:=?_);refine rp 5 (hy:=(DZ aF aF (by intro B;have b:=c.o;(go_simp);first|done|exact wQ))) (h:=?_);refine rP 6 ?_ (y:=bV);refine rP 7 ?_ (y:=jF);refine rP 8 ?_ (y:=eY);refine rt 9 (h:=?_);clear j;refine dZ 10 aF aC (λK g=>?_)
  (refine kM aC aF aF ?_)
  refine (AZ.o _ hS).mono ?_;rintro o C ⟨v,rfl,rfl,h2⟩;refine g _ _ (.inl rfl) ?_;clear g hS AZ;refine rP 11 ?_ (y:=kR);refine fK aC ?_
  try simp only [kW]
  try go_frame
  exact af7
theorem X7 (x:l≠[]) (y:l.length<=1073741824) (z:RS w0 F bv l) (h:au w0 w F):Calls prog 208 #[bv,.int .u64 0] w (bf λv w'=>v=.int .u64 (Xx.sum l:Nat)/\au w0 w' F):=by
 obtain ⟨n,bc,rfl,_,_⟩:=z.len h;have d:=uQ x;have f:=(show Xx.sum l=Xx.f3 (Xx.f2 (Xx.f1 (Xx.tail (((if 32<=l.length then Xx.EO (Xx.oL l.length Xx.Ln.zero l).1 else 2870177450012600261)+l.length)%18446744073709551616) (Xx.oL l.length Xx.Ln.zero l).2))) from rfl)
 go_in
 go_wp2_with fail;refine (apC h).mono ?_;rintro g o ⟨v,rfl,p,rfl,i⟩;go_wp2_with fail;refine (anK d.o y z i).mono ?_;rintro g r ⟨v,rfl,rv,s,t,j,b⟩;have c:=Xx.abw l.length Xx.Ln.zero l Xx.aiJ;have a:=abQ (Xx.abv l.length Xx.Ln.zero l) y;have e:=anJ c y a b j;rw [<-f]at e;clear c a b h i j f;go_wp2_with fail;refine e.mono ?_;rintro g u ⟨v,rfl,rfl,m⟩;go_wp2;go_ret;exact ⟨_,rfl,rfl,m.drop.drop⟩
end Go.Proofs.Y
