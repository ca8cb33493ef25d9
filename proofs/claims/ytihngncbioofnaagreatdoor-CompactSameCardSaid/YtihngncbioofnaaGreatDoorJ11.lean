import Derived.Test.YtihngncbioofnaaGreatDoorJ10
open Go.Proofs.Tryz
set_option maxRecDepth 20000
set_option linter.unusedVariables false
set_option linter.unusedSimpArgs false
set_option maxHeartbeats 128000000
open Go Go.Sl Go.MapKept Go.RowKit
open Go.Proofs.YtihngncbioofnaaGreatDoor
variable {w0 w:World}{F:List aG}{m K p r r0 E:Nat}{L:Seg.Log}{M:ay.ay}{n seg:Int}{d:Bool}
namespace Go.aB
open Go.ay
open Go.Rep (Use)
open Go.Seg (aV)
def fin (n:Int) (us:List Use) (i:Nat):Bool:=decide (i=us.length) && (decide (0<i) && decide ((us.getD (i-1) ⟨0,0,0⟩).seg=n))
def Js (sz:Int->Int) (s:Int) (u:Use):Bool:=decide (u.seg=s) && (decide (u.size=sz s) && decide (u.live<=u.size))
def uV (sz:Int->Int) (n:Int) (us:List Use):List Int->Nat->Bool
 |[],i=>fin n us i
 |s::ss,i=>if n<s then fin n us i else match us[i]? with
  |none=>false
  |some u=>if Js sz s u=true then uV sz n us ss (i+1) else false
def fits (L:Seg.Log) (us:List Use) (n:Int):Bool:=uV L.size n us L.aF 0
theorem aht {sz:Int->Int}{n:Int}{us:List Use} (hu:∀ u∈us,u.seg<=n/\u.size=sz u.seg/\u.live<=u.size) (hl:us.getLast?.map (·.seg)=some n) :
  ∀ (ss:List Int) (i:Nat) (rest:List Int),ss=(us.drop i).map (·.seg)++rest->(∀ s∈rest,n<s)->i<=us.length->uV sz n us ss i=true:=by
 have hfin:fin n us us.length=true:=by
  cases us with
  |nil=>cases hl
  |cons u us=>
   unfold fin;have e:(u::us).getLast?=some ((u::us).getD ((u::us).length-1) ⟨0,0,0⟩):=by
    rw [aeH,adT];rw [aay yF0];rfl
   rw [e]at hl;simp only [afW,aqh]at hl;rw [hl];simp
 intro ss
 induction ss with
 |nil=>
  intro i rest hs hr hi;have:=aey List.length hs;simp only [aeL,aaL,aa4,ad3]at this;obtain rfl:i=us.length:=by omega
  exact hfin
 |cons s ss ih=>
  intro i rest hs hr hi;by_cases hlt:i<us.length
  ·have hd:us.drop i=us[i]::us.drop (i+1):=ah3 hlt;rw [hd,ad7,aeI]at hs;obtain ⟨h1,h2⟩:=List.cons.inj hs;obtain ⟨u1,u2,u3⟩:=hu us[i] (apT hlt);unfold uV;rw [abj oQ,aay hlt];simp only;rw [acg (by unfold Js;rw [h1,u2];simp;omega)];exact ih (i+1) rest h2 hr hlt
  ·obtain rfl:i=us.length:=by omega
   rw [apH,aeF,aeu]at hs;have:=hr s (by rw [<-hs];exact List.mem_cons_self);unfold uV;rw [acg this];exact hfin
def lies (p:aV) (sz:Int->Int):Bool:=decide (8<=p.at_) && (decide (41<=p.size) && decide (p.size<=sz p.seg-p.at_))
def sizes (us:List Use):Int->Int:=us.foldl (λf u=>λs=>if s=u.seg then u.size else f s) λ_=>0
theorem acS (us:List Use) (u:Use):sizes (us++[u])=λs=>if s=u.seg then u.size else sizes us s:=by unfold sizes;rw [apv];rfl
theorem anb {us:List Use} (h:(us.map (·.seg)).Nodup){u:Use} (hu:u∈us):sizes us u.seg=u.size:=by
 rw [<-List.reverse_reverse us]at h hu ⊢;generalize us.reverse=r at *
 induction r with
 |nil=>cases hu
 |cons v r ih=>
  rw [List.reverse_cons]at h hu ⊢;rw [acS];rw [adU,List.nodup_append]at h;rcases aeg.1 hu with hu|hu
  ·have hne:u.seg≠v.seg:=h.2.2 _ (abL.2 ⟨u,hu,rfl⟩) _ yF0;simp only;rw [abj hne];exact ih h.1 hu
  ·rw [adZ.1 hu];simp
section
variable {T:Kept}{s1 s2 s:ByteArray}{b1 b2 b:Bs}{K:Nat}{M:ay}
end
theorem ahE {M:ay}{lim:Int} (hoff:M.off=false) (s:Int):s∈(Seg.fresh M lim).aF↔(0<=s/\s<1048576)/\∃ i,bU M.now (Seg.name s)=some i:=by
 constructor
 ·intro hs;unfold Seg.Log.aF at hs;obtain ⟨x,hx,rfl⟩:=abL.1 hs;obtain ⟨t,ht,hn,rfl⟩:=Seg.Cj hx;obtain ⟨a,b,c⟩:=Seg.C9 hn;refine ⟨⟨a,b⟩,?_⟩;simp only;rw [c];exact Seg.aag ht
 ·rintro ⟨⟨a,b⟩,i,hi⟩;have:=Seg.ahF (lim:=lim) hoff a b hi;unfold Seg.nf at this;exact aeP this
end Go.aB
namespace Go.Seg
open Go.ay
open Go.aj (Bs dD encs gu dI aI)
open Go.Rep
structure kJ (L:Log) (c:Nat) (us:List Use) (ps:List (Bs×aV)):Prop where
 aF:us.map (·.seg)=L.aF.take c
 use:∀ u∈us,0<=u.live/\u.live<=u.size/\u.size=L.size u.seg/\u.size<=33554432
 key:∀ q∈ps,q.1.length=32
 rise:ps.Pairwise λa b=>a.1<b.1
 plc:∀ q∈ps,8<=q.2.at_/\41<=q.2.size/\q.2.at_+q.2.size<=L.size q.2.seg/\q.2.seg∈L.aF.take c
section
variable {K r E B n c:Nat}{L:Log}{M:ay}{C:List (List aI)}
theorem HG.amM (h:HG K r E B n L M C) (hc:c<=C.length):∀ s∈L.aF.take c,∃ (j:Nat) (es:List aI),s=(j:Int)/\j<c/\C[j]?=some es:=λs hs=>by
 obtain ⟨j,hj⟩:=apI hs;rw [aeY]at hj;split at hj
 ·rename_i hjc;have hl:j<C.length:=oQ;have:=h.aF.2 j hl;rw [hj]at this;cases this;exact ⟨j,C[j],rfl,hjc,aay hl⟩
 ·cases hj
theorem HG.hint (h:HG K r E B n L M C) (hc:c<=C.length){kv:List (Bs×dY)} (hk:Tab.Lists (ledger (rowsOf (λs=>L.bytes M s) (L.aF.take c))) kv) (h32:∀ q∈kv,q.1.length=32) :
  kJ L c ((jR (λs=>L.bytes M s) (L.aF.take c)).map (upd kv)) (puts kv):=by
 have hok:=rows_ok h.keeps.log M c;rw [h.rows c]at hok hk;have hseg:=h.amM hc;have hrow:∀ p∈kv,∃ r,r∈Rep.gG 0 (C.take c)/\dM r≠2/\p.2.tag=dM r/\p.2.place=iP r:=λp hp=>by
  have h1:=(hk.mem p.1 p.2).1 hp;unfold ledger at h1;obtain ⟨r,h2,h3⟩:=aip.1 h1;obtain ⟨h4,h5,_⟩:=FZ h2;exact ⟨r,h4,h5,by rw [<-h3],by rw [<-h3]⟩
 refine ⟨?_,λu hu=>?_,λq hq=>?_,Rep.Dp hk.rise,λq hq=>?_⟩
 ·unfold jR;rw [aeW,aeW]
  conv=>rhs;rw [<-List.map_id (L.aF.take c)]
  rfl
 ·obtain ⟨u0,h1,rfl⟩:=abL.1 hu;unfold jR at h1;obtain ⟨s,hs,rfl⟩:=abL.1 h1;obtain ⟨j,es,rfl,hjc,hj⟩:=hseg s hs;have hb:=h.bytes hj;have hz:=h.size hj;have hlv:=aak hok hk (j:Int);have hls:=Qw (l:=Rep.gG 0 (C.take c)) (j:Int) _ (abl _);have hsm:=acK (C.take c) 0 j es (by rw [aeY,acg hjc];exact hj);rw [aeo]at hls;rw [ad8]at hsm;have hm:mag.length=8:=rfl;have hsz:=h.keeps.log.sizes _ (abA (h.at_ j es hj));unfold upd;simp only [hb,hz,aaL];rw [hlv,hsm]at hls;simp only at hsz;refine ⟨hls.1,?_,trivial,?_⟩
  ·have:=hls.2;omega
  ·omega
 ·unfold puts at hq;obtain ⟨p,hp,rfl⟩:=abL.1 hq;exact h32 p (aem.1 hp).1
 ·unfold puts at hq;obtain ⟨p,hp,rfl⟩:=abL.1 hq;obtain ⟨hp1,hp2⟩:=aem.1 hp;obtain ⟨r,h1,_,h3,h4⟩:=hrow p hp1;obtain ⟨j,es,h5,h6,h7⟩:=Rep.KR (C.take c) 0 h1;obtain ⟨u,v,h8,h9,h10⟩:=Rep.Ce es 8 h7;have hjc:j<c:=by
   have:=(abm.1 h5).1;rw [ads]at this;omega
  have hj:C[j]?=some es:=by rw [aeY,acg hjc]at h5;exact h5
  have hg:gu r.2.e:=(h.good es (abA hj)).1 _ (by rw [h8];simp);have hz:=h.size hj;have ht:r.2.e.tag=0:=by
   have:p.2.tag=0:=by simpa using hp2
   rw [h3]at this;exact this
  have hl:r.2.size=41+r.2.e.data.length:=by
   rw [h10,Ba hg.1 hg.2];unfold aj.size;rw [abj (by simp [(aj.ER hg.1).1]),abj (by rw [ht];decide)]
  have hes:encs es=encs u++((aj.encode r.2.e).1++encs v):=by rw [h8,yu];rfl
  have hm:mag.length=8:=rfl;have hr1:r.1=(j:Int):=by rw [h6,ad8]
  simp only;rw [h4];show 8<=(r.2.at_:Int)/\41<=(r.2.size:Int)/\(r.2.at_:Int)+(r.2.size:Int)<=L.size r.1/\r.1∈L.aF.take c;rw [hr1,hz,aaL,hes,aaL,aaL];refine ⟨by omega,by omega,by omega,?_⟩;have hl:j<C.length:=(abm.1 hj).1;exact abA (i:=j) (by rw [aeY,acg hjc];exact h.aF.2 j hl)
end
section
variable {n:Nat}{L:Log}{M:ay}{C:List (List aI)}{c:Cal}
theorem ag6 (C:List (List aI)) (b:Bool):∃ es,put C b bC≠[]/\(put C b bC)[(put C b bC).length-1]?=some es/\Rep.mJ es=true:=by
 unfold put;cases b with
 |true=>
  simp only [apa];refine ⟨C.getLastD []++[bC],by simp,?_,?_⟩
  ·rw [aaL,aer,ao8,aeh (abl _),ajN];rfl
  ·unfold Rep.mJ;rw [List.getLast?_concat];rfl
 |false=>
  simp only [afX,apA];refine ⟨[bC],by simp,?_,rfl⟩;rw [aaL,aer,ao8,aeh (abl _),ajN];rfl
end
end Go.Seg
namespace Go.aB
open Go.ay
open Go.Seg (Log Keeps Holds HG kJ mag)
open Go.aj (dD encs gu dI aI)
open Go.Rep (Use)
section
variable {n K r E B:Nat}{L:Log}{M:ay}{C:List (List aI)}{N:Int}{b1 b2:aj.Bs}
theorem DR (k:Int):tmp≠Seg.name k:=λe=>by
 rcases Lh k with q|⟨q,_⟩
 ·rw [q]at e;exact TT e
 ·rw [<-e]at q;exact absurd q aN
end
open Go.ay
open Go.Seg (Log Keeps Holds HG kJ mag aV)
open Go.aj (dD encs gu dI aI)
open Go.Rep (Use)
theorem agt {M:ay}{s:ByteArray}{p:ByteArray×Nat} (h:p∈(M.create s).1.now):p∈M.now\/p.1=s:=by
 obtain ⟨_,e1,e2,e3,e4⟩:=M.jZ;unfold ay.create at h;split at h;· exact .inl h
 split at h;· exact .inl h
 rename_i hg;split at h;· exact .inl h
 split at h;· exact .inl h
 split at h;· rw [e2]at h;exact .inl h
 have h2:p∈jc.on ⟨ByteArray.empty,s,M.files.length⟩ M.step.1.now:=h;rw [e2]at h2;unfold jc.on at h2;simp only [apa,abj (rE (by simpa using hg):s≠ByteArray.empty)]at h2;rcases ad5.1 ((wW _ _ _).mem_iff.1 h2) with rfl|h3
 ·exact .inr rfl
 ·exact .inl (aem.1 h3).1
theorem Wh (M:ay) (s:ByteArray) (b:Bs):(M.append s b).1.now=M.now:=by
 obtain ⟨_,e1,e2,e3,e4⟩:=M.jZ;unfold ay.append;split;· rfl
 split;· rfl
 split;· rfl
 split;· exact e2
 exact e2
theorem LK (M:ay) (s:ByteArray):(M.sync s).1.now=M.now:=by
 obtain ⟨_,e1,e2,e3,e4⟩:=M.jZ;unfold ay.sync;split;· rfl
 split;· rfl
 split;· exact e2
 exact e2
theorem LG (M:ay):M.dR.1.now=M.now:=by
 obtain ⟨_,e1,e2,e3,e4⟩:=M.jZ;unfold ay.dR;split;· rfl
 split;· exact e2
 exact e2
theorem RJ {M:ay}{s:ByteArray}{p:ByteArray×Nat} (h:p∈(M.remove s).1.now):p∈M.now:=by
 obtain ⟨_,e1,e2,e3,e4⟩:=M.jZ;unfold ay.remove at h;split at h;· exact h
 split at h;· exact h
 split at h;· rw [e2]at h;exact h
 have h2:p∈jc.on ⟨s,ByteArray.empty,0⟩ M.step.1.now:=h;rw [e2]at h2;unfold jc.on at h2;simp only [apa]at h2;split at h2
 ·exact h2
 ·exact (aem.1 h2).1
def Grown (M M':ay):Prop:=∀ p∈M'.now,p∈M.now\/∃ k,p.1=Seg.name k
theorem Grown.refl (M:ay):Grown M M:=λp hp=> .inl hp
theorem Grown.trans {A B D:ay} (h:Grown A B) (k:Grown B D):Grown A D:=λp hp=>by
 rcases k p hp with q|q
 ·exact h p q
 ·exact .inr q
theorem Grown.same {A B:ay} (h:B.now=A.now):Grown A B:=λp hp=> .inl (by rw [<-h];exact hp)
theorem acP (L:Log) (M:ay):Grown M (L.shut M).1.2:=by
 unfold Log.shut;split;· exact Grown.refl M
 split
 ·split <;> exact Grown.same (LK M _)
 ·exact Grown.refl M
theorem afI (L:Log) (M:ay) (b:Bs):Grown M (L.jC M b).1.2:=by
 have hc:Grown M (M.create (Seg.name L.next)).1:=λp hp=>(agt hp).imp id λe=>⟨_,e⟩;have ha:Grown M ((M.create (Seg.name L.next)).1.append (Seg.name L.next) (mag++b)).1:=hc.trans (Grown.same (Wh _ _ _));unfold Log.jC;split;· exact Grown.refl M
 split;· exact hc
 split;· exact ha
 split
 ·exact ha.trans λp hp=> .inl (RJ hp)
 ·exact ha
theorem CV (L:Log) (M:ay) (x:aI):Grown M (L.append M x).1.2:=by
 unfold Log.append;split;· exact Grown.refl M
 split
 ·unfold Log.grow;split
  ·exact Grown.refl M
  ·split <;> exact Grown.same (Wh _ _ _)
 ·unfold Log.begin;split
  ·exact (acP L M).trans (afI _ _ _)
  ·exact acP L M
theorem JU (L:Log) (M:ay):Grown M (L.commit M).1.2:=by
 have h:=CV L M Seg.bC;rw [Seg.Log.Jf];split;· exact h
 split;· exact h.trans (Grown.same (LK _ _))
 split;· exact h.trans ((Grown.same (LK _ _)).trans (Grown.same (LG _)))
 exact h.trans ((Grown.same (LK _ _)).trans (Grown.same (LG _)))
section
variable {n K B c:Nat}{L:Log}{M M':ay}{C:List (List aI)}{N:Int}{b1 b2:aj.Bs}{us:List Use}
theorem ahs (hL:L.Ok){ps:List (aj.Bs×aV)} (ho:kJ L c us ps) (hc:L.aF.take c=L.aF) (hN:L.aF.getLast?=some N):fits L us N=true:=by
 have hle:∀ s∈L.aF,s<=N:=λs hs=>by
  obtain ⟨l',hl'⟩:=List.getLast?_eq_some_iff.1 hN;have hr:=Seg.DC hL;rw [hl']at hs hr;rcases aeg.1 hs with hs|hs
  ·have:=(aiq.1 hr).2.2 s hs N yF0;omega
  ·rw [adZ.1 hs];exact aoZ _
 have Qa:us.map (·.seg)=L.aF:=by rw [ho.aF,hc]
 unfold aB.fits;refine aht (λu hu=>?_) ?_ _ 0 [] (by rw [apN,Qa,adV]) (λs hs=>by cases hs) (aea _)
 ·have hm:u.seg∈L.aF:=by rw [<-Qa];exact abL.2 ⟨u,hu,rfl⟩
  obtain ⟨_,u2,u3,_⟩:=ho.use u hu;exact ⟨hle _ hm,u3,u2⟩
 ·rw [<-aqi,Qa];exact hN
end
open Go.ay
section
variable {s t:ByteArray}{b b1 b2:Bs}{K r:Nat}{M M':ay}{n:Int}
theorem xU (q:Quiet M):(M.all t).2=0↔∃ i,bU M.now t=some i:=by
 cases h:bU M.now t with
 |none=>rw [Seg.all_none q h];simp
 |some i=>rw [Seg.all_some q h];simp
structure Wr (s:ByteArray) (b:Bs) (K r:Nat) (M:ay) (R:ay×Int):Prop where
 calm:Seg.Calm K r R.1
 tmp:bU R.1.now aB.tmp=none
 len:R.1.now.length<=M.now.length+1
 used:R.1.used<=M.used+b.length
 other:∀ t,t≠aB.tmp->t≠s->R.1.all t=M.all t
 names:∀ p∈R.1.now,p∈M.now\/p.1=s
 done:R.2=0/\R.1.all s=(b,0)\/R.2=11/\R.1.now=M.now/\∀ t,R.1.all t=M.all t
 room:M.used+b.length<=r->R.2=0
theorem DZ (h:Seg.Calm K r M) (ht:bU M.now tmp=none) (hl:M.now.length<500) (hg:good s=true) (hst:s≠tmp):Wr s b (K+5) r M (write M s b):=by
 have e0:uF M=(M,0):=by unfold uF;rw [TS h.quiet ht];rfl
 obtain ⟨c1,c2,c3,c4,c5⟩:=Seg.Jg h ahZ ht hl;have hc:=h.create tmp;have hi:bU (M.create tmp).1.now tmp=some M.files.length:=by rw [c2];exact Seg.CZ h.ok.ig.ny _ _
 have hroom:(M.create tmp).1.room=r:=hc.room;have hw:write M s b=fill (M.create tmp).1 s b:=by
  unfold write;rw [e0,acg rfl];show (if (M.create tmp).2=0 then _ else _)=_;rw [acg c1]
 rw [hw];have hse:s≠ByteArray.empty:=rE hg;rcases Seg.wF hc.quiet tmp b with ⟨a1,_⟩|⟨j,a1,⟨a2,a3⟩|⟨a2,a3⟩⟩
 ·rw [hi]at a1;cases a1
 ·have hr:=Seg.KL hc.quiet hi;have hrc:=hc.remove tmp;have hf:fill (M.create tmp).1 s b=(((M.create tmp).1.remove tmp).1,11):=by
   have f1:((M.create tmp).1.append tmp b).2=11:=by rw [a3]
   have f2:((M.create tmp).1.append tmp b).1=(M.create tmp).1:=by rw [a3]
   unfold fill;rw [abj (by rw [f1];decide),acg f1,f2,acg (by rw [hr])]
  have ha:Seg.Alike M ((M.create tmp).1.remove tmp).1:=by
   rcases Seg.EN h.quiet tmp with ⟨q1,_⟩|⟨_,hn,_,c⟩
   ·exact absurd c1 q1
   rw [hr,c];refine ⟨?_,rfl,rfl,λp hp=>?_⟩
   ·show jc.on ⟨tmp,ByteArray.empty,0⟩ (kV M.now tmp M.files.length)=M.now;unfold jc.on;simp only [abj TT,apa];exact Seg.QK hn
   ·have:=h.ok.ig.ids p hp;simp only [ay.file,ay.link,adT];rw [aej this]
  rw [hf];refine ⟨hrc.mono oQ,by rw [ha.now];exact ht,by show _<=_;rw [ha.now];omega,by show _<=_;rw [ha.used];omega,λt _ _=>ha.all t,λp hp=> .inl (by rw [<-ha.now];exact hp),.inr ⟨rfl,ha.now,ha.all⟩,λhh=>?_⟩;exfalso;rw [c3,hroom]at a2;omega
 ·obtain ⟨b1,b2,b3,b4,b5⟩:=Seg.I4 hc hi b oQ;have ha:=hc.append tmp b;have hi2:bU ((M.create tmp).1.append tmp b).1.now tmp=some M.files.length:=by rw [b2];exact hi
  have es:=ha.quiet.Gu hi2;have hsy:=ha.sync tmp;have hs0:(((M.create tmp).1.append tmp b).1.sync tmp).2=0:=by rw [es]
  have hal:=Seg.LH ha.ok ha.quiet tmp;have hi3:bU (((M.create tmp).1.append tmp b).1.sync tmp).1.now tmp=some M.files.length:=by rw [hal.now];exact hi2
  have hre:=Seg.Calm.rename hsy tmp s;have er:(((M.create tmp).1.append tmp b).1.sync tmp).1.rename tmp s=((((M.create tmp).1.append tmp b).1.sync tmp).1.link ⟨tmp,s,M.files.length⟩,0):=by
   unfold ay.rename;rw [hsy.quiet.off,hsy.quiet.step,hi3,hg];simp
  have hf:fill (M.create tmp).1 s b=(((M.create tmp).1.append tmp b).1.sync tmp).1.rename tmp s:=by
   unfold fill;rw [acg b1,acg hs0]
  rw [hf];have hall:∀ t,(((M.create tmp).1.append tmp b).1.sync tmp).1.all t=((M.create tmp).1.append tmp b).1.all t:=hal.all;have P5:(((M.create tmp).1.append tmp b).1.sync tmp).1.now=kV M.now tmp M.files.length:=by rw [hal.now,b2,c2]
  have hu0:(((M.create tmp).1.append tmp b).1.sync tmp).1.used=M.used+b.length:=by rw [hal.used,b3,c3]
  have hgt:(((M.create tmp).1.append tmp b).1.sync tmp).1.all tmp=(b,0):=by rw [hall,b4,c4];rfl
  have hot:∀ t,t≠tmp->(((M.create tmp).1.append tmp b).1.sync tmp).1.all t=M.all t:=λt h1=>by rw [hall,b5 t h1,c5 t h1]
  generalize (((M.create tmp).1.append tmp b).1.sync tmp).1=M2 at *
  have jr:(M2.rename tmp s).1.now=kV (iD (kV M.now tmp M.files.length) tmp) s M.files.length:=by
   rw [er];show jc.on _ M2.now=_;rw [P5];unfold jc.on;simp only [abj TT,abj hse]
  rw [Seg.QK ht]at jr;have CJ:(M2.rename tmp s).1.file=M2.file:=by rw [er];rfl
  have hq:=hre.quiet;refine ⟨hre.mono oQ,?_,?_,?_,λt h1 h2=>?_,λp hp=>?_,.inl ⟨by rw [er],?_⟩,λ_=>by rw [er]⟩
  ·rw [jr,Seg.CY (Ne.symm hst)];exact ht
  ·rw [jr];exact aki _ _ _
  ·rw [<-hu0];show ((M2.rename tmp s).1.now.map λp=>((M2.rename tmp s).1.file p.2).now.length).sum<=(M2.now.map λp=>(M2.file p.2).now.length).sum;rw [jr,CJ,P5];rw [DN _ _ _ (λj=>(M2.file j).now.length),DN _ _ _ (λj=>(M2.file j).now.length),yH ht];have h2:=LC M.now s (λj=>(M2.file j).now.length);omega
  ·have e1:bU (M2.rename tmp s).1.now t=bU M.now t:=by rw [jr,Seg.CY h2]
   have e2:bU M2.now t=bU M.now t:=by rw [P5,Seg.CY h1]
   rw [<-hot t h1];cases hj:bU M.now t with
   |none=>rw [hj]at e1 e2;rw [Seg.all_none hq e1,Seg.all_none hsy.quiet e2]
   |some j=>rw [hj]at e1 e2;rw [Seg.all_some hq e1,Seg.all_some hsy.quiet e2,CJ]
  ·rw [jr]at hp;rcases ad5.1 ((wW _ _ _).mem_iff.1 hp) with rfl|hp
   ·exact .inr rfl
   ·exact .inl (aem.1 hp).1
  ·have e1:bU (M2.rename tmp s).1.now s=some M.files.length:=by rw [jr];exact Seg.CZ h.ok.ig.ny _ _
   rw [Seg.all_some hq e1,CJ];rw [Seg.all_some hsy.quiet hi3]at hgt;exact hgt
theorem RI (h:Seg.Calm K r M){i:Nat} (hi:bU M.now s=some i):(M.remove s).2=0/\(M.remove s).1.now=iD M.now s/\(∀ t,t≠s->(M.remove s).1.all t=M.all t)/\(M.remove s).1.used<=M.used:=by
 have hr:=Seg.KL h.quiet hi;have hc:=h.remove s;have hse:s≠ByteArray.empty:=λe=>h.ok.ig.ne _ (jD hi) e;have jr:(M.remove s).1.now=iD M.now s:=by
  rw [hr];show jc.on ⟨s,ByteArray.empty,0⟩ M.now=_;unfold jc.on;simp only [abj hse,apa]
 have CJ:(M.remove s).1.file=M.file:=by rw [hr];rfl
 refine ⟨by rw [hr],jr,λt ht=>?_,?_⟩
 ·have e1:bU (M.remove s).1.now t=bU M.now t:=by rw [jr,Seg.F5 ht]
  cases hj:bU M.now t with
  |none=>rw [hj]at e1;rw [Seg.all_none hc.quiet e1,Seg.all_none h.quiet hj]
  |some j=>rw [hj]at e1;rw [Seg.all_some hc.quiet e1,Seg.all_some h.quiet hj,CJ]
 ·show ((M.remove s).1.now.map λp=>((M.remove s).1.file p.2).now.length).sum<=(M.now.map λp=>(M.file p.2).now.length).sum;rw [jr,CJ];exact LC M.now s (λj=>(M.file j).now.length)
structure Sw (p:ByteArray->Bool) (K r:Nat) (l:List ByteArray) (M:ay) (R:ay×Int):Prop where
 zero:R.2=0
 calm:Seg.Calm K r R.1
 sub:∀ q∈R.1.now,q∈M.now
 len:R.1.now.length<=M.now.length
 used:R.1.used<=M.used
 other:∀ t,p t=false->R.1.all t=M.all t
 gone:∀ q∈R.1.now,q.1∈l->p q.1=false
theorem TP {p:ByteArray->Bool}:∀ (l:List ByteArray) (K:Nat) (M:ay),Seg.Calm K r M->l.Nodup->(∀ f∈l,∃ i,bU M.now f=some i)->Sw p (K+l.length) r l M (sweep p l M)
 |[],K,M,h,_,_=>⟨rfl,h,λq hq=>hq,abl _,abl _,λ_ _=>rfl,λ_ _ hl=>by cases hl⟩
 |f::l,K,M,h,hd,hh=>by
  obtain ⟨d1,d2⟩:=akZ.1 hd;unfold sweep;split
  ·rename_i hp;obtain ⟨i,hi⟩:=hh f (.head _);obtain ⟨r1,r2,r3,r4⟩:=RI h hi;rw [acg r1]
   have hs:=TP (p:=p) l (K+1) (M.remove f).1 (h.remove f) d2 (λg hg=>by
    rw [r2,Seg.F5 (λe=>d1 (by rw [<-e];exact hg))];exact hh g (.tail _ hg))
   refine ⟨hs.zero,hs.calm.mono (by rw [aep];omega),λq hq=>?_,adt hs.len (by rw [r2];exact CW M.now f),adt hs.used r4,λt ht=>?_,λq hq hl=>?_⟩
   ·have:=hs.sub q hq;rw [r2]at this;exact (aem.1 this).1
   ·rw [hs.other t ht,r3 t (λe=>by rw [e,hp]at ht;cases ht)]
   ·rcases ad5.1 hl with e|hl
    ·have:=hs.sub q hq;rw [r2]at this;have:=(aem.1 this).2;rw [e]at this;simp [bne,oL]at this
    ·exact hs.gone q hq hl
  ·rename_i hp;have hs:=TP (p:=p) l K M h d2 (λg hg=>hh g (.tail _ hg));refine ⟨hs.zero,hs.calm.mono (by rw [aep];omega),hs.sub,hs.len,hs.used,hs.other,λq hq hl=>?_⟩;rcases ad5.1 hl with e|hl
   ·rw [e];simpa using hp
   ·exact hs.gone q hq hl
theorem akh (h:Seg.Calm K r M):(M.now.map (·.1)).Nodup:=h.ok.ig.ny.keys
structure Svd (n:Int) (b1 b2:Bs) (K r:Nat) (M:ay) (R:ay×Int):Prop where
 calm:Seg.Calm K r R.1
 tmp:bU R.1.now aB.tmp=none
 len:R.1.now.length<=M.now.length+2
 used:R.1.used<=M.used+b1.length+b2.length
 other:∀ t,t≠aB.tmp->t≠name idx n->t≠name use n->other n t=false->R.1.all t=M.all t
 names:∀ p∈R.1.now,p∈M.now\/p.1=name idx n\/p.1=name use n
 done:R.2=0/\R.1.all (name idx n)=(b1,0)/\R.1.all (name use n)=(b2,0)\/R.2=11
 room:M.used+b1.length+b2.length<=r->R.2=0
 gone:R.2=0->∀ p∈R.1.now,aB.other n p.1=false
theorem Gp (h:Seg.Calm K r M) (ht:bU M.now tmp=none) (hl:M.now.length<=480) (h1:0<=n) (h2:n<1048576):Svd n b1 b2 (K+600) r M (save M n b1 b2):=by
 have g1:=Aw (ld:=idx) rfl aN n h1 h2;have g2:=Aw (ld:=use) rfl aN n h1 h2;have n1:=Qh n h1 h2;have n2:=Um n h1 h2;have ne:=ajW n h1 h2;have o1:other n (name idx n)=false:=aa9 (um (.inl yF) n h1 h2);have o2:other n (name use n)=false:=aa9 (um (.inr GL) n h1 h2);have w1:=DZ (b:=b1) h ht oQ g1 n1;unfold save;by_cases c1:(write M (name idx n) b1).2=0;rotate_left
 ·rw [abj c1];have e11:(write M (name idx n) b1).2=11:=by
   rcases w1.done with ⟨e,_⟩|⟨e,_⟩
   ·exact absurd e c1
   ·exact e
  exact ⟨w1.calm.mono oQ,w1.tmp,by have:=w1.len;omega,by have:=w1.used;omega,λt a b _ _=>w1.other t a b,λp hp=>(w1.names p hp).imp id .inl,.inr e11,λhh=>w1.room oQ,λe=>absurd e c1⟩
 rw [acg c1];have a1:(write M (name idx n) b1).1.all (name idx n)=(b1,0):=by
  rcases w1.done with ⟨_,e⟩|⟨e,_⟩
  ·exact e
  ·rw [e]at c1;cases c1
 have w2:=DZ (b:=b2) w1.calm w1.tmp (by have:=w1.len;omega) g2 n2;unfold Tt;generalize hM1:(write M (name idx n) b1).1=M1 at *
 by_cases c2:(write M1 (name use n) b2).2=0;rotate_left
 ·rw [abj c2];have e11:(write M1 (name use n) b2).2=11:=by
   rcases w2.done with ⟨e,_⟩|⟨e,_⟩
   ·exact absurd e c2
   ·exact e
  refine ⟨w2.calm.mono oQ,w2.tmp,?_,?_,λt a b c _=>?_,λp hp=>?_,.inr e11,λhh=>?_,λe=>absurd e c2⟩
  ·have:=w1.len;have:=w2.len;rw [hM1]at *;omega
  ·have:=w1.used;have:=w2.used;rw [hM1]at *;omega
  ·have:=w1.other t a b;rw [hM1]at this;rw [w2.other t a c,this]
  ·rcases w2.names p hp with q|q
   ·have:=w1.names p (by rw [hM1];exact q);exact this.imp id .inl
   ·exact .inr (.inr q)
  ·have:=w1.used;rw [hM1]at this;exact w2.room oQ
 rw [acg c2];have a2:(write M1 (name use n) b2).1.all (name use n)=(b2,0):=by
  rcases w2.done with ⟨_,e⟩|⟨e,_⟩
  ·exact e
  ·rw [e]at c2;cases c2
 have a3:(write M1 (name use n) b2).1.all (name idx n)=(b1,0):=by rw [w2.other _ n1 ne,a1]
 generalize hM2:(write M1 (name use n) b2).1=M2 at *
 have k2:Seg.Calm (K+5+5) r M2:=by have:=w2.calm;rw [hM2]at this;exact this
 have hd:=k2.quiet.LD;have hds:=k2.dR;unfold Tv;rw [acg (by rw [hd])];have hz:M2.dR.1.now=M2.now:=by rw [hd]
 have hu:M2.dR.1.used=M2.used:=by rw [hd];rfl
 have hall:∀ t,M2.dR.1.all t=M2.all t:=λt=>by rw [hd];rfl
 generalize M2.dR.1=M3 at *
 have vg:M3.list=M3.now.map (·.1):=hds.quiet.list
 have hs:=TP (p:=other n) M3.list (K+5+5) M3 hds (by rw [vg];exact akh hds) (λf hf=>by
  rw [vg]at hf;obtain ⟨p,hp,rfl⟩:=abL.1 hf;exact ⟨p.2,Az hds.ok.ig.ny.keys (show (p.1,p.2)∈M3.now from hp)⟩)
 have hlen:M3.list.length<=500:=by rw [vg,aa4];exact hds.ok.ig.len
 refine ⟨hs.calm.mono oQ,?_,?_,?_,λt a b c d=>?_,λp hp=>?_,.inl ⟨hs.zero,?_,?_⟩,λ_=>hs.zero,λ_ p hp=>hs.gone p hp (by rw [vg];exact abL.2 ⟨p,hs.sub p hp,rfl⟩)⟩
 ·cases hi:bU (sweep (other n) M3.list M3).1.now tmp with
  |none=>rfl
  |some i=>
   have q:=hs.sub _ (jD hi);have:=Az hds.ok.ig.ny.keys q;rw [hz]at this;have e:=w2.tmp;rw [hM2,this]at e;cases e
 ·have:=hs.len;have:=w1.len;have:=w2.len;rw [hM1]at *;rw [hM2]at *;rw [hz]at *;omega
 ·have:=hs.used;have:=w1.used;have:=w2.used;rw [hM1]at *;rw [hM2]at *;omega
 ·have e1:=w1.other t a b;have e2:=w2.other t a c;rw [hM1]at e1;rw [hM2]at e2;rw [hs.other t d,hall,e2,e1]
 ·have q:=hs.sub p hp;rw [hz]at q;rcases w2.names p (by rw [hM2];exact q) with q|q
  ·have:=w1.names p (by rw [hM1];exact q);exact this.imp id .inl
  ·exact .inr (.inr q)
 ·rw [hs.other _ o1,hall,a3]
 ·rw [hs.other _ o2,hall,a2]
end
open Go.ay
open Go.Seg (Log Keeps Holds HG kJ mag aV)
open Go.aj (dD encs gu dI aI)
open Go.Rep (Use)
section
variable {n K r E B c:Nat}{L:Log}{M:ay}{C:List (List aI)}{N:Int}{us:List Use}{ps:List (Bs×aV)}
theorem kJ.size (h:kJ L c us ps){s:Int} (hs:s∈L.aF.take c):L.size s<=33554432:=by
 rw [<-h.aF]at hs;obtain ⟨u,hu,rfl⟩:=abL.1 hs;obtain ⟨_,_,h3,h4⟩:=h.use u hu;omega
theorem kJ.idx (h:kJ L c us ps) (hL:L.Ok) (hl:ps.length<=65536):aT.Ok 3 true (ps.map Rep.ji):=by
 refine ⟨by rw [aa4];exact hl,λr hr=>?_,λi a b ha hb=>?_⟩
 ·obtain ⟨q,hq,rfl⟩:=abL.1 hr;obtain ⟨p1,p2,p3,p4⟩:=h.plc q hq;have hz:=kJ.size h p4;have hsg:=aeP p4;obtain ⟨x,hx,hxe⟩:=abL.1 hsg;have hnm:=hL.nums x hx;refine ⟨h.key q hq,rfl,λm hm=>?_⟩;simp only [Rep.ji,ad5,ah4,apX]at hm;rcases hm with rfl|rfl|rfl <;> omega
 ·rw [adW]at ha hb;obtain ⟨x,hx,rfl⟩:=aip.1 ha;obtain ⟨y,hy,rfl⟩:=aip.1 hb;obtain ⟨i1,rfl⟩:=abm.1 hx;obtain ⟨i2,rfl⟩:=abm.1 hy;unfold aT.ahead;rw [acg rfl];exact aoj.1 h.rise i (i+1) i1 i2 oQ
theorem kJ.uses (h:kJ L c us ps) (hL:L.Ok) (hl:us.length<=65536):aT.Ok 3 false (us.map Rep.jl):=by
 have qJ:(us.map (·.seg)).Pairwise (· < ·):=by
  rw [h.aF];exact (Seg.DC hL).sublist (List.take_sublist _ _)
 refine ⟨by rw [aa4];exact hl,λr hr=>?_,λi a b ha hb=>?_⟩
 ·obtain ⟨u,hu,rfl⟩:=abL.1 hr;obtain ⟨p1,p2,p3,p4⟩:=h.use u hu;have hsg:u.seg∈L.aF:=aeP (by rw [<-h.aF];exact abL.2 ⟨u,hu,rfl⟩);obtain ⟨x,hx,hxe⟩:=abL.1 hsg;have hnm:=hL.nums x hx;refine ⟨rfl,rfl,λm hm=>?_⟩;simp only [Rep.jl,ad5,ah4,apX]at hm;rcases hm with rfl|rfl|rfl <;> omega
 ·rw [adW]at ha hb;obtain ⟨x,hx,rfl⟩:=aip.1 ha;obtain ⟨y,hy,rfl⟩:=aip.1 hb;obtain ⟨i1,rfl⟩:=abm.1 hx;obtain ⟨i2,rfl⟩:=abm.1 hy;unfold aT.ahead;rw [abj aN];have:=aoj.1 qJ i (i+1) (by rw [aa4];exact i1) (by rw [aa4];exact i2) oQ;rw [List.getElem_map,List.getElem_map]at this;exact this
end
structure Hd (T:Kept) (P:ByteArray->Prop) (K:Nat) (M:ay):Prop where
 ok:M.Ok K
 nm:∀ k,k<=M.waits.length->(∀ t∈T,bU (M.pG k) t.1=some t.2.1)/\∀ p∈M.pG k,(∃ t∈T,p.1=t.1)\/P p.1
 fil:∀ t∈T,M.file t.2.1=t.2.2
section
variable {T:Kept}{P:ByteArray->Prop}{K K' r:Nat}{M:ay}{s:ByteArray}{L:Log}{N:Int}
end
section
variable {T:Kept}{P:ByteArray->Prop}{n K K' E B c:Nat}{L:Log}{M M':ay}{C:List (List aI)}{N:Int}{b1 b2:aj.Bs}{us:List Use}
end
section
variable {n K r E B c:Nat}{L:Log}{M M':ay}{C:List (List aI)}{N:Int}{us:List Use}{ps:List (Bs×aV)}{b1 b2:aj.Bs}
theorem J9:∀ (l:List ByteArray) (x:Int),x<=N->(∀ s∈l,(number s).2=true->(number s).1=N)->(x=N\/∃ s∈l,(number s).2=true)->sH l x=N
 |[],x,_,_,h=>by
  rcases h with h|⟨s,hs,_⟩
  ·exact h
  ·cases hs
 |s::l,x,hx,hl,h=>by
  show sH l (if (number s).2=true then max x (number s).1 else x)=N;by_cases hs:(number s).2=true
  ·rw [acg hs,hl s (.head _) hs,Int.max_eq_right hx];exact J9 l N (aoZ _) (λt ht=>hl t (.tail _ ht)) (.inl rfl)
  ·rw [abj hs];refine J9 l x hx (λt ht=>hl t (.tail _ ht)) ?_;rcases h with h|⟨t,ht,he⟩
   ·exact .inl h
   ·rcases ad5.1 ht with rfl|ht
    ·exact absurd he hs
    ·exact .inr ⟨t,ht,he⟩
theorem kJ.lies (h:kJ L c us ps) (hL:L.Ok):∀ q∈ps,aB.lies q.2 (aB.sizes us)=true/\IntKind.i64.wrap (aB.sizes us q.2.seg-q.2.at_)=aB.sizes us q.2.seg-q.2.at_:=λq hq=>by
 obtain ⟨p1,p2,p3,p4⟩:=h.plc q hq;have hz:=kJ.size h p4;have hnd:(us.map (·.seg)).Nodup:=by
  rw [h.aF];exact (((Seg.DC hL).sublist (List.take_sublist _ _)).imp λ{a b} hab=>by omega)
 have hm:q.2.seg∈us.map (·.seg):=by rw [h.aF];exact p4
 obtain ⟨u,hu,he⟩:=abL.1 hm;obtain ⟨_,_,u3,_⟩:=h.use u hu;have hs:aB.sizes us q.2.seg=L.size q.2.seg:=by rw [<-he,anb hnd hu,u3]
 rw [hs];refine ⟨?_,adr _ oQ⟩;unfold aB.lies;rw [aeb p1,aeb p2,hs,aeb (by omega:q.2.size<=L.size q.2.seg-q.2.at_)]
 rfl
end
end Go.aB
namespace Go.Seg
open Go.ay
open Go.aj (Bs aI encs gu)
open Go.Rep
structure Rp (K r E B n:Nat) (L:Log) (M:ay) (C:List (List aI)):Prop where
 hg:HG K r E B n L M C
 tmp:bU M.now aB.tmp=none
 few:C.flatten.length<=n
 small:∀ p∈M.now,p.1.size<=24
 thin:∀ e∈C.flatten,e.data.length<=300
section
variable {K r E B n:Nat}{L:Log}{M M':ay}{C:List (List aI)}{x:aI}
theorem QI (k:Int):(name k).size<=24:=by
 rcases aB.Lh k with z|⟨z,_⟩
 ·rw [z];decide
 ·rw [z];decide
theorem HG.apart {K' E' B':Nat} (h:HG K r E B n L M C) (c:Calm K' r M') (ha:∀ k:Int,M'.all (name k)=M.all (name k)) (hu:M'.used<=n*400+B') (hn:M'.now.length<=n+E'):HG K' r E' B' n L M' C:=by
 have has:∀ k:Int,(∃ i,bU M'.now (name k)=some i)↔∃ i,bU M.now (name k)=some i:=λk=>by
  rw [<-aB.xU c.quiet,<-aB.xU h.keeps.calm.quiet,ha]
 exact ⟨⟨h.keeps.log,c,λs hs=>(has s.1).2 (h.keeps.has s hs)⟩,h.len,h.at_,λk es hk=>by rw [ha];exact h.file k es hk,h.good,h.count,hu,hn,λk i hk hi=>by
  obtain ⟨j,hj⟩:=(has k).1 ⟨i,hi⟩;exact h.cover k j hk hj⟩
theorem LP {l:List aI} (h:∀ e∈l,e.data.length<=300) (hd:x.data.length<=300):∀ e∈l++[x],e.data.length<=300:=λe he=>by
 rcases aeg.1 he with he|he
 ·exact h e he
 ·rw [adZ.1 he];exact hd
theorem Rp.grown (h:Rp K r E B n L M C){K' n':Nat}{L':Log}{C':List (List aI)} (hg:HG K' r E B n' L' M' C') (hr:aB.Grown M M') (hf:C'.flatten.length<=n') (ht:∀ e∈C'.flatten,e.data.length<=300):Rp K' r E B n' L' M' C':=by
 refine ⟨hg,?_,hf,λp hp=>?_,ht⟩
 ·cases hi:bU M'.now aB.tmp with
  |none=>rfl
  |some i=>
   rcases hr _ (jD hi) with q|⟨k,q⟩
   ·have:=Az h.hg.keeps.calm.ok.ig.ny.keys (show (aB.tmp,i)∈M.now from q);rw [h.tmp]at this;cases this
   ·exact absurd q (aB.DR k)
 ·rcases hr p hp with q|⟨k,q⟩
  ·exact h.small p q
  ·rw [q];exact QI k
theorem Rp.mono (h:Rp K r E B n L M C){K' E' B' n':Nat} (h1:K<=K') (h2:E<=E') (h3:B<=B') (h4:n<=n'):Rp K' r E' B' n' L M C:=⟨h.hg.mono h1 h2 h3 h4,h.tmp,adt h.few h4,h.small,h.thin⟩
theorem Rp.yes (h:Rp K r E B n L M C) (hn:n<1000) (hk:x.key.length=32) (hd:x.data.length<=300) (h0:(aj.encode x).2=0) (hz:(L.append M x).2.2=0) :
  ∃ C',Rp (K+4) r E B (n+1) (L.append M x).1.1 (L.append M x).1.2 C'/\C'=put C (L.fits (aj.encode x).1.length) x/\C'.flatten=C.flatten++[x]/\∃ row,gG 0 C'=gG 0 C++[row]/\row.2.e=x/\iP row=(L.append M x).2.1:=by
 obtain ⟨_,_,_,a4⟩:=h.hg.append hn x hk hd h0 (.inl hz);have hfl:=abt C (L.fits (aj.encode x).1.length) x h.hg.tJ;refine ⟨_,h.grown a4 (aB.CV L M x) ?_ ?_,rfl,hfl,_,ab4 C _ x h.hg.tJ,abq C _ x,(h.hg.Oe h0 hz).symm⟩
 ·rw [hfl,aaL,aer];have:=h.few;omega
 ·rw [hfl];exact LP h.thin hd
theorem Rp.commit (h:Rp K r E B n L M C) (hn:n<1000) (hz:(L.append M bC).2.2=0) :
  (L.commit M).2.2=0/\(L.commit M).1.1.on=false/\∃ C',Rp (K+5) r E B (n+1) (L.commit M).1.1 (L.commit M).1.2 C'/\(∃ row,gG 0 C'=gG 0 C++[row]/\row.2.e=bC)/\C'.flatten=C.flatten++[bC]/\(∃ es,C'≠[]/\C'[C'.length-1]?=some es/\mJ es=true):=by
 obtain ⟨a1,a2,_,a4⟩:=h.hg.commit hn (.inl hz);have hfl:=abt C (L.fits (aj.encode bC).1.length) bC h.hg.tJ;refine ⟨a1,a2,_,h.grown a4 (aB.JU L M) ?_ ?_,⟨_,ab4 C _ bC h.hg.tJ,abq C _ bC⟩,hfl,ag6 C _⟩
 ·rw [hfl,aaL,aer];have:=h.few;omega
 ·rw [hfl];exact LP h.thin aN
theorem Rp.run (h:Rp K r E B n L M C) (hl:∃ es,C≠[]/\C[C.length-1]?=some es/\mJ es=true):Rep.run (λs=>L.bytes M s) L.aF=.inr C.length/\L.aF.length=C.length/\0<C.length/\L.aF.take C.length=L.aF/\oP L.aF=(C.length:Int)-1:=by
 obtain ⟨es,hne,he,hen⟩:=hl;have hp:0<C.length:=apO.2 hne;obtain ⟨c,h1,h2,h3,h4⟩:=h.hg.run;have e1:c=C.length:=by
  by_cases hh:c=C.length
  ·exact hh
  ·have:=h4 (C.length-1) es oQ he;rw [hen]at this;cases this
 obtain ⟨s1,s2⟩:=h.hg.aF;refine ⟨by rw [<-e1];exact h1,s1,hp,by rw [<-s1];exact aeo,?_⟩;have e:L.aF.getLast?=some ((C.length:Int)-1):=by
  rw [aeH,s1,s2 _ oQ]
  congr 1;omega
 unfold oP;rw [e]
theorem Rp.rows (h:Rp K r E B n L M C):rowsOf (λs=>L.bytes M s) L.aF=gG 0 C:=by
 have e:=h.hg.rows C.length;rw [<-h.hg.aF.1,aeo,h.hg.aF.1,aeo]at e;exact e
theorem Rp.jy (h:Rp K r E B n L M C):(rowsOf (λs=>L.bytes M s) L.aF).length<=n:=by
 rw [h.rows,<-aa4 (f:=λr:Row=>r.2.e),Sv];exact h.few
theorem Rp.row (h:Rp K r E B n L M C){q:Row} (hq:q∈gG 0 C):L.read M (iP q)=(q.2.e,0)/\gu q.2.e/\(q.2.size:Int)<=4294967296/\(q.2.at_:Int)<=4294967296:=by
 refine ⟨h.hg.RD hq,?_⟩;obtain ⟨j,es,h5,h6,h7⟩:=KR C 0 hq;obtain ⟨u,v,h8,h9,h10⟩:=Ce es 8 h7;have hat:=abA (h.hg.at_ j es h5);have hsz:=h.hg.keeps.log.sizes _ hat;have he:(encs es).length=(encs u).length+((aj.encode q.2.e).1.length+(encs v).length):=by
  conv=>lhs;rw [h8]
  rw [yu,aaL]
  congr 1
  exact aaL
 simp only at hsz;exact ⟨(h.hg.good es (abA h5)).1 _ (by rw [h8];simp),by omega,by omega⟩
theorem Rp.KX (h:Rp K r E B n L M C):∀ q∈rowsOf (λs=>L.bytes M s) L.aF,(q.2.size:Int)<=4294967296:=λq hq=>by
 rw [h.rows]at hq;exact (h.row hq).2.2.1
theorem Rp.hint (h:Rp K r E B n L M C){kv:List (Bs×dY)} (hk:Tab.Lists (ledger (rowsOf (λs=>L.bytes M s) L.aF)) kv) (h32:∀ q∈kv,q.1.length=32) :
  kJ L C.length ((jR (λs=>L.bytes M s) L.aF).map (upd kv)) (puts kv):=by
 have e:L.aF.take C.length=L.aF:=by rw [<-h.hg.aF.1];exact aeo
 have:=h.hg.hint (abl _) (kv:=kv) (by rw [e];exact hk) h32;rw [e]at this;exact this
theorem Rp.save (h:Rp K r E B n L M C) (hn:n+E<=480){N:Int} (h1:0<=N) (h2:N<1048576) (b1 b2:Bs) :
  Rp (K+600) r (E+2) (B+b1.length+b2.length) n L (aB.save M N b1 b2).1 C/\((aB.save M N b1 b2).2=0\/(aB.save M N b1 b2).2=11) /\
   (∀ f∈(aB.write (aB.write M (aB.name aB.idx N) b1).1 (aB.name aB.use N) b2).1.dR.1.list,f.size<=4000000000):=by
 have hnm:=h.hg.names;have s:=aB.Gp (b1:=b1) (b2:=b2) h.hg.keeps.calm h.tmp oQ h1 h2;have g1:=aB.Aw (ld:=aB.idx) rfl aN N h1 h2;have g2:=aB.Aw (ld:=aB.use) rfl aN N h1 h2;have hsz:∀ ld:ByteArray,ld.data.toList.length=4->(aB.name ld N).size<=24:=λld hl=>by
  show (aB.name ld N).data.size<=24;rw [<-ad4,aB.name_eq ld N h1 h2,aaL,hl,wJ];omega
 refine ⟨⟨h.hg.apart s.calm (λk=>?_) (by have:=s.used;have:=h.hg.used;omega) (by have:=s.len;omega),s.tmp,h.few,λp hp=>?_,h.thin⟩,s.done.imp (·.1) id,λf hf=>?_⟩
 ·by_cases hk:0<=k/\k<1048576
  ·exact s.other _ (aB.DR k).symm (aB.Lj k N h1 h2) (aB.Ll k N h1 h2) (aB.Rh (by rw [aB.yK]))
  ·exact s.other _ (aB.DR k).symm (aB.Lj k N h1 h2) (aB.Ll k N h1 h2) (aB.Rh (by rw [aB.yK]))
 ·rcases s.names p hp with q|q|q
  ·exact h.small p q
  ·rw [q];exact hsz _ rfl
  ·rw [q];exact hsz _ rfl
 ·have w1:=aB.DZ (b:=b1) h.hg.keeps.calm h.tmp oQ g1 (aB.Qh N h1 h2);have w2:=aB.DZ (b:=b2) w1.calm w1.tmp (by have:=w1.len;omega) g2 (aB.Um N h1 h2);rw [w2.calm.dR.quiet.list,aB.LG]at hf;obtain ⟨p,hp,rfl⟩:=abL.1 hf;refine adt (m:=24) ?_ aN;rcases w2.names p hp with q|q
  ·rcases w1.names p q with q|q
   ·exact h.small p q
   ·rw [q];exact hsz _ rfl
  ·rw [q];exact hsz _ rfl
end
end Go.Seg
namespace Go.Tab
open Go.aj (Bs)
section
variable {α V:Type}{m:Bs->Option V}{k:Bs}{v:V}
theorem JW [DecidableEq α]:∀ {l l':List α},l.Nodup->(∀ x∈l,x∈l')->l.length<=l'.length
 |[],_,_,_=>aea _
 |a::l,l',hd,hs=>by
  obtain ⟨h1,h2⟩:=akZ.1 hd;have hm:=hs a (.head _);have ih:=JW (l':=l'.erase a) h2 (λx hx=>(List.mem_erase_of_ne (λe:x=a=>h1 (by rw [<-e];exact hx))).2 (hs x (.tail _ hx)));rw [List.length_erase_of_mem hm]at ih;have:=List.length_pos_of_mem hm;rw [aep];omega
theorem ajC {t:Tb V} (h:t.Ok) (hi:t.Is m){kv:List (Bs×V)} (hl:Lists m kv):t.n=kv.length:=by
 have hA:((t.slots.filter λx=>x.st==1).map (·.key)).Nodup:=by
  rw [List.nodup_iff_pairwise_ne,ajM,List.pairwise_filter,aoj];intro i j hi hj hij p1 p2 e;have:=h.good.one (aay hi) (aay hj) (by simpa using p1) (by simpa using p2) e;omega
 have hn:t.n=((t.slots.filter λx=>x.st==1).map (·.key)).length:=by
  rw [aa4,h.n];unfold kD;rw [List.countP_eq_length_filter]
 have hB:=hl.keys;have hAB:∀ x∈(t.slots.filter λx=>x.st==1).map (·.key),x∈kv.map (·.1):=λx hx=>by
  obtain ⟨y,hy,rfl⟩:=abL.1 hx;obtain ⟨h1,h2⟩:=aem.1 hy;obtain ⟨i,hi1,hi2⟩:=aoY h1;have:m y.key=some y.val:=(hi _ _).1 ⟨i,y,by rw [aay hi1,hi2],by simpa using h2,rfl,rfl⟩;exact abL.2 ⟨(y.key,y.val),(hl.mem _ _).2 this,rfl⟩
 have hBA:∀ x∈kv.map (·.1),x∈(t.slots.filter λx=>x.st==1).map (·.key):=λx hx=>by
  obtain ⟨q,hq,rfl⟩:=abL.1 hx;obtain ⟨i,y,h1,h2,h3,h4⟩:=(hi q.1 q.2).2 ((hl.mem q.1 q.2).1 hq);exact abL.2 ⟨y,aem.2 ⟨abA h1,by simpa using h2⟩,h3⟩
 have l1:=JW hA hAB;have l2:=JW hB hBA;rw [aa4]at l1 l2 hn;rw [aa4]at l1 l2;omega
end
end Go.Tab
namespace Go.Seg
open Go.ay
open Go.aj (Bs aI encs gu)
section
variable {K r:Nat}{L:Log}{M:ay}
end
end Go.Seg
namespace Go.Rep
open Go.aj (Bs aI gu)
open Go.Seg (aV)
open Go.Tab
def wX (es:List aI) (kv:List (Bs×aV)):List (Bs×Bs):=kv.map λq=>(q.1,(jw es q.1).getD [])
theorem akE {l:List Row}{es:List aI}{kv:List (Bs×aV)} (he:l.map (·.2.e)=es) (h:Lists (dO l) kv):Lists (jw es) (wX es kv):=by
 subst he;refine ⟨?_,λk v=>?_⟩
 ·unfold wX;rw [ajM];exact h.rise
 ·unfold wX;rw [abL];obtain ⟨o1,_⟩:=aaP l k;constructor
  ·rintro ⟨q,hq,e⟩;have e1:q.1=k:=aey Prod.fst e;have e2:(jw (l.map (·.2.e)) q.1).getD []=v:=aey Prod.snd e;rw [e1]at e2;have hn:=(h.mem q.1 q.2).1 hq;rw [e1]at hn;rw [hn]at o1;cases ho:jw (l.map (·.2.e)) k with
   |none=>rw [ho]at o1;cases o1
   |some d=>rw [ho]at e2;exact aey some e2
  ·intro ho;rw [ho]at o1;cases hn:dO l k with
   |none=>rw [hn]at o1;cases o1
   |some pl=>exact ⟨(k,pl),(h.mem _ _).2 hn,by simp only;rw [ho];rfl⟩
end Go.Rep
namespace Go.Seg
open Go.ay
open Go.aj (Bs aI encs gu)
open Go.Rep
section
variable {K r E B n:Nat}{L:Log}{M:ay}{C:List (List aI)}{k:Bs}{pl:aV}
theorem Pm (hk:k.length=32) (d:Bs) (hd:d.length<=300):(aj.encode ⟨0,k,d⟩).2=0:=ac2 (d:=⟨0,k,d⟩) hk hd
theorem ahX (hk:k.length=32):(aj.encode ⟨1,k,[]⟩).2=0:=ac2 (d:=⟨1,k,[]⟩) hk (aea _)
end
section
variable {K r E B n:Nat}{L:Log}{M:ay}{C C0:List (List aI)}{x:aI}
theorem Keeps.V8 (h:Keeps K r L M) (h0:(aj.encode x).2=0) (hz:(L.append M x).2.2=0):(L.append M x).1.1.on=true/\(L.append M x).1.1.fresh=L.fresh+(if L.fits (aj.encode x).1.length=true then 0 else 1):=by
 cases hfi:L.fits (aj.encode x).1.length with
 |true=>
  rw [Log.xX h0 hfi]at hz ⊢;have hon:=uX hfi;obtain ⟨s,hl⟩:=h.log.last hon;unfold Log.grow at hz ⊢;rw [hl]at hz ⊢;simp only at hz ⊢;split at hz
  ·rename_i g;rw [acg g];exact ⟨hon,by simp⟩
  ·rename_i g;exact absurd hz g
 |false=>
  rw [Log.wC h0 hfi]at hz ⊢;obtain ⟨_,s2,_,s4,_⟩:=h.shut;unfold Log.begin at hz ⊢;rw [acg s2]at hz ⊢;generalize (L.shut M).1.1=L1 at *
  generalize (L.shut M).1.2=M1 at *
  unfold Log.jC at hz ⊢;by_cases g2:1048576<=L1.next
  ·rw [acg g2]at hz;exact absurd (show (16:Int)=0 from hz) aN
  rw [abj g2]at hz ⊢;by_cases g3:(M1.create (name L1.next)).2=0;rotate_left
  ·rw [acg g3]at hz;exact absurd hz g3
  rw [abj (λq=>q g3)]at hz ⊢;by_cases g4:((M1.create (name L1.next)).1.append (name L1.next) (mag++(aj.encode x).1)).2=0
  ·rw [acg g4];exact ⟨rfl,by simp only;rw [s4];simp⟩
  rw [abj g4]at hz;split at hz
  ·simp only at hz;split at hz
   ·exact absurd hz aN
   ·rename_i g5;exact absurd hz g5
  ·exact absurd hz g4
theorem afj {L:Log}{M:ay}{x:aI} (h0:(aj.encode x).2=0) (hz:(L.append M x).2.2≠0) (ho:(L.append M x).1.1.on=true):L.on=true:=by
 cases hf:L.fits (aj.encode x).1.length with
 |true=>exact Seg.uX hf
 |false=>
  rw [Log.wC h0 hf]at hz ho;have hs:(L.shut M).1.1.on=true->L.on=true:=by
   unfold Log.shut;split
   ·exact λe=>e
   ·split
    ·rename_i q;exact λ_=>q
    ·exact λe=>e
  unfold Log.begin at hz ho;split at ho
  ·rename_i e2;rw [acg e2]at hz;unfold Log.jC at hz ho;split at ho;· exact hs ho
   rename_i g1;rw [abj g1]at hz;split at ho;· exact hs ho
   rename_i g2;rw [abj g2]at hz;split at ho
   ·rename_i g3;rw [acg g3]at hz;exact absurd rfl hz
   split at ho <;> exact hs ho
  ·exact hs ho
end
def Apart (M M':ay):Prop:=∀ t,(∀ k:Int,t≠name k)->M'.all t=M.all t
section
variable {K r E B n:Nat}{L:Log}{M M' M2:ay}{C C0:List (List aI)}{x:aI}
theorem Apart.refl (M:ay):Apart M M:=λ_ _=>rfl
theorem Apart.trans (h:Apart M M') (k:Apart M' M2):Apart M M2:=λt ht=>(k t ht).trans (h t ht)
theorem V7 (h:Calm K r M) (k:Int) (b:Bs):Apart M (M.append (name k) b).1:=λt ht=>by
 rcases wF h.quiet (name k) b with ⟨_,q⟩|⟨j,q1,⟨q2,q3⟩|⟨q2,q3⟩⟩
 ·rw [q]
 ·rw [q3]
 ·exact (I4 h q1 b oQ).2.2.2.2 t (ht k)
theorem agr (h:Calm K r M) (k:Int):Apart M (M.create (name k)).1:=λt ht=>by
 rcases EN h.quiet (name k) with ⟨_,_,q⟩|⟨q1,q2,q3,_⟩
 ·rw [q]
 ·exact (Jg h q1 q2 q3).2.2.2.2 t (ht k)
theorem abM (h:Calm K r M) (k:Int):Apart M (M.remove (name k)).1:=λt ht=>by
 cases hi:bU M.now (name k) with
 |none=>
  have:M.remove (name k)=(M,9):=by unfold ay.remove;rw [h.quiet.off,hi];rfl
  rw [this]
 |some i=>exact (aB.RI h hi).2.2.1 t (ht k)
theorem anE (h:Calm K r M) (s:ByteArray):Apart M (M.sync s).1:=λt _=>(LH h.ok h.quiet s).all t
theorem am5 (h:Calm K r M) (L:Log):Apart M (L.shut M).1.2/\Calm (K+1) r (L.shut M).1.2:=by
 unfold Log.shut;split;· exact ⟨Apart.refl M,h.mono oQ⟩
 split
 ·split <;> exact ⟨anE h _,(h.sync _).mono oQ⟩
 ·exact ⟨Apart.refl M,h.mono oQ⟩
theorem afH (h:Calm K r M) (L:Log) (b:Bs):Apart M (L.jC M b).1.2:=by
 have hc:=agr h L.next;have h1:=h.create (name L.next);have ha:=hc.trans (V7 h1 L.next (mag++b));have h2:=h1.append (name L.next) (mag++b);unfold Log.jC;split;· exact Apart.refl M
 split;· exact hc
 split;· exact ha
 split
 ·exact ha.trans (abM h2 _)
 ·exact ha
theorem ajo (h:Calm K r M) (L:Log) (x:aI):Apart M (L.append M x).1.2:=by
 unfold Log.append;split;· exact Apart.refl M
 split
 ·unfold Log.grow;split
  ·exact Apart.refl M
  ·split <;> exact V7 h _ _
 ·obtain ⟨s1,s2⟩:=am5 h L;unfold Log.begin;split
  ·exact s1.trans (afH s2 _ _)
  ·exact s1
end
structure HF (M:ay) (N:Int) (pl:List (Bs×aV)) (us:List Use):Prop where
 one:M.all (aB.name aB.idx N)=(aT.book Xx.sum aT.qL true (pl.map ji),0)
 two:M.all (aB.name aB.use N)=(aT.book Xx.sum aT.qM false (us.map jl),0)
 num:∀ p∈M.now,(aB.number p.1).2=true->(aB.number p.1).1=N
def NF (M:ay):Prop:=∀ p∈M.now,(aB.number p.1).2=false
def DX (C:List (List aI)):List Use:=(List.range' 0 C.length).map λj:Nat=>⟨(j:Int),((mag++encs (C.getD j [])).length:Int),0⟩
structure IV (C0:List (List aI)) (N:Int) (us:List Use) (pl:List (Bs×aV)):Prop where
 last:N=(C0.length:Int)-1
 kv:∃ kv,Tab.Lists (ledger (gG 0 C0)) kv/\(∀ q∈kv,q.1.length=32)/\us=(DX C0).map (upd kv)/\pl=puts kv
 ends:C0=[]\/∃ es,C0[C0.length-1]?=some es/\mJ es=true
section
variable {K r E B n r0 B0:Nat}{L:Log}{M M':ay}{C C0:List (List aI)}{N:Int}{us:List Use}{pl:List (Bs×aV)}
theorem HF.apart (h:HF M N pl us) (a:Apart M M') (g:aB.Grown M M') (h1:0<=N) (h2:N<1048576):HF M' N pl us:=
 ⟨(a _ λk e=>aB.Lj k N h1 h2 e.symm).trans h.one,(a _ λk e=>aB.Ll k N h1 h2 e.symm).trans h.two,λp hp hn=>by
  rcases g p hp with q|⟨k,q⟩
  ·exact h.num p q hn
  ·rw [q,aB.yK]at hn;cases hn⟩
theorem NF.apart (h:NF M) (g:aB.Grown M M'):NF M':=λp hp=>by
 rcases g p hp with q|⟨k,q⟩
 ·exact h p q
 ·rw [q,aB.yK]
theorem HG.uses (h:HG K r E B n L M C):jR (λs=>L.bytes M s) L.aF=DX C:=by
 rw [h.ns];unfold jR DX;rw [aeW];refine akU λj hj=>?_;have hl:j<C.length:=by have:=List.mem_range'.1 hj;omega
 have e:=h.bytes (aay hl);simp only [Function.comp_apply,e];rw [adT,aay hl]
 rfl
end
end Go.Seg
namespace Go.Proofs.Y
open Go.ay
section
variable {ps pn B B0 n:Nat}{C:List (List aj.aI)}{mp:aj.Bs->Option Seg.aV}
theorem alT (h:Sat w0 w (aY r m seg p ps pn false::F)):Calls prog 22 #[ptr r] w (aP λv w'=>v=errno 0/\w=w'):=by
 have e5:w.cell? ⟨r,5,none⟩=some (.bool false):=h.cellAt 5 _ rfl;have hok:=nZ h;clear h;go_enter func22,ntmps22;go_wp2_with fail;refine hok.mono ?_;rintro ee w1 ⟨v,rfl,rfl,rfl⟩;go_wp2;go_ret;exact ⟨_,rfl,rfl,rfl⟩
theorem alV (hL:L.Ok) (hM:M.Ok K) (kR:K+6<=1099511627776) (hH:Ro w0 F Half) (hz:(L.commit M).2.2≠0) (h:Sat w0 w (aY r m seg p ps pn true::aK p m L::aJ m M::F)) :
  Calls prog 22 #[ptr r] w (aP λv w'=>v=errno (L.commit M).2.2/\Sat w0 w' (aY r m seg p ps pn true::aK p m (L.commit M).1.1::aJ m (L.commit M).1.2::F)):=by
 have hcm:=JR (Ro.os hH) hL hM kR (h.sb:Sat w0 w (aK p m L::aJ m M::aY r m seg p ps pn true::F));generalize L.commit M=q at *
 obtain ⟨⟨L2,M2⟩,n2,e2⟩:=q;dsimp only at hcm hz ⊢;have hb:(e2 != 0)=true:=afZ.2 hz;have e5:w.cell? ⟨r,5,none⟩=some (.bool true):=h.cellAt 5 _ rfl;have e2':w.cell? ⟨r,2,none⟩=some (.pointer (some ⟨p,0,none⟩)):=h.cellAt 2 _ rfl;have hok:=nZ h;clear h hz hL hM kR hH;go_enter func22,ntmps22;go_wp2_with fail;refine hok.mono ?_;rintro ee w1 ⟨v,rfl,rfl,rfl⟩;go_wp2_with fail;refine hcm.mono ?_;rintro ee w2 ⟨v,rfl,rfl,h2⟩;clear hcm e5 e2';go_wp2_with fail;go_ret;exact ⟨_,rfl,rfl,h2.sb⟩
structure UM (K r0 E B0 n:Nat) (L:Seg.Log) (M:ay) (C C2:List (List aj.aI)) (N:Int) (us:List Rep.Use) (pl:List (aj.Bs×Seg.aV)) (B2:Nat):Prop where
 rp:Seg.Rp K r0 E B0 n L M C2
 row:∃ row,Rep.gG 0 C2=Rep.gG 0 C++[row]/\row.2.e=Seg.bC
 flat:C2.flatten=C.flatten++[Seg.bC]
 ends:∃ es,C2≠[]/\C2[C2.length-1]?=some es/\Rep.mJ es=true
 off:L.on=false
 last:N=(C2.length:Int)-1
 hint:Seg.kJ L C2.length us pl
 len:B2<=n/\us.length<=n/\pl.length<=n
 now:Tab.mapOf pl=Rep.dO (Rep.gG 0 C2)
 st:Seg.IV C2 N us pl
theorem acd (hR:Seg.Rp K r0 E B0 n L M C) (hn:n<=200) (hE:E<=200) (hK:K<=1048576) (hz:(L.append M Seg.bC).2.2=0) (hH:Ro w0 F Half) (h:Sat w0 w (aY r m seg p ps pn true::aH pn mp B::aK p m L::aJ m M::F)) :
  Calls prog 22 #[ptr r] w (aP λv w'=>∃ (ps' pi B2:Nat) (uv tv:Value) (N:Int) (us:List Rep.Use) (pl:List (aj.Bs×Seg.aV)) (M3:ay) (C2:List (List aj.aI)) (b:Nat),v=errno 0/\(UM (K+605) r0 (E+2) (B0+b) (n+1) (L.commit M).1.1 M3 C C2 N us pl B2/\(b<=40+56*(n+1)/\((n+1)*400+B0+b<=r0->Seg.HF M3 N pl us))/\∃ a c,tv=.slice a 0 c) /\
   Sat w0 w' (aY r m seg p ps' pn false::cO ps' N pi uv tv::aH pi (Tab.mapOf pl) B2::aC 45 3 uv (us.flatMap bG)::aH pn mp B::aK p m (L.commit M).1.1::aJ m M3::F)):=by
 obtain ⟨z1,z2,C2,z3,z4,z5,z6⟩:=hR.commit oQ hz;have hcm:=JR (Ro.os hH) hR.hg.keeps.log hR.hg.keeps.calm.ok oQ (h.sb:Sat w0 w (aK p m L::aJ m M::aY r m seg p ps pn true::aH pn mp B::F));generalize L.commit M=q at *
 obtain ⟨⟨L2,M2⟩,n2,e2⟩:=q;dsimp only at hcm z1 z2 z3 ⊢;subst z1;have e5:w.cell? ⟨r,5,none⟩=some (.bool true):=h.cellAt 5 _ rfl;have e2':w.cell? ⟨r,2,none⟩=some (.pointer (some ⟨p,0,none⟩)):=h.cellAt 2 _ rfl;have hok:=nZ h;have R2:=uQ z3;have Z2:=uQ z2;have Z4:=uQ z4;have Z5:=uQ z5;have Z6:=uQ z6;have HH:=uQ hH;have Hn:=uQ hn;have HE:=uQ hE;have HK:=uQ hK;clear h hz hR hn hE hK hH z2 z3 z4 z5 z6;go_enter func22,ntmps22;go_wp2_with fail;refine hok.mono ?_;rintro ee w1 ⟨v,rfl,rfl,rfl⟩;go_wp2_with fail;refine hcm.mono ?_;rintro ee w2 ⟨v,rfl,rfl,h2⟩;clear hcm hok e5 e2';go_wp2_with (with_reducible apply dh);refine ⟨gq (cs':=#[ptr m,.int .i64 seg,ptr p,ptr ps,ptr pn,.bool false]) (h2.sb:Sat w0 w2 (aY r m seg p ps pn true::aK p m L2::aJ m M2::aH pn mp B::F)) ah ah ah cZ bI au ah ?_⟩;intro w3 h3;clear h2
 have e2':w3.cell? ⟨r,2,none⟩=some (.pointer (some ⟨p,0,none⟩)):=h3.cellAt 2 _ rfl;have HL:=uQ R2.o.hg.keeps.log;have HC:=uQ R2.o.hg.keeps.calm;have hrn:=KY HL.o HC.o.ok (Ro.os HH.o) (adt R2.o.jy yH0) R2.o.KX (h3.sb:Sat w0 w3 (aK p m L2::aJ m M2::aY r m seg p ps pn false::aH pn mp B::F));clear h3;go_wp2_with fail;refine hrn.mono ?_;rintro ee w5 ⟨v,rfl,ho⟩;clear hrn e2';obtain ⟨hrun,hsl,hpos,htk,hlast⟩:=R2.o.run Z6.o;have hrun':Rep.run (dF L2 M2) L2.aF=.inr C2.length:=hrun;unfold uS at ho;rw [hrun']at ho;obtain ⟨ps',pi,uv,tv,av,kv,rfl,⟨hk1,hk3,hk4⟩,⟨⟨ta,tc,rfl⟩,rF⟩,h5⟩:=ho;rw [htk]at hk1 hk4 h5;rw [hlast,hsl,ajN]at h5;clear rF;have hcn:C2.length<=n+1:=R2.o.hg.count;have hkn:kv.length<=n+1:=adt hk4 R2.o.jy;have xK:=uQ (show Seg.kJ L2 C2.length ((Rep.jR (dF L2 M2) L2.aF).map (Rep.upd kv)) (Rep.puts kv) from R2.o.hint hk1 hk3)
 have nD:=uQ (show Seg.IV C2 ((C2.length:Int)-1) ((Rep.jR (dF L2 M2) L2.aF).map (Rep.upd kv)) (Rep.puts kv) from by
  refine ⟨rfl,⟨kv,?_,hk3,?_,rfl⟩,.inr (Z6.o.imp λes q=>q.2)⟩
  ·have e:=R2.o.rows;have hk:=hk1;rw [show Rep.rowsOf (dF L2 M2) L2.aF=Rep.gG 0 C2 from e]at hk;exact hk
  ·rw [show Rep.jR (dF L2 M2) L2.aF=Seg.DX C2 from R2.o.hg.uses])
 have BM:=uQ (show Tab.mapOf (Rep.puts kv)=Rep.dO (Rep.gG 0 C2) by rw [Rep.KH hk1];exact aey Rep.dO R2.o.rows);have Hpl:=uQ (show (Rep.puts kv).length<=n+1 from adt (by unfold Rep.puts;rw [aa4];exact aeT _ _) hkn);have mG:=uQ hkn;have nP:=uQ (show ((Rep.jR (dF L2 M2) L2.aF).map (Rep.upd kv)).length<=n+1 by unfold Rep.jR;rw [aa4,aa4,hsl];exact hcn);have zB:=uQ (show Tab.Lists (Tab.mapOf (Rep.puts kv)) (Rep.puts kv) from Tab.J4 (Rep.Dp hk1.rise));have xJ:=uQ hpos;have Hcn:=uQ hcn;clear hrun hrun' hk1 hk3 hk4 hlast hsl hpos htk hcn hkn;generalize (Rep.jR (dF L2 M2) L2.aF).map (Rep.upd kv)=us at *
 generalize kv.length=B2 at *
 generalize Rep.puts kv=pl at *
 have rW:=uQ (aB.kJ.idx xK.o HL.o (by have:=Hpl.o;have:=Hn.o;omega));have rX:=uQ (aB.kJ.uses xK.o HL.o (by have:=nP.o;have:=Hn.o;omega))
 have HB:=uQ (show (aT.book Xx.sum aT.qL true (pl.map Rep.ji)).length+(aT.book Xx.sum aT.qM false (us.map Rep.jl)).length<=40+56*(n+1) by
  rw [aT.x8 (k:=3) rfl rW.o.row,aT.x8 (k:=3) rfl rX.o.row,aa4,aa4,show aT.jL true 3=44 from rfl,show aT.jL false 3=12 from rfl];have:=Hpl.o;have:=nP.o;omega)
 have HN:=uQ (show 0<=(C2.length:Int)-1/\(C2.length:Int)-1<1048576 by have:=xJ.o;have:=Hcn.o;have:=Hn.o;omega);obtain ⟨N,hN⟩:∃ N,N=(C2.length:Int)-1:=⟨_,rfl⟩;rw [<-hN]at h5;have UO:=uQ hN;rw [<-hN]at HN nD;clear hN;go_wp2_with (with_reducible apply fB);refine ⟨eF nO h5 rfl ?_⟩;intro b10 w6 h6;clear h5;go_wp2_with (with_reducible apply dh);refine ⟨fP (dP Rep.dJ.zero) h6 ah ah ah cZ au ah ?_⟩;intro w7 h7;clear h6;go_wp2_with (with_reducible apply dh);refine ⟨gq (cs':=#[ptr m,.int .i64 seg,ptr p,ptr ps',ptr pn,.bool false]) (h7.sb:Sat w0 w7 (aY r m seg p ps pn false::cO ps' N pi uv (.slice ta 0 tc)::aH pi (Tab.mapOf pl) B2::aC 45 3 uv (us.flatMap bG)::aH pn mp B::aK p m L2::aJ m M2::F)) ah ah ah cZ bI au ah ?_⟩;intro w8 h8;clear h7;obtain ⟨bi,hbi⟩:∃ bi,bi=aT.book Xx.sum aT.qL true (pl.map Rep.ji):=⟨_,rfl⟩
 obtain ⟨bu,hbu⟩:∃ bu,bu=aT.book Xx.sum aT.qM false (us.map Rep.jl):=⟨_,rfl⟩;have hB:=HB.o;rw [<-hbi,<-hbu]at hB;obtain ⟨s1,s2,s3⟩:=R2.o.save (by have:=Hn.o;have:=HE.o;omega) HN.o.1 HN.o.2 bi bu
 have hsv:=P9 HC.o.ok (by have:=HK.o;omega) HN.o.1 HN.o.2 pl zB.o (by have:=mG.o;have:=Hn.o;omega) xK.o.key us rW.o rX.o bi bu hbi hbu s3
  (h8.sb:Sat w0 w8 (cO ps' N pi uv (.slice ta 0 tc)::aH pi (Tab.mapOf pl) B2::aC 45 3 uv (us.flatMap bG)::aJ m M2::aY r m seg p ps' pn false::aH pn mp B::aK p m L2::F))
 have e0':w8.cell? ⟨r,0,none⟩=some (ptr m):=h8.cellAt 0 _ rfl;have s4:=aB.Gp (b1:=bi) (b2:=bu) R2.o.hg.keeps.calm R2.o.tmp (by have:=R2.o.hg.names;have:=Hn.o;have:=HE.o;omega) HN.o.1 HN.o.2;have hu2:=R2.o.hg.used;generalize aB.save M2 N bi bu=q at *
 obtain ⟨M3,e3⟩:=q;dsimp only at hsv s1 s2
 have Ir:=uQ (show bi.length+bu.length<=40+56*(n+1)/\((n+1)*400+B0+(bi.length+bu.length)<=r0->Seg.HF M3 N pl us) from ⟨hB,λhrm=>by
  have hz:=s4.room oQ;have hd:=s4.done.resolve_right (by simp only at hz ⊢;omega);refine ⟨by rw [<-hbi];exact hd.2.1,by rw [<-hbu];exact hd.2.2,λp hp hnm=>?_⟩;have:=s4.gone hz p hp;unfold aB.other at this;rw [hnm]at this;simpa using this⟩)
 have D7:=uQ (show UM (K+605) r0 (E+2) (B0+(bi.length+bu.length)) (n+1) L2 M3 C C2 N us pl B2 from ⟨s1.mono oQ (abl _) oQ (abl _),Z4.o,Z5.o,Z6.o,Z2.o,UO.o,xK.o,⟨mG.o,nP.o,Hpl.o⟩,BM.o,nD.o⟩);clear h8 s1 s3 s4 hu2 hB hbi hbu;go_wp2_with fail;refine hsv.mono ?_;rintro ee w9 ⟨v,rfl,rfl,h9⟩;clear hsv e0';rcases s2 with rfl|rfl
 ·go_wp2_with fail;go_ret;exact ⟨_,rfl,ps',pi,B2,uv,_,N,us,pl,M3,C2,_,rfl,⟨D7.o,Ir.o,ta,tc,rfl⟩,h9.sb⟩
 ·go_wp2_with fail;go_ret;exact ⟨_,rfl,ps',pi,B2,uv,_,N,us,pl,M3,C2,_,rfl,⟨D7.o,Ir.o,ta,tc,rfl⟩,h9.sb⟩
end
theorem Lp {K:Nat}{M:ay} (h:M.Ok K) (ho:M.off=false):M.size ByteArray.empty=(0,9):=by
 have hn:bU M.now ByteArray.empty=none:=by
  cases hi:bU M.now ByteArray.empty with
  |none=>rfl
  |some i=>exact absurd rfl (h.ig.ne _ (jD hi))
 unfold ay.size;rw [ho,hn];rfl
section
variable {n:Nat}{o oc:aj.Bs->Option aj.Bs}{k:aj.Bs}
end
end Go.Proofs.Y
namespace Go.aB
open Go.ay
end Go.aB
namespace Go.Seg
open Go.ay
open Go.aj (Bs aI encs gu)
open Go.Rep
section
variable {K r E B n:Nat}{L:Log}{M M':ay}{C:List (List aI)}{N:Int}{us:List Use}{pl:List (Bs×aV)}
theorem NF.newest (h:NF M) (q:Quiet M):aB.newest M = -1:=by
 show aB.sH M.list (-1) = -1;rw [q.list];refine aB.J9 _ _ (aoZ _) (λt ht he=>?_) (.inl rfl);obtain ⟨p,hp,rfl⟩:=abL.1 ht;rw [h p hp]at he;cases he
theorem HF.newest (h:HF M N pl us) (q:Quiet M) (h1:0<=N) (h2:N<1048576):aB.newest M=N:=by
 show aB.sH M.list (-1)=N;rw [q.list];obtain ⟨i,hi⟩:=(aB.xU q).1 (aey Prod.snd h.one);refine aB.J9 _ _ oQ (λt ht he=>?_) (.inr ⟨_,abL.2 ⟨_,jD hi,rfl⟩,by rw [aB.um (.inl aB.yF) N h1 h2]⟩);obtain ⟨p,hp,rfl⟩:=abL.1 ht;exact h.num p hp he
theorem NF.there (h:NF M) (q:Quiet M) (h1:0<=N) (h2:N<1048576):aB.there M (aB.name aB.idx N)=false:=by
 cases hi:bU M.now (aB.name aB.idx N) with
 |none=>exact aB.TS q hi
 |some i=>
  have:=h _ (jD hi);rw [aB.um (.inl aB.yF) N h1 h2]at this;cases this
theorem HF.there (h:HF M N pl us) (q:Quiet M):aB.there M (aB.name aB.idx N)=true/\aB.there M (aB.name aB.use N)=true:=by
 obtain ⟨i,hi⟩:=(aB.xU q).1 (aey Prod.snd h.one);obtain ⟨j,hj⟩:=(aB.xU q).1 (aey Prod.snd h.two);exact ⟨aB.ac1 q hi,aB.ac1 q hj⟩
structure Lds (L:Log) (N:Int) (us:List Use) (pl:List (Bs×aV)):Prop where
 key:∀ q∈pl,q.1.length=32
 idx:aT.Ok 3 true (pl.map ji)
 uses:aT.Ok 3 false (us.map jl)
 fits:aB.fits L us N=true
 lies:∀ q∈pl,aB.lies q.2 (aB.sizes us)=true/\IntKind.i64.wrap (aB.sizes us q.2.seg-q.2.at_)=aB.sizes us q.2.seg-q.2.at_
 tail:(L.aF.filter λs=>decide (N<s))=[]
end
end Go.Seg
namespace Go.Proofs.Y
open Go.ay
section
variable {bm:Nat}{lv:Value}{f:Int->Int}
theorem ais (q:Seg.aV) (hb:IntKind.i64.wrap (f q.seg-q.at_)=f q.seg-q.at_) (h:Sat w0 w (jX bm f::F)) :
  Calls prog 153 #[.agg (aW q).toArray,.map (some bm)] w (aP λv w'=>v=.bool (aB.lies q f)/\Sat w0 w' (jX bm f::F)):=by
 have Hf:=uQ (show aB.lies q f=(decide (8<=q.at_) && (decide (41<=q.size) && decide (q.size<=f q.seg-q.at_))) from rfl);go_enter func153,ntmps153;go_wp2_with (with_reducible apply fD);refine ⟨fE h ah ah ?_⟩;intro b2 w2 h2;clear h;have e0:w2.cell? ⟨b2,0,none⟩=some (.int .i64 q.seg):=h2.cellP aU 0 rfl;have e1:w2.cell? ⟨b2,1,none⟩=some (.int .i64 q.at_):=h2.cellP aU 1 rfl;have e2:w2.cell? ⟨b2,2,none⟩=some (.int .i64 q.size):=h2.cellP aU 2 rfl;have hlk:=JK q.seg (h2.pick bf);by_cases c1:8<=q.at_
 ·by_cases c2:41<=q.size
  ·by_cases c3:q.size<=f q.seg-q.at_
   ·have Hr:=uQ (Hf.o.trans (by rw [aeb c1,aeb c2,aeb c3];rfl:_=true));go_wp2_with fail;go_ret;exact ⟨_,rfl,by rw [Hr.o];rfl,h2.drop⟩
   ·have Hr:=uQ (Hf.o.trans (by rw [aeb c1,aeb c2,ad2 c3];rfl:_=false));go_wp2_with fail;go_ret;exact ⟨_,rfl,by rw [Hr.o];rfl,h2.drop⟩
  ·have Hr:=uQ (Hf.o.trans (by rw [aeb c1,ad2 c2];rfl:_=false));clear e0 hlk;go_wp2_with fail;go_ret;exact ⟨_,rfl,by rw [Hr.o];rfl,h2.drop⟩
 ·have Hr:=uQ (Hf.o.trans (by rw [ad2 c1];rfl:_=false));clear e0 e2 hlk;go_wp2_with fail;go_ret;exact ⟨_,rfl,by rw [Hr.o];rfl,h2.drop⟩
theorem ain {sz:Int->Int}{us:List Rep.Use}{ss:List Int}{i:Nat}{s:Int} (h:ss[i]?=some s):aB.uV sz n us (ss.drop i) i=(if n<s then aB.fin n us i else match us[i]? with
  |none=>false
  |some u=>if aB.Js sz s u=true then aB.uV sz n us (ss.drop (i+1)) (i+1) else false):=by
 obtain ⟨hi,rfl⟩:=abm.1 h;rw [ah3 hi]
 rfl
theorem ail (us:List Rep.Use) (rG:us.length<=1073741824) (hL:L.Ok) (hr:Ro w0 F (bF 3 lv (us.flatMap bG))) (h:Sat w0 w (aK p m L::F)) :
  Calls prog 152 #[ptr p,lv,.int .i64 n] w (aP λv w'=>v=.bool (aB.fits L us n)/\Sat w0 w' (aK p m L::F)):=by
 obtain ⟨la,lc,rfl⟩:=jK (λu _=>vP u) (hr w h.drop) aN;have hse:=FV hL h;have uP:=uQ (show L.aF.length<=1073741824 from by unfold Seg.Log.aF;rw [aa4];have:=hL.len;omega);have MO:=uQ (λ(w':World) (R:List aG) (hw:Sat w0 w' (aK p m L::R))=>λ(s:Int)=>ajK hL s hw);have Hr:=uQ hr;have nP:=uQ rG;have HW0:=uQ (show aB.uV L.size n us (L.aF.drop 0) 0=aB.fits L us n from rfl);generalize aB.fits L us n=W at *
 clear hr rG hL;go_enter func152,ntmps152;go_wp2_with fail;refine hse.mono ?_;rintro ee w1 ⟨v,rfl,h1⟩;clear hse h;obtain ⟨sa,sc,rfl⟩:=FI (Sat.rd h1);go_wp2_with fail
 go_loopg [7,13] L.aF.length (λg kq iq wr=>∃ i:Nat,g=L.aF.length-i/\i<=L.aF.length/\kq=.int .i64 i/\iq=.int .i64 i/\aB.uV L.size n us (L.aF.drop i) i=W/\Sat w0 wr (aC 3 1 (.slice sa L.aF.length sc) (ints L.aF)::aK p m L::F))
 case atStart=>exact ⟨0,rfl,aea _,rfl,rfl,HW0.o,h1⟩
 case round=>
  obtain ⟨i,rfl,hi,rfl,rfl,hW,hS⟩:=hrel;clear h1 HW0;by_cases hlt:i<L.aF.length;rotate_left
  ·as_aux_lemma=>
   have c1:¬ (i:Int)<(L.aF.length:Int):=oQ;have HW:=uQ (show W=aB.fin n us i from by rw [aew oQ]at hW;exact hW.symm);clear hW hlt hi;by_cases e1:i=us.length;rotate_left
   ·have hb:((i:Int)==(us.length:Int))=false:=by rw [adX];omega
    have Hr:=uQ (HW.o.trans (by unfold aB.fin;rw [ad2 e1];rfl:_=false));clear e1;go_wp2_with fail;go_ret;exact ⟨_,rfl,by rw [Hr.o];rfl,hS.drop⟩
   ·rcases i with _|k
    ·have hb:((0:Int)==(us.length:Int))=true:=by rw [ai5];omega
     have hbz:¬ (0:Int)<0:=by decide
     (try have aiE:=(show wr.cell? ⟨sb,so,none⟩=some (.int .i64 s) from hsc))
     (try have c10:(0:Int)<(L.aF.length:Int):=c1)
     have Hr:=uQ (HW.o.trans (by unfold aB.fin;rw [aeb e1];rfl:_=false));clear e1;go_wp2_with fail;go_ret;exact ⟨_,rfl,by rw [Hr.o];rfl,hS.drop⟩
    ·have hb:((k:Int)+1==(us.length:Int))=true:=by rw [ai5];omega
     have ck:k<us.length:=oQ;have hck:(k:Int)<(us.length:Int):=oQ;have hc0:(0:Int)<(k:Int)+1:=oQ;have hwk:IntKind.i64.wrap ((k:Int)+1-1)=(k:Int):=by rw [Int.add_sub_cancel];exact adr _ (by have:=nP.o;omega)
     have aiL:IntKind.i64.wrap (k:Int)=(k:Int):=adr _ (by have:=nP.o;omega);obtain ⟨u,hu⟩:∃ u,us[k]?=some u:=⟨_,aay ck⟩;have hgd:us.getD k ⟨0,0,0⟩=u:=by rw [adT,hu];rfl
     obtain ⟨bk,off,c',hsv,hcell⟩:=jd (f:=bG) (k:=3) (λu _=>rfl) (Hr.o _ hS.drop.drop) hu aN;cases hsv;have e0:=hcell 0 _ rfl;rw [ai6]at e0;by_cases c2:u.seg=n
     ·have pO:=uQ (HW.o.trans (by unfold aB.fin;rw [aeb e1,ao8,hgd,aeb c2,aeb (Nat.succ_pos k)];rfl:_=true));have hb2:(u.seg==n)=true:=ai5.2 c2;clear e1 c2 hgd hu hcell ck;go_wp2_with fail;go_ret;exact ⟨_,rfl,by rw [pO.o];rfl,hS.drop⟩
     ·have pO:=uQ (HW.o.trans (by unfold aB.fin;rw [aeb e1,ao8,hgd,ad2 c2,aeb (Nat.succ_pos k)];rfl:_=false));have hb2:(u.seg==n)=false:=adX.2 c2;clear e1 c2 hgd hu hcell ck;go_wp2_with fail;go_ret;exact ⟨_,rfl,by rw [pO.o];rfl,hS.drop⟩
  have c1:(i:Int)<(L.aF.length:Int):=oQ;have hwi:IntKind.i64.wrap ((i:Int)+1)=(i:Int)+1:=adr _ (by have:=uP.o;omega);obtain ⟨s,hs⟩:∃ s,L.aF[i]?=some s:=⟨_,aay hlt⟩;obtain ⟨sb,so,scc,hsv,hsc⟩:=tY (Sat.rd hS) hs;cases hsv;have hstep:=ain (n:=n) (sz:=L.size) (us:=us) hs;rw [hW]at hstep;have bT:=uQ hlt;clear hW hs hlt hi;by_cases cn:n<s
  ·as_aux_lemma=>
   have HW:=uQ (show W=aB.fin n us i from by rw [acg cn]at hstep;exact hstep);clear hstep;by_cases e1:i=us.length;rotate_left
   ·have hb:((i:Int)==(us.length:Int))=false:=by rw [adX];omega
    have Hr:=uQ (HW.o.trans (by unfold aB.fin;rw [ad2 e1];rfl:_=false));clear e1;go_wp2_with fail;go_ret;exact ⟨_,rfl,by rw [Hr.o];rfl,hS.drop⟩
   ·rcases i with _|k
    ·have hb:((0:Int)==(us.length:Int))=true:=by rw [ai5];omega
     have hbz:¬ (0:Int)<0:=by decide
     (try have aiE:=(show wr.cell? ⟨sb,so,none⟩=some (.int .i64 s) from hsc))
     (try have c10:(0:Int)<(L.aF.length:Int):=c1)
     have Hr:=uQ (HW.o.trans (by unfold aB.fin;rw [aeb e1];rfl:_=false));clear e1;go_wp2_with fail;go_ret;exact ⟨_,rfl,by rw [Hr.o];rfl,hS.drop⟩
    ·have hb:((k:Int)+1==(us.length:Int))=true:=by rw [ai5];omega
     have ck:k<us.length:=oQ;have hck:(k:Int)<(us.length:Int):=oQ;have hc0:(0:Int)<(k:Int)+1:=oQ;have hwk:IntKind.i64.wrap ((k:Int)+1-1)=(k:Int):=by rw [Int.add_sub_cancel];exact adr _ (by have:=nP.o;omega)
     have aiL:IntKind.i64.wrap (k:Int)=(k:Int):=adr _ (by have:=nP.o;omega);obtain ⟨u,hu⟩:∃ u,us[k]?=some u:=⟨_,aay ck⟩;have hgd:us.getD k ⟨0,0,0⟩=u:=by rw [adT,hu];rfl
     obtain ⟨bk,off,c',hsv,hcell⟩:=jd (f:=bG) (k:=3) (λu _=>rfl) (Hr.o _ hS.drop.drop) hu aN;cases hsv;have e0:=hcell 0 _ rfl;rw [ai6]at e0;by_cases c2:u.seg=n
     ·have pO:=uQ (HW.o.trans (by unfold aB.fin;rw [aeb e1,ao8,hgd,aeb c2,aeb (Nat.succ_pos k)];rfl:_=true));have hb2:(u.seg==n)=true:=ai5.2 c2;clear e1 c2 hgd hu hcell ck;go_wp2_with fail;go_ret;exact ⟨_,rfl,by rw [pO.o];rfl,hS.drop⟩
     ·have pO:=uQ (HW.o.trans (by unfold aB.fin;rw [aeb e1,ao8,hgd,ad2 c2,aeb (Nat.succ_pos k)];rfl:_=false));have hb2:(u.seg==n)=false:=adX.2 c2;clear e1 c2 hgd hu hcell ck;go_wp2_with fail;go_ret;exact ⟨_,rfl,by rw [pO.o];rfl,hS.drop⟩
  rw [abj cn]at hstep;by_cases hu:i<us.length;rotate_left
  ·as_aux_lemma=>
   have pO:=uQ (show W=false from by rw [aiH oQ]at hstep;exact hstep);have cu:(us.length:Int)<=(i:Int):=oQ;have Xj:us.length<=i:=oQ;clear hstep hu;go_wp2_with fail;have hSd:=hS.drew;have hG:True:=trivial;refine dN [35,36] (λw'=>True) au ?_;refine rP 0 ?_ (y:=aZ);refine rP 1 ?_ (y:=aZ);refine rP 2 ?_ (y:=(qU ak dw));refine rP 3 ?_ (y:=jH);refine rP 4 ?_ (y:=aZ);refine eu 5 ak au bV ah gQ ?_;refine eu 6 ak au bV ah gQ ?_;refine eu 7 ak au bV ah gQ ?_;refine eu 8 ak au bV ah gQ ?_;refine eu 9 ak au bV ah gQ ?_;refine eu 10 ak au bV ah gQ ?_;refine eu 11 ak au bV ah gQ ?_;refine rP 12 ?_ (y:=(nC ah ak ak));refine rP 13 ?_ (y:=aZ);refine eu 14 ak au bV ah gQ ?_;refine eu 15 ak au bV ah gQ ?_;refine eu 16 ak au bV ah gQ ?_;refine eu 17 ak au bV ah gQ ?_;refine eu 18 ak au bV ah gQ ?_;refine eu 19 ak au bV ah gQ ?_;refine eu 20 ak au bV ah gQ ?_;refine eu 21 ak au bV ah gQ ?_
   refine eu 22 ak au bV ah gQ ?_;refine rP 23 ?_ (y:=(nC ah ak ak));refine rP 24 ?_ (y:=aZ);refine eu 25 ak au bV ah gQ ?_;refine eu 26 ak au bV ah gQ ?_;refine eu 27 ak au bV ah gQ ?_;refine eu 28 ak au bV ah gQ ?_;refine eu 29 ak au bV ah gQ ?_;refine eu 30 ak au bV ah gQ ?_;refine eu 31 ak au bV ah gQ ?_;refine eu 32 ak au bV ah gQ ?_;refine eu 33 ak au bV ah gQ ?_;refine eu 34 ak au bV ah gQ ?_;refine eu 35 ak au bV ah gQ ?_;refine rP 36 ?_ (y:=(nC ah ak ak));refine dH au ?_
   try simp only [kP]
   try go_frame
   go_wp2_with fail;go_ret;exact ⟨_,rfl,by rw [pO.o];rfl,hSd.drop⟩
  have cu:¬ (us.length:Int)<=(i:Int):=oQ;have Xj:¬ us.length<=i:=oQ;have cuD:decide (us.length<=i)=false:=ad2 Xj;have ao9:decide ((us.length:Int)<=(i:Int))=false:=ad2 cu;have cu2:(i:Int)<(us.length:Int):=oQ;obtain ⟨u,hx⟩:∃ u,us[i]?=some u:=⟨_,aay hu⟩;rw [hx]at hstep;dsimp only at hstep;obtain ⟨bk,off,c',hlv,hcell⟩:=jd (f:=bG) (k:=3) (λu _=>rfl) (Hr.o _ hS.drop.drop) hx aN;cases hlv
  have HG:=uQ (λ(w':World) (hw:Sat w0 w' (aC 3 1 (.slice (some ⟨sb,so,none⟩) L.aF.length sc) (ints L.aF)::aK p m L::F))=>show w'.cell? ⟨bk,off+i*3,none⟩=some (.int .i64 u.seg)/\w'.cell? ⟨bk,off+i*3+1,none⟩=some (.int .i64 u.size)/\w'.cell? ⟨bk,off+i*3+2,none⟩=some (.int .i64 u.live) from by
   obtain ⟨_,_,_,e,hc⟩:=jd (f:=bG) (k:=3) (λu _=>rfl) (Hr.o _ hw.drop.drop) hx aN;cases e;exact ⟨hc 0 _ rfl,hc 1 _ rfl,hc 2 _ rfl⟩)
  have hfu:aB.Js L.size s u=(decide (u.seg=s) && (decide (u.size=L.size s) && decide (u.live<=u.size))):=rfl;clear hcell hx hu;by_cases c2:u.seg=s;rotate_left
  ·as_aux_lemma=>
   have pO:=uQ (show W=false from by rw [hfu,ad2 c2]at hstep;exact hstep);have hb:(u.seg != s)=true:=afZ.2 c2;clear hstep hfu c2;go_wp2_with fail;have hSd:=hS.drew;refine dN [35,36] (λw'=>w'.cell? ⟨bk,off+i*3,none⟩=some (.int .i64 u.seg)/\w'.cell? ⟨bk,off+i*3+1,none⟩=some (.int .i64 u.size)/\w'.cell? ⟨bk,off+i*3+2,none⟩=some (.int .i64 u.live)) au ?_;have hG:=HG.o _ hSd;refine rP 0 ?_ (y:=aZ);refine rP 1 ?_ (y:=aZ);refine rP 2 ?_ (y:=(qU ak dw));refine rP 3 ?_ (y:=jH);refine rP 4 ?_ (y:=aZ);refine rP 5 ?_ (y:=(iU ah ak));refine rP 6 ?_ (y:=(iU ah ak));refine rP 7 ?_ (y:=(rU ah ak ak dw));refine rP 8 ?_ (y:=(o8 ah ak dw));refine gK 9 ak au bV (o7 ah ak au yC0) aQ gQ ?_;refine rP 10 ?_ (y:=(iU ah ak));refine rP 11 ?_ (y:=(rO ah ak ak dw));refine rP 12 ?_ (y:=(nC ah ak ak));refine rP 13 ?_ (y:=aZ);refine eu 14 ak au bV ah gQ ?_;refine eu 15 ak au bV ah gQ ?_
   refine eu 16 ak au bV ah gQ ?_;refine eu 17 ak au bV ah gQ ?_;refine eu 18 ak au bV ah gQ ?_;refine eu 19 ak au bV ah gQ ?_;refine eu 20 ak au bV ah gQ ?_;refine eu 21 ak au bV ah gQ ?_;refine eu 22 ak au bV ah gQ ?_;refine rP 23 ?_ (y:=(nC ah ak ak));refine rP 24 ?_ (y:=aZ);refine eu 25 ak au bV ah gQ ?_;refine eu 26 ak au bV ah gQ ?_;refine eu 27 ak au bV ah gQ ?_;refine eu 28 ak au bV ah gQ ?_;refine eu 29 ak au bV ah gQ ?_;refine eu 30 ak au bV ah gQ ?_;refine eu 31 ak au bV ah gQ ?_;refine eu 32 ak au bV ah gQ ?_;refine eu 33 ak au bV ah gQ ?_;refine eu 34 ak au bV ah gQ ?_;refine eu 35 ak au bV ah gQ ?_;clear hG;refine rP 36 ?_ (y:=(nC ah ak ak));refine dH au ?_
   try simp only [kP]
   try go_frame
   go_wp2_with fail;go_ret;exact ⟨_,rfl,by rw [pO.o];rfl,hSd.drop⟩
  have hb1:(u.seg != s)=false:=by rw [c2];exact bne_self_eq_false ..
  rw [aeb c2,apV]at hfu;clear c2;by_cases c3:u.size=L.size s;rotate_left
  ·as_aux_lemma=>
   have pO:=uQ (show W=false from by rw [hfu,ad2 c3]at hstep;exact hstep);have hb:(u.size != L.size s)=true:=afZ.2 c3;clear hstep hfu c3;go_wp2_with fail;have hSd:=hS.drew;refine dN [35,36] (λw'=>w'.cell? ⟨bk,off+i*3,none⟩=some (.int .i64 u.seg)/\w'.cell? ⟨bk,off+i*3+1,none⟩=some (.int .i64 u.size)/\w'.cell? ⟨bk,off+i*3+2,none⟩=some (.int .i64 u.live)) au ?_;have hG:=HG.o _ hSd;refine rP 0 ?_ (y:=aZ);refine rP 1 ?_ (y:=aZ);refine rP 2 ?_ (y:=(qU ak dw));refine rP 3 ?_ (y:=jH);refine rP 4 ?_ (y:=aZ);refine rP 5 ?_ (y:=(iU ah ak));refine rP 6 ?_ (y:=(iU ah ak));refine rP 7 ?_ (y:=(rU ah ak ak dw));refine rP 8 ?_ (y:=(o8 ah ak dw));refine gK 9 ak au bV (o7 ah ak au yC0) aQ gQ ?_;refine rP 10 ?_ (y:=(iU ah ak));refine rP 11 ?_ (y:=(rO ah ak ak dw));refine rP 12 ?_ (y:=(nC ah ak ak));refine rP 13 ?_ (y:=aZ);refine rP 14 ?_ (y:=(iU ah ak))
   refine rP 15 ?_ (y:=(iU ah ak));refine rP 16 ?_ (y:=(rU ah ak ak dw));refine rP 17 ?_ (y:=(o8 ah ak dw));refine gK 18 ak au bV (o7 ah ak au yC0) aQ gQ ?_;refine rP 19 ?_ (y:=(iU ah ak));refine rP 20 ?_ (y:=(iU ah ak));refine bW 21 ak au (λK hK=>?_);refine EP [ptr p,.int .i64 s] ah au ah ?_;refine (MO.o _ _ (hSd.sb:Sat w0 _ (aK p m L::aC 3 1 (.slice (some ⟨sb,so,none⟩) L.aF.length sc) (ints L.aF)::F)) s).mono ?_;rintro e uK ⟨v,rfl,rfl,h22⟩;have h23:Sat w0 uK (aC 3 1 (.slice (some ⟨sb,so,none⟩) L.aF.length sc) (ints L.aF)::aK p m L::F):=h22.sb;refine hK _ _ (.inr (.inl (HG.o _ h23))) ?_;clear hK hSd;generalize L.size s=z at *
   refine rP 22 ?_ (y:=(rO ah ak ak dw));refine rP 23 ?_ (y:=(nC ah ak ak));refine rP 24 ?_ (y:=aZ);refine eu 25 ak au bV ah gQ ?_;refine eu 26 ak au bV ah gQ ?_;refine eu 27 ak au bV ah gQ ?_;refine eu 28 ak au bV ah gQ ?_;refine eu 29 ak au bV ah gQ ?_;refine eu 30 ak au bV ah gQ ?_;refine eu 31 ak au bV ah gQ ?_;refine eu 32 ak au bV ah gQ ?_;refine eu 33 ak au bV ah gQ ?_;refine eu 34 ak au bV ah gQ ?_;refine eu 35 ak au bV ah gQ ?_;refine rP 36 ?_ (y:=(nC ah ak ak));refine dH au ?_
   try simp only [kP]
   try go_frame
   go_wp2_with fail;go_ret;exact ⟨_,rfl,by rw [pO.o];rfl,h23.drop⟩
  have hb2:(u.size != L.size s)=false:=by rw [c3];exact bne_self_eq_false ..
  rw [aeb c3,apV]at hfu;by_cases c4:u.live<=u.size;rotate_left
  ·as_aux_lemma=>
   have pO:=uQ (show W=false from by rw [hfu,ad2 c4]at hstep;exact hstep);have c5:u.size<u.live:=oQ;clear hstep hfu c3 c4;go_wp2_with fail;have hSd:=hS.drew;refine dN [35,36] (λw'=>w'.cell? ⟨bk,off+i*3,none⟩=some (.int .i64 u.seg)/\w'.cell? ⟨bk,off+i*3+1,none⟩=some (.int .i64 u.size)/\w'.cell? ⟨bk,off+i*3+2,none⟩=some (.int .i64 u.live)) au ?_;have hG:=HG.o _ hSd;refine rP 0 ?_ (y:=aZ);refine rP 1 ?_ (y:=aZ);refine rP 2 ?_ (y:=(qU ak dw));refine rP 3 ?_ (y:=jH);refine rP 4 ?_ (y:=aZ);refine rP 5 ?_ (y:=(iU ah ak));refine rP 6 ?_ (y:=(iU ah ak));refine rP 7 ?_ (y:=(rU ah ak ak dw));refine rP 8 ?_ (y:=(o8 ah ak dw));refine gK 9 ak au bV (o7 ah ak au yC0) aQ gQ ?_;refine rP 10 ?_ (y:=(iU ah ak));refine rP 11 ?_ (y:=(rO ah ak ak dw));refine rP 12 ?_ (y:=(nC ah ak ak));refine rP 13 ?_ (y:=aZ);refine rP 14 ?_ (y:=(iU ah ak));refine rP 15 ?_ (y:=(iU ah ak))
   refine rP 16 ?_ (y:=(rU ah ak ak dw));refine rP 17 ?_ (y:=(o8 ah ak dw));refine gK 18 ak au bV (o7 ah ak au yC0) aQ gQ ?_;refine rP 19 ?_ (y:=(iU ah ak));refine rP 20 ?_ (y:=(iU ah ak));refine bW 21 ak au (λK hK=>?_);refine EP [ptr p,.int .i64 s] ah au ah ?_;refine (MO.o _ _ (hSd.sb:Sat w0 _ (aK p m L::aC 3 1 (.slice (some ⟨sb,so,none⟩) L.aF.length sc) (ints L.aF)::F)) s).mono ?_;rintro e uK ⟨v,rfl,rfl,h22⟩;have h23:Sat w0 uK (aC 3 1 (.slice (some ⟨sb,so,none⟩) L.aF.length sc) (ints L.aF)::aK p m L::F):=h22.sb;refine hK _ _ (.inr (.inl (HG.o _ h23))) ?_;clear hK hSd;generalize L.size s=z at *
   have hG2:=HG.o _ h23;refine rP 22 ?_ (y:=(rO ah ak ak dw));refine rP 23 ?_ (y:=(nC ah ak ak));refine rP 24 ?_ (y:=aZ);refine rP 25 ?_ (y:=(iU ah ak));refine rP 26 ?_ (y:=(iU ah ak));refine rP 27 ?_ (y:=(rU ah ak ak dw));refine rP 28 ?_ (y:=(o8 ah ak dw));refine gK 29 ak au bV (o7 ah ak au yC0) aQ gQ ?_;refine rP 30 ?_ (y:=(iU ah ak));refine rP 31 ?_ (y:=(iU ah ak));refine rP 32 ?_ (y:=(rU ah ak ak dw));refine rP 33 ?_ (y:=(o8 ah ak dw));refine gK 34 ak au bV (o7 ah ak au yC0) aQ gQ ?_;clear hG hG2;refine rP 35 ?_ (y:=(rO ah ak ak dw));refine rP 36 ?_ (y:=(nC ah ak ak));refine dH au ?_
   try simp only [kP]
   try go_frame
   go_wp2_with fail;go_ret;exact ⟨_,rfl,by rw [pO.o];rfl,h23.drop⟩
  ·as_aux_lemma=>
   have HW:=uQ (show aB.uV L.size n us (L.aF.drop (i+1)) (i+1)=W from by rw [hfu,aeb c4]at hstep;exact hstep.symm);have c5:¬ u.size<u.live:=oQ;clear hstep hfu c3 c4;go_wp2_with fail;have hSd:=hS.drew;refine dN [35,36] (λw'=>w'.cell? ⟨bk,off+i*3,none⟩=some (.int .i64 u.seg)/\w'.cell? ⟨bk,off+i*3+1,none⟩=some (.int .i64 u.size)/\w'.cell? ⟨bk,off+i*3+2,none⟩=some (.int .i64 u.live)) au ?_;have hG:=HG.o _ hSd;refine rP 0 ?_ (y:=aZ);refine rP 1 ?_ (y:=aZ);refine rP 2 ?_ (y:=(qU ak dw));refine rP 3 ?_ (y:=jH);refine rP 4 ?_ (y:=aZ);refine rP 5 ?_ (y:=(iU ah ak));refine rP 6 ?_ (y:=(iU ah ak));refine rP 7 ?_ (y:=(rU ah ak ak dw));refine rP 8 ?_ (y:=(o8 ah ak dw));refine gK 9 ak au bV (o7 ah ak au yC0) aQ gQ ?_;refine rP 10 ?_ (y:=(iU ah ak));refine rP 11 ?_ (y:=(rO ah ak ak dw));refine rP 12 ?_ (y:=(nC ah ak ak));refine rP 13 ?_ (y:=aZ)
   refine rP 14 ?_ (y:=(iU ah ak));refine rP 15 ?_ (y:=(iU ah ak));refine rP 16 ?_ (y:=(rU ah ak ak dw));refine rP 17 ?_ (y:=(o8 ah ak dw));refine gK 18 ak au bV (o7 ah ak au yC0) aQ gQ ?_;refine rP 19 ?_ (y:=(iU ah ak));refine rP 20 ?_ (y:=(iU ah ak));refine bW 21 ak au (λK hK=>?_);refine EP [ptr p,.int .i64 s] ah au ah ?_;refine (MO.o _ _ (hSd.sb:Sat w0 _ (aK p m L::aC 3 1 (.slice (some ⟨sb,so,none⟩) L.aF.length sc) (ints L.aF)::F)) s).mono ?_;rintro e uK ⟨v,rfl,rfl,h22⟩;have h23:Sat w0 uK (aC 3 1 (.slice (some ⟨sb,so,none⟩) L.aF.length sc) (ints L.aF)::aK p m L::F):=h22.sb;refine hK _ _ (.inr (.inl (HG.o _ h23))) ?_;clear hK hSd;have hG2:=HG.o _ h23;refine rP 22 ?_ (y:=(rO ah ak ak dw));refine rP 23 ?_ (y:=(nC ah ak ak));refine rP 24 ?_ (y:=aZ);refine rP 25 ?_ (y:=(iU ah ak));refine rP 26 ?_ (y:=(iU ah ak));refine rP 27 ?_ (y:=(rU ah ak ak dw))
   refine rP 28 ?_ (y:=(o8 ah ak dw));refine gK 29 ak au bV (o7 ah ak au yC0) aQ gQ ?_;refine rP 30 ?_ (y:=(iU ah ak));refine rP 31 ?_ (y:=(iU ah ak));refine rP 32 ?_ (y:=(rU ah ak ak dw));refine rP 33 ?_ (y:=(o8 ah ak dw));refine gK 34 ak au bV (o7 ah ak au yC0) aQ gQ ?_;clear hG hG2;refine rP 35 ?_ (y:=(rO ah ak ak dw));refine rP 36 ?_ (y:=(nC ah ak ak));refine dH au ?_
   try simp only [kP]
   try go_frame
   go_wp2_with fail
   go_roundg (L.aF.length-(i+1))
   case measure=>have:=bT.o;omega
   case rel=>exact ⟨i+1,rfl,aec bT.o,by first|rfl|go_num,by first|rfl|go_num,HW.o,h23⟩
end
theorem Ze (hM:M.Ok K) (hz:M.size ByteArray.empty=(0,9)) (ht:aB.there M (aB.name aB.idx n)=false\/aB.there M (aB.name aB.use n)=false) (h:Sat w0 w (aJ m M::F)) :
  Calls prog 107 #[ptr p,ptr m,.int .i64 n] w (aP λv w'=>v=.tuple #[.pointer none,errno 9]/\Sat w0 w' (aJ m M::F)):=by
 have hsz:=Gt hM h ByteArray.empty;rw [hz]at hsz;have HM:=uQ hM;have Ht:=uQ ht;clear hM hz ht;go_enter func107,ntmps107;go_wp2_with fail;refine hsz.mono ?_;rintro e w1 ⟨v,rfl,rfl,rfl⟩;clear hsz;go_wp2_with fail;refine (JL n h).mono ?_;rintro e w2 ⟨v,rfl,rfl,h2⟩;clear h;have hth:=Fz HM.o (aB.name aB.idx n) h2;cases ht:aB.there M (aB.name aB.idx n) with
 |false=>
  rw [ht]at hth;clear ht;go_wp2_with fail;refine hth.mono ?_;rintro e w3 ⟨v,rfl,rfl,rfl⟩;clear hth;go_wp2_with fail
  go_ret2
  exact ⟨_,rfl,rfl,h2⟩
 |true=>
  rw [ht]at hth;have rZ:=uQ (Ht.o.resolve_left (by rw [ht];decide));clear ht;go_wp2_with fail;refine hth.mono ?_;rintro e w3 ⟨v,rfl,rfl,rfl⟩;clear hth;go_wp2_with fail;refine (LU n h2).mono ?_;rintro e w4 ⟨v,rfl,rfl,h4⟩;have CO:=Fz HM.o (aB.name aB.use n) h4;rw [rZ.o]at CO;go_wp2_with fail;refine CO.mono ?_;rintro e w5 ⟨v,rfl,rfl,rfl⟩;go_wp2_with fail
  go_ret2
  exact ⟨_,rfl,rfl,h4⟩
theorem ait (hL:L.Ok) (hM:M.Ok K) (hz:M.size ByteArray.empty=(0,9)) (ht1:aB.there M (aB.name aB.idx n)=true) (ht2:aB.there M (aB.name aB.use n)=true)
  (kv:List (aj.Bs×Seg.aV)) (hk:∀ q∈kv,q.1.length=32) (us:List Rep.Use) (hoi:aT.Ok 3 true (kv.map Rep.ji)) (hou:aT.Ok 3 false (us.map Rep.jl))
  (ha1:M.all (aB.name aB.idx n)=(aT.book Xx.sum aT.qL true (kv.map Rep.ji),0)) (ha2:M.all (aB.name aB.use n)=(aT.book Xx.sum aT.qM false (us.map Rep.jl),0))
  (hf:aB.fits L us n=true) (vg:∀ q∈kv,aB.lies q.2 (aB.sizes us)=true/\IntKind.i64.wrap (aB.sizes us q.2.seg-q.2.at_)=aB.sizes us q.2.seg-q.2.at_) (h:Sat w0 w (aK p m L::aJ m M::F)) :
  Calls prog 107 #[ptr p,ptr m,.int .i64 n] w (aP λv w'=>∃ (ps pi:Nat) (uv tv:Value),v=.tuple #[ptr ps,errno 0]/\Sat w0 w' (cO ps n pi uv tv::aH pi (Tab.mapOf kv) kv.length::aC 45 3 uv (us.flatMap bG)::aC 3 1 tv (ints (L.aF.filter λs=>decide (n<s)))::aK p m L::aJ m M::F)):=by
 have h0:Sat w0 w (aJ m M::aK p m L::F):=h.sb;have hsz:=Gt hM h0 ByteArray.empty;rw [hz]at hsz;have rG:us.length<=1073741824:=by have:=hou.len;rw [aa4]at this;omega
 have HM:=uQ hM;have IG:=uQ ht1;have rZ:=uQ ht2;have HL:=uQ hL;have Hk:=uQ hk;have rW:=uQ hoi;have rX:=uQ hou;have Ic:=uQ ha1;have Ie:=uQ ha2;have Hf:=uQ hf;have zB:=uQ vg;have mG:=uQ (show kv.length<=65536 by have:=hoi.len;rwa [aa4]at this);have nP:=uQ rG;clear hM hz ht1 ht2 hL hk hoi hou ha1 ha2 hf rG vg h;go_enter func107,ntmps107;go_wp2_with fail;refine hsz.mono ?_;rintro e w1 ⟨v,rfl,rfl,rfl⟩;clear hsz;go_wp2_with fail;refine (JL n h0).mono ?_;rintro e w2 ⟨v,rfl,rfl,h2⟩;clear h0;have hth:=Fz HM.o (aB.name aB.idx n) h2;rw [IG.o]at hth;go_wp2_with fail;refine hth.mono ?_;rintro e w3 ⟨v,rfl,rfl,rfl⟩;clear hth;go_wp2_with fail;refine (LU n h2).mono ?_;rintro e w4 ⟨v,rfl,rfl,h4⟩;clear h2;have CO:=Fz HM.o (aB.name aB.use n) h4;rw [rZ.o]at CO;go_wp2_with fail;refine CO.mono ?_;rintro e w5 ⟨v,rfl,rfl,rfl⟩;clear CO;go_wp2_with fail
 refine (JL n h4).mono ?_;rintro e w6 ⟨v,rfl,rfl,h6⟩;clear h4;have ha:=Ob HM.o h6 (aB.name aB.idx n);rw [Ic.o]at ha;go_wp2_with fail;refine ha.mono ?_;rintro e w7 ⟨v,rfl,bv,rfl,h7⟩;clear ha h6;go_wp2_with fail;refine (LU n h7).mono ?_;rintro e w8 ⟨v,rfl,rfl,h8⟩;clear h7;have h8':Sat w0 w8 (aJ m M::bQ bv (aT.book Xx.sum aT.qL true (kv.map Rep.ji))::aK p m L::F):=h8.sb;have hb:=Ob HM.o h8' (aB.name aB.use n);rw [Ie.o]at hb;clear h8;go_wp2_with fail;refine hb.mono ?_;rintro e w9 ⟨v,rfl,cv,rfl,h9⟩;clear hb h8';have Cm:Sat w0 w9 (bQ bv (aT.book Xx.sum aT.qL true (kv.map Rep.ji))::bQ cv (aT.book Xx.sum aT.qM false (us.map Rep.jl))::aJ m M::aK p m L::F):=h9.sb;clear h9;have qJ:=RS.Kz Cm;obtain ⟨ba,bn,bc,rfl,_,_⟩:=qJ.cap;go_wp2_with fail;refine (afQ kv Hk.o rW.o qJ Cm).mono ?_;rintro e w10 ⟨v,rfl,iv,rfl,h10⟩;clear Cm qJ
 have Pn:Sat w0 w10 (bQ cv (aT.book Xx.sum aT.qM false (us.map Rep.jl))::aC 219 35 iv (kv.flatMap gW)::aJ m M::aK p m L::F):=h10.sb;clear h10;have mY:=RS.Kz Pn;obtain ⟨ca,cn,cc,rfl,_,_⟩:=mY.cap;go_wp2_with fail;refine (afS us rX.o mY Pn).mono ?_;rintro e iH ⟨v,rfl,uv,rfl,h11⟩;clear Pn mY;have h12:Sat w0 iH (aK p m L::aC 45 3 uv (us.flatMap bG)::aC 219 35 iv (kv.flatMap gW)::aJ m M::F):=h11.sb;clear h11;go_wp2_with fail;have hft:=ail (n:=n) us nP.o HL.o (λw hw=>Sat.rd hw) h12;rw [Hf.o]at hft;refine hft.mono ?_;rintro e jM ⟨v,rfl,rfl,h13⟩;clear hft h12;obtain ⟨ua,uc,rfl⟩:=jK (λu _=>vP u) (Sat.rd (h13.pick (A:=aC 45 3 uv (us.flatMap bG)) bf)) aN;obtain ⟨ia,ic,rfl⟩:=jK (λq hq=>lJ q (Hk.o q hq)) (Sat.rd (h13.pick (A:=aC 219 35 iv (kv.flatMap gW)) eH)) aN
 have VJ:=uQ (show ∀ i u,us[i]?=some u->aB.sizes (us.take (i+1))=λs=>if s=u.seg then u.size else aB.sizes (us.take i) s from λi u hu=>by rw [aeK,hu,afw,aB.acS]);have hmm:=@run_makeMap prog;go_wp2_with fail;refine (aaB h13).mono ?_;rintro ee kT ⟨v,rfl,pi,rfl,iM⟩;clear h13;go_wp2_with (with_reducible apply fD);refine ⟨fE (cs:=#[.int .i64 n,ptr pi,.slice ua us.length uc,.slice none 0 0]) iM ah ah ?_⟩;intro ps Bh h15;clear iM;have h16:=ZE h15;go_wp2_with fail;have hx:Sat w0 (Bh.alloc (.map #[] 0)) (jX Bh.heap.size (aB.sizes (us.take 0))::cO ps n pi (.slice ua us.length uc) (.slice none 0 0)::aH pi (λ_=>none) 0::aK p m L::aC 45 3 (.slice ua us.length uc) (us.flatMap bG)::aC 219 35 (.slice ia kv.length ic) (kv.flatMap gW)::aJ m M::F):=h16;clear h15 h16 hmm;generalize Bh.heap.size=bm at *
 go_loopg [98] us.length (λg iq wr=>∃ i:Nat,g=us.length-i/\i<=us.length/\iq=.int .i64 i /\
  Sat w0 wr (jX bm (aB.sizes (us.take i))::cO ps n pi (.slice ua us.length uc) (.slice none 0 0)::aH pi (λ_=>none) 0::aK p m L::aC 45 3 (.slice ua us.length uc) (us.flatMap bG)::aC 219 35 (.slice ia kv.length ic) (kv.flatMap gW)::aJ m M::F))
 case atStart=>exact ⟨0,rfl,aea _,rfl,hx⟩
 case round=>
  obtain ⟨i,rfl,hi,rfl,hS⟩:=hrel;clear hx;by_cases hlt:i<us.length
  ·have c1:(i:Int)<(us.length:Int):=by omega
   have hwi:IntKind.i64.wrap ((i:Int)+1)=(i:Int)+1:=adr _ (by have:=nP.o;omega);obtain ⟨u,hu⟩:∃ u,us[i]?=some u:=⟨_,aay hlt⟩;have bT:=uQ hlt;have iZ:=uQ (VJ.o i u hu);obtain ⟨bk,off,c',hsv,hcell⟩:=jd (λu _=>vP u) (Sat.rd (hS.pk (A:=aC 45 3 (.slice ua us.length uc) (us.flatMap bG)))) hu aN;cases hsv;clear hi hlt hu
   go_wp2_with (first
    |((with_reducible refine bP ⟨?_⟩);refine iR (b:=bk) (o:=off+i*3) (bG u) ah hcell underlying45 rfl au ?_)
    |(with_reducible apply fB))
   refine ⟨eF MK hS rfl ?_⟩;intro b18 w18 h18;go_wp2_with (with_reducible apply dh);refine ⟨fP (bG u).toArray h18 ah ah ah cZ au ah ?_⟩;intro Uo h19;clear h18 hS hcell;obtain ⟨GR,hup,h20⟩:=Qi u.seg u.size (h19.pick (aS aU));have f0:Uo.cell? ⟨b18,0,none⟩=some (.int .i64 u.seg):=h19.cellP aU 0 rfl;have f1:Uo.cell? ⟨b18,1,none⟩=some (.int .i64 u.size):=h19.cellP aU 1 rfl;rw [<-iZ.o]at h20;go_wp2_with fail
   go_roundg (us.length-(i+1))
   case measure=>have:=bT.o;omega
   case rel=>exact ⟨i+1,rfl,aec bT.o,by first|rfl|go_num,h20.sb⟩
  ·have c1:¬ (i:Int)<(us.length:Int):=by omega
   obtain rfl:i=us.length:=by omega
   rw [aeo]at hS;clear hlt hi VJ;have hy:Sat w0 wr (jX bm (aB.sizes us)::cO ps n pi (.slice ua us.length uc) (.slice none 0 0)::aH pi (Tab.mapOf (kv.take 0)) 0::aK p m L::aC 45 3 (.slice ua us.length uc) (us.flatMap bG)::aC 219 35 (.slice ia kv.length ic) (kv.flatMap gW)::aJ m M::F):=hS;clear hS;go_wp2_with fail
   go_loopg [110] kv.length (λg iq wr=>∃ i:Nat,g=kv.length-i/\i<=kv.length/\iq=.int .i64 i /\
    Sat w0 wr (jX bm (aB.sizes us)::cO ps n pi (.slice ua us.length uc) (.slice none 0 0)::aH pi (Tab.mapOf (kv.take i)) i::aK p m L::aC 45 3 (.slice ua us.length uc) (us.flatMap bG)::aC 219 35 (.slice ia kv.length ic) (kv.flatMap gW)::aJ m M::F))
   case atStart=>exact ⟨0,rfl,aea _,rfl,hy⟩
   case round=>
    obtain ⟨i,rfl,hi,rfl,hS⟩:=hrel;clear hy;by_cases hlt:i<kv.length
    ·have c1:(i:Int)<(kv.length:Int):=by omega
     have hwi:IntKind.i64.wrap ((i:Int)+1)=(i:Int)+1:=adr _ (by have:=mG.o;omega);obtain ⟨q,hq⟩:∃ q,kv[i]?=some q:=⟨_,aay hlt⟩;have hqm:=abA hq;have bT:=uQ hlt;have Ew:=uQ (show Tab.mapOf (kv.take (i+1))=Tab.put (Tab.mapOf (kv.take i)) q.1 q.2 by rw [aeK,hq,afw,Tab.QG]);obtain ⟨bk,off,c',hsv,hcell⟩:=jd (λq hq=>lJ q (Hk.o q hq)) (Sat.rd (hS.pk (A:=aC 219 35 (.slice ia kv.length ic) (kv.flatMap gW)))) hq aN;cases hsv;have Hq:=uQ (Hk.o q hqm);have Zg:=zB.o q hqm;have Vo:=uQ Zg;have Nv:=uQ (lJ q Hq.o);clear hi hlt hq hqm Zg
     go_wp2_with (first
      |((with_reducible refine bP ⟨?_⟩);refine iR (b:=bk) (o:=off+i*35) (gW q) ah hcell underlying219 rfl (by rw [Nv.o];kernel_rfl) ?_)
      |(with_reducible apply fB))
     refine ⟨eF MH hS rfl ?_⟩;intro b20 GR h20;go_wp2_with (with_reducible apply dh);refine ⟨fP (gW q).toArray h20 ah ah (by rw [abn,Nv.o];rfl) cZ (by rw [abn,Nv.o];kernel_rfl) (by rw [ad6];exact FK _) ?_⟩;intro Bo h21;clear h20 hS hcell;have hra:Bo.rangeAt b20 0 (aA q.1):=λj v hj=>by
      refine h21.cellP aU (0+j) ?_;rw [ace,ad8];unfold gW;rw [aej (abm.1 hj).1];exact hj
     have Fq:Bo.rangeAt b20 32 (aW q.2):=λj v hj=>by
      refine h21.cellP aU (32+j) ?_;rw [ace];unfold gW;rw [aeh (by rw [aX,Hq.o];omega),aX,Hq.o,apG];exact hj
     go_wp2_with ((with_reducible refine bP ⟨?_⟩);refine iR (b:=b20) (o:=32) (aW q.2) ah Fq underlying94 rfl au ?_);refine (ais q.2 Vo.o.2 (h21.pk (A:=jX bm (aB.sizes us)))).mono ?_;rintro ee uK ⟨v,rfl,rfl,h22⟩;rw [Vo.o.1];clear hra Fq h21;have h23:=h22.drew;clear h22;have hG:uK.drew.cell? ⟨ps,1,none⟩=some (ptr pi)/\uK.drew.rangeAt b20 0 (aA q.1)/\uK.drew.rangeAt b20 32 (aW q.2):=by
      refine ⟨h23.cellP (aS bf) 1 rfl,λj v hj=>?_,λj v hj=>?_⟩
      ·refine h23.cellP bf (0+j) ?_;rw [ace,ad8];unfold gW;rw [aej (abm.1 hj).1];exact hj
      ·refine h23.cellP bf (32+j) ?_;rw [ace];unfold gW;rw [aeh (by rw [aX,Hq.o];omega),aX,Hq.o,apG];exact hj
     go_wp2_with fail;refine dN [8] (λw'=>w'.cell? ⟨ps,1,none⟩=some (ptr pi)/\w'.rangeAt b20 0 (aA q.1)/\w'.rangeAt b20 32 (aW q.2)) au ?_;refine rP 0 ?_ (y:=aZ);refine rP 1 ?_ (y:=dW);refine rP 2 ?_ (y:=bY);refine rt 3 (h:=?_);refine rP 4 ?_ (y:=bY);refine gK 5 ak au bV (jh (b:=b20) (o:=0) (aA q.1) ah underlying50 rfl (by rw [aX,Hq.o];kernel_rfl) (λw hw=>hw.2.1)) aQ gQ ?_;refine rP 6 ?_ (y:=bY);refine gK 7 ak au bV (jh (b:=b20) (o:=32) (aW q.2) ah underlying94 rfl au (λw hw=>hw.2.2)) aQ gQ ?_;clear hG;have hp:=KG (B:=i) (p:=pi) (by have:=bT.o;have:=mG.o;omega) Hq.o q.2 (h23.pk (A:=aH pi (Tab.mapOf (kv.take i)) i));clear h23;refine bW 8 ak au (λK' hK'=>?_)
     (refine wL au ak ak ak ?_)
     refine hp.mono ?_;rintro ee w24 ⟨v,rfl,yB⟩;refine hK' _ _ (.inl rfl) ?_;clear hK' hp;refine dH au ?_;rw [<-Ew.o]at yB;go_wp2_with fail
     go_roundg (kv.length-(i+1))
     case measure=>have:=bT.o;omega
     case rel=>exact ⟨i+1,rfl,aec bT.o,by first|rfl|go_num,yB.sb⟩
    ·have c1:¬ (i:Int)<(kv.length:Int):=by omega
     obtain rfl:i=kv.length:=by omega
     rw [aeo]at hS;clear hlt hi;have hsl:L.aF.length<=1073741824:=by unfold Seg.Log.aF;rw [aa4];have:=HL.o.len;omega
     have uP:=uQ hsl;clear hsl;go_wp2_with fail;refine (FV HL.o (hS.pk (A:=aK p m L))).mono ?_;rintro ee Ur ⟨v,rfl,h30⟩;obtain ⟨sa,sn,sc,rfl,Y8,_⟩:=Sat.rd h30;have air:sn=L.aF.length:=by
      rw [show (ints L.aF).length=L.aF.length from aa4 ..]at Y8;omega
     subst air;clear Y8 hS
     have h31:Sat w0 Ur (cO ps n pi (.slice ua us.length uc) (.slice none 0 0)::aC 3 1 (.slice none 0 0) (ints ((L.aF.take 0).filter λs=>decide (n<s)))::aH pi (Tab.mapOf kv) kv.length::aC 3 1 (.slice sa L.aF.length sc) (ints L.aF)::aK p m L::aC 45 3 (.slice ua us.length uc) (us.flatMap bG)::aJ m M::F):=
      (Sat.gB.2 h30).sb
     clear h30;go_wp2_with fail
     go_loopg [132] L.aF.length (λg iq wr=>∃ (i:Nat) (tv:Value),g=L.aF.length-i/\i<=L.aF.length/\iq=.int .i64 i /\
      Sat w0 wr (cO ps n pi (.slice ua us.length uc) tv::aC 3 1 tv (ints ((L.aF.take i).filter λs=>decide (n<s)))::aH pi (Tab.mapOf kv) kv.length::aC 3 1 (.slice sa L.aF.length sc) (ints L.aF)::aK p m L::aC 45 3 (.slice ua us.length uc) (us.flatMap bG)::aJ m M::F))
     case atStart=>exact ⟨0,_,rfl,aea _,rfl,h31⟩
     case round=>
      obtain ⟨i,tv,rfl,hi,rfl,hS⟩:=hrel;clear h31;by_cases hlt:i<L.aF.length
      ·have c1:(i:Int)<(L.aF.length:Int):=by omega
       have hwi:IntKind.i64.wrap ((i:Int)+1)=(i:Int)+1:=adr _ (by have:=uP.o;omega);obtain ⟨s,hs⟩:∃ s,L.aF[i]?=some s:=⟨_,aay hlt⟩;have bT:=uQ hlt;have eG:=uQ (show L.aF.take (i+1)=L.aF.take i++[s] by rw [aeK,hs];rfl);obtain ⟨bk,off,cc,hsv,f0⟩:=tY (Sat.rd (hS.pk (A:=aC 3 1 (.slice sa L.aF.length sc) (ints L.aF)))) hs;cases hsv;clear hi hlt hs;by_cases hgt:n<s
       ·have sV:=uQ (show ints ((L.aF.take (i+1)).filter λs=>decide (n<s))=ints ((L.aF.take i).filter λs=>decide (n<s))++[.int .i64 s] by
         rw [eG.o,ajO];unfold ints;rw [adU];simp [hgt])
        have hil:(ints ((L.aF.take i).filter λs=>decide (n<s))).length<=2147483648:=by
         unfold ints;rw [aa4];have h1:=aeT (λs=>decide (n<s)) (L.aF.take i);have h2:=apE i L.aF;have:=uP.o;omega
        have e3:wr.cell? ⟨ps,3,none⟩=some tv:=hS.cellP aU 3 rfl;go_wp2_with (with_reducible apply nR);refine ⟨nN (e:=3) (sz:=1) (eX:=8) au hS ak (cs:=#[.int .i64 s]) rfl rfl aN ?_⟩;intro b41 w41 qH;go_wp2_with (with_reducible apply lH);refine ⟨oh 3 1 8 au qH ah ah (aS (aS aU)) aU rfl (abl 1) ah hil (by show 1<=65536;decide) aN rfl ?_⟩;intro bA nA cA w42 h42;clear e3 hil;go_wp2_with (with_reducible apply dh);refine ⟨gq (cs':=#[.int .i64 n,ptr pi,.slice ua us.length uc,.slice (some ⟨bA,0,none⟩) nA cA]) h42 ah ak ah (ku cZ) bI au ah ?_⟩;intro Us h43
        have Po:Sat w0 Us (cO ps n pi (.slice ua us.length uc) (.slice (some ⟨bA,0,none⟩) nA cA)::aC 3 1 (.slice (some ⟨bA,0,none⟩) nA cA) (ints ((L.aF.take (i+1)).filter λs=>decide (n<s)))::aH pi (Tab.mapOf kv) kv.length::aC 3 1 (.slice (some ⟨bk,off,none⟩) L.aF.length sc) (ints L.aF)::aK p m L::aC 45 3 (.slice ua us.length uc) (us.flatMap bG)::aJ m M::F):=by
         rw [sV.o];exact h43.sb
        clear qH h42 h43 hS f0;go_wp2_with fail
        go_roundg (L.aF.length-(i+1))
        case measure=>have:=bT.o;omega
        case rel=>exact ⟨i+1,_,rfl,aec bT.o,by first|rfl|go_num,Po⟩
       ·have sV:=uQ (show ints ((L.aF.take (i+1)).filter λs=>decide (n<s))=ints ((L.aF.take i).filter λs=>decide (n<s)) by
         rw [eG.o,ajO];simp [hgt])
        have aph:¬ s>n:=hgt;go_wp2_with fail
        go_roundg (L.aF.length-(i+1))
        case measure=>have:=bT.o;omega
        case rel=>exact ⟨i+1,tv,rfl,aec bT.o,by first|rfl|go_num,by rw [sV.o];exact hS⟩
      ·have c1:¬ (i:Int)<(L.aF.length:Int):=by omega
       obtain rfl:i=L.aF.length:=by omega
       rw [aeo]at hS;clear hlt hi;go_wp2_with fail
       go_ret2
       exact ⟨_,rfl,ps,rfl,pi,_,tv,hS.sb⟩
end Go.Proofs.Y
namespace Go.Seg
open Go.ay
open Go.aj (Bs aI encs gu dI)
open Go.Rep
section
variable {K r E B n:Nat}{L:Log}{M:ay}{D:List (Nat×List aI)}{d:Nat×List aI}{x:aI}
theorem erase_filter:∀ {D:List (Nat×List aI)}{i:Nat}{e:Nat×List aI},D.Pairwise (λa b=>a.1<b.1)->D[i]?=some e->D.eraseIdx i=D.filter λy=>y.1 != e.1
 |[],i,e,_,h=>by cases h
 |x::D,0,e,hp,h=>by
  cases h;rw [aeZ]at hp;rw [List.eraseIdx_cons_zero,ajL,abj yF0];symm;rw [List.filter_eq_self];intro y hy;have:=hp.1 y hy;simp only [afZ,ne_eq];omega
 |x::D,i+1,e,hp,h=>by
  rw [aeZ]at hp;rw [ajF]at h;have:=hp.1 e (abA h);rw [List.eraseIdx_cons_succ,ajL,acg (by simp only [afZ,ne_eq];omega),erase_filter hp.2 h]
theorem HD.remove (h:HD K r E B n L M D) (hd:d∈D):(L.remove M (d.1:Int)).2=0/\HD (K+1) r E B n (L.remove M (d.1:Int)).1.1 (L.remove M (d.1:Int)).1.2 (D.filter λy=>y.1 != d.1)/\(L.remove M (d.1:Int)).1.1.limit=L.limit:=by
 obtain ⟨i,hi⟩:=h.EJ hd;obtain ⟨hi1,s,hi2,hi3⟩:=Log.zT hi;have hi4:=hi2;rw [h.l,adW]at hi4;obtain ⟨e,he⟩:∃ e,D[i]?=some e:=by
  cases hq:D[i]? with
  |none=>rw [hq]at hi4;cases hi4
  |some e=>exact ⟨e,rfl⟩
 have hed:e.1=d.1:=by
  rw [he]at hi4;cases hi4;simp only at hi3;omega
 obtain ⟨j,hj⟩:=h.keeps.has _ (abA hi2);rw [hi3]at hj;have hcb:∀ y∈D,y.1<1048576:=λy hy=>by
  have:=h.keeps.log.nums ((y.1:Int),8+((encs y.2).length:Int)) (by rw [h.l];exact abL.2 ⟨y,hy,rfl⟩);simp only at this;omega
 obtain ⟨a1,a2,a3,a4⟩:=aB.RI h.keeps.calm hj;have aiz:L.remove M (d.1:Int)=((L.without i,(M.remove (name (d.1:Int))).1),0):=by
  unfold Log.remove;rw [hi];simp only;rw [acg a1]
 have hok:=h.keeps.log.remove M (d.1:Int);have hcm:=h.keeps.calm.remove (name (d.1:Int));rw [aiz]at hok ⊢;simp only at hok ⊢;have hl2:(L.without i).l=(D.filter λy=>y.1 != d.1).map λd=>((d.1:Int),8+((encs d.2).length:Int)):=by
  show L.l.eraseIdx i=_;rw [h.l,apQ,<-aoU,<-List.map_drop,<-adU,<-apQ,erase_filter h.rise he,hed]
 have Zk:∀ y∈D,y.1≠d.1->name (y.1:Int)≠name (d.1:Int):=λy hy hne e=>by
  have:=hcb y hy;have:=hcb d hd;have:=FX oQ oQ oQ oQ e;omega
 have hmem:∀ y,y∈(D.filter λy=>y.1 != d.1)->y∈D/\y.1≠d.1:=λy hy=>by
  obtain ⟨h1,h2⟩:=aem.1 hy;exact ⟨h1,by simpa using h2⟩
 refine ⟨trivial,⟨⟨hok,hcm,λt ht=>?_⟩,hl2,h.rise.filter _,λy hy=>h.lim y (hmem y hy).1,λy hy=>?_,λy hy=>h.good y (hmem y hy).1,adt a4 h.used,?_,λk j hkk hj=>?_⟩,rfl⟩
 ·rw [hl2]at ht;obtain ⟨y,hy,rfl⟩:=abL.1 ht;obtain ⟨h1,h2⟩:=hmem y hy;obtain ⟨q,hq⟩:=h.keeps.has ((y.1:Int),8+((encs y.2).length:Int)) (by rw [h.l];exact abL.2 ⟨y,h1,rfl⟩);exact ⟨q,by simp only at hq ⊢;rw [a2,F5 (Zk y h1 h2)];exact hq⟩
 ·obtain ⟨h1,h2⟩:=hmem y hy;rw [a3 _ (Zk y h1 h2)];exact h.file y h1
 ·rw [a2];exact adt (CW _ _) h.names
 ·rw [a2]at hj;by_cases e:k=d.1
  ·exfalso;rw [e]at hj;have:=(aem.1 (jD hj)).2;simp [bne,oL]at this
  ·have:=hcb d hd;rw [F5 (λq=>e (by have:=FX oQ oQ oQ oQ q;omega))]at hj;obtain ⟨y,hy,hyk⟩:=h.cover k j hkk hj;exact ⟨y,aem.2 ⟨hy,by simp only [afZ,ne_eq];omega⟩,hyk⟩
theorem HD.rows (h:HD K r E B n L M D):rowsOf (λs=>L.bytes M s) L.aF=bZ D:=by
 have key:∀ D':List (Nat×List aI),(∀ d∈D',d∈D)->rowsOf (λs=>L.bytes M s) (D'.map λd=>(d.1:Int))=bZ D':=by
  intro D'
  induction D' with
  |nil=>exact λ_=>rfl
  |cons y D' ih=>
   intro hs;have hy:=hs y (.head _);have h1:=SH (bt:=λs=>L.bytes M s) [y.2] y.1 λj es hj=>by
    cases j with
    |zero=>cases hj;exact ⟨h.bytes hy,(h.good y hy).1⟩
    |succ j=>simp at hj
   have e1:rowsOf (λs=>L.bytes M s) [(y.1:Int)]=(dI y.2 8).map λf=>((y.1:Int),f):=by
    have h2:gG y.1 [y.2]=(dI y.2 8).map λf=>((y.1:Int),f):=by unfold gG;unfold gG;rw [adV]
    rw [<-h2];exact h1
   have e2:∀ (a:Int) (l:List Int),rowsOf (λs=>L.bytes M s) (a::l)=rowsOf (λs=>L.bytes M s) [a]++rowsOf (λs=>L.bytes M s) l:=λa l=>by
    unfold rowsOf;simp
   rw [ad7,e2,e1,ih λd hd=>hs d (.tail _ hd)]
   rfl
 rw [h.aF];exact key D λd hd=>hd
theorem ab6 (C:List (List aI)):bZ (lM C)=gG 0 C:=by
 have key:∀ (C:List (List aI)) (k:Nat),bZ (C.mapIdx λi es=>(i+k,es))=gG k C:=by
  intro C
  induction C with
  |nil=>exact λ_=>rfl
  |cons es C ih=>
   intro k;have e:(es::C).mapIdx (λi es=>(i+k,es))=(k,es)::C.mapIdx λi es=>(i+(k+1),es):=by
    rw [List.mapIdx_cons]
    congr 1
    ·rw [ad8]
    ·congr 1
     funext i es
     rw [show i+1+k=i+(k+1) by omega]
   rw [e];unfold gG;rw [<-ih (k+1)];unfold bZ;rw [ael]
 exact key C 0
theorem HD.bad (h:HD K r E B n L M D):Rep.bad (λs=>L.bytes M s) L.aF=none:=by
 refine Rep.WB λj s hs=>?_;rw [h.aF,adW]at hs;cases hq:D[j]? with
 |none=>rw [hq]at hs;cases hs
 |some y=>
  rw [hq]at hs;cases hs;have hy:=abA hq;exact ⟨_,h.bytes hy,(h.good y hy).1⟩
end
end Go.Seg
namespace Go.aO
open Go.aj (Bs dD aI dI encs gu)
open Go.Seg (aV)
open Go.Rep
def pay:List dD->Int
 |[]=>0
 |f::l=>(if f.e.tag=2 then 0 else (f.size:Int))+pay l
theorem Rj:∀ (l:List dD) (f:dD),pay (l++[f])=pay l+(if f.e.tag=2 then 0 else (f.size:Int))
 |[],f=>by simp [pay]
 |g::l,f=>by
  have:=Rj l f;rw [aeI];unfold pay;omega
abbrev Kv:=List Int×aV
def iT (m:Bs->Option Kv) (k:Bs):Kv:=(m k).getD ([],aV.zero)
def pz (c:List Int) (s t:Int):List Int:=if t=0/\c.getLast?≠some s then c++[s] else c
def Gv (m:Bs->Option Kv) (r:Row):Bs->Option Kv:=Tab.put m (fU r) (pz (iT m (fU r)).1 r.1 (dM r),iP r)
def uH (m:Bs->Option Kv) (r:Row):Bs->Option Kv:=if dM r=2 then m else Gv m r
structure Plan where
 last:Int
 aF:List (Int×List dD)
 keys:Bs->Option Kv
 index:Bs->Option aV
def wZ (a b:aV):Bool:=a.seg==b.seg && (a.at_==b.at_ && a.size==b.size)
def counts (P:Plan) (gs:List Int) (s:Int) (f:dD):Bool:=
 if f.e.tag=2 then false
 else if f.e.tag=0 then match P.index f.e.key with
  |some p=>wZ p ⟨s,f.at_,f.size⟩
  |none=>false
 else wZ (iT P.keys f.e.key).2 ⟨s,f.at_,f.size⟩ && (iT P.keys f.e.key).1.any λt=>decide (t<s) && !gs.contains t
def nV (P:Plan) (gs:List Int) (s:Int):List dD->Int
 |[]=>0
 |f::l=>(if counts P gs s f=true then (f.size:Int) else 0)+nV P gs s l
theorem aaj (P:Plan) (gs:List Int) (s:Int):∀ (l:List dD) (f:dD),nV P gs s (l++[f])=nV P gs s l+(if counts P gs s f=true then (f.size:Int) else 0)
 |[],f=>by simp [nV]
 |g::l,f=>by
  have:=aaj P gs s l f;rw [aeI];unfold nV;omega
def sparse (P:Plan) (gs:List Int) (pc:Int) (x:Int×List dD):Bool:=
 if pay x.2=0 then decide (0<pc) && (decide (x.1≠P.last) || decide (0<gs.length)) else decide (100*nV P gs x.1 x.2<pc*pay x.2)
def nextL (P:Plan) (gs:List Int) (pc:Int) (l:List (Int×List dD)):List Int:=(l.filter λx => !gs.contains x.1 && sparse P gs pc x).map (·.1)
theorem aaK (P:Plan) (gs:List Int) (pc:Int) (l:List (Int×List dD)) (x:Int×List dD):nextL P gs pc (l++[x])=nextL P gs pc l++(if (!gs.contains x.1 && sparse P gs pc x)=true then [x.1] else []):=by
 unfold nextL;rw [ajO,adU]
 congr 1
 rw [ajL];split <;> rfl
def choose (P:Plan) (pc:Int):Nat->List Int->List Int
 |0,gs=>gs
 |n+1,gs=>if nextL P gs pc P.aF=[] then gs else choose P pc n (gs++nextL P gs pc P.aF)
def kU (gs:List Int) (l:List (Int×List dD)):List Int:=(l.filter λx=>gs.contains x.1).map (·.1)
theorem Yy (gs:List Int) (l:List (Int×List dD)) (x:Int×List dD):kU gs (l++[x])=kU gs l++(if gs.contains x.1=true then [x.1] else []):=by
 unfold kU;rw [ajO,adU]
 congr 1
 rw [ajL];split <;> rfl
def uG (C:List (List aI)):List (Int×List dD):=(List.range' 0 C.length).map λj:Nat=>((j:Int),dI (C.getD j []) 8)
def jY (l:List (Int×List dD)):List Row:=l.flatMap λx=>x.2.map λf=>(x.1,f)
def lu (rs:List Row):Bs->Option Kv:=rs.foldl uH λ_=>none
section
variable {C:List (List aI)}
theorem amO:(uG C).length=C.length:=by unfold uG;rw [aa4,aqb]
theorem amN {k:Nat}{es:List aI} (hk:C[k]?=some es):(uG C)[k]?=some ((k:Int),dI es 8):=by
 have hl:k<C.length:=(abm.1 hk).1;unfold uG;rw [adW,List.getElem?_range' hl,afW,Nat.one_mul,ad8,adT,hk,apd]
theorem SG (l:List (Int×List dD)) (x:Int×List dD):jY (l++[x])=jY l++x.2.map λf=>(x.1,f):=by
 unfold jY;rw [aeB,ael,ajb,adV]
theorem ZR (rs:List Row) (r:Row):lu (rs++[r])=uH (lu rs) r:=by
 unfold lu;rw [apv]
 rfl
theorem aji (c:List Int) (s t:Int):(pz c s t).length<=c.length+1:=by
 unfold pz;split
 ·rw [aaL];exact abl _
 ·omega
theorem anQ (m:Bs->Option Kv) (r:Row) (k:Bs) (n:Nat) (h:∀ k,(iT m k).1.length<=n):(iT (uH m r) k).1.length<=n+1:=by
 unfold uH;split
 ·have:=h k;omega
 ·unfold Gv iT Tab.put;by_cases hk:k=fU r
  ·simp only [acg hk,apd];have:=aji (iT m (fU r)).1 r.1 (dM r);have:=h (fU r);unfold iT at *
   omega
  ·simp only [abj hk];have:=h k;unfold iT at this;omega
theorem Yk:∀ (rs:List Row) (m:Bs->Option Kv) (n:Nat),(∀ k,(iT m k).1.length<=n)->∀ k,(iT (rs.foldl uH m) k).1.length<=n+rs.length
 |[],m,n,h,k=>h k
 |r::rs,m,n,h,k=>by
  have:=Yk rs (uH m r) (n+1) (λk=>anQ m r k n h) k;rw [List.foldl_cons,aep];omega
theorem ZQ (rs:List Row) (k:Bs):(iT (lu rs) k).1.length<=rs.length:=by
 have:=Yk rs (λ_=>none) 0 (λ_=>abl _) k;unfold lu;omega
theorem alS (l:List (Int×List dD)) (i:Nat):(jY (l.take i)).length<=(jY l).length:=by
 have e:jY l=jY (l.take i)++jY (l.drop i):=by
  unfold jY;rw [<-aeB,aeS]
 rw [e,aaL];omega
theorem abh:∀ (es:List aI) (a j:Nat) (f:dD),(dI es a)[j]?=some f->0<=pay ((dI es a).take j)/\pay ((dI es a).take j)+(f.size:Int)<=((encs es).length:Int)
 |[],a,j,f,h=>by cases h
 |e::es,a,0,f,h=>by
  have e1:f.size<=(encs (e::es)).length:=by
   cases h;show _<=((aj.encode e).1++encs es).length;rw [aaL];exact Nat.le_add_right ..
  rw [aeO];unfold pay;omega
 |e::es,a,j+1,f,h=>by
  have ih:=abh es (a+(aj.encode e).1.length) j f h;have e1:(encs (e::es)).length=(aj.encode e).1.length+(encs es).length:=by
   show ((aj.encode e).1++encs es).length=_;rw [aaL]
  have e2:pay ((dI (e::es) a).take (j+1))=(if e.tag=2 then 0 else ((aj.encode e).1.length:Int))+pay ((dI es (a+(aj.encode e).1.length)).take j):=rfl;rw [e1,e2];split <;> omega
end
end Go.aO
