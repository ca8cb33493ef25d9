import Derived.Test.YtihngncbioofnaaGreatDoorJ11
import Derived.Laws.StructEq
set_option maxRecDepth 100000
set_option linter.unusedVariables false
set_option maxHeartbeats 128000000
namespace Go.aO
open Go.ah (Bs dA aG dN encs fH)
open Go.Seg (aU)
open Go.Rep
section
variable {R:List Row}{k:Bs}{r x:Row}{m:Bs→Option Kv}{gs:List Int}{P:Plan}
abbrev hit (k:Bs) (r:Row):Prop:=dJ r≠2∧fB r=k
theorem vZ (x:Row) (R:List Row):newest (x::R) k=match newest R k with
  |some y=>some y
  |none=>if dJ x≠2∧fB x=k then some x else none:=rfl
theorem rE:∀ {R:List Row},newest R k=none↔∀ r∈R,¬ hit k r
 |[]=>⟨fun _ r hr=>(by cases hr),fun _=>rfl⟩
 |x::R=>by
  rw [vZ];cases hn:newest R k with
  |some y=>
   refine ⟨fun h=>(by cases h),fun h=>?_⟩;have:=(rE (R:=R)).2 fun r hr=>h r (.tail _ hr);rw [hn]at this;cases this
  |none=>
   have h1:=rE.1 hn;simp only;constructor
   ·intro h r hr;rcases acK.1 hr with rfl|hr
    ·intro hh;rw [acr hh]at h;cases h
    ·exact h1 r hr
   ·intro h;rw [abA (h x (.head _))]
theorem F5:∀ {R:List Row},newest R k=some r→r∈R∧hit k r
 |[],h=>by cases h
 |x::R,h=>by
  rw [vZ]at h;cases hn:newest R k with
  |some y=>
   rw [hn]at h;cases h;have:=F5 hn;exact ⟨.tail _ this.1,this.2⟩
  |none=>
   rw [hn]at h;simp only at h;split at h
   ·cases h;rename_i hh;exact ⟨.head _,hh⟩
   ·cases h
theorem Zi:∀ (a b:List Row),newest (a++b) k=match newest b k with
  |some y=>some y
  |none=>newest a k
 |[],b=>by
  rw [adl];cases newest b k <;> rfl
 |x::a,b=>by
  rw [adA];rw [vZ,vZ,Zi a b];cases newest b k <;> rfl
theorem PX (p:Row→Bool):∀ {R:List Row},newest R k=some r→p r=true→newest (R.filter p) k=some r
 |[],h,_=>by cases h
 |x::R,h,hp=>by
  rw [vZ]at h;cases hn:newest R k with
  |some y=>
   rw [hn]at h;cases h;have ih:=PX p hn hp;rw [aie];split
   ·rw [vZ];rw [ih]
   ·exact ih
  |none=>
   rw [hn]at h;simp only at h;split at h
   ·cases h;rename_i hh;have h1:newest (R.filter p) k=none:=rE.2 fun r hr=>rE.1 hn r (acY.1 hr).1;rw [aie,acr hp];rw [vZ];rw [h1];simp only;rw [acr hh]
   ·cases h
theorem Zl:∀ {R:List Row},R.Pairwise (fun a b=>a.1≤b.1)→newest R k=some r→∀ y∈R,hit k y→y.1≤r.1
 |[],_,h,_,_,_=>by cases h
 |x::R,hp,h,y,hy,hh=>by
  rw [aeA]at hp;rw [vZ]at h;cases hn:newest R k with
  |some z=>
   rw [hn]at h;cases h;rcases acK.1 hy with rfl|hy
   ·exact hp.1 _ (F5 hn).1
   ·exact Zl hp.2 hn y hy hh
  |none=>
   rw [hn]at h;simp only at h;split at h
   ·cases h;rcases acK.1 hy with rfl|hy
    ·exact an2 _
    ·exact absurd hh (rE.1 hn y hy)
   ·cases h
theorem ahQ {c:List Int}{s t u:Int}:u∈oN c s t↔u∈c∨(t=0∧u=s):=by
 unfold oN;split
 ·rename_i h;rw [ac3,acO];exact ⟨fun q=>q.elim .inl fun q=> .inr ⟨h.1,q⟩,fun q=>q.elim .inl fun q=> .inr q.2⟩
 ·rename_i h;refine ⟨.inl,fun q=>q.elim id fun ⟨h1,h2⟩=>?_⟩;have:c.getLast?=some s:=Classical.not_not.1 fun hne=>h ⟨h1,hne⟩;rw [h2];exact agv this
theorem ahR (k':Bs) (v:Kv):iG (Tab.put m k' v) k=if k=k' then v else iG m k:=by
 unfold iG Tab.put;by_cases e:k=k'
 ·rw [acr e,acr e];rfl
 ·rw [abA e,abA e]
theorem O7:∀ (R:List Row) (m:Bs→Option Kv),(iG (R.foldl tV m) k).2=((newest R k).map iH).getD (iG m k).2∧∀ u,u∈(iG (R.foldl tV m) k).1↔u∈(iG m k).1∨∃ y∈R,dJ y=0∧fB y=k∧y.1=u
 |[],m=>⟨rfl,fun u=>⟨.inl,fun q=>q.elim id fun ⟨y,hy,_⟩=>(by cases hy)⟩⟩
 |x::R,m=>by
  obtain ⟨h1,h2⟩:=O7 R (tV m x);rw [List.foldl_cons];have e1:iG (tV m x) k=if hit k x then (oN (iG m k).1 x.1 (dJ x),iH x) else iG m k:=by
   unfold tV;by_cases ht:dJ x=2
   ·rw [acr ht,abA (fun hh=>hh.1 ht)]
   ·rw [abA ht];unfold Gy;rw [ahR];by_cases e:k=fB x
    ·rw [acr e,acr ⟨ht,e.symm⟩,← e]
    ·rw [abA e,abA (fun hh=>e hh.2.symm)]
  constructor
  ·rw [h1,e1];rw [vZ];cases hn:newest R k with
   |some y=>rfl
   |none=>
    simp only;by_cases hh:hit k x
    ·rw [acr hh,acr (show dJ x≠2∧fB x=k from hh)];rfl
    ·rw [abA hh,abA (show ¬ (dJ x≠2∧fB x=k) from hh)]
  ·intro u;rw [h2,e1];by_cases hh:hit k x
   ·rw [acr hh];simp only;rw [ahQ];constructor
    ·rintro ((q|⟨q1,q2⟩)|⟨y,hy,q⟩)
     ·exact .inl q
     ·exact .inr ⟨x,.head _,q1,hh.2,q2.symm⟩
     ·exact .inr ⟨y,.tail _ hy,q⟩
    ·rintro (q|⟨y,hy,q1,q2,q3⟩)
     ·exact .inl (.inl q)
     ·rcases acK.1 hy with rfl|hy
      ·exact .inl (.inr ⟨q1,q3.symm⟩)
      ·exact .inr ⟨y,hy,q1,q2,q3⟩
   ·rw [abA hh];constructor
    ·rintro (q|⟨y,hy,q⟩)
     ·exact .inl q
     ·exact .inr ⟨y,.tail _ hy,q⟩
    ·rintro (q|⟨y,hy,q1,q2,q3⟩)
     ·exact .inl q
     ·rcases acK.1 hy with rfl|hy
      ·exact absurd ⟨by rw [q1];decide,q2⟩ hh
      ·exact .inr ⟨y,hy,q1,q2,q3⟩
theorem JW {a b:aU}:tH a b=true↔a=b:=by
 unfold tH;rw [adg,adg,ai7,ai7,ai7];constructor
 ·rintro ⟨h1,h2,h3⟩;cases a;cases b;simp only at h1 h2 h3;rw [h1,h2,h3]
 ·rintro rfl;exact ⟨rfl,rfl,rfl⟩
def stay (gs:List Int) (R:List Row):List Row:=R.filter fun r => !gs.contains r.1
def copy (P:Plan) (gs:List Int) (R:List Row):List Row:=R.filter fun r=>gs.contains r.1 && counts P gs r.1 r.2
theorem ak7 (hi:∀ k,P.index k=dO R k) (hk:P.keys=kH R) (hu:∀ a∈R,∀ b∈R,iH a=iH b→a=b) (hp:R.Pairwise fun a b=>a.1≤b.1) (ht:∀ a∈R,dJ a=0∨dJ a=1∨dJ a=2) (k:Bs) :
  jA ((stay gs R++copy P gs R).map (·.2.e)) k=jA (R.map (·.2.e)) k:=by
 have obj:∀ l:List Row,jA (l.map (·.2.e)) k=(newest l k).bind fun r=>if dJ r=0 then some r.2.e.data else none:=fun l=>by
  unfold jA;rw [← PW];cases newest l k <;> rfl
 rw [obj,obj,Zi]
 -- what counts is the last of its key
 have cnt:∀ a∈R,dJ a≠2→fB a=k→counts P gs a.1 a.2=true→newest R k=some a:=by
  intro a ha h2 hka hc;have hhit:hit k a:=⟨h2,hka⟩;cases hn:newest R k with
  |none=>exact absurd hhit (rE.1 hn a ha)
  |some r=>
   obtain ⟨hr,hh⟩:=F5 hn;have hpl:iH r=iH a:=by
    unfold counts at hc;rw [abA (show ¬ a.2.e.tag=2 from h2)]at hc;by_cases h0:a.2.e.tag=0
    ·rw [acr h0,hi,show a.2.e.key=k from hka]at hc;unfold dO at hc;rw [hn]at hc;simp only [Option.bind_some]at hc;split at hc
     ·rename_i p hp';split at hp'
      ·cases hp';exact JW.1 hc
      ·cases hp'
     ·cases hc
    ·rw [abA h0,adg,show a.2.e.key=k from hka,hk]at hc;have h3:=(O7 (k:=k) R fun _=>none).1;rw [hn]at h3;have h4:=JW.1 hc.1;unfold kH at h4;rw [h3]at h4;exact h4
   rw [hu r hr a ha hpl]
 cases hn:newest R k with
 |none=>
  have h1:newest (copy P gs R) k=none:=rE.2 fun r hr=>rE.1 hn r (acY.1 hr).1;have h2:newest (stay gs R) k=none:=rE.2 fun r hr=>rE.1 hn r (acY.1 hr).1;rw [h1];simp only;rw [h2]
 |some r=>
  obtain ⟨hr,hh⟩:=F5 hn;by_cases hg:gs.contains r.1=true
  ·by_cases hc:counts P gs r.1 r.2=true
   ·have h1:newest (copy P gs R) k=some r:=PX _ hn (by rw [hg,hc];rfl);rw [h1]
   ·have h1:newest (copy P gs R) k=none:=rE.2 fun a ha hha=>by
     obtain ⟨a1,a2⟩:=acY.1 ha;rw [adg]at a2;have:=cnt a a1 hha.1 hha.2 a2.2;rw [hn]at this;cases this;exact hc a2.2
    rw [h1];simp only;have hr0:dJ r≠0:=fun h0=>by
     apply hc;unfold counts;rw [abA (show ¬ r.2.e.tag=2 from hh.1),acr (show r.2.e.tag=0 from h0),hi,show r.2.e.key=k from hh.2];unfold dO;rw [hn];simp only [Option.bind_some,acr h0];exact JW.2 rfl
    have hno:∀ y∈R,dJ y=0→fB y=k→gs.contains y.1=true:=fun y hy y0 yk=>by
     have hle:=Zl hp hn y hy ⟨by rw [y0];decide,yk⟩;by_cases e:y.1=r.1
     ·rw [e];exact hg
     ·cases Fp:gs.contains y.1 with
      |true=>rfl
      |false=>
       exfalso;apply hc;unfold counts;rw [abA (show ¬ r.2.e.tag=2 from hh.1),abA (show ¬ r.2.e.tag=0 from hr0),show r.2.e.key=k from hh.2,hk,adg];obtain ⟨h3,h4⟩:=O7 (k:=k) R fun _=>none;rw [hn]at h3;refine ⟨JW.2 (by unfold kH;rw [h3];rfl),?_⟩;rw [List.any_eq_true];refine ⟨y.1,(h4 y.1).2 (.inr ⟨y,hy,y0,yk,rfl⟩),?_⟩;rw [Fp,Bool.not_false,Bool.and_true];exact adt oQ
    show _=if dJ r=0 then some r.2.e.data else none
    rw [abA hr0];cases h2:newest (stay gs R) k with
    |none=>rfl
    |some y=>
     obtain ⟨y1,y2⟩:=F5 h2;obtain ⟨y3,y4⟩:=acY.1 y1;show (if dJ y=0 then some y.2.e.data else none)=none;rw [abA fun y0=>by rw [hno y y3 y0 y2.2]at y4;cases y4]
  ·have h1:newest (copy P gs R) k=none:=rE.2 fun a ha hha=>by
    obtain ⟨a1,a2⟩:=acY.1 ha;rw [adg]at a2;have:=cnt a a1 hha.1 hha.2 a2.2;rw [hn]at this;cases this;exact hg a2.1
   have h2:newest (stay gs R) k=some r:=PX _ hn (by rw [aov]at hg;rw [hg];rfl);rw [h1];simp only;rw [h2]
end
end Go.aO
namespace Go.Seg
open Go.ay
open Go.ah (Bs aG encs fH dN)
open Go.Rep
section
variable {D N:List (Nat×List aG)}{x:aG}{gs:List Int}
def iF (D:List (Nat×List aG)):List aG:=D.flatMap (·.2)
theorem EW (D N:List (Nat×List aG)):iF (D++N)=iF D++iF N:=by unfold iF;rw [adz]
theorem xW:∀ (es:List aG) (a:Nat),(dN es a).map (·.e)=es
 |[],_=>rfl
 |x::es,a=>by unfold dN;rw [acS,xW es]
theorem rV (D:List (Nat×List aG)):(dG D).map (·.2.e)=iF D:=by
 induction D with
 |nil=>rfl
 |cons d D ih=>
  unfold dG iF at *
  rw [ada,ada,acI,ih,aee]
  congr 1
  exact xW d.2 8
theorem Z8 (fits:Bool) (h:fits=true→N≠[]):∃ N',rO (D++N) fits x=D++N'∧iF N'=iF N++[x]∧N'≠[]∧N'.length=N.length+(if fits=true then 0 else 1)∧∃ N0 c es,N'=N0++[(c,es++[x])]:=by
 cases fits with
 |true=>
  rcases List.eq_nil_or_concat N with rfl|⟨N0,e,rfl⟩
  ·exact absurd rfl (h rfl)
  ·rw [List.concat_eq_append,← acD];refine ⟨N0++[(e.1,e.2++[x])],?_,?_,by simp,by simp,N0,e.1,e.2,rfl⟩
   ·unfold rO;rw [acr rfl,List.dropLast_concat,← acD];simp
   ·rw [EW,EW];unfold iF;simp
 |false=>
  refine ⟨N++[(nJ (D++N),[x])],?_,?_,by simp,by simp,N,_,[],rfl⟩
  ·unfold rO;rw [abA aN,acD]
  ·rw [EW];unfold iF;simp
theorem alS (gs:List Int) (D:List (Nat×List aG)):aO.stay gs (dG D)=dG (D.filter fun d => !gs.contains (d.1:Int)):=by
 induction D with
 |nil=>rfl
 |cons d D ih=>
  have e:dG (d::D)=((dN d.2 8).map fun f=>((d.1:Int),f))++dG D:=by unfold dG;rw [ada]
  have e2:∀ D':List (Nat×List aG),dG (d::D')=((dN d.2 8).map fun f=>((d.1:Int),f))++dG D':=fun D'=>by unfold dG;rw [ada]
  have e1:aO.stay gs (dG (d::D))=aO.stay gs ((dN d.2 8).map fun f=>((d.1:Int),f))++aO.stay gs (dG D):=by unfold aO.stay;rw [e,anS]
  rw [e1,ih,aie];cases hg:gs.contains (d.1:Int) with
  |true=>
   rw [abA aN];have:aO.stay gs ((dN d.2 8).map fun f=>((d.1:Int),f))=[]:=by
    unfold aO.stay;rw [List.filter_eq_nil_iff];intro r hr;obtain ⟨f,_,rfl⟩:=abZ.1 hr;simp only [hg,Bool.not_true];decide
   rw [this,adl]
  |false=>
   rw [acr aN,e2]
   congr 1
   unfold aO.stay;rw [amw];intro r hr;obtain ⟨f,_,rfl⟩:=abZ.1 hr;simp only [hg,Bool.not_false]
theorem akd (h:D.Pairwise fun a b=>a.1<b.1):(dG D).Pairwise fun a b=>a.1≤b.1:=by
 induction D with
 |nil=>exact List.Pairwise.nil
 |cons d D ih=>
  rw [aeA]at h;have e:dG (d::D)=((dN d.2 8).map fun f=>((d.1:Int),f))++dG D:=by unfold dG;rw [ada]
  rw [e,ahE];refine ⟨?_,ih h.2,fun a ha b hb=>?_⟩
  ·rw [aij];exact List.pairwise_of_forall_mem_list fun _ _ _ _=>an2 _
  ·obtain ⟨f,_,rfl⟩:=abZ.1 ha;unfold dG at hb;obtain ⟨y,hy,hb⟩:=ahK.1 hb;obtain ⟨g,_,rfl⟩:=abZ.1 hb;have:=h.1 y hy;simp only;omega
theorem WS:∀ (es:List aG) (a:Nat){f:ah.dA},f∈dN es a→a≤f.at_
 |[],_,f,h=>by cases h
 |x::es,a,f,h=>by
  unfold dN at h;rcases acK.1 h with rfl|h
  ·exact abL _
  ·have:=WS es _ h;omega
theorem WU:∀ (es:List aG) (a:Nat),(∀ x∈es,fH x)→(dN es a).Pairwise fun f g=>f.at_<g.at_
 |[],_,_=>List.Pairwise.nil
 |x::es,a,h=>by
  unfold dN;rw [aeA];refine ⟨fun g hg=>?_,WU es _ fun y hy=>h y (.tail _ hy)⟩;have h1:=WS es _ hg;have h2:=ah.Wu (h x (.head _));show a<g.at_;omega
theorem Qd {α:Type}{f:α→Nat}{l:List α} (h:l.Pairwise fun a b=>f a<f b){a b:α} (ha:a∈l) (hb:b∈l) (e:f a=f b):a=b:=by
 induction l with
 |nil=>cases ha
 |cons x l ih=>
  rw [aeA]at h;rcases acK.1 ha with rfl|ha' <;> rcases acK.1 hb with rfl|hb'
  ·rfl
  ·have:=h.1 b hb';omega
  ·have:=h.1 a ha';omega
  ·exact ih h.2 ha' hb'
theorem ake (h:D.Pairwise fun a b=>a.1<b.1) (hg:∀ d∈D,∀ x∈d.2,fH x){a b:Row} (ha:a∈dG D) (hb:b∈dG D) (e:iH a=iH b):a=b:=by
 unfold dG at ha hb;obtain ⟨d,hd,ha⟩:=ahK.1 ha;obtain ⟨d',hd',hb⟩:=ahK.1 hb;obtain ⟨f,hf,rfl⟩:=abZ.1 ha;obtain ⟨g,hg',rfl⟩:=abZ.1 hb;unfold iH at e;simp only [aU.mk.injEq]at e;obtain rfl:d=d':=Qd (f:=fun d:Nat×List aG=>d.1) h hd hd' oQ;obtain rfl:f=g:=Qd (f:=fun f:ah.dA=>f.at_) (WU d.2 8 (hg d hd)) hf hg' oQ
 rfl
end
def Log.appends (L:Log) (M:ay):List aG→(Log×ay)×Int
 |[]=>((L,M),0)
 |x::xs=>if (L.append M x).2.2=0 then (L.append M x).1.1.appends (L.append M x).1.2 xs else ((L.append M x).1,(L.append M x).2.2)
def Log.removes (L:Log) (M:ay):List Int→(Log×ay)×Int
 |[]=>((L,M),0)
 |s::ss=>if (L.remove M s).2=0 then (L.remove M s).1.1.removes (L.remove M s).1.2 ss else L.remove M s
section
variable {K r E B n:Nat}{L:Log}{M:ay}{D N:List (Nat×List aG)}
structure Fine (x:aG):Prop where
 key:x.key.length=32
 data:x.data.length≤300
 enc:(ah.encode x).2=0
theorem HD.appends:∀ (xs:List aG){K n:Nat}{L:Log}{M:ay}{N:List (Nat×List aG)},HD K r E B n L M (D++N)→(L.on=true→N≠[])→L.fresh=(N.length:Int)→(∀ x∈xs,Fine x)→n+xs.length+E<500 →
  ∃ N',HD (K+4 * xs.length) r E B (n+xs.length) (L.appends M xs).1.1 (L.appends M xs).1.2 (D++N')∧(L.appends M xs).1.1.fresh=(N'.length:Int)∧aC.Grown M (L.appends M xs).1.2∧((n+xs.length) * 400+B≤r→(L.appends M xs).2=0) ∧
   ((L.appends M xs).2=0∧iF N'=iF N++xs∧((L.appends M xs).1.1.on=true→N'≠[])∧(L.appends M xs).1.1.limit=L.limit∨(L.appends M xs).2=11)
 |[],K,n,L,M,N,h,hon,hfr,_,_=>⟨N,h,hfr,aC.Grown.refl M,fun _=>rfl,.inl ⟨rfl,by rw [acM],hon,rfl⟩⟩
 |x::xs,K,n,L,M,N,h,hon,hfr,hx,hn=>by
  have hf:=hx x (.head _);rw [ac5]at hn;unfold Log.appends;have hnm:=h.names;have hus:=h.used;have hrm:=h.keeps.calm.room;have hgr:=aC.FT L M x;rcases h.zK oQ oQ hf.enc with hz|hz
  ·rw [acr hz];obtain ⟨a1,a2,a3,a4⟩:=h.append oQ x hf.key hf.data hf.enc (.inl hz);obtain ⟨_,k2⟩:=h.keeps.U0 hf.enc hz;obtain ⟨N1,b1,b2,b3,b4,_⟩:=Z8 (D:=D) (N:=N) (x:=x) (L.fits (ah.encode x).1.length) fun hq=>hon (xU hq);rw [b1]at a4;obtain ⟨N',c1,c2,c3,c4,c5⟩:=HD.appends xs a4 (fun _=>b3) (by rw [k2,hfr,b4];split <;> omega) (fun y hy=>hx y (.tail _ hy)) oQ;have e1:K+4+4 * xs.length≤K+4 * (x::xs).length:=by rw [ac5];omega
   have e2:n+1+xs.length≤n+(x::xs).length:=by rw [ac5];omega
   refine ⟨N',c1.mono e1 (abL _) (abL _) e2,c2,hgr.trans c3,fun q=>c4 (acz (Nat.add_le_add_right (afx 400 e2) B) q),?_⟩;rcases c5 with ⟨d1,d2,d3,d4⟩|d1
   ·exact .inl ⟨d1,by rw [d2,b2,acD];rfl,d3,d4.trans a3⟩
   ·exact .inr d1
  ·have hz':(L.append M x).2.2≠0:=by rw [hz];decide
   rw [abA hz'];obtain ⟨_,k2⟩:=h.keeps.append x hf.key;obtain ⟨_,k4,_⟩:=k2 hz';refine ⟨N,(h.IJ x hf.key hz').mono (by rw [ac5];omega) (abL _) (abL _) oQ,by rw [k4];exact hfr,hgr,fun q=>?_,.inr hz⟩;exfalso;rw [ac5]at q;exact hz' (h.append oQ x hf.key hf.data hf.enc (.inr ⟨by omega,by omega⟩)).1
theorem HD.removes:∀ (ss:List Nat){K:Nat}{L:Log}{M:ay}{D:List (Nat×List aG)},HD K r E B n L M D→ss.Nodup→(∀ s∈ss,∃ d∈D,d.1=s) →
  (L.removes M (ss.map fun s:Nat=>(s:Int))).2=0∧HD (K+ss.length) r E B n (L.removes M (ss.map fun s:Nat=>(s:Int))).1.1 (L.removes M (ss.map fun s:Nat=>(s:Int))).1.2 (D.filter fun d => !ss.contains d.1)∧(L.removes M (ss.map fun s:Nat=>(s:Int))).1.1.limit=L.limit∧aC.Grown M (L.removes M (ss.map fun s:Nat=>(s:Int))).1.2
 |[],K,L,M,D,h,_,_=>by
  refine ⟨rfl,?_,rfl,aC.Grown.refl M⟩;have e:(D.filter fun d => !([]:List Nat).contains d.1)=D:=by rw [amw];intro d _;rfl
  rw [e];exact h
 |s::ss,K,L,M,D,h,hu,hs=>by
  rw [amL]at hu;obtain ⟨d,hd,rfl⟩:=hs s (.head _);obtain ⟨a1,a2,a3⟩:=h.remove hd;have ih:=HD.removes ss a2 hu.2 fun t ht=>by
   obtain ⟨e,he,rfl⟩:=hs t (.tail _ ht);refine ⟨e,acY.2 ⟨he,?_⟩,rfl⟩;simp only [agL,ne_eq];intro hq;rw [hq]at ht;exact hu.1 ht
  obtain ⟨b1,b2,b3,b4⟩:=ih;have hg:aC.Grown M (L.remove M (d.1:Int)).1.2:=by
   unfold Log.remove;split
   ·exact aC.Grown.refl M
   ·split <;> exact fun p hp=> .inl (aC.J5 hp)
  rw [acS];unfold Log.removes;rw [acr a1];refine ⟨b1,?_,b3.trans a3,hg.trans b4⟩;have e:(D.filter fun y => !(d.1::ss).contains y.1)=(D.filter fun y=>y.1 != d.1).filter fun y => !ss.contains y.1:=by
   rw [List.filter_filter]
   congr 1
   funext y
   rw [List.contains_cons,Bool.not_or,Bool.and_comm]
   rfl
  rw [e];exact b2.mono (by rw [ac5];omega) (abL _) (abL _) (abL _)
theorem HD.Nk {d:Nat×List aG} (h:HD K r E B n L M (D++[d])):L.at (d.1:Int)=some D.length:=by
 obtain ⟨i,hi⟩:=h.EK (ac3.2 (.inr (acO.2 rfl)));obtain ⟨h1,s,h2,h3⟩:=Log.Ce hi;have hr:=h.rise;rw [ahE]at hr;rw [h.l,acE]at h2;obtain ⟨e,he,rfl⟩:=ag4.1 h2;rcases aoD i D.length with q|q|q
 ·rw [ac2 q]at he;have:=hr.2.2 e (abV he) d (acO.2 rfl);simp only at h3;omega
 ·rw [hi,q]
 ·have:=(abW.1 he).1;rw [aaK,ac7]at this;omega
theorem HD.back:∀ (j:Nat){K:Nat}{L:Log}{M:ay}{N:List (Nat×List aG)},HD K r E B n L M (D++N)→N.length=j→L.fresh=(j:Int) →
  (L.back j M).2=0∧HD (K+j) r E B n (L.back j M).1.1 (L.back j M).1.2 D∧((L.back j M).1.1.on=false∧(L.back j M).1.1.fresh=0)∧aC.Grown M (L.back j M).1.2∧Apart M (L.back j M).1.2
 |0,K,L,M,N,h,hN,hf=>by
  rw [agl hN,acM]at h;unfold Log.back;exact ⟨rfl,⟨⟨h.keeps.log.abd,h.keeps.calm,h.keeps.has⟩,h.l,h.rise,h.lim,h.file,h.good,h.used,h.names,h.cover⟩,⟨rfl,hf⟩,aC.Grown.refl M,Apart.refl M⟩
 |j+1,K,L,M,N,h,hN,hf=>by
  obtain ⟨N0,d,rfl⟩:∃ N0 d,N=N0++[d]:=by
   rcases List.eq_nil_or_concat N with rfl|⟨N0,d,rfl⟩
   ·cases hN
   ·exact ⟨N0,d,List.concat_eq_append⟩
  rw [← acD]at h;have hat:=h.Nk;obtain ⟨a1,a2,a3⟩:=h.remove (d:=d) (by simp);have hr:=h.rise;rw [ahE]at hr;have hfil:((D++N0++[d]).filter fun y=>y.1 != d.1)=D++N0:=by
   have h1:(D++N0).filter (fun y=>y.1 != d.1)=D++N0:=amw.2 fun y hy=>by
    have:=hr.2.2 y hy d (acO.2 rfl);simp only [agL,ne_eq];omega
   have h2:[d].filter (fun y=>y.1 != d.1)=[]:=List.filter_eq_nil_iff.2 fun y hy=>by
    rw [acO.1 hy];simp
   rw [anS,h1,h2,acM]
  rw [hfil]at a2;have hll:=adu List.length h.l;rw [abl,aaK,ac7]at hll;rw [aaK,ac7]at hN;have hl:L.l.getLast?=some ((d.1:Int),8+((encs d.2).length:Int)):=by rw [h.l,acI,acS,adw,anT];rfl
  have hfr:(L.remove M (d.1:Int)).1.1.fresh=(j:Int):=by
   unfold Log.remove at a1 ⊢;rw [hat]at a1 ⊢;simp only at a1 ⊢;by_cases q:(M.remove (name (d.1:Int))).2=0
   ·rw [acr q];show (if (L.l.length:Int) - L.fresh≤((D++N0).length:Int) then L.fresh - 1 else L.fresh)=(j:Int);rw [acr (by rw [hll,hf];omega),hf];omega
   ·rw [abA q]at a1;exact absurd a1 q
  unfold Log.back;rw [hl];simp only;rw [acr a1];obtain ⟨b1,b2,b3,b4,b5⟩:=HD.back j a2 oQ hfr;have hg:aC.Grown M (L.remove M (d.1:Int)).1.2∧Apart M (L.remove M (d.1:Int)).1.2:=by
   unfold Log.remove;rw [hat];simp only;split <;> exact ⟨fun p hp=> .inl (aC.J5 hp),Qw h.keeps.calm _⟩
  exact ⟨b1,b2.mono oQ (abL _) (abL _) (abL _),b3,hg.1.trans b4,hg.2.trans b5⟩
theorem HD.rollback (h:HD K r E B n L M (D++N)) (hf:L.fresh=(N.length:Int)):(L.rollback M).2=0∧HD (K+N.length) r E B n (L.rollback M).1.1 (L.rollback M).1.2 D∧((L.rollback M).1.1.on=false∧(L.rollback M).1.1.fresh=0)∧aC.Grown M (L.rollback M).1.2∧Apart M (L.rollback M).1.2:=by
 unfold Log.rollback;rw [hf,Int.toNat_natCast];exact HD.back N.length h rfl hf
end
section
variable {K r E B n:Nat}{L:Log}{M M':ay}{D:List (Nat×List aG)}
theorem HD.fresh (h:HD K r E B n L M D) (lim:Int) (l1:128≤lim) (l2:lim≤1048576):HD K r E B n (fresh M lim) M D:=by
 have hq:=h.keeps.calm.quiet;have hF:=Jf h.keeps.calm.ok lim l1 l2;have hs:(Seg.fresh M lim).aF=L.aF:=Yy (KC hF) (KC h.keeps.log) fun s=>by
  rw [aC.agi hq.off];constructor
  ·rintro ⟨⟨a,b⟩,i,hi⟩;obtain ⟨k,rfl⟩:∃ k:Nat,s=k:=⟨s.toNat,by omega⟩;obtain ⟨d,hd,rfl⟩:=h.cover k i oQ hi;rw [h.aF];exact abZ.2 ⟨d,hd,rfl⟩
  ·intro hs;obtain ⟨x,hx,rfl⟩:=abZ.1 hs;exact ⟨h.keeps.log.nums x hx,h.keeps.has x hx⟩
 have hlen:(Seg.fresh M lim).l.length=D.length:=by
  have:=adu List.length hs;rw [h.aF]at this;unfold Log.aF at this;rw [abl,abl]at this;exact this
 refine ⟨⟨hF,h.keeps.calm,agh M lim⟩,?_,h.rise,h.lim,h.file,h.good,h.used,h.names,h.cover⟩;refine an1 fun k=>?_;rw [acE];cases hd:D[k]? with
 |none=>exact ahG.2 (by rw [hlen];exact ahG.1 hd)
 |some d=>
  have hkl:k<D.length:=(abW.1 hd).1;have hx:(Seg.fresh M lim).l[k]?=some ((Seg.fresh M lim).l[k]'oQ):=aaI oQ;generalize (Seg.fresh M lim).l[k]'oQ=x at hx;obtain ⟨t,ht,hn,e⟩:=CP (abV hx);obtain ⟨a,b,c⟩:=Dk hn;have hk1:(Seg.fresh M lim).aF[k]?=some x.1:=by unfold Log.aF;rw [acE,hx];rfl
  rw [hs,h.aF,acE,hd]at hk1;have e1:(number t).1=(d.1:Int):=by rw [e]at hk1;exact (ahM hk1).symm
  rw [e1]at c;have hf:=h.file d (abV hd);rw [hx,e,e1,← c];show _=some ((d.1:Int),8+((encs d.2).length:Int))
  congr 2
  obtain ⟨i,hi⟩:=(aC.EJ hq).1 (adu Prod.snd hf);rw [all_some hq hi]at hf;have hl2:=adu (fun z:Bs×Int=>z.1.length) hf;simp only [aaK]at hl2;have hm:mag.length=8:=rfl;unfold ay.size;rw [hq.off,hi];show (((M.file i).now.length:Nat):Int)=_;omega
theorem HD.told (h:HD K r E B n L M D):∀ j es,(D.map (·.2))[j]?=some es→L.bytes M (L.aF.getD j 0)=(mag++encs es,0)∧∀ x∈es,fH x:=fun j es hj=>by
 rw [acE]at hj;cases hd:D[j]? with
 |none=>rw [hd]at hj;cases hj
 |some d=>
  rw [hd]at hj;cases hj;have hm:=abV hd;have e:L.aF.getD j 0=(d.1:Int):=by
   rw [h.aF,acG,acE,hd];rfl
  rw [e];exact ⟨h.bytes hm,(h.good d hm).1⟩
theorem HD.split (h:HD K r E B n L M D):∃ c,Rep.split (fun s=>L.bytes M s) L.aF L.aF.length=(c,0)∧c≤D.length∧(c≠0→∃ d,D[c - 1]?=some d∧Rep.lS d.2=true)∧∀ j d,c≤j→D[j]?=some d→Rep.lS d.2=false:=by
 have hl:L.aF.length=(D.map (·.2)).length:=by rw [h.aF,abl,abl]
 obtain ⟨c,h1,h2,h3,h4⟩:=Rep.Rx hl h.told (D.map (·.2)).length (abL _);rw [abl]at h2;refine ⟨c,by rw [hl];exact h1,h2,fun hc=>?_,fun j d a b=>?_⟩
 ·obtain ⟨es,h5,h6⟩:=h3 hc;rw [acE]at h5;cases hd:D[c - 1]? with
  |none=>rw [hd]at h5;cases h5
  |some d=>rw [hd]at h5;cases h5;exact ⟨d,rfl,h6⟩
 ·have hj:=(abW.1 b).1;exact h4 j d.2 a (by rw [abl];exact hj) (by rw [acE,b];rfl)
theorem HD.run (h:HD K r E B n L M D) (hc:∀ d,D.getLast?=some d→Rep.lS d.2=true):Rep.run (fun s=>L.bytes M s) L.aF = .inr D.length:=by
 obtain ⟨c,h1,h2,_,h4⟩:=h.split;have hcl:c=D.length:=by
  rcases amB c D.length with q|q
  ·exfalso;have hl:D[D.length - 1]?=some (D[D.length - 1]'oQ):=aaI oQ;have h5:=h4 _ _ oQ hl;have h6:=hc _ (by rw [adv];exact hl);rw [h5]at h6;cases h6
  ·omega
 unfold Rep.run;rw [h1,abA (by simp),hcl];refine Rep.QZ ?_;have e:L.aF.take D.length=L.aF:=acX (by rw [h.aF,abl];exact abL _);rw [e];exact h.bad
theorem HD.Qs (h:HD K r E B n L M D){r':Rep.Row} (hr:r'∈dG D):L.read M (Rep.iH r')=(r'.2.e,0):=by
 unfold dG at hr;obtain ⟨d,hd,hr⟩:=ahK.1 hr;obtain ⟨f,h3,rfl⟩:=abZ.1 hr;obtain ⟨u,v,h4,h5,h6⟩:=Rep.CJ d.2 8 h3;obtain ⟨e,at_,size⟩:=f;simp only at h3 h4 h5 h6;subst h5;subst h6;have hx:fH e:=(h.good d hd).1 e (by rw [h4];simp);have hf:=h.file d hd;have hm:mag.length=8:=rfl;have hes:encs d.2=encs u++((ah.encode e).1++encs v):=by rw [h4,xP];rfl
 have hrd:=aao h.keeps.calm.quiet hf (a:=8+(encs u).length) (n:=(ah.encode e).1.length) (by rw [aaK,hes,aaK,aaK];omega);have hdd:((mag++encs d.2).drop (8+(encs u).length)).take (ah.encode e).1.length=(ah.encode e).1:=by
  rw [hes,← acD,aou,adp (by rw [aaK];omega)];rw [show 8+(encs u).length - (mag++encs u).length=0 by rw [aaK];omega,aoy,adl,ado (abL _),adk]
 rw [hdd]at hrd;have hre:=ah.Qu hx.1 hx.2 [];rw [acM]at hre;obtain ⟨i,hi⟩:=h.EK hd;unfold Log.read Rep.iH;simp only [hi];rw [hrd];simp only [hre];rw [abA aN,abA aN,abA (by simp)]
end
end Go.Seg
namespace Go.aO
open Go.ah (Bs dA aG dN encs fH)
open Go.Seg (aU)
open Go.Rep
section
variable {P:Plan}{gs:List Int}{s pc:Int}
theorem FX:∀ l:List dA,0≤mQ P gs s l∧mQ P gs s l≤pay l
 |[]=>⟨an2 _,an2 _⟩
 |f::l=>by
  have ih:=FX l;have hc:counts P gs s f=true→f.e.tag≠2:=fun h e=>by
   unfold counts at h;rw [acr e]at h;cases h
  unfold mQ pay;by_cases h2:f.e.tag=2
  ·rw [acr h2,abA fun h=>hc h h2];omega
  ·rw [abA h2];split <;> omega
theorem ZR:∀ a b:List dA,pay (a++b)=pay a+pay b
 |[],b=>by simp [pay]
 |f::a,b=>by
  have ih:=ZR a b;have e1:pay (f::(a++b))=(if f.e.tag=2 then 0 else (f.size:Int))+pay (a++b):=rfl;have e2:pay (f::a)=(if f.e.tag=2 then 0 else (f.size:Int))+pay a:=rfl;rw [adA,e1,e2,ih];omega
theorem ZU (l:List dA) (j:Nat):pay (l.take j)≤pay l:=by
 have h1:=ZR (l.take j) (l.drop j);rw [adB]at h1;have h2:=FX (P:=⟨0,[],fun _=>none,fun _=>none⟩) (gs:=[]) (s:=0) (l.drop j);omega
def Jz (P:Plan) (gs:List Int):Nat:=P.aF.countP fun x => !gs.contains x.1
theorem VK {α:Type}{p q:α→Bool}:∀ l:List α,(∀ x∈l,p x=true→q x=true)→(∃ x∈l,q x=true∧p x=false)→l.countP p<l.countP q
 |[],_,h=>by obtain ⟨x,hx,_⟩:=h;cases hx
 |y::l,h1,h=>by
  have hm:=List.countP_mono_left (l:=l) fun x hx=>h1 x (List.mem_cons_of_mem _ hx);rw [aos,aos];by_cases hy:q y=true∧p y=false
  ·rw [acr hy.1,hy.2,abA aN];omega
  ·obtain ⟨x,hx,hq⟩:=h;rcases acK.1 hx with e|hx
   ·rw [e]at hq;exact absurd hq hy
   have ih:=VK l (fun x hx=>h1 x (List.mem_cons_of_mem _ hx)) ⟨x,hx,hq⟩;have h2:=h1 y (List.mem_cons_self ..);cases hp:p y with
   |true=>rw [h2 hp];omega
   |false=>rw [abA aN];omega
theorem ah2 (h:nextL P gs pc P.aF≠[]):Jz P (gs++nextL P gs pc P.aF)<Jz P gs:=by
 obtain ⟨t,ht⟩:=List.exists_mem_of_ne_nil _ h;obtain ⟨x,hx,rfl⟩:=abZ.1 ht;have hx2:=acY.1 hx;rw [adg]at hx2;refine VK _ (fun y hy hp=>?_) ⟨x,hx2.1,hx2.2.1,?_⟩
 ·rw [aoE,← aov,an3]at hp ⊢;exact fun hm=>hp (List.mem_append_left _ hm)
 ·rw [Bool.not_eq_false',an3];exact List.mem_append_right _ ht
theorem aiE (hnd:(P.aF.map (·.1)).Nodup):(nextL P gs pc P.aF).Nodup∧∀ t∈nextL P gs pc P.aF,t∉gs:=by
 refine ⟨hnd.sublist (anZ.map _),fun t ht hm=>?_⟩;obtain ⟨x,hx,rfl⟩:=abZ.1 ht;have hx2:=(acY.1 hx).2;rw [adg,an3.2 hm]at hx2;cases hx2.1
def chosen (P:Plan) (pc:Int):List Int:=choose P pc (P.aF.length+1) []
theorem left_le:Jz P gs≤P.aF.length:=List.countP_le_length
theorem VA {n:Nat} (h:nextL P gs pc P.aF=[]):choose P pc (n+1) gs=gs:=by
 unfold choose;rw [acr h]
theorem VB {n:Nat} (h:nextL P gs pc P.aF≠[]):choose P pc (n+1) gs=choose P pc n (gs++nextL P gs pc P.aF):=by
 rw [choose,abA h]
end
end Go.aO
namespace Go.aO
open Go.ah (Bs dA aG dN encs fH)
open Go.Seg (aU dG iF kD)
open Go.Rep
def fV (D:List (Nat×List aG)):List (Int×List dA):=D.map fun d=>((d.1:Int),dN d.2 8)
section
variable {D:List (Nat×List aG)}{d:Nat×List aG}
theorem KA:(fV D).length=D.length:=abl ..
theorem Rn {k:Nat} (hk:D[k]?=some d):(fV D)[k]?=some ((d.1:Int),dN d.2 8):=by
 unfold fV;rw [acE,hk];rfl
theorem aaH:jK (fV D)=dG D:=by
 unfold jK fV dG;rw [List.flatMap_map]
theorem QH:(jK (fV D)).length=(iF D).length:=by
 rw [aaH,← Seg.rV,abl]
theorem alg (h:D.Pairwise fun a b=>a.1<b.1):((fV D).map (·.1)).Nodup:=by
 unfold fV;rw [aee];exact h.map _ fun a b hab=>by show (a.1:Int)≠b.1;omega
theorem alh (C:List (List aG)):fV (kD C)=tN C:=by
 refine an1 fun i=>?_;cases hc:C[i]? with
 |none=>
  have h1:=ahG.1 hc;rw [ahG.2 (show (tN C).length≤i by rw [ale];exact h1)];unfold fV;rw [acE,Seg.uO,hc];rfl
 |some es=>
  rw [ald hc];exact Rn (by rw [Seg.uO,hc];rfl)
end
end Go.aO
namespace Go.Seg
open Go.ay
open Go.ah (Bs aG encs fH dN)
open Go.Rep
def jg (D:List (Nat×List aG)):Int:=match D.getLast? with
 |none=> -1
 |some d=>(d.1:Int)
def wR (D:List (Nat×List aG)):Prop:=∀ d,D.getLast?=some d→lS d.2=true
def lC (D:List (Nat×List aG)):List Use:=D.map fun d=>⟨(d.1:Int),((mag++encs d.2).length:Int),0⟩
structure ji (K r E B n:Nat) (L:Log) (M:ay) (D:List (Nat×List aG)):Prop where
 hd:HD K r E B n L M D
 tmp:bP M.now aC.tmp=none
 few:(iF D).length≤n
 small:∀ p∈M.now,p.1.size≤24
 thin:∀ e∈iF D,e.data.length≤300
structure EI (D:List (Nat×List aG)) (N:Int) (us:List Use):Prop where
 last:N=jg D
 kv:∃ kv,Tab.Lists (ledger (dG D)) kv∧(∀ q∈kv,q.1.length=32)∧us=(lC D).map (upd kv)
 ends:wR D
def HN (M:ay) (N:Int):Prop:=∀ p∈M.now,(aC.number p.1).2=true→(aC.number p.1).1≤N
structure Iz (D:List (Nat×List aG)) (N:Int) (us:List Use) (pl:List (Bs×aU)):Prop where
 last:N=jg D
 kv:∃ kv,Tab.Lists (ledger (dG D)) kv∧(∀ q∈kv,q.1.length=32)∧us=(lC D).map (upd kv)∧pl=puts kv
 ends:wR D
structure Ep (r0 E n B0:Nat) (M:ay) (D0:List (Nat×List aG)) (N:Int) (us:List Use):Prop where
 used:B0≤E * (20+28 * n)
 hn:HN M N
 lim:N<1048576
 ex:∃ pl,Iz D0 N us pl∧(r0=1048576→n≤200→E≤130→(D0=[]→NF M)∧(D0≠[]→HF M N pl us))
structure CD (K r E B n:Nat) (L:Log) (M:ay) (D:List (Nat×List aG)) (N:Int) (us:List Use):Prop where
 rp:ji K r E B n L M D
 off:L.on=false
 fresh:L.fresh=0
 ext:Ep r E n B M D N us
section
variable {K r E B n:Nat}{L:Log}{M M':ay}{C:List (List aG)}{D N1:List (Nat×List aG)}{N:Int}{d:Nat×List aG}{us:List Use}{q:Row}{k:Bs}{pl:aU}{ps:List (Bs×aU)}
theorem NY (C:List (List aG)):iF (kD C)=C.flatten:=by rw [← rV,J9,QE]
theorem Rp.rpd (h:Rp K r E B n L M C):ji K r E B n L M (kD C):=⟨h.hg.hd,h.tmp,by rw [NY];exact h.few,h.small,by rw [NY];exact h.thin⟩
theorem ji.mono (h:ji K r E B n L M D){K' E' B' n':Nat} (h1:K≤K') (h2:E≤E') (h3:B≤B') (h4:n≤n'):ji K' r E' B' n' L M D:=⟨h.hd.mono h1 h2 h3 h4,h.tmp,acz h.few h4,h.small,h.thin⟩
theorem aas:∀ {D:List (Nat×List aG)}{a n:Nat},D.Pairwise (fun a b=>a.1<b.1)→(∀ d∈D,a≤d.1∧d.1<n)→D.length≤n - a
 |[],_,_,_,_=>acV _
 |d::D,a,n,hp,h=>by
  rw [aeA]at hp;have h1:=h d (.head _);have ih:=aas (a:=d.1+1) (n:=n) hp.2 fun e he=>⟨hp.1 e he,(h e (.tail _ he)).2⟩;rw [ac5];omega
theorem HD.count (h:HD K r E B n L M D):D.length≤n:=by
 have:=aas (a:=0) h.rise fun d hd=>⟨acV _,h.lim d hd⟩;omega
theorem QF (d:Nat×List aG) (D:List (Nat×List aG)):dG (d::D)=((dN d.2 8).map fun f=>((d.1:Int),f))++dG D:=by unfold dG;rw [ada]
theorem aaE (hq:q∈dG D):∃ d∈D,q.1=(d.1:Int)∧q.2∈dN d.2 8∧∃ u v,d.2=u++q.2.e::v∧q.2.at_=8+(encs u).length∧q.2.size=(ah.encode q.2.e).1.length:=by
 unfold dG at hq;obtain ⟨d,hd,hq⟩:=ahK.1 hq;obtain ⟨f,hf,rfl⟩:=abZ.1 hq;obtain ⟨u,v,h⟩:=Rep.CJ d.2 8 hf;exact ⟨d,hd,rfl,hf,u,v,h⟩
theorem HD.row (h:HD K r E B n L M D) (hq:q∈dG D):L.read M (iH q)=(q.2.e,0)∧fH q.2.e∧(q.2.size:Int)≤4294967296∧(q.2.at_:Int)≤4294967296:=by
 refine ⟨h.Qs hq,?_⟩;obtain ⟨d,hd,h1,h2,u,v,h8,h9,h10⟩:=aaE hq;have hsz:=h.keeps.log.sizes ((d.1:Int),8+((encs d.2).length:Int)) (by rw [h.l];exact abZ.2 ⟨d,hd,rfl⟩);have he:(encs d.2).length=(encs u).length+((ah.encode q.2.e).1.length+(encs v).length):=by
  conv=>lhs;rw [h8]
  rw [xP,aaK]
  congr 1
  exact aaK
 simp only at hsz;exact ⟨(h.good d hd).1 _ (by rw [h8];simp),by omega,by omega⟩
theorem ji.iY (h:ji K r E B n L M D):(rowsOf (fun s=>L.bytes M s) L.aF).length≤n:=by
 rw [h.hd.rows,← abl (f:=fun r:Row=>r.2.e),rV];exact h.few
theorem ji.QK (h:ji K r E B n L M D):∀ q∈rowsOf (fun s=>L.bytes M s) L.aF,(q.2.size:Int)≤4294967296:=fun q hq=>by
 rw [h.hd.rows]at hq;exact (h.hd.row hq).2.2.1
theorem HD.got (h:HD K r E B n L M D) (hk:dO (dG D) k=some pl):∃ data,L.read M pl=(⟨0,k,data⟩,0)∧jA (iF D) k=some data∧data.length≤16384∧(-9223372036854775808≤pl.at_∧pl.at_≤9223372036854775807)∧(-9223372036854775808≤pl.size∧pl.size≤9223372036854775807)∧k.length=32:=by
 obtain ⟨q,hq,e1,e2,e3,e4⟩:=aiH hk;obtain ⟨r1,r2,r3,r4⟩:=h.row hq;rw [rV]at e4;obtain ⟨s,⟨⟨tag,key,data⟩,at_,size⟩⟩:=q;obtain rfl:tag=0:=e2;obtain rfl:key=k:=e3;refine ⟨data,by rw [← e1];exact r1,e4,?_,?_,?_,r2.2⟩
 ·rcases ah.EO (ah.ES r2.1).1 with ⟨_,q⟩|⟨q,_⟩|⟨q,_⟩
  ·exact q
  ·cases q
  ·cases q
 ·rw [← e1];show -9223372036854775808≤(at_:Int)∧(at_:Int)≤9223372036854775807;have:(at_:Int)≤4294967296:=r4;omega
 ·rw [← e1];show -9223372036854775808≤(size:Int)∧(size:Int)≤9223372036854775807;have:(size:Int)≤4294967296:=r3;omega
theorem HD.size (h:HD K r E B n L M D) (hd:d∈D):L.size (d.1:Int)=((mag++encs d.2).length:Nat):=by
 obtain ⟨i,hi⟩:=h.EK hd;obtain ⟨h1,s,h2,h3⟩:=Log.Ce hi;have h4:=h2;rw [h.l,acE]at h4;obtain ⟨e,he,rfl⟩:=ag4.1 h4;simp only at h3;obtain rfl:e=d:=Qd (f:=fun d:Nat×List aG=>d.1) h.rise (abV he) hd oQ;unfold Log.size;rw [hi];simp only [acG,h2,anW,aaK];have:mag.length=8:=rfl;omega
theorem aa5 {s:Int}:∀ {D:List (Nat×List aG)},(∀ d∈D,(d.1:Int)≠s)→qx (dG D) s=0
 |[],_=>rfl
 |d::D,h=>by rw [QF,Dz,Gu,abA (h d (.head _)),aa5 fun e he=>h e (.tail _ he)];rfl
theorem aa4:∀ {D:List (Nat×List aG)},D.Pairwise (fun a b=>a.1<b.1)→d∈D→qx (dG D) (d.1:Int)=(encs d.2).length
 |[],_,h=>by cases h
 |e::D,hp,h=>by
  rw [aeA]at hp;rw [QF,Dz,Gu];rcases acK.1 h with rfl|h
  ·rw [acr rfl,Oa,aa5 fun e he=>by have:=hp.1 e he;omega];omega
  ·have:=hp.1 d h;rw [abA oQ,aa4 hp.2 h];omega
theorem HD.uses (h:HD K r E B n L M D):jC (fun s=>L.bytes M s) L.aF=lC D:=by
 rw [h.aF];unfold jC lC;rw [aee];refine amJ fun d hd=>?_;simp only [Function.comp_apply,h.bytes hd]
theorem abQ (kv:List (Bs×dP)):((lC D).map (upd kv)).map (·.seg)=D.map fun d=>(d.1:Int):=by
 unfold lC;rw [aee,aee]
 rfl
theorem EI.uses (h:EI D N us):us.map (·.seg)=D.map fun d=>(d.1:Int):=by
 obtain ⟨kv,_,_,rfl⟩:=h.kv;exact abQ kv
theorem HD.hint (h:HD K r E B n L M D){kv:List (Bs×dP)} (hk:Tab.Lists (ledger (dG D)) kv) (h32:∀ q∈kv,q.1.length=32):mJ L D.length ((lC D).map (upd kv)) (puts kv):=by
 have htk:L.aF.take D.length=L.aF:=acX (by rw [h.aF,abl];exact abL _);have hok:=rows_ok h.keeps.log M D.length;rw [htk,h.rows]at hok;have hrow:∀ p∈kv,∃ r,r∈dG D∧dJ r≠2∧p.2.tag=dJ r∧p.2.place=iH r:=fun p hp=>by
  have h1:=(hk.mem p.1 p.2).1 hp;unfold ledger at h1;obtain ⟨r,h2,h3⟩:=ag4.1 h1;obtain ⟨h4,h5,_⟩:=JH h2;exact ⟨r,h4,h5,by rw [← h3],by rw [← h3]⟩
 have hm:mag.length=8:=rfl;refine ⟨by rw [htk,h.aF];exact abQ kv,fun u hu=>?_,fun q hq=>?_,Rep.Gj hk.rise,fun q hq=>?_⟩
 ·obtain ⟨u0,h1,rfl⟩:=abZ.1 hu;unfold lC at h1;obtain ⟨d,hd,rfl⟩:=abZ.1 h1;have hz:=h.size hd;have hlv:=YU hok hk (d.1:Int);have hls:=Pq (l:=dG D) (d.1:Int) _ (abL _);rw [adk,hlv,aa4 h.rise hd]at hls;have hsz:=h.keeps.log.sizes ((d.1:Int),8+((encs d.2).length:Int)) (by rw [h.l];exact abZ.2 ⟨d,hd,rfl⟩);unfold upd;simp only [hz,aaK];simp only at hsz;refine ⟨hls.1,?_,trivial,?_⟩
  ·have:=hls.2;omega
  ·omega
 ·unfold puts at hq;obtain ⟨p,hp,rfl⟩:=abZ.1 hq;exact h32 p (acY.1 hp).1
 ·unfold puts at hq;obtain ⟨p,hp,rfl⟩:=abZ.1 hq;obtain ⟨hp1,hp2⟩:=acY.1 hp;obtain ⟨r,h1,_,h3,h4⟩:=hrow p hp1;obtain ⟨d,hd,hr1,h7,u,v,h8,h9,h10⟩:=aaE h1;have hg:fH r.2.e:=(h.good d hd).1 _ (by rw [h8];simp);have hz:=h.size hd;have ht:r.2.e.tag=0:=by
   have:p.2.tag=0:=by simpa using hp2
   rw [h3]at this;exact this
  have hl:r.2.size=41+r.2.e.data.length:=by
   rw [h10,BD hg.1 hg.2];unfold ah.size;rw [abA (by simp [(ah.ES hg.1).1]),abA (by rw [ht];decide)]
  have hes:encs d.2=encs u++((ah.encode r.2.e).1++encs v):=by rw [h8,xP];rfl
  simp only;rw [h4];show 8≤(r.2.at_:Int)∧41≤(r.2.size:Int)∧(r.2.at_:Int)+(r.2.size:Int)≤L.size r.1∧r.1∈L.aF.take D.length;rw [htk,hr1,hz,aaK,hes,aaK,aaK];refine ⟨by omega,by omega,by omega,?_⟩;rw [h.aF];exact abZ.2 ⟨d,hd,rfl⟩
theorem HD.Y0 (h:HD K r E B n L M D):jg D<n:=by
 unfold jg;cases hl:D.getLast? with
 |none=>simp only;omega
 |some d=>have:=h.lim d (agv hl);simp only;omega
theorem HD.last (h:HD K r E B n L M D) (hc:wR D):lastOf (fun s=>L.bytes M s) L.aF=(jg D,0)∧Rep.run (fun s=>L.bytes M s) L.aF = .inr L.aF.length∧nY L.aF=jg D:=by
 have hlen:L.aF.length=D.length:=by rw [h.aF,abl]
 have hll:nY L.aF=jg D:=by
  unfold nY jg;rw [h.aF,List.getLast?_map];cases D.getLast? <;> rfl
 refine ⟨?_,by rw [hlen];exact h.run hc,hll⟩;obtain ⟨c,h1,h2,_,h4⟩:=h.split;have hcl:c=D.length:=by
  rcases amB c D.length with q|q
  ·exfalso;have hl:D[D.length - 1]?=some (D[D.length - 1]'oQ):=aaI oQ;have h5:=h4 _ _ oQ hl;have h6:=hc _ (by rw [adv];exact hl);rw [h5]at h6;cases h6
  ·omega
 unfold lastOf;rw [h1];simp only;rw [abA (by simp),hcl];by_cases h0:D.length=0
 ·rw [acr h0];unfold jg;rw [agl h0]
  rfl
 ·rw [abA h0,← hll];unfold nY;rw [adv,hlen,acG];cases hq:L.aF[D.length - 1]? with
  |none=>exact absurd (ahG.1 hq) oQ
  |some s=>rfl
theorem HN.grown (h:HN M N) (g:aC.Grown M M'):HN M' N:=fun p hp hn=>by
 rcases g p hp with q|⟨k,q⟩
 ·exact h p q hn
 ·rw [q,aC.yF]at hn;cases hn
theorem HN.mono {N':Int} (h:HN M N) (hl:N≤N'):HN M N':=fun p hp hn=>Int.le_trans (h p hp hn) hl
theorem Zh:∀ (l:List ByteArray) (x:Int),x≤N→(∀ s∈l,(aC.number s).2=true→(aC.number s).1≤N)→aC.yD l x≤N
 |[],_,h,_=>h
 |f::l,x,h,hl=>by
  unfold aC.yD;refine Zh l _ ?_ fun s hs=>hl s (.tail _ hs);split
  ·have:=hl f (.head _) aQ;omega
  ·exact h
theorem HN.newest (h:HN M N) (q:Quiet M) (h1 : -1≤N):aC.newest M≤N:=by
 refine Zh M.list (-1) h1 fun s hs he=>?_;rw [q.list]at hs;obtain ⟨p,hp,rfl⟩:=abZ.1 hs;exact h p hp he
theorem HN.there {N':Int} (h:HN M N) (q:Quiet M) (h0:N<N') (h1:0≤N') (h2:N'<1048576):aC.there M (aC.name aC.idx N')=false:=by
 cases hi:bP M.now (aC.name aC.idx N') with
 |none=>exact aC.abt q hi
 |some i=>
  have h3:=h _ (jF hi);rw [aC.wu (.inl aC.CX) N' h1 h2]at h3;have:=h3 rfl;simp only at this;omega
theorem Zx (C:List (List aG)):(kD C).length=C.length:=List.length_mapIdx ..
theorem Zw (C:List (List aG)):(kD C).getLast?=C.getLast?.map fun es=>(C.length - 1,es):=by
 rw [adv,uO,Zx,adv]
theorem YE (C:List (List aG)):jg (kD C)=(C.length:Int) - 1:=by
 unfold jg;rw [Zw];cases hC:C.getLast? with
 |none=>rw [ank.1 hC];rfl
 |some es=>
  have:0<C.length:=List.length_pos_of_mem (agv hC);simp only [ahf];omega
theorem abP (C:List (List aG)):lC (kD C)=DV C:=by
 refine an1 fun i=>?_;unfold lC DV;rw [acE,uO,acE];by_cases hi:i<C.length
 ·rw [List.getElem?_range' hi,aaI hi];simp only [ahf];rw [acG,Nat.one_mul,acT,aaI hi]
  rfl
 ·rw [ahG.2 oQ,ahG.2 (by rw [aox];omega)]
  rfl
theorem EH.std (h:EH C N us ps):EI (kD C) N us:=by
 obtain ⟨kv,k1,k2,k3,_⟩:=h.kv;refine ⟨by rw [YE];exact h.last,⟨kv,by rw [J9];exact k1,k2,by rw [abP];exact k3⟩,fun d hd=>?_⟩;rw [Zw]at hd;obtain ⟨es,h1,rfl⟩:=ag4.1 hd;rcases h.ends with e|⟨fs,e1,e2⟩
 ·rw [e]at h1;cases h1
 ·rw [adv,e1]at h1;cases h1;exact e2
theorem oD.hn {r0 B0:Nat} (h:oD r0 E n B0 M C N us) (h1:300000≤r0) (h2:n≤45) (h3:E≤90):HN M N:=fun p hp hn=>by
 obtain ⟨_,pl,_,q⟩:=h;obtain ⟨q1,q2⟩:=q h1 h2 h3;by_cases hC:C=[]
 ·have:=q1 hC p hp;rw [this]at hn;cases hn
 ·rw [(q2 hC).num p hp hn];exact an2 _
theorem Iz.std (h:Iz D N us ps):EI D N us:=by
 obtain ⟨kv,k1,k2,k3,_⟩:=h.kv;exact ⟨h.last,⟨kv,k1,k2,k3⟩,h.ends⟩
theorem CD.st (h:CD K r E B n L M D N us):EI D N us:=by
 obtain ⟨pl,hp,_⟩:=h.ext.ex;exact hp.std
theorem CD.hn (h:CD K r E B n L M D N us):HN M N:=h.ext.hn
theorem CD.used (h:CD K r E B n L M D N us):B≤E * (20+28 * n):=h.ext.used
theorem Ep.mono {r0 n' E':Nat} (h:Ep r0 E n B M D N us) (hn:n≤n') (hE:E≤E'):Ep r0 E' n' B M D N us:=by
 obtain ⟨u,h1,h2,pl,s,q⟩:=h;exact ⟨acz u (anv hE oQ),h1,h2,pl,s,fun a b c=>q a oQ oQ⟩
theorem oD.hd {r0:Nat} (h:oD r0 E n B M C N us) (h1:300000≤r0) (h2:n≤45) (h3:E≤90) (hc:C.length≤1048576):Ep r0 E n B M (kD C) N us:=by
 obtain ⟨u,pl,s,q⟩:=id h;obtain ⟨q1,q2⟩:=q h1 h2 h3;obtain ⟨kv,k1,k2,k3,k4⟩:=s.kv;refine ⟨u,h.hn h1 h2 h3,by have:=s.last;omega,pl,⟨by rw [YE];exact s.last,⟨kv,by rw [J9];exact k1,k2,by rw [abP];exact k3,k4⟩,s.std.ends⟩,fun _ _ _=>⟨fun e=>q1 ?_,fun e=>q2 ?_⟩⟩
 ·exact agl (by rw [← Zx,e];rfl)
 ·rintro rfl;exact e rfl
theorem ji.fresh (h:ji K r E B n L M D) (lim:Int) (l1:128≤lim) (l2:lim≤1048576):ji K r E B n (Seg.fresh M lim) M D:=⟨h.hd.fresh lim l1 l2,h.tmp,h.few,h.small,h.thin⟩
theorem HD.apart {K' E' B':Nat} (h:HD K r E B n L M D) (c:Calm K' r M') (ha:∀ k:Int,M'.all (name k)=M.all (name k)) (hu:M'.used≤n * 400+B') (hn:M'.now.length≤n+E'):HD K' r E' B' n L M' D:=by
 have has:∀ k:Int,(∃ i,bP M'.now (name k)=some i)↔∃ i,bP M.now (name k)=some i:=fun k=>by
  rw [← aC.EJ c.quiet,← aC.EJ h.keeps.calm.quiet,ha]
 exact ⟨⟨h.keeps.log,c,fun s hs=>(has s.1).2 (h.keeps.has s hs)⟩,h.l,h.rise,h.lim,fun d hd=>by rw [ha];exact h.file d hd,h.good,hu,hn,fun k i hk hi=>by
  obtain ⟨j,hj⟩:=(has k).1 ⟨i,hi⟩;exact h.cover k j hk hj⟩
theorem ji.save (h:ji K r E B n L M D) (hn:n+E≤480) (hh:HN M N) (h1:0≤N) (h2:N<1048576) (b1 b2:Bs) :
  ji (K+600) r (E+2) (B+b1.length+b2.length) n L (aC.save M N b1 b2).1 D∧((aC.save M N b1 b2).2=0∨(aC.save M N b1 b2).2=11)∧HN (aC.save M N b1 b2).1 N ∧
   (∀ f∈(aC.write (aC.write M (aC.name aC.idx N) b1).1 (aC.name aC.use N) b2).1.dR.1.list,f.size≤4000000000):=by
 have hnm:=h.hd.names;have s:=aC.Kt (b1:=b1) (b2:=b2) h.hd.keeps.calm h.tmp oQ h1 h2;have g1:=aC.AQ (ld:=aC.idx) rfl aN N h1 h2;have g2:=aC.AQ (ld:=aC.use) rfl aN N h1 h2;have hsz:∀ ld:ByteArray,ld.data.toList.length=4→(aC.name ld N).size≤24:=fun ld hl=>by
  show (aC.name ld N).data.size≤24;rw [← acJ,aC.name_eq ld N h1 h2,aaK,hl,vU];omega
 refine ⟨⟨h.hd.apart s.calm (fun k=>s.other _ (aC.GH k).symm (aC.Ky k N h1 h2) (aC.Kz k N h1 h2) (aC.Qc (by rw [aC.yF]))) (by have:=s.used;have:=h.hd.used;omega) (by have:=s.len;omega),s.tmp,h.few,fun p hp=>?_,h.thin⟩,s.done.imp (·.1) id,fun p hp hm=>?_,fun f hf=>?_⟩
 ·rcases s.names p hp with q|q|q
  ·exact h.small p q
  ·rw [q];exact hsz _ rfl
  ·rw [q];exact hsz _ rfl
 ·rcases s.names p hp with q|q|q
  ·exact hh p q hm
  ·rw [q,aC.wu (.inl aC.CX) N h1 h2];exact an2 _
  ·rw [q,aC.wu (.inr aC.GL) N h1 h2];exact an2 _
 ·have w1:=aC.DY (b:=b1) h.hd.keeps.calm h.tmp oQ g1 (aC.OZ N h1 h2);have w2:=aC.DY (b:=b2) w1.calm w1.tmp (by have:=w1.len;omega) g2 (aC.SC N h1 h2);rw [w2.calm.dR.quiet.list,aC.KJ]at hf;obtain ⟨p,hp,rfl⟩:=abZ.1 hf;refine acz (m:=24) ?_ aN;rcases w2.names p hp with q|q
  ·rcases w1.names p q with q|q
   ·exact h.small p q
   ·rw [q];exact hsz _ rfl
  ·rw [q];exact hsz _ rfl
end
end Go.Seg
namespace Go.Proofs.YtihngncbioofnaaGreatDoor
open Go Go.Sl Go.ay Go.MapKept Go.RowKit
section
variable {w0 w:World}{F:List aH}{r m p ps pn pi B:Nat}{seg N:Int}{d:Bool}{uv tv:Value}{mi:ah.Bs→Option Seg.aU}{us:List Rep.Use}{xs:List Value}
theorem aeO (h1:∀ u∈xs,u.oneCell'=true) (hl:xs.length≤2147483648) (h:Sat w0 w (aB 45 3 uv xs::F)) :
  Calls Tryz.prog 44 #[uv] w (aP fun v w'=>Sat w0 w' (aB 45 3 v xs::aB 45 3 uv xs::F)):=by
 have H1:=uQ h1;have Hl:=uQ hl;obtain ⟨a,n,c,rfl,hn,hcs⟩:=Sat.rd h;clear h1 hl;cases a with
 |none=>
  have hx:xs=[]:=by
   cases xs with
   |nil=>rfl
   |cons x xs=>obtain ⟨_,e,_⟩:=hcs 0 x rfl;cases e
  subst hx;obtain rfl:n=0:=by simp only [adF]at hn;omega
  have he:∀ w,(binOp .eql 36 (.slice none 0 c) (.slice none 0 0)).run Tryz.prog w = .ok (.bool true) w:=fun w=>by first|kernel_rfl|rfl
  go_enter Tryz.func44,Tryz.ntmps44;go_wp2_with fail;go_ret;exact ⟨_,rfl,Sat.gI.2 h⟩
 |some ad=>
  clear hn hcs;have he:∀ w,(binOp .eql 36 (.slice (some ad) n c) (.slice none 0 0)).run Tryz.prog w = .ok (.bool false) w:=fun w=>by first|kernel_rfl|rfl
  go_enter Tryz.func44,Tryz.ntmps44
  go_wp2_with (first
   |((with_reducible refine Np ⟨?_⟩);refine SX (e:=45) (sz:=3) (eY:=24) au h ?_;intro bN wN hN)
   |(with_reducible apply lX))
  refine ⟨SQ 45 3 24 au hN aj aj aV (Sat.rd hN.drop) H1.out (by have:=Hl.out;simp only [adF];omega) aN ?_⟩;intro v' w' hS;rw [adl]at hS;go_wp2_with fail;go_ret;exact ⟨_,rfl,hS⟩
theorem amy (us:List Rep.Use):∀ u∈us.flatMap bT,u.oneCell'=true:=fun u hu=>by
 obtain ⟨x,_,hx⟩:=ahK.1 hu;unfold bT at hx;simp only [acK,ag0,aoj]at hx;rcases hx with rfl|rfl|rfl <;> rfl
theorem aaJ (hB:B≤14000000) (hu:us.length≤65536) (h:Sat w0 w (aW r m seg p ps pn d::dh ps N pi uv tv::aI pi mi B::aB 45 3 uv (us.flatMap bT)::F)) :
  Calls Tryz.prog 12 #[ptr r] w (aP fun v w'=>∃ (q qi:Nat) (vv:Value),v=ptr q∧Sat w0 w' (dh q N qi vv (.slice none 0 0)::aI qi mi B::aB 45 3 vv (us.flatMap bT)::aW r m seg p ps pn d::dh ps N pi uv tv::aI pi mi B::aB 45 3 uv (us.flatMap bT)::F)):=by
 have xA:=uQ (show (us.flatMap bT).length≤2147483648 by rw [iY (k:=3) (fun u _=>DK u)];omega);have HB:=uQ hB;have hok:=nK h;clear hu hB;go_enter Tryz.func12,Tryz.ntmps12;go_wp2_with fail;refine hok.mono ?_;rintro ee w1 ⟨v,rfl,rfl,rfl⟩;clear hok;go_wp2_with fail;have h1:=h.drew;clear h;refine dS [23,24,25] (fun w'=>w'.cell? ⟨r,3,none⟩=some (.pointer (some ⟨ps,0,none⟩))∧w'.cell? ⟨ps,0,none⟩=some (.int .i64 N)∧w'.cell? ⟨ps,1,none⟩=some (.pointer (some ⟨pi,0,none⟩))∧w'.cell? ⟨ps,2,none⟩=some uv) au ?_;have hG:World.cell? _ ⟨r,3,none⟩=some (.pointer (some ⟨ps,0,none⟩))∧World.cell? _ ⟨ps,0,none⟩=some (.int .i64 N)∧World.cell? _ ⟨ps,1,none⟩=some (.pointer (some ⟨pi,0,none⟩))∧World.cell? _ ⟨ps,2,none⟩=some uv:=⟨h1.cellP aV 3 rfl,h1.cellP aY 0 rfl,h1.cellP aY 1 rfl,h1.cellP aY 2 rfl⟩;refine rP 0 ?_ (y:=aZ)
 refine rP 1 ?_ (y:=dV);refine rP 2 ?_ (y:=bW);refine rt 3 (h:=?_);refine rP 4 ?_ (y:=dV);refine rP 5 ?_ (y:=bW);refine rt 6 (h:=?_);refine rP 7 ?_ (y:=aZ);refine rP 8 ?_ (y:=dV);refine rP 9 ?_ (y:=bW);refine rt 10 (h:=?_);refine rP 11 ?_ (y:=dV);refine rP 12 ?_ (y:=bW);refine rt 13 (h:=?_);refine rP 15 ?_ (y:=aZ);refine rP 16 ?_ (y:=dV);refine rP 17 ?_ (y:=bW);refine rt 18 (h:=?_);refine rP 19 ?_ (y:=dV);refine rP 20 ?_ (y:=bW);refine rt 21 (h:=?_);clear hG;refine bY 14 ak au (fun K hK=>?_)
 (refine oJ au ak ?_)
 refine (NM HB.out (h1.sb:Sat w0 _ (aI pi mi B::aW r m seg p ps pn d::dh ps N pi uv tv::aB 45 3 uv (us.flatMap bT)::F))).mono ?_;rintro ee w2 ⟨v,rfl,qi,rfl,h2⟩;refine hK _ _ (.inr (.inl ⟨h2.cellP eH 3 rfl,h2.cellP iJ 0 rfl,h2.cellP iJ 1 rfl,h2.cellP iJ 2 rfl⟩)) ?_;clear hK h1;refine bY 22 ak au (fun K hK=>?_)
 (refine oJ au ak ?_)
 refine (aeO (amy us) xA.out (h2.sb:Sat w0 _ (aB 45 3 uv (us.flatMap bT)::aW r m seg p ps pn d::dh ps N pi uv tv::aI qi mi B::aI pi mi B::F))).mono ?_;rintro ee w3 ⟨vv,rfl,h3⟩;refine hK _ _ (.inr (.inl ⟨h3.cellP eH 3 rfl,h3.cellP iJ 0 rfl,h3.cellP iJ 1 rfl,h3.cellP iJ 2 rfl⟩)) ?_;clear hK h2;obtain ⟨va,vn,vc,rfl,_,_⟩:=Sat.rd h3;refine rp 23 (hy:=(by (refine Or.inl ⟨by rfl,?_⟩;((intro wq;go_simp);first|done|exact wQ)))) (h:=?_);refine bY 24 ak au (fun K hK=>?_);refine I9 (cs:=#[.int .i64 N,ptr qi,.slice va vn vc,.slice none 0 0]) h3 ak ak ?_;intro q w4 h4;refine hK _ _ (.inl rfl) ?_;clear hK h3;refine rP 25 ?_ (y:=fZ);refine dI au ?_;go_wp2_with fail;go_ret;exact ⟨_,rfl,q,qi,_,rfl,h4.sb⟩
end
theorem akQ (N:Int) (kp ip gb:Nat) (w:World):(Instr.build 144 #[(0,.int .i64 N),(2,ptr kp),(3,ptr ip),(4,.map (some gb))]).run Tryz.prog w = .ok (.agg #[.int .i64 N,.slice none 0 0,ptr kp,ptr ip,.map (some gb)]) w:=by kernel_rfl
theorem akU (s:Int) (a:Option Addr) (n c:Nat) (w:World):(Instr.build 146 #[(0,.int .i64 s),(1,.slice a n c)]).run Tryz.prog w = .ok (.agg #[.int .i64 s,.slice a n c,.int .i64 0]) w:=by kernel_rfl
theorem LC:jr Tryz.prog 146=some (.agg #[.int .i64 0,.slice none 0 0,.int .i64 0]):=by kernel_rfl
theorem anh:jr Tryz.prog 45=some (.agg #[.int .i64 0,.int .i64 0,.int .i64 0]):=by kernel_rfl
theorem am8 {P:Program}{ops:Array Oper}{a:Act}{dst:Option Tmp}{ty t:TypeId}{pos:String}{after:Array Edge}{v:Value}{i1 i2 i3 i4:Nat}{x1 x2 x3 x4:Operand}{v1 v2 v3 v4:Value} (h1:a.eval x1=v1) (h2:a.eval x2=v2) (h3:a.eval x3=v3) (h4:a.eval x4=v4) (hr:∀ w,(Instr.build ty #[(i1,v1),(i2,v2),(i3,v3),(i4,v4)]).run P w = .ok v w) :
  Yields P ops ⟨dst,.build ty #[(i1,x1),(i2,x2),(i3,x3),(i4,x4)],t,pos,after,none⟩ v a:=
 .inl ⟨lI _ rfl,fun w=>by
  simp only [execOp,aes,acS,adw,h1,h2,h3,h4,acN,hr,acB,ac1]⟩
theorem amO {P:Program}{ops:Array Oper}{Q:Exit→Act→World→Prop}{rest:List Oper}{a:Act}{w:World}{dst:Option Tmp}{ty t:TypeId}{pos:String}{after:Array Edge}{x y:Operand}{vx vy v:Value} (hx:a.eval x=vx) (hy:a.eval y=vy) (hr:∀ w,(Instr.build ty #[(0,vx),(1,vy)]).run P w = .ok v w) (h:wpList P ops Q rest (a.put dst v) w) :
  wpList P ops Q (⟨dst,.build ty #[(0,x),(1,y)],t,pos,after,none⟩::rest) a w:=
 yY (by simp only [aes,acS,adw,hx,hy]) hr h
def Iy (ys:List Sg):Prop:=∀ y∈ys,(∀ q∈y.2.1,q.1.e.key.length=32)∧∃ a c,y.2.2 = .slice a y.2.1.length c
def adK (w0:World) (N:Int) (Bi n:Nat) (mi:ah.Bs→Option Seg.aU) (D:List (Nat×List ah.aG)) (R:List aH) (v:Value) (w':World):Prop:=
 ∃ (b kp ip gb Bk:Nat) (lv:Value) (mm:ah.Bs→Option Rep.iw) (bg:List (Value×List Int)) (ys zs:List Sg),v = .tuple #[ptr b,errno 0]∧(ys.map fun y=>(y.1,jO y))=aO.fV D∧Iy ys∧(∀ y∈ys,y∈zs)∧lN mm (aO.kH (aO.jK (aO.fV D))) bg∧Bk≤n∧Sat w0 w' (dM b N lv kp ip gb::aB 146 3 lv (ys.flatMap dY)::eP zs::dB kp mm Bk::dK bg:: omap (.int .i64) gb []::aI ip mi Bi::R)
section
variable {w0 w:World}{F:List aH}{r m p ps pn pi K r0 E B n Bi:Nat}{seg N:Int}{d:Bool}{uv tv:Value}{mi:ah.Bs→Option Seg.aU}{us:List Rep.Use}{L:Seg.Log}{M:ay}{D:List (Nat×List ah.aG)}
theorem ae1 (hR:Seg.ji K r0 E B n L M D) (hn:n≤1000) (hus:us.map (·.seg)=D.map fun d=>(d.1:Int)) (pK:Bi≤14000000) (hH:Ro w0 F Half)
  (h:Sat w0 w (aW r m seg p ps pn d::dh ps N pi uv tv::aI pi mi Bi::aB 45 3 uv (us.flatMap bT)::aK p m L::aJ m M::F)) :
  Calls Tryz.prog 70 #[ptr r] w (aP fun v w'=>adK w0 N Bi n mi D (aW r m seg p ps pn d::dh ps N pi uv tv::aI pi mi Bi::aB 45 3 uv (us.flatMap bT)::aK p m L::aJ m M::F) v w'):=by
 have hu:us.length=D.length:=by
  have h1:=adu List.length hus
  rwa [abl,abl]at h1
 have hst:=aaJ (F:=aK p m L::aJ m M::F) pK (acz (Nat.le_of_eq hu) (acz hR.hd.count oQ)) h;have HR:=uQ hR;have Hn:=uQ hn;have Hu:=uQ hu;have Hus:=uQ hus;have G7:=uQ pK;have HH:=uQ hH;clear hR hn hu hus pK hH h;go_enter Tryz.func70,Tryz.ntmps70;go_wp2_with fail;refine hst.mono ?_;rintro ee w1 ⟨v,rfl,q,qi,vv,rfl,h1⟩;clear hst;go_wp2_with fail;have h2:=h1.drew;clear h1;have hG:World.cell? _ ⟨q,0,none⟩=some (.int .i64 N)∧World.cell? _ ⟨q,1,none⟩=some (ptr qi):=⟨h2.cellP aV 0 rfl,h2.cellP aV 1 rfl⟩;refine dS [10,11,12] (fun w'=>w'.cell? ⟨q,0,none⟩=some (.int .i64 N)∧w'.cell? ⟨q,1,none⟩=some (ptr qi)) au ?_;refine rP 0 ?_ (y:=aZ);refine rP 1 ?_ (y:=dV);refine rP 2 ?_ (y:=bW);refine rt 3 (h:=?_);refine rP 5 ?_ (y:=aZ);refine rP 6 ?_ (y:=dV);refine rP 7 ?_ (y:=bW);refine rt 8 (h:=?_);clear hG;refine rU 4 9 ak ak au (fun K hK=>?_) (fun K hK=>?_)
 focus
  refine xK [] au (by simp) ?_;refine (Ze h2).mono ?_;rintro ee w3 ⟨v,rfl,kp,rfl,h3⟩;refine hK _ _ (.inr (.inl ⟨h3.cellP aY 0 rfl,h3.cellP aY 1 rfl⟩)) ?_;clear hK h2;refine bY 9 ak au (fun K hK=>?_);refine V9 (.int .i64) h3 ?_;intro gb w4 h4;refine hK _ _ (.inr (.inl ⟨h4.cellP eH 0 rfl,h4.cellP eH 1 rfl⟩)) ?_;clear hK h3;have hB:=h4;clear h4
 rotate_left
 focus
  refine V9 (.int .i64) h2 ?_;intro gb w3 h3;refine hK _ _ (.inr (.inl ⟨h3.cellP aY 0 rfl,h3.cellP aY 1 rfl⟩)) ?_;clear hK h2;refine bY 4 ak au (fun K hK=>?_);refine xK [] au (by simp) ?_;refine (Ze h3).mono ?_;rintro ee w4 ⟨v,rfl,kp,rfl,h4⟩;refine hK _ _ (.inr (.inl ⟨h4.cellP eH 0 rfl,h4.cellP eH 1 rfl⟩)) ?_;clear hK h3;have hB:=(h4.sb:Sat w0 w4 (omap (.int .i64) gb []::dB kp (fun _=>none) 0::dh q N qi vv (.slice none 0 0)::aI qi mi Bi::aB 45 3 vv (us.flatMap bT)::aW r m seg p ps pn d::dh ps N pi uv tv::aI pi mi Bi::aB 45 3 uv (us.flatMap bT)::aK p m L::aJ m M::F));clear h4
 all_goals
  refine rP 10 ?_ (y:=(am8 ak ak ak ak (fun w=>akQ N kp qi gb w)));refine bY 11 ak au (fun K hK=>?_);refine I9 (cs:=#[.int .i64 N,.slice none 0 0,ptr kp,ptr qi,.map (some gb)]) hB ak ak ?_;intro b w5 h5;refine hK _ _ (.inl rfl) ?_;clear hK hB;refine rP 12 ?_ (y:=fZ);refine dI au ?_;obtain ⟨va,vc,rfl⟩:=jl (f:=bT) (k:=3) (l:=us) (fun u _=>DK u) (Sat.rd (h5.pk (A:=aB 45 3 vv (us.flatMap bT)))) aN;have e32:=h5.cellP iJ 2 rfl;obtain ⟨G,Hg,HHG⟩:∃ G,Hid (G=dh ps N pi uv tv::aI pi mi Bi::aB 45 3 uv (us.flatMap bT)::F)∧Hid (Ro w0 G Half):=⟨_,uQ rfl,uQ (Ro.os HH.out)⟩;have h6:Sat w0 w5 (dM b N (.slice none 0 0) kp qi gb::aB 146 3 (.slice none 0 0) (([]:List Sg).flatMap dY)::eP []::dB kp (fun _=>none) 0::dK []::omap (.int .i64) gb []::aI qi mi Bi::aB 45 3 (.slice va us.length vc) (us.flatMap bT)::aK p m L::aJ m M::aW r m seg p ps pn d::G):=by
   rw [Hg.out];have q0:Sat w0 w5 (aB 146 3 (.slice none 0 0) (([]:List Sg).flatMap dY)::eP []::dK []::dM b N (.slice none 0 0) kp qi gb::omap (.int .i64) gb []::dB kp (fun _=>none) 0::dh q N qi (.slice va us.length vc) (.slice none 0 0)::aI qi mi Bi::aB 45 3 (.slice va us.length vc) (us.flatMap bT)::aW r m seg p ps pn d::dh ps N pi uv tv::aI pi mi Bi::aB 45 3 uv (us.flatMap bT)::aK p m L::aJ m M::F):=Sat.gI.2 (Sat.emp.2 (Sat.emp.2 h5));exact q0.sb
  clear h5;go_wp2_with fail;clear e32
  go_loopg [34] us.length (fun g iq wr=>∃ (i Bk:Nat) (lv:Value) (mm:ah.Bs→Option Rep.iw) (bg:List (Value×List Int)) (ys zs:List Sg),g=us.length - i∧i≤us.length∧iq = .int .i64 i∧(ys.map fun y=>(y.1,jO y))=(aO.fV D).take i∧Iy ys∧(∀ y∈ys,y∈zs)∧lN mm (aO.kH (aO.jK ((aO.fV D).take i))) bg∧Bk≤(aO.jK ((aO.fV D).take i)).length∧Sat w0 wr (dM b N lv kp qi gb::aB 146 3 lv (ys.flatMap dY)::eP zs::dB kp mm Bk::dK bg::omap (.int .i64) gb []::aI qi mi Bi::aB 45 3 (.slice va us.length vc) (us.flatMap bT)::aK p m L::aJ m M::aW r m seg p ps pn d::G))
  case atStart=>exact ⟨0,0,.slice none 0 0,_,[],[],[],rfl,acV _,rfl,rfl,(fun _ h=>nomatch h),(fun _ h=>nomatch h),lN.new,abL _,h6⟩
  case round=>
   obtain ⟨i,Bk,lv,mm,bg,ys,zs,rfl,hi,rfl,hys,hok,hyz,hko,CS,hS⟩:=hrel;clear h6;by_cases hlt:i<us.length;rotate_left
   focus
    obtain rfl:i=us.length:=by omega
    have c1:¬ (us.length:Int)<(us.length:Int):=oQ;have hal:(aO.fV D).take us.length=aO.fV D:=by rw [Hu.out,← aO.KA (D:=D),adk]
    rw [hal]at hys hko CS;have Hr:=uQ (And.intro hys (And.intro hok (And.intro hyz (And.intro hko CS))));clear hys hok hyz hko CS hi hlt hal;go_wp2_with fail
    go_ret2
    obtain ⟨k1,k2,k3,k4,k5⟩:=Hr.out;refine ⟨_,rfl,b,kp,qi,gb,Bk,lv,mm,bg,ys,zs,rfl,k1,k2,k3,k4,?_,?_⟩
    ·rw [aO.QH]at k5;exact acz k5 HR.out.few
    ·rw [Hg.out]at hS;exact hS.sb
   have c1:(i:Int)<(us.length:Int):=oQ;have hwi:IntKind.i64.wrap ((i:Int)+1)=(i:Int)+1:=acC _ (by have:=Hu.out;have:=HR.out.hd.count;have:=Hn.out;omega);obtain ⟨u,hiu⟩:∃ u,us[i]?=some u:=⟨_,aaI hlt⟩;obtain ⟨⟨sn,es⟩,hie⟩:∃ d,D[i]?=some d:=⟨_,aaI (by rw [← Hu.out];exact hlt)⟩;have hdm:=abV hie;have hus:u.seg=(sn:Int):=by
    have h1:=adu (fun l:List Int=>l[i]?) Hus.out;simp only [acE,hiu,hie,ahf]at h1;exact ahM h1
   obtain ⟨amE,yX,yT⟩:=u;obtain rfl:amE=(sn:Int):=hus;obtain ⟨bk,off,c2,e2,hcell⟩:=jG (f:=bT) (k:=3) (fun u _=>DK u) (Sat.rd (hS.pk (A:=aB 45 3 (.slice va us.length vc) (us.flatMap bT)))) hiu aN;cases e2;have TU:=uQ hie;have bV:=uQ hlt;have nP:=uQ (And.intro hys (And.intro hok (And.intro hyz (And.intro hko CS))));have hby:=fun (w2:World) (R:List aH) (hw:Sat w0 w2 (aK p m L::aJ m M::R))=>FV HR.out.hd.keeps.log HR.out.hd.keeps.calm.ok (sn:Int) hw;rw [HR.out.hd.bytes hdm]at hby;have BR:=uQ hby;have hbl:=Seg.EN (L:=L) HR.out.hd.keeps.calm.ok (sn:Int);rw [HR.out.hd.bytes hdm]at hbl;have lW:=uQ hbl;have XG:(Seg.mag++ah.encs es).length≤16777216:=hbl;have vI:=uQ (ah.Ku es (HR.out.hd.good _ hdm).1);clear hys hok hyz hko CS hi hiu hby hie hlt hbl hdm;have Ec:=uQ (show (ah.encs es).length≤16777216 by rw [aaK]at XG;omega);clear XG;generalize Seg.mag++ah.encs es=bl at BR lW vI
   go_wp2_with (first
    |((with_reducible refine bI ⟨?_⟩);refine iL (b:=bk) (o:=off+i * 3) (bT ⟨(sn:Int),yX,yT⟩) aj hcell Tryz.underlying45 rfl au ?_)
    |(with_reducible apply gq))
   refine ⟨fF anh hS rfl ?_⟩;intro b7 w7 h7;clear hcell hS;go_wp2_with ((with_reducible refine cO ⟨?_⟩);refine gJ (bT ⟨(sn:Int),yX,yT⟩).toArray h7 aj aj aj cZ au aj ?_;intro w8 h8);have h9:=h8.drew;clear h7 h8;have hG:World.cell? _ ⟨b7,0,none⟩=some (.int .i64 (sn:Int)):=h9.cellP aV 0 rfl;refine dS [4,5,6,7,8,9] (fun w'=>w'.cell? ⟨b7,0,none⟩=some (.int .i64 (sn:Int))) au ?_;refine rP 0 ?_ (y:=aZ);refine rP 2 ?_ (y:=bW);refine rt 3 (h:=?_);refine bY 1 ak au (fun K hK=>?_)
   (refine oJ au ak ?_)
   refine (Bv (h9.sb:Sat w0 _ (aW r m seg p ps pn d::pt b7 (.cells (bT ⟨(sn:Int),yX,yT⟩).toArray 45 (0,0))::G))).mono ?_;rintro ee w10 ⟨v,rfl,rfl,rfl⟩;refine hK _ _ (.inr (.inl hG)) ?_;clear hK hG;refine bY 4 ak au (fun K hK=>?_)
   (refine gZ au ak ak ?_)
   refine (BR.out _ _ (h9.sb:Sat w0 _ (aK p m L::aJ m M::pt b7 (.cells (bT ⟨(sn:Int),yX,yT⟩).toArray 45 (0,0))::dM b N lv kp qi gb::aB 146 3 lv (ys.flatMap dY)::eP zs::dB kp mm Bk::dK bg::omap (.int .i64) gb []::aI qi mi Bi::aB 45 3 (.slice (some ⟨bk,off,none⟩) us.length vc) (us.flatMap bT)::aW r m seg p ps pn d::G))).mono ?_;rintro ee iV ⟨v,rfl,bv,rfl,h11⟩;refine hK _ _ (.inl rfl) ?_;clear hK h9;refine rP 5 ?_ (y:=aZ);refine rP 6 ?_ (y:=(fC ak bU));refine rP 7 ?_ (y:=(fC ak bU));refine rP 8 ?_ (y:=fZ);refine rP 9 ?_ (y:=fZ);refine dI au ?_;obtain ⟨hcap,ca,cc,rfl⟩:=NC h11;have hsc:=Oe bl (Ro.bK _ _) hcap (Ro.os HHG.out) (acz lW.out aN) h11;rw [vI.out]at hsc;clear hcap h11
   repeat (first|go_skip|fail|go_values|go_guarded|go_step|go_upon)
   refine hsc.mono ?_;rintro ee w12 ⟨v,rfl,fs,fv,hfs,hfk,rfl,h12⟩;clear hsc;obtain ⟨fa,fc,rfl⟩:=N9 hfk h12;have ny:=uQ hfs;have qK:=uQ hfk;clear hfs hfk;dsimp only
   go_wp2_with (first
    |((with_reducible refine bI ⟨?_⟩);refine gu h12 aj bC bJ ak au ?_)
    |(with_reducible apply yR))
   refine ⟨amO ak ak (fun w=>akU (sn:Int) fa fs.length fc w) ?_⟩;go_wp2_with (with_reducible apply gq);refine ⟨fF LC h12 rfl ?_⟩;intro b12 jU h13;go_wp2_with ((with_reducible refine cO ⟨?_⟩);refine gJ #[.int .i64 (sn:Int),.slice fa fs.length fc,.int .i64 0] h13 aj aj aj cZ au aj ?_;intro nN ku);have hfl:fs.length≤16777216:=by
    have h1:=ah.Rj bl;rw [vI.out]at h1;have h2:=adu List.length ny.out;rw [abl]at h2;dsimp only at h1;have:=lW.out;omega
   have zl:=uQ hfl
   have H9:=uQ (show (aO.jK ((aO.fV D).take i)).length+fs.length≤n by
    have h1:=aO.aki (aO.fV D) (i+1);rw [aO.QH,adD,aO.Rn TU.out,agU,aO.QI,aaK,abl]at h1;have h2:=adu List.length ny.out;rw [abl]at h2;have h3:=HR.out.few;dsimp only at h1 h2;omega)
   have h15:Sat w0 nN (pt b12 (.cells #[.int .i64 (sn:Int),.slice fa fs.length fc,.int .i64 (aO.pay ((fs.take 0).map (·.1)))] 146 (0,0))::dB kp mm Bk::dK bg::dM b N lv kp qi gb::pt b7 (.cells (bT ⟨(sn:Int),yX,yT⟩).toArray 45 (0,0))::aB 54 36 (.slice fa fs.length fc) (jD fs)::kN fs::aB 146 3 lv (ys.flatMap dY)::eP zs::omap (.int .i64) gb []::aI qi mi Bi::aB 45 3 (.slice (some ⟨bk,off,none⟩) us.length vc) (us.flatMap bT)::aK p m L::aJ m M::aW r m seg p ps pn d::G):=ku.sb;clear h12 h13 ku hfl;go_wp2_with fail
   go_loopg [63] fs.length (fun g jq wr=>∃ (j Bj:Nat) (vY:ah.Bs→Option Rep.iw) (kV:List (Value×List Int)),g=fs.length - j∧j≤fs.length∧jq = .int .i64 j∧lN vY (aO.kH (aO.jK ((aO.fV D).take i)++(fs.take j).map fun q=>((sn:Int),q.1))) kV∧Bj≤(aO.jK ((aO.fV D).take i)).length+j∧Sat w0 wr (pt b12 (.cells #[.int .i64 (sn:Int),.slice fa fs.length fc,.int .i64 (aO.pay ((fs.take j).map (·.1)))] 146 (0,0))::dB kp vY Bj::dK kV::dM b N lv kp qi gb::pt b7 (.cells (bT ⟨(sn:Int),yX,yT⟩).toArray 45 (0,0))::aB 54 36 (.slice fa fs.length fc) (jD fs)::kN fs::aB 146 3 lv (ys.flatMap dY)::eP zs::omap (.int .i64) gb []::aI qi mi Bi::aB 45 3 (.slice (some ⟨bk,off,none⟩) us.length vc) (us.flatMap bT)::aK p m L::aJ m M::aW r m seg p ps pn d::G))
   case atStart=>exact ⟨0,Bk,mm,bg,rfl,acV _,rfl,by rw [adH,adw,acM];exact nP.out.2.2.2.1,nP.out.2.2.2.2,h15⟩
   case round=>
    obtain ⟨j,Bj,vY,kV,rfl,hj,rfl,Fv,Jk,hS⟩:=hrel;clear h15;by_cases hjl:j<fs.length;rotate_left
    focus
     obtain rfl:j=fs.length:=by omega
     have d1:¬ (fs.length:Int)<(fs.length:Int):=oQ;clear hjl hj;go_wp2_with fail;rw [adk]at hS Fv;have zn:=uQ (And.intro Fv Jk);have hyl:(ys.flatMap dY).length≤2147483648:=by
      rw [iY (k:=3) (fun y _=>BA y)];have h1:=adu List.length nP.out.1;rw [abl,acA,aO.KA]at h1;have:=HR.out.hd.count;have:=Hn.out;omega
     have Iu:=uQ hyl;clear Fv Jk hyl;have hG:World.cell? _ ⟨b,1,none⟩=some lv∧World.rangeAt _ b12 0 [.int .i64 (sn:Int),.slice fa fs.length fc,.int .i64 (aO.pay (fs.map (·.1)))]:=⟨hS.cellP iJ 1 rfl,fun k v hk=>hS.cellP aV (0+k) (by rw [acT,abY];exact hk)⟩;refine dS [7,8,9,10] (fun w'=>w'.cell? ⟨b,1,none⟩=some lv∧w'.rangeAt b12 0 [.int .i64 (sn:Int),.slice fa fs.length fc,.int .i64 (aO.pay (fs.map (·.1)))]) au ?_;refine rP 0 ?_ (y:=aZ);refine rP 1 ?_ (y:=aZ);refine rP 2 ?_ (y:=dV);refine rP 3 ?_ (y:=bW);refine rt 4 (h:=?_);refine gV 5 ak au eU (iI (b:=b12) (o:=0) [.int .i64 (sn:Int),.slice fa fs.length fc,.int .i64 (aO.pay (fs.map (·.1)))] aj Tryz.underlying146 rfl au (fun w hw=>hw.2)) aQ gQ ?_;clear hG;refine bY 6 ak au (fun K hK=>?_)
     refine afB (e:=146) (sz:=3) (eY:=40) au hS.drew ak (cs:=#[.int .i64 (sn:Int),.slice fa fs.length fc,.int .i64 (aO.pay (fs.map (·.1)))]) rfl rfl aN ?_;intro bN wN hN;refine hK _ _ (.inr (.inl ⟨hN.cellP rJ 1 rfl,fun k v hk=>hN.cellP aY (0+k) (by rw [acT,abY];exact hk)⟩)) ?_;clear hK hS;refine bY 7 ak au (fun K hK=>?_);refine afz 146 3 40 au hN ak ak bC bC rfl (abL 1) rfl Iu.out bJ bJ (ys:=dY ((sn:Int),fs,Value.slice fa fs.length fc)) rfl ?_;intro bA nA cA wA hA;refine hK _ _ (.inl rfl) ?_;clear hK hN;refine rP 8 ?_ (y:=dV);refine rP 9 ?_ (y:=bW);refine bY 10 ak au (fun K hK=>?_);refine kW (cs':=#[.int .i64 N,.slice (some ⟨bA,0,none⟩) nA cA,ptr kp,ptr qi,.map (some gb)]) hA ak ak aj (jh (jh (jh (jh cZ)))) bJ au aj ?_;intro wE hE;refine hK _ _ (.inl rfl) ?_;clear hK hA;refine dI au ?_
     have hF:Sat w0 wE (dM b N (.slice (some ⟨bA,0,none⟩) nA cA) kp qi gb::aB 146 3 (.slice (some ⟨bA,0,none⟩) nA cA) ((ys++[((sn:Int),fs,Value.slice fa fs.length fc)]).flatMap dY)::eP (((sn:Int),fs,Value.slice fa fs.length fc)::zs)::dB kp vY Bj::dK kV::omap (.int .i64) gb []::aI qi mi Bi::aB 45 3 (.slice (some ⟨bk,off,none⟩) us.length vc) (us.flatMap bT)::aK p m L::aJ m M::aW r m seg p ps pn d::G):=by
      rw [adz,ada,anX,acM];have q0:Sat w0 wE (aB 54 36 (.slice fa fs.length fc) (jD fs)::kN fs::eP zs::dM b N (.slice (some ⟨bA,0,none⟩) nA cA) kp qi gb::aB 146 3 (.slice (some ⟨bA,0,none⟩) nA cA) (ys.flatMap dY++dY ((sn:Int),fs,Value.slice fa fs.length fc))::dB kp vY Bj::dK kV::omap (.int .i64) gb []::aI qi mi Bi::aB 45 3 (.slice (some ⟨bk,off,none⟩) us.length vc) (us.flatMap bT)::aK p m L::aJ m M::aW r m seg p ps pn d::G):=hE.sb;exact (aek (y:=((sn:Int),fs,Value.slice fa fs.length fc)) q0).sb
     clear hE;have gY:=uQ (show (aO.fV D).take (i+1)=(aO.fV D).take i++[((sn:Int),fs.map (·.1))] by rw [adD,aO.Rn TU.out,agU,ny.out]);go_wp2_with fail
     go_roundg (us.length - (i+1))
     case measure=>have:=bV.out;omega
     case rel=>
      obtain ⟨k1,k2,k3,k4,k5⟩:=nP.out;obtain ⟨k6,k7⟩:=zn.out;refine ⟨i+1,Bj,_,vY,kV,_,_,rfl,bV.out,by first|rfl|go_num,?_,?_,?_,?_,?_,hF⟩
      ·rw [gY.out,acI,k1];rfl
      ·intro y hy;rcases ac3.1 hy with hy|hy
       ·exact k2 y hy
       ·rw [acO]at hy;subst hy;exact ⟨qK.out,_,_,rfl⟩
      ·intro y hy;rcases ac3.1 hy with hy|hy
       ·exact List.mem_cons_of_mem _ (k3 y hy)
       ·rw [acO]at hy;subst hy;exact List.mem_cons_self ..
      ·rw [gY.out,aO.QI];dsimp only;rw [aee];exact k6
      ·rw [gY.out,aO.QI,aaK,abl,abl];exact k7
    have d1:(j:Int)<(fs.length:Int):=oQ;have Ju:IntKind.i64.wrap ((j:Int)+1)=(j:Int)+1:=acC _ (by have:=zl.out;omega);obtain ⟨⟨f,dv⟩,hq⟩:∃ q,fs[j]?=some q:=⟨_,aaI hjl⟩;have pO:f.e.key.length=32:=qK.out _ (abV hq);obtain ⟨da,dn,dc,rfl,_,_⟩:=I5 hq wr (hS.pk (A:=kN fs));obtain ⟨bk2,off2,c2,e2,hcell⟩:=jG (f:=fun q:ah.dA×Value=>mO q.1 q.2) (k:=36) (fun q hq=>sH q.1 q.2 (qK.out q hq)) (Sat.rd (hS.pk (A:=aB 54 36 (.slice fa fs.length fc) (jD fs)))) hq aN;cases e2;have Au:(mO f (.slice da dn dc)).length=36:=sH _ _ pO;have vJ:=uQ (show fs.take (j+1)=fs.take j++[(f,Value.slice da dn dc)] by rw [adD,hq,agU]);have lD:=uQ hjl;have kL:=uQ pO;have zn:=uQ (And.intro Fv Jk);clear hq pO hj hjl Fv Jk
    go_wp2_with (first
     |((with_reducible refine bI ⟨?_⟩);refine iL (b:=bk2) (o:=off2+j * 36) (mO f (.slice da dn dc)) aj hcell Tryz.underlying54 rfl (by rw [Au];kernel_rfl) ?_)
     |(with_reducible apply gq))
    refine ⟨fF GY hS rfl ?_⟩;intro b14 w30 h30;clear hcell hS;go_wp2_with (with_reducible apply cO);refine ⟨gJ (fU f (.slice da dn dc)) h30 aj aj (by rw [oK _ _ kL.out];rfl) cZ (by rw [oK _ _ kL.out];kernel_rfl) (E5 _ _ _ _) ?_⟩;intro wJ h31
    repeat (first|go_skip|(with_reducible apply qZ 16)|go_values|go_guarded|go_step|go_upon)
    refine ⟨?_⟩;clear h30;obtain ⟨e34,e35,l7⟩:=E8 f (.slice da dn dc) kL.out;have f0:wJ.cell? ⟨b14,0,none⟩=some (.int .i64 f.e.tag):=h31.cellP aV 0 rfl;have f35:wJ.cell? ⟨b14,35,none⟩=some (.int .i64 (f.size:Int)):=h31.cellP aV 35 e35
    have zC:=uQ (show 0≤aO.pay ((fs.take j).map (·.1))∧aO.pay ((fs.take j).map (·.1))+(f.size:Int)≤((ah.encs es).length:Int) by
     have hq:(ah.dN es 8)[j]?=some f:=by
      have h1:=adu (fun l=>l[j]?) ny.out;rw [← h1,acE,← an4 (Nat.lt_succ_self j),vJ.out,ac0 (by rw [acA];exact Nat.min_le_left ..),acA,aoe (Nat.le_of_lt lD.out),anm]
      rfl
     have h2:=aO.ZV es 8 j f hq;rw [anw,ny.out];exact h2)
    obtain ⟨py,hpy⟩:∃ py,aO.pay ((fs.take j).map (·.1))=py:=⟨_,rfl⟩;rw [hpy]at zC h31;have TB:=uQ hpy;clear hpy;have f12:wJ.cell? ⟨b12,2,none⟩=some (.int .i64 py):=h31.cellP aY 2 rfl;have hwp:IntKind.i64.wrap (py+(f.size:Int))=py+(f.size:Int):=acC _ (by have:=zC.out;have:=Ec.out;omega);clear e34 e35 l7;by_cases ht:f.e.tag=2
    focus
     have hb:(f.e.tag != 2)=false:=by rw [ht];rfl
     have Hr:=uQ (show aO.kH (aO.jK ((aO.fV D).take i)++(fs.take (j+1)).map fun q=>((sn:Int),q.1))=aO.kH (aO.jK ((aO.fV D).take i)++(fs.take j).map fun q=>((sn:Int),q.1)) by
      rw [vJ.out,acI,← acD];show aO.kH (_++[((sn:Int),f)])=_;rw [aO.YC];exact acr ht)
     have hG:Sat w0 wJ (pt b12 (.cells #[.int .i64 (sn:Int),.slice (some ⟨bk2,off2,none⟩) fs.length fc,.int .i64 (aO.pay ((fs.take (j+1)).map (·.1)))] 146 (0,0))::dB kp vY Bj::dK kV::dM b N lv kp qi gb::pt b7 (.cells (bT ⟨(sn:Int),yX,yT⟩).toArray 45 (0,0))::aB 54 36 (.slice (some ⟨bk2,off2,none⟩) fs.length fc) (jD fs)::kN fs::aB 146 3 lv (ys.flatMap dY)::eP zs::omap (.int .i64) gb []::aI qi mi Bi::aB 45 3 (.slice (some ⟨bk,off,none⟩) us.length vc) (us.flatMap bT)::aK p m L::aJ m M::aW r m seg p ps pn d::G):=by
      rw [vJ.out,acI,acS,adw,aO.Qe,acr ht,Int.add_zero,TB.out];exact h31.sb
     clear ht h31;go_wp2_with fail
     go_roundg (fs.length - (j+1))
     case measure=>have:=lD.out;omega
     case rel=>exact ⟨j+1,Bj,vY,kV,rfl,lD.out,by first|rfl|go_num,by rw [Hr.out];exact zn.out.1,Nat.le_succ_of_le zn.out.2,hG⟩
    have hb:(f.e.tag != 2)=true:=agL.2 ht
    have Hr:=uQ (show aO.kH (aO.jK ((aO.fV D).take i)++(fs.take (j+1)).map fun q=>((sn:Int),q.1))=aO.Gy (aO.kH (aO.jK ((aO.fV D).take i)++(fs.take j).map fun q=>((sn:Int),q.1))) ((sn:Int),f) by
     rw [vJ.out,acI,← acD];show aO.kH (_++[((sn:Int),f)])=_;rw [aO.YC];exact abA ht)
    have zB:=uQ (show aO.pay ((fs.take (j+1)).map (·.1))=py+(f.size:Int) by
     rw [vJ.out,acI,acS,adw,aO.Qe,abA ht,TB.out])
    clear ht;go_wp2_with (with_reducible apply cO);refine ⟨fG (cs':=#[.int .i64 (sn:Int),.slice (some ⟨bk2,off2,none⟩) fs.length fc,.int .i64 (py+(f.size:Int))]) h31 aj ak aj (jh cZ) bJ au aj ?_⟩;intro BI sJ;clear h31 f0 f35 f12 hwp;have f7:BI.cell? ⟨b7,0,none⟩=some (.int .i64 (sn:Int)):=sJ.cellP (aT (aT (aT (aT (aT aV))))) 0 rfl;go_wp2_with ((with_reducible refine bI ⟨?_⟩);refine iW (cs:=fU f (.slice da dn dc)) sJ aj aV Tryz.underlying54 rfl (by rw [oK _ _ kL.out];kernel_rfl) ?_)
    refine (ae8 (p:=b) (N:=N) (lv:=lv) (ip:=qi) (gb:=gb) (s:=(sn:Int)) (f:=f) kL.out (by have:=zn.out.2;have:=H9.out;have:=lD.out;have:=Hn.out;omega) zn.out.1 (fun k=>by
     have h1:=aO.YB (aO.jK ((aO.fV D).take i)++(fs.take j).map fun q=>((sn:Int),q.1)) k;rw [aaK,abl,acA]at h1;have:=H9.out;have:=lD.out;have:=Hn.out;omega) (sJ.sb:Sat w0 BI (dM b N lv kp qi gb::dB kp vY Bj::dK kV::pt b12 (.cells #[.int .i64 (sn:Int),.slice (some ⟨bk2,off2,none⟩) fs.length fc,.int .i64 (py+(f.size:Int))] 146 (0,0))::pt b7 (.cells (bT ⟨(sn:Int),yX,yT⟩).toArray 45 (0,0))::aB 54 36 (.slice (some ⟨bk2,off2,none⟩) fs.length fc) (jD fs)::kN fs::aB 146 3 lv (ys.flatMap dY)::eP zs::omap (.int .i64) gb []::aI qi mi Bi::aB 45 3 (.slice (some ⟨bk,off,none⟩) us.length vc) (us.flatMap bT)::aK p m L::aJ m M::aW r m seg p ps pn d::G))).mono ?_
    rintro ee SI ⟨v,rfl,mm3,bg3,OD,xX⟩;rw [← Hr.out]at OD;rw [← zB.out]at xX;have Hk3:=uQ OD;clear sJ f7 OD;go_wp2_with fail
    go_roundg (fs.length - (j+1))
    case measure=>have:=lD.out;omega
    case rel=>exact ⟨j+1,Bj+1,mm3,bg3,rfl,lD.out,by first|rfl|go_num,Hk3.out,Nat.succ_le_succ zn.out.2,xX.sb⟩
end
def eG (gb:Nat) (gs:List Int):aH:=omap (.int .i64) gb (gs.map fun g=>(.int .i64 g,.int .i64 1))
section
variable {w0 w:World}{F:List aH}{gb:Nat}{gs:List Int}
theorem Jg (t:Int) (h:Sat w0 w (eG gb gs::F)):(Instr.lookup 142 (.map (some gb)) (.int .i64 t) false).run Tryz.prog w = .ok (.int .i64 (if gs.contains t then 1 else 0)) w:=by
 rcases Q8 (key:= .int .i64 t) Tryz.underlying142 Tryz.underlying3 (z:= .int .i64 0) au rfl h with ⟨v,hm,e,_⟩|⟨hn,e,_⟩
 ·obtain ⟨g,hg,e2⟩:=abZ.1 hm;cases e2;rw [e,acr (an3.2 hg)]
 ·rw [e,abA];intro hc;exact hn (.int .i64 t,.int .i64 1) (abZ.2 ⟨t,an3.1 hc,rfl⟩) rfl
theorem ae9 {b3 b4 q kp ip:Nat}{N s t:Int}{lv:Value} (h:Sat w0 w (eG gb gs::dM q N lv kp ip gb::pt b3 (.cells #[ptr q] 84 (0,0))::pt b4 (.cells #[.int .i64 s] 3 (0,0))::F)) :
  Calls Tryz.prog 124 #[.int .i64 t,ptr b4,ptr b3] w (aP fun v w'=>v = .bool (decide (t<s) && !gs.contains t)∧w=w'):=by
 have hl:=Jg t h;have e3:w.cell? ⟨b3,0,none⟩=some (ptr q):=h.cellP eH 0 rfl;have e4:w.cell? ⟨b4,0,none⟩=some (.int .i64 s):=h.cellP iJ 0 rfl;have eq4:w.cell? ⟨q,4,none⟩=some (.map (some gb)):=h.cellP aY 4 rfl;clear h;obtain ⟨x,hx⟩:∃ x:Bool,(decide (t<s) && !gs.contains t)=x:=⟨_,rfl⟩;have Hx:=uQ hx;rw [hx];clear hx;by_cases hts:t<s;rotate_left
 focus
  have hv:x=false:=by rw [← Hx.out,ac4 hts,Bool.false_and]
  subst hv;clear hl;have h1:decide (t<s)=false:=ac4 hts;clear hts;go_enter Tryz.func124,Tryz.ntmps124;go_wp2_with fail;go_ret;exact ⟨_,rfl,rfl,rfl⟩
 have h1:decide (t<s)=true:=adt hts;by_cases hc:gs.contains t=true
 focus
  have hv:x=false:=by rw [← Hx.out,hc,Bool.not_true,Bool.and_false]
  subst hv;rw [acr hc]at hl;clear hts hc;go_enter Tryz.func124,Tryz.ntmps124;go_wp2_with ((with_reducible apply GK);refine ⟨?_⟩;refine yS (by first|rfl|kernel_rfl) ?_);go_ret;exact ⟨_,rfl,rfl,rfl⟩
 have hv:x=true:=by rw [← Hx.out,h1,Bool.eq_false_iff.2 hc];rfl
 subst hv;rw [abA hc]at hl;clear hts hc;go_enter Tryz.func124,Tryz.ntmps124;go_wp2_with ((with_reducible apply GK);refine ⟨?_⟩;refine yS (by first|rfl|kernel_rfl) ?_);go_ret;exact ⟨_,rfl,rfl,rfl⟩
theorem aeL {b3 b4:Nat}{P:Int→Bool}{c:List Int}{sv:Value} (hl:c.length≤1048576) (hr:bG 1 sv (ints c) w)
  (hc:∀ t,Calls Tryz.prog 124 #[.int .i64 t,ptr b4,ptr b3] w (aP fun v w'=>v = .bool (P t)∧w=w')) :
  Calls Tryz.prog 166 #[sv,.func (.func 124) #[] #[ptr b4,ptr b3]] w (aP fun v w'=>∃ i:Int,v = .int .i64 i∧decide (i≥0)=c.any P∧w=w'):=by
 obtain ⟨sa,sc,rfl⟩:=FN hr;have Hl:=uQ hl;have Hr:=uQ hr;have Hc:=uQ hc;clear hl hr hc;go_enter Tryz.func166,Tryz.ntmps166;go_wp2_with fail
 go_loopg [8] c.length (fun g iq wr=>∃ i:Nat,g=c.length - i∧i≤c.length∧iq = .int .i64 i∧wr=w∧Hid (∀ t∈c.take i,P t=false))
 case atStart=>exact ⟨0,rfl,acV _,rfl,rfl,uQ fun t ht=>by cases ht⟩
 case round=>
  obtain ⟨i,rfl,hi,rfl,rfl,Hp⟩:=hrel;by_cases hlt:i<c.length;rotate_left
  focus
   obtain rfl:i=c.length:=by omega
   have hic:¬ (c.length:Int)<(c.length:Int):=oQ
   have bF:=uQ (show decide ((-1:Int)≥0)=c.any P by
    have h1:=Hp.out;rw [adk]at h1;rw [List.any_eq_false.2 fun t ht=>by rw [h1 t ht];decide]
    rfl)
   clear hi hlt Hp;go_wp2_with fail;go_ret;exact ⟨_,rfl,-1,rfl,bF.out,rfl⟩
  obtain ⟨t,ht⟩:∃ t,c[i]?=some t:=⟨_,aaI hlt⟩;obtain ⟨bk,off,cc,e,hcell⟩:=sU Hr.out ht;cases e;have hic:(i:Int)<(c.length:Int):=oQ;have hwi:IntKind.i64.wrap ((i:Int)+1)=(i:Int)+1:=acC _ (by have:=Hl.out;omega);have Ht:=uQ ht;have bV:=uQ hlt;have hfn:=Hc.out t;clear ht hlt hi;go_wp2_with fail;refine hfn.mono ?_;rintro e w2 ⟨v,rfl,rfl,rfl⟩;clear hfn hcell;cases hP:P t with
  |true=>
   have bF:=uQ (show decide ((i:Int)≥0)=c.any P by
    rw [List.any_eq_true.2 ⟨t,abV Ht.out,hP⟩];exact adt (Int.natCast_nonneg _))
   clear hP Hp;go_wp2_with fail;go_ret;exact ⟨_,rfl,(i:Int),rfl,bF.out,rfl⟩
  |false=>
   have zB:=uQ (show ∀ u∈c.take (i+1),P u=false by
    intro u hu;rw [adD,Ht.out,agU]at hu;rcases ac3.1 hu with hu|hu
    ·exact Hp.out u hu
    ·rw [acO]at hu;rw [hu];exact hP)
   clear hP Hp;go_wp2_with fail
   go_roundg (c.length - (i+1))
   case measure=>have:=bV.out;omega
   case rel=>exact ⟨i+1,rfl,adi bV.out,by first|rfl|go_num,rfl,zB⟩
theorem aeC {b3 b4:Nat}{P:Int→Bool}{c:List Int}{sv:Value} (hl:c.length≤1048576) (hr:bG 1 sv (ints c) w)
  (hc:∀ t,Calls Tryz.prog 124 #[.int .i64 t,ptr b4,ptr b3] w (aP fun v w'=>v = .bool (P t)∧w=w')) :
  Calls Tryz.prog 123 #[sv,.func (.func 124) #[] #[ptr b4,ptr b3]] w (aP fun v w'=>v = .bool (c.any P)∧w=w'):=by
 have h1:=aeL hl hr hc;clear hl hr hc;go_enter Tryz.func123,Tryz.ntmps123;go_wp2_with fail;refine h1.mono ?_;rintro e w2 ⟨v,rfl,i,rfl,hi,rfl⟩;clear h1;have Hi:=uQ hi;clear hi;go_wp2_with fail;go_ret;exact ⟨_,rfl,by rw [← Hi.out];rfl,rfl⟩
end
theorem WA (a b:Seg.aU) (w:World):(binOp .eql 94 (.agg (aS a).toArray) (.agg (aS b).toArray)).run Tryz.prog w = .ok (.bool (aO.tH a b)) w:=by
 obtain ⟨a1,a2,c3⟩:=a;obtain ⟨b1,b2,b3⟩:=b;have u3:=Tryz.underlying3;have a3:=Tryz.isAgg3;have z3:=Tryz.sizeOf3;have hS:Tryz.prog.underlying 94=some (.struct (Tryz.prog.fieldsOf 94)):=by kernel_rfl
 have hp:Tryz.prog.stoodInHeld 94=false:=by kernel_rfl
 rw [run_eql_struct];have e:(Op.equalIn 10000 94 (.agg #[.int .i64 a1,.int .i64 a2,.int .i64 c3]) (.agg #[.int .i64 b1,.int .i64 b2,.int .i64 b3])).run Tryz.prog w = .ok (a1==b1 && (a2==b2 && c3==b3)) w:=by
  rw [show (10000:Nat)=9999+1 from rfl,run_equalIn_agg w 9999 94 _ _ hS hp];simp only [Program.fieldsOf,Tryz.underlying94];go_simp;by_cases h1:a1=b1 <;> by_cases h2:a2=b2 <;> by_cases h3:c3=b3 <;> simp [h1,h2,h3]
 rw [show (aS ⟨a1,a2,c3⟩).toArray=#[.int .i64 a1,.int .i64 a2,.int .i64 c3] from rfl,show (aS ⟨b1,b2,b3⟩).toArray=#[.int .i64 b1,.int .i64 b2,.int .i64 b3] from rfl,e]
 rfl
section
variable {w0 w:World}{F:List aH}{gb q kp ip B Bi:Nat}{gs:List Int}{mm:ah.Bs→Option Rep.iw}{bg:List (Value×List Int)}{mi:ah.Bs→Option Seg.aU}{N s:Int}{lv:Value}{f:ah.dA}{da:Option Addr}{dn dc:Nat}{P:aO.Plan}
theorem Vw (hk:f.e.key.length=32) (hB:B≤13000000) (pK:Bi≤13000000) (hko:lN mm P.keys bg) (hln:∀ k,(aO.iG P.keys k).1.length≤1048576) (hmi:mi=P.index)
  (h:Sat w0 w (eG gb gs::dM q N lv kp ip gb::dB kp mm B::dK bg::aI ip mi Bi::F)) :
  Calls Tryz.prog 72 #[ptr q,.int .i64 s,.agg (fU f (.slice da dn dc))] w (aP fun v w'=>v = .bool (aO.counts P gs s f)∧Sat w0 w' (eG gb gs::dM q N lv kp ip gb::dB kp mm B::dK bg::aI ip mi Bi::F)):=by
 subst hmi;have Hk:=uQ hk;have iD:=uQ (show (aA f.e.key).length=32 by rw [aX,hk]);have HB:=uQ hB;have G7:=uQ pK;have jJ:=uQ (hln f.e.key);obtain ⟨ka,kn,kc,hk1,hk2⟩:=hko f.e.key;have Hq:=uQ hk2;have e0:(fU f (.slice da dn dc))[0]?=some (.int .i64 f.e.tag):=rfl;obtain ⟨e34,e35,l7⟩:=E8 f (.slice da dn dc) hk;have Hk1:=uQ hk1;obtain ⟨x,hx⟩:∃ x:Bool,aO.counts P gs s f=x:=⟨_,rfl⟩;have Hx:=uQ hx;rw [hx];clear hx hk1 hk2 hk hB pK hko hln;go_enter Tryz.func72,Tryz.ntmps72;go_wp2_with (with_reducible apply fK);refine ⟨fM h ak ak ?_⟩;intro b3 w3 h3;go_wp2_with (with_reducible apply fK);refine ⟨fM h3 ak ak ?_⟩;intro b4 w4 h4;go_wp2_with (with_reducible apply fK);refine ⟨fM h4 ak ak ?_⟩;intro b5 w5 h5;clear h h3 h4
 repeat (first|go_skip|(with_reducible apply qZ 1)|go_values|go_guarded|go_step|go_upon)
 refine ⟨?_⟩;have h6:Sat w0 w5 (pt b5 (.cells (fU f (.slice da dn dc)) 54 (0,0))::pt b4 (.cells #[.int .i64 s] 3 (0,0))::pt b3 (.cells #[ptr q] 84 (0,0))::eG gb gs::dM q N lv kp ip gb::dB kp mm B::dK bg::aI ip P.index Bi::F):=h5;clear h5;have f0:w5.cell? ⟨b5,0,none⟩=some (.int .i64 f.e.tag):=h6.cellP aV 0 e0;by_cases h2:f.e.tag=2
 focus
  have hb:(f.e.tag==2)=true:=ai7.2 h2;have hxv:x=false:=by rw [← Hx.out];unfold aO.counts;rw [acr h2]
  subst hxv;clear h2;go_wp2_with fail;go_ret;exact ⟨_,rfl,rfl,h6.sb⟩
 have hb:(f.e.tag==2)=false:=by rw [acH];exact h2
 have H2:=uQ h2;have f34:w5.cell? ⟨b5,34,none⟩=some (.int .i64 (f.at_:Int)):=h6.cellP aV 34 e34;have f35:w5.cell? ⟨b5,35,none⟩=some (.int .i64 (f.size:Int)):=h6.cellP aV 35 e35;have e4:w5.cell? ⟨b4,0,none⟩=some (.int .i64 s):=h6.cellP aY 0 rfl;clear h2
 repeat (first|go_skip|(with_reducible apply yR)|go_values|go_guarded|go_step|go_upon)
 refine ⟨ab3 ak ak ak (fun w=>aaV s f.at_ f.size w) ?_⟩
 repeat (first|go_skip|(with_reducible apply gq)|go_values|go_guarded|go_step|go_upon)
 refine ⟨fF ng h6 rfl ?_⟩;intro b7 w7 h7;clear f0 f34 f35 e4 h6
 repeat (first|go_skip|(with_reducible apply cO)|go_values|go_guarded|go_step|go_upon)
 refine ⟨gJ (aS ⟨s,f.at_,f.size⟩).toArray h7 aj aj aj cZ au aj ?_⟩;intro w8 h8;clear h7
 repeat (first|go_skip|(with_reducible apply qZ 4)|go_values|go_guarded|go_step|go_upon)
 refine ⟨?_⟩;have f0:w8.cell? ⟨b5,0,none⟩=some (.int .i64 f.e.tag):=h8.cellP aY 0 e0;by_cases ht:f.e.tag=0
 focus
  have hb0:(f.e.tag==0)=true:=ai7.2 ht;have Ez:=uQ ht;clear ht
  repeat (first|go_skip|(with_reducible apply qZ 5)|go_values|go_guarded|go_step|go_upon)
  refine ⟨?_⟩;have HT:=uQ (fun (w':World) (R:List aH) (hw:Sat w0 w' (aI ip P.index Bi::R))=>Oh (k:=f.e.key) (acz G7.out aN) Hk.out hw);obtain ⟨pl,hpl⟩:∃ pl,(P.index f.e.key).getD Seg.aU.zero=pl:=⟨_,rfl⟩;obtain ⟨ok,hok⟩:∃ ok,(P.index f.e.key).isSome=ok:=⟨_,rfl⟩;have Hpl:=uQ hpl;have dw:=uQ hok;rw [hpl,hok]at HT;clear hpl hok f0;have h9:=h8.drew;have hG:World.cell? _ ⟨b3,0,none⟩=some (ptr q)∧World.cell? _ ⟨q,3,none⟩=some (ptr ip)∧World.rangeAt _ b5 1 (aA f.e.key):=⟨h9.cellP iJ 0 rfl,h9.cellP (aT (aT (aT (aT (aT aV))))) 3 rfl,fun j v hj=>h9.cellP aY (1+j) (l7 j v hj)⟩;clear h8;refine dS [7,8,9,10,12,13] (fun w'=>w'.cell? ⟨b3,0,none⟩=some (ptr q)∧w'.cell? ⟨q,3,none⟩=some (ptr ip)∧w'.rangeAt b5 1 (aA f.e.key)) au ?_;refine rt 0 (h:=?_);refine rP 1 ?_ (y:=dV);refine rP 2 ?_ (y:=bW);refine rt 3 (h:=?_);refine rP 4 ?_ (y:=bW)
  refine rP 5 ?_ (y:=bW);refine gV 6 ak au eU (iI (b:=b5) (o:=1) (aA f.e.key) aj Tryz.underlying50 rfl (by rw [iD.out];kernel_rfl) (fun w hw=>hw.2.2)) aQ gQ ?_;clear hG;refine rU 7 11 ak ak au (fun K hK=>?_) (fun K hK=>?_)
  focus
   (refine gZ au ak ak ?_)
   refine (HT.out _ _ (h9.sb:Sat w0 _ (aI ip P.index Bi::pt b7 (.cells (aS ⟨s,f.at_,f.size⟩).toArray 94 (0,0))::pt b5 (.cells (fU f (.slice da dn dc)) 54 (0,0))::pt b4 (.cells #[.int .i64 s] 3 (0,0))::pt b3 (.cells #[ptr q] 84 (0,0))::eG gb gs::dM q N lv kp ip gb::dB kp mm B::dK bg::F))).mono ?_;rintro ee w10 ⟨v,rfl,rfl,h10⟩;refine hK _ _ (.inl rfl) ?_;clear hK h9;refine rP 8 ?_ (y:=aZ);refine rP 9 ?_ (y:=(fC ak bU));refine rP 10 ?_ (y:=(fC ak bU));refine bY 11 ak au (fun K hK=>?_);refine lZ (ng) h10 rfl ?_;intro b8 iV h11;refine hK _ _ (.inr (.inl ⟨h11.cellP (aT (aT (aT (aT (aT aV))))) 0 rfl,h11.cellP (aT (aT (aT (aT (aT (aT (aT aV))))))) 3 rfl,fun j v hj=>h11.cellP iJ (1+j) (l7 j v hj)⟩)) ?_;clear hK h10
  rotate_left
  focus
   refine lZ (ng) h9 rfl ?_;intro b8 w10 h10;refine hK _ _ (.inr (.inl ⟨h10.cellP rJ 0 rfl,h10.cellP (aT (aT (aT (aT (aT (aT aV)))))) 3 rfl,fun j v hj=>h10.cellP eH (1+j) (l7 j v hj)⟩)) ?_;clear hK h9;refine bY 7 ak au (fun K hK=>?_)
   (refine gZ au ak ak ?_)
   refine (HT.out _ _ (h10.sb:Sat w0 _ (aI ip P.index Bi::pt b8 (.cells (aS Seg.aU.zero).toArray 94 (0,0))::pt b7 (.cells (aS ⟨s,f.at_,f.size⟩).toArray 94 (0,0))::pt b5 (.cells (fU f (.slice da dn dc)) 54 (0,0))::pt b4 (.cells #[.int .i64 s] 3 (0,0))::pt b3 (.cells #[ptr q] 84 (0,0))::eG gb gs::dM q N lv kp ip gb::dB kp mm B::dK bg::F))).mono ?_;rintro ee iV ⟨v,rfl,rfl,Fa⟩;refine hK _ _ (.inl rfl) ?_;clear hK h10;have h11:Sat w0 iV (pt b8 (.cells (aS Seg.aU.zero).toArray 94 (0,0))::aI ip P.index Bi::pt b7 (.cells (aS ⟨s,f.at_,f.size⟩).toArray 94 (0,0))::pt b5 (.cells (fU f (.slice da dn dc)) 54 (0,0))::pt b4 (.cells #[.int .i64 s] 3 (0,0))::pt b3 (.cells #[ptr q] 84 (0,0))::eG gb gs::dM q N lv kp ip gb::dB kp mm B::dK bg::F):=Fa.sb;clear Fa;refine rP 8 ?_ (y:=aZ);refine rP 9 ?_ (y:=(fC ak bU));refine rP 10 ?_ (y:=(fC ak bU))
  all_goals
   refine bY 12 ak au (fun K hK=>?_);refine kW (cs':=(aS pl).toArray) h11 ak ak aj cZ bJ au aj ?_;intro w12 h12;refine hK _ _ (.inl rfl) ?_;clear hK h11;refine rP 13 ?_ (y:=fZ);refine dI au ?_;have gy:=uQ (h12.sb:Sat w0 w12 (eG gb gs::dM q N lv kp ip gb::dB kp mm B::dK bg::aI ip P.index Bi::F))
   have ql:=uQ (show x=(ok && aO.tH pl ⟨s,f.at_,f.size⟩) by
    rw [← Hx.out,← Hpl.out,← dw.out];unfold aO.counts;rw [abA H2.out,acr Ez.out];cases P.index f.e.key <;> rfl)
   have heq:=WA pl ⟨s,f.at_,f.size⟩;generalize aO.tH pl ⟨s,f.at_,f.size⟩=y at *
   clear Hpl dw HT e0 e34 e35 l7;rcases ok with _|_
   focus
    obtain rfl:x=false:=ql.out;clear h12 heq;go_wp2_with fail;go_ret;exact ⟨_,rfl,rfl,gy.out⟩
   obtain rfl:x=y:=by rw [ql.out];rfl
   go_wp2_with (first
    |((with_reducible apply GK);refine ⟨?_⟩;refine yS (by first|rfl|kernel_rfl) ?_)
    |((with_reducible refine bI ⟨?_⟩);refine iW (cs:=(aS pl).toArray) h12 aj aV Tryz.underlying94 rfl au ?_)
    |((with_reducible refine bI ⟨?_⟩);refine iW (cs:=(aS ⟨s,f.at_,f.size⟩).toArray) h12 aj eH Tryz.underlying94 rfl au ?_))
   go_ret;exact ⟨_,rfl,rfl,gy.out⟩
 have hb0:(f.e.tag==0)=false:=by rw [acH];exact ht
 have Ez:=uQ ht;clear ht
 repeat (first|go_skip|(with_reducible apply qZ 7)|go_values|go_guarded|go_step|go_upon)
 refine ⟨?_⟩;have HT:=uQ (fun (w':World) (R:List aH) (hw:Sat w0 w' (dB kp mm B::R))=>Xf (k:=f.e.key) (acz HB.out aN) Hk.out hw);rw [Hk1.out]at HT;obtain ⟨c,hc⟩:∃ c,(aO.iG P.keys f.e.key).1=c:=⟨_,rfl⟩;obtain ⟨pl,hpl⟩:∃ pl,(aO.iG P.keys f.e.key).2=pl:=⟨_,rfl⟩
 have ql:=uQ (show x=(aO.tH pl ⟨s,f.at_,f.size⟩ && c.any fun t=>decide (t<s) && !gs.contains t) by
  rw [← Hx.out,← hc,← hpl];unfold aO.counts;rw [abA H2.out,abA Ez.out])
 rw [hpl]at HT;rw [hc]at Hq jJ;generalize (mm f.e.key).isSome=ok at *
 clear hpl hc f0 Hk1 Hx;have h9:=h8.drew;have hG:World.cell? _ ⟨b3,0,none⟩=some (ptr q)∧World.cell? _ ⟨q,2,none⟩=some (ptr kp)∧World.rangeAt _ b5 1 (aA f.e.key):=⟨h9.cellP iJ 0 rfl,h9.cellP (aT (aT (aT (aT (aT aV))))) 2 rfl,fun j v hj=>h9.cellP aY (1+j) (l7 j v hj)⟩;clear h8;refine dS [7,8,9,10,12,13] (fun w'=>w'.cell? ⟨b3,0,none⟩=some (ptr q)∧w'.cell? ⟨q,2,none⟩=some (ptr kp)∧w'.rangeAt b5 1 (aA f.e.key)) au ?_;refine rt 0 (h:=?_);refine rP 1 ?_ (y:=dV);refine rP 2 ?_ (y:=bW);refine rt 3 (h:=?_);refine rP 4 ?_ (y:=bW);refine rP 5 ?_ (y:=bW);refine gV 6 ak au eU (iI (b:=b5) (o:=1) (aA f.e.key) aj Tryz.underlying50 rfl (by rw [iD.out];kernel_rfl) (fun w hw=>hw.2.2)) aQ gQ ?_;clear hG;refine rU 7 11 ak ak au (fun K hK=>?_) (fun K hK=>?_)
 focus
  (refine gZ au ak ak ?_)
  refine (HT.out _ _ (h9.sb:Sat w0 _ (dB kp mm B::pt b7 (.cells (aS ⟨s,f.at_,f.size⟩).toArray 94 (0,0))::pt b5 (.cells (fU f (.slice da dn dc)) 54 (0,0))::pt b4 (.cells #[.int .i64 s] 3 (0,0))::pt b3 (.cells #[ptr q] 84 (0,0))::eG gb gs::dM q N lv kp ip gb::dK bg::aI ip P.index Bi::F))).mono ?_;rintro ee w10 ⟨v,rfl,rfl,h10⟩;refine hK _ _ (.inl rfl) ?_;clear hK h9;refine rP 8 ?_ (y:=aZ);refine rP 9 ?_ (y:=(fC ak bU));refine rP 10 ?_ (y:=(fC ak bU));refine bY 11 ak au (fun K hK=>?_);refine lZ (D6) h10 rfl ?_;intro b8 iV h11;refine hK _ _ (.inr (.inl ⟨h11.cellP (aT (aT (aT (aT (aT aV))))) 0 rfl,h11.cellP (aT (aT (aT (aT (aT (aT (aT aV))))))) 2 rfl,fun j v hj=>h11.cellP iJ (1+j) (l7 j v hj)⟩)) ?_;clear hK h10
 rotate_left
 focus
  refine lZ (D6) h9 rfl ?_;intro b8 w10 h10;refine hK _ _ (.inr (.inl ⟨h10.cellP rJ 0 rfl,h10.cellP (aT (aT (aT (aT (aT (aT aV)))))) 2 rfl,fun j v hj=>h10.cellP eH (1+j) (l7 j v hj)⟩)) ?_;clear hK h9;refine bY 7 ak au (fun K hK=>?_)
  (refine gZ au ak ak ?_)
  refine (HT.out _ _ (h10.sb:Sat w0 _ (dB kp mm B::pt b8 (.cells (dD nO).toArray 202 (0,0))::pt b7 (.cells (aS ⟨s,f.at_,f.size⟩).toArray 94 (0,0))::pt b5 (.cells (fU f (.slice da dn dc)) 54 (0,0))::pt b4 (.cells #[.int .i64 s] 3 (0,0))::pt b3 (.cells #[ptr q] 84 (0,0))::eG gb gs::dM q N lv kp ip gb::dK bg::aI ip P.index Bi::F))).mono ?_;rintro ee iV ⟨v,rfl,rfl,Fa⟩;refine hK _ _ (.inl rfl) ?_;clear hK h10;have h11:Sat w0 iV (pt b8 (.cells (dD nO).toArray 202 (0,0))::dB kp mm B::pt b7 (.cells (aS ⟨s,f.at_,f.size⟩).toArray 94 (0,0))::pt b5 (.cells (fU f (.slice da dn dc)) 54 (0,0))::pt b4 (.cells #[.int .i64 s] 3 (0,0))::pt b3 (.cells #[ptr q] 84 (0,0))::eG gb gs::dM q N lv kp ip gb::dK bg::aI ip P.index Bi::F):=Fa.sb;clear Fa;refine rP 8 ?_ (y:=aZ);refine rP 9 ?_ (y:=(fC ak bU));refine rP 10 ?_ (y:=(fC ak bU))
 all_goals
  refine bY 12 ak au (fun K hK=>?_);refine kW (cs':=(dD ⟨ka,kn,kc,pl⟩).toArray) h11 ak ak aj cZ bJ au aj ?_;intro w12 h12;refine hK _ _ (.inl rfl) ?_;clear hK h11;refine rP 13 ?_ (y:=fZ);refine dI au ?_;have gy:=uQ (h12.sb:Sat w0 w12 (eG gb gs::dM q N lv kp ip gb::dB kp mm B::dK bg::aI ip P.index Bi::F))
  have hany:=aeC (w:=w12) (b3:=b3) (b4:=b4) (P:=fun t=>decide (t<s) && !gs.contains t) (c:=c) (sv:= .slice ka kn kc) jJ.out (by
   rcases Hq.out with z|⟨z1,z2,z3,z4⟩
   ·exact Vj z (h12.sb:Sat w0 w12 (dK bg::F))
   ·rw [z1,z2,z3,z4];exact wG 1 0 w12) (fun t=>ae9 (h12.sb:Sat w0 w12 (eG gb gs::dM q N lv kp ip gb::pt b3 (.cells #[ptr q] 84 (0,0))::pt b4 (.cells #[.int .i64 s] 3 (0,0))::F)))
  obtain ⟨z,hz⟩:∃ z:Bool,(c.any fun t=>decide (t<s) && !gs.contains t)=z:=⟨_,rfl⟩;rw [hz]at hany ql;clear hz;have hrg:w12.rangeAt b8 1 (aS pl):=fun j v hj=>h12.cellP aV (1+j) (by rw [abY,aoh];exact hj);have f8:w12.cell? ⟨b8,0,none⟩=some (.slice ka kn kc):=h12.cellP aV 0 rfl;have heq:=WA pl ⟨s,f.at_,f.size⟩;generalize aO.tH pl ⟨s,f.at_,f.size⟩=y at *
  have TG:=uQ hany;clear HT e0 e34 e35 l7 hany;rcases y with _|_
  focus
   obtain rfl:x=false:=ql.out
   go_wp2_with (first
    |((with_reducible refine bI ⟨?_⟩);refine iL (b:=b8) (o:=1) (aS pl) aj hrg Tryz.underlying94 rfl au ?_)
    |((with_reducible refine bI ⟨?_⟩);refine iW (cs:=(aS ⟨s,f.at_,f.size⟩).toArray) h12 aj eH Tryz.underlying94 rfl au ?_))
   go_ret;exact ⟨_,rfl,rfl,gy.out⟩
  go_wp2_with (first
   |((with_reducible apply GK);refine ⟨?_⟩;refine yS (by first|rfl|kernel_rfl) ?_)
   |((with_reducible refine bI ⟨?_⟩);refine iL (b:=b8) (o:=1) (aS pl) aj hrg Tryz.underlying94 rfl au ?_)
   |((with_reducible refine bI ⟨?_⟩);refine iW (cs:=(aS ⟨s,f.at_,f.size⟩).toArray) h12 aj eH Tryz.underlying94 rfl au ?_))
  refine TG.out.mono ?_;rintro ee jU ⟨v,rfl,rfl,rfl⟩;have hxx:=ql.out;rw [aoJ]at hxx;subst hxx;clear TG heq hrg f8 h12;go_wp2_with fail;go_ret;exact ⟨_,rfl,rfl,gy.out⟩
end
structure EF (P:aO.Plan) (N:Int) (mm:ah.Bs→Option Rep.iw) (mi:ah.Bs→Option Seg.aU) (bg:List (Value×List Int)) (B Bi:Nat):Prop where
 last:P.last=N
 idx:mi=P.index
 key:lN mm P.keys bg
 len:∀ k,(aO.iG P.keys k).1.length≤1048576
 b1:B≤13000000
 b2:Bi≤13000000
structure UK (y:Sg):Prop where
 key:∀ q∈y.2.1,q.1.e.key.length=32
 pay:aO.pay (jO y)≤16777216
 len:y.2.1.length≤16777216
section
variable {w0 w:World}{F:List aH}{gb q kp ip B Bi:Nat}{gs:List Int}{mm:ah.Bs→Option Rep.iw}{bg:List (Value×List Int)}{mi:ah.Bs→Option Seg.aU}{N pc:Int}{lv:Value}{P:aO.Plan}{zs:List Sg}{y:Sg}
theorem agy (h:Sat w0 w (eG gb gs::F)):(Builtin.len_ #[142] 3 #[.map (some gb)]).run Tryz.prog w = .ok (.int .i64 gs.length) w:=by
 rw [aaT Tryz.underlying142 3 h,abl]
theorem ae7 {fa:Option Addr}{fc:Nat} (hy:y∈zs) (hyl:y.2.2 = .slice fa y.2.1.length fc) (hf:UK y) (hpc:0≤pc∧pc≤100) (hP:EF P N mm mi bg B Bi)
  (h:Sat w0 w (eG gb gs::dM q N lv kp ip gb::dB kp mm B::dK bg::aI ip mi Bi::eP zs::F)) :
  Calls Tryz.prog 121 #[ptr q,.agg #[.int .i64 y.1,y.2.2,.int .i64 (aO.pay (jO y))],.int .i64 pc] w (aP fun v w'=>v = .bool (aO.sparse P gs pc (y.1,jO y))∧Sat w0 w' (eG gb gs::dM q N lv kp ip gb::dB kp mm B::dK bg::aI ip mi Bi::eP zs::F)):=by
 obtain ⟨s,fs,sv⟩:=y;dsimp only at hyl hf ⊢;subst hyl;have Hy:=uQ hy;have Hf:=uQ hf;have xg:=uQ hpc;have HP:=uQ hP;obtain ⟨x,hx⟩:∃ x:Bool,aO.sparse P gs pc (s,jO (s,fs,.slice fa fs.length fc))=x:=⟨_,rfl⟩;rw [hx];have Hx:=uQ hx;obtain ⟨py,hpy⟩:∃ py,aO.pay (jO (s,fs,.slice fa fs.length fc))=py:=⟨_,rfl⟩;have hp0:0≤py∧py≤16777216:=by
  have:=aO.FX (P:=P) (gs:=gs) (s:=s) (jO (s,fs,.slice fa fs.length fc));have:=hf.pay;omega
 rw [hpy];have zC:=uQ hpy;have jv:=uQ hp0;clear hx hpy hp0 hy hf hP;go_enter Tryz.func121,Tryz.ntmps121;go_wp2_with (with_reducible apply fK);refine ⟨fM h ak ak ?_⟩;intro b4 w4 h4;replace h4:Sat w0 w4 (pt b4 (.cells #[.int .i64 s,.slice fa fs.length fc,.int .i64 py] 146 (0,0))::eG gb gs::dM q N lv kp ip gb::dB kp mm B::dK bg::aI ip mi Bi::eP zs::F):=h4;clear h;have e2:w4.cell? ⟨b4,2,none⟩=some (.int .i64 py):=h4.cellP aV 2 rfl;by_cases h0:py=0
 focus
  have hb:(py==0)=true:=ai7.2 h0
  have ql:=uQ (show x=(decide (0<pc) && (decide (s≠N) || decide (0<gs.length))) by
   rw [← Hx.out];unfold aO.sparse;simp only;rw [zC.out,acr h0,HP.out.last])
  clear h0 Hx
  repeat (first|go_skip|(with_reducible apply qZ 2)|go_values|go_guarded|go_step|go_upon)
  refine ⟨?_⟩;have h5:=h4.drew;clear e2 h4;have e0:World.cell? _ ⟨b4,0,none⟩=some (.int .i64 s):=h5.cellP aV 0 rfl;have eN:World.cell? _ ⟨q,0,none⟩=some (.int .i64 N):=h5.cellP eH 0 rfl;have eg:World.cell? _ ⟨q,4,none⟩=some (.map (some gb)):=h5.cellP eH 4 rfl;have el:=agy (h5.sb:Sat w0 _ (eG gb gs::pt b4 (.cells #[.int .i64 s,.slice fa fs.length fc,.int .i64 py] 146 (0,0))::dM q N lv kp ip gb::dB kp mm B::dK bg::aI ip mi Bi::eP zs::F));have gy:=uQ (h5.drop);clear h5;by_cases h1:0<pc;rotate_left
  focus
   have c1:decide (pc>0)=false:=ac4 h1;have c1':¬ 0<pc:=h1;obtain rfl:x=false:=by rw [ql.out,ac4 h1];rfl
   clear h1
   go_region
   go_wp2_with fail;go_ret;exact ⟨_,rfl,rfl,gy.out⟩
  have c1:decide (pc>0)=true:=adt h1;have c1':0<pc:=h1;by_cases h2:s=N;rotate_left
  focus
   have c2:(s != N)=true:=agL.2 h2;obtain rfl:x=true:=by rw [ql.out,adt h1,adt h2];rfl
   clear h1 h2
   go_region
   go_wp2_with fail;go_ret;exact ⟨_,rfl,rfl,gy.out⟩
  have c2:(s != N)=false:=by rw [h2];exact bne_self_eq_false _
  by_cases h3:0<gs.length
  focus
   have c3:decide ((gs.length:Int)>0)=true:=adt oQ;have c3':0<gs.length:=h3;obtain rfl:x=true:=by rw [ql.out,adt h1,adt h3,Bool.or_true];rfl
   clear h1 h2 h3
   go_region
   go_wp2_with fail;go_ret;exact ⟨_,rfl,rfl,gy.out⟩
  have c3:decide ((gs.length:Int)>0)=false:=ac4 oQ;have c3':¬ 0<gs.length:=h3;obtain rfl:x=false:=by rw [ql.out,adt h1,ac4 h3,ac4 (fun e=>e h2)];rfl
  clear h1 h2 h3
  go_region
  go_wp2_with fail;go_ret;exact ⟨_,rfl,rfl,gy.out⟩
 have hb:(py==0)=false:=by rw [acH];exact h0
 have ql:=uQ (show x=decide (100 * aO.mQ P gs s (fs.map (·.1))<pc * py) by
  rw [← Hx.out];unfold aO.sparse;simp only;rw [zC.out,abA h0];rfl)
 clear h0 Hx;have Hlen:=uQ Hf.out.len;have e1:w4.cell? ⟨b4,1,none⟩=some (.slice fa fs.length fc):=h4.cellP aV 1 rfl;go_wp2_with fail;clear e1 e2 hb
 go_loopg [7,35] fs.length (fun g lq iq wr=>∃ i:Nat,g=fs.length - i∧i≤fs.length∧lq = .int .i64 (aO.mQ P gs s ((fs.take i).map (·.1)))∧iq = .int .i64 i∧Sat w0 wr (pt b4 (.cells #[.int .i64 s,.slice fa fs.length fc,.int .i64 py] 146 (0,0))::eG gb gs::dM q N lv kp ip gb::dB kp mm B::dK bg::aI ip mi Bi::eP zs::F))
 case atStart=>exact ⟨0,rfl,acV _,rfl,rfl,h4⟩
 case round=>
  obtain ⟨i,rfl,hi,rfl,rfl,hS⟩:=hrel;clear h4;obtain ⟨lz,hlz⟩:∃ lz,aO.mQ P gs s ((fs.take i).map (·.1))=lz:=⟨_,rfl⟩;have hl0:0≤lz∧lz≤16777216:=by
   have h1:=aO.FX (P:=P) (gs:=gs) (s:=s) ((fs.take i).map (·.1));have h2:=aO.ZU (fs.map (·.1)) i;rw [← anw]at h2;have h3:aO.pay (fs.map (·.1))≤16777216:=Hf.out.pay;omega
  rw [hlz];have MC:=uQ hlz;clear hlz;by_cases hlt:i<fs.length;rotate_left
  focus
   obtain rfl:i=fs.length:=by omega
   have c1:¬ (fs.length:Int)<(fs.length:Int):=oQ;have hw1:IntKind.i64.wrap (100 * lz)=100 * lz:=acC _ oQ
   have hw2:IntKind.i64.wrap (pc * py)=pc * py:=acC _ (by
    have h1:=xg.out;have h2:=jv.out;have h3:0≤pc * py:=Int.mul_nonneg h1.1 h2.1;have h4:pc * py≤100 * 16777216:=Int.mul_le_mul h1.2 h2.2 h2.1 aN;omega)
   have e2:wr.cell? ⟨b4,2,none⟩=some (.int .i64 py):=hS.cellP aV 2 rfl;have bF:=uQ (show x=decide (100 * lz<pc * py) by rw [ql.out,← MC.out,adk]);have gy:=uQ hS.drop;obtain ⟨pp,hpp⟩:∃ pp,pc * py=pp:=⟨_,rfl⟩;rw [hpp]at hw2 bF;clear hS hi hlt hl0 ql MC;go_wp2_with fail;go_ret;rw [bF.out];exact ⟨_,rfl,rfl,gy.out⟩
  have c1:(i:Int)<(fs.length:Int):=oQ;have hwi:IntKind.i64.wrap ((i:Int)+1)=(i:Int)+1:=acC _ (by have:=Hlen.out;omega);obtain ⟨⟨f,dv⟩,hq⟩:∃ q,fs[i]?=some q:=⟨_,aaI hlt⟩;have pO:f.e.key.length=32:=Hf.out.key _ (abV hq);obtain ⟨da,dn,dc,rfl,hdn,_⟩:=Nw Hy.out (abV hq) (hS.pk (A:=eP zs));obtain ⟨bk,off,c2,e2,hcell⟩:=jG (f:=fun q:ah.dA×Value=>mO q.1 q.2) (k:=36) (fun q hq=>sH q.1 q.2 (Hf.out.key q hq)) (Vh Hy.out (hS.pk (A:=eP zs))) hq aN;cases e2;have Au:(mO f (.slice da dn dc)).length=36:=sH _ _ pO
  have Iq:=uQ (show aO.mQ P gs s ((fs.take (i+1)).map (·.1))=lz+(if aO.counts P gs s f=true then (f.size:Int) else 0) by
   rw [adD,hq,agU,acI,acS,adw,aO.YT,MC.out])
  have hl1:lz+(if aO.counts P gs s f=true then (f.size:Int) else 0)≤16777216:=by
   rw [← Iq.out];have h1:=aO.FX (P:=P) (gs:=gs) (s:=s) ((fs.take (i+1)).map (·.1));have h2:=aO.ZU (fs.map (·.1)) (i+1);rw [← anw]at h2;have h3:aO.pay (fs.map (·.1))≤16777216:=Hf.out.pay;omega
  have BX:=uQ hl1;have Ei:=uQ hl0;have bV:=uQ hlt;have kL:=uQ pO;clear hq pO hi hlt hl1 hl0 hdn
  go_wp2_with (first
   |((with_reducible refine bI ⟨?_⟩);refine iL (b:=bk) (o:=off+i * 36) (mO f (.slice da dn dc)) aj hcell Tryz.underlying54 rfl (by rw [Au];kernel_rfl) ?_)
   |(with_reducible apply gq))
  refine ⟨fF GY hS rfl ?_⟩;intro b9 w9 h9;clear hcell hS;go_wp2_with (with_reducible apply cO);refine ⟨gJ (fU f (.slice da dn dc)) h9 aj aj (by rw [oK _ _ kL.out];rfl) cZ (by rw [oK _ _ kL.out];kernel_rfl) (E5 _ _ _ _) ?_⟩;intro w10 h10;clear h9;have e0:w10.cell? ⟨b4,0,none⟩=some (.int .i64 s):=h10.cellP aY 0 rfl;go_wp2_with ((with_reducible refine bI ⟨?_⟩);refine iW (cs:=fU f (.slice da dn dc)) h10 aj aV Tryz.underlying54 rfl (by rw [oK _ _ kL.out];kernel_rfl) ?_);refine (Vw (s:=s) (f:=f) kL.out HP.out.b1 HP.out.b2 HP.out.key HP.out.len HP.out.idx (h10.sb:Sat w0 w10 (eG gb gs::dM q N lv kp ip gb::dB kp mm B::dK bg::aI ip mi Bi::pt b9 (.cells (fU f (.slice da dn dc)) 54 (0,0))::pt b4 (.cells #[.int .i64 s,.slice (some ⟨bk,off,none⟩) fs.length fc,.int .i64 py] 146 (0,0))::eP zs::F))).mono ?_;rintro ee iV ⟨v,rfl,rfl,h11⟩;clear h10 e0
  obtain ⟨e34,e35,l7⟩:=E8 f (.slice da dn dc) kL.out;have f35:iV.cell? ⟨b9,35,none⟩=some (.int .i64 (f.size:Int)):=h11.cellP (aT (aT (aT (aT (aT aV))))) 35 e35;have gy:=uQ (h11.sb:Sat w0 iV (pt b4 (.cells #[.int .i64 s,.slice (some ⟨bk,off,none⟩) fs.length fc,.int .i64 py] 146 (0,0))::eG gb gs::dM q N lv kp ip gb::dB kp mm B::dK bg::aI ip mi Bi::eP zs::F));clear h11 e34 l7;obtain ⟨z,hz⟩:∃ z,aO.counts P gs s f=z:=⟨_,rfl⟩;rw [hz]at Iq BX ⊢;clear hz;rcases z with _|_
  focus
   go_wp2_with fail
   go_roundg (fs.length - (i+1))
   case measure=>have:=bV.out;omega
   case rel=>exact ⟨i+1,rfl,adi bV.out,by rw [Iq.out];simp,by first|rfl|go_num,gy.out⟩
  have hwl:IntKind.i64.wrap (lz+(f.size:Int))=lz+(f.size:Int):=acC _ (by have h1:=BX.out;have h2:=Ei.out;simp at h1;omega);go_wp2_with fail
  go_roundg (fs.length - (i+1))
  case measure=>have:=bV.out;omega
  case rel=>exact ⟨i+1,rfl,adi bV.out,by rw [Iq.out];simp,by first|rfl|go_num,gy.out⟩
end
end Go.Proofs.YtihngncbioofnaaGreatDoor
