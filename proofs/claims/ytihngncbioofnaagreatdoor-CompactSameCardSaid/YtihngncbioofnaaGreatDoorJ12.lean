import Derived.Test.YtihngncbioofnaaGreatDoorJ11
open Go.Proofs.Tryz
set_option maxRecDepth 20000
set_option linter.unusedVariables false
set_option linter.unusedSimpArgs false
set_option maxHeartbeats 128000000
open Go Go.Sl Go.MapKept Go.RowKit
open Go.Proofs.YtihngncbioofnaaGreatDoor
variable {w0 w:World}{F R:List aG}{n r m K r0 E p B:Nat}{seg:Int}{oc:aj.Bs->Option aj.Bs}{M:ay.ay}{D:List (Nat×List aj.aI)}{d:Bool}{k:aj.Bs}{v:Value}
namespace Go.aO
open Go.aj (Bs dD aI dI encs gu)
open Go.Seg (aV)
open Go.Rep
section
variable {R:List Row}{k:Bs}{r x:Row}{m:Bs->Option Kv}{gs:List Int}{P:Plan}
abbrev hit (k:Bs) (r:Row):Prop:=dM r≠2/\fU r=k
theorem yI (x:Row) (R:List Row):newest (x::R) k=match newest R k with
  |some y=>some y
  |none=>if dM x≠2/\fU x=k then some x else none:=rfl
theorem wV:∀ {R:List Row},newest R k=none↔∀ r∈R,¬ hit k r
 |[]=>⟨λ_ r hr=>(by cases hr),λ_=>rfl⟩
 |x::R=>by
  rw [yI];cases hn:newest R k with
  |some y=>
   refine ⟨λh=>(by cases h),λh=>?_⟩;have:=(wV (R:=R)).2 λr hr=>h r (.tail _ hr);rw [hn]at this;cases this
  |none=>
   have h1:=wV.1 hn;simp only;constructor
   ·intro h r hr;rcases ad5.1 hr with rfl|hr
    ·intro hh;rw [acg hh]at h;cases h
    ·exact h1 r hr
   ·intro h;rw [abj (h x (.head _))]
theorem FY:∀ {R:List Row},newest R k=some r->r∈R/\hit k r
 |[],h=>by cases h
 |x::R,h=>by
  rw [yI]at h;cases hn:newest R k with
  |some y=>
   rw [hn]at h;cases h;have:=FY hn;exact ⟨.tail _ this.1,this.2⟩
  |none=>
   rw [hn]at h;simp only at h;split at h
   ·cases h;rename_i hh;exact ⟨.head _,hh⟩
   ·cases h
theorem aaF:∀ (a b:List Row),newest (a++b) k=match newest b k with
  |some y=>some y
  |none=>newest a k
 |[],b=>by
  rw [aeu];cases newest b k <;> rfl
 |x::a,b=>by
  rw [aeI];rw [yI,yI,aaF a b];cases newest b k <;> rfl
theorem QS (p:Row->Bool):∀ {R:List Row},newest R k=some r->p r=true->newest (R.filter p) k=some r
 |[],h,_=>by cases h
 |x::R,h,hp=>by
  rw [yI]at h;cases hn:newest R k with
  |some y=>
   rw [hn]at h;cases h;have ih:=QS p hn hp;rw [ajL];split
   ·rw [yI];rw [ih]
   ·exact ih
  |none=>
   rw [hn]at h;simp only at h;split at h
   ·cases h;rename_i hh;have h1:newest (R.filter p) k=none:=wV.2 λr hr=>wV.1 hn r (aem.1 hr).1;rw [ajL,acg hp];rw [yI];rw [h1];simp only;rw [acg hh]
   ·cases h
theorem aaI:∀ {R:List Row},R.Pairwise (λa b=>a.1<=b.1)->newest R k=some r->∀ y∈R,hit k y->y.1<=r.1
 |[],_,h,_,_,_=>by cases h
 |x::R,hp,h,y,hy,hh=>by
  rw [aeZ]at hp;rw [yI]at h;cases hn:newest R k with
  |some z=>
   rw [hn]at h;cases h;rcases ad5.1 hy with rfl|hy
   ·exact hp.1 _ (FY hn).1
   ·exact aaI hp.2 hn y hy hh
  |none=>
   rw [hn]at h;simp only at h;split at h
   ·cases h;rcases ad5.1 hy with rfl|hy
    ·exact aoZ _
    ·exact absurd hh (wV.1 hn y hy)
   ·cases h
theorem ajj {c:List Int}{s t u:Int}:u∈pz c s t↔u∈c\/(t=0/\u=s):=by
 unfold pz;split
 ·rename_i h;rw [aeg,adZ];exact ⟨λq=>q.elim .inl λq=> .inr ⟨h.1,q⟩,λq=>q.elim .inl λq=> .inr q.2⟩
 ·rename_i h;refine ⟨.inl,λq=>q.elim id λ⟨h1,h2⟩=>?_⟩;have:c.getLast?=some s:=Classical.not_not.1 λhne=>h ⟨h1,hne⟩;rw [h2];exact ae5 this
theorem ajk (k':Bs) (v:Kv):iT (Tab.put m k' v) k=if k=k' then v else iT m k:=by
 unfold iT Tab.put;by_cases e:k=k'
 ·rw [acg e,acg e];rfl
 ·rw [abj e,abj e]
theorem Qm:∀ (R:List Row) (m:Bs->Option Kv),(iT (R.foldl uH m) k).2=((newest R k).map iP).getD (iT m k).2/\∀ u,u∈(iT (R.foldl uH m) k).1↔u∈(iT m k).1\/∃ y∈R,dM y=0/\fU y=k/\y.1=u
 |[],m=>⟨rfl,λu=>⟨.inl,λq=>q.elim id λ⟨y,hy,_⟩=>(by cases hy)⟩⟩
 |x::R,m=>by
  obtain ⟨h1,h2⟩:=Qm R (uH m x);rw [List.foldl_cons];have e1:iT (uH m x) k=if hit k x then (pz (iT m k).1 x.1 (dM x),iP x) else iT m k:=by
   unfold uH;by_cases ht:dM x=2
   ·rw [acg ht,abj (λhh=>hh.1 ht)]
   ·rw [abj ht];unfold Gv;rw [ajk];by_cases e:k=fU x
    ·rw [acg e,acg ⟨ht,e.symm⟩,<-e]
    ·rw [abj e,abj (λhh=>e hh.2.symm)]
  constructor
  ·rw [h1,e1];rw [yI];cases hn:newest R k with
   |some y=>rfl
   |none=>
    simp only;by_cases hh:hit k x
    ·rw [acg hh,acg (show dM x≠2/\fU x=k from hh)];rfl
    ·rw [abj hh,abj (show ¬ (dM x≠2/\fU x=k) from hh)]
  ·intro u;rw [h2,e1];by_cases hh:hit k x
   ·rw [acg hh];simp only;rw [ajj];constructor
    ·rintro ((q|⟨q1,q2⟩)|⟨y,hy,q⟩)
     ·exact .inl q
     ·exact .inr ⟨x,.head _,q1,hh.2,q2.symm⟩
     ·exact .inr ⟨y,.tail _ hy,q⟩
    ·rintro (q|⟨y,hy,q1,q2,q3⟩)
     ·exact .inl (.inl q)
     ·rcases ad5.1 hy with rfl|hy
      ·exact .inl (.inr ⟨q1,q3.symm⟩)
      ·exact .inr ⟨y,hy,q1,q2,q3⟩
   ·rw [abj hh];constructor
    ·rintro (q|⟨y,hy,q⟩)
     ·exact .inl q
     ·exact .inr ⟨y,.tail _ hy,q⟩
    ·rintro (q|⟨y,hy,q1,q2,q3⟩)
     ·exact .inl q
     ·rcases ad5.1 hy with rfl|hy
      ·exact absurd ⟨by rw [q1];decide,q2⟩ hh
      ·exact .inr ⟨y,hy,q1,q2,q3⟩
theorem Rl {a b:aV}:wZ a b=true↔a=b:=by
 unfold wZ;rw [aev,aev,ai5,ai5,ai5];constructor
 ·rintro ⟨h1,h2,h3⟩;cases a;cases b;simp only at h1 h2 h3;rw [h1,h2,h3]
 ·rintro rfl;exact ⟨rfl,rfl,rfl⟩
def stay (gs:List Int) (R:List Row):List Row:=R.filter λr => !gs.contains r.1
def copy (P:Plan) (gs:List Int) (R:List Row):List Row:=R.filter λr=>gs.contains r.1 && counts P gs r.1 r.2
theorem amJ (hi:∀ k,P.index k=dO R k) (hk:P.keys=lu R) (hu:∀ a∈R,∀ b∈R,iP a=iP b->a=b) (hp:R.Pairwise λa b=>a.1<=b.1) (ht:∀ a∈R,dM a=0\/dM a=1\/dM a=2) (k:Bs) :
  jw ((stay gs R++copy P gs R).map (·.2.e)) k=jw (R.map (·.2.e)) k:=by
 have obj:∀ l:List Row,jw (l.map (·.2.e)) k=(newest l k).bind λr=>if dM r=0 then some r.2.e.data else none:=λl=>by
  unfold jw;rw [<-QO];cases newest l k <;> rfl
 rw [obj,obj,aaF]
 -- what counts is the last of its key
 have cnt:∀ a∈R,dM a≠2->fU a=k->counts P gs a.1 a.2=true->newest R k=some a:=by
  intro a ha h2 hka hc;have hhit:hit k a:=⟨h2,hka⟩;cases hn:newest R k with
  |none=>exact absurd hhit (wV.1 hn a ha)
  |some r=>
   obtain ⟨hr,hh⟩:=FY hn;have hpl:iP r=iP a:=by
    unfold counts at hc;rw [abj (show ¬ a.2.e.tag=2 from h2)]at hc;by_cases h0:a.2.e.tag=0
    ·rw [acg h0,hi,show a.2.e.key=k from hka]at hc;unfold dO at hc;rw [hn]at hc;simp only [Option.bind_some]at hc;split at hc
     ·rename_i p hp';split at hp'
      ·cases hp';exact Rl.1 hc
      ·cases hp'
     ·cases hc
    ·rw [abj h0,aev,show a.2.e.key=k from hka,hk]at hc;have h3:=(Qm (k:=k) R λ_=>none).1;rw [hn]at h3;have h4:=Rl.1 hc.1;unfold lu at h4;rw [h3]at h4;exact h4
   rw [hu r hr a ha hpl]
 cases hn:newest R k with
 |none=>
  have h1:newest (copy P gs R) k=none:=wV.2 λr hr=>wV.1 hn r (aem.1 hr).1;have h2:newest (stay gs R) k=none:=wV.2 λr hr=>wV.1 hn r (aem.1 hr).1;rw [h1];simp only;rw [h2]
 |some r=>
  obtain ⟨hr,hh⟩:=FY hn;by_cases hg:gs.contains r.1=true
  ·by_cases hc:counts P gs r.1 r.2=true
   ·have h1:newest (copy P gs R) k=some r:=QS _ hn (by rw [hg,hc];rfl);rw [h1]
   ·have h1:newest (copy P gs R) k=none:=wV.2 λa ha hha=>by
     obtain ⟨a1,a2⟩:=aem.1 ha;rw [aev]at a2;have:=cnt a a1 hha.1 hha.2 a2.2;rw [hn]at this;cases this;exact hc a2.2
    rw [h1];simp only;have hr0:dM r≠0:=λh0=>by
     apply hc;unfold counts;rw [abj (show ¬ r.2.e.tag=2 from hh.1),acg (show r.2.e.tag=0 from h0),hi,show r.2.e.key=k from hh.2];unfold dO;rw [hn];simp only [Option.bind_some,acg h0];exact Rl.2 rfl
    have hno:∀ y∈R,dM y=0->fU y=k->gs.contains y.1=true:=λy hy y0 yk=>by
     have hle:=aaI hp hn y hy ⟨by rw [y0];decide,yk⟩;by_cases e:y.1=r.1
     ·rw [e];exact hg
     ·cases Fe:gs.contains y.1 with
      |true=>rfl
      |false=>
       exfalso;apply hc;unfold counts;rw [abj (show ¬ r.2.e.tag=2 from hh.1),abj (show ¬ r.2.e.tag=0 from hr0),show r.2.e.key=k from hh.2,hk,aev];obtain ⟨h3,h4⟩:=Qm (k:=k) R λ_=>none;rw [hn]at h3;refine ⟨Rl.2 (by unfold lu;rw [h3];rfl),?_⟩;rw [List.any_eq_true];refine ⟨y.1,(h4 y.1).2 (.inr ⟨y,hy,y0,yk,rfl⟩),?_⟩;rw [Fe,Bool.not_false,Bool.and_true];exact aeb oQ
    show _=if dM r=0 then some r.2.e.data else none
    rw [abj hr0];cases h2:newest (stay gs R) k with
    |none=>rfl
    |some y=>
     obtain ⟨y1,y2⟩:=FY h2;obtain ⟨y3,y4⟩:=aem.1 y1;show (if dM y=0 then some y.2.e.data else none)=none;rw [abj λy0=>by rw [hno y y3 y0 y2.2]at y4;cases y4]
  ·have h1:newest (copy P gs R) k=none:=wV.2 λa ha hha=>by
    obtain ⟨a1,a2⟩:=aem.1 ha;rw [aev]at a2;have:=cnt a a1 hha.1 hha.2 a2.2;rw [hn]at this;cases this;exact hg a2.1
   have h2:newest (stay gs R) k=some r:=QS _ hn (by rw [ap8]at hg;rw [hg];rfl);rw [h1];simp only;rw [h2]
end
end Go.aO
namespace Go.Seg
open Go.ay
open Go.aj (Bs aI encs gu dI)
open Go.Rep
section
variable {D N:List (Nat×List aI)}{x:aI}{gs:List Int}
def fO (D:List (Nat×List aI)):List aI:=D.flatMap (·.2)
theorem BZ (D N:List (Nat×List aI)):fO (D++N)=fO D++fO N:=by unfold fO;rw [aeB]
theorem yA:∀ (es:List aI) (a:Nat),(dI es a).map (·.e)=es
 |[],_=>rfl
 |x::es,a=>by unfold dI;rw [ad7,yA es]
theorem qo (D:List (Nat×List aI)):(bZ D).map (·.2.e)=fO D:=by
 induction D with
 |nil=>rfl
 |cons d D ih=>
  unfold bZ fO at *
  rw [ael,ael,adU,ih,aeW]
  congr 1
  exact yA d.2 8
theorem KF (fits:Bool) (h:fits=true->N≠[]):∃ N',mQ (D++N) fits x=D++N'/\fO N'=fO N++[x]/\N'≠[]/\N'.length=N.length+(if fits=true then 0 else 1)/\∃ N0 c es,N'=N0++[(c,es++[x])]:=by
 cases fits with
 |true=>
  rcases apx N with rfl|⟨N0,e,rfl⟩
  ·exact absurd rfl (h rfl)
  ·rw [apy,<-adQ];refine ⟨N0++[(e.1,e.2++[x])],?_,?_,by simp,by simp,N0,e.1,e.2,rfl⟩
   ·unfold mQ;rw [acg rfl,List.dropLast_concat,<-adQ];simp
   ·rw [BZ,BZ];unfold fO;simp
 |false=>
  refine ⟨N++[(lK (D++N),[x])],?_,?_,by simp,by simp,N,_,[],rfl⟩
  ·unfold mQ;rw [abj aN,adQ]
  ·rw [BZ];unfold fO;simp
theorem anr (gs:List Int) (D:List (Nat×List aI)):aO.stay gs (bZ D)=bZ (D.filter λd => !gs.contains (d.1:Int)):=by
 induction D with
 |nil=>rfl
 |cons d D ih=>
  have e:bZ (d::D)=((dI d.2 8).map λf=>((d.1:Int),f))++bZ D:=by unfold bZ;rw [ael]
  have e2:∀ D':List (Nat×List aI),bZ (d::D')=((dI d.2 8).map λf=>((d.1:Int),f))++bZ D':=λD'=>by unfold bZ;rw [ael]
  have e1:aO.stay gs (bZ (d::D))=aO.stay gs ((dI d.2 8).map λf=>((d.1:Int),f))++aO.stay gs (bZ D):=by unfold aO.stay;rw [e,ajO]
  rw [e1,ih,ajL];cases hg:gs.contains (d.1:Int) with
  |true=>
   rw [abj aN];have:aO.stay gs ((dI d.2 8).map λf=>((d.1:Int),f))=[]:=by
    unfold aO.stay;rw [ap5];intro r hr;obtain ⟨f,_,rfl⟩:=abL.1 hr;simp only [hg,Bool.not_true];decide
   rw [this,aeu]
  |false=>
   rw [acg aN,e2]
   congr 1
   unfold aO.stay;rw [List.filter_eq_self];intro r hr;obtain ⟨f,_,rfl⟩:=abL.1 hr;simp only [hg,Bool.not_false]
theorem alN (h:D.Pairwise λa b=>a.1<b.1):(bZ D).Pairwise λa b=>a.1<=b.1:=by
 induction D with
 |nil=>exact List.Pairwise.nil
 |cons d D ih=>
  rw [aeZ]at h;have e:bZ (d::D)=((dI d.2 8).map λf=>((d.1:Int),f))++bZ D:=by unfold bZ;rw [ael]
  rw [e,aiq];refine ⟨?_,ih h.2,λa ha b hb=>?_⟩
  ·rw [ajM];exact List.pairwise_of_forall_mem_list λ_ _ _ _=>aoZ _
  ·obtain ⟨f,_,rfl⟩:=abL.1 ha;unfold bZ at hb;obtain ⟨y,hy,hb⟩:=ajc.1 hb;obtain ⟨g,_,rfl⟩:=abL.1 hb;have:=h.1 y hy;simp only;omega
theorem Yf:∀ (es:List aI) (a:Nat){f:aj.dD},f∈dI es a->a<=f.at_
 |[],_,f,h=>by cases h
 |x::es,a,f,h=>by
  unfold dI at h;rcases ad5.1 h with rfl|h
  ·exact abl _
  ·have:=Yf es _ h;omega
theorem Yh:∀ (es:List aI) (a:Nat),(∀ x∈es,gu x)->(dI es a).Pairwise λf g=>f.at_<g.at_
 |[],_,_=>List.Pairwise.nil
 |x::es,a,h=>by
  unfold dI;rw [aeZ];refine ⟨λg hg=>?_,Yh es _ λy hy=>h y (.tail _ hy)⟩;have h1:=Yf es _ hg;have h2:=aj.XM (h x (.head _));show a<g.at_;omega
theorem Ri {α:Type}{f:α->Nat}{l:List α} (h:l.Pairwise λa b=>f a<f b){a b:α} (ha:a∈l) (hb:b∈l) (e:f a=f b):a=b:=by
 induction l with
 |nil=>cases ha
 |cons x l ih=>
  rw [aeZ]at h;rcases ad5.1 ha with rfl|ha' <;> rcases ad5.1 hb with rfl|hb'
  ·rfl
  ·have:=h.1 b hb';omega
  ·have:=h.1 a ha';omega
  ·exact ih h.2 ha' hb'
theorem alO (h:D.Pairwise λa b=>a.1<b.1) (hg:∀ d∈D,∀ x∈d.2,gu x){a b:Row} (ha:a∈bZ D) (hb:b∈bZ D) (e:iP a=iP b):a=b:=by
 unfold bZ at ha hb;obtain ⟨d,hd,ha⟩:=ajc.1 ha;obtain ⟨d',hd',hb⟩:=ajc.1 hb;obtain ⟨f,hf,rfl⟩:=abL.1 ha;obtain ⟨g,hg',rfl⟩:=abL.1 hb;unfold iP at e;simp only [aV.mk.injEq]at e;obtain rfl:d=d':=Ri (f:=λd:Nat×List aI=>d.1) h hd hd' oQ;obtain rfl:f=g:=Ri (f:=λf:aj.dD=>f.at_) (Yh d.2 8 (hg d hd)) hf hg' oQ
 rfl
end
def Log.appends (L:Log) (M:ay):List aI->(Log×ay)×Int
 |[]=>((L,M),0)
 |x::xs=>if (L.append M x).2.2=0 then (L.append M x).1.1.appends (L.append M x).1.2 xs else ((L.append M x).1,(L.append M x).2.2)
def Log.removes (L:Log) (M:ay):List Int->(Log×ay)×Int
 |[]=>((L,M),0)
 |s::ss=>if (L.remove M s).2=0 then (L.remove M s).1.1.removes (L.remove M s).1.2 ss else L.remove M s
section
variable {K r E B n:Nat}{L:Log}{M:ay}{D N:List (Nat×List aI)}
structure Fine (x:aI):Prop where
 key:x.key.length=32
 data:x.data.length<=300
 enc:(aj.encode x).2=0
theorem HD.appends:∀ (xs:List aI){K n:Nat}{L:Log}{M:ay}{N:List (Nat×List aI)},HD K r E B n L M (D++N)->(L.on=true->N≠[])->L.fresh=(N.length:Int)->(∀ x∈xs,Fine x)->n+xs.length+E<500 ->
  ∃ N',HD (K+4*xs.length) r E B (n+xs.length) (L.appends M xs).1.1 (L.appends M xs).1.2 (D++N')/\(L.appends M xs).1.1.fresh=(N'.length:Int)/\aB.Grown M (L.appends M xs).1.2/\((n+xs.length)*400+B<=r->(L.appends M xs).2=0) /\
   ((L.appends M xs).2=0/\fO N'=fO N++xs/\((L.appends M xs).1.1.on=true->N'≠[])/\(L.appends M xs).1.1.limit=L.limit\/(L.appends M xs).2=11)
 |[],K,n,L,M,N,h,hon,hfr,_,_=>⟨N,h,hfr,aB.Grown.refl M,λ_=>rfl,.inl ⟨rfl,by rw [adV],hon,rfl⟩⟩
 |x::xs,K,n,L,M,N,h,hon,hfr,hx,hn=>by
  have hf:=hx x (.head _);rw [aep]at hn;unfold Log.appends;have hnm:=h.names;have hus:=h.used;have hrm:=h.keeps.calm.room;have hgr:=aB.CV L M x;rcases h.EI oQ oQ hf.enc with hz|hz
  ·rw [acg hz];obtain ⟨a1,a2,a3,a4⟩:=h.append oQ x hf.key hf.data hf.enc (.inl hz);obtain ⟨_,k2⟩:=h.keeps.V8 hf.enc hz;obtain ⟨N1,b1,b2,b3,b4,_⟩:=KF (D:=D) (N:=N) (x:=x) (L.fits (aj.encode x).1.length) λhq=>hon (uX hq);rw [b1]at a4;obtain ⟨N',c1,c2,c3,c4,c5⟩:=HD.appends xs a4 (λ_=>b3) (by rw [k2,hfr,b4];split <;> omega) (λy hy=>hx y (.tail _ hy)) oQ;have e1:K+4+4*xs.length<=K+4*(x::xs).length:=by rw [aep];omega
   have e2:n+1+xs.length<=n+(x::xs).length:=by rw [aep];omega
   refine ⟨N',c1.mono e1 (abl _) (abl _) e2,c2,hgr.trans c3,λq=>c4 (adt (Nat.add_le_add_right (ae4 400 e2) B) q),?_⟩;rcases c5 with ⟨d1,d2,d3,d4⟩|d1
   ·exact .inl ⟨d1,by rw [d2,b2,adQ];rfl,d3,d4.trans a3⟩
   ·exact .inr d1
  ·have hz':(L.append M x).2.2≠0:=by rw [hz];decide
   rw [abj hz'];obtain ⟨_,k2⟩:=h.keeps.append x hf.key;obtain ⟨_,k4,_⟩:=k2 hz';refine ⟨N,(h.Og x hf.key hz').mono (by rw [aep];omega) (abl _) (abl _) oQ,by rw [k4];exact hfr,hgr,λq=>?_,.inr hz⟩;exfalso;rw [aep]at q;exact hz' (h.append oQ x hf.key hf.data hf.enc (.inr ⟨by omega,by omega⟩)).1
theorem HD.removes:∀ (ss:List Nat){K:Nat}{L:Log}{M:ay}{D:List (Nat×List aI)},HD K r E B n L M D->ss.Nodup->(∀ s∈ss,∃ d∈D,d.1=s) ->
  (L.removes M (ss.map λs:Nat=>(s:Int))).2=0/\HD (K+ss.length) r E B n (L.removes M (ss.map λs:Nat=>(s:Int))).1.1 (L.removes M (ss.map λs:Nat=>(s:Int))).1.2 (D.filter λd => !ss.contains d.1)/\(L.removes M (ss.map λs:Nat=>(s:Int))).1.1.limit=L.limit/\aB.Grown M (L.removes M (ss.map λs:Nat=>(s:Int))).1.2
 |[],K,L,M,D,h,_,_=>by
  refine ⟨rfl,?_,rfl,aB.Grown.refl M⟩;have e:(D.filter λd => !([]:List Nat).contains d.1)=D:=by rw [List.filter_eq_self];intro d _;rfl
  rw [e];exact h
 |s::ss,K,L,M,D,h,hu,hs=>by
  rw [akZ]at hu;obtain ⟨d,hd,rfl⟩:=hs s (.head _);obtain ⟨a1,a2,a3⟩:=h.remove hd;have ih:=HD.removes ss a2 hu.2 λt ht=>by
   obtain ⟨e,he,rfl⟩:=hs t (.tail _ ht);refine ⟨e,aem.2 ⟨he,?_⟩,rfl⟩;simp only [afZ,ne_eq];intro hq;rw [hq]at ht;exact hu.1 ht
  obtain ⟨b1,b2,b3,b4⟩:=ih;have hg:aB.Grown M (L.remove M (d.1:Int)).1.2:=by
   unfold Log.remove;split
   ·exact aB.Grown.refl M
   ·split <;> exact λp hp=> .inl (aB.RJ hp)
  rw [ad7];unfold Log.removes;rw [acg a1];refine ⟨b1,?_,b3.trans a3,hg.trans b4⟩;have e:(D.filter λy => !(d.1::ss).contains y.1)=(D.filter λy=>y.1 != d.1).filter λy => !ss.contains y.1:=by
   rw [List.filter_filter]
   congr 1
   funext y
   rw [List.contains_cons,Bool.not_or,Bool.and_comm]
   rfl
  rw [e];exact b2.mono (by rw [aep];omega) (abl _) (abl _) (abl _)
theorem HD.Ol {d:Nat×List aI} (h:HD K r E B n L M (D++[d])):L.at (d.1:Int)=some D.length:=by
 obtain ⟨i,hi⟩:=h.EJ (aeg.2 (.inr (adZ.2 rfl)));obtain ⟨h1,s,h2,h3⟩:=Log.zT hi;have hr:=h.rise;rw [aiq]at hr;rw [h.l,adW]at h2;obtain ⟨e,he,rfl⟩:=aip.1 h2;rcases aqg i D.length with q|q|q
 ·rw [aej q]at he;have:=hr.2.2 e (abA he) d (adZ.2 rfl);simp only at h3;omega
 ·rw [hi,q]
 ·have:=(abm.1 he).1;rw [aaL,aer]at this;omega
theorem HD.back:∀ (j:Nat){K:Nat}{L:Log}{M:ay}{N:List (Nat×List aI)},HD K r E B n L M (D++N)->N.length=j->L.fresh=(j:Int) ->
  (L.back j M).2=0/\HD (K+j) r E B n (L.back j M).1.1 (L.back j M).1.2 D/\((L.back j M).1.1.on=false/\(L.back j M).1.1.fresh=0)/\aB.Grown M (L.back j M).1.2/\Apart M (L.back j M).1.2
 |0,K,L,M,N,h,hN,hf=>by
  rw [agZ hN,adV]at h;unfold Log.back;exact ⟨rfl,⟨⟨h.keeps.log.am4,h.keeps.calm,h.keeps.has⟩,h.l,h.rise,h.lim,h.file,h.good,h.used,h.names,h.cover⟩,⟨rfl,hf⟩,aB.Grown.refl M,Apart.refl M⟩
 |j+1,K,L,M,N,h,hN,hf=>by
  obtain ⟨N0,d,rfl⟩:∃ N0 d,N=N0++[d]:=by
   rcases apx N with rfl|⟨N0,d,rfl⟩
   ·cases hN
   ·exact ⟨N0,d,apy⟩
  rw [<-adQ]at h;have hat:=h.Ol;obtain ⟨a1,a2,a3⟩:=h.remove (d:=d) yF0;have hr:=h.rise;rw [aiq]at hr;have hfil:((D++N0++[d]).filter λy=>y.1 != d.1)=D++N0:=by
   have h1:(D++N0).filter (λy=>y.1 != d.1)=D++N0:=List.filter_eq_self.2 λy hy=>by
    have:=hr.2.2 y hy d (adZ.2 rfl);simp only [afZ,ne_eq];omega
   have h2:[d].filter (λy=>y.1 != d.1)=[]:=ap5.2 λy hy=>by
    rw [adZ.1 hy];simp
   rw [ajO,h1,h2,adV]
  rw [hfil]at a2;have hll:=aey List.length h.l;rw [aa4,aaL,aer]at hll;rw [aaL,aer]at hN;have hl:L.l.getLast?=some ((d.1:Int),8+((encs d.2).length:Int)):=by rw [h.l,adU,ad7,aeF,aja];rfl
  have hfr:(L.remove M (d.1:Int)).1.1.fresh=(j:Int):=by
   unfold Log.remove at a1 ⊢;rw [hat]at a1 ⊢;simp only at a1 ⊢;by_cases q:(M.remove (name (d.1:Int))).2=0
   ·rw [acg q];show (if (L.l.length:Int)-L.fresh<=((D++N0).length:Int) then L.fresh-1 else L.fresh)=(j:Int);rw [acg (by rw [hll,hf];omega),hf];omega
   ·rw [abj q]at a1;exact absurd a1 q
  unfold Log.back;rw [hl];simp only;rw [acg a1];obtain ⟨b1,b2,b3,b4,b5⟩:=HD.back j a2 oQ hfr;have hg:aB.Grown M (L.remove M (d.1:Int)).1.2/\Apart M (L.remove M (d.1:Int)).1.2:=by
   unfold Log.remove;rw [hat];simp only;split <;> exact ⟨λp hp=> .inl (aB.RJ hp),abM h.keeps.calm _⟩
  exact ⟨b1,b2.mono oQ (abl _) (abl _) (abl _),b3,hg.1.trans b4,hg.2.trans b5⟩
theorem HD.rollback (h:HD K r E B n L M (D++N)) (hf:L.fresh=(N.length:Int)):(L.rollback M).2=0/\HD (K+N.length) r E B n (L.rollback M).1.1 (L.rollback M).1.2 D/\((L.rollback M).1.1.on=false/\(L.rollback M).1.1.fresh=0)/\aB.Grown M (L.rollback M).1.2/\Apart M (L.rollback M).1.2:=by
 unfold Log.rollback;rw [hf,apM];exact HD.back N.length h rfl hf
end
section
variable {K r E B n:Nat}{L:Log}{M M':ay}{D:List (Nat×List aI)}
theorem HD.fresh (h:HD K r E B n L M D) (lim:Int) (l1:128<=lim) (l2:lim<=1048576):HD K r E B n (fresh M lim) M D:=by
 have hq:=h.keeps.calm.quiet;have hF:=Jt h.keeps.calm.ok lim l1 l2;have hs:(Seg.fresh M lim).aF=L.aF:=ZL (DC hF) (DC h.keeps.log) λs=>by
  rw [aB.ahE hq.off];constructor
  ·rintro ⟨⟨a,b⟩,i,hi⟩;obtain ⟨k,rfl⟩:∃ k:Nat,s=k:=⟨s.toNat,by omega⟩;obtain ⟨d,hd,rfl⟩:=h.cover k i oQ hi;rw [h.aF];exact abL.2 ⟨d,hd,rfl⟩
  ·intro hs;obtain ⟨x,hx,rfl⟩:=abL.1 hs;exact ⟨h.keeps.log.nums x hx,h.keeps.has x hx⟩
 have hlen:(Seg.fresh M lim).l.length=D.length:=by
  have:=aey List.length hs;rw [h.aF]at this;unfold Log.aF at this;rw [aa4,aa4]at this;exact this
 refine ⟨⟨hF,h.keeps.calm,ahD M lim⟩,?_,h.rise,h.lim,h.file,h.good,h.used,h.names,h.cover⟩;refine apu λk=>?_;rw [adW];cases hd:D[k]? with
 |none=>exact ai4.2 (by rw [hlen];exact ai4.1 hd)
 |some d=>
  have hkl:k<D.length:=(abm.1 hd).1;have hx:(Seg.fresh M lim).l[k]?=some ((Seg.fresh M lim).l[k]'oQ):=aay oQ;generalize (Seg.fresh M lim).l[k]'oQ=x at hx;obtain ⟨t,ht,hn,e⟩:=Cj (abA hx);obtain ⟨a,b,c⟩:=C9 hn;have hk1:(Seg.fresh M lim).aF[k]?=some x.1:=by unfold Log.aF;rw [adW,hx];rfl
  rw [hs,h.aF,adW,hd]at hk1;have e1:(number t).1=(d.1:Int):=by rw [e]at hk1;exact (ai2 hk1).symm
  rw [e1]at c;have hf:=h.file d (abA hd);rw [hx,e,e1,<-c];show _=some ((d.1:Int),8+((encs d.2).length:Int))
  congr 2
  obtain ⟨i,hi⟩:=(aB.xU hq).1 (aey Prod.snd hf);rw [all_some hq hi]at hf;have hl2:=aey (λz:Bs×Int=>z.1.length) hf;simp only [aaL]at hl2;have hm:mag.length=8:=rfl;unfold ay.size;rw [hq.off,hi];show (((M.file i).now.length:Nat):Int)=_;omega
theorem HD.told (h:HD K r E B n L M D):∀ j es,(D.map (·.2))[j]?=some es->L.bytes M (L.aF.getD j 0)=(mag++encs es,0)/\∀ x∈es,gu x:=λj es hj=>by
 rw [adW]at hj;cases hd:D[j]? with
 |none=>rw [hd]at hj;cases hj
 |some d=>
  rw [hd]at hj;cases hj;have hm:=abA hd;have e:L.aF.getD j 0=(d.1:Int):=by
   rw [h.aF,adT,adW,hd];rfl
  rw [e];exact ⟨h.bytes hm,(h.good d hm).1⟩
theorem HD.split (h:HD K r E B n L M D):∃ c,Rep.split (λs=>L.bytes M s) L.aF L.aF.length=(c,0)/\c<=D.length/\(c≠0->∃ d,D[c-1]?=some d/\Rep.mJ d.2=true)/\∀ j d,c<=j->D[j]?=some d->Rep.mJ d.2=false:=by
 have hl:L.aF.length=(D.map (·.2)).length:=by rw [h.aF,aa4,aa4]
 obtain ⟨c,h1,h2,h3,h4⟩:=Rep.TJ hl h.told (D.map (·.2)).length (abl _);rw [aa4]at h2;refine ⟨c,by rw [hl];exact h1,h2,λhc=>?_,λj d a b=>?_⟩
 ·obtain ⟨es,h5,h6⟩:=h3 hc;rw [adW]at h5;cases hd:D[c-1]? with
  |none=>rw [hd]at h5;cases h5
  |some d=>rw [hd]at h5;cases h5;exact ⟨d,rfl,h6⟩
 ·have hj:=(abm.1 b).1;exact h4 j d.2 a (by rw [aa4];exact hj) (by rw [adW,b];rfl)
theorem HD.run (h:HD K r E B n L M D) (hc:∀ d,D.getLast?=some d->Rep.mJ d.2=true):Rep.run (λs=>L.bytes M s) L.aF=.inr D.length:=by
 obtain ⟨c,h1,h2,_,h4⟩:=h.split;have hcl:c=D.length:=by
  rcases akJ c D.length with q|q
  ·exfalso;have hl:D[D.length-1]?=some (D[D.length-1]'oQ):=aay oQ;have h5:=h4 _ _ oQ hl;have h6:=hc _ (by rw [aeH];exact hl);rw [h5]at h6;cases h6
  ·omega
 unfold Rep.run;rw [h1,abj yF0,hcl];refine Rep.Ti ?_;have e:L.aF.take D.length=L.aF:=ad9 (by rw [h.aF,aa4];exact abl _);rw [e];exact h.bad
theorem HD.RD (h:HD K r E B n L M D){r':Rep.Row} (hr:r'∈bZ D):L.read M (Rep.iP r')=(r'.2.e,0):=by
 unfold bZ at hr;obtain ⟨d,hd,hr⟩:=ajc.1 hr;obtain ⟨f,h3,rfl⟩:=abL.1 hr;obtain ⟨u,v,h4,h5,h6⟩:=Rep.Ce d.2 8 h3;obtain ⟨e,at_,size⟩:=f;simp only at h3 h4 h5 h6;subst h5;subst h6;have hx:gu e:=(h.good d hd).1 e (by rw [h4];simp);have hf:=h.file d hd;have hm:mag.length=8:=rfl;have hes:encs d.2=encs u++((aj.encode e).1++encs v):=by rw [h4,yu];rfl
 have hrd:=abJ h.keeps.calm.quiet hf (a:=8+(encs u).length) (n:=(aj.encode e).1.length) (by rw [aaL,hes,aaL,aaL];omega);have hdd:((mag++encs d.2).drop (8+(encs u).length)).take (aj.encode e).1.length=(aj.encode e).1:=by
  rw [hes,<-adQ,apU,aew (by rw [aaL];omega)];rw [show 8+(encs u).length-(mag++encs u).length=0 by rw [aaL];omega,apN,aeu,aeC (abl _),aeo]
 rw [hdd]at hrd;have hre:=aj.RG hx.1 hx.2 [];rw [adV]at hre;obtain ⟨i,hi⟩:=h.EJ hd;unfold Log.read Rep.iP;simp only [hi];rw [hrd];simp only [hre];rw [abj aN,abj aN,abj yF0]
end
end Go.Seg
namespace Go.aO
open Go.aj (Bs dD aI dI encs gu)
open Go.Seg (aV)
open Go.Rep
section
variable {P:Plan}{gs:List Int}{s pc:Int}
theorem FU:∀ l:List dD,0<=nV P gs s l/\nV P gs s l<=pay l
 |[]=>⟨aoZ _,aoZ _⟩
 |f::l=>by
  have ih:=FU l;have hc:counts P gs s f=true->f.e.tag≠2:=λh e=>by
   unfold counts at h;rw [acg e]at h;cases h
  unfold nV pay;by_cases h2:f.e.tag=2
  ·rw [acg h2,abj λh=>hc h h2];omega
  ·rw [abj h2];split <;> omega
theorem abe:∀ a b:List dD,pay (a++b)=pay a+pay b
 |[],b=>by simp [pay]
 |f::a,b=>by
  have ih:=abe a b;have e1:pay (f::(a++b))=(if f.e.tag=2 then 0 else (f.size:Int))+pay (a++b):=rfl;have e2:pay (f::a)=(if f.e.tag=2 then 0 else (f.size:Int))+pay a:=rfl;rw [aeI,e1,e2,ih];omega
theorem abg (l:List dD) (j:Nat):pay (l.take j)<=pay l:=by
 have h1:=abe (l.take j) (l.drop j);rw [aeS]at h1;have h2:=FU (P:=⟨0,[],λ_=>none,λ_=>none⟩) (gs:=[]) (s:=0) (l.drop j);omega
def JV (P:Plan) (gs:List Int):Nat:=P.aF.countP λx => !gs.contains x.1
theorem Xf {α:Type}{p q:α->Bool}:∀ l:List α,(∀ x∈l,p x=true->q x=true)->(∃ x∈l,q x=true/\p x=false)->l.countP p<l.countP q
 |[],_,h=>by obtain ⟨x,hx,_⟩:=h;cases hx
 |y::l,h1,h=>by
  have hm:=List.countP_mono_left (l:=l) λx hx=>h1 x (List.mem_cons_of_mem _ hx);rw [ap7,ap7];by_cases hy:q y=true/\p y=false
  ·rw [acg hy.1,hy.2,abj aN];omega
  ·obtain ⟨x,hx,hq⟩:=h;rcases ad5.1 hx with e|hx
   ·rw [e]at hq;exact absurd hq hy
   have ih:=Xf l (λx hx=>h1 x (List.mem_cons_of_mem _ hx)) ⟨x,hx,hq⟩;have h2:=h1 y (List.mem_cons_self ..);cases hp:p y with
   |true=>rw [h2 hp];omega
   |false=>rw [abj aN];omega
theorem ajA (h:nextL P gs pc P.aF≠[]):JV P (gs++nextL P gs pc P.aF)<JV P gs:=by
 obtain ⟨t,ht⟩:=List.exists_mem_of_ne_nil _ h;obtain ⟨x,hx,rfl⟩:=abL.1 ht;have hx2:=aem.1 hx;rw [aev]at hx2;refine Xf _ (λy hy hp=>?_) ⟨x,hx2.1,hx2.2.1,?_⟩
 ·rw [aqf,<-ap8,apz]at hp ⊢;exact λhm=>hp (ap0 _ hm)
 ·rw [Bool.not_eq_false',apz];exact List.mem_append_right _ ht
theorem akd (hnd:(P.aF.map (·.1)).Nodup):(nextL P gs pc P.aF).Nodup/\∀ t∈nextL P gs pc P.aF,t∉gs:=by
 refine ⟨hnd.sublist (apj.map _),λt ht hm=>?_⟩;obtain ⟨x,hx,rfl⟩:=abL.1 ht;have hx2:=(aem.1 hx).2;rw [aev,apz.2 hm]at hx2;cases hx2.1
def chosen (P:Plan) (pc:Int):List Int:=choose P pc (P.aF.length+1) []
theorem left_le:JV P gs<=P.aF.length:=List.countP_le_length
theorem WX {n:Nat} (h:nextL P gs pc P.aF=[]):choose P pc (n+1) gs=gs:=by
 unfold choose;rw [acg h]
theorem WY {n:Nat} (h:nextL P gs pc P.aF≠[]):choose P pc (n+1) gs=choose P pc n (gs++nextL P gs pc P.aF):=by
 rw [choose,abj h]
end
open Go.aj (Bs dD aI dI encs gu)
open Go.Seg (aV bZ fO lM)
open Go.Rep
def gX (D:List (Nat×List aI)):List (Int×List dD):=D.map λd=>((d.1:Int),dI d.2 8)
section
variable {D:List (Nat×List aI)}{d:Nat×List aI}
theorem Lm:(gX D).length=D.length:=aa4 ..
theorem TD {k:Nat} (hk:D[k]?=some d):(gX D)[k]?=some ((d.1:Int),dI d.2 8):=by
 unfold gX;rw [adW,hk];rfl
theorem ab9:jY (gX D)=bZ D:=by
 unfold jY gX bZ;rw [List.flatMap_map]
theorem SE:(jY (gX D)).length=(fO D).length:=by
 rw [ab9,<-Seg.qo,aa4]
theorem amQ (h:D.Pairwise λa b=>a.1<b.1):((gX D).map (·.1)).Nodup:=by
 unfold gX;rw [aeW];exact h.map _ λa b hab=>by show (a.1:Int)≠b.1;omega
theorem amR (C:List (List aI)):gX (lM C)=uG C:=by
 refine apu λi=>?_;cases hc:C[i]? with
 |none=>
  have h1:=ai4.1 hc;rw [ai4.2 (show (uG C).length<=i by rw [amO];exact h1)];unfold gX;rw [adW,Seg.vH,hc];rfl
 |some es=>
  rw [amN hc];exact TD (by rw [Seg.vH,hc];rfl)
end
end Go.aO
namespace Go.Seg
open Go.ay
open Go.aj (Bs aI encs gu dI)
open Go.Rep
def dV (D:List (Nat×List aI)):Int:=match D.getLast? with
 |none=> -1
 |some d=>(d.1:Int)
def sU (D:List (Nat×List aI)):Prop:=∀ d,D.getLast?=some d->mJ d.2=true
def jA (D:List (Nat×List aI)):List Use:=D.map λd=>⟨(d.1:Int),((mag++encs d.2).length:Int),0⟩
structure gI (K r E B n:Nat) (L:Log) (M:ay) (D:List (Nat×List aI)):Prop where
 hd:HD K r E B n L M D
 tmp:bU M.now aB.tmp=none
 few:(fO D).length<=n
 small:∀ p∈M.now,p.1.size<=24
 thin:n<=500->∀ e∈fO D,e.data.length<=300
structure EG (D:List (Nat×List aI)) (N:Int) (us:List Use):Prop where
 last:N=dV D
 kv:∃ kv,Tab.Lists (ledger (bZ D)) kv/\(∀ q∈kv,q.1.length=32)/\us=(jA D).map (upd kv)
 ends:sU D
def HN (M:ay) (N:Int):Prop:=∀ p∈M.now,(aB.number p.1).2=true->(aB.number p.1).1<=N
structure zN (D:List (Nat×List aI)) (N:Int) (us:List Use) (pl:List (Bs×aV)):Prop where
 last:N=dV D
 kv:∃ kv,Tab.Lists (ledger (bZ D)) kv/\(∀ q∈kv,q.1.length=32)/\us=(jA D).map (upd kv)/\pl=puts kv
 ends:sU D
structure qB (r0 E n B0:Nat) (M:ay) (D0:List (Nat×List aI)) (N:Int) (us:List Use):Prop where
 used:B0<=E*(20+28*n)
 hn:HN M N
 lim:N<1048576
 ex:∃ pl,zN D0 N us pl/\(r0=1048576->n<=200->E<=130->(D0=[]->NF M)/\(D0≠[]->HF M N pl us))
structure CD (K r E B n:Nat) (L:Log) (M:ay) (D:List (Nat×List aI)) (N:Int) (us:List Use):Prop where
 rp:gI K r E B n L M D
 off:L.on=false
 fresh:L.fresh=0
 ext:qB r E n B M D N us
section
variable {K r E B n:Nat}{L:Log}{M M':ay}{C:List (List aI)}{D N1:List (Nat×List aI)}{N:Int}{d:Nat×List aI}{us:List Use}{q:Row}{k:Bs}{pl:aV}{ps:List (Bs×aV)}
theorem XT (C:List (List aI)):fO (lM C)=C.flatten:=by rw [<-qo,ab6,Sv]
theorem Rp.rpd (h:Rp K r E B n L M C):gI K r E B n L M (lM C):=⟨h.hg.hd,h.tmp,by rw [XT];exact h.few,h.small,λ_=>by rw [XT];exact h.thin⟩
theorem gI.mono (h:gI K r E B n L M D){K' E' B' n':Nat} (h1:K<=K') (h2:E<=E') (h3:B<=B') (h4:n<=n'):gI K' r E' B' n' L M D:=⟨h.hd.mono h1 h2 h3 h4,h.tmp,adt h.few h4,h.small,λq=>h.thin (adt h4 q)⟩
theorem abR:∀ {D:List (Nat×List aI)}{a n:Nat},D.Pairwise (λa b=>a.1<b.1)->(∀ d∈D,a<=d.1/\d.1<n)->D.length<=n-a
 |[],_,_,_,_=>aea _
 |d::D,a,n,hp,h=>by
  rw [aeZ]at hp;have h1:=h d (.head _);have ih:=abR (a:=d.1+1) (n:=n) hp.2 λe he=>⟨hp.1 e he,(h e (.tail _ he)).2⟩;rw [aep];omega
theorem HD.count (h:HD K r E B n L M D):D.length<=n:=by
 have:=abR (a:=0) h.rise λd hd=>⟨aea _,h.lim d hd⟩;omega
theorem SA (d:Nat×List aI) (D:List (Nat×List aI)):bZ (d::D)=((dI d.2 8).map λf=>((d.1:Int),f))++bZ D:=by unfold bZ;rw [ael]
theorem Sz (D N:List (Nat×List aI)):bZ (D++N)=bZ D++bZ N:=by unfold bZ;rw [aeB]
theorem ab5 (hq:q∈bZ D):∃ d∈D,q.1=(d.1:Int)/\q.2∈dI d.2 8/\∃ u v,d.2=u++q.2.e::v/\q.2.at_=8+(encs u).length/\q.2.size=(aj.encode q.2.e).1.length:=by
 unfold bZ at hq;obtain ⟨d,hd,hq⟩:=ajc.1 hq;obtain ⟨f,hf,rfl⟩:=abL.1 hq;obtain ⟨u,v,h⟩:=Rep.Ce d.2 8 hf;exact ⟨d,hd,rfl,hf,u,v,h⟩
theorem HD.row (h:HD K r E B n L M D) (hq:q∈bZ D):L.read M (iP q)=(q.2.e,0)/\gu q.2.e/\(q.2.size:Int)<=4294967296/\(q.2.at_:Int)<=4294967296:=by
 refine ⟨h.RD hq,?_⟩;obtain ⟨d,hd,h1,h2,u,v,h8,h9,h10⟩:=ab5 hq;have hsz:=h.keeps.log.sizes ((d.1:Int),8+((encs d.2).length:Int)) (by rw [h.l];exact abL.2 ⟨d,hd,rfl⟩);have he:(encs d.2).length=(encs u).length+((aj.encode q.2.e).1.length+(encs v).length):=by
  conv=>lhs;rw [h8]
  rw [yu,aaL]
  congr 1
  exact aaL
 simp only at hsz;exact ⟨(h.good d hd).1 _ (by rw [h8];simp),by omega,by omega⟩
theorem gI.jy (h:gI K r E B n L M D):(rowsOf (λs=>L.bytes M s) L.aF).length<=n:=by
 rw [h.hd.rows,<-aa4 (f:=λr:Row=>r.2.e),qo];exact h.few
theorem gI.KX (h:gI K r E B n L M D):∀ q∈rowsOf (λs=>L.bytes M s) L.aF,(q.2.size:Int)<=4294967296:=λq hq=>by
 rw [h.hd.rows]at hq;exact (h.hd.row hq).2.2.1
theorem HD.got (h:HD K r E B n L M D) (hk:dO (bZ D) k=some pl):∃ data,L.read M pl=(⟨0,k,data⟩,0)/\jw (fO D) k=some data/\data.length<=16384/\(-9223372036854775808<=pl.at_/\pl.at_<=9223372036854775807)/\(-9223372036854775808<=pl.size/\pl.size<=9223372036854775807)/\k.length=32:=by
 obtain ⟨q,hq,e1,e2,e3,e4⟩:=akf hk;obtain ⟨r1,r2,r3,r4⟩:=h.row hq;rw [qo]at e4;obtain ⟨s,⟨⟨tag,key,data⟩,at_,size⟩⟩:=q;obtain rfl:tag=0:=e2;obtain rfl:key=k:=e3;refine ⟨data,by rw [<-e1];exact r1,e4,?_,?_,?_,r2.2⟩
 ·rcases aj.EL (aj.ER r2.1).1 with ⟨_,q⟩|⟨q,_⟩|⟨q,_⟩
  ·exact q
  ·cases q
  ·cases q
 ·rw [<-e1];show -9223372036854775808<=(at_:Int)/\(at_:Int)<=9223372036854775807;have:(at_:Int)<=4294967296:=r4;omega
 ·rw [<-e1];show -9223372036854775808<=(size:Int)/\(size:Int)<=9223372036854775807;have:(size:Int)<=4294967296:=r3;omega
theorem HD.size (h:HD K r E B n L M D) (hd:d∈D):L.size (d.1:Int)=((mag++encs d.2).length:Nat):=by
 obtain ⟨i,hi⟩:=h.EJ hd;obtain ⟨h1,s,h2,h3⟩:=Log.zT hi;have h4:=h2;rw [h.l,adW]at h4;obtain ⟨e,he,rfl⟩:=aip.1 h4;simp only at h3;obtain rfl:e=d:=Ri (f:=λd:Nat×List aI=>d.1) h.rise (abA he) hd oQ;unfold Log.size;rw [hi];simp only [adT,h2,apd,aaL];have:mag.length=8:=rfl;omega
theorem acJ {s:Int}:∀ {D:List (Nat×List aI)},(∀ d∈D,(d.1:Int)≠s)->qN (bZ D) s=0
 |[],_=>rfl
 |d::D,h=>by rw [SA,Dz,Gq,abj (h d (.head _)),acJ λe he=>h e (.tail _ he)];rfl
theorem acI:∀ {D:List (Nat×List aI)},D.Pairwise (λa b=>a.1<b.1)->d∈D->qN (bZ D) (d.1:Int)=(encs d.2).length
 |[],_,h=>by cases h
 |e::D,hp,h=>by
  rw [aeZ]at hp;rw [SA,Dz,Gq];rcases ad5.1 h with rfl|h
  ·rw [acg rfl,O7,acJ λe he=>by have:=hp.1 e he;omega];omega
  ·have:=hp.1 d h;rw [abj oQ,acI hp.2 h];omega
theorem HD.uses (h:HD K r E B n L M D):jR (λs=>L.bytes M s) L.aF=jA D:=by
 rw [h.aF];unfold jR jA;rw [aeW];refine akU λd hd=>?_;simp only [Function.comp_apply,h.bytes hd]
theorem adk (kv:List (Bs×dY)):((jA D).map (upd kv)).map (·.seg)=D.map λd=>(d.1:Int):=by
 unfold jA;rw [aeW,aeW]
 rfl
theorem EG.uses (h:EG D N us):us.map (·.seg)=D.map λd=>(d.1:Int):=by
 obtain ⟨kv,_,_,rfl⟩:=h.kv;exact adk kv
theorem HD.hint (h:HD K r E B n L M D){kv:List (Bs×dY)} (hk:Tab.Lists (ledger (bZ D)) kv) (h32:∀ q∈kv,q.1.length=32):kJ L D.length ((jA D).map (upd kv)) (puts kv):=by
 have htk:L.aF.take D.length=L.aF:=ad9 (by rw [h.aF,aa4];exact abl _);have hok:=rows_ok h.keeps.log M D.length;rw [htk,h.rows]at hok;have hrow:∀ p∈kv,∃ r,r∈bZ D/\dM r≠2/\p.2.tag=dM r/\p.2.place=iP r:=λp hp=>by
  have h1:=(hk.mem p.1 p.2).1 hp;unfold ledger at h1;obtain ⟨r,h2,h3⟩:=aip.1 h1;obtain ⟨h4,h5,_⟩:=FZ h2;exact ⟨r,h4,h5,by rw [<-h3],by rw [<-h3]⟩
 have hm:mag.length=8:=rfl;refine ⟨by rw [htk,h.aF];exact adk kv,λu hu=>?_,λq hq=>?_,Rep.Dp hk.rise,λq hq=>?_⟩
 ·obtain ⟨u0,h1,rfl⟩:=abL.1 hu;unfold jA at h1;obtain ⟨d,hd,rfl⟩:=abL.1 h1;have hz:=h.size hd;have hlv:=aak hok hk (d.1:Int);have hls:=Qw (l:=bZ D) (d.1:Int) _ (abl _);rw [aeo,hlv,acI h.rise hd]at hls;have hsz:=h.keeps.log.sizes ((d.1:Int),8+((encs d.2).length:Int)) (by rw [h.l];exact abL.2 ⟨d,hd,rfl⟩);unfold upd;simp only [hz,aaL];simp only at hsz;refine ⟨hls.1,?_,trivial,?_⟩
  ·have:=hls.2;omega
  ·omega
 ·unfold puts at hq;obtain ⟨p,hp,rfl⟩:=abL.1 hq;exact h32 p (aem.1 hp).1
 ·unfold puts at hq;obtain ⟨p,hp,rfl⟩:=abL.1 hq;obtain ⟨hp1,hp2⟩:=aem.1 hp;obtain ⟨r,h1,_,h3,h4⟩:=hrow p hp1;obtain ⟨d,hd,hr1,h7,u,v,h8,h9,h10⟩:=ab5 h1;have hg:gu r.2.e:=(h.good d hd).1 _ (by rw [h8];simp);have hz:=h.size hd;have ht:r.2.e.tag=0:=by
   have:p.2.tag=0:=by simpa using hp2
   rw [h3]at this;exact this
  have hl:r.2.size=41+r.2.e.data.length:=by
   rw [h10,Ba hg.1 hg.2];unfold aj.size;rw [abj (by simp [(aj.ER hg.1).1]),abj (by rw [ht];decide)]
  have hes:encs d.2=encs u++((aj.encode r.2.e).1++encs v):=by rw [h8,yu];rfl
  simp only;rw [h4];show 8<=(r.2.at_:Int)/\41<=(r.2.size:Int)/\(r.2.at_:Int)+(r.2.size:Int)<=L.size r.1/\r.1∈L.aF.take D.length;rw [htk,hr1,hz,aaL,hes,aaL,aaL];refine ⟨by omega,by omega,by omega,?_⟩;rw [h.aF];exact abL.2 ⟨d,hd,rfl⟩
theorem ZV (hr:D.Pairwise λa b=>a.1<b.1) (hd:d∈D):(d.1:Int)<=dV D:=by
 have h1:=QT hr hd;unfold lK at h1;unfold dV;split at h1
 ·omega
 ·rename_i e he;rw [he];simp only;omega
theorem HD.JZ (h:HD K r E B n L M D):dV D<n:=by
 unfold dV;cases hl:D.getLast? with
 |none=>simp only;omega
 |some d=>have:=h.lim d (ae5 hl);simp only;omega
theorem HD.last (h:HD K r E B n L M D) (hc:sU D):lastOf (λs=>L.bytes M s) L.aF=(dV D,0)/\Rep.run (λs=>L.bytes M s) L.aF=.inr L.aF.length/\oP L.aF=dV D:=by
 have hlen:L.aF.length=D.length:=by rw [h.aF,aa4]
 have hll:oP L.aF=dV D:=by
  unfold oP dV;rw [h.aF,aqi];cases D.getLast? <;> rfl
 refine ⟨?_,by rw [hlen];exact h.run hc,hll⟩;obtain ⟨c,h1,h2,_,h4⟩:=h.split;have hcl:c=D.length:=by
  rcases akJ c D.length with q|q
  ·exfalso;have hl:D[D.length-1]?=some (D[D.length-1]'oQ):=aay oQ;have h5:=h4 _ _ oQ hl;have h6:=hc _ (by rw [aeH];exact hl);rw [h5]at h6;cases h6
  ·omega
 unfold lastOf;rw [h1];simp only;rw [abj yF0,hcl];by_cases h0:D.length=0
 ·rw [acg h0];unfold dV;rw [agZ h0]
  rfl
 ·rw [abj h0,<-hll];unfold oP;rw [aeH,hlen,adT];cases hq:L.aF[D.length-1]? with
  |none=>exact absurd (ai4.1 hq) oQ
  |some s=>rfl
theorem HN.grown (h:HN M N) (g:aB.Grown M M'):HN M' N:=λp hp hn=>by
 rcases g p hp with q|⟨k,q⟩
 ·exact h p q hn
 ·rw [q,aB.yK]at hn;cases hn
theorem HN.mono {N':Int} (h:HN M N) (hl:N<=N'):HN M N':=λp hp hn=>Int.le_trans (h p hp hn) hl
theorem aaE:∀ (l:List ByteArray) (x:Int),x<=N->(∀ s∈l,(aB.number s).2=true->(aB.number s).1<=N)->aB.sH l x<=N
 |[],_,h,_=>h
 |f::l,x,h,hl=>by
  unfold aB.sH;refine aaE l _ ?_ λs hs=>hl s (.tail _ hs);split
  ·have:=hl f (.head _) aQ;omega
  ·exact h
theorem HN.newest (h:HN M N) (q:Quiet M) (h1 : -1<=N):aB.newest M<=N:=by
 refine aaE M.list (-1) h1 λs hs he=>?_;rw [q.list]at hs;obtain ⟨p,hp,rfl⟩:=abL.1 hs;exact h p hp he
theorem HN.there {N':Int} (h:HN M N) (q:Quiet M) (h0:N<N') (h1:0<=N') (h2:N'<1048576):aB.there M (aB.name aB.idx N')=false:=by
 cases hi:bU M.now (aB.name aB.idx N') with
 |none=>exact aB.TS q hi
 |some i=>
  have h3:=h _ (jD hi);rw [aB.um (.inl aB.yF) N' h1 h2]at h3;have:=h3 rfl;simp only at this;omega
theorem akk (C:List (List aI)):(lM C).length=C.length:=List.length_mapIdx ..
theorem aaU (C:List (List aI)):(lM C).getLast?=C.getLast?.map λes=>(C.length-1,es):=by
 rw [aeH,vH,akk,aeH]
theorem ajp (C:List (List aI)):dV (lM C)=(C.length:Int)-1:=by
 unfold dV;rw [aaU];cases hC:C.getLast? with
 |none=>rw [ahP.1 hC];rfl
 |some es=>
  have:0<C.length:=List.length_pos_of_mem (ae5 hC);simp only [afW];omega
theorem aob (C:List (List aI)):jA (lM C)=DX C:=by
 refine apu λi=>?_;unfold jA DX;rw [adW,vH,adW];by_cases hi:i<C.length
 ·rw [List.getElem?_range' hi,aay hi];simp only [afW];rw [adT,Nat.one_mul,ad8,aay hi]
  rfl
 ·rw [ai4.2 oQ,ai4.2 (by rw [aqb];omega)]
  rfl
theorem IV.std (h:IV C N us ps):EG (lM C) N us:=by
 obtain ⟨kv,k1,k2,k3,_⟩:=h.kv;refine ⟨by rw [ajp];exact h.last,⟨kv,by rw [ab6];exact k1,k2,by rw [aob];exact k3⟩,λd hd=>?_⟩;rw [aaU]at hd;obtain ⟨es,h1,rfl⟩:=aip.1 hd;rcases h.ends with e|⟨fs,e1,e2⟩
 ·rw [e]at h1;cases h1
 ·rw [aeH,e1]at h1;cases h1;exact e2
theorem zN.std (h:zN D N us ps):EG D N us:=by
 obtain ⟨kv,k1,k2,k3,_⟩:=h.kv;exact ⟨h.last,⟨kv,k1,k2,k3⟩,h.ends⟩
theorem CD.st (h:CD K r E B n L M D N us):EG D N us:=by
 obtain ⟨pl,hp,_⟩:=h.ext.ex;exact hp.std
theorem CD.hn (h:CD K r E B n L M D N us):HN M N:=h.ext.hn
theorem CD.used (h:CD K r E B n L M D N us):B<=E*(20+28*n):=h.ext.used
theorem qB.mono {r0 n' E':Nat} (h:qB r0 E n B M D N us) (hn:n<=n') (hE:E<=E'):qB r0 E' n' B M D N us:=by
 obtain ⟨u,h1,h2,pl,s,q⟩:=h;exact ⟨adt u (an9 hE oQ),h1,h2,pl,s,λa b c=>q a oQ oQ⟩
theorem gI.fresh (h:gI K r E B n L M D) (lim:Int) (l1:128<=lim) (l2:lim<=1048576):gI K r E B n (Seg.fresh M lim) M D:=⟨h.hd.fresh lim l1 l2,h.tmp,h.few,h.small,h.thin⟩
theorem HD.apart {K' E' B':Nat} (h:HD K r E B n L M D) (c:Calm K' r M') (ha:∀ k:Int,M'.all (name k)=M.all (name k)) (hu:M'.used<=n*400+B') (hn:M'.now.length<=n+E'):HD K' r E' B' n L M' D:=by
 have has:∀ k:Int,(∃ i,bU M'.now (name k)=some i)↔∃ i,bU M.now (name k)=some i:=λk=>by
  rw [<-aB.xU c.quiet,<-aB.xU h.keeps.calm.quiet,ha]
 exact ⟨⟨h.keeps.log,c,λs hs=>(has s.1).2 (h.keeps.has s hs)⟩,h.l,h.rise,h.lim,λd hd=>by rw [ha];exact h.file d hd,h.good,hu,hn,λk i hk hi=>by
  obtain ⟨j,hj⟩:=(has k).1 ⟨i,hi⟩;exact h.cover k j hk hj⟩
theorem gI.save (h:gI K r E B n L M D) (hn:n+E<=480) (hh:HN M N) (h1:0<=N) (h2:N<1048576) (b1 b2:Bs) :
  gI (K+600) r (E+2) (B+b1.length+b2.length) n L (aB.save M N b1 b2).1 D/\((aB.save M N b1 b2).2=0\/(aB.save M N b1 b2).2=11)/\HN (aB.save M N b1 b2).1 N /\
   (∀ f∈(aB.write (aB.write M (aB.name aB.idx N) b1).1 (aB.name aB.use N) b2).1.dR.1.list,f.size<=4000000000):=by
 have hnm:=h.hd.names;have s:=aB.Gp (b1:=b1) (b2:=b2) h.hd.keeps.calm h.tmp oQ h1 h2;have g1:=aB.Aw (ld:=aB.idx) rfl aN N h1 h2;have g2:=aB.Aw (ld:=aB.use) rfl aN N h1 h2;have hsz:∀ ld:ByteArray,ld.data.toList.length=4->(aB.name ld N).size<=24:=λld hl=>by
  show (aB.name ld N).data.size<=24;rw [<-ad4,aB.name_eq ld N h1 h2,aaL,hl,wJ];omega
 refine ⟨⟨h.hd.apart s.calm (λk=>s.other _ (aB.DR k).symm (aB.Lj k N h1 h2) (aB.Ll k N h1 h2) (aB.Rh (by rw [aB.yK]))) (by have:=s.used;have:=h.hd.used;omega) (by have:=s.len;omega),s.tmp,h.few,λp hp=>?_,h.thin⟩,s.done.imp (·.1) id,λp hp hm=>?_,λf hf=>?_⟩
 ·rcases s.names p hp with q|q|q
  ·exact h.small p q
  ·rw [q];exact hsz _ rfl
  ·rw [q];exact hsz _ rfl
 ·rcases s.names p hp with q|q|q
  ·exact hh p q hm
  ·rw [q,aB.um (.inl aB.yF) N h1 h2];exact aoZ _
  ·rw [q,aB.um (.inr aB.GL) N h1 h2];exact aoZ _
 ·have w1:=aB.DZ (b:=b1) h.hd.keeps.calm h.tmp oQ g1 (aB.Qh N h1 h2);have w2:=aB.DZ (b:=b2) w1.calm w1.tmp (by have:=w1.len;omega) g2 (aB.Um N h1 h2);rw [w2.calm.dR.quiet.list,aB.LG]at hf;obtain ⟨p,hp,rfl⟩:=abL.1 hf;refine adt (m:=24) ?_ aN;rcases w2.names p hp with q|q
  ·rcases w1.names p q with q|q
   ·exact h.small p q
   ·rw [q];exact hsz _ rfl
  ·rw [q];exact hsz _ rfl
end
end Go.Seg
namespace Go.Proofs.Y
open Go.ay
def tu (w0:World) (r m:Nat) (seg:Int) (K r0 E n:Nat) (D:List (Nat×List aj.aI)) (F:List aG) (w:World):Prop:=
 ∃ (ps p pn pi B B2 B0:Nat) (uv tv:Value) (N:Int) (us:List Rep.Use) (L:Seg.Log) (M:ay),(Seg.CD K r0 E B0 n L M D N us/\B<=n/\B2<=n) /\
  Sat w0 w (aY r m seg p ps pn false::aH pn (Rep.dO (Seg.bZ D)) B::aK p m L::aJ m M::cO ps N pi uv tv::aH pi (Rep.dO (Seg.bZ D)) B2::aC 45 3 uv (us.flatMap bG)::F)
section
variable {L:Seg.Log}{N limit:Int}{us:List Rep.Use}{o:aj.Bs->Option aj.Bs}
def Oa (w0:World) (p m n:Nat) (L:Seg.Log) (M:ay) (D:List (Nat×List aj.aI)) (F:List aG) (v:Value) (w:World):Prop:=
 ∃ (ps pi:Nat) (uv tv:Value) (x:List (aj.Bs×Rep.dY)×Nat),v=.tuple #[ptr ps,.agg (dP Rep.dJ.zero),errno 0]/\(∃ a c,tv=.slice a 0 c)/\(Tab.Lists (Rep.ledger (Seg.bZ D)) x.1/\(∀ q∈x.1,q.1.length=32)/\x.2<=n/\x.1.length<=n) /\
  Sat w0 w (cO ps (Seg.dV D) pi uv tv::aH pi (Tab.mapOf (Rep.puts x.1)) x.2::aC 45 3 uv (((Seg.jA D).map (Rep.upd x.1)).flatMap bG)::aK p m L::aJ m M::F)
theorem acj (hR:Seg.gI K r0 E B n L M D) (hn:n<=1000) (he:Seg.sU D) (hH:Ro w0 F Half) (h:Sat w0 w (aK p m L::aJ m M::F)) :
  Calls prog 62 #[ptr p] w (aP λv w'=>Oa w0 p m n L M D F v w'):=by
 obtain ⟨_,q2,q3⟩:=hR.hd.last he;refine (KY hR.hd.keeps.log hR.hd.keeps.calm.ok hH (adt hR.jy oQ) hR.KX h).mono ?_;rintro e w' ⟨v,rfl,ho⟩;unfold uS at ho;rw [show Rep.run (dF L M) L.aF=.inr L.aF.length from q2]at ho;obtain ⟨ps,pi,uv,tv,av,kv,rfl,⟨k1,k2,k3⟩,⟨⟨a,c,rfl⟩,_⟩,hS⟩:=ho;rw [aeo]at k1 k3 hS;rw [show Rep.rowsOf (dF L M) L.aF=Seg.bZ D from hR.hd.rows]at k1;rw [q3,show Rep.jR (dF L M) L.aF=Seg.jA D from hR.hd.uses,ajN]at hS;have hl:=adt k3 hR.jy;exact ⟨_,rfl,ps,pi,uv,_,(kv,kv.length),rfl,⟨a,c,rfl⟩,⟨k1,k2,hl,hl⟩,hS.sb⟩
theorem ahz (hR:Seg.gI K r0 E B n L M D) (hn:n<=1000) (he:Seg.sU D) (hN:N=Seg.dV D) (h0:0<=N) (hnw:aB.newest M<=N) (hth:aB.there M (aB.name aB.idx N)=false) (hH:Ro w0 F Half) (h:Sat w0 w (aK p m L::aJ m M::F)) :
  Calls prog 57 #[ptr p,ptr m] w (aP λv w'=>Oa w0 p m n L M D F v w'):=by
 have hL:=hR.hd.keeps.log;have hM:=hR.hd.keeps.calm.ok;have hq:=hR.hd.keeps.calm.quiet;obtain ⟨q1,_,_⟩:=hR.hd.last he;rw [<-hN]at q1
 have iZ:=uQ (show ∀ f∈M.list,f.size<=4000000000 from λf hf=>by
  rw [hq.list]at hf;obtain ⟨x,hx,rfl⟩:=abL.1 hf;exact adt (hR.small x hx) aN)
 have Ey:=uQ (λ(w':World) (R:List aG) (hr:Ro w0 R Half) (hw:Sat w0 w' (aK p m L::aJ m M::R))=>acj hR hn he hr hw);have hz:=Lp hM hq.off;have HM:=uQ hM;have HL:=uQ hL;have HH:=uQ hH;obtain ⟨z,c2⟩:∃ z,aB.newest M=z:=⟨_,rfl⟩;rw [c2]at hnw;have c4:¬ N<z:=oQ;have c5:decide (N<z)=false:=ad2 c4;have c6:decide (0<=N)=true:=aeb h0;have UO:=uQ hN;clear hR hL hM hH he hq hN hnw;go_enter func57,ntmps57;go_wp2_with (with_reducible apply fB);refine ⟨eF nO h rfl ?_⟩;intro b5 w5 h5;have hla:=FN (F:=pt b5 (.cells (dP Rep.dJ.zero) 63 (0,0))::F) HL.o HM.o (Ro.os HH.o) (h5.sb);rw [show Rep.lastOf (dF L M) L.aF=(N,0) from q1]at hla;clear h h5 q1;go_wp2_with fail;refine hla.mono ?_;rintro ee w6 ⟨v,rfl,rfl,h6⟩;have hnw:=Ko HM.o iZ.o (h6.sb:Sat w0 w6 (aJ m M::aK p m L::pt b5 (.cells (dP Rep.dJ.zero) 63 (0,0))::F));rw [c2]at hnw;clear hla c2;go_wp2_with fail
 refine hnw.mono ?_;rintro ee w7 ⟨v,rfl,rfl,h7⟩;have hld:=Ze (p:=p) (n:=N) HM.o hz (.inl hth) h7;clear h6 hnw;go_wp2_with fail;refine hld.mono ?_;rintro ee w8 ⟨v,rfl,rfl,h8⟩;have mY:=Ey.o w8 (pt b5 (.cells (dP Rep.dJ.zero) 63 (0,0))::F) (Ro.os HH.o) (h8.sb);clear h7 h8 hld;go_wp2_with fail;refine mY.mono ?_;rintro ee w8 ⟨v,rfl,ps,pi,uv,tv,x,rfl,rF,hx,h9⟩;have h10:Sat w0 w8 (pt b5 (.cells (dP Rep.dJ.zero) 63 (0,0))::cO ps (Seg.dV D) pi uv tv::aH pi (Tab.mapOf (Rep.puts x.1)) x.2::aC 45 3 uv (((Seg.jA D).map (Rep.upd x.1)).flatMap bG)::aK p m L::aJ m M::F):=h9.sb;clear h9 mY;go_wp2_with ((with_reducible refine dh ⟨?_⟩);refine fP (dP Rep.dJ.zero) h10 ah ah ah cZ au ah ?_;intro iH h11);refine ⟨rfl,_,vK rfl h11 ah aU underlying63 rfl au,_,rfl,ps,pi,uv,tv,x,rfl,rF,hx,h11.drop⟩
theorem alD (hR:Seg.gI K r0 E B n L M D) (hn:n<=1000) (hK:K<=1048576) (he:Seg.sU D) (hh:Seg.HN M N) (h0 : -1<=N) (hl:N<Seg.dV D) (h1:128<=limit) (h2:limit<=1048576) (hH:Ro w0 F Half) (h:Sat w0 w (aJ m M::F)) :
  Calls prog 19 #[ptr m,.int .i64 limit] w (aP λv w'=>∃ (r p ps pi pn:Nat) (uv:Value) (x:List (aj.Bs×Rep.dY)×Nat),v=.tuple #[ptr r,.agg (dP Rep.dJ.zero),errno 0]/\(Tab.Lists (Rep.ledger (Seg.bZ D)) x.1/\(∀ q∈x.1,q.1.length=32)/\x.2<=n/\x.1.length<=n) /\
   Sat w0 w' (aY r m limit p ps pn false::cO ps (Seg.dV D) pi uv (.slice none 0 0)::aH pn (Tab.mapOf (Rep.puts x.1)) x.2::aH pi (Tab.mapOf (Rep.puts x.1)) x.2::aC 45 3 uv (((Seg.jA D).map (Rep.upd x.1)).flatMap bG)::aK p m (Seg.fresh M limit)::aJ m M::F)):=by
 have hc:=hR.hd.keeps.calm;have hlim:=hR.hd.JZ
 exact RZ (λx:List (aj.Bs×Rep.dY)×Nat=>Tab.mapOf (Rep.puts x.1)) (λx=>x.2) (λx=>(Seg.jA D).map (Rep.upd x.1)) (λx=>Tab.Lists (Rep.ledger (Seg.bZ D)) x.1/\(∀ q∈x.1,q.1.length=32)/\x.2<=n/\x.1.length<=n) h1 h2 hc.ok hK
  (by unfold Seg.alive;rw [Lp hc.ok hc.quiet.off];rfl) (λx hx=>adt hx.2.2.1 oQ)
  (λp b5 w' hw=>(ahz (hR.fresh limit h1 h2) hn he rfl oQ ((hh.mono (Int.le_of_lt hl)).newest hc.quiet oQ) (hh.there hc.quiet hl oQ oQ) (Ro.os hH) hw).mono λe w'' hv=>hv) h
end
end Go.Proofs.Y
namespace Go.Seg
open Go.ay
open Go.aj (Bs aI encs gu dI)
open Go.Rep
def Log.copied (L:Log) (M:ay) (xs:List aI):(Log×ay)×Int:=
 if (L.appends M xs).2=0 then (((L.appends M xs).1.1.commit (L.appends M xs).1.2).1,((L.appends M xs).1.1.commit (L.appends M xs).1.2).2.2) else L.appends M xs
structure Ran (K r E B n:Nat) (L:Log) (M:ay) (D D1:List (Nat×List aI)) (N:Int) (gs:List Int) (xs:List aI):Prop where
 rp:gI K r E B n L M D1
 hn:HN M N
 lt:N<dV D1
 ends:sU D1
 obj:jw (fO D1)=jw (fO D)
 new:∃ N0 c es,D1=(D.filter λd => !gs.contains (d.1:Int))++(N0++[(c,es++[bC])])/\fO N0++es=xs
section
variable {K r E B n:Nat}{L:Log}{M:ay}{D N1:List (Nat×List aI)}{N:Int}{us:List Use}{P:aO.Plan}{gs:List Int}{xs:List aI}
theorem agh (h:(L.commit M).2.2=0):(L.commit M).1.1.fresh=0:=by
 unfold Log.commit at h ⊢;split at h
 ·rename_i g;exact absurd h g
 ·rename_i g1;rw [abj g1];split at h
  ·rename_i g;exact absurd h g
  ·rename_i g2;rw [abj g2];split at h
   ·rename_i g;exact absurd h g
   ·rename_i g3;rw [abj g3]
theorem HD.agi (h:HD K r E B n L M (D++N1)) (hon:L.on=true->N1≠[]) (hn:n+E<499) :
  ((L.commit M).2.2=0/\∃ N2,HD (K+5) r E B (n+1) (L.commit M).1.1 (L.commit M).1.2 (D++N2)/\fO N2=fO N1++[bC]/\∃ N0 c es,N2=N0++[(c,es++[bC])]) \/
  ((L.commit M).2.2=11/\HD (K+5) r E B (n+1) (L.commit M).1.1 (L.commit M).1.2 (D++N1)/\(L.commit M).1.1.fresh=L.fresh/\r<(n+1)*400+B):=by
 have hnm:=h.names;have hus:=h.used;have hrm:=h.keeps.calm.room;rcases h.EI (x:=bC) oQ oQ ah with hz|hz
 ·obtain ⟨a1,a2,a3,a4⟩:=h.commit oQ (.inl hz);obtain ⟨N2,b1,b2,b3,b4,b5⟩:=KF (D:=D) (N:=N1) (x:=bC) (L.fits (aj.encode bC).1.length) λhq=>hon (uX hq);rw [b1]at a4;exact .inl ⟨a1,N2,a4,b2,b5⟩
 ·have hz':(L.append M bC).2.2≠0:=by rw [hz];decide
  obtain ⟨_,k2⟩:=h.keeps.append bC rfl;obtain ⟨_,k4,_⟩:=k2 hz';have e:L.commit M=((L.append M bC).1,0,(L.append M bC).2.2):=by unfold Log.commit;rw [acg hz']
  rw [e];refine .inr ⟨hz,(h.Og bC rfl hz').mono oQ (abl _) (abl _) oQ,k4,?_⟩;apply apS;intro q;exact hz' (h.append oQ bC rfl aN ah (.inr ⟨by omega,by omega⟩)).1
theorem agm (h:gI K r E B n L M D) (hn5:n<=500):∀ x∈(aO.copy P gs (bZ D)).map (·.2.e),Fine x:=λx hx=>by
 obtain ⟨q,hq,rfl⟩:=abL.1 hx;have h1:=(aem.1 hq).1;obtain ⟨_,h2,_⟩:=h.hd.row h1;refine ⟨h2.2,h.thin hn5 _ ?_,h2.1⟩;rw [<-qo];exact abL.2 ⟨q,h1,rfl⟩
theorem Xe (h:gI K r E B n L M D):((aO.copy P gs (bZ D)).map (·.2.e)).length<=n:=by
 rw [aa4];have h1:=aeT (λr=>gs.contains r.1 && aO.counts P gs r.1 r.2) (bZ D);have h2:=h.few;rw [<-qo,aa4]at h2;exact adt h1 h2
theorem ahY {x:aI} (h:gu x):x.tag=0\/x.tag=1\/x.tag=2:=by
 rcases aj.EL (aj.ER h.1).1 with ⟨t,_⟩|⟨t,_⟩|⟨t,_⟩ <;> omega
theorem gI.same (h:gI K r E B n L M D) (hi:∀ k,P.index k=dO (bZ D) k) (hk:P.keys=aO.lu (bZ D)) (k:Bs):jw ((aO.stay gs (bZ D)++aO.copy P gs (bZ D)).map (·.2.e)) k=jw (fO D) k:=by
 rw [<-qo];exact aO.amJ hi hk (λa ha b hb e=>alO h.hd.rise (λd hd=>(h.hd.good d hd).1) ha hb e) (alN h.hd.rise) (λa ha=>ahY (h.hd.row ha).2.1) k
theorem ahV (gs:List Int) (D:List (Nat×List aI)):aO.kU gs (aO.gX D)=((D.filter λd=>gs.contains (d.1:Int)).map (·.1)).map λs:Nat=>(s:Int):=by
 unfold aO.kU aO.gX;rw [List.filter_map,aeW,aeW]
 rfl
theorem ajr (D:List (Nat×List aI)) (d:Nat×List aI):dV (D++[d])=(d.1:Int):=by unfold dV;rw [aja];rfl
theorem gI.dir (h:gI K r E B n L M D):M.dR.2=0/\M.dR.1.now=M.now/\gI (K+1) r E B n L M.dR.1 D:=by
 have ed:=h.hd.keeps.calm.quiet.LD;have hk:=h.hd.keeps.calm.dR;have hnw:M.dR.1.now=M.now:=by rw [ed]
 have had:Alike M M.dR.1:=by rw [ed];exact ⟨rfl,rfl,rfl,λ_ _=>rfl⟩
 refine ⟨by rw [ed],hnw,⟨h.hd.alike ⟨h.hd.keeps.log,hk.mono oQ,λs hs=>by rw [hnw];exact h.hd.keeps.has s hs⟩ rfl had,by rw [hnw];exact h.tmp,h.few,by rw [hnw];exact h.small,h.thin⟩⟩
theorem CD.ran (h:CD K r E B n L M D N us) (hi:∀ k,P.index k=dO (bZ D) k) (hk:P.keys=aO.lu (bZ D)) (hxs:xs=(aO.copy P gs (bZ D)).map (·.2.e)) (hn:2*n+E<490) :
  (∃ N2,HD (K+4*n+5) r E B (2*n+1) (L.copied M xs).1.1 (L.copied M xs).1.2 (D++N2))/\(
  ((L.copied M xs).2=0/\((L.copied M xs).1.1.removes (L.copied M xs).1.2 (aO.kU gs (aO.gX D))).2=0/\∃ D1,Ran (K+5*n+5) r E B (2*n+1) ((L.copied M xs).1.1.removes (L.copied M xs).1.2 (aO.kU gs (aO.gX D))).1.1 ((L.copied M xs).1.1.removes (L.copied M xs).1.2 (aO.kU gs (aO.gX D))).1.2 D D1 N gs xs) \/
  ((L.copied M xs).2=11/\r<(2*n+1)*400+B/\((L.copied M xs).1.1.rollback (L.copied M xs).1.2).2=0/\HD (K+7*n+7) r E B (2*n+1) ((L.copied M xs).1.1.rollback (L.copied M xs).1.2).1.1 ((L.copied M xs).1.1.rollback (L.copied M xs).1.2).1.2 D)):=by
 have Y4:∀ x∈xs,Fine x:=by rw [hxs];exact agm h.rp oQ
 have hlen:xs.length<=n:=by rw [hxs];exact Xe h.rp
 have h0:HD K r E B n L M (D++[]):=by rw [adV];exact h.rp.hd
 obtain ⟨N1,a1,a2,a3,a4,a5⟩:=h0.appends xs (λq=>by rw [h.off]at q;cases q) (by rw [h.fresh];rfl) Y4 oQ;unfold Log.copied;generalize L.appends M xs=q at *
 obtain ⟨⟨L1,M1⟩,e1⟩:=q;dsimp only at a1 a2 a3 a4 a5 ⊢;have Z':∀ {K' n':Nat} {L':Log} {M':ay} {N':List (Nat×List aI)},HD K' r E B n' L' M' (D++N')->N'.length<=n':=λhh=>by
  have:=hh.count;rw [aaL]at this;omega
 rcases a5 with ⟨rfl,b2,b3,b4⟩|rfl
 rotate_left
 ·rw [abj aN];obtain ⟨c1,c2,_,_⟩:=a1.rollback a2;have:=Z' a1;refine ⟨⟨N1,a1.mono oQ (abl _) (abl _) oQ⟩,.inr ⟨rfl,?_,c1,c2.mono oQ (abl _) (abl _) oQ⟩⟩;apply apS;intro q;have:=a4 oQ;cases this
 rw [acg rfl];rw [show fO ([]:List (Nat×List aI))=[] from rfl,aeu]at b2;have hgr:=a3.trans (aB.JU L1 M1);rcases a1.agi b3 oQ with ⟨c1,N2,c2,c3,N0,c,es,rfl⟩|⟨c1,c2,c3,c4⟩
 rotate_left
 ·obtain ⟨d1,d2,_,_⟩:=c2.rollback (c3.trans a2);have:=Z' c2;exact ⟨⟨N1,c2.mono oQ (abl _) (abl _) oQ⟩,.inr ⟨c1,aqa c4 (Nat.add_le_add_right (ae4 400 oQ) B),d1,d2.mono oQ (abl _) (abl _) oQ⟩⟩
 generalize L1.commit M1=q at *
 obtain ⟨⟨L2,M2⟩,n2,e2⟩:=q;dsimp only at c1 c2 hgr ⊢;subst c1;obtain ⟨ss,hss⟩:∃ ss,ss=(D.filter λd=>gs.contains (d.1:Int)).map (·.1):=⟨_,rfl⟩;have hr:=c2.rise;rw [aiq]at hr;have Qb:∀ s,s∈ss↔∃ d∈D,gs.contains (d.1:Int)=true/\d.1=s:=λs=>by
  rw [hss,abL];exact ⟨λ⟨d,hd,e⟩=>⟨d,(aem.1 hd).1,(aem.1 hd).2,e⟩,λ⟨d,hd,hg,e⟩=>⟨d,aem.2 ⟨hd,hg⟩,e⟩⟩
 have hnd:ss.Nodup:=by
  rw [hss];exact (hr.1.filter _).map _ λa b hab=>by show a.1≠b.1;omega
 have hsl:ss.length<=n:=by
  rw [hss,aa4];exact adt (aeT _ _) h.rp.hd.count
 obtain ⟨d1,d2,d3,d4⟩:=c2.removes ss hnd λs hs=>by
  obtain ⟨d,hd,_,e⟩:=(Qb s).1 hs;exact ⟨d,aeg.2 (.inl hd),e⟩
 have hfil:((D++(N0++[(c,es++[bC])])).filter λd => !ss.contains d.1)=(D.filter λd => !gs.contains (d.1:Int))++(N0++[(c,es++[bC])]):=by
  rw [ajO]
  congr 1
  ·refine List.filter_congr λd hd=>?_
   congr 1
   rw [aol,apz,Qb];constructor
   ·rintro ⟨e,_,hg,he⟩;rw [<-he];exact hg
   ·exact λhg=>⟨d,hd,hg,rfl⟩
  ·rw [List.filter_eq_self];intro d hd;rw [aqf,<-ap8,apz,Qb];rintro ⟨e,he,_,hed⟩;have:=hr.2.2 e he d hd;omega
 have hgo:(ss.map λs:Nat=>(s:Int))=aO.kU gs (aO.gX D):=by rw [ahV,hss]
 rw [hfil]at d2;rw [hgo]at d1 d2 d3 d4;have PL:=hgr.trans d4;obtain ⟨F,hF⟩:∃ F,F=D.filter λd => !gs.contains (d.1:Int):=⟨_,rfl⟩;have Pv:fO F=(aO.stay gs (bZ D)).map (·.2.e):=by rw [anr,qo,hF]
 rw [<-hF]at d2;have hE1:fO (F++(N0++[(c,es++[bC])]))=(fO F++xs)++[bC]:=by rw [BZ,c3,b2,adQ]
 have hsub:∀ e∈fO F,e∈fO D:=λe he=>by
  rw [Pv]at he;rw [<-qo];obtain ⟨q,hq,rfl⟩:=abL.1 he;exact abL.2 ⟨q,(aem.1 hq).1,rfl⟩
 have hsl2:(fO F).length<=n:=by
  rw [Pv,aa4];refine adt (aeT _ _) ?_;have:=h.rp.few;rw [<-qo,aa4]at this;exact this
 refine ⟨⟨_,c2.mono oQ (abl _) (abl _) oQ⟩,.inl ⟨rfl,d1,F++(N0++[(c,es++[bC])]),⟨⟨d2.mono oQ (abl _) (abl _) oQ,?_,?_,λp hp=>?_,?_⟩,h.hn.grown PL,?_,λd hd=>?_,?_,N0,c,es,by rw [hF],?_⟩⟩⟩
 ·cases hi:bU (L2.removes M2 (aO.kU gs (aO.gX D))).1.2.now aB.tmp with
  |none=>rfl
  |some i=>
   rcases PL _ (jD hi) with q|⟨k,q⟩
   ·have:=Az h.rp.hd.keeps.calm.ok.ig.ny.keys (show (aB.tmp,i)∈M.now from q);rw [h.rp.tmp]at this;cases this
   ·exact absurd q (aB.DR k)
 ·rw [hE1,aaL,aaL,aer];omega
 ·rcases PL p hp with q|⟨k,q⟩
  ·exact h.rp.small p q
  ·rw [q];exact QI k
 ·rw [hE1];intro _ e he;rcases aeg.1 he with he|he
  ·rcases aeg.1 he with he|he
   ·exact h.rp.thin oQ e (hsub e he)
   ·exact (Y4 e he).data
  ·rw [adZ.1 he];decide
 ·rw [<-adQ,ajr,h.st.last];unfold dV;cases hl:D.getLast? with
  |none=>simp only;omega
  |some d=>
   have:=hr.2.2 d (ae5 hl) (c,es++[bC]) yF0;simp only at this ⊢;omega
 ·rw [<-adQ,aja]at hd;simp only [List.getLast?_singleton,Option.some_or,aqh]at hd;rw [<-hd];unfold mJ;simp only;rw [aja]
  rfl
 ·funext k
  rw [hE1,aa3 rfl,Pv,hxs,<-adU];exact h.rp.same hi hk k
 ·rw [BZ,show fO [(c,es++[bC])]=es++[bC] from adV _,<-adQ,b2]at c3;exact List.append_cancel_right c3
end
end Go.Seg
namespace Go.aO
open Go.aj (Bs dD aI dI encs gu)
open Go.Seg (bZ)
open Go.Rep
def copyS (P:Plan) (gs:List Int) (l:List (Int×List dD)):List aI:=l.flatMap λx=>if gs.contains x.1=true then (x.2.filter λf=>counts P gs x.1 f).map (·.e) else []
theorem Xc (P:Plan) (gs:List Int) (x:Int×List dD) (l:List (Int×List dD)):copyS P gs (x::l)=(if gs.contains x.1=true then (x.2.filter λf=>counts P gs x.1 f).map (·.e) else [])++copyS P gs l:=by unfold copyS;rw [ael]
theorem Xd (P:Plan) (gs:List Int):∀ D:List (Nat×List aI),copyS P gs (gX D)=(copy P gs (bZ D)).map (·.2.e)
 |[]=>rfl
 |d::D=>by
  have e:gX (d::D)=((d.1:Int),dI d.2 8)::gX D:=rfl;have e1:copy P gs (bZ (d::D))=copy P gs ((dI d.2 8).map λf=>((d.1:Int),f))++copy P gs (bZ D):=by unfold copy;rw [Seg.SA,ajO]
  rw [e,Xc,Xd P gs D,e1,adU]
  congr 1
  unfold copy;rw [List.filter_map,aeW];cases hg:gs.contains (d.1:Int) with
  |true=>
   rw [acg rfl];have e2:((λr:Row=>gs.contains r.1 && counts P gs r.1 r.2) ∘ λf:dD=>((d.1:Int),f))=λf=>counts P gs (d.1:Int) f:=by
    funext f
    simp only [Function.comp_apply,hg,apV]
   rw [e2]
   rfl
  |false=>
   rw [abj aN];have e2:((λr:Row=>gs.contains r.1 && counts P gs r.1 r.2) ∘ λf:dD=>((d.1:Int),f))=λf=>false:=by
    funext f
    simp only [Function.comp_apply,hg,Bool.false_and]
   rw [e2,ap5.2 λ_ _=>Bool.false_ne_true]
   rfl
def Dk (N:Int) (D:List (Nat×List aI)):Plan:=⟨N,gX D,lu (jY (gX D)),dO (bZ D)⟩
theorem ahw {D:List (Nat×List aI)}{d:Nat×List aI}{f:dD} (hd:d∈D) (hf:f∈dI d.2 8):((d.1:Int),f)∈bZ D:=ajc.2 ⟨d,hd,abL.2 ⟨f,hf,rfl⟩⟩
structure Rnd (pc:Int) (D D1:List (Nat×List aI)):Prop where
 was:∃ (K r E B n:Nat) (L:Seg.Log) (M:ay.ay),Seg.gI K r E B n L M D
 did:D1=D/\kU (chosen (Dk (Seg.dV D) D) pc) (gX D)=[]\/chosen (Dk (Seg.dV D) D) pc≠[]/\∃ N0 c es,D1=(D.filter λd => !(chosen (Dk (Seg.dV D) D) pc).contains (d.1:Int))++(N0++[(c,es++[Seg.bC])])/\Seg.fO N0++es=(copy (Dk (Seg.dV D) D) (chosen (Dk (Seg.dV D) D) pc) (bZ D)).map (·.2.e)
end Go.aO
namespace Go.Seg
open Go.ay
open Go.aj (Bs aI encs gu dI)
open Go.Rep
structure oK (L:Log) (D D0:List (Nat×List aI)):Prop where
 ex:∃ N,D=D0++N/\(L.on=true->N≠[])/\L.fresh=(N.length:Int)
def vM (D:List (Nat×List aI)) (b:Bool) (x:aI):Row:=if b=true then (((D.getLastD (0,[])).1:Int),⟨x,8+(encs (D.getLastD (0,[])).2).length,(aj.encode x).1.length⟩) else ((lK D:Int),⟨x,8,(aj.encode x).1.length⟩)
section
variable {K r E B n r0 B0:Nat}{L:Log}{M M':ay}{D D0 N1:List (Nat×List aI)}{N:Int}{us:List Use}{x:aI}{pl:List (Bs×aV)}
theorem Si (D:List (Nat×List aI)) (b:Bool) (x:aI):(vM D b x).2.e=x:=by unfold vM;split <;> rfl
theorem SB (b:Bool) (x:aI) (hb:b=true->D≠[]):bZ (mQ D b x)=bZ D++[vM D b x]:=by
 cases b with
 |true=>
  obtain ⟨D1,e,rfl⟩:∃ D1 e,D=D1++[e]:=by
   rcases apx D with q|⟨D1,e,rfl⟩
   ·exact absurd q (hb rfl)
   ·exact ⟨D1,e,apy⟩
  have e1:mQ (D1++[e]) true x=D1++[(e.1,e.2++[x])]:=by unfold mQ;rw [acg rfl];simp
  have e2:vM (D1++[e]) true x=((e.1:Int),⟨x,8+(encs e.2).length,(aj.encode x).1.length⟩):=by unfold vM;rw [acg rfl];simp
  rw [e1,e2,Sz,Sz,adQ]
  congr 1
  show ((dI (e.2++[x]) 8).map _++[])=((dI e.2 8).map _++[])++[_];rw [adV,adV,Rep.O6,adU]
  rfl
 |false=>
  have e1:mQ D false x=D++[(lK D,[x])]:=by unfold mQ;rw [abj aN]
  rw [e1,Sz]
  rfl
theorem HD.tJ (h:HD K r E B n L M D){k:Nat}:L.fits k=true->D≠[]:=λhf=>by
 have h1:=h.keeps.log.on (uX hf);intro e;have:=h.l;rw [e]at this;exact h1 this
theorem HD.Oe (h:HD K r E B n L M D) (h0:(aj.encode x).2=0) (hz:(L.append M x).2.2=0):(L.append M x).2.1=iP (vM D (L.fits (aj.encode x).1.length) x):=by
 cases hf:L.fits (aj.encode x).1.length with
 |true=>
  rw [Log.xX h0 hf]at hz ⊢;obtain ⟨D1,e,rfl⟩:∃ D1 e,D=D1++[e]:=by
   rcases apx D with q|⟨D1,e,rfl⟩
   ·exact absurd q (h.tJ hf)
   ·exact ⟨D1,e,apy⟩
  have hl:L.l.getLast?=some ((e.1:Int),8+((encs e.2).length:Int)):=by rw [h.l,adU,ad7,aeF,aja];rfl
  have e2:vM (D1++[e]) true x=((e.1:Int),⟨x,8+(encs e.2).length,(aj.encode x).1.length⟩):=by unfold vM;rw [acg rfl];simp
  rw [e2];unfold Log.grow at hz ⊢;rw [hl]at hz ⊢;simp only at hz ⊢;split at hz
  ·rename_i g;rw [acg g]
   rfl
  ·rename_i g;exact absurd hz g
 |false=>
  rw [Log.wC h0 hf]at hz ⊢;obtain ⟨_,s2,s3,_,_⟩:=h.keeps.shut;have hnx:(L.shut M).1.1.next=lK D:=by rw [<-h.next];unfold Log.next;rw [s3]
  have e2:vM D false x=((lK D:Int),⟨x,8,(aj.encode x).1.length⟩):=by unfold vM;rw [abj aN]
  rw [e2];unfold Log.begin at hz ⊢;rw [acg s2]at hz ⊢;generalize lK D=c at *
  generalize (L.shut M).1.1=L1 at *
  generalize (L.shut M).1.2=M1 at *
  unfold Log.jC at hz ⊢;by_cases g2:1048576<=L1.next
  ·rw [acg g2]at hz;exact absurd (show (16:Int)=0 from hz) aN
  rw [abj g2]at hz ⊢;by_cases g3:(M1.create (name L1.next)).2=0;rotate_left
  ·rw [acg g3]at hz;exact absurd hz g3
  rw [abj (λq=>q g3)]at hz ⊢;by_cases g4:((M1.create (name L1.next)).1.append (name L1.next) (mag++(aj.encode x).1)).2=0
  ·rw [acg g4,hnx]
   rfl
  rw [abj g4]at hz;split at hz
  ·simp only at hz;split at hz
   ·exact absurd hz aN
   ·rename_i g5;exact absurd hz g5
  ·exact absurd hz g4
theorem gI.grown (h:gI K r E B n L M D){K' n':Nat}{L':Log}{D':List (Nat×List aI)} (hg:HD K' r E B n' L' M' D') (hr:aB.Grown M M') (hf:(fO D').length<=n') (ht:n'<=500->∀ e∈fO D',e.data.length<=300):gI K' r E B n' L' M' D':=by
 refine ⟨hg,?_,hf,λp hp=>?_,ht⟩
 ·cases hi:bU M'.now aB.tmp with
  |none=>rfl
  |some i=>
   rcases hr _ (jD hi) with q|⟨k,q⟩
   ·have:=Az h.hd.keeps.calm.ok.ig.ny.keys (show (aB.tmp,i)∈M.now from q);rw [h.tmp]at this;cases this
   ·exact absurd q (aB.DR k)
 ·rcases hr p hp with q|⟨k,q⟩
  ·exact h.small p q
  ·rw [q];exact QI k
theorem XU (h:HD K r E B n L M D) (x:aI):fO (mQ D (L.fits (aj.encode x).1.length) x)=fO D++[x]:=by
 rw [<-qo,SB _ _ h.tJ,adU,qo,ad7,aeF,Si]
theorem gI.yes (h:gI K r E B n L M D) (f:oK L D D0) (hn:n<1000) (hk:x.key.length=32) (hd:x.data.length<=300) (h0:(aj.encode x).2=0) (hz:(L.append M x).2.2=0) :
  ∃ D',gI (K+4) r E B (n+1) (L.append M x).1.1 (L.append M x).1.2 D'/\oK (L.append M x).1.1 D' D0/\fO D'=fO D++[x]/\∃ row,bZ D'=bZ D++[row]/\row.2.e=x/\iP row=(L.append M x).2.1:=by
 obtain ⟨_,_,_,a4⟩:=h.hd.append hn x hk hd h0 (.inl hz);have he:=XU h.hd x;refine ⟨_,h.grown a4 (aB.CV L M x) ?_ ?_,?_,he,_,SB _ x h.hd.tJ,Si _ _ _,(h.hd.Oe h0 hz).symm⟩
 ·rw [he,aaL,aer];have:=h.few;omega
 ·rw [he];exact λ_=>LP (h.thin oQ) hd
 ·obtain ⟨N1,rfl,f2,f3⟩:=f.ex;obtain ⟨N2,b1,_,b3,b4,_⟩:=KF (D:=D0) (N:=N1) (x:=x) (L.fits (aj.encode x).1.length) λhq=>f2 (uX hq);obtain ⟨_,k2⟩:=h.hd.keeps.V8 h0 hz;exact ⟨N2,b1,λ_=>b3,by rw [k2,f3,b4];split <;> omega⟩
theorem gI.no (h:gI K r E B n L M D) (f:oK L D D0) (hk:x.key.length=32) (hz:(L.append M x).2.2≠0):gI (K+4) r E B n (L.append M x).1.1 (L.append M x).1.2 D/\oK (L.append M x).1.1 D D0:=by
 obtain ⟨_,k2⟩:=h.hd.keeps.append x hk;obtain ⟨_,k4,_⟩:=k2 hz;refine ⟨h.grown (h.hd.Og x hk hz) (aB.CV L M x) h.few h.thin,?_⟩;obtain ⟨N1,f1,f2,f3⟩:=f.ex;refine ⟨N1,f1,λho=>f2 ?_,by rw [k4];exact f3⟩;by_cases h0:(aj.encode x).2=0
 ·exact afj h0 hz ho
 ·rw [Log.IY h0]at ho;exact ho
theorem oK.start (ho:L.on=false) (hf:L.fresh=0):oK L D D:=⟨[],(adV _).symm,λq=>(by rw [ho]at q;cases q),by rw [hf];rfl⟩
theorem XO (b:Bool) (D:List (Nat×List aI)):sU (mQ D b bC)/\mQ D b bC≠[]:=by
 have key:∀ (F:List (Nat×List aI)) (c:Nat) (es:List aI),sU (F++[(c,es++[bC])])/\F++[(c,es++[bC])]≠[]:=λF c es=>⟨λd hd=>by
  rw [aja]at hd;simp only [List.getLast?_singleton,Option.some_or,aqh]at hd;rw [<-hd];unfold mJ;simp only;rw [aja]
  rfl,by simp⟩
 unfold mQ;split
 ·exact key _ _ _
 ·exact key _ _ []
theorem gI.commit (h:gI K r E B n L M D) (f:oK L D D0) (hn:n<1000) (hz:(L.append M bC).2.2=0) :
  (L.commit M).2.2=0/\∃ D',gI (K+5) r E B (n+1) (L.commit M).1.1 (L.commit M).1.2 D'/\oK (L.commit M).1.1 D' D'/\(∃ row,bZ D'=bZ D++[row]/\row.2.e=bC)/\fO D'=fO D++[bC]/\sU D'/\D'≠[]/\dV D0<=dV D':=by
 obtain ⟨a1,a2,a3,a4⟩:=h.hd.commit hn (.inl hz);have hl:dV D0<=dV (mQ D (L.fits (aj.encode bC).1.length) bC):=by
  obtain ⟨N1,f1,f2,f3⟩:=f.ex;obtain ⟨N2,b1,_⟩:=KF (D:=D0) (N:=N1) (x:=bC) (L.fits (aj.encode bC).1.length) λhq=>f2 (uX hq);have hr:=a4.rise;rw [f1,b1]at hr ⊢;cases hd:D0.getLast? with
  |none=>
   have:dV D0 = -1:=by unfold dV;rw [hd]
   rw [this];unfold dV;split <;> omega
  |some d=>
   have:dV D0=(d.1:Int):=by unfold dV;rw [hd]
   rw [this];exact ZV hr (ap0 _ (ae5 hd))
 have he:=XU h.hd bC;refine ⟨a1,_,h.grown a4 (aB.JU L M) ?_ ?_,oK.start a2 (agh a1),⟨_,SB _ bC h.hd.tJ,Si _ _ _⟩,he,(XO _ D).1,(XO _ D).2,hl⟩
 ·rw [he,aaL,aer];have:=h.few;omega
 ·rw [he];exact λ_=>LP (h.thin oQ) aN
theorem ahc (D0 N1:List (Nat×List aI)):(fO D0).length<=(fO (D0++N1)).length/\∀ e∈fO D0,e∈fO (D0++N1):=by
 rw [BZ];exact ⟨by rw [aaL];omega,λe he=>ap0 _ he⟩
theorem gI.rollback (h:gI K r E B n L M D) (f:oK L D D0):(L.rollback M).2=0/\gI (K+n) r E B n (L.rollback M).1.1 (L.rollback M).1.2 D0/\oK (L.rollback M).1.1 D0 D0/\aB.Grown M (L.rollback M).1.2/\Apart M (L.rollback M).1.2:=by
 obtain ⟨N1,rfl,f2,f3⟩:=f.ex;obtain ⟨b1,b2,⟨b3,b4⟩,b5,b6⟩:=h.hd.rollback f3;have hc:=h.hd.count;rw [aaL]at hc;obtain ⟨s1,s2⟩:=ahc D0 N1;exact ⟨b1,(h.grown (b2.mono (by omega:K+N1.length<=K+n) (abl _) (abl _) (abl _)) b5 (adt s1 h.few) λq e he=>h.thin q e (s2 e he)),oK.start b3 b4,b5,b6⟩
theorem qB.apart (h:qB r0 E n B0 M D0 N us) (a:Apart M M') (g:aB.Grown M M'){n':Nat} (hn:n<=n'):qB r0 E n' B0 M' D0 N us:=by
 obtain ⟨u,h1,h2,pl,s,q⟩:=h.mono hn (abl E);refine ⟨u,h1.grown g,h2,pl,s,λa1 a2 a3=>⟨λe=>((q a1 a2 a3).1 e).apart g,λe=>((q a1 a2 a3).2 e).apart a g ?_ h2⟩⟩;rw [s.last];unfold dV;cases hl:D0.getLast? with
 |none=>exact absurd (ahP.1 hl) e
 |some d=>simp only;omega
theorem qB.start (hr:M.now=[]):qB r0 E n 0 M [] (-1) []:=
 ⟨aea _,λp hp=>(by rw [hr]at hp;cases hp),by decide,[],⟨rfl,⟨[],⟨List.Pairwise.nil,λk v=>⟨λh=>(by cases h),λh=>(by cases h)⟩⟩,λq hq=>(by cases hq),rfl,rfl⟩,λd hd=>(by cases hd)⟩,λ_ _ _=>⟨λ_ p hp=>(by rw [hr]at hp;cases hp),λe=>absurd rfl e⟩⟩
end
end Go.Seg
namespace Go.Proofs.Y
open Go.ay
structure UN (K r0 E B0 n:Nat) (L:Seg.Log) (M:ay) (D D2:List (Nat×List aj.aI)) (N:Int) (us:List Rep.Use) (B2:Nat):Prop where
 rp:Seg.gI K r0 E B0 n L M D2
 qG:Seg.oK L D2 D2
 row:∃ row,Seg.bZ D2=Seg.bZ D++[row]/\row.2.e=Seg.bC
 ents:Seg.fO D2=Seg.fO D++[Seg.bC]
 len:B2<=n
 ext:Seg.qB r0 E n B0 M D2 N us
section
variable {ps pn B0:Nat}{L:Seg.Log}{D0:List (Nat×List aj.aI)}{N0:Int}{us0:List Rep.Use}{mp:aj.Bs->Option Seg.aV}
theorem alU (hR:Seg.gI K r0 E B0 n L M D) (hf:Seg.oK L D D0) (hx:Seg.qB r0 E n B0 M D0 N0 us0) (hn:n<=200) (hE:E<=200) (hK:K<=1048576) (hz:(L.append M Seg.bC).2.2=0) (hH:Ro w0 F Half) (h:Sat w0 w (aY r m seg p ps pn true::aH pn mp B::aK p m L::aJ m M::F)) :
  Calls prog 22 #[ptr r] w (aP λv w'=>∃ (ps' pi B2:Nat) (uv tv:Value) (N:Int) (us:List Rep.Use) (M3:ay) (D2:List (Nat×List aj.aI)) (b:Nat),v=errno 0/\UN (K+605) r0 (E+2) (B0+b) (n+1) (L.commit M).1.1 M3 D D2 N us B2 /\
   Sat w0 w' (aY r m seg p ps' pn false::cO ps' N pi uv tv::aH pi (Rep.dO (Seg.bZ D2)) B2::aC 45 3 uv (us.flatMap bG)::aH pn mp B::aK p m (L.commit M).1.1::aJ m M3::F)):=by
 obtain ⟨z1,D2,z3,z2,z4,z5,z6,z7,z8⟩:=hR.commit hf oQ hz;have hnn:=(hx.hn.grown (aB.JU L M)).mono (show N0<=Seg.dV D2 from by obtain ⟨pl,hs,_⟩:=hx.ex;rw [hs.last];exact z8);have Hxu:=uQ hx.used;have hcm:=JR (Ro.os hH) hR.hd.keeps.log hR.hd.keeps.calm.ok oQ (h.sb:Sat w0 w (aK p m L::aJ m M::aY r m seg p ps pn true::aH pn mp B::F));generalize L.commit M=q at *
 obtain ⟨⟨L2,M2⟩,n2,e2⟩:=q;dsimp only at hcm z1 z2 z3 hnn ⊢;subst z1;have e5:w.cell? ⟨r,5,none⟩=some (.bool true):=h.cellAt 5 _ rfl;have e2':w.cell? ⟨r,2,none⟩=some (.pointer (some ⟨p,0,none⟩)):=h.cellAt 2 _ rfl;have hok:=nZ h;have R2:=uQ z3;have Z2:=uQ z2;have Z4:=uQ z4;have Z5:=uQ z5;have Z6:=uQ z6;have Z7:=uQ z7;have BL:=uQ hnn;have HH:=uQ hH;have Hn:=uQ hn;have HE:=uQ hE;have HK:=uQ hK;clear h hz hR hn hE hK hH hf hx hnn z2 z3 z4 z5 z6 z7 z8;go_enter func22,ntmps22;go_wp2_with fail;refine hok.mono ?_;rintro ee w1 ⟨v,rfl,rfl,rfl⟩;go_wp2_with fail;refine hcm.mono ?_;rintro ee w2 ⟨v,rfl,rfl,h2⟩;clear hcm hok e5 e2';go_wp2_with (with_reducible apply dh);refine ⟨gq (cs':=#[ptr m,.int .i64 seg,ptr p,ptr ps,ptr pn,.bool false]) (h2.sb:Sat w0 w2 (aY r m seg p ps pn true::aK p m L2::aJ m M2::aH pn mp B::F)) ah ah ah cZ bI au ah ?_⟩;intro w3 h3
 clear h2;have e2':w3.cell? ⟨r,2,none⟩=some (.pointer (some ⟨p,0,none⟩)):=h3.cellAt 2 _ rfl;have HL:=uQ R2.o.hd.keeps.log;have HC:=uQ R2.o.hd.keeps.calm;have hrn:=KY HL.o HC.o.ok (Ro.os HH.o) (adt R2.o.jy yH0) R2.o.KX (h3.sb:Sat w0 w3 (aK p m L2::aJ m M2::aY r m seg p ps pn false::aH pn mp B::F));clear h3;go_wp2_with fail;refine hrn.mono ?_;rintro ee w5 ⟨v,rfl,ho⟩;clear hrn e2';obtain ⟨_,hrun',hlast⟩:=R2.o.hd.last Z6.o;replace hrun':Rep.run (dF L2 M2) L2.aF=.inr L2.aF.length:=hrun';unfold uS at ho;rw [hrun']at ho;obtain ⟨ps',pi,uv,tv,av,kv,rfl,⟨hk1,hk3,hk4⟩,⟨⟨ta,tc,rfl⟩,rF⟩,h5⟩:=ho;rw [aeo]at hk1 hk4 h5;rw [show Rep.rowsOf (dF L2 M2) L2.aF=Seg.bZ D2 from R2.o.hd.rows]at hk1;rw [hlast,show Rep.jR (dF L2 M2) L2.aF=Seg.jA D2 from R2.o.hd.uses,ajN]at h5;clear rF;have hcn:D2.length<=n+1:=R2.o.hd.count
 have hkn:kv.length<=n+1:=adt hk4 R2.o.jy;have xK:=uQ (R2.o.hd.hint hk1 hk3);have nD:=uQ (show Seg.zN D2 (Seg.dV D2) ((Seg.jA D2).map (Rep.upd kv)) (Rep.puts kv) from ⟨rfl,⟨kv,hk1,hk3,rfl,rfl⟩,Z6.o⟩);have BM:=uQ (Rep.KH hk1);have Hpl:=uQ (show (Rep.puts kv).length<=n+1 from adt (by unfold Rep.puts;rw [aa4];exact aeT _ _) hkn);have mG:=uQ hkn;have nP:=uQ (show ((Seg.jA D2).map (Rep.upd kv)).length<=n+1 by unfold Seg.jA;rw [aa4,aa4];exact hcn);have zB:=uQ (show Tab.Lists (Tab.mapOf (Rep.puts kv)) (Rep.puts kv) from Tab.J4 (Rep.Dp hk1.rise))
 have HN:=uQ (show 0<=Seg.dV D2/\Seg.dV D2<1048576 by
  have h1:=R2.o.hd.JZ;have h2:=Hn.o;refine ⟨?_,by omega⟩;unfold Seg.dV;cases hq:D2.getLast? with
  |none=>exact absurd (ahP.1 hq) Z7.o
  |some d=>simp only;omega)
 clear hrun' hk1 hk3 hk4 hlast hcn hkn;generalize (Seg.jA D2).map (Rep.upd kv)=us at *
 generalize kv.length=B2 at *
 generalize Rep.puts kv=pl at *
 have rW:=uQ (aB.kJ.idx xK.o HL.o (by have:=Hpl.o;have:=Hn.o;omega));have rX:=uQ (aB.kJ.uses xK.o HL.o (by have:=nP.o;have:=Hn.o;omega))
 have HB:=uQ (show (aT.book Xx.sum aT.qL true (pl.map Rep.ji)).length+(aT.book Xx.sum aT.qM false (us.map Rep.jl)).length<=40+56*(n+1) by
  rw [aT.x8 (k:=3) rfl rW.o.row,aT.x8 (k:=3) rfl rX.o.row,aa4,aa4,show aT.jL true 3=44 from rfl,show aT.jL false 3=12 from rfl];have:=Hpl.o;have:=nP.o;omega)
 obtain ⟨N,hN⟩:∃ N,N=Seg.dV D2:=⟨_,rfl⟩;rw [<-hN]at h5 HN nD BL;clear hN;go_wp2_with (with_reducible apply fB);refine ⟨eF nO h5 rfl ?_⟩;intro b10 w6 h6;clear h5;go_wp2_with (with_reducible apply dh);refine ⟨fP (dP Rep.dJ.zero) h6 ah ah ah cZ au ah ?_⟩;intro w7 h7;clear h6;go_wp2_with (with_reducible apply dh);refine ⟨gq (cs':=#[ptr m,.int .i64 seg,ptr p,ptr ps',ptr pn,.bool false]) (h7.sb:Sat w0 w7 (aY r m seg p ps pn false::cO ps' N pi uv (.slice ta 0 tc)::aH pi (Tab.mapOf pl) B2::aC 45 3 uv (us.flatMap bG)::aH pn mp B::aK p m L2::aJ m M2::F)) ah ah ah cZ bI au ah ?_⟩;intro w8 h8;clear h7;obtain ⟨bi,hbi⟩:∃ bi,bi=aT.book Xx.sum aT.qL true (pl.map Rep.ji):=⟨_,rfl⟩;obtain ⟨bu,hbu⟩:∃ bu,bu=aT.book Xx.sum aT.qM false (us.map Rep.jl):=⟨_,rfl⟩;have hB:=HB.o;rw [<-hbi,<-hbu]at hB
 obtain ⟨s1,s2,s5,s3⟩:=R2.o.save (by have:=Hn.o;have:=HE.o;omega) BL.o HN.o.1 HN.o.2 bi bu
 have hsv:=P9 HC.o.ok (by have:=HK.o;omega) HN.o.1 HN.o.2 pl zB.o (by have:=mG.o;have:=Hn.o;omega) xK.o.key us rW.o rX.o bi bu hbi hbu s3
  (h8.sb:Sat w0 w8 (cO ps' N pi uv (.slice ta 0 tc)::aH pi (Tab.mapOf pl) B2::aC 45 3 uv (us.flatMap bG)::aJ m M2::aY r m seg p ps' pn false::aH pn mp B::aK p m L2::F))
 have e0':w8.cell? ⟨r,0,none⟩=some (ptr m):=h8.cellAt 0 _ rfl;have s4:=aB.Gp (b1:=bi) (b2:=bu) R2.o.hd.keeps.calm R2.o.tmp (by have:=R2.o.hd.names;have:=Hn.o;have:=HE.o;omega) HN.o.1 HN.o.2;have hu2:=R2.o.hd.used;generalize aB.save M2 N bi bu=q at *
 obtain ⟨M3,e3⟩:=q;dsimp only at hsv s1 s2 s5
 have Ir:=uQ (show bi.length+bu.length<=40+56*(n+1)/\((n+1)*400+B0+(bi.length+bu.length)<=r0->Seg.HF M3 N pl us) from ⟨hB,λhrm=>by
  have hz:=s4.room oQ;have hd:=s4.done.resolve_right (by simp only at hz ⊢;omega);refine ⟨by rw [<-hbi];exact hd.2.1,by rw [<-hbu];exact hd.2.2,λp hp hnm=>?_⟩;have:=s4.gone hz p hp;unfold aB.other at this;rw [hnm]at this;simpa using this⟩)
 have D7:=uQ (show UN (K+605) r0 (E+2) (B0+(bi.length+bu.length)) (n+1) L2 M3 D D2 N us B2 from ⟨s1.mono oQ (abl _) oQ (abl _),Z2.o,Z4.o,Z5.o,mG.o,by
  have h1:=Hxu.o;have h2:E*(20+28*n)<=E*(20+28*(n+1)):=Nat.mul_le_mul_left _ oQ;have h3:(E+2)*(20+28*(n+1))=E*(20+28*(n+1))+2*(20+28*(n+1)):=akH ..;have h4:B0+(bi.length+bu.length)<=(E+2)*(20+28*(n+1)):=oQ;refine ⟨h4,s5,HN.o.2,pl,nD.o,λa1 a2 a3=>⟨λe=>absurd e Z7.o,λ_=>Ir.o.2 ?_⟩⟩;have h5:(E+2)*(20+28*(n+1))<=130*(20+28*200):=an9 a3 oQ;omega⟩)
 clear h8 s1 s3 s4 s5 hu2 hB hbi hbu;go_wp2_with fail;refine hsv.mono ?_;rintro ee w9 ⟨v,rfl,rfl,h9⟩;clear hsv e0';rcases s2 with rfl|rfl
 ·go_wp2_with fail;go_ret;rw [BM.o]at h9;exact ⟨_,rfl,ps',pi,B2,uv,_,N,us,M3,D2,_,rfl,D7.o,h9.sb⟩
 ·go_wp2_with fail;go_ret;rw [BM.o]at h9;exact ⟨_,rfl,ps',pi,B2,uv,_,N,us,M3,D2,_,rfl,D7.o,h9.sb⟩
end
structure BP (K r0 E B0 n:Nat) (L:Seg.Log) (M:ay) (D D0:List (Nat×List aj.aI)) (o oc:aj.Bs->Option aj.Bs) (d:Bool) (B B2:Nat) (N:Int) (us:List Rep.Use):Prop where
 rp:Seg.gI K r0 E B0 n L M D
 qG:Seg.oK L D D0
 now:o=Rep.jw (Seg.fO D)
 was:oc=Rep.jw (Seg.fO D0)
 clean:d=false->D=D0
 b1:B<=n
 b2:B2<=n
 ext:Seg.qB r0 E n B0 M D0 N us
def gy (w0:World) (r m:Nat) (seg:Int) (K r0 E n:Nat) (o oc:aj.Bs->Option aj.Bs) (d:Bool) (F:List aG) (w:World):Prop:=
 ∃ (ps p pn pi B B2 B0:Nat) (uv tv:Value) (N:Int) (us:List Rep.Use) (L:Seg.Log) (M:ay) (D D0:List (Nat×List aj.aI)),BP K r0 E B0 n L M D D0 o oc d B B2 N us /\
  Sat w0 w (aY r m seg p ps pn d::aH pn (Rep.dO (Seg.bZ D)) B::aK p m L::aJ m M::cO ps N pi uv tv::aH pi (Rep.dO (Seg.bZ D0)) B2::aC 45 3 uv (us.flatMap bG)::F)
section
variable {o:aj.Bs->Option aj.Bs}
theorem BP.mono {B0:Nat}{L:Seg.Log}{M:ay}{D D0:List (Nat×List aj.aI)}{B B2 K' E' n':Nat}{N:Int}{us:List Rep.Use} (h:BP K r0 E B0 n L M D D0 o oc d B B2 N us) (h1:K<=K') (h2:E<=E') (h3:n<=n'):BP K' r0 E' B0 n' L M D D0 o oc d B B2 N us:=
 ⟨h.rp.mono h1 h2 (abl _) h3,h.qG,h.now,h.was,h.clean,adt h.b1 h3,adt h.b2 h3,h.ext.mono h3 h2⟩
theorem gy.mono {K' E' n':Nat} (h:gy w0 r m seg K r0 E n o oc d F w) (h1:K<=K') (h2:E<=E') (h3:n<=n'):gy w0 r m seg K' r0 E' n' o oc d F w:=by
 obtain ⟨ps,p,pn,pi,B,B2,B0,uv,tv,N,us,L,M,D,D0,hf,hS⟩:=h;exact ⟨ps,p,pn,pi,B,B2,B0,uv,tv,N,us,L,M,D,D0,hf.mono h1 h2 h3,hS⟩
theorem gy.sat (h:gy w0 r m seg K r0 E n o oc d F w):∃ L:List aG,Sat w0 w L/\(∀ (A:aG) (w':World),Sat w0 w' (A::L)->gy w0 r m seg K r0 E n o oc d (A::F) w')/\(∀ w',Sat w0 w' L->Sat w0 w' F):=by
 obtain ⟨ps,p,pn,pi,B,B2,B0,uv,tv,N,us,L,M,D,D0,hf,hS⟩:=h;exact ⟨_,hS,λA w' hw=>⟨ps,p,pn,pi,B,B2,B0,uv,tv,N,us,L,M,D,D0,hf,hw.sb⟩,λw' hw=>hw.sb⟩
theorem gy.drop {A:aG} (h:gy w0 r m seg K r0 E n o oc d (A::F) w):gy w0 r m seg K r0 E n o oc d F w:=by
 obtain ⟨ps,p,pn,pi,B,B2,B0,uv,tv,N,us,L,M,D,D0,hf,hS⟩:=h;exact ⟨ps,p,pn,pi,B,B2,B0,uv,tv,N,us,L,M,D,D0,hf,hS.sb⟩
theorem BP.grow {B0:Nat}{L:Seg.Log}{M:ay}{D D0:List (Nat×List aj.aI)}{B B2 n':Nat}{N:Int}{us:List Rep.Use} (h:BP K r0 E B0 n L M D D0 o oc d B B2 N us) (x:aj.aI) (hn:n<=n'):Seg.qB r0 E n' B0 (L.append M x).1.2 D0 N us:=
 h.ext.apart (Seg.ajo h.rp.hd.keeps.calm L x) (aB.CV L M x) hn
theorem agT (hn:n<=200) (hE:E<=200) (hK:K<=1048576) (hk:k.length=32) (data:aj.Bs) (da:Option Addr) (dc:Nat) (hd:Ro w0 F (bF 1 (.slice da data.length dc) (aA data))) (tN:data.length<=300) (hH:Ro w0 F Half) (h:gy w0 r m seg K r0 E n o oc d F w) :
  Calls prog 52 #[ptr r,.agg (aA k).toArray,.slice da data.length dc] w (aP λv w'=>(v=errno 0/\gy w0 r m seg (K+4) r0 E (n+1) (Tab.put o k data) oc true F w')\/(v=errno 11/\gy w0 r m seg (K+4) r0 E n o oc d F w')):=by
 obtain ⟨ps,p,pn,pi,B,B2,B0,uv,tv,N,us,L,M,D,D0,hf,hS⟩:=h;have he:=Seg.Pm hk data tN;have hnm:=hf.rp.hd.names;rcases hf.rp.hd.EI (x:=⟨0,k,data⟩) oQ oQ he with hz|hz
 ·obtain ⟨D',y1,fr,y3,row,y4,y5,y6⟩:=hf.rp.yes hf.qG (x:=⟨0,k,data⟩) oQ hk tN he hz;have jr:Tab.put (Rep.dO (Seg.bZ D)) k (L.append M ⟨0,k,data⟩).2.1=Rep.dO (Seg.bZ D'):=by
   rw [y4,Rep.Kr (by unfold Rep.dM;rw [y5]),y6];unfold Rep.fU;rw [y5]
  refine (SN (by have:=hf.b1;omega) hk data da dc (Ro.os hd) oQ hf.rp.hd.keeps.log hf.rp.hd.keeps.calm.ok oQ (Ro.os hH) hz (hS.sb:Sat w0 w (aY r m seg p ps pn d::aH pn (Rep.dO (Seg.bZ D)) B::aK p m L::aJ m M::cO ps N pi uv tv::aH pi (Rep.dO (Seg.bZ D0)) B2::aC 45 3 uv (us.flatMap bG)::F))).mono ?_;rintro e w' ⟨v,rfl,rfl,h2⟩;rw [jr]at h2;refine ⟨_,rfl,.inl ⟨rfl,ps,p,pn,pi,B+1,B2,B0,uv,tv,N,us,_,_,D',D0,⟨y1,fr,?_,hf.was,λe=>(by cases e),by have:=hf.b1;omega,by have:=hf.b2;omega,hf.grow _ (ai7 _)⟩,h2⟩⟩;rw [y3,Rep.akq rfl,hf.now]
 ·have hz':(L.append M ⟨0,k,data⟩).2.2≠0:=by rw [hz];decide
  refine (al4 (by have:=hf.b1;omega) hk data da dc (Ro.os hd) oQ hf.rp.hd.keeps.log hf.rp.hd.keeps.calm.ok oQ (Ro.os hH) hz' (hS.sb:Sat w0 w (aY r m seg p ps pn d::aH pn (Rep.dO (Seg.bZ D)) B::aK p m L::aJ m M::cO ps N pi uv tv::aH pi (Rep.dO (Seg.bZ D0)) B2::aC 45 3 uv (us.flatMap bG)::F))).mono ?_;rintro e w' ⟨v,rfl,rfl,h2⟩;rw [hz];exact ⟨_,rfl,.inr ⟨rfl,ps,p,pn,pi,B,B2,B0,uv,tv,N,us,_,_,D,D0,⟨(hf.rp.no hf.qG hk hz').1,(hf.rp.no hf.qG hk hz').2,hf.now,hf.was,hf.clean,hf.b1,hf.b2,hf.grow _ (abl _)⟩,h2⟩⟩
theorem agE (hn:n<=200) (hE:E<=200) (hK:K<=1048576) (hk:k.length=32) (hH:Ro w0 F Half) (h:gy w0 r m seg K r0 E n o oc d F w) :
  Calls prog 59 #[ptr r,.agg (aA k).toArray] w (aP λv w'=>(v=errno 0/\gy w0 r m seg (K+4) r0 E (n+1) (Tab.del o k) oc true F w')\/((v=errno 11\/v=errno 9)/\gy w0 r m seg (K+4) r0 E n o oc d F w')):=by
 obtain ⟨ps,p,pn,pi,B,B2,B0,uv,tv,N,us,L,M,D,D0,hf,hS⟩:=h;have he:=Seg.ahX hk;have hnm:=hf.rp.hd.names;have hS':Sat w0 w (aY r m seg p ps pn d::aH pn (Rep.dO (Seg.bZ D)) B::aK p m L::aJ m M::cO ps N pi uv tv::aH pi (Rep.dO (Seg.bZ D0)) B2::aC 45 3 uv (us.flatMap bG)::F):=hS;cases hm:Rep.dO (Seg.bZ D) k with
 |none=>
  refine (alX (by have:=hf.b1;omega) hk hm hS').mono ?_;rintro e w' ⟨v,rfl,rfl,h2⟩;exact ⟨_,rfl,.inr ⟨.inr rfl,ps,p,pn,pi,B,B2,B0,uv,tv,N,us,_,_,D,D0,hf.mono oQ (abl _) (abl _),h2⟩⟩
 |some pl=>
  rcases hf.rp.hd.EI (x:=⟨1,k,[]⟩) oQ oQ he with hz|hz
  ·obtain ⟨D',y1,fr,y3,row,y4,y5,y6⟩:=hf.rp.yes hf.qG (x:=⟨1,k,[]⟩) oQ hk (aea _) he hz;have jr:Tab.del (Rep.dO (Seg.bZ D)) k=Rep.dO (Seg.bZ D'):=by
    rw [y4,Rep.akg (by unfold Rep.dM;rw [y5])];unfold Rep.fU;rw [y5]
   refine (alY (by have:=hf.b1;omega) hk pl hm hf.rp.hd.keeps.log hf.rp.hd.keeps.calm.ok oQ (Ro.os hH) hz hS').mono ?_;rintro e w' ⟨v,rfl,rfl,h2⟩;rw [jr]at h2;refine ⟨_,rfl,.inl ⟨rfl,ps,p,pn,pi,B,B2,B0,uv,tv,N,us,_,_,D',D0,⟨y1,fr,?_,hf.was,λe=>(by cases e),by have:=hf.b1;omega,by have:=hf.b2;omega,hf.grow _ (ai7 _)⟩,h2⟩⟩;rw [y3,Rep.akp rfl,hf.now]
  ·have hz':(L.append M ⟨1,k,[]⟩).2.2≠0:=by rw [hz];decide
   refine (alW (by have:=hf.b1;omega) hk pl hm hf.rp.hd.keeps.log hf.rp.hd.keeps.calm.ok oQ (Ro.os hH) hz' hS').mono ?_;rintro e w' ⟨v,rfl,rfl,h2⟩;rw [hz];exact ⟨_,rfl,.inr ⟨.inl rfl,ps,p,pn,pi,B,B2,B0,uv,tv,N,us,_,_,D,D0,⟨(hf.rp.no hf.qG hk hz').1,(hf.rp.no hf.qG hk hz').2,hf.now,hf.was,hf.clean,hf.b1,hf.b2,hf.grow _ (abl _)⟩,h2⟩⟩
theorem OO (hn:n<=199) (hE:E<=200) (hK:K<=1048576) (hH:Ro w0 F Half) (h:gy w0 r m seg K r0 E n o oc d F w) :
  Calls prog 22 #[ptr r] w (aP λv w'=>(v=errno 0/\gy w0 r m seg (K+605) r0 (E+2) (n+1) o o false F w')\/(v=errno 11/\r0<n*400+E*(20+28*n)+400/\gy w0 r m seg (K+605) r0 E n o oc d F w')):=by
 obtain ⟨ps,p,pn,pi,B,B2,B0,uv,tv,N,us,L,M,D,D0,hf,hS⟩:=h;have hS':Sat w0 w (aY r m seg p ps pn d::aH pn (Rep.dO (Seg.bZ D)) B::aK p m L::aJ m M::cO ps N pi uv tv::aH pi (Rep.dO (Seg.bZ D0)) B2::aC 45 3 uv (us.flatMap bG)::F):=hS;have hnm:=hf.rp.hd.names;cases d with
 |false=>
  refine (alT hS').mono ?_;rintro e w' ⟨v,rfl,rfl,rfl⟩;have hoc:o=oc:=by rw [hf.now,hf.was,hf.clean rfl]
  refine ⟨_,rfl,.inl ⟨rfl,?_⟩⟩;have h2:gy w0 r m seg K r0 E n o oc false F w:=⟨ps,p,pn,pi,B,B2,B0,uv,tv,N,us,L,M,D,D0,hf,hS⟩;rw [<-hoc]at h2;exact h2.mono oQ oQ oQ
 |true=>
  rcases hf.rp.hd.EI (x:=Seg.bC) oQ oQ ah with hz|hz
  ·refine (alU hf.rp hf.qG hf.ext oQ hE hK hz (Ro.os hH) hS').mono ?_;rintro e w' ⟨v,rfl,ps',pi',B2',uv',tv',N',us',M3,D2,bb,rfl,hc,h2⟩;obtain ⟨row,y4,y5⟩:=hc.row;have jr:Rep.dO (Seg.bZ D)=Rep.dO (Seg.bZ D2):=by
    rw [y4,Rep.QX (by unfold Rep.dM;rw [y5];rfl)]
   have Zm:o=Rep.jw (Seg.fO D2):=by rw [hc.ents,Rep.aa3 rfl,hf.now]
   rw [jr]at h2;exact ⟨_,rfl,.inl ⟨rfl,ps',p,pn,pi',B,B2',B0+bb,uv',_,N',us',_,M3,D2,D2,⟨hc.rp,hc.qG,Zm,Zm,λ_=>rfl,by have:=hf.b1;omega,hc.len,hc.ext⟩,h2.sb⟩⟩
  ·have hz':(L.append M Seg.bC).2.2≠0:=by rw [hz];decide
   have hce:L.commit M=((L.append M Seg.bC).1,0,(L.append M Seg.bC).2.2):=by unfold Seg.Log.commit;rw [acg hz']
   have n1:(L.commit M).2.2=(L.append M Seg.bC).2.2:=by rw [hce]
   have n2:(L.commit M).1=(L.append M Seg.bC).1:=by rw [hce]
   have hlt:r0<n*400+E*(20+28*n)+400:=by
    apply apS;intro q;have hu:=hf.rp.hd.used;have hr:=hf.rp.hd.keeps.calm.room;have hx:=hf.ext.used;exact hz' (hf.rp.hd.append oQ Seg.bC rfl aN ah (.inr ⟨by omega,by omega⟩)).1
   have hc:(L.commit M).2.2≠0:=by rw [n1];exact hz'
   refine (alV hf.rp.hd.keeps.log hf.rp.hd.keeps.calm.ok oQ (Ro.os hH) hc (hS'.sb:Sat w0 w (aY r m seg p ps pn true::aK p m L::aJ m M::aH pn (Rep.dO (Seg.bZ D)) B::cO ps N pi uv tv::aH pi (Rep.dO (Seg.bZ D0)) B2::aC 45 3 uv (us.flatMap bG)::F))).mono ?_;rintro e w' ⟨v,rfl,rfl,h2⟩;rw [n1,hz];rw [n2]at h2;exact ⟨_,rfl,.inr ⟨rfl,hlt,ps,p,pn,pi,B,B2,B0,uv,tv,N,us,_,_,D,D0,⟨(hf.rp.no hf.qG rfl hz').1.mono oQ (abl _) (abl _) (abl _),(hf.rp.no hf.qG rfl hz').2,hf.now,hf.was,hf.clean,hf.b1,hf.b2,hf.grow _ (abl _)⟩,h2.sb⟩⟩
theorem agU (hn:n<=200) (hK:K<=1048576) (h:gy w0 r m seg K r0 E n o oc d F w) :
  Calls prog 60 #[ptr r] w (aP λv w'=>v=errno 0/\gy w0 r m seg (K+200) r0 E n oc oc false F w'):=by
 obtain ⟨ps,p,pn,pi,B,B2,B0,uv,tv,N,us,L,M,D,D0,hf,hS⟩:=h;obtain ⟨b1,b2,b3,b4,b5⟩:=hf.rp.rollback hf.qG;refine (al5 hf.rp.hd.keeps.log hf.rp.hd.keeps.calm.ok oQ (by have:=hf.b2;omega) b1 (hS.sb:Sat w0 w (aY r m seg p ps pn d::cO ps N pi uv tv::aH pi (Rep.dO (Seg.bZ D0)) B2::aK p m L::aJ m M::aC 45 3 uv (us.flatMap bG)::F))).mono ?_;rintro e w' ⟨v,rfl,q,rfl,h2⟩;exact ⟨_,rfl,rfl,ps,p,q,pi,B2,B2,B0,uv,tv,N,us,_,_,D0,D0,⟨b2.mono oQ (abl _) (abl _) (abl _),b3,hf.was,hf.was,λ_=>rfl,hf.b2,hf.b2,hf.ext.apart b5 b4 (abl _)⟩,h2.sb⟩
end
end Go.Proofs.Y
namespace Go.Rep
open Go.aj (Bs)
structure tq where
 kind:Int
 key:Bs
 data:Bs
 n:Int
 m:Int
 l:List Int
def tq.cut (c:tq):tq:=⟨c.kind,c.key,c.data.take 200,c.n,c.m,c.l.take 60⟩
def Cb (l:List tq) (n:Nat):List tq:=(l.take n).map tq.cut
end Go.Rep
namespace Go.Proofs.Y
open Go.ay
structure QD where
 c:Rep.tq
 dv:Value
 lv:Value
def ng (d:QD):List Value:=(.int .i64 d.c.kind::aA d.c.key)++d.dv::[.int .i64 d.c.n,.int .i64 d.c.m,d.lv]
def iJ (d:QD):Array Value:=(ng d).toArray
def jU (ds:List QD):List Value:=ds.flatMap ng
structure zM (w0:World) (F:List aG) (d:QD):Prop where
 key:d.c.key.length=32
 rd:Ro w0 F (bF 1 d.dv (aA d.c.data))
 cap:lY d.dv
 rl:Ro w0 F (bF 1 d.lv (ints d.c.l))
 OE:lY d.lv
theorem zM.of_sub {w0:World}{F G:List aG}{d:QD} (h:zM w0 F d) (hs:∀ w,Sat w0 w G->Sat w0 w F):zM w0 G d:=
 ⟨h.key,λw hw=>h.rd w (hs w hw),h.cap,λw hw=>h.rl w (hs w hw),h.OE⟩
def UL:QD:=⟨⟨0,aj.zero32,[],0,0,[]⟩,.slice none 0 0,.slice none 0 0⟩
theorem zQo:jF prog 69=some (.agg (iJ UL)):=by kernel_rfl
theorem FH:(prog.info? 69).map (·.size)=some 37:=by kernel_rfl
theorem Dq (d:QD) (hk:d.c.key.length=32):(ng d).length=37:=by
 unfold ng;rw [aaL,aep,aX,hk];rfl
theorem yT (d:QD) (hk:d.c.key.length=32):(iJ d).size=37:=by unfold iJ;rw [abn,Dq d hk]
theorem Rx (d:QD) (hk:d.c.key.length=32):(Value.int .i64 d.c.kind::aA d.c.key).length=33:=by rw [aep,aX,hk]
theorem Gl (d:QD):(ng d)[0]?=some (.int .i64 d.c.kind):=rfl
theorem Gj (d:QD){j:Nat}{v:Value} (h:(aA d.c.key)[j]?=some v):(ng d)[1+j]?=some v:=by
 unfold ng;rw [apW,aeI,ajF,aej (abm.1 h).1];exact h
theorem AQ (d:QD) (hk:d.c.key.length=32) (j:Nat):(ng d)[33+j]?=(d.dv::[.int .i64 d.c.n,.int .i64 d.c.m,d.lv]:List Value)[j]?:=by
 unfold ng;have h:=Rx d hk;rw [aeh oQ,h,apG]
theorem Ru (l1 l2:List Value) (x y:Value){i:Nat} (hi:l1.length=i):eU (l1++x::l2).toArray i [y]=(l1++y::l2).toArray:=by
 subst hi;apply ql;rw [l9 _ _ _ yF0];simp only [ad6,aer];rw [List.take_left,apU,aew oQ,apG,aeu,ap4,apN,adQ,List.singleton_append]
theorem ale (d:QD) (hk:d.c.key.length=32) (b:aj.Bs) (dv:Value):eU (iJ d) 33 [dv]=iJ ⟨⟨d.c.kind,d.c.key,b,d.c.n,d.c.m,d.c.l⟩,dv,d.lv⟩:=
 Ru _ _ _ _ (Rx d hk)
theorem alf (d:QD) (hk:d.c.key.length=32) (l:List Int) (lv:Value):eU (iJ d) 36 [lv]=iJ ⟨⟨d.c.kind,d.c.key,d.c.data,d.c.n,d.c.m,l⟩,d.dv,lv⟩:=by
 have e:∀ d:QD,ng d=((.int .i64 d.c.kind::aA d.c.key)++[d.dv,.int .i64 d.c.n,.int .i64 d.c.m])++d.lv::[]:=λd=>by
  unfold ng;rw [adQ];rfl
 unfold iJ;rw [e,e];exact Ru _ _ _ _ (by rw [aaL,Rx d hk];rfl)
theorem alh (d:QD) (hk:d.c.key.length=32):(iJ d).getD 33 undef=d.dv:=by
 have:=AQ d hk 0;rw [ajS];unfold iJ;rw [ace,this];rfl
theorem ali (d:QD) (hk:d.c.key.length=32):(iJ d).getD 36 undef=d.lv:=by
 have:=AQ d hk 3;rw [ajS];unfold iJ;rw [ace,this];rfl
theorem Dt {ds:List QD} (hk:∀ d∈ds,d.c.key.length=32){i:Nat}{d:QD} (hi:ds[i]?=some d){j:Nat}{y:Value} (hj:(ng d)[j]?=some y):(jU ds)[i*37+j]?=some y:=by
 induction ds generalizing i with
 |nil=>simp at hi
 |cons x ds ih=>
  have hx:=Dq x (hk x (.head _));unfold jU at *
  rw [ael];cases i with
  |zero=>
   obtain rfl:x=d:=by simpa using hi
   rw [aej (by have:=(abm.1 hj).1;omega),Nat.zero_mul,ad8];exact hj
  |succ i=>
   rw [aeh (by rw [hx];omega),hx,show (i+1)*37+j-37=i*37+j by omega];exact ih (λd hd=>hk d (.tail _ hd)) (by simpa using hi)
theorem Ry {ds:List QD} (hk:∀ d∈ds,d.c.key.length=32):(jU ds).length=37*ds.length:=by
 unfold jU
 induction ds with
 |nil=>rfl
 |cons x ds ih=>rw [ael,aaL,Dq x (hk x (.head _)),ih (λd hd=>hk d (.tail _ hd)),aep];omega
theorem alj (ds:List QD) (d:QD):jU (ds++[d])=jU ds++(iJ d).toList:=by unfold jU iJ;rw [aeB];simp
def sG (ds:List QD):aG:=stars (ds.map λd=>bQ d.dv d.c.data)
theorem agC (ds:List QD) (d:QD):sG (ds++[d])=star (bQ d.dv d.c.data) (sG ds):=by
 unfold sG;rw [adU,qO,DK];show star (stars [bQ d.dv d.c.data]) _=_;rw [DL]
theorem abC (d:QD){a1 a2:Option Addr}{n1 n2 c1 c2:Nat} (h1:d.dv=.slice a1 n1 c1) (h2:d.lv=.slice a2 n2 c2):(iJ d).toList.all (·.oneCell')=true:=by
 unfold iJ ng;have hb:(aA d.c.key).all (·.oneCell')=true:=tH _;rw [ad6,aiJ,aql,hb,h1,h2]
 rfl
section
variable {bv dv x lv:Value}
theorem ahj {ds es:List QD}{i:Nat} (h:es.map (·.c)=((ds.map (·.c)).take i).map Rep.tq.cut) (hk:∀ p∈ds,p.c.key.length=32):∀ p∈es,p.c.key.length=32:=by
 intro p hp;have h1:p.c∈es.map (·.c):=abL.2 ⟨p,hp,rfl⟩;rw [h,abL]at h1;obtain ⟨x,hx,he⟩:=h1;obtain ⟨q,hq,rfl⟩:=abL.1 (aeP hx);rw [<-he];exact hk q hq
theorem X0 (ds:List QD) (n:Nat) (hn:n<=1048576) (hr:Ro w0 F (bF 37 lv (jU ds))) (he:∀ d∈ds,zM w0 F d) (h:Sat w0 w F) :
  Calls prog 8 #[lv,.int .i64 n] w (aP λv w'=>∃ (es:List QD) (ov:Value),v=ov/\es.map (·.c)=Rep.Cb (ds.map (·.c)) n/\(∀ d∈es,Ro w0 F (bF 1 d.lv (ints d.c.l))/\lY d.lv) /\
   Sat w0 w' (aC 69 37 ov (jU es)::sG es::F)):=by
 obtain ⟨la,ln,lc,rfl,hl,_⟩:=hr w h;rw [Ry (λp hp=>(he p hp).key)]at hl;obtain rfl:ln=ds.length:=by omega
 have Hr:=uQ hr;have He:=uQ he;have Hn:=uQ hn;clear hr he hl hn;go_enter func8,ntmps8;go_wp2_with fail
 go_loopg [5,6] ds.length (λg ov iq wr=>∃ (i:Nat) (es:List QD),g=ds.length-i/\i<=ds.length/\i<=n/\iq=.int .i64 i/\es.map (·.c)=((ds.map (·.c)).take i).map Rep.tq.cut/\(∀ d∈es,Ro w0 F (bF 1 d.lv (ints d.c.l))/\lY d.lv) /\
  Sat w0 wr (aC 69 37 ov (jU es)::sG es::F))
 case atStart=>exact ⟨0,[],rfl,aea _,aea _,rfl,rfl,(λd hd=>by cases hd),Sat.gB.2 (Sat.emp.2 h)⟩
 case round=>
  obtain ⟨i,es,rfl,hi,hin,rfl,hfs,hls,hS⟩:=hrel;have oC:=uQ hfs;have Hi:=uQ hi;have aB:=uQ hin;have NC:=uQ hls;clear h hfs hi hin hls;by_cases hlt:i<ds.length/\i<n
  ·obtain ⟨hl1,hl2⟩:=hlt;have c1:(i:Int)<(ds.length:Int):=oQ;have c2:(i:Int)<(n:Int):=oQ;have hwi:IntKind.i64.wrap ((i:Int)+1)=(i:Int)+1:=adr _ yH0;have BJ:=uQ hl1;have Hl2:=uQ hl2;have qW:=uQ (ahj oC.o (λp hp=>(He.o p hp).key));clear hl1 hl2;obtain ⟨x,hx⟩:∃ x,ds[i]?=some x:=⟨_,aay BJ.o⟩;have hxe:=He.o x (abA hx);have hk:∀ p∈ds,p.c.key.length=32:=λp hp=>(He.o p hp).key
   have hcut:=uQ (show es.map (·.c)++[x.c.cut]=((ds.map (·.c)).take (i+1)).map Rep.tq.cut by
    rw [oC.o,aeK,adU,adW,hx];rfl)
   have Zu:Ro w0 (aC 69 37 u5 (jU es)::sG es::F) (bF 37 (.slice la ds.length lc) (jU ds)):=Ro.os Hr.o;have hx0:(jU ds)[i*37+0]?=some (.int .i64 x.c.kind):=Dt hk hx rfl;obtain ⟨bk,off,rfl,_⟩:=pI (Zu _ hS) hx0
   have HG:=uQ (show ∀ w' L,Ro w0 L (bF 37 (.slice (some ⟨bk,off,none⟩) ds.length lc) (jU ds))->Sat w0 w' L->∀ j v,(ng x)[j]?=some v->w'.cell? ⟨bk,off+i*37+j,none⟩=some v by
    intro w' L hL hw j v hj;obtain ⟨Oy,off',PI,hcell⟩:=pI (hL w' hw) hx0;cases PI;have:=hcell _ _ (Dt hk hx hj);rw [<-apB]at this;exact this)
   obtain ⟨⟨kind,key,data,xn,xm,xl⟩,dv,lv⟩:=x;obtain ⟨hkey,hrd,hcap,hrl,aif⟩:=hxe;obtain ⟨da,dn,dc,rfl,hdn,hdc⟩:=hcap;obtain ⟨tZ,uh,ug,rfl,Zd,Za⟩:=aif;have hdl:dn=data.length:=by
    obtain ⟨a',n',c',he,hl,_⟩:=hrd _ (hS.sb);cases he;rw [aX,aes]at hl;exact hl.symm
   subst hdl;have NJ:=uQ hrd;have Hrl:=uQ hrl;have dS:=uQ (show key.length=32 from hkey);have Vw:=uQ (abC ⟨⟨kind,key,data,xn,xm,xl⟩,.slice da data.length dc,.slice tZ uh ug⟩ rfl rfl);have Ez:=uQ (yT ⟨⟨kind,key,data,xn,xm,xl⟩,.slice da data.length dc,.slice tZ uh ug⟩ hkey);clear hx hk Zu hx0 hrd hrl hkey;generalize hd1:(⟨⟨kind,key,data,xn,xm,xl⟩,.slice da data.length dc,.slice tZ uh ug⟩:QD)=d1 at HG Vw Ez;have YX:d1.c.key.length=32:=by rw [<-hd1];exact dS.o
   have YW:d1.dv=.slice da data.length dc:=by rw [<-hd1]
   have YZ:d1.lv=.slice tZ uh ug:=by rw [<-hd1]
   have Hd1:=uQ hd1;have Ij:=uQ YX;have aed:=uQ YW;have aee:=uQ YZ;clear hd1 YX YW YZ
   go_wp2_with (first
    |((with_reducible refine bP ⟨?_⟩);refine iR (b:=bk) (o:=off+i*37) (ng d1) ah (HG.o _ _ (Ro.os Hr.o) hS) underlying69 rfl (by rw [Dq _ Ij.o];exact FH) ?_)
    |(with_reducible apply fB))
   refine ⟨eF zQo hS rfl ?_⟩;intro q w1 hS1;go_wp2_with (with_reducible apply dh);refine ⟨fP (iJ d1) hS1 (cs:=iJ UL) ah ah (Ez.o.trans (yT UL rfl).symm) fV (by rw [Ez.o];exact FH) Vw.o ?_⟩;intro w2 hS2;clear hS hS1;go_wp2_with ((with_reducible refine bP ⟨?_⟩);refine fZ (b:=q) (o:=33) (v:= .slice da data.length dc) hS2 ah bJ (by rw [Ez.o];decide) (by rw [alh _ Ij.o,aed.o]) au ?_);refine (cut_c da data.length dc 200 hdn hdc _).mono ?_;rintro ee w3 ⟨v,rfl,rfl,rfl⟩;go_wp2_with fail;refine (agl hS2 (data.take 200) (alp ((Ro.os NJ.o) _ hS2)) (by rw [ads];omega)).mono ?_;rintro ee w4 ⟨v,rfl,hS4,ca,cn,cc,rfl⟩;obtain ⟨d2,hd2⟩:∃ d2:QD,d2=⟨⟨d1.c.kind,d1.c.key,data.take 200,d1.c.n,d1.c.m,d1.c.l⟩,.slice ca cn cc,d1.lv⟩:=⟨_,rfl⟩;have hp2:eU (iJ d1) 33 [.slice ca cn cc]=iJ d2:=by rw [ale _ Ij.o (data.take 200),hd2]
   have Y0:d2.c.key.length=32:=by rw [hd2];exact Ij.o
   have Y1:d2.lv=.slice tZ uh ug:=by rw [hd2];exact aee.o
   have zF:=uQ hp2;have Hd2:=uQ hd2;have Ee:=uQ Y0;have aef:=uQ Y1;clear hp2 hd2 Y0 Y1 hS2;go_wp2_with (with_reducible apply dh);refine ⟨gq (b:=q) (o:=33) (v:= .slice ca cn cc) hS4 ah ah zF.o fV (by rw [Ez.o];show 33+1<=37;decide) au ah ?_⟩;intro w5 hS5;clear hS4;go_wp2_with ((with_reducible refine bP ⟨?_⟩);refine fZ (b:=q) (o:=36) (v:= .slice tZ uh ug) hS5 ah bJ (by rw [yT _ Ee.o];decide) (by rw [ali _ Ee.o,aef.o]) au ?_);refine (akl tZ uh ug 60 Zd Za _).mono ?_;rintro ee w6 ⟨v,rfl,rfl,rfl⟩;obtain ⟨d3,hd3⟩:∃ d3:QD,d3=⟨⟨d2.c.kind,d2.c.key,d2.c.data,d2.c.n,d2.c.m,xl.take 60⟩,d2.dv,.slice tZ (min uh 60) ug⟩:=⟨_,rfl⟩;have hp3:eU (iJ d2) 36 [.slice tZ (min uh 60) ug]=iJ d3:=by rw [alf _ Ee.o (xl.take 60),hd3]
   have Y2:d3.c.key.length=32:=by rw [hd3];exact Ee.o
   have aeG:=uQ (show (iJ d3).toList.all (·.oneCell')=true by rw [hd3,Hd2.o];exact abC _ rfl rfl);have Hc3:=uQ (show d3.c=Rep.tq.cut ⟨kind,key,data,xn,xm,xl⟩ by rw [hd3,Hd2.o,<-Hd1.o];rfl);have Hb3:=uQ (show bQ d3.dv d3.c.data=bQ (.slice ca cn cc) (data.take 200) by rw [hd3,Hd2.o]);have Vk:=uQ (show d3.lv=.slice tZ (min uh 60) ug/\d3.c.l=xl.take 60 by rw [hd3];exact ⟨rfl,rfl⟩);have Hp3:=uQ hp3;have Ik:=uQ Y2;clear hp3 hd3 Y2;have hlen:(jU es).length<=2147483648:=by
    rw [Ry qW.o];have:=aey List.length oC.o;simp only [aa4,ads]at this;have:=Hn.o;have:=aB.o;omega
   go_wp2_with (with_reducible apply dh);refine ⟨gq (b:=q) (o:=36) (v:= .slice tZ (min uh 60) ug) hS5 ah ah Hp3.o fV (by rw [yT _ Ee.o];exact abl 37) au ah ?_⟩;intro w7 hS7;clear hS5
   go_wp2_with (first
    |((with_reducible refine bP ⟨?_⟩);refine iQ (b:=q) hS7 ah bJ underlying69 rfl (by rw [yT _ Ik.o];exact FH) ?_)
    |((with_reducible refine nR ⟨?_⟩);refine nN (e:=69) (sz:=37) (eX:=104) au hS7 ah (cs:=iJ d3) rfl (yT _ Ik.o) bI ?_;intro bN wN hN)
    |((with_reducible refine lH ⟨?_⟩);refine oh 69 37 104 au hN ah ah bJ bJ ((yT _ Ik.o).trans aN) (abl 1) aeG.o hlen (by rw [yT _ Ik.o];decide) aN rfl ?_;intro bA nA cA wA hA))
   go_roundg (ds.length-(i+1))
   case measure=>have:=BJ.o;omega
   case rel=>
    refine ⟨i+1,es++[d3],rfl,aec BJ.o,aec Hl2.o,by first|rfl|go_num,?_,?_,?_⟩
    ·rw [<-hcut.o,adU,ad7,aeF,Hc3.o]
    ·intro d hd;rcases aeg.1 hd with hd|hd
     ·exact NC.o d hd
     ·rw [adZ.1 hd,Vk.o.1,Vk.o.2];exact ⟨λw hw=>alq (Hrl.o w hw),⟨_,_,_,rfl,adt (Nat.min_le_left _ _) Zd,Za⟩⟩
    ·rw [alj,agC,Hb3.o];have h10:Sat w0 wA (bQ (.slice ca cn cc) (data.take 200)::sG es::aC 69 37 (.slice (some ⟨bA,0,none⟩) nA cA) (jU es++(iJ d3).toList)::F):=hA.sb;exact (Sat.star.2 h10).bf
  ·have hfin:es.map (·.c)=Rep.Cb (ds.map (·.c)) n:=by
    rw [oC.o];unfold Rep.Cb
    congr 1
    have:=Hi.o;have:=aB.o;by_cases hh:i=n
    ·rw [hh]
    ·rw [ad9 (by rw [aa4];omega),ad9 (by rw [aa4];omega)]
   have bH:=uQ hfin;by_cases hl1:i<ds.length
   ·have c1:(i:Int)<(ds.length:Int):=by omega
    have c2:¬ (i:Int)<(n:Int):=oQ;clear hfin hlt hl1;go_wp2;go_ret;exact ⟨_,rfl,es,bH.o,NC.o,hS⟩
   ·have c1:¬ (i:Int)<(ds.length:Int):=by omega
    clear hfin hlt hl1;go_wp2;go_ret;exact ⟨_,rfl,es,bH.o,NC.o,hS⟩
end
abbrev PV:=aj.Bs×aj.Bs×Value
def kG (q:PV):List Value:=aA q.1++[q.2.2]
def AP (q:PV):aj.Bs×aj.Bs:=(q.1,q.2.1)
def rD (ps:List PV):aG:=stars (ps.map λq=>bQ q.2.2 q.2.1)
theorem yS (q:PV) (hk:q.1.length=32):(kG q).length=33:=by unfold kG;rw [aaL,aX,hk];rfl
theorem alg (q:PV){a:Option Addr}{n c:Nat} (h:q.2.2=.slice a n c):(kG q).all (·.oneCell')=true:=by
 unfold kG;have hb:(aA q.1).all (·.oneCell')=true:=tH _;rw [aiJ,hb,h];rfl
theorem agD (ps:List PV) (q:PV):rD (ps++[q])=star (bQ q.2.2 q.2.1) (rD ps):=by
 unfold rD;rw [adU,qO,DK];show star (stars [bQ q.2.2 q.2.1]) _=_;rw [DL]
theorem akN:sN prog 113=some [(0,32),(32,1)]:=by kernel_rfl
theorem aoT:jF prog 113=some (.agg (kG (aj.zero32,[],.slice none 0 0)).toArray):=by kernel_rfl
theorem amo (k:aj.Bs) (hk:k.length=32) (d:aj.Bs) (a:Option Addr) (n c:Nat) (w:World) :
  (Instr.build 113 #[(0,.agg (aA k).toArray),(1,.slice a n c)]).run prog w=.ok (.agg (kG (k,d,.slice a n c)).toArray) w:=by
 have hbk:(aA k).toArray.size=32:=by rw [abn,aX,hk]
 refine (apP (P:=prog) [(0,.agg (aA k).toArray),(1,.slice a n c)] akN aoT (by
  intro p' hp;simp only [ad5,ah4,apX]at hp;have hzz:(Value.agg (kG (aj.zero32,[],.slice none 0 0)).toArray).cells.size=33:=by
   show (kG (aj.zero32,[],.slice none 0 0)).toArray.size=33;rw [abn,yS _ rfl]
  rw [hzz];rcases hp with rfl|rfl
  ·refine ⟨0,?_,?_⟩
   ·show some (0,32)=some (0,(aA k).toArray.size);rw [hbk]
   ·show 0+(aA k).toArray.size<=33;omega
  ·exact ⟨32,rfl,by show 32+1<=33;omega⟩) w).trans ?_
 congr 2
 show eU (eU (kG (aj.zero32,[],.slice none 0 0)).toArray 0 (aA k)) 32 [.slice a n c]=_;have h1:eU (kG (aj.zero32,[],.slice none 0 0)).toArray 0 (aA k)=(aA k++Value.slice none 0 0::[]).toArray:=by
  apply ql;rw [l9 _ _ _ (by rw [abn,yS _ rfl,aX,hk];decide),aeO,aeu,ad8,aX,hk,ad6]
  rfl
 rw [h1];exact Ru _ _ _ _ (by rw [aX,hk])
end Go.Proofs.Y
namespace Go.Seg
open Go.ay
open Go.aj (Bs aI encs gu)
open Go.Rep
end Go.Seg
namespace Go.Proofs.Y
open Go.ay
section
variable {o:aj.Bs->Option aj.Bs}
theorem Ro.AL {F G:List aG}{X:World->Prop} (h:Ro w0 F X) (hs:∀ w,Sat w0 w G->Sat w0 w F):Ro w0 G X:=λw hw=>h w (hs w hw)
theorem Xp:∀ (es:List QD) (i:Nat) (d:QD),es[i]?=some d->∃ G,sG es=star (bQ d.dv d.c.data) G
 |[],_,_,h=>by cases h
 |x::es,0,d,h=>by
  obtain rfl:x=d:=by simpa using h
  exact ⟨_,rfl⟩
 |x::es,i+1,d,h=>by
  obtain ⟨G,hG⟩:=Xp es i d yP0;refine ⟨star (bQ x.dv x.c.data) G,?_⟩;show star (bQ x.dv x.c.data) (sG es)=_;rw [hG,yZ]
theorem Xq {es:List QD}{i:Nat}{d:QD} (h:es[i]?=some d):Ro w0 (sG es::R) (bF 1 d.dv (aA d.c.data)):=λw hw=>by
 obtain ⟨G,hG⟩:=Xp es i d h;rw [hG]at hw;exact Sat.rd (Sat.star.1 hw)
theorem Xr:∀ (es:List PV) (i:Nat) (d:PV),es[i]?=some d->∃ G,rD es=star (bQ d.2.2 d.2.1) G
 |[],_,_,h=>by cases h
 |x::es,0,d,h=>by
  obtain rfl:x=d:=by simpa using h
  exact ⟨_,rfl⟩
 |x::es,i+1,d,h=>by
  obtain ⟨G,hG⟩:=Xr es i d yP0;refine ⟨star (bQ x.2.2 x.2.1) G,?_⟩;show star (bQ x.2.2 x.2.1) (rD es)=_;rw [hG,yZ]
theorem BX {es:List PV}{q:PV} (h:q∈es):Ro w0 (rD es::R) (bF 1 q.2.2 (aA q.2.1)):=λw hw=>by
 obtain ⟨i,hi⟩:=apI h;obtain ⟨G,hG⟩:=Xr es i q hi;rw [hG]at hw;exact Sat.rd (Sat.star.1 hw)
theorem abD {es:List QD}{v:Value} (hk:∀ d∈es,d.c.key.length=32) (h:Sat w0 w (aC 69 37 v (jU es)::R)):∃ a c,v=.slice a es.length c:=by
 obtain ⟨a,n,c,rfl,hl,hx⟩:=Sat.rd h;rw [Ry hk]at hl;obtain rfl:n=es.length:=by omega
 exact ⟨a,c,rfl⟩
theorem X3 {es ds:List QD}{n:Nat} (h:es.map (·.c)=Rep.Cb (ds.map (·.c)) n) (hk:∀ d∈ds,d.c.key.length=32):es.length<=n/\∀ d∈es,d.c.key.length=32/\d.c.data.length<=300:=by
 refine ⟨?_,λd hd=>?_⟩
 ·have:=aey List.length h;unfold Rep.Cb at this;rw [aa4,aa4,ads]at this;omega
 ·have h1:d.c∈es.map (·.c):=abL.2 ⟨d,hd,rfl⟩;rw [h]at h1;unfold Rep.Cb at h1;obtain ⟨x,hx,e⟩:=abL.1 h1;obtain ⟨y,hy,rfl⟩:=abL.1 (aeP hx);rw [<-e];exact ⟨hk y hy,by show (y.c.data.take 200).length<=300;rw [ads];omega⟩
end
end Go.Proofs.Y
namespace Go.Rep
structure jG where
 a:Option Addr
 n:Nat
 c:Nat
 last:Seg.aV
end Go.Rep
namespace Go.Proofs.Y
open Go.ay
def iL (a:Rep.jG):List Value:=[.slice a.a a.n a.c,.int .i64 a.last.seg,.int .i64 a.last.at_,.int .i64 a.last.size]
abbrev qy:Rep.jG:=⟨none,0,0,Seg.aV.zero⟩
theorem ZO (a:Rep.jG):(iL a).length=4:=rfl
theorem ZP (a:Rep.jG):(iL a).all (·.oneCell')=true:=rfl
theorem MJ:jF prog 266=some (.agg (slotL iL ⟨0,aj.zero32,qy⟩).toArray):=by kernel_rfl
theorem akQ:sN prog 266=some [(0,1),(1,32),(33,4)]:=by kernel_rfl
section
variable {gn d c:Nat}{sv:Value}{s:List (Tab.Slot (Rep.jG))}{a:Option Addr}
theorem aa5 (hl:0<s.length) (h:Sat w0 w (iI p 262 (.slice a s.length c) n gn::F)) :
  Calls prog 164 #[ptr p] w (aP λv w'=>v=.bool true/\w=w'):=by
 have e0:w.cell? ⟨p,0,none⟩=some (.slice a s.length c):=h.cellAt 0 _ rfl;have c1:(0:Int)<(s.length:Int):=oQ;go_enter func164,ntmps164;go_wp2;go_ret;exact ⟨_,rfl,rfl,rfl⟩
abbrev jS.dU:=@iL
abbrev jS.dX:Nat:=37
abbrev jS.iE:Nat:=4
theorem jS.zh:type_of% @ZO:=@ZO
theorem jS.Uh:type_of% @func165:=@func165
theorem jS.Uk:type_of% @ntmps165:=@ntmps165
abbrev jS.iG:Nat:=262
abbrev jS.gY:Nat:=266
theorem jS.GI:type_of% @underlying266:=@underlying266
theorem jS.GK:type_of% @MJ:=@MJ
theorem jS.Gz:type_of% @ZP:=@ZP
open jS in
theorem X9 (g:Tab.Good s) (hc:s.length<=1073741824) (hk:k.length=32) (he:Tab.Ends s k d) (h:Sat w0 w (iI p 262 sv n gn::aC 266 37 sv (s.flatMap (slotL iL))::F)) :
  Calls prog 165 #[ptr p,.agg (aA k).toArray] w (aP λv w'=>∃ x,s[Tab.pos k s.length d]?=some x/\v=.tuple #[.int .i64 (Tab.pos k s.length d:Nat),.int .i64 ((d:Int)+1),.bool (decide (x.st=1))] /\
   Sat w0 w' (iI p 262 sv n gn::aC 266 37 sv (s.flatMap (slotL iL))::F)):=Qz
end
end Go.Proofs.Y
