import Derived.Test.YtadhomdmbcldkaaGreatDoorJ5
set_option linter.unusedSimpArgs false
variable {A G:Prop}
open Go.Proofs.Tryz
set_option maxRecDepth 20000
set_option linter.unusedVariables false
set_option maxHeartbeats 128000000
open Go Go.Sl Go.MapKept Go.RowKit
open Go.Proofs.YtadhomdmbcldkaaGreatDoor Go.Proofs.Y
variable {w0 w:World}{F R L:List aO}{v bv x lv dv sv v1 v2 TB fv nv wv:Value}{P:Program}{ops:Array Oper}{a:Act}{dst:Option Tmp}{after:Array Edge}{y s:Operand}{ty e:TypeId}{Q:Exit->Act->World->Prop}{p m K b i1 i2 B d base:Nat}{M:aG.aG}{rest:List Oper}{E:Prop}{cs:Array Value}{xs:List RF}{H:Type}{spare:Nat->Bool}{held:Bool}
theorem yM0(h:A:=by rw [show dJ l=l.flatMap λi=>[Value.int .i64 i] from by unfold dJ;exact List.map_eq_flatMap]at h;exact h):A:=h
theorem yQ0(h:A:=by rw [abA,abJ];omega):A:=h
theorem zO0(h:A:=by have:=J.o;omega):A:=h
namespace Go.aJ
open Go.ay (Bs)
def Ip (bt:qB) (ns:List Int) (n:Nat):(gI×Int) ⊕ Nat:=match qm bt (ns.take n) with
 |some x=> .inl x
 |none=> .inr n
def run (bt:qB) (ns:List Int):(gI×Int) ⊕ Nat:=
 if (split bt ns ns.length).2≠0 then .inl (gI.zero,(split bt ns ns.length).2) else Ip bt ns (split bt ns ns.length).1
theorem agU {bt:qB}{ns:List Int}{n:Nat}{x:gI×Int} (h:qm bt (ns.take n)=some x):Ip bt ns n=.inl x:=by unfold Ip;rw [h]
theorem agV {bt:qB}{ns:List Int}{n:Nat} (h:qm bt (ns.take n)=none):Ip bt ns n=.inr n:=by unfold Ip;rw [h]
def wI (l:List Int):Int:=match l.getLast? with
 |some s=>s
 |none=> -1
theorem adY:∀ {l:List fZ}{k:Bs}{r:fZ},iC l k=some r->r∈l
 |[],_,_,h=>by cases h
 |x::l,k,r,h=>by
  unfold iC at h;split at h
  ·rename_i y hy;cases h;exact .tail _ (adY hy)
  ·split at h
   ·cases h;exact .head _
   ·cases h
theorem aoJ {l:List fZ}{k:Bs}{a:iH} (h:lC l k=some a):∃ r∈l,a.jf=pF r:=by
 unfold lC at h;cases hn:iC l k with
 |none=>rw [hn]at h;cases h
 |some r=>rw [hn]at h;cases h;exact ⟨r,adY hn,rfl⟩
theorem arU (bt:qB) (a:List Int) (n:Nat):∀ r∈jP bt (a.take n),r∈jP bt a:=λr b=>by
 unfold jP at b ⊢;obtain ⟨s,c,h⟩:=aob.1 b;exact aob.2 ⟨s,ajq c,h⟩
theorem Wh (bt:qB) (ns:List Int) (n:Nat):(jP bt (ns.take n)).length<=(jP bt ns).length:=by
 have e:jP bt ns=jP bt (ns.take n)++jP bt (ns.drop n):=by
  unfold jP;rw [<-ai5,aja]
 rw [e,aay];omega
theorem aoF (l:List Int) (s:Int):wI (l++[s])=s:=by unfold wI;rw [as4];rfl
open Go.ay (Bs fO)
open Go.aB (bT)
open Go.aY
theorem agJ {bt:qB}{ns:List Int}{r:fZ} (h:r∈jP bt ns):r.1∈ns/\r.2∈(ay.eF (bt r.1).1).1:=by
 unfold jP at h;obtain ⟨s,hs,h⟩:=aob.1 h;obtain ⟨f,hf,rfl⟩:=abI.1 h;exact ⟨hs,hf⟩
theorem arT {bt:qB}{ns:List Int} (hr:ns.Pairwise (· < ·)) (h0:∀ s∈ns,0<=s):Rows (jP bt ns):=by
 refine ⟨λr h=>(ay.atc _ _ (agJ h).2).1,λr h=>h0 _ (agJ h).1,?_⟩;unfold jP;rw [List.pairwise_flatMap];refine ⟨λs _=>?_,hr.imp λ{a b} hab x hx y hy=>?_⟩
 ·rw [akC];exact List.pairwise_of_forall λ_ _=>avf s
 ·obtain ⟨_,_,rfl⟩:=abI.1 hx;obtain ⟨_,_,rfl⟩:=abI.1 hy;exact Int.le_of_lt hab
open Go.ay (Bs fO aT iJ bU gV)
open Go.aB (bT dL)
open Go.aY
def Aq:Nat->List (List aT)->List fZ
 |_,[]=>[]
 |k,es::C=>((iJ es 8).map λf=>((k:Int),f))++Aq (k+1) C
section
variable {C:List (List aT)}{bt:qB}{k n:Nat}
theorem agH:∀ (k:Nat) (C:List (List aT)),(Aq k C).map (·.2.e)=C.flatten
 |_,[]=>rfl
 |k,es::C=>by
  unfold Aq;rw [acy,ajr,agH (k+1) C,awz]
  congr 1
  exact ay.zX es 8
theorem agL:∀ (C:List (List aT)) (k:Nat),(∀ j es,C[j]?=some es->bt ((k+j:Nat):Int)=(dL++bU es,0)/\∀ x∈es,gV x)->jP bt ((List.range' k C.length).map λi=>((i:Nat):Int))=Aq k C
 |[],k,_=>rfl
 |es::C,k,h=>by
  have h0:=h 0 es rfl;rw [aoe]at h0;have ih:=agL C (k+1) λj fs hj=>by
   have:=h (j+1) fs yY0
   rwa [show k+(j+1)=k+1+j by omega]at this
  rw [aiT,List.range'_succ,aij];show ((ay.eF (bt (k:Int)).1).1.map λf=>((k:Int),f))++jP bt ((List.range' (k+1) C.length).map λi=>((i:Nat):Int))=_;rw [ih,h0.1,ay.Kz es h0.2]
  rfl
def mJ (es:List aT):Bool:=match es.getLast? with
 |some x=>x.dB==2
 |none=>false
theorem al8 (es:List aT) (a:Nat):C9 (iJ es a)=mJ es:=by
 unfold C9 mJ;have h:(iJ es a).getLast?.map (·.e)=es.getLast?:=by rw [<-asq,ay.zX]
 cases hl:(iJ es a).getLast? with
 |none=>rw [hl]at h;rw [<-h];rfl
 |some f=>rw [hl]at h;rw [<-h];rfl
theorem ahz {f:List Int} (o:f.length=C.length) (h:∀ j es,C[j]?=some es->bt (f.getD j 0)=(dL++bU es,0)/\∀ x∈es,gV x):∀ i,i<=C.length ->
  ∃ n,split bt f i=(n,0)/\n<=i/\(n≠0->∃ es,C[n-1]?=some es/\mJ es=true)/\∀ j es,n<=j->j<i->C[j]?=some es->mJ es=false
 |0,_=>⟨0,rfl,abG _,λh=>absurd rfl h,λj es l m=>by omega⟩
 |i+1,hi=>by
  obtain ⟨es,g⟩:∃ es,C[i]?=some es:=⟨_,aaf oQ⟩;obtain ⟨l,m⟩:=h i es g;have s:split bt f (i+1)=if mJ es=true then (i+1,0) else split bt f i:=by
   rw [split,l,abB yD0,ay.Kz es m];simp only [al8,true_and]
  rw [s];cases hc:mJ es with
  |true=>exact ⟨i+1,rfl,abG _,λ_=>⟨es,g,hc⟩,λj fs a b=>by omega⟩
  |false=>
   obtain ⟨n,a,b,c,d⟩:=ahz o h i oQ;refine ⟨n,a,by omega,c,λj fs p q r=>?_⟩;by_cases e:j=i
   ·subst e;rw [g]at r;cases r;exact hc
   ·exact d j fs p oQ r
theorem akJ {ns:List Int} (h:∀ (j:Nat) (s:Int),ns[j]?=some s->∃ es,bt s=(dL++bU es,0)/\∀ x∈es,gV x):qm bt ns=none:=by
 induction ns with
 |nil=>rfl
 |cons s ns ih=>
  obtain ⟨es,h1,h2⟩:=h 0 s rfl;unfold qm;rw [h1,abB yD0,ay.Kz es h2];simp only;rw [abB yD0];exact ih λj t hj=>h (j+1) t yY0
def uq:List aT->Bs->Option aT
 |[],_=>none
 |x::l,k=>match uq l k with
  |some y=>some y
  |none=>if x.dB≠2/\x.key=k then some x else none
theorem adW:∀ (l:List fZ) (k:Bs),(iC l k).map (·.2.e)=uq (l.map (·.2.e)) k
 |[],_=>rfl
 |r::l,k=>by
  have ih:=adW l k;unfold iC;rw [aij]
  conv=>rhs;unfold uq
  rw [<-ih];cases iC l k with
  |some x=>rfl
  |none=>
   simp only [avX];unfold iV kD;split <;> rfl
theorem aoD (a b:List aT) (k:Bs):uq (a++b) k=match uq b k with
  |some y=>some y
  |none=>uq a k:=by
 induction a with
 |nil=>cases h:uq b k <;> simp [uq,h]
 |cons x a ih=>
  rw [ajK]
  conv=>lhs;unfold uq
  rw [ih];cases h:uq b k with
  |some y=>rfl
  |none=>simp only;conv=>rhs;unfold uq
theorem G5 (a:List aT) (x:aT) (k:Bs):uq (a++[x]) k=if x.dB≠2/\x.key=k then some x else uq a k:=by
 rw [aoD];unfold uq;simp only [uq];split
 ·rename_i y h;split at h
  ·rename_i h2;rw [abL h2];exact h.symm
  ·cases h
 ·rename_i h;split at h
  ·cases h
  ·rename_i h2;rw [abB h2]
theorem Nw:∀ (es:List aT) (a:Nat){f:fO},f∈iJ es a->∃ u v,es=u++f.e::v/\f.aP=a+(bU u).length/\f.size=(ay.dI f.e).1.length
 |[],_,f,h=>by cases h
 |x::es,a,f,h=>by
  unfold iJ at h;rcases ab9.1 h with rfl|h
  ·exact ⟨[],es,rfl,rfl,rfl⟩
  ·obtain ⟨u,v,h1,h2,h3⟩:=Nw es _ h;refine ⟨x::u,v,by rw [h1];rfl,?_,h3⟩;have e:bU (x::u)=(ay.dI x).1++bU u:=rfl;rw [h2,e,aay];omega
end
def yY (l:List fZ) (s:Int):Int:=(l.map λr=>if r.1=s then (r.2.size:Int) else 0).sum
theorem WI (a b:List fZ) (s:Int):yY (a++b) s=yY a s+yY b s:=by unfold yY;rw [acy,List.sum_append]
theorem adt {l:List fZ} (s:Int):∀ i,i<=l.length->0<=live l s i/\live l s i<=yY (l.take i) s
 |0,_=>⟨avf 0,by simp [live,yY]⟩
 |i+1,hi=>by
  have ih:=adt (l:=l) s i oQ;obtain ⟨r,hr⟩:∃ r,l[i]?=some r:=⟨_,aaf oQ⟩;rw [ajf,hr,akf,WI];have e:yY [r] s=if r.1=s then (r.2.size:Int) else 0:=by unfold yY;simp
  rw [e];unfold live;rw [hr];simp only;by_cases h:r.1=s
  ·rw [abL h];split <;> omega
  ·rw [abB h,abB (λhh=>h hh.2)];omega
theorem abe:∀ (es:List aT) (a:Nat),((iJ es a).map λf=>(f.size:Int)).sum=(bU es).length
 |[],_=>rfl
 |x::es,a=>by
  have e:bU (x::es)=(ay.dI x).1++bU es:=rfl;unfold iJ;rw [aij,avE,abe es,e,aay];simp
theorem ahl (l:List fO) (k s:Int):yY (l.map λf=>(k,f)) s=if k=s then (l.map λf=>(f.size:Int)).sum else 0:=by
 unfold yY;rw [ajr];by_cases h:k=s
 ·rw [abL h]
  congr 1
  refine anP λf _=>?_;simp [h]
 ·rw [abB h]
  induction l with
  |nil=>rfl
  |cons f l ih=>rw [aij,avE,ih];simp [h]
open Go.ay (Bs fO)
open Go.aB (bT)
open Go.aY
def GU (k:Bs) (r:fZ):Bool:=decide (iV r<2) && decide (kD r=k)
end Go.aJ
namespace Go.aY
open Go.ay (Bs bD)
section
variable {V:Type}{s:List (gy V)}{x z:gy V}{k:Bs}{v:V}{d:Nat}
def qo (m:Bs->Option V) (k:Bs):Bs->Option V:=λl=>if l=k then none else m l
theorem aaq (g:pK s) (F:rO s k d) (C:s[pos k s.length d]?=some x) (hf:x.st=1) (G:z.st=2) (D:z.key.length=32) :
  pK (s.set (pos k s.length d) z)/\∀ B E,oC (s.set (pos k s.length d) z) B E↔B≠k/\oC s B E:=by
 have⟨u,_⟩:=Nl F C hf;have j:pos k s.length d<s.length:=xK g.qX;generalize A:pos k s.length d=p at *
 have o:∀ q l,xQ (s.set p z) l q->xQ s l q:=λq l=>by
  unfold xQ;by_cases h:p=q
  ·subst h;rw [Ar j];rintro ⟨y,m,i⟩;cases m;rcases i with i|⟨i,_⟩ <;> omega
  ·rw [yZ h];exact id
 refine ⟨⟨by rw [akW];exact g.J4,λy m=>?_,λy m=>?_,λq y f m=>?_⟩,λB E=>?_⟩
 ·rcases aoU m with h|rfl
  ·exact g.st y h
  ·omega
 ·rcases aoU m with h|rfl
  ·exact g.key y h
  ·exact D
 ·rw [akW];by_cases h:p=q
  ·subst h;rw [Ar j]at f;cases f;omega
  ·rw [yZ h]at f;have⟨v,a,b,c⟩:=g.Ko q y f m;exact ⟨v,a,b,λe h w=>c e h (o _ _ w)⟩
 ·constructor
  ·rintro ⟨q,y,f,i,n,r⟩;by_cases h:p=q
   ·subst h;rw [Ar j]at f;cases f;omega
   ·rw [yZ h]at f;refine ⟨λe=>?_,q,y,f,i,n,r⟩;exact h (g.yS C f hf i (u.trans (e.symm.trans n.symm)))
  ·rintro ⟨t,q,y,f,i,n,r⟩;have:p≠q:=λh=>by
    subst h;rw [C]at f;cases f;exact t (n.symm.trans u)
   exact ⟨q,y,by rw [yZ this];exact f,i,n,r⟩
theorem aoa {t:Tb V}{m:Bs->Option V}{a:List (gy V)} (d:t.Is m) (h:∀ b c,oC a b c↔b≠k/\oC t.bG b c) (n g:Nat):(⟨a,n,g⟩:Tb V).Is (qo m k):=λb c=>by
 rw [show (⟨a,n,g⟩:Tb V).bG=a from rfl,h];unfold qo;split
 ·rename_i e;exact ⟨λq=>absurd e q.1,λq=>by cases q⟩
 ·rename_i e;rw [d];exact ⟨λq=>q.2,λq=>⟨e,q⟩⟩
theorem alL {t:Tb V} (h:t.Ok) (he:rO t.bG k d) (hx:t.bG[pos k t.bG.length d]?=some x) (hf:x.st=1) (hz:z.st=2) (hzk:z.key.length=32) :
  0<t.n/\(⟨t.bG.set (pos k t.bG.length d) z,t.n-1,t.gB+1⟩:Tb V).Ok:=by
 have h1:=BQ (λx=>x.st==1) t.bG _ x z hx;have h2:=BQ (λx=>x.st != 0) t.bG _ x z hx;have hn:0<oW t.bG:=by
  unfold oW;exact List.countP_pos_iff.2 ⟨x,abH hx,by simp [hf]⟩
 have hn2:=h.n;refine ⟨by omega,(aaq h.dW he hx hf hz hzk).1,?_,?_,?_,?_⟩
 ·unfold oW at *;simp [hf,hz]at h1 ⊢;omega
 ·have:=h.gB;unfold cO at *;simp [hf,hz]at h2 ⊢;omega
 ·have:=h.load;simp only [akW];omega
 ·have:=h.size;simp only [akW];omega
theorem Bd.JY {t:Tb V}{s':List (gy V)} (h:Bd t s' t.n):(⟨s',t.n,0⟩:Tb V).Ok:=
 ⟨h.dW,h.nf.symm,by rw [h.nu];rfl,by have:=h.lo;simp only;omega,by have:=h.hi;simp only;omega⟩
end
end Go.aY
namespace Go.Proofs.Y
open Go.aG
abbrev gJ (L:aB.aS) (M:aG):aJ.qB:=λn=>L.bytes M n
section
variable {L:aB.aS}
theorem ahy (hL:L.Ok) (hM:M.Ok K) (hH:Ro w0 F iO) (h:au w0 w (aK 3 1 sv (dJ L.aX)::bC p m L::aV m M::F)) :
  Calls prog 149 #[aW p,sv] w (bf λv w'=>v=.tuple #[.int .i64 (aJ.split (gJ L M) L.aX L.aX.length).1,dS (aJ.split (gJ L M) L.aX L.aX.length).2] /\
   au w0 w' (aK 3 1 sv (dJ L.aX)::bC p m L::aV m M::F)):=by
 have HL:=uQ hL;have HM:=uQ hM;have HH:=uQ hH;have d:=uQ (show L.aX.length<=1073741824 from by unfold aB.aS.aX;rw [abl];have:=hL.len;omega);obtain ⟨sa,sc,rfl⟩:∃ a c,sv=.slice a L.aX.length c:=by
  obtain ⟨a,n,c,rfl,hl,_⟩:=au.rd h;refine ⟨a,c,?_⟩;rw [show (dJ L.aX).length=L.aX.length from abl ..,aiR]at hl;rw [hl]
 have w1:IntKind.i64.wrap ((L.aX.length:Int)-1)=(L.aX.length:Int)-1:=abR _ (by have:=d.o;omega);clear hL hM hH;go_enter func149,ntmps149;go_wp2_with fail
 go_loopg [6] L.aX.length (λg iq wr=>∃ k:Nat,g=0+k/\k<=L.aX.length/\iq=.int .i64 ((k:Int)-1)/\aJ.split (gJ L M) L.aX L.aX.length=aJ.split (gJ L M) L.aX k /\
  au w0 wr (aK 3 1 (.slice sa L.aX.length sc) (dJ L.aX)::bC p m L::aV m M::F))
 case atStart=>exact ⟨L.aX.length,(aiO _).symm,abG _,rfl,rfl,h⟩
 case round=>
  obtain ⟨k,rfl,hk,rfl,D,E⟩:=hrel;clear h;cases k with
  |zero=>
   have c1:¬ (((0:Nat):Int)-1)>=0:=aU;have He:=uQ D;clear D;go_wp2_with fail
   go_ret2
   rw [He.o];exact ⟨_,rfl,rfl,E⟩
  |succ k=>
   have e1:((k+1:Nat):Int)-1=(k:Int):=oQ;rw [e1];have c1:(k:Int)>=0:=oQ;have c2:(k:Int)<(L.aX.length:Int):=oQ;have w2:IntKind.i64.wrap ((k:Int)-1)=(k:Int)-1:=abR _ (by have:=d.o;omega);have w3:IntKind.i64.wrap ((k:Int)+1)=((k+1:Nat):Int):=by rw [abR _ (by have:=d.o;omega)];omega
   obtain ⟨s,hs⟩:∃ s,L.aX[k]?=some s:=⟨_,aaf oQ⟩;have B:L.aX.getD k 0=s:=by rw [List.getD,hs];rfl
   have Hu:=uQ (show aJ.split (gJ L M) L.aX (k+1)=if (L.bytes M s).2≠0 then (0,(L.bytes M s).2) else if (ay.eF (L.bytes M s).1).2.2=0/\aJ.C9 (ay.eF (L.bytes M s).1).1=true then (k+1,0) else aJ.split (gJ L M) L.aX k by
    rw [aJ.split,B])
   obtain ⟨bk,off,cc,hsv,e⟩:=lV (k:=1) (l:=L.aX) (λu _=>rfl) (by have:=au.rd E;rw [show dJ L.aX=L.aX.flatMap λi=>[Value.int .i64 i] from by unfold dJ;exact List.map_eq_flatMap]at this;exact this) hs aU;cases hsv;have f0:=e 0 _ rfl;rw [aiR,aoe]at f0;have He:=uQ D;have hb:=Og HL.o HM.o s (E.sb:au w0 wr (bC p m L::aV m M::aK 3 1 (.slice (some ⟨bk,off,none⟩) L.aX.length sc) (dJ L.aX)::F));have hk':=uQ hk;clear e hs B D E hk;go_wp2_with fail;refine hb.mono ?_;rintro ee w3 ⟨v,rfl,bv,rfl,j⟩;clear hb;obtain ⟨t,ca,cc,rfl⟩:=RU j;by_cases x:(L.bytes M s).2=0;rotate_left
   ·have hb:((L.bytes M s).2 != 0)=true:=by rw [ajo];exact x
    have Hf:=uQ (show aJ.split (gJ L M) L.aX (k+1)=(0,(L.bytes M s).2) by rw [Hu.o,abL x]);clear x;go_wp2_with fail
    go_ret2
    rw [He.o,Hf.o];exact ⟨_,rfl,rfl,j.sb⟩
   have hb:((L.bytes M s).2 != 0)=false:=by rw [x];rfl
   have H0:=uQ x;rw [x];clear x;have y:=aB.Gn (L:=L) HM.o s;have C:=TA (w0:=w0) (w:=w3) (L.bytes M s).1 (Ro.cZ _ _) t (Ro.os HH.o) (abQ y aU) j;have vw:=uQ y;clear t y;go_wp2_with fail;refine C.mono ?_;rintro ee w4 ⟨v,rfl,fs,fv,o,r,rfl,f⟩;clear C j;obtain ⟨fa,fc,rfl⟩:=Ny r f;have hS5:au w0 w4 (aK 3 1 (.slice (some ⟨bk,off,none⟩) L.aX.length sc) (dJ L.aX)::bC p m L::aV m M::F):=f.sb;by_cases z:(ay.eF (L.bytes M s).1).2.2=0;rotate_left
   ·have hb1:((ay.eF (L.bytes M s).1).2.2==0)=false:=by rw [acj];exact z
    have Hf:=uQ (show aJ.split (gJ L M) L.aX (k+1)=aJ.split (gJ L M) L.aX k by rw [Hu.o,abB (λh=>h H0.o),abB (λh=>z h.1)]);clear z f o r;exact afs
   have hb1:((ay.eF (L.bytes M s).1).2.2==0)=true:=alj.2 z
   have b:=al7 (w:=w4) fs r (by
    have:=ay.ahi (L.bytes M s).1;rw [<-o,abl]at this;have:=vw.o;omega) (au.rd f)
   rw [o]at b;clear f o r;by_cases A:aJ.C9 (ay.eF (L.bytes M s).1).1=true
   ·have Hf:=uQ (show aJ.split (gJ L M) L.aX (k+1)=(k+1,0) by rw [Hu.o,abB (λh=>h H0.o),abL ⟨z,A⟩]);rw [A]at b;clear z A;go_wp2_with fail;refine b.mono ?_;rintro ee w5 ⟨v,rfl,rfl,rfl⟩;clear b;go_wp2_with fail
    go_ret2
    rw [He.o,Hf.o];exact ⟨_,rfl,rfl,hS5⟩
   ·have Hf:=uQ (show aJ.split (gJ L M) L.aX (k+1)=aJ.split (gJ L M) L.aX k by rw [Hu.o,abB (λh=>h H0.o),abB (λh=>A h.2)]);rw [Bool.not_eq_true]at A;rw [A]at b;clear z A;go_wp2_with fail;refine b.mono ?_;rintro ee w5 ⟨v,rfl,rfl,rfl⟩;clear b;exact afs
end
section
variable {t:TypeId}
theorem Il {L R:List aO}{b:Nat}{T:TypeId}{cs:Array Value}{c:Func}{p:Tmp}{tmps:Array Value}{d:TypeDesc} (hf:c.results=#[.cell p ty]) (f:au w0 w L) (g:tmps.getD p undef=.pointer (some ⟨b,0,none⟩)) (k:mW (pt b (.cells cs T (0,0))) L R)
  (h:P.underlying ty=some d) (hd:d.isRow=true) (hi:(P.info? ty).map (·.size)=some cs.size):(results c tmps).run P w=.ok (.agg cs) w:=by
 have i:=run_loadVar_row (P:=P) w b T ty cs (0,0) d (f.pick k).at h zM0 hi;have e:(results c tmps).run P w=((asAddr (tmps.getD p undef)).run P w).andThen λa j=>(loadVar ty a).run P j:=by
  simp only [results,hf];simp [aii,Result.andThen]
 rw [e,g];simp [asAddr,i,Result.andThen]
end
section
variable {L:aB.aS}
theorem adx(h:A:=by
 obtain ⟨bk,off,cc,hsv,hcell⟩:=lV (f:=λi:Int=>[Value.int .i64 i]) (k:=1) (l:=l) (λu _=>rfl) yM0 hs aU;have f0:=hcell 0 _ rfl;rw [aiR,aoe]at f0;exact ⟨bk,off,cc,hsv,f0⟩):A:=h
theorem GZ {sv:Value}{l:List Int}{i:Nat}{s:Int} (h:bK 1 sv (dJ l) w) (hs:l[i]?=some s):∃ bk off c,sv=.slice (some ⟨bk,off,none⟩) l.length c/\w.cell? ⟨bk,off+i,none⟩=some (.int .i64 s):=adx
theorem Ue {sv:Value}{l:List Int} (h:bK 1 sv (dJ l) w):∃ a c,sv=.slice a l.length c:=by
 obtain ⟨a,n,c,rfl,hl,_⟩:=h;refine ⟨a,c,?_⟩;rw [show (dJ l).length=l.length from abl ..,aiR]at hl;rw [hl]
theorem ac3 (hL:L.Ok) (hM:M.Ok K) (hH:Ro w0 F iO) (h:au w0 w (bC p m L::aV m M::F)) :
  Calls prog 120 #[aW p] w (bf λv w'=>v=.tuple #[.int .i64 (aJ.xG (gJ L M) L.aX).1,dS (aJ.xG (gJ L M) L.aX).2]/\au w0 w' (bC p m L::aV m M::F)):=by
 have e:=uQ (show L.aX.length<=1073741824 from by unfold aB.aS.aX;rw [abl];have:=hL.len;omega);have f:=ER hL h;have y:=uQ hL;have z:=uQ hM;have A:=uQ hH;clear hL hM hH h;go_enter func120,ntmps120;go_wp2_with fail;refine f.mono ?_;rintro B C ⟨v,rfl,u⟩;clear f;have g:=ahy y.o z.o A.o u;go_wp2_with fail;refine g.mono ?_;rintro B D ⟨G,rfl,rfl,d⟩;clear g u;have o:=uQ (aJ.WW (gJ L M) L.aX L.aX.length);have HS:=uQ (d.sb:au w0 D (bC p m L::aV m M::F));have a:=au.rd d;clear d;by_cases b:(aJ.split (gJ L M) L.aX L.aX.length).2=0
 ·have E:((aJ.split (gJ L M) L.aX L.aX.length).2 != 0)=false:=by rw [b];rfl
  by_cases i:(aJ.split (gJ L M) L.aX L.aX.length).1=0
  ·have Hf:=uQ (show aJ.xG (gJ L M) L.aX=(-1,0) by unfold aJ.xG;rw [abB (λh=>h b),abL i]);have r:(((aJ.split (gJ L M) L.aX L.aX.length).1:Int)==0)=true:=by rw [i];rfl
   clear a b i;exact Vy
  ·have Hf:=uQ (show aJ.xG (gJ L M) L.aX=(L.aX.getD ((aJ.split (gJ L M) L.aX L.aX.length).1-1) 0,0) by unfold aJ.xG;rw [abB (λh=>h b),abB i]);have t:=o.o;generalize (aJ.split (gJ L M) L.aX L.aX.length).1=n at *
   have r:((n:Int)==0)=false:=by rw [acj];omega
   have C:IntKind.i64.wrap (n-1)=((n-1:Nat):Int):=by rw [abR _ (by have:=e.o;omega)];omega
   have l:n-1<L.aX.length:=oQ;have x:L.aX[n-1]?=some (L.aX.getD (n-1) 0):=by rw [List.getD,aaf l];rfl
   generalize L.aX.getD (n-1) 0=s at *
   generalize n-1=j at *
   obtain ⟨H,off,c,rfl,I⟩:=GZ a x;have J:(0:Int)<=j:=oQ;have N:j<(L.aX.length:Int):=oQ;clear a b i x l t;exact Vy
 ·have E:((aJ.split (gJ L M) L.aX L.aX.length).2 != 0)=true:=by rw [ajo];exact b
  have Hf:=uQ (show aJ.xG (gJ L M) L.aX=(0,(aJ.split (gJ L M) L.aX L.aX.length).2) by unfold aJ.xG;rw [abL b]);clear a b;exact Vy
end
section
variable {t:TypeId}{pos:String}{x:Operand}
theorem KT (h1:a.eval x=v1) (h2:a.eval y=v2) (hr:∀ w,(Instr.build ty #[(i1,v1),(i2,v2)]).run P w=.ok v w) (h:wpList P ops Q rest (a.put dst v) w) :
  wpList P ops Q (⟨dst,.build ty #[(i1,x),(i2,y)],t,pos,after,none⟩::rest) a w:=
 ajs rfl λ_ hK=>by
  unfold Oper.wp execOp;simp only [akg,aij,ajz,h1,h2,aii,hr,acz,aiV];exact hK _ _ h
theorem XU (hr:∀ w,(Instr.build ty #[]).run P w=.ok v w) (h:wpList P ops Q rest (a.put dst v) w):wpList P ops Q (⟨dst,.build ty #[],t,pos,after,none⟩::rest) a w:=
 ajs rfl λ_ hK=>by
  unfold Oper.wp execOp;simp only [akg,ajz,aii,hr,acz,aiV];exact hK _ _ h
theorem Dy {L R:List aO}{b:Nat}{T:TypeId}{cs:Array Value}{fn:Func}{t p u:Tmp}{tmps:Array Value}{d:TypeDesc} (hf:fn.results=#[.tmp t,.cell p ty,.tmp u]) (hs:au w0 w L) (hp:tmps.getD p undef=.pointer (some ⟨b,0,none⟩)) (k:mW (pt b (.cells cs T (0,0))) L R)
  (hu:P.underlying ty=some d) (hd:d.isRow=true) (hi:(P.info? ty).map (·.size)=some cs.size):(results fn tmps).run P w=.ok (.tuple #[tmps.getD t undef,.agg cs,tmps.getD u undef]) w:=by
 have hl:=run_loadVar_row (P:=P) w b T ty cs (0,0) d (hs.pick k).at hu zM0 hi;have e:(results fn tmps).run P w=((asAddr (tmps.getD p undef)).run P w).andThen λa w₁=>((loadVar ty a).run P w₁).andThen λv w₂=> .ok (.tuple #[tmps.getD t undef,v,tmps.getD u undef]) w₂:=by
  simp only [results,hf];simp [aii,Result.andThen]
 rw [e,hp];simp [asAddr,hl,Result.andThen]
theorem Jb (h:lQ (wpList P ops Q (⟨dst,.build ty #[(i1,x),(i2,y)],t,pos,after,none⟩::rest) a w)):wpList P ops Q (⟨dst,.build ty #[(i1,x),(i2,y)],t,pos,after,none⟩::rest) a w:=h.o
theorem RH (h:lQ (wpList P ops Q (⟨dst,.build ty #[],t,pos,after,none⟩::rest) a w)):wpList P ops Q (⟨dst,.build ty #[],t,pos,after,none⟩::rest) a w:=h.o
end
theorem U6:yA prog 36=some [(0,1),(1,1),(2,1),(3,32),(35,1)]:=aC
theorem PS (x y:Int) (w:World):(Instr.build 36 #[(0,.int .i64 x),(1,.int .i64 y)]).run prog w=.ok (.agg (iF ⟨x,y,0⟩)) w:=by
 have h:=uU [(0,.int .i64 x),(1,.int .i64 y)] U6 uZ (by
  intro p a;have b:(Value.agg (iF aJ.gI.zero)).cells.size=36:=by rfl
  rw [b];rcases ab9.1 a with rfl|a
  ·exact ⟨0,rfl,by show 0+1<=36;omega⟩
  ·rw [acS.1 a];exact ⟨1,rfl,by show 1+1<=36;omega⟩) w
 exact h
theorem ag4 (x y z:Int) (w:World):(Instr.build 36 #[(0,.int .i64 x),(1,.int .i64 y),(2,.int .i64 z)]).run prog w=.ok (.agg (iF ⟨x,y,z⟩)) w:=by
 have h:=uU [(0,.int .i64 x),(1,.int .i64 y),(2,.int .i64 z)] U6 uZ (by
  intro p a;have b:(Value.agg (iF aJ.gI.zero)).cells.size=36:=by rfl
  rw [b];rcases ab9.1 a with rfl|a
  ·exact ⟨0,rfl,by show 0+1<=36;omega⟩
  rcases ab9.1 a with rfl|a
  ·exact ⟨1,rfl,by show 1+1<=36;omega⟩
  ·rw [acS.1 a];exact ⟨2,rfl,by show 2+1<=36;omega⟩) w
 exact h
theorem PO (w:World):(Instr.build 36 #[]).run prog w=.ok (.agg (iF aJ.gI.zero)) w:=uU [] U6 uZ yD0 w
theorem amj (s:Int) (aP:Nat) (h:au w0 w F):Calls prog 151 #[.int .i64 s,.int .i64 aP] w (bf λv w'=>v=.agg (iF (aJ.zV s aP))/\au w0 w' F):=by
 by_cases a:aP=0
 ·have d:(aP==0)=true:=by rw [a];rfl
  have e:=uQ (show aJ.zV s aP=⟨1,s,0⟩ from abL a)
  go_in
  go_wp2_with (apply jd);refine ⟨iR uZ h rfl ?_⟩;intro g i b
  go_wp2_with (first
   |((refine Jb ⟨?_⟩);refine KT aA aA (λw=>PS 1 s w) ?_)
   |((refine eG ⟨?_⟩);refine jK (iF ⟨1,s,0⟩) b aA aA aA eu aC aA ?_;intro j h9))
  refine Pj ?_;exact ⟨_,rfl,by rw [e.o],h9.drop⟩
 ·have d:(aP==0)=false:=by rw [acj];omega
  have e:=uQ (show aJ.zV s aP=⟨2,s,aP⟩ from abB a)
  go_in
  go_wp2_with (apply jd);refine ⟨iR uZ h rfl ?_⟩;intro g i b
  go_wp2_with (first
   |((refine MG ⟨?_⟩);refine Qp aA aA aA (λw=>ag4 2 s aP w) ?_)
   |((refine eG ⟨?_⟩);refine jK (iF ⟨2,s,aP⟩) b aA aA aA eu aC aA ?_;intro j h9))
  refine Pj ?_;exact ⟨_,rfl,by rw [e.o],h9.drop⟩
section
variable {K:Act->World->Prop}{t:TypeId}{pos:String}
theorem SG (hs:au w0 w L) (hy:a.eval y=v) (c:v.cells=cs)
  (d:∀ b w',au w0 w' (pt b (.cells cs ty (0,0))::L)->K (a.put dst (.pointer (some ⟨b,0,none⟩))) w') :
  if Region.wanted ⟨dst,.box ty y,t,pos,after,none⟩ (yielded ops a.tmps)=true then Oper.wp P ⟨dst,.box ty y,t,pos,after,none⟩ a w K Q else E:=by
 subst c;refine Ey rfl ?_;refine ae1 ?_;intro hS hrun;exact d _ _ hS
end
theorem aum {l:List Int}{n:Nat} (hn:n<=l.length) (h:au w0 w (aK 3 1 sv (dJ l)::R)) :
  ∃ tv,(∀ w,(Instr.sliceAt 46 sv (some (.int .i64 n)) none none).run prog w=.ok tv w)/\(∃ a' c',tv=.slice a' (l.length-n) c')/\∀ W,bK 1 sv (dJ l) W->bK 1 tv (dJ (l.drop n)) W:=by
 rcases h.nV with ⟨rfl,i,z⟩|⟨g,k,cap,A,rfl,r,B,C,s,t,D⟩
 ·obtain rfl:l=[]:=by simpa [dJ] using i
  obtain rfl:n=0:=by simpa using hn
  refine ⟨.slice none 0 0,λw=>by go_simp,⟨none,0,rfl⟩,λW f=>by simpa using f⟩
 ·obtain rfl:k=l.length:=by simpa [dJ] using r.symm
  by_cases m:cap=n
  ·have hd:l.drop n=[]:=List.drop_eq_nil_of_le oQ;have u:l.length-n=0:=oQ;rw [hd,u];refine ⟨.slice (some ⟨g,0,none⟩) 0 0,λw=>?_,⟨_,_,rfl⟩,λW f=>⟨_,_,_,rfl,rfl,λj x b=>by cases b⟩⟩;subst m;go_simp
  ·refine ⟨.slice (some ⟨g,n,none⟩) (l.length-n) (cap-n),λw=>?_,⟨_,_,rfl⟩,λW f=>?_⟩
   ·exact af5
   ·obtain ⟨a,G,c,i,v,y⟩:=f;cases i;refine ⟨_,_,_,rfl,by unfold dJ;rw [abl,abJ,aiR],λj x b=>⟨_,rfl,?_⟩⟩;have o:(dJ l)[n+j]?=some x:=by
     unfold dJ at b ⊢;rw [List.map_drop,anv]at b;exact b
    obtain ⟨H,e,d⟩:=y (n+j) x o;cases e;rw [Ei,aiO]at d;rw [Ei];exact d
theorem ano {l:List Int}{n:Nat} (hn:n<=l.length) (h:au w0 w (aK 3 1 sv (dJ l)::R)) :
  ∃ a' c',(∀ w,(Instr.sliceAt 46 sv none (some (.int .i64 n)) none).run prog w=.ok (.slice a' n c') w)/\∀ W,bK 1 sv (dJ l) W->bK 1 (.slice a' n c') (dJ (l.take n)) W:=by
 rcases h.nV with ⟨rfl,d,s⟩|⟨g,k,cap,t,rfl,f,u,v,i,m,y⟩
 ·obtain rfl:l=[]:=by simpa [dJ] using d
  obtain rfl:n=0:=by simpa using hn
  refine ⟨none,0,λw=>by go_simp,λW e=>by simpa using e⟩
 ·obtain rfl:k=l.length:=by simpa [dJ] using f.symm
  refine ⟨some ⟨g,0,none⟩,cap,λw=>?_,λW e=>?_⟩
  ·exact af5
  ·obtain ⟨a,z,c,d,o,r⟩:=e;cases d;refine ⟨_,_,_,rfl,by unfold dJ;rw [abl,abA,aiR];omega,λj x b=>?_⟩;refine r j x ?_;unfold dJ at b ⊢;rw [avZ,ak7]at b;split at b
   ·exact b
   ·cases b
theorem jV.aoS {p B:Nat}{m:ay.Bs->Option aJ.iH} (h:au w0 w (jV p m B::R)):∃ kv,aY.kE m kv/\(∀ q∈kv,q.1.length=32)/\kv.length<=B:=by
 obtain ⟨t,j,⟨ok,is,u⟩,v⟩:=jV.open h;have g:=List.mergeSort_perm (t.bG.filter λx=>decide (x.st=1)) (λa b:aY.gy aJ.iH=>decide (¬ b.key<a.key))
 have l:=List.pairwise_mergeSort (le:=λa b:aY.gy aJ.iH=>decide (¬ b.key<a.key)) (λa b c f d=>by
   rw [ad2]at f d ⊢;intro i;rcases aY.Jd a.key b.key with q|q|q
   ·exact d (awl i q)
   ·exact d (q ▸ i)
   ·exact f q) (λa b=>by
   rw [Bool.or_eq_true,ad2,ad2];by_cases q:b.key<a.key
   ·exact .inr λo=>avR _ (awl q o)
   ·exact .inl q) (t.bG.filter λx=>decide (x.st=1))
 obtain ⟨f,d⟩:=aY.adp ok.dW is g (l.imp λ{a b} q=>by rwa [ad2]at q);refine ⟨_,f,λq r=>?_,?_⟩
 ·obtain ⟨x,s,rfl⟩:=abI.1 r;exact (d x s).2
 ·rw [abl,g.length_eq,<-List.countP_eq_length_filter];have e:t.bG.countP (λx=>decide (x.st=1))=aY.oW t.bG:=by
   unfold aY.oW;refine List.countP_congr λx _=>?_;simp
  have:=ok.n;omega
def Bg (w0:World) (F:List aO) (bt:aJ.qB) (ns:List Int) (p m:Nat) (L:aB.aS) (M:aG) (v:Value) (w':World):Prop:=
 match aJ.run bt ns with
 |.inl (fl,e)=>v=.tuple #[.pointer none,.agg (iF fl),dS e]/\au w0 w' (bC p m L::aV m M::F)
 |.inr n=>∃ (ps pi:Nat) (uv tv av:Value) (kv:List (ay.Bs×aJ.iH)),v=.tuple #[aW ps,.agg (iF aJ.gI.zero),dS 0] /\
   (aY.kE (aJ.lC (aJ.jP bt (ns.take n))) kv/\(∀ q∈kv,q.1.length=32)/\kv.length<=(aJ.jP bt (ns.take n)).length) /\
   ((∃ a' c',tv=.slice a' (ns.length-n) c')/\∀ W,bK 1 av (dJ ns) W->bK 1 tv (dJ (ns.drop n)) W) /\
   au w0 w' (fB ps (aJ.wI (ns.take n)) pi uv tv::bF pi (aY.jE (aJ.jH kv)) kv.length::aK 205 3 uv (((aJ.tK bt (ns.take n)).map (aJ.pI kv)).flatMap dO)::aK 3 1 av (dJ ns)::bC p m L::aV m M::F)
section
variable {L:aB.aS}
theorem avu:nR prog 256=some (.agg #[.pointer none]):=aC
theorem Wv (hL:L.Ok) (hM:M.Ok K) (hH:Ro w0 F iO) (hrows:(aJ.jP (gJ L M) L.aX).length<=12000000) (hsz:∀ r∈aJ.jP (gJ L M) L.aX,(r.2.size:Int)<=4294967296) (h:au w0 w (bC p m L::aV m M::F)) :
  Calls prog 102 #[aW p] w (bf λv w'=>Bg w0 F (gJ L M) L.aX p m L M v w'):=by
 have Hlen:=uQ (show L.aX.length<=1048576 from by unfold aB.aS.aX;rw [abl];have:=hL.len;omega);have hse:=ER hL h
 have QZ:=uQ (show ∀ s∈L.aX,0<=s from λs hs=>by
  unfold aB.aS.aX at hs;obtain ⟨x,hx,rfl⟩:=abI.1 hs;exact (hL.eU x hx).1)
 have HL:=uQ hL;have HM:=uQ hM;have HH:=uQ hH;have Q9:=uQ hrows;have sV:=uQ hsz;clear hL hM hH hrows hsz;go_enter func102,ntmps102;go_wp2_with (with_reducible apply jd);refine ⟨iR uZ h rfl ?_⟩;intro b3 w3 h3;clear hse h;go_wp2_with fail;refine (ER HL.o (h3.pick bZ)).mono ?_;rintro ee w4 ⟨sv,rfl,h4⟩;have hsp:=ahy HL.o HM.o (Ro.os HH.o) (h4.sb:au w0 w4 (aK 3 1 sv (dJ L.aX)::bC p m L::aV m M::pt b3 (.cells (iF aJ.gI.zero) 36 (0,0))::F));clear h3 h4;go_wp2_with fail;refine hsp.mono ?_;rintro ee w5 ⟨v,rfl,rfl,h5⟩;clear hsp;by_cases h0:(aJ.split (gJ L M) L.aX L.aX.length).2=0;rotate_left
 ·have hb:((aJ.split (gJ L M) L.aX L.aX.length).2 != 0)=true:=by rw [ajo];exact h0
  have Hf:=uQ (show aJ.run (gJ L M) L.aX=.inl (aJ.gI.zero,(aJ.split (gJ L M) L.aX L.aX.length).2) by unfold aJ.run;rw [abL h0]);have h6:au w0 w5 (pt b3 (.cells (iF aJ.gI.zero) 36 (0,0))::bC p m L::aV m M::F):=h5.sb;clear h0 h5
  go_wp2_with (first
   |((with_reducible refine RH ⟨?_⟩);refine XU (λw=>PO w) ?_)
   |((with_reducible refine eG ⟨?_⟩);refine jK (iF aJ.gI.zero) h6 aA aA aA eu aC aA ?_;intro w9 h9))
  refine ⟨rfl,_,Dy rfl h9 aA dh underlying36 rfl aC,_,rfl,?_⟩;unfold Bg;rw [Hf.o];exact ⟨rfl,h9.drop⟩
 have hb:((aJ.split (gJ L M) L.aX L.aX.length).2 != 0)=false:=by rw [h0];rfl
 have Eb:=uQ (aJ.WW (gJ L M) L.aX L.aX.length);have Hf:=uQ (show aJ.run (gJ L M) L.aX=aJ.Ip (gJ L M) L.aX (aJ.split (gJ L M) L.aX L.aX.length).1 by unfold aJ.run;rw [abB (λh=>h h0)]);rw [h0];generalize (aJ.split (gJ L M) L.aX L.aX.length).1=n at *
 clear h0;obtain ⟨tv,htl,⟨ta,tc,rfl⟩,htr⟩:=aum Eb.o h5;have Htr:=uQ htr;clear htr;go_wp2_with fail;have hG:True:=trivial;have h6:=h5.drew;clear h5;refine gK [] (λw'=>True) aC ?_;refine rP 1 ?_ (y:=bV);refine rP 2 ?_ (y:=bV);refine rP 3 ?_ (y:=(aiF aF aF htl));refine dZ 0 aF aC (λK hK=>?_);refine Gu [] aC yD0 ?_;refine (adS h6).mono ?_;rintro ee w7 ⟨v,rfl,pi,rfl,h7⟩;refine hK _ _ (.inr (.inl trivial)) ?_;clear hK h6;refine rp 4 (hy:=yF0) (h:=?_);refine dZ 5 aF aC (λK hK=>?_);refine SG h7 aF aF ?_;intro ps w8 h8;refine hK _ _ (.inr (.inl trivial)) ?_;clear hK h7;refine rP 6 ?_ (y:=kR);refine fK aC ?_;clear hG;go_wp2_with fail;refine (apt h8).mono ?_;rintro ee w9 ⟨v,rfl,pg,rfl,h9⟩;clear h8;go_wp2_with (with_reducible apply jd);refine ⟨iR avu h9 rfl ?_⟩;intro b9 w10 h10;clear h9;obtain ⟨ha,hc,hhl,hhr⟩:=ano Eb.o (h10.sb:au w0 w10 (aK 3 1 sv (dJ L.aX)::F))
 go_wp2_with ((with_reducible refine eG ⟨?_⟩);refine jI h10 aA aF aA eu dG aC aA ?_;intro sH h11)
 have h12:au w0 sH (fB ps (aJ.wI (L.aX.take 0)) pi (.slice none 0 0) (.slice ta (L.aX.length-n) tc)::aK 205 3 (.slice none 0 0) ((aJ.tK (gJ L M) (L.aX.take 0)).flatMap dO)::bF pi (λ_=>none) 0::pt b9 (.cells #[aW pg] 256 (0,0)) ::
  jV pg (aJ.lC (aJ.jP (gJ L M) (L.aX.take 0))) (aJ.jP (gJ L M) (L.aX.take 0)).length::pt b3 (.cells (iF aJ.gI.zero) 36 (0,0))::aK 3 1 sv (dJ L.aX)::bC p m L::aV m M::F):=(au.iW.2 h11).sb
 clear h10 h11 htl
 go_loopg [45] n (λg iq wr=>∃ (i:Nat) (uv:Value),g=n-i/\i<=n/\iq=.int .i64 i/\aJ.qm (gJ L M) (L.aX.take i)=none/\au w0 wr (fB ps (aJ.wI (L.aX.take i)) pi uv (.slice ta (L.aX.length-n) tc)::aK 205 3 uv ((aJ.tK (gJ L M) (L.aX.take i)).flatMap dO)::bF pi (λ_=>none) 0::pt b9 (.cells #[aW pg] 256 (0,0)) ::
  jV pg (aJ.lC (aJ.jP (gJ L M) (L.aX.take i))) (aJ.jP (gJ L M) (L.aX.take i)).length::pt b3 (.cells (iF aJ.gI.zero) 36 (0,0))::aK 3 1 sv (dJ L.aX)::bC p m L::aV m M::F))
 case atStart=>exact ⟨0,.slice none 0 0,rfl,acn _,rfl,rfl,h12⟩
 case round=>
  obtain ⟨i,uv,rfl,hi,rfl,hbad,hS⟩:=hrel;clear h12;have AP:=uQ hbad;clear hbad;by_cases hlt:i<n;rotate_left
  ·obtain rfl:i=n:=oQ;have c1:¬ (i:Int)<(i:Int):=oQ;obtain ⟨kv,k1,k2,k3⟩:=jV.aoS (hS.pk);have k4:=abQ (aJ.Wh (gJ L M) L.aX i) Q9.o;have hks:∀ q∈kv,q.1.length=32/\0<=q.2.jf.size/\q.2.jf.size<=4294967296:=λq hq=>by
    obtain ⟨r,hr,e⟩:=aJ.aoJ ((k1.mem q.1 q.2).1 hq);rw [e];exact ⟨k2 q hq,Int.natCast_nonneg _,sV.o r (aJ.arU _ _ _ r hr)⟩
   have hfl:=amo k1 oQ oQ hks (by unfold aJ.tK;rw [abl,abA];have:=Hlen.o;omega)
    (hS.sb:au w0 wr (fB ps (aJ.wI (L.aX.take i)) pi uv (.slice ta (L.aX.length-i) tc)::bF pi (λ_=>none) 0::jV pg (aJ.lC (aJ.jP (gJ L M) (L.aX.take i))) (aJ.jP (gJ L M) (L.aX.take i)).length ::
     aK 205 3 uv ((aJ.tK (gJ L M) (L.aX.take i)).flatMap dO)::pt b3 (.cells (iF aJ.gI.zero) 36 (0,0))::aK 3 1 sv (dJ L.aX)::bC p m L::aV m M::F))
   have K:=uQ (And.intro k1 (And.intro k2 k3));have Hg:=uQ (Hf.o.trans (aJ.agV AP.o));have Htv:=uQ Htr.o;clear k1 k2 k3 k4 hks hlt hi;go_wp2_with ((with_reducible refine dH ⟨?_⟩);refine kG hS aA (bW (bW (bW bJ))) underlying256 rfl aC ?_);refine hfl.mono ?_;rintro ee wW ⟨v,rfl,nJ⟩;clear hfl hS
   go_wp2_with (first
    |((with_reducible refine RH ⟨?_⟩);refine XU (λw=>PO w) ?_)
    |((with_reducible refine eG ⟨?_⟩);refine jK (iF aJ.gI.zero) nJ aA aA aA (pJ (pJ (pJ (pJ eu)))) aC aA ?_;intro Cc h15))
   refine ⟨rfl,_,Dy rfl h15 aA (bW (bW (bW (bW bJ)))) underlying36 rfl aC,_,rfl,?_⟩;unfold Bg;rw [Hg.o];exact ⟨ps,pi,uv,.slice ta (L.aX.length-i) tc,sv,kv,rfl,K.o,⟨⟨ta,tc,rfl⟩,Htv.o⟩,h15.sb⟩
  have c1:(i:Int)<(n:Int):=oQ;have hwi:IntKind.i64.wrap ((i:Int)+1)=(i:Int)+1:=abR _ (by have:=Eb.o;have:=Hlen.o;omega);have hni:(L.aX.take n).length=n:=by rw [abA];have:=Eb.o;omega
  obtain ⟨s,hs⟩:∃ s,(L.aX.take n)[i]?=some s:=⟨_,aaf oQ⟩;have hs2:L.aX[i]?=some s:=by rw [ak7]at hs;rw [abL hlt]at hs;exact hs
  have jl:=uQ (show L.aX.take (i+1)=L.aX.take i++[s] by rw [ajf,hs2,akf])
  have LV:=uQ (show ∃ post,L.aX.take n=L.aX.take i++s::post by
   obtain ⟨h1,e⟩:=abM.1 hs;refine ⟨(L.aX.take n).drop (i+1),?_⟩;have e2:L.aX.take i=(L.aX.take n).take i:=by rw [awo,avG (Nat.le_of_lt hlt)]
   rw [e2,<-e,<-ajB h1,aja])
  have Hs0:=uQ (QZ.o s (abH hs2));obtain ⟨bk,off,c',hsv,f0⟩:=GZ (hhr _ (au.rd (hS.pk (A:=aK 3 1 sv (dJ L.aX))))) hs;rw [hni]at hsv;cases hsv
  have hb:=Og HL.o HM.o s (hS.sb:au w0 wr (bC p m L::aV m M::fB ps (aJ.wI (L.aX.take i)) pi uv (.slice ta (L.aX.length-n) tc)::aK 205 3 uv ((aJ.tK (gJ L M) (L.aX.take i)).flatMap dO)::bF pi (λ_=>none) 0::pt b9 (.cells #[aW pg] 256 (0,0)) ::
   jV pg (aJ.lC (aJ.jP (gJ L M) (L.aX.take i))) (aJ.jP (gJ L M) (L.aX.take i)).length::pt b3 (.cells (iF aJ.gI.zero) 36 (0,0))::aK 3 1 sv (dJ L.aX)::F))
  have dP:=uQ hlt;clear hS hs hs2 hni hlt hi;go_wp2_with fail;refine hb.mono ?_;rintro ee Az ⟨v,rfl,bv,rfl,h20⟩;clear hb f0;obtain ⟨hcap,ca,cc,rfl⟩:=RU h20;by_cases h0:(L.bytes M s).2=0;rotate_left
  ·have hb1:((L.bytes M s).2 != 0)=true:=by rw [ajo];exact h0
   have Hg:=uQ (show aJ.run (gJ L M) L.aX=.inl (aJ.gI.zero,(L.bytes M s).2) by
    rw [Hf.o];obtain ⟨post,e⟩:=LV.o;exact aJ.agU (by rw [e];exact aJ.akL AP.o h0))
   have h21:au w0 Az (pt b3 (.cells (iF aJ.gI.zero) 36 (0,0))::bC p m L::aV m M::F):=h20.sb;clear h20 h0 hcap
   go_wp2_with (first
    |((with_reducible refine RH ⟨?_⟩);refine XU (λw=>PO w) ?_)
    |((with_reducible refine eG ⟨?_⟩);refine jK (iF aJ.gI.zero) h21 aA aA aA eu aC aA ?_;intro Qo h22))
   refine ⟨rfl,_,Dy rfl h22 aA dh underlying36 rfl aC,_,rfl,?_⟩;unfold Bg;rw [Hg.o];exact ⟨rfl,h22.drop⟩
  have hb1:((L.bytes M s).2 != 0)=false:=by rw [h0];rfl
  have H0:=uQ h0;rw [h0];clear h0;have hbl:=aB.Gn (L:=L) HM.o s;have hsc:=TA (w0:=w0) (w:=Az) (L.bytes M s).1 (Ro.cZ _ _) hcap (Ro.os HH.o) (abQ hbl aU) h20;clear hcap;go_wp2_with fail;refine hsc.mono ?_;rintro ee DW ⟨v,rfl,fs,fv,hfs,hfk,rfl,h21⟩;clear hsc h20;obtain ⟨fa,fc,rfl⟩:=Ny hfk h21;by_cases h1:(ay.eF (L.bytes M s).1).2.2=0;rotate_left
  ·have hb2:((ay.eF (L.bytes M s).1).2.2 != 0)=true:=by rw [ajo];exact h1
   have Hg:=uQ (show aJ.run (gJ L M) L.aX=.inl (aJ.zV s (ay.eF (L.bytes M s).1).2.1,13) by
    rw [Hf.o];obtain ⟨post,e⟩:=LV.o;exact aJ.agU (by rw [e];exact aJ.akM AP.o H0.o h1))
   have h22:au w0 DW (pt b3 (.cells (iF aJ.gI.zero) 36 (0,0))::bC p m L::aV m M::F):=h21.sb;clear h21 h1 hfs hfk;go_wp2_with fail;refine (amj s (ay.eF (L.bytes M s).1).2.1 h22).mono ?_;rintro ee XL ⟨v,rfl,rfl,h23⟩;clear h22;go_wp2_with ((with_reducible refine eG ⟨?_⟩);refine jK (iF (aJ.zV s (ay.eF (L.bytes M s).1).2.1)) h23 aA aA aA eu aC aA ?_;intro w24 Dj);refine ⟨rfl,_,Dy rfl Dj aA dh underlying36 rfl aC,_,rfl,?_⟩;unfold Bg;rw [Hg.o];exact ⟨rfl,Dj.drop⟩
  have hb2:((ay.eF (L.bytes M s).1).2.2 != 0)=false:=by rw [h1];rfl
  have H1:=uQ h1;rw [h1];clear h1
  have h22:au w0 DW (jV pg (aJ.lC (aJ.jP (gJ L M) (L.aX.take i)++(fs.take 0).map λq=>(s,q.1))) ((aJ.jP (gJ L M) (L.aX.take i)).length+0)::fB ps (aJ.wI (L.aX.take i)) pi uv (.slice ta (L.aX.length-n) tc)::aK 205 3 uv ((aJ.tK (gJ L M) (L.aX.take i)).flatMap dO)::bF pi (λ_=>none) 0::pt b9 (.cells #[aW pg] 256 (0,0)) ::
   pt b3 (.cells (iF aJ.gI.zero) 36 (0,0))::aK 3 1 sv (dJ L.aX)::bC p m L::aV m M::aK 154 36 (.slice fa fs.length fc) (jw fs)::kT fs::F):=by
   have q:au w0 DW (jV pg (aJ.lC (aJ.jP (gJ L M) (L.aX.take i))) (aJ.jP (gJ L M) (L.aX.take i)).length::fB ps (aJ.wI (L.aX.take i)) pi uv (.slice ta (L.aX.length-n) tc)::aK 205 3 uv ((aJ.tK (gJ L M) (L.aX.take i)).flatMap dO)::bF pi (λ_=>none) 0::pt b9 (.cells #[aW pg] 256 (0,0)) ::
   pt b3 (.cells (iF aJ.gI.zero) 36 (0,0))::aK 3 1 sv (dJ L.aX)::bC p m L::aV m M::aK 154 36 (.slice fa fs.length fc) (jw fs)::kT fs::F):=h21.sb
   rw [ajN,ajz,ahB,aoe];exact q
  have aiZ:=uQ (show (aJ.jP (gJ L M) (L.aX.take i)).length+fs.length<=12000000 by
   have q1:=aJ.Wh (gJ L M) L.aX (i+1);rw [jl.o,aJ.agK,aay,abl,show (ay.eF (gJ L M s).1).1=fs.map (·.1) from hfs.symm,abl]at q1;exact abQ q1 Q9.o)
  have hfl:fs.length<=16777216:=by
   have:=ay.ahi (L.bytes M s).1;rw [<-hfs,abl]at this;omega
  have yE:=uQ hfl;have AU:=uQ hfs;have sK:=uQ hfk;clear h21 hbl hfs hfk;go_wp2_with fail
  go_loopg [72] fs.length (λg jq wr=>∃ j:Nat,g=fs.length-j/\j<=fs.length/\jq=.int .i64 j/\au w0 wr (jV pg (aJ.lC (aJ.jP (gJ L M) (L.aX.take i)++(fs.take j).map λq=>(s,q.1))) ((aJ.jP (gJ L M) (L.aX.take i)).length+j)::fB ps (aJ.wI (L.aX.take i)) pi uv (.slice ta (L.aX.length-n) tc)::aK 205 3 uv ((aJ.tK (gJ L M) (L.aX.take i)).flatMap dO)::bF pi (λ_=>none) 0::pt b9 (.cells #[aW pg] 256 (0,0)) ::
   pt b3 (.cells (iF aJ.gI.zero) 36 (0,0))::aK 3 1 sv (dJ L.aX)::bC p m L::aV m M::aK 154 36 (.slice fa fs.length fc) (jw fs)::kT fs::F))
  case atStart=>exact ⟨0,rfl,acn _,rfl,h22⟩
  case round=>
   obtain ⟨j,rfl,hj,rfl,hS⟩:=hrel;clear h22;by_cases hjl:j<fs.length;rotate_left
   ·obtain rfl:j=fs.length:=oQ;have d1:¬ (fs.length:Int)<(fs.length:Int):=oQ;rw [ai0]at hS;clear hjl hj;have xF:((aJ.tK (gJ L M) (L.aX.take i)).flatMap dO).length<=2147483648:=by
     rw [lK (k:=3) λu _=>rfl];unfold aJ.tK;rw [abl,abA];have:=Hlen.o;omega
    go_wp2_with (first
     |((with_reducible refine eG ⟨?_⟩);refine jI (cs':=#[.int .i64 s,aW pi,uv,.slice ta (L.aX.length-n) tc]) hS aA aF aA (pJ eu) dG aC aA ?_;intro w40 ND)
     |((with_reducible refine dH ⟨?_⟩);refine jC ND aA (bW bJ) dG aF aC ?_)
     |(with_reducible apply rV))
    refine ⟨rJ (e:=205) (sz:=3) (je:=24) aC ND aA (cs:=#[.int .i64 s,.int .i64 ((L.bytes M s).1.length:Nat),.int .i64 0]) rfl rfl aU ?_⟩;intro b41 w41 xC;go_wp2_with (with_reducible apply oK);refine ⟨sJ 205 3 24 aC xC aA aA (bW (bW (bW bJ))) bJ rfl (abG 1) aA xF (by show 3<=65536;decide) aU rfl ?_⟩;intro bA nA cA w42 h42;go_wp2_with ((with_reducible refine eG ⟨?_⟩);refine jI (cs':=#[.int .i64 s,aW pi,.slice (some ⟨bA,0,none⟩) nA cA,.slice ta (L.aX.length-n) tc]) h42 aA aF aA (pJ (pJ eu)) dG aC aA ?_;intro XO h43)
    have TG:au w0 XO (fB ps (aJ.wI (L.aX.take (i+1))) pi (.slice (some ⟨bA,0,none⟩) nA cA) (.slice ta (L.aX.length-n) tc)::aK 205 3 (.slice (some ⟨bA,0,none⟩) nA cA) ((aJ.tK (gJ L M) (L.aX.take (i+1))).flatMap dO)::bF pi (λ_=>none) 0::pt b9 (.cells #[aW pg] 256 (0,0)) ::
     jV pg (aJ.lC (aJ.jP (gJ L M) (L.aX.take (i+1)))) (aJ.jP (gJ L M) (L.aX.take (i+1))).length::pt b3 (.cells (iF aJ.gI.zero) 36 (0,0))::aK 3 1 sv (dJ L.aX)::bC p m L::aV m M::F):=by
     rw [jl.o,aJ.aoF,aJ.auM,aJ.agK,aay,abl,show (ay.eF (gJ L M s).1).1=fs.map (·.1) from AU.o.symm,abl,ajr,ai5];exact h43.sb
    clear ND xC h42 h43 hS
    go_roundg (n-(i+1))
    case measure=>have:=dP.o;omega
    case rel=>exact ⟨i+1,.slice (some ⟨bA,0,none⟩) nA cA,rfl,dP.o,by first|rfl|go_num,by rw [jl.o];exact aJ.akK AP.o H0.o H1.o,TG⟩
   have d1:(j:Int)<(fs.length:Int):=oQ;have EL:IntKind.i64.wrap ((j:Int)+1)=(j:Int)+1:=abR _ oQ;obtain ⟨⟨f,dv⟩,hq⟩:∃ q,fs[j]?=some q:=⟨_,aaf hjl⟩;have zZ:f.e.key.length=32:=sK.o _ (abH hq);obtain ⟨da,dn,dc,rfl,_,_⟩:=Eu hq wr (hS.pk (A:=kT fs));obtain ⟨bk2,off2,c2,e2,hcell⟩:=lV (f:=λq:ay.fO×Value=>qU q.1 q.2) (k:=36) (λq hq=>Bz q.1 q.2 (sK.o q hq)) (au.rd (hS.pk (A:=aK 154 36 (.slice fa fs.length fc) (jw fs)))) hq aU;cases e2;have anz:(qU f (.slice da dn dc)).length=36:=Bz _ _ zZ;have Htj:=uQ (show (fs.take (j+1)).map (λq=>(s,q.1))=(fs.take j).map (λq=>(s,q.1))++[(s,f)] by rw [ajf,hq,akf,acy];rfl);have yF:=uQ hjl;have LG:=uQ zZ;clear hq zZ hj
   go_wp2_with (first
    |((with_reducible refine dH ⟨?_⟩);refine kQ (b:=bk2) (o:=off2+j*36) (qU f (.slice da dn dc)) aA hcell underlying154 rfl (by rw [anz];kernel_rfl) ?_)
    |(with_reducible apply jd))
   refine ⟨iR Qw hS rfl ?_⟩;intro b17 Ce h30
   go_wp2_with (first
    |((with_reducible refine eG ⟨?_⟩);refine jK (nU f (.slice da dn dc)) h30 aA aA (by rw [xB _ _ LG.o];rfl) eu (by rw [xB _ _ LG.o];kernel_rfl) (Jm _ _ _ _) ?_;intro IQ h31)
    |((with_reducible refine dH ⟨?_⟩);refine kG (cs:=nU f (.slice da dn dc)) h31 aA bJ underlying154 rfl (by rw [xB _ _ LG.o];kernel_rfl) ?_)
    |((with_reducible refine dH ⟨?_⟩);refine kG (cs:=#[aW pg]) h31 aA (bW (bW (bW (bW (bW bJ))))) underlying256 rfl aC ?_))
   have hrl:=aJ.Wh (gJ L M) L.aX i;refine (aup (p:=pg) s f LG.o (by have:=Q9.o;have:=yE.o;have:=yF.o;have:=aiZ.o;omega) (h31.pick bZ)).mono ?_;rintro ee w32 ⟨v,rfl,h32⟩;clear h30 h31 hS hcell;have hnn:∀ x∈aJ.jP (gJ L M) (L.aX.take i)++(fs.take j).map (λq=>(s,q.1)),0<=x.1:=λx hx=>by
    rcases ahc.1 hx with hx|hx
    ·unfold aJ.jP at hx;obtain ⟨u,hu,hx⟩:=aob.1 hx;obtain ⟨g,_,rfl⟩:=abI.1 hx;exact QZ.o u (ajq hu)
    ·obtain ⟨g,_,rfl⟩:=abI.1 hx;exact Hs0.o
   rw [<-aJ.adb _ _ hnn,ab6,<-Htj.o]at h32;clear hnn;go_wp2_with fail
   go_roundg (fs.length-(j+1))
   case measure=>have:=yF.o;omega
   case rel=>exact ⟨j+1,rfl,yF.o,by first|rfl|go_num,h32.sb⟩
end
section
variable {m:ay.Bs->Option (aB.bT)}
theorem ady(h:A:=by
 have hr:=ah0 hB h;clear h;go_enter ah1,ah2;go_wp2_with fail;refine hr.mono ?_;rintro ee w1 ⟨sv,rfl,s,⟨hs1,hs2,hs3⟩,hS1⟩;clear hr;have Hs1:=uQ hs1;have rU:=uQ hs2;have zM:=uQ hs3
 have QS:=uQ (show ∀ q∈s.map λx=>(x.key,x.val),q.1.length=32 from λq hq=>by
  obtain ⟨x,hx,rfl⟩:=abI.1 hq;exact (hs2 x hx).2)
 have Hlen:=uQ (show ∀ x∈s,(bY DU x).length=DV from λx hx=>pG DU x (hs2 x hx).2 KQ (ah3 _));obtain ⟨la,lc,rfl⟩:=l9 Hlen.o (au.rd hS1) aU;have hsb:s.length<=13000000:=abQ hs3 hB;have hS2:au w0 w1 (aK 34 32 (.slice none 0 0) (((s.take 0).map λx=>(x.key,x.val)).flatMap λq=>aI q.1)::aK IK DV (.slice la s.length lc) (s.flatMap (bY DU))::XI p m B::F):=au.iW.2 hS1;clear hs1 hs2 hs3 hB hS1;go_wp2_with fail
 go_loopg [3,9] s.length (λg oq iq wr=>∃ (i:Nat),g=s.length-i/\i<=s.length/\iq=.int .i64 i /\
  au w0 wr (aK 34 32 oq (((s.take i).map λx=>(x.key,x.val)).flatMap λq=>aI q.1)::aK IK DV (.slice la s.length lc) (s.flatMap (bY DU))::XI p m B::F))
 case atStart=>exact ⟨0,rfl,acn _,rfl,hS2⟩
 case round=>
  obtain ⟨i,rfl,hi,rfl,hS⟩:=hrel;clear hS2;by_cases hlt:i<s.length;rotate_left
  ·obtain rfl:i=s.length:=by ((try simp only [DV,KQ,IK] at *);omega)
   have c1:¬ (s.length:Int)<(s.length:Int):=oQ;rw [ai0]at hS;clear hlt hi;go_wp2_with fail;go_ret;refine ⟨_,rfl,s.map λx=>(x.key,x.val),⟨Hs1.o,by intros;exact QS.o (_,_) aQ,by rw [abl];exact zM.o⟩,hS.sb⟩
  have c1:(i:Int)<(s.length:Int):=oQ;have hwi:=EN (i:=i);obtain ⟨x,hx⟩:∃ x,s[i]?=some x:=⟨_,aaf hlt⟩;have hxm:=abH hx;have Hxk:=uQ (rU.o x hxm).2;obtain ⟨bk,off,c',hsv,hcell⟩:=lV Hlen.o (au.rd (hS.pick bZ)) hx aU;cases hsv;have o7:=Hlen.o x hxm
  have jl:=uQ (show ((s.take (i+1)).map λx=>(x.key,x.val)).flatMap (λq=>aI q.1)=((s.take i).map λx=>(x.key,x.val)).flatMap (λq=>aI q.1)++aI x.key by
   rw [ajf,hx,akf,acy,ai5];simp)
  have dP:=uQ hlt;have TQ:(((s.take i).map λx=>(x.key,x.val)).flatMap λq=>aI q.1).length<=2147483648:=by
   rw [lK (k:=32) λq hq=>by
    obtain ⟨y,hy,rfl⟩:=abI.1 hq;rw [bP];exact (rU.o y (ajq hy)).2]
   rw [abl];have:=avH i s
   ((try simp only [DV,KQ,IK] at *);omega)
  clear hx hxm hlt hi
  go_wp2_with (first
   |((with_reducible refine dH ⟨?_⟩);refine kQ (b:=bk) (o:=off+i*DV) (bY DU x) aA hcell ah4 rfl yV0 ?_)
   |(with_reducible apply jd))
  refine ⟨iR ah5 hS rfl ?_⟩;intro b7 w7 hS7
  go_wp2_with (first
   |((with_reducible refine eG ⟨?_⟩);refine jK (bY DU x).toArray hS7 aA aA zW0 eu yW0 (by rw [agQ];exact y7 DU x (ah6 _)) ?_;intro w10 jX)
   |(with_reducible apply dH))
  refine ⟨?_⟩;clear hS hS7 hcell;have f1:w10.rangeAt b7 1 (aI x.key):=Ir (jX.pick bJ)
  go_wp2_with (first
   |((with_reducible refine dH ⟨?_⟩);refine kQ (b:=b7) (o:=1) (aI x.key) aA f1 underlying34 rfl yL0 ?_)
   |(with_reducible apply rV))
  refine ⟨rJ (e:=34) (sz:=32) (je:=32) aC jX aA (cs:=(aI x.key).toArray) rfl (by rw [abC,bP,Hxk.o]) aU ?_⟩;intro bN wN hN;go_wp2_with (with_reducible apply oK);refine ⟨sJ 34 32 32 aC hN aA aA (bW (bW bJ)) bJ (by rw [abC,bP,Hxk.o]) (abG 1) zF0 TQ (by rw [abC,bP,Hxk.o];decide) aU (by rw [agQ]) ?_⟩;intro bA nA cA wA hA;go_wp2_with fail;rw [<-jl.o]at hA
  go_roundg (s.length-(i+1))
  case measure=>have:=dP.o;((try simp only [DV,KQ,IK] at *);omega)
  case rel=>exact ⟨i+1,rfl,dP.o,by first|rfl|go_num,hA.sb⟩):A:=h
abbrev fG.ah0:=@agz
abbrev fG.ah1:=@func125
abbrev fG.ah2:=@ntmps125
abbrev fG.DU:=@dQ
abbrev fG.DV:Nat:=36
abbrev fG.KQ:Nat:=3
abbrev fG.ah3:=@Ic
abbrev fG.IK:Nat:=215
abbrev fG.XI:=@bF
abbrev fG.ah4:=@underlying215
abbrev fG.ah5:=@Ld
abbrev fG.ah6:=@OO
open fG in
theorem acW (hB:B<=13000000) (h:au w0 w (bF p m B::F)) :
  Calls prog 125 #[aW p] w (bf λv w'=>∃ kv:List (ay.Bs×aB.bT),(aY.kE m kv/\(∀ q∈kv,q.1.length=32)/\kv.length<=B)/\au w0 w' (aK 34 32 v (kv.flatMap λq=>aI q.1)::bF p m B::F)):=ady
end
def jU (q:ay.Bs×aB.bT):List Value:=aI q.1++dQ q.2
theorem qH (q:ay.Bs×aB.bT) (hk:q.1.length=32):(jU q).length=35:=by unfold jU;rw [aay,bP,hk];rfl
theorem JG (q:ay.Bs×aB.bT):(jU q).all (·.oneCell')=true:=by unfold jU;rw [ana,yu];rfl
theorem aqm:yA prog 248=some [(0,32),(32,3)]:=aC
theorem Qy:nR prog 248=some (.agg (jU (ay.gu,aB.bT.zero)).toArray):=aC
theorem ag5 (k:ay.Bs) (hk:k.length=32) (v:aB.bT) (w:World):(Instr.build 248 #[(0,.agg (aI k).toArray),(1,.agg (dQ v).toArray)]).run prog w=.ok (.agg (jU (k,v)).toArray) w:=by
 have h:=uU [(0,.agg (aI k).toArray),(1,.agg (dQ v).toArray)] aqm Qy (by
  intro p b;have c:(Value.agg (jU (ay.gu,aB.bT.zero)).toArray).cells.size=35:=by rfl
  rw [c];rcases ab9.1 b with rfl|b
  ·refine ⟨0,?_,?_⟩
   ·show some (0,32)=some (0,(aI k).toArray.size);rw [abC,bP,hk]
   ·show 0+(aI k).toArray.size<=35;rw [abC,bP,hk];decide
  ·rw [acS.1 b];exact ⟨32,rfl,by show 32+3<=35;omega⟩) w
 refine h.trans ?_;have hz:ay.gu.length=32:=rfl;have a:(jU (ay.gu,aB.bT.zero)).length=35:=qH _ hz;have e:iK (iK (jU (ay.gu,aB.bT.zero)).toArray 0 (aI k)) 32 (dQ v)=(jU (k,v)).toArray:=by
  apply vS;rw [BI _ _ _ (by rw [pW,abC,a];exact abG 35),BI _ _ _ (by rw [abC,a,bP,hk];decide),agQ];have f:o9 (jU (ay.gu,aB.bT.zero)) 0 (aI k)=aI k++dQ aB.bT.zero:=by
   unfold jU;exact Vt
  have d:=Dt (aI k) (dQ aB.bT.zero) (dQ v) 0;rw [bP,hk,Ig aA]at d;rw [f];exact d
 exact aiX (λx=>Result.ok (Value.agg x) w) e
section
variable {av:Value}
theorem ZK {l:Bs}{i:Nat}{x:UInt8} (h:l[i]?=some x):(aI l)[i]?=some (.int .u8 x.toNat):=by unfold aI;rw [ab4,h];rfl
theorem auq {α:Type}{a b:List α}{i:Nat}{x:α} (h:a.take i=b.take i) (h1:a[i]?=some x) (h2:b[i]?=some x):a.take (i+1)=b.take (i+1):=by
 rw [ajf,ajf,h,h1,h2]
theorem agR (la lb:Bs) (ha:Ro w0 F (bK 1 av (aI la))) (hb:Ro w0 F (bK 1 bv (aI lb))) (h:au w0 w F) (hlen:la.length<=1099511627776) :
  Calls prog 54 #[av,bv] w (bf λv w'=>v=.bool (decide (la=lb))/\au w0 w' F):=by
 obtain ⟨Q,R,S,rfl,m,_⟩:=id (ha w h);obtain ⟨T,U,bc,rfl,n,_⟩:=id (hb w h);rw [bP,aiR]at m n;subst m;subst n;have Hlen:=uQ hlen;by_cases s:la.length=lb.length
 ·have t:=uQ s;have c:la.length=lb.length:=oQ
  go_in
  go_wp2
  go_loopg [5] la.length (λg J K=>∃ i:Nat,g=la.length-i/\i<=la.length/\J=.int .i64 i/\la.take i=lb.take i/\au w0 K F)
  case atStart=>exact ⟨0,rfl,acn _,rfl,rfl,h⟩
  case round=>
   obtain ⟨i,rfl,f,rfl,a,A⟩:=hrel;by_cases hi:i<la.length
   ·obtain ⟨x,l⟩:=Nz hi;obtain ⟨y,o⟩:∃ y,lb[i]?=some y:=⟨_,aaf (by omega)⟩;have d:=A.drew;obtain ⟨bk,off,rfl,B⟩:=Ak (ha _ d) (ZK l);obtain ⟨bk2,off2,rfl,C⟩:=Ak (hb _ d) (ZK o);have u:i<la.length:=oQ;have L:i<lb.length:=oQ;refine O5 ?_;intro hwi;by_cases b:x=y
    ·subst b;have M:=(auq a l o);generalize x.toNat=X at *
     go_wp2;refine gK [8] (λw'=>w'.cell? ⟨bk,off+i,none⟩=some (.int .u8 X)/\w'.cell? ⟨bk2,off2+i,none⟩=some (.int .u8 X)) aC ?_;have z:_/\_:=And.intro B C;refine rP 0 ?_ (y:=bV);refine rP 1 ?_ (y:=bV);refine rP 2 ?_ (y:=kX);refine rt 3 (h:=?_);refine rP 4 ?_ (y:=bV);refine rP 5 ?_ (y:=bV);refine rP 6 ?_ (y:=kX);refine rt 7 (h:=?_);refine rP 8 ?_ (y:=nT);refine fK aC ?_;clear z
     try simp only [kW]
     try go_frame
     go_wp2_with fail
     go_roundg (la.length-(i+1))
     case measure=>omega
     case rel=>exact ⟨i+1,rfl,aiW hi,by first|rfl|go_num,M,d⟩
    ·have j:=uQ (show decide (la=lb)=false from aes λe=>b (by rw [e,o]at l;exact (ajH l).symm));have N:(x.toNat==y.toNat)=false:=by
      rw [acj];intro e;exact b (ak4.1 oQ)
     have E:(x.toNat != y.toNat)=true:=by
      rw [ajo];intro e;exact b (ak4.1 oQ)
     clear a l o f b;generalize x.toNat=X at *
     generalize y.toNat=Y at *
     go_wp2;refine gK [8] (λw'=>w'.cell? ⟨bk,off+i,none⟩=some (.int .u8 X)/\w'.cell? ⟨bk2,off2+i,none⟩=some (.int .u8 Y)) aC ?_;have z:_/\_:=And.intro B C;refine rP 0 ?_ (y:=bV);refine rP 1 ?_ (y:=bV);refine rP 2 ?_ (y:=kX);refine rt 3 (h:=?_);refine rP 4 ?_ (y:=bV);refine rP 5 ?_ (y:=bV);refine rP 6 ?_ (y:=kX);refine rt 7 (h:=?_);refine rP 8 ?_ (y:=nT);refine fK aC ?_;clear z
     try simp only [kW]
     try go_frame
     go_wp2_with fail;go_ret;rw [j.o];exact ⟨_,rfl,rfl,d⟩
   ·obtain rfl:i=la.length:=oQ;have u:¬ la.length<la.length:=oQ
    have r:=(show decide (la=lb)=true from aiC (by
     have O:=t.o;rw [ai0]at a;rw [O,ai0]at a;exact a))
    clear a f;go_wp2;go_ret;rw [r];exact ⟨_,rfl,rfl,A⟩
 ·have c:¬ (la.length=lb.length):=oQ;have P:(la.length==lb.length)=false:=by rw [acj];exact c
  have G:(la.length != lb.length)=true:=by rw [ajo];exact c
  have j:=uQ (show decide (la=lb)=false from aes λe=>s (by rw [e]));clear s
  go_in
  go_wp2_with fail;go_ret;rw [j.o];exact ⟨_,rfl,rfl,h⟩
end
theorem aqY (l:Bs) (hr:bK 1 bv (aI l) w) (hl:l.length<=1099511627776) :
  Calls prog 180 #[.int .u32 0,bv] w (bf λv w'=>v=.int .u32 (ay.lq l:Nat)/\w=w'):=by
 obtain ⟨a,n,c,rfl,hn,_⟩:=id hr;rw [bP,aiR]at hn;subst hn;have hx0:bits .xor .u32 0 4294967295=4294967295:=by decide +kernel
 have Hl:=uQ hl;clear hl
 go_in
 go_wp2;clear hx0
 go_loopg [5,6] l.length (λg xv iq wr=>∃ i:Nat,g=l.length-i/\i<=l.length/\iq=.int .i64 i/\xv=.int .u32 ((l.take i).foldl ay.rD 4294967295:Nat)/\wr=w)
 case atStart=>exact ⟨0,rfl,acn _,rfl,rfl,rfl⟩
 case round=>
  obtain ⟨i,rfl,hi,rfl,rfl,rfl⟩:=hrel;have GX:(l.take i).foldl ay.rD 4294967295<4294967296:=ay.Tq _ _ aU;by_cases hi':i<l.length
  ·have hb:(aI l)[i]?=some (.int .u8 (l[i]'hi').toNat):=by unfold aI;simp [hi']
   obtain ⟨bk,off,rfl,c1⟩:=Ak hr hb;have hnext:(l.take (i+1)).foldl ay.rD 4294967295=ay.zT ((l.take i).foldl ay.rD 4294967295) (l[i]'hi').toNat 8:=by
    rw [ajA hi',asl,ay.akV];rfl
   have hic:i<l.length:=oQ;have hwi:IntKind.i64.wrap (i+1)=i+1:=abR _ (by have h1:=Hl.o;omega);have hcb:=(l[i]'hi').toNat_lt;have LM:=uQ hnext;have YB:=uQ hi';clear hb hnext hr;generalize (l[i]'hi').toNat=cb at *
   generalize (l.take i).foldl ay.rD 4294967295=x at *
   have Hx:=uQ GX;have Cj:=uQ hcb;clear GX hcb hi';go_wp2
   go_loopg [5,7] 8 (λg xv kq wq=>∃ k:Nat,g=8-k/\k<=8/\kq=.int .u64 k/\xv=.int .u32 (ay.zT x cb k:Nat)/\wq=wr)
   case atStart=>exact ⟨0,rfl,acn _,rfl,rfl,rfl⟩
   case round=>
    obtain ⟨k,rfl,hk,rfl,rfl,rfl⟩:=hrel;by_cases hk':k<8
    ·have d1:k<8:=oQ;have hX:=ay.ZE Hx.o cb k;have hstep:ay.zT x cb (k+1)=ay.wu (ay.zT x cb k) cb k:=rfl;unfold ay.wu at hstep;generalize ay.zT x cb k=X at *
     have d2:X/2%4294967296=((X/2:Nat):Int):=oQ;obtain ⟨p,hp⟩:∃ p,p=X%2:=⟨_,rfl⟩;obtain ⟨q,hq⟩:∃ q,q=cb/2^k%2:=⟨_,rfl⟩;rw [<-hp,<-hq]at hstep;have f1:bits .and .u32 X 1=p:=by
      have:=u32_and_nat X 1 hX aU;rw [Nat.and_one_is_mod,<-hp]at this;exact this
     have hcb:=Cj.o;have f2:bits .and .u8 (cb/2^k) 1=q:=by
      have h1:cb/2^k<256:=anx (ate _ _) hcb;have:=u8_and_nat (cb/2^k) 1 h1 aU;rw [Nat.and_one_is_mod,<-hq]at this;rw [<-this,Int.natCast_ediv,Int.natCast_pow];rfl
     have f4:q%4294967296=q:=oQ;have f3:bits .xor .u32 (X/2) 3988292384=((X/2 ^^^ 3988292384:Nat):Int):=by
      have:=u32_xor_nat (X/2) 3988292384 oQ aU;rw [<-this];rfl
     have hwk:IntKind.u64.wrap (k+1)=k+1:=by show ((k:Int)+1)%18446744073709551616=_;omega
     have YZ:=uQ hstep;clear hstep hp hq hcb hX;by_cases hpq:p=q
     ·subst hpq;go_wp2
      go_roundg (8-(k+1))
      case measure=>omega
      case rel=>exact ⟨k+1,rfl,by omega,by first|rfl|go_num,by rw [YZ.o,abB yD0];rfl,rfl⟩
     ·have hne:((p:Int)==(q:Int))=false:=by rw [acj];omega
      generalize X/2 ^^^ 3988292384=Y at *
      go_wp2_with fail
      go_roundg (8-(k+1))
      case measure=>omega
      case rel=>exact ⟨k+1,rfl,by omega,by first|rfl|go_num,by rw [YZ.o,abL hpq],rfl⟩
    ·obtain rfl:k=8:=oQ;have d1:¬ ((8:Nat):Int)<8:=aU;go_wp2_with fail
     go_roundg (l.length-(i+1))
     case measure=>have:=YB.o;omega
     case rel=>exact ⟨i+1,rfl,aiW YB.o,by first|rfl|go_num,by rw [LM.o],rfl⟩
  ·obtain rfl:i=l.length:=oQ;have hic:¬ (l.length:Int)<(l.length:Int):=oQ;rw [ai0]at *
   have hn2:bits .xor .u32 ((l.foldl ay.rD 4294967295:Nat):Int) 4294967295=((4294967295-l.foldl ay.rD 4294967295:Nat):Int):=by
    have h1:=UR _ GX;have h2:=u32_xor_nat (l.foldl ay.rD 4294967295) 4294967295 GX aU;have h3:=u32_xor_nat 4294967295 (l.foldl ay.rD 4294967295) aU GX;rw [<-h1];show bits .xor .u32 _ ((4294967295:Nat):Int)=bits .xor .u32 ((4294967295:Nat):Int) _;rw [h2,h3,Nat.xor_comm]
   have hfin:ay.lq l=4294967295-l.foldl ay.rD 4294967295:=rfl;rw [<-hfin]at hn2;generalize l.foldl ay.rD 4294967295=x at *
   clear hi hi' GX hfin;go_wp2;go_ret;exact ⟨_,rfl,rfl,rfl⟩
theorem Ws (l:Bs) (hr:bK 1 bv (aI l) w) (hl:l.length<=1099511627776) :
  Calls prog 138 #[bv] w (bf λv w'=>v=.int .u32 (ay.lq l:Nat)/\w=w'):=by
 have ha:=aqY l hr hl;obtain ⟨a,n,c,rfl,hn,_⟩:=id hr
 go_in
 exact afI
theorem arB (h:au w0 w F) :
  Calls prog 72 #[] w (bf λv w'=>∃ b,v=.slice (some ⟨b,0,none⟩) 8 8/\au w0 w' (cZ v [72,79,65,82,68,83,69,71]::F)):=by
 have hA:=h.alloc (.cells #[.int .u8 72,.int .u8 79,.int .u8 65,.int .u8 82,.int .u8 68,.int .u8 83,.int .u8 69,.int .u8 71] 5)
 go_in
 go_wp2;go_ret;exact ⟨_,rfl,_,rfl,au.pV hA rfl (abG _) (abG _) aU rfl⟩
theorem wP (l:Bs) (h1:1<=l.length) (h8:l.length<=8) (hr:bK 1 bv (aI l) w) :
  Calls prog 137 #[bv] w (bf λv w'=>v=.tuple #[.int .u64 (ay.bD l:Nat),.bool true]/\w=w'):=by
 obtain ⟨a,n,c,rfl,hn,_⟩:=id hr;rw [bP,aiR]at hn;subst hn;have d1:((l.length:Int)==0)=false:=by rw [acj];omega
 have d2:decide (8<(l.length:Int))=false:=by rw [ai9];omega
 have d1':¬ l.length=0:=oQ;have SB:¬ 8<l.length:=oQ;have hw1:IntKind.i64.wrap ((l.length:Int)-1)=(l.length:Int)-1:=abR _ oQ;have H8:=uQ h8;have Hr:=uQ hr;clear h1 h8 hr;go_enter func137,ntmps137;go_wp2_with fail;clear d1 d2 d1' SB
 go_loopg [4,5] l.length (λg xq iq wr=>∃ (m:Nat) (z:Int),g=l.length-(l.length-m)/\m<=l.length/\iq=.int .i64 z/\z=(m:Int)-1/\xq=.int .u64 (ay.bD (l.drop m):Nat)/\wr=w)
 case atStart=>exact ⟨l.length,_,by omega,abG _,rfl,rfl,by rw [awm];rfl,rfl⟩
 case round=>
  obtain ⟨m,zz,rfl,hm,rfl,hzz,rfl,rfl⟩:=hrel;cases m with
  |zero=>
   obtain rfl:zz = -1:=oQ;clear hzz hw1;rw [av5];go_wp2
   go_ret2
   exact ⟨_,rfl,rfl,rfl⟩
  |succ m=>
   have hzm:zz=(m:Int):=oQ;clear hzz;subst hzm;have hml:m<l.length:=oQ;have c8:(m:Int)<(l.length:Int):=oQ;have h8:=H8.o;have hwm:IntKind.i64.wrap ((m:Int)-1)=(m:Int)-1:=abR _ oQ;have hb:(aI l)[m]?=some (.int .u8 (l[m]'hml).toNat):=by unfold aI;simp [hml]
   obtain ⟨bk,off,rfl,c1⟩:=Ak Hr.o hb;have hnd:=ay.ad8 hml;have hlt:=ay.uP (l.drop m)
   have hlt2:ay.bD (l.drop m)<18446744073709551616:=awp hlt (by
    have:256^(l.drop m).length<=256^8:=aon aU yK0;exact abQ this aU)
   rw [hnd]at hlt2;have hcm:((l[m]'hml).toNat:Int)%18446744073709551616=((l[m]'hml).toNat:Int):=oQ;have Hnd:=uQ hnd;have QY:=uQ hml;clear hb hnd hlt h8 hm hw1;generalize (l[m]'hml).toNat=cb at *
   clear hml;generalize ay.bD (l.drop (m+1))=X at *
   have e1:(X:Int)*256%18446744073709551616=((X*256:Nat):Int):=oQ;have e2:(((X*256:Nat):Int)+(cb:Int))%18446744073709551616=((cb+256*X:Nat):Int):=oQ;have e3:((X:Int)*256+(cb:Int))%18446744073709551616=((cb+256*X:Nat):Int):=oQ;clear hlt2;go_wp2_with fail
   go_roundg m
   case measure=>have:=QY.o;omega
   case rel=>exact ⟨m,_,by have:=QY.o;omega,Nat.le_of_lt QY.o,rfl,rfl,by rw [Hnd.o];congr 1;omega,rfl⟩
section
variable {D:aG}{g:Lj}
section
variable {t:Nat}{pos:String}{l k:Bs}{K:Act->World->Prop}
theorem auY (z:au w0 w (cZ v l::R)) (A:a.eval s=v) (hy:a.eval y=x) (B:bK 1 x (aI k) w) (D:l.length+k.length<=1099511627776)
  (C:∀ o r u w',au w0 w' (cZ (.slice o r u) (l++k)::R)->wpList prog ops Q rest (a.put dst (.slice o r u)) w') :
  wpList prog ops Q (⟨dst,.call { callee:= .builtin .append,args:=#[s,y],argTypes:=#[59,59] },t,pos,after,none⟩::rest) a w:=by
 obtain ⟨i,hi,c,d,e⟩:=Aa;refine AA aA s y 59 aA _ i _ underlying59 hi c d aA oQ A hy (Bo _) z B ?_ ?_ ?_
 ·rw [bP,bP];unfold maxLen;omega
 ·rw [bP,bP,e];omega
 ·intro f g b _;obtain ⟨j,m,n,rfl,_⟩:=id b.rd;refine C _ _ _ _ ?_;unfold cZ aI;rw [acy];exact b
end
end
section
variable {L':List aO}{o:Nat}{t T:TypeId}{pos:String}{x:Operand}{K:Act->World->Prop}
theorem vJ (hz:nR P ty=some v) (hs:au w0 w L) (c:v.cells=cs)
  (d:∀ b w',au w0 w' (pt b (.cells cs ty (0,0))::L)->K (a.put dst (.pointer (some ⟨b,0,none⟩))) w') :
  if Region.wanted ⟨dst,.alloc ty,t,pos,after,none⟩ (yielded ops a.tmps)=true then Oper.wp P ⟨dst,.alloc ty,t,pos,after,none⟩ a w K Q else E:=by
 subst c;refine Ey rfl ?_;refine aeT ?_;intro hS hrun;exact d _ _ hS
end
section
variable {i:Nat}{D:aG}{x:RF}{g:Lj}
theorem Es {a:Option Addr}{n c k:Nat}{l:Bs} (h:bK 1 (.slice a n c) (aI l) w) (hk:k<=l.length):bK 1 (.slice a k c) (aI (l.take k)) w:=by
 have:=aq8 h k;obtain ⟨_,_,_,he,hl,_⟩:=h;cases he;rw [bP,aiR]at hl;subst hl;rw [Nat.min_eq_right hk]at this;unfold aI;rw [avZ];exact this
end
theorem aaN (e:ay.aT) (dv:Value) (i:Nat) (c:UInt8) (hi:i<e.key.length):iK (dR e dv) (1+i) [Value.int .u8 c.toNat]=dR ⟨e.dB,e.key.set i c,e.data⟩ dv:=by
 apply vS;show ((dR e dv).setIfInBounds (1+i) _).toList=_;rw [avS];unfold dR mM;rw [agQ,agQ,Nat.add_comm 1 i,List.set_cons_succ,List.set_append_left _ _ (by rw [bP];exact hi)];unfold aI;rw [List.map_set]
def wH (kk:Bs) (i:Nat):Bs:=kk.take i++ay.gu.drop i
theorem N8 {kk:Bs} (h:kk.length=32){i:Nat} (hi:i<=32):(wH kk i).length=32:=by
 unfold wH;rw [aay,abA,abJ,h];show min i 32+(32-i)=32;omega
theorem acV {a:Bs} (h:a.length=32){i:Nat} (hi:i<32){c:UInt8} (b:a[i]?=some c):(wH a i).set i c=wH a (i+1):=by
 unfold wH;have d:(a.take i).length=i:=by rw [abA,h];omega
 rw [List.set_append_right _ _ oQ,d,auP,ajf,b];have e:ay.gu.drop i=0::ay.gu.drop (i+1):=by
  unfold ay.gu;rw [List.drop_replicate,List.drop_replicate,show 32-i=(32-(i+1))+1 by omega,List.replicate_succ]
 rw [e];simp
theorem acU {kk:Bs} (h:kk.length=32):wH kk 32=kk:=by
 unfold wH;rw [acE oQ,aiU (by show 32<=32;omega),ahB]
section
variable {t:TypeId}{pos:String}{x:Operand}{sz je:Nat}
theorem aio (e:TypeId) (sz je:Nat){xs ys:List Value} (o:vZ P ty e sz je=true) (q:au w0 w L) (r:a.eval s=v) (hy:a.eval y=v1) (p:mW (aK e sz v xs) L R) (k:bK sz v1 ys w) (x:∀ u∈ys,u.oneCell'=true)
  (m:xs.length+ys.length<=2147483648) (n:je<=65000)
  (A:∀ h w',au w0 w' (aK e sz h (xs++ys)::R)->wpList P ops Q rest (a.put dst h) w') :
  wpList P ops Q (⟨dst,.call { callee:= .builtin .append,args:=#[s,y],argTypes:=#[ty,ty] },t,pos,after,none⟩::rest) a w:=by
 obtain ⟨b,i,z,hi,c,d,f,g,j⟩:=CQ o;subst f;refine AA rfl s y ty rfl e i z b hi c d g j r hy x (q.pick p) k yT0 ?_ λh w' l _=>A h w' l
 calc (xs.length+ys.length)*i.bytes<=2147483648*65000:=aqe m n
  _<=140737488355328:=aU
end
section
variable {t:TypeId}{pos:String}{x:Operand}
theorem X9 (hx:a.eval x=v1) (hy:a.eval y=v2) (hr:∀ w,(Instr.build ty #[(i1,v1),(i2,v2)]).run P w=.ok v w):Yields P ops ⟨dst,.build ty #[(i1,x),(i2,y)],t,pos,after,none⟩ v a:=
 .inl ⟨rH _ rfl,λw=>by simp only [execOp,akg,aij,ajz,hx,hy,aii,hr,acz,aiV]⟩
end
end Go.Proofs.Y
namespace Go
open Go
theorem Pm(h:A:=by
 have hct:IntKind.i64.wrap (tg.toNat:Int)=(tg.toNat:Int):=by rw [aiY];omega
 have abT:wrap64 (tg.toNat:Int)=(tg.toNat:Int):=by rw [<-aoc];exact hct
 have htn:=ht;clear ht;generalize tg.toNat=tn at *
 subst htn;go_enter func73,ntmps73;go_wp2_with ((with_reducible refine ql ⟨?_⟩);refine qA aQ ?_;intro bR wR hE);refine (F7.o _ hE.drop).mono ?_;rintro ee w2 ⟨v,rfl,rfl,rfl⟩;have e8:=xZ.o _ hE.drop;go_wp2_with (first|((with_reducible refine uG ⟨?_⟩);refine uX ?_)|((with_reducible refine mY ⟨?_⟩);first|(refine jk aQ aA aA fQ fJ sQ ?_;intro wS hS)|(refine jk (e:=ay.iL) (da:=none) (dn:=0) (dc:=0) aQ aA aA rfl fJ sQ ?_;intro wS hS)));rw [Hf.o];refine ⟨rfl,_,vT rfl aQ aA dh rfl,_,rfl,none,0,rfl,au.iW.2 (au.sb hS)⟩):A:=h
theorem agd(k:G)(h:RowKit.Hid G->A:=by
 intro fM;refine rP 1 ?_ (y:=(vX aF dX));refine rP 2 ?_ (y:=nT);refine rP 3 ?_ (y:=bV);refine rP 4 ?_ (y:=(kH aA aF));refine rP 5 ?_ (y:=(avm aA aF aF hsl));refine dZ 6 aF aC (λK hK=>?_);refine Gv [] aA aC aA ?_;refine (arB hS1).mono ?_;rintro ee w2 ⟨v,rfl,mb,rfl,hS2⟩;refine hK _ _ (.inr (.inl trivial)) ?_;clear hK;refine dZ 7 aF aC (λK hK=>?_);refine Gv [.slice (some ⟨bk,off,none⟩) 8 bc,.slice (some ⟨mb,0,none⟩) 8 8] aA aC aA ?_;refine (agR (l.take 8) [72,79,65,82,68,83,69,71] (λw hw=>aq5 (Hr.o w (hw.sb)) 8 H8.o) (λw hw=>au.rd hw) hS2 (by rw [abA];have:=Hl.o;omega)).mono ?_;revert w2 mb hS2 K hK;exact fM.o):A:=h (uQ k)
theorem afE(h:A:=by
 have htu:tg=0:=by apply ak4.1;rw [ht];rfl
 subst htu;unfold ay.fC;rw [abL rfl,ai9];omega):A:=h
theorem afK(h:A:=by
 go_wp2_with fail;refine hp.mono ?_;rintro e w1 ⟨v,rfl,rfl,rfl⟩;clear hp;go_wp2;go_ret;exact ⟨_,rfl,rfl,rfl⟩):A:=h
theorem afM(h:A:=by
 go_wp2_with fail;refine hn.mono ?_;rintro e w1 ⟨v,rfl,rfl,hS⟩;clear hn;go_wp2;go_ret;exact ⟨_,rfl,rfl,hS⟩):A:=h
end Go
namespace Go.aH
open Go.aG
def iD (s:ByteArray):Int×Bool:=
 if s.data.toList.take 4=[105,100,120,46]\/s.data.toList.take 4=[117,115,101,46] then aB.iD ⟨(aB.jW++s.data.toList.drop 4).toArray⟩ else (0,false)
def Af:List ByteArray->Int->Int
 |[],m=>m
 |f::l,m=>Af l (if (iD f).2=true then max m (iD f).1 else m)
def iC (M:aG):Int:=Af M.list (-1)
def tmp:ByteArray:=⟨#[116,109,112]⟩
def there (M:aG) (s:ByteArray):Bool:=decide ((M.size s).2=0)
def tJ (M:aG):aG×Int:=if there M tmp=true then M.dA tmp else (M,0)
def fill (M:aG) (s:ByteArray) (b:Bs):aG×Int:=
 if (M.append tmp b).2=0 then
  (if ((M.append tmp b).1.dY tmp).2=0 then ((M.append tmp b).1.dY tmp).1.kC tmp s else (M.append tmp b).1.dY tmp)
 else if (M.append tmp b).2=11 then
  (if ((M.append tmp b).1.dA tmp).2=0 then (((M.append tmp b).1.dA tmp).1,11) else (M.append tmp b).1.dA tmp)
 else M.append tmp b
def gG (M:aG) (s:ByteArray) (b:Bs):aG×Int:=
 if (tJ M).2=0 then (if ((tJ M).1.dM tmp).2=0 then fill ((tJ M).1.dM tmp).1 s b else (tJ M).1.dM tmp) else tJ M
def lI (p:ByteArray->Bool):List ByteArray->aG->aG×Int
 |[],M=>(M,0)
 |f::l,M=>if p f=true then (if (M.dA f).2=0 then lI p l (M.dA f).1 else M.dA f) else lI p l M
def kU (n:Int) (s:ByteArray):Bool:=(iD s).2 && (iD s).1 != n
def WE (M:aG) (n:Int):aG×Int:=if M.fU.2=0 then lI (kU n) M.fU.1.list M.fU.1 else M.fU
def WC (M:aG) (n:Int) (bu:Bs):aG×Int:=if (gG M (name kJ n) bu).2=0 then WE (gG M (name kJ n) bu).1 n else gG M (name kJ n) bu
def nO (M:aG) (n:Int) (bi bu:Bs):aG×Int:=if (gG M (name gY n) bi).2=0 then WC (gG M (name gY n) bi).1 n bu else gG M (name gY n) bi
abbrev y9:Type:=List (ByteArray×Nat×dw)
section
variable {T:y9}{s1 s2 s:ByteArray}{b1 b2 b:Bs}{K j:Nat}{M M':aG}{l:iI}{fs fs':Nat->dw}
theorem Xg:tmp≠ByteArray.empty:=by decide
end
section
variable {s:ByteArray}{b b1 b2:Bs}{K r:Nat}{M:aG}
theorem _root_.Go.aB.gU.kC (h:aB.gU K r M) (s t:ByteArray):aB.gU (K+1) r (M.kC s t).1:=by
 have f:=(qO.zl h.ok h.dst h.cO ⟨3,s,t,0,0,[],[]⟩ (show (3:Int)≠8 by decide) (show (3:Int)≠9 by decide)).1;exact ⟨h.ok.kC s t,h.fE.kC s t,f.dst,f.cO,f.room.trans h.room⟩
theorem am1:dW tmp=true:=by decide +kernel
theorem WU (q:jL M) (h:dN M.aN s=none):M.size s=(0,9):=by unfold aG.size;rw [q.off,h];rfl
theorem WV (q:jL M){i:Nat} (h:dN M.aN s=some i):M.size s=((((M.file i).aN.length:Nat):Int),0):=by unfold aG.size;rw [q.off,h];rfl
theorem Xe (q:jL M) (h:dN M.aN s=none):there M s=false:=by unfold there;rw [WU q h];rfl
theorem ahJ (q:jL M){i:Nat} (h:dN M.aN s=some i):there M s=true:=by unfold there;rw [WV q h];rfl
theorem apL (l:iI) (s:ByteArray) (i:Nat):(qp l s i).length<=l.length+1:=by rw [UU];have:=EW l s;omega
theorem JR (ld:ByteArray) (n:Int) (h1:0<=n) (h2:n<1048576):(name ld n).data.toList=ld.data.toList++aB.lu n.toNat 8:=by
 have b:=aB.NC n h1 h2;have a:=yx b;unfold name;rw [abB a];have e:aB.name n=⟨(aB.jW++aB.lu n.toNat 8).toArray⟩:=by unfold aB.name;rw [abB oQ]
 rw [e];rw [ByteArray.data_append,awk,ByteArray.data_extract,Array.toList_extract]
 congr 1
theorem alO (n k:Nat):(aB.lu n k).all vM=true:=by
 rw [ajC];intro c hc;have:=(ajC.1 (aB.SC k n)) c hc;unfold aB.um at this;exact ae4
theorem JU {ld:ByteArray} (hl:ld.data.toList.length=4) (hg:ld.data.toList.all vM=true) (n:Int) (h1:0<=n) (h2:n<1048576):dW (name ld n)=true:=by
 have e:=JR ld n h1 h2;have hs:(name ld n).size=12:=by
  show (name ld n).data.size=12;rw [<-ahN,e,aay,hl,aB.zU]
 unfold dW;rw [hs,e,ana,hg,alO]
 rfl
theorem Ah {ld:ByteArray} (a:ld.data.toList=[105,100,120,46]\/ld.data.toList=[117,115,101,46]) (n:Int) (c:0<=n) (d:n<1048576):iD (name ld n)=(n,true):=by
 have e:=JR ld n c d;have b:=aB.OB n c d;have f:aB.name n=⟨(aB.jW++aB.lu n.toNat 8).toArray⟩:=by unfold aB.name;rw [abB oQ]
 rw [f]at b;unfold iD;rw [e];rcases a with a|a
 ·rw [a,abL (.inl rfl)];exact b
 ·rw [a,abL (.inr rfl)];exact b
theorem E8 (n:Int):iD (aB.name n)=(0,false):=by
 unfold iD;rcases PX n with h|⟨_,h⟩
 ·rw [h,abB aU]
 ·rw [h,abB aU]
theorem aeb:iD tmp=(0,false):=by
 unfold iD;rw [abB aU]
theorem aqa {n:Int}{s:ByteArray} (h:(iD s).2=false):kU n s=false:=by unfold kU;rw [h];rfl
theorem aem {n:Int}{s:ByteArray} (h:iD s=(n,true)):kU n s=false:=by unfold kU;rw [h];simp
theorem EM:gY.data.toList=[105,100,120,46]:=rfl
theorem KR:kJ.data.toList=[117,115,101,46]:=rfl
theorem EU (n:Int) (h1:0<=n) (h2:n<1048576):name gY n≠name kJ n:=λe=>by
 have a:=JR gY n h1 h2;rw [e,JR kJ n h1 h2,EM,KR]at a;simp at a
theorem WM (m n:Int) (h1:0<=n) (h2:n<1048576):aB.name m≠name gY n:=λe=>by
 have a:=Ah (.inl EM) n h1 h2;rw [<-e,E8]at a;simp at a
theorem WO (m n:Int) (h1:0<=n) (h2:n<1048576):aB.name m≠name kJ n:=λe=>by
 have a:=Ah (.inr KR) n h1 h2;rw [<-e,E8]at a;simp at a
theorem acG (n:Int) (h1:0<=n) (h2:n<1048576):name gY n≠tmp:=λe=>by
 have a:=Ah (.inl EM) n h1 h2;rw [e,aeb]at a;simp at a
theorem ah8 (n:Int) (h1:0<=n) (h2:n<1048576):name kJ n≠tmp:=λe=>by
 have a:=Ah (.inr KR) n h1 h2;rw [e,aeb]at a;simp at a
end
end Go.aH
namespace Go.aJ
open Go.ay (Bs fO aT iJ bU gV)
open Go.aB (bT dL)
open Go.aY
theorem Ov:∀ {l:List fZ}{k:Bs}{r:fZ},iC l k=some r->r∈l/\iV r≠2/\kD r=k
 |[],_,_,h=>by cases h
 |x::l,k,r,h=>by
  unfold iC at h;split at h
  ·rename_i y hy;cases h;obtain ⟨h1,h2⟩:=Ov hy;exact ⟨.tail _ h1,h2⟩
  ·split at h
   ·rename_i hh;cases h;exact ⟨.head _,hh⟩
   ·cases h
end Go.aJ
namespace Go.Proofs.Y
open Go.aG
theorem ash {l:Bs} (o:l.length<9) (hr:Ro w0 F (bK 1 bv (aI l))) (i:lS bv) (r:l.length<=1099511627776) (h:au w0 w F) :
  Calls prog 73 #[bv] w (bf λv w'=>∃ da dc,v=.tuple #[.agg (dR (ay.read l).1 (.slice da (ay.read l).1.data.length dc)),.int .i64 (ay.read l).2.1,dS (ay.read l).2.2]/\au w0 w' (cZ (.slice da (ay.read l).1.data.length dc) (ay.read l).1.data::F)):=by
 obtain ⟨g,b,bc,rfl,c,d⟩:=i;have a:b=l.length:=by
  exact Dv
 subst a;have e:=(show ay.read l=(ay.iL,0,3) by unfold ay.read;rw [abL o])
 go_in
 go_wp2_with (first|((refine ql ⟨?_⟩);refine qA aQ ?_;intro j m n)|((refine uG ⟨?_⟩);refine uX ?_)|((refine mY ⟨?_⟩);first|(refine jk aQ aA aA fQ fJ sQ ?_;intro f hS)|(refine jk aQ aA aA rfl fJ sQ ?_;intro f hS)));rw [e];exact Vo
theorem asi (l:Bs) (hr:Ro w0 F (bK 1 bv (aI l))) (hcap:lS bv) (hl:l.length<=1099511627776) (h9:¬ l.length<9) (ht:(l.getD 8 0).toNat>2) (h:au w0 w F) :
  Calls prog 73 #[bv] w (bf λv w'=>∃ da dc,v=.tuple #[.agg (dR (ay.read l).1 (.slice da (ay.read l).1.data.length dc)),.int .i64 (ay.read l).2.1,dS (ay.read l).2.2]/\au w0 w' (cZ (.slice da (ay.read l).1.data.length dc) (ay.read l).1.data::F)):=by
 obtain ⟨G,H,bc,rfl,d,f⟩:=hcap;have r:H=l.length:=by
  obtain ⟨_,_,_,I,g,_⟩:=hr w h;cases I;rw [bP,aiR]at g;exact g.symm
 subst r;obtain ⟨bk,off,rfl,c⟩:∃ bk off,G=some ⟨bk,off,none⟩/\True:=by
  exact Ih
 have s:=hr w h;have m:=(show ∀ (i j:Nat),i<=j->j<=l.length->∀ w,au w0 w F->bK 1 (.slice (some ⟨bk,off+i,none⟩) (j-i) (bc-i)) (aI ((l.take j).drop i)) w from λi j J K w hw=>yC (hr w hw) i j (bc-i) J K)
 have n:=(show ∀ w,au w0 w F->Calls prog 137 #[.slice (some ⟨bk,off+4,none⟩) 4 (bc-4)] w (bf λv w'=>v=.tuple #[.int .u64 (ay.bD ((l.drop 4).take 4):Nat),.bool true]/\w=w') from λw hw=>wP ((l.drop 4).take 4) yQ0 yE0 (by
  have:=m 4 8 oQ oQ w hw;rw [aom]at this;exact this))
 have a:=(show ay.read l=if ay.fC (l.getD 8 0) (ay.bD ((l.drop 4).take 4))=false then (ay.iL,0,4)
  else if l.length<ay.bD ((l.drop 4).take 4) then (ay.iL,0,3)
  else if ay.lq ((l.take (ay.bD ((l.drop 4).take 4))).drop 4)≠ay.bD (l.take 4) then (ay.iL,0,13)
  else if 41<=ay.bD ((l.drop 4).take 4) then (⟨(l.getD 8 0).toNat,(l.drop 9).take 32,(l.take (ay.bD ((l.drop 4).take 4))).drop 41⟩,ay.bD ((l.drop 4).take 4),0)
  else (⟨(l.getD 8 0).toNat,ay.gu,[]⟩,ay.bD ((l.drop 4).take 4),0) by unfold ay.read;rw [abB h9])
 have A:ay.bD ((l.drop 4).take 4)<4294967296:=by
  have:=ay.uP ((l.drop 4).take 4);rw [abA,abJ]at this;have L:min 4 (l.length-4)=4:=oQ;rw [L]at this;omega
 generalize u:ay.bD ((l.drop 4).take 4)=N at *
 have x:∀ w,au w0 w F->w.cell? ⟨bk,off+8,none⟩=some (.int .u8 (l.getD 8 0).toNat):=λw hw=>by
  exact Ij
 have U:¬ bc=4:=oQ;have V:l.length<=bc:=oQ;have M:(8:Int)<=bc:=oQ;have W:(8:Int)<l.length:=oQ;have O:=(show l.length<=bc/\bc<=9223372036854775807/\9<=l.length/\N<4294967296 from ⟨d,f,by omega,A⟩);have y:IntKind.i64.wrap N=N:=by rw [aiY];omega
 have B:wrap64 N=N:=by rw [<-aoc];exact y
 generalize l.getD 8 0=b at *
 have o:ay.fC b N=false:=by
  unfold ay.fC;rw [abB (λe=>by rw [e]at ht;simp at ht),abB (λe=>by rw [e]at ht;simp at ht),abB (λe=>by rw [e]at ht;simp at ht)]
 have P:=(a.trans (abL o));have X:(2:Int)<b.toNat:=oQ;have Q:=b.toNat_lt;have z:IntKind.i64.wrap b.toNat=b.toNat:=by rw [aiY];omega
 have C:wrap64 b.toNat=b.toNat:=by rw [<-aoc];exact z
 generalize b.toNat=Y at *
 go_in
 go_wp2_with ((with_reducible refine ql ⟨?_⟩);refine qA aQ ?_;intro Z wR D);refine (n _ D.drop).mono ?_;rintro ee w2 ⟨v,rfl,rfl,rfl⟩;have e8:=x _ D.drop;go_wp2_with (first|((with_reducible refine uG ⟨?_⟩);refine uX ?_)|((with_reducible refine mY ⟨?_⟩);first|(refine jk aQ aA aA fQ fJ sQ ?_;intro R E)|(refine jk aQ aA aA rfl fJ sQ ?_;intro R E)));rw [P];refine ⟨rfl,_,vT rfl aQ aA dh rfl,_,rfl,none,0,rfl,au.iW.2 (au.sb E)⟩
theorem asj (l:Bs) (hr:Ro w0 F (bK 1 bv (aI l))) (hcap:lS bv) (hl:l.length<=1099511627776) (h9:¬ l.length<9) (ht:(l.getD 8 0).toNat=2) (hn:ay.bD ((l.drop 4).take 4)≠9) (h:au w0 w F) :
  Calls prog 73 #[bv] w (bf λv w'=>∃ da dc,v=.tuple #[.agg (dR (ay.read l).1 (.slice da (ay.read l).1.data.length dc)),.int .i64 (ay.read l).2.1,dS (ay.read l).2.2]/\au w0 w' (cZ (.slice da (ay.read l).1.data.length dc) (ay.read l).1.data::F)):=by
 obtain ⟨y,z,bc,rfl,c,d⟩:=hcap;have n:z=l.length:=by
  exact Dv
 subst n;obtain ⟨bk,off,rfl,b⟩:∃ bk off,y=some ⟨bk,off,none⟩/\True:=by
  exact Ih
 clear b;have o:=hr w h;have f:=uQ (show ∀ (i j:Nat),i<=j->j<=l.length->∀ w,au w0 w F->bK 1 (.slice (some ⟨bk,off+i,none⟩) (j-i) (bc-i)) (aI ((l.take j).drop i)) w from λi j A B w hw=>yC (hr w hw) i j (bc-i) A B)
 have F7:=uQ (show ∀ w,au w0 w F->Calls prog 137 #[.slice (some ⟨bk,off+4,none⟩) 4 (bc-4)] w (bf λv w'=>v=.tuple #[.int .u64 (ay.bD ((l.drop 4).take 4):Nat),.bool true]/\w=w') from λw hw=>wP ((l.drop 4).take 4) yQ0 yE0 (by
  have:=f.o 4 8 oQ oQ w hw;rw [aom]at this;exact this))
 have r:=uQ (show ∀ w,au w0 w F->Calls prog 137 #[.slice (some ⟨bk,off,none⟩) 4 bc] w (bf λv w'=>v=.tuple #[.int .u64 (ay.bD (l.take 4):Nat),.bool true]/\w=w') from λw hw=>wP (l.take 4) yE0 yE0 (Es (hr w hw) oQ))
 have a:=uQ (show ay.read l=if ay.fC (l.getD 8 0) (ay.bD ((l.drop 4).take 4))=false then (ay.iL,0,4)
  else if l.length<ay.bD ((l.drop 4).take 4) then (ay.iL,0,3)
  else if ay.lq ((l.take (ay.bD ((l.drop 4).take 4))).drop 4)≠ay.bD (l.take 4) then (ay.iL,0,13)
  else if 41<=ay.bD ((l.drop 4).take 4) then (⟨(l.getD 8 0).toNat,(l.drop 9).take 32,(l.take (ay.bD ((l.drop 4).take 4))).drop 41⟩,ay.bD ((l.drop 4).take 4),0)
  else (⟨(l.getD 8 0).toNat,ay.gu,[]⟩,ay.bD ((l.drop 4).take 4),0) by unfold ay.read;rw [abB h9])
 have u:ay.bD ((l.drop 4).take 4)<4294967296:=by
  have:=ay.uP ((l.drop 4).take 4);rw [abA,abJ]at this;have C:min 4 (l.length-4)=4:=oQ;rw [C]at this;omega
 generalize s:ay.bD ((l.drop 4).take 4)=N at *
 have g:∀ w,au w0 w F->w.cell? ⟨bk,off+8,none⟩=some (.int .u8 (l.getD 8 0).toNat):=λw hw=>by
  exact Ij
 have xZ:=uQ g;have H:=uQ hr;have I:=uQ hl;have J:¬ l.length<9:=oQ;have K:¬ bc=4:=oQ;have L:l.length<=bc:=oQ;have D:(8:Int)<=bc:=oQ;have M:(8:Int)<l.length:=oQ;have E:=uQ (show l.length<=bc/\bc<=9223372036854775807/\9<=l.length/\N<4294967296 from ⟨c,d,by omega,u⟩);have t:IntKind.i64.wrap N=N:=by rw [aiY];omega
 have x:wrap64 N=N:=by rw [<-aoc];exact t
 clear o s g hr hl h9 c d u;generalize l.getD 8 0=tg at *
 have m:ay.fC tg N=false:=by
  have htu:tg=2:=by apply ak4.1;rw [ht];rfl
  subst htu;unfold ay.fC;rw [abB aU,abB aU,abL rfl];simp [hn]
 have Hf:=uQ (a.o.trans (abL m));clear m a;have O:(N==9)=false:=by rw [acj];omega
 have P:(N==9)=false:=by rw [acj];exact hn
 have Q:¬ N=9:=hn;clear hn;have G:=tg.toNat_lt;exact Pm
theorem asg (l:Bs) (hr:Ro w0 F (bK 1 bv (aI l))) (hcap:lS bv) (hl:l.length<=1099511627776) (h9:¬ l.length<9) (ht:(l.getD 8 0).toNat=1) (hn:ay.bD ((l.drop 4).take 4)≠41) (h:au w0 w F) :
  Calls prog 73 #[bv] w (bf λv w'=>∃ da dc,v=.tuple #[.agg (dR (ay.read l).1 (.slice da (ay.read l).1.data.length dc)),.int .i64 (ay.read l).2.1,dS (ay.read l).2.2]/\au w0 w' (cZ (.slice da (ay.read l).1.data.length dc) (ay.read l).1.data::F)):=by
 obtain ⟨z,A,bc,rfl,c,d⟩:=hcap;have o:A=l.length:=by
  obtain ⟨_,_,_,B,f,_⟩:=hr w h;cases B;rw [bP,aiR]at f;exact f.symm
 subst o;obtain ⟨bk,off,rfl,b⟩:∃ bk off,z=some ⟨bk,off,none⟩/\True:=by
  exact Ih
 clear b;have r:=hr w h;have g:=uQ (show ∀ (i j:Nat),i<=j->j<=l.length->∀ w,au w0 w F->bK 1 (.slice (some ⟨bk,off+i,none⟩) (j-i) (bc-i)) (aI ((l.take j).drop i)) w from λi j C D w hw=>yC (hr w hw) i j (bc-i) C D)
 have F7:=uQ (show ∀ w,au w0 w F->Calls prog 137 #[.slice (some ⟨bk,off+4,none⟩) 4 (bc-4)] w (bf λv w'=>v=.tuple #[.int .u64 (ay.bD ((l.drop 4).take 4):Nat),.bool true]/\w=w') from λw hw=>wP ((l.drop 4).take 4) yQ0 yE0 (by
  have:=g.o 4 8 oQ oQ w hw;rw [aom]at this;exact this))
 have s:=uQ (show ∀ w,au w0 w F->Calls prog 137 #[.slice (some ⟨bk,off,none⟩) 4 bc] w (bf λv w'=>v=.tuple #[.int .u64 (ay.bD (l.take 4):Nat),.bool true]/\w=w') from λw hw=>wP (l.take 4) yE0 yE0 (Es (hr w hw) oQ))
 have a:=uQ (show ay.read l=if ay.fC (l.getD 8 0) (ay.bD ((l.drop 4).take 4))=false then (ay.iL,0,4)
  else if l.length<ay.bD ((l.drop 4).take 4) then (ay.iL,0,3)
  else if ay.lq ((l.take (ay.bD ((l.drop 4).take 4))).drop 4)≠ay.bD (l.take 4) then (ay.iL,0,13)
  else if 41<=ay.bD ((l.drop 4).take 4) then (⟨(l.getD 8 0).toNat,(l.drop 9).take 32,(l.take (ay.bD ((l.drop 4).take 4))).drop 41⟩,ay.bD ((l.drop 4).take 4),0)
  else (⟨(l.getD 8 0).toNat,ay.gu,[]⟩,ay.bD ((l.drop 4).take 4),0) by unfold ay.read;rw [abB h9])
 have x:ay.bD ((l.drop 4).take 4)<4294967296:=by
  have:=ay.uP ((l.drop 4).take 4);rw [abA,abJ]at this;have E:min 4 (l.length-4)=4:=oQ;rw [E]at this;omega
 generalize t:ay.bD ((l.drop 4).take 4)=N at *
 have m:∀ w,au w0 w F->w.cell? ⟨bk,off+8,none⟩=some (.int .u8 (l.getD 8 0).toNat):=λw hw=>by
  exact Ij
 have xZ:=uQ m;have J:=uQ hr;have K:=uQ hl;have L:¬ l.length<9:=oQ;have M:¬ bc=4:=oQ;have O:l.length<=bc:=oQ;have G:(8:Int)<=bc:=oQ;have P:(8:Int)<l.length:=oQ;have H:=uQ (show l.length<=bc/\bc<=9223372036854775807/\9<=l.length/\N<4294967296 from ⟨c,d,by omega,x⟩);have u:IntKind.i64.wrap N=N:=by rw [aiY];omega
 have y:wrap64 N=N:=by rw [<-aoc];exact u
 clear r t m hr hl h9 c d x;generalize l.getD 8 0=tg at *
 have n:ay.fC tg N=false:=by
  have htu:tg=1:=by apply ak4.1;rw [ht];rfl
  subst htu;unfold ay.fC;rw [abB aU,abL rfl];simp [hn]
 have Hf:=uQ (a.o.trans (abL n));clear n a;have Q:(N==41)=false:=by rw [acj];omega
 have R:(N==41)=false:=by rw [acj];exact hn
 have S:¬ N=41:=hn;clear hn;have I:=tg.toNat_lt;exact Pm
theorem ase (l:Bs) (hr:Ro w0 F (bK 1 bv (aI l))) (hcap:lS bv) (hl:l.length<=1099511627776) (h9:¬ l.length<9) (ht:(l.getD 8 0).toNat=0) (hn:ay.bD ((l.drop 4).take 4)<41) (h:au w0 w F) :
  Calls prog 73 #[bv] w (bf λv w'=>∃ da dc,v=.tuple #[.agg (dR (ay.read l).1 (.slice da (ay.read l).1.data.length dc)),.int .i64 (ay.read l).2.1,dS (ay.read l).2.2]/\au w0 w' (cZ (.slice da (ay.read l).1.data.length dc) (ay.read l).1.data::F)):=by
 obtain ⟨y,z,bc,rfl,c,d⟩:=hcap;have n:z=l.length:=by
  exact Dv
 subst n;obtain ⟨bk,off,rfl,b⟩:∃ bk off,y=some ⟨bk,off,none⟩/\True:=by
  exact Ih
 clear b;have o:=hr w h;have f:=uQ (show ∀ (i j:Nat),i<=j->j<=l.length->∀ w,au w0 w F->bK 1 (.slice (some ⟨bk,off+i,none⟩) (j-i) (bc-i)) (aI ((l.take j).drop i)) w from λi j A B w hw=>yC (hr w hw) i j (bc-i) A B)
 have F7:=uQ (show ∀ w,au w0 w F->Calls prog 137 #[.slice (some ⟨bk,off+4,none⟩) 4 (bc-4)] w (bf λv w'=>v=.tuple #[.int .u64 (ay.bD ((l.drop 4).take 4):Nat),.bool true]/\w=w') from λw hw=>wP ((l.drop 4).take 4) yQ0 yE0 (by
  have:=f.o 4 8 oQ oQ w hw;rw [aom]at this;exact this))
 have r:=uQ (show ∀ w,au w0 w F->Calls prog 137 #[.slice (some ⟨bk,off,none⟩) 4 bc] w (bf λv w'=>v=.tuple #[.int .u64 (ay.bD (l.take 4):Nat),.bool true]/\w=w') from λw hw=>wP (l.take 4) yE0 yE0 (Es (hr w hw) oQ))
 have a:=uQ (show ay.read l=if ay.fC (l.getD 8 0) (ay.bD ((l.drop 4).take 4))=false then (ay.iL,0,4)
  else if l.length<ay.bD ((l.drop 4).take 4) then (ay.iL,0,3)
  else if ay.lq ((l.take (ay.bD ((l.drop 4).take 4))).drop 4)≠ay.bD (l.take 4) then (ay.iL,0,13)
  else if 41<=ay.bD ((l.drop 4).take 4) then (⟨(l.getD 8 0).toNat,(l.drop 9).take 32,(l.take (ay.bD ((l.drop 4).take 4))).drop 41⟩,ay.bD ((l.drop 4).take 4),0)
  else (⟨(l.getD 8 0).toNat,ay.gu,[]⟩,ay.bD ((l.drop 4).take 4),0) by unfold ay.read;rw [abB h9])
 have u:ay.bD ((l.drop 4).take 4)<4294967296:=by
  have:=ay.uP ((l.drop 4).take 4);rw [abA,abJ]at this;have C:min 4 (l.length-4)=4:=oQ;rw [C]at this;omega
 generalize s:ay.bD ((l.drop 4).take 4)=N at *
 have g:∀ w,au w0 w F->w.cell? ⟨bk,off+8,none⟩=some (.int .u8 (l.getD 8 0).toNat):=λw hw=>by
  exact Ij
 have xZ:=uQ g;have H:=uQ hr;have I:=uQ hl;have J:¬ l.length<9:=oQ;have K:¬ bc=4:=oQ;have L:l.length<=bc:=oQ;have D:(8:Int)<=bc:=oQ;have M:(8:Int)<l.length:=oQ;have E:=uQ (show l.length<=bc/\bc<=9223372036854775807/\9<=l.length/\N<4294967296 from ⟨c,d,by omega,u⟩);have t:IntKind.i64.wrap N=N:=by rw [aiY];omega
 have x:wrap64 N=N:=by rw [<-aoc];exact t
 clear o s g hr hl h9 c d u;generalize l.getD 8 0=tg at *
 have m:ay.fC tg N=false:=by
  exact afE
 have Hf:=uQ (a.o.trans (abL m));clear m a;have O:decide (N<41)=true:=aiC oQ;have P:N<41:=oQ;have G:=tg.toNat_lt;exact Pm
theorem asf (l:Bs) (hr:Ro w0 F (bK 1 bv (aI l))) (hcap:lS bv) (hl:l.length<=1099511627776) (h9:¬ l.length<9) (ht:(l.getD 8 0).toNat=0) (hn:16425<ay.bD ((l.drop 4).take 4)) (h:au w0 w F) :
  Calls prog 73 #[bv] w (bf λv w'=>∃ da dc,v=.tuple #[.agg (dR (ay.read l).1 (.slice da (ay.read l).1.data.length dc)),.int .i64 (ay.read l).2.1,dS (ay.read l).2.2]/\au w0 w' (cZ (.slice da (ay.read l).1.data.length dc) (ay.read l).1.data::F)):=by
 obtain ⟨y,z,bc,rfl,c,d⟩:=hcap;have n:z=l.length:=by
  exact Dv
 subst n;obtain ⟨bk,off,rfl,b⟩:∃ bk off,y=some ⟨bk,off,none⟩/\True:=by
  exact Ih
 clear b;have o:=hr w h;have f:=uQ (show ∀ (i j:Nat),i<=j->j<=l.length->∀ w,au w0 w F->bK 1 (.slice (some ⟨bk,off+i,none⟩) (j-i) (bc-i)) (aI ((l.take j).drop i)) w from λi j A B w hw=>yC (hr w hw) i j (bc-i) A B)
 have F7:=uQ (show ∀ w,au w0 w F->Calls prog 137 #[.slice (some ⟨bk,off+4,none⟩) 4 (bc-4)] w (bf λv w'=>v=.tuple #[.int .u64 (ay.bD ((l.drop 4).take 4):Nat),.bool true]/\w=w') from λw hw=>wP ((l.drop 4).take 4) yQ0 yE0 (by
  have:=f.o 4 8 oQ oQ w hw;rw [aom]at this;exact this))
 have r:=uQ (show ∀ w,au w0 w F->Calls prog 137 #[.slice (some ⟨bk,off,none⟩) 4 bc] w (bf λv w'=>v=.tuple #[.int .u64 (ay.bD (l.take 4):Nat),.bool true]/\w=w') from λw hw=>wP (l.take 4) yE0 yE0 (Es (hr w hw) oQ))
 have a:=uQ (show ay.read l=if ay.fC (l.getD 8 0) (ay.bD ((l.drop 4).take 4))=false then (ay.iL,0,4)
  else if l.length<ay.bD ((l.drop 4).take 4) then (ay.iL,0,3)
  else if ay.lq ((l.take (ay.bD ((l.drop 4).take 4))).drop 4)≠ay.bD (l.take 4) then (ay.iL,0,13)
  else if 41<=ay.bD ((l.drop 4).take 4) then (⟨(l.getD 8 0).toNat,(l.drop 9).take 32,(l.take (ay.bD ((l.drop 4).take 4))).drop 41⟩,ay.bD ((l.drop 4).take 4),0)
  else (⟨(l.getD 8 0).toNat,ay.gu,[]⟩,ay.bD ((l.drop 4).take 4),0) by unfold ay.read;rw [abB h9])
 have u:ay.bD ((l.drop 4).take 4)<4294967296:=by
  have:=ay.uP ((l.drop 4).take 4);rw [abA,abJ]at this;have C:min 4 (l.length-4)=4:=oQ;rw [C]at this;omega
 generalize s:ay.bD ((l.drop 4).take 4)=N at *
 have g:∀ w,au w0 w F->w.cell? ⟨bk,off+8,none⟩=some (.int .u8 (l.getD 8 0).toNat):=λw hw=>by
  exact Ij
 have xZ:=uQ g;have H:=uQ hr;have I:=uQ hl;have J:¬ l.length<9:=oQ;have K:¬ bc=4:=oQ;have L:l.length<=bc:=oQ;have D:(8:Int)<=bc:=oQ;have M:(8:Int)<l.length:=oQ;have E:=uQ (show l.length<=bc/\bc<=9223372036854775807/\9<=l.length/\N<4294967296 from ⟨c,d,by omega,u⟩);have t:IntKind.i64.wrap N=N:=by rw [aiY];omega
 have x:wrap64 N=N:=by rw [<-aoc];exact t
 clear o s g hr hl h9 c d u;generalize l.getD 8 0=tg at *
 have m:ay.fC tg N=false:=by
  exact afE
 have Hf:=uQ (a.o.trans (abL m));clear m a;have O:=aes oQ;have P:=aiC oQ;have Q:16425<N:=oQ;have G:=tg.toNat_lt;exact Pm
theorem asa (l:Bs) (hr:Ro w0 F (bK 1 bv (aI l))) (hcap:lS bv) (hl:l.length<=1099511627776) (h9:¬ l.length<9) (ht:(l.getD 8 0).toNat=0) (hn:41<=ay.bD ((l.drop 4).take 4)/\ay.bD ((l.drop 4).take 4)<=16425) (h:au w0 w F) :
  Calls prog 73 #[bv] w (bf λv w'=>∃ da dc,v=.tuple #[.agg (dR (ay.read l).1 (.slice da (ay.read l).1.data.length dc)),.int .i64 (ay.read l).2.1,dS (ay.read l).2.2]/\au w0 w' (cZ (.slice da (ay.read l).1.data.length dc) (ay.read l).1.data::F)):=by
 obtain ⟨ba,bn,bc,rfl,T,U⟩:=hcap;have V:bn=l.length:=by
  obtain ⟨_,_,_,he,t,_⟩:=hr w h;cases he;rw [bP,aiR]at t;exact t.symm
 subst V;obtain ⟨d,off,rfl,L⟩:∃ d off,ba=some ⟨d,off,none⟩/\True:=by
  have M:(aI l)[0]?=some (.int .u8 (l[0]'oQ).toNat):=by
   unfold aI;rw [ab4,aaf oQ];rfl
  obtain ⟨d,off,W,_⟩:=pq (hr w h) M;exact ⟨d,off,W,trivial⟩
 clear L;have hrd:=hr w h;have u:=uQ (show ∀ (i j:Nat),i<=j->j<=l.length->∀ w,au w0 w F->bK 1 (.slice (some ⟨d,off+i,none⟩) (j-i) (bc-i)) (aI ((l.take j).drop i)) w from λi j h1 h2 w x=>yC (hr w x) i j (bc-i) h1 h2)
 have X:=uQ (show ∀ w,au w0 w F->Calls prog 137 #[.slice (some ⟨d,off+4,none⟩) 4 (bc-4)] w (bf λv w'=>v=.tuple #[.int .u64 (ay.bD ((l.drop 4).take 4):Nat),.bool true]/\w=w') from λw x=>wP ((l.drop 4).take 4) yQ0 yE0 (by
  have:=u.o 4 8 oQ oQ w x;rw [aom]at this;exact this))
 have O:=uQ (show ∀ w,au w0 w F->Calls prog 137 #[.slice (some ⟨d,off,none⟩) 4 bc] w (bf λv w'=>v=.tuple #[.int .u64 (ay.bD (l.take 4):Nat),.bool true]/\w=w') from λw x=>wP (l.take 4) yE0 yE0 (Es (hr w x) oQ))
 have y:=uQ (show ay.read l=if ay.fC (l.getD 8 0) (ay.bD ((l.drop 4).take 4))=false then (ay.iL,0,4)
  else if l.length<ay.bD ((l.drop 4).take 4) then (ay.iL,0,3)
  else if ay.lq ((l.take (ay.bD ((l.drop 4).take 4))).drop 4)≠ay.bD (l.take 4) then (ay.iL,0,13)
  else if 41<=ay.bD ((l.drop 4).take 4) then (⟨(l.getD 8 0).toNat,(l.drop 9).take 32,(l.take (ay.bD ((l.drop 4).take 4))).drop 41⟩,ay.bD ((l.drop 4).take 4),0)
  else (⟨(l.getD 8 0).toNat,ay.gu,[]⟩,ay.bD ((l.drop 4).take 4),0) by unfold ay.read;rw [abB h9])
 have hN:ay.bD ((l.drop 4).take 4)<4294967296:=by
  have:=ay.uP ((l.drop 4).take 4);rw [abA,abJ]at this;have h4:min 4 (l.length-4)=4:=oQ;rw [h4]at this;omega
 generalize hNN:ay.bD ((l.drop 4).take 4)=N at *
 have Y:∀ w,au w0 w F->w.cell? ⟨d,off+8,none⟩=some (.int .u8 (l.getD 8 0).toNat):=λw x=>by
  have M:(aI l)[8]?=some (.int .u8 (l.getD 8 0).toNat):=by
   unfold aI;rw [ab4,abY,aaf oQ];rfl
  obtain ⟨MO,off',W,Z⟩:=pq (hr w x) M;cases W;exact Z _ _ M
 have xZ:=uQ Y;have Hr:=uQ hr;have Hl:=uQ hl;have c1:¬ (l.length:Int)<9:=oQ;have c2:¬ bc=4:=oQ;have c4:(l.length:Int)<=(bc:Int):=oQ;have c4b:(8:Int)<=(bc:Int):=oQ;have c5:(8:Int)<(l.length:Int):=oQ;have IY:=uQ (show l.length<=bc/\bc<=9223372036854775807/\9<=l.length/\N<4294967296 from ⟨T,U,by omega,hN⟩);have hcv:IntKind.i64.wrap (N:Int)=(N:Int):=by rw [aiY];omega
 have hcv2:wrap64 (N:Int)=(N:Int):=by rw [<-aoc];exact hcv
 clear hrd hNN Y hr hl h9 T U hN;generalize l.getD 8 0=H at *
 have aa:ay.fC H N=true:=by
  have htu:H=0:=by apply ak4.1;rw [ht];rfl
  subst htu;unfold ay.fC;rw [abL rfl];simp;omega
 have NH:9<=N:=oQ;have d1:decide ((N:Int)<41)=false:=aes oQ;have d1b:¬ N<41:=oQ;have d2:decide (16425<(N:Int))=false:=aes oQ;have d2b:¬ 16425<N:=oQ;have ab:41<=N:=hn.1;have hN16:N<=16425:=hn.2;clear hn;have Hf:=uQ (y.o.trans (abB (by rw [aa];decide)));clear aa y;have NR:=H.toNat_lt;have hct:IntKind.i64.wrap (H.toNat:Int)=(H.toNat:Int):=by rw [aiY];omega
 have abT:wrap64 (H.toNat:Int)=(H.toNat:Int):=by rw [<-aoc];exact hct
 have htn:=ht;clear ht;generalize H.toNat=tn at *
 subst htn;go_enter func73,ntmps73;go_wp2_with ((with_reducible refine ql ⟨?_⟩);refine qA aQ ?_;intro bR wR S);refine (X.o _ S.drop).mono ?_;rintro ee w2 ⟨v,rfl,rfl,rfl⟩;have e8:=xZ.o _ S.drop;by_cases f:l.length<N
 ·have z:=uQ (Hf.o.trans (abL f));have c6:(l.length:Int)<(N:Int):=oQ;have RY:l.length<N:=f;clear f;go_wp2_with (first|((with_reducible refine uG ⟨?_⟩);refine uX ?_)|((with_reducible refine mY ⟨?_⟩);first|(refine jk aQ aA aA fQ fJ sQ ?_;intro P s)|(refine jk (e:=ay.iL) (da:=none) (dn:=0) (dc:=0) aQ aA aA rfl fJ sQ ?_;intro P s)));rw [z.o];refine ⟨rfl,_,vT rfl aQ aA dh rfl,_,rfl,none,0,rfl,au.iW.2 (au.sb s)⟩
 have z:=uQ (Hf.o.trans (abB f));have c6:¬ (l.length:Int)<(N:Int):=oQ;have RY:¬ l.length<N:=f;have c8:(N:Int)<=(bc:Int):=oQ;have c8b:(4:Int)<=(bc:Int):=oQ;have m:=uQ (show N<=l.length/\9<=N by omega);have c7:(4:Int)<=(N:Int):=oQ;clear f Hf;go_wp2_with fail;refine (O.o _ S.drop).mono ?_;rintro ee w2 ⟨v,rfl,rfl,rfl⟩;have ac:=ay.Gq ((l.take N).drop 4);have I:=Ws ((l.take N).drop 4) (u.o 4 N (by have:=m.o;omega) m.o.1 _ S.drop) yP0;go_wp2_with fail;refine I.mono ?_;clear I;rintro ee w2 ⟨v,rfl,rfl,rfl⟩;generalize ay.lq ((l.take N).drop 4)=A at *
 generalize ay.bD (l.take 4)=B at *
 have hAc:(A:Int)%18446744073709551616=(A:Int):=oQ;have hAd:IntKind.u64.wrap (A:Int)=(A:Int):=hAc;clear ac;by_cases G:A=B;rotate_left
 ·have Q:=uQ (z.o.trans (abL G));have c9:((A:Int)==(B:Int))=false:=by rw [acj];omega
  have c9b:¬ A=B:=G;clear G;go_wp2_with (first|((with_reducible refine uG ⟨?_⟩);refine uX ?_)|((with_reducible refine mY ⟨?_⟩);first|(refine jk aQ aA aA fQ fJ sQ ?_;intro P s)|(refine jk (e:=ay.iL) (da:=none) (dn:=0) (dc:=0) aQ aA aA rfl fJ sQ ?_;intro P s)));rw [Q.o];refine ⟨rfl,_,vT rfl aQ aA dh rfl,_,rfl,none,0,rfl,au.iW.2 (au.sb s)⟩
 subst G;have Q:=uQ (z.o.trans (abB (λh=>h rfl)));clear z;have ae:=uQ (Q.o.trans (abL ab));have c9:(41:Int)<=(N:Int):=oQ;have c11:(41:Int)<=(bc:Int):=oQ;obtain ⟨ad,af,hsl⟩:∃ ad:Addr,(41<N->ad=⟨d,off+41,none⟩)/\∀ w,(Instr.sliceAt 59 (.slice (some ⟨d,off,none⟩) l.length bc) (some (.int .i64 41)) (some (.int .i64 N)) none).run prog w=.ok (.slice (some ad) (N-41) (bc-41)) w:=by
  by_cases hce:bc=41
  ·refine ⟨⟨d,off,none⟩,λhh=>by have:=m.o;have:=IY.o;omega,λw=>?_⟩;have c12:(N:Int)<=41:=oQ;have c13:¬ (41:Int)<(N:Int):=oQ;go_simp
  ·refine ⟨⟨d,off+41,none⟩,λ_=>rfl,λw=>?_⟩;go_simp
 have QF:=uQ af
 have ag:=uQ (show ∀ w,au w0 w F->bK 1 (.slice (some ad) (N-41) (bc-41)) (aI ((l.take N).drop 41)) w from λw x=>by
  by_cases h2:41<N
  ·rw [QF.o h2];exact u.o 41 N oQ m.o.1 w x
  ·have:(l.take N).drop 41=[]:=aiU yE0;rw [this,show N-41=0 by omega];exact ⟨_,0,_,rfl,rfl,by simp [aI]⟩)
 clear ab af d1 d1b d2 d2b;have a:=uQ (show ((l.drop 9).take 32).length=32 by rw [abA,abJ];have:=m.o;omega)
 have C:=uQ (show ∀ (i:Nat) (c:UInt8),((l.drop 9).take 32)[i]?=some c->∀ w,au w0 w F->w.cell? ⟨d,off+(9+i),none⟩=some (.int .u8 c.toNat) from λi c Z w x=>by
  have hi:i<32:=by have:=(abM.1 Z).1;rw [a.o]at this;exact this
  rw [avD hi,anv]at Z;have M:(aI l)[9+i]?=some (.int .u8 c.toNat):=by unfold aI;rw [ab4,Z];rfl
  obtain ⟨b',o',W,D⟩:=pq (Hr.o w x) M;cases W;exact D _ _ M)
 go_wp2_with (first|((with_reducible refine Jc ⟨?_⟩);refine KU aA ?_)|((with_reducible refine ql ⟨?_⟩);refine qA aQ ?_;intro bE wE S)|((with_reducible refine mY ⟨?_⟩);first|(refine jk aQ aA aA fQ fJ sQ ?_;intro P s)|(refine jk (e:=ay.iL) (da:=none) (dn:=0) (dc:=0) aQ aA aA rfl fJ sQ ?_;intro P s))|((with_reducible refine xA ⟨?_⟩);refine xU aQ aA dh fQ ?_));have hS0:=s;clear s S e8;obtain ⟨J,hkk⟩:∃ J,J=(l.drop 9).take 32:=⟨_,rfl⟩;rw [<-hkk]at ae a C;clear hkk
 go_loopg [12] 32 (λg iq wr=>∃ i:Nat,g=32-i/\i<=32/\iq=.int .i64 i/\au w0 wr (pt bE (.cells (dR ⟨0,wH J i,[]⟩ (.slice none 0 0)) 71 (0,0))::pt bR (.cells (dR ay.iL (.slice none 0 0)) 71 (0,0))::F))
 case atStart=>exact ⟨0,rfl,by decide,rfl,hS0⟩
 case round=>
  obtain ⟨i,rfl,hi,rfl,n⟩:=hrel;clear hS0;by_cases r:i<32
  ·have e1:(i:Int)<32:=oQ;have hwi:=EN (i:=i);have hw9:IntKind.i64.wrap (9+(i:Int))=((9+i:Nat):Int):=by rw [show (9:Int)+(i:Int)=((9+i:Nat):Int) by omega];exact abR _ oQ
   have V:((9+i:Nat):Int)<(l.length:Int):=by have:=m.o;omega
   obtain ⟨R,D⟩:∃ R,J[i]?=some R:=⟨_,aaf (by rw [a.o];exact r)⟩;have ec:=C.o i R D _ n.drop.drop;have E:=aaN ⟨0,wH J i,[]⟩ (.slice none 0 0) i R (by show i<(wH J i).length;rw [N8 a.o hi];exact r);simp only [acV a.o r D]at E;have F9:=uQ E;have dP:=uQ r;have K:1+i+1<=(dR ⟨0,wH J i,[]⟩ (.slice none 0 0)).size:=by rw [iw _ _ (N8 a.o hi)];omega
   have QK:=uQ K;clear E D r K;generalize h9i:9+i=q at *
   go_wp2_with ((with_reducible refine eG ⟨?_⟩);refine jI (b:=bE) (o:=1+i) (v:= .int .u8 R.toNat) n aA aF F9.o eu QK.o aC aA ?_;intro wT hT)
   go_roundg (32-(i+1))
   case measure=>have:=dP.o;omega
   case rel=>exact ⟨i+1,rfl,aiW dP.o,by first|rfl|go_num,hT⟩
  ·obtain rfl:i=32:=oQ;have e1:¬ ((32:Nat):Int)<32:=aU;rw [acU a.o]at n;clear r hi;have hkl:=a.o;go_wp2_with ((with_reducible refine Zx ⟨?_⟩);refine ais aA aA aA hsl ?_);refine (aac n _ (ag.o _ n.drop.drop) yP0).mono ?_;rintro ee w3 ⟨v,rfl,hS3,ca,cn,R,rfl⟩;have hcn:cn=((l.take N).drop 41).length:=by
    obtain ⟨_,_,_,he,t,_⟩:=au.rd hS3;cases he;rw [bP,aiR]at t;exact t.symm
   subst hcn;generalize (l.take N).drop 41=data at *
   clear n
   go_wp2_with (first
    |((with_reducible refine eG ⟨?_⟩);refine ait (e:=⟨0,J,[]⟩) (data:=data) hS3 aA aA hkl fJ ?_;intro wD hD)
    |((with_reducible refine xA ⟨?_⟩);refine xU aQ aA dh fQ ?_)|((with_reducible refine mY ⟨?_⟩);first|(refine jk aQ aA aA fQ fJ sQ ?_;intro P s)|(refine jk (e:=ay.iL) (da:=none) (dn:=0) (dc:=0) aQ aA aA rfl fJ sQ ?_;intro P s)))
   rw [ae.o];simp only;refine ⟨rfl,_,vT rfl aQ aA dh hkl,_,rfl,ca,R,rfl,au.sb s⟩
theorem asc (l:Bs) (hr:Ro w0 F (bK 1 bv (aI l))) (hcap:lS bv) (hl:l.length<=1099511627776) (h9:¬ l.length<9) (ht:(l.getD 8 0).toNat=2) (hn:ay.bD ((l.drop 4).take 4)=9) (h:au w0 w F) :
  Calls prog 73 #[bv] w (bf λv w'=>∃ da dc,v=.tuple #[.agg (dR (ay.read l).1 (.slice da (ay.read l).1.data.length dc)),.int .i64 (ay.read l).2.1,dS (ay.read l).2.2]/\au w0 w' (cZ (.slice da (ay.read l).1.data.length dc) (ay.read l).1.data::F)):=by
 obtain ⟨ba,bn,bc,rfl,z,C⟩:=hcap;have O:bn=l.length:=by
  obtain ⟨_,_,_,he,D,_⟩:=hr w h;cases he;rw [bP,aiR]at D;exact D.symm
 subst O;obtain ⟨f,off,rfl,r⟩:∃ f off,ba=some ⟨f,off,none⟩/\True:=by
  have M:(aI l)[0]?=some (.int .u8 (l[0]'oQ).toNat):=by
   unfold aI;rw [ab4,aaf oQ];rfl
  obtain ⟨f,off,P,_⟩:=pq (hr w h) M;exact ⟨f,off,P,trivial⟩
 clear r;have Q:=hr w h;have m:=uQ (show ∀ (i j:Nat),i<=j->j<=l.length->∀ w,au w0 w F->bK 1 (.slice (some ⟨f,off+i,none⟩) (j-i) (bc-i)) (aI ((l.take j).drop i)) w from λi j h1 h2 w s=>yC (hr w s) i j (bc-i) h1 h2)
 have E:=uQ (show ∀ w,au w0 w F->Calls prog 137 #[.slice (some ⟨f,off+4,none⟩) 4 (bc-4)] w (bf λv w'=>v=.tuple #[.int .u64 (ay.bD ((l.drop 4).take 4):Nat),.bool true]/\w=w') from λw s=>wP ((l.drop 4).take 4) yQ0 yE0 (by
  have:=m.o 4 8 oQ oQ w s;rw [aom]at this;exact this))
 have t:=uQ (show ∀ w,au w0 w F->Calls prog 137 #[.slice (some ⟨f,off,none⟩) 4 bc] w (bf λv w'=>v=.tuple #[.int .u64 (ay.bD (l.take 4):Nat),.bool true]/\w=w') from λw s=>wP (l.take 4) yE0 yE0 (Es (hr w s) oQ))
 have c:=uQ (show ay.read l=if ay.fC (l.getD 8 0) (ay.bD ((l.drop 4).take 4))=false then (ay.iL,0,4)
  else if l.length<ay.bD ((l.drop 4).take 4) then (ay.iL,0,3)
  else if ay.lq ((l.take (ay.bD ((l.drop 4).take 4))).drop 4)≠ay.bD (l.take 4) then (ay.iL,0,13)
  else if 41<=ay.bD ((l.drop 4).take 4) then (⟨(l.getD 8 0).toNat,(l.drop 9).take 32,(l.take (ay.bD ((l.drop 4).take 4))).drop 41⟩,ay.bD ((l.drop 4).take 4),0)
  else (⟨(l.getD 8 0).toNat,ay.gu,[]⟩,ay.bD ((l.drop 4).take 4),0) by unfold ay.read;rw [abB h9])
 have hN:ay.bD ((l.drop 4).take 4)<4294967296:=by
  have:=ay.uP ((l.drop 4).take 4);rw [abA,abJ]at this;have h4:min 4 (l.length-4)=4:=oQ;rw [h4]at this;omega
 generalize R:ay.bD ((l.drop 4).take 4)=N at *
 have G:∀ w,au w0 w F->w.cell? ⟨f,off+8,none⟩=some (.int .u8 (l.getD 8 0).toNat):=λw s=>by
  have M:(aI l)[8]?=some (.int .u8 (l.getD 8 0).toNat):=by
   unfold aI;rw [ab4,abY,aaf oQ];rfl
  obtain ⟨ae,ab,P,hc⟩:=pq (hr w s) M;cases P;exact hc _ _ M
 have S:=uQ G;have Hr:=uQ hr;have Hl:=uQ hl;have c1:¬ l.length<9:=oQ;have c2:¬ bc=4:=oQ;have c4:l.length<=bc:=oQ;have af:(8:Int)<=bc:=oQ;have c5:(8:Int)<l.length:=oQ;have ag:=uQ (show l.length<=bc/\bc<=9223372036854775807/\9<=l.length/\N<4294967296 from ⟨z,C,by omega,hN⟩);have T:IntKind.i64.wrap N=N:=by rw [aiY];omega
 have ac:wrap64 N=N:=by rw [<-aoc];exact T
 clear Q R G hr hl h9 z C hN;generalize l.getD 8 0=n at *
 have H:ay.fC n N=true:=by
  have U:n=2:=by apply ak4.1;rw [ht];rfl
  subst U;unfold ay.fC;rw [abB aU,abB aU,abL rfl];simp [hn]
 have ah:9<=N:=oQ;have I:¬ 41<=N:=oQ;subst hn;have V:=uQ (c.o.trans (abB (by rw [H];decide)));clear H c;have ai:=n.toNat_lt;have W:IntKind.i64.wrap n.toNat=n.toNat:=by rw [aiY];omega
 have ad:wrap64 n.toNat=n.toNat:=by rw [<-aoc];exact W
 have X:=ht;clear ht;generalize n.toNat=tn at *
 subst X;go_enter func73,ntmps73;go_wp2_with ((with_reducible refine ql ⟨?_⟩);refine qA aQ ?_;intro bR wR y);refine (E.o _ y.drop).mono ?_;rintro ee w2 ⟨v,rfl,rfl,rfl⟩;have e8:=S.o _ y.drop;by_cases a:l.length<9
 ·have d:=uQ (V.o.trans (abL a));have c6:(l.length:Int)<(9:Int):=oQ;have Y:l.length<9:=a;clear a;go_wp2_with (first|((with_reducible refine uG ⟨?_⟩);refine uX ?_)|((with_reducible refine mY ⟨?_⟩);first|(refine jk aQ aA aA fQ fJ sQ ?_;intro u b)|(refine jk aQ aA aA rfl fJ sQ ?_;intro u b)));rw [d.o];refine ⟨rfl,_,vT rfl aQ aA dh rfl,_,rfl,none,0,rfl,au.iW.2 (au.sb b)⟩
 have d:=uQ (V.o.trans (abB a));have c6:¬ (l.length:Int)<(9:Int):=oQ;have Y:¬ l.length<9:=a;have c8:(9:Int)<=(bc:Int):=oQ;have aj:(4:Int)<=(bc:Int):=oQ;have J:=uQ (show 9<=l.length/\9<=9 by omega);have c7:(4:Int)<=(9:Int):=oQ;clear a V;go_wp2_with fail;refine (t.o _ y.drop).mono ?_;rintro ee w2 ⟨v,rfl,rfl,rfl⟩;have K:=ay.Gq ((l.take 9).drop 4);have o:=Ws ((l.take 9).drop 4) (m.o 4 9 zO0 J.o.1 _ y.drop) yP0;go_wp2_with fail;refine o.mono ?_;clear o;rintro ee w2 ⟨v,rfl,rfl,rfl⟩;generalize ay.lq ((l.take 9).drop 4)=A at *
 generalize ay.bD (l.take 4)=B at *
 have Z:(A:Int)%18446744073709551616=(A:Int):=oQ;have ak:IntKind.u64.wrap (A:Int)=(A:Int):=Z;clear K;by_cases e:A=B;rotate_left
 ·have x:=uQ (d.o.trans (abL e));have c9:((A:Int)==(B:Int))=false:=by rw [acj];omega
  have al:¬ A=B:=e;clear e;go_wp2_with (first|((with_reducible refine uG ⟨?_⟩);refine uX ?_)|((with_reducible refine mY ⟨?_⟩);first|(refine jk aQ aA aA fQ fJ sQ ?_;intro u b)|(refine jk aQ aA aA rfl fJ sQ ?_;intro u b)));rw [x.o];refine ⟨rfl,_,vT rfl aQ aA dh rfl,_,rfl,none,0,rfl,au.iW.2 (au.sb b)⟩
 subst e;have x:=uQ (d.o.trans (abB (λh=>h rfl)));clear d;have aa:=uQ (x.o.trans (abB I));clear I;go_wp2_with (first|((with_reducible refine Jc ⟨?_⟩);refine KU aA ?_)|((with_reducible refine ql ⟨?_⟩);refine qA aQ ?_;intro bE wE y)|((with_reducible refine mY ⟨?_⟩);first|(refine jk aQ aA aA fQ fJ sQ ?_;intro u b)|(refine jk aQ aA aA rfl fJ sQ ?_;intro u b))|((with_reducible refine xA ⟨?_⟩);refine xU aQ aA dh fQ ?_));have L:=b;clear b y e8
 go_loopg [12] 0 (λg iq wr=>iq=.int .i64 0/\au w0 wr (pt bE (.cells (dR ⟨2,ay.gu,[]⟩ (.slice none 0 0)) 71 (0,0))::pt bR (.cells (dR ay.iL (.slice none 0 0)) 71 (0,0))::F))
 case atStart=>exact ⟨rfl,L⟩
 case round=>
  obtain ⟨rfl,am⟩:=hrel;clear L;go_wp2_with (first|((with_reducible refine xA ⟨?_⟩);refine xU aQ aA dh fQ ?_)|((with_reducible refine mY ⟨?_⟩);first|(refine jk aQ aA aA fQ fJ sQ ?_;intro u b)|(refine jk aQ aA aA rfl fJ sQ ?_;intro u b)));rw [aa.o];simp only [ajw];refine ⟨rfl,_,vT rfl aQ aA dh rfl,_,rfl,none,0,rfl,au.iW.2 (au.sb b)⟩
theorem asb (l:Bs) (hr:Ro w0 F (bK 1 bv (aI l))) (hcap:lS bv) (hl:l.length<=1099511627776) (h9:¬ l.length<9) (ht:(l.getD 8 0).toNat=1) (hn:ay.bD ((l.drop 4).take 4)=41) (h:au w0 w F) :
  Calls prog 73 #[bv] w (bf λv w'=>∃ da dc,v=.tuple #[.agg (dR (ay.read l).1 (.slice da (ay.read l).1.data.length dc)),.int .i64 (ay.read l).2.1,dS (ay.read l).2.2]/\au w0 w' (cZ (.slice da (ay.read l).1.data.length dc) (ay.read l).1.data::F)):=by
 obtain ⟨ba,bn,bc,rfl,Q,R⟩:=hcap;have S:bn=l.length:=by
  obtain ⟨_,_,_,he,T,_⟩:=hr w h;cases he;rw [bP,aiR]at T;exact T.symm
 subst S;obtain ⟨t,off,rfl,G⟩:∃ t off,ba=some ⟨t,off,none⟩/\True:=by
  have H:(aI l)[0]?=some (.int .u8 (l[0]'oQ).toNat):=by
   unfold aI;rw [ab4,aaf oQ];rfl
  obtain ⟨t,off,U,_⟩:=pq (hr w h) H;exact ⟨t,off,U,trivial⟩
 clear G;have hrd:=hr w h;have z:=uQ (show ∀ (i j:Nat),i<=j->j<=l.length->∀ w,au w0 w F->bK 1 (.slice (some ⟨t,off+i,none⟩) (j-i) (bc-i)) (aI ((l.take j).drop i)) w from λi j h1 h2 w u=>yC (hr w u) i j (bc-i) h1 h2)
 have V:=uQ (show ∀ w,au w0 w F->Calls prog 137 #[.slice (some ⟨t,off+4,none⟩) 4 (bc-4)] w (bf λv w'=>v=.tuple #[.int .u64 (ay.bD ((l.drop 4).take 4):Nat),.bool true]/\w=w') from λw u=>wP ((l.drop 4).take 4) yQ0 yE0 (by
  have:=z.o 4 8 oQ oQ w u;rw [aom]at this;exact this))
 have I:=uQ (show ∀ w,au w0 w F->Calls prog 137 #[.slice (some ⟨t,off,none⟩) 4 bc] w (bf λv w'=>v=.tuple #[.int .u64 (ay.bD (l.take 4):Nat),.bool true]/\w=w') from λw u=>wP (l.take 4) yE0 yE0 (Es (hr w u) oQ))
 have e:=uQ (show ay.read l=if ay.fC (l.getD 8 0) (ay.bD ((l.drop 4).take 4))=false then (ay.iL,0,4)
  else if l.length<ay.bD ((l.drop 4).take 4) then (ay.iL,0,3)
  else if ay.lq ((l.take (ay.bD ((l.drop 4).take 4))).drop 4)≠ay.bD (l.take 4) then (ay.iL,0,13)
  else if 41<=ay.bD ((l.drop 4).take 4) then (⟨(l.getD 8 0).toNat,(l.drop 9).take 32,(l.take (ay.bD ((l.drop 4).take 4))).drop 41⟩,ay.bD ((l.drop 4).take 4),0)
  else (⟨(l.getD 8 0).toNat,ay.gu,[]⟩,ay.bD ((l.drop 4).take 4),0) by unfold ay.read;rw [abB h9])
 have hN:ay.bD ((l.drop 4).take 4)<4294967296:=by
  have:=ay.uP ((l.drop 4).take 4);rw [abA,abJ]at this;have h4:min 4 (l.length-4)=4:=oQ;rw [h4]at this;omega
 generalize hNN:ay.bD ((l.drop 4).take 4)=N at *
 have hc8:∀ w,au w0 w F->w.cell? ⟨t,off+8,none⟩=some (.int .u8 (l.getD 8 0).toNat):=λw u=>by
  have H:(aI l)[8]?=some (.int .u8 (l.getD 8 0).toNat):=by
   unfold aI;rw [ab4,abY,aaf oQ];rfl
  obtain ⟨MO,off',U,hc⟩:=pq (hr w u) H;cases U;exact hc _ _ H
 have xZ:=uQ hc8;have Hr:=uQ hr;have Hl:=uQ hl;have c1:¬ (l.length:Int)<9:=oQ;have c2:¬ bc=4:=oQ;have c4:(l.length:Int)<=(bc:Int):=oQ;have c4b:(8:Int)<=(bc:Int):=oQ;have c5:(8:Int)<(l.length:Int):=oQ;have IY:=uQ (show l.length<=bc/\bc<=9223372036854775807/\9<=l.length/\N<4294967296 from ⟨Q,R,by omega,hN⟩);have hcv:IntKind.i64.wrap (N:Int)=(N:Int):=by rw [aiY];omega
 have hcv2:wrap64 (N:Int)=(N:Int):=by rw [<-aoc];exact hcv
 clear hrd hNN hc8 hr hl h9 Q R hN;generalize l.getD 8 0=C at *
 have hft:ay.fC C N=true:=by
  have htu:C=1:=by apply ak4.1;rw [ht];rfl
  subst htu;unfold ay.fC;rw [abB aU,abL rfl];simp [hn]
 have NH:9<=N:=oQ;have xC:41<=N:=oQ;subst hn;have Hf:=uQ (e.o.trans (abB (by rw [hft];decide)));clear hft e;have NR:=C.toNat_lt;have hct:IntKind.i64.wrap (C.toNat:Int)=(C.toNat:Int):=by rw [aiY];omega
 have abT:wrap64 (C.toNat:Int)=(C.toNat:Int):=by rw [<-aoc];exact hct
 have htn:=ht;clear ht;generalize C.toNat=tn at *
 subst htn;go_enter func73,ntmps73;go_wp2_with ((with_reducible refine ql ⟨?_⟩);refine qA aQ ?_;intro bR wR O);refine (V.o _ O.drop).mono ?_;rintro ee w2 ⟨v,rfl,rfl,rfl⟩;have e8:=xZ.o _ O.drop;by_cases b:l.length<41
 ·have f:=uQ (Hf.o.trans (abL b));have c6:(l.length:Int)<(41:Int):=oQ;have RY:l.length<41:=b;clear b;go_wp2_with (first|((with_reducible refine uG ⟨?_⟩);refine uX ?_)|((with_reducible refine mY ⟨?_⟩);first|(refine jk aQ aA aA fQ fJ sQ ?_;intro P m)|(refine jk aQ aA aA rfl fJ sQ ?_;intro P m)));rw [f.o];refine ⟨rfl,_,vT rfl aQ aA dh rfl,_,rfl,none,0,rfl,au.iW.2 (au.sb m)⟩
 have f:=uQ (Hf.o.trans (abB b));have c6:¬ (l.length:Int)<(41:Int):=oQ;have RY:¬ l.length<41:=b;have c8:(41:Int)<=(bc:Int):=oQ;have c8b:(4:Int)<=(bc:Int):=oQ;have x:=uQ (show 41<=l.length/\9<=41 by omega);have c7:(4:Int)<=(41:Int):=oQ;clear b Hf;go_wp2_with fail;refine (I.o _ O.drop).mono ?_;rintro ee w2 ⟨v,rfl,rfl,rfl⟩;have am9:=ay.Gq ((l.take 41).drop 4);have D:=Ws ((l.take 41).drop 4) (z.o 4 41 (by have:=x.o;omega) x.o.1 _ O.drop) yP0;go_wp2_with fail;refine D.mono ?_;clear D;rintro ee w2 ⟨v,rfl,rfl,rfl⟩;generalize ay.lq ((l.take 41).drop 4)=A at *
 generalize ay.bD (l.take 4)=B at *
 have hAc:(A:Int)%18446744073709551616=(A:Int):=oQ;have hAd:IntKind.u64.wrap (A:Int)=(A:Int):=hAc;clear am9;by_cases y:A=B;rotate_left
 ·have J:=uQ (f.o.trans (abL y));have c9:((A:Int)==(B:Int))=false:=by rw [acj];omega
  have c9b:¬ A=B:=y;clear y;go_wp2_with (first|((with_reducible refine uG ⟨?_⟩);refine uX ?_)|((with_reducible refine mY ⟨?_⟩);first|(refine jk aQ aA aA fQ fJ sQ ?_;intro P m)|(refine jk aQ aA aA rfl fJ sQ ?_;intro P m)));rw [J.o];refine ⟨rfl,_,vT rfl aQ aA dh rfl,_,rfl,none,0,rfl,au.iW.2 (au.sb m)⟩
 subst y;have J:=uQ (f.o.trans (abB (λh=>h rfl)));clear f;have K:=uQ (J.o.trans (abL xC));clear xC;have a:=uQ (show ((l.drop 9).take 32).length=32 by rw [abA,abJ];have:=x.o;omega)
 have n:=uQ (show ∀ (i:Nat) (c:UInt8),((l.drop 9).take 32)[i]?=some c->∀ w,au w0 w F->w.cell? ⟨t,off+(9+i),none⟩=some (.int .u8 c.toNat) from λi c hc w u=>by
  have hi:i<32:=by have:=(abM.1 hc).1;rw [a.o]at this;exact this
  rw [avD hi,anv]at hc;have H:(aI l)[9+i]?=some (.int .u8 c.toNat):=by unfold aI;rw [ab4,hc];rfl
  obtain ⟨b',o',U,o⟩:=pq (Hr.o w u) H;cases U;exact o _ _ H)
 go_wp2_with (first|((with_reducible refine Jc ⟨?_⟩);refine KU aA ?_)|((with_reducible refine ql ⟨?_⟩);refine qA aQ ?_;intro bE wE O)|((with_reducible refine mY ⟨?_⟩);first|(refine jk aQ aA aA fQ fJ sQ ?_;intro P m)|(refine jk (dc:=0) aQ aA aA rfl fJ sQ ?_;intro P m))|((with_reducible refine xA ⟨?_⟩);refine xU aQ aA dh fQ ?_));have hS0:=m;clear m O e8;obtain ⟨L,hkk⟩:∃ L,L=(l.drop 9).take 32:=⟨_,rfl⟩;rw [<-hkk]at K a n;clear hkk
 go_loopg [12] 32 (λg iq wr=>∃ i:Nat,g=32-i/\i<=32/\iq=.int .i64 i/\au w0 wr (pt bE (.cells (dR ⟨1,wH L i,[]⟩ (.slice none 0 0)) 71 (0,0))::pt bR (.cells (dR ay.iL (.slice none 0 0)) 71 (0,0))::F))
 case atStart=>exact ⟨0,rfl,by decide,rfl,hS0⟩
 case round=>
  obtain ⟨i,rfl,hi,rfl,r⟩:=hrel;clear hS0;by_cases d:i<32
  ·have e1:(i:Int)<32:=oQ;have hwi:=EN (i:=i);have hw9:IntKind.i64.wrap (9+(i:Int))=((9+i:Nat):Int):=by rw [show (9:Int)+(i:Int)=((9+i:Nat):Int) by omega];exact abR _ oQ
   have S:((9+i:Nat):Int)<(l.length:Int):=by have:=x.o;omega
   obtain ⟨cc,o⟩:∃ cc,L[i]?=some cc:=⟨_,aaf (by rw [a.o];exact d)⟩;have ec:=n.o i cc o _ r.drop.drop;have s:=aaN ⟨1,wH L i,[]⟩ (.slice none 0 0) i cc (by show i<(wH L i).length;rw [N8 a.o hi];exact d);simp only [acV a.o d o]at s;have F9:=uQ s;have dP:=uQ d;have E:1+i+1<=(dR ⟨1,wH L i,[]⟩ (.slice none 0 0)).size:=by rw [iw _ _ (N8 a.o hi)];omega
   have QK:=uQ E;clear s o d E;generalize h9i:9+i=q at *
   go_wp2_with ((with_reducible refine eG ⟨?_⟩);refine jI r aA aF F9.o eu QK.o aC aA ?_;intro wT hT)
   go_roundg (32-(i+1))
   case measure=>have:=dP.o;omega
   case rel=>exact ⟨i+1,rfl,aiW dP.o,by first|rfl|go_num,hT⟩
  ·obtain rfl:i=32:=oQ;have e1:¬ ((32:Nat):Int)<32:=aU;rw [acU a.o]at r;clear d hi;have hd0:(l.take 41).drop 41=[]:=aiU yE0;rw [hd0]at K;have M:=a.o;go_wp2_with (first|((with_reducible refine xA ⟨?_⟩);refine xU r aA bJ M ?_)|((with_reducible refine mY ⟨?_⟩);refine jk r aA aA M (pJ eu) (iw _ _ rfl) ?_;intro P m));rw [K.o];refine ⟨rfl,_,vT rfl aQ aA bZ M,_,rfl,none,0,rfl,au.iW.2 m.drop.drop⟩
theorem agP (l:Bs) (g:Ro w0 F (bK 1 bv (aI l))) (f:lS bv) (i:l.length<=1099511627776) (h:au w0 w F) :
  Calls prog 73 #[bv] w (bf λv w'=>∃ da dc,v=.tuple #[.agg (dR (ay.read l).1 (.slice da (ay.read l).1.data.length dc)),.int .i64 (ay.read l).2.1,dS (ay.read l).2.2]/\au w0 w' (cZ (.slice da (ay.read l).1.data.length dc) (ay.read l).1.data::F)):=by
 by_cases a:l.length<9
 ·exact ash a g f i h
 by_cases c:(l.getD 8 0).toNat=0
 ·by_cases b:ay.bD ((l.drop 4).take 4)<41
  ·exact ase l g f i a c b h
  ·by_cases e:16425<ay.bD ((l.drop 4).take 4)
   ·exact asf l g f i a c e h
   ·exact asa l g f i a c ⟨by omega,by omega⟩ h
 by_cases t1:(l.getD 8 0).toNat=1
 ·by_cases b:ay.bD ((l.drop 4).take 4)=41
  ·exact asb l g f i a t1 b h
  ·exact asg l g f i a t1 b h
 by_cases d:(l.getD 8 0).toNat=2
 ·by_cases b:ay.bD ((l.drop 4).take 4)=9
  ·exact asc l g f i a d b h
  ·exact asj l g f i a d b h
 exact asi l g f i a oQ h
section
variable {t:TypeId}{pos:String}{x:Operand}{vx vy:Value}{g:Option (Nat×Bool)}
theorem avm (hw:Region.wanted ⟨dst,.slice ty x none (some y) none,t,pos,after,g⟩ (yielded ops a.tmps)=true) (hx:a.eval x=vx) (hy:a.eval y=vy) (hr:∀ w,(Instr.sliceAt ty vx none (some vy) none).run P w=.ok v w):Yields P ops ⟨dst,.slice ty x none (some y) none,t,pos,after,g⟩ v a:=
 .inl ⟨hw,λw=>by simp only [execOp,hx,hy,am8,avX,aii,hr,acz,aiV]⟩
end
theorem aq5 {l:Bs}{bk off n c:Nat}{w:World} (h:bK 1 (.slice (some ⟨bk,off,none⟩) n c) (aI l) w) (k:Nat) (hk:k<=l.length):bK 1 (.slice (some ⟨bk,off,none⟩) k c) (aI (l.take k)) w:=by
 obtain ⟨e,f,g,b,i,d⟩:=h;cases b;refine ⟨_,_,_,rfl,by rw [bP,abA];omega,λj y a=>d j y ?_⟩;unfold aI at a ⊢;rw [avZ,ak7]at a;split at a
 ·exact a
 ·cases a
theorem agS (l:Bs) (hr:Ro w0 F (bK 1 bv (aI l))) (hcap:lS bv) (hl:l.length<=268435456) (h:au w0 w F) :
  Calls prog 23 #[bv] w (bf λv w'=>∃ (fs:List (ay.fO×Value)) (ov:Value),fs.map (·.1)=(ay.eF l).1/\(∀ p∈fs,p.1.e.key.length=32)/\v=.tuple #[ov,.int .i64 (ay.eF l).2.1,dS (ay.eF l).2.2] /\
   au w0 w' (aK 154 36 ov (jw fs)::kT fs::F)):=by
 obtain ⟨M,N,bc,rfl,m,o⟩:=hcap;have H:N=l.length:=by
  obtain ⟨_,_,_,O,s,_⟩:=hr w h;cases O;rw [bP,aiR]at s;exact s.symm
 subst H;have Hr:=uQ hr;have Hl:=uQ hl;have c:=uQ (show l.length<=bc/\bc<=9223372036854775807 from ⟨m,o⟩);have P:=uQ h;clear hr hl m o;by_cases j:l.length<8
 ·have f:=uQ (show ay.eF l=([],0,4) by
   unfold ay.eF;rw [abB];intro e;have:=aiX List.length e;rw [abA]at this;have V:ay.yQ.length=8:=rfl;omega)
  have c1:decide ((l.length:Int)<8)=true:=aiC oQ;clear j;go_enter func23,ntmps23;go_wp2_with fail;have hS1:=h.drew;clear h;refine gK [] (λw'=>True) aC ?_;have t:True:=trivial;refine rP 0 ?_ (y:=bV);refine rP 1 ?_ (y:=(vX aF dX));refine rP 2 ?_ (y:=nT);refine rP 3 ?_ (y:=bV);refine fF 4 aF aC dF aA gQ ?_;refine fF 5 aF aC dF aA gQ ?_;refine fF 6 aF aC dF aA gQ ?_;refine fF 7 aF aC dF aA gQ ?_;refine fF 8 aF aC dF aA gQ ?_;refine rP 9 ?_ (y:=(qh aA aF aF));refine fK aC ?_;clear t
  try simp only [kW]
  try go_frame
  go_wp2_with fail
  go_ret3
  refine ⟨_,rfl,[],_,by rw [f.o];rfl,by simp,?_,au.iW.2 (au.ng.2 hS1)⟩;rw [f.o];rfl
 have u:¬ (l.length:Int)<8:=oQ;have z:decide ((l.length:Int)<8)=false:=aes u;obtain ⟨bk,off,rfl⟩:∃ bk off,M=some ⟨bk,off,none⟩:=by
  obtain ⟨W,X,Q,_⟩:=pq (i:=0) (x:= .int .u8 (l[0]'oQ).toNat) (Hr.o _ P.o) (by unfold aI;rw [ab4,aaf oQ];rfl);exact ⟨_,_,Q⟩
 have H8:=uQ (show 8<=l.length by omega);have I:(8:Int)<=(bc:Int):=by have:=c.o;omega
 have hsl:∀ w,(Instr.sliceAt 59 (.slice (some ⟨bk,off,none⟩) l.length bc) none (some (.int .i64 8)) none).run prog w=.ok (.slice (some ⟨bk,off,none⟩) 8 bc) w:=λw=>by
  have j:(8:Nat)<=bc:=oQ;go_simp
 clear j;by_cases hm:l.take 8=ay.yQ;rotate_left
 ·have f:=uQ (show ay.eF l=([],0,4) by unfold ay.eF;rw [abB hm]);have vC:=uQ (show decide (l.take 8=([72,79,65,82,68,83,69,71]:Bs))=false from aes hm);clear hm;go_enter func23,ntmps23;go_wp2_with fail;have hS1:=h.drew;clear h;refine gK [] (λw'=>True) aC ?_;have t:True:=trivial;refine rP 0 ?_ (y:=bV);refine agd ?_;intro w2 mb hS2 K hK;rintro ee J ⟨v,rfl,rfl,d⟩;refine hK _ _ (.inr (.inl trivial)) ?_;clear hK;rw [vC.o];refine rP 8 ?_ (y:=(X8 aA aF dX));refine rP 9 ?_ (y:=(qh aA aF aF));refine fK aC ?_;clear t
  try simp only [kW]
  try go_frame
  go_wp2_with fail
  go_ret3
  refine ⟨_,rfl,[],_,by rw [f.o];rfl,by simp,?_,au.iW.2 (au.ng.2 (d.sb))⟩;rw [f.o];rfl
 have f:=uQ (show ay.eF l=ay.pY l.length (l.drop 8) 8 by unfold ay.eF;rw [abL hm]);have vC:=uQ (show decide (l.take 8=([72,79,65,82,68,83,69,71]:Bs))=true from aiC hm);clear hm;go_enter func23,ntmps23;go_wp2_with fail;have hS1:=h.drew;clear h;refine gK [] (λw'=>True) aC ?_;have t:True:=trivial;refine rP 0 ?_ (y:=bV);refine agd ?_;intro w2 mb hS2 K hK;rintro ee J ⟨v,rfl,rfl,d⟩;refine hK _ _ (.inr (.inl trivial)) ?_;clear hK;rw [vC.o];refine rP 8 ?_ (y:=(X8 aA aF dX));refine rP 9 ?_ (y:=(qh aA aF aF));refine fK aC ?_;clear t
 try simp only [kW]
 try go_frame
 have A:au w0 J F:=d.sb;clear hS1 hS2 d hsl u z;go_wp2_with fail
 go_loopg [5,6] (l.length-8) (λg ov R S=>∃ (aP:Nat) (fs:List (ay.fO×Value)),g=l.length-aP/\8<=aP/\aP<=l.length/\9*fs.length<=aP/\R=.int .i64 aP/\(∀ p∈fs,p.1.e.key.length=32) /\
  (∃ k,l.length-aP<=k/\ay.eF l=(fs.map (·.1)++(ay.pY k (l.drop aP) aP).1,(ay.pY k (l.drop aP) aP).2)) /\
  au w0 S (aK 154 36 ov (jw fs)::kT fs::F))
 case atStart=>
  exact ⟨8,[],rfl,abG _,H8.o,acn _,rfl,by simp,⟨l.length,by omega,by rw [f.o];rfl⟩,au.iW.2 (au.ng.2 A)⟩
 case round=>
  obtain ⟨aP,fs,rfl,j,hat,B,rfl,C,⟨k,L,D⟩,hS⟩:=hrel;have Hk:=uQ L;have vH:=uQ D;have sK:=uQ C;have vk:=uQ (show aP<=l.length/\8<=aP/\9*fs.length<=aP from ⟨hat,j,B⟩);clear L D C j B A;by_cases hlt:aP<l.length
  ·have c1:(aP:Int)<(l.length:Int):=oQ;have Y:(aP:Int)<=(bc:Int):=by have:=c.o;omega
   have Z:(l.length:Int)<=(bc:Int):=by have:=c.o;omega
   have c4:(aP:Int)<=(l.length:Int):=oQ;have c5:(0:Int)<=(aP:Int):=oQ;have c6:¬ bc=aP:=by have:=c.o;omega
   have hsl:∀ w,(Instr.sliceAt 59 (.slice (some ⟨bk,off,none⟩) l.length bc) (some (.int .i64 aP)) none none).run prog w=.ok (.slice (some ⟨bk,off+aP,none⟩) (l.length-aP) (bc-aP)) w:=by
    intro w;go_simp
   have E:=uQ (λw hw=>yC (Hr.o w hw) aP l.length (bc-aP) hat (abG _));rw [ai0]at E;have G:=uQ hlt;clear hlt hat;go_wp2_with ((with_reducible refine MK ⟨?_⟩);refine Qr aA aA hsl ?_);refine (agP (l.drop aP) (Ro.os E.o) ⟨_,_,_,rfl,by have:=c.o;omega,by have:=c.o;omega⟩ zE0 hS).mono ?_;rintro ee w2 ⟨v,rfl,da,dc,rfl,hS2⟩;have Ec:=uQ (ay.Ik (l.drop aP));obtain ⟨k,rfl⟩:∃ T,k=T+1:=⟨k-1,by have:=Hk.o;have:=G.o;omega⟩
   have vC:=uQ (show l.drop aP≠[] by
    intro U;have:=aiX List.length U;rw [abJ]at this;have:=G.o;simp only [ajw]at *
    omega)
   by_cases hz:(ay.read (l.drop aP)).2.2=0
   ·have fV:=uQ (ay.BK hz)
    have yJ:=uQ (show ay.eF l=(fs.map (·.1)++(⟨(ay.read (l.drop aP)).1,aP,(ay.read (l.drop aP)).2.1⟩::(ay.pY k ((l.drop aP).drop (ay.read (l.drop aP)).2.1) (aP+(ay.read (l.drop aP)).2.1)).1),(ay.pY k ((l.drop aP).drop (ay.read (l.drop aP)).2.1) (aP+(ay.read (l.drop aP)).2.1)).2) by
     rw [vH.o];simp only [ay.pY];rw [abB vC.o,abB (λh=>h hz)])
    have hN:=fV.o.2.1;rw [abJ]at hN;rw [apl]at yJ;exact af8
   ·exact aga
  ·exact aeN
section
variable {q:Nat}
theorem ani (s:ByteArray) (h1:s.size=12) (h2:s.data.toList.take 4=aB.jW) (w:World) :
  Calls prog 241 #[.string s,.string ⟨#[115,101,103,46]⟩] w (bf λv w'=>v=.bool true/\w=w'):=by
 have h2d:((s.extract 0 4).toList==[115,101,103,46])=true:=by rw [RQ s,h2];rfl
 have hle:(4:Int)<=s.size:=oQ;clear h2
 go_in
 go_wp2;go_ret;exact ⟨_,rfl,rfl,rfl⟩
theorem auu (s:ByteArray) (h1:s.size=12) (h2:s.data.toList.take 4=aB.jW) (w:World) :
  Calls prog 242 #[.string s,.string ⟨#[115,101,103,46]⟩] w (bf λv w'=>v=.string (s.extract 4 12)/\w=w'):=by
 have hp:=ani s h1 h2 w
 go_in
 exact afK
theorem auv (s:ByteArray) (h1:s.size=12) (h2:s.data.toList.take 4=aB.jW) (w:World) :
  Calls prog 206 #[.string s,.string ⟨#[115,101,103,46]⟩] w (bf λv w'=>v=.string (s.extract 4 12)/\w=w'):=by
 have hp:=auu s h1 h2 w
 go_in
 exact afK
theorem ab7 (jW:ByteArray) (hl:jW.size=4) (n:Int) (h:au w0 w F) :
  Calls prog 161 #[.string jW,.int .i64 n] w (bf λv w'=>v=.string (aH.name jW n)/\au w0 w' F):=by
 have hn:=Au n h;have d:=(show aH.name jW n=if aB.name n=ByteArray.empty then ByteArray.empty else jW++(aB.name n).extract 4 12 from rfl);have l:=(aH.PX n);generalize aB.name n=s at *
 go_in
 go_wp2_with fail;refine hn.mono ?_;rintro e o ⟨v,rfl,rfl,f⟩;rcases l with rfl|⟨a,g⟩
 ·clear hl h;go_wp2;go_ret;exact ⟨_,rfl,by rw [d];rfl,f⟩
 ·have b:s≠ByteArray.empty:=λe=>by rw [e]at a;cases a
  have i:(s.toList==[])=false:=by
   rw [acj,ByteArray.toList_eq];intro e;have:=aiX List.length e;rw [ahN]at this;have c:s.data.size=12:=a;rw [c]at this;cases this
  have m:¬ 9223372036854775807<jW.size+(s.extract 4 12).size:=by rw [hl,ByteArray.size_extract];omega
  have j:=auv s a g;go_wp2_with fail;refine (j _).mono ?_;rintro e r ⟨v,rfl,rfl,rfl⟩;go_wp2;go_ret;exact ⟨_,rfl,by rw [d,abB b];rfl,f⟩
theorem NW (n:Int) (h:au w0 w F):Calls prog 113 #[.int .i64 n] w (bf λv w'=>v=.string (aH.name aH.gY n)/\au w0 w' F):=by
 have hn:=ab7 aH.gY rfl n h
 go_in
 exact afM
theorem Qh (n:Int) (h:au w0 w F):Calls prog 118 #[.int .i64 n] w (bf λv w'=>v=.string (aH.name aH.kJ n)/\au w0 w' F):=by
 have hn:=ab7 aH.kJ rfl n h
 go_in
 exact afM
def hM:aG:=aG.iZ 100
end
end Go.Proofs.Y
namespace Go.aB
open Go.aG
def aS.drop (t:List Int):Nat->aS->aG->(aS×aG)×Int
 |0,L,M=>if t=[] then ((L,M),0) else ((L,M.fU.1),M.fU.2)
 |k+1,L,M=>if (L.dA M (t.getD k 0)).2=0 then aS.drop t k (L.dA M (t.getD k 0)).1.1 (L.dA M (t.getD k 0)).1.2 else L.dA M (t.getD k 0)
section
variable {t:List Int}{L:aS}{M D:aG}{K i:Nat}
theorem drop_nil (h:t=[]):aS.drop t 0 L M=((L,M),0):=by unfold aS.drop;rw [abL h]
theorem al0 (h:t≠[]):aS.drop t 0 L M=((L,M.fU.1),M.fU.2):=by unfold aS.drop;rw [abB h]
theorem al1 {k:Nat} (h:(L.dA M (t.getD k 0)).2=0):aS.drop t (k+1) L M=aS.drop t k (L.dA M (t.getD k 0)).1.1 (L.dA M (t.getD k 0)).1.2:=by
 conv=>lhs;unfold aS.drop
 rw [abL h]
theorem al2 {k:Nat} (h:(L.dA M (t.getD k 0)).2≠0):aS.drop t (k+1) L M=L.dA M (t.getD k 0):=by
 conv=>lhs;unfold aS.drop
 rw [abB h]
theorem ags (h:M.Ok K) (n:Int):(L.dA M n).1.2.Ok (K+1):=by
 unfold aS.dA;cases L.at n with
 |none=>exact h.mono (akA K)
 |some i=>simp only;split <;> exact h.dA _
end
section
variable {i n c K:Nat}{L:aS}{M D:aG}
theorem Fp (h:L.Ok):L.aX.Pairwise (· < ·):=h.jA
theorem atj (h:L.Ok):∀ s∈L.aX,0<=s:=λs hs=>by
 unfold aS.aX at hs;obtain ⟨x,hx,rfl⟩:=abI.1 hs;exact (h.eU x hx).1
theorem arV (h:L.Ok) (M:aG) (n:Nat):aJ.Rows (aJ.jP (λs=>L.bytes M s) (L.aX.take n)):=
 aJ.arT ((Fp h).sublist (List.take_sublist _ _)) λs hs=>atj h s (ajq hs)
end
end Go.aB
namespace Go
open Go
theorem Dw(h:A:=by
 clear ha hb h;go_enter func284,ntmps284;go_wp2_with fail
 go_region
 go_wp2;go_ret;exact ⟨_,rfl,by rw [hf.o];rfl,hS⟩):A:=h
theorem ae3(h:A:=by
 refine ⟨jB h aA aA ?_⟩;intro b w1 h1;go_wp2_with ((with_reducible refine dH ⟨?_⟩);refine jC h1 aA bJ dG aF aC ?_);go_ret;exact ⟨_,rfl,by rw [e.o];rfl,h1.drop⟩):A:=h
theorem Pn(h:A:=by
 rw [abB (λq=>hk q.2.symm),abB hk]):A:=h
theorem afS(h:A:=by
 refine ⟨rfl,_,Il rfl h9 aA dh underlying270 rfl aC,?_⟩;exact ⟨_,rfl,rfl,h9.drop⟩):A:=h
theorem afV(h:A:=by
 unfold Oper.wp execOp;simp only [he,aii,hr,acz,aiV];exact hK _ _ h):A:=h
end Go
namespace Go.aJ
open Go.ay (Bs fO aT iJ bU gV)
open Go.aB (bT dL)
open Go.aY
def jZ (l:List fZ) (k:Bs):Option bT:=(iC l k).bind λr=>if iV r=0 then some (pF r) else none
def l7 (es:List aT) (k:Bs):Option Bs:=(uq es k).bind λe=>if e.dB=0 then some e.data else none
section
variable {l:List fZ}{r:fZ}{k:Bs}{es:List aT}{x:aT}{C:List (List aT)}
theorem apK (h:iV r=0):jZ (l++[r])=aY.put (jZ l) (kD r) (pF r):=by
 funext k
 unfold jZ aY.put;rw [G7];by_cases hk:k=kD r
 ·rw [abL ⟨by rw [h];decide,hk.symm⟩,abL hk];show (if iV r=0 then some (pF r) else none)=_;rw [abL h]
 ·exact Pn
theorem apJ (h:iV r=1):jZ (l++[r])=aY.qo (jZ l) (kD r):=by
 funext k
 unfold jZ aY.qo;rw [G7];by_cases hk:k=kD r
 ·rw [abL ⟨by rw [h];decide,hk.symm⟩,abL hk];show (if iV r=0 then some (pF r) else none)=_;rw [abB (by rw [h];decide)]
 ·exact Pn
theorem apH (h:iV r=2):jZ (l++[r])=jZ l:=by
 funext k
 unfold jZ;rw [G7,abB (λq=>q.1 h)]
theorem ad4 (l:List fZ) (k:Bs):(jZ l k).isSome=(l7 (l.map (·.2.e)) k).isSome/\∀ r,iC l k=some r->iV r=0->l7 (l.map (·.2.e)) k=some r.2.e.data:=by
 have e:=adW l k;unfold jZ l7;rw [<-e];cases hn:iC l k with
 |none=>exact ⟨rfl,λr hr=>by cases hr⟩
 |some r=>
  refine ⟨?_,λr' hr h0=>?_⟩
  ·show (if iV r=0 then some (pF r) else none).isSome=(if r.2.e.dB=0 then some r.2.e.data else none).isSome;unfold iV;split <;> rfl
  ·cases hr;show (if r.2.e.dB=0 then some r.2.e.data else none)=_;rw [abL (show r.2.e.dB=0 from h0)]
theorem apI {p:bT} (h:jZ l k=some p):∃ r∈l,pF r=p/\iV r=0/\kD r=k/\l7 (l.map (·.2.e)) k=some r.2.e.data:=by
 unfold jZ at h;have⟨r,b,a⟩:=Option.bind_eq_some_iff.1 h;have⟨d,i,f⟩:=Ov b;split at a
 ·rename_i c;cases a;exact ⟨r,d,rfl,c,f,(ad4 l k).2 r b c⟩
 ·cases a
theorem apU (h:x.dB=0):l7 (es++[x])=aY.put (l7 es) x.key x.data:=by
 funext k
 unfold l7 aY.put;rw [G5];by_cases hk:k=x.key
 ·rw [abL ⟨by rw [h];decide,hk.symm⟩,abL hk];show (if x.dB=0 then some x.data else none)=_;rw [abL h]
 ·exact Pn
theorem apT (h:x.dB=1):l7 (es++[x])=aY.qo (l7 es) x.key:=by
 funext k
 unfold l7 aY.qo;rw [G5];by_cases hk:k=x.key
 ·rw [abL ⟨by rw [h];decide,hk.symm⟩,abL hk];show (if x.dB=0 then some x.data else none)=_;rw [abB (by rw [h];decide)]
 ·exact Pn
theorem aeg (h:x.dB=2):l7 (es++[x])=l7 es:=by
 funext k
 unfold l7;rw [G5,abB (λq=>q.1 h)]
theorem aeB {kv:List (Bs×iH)} (h:aY.kE (lC l) kv):aY.jE (jH kv)=jZ l:=by
 have hl:=aY.UE (OX h.jA)
 funext k
 have key:∀ p,aY.jE (jH kv) k=some p↔jZ l k=some p:=λp=>by
  rw [<-hl.mem];unfold jH jZ;rw [abI,Option.bind_eq_some_iff];constructor
  ·rintro ⟨q,hq,e⟩;obtain ⟨h1,h2⟩:=ai4.1 hq;have h3:=(h.mem q.1 q.2).1 h1;unfold lC at h3;obtain ⟨r,h4,h5⟩:=amV.1 h3;have e1:q.1=k:=aiX Prod.fst e;have e2:q.2.jf=p:=aiX Prod.snd e;refine ⟨r,by rw [<-e1];exact h4,?_⟩;have ht:q.2.dB=0:=by simpa using h2
   rw [<-h5]at ht e2;simp only at ht e2;rw [abL ht,e2]
  ·rintro ⟨r,h1,h2⟩;split at h2
   ·rename_i ht;cases h2;refine ⟨(k,⟨iV r,pF r,first l k⟩),ai4.2 ⟨(h.mem _ _).2 (by unfold lC;rw [h1];rfl),by simpa using ht⟩,rfl⟩
   ·cases h2
 cases hn:jZ l k with
 |some p=>exact (key p).2 hn
 |none=>
  cases hm:aY.jE (jH kv) k with
  |none=>rfl
  |some p=>rw [(key p).1 hm]at hn;cases hn
theorem abd:∀ (es:List aT) (a:Nat) (x:aT),iJ (es++[x]) a=iJ es a++[⟨x,a+(bU es).length,(ay.dI x).1.length⟩]
 |[],a,x=>by show [_]=[_];rw [show (bU []).length=0 from rfl,aoe]
 |y::es,a,x=>by
  rw [ajK,iJ,iJ,abd es _ x,ajK];rw [show bU (y::es)=(ay.dI y).1++bU es from rfl,aay,avC]
def putRow (C:List (List aT)) (b:Bool) (x:aT):fZ:=
 if b then (((C.length-1:Nat):Int),⟨x,8+(bU (C.getLastD [])).length,(ay.dI x).1.length⟩) else ((C.length:Int),⟨x,8,(ay.dI x).1.length⟩)
end
end Go.aJ
namespace Go.Proofs.Y
open Go Go.Sl Go.aG Go.ChangeShapes Go.WideShapes Go.RowKit
section
variable {enc:TypeId×Value->H}{W:World}
theorem ap8 {t:TypeId}{fuel:Nat}{cs:List Value}{x:DataW H×List MemPlace}{k:Nat} (ht:prog.underlying t=some (.array k 5)) (hk:prog.cellsOf t=k) (h:DataW.trod enc prog W base spare held fuel t cs=some x) :
  ∃ l:Bs,aI l=cs/\l.length=k:=by
 obtain ⟨s,m,_,_,f,g,hf⟩:=DataW.trod_array ht h;have j:prog.cellsOf 5=1:=aC;rw [hk]at f;have a:∀ i,i<k->∃ z:Int,cs[i]?=some (.int .u8 z)/\(Lit.int .u8 z).wf=true:=by
  intro i hi;have d:=hf i hi;rw [aaf oQ,j,aiR]at d;obtain ⟨z,n,_,o⟩:=avT underlying5 d;refine ⟨z,?_,o⟩;have:((cs.drop i).take 1)[0]?=some (.int .u8 z):=by rw [n];rfl
  rw [ak7,abL aU,anv]at this;exact this
 obtain ⟨b,r,e⟩:=ado a;have c:cs=b.map (.int .u8):=by
  apply awf;intro i;rw [ab4];by_cases hi:i<k
  ·have:=(e i _ (aaf oQ)).1;rw [this,aaf (show i<b.length by omega)];rfl
  ·rw [avA oQ,avA oQ];rfl
 refine ⟨KJ b,?_,by unfold KJ;rw [abl];exact r⟩;rw [ZL,c];intro z a;obtain ⟨i,hi,rfl⟩:=aqj a;exact (e i _ (aaf hi)).2
structure aiL (W:World) (p:ay.aT×Value):Prop where
 key:p.1.key.length=32
 dB:rZ p.1.dB
 rd:bK 1 p.2 (aI p.1.data) W
 cap:lS p.2
end
structure PC where
 n:Int
 es:List (ay.aT×Value)
 ev:Value
 rest:Bs
 rv:Value
 qm:Bool
 aP:Int
 plain:Bool
structure PC.At (W:World) (d:PC):Prop where
 n:rZ d.n
 rd:bK 34 d.ev (ug d.es) W
 cap:lS d.ev
 aaO:∀ p∈d.es,aiL W p
 rr:bK 1 d.rv (aI d.rest) W
 rc:lS d.rv
 aP:rZ d.aP
open Go.aG
theorem aqJ (cs:Array Value) (b:cs.size=34) (u:Value) (a:List Value) (hk:a.length=32):(iK (iK cs 0 [u]) 1 a).toList=u::(a++cs.toList.drop 33):=by
 rw [qY _ _ _ (by rw [pW];omega),qY _ _ _ yO0];refine afk ?_;simp
end Go.Proofs.Y
