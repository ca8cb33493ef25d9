import Derived.Test.YtadhomdmbcldkaaGreatDoorJ12
set_option linter.unusedSimpArgs false
open Go.Proofs.Tryz
set_option maxRecDepth 100000
set_option linter.unusedVariables false
set_option maxHeartbeats 128000000
open Go Go.Sl Go.MapKept Go.RowKit
open Go.Proofs.YtadhomdmbcldkaaGreatDoor Go.Proofs.Y
variable {w0 w:World}{F:List aO}{m fb nb b r K:Nat}{M:aG.aG}{bs:List Nat}{wv v bv dv:Value}{s:ByteArray}{fs:List aG.dw}{f:aG.dw}
theorem zJ0{p:Prop} (h:p:=by have:=yG.o;omega):p:=h
namespace Go.Proofs.Y
open Go.aG
section
variable {mv:Value}
theorem ahm (ps:List PV) (hp:∀ q∈ps,q.1.length=32/\∃ a n c,q.2.2=.slice a n c) (hr:Ro w0 F (bK 33 mv (ps.flatMap iY))) (hlen:ps.length<=1048576) (k:ay.Bs) (hk:k.length=32) (h:au w0 w F) :
  Calls prog 30 #[mv,.agg (aI k).toArray,.slice none 0 0,.bool true] w (bf λv w'=>∃ qs:List PV,(qs.map sD=(ps.map sD).filter (λx=>decide (x.1≠k))/\(∀ q∈qs,q∈ps))/\au w0 w' (aK 122 33 v (qs.flatMap iY)::F)):=by
 have C:=uQ (show ∀ q∈ps,(iY q).length=33 from λq hm=>yB q (hp q hm).1);obtain ⟨aa,ac,rfl⟩:=l9 C.o (hr w h) aU;have Hr:=uQ hr;have A:=uQ hlen;have Hp:=uQ hp;have Hk:=uQ hk;have ab:=uQ (show (aI k).length=32 by rw [bP,hk]);clear hr hlen hp hk;obtain ⟨J,D⟩:∃ J,J=(ps.map sD).filter (λx=>decide (x.1≠k)):=⟨_,rfl⟩;have ad:=uQ D;rw [<-D];clear D;go_enter func30,ntmps30;go_wp2_with (with_reducible apply jy);refine ⟨jB h aF aF ?_⟩;intro u wX hX;have h2:au w0 wX (aK 122 33 (.slice none 0 0) []::pt u (.cells (aI k).toArray 34 (0,0))::F):=au.iW.2 hX;clear hX h;go_wp2_with fail
 go_loopg [9,10,11] ps.length (λg ov dq iq wr=>∃ (i:Nat) (qs:List PV),g=ps.length-i/\i<=ps.length/\iq=.int .i64 i/\dq=.bool true/\(qs.map sD++((ps.map sD).drop i).filter (λx=>decide (x.1≠k))=J/\(∀ q∈qs,q∈ps)/\qs.length<=i) /\
  au w0 wr (aK 122 33 ov (qs.flatMap iY)::pt u (.cells (aI k).toArray 34 (0,0))::F))
 case atStart=>exact ⟨0,[],rfl,acn _,rfl,rfl,⟨by rw [av5];exact ad.o.symm,(λq m=>by cases m),acn _⟩,h2⟩
 case round=>
  obtain ⟨i,qs,rfl,K,rfl,rfl,⟨f,M,N⟩,X⟩:=hrel;clear h2;have r:=uQ M;have E:=uQ N;clear M N;by_cases hi:i<ps.length;rotate_left
  ·obtain rfl:i=ps.length:=oQ;have ae:¬ (ps.length:Int)<(ps.length:Int):=oQ;rw [aiU (by rw [abl];exact abG _)]at f;have af:=uQ f;clear hi K f;go_wp2_with fail;go_ret;refine ⟨_,rfl,qs,⟨?_,?_⟩,X.sb⟩
   ·rw [<-af.o];simp
   ·first|exact r.o|(intro a b c m;have:=r.o _ m;simpa using this)
  have ae:(i:Int)<(ps.length:Int):=oQ;have am:IntKind.i64.wrap ((i:Int)+1)=(i:Int)+1:=abR _ (by have:=A.o;omega);obtain ⟨x,O⟩:∃ x,ps[i]?=some x:=⟨_,aaf hi⟩;have hd:(ps.map sD).drop i=sD x::(ps.map sD).drop (i+1):=by
   rw [ajB (by rw [abl];exact hi),List.getElem_map];rw [aaf hi]at O;cases O;rfl
  rw [hd,anT]at f;have P:=uQ (abH O);obtain ⟨Q,xa,xn,xc,R⟩:=Hp.o x P.o;have l:=uQ Q;have ag:=uQ R;have S:=uQ hi;have H1:=uQ f;have s:=uQ (λ(w':World) (L:List aO) (hL:Ro w0 L (bK 33 (.slice aa ps.length ac) (ps.flatMap iY))) (t:au w0 w' L)=>lV C.o (hL _ t) O aU);clear O hd f Q R hi K;obtain ⟨G,off,c',ah,d⟩:=s.o _ _ (Ro.os Hr.o) X;cases ah;clear d;have ai:=uQ (λa b w=>adQ a b x.1 k l.o Hk.o w);have aj:=uQ (show (aI x.1).length=32 by rw [bP,l.o])
  have T:=uQ (λ(w':World) (t:au w0 w' (aK 122 33 u9 (qs.flatMap iY)::pt u (.cells (aI k).toArray 34 (0,0))::F))=>show (∀ j v,(iY x)[j]?=some v->w'.cell? ⟨G,off+i*33+j,none⟩=some v) from by
   obtain ⟨an,al,c2,e2,d⟩:=s.o _ _ (Ro.os Hr.out:Ro w0 (aK 122 33 u9 (qs.flatMap iY)::pt u (.cells (aI k).toArray 34 (0,0))::F) (bK 33 (.slice (some ⟨G,off,none⟩) ps.length ac) (ps.flatMap iY))) t;cases e2;exact d)
  have U:=uQ (λ(w':World) (t:au w0 w' (aK 122 33 u9 (qs.flatMap iY)::pt u (.cells (aI k).toArray 34 (0,0))::F))=>show w'.rangeAt G (off+i*33) (aI x.1)/\w'.rangeAt u 0 (aI k) from
   ⟨λj z hj=>T.o _ t j z (Vb x hj),λj z hj=>by rw [aiO];exact t.bI bZ j (by rw [ab5];exact hj)⟩)
  clear s;have H:=X.drew;clear X;go_wp2_with fail;refine gK [] (λw'=>w'.rangeAt G (off+i*33) (aI x.1)/\w'.rangeAt u 0 (aI k)) aC ?_;have hG:=U.o _ H;refine rP 0 ?_ (y:=bV);refine rP 1 ?_ (y:=(Qv aF dX));refine rP 2 ?_ (y:=bV);refine fF 3 aF aC dF aA gQ ?_;refine fF 4 aF aC dF aA gQ ?_;refine fF 5 aF aC dF aA gQ ?_;refine fF 6 aF aC dF aA gQ ?_;refine fF 7 aF aC dF aA gQ ?_;refine fF 8 aF aC dF aA gQ ?_;refine fF 9 aF aC dF aA gQ ?_;refine fF 10 aF aC dF aA gQ ?_;refine rP 11 ?_ (y:=(qh aA aF aF));clear hG;refine fK aC ?_
  try simp only [kW]
  try go_frame
  go_wp2_with fail;have Y:=H.drew;clear H;obtain ⟨Z,I⟩:∃ Z:Bool,(!decide (x.1=k))=Z:=⟨_,rfl⟩;have B:∀ a b w,((do eqGuard .neq 34 a b (.agg (aI x.1).toArray) (.agg (aI k).toArray);binOp .neq 34 (.agg (aI x.1).toArray) (.agg (aI k).toArray)):Sem Value).run prog w=.ok (.bool Z) w:=λa b w=>by rw [<-I];exact ai.o a b w
  have V:=uQ I;clear I;refine gK [] (λw'=>w'.rangeAt G (off+i*33) (aI x.1)/\w'.rangeAt u 0 (aI k)) aC ?_;have hG:=U.o _ Y;refine rP 0 ?_ (y:=bV);refine rP 1 ?_ (y:=bV);refine rP 2 ?_ (y:=kX);refine rP 3 ?_ (y:=eY);refine ji 4 aF aC dF (lF (b:=G) (o:=off+i*33) (aI x.1) aA underlying34 rfl (by rw [aj.o];kernel_rfl) (λw t=>t.1)) aQ gQ ?_;refine ji 5 aF aC dF (lF (b:=u) (o:=0) (aI k) aA underlying34 rfl (by rw [ab.o];kernel_rfl) (λw t=>t.2)) aQ gQ ?_;clear hG;refine rP 6 ?_ (y:=(DZ aF aF (B _ _)));refine fK aC ?_;clear B
  try simp only [kW]
  try go_frame
  cases Z with
  |false=>
   have H2:=uQ (show qs.map sD++((ps.map sD).drop (i+1)).filter (λx=>decide (x.1≠k))=J from by
    have W:=H1.o;have e:x.1=k:=by simpa using V.o
    rw [abB (by simp [sD,e])]at W;exact W)
   go_wp2_with fail
   go_roundg (ps.length-(i+1))
   case measure=>have:=S.o;omega
   case rel=>exact ⟨i+1,qs,rfl,S.o,by first|rfl|go_num,rfl,⟨H2.o,r.o,by have:=E.o;omega⟩,Y⟩
  |true=>
   have H2:=uQ (show (qs++[x]).map sD++((ps.map sD).drop (i+1)).filter (λx=>decide (x.1≠k))=J from by
    have W:=H1.o;have e:x.1≠k:=by simpa using V.o
    rw [abL (show decide ((sD x).1≠k)=true from aiC e)]at W;rw [acy,ab6];exact W)
   have ak:(qs.flatMap iY).length<=2147483648:=by rw [lK (λq m=>C.o q (r.o q m))];have:=E.o;have:=A.o;have:=S.o;omega
   have d:=T.o _ Y
   go_wp2_with (first
    |((with_reducible refine dH ⟨?_⟩);refine kQ (b:=G) (o:=off+i*33) (iY x) aA d underlying122 rfl (by rw [yB _ l.o];kernel_rfl) ?_)
    |((with_reducible refine rV ⟨?_⟩);refine rJ (e:=122) (sz:=33) (je:=56) aC Y aA (cs:=(iY x).toArray) rfl (by rw [abC,yB _ l.o]) dG ?_;intro bN wN hN)
    |((with_reducible refine oK ⟨?_⟩);refine sJ 122 33 56 aC hN aA aA (bW bJ) bJ (by rw [abC,yB _ l.o]) (abG 1) (by rw [agQ];exact aeF _ ag.o) ak (by rw [abC,yB _ l.o];decide) aU rfl ?_;intro bA nA cA wA hA))
   go_roundg (ps.length-(i+1))
   case measure=>have:=S.o;omega
   case rel=>
    refine ⟨i+1,qs++[x],rfl,S.o,by first|rfl|go_num,rfl,⟨H2.o,λq m=>?_,by rw [aay,ai8];have:=E.o;omega⟩,?_⟩
    ·rcases ahc.1 m with m|m
     ·exact r.o q m
     ·rw [acS.1 m];exact P.o
    ·rw [ai5,List.flatMap_singleton];exact hA.sb
end
structure D where
 kind:Int
 name:ByteArray
 to:ByteArray
 n:Int
 m:Int
 bv:Value
 b:Bs
 lv:Value
 l:List Int
theorem arM (h:au w0 w (lN b f::F)) (_:f.Ok K) (aP:Int) (y:UInt8) (ho:aP<0\/(f.aN.length:Int)<=aP) :
  Calls prog 75 #[aW b,.int .i64 aP,.int .u8 y.toNat] w (bf λv w'=>v=.bool false/\au w0 w' (lN b f::F)):=by
 obtain ⟨fv,nv,wv,ws,a,c⟩:=lN.open h;obtain ⟨j,e,l,rfl⟩:=Gm (c.gZ 3 [2] rfl rfl);have d:e=f.aN.length:=by
  obtain ⟨_,_,_,he,hl,_⟩:=au.rd (c.gZ 3 [2] rfl rfl);exact J7
 subst d;have m:=c.dD 1 _ rfl;by_cases g:aP<0
 ·clear a;go_enter func75,ntmps75;go_wp2;go_ret;exact ⟨.bool false,rfl,rfl,h⟩
 ·have n:(f.aN.length:Int)<=aP:=oQ;have i:decide (aP<0)=false:=by rw [ai9];exact g
  go_enter func75,ntmps75;go_wp2;go_ret;exact ⟨.bool false,rfl,rfl,h⟩
theorem ZT:∀ (ws:List (jQ×Value)) (j:Nat) (p:jQ×Value) (c:Bs) (a:Value),ws[j]?=some p->(ws.flatMap qC).set (j*3+2) a=(ws.set j ({ p.1 with b:=c },a)).flatMap qC
 |[],_,_,_,_,h=>by cases h
 |q::ws,0,p,c,a,h=>by
  cases h
  rfl
 |q::ws,j+1,p,c,a,h=>by
  have:=ZT ws j p c a yJ0;rw [List.set_cons_succ,aiN,aiN,<-this];have e:(j+1)*3+2=(j*3+2)+1+1+1:=oQ;rw [e]
  rfl
theorem ZU:∀ (ws:List (jQ×Value)) (i:Nat) (p:jQ×Value),ws[i]?=some p->∃ G:aO,rW ws=fP (cZ p.2 p.1.b) G/\∀ p',rW (ws.set i p')=fP (cZ p'.2 p'.1.b) G
 |[],_,_,h=>by cases h
 |q::ws,0,p,h=>by
  simp at h;subst h;exact ⟨rW ws,rfl,λ_=>rfl⟩
 |q::ws,i+1,p,h=>by
  obtain ⟨G,hG,hG'⟩:=ZU ws i p yJ0;refine ⟨fP (cZ q.2 q.1.b) G,?_,λp'=>?_⟩
  ·show fP (cZ q.2 q.1.b) (rW ws)=_;rw [hG,zF]
  ·show fP (cZ q.2 q.1.b) (rW (ws.set i p'))=_;rw [hG',zF]
theorem U2 {k m W:Nat} (g:zf f k m W) (l:W<=f.waits.length) (b:k<(f.at W).length):∀ d j,W=j+d->m<=j->k<(f.at j).length
 |0,j,e,_=>by rw [e]at b;exact b
 |d+1,j,e,hj=>by
  have a:k<(f.at (j+1)).length:=U2 g l b d (j+1) oQ oQ;have i:f.waits[j]?=some (f.waits[j]'oQ):=aaf _;rcases g j _ hj oQ i with c|c
  ·rw [f.yj j _ i]at a;unfold jQ.on at a;rw [abL c]at a;simp at a;omega
  ·exact c
theorem arJ {k j:Nat}{c:jQ} (y:UInt8) (r:zf f k (j+1) f.waits.length) (q:f.waits[j]?=some c) (p:c.cut=false) (s:(f.at j).length<=k) :
  f.gW k y={ f with aN:=iE f.aN k y,waits:=f.waits.set j { c with b:=iE c.b (k-(f.at j).length) y } }:=by
 unfold dw.gW;rcases PE f k y f.waits.length (abG _) with ⟨m,a⟩|⟨i,d,hi,hd,e,n,m,a⟩
 ·rcases a j c (acn _) (abM.1 q).1 q with h|h
  ·rw [p]at h;cases h
  ·omega
 ·have o:=(abM.1 q).1;rcases awy i j with g|rfl|l
  ·rcases a j c g o q with h|h
   ·rw [p]at h;cases h
   ·omega
  ·rw [q]at hd;cases hd;rw [m]
  ·rcases r i d l hi hd with h|h
   ·rw [e]at h;cases h
   ·omega
theorem PI {k:Nat} (y:UInt8) (hp:zf f k 0 f.waits.length):f.gW k y={ f with aN:=iE f.aN k y,jo:=iE f.jo k y }:=by
 unfold dw.gW;rcases PE f k y f.waits.length (abG _) with ⟨b,c⟩|⟨i,d,hi,hd,a,e,b,c⟩
 ·rw [b]
 ·rcases hp i d (acn _) hi hd with h|h
  ·rw [a]at h;cases h
  ·omega
theorem arL (h:au w0 w (lN b f::F)) (hf:f.Ok K) (hK:K<=1099511627776) (k:Nat) (y:UInt8) (hk:k<f.aN.length) :
  Calls prog 75 #[aW b,.int .i64 k,.int .u8 y.toNat] w (bf λv w'=>v=.bool true/\au w0 w' (lN b (f.gW k y)::F)):=by
 obtain ⟨fv,nv,wv,ws,hws,hR⟩:=lN.open h;obtain ⟨na,nn,nc,rfl⟩:=Gm (hR.gZ 3 [2] rfl rfl);have hnn:nn=f.aN.length:=by
  obtain ⟨_,_,_,he,hl,_⟩:=au.rd (hR.gZ 3 [2] rfl rfl);exact J7
 subst hnn;obtain ⟨fa,fn,fc,rfl⟩:=Gm (hR.gZ 2 [1] rfl rfl);have hb:au w0 w (cZ (.slice na f.aN.length nc) f.aN::Bv b (.slice fa fn fc) (.slice na f.aN.length nc) wv::cZ (.slice fa fn fc) f.jo::aK 182 3 wv (ws.flatMap qC)::rW ws::F):=hR.gZ 5 [2,0,1,3,4] rfl rfl;obtain ⟨g,rfl,e0,e1,hS⟩:=wz hb hk (f.aN[k] ^^^ y);have c1:=hb.bZ.dD 1 _ rfl;have hx:=X6 (f.aN[k]'hk) y;have d0:=hS.bZ.dD 0 _ rfl;obtain ⟨wa,wn,wc,rfl,hwn,_⟩:=id (au.rd (hS.gZ 4 [3] rfl rfl));have hwl:wn=f.waits.length:=by
  have:(ws.flatMap qC).length=f.waits.length*3:=by rw [List.length_flatMap,<-hws];simp [qC,List.map_const']
  omega
 subst hwl;clear hwn;have hfn:fn=f.jo.length:=by
  obtain ⟨_,_,_,he,hl,_⟩:=au.rd (hS.gZ 3 [2] rfl rfl);exact J7
 subst hfn;have hA:=hS.alloc (.cells #[.int .i64 f.jo.length] 3);have d2:=hA.jS.dD 2 _ rfl;have h1':decide ((k:Int)<0)=false:=by rw [ai9];omega
 have h2':decide ((f.aN.length:Int)<=(k:Int))=false:=by rw [ai9];omega
 have h3':(k:Int)<(f.aN.length:Int):=oQ;have h4':decide (f.aN.length<=k)=false:=by rw [ai9];omega
 have Hws:=uQ hws;have Hf:=uQ hf;clear hws hf;generalize hx0:f.aN[k]'hk=x0 at *
 have Hx0:=uQ hx0;clear hx0;generalize hz:x0 ^^^ y=z at *
 have Hz:=uQ hz;clear hz;clear hb hR h;go_enter func75,ntmps75;go_wp2_with fail;have hL:au w0 _ (aK 3 1 (.slice (some ⟨w.heap.size,0,none⟩) 1 1) ((List.range (0+1)).map λj=>Value.int .i64 ((f.at j).length:Nat))::_):=au.pV (by simpa using hA) yD0 (abG _) yD0 yT0 rfl;generalize w.heap.size=q at *
 go_loopg [7,46] f.waits.length (λgg lv iq wr=>∃ (i:Nat) (la:Option Addr) (ln lc:Nat),gg=f.waits.length-i/\i<=f.waits.length/\iq=.int .i64 i/\lv=.slice la ln lc /\
  au w0 wr (aK 3 1 (.slice la ln lc) ((List.range (i+1)).map λj=>Value.int .i64 ((f.at j).length:Nat))::cZ (.slice (some ⟨g,0,none⟩) f.aN.length nc) (f.aN.set k z)::Bv b (.slice fa f.jo.length fc) (.slice (some ⟨g,0,none⟩) f.aN.length nc) (.slice wa f.waits.length wc)::cZ (.slice fa f.jo.length fc) f.jo::aK 182 3 (.slice wa f.waits.length wc) (ws.flatMap qC)::rW ws::F))
 case atStart=>exact ⟨0,_,1,1,rfl,acn _,rfl,rfl,hL⟩
 case round=>
  obtain ⟨i,la,ln,lc,rfl,hi,rfl,rfl,hS1⟩:=hrel;by_cases hi':i<f.waits.length
  ·obtain ⟨p,hp⟩:∃ p,ws[i]?=some p:=⟨ws[i]'(by have:=aiX List.length Hws.o;simp at this;omega),aaf _⟩;have hpw:f.waits[i]?=some p.1:=by rw [<-Hws.o,ab4,hp];rfl
   have hO:=hS1.gZ 5 [4] rfl rfl;have hshape:∃ g,wa=some ⟨g,0,none⟩:=by
    rcases (au.nV hO) with ⟨he,hx,_⟩|⟨g,n',cap',cs,he,_⟩
    ·have:=(Value.slice.inj he).2.1;omega
    ·exact ⟨g,(Value.slice.inj he).1⟩
   obtain ⟨gw,rfl⟩:=hshape;obtain ⟨w0',w1',w2'⟩:=ail hO hp;obtain ⟨G,hG⟩:=ZV ws i p hp;have hS2:=hS1.gZ 6 [5] rfl rfl;rw [hG]at hS2;obtain ⟨ba,bn,bc,hpb,_,_,hbn⟩:=Bh (au.fP.1 hS2);obtain ⟨⟨cut,cn,cb⟩,pv⟩:=p;simp only at hpb w0' w1' w2' hpw;subst hpb;have hic:(i:Int)<(f.waits.length:Int):=oQ;have hL1:=hS1.rd;have hln:ln=i+1:=by
    obtain ⟨_,_,_,he,hl,_⟩:=hL1;cases he;simpa using hl.symm
   subst hln;obtain ⟨gl,rfl⟩:∃ g,la=some ⟨g,0,none⟩:=by
    rcases (au.nV hS1) with ⟨he,hx,_⟩|⟨g,n',cap',cs,he,_⟩
    ·have:=(Value.slice.inj he).2.1;omega
    ·exact ⟨g,(Value.slice.inj he).1⟩
   have uK:=hS1.alloc (.cells #[.bool cut,.int .i64 cn,.slice ba bn bc] 182);have cl:(wr.alloc (.cells #[.bool cut,.int .i64 cn,.slice ba bn bc] 182)).cell? ⟨gl,i,none⟩=some (.int .i64 (f.at i).length):=by
    obtain ⟨_,_,_,he,_,hx⟩:=uK.bZ.rd;cases he;obtain ⟨b2,hb2,hc⟩:=hx i (.int .i64 ((f.at i).length:Nat)) yD0;cases hb2;rw [xw]at hc;exact hc
   have cb0:=uK.dD 0 _ rfl;have cb1:=uK.dD 1 _ rfl;have cb2:=uK.dD 2 _ rfl;have acw:=Hf.o.size i oQ;have ank:=Hf.o.wC;have acC:IntKind.i64.wrap (i:Int)=(i:Int):=abR _ oQ;have hil:(i:Int)<(i:Int)+1:=oQ;simp only at hbn;subst hbn;have aco:∀ N:Int,N=((f.at (i+1)).length:Int)->((List.range (i+1)).map λj=>Value.int .i64 ((f.at j).length:Nat))++[.int .i64 N]=(List.range (i+1+1)).map λj=>Value.int .i64 ((f.at j).length:Nat):=by
    rintro N rfl;rw [List.range_succ (n:=i+1),acy];rfl
   have ab1:((List.range (i+1)).map λj=>Value.int .i64 ((f.at j).length:Nat)).length=i+1:=by simp
   have YV:=uQ aco;have ajh:=uQ ab1;have oZ:=uK.drew;clear hp hO hG hS2 d0 d2 e0 e1 c1 hS hA hL hL1 aco ab1;generalize hLL:((List.range (i+1)).map λj=>Value.int .i64 ((f.at j).length:Nat))=LL at *
   clear hLL;cases cut
   ·have av7:(f.at i).length+cb.length<=16777216:=by
     have:=Hf.o.size (i+1) oQ;rw [f.yj i _ hpw]at this;simpa [jQ.on] using this
    have hnext:((f.at i).length:Int)+cb.length=((f.at (i+1)).length:Int):=by
     rw [f.yj i _ hpw];simp [jQ.on]
    have hwr2:IntKind.i64.wrap (((f.at i).length:Int)+cb.length)=((f.at (i+1)).length:Int):=by rw [abR _ oQ];exact hnext
    clear hpw hnext acw;generalize ((f.at i).length:Int)=L0 at *
    go_wp2_with fail;generalize wr.heap.size=qc at *
    refine aeO ?_;intro hG;clear hG;simp only [kW]
    go_frame
    clear acC hwr2 hil cl cb0 cb1 cb2 uK w0' w1' w2' hS1;generalize (wr.alloc (.cells #[.bool false,.int .i64 cn,.slice ba cb.length bc] 182)).drew=w8 at *
    have c9:=oZ.dD 0 _ rfl;have c10:=oZ.dD 1 _ rfl
    skip
    obtain ⟨ii,hii,hz0,hz1,hz2⟩:=info_parts acN;have hB:=oZ.alloc (.cells #[.int .i64 (f.at (i+1)).length] 3);refine aeH ?_;intro h63 hby v2 w5 hS5 hne;obtain ⟨UZ,on',oc',rfl,_⟩:=id hS5.rd;clear hne h63 hby hB
    go_roundg (f.waits.length-(i+1))
    case measure=>omega
    case rel=>
     refine ⟨i+1,UZ,on',oc',rfl,by omega,by go_num,rfl,?_⟩;rw [<-YV.o _ rfl];exact hS5
   ·have hcn:(cn:Int)=((f.at (i+1)).length:Int):=by
     have h1:=Hf.o.MX i _ hpw rfl;rw [f.yj i _ hpw];simp only [jQ.on,auT,abA]at h1 ⊢;omega
    have hwr2:True:=trivial;have Hcn:=uQ hcn;clear hpw acw hcn;generalize ((f.at i).length:Int)=L0 at *
    go_wp2_with fail;generalize wr.heap.size=qc at *
    refine aeO ?_;intro hG;clear hG;simp only [kW]
    go_frame
    clear acC hwr2 hil cl cb0 cb1 cb2 uK w0' w1' w2' hS1;generalize (wr.alloc (.cells #[.bool true,.int .i64 cn,.slice ba cb.length bc] 182)).drew=w8 at *
    have c9:=oZ.dD 0 _ rfl;have c10:=oZ.dD 1 _ rfl
    skip
    obtain ⟨ii,hii,hz0,hz1,hz2⟩:=info_parts acN;have hB:=oZ.alloc (.cells #[.int .i64 cn] 3);refine aeH ?_;intro h63 hby v2 w5 hS5 hne;obtain ⟨UZ,on',oc',rfl,_⟩:=id hS5.rd;clear hne h63 hby hB
    go_roundg (f.waits.length-(i+1))
    case measure=>omega
    case rel=>
     refine ⟨i+1,UZ,on',oc',rfl,by omega,by go_num,rfl,?_⟩;rw [<-YV.o _ Hcn.o];exact hS5
  ·obtain rfl:i=f.waits.length:=oQ;have hic:¬ (f.waits.length:Int)<(f.waits.length:Int):=oQ;have ank:=Hf.o.wC;have SB:=hS1.jS.dD 2 _ rfl;have anR:IntKind.i64.wrap ((f.waits.length:Int)-1)=(f.waits.length:Int)-1:=abR _ oQ;clear d0 d2 e0 e1 c1 hS hA hL hi';go_wp2_with fail;clear SB anR hic;have avJ:=uQ hk
   go_loopg [11] f.waits.length (λgg iq wr=>∃ (n:Nat),gg=n/\n<=f.waits.length/\iq=.int .i64 ((n:Int)-1)/\zf f k n f.waits.length /\
    au w0 wr (aK 3 1 (.slice la ln lc) ((List.range (f.waits.length+1)).map λj=>Value.int .i64 ((f.at j).length:Nat))::cZ (.slice (some ⟨g,0,none⟩) f.aN.length nc) (f.aN.set k z)::Bv b (.slice fa f.jo.length fc) (.slice (some ⟨g,0,none⟩) f.aN.length nc) (.slice wa f.waits.length wc)::cZ (.slice fa f.jo.length fc) f.jo::aK 182 3 (.slice wa f.waits.length wc) (ws.flatMap qC)::rW ws::F))
   case atStart=>exact ⟨f.waits.length,rfl,abG _,rfl,(λj c h1 h2=>by omega),hS1⟩
   case round=>
    obtain ⟨n,hgn,hn,rfl,hpast,hS2⟩:=hrel;have anu:=hgn.symm;subst anu;have hkn:k<(f.at f.waits.length).length:=by rw [<-Hf.o.aN];exact hk
    have acF:f.aN.set k z=iE f.aN k y:=by
     unfold iE;rw [abY,aaf hk,avL,Hx0.o,Hz.o]
    have Y6:=uQ acF;clear acF;rcases n with _|j
    ·have zZ:k<f.jo.length:=U2 hpast (abG _) hkn f.waits.length 0 oQ (acn _);have Q8:=uQ (PI y hpast);have hrd:=au.rd (hS2.gZ 4 [3] rfl rfl);have hcl:=yL hS2 hrd (by have:=Hf.o.size 0 (acn _);rw [dw.akz]at this;omega);have b0:=hS2.jS.dD 0 _ rfl;clear hrd hpast hkn hgn hn;rw [show (((0:Nat):Int)-1) = -1 from rfl];go_wp2_with fail;refine hcl.mono ?_;rintro e w1 ⟨v',rfl,hS3,a3,n3,k3,rfl⟩;have hP:=hS3.gZ 4 [3,0,2] rfl rfl;have fz:=hP.uJ 0;have fz1:=hP.dD 0 _ rfl;have hP2:=hP.set 0 (.slice a3 n3 k3);have p0:(w1.setCell ⟨b,0,none⟩ (.slice a3 n3 k3)).cell? ⟨b,0,none⟩=some (.slice a3 n3 k3):=hP2.dD 0 _ rfl;obtain ⟨g3,rfl,p1,p2,hP3⟩:=wz hP2.bZ zZ (f.jo[k]'zZ ^^^ y);have hx1:=X6 (f.jo[k]'zZ) y;have hn3:n3=f.jo.length:=by
      obtain ⟨_,_,_,he,hl,_⟩:=au.rd (hP2.gZ 2 [1] rfl rfl);exact J7
     subst hn3;have hki:(k:Int)<(f.jo.length:Int):=oQ;have GY:f.jo.set k (f.jo[k]'zZ ^^^ y)=iE f.jo k y:=by
      unfold iE;rw [abY,aaf zZ,avL]
     rw [GY]at hP3;have Hzf:=uQ GY;clear GY hS3 hP hcl b0;generalize f.jo[k]'zZ=x3 at *
     generalize x3 ^^^ y=z3 at *
     go_wp2;go_ret;refine ⟨.bool true,rfl,rfl,?_⟩;rw [Q8.o];have h6:=hP3.gZ 5 [1,0,2,4] rfl rfl;rw [Y6.o]at h6;have h7:au w0 _ (D7 b { f with aN:=iE f.aN k y,jo:=iE f.jo k y } (.slice (some ⟨g3,0,none⟩) f.jo.length k3) (.slice (some ⟨g,0,none⟩) f.aN.length nc) (.slice wa f.waits.length wc) ws++F):=h6;exact lN.fA Hws.o h7
    ·have hj:j<f.waits.length:=hn;obtain ⟨p,hp⟩:∃ p,ws[j]?=some p:=⟨ws[j]'(by have:=aiX List.length Hws.o;simp at this;omega),aaf _⟩;have hpw:f.waits[j]?=some p.1:=by rw [<-Hws.o,ab4,hp];rfl
     have hO:=hS2.gZ 5 [4] rfl rfl;obtain ⟨gw,rfl⟩:∃ g,wa=some ⟨g,0,none⟩:=by
      rcases (au.nV hO) with ⟨he,hx,_⟩|⟨g,n',cap',cs,he,_⟩
      ·have:=(Value.slice.inj he).2.1;omega
      ·exact ⟨g,(Value.slice.inj he).1⟩
     obtain ⟨w0',w1',w2'⟩:=ail hO hp;obtain ⟨G,hG,hG'⟩:=ZU ws j p hp;rw [hG]at hS2;have GK:=(au.fP.1 (hS2.gZ 6 [5,0,1,2,3,4] rfl rfl)).gZ 7 [2,3,4,5,6,0,1] rfl rfl;obtain ⟨⟨cut,cn,cb⟩,pv⟩:=p;obtain ⟨ba,bn,bc,hpb,_,_,hbn⟩:=Bh (GK.gZ 6 [5] rfl rfl);simp only at hpb w0' w1' w2' hpw hbn;subst hpb;subst hbn;obtain ⟨gl,rfl⟩:∃ g,la=some ⟨g,0,none⟩:=by
      rcases (au.nV GK) with ⟨he,hx,_⟩|⟨g,n',cap',cs,he,_⟩
      ·have:=aiX List.length hx;simp at this
      ·exact ⟨g,(Value.slice.inj he).1⟩
     have hln:ln=f.waits.length+1:=by
      obtain ⟨_,_,_,he,hl,_⟩:=GK.rd;cases he;simpa using hl.symm
     subst hln;have b2:=GK.jS.dD 2 _ rfl;have hic:(j:Int)<(f.waits.length:Int):=oQ;have EL:IntKind.i64.wrap ((j:Int)-1)=(j:Int)-1:=abR _ oQ;have hil:(j:Int)<(f.waits.length:Int)+1:=oQ;have hget:((List.range (f.waits.length+1)).map λj=>Value.int .i64 ((f.at j).length:Nat))[j]?=some (.int .i64 ((f.at j).length:Nat)):=by
      rw [ab4,List.getElem?_range oQ];rfl
     have YA:=uQ hget;have LU:=uQ hpw;clear hget hpw hO;cases cut
     ·have uK:=GK.alloc (.cells #[.bool false,.int .i64 cn,.slice ba cb.length bc] 182);have cb0:=uK.dD 0 _ rfl;have cb2:=uK.dD 2 _ rfl;have cl:=(OM uK.bZ j undef).2.1 _ YA.o;by_cases hle:(f.at j).length<=k
      ·have Q8:=uQ (arJ y hpast LU.o rfl hle);have hkj:k<(f.at (j+1)).length:=U2 hpast (abG _) hkn (f.waits.length-(j+1)) (j+1) oQ (abG _);rw [f.yj j _ LU.o]at hkj;simp only [jQ.on,ajI,auQ,aay]at hkj;have NQ:=Hf.o.size (j+1) oQ;rw [f.yj j _ LU.o]at NQ;simp only [jQ.on,ajI,auQ,aay]at NQ;obtain ⟨t,ht⟩:∃ t,t=k-(f.at j).length:=⟨_,rfl⟩;have htl:t<cb.length:=oQ;have hwt:IntKind.i64.wrap ((k:Int)-((f.at j).length:Int))=(t:Int):=by rw [abR _ oQ];omega
       have hti:(t:Int)<(cb.length:Int):=oQ;have hle1:((f.at j).length:Int)<=(k:Int):=oQ;have Ht:=uQ ht;have hrd:bK 1 (.slice ba cb.length bc) (aI cb) (wr.alloc (.cells #[.bool false,.int .i64 cn,.slice ba cb.length bc] 182)):=au.rd (uK.gZ 7 [6] rfl rfl);have hcl:=yL uK hrd oQ;have Hkj:=uQ hkj;have avK:=uQ NQ;clear hpast hkn hgn ht hkj NQ hrd;go_wp2_with fail;refine hcl.mono ?_;rintro e w1 ⟨v',rfl,hS3,a3,n3,k3,rfl⟩;clear hcl uK cb0 cb2 cl w0' w1' w2' b2;have cl:=(OM hS3.jS j undef).2.1 _ YA.o;obtain ⟨g3,rfl,p1,p2,hP3⟩:=wz hS3 htl (cb[t]'htl ^^^ y);have hx1:=X6 (cb[t]'htl) y;have hn3:n3=cb.length:=by
        obtain ⟨_,_,_,he,hl,_⟩:=au.rd hS3;exact J7
       subst hn3;have GY:cb.set t (cb[t]'htl ^^^ y)=iE cb t y:=by
        unfold iE;rw [abY,aaf htl,avL]
       rw [GY]at hP3;clear GY hS3;generalize cb[t]'htl=x3 at *
       generalize x3 ^^^ y=z3 at *
       have b2:=(hP3.gZ 5 [4] rfl rfl).dD 2 _ rfl;have hP4:=hP3.gZ 9 [6,0,2,3,4,5,8] rfl rfl;have o2:=(OM hP4 (j*3+2) undef).2.1 _ (ZR ws j _ hp).2.2;obtain ⟨o1,_,hP5⟩:=OM hP4 (j*3+2) (.slice (some ⟨g3,0,none⟩) cb.length k3);rw [ZT ws j _ (iE cb t y) _ hp]at hP5;go_wp2;go_ret;refine ⟨.bool true,rfl,rfl,?_⟩;rw [Q8.o,<-Ht.o];have h6:=au.fP.2 (hP5.gZ 7 [1,6,4,5,3,0] rfl rfl);rw [Y6.o]at h6;have h7:=h6.gZ 5 [1,2,3,4,0] rfl rfl;refine lN.fA (fv:= .slice fa f.jo.length fc) (nv:= .slice (some ⟨g,0,none⟩) f.aN.length nc) (wv:= .slice (some ⟨gw,0,none⟩) f.waits.length wc) (ws:=ws.set j (⟨false,cn,iE cb t y⟩,.slice (some ⟨g3,0,none⟩) cb.length k3)) (by rw [List.map_set,Hws.o]) ?_;unfold D7;rw [hG' (⟨false,cn,iE cb t y⟩,.slice (some ⟨g3,0,none⟩) cb.length k3)];exact h7
      ·have hpn:zf f k j f.waits.length:=by
        intro i c h1 h2 h3;rcases anF j i with h4|h4
        ·exact hpast i c h4 h2 h3
        ·obtain rfl:i=j:=oQ;exact .inr oQ
       have hle':¬ ((f.at j).length:Int)<=(k:Int):=oQ;exact ae2
     ·have uK:=GK.alloc (.cells #[.bool true,.int .i64 cn,.slice ba cb.length bc] 182);have cb0:=uK.dD 0 _ rfl;have hpn:zf f k j f.waits.length:=by
       intro i c h1 h2 h3;rcases anF j i with h4|h4
       ·exact hpast i c h4 h2 h3
       ·obtain rfl:i=j:=oQ;rw [LU.o]at h3;cases h3;exact .inl rfl
      exact ae2
structure D.At (W:World) (d:D):Prop where
 kind:rZ d.kind
 name:d.name.size<=9223372036854775807
 to:d.to.size<=9223372036854775807
 n:rZ d.n
 m:rZ d.m
 b:bK 1 d.bv (aI d.b) W
 bc:lS d.bv
 l:bK 1 d.lv (dJ d.l) W
 lc:lS d.lv
 li:∀ z∈d.l,rZ z
structure D.Fit (w0:World) (F:List aO) (d:D):Prop where
 name:d.name.size<=30
 to:d.to.size<=30
 n:rZ d.n
 m:rZ d.m
 b:d.b.length<=100
 l:Ro w0 F (bK 1 d.lv (dJ d.l))
 lc:lS d.lv
 li:∀ z∈d.l,rZ z
theorem arG (h:au w0 w (lN b f::F)) (hf:f.Ok K) (hK:K<=1099511627776) (aP:Int) (y:UInt8) :
  Calls prog 75 #[aW b,.int .i64 aP,.int .u8 y.toNat] w
   (bf λv w'=>v=.bool (decide (¬ (aP<0\/(f.aN.length:Int)<=aP)))/\au w0 w' (lN b (if aP<0\/(f.aN.length:Int)<=aP then f else f.gW aP.toNat y)::F)):=by
 by_cases ho:aP<0\/(f.aN.length:Int)<=aP
 ·have:=arM h hf aP y ho;simp only [ho,not_true,decide_false,auT];exact this
 ·obtain ⟨k,rfl⟩:=awg (show 0<=aP by omega);have:=arL h hf hK k y oQ;simp only [ho,not_false_iff,decide_true,auQ];exact this
theorem arI (hM:M.Ok K) (hK:K<=1099511627776) (h:au w0 w (aV m M::F)) (s:ByteArray) (aP:Int) (y:UInt8) :
  Calls prog 24 #[aW m,.string s,.int .i64 aP,.int .u8 y.toNat] w (bf λv w'=>v=.bool (M.gW s aP y).2/\au w0 w' (aV m (M.gW s aP y).1::F)):=by
 obtain ⟨bs,fb,nb,wv,L,u⟩:=aV.open h;have V:=u.dD 2 _ rfl;have c:=Ol (s:=s) (u.bZ);cases hn:dN M.aN s with
 |none=>
  rw [BA,hn]at c;simp only at c;have a:Hid (M.gW s aP y=(M,false)):=by show _=_;simp [aG.gW,hn]
  clear hn;go_enter func24,ntmps24;go_wp2;go_ret;exact ⟨.bool false,rfl,by rw [a.o],by rw [a.o];exact h⟩
 |some i=>
  rw [BA,hn]at c;simp only at c;have hid:i<M.dU.length:=hM.jR.qG (s,i) (lZ hn);obtain ⟨G,x,E⟩:=VN L hid u;obtain ⟨fv,nv,N,ws,j,z⟩:=lN.open x;have g:=hM.file i;have l:=au.rd (z.gZ 3 [2] rfl rfl);have n:=yL z l (by have:=g.zD;omega);have A:=z.dD 1 _ rfl;have a:Hid (M.gW s aP y=if aP<0\/((M.file i).aN.length:Int)<=aP then (M,false) else (M.lW i ((M.file i).gW aP.toNat y),true)):=by
   show _=_;simp only [aG.gW,hn]
  have W:=uQ x;have H:=uQ E;have C:=uQ g;have D:=uQ j;clear hn x E g j l;generalize X:bs.getD i 0=q at *
  go_enter func24,ntmps24;go_wp2_with fail;refine n.mono ?_;rintro e Y ⟨Z,rfl,o,O,P,Q,rfl⟩;have t:=o.bZ;have f1:=t.uJ 1;have R:=t.dD 1 _ rfl;have r:=(t.set 1 (.slice O P Q)).gZ 4 [0,2,1] rfl rfl;have S:au w0 _ (lN q (M.file i)::_):=lN.fA D.o r;have b:=arG S C.o hK aP y;generalize I:decide (¬ (aP<0\/((M.file i).aN.length:Int)<=aP))=B at b;have T:=uQ I;clear I;clear n A t r o;go_wp2_with fail;refine b.mono ?_;rintro e J ⟨v,rfl,rfl,d⟩;clear b f1 R;go_wp2;go_ret;refine ⟨.bool B,rfl,?_,?_⟩
  ·rw [a.o,<-T.o];by_cases f:aP<0\/((M.file i).aN.length:Int)<=aP
   ·rw [abL f,aes (λU=>U f)]
   ·rw [abB f,aiC f]
  ·rw [a.o];split
   ·rename_i f;rw [abL f]at d;have:=H.o J _ d;have e:M.lW i (M.file i)=M:=by
     unfold aG.lW aG.file;rw [abY,aaf hid];simp
    rw [e]at this;exact this
   ·rename_i f;rw [abB f]at d;exact H.o J _ d
section
variable {lv:Value}
theorem ao8 (z n aP:Int) (y:UInt8) (ds:List QD) (hr:Ro w0 F (bK 37 lv (qw ds))) (he:∀ d∈ds,Gg w0 F d) (hH:Ro w0 F iO) (h:au w0 w F) :
  Calls prog 5 #[.int .i64 z,lv,.int .i64 n,.int .i64 aP,.int .u8 y.toNat] w (bf λv w'=>v=.bool true/\au w0 w' F):=by
 have Hr:=uQ hr;have He:=uQ he;have HH:=uQ hH;have hwi:=XP z 128 2000 w;have hwm:=XQ z 128 2000 aU;generalize within z 128 2000=lim at *
 have yG:=uQ hwm;clear hr he hH hwm;go_enter func5,ntmps5;go_wp2_with fail;refine hwi.mono ?_;rintro e w1 ⟨v,rfl,rfl,rfl⟩;clear hwi;go_wp2_with fail;refine (amk ds 30 aU Hr.o (λd hd=>(He.o d hd).H9 λw hw=>hw) h).mono ?_;rintro ee w2 ⟨v,rfl,es,ov,rfl,hes,_,h2⟩;obtain ⟨q1,q2⟩:=amm hes (λd hd=>(He.o d hd).key);have Ls:=uQ q1;have QI:=uQ q2;obtain ⟨oa,oc,rfl⟩:=aqX (λd hd=>(QI.o d hd).1) h2;clear h hes q1 q2
 have hpl:=auX yG.o.1 yG.o.2 es (Ro.sS (λw hw=>au.rd hw) bJ) QI.o (λd hd=>by
  obtain ⟨i,hi⟩:=avO hd;exact Ro.sS (alG hi) bZ) Ls.o (Ro.os HH.o) h2
 obtain ⟨F1,hF1⟩:∃ F1,F1=aK 140 37 (.slice oa es.length oc) (qw es)::zk es::F:=⟨_,rfl⟩;rw [<-hF1]at hpl;have FZ:=uQ (show ∀ w',au w0 w' F1->au w0 w' F from λw' hw=>by rw [hF1]at hw;exact hw.drop.drop);have QB:=uQ (Ro.apX HH.o FZ.o);clear h2 hF1 Ls QI;go_wp2_with fail;refine hpl.mono ?_;rintro ee w3 ⟨v,rfl,m,r,o,mv,qs,rfl,hmo,ps,p,pn,pi,B,B2,B0,uv,tv,N,us,L,M,D,D0,hf,h3⟩;clear hpl;obtain rfl:=hf.CW rfl;have zL:=uQ hmo;have Ho:=uQ hf.aN;have x8:=uQ hf.rp;have Hx:=uQ hf.ext;clear hmo hf;have HB:=uQ (show B0<=70000 from abQ Hx.o.cO aU);have h4:au w0 w3 (bC p m L::aV m M::eH r m lim p ps pn false::aK 122 33 mv (qs.flatMap iY)::lU qs::F1):=h3.sb;clear h3;have Jz:=agO (h4.sb:au w0 w3 (eH r m lim p ps pn false::bC p m L::aV m M::aK 122 33 mv (qs.flatMap iY)::lU qs::F1));have hsg:=ER x8.o.hd.fD.lD h4;clear h4;go_wp2_with fail;refine Jz.mono ?_
 rintro ee w4 ⟨v,rfl,rfl,rfl⟩;go_wp2_with fail;refine hsg.mono ?_;rintro ee w5 ⟨sv,rfl,h5⟩;clear hsg Jz;have hsl:L.aX.length=D.length:=by rw [x8.o.hd.aX,abl]
 obtain ⟨sa,sc,rfl⟩:∃ sa sc,sv=.slice sa D.length sc:=by
  obtain ⟨a',n',c',he,hl,_⟩:=au.rd h5;refine ⟨a',c',?_⟩;rw [he]
  congr 1
  unfold dJ at hl;rw [abl,hsl]at hl;omega
 by_cases hD:D.length=0
 ·as_aux_lemma=>
   have c1:((D.length:Int)==0)=true:=by rw [alj];omega
   clear hD hsl;go_wp2_with fail;refine (JM HH.o (FZ.o _ (h5.sb:au w0 w5 F1))).mono ?_;rintro e w6 ⟨v,rfl,rfl,h6⟩;go_wp2_with fail;go_ret;exact ⟨_,rfl,rfl,h6⟩
 have c1:((D.length:Int)==0)=false:=by rw [acj];omega
 have HD:=uQ (show 0<D.length/\D.length<=31 from ⟨by omega,x8.o.hd.count⟩);have hwc:IntKind.i64.wrap ((D.length:Int)-1)=(D.length:Int)-1:=abR _ (by have:=HD.o;omega);have hwn:=XP n 0 ((D.length:Int)-1) w5;have hwm:=XQ n 0 ((D.length:Int)-1) (by have:=HD.o;omega);obtain ⟨kk,hkk⟩:∃ kk:Nat,within n 0 ((D.length:Int)-1)=kk:=⟨(within n 0 ((D.length:Int)-1)).toNat,by omega⟩;rw [hkk]at hwn hwm;have hkl:kk<D.length:=oQ;obtain ⟨D1,⟨k,el⟩,D2,hDD,hDk⟩:=aB.apa hkl;have c2:(0:Int)<=(kk:Int):=oQ;have c3:(kk:Int)<(D.length:Int):=oQ;obtain ⟨bk,off,rfl,hcell⟩:∃ bk off,sa=some ⟨bk,off,none⟩/\w5.cell? ⟨bk,off+kk,none⟩=some (.int .i64 k):=by
  have hik:(dJ L.aX)[kk]?=some (.int .i64 k):=by
   unfold dJ;rw [ab4,x8.o.hd.aX,ab4,hDk]
   rfl
  obtain ⟨b',o',e,hc⟩:=pq (au.rd h5) hik;exact ⟨b',o',e,hc kk _ hik⟩
 clear hkk hwm hkl hDk hD hsl;generalize D.length=dl at *
 subst hDD;obtain ⟨e17,e20,e31⟩:=aB.aoP x8.o aU;have hby:L.bytes M (k:Int)=(aB.dL++ay.bU el,0):=x8.o.hd.bytes (d:=(k,el)) yD0;have hgd:=(x8.o.hd.dW (k,el) yD0).1;have hsc:=ay.Kz el hgd;obtain ⟨b,hb⟩:∃ b,b=aB.dL++ay.bU el:=⟨_,rfl⟩;have hlb:=Og x8.o.hd.fD.lD x8.o.hd.fD.dV.ok (k:Int) (h5.sb:au w0 w5 (bC p m L::aV m M::aK 122 33 mv (qs.flatMap iY)::lU qs::F1));have Jz:=agO (h5.sb:au w0 w5 (eH r m lim p ps pn false::bC p m L::aV m M::aK 122 33 mv (qs.flatMap iY)::lU qs::F1));rw [hby,<-hb]at hlb;replace hsc:ay.eF b=(ay.iJ el 8,b.length,0):=by rw [hb,hsc]
 rw [<-hb]at e17 e20;have Hb:=uQ hb;have vH:=uQ hsc;have vw:=uQ (And.intro e17 e20);have QL:=uQ hgd;clear hby hgd hsc hb e17 e20 e31 h5;go_wp2_with fail;refine hwn.mono ?_;rintro e w6 ⟨v,rfl,rfl,rfl⟩;clear hwn;go_wp2_with fail;refine Jz.mono ?_;rintro ee w7 ⟨v,rfl,rfl,rfl⟩;clear Jz;go_wp2_with fail;refine hlb.mono ?_;rintro ee w8 ⟨v,rfl,bv,rfl,h8⟩;clear hlb hcell;have h9:au w0 w8 (cZ bv b::aV m M::aK 122 33 mv (qs.flatMap iY)::lU qs::F1):=h8.sb;clear h8;obtain ⟨hcp,ba,bc,rfl⟩:=RU h9;have acs:=agS b (Ro.sS (λw hw=>au.rd hw) bJ) hcp (by have:=vw.o;omega) h9;clear h9 hcp;go_wp2_with fail;refine acs.mono ?_;rintro ee w9 ⟨v,rfl,fs,fv,hfs,hfk,rfl,h10⟩;clear acs;have sK:=uQ (λ(p:ay.fO×Value) (hp:p∈fs)=>(by first|exact hfk p hp|exact hfk p.1 p.2 hp):∀ p∈fs,p.1.e.key.length=32);rw [vH.o]at hfs;have AU:=uQ hfs;clear hfk hfs
 have hwl:IntKind.i64.wrap ((b.length:Int)-1)=(b.length:Int)-1:=abR _ (by have:=vw.o;omega);have hwn:=XP aP 8 ((b.length:Int)-1) w9;have hwm:=XQ aP 8 ((b.length:Int)-1) (by have:=vw.o;omega);obtain ⟨a,ha⟩:∃ a:Nat,within aP 8 ((b.length:Int)-1)=a:=⟨(within aP 8 ((b.length:Int)-1)).toNat,by omega⟩;rw [ha]at hwn hwm;have Ha:=uQ (show 8<=a/\a<b.length by omega);clear ha hwm;go_wp2_with fail;refine hwn.mono ?_;rintro e w10 ⟨v,rfl,rfl,rfl⟩;clear hwn hwl;obtain ⟨fa,fc,rfl⟩:=Ny sK.o h10;have hcalm:=x8.o.hd.fD.dV;have hrc:=arI hcalm.ok aU (h10.sb:au w0 w9 (aV m M::aK 154 36 (.slice fa fs.length fc) (jw fs)::kT fs::aK 122 33 mv (qs.flatMap iY)::lU qs::F1)) (aB.name (k:Int)) (a:Int) y;have abU:M.all (aB.name (k:Int))=(b,0):=by rw [Hb.o];exact x8.o.hd.file (k,el) yD0
 have hall:=(aB.VY hcalm abU Ha.o.2 y).1;have TL:=aB.gU.gW hcalm (aB.name (k:Int)) (a:Int) y;have HM:=uQ (show y=0->(M.gW (aB.name (k:Int)) (a:Int) y).1=M from λe=>by rw [e];exact aG.VZ M _ _)
 have HK:=uQ (show ∀ (u v:List ay.aT) (x:ay.aT),aB.lH (iE b a y)=true->aB.jG (iE b a y)=u++v->el=u++x::v->aB.y9 lim (M.gW (aB.name (k:Int)) (a:Int) y).1 (D1++(k,el)::D2) x y from λu v x h1 h2 h3=>by
  have hi:=Ha.o.2;rw [Hb.o]at h1 h2 hi;exact aB.aoo x8.o Hx.o aU aU aU HB.o lim yG.o.1 zJ0 hi y h1 h2 h3)
 have HS:=uQ (show ∀ x:ay.aT,aB.y9 lim M (D1++(k,el)::D2) x y from λx=>aB.aop x8.o Hx.o aU aU aU HB.o lim yG.o.1 zJ0 x y);clear h10 hcalm abU;generalize (M.gW (aB.name (k:Int)) (a:Int) y).1=M1 at *
 obtain ⟨c,hc⟩:∃ c,c=iE b a y:=⟨_,rfl⟩;rw [<-hc]at hall HK;have Hc:=uQ hc;have oI:=uQ (show c.length=b.length by rw [hc,IV]);clear hc;go_wp2_with fail;refine (agA (k:Int) _).mono ?_;rintro e sH ⟨v,rfl,rfl,rfl⟩;go_wp2_with fail;refine hrc.mono ?_;rintro e w12 ⟨v,rfl,rfl,h12⟩;clear hrc;have hac:=Md TL.ok h12 (aB.name (k:Int));rw [hall]at hac;clear h12 hall;go_wp2_with fail;refine (agA (k:Int) _).mono ?_;rintro e vU ⟨v,rfl,rfl,rfl⟩;go_wp2_with fail;refine hac.mono ?_;rintro e wW ⟨v,rfl,cv,rfl,nJ⟩;clear hac;have hcp:=ZH nJ;have hsv:=aso c (Ro.sS (λw hw=>au.rd hw) bJ) hcp (by have:=vw.o;have:=oI.o;omega) nJ;clear nJ hcp;go_wp2_with fail;refine hsv.mono ?_;rintro e Cc ⟨v,rfl,vK,gv,hg1,hg2,rfl,h15⟩;clear hsv;obtain ⟨ga,gc,rfl⟩:=Ny hg2 h15;have Hg:=uQ (And.intro hg1 hg2);clear hg1 hg2
 have h16:au w0 Cc (aK 154 36 (.slice fa fs.length fc) (jw fs)::kT fs::aK 154 36 (.slice ga vK.length gc) (jw vK)::kT vK::aV m M1::aK 122 33 mv (qs.flatMap iY)::lU qs::F1):=h15.sb;clear h15
 have Yz:=uQ (show ∀ p∈fs,∃ a n c,p.2=Value.slice a n c from λp hp=>by
  obtain ⟨i,hi⟩:=avO hp;obtain ⟨a',n',c',e,_⟩:=Eu hi _ (h16.sb:au w0 Cc (kT fs::F1));exact ⟨a',n',c',e⟩)
 have aje:=uQ (show ∀ p∈vK,∃ a n c,p.2=Value.slice a n c from λp hp=>by
  obtain ⟨i,hi⟩:=avO hp;obtain ⟨a',n',c',e,_⟩:=Eu hi _ (h16.sb:au w0 Cc (kT vK::F1));exact ⟨a',n',c',e⟩)
 have hin:∀ p∈fs,∃ u v,el=u++p.1.e::v/\p.1.aP=8+(ay.bU u).length/\p.1.size=(ay.dI p.1.e).1.length:=λp hp=>aJ.Nw el 8 (by rw [<-AU.o];exact abI.2 ⟨p,hp,rfl⟩);have hsz:∀ p∈fs,p.1.aP<=1099511627776/\p.1.size<=1099511627776:=λp hp=>by
  obtain ⟨u,v,e1,e2,e3⟩:=hin p hp;have h1:=aiX (λl=>(ay.bU l).length) e1;simp only [aB.CZ,aay]at h1;have h2:(ay.bU (p.1.e::v)).length=(ay.dI p.1.e).1.length+(ay.bU v).length:=aay;have h3:=aiX List.length Hb.o;rw [aay]at h3;have:=vw.o;omega
 have hfl:fs.length<=16777216:=by
  have h1:=aiX List.length AU.o;rw [abl,ay.amG]at h1;have h2:=aB.Nh QL.o;have h3:=aiX List.length Hb.o;rw [aay]at h3;have:=vw.o;omega
 have acu:=atO (a:=a) (Ro.sS (λw hw=>au.rd hw) bJ) hfl sK.o hsz Yz.o h16;clear h16 hin hsz;go_wp2_with fail;refine acu.mono ?_;rintro e w17 ⟨v,rfl,xa,ya,xc,yn,yc,rfl,hhk,h17⟩;clear acu;have hln:=aiX List.length Hb.o;rw [aay]at hln;obtain ⟨u,x,v,hel,huv,hfx⟩:=ay.ahx el 8 a Ha.o.1 (by have:=Ha.o.2;have:aB.dL.length=8:=rfl;omega);have hhx:ay.vN a (fs.map (·.1))=x:=by rw [AU.o];exact hfx _
 have hot:(nM a fs).map (·.1)=u++v:=by
  rw [<-huv,<-AU.o];unfold nM;rw [ajr,List.filter_map,ajr]
  rfl
 rw [hhx]at hhk ⊢;have Ls:=uQ hel;have Hot:=uQ hot;have Hxk:=uQ hhk;have fV:=uQ (aen (a:=a) sK.o);clear hln hel huv hfx hhx hot hhk hfl;go_wp2_with (with_reducible apply ql);refine ⟨qA h17 ?_⟩;intro wo w18 h18;clear h17;go_wp2_with (with_reducible apply mY);refine ⟨jk h18 aA aA Hxk.o eu (iw _ _ rfl) ?_⟩;intro IL h19;clear h18
 have Hod:=uQ (show ∀ q∈nM a fs,∃ p∈fs,q=(p.1.e,p.2) from λq hq=>by
  obtain ⟨p,hp,rfl⟩:=abI.1 hq;exact ⟨p,(ai4.1 hp).1,rfl⟩)
 replace h19:au w0 IL (pt wo (.cells (dR x (.slice ya yn yc)) 71 (0,0))::aK 71 34 (.slice xa (nM a fs).length xc) (ug (nM a fs))::aK 154 36 (.slice fa fs.length fc) (jw fs)::kT fs::aK 154 36 (.slice ga vK.length gc) (jw vK)::kT vK::aV m M1::aK 122 33 mv (qs.flatMap iY)::lU qs::F1):=h19
 have hsm:=as8 (fs:=vK) (es:=nM a fs) (la:=ga) (lc:=gc) (lb:=xa) (ld:=xc) (Ro.sS (λw hw=>au.rd hw) yU) (Ro.sS (λw hw=>au.rd hw) bZ) (by
   have h1:=aiX List.length Hg.o.1;rw [abl]at h1;have h2:(if aB.lH c=true then ay.sG c else (ay.eF c).1).length=(aB.jG c).length:=by unfold aB.jG;split <;> rw [abl]
   have h3:=aB.WB c;have:=oI.o;have:=vw.o;omega) Hg.o.2 fV.o
  (λp hp=>⟨aje.o p hp,by
   have h1:p.1.e∈aB.jG c:=by
    have h2:aB.jG c=(vK.map (·.1)).map (·.e):=by rw [Hg.o.1];unfold aB.jG;split <;> rfl
    rw [h2,ajr];exact abI.2 ⟨p,hp,rfl⟩
   have h4:=aB.abz ((aB.Ky c).1 _ h1);omega,by
   obtain ⟨i,hi⟩:=avO hp;exact Ro.sS (Eu hi) aqi⟩)
  (λq hq=>by
   obtain ⟨p,hp,rfl⟩:=Hod.o q hq;refine ⟨Yz.o p hp,?_⟩;obtain ⟨i,hi⟩:=avO hp;exact Ro.sS (Eu hi) mD) h19
 have avF:=uQ TL;clear TL;have hdrop:∀ w',au w0 w' (pt wo (.cells (dR x (.slice ya yn yc)) 71 (0,0))::aK 71 34 (.slice xa (nM a fs).length xc) (ug (nM a fs))::aK 154 36 (.slice fa fs.length fc) (jw fs)::kT fs::aK 154 36 (.slice ga vK.length gc) (jw vK)::kT vK::aV m M1::aK 122 33 mv (qs.flatMap iY)::lU qs::F1)->au w0 w' (aV m M1::pt wo (.cells (dR x (.slice ya yn yc)) 71 (0,0))::aK 122 33 mv (qs.flatMap iY)::lU qs::F1):=λw' hw=>hw.sb;have Hdr:=uQ hdrop;clear hdrop;by_cases hbad:aB.lH c=true
 focus
  have AP:=uQ hbad;clear HS HM;rw [hbad];clear hbad;go_wp2_with fail;refine hsm.mono ?_;rintro e Az ⟨v,rfl,q,rfl,hq,h20⟩;clear hsm h19;have Hq:=uQ hq;clear hq;rcases q with _|_
  ·as_aux_lemma=>
    clear HK Hq;go_wp2_with fail;refine (JM HH.o (FZ.o _ (h20.sb:au w0 Az F1))).mono ?_;rintro e DW ⟨v,rfl,rfl,h21⟩;go_wp2_with fail;go_ret;exact ⟨_,rfl,rfl,h21⟩
  have hs:aB.jG c=u++v:=by
   have h2:aB.jG c=vK.map (λp=>p.1.e):=by
    have h3:aB.jG c=(vK.map (·.1)).map (·.e):=by rw [Hg.o.1];unfold aB.jG;split <;> rfl
    rw [h3,ajr];rfl
   rw [h2,(by simpa using Hq.out:vK.map (λp=>p.1.e)=(nM a fs).map (·.1)),Hot.o]
  have hkept:=HK.o u v x AP.o hs Ls.o;have h22:=Hdr.o _ h20;clear h20 HK Hq hs;have QO:=uQ hkept;clear hkept;go_wp2_with fail
 rotate_left
 focus
  have hbad:=Bool.eq_false_iff.2 hbad;have AP:=uQ hbad;rw [hbad];clear hsm HK hbad;by_cases hy:y=0;rotate_left
  ·as_aux_lemma=>
    have cy:((y.toNat:Int) != 0)=true:=by
     rw [ajo];intro e;apply hy;have:y.toNat=0:=oQ;exact ak4.1 this
    clear HM HS hy;go_wp2_with fail;refine (JM HH.o (FZ.o _ (h19.sb:au w0 IL F1))).mono ?_;rintro e DW ⟨v,rfl,rfl,h21⟩;go_wp2_with fail;go_ret;exact ⟨_,rfl,rfl,h21⟩
  have hM1:=HM.o hy;have hkept:aB.y9 lim M1 (D1++(k,el)::D2) x y:=by rw [hM1];exact HS.o x
  have cy:((y.toNat:Int) != 0)=false:=by rw [hy];rfl
  have h22:=Hdr.o _ h19;have QO:=uQ hkept;clear h19 HM HS hM1 hkept hy;go_wp2_with fail;clear cy;generalize IL=Az at *
 all_goals
  obtain ⟨Ka,Kb,Ea,Bx,R,last,qq,M2,Dn,hp,⟨k1,k2,k3,k4⟩,ho1,ho2⟩:=QO.o;have JD:=apj hp k1 k2 k3 k4 yG.o.1 zJ0 (Ro.os QB.o) h22;have Ho1:=uQ ho1;have CB:=uQ ho2;have QN:=uQ k2;clear hp k1 k2 k3 k4 ho1 ho2 h22 QO;generalize aB.qR (aH.iC M1) R=fl1 at *
  refine JD.mono ?_;rintro e XL ⟨v,rfl,M3,hM3,fv2,rfl,⟨a2,c2,rfl⟩,h23⟩;clear JD;have Lr:=uQ hM3;have Dj:au w0 XL (aV m M3::pt wo (.cells (dR x (.slice ya yn yc)) 71 (0,0))::aK 122 33 mv (qs.flatMap iY)::lU qs::F1):=h23.sb;clear h23 hM3;have hop:=apg Lr.o (by have:=QN.o;omega) yG.o.1 zJ0 (Ro.os QB.o) Dj;clear Dj;go_wp2_with fail;refine hop.mono ?_;rintro e w25 ⟨v,rfl,r2,rfl,p2,ps2,pn2,Bm,G2,hB2,hG2,Jo⟩;clear hop;go_wp2_with (with_reducible apply jd);refine ⟨iR uZ Jo rfl ?_⟩;intro b31 w26 Jp;go_wp2_with ((with_reducible refine eG ⟨?_⟩);refine jK (iF aJ.gI.zero) Jp aA aA aA eu aC aA ?_;intro w27 h27);clear Jo Jp;have hmp:=apf (F:=pt wo (.cells (dR x (.slice ya yn yc)) 71 (0,0))::aK 122 33 mv (qs.flatMap iY)::lU qs::F1) Lr.o yG.o.1 zJ0 (Ro.os QB.o) ⟨p2,ps2,pn2,Bm,G2,hB2,hG2,h27.drop⟩;clear h27;refine hmp.mono ?_
  rintro e XM ⟨v,rfl,mv2,yV,rfl,⟨x1,x2,x3,x4⟩,h28⟩;clear hmp hG2 hB2;have L8:=uQ (And.intro x1 (And.intro x2 (And.intro x3 x4)));clear x1 x2 x3 x4;have Jq:au w0 XM (pt wo (.cells (dR x (.slice ya yn yc)) 71 (0,0))::aK 122 33 mv2 (yV.flatMap iY)::lU yV::aK 122 33 mv (qs.flatMap iY)::lU qs::F1):=h28.sb;clear h28;have e0:XM.cell? ⟨wo,0,none⟩=some (.int .i64 x.dB):=Jq.bI bJ 0 (Dc _ _);by_cases hd:y=0\/x.dB=2
  focus
   have hob:aJ.l7 (aB.iP Dn)=aJ.l7 (aB.iP (D1++(k,el)::D2)):=by
    rcases hd with e|e
    ·exact Ho1.o e
    ·exact funext λq=>CB.o q (.inl e)
   have hsm:=ahd qs yV (by
     have h1:=zL.o.1;rw [Ho.o,<-hob]at h1;exact h1.FD L8.o.1) (λq hq=>(zL.o.2.1 q hq).1) (Ro.sS (λw hw=>au.rd hw) bJ) (Ro.sS (λw hw=>au.rd hw) jS)
    (λq hq=>Ro.sS (MZ hq) bZ) (λq hq=>Ro.sS (MZ hq) mD) (abQ zL.o.2.2.1 aU) (λq hq=>abQ (zL.o.2.2.2 q hq) aU)
    (Jq.sb:au w0 XM (aK 122 33 mv (qs.flatMap iY)::lU qs::aK 122 33 mv2 (yV.flatMap iY)::lU yV::F1))
   clear Jq hob;by_cases hy:y=0
   focus
    have cy:((y.toNat:Int) != 0)=false:=by rw [hy];rfl
    clear hd hy
    go_wp2_with (first
     |((with_reducible apply BU);refine ⟨?_⟩;refine BX zA0 ?_))
   rotate_left
   focus
    have cy:((y.toNat:Int) != 0)=true:=by
     rw [ajo];intro e;apply hy;have:y.toNat=0:=oQ;exact ak4.1 this
    have ct:(x.dB != 2)=false:=by
     rcases hd with e|e
     ·exact absurd e hy
     ·rw [e];rfl
    clear hd hy
    go_wp2_with (first
     |((with_reducible apply BU);refine ⟨?_⟩;refine BX zA0 ?_))
   all_goals
    refine hsm.mono ?_;rintro e Ce ⟨v,rfl,rfl,h30⟩;clear hsm e0 cy;go_wp2_with fail;refine (JM HH.o (FZ.o _ (h30.sb:au w0 Ce F1))).mono ?_;rintro e IQ ⟨v,rfl,rfl,h31⟩;go_wp2_with fail;go_ret;exact ⟨_,rfl,rfl,h31⟩
  have hy:¬ y=0:=λe=>hd (.inl e);have ct:(x.dB != 2)=true:=ajo.2 λe=>hd (.inr e);have cy:((y.toNat:Int) != 0)=true:=by
   rw [ajo];intro e;apply hy;have:y.toNat=0:=oQ;exact ak4.1 this
  clear hd hy
  go_wp2_with (first
   |((with_reducible apply BU);refine ⟨?_⟩;refine BX zA0 ?_))
  have hSd:=Jq.drew;clear Jq e0;have HG:=uQ (λ(w':World) (G:List aO) (hw:au w0 w' (pt wo (.cells (dR x (.slice ya yn yc)) 71 (0,0))::G))=>show w'.rangeAt wo 1 (aI x.key) from Jk hw bJ Hxk.o);have oI:=uQ (λ(w':World) (hw:au w0 w' (pt wo (.cells (dR x (.slice ya yn yc)) 71 (0,0))::aK 122 33 mv2 (yV.flatMap iY)::lU yV::aK 122 33 mv (qs.flatMap iY)::lU qs::F1))=>ahm qs zL.o.2.1 (Ro.sS (λw hw=>au.rd hw) mD) (abQ zL.o.2.2.1 aU) x.key Hxk.o hw);refine gK [7,8,9] (λw'=>w'.rangeAt wo 1 (aI x.key)) aC ?_;have hG:=HG.o _ _ hSd;refine rP 0 ?_ (y:=bV);refine rP 1 ?_ (y:=eY);refine ji 2 aF aC dF (lF (b:=wo) (o:=1) (aI x.key) aA underlying34 rfl yL0 (λw hw=>hw)) aQ gQ ?_;refine rP 4 ?_ (y:=bV);refine rP 5 ?_ (y:=eY);refine ji 6 aF aC dF (lF (b:=wo) (o:=1) (aI x.key) aA underlying34 rfl yL0 (λw hw=>hw)) aQ gQ ?_;clear hG;refine dZ 3 aF aC (λK hK=>?_)
  (refine SH aC aF aF aF aF ?_)
  refine (oI.o _ hSd).mono ?_;rintro e Ce ⟨va,rfl,qa,⟨acf,acg⟩,h30⟩;have I5:=uQ (And.intro acf acg);clear acf acg oI;have TF:au w0 Ce (pt wo (.cells (dR x (.slice ya yn yc)) 71 (0,0))::aK 122 33 va (qa.flatMap iY)::aK 122 33 mv2 (yV.flatMap iY)::lU yV::aK 122 33 mv (qs.flatMap iY)::lU qs::F1):=h30.sb;clear h30;refine hK _ _ (.inr (.inl (HG.o _ _ TF))) ?_;clear hK;have Cj:=uQ (λ(w':World) (hw:au w0 w' (pt wo (.cells (dR x (.slice ya yn yc)) 71 (0,0))::aK 122 33 va (qa.flatMap iY)::aK 122 33 mv2 (yV.flatMap iY)::lU yV::aK 122 33 mv (qs.flatMap iY)::lU qs::F1))=>ahm yV L8.o.2.1 (Ro.sS (λw hw=>au.rd hw) jS) (abQ L8.o.2.2.1 aU) x.key Hxk.o hw);refine dZ 7 aF aC (λK hK=>?_)
  (refine SH aC aF aF aF aF ?_)
  refine (Cj.o _ TF).mono ?_;rintro e IQ ⟨vb,rfl,qb,⟨ach,aci⟩,h31⟩;have CG:=uQ (And.intro ach aci);clear ach aci Cj TF;refine hK _ _ (.inl rfl) ?_;clear hK;refine rP 8 ?_ (y:=kR);refine rP 9 ?_ (y:=kR);refine fK aC ?_
  try simp only [kW]
  try go_frame
  have hdl:aY.qo (aJ.l7 (aB.iP (D1++(k,el)::D2))) x.key=aY.qo (aJ.l7 (aB.iP Dn)) x.key:=by
   funext q
   unfold aY.qo;by_cases e:q=x.key
   ·rw [abL e,abL e]
   ·rw [abB e,abB e];exact (CB.o q (.inr λe2=>e e2.symm)).symm
  have hl1:=aY.aar (k:=x.key) zL.o.1 [];have hl2:=aY.aar (k:=x.key) L8.o.1 [];rw [aY.WQ]at hl1 hl2;rw [Ho.o,hdl,<-I5.o.1]at hl1;rw [<-CG.o.1]at hl2;have JC:qa.length<=999:=by
   have h1:=aiX List.length I5.o.1;rw [abl]at h1;have h2:=ak6 (λx_1:ay.Bs×ay.Bs=>decide (x_1.1≠x.key)) (qs.map sD);rw [abl]at h2;have:=zL.o.2.2.1;omega
  have hsm:=ahd qa qb (hl1.FD hl2) (λq hq=>(zL.o.2.1 q (I5.o.2 q hq)).1) (Ro.sS (λw hw=>au.rd hw) jS) (Ro.sS (λw hw=>au.rd hw) bJ)
   (λq hq=>Ro.sS (MZ (I5.o.2 q hq)) (bW (bW yU))) (λq hq=>Ro.sS (MZ (CG.o.2 q hq)) yU) (abQ JC aU)
   (λq hq=>abQ (zL.o.2.2.2 q (I5.o.2 q hq)) aU) h31
  clear h31 hl1 hl2 hdl JC;go_wp2_with fail;refine hsm.mono ?_;rintro e w32 ⟨v,rfl,rfl,h32⟩;clear hsm;go_wp2_with fail;refine (JM HH.o (FZ.o _ (h32.sb:au w0 w32 F1))).mono ?_;rintro e w33 ⟨v,rfl,rfl,h33⟩;go_wp2_with fail;go_ret;exact ⟨_,rfl,rfl,h33⟩
end
open Go Go.Sl Go.aG Go.ChangeShapes Go.WideShapes Go.RowKit
structure QD.At (W:World) (d:QD):Prop where
 kind:rZ d.c.kind
 key:d.c.key.length=32
 rd:bK 1 d.dv (aI d.c.data) W
 cap:lS d.dv
 n:rZ d.c.n
 m:rZ d.c.m
 rl:bK 1 d.lv (dJ d.c.l) W
 Sm:lS d.lv
 yP:∀ i∈d.c.l,rZ i
section
variable {H:Type}{enc:TypeId×Value->H}{W:World}{base:Nat}{spare:Nat->Bool}{held:Bool}
theorem ap9 {fuel:Nat}{cs:List Value}{x:DataW H×List MemPlace} (h:DataW.trod enc prog W base spare held fuel 140 cs=some x):∃ d:QD,uS d=cs/\d.At W:=by
 have⟨o,hf⟩:=ap7 underlying140 h;have c:prog.cellsOf 140=37:=aC;have g:prog.cellsOf 3=1:=aC;have i:prog.cellsOf 34=32:=aC;have r:prog.cellsOf 59=1:=aC;have s:prog.cellsOf 5=1:=aC;have t:prog.cellsOf 46=1:=aC;rw [c]at o;have⟨X,Y,j⟩:=hf 0 _ rfl;have⟨Z,y1,l⟩:=hf 1 _ rfl;have⟨n2,y2,e⟩:=hf 2 _ rfl;have⟨n3,y3,m⟩:=hf 3 _ rfl;have⟨n4,y4,n⟩:=hf 4 _ rfl;have⟨n5,y5,f⟩:=hf 5 _ rfl;simp only [List.getElem_toArray,List.getElem_cons_zero,List.getElem_cons_succ,g,i,r,t,av5]at j l e m n f;have⟨u,w,_,y⟩:=avT underlying3 j;have⟨z,A,B⟩:=ap8 underlying34 i l;have hd:∃ v,(cs.drop 33).take 1=[v]:=by
  have:((cs.drop 33).take 1).length=1:=by rw [abA,abJ];omega
  exact List.length_eq_one_iff.1 this
 have⟨dv,a⟩:=hd;rw [a]at e;have⟨C,D,E⟩:=anY underlying59 underlying5 s e;have⟨F,G,_,I⟩:=avT underlying3 m;have⟨J,K,_,L⟩:=avT underlying3 n;have hd:∃ v,(cs.drop 36).take 1=[v]:=by
  have:((cs.drop 36).take 1).length=1:=by rw [abA,abJ];omega
  exact List.length_eq_one_iff.1 this
 have⟨lv,b⟩:=hd;rw [b]at f;have⟨M,N,O,P⟩:=anZ underlying46 underlying3 g f;refine ⟨⟨⟨u,z,C,F,J,M⟩,dv,lv⟩,?_,bounds_i64 y,B,D,E,bounds_i64 I,bounds_i64 L,N,O,P⟩;have Q:cs=cs.take 1++((cs.drop 1).take 32++((cs.drop 33).take 1++((cs.drop 34).take 1++((cs.drop 35).take 1++(cs.drop 36).take 1)))):=by
  have R:(cs.drop 36).take 1=cs.drop 36:=acE yK0;have S:(cs.drop 35).take 1++cs.drop 36=cs.drop 35:=by
   rw [show cs.drop 36=(cs.drop 35).drop 1 by rw [apl]];exact aja 1 _
  have T:(cs.drop 34).take 1++cs.drop 35=cs.drop 34:=by
   rw [show cs.drop 35=(cs.drop 34).drop 1 by rw [apl]];exact aja 1 _
  have U:(cs.drop 33).take 1++cs.drop 34=cs.drop 33:=by
   rw [show cs.drop 34=(cs.drop 33).drop 1 by rw [apl]];exact aja 1 _
  have V:(cs.drop 1).take 32++cs.drop 33=cs.drop 1:=by
   rw [show cs.drop 33=(cs.drop 1).drop 32 by rw [apl]];exact aja 32 _
  rw [R,S,T,U,V];exact (aja 1 cs).symm
 rw [Q,w,<-A,a,G,K,b];rfl
theorem an0 {fuel:Nat}{v:Value}{x:DataW H×List MemPlace} (h:DataW.trod enc prog W base spare held fuel 52 [v]=some x) :
  ∃ m:List QD,bK 37 v (qw m) W/\lS v/\∀ d∈m,d.At W:=by
 obtain ⟨a,c,e,f⟩:=ael underlying52 (k:=37) aC oQ h;obtain ⟨m,g,i⟩:=UG a λj b=>by
  obtain ⟨_,n,y,l⟩:=f j b;exact ap9 l
 refine ⟨m,?_,e,i⟩;unfold qw;rw [List.flatMap_def,g];exact c
theorem QD.At.ro {d:QD} (h:d.At W):Gg W [Sl.kP W] d:=⟨h.key,VO h.rd,h.cap,VO h.rl,h.Sm⟩
end
end Go.Proofs.Y
namespace Go.Proofs.Y.card
open Go.ChangeShapes Go.WideShapes Go.ChangeAt Go.RowKit
open Go Go.Sl Go.aG
theorem amR:prog.globalNamed "hoard/crc.half" = some 0:=aC
theorem auh:((prog.globals[0]?).map (·.type))=some 361:=aC
theorem alX (os:Os) (args:Array Value):laidMetH prog [("hoard/crc.half",Rows.laid_hoard_crc_half)] ((World.doorLaid prog 400 os).forCall (λ_ _=>0) ⟨#[],args,[]⟩).memory:=
 laidMetH_of_parts3 (fuel:=8) (laidMet_of_run' 8 aC aC) aC aC
theorem apY {W:World} (h:laidMetH prog [("hoard/crc.half",Rows.laid_hoard_crc_half)] W):0<W.heap.size/\iO W:=by
 rw [MakeChecks.laidMetH_plain _ _ _ aC]at h;obtain ⟨D,⟨E,F,a,G,H,I,b,m,n,o,r⟩,f⟩:=h;obtain rfl:=ajH (amR.symm.trans b);obtain rfl:=ajH (auh.symm.trans m);obtain ⟨t,J,rfl,c,u,x,s⟩:=DataW.trod_array underlying361 o;have y:prog.cellsOf 232=1:=aC;simp only [Prod.mk.injEq,Rows.laid_hoard_crc_half,DataW.agg.injEq]at c;have v:iO W:=by
  intro i hi;have g:=s i hi;have d:t[i]?=some (t[i]'oQ):=aaf oQ;rw [d]at g;obtain ⟨k,w,z,_⟩:=avT underlying232 g;rw [y,aiR]at w;have A:a.toList[i]?=some (.int .u32 k):=by
   have:((a.toList.drop i).take 1)[0]?=some (.int .u32 k):=by rw [w];rfl
   rw [ak7,abL aU,anv]at this;exact this
  have j:=aiX (λl=>l[i]?) c.1;rw [ab4,d]at j;have B:k=((ay.half.getD i 0:Nat):Int):=by
   rw [z]at j;rcases i with _|_|_|_|_|_|_|_|_|_|_|_|_|_|_|_|i
   all_goals first|omega|(simp at j;rw [<-j];rfl)
  subst B;have:=World.var?_cell b n i;rw [this,<-anO];exact A
 refine ⟨?_,v⟩;by_cases C:0<W.heap.size
 ·exact C
 ·have g:=v 0 aU;have e:W.heap[0]?=none:=avQ oQ;simp [World.cell?,e]at g
end Go.Proofs.Y.card
