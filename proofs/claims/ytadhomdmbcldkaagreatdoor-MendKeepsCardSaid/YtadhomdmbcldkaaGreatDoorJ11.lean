import Derived.Test.YtadhomdmbcldkaaGreatDoorJ10
set_option linter.unusedSimpArgs false
variable {A C:Prop}
open Go.Proofs.Tryz
set_option maxRecDepth 20000
set_option linter.unusedVariables false
set_option maxHeartbeats 128000000
open Go Go.Sl Go.MapKept Go.RowKit
open Go.Proofs.YtadhomdmbcldkaaGreatDoor Go.Proofs.Y
variable {w0 w:World}{F:List aO}{m K r r0 E n p B:Nat}{M:aG.aG}{aZ N limit:Int}{oc:ay.Bs->Option ay.Bs}{L:aB.aS}{R:List (Nat×ay.Bs)}{lv:Value}{d:Bool}{zs:List Sg}{us:List aJ.gX}
theorem zN0(h:A:=by have:=hf.b1;omega):A:=h
theorem zU0(h:A:=by rw [iw _ _ aQ];decide):A:=h
namespace Go.Proofs.Y
open Go.aG
abbrev Mp:=(Nat×ay.Bs)×Fs×Value
def uO (n:Int) (sv:Value) (aP e:Int):Array Value:=#[.int .i64 n,sv,.int .i64 aP,dS e]
def iy (y:Mp):List Value:=(uO (y.1.1:Int) y.2.2 (ay.eF y.1.2).2.1 (ay.eF y.1.2).2.2).toList
def zC (y:Mp):Sg:=((y.1.1:Int),y.2)
structure xk (y:Mp):Prop where
 Tm:y.2.1.map (·.1)=aB.P8 y.1.2
 key:∀ q∈y.2.1,q.1.e.key.length=32
 sl:∃ a c,y.2.2=.slice a y.2.1.length c
theorem UH (y:Mp):(iy y).length=4:=rfl
theorem aqn:yA prog 189=some [(0,1),(1,1),(2,1),(3,1)]:=aC
theorem FW:nR prog 189=some (.agg (uO 0 (.slice none 0 0) 0 0)):=aC
theorem asH (n:Int) (w:World):(Instr.build 189 #[(0,.int .i64 n)]).run prog w=.ok (.agg (uO n (.slice none 0 0) 0 0)) w:=
 uU [(0,.int .i64 n)] aqn FW (by
  intro x hx;rw [acS.1 hx];exact ⟨0,rfl,by show 0+1<=4;decide⟩) w
theorem akn {P:Program}{ops:Array Oper}{rest:List Oper}{w:World}{a:Act}{Q:Exit->Act->World->Prop}{dst:Option Tmp}{t ty:TypeId}{pos:String}{after:Array Edge}{x:Operand} (h:lQ (wpList P ops Q (⟨dst,.build ty #[(0,x)],t,pos,after,none⟩::rest) a w)):wpList P ops Q (⟨dst,.build ty #[(0,x)],t,pos,after,none⟩::rest) a w:=h.o
def ajO (w0:World) (lv:Value) (ys:List Mp) (F:List aO) (w:World):Prop:=
 (∀ y∈ys,xk y)/\(∃ a c,lv=.slice a ys.length c)/\∃ zs:List Sg,(∀ y∈ys,zC y∈zs)/\au w0 w (aK 189 4 lv (ys.flatMap iy)::jm zs::F)
def ajP (w0:World) (R:List (Nat×ay.Bs)) (F:List aO) (v:Value) (w:World):Prop:=
 ∃ (lv:Value) (ys:List Mp),v=.tuple #[lv,dS 0]/\ys.map (·.1)=R/\ajO w0 lv ys F w
theorem U5 (hL:L.Ok) (hM:M.Ok K) (hs:L.aX=R.map λd=>(d.1:Int)) (hb:∀ d∈R,L.bytes M (d.1:Int)=(d.2,0)) (hn:R.length<=65536) (hH:Ro w0 F iO) (h:au w0 w (bC p m L::aV m M::F)) :
  Calls prog 41 #[aW p] w (bf λv w'=>ajP w0 R (bC p m L::aV m M::F) v w'):=by
 have hse:=ER hL h
 have vw:=uQ (show ∀ d∈R,d.2.length<=16777216 from λd hd=>by
  have h1:=aB.Gn (L:=L) hM (d.1:Int);rw [hb d hd]at h1;exact h1)
 have Hby:=uQ (λ(d:Nat×ay.Bs) (hd:d∈R) (w':World) (G:List aO) (hw:au w0 w' (bC p m L::aV m M::G))=>show Calls prog 22 #[aW p,.int .i64 (d.1:Int)] w' (bf λv w''=>∃ bv,v=.tuple #[bv,dS 0]/\au w0 w'' (cZ bv d.2::bC p m L::aV m M::G)) from by
  have h1:=Og hL hM (d.1:Int) hw;rw [hb d hd]at h1;exact h1)
 have hsl:L.aX.length=R.length:=by rw [hs,abl]
 have Hs:=uQ hs;have HH:=uQ hH;have Hn:=uQ hn;have H:=uQ hsl;clear hL hM hb hs hH hn hsl;generalize L.aX=S at *
 go_enter func41,ntmps41;go_wp2_with fail;refine hse.mono ?_;rintro e w1 ⟨v,rfl,hS⟩;clear hse h;obtain ⟨a,c,rfl⟩:=Ue (au.rd hS);have h0:au w0 w1 (aK 189 4 (.slice none 0 0) (([]:List Mp).flatMap iy)::jm []::aK 3 1 (.slice a S.length c) (dJ S)::bC p m L::aV m M::F):=au.iW.2 (au.ng.2 hS);clear hS;go_wp2_with fail
 go_loopg [4,13] S.length (λg ov iq wr=>∃ (i:Nat) (ys:List Mp) (D:List Sg),g=S.length-i/\i<=S.length/\iq=.int .i64 i/\ys.map (·.1)=R.take i/\(∀ y∈ys,xk y)/\(∃ a c,ov=.slice a ys.length c)/\(∀ y∈ys,zC y∈D) /\
  au w0 wr (aK 189 4 ov (ys.flatMap iy)::jm D::aK 3 1 (.slice a S.length c) (dJ S)::bC p m L::aV m M::F))
 case atStart=>exact ⟨0,[],[],rfl,acn _,rfl,rfl,(λ_ h=>nomatch h),⟨none,0,rfl⟩,(λ_ h=>nomatch h),h0⟩
 case round=>
  obtain ⟨i,ys,D,rfl,hi,rfl,I,V,ad,W,hS⟩:=hrel;clear h0;by_cases X:i<S.length;rotate_left
  ·have c1:¬ (i:Int)<(S.length:Int):=oQ;have Hys:=uQ (show ys.map (·.1)=R by rw [I,acE (by have:=H.o;omega)]);have ae:=uQ (And.intro V (And.intro ad W));clear I V ad W X hi;go_wp2_with fail
   go_ret2
   exact ⟨_,rfl,_,ys,rfl,Hys.o,ae.o.1,ae.o.2.1,D,ae.o.2.2,hS.sb⟩
  have c1:(i:Int)<(S.length:Int):=oQ;have hwi:IntKind.i64.wrap ((i:Int)+1)=(i:Int)+1:=abR _ (by have:=Hn.o;have:=H.o;omega);obtain ⟨⟨n,b⟩,hd⟩:∃ d,R[i]?=some d:=⟨_,aaf (by rw [<-H.o];exact X)⟩;have af:=abH hd;have hsi:S[i]?=some (n:Int):=by rw [Hs.o,ab4,hd];rfl
  obtain ⟨Y,off,cc,hsv,hc0⟩:=GZ (au.rd (hS.pk (A:=aK 3 1 (.slice a S.length c) (dJ S)))) hsi;cases hsv;have jl:=uQ (show R.take (i+1)=R.take i++[(n,b)] by rw [ajf,hd,akf]);have hbl:=vw.o _ af;have Hy:=uQ (Hby.o _ af);have dP:=uQ X;have ag:=uQ (And.intro I (And.intro V W));have hyl:ys.length=i:=by
   have h1:=aiX List.length I;rw [abl,abA]at h1;have:=H.o;omega
  obtain ⟨u,z,rfl⟩:=ad;have aa:(ys.flatMap iy).length<=2147483648:=by
   rw [lK (k:=4) (λy _=>UH y)];have:=Hn.o;have:=H.o;omega
  have Hlen:=uQ aa;clear I V W X hi hd af hsi hyl aa;go_wp2_with fail;refine (Hy.o _ _ (hS.sb:au w0 wr (bC p m L::aV m M::aK 189 4 (.slice u ys.length z) (ys.flatMap iy)::jm D::aK 3 1 (.slice (some ⟨Y,off,none⟩) S.length c) (dJ S)::F))).mono ?_;rintro e w2 ⟨v,rfl,bv,rfl,h2⟩;clear hS hc0;obtain ⟨ba,bn,bc,rfl,hbn,ab,hl⟩:=Bh h2;obtain rfl:bn=b.length:=hl
  go_wp2_with (first
   |((with_reducible refine akn ⟨?_⟩);refine FQ aA (asH n) ?_)
   |(with_reducible apply jd))
  refine ⟨iR FW h2 rfl ?_⟩;intro b9 w3 h3;go_wp2_with (with_reducible apply eG);refine ⟨jK (uO n (.slice none 0 0) 0 0) h3 aA aA aA eu aC aA ?_⟩;intro w4 h4;clear h2 h3;have h5:au w0 w4 (cZ (.slice ba b.length bc) b::pt b9 (.cells (uO n (.slice none 0 0) 0 0) 189 (0,0))::aK 189 4 (.slice u ys.length z) (ys.flatMap iy)::jm D::aK 3 1 (.slice (some ⟨Y,off,none⟩) S.length c) (dJ S)::bC p m L::aV m M::F):=h4.sb;clear h4;go_wp2_with fail;have Z:=TA b (Ro.cZ _ _) ⟨_,_,_,rfl,hbn,ab⟩ (Ro.os HH.o) oQ h5;refine Z.mono ?_;rintro e w6 ⟨v,rfl,B,ov,Z,hfk,rfl,h6⟩;obtain ⟨J,N,rfl⟩:=l9 (f:=λq:ay.fO×Value=>qU q.1 q.2) (k:=36) (l:=B) (λq hq=>Bz q.1 q.2 (hfk q hq)) (au.rd h6) aU
  have h7:au w0 w6 (pt b9 (.cells (uO n (.slice none 0 0) 0 0) 189 (0,0))::aK 154 36 (.slice J B.length N) (jw B)::kT B::cZ (.slice ba b.length bc) b::aK 189 4 (.slice u ys.length z) (ys.flatMap iy)::jm D::aK 3 1 (.slice (some ⟨Y,off,none⟩) S.length c) (dJ S)::bC p m L::aV m M::F):=h6.sb;clear h5 h6;have Hb:=uQ (show aB.lH b=((ay.eF b).2.2 != 0) from rfl);have O:=uQ (show aB.P8 b=if aB.lH b=true then ay.sG b else (ay.eF b).1 from rfl);have YL:=uQ (λ(j:Fs) (sv:Value)=>show iy ((n,b),j,sv)=(uO n sv (ay.eF b).2.1 (ay.eF b).2.2).toList from rfl);have P:=uQ (And.intro Z hfk);clear Z hfk;generalize ay.eF b=sc at *
  obtain ⟨scl,t,o⟩:=sc;dsimp only at Hb O YL P;dsimp only;go_wp2_with (with_reducible apply eG);refine ⟨jI (cs':=uO n (.slice J B.length N) 0 0) h7 aA aA aA eu dG aC aA ?_⟩;intro w8 h8;clear h7;go_wp2_with (with_reducible apply eG);refine ⟨jI (cs':=uO n (.slice J B.length N) t 0) h8 aA aA aA eu dG aC aA ?_⟩;intro w9 h9;clear h8;go_wp2_with (with_reducible apply eG);refine ⟨jI (cs':=uO n (.slice J B.length N) t o) h9 aA aA aA eu dG aC aA ?_⟩;intro Q C;clear h9;replace C:au w0 Q (pt b9 (.cells #[.int .i64 n,.slice J B.length N,.int .i64 t,.int .i64 o] 189 (0,0))::aK 154 36 (.slice J B.length N) (jw B)::kT B::cZ (.slice ba b.length bc) b::aK 189 4 (.slice u ys.length z) (ys.flatMap iy)::jm D::aK 3 1 (.slice (some ⟨Y,off,none⟩) S.length c) (dJ S)::bC p m L::aV m M::F):=C;have e3:Q.cell? ⟨b9,3,none⟩=some (.int .i64 o):=C.bI bJ 3 rfl;by_cases W:o=0
  focus
   have hb0:(o != 0)=false:=by rw [W];rfl
   have Y4:=uQ (show xk ((n,b),B,.slice J B.length N) from ⟨by rw [O.o,Hb.o,hb0];exact P.o.1,P.o.2,_,_,rfl⟩);clear W O P;obtain ⟨j,hf2⟩:∃ j,j=B:=⟨B,rfl⟩;obtain ⟨r,ho2⟩:∃ x,x=J:=⟨J,rfl⟩;obtain ⟨s,ho3⟩:∃ x,x=N:=⟨N,rfl⟩;obtain ⟨w12,anN⟩:∃ x,x=Q:=⟨Q,rfl⟩;subst hf2 ho2 ho3 anN;have h13:au w0 w12 (aK 189 4 (.slice u ys.length z) (ys.flatMap iy)::pt b9 (.cells (uO n (.slice r j.length s) t o) 189 (0,0))::aK 154 36 (.slice r j.length s) (jw j)::kT j::jm D::aK 3 1 (.slice (some ⟨Y,off,none⟩) S.length c) (dJ S)::bC p m L::aV m M::F):=C.sb;clear C
  rotate_left
  focus
   have hb0:(o != 0)=true:=ajo.2 W;clear W;have h11:au w0 Q (cZ (.slice ba b.length bc) b::pt b9 (.cells (uO n (.slice J B.length N) t o) 189 (0,0))::aK 189 4 (.slice u ys.length z) (ys.flatMap iy)::jm D::aK 3 1 (.slice (some ⟨Y,off,none⟩) S.length c) (dJ S)::bC p m L::aV m M::F):=C.sb;clear C;go_wp2_with fail;refine (amO b (Ro.cZ _ _) ⟨_,_,_,rfl,hbn,ab⟩ (Ro.os HH.o) (abQ hbl aU) h11).mono ?_;rintro e sH ⟨v,rfl,j,ac,T,h12⟩;obtain ⟨r,s,rfl⟩:=l9 (f:=λq:ay.fO×Value=>qU q.1 q.2) (k:=36) (l:=j) (λq hq=>Bz q.1 q.2 (T q hq)) (au.rd h12) aU;clear h11 e3;have Y4:=uQ (show xk ((n,b),j,.slice r j.length s) from ⟨by rw [O.o,Hb.o,hb0];exact ac,T,_,_,rfl⟩);clear O P ac T;go_wp2_with (with_reducible apply eG)
   refine ⟨jI (cs':=uO n (.slice r j.length s) t o) (h12.sb:au w0 sH (pt b9 (.cells (uO n (.slice J B.length N) t o) 189 (0,0))::aK 154 36 (.slice r j.length s) (jw j)::kT j::aK 189 4 (.slice u ys.length z) (ys.flatMap iy)::jm D::aK 3 1 (.slice (some ⟨Y,off,none⟩) S.length c) (dJ S)::bC p m L::aV m M::F)) aA aA aA eu dG aC aA ?_⟩;intro w12 U;clear h12;have h13:au w0 w12 (aK 189 4 (.slice u ys.length z) (ys.flatMap iy)::pt b9 (.cells (uO n (.slice r j.length s) t o) 189 (0,0))::aK 154 36 (.slice r j.length s) (jw j)::kT j::jm D::aK 3 1 (.slice (some ⟨Y,off,none⟩) S.length c) (dJ S)::bC p m L::aV m M::F):=U.sb;clear U
  all_goals
   go_wp2_with (first
    |((with_reducible refine dH ⟨?_⟩);refine kG h13 aA bZ underlying189 rfl aC ?_)
    |((with_reducible refine rV ⟨?_⟩);refine rJ (e:=189) (sz:=4) (je:=48) aC h13 aA rfl aA dG ?_;intro bN wN hN)
    |(with_reducible apply oK))
   refine ⟨sJ 189 4 48 aC hN aA aA bZ bJ aA dG aA Hlen.o dG dG (ys:=(uO n _ t o).toList) rfl ?_⟩;intro b' n' c' wW U;have hn':n'=ys.length+1:=by
    obtain ⟨_,_,_,he,hl2,_⟩:=au.rd U;cases he;rw [aay,lK (k:=4) (λy _=>UH y)]at hl2;change 4*ys.length+4=_ at hl2;omega
   subst hn';go_wp2_with fail
   go_roundg (S.length-(i+1))
   case measure=>have:=dP.o;omega
   case rel=>
    refine ⟨i+1,ys++[((n,b),j,.slice r j.length s)],zC ((n,b),j,.slice r j.length s)::D,rfl,dP.o,by first|rfl|go_num,?_,?_,⟨_,_,by rw [aay];rfl⟩,?_,?_⟩;rotate_left 3
    ·rw [ai5,aiN,am6,ahB,YL.o];exact (akN (y:=zC ((n,b),j,.slice r j.length s)) (U.sb:au w0 wW (aK 154 36 (.slice r j.length s) (jw j)::kT j::jm D::aK 189 4 (.slice (some ⟨b',0,none⟩) (ys.length+1) c') (ys.flatMap iy++(uO n (.slice r j.length s) t o).toList)::aK 3 1 (.slice (some ⟨Y,off,none⟩) S.length c) (dJ S)::bC p m L::aV m M::F))).sb
    ·rw [acy,ag.o.1,jl.o];rfl
    ·intro y E;rcases ahc.1 E with E|E
     ·exact ag.o.2.1 y E
     ·rw [acS]at E;subst E;exact Y4.o
    ·intro y E;rcases ahc.1 E with E|E
     ·exact List.mem_cons_of_mem _ (ag.o.2.2 y E)
     ·rw [acS]at E;subst E;exact List.mem_cons_self ..
theorem aph {y:Mp} (hy:xk y):aJ.mJ (aB.jG y.1.2)=(match y.2.1.getLast? with|some q=>q.1.e.dB==2|none=>false):=by
 rw [<-aB.Xc,<-hy.Tm,ajr];unfold aJ.mJ;rw [asq];cases y.2.1.getLast? <;> rfl
def JO (b:ay.Bs) (n:Nat):aJ.gI:=aJ.zV (n:Int) (ay.eF b).2.1
section
variable {y:Mp}{ys:List Mp}
theorem Dh {fs:Fs}{a:Option Addr}{n c i:Nat}{q:ay.fO×Value} (l:∀ q∈fs,q.1.e.key.length=32) (h:bK 36 (.slice a n c) (jw fs) w) (hi:fs[i]?=some q) :
  ∃ g off,a=some ⟨g,off,none⟩/\∀ j v,(qU q.1 q.2)[j]?=some v->w.cell? ⟨g,off+i*36+j,none⟩=some v:=by
 obtain ⟨g,off,f,e,b⟩:=lV (λq d=>Bz q.1 q.2 (l q d)) h hi aU;cases e;exact ⟨g,off,rfl,b⟩
theorem U4 (hy:xk y) (hl:y.2.1.length<=16777216) (hr:Ro w0 F (bK 36 y.2.2 (jw y.2.1))) (h:au w0 w F) :
  Calls prog 107 #[.agg (iy y).toArray] w (bf λv w'=>v=.bool (aJ.mJ (aB.jG y.1.2))/\au w0 w' F):=by
 have C:=aph hy;obtain ⟨⟨n,b⟩,d,H⟩:=y;obtain ⟨hf,D,a,c,u⟩:=hy;obtain rfl:H=.slice a d.length c:=u;have G:=uQ D;clear hf D;show Calls _ _ #[.agg #[.int .i64 n,.slice a d.length c,.int .i64 (ay.eF b).2.1,.int .i64 (ay.eF b).2.2]] _ _;have m:=uQ C;clear C;dsimp only at m;generalize ay.eF b=J at *
 obtain ⟨K,o,r⟩:=J;dsimp only;cases hg:d.getLast? with
 |none=>
  have g:=ajF.1 hg;have i:=uQ (m.o.trans (by rw [hg]));have L:¬ (0:Int)<(d.length:Int):=by rw [g];decide
  clear g hg m
  go_in
  go_wp2_with (with_reducible apply jy);refine ⟨jB h aA aA ?_⟩;intro b1 z f;replace f:au w0 z (pt b1 (.cells #[.int .i64 n,.slice a d.length c,.int .i64 o,.int .i64 r] 189 (0,0))::F):=f;have M:z.cell? ⟨b1,1,none⟩=some (.slice a d.length c):=f.bI bJ 1 rfl;go_wp2;go_ret;exact ⟨_,rfl,by rw [i.o];rfl,f.drop⟩
 |some q=>
  have s:0<d.length:=by
   cases d with
   |nil=>cases hg
   |cons x l=>exact Nat.succ_pos _
  have hi:d[d.length-1]?=some q:=by rw [<-ao2];exact hg
  obtain ⟨t,off,rfl,j⟩:=Dh G.o (hr w h) hi
  have A:=(λ(w':World) (N:au w0 w' F)=>show w'.cell? ⟨t,off+(d.length-1)*36,none⟩=some (.int .i64 q.1.e.dB) from by
   obtain ⟨_,_,e,O⟩:=Dh G.o (hr w' N) hi;cases e;exact O 0 _ rfl)
  have i:=uQ (m.o.trans (by rw [hg]));have L:(0:Int)<(d.length:Int):=oQ;have z:IntKind.i64.wrap ((d.length:Int)-1)=((d.length-1:Nat):Int):=by rw [abR _ (by have:=hl;dsimp only at *;omega)];omega
  have P:((d.length-1:Nat):Int)<(d.length:Int):=oQ;clear hi j hg m s;generalize d.length-1=k at *
  go_in
  go_wp2_with (with_reducible apply jy);refine ⟨jB h aA aA ?_⟩;intro b1 B f;replace f:au w0 B (pt b1 (.cells #[.int .i64 n,.slice (some ⟨t,off,none⟩) d.length c,.int .i64 o,.int .i64 r] 189 (0,0))::F):=f;have M:B.cell? ⟨b1,1,none⟩=some (.slice (some ⟨t,off,none⟩) d.length c):=f.bI bJ 1 rfl;have Q:=A _ f.drop;go_wp2;go_ret;exact ⟨_,rfl,by rw [i.o];rfl,f.drop⟩
theorem aqh (h:au w0 w F):Calls prog 98 #[.agg (iy y).toArray] w (bf λv w'=>v=.agg (iF (JO y.1.2 y.1.1))/\au w0 w' F):=by
 obtain ⟨⟨n,b⟩,x,j⟩:=y;have l:=uQ (show JO b n=if (ay.eF b).2.1=0 then ⟨1,n,0⟩ else ⟨2,n,((ay.eF b).2.1:Int)⟩ from rfl);show Calls _ _ #[.agg #[.int .i64 n,j,.int .i64 (ay.eF b).2.1,.int .i64 (ay.eF b).2.2]] _ (bf λv w'=>v=.agg (iF (JO b n))/\au w0 w' F);generalize ay.eF b=o at *
 obtain ⟨r,a,f⟩:=o;dsimp only at l;dsimp only;by_cases i:a=0
 ·have c:=uQ (l.o.trans (abL i));subst i
  go_in
  go_wp2_with (with_reducible apply jy);refine ⟨jB h aA aA ?_⟩;intro b1 m d;replace d:au w0 m (pt b1 (.cells #[.int .i64 n,j,.int .i64 ((0:Nat):Int),.int .i64 f] 189 (0,0))::F):=d;go_wp2_with (with_reducible apply jd);refine ⟨iR uZ d rfl ?_⟩;intro b2 g e;have s:g.cell? ⟨b1,0,none⟩=some (.int .i64 n):=e.bI bZ 0 rfl;have t:g.cell? ⟨b1,2,none⟩=some (.int .i64 0):=e.bI bZ 2 rfl
  go_wp2_with (first
   |((with_reducible refine Jb ⟨?_⟩);refine KT aA aA (λw=>PS 1 n w) ?_)
   |((with_reducible refine eG ⟨?_⟩);refine jK (iF ⟨1,n,0⟩) e aA aA aA eu aC aA ?_;intro u h9))
  refine Pj ?_;exact ⟨_,rfl,by rw [c.o],h9.drop.drop⟩
 ·have c:=uQ (l.o.trans (abB i));have z:((a:Int)==0)=false:=by rw [acj];omega
  clear i
  go_in
  go_wp2_with (with_reducible apply jy);refine ⟨jB h aA aA ?_⟩;intro b1 m d;replace d:au w0 m (pt b1 (.cells #[.int .i64 n,j,.int .i64 a,.int .i64 f] 189 (0,0))::F):=d;go_wp2_with (with_reducible apply jd);refine ⟨iR uZ d rfl ?_⟩;intro b2 g e;have s:g.cell? ⟨b1,0,none⟩=some (.int .i64 n):=e.bI bZ 0 rfl;have t:g.cell? ⟨b1,2,none⟩=some (.int .i64 a):=e.bI bZ 2 rfl
  go_wp2_with (first
   |((with_reducible refine MG ⟨?_⟩);refine Qp aA aA aA (λw=>ag4 2 n a w) ?_)
   |((with_reducible refine eG ⟨?_⟩);refine jK (iF ⟨2,n,a⟩) e aA aA aA eu aC aA ?_;intro u h9))
  refine Pj ?_;exact ⟨_,rfl,by rw [c.o],h9.drop.drop⟩
end
theorem as7 (x y:ay.aT) (hx:x.key.length=32) (hy:y.key.length=32) (da db:Option Addr) (na nb ca cb:Nat) (ha:Ro w0 F (bK 1 (.slice da na ca) (aI x.data))) (hb:Ro w0 F (bK 1 (.slice db nb cb) (aI y.data))) (hlen:x.data.length<=1099511627776) (h:au w0 w F) :
  Calls prog 78 #[.agg (dR x (.slice da na ca)),.agg (dR y (.slice db nb cb))] w (bf λv w'=>∃ q:Bool,v=.bool q/\(q=true↔x=y)/\au w0 w' F):=by
 have l:=uQ ha;have m:=uQ hb;clear ha hb;by_cases b:x.dB=y.dB;rotate_left
 ·have u:=acj.2 b;have f:=uQ b;clear b
  go_in
  go_wp2_with (first
   |((with_reducible refine RG ⟨?_⟩);refine XT aQ aA ?_;intro n r s)
   |((with_reducible refine dH ⟨?_⟩);refine jC aQ aA dh zU0 (SV _ _) aC ?_))
  go_ret;exact ⟨_,rfl,false,rfl,⟨λe=>(by cases e),λe=>absurd (aiX ay.aT.dB e) f.o⟩,au.sb aQ⟩
 obtain ⟨t,a,g⟩:=x;obtain ⟨z,c,i⟩:=y;obtain rfl:t=z:=b;dsimp only at hx hy hlen l m;have u:=beq_self_eq_true t;by_cases d:a=c;rotate_left
 ·have A:∀ w,(Op.equalIn 10000 34 (.agg (aI a).toArray) (.agg (aI c).toArray)).run prog w=.ok false w:=λw=>by rw [Np _ _ hx hy,aes d]
  have f:=uQ d;clear d
  go_in
  go_wp2_with (first
   |((with_reducible refine RG ⟨?_⟩);refine XT aQ aA ?_;intro n r s)
   |((with_reducible refine dH ⟨?_⟩);refine jC aQ aA dh zU0 (SV _ _) aC ?_)
   |((with_reducible refine Eo ⟨?_⟩);first|refine DX (o:=1) aA aA (aI a) _ (Jk (e:=⟨t,a,g⟩) aQ dh hx) underlying34 rfl (by rw [bP,hx];kernel_rfl) ?_|refine DX (o:=1) aA aA (aI c) _ (Jk (e:=⟨t,c,i⟩) aQ dh hy) underlying34 rfl (by rw [bP,hy];kernel_rfl) ?_))
  go_ret;exact ⟨_,rfl,false,rfl,⟨λe=>(by cases e),λe=>absurd (aiX ay.aT.key e) f.o⟩,au.sb aQ⟩
 subst d;have A:∀ w,(Op.equalIn 10000 34 (.agg (aI a).toArray) (.agg (aI a).toArray)).run prog w=.ok true w:=λw=>by rw [Np _ _ hx hx];simp
 go_in
 go_wp2_with (first
  |((with_reducible refine RG ⟨?_⟩);refine XT aQ aA ?_;intro n r s)
  |((with_reducible refine dH ⟨?_⟩);refine jC aQ aA dh zU0 (SV _ _) aC ?_)
  |((with_reducible refine Eo ⟨?_⟩);first|refine DX (o:=1) aA aA (aI a) _ (Jk (e:=⟨t,a,g⟩) aQ dh hx) underlying34 rfl (by rw [bP,hx];kernel_rfl) ?_|refine DX (o:=1) aA aA (aI a) _ (Jk (e:=⟨t,a,i⟩) aQ dh hy) underlying34 rfl (by rw [bP,hx];kernel_rfl) ?_)
  |((with_reducible refine Eo ⟨?_⟩);refine au5 aA aQ aA dh zU0 (amb _ _ aQ) aC ?_))
 refine (agR g i l.o m.o (au.sb aQ) hlen).mono ?_;rintro B C ⟨v,rfl,rfl,j⟩;go_wp2;go_ret;exact ⟨_,rfl,_,rfl,⟨λe=>by rw [ak5 e],λe=>aiC (aiX ay.aT.data e)⟩,j⟩
def Zb (fs:Fs) (es:List (ay.aT×Value)) (w0:World) (F:List aO) (v:Value) (w:World):Prop:=∃ q:Bool,v=.bool q/\(q=true↔fs.map (λp=>p.1.e)=es.map (·.1))/\au w0 w F
theorem aaM {es:List (ay.aT×Value)}{a:Option Addr}{n c i:Nat}{q:ay.aT×Value} (l:∀ q∈es,q.1.key.length=32) (h:bK 34 (.slice a n c) (ug es) w) (hi:es[i]?=some q) :
  ∃ g off,a=some ⟨g,off,none⟩/\∀ j v,(mM q.1 q.2)[j]?=some v->w.cell? ⟨g,off+i*34+j,none⟩=some v:=by
 obtain ⟨g,off,f,e,b⟩:=lV (λq d=>zn q.1 q.2 (l q d)) h hi aU;cases e;exact ⟨g,off,rfl,b⟩
theorem aa8 {f:ay.fO}{dv:Value} (hk:f.e.key.length=32){w:World}{bk o:Nat} (h:∀ j v,(qU f dv)[j]?=some v->w.cell? ⟨bk,o+j,none⟩=some v):∀ j v,(mM f.e dv)[j]?=some v->w.cell? ⟨bk,o+j,none⟩=some v:=λj v hj=>h j v (by
 unfold qU;have:=(abM.1 hj).1;rw [aiS this];exact hj)
theorem aa7 {f:ay.fO}{dv:Value} (hk:f.e.key.length=32):(qU f dv)[34]?=some (.int .i64 f.aP)/\(qU f dv)[35]?=some (.int .i64 f.size):=by
 have hl:=zn f.e dv hk;unfold qU;rw [aiP oQ,aiP oQ,hl];exact ⟨rfl,rfl⟩
theorem as8 {fs:Fs}{es:List (ay.aT×Value)}{la lb:Option Addr}{lc ld:Nat} (hf:Ro w0 F (bK 36 (.slice la fs.length lc) (jw fs))) (he:Ro w0 F (bK 34 (.slice lb es.length ld) (ug es))) (hn:fs.length<=16777216)
  (hk:∀ p∈fs,p.1.e.key.length=32) (hk2:∀ p∈es,p.1.key.length=32)
  (hd:∀ p∈fs,(∃ a n c,p.2=.slice a n c)/\p.1.e.data.length<=1099511627776/\Ro w0 F (bK 1 p.2 (aI p.1.e.data))) (hd2:∀ p∈es,(∃ a n c,p.2=.slice a n c)/\Ro w0 F (bK 1 p.2 (aI p.1.data))) (h:au w0 w F) :
  Calls prog 29 #[.slice la fs.length lc,.slice lb es.length ld] w (bf λv w'=>Zb fs es w0 F v w'):=by
 by_cases L:fs.length=es.length;rotate_left
 ·have c1:((fs.length:Int) != (es.length:Int))=true:=ajo.2 oQ;have E:Zb fs es w0 F (.bool false) w:=⟨false,rfl,⟨λe=>(by cases e),λe=>absurd (by have:=aiX List.length e;rwa [abl,abl]at this) L⟩,h⟩;clear L hf he hk hk2 hd hd2;go_enter func29,ntmps29;go_wp2_with fail;go_ret;exact ⟨_,rfl,E⟩
 have c1:((fs.length:Int) != (es.length:Int))=false:=bne_eq_false_iff_eq.2 oQ;have Hf:=uQ hf;have He:=uQ he;have Hn:=uQ hn;have M:=uQ hk;have t:=uQ hk2;have Hd:=uQ hd;have P:=uQ hd2;have Q:=uQ L;clear hf he hn hk hk2 hd hd2 L;go_enter func29,ntmps29;go_wp2_with fail
 go_loopg [5] fs.length (λg iq wr=>∃ i:Nat,g=fs.length-i/\i<=fs.length/\iq=.int .i64 i/\(fs.take i).map (λp=>p.1.e)=(es.take i).map (·.1)/\au w0 wr F)
 case atStart=>exact ⟨0,rfl,acn _,rfl,rfl,h⟩
 case round=>
  obtain ⟨i,rfl,hi,rfl,d,N⟩:=hrel;clear h;by_cases f:i<fs.length
  ·have c2:(i:Int)<(fs.length:Int):=oQ;have c3:(i:Int)<(es.length:Int):=by have:=Q.o;omega
   have ag:IntKind.i64.wrap ((i:Int)+1)=(i:Int)+1:=abR _ zL0;obtain ⟨p,C⟩:∃ p,fs[i]?=some p:=⟨_,aaf f⟩;obtain ⟨q,D⟩:∃ q,es[i]?=some q:=⟨_,aaf (by have:=Q.o;omega)⟩;have m:=abH C;have u:=abH D;obtain ⟨b1,o1,rfl,R⟩:=Dh M.o (Hf.o _ N) C;obtain ⟨b2,o2,rfl,S⟩:=aaM t.o (He.o _ N) D
   have h1:=uQ (λ(w':World) (o:au w0 w' F)=>show ∀ j v,(mM p.1.e p.2)[j]?=some v->w'.cell? ⟨b1,o1+i*36+j,none⟩=some v from by
    obtain ⟨_,_,e,T⟩:=Dh M.o (Hf.o _ o) C;cases e;exact aa8 (M.o p m) T)
   have h2:=uQ (λ(w':World) (o:au w0 w' F)=>show ∀ j v,(mM q.1 q.2)[j]?=some v->w'.cell? ⟨b2,o2+i*34+j,none⟩=some v from by
    obtain ⟨_,_,e,T⟩:=aaM t.o (He.o _ o) D;cases e;exact T)
   clear R S;obtain ⟨⟨U,V,W,e1⟩,G,r⟩:=Hd.o p m;obtain ⟨⟨X,Y,Z,e2⟩,s⟩:=P.o q u;have z:=M.o p m;have A:=t.o q u
   have aa:=uQ (show ∀ b:Bool,(b=true↔p.1.e=q.1)->b=true->(fs.take (i+1)).map (λp=>p.1.e)=(es.take (i+1)).map (·.1) from λb hb ab=>by
    rw [ajf,ajf,C,D,acy,acy,d];show _++[p.1.e]=_++[q.1];rw [hb.1 ab])
   have ac:=uQ (show p.1.e≠q.1->¬ fs.map (λp=>p.1.e)=es.map (·.1) from λad e=>ad (by
    have:=aiX (λl=>l[i]?) e;simp only [ab4,C,D,am8]at this;exact ajH this))
   obtain ⟨⟨x,aP,sz⟩,dv⟩:=p;obtain ⟨y,ev⟩:=q;dsimp only at *
   subst e1 e2;have ae:=uQ (λ(w':World) (o:au w0 w' F)=>as7 x y z A U X V Y W Z r s G o);have Hi:=uQ f;have H:=uQ (And.intro z A);clear f hi d C D m u r s G z A;go_wp2_with fail;have B:=N.drew;refine gK [9,10] (λw'=>(∀ j v,(mM x (.slice U V W))[j]?=some v->w'.cell? ⟨b1,o1+i*36+j,none⟩=some v)/\∀ j v,(mM y (.slice X Y Z))[j]?=some v->w'.cell? ⟨b2,o2+i*34+j,none⟩=some v) aC ?_;have hG:=And.intro (h1.o _ B) (h2.o _ B);refine rP 0 ?_ (y:=bV);refine rP 1 ?_ (y:=bV);refine rP 2 ?_ (y:=kX);refine rP 3 ?_ (y:=eY);refine ji 4 aF aC dF (lF (mM x (.slice U V W)) aA underlying71 rfl (by rw [zn _ _ H.o.1];exact zA) (λw o=>o.1)) aQ gQ ?_;refine rP 5 ?_ (y:=bV);refine rP 6 ?_ (y:=bV);refine rP 7 ?_ (y:=kX);refine ji 8 aF aC dF (lF (mM y (.slice X Y Z)) aA underlying71 rfl (by rw [zn _ _ H.o.2];exact zA) (λw o=>o.2)) aQ gQ ?_;clear hG
   refine dZ 9 aF aC (λK hK=>?_)
   (refine kM aC aF aF ?_)
   refine (ae.o _ B).mono ?_;rintro e w3 ⟨v,rfl,qb,rfl,I,O⟩;have J:=uQ I;refine hK _ _ (.inr (.inl ⟨h1.o _ O,h2.o _ O⟩)) ?_;clear hK I;refine rP 10 ?_ (y:=(Qv aF dX));refine fK aC ?_
   try simp only [kW]
   try go_frame
   cases qb with
   |false=>
    go_wp2_with fail;go_ret;exact ⟨_,rfl,false,rfl,⟨λe=>(by cases e),λe=>absurd e (ac.o λe2=>by have:=J.o.2 e2;cases this)⟩,O⟩
   |true=>
    go_wp2_with fail
    go_roundg (fs.length-(i+1))
    case measure=>have:=Hi.o;omega
    case rel=>exact ⟨i+1,rfl,Hi.o,by first|rfl|go_num,aa.o true (by simpa using J.o) rfl,O⟩
  ·obtain rfl:i=fs.length:=oQ;have c2:¬ (fs.length:Int)<(fs.length:Int):=oQ;rw [ai0,Q.o,ai0]at d;have af:=uQ d;clear d hi f;go_wp2_with fail;go_ret;exact ⟨_,rfl,true,rfl,⟨λ_=>af.o,λ_=>rfl⟩,N⟩
def nM (a:Nat) (fs:Fs):List (ay.aT×Value):=(fs.filter λp => !(ay.uM a p.1)).map λp=>(p.1.e,p.2)
theorem aqc (a:Nat) (fs:Fs) (p:ay.fO×Value):nM a (fs++[p])=nM a fs++(if ay.uM a p.1=true then [] else [(p.1.e,p.2)]):=by
 unfold nM;rw [aof,acy]
 congr 1
 cases h:ay.uM a p.1 <;> simp [h]
theorem aen {a:Nat}{fs:Fs} (hk:∀ p∈fs,p.1.e.key.length=32):∀ q∈nM a fs,q.1.key.length=32:=λq hq=>by
 obtain ⟨p,hp,rfl⟩:=abI.1 hq;exact hk p (ai4.1 hp).1
theorem aqb (a:Nat) (fs:Fs):(nM a fs).length<=fs.length:=by unfold nM;rw [abl];exact ak6 _ _
def ajT (fs:Fs) (a:Nat) (w0:World) (F:List aO) (v:Value) (w:World):Prop:=∃ (oa xa:Option Addr) (oc xn xc:Nat),v=.tuple #[.agg (dR (ay.vN a (fs.map (·.1))) (.slice xa xn xc)),.slice oa (nM a fs).length oc]/\(ay.vN a (fs.map (·.1))).key.length=32 /\
 au w0 w (aK 71 34 (.slice oa (nM a fs).length oc) (ug (nM a fs))::F)
theorem atO {fs:Fs}{la:Option Addr}{lc a:Nat} (hf:Ro w0 F (bK 36 (.slice la fs.length lc) (jw fs))) (hn:fs.length<=16777216) (hk:∀ p∈fs,p.1.e.key.length=32) (hb:∀ p∈fs,p.1.aP<=1099511627776/\p.1.size<=1099511627776) (hd:∀ p∈fs,∃ a n c,p.2=.slice a n c) (h:au w0 w F) :
  Calls prog 28 #[.slice la fs.length lc,.int .i64 a] w (bf λv w'=>ajT fs a w0 F v w'):=by
 have Z:=uQ hf;have Hn:=uQ hn;have E:=uQ hk;have Hb:=uQ hb;have Hd:=uQ hd;clear hf hn hk hb hd;go_enter func28,ntmps28;go_wp2_with (with_reducible apply ql);refine ⟨qA h ?_⟩;intro b4 w1 R;clear h;go_wp2_with (with_reducible apply ql);refine ⟨qA R ?_⟩;intro b6 w2 S;clear R;go_wp2_with fail
 go_loopg [7,8] fs.length (λg T iq wr=>∃ (i:Nat) (xa s:Option Addr) (xn xc t:Nat),g=fs.length-i/\i<=fs.length/\iq=.int .i64 i/\T=.slice s (nM a (fs.take i)).length t/\(ay.vN a ((fs.take i).map (·.1))).key.length=32 /\
  au w0 wr (pt b6 (.cells (dR (ay.vN a ((fs.take i).map (·.1))) (.slice xa xn xc)) 71 (0,0))::pt b4 (.cells (dR ay.iL (.slice none 0 0)) 71 (0,0))::aK 71 34 T (ug (nM a (fs.take i)))::F))
 case atStart=>exact ⟨0,none,none,0,0,0,rfl,acn _,rfl,rfl,rfl,(au.iW.2 S.sb).sb⟩
 case round=>
  obtain ⟨i,xa,s,xn,xc,t,rfl,hi,rfl,rfl,l,B⟩:=hrel;clear S;by_cases m:i<fs.length;rotate_left
  ·obtain rfl:i=fs.length:=oQ;have c2:¬ (fs.length:Int)<(fs.length:Int):=oQ;rw [ai0]at l B;rw [ai0];clear hi m;have Hxk:=uQ l;clear l
   go_wp2_with (first
    |((with_reducible refine xA ⟨?_⟩);refine xU B aA bJ Hxk.o ?_)
    |((with_reducible refine mY ⟨?_⟩);refine jk B aA aA Hxk.o (pJ eu) (iw _ _ rfl) ?_;intro w3 I))
   refine ⟨rfl,_,Io rfl I aA (bW bJ) Hxk.o,_,rfl,s,xa,t,xn,xc,rfl,Hxk.o,I.sb⟩
  have c2:(i:Int)<(fs.length:Int):=oQ;have hwi:IntKind.i64.wrap ((i:Int)+1)=(i:Int)+1:=abR _ zL0;obtain ⟨p,C⟩:∃ p,fs[i]?=some p:=⟨_,aaf m⟩;have r:=abH C;have d:=E.o p r;obtain ⟨a1,n1,k1,U⟩:=Hd.o p r;obtain ⟨b1,b2⟩:=Hb.o p r;have HF:=uQ (Ro.os Z.out:Ro w0 (pt b6 (.cells (dR (ay.vN a ((fs.take i).map (·.1))) (.slice xa xn xc)) 71 (0,0))::pt b4 (.cells (dR ay.iL (.slice none 0 0)) 71 (0,0))::aK 71 34 (.slice s (nM a (fs.take i)).length t) (ug (nM a (fs.take i)))::F) (bK 36 (.slice la fs.length lc) (jw fs)));obtain ⟨bk,off,rfl,M⟩:=Dh E.o (HF.o _ B) C
  have V:=uQ (λ(w':World) (N:au w0 w' (pt b6 (.cells (dR (ay.vN a ((fs.take i).map (·.1))) (.slice xa xn xc)) 71 (0,0))::pt b4 (.cells (dR ay.iL (.slice none 0 0)) 71 (0,0))::aK 71 34 (.slice s (nM a (fs.take i)).length t) (ug (nM a (fs.take i)))::F))=>show w'.cell? ⟨bk,off+i*36+34,none⟩=some (.int .i64 p.1.aP)/\w'.cell? ⟨bk,off+i*36+35,none⟩=some (.int .i64 p.1.size) from by
   obtain ⟨_,_,e,J⟩:=Dh E.o (HF.o _ N) C;cases e;exact ⟨J 34 _ (aa7 d).1,J 35 _ (aa7 d).2⟩)
  have AY:=uQ (λ(w':World) (N:au w0 w' (pt b6 (.cells (dR (ay.vN a ((fs.take i).map (·.1))) (.slice xa xn xc)) 71 (0,0))::pt b4 (.cells (dR ay.iL (.slice none 0 0)) 71 (0,0))::aK 71 34 (.slice s (nM a (fs.take i)).length t) (ug (nM a (fs.take i)))::F))=>show ∀ j v,(mM p.1.e p.2)[j]?=some v->w'.cell? ⟨bk,off+i*36+j,none⟩=some v from by
   obtain ⟨_,_,e,J⟩:=Dh E.o (HF.o _ N) C;cases e;exact aa8 d J)
  have z:fs.take (i+1)=fs.take i++[p]:=by rw [ajf,C];rfl
  have Hh:=uQ (show ay.vN a ((fs.take (i+1)).map (·.1))=(if ay.uM a p.1=true then p.1.e else ay.vN a ((fs.take i).map (·.1))) by rw [z,acy];exact ay.anw a _ p.1);have Ho:=uQ (show nM a (fs.take (i+1))=nM a (fs.take i)++(if ay.uM a p.1=true then [] else [(p.1.e,p.2)]) by rw [z];exact aqc a _ p);have Hlen:=uQ (show (nM a (fs.take i)).length<=16777216 from abQ (aqb a _) (abQ (avH _ _) Hn.o));have fV:=uQ (aen (a:=a) (fs:=fs.take i) λq hq=>E.o q (ajq hq));obtain ⟨⟨x,aP,K⟩,dv⟩:=p;dsimp only at d U b1 b2 V AY Hh Ho;subst U;obtain ⟨u,W⟩:∃ u,aP+K=u:=⟨_,rfl⟩;have aa:IntKind.i64.wrap ((aP:Int)+(K:Int))=(u:Int):=by rw [abR _ oQ];omega
  have G:=uQ (show ay.uM a ⟨x,aP,K⟩=(decide (aP<=a) && decide (a<u)) by unfold ay.uM;rw [W]);have Cm:=uQ d;have Hxk:=uQ l;have dP:=uQ m;clear W C r M b1 b2 z d l m hi;generalize ay.vN a ((fs.take i).map (·.1))=he at *
  generalize nM a (fs.take i)=es at *
  have H:∀ (X:Bool) (w':World) (q:Bool),q=X->q=X:=λ_ _ _ h=>h;obtain ⟨D,A⟩:∃ D,D=(decide (aP<=a) && decide (a<u)):=⟨_,rfl⟩;have Hq:=uQ (G.o.trans A.symm);have CG:=uQ A;clear A H G;go_wp2_with fail;have hSd:=B.drew;clear B;refine gK [19,20,21] (λw'=>w'.cell? ⟨bk,off+i*36+34,none⟩=some (.int .i64 aP)/\w'.cell? ⟨bk,off+i*36+35,none⟩=some (.int .i64 K)) aC ?_;have Y:=V.o _ hSd;by_cases L:aP<=a
  ·have O:decide ((aP:Int)<=(a:Int))=true:=aiC oQ;have f:decide (aP<=a)=true:=aiC L;have d2:decide ((a:Int)<(u:Int))=D:=by rw [CG.o,f,awC];exact decide_eq_decide.2 oQ
   have P:decide (a<u)=D:=by rw [CG.o,f,awC]
   clear L;refine rP 0 ?_ (y:=bV);refine rP 1 ?_ (y:=bV);refine rP 2 ?_ (y:=bV);refine rP 3 ?_ (y:=kX);refine rP 4 ?_ (y:=eY);refine rt 5 (h:=?_);refine rP 6 ?_ (y:=nT);refine rP 7 ?_ (y:=bV);refine rP 8 ?_ (y:=(kH aA aF));refine rP 9 ?_ (y:=(kH aA aF));refine rP 10 ?_ (y:=(kH aA aF));refine rP 11 ?_ (y:=(vW aA aF aF dX));refine rP 12 ?_ (y:=(rM aA aF dX));refine ji 13 aF aC dF (rG aA aF aC yB0) aQ gQ ?_;refine rP 14 ?_ (y:=(kH aA aF));refine rP 15 ?_ (y:=(kH aA aF));refine rP 16 ?_ (y:=(vW aA aF aF dX));refine rP 17 ?_ (y:=(rM aA aF dX));refine ji 18 aF aC dF (rG aA aF aC yB0) aQ gQ ?_;clear Y;refine rP 19 ?_ (y:=(vV aA aF aF dX));refine rP 20 ?_ (y:=(vV aA aF aF dX));refine rP 21 ?_ (y:=(qh aA aF aF));refine fK aC ?_
   try simp only [kW]
   try go_frame
   clear O f d2 P;cases D with
   |false=>
    as_aux_lemma=>
    exact agi
   |true=>
    have CB:=uQ (show nM a (fs.take (i+1))=es by rw [Ho.o,Hq.o];exact ahB _);have I4:=uQ (show ay.vN a ((fs.take (i+1)).map (·.1))=x by rw [Hh.o,Hq.o];rfl);have hrow:=AY.o _ hSd;clear Ho Hh Hq CG
    go_wp2_with (first
     |((with_reducible refine dH ⟨?_⟩);refine kQ (mM x (.slice a1 n1 k1)) aA hrow underlying71 rfl (by rw [zn _ _ Cm.o];exact zA) ?_)
     |((with_reducible refine mY ⟨?_⟩);refine jk hSd aA aA Cm.o eu (iw _ _ Hxk.o) ?_;intro w3 I))
    go_roundg (fs.length-(i+1))
    case measure=>have:=dP.o;omega
    case rel=>
     exact ⟨i+1,a1,s,n1,k1,t,rfl,dP.o,by first|rfl|go_num,by rw [CB.o],by rw [I4.o];exact Cm.o,by rw [CB.o,I4.o];exact I⟩
  ·have O:decide ((aP:Int)<=(a:Int))=false:=aes oQ;have f:decide (aP<=a)=false:=aes L;have Q:D=false:=by rw [CG.o,f,Bool.false_and]
   subst Q;clear L;refine rP 0 ?_ (y:=bV);refine rP 1 ?_ (y:=bV);refine rP 2 ?_ (y:=bV);refine rP 3 ?_ (y:=kX);refine rP 4 ?_ (y:=eY);refine rt 5 (h:=?_);refine rP 6 ?_ (y:=nT);refine rP 7 ?_ (y:=bV);refine fF 8 aF aC dF aA gQ ?_;refine fF 9 aF aC dF aA gQ ?_;refine fF 10 aF aC dF aA gQ ?_;refine fF 11 aF aC dF aA gQ ?_;refine fF 12 aF aC dF aA gQ ?_;refine fF 13 aF aC dF aA gQ ?_;refine fF 14 aF aC dF aA gQ ?_;refine fF 15 aF aC dF aA gQ ?_;refine fF 16 aF aC dF aA gQ ?_;refine fF 17 aF aC dF aA gQ ?_;refine fF 18 aF aC dF aA gQ ?_;refine fF 19 aF aC dF aA gQ ?_;refine fF 20 aF aC dF aA gQ ?_;clear Y;refine rP 21 ?_ (y:=(qh aA aF aF));refine fK aC ?_
   try simp only [kW]
   try go_frame
   clear O f
   as_aux_lemma=>
   exact agi
section
variable {D:List (Nat×List ay.aT)}{o:ay.Bs->Option ay.Bs}
def Ru (w0:World) (p m n:Nat) (L:aB.aS) (M:aG) (D:List (Nat×List ay.aT)) (F:List aO) (v:Value) (w:World):Prop:=
 ∃ (ps pi:Nat) (uv tv:Value) (x:List (ay.Bs×aJ.iH)×Nat),v=.tuple #[aW ps,.agg (iF aJ.gI.zero),dS 0]/\(∃ a c,tv=.slice a 0 c)/\(aY.kE (aJ.lC (aB.ig D)) x.1/\(∀ q∈x.1,q.1.length=32)/\x.2<=n/\x.1.length<=n) /\
  au w0 w (fB ps (aB.eP D) pi uv tv::bF pi (aY.jE (aJ.jH x.1)) x.2::aK 205 3 uv (((aB.oP D).map (aJ.pI x.1)).flatMap dO)::bC p m L::aV m M::F)
theorem adA(h:A:=by
 obtain ⟨_,q2,q3⟩:=hR.hd.last he;refine (Wv hR.hd.fD.lD hR.hd.fD.dV.ok hH (abQ hR.lK oQ) hR.Wi h).mono ?_;rintro e w' ⟨v,rfl,ho⟩;unfold Bg at ho;rw [show aJ.run (gJ L M) L.aX=.inr L.aX.length from q2]at ho;obtain ⟨ps,pi,uv,tv,av,kv,rfl,⟨k1,k2,k3⟩,⟨⟨a,c,rfl⟩,_⟩,hS⟩:=ho;rw [ai0]at k1 k3 hS;rw [show aJ.jP (gJ L M) L.aX=aB.ig D from hR.hd.Fh]at k1;rw [q3,show aJ.tK (gJ L M) L.aX=aB.oP D from hR.hd.Cb,auP]at hS;have hl:=abQ k3 hR.lK;exact ⟨_,rfl,ps,pi,uv,_,(kv,kv.length),rfl,⟨a,c,rfl⟩,⟨k1,k2,hl,hl⟩,hS.sb⟩):A:=h
theorem asr (hR:aB.jD K r0 E B n L M D) (hn:n<=1000) (he:aB.vg D) (hH:Ro w0 F iO) (h:au w0 w (bC p m L::aV m M::F)) :
  Calls prog 102 #[aW p] w (bf λv w'=>Ru w0 p m n L M D F v w'):=adA
end
end Go.Proofs.Y
namespace Go.aJ
open Go.ay (Bs)
structure zh where
 kind:Int
 key:Bs
 data:Bs
 n:Int
 m:Int
 l:List Int
def zh.cut (c:zh):zh:=⟨c.kind,c.key,c.data.take 200,c.n,c.m,c.l.take 60⟩
def Gy (l:List zh) (n:Nat):List zh:=(l.take n).map zh.cut
end Go.aJ
namespace Go
open Go
theorem Po(k:C)(h:RowKit.Hid C->A:=by
 intro fM;have hcl:∀ j v,[Value.int .i64 y.1.1,y.2.2,.int .i64 (ay.eF y.1.2).2.1,.int .i64 (ay.eF y.1.2).2.2][j]?=some v->wr.cell? ⟨bk,off+i*4+j,none⟩=some v:=hcell;have Hmy:=uQ (show iy y=[Value.int .i64 y.1.1,y.2.2,.int .i64 (ay.eF y.1.2).2.1,.int .i64 (ay.eF y.1.2).2.2] from rfl);obtain ⟨Iz,IB,hsv⟩:=(fV.o y hym).sl;revert hcl Hmy Iz IB hsv;exact fM.o):A:=h (uQ k)
theorem agf(h:A:=by
 go_wp2_with fail;refine EK.mono ?_;rintro ee w8 ⟨v,rfl,ps,pi,uv,tv,x,rfl,NS,hx,h9⟩;have h10:au w0 w8 (pt b5 (.cells (iF aJ.gI.zero) 36 (0,0))::fB ps (aB.eP D) pi uv tv::bF pi (aY.jE (aJ.jH x.1)) x.2::aK 205 3 uv (((aB.oP D).map (aJ.pI x.1)).flatMap dO)::bC p m L::aV m M::F):=h9.sb;clear h9 EK;go_wp2_with ((with_reducible refine eG ⟨?_⟩);refine jK (iF aJ.gI.zero) h10 aA aA aA eu aC aA ?_;intro sH h11);refine ⟨rfl,_,Dy rfl h11 aA bJ underlying36 rfl aC,_,rfl,ps,pi,uv,tv,x,rfl,NS,hx,h11.drop⟩):A:=h
theorem Pv(h:A:=by
 clear GN;go_wp2_with fail
 go_roundg (ys.length-(i+1))
 case measure=>have:=dP.o;omega
 case rel=>exact ⟨i+1,rfl,dP.o,by rw [rU.o],by first|rfl|go_num,h5.drop⟩):A:=h
theorem Px(k:C)(h:RowKit.Hid C->A:=by
 intro fM;have c1:(i:Int)<(ys.length:Int):=oQ;have hwi:IntKind.i64.wrap ((i:Int)+1)=(i:Int)+1:=abR _ (by have:=I9.o;omega);obtain ⟨y,hy⟩:∃ y,ys[i]?=some y:=⟨_,aaf hlt⟩;revert c1 hwi y hy;exact fM.o):A:=h (uQ k)
theorem O4(k:C)(h:RowKit.Hid C->A:=by
 intro fM;have hym:=abH hy;have jl:=uQ (show R.take (i+1)=R.take i++[y.1] by rw [ajf,<-HR.o,ab4,hy];rfl);revert hym jl;exact fM.o):A:=h (uQ k)
theorem J6(k:C)(h:RowKit.Hid C->A:=by
 intro fM;refine ⟨jK (iy y).toArray h3 aA aA aA eu aC (by rw [Hmy.o,hsv];rfl) ?_⟩;exact fM.o):A:=h (uQ k)
theorem aeZ(h:A:=by
 have c1:¬ (i:Int)<(ys.length:Int):=oQ;have Hr:=uQ (show R.take i=R by rw [acE];rw [<-HR.o,abl];omega);clear hlt hi;go_wp2_with fail;go_ret;exact ⟨_,rfl,by rw [Hr.o];rfl,hS2⟩):A:=h
theorem Vr(k:C)(h:RowKit.Hid C->A:=by
 intro fM;refine ⟨iR uZ h rfl ?_⟩;intro b5 w5 h5;have hla:=ac3 (F:=pt b5 (.cells (iF aJ.gI.zero) 36 (0,0))::F) HL.o HM.o (Ro.os HH.o) (h5.sb);revert b5 w5 h5 hla;exact fM.o):A:=h (uQ k)
theorem aft(k:C)(h:RowKit.Hid C->A:=by
 intro fM;have hS':au w0 w (eH r m aZ p ps pn d::bF pn (aJ.jZ (aB.ig D)) B::bC p m L::aV m M::fB ps N pi uv tv::bF pi (aJ.jZ (aB.ig D0)) B2::aK 205 3 uv (us.flatMap dO)::F):=hS;revert hS';exact fM.o):A:=h (uQ k)
end Go
namespace Go.aB
open Go.aG
theorem arD {M:aG} (h:(M.size aH.tmp).2=0\/(M.size aH.tmp).2=9):aH.tJ M=oz M aH.tmp:=by
 unfold aH.tJ oz aH.there;rcases h with h|h
 ·rw [h,abL aU,abB aU]
 ·rw [h,abB aU,abL rfl]
theorem abz {x:ay.aT} (h:ay.gV x):x.data.length<=16384:=by
 rcases ay.Jf (ay.Nc h.1).1 with ⟨_,q⟩|⟨_,_,q⟩|⟨_,q⟩
 ·exact q
 ·rw [q];exact acn _
 ·rw [q];exact acn _
end Go.aB
namespace Go.Proofs.Y
open Go.aG
structure QD where
 c:aJ.zh
 dv:Value
 lv:Value
def uS (d:QD):List Value:=(.int .i64 d.c.kind::aI d.c.key)++d.dv::[.int .i64 d.c.n,.int .i64 d.c.m,d.lv]
def qI (d:QD):Array Value:=(uS d).toArray
def qw (ds:List QD):List Value:=ds.flatMap uS
structure Gg (w0:World) (F:List aO) (d:QD):Prop where
 key:d.c.key.length=32
 rd:Ro w0 F (bK 1 d.dv (aI d.c.data))
 cap:lS d.dv
 rl:Ro w0 F (bK 1 d.lv (dJ d.c.l))
 Sm:lS d.lv
theorem Gg.H9 {w0:World}{F G:List aO}{d:QD} (h:Gg w0 F d) (hs:∀ w,au w0 w G->au w0 w F):Gg w0 G d:=
 ⟨h.key,λw hw=>h.rd w (hs w hw),h.cap,λw hw=>h.rl w (hs w hw),h.Sm⟩
def aiI:QD:=⟨⟨0,ay.gu,[],0,0,[]⟩,.slice none 0 0,.slice none 0 0⟩
theorem zQo:nR prog 140=some (.agg (qI aiI)):=aC
theorem Ub:(prog.info? 140).map (·.size)=some 37:=aC
theorem OY (d:QD) (hk:d.c.key.length=32):(uS d).length=37:=by
 unfold uS;rw [aay,aiT,bP,hk];rfl
theorem Du (d:QD) (hk:d.c.key.length=32):(qI d).size=37:=by unfold qI;rw [abC,OY d hk]
theorem Ve (d:QD) (hk:d.c.key.length=32):(Value.int .i64 d.c.kind::aI d.c.key).length=33:=by rw [aiT,bP,hk]
theorem aqV (d:QD):(uS d)[0]?=some (.int .i64 d.c.kind):=rfl
theorem aqU (d:QD){j:Nat}{v:Value} (h:(aI d.c.key)[j]?=some v):(uS d)[1+j]?=some v:=by
 unfold uS;rw [Nat.add_comm,ajK,asQ,aiS (abM.1 h).1];exact h
theorem Vd (d:QD) (hk:d.c.key.length=32) (j:Nat):(uS d)[33+j]?=(d.dv::[.int .i64 d.c.n,.int .i64 d.c.m,d.lv]:List Value)[j]?:=by
 unfold uS;have h:=Ve d hk;rw [aiP oQ,h,avN]
theorem Va (l1 l2:List Value) (x y:Value){i:Nat} (hi:l1.length=i):iK (l1++x::l2).toArray i [y]=(l1++y::l2).toArray:=by
 subst hi;apply vS;rw [qY _ _ _ yD0];simp only [agQ,ai8];rw [List.take_left,List.drop_append,aiU oQ,avN,ajc,List.drop_succ_cons,av5,ab6,List.singleton_append]
theorem aqQ (d:QD) (hk:d.c.key.length=32) (b:ay.Bs) (dv:Value):iK (qI d) 33 [dv]=qI ⟨⟨d.c.kind,d.c.key,b,d.c.n,d.c.m,d.c.l⟩,dv,d.lv⟩:=
 Va _ _ _ _ (Ve d hk)
theorem aqR (d:QD) (hk:d.c.key.length=32) (l:List Int) (lv:Value):iK (qI d) 36 [lv]=qI ⟨⟨d.c.kind,d.c.key,d.c.data,d.c.n,d.c.m,l⟩,d.dv,lv⟩:=by
 have e:∀ d:QD,uS d=((.int .i64 d.c.kind::aI d.c.key)++[d.dv,.int .i64 d.c.n,.int .i64 d.c.m])++d.lv::[]:=λd=>by
  unfold uS;rw [ab6];rfl
 unfold qI;rw [e,e];exact Va _ _ _ _ (by rw [aay,Ve d hk];rfl)
theorem aqS (d:QD) (hk:d.c.key.length=32):(qI d).getD 33 undef=d.dv:=by
 have:=Vd d hk 0;rw [alF];unfold qI;rw [ab5,this];rfl
theorem aqT (d:QD) (hk:d.c.key.length=32):(qI d).getD 36 undef=d.lv:=by
 have:=Vd d hk 3;rw [alF];unfold qI;rw [ab5,this];rfl
theorem OZ {a:List QD} (b:∀ d∈a,d.c.key.length=32){i:Nat}{d:QD} (hi:a[i]?=some d){j:Nat}{y:Value} (e:(uS d)[j]?=some y):(qw a)[i*37+j]?=some y:=by
 induction a generalizing i with
 |nil=>simp at hi
 |cons x a g=>
  have f:=OY x (b x (.head _));unfold qw at *
  rw [aiN];cases i with
  |zero=>
   obtain rfl:x=d:=by simpa using hi
   rw [aiS (by have:=(abM.1 e).1;omega),Nat.zero_mul,aiO];exact e
  |succ i=>
   rw [aiP (by rw [f];omega),f,show (i+1)*37+j-37=i*37+j by omega];exact g (λd hd=>b d (.tail _ hd)) (by simpa using hi)
theorem Vf {a:List QD} (b:∀ d∈a,d.c.key.length=32):(qw a).length=37*a.length:=by
 unfold qw
 induction a with
 |nil=>rfl
 |cons x a e=>rw [aiN,aay,OY x (b x (.head _)),e (λd hd=>b d (.tail _ hd)),aiT];omega
theorem aqW (ds:List QD) (d:QD):qw (ds++[d])=qw ds++(qI d).toList:=by unfold qw qI;rw [ai5];simp
def zk (ds:List QD):aO:=nP (ds.map λd=>cZ d.dv d.c.data)
theorem alH (ds:List QD) (d:QD):zk (ds++[d])=fP (cZ d.dv d.c.data) (zk ds):=by
 unfold zk;rw [acy,zG,Iu];show fP (nP [cZ d.dv d.c.data]) _=_;rw [Iw]
theorem aeG (d:QD){a b:Option Addr}{e f g h:Nat} (i:d.dv=.slice a e g) (j:d.lv=.slice b f h):(qI d).toList.all (·.oneCell')=true:=by
 unfold qI uS;have k:(aI d.c.key).all (·.oneCell')=true:=yu _;rw [agQ,ana,List.all_cons,k,i,j]
 rfl
section
variable {R:List aO}{v bv dv x:Value}
theorem aml {g es:List QD}{i:Nat} (h:es.map (·.c)=((g.map (·.c)).take i).map aJ.zh.cut) (j:∀ p∈g,p.c.key.length=32):∀ p∈es,p.c.key.length=32:=by
 intro p b;have a:p.c∈es.map (·.c):=abI.2 ⟨p,b,rfl⟩;rw [h,abI]at a;obtain ⟨x,d,e⟩:=a;obtain ⟨q,f,rfl⟩:=abI.1 (ajq d);rw [<-e];exact j q f
theorem amk (ds:List QD) (n:Nat) (hn:n<=1048576) (hr:Ro w0 F (bK 37 lv (qw ds))) (he:∀ d∈ds,Gg w0 F d) (h:au w0 w F) :
  Calls prog 19 #[lv,.int .i64 n] w (bf λv w'=>∃ (es:List QD) (ov:Value),v=ov/\es.map (·.c)=aJ.Gy (ds.map (·.c)) n/\(∀ d∈es,Ro w0 F (bK 1 d.lv (dJ d.c.l))/\lS d.lv) /\
   au w0 w' (aK 140 37 ov (qw es)::zk es::F)):=by
 obtain ⟨la,ln,lc,rfl,hl,_⟩:=hr w h;rw [Vf (λp hp=>(he p hp).key)]at hl;obtain rfl:ln=ds.length:=oQ;have Hr:=uQ hr;have He:=uQ he;have Hn:=uQ hn;clear hr he hl hn;go_enter func19,ntmps19;go_wp2_with fail
 go_loopg [5,6] ds.length (λg ov iq wr=>∃ (i:Nat) (es:List QD),g=ds.length-i/\i<=ds.length/\i<=n/\iq=.int .i64 i/\es.map (·.c)=((ds.map (·.c)).take i).map aJ.zh.cut/\(∀ d∈es,Ro w0 F (bK 1 d.lv (dJ d.c.l))/\lS d.lv) /\
  au w0 wr (aK 140 37 ov (qw es)::zk es::F))
 case atStart=>exact ⟨0,[],rfl,acn _,acn _,rfl,rfl,(λd hd=>by cases hd),au.iW.2 (au.ng.2 h)⟩
 case round=>
  obtain ⟨i,es,rfl,hi,hin,rfl,hfs,hls,W⟩:=hrel;have J:=uQ hfs;have Hi:=uQ hi;have aH:=uQ hin;have X:=uQ hls;clear h hfs hi hin hls;by_cases Y:i<ds.length/\i<n
  ·obtain ⟨C,hl2⟩:=Y;have c1:(i:Int)<(ds.length:Int):=oQ;have c2:(i:Int)<(n:Int):=oQ;have hwi:IntKind.i64.wrap ((i:Int)+1)=(i:Int)+1:=abR _ zL0;have Z:=uQ C;have Hl2:=uQ hl2;have sK:=uQ (aml J.o (λp hp=>(He.o p hp).key));clear C hl2;obtain ⟨x,hx⟩:∃ x,ds[i]?=some x:=⟨_,aaf Z.o⟩;have hxe:=He.o x (abH hx);have hk:∀ p∈ds,p.c.key.length=32:=λp hp=>(He.o p hp).key
   have hcut:=uQ (show es.map (·.c)++[x.c.cut]=((ds.map (·.c)).take (i+1)).map aJ.zh.cut by
    rw [J.o,ajf,acy,ab4,hx];rfl)
   have hrF:Ro w0 (aK 140 37 u5 (qw es)::zk es::F) (bK 37 (.slice la ds.length lc) (qw ds)):=Ro.os Hr.o;have aa:(qw ds)[i*37+0]?=some (.int .i64 x.c.kind):=OZ hk hx rfl;obtain ⟨bk,off,rfl,_⟩:=pq (hrF _ W) aa
   have HG:=uQ (show ∀ w' L,Ro w0 L (bK 37 (.slice (some ⟨bk,off,none⟩) ds.length lc) (qw ds))->au w0 w' L->∀ j v,(uS x)[j]?=some v->w'.cell? ⟨bk,off+i*37+j,none⟩=some v by
    intro w' L hL hw j v hj;obtain ⟨MO,off',TK,ab⟩:=pq (hL w' hw) aa;cases TK;have:=ab _ _ (OZ hk hx hj);rw [<-avC]at this;exact this)
   obtain ⟨⟨kind,key,data,xn,xm,xl⟩,dv,lv⟩:=x;obtain ⟨D,ac,hcap,hrl,ad⟩:=hxe;obtain ⟨da,dn,dc,rfl,hdn,hdc⟩:=hcap;obtain ⟨f,o,r,rfl,N,O⟩:=ad;have hdl:dn=data.length:=by
    obtain ⟨a',n',c',he,hl,_⟩:=ac _ (W.sb);cases he;rw [bP,aiR]at hl;exact hl.symm
   subst hdl;have Hrd:=uQ ac;have Hrl:=uQ hrl;have kV:=uQ (show key.length=32 from D);have E:=uQ (aeG ⟨⟨kind,key,data,xn,xm,xl⟩,.slice da data.length dc,.slice f o r⟩ rfl rfl);have a:=uQ (Du ⟨⟨kind,key,data,xn,xm,xl⟩,.slice da data.length dc,.slice f o r⟩ D);clear hx hk hrF aa ac hrl D;generalize G:(⟨⟨kind,key,data,xn,xm,xl⟩,.slice da data.length dc,.slice f o r⟩:QD)=A at HG E a;have P:A.c.key.length=32:=by rw [<-G];exact kV.o
   have Q:A.dv=.slice da data.length dc:=by rw [<-G]
   have R:A.lv=.slice f o r:=by rw [<-G]
   have Hd1:=uQ G;have u:=uQ P;have ai1:=uQ Q;have ai2:=uQ R;clear G P Q R
   go_wp2_with (first
    |((with_reducible refine dH ⟨?_⟩);refine kQ (uS A) aA (HG.o _ _ (Ro.os Hr.o) W) underlying140 rfl (by rw [OY _ u.o];exact Ub) ?_)
    |(with_reducible apply jd))
   refine ⟨iR zQo W rfl ?_⟩;intro q w1 hS1;go_wp2_with (with_reducible apply eG);refine ⟨jK (qI A) hS1 aA aA (a.o.trans (Du aiI rfl).symm) fJ (by rw [a.o];exact Ub) E.o ?_⟩;intro w2 K;clear W hS1;go_wp2_with ((with_reducible refine dH ⟨?_⟩);refine jC K aA dh (by rw [a.o];decide) (by rw [aqS _ u.o,ai1.o]) aC ?_);refine (alB da data.length dc 200 hdn hdc _).mono ?_;rintro ee w3 ⟨v,rfl,rfl,rfl⟩;go_wp2_with fail;refine (aac K (data.take 200) (aq6 ((Ro.os Hrd.o) _ K)) yE0).mono ?_;rintro ee w4 ⟨v,rfl,hS4,ca,cn,cc,rfl⟩;obtain ⟨B,H⟩:∃ B:QD,B=⟨⟨A.c.kind,A.c.key,data.take 200,A.c.n,A.c.m,A.c.l⟩,.slice ca cn cc,A.lv⟩:=⟨_,rfl⟩;have hp2:iK (qI A) 33 [.slice ca cn cc]=qI B:=by rw [aqQ _ u.o (data.take 200),H]
   have S:B.c.key.length=32:=by rw [H];exact u.o
   have T:B.lv=.slice f o r:=by rw [H];exact ai2.o
   have Q7:=uQ hp2;have ae:=uQ H;have s:=uQ S;have ai3:=uQ T;clear hp2 H S T K;go_wp2_with (with_reducible apply eG);refine ⟨jI hS4 aA aA Q7.o fJ (by rw [a.o];show 33+1<=37;decide) aC aA ?_⟩;intro w5 hS5;clear hS4;go_wp2_with ((with_reducible refine dH ⟨?_⟩);refine jC hS5 aA dh (by rw [Du _ s.o];decide) (by rw [aqT _ s.o,ai3.o]) aC ?_);refine (apO f o r 60 N O _).mono ?_;rintro ee w6 ⟨v,rfl,rfl,rfl⟩;obtain ⟨z,t⟩:∃ z:QD,z=⟨⟨B.c.kind,B.c.key,B.c.data,B.c.n,B.c.m,xl.take 60⟩,B.dv,.slice f (min o 60) r⟩:=⟨_,rfl⟩;have hp3:iK (qI B) 36 [.slice f (min o 60) r]=qI z:=by rw [aqR _ s.o (xl.take 60),t]
   have U:z.c.key.length=32:=by rw [t];exact s.o
   have M:=uQ (show (qI z).toList.all (·.oneCell')=true by rw [t,ae.o];exact aeG _ rfl rfl);have Hc3:=uQ (show z.c=aJ.zh.cut ⟨kind,key,data,xn,xm,xl⟩ by rw [t,ae.o,<-Hd1.o];rfl);have Hb3:=uQ (show cZ z.dv z.c.data=cZ (.slice ca cn cc) (data.take 200) by rw [t,ae.o]);have LH:=uQ (show z.lv=.slice f (min o 60) r/\z.c.l=xl.take 60 by rw [t];exact ⟨rfl,rfl⟩);have Hp3:=uQ hp3;have y:=uQ U;clear hp3 t U;have hlen:(qw es).length<=2147483648:=by
    rw [Vf sK.o];have:=aiX List.length J.o;simp only [abl,abA]at this;have:=Hn.o;have:=aH.o;omega
   go_wp2_with (with_reducible apply eG);refine ⟨jI hS5 aA aA Hp3.o fJ (by rw [Du _ s.o];exact abG 37) aC aA ?_⟩;intro w7 hS7;clear hS5
   go_wp2_with (first
    |((with_reducible refine dH ⟨?_⟩);refine kG (b:=q) hS7 aA dh underlying140 rfl (by rw [Du _ y.o];exact Ub) ?_)
    |((with_reducible refine rV ⟨?_⟩);refine rJ (e:=140) (sz:=37) (je:=104) aC hS7 aA (cs:=qI z) rfl (Du _ y.o) dG ?_;intro bN wN hN)
    |((with_reducible refine oK ⟨?_⟩);refine sJ 140 37 104 aC hN aA aA dh dh ((Du _ y.o).trans aU) (abG 1) M.o hlen (by rw [Du _ y.o];decide) aU rfl ?_;intro bA nA cA wA hA))
   go_roundg (ds.length-(i+1))
   case measure=>have:=Z.o;omega
   case rel=>
    refine ⟨i+1,es++[z],rfl,aiW Z.o,aiW Hl2.o,by first|rfl|go_num,?_,?_,?_⟩
    ·rw [<-hcut.o,acy,aij,ajz,Hc3.o]
    ·intro d hd;rcases ahc.1 hd with hd|hd
     ·exact X.o d hd
     ·rw [acS.1 hd,LH.o.1,LH.o.2];exact ⟨λw hw=>aq7 (Hrl.o w hw),⟨_,_,_,rfl,abQ (Nat.min_le_left _ _) N,O⟩⟩
    ·rw [aqW,alH,Hb3.o];have h10:au w0 wA (cZ (.slice ca cn cc) (data.take 200)::zk es::aK 140 37 (.slice (some ⟨bA,0,none⟩) nA cA) (qw es++(qI z).toList)::F):=hA.sb;exact (au.fP.2 h10).bZ
  ·have I:es.map (·.c)=aJ.Gy (ds.map (·.c)) n:=by
    rw [J.o];unfold aJ.Gy
    congr 1
    have:=Hi.o;have:=aH.o;by_cases hh:i=n
    ·rw [hh]
    ·rw [acE (by rw [abl];omega),acE (by rw [abl];omega)]
   have V:=uQ I;by_cases C:i<ds.length
   ·have c1:(i:Int)<(ds.length:Int):=oQ;have c2:¬ (i:Int)<(n:Int):=oQ;clear I Y C;go_wp2;go_ret;exact ⟨_,rfl,es,V.o,X.o,W⟩
   ·have c1:¬ (i:Int)<(ds.length:Int):=oQ;clear I Y C;go_wp2;go_ret;exact ⟨_,rfl,es,V.o,X.o,W⟩
end
abbrev PV:=ay.Bs×ay.Bs×Value
def iY (q:PV):List Value:=aI q.1++[q.2.2]
def sD (q:PV):ay.Bs×ay.Bs:=(q.1,q.2.1)
def lU (ps:List PV):aO:=nP (ps.map λq=>cZ q.2.2 q.2.1)
theorem yB (q:PV) (hk:q.1.length=32):(iY q).length=33:=by unfold iY;rw [aay,bP,hk];rfl
theorem aeF (q:PV){a:Option Addr}{n c:Nat} (h:q.2.2=.slice a n c):(iY q).all (·.oneCell')=true:=by
 unfold iY;have hb:(aI q.1).all (·.oneCell')=true:=yu _;rw [ana,hb,h];rfl
theorem alI (ps:List PV) (q:PV):lU (ps++[q])=fP (cZ q.2.2 q.2.1) (lU ps):=by
 unfold lU;rw [acy,zG,Iu];show fP (nP [cZ q.2.2 q.2.1]) _=_;rw [Iw]
theorem aqo:yA prog 122=some [(0,32),(32,1)]:=aC
theorem avw:nR prog 122=some (.agg (iY (ay.gu,[],.slice none 0 0)).toArray):=aC
theorem asK (k:ay.Bs) (hk:k.length=32) (d:ay.Bs) (a:Option Addr) (n c:Nat) (w:World) :
  (Instr.build 122 #[(0,.agg (aI k).toArray),(1,.slice a n c)]).run prog w=.ok (.agg (iY (k,d,.slice a n c)).toArray) w:=by
 have hbk:(aI k).toArray.size=32:=by rw [abC,bP,hk]
 refine (uU [(0,.agg (aI k).toArray),(1,.slice a n c)] aqo avw (by
  intro f hp;simp only [ab9,ajW,av2]at hp;have b:(Value.agg (iY (ay.gu,[],.slice none 0 0)).toArray).cells.size=33:=by
   show (iY (ay.gu,[],.slice none 0 0)).toArray.size=33;rw [abC,yB _ rfl]
  rw [b];rcases hp with rfl|rfl
  ·refine ⟨0,?_,?_⟩
   ·show some (0,32)=some (0,(aI k).toArray.size);rw [hbk]
   ·show 0+(aI k).toArray.size<=33;omega
  ·exact ⟨32,rfl,by show 32+1<=33;omega⟩) w).trans ?_
 congr 2
 show iK (iK (iY (ay.gu,[],.slice none 0 0)).toArray 0 (aI k)) 32 [.slice a n c]=_;have e:iK (iY (ay.gu,[],.slice none 0 0)).toArray 0 (aI k)=(aI k++Value.slice none 0 0::[]).toArray:=by
  apply vS;rw [qY _ _ _ (by rw [abC,yB _ rfl,bP,hk];decide),ajN,ajc,aiO,bP,hk,agQ]
  rfl
 rw [e];exact Va _ _ _ _ (by rw [bP,hk])
section
variable {o:ay.Bs->Option ay.Bs}
theorem adI {p ps pn B B0 b:Nat}{L:aB.aS}{M:aG}{D:List (Nat×List ay.aT)} (hf:aB.HD K r0 E B0 n L M D) (hB:B<=b) (hH:Ro w0 F iO) (h:au w0 w (eH r m aZ p ps pn d::bF pn (aJ.jZ (aB.ig D)) B::bC p m L::aV m M::F)) (hb:b<=1000:=by decide) :
  Calls prog 11 #[aW r] w (bf λv w'=>∃ (mv:Value) (qs:List PV),v=.tuple #[mv,.bool true]/\(aY.kE (aJ.l7 (aB.iP D)) (qs.map sD)/\(∀ q∈qs,q.1.length=32/\∃ a n c,q.2.2=.slice a n c)/\qs.length<=b/\(∀ q∈qs,q.2.1.length<=16384)) /\
   au w0 w' (aK 122 33 mv (qs.flatMap iY)::lU qs::eH r m aZ p ps pn d::bF pn (aJ.jZ (aB.ig D)) B::bC p m L::aV m M::F)):=by
 have Hf:=uQ hf;have HH:=uQ hH;have HB:=uQ hB;have Yn:=uQ hb;have hks:=ar5 (abQ hB (abQ hb aU)) h;clear hf hH hB h hb;go_enter func11,ntmps11;go_wp2_with fail;refine hks.mono ?_;rintro ee w1 ⟨kv,rfl,kl,hkl,h1⟩;clear hks;have Hl:=uQ hkl.1;have oV:=uQ (show ∀ q∈kl,(aI q.1).length=32 from λq hq=>by rw [bP];exact hkl.2.1 q hq);have Hk:=uQ hkl.2.1;have QT:=uQ (show kl.length<=b/\b<=1000 from ⟨abQ hkl.2.2 HB.o,Yn.o⟩);have zJ:=uQ (aJ.aqg (aB.BP D) hkl.1);obtain ⟨la,lc,rfl⟩:=l9 oV.o (au.rd h1) aU;have h2:au w0 w1 (aK 122 33 (.slice none 0 0) []::lU []::aK 34 32 (.slice la kl.length lc) (kl.flatMap λq=>aI q.1)::eH r m aZ p ps pn d::bF pn (aJ.jZ (aB.ig D)) B::bC p m L::aV m M::F):=au.iW.2 (au.ng.2 h1);clear hkl h1;go_wp2_with fail
 go_loopg [4,6] kl.length (λg ov iq wr=>∃ (i:Nat) (qs:List PV),g=kl.length-i/\i<=kl.length/\iq=.int .i64 i/\(qs.map sD=(aJ.BH (aB.iP D) kl).take i/\(∀ q∈qs,q.1.length=32/\∃ a n c,q.2.2=.slice a n c)/\(∀ q∈qs,q.2.1.length<=16384)) /\
  au w0 wr (aK 122 33 ov (qs.flatMap iY)::lU qs::aK 34 32 (.slice la kl.length lc) (kl.flatMap λq=>aI q.1)::eH r m aZ p ps pn d::bF pn (aJ.jZ (aB.ig D)) B::bC p m L::aV m M::F))
 case atStart=>exact ⟨0,[],rfl,acn _,rfl,⟨rfl,(λq hq=>by cases hq),(λq hq=>by cases hq)⟩,h2⟩
 case round=>
  obtain ⟨i,qs,rfl,hi,rfl,⟨TV,ace,acd⟩,hS⟩:=hrel;clear h2;have YT:=uQ TV;have Hq:=uQ ace;have YR:=uQ acd;have JC:qs.length=i:=by
   have:=aiX List.length TV;unfold aJ.BH at this;rw [abl,abA,abl]at this;omega
  have YS:=uQ JC;clear TV ace acd JC;by_cases hlt:i<kl.length;rotate_left
  ·obtain rfl:i=kl.length:=oQ;have c1:¬ (kl.length:Int)<(kl.length:Int):=oQ;have hle:=arA (hS.sb:au w0 wr (eH r m aZ p ps pn d::bF pn (aJ.jZ (aB.ig D)) B::F));clear hlt hi;go_wp2_with fail;refine hle.mono ?_;rintro ee w9 ⟨v,rfl,t,⟨t1,t2⟩,rfl,rfl⟩;clear hle;have htn:(t.n:Int)=(kl.length:Int):=by rw [aY.aoO t1 t2 Hl.o]
   rw [htn];have heq:((kl.length:Int)==(kl.length:Int))=true:=beq_self_eq_true _;go_wp2_with fail
   go_ret2
   refine ⟨_,rfl,_,qs,rfl,⟨?_,Hq.o,by rw [YS.o];exact QT.o.1,YR.o⟩,hS.sb⟩;rw [YT.o,acE (by unfold aJ.BH;rw [abl];exact abG _)];exact zJ.o
  have c1:(i:Int)<(kl.length:Int):=oQ;have hwi:IntKind.i64.wrap ((i:Int)+1)=(i:Int)+1:=abR _ (by have:=QT.o;omega);obtain ⟨⟨k,pl⟩,hx⟩:∃ q,kl[i]?=some q:=⟨_,aaf hlt⟩;have hxm:=abH hx;have Hxk:=uQ (Hk.o _ hxm);have hmk:=(Hl.o.mem k pl).1 hxm;obtain ⟨data,g1,g2,g3,g4,g5,g6⟩:=Hf.o.got hmk;obtain ⟨bk,off,c',hsv,hcell⟩:=lV oV.o (au.rd (hS.pick jS)) hx aU;cases hsv;have dP:=uQ hlt
  have jl:=uQ (show (aJ.BH (aB.iP D) kl).take (i+1)=(aJ.BH (aB.iP D) kl).take i++[(k,data)] by
   unfold aJ.BH;rw [<-avZ,<-avZ,ajf,hx,akf,acy,aij,ajz];simp only;rw [g2];rfl)
  have hgt:=ar4 (by have:=HB.o;have:=Yn.o;omega) Hxk.o pl hmk (Ro.os HH.o) Hf.o.fD.lD Hf.o.fD.dV.ok g4 g5 data oQ g1
   (hS.sb:au w0 wr (eH r m aZ p ps pn d::bF pn (aJ.jZ (aB.ig D)) B::bC p m L::aV m M::aK 122 33 u4 (qs.flatMap iY)::lU qs::aK 34 32 (.slice (some ⟨bk,off,none⟩) kl.length lc) (kl.flatMap λq=>aI q.1)::F))
  have Hd3:=uQ (show data.length<=16384 by omega);clear hxm hlt hi hmk g1 g2 g3 g4 g5 g6 hS;go_wp2_with ((with_reducible refine dH ⟨?_⟩);refine kQ (aI k) aA hcell underlying34 rfl yL0 ?_);refine hgt.mono ?_;rintro ee w5 ⟨v,rfl,bv,va,vn,vc,rfl,rfl,h5⟩;clear hgt hcell;replace h5:au w0 w5 (aK 122 33 u4 (qs.flatMap iY)::cZ (.slice va vn vc) data::lU qs::aK 34 32 (.slice (some ⟨bk,off,none⟩) kl.length lc) (kl.flatMap λq=>aI q.1)::eH r m aZ p ps pn d::bF pn (aJ.jZ (aB.ig D)) B::bC p m L::aV m M::F):=h5.sb;obtain ⟨bk2,off2,c2,e2,hcell⟩:=lV oV.o (au.rd (h5.pick mD)) hx aU;cases e2;have hle:(qs.flatMap iY).length<=2147483648:=by
   rw [lK λq hq=>yB q (Hq.o q hq).1,YS.o];have:=QT.o;have:=dP.o;omega
  go_wp2_with (first
   |((with_reducible refine dH ⟨?_⟩);refine kQ (aI k) aA hcell underlying34 rfl yL0 ?_)
   |((with_reducible apply Xi);refine ⟨?_⟩;refine FQ (by simp only [akg,aij,ajz];rfl) (λw=>asK k Hxk.o data va vn vc w) ?_)
   |((with_reducible refine rV ⟨?_⟩);refine rJ (e:=122) (sz:=33) (je:=56) aC h5 aA (cs:=(iY (k,data,.slice va vn vc)).toArray) rfl (by rw [abC,yB _ Hxk.o]) dG ?_;intro bN wN hN)
   |((with_reducible refine oK ⟨?_⟩);refine sJ 122 33 56 aC hN aA aA (bW bJ) bJ (by rw [abC,yB _ Hxk.o]) (abG 1) (by rw [agQ];exact aeF _ rfl) hle (by rw [abC,yB _ Hxk.o];decide) aU rfl ?_;intro bA nA cA wA hA))
  go_roundg (kl.length-(i+1))
  case measure=>have:=dP.o;omega
  case rel=>
   refine ⟨i+1,qs++[(k,data,.slice va vn vc)],rfl,dP.o,by first|rfl|go_num,⟨?_,λq hq=>?_,λq hq=>?_⟩,?_⟩
   ·rw [acy,YT.o,jl.o];rfl
   ·rcases ahc.1 hq with hq|hq
    ·exact Hq.o q hq
    ·rw [acS.1 hq];exact ⟨Hxk.o,_,_,_,rfl⟩
   ·rcases ahc.1 hq with hq|hq
    ·exact YR.o q hq
    ·rw [acS.1 hq];exact Hd3.o
   ·rw [ai5,List.flatMap_singleton,alI];have h10:au w0 wA (cZ (.slice va vn vc) data::lU qs::aK 122 33 (.slice (some ⟨bA,0,none⟩) nA cA) (qs.flatMap iY++(iY (k,data,.slice va vn vc)).toArray.toList)::aK 34 32 (.slice (some ⟨bk,off,none⟩) kl.length lc) (kl.flatMap λq=>aI q.1)::eH r m aZ p ps pn d::bF pn (aJ.jZ (aB.ig D)) B::bC p m L::aV m M::F):=hA.sb;exact (au.fP.2 h10).bZ
end
end Go.Proofs.Y
namespace Go.aB
open Go.aG
open Go.ay (Bs aT bU gV iJ)
open Go.aJ
structure xY (L:aS) (D D0:List (Nat×List aT)):Prop where
 ex:∃ N,D=D0++N/\(L.on=true->N≠[])/\L.dK=(N.length:Int)
def Ap (D:List (Nat×List aT)) (b:Bool) (x:aT):fZ:=if b=true then (((D.getLastD (0,[])).1:Int),⟨x,8+(bU (D.getLastD (0,[])).2).length,(ay.dI x).1.length⟩) else ((qW D:Int),⟨x,8,(ay.dI x).1.length⟩)
section
variable {K r E B n r0 B0:Nat}{L:aS}{M M':aG}{D D0 N1:List (Nat×List aT)}{N:Int}{us:List gX}{x:aT}{pl:List (Bs×bT)}
theorem V3 (D:List (Nat×List aT)) (b:Bool) (x:aT):(Ap D b x).2.e=x:=by unfold Ap;split <;> rfl
theorem V9 (b:Bool) (x:aT) (hb:b=true->D≠[]):ig (tH D b x)=ig D++[Ap D b x]:=by
 cases b with
 |true=>
  obtain ⟨D1,e,rfl⟩:∃ D1 e,D=D1++[e]:=by
   rcases aog D with q|⟨D1,e,rfl⟩
   ·exact absurd q (hb rfl)
   ·exact ⟨D1,e,aok⟩
  have e1:tH (D1++[e]) true x=D1++[(e.1,e.2++[x])]:=by unfold tH;rw [abL rfl];simp
  have e2:Ap (D1++[e]) true x=((e.1:Int),⟨x,8+(bU e.2).length,(ay.dI x).1.length⟩):=by unfold Ap;rw [abL rfl];simp
  rw [e1,e2,V7,V7,ab6]
  congr 1
  show ((iJ (e.2++[x]) 8).map _++[])=((iJ e.2 8).map _++[])++[_];rw [ahB,ahB,aJ.abd,acy]
  rfl
 |false=>
  have e1:tH D false x=D++[(qW D,[x])]:=by unfold tH;rw [abB aU]
  rw [e1,V7]
  rfl
theorem HD.Nu (h:HD K r E B n L M D){k:Nat}:L.fC k=true->D≠[]:=λhf=>by
 have h1:=h.fD.lD.on (Gz hf);intro e;have:=h.l;rw [e]at this;exact h1 this
theorem HD.akh (h:HD K r E B n L M D) (h0:(ay.dI x).2=0) (hz:(L.append M x).2.2=0):(L.append M x).2.1=pF (Ap D (L.fC (ay.dI x).1.length) x):=by
 cases hf:L.fC (ay.dI x).1.length with
 |true=>
  rw [aS.Em h0 hf]at hz ⊢;obtain ⟨D1,e,rfl⟩:∃ D1 e,D=D1++[e]:=by
   rcases aog D with q|⟨D1,e,rfl⟩
   ·exact absurd q (h.Nu hf)
   ·exact ⟨D1,e,aok⟩
  have hl:L.l.getLast?=some ((e.1:Int),8+((bU e.2).length:Int)):=by rw [h.l,acy,aij,ajz,as4];rfl
  have e2:Ap (D1++[e]) true x=((e.1:Int),⟨x,8+(bU e.2).length,(ay.dI x).1.length⟩):=by unfold Ap;rw [abL rfl];simp
  rw [e2];unfold aS.grow at hz ⊢;rw [hl]at hz ⊢;simp only at hz ⊢;split at hz
  ·rename_i g;rw [abL g]
   rfl
  ·rename_i g;exact absurd hz g
 |false=>
  rw [aS.CS h0 hf]at hz ⊢;obtain ⟨_,s2,s3,_,_⟩:=h.fD.fA;have hnx:(L.fA M).1.1.next=qW D:=by rw [<-h.next];unfold aS.next;rw [s3]
  have e2:Ap D false x=((qW D:Int),⟨x,8,(ay.dI x).1.length⟩):=by unfold Ap;rw [abB aU]
  rw [e2];unfold aS.begin at hz ⊢;rw [abL s2]at hz ⊢;generalize qW D=c at *
  generalize (L.fA M).1.1=L1 at *
  generalize (L.fA M).1.2=M1 at *
  unfold aS.nC at hz ⊢;by_cases g2:1048576<=L1.next
  ·rw [abL g2]at hz;exact absurd (show (16:Int)=0 from hz) aU
  rw [abB g2]at hz ⊢;by_cases g3:(M1.dM (name L1.next)).2=0;rotate_left
  ·rw [abL g3]at hz;exact absurd hz g3
  rw [abB (λq=>q g3)]at hz ⊢;by_cases g4:((M1.dM (name L1.next)).1.append (name L1.next) (dL++(ay.dI x).1)).2=0
  ·rw [abL g4,hnx]
   rfl
  rw [abB g4]at hz;split at hz
  ·simp only at hz;split at hz
   ·exact absurd hz aU
   ·rename_i g5;exact absurd hz g5
  ·exact absurd hz g4
theorem jD.BD (h:jD K r E B n L M D){K' a:Nat}{c:aS}{b:List (Nat×List aT)} (hg:HD K' r E B a c M' b) (d:aH.kS M M') (hf:(iP b).length<=a) (f:a<=500->∀ e∈iP b,e.data.length<=300):jD K' r E B a c M' b:=by
 refine ⟨hg,?_,hf,λp g=>?_,f⟩
 ·cases hi:dN M'.aN aH.tmp with
  |none=>rfl
  |some i=>
   rcases d _ (lZ hi) with q|⟨k,q⟩
   ·have:=G8 h.hd.fD.dV.ok.jR.sU.keys q;rw [h.tmp]at this;cases this
   ·exact absurd q (aH.DJ k)
 ·rcases d p g with q|⟨k,q⟩
  ·exact h.qK p q
  ·rw [q];exact adP k
theorem Tc (h:HD K r E B n L M D) (x:aT):iP (tH D (L.fC (ay.dI x).1.length) x)=iP D++[x]:=by
 rw [<-BP,V9 _ _ h.Nu,acy,BP,aij,ajz,V3]
theorem jD.yes (h:jD K r E B n L M D) (f:xY L D D0) (hn:n<1000) (o:x.key.length=32) (hd:x.data.length<=300) (l:(ay.dI x).2=0) (m:(L.append M x).2.2=0) :
  ∃ j,jD (K+4) r E B (n+1) (L.append M x).1.1 (L.append M x).1.2 j/\xY (L.append M x).1.1 j D0/\iP j=iP D++[x]/\∃ row,ig j=ig D++[row]/\row.2.e=x/\pF row=(L.append M x).2.1:=by
 obtain ⟨_,_,_,a⟩:=h.hd.append hn x o hd l (.inl m);have he:=Tc h.hd x;refine ⟨_,h.BD a (aH.Ob L M x) ?_ ?_,?_,he,_,V9 _ x h.hd.Nu,V3 _ _ _,(h.hd.akh l m).symm⟩
 ·rw [he,aay,ai8];have:=h.rE;omega
 ·rw [he];exact λ_=>Xf (h.uV oQ) hd
 ·obtain ⟨N1,rfl,f2,f3⟩:=f.ex;obtain ⟨b,b1,_,c,d,_⟩:=aev (L.fC (ay.dI x).1.length) λg=>f2 (Gz g);obtain ⟨_,i⟩:=h.hd.fD.aki l m;exact ⟨b,b1,λ_=>c,by rw [i,f3,d];split <;> omega⟩
theorem jD.no (h:jD K r E B n L M D) (f:xY L D D0) (hk:x.key.length=32) (hz:(L.append M x).2.2≠0):jD (K+4) r E B n (L.append M x).1.1 (L.append M x).1.2 D/\xY (L.append M x).1.1 D D0:=by
 obtain ⟨_,k2⟩:=h.hd.fD.append x hk;obtain ⟨_,k4,_⟩:=k2 hz;refine ⟨h.BD (h.hd.akk x hk hz) (aH.Ob L M x) h.rE h.uV,?_⟩;obtain ⟨N1,f1,f2,f3⟩:=f.ex;refine ⟨N1,f1,λho=>f2 ?_,by rw [k4];exact f3⟩;by_cases h0:(ay.dI x).2=0
 ·exact akl h0 hz ho
 ·rw [aS.MC h0]at ho;exact ho
theorem xY.start (ho:L.on=false) (hf:L.dK=0):xY L D D:=⟨[],(ahB _).symm,λq=>(by rw [ho]at q;cases q),by rw [hf];rfl⟩
theorem SQ (b:Bool) (D:List (Nat×List aT)):vg (tH D b gq)/\tH D b gq≠[]:=by
 have key:∀ (F:List (Nat×List aT)) c es,vg (F++[(c,es++[gq])])/\F++[(c,es++[gq])]≠[]:=λF c es=>⟨λd hd=>by
  rw [as4]at hd;simp only [List.getLast?_singleton,Option.some_or,Option.some.injEq]at hd;rw [<-hd];unfold mJ;simp only;rw [as4]
  rfl,by simp⟩
 unfold tH;split
 ·exact key _ _ _
 ·exact key _ _ []
theorem jD.jO (h:jD K r E B n L M D) (f:xY L D D0) (hn:n<1000) (t:(L.append M gq).2.2=0) :
  (L.jO M).2.2=0/\∃ s,jD (K+5) r E B (n+1) (L.jO M).1.1 (L.jO M).1.2 s/\xY (L.jO M).1.1 s s/\(∃ row,ig s=ig D++[row]/\row.2.e=gq)/\iP s=iP D++[gq]/\vg s/\s≠[]/\eP D0<=eP s:=by
 obtain ⟨b,i,m,c⟩:=h.hd.jO hn (.inl t);have j:eP D0<=eP (tH D (L.fC (ay.dI gq).1.length) gq):=by
  obtain ⟨N1,f1,f2,f3⟩:=f.ex;obtain ⟨o,b1,_⟩:=aev (L.fC (ay.dI gq).1.length) λl=>f2 (Gz l);have g:=c.jA;rw [f1,b1]at g ⊢;cases hd:D0.getLast? with
  |none=>
   have:eP D0 = -1:=by unfold eP;rw [hd]
   rw [this];unfold eP;split <;> omega
  |some d=>
   have:eP D0=d.1:=by unfold eP;rw [hd]
   rw [this];exact Oc g (ajm _ (aju hd))
 have a:=Tc h.hd gq;refine ⟨b,_,h.BD c (aH.Um L M) ?_ ?_,xY.start i (alr b),⟨_,V9 _ gq h.hd.Nu,V3 _ _ _⟩,a,(SQ _ D).1,(SQ _ D).2,j⟩
 ·rw [a,aay,ai8];have:=h.rE;omega
 ·rw [a];exact λ_=>Xf (h.uV oQ) aU
theorem vF.apart (h:vF r0 E n B0 M D0 N us) (a:qj M M') (g:aH.kS M M'){n':Nat} (hn:n<=n'):vF r0 E n' B0 M' D0 N us:=by
 obtain ⟨u,j,b,pl,s,q⟩:=h.mono hn (abG E);refine ⟨u,j.BD g,b,pl,s,λc f i=>⟨λe=>((q c f i).1 e).apart g,λe=>((q c f i).2 e).apart a g ?_ b⟩⟩;rw [s.last];unfold eP;cases hl:D0.getLast? with
 |none=>exact absurd (ajF.1 hl) e
 |some d=>simp only;omega
theorem vF.start (b:M.aN=[]):vF r0 E n 0 M [] (-1) []:=
 ⟨acn _,λp a=>(by rw [b]at a;cases a),by decide,[],⟨rfl,⟨[],⟨List.Pairwise.nil,λk v=>⟨λh=>(by cases h),λh=>(by cases h)⟩⟩,λq c=>(by cases c),rfl,rfl⟩,λd hd=>(by cases hd)⟩,λ_ _ _=>⟨λ_ p a=>(by rw [b]at a;cases a),λe=>absurd rfl e⟩⟩
end
section
variable {K r E B n:Nat}{L:aS}{M:aG}{D:List (Nat×List aT)}{N:Int}{us:List gX}{pl:List (Bs×bT)}
theorem JJ (h:D≠[]):0<=eP D:=by
 unfold eP;cases hl:D.getLast? with
 |none=>exact absurd (ajF.1 hl) h
 |some d=>simp only;omega
theorem ac9 {l:List fZ}{kv:List (Bs×iH)} (k1:aY.kE (lC l) kv):kv.length<=l.length:=by
 have a:∀ x∈kv.map (·.1),x∈l.map kD:=λx b=>by
  obtain ⟨q,c,rfl⟩:=abI.1 b;have:=(k1.mem q.1 q.2).1 c;unfold lC at this;obtain ⟨r,d,_⟩:=amV.1 this;obtain ⟨e,_,f⟩:=Ov d;exact abI.2 ⟨r,e,f⟩
 have:=aY.Oi k1.keys a
 rwa [abl,abl]at this
theorem jD.Uh (h:jD K r E B n L M D){kv:List (Bs×iH)} (k1:aY.kE (lC (ig D)) kv):kv.length<=n:=by
 have h1:=ac9 k1;have h2:=h.rE;rw [<-BP,abl]at h2;omega
theorem adB(h:A:=by
 obtain ⟨kv,k1,k2,rfl,rfl⟩:=s.kv;have ho:=h.hd.zy k1 k2;have xF:((oP D).map (pI kv)).length<=n:=by unfold oP;rw [abl,abl];exact h.hd.count
 have hpl:(jH kv).length<=n:=abQ (by unfold jH;rw [abl];exact ak6 _ _) (h.Uh k1);have htk:L.aX.take D.length=L.aX:=acE (by rw [h.hd.aX,abl];exact abG _);refine ⟨⟨ho.key,aH.qP.gY ho h.hd.fD.lD oQ,aH.qP.Cb ho h.hd.fD.lD oQ,aH.amy h.hd.fD.lD ho htk ?_,aH.qP.zB ho h.hd.fD.lD,?_⟩,hpl⟩
 ·rw [h.hd.aX,asq,s.last];unfold eP;cases hl:D.getLast? with
  |none=>exact absurd (ajF.1 hl) hne
  |some d=>rfl
 ·rw [List.filter_eq_nil_iff];intro x hx;rw [h.hd.aX]at hx;obtain ⟨d,hd,rfl⟩:=abI.1 hx;have:=Oc h.hd.jA hd;rw [s.last];simp only [ad2];omega):A:=h
theorem jD.Un (h:jD K r E B n L M D) (hn:n<=1000) (s:uF D N us pl) (hne:D≠[]):Y7 L N us pl/\pl.length<=n:=adB
end
section
variable {K r E B n:Nat}{L:aS}{M M':aG}{D:List (Nat×List aT)}{N:Int}{us:List gX}{pl:List (Bs×bT)}{b1 b2:Bs}
theorem oJ.CW (h:oJ K r E B n L M D):(aH.lI aH.rC M.list M).2=0/\jD (K+500) r E B n L (aH.lI aH.rC M.list M).1 D/\NF (aH.lI aH.rC M.list M).1/\(aH.lI aH.rC M.list M).1.aN.length<=M.aN.length:=by
 have d:=h.hd.fD.dV;have a:=d.fE.list;have g:M.list.length<=500:=by rw [a,abl];exact d.ok.jR.len
 have b:=aH.P9 (p:=aH.rC) M.list K M d (by rw [a];exact aH.ad5 d) (λf hf=>by
  rw [a]at hf;obtain ⟨p,c,rfl⟩:=abI.1 hf;exact ⟨p.2,G8 d.ok.jR.sU.keys c⟩)
 generalize aH.lI aH.rC M.list M=R at *
 have hg:∀ p∈R.1.aN,aH.rC p.1=false:=λp c=>b.gB p c (by rw [a];exact abI.2 ⟨p,b.sub p c,rfl⟩);have j:∀ k:Int,aH.rC (name k)=false:=λk=>by
  unfold aH.rC;rw [aH.E8];simp only [Bool.false_or];rw [acj];exact λe=>aH.DJ k (ByteArray.ext (Array.toList_inj.1 e.symm))
 refine ⟨b.zero,⟨h.hd.apart (b.dV.mono oQ) (λk=>b.kU _ (j k)) (abQ b.cO h.hd.cO) (abQ b.len h.hd.ku),?_,h.rE,λp c=>h.qK p (b.sub p c),h.uV⟩,λp c=>?_,b.len⟩
 ·cases hi:dN R.1.aN aH.tmp with
  |none=>rfl
  |some i=>
   have:=hg _ (lZ hi);unfold aH.rC at this;simp at this
 ·have:=hg p c;unfold aH.rC at this;rw [Bool.or_eq_false_iff]at this;exact this.1
theorem NF.hn (h:NF M) (N:Int):HN M N:=λp hp hm=>by rw [h p hp]at hm;cases hm
theorem oJ.lK (h:oJ K r E B n L M D):(jP (λs=>L.bytes M s) L.aX).length<=n:=by
 rw [h.hd.Fh,<-abl,BP];exact h.rE
theorem oJ.Wi (h:oJ K r E B n L M D):∀ q∈jP (λs=>L.bytes M s) L.aX,(q.2.size:Int)<=4294967296:=λq hq=>by
 rw [h.hd.Fh]at hq;exact (h.hd.row hq).2.2.1
theorem oJ.Uh (h:oJ K r E B n L M D){kv:List (Bs×iH)} (k1:aY.kE (lC (ig D)) kv):kv.length<=n:=by
 have h1:=ac9 k1;have h2:=h.rE;rw [<-BP,abl]at h2;omega
theorem oJ.Un (h:oJ K r E B n L M D) (hn:n<=1000) (s:uF D N us pl) (hne:D≠[]):Y7 L N us pl/\pl.length<=n:=adB
structure tV (K E B:Nat) (M:aG) (D:List (Nat×List aT)):Prop where
 rp:∃ L,jD K 1048576 E B 999 L M D
 pU:vg D
 zy:(D=[]/\NF M)\/(D≠[]/\∃ us pl,uF D (eP D) us pl/\HF M (eP D) pl us)
 len:M.aN.length<=E
theorem tV.dK (h:tV K E B M D) (lim:Int) (l1:128<=lim) (l2:lim<=1048576):jD K 1048576 E B 999 (aB.dK M lim) M D:=by
 obtain ⟨L,hr⟩:=h.rp;exact hr.dK lim l1 l2
theorem tV.nf (h:jD K 1048576 E B 999 L M D) (he:vg D) (hl:M.aN.length<=E) (hn:NF M) (hd:D=[]):tV K E B M D:=⟨⟨L,h⟩,he,.inl ⟨hd,hn⟩,hl⟩
theorem tV.nO (h:jD K 1048576 E B 999 L M D) (hl:M.aN.length<=E) (hE:E<=450) (hB:B<=300000) (hn:NF M) (hs:uF D N us pl) (hne:D≠[]) (hb1:b1=bH.jM Xx.sum bH.xH true (pl.map mO)) (hb2:b2=bH.jM Xx.sum bH.xI false (us.map mV)) (hlen:b1.length+b2.length<=60000) :
  (aH.nO M N b1 b2).2=0/\tV (K+600) (E+2) (B+60000) (aH.nO M N b1 b2).1 D:=by
 obtain rfl:N=eP D:=hs.last;have h1:=JJ hne;have h2:=h.hd.Dl;have hu:=h.hd.cO;obtain ⟨a1,a2,a3,_⟩:=h.hf oQ h1 oQ hb1 hb2 oQ;obtain ⟨c1,_⟩:=h.WG oQ (hn.hn (eP D)) h1 oQ b1 b2;exact ⟨a1,⟨L,c1.mono (abG _) (abG _) oQ (abG _)⟩,hs.pU,.inr ⟨hne,us,pl,hs,a2⟩,by omega⟩
def og (R:List (Nat×Bs)):List gI:=(R.filter λd=>lH d.2).map λd=>aJ.zV (d.1:Int) (ay.eF d.2).2.1
def zo (last:Int) (R:List (Nat×Bs)):List gI:=(R.filter λd=>decide (last<(d.1:Int))).map λd=>⟨3,(d.1:Int),0⟩
def Nv (last nw:Int):List gI:=if last<nw then [⟨3,nw,0⟩] else []
def qR (nw:Int) (R:List (Nat×Bs)):List gI:=og R++zo (mZ (-1) R) R++Nv (mZ (-1) R) nw
structure Rq (K K1 E1 B1:Nat) (M:aG) (R:List (Nat×Bs)) (D:List (Nat×List aT)):Prop where
 dV:gU K 1048576 M
 qK:∀ p∈M.aN,p.1.size<=24
 aX:∀ lim:Int,128<=lim->lim<=1048576->(aB.dK M lim).aX=R.map (λd=>(d.1:Int))/\∀ d∈R,(aB.dK M lim).bytes M (d.1:Int)=(d.2,0)
 bD:R.length<=1000
 lim:∀ d∈R,d.1<1048576
 Uf:o8 (aH.iC M) R=eP D
 Sz:(aB.lT (eP D) R M).2=0
 rp:∃ L,oJ K1 1048576 E1 B1 999 L (aB.lT (eP D) R M).1 D
 len:(aB.lT (eP D) R M).1.aN.length<=E1
 pU:vg D
 zy:qR (aH.iC M) R=[]->0<=mZ (-1) R->aH.there M (aH.name aH.gY (mZ (-1) R))=false\/aH.there M (aH.name aH.kJ (mZ (-1) R))=false \/
  ∃ (K' E' B':Nat) (us:List gX) (pl:List (Bs×bT)),(∃ L,oJ K' 1048576 E' B' 999 L M D)/\D≠[]/\uF D (eP D) us pl/\HF M (eP D) pl us/\mZ (-1) R=eP D
structure Ee (K K1 E1 B1:Nat) (M:aG) (R:List (Nat×Bs)) (last limit:Int) (q:Bool) (M2:aG) (D:List (Nat×List aT)):Prop where
 dV:gU K 1048576 M
 qK:∀ p∈M.aN,p.1.size<=24
 aX:(aB.dK M limit).aX=R.map (λd=>(d.1:Int))/\∀ d∈R,(aB.dK M limit).bytes M (d.1:Int)=(d.2,0)
 bD:R.length<=1000
 lim:∀ d∈R,d.1<1048576
 Uf:o8 (aH.iC M) R=last
 Sz:(aB.lT last R M).2=0
 ok:gU K1 1048576 (aB.lT last R M).1
 mid:∃ R1:List (Nat×Bs),(aB.dK (aB.lT last R M).1 limit).aX=R1.map (λd=>(d.1:Int))/\(∀ d∈R1,(aB.dK (aB.lT last R M).1 limit).bytes (aB.lT last R M).1 (d.1:Int)=(d.2,0))/\R1.length<=1000/\(∀ d,R1.getLast?=some d->mJ (jG d.2)=q)/\(R1=[]->q=true)
 cls:M2=(if q=true then (aB.lT last R M).1 else ((aB.dK (aB.lT last R M).1 limit).jO (aB.lT last R M).1).1.2)/\(q=false->((aB.dK (aB.lT last R M).1 limit).jO (aB.lT last R M).1).2.2=0)
 rp:∃ L,oJ K1 1048576 E1 B1 999 L M2 D
 len:M2.aN.length<=E1
 pU:vg D
 zy:qR (aH.iC M) R=[]->0<=mZ (-1) R->aH.there M (aH.name aH.gY (mZ (-1) R))=false\/aH.there M (aH.name aH.kJ (mZ (-1) R))=false \/
  ∃ (K' E' B':Nat) (us:List gX) (pl:List (Bs×bT)) (D':List (Nat×List aT)),(∃ L,oJ K' 1048576 E' B' 999 L M D')/\D'≠[]/\uF D' (eP D') us pl/\HF M (eP D') pl us/\mZ (-1) R=eP D'
theorem Ee.next {K1 E1 B1:Nat}{R:List (Nat×Bs)}{last limit:Int}{q:Bool}{M2:aG} (h:Ee K K1 E1 B1 M R last limit q M2 D):(aH.lI aH.rC M2.list M2).2=0 /\
  (∃ L,jD (K1+500) 1048576 E1 B1 999 L (aH.lI aH.rC M2.list M2).1 D)/\NF (aH.lI aH.rC M2.list M2).1/\(aH.lI aH.rC M2.list M2).1.aN.length<=E1:=by
 obtain ⟨L,hr⟩:=h.rp;obtain ⟨a1,a2,a3,a4⟩:=hr.CW;exact ⟨a1,⟨L,a2⟩,a3,abQ a4 h.len⟩
theorem Rq.g {n o B1:Nat}{R:List (Nat×Bs)} (h:Rq K n o B1 M R D) (limit:Int) (r:128<=limit) (s:limit<=1048576):Ee K n o B1 M R (eP D) limit true (aB.lT (eP D) R M).1 D:=by
 obtain ⟨L,i⟩:=h.rp;have f:=i.dK limit r s;refine ⟨h.dV,h.qK,h.aX limit r s,h.bD,h.lim,h.Uf,h.Sz,i.hd.fD.dV,⟨mF D,by rw [f.hd.aX];unfold mF;rw [ajr];rfl,λy c=>?_,by unfold mF;rw [abl];exact abQ i.hd.count aU,λy c=>?_,λ_=>rfl⟩,⟨rfl,λe=>by cases e⟩,h.rp,h.len,h.pU,λa b=>(h.zy a b).imp id λq=>q.imp id λ⟨j,l,m,us,pl,x⟩=>⟨j,l,m,us,pl,D,x⟩⟩
 ·obtain ⟨d,hd,rfl⟩:=abI.1 c;exact f.hd.bytes hd
 ·unfold mF at c;rw [asq]at c;cases hg:D.getLast? with
  |none=>rw [hg]at c;cases c
  |some d=>
   rw [hg]at c;cases c;rw [(Ep ((i.hd.dW d (aju hg)).1)).2];exact h.pU d hg
theorem tV.pre (h:tV K E B M D):Rq K (K+1) E B M (mF D) D:=by
 have⟨L,a⟩:=h.rp;have i:=a.hd.fD.dV;have c:∀ d∈D,∀ x∈d.2,gV x:=λd hd=>(a.hd.dW d hd).1;have b : -1<=aH.iC M/\(aH.iC M = -1\/aH.iC M<=eP D):=by
  rcases h.zy with ⟨e,hn⟩|⟨f,us,pl,n,hf⟩
  ·rw [hn.iC i.fE];exact ⟨avf _,.inl rfl⟩
  ·have o:=JJ f;have z:=a.hd.Dl;rw [hf.iC i.fE o oQ];exact ⟨by omega,.inr (avf _)⟩
 have g:=ald (M:=M) a.hd.jA c;have⟨r,s,u⟩:=a.dir;refine ⟨i,a.qK,λlim v w=>?_,by unfold mF;rw [abl];exact abQ a.hd.count aU,λy j=>?_,aou a.hd.jA c h.pU b.2 b.1,by rw [g];exact r,by rw [g];exact ⟨L,u.t⟩,by rw [g,s];exact h.len,h.pU,λ_ l=>?_⟩
 ·have hf:=h.dK lim v w;refine ⟨by rw [hf.hd.aX];unfold mF;rw [ajr];rfl,λy j=>?_⟩;obtain ⟨d,hd,rfl⟩:=abI.1 j;exact hf.hd.bytes hd
 ·obtain ⟨d,hd,rfl⟩:=abI.1 j;have:=a.hd.lim d hd;simp only;omega
 ·have m:=alq a.hd.jA c h.pU;rw [m]at l ⊢;rcases h.zy with ⟨e,hn⟩|⟨f,us,pl,n,hf⟩
  ·rw [e]at l;exact absurd l aU
  ·exact .inr (.inr ⟨K,E,B,us,pl,⟨L,a.t⟩,f,n,hf,rfl⟩)
theorem tV.st (h:tV K E B M D):∃ us pl,uF D (eP D) us pl/\(NF M\/D≠[]/\HF M (eP D) pl us):=by
 have⟨L,c⟩:=h.rp;rcases h.zy with ⟨e,hn⟩|⟨a,us,pl,d,hf⟩
 ·have⟨kv,_,_,b⟩:=c.hd.stp h.pU;exact ⟨_,_,b,.inl hn⟩
 ·exact ⟨us,pl,d,.inr ⟨a,hf⟩⟩
end
end Go.aB
namespace Go.aG
open Go.aB (zS Gs)
theorem dw.Fg (f:dw) (i:Nat) (y:UInt8):(f.gW i y).aN=iE f.aN i y:=by
 unfold dw.gW;split <;> rfl
def At (M:aG) (s:ByteArray) (i:Int) (k:Nat):Prop:=dN M.aN s=some k/\0<=i/\i<((M.file k).aN.length:Int)
section
variable {K:Nat}{M:aG}{s t:ByteArray}{i:Int}{k:Nat}{y:UInt8}{b:Bs}
theorem At.gW (h:At M s i k):(M.gW s i y).1=M.lW k ((M.file k).gW i.toNat y):=by
 unfold aG.gW;rw [h.1];simp only;rw [abB (by have:=h.2;omega)]
theorem PI (h:¬ ∃ k,At M s i k):(M.gW s i y).1=M:=by
 unfold aG.gW;cases hn:dN M.aN s with
 |none=>rfl
 |some k=>
  simp only;split
  ·rfl
  ·rename_i hc;exact absurd ⟨k,hn,by omega,by omega⟩ h
theorem aic (ok:M.Ok K) (h:At M s i k):(M.lW k ((M.file k).gW i.toNat y)).cO=M.cO:=by
 have a:=ok.jR.qG _ (lZ h.1);unfold aG.cO
 congr 1
 refine anP λp b=>?_;rw [Df a];split
 ·rename_i e;rw [e,dw.Fg,IV]
 ·rfl
end
theorem WR {α:Type} (l:List α) (i:Nat) (x:α):l.set i (l.getD i x)=l:=by
 refine awf λj=>?_;rw [List.getElem?_set];split
 ·rename_i e;subst e;split
  ·rename_i hl;rw [abY,aaf hl];rfl
  ·exact (anS.2 oQ).symm
 ·rfl
theorem KZ (l:Bs) (i:Nat):iE l i 0=l:=by
 unfold iE;rw [show l.getD i 0 ^^^ 0=l.getD i 0 from UInt8.xor_zero ..];exact WR l i 0
theorem PG (f:dw) (i:Nat):∀ (n:Nat) (ws:List jQ),Am f i 0 n=some ws->ws=f.waits
 |0,ws,h=>by cases h
 |n+1,ws,h=>by
  unfold Am at h;cases hc:f.waits[n]? with
  |none=>rw [hc]at h;exact PG f i n ws h
  |some c=>
   rw [hc]at h;simp only at h;split at h
   ·exact PG f i n ws h
   split at h
   ·rw [KZ]at h;have e:f.waits.set n c=f.waits:=by
     have:=WR f.waits n c
     rwa [abY,hc]at this
    rw [show ({ c with b:=c.b }:jQ)=c from rfl,e]at h;exact (ajH h).symm
   ·exact PG f i n ws h
theorem dw.VZ (f:dw) (i:Nat):f.gW i 0=f:=by
 unfold dw.gW;split
 ·rename_i ws h;rw [PG f i _ ws h,KZ]
 ·rw [KZ,KZ]
theorem VZ (M:aG) (s:ByteArray) (i:Int):(M.gW s i 0).1=M:=by
 unfold aG.gW;split
 ·rfl
 split
 ·rfl
 ·rw [dw.VZ];unfold aG.lW aG.file;rw [WR]
theorem Fg (M:aG) (s:ByteArray) (i:Int) (y:UInt8):(M.gW s i y).1.aN=M.aN/\(M.gW s i y).1.room=M.room:=by
 unfold aG.gW;split
 ·exact ⟨rfl,rfl⟩
 split
 ·exact ⟨rfl,rfl⟩
 ·exact ⟨rfl,rfl⟩
theorem apG {l:iI} (h:(l.map (·.2)).Nodup){p q:ByteArray×Nat} (g:p∈l) (i:q∈l) (e:p.2=q.2):p=q:=by
 induction l with
 |nil=>cases g
 |cons x l f=>
  rw [aij,ao5]at h;rcases ab9.1 g with a|b <;> rcases ab9.1 i with c|d
  ·rw [a,c]
  ·exact absurd (abI.2 ⟨q,d,by rw [<-e,a]⟩) h.1
  ·exact absurd (abI.2 ⟨p,b,by rw [e,c]⟩) h.1
  ·exact f h.2 b d
end Go.aG
namespace Go.aJ
open Go.ay (Bs aT)
theorem ac1 {x:aT}{k:Bs} (h:x.dB=2\/x.key≠k) (A:List aT):∀ (n:Nat) (B:List aT),B.length=n->uq (A++x::B) k=uq (A++B) k
 |0,B,hn=>by
  obtain rfl:=ajn hn;rw [G5,abB (λq=>h.elim q.1 λe=>e q.2),ahB]
 |n+1,B,hn=>by
  rcases aog B with rfl|⟨B',y,rfl⟩
  ·cases hn
  rw [aok]at *
  have ih:=ac1 h A n B' (by rw [aay,ai8]at hn;omega);have e1:A++x::(B'++[y])=(A++x::B')++[y]:=by rw [ab6];rfl
  have e2:A++(B'++[y])=(A++B')++[y]:=by rw [ab6]
  rw [e1,e2,G5,G5,ih]
theorem apV {x:aT}{k:Bs} (h:x.dB=2\/x.key≠k) (A B:List aT):l7 (A++x::B) k=l7 (A++B) k:=by
 unfold l7;rw [ac1 h A _ B rfl]
end Go.aJ
namespace Go.ay
theorem ahx:∀ (l:List aT) (p a:Nat),p<=a->a<p+(bU l).length->∃ u x v,l=u++x::v/\((iJ l p).filter λf => !(uM a f)).map (·.e)=u++v/\∀ y,(iJ l p).foldl (λz f=>if uM a f=true then f.e else z) y=x
 |[],p,a,h1,h2=>by
  have:(bU []).length=0:=rfl;omega
 |x::l,p,a,h1,h2=>by
  have hf:iJ (x::l) p=⟨x,p,(dI x).1.length⟩::iJ l (p+(dI x).1.length):=rfl;have hl:(bU (x::l)).length=(dI x).1.length+(bU l).length:=by
   show ((dI x).1++bU l).length=_;rw [aay]
  rw [hf];by_cases i:a<p+(dI x).1.length
  ·have b:∀ f∈iJ l (p+(dI x).1.length),uM a f=false:=λf c=>by
    have:=aB.abb l _ c;unfold uM;rw [aes (by omega:¬ f.aP<=a)];rfl
   have d:uM a ⟨x,p,(dI x).1.length⟩=true:=by
    unfold uM;rw [aiC h1,aiC i];rfl
   refine ⟨[],x,l,rfl,?_,λy=>?_⟩
   ·rw [anT,abB (by rw [d];decide),avV.2 λf c=>by rw [b f c];rfl,zX];rfl
   ·rw [awu,abL d];generalize iJ l (p+(dI x).1.length)=L at b
    induction L with
    |nil=>rfl
    |cons g L j=>
     rw [awu,abB (by rw [b g (.head _)];decide)];exact j λf c=>b f (.tail _ c)
  ·obtain ⟨u,z,v,m,n,o⟩:=ahx l (p+(dI x).1.length) a oQ oQ;have d:uM a ⟨x,p,(dI x).1.length⟩=false:=by
    unfold uM;rw [aes i,Bool.and_false]
   refine ⟨x::u,z,v,by rw [m];rfl,?_,λy=>?_⟩
   ·rw [anT,abL (by rw [d];rfl),aij,n];rfl
   ·rw [awu];exact o _
end Go.ay
namespace Go
open Go
theorem Vm(h:A:=by
 obtain ⟨_,_,_,he,hl2,_⟩:=au.rd nJ;cases he;rw [aay,lK (k:=36) (λy _=>Jl y),Jl]at hl2;omega):A:=h
end Go
namespace Go.aB
open Go.aG
open Go.ay (Bs aT bU gV iJ)
open Go.aJ
section
variable {D D1 D2:List (Nat×List aT)}{R:List (Nat×Bs)}{last:Int}{k:Nat}{es u v:List aT}{x:aT}{c:Bs}
theorem aoK (A B:List (Nat×Bs)):left last (A++B)=left last A++left last B:=by
 unfold left;rw [aof,aof,acy]
theorem adf (hl:∀ d∈D,(d.1:Int)<=last) (hg:∀ d∈D,∀ x∈d.2,gV x):left last (mF D)=D:=by
 induction D with
 |nil=>rfl
 |cons d D ih=>
  have e:mF (d::D)=(d.1,dL++bU d.2)::mF D:=rfl;obtain ⟨b1,b2⟩:=Ep (hg d (.head _));rw [e,ade,abL ⟨hl d (.head _),by unfold wG;rw [b1];rfl⟩,ih (λy hy=>hl y (.tail _ hy)) λy hy=>hg y (.tail _ hy)];simp only;rw [b2];rfl
def qZ (D1:List (Nat×List aT)) (k:Nat) (c:Bs) (D2:List (Nat×List aT)):List (Nat×Bs):=mF D1++(k,c)::mF D2
def qV (D1:List (Nat×List aT)) (k:Nat) (es:List aT) (D2:List (Nat×List aT)):List (Nat×List aT):=D1++(if es=[] then [] else [(k,es)])++D2
theorem aoM (f:lH c=true) (e:∀ d∈D1++(k,es)::D2,(d.1:Int)<=last) (hg:∀ d∈D1++(k,es)::D2,∀ x∈d.2,gV x):left last (qZ D1 k c D2)=qV D1 k (jG c) D2:=by
 unfold qZ qV;rw [aoK,ade,adf (λd hd=>e d (ajm _ hd)) λd hd=>hg d (ajm _ hd),adf (λd hd=>e d (ake _ (.tail _ hd))) λd hd=>hg d (ake _ (.tail _ hd)),ab6]
 congr 2
 have b:=e (k,es) yD0;have a:wG (k,c) = !(jG c).isEmpty:=by unfold wG;rw [f];rfl
 rw [a];cases hs:jG c with
 |nil=>rw [abB (λq=>by cases q.2),abL rfl]
 |cons y l=>rw [abL ⟨b,rfl⟩,abB (λq=>by cases q)]
theorem aaP:iP (qV D1 k es D2)=iP D1++es++iP D2:=by
 unfold qV;rw [Gx,Gx]
 congr 2
 split
 ·rename_i h;rw [h];rfl
 ·unfold iP;simp
theorem S9:iP (D1++(k,es)::D2)=iP D1++es++iP D2:=by
 rw [Gx,ab6]
 congr 1
theorem aoR (he:es=u++x::v){q:Bs} (h:x.dB=2\/x.key≠q):l7 (iP (qV D1 k (u++v) D2)) q=l7 (iP (D1++(k,es)::D2)) q:=by
 rw [aaP,S9,he];have e1:iP D1++(u++x::v)++iP D2=(iP D1++u)++x::(v++iP D2):=by simp
 have e2:iP D1++(u++v)++iP D2=(iP D1++u)++(v++iP D2):=by simp
 rw [e1,e2,apV h]
theorem acY (hl:∀ d∈R,(d.1:Int)<=last):o8 last R=last:=by
 obtain ⟨a1,_,a3⟩:=Ug R last;rcases a3 with q|⟨d,hd,_,q⟩
 ·exact q
 ·have:=hl d hd;omega
theorem amE (d:lH c=true) (f:Int):qR f (qZ D1 k c D2)≠[]:=λe=>by
 unfold qR at e;have a:=(List.append_eq_nil_iff.1 (List.append_eq_nil_iff.1 e).1).1;unfold og at a;have b:=List.map_eq_nil_iff.1 a;rw [List.filter_eq_nil_iff]at b;exact b (k,c) (by unfold qZ;simp) d
end
section
variable {K r E B n:Nat}{L:aS}{M:aG}{D1 D2:List (Nat×List aT)}{k:Nat}{es:List aT}{s t:ByteArray}{b:Bs}
theorem gU.gW (h:gU K r M) (s:ByteArray) (i:Int) (y:UInt8):gU (K+1) r (M.gW s i y).1:=by
 have⟨d,a⟩:=Fg M s i y;refine ⟨h.ok.gW s i y,h.fE.gW s i y,?_,?_,a.trans h.room⟩
 ·unfold xX;rw [d];exact h.dst
 ·rw [a];by_cases b:∃ j,At M s i j
  ·have⟨j,c⟩:=b;rw [c.gW,aic h.ok c];exact h.cO
  ·rw [PI b];exact h.cO
theorem auL (h:gU K r M) (s:ByteArray) (i:Int) (y:UInt8):(M.gW s i y).1.cO=M.cO:=by
 by_cases ha:∃ j,At M s i j
 ·obtain ⟨j,hj⟩:=ha;rw [hj.gW,aic h.ok hj]
 ·rw [PI ha]
theorem VY (h:gU K r M) (ha:M.all s=(b,0)){i:Nat} (hi:i<b.length) (y:UInt8):(M.gW s i y).1.all s=(iE b i y,0)/\∀ t,t≠s->(M.gW s i y).1.all t=M.all t:=by
 obtain ⟨j,a⟩:=(aH.yh h.fE).1 (show (M.all s).2=0 by rw [ha]);have g:(M.file j).aN=b:=by
  have:=sN h.fE a;rw [ha]at this;exact (aiX Prod.fst this).symm
 have f:At M s i j:=⟨a,by omega,by rw [g];omega⟩;have c:=h.ok.jR.qG _ (lZ a);have d:=h.fE.gW s i y;rw [f.gW]at d ⊢;refine ⟨?_,λt l=>?_⟩
 ·rw [sN d a,Df c,abL rfl,dw.Fg,g]
  rfl
 ·cases hn:dN M.aN t with
  |none=>rw [zi d hn,zi h.fE hn]
  |some u=>
   have m:u≠j:=λe=>by
    have:=apG h.dst (lZ hn) (lZ a) e;exact l (aiX Prod.fst this)
   rw [sN d hn,sN h.fE hn,Df c,abB m]
theorem arK {N:Int}{a:List (Bs×bT)}{us:List gX} (h:gU K r M) (hf:HF M N a us) (d:M.all s=(b,0)){i:Nat} (hi:i<b.length) (y:UInt8) (e:aH.name aH.gY N≠s) (f:aH.name aH.kJ N≠s):HF (M.gW s i y).1 N a us:=by
 obtain ⟨_,c⟩:=VY h d hi y;exact ⟨(c _ e).trans hf.yS,(c _ f).trans hf.KL,λp g=>hf.bD p (by rw [<-(Fg M s i y).1];exact g)⟩
theorem jD.arH (h:jD K r E B n L M (D1++(k,es)::D2)) (hn:n<=1000){i:Nat} (hi:i<(dL++bU es).length) (y:UInt8) (hm:n<=999) :
  HW (K+1) r (n+E) (n*400+B) n (M.gW (name k) i y).1 (qZ D1 k (iE (dL++bU es) i y) D2):=by
 have l:=h.hd.fD.dV;have c:=h.hd.file (k,es) yD0;have⟨v,w⟩:=VY l c hi y;have⟨o,_⟩:=Fg M (name k) i y;have s:=h.hd.jA;have f:=h.hd.lim (k,es) yD0;simp only at f c;have b:∀ d∈qZ D1 k (iE (dL++bU es) i y) D2,d=(k,iE (dL++bU es) i y)\/∃ e∈D1++(k,es)::D2,d=(e.1,dL++bU e.2)/\e.1≠k:=λd hd=>by
  have⟨p1,p2,p3⟩:=ajJ.1 s;unfold qZ at hd;rcases ahc.1 hd with q|q
  ·obtain ⟨e,a,rfl⟩:=abI.1 q;exact .inr ⟨e,ajm _ a,rfl,by have:=p3 e a (k,es) (.head _);simp only at this;omega⟩
  ·rcases ab9.1 q with q|q
   ·exact .inl q
   ·obtain ⟨e,a,rfl⟩:=abI.1 q;exact .inr ⟨e,ake _ (.tail _ a),rfl,by have:=(ajk.1 p2).1 e a;simp only at this;omega⟩
 refine ⟨gU.gW l _ _ _,?_,λd hd=>?_,λd hd=>?_,by rw [auL l];exact h.hd.cO,by rw [o];exact h.hd.ku,λq j x t=>?_⟩
 ·have z:(qZ D1 k (iE (dL++bU es) i y) D2).map (·.1)=(D1++(k,es)::D2).map (·.1):=by
   unfold qZ mF;simp only [acy,aij,ajr]
   rfl
  have u:=akC.2 s;rw [<-z]at u;exact akC.1 u
 ·rcases b d hd with rfl|⟨e,a,rfl,_⟩
  ·exact f
  ·exact h.hd.lim e a
 ·rcases b d hd with rfl|⟨e,a,rfl,m⟩
  ·exact v
  ·have:=h.hd.lim e a;rw [w _ (EU oQ oQ m)];exact h.hd.file e a
 ·rw [o]at t;obtain ⟨e,a,g⟩:=h.hd.rX q j x t;rcases ahc.1 a with p|p
  ·exact ⟨(e.1,dL++bU e.2),by unfold qZ;exact ajm _ (abI.2 ⟨e,p,rfl⟩),g⟩
  ·rcases ab9.1 p with p|p
   ·exact ⟨(k,iE (dL++bU es) i y),by unfold qZ;simp,by rw [p]at g;exact g⟩
   ·exact ⟨(e.1,dL++bU e.2),by unfold qZ;exact ake _ (.tail _ (abI.2 ⟨e,p,rfl⟩)),g⟩
end
section
variable {K r E B n:Nat}{L:aS}{M:aG}{D D1 D2:List (Nat×List aT)}{k:Nat}{es u v:List aT}{x:aT}{c:Bs}{N:Int}{pl:List (Bs×bT)}{us:List gX}
theorem oJ.mono (h:oJ K r E B n L M D){K' E' B' b:Nat} (c:K<=K') (d:E<=E') (e:B<=B') (a:n<=b):oJ K' r E' B' b L M D:=⟨h.hd.mono c d e a,abQ h.rE a,h.qK,λq=>h.uV (abQ a q)⟩
theorem oJ.jO (h:oJ K r E B n L M D) (hn:n<1000) (f:M.cO+400<=M.room) (g:M.aN.length<500) :
  (L.jO M).2.2=0/\∃ e,oJ (K+5) r E B (n+1) (L.jO M).1.1 (L.jO M).1.2 e/\iP e=iP D++[gq]/\vg e:=by
 obtain ⟨a,c,d,b⟩:=h.hd.jO hn (.inr ⟨f,g⟩);have he:=Tc h.hd gq;refine ⟨a,_,⟨b,?_,ahv h.qK (aH.Um L M),?_⟩,he,(SQ _ D).1⟩
 ·rw [he,aay,ai8];have:=h.rE;omega
 ·rw [he];exact λ_=>Xf (h.uV oQ) aU
theorem SN:∀ {l:List aT},(∀ x∈l,gV x/\x.data.length<=300)->(bU l).length<=341*l.length
 |[],_=>acn _
 |x::l,h=>by
  have a:=h x (.head _);have b:=aaJ a.1.1 a.1.2 a.2;have c:=SN λy hy=>h y (.tail _ hy);exact af0
theorem agn:∀ {D:List (Nat×List aT)},(∀ d∈D,∀ x∈d.2,gV x/\x.data.length<=300)->((mF D).map λd=>8+d.2.length).sum<=16*D.length+341*(iP D).length
 |[],_=>acn _
 |d::D,h=>by
  have h1:=SN (h d (.head _));have ih:=agn λy hy=>h y (.tail _ hy);have e1:mF (d::D)=(d.1,dL++bU d.2)::mF D:=rfl;have e2:iP (d::D)=d.2++iP D:=rfl;have hm:dL.length=8:=rfl;rw [e1,aij,avE,e2,aay,aiT,aay];omega
theorem aq0 (hc:c.length=(dL++bU es).length):((qZ D1 k c D2).map λd=>8+d.2.length).sum=((mF (D1++(k,es)::D2)).map λd=>8+d.2.length).sum:=by
 unfold qZ mF;simp only [acy,aij,List.sum_append,avE,ajr];rw [hc]
theorem aqZ:(qZ D1 k c D2).length=(D1++(k,es)::D2).length:=by
 unfold qZ mF;simp
theorem adg {d:Nat×List aT} (hd:d∈qV D1 k (u++v) D2):d∈D1\/d∈D2\/(d=(k,u++v)/\u++v≠[]):=by
 unfold qV at hd;rcases ahc.1 hd with q|q
 ·rcases ahc.1 q with q|q
  ·exact .inl q
  ·split at q
   ·cases q
   ·rename_i hne;exact .inr (.inr ⟨acS.1 q,hne⟩)
 ·exact .inr (.inl q)
theorem adh (hes:es=u++x::v){d:Nat×List aT} (hd:d∈qV D1 k (u++v) D2):∃ e∈D1++(k,es)::D2,e.1=d.1/\∀ y∈d.2,y∈e.2:=by
 rcases adg hd with q|q|⟨rfl,_⟩
 ·exact ⟨d,ajm _ q,rfl,λy hy=>hy⟩
 ·exact ⟨d,ake _ (.tail _ q),rfl,λy hy=>hy⟩
 ·exact ⟨(k,es),by simp,rfl,λy hy=>by
   rw [hes];rcases ahc.1 hy with q|q
   ·exact ajm _ q
   ·exact ake _ (.tail _ q)⟩
theorem aqB (h:jD K 1048576 E B n L M (D1++(k,es)::D2)) (hn:n<=45) (hE:E<=130) (hB:B<=70000) (hf:HF M (eP (D1++(k,es)::D2)) pl us){i:Nat} (hi:i<(dL++bU es).length) (y:UInt8)
  (hc:lH (iE (dL++bU es) i y)=true) (hs:jG (iE (dL++bU es) i y)=u++v) (hes:es=u++x::v) (limit:Int) (l1:128<=limit) (l2:limit<=1048576) :
  ∃ q M2 Dn,Ee (K+1) (K+1000) 440 150000 (M.gW (name k) i y).1 (qZ D1 k (iE (dL++bU es) i y) D2) (eP (D1++(k,es)::D2)) limit q M2 Dn/\∀ z,l7 (iP Dn) z=l7 (iP (qV D1 k (u++v) D2)) z:=by
 have C:=h.arH oQ hi y oQ;have j:∀ d∈D1++(k,es)::D2,∀ x∈d.2,gV x/\x.data.length<=300:=λd hd x P=>⟨(h.hd.dW d hd).1 x P,h.uV oQ x (aob.2 ⟨d,hd,P⟩)⟩;have Q:∀ d∈D1++(k,es)::D2,∀ x∈d.2,gV x:=λd hd x P=>(j d hd x P).1;have af:=h.hd.count;have s:=h.rE;have R:=agn j;rw [<-aq0 (c:=iE (dL++bU es) i y) (k:=k) (IV _ _ _)]at R;have b:=aqZ (c:=iE (dL++bU es) i y) (D1:=D1) (D2:=D2) (k:=k) (es:=es);have o:∀ d∈D1++(k,es)::D2,(d.1:Int)<=eP (D1++(k,es)::D2):=λd hd=>Oc h.hd.jA hd;have ag:=h.hd.Dl;have F:=JJ (D:=D1++(k,es)::D2) yD0;have S:∀ T:Int,name T≠aH.name aH.gY (eP (D1++(k,es)::D2))/\name T≠aH.name aH.kJ (eP (D1++(k,es)::D2)):=λT=>⟨aH.WM T _ F oQ,aH.WO T _ F oQ⟩;have Z:=arK h.hd.fD.dV hf (h.hd.file (k,es) yD0) hi y (S k).1.symm (S k).2.symm;have t:=Z.iC C.dV.fE F oQ
 have w:∀ d∈qZ D1 k (iE (dL++bU es) i y) D2,(d.1:Int)<=eP (D1++(k,es)::D2):=λd hd=>by
  unfold qZ at hd;rcases ahc.1 hd with q|q
  ·obtain ⟨e,r,rfl⟩:=abI.1 q;exact o e (ajm _ r)
  ·rcases ab9.1 q with q|q
   ·rw [q];exact o (k,es) yD0
   ·obtain ⟨e,r,rfl⟩:=abI.1 q;exact o e (ake _ (.tail _ r))
 obtain ⟨a1,A,a3,_⟩:=HW.lT C oQ yX0 oQ (eP (D1++(k,es)::D2));have G:=amE (D1:=D1) (k:=k) (D2:=D2) hc (aH.iC (M.gW (name k) i y).1);have H:=aoM (last:=eP (D1++(k,es)::D2)) hc o Q;rw [hs]at H;rw [H]at A;have I:∀ p∈(M.gW (name k) i y).1.aN,p.1.size<=24:=λp hp=>h.qK p (by rw [<-(Fg M (name k) i y).1];exact hp);have U:=ahv I a3;have J:∀ d∈qV D1 k (u++v) D2,(∀ x∈d.2,gV x)/\d.2≠[]:=λd hd=>by
  obtain ⟨e,r,_,N⟩:=adh hes hd;refine ⟨λx P=>Q e r x (N x P),?_⟩;rcases adg hd with q|q|⟨rfl,q⟩
  ·exact (h.hd.dW d (ajm _ q)).2 oQ
  ·exact (h.hd.dW d (ake _ (.tail _ q))).2 oQ
  ·exact q
 have aa:(iP (qV D1 k (u++v) D2)).length<=n:=by
  rw [aaP];rw [S9,hes]at s;simp only [aay,aiT]at s ⊢;omega
 have l:oJ (K+1+7*n) 1048576 (n+E+n) (n*400+B+357*n) n (aB.dK (aB.lT (eP (D1++(k,es)::D2)) (qZ D1 k (iE (dL++bU es) i y) D2) (M.gW (name k) i y).1).1 limit) (aB.lT (eP (D1++(k,es)::D2)) (qZ D1 k (iE (dL++bU es) i y) D2) (M.gW (name k) i y).1).1 (qV D1 k (u++v) D2):=by
  have ab:=A.mono (K':=K+1+7*n) (E':=n+E+n) (B':=n*400+B+357*n) yX0 yX0 oQ;refine ⟨ab.hd oQ (λ_ d hd=>(J d hd).2) (λd hd=>(J d hd).1) limit l1 l2,aa,U,λ_ z hz=>?_⟩;obtain ⟨d,hd,hz⟩:=aob.1 hz;obtain ⟨e,r,_,N⟩:=adh hes hd;exact (j e r z (N z hz)).2
 clear H;generalize f:(aB.lT (eP (D1++(k,es)::D2)) (qZ D1 k (iE (dL++bU es) i y) D2) (M.gW (name k) i y).1).1=W at *
 have m:=C.bytes oQ limit l1 l2;have a:(aB.dK W limit).aX=(mF (qV D1 k (u++v) D2)).map (λd=>(d.1:Int))/\(∀ d∈mF (qV D1 k (u++v) D2),(aB.dK W limit).bytes W (d.1:Int)=(d.2,0))/\(mF (qV D1 k (u++v) D2)).length<=1000:=by
  refine ⟨by rw [l.hd.aX];unfold mF;rw [ajr];rfl,λy hy=>?_,by unfold mF;rw [abl];exact abQ l.hd.count oQ⟩;obtain ⟨d,hd,rfl⟩:=abI.1 hy;exact l.hd.bytes hd
 have g:∀ d,(mF (qV D1 k (u++v) D2)).getLast?=some d->∃ e,(qV D1 k (u++v) D2).getLast?=some e/\mJ (jG d.2)=mJ e.2:=λd hd=>by
  unfold mF at hd;rw [asq]at hd;cases hg:(qV D1 k (u++v) D2).getLast? with
  |none=>rw [hg]at hd;cases hd
  |some e=>
   rw [hg]at hd;cases hd;exact ⟨e,rfl,by simp only;rw [(Ep (J e (aju hg)).1).2]⟩
 have hh:qR (aH.iC (M.gW (name k) i y).1) (qZ D1 k (iE (dL++bU es) i y) D2)=[]->False:=G;by_cases X:∀ d,(qV D1 k (u++v) D2).getLast?=some d->mJ d.2=true
 ·refine ⟨true,W,qV D1 k (u++v) D2,⟨C.dV,I,m,by rw [b];omega,λd hd=>by have:=C.lim d hd;omega,by rw [t];exact acY w,a1,?_,⟨_,by rw [f];exact a.1,by rw [f];exact a.2.1,a.2.2,λd hd=>?_,λ_=>rfl⟩,⟨by rw [f];rfl,λe=>by cases e⟩,⟨_,l.mono oQ oQ oQ oQ⟩,?_,X,λe=>absurd e G⟩,λz=>rfl⟩
  ·rw [f];exact A.dV.mono yX0
  ·obtain ⟨e,Y,N⟩:=g d hd;rw [N];exact X e Y
  ·have:=A.ku;rw [b]at this;omega
 ·have ac:∃ d,(qV D1 k (u++v) D2).getLast?=some d/\mJ d.2=false:=by
   cases hg:(qV D1 k (u++v) D2).getLast? with
   |none=>exact absurd (λd hd=>by rw [hg]at hd;cases hd) X
   |some d=>exact ⟨d,rfl,by
     cases r:mJ d.2 with
     |false=>rfl
     |true=>exact absurd (λd' V=>by rw [hg]at V;cases V;exact r) X⟩
  obtain ⟨d0,O,ad⟩:=ac;have ah:=A.cO;have ae:=A.ku;rw [b]at ae;obtain ⟨z1,Dn,z2,z3,z4⟩:=l.jO oQ (by rw [A.dV.room];omega) oQ;refine ⟨false,_,Dn,⟨C.dV,I,m,by rw [b];omega,λd hd=>by have:=C.lim d hd;omega,by rw [t];exact acY w,a1,?_,⟨_,by rw [f];exact a.1,by rw [f];exact a.2.1,a.2.2,λd hd=>?_,λe=>?_⟩,⟨by rw [f];rfl,λ_=>by rw [f];exact z1⟩,⟨_,z2.mono oQ oQ oQ oQ⟩,?_,z4,λe=>absurd e G⟩,λz=>?_⟩
  ·rw [f];exact A.dV.mono yX0
  ·obtain ⟨e,Y,N⟩:=g d hd;rw [O]at Y;cases Y;rw [N];exact ad
  ·have:qV D1 k (u++v) D2=[]:=List.map_eq_nil_iff.1 e;rw [this]at O;cases O
  ·have:=z2.hd.ku;omega
  ·rw [z3,aeg rfl]
end
end Go.aB
namespace Go.Proofs.Y
open Go.aG
section
variable {D:List (Nat×List ay.aT)}{pc:Int}{pl:List (ay.Bs×aB.bT)}{o:ay.Bs->Option ay.Bs}
theorem amI (hR:aB.jD K r0 E B n L M D) (hn:n<=1000) (hst:aB.uF D N us pl) (hh:aB.NF M\/D≠[]/\aB.HF M N pl us) (hH:Ro w0 F iO) (h:au w0 w (bC p m L::aV m M::F)) :
  Calls prog 48 #[aW p,aW m] w (bf λv w'=>Ru w0 p m n L M D F v w'):=by
 have y:=hR.hd.fD.lD;have hM:=hR.hd.fD.dV.ok;have j:=hR.hd.fD.dV.fE;obtain rfl:N=aB.eP D:=hst.last;have Q:=hR.hd.Dl;obtain ⟨t,_,_⟩:=hR.hd.last hst.pU
 have l:=uQ (show ∀ f∈M.list,f.size<=4000000000 from λf hf=>by
  rw [j.list]at hf;obtain ⟨x,hx,rfl⟩:=abI.1 hf;exact abQ (hR.qK x hx) aU)
 have b:=uQ (λ(w':World) (R:List aO) (hr:Ro w0 R iO) (S:au w0 w' (bC p m L::aV m M::R))=>asr hR hn hst.pU hr S);have J:=KD hM j.off;have HM:=uQ hM;have HL:=uQ y;have HH:=uQ hH;have o:(D=[]/\(aB.eP D) = -1/\aH.iC M = -1)\/(0<=(aB.eP D)/\aH.iC M = -1/\aH.there M (aH.name aH.gY (aB.eP D))=false)\/(0<=(aB.eP D)/\aH.iC M=(aB.eP D)/\D≠[]/\aB.HF M (aB.eP D) pl us):=by
  by_cases c:D=[]
  ·rcases hh with e|⟨e,_⟩
   ·exact .inl ⟨c,by rw [c];rfl,e.iC j⟩
   ·exact absurd c e
  ·have aa:=aB.JJ c;rcases hh with e|⟨_,e⟩
   ·exact .inr (.inl ⟨by omega,e.iC j,e.there j oQ oQ⟩)
   ·exact .inr (.inr ⟨by omega,e.iC j oQ oQ,c,e⟩)
 rcases o with ⟨_,T,z⟩|⟨U,z,O⟩|⟨U,z,O,u⟩
 ·clear hR hst hh y hM hH Q J;go_enter func48,ntmps48;go_wp2_with (with_reducible apply jd);refine Vr ?_;intro b5 w5 h5 hla;rw [show aJ.xG (gJ L M) L.aX=(-1,0) from t.trans (by rw [T])]at hla;clear h h5 t;go_wp2_with fail;refine hla.mono ?_;rintro ee C ⟨v,rfl,rfl,g⟩;have a:=JW HM.o l.o (g.sb:au w0 C (aV m M::bC p m L::pt b5 (.cells (iF aJ.gI.zero) 36 (0,0))::F));rw [z]at a;clear hla;go_wp2_with fail;refine a.mono ?_;rintro ee P ⟨v,rfl,rfl,i⟩;have EK:=b.o P (pt b5 (.cells (iF aJ.gI.zero) 36 (0,0))::F) (Ro.os HH.o) (i.sb);clear g i a;exact agf
 ·have u:¬ (aB.eP D) < -1:=oQ;have c5:decide ((aB.eP D) < -1)=false:=aes u;have c6:decide (0<=(aB.eP D))=true:=aiC U;clear hR hst hh y hM hH Q;go_enter func48,ntmps48;go_wp2_with (with_reducible apply jd);refine Vr ?_;intro b5 w5 h5 hla;rw [show aJ.xG (gJ L M) L.aX=((aB.eP D),0) from t]at hla;clear h h5 t;go_wp2_with fail;refine hla.mono ?_;rintro ee C ⟨v,rfl,rfl,g⟩;have a:=JW HM.o l.o (g.sb:au w0 C (aV m M::bC p m L::pt b5 (.cells (iF aJ.gI.zero) 36 (0,0))::F));rw [z]at a;clear hla;go_wp2_with fail;refine a.mono ?_;rintro ee P ⟨v,rfl,rfl,i⟩;have d:=TR (p:=p) (n:=aB.eP D) HM.o J (.inl O) i;clear g a;go_wp2_with fail;refine d.mono ?_;rintro ee w8 ⟨v,rfl,rfl,h8⟩;have EK:=b.o w8 (pt b5 (.cells (iF aJ.gI.zero) 36 (0,0))::F) (Ro.os HH.o) (h8.sb);clear i h8 d;exact agf
 ·obtain ⟨r,G⟩:=hR.Un hn hst O;obtain ⟨kv,V,k2,k3,k4⟩:=hst.kv;obtain ⟨t1,t2⟩:=u.there j;have s:=uQ (λ(w':World) (R:List aO) (S:au w0 w' (bC p m L::aV m M::R))=>ab2 y hM J t1 t2 pl r.key us r.gY r.Cb u.yS u.KL r.fC r.zB S);rw [r.tail]at s;have c6:decide (0<=(aB.eP D))=true:=aiC U;have Hx:=uQ (show aY.kE (aJ.lC (aB.ig D)) kv/\(∀ q∈kv,q.1.length=32)/\pl.length<=n/\kv.length<=n from ⟨V,k2,G,hR.Uh V⟩);have W:=uQ k3;have X:=uQ k4;clear hR hst hh y hM hH Q J r G V k2 k3 k4 t1 t2 O u b;go_enter func48,ntmps48;go_wp2_with (with_reducible apply jd);refine Vr ?_;intro b5 w5 h5 hla;rw [show aJ.xG (gJ L M) L.aX=((aB.eP D),0) from t]at hla;clear h h5 t;go_wp2_with fail;refine hla.mono ?_;rintro ee C ⟨v,rfl,rfl,g⟩;have a:=JW HM.o l.o (g.sb:au w0 C (aV m M::bC p m L::pt b5 (.cells (iF aJ.gI.zero) 36 (0,0))::F));rw [z]at a;clear hla;go_wp2_with fail
  refine a.mono ?_;rintro ee P ⟨v,rfl,rfl,i⟩;have d:=s.o P (pt b5 (.cells (iF aJ.gI.zero) 36 (0,0))::F) (i.sb);clear g i a s;go_wp2_with fail;refine d.mono ?_;rintro ee w8 ⟨v,rfl,ps,pi,uv,tv,rfl,h9⟩;obtain ⟨Y,tn,Z,rfl,H,_⟩:=au.rd (h9.pick (A:=aK 3 1 tv (dJ [])) mD);obtain rfl:tn=0:=by simpa [dJ] using H.symm
  have h10:au w0 w8 (pt b5 (.cells (iF aJ.gI.zero) 36 (0,0))::fB ps (aB.eP D) pi uv (.slice Y 0 Z)::bF pi (aY.jE pl) pl.length::aK 205 3 uv (us.flatMap dO)::bC p m L::aV m M::F):=h9.sb;clear h9 d H;go_wp2_with ((with_reducible refine eG ⟨?_⟩);refine jK (iF aJ.gI.zero) h10 aA aA aA eu aC aA ?_;intro sH h11);have I:au w0 sH (pt b5 (.cells (iF aJ.gI.zero) 36 (0,0))::fB ps (aB.eP D) pi uv (.slice Y 0 Z)::bF pi (aY.jE (aJ.jH kv)) pl.length::aK 205 3 uv (((aB.oP D).map (aJ.pI kv)).flatMap dO)::bC p m L::aV m M::F):=by
   rw [<-W.o,<-X.o];exact h11
  refine ⟨rfl,_,Dy rfl I aA bJ underlying36 rfl aC,_,rfl,ps,pi,uv,_,(kv,pl.length),rfl,⟨Y,Z,rfl⟩,Hx.o,I.drop⟩
end
structure Ye (K r0 E B0 n:Nat) (L:aB.aS) (M:aG) (D D2:List (Nat×List ay.aT)) (N:Int) (us:List aJ.gX) (B2:Nat):Prop where
 rp:aB.jD K r0 E B0 n L M D2
 yO:aB.xY L D2 D2
 row:∃ row,aB.ig D2=aB.ig D++[row]/\row.2.e=aB.gq
 aaO:aB.iP D2=aB.iP D++[aB.gq]
 len:B2<=n
 ext:aB.vF r0 E n B0 M D2 N us
section
variable {ps pn B0:Nat}{D D0:List (Nat×List ay.aT)}{N0:Int}{us0:List aJ.gX}{mp:ay.Bs->Option aB.bT}
theorem arX (hR:aB.jD K r0 E B0 n L M D) (hf:aB.xY L D D0) (hx:aB.vF r0 E n B0 M D0 N0 us0) (hn:n<=200) (hE:E<=200) (hK:K<=1048576) (hz:(L.append M aB.gq).2.2=0) (hH:Ro w0 F iO) (h:au w0 w (eH r m aZ p ps pn true::bF pn mp B::bC p m L::aV m M::F)) :
  Calls prog 66 #[aW r] w (bf λv w'=>∃ (ps' pi B2:Nat) (uv tv:Value) (N:Int) (us:List aJ.gX) (M3:aG) (D2:List (Nat×List ay.aT)) (b:Nat),v=dS 0/\Ye (K+605) r0 (E+2) (B0+b) (n+1) (L.jO M).1.1 M3 D D2 N us B2 /\
   au w0 w' (eH r m aZ p ps' pn false::fB ps' N pi uv tv::bF pi (aJ.jZ (aB.ig D2)) B2::aK 205 3 uv (us.flatMap dO)::bF pn mp B::bC p m (L.jO M).1.1::aV m M3::F)):=by
 obtain ⟨z1,D2,z3,z2,z4,z5,z6,z7,z8⟩:=hR.jO hf oQ hz;have y:=(hx.hn.BD (aH.Um L M)).mono (show N0<=aB.eP D2 from by obtain ⟨t,hs,_⟩:=hx.ex;rw [hs.last];exact z8);have ab:=uQ hx.cO;have z:=Ul (Ro.os hH) hR.hd.fD.lD hR.hd.fD.dV.ok oQ (h.sb:au w0 w (bC p m L::aV m M::eH r m aZ p ps pn true::bF pn mp B::F));generalize L.jO M=q at *
 obtain ⟨⟨g,u⟩,n2,e2⟩:=q;dsimp only at z z1 z2 z3 y ⊢;subst z1;have e5:w.cell? ⟨r,5,none⟩=some (.bool true):=h.dD 5 _ rfl;have A:w.cell? ⟨r,2,none⟩=some (.pointer (some ⟨p,0,none⟩)):=h.dD 2 _ rfl;have Q:=xM h;have c:=uQ z3;have Z2:=uQ z2;have Z4:=uQ z4;have Z5:=uQ z5;have Z6:=uQ z6;have Z7:=uQ z7;have R:=uQ y;have HH:=uQ hH;have C:=uQ hn;have HE:=uQ hE;have HK:=uQ hK;clear h hz hR hn hE hK hH hf hx y z2 z3 z4 z5 z6 z7 z8;go_enter func66,ntmps66;go_wp2_with fail;refine Q.mono ?_;rintro ee w1 ⟨v,rfl,rfl,rfl⟩;go_wp2_with fail;refine z.mono ?_;rintro ee w2 ⟨v,rfl,rfl,h2⟩;clear z Q e5 A;go_wp2_with (with_reducible apply eG);refine ⟨jI h2.sb aA aA aA eu dG aC aA ?_⟩;intro w3 h3;clear h2;have A:w3.cell? ⟨r,2,none⟩=some (.pointer (some ⟨p,0,none⟩)):=h3.dD 2 _ rfl;have HL:=uQ c.o.hd.fD.lD;have HC:=uQ c.o.hd.fD.dV
 have S:=Wv HL.o HC.o.ok (Ro.os HH.o) (abQ c.o.lK (by have:=C.o;omega)) c.o.Wi (h3.sb:au w0 w3 (bC p m g::aV m u::eH r m aZ p ps pn false::bF pn mp B::F));clear h3;go_wp2_with fail;refine S.mono ?_;rintro ee w5 ⟨v,rfl,ho⟩;clear S A;obtain ⟨_,a,i⟩:=c.o.hd.last Z6.o;replace a:aJ.run (gJ g u) g.aX=.inr g.aX.length:=a;unfold Bg at ho;rw [a]at ho;obtain ⟨ps',pi,uv,tv,av,kv,rfl,⟨f,G,H⟩,⟨⟨ta,tc,rfl⟩,ac⟩,P⟩:=ho;rw [ai0]at f H P;rw [show aJ.jP (gJ g u) g.aX=aB.ig D2 from c.o.hd.Fh]at f;rw [i,show aJ.tK (gJ g u) g.aX=aB.oP D2 from c.o.hd.Cb,auP]at P;clear ac;have T:D2.length<=n+1:=c.o.hd.count;have I:kv.length<=n+1:=abQ H c.o.lK;have J:=uQ (c.o.hd.zy f G);have U:=uQ (show aB.uF D2 (aB.eP D2) ((aB.oP D2).map (aJ.pI kv)) (aJ.jH kv) from ⟨rfl,⟨kv,f,G,rfl,rfl⟩,Z6.o⟩);have x:=uQ (aJ.aeB f)
 have V:=uQ (show (aJ.jH kv).length<=n+1 from abQ (by unfold aJ.jH;rw [abl];exact ak6 _ _) I);have W:=uQ I;have X:=uQ (show ((aB.oP D2).map (aJ.pI kv)).length<=n+1 by unfold aB.oP;rw [abl,abl];exact T);have ad:=uQ (show aY.kE (aY.jE (aJ.jH kv)) (aJ.jH kv) from aY.UE (aJ.OX f.jA))
 have HN:=uQ (show 0<=aB.eP D2/\aB.eP D2<1048576 by
  have h1:=c.o.hd.Dl;have h2:=C.o;refine ⟨?_,by omega⟩;unfold aB.eP;cases hq:D2.getLast? with
  |none=>exact absurd (ajF.1 hq) Z7.o
  |some d=>simp only;omega)
 clear a f G H i T I;generalize (aB.oP D2).map (aJ.pI kv)=us at *
 generalize kv.length=B2 at *
 generalize aJ.jH kv=t at *
 have Y:=uQ (aH.qP.gY J.o HL.o (by have:=V.o;have:=C.o;omega));have Z:=uQ (aH.qP.Cb J.o HL.o (by have:=X.o;have:=C.o;omega))
 have HB:=uQ (show (bH.jM Xx.sum bH.xH true (t.map aJ.mO)).length+(bH.jM Xx.sum bH.xI false (us.map aJ.mV)).length<=40+56*(n+1) by
  rw [bH.Gl rfl Y.o.row,bH.Gl rfl Z.o.row,abl,abl,show bH.nX true 3=44 from rfl,show bH.nX false 3=12 from rfl];have:=V.o;have:=X.o;omega)
 obtain ⟨N,hN⟩:∃ N,N=aB.eP D2:=⟨_,rfl⟩;rw [<-hN]at P HN U R;clear hN;go_wp2_with (with_reducible apply jd);refine ⟨iR uZ P rfl ?_⟩;intro ai w6 h6;clear P;go_wp2_with (with_reducible apply eG);refine ⟨jK (iF aJ.gI.zero) h6 aA aA aA eu aC aA ?_⟩;intro w7 h7;clear h6;go_wp2_with (with_reducible apply eG);refine ⟨jI (h7.sb:au w0 w7 (eH r m aZ p ps pn false::fB ps' N pi uv (.slice ta 0 tc)::bF pi (aY.jE t) B2::aK 205 3 uv (us.flatMap dO)::bF pn mp B::bC p m g::aV m u::F)) aA aA aA eu dG aC aA ?_⟩;intro w8 h8;clear h7;obtain ⟨j,o⟩:∃ j,j=bH.jM Xx.sum bH.xH true (t.map aJ.mO):=⟨_,rfl⟩;obtain ⟨l,s⟩:∃ l,l=bH.jM Xx.sum bH.xI false (us.map aJ.mV):=⟨_,rfl⟩;have hB:=HB.o;rw [<-o,<-s]at hB;obtain ⟨s1,s2,s5,s3⟩:=c.o.nO (by have:=C.o;have:=HE.o;omega) R.o HN.o.1 HN.o.2 j l
 have O:=acr HC.o.ok yN0 HN.o.1 HN.o.2 t ad.o (by have:=W.o;have:=C.o;omega) J.o.key us Y.o Z.o j l o s s3
  (h8.sb:au w0 w8 (fB ps' N pi uv (.slice ta 0 tc)::bF pi (aY.jE t) B2::aK 205 3 uv (us.flatMap dO)::aV m u::eH r m aZ p ps' pn false::bF pn mp B::bC p m g::F))
 have ae:w8.cell? ⟨r,0,none⟩=some (aW m):=h8.dD 0 _ rfl;have s4:=aH.WH (b1:=j) (b2:=l) c.o.hd.fD.dV c.o.tmp (by have:=c.o.hd.ku;have:=C.o;have:=HE.o;omega) HN.o.1 HN.o.2;have af:=c.o.hd.cO;generalize aH.nO u N j l=q at *
 obtain ⟨M3,e3⟩:=q;dsimp only at O s1 s2 s5
 have ag:=uQ (show j.length+l.length<=40+56*(n+1)/\((n+1)*400+B0+(j.length+l.length)<=r0->aB.HF M3 N t us) from ⟨hB,λaj=>by
  have hz:=s4.room oQ;have hd:=s4.done.resolve_right (by simp only at hz ⊢;omega);refine ⟨by rw [<-o];exact hd.2.1,by rw [<-s];exact hd.2.2,λp hp ah=>?_⟩;have:=s4.gB hz p hp;unfold aH.kU at this;rw [ah]at this;simpa using this⟩)
 have aa:=uQ (show Ye (K+605) r0 (E+2) (B0+(j.length+l.length)) (n+1) g M3 D D2 N us B2 from ⟨s1.mono oQ (abG _) oQ (abG _),Z2.o,Z4.o,Z5.o,W.o,by
  have h1:=ab.o;have h2:E*(20+28*n)<=E*(20+28*(n+1)):=Nat.mul_le_mul_left _ oQ;have h3:(E+2)*(20+28*(n+1))=E*(20+28*(n+1))+2*(20+28*(n+1)):=as3 ..;have h4:B0+(j.length+l.length)<=(E+2)*(20+28*(n+1)):=oQ;refine ⟨h4,s5,HN.o.2,t,U.o,λa1 a2 a3=>⟨λe=>absurd e Z7.o,λ_=>ag.o.2 ?_⟩⟩;have P:(E+2)*(20+28*(n+1))<=130*(20+28*200):=aqe a3 oQ;omega⟩)
 clear h8 s1 s3 s4 s5 af hB o s;go_wp2_with fail;refine O.mono ?_;rintro ee w9 ⟨v,rfl,rfl,h9⟩;clear O ae;rcases s2 with rfl|rfl
 ·go_wp2_with fail;go_ret;rw [x.o]at h9;exact ⟨_,rfl,ps',pi,B2,uv,_,N,us,M3,D2,_,rfl,aa.o,h9.sb⟩
 ·go_wp2_with fail;go_ret;rw [x.o]at h9;exact ⟨_,rfl,ps',pi,B2,uv,_,N,us,M3,D2,_,rfl,aa.o,h9.sb⟩
end
structure Gh (K r0 E B0 n:Nat) (L:aB.aS) (M:aG) (D D0:List (Nat×List ay.aT)) (o oc:ay.Bs->Option ay.Bs) (d:Bool) (B B2:Nat) (N:Int) (us:List aJ.gX):Prop where
 rp:aB.jD K r0 E B0 n L M D
 yO:aB.xY L D D0
 aN:o=aJ.l7 (aB.iP D)
 FP:oc=aJ.l7 (aB.iP D0)
 CW:d=false->D=D0
 b1:B<=n
 b2:B2<=n
 ext:aB.vF r0 E n B0 M D0 N us
def pO (w0:World) (r m:Nat) (aZ:Int) (K r0 E n:Nat) (o oc:ay.Bs->Option ay.Bs) (d:Bool) (F:List aO) (w:World):Prop:=
 ∃ (ps p pn pi B B2 B0:Nat) (uv tv:Value) (N:Int) (us:List aJ.gX) (L:aB.aS) (M:aG) (D D0:List (Nat×List ay.aT)),Gh K r0 E B0 n L M D D0 o oc d B B2 N us /\
  au w0 w (eH r m aZ p ps pn d::bF pn (aJ.jZ (aB.ig D)) B::bC p m L::aV m M::fB ps N pi uv tv::bF pi (aJ.jZ (aB.ig D0)) B2::aK 205 3 uv (us.flatMap dO)::F)
section
variable {o:ay.Bs->Option ay.Bs}{k:ay.Bs}
theorem Gh.mono {b:Nat}{L:aB.aS}{M:aG}{D c:List (Nat×List ay.aT)}{B B2 K' E' e:Nat}{N:Int}{us:List aJ.gX} (h:Gh K r0 E b n L M D c o oc d B B2 N us) (g:K<=K') (f:E<=E') (a:n<=e):Gh K' r0 E' b e L M D c o oc d B B2 N us:=
 ⟨h.rp.mono g f (abG _) a,h.yO,h.aN,h.FP,h.CW,abQ h.b1 a,abQ h.b2 a,h.ext.mono a f⟩
theorem pO.mono {K' E' k:Nat} (h:pO w0 r m aZ K r0 E n o oc d F w) (q:K<=K') (t:E<=E') (u:n<=k):pO w0 r m aZ K' r0 E' k o oc d F w:=by
 obtain ⟨a,p,b,c,B,e,f,g,i,N,j,L,M,D,l,hf,s⟩:=h;exact ⟨a,p,b,c,B,e,f,g,i,N,j,L,M,D,l,hf.mono q t u,s⟩
theorem Gh.grow {a:Nat}{L:aB.aS}{M:aG}{D b:List (Nat×List ay.aT)}{B B2 c:Nat}{N:Int}{us:List aJ.gX} (h:Gh K r0 E a n L M D b o oc d B B2 N us) (x:ay.aT) (hn:n<=c):aB.vF r0 E c a (L.append M x).1.2 b N us:=
 h.ext.apart (aB.aoA h.rp.hd.fD.dV L x) (aH.Ob L M x) hn
theorem alY (hn:n<=200) (T:E<=200) (U:K<=1048576) (Q:k.length=32) (data:ay.Bs) (da:Option Addr) (dc:Nat) (hd:Ro w0 F (bK 1 (.slice da data.length dc) (aI data))) (R:data.length<=300) (S:Ro w0 F iO) (h:pO w0 r m aZ K r0 E n o oc d F w) :
  Calls prog 64 #[aW r,.agg (aI k).toArray,.slice da data.length dc] w (bf λv w'=>(v=dS 0/\pO w0 r m aZ (K+4) r0 E (n+1) (aY.put o k data) oc true F w')\/(v=dS 11/\pO w0 r m aZ (K+4) r0 E n o oc d F w')):=by
 have⟨b,p,c,f,B,l,y,g,s,N,t,L,M,D,u,hf,z⟩:=h;have A:=aB.am0 Q data R;have H:=hf.rp.hd.ku;rcases hf.rp.hd.Ry oQ oQ A with i|i
 ·have⟨C,I,fr,J,row,O,G,P⟩:=hf.rp.yes hf.yO oQ Q R A i;have j:aY.put (aJ.jZ (aB.ig D)) k (L.append M ⟨0,k,data⟩).2.1=aJ.jZ (aB.ig C):=by
   rw [O,aJ.apK (by unfold aJ.iV;rw [G]),P];unfold aJ.kD;rw [G]
  refine (ar8 zN0 Q data da dc (Ro.os hd) oQ hf.rp.hd.fD.lD hf.rp.hd.fD.dV.ok oQ (Ro.os S) i (z.sb:au w0 w (eH r m aZ p b c d::bF c (aJ.jZ (aB.ig D)) B::bC p m L::aV m M::fB b N f g s::bF f (aJ.jZ (aB.ig u)) l::aK 205 3 g (t.flatMap dO)::F))).mono ?_;rintro e w' ⟨v,rfl,rfl,x⟩;rw [j]at x;refine ⟨_,rfl,.inl ⟨rfl,b,p,c,f,B+1,l,y,g,s,N,t,_,_,C,u,⟨I,fr,?_,hf.FP,λe=>(by cases e),by have:=hf.b1;omega,by have:=hf.b2;omega,hf.grow _ (akA _)⟩,x⟩⟩;rw [J,aJ.apU rfl,hf.aN]
 ·have a:(L.append M ⟨0,k,data⟩).2.2≠0:=by rw [i];decide
  refine (ar7 zN0 Q data da dc (Ro.os hd) oQ hf.rp.hd.fD.lD hf.rp.hd.fD.dV.ok oQ (Ro.os S) a (z.sb:au w0 w (eH r m aZ p b c d::bF c (aJ.jZ (aB.ig D)) B::bC p m L::aV m M::fB b N f g s::bF f (aJ.jZ (aB.ig u)) l::aK 205 3 g (t.flatMap dO)::F))).mono ?_;rintro e w' ⟨v,rfl,rfl,x⟩;rw [i];exact ⟨_,rfl,.inr ⟨rfl,b,p,c,f,B,l,y,g,s,N,t,_,_,D,u,⟨(hf.rp.no hf.yO Q a).1,(hf.rp.no hf.yO Q a).2,hf.aN,hf.FP,hf.CW,hf.b1,hf.b2,hf.grow _ (abG _)⟩,x⟩⟩
theorem alJ (hn:n<=200) (G:E<=200) (H:K<=1048576) (A:k.length=32) (C:Ro w0 F iO) (h:pO w0 r m aZ K r0 E n o oc d F w) :
  Calls prog 65 #[aW r,.agg (aI k).toArray] w (bf λv w'=>(v=dS 0/\pO w0 r m aZ (K+4) r0 E (n+1) (aY.qo o k) oc true F w')\/((v=dS 11\/v=dS 9)/\pO w0 r m aZ (K+4) r0 E n o oc d F w')):=by
 obtain ⟨ps,p,pn,pi,B,B2,g,uv,tv,N,us,L,M,D,D0,hf,hS⟩:=h;have i:=aB.amZ A;have t:=hf.rp.hd.ku;refine aft ?_;intro hS';cases hm:aJ.jZ (aB.ig D) k with
 |none=>
  refine (ar1 zN0 A hm hS').mono ?_;rintro e w' ⟨v,rfl,rfl,b⟩;exact ⟨_,rfl,.inr ⟨.inr rfl,ps,p,pn,pi,B,B2,g,uv,tv,N,us,_,_,D,D0,hf.mono oQ (abG _) (abG _),b⟩⟩
 |some j=>
  rcases hf.rp.hd.Ry oQ oQ i with c|c
  ·obtain ⟨l,u,fr,x,row,y,s,z⟩:=hf.rp.yes hf.yO oQ A (acn _) i c;have f:aY.qo (aJ.jZ (aB.ig D)) k=aJ.jZ (aB.ig l):=by
    rw [y,aJ.apJ (by unfold aJ.iV;rw [s])];unfold aJ.kD;rw [s]
   refine (ar2 zN0 A j hm hf.rp.hd.fD.lD hf.rp.hd.fD.dV.ok oQ (Ro.os C) c hS').mono ?_;rintro e w' ⟨v,rfl,rfl,b⟩;rw [f]at b;refine ⟨_,rfl,.inl ⟨rfl,ps,p,pn,pi,B,B2,g,uv,tv,N,us,_,_,l,D0,⟨u,fr,?_,hf.FP,λe=>(by cases e),by have:=hf.b1;omega,by have:=hf.b2;omega,hf.grow _ (akA _)⟩,b⟩⟩;rw [x,aJ.apT rfl,hf.aN]
  ·have a:(L.append M ⟨1,k,[]⟩).2.2≠0:=by rw [c];decide
   refine (ar0 zN0 A j hm hf.rp.hd.fD.lD hf.rp.hd.fD.dV.ok oQ (Ro.os C) a hS').mono ?_;rintro e w' ⟨v,rfl,rfl,b⟩;rw [c];exact ⟨_,rfl,.inr ⟨.inl rfl,ps,p,pn,pi,B,B2,g,uv,tv,N,us,_,_,D,D0,⟨(hf.rp.no hf.yO A a).1,(hf.rp.no hf.yO A a).2,hf.aN,hf.FP,hf.CW,hf.b1,hf.b2,hf.grow _ (abG _)⟩,b⟩⟩
theorem aao (hn:n<=199) (hE:E<=200) (hK:K<=1048576) (hH:Ro w0 F iO) (h:pO w0 r m aZ K r0 E n o oc d F w) :
  Calls prog 66 #[aW r] w (bf λv w'=>(v=dS 0/\pO w0 r m aZ (K+605) r0 (E+2) (n+1) o o false F w')\/(v=dS 11/\r0<n*400+E*(20+28*n)+400/\pO w0 r m aZ (K+605) r0 E n o oc d F w')):=by
 obtain ⟨ps,p,pn,pi,B,B2,s,uv,tv,N,us,L,M,D,D0,hf,hS⟩:=h;refine aft ?_;intro hS';have I:=hf.rp.hd.ku;cases d with
 |false=>
  refine (arW hS').mono ?_;rintro e w' ⟨v,rfl,rfl,rfl⟩;have t:o=oc:=by rw [hf.aN,hf.FP,hf.CW rfl]
  refine ⟨_,rfl,.inl ⟨rfl,?_⟩⟩;have b:pO w0 r m aZ K r0 E n o oc false F w:=⟨ps,p,pn,pi,B,B2,s,uv,tv,N,us,L,M,D,D0,hf,hS⟩;rw [<-t]at b;exact b.mono oQ oQ oQ
 |true=>
  rcases hf.rp.hd.Ry (x:=aB.gq) oQ oQ aA with j|j
  ·refine (arX hf.rp hf.yO hf.ext oQ hE hK j (Ro.os hH) hS').mono ?_;rintro e w' ⟨v,rfl,u,y,z,A,J,O,C,P,l,Q,rfl,c,b⟩;obtain ⟨row,R,S⟩:=c.row;have g:aJ.jZ (aB.ig D)=aJ.jZ (aB.ig l):=by
    rw [R,aJ.apH (by unfold aJ.iV;rw [S];rfl)]
   have f:o=aJ.l7 (aB.iP l):=by rw [c.aaO,aJ.aeg rfl,hf.aN]
   rw [g]at b;exact ⟨_,rfl,.inl ⟨rfl,u,p,pn,y,B,z,s+Q,A,_,O,C,_,P,l,l,⟨c.rp,c.yO,f,f,λ_=>rfl,by have:=hf.b1;omega,c.len,c.ext⟩,b.sb⟩⟩
  ·have a:(L.append M aB.gq).2.2≠0:=by rw [j];decide
   have i:L.jO M=((L.append M aB.gq).1,0,(L.append M aB.gq).2.2):=by unfold aB.aS.jO;rw [abL a]
   have H:(L.jO M).2.2=(L.append M aB.gq).2.2:=by rw [i]
   have T:(L.jO M).1=(L.append M aB.gq).1:=by rw [i]
   have G:r0<n*400+E*(20+28*n)+400:=by
    apply Classical.byContradiction;intro q;have U:=hf.rp.hd.cO;have V:=hf.rp.hd.fD.dV.room;have W:=hf.ext.cO;exact a (hf.rp.hd.append oQ aB.gq rfl aU aA (.inr ⟨by omega,by omega⟩)).1
   have c:(L.jO M).2.2≠0:=by rw [H];exact a
   refine (arY hf.rp.hd.fD.lD hf.rp.hd.fD.dV.ok oQ (Ro.os hH) c (hS'.sb:au w0 w (eH r m aZ p ps pn true::bC p m L::aV m M::bF pn (aJ.jZ (aB.ig D)) B::fB ps N pi uv tv::bF pi (aJ.jZ (aB.ig D0)) B2::aK 205 3 uv (us.flatMap dO)::F))).mono ?_;rintro e w' ⟨v,rfl,rfl,b⟩;rw [H,j];rw [T]at b;exact ⟨_,rfl,.inr ⟨rfl,G,ps,p,pn,pi,B,B2,s,uv,tv,N,us,_,_,D,D0,⟨(hf.rp.no hf.yO rfl a).1.mono oQ (abG _) (abG _) (abG _),(hf.rp.no hf.yO rfl a).2,hf.aN,hf.FP,hf.CW,hf.b1,hf.b2,hf.grow _ (abG _)⟩,b.sb⟩⟩
end
section
variable {R:List aO}{o:ay.Bs->Option ay.Bs}
theorem Ro.apX {F G:List aO}{X:World->Prop} (h:Ro w0 F X) (hs:∀ w,au w0 w G->au w0 w F):Ro w0 G X:=λw hw=>h w (hs w hw)
theorem aam:∀ (es:List QD) (i:Nat) (d:QD),es[i]?=some d->∃ G,zk es=fP (cZ d.dv d.c.data) G
 |[],_,_,h=>by cases h
 |x::es,0,d,h=>by
  obtain rfl:x=d:=by simpa using h
  exact ⟨_,rfl⟩
 |x::es,i+1,d,h=>by
  obtain ⟨G,hG⟩:=aam es i d yJ0;refine ⟨fP (cZ x.dv x.c.data) G,?_⟩;show fP (cZ x.dv x.c.data) (zk es)=_;rw [hG,zF]
theorem alG {es:List QD}{i:Nat}{d:QD} (h:es[i]?=some d):Ro w0 (zk es::R) (bK 1 d.dv (aI d.c.data)):=λw hw=>by
 obtain ⟨G,hG⟩:=aam es i d h;rw [hG]at hw;exact au.rd (au.fP.1 hw)
theorem aan:∀ (es:List PV) (i:Nat) (d:PV),es[i]?=some d->∃ G,lU es=fP (cZ d.2.2 d.2.1) G
 |[],_,_,h=>by cases h
 |x::es,0,d,h=>by
  obtain rfl:x=d:=by simpa using h
  exact ⟨_,rfl⟩
 |x::es,i+1,d,h=>by
  obtain ⟨G,hG⟩:=aan es i d yJ0;refine ⟨fP (cZ x.2.2 x.2.1) G,?_⟩;show fP (cZ x.2.2 x.2.1) (lU es)=_;rw [hG,zF]
theorem MZ {es:List PV}{q:PV} (h:q∈es):Ro w0 (lU es::R) (bK 1 q.2.2 (aI q.2.1)):=λw hw=>by
 obtain ⟨i,hi⟩:=avO h;obtain ⟨G,hG⟩:=aan es i q hi;rw [hG]at hw;exact au.rd (au.fP.1 hw)
theorem aqX {es:List QD}{v:Value} (hk:∀ d∈es,d.c.key.length=32) (h:au w0 w (aK 140 37 v (qw es)::R)):∃ a c,v=.slice a es.length c:=by
 obtain ⟨a,n,c,rfl,hl,hx⟩:=au.rd h;rw [Vf hk]at hl;obtain rfl:n=es.length:=oQ;exact ⟨a,c,rfl⟩
theorem amm {es ds:List QD}{n:Nat} (h:es.map (·.c)=aJ.Gy (ds.map (·.c)) n) (hk:∀ d∈ds,d.c.key.length=32):es.length<=n/\∀ d∈es,d.c.key.length=32/\d.c.data.length<=300:=by
 refine ⟨?_,λd hd=>?_⟩
 ·have:=aiX List.length h;unfold aJ.Gy at this;rw [abl,abl,abA]at this;omega
 ·have h1:d.c∈es.map (·.c):=abI.2 ⟨d,hd,rfl⟩;rw [h]at h1;unfold aJ.Gy at h1;obtain ⟨x,hx,e⟩:=abI.1 h1;obtain ⟨y,hy,rfl⟩:=abI.1 (ajq hx);rw [<-e];exact ⟨hk y hy,by show (y.c.data.take 200).length<=300;rw [abA];omega⟩
end
theorem atz {K:Nat}{M:aG} (h:M.Ok K) (ho:M.off=false):M.size ByteArray.empty=(0,9):=by
 exact ae9
abbrev RX (r m p ps pi pn:Nat) (uv:Value) (limit:Int) (M:aG) (F:List aO):List aO:=
 eH r m limit p ps pn false::fB ps (-1) pi uv (.slice none 0 0)::bF pn (λ_=>none) 0::bF pi (λ_=>none) 0::aK 205 3 uv []::bC p m ⟨limit,[],false,0⟩::aV m M::F
theorem arF {m K y:Nat}{M:aG}{limit:Int} (z:128<=limit) (A:limit<=1048576) (hM:aB.gU K y M) (B:K<=1048576) (q:M.aN=[]) (C:Ro w0 F iO) (h:au w0 w (aV m M::F)) :
  Calls prog 10 #[aW m,.int .i64 limit] w (bf λv w'=>∃ (r p ps t u:Nat) (x:Value),v=.tuple #[aW r,.agg (iF aJ.gI.zero),dS 0]/\aB.Rp K y 0 0 0 ⟨limit,[],false,0⟩ M []/\au w0 w' (RX r m p ps t u x limit M F)):=by
 have f:M.list=[]:=by rw [hM.fE.list,q];rfl
 have a:aB.dK M limit=⟨limit,[],false,0⟩:=by
  unfold aB.dK aB.qF;rw [f]
  rfl
 have l:aB.alive M=0:=by unfold aB.alive;rw [atz hM.ok hM.fE.off];rfl
 have n:M.cO=0:=by unfold aG.cO;rw [q];rfl
 refine (arE z A hM.ok B l (by rw [a];rfl) f C h).mono ?_;rintro e w' ⟨v,rfl,r,p,ps,t,u,x,rfl,g⟩;have b:=aB.yN hM.ok limit z A;rw [a]at g b;refine ⟨_,rfl,r,p,ps,t,u,x,rfl,⟨⟨⟨b,hM,λs o=>by cases o⟩,rfl,λk es c=>(by simp at c),λk es c=>(by simp at c),λes d=>(by cases d),abG _,by rw [n];omega,by rw [q];exact abG _,λk i c hi=>by rw [q]at hi;cases hi⟩,by rw [q];rfl,abG _,λp j=>(by rw [q]at j;cases j),λe d=>(by cases d)⟩,g.sb⟩
theorem Z9 (d:Nat×ay.Bs):∀ (R:List (Nat×ay.Bs)) (a:Int),aB.mZ a (R++[d])=if aB.lH d.2=false/\aJ.mJ (aB.jG d.2)=true then (d.1:Int) else aB.mZ a R
 |[],a=>rfl
 |x::R,a=>Z9 d R _
theorem acX (d:Nat×ay.Bs):∀ (R:List (Nat×ay.Bs)) (a:Int),aB.o8 a (R++[d])=if aJ.mJ (aB.jG d.2)=true then max (aB.o8 a R) (d.1:Int) else aB.o8 a R
 |[],a=>rfl
 |x::R,a=>acX d R _
section
variable {lc:Nat}{la:Option Addr}{y:Mp}{ys:List Mp}
theorem ET {i:Nat}{a:Option Addr}{n c:Nat} (h:bK 4 (.slice a n c) (ys.flatMap iy) w) (hi:ys[i]?=some y):∃ bk off,a=some ⟨bk,off,none⟩/\∀ j v,(iy y)[j]?=some v->w.cell? ⟨bk,off+i*4+j,none⟩=some v:=by
 obtain ⟨bk,off,c',e,hc⟩:=lV (λy _=>UH y) h hi aU;cases e;exact ⟨bk,off,rfl,hc⟩
theorem Tz (hy:xk y) (h:y.1.2.length<=16777216):y.2.1.length<=16777216:=by
 have h1:=aiX List.length (aB.Xc y.1.2);rw [<-hy.Tm,abl,abl]at h1;have h2:=aB.WB y.1.2;omega
theorem als (hlen:∀ d∈R,d.2.length<=16777216) (hn:R.length<=65536) (hR:ys.map (·.1)=R) (hok:∀ y∈ys,xk y) (hz:∀ y∈ys,zC y∈zs) (h:au w0 w (aK 189 4 (.slice la ys.length lc) (ys.flatMap iy)::jm zs::F)) :
  Calls prog 99 #[.slice la ys.length lc] w (bf λv w'=>v=.int .i64 (aB.mZ (-1) R)/\au w0 w' (aK 189 4 (.slice la ys.length lc) (ys.flatMap iy)::jm zs::F)):=by
 have r:=h;clear h;have c:=uQ hlen;have HR:=uQ hR;have fV:=uQ hok;have u:=uQ hz;have I9:=uQ (show ys.length<=65536 by have:=aiX List.length hR;rw [abl]at this;omega);clear hlen hn hR hok hz
 go_in
 go_wp2_with fail
 go_loopg [3,8] ys.length (λg x z wr=>∃ i:Nat,g=ys.length-i/\i<=ys.length/\x=.int .i64 (aB.mZ (-1) (R.take i))/\z=.int .i64 i/\au w0 wr (aK 189 4 (.slice la ys.length lc) (ys.flatMap iy)::jm zs::F))
 case atStart=>exact ⟨0,rfl,acn _,rfl,rfl,r⟩
 case round=>
  obtain ⟨i,rfl,hi,rfl,rfl,hS2⟩:=hrel;clear r;by_cases hlt:i<ys.length;rotate_left
  ·exact aeZ
  refine Px ?_;intro c1 hwi y hy;obtain ⟨bk,off,rfl,hcell⟩:=ET (au.rd hS2) hy;refine O4 ?_;intro hym jl;have A:=uQ (fV.o y hym);have B:=uQ (Tz (fV.o y hym) (c.o y.1 (by rw [<-HR.o];exact abI.2 ⟨y,hym,rfl⟩)));have m:=uQ (show Ro w0 (jm zs::aK 189 4 (.slice (some ⟨bk,off,none⟩) ys.length lc) (ys.flatMap iy)::F) (bK 36 y.2.2 (jw y.2.1)) from λw C=>MN (u.o y hym) C);have dP:=uQ hlt;obtain ⟨f,a⟩:∃ f,f=aB.mZ (-1) (R.take i):=⟨_,rfl⟩;have b:=uQ (show aB.mZ (-1) (R.take (i+1))=if aB.lH y.1.2=false/\aJ.mJ (aB.jG y.1.2)=true then (y.1.1:Int) else f by rw [jl.o,Z9,a]);rw [<-a];have s:=uQ (show aB.lH y.1.2=((ay.eF y.1.2).2.2 != 0) from rfl);refine Po ?_;intro hcl Hmy Iz IB hsv;clear hlt hi hy hym hcell a
  go_wp2_with (first
   |((with_reducible refine dH ⟨?_⟩);refine kQ (iy y) aA hcl underlying189 rfl aC ?_)
   |(with_reducible apply jd))
  refine ⟨iR FW hS2 rfl ?_⟩;intro b5 E h3;refine BJ ?_;refine J6 ?_;intro w4 h4;clear h3 hS2 hcl;have e3:w4.cell? ⟨b5,3,none⟩=some (.int .i64 (ay.eF y.1.2).2.2):=h4.bI bJ 3 rfl;have t:w4.cell? ⟨b5,0,none⟩=some (.int .i64 y.1.1):=h4.bI bJ 0 rfl;by_cases hz:(ay.eF y.1.2).2.2=0;rotate_left
  ·have n:=acj.2 hz;have rU:=uQ (show aB.mZ (-1) (R.take (i+1))=f by rw [b.o,abB];rw [s.o];simp [hz]);clear hz
   go_wp2_with (first
    |((with_reducible apply BU);refine ⟨?_⟩;refine BX aA ?_;refine kG h4 aA bJ underlying189 rfl aC ?_))
   go_roundg (ys.length-(i+1))
   case measure=>have:=dP.o;omega
   case rel=>exact ⟨i+1,rfl,dP.o,by rw [rU.o],by first|rfl|go_num,h4.drop⟩
  ·have n:=alj.2 hz;have o:=uQ (show aB.lH y.1.2=false by rw [s.o,hz];rfl);have l:=U4 A.o B.o (Ro.os m.out:Ro w0 (pt b5 (.cells (iy y).toArray 189 (0,0))::aK 189 4 (.slice (some ⟨bk,off,none⟩) ys.length lc) (ys.flatMap iy)::jm zs::F) _) h4;clear hz
   go_wp2_with (first
    |((with_reducible refine dH ⟨?_⟩);refine kG h4 aA bJ underlying189 rfl aC ?_)
    |((with_reducible apply BU);refine ⟨?_⟩;refine BX aA ?_;refine kG h4 aA bJ underlying189 rfl aC ?_))
   refine l.mono ?_;rintro e D ⟨v,rfl,rfl,h5⟩;clear h4 e3 t l;have t:D.cell? ⟨b5,0,none⟩=some (.int .i64 y.1.1):=h5.bI bJ 0 rfl;cases GN:aJ.mJ (aB.jG y.1.2) with
   |false=>
    have rU:=uQ (show aB.mZ (-1) (R.take (i+1))=f by rw [b.o,abB];rw [GN];simp);exact Pv
   |true=>
    have rU:=uQ (show aB.mZ (-1) (R.take (i+1))=(y.1.1:Int) by rw [b.o,abL ⟨o.o,GN⟩]);exact Pv
theorem aot (hM:M.Ok K) (hnm:∀ f∈M.list,f.size<=4000000000) (hlen:∀ d∈R,d.2.length<=16777216) (hn:R.length<=65536) (hR:ys.map (·.1)=R) (hok:∀ y∈ys,xk y) (hz:∀ y∈ys,zC y∈zs) (h:au w0 w (aK 189 4 (.slice la ys.length lc) (ys.flatMap iy)::jm zs::aV m M::F)) :
  Calls prog 104 #[.slice la ys.length lc,aW m] w (bf λv w'=>v=.int .i64 (aB.o8 (aH.iC M) R)/\au w0 w' (aK 189 4 (.slice la ys.length lc) (ys.flatMap iy)::jm zs::aV m M::F)):=by
 have a:=h;clear h;have l:=JW hM hnm a.sb;have HR:=uQ hR;have fV:=uQ hok;have z:=uQ hz;have I9:=uQ (show ys.length<=65536 by have:=aiX List.length hR;rw [abl]at this;omega);clear hn hR hok hz hM hnm a;generalize aH.iC M=o at *
 go_in
 go_wp2_with fail;refine l.mono ?_;rintro e A ⟨v,rfl,rfl,a⟩;clear l;replace a:au w0 A (aK 189 4 (.slice la ys.length lc) (ys.flatMap iy)::jm zs::aV m M::F):=a.sb;go_wp2_with fail
 go_loopg [5,12] ys.length (λg B C wr=>∃ i:Nat,g=ys.length-i/\i<=ys.length/\B=.int .i64 (aB.o8 o (R.take i))/\C=.int .i64 i/\au w0 wr (aK 189 4 (.slice la ys.length lc) (ys.flatMap iy)::jm zs::aV m M::F))
 case atStart=>exact ⟨0,rfl,acn _,rfl,rfl,a⟩
 case round=>
  obtain ⟨i,rfl,hi,rfl,rfl,hS2⟩:=hrel;clear a;by_cases hlt:i<ys.length;rotate_left
  ·exact aeZ
  refine Px ?_;intro c1 hwi y hy;obtain ⟨bk,off,rfl,hcell⟩:=ET (au.rd hS2) hy;refine O4 ?_;intro hym jl;have D:=uQ (fV.o y hym);have E:=uQ (Tz (fV.o y hym) (hlen y.1 (by rw [<-HR.o];exact abI.2 ⟨y,hym,rfl⟩)));have u:=uQ (show Ro w0 (jm zs::aK 189 4 (.slice (some ⟨bk,off,none⟩) ys.length lc) (ys.flatMap iy)::aV m M::F) (bK 36 y.2.2 (jw y.2.1)) from λw G=>MN (z.o y hym) G);have dP:=uQ hlt;obtain ⟨c,b⟩:∃ c,c=aB.o8 o (R.take i):=⟨_,rfl⟩;have r:=uQ (show aB.o8 o (R.take (i+1))=if aJ.mJ (aB.jG y.1.2)=true then max c y.1.1 else c by rw [jl.o,acX,b]);rw [<-b];refine Po ?_;intro hcl Hmy Iz IB hsv;clear hlt hi hy hym hcell b
  go_wp2_with (first
   |((with_reducible refine dH ⟨?_⟩);refine kQ (iy y) aA hcl underlying189 rfl aC ?_)
   |(with_reducible apply jd))
  refine ⟨iR FW hS2 rfl ?_⟩;intro x I h3;refine BJ ?_;refine J6 ?_;intro J t;clear h3 hS2 hcl;have s:=U4 D.o E.o (Ro.os u.out:Ro w0 (pt x (.cells (iy y).toArray 189 (0,0))::aK 189 4 (.slice (some ⟨bk,off,none⟩) ys.length lc) (ys.flatMap iy)::jm zs::aV m M::F) _) t
  go_wp2_with (first
   |((with_reducible refine dH ⟨?_⟩);refine kG t aA bJ underlying189 rfl aC ?_)
   |((with_reducible apply BU);refine ⟨?_⟩;refine BX aA ?_;refine kG t aA bJ underlying189 rfl aC ?_))
  refine s.mono ?_;rintro e H ⟨v,rfl,rfl,h5⟩;clear t s;have L:H.cell? ⟨x,0,none⟩=some (.int .i64 y.1.1):=h5.bI bJ 0 rfl;cases GN:aJ.mJ (aB.jG y.1.2) with
  |false=>
   have rU:=uQ (show aB.o8 o (R.take (i+1))=c by rw [r.o,abB];rw [GN];simp);exact Pv
  |true=>
   have rU:=uQ (show aB.o8 o (R.take (i+1))=max c y.1.1 by rw [r.o,abL GN]);exact Pv
end
end Go.Proofs.Y
