import Derived.Test.YtihngncbioofnaaGreatDoorJ14
import Derived.Test.YtihngncbioofnaaGreatDoorRows
import Derived.Test.YtihngncbioofnaaGreatDoorCards
import Derived.Test.YtihngncbioofnaaGreatDoorTie
import Derived.ProofKit
import Derived.LaidMore
import Derived.OpenShut
import Derived.ShutString
import Derived.SevenTiedAt
open Go.Proofs.Tryz
set_option maxRecDepth 100000
set_option linter.unusedVariables false
set_option linter.unusedSimpArgs false
set_option maxHeartbeats 128000000
open Go Go.Sl Go.MapKept Go.RowKit
open Go.Proofs.YtihngncbioofnaaGreatDoor
variable {w0 w:World}{F:List aG}
namespace Go.Proofs.Y
open Go.ay
theorem abB (q:PV){j:Nat}{v:Value} (h:(aA q.1)[j]?=some v):(kG q)[j]?=some v:=by
 unfold kG;rw [aej (abm.1 h).1];exact h
theorem abz (q:PV) (hk:q.1.length=32):(kG q)[32]?=some q.2.2:=by
 unfold kG;rw [aeh (by rw [aX];omega),aX,hk];rfl
theorem aj1 (x y:Operand) (k l:aj.Bs) (hk:k.length=32) (hl:l.length=32) (w:World):((do eqGuard .neq 50 x y (.agg (aA k).toArray) (.agg (aA l).toArray);binOp .neq 50 (.agg (aA k).toArray) (.agg (aA l).toArray)):Sem Value).run prog w=.ok (.bool (!decide (k=l))) w:=by
 have h:=aaz k l hk hl w;simp [eqGuard,ad1,h]
section
variable {av bv mv:Value}
theorem amH (ps qs:List PV) (he:ps.map AP=qs.map AP) (hp:∀ q∈ps,q.1.length=32) (ha:Ro w0 F (bF 33 av (ps.flatMap kG))) (hb:Ro w0 F (bF 33 bv (qs.flatMap kG))) (hda:∀ q∈ps,Ro w0 F (bF 1 q.2.2 (aA q.2.1))) (hdb:∀ q∈qs,Ro w0 F (bF 1 q.2.2 (aA q.2.1)))
  (hlen:ps.length<=1073741824) (hdl:∀ q∈ps,q.2.1.length<=1073741824) (h:Sat w0 w F) :
  Calls prog 20 #[av,bv] w (aP λv w'=>v=.bool true/\Sat w0 w' F):=by
 have hle:qs.length=ps.length:=by have:=aey List.length he;rw [aa4,aa4]at this;exact this.symm
 have hpq:∀ (i:Nat) (p q:PV),ps[i]?=some p->qs[i]?=some q->q.1=p.1/\q.2.1=p.2.1:=λi p q h1 h2=>by
  have:=aey (λl=>l[i]?) he;simp only [adW,h1,h2,afW]at this;have e:=ai2 this;exact ⟨(aey Prod.fst e).symm,(aey Prod.snd e).symm⟩
 have hq:∀ q∈qs,q.1.length=32:=λq hm=>by
  obtain ⟨i,hi,rfl⟩:=aoY hm;have h2:=hpq i _ _ (aay oQ) (aay hi);rw [h2.1];exact hp _ (apT _)
 have Ve:=uQ (show ∀ q∈ps,(kG q).length=33 from λq hm=>yS q (hp q hm));have Iy:=uQ (show ∀ q∈qs,(kG q).length=33 from λq hm=>yS q (hq q hm));obtain ⟨aa,ac,rfl⟩:=jK Ve.o (ha w h) aN;obtain ⟨ba,bc,rfl⟩:=jK Iy.o (hb w h) aN;rw [hle]at hb ⊢;have Ha:=uQ ha;have Hb:=uQ hb;have Hlen:=uQ hlen;have Hda:=uQ hda;have Hdb:=uQ hdb;have Nh:=uQ hdl;have Hp:=uQ hp;have Hpq:=uQ hpq;have qX:=uQ hle;clear ha hb hlen hda hdb hdl hp hpq hq he hle;go_enter func20,ntmps20;have c0:((ps.length:Int) != (ps.length:Int))=false:=bne_self_eq_false ..;go_wp2_with fail
 go_loopg [5] ps.length (λg iq wr=>∃ i:Nat,g=ps.length-i/\i<=ps.length/\iq=.int .i64 i/\Sat w0 wr F)
 case atStart=>exact ⟨0,rfl,aea _,rfl,h⟩
 case round=>
  obtain ⟨i,rfl,hiN,rfl,hS⟩:=hrel;clear h;by_cases hi:i<ps.length
  ·have hic:(i:Int)<(ps.length:Int):=by omega
   have hwi:IntKind.i64.wrap ((i:Int)+1)=(i:Int)+1:=adr _ yM0;obtain ⟨p,hpi⟩:∃ p,ps[i]?=some p:=⟨_,aay hi⟩;obtain ⟨q,hqi⟩:∃ q,qs[i]?=some q:=⟨_,aay (by rw [qX.o];exact hi)⟩;obtain ⟨e1,e2⟩:=Hpq.o i p q hpi hqi;have hS1:=hS.drew;obtain ⟨bk,off,c',f1,d1⟩:=jd Ve.o (Ha.o _ hS1) hpi aN;obtain ⟨bk2,off2,c2',f2,d2⟩:=jd Iy.o (Hb.o _ hS1) hqi aN;rw [qX.o]at f2;cases f1;cases f2;have Hi:=uQ hi;have Eu:=uQ (Hp.o p (abA hpi));have Fq:=Hda.o p (abA hpi);have hrq:=Hdb.o q (abA hqi);rw [e2]at hrq;have aii:=Nh.o p (abA hpi);obtain ⟨pk,pd,pv⟩:=p;obtain ⟨qk,qd,qv⟩:=q;dsimp only at e1 e2 Fq hrq aii;obtain rfl:pk=qk:=e1.symm;obtain rfl:pd=qd:=e2.symm
   have HGA:=uQ (show (∀ j v,(aA pk)[j]?=some v->World.cell? _ ⟨bk,off+i*33+j,none⟩=some v)/\(∀ j v,(aA pk)[j]?=some v->World.cell? _ ⟨bk2,off2+i*33+j,none⟩=some v)/\World.cell? _ ⟨bk,off+i*33+32,none⟩=some pv/\World.cell? _ ⟨bk2,off2+i*33+32,none⟩=some qv from
    ⟨λj v hj=>d1 j v (abB (pk,pd,pv) hj),λj v hj=>d2 j v (abB (pk,pd,qv) hj),d1 32 _ (abz (pk,pd,pv) Eu.o),d2 32 _ (abz (pk,pd,qv) Eu.o)⟩)
   have hsm:=amI pd Fq hrq hS1 oQ;have hnk:∀ x y w,((do eqGuard .neq 50 x y (.agg (aA pk).toArray) (.agg (aA pk).toArray);binOp .neq 50 (.agg (aA pk).toArray) (.agg (aA pk).toArray)):Sem Value).run prog w=.ok (.bool false) w:=λx y w=>by rw [aj1 x y pk pk Eu.o Eu.o w];simp
   have iK:=uQ (show (aA pk).length=32 by rw [aX,Eu.o]);clear hpi hqi hi hiN d1 d2 hS;go_wp2_with fail;refine dN [22,23,24] (λw'=>w'.rangeAt bk (off+i*33) (aA pk)/\w'.rangeAt bk2 (off2+i*33) (aA pk)/\w'.cell? ⟨bk,off+i*33+32,none⟩=some pv/\w'.cell? ⟨bk2,off2+i*33+32,none⟩=some qv) au ?_;have hG:World.rangeAt _ bk (off+i*33) (aA pk)/\World.rangeAt _ bk2 (off2+i*33) (aA pk)/\World.cell? _ ⟨bk,off+i*33+32,none⟩=some pv/\World.cell? _ ⟨bk2,off2+i*33+32,none⟩=some qv:=HGA.o;refine rP 0 ?_ (y:=aZ);refine rP 1 ?_ (y:=aZ);refine rP 2 ?_ (y:=jJ);refine rP 3 ?_ (y:=bY);refine gK 4 ak au bV (jh (b:=bk) (o:=off+i*33) (aA pk) ah underlying50 rfl yG0 (λw hw=>hw.1)) aQ gQ ?_;refine rP 5 ?_ (y:=aZ);refine rP 6 ?_ (y:=aZ);refine rP 7 ?_ (y:=jJ);refine rP 8 ?_ (y:=bY)
   refine gK 9 ak au bV (jh (b:=bk2) (o:=off2+i*33) (aA pk) ah underlying50 rfl yG0 (λw hw=>hw.2.1)) aQ gQ ?_;refine rP 10 ?_ (y:=(BA ak ak (hnk _ _)));refine rP 11 ?_ (y:=aZ);refine rP 12 ?_ (y:=(iU ah ak));refine rP 13 ?_ (y:=(iU ah ak));refine rP 14 ?_ (y:=(rU ah ak ak dw));refine rP 15 ?_ (y:=(o8 ah ak dw));refine gK 16 ak au bV (o7 ah ak au (λwq hq=>hq.2.2.1)) aQ gQ ?_;refine rP 17 ?_ (y:=(iU ah ak));refine rP 18 ?_ (y:=(iU ah ak));refine rP 19 ?_ (y:=(rU ah ak ak dw));refine rP 20 ?_ (y:=(o8 ah ak dw));refine gK 21 ak au bV (o7 ah ak au (λwq hq=>hq.2.2.2)) aQ gQ ?_;clear hG;refine bW 22 ak au (λK hK=>?_);refine EP [pv,qv] ah au ah ?_;refine hsm.mono ?_;rintro ee w5 ⟨v,rfl,rfl,h5⟩;refine hK _ _ (.inl rfl) ?_;clear hK hsm hS1;refine rP 23 ?_ (y:=(aoI ah ak dw));refine rP 24 ?_ (y:=(nC ah ak ak));refine dH au ?_
   try simp only [kP]
   try go_frame
   go_wp2_with fail
   go_roundg (ps.length-(i+1))
   case measure=>have:=Hi.o;omega
   case rel=>exact ⟨i+1,rfl,aec Hi.o,by first|rfl|go_num,h5⟩
  ·obtain rfl:i=ps.length:=by omega
   have hic:¬ (ps.length:Int)<(ps.length:Int):=oQ;clear hi hiN;go_wp2_with fail;go_ret;exact ⟨.bool true,rfl,rfl,hS⟩
end
section
variable {lv lw:Value}{r m K r0 E n:Nat}{seg:Int}{o oc:aj.Bs->Option aj.Bs}{d:Bool}
theorem gy.push (h:gy w0 r m seg K r0 E n o oc d F w):∃ G:List aG,Sat w0 w G/\(∀ w',Sat w0 w' G->gy w0 r m seg K r0 E n o oc d F w')/\(∀ (A B:aG) (w':World),Sat w0 w' (A::B::G)->gy w0 r m seg K r0 E n o oc d (A::B::F) w')/\(∀ w',Sat w0 w' G->Sat w0 w' F)/\∀ (A:aG) (w':World),Sat w0 w' (A::G)->gy w0 r m seg K r0 E n o oc d (A::F) w':=by
 obtain ⟨ps,p,pn,pi,B,B2,B0,uv,tv,N,us,L,M,D,D0,hf,hS⟩:=h;exact ⟨_,hS,λw' hw=>⟨ps,p,pn,pi,B,B2,B0,uv,tv,N,us,L,M,D,D0,hf,hw⟩,λA B' w' hw=>⟨ps,p,pn,pi,B,B2,B0,uv,tv,N,us,L,M,D,D0,hf,hw.sb⟩,λw' hw=>hw.sb,λA w' hw=>⟨ps,p,pn,pi,B,B2,B0,uv,tv,N,us,L,M,D,D0,hf,hw.sb⟩⟩
theorem OT {av bv:Value}{qa qb:List PV}{o2:aj.Bs->Option aj.Bs} (h1:Tab.Lists o2 (qa.map AP)) (h2:Tab.Lists o2 (qb.map AP)) (h3:∀ q∈qa,q.1.length=32) (h4:Ro w0 F (bF 33 av (qa.flatMap kG))) (h5:Ro w0 F (bF 33 bv (qb.flatMap kG))) (h6:∀ q∈qa,Ro w0 F (bF 1 q.2.2 (aA q.2.1))) (h7:∀ q∈qb,Ro w0 F (bF 1 q.2.2 (aA q.2.1))) (h8:qa.length<=200) (h9:∀ q∈qa,q.2.1.length<=16384) (h:gy w0 r m seg K r0 E n o oc d F w) :
  Calls prog 20 #[av,bv] w (aP λv w'=>v=.bool true/\gy w0 r m seg K r0 E n o oc d F w'):=by
 obtain ⟨G,hG,hback,_,hdrop,_⟩:=h.push;refine (amH qa qb (h1.unique h2) h3 (Ro.AL h4 hdrop) (Ro.AL h5 hdrop) (λq hq=>Ro.AL (h6 q hq) hdrop) (λq hq=>Ro.AL (h7 q hq) hdrop) (adt h8 aN) (λq hq=>adt (h9 q hq) aN) hG).mono ?_;rintro e w' ⟨v,rfl,rfl,h2⟩;exact ⟨_,rfl,rfl,hback _ h2⟩
theorem agj (z pc ag:Int) (ds dt:List QD) (hr:Ro w0 F (bF 37 lv (jU ds))) (he:∀ d∈ds,zM w0 F d) (ht:Ro w0 F (bF 37 lw (jU dt))) (hu:∀ d∈dt,zM w0 F d) (hH:Ro w0 F Half) (h:Sat w0 w F) :
  Calls prog 4 #[.int .i64 z,.int .i64 pc,lv,lw,.int .i64 ag] w (aP λv w'=>v=.bool true/\Sat w0 w' F):=by
 have Hr:=uQ hr;have He:=uQ he;have Ht:=uQ ht;have Hu:=uQ hu;have HH:=uQ hH;clear hr he ht hu hH;go_enter func4,ntmps4;go_wp2_with fail;refine (X0 ds 40 aN Hr.o (λd hd=>(He.o d hd).of_sub λw hw=>hw) h).mono ?_;rintro ee w2 ⟨v,rfl,es,ov,rfl,hes,_,h2⟩;obtain ⟨q1,q2⟩:=X3 hes (λd hd=>(He.o d hd).key);have Ef:=uQ q1;have U6:=uQ q2;obtain ⟨oa,oc,rfl⟩:=abD (λd hd=>(U6.o d hd).1) h2;clear h hes q1 q2
 have hpl:=agS z es (Ro.oI (λw hw=>Sat.rd hw) aU) U6.o (λd hd=>by
  obtain ⟨i,hi⟩:=apI hd;exact Ro.oI (Xq hi) bf) Ef.o (Ro.os HH.o) h2
 obtain ⟨F1,hF1⟩:∃ F1,F1=aC 69 37 (.slice oa es.length oc) (jU es)::sG es::F:=⟨_,rfl⟩;rw [<-hF1]at hpl;have H9:=uQ (show ∀ w',Sat w0 w' F1->Sat w0 w' F from λw' hw=>by rw [hF1]at hw;exact hw.drop.drop);have D8:=uQ (Ro.AL HH.o H9.o);clear h2 hF1;go_wp2_with fail;refine hpl.mono ?_;rintro ee w3 ⟨v,rfl,r,m,lim,o,rfl,hlim,h3⟩;clear hpl;have vX:=uQ hlim;clear hlim;have hmp:=EO aN D8.o h3;clear h3;go_wp2_with fail;refine hmp.mono ?_;rintro ee w4 ⟨v,rfl,av,qa,rfl,⟨ha1,ha2,YS,YT⟩,h4⟩;have Ic:=uQ ha1;have Ie:=uQ (λq hq=>(ha2 q hq).1:∀ q∈qa,q.1.length=32);have UW:=uQ YS;have UY:=uQ YT;clear hmp ha1 ha2 YS YT;have hwp:=L9 pc 0 100;have hpm:=Mc pc 0 100 aN;generalize within pc 0 100=pcc at *
 have hrn:=XC hpm vX.o.1 (by have:=vX.o;omega) aN aN aN aN (Ro.os D8.o) h4;clear h4 hpm;go_wp2_with fail;refine (hwp _).mono ?_;rintro ee w5 ⟨v,rfl,rfl,rfl⟩;clear hwp;go_wp2_with fail;refine hrn.mono ?_;rintro ee w6 ⟨v,rfl,gv,rfl,h6⟩;clear hrn;have hmp:=EO aN (Ro.os D8.o) h6;clear h6;go_wp2_with fail;refine hmp.mono ?_;rintro ee w7 ⟨v,rfl,bv,qb,rfl,⟨hb1,_,_,_⟩,h7⟩;have Hb1:=uQ hb1;clear hmp hb1;have hws:=L9 z 128 2000;have hsm:=Mc z 128 2000 aN;generalize within z 128 2000=JX at *
 have Hl2:=uQ hsm;have hop:=agR rfl aN aN aN hsm.1 oQ (Ro.os D8.o) h7;clear h7 hsm;go_wp2_with fail;refine (hws _).mono ?_;rintro ee w8 ⟨v,rfl,rfl,rfl⟩;clear hws;go_wp2_with fail;refine hop.mono ?_;rintro ee w9 ⟨v,rfl,x,rfl,h9⟩;clear hop;obtain ⟨G,hG,_,_,hdrop,hpush⟩:=h9.push;go_wp2_with (with_reducible apply fB);refine ⟨eF nO hG rfl ?_⟩;intro b10 w10 h10;go_wp2_with (with_reducible apply dh);refine ⟨fP (dP Rep.dJ.zero) h10 ah ah ah cZ au ah ?_⟩;intro iH h11;have h12:=(hpush _ _ h11).drop;clear h9 hG hdrop hpush h10 h11;have hsm:=OT (av:=av) (bv:=bv) Ic.o Hb1.o Ie.o (Ro.oI (λw hw=>Sat.rd hw) eH) (Ro.oI (λw hw=>Sat.rd hw) aU) (λq hq=>Ro.oI (BX hq) iO) (λq hq=>Ro.oI (BX hq) bf) UW.o UY.o h12;clear h12;go_wp2_with fail;refine hsm.mono ?_;rintro ee jM ⟨v,rfl,rfl,h13⟩;clear hsm;have hmp:=EO aN (Ro.os D8.o) h13;clear h13;go_wp2_with fail
 refine hmp.mono ?_;rintro ee kT ⟨v,rfl,cv,qc,rfl,⟨hc1,_,_,_⟩,iM⟩;clear hmp;have hsm:=OT (av:=av) (bv:=cv) Ic.o hc1 Ie.o (Ro.oI (λw hw=>Sat.rd hw) rH) (Ro.oI (λw hw=>Sat.rd hw) aU) (λq hq=>Ro.oI (BX hq) akG) (λq hq=>Ro.oI (BX hq) bf) UW.o UY.o iM;clear iM hc1;go_wp2_with fail;refine hsm.mono ?_;rintro ee Bh ⟨v,rfl,rfl,h15⟩;clear hsm;replace h15:gy w0 x m JX (25000+5*41+700) 1048576 84 83 o o false F1 Bh:=h15.drop.drop.drop.drop.drop.drop;obtain ⟨G,hG,_,hpush,hdrop,_⟩:=h15.push;have hfw:=X0 dt 15 aN (Ro.AL Ht.o λw' hw=>H9.o _ (hdrop _ hw)) (λd hd=>(Hu.o d hd).of_sub λw' hw=>H9.o _ (hdrop _ hw)) hG;have Vy:=uQ hpush;clear h15 hG hpush hdrop;go_wp2_with fail;refine hfw.mono ?_;rintro ee w16 ⟨v,rfl,et,ow,rfl,het,_,h16⟩;obtain ⟨q1,q2⟩:=X3 het (λd hd=>(Hu.o d hd).key);have nG:=uQ q1;have eG:=uQ q2
 obtain ⟨ta,tc,rfl⟩:=abD (λd hd=>(eG.o d hd).1) h16;have h17:=Vy.o _ _ _ h16;obtain ⟨F2,hF2⟩:∃ F2,F2=aC 69 37 (.slice ta et.length tc) (jU et)::sG et::F1:=⟨_,rfl⟩;rw [<-hF2]at h17;have HF2:=uQ (show ∀ w',Sat w0 w' F2->Sat w0 w' F from λw' hw=>by rw [hF2]at hw;exact H9.o _ hw.drop.drop);have D9:=uQ (Ro.AL HH.o HF2.o);have HRt:=uQ (show Ro w0 F2 (bF 37 (.slice ta et.length tc) (jU et)) from by rw [hF2];exact Ro.oI (λw hw=>Sat.rd hw) aU)
 have HRd:=uQ (show ∀ d∈et,Ro w0 F2 (bF 1 d.dv (aA d.c.data)) from λd hd=>by
  obtain ⟨i,hi⟩:=apI hd;rw [hF2];exact Ro.oI (Xq hi) bf)
 clear hfw h16 het q1 q2 hF2 Vy;go_wp2_with fail
 go_loopg [22] et.length (λg iq wr=>∃ (i:Nat) (o2 Df:aj.Bs->Option aj.Bs) (d2:Bool),g=et.length-i/\i<=et.length/\iq=.int .i64 i/\gy w0 x m JX (26000+i*605) 1048576 (84+2*i) (83+i) o2 Df d2 F2 wr)
 case atStart=>exact ⟨0,_,_,_,rfl,aea _,rfl,h17.mono aN aN aN⟩
 case round=>
  obtain ⟨i,o2,Df,d2,rfl,hi,rfl,hS⟩:=hrel;clear h17;by_cases hlt:i<et.length
  focus
   have c1:decide ((i:Int)<(et.length:Int))=true:=aeb oQ;have c1':(i:Int)<(et.length:Int):=oQ;have hwi:IntKind.i64.wrap ((i:Int)+1)=(i:Int)+1:=adr _ (by have:=nG.o;omega);obtain ⟨y,hy⟩:∃ y,et[i]?=some y:=⟨_,aay hlt⟩;have hym:=abA hy;have bT:=uQ hlt;have N8:=uQ (eG.o y hym);have IK:=uQ (HRd.o y hym);obtain ⟨LL,hG,hback,hdrop⟩:=hS.sat;have hrd:=HRt.o _ (hdrop _ hG);have hx0:(jU et)[i*37+0]?=some (.int .i64 y.c.kind):=Dt (λd hd=>(eG.o d hd).1) hy rfl;obtain ⟨bk,off,e,hcell⟩:=pI hrd hx0;cases e;have hcells:wr.rangeAt bk (off+i*37) (ng y):=λj v hj=>by
    have:=hcell _ _ (Dt (λd hd=>(eG.o d hd).1) hy hj);rw [<-apB]at this;exact this
   clear hlt hi hy hym hG hback hdrop hrd hx0 hcell;go_wp2_with ((with_reducible refine bP ⟨?_⟩);refine iR (b:=bk) (o:=off+i*37) (ng y) ah hcells underlying69 rfl (by rw [Dq _ N8.o.1];exact FH) ?_);refine (Xt (n:=83+i) (E:=84+2*i) (K:=26000+i*605) y N8.o.1 IK.o N8.o.2 (by have:=nG.o;have:=bT.o;omega) (by have:=nG.o;have:=bT.o;omega) (by have:=nG.o;have:=bT.o;omega) D9.o hS).mono ?_;rintro ee w18 ⟨v,rfl,o3,oc3,d3,h18⟩;have iw:=uQ (show gy w0 x m JX (26000+(i+1)*605) 1048576 (84+2*(i+1)) (83+(i+1)) o3 oc3 d3 F2 w18 from h18.mono oQ oQ oQ);clear hS hcells h18;go_wp2_with fail
   go_roundg (et.length-(i+1))
   case measure=>have:=bT.o;omega
   case rel=>exact ⟨i+1,o3,oc3,d3,rfl,aec bT.o,by first|rfl|go_num,iw.o⟩
  obtain rfl:i=et.length:=by omega
  have c1:decide ((et.length:Int)<(et.length:Int))=false:=ad2 oQ;have c1':¬ (et.length:Int)<(et.length:Int):=oQ;have hS2:gy w0 x m JX 35500 1048576 114 98 o2 Df d2 F2 wr:=hS.mono (by have:=nG.o;omega) (by have:=nG.o;omega) (by have:=nG.o;omega);have hcm:=OO aN aN aN D9.o hS2;clear hS hS2 hi hlt;go_wp2_with fail;refine hcm.mono ?_;rintro ee Uo ⟨v,rfl,⟨rfl,h19⟩|⟨rfl,h19,_⟩⟩;rotate_left
  focus
   exact absurd h19 aN
  clear hcm;have hmp:=EO aN D9.o h19;clear h19;go_wp2_with fail;refine hmp.mono ?_;rintro ee GR ⟨v,rfl,dv,qd,rfl,⟨hd1,hd2,hd3,hd4⟩,h20⟩;have Hd1:=uQ hd1;have Hd2:=uQ (λq hq=>(hd2 q hq).1:∀ q∈qd,q.1.length=32);have Na:=uQ hd3;have Hd4:=uQ hd4;clear hmp hd1 hd2 hd3 hd4;have hwp:=L9 ag 0 100;have hpm:=Mc ag 0 100 aN;generalize within ag 0 100=agg at *
  have hrn:=XC hpm Hl2.o.1 (by have:=Hl2.o;omega) aN aN aN aN (Ro.os D9.o) h20;clear h20 hpm;go_wp2_with fail;refine (hwp _).mono ?_;rintro ee Bo ⟨v,rfl,rfl,rfl⟩;clear hwp;go_wp2_with fail;refine hrn.mono ?_;rintro ee uK ⟨v,rfl,gv2,rfl,h22⟩;clear hrn;have hmp:=EO aN (Ro.os D9.o) h22;clear h22;go_wp2_with fail;refine hmp.mono ?_;rintro ee w23 ⟨v,rfl,ev,qe,rfl,⟨he1,_,_,_⟩,h23⟩;clear hmp;have hsm:=OT (av:=dv) (bv:=ev) Hd1.o he1 Hd2.o (Ro.oI (λw hw=>Sat.rd hw) eH) (Ro.oI (λw hw=>Sat.rd hw) aU) (λq hq=>Ro.oI (BX hq) iO) (λq hq=>Ro.oI (BX hq) bf) Na.o Hd4.o h23;clear h23 he1;go_wp2_with fail;refine hsm.mono ?_;rintro ee w24 ⟨v,rfl,rfl,yB⟩;clear hsm;obtain ⟨G,hG,_,_,hdrop,_⟩:=yB.push;have hlv:=ajE HH.o (HF2.o _ (hdrop _ hG).drop.drop.drop.drop);clear yB hG hdrop;go_wp2_with fail;refine hlv.mono ?_;rintro ee w25 ⟨v,rfl,rfl,h25⟩
  go_wp2_with fail;go_ret;exact ⟨_,rfl,rfl,h25⟩
end
open Go Go.Sl Go.ay Go.ChangeShapes Go.WideShapes Go.RowKit
structure QD.At (W:World) (d:QD):Prop where
 kind:qK d.c.kind
 key:d.c.key.length=32
 rd:bF 1 d.dv (aA d.c.data) W
 cap:lY d.dv
 n:qK d.c.n
 m:qK d.c.m
 rl:bF 1 d.lv (ints d.c.l) W
 OE:lY d.lv
 ins:∀ i∈d.c.l,qK i
section
variable {H:Type}{enc:TypeId×Value->H}{W:World}{base:Nat}{spare:Nat->Bool}{held:Bool}
theorem akB {fuel:Nat}{cs:List Value}{x:DataW H×List MemPlace} (h:DataW.trod enc prog W base spare held fuel 69 cs=some x):∃ d:QD,ng d=cs/\d.At W:=by
 obtain ⟨hl,hf⟩:=akz underlying69 h;have e37:prog.cellsOf 69=37:=by kernel_rfl
 have e1:prog.cellsOf 3=1:=by kernel_rfl
 have e2:prog.cellsOf 50=32:=by kernel_rfl
 have e3:prog.cellsOf 39=1:=by kernel_rfl
 have e5:prog.cellsOf 5=1:=by kernel_rfl
 have e4:prog.cellsOf 29=1:=by kernel_rfl
 rw [e37]at hl;obtain ⟨n0,y0,h0⟩:=hf 0 _ rfl;obtain ⟨n1,y1,h1⟩:=hf 1 _ rfl;obtain ⟨n2,y2,h2⟩:=hf 2 _ rfl;obtain ⟨n3,y3,h3⟩:=hf 3 _ rfl;obtain ⟨n4,y4,h4⟩:=hf 4 _ rfl;obtain ⟨n5,y5,h5⟩:=hf 5 _ rfl;simp only [List.getElem_toArray,List.getElem_cons_zero,List.getElem_cons_succ,e1,e2,e3,e4,apN]at h0 h1 h2 h3 h4 h5;obtain ⟨z0,q0,_,w0⟩:=apY underlying3 h0;obtain ⟨kl,k1,k2⟩:=akA underlying50 e2 h1;have hd:∃ v,(cs.drop 33).take 1=[v]:=by
  have:((cs.drop 33).take 1).length=1:=by rw [ads,ad3];omega
  exact List.length_eq_one_iff.1 this
 obtain ⟨dv,hdv⟩:=hd;rw [hdv]at h2;obtain ⟨l2,r2,c2⟩:=aiR underlying39 underlying5 e5 h2;obtain ⟨z3,q3,_,w3⟩:=apY underlying3 h3;obtain ⟨z4,q4,_,w4⟩:=apY underlying3 h4;have hd:∃ v,(cs.drop 36).take 1=[v]:=by
  have:((cs.drop 36).take 1).length=1:=by rw [ads,ad3];omega
  exact List.length_eq_one_iff.1 this
 obtain ⟨lv,hlv⟩:=hd;rw [hlv]at h5;obtain ⟨l6,r6,c6,i6⟩:=aiS underlying29 underlying3 e1 h5;refine ⟨⟨⟨z0,kl,l2,z3,z4,l6⟩,dv,lv⟩,?_,bounds_i64 w0,k2,r2,c2,bounds_i64 w3,bounds_i64 w4,r6,c6,i6⟩;show (Value.int .i64 z0::aA kl)++dv::[.int .i64 z3,.int .i64 z4,lv]=cs;have s1:cs=cs.take 1++((cs.drop 1).take 32++((cs.drop 33).take 1++((cs.drop 34).take 1++((cs.drop 35).take 1++(cs.drop 36).take 1)))):=by
  have a4:(cs.drop 36).take 1=cs.drop 36:=ad9 yT0;have a3:(cs.drop 35).take 1++cs.drop 36=cs.drop 35:=by
   rw [show cs.drop 36=(cs.drop 35).drop 1 by rw [apZ]];exact aeS 1 _
  have a2:(cs.drop 34).take 1++cs.drop 35=cs.drop 34:=by
   rw [show cs.drop 35=(cs.drop 34).drop 1 by rw [apZ]];exact aeS 1 _
  have a1:(cs.drop 33).take 1++cs.drop 34=cs.drop 33:=by
   rw [show cs.drop 34=(cs.drop 33).drop 1 by rw [apZ]];exact aeS 1 _
  have a0:(cs.drop 1).take 32++cs.drop 33=cs.drop 1:=by
   rw [show cs.drop 33=(cs.drop 1).drop 32 by rw [apZ]];exact aeS 32 _
  rw [a4,a3,a2,a1,a0];exact (aeS 1 cs).symm
 rw [s1,q0,<-k1,hdv,q3,q4,hlv];rfl
theorem ZI {fuel:Nat}{v:Value}{x:DataW H×List MemPlace} (h:DataW.trod enc prog W base spare held fuel 22 [v]=some x) :
  ∃ ds:List QD,bF 37 v (jU ds) W/\lY v/\∀ d∈ds,d.At W:=by
 obtain ⟨elems,h1,h2,h3⟩:=aa8 underlying22 (k:=37) au oQ h;obtain ⟨ds,h4,h5⟩:=QH (f:=ng) (p:=λd=>d.At W) elems λcs hcs=>by
  obtain ⟨_,n,y,h6⟩:=h3 cs hcs;exact akB h6
 refine ⟨ds,?_,h2,h5⟩;unfold jU;rw [List.flatMap_def,h4];exact h1
theorem QD.At.ro {d:QD} (h:d.At W):zM W [Sl.old W] d:=⟨h.key,KI h.rd,h.cap,KI h.rl,h.OE⟩
end
end Go.Proofs.Y
namespace Go.Proofs.Y.card
open Go.ChangeShapes Go.WideShapes Go.ChangeAt Go.RowKit
open Go Go.Sl Go.ay
theorem ahK:prog.globalNamed "hoard/crc.half" = some 0:=by kernel_rfl
theorem anK:((prog.globals[0]?).map (·.type))=some 277:=by kernel_rfl
theorem door_met (os:Os) (args:Array Value):laidMetH prog [("hoard/crc.half",Rows.laid_hoard_crc_half)] ((World.doorLaid prog 400 os).forCall (λ_ _=>0) ⟨#[],args,[]⟩).memory:=
 laidMetH_of_parts3 (fuel:=8) (laidMet_of_run' 8 au au) au au
theorem of_laid {W:World} (h:laidMetH prog [("hoard/crc.half",Rows.laid_hoard_crc_half)] W):0<W.heap.size/\Half W:=by
 rw [MakeChecks.laidMetH_plain _ _ _ au]at h;obtain ⟨ps,⟨g0,t0,cs0,f0,p0,q0,hg0,ht0,hv0,hd0,hrest⟩,apk⟩:=h;obtain rfl:=ai2 (ahK.symm.trans hg0);obtain rfl:=ai2 (anK.symm.trans ht0);obtain ⟨xs,m1,rfl,hx1,hlen,hn3,hel⟩:=DataW.trod_array underlying277 hd0;have c3:prog.cellsOf 171=1:=by kernel_rfl
 simp only [Prod.mk.injEq,Rows.laid_hoard_crc_half,DataW.agg.injEq]at hx1;have hH:Half W:=by
  intro i hi;have h0:=hel i hi;have hxi:xs[i]?=some (xs[i]'oQ):=aay oQ;rw [hxi]at h0;obtain ⟨k,e1,e2,_⟩:=apY underlying171 h0;rw [c3,aes]at e1;have hc:cs0.toList[i]?=some (.int .u32 k):=by
   have:((cs0.toList.drop i).take 1)[0]?=some (.int .u32 k):=by rw [e1];rfl
   rw [aeY,acg aN,ao5]at this;exact this
  have hL:=aey (λl=>l[i]?) hx1.1;rw [adW,hxi]at hL;have hk:k=((aj.half.getD i 0:Nat):Int):=by
   rw [e2]at hL;rcases i with _|_|_|_|_|_|_|_|_|_|_|_|_|_|_|_|i
   all_goals first|omega|(simp at hL;rw [<-hL];rfl)
  subst hk;have:=World.var?_cell hg0 hv0 i;rw [this,<-ajw];exact hc
 refine ⟨?_,hH⟩;by_cases hz:0<W.heap.size
 ·exact hz
 ·have h0:=hH 0 aN;have e:W.heap[0]?=none:=apK oQ;simp [World.cell?,e]at h0
end Go.Proofs.Y.card
