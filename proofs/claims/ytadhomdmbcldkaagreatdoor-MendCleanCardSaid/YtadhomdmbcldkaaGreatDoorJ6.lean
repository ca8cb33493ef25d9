import Derived.Test.YtadhomdmbcldkaaGreatDoorJ5
import Derived.Test.YtadhomdmbcldkaaGreatDoorSort
import Derived.RangeFuncNested
import Derived.RangeFuncLeaves
import Derived.TacticsIn
import Derived.OrdersIn
set_option linter.unusedSimpArgs false
open Go.Proofs.Tryz
set_option maxRecDepth 20000
set_option linter.unusedVariables false
set_option maxHeartbeats 128000000
open Go Go.Sl Go.MapKept Go.RowKit
open Go.Proofs.YtadhomdmbcldkaaGreatDoor Go.Proofs.Y
variable {w0 w:World}{F R:List aF}{B p N:Nat}{sv v:Value}{k:aj.Bs}{m:aj.Bs->Option (Rep.dU)}
theorem yE0{p:Prop} (h:p:=by (refine Or.inl ⟨by rfl,?_⟩;((intro wq;go_simp);first|done|exact wQ))):p:=h
theorem yV0{p:Prop} (h:p:=by rw [abA,aP,jG.o];kernel_rfl):p:=h
theorem zE0{p:Prop} (h:p:=by rw [aP,jG.o];kernel_rfl):p:=h
namespace Go.Proofs.Y
open Go.ak
section
variable {t:Tab.Tb (Rep.dU)}
theorem aae {p : Prop} (h : p := by
 have bI:=uQ ok;have HN:=uQ hN;have HNb:=uQ hNb;have Hlen:=uQ (show ∀ x∈t.slots,(slotL dL x).length=dZ from λx hx=>kZ dL x (ok.good.key x hx) iM (Dj _));obtain ⟨la,lc,rfl⟩:=iP Hlen.o (Sat.rd (h.pick aT)) aG;have hw0:IntKind.i64.wrap (2*(N:Int))=2*(N:Int):=acO _ oQ;have aii:wrap64 (2*(N:Int))=2*(N:Int):=ahX _ oQ;clear ok hN;go_enter ac3,ac4;go_wp2_with fail
 go_loopg [4] (4*N) (λg cq wr=>∃ c:Nat,g=4*N+8-c/\cq=.int .i64 c/\(∃ j,c=2^j/\3<=j)/\8<=c/\(c=8\/c<4*N)/\wr=w)
 case atStart=>exact ⟨8,by ((try simp only [dZ,iM,jc,gW,oZ] at *);omega),rfl,⟨3,rfl,ab1 3⟩,ab1 8,.inl rfl,rfl⟩
 case round=>
  obtain ⟨c,rfl,rfl,⟨j,hj,hj3⟩,hc8,hc,rfl⟩:=hrel;by_cases hlt:c<2*N
  ·have c1:(c:Int)<2*(N:Int):=by ((try simp only [dZ,iM,jc,gW,oZ] at *);omega)
   have hw1:IntKind.i64.wrap ((c:Int)*2)=(c:Int)*2:=acO _ oQ;have aik:wrap64 ((c:Int)*2)=(c:Int)*2:=ahX _ oQ;have Hj:=uQ hj;have Oa:=uQ hj3;have aS:=uQ hlt;have Aq:=uQ hc8;clear hj hj3 hlt hc hc8;go_wp2_with fail
   go_roundg (4*N+8-c*2)
   case measure=>have:=aS.o;have:=Aq.o;((try simp only [dZ,iM,jc,gW,oZ] at *);omega)
   case rel=>exact ⟨c*2,rfl,by first|rfl|go_num,⟨j+1,by rw [apt,Hj.o],by have:=Oa.o;((try simp only [dZ,iM,jc,gW,oZ] at *);omega)⟩,by have:=Aq.o;((try simp only [dZ,iM,jc,gW,oZ] at *);omega),.inr (by have:=aS.o;((try simp only [dZ,iM,jc,gW,oZ] at *);omega)),rfl⟩
  ·have c1:¬ (c:Int)<2*(N:Int):=by ((try simp only [dZ,iM,jc,gW,oZ] at *);omega)
   have HC:=uQ (show (∃ j,c=2^j/\3<=j)/\2*N<=c/\8<=c/\(c=8\/c<4*N) from ⟨⟨j,hj,hj3⟩,by ((try simp only [dZ,iM,jc,gW,oZ] at *);omega),hc8,hc⟩);have hcb:c<=1073741824:=oQ;have xG:=uQ hcb;clear hj hj3 hlt hc hc8 hw0 hcb hNb
   go_wp2_with (first
    |((with_reducible refine bC ⟨?_⟩);refine eY h ah bK bG ay au ?_)
    |((with_reducible refine at_make ⟨?_⟩);refine IX (e:=gW) (sz:=dZ) (dF:=oZ) (n:=c) au MQ h ah ah (by have:=xG.o;((try simp only [dZ,iM,jc,gW,oZ] at *);omega)) (by have:=xG.o;((try simp only [dZ,iM,jc,gW,oZ] at *);omega)) ?_;intro bM wM hM)
    |((with_reducible refine bW ⟨?_⟩);refine jM aQ ah ay pQ gZ bG au ah ?_;intro wS hS))
   have e8:(List.replicate c (slotL dL ⟨0,aj.zero32,xk⟩)).flatten=(List.replicate c (⟨0,aj.zero32,xk⟩:Tab.Slot (su))).flatMap (slotL dL):=(Iq c _).symm;rw [e8]at hS;have hS0:Sat w0 _ (fV p jc (.slice (some ⟨bM,0,none⟩) c c) t.n 0::aC gW dZ (.slice (some ⟨bM,0,none⟩) c c) ((List.replicate c (⟨0,aj.zero32,xk⟩:Tab.Slot (su))).flatMap (slotL dL))::aC gW dZ (.slice la t.slots.length lc) (t.slots.flatMap (slotL dL))::F):=hS.sb;clear hS hM h e8 c1;go_wp2_with fail
   go_loopg [31] t.slots.length (λg iq wr=>∃ (i:Nat) (cur:List (Tab.Slot (su))),g=t.slots.length-i/\i<=t.slots.length/\iq=.int .i64 i/\Tab.Half t.slots cur i/\cur.length=c /\
    Sat w0 wr (fV p jc (.slice (some ⟨bM,0,none⟩) c c) t.n 0::aC gW dZ (.slice (some ⟨bM,0,none⟩) c c) (cur.flatMap (slotL dL))::aC gW dZ (.slice la t.slots.length lc) (t.slots.flatMap (slotL dL))::F))
   case atStart=>exact ⟨0,_,rfl,ad4 _,rfl,Tab.half_start HC.o.1 aG rfl,afa,hS0⟩
   case round=>
    obtain ⟨i,cur,rfl,hi,rfl,hH,hcl,hS⟩:=hrel;clear hS0;have HH:=uQ hH;have gK:=uQ hcl;by_cases hlt:i<t.slots.length;rotate_left
    ·obtain rfl:i=t.slots.length:=by ((try simp only [dZ,iM,jc,gW,oZ] at *);omega)
     have c1:¬ (t.slots.length:Int)<(t.slots.length:Int):=oQ;clear hlt hH hi;go_wp2_with fail
     go_end0
     obtain ⟨q1,q2,q3,q4⟩:=HH.o.done;exact ⟨_,rfl,cur,⟨q1,q2,q3.trans bI.o.n.symm,q4.trans bI.o.n.symm,by rw [gK.o];exact HC.o.2.1,by rw [gK.o];exact HC.o.2.2.1,by rw [gK.o];exact HC.o.2.2.2⟩,_,hS.sb⟩
    have c1:(i:Int)<(t.slots.length:Int):=oQ;have hwi:=qm (i:=i);obtain ⟨x,hx⟩:∃ x,t.slots[i]?=some x:=⟨_,aaJ hlt⟩;have hxm:=acr hx;have hst:=bI.o.good.st x hxm;have Hxk:=uQ (bI.o.good.key x hxm);obtain ⟨bk,off,c',hsv,hcell⟩:=iL Hlen.o (Sat.rd (hS.pick fE)) hx aG;cases hsv;have gB:=Hlen.o x hxm;have Hx:=uQ hx;have aS:=uQ hlt;clear hx hxm hlt hH hi
    go_wp2_with (first
     |((with_reducible refine bC ⟨?_⟩);refine iD (b:=bk) (o:=off+i*dZ) (slotL dL x) ah hcell MR rfl yN0 ?_)
     |(with_reducible apply eG))
    refine ⟨eU MQ hS rfl ?_⟩;intro b7 w7 hS7;go_wp2_with (first|((with_reducible refine bW ⟨?_⟩);refine fG (slotL dL x).toArray hS7 ah ah zC0 bU yK0 (by rw [ad7];exact pX dL x (MS _)) ?_;intro w10 dG)|(with_reducible apply bC));refine ⟨?_⟩;clear hS hS7 hcell;have f0:w10.cell? ⟨b7,0,none⟩=some (.int .i64 x.st):=dG.cellP aK 0 (by rw [aeh];rfl);have f1:w10.rangeAt b7 1 (aB x.key):=Df (dG.pick aK);by_cases h1:x.st=1;rotate_left
    ·have hst1:((x.st:Int)==1)=false:=by rw [ad3];((try simp only [dZ,iM,jc,gW,oZ] at *);omega)
     have H1:=uQ h1;clear h1 f1;go_wp2_with fail
     go_roundg (t.slots.length-(i+1))
     case measure=>have:=aS.o;((try simp only [dZ,iM,jc,gW,oZ] at *);omega)
     case rel=>exact ⟨i+1,cur,rfl,aS.o,by first|rfl|go_num,HH.o.skip Hx.o H1.o,gK.o,dG.sb⟩
    ·have hus:Tab.used cur<cur.length:=by
      have h2:=HH.o.nu;have h3:=Tab.Yr t.slots i;have h4:=bI.o.n;have h5:=HN.o;have h6:=HC.o;rw [gK.o];((try simp only [dZ,iM,jc,gW,oZ] at *);omega)
     obtain ⟨dd,hdd⟩:=Tab.PK (k:=x.key) HH.o.good (Tab.P8 hus);have H1:=uQ h1;have Dy:=uQ hdd;have hst1:((x.st:Int)==1)=true:=by rw [h1];rfl
     have Fv:=uQ (show ∀ y∈cur,(slotL dL y).length=dZ from λy hy=>kZ dL y (HH.o.good.key y hy) iM (Dj _));clear h1 hus hdd;go_wp2_with ((with_reducible refine bC ⟨?_⟩);refine iD (b:=b7) (o:=1) (aB x.key) ah f1 underlying34 rfl yQ0 ?_);have hf:=IG HH.o.good (by rw [gK.o];exact xG.o) Hxk.o Dy.o (dG.sb:Sat w0 w10 (fV p jc (.slice (some ⟨bM,0,none⟩) c c) t.n 0::aC gW dZ (.slice (some ⟨bM,0,none⟩) c c) (cur.flatMap (slotL dL))::pt b7 (.cells (slotL dL x).toArray gW (0,0))::aC gW dZ (.slice (some ⟨bk,off,none⟩) t.slots.length lc) (t.slots.flatMap (slotL dL))::F));clear dG f0 f1;refine hf.mono ?_;rintro ee jZ ⟨v,rfl,y,hy,rfl,pO⟩;clear hf hy;have hlt2:=Tab.rX (k:=x.key) (d:=dd) HH.o.good.lU;rw [gK.o]at hlt2;have vI:=uQ (Ir (f:=slotL dL) (k:=dZ) (i:=Tab.pos x.key cur.length dd) (x:=x) Fv.o gB (Tab.rX HH.o.good.lU))
     have FT:=uQ (HH.o.step bI.o.good Hx.o H1.o Dy.o);rw [gK.o]at vI FT;rw [gK.o];have hrl:(cur.flatMap (slotL dL)).length=dZ*c:=by rw [iK Fv.o,gK.o]
     generalize Tab.pos x.key c dd=P0 at *
     have c2:(0:Int)<=(P0:Int):=oQ;have c3:(P0:Int)<(c:Int):=oQ;go_wp2_with fail;have hSd:=pO.drew;clear pO;refine eF [6,7] (λw'=>w'.cell? ⟨p,0,none⟩=some (.slice (some ⟨bM,0,none⟩) c c)/\w'.rangeAt b7 0 (slotL dL x)) au ?_;have hG:World.cell? _ ⟨p,0,none⟩=some (.slice (some ⟨bM,0,none⟩) c c)/\World.rangeAt _ b7 0 (slotL dL x):=⟨hSd.cellP bK 0 rfl,qp (hSd.pk (A:=pt b7 (.cells (slotL dL x).toArray gW (0,0))))⟩;refine rP 0 ?_ (y:=bD);refine rP 1 ?_ (y:=iG);refine rP 2 ?_ (y:=dh);refine rt 3 (h:=?_);refine rP 4 ?_ (y:=bD);refine gJ 5 ay au bP (lM (b:=b7) (o:=0) (slotL dL x) ah MR rfl yN0 (λw hw=>hw.2)) aQ gQ ?_;refine rP 6 ?_ (y:=iV);clear hG;refine cZ 7 ay au (λK hK=>?_);refine D8 (vs:=slotL dL x) (P0*dZ) hSd ay ay rfl (lN bU) (by rw [gB,hrl];((try simp only [dZ,iM,jc,gW,oZ] at *);omega)) yN0 (pX dL x (MS _)) ?_;intro w12 kH
     refine hK _ _ (.inl rfl) ?_;clear hK hSd;refine dX au ?_
     try simp only [jI]
     try go_frame
     rw [<-vI.o]at kH;go_wp2_with fail
     go_roundg (t.slots.length-(i+1))
     case measure=>have:=aS.o;((try simp only [dZ,iM,jc,gW,oZ] at *);omega)
     case rel=>exact ⟨i+1,_,rfl,aS.o,by first|rfl|go_num,FT.o,by rw [ahu];exact gK.o,kH.sb⟩) : p := h
theorem dM.ac3:type_of% @func236:=@func236
theorem dM.ac4:type_of% @ntmps236:=@ntmps236
abbrev dM.oZ:Nat:=80
theorem dM.MQ:type_of% @Dv:=@Dv
abbrev dM.su:=@Rep.dU
theorem dM.MR:type_of% @underlying345:=@underlying345
theorem dM.MS:type_of% @DV:=@DV
open dM in
theorem abx (ok:t.Ok) (hN:t.n<=N) (hNb:N<=134217728) (Y4:t.slots.length<=1073741824) (h:Sat w0 w (fV p 306 sv t.n t.gone::aC 345 38 sv (t.slots.flatMap (slotL fA))::F)) :
  Calls prog 236 #[ptr p,.int .i64 N] w (aN λ_ w'=>∃ s' sv',Tab.AY t s' N/\Sat w0 w' (fV p 306 sv' t.n 0::aC 345 38 sv' (s'.flatMap (slotL fA))::F)):=aae
end
theorem aco (k:aj.Bs) (hk:k.length=32) (v:Rep.dU) (w:World) :
  (Instr.build 345 #[(0,.int .i64 1),(1,.agg (aB k).toArray),(2,.agg (fA v).toArray)]).run prog w=.ok (.agg (slotL fA ⟨1,k,v⟩).toArray) w:=by
 have hbk:(aB k).toArray.size=32:=by rw [abA,aP,hk]
 refine (apA (P:=prog) [(0,.int .i64 1),(1,.agg (aB k).toArray),(2,.agg (fA v).toArray)] akv Dv (by
  intro p' hp;simp only [ad9,aiR,apW]at hp;have hzz:(Value.agg (slotL fA (⟨0,aj.zero32,yQ⟩:Tab.Slot (Rep.dU))).toArray).cells.size=38:=by
   show (slotL fA (⟨0,aj.zero32,yQ⟩:Tab.Slot (Rep.dU))).toArray.size=38;rw [abA,kZ fA _ aG 5 rfl]
  rw [hzz];rcases hp with rfl|rfl|rfl
  ·exact ⟨0,rfl,by show 0+1<=38;omega⟩
  ·refine ⟨1,?_,?_⟩
   ·show some (1,32)=some (1,(aB k).toArray.size);rw [hbk]
   ·show 1+(aB k).toArray.size<=38;omega
  ·exact ⟨33,rfl,by show 33+5<=38;omega⟩) w).trans ?_
 rw [show (Value.agg (slotL fA (⟨0,aj.zero32,yQ⟩:Tab.Slot (Rep.dU))).toArray).cells=(slotL fA (⟨0,aj.zero32,yQ⟩:Tab.Slot (Rep.dU))).toArray from rfl,SI fA ⟨0,aj.zero32,yQ⟩ k v aG hk rfl 5 rfl]
theorem aaf {p : Prop} (h : p := by
 obtain ⟨t,sv,⟨ok,is,hb⟩,hR⟩:=Ut h;obtain ⟨d,he⟩:=ok.ends k;have hsz:t.slots.length<=1073741824:=by have:=ok.size;((try simp only [dZ,iM,jc,mJ,gW] at *);omega)
 have Hlen:=uQ (show ∀ x∈t.slots,(slotL dL x).length=dZ from λx hx=>kZ dL x (ok.good.key x hx) iM (Dj _));obtain ⟨la,lc,rfl⟩:=iP Hlen.o (Sat.rd (hR.pick aT)) aG;have hrl:0<(t.slots.flatMap (slotL dL)).length:=by rw [iK Hlen.o];have:=ok.good.lU;((try simp only [dZ,iM,jc,mJ,gW] at *);omega)
 obtain ⟨bk,rfl⟩:=Ll (hR.pick aT) hrl;have Hk:=uQ hk;have bI:=uQ ok;have kF:=uQ is;have Hb:=uQ hb;have He:=uQ he;have iQ:=uQ hsz;have HB:=uQ hB;have lJ:=uQ ok.good.lU;have Ap:=uQ (show (aB k).length=32 by rw [aP,hk]);clear h hk ok is hb he hsz hB hrl;go_enter ac5,ac6;go_wp2_with (with_reducible apply fC);refine ⟨fB hR ay ay ?_⟩;intro b4 w4 hS4;go_wp2_with (with_reducible apply fC);refine ⟨fB hS4 ay ay ?_⟩;intro b5 w5 hS5;have hA:Sat w0 w5 (fV p jc (.slice (some ⟨bk,0,none⟩) t.slots.length lc) t.n t.gone::aC gW dZ (.slice (some ⟨bk,0,none⟩) t.slots.length lc) (t.slots.flatMap (slotL dL))::pt b4 (.cells (aB k).toArray 34 (0,0))::pt b5 (.cells (dL v).toArray mJ (0,0))::F):=hS5.sb;clear hR hS4 hS5;go_wp2_with fail;refine (Uw lJ.o hA).mono ?_;rintro ee w7 ⟨v',rfl,rfl,rfl⟩
 go_wp2_with ((with_reducible refine bC ⟨?_⟩);refine iC hA ah (aU (aU (aK (A:=pt b4 (.cells (aB k).toArray 34 (0,0)))))) underlying34 rfl (by rw [abA,Ap.o];kernel_rfl) ?_);have hf:=IG bI.o.good iQ.o Hk.o He.o hA;clear hA;refine hf.mono ?_;rintro ee w8 ⟨v',rfl,x,hx,rfl,kJ⟩;clear hf;have hlt:=Tab.rX (k:=k) (d:=d) lJ.o;by_cases h1:x.st=1
 ·have hd:decide (x.st=1)=true:=aem h1;have hxm:=acr hx;have wz:=uQ (LU (f:=slotL dL) (k:=dZ) (o:=33) (x':=⟨x.st,x.key,v⟩) (vs:=dL v) Hlen.o hx (acI dL x v (bI.o.good.key x hxm) rfl) (by show 33+iM<=dZ;decide));have nZ:=uQ (Tab.abg bI.o He.o hx h1 v);have Aw:=uQ (Tab.Kz kF.o (Tab.SH bI.o.good He.o hx h1 v).2 t.n t.gone);have hrl:(t.slots.flatMap (slotL dL)).length=dZ*t.slots.length:=iK Hlen.o;clear hx hxm h1;generalize Tab.pos k t.slots.length d=P0 at *
  have c0:(0:Int)<=(P0:Int):=oQ;have c1:(P0:Int)<(t.slots.length:Int):=oQ;go_wp2_with fail;have hSd:=kJ.drew;clear kJ;refine eF [6,7,8] (λw'=>w'.cell? ⟨p,0,none⟩=some (.slice (some ⟨bk,0,none⟩) t.slots.length lc)/\w'.rangeAt b5 0 (dL v)) au ?_;have hG:World.cell? _ ⟨p,0,none⟩=some (.slice (some ⟨bk,0,none⟩) t.slots.length lc)/\World.rangeAt _ b5 0 (dL v):=⟨hSd.cellP bK 0 rfl,qp (hSd.pk (A:=pt b5 (.cells (dL v).toArray mJ (0,0))))⟩;refine rP 0 ?_ (y:=bD);refine rP 1 ?_ (y:=iG);refine rP 2 ?_ (y:=dh);refine rt 3 (h:=?_);refine rP 4 ?_ (y:=bD);refine gJ 5 ay au bP (lM (b:=b5) (o:=0) (dL v) ah Ac rfl au (λw hw=>hw.2)) aQ gQ ?_;refine rP 6 ?_ (y:=iV);refine rP 7 ?_ (y:=dh);clear hG;refine cZ 8 ay au (λK hK=>?_);refine D8 (vs:=dL v) (P0*dZ+33) hSd ay ay rfl (lN bU) (by rw [hrl];show P0*dZ+33+iM<=_;((try simp only [dZ,iM,jc,mJ,gW] at *);omega)) au ah ?_
  intro w12 kH;refine hK _ _ (.inl rfl) ?_;clear hK hSd;refine dX au ?_
  try simp only [jI]
  try go_frame
  rw [<-wz.o]at kH;go_wp2_with fail
  go_end0
  exact ⟨_,rfl,II (sv:= .slice (some ⟨bk,0,none⟩) t.slots.length lc) nZ.o Aw.o (apG Hb.o) (kH.sb)⟩
 have hd:decide (x.st=1)=false:=aea h1;have hb4:=Hb.o;have hB4:=HB.o;have GL:=iQ.o;obtain ⟨hA1,hA2,hA3,Gq,Gm,Gn,Gp,Gs,Gt⟩:=adI t.n t.gone t.slots.length oQ GL;have Hx:=uQ hx;have H1:=uQ h1;clear hx h1 hb4 hB4 GL;go_wp2_with fail;have hSd:=kJ.drew;clear kJ;have e0:World.cell? _ ⟨p,0,none⟩=some (.slice (some ⟨bk,0,none⟩) t.slots.length lc):=hSd.cellP bK 0 rfl;have e1:World.cell? _ ⟨p,1,none⟩=some (.int .i64 t.n):=hSd.cellP bK 1 rfl;have e2:World.cell? _ ⟨p,2,none⟩=some (.int .i64 t.gone):=hSd.cellP bK 2 rfl
 go_region
 have hcmp:3*t.slots.length<4*(t.n+t.gone+1)\/4*(t.n+t.gone+1)<=3*t.slots.length:=oQ;rcases hcmp with hcmp|hcmp
 focus
  have hci:(3:Int)*(t.slots.length:Int)<4*((t.n:Int)+(t.gone:Int)+1):=oQ;have hrn:=ac7 (N:=t.n+1) bI.o (aiL _) (by have:=Hb.o;have:=HB.o;((try simp only [dZ,iM,jc,mJ,gW] at *);omega)) iQ.o hSd;rw [show (((t.n+1:Nat)):Int)=(t.n:Int)+1 by ((try simp only [dZ,iM,jc,mJ,gW] at *);omega)]at hrn;clear hSd e0 e2;go_wp2_with fail;refine hrn.mono ?_;rintro ee w9 ⟨v',rfl,s',sv',yg,iU⟩;clear hrn e1 hci hcmp;have hok1:=yg.ok;have BQ:=yg.is kF.o t.n 0;have BU:4*((⟨s',t.n,0⟩:Tab.Tb (su)).n+(⟨s',t.n,0⟩:Tab.Tb (su)).gone+1)<=3*(⟨s',t.n,0⟩:Tab.Tb (su)).slots.length:=by have:=yg.lo;simp only;((try simp only [dZ,iM,jc,mJ,gW] at *);omega)
  have hb1:(⟨s',t.n,0⟩:Tab.Tb (su)).n+(⟨s',t.n,0⟩:Tab.Tb (su)).gone<=B:=by have:=Hb.o;simp only;((try simp only [dZ,iM,jc,mJ,gW] at *);omega)
  have dG:Sat w0 w9 (fV p jc sv' (⟨s',t.n,0⟩:Tab.Tb (su)).n (⟨s',t.n,0⟩:Tab.Tb (su)).gone::aC gW dZ sv' ((⟨s',t.n,0⟩:Tab.Tb (su)).slots.flatMap (slotL dL))::pt b4 (.cells (aB k).toArray 34 (0,0))::pt b5 (.cells (dL v).toArray mJ (0,0))::F):=iU;clear iU yg hA1 hA2 hA3 Gq Gm Gn Gp Gs Gt;generalize (⟨s',t.n,0⟩:Tab.Tb (su))=t1 at hok1 BQ BU hb1 dG;have xJ:=uQ (show ∀ x∈t1.slots,(slotL dL x).length=dZ from λx hx=>kZ dL x (hok1.good.key x hx) iM (Dj _));obtain ⟨QS,yA,rfl⟩:=iP xJ.o (Sat.rd (dG.pick aT)) aG;have nY:=uQ hok1;have xI:=uQ BQ;have AB:=uQ BU;have Hb1:=uQ hb1;obtain ⟨d1,he1⟩:=hok1.ends k;have o8:=uQ he1;have hno:m k=none:=by
   obtain ⟨_,q2⟩:=kF.o.some bI.o He.o Hx.o;exact q2 H1.o
  have hsz1:t1.slots.length<=1073741824:=by have:=hok1.size;have:=HB.o;((try simp only [dZ,iM,jc,mJ,gW] at *);omega)
  clear hok1 BQ BU hb1 he1;go_wp2_with ((with_reducible refine bC ⟨?_⟩);refine iC dG ah (aU (aU (aK (A:=pt b4 (.cells (aB k).toArray 34 (0,0)))))) underlying34 rfl (by rw [abA,Ap.o];kernel_rfl) ?_);have hf:=IG nY.o.good hsz1 Hk.o o8.o dG;clear dG hsz1;refine hf.mono ?_;rintro ee w8b ⟨v',rfl,x1,hx1,rfl,hT⟩;have uz:=uQ hx1
  have xC:=uQ (show x1.st≠1 from λh=>by
   have:=(xI.o.some nY.o o8.o hx1).1 h;rw [hno]at this;cases this)
  clear hf hx1 hno Hx H1 He bI kF Hlen lJ Hb iQ hlt hd;go_wp2_with fail
 rotate_left
 focus
  have hci:¬ (3:Int)*(t.slots.length:Int)<4*((t.n:Int)+(t.gone:Int)+1):=oQ;have AB:=uQ hcmp;clear e0 e1 e2 hcmp;go_wp2_with fail;clear hci hA1 hA2 hA3 Gq Gm Gn Gp Gs Gt hlt hd lJ iQ;obtain ⟨t1,rfl⟩:∃ y,y=t:=⟨t,rfl⟩;obtain ⟨x1,rfl⟩:∃ y,y=x:=⟨x,rfl⟩;obtain ⟨d1,rfl⟩:∃ y,y=d:=⟨d,rfl⟩;obtain ⟨QS,GH⟩:∃ y:Option Addr,y=some ⟨bk,0,none⟩:=⟨_,rfl⟩;obtain ⟨yA,rfl⟩:∃ y,y=lc:=⟨lc,rfl⟩;rw [<-GH]at hSd;have hT:=hSd;have nY:=uQ bI.o;have xI:=uQ kF.o;have Hb1:=uQ Hb.o;have o8:=uQ He.o;have uz:=uQ Hx.o;have xC:=uQ H1.o;have xJ:=uQ Hlen.o;clear hSd bI kF Hb He Hx H1 Hlen GH
 all_goals
  have hrl:(t1.slots.flatMap (slotL dL)).length=dZ*t1.slots.length:=iK xJ.o;obtain ⟨bk1,rfl⟩:=Ll (hT.pick aT) (by rw [hrl];have:=nY.o.good.lU;((try simp only [dZ,iM,jc,mJ,gW] at *);omega));have wz:=uQ (Ir (f:=slotL dL) (k:=dZ) (i:=Tab.pos k t1.slots.length d1) (x:=⟨1,k,v⟩) xJ.o (kZ dL _ Hk.o iM rfl) (Tab.rX nY.o.good.lU));have nZ:=uQ (Tab.abe nY.o AB.o o8.o uz.o xC.o Hk.o v);have Aw:=uQ (Tab.Kz xI.o (Tab.Lr nY.o.good o8.o uz.o xC.o Hk.o v).2 (t1.n+1) t1.gone);have hlt1:=Tab.rX (k:=k) (d:=d1) nY.o.good.lU;have hls:=kZ dL (⟨1,k,v⟩:Tab.Slot (su)) Hk.o iM rfl;have hwn:IntKind.i64.wrap ((t1.n:Int)+1)=(t1.n:Int)+1:=acO _ (by have:=Hb1.o;have:=HB.o;((try simp only [dZ,iM,jc,mJ,gW] at *);omega));clear uz xC o8 nY xI AB;generalize Tab.pos k t1.slots.length d1=P1 at *
  have c0:(0:Int)<=(P1:Int):=oQ;have c1:(P1:Int)<(t1.slots.length:Int):=oQ;have hSd:=hT.drew;clear hT;refine eF [8,9] (λw'=>w'.cell? ⟨p,0,none⟩=some (.slice (some ⟨bk1,0,none⟩) t1.slots.length yA)/\w'.rangeAt b4 0 (aB k)/\w'.rangeAt b5 0 (dL v)) au ?_;have hG:World.cell? _ ⟨p,0,none⟩=some (.slice (some ⟨bk1,0,none⟩) t1.slots.length yA)/\World.rangeAt _ b4 0 (aB k)/\World.rangeAt _ b5 0 (dL v):=⟨hSd.cellP bK 0 rfl,qp (hSd.pk (A:=pt b4 (.cells (aB k).toArray 34 (0,0)))),qp (hSd.pk (A:=pt b5 (.cells (dL v).toArray mJ (0,0))))⟩;refine rP 0 ?_ (y:=bD);refine rP 1 ?_ (y:=iG);refine rP 2 ?_ (y:=dh);refine rt 3 (h:=?_);refine rP 4 ?_ (y:=bD);refine gJ 5 ay au bP (lM (b:=b4) (o:=0) (aB k) ah underlying34 rfl (by rw [Ap.o];kernel_rfl) (λw hw=>hw.2.1)) aQ gQ ?_;refine gJ 6 ay au bP (lM (b:=b5) (o:=0) (dL v) ah Ac rfl au (λw hw=>hw.2.2)) aQ gQ ?_
  refine rP 7 ?_ (y:=(I5 ay ay ay (λw=>ac8 k Hk.o v w)));refine rP 8 ?_ (y:=iV);clear hG;refine cZ 9 ay au (λK hK=>?_);refine D8 (vs:=slotL dL ⟨1,k,v⟩) (P1*dZ) hSd ay ay rfl (lN bU) (by rw [hrl,hls];((try simp only [dZ,iM,jc,mJ,gW] at *);omega)) (by rw [hls];kernel_rfl) (pX dL _ ah) ?_;intro w12 kH;refine hK _ _ (.inl rfl) ?_;clear hK hSd;refine dX au ?_
  try simp only [jI]
  try go_frame
  rw [<-wz.o]at kH
  go_wp2_with (first
   |((with_reducible refine bC ⟨?_⟩);refine eY kH ah bK bG ay au ?_)
   |((with_reducible refine bW ⟨?_⟩);refine jM aQ ah ay pQ gZ bG au ah ?_;intro wS hS))
  go_end0
  exact ⟨_,rfl,II (sv:= .slice (some ⟨bk1,0,none⟩) t1.slots.length yA) nZ.o Aw.o (by have:=Hb1.o;simp only;((try simp only [dZ,iM,jc,mJ,gW] at *);omega)) (hS.sb)⟩) : p := h
theorem dM.ac5:type_of% @func195:=@func195
theorem dM.ac6:type_of% @ntmps195:=@ntmps195
theorem dM.ac7:type_of% @abx:=@abx
theorem dM.ac8:type_of% @aco:=@aco
open dM in
theorem akH (hB:B<=134217000) (hk:k.length=32) (v:Rep.dU) (h:Sat w0 w (fJ p m B::F)) :
  Calls prog 195 #[ptr p,.agg (aB k).toArray,.agg (fA v).toArray] w (aN λ_ w'=>Sat w0 w' (fJ p (Tab.put m k v) (B+1)::F)):=aaf
theorem Rh {p : Prop} (h : p := by
 have h0:=Sat.start W;have h1:=h0.alloc (.cells (slotL kP x).toArray mY);have h2:=(h1.alloc (.cells (slotL kP y).toArray mY)).drew;have hsz:(W.alloc (.cells (slotL kP x).toArray mY)).heap.size=W.heap.size+1:=Array.size_push ..;rw [hsz]at h2
 have r1:aW 1 (.slice (some ⟨W.heap.size,1,none⟩) 32 32) (aB x.key) ((W.alloc (.cells (slotL kP x).toArray mY)).alloc (.cells (slotL kP y).toArray mY)).drew:=
  ⟨_,_,_,rfl,by rw [aP,hx],λj z hj=>⟨_,rfl,by rw [Bd];exact Df (h2.pick aT) j z hj⟩⟩
 have r2:aW 1 (.slice (some ⟨W.heap.size+1,1,none⟩) 32 32) (aB y.key) ((W.alloc (.cells (slotL kP x).toArray mY)).alloc (.cells (slotL kP y).toArray mY)).drew:=
  ⟨_,_,_,rfl,by rw [aP,hy],λj z hj=>⟨_,rfl,by rw [Bd];exact Df (h2.pick aK) j z hj⟩⟩
 have hb:=WL x.key y.key r1 r2;clear h0 h1 h2 r1 r2 hsz;generalize Lib.compareBytes x.key y.key=r at *
 go_enter Ux,Uy;go_wp2_with fail;have hG:True:=trivial;refine eF [] (λw'=>True) au ?_;refine rP 0 ?_ (y:=dh);refine rp 1 (hy:=yE0) (h:=?_);refine rP 2 ?_ (y:=dh);refine rp 3 (hy:=yE0) (h:=?_);refine cZ 4 ay au (λK hK=>?_)
 (refine jB au ay ay ?_)
 refine hb.mono ?_;rintro e w' ⟨rfl,rfl⟩;refine hK _ _ (.inr (.inr rfl)) ?_;clear hK hb;refine rP 5 ?_ (y:=jU);refine dX au ?_;clear hG;go_wp2_with fail;go_ret;exact ⟨rfl,1,#[.cells (slotL kP x).toArray mY,.cells (slotL kP y).toArray mY],by rw [Sort.alloc_eq_grow,Sort.alloc_eq_grow,Sort.grow_grow,Sort.drew_grow];rfl⟩) : p := h
theorem dM.Ux:type_of% @func259:=@func259
theorem dM.Uy:type_of% @ntmps259:=@ntmps259
open dM in
theorem Xd (x y:Tab.Slot (Rep.dU)) (hx:x.key.length=32) (hy:y.key.length=32) (W:World) :
  Calls prog 259 #[.agg (slotL fA x).toArray,.agg (slotL fA y).toArray] W λe w'=>e=.returned (.int .i64 (Lib.compareBytes x.key y.key))/\∃ q os',w'=Sort.grow (W.drewN q) os':=Rh
open Go.Sort
abbrev V5:Type:={ x:Tab.Slot (Rep.dU) // x.key.length=32 }
instance:Inhabited V5:=⟨⟨⟨0,aj.zero32,⟨0,Seg.aZ.zero,0⟩⟩,rfl⟩⟩
theorem Ri {p : Prop} (h : p := by
 have hlen:∀ x∈l,(slotL kP x).length=lG:=λx hx=>kZ kP x (hk x hx) qU (IJ _);rcases h.kL with ⟨rfl,hn',h'⟩|⟨g,n,cap,cs,rfl,hl,hn',hc,hcm,htk,hp⟩
 ·obtain rfl:l=[]:=by
   cases l with
   |nil=>rfl
   |cons x l=>rw [aen]at hn';have:=aeO List.length hn';rw [aa7,hlen x (.head _)]at this;simp at this
  refine (AnyF.slices_SortFunc_none MV none 0 (.func (.func EP) #[] #[]) w).mono ?_;rintro e w1 ⟨rfl,rfl⟩;exact ⟨_,rfl,[],⟨.refl _,.nil⟩,h⟩
 ·rw [iK hlen,aiS]at hl;obtain rfl:n=l.length:=(Nat.eq_of_mul_eq_mul_right aG hl).symm;let d:Array qV:=(l.attach.map λx=>(⟨x.1,hk x.1 x.2⟩:qV)).toArray;have hd:d.toList.map (·.1)=l:=by
   show (l.attach.map λx=>(⟨x.1,hk x.1 x.2⟩:qV)).map (·.1)=l;rw [ahU];exact List.attach_map_subtype_val l
  have hds:d.size=l.length:=by rw [<-hd,abl,ad6]
  have hke:∀ x:qV,((λx:qV=>slotL kP x.1) x).length=lG:=λx=>kZ kP x.1 x.2 qU (IJ _);have hfl:∀ d:Array qV,(flatK (λx:qV=>slotL kP x.1) lG d).toList=(d.toList.map (·.1)).flatMap (slotL kP):=λd=>by
   rw [ahd hke aG,List.flatMap_map]
  have hH:HoldsK (λx:qV=>slotL kP x.1) lG w g 0 d:=ah1 hp.at (by rw [size_flatK,hds,hfl,hd];exact htk);refine (AnyQ.slices_SortFunc MV lG UA UC (λx:qV=>slotL kP x.1) hke (λx v hv=>agt.1 (pX kP x.1 (MP _)) v hv) (λx y=>Lib.compareBytes x.1.key y.1.key) (Tab.am5 λx:qV=>x.1.key) EP #[] g 0 cap d w (λargs w=>by kernel_rfl) (λm os dk _ x y=>UD x.1 y.1 x.2 y.2 _) hH hp.lt oQ |> λq=>(by rw [hds]at q;exact q:Calls prog MW #[.slice (some ⟨g,0,none⟩) l.length cap,.func (.func EP) #[] #[]] w _)).mono ?_;rintro e w1 ⟨rfl,d',n',os,hpm,hst,rfl⟩;obtain ⟨q1,q2⟩:=Tab.amP (key:=λx:qV=>x.1.key) (by rw [hds];exact hpm) (by rw [hds];exact hst);have hl':d'.toList.length=l.length:=by rw [q1.length_eq,ad6,hds]
  have hS:=ams (n:=n') (os:=os) hp (flatK (λx:qV=>slotL kP x.1) lG d');have hsz':(flatK (λx:qV=>slotL kP x.1) lG d').size=l.length*lG:=by rw [size_flatK,<-ad6,hl']
  refine ⟨_,rfl,d'.toList.map (·.1),⟨by rw [<-hd];exact q1.map _,ahB.2 q2⟩,?_⟩;refine hS.kU ?_ hn' (by simpa [Sort.putCells] using hc) hcm ?_
  ·rw [<-hfl,ad6,hsz']
  ·rw [<-hfl,<-hsz'];refine ano _ ?_;have:l.length*lG<=cap*lG:=aiI _ hn'
   ((try simp only [lG,qU,EP,MW] at *);omega)) : p := h
theorem dM.MV:type_of% @Tryz.sortA:=@Tryz.sortA
abbrev dM.EP:Nat:=259
abbrev dM.qV:=@V5
theorem dM.UA:type_of% @Tryz.isAgg345:=@Tryz.isAgg345
theorem dM.UC:type_of% @Tryz.sizeOf345:=@Tryz.sizeOf345
theorem dM.UD:type_of% @Xd:=@Xd
abbrev dM.MW:Nat:=258
open dM in
theorem amL (l:List (Tab.Slot (Rep.dU))) (hk:∀ x∈l,x.key.length=32) (hn:l.length<=1073741824) (h:Sat w0 w (aC 345 38 v (l.flatMap (slotL fA))::F)) :
  Calls prog 258 #[v,.func (.func 259) #[] #[]] w (aN λ_ w'=>∃ l':List (Tab.Slot (Rep.dU)),(l'.Perm l/\l'.Pairwise λa b=>¬ b.key<a.key)/\Sat w0 w' (aC 345 38 v (l'.flatMap (slotL fA))::F)):=Ri
open Go.ak
section
variable {t:Tab.Tb (Rep.dU)}
theorem abO (hB:B<=13000000) (h:Sat w0 w (fJ p m B::F)) :
  Calls prog 238 #[ptr p] w (aN λv w'=>∃ l:List (Tab.Slot (Rep.dU)),(Tab.Lists m (l.map λx=>(x.key,x.val))/\(∀ x∈l,x.st=1/\x.key.length=32)/\l.length<=B)/\Sat w0 w' (aC 345 38 v (l.flatMap (slotL fA))::fJ p m B::F)):=by
 obtain ⟨t,sv,⟨ok,is,hb⟩,hR⟩:=fJ.open h;have hsz:t.slots.length<=56000000:=by have:=ok.size;omega
 have Hlen:=uQ (show ∀ x∈t.slots,(slotL fA x).length=38 from λx hx=>kZ fA x (ok.good.key x hx) 5 (FW _));obtain ⟨la,lc,rfl⟩:=iP Hlen.o (Sat.rd (hR.pick aT)) aG;have bI:=uQ ok;have kF:=uQ is;have Hb:=uQ hb;have iQ:=uQ hsz;have lJ:=uQ ok.good.lU;clear h ok is hb hB;have hS0:Sat w0 w (aC 345 38 (.slice none 0 0) []::fV p 306 (.slice la t.slots.length lc) t.n t.gone::aC 345 38 (.slice la t.slots.length lc) (t.slots.flatMap (slotL fA))::F):=Sat.dO.2 hR;clear hR;go_enter func238,ntmps238;go_wp2_with fail;refine (Sj lJ.o (hS0.pick aT)).mono ?_;rintro ee w7 ⟨v,rfl,rfl,rfl⟩;go_wp2_with ((with_reducible refine bC ⟨?_⟩);refine eY hS0 ah bK bG ay au ?_)
 go_loopg [3,14] t.slots.length (λg oq iq wr=>∃ (i:Nat),g=t.slots.length-i/\i<=t.slots.length/\iq=.int .i64 i /\
  Sat w0 wr (aC 345 38 oq (((t.slots.take i).filter λx=>decide (x.st=1)).flatMap (slotL fA))::fV p 306 (.slice la t.slots.length lc) t.n t.gone::aC 345 38 (.slice la t.slots.length lc) (t.slots.flatMap (slotL fA))::F))
 case atStart=>exact ⟨0,rfl,ad4 _,rfl,hS0⟩
 case round=>
  obtain ⟨i,rfl,hi,rfl,hS⟩:=hrel;clear hS0;by_cases hlt:i<t.slots.length;rotate_left
  ·obtain rfl:i=t.slots.length:=by omega
   have c1:¬ (t.slots.length:Int)<(t.slots.length:Int):=oQ;rw [aeH]at hS;have hfk:∀ x∈t.slots.filter λx=>decide (x.st=1),x.key.length=32:=λx hx=>bI.o.good.key x (aex.1 hx).1;have hs:=amL (t.slots.filter λx=>decide (x.st=1)) hfk (adT (aiK _ _) (adT hsz aG)) hS;clear hlt hi hS hfk;go_wp2_with fail;refine hs.mono ?_;rintro ee w8 ⟨v,rfl,l,⟨h1,h2⟩,kJ⟩;clear hs;have Hl:=uQ (Tab.KG bI.o.good kF.o h1 h2)
   have Hll:=uQ (show l.length<=B from by
    rw [h1.length_eq,<-apk];have e:t.slots.countP (λx=>decide (x.st=1))=Tab.kS t.slots:=by
     unfold Tab.kS;refine List.countP_congr λx _=>?_;simp
    have:=bI.o.n;have:=Hb.o;omega)
   clear h1 h2;go_wp2_with fail;go_ret;exact ⟨_,rfl,l,⟨Hl.o.1,Hl.o.2,Hll.o⟩,Sat.SG (fJ.shut bI.o kF.o Hb.o (kJ.sb))⟩
  have c1:(i:Int)<(t.slots.length:Int):=oQ;have hwi:=qm (i:=i);obtain ⟨x,hx⟩:∃ x,t.slots[i]?=some x:=⟨_,aaJ hlt⟩;have hxm:=acr hx;have hst:=bI.o.good.st x hxm;have Hxk:=uQ (bI.o.good.key x hxm);obtain ⟨bk,off,c',hsv,hcell⟩:=iL Hlen.o (Sat.rd (hS.pick fE)) hx aG;cases hsv;have gB:=Hlen.o x hxm;have htk:(t.slots.take (i+1)).filter (λx=>decide (x.st=1))=(t.slots.take i).filter (λx=>decide (x.st=1))++[x].filter λx=>decide (x.st=1):=by
   rw [aeN,hx,ahW,anP]
  have dP:=uQ htk;have aS:=uQ hlt;have BX:(((t.slots.take i).filter λx=>decide (x.st=1)).flatMap (slotL fA)).length<=2147483648:=by
   rw [iK λy hy=>Hlen.o y (ae2 (aex.1 hy).1)];have h1:=aiK (λx=>decide (x.st=1)) (t.slots.take i);have h2:=aoM i t.slots;have h3:=iQ.o;omega
  clear hx hxm hlt hi htk
  go_wp2_with (first
   |((with_reducible refine bC ⟨?_⟩);refine iD (b:=bk) (o:=off+i*38) (slotL fA x) ah hcell underlying345 rfl yN0 ?_)
   |(with_reducible apply eG))
  refine ⟨eU Dv hS rfl ?_⟩;intro b7 w7 hS7;go_wp2_with (first|((with_reducible refine bW ⟨?_⟩);refine fG (slotL fA x).toArray hS7 ah ah zC0 bU yK0 (by rw [ad7];exact pX fA x (DV _)) ?_;intro w10 dG)|(with_reducible apply bC));refine ⟨?_⟩;clear hS hS7 hcell;have f0:w10.cell? ⟨b7,0,none⟩=some (.int .i64 x.st):=dG.cellP aK 0 (by rw [aeh];rfl);by_cases h1:x.st=1;rotate_left
  ·have hst1:((x.st:Int)==1)=false:=by rw [ad3];omega
   have e9:(t.slots.take (i+1)).filter (λx=>decide (x.st=1))=(t.slots.take i).filter (λx=>decide (x.st=1)):=by
    rw [dP.o,apl (by rw [aea h1];decide),apj,aei]
   have E9:=uQ e9;clear h1 e9;go_wp2_with fail
   go_roundg (t.slots.length-(i+1))
   case measure=>have:=aS.o;omega
   case rel=>exact ⟨i+1,rfl,aS.o,by first|rfl|go_num,by rw [E9.o];exact dG.sb⟩
  ·have hst1:((x.st:Int)==1)=true:=by rw [h1];rfl
   have e9:((t.slots.take (i+1)).filter (λx=>decide (x.st=1))).flatMap (slotL fA)=((t.slots.take i).filter (λx=>decide (x.st=1))).flatMap (slotL fA)++slotL fA x:=by
    rw [dP.o,apm (by rw [aem h1]),apj,aeB,aen,aiq,aei]
   have E9:=uQ e9;clear h1 e9
   go_wp2_with (first
    |((with_reducible refine bC ⟨?_⟩);refine iC dG ah bK underlying345 rfl yK0 ?_)
    |(with_reducible apply jh))
   refine ⟨jg (e:=345) (sz:=38) (dF:=80) au dG ah (cs:=(slotL fA x).toArray) rfl (by rw [abA,gB]) aG ?_⟩;intro bN wN hN;go_wp2_with (with_reducible apply fZ);refine ⟨jF 345 38 80 au hN ah ah bK aK (by rw [abA,gB]) (ab1 1) (by rw [ad7];exact pX fA x (DV _)) BX (by rw [abA,gB];decide) aG (by rw [ad7]) ?_⟩;intro bA nA cA wA hA;go_wp2_with fail;rw [<-E9.o]at hA
   go_roundg (t.slots.length-(i+1))
   case measure=>have:=aS.o;omega
   case rel=>exact ⟨i+1,rfl,aS.o,by first|rfl|go_num,hA.sb⟩
end
end Go.Proofs.Y
namespace Go
open Go.Sl
variable {P:Program}{ops:Array Oper}{Q:Exit->Act->World->Prop}{K:Act->World->Prop}{l:Option Nat}{n:Nat}
abbrev rf (l:Option Nat):Fence:={ Fence.wide with round:=l }
abbrev calm (K:Act->World->Prop):Exit->Act->World->Prop:=Exit.then K λ_ _ _=>False
theorem O8:¬ LetsOut (calm K):=λ⟨_,_,h⟩=>h
theorem alE {row:String}{args:Array Value}{w:World}{R:Value->World->Prop} (h:Rows P row args w R):RowsIn (rf l) n P row args w R:=λc cs _=>by
 obtain ⟨v,w',r,s⟩:=h c cs;exact ⟨v,w',r,stepsIn_wide.2 s⟩
theorem aa0 {o:Oper}{a:Act}{w:World}{N N':Act->World->Prop} (ho:∀ c,o.op ≠ .defer c) (hN:∀ a w,N a w->N' a w) (h:o.wp P a w N (calm K)):o.wpIn (rf l) n P a w N' Q:=by
 refine ⟨λ_ _=>trivial,?_⟩;rw [Oper.semAt_eq _ _ _ ho];unfold Oper.wp at h;generalize (execOp a.eval o).run P w=r at h ⊢;cases r with
 |ok x w'=>
  cases x with
  |value v=>exact hN _ _ h
  |skip=>exact hN _ _ h
  |defer d=>exact hN _ _ h
  |enter f args=>
   refine ⟨(λhd=>by cases hd),?_⟩;refine CallsIn.mono (callsIn_wide.2 h) λe w'' he=>?_;cases e with
   |returned v=>exact hN _ _ he
   |panicked c=>exact False.elim he
   |outgrown=>exact (O8 he).elim
  |row row args=>exact ⟨(λhd=>by cases hd),(alE h).mono λv w'' he=>hN _ _ he⟩
  |round l' f tmps assign body=>exact h.elim
  |_=>exact h.elim
 |halt x w'=>
  cases x with
  |panic v=>exact False.elim h
  |_=>exact h.elim
theorem Q5 {CW:List Oper} (hK:∀ a w,K a w->wpListIn (rf l) n P ops Q CW a w):∀ (rest:List Oper) (a:Act) (w:World),(∀ o∈rest,∀ c,o.op ≠ .defer c)->wpList P ops (calm K) rest a w->wpListIn (rf l) n P ops Q (rest++CW) a w
 |[],a,w,_,h=>hK _ _ h
 |o::rest,a,w,hd,h=>by
  have ih:=Q5 (CW:=CW) hK rest;show if Region.wanted o (yielded ops a.tmps)=true then o.wpIn (rf l) n P a w (wpListIn (rf l) n P ops Q (rest++CW)) Q else (∀ f,o.about P w a.eval=some f->(rf l).fn f)/\wpListIn (rf l) n P ops Q (rest++CW) (a.put o.dst undef) w
  have h':if Region.wanted o (yielded ops a.tmps)=true then o.wp P a w (wpList P ops (calm K) rest) (calm K)\/(o.asks P a w/\LetsOut (calm K)) else wpList P ops (calm K) rest (a.put o.dst undef) w:=h
  split at h'
  ·rename_i hw;rw [adU hw];rcases h' with h'|h'
   ·exact aa0 (hd o (.head _)) (λa w h=>ih a w (λo ho=>hd o (.tail _ ho)) h) h'
   ·exact (O8 h'.2).elim
  ·rename_i hw;rw [abL hw];exact ⟨λ_ _=>trivial,ih _ _ (λo ho=>hd o (.tail _ ho)) h'⟩
abbrev CO (ops:Array Oper):Bool:=ops.toList.all λo=>match o.op with | .defer _=>false|_=>true
theorem RP (hd:CO ops=true):∀ o∈ops.toList,∀ c,o.op ≠ .defer c:=λo ho c e=>by
 have:=(agt.1 hd) o ho;rw [e]at this;cases this
theorem ZY {rest:List Oper}{a:Act}{w:World} (hd:∀ o∈rest,∀ c,o.op ≠ .defer c) (h:wpList P ops (calm (Q .normal)) rest a w):wpListIn (rf l) n P ops Q rest a w:=by
 have:=Q5 (l:=l) (n:=n) (CW:=[]) (Q:=Q) (λ_ _ h=>h) rest a w hd h;rw [aei]at this;exact this
theorem ak2 {id:Nat}{a:Act}{w:World} (hd:CO ops=true) (h:wpList P ops (calm (Q .normal)) ops.toList a w):(Code.region id ops false).wpIn (rf l) n P Q a w:=
 wpIn_region_list (ZY (RP hd) h)
theorem Js (hd:∀ o∈ops.toList,∀ c,o.op ≠ .defer c):∀ (k:Nat) (ls:Array Bool) (a:Act) (w:World),wpAny P .any ops (calm (Q .normal)) k ls a w->wpAnyIn (rf l) n P .any ops Q k ls a w
 |0,_,_,_,h=>h
 |k+1,ls,a,w,h=>by
  refine ⟨h.1,λi hi=>?_⟩;have h':=h.2 i hi;unfold wpOp at h';unfold wpOpIn;split at h'
  ·rename_i he;simp only [he];exact Js hd k _ _ _ h'
  ·rename_i o he;simp only [he];split at h'
   ·rename_i hw;rw [adU hw];rcases h' with h'|h'
    ·refine aa0 (hd o ?_) (λa w h=>Js hd k _ a w h) h';rw [<-ahC]at he;exact acr he
    ·exact (O8 h'.2).elim
   ·rename_i hw;rw [abL hw];exact ⟨λ_ _=>trivial,Js hd k _ _ _ h'⟩
theorem ak3 {id:Nat}{a:Act}{w:World} (late:List Nat) (G:World->Prop) (hd:CO ops=true) (hm:P.follows .mixedOrders=true)
  (h:jT P ops (calm (Q .normal)) late G ops.size (Array.replicate ops.size false) a w.drew):(Code.region id ops true).wpIn (rf l) n P Q a w:=
 wpIn_region_any hm (Js (RP hd) _ _ _ _ (UR _ _ _ _ h))
theorem wW {id:Nat}{rest:List Oper}{a:Act}{w:World} (hd:CO rest.toArray=true) (h:∀ K:Act->World->Prop,(∀ a w,Q .normal a w->K a w)->wpList P rest.toArray (Exit.then K λ_ _ _=>False) rest a w):(Code.region id rest.toArray false).wpIn (rf l) n P Q a w:=
 ak2 hd (by simpa using h _ λ_ _ h=>h)
theorem ak4 {id:Nat}{a:Act}{w:World} (late:List Nat) (G:World->Prop) (hd:CO ops=true) (hm:P.follows .mixedOrders=true)
  (h:∀ K:Act->World->Prop,(∀ a w,Q .normal a w->K a w)->jT P ops (Exit.then K λ_ _ _=>False) late G ops.size (Array.replicate ops.size false) a w.drew):(Code.region id ops true).wpIn (rf l) n P Q a w:=
 ak3 late G hd hm (h _ λ_ _ h=>h)
theorem ak5 {id:Nat}{a:Act}{w:World} (pre:List Oper) (o:Oper) (post:List Oper) (he:ops.toList=pre++o::post) (hd:CO ops=true)
  (h:wpList P ops (calm λa w=>Region.wanted o (yielded ops a.tmps)=true/\∃ (l':Nat) (f:FuncId) (tmps:Array Value) (assign body:Code),(execOp a.eval o).run P w=.ok (.round l' f tmps assign body) w /\
   RoundIn Fence.wide 0 P l' f tmps assign body w (λe w'=>∃ v,e=.returned v/\wpList P ops (calm (Q .normal)) post (a.put o.dst v) w')) pre a w) :
  (Code.region id ops false).wp P Q a w:=by
 refine wpIn_wide (n:=0).1 (wpIn_region_list ?_);have hd':=RP hd;rw [he]at hd' ⊢;refine Q5 (l:=none) (n:=0) (K:=_) (λa w hk=>?_) pre a w (λo ho=>hd' o (aob _ ho)) h;obtain ⟨hw,l',f,tmps,assign,body,hx,hF,hc⟩:=hk;show if Region.wanted o (yielded ops a.tmps)=true then o.wpIn (rf none) 0 P a w (wpListIn (rf none) 0 P ops Q post) Q else _
 rw [adU hw];refine ⟨λ_ _=>trivial,?_⟩;rw [Oper.semAt_eq _ _ _ (hd' o yF0),hx];refine ⟨(λhd=>by cases hd),hF,λc cs hro=>?_⟩;obtain ⟨e,w',⟨v,rfl,hv⟩,hs⟩:=hc c cs hro;exact ⟨.returned v,w',ZY (l:=none) (n:=0) (λo ho=>hd' o (List.mem_append_right _ (.tail _ ho))) hv,hs⟩
theorem ak6 {a:Act}{w:World}{id:Nat}{o0 o1 o2 o3 o4 o o6:Oper}{c:Code} (hd:CO #[o0,o1,o2,o3,o4,o,o6]=true)
  (h:∀ K:Act->World->Prop,(∀ a w,c.wp P Q a w->K a w)->wpList P #[o0,o1,o2,o3,o4,o,o6] (calm λa w=>Region.wanted o (yielded #[o0,o1,o2,o3,o4,o,o6] a.tmps)=true/\∃ (l':Nat) (f:FuncId) (tmps:Array Value) (assign body:Code),(execOp a.eval o).run P w=.ok (.round l' f tmps assign body) w /\
   RoundIn Fence.wide 0 P l' f tmps assign body w (λe w'=>∃ v,e=.returned v/\wpList P #[o0,o1,o2,o3,o4,o,o6] (Exit.then K λ_ _ _=>False) [o6] (a.put o.dst v) w')) [o0,o1,o2,o3,o4] a w) :
  (Code.seq (Code.region id #[o0,o1,o2,o3,o4,o,o6] false) c).wp P Q a w:=
 wp_seq (ak5 [o0,o1,o2,o3,o4] o [o6] rfl hd (h _ λ_ _ h=>h))
open Go.Sl Go.RowKit
section
variable {P:Program}{w0 w:World}{F R L:List aF}{b:Nat}{o o':Obj}{kv:List (Array Value)}{A A':List aF}
theorem Sl.Sat.putObj (o':Obj) (h:Sat w0 w (pt b o::R)):Sat w0 (w.putObj b o') (pt b o'::R):=
 h.turn rfl rfl rfl (by rw [World.putObj_size];exact ab1 _) (World.putObj_heap_same h.lt) λi hi _=>World.putObj_heap_other hi
theorem Sl.Sat.Jt (h:Sat w0 w (L++R)):Sat w0 w (R++L):=h.perm aoJ
def Iter (P:Program) (gf:Nat) (lb:Array Value) (kv:List (Array Value)) (w0:World) (A A':List aF):Prop:=
 ∀ (l:Nat) (R:List (Array Value)->List aF),
  (∀ pre x post W U,kv=pre++x::post->Sat w0 W (R pre++U)->∃ f tmps assign body,(Instr.yield l x).run P W=.ok (.round l f tmps assign body) W /\
   RoundIn Fence.wide 0 P l f tmps assign body W (λe W'=>e=.returned (.bool true)/\Sat w0 W' (R (pre++[x])++U))) ->
  ∀ W,Sat w0 W (A++R [])->Calls P gf (#[.func (.yield l) #[] #[]]++lb) W (aN λv W'=>Sat w0 W' (A'++R kv))
theorem adH {g:Operand}{ps:Array Tmp}{assign body:Code}{Q:Exit->Act->World->Prop}{a:Act}{gf:Nat}{lb:Array Value}
  (hg:a.eval g=.func (.func gf) #[] lb) (eg:∀ args w,(callFunc gf args).run P w=.ok (.enter gf args) w)
  (hit:Iter P gf lb kv w0 A A') (hps:∀ x∈kv,x.size=ps.size) (R:List (Array Value)->List aF) (h:Sat w0 w (A++R []))
  (ah4:∀ (l:Nat) (pre:List (Array Value)) (x:Array Value) (post:List (Array Value)) (U:List aF) (W:World),kv=pre++x::post->Sat w0 W (R pre++U) ->
   ∀ T,T=(ps.zip x).foldl (λt (p,v)=>t.setIfInBounds p v) a.tmps->assign.wpIn (rf (some l)) 0 P (Exit.then (λa₁ w₁=>∃ M:List aF,Sat w0 w₁ (M++U)/\∀ U' w₂,Sat w0 w₂ (M++U')->body.wpIn (rf (some l)) 0 P (λe _ w₃=>e=.normal/\Sat w0 w₃ (R (pre++[x])++U')) a₁ w₂) (λ_ _ _=>False))
    { tmps:=T,defers:=[] } W)
  (hdone:∀ D w',Sat w0 w' (A'++(R kv++[pt D (.deferred (some []))]))->Q .normal { a with defers:={ target:= .collected D,args:=#[] }::a.defers } w') :
  (Code.rangeFunc g ps assign body).wp P Q a w:=by
 refine (wpIn_wide (n:=0)).1 (wpIn_rangeFunc ?_);intro fn hfn;obtain ⟨rec,hrec⟩:∃ rec:LoopState->Option Code->Loop,rec=λst pe=>{ state:=st,pending:=pe,fn,tmps:=a.tmps,params:=ps,assign,body,defers:=w.heap.size }:=⟨_,rfl⟩;obtain ⟨D,hD⟩:∃ D,D=w.heap.size:=⟨_,rfl⟩;obtain ⟨l,hl⟩:∃ l,l=D+1:=⟨_,rfl⟩;obtain ⟨W1,hW1⟩:∃ W1,W1=(w.alloc (.deferred (some []))).alloc (.loop (rec .ready none)):=⟨_,rfl⟩;have hS1:Sat w0 W1 (pt l (.loop (rec .ready none))::pt D (.deferred (some []))::(A++R [])):=by
  have:=(h.alloc (.deferred (some []))).alloc (.loop (rec .ready none));rw [World.size_alloc,<-hW1,<-hD,<-hl]at this;exact this
 refine ⟨l,[{ target:= .collected D,args:=#[] }],W1,{ target:= .fn (.func gf) lb,args:=#[.func (.yield l) #[] #[]] },W1,gf,#[.func (.yield l) #[] #[]]++lb,W1,?_,?_,?_,?_,(λh=>by cases h),?_⟩
 ·rw [hW1,hl,hD,hrec];exact run_enterLoop_outer _ _ _ _ _
 ·simp only [resolve,hg];simp [go_sem]
 ·intro f' _;trivial
 ·simp [invoke,go_sem,eg]
 ·refine callsIn_wide.2 ((hit l (λpre=>R pre++[pt l (.loop (rec .ready none)),pt D (.deferred (some []))]) ?_ W1 ?_).mono ?_)
  ·intro pre x post W U hkv hS;have hS':Sat w0 W (pt l (.loop (rec .ready none))::(R pre++(pt D (.deferred (some []))::U))):=by
    rw [ad2]at hS;exact hS.perm ao2
   have hat:=hS'.at;have hy:=run_yield (P:=P) (args:=x) hat (by rw [hrec];exact hps x (by rw [hkv];simp));refine ⟨_,_,_,_,hy,roundIn_of_wpIn trivial ?_⟩
   have hr:=ah4 l pre x post (pt D (.deferred (some []))::U++[pt l (.loop (rec .ready none))]) W hkv (hS'.perm (by
    rw [<-aiQ,<-ad2];exact (aoJ (l₁:=[pt l (.loop (rec .ready none))]) (l₂:=R pre++(pt D (.deferred (some []))::U))))) _ rfl
   have e1:((rec .ready none).params.zip x).foldl (λtmps (t,a)=>tmps.setIfInBounds t a) (rec .ready none).tmps=(ps.zip x).foldl (λt (p,v)=>t.setIfInBounds p v) a.tmps:=by rw [hrec]
   rw [e1];have e2:(rec .ready none).assign=assign:=by rw [hrec]
   have e3:(rec .ready none).body=body:=by rw [hrec]
   rw [e2,e3];refine wpIn_mono hr ?_;intro e a1 w1 he;cases e with
   |normal=>
    obtain ⟨M,hM,hb⟩:=he
    have hM':Sat w0 w1 (pt l (.loop (rec .ready none))::(M++(pt D (.deferred (some []))::U))):=hM.perm (by
     rw [<-ad2];exact aoJ (l₁:=M++(pt D (.deferred (some []))::U)) (l₂:=[pt l (.loop (rec .ready none))]))
    have hM2:=hM'.putObj (.loop { rec .ready none with state:= .busy });refine ⟨_,run_beginRound hM'.at (by rw [hrec]),?_⟩
    refine wpIn_mono (hb (pt D (.deferred (some []))::U++[pt l (.loop { rec .ready none with state:= .busy })]) _ (hM2.perm (by
     rw [<-aiQ,<-ad2];exact (aoJ (l₁:=[pt l (.loop { rec .ready none with state:= .busy })]) (l₂:=M++(pt D (.deferred (some []))::U)))))) ?_
    rintro e2 a2 w2 ⟨rfl,hS2⟩
    have hS3:Sat w0 w2 (pt l (.loop { rec .ready none with state:= .busy })::(R (pre++[x])++(pt D (.deferred (some []))::U))):=hS2.perm (by
     rw [<-ad2];exact aoJ (l₁:=R (pre++[x])++(pt D (.deferred (some []))::U)) (l₂:=[pt l (.loop { rec .ready none with state:= .busy })]))
    refine ⟨_,_,run_endRound none hS3.at,rfl,?_⟩;have hS4:=hS3.putObj (.loop (rec .ready none));have e4:(Obj.loop { { rec .ready none with state:= .busy } with state:=if (none:Option Code).isNone then .ready else .done,pending:=none })=.loop (rec .ready none):=by rw [hrec];rfl
    rw [e4];refine hS4.perm ?_;rw [ad2];exact ao2.symm
   |exit id=>exact he.elim
   |goto t=>exact he.elim
   |ret=>exact he.elim
   |panic c=>exact he.elim
   |outgrown=>exact he.elim
  ·refine hS1.perm ?_;rw [<-ad2];exact (aoJ (l₁:=[pt l (.loop (rec .ready none)),pt D (.deferred (some []))]) (l₂:=A++R []))
  ·rintro e W2 ⟨v,rfl,hS⟩
   have hS':Sat w0 W2 (pt l (.loop (rec .ready none))::(A'++(R kv++[pt D (.deferred (some []))]))):=hS.perm (by
    rw [<-ad2,<-ad2];exact ao2)
   refine ⟨none,_,by have:=run_endLoop (P:=P) hS'.at (by rw [hrec];simp);rw [show (rec .ready none).pending=none by rw [hrec]]at this;exact this,?_⟩;exact hdone D _ (hS'.putObj _).drop
theorem ZQ {fn:Func}{tmps:Array Value}{K:Ending->World->Prop}{D:Nat}{v:Value} (h:Sat w0 w (pt D (.deferred (some []))::F)) (hv:∀ w,(results fn tmps).run P w=.ok v w) (hK:∀ w',Sat w0 w' F->K (.returned v) w') :
  LeavesInM Fence.wide 0 P fn tmps K [{ target:= .collected D,args:=#[] }] .returning w:=
 ⟨by simp,.inl ⟨_,_,rfl,run_takeDeferred h.at,⟨_,hv _,hK _ ((h.putObj (.deferred none)).drop)⟩⟩⟩
def PG (P:Program) (fn:Func) (K:Ending->World->Prop):Exit->Act->World->Prop
 |.normal,a,w | .ret,a,w=>LeavesInM Fence.wide 0 P fn a.tmps K a.defers .returning w
 |_,_,_=>False
theorem WX {f:FuncId}{fn:Func}{c:Code}{args:Array Value}{K:Ending->World->Prop} (hf:P.funcs[f]?=some fn) (hb:fn.body=some c)
  (h:c.wp P (PG P fn K) { tmps:=args++Array.replicate (fn.ntmps-args.size) undef,defers:=[] } w):Calls P f args w K:=
 (callsIn_wide (n:=0)).1 (callsIn_of_wp_marks hf hb trivial (wpIn_wide.2 (wp_mono h λe a w he=>by
  cases e with
  |normal=>exact he
  |ret=>exact he
  |_=>exact he.elim)) rfl)
theorem agU {fn:Func}{a:Act}{K:Ending->World->Prop}{D:Nat}{v:Value} (ha:a.defers=[{ target:= .collected D,args:=#[] }]) (h:Sat w0 w (pt D (.deferred (some []))::F)) (hv:∀ w,(results fn a.tmps).run P w=.ok v w)
  (hK:∀ w',Sat w0 w' F->K (.returned v) w'):PG P fn K .normal a w:=by
 show LeavesInM Fence.wide 0 P fn a.tmps K a.defers .returning w;rw [ha];exact ZQ h hv hK
end
end Go
namespace Go.Proofs.Y
open Go.ak
def Ba (x:aj.Bs×Rep.dU):Array Value:=#[.agg (aB x.1).toArray,.agg (fA x.2).toArray]
theorem afj (h:Sat w0 w F):Calls prog 196 #[ptr p] w
  (aN λv w'=>∃ b,v=.func (.func 237) #[] #[ptr b]/\Sat w0 w' (pt b (.cells #[ptr p] 251 (0,0))::F)):=by
 go_enter func196,ntmps196;go_wp2_with (first|((with_reducible refine fC ⟨?_⟩);refine fB aQ ay ay ?_;intro bB wB hB)|(with_reducible apply eG));go_ret;exact ⟨_,rfl,bB,rfl,hB⟩
theorem aag {p : Prop} (h : p := by
 intro ly R hY W hW;have Hl:=uQ hl;have hW0:Sat w0 W (ER p m B::pt b (.cells #[ptr p] Ad (0,0))::R []):=hW;clear hW hl;show Calls prog MX #[.func (.yield ly) #[] #[],ptr b] W _;go_enter ac9,ada;have hr:=adb hB hW0;go_wp2_with ((with_reducible refine bC ⟨?_⟩);refine eY hW0 ah bK bG ay au ?_);clear hW0;refine hr.mono ?_;rintro ee w1 ⟨sv,rfl,s,⟨hs1,hs2,hs3⟩,hS1⟩;clear hr;have e0:l=s.map λx=>(x.key,x.val):=Hl.o.unique hs1;clear hs1 Hl;subst e0;have ig:=uQ hs2;have um:=uQ hs3;have Hlen:=uQ (show ∀ x∈s,(slotL dL x).length=dZ from λx hx=>kZ dL x (hs2 x hx).2 iM (Dj _));obtain ⟨la,lc,rfl⟩:=iP Hlen.o (Sat.rd hS1) aG;have hsb:s.length<=13000000:=adT hs3 hB;clear hs2 hs3 hB;go_wp2_with fail
 go_loopg [8] s.length (λg iq wr=>∃ (i:Nat),g=s.length-i/\i<=s.length/\iq=.int .i64 i /\
  Sat w0 wr (aC gW dZ (.slice la s.length lc) (s.flatMap (slotL dL))::ER p m B::pt b (.cells #[ptr p] Ad (0,0))::R (((s.take i).map λx=>(x.key,x.val)).map yL)))
 case atStart=>exact ⟨0,rfl,ad4 _,rfl,hS1⟩
 case round=>
  obtain ⟨i,rfl,hi,rfl,hS⟩:=hrel;clear hS1;by_cases hlt:i<s.length;rotate_left
  ·obtain rfl:i=s.length:=by ((try simp only [dZ,iM,gW,Ad,MX] at *);omega)
   have c1:¬ (s.length:Int)<(s.length:Int):=oQ;rw [aeH]at hS;clear hlt hi;go_wp2_with fail
   go_end0
   exact ⟨_,rfl,by rw [<-ahU];exact hS.drop⟩
  have c1:(i:Int)<(s.length:Int):=oQ;have hwi:=qm (i:=i);obtain ⟨x,hx⟩:∃ x,s[i]?=some x:=⟨_,aaJ hlt⟩;have hxm:=acr hx;have Hxk:=uQ (ig.o x hxm).2;obtain ⟨bk,off,c',hsv,hcell⟩:=iL Hlen.o (Sat.rd (hS.pick aK)) hx aG;cases hsv;have gB:=Hlen.o x hxm;have dP:=uQ (show s.take (i+1)=s.take i++[x] by rw [aeN,hx,ahW]);have aS:=uQ hlt
  have Jo:=uQ (show (s.map λx=>(x.key,x.val)).map yL=((s.take i).map λx=>(x.key,x.val)).map yL++yL (x.key,x.val)::((s.drop (i+1)).map λx=>(x.key,x.val)).map yL by
   have e:s=s.take i++x::s.drop (i+1):=by
    obtain ⟨h1,rfl⟩:=acZ.1 hx;rw [<-agf h1,aeX]
   conv=>lhs;rw [e]
   simp only [aef,aes])
  clear hx hxm hlt hi
  go_wp2_with (first
   |((with_reducible refine bC ⟨?_⟩);refine iD (b:=bk) (o:=off+i*dZ) (slotL dL x) ah hcell MR rfl yN0 ?_)
   |(with_reducible apply eG))
  refine ⟨eU MQ hS rfl ?_⟩;intro b7 w7 hS7;go_wp2_with ((with_reducible apply bW));refine ⟨fG (slotL dL x).toArray hS7 ah ah zC0 bU yK0 (by rw [ad7];exact pX dL x (MS _)) ?_⟩;intro w10 dG;clear hS hS7 hcell;have f1:w10.rangeAt b7 1 (aB x.key):=Df (dG.pick aK);have f2:w10.rangeAt b7 33 (dL x.val):=amI Hxk.o (dG.pick aK);have e1:=underlying34
  have pO:Sat w0 w10 (R (((s.take i).map λx=>(x.key,x.val)).map yL)++[aC gW dZ (.slice (some ⟨bk,off,none⟩) s.length lc) (s.flatMap (slotL dL)),ER p m B,pt b (.cells #[ptr p] Ad (0,0))]):=
   (dG.drop:Sat w0 w10 ([aC gW dZ (.slice (some ⟨bk,off,none⟩) s.length lc) (s.flatMap (slotL dL)),ER p m B,pt b (.cells #[ptr p] Ad (0,0))]++R (((s.take i).map λx=>(x.key,x.val)).map yL))).Jt
  obtain ⟨yf,yt,ya,yb,hy,hr⟩:=hY _ _ _ w10 _ Jo.o pO;clear pO dG hY
  go_step
  go_step
  go_step
  refine ak6 ah ?_;intro K hK
  go_wp2_with (first
   |((with_reducible refine bC ⟨?_⟩);refine iD (b:=b7) (o:=1) (aB x.key) ah f1 e1 rfl yQ0 ?_)
   |((with_reducible refine bC ⟨?_⟩);refine iD (b:=b7) (o:=33) (dL x.val) ah f2 Ac rfl au ?_))
  refine ⟨_,yf,yt,ya,yb,hy,hr.mono ?_⟩;rintro ee w12 ⟨rfl,kH⟩;refine ⟨_,rfl,?_⟩;have Ef:Sat w0 w12 (aC gW dZ (.slice (some ⟨bk,off,none⟩) s.length lc) (s.flatMap (slotL dL))::ER p m B::pt b (.cells #[ptr p] Ad (0,0))::R (((s.take (i+1)).map λx=>(x.key,x.val)).map yL)):=by
   have:=kH.Jt;rw [dP.o,aef,aef];exact this
  clear kH hr hy f1 f2;go_wp2_with fail
  go_roundg (s.length-(i+1))
  case measure=>have:=aS.o;((try simp only [dZ,iM,gW,Ad,MX] at *);omega)
  case rel=>exact ⟨i+1,rfl,aS.o,by first|rfl|go_num,Ef⟩) : p := h
abbrev dM.ER:=@fJ
abbrev dM.Ad:Nat:=251
abbrev dM.MX:Nat:=237
theorem dM.ac9:type_of% @func237:=@func237
theorem dM.ada:type_of% @ntmps237:=@ntmps237
theorem dM.adb:type_of% @abO:=@abO
abbrev dM.yL:=@Ba
open dM in
theorem afi {b:Nat}{l:List (aj.Bs×Rep.dU)} (hB:B<=13000000) (hl:Tab.Lists m l) :
  Iter prog 237 #[ptr b] (l.map Ba) w0 [fJ p m B,pt b (.cells #[ptr p] 251 (0,0))] [fJ p m B,pt b (.cells #[ptr p] 251 (0,0))]:=aag
def bf (p:Nat) (m:aj.Bs->Option (Seg.aZ)) (B:Nat):aF:=λh=>∃ (t:Tab.Tb (Seg.aZ)) (sv:Value),(t.Ok/\t.Is m/\t.n+t.gone<=B)/\stars [fV p 217 sv t.n t.gone,aC 215 36 sv (t.slots.flatMap (slotL bT))] h
theorem yP:kD prog 115=some (.agg (bT Seg.aZ.zero).toArray):=by kernel_rfl
section
variable {m:aj.Bs->Option (Seg.aZ)}{t:Tab.Tb (Seg.aZ)}
theorem bf.open (h:Sat w0 w (bf p m B::F)):∃ (t:Tab.Tb (Seg.aZ)) (sv:Value),(t.Ok/\t.Is m/\t.n+t.gone<=B)/\Sat w0 w (fV p 217 sv t.n t.gone::aC 215 36 sv (t.slots.flatMap (slotL bT))::F):=by
 obtain ⟨ha,x,hx,q,r,dd,rfl,⟨t,sv,hin,hp⟩,hq⟩:=h;refine ⟨t,sv,hin,ha,_,hx,?_⟩;show stars ([fV p 217 sv t.n t.gone,aC 215 36 sv (t.slots.flatMap (slotL bT))]++F) _;rw [qx];exact ⟨q,r,dd,rfl,hp,hq⟩
theorem bf.shut (h1:t.Ok) (h2:t.Is m) (h3:t.n+t.gone<=B) (h:Sat w0 w (fV p 217 sv t.n t.gone::aC 215 36 sv (t.slots.flatMap (slotL bT))::F)):Sat w0 w (bf p m B::F):=
 Sat.join (M:=[fV p 217 sv t.n t.gone,aC 215 36 sv (t.slots.flatMap (slotL bT))]) h λ_ hx=>⟨t,sv,⟨h1,h2,h3⟩,hx⟩
theorem aaC (h:Sat w0 w F):Calls prog 147 #[] w (aN λv w'=>∃ p,v=ptr p/\Sat w0 w' (bf p (λ_=>none) 0::F)):=by
 go_enter func147,ntmps147
 go_wp2_with (first
  |((with_reducible refine at_make ⟨?_⟩);refine IX (e:=215) (sz:=36) (dF:=64) (n:=8) au yO h ah ah aG aG ?_;intro bM wM hM)
  |((with_reducible refine fC ⟨?_⟩);refine fB hM ay ay ?_;intro bB wB hB))
 go_ret;refine ⟨_,rfl,bB,rfl,?_⟩;have e:(List.replicate 8 (slotL bT ⟨0,aj.zero32,yR⟩)).flatten=(List.replicate 8 (⟨0,aj.zero32,yR⟩:Tab.Slot (Seg.aZ))).flatMap (slotL bT):=(Iq 8 _).symm;rw [e]at hB;exact bf.shut (t:=⟨List.replicate 8 ⟨0,aj.zero32,yR⟩,0,0⟩) (Tab.Ry aG rfl) (Tab.Rx rfl 0 0) (ab1 0) hB
theorem dN.Ut:type_of% @bf.open:=@bf.open
abbrev dN.dL:=@bT
abbrev dN.dZ:Nat:=36
abbrev dN.iM:Nat:=3
theorem dN.Dj:type_of% @yC:=@yC
theorem dN.ac1:type_of% @func126:=@func126
theorem dN.ac2:type_of% @ntmps126:=@ntmps126
theorem dN.Uu:type_of% @yP:=@yP
abbrev dN.jc:Nat:=217
abbrev dN.xk:=@yR
abbrev dN.mJ:Nat:=115
abbrev dN.gW:Nat:=215
theorem dN.Uw:type_of% @Ie:=@Ie
theorem dN.IG:type_of% @Yb:=@Yb
theorem dN.Ac:type_of% @underlying115:=@underlying115
theorem dN.II:type_of% @bf.shut:=@bf.shut
open dN in
theorem Gj (hB:B<=268435000) (hk:k.length=32) (h:Sat w0 w (bf p m B::F)) :
  Calls prog 126 #[ptr p,.agg (aB k).toArray] w (aN λv w'=>v=.tuple #[.agg (bT ((m k).getD Seg.aZ.zero)).toArray,.bool (m k).isSome]/\Sat w0 w' (bf p m B::F)):=aad
end
section
variable {m:aj.Bs->Option (Seg.aZ)}{t:Tab.Tb (Seg.aZ)}
theorem dN.ac3:type_of% @func178:=@func178
theorem dN.ac4:type_of% @ntmps178:=@ntmps178
abbrev dN.oZ:Nat:=64
theorem dN.MQ:type_of% @yO:=@yO
abbrev dN.su:=@Seg.aZ
theorem dN.MR:type_of% @underlying215:=@underlying215
theorem dN.MS:type_of% @yD:=@yD
open dN in
theorem aby (ok:t.Ok) (hN:t.n<=N) (hNb:N<=134217728) (Y4:t.slots.length<=1073741824) (h:Sat w0 w (fV p 217 sv t.n t.gone::aC 215 36 sv (t.slots.flatMap (slotL bT))::F)) :
  Calls prog 178 #[ptr p,.int .i64 N] w (aN λ_ w'=>∃ s' sv',Tab.AY t s' N/\Sat w0 w' (fV p 217 sv' t.n 0::aC 215 36 sv' (s'.flatMap (slotL bT))::F)):=aae
end
theorem acp (k:aj.Bs) (hk:k.length=32) (v:Seg.aZ) (w:World) :
  (Instr.build 215 #[(0,.int .i64 1),(1,.agg (aB k).toArray),(2,.agg (bT v).toArray)]).run prog w=.ok (.agg (slotL bT ⟨1,k,v⟩).toArray) w:=by
 have hbk:(aB k).toArray.size=32:=by rw [abA,aP,hk]
 refine (apA (P:=prog) [(0,.int .i64 1),(1,.agg (aB k).toArray),(2,.agg (bT v).toArray)] akx yO (by
  intro p' hp;simp only [ad9,aiR,apW]at hp;have hzz:(Value.agg (slotL bT (⟨0,aj.zero32,yR⟩:Tab.Slot (Seg.aZ))).toArray).cells.size=36:=by
   show (slotL bT (⟨0,aj.zero32,yR⟩:Tab.Slot (Seg.aZ))).toArray.size=36;rw [abA,kZ bT _ aG 3 rfl]
  rw [hzz];rcases hp with rfl|rfl|rfl
  ·exact ⟨0,rfl,by show 0+1<=36;omega⟩
  ·refine ⟨1,?_,?_⟩
   ·show some (1,32)=some (1,(aB k).toArray.size);rw [hbk]
   ·show 1+(aB k).toArray.size<=36;omega
  ·exact ⟨33,rfl,by show 33+3<=36;omega⟩) w).trans ?_
 rw [show (Value.agg (slotL bT (⟨0,aj.zero32,yR⟩:Tab.Slot (Seg.aZ))).toArray).cells=(slotL bT (⟨0,aj.zero32,yR⟩:Tab.Slot (Seg.aZ))).toArray from rfl,SI bT ⟨0,aj.zero32,yR⟩ k v aG hk rfl 3 rfl]
section
variable {m:aj.Bs->Option (Seg.aZ)}
theorem dN.ac5:type_of% @func132:=@func132
theorem dN.ac6:type_of% @ntmps132:=@ntmps132
theorem dN.ac7:type_of% @aby:=@aby
theorem dN.ac8:type_of% @acp:=@acp
open dN in
theorem abb (hB:B<=134217000) (hk:k.length=32) (v:Seg.aZ) (h:Sat w0 w (bf p m B::F)) :
  Calls prog 132 #[ptr p,.agg (aB k).toArray,.agg (bT v).toArray] w (aN λ_ w'=>Sat w0 w' (bf p (Tab.put m k v) (B+1)::F)):=aaf
end
theorem dN.Ux:type_of% @func211:=@func211
theorem dN.Uy:type_of% @ntmps211:=@ntmps211
open dN in
theorem Xf (x y:Tab.Slot (Seg.aZ)) (hx:x.key.length=32) (hy:y.key.length=32) (W:World) :
  Calls prog 211 #[.agg (slotL bT x).toArray,.agg (slotL bT y).toArray] W λe w'=>e=.returned (.int .i64 (Lib.compareBytes x.key y.key))/\∃ q os',w'=Sort.grow (W.drewN q) os':=Rh
open Go.Sort
abbrev V7:Type:={ x:Tab.Slot (Seg.aZ) // x.key.length=32 }
instance:Inhabited V7:=⟨⟨⟨0,aj.zero32,Seg.aZ.zero⟩,rfl⟩⟩
theorem dN.MV:type_of% @Tryz.sortL:=@Tryz.sortL
abbrev dN.EP:Nat:=211
abbrev dN.qV:=@V7
theorem dN.UA:type_of% @Tryz.isAgg215:=@Tryz.isAgg215
theorem dN.UC:type_of% @Tryz.sizeOf215:=@Tryz.sizeOf215
theorem dN.UD:type_of% @Xf:=@Xf
abbrev dN.MW:Nat:=210
open dN in
theorem amN (l:List (Tab.Slot (Seg.aZ))) (hk:∀ x∈l,x.key.length=32) (hn:l.length<=1073741824) (h:Sat w0 w (aC 215 36 v (l.flatMap (slotL bT))::F)) :
  Calls prog 210 #[v,.func (.func 211) #[] #[]] w (aN λ_ w'=>∃ l':List (Tab.Slot (Seg.aZ)),(l'.Perm l/\l'.Pairwise λa b=>¬ b.key<a.key)/\Sat w0 w' (aC 215 36 v (l'.flatMap (slotL bT))::F)):=Ri
open Go.ak
section
variable {m:aj.Bs->Option (Seg.aZ)}{t:Tab.Tb (Seg.aZ)}
theorem LJ (hB:B<=13000000) (h:Sat w0 w (bf p m B::F)) :
  Calls prog 171 #[ptr p] w (aN λv w'=>∃ l:List (Tab.Slot (Seg.aZ)),(Tab.Lists m (l.map λx=>(x.key,x.val))/\(∀ x∈l,x.st=1/\x.key.length=32)/\l.length<=B)/\Sat w0 w' (aC 215 36 v (l.flatMap (slotL bT))::bf p m B::F)):=by
 obtain ⟨t,sv,⟨ok,is,hb⟩,hR⟩:=bf.open h;have hsz:t.slots.length<=56000000:=by have:=ok.size;omega
 have Hlen:=uQ (show ∀ x∈t.slots,(slotL bT x).length=36 from λx hx=>kZ bT x (ok.good.key x hx) 3 (yC _));obtain ⟨la,lc,rfl⟩:=iP Hlen.o (Sat.rd (hR.pick aT)) aG;have bI:=uQ ok;have kF:=uQ is;have Hb:=uQ hb;have iQ:=uQ hsz;have lJ:=uQ ok.good.lU;clear h ok is hb hB;have hS0:Sat w0 w (aC 215 36 (.slice none 0 0) []::fV p 217 (.slice la t.slots.length lc) t.n t.gone::aC 215 36 (.slice la t.slots.length lc) (t.slots.flatMap (slotL bT))::F):=Sat.dO.2 hR;clear hR;go_enter func171,ntmps171;go_wp2_with fail;refine (Ie lJ.o (hS0.pick aT)).mono ?_;rintro ee w7 ⟨v,rfl,rfl,rfl⟩;go_wp2_with ((with_reducible refine bC ⟨?_⟩);refine eY hS0 ah bK bG ay au ?_)
 go_loopg [3,14] t.slots.length (λg oq iq wr=>∃ (i:Nat),g=t.slots.length-i/\i<=t.slots.length/\iq=.int .i64 i /\
  Sat w0 wr (aC 215 36 oq (((t.slots.take i).filter λx=>decide (x.st=1)).flatMap (slotL bT))::fV p 217 (.slice la t.slots.length lc) t.n t.gone::aC 215 36 (.slice la t.slots.length lc) (t.slots.flatMap (slotL bT))::F))
 case atStart=>exact ⟨0,rfl,ad4 _,rfl,hS0⟩
 case round=>
  obtain ⟨i,rfl,hi,rfl,hS⟩:=hrel;clear hS0;by_cases hlt:i<t.slots.length;rotate_left
  ·obtain rfl:i=t.slots.length:=by omega
   have c1:¬ (t.slots.length:Int)<(t.slots.length:Int):=oQ;rw [aeH]at hS;have hfk:∀ x∈t.slots.filter λx=>decide (x.st=1),x.key.length=32:=λx hx=>bI.o.good.key x (aex.1 hx).1;have hs:=amN (t.slots.filter λx=>decide (x.st=1)) hfk (adT (aiK _ _) (adT hsz aG)) hS;clear hlt hi hS hfk;go_wp2_with fail;refine hs.mono ?_;rintro ee w8 ⟨v,rfl,l,⟨h1,h2⟩,kJ⟩;clear hs;have Hl:=uQ (Tab.KG bI.o.good kF.o h1 h2)
   have Hll:=uQ (show l.length<=B from by
    rw [h1.length_eq,<-apk];have e:t.slots.countP (λx=>decide (x.st=1))=Tab.kS t.slots:=by
     unfold Tab.kS;refine List.countP_congr λx _=>?_;simp
    have:=bI.o.n;have:=Hb.o;omega)
   clear h1 h2;go_wp2_with fail;go_ret;exact ⟨_,rfl,l,⟨Hl.o.1,Hl.o.2,Hll.o⟩,Sat.SG (bf.shut bI.o kF.o Hb.o (kJ.sb))⟩
  have c1:(i:Int)<(t.slots.length:Int):=oQ;have hwi:=qm (i:=i);obtain ⟨x,hx⟩:∃ x,t.slots[i]?=some x:=⟨_,aaJ hlt⟩;have hxm:=acr hx;have hst:=bI.o.good.st x hxm;have Hxk:=uQ (bI.o.good.key x hxm);obtain ⟨bk,off,c',hsv,hcell⟩:=iL Hlen.o (Sat.rd (hS.pick fE)) hx aG;cases hsv;have gB:=Hlen.o x hxm;have htk:(t.slots.take (i+1)).filter (λx=>decide (x.st=1))=(t.slots.take i).filter (λx=>decide (x.st=1))++[x].filter λx=>decide (x.st=1):=by
   rw [aeN,hx,ahW,anP]
  have dP:=uQ htk;have aS:=uQ hlt;have BX:(((t.slots.take i).filter λx=>decide (x.st=1)).flatMap (slotL bT)).length<=2147483648:=by
   rw [iK λy hy=>Hlen.o y (ae2 (aex.1 hy).1)];have h1:=aiK (λx=>decide (x.st=1)) (t.slots.take i);have h2:=aoM i t.slots;have h3:=iQ.o;omega
  clear hx hxm hlt hi htk
  go_wp2_with (first
   |((with_reducible refine bC ⟨?_⟩);refine iD (b:=bk) (o:=off+i*36) (slotL bT x) ah hcell underlying215 rfl yN0 ?_)
   |(with_reducible apply eG))
  refine ⟨eU yO hS rfl ?_⟩;intro b7 w7 hS7;go_wp2_with (first|((with_reducible refine bW ⟨?_⟩);refine fG (slotL bT x).toArray hS7 ah ah zC0 bU yK0 (by rw [ad7];exact pX bT x (yD _)) ?_;intro w10 dG)|(with_reducible apply bC));refine ⟨?_⟩;clear hS hS7 hcell;have f0:w10.cell? ⟨b7,0,none⟩=some (.int .i64 x.st):=dG.cellP aK 0 (by rw [aeh];rfl);by_cases h1:x.st=1;rotate_left
  ·have hst1:((x.st:Int)==1)=false:=by rw [ad3];omega
   have e9:(t.slots.take (i+1)).filter (λx=>decide (x.st=1))=(t.slots.take i).filter (λx=>decide (x.st=1)):=by
    rw [dP.o,apl (by rw [aea h1];decide),apj,aei]
   have E9:=uQ e9;clear h1 e9;go_wp2_with fail
   go_roundg (t.slots.length-(i+1))
   case measure=>have:=aS.o;omega
   case rel=>exact ⟨i+1,rfl,aS.o,by first|rfl|go_num,by rw [E9.o];exact dG.sb⟩
  ·have hst1:((x.st:Int)==1)=true:=by rw [h1];rfl
   have e9:((t.slots.take (i+1)).filter (λx=>decide (x.st=1))).flatMap (slotL bT)=((t.slots.take i).filter (λx=>decide (x.st=1))).flatMap (slotL bT)++slotL bT x:=by
    rw [dP.o,apm (by rw [aem h1]),apj,aeB,aen,aiq,aei]
   have E9:=uQ e9;clear h1 e9
   go_wp2_with (first
    |((with_reducible refine bC ⟨?_⟩);refine iC dG ah bK underlying215 rfl yK0 ?_)
    |(with_reducible apply jh))
   refine ⟨jg (e:=215) (sz:=36) (dF:=64) au dG ah (cs:=(slotL bT x).toArray) rfl (by rw [abA,gB]) aG ?_⟩;intro bN wN hN;go_wp2_with (with_reducible apply fZ);refine ⟨jF 215 36 64 au hN ah ah bK aK (by rw [abA,gB]) (ab1 1) (by rw [ad7];exact pX bT x (yD _)) BX (by rw [abA,gB];decide) aG (by rw [ad7]) ?_⟩;intro bA nA cA wA hA;go_wp2_with fail;rw [<-E9.o]at hA
   go_roundg (t.slots.length-(i+1))
   case measure=>have:=aS.o;omega
   case rel=>exact ⟨i+1,rfl,aS.o,by first|rfl|go_num,hA.sb⟩
end
end Go.Proofs.Y
namespace Go.Tab
open Go.aj (Bs)
open Go.Seg (aZ)
open Go.Rep (dU)
section
variable {V:Type}
def mapOf (l:List (Bs×V)):Bs->Option V:=l.foldl (λm p=>put m p.1 p.2) λ_=>none
theorem Rl (l:List (Bs×V)) (p:Bs×V):mapOf (l++[p])=put (mapOf l) p.1 p.2:=by unfold mapOf;rw [apd];rfl
theorem aap:∀ (n:Nat){l:List (Bs×V)},l.length=n->l.Pairwise (λa b=>a.1<b.1)->∀ k v,(k,v)∈l↔mapOf l k=some v
 |0,l,hn,_,k,v=>by
  obtain rfl:l=[]:=ae9 hn;exact ⟨(λh=>by cases h),(λh=>by cases h)⟩
 |n+1,l,hn,hs,k,v=>by
  obtain ⟨l',p,rfl⟩:∃ l' p,l=l'++[p]:=⟨l.dropLast,l.getLast (by intro e;rw [e]at hn;cases hn),(List.dropLast_concat_getLast _).symm⟩;have hn':l'.length=n:=by rw [aa7]at hn;simpa using hn
  obtain ⟨s1,_,s3⟩:=anr.1 hs;have ih:=aap n hn' s1 k v;rw [Rl,aeQ,aeG];show _↔(if k=p.1 then some p.2 else mapOf l' k)=some v;by_cases hk:k=p.1
  ·rw [adU hk];constructor
   ·rintro (h|h)
    ·exact absurd (hk ▸ s3 _ h p (.head _)) (aps _)
    ·rw [<-h]
   ·intro h;exact .inr (by rw [hk,<-aiJ h])
  ·rw [abL hk,<-ih];exact ⟨λh=>h.elim id λe=>absurd (aeO Prod.fst e) hk,.inl⟩
theorem aao {l:List (Bs×V)} (hs:l.Pairwise λa b=>a.1<b.1):Lists (mapOf l) l:=⟨hs,aap _ rfl hs⟩
end
end Go.Tab
namespace Go.Rep
open Go.aj (Bs)
open Go.Tab
theorem abj (l:List (Bs×dU)) (p:Bs×dU):puts (l++[p])=if p.2.tag=0 then puts l++[(p.1,p.2.place)] else puts l:=by
 unfold puts;rw [anP];by_cases h:p.2.tag=0
 ·rw [adU h,apm (by rw [aem h]),apj,aef];rfl
 ·rw [abL h,apl (by rw [aea h];decide),apj,aei]
theorem SK {l:List (Bs×dU)} (h:l.Pairwise λa b=>a.1<b.1):(puts l).Pairwise λa b=>a.1<b.1:=by
 unfold puts;rw [ahB];exact h.filter _
theorem G6 (s:Int):∀ (l:List (Bs×dU)) (p:Bs×dU),gu s (l++[p])=gu s l+(if counts p.2=true/\p.2.place.seg=s then p.2.place.size else 0)
 |[],p=>by simp [gu]
 |q::l,p=>by
  have:=G6 s l p;simp only [aiQ,gu];omega
theorem Q8 (s:Int){b:Int} (hb:0<=b):∀ (l:List (Bs×dU)),(∀ p∈l,0<=p.2.place.size/\p.2.place.size<=b)->0<=gu s l/\gu s l<=b*l.length
 |[],_=>by simp [gu]
 |q::l,h=>by
  obtain ⟨i1,i2⟩:=Q8 s hb l λp hp=>h p (.tail _ hp);obtain ⟨j1,j2⟩:=h q (.head _);have e:b*((q::l).length:Int)=b*l.length+b:=by rw [aev,Int.natCast_succ,Int.mul_add,Int.mul_one]
  rw [e];simp only [gu];split <;> omega
end Go.Rep
namespace Go.Proofs.Y
open Go.ak
def jX (b:Nat) (f:Int->Int):aF:=λh=>∃ l:List (Value×Value),((∀ p∈l,∃ k v:Int,p=(.int .i64 k,.int .i64 v)/\f k=v)/\∀ k:Int,(∀ p∈l,p.1 ≠ .int .i64 k)->f k=0)/\omap (.int .i64) b l h
section
variable {b:Nat}{f:Int->Int}{l:List (Value×Value)}
theorem Zz (h:Sat w0 w (jX b f::R)):∃ l:List (Value×Value),((∀ p∈l,∃ k v:Int,p=(.int .i64 k,.int .i64 v)/\f k=v)/\∀ k:Int,(∀ p∈l,p.1 ≠ .int .i64 k)->f k=0)/\Sat w0 w (omap (.int .i64) b l::R):=by
 obtain ⟨ha,x,hx,p,q,dd,rfl,⟨l,h1,h2⟩,hq⟩:=h;exact ⟨l,h1,ha,_,hx,p,q,dd,rfl,h2,hq⟩
theorem ZA (h1:∀ p∈l,∃ k v:Int,p=(.int .i64 k,.int .i64 v)/\f k=v) (h2:∀ k:Int,(∀ p∈l,p.1 ≠ .int .i64 k)->f k=0) (h:Sat w0 w (omap (.int .i64) b l::R)):Sat w0 w (jX b f::R):=
 h.head λ_ hx=>⟨l,⟨h1,h2⟩,hx⟩
theorem Zy (h:Sat w0 w R):Sat w0 (w.alloc (.map #[] 0)) (jX w.heap.size (λ_=>0)::R):=ZA yF0 (λ_ _=>rfl) (h.Ld (.int .i64))
theorem Kr (k:Int) (h:Sat w0 w (jX b f::R)):(Instr.lookup 246 (.map (some b)) (.int .i64 k) false).run prog w=.ok (.int .i64 (f k)) w:=by
 obtain ⟨l,⟨h1,h2⟩,hS⟩:=Zz h;rcases ach (key:= .int .i64 k) underlying246 underlying3 (z:= .int .i64 0) au rfl hS with ⟨v,hm,e,_⟩|⟨hn,e,_⟩
 ·obtain ⟨k',v',hp,hf⟩:=h1 _ hm;cases hp;rw [e,hf]
 ·rw [e,h2 k hn]
theorem QJ (k v:Int) (h:Sat w0 w (jX b f::R)):∃ w',(Instr.mapUpdate 246 (.map (some b)) (.int .i64 k) (.int .i64 v)).run prog w=.ok () w'/\Sat w0 w' (jX b (λs=>if s=k then v else f s)::R):=by
 obtain ⟨l,⟨h1,h2⟩,hS⟩:=Zz h;obtain ⟨w',hr,hs⟩:=Sl.run_store (key:= .int .i64 k) underlying246 underlying3 rfl (.int .i64 v) hS;refine ⟨w',hr,?_⟩;have hnd:=hS.Lc;obtain ⟨l0,hl0,hne,hin,hout⟩:∃ l0:List (Value×Value),(l.Perm l0/\(∀ p∈l0,p.1 ≠ .int .i64 k)\/∃ v0,l.Perm ((.int .i64 k,v0)::l0))/\(∀ p∈l0,p.1 ≠ .int .i64 k)/\(∀ p∈l0,p∈l)/\∀ p∈l,p.1 ≠ .int .i64 k->p∈l0:=by
  by_cases hk:∃ p∈l,p.1=.int .i64 k
  ·obtain ⟨⟨_,v0⟩,hm,rfl⟩:=hk;obtain ⟨l1,l2,e12⟩:=List.append_of_mem hm;have hp:l.Perm ((.int .i64 k,v0)::(l1++l2)):=by rw [e12];exact ao2
   have Zc:=(hp.map (·.1)).nodup_iff.1 hnd;rw [aes,aoC]at Zc
   exact ⟨_,.inr ⟨v0,hp⟩,λp hp' e=>Zc.1 (adu.2 ⟨p,hp',e⟩),λp hp'=>hp.mem_iff.2 (.tail _ hp'),λp hp' hne=>by
    rcases ad9.1 (hp.mem_iff.1 hp') with e|e
    ·exact absurd (by rw [e]) hne
    ·exact e⟩
  ·have hk':∀ p∈l,p.1 ≠ .int .i64 k:=λp hp e=>hk ⟨p,hp,e⟩;exact ⟨l,.inl ⟨.refl _,hk'⟩,hk',λ_ h=>h,λ_ h _=>h⟩
 refine ZA (l:=(.int .i64 k,.int .i64 v)::l0) ?_ ?_ (hs l0 hl0)
 ·intro p hp;rcases ad9.1 hp with rfl|hp
  ·exact ⟨k,v,rfl,adU rfl⟩
  ·obtain ⟨k',v',rfl,hf⟩:=h1 p (hin p hp);refine ⟨k',v',rfl,?_⟩;show (if k'=k then v else f k')=v';rw [abL (λe=>hne _ hp (by rw [e])),hf]
 ·intro k' hk';have hkk:k'≠k:=λe=>hk' _ (.head _) (by rw [e]);show (if k'=k then v else f k')=0;rw [abL hkk];refine h2 k' λp hp e=>?_;exact hk' p (.tail _ (hout p hp (λe2=>hkk (by rw [e2]at e;cases e;rfl)))) e
end
section
variable {B':Nat}{m:aj.Bs->Option Seg.aZ}
theorem bf.mono (hB:B<=B') (h:Sat w0 w (bf p m B::R)):Sat w0 w (bf p m B'::R):=by
 obtain ⟨t,sv,⟨ok,is,hb⟩,hS⟩:=bf.open h;exact bf.shut ok is (adT hb hB) hS
end
theorem Xl (x:Rep.dU) (h:Sat w0 w F):Calls prog 197 #[.agg (fA x).toArray] w (aN λv w'=>v=.bool (Rep.counts x)/\Sat w0 w' F):=by
 obtain ⟨tag,⟨seg,at_,size⟩,first⟩:=x;show Calls prog 197 #[.agg #[.int .i64 tag,.int .i64 seg,.int .i64 at_,.int .i64 size,.int .i64 first]] w _;have Hc:=uQ (show ∀ c,c=(decide (tag=0) || (decide (0<=first) && decide (first<seg)))->c=Rep.counts ⟨tag,⟨seg,at_,size⟩,first⟩ from λc hc=>hc);go_enter func197,ntmps197;go_wp2_with (first|((with_reducible refine fC ⟨?_⟩);refine fB aQ ay ay ?_;intro bB wB hB)|(with_reducible apply bC));refine ⟨?_⟩;have f0:wB.cell? ⟨bB,0,none⟩=some (.int .i64 tag):=hB.cellP aK 0 rfl;have f1:wB.cell? ⟨bB,1,none⟩=some (.int .i64 seg):=hB.cellP aK 1 rfl;have f2:wB.cell? ⟨bB,4,none⟩=some (.int .i64 first):=hB.cellP aK 4 rfl;have HB:=uQ hB.drop;clear hB h;by_cases h0:tag=0
 ·have hb:(tag==0)=true:=ako.2 h0;have e:=Hc.o true (by simp [h0]);have He:=uQ e;clear h0 e Hc;go_wp2_with fail;go_ret;exact ⟨_,rfl,aeO Value.bool He.o,HB.o⟩
 ·have hb:(tag==0)=false:=by rw [ad3];exact h0
  by_cases h1:0<=first
  ·by_cases h2:first<seg
   ·have He:=uQ (Hc.o true (by simp [h0,h1,h2]));clear h0 Hc;go_wp2_with fail;go_ret;exact ⟨_,rfl,aeO Value.bool He.o,HB.o⟩
   ·have He:=uQ (Hc.o false (by simp [h0,h2]));clear h0 Hc;go_wp2_with fail;go_ret;exact ⟨_,rfl,aeO Value.bool He.o,HB.o⟩
  ·have He:=uQ (Hc.o false (by simp [h0,h1]));clear h0 Hc;go_wp2_with fail;go_ret;exact ⟨_,rfl,aeO Value.bool He.o,HB.o⟩
end Go.Proofs.Y
namespace Go.Rep
structure Use where
 seg:Int
 size:Int
 live:Int
def upd (kv:List (aj.Bs×dU)) (u:Use):Use:=⟨u.seg,u.size,gu u.seg kv⟩
def half (kv:List (aj.Bs×dU)) (us:List Use) (i:Nat):List Use:=(us.take i).map (upd kv)++us.drop i
section
variable {kv:List (aj.Bs×dU)}{us:List Use}{i:Nat}{u:Use}
theorem Qk:(half kv us i).length=us.length:=by
 unfold half;rw [aa7,abl,<-aa7,aeX]
theorem ahF:half kv us us.length=us.map (upd kv):=by unfold half;rw [aeH,ao4,aei]
theorem ahG (h:us[i]?=some u):(half kv us i)[i]?=some u:=by
 unfold half;have hi:=(acZ.1 h).1;have e:((us.take i).map (upd kv)).length=i:=by rw [abl,adt];omega
 rw [aew oQ,e,aph,aoz,aml];exact h
theorem ahH (h:us[i]?=some u):(half kv us i).set i (upd kv u)=half kv us (i+1):=by
 obtain ⟨hi,rfl⟩:=acZ.1 h;have e:((us.take i).map (upd kv)).length=i:=by rw [abl,adt];omega
 unfold half;rw [List.set_append_right _ _ oQ,e,aph,agf hi,List.set_cons_zero,aeN,aaJ hi,ahW,aef,ad2]
 rfl
end
end Go.Rep
namespace Go.Proofs.Y
open Go.ak
def bJ (u:Rep.Use):List Value:=[.int .i64 u.seg,.int .i64 u.size,.int .i64 u.live]
theorem tN (u:Rep.Use):(bJ u).length=3:=rfl
theorem I7:kD prog 205=some (.agg (bJ ⟨0,0,0⟩).toArray):=by kernel_rfl
theorem aot:kD prog 246=some (.map none):=by kernel_rfl
theorem Nu:kD prog 34=some (.agg (aB aj.zero32).toArray):=by kernel_rfl
abbrev bZ (ps:Nat) (last:Int) (pi:Nat) (uv tv:Value):aF:=pt ps (.cells #[.int .i64 last,ptr pi,uv,tv] 108 (0,0))
def X5 (F:List aF) (ps b2 b3 b4 bm pi pg:Nat) (last:Int) (uv tv:Value) (us:List Rep.Use) (kv:List (aj.Bs×Rep.dU)) (pre:List (Array Value)):List aF:=
 bZ ps last pi uv tv::pt b2 (.cells #[ptr ps] 103 (0,0))::pt b4 (.cells #[.map (some bm)] 246 (0,0))::jX bm (λs=>Rep.gu s (kv.take pre.length)) ::
 bf pi (Tab.mapOf (Rep.puts (kv.take pre.length))) pre.length::aC 205 3 uv (us.flatMap bJ)::pt b3 (.cells #[ptr pg] 256 (0,0))::F
section
variable {ps pi pg:Nat}{last:Int}{uv tv:Value}{us:List Rep.Use}{m:aj.Bs->Option Rep.dU}{kv:List (aj.Bs×Rep.dU)}
theorem ag5 (hl:Tab.Lists m kv) (hB:B<=13000000) (hkl:kv.length<=13000000) (hks:∀ p∈kv,p.1.length=32/\0<=p.2.place.size/\p.2.place.size<=4294967296) (hu:us.length<=13000000)
  (h:Sat w0 w (bZ ps last pi uv tv::bf pi (λ_=>none) 0::fJ pg m B::aC 205 3 uv (us.flatMap bJ)::F)) :
  Calls prog 153 #[ptr ps,.agg #[ptr pg]] w (aN λ_ w'=>Sat w0 w' (bZ ps last pi uv tv::bf pi (Tab.mapOf (Rep.puts kv)) kv.length::fJ pg m B::aC 205 3 uv ((us.map (Rep.upd kv)).flatMap bJ)::F)):=by
 have Hl:=uQ hl;have HB:=uQ hB;have qg:=uQ hkl;have kX:=uQ hks;have Hu:=uQ hu;have Hlen:=uQ (show ∀ u∈us,(bJ u).length=3 from λu _=>rfl);clear hl hB hkl hks hu;have hmm:=@run_makeMap prog;refine WX func153 rfl ?_;simp only [ntmps153,abA,aev,ae0,Nat.reduceAdd,Nat.reduceSub,Array.replicate_succ,Array.replicate_zero,List.push_toArray,List.append_toArray,aeV,aiQ];go_wp2_with (with_reducible apply fC);refine ⟨fB h ay ay ?_⟩;intro b2 w2 h2;go_wp2_with (with_reducible apply fC);refine ⟨fB h2 ay ay ?_⟩;intro b3 w3 h3;have YF:=Zy h3;go_wp2_with (with_reducible apply eG);refine ⟨eU aot YF rfl ?_⟩;intro b4 w4 h4;generalize w3.heap.size=bm at *
 go_wp2_with (first
  |((with_reducible refine bW ⟨?_⟩);refine jM h4 ah ay ah bU bG au ah ?_;intro w5 h5)
  |((with_reducible refine bC ⟨?_⟩);refine eY h5 ah bK bG ay au ?_))
 refine (afj h5).mono ?_;rintro ee w6 ⟨v,rfl,bA,rfl,h6⟩;go_wp2_with fail
 have h7:Sat w0 w6 (fJ pg m B::pt bA (.cells #[ptr pg] 251 (0,0))::bZ ps last pi uv tv::pt b2 (.cells #[ptr ps] 103 (0,0))::pt b4 (.cells #[.map (some bm)] 246 (0,0))::jX bm (λ_=>0) ::
   bf pi (λ_=>none) 0::aC 205 3 uv (us.flatMap bJ)::pt b3 (.cells #[ptr pg] 256 (0,0))::F):=h6.sb
 clear h h2 h3 YF h4 h5 h6 hmm;refine adH (gf:=237) (lb:=#[ptr bA]) ah (λargs w=>by kernel_rfl) (afi HB.o Hl.o) ?_ (X5 F ps b2 b3 b4 bm pi pg last uv tv us kv) h7 ?_ ?_
 ·intro x hx;obtain ⟨p,_,rfl⟩:=adu.1 hx
  rfl
 ·clear h7;intro l pre x post U W hkv hS T hT;obtain ⟨i,hi⟩:∃ i,i=pre.length:=⟨_,rfl⟩;have hlt:i<kv.length:=by
   have:=aeO List.length hkv;rw [abl,aa7,aev]at this;omega
  obtain ⟨⟨k,y⟩,hy⟩:∃ p,kv[i]?=some p:=⟨_,aaJ hlt⟩;obtain rfl:x=Ba (k,y):=by
   have e1:(kv.map Ba)[i]?=some (Ba (k,y)):=by rw [ad1,hy];rfl
   rw [hkv,hi,aew (ab1 _),aph,List.getElem?_cons_zero]at e1;exact aiJ e1
  have hmem:=acr hy;obtain ⟨Gy,hs0,hs1⟩:=kX.o _ hmem;have htk:kv.take (i+1)=kv.take i++[(k,y)]:=by rw [aeN,hy,ahW]
  have hil:(pre++[Ba (k,y)]).length=i+1:=by rw [aa7,hi];rfl
  have dP:=uQ htk;have Dz:=uQ hil;have Hi:=uQ hi;have aS:=uQ hlt;have jG:=uQ Gy;have Hs:=uQ (And.intro hs0 hs1)
  have hS0:Sat w0 W (bZ ps last pi uv tv::pt b2 (.cells #[ptr ps] 103 (0,0))::pt b4 (.cells #[.map (some bm)] 246 (0,0))::jX bm (λs=>Rep.gu s (kv.take i)) ::
   bf pi (Tab.mapOf (Rep.puts (kv.take i))) i::aC 205 3 uv (us.flatMap bJ)::pt b3 (.cells #[ptr pg] 256 (0,0))::(F++U)):=by rw [hi];exact hS
  clear hkv hS hi hlt hy hmem Gy hs0 hs1 htk hil;simp [Ba]at hT;subst hT;refine wpIn_seq_k λK hK=>?_;refine wW ah λK2 hK2=>?_;go_wp2_with (with_reducible apply eG);refine ⟨eU Nu hS0 rfl ?_⟩;intro b5 w5 h5;go_wp2_with ((with_reducible refine bW ⟨?_⟩);refine fG (aB k).toArray h5 ah ah (by rw [abA,aP,jG.o];rfl) bU yV0 (by rw [ad7];exact uH _) ?_;intro w6 h6);refine wW ah λK3 hK3=>?_;go_wp2_with (with_reducible apply eG);refine ⟨eU I8 h6 rfl ?_⟩;intro b6 w7 h7;go_wp2_with ((with_reducible refine bW ⟨?_⟩);refine fG (fA y).toArray h7 ah ah ah bU au ah ?_;intro w8 h8)
  -- the body
  refine ⟨pt b6 (.cells (fA y).toArray 254 (0,0))::pt b5 (.cells (aB k).toArray 34 (0,0))::bZ ps last pi uv tv::pt b2 (.cells #[ptr ps] 103 (0,0))::pt b4 (.cells #[.map (some bm)] 246 (0,0))::jX bm (λs=>Rep.gu s (kv.take i)) ::
   bf pi (Tab.mapOf (Rep.puts (kv.take i))) i::aC 205 3 uv (us.flatMap bJ)::pt b3 (.cells #[ptr pg] 256 (0,0))::F,h8,?_⟩
  clear h8 h7 h6 h5 hS0;intro U' w9 h9
  have h10:Sat w0 w9 (pt b6 (.cells (fA y).toArray 254 (0,0))::pt b5 (.cells (aB k).toArray 34 (0,0))::bZ ps last pi uv tv::pt b2 (.cells #[ptr ps] 103 (0,0))::pt b4 (.cells #[.map (some bm)] 246 (0,0))::jX bm (λs=>Rep.gu s (kv.take i)) ::
   bf pi (Tab.mapOf (Rep.puts (kv.take i))) i::aC 205 3 uv (us.flatMap bJ)::pt b3 (.cells #[ptr pg] 256 (0,0))::(F++U')):=h9
  clear h9;have f0:w9.cell? ⟨b6,0,none⟩=some (.int .i64 y.tag):=h10.cellP aK 0 rfl;refine wpIn_block (wpIn_seq_k λK4 hK4=>wpIn_seq_k λK5 hK5=>wW ah λK6 hK6=>?_);by_cases ht:y.tag=0
  ·have hb:(y.tag==0)=true:=ako.2 ht;have FN:=uQ (show Tab.mapOf (Rep.puts (kv.take (i+1)))=Tab.put (Tab.mapOf (Rep.puts (kv.take i))) k y.place by rw [dP.o,Rep.abj,adU ht,Tab.Rl]);clear ht;go_wp2_with fail;refine wpIn_cond_true ah ?_;have h11:=h10.drew
   have hG:w9.drew.cell? ⟨b2,0,none⟩=some (ptr ps)/\w9.drew.cell? ⟨ps,1,none⟩=some (ptr pi)/\w9.drew.rangeAt b5 0 (aB k)/\w9.drew.rangeAt b6 1 (bT y.place):=
    ⟨h11.cellP (aU (aU (aU aK))) 0 rfl,h11.cellP (aU (aU aK)) 1 rfl,qp (h11.pick (aU aK)),λj v hj=>by
     refine h11.cellP aK (1+j) ?_;rw [aeh,apX];have hj3:j<3:=(acZ.1 hj).1;rcases j with _|_|_|j
     ·exact hj
     ·exact hj
     ·exact hj
     ·omega⟩
   refine ak4 [7] (λw'=>w'.cell? ⟨b2,0,none⟩=some (ptr ps)/\w'.cell? ⟨ps,1,none⟩=some (ptr pi)/\w'.rangeAt b5 0 (aB k)/\w'.rangeAt b6 1 (bT y.place)) ah au λK7 hK7=>?_;refine rt 0 (h:=?_);refine rP 1 ?_ (y:=iG);refine rP 2 ?_ (y:=dh);refine rt 3 (h:=?_);refine gJ 4 ay au bP (lM (b:=b5) (o:=0) (aB k) ah underlying34 rfl zE0 (λw hw=>hw.2.2.1)) aQ gQ ?_;refine rP 5 ?_ (y:=dh);refine gJ 6 ay au bP (lM (b:=b6) (o:=1) (bT y.place) ah underlying115 rfl au (λw hw=>hw.2.2.2)) aQ gQ ?_;clear hG
   have hp:=abb (B:=i) (p:=pi) (by have:=aS.o;have:=qg.o;omega) jG.o y.place (h11.sb:Sat w0 w9.drew (bf pi (Tab.mapOf (Rep.puts (kv.take i))) i::pt b6 (.cells (fA y).toArray 254 (0,0))::pt b5 (.cells (aB k).toArray 34 (0,0))::pt b2 (.cells #[ptr ps] 103 (0,0))::pt b4 (.cells #[.map (some bm)] 246 (0,0))::jX bm (λs=>Rep.gu s (kv.take i))::bZ ps last pi uv tv::aC 205 3 uv (us.flatMap bJ)::pt b3 (.cells #[ptr pg] 256 (0,0))::(F++U')));clear h10 h11 f0;refine cZ 7 ay au (λK' hK'=>?_)
   (refine JK au ay ay ay ?_)
   refine hp.mono ?_;rintro ee jZ ⟨v,rfl,h11⟩;refine hK' _ _ (.inl rfl) ?_;clear hK' hp;refine dX au ?_;rw [<-FN.o]at h11
   have h12:Sat w0 jZ (pt b6 (.cells (fA y).toArray 254 (0,0))::pt b5 (.cells (aB k).toArray 34 (0,0))::pt b2 (.cells #[ptr ps] 103 (0,0))::pt b4 (.cells #[.map (some bm)] 246 (0,0))::jX bm (λs=>Rep.gu s (kv.take i))::bZ ps last pi uv tv ::
    bf pi (Tab.mapOf (Rep.puts (kv.take (i+1)))) (i+1)::aC 205 3 uv (us.flatMap bJ)::pt b3 (.cells #[ptr pg] 256 (0,0))::(F++U')):=h11.sb
   clear h11;go_wp2_with fail;refine wpIn_seq_k λK8 hK8=>?_;refine wW ah λK9 hK9=>?_;go_wp2_with ((with_reducible refine bC ⟨?_⟩);refine iC h12 ah (aK (A:=pt b6 (.cells (fA y).toArray 254 (0,0)))) underlying254 rfl au ?_);refine (Xl y h12).mono ?_;rintro ee ku ⟨v,rfl,rfl,h13⟩;clear h12;by_cases hc:Rep.counts y=true
   ·have hlv:(λs=>Rep.gu s (kv.take (i+1)))=λs=>if s=y.place.seg then Rep.gu y.place.seg (kv.take i)+y.place.size else Rep.gu s (kv.take i):=by
     funext s
     rw [dP.o,Rep.G6];by_cases e:s=y.place.seg
     ·subst e;simp [hc]
     ·simp only [hc,true_and,abL e];rw [abL (λh=>e h.symm),Int.add_zero]
    have Hlv:=uQ hlv;have hlk:=Kr y.place.seg (h13.pick (aU (aU (aU (aU aK)))));obtain ⟨kC,hup,fP⟩:=QJ y.place.seg (Rep.gu y.place.seg (kv.take i)+y.place.size) (h13.pick (aU (aU (aU (aU aK)))));obtain ⟨q1,q2⟩:=Rep.Q8 y.place.seg (b:=4294967296) aG (kv.take i) λp hp=>(kX.o p (ae2 hp)).2;have q3:(kv.take i).length<=13000000:=adT (aoM i kv) qg.o;have q4:=Hs.o;have hwa:IntKind.i64.wrap (Rep.gu y.place.seg (kv.take i)+y.place.size)=Rep.gu y.place.seg (kv.take i)+y.place.size:=acO _ oQ;have hwb:wrap64 (Rep.gu y.place.seg (kv.take i)+y.place.size)=Rep.gu y.place.seg (kv.take i)+y.place.size:=ahX _ oQ;clear q1 q2 q3 q4 hlv;have e0:ku.cell? ⟨b4,0,none⟩=some (.map (some bm)):=h13.cellP (aU (aU (aU aK))) 0 rfl;have e1:ku.cell? ⟨b6,1,none⟩=some (.int .i64 y.place.seg):=h13.cellP aK 1 rfl;have e2:ku.cell? ⟨b6,3,none⟩=some (.int .i64 y.place.size):=h13.cellP aK 3 rfl
    rw [hc];clear h13 hc;go_wp2_with fail;refine wpIn_cond_true ah ?_;refine wW ah λK10 hK10=>?_;go_wp2_with fail;rw [<-Hlv.o]at fP;refine ⟨trivial,?_⟩
    have h15:Sat w0 kC (bZ ps last pi uv tv::pt b2 (.cells #[ptr ps] 103 (0,0))::pt b4 (.cells #[.map (some bm)] 246 (0,0))::jX bm (λs=>Rep.gu s (kv.take (i+1))) ::
     bf pi (Tab.mapOf (Rep.puts (kv.take (i+1)))) (i+1)::aC 205 3 uv (us.flatMap bJ)::pt b3 (.cells #[ptr pg] 256 (0,0))::(F++U')):=fP.sb
    rw [<-Dz.o]at h15;exact h15
   ·have hlv:(λs=>Rep.gu s (kv.take (i+1)))=λs=>Rep.gu s (kv.take i):=by
     funext s
     rw [dP.o,Rep.G6,abL (λh=>hc h.1),Int.add_zero]
    have Hlv:=uQ hlv;rw [Bool.not_eq_true]at hc;rw [hc];clear hlv hc;go_wp2_with fail;refine wpIn_cond_false ah ?_;refine wpIn_skip ?_;go_wp2_with fail;rw [<-Hlv.o]at h13;refine ⟨trivial,?_⟩
    have h15:Sat w0 ku (bZ ps last pi uv tv::pt b2 (.cells #[ptr ps] 103 (0,0))::pt b4 (.cells #[.map (some bm)] 246 (0,0))::jX bm (λs=>Rep.gu s (kv.take (i+1))) ::
     bf pi (Tab.mapOf (Rep.puts (kv.take (i+1)))) (i+1)::aC 205 3 uv (us.flatMap bJ)::pt b3 (.cells #[ptr pg] 256 (0,0))::(F++U')):=h13.sb
    rw [<-Dz.o]at h15;exact h15
  ·have hb:(y.tag==0)=false:=by rw [ad3];exact ht
   have FN:=uQ (show Tab.mapOf (Rep.puts (kv.take (i+1)))=Tab.mapOf (Rep.puts (kv.take i)) by rw [dP.o,Rep.abj,abL ht]);clear ht;go_wp2_with fail;refine wpIn_cond_false ah ?_;refine wpIn_skip ?_;go_wp2_with fail;rw [<-FN.o]at h10;have h11:=bf.mono (aiL i) (h10.pick (aU (aU (aU (aU (aU (aU aK)))))))
   have h12:Sat w0 w9 (pt b6 (.cells (fA y).toArray 254 (0,0))::pt b5 (.cells (aB k).toArray 34 (0,0))::pt b2 (.cells #[ptr ps] 103 (0,0))::pt b4 (.cells #[.map (some bm)] 246 (0,0))::jX bm (λs=>Rep.gu s (kv.take i))::bZ ps last pi uv tv ::
    bf pi (Tab.mapOf (Rep.puts (kv.take (i+1)))) (i+1)::aC 205 3 uv (us.flatMap bJ)::pt b3 (.cells #[ptr pg] 256 (0,0))::(F++U')):=h11.sb
   clear h10 h11 f0;refine wpIn_seq_k λK8 hK8=>?_;refine wW ah λK9 hK9=>?_;go_wp2_with ((with_reducible refine bC ⟨?_⟩);refine iC h12 ah (aK (A:=pt b6 (.cells (fA y).toArray 254 (0,0)))) underlying254 rfl au ?_);refine (Xl y h12).mono ?_;rintro ee ku ⟨v,rfl,rfl,h13⟩;clear h12;by_cases hc:Rep.counts y=true
   ·have hlv:(λs=>Rep.gu s (kv.take (i+1)))=λs=>if s=y.place.seg then Rep.gu y.place.seg (kv.take i)+y.place.size else Rep.gu s (kv.take i):=by
     funext s
     rw [dP.o,Rep.G6];by_cases e:s=y.place.seg
     ·subst e;simp [hc]
     ·simp only [hc,true_and,abL e];rw [abL (λh=>e h.symm),Int.add_zero]
    have Hlv:=uQ hlv;have hlk:=Kr y.place.seg (h13.pick (aU (aU (aU (aU aK)))));obtain ⟨kC,hup,fP⟩:=QJ y.place.seg (Rep.gu y.place.seg (kv.take i)+y.place.size) (h13.pick (aU (aU (aU (aU aK)))));obtain ⟨q1,q2⟩:=Rep.Q8 y.place.seg (b:=4294967296) aG (kv.take i) λp hp=>(kX.o p (ae2 hp)).2;have q3:(kv.take i).length<=13000000:=adT (aoM i kv) qg.o;have q4:=Hs.o;have hwa:IntKind.i64.wrap (Rep.gu y.place.seg (kv.take i)+y.place.size)=Rep.gu y.place.seg (kv.take i)+y.place.size:=acO _ oQ;have hwb:wrap64 (Rep.gu y.place.seg (kv.take i)+y.place.size)=Rep.gu y.place.seg (kv.take i)+y.place.size:=ahX _ oQ;clear q1 q2 q3 q4 hlv;have e0:ku.cell? ⟨b4,0,none⟩=some (.map (some bm)):=h13.cellP (aU (aU (aU aK))) 0 rfl;have e1:ku.cell? ⟨b6,1,none⟩=some (.int .i64 y.place.seg):=h13.cellP aK 1 rfl;have e2:ku.cell? ⟨b6,3,none⟩=some (.int .i64 y.place.size):=h13.cellP aK 3 rfl
    rw [hc];clear h13 hc;go_wp2_with fail;refine wpIn_cond_true ah ?_;refine wW ah λK10 hK10=>?_;go_wp2_with fail;rw [<-Hlv.o]at fP;refine ⟨trivial,?_⟩
    have h15:Sat w0 kC (bZ ps last pi uv tv::pt b2 (.cells #[ptr ps] 103 (0,0))::pt b4 (.cells #[.map (some bm)] 246 (0,0))::jX bm (λs=>Rep.gu s (kv.take (i+1))) ::
     bf pi (Tab.mapOf (Rep.puts (kv.take (i+1)))) (i+1)::aC 205 3 uv (us.flatMap bJ)::pt b3 (.cells #[ptr pg] 256 (0,0))::(F++U')):=fP.sb
    rw [<-Dz.o]at h15;exact h15
   ·have hlv:(λs=>Rep.gu s (kv.take (i+1)))=λs=>Rep.gu s (kv.take i):=by
     funext s
     rw [dP.o,Rep.G6,abL (λh=>hc h.1),Int.add_zero]
    have Hlv:=uQ hlv;rw [Bool.not_eq_true]at hc;rw [hc];clear hlv hc;go_wp2_with fail;refine wpIn_cond_false ah ?_;refine wpIn_skip ?_;go_wp2_with fail;rw [<-Hlv.o]at h13;refine ⟨trivial,?_⟩
    have h15:Sat w0 ku (bZ ps last pi uv tv::pt b2 (.cells #[ptr ps] 103 (0,0))::pt b4 (.cells #[.map (some bm)] 246 (0,0))::jX bm (λs=>Rep.gu s (kv.take (i+1))) ::
     bf pi (Tab.mapOf (Rep.puts (kv.take (i+1)))) (i+1)::aC 205 3 uv (us.flatMap bJ)::pt b3 (.cells #[ptr pg] 256 (0,0))::(F++U')):=h13.sb
    rw [<-Dz.o]at h15;exact h15
 ·intro D w8 h8
  have h9:Sat w0 w8 (fJ pg m B::pt bA (.cells #[ptr pg] 251 (0,0))::bZ ps last pi uv tv::pt b2 (.cells #[ptr ps] 103 (0,0))::pt b4 (.cells #[.map (some bm)] 246 (0,0))::jX bm (λs=>Rep.gu s kv) ::
   bf pi (Tab.mapOf (Rep.puts kv)) kv.length::aC 205 3 uv (us.flatMap bJ)::pt b3 (.cells #[ptr pg] 256 (0,0))::(F++[pt D (.deferred (some []))])):=by
   have q:=h8;unfold X5 at q;rw [abl,aeH]at q;exact q
  have hA:Sat w0 w8 (pt D (.deferred (some []))::fJ pg m B::pt bA (.cells #[ptr pg] 251 (0,0))::bZ ps last pi uv tv::pt b2 (.cells #[ptr ps] 103 (0,0))::pt b4 (.cells #[.map (some bm)] 246 (0,0))::jX bm (λs=>Rep.gu s kv) ::
   bf pi (Tab.mapOf (Rep.puts kv)) kv.length::aC 205 3 uv (us.flatMap bJ)::pt b3 (.cells #[ptr pg] 256 (0,0))::F):=
   Sat.Jt (L:=fJ pg m B::pt bA (.cells #[ptr pg] 251 (0,0))::bZ ps last pi uv tv::pt b2 (.cells #[ptr ps] 103 (0,0))::pt b4 (.cells #[.map (some bm)] 246 (0,0))::jX bm (λs=>Rep.gu s kv) ::
    bf pi (Tab.mapOf (Rep.puts kv)) kv.length::aC 205 3 uv (us.flatMap bJ)::pt b3 (.cells #[ptr pg] 256 (0,0))::F) (R:=[pt D (.deferred (some []))]) h9
  clear h7 h8 h9;have hB2:Sat w0 w8 (aC 205 3 uv ((Rep.half kv us 0).flatMap bJ)::bZ ps last pi uv tv::pt b2 (.cells #[ptr ps] 103 (0,0))::pt b4 (.cells #[.map (some bm)] 246 (0,0))::jX bm (λs=>Rep.gu s kv)::pt D (.deferred (some []))::bf pi (Tab.mapOf (Rep.puts kv)) kv.length::fJ pg m B::F):=hA.sb;clear hA;obtain ⟨ua,uc,rfl⟩:=iP (l:=Rep.half kv us 0) (f:=bJ) (k:=3) (λu _=>rfl) (Sat.rd hB2) aG;rw [Rep.Qk]at hB2;go_wp2_with ((with_reducible refine bC ⟨?_⟩);refine eY hB2 ah bK bG ay au ?_)
  go_loopg [42] us.length (λg iq wr=>∃ i:Nat,g=us.length-i/\i<=us.length/\iq=.int .i64 i /\
   Sat w0 wr (aC 205 3 (.slice ua us.length uc) ((Rep.half kv us i).flatMap bJ)::bZ ps last pi (.slice ua us.length uc) tv::pt b2 (.cells #[ptr ps] 103 (0,0))::pt b4 (.cells #[.map (some bm)] 246 (0,0))::jX bm (λs=>Rep.gu s kv)::pt D (.deferred (some []))::bf pi (Tab.mapOf (Rep.puts kv)) kv.length::fJ pg m B::F))
  case atStart=>exact ⟨0,rfl,ad4 _,rfl,hB2⟩
  case round=>
   obtain ⟨i,rfl,hi,rfl,hS⟩:=hrel;clear hB2;by_cases hlt:i<us.length;rotate_left
   ·obtain rfl:i=us.length:=by omega
    have c1:¬ (us.length:Int)<(us.length:Int):=oQ;rw [Rep.ahF]at hS;clear hlt hi;go_wp2_with fail;refine agU rfl (hS.pick (aU (aU (aU (aU (aU aK)))))) (λw=>results_none rfl _ _ _) ?_;intro w9 h9;exact ⟨_,rfl,h9.sb⟩
   have c1:(i:Int)<(us.length:Int):=oQ;have hwi:IntKind.i64.wrap ((i:Int)+1)=(i:Int)+1:=acO _ (by have:=Hu.o;omega);obtain ⟨u,hu⟩:∃ u,us[i]?=some u:=⟨_,aaJ hlt⟩;have hx:(Rep.half kv us i)[i]?=some u:=Rep.ahG hu;have wz:=uQ (LU (f:=bJ) (k:=3) (o:=2) (x':=Rep.upd kv u) (vs:=[.int .i64 (Rep.gu u.seg kv)]) (λu _=>rfl) hx ah (by show 2+1<=3;decide));rw [Rep.ahH hu]at wz;have hrl:((Rep.half kv us i).flatMap bJ).length=3*us.length:=by rw [iK (k:=3) (f:=bJ) λu _=>rfl,Rep.Qk]
   obtain ⟨bk,off,c',hsv,hcell⟩:=iL (f:=bJ) (k:=3) (λu _=>rfl) (Sat.rd hS) hx aG;rw [Rep.Qk]at hsv;cases hsv;rcases Sat.kL hS with ⟨e,_⟩|⟨g',n',cap',cs',e,_⟩
   ·cases e
   obtain rfl:off=0:=by injection e with e1;injection e1 with e2;injection e2
   obtain ⟨g',rfl⟩:∃ g,g=bk:=⟨_,rfl⟩;simp only [aeE]at hcell;have aS:=uQ hlt;clear hlt hi hu hx
   go_wp2_with (first
    |((with_reducible refine bC ⟨?_⟩);refine iD (o:=i*3) (bJ u) ah hcell underlying205 rfl au ?_)
    |(with_reducible apply eG))
   refine ⟨eU I7 hS rfl ?_⟩;intro b8 w9 iU;go_wp2_with ((with_reducible refine bW ⟨?_⟩);refine fG (bJ u).toArray iU ah ah ah bU au ah ?_;intro w10 dG);have hSd:=dG.drew
   have hG:w10.drew.cell? ⟨b2,0,none⟩=some (ptr ps)/\w10.drew.cell? ⟨ps,2,none⟩=some (.slice (some ⟨g',0,none⟩) us.length uc)/\w10.drew.cell? ⟨b4,0,none⟩=some (.map (some bm))/\w10.drew.cell? ⟨b8,0,none⟩=some (.int .i64 u.seg) /\
     (Instr.lookup 246 (.map (some bm)) (.int .i64 u.seg) false).run prog w10.drew=.ok (.int .i64 (Rep.gu u.seg kv)) w10.drew:=
    ⟨hSd.cellP (aU (aU (aU aK))) 0 rfl,hSd.cellP (aU (aU aK)) 2 rfl,hSd.cellP (aU (aU (aU (aU aK)))) 0 rfl,hSd.cellP aK 0 rfl,Kr u.seg (hSd.pick (aU (aU (aU (aU (aU aK))))))⟩
   clear hS iU hcell;refine eF [9,10,11] (λw'=>w'.cell? ⟨b2,0,none⟩=some (ptr ps)/\w'.cell? ⟨ps,2,none⟩=some (.slice (some ⟨g',0,none⟩) us.length uc)/\w'.cell? ⟨b4,0,none⟩=some (.map (some bm))/\w'.cell? ⟨b8,0,none⟩=some (.int .i64 u.seg)/\(Instr.lookup 246 (.map (some bm)) (.int .i64 u.seg) false).run prog w'=.ok (.int .i64 (Rep.gu u.seg kv)) w') au ?_;refine rt 0 (h:=?_);refine rP 1 ?_ (y:=iG);refine rP 2 ?_ (y:=dh);refine rt 3 (h:=?_);refine rP 4 ?_ (y:=bD);refine rt 5 (h:=?_);refine rP 6 ?_ (y:=dh);refine rt 7 (h:=?_);refine rt 8 (h:=?_);refine rP 9 ?_ (y:=iV);refine rP 10 ?_ (y:=dh);clear hG;refine cZ 11 ay au (λK' hK'=>?_);refine D8 (vs:=[.int .i64 (Rep.gu u.seg kv)]) (i*3+2) hSd ay ay rfl (lN bU) (by rw [hrl];have:=aS.o;show i*3+2+1<=_;omega) au ah ?_;intro w12 kH;refine hK' _ _ (.inl rfl) ?_;clear hK' hSd dG;refine dX au ?_
   rw [<-wz.o]at kH;go_wp2_with fail
   go_roundg (us.length-(i+1))
   case measure=>have:=aS.o;omega
   case rel=>exact ⟨i+1,rfl,aS.o,by first|rfl|go_num,kH.sb⟩
end
end Go.Proofs.Y
