import Derived.Test.YtadhomdmbcldkaaGreatDoorJ11
set_option linter.unusedSimpArgs false
variable {A C:Prop}
open Go.Proofs.Tryz
set_option maxRecDepth 100000
set_option linter.unusedVariables false
set_option maxHeartbeats 128000000
open Go Go.Sl Go.MapKept Go.RowKit
open Go.Proofs.YtadhomdmbcldkaaGreatDoor Go.Proofs.Y
variable {w0 w:World}{F R:List aO}{m p B K n E r0 lc r B1:Nat}{M:aG.aG}{k:ay.Bs}{sv v:Value}{zs:List Sg}{L:aB.aS}{us:List aJ.gX}{la:Option Addr}{limit aZ N:Int}{mi:ay.Bs->Option aB.bT}{ys:List Mp}{d:Bool}
theorem yI0(h:A:=by have:=f.o;have:=dP.o;omega):A:=h
theorem zH0(h:A:=by rw [bP,oV.o];kernel_rfl):A:=h
namespace Go.Proofs.Y
open Go.aG
section
variable {ops:Array Oper}{rest:List Oper}{a:Act}{Q:Exit->Act->World->Prop}{dst:Option Tmp}{pos:String}{after:Array Edge}{s y:Operand}{x:Value}{q:Nat}
theorem auZ (t:au w0 w (Ac q aB.dL::R)) (hv:a.eval s=.slice (some ⟨q,0,none⟩) 8 8) (hy:a.eval y=x) (u:bK 1 x (aI k) w) (v:k≠[]) (A:k.length<=1073741824)
  (z:∀ n o r w',au w0 w' (cZ (.slice (some ⟨n,0,none⟩) o r) (aB.dL++k)::R)->wpList prog ops Q rest (a.put dst (.slice (some ⟨n,0,none⟩) o r)) w') :
  wpList prog ops Q (⟨dst,.call { callee:= .builtin .append,args:=#[s,y],argTypes:=#[59,59] },59,pos,after,none⟩::rest) a w:=by
 obtain ⟨i,hi,d,f,g⟩:=Aa;have b:bK 1 (.slice (some ⟨q,0,none⟩) 8 8) (aI aB.dL) w:=by
  refine ⟨_,8,8,rfl,rfl,λj y hj=>⟨_,rfl,?_⟩⟩;rw [xw];have c:j<aB.dL.length:=by
   have:=(abM.1 hj).1;rw [bP]at this;exact this
  have l:=(JQ t c 0).1;unfold aI at hj;rw [ab4,aaf c]at hj;cases hj;exact l
 refine ajs rfl λ_ m=>?_;obtain ⟨n,o,r,w',hr,l⟩:=agX 59 59 _ i _ underlying59 hi d f aA q 8 8 aA (abG _) b t.drop u (λe=>v (List.map_eq_nil_iff.1 e)) (by rw [bP,bP];unfold maxLen;show 8+k.length<=_;omega) (by rw [bP,bP,g];show (8+k.length)*1<=_;omega);refine Vk ?_;refine m _ _ (z n o r w' ?_);unfold cZ aI;rw [acy];exact l
end
section
variable {y:Mp}
theorem adO (hM:M.Ok K) (hK:K+1<=1099511627776) (s:ByteArray) (h:au w0 w (aV m M::F)) :
  Calls prog 106 #[aW m,.string s] w (bf λv w'=>v=dS (aB.oz M s).2/\au w0 w' (aV m (aB.oz M s).1::F)):=by
 have d:=Fv hM h s;have b:=BM hM oQ h s;have f:=uQ (show aB.oz M s=if (M.size s).2=9 then (M,0) else M.dA s from rfl);generalize M.size s=r at *
 generalize M.dA s=i at *
 obtain ⟨n,e⟩:=r;dsimp only at d b f;by_cases c:e=9
 ·have a:=uQ (f.o.trans (abL c));have j:=alj.2 c
  go_in
  go_wp2_with fail;refine d.mono ?_;rintro g l ⟨v,rfl,rfl,rfl⟩;go_wp2;go_ret;exact ⟨_,rfl,by rw [a.o];rfl,by rw [a.o];exact h⟩
 ·have a:=uQ (f.o.trans (abB c))
  go_in
  go_wp2_with fail;refine d.mono ?_;rintro g l ⟨v,rfl,rfl,rfl⟩;go_wp2_with fail;refine b.mono ?_;rintro g x ⟨v,rfl,rfl,o⟩;go_wp2;go_ret;exact ⟨_,rfl,by rw [a.o];rfl,by rw [a.o];exact o⟩
theorem arv (hM:M.Ok K) (hK:K+6<=1099511627776) (ht:(M.size aH.tmp).2=0\/(M.size aH.tmp).2=9) (hy:xk y) (hn:y.1.1<1048576) (hb:y.1.2.length<=16777216) (hro:Ro w0 F (bK 36 y.2.2 (jw y.2.1)))
  (hda:∀ (f:ay.fO) (dv:Value),(f,dv)∈y.2.1->(∃ a n c,dv=.slice a n c/\n=f.e.data.length)/\Ro w0 F (bK 1 dv (aI f.e.data))) (hH:Ro w0 F iO) (h:au w0 w (aV m M::F)) :
  Calls prog 105 #[.agg (iy y).toArray,aW m] w (bf λv w'=>v=dS (aB.pX M y.1).2/\au w0 w' (aV m (aB.pX M y.1).1::F)):=by
 have Y:y.2.1.map (·.1.e)=aB.jG y.1.2:=by rw [<-aB.Xc,<-hy.Tm,ajr];rfl
 have ae:=(aB.Ky y.1.2).1;have hnl:=(aB.Ky y.1.2).2.1;have hne:=aB.WB y.1.2;obtain ⟨⟨n,b⟩,l,sv⟩:=y;obtain ⟨_,hk,a,c,anM⟩:=hy;obtain rfl:sv=.slice a l.length c:=anM;dsimp only at hn hb hro hda Y ae hnl hne;have af:l.length=(aB.jG b).length:=by rw [<-Y,abl]
 have Hr:=uQ (show aB.pX M (n,b)=if aB.jG b=[] then M.dA (aB.name (n:Int)) else aH.gG M (aB.name (n:Int)) (aB.dL++ay.bU (aB.jG b)) from rfl);show Calls _ _ #[.agg #[.int .i64 n,.slice a l.length c,.int .i64 (ay.eF b).2.1,.int .i64 (ay.eF b).2.2],aW m] _ (bf λv w'=>v=dS (aB.pX M (n,b)).2/\au w0 w' (aV m (aB.pX M (n,b)).1::F));have HM:=uQ hM;have HK:=uQ hK;have Ht:=uQ ht;have Hk:=uQ hk;have xg:=uQ hro;have Hda:=uQ hda;have HH:=uQ hH;have Hnl:=uQ (show (aB.dL++ay.bU (aB.jG b)).length<=16777224 by have:(aB.wL b)=aB.dL++ay.bU (aB.jG b):=rfl;rw [<-this];omega);have yE:=uQ (show l.length<=16777216 by omega);have Y0:=uQ Y;have fV:=uQ ae;have F6:=uQ (λ(w:World) (G:List aO) (hw:au w0 w G)=>Au (w0:=w0) (F:=G) (n:Int) hw);have YP:=uQ (aB.JV (n:Int));clear hM hK ht hn hb hro hda hH Y ae hnl hne hk;generalize aB.jG b=es at *
 generalize ay.eF b=sc at *
 generalize aB.name (n:Int)=nm at *
 obtain ⟨scl,x,z⟩:=sc;dsimp only;by_cases h0:l.length=0
 ·have d:=uQ (Hr.o.trans (abL (ajn oQ)));have hz:((l.length:Int)==0)=true:=by rw [alj];omega
  clear h0 af Hr;go_enter func105,ntmps105;go_wp2_with (with_reducible apply jy);refine ⟨jB h aA aA ?_⟩;intro b1 L D;replace D:au w0 L (pt b1 (.cells #[.int .i64 n,.slice a l.length c,.int .i64 x,.int .i64 z] 189 (0,0))::aV m M::F):=D;have e1:L.cell? ⟨b1,1,none⟩=some (.slice a l.length c):=D.bI bJ 1 rfl;have e0:L.cell? ⟨b1,0,none⟩=some (.int .i64 n):=D.bI bJ 0 rfl;go_wp2_with fail;refine (F6.o _ _ D).mono ?_;rintro W w2 ⟨v,rfl,rfl,h2⟩;have s:=BM HM.o yN0 (h2.drop) nm;clear D e1 e0;go_wp2_with fail;refine s.mono ?_;rintro W w3 ⟨v,rfl,rfl,h3⟩;go_wp2_with fail;go_ret;exact ⟨_,rfl,by rw [d.o];rfl,by rw [d.o];exact h3⟩
 have d:=uQ (Hr.o.trans (abB (λe=>h0 (by rw [af,e];rfl))));have hz:((l.length:Int)==0)=false:=by rw [acj];omega
 clear h0 af Hr;go_enter func105,ntmps105;go_wp2_with (with_reducible apply jy);refine ⟨jB h aA aA ?_⟩;intro b1 L D;replace D:au w0 L (pt b1 (.cells #[.int .i64 n,.slice a l.length c,.int .i64 x,.int .i64 z] 189 (0,0))::aV m M::F):=D;have e1:L.cell? ⟨b1,1,none⟩=some (.slice a l.length c):=D.bI bJ 1 rfl;have hcv:=Lib.run_convert_bytes_const (P:=prog) L 59 5 #[.int .u8 72,.int .u8 79,.int .u8 65,.int .u8 82,.int .u8 68,.int .u8 83,.int .u8 69,.int .u8 71] 8 8 underlying59 underlying5;have h2:au w0 (L.alloc (.cells #[.int .u8 72,.int .u8 79,.int .u8 65,.int .u8 82,.int .u8 68,.int .u8 83,.int .u8 69,.int .u8 71] 5 (8,9))) (Ac L.heap.size aB.dL::pt b1 (.cells #[.int .i64 n,.slice a l.length c,.int .i64 x,.int .i64 z] 189 (0,0))::aV m M::F):=D.alloc _;have e2:=h2.bI bZ 1 rfl;simp only [abC,aiT,ajw,aiO,Nat.reduceAdd]at hcv;go_wp2_with fail;clear hcv e1 e2 D h
 go_loopg [5,29] l.length (λg bq iq wr=>∃ i:Nat,g=l.length-i/\i<=l.length/\iq=.int .i64 i /\
  ((i=0/\bq=.slice (some ⟨L.heap.size,0,none⟩) 8 8/\au w0 wr (Ac L.heap.size aB.dL::pt b1 (.cells #[.int .i64 n,.slice a l.length c,.int .i64 x,.int .i64 z] 189 (0,0))::aV m M::F)) \/
   (i≠0/\au w0 wr (cZ bq (aB.dL++ay.bU (es.take i))::pt b1 (.cells #[.int .i64 n,.slice a l.length c,.int .i64 x,.int .i64 z] 189 (0,0))::aV m M::F))))
 case atStart=>exact ⟨0,rfl,acn _,rfl,.inl ⟨rfl,rfl,h2⟩⟩
 case round=>
  obtain ⟨i,rfl,hi,rfl,E⟩:=hrel;clear h2;by_cases Z:i<l.length;rotate_left
  ·as_aux_lemma=>
   obtain rfl:i=l.length:=oQ;have c1:¬ (l.length:Int)<(l.length:Int):=oQ;have hel:es.take l.length=es:=by rw [<-Y0.o,acE (by rw [abl];exact abG _)]
   rcases E with ⟨h00,_⟩|⟨_,E⟩
   ·exfalso;rw [h00]at hz;exact absurd hz aU
   rw [hel]at E;clear Z hi hel;obtain ⟨ua,un,uc,rfl,_,_⟩:=au.rd E;generalize aB.dL++ay.bU es=r at *
   have HX:=uQ (show aH.gG M nm r=(if (aB.oz M aH.tmp).2=0 then (if ((aB.oz M aH.tmp).1.dM aH.tmp).2=0 then aH.fill ((aB.oz M aH.tmp).1.dM aH.tmp).1 nm r else (aB.oz M aH.tmp).1.dM aH.tmp) else aB.oz M aH.tmp) by
    unfold aH.gG;rw [aB.arD Ht.o])
   have JY:(aB.oz M aH.tmp).1.Ok (K+1):=by
    unfold aB.oz;split
    ·exact HM.o.mono oQ
    ·exact HM.o.dA _
   have s:=adO HM.o yN0 aH.tmp E.sb;generalize aB.oz M aH.tmp=r0 at *
   obtain ⟨M0,e0⟩:=r0;dsimp only at s JY HX;clear E;go_wp2_with fail;refine s.mono ?_;rintro W w3 ⟨v,rfl,rfl,h3⟩;clear s;by_cases c0:e0=0;rotate_left
   ·have hb0:(e0 != 0)=true:=ajo.2 c0;have HF:=uQ (show aH.gG M nm r=(M0,e0) from HX.o.trans (abB c0));clear c0;go_wp2_with fail;go_ret;exact ⟨_,rfl,by rw [d.o,HF.o];rfl,by rw [d.o,HF.o];exact h3.sb⟩
   subst c0;have aa:=uQ (show aH.gG M nm r=(if (M0.dM aH.tmp).2=0 then aH.fill (M0.dM aH.tmp).1 nm r else M0.dM aH.tmp) from HX.o.trans (abL rfl));have ag:=Ji JY yN0 h3 aH.tmp aU;have ah:=JY.dM aH.tmp;generalize M0.dM aH.tmp=r1 at *
   obtain ⟨H,e1⟩:=r1;dsimp only at ag ah aa;clear h3 HX;go_wp2_with fail;refine ag.mono ?_;rintro W w4 ⟨v,rfl,rfl,h4⟩;clear ag;by_cases c1:e1=0;rotate_left
   ·have hb1:(e1 != 0)=true:=ajo.2 c1;have HF:=uQ (show aH.gG M nm r=(H,e1) from aa.o.trans (abB c1));clear c1;go_wp2_with fail;go_ret;exact ⟨_,rfl,by rw [d.o,HF.o];rfl,by rw [d.o,HF.o];exact h4.sb⟩
   subst c1;have HY:=uQ (show aH.gG M nm r=aH.fill H nm r from aa.o.trans (abL rfl));clear aa;have ai:=Ja ah yN0 h4 aH.tmp r (Ro.cZ _ _);have ab:=ah.append aH.tmp r
   have HE:=uQ (show aH.fill H nm r=(if (H.append aH.tmp r).2=0 then
     (if ((H.append aH.tmp r).1.dY aH.tmp).2=0 then ((H.append aH.tmp r).1.dY aH.tmp).1.kC aH.tmp nm else (H.append aH.tmp r).1.dY aH.tmp)
    else if (H.append aH.tmp r).2=11 then
     (if ((H.append aH.tmp r).1.dA aH.tmp).2=0 then (((H.append aH.tmp r).1.dA aH.tmp).1,11) else (H.append aH.tmp r).1.dA aH.tmp)
    else H.append aH.tmp r) from rfl)
   generalize H.append aH.tmp r=r2 at *
   obtain ⟨M2,e2⟩:=r2;dsimp only at ai ab;clear h4;go_wp2_with fail;refine ai.mono ?_;rintro W w5 ⟨v,rfl,rfl,h5⟩;clear ai;by_cases c2:e2=0;rotate_left
   ·have hb2:(e2 != 0)=true:=ajo.2 c2;by_cases c3:e2=11
    ·subst c3;have s:=BM ab yN0 h5 aH.tmp;have HG:=uQ (show aH.gG M nm r=(if (M2.dA aH.tmp).2=0 then ((M2.dA aH.tmp).1,11) else M2.dA aH.tmp) from HY.o.trans (HE.o.trans ((abB c2).trans (abL rfl))));generalize M2.dA aH.tmp=r3 at *
     obtain ⟨M3,e3⟩:=r3;dsimp only at s;clear h5 c2 HY HE;go_wp2_with fail;refine s.mono ?_;rintro W w6 ⟨v,rfl,rfl,h6⟩;clear s;by_cases N:e3=0
     ·have aj:(e3 != 0)=false:=by rw [N];rfl
      have HF:=uQ (HG.o.trans (abL N));clear N;go_wp2_with fail;go_ret;exact ⟨_,rfl,by rw [d.o,HF.o];rfl,by rw [d.o,HF.o];exact h6.sb⟩
     ·have aj:(e3 != 0)=true:=ajo.2 N;have HF:=uQ (HG.o.trans (abB N));clear N;go_wp2_with fail;go_ret;exact ⟨_,rfl,by rw [d.o,HF.o];rfl,by rw [d.o,HF.o];exact h6.sb⟩
    ·have aj:(e2==11)=false:=acj.2 c3;have HF:=uQ (show aH.gG M nm r=(M2,e2) from HY.o.trans (HE.o.trans ((abB c2).trans (abB c3))));clear c2 c3;go_wp2_with fail;go_ret;exact ⟨_,rfl,by rw [d.o,HF.o];rfl,by rw [d.o,HF.o];exact h5.sb⟩
   subst c2;have hsy:=Qb ab h5 aH.tmp;have Ai:=ab.dY aH.tmp;have HG:=uQ (show aH.gG M nm r=(if (M2.dY aH.tmp).2=0 then (M2.dY aH.tmp).1.kC aH.tmp nm else M2.dY aH.tmp) from HY.o.trans (HE.o.trans (abL rfl)));generalize M2.dY aH.tmp=r3 at *
   obtain ⟨M3,e3⟩:=r3;dsimp only at hsy Ai;clear h5 HY HE;go_wp2_with fail;refine hsy.mono ?_;rintro W w6 ⟨v,rfl,rfl,h6⟩;clear hsy;by_cases N:e3=0;rotate_left
   ·have aj:(e3 != 0)=true:=ajo.2 N;have HF:=uQ (show aH.gG M nm r=(M3,e3) from HG.o.trans (abB N));clear N;go_wp2_with fail;go_ret;exact ⟨_,rfl,by rw [d.o,HF.o];rfl,by rw [d.o,HF.o];exact h6.sb⟩
   subst N;have O:=VR Ai yN0 h6 aH.tmp nm YP.o;have HF:=uQ (show aH.gG M nm r=M3.kC aH.tmp nm from HG.o.trans (abL rfl));have e9:w6.cell? ⟨b1,0,none⟩=some (.int .i64 n):=h6.bI jS 0 rfl;clear O;go_wp2_with fail;refine (F6.o _ _ h6).mono ?_;rintro W w7 ⟨v,rfl,rfl,h7⟩;have O:=VR Ai yN0 h7 aH.tmp nm YP.o;generalize M3.kC aH.tmp nm=r4 at *
   obtain ⟨M4,e4⟩:=r4;dsimp only at O;clear h6 e9;go_wp2_with fail;refine O.mono ?_;rintro W w8 ⟨v,rfl,rfl,h8⟩;clear O;go_wp2_with fail;go_ret;exact ⟨_,rfl,by rw [d.o,HF.o];rfl,by rw [d.o,HF.o];exact h8.sb⟩
  have c1:i<l.length:=oQ;have hwi:IntKind.i64.wrap (i+1)=(i:Int)+1:=abR _ (by have:=yE.o;omega);obtain ⟨⟨f,dv⟩,hq⟩:∃ q,l[i]?=some q:=⟨_,aaf Z⟩;have hqm:=abH hq;obtain ⟨⟨I,dn,J,rfl,rfl⟩,hdr⟩:=Hda.o f dv hqm;have Hdr:=uQ hdr;have t:=uQ (show f.e.key.length=32 from Hk.o _ hqm);have hqe:es[i]?=some f.e:=by rw [<-Y0.o,ab4,hq];rfl
  have hgd:=fV.o _ (abH hqe);have Yu:=uQ (show f.e.data.length<=16384 from aB.abz hgd);have Hen:=uQ (aB.aaI hgd)
  have jl:=uQ (show ay.bU (es.take (i+1))=ay.bU (es.take i)++(ay.dI f.e).1 by
   rw [ajf,hqe,akf,aB.CZ]
   congr 1
   unfold ay.bU;simp)
  have Eb:=uQ (show (aB.dL++ay.bU (es.take i)).length+(ay.dI f.e).1.length<=16777224 by
   have D:aB.dL++ay.bU es=(aB.dL++ay.bU (es.take (i+1)))++ay.bU (es.drop (i+1)):=by
    rw [ab6,<-aB.CZ,aja]
   have h2:=aiX List.length D;rw [jl.o]at h2;simp only [aay]at h2 ⊢;have h3:=Hnl.o;simp only [aay]at h3;omega)
  have Q:∀ w',au w0 w' F->∃ X off,a=some ⟨X,off,none⟩/\∀ j v,(qU f (.slice I f.e.data.length J))[j]?=some v->w'.cell? ⟨X,off+i*36+j,none⟩=some v:=λw' hw=>Dh Hk.o (xg.o w' hw) hq;obtain ⟨X,off,rfl,u⟩:∃ X off,a=some ⟨X,off,none⟩/\∀ j v,(qU f (.slice I f.e.data.length J))[j]?=some v->wr.cell? ⟨X,off+i*36+j,none⟩=some v:=by
   rcases E with ⟨_,_,h⟩|⟨_,h⟩
   ·exact Q wr h.drop.drop.drop
   ·exact Q wr h.drop.drop.drop
  clear Q;have ad:(qU f (.slice I f.e.data.length J)).length=36:=Bz _ _ t.o;have ac:=uQ Z;clear hq hqm hqe hgd hdr Z hi;rcases E with ⟨rfl,rfl,E⟩|⟨hi0,E⟩
  ·as_aux_lemma=>
   go_wp2_with (first
    |((with_reducible refine dH ⟨?_⟩);refine kQ (b:=X) (o:=off+0*36) (qU f (.slice I f.e.data.length J)) aA u underlying154 rfl (by rw [ad];kernel_rfl) ?_)
    |(with_reducible apply jd))
   refine ⟨iR Qw E rfl ?_⟩;intro R Ce S;clear u E;go_wp2_with (with_reducible apply eG);refine ⟨jK (nU f (.slice I f.e.data.length J)) S aA aA (by rw [xB _ _ t.o];rfl) eu (by rw [xB _ _ t.o];kernel_rfl) (Jm _ _ _ _) ?_⟩;intro IQ B;clear S
   have A:IQ.rangeAt R 0 (mM f.e (.slice I f.e.data.length J)):=λk v hk=>B.bI bJ (0+k) (by
    rw [aiO];unfold nU qU;rw [ab5,aiS (abM.1 hk).1];exact hk)
   go_wp2_with ((with_reducible refine dH ⟨?_⟩);refine kQ (b:=R) (o:=0) (mM f.e (.slice I f.e.data.length J)) aA A underlying71 rfl (by rw [zn _ _ t.o];exact zA) ?_);refine (SK f.e t.o I J (Ro.os Hdr.o) (Ro.os HH.o) B (abQ Yu.o aU)).mono ?_;rintro W w32 ⟨v,rfl,bv,rfl,⟨ba,bn,bc,rfl⟩,C⟩;clear B A;have T:=au.rd C;have U:au w0 w32 (Ac L.heap.size aB.dL::pt b1 (.cells #[.int .i64 n,.slice (some ⟨X,off,none⟩) l.length c,.int .i64 x,.int .i64 z] 189 (0,0))::aV m M::F):=C.sb;clear C;go_wp2_with (with_reducible apply oK);refine ⟨auZ U aA aA T (λe=>by have:=Hen.o;rw [e]at this;simp at this) (by have:=Eb.o;omega) ?_⟩;intro ba2 bn2 bc2 w34 V;clear T U;have ajG:=uQ (show ay.bU (es.take (0+1))=(ay.dI f.e).1 by rw [jl.o];rfl);rw [<-ajG.o]at V;go_wp2_with fail
   go_roundg (l.length-(0+1))
   case measure=>have:=ac.o;omega
   case rel=>exact ⟨0+1,rfl,ac.o,by first|rfl|go_num,.inr ⟨by decide,V⟩⟩
  ·as_aux_lemma=>
   go_wp2_with (first
    |((with_reducible refine dH ⟨?_⟩);refine kQ (b:=X) (o:=off+i*36) (qU f (.slice I f.e.data.length J)) aA u underlying154 rfl (by rw [ad];kernel_rfl) ?_)
    |(with_reducible apply jd))
   refine ⟨iR Qw E rfl ?_⟩;intro R Ce S;clear u E;go_wp2_with (with_reducible apply eG);refine ⟨jK (nU f (.slice I f.e.data.length J)) S aA aA (by rw [xB _ _ t.o];rfl) eu (by rw [xB _ _ t.o];kernel_rfl) (Jm _ _ _ _) ?_⟩;intro IQ B;clear S
   have A:IQ.rangeAt R 0 (mM f.e (.slice I f.e.data.length J)):=λk v hk=>B.bI bJ (0+k) (by
    rw [aiO];unfold nU qU;rw [ab5,aiS (abM.1 hk).1];exact hk)
   go_wp2_with ((with_reducible refine dH ⟨?_⟩);refine kQ (b:=R) (o:=0) (mM f.e (.slice I f.e.data.length J)) aA A underlying71 rfl (by rw [zn _ _ t.o];exact zA) ?_);refine (SK f.e t.o I J (Ro.os Hdr.o) (Ro.os HH.o) B (abQ Yu.o aU)).mono ?_;rintro W w32 ⟨v,rfl,bv,rfl,⟨ba,bn,bc,rfl⟩,C⟩;clear B A;have T:=au.rd C;have U:au w0 w32 (cZ u5 (aB.dL++ay.bU (es.take i))::pt b1 (.cells #[.int .i64 n,.slice (some ⟨X,off,none⟩) l.length c,.int .i64 x,.int .i64 z] 189 (0,0))::aV m M::F):=C.sb;clear C;go_wp2_with (with_reducible apply oK);refine ⟨auY U aA aA T (abQ Eb.o aU) ?_⟩;intro ba2 bn2 bc2 w34 V;clear T U;rw [ab6,<-jl.o]at V;go_wp2_with fail
   go_roundg (l.length-(i+1))
   case measure=>have:=ac.o;omega
   case rel=>exact ⟨i+1,rfl,ac.o,by first|rfl|go_num,.inr ⟨by omega,V⟩⟩
end
def kN (a:Int):List Value:=[.int .i64 a]
abbrev D6:Int:=0
theorem NU (a:Int):(kN a).length=1:=rfl
theorem acH (a:Int):(kN a).all (·.oneCell')=true:=rfl
theorem Yc:nR prog 317=some (.agg (bY kN ⟨0,ay.gu,D6⟩).toArray):=aC
theorem aqs:yA prog 317=some [(0,1),(1,32),(33,1)]:=aC
section
variable {gn d c:Nat}{s:List (aY.gy (Int))}{a:Option Addr}
theorem aei (hl:0<s.length) (h:au w0 w (kY p 315 (.slice a s.length c) n gn::F)) :
  Calls prog 198 #[aW p] w (bf λv w'=>v=.bool true/\w=w'):=by
 have e0:w.cell? ⟨p,0,none⟩=some (.slice a s.length c):=h.dD 0 _ rfl;have c1:(0:Int)<(s.length:Int):=oQ
 go_in
 go_wp2;go_ret;exact ⟨_,rfl,rfl,rfl⟩
abbrev lJ.iM:=@kN
abbrev lJ.iG:Nat:=34
abbrev lJ.lG:Nat:=1
abbrev lJ.DR:=@NU
abbrev lJ.XG:=@func199
abbrev lJ.XH:=@ntmps199
abbrev lJ.kZ:Nat:=315
abbrev lJ.jv:Nat:=317
abbrev lJ.FH:=@underlying317
abbrev lJ.FI:=@Yc
abbrev lJ.DK:=@acH
open lJ in
theorem Tf (g:aY.pK s) (hc:s.length<=1073741824) (hk:k.length=32) (he:aY.rO s k d) (h:au w0 w (kY p 315 sv n gn::aK 317 34 sv (s.flatMap (bY kN))::F)) :
  Calls prog 199 #[aW p,.agg (aI k).toArray] w (bf λv w'=>∃ x,s[aY.pos k s.length d]?=some x/\v=.tuple #[.int .i64 (aY.pos k s.length d:Nat),.int .i64 ((d:Int)+1),.bool (decide (x.st=1))] /\
   au w0 w' (kY p 315 sv n gn::aK 317 34 sv (s.flatMap (bY kN))::F)):=Uw
end
def nS (p:Nat) (m:ay.Bs->Option (Int)) (B:Nat):aO:=λh=>∃ (t:aY.Tb (Int)) (sv:Value),(t.Ok/\t.Is m/\t.n+t.gB<=B)/\nP [kY p 315 sv t.n t.gB,aK 317 34 sv (t.bG.flatMap (bY kN))] h
section
variable {m:ay.Bs->Option (Int)}{t:aY.Tb (Int)}
open lJ in
theorem nS.open (h:au w0 w (nS p m B::F)):∃ (t:aY.Tb (Int)) (sv:Value),(t.Ok/\t.Is m/\t.n+t.gB<=B)/\au w0 w (kY p 315 sv t.n t.gB::aK 317 34 sv (t.bG.flatMap (bY kN))::F):=Ux
theorem nS.fA (a:t.Ok) (b:t.Is m) (c:t.n+t.gB<=B) (h:au w0 w (kY p 315 sv t.n t.gB::aK 317 34 sv (t.bG.flatMap (bY kN))::F)):au w0 w (nS p m B::F):=
 au.join h λ_ d=>⟨t,sv,⟨a,b,c⟩,d⟩
abbrev lJ.Xm:=@func154
abbrev lJ.Xn:=@ntmps154
abbrev lJ.oH:Nat:=48
abbrev lJ.DL:=@D6
abbrev lJ.IG:=@Int
abbrev lJ.Qi:=@nS.fA
open lJ in
theorem apv (h:au w0 w F):Calls prog 154 #[] w (bf λv w'=>∃ p,v=aW p/\au w0 w' (nS p (λ_=>none) 0::F)):=Uy
end
section
variable {N:Nat}{m:ay.Bs->Option (Int)}{t:aY.Tb (Int)}
abbrev lJ.Xr:=@func200
abbrev lJ.Xt:=@ntmps200
abbrev lJ.Xu:=@Tf
open lJ in
theorem arq (ok:t.Ok) (hN:t.n<=N) (hNb:N<=134217728) (abZ:t.bG.length<=1073741824) (h:au w0 w (kY p 315 sv t.n t.gB::aK 317 34 sv (t.bG.flatMap (bY kN))::F)) :
  Calls prog 200 #[aW p,.int .i64 N] w (bf λ_ w'=>∃ s' sv',aY.Bd t s' N/\au w0 w' (kY p 315 sv' t.n 0::aK 317 34 sv' (s'.flatMap (bY kN))::F)):=Uz
end
theorem asX (k:ay.Bs) (hk:k.length=32) (v:Int) (w:World) :
  (Instr.build 317 #[(0,.int .i64 1),(1,.agg (aI k).toArray),(2,.int .i64 v)]).run prog w=.ok (.agg (bY kN ⟨1,k,v⟩).toArray) w:=by
 have hbk:(aI k).toArray.size=32:=by rw [abC,bP,hk]
 refine (uU [(0,.int .i64 1),(1,.agg (aI k).toArray),(2,.int .i64 v)] aqs Yc (by
  intro p' hp;simp only [ab9,ajW,av2]at hp;have hzz:(Value.agg (bY kN (⟨0,ay.gu,D6⟩:aY.gy (Int))).toArray).cells.size=34:=by
   show (bY kN (⟨0,ay.gu,D6⟩:aY.gy (Int))).toArray.size=34;rw [abC,pG kN _ aU 1 rfl]
  rw [hzz];rcases hp with rfl|rfl|rfl
  ·exact ⟨0,rfl,by show 0+1<=34;omega⟩
  ·refine ⟨1,?_,?_⟩
   ·exact VA
   ·show 1+(aI k).toArray.size<=34;omega
  ·exact ⟨33,rfl,by show 33+1<=34;omega⟩) w).trans ?_
 rw [show (Value.agg (bY kN (⟨0,ay.gu,D6⟩:aY.gy (Int))).toArray).cells=(bY kN (⟨0,ay.gu,D6⟩:aY.gy (Int))).toArray from rfl];have hp:=U9 kN ⟨0,ay.gu,D6⟩ k v aU hk rfl 1 rfl;replace hp:iK (iK (iK (bY kN (⟨0,ay.gu,D6⟩:aY.gy Int)).toArray 0 [.int .i64 1]) 1 (aI k)) 33 (kN v)=(bY kN ⟨1,k,v⟩).toArray:=hp;exact aiX (λz=>Result.ok (Value.agg z) w) hp
section
variable {m:ay.Bs->Option (Int)}
theorem aqH (hB:B<=134217000) (hk:k.length=32) (v:Int) (h:au w0 w (nS p m B::F)) :
  Calls prog 155 #[aW p,.agg (aI k).toArray,.int .i64 v] w (bf λ_ w'=>au w0 w' (nS p (aY.put m k v) (B+1)::F)):=by
 obtain ⟨t,sv,⟨ok,is,hb⟩,hR⟩:=nS.open h;obtain ⟨d,he⟩:=ok.pU k;have hsz:t.bG.length<=1073741824:=by have:=ok.size;omega
 have e:=uQ (show ∀ x∈t.bG,(bY kN x).length=34 from λx H=>pG kN x (ok.dW.key x H) 1 (NU _));obtain ⟨la,lc,rfl⟩:=l9 e.o (au.rd (hR.pick bZ)) aU;have z:0<(t.bG.flatMap (bY kN)).length:=by rw [lK e.o];have:=ok.dW.qX;omega
 obtain ⟨bk,rfl⟩:=J3 (hR.pick bZ) z;have Hk:=uQ hk;have l:=uQ ok;have E:=uQ is;have Hb:=uQ hb;have He:=uQ he;have I:=uQ hsz;have HB:=uQ hB;have R:=uQ ok.dW.qX;have AQ:=uQ (show (aI k).length=32 by rw [bP,hk]);clear h hk ok is hb he hsz hB z;go_enter func155,ntmps155;go_wp2_with (with_reducible apply jy);refine ⟨jB hR aF aF ?_⟩;intro X w4 hS4;have hA:au w0 w4 (kY p 315 (.slice (some ⟨bk,0,none⟩) t.bG.length lc) t.n t.gB::aK 317 34 (.slice (some ⟨bk,0,none⟩) t.bG.length lc) (t.bG.flatMap (bY kN))::pt X (.cells (aI k).toArray 34 (0,0))::F):=hS4.sb;clear hR hS4;go_wp2_with fail;refine (aei R.o hA).mono ?_;rintro ee w7 ⟨v',rfl,rfl,rfl⟩;go_wp2_with ((with_reducible refine dH ⟨?_⟩);refine kG hA aA (bW (bW (bJ (A:=pt X (.cells (aI k).toArray 34 (0,0)))))) underlying34 rfl yZ0 ?_);have hf:=Tf l.o.dW I.o Hk.o He.o hA;clear hA;refine hf.mono ?_
 rintro ee w8 ⟨v',rfl,x,H,rfl,S⟩;clear hf;have hlt:=aY.xK (k:=k) (d:=d) R.o;by_cases h1:x.st=1
 ·have hd:decide (x.st=1)=true:=aiC h1;have hxm:=abH H;have J:=uQ (PN (f:=bY kN) (k:=34) (o:=33) (x':=⟨x.st,x.key,v⟩) (vs:=kN v) e.o H (aht kN x v (l.o.dW.key x hxm) rfl) (by show 33+1<=34;decide));have L:=uQ (aY.aez l.o He.o H h1 v);have M:=uQ (aY.N7 E.o (aY.U8 l.o.dW He.o H h1 v).2 t.n t.gB);have z:(t.bG.flatMap (bY kN)).length=34*t.bG.length:=lK e.o;clear H hxm h1;generalize aY.pos k t.bG.length d=P0 at *
  have c0:(0:Int)<=(P0:Int):=oQ;have c1:(P0:Int)<(t.bG.length:Int):=oQ;have e0:w8.cell? ⟨p,0,none⟩=some (.slice (some ⟨bk,0,none⟩) t.bG.length lc):=S.bI dh 0 rfl;go_wp2_with (with_reducible apply eG);refine ⟨aiu (vs:=kN v) (P0*34+33) S aA aA rfl (pJ eu) (by rw [z];show P0*34+33+1<=_;omega) aC aA ?_⟩;intro w12 s;rw [<-J.o]at s;go_wp2_with fail
  go_end0
  exact ⟨_,rfl,nS.fA (sv:= .slice (some ⟨bk,0,none⟩) t.bG.length lc) L.o M.o (Nat.le_succ_of_le Hb.o) (s.sb)⟩
 have hd:decide (x.st=1)=false:=aes h1;have hb4:=Hb.o;have hB4:=HB.o;have Y:=I.o;obtain ⟨hA1,hA2,hA3,Js,Z,aa,Jr,Jt,Ju⟩:=aiA t.n t.gB t.bG.length oQ Y;have Hx:=uQ H;have H1:=uQ h1;clear H h1 hb4 hB4 Y;go_wp2_with fail;have c:=S.drew;clear S;have e0:World.cell? _ ⟨p,0,none⟩=some (.slice (some ⟨bk,0,none⟩) t.bG.length lc):=c.bI dh 0 rfl;have e1:World.cell? _ ⟨p,1,none⟩=some (.int .i64 t.n):=c.bI dh 1 rfl;have e2:World.cell? _ ⟨p,2,none⟩=some (.int .i64 t.gB):=c.bI dh 2 rfl
 go_region
 have g:3*t.bG.length<4*(t.n+t.gB+1)\/4*(t.n+t.gB+1)<=3*t.bG.length:=oQ;rcases g with g|g
 focus
  have hci:(3:Int)*(t.bG.length:Int)<4*((t.n:Int)+(t.gB:Int)+1):=oQ;have hrn:=arq (N:=t.n+1) l.o (akA _) yS0 I.o c;rw [show (((t.n+1:Nat)):Int)=(t.n:Int)+1 by omega]at hrn;clear c e0 e2;go_wp2_with fail;refine hrn.mono ?_;rintro ee w9 ⟨v',rfl,T,sv',C,oh⟩;clear hrn e1 hci g;have j:=C.ok;have O:=C.is E.o t.n 0;have P:4*((⟨T,t.n,0⟩:aY.Tb (Int)).n+(⟨T,t.n,0⟩:aY.Tb (Int)).gB+1)<=3*(⟨T,t.n,0⟩:aY.Tb (Int)).bG.length:=by have:=C.lo;simp only;omega
  have hb1:(⟨T,t.n,0⟩:aY.Tb (Int)).n+(⟨T,t.n,0⟩:aY.Tb (Int)).gB<=B:=by have:=Hb.o;simp only;omega
  have u:au w0 w9 (kY p 315 sv' (⟨T,t.n,0⟩:aY.Tb (Int)).n (⟨T,t.n,0⟩:aY.Tb (Int)).gB::aK 317 34 sv' ((⟨T,t.n,0⟩:aY.Tb (Int)).bG.flatMap (bY kN))::pt X (.cells (aI k).toArray 34 (0,0))::F):=oh;clear oh C hA1 hA2 hA3 Js Z aa Jr Jt Ju;generalize (⟨T,t.n,0⟩:aY.Tb (Int))=t1 at j O P hb1 u;have r:=uQ (show ∀ x∈t1.bG,(bY kN x).length=34 from λx H=>pG kN x (j.dW.key x H) 1 (NU _));obtain ⟨Ui,U,rfl⟩:=l9 r.o (au.rd (u.pick bZ)) aU;have a:=uQ j;have D:=uQ O;have Q:=uQ P;have Hb1:=uQ hb1;obtain ⟨d1,he1⟩:=j.pU k;have G:=uQ he1;have hno:m k=none:=by
   obtain ⟨_,q2⟩:=E.o.some l.o He.o Hx.o;exact q2 H1.o
  have hsz1:t1.bG.length<=1073741824:=by have:=j.size;have:=HB.o;omega
  clear j O P hb1 he1;go_wp2_with ((with_reducible refine dH ⟨?_⟩);refine kG u aA (bW (bW (bJ (A:=pt X (.cells (aI k).toArray 34 (0,0)))))) underlying34 rfl yZ0 ?_);have hf:=Tf a.o.dW hsz1 Hk.o G.o u;clear u hsz1;refine hf.mono ?_;rintro ee w8b ⟨v',rfl,x1,hx1,rfl,hT⟩;have V:=uQ hx1
  have W:=uQ (show x1.st≠1 from λh=>by
   have:=(D.o.some a.o G.o hx1).1 h;rw [hno]at this;cases this)
  clear hf hx1 hno Hx H1 He l E e R Hb I hlt hd;go_wp2_with fail
 rotate_left
 focus
  have hci:¬ (3:Int)*(t.bG.length:Int)<4*((t.n:Int)+(t.gB:Int)+1):=oQ;have Q:=uQ g;clear e0 e1 e2 g;go_wp2_with fail;clear hci hA1 hA2 hA3 Js Z aa Jr Jt Ju hlt hd R I;obtain ⟨t1,rfl⟩:∃ y,y=t:=⟨t,rfl⟩;obtain ⟨x1,rfl⟩:∃ y,y=x:=⟨x,rfl⟩;obtain ⟨d1,rfl⟩:∃ y,y=d:=⟨d,rfl⟩;obtain ⟨Ui,Jy⟩:∃ y:Option Addr,y=some ⟨bk,0,none⟩:=⟨_,rfl⟩;obtain ⟨U,rfl⟩:∃ y,y=lc:=⟨lc,rfl⟩;rw [<-Jy]at c;have hT:=c;have a:=uQ l.o;have D:=uQ E.o;have Hb1:=uQ Hb.o;have G:=uQ He.o;have V:=uQ Hx.o;have W:=uQ H1.o;have r:=uQ e.o;clear c l E Hb He Hx H1 e Jy
 all_goals
  have z:(t1.bG.flatMap (bY kN)).length=34*t1.bG.length:=lK r.o;obtain ⟨bk1,rfl⟩:=J3 (hT.pick bZ) (by rw [z];have:=a.o.dW.qX;omega);have J:=uQ (Ku (f:=bY kN) (k:=34) (i:=aY.pos k t1.bG.length d1) (x:=⟨1,k,v⟩) r.o (pG kN _ Hk.o 1 rfl) (aY.xK a.o.dW.qX));have L:=uQ (aY.aex a.o Q.o G.o V.o W.o Hk.o v);have M:=uQ (aY.N7 D.o (aY.OW a.o.dW G.o V.o W.o Hk.o v).2 (t1.n+1) t1.gB);have hlt1:=aY.xK (k:=k) (d:=d1) a.o.dW.qX;have hls:=pG kN (⟨1,k,v⟩:aY.gy (Int)) Hk.o 1 rfl;have hwn:IntKind.i64.wrap ((t1.n:Int)+1)=(t1.n:Int)+1:=abR _ (by have:=Hb1.o;have:=HB.o;omega);clear V W G a D Q;generalize aY.pos k t1.bG.length d1=P1 at *
  have c0:(0:Int)<=(P1:Int):=oQ;have c1:(P1:Int)<(t1.bG.length:Int):=oQ;have c:=hT.drew;clear hT;refine gK [8,9] (λw'=>w'.cell? ⟨p,0,none⟩=some (.slice (some ⟨bk1,0,none⟩) t1.bG.length U)/\w'.rangeAt X 0 (aI k)) aC ?_;have hG:World.cell? _ ⟨p,0,none⟩=some (.slice (some ⟨bk1,0,none⟩) t1.bG.length U)/\World.rangeAt _ X 0 (aI k):=⟨c.bI dh 0 rfl,wO (c.pk (A:=pt X (.cells (aI k).toArray 34 (0,0))))⟩;refine rP 0 ?_ (y:=bV);refine rP 1 ?_ (y:=jF);refine rP 2 ?_ (y:=eY);refine rt 3 (h:=?_);refine rP 4 ?_ (y:=bV);refine ji 5 aF aC dF (lF (b:=X) (o:=0) (aI k) aA underlying34 rfl (by rw [AQ.o];kernel_rfl) (λw hw=>hw.2)) aQ gQ ?_;refine rP 6 ?_ (y:=bV);refine rP 7 ?_ (y:=(IW aF aF aF (λw=>asX k Hk.o v w)));refine rP 8 ?_ (y:=kX);clear hG;refine dZ 9 aF aC (λK hK=>?_)
  refine Jj (vs:=bY kN ⟨1,k,v⟩) (P1*34) c aF aF rfl (pJ eu) (by rw [z,hls];omega) (by rw [hls];kernel_rfl) (y7 kN _ aA) ?_;intro w12 s;refine hK _ _ (.inl rfl) ?_;clear hK c;refine fK aC ?_
  try simp only [kW]
  try go_frame
  rw [<-J.o]at s
  go_wp2_with (first
   |((with_reducible refine dH ⟨?_⟩);refine jC s aA dh dG aF aC ?_)
   |((with_reducible refine eG ⟨?_⟩);refine jI aQ aA aF pQ fJ dG aC aA ?_;intro wS hS))
  go_end0
  exact ⟨_,rfl,nS.fA (sv:= .slice (some ⟨bk1,0,none⟩) t1.bG.length U) L.o M.o (by have:=Hb1.o;simp only;omega) (hS.sb)⟩
end
abbrev lJ.Xv:=@func240
abbrev lJ.Xw:=@ntmps240
open lJ in
theorem alm (x y:aY.gy (Int)) (hx:x.key.length=32) (hy:y.key.length=32) (W:World) :
  Calls prog 240 #[.agg (bY kN x).toArray,.agg (bY kN y).toArray] W λe w'=>e=.returned (.int .i64 (Lib.compareBytes x.key y.key))/\∃ q os',w'=Sort.grow (W.drewN q) os':=UA
open Go.Sort
abbrev Zd:Type:={ x:aY.gy (Int) // x.key.length=32 }
instance:Inhabited Zd:=⟨⟨⟨0,ay.gu,0⟩,rfl⟩⟩
abbrev lJ.Qk:=@Tryz.sortI
abbrev lJ.II:Nat:=240
abbrev lJ.wV:=@Zd
abbrev lJ.Xy:=@Tryz.isAgg317
abbrev lJ.Xz:=@Tryz.sizeOf317
abbrev lJ.XA:=@alm
abbrev lJ.Ql:Nat:=239
open lJ in
theorem atI (l:List (aY.gy (Int))) (hk:∀ x∈l,x.key.length=32) (hn:l.length<=1073741824) (h:au w0 w (aK 317 34 v (l.flatMap (bY kN))::F)) :
  Calls prog 239 #[v,.func (.func 240) #[] #[]] w (bf λ_ w'=>∃ l':List (aY.gy (Int)),(l'.Perm l/\l'.Pairwise λa b=>¬ b.key<a.key)/\au w0 w' (aK 317 34 v (l'.flatMap (bY kN))::F)):=Ut
open Go.aG
section
variable {m:ay.Bs->Option (Int)}{t:aY.Tb (Int)}
abbrev lJ.XB:=@nS.open
abbrev lJ.XC:=@func201
abbrev lJ.XD:=@ntmps201
abbrev lJ.XE:=@aei
abbrev lJ.XF:=@atI
open lJ in
theorem arz (hB:B<=13000000) (h:au w0 w (nS p m B::F)) :
  Calls prog 201 #[aW p] w (bf λv w'=>∃ l:List (aY.gy (Int)),(aY.kE m (l.map λx=>(x.key,x.val))/\(∀ x∈l,x.st=1/\x.key.length=32)/\l.length<=B)/\au w0 w' (aK 317 34 v (l.flatMap (bY kN))::nS p m B::F)):=Uu
end
section
variable {m:ay.Bs->Option Int}
abbrev fH.ah0:=@arz
abbrev fH.ah1:=@func156
abbrev fH.ah2:=@ntmps156
abbrev fH.DU:=@kN
abbrev fH.DV:Nat:=34
abbrev fH.KQ:Nat:=1
abbrev fH.ah3:=@NU
abbrev fH.IK:Nat:=317
abbrev fH.XI:=@nS
abbrev fH.ah4:=@underlying317
abbrev fH.ah5:=@Yc
abbrev fH.ah6:=@acH
open fH in
theorem aor (hB:B<=13000000) (h:au w0 w (nS p m B::F)) :
  Calls prog 156 #[aW p] w (bf λv w'=>∃ kv:List (ay.Bs×Int),(aY.kE m kv/\(∀ q∈kv,q.1.length=32)/\kv.length<=B)/\au w0 w' (aK 34 32 v (kv.flatMap λq=>aI q.1)::nS p m B::F)):=ady
end
theorem anL {D:List (Nat×List ay.aT)}{N:Int}{us:List aJ.gX}{pl:List (ay.Bs×aB.bT)}{x:List (ay.Bs×aJ.iH)} (h:aB.uF D N us pl) (hx:aY.kE (aJ.lC (aB.ig D)) x):aY.jE pl=aY.jE (aJ.jH x)/\us=(aB.oP D).map (aJ.pI x):=by
 obtain ⟨kv,k1,_,k3,k4⟩:=h.kv;obtain rfl:kv=x:=aY.kE.FD k1 hx;exact ⟨by rw [k4],k3⟩
theorem ajQ {K r E B n:Nat}{L:aB.aS}{M:aG}{D:List (Nat×List ay.aT)}{N:Int}{us:List aJ.gX}{pl:List (ay.Bs×aB.bT)} (h:aB.oJ K r E B n L M D) (s:aB.uF D N us pl):us.length<=n:=by
 obtain ⟨kv,k1,_,k3,k4⟩:=s.kv;rw [k3,abl];unfold aB.oP;rw [abl];exact h.hd.count
theorem aps (a:aB.bT) (w:World):(binOp .neq 115 (.agg (dQ a).toArray) (.agg (dQ a).toArray)).run prog w=.ok (.bool false) w:=by
 obtain ⟨b,c,d⟩:=a;have f:prog.underlying 115=some (.struct (prog.fieldsOf 115)):=aC;have g:prog.stoodInHeld 115=false:=aC;rw [run_neq_struct];have e:(Op.equalIn 10000 115 (.agg #[.int .i64 b,.int .i64 c,.int .i64 d]) (.agg #[.int .i64 b,.int .i64 c,.int .i64 d])).run prog w=.ok true w:=by
  rw [show (10000:Nat)=9999+1 from rfl,run_equalIn_agg w 9999 115 _ _ f g];simp only [Program.fieldsOf,underlying115];go_simp
  try simp
 rw [show (dQ ⟨b,c,d⟩).toArray=#[.int .i64 b,.int .i64 c,.int .i64 d] from rfl,e]
 rfl
section
variable {D:List (Nat×List ay.aT)}
theorem asv (hR:aB.oJ K r0 E B n L M D) (hn:n<=1000) (he:aB.vg D) (hH:Ro w0 F iO) (h:au w0 w (bC p m L::aV m M::F)) :
  Calls prog 102 #[aW p] w (bf λv w'=>Ru w0 p m n L M D F v w'):=adA
end
section
variable {pa pb ia ib B2:Nat}{N1 N2:Int}{ua ub ta tb:Value}
abbrev xW (pa pb ia ib B1 B2:Nat) (N1 N2:Int) (ua ub ta tb:Value) (mi:ay.Bs->Option aB.bT) (us:List aJ.gX) (F:List aO):List aO:=
 fB pa N1 ia ua ta::bF ia mi B1::aK 205 3 ua (us.flatMap dO)::fB pb N2 ib ub tb::bF ib mi B2::aK 205 3 ub (us.flatMap dO)::F
theorem alM (h1:B1<=1000000) (h2:B2<=1000000) (xF:us.length<=65536) (h:au w0 w (xW pa pb ia ib B1 B2 N1 N2 ua ub ta tb mi us F)) :
  Calls prog 103 #[aW pa,aW pb] w (bf λv w'=>v=.slice none 0 0/\au w0 w' (xW pa pb ia ib B1 B2 N1 N2 ua ub ta tb mi us F)):=by
 have H1:=uQ h1;have H2:=uQ h2;have Ba:=uQ xF;clear h1 h2 xF;go_enter func103,ntmps103;go_wp2_with fail;refine (apv h).mono ?_;rintro e w1 ⟨v,rfl,kp,rfl,h1⟩;clear h;have hA:au w0 (w1.alloc (.cells #[aW pa,aW pb] 103)) (pt w1.heap.size (.cells #[aW pa,aW pb] 103 (0,0))::nS kp (λ_=>none) 0::xW pa pb ia ib B1 B2 N1 N2 ua ub ta tb mi us F):=h1.alloc _;go_wp2_with fail;clear h1;generalize w1.alloc (.cells #[aW pa,aW pb] 103)=w2 at *
 generalize w1.heap.size=q at *
 go_loopg [24] 2 (λg jq wr=>∃ (j Bk:Nat) (mk:ay.Bs->Option Int),g=2-j/\j<=2/\jq=.int .i64 j/\Bk<=j*1000000/\au w0 wr (pt q (.cells #[aW pa,aW pb] 103 (0,0))::nS kp mk Bk::xW pa pb ia ib B1 B2 N1 N2 ua ub ta tb mi us F))
 case atStart=>exact ⟨0,0,_,rfl,by decide,rfl,acn _,hA⟩
 case round=>
  obtain ⟨j,Bk,mk,rfl,hj,rfl,NG,hS⟩:=hrel;clear hA;by_cases hj2:j<2
  focus
   have c1:(j:Int)<2:=oQ;have EL:IntKind.i64.wrap ((j:Int)+1)=(j:Int)+1:=abR _ oQ;have Hj:=uQ (And.intro hj2 NG);obtain ⟨ps,ii,Bi,G,ajd,I8,Yo,f0,f1⟩:∃ (ps ii Bi:Nat) (G:List aO),Hid (∀ (w':World) (A B:aO),au w0 w' (A::B::xW pa pb ia ib B1 B2 N1 N2 ua ub ta tb mi us F)->au w0 w' (bF ii mi Bi::A::B::G))/\Hid (∀ (w':World) (A B:aO),au w0 w' (bF ii mi Bi::A::B::G)->au w0 w' (A::B::xW pa pb ia ib B1 B2 N1 N2 ua ub ta tb mi us F))/\Hid (Bi<=1000000)/\wr.cell? ⟨q,j,none⟩=some (.pointer (some ⟨ps,0,none⟩))/\wr.cell? ⟨ps,1,none⟩=some (.pointer (some ⟨ii,0,none⟩)):=by
    have h01:j=0\/j=1:=oQ;rcases h01 with rfl|rfl
    ·exact ⟨pa,ia,B1,fB pa N1 ia ua ta::aK 205 3 ua (us.flatMap dO)::fB pb N2 ib ub tb::bF ib mi B2::aK 205 3 ub (us.flatMap dO)::F,uQ (λw' A B h=>h.sb),uQ (λw' A B h=>h.sb),uQ H1.o,hS.bI bJ 0 rfl,hS.bI jS 1 rfl⟩
    ·exact ⟨pb,ib,B2,fB pa N1 ia ua ta::bF ia mi B1::aK 205 3 ua (us.flatMap dO)::fB pb N2 ib ub tb::aK 205 3 ub (us.flatMap dO)::F,uQ (λw' A B h=>h.sb),uQ (λw' A B h=>h.sb),uQ H2.o,hS.bI bJ 1 rfl,hS.bI (bW (bW mD)) 1 rfl⟩
   have hS1:=ajd.o _ _ _ hS;clear hj hj2 NG hS;go_wp2_with fail;refine (acW (abQ Yo.o aU) hS1).mono ?_;rintro e w3 ⟨v,rfl,kv,⟨TN,EI,Jw⟩,h3⟩;clear hS1 f0 f1;obtain ⟨ka,kc,rfl⟩:=l9 (λq hq=>by rw [bP];exact EI q hq) (au.rd h3) aU;have AV:=uQ (And.intro EI (show kv.length<=1000000 from abQ Jw Yo.o));clear TN EI Jw;have h4:au w0 w3 (aK 34 32 (.slice ka kv.length kc) (kv.flatMap λq=>aI q.1)::nS kp mk Bk::bF ii mi Bi::pt q (.cells #[aW pa,aW pb] 103 (0,0))::G):=h3.sb;clear h3;go_wp2_with fail
   go_loopg [34] kv.length (λg iq wr=>∃ (i Bl:Nat) (ml:ay.Bs->Option Int),g=kv.length-i/\i<=kv.length/\iq=.int .i64 i/\Bl<=Bk+i/\au w0 wr (aK 34 32 (.slice ka kv.length kc) (kv.flatMap λq=>aI q.1)::nS kp ml Bl::bF ii mi Bi::pt q (.cells #[aW pa,aW pb] 103 (0,0))::G))
   case atStart=>exact ⟨0,Bk,mk,rfl,acn _,rfl,abG _,h4⟩
   case round=>
    obtain ⟨i,Bl,ml,rfl,hi,rfl,hBl,hS⟩:=hrel;clear h4;by_cases hlt:i<kv.length;rotate_left
    ·have d1:¬ (i:Int)<(kv.length:Int):=oQ;have HBl:=uQ (show Bl<=(j+1)*1000000 by have:=AV.o.2;have:=Hj.o.2;have h1:(j+1)*1000000=j*1000000+1000000:=Nat.succ_mul ..;omega);have hS2:au w0 wr (bF ii mi Bi::pt q (.cells #[aW pa,aW pb] 103 (0,0))::nS kp ml Bl::G):=hS.sb;have hS3:=I8.o _ _ _ hS2;clear hlt hi hBl hS hS2;go_wp2_with fail
     go_roundg (2-(j+1))
     case measure=>have:=Hj.o.1;omega
     case rel=>exact ⟨j+1,Bl,ml,rfl,Hj.o.1,by first|rfl|go_num,HBl.o,hS3⟩
    have d1:(i:Int)<(kv.length:Int):=oQ;have hwi:IntKind.i64.wrap ((i:Int)+1)=(i:Int)+1:=abR _ (by have:=AV.o.2;omega);obtain ⟨⟨k,pl⟩,hq⟩:∃ x,kv[i]?=some x:=⟨_,aaf hlt⟩;have oV:=uQ (show k.length=32 from AV.o.1 _ (abH hq));obtain ⟨bk,off,c',hsv,hcell⟩:=lV (λq hq=>by rw [bP];exact AV.o.1 q hq) (au.rd hS) hq aU;cases hsv;have dP:=uQ (And.intro hlt hBl);clear hq hlt hi hBl
    go_wp2_with (first
     |((with_reducible refine dH ⟨?_⟩);refine kQ (aI k) aA hcell underlying34 rfl zH0 ?_)
     |(with_reducible apply jd))
    refine ⟨iR Qx hS rfl ?_⟩;intro b10 w5 h5;go_wp2_with (with_reducible apply eG);refine ⟨jK (aI k).toArray h5 aA aA (by rw [abC,bP,oV.o];rfl) eu yU0 zF0 ?_⟩;intro w6 h6;clear hS h5 hcell;go_wp2_with ((with_reducible refine dH ⟨?_⟩);refine kG h6 aA bJ underlying34 rfl yU0 ?_);refine (aqH (by have:=dP.o;have:=Hj.o;have:=AV.o.2;omega) oV.o 1 (h6.sb:au w0 w6 (nS kp ml Bl::aK 34 32 (.slice (some ⟨bk,off,none⟩) kv.length kc) (kv.flatMap λq=>aI q.1)::bF ii mi Bi::pt q (.cells #[aW pa,aW pb] 103 (0,0))::G))).mono ?_;rintro e w7 ⟨v,rfl,h7⟩;clear h6;go_wp2_with fail
    go_roundg (kv.length-(i+1))
    case measure=>have:=dP.o.1;omega
    case rel=>exact ⟨i+1,Bl+1,_,rfl,dP.o.1,by first|rfl|go_num,by have:=dP.o.2;omega,h7.sb⟩
  obtain rfl:j=2:=oQ;have Yf:=uQ NG;clear hj hj2 NG;go_wp2_with fail;refine (aor (by have:=Yf.o;omega) (hS.sb:au w0 wr (nS kp mk Bk::pt q (.cells #[aW pa,aW pb] 103 (0,0))::xW pa pb ia ib B1 B2 N1 N2 ua ub ta tb mi us F))).mono ?_;rintro e w3 ⟨v,rfl,kv,⟨TN,EI,Jw⟩,h3⟩;clear hS;obtain ⟨ka,kc,rfl⟩:=l9 (λq hq=>by rw [bP];exact EI q hq) (au.rd h3) aU;have AV:=uQ (And.intro EI (show kv.length<=2000000 from abQ Jw Yf.o));clear TN EI Jw;go_wp2_with fail
  go_loopg [5,46] kv.length (λg ov iq wr=>∃ (i:Nat),g=kv.length-i/\i<=kv.length/\ov=.slice none 0 0/\iq=.int .i64 i/\au w0 wr (aK 34 32 (.slice ka kv.length kc) (kv.flatMap λq=>aI q.1)::nS kp mk Bk::pt q (.cells #[aW pa,aW pb] 103 (0,0))::xW pa pb ia ib B1 B2 N1 N2 ua ub ta tb mi us F))
  case atStart=>exact ⟨0,rfl,acn _,rfl,rfl,h3⟩
  case round=>
   obtain ⟨i,rfl,hi,rfl,rfl,hS⟩:=hrel;clear h3;by_cases hlt:i<kv.length
   focus
    have d1:(i:Int)<(kv.length:Int):=oQ;have hwi:IntKind.i64.wrap ((i:Int)+1)=(i:Int)+1:=abR _ (by have:=AV.o.2;omega);obtain ⟨⟨k,pz⟩,hq⟩:∃ x,kv[i]?=some x:=⟨_,aaf hlt⟩;have oV:=uQ (show k.length=32 from AV.o.1 _ (abH hq));obtain ⟨bk,off,c',hsv,hcell⟩:=lV (λq hq=>by rw [bP];exact AV.o.1 q hq) (au.rd hS) hq aU;cases hsv;have dP:=uQ hlt;have HC:=uQ (λ(w':World) (hw:au w0 w' (fB pa N1 ia ua ta::fB pb N2 ib ub tb::bF ia mi B1::aK 205 3 ua (us.flatMap dO)::bF ib mi B2::aK 205 3 ub (us.flatMap dO)::F))=>show w'.cell? ⟨pa,1,none⟩=some (aW ia)/\w'.cell? ⟨pb,1,none⟩=some (aW ib) from ⟨hw.bI bJ 1 rfl,hw.bI bZ 1 rfl⟩);obtain ⟨pl,hpl⟩:∃ pl,(mi k).getD aB.bT.zero=pl:=⟨_,rfl⟩;obtain ⟨isk,abV⟩:∃ ok,(mi k).isSome=ok:=⟨_,rfl⟩;have Hpl:=uQ hpl;have YC:=uQ abV;clear hq hlt hi hpl abV
    go_wp2_with (first
     |((with_reducible refine dH ⟨?_⟩);refine kQ (aI k) aA hcell underlying34 rfl zH0 ?_)
     |(with_reducible apply jd))
    refine ⟨iR Qx hS rfl ?_⟩;intro b12 w5 h5;go_wp2_with (with_reducible apply eG);refine ⟨jK (aI k).toArray h5 aA aA (by rw [abC,bP,oV.o];rfl) eu yU0 zF0 ?_⟩;intro w6 h6;clear hS h5 hcell
    repeat (first|go_skip|(with_reducible apply RJ 15)|go_values|go_guarded|go_step|go_upon)
    refine ⟨?_⟩;have zu:=h6.drew;clear h6;have hG:World.cell? _ ⟨pa,1,none⟩=some (aW ia)/\World.rangeAt _ b12 0 (aI k):=⟨(HC.o _ (zu.sb)).1,wO (zu.pk)⟩;refine gK [5,6,7,8,10,11] (λw'=>w'.cell? ⟨pa,1,none⟩=some (aW ia)/\w'.rangeAt b12 0 (aI k)) aC ?_;refine rP 0 ?_ (y:=bV);refine rP 1 ?_ (y:=jF);refine rP 2 ?_ (y:=eY);refine rt 3 (h:=?_);refine ji 4 aF aC dF (lF (aI k) aA underlying34 rfl zH0 (λw hw=>hw.2)) aQ gQ ?_;clear hG;refine BN 5 9 aF aF aC (λK hK=>?_) (λK hK=>?_)
    focus
     (refine kM aC aF aF ?_)
     refine (GH (abQ H1.o aU) oV.o (zu.sb:au w0 _ (bF ia mi B1::pt b12 (.cells (aI k).toArray 34 (0,0))::aK 34 32 (.slice (some ⟨bk,off,none⟩) kv.length kc) (kv.flatMap λq=>aI q.1)::nS kp mk Bk::pt q (.cells #[aW pa,aW pb] 103 (0,0))::fB pa N1 ia ua ta::aK 205 3 ua (us.flatMap dO)::fB pb N2 ib ub tb::bF ib mi B2::aK 205 3 ub (us.flatMap dO)::F))).mono ?_;rintro ee X3 ⟨v,rfl,rfl,hx1⟩;refine hK _ _ (.inl rfl) ?_;clear hK zu;refine rP 6 ?_ (y:=bV);refine rP 7 ?_ (y:=(lX aF dX));refine rP 8 ?_ (y:=(lX aF dX));refine dZ 9 aF aC (λK hK=>?_);refine vJ (uz) hx1 rfl ?_;intro b13 X4 hx2;refine hK _ _ (.inr (.inl ⟨(HC.o _ (hx2.sb)).1,wO (hx2.pk)⟩)) ?_;clear hK hx1
    rotate_left
    focus
     refine vJ (uz) zu rfl ?_;intro b13 X3 hx1;refine hK _ _ (.inr (.inl ⟨(HC.o _ (hx1.sb)).1,wO (hx1.pk)⟩)) ?_;clear hK zu;refine dZ 5 aF aC (λK hK=>?_)
     (refine kM aC aF aF ?_)
     refine (GH (abQ H1.o aU) oV.o (hx1.sb:au w0 _ (bF ia mi B1::pt b13 (.cells (dQ aB.bT.zero).toArray 115 (0,0))::pt b12 (.cells (aI k).toArray 34 (0,0))::aK 34 32 (.slice (some ⟨bk,off,none⟩) kv.length kc) (kv.flatMap λq=>aI q.1)::nS kp mk Bk::pt q (.cells #[aW pa,aW pb] 103 (0,0))::fB pa N1 ia ua ta::aK 205 3 ua (us.flatMap dO)::fB pb N2 ib ub tb::bF ib mi B2::aK 205 3 ub (us.flatMap dO)::F))).mono ?_;rintro ee X4 ⟨v,rfl,rfl,hx2⟩;refine hK _ _ (.inl rfl) ?_;clear hK hx1;refine rP 6 ?_ (y:=bV);refine rP 7 ?_ (y:=(lX aF dX));refine rP 8 ?_ (y:=(lX aF dX))
    all_goals
     rw [Hpl.o,YC.o];refine dZ 10 aF aC (λK hK=>?_);refine qE (hx2.sb:au w0 _ (pt b13 (.cells (dQ aB.bT.zero).toArray 115 (0,0))::pt b12 (.cells (aI k).toArray 34 (0,0))::aK 34 32 (.slice (some ⟨bk,off,none⟩) kv.length kc) (kv.flatMap λq=>aI q.1)::nS kp mk Bk::pt q (.cells #[aW pa,aW pb] 103 (0,0))::xW pa pb ia ib B1 B2 N1 N2 ua ub ta tb mi us F)) aF aF aA eu dG aC aA ?_;intro Az h20;refine hK _ _ (.inl rfl) ?_;clear hK hx2;refine rP 11 ?_ (y:=kR);refine fK aC ?_
     repeat (first|go_skip|(with_reducible apply RJ 16)|go_values|go_guarded|go_step|go_upon)
     refine ⟨?_⟩;have GI:=h20.drew;clear h20;have hG:World.cell? _ ⟨pb,1,none⟩=some (aW ib)/\World.rangeAt _ b12 0 (aI k):=⟨(HC.o _ (GI.sb)).2,wO (GI.pk)⟩;refine gK [5,6,7,8,10,11] (λw'=>w'.cell? ⟨pb,1,none⟩=some (aW ib)/\w'.rangeAt b12 0 (aI k)) aC ?_;refine rP 0 ?_ (y:=bV);refine rP 1 ?_ (y:=jF);refine rP 2 ?_ (y:=eY);refine rt 3 (h:=?_);refine ji 4 aF aC dF (lF (aI k) aA underlying34 rfl zH0 (λw hw=>hw.2)) aQ gQ ?_;clear hG;refine BN 5 9 aF aF aC (λK hK=>?_) (λK hK=>?_)
     focus
      (refine kM aC aF aF ?_)
      refine (GH (abQ H2.o aU) oV.o (GI.sb:au w0 _ (bF ib mi B2::pt b13 (.cells (dQ pl).toArray 115 (0,0))::pt b12 (.cells (aI k).toArray 34 (0,0))::aK 34 32 (.slice (some ⟨bk,off,none⟩) kv.length kc) (kv.flatMap λq=>aI q.1)::nS kp mk Bk::pt q (.cells #[aW pa,aW pb] 103 (0,0))::fB pa N1 ia ua ta::bF ia mi B1::aK 205 3 ua (us.flatMap dO)::fB pb N2 ib ub tb::aK 205 3 ub (us.flatMap dO)::F))).mono ?_;rintro ee X3 ⟨v,rfl,rfl,hx1⟩;refine hK _ _ (.inl rfl) ?_;clear hK GI;refine rP 6 ?_ (y:=bV);refine rP 7 ?_ (y:=(lX aF dX));refine rP 8 ?_ (y:=(lX aF dX));refine dZ 9 aF aC (λK hK=>?_);refine vJ (uz) hx1 rfl ?_;intro b15 X4 hx2;refine hK _ _ (.inr (.inl ⟨(HC.o _ (hx2.sb)).2,wO (hx2.pk)⟩)) ?_;clear hK hx1
     rotate_left
     focus
      refine vJ (uz) GI rfl ?_;intro b15 X3 hx1;refine hK _ _ (.inr (.inl ⟨(HC.o _ (hx1.sb)).2,wO (hx1.pk)⟩)) ?_;clear hK GI;refine dZ 5 aF aC (λK hK=>?_)
      (refine kM aC aF aF ?_)
      refine (GH (abQ H2.o aU) oV.o (hx1.sb:au w0 _ (bF ib mi B2::pt b15 (.cells (dQ aB.bT.zero).toArray 115 (0,0))::pt b13 (.cells (dQ pl).toArray 115 (0,0))::pt b12 (.cells (aI k).toArray 34 (0,0))::aK 34 32 (.slice (some ⟨bk,off,none⟩) kv.length kc) (kv.flatMap λq=>aI q.1)::nS kp mk Bk::pt q (.cells #[aW pa,aW pb] 103 (0,0))::fB pa N1 ia ua ta::bF ia mi B1::aK 205 3 ua (us.flatMap dO)::fB pb N2 ib ub tb::aK 205 3 ub (us.flatMap dO)::F))).mono ?_;rintro ee X4 ⟨v,rfl,rfl,hx2⟩;refine hK _ _ (.inl rfl) ?_;clear hK hx1;refine rP 6 ?_ (y:=bV);refine rP 7 ?_ (y:=(lX aF dX));refine rP 8 ?_ (y:=(lX aF dX))
     all_goals
      rw [Hpl.o,YC.o];refine dZ 10 aF aC (λK hK=>?_);refine qE (cs':=(dQ pl).toArray) (hx2.sb:au w0 _ (pt b15 (.cells (dQ aB.bT.zero).toArray 115 (0,0))::pt b13 (.cells (dQ pl).toArray 115 (0,0))::pt b12 (.cells (aI k).toArray 34 (0,0))::aK 34 32 (.slice (some ⟨bk,off,none⟩) kv.length kc) (kv.flatMap λq=>aI q.1)::nS kp mk Bk::pt q (.cells #[aW pa,aW pb] 103 (0,0))::xW pa pb ia ib B1 B2 N1 N2 ua ub ta tb mi us F)) aF aF aA eu dG aC aA ?_;intro Ce h30;refine hK _ _ (.inl rfl) ?_;clear hK hx2;refine rP 11 ?_ (y:=kR);refine fK aC ?_;have hne:=aps pl;have hbn:(isk != isk)=false:=bne_self_eq_false ..
      go_wp2_with (first
       |((with_reducible apply BU);refine ⟨?_⟩;refine BX zA0 ?_)
       |((with_reducible refine dH ⟨?_⟩);refine kG (cs:=(dQ pl).toArray) h30 aA bZ underlying115 rfl aC ?_)
       |((with_reducible refine dH ⟨?_⟩);refine kG (cs:=(dQ pl).toArray) h30 aA bJ underlying115 rfl aC ?_))
      go_roundg (kv.length-(i+1))
      case measure=>have:=dP.o;omega
      case rel=>exact ⟨i+1,rfl,dP.o,rfl,by first|rfl|go_num,h30.sb⟩
   have d1:¬ (i:Int)<(kv.length:Int):=oQ;have hS2:au w0 wr (xW pa pb ia ib B1 B2 N1 N2 ua ub ta tb mi us F):=hS.sb;clear hlt hi hS;obtain ⟨uaa,Xh,rfl⟩:=l9 (f:=dO) (k:=3) (l:=us) (λu _=>yD u) (au.rd (hS2.pick jS)) aU;obtain ⟨uba,KN,rfl⟩:=l9 (f:=dO) (k:=3) (l:=us) (λu _=>yD u) (au.rd (hS2.pick (bW (bW mD)))) aU;have e2:wr.cell? ⟨pa,2,none⟩=some (.slice uaa us.length Xh):=hS2.bI bJ 2 rfl;go_wp2_with fail;clear e2
   go_loopg [5,87] us.length (λg ov iq wr=>∃ (i:Nat),g=us.length-i/\i<=us.length/\ov=.slice none 0 0/\iq=.int .i64 i/\au w0 wr (xW pa pb ia ib B1 B2 N1 N2 (.slice uaa us.length Xh) (.slice uba us.length KN) ta tb mi us F))
   case atStart=>exact ⟨0,rfl,acn _,rfl,rfl,hS2⟩
   case round=>
    obtain ⟨i,rfl,hi,rfl,rfl,hS⟩:=hrel;clear hS2;by_cases hlt:i<us.length;rotate_left
    ·have d2:¬ (i:Int)<(us.length:Int):=oQ;clear hlt hi;go_wp2_with fail;go_ret;exact ⟨_,rfl,rfl,hS⟩
    have d2:(i:Int)<(us.length:Int):=oQ;have hwi:IntKind.i64.wrap ((i:Int)+1)=(i:Int)+1:=abR _ (by have:=Ba.o;omega);obtain ⟨u,hu⟩:∃ u,us[i]?=some u:=⟨_,aaf hlt⟩;obtain ⟨bk,off,c',hsv,hcell⟩:=lV (f:=dO) (k:=3) (λu _=>yD u) (au.rd (hS.pick jS)) hu aU;cases hsv;obtain ⟨bk2,off2,c2',hsv,hcell2⟩:=lV (f:=dO) (k:=3) (λu _=>yD u) (au.rd (hS.pick (bW (bW mD)))) hu aU;cases hsv
    have HG:=uQ (λ(w':World) (A:aO) (hw:au w0 w' (A::xW pa pb ia ib B1 B2 N1 N2 (.slice (some ⟨bk,off,none⟩) us.length Xh) (.slice (some ⟨bk2,off2,none⟩) us.length KN) ta tb mi us F))=>show w'.cell? ⟨pb,2,none⟩=some (.slice (some ⟨bk2,off2,none⟩) us.length KN)/\w'.cell? ⟨bk2,off2+i*3+2,none⟩=some (.int .i64 u.live) from ⟨hw.bI (bW mD) 2 rfl,by
     obtain ⟨_,_,_,e,hc⟩:=lV (f:=dO) (k:=3) (λu _=>yD u) (au.rd (hw.pick (bW (bW (bW mD))))) hu aU;cases e;exact hc 2 _ rfl⟩)
    have dP:=uQ hlt;clear hu hlt hi hcell2
    go_wp2_with (first
     |((with_reducible refine dH ⟨?_⟩);refine kQ (b:=bk) (o:=off+i*3) (dO u) aA hcell underlying205 rfl aC ?_)
     |(with_reducible apply jd))
    refine ⟨iR Le hS rfl ?_⟩;intro b18 w5 h5;go_wp2_with (with_reducible apply eG);refine ⟨jK (dO u).toArray h5 aA aA aA eu aC aA ?_⟩;intro w6 h6;clear hS h5 hcell
    repeat (first|go_skip|(with_reducible apply RJ 23)|go_values|go_guarded|go_step|go_upon)
    refine ⟨?_⟩;have zu:=h6.drew;clear h6;have hbl:(u.live != u.live)=false:=bne_self_eq_false ..;have hG:World.cell? _ ⟨pb,2,none⟩=some (.slice (some ⟨bk2,off2,none⟩) us.length KN)/\World.cell? _ ⟨bk2,off2+i*3+2,none⟩=some (.int .i64 u.live)/\World.cell? _ ⟨b18,2,none⟩=some (.int .i64 u.live):=⟨(HG.o _ _ zu).1,(HG.o _ _ zu).2,zu.bI bJ 2 rfl⟩;refine gK [18,19] (λw'=>w'.cell? ⟨pb,2,none⟩=some (.slice (some ⟨bk2,off2,none⟩) us.length KN)/\w'.cell? ⟨bk2,off2+i*3+2,none⟩=some (.int .i64 u.live)/\w'.cell? ⟨b18,2,none⟩=some (.int .i64 u.live)) aC ?_;refine rP 0 ?_ (y:=bV);refine rP 1 ?_ (y:=bV);refine rP 2 ?_ (y:=jF);refine rP 3 ?_ (y:=eY);refine rt 4 (h:=?_);refine rP 5 ?_ (y:=(vX aF dX));refine rP 6 ?_ (y:=nT);refine rP 7 ?_ (y:=bV);refine rP 8 ?_ (y:=(kH aA aF));refine rP 9 ?_ (y:=(La aA aF));refine rP 10 ?_ (y:=(rM aA aF dX))
    refine ji 11 aF aC dF (rG aA aF aC yB0) aQ gQ ?_;refine rP 12 ?_ (y:=(kH aA aF));refine rP 13 ?_ (y:=(vW aA aF aF dX));refine rP 14 ?_ (y:=(rM aA aF dX));refine ji 15 aF aC dF (rG aA aF aC yB0) aQ gQ ?_;refine rP 16 ?_ (y:=(rM aA aF dX));refine ji 17 aF aC dF (rG aA aF aC yB0) aQ gQ ?_;clear hG;refine rP 18 ?_ (y:=(vV aA aF aF dX));refine rP 19 ?_ (y:=(qh aA aF aF));refine fK aC ?_
    try simp only [kW]
    try go_frame
    go_wp2_with fail
    go_roundg (us.length-(i+1))
    case measure=>have:=dP.o;omega
    case rel=>exact ⟨i+1,rfl,dP.o,rfl,by first|rfl|go_num,zu.drop⟩
end
end Go.Proofs.Y
namespace Go.aB
open Go.ay (Bs aT fO)
open Go.aJ (gI)
theorem amC (R:List (Nat×Bs)) (d:Nat×Bs):og (R++[d])=og R++(if lH d.2=true then [aJ.zV (d.1:Int) (ay.eF d.2).2.1] else []):=by
 unfold og;rw [aof,acy];by_cases h:lH d.2=true
 ·rw [abL h];simp [h]
 ·rw [abB h];simp [h]
theorem amD (last:Int) (R:List (Nat×Bs)) (d:Nat×Bs):zo last (R++[d])=zo last R++(if last<(d.1:Int) then [⟨3,(d.1:Int),0⟩] else []):=by
 unfold zo;rw [aof,acy];by_cases h:last<d.1
 ·rw [abL h];simp [h]
 ·rw [abB h];simp [h]
theorem aa4 (R:List (Nat×Bs)):(og R).length<=R.length:=by unfold og;rw [abl];exact ak6 _ _
theorem aa5 (last:Int) (R:List (Nat×Bs)):(zo last R).length<=R.length:=by unfold zo;rw [abl];exact ak6 _ _
open Go.aG
theorem gU.fill {K r:Nat}{M:aG} (h:gU K r M) (s:ByteArray) (b:ay.Bs):gU (K+3) r (aH.fill M s b).1:=by
 unfold aH.fill;split
 ·split
  ·exact ((h.append _ _).dY _).kC _ _
  ·exact ((h.append _ _).dY _).mono oQ
 ·split
  ·split
   ·exact ((h.append _ _).dA _).mono oQ
   ·exact ((h.append _ _).dA _).mono oQ
  ·exact (h.append _ _).mono oQ
theorem gU.gG {K r:Nat}{M:aG} (h:gU K r M) (s:ByteArray) (b:ay.Bs):gU (K+5) r (aH.gG M s b).1:=by
 have hr:gU (K+1) r (aH.tJ M).1:=by
  unfold aH.tJ;split
  ·exact h.dA _
  ·exact h.mono oQ
 unfold aH.gG;split
 ·split
  ·exact (hr.dM _).fill _ _
  ·exact (hr.dM _).mono oQ
 ·exact hr.mono oQ
theorem gU.pX {K r:Nat}{M:aG} (h:gU K r M) (d:Nat×ay.Bs):gU (K+6) r (aB.pX M d).1:=by
 unfold aB.pX;split
 ·exact (h.dA _).mono oQ
 ·exact (h.gG _ _).mono oQ
theorem gU.tmp {K r:Nat}{M:aG} (h:gU K r M) (s:ByteArray):(M.size s).2=0\/(M.size s).2=9:=by
 cases hi:dN M.aN s with
 |none=>right;rw [aH.WU h.fE hi]
 |some i=>left;rw [aH.WV h.fE hi]
theorem gU.alive {K r:Nat}{M:aG} (h:gU K r M):aB.alive M=0:=by
 unfold aB.alive;rw [Go.Proofs.Y.KD h.ok h.fE.off]
 rfl
open Go.ay (Bs aT bU gV iJ)
open Go.aJ
def y9 (limit:Int) (M1:aG) (D:List (Nat×List aT)) (x:aT) (y:UInt8):Prop:=
 ∃ (K K1 E1 B1:Nat) (R:List (Nat×Bs)) (last:Int) (q:Bool) (M2:aG) (Dn:List (Nat×List aT)),Ee K K1 E1 B1 M1 R last limit q M2 Dn/\(K<=1000000/\K1<=1000000/\E1<=440/\B1<=200000)/\(y=0->l7 (iP Dn)=l7 (iP D)) /\
  ∀ z,x.dB=2\/x.key≠z->l7 (iP Dn) z=l7 (iP D) z
section
variable {K E B n:Nat}{L:aS}{M:aG}{D D1 D2:List (Nat×List aT)}{k:Nat}{es u v:List aT}{x:aT}{c:Bs}{N:Int}{us:List gX}
theorem ab8 (h:vF 1048576 E n B M D N us) (hn:n<=200) (hE:E<=130):N=eP D/\vg D/\∃ pl,uF D (eP D) us pl/\(D=[]->NF M)/\(D≠[]->HF M (eP D) pl us):=by
 obtain ⟨pl,hs,hx⟩:=h.ex;obtain ⟨a,b⟩:=hx rfl hn hE;obtain rfl:=hs.last;exact ⟨rfl,hs.pU,pl,hs,a,b⟩
theorem aop (h:jD K 1048576 E B n L M D) (l:vF 1048576 E n B M D N us) (hn:n<=45) (m:E<=130) (s:K<=30000) (t:B<=70000) (limit:Int) (o:128<=limit) (r:limit<=1048576) (x:aT) (y:UInt8):y9 limit M D x y:=by
 obtain ⟨_,b,c,d,e,f⟩:=ab8 l oQ m;have i:=h.hd.ku
 have j:tV K 200 B M D:=⟨⟨L,h.mono (abG _) oQ (abG _) oQ⟩,b,by
  by_cases a:D=[]
  ·exact .inl ⟨a,e a⟩
  ·exact .inr ⟨a,us,c,d,f a⟩,by omega⟩
 exact ⟨_,_,_,_,_,_,_,_,D,j.pre.g limit o r,⟨by omega,by omega,by omega,by omega⟩,λ_=>rfl,λz _=>rfl⟩
theorem aoo (h:jD K 1048576 E B n L M (D1++(k,es)::D2)) (t:vF 1048576 E n B M (D1++(k,es)::D2) N us) (hn:n<=45) (s:E<=130) (F:K<=30000) (w:B<=70000) (limit:Int) (A:128<=limit) (C:limit<=1048576){i:Nat} (hi:i<(dL++bU es).length) (y:UInt8)
  (r:lH (iE (dL++bU es) i y)=true) (D:jG (iE (dL++bU es) i y)=u++v) (o:es=u++x::v):y9 limit (M.gW (name k) i y).1 (D1++(k,es)::D2) x y:=by
 obtain ⟨_,l,m,a,_,b⟩:=ab8 t oQ s;obtain ⟨q,c,d,f,g⟩:=aqB h hn s w (b yD0) hi y r D o limit A C;refine ⟨_,_,_,_,_,_,q,c,d,f,⟨by omega,by omega,by omega,by omega⟩,λe=>?_,λz j=>(g z).trans (aoR o j)⟩;rw [e,KZ,(Ep (h.hd.dW (k,es) yD0).1).1]at r;cases r
theorem aoP (h:jD K 1048576 E B n L M (D1++(k,es)::D2)) (hn:n<=45):17<=(dL++bU es).length/\(dL++bU es).length<=20000/\es.length<=n:=by
 obtain ⟨a,d⟩:=h.hd.dW (k,es) yD0;have e:9*es.length<=(bU es).length:=Nh a;have f:(bU es).length<=341*es.length:=SN λx b=>⟨a x b,h.uV oQ x (aob.2 ⟨(k,es),by simp,b⟩)⟩;have c:=h.rE;rw [S9]at c;simp only [aay]at c ⊢;have g:0<es.length:=List.length_pos_iff.2 (d oQ);have i:dL.length=8:=rfl;omega
theorem apa (hk:k<D.length):∃ D1 d D2,D=D1++d::D2/\D[k]?=some d:=
 ⟨D.take k,D[k],D.drop (k+1),by rw [List.getElem_cons_drop hk,aja],aaf hk⟩
end
end Go.aB
namespace Go
open Go
theorem aeO(k:C)(h:RowKit.Hid C->A:=by
 intro fM;refine gK [9,10] (λw'=>w'.cell? ⟨gl,i,none⟩=some (.int .i64 L0)/\w'.cell? ⟨qc,2,none⟩=some (.slice ba cb.length bc)) aC ?_;have hG:_/\_:=⟨cl,cb2⟩;refine jh (i:=0) (v:=?_) rfl aC iQ (Or.inl ⟨by rfl,?_⟩) ?_;rotate_left;focus ((intro wq;go_simp);first|done|exact wQ)
 refine jh (i:=1) (v:=?_) rfl aC iQ (Or.inl ⟨by rfl,?_⟩) ?_;rotate_left;focus ((intro wq;go_simp);first|done|exact wQ)
 refine jh (i:=2) (v:=?_) rfl aC iQ (Or.inl ⟨by rfl,?_⟩) ?_;rotate_left;focus ((intro wq;go_simp);first|done|exact wQ)
 refine jh (i:=3) (v:=?_) rfl aC iQ (Or.inl ⟨by rfl,?_⟩) ?_;rotate_left;focus ((intro wq;go_simp);first|done|exact wQ)
 refine jh (i:=4) (v:=?_) rfl aC iQ (Or.inl ⟨by rfl,?_⟩) ?_;rotate_left;focus ((intro wq;go_simp);first|done|exact wQ)
 refine uY (i:=5) (v:=?_) rfl aC iQ (Or.inl ⟨by rfl,?_⟩) aQ ?_;rotate_left;focus ((intro wq hq;go_split_ands;go_simp);first|done|exact wQ)
 refine jh (i:=6) (v:=?_) rfl aC iQ (Or.inl ⟨by rfl,?_⟩) ?_;rotate_left;focus ((intro wq;go_simp);first|done|exact wQ)
 refine uY (i:=7) (v:=?_) rfl aC iQ (Or.inl ⟨by rfl,?_⟩) aQ ?_;rotate_left;focus ((intro wq hq;go_split_ands;go_simp);first|done|exact wQ)
 refine jh (i:=8) (v:=?_) rfl aC iQ (Or.inl ⟨by rfl,?_⟩) ?_;rotate_left;focus ((intro wq;go_simp);first|done|exact wQ)
 refine jh (i:=9) (v:=?_) rfl aC iQ (Or.inl ⟨by rfl,?_⟩) ?_;rotate_left;focus ((intro wq;go_simp);first|done|exact wQ)
 refine jh (i:=10) (v:=?_) rfl aC iQ (Or.inl ⟨by rfl,?_⟩) ?_;rotate_left;focus ((intro wq;go_simp);first|done|exact wQ)
 refine fK aC ?_;revert hG;exact fM.o):A:=h (uQ k)
theorem aeH(k:C)(h:RowKit.Hid C->A:=by
 intro fM;have hL1:=ajh.o;have h63:LL.length+1<=maxLen:=by rw [hL1];unfold maxLen;omega
 have hby:(LL.length+1)*ii.bytes<=140737488355328:=by rw [hL1,hz2];omega
 clear hL1;go_wp2_with (at_builtin;go_must (refine AA (w0:=w0) aA _ _ _ aA _ ii _ underlying46 hii hz0 hz1 aA oQ aA aA (by intro u hu;simp at hu;subst hu;rfl) (hB.gZ 3 [2] rfl rfl) (Dx _ _ _ 1 1 1 aA) h63 hby ?_);intro v2 w5 hS5 hne);revert h63 hby v2 w5 hS5 hne;exact fM.o):A:=h (uQ k)
theorem J7(h:A:=by
 cases he;rw [bP,aiR]at hl;exact hl.symm):A:=h
theorem ae2(h:A:=by
 clear hpast;go_wp2_with fail
 go_roundg j
 case measure=>omega
 case rel=>
  refine ⟨j,rfl,by omega,rfl,hpn,?_⟩;rw [hG];have:=uK.gZ 8 [6,7,1,2,3,4,5] rfl rfl;exact (au.fP.2 this).gZ 6 [1,2,3,4,5,0] rfl rfl):A:=h
theorem afj(h:A:=by
 go_wp2_with fail
 go_roundg (ds.length-(i+1))
 case measure=>have:=dP.o;omega
 case rel=>exact ⟨i+1,o2,oc,d2,rfl,aiW dP.o,by first|rfl|go_num,h5⟩):A:=h
theorem afo(h:A:=by
 go_wp2_with fail;refine hsd.mono ?_;rintro e w5 ⟨v,rfl,rfl,h6⟩;go_wp2_with fail;go_ret;exact ⟨_,rfl,by rw [QA.o];rfl,by rw [QA.o];exact h6.sb⟩):A:=h
theorem afX(h:A:=by
 clear he;go_wp2_with fail;go_ret;exact ⟨_,rfl,by rw [zM.o];rfl,by rw [zM.o];exact h6.sb⟩):A:=h
end Go
namespace Go.Proofs.Y
open Go.aG
def sO (f:aJ.gI):List Value:=(iF f).toList
theorem Jl (f:aJ.gI):(sO f).length=36:=rfl
def Lm (w0:World) (fl:List aJ.gI) (F:List aO) (v:Value) (w:World):Prop:=
 ∃ fv:Value,v=.tuple #[fv,dS 0]/\(∃ a c,fv=.slice a fl.length c)/\au w0 w (aK 36 36 fv (fl.flatMap sO)::F)
section
variable {R:List (Nat×ay.Bs)}
def Ll (M:aG) (L:aB.aS) (R:List (Nat×ay.Bs)):Prop:=aH.there M (aH.name aH.gY (aB.mZ (-1) R))=false\/aH.there M (aH.name aH.kJ (aB.mZ (-1) R))=false \/
 ∃ (K' E' B':Nat) (us:List aJ.gX) (pl:List (ay.Bs×aB.bT)) (D:List (Nat×List ay.aT)),aB.oJ K' 1048576 E' B' 999 L M D/\D≠[]/\aB.uF D (aB.eP D) us pl/\aB.HF M (aB.eP D) pl us/\aB.mZ (-1) R=aB.eP D
theorem aaU (hL:L.Ok) (hM:M.Ok K) (hnm:∀ f∈M.list,f.size<=4000000000) (hlen:∀ d∈R,d.2.length<=16777216) (hn:R.length<=10000) (hlim:∀ d∈R,d.1<1048576) (hR:ys.map (·.1)=R) (hz9:M.size ByteArray.empty=(0,9))
  (hld:aB.qR (aH.iC M) R=[]->0<=aB.mZ (-1) R->Ll M L R) (hH:Ro w0 F iO) (hok:∀ y∈ys,xk y) (hz:∀ y∈ys,zC y∈zs)
  (h:au w0 w (aK 189 4 (.slice la ys.length lc) (ys.flatMap iy)::jm zs::aV m M::bC p m L::F)) :
  Calls prog 42 #[aW m,aW p,.slice la ys.length lc] w (bf λv w'=>Lm w0 (aB.qR (aH.iC M) R) (aK 189 4 (.slice la ys.length lc) (ys.flatMap iy)::jm zs::aV m M::bC p m L::F) v w'):=by
 have HL:=uQ hL;have HM:=uQ hM;have F6:=uQ hnm;have Hlen:=uQ hlen;have Hn:=uQ hn;have HR:=uQ hR;have ag:=uQ hz9;have ah:=uQ hld;have HH:=uQ hH;have fV:=uQ hok;have Hz:=uQ hz;have aji:=uQ hlim;have I9:=uQ (show ys.length<=10000 by have:=aiX List.length hR;rw [abl]at this;omega);clear hL hM hnm hlen hn hR hz9 hld hH hok hz hlim;have h0:au w0 w (aK 189 4 (.slice la ys.length lc) (ys.flatMap iy)::jm zs::aK 36 36 (.slice none 0 0) (([]:List aJ.gI).flatMap sO)::aV m M::bC p m L::F):=(au.iW.2 h).sb;clear h;go_enter func42,ntmps42;go_wp2_with fail
 go_loopg [8,21] ys.length (λg ov iq wr=>∃ i:Nat,g=ys.length-i/\i<=ys.length/\iq=.int .i64 i/\(∃ a c,ov=.slice a (aB.og (R.take i)).length c)/\au w0 wr (aK 189 4 (.slice la ys.length lc) (ys.flatMap iy)::jm zs::aK 36 36 ov ((aB.og (R.take i)).flatMap sO)::aV m M::bC p m L::F))
 case atStart=>exact ⟨0,rfl,acn _,rfl,⟨none,0,rfl⟩,h0⟩
 case round=>
  obtain ⟨i,rfl,hi,rfl,⟨oa,oc,rfl⟩,r⟩:=hrel;clear h0;by_cases hlt:i<ys.length
  focus
   refine Px ?_;intro c1 hwi y hy;obtain ⟨bk,off,rfl,hcell⟩:=ET (au.rd r) hy;refine O4 ?_;intro hym jl;have u:=uQ hlt;refine Po ?_;intro hcl Hmy Iz IB hsv;have ai:=uQ (show (aB.og (R.take i)).length<=10000 by have h1:=aB.aa4 (R.take i);rw [abA]at h1;have:=Hn.o;omega);have A:=uQ (aB.amC (R.take i) y.1);rw [<-jl.o]at A;have Hb:=uQ (show aB.lH y.1.2=((ay.eF y.1.2).2.2 != 0) from rfl);clear hlt hi hy hym hcell
   go_wp2_with (first
    |((with_reducible refine dH ⟨?_⟩);refine kQ (b:=bk) (o:=off+i*4) (iy y) aA hcl underlying189 rfl aC ?_)
    |(with_reducible apply jd))
   refine ⟨iR FW r rfl ?_⟩;intro b5 w3 h3;go_wp2_with (with_reducible apply eG);refine J6 ?_;intro w4 h4;clear h3 r hcl;have e3:w4.cell? ⟨b5,3,none⟩=some (.int .i64 (ay.eF y.1.2).2.2):=h4.bI bJ 3 rfl;by_cases hz:(ay.eF y.1.2).2.2=0
   ·have aj:((ay.eF y.1.2).2.2 != 0)=false:=by rw [hz];rfl
    have z:=uQ (show aB.og (R.take (i+1))=aB.og (R.take i) by rw [A.o,Hb.o,aj];exact ahB _);clear hz;go_wp2_with fail
    go_roundg (ys.length-(i+1))
    case measure=>have:=u.o;omega
    case rel=>exact ⟨i+1,rfl,u.o,by first|rfl|go_num,⟨oa,oc,by rw [z.o]⟩,by rw [z.o];exact h4.drop⟩
   ·have aj:((ay.eF y.1.2).2.2 != 0)=true:=ajo.2 hz;have z:=uQ (show aB.og (R.take (i+1))=aB.og (R.take i)++[JO y.1.2 y.1.1] by rw [A.o,Hb.o,aj];rfl);clear hz;go_wp2_with ((with_reducible refine dH ⟨?_⟩);refine kG h4 aA bJ underlying189 rfl aC ?_);refine (aqh h4).mono ?_;rintro e w5 ⟨v,rfl,rfl,h5⟩;clear h4 e3;generalize JO y.1.2 y.1.1=ff at *
    have h6:au w0 w5 (aK 36 36 (.slice oa (aB.og (R.take i)).length oc) ((aB.og (R.take i)).flatMap sO)::aK 189 4 (.slice (some ⟨bk,off,none⟩) ys.length lc) (ys.flatMap iy)::jm zs::aV m M::bC p m L::F):=h5.sb;clear h5
    go_wp2_with (first
     |((with_reducible refine rV ⟨?_⟩);refine rJ (e:=36) (sz:=36) (je:=72) aC h6 aA (cs:=iF ff) rfl aA dG ?_;intro bN wN hN)
     |(with_reducible apply oK))
    refine ⟨sJ 36 36 72 aC hN aA aA bZ bJ aA dG aA (by rw [lK (k:=36) (λy _=>Jl y)];have:=ai.o;omega) dG dG (ys:=sO ff) rfl ?_⟩;intro b' n' c' N nJ;have O:n'=(aB.og (R.take i)).length+1:=by
     exact Vm
    subst O;have Hl2:=uQ (show (aB.og (R.take (i+1))).length=(aB.og (R.take i)).length+1 by rw [z.o,aay];rfl);have P:au w0 N (aK 36 36 (.slice (some ⟨b',0,none⟩) ((aB.og (R.take i)).length+1) c') ((aB.og (R.take (i+1))).flatMap sO)::aK 189 4 (.slice (some ⟨bk,off,none⟩) ys.length lc) (ys.flatMap iy)::jm zs::aV m M::bC p m L::F):=by
     rw [z.o,ai5,aiN,am6,ahB];exact nJ
    clear nJ;go_wp2_with fail
    go_roundg (ys.length-(i+1))
    case measure=>have:=u.o;omega
    case rel=>exact ⟨i+1,rfl,u.o,by first|rfl|go_num,⟨_,_,by rw [Hl2.o]⟩,P.sb⟩
  have c1:¬ (i:Int)<(ys.length:Int):=oQ;have Q:R.take i=R:=acE (by rw [<-HR.o,abl];omega);rw [Q]at r ⊢;clear hlt hi Q;go_wp2_with fail;have hcm:=als Hlen.o (abQ Hn.o aU) HR.o fV.o Hz.o r;clear r;refine hcm.mono ?_;rintro e Az ⟨v,rfl,rfl,hS3⟩;clear hcm;have HP:=uQ (show aB.qR (aH.iC M) R=aB.og R++aB.zo (aB.mZ (-1) R) R++aB.Nv (aB.mZ (-1) R) (aH.iC M) from rfl);have aiQ:=uQ (show aB.mZ (-1) R<1048576 from aB.Z8 aU λd hd=>by have:=aji.o d hd;omega);have Yy:=uQ (show (aB.og R).length<=10000 from abQ (aB.aa4 R) Hn.o);unfold Ll at ah;obtain ⟨last,B⟩:∃ x,x=aB.mZ (-1) R:=⟨_,rfl⟩;rw [<-B]at HP aiQ ah ⊢;have avI:=uQ B;clear B;have h0:au w0 Az (aK 189 4 (.slice la ys.length lc) (ys.flatMap iy)::jm zs::aK 36 36 (.slice oa (aB.og R).length oc) ((aB.og R).flatMap sO)::aV m M::bC p m L::F):=hS3;clear hS3;go_wp2_with fail
  go_loopg [8,38] ys.length (λg ov iq wr=>∃ i:Nat,g=ys.length-i/\i<=ys.length/\iq=.int .i64 i/\∃ l:List aJ.gI,l=aB.og R++aB.zo last (R.take i)/\(∃ a c,ov=.slice a l.length c)/\au w0 wr (aK 189 4 (.slice la ys.length lc) (ys.flatMap iy)::jm zs::aK 36 36 ov (l.flatMap sO)::aV m M::bC p m L::F))
  case atStart=>exact ⟨0,rfl,acn _,rfl,aB.og R,(ahB _).symm,⟨oa,oc,rfl⟩,h0⟩
  case round=>
   obtain ⟨i,rfl,hi,rfl,l,aa,⟨S,T,rfl⟩,r⟩:=hrel;have U:=uQ aa;clear aa;clear h0;by_cases hlt:i<ys.length
   focus
    refine Px ?_;intro c1 hwi y hy;obtain ⟨bk,off,rfl,hcell⟩:=ET (au.rd r) hy;refine O4 ?_;intro hym jl;have u:=uQ hlt;refine Po ?_;intro hcl Hmy Iz IB hsv;have ai:=uQ (show l.length<=20000 by rw [U.o,aay];have h1:=aB.aa5 last (R.take i);rw [abA]at h1;have:=Hn.o;have:=Yy.o;omega);have A:=uQ (aB.amD last (R.take i) y.1);rw [<-jl.o]at A;clear hlt hi hy hym hcell
    go_wp2_with (first
     |((with_reducible refine dH ⟨?_⟩);refine kQ (b:=bk) (o:=off+i*4) (iy y) aA hcl underlying189 rfl aC ?_)
     |(with_reducible apply jd))
    refine ⟨iR FW r rfl ?_⟩;intro b5 w3 h3;go_wp2_with (with_reducible apply eG);refine J6 ?_;intro w4 h4;clear h3 r hcl;have e0:w4.cell? ⟨b5,0,none⟩=some (.int .i64 y.1.1):=h4.bI bJ 0 rfl;by_cases hz:last<(y.1.1:Int);rotate_left
    ·have z:=uQ (show l=aB.og R++aB.zo last (R.take (i+1)) by rw [A.o,abB hz,ahB];exact U.o);go_wp2_with fail
     go_roundg (ys.length-(i+1))
     case measure=>have:=u.o;omega
     case rel=>exact ⟨i+1,rfl,u.o,by first|rfl|go_num,l,z.o,⟨S,T,rfl⟩,h4.drop⟩
    ·have z:=uQ (show l++[(⟨3,(y.1.1:Int),0⟩:aJ.gI)]=aB.og R++aB.zo last (R.take (i+1)) by rw [A.o,abL hz,<-ab6,<-U.o]);have h6:au w0 w4 (aK 36 36 (.slice S l.length T) (l.flatMap sO)::pt b5 (.cells (iy y).toArray 189 (0,0))::aK 189 4 (.slice (some ⟨bk,off,none⟩) ys.length lc) (ys.flatMap iy)::jm zs::aV m M::bC p m L::F):=h4.sb;clear h4
     go_wp2_with (first
      |((with_reducible refine Jb ⟨?_⟩);refine KT aA aA (λw=>PS 3 y.1.1 w) ?_)
      |((with_reducible refine rV ⟨?_⟩);refine rJ (e:=36) (sz:=36) (je:=72) aC h6 aA (cs:=iF ⟨3,(y.1.1:Int),0⟩) rfl aA dG ?_;intro bN wN hN)
      |(with_reducible apply oK))
     refine ⟨sJ 36 36 72 aC hN aA aA bZ bJ aA dG aA (by rw [lK (k:=36) (λy _=>Jl y)];have:=ai.o;omega) dG dG (ys:=sO ⟨3,(y.1.1:Int),0⟩) rfl ?_⟩;intro b' n' c' N nJ;have O:n'=(l).length+1:=by
      exact Vm
     subst O;have P:au w0 N (aK 36 36 (.slice (some ⟨b',0,none⟩) (l.length+1) c') ((l++[(⟨3,(y.1.1:Int),0⟩:aJ.gI)]).flatMap sO)::aK 189 4 (.slice (some ⟨bk,off,none⟩) ys.length lc) (ys.flatMap iy)::jm zs::aV m M::bC p m L::F):=by
      rw [ai5,aiN,am6,ahB];exact nJ.sb
     clear nJ;go_wp2_with fail
     go_roundg (ys.length-(i+1))
     case measure=>have:=u.o;omega
     case rel=>exact ⟨i+1,rfl,u.o,by first|rfl|go_num,_,z.o,⟨_,_,by rw [aay];rfl⟩,P.sb⟩
   have c1:¬ (i:Int)<(ys.length:Int):=oQ;have Q:R.take i=R:=acE (by rw [<-HR.o,abl];omega);have V:=uQ (show l=aB.og R++aB.zo last R by rw [U.o,Q]);clear hlt hi Q U;have Yg:=uQ (show au w0 wr (aV m M::aK 189 4 (.slice la ys.length lc) (ys.flatMap iy)::jm zs::aK 36 36 (.slice S l.length T) (l.flatMap sO)::bC p m L::F) from r.sb);have Hfn:=uQ (show l.length<=20000 by rw [V.o,aay];have h1:=aB.aa5 last R;have:=Hn.o;have:=Yy.o;omega);clear r;rw [<-V.o]at HP;clear V;have hnw:=JW HM.o F6.o Yg.o;generalize af:aH.iC M=J at *
   have t:=uQ af;clear af;go_wp2_with fail;refine hnw.mono ?_;rintro e ac ⟨v,rfl,rfl,ad⟩;clear hnw Yg;by_cases hlw:last<J
   focus
    have s:=uQ (show aB.qR J R=l++[⟨3,J,0⟩] by rw [HP.o];unfold aB.Nv;rw [abL hlw]);have hS6:au w0 ac (aK 36 36 (.slice S l.length T) (l.flatMap sO)::aK 189 4 (.slice la ys.length lc) (ys.flatMap iy)::jm zs::aV m M::bC p m L::F):=ad.sb;clear ad
    go_wp2_with (first
     |((with_reducible refine Jb ⟨?_⟩);refine KT aA aA (λw=>PS 3 J w) ?_)
     |((with_reducible refine rV ⟨?_⟩);refine rJ (e:=36) (sz:=36) (je:=72) aC hS6 aA (cs:=iF ⟨3,J,0⟩) rfl aA dG ?_;intro bN wN hN)
     |(with_reducible apply oK))
    refine ⟨sJ 36 36 72 aC hN aA aA bZ bJ aA dG aA (by rw [lK (k:=36) (λy _=>Jl y)];have:=Hfn.o;omega) dG dG (ys:=sO ⟨3,J,0⟩) rfl ?_⟩;intro b' n' c' N nJ;have O:n'=(l).length+1:=by
     exact Vm
    subst O;have c5:(0:Int)<(((l.length+1:Nat)):Int):=oQ;have P:au w0 N (aK 36 36 (.slice (some ⟨b',0,none⟩) (l.length+1) c') ((aB.qR J R).flatMap sO)::aK 189 4 (.slice la ys.length lc) (ys.flatMap iy)::jm zs::aV m M::bC p m L::F):=by
     rw [s.o,ai5,aiN,am6,ahB];exact nJ
    have LH:=uQ (show (aB.qR J R).length=l.length+1 by rw [s.o,aay];rfl);clear nJ;generalize l.length+1=q at *
    go_wp2_with fail
    go_ret2
    refine ⟨_,rfl,?_⟩;rw [t.o];exact ⟨_,rfl,⟨_,_,by rw [LH.o];rfl⟩,P⟩
   have s:=uQ (show aB.qR J R=l by rw [HP.o];unfold aB.Nv;rw [abB hlw];exact ahB _);have W:au w0 ac (aK 36 36 (.slice S l.length T) (l.flatMap sO)::aK 189 4 (.slice la ys.length lc) (ys.flatMap iy)::jm zs::aV m M::bC p m L::F):=ad.sb;clear ad;by_cases aa:0<l.length
   focus
    generalize hq:l.length=q at *
    have Hq:=uQ (show (aB.qR J R).length=q by rw [s.o];exact hq);rw [<-s.o]at W;clear hq;have c5:(0:Int)<(q:Int):=oQ;go_wp2_with fail
    go_ret2
    refine ⟨_,rfl,?_⟩;rw [t.o];exact ⟨_,rfl,⟨_,_,by rw [Hq.o];rfl⟩,W⟩
   have anc:l=[]:=ajn oQ;subst anc;by_cases hl0:last<0
   focus
    go_wp2_with fail
    go_ret2
    refine ⟨_,rfl,?_⟩;rw [t.o];exact ⟨_,rfl,⟨_,_,by rw [s.o];rfl⟩,by rw [s.o];exact W⟩
   have ak:0<=last:=oQ;have Hl1:=uQ ak;have al:=ah.o s.o ak;have X:=uQ (show aB.qR J R=[] from s.o);clear aa ak HP s;have G:au w0 ac (aV m M::aK 189 4 (.slice la ys.length lc) (ys.flatMap iy)::jm zs::bC p m L::F):=W.sb;clear W
   have Y:∀ C:World,au w0 C (aV m M::aK 189 4 (.slice la ys.length lc) (ys.flatMap iy)::jm zs::bC p m L::F)->Lm w0 (aB.qR J R) (aK 189 4 (.slice la ys.length lc) (ys.flatMap iy)::jm zs::aV m M::bC p m L::F) (.tuple #[.slice none 0 0,dS 0]) C:=λC hw=>
    ⟨_,rfl,⟨_,_,by rw [X.o];rfl⟩,by rw [X.o];exact au.iW.2 (hw.sb)⟩
   have E:=uQ Y;clear Y X;rcases al with ht|ht|⟨K',E',B',us,pl,D,ae,hne,am,hf,Z⟩
   ·have H:=TR (p:=p) (n:=last) HM.o ag.o (.inl ht) G;clear ht G;go_wp2_with fail;refine H.mono ?_;rintro e C ⟨v,rfl,rfl,I⟩;go_wp2_with fail
    go_ret2
    refine ⟨_,rfl,?_⟩;rw [t.o];exact E.o _ I
   ·have H:=TR (p:=p) (n:=last) HM.o ag.o (.inr ht) G;clear ht G;go_wp2_with fail;refine H.mono ?_;rintro e C ⟨v,rfl,rfl,I⟩;go_wp2_with fail
    go_ret2
    refine ⟨_,rfl,?_⟩;rw [t.o];exact E.o _ I
   ·obtain ⟨ld,hpl⟩:=ae.Un aU am hne;obtain ⟨t1,t2⟩:=hf.there ae.hd.fD.dV.fE;rw [<-Z]at ld t1 t2;have hf1:=hf.yS;have hf2:=hf.KL;rw [<-Z]at hf1 hf2;have H:=ab2 HL.o HM.o ag.o t1 t2 pl ld.key us ld.gY ld.Cb hf1 hf2 ld.fC ld.zB (G.sb:au w0 ac (bC p m L::aV m M::aK 189 4 (.slice la ys.length lc) (ys.flatMap iy)::jm zs::F));have HR':=uQ ae;have x9:=uQ am;have Hpl:=uQ hpl;clear G ae hne hf Z ld hpl t1 t2 hf1 hf2 am;go_wp2_with fail;refine H.mono ?_;rintro e C ⟨v,rfl,qs,qi,uv,tv,rfl,I⟩;clear H;go_wp2_with fail;refine (asv HR'.o aU x9.o.pU (Ro.os HH.o) (I.sb:au w0 C (bC p m L::aV m M::fB qs last qi uv tv::bF qi (aY.jE pl) pl.length::aK 205 3 uv (us.flatMap dO)::aK 189 4 (.slice la ys.length lc) (ys.flatMap iy)::jm zs::F))).mono ?_;rintro e XL ⟨v,rfl,rs,ri,ruv,rtv,x,rfl,NS,hx,Jo⟩;obtain ⟨e1,e2⟩:=anL x9.o hx.1;clear I
    go_wp2_with (with_reducible apply jd);refine ⟨iR uZ Jo rfl ?_⟩;intro b18 w24 Jp;clear Jo;go_wp2_with ((with_reducible refine eG ⟨?_⟩);refine jK (iF aJ.gI.zero) Jp aA aA aA eu aC aA ?_;intro w25 h27);rw [<-e1,<-e2]at h27;refine (alM (us:=us) (B1:=x.2) (B2:=pl.length) (abQ hx.2.2.1 aU) (abQ Hpl.o aU) (abQ (ajQ HR'.o x9.o) aU) (h27.sb:au w0 w25 (fB rs (aB.eP D) ri ruv rtv::bF ri (aY.jE pl) x.2::aK 205 3 ruv (us.flatMap dO)::fB qs last qi uv tv::bF qi (aY.jE pl) pl.length::aK 205 3 uv (us.flatMap dO)::bC p m L::aV m M::aK 189 4 (.slice la ys.length lc) (ys.flatMap iy)::jm zs::F))).mono ?_;rintro e w26 ⟨v,rfl,rfl,h28⟩;clear h27 Jp;go_wp2_with fail
    go_ret2
    refine ⟨_,rfl,?_⟩;rw [t.o];exact E.o _ (h28.sb)
end
section
variable {R:List (Nat×ay.Bs)}
theorem arC (hM:M.Ok K) (s:ByteArray):(aB.oz M s).1.Ok (K+1):=by
 unfold aB.oz;split
 ·exact hM.mono oQ
 ·exact hM.dA _
theorem ale (hM:M.Ok K) (hK:K+8*R.length+10<=1099511627776) (hnm:∀ f∈M.list,f.size<=4000000000) (hlen:∀ d∈R,d.2.length<=16777216) (hn:R.length<=10000) (hlim:∀ d∈R,d.1<1048576) (hR:ys.map (·.1)=R)
  (P:Nat->aG->Prop) (hP0:P 0 M) (abK:∀ i M',P i M'->M'.Ok (K+6*i)/\((M'.size aH.tmp).2=0\/(M'.size aH.tmp).2=9)) (hPs:∀ i M',∀ d∈R,P i M'->(aB.pX M' d).2=0->P (i+1) (aB.pX M' d).1)
  (hH:Ro w0 F iO) (hok:∀ y∈ys,xk y) (hz:∀ y∈ys,zC y∈zs) (h:au w0 w (aK 189 4 (.slice la ys.length lc) (ys.flatMap iy)::jm zs::aV m M::F)) :
  Calls prog 43 #[aW m,.slice la ys.length lc] w (bf λv w'=>v=dS (aB.lT (aB.o8 (aH.iC M) R) R M).2/\au w0 w' (aV m (aB.lT (aB.o8 (aH.iC M) R) R M).1::F)):=by
 have hkn:=aot hM hnm hlen (abQ hn aU) hR hok hz h;have HK:=uQ hK;have Hlen:=uQ hlen;have Hn:=uQ hn;have U:=uQ hlim;have HR:=uQ hR;have E:=uQ abK;have Yk:=uQ hPs;have Yh:=uQ hP0;have HH:=uQ hH;have fV:=uQ hok;have Hz:=uQ hz;have o:=uQ (show ys.length=R.length by have:=aiX List.length hR;rwa [abl]at this);clear hK hnm hlen hn hlim hR abK hPs hP0 hH hok hz hM h;generalize aB.o8 (aH.iC M) R=last at *
 have HC:=uQ (show aB.lT last R M=(if (aB.nI R M).2=0 then (if (aB.pR last R.reverse (aB.nI R M).1).2=0 then (aB.pR last R.reverse (aB.nI R M).1).1.fU else aB.pR last R.reverse (aB.nI R M).1) else aB.nI R M) from rfl);go_enter func43,ntmps43;go_wp2_with fail;refine hkn.mono ?_;rintro e w1 ⟨v,rfl,rfl,D⟩;clear hkn;go_wp2_with fail
 go_loopg [16] ys.length (λg iq wr=>∃ (i j:Nat) (b:aG),g=ys.length-i/\i<=ys.length/\j<=i/\iq=.int .i64 i/\P j b/\aB.nI (R.drop i) b=aB.nI R M/\au w0 wr (aK 189 4 (.slice la ys.length lc) (ys.flatMap iy)::jm zs::aV m b::F))
 case atStart=>exact ⟨0,0,M,rfl,acn _,acn _,rfl,Yh.o,rfl,D⟩
 case round=>
  obtain ⟨i,j,b,rfl,hi,Y,rfl,Q,r,G⟩:=hrel;clear D;by_cases B:i<ys.length
  focus
   have c1:i<ys.length:=oQ;have hwi:IntKind.i64.wrap (i+1)=i+1:=abR _ (by have:=o.o;have:=Hn.o;omega);obtain ⟨y,V⟩:∃ y,ys[i]?=some y:=⟨_,aaf B⟩;obtain ⟨bk,off,rfl,l⟩:=ET (au.rd G) V;have hym:=abH V;have s:R[i]?=some y.1:=by rw [<-HR.o,ab4,V];rfl
   have u:=abH s;have hdr:R.drop i=y.1::R.drop (i+1):=by rw [ajB (by rw [<-o.o];exact B)];congr 1;rw [aaf (by rw [<-o.o];exact B)]at s;exact ajH s
   have t:=uQ (show (if aB.lH y.1.2=true then (if (aB.pX b y.1).2=0 then aB.nI (R.drop (i+1)) (aB.pX b y.1).1 else aB.pX b y.1) else aB.nI (R.drop (i+1)) b)=aB.nI R M by rw [<-r,hdr];rfl);have Hb:=uQ (show aB.lH y.1.2=((ay.eF y.1.2).2.2 != 0) from rfl);have x:=uQ (And.intro B Y);have QE:=uQ Q;have ajL:=uQ (Hlen.o _ u);have Y5:=uQ (U.o _ u);have Hyd:=uQ u;have S:=uQ hym;have W:∀ j v,[Value.int .i64 y.1.1,y.2.2,.int .i64 (ay.eF y.1.2).2.1,.int .i64 (ay.eF y.1.2).2.2][j]?=some v->wr.cell? ⟨bk,off+i*4+j,none⟩=some v:=l;have Hmy:=uQ (show iy y=[Value.int .i64 y.1.1,y.2.2,.int .i64 (ay.eF y.1.2).2.1,.int .i64 (ay.eF y.1.2).2.2] from rfl);obtain ⟨Iz,IB,hsv⟩:=(fV.o y hym).sl;clear B hi Y Q V hym s u hdr r l
   go_wp2_with (first
    |((with_reducible refine dH ⟨?_⟩);refine kQ (iy y) aA W underlying189 rfl aC ?_)
    |(with_reducible apply jd))
   refine ⟨iR FW G rfl ?_⟩;intro b5 w3 h3;refine BJ ?_;refine J6 ?_;intro w4 h4;clear h3 G W;have e3:w4.cell? ⟨b5,3,none⟩=some (.int .i64 (ay.eF y.1.2).2.2):=h4.bI bJ 3 rfl;by_cases hz:(ay.eF y.1.2).2.2=0
   ·have hb0:((ay.eF y.1.2).2.2==0)=true:=alj.2 hz;have H:=uQ (show aB.nI (R.drop (i+1)) b=aB.nI R M by rw [<-t.o,abB];rw [Hb.o,hz];decide);clear hz;go_wp2_with fail
    go_roundg (ys.length-(i+1))
    case measure=>have:=x.o.1;omega
    case rel=>exact ⟨i+1,j,b,rfl,x.o.1,by have:=x.o.2;omega,by first|rfl|go_num,QE.o,H.o,h4.drop⟩
   ·have hb0:((ay.eF y.1.2).2.2==0)=false:=acj.2 hz
    have H:=uQ (show (if (aB.pX b y.1).2=0 then aB.nI (R.drop (i+1)) (aB.pX b y.1).1 else aB.pX b y.1)=aB.nI R M by
     have D:=t.o
     rwa [abL (by rw [Hb.o];exact ajo.2 hz)]at D)
    clear hz t;have C:=E.o _ _ QE.o;have h5:au w0 w4 (aV m b::pt b5 (.cells (iy y).toArray 189 (0,0))::aK 189 4 (.slice (some ⟨bk,off,none⟩) ys.length lc) (ys.flatMap iy)::jm zs::F):=h4.sb
    have hrw:=arv (y:=y) C.1 (by have:=HK.o;have:=x.o;have:=o.o;omega) C.2 (fV.o y S.o) Y5.o ajL.o
     (λw' hw=>MN (Hz.o y S.o) hw.sb)
     (λf dv hf=>by
      obtain ⟨a,n,c,e1,e2,_⟩:=Zz (Hz.o y S.o) hf h4.sb;refine ⟨⟨a,n,c,e1,e2⟩,λw' hw=>?_⟩;obtain ⟨_,_,_,_,_,h3⟩:=Zz (Hz.o y S.o) hf hw.sb;exact h3)
     (Ro.os HH.o) h5
    have Yj:=uQ (λ(e:(aB.pX b y.1).2=0)=>Yk.o j b y.1 Hyd.o QE.o e);generalize aB.pX b y.1=rr at *
    obtain ⟨T,I⟩:=rr;dsimp only at hrw H Yj;clear h5 C;go_wp2_with ((with_reducible refine dH ⟨?_⟩);refine kG h4 aA bJ underlying189 rfl aC ?_);refine hrw.mono ?_;rintro e w5 ⟨v,rfl,rfl,h6⟩;clear hrw h4 e3;by_cases he:I=0
    ·have hbe:(I != 0)=false:=by rw [he];rfl
     have zM:=uQ (show aB.nI (R.drop (i+1)) T=aB.nI R M from (abL he).symm.trans H.o);have HPm:=uQ (Yj.o he);clear he;go_wp2_with fail
     go_roundg (ys.length-(i+1))
     case measure=>have:=x.o.1;omega
     case rel=>exact ⟨i+1,j+1,T,rfl,x.o.1,by have:=x.o.2;omega,by first|rfl|go_num,HPm.o,zM.o,h6.sb⟩
    ·have hbe:(I != 0)=true:=ajo.2 he
     have zM:=uQ (show aB.lT last R M=(T,I) by
      have D:(T,I)=aB.nI R M:=(abB he).symm.trans H.o;rw [HC.o,<-D,abB he])
     exact afX
  have c1:¬ i<ys.length:=oQ;have X:aB.nI R M=(b,0):=by rw [<-r,aiU (by rw [<-o.o];omega)];rfl
  have C:=(E.o _ _ Q).1;have Hpo:=uQ (show b.Ok (K+6*R.length) from C.mono (by have:=o.o;omega));have J:=uQ (show aB.lT last R M=(if (aB.pR last R.reverse b).2=0 then (aB.pR last R.reverse b).1.fU else aB.pR last R.reverse b) by rw [HC.o,X];rfl);have hw1:IntKind.i64.wrap (ys.length-1)=ys.length-1:=abR _ (by have:=o.o;have:=Hn.o;omega);clear B hi Y Q r X C HC Yh E Yk;go_wp2_with fail
  go_loopg [9] ys.length (λg iq wr=>∃ (k:Nat) (z:aG),g=k/\k<=ys.length/\iq=.int .i64 (k-1)/\z.Ok (K+6*R.length+(ys.length-k))/\aB.pR last (R.take k).reverse z=aB.pR last R.reverse b/\au w0 wr (aK 189 4 (.slice la ys.length lc) (ys.flatMap iy)::jm zs::aV m z::F))
  case atStart=>exact ⟨ys.length,b,rfl,abG _,by first|rfl|go_num,Hpo.o.mono oQ,by rw [acE (by rw [<-o.o];exact abG _)],G⟩
  case round=>
   obtain ⟨k,z,hgk,hk,rfl,A,r,hS⟩:=hrel;clear G;rcases k with _|k
   ·subst hgk
    have QA:=uQ (show aB.lT last R M=z.fU by
     have D:aB.pR last R.reverse b=(z,0):=by rw [<-r];rfl
     rw [J.o,D];rfl)
    have hsd:=KG A hS.sb;clear r A hk J;exact afo
   subst hgk;obtain ⟨y,V⟩:∃ y,ys[k]?=some y:=⟨_,aaf oQ⟩;obtain ⟨bk,off,rfl,l⟩:=ET (au.rd hS) V;have s:R[k]?=some y.1:=by rw [<-HR.o,ab4,V];rfl
   have u:=abH s;have Y5:=uQ (U.o _ u)
   have t:=uQ (show (if last<y.1.1 then (if (aB.oz z (aB.name y.1.1)).2=0 then aB.pR last (R.take k).reverse (aB.oz z (aB.name y.1.1)).1 else aB.oz z (aB.name y.1.1)) else (z,0))=aB.pR last R.reverse b by
    rw [<-r,ajf,s,akf,List.reverse_append,List.reverse_singleton,List.singleton_append]
    rfl)
   have f0:wr.cell? ⟨bk,off+k*4,none⟩=some (.int .i64 y.1.1):=l 0 _ rfl;have hik:(((k+1:Nat)):Int)-1=k:=oQ;rw [hik];have c0:(0:Int)<=k:=oQ;have c2:k<ys.length:=oQ;have hwk:IntKind.i64.wrap (k-1)=k-1:=abR _ (by have:=o.o;have:=Hn.o;omega);have Hk:=uQ hk;have L:=uQ A;clear hk A r V s u l hik;by_cases hll:last<y.1.1;rotate_left
   ·have QA:=uQ (show aB.lT last R M=z.fU by
     have D:(z,(0:Int))=aB.pR last R.reverse b:=(abB hll).symm.trans t.o;rw [J.o,<-D];rfl)
    have hsd:=KG L.o hS.sb;clear J t;exact afo
   have N:=uQ ((abL hll).symm.trans t.o);have hrm:=λ(w':World) (hw:au w0 w' (aK 189 4 (.slice (some ⟨bk,off,none⟩) ys.length lc) (ys.flatMap iy)::jm zs::aV m z::F))=>adO L.o (by have:=HK.o;have:=o.o;omega) (aB.name y.1.1) hw.sb;have O:=arC L.o (aB.name y.1.1);have hsn:=λ(w':World) (hw:au w0 w' (aK 189 4 (.slice (some ⟨bk,off,none⟩) ys.length lc) (ys.flatMap iy)::jm zs::aV m z::F))=>Au y.1.1 hw;generalize aB.name (y.1.1:Int)=nm at *
   generalize aB.oz z nm=rr at *
   obtain ⟨T,I⟩:=rr;dsimp only at hrm N O;have ajp:=uQ O;have I7:=uQ hrm;have Hsn:=uQ hsn;clear O hrm hsn t;go_wp2_with fail;refine (Hsn.o _ hS).mono ?_;rintro e w4 ⟨v,rfl,rfl,h4⟩;clear hS f0;go_wp2_with fail;refine (I7.o _ h4).mono ?_;rintro e w5 ⟨v,rfl,rfl,h6⟩;clear h4;by_cases he:I=0
   ·have hbe:(I != 0)=false:=by rw [he];rfl
    have zM:=uQ (show aB.pR last (R.take k).reverse T=aB.pR last R.reverse b from (abL he).symm.trans N.o);clear he;go_wp2_with fail
    go_roundg k
    case measure=>omega
    case rel=>exact ⟨k,T,rfl,by have:=Hk.o;omega,by first|rfl|go_num,ajp.o.mono (by have:=Hk.o;omega),zM.o,h6.sb⟩
   ·have hbe:(I != 0)=true:=ajo.2 he
    have zM:=uQ (show aB.lT last R M=(T,I) by
     have D:(T,I)=aB.pR last R.reverse b:=(abB he).symm.trans N.o;rw [J.o,<-D,abB he])
    exact afX
theorem alh {q:Bool} (hK:K<=1048576) (h1:128<=limit) (h2:limit<=1048576) (hM:M.Ok K) (ha:aB.alive M=0) (hs:(aB.dK M limit).aX=R.map λd=>(d.1:Int)) (hb:∀ d∈R,(aB.dK M limit).bytes M (d.1:Int)=(d.2,0)) (hn:R.length<=10000)
  (he:∀ d,R.getLast?=some d->aJ.mJ (aB.jG d.2)=q) (hq:R=[]->q=true) (hH:Ro w0 F iO) (h:au w0 w (aV m M::F)) :
  Calls prog 44 #[aW m,.int .i64 limit] w (bf λv w'=>v=dS (if q=true then 0 else ((aB.dK M limit).jO M).2.2)/\au w0 w' (aV m (if q=true then M else ((aB.dK M limit).jO M).1.2)::F)):=by
 have Z:=uQ (aB.yN hM limit h1 h2);have r:=OJ hM limit h ha h1 h2;have F8:=uQ (λ(p:Nat) (w':World) (hw:au w0 w' (bC p m (aB.dK M limit)::aV m M::F))=>U5 (aB.yN hM limit h1 h2) hM hs hb (abQ hn aU) hH hw)
 have A:=uQ (show ∀ d∈R,d.2.length<=16777216 from λd hd=>by
  have h1:=aB.Gn (L:=aB.dK M limit) hM (d.1:Int);rw [hb d hd]at h1;exact h1)
 have s:=uQ (λ(p:Nat) (w':World) (G:List aO) (N:Ro w0 G iO) (hw:au w0 w' (bC p m (aB.dK M limit)::aV m M::G))=>Ul N (aB.yN hM limit h1 h2) hM oQ hw);have O:=uQ hn;have P:=uQ he;have Q:=uQ hq;have S:=uQ hH;clear hK h1 h2 hM ha hs hb hn he hq hH h;generalize aB.dK M limit=L at *
 go_enter func44,ntmps44;go_wp2_with fail;refine r.mono ?_;rintro e w1 ⟨v,rfl,p,rfl,E⟩;clear r;go_wp2_with fail;refine (F8.o p _ E).mono ?_;rintro e H ⟨v,rfl,lv,ys,rfl,c,g,⟨la,lc,rfl⟩,zs,I,h2⟩;clear E;cases hg:ys.getLast? with
 |none=>
  obtain rfl:ys=[]:=ajF.1 hg;obtain rfl:q=true:=Q.o (by rw [<-c];rfl);have T:(((0:Nat):Int)==0)=true:=rfl;clear hg;go_wp2_with fail;go_ret;exact ⟨_,rfl,rfl,h2.sb⟩
 |some y=>
  have t:0<ys.length:=by
   cases ys with
   |nil=>cases hg
   |cons x l=>exact Nat.succ_pos _
  have B:ys.length<=10000:=by have:=aiX List.length c;rw [abl]at this;have:=O.o;omega
  have f:=aju hg;have i:R.getLast?=some y.1:=by rw [<-c,asq,hg];rfl
  have u:=P.o _ i;have hi:ys[ys.length-1]?=some y:=by rw [<-ao2];exact hg
  obtain ⟨z,off,rfl,a⟩:=ET (au.rd h2) hi;have C:∀ j v,[Value.int .i64 y.1.1,y.2.2,.int .i64 (ay.eF y.1.2).2.1,.int .i64 (ay.eF y.1.2).2.2][j]?=some v->H.cell? ⟨z,off+(ys.length-1)*4+j,none⟩=some v:=a;have c0:((ys.length:Int)==0)=false:=by rw [acj];omega
  have T:(((ys.length-1:Nat)):Int)<(ys.length:Int):=oQ;have c2:(0:Int)<=(((ys.length-1:Nat)):Int):=oQ;have U:IntKind.i64.wrap ((ys.length:Int)-1)=((ys.length-1:Nat):Int):=by rw [abR _ oQ];omega
  have n:=U4 (g y f) (Tz (g y f) (A.o _ (aju i))) (λw' hw=>MN (I y f) (hw.sb:au w0 w' (jm zs::aK 189 4 (.slice (some ⟨z,off,none⟩) ys.length lc) (ys.flatMap iy)::bC p m L::aV m M::F))) (h2:au w0 H (aK 189 4 (.slice (some ⟨z,off,none⟩) ys.length lc) (ys.flatMap iy)::jm zs::bC p m L::aV m M::F));rw [u]at n;have V:=uQ (show Ro w0 (aK 189 4 (.slice (some ⟨z,off,none⟩) ys.length lc) (ys.flatMap iy)::jm zs::F) iO from Ro.os S.o);clear t B f i u hi a c g I hg;generalize ys.length-1=W at *
  go_wp2_with (first
   |((with_reducible apply BU);refine ⟨?_⟩;refine BX zA0 ?_)
   |((with_reducible refine dH ⟨?_⟩);refine kQ (b:=z) (o:=off+W*4) (iy y) aA C underlying189 rfl aC ?_))
  refine n.mono ?_;rintro e X ⟨v,rfl,rfl,J⟩;cases q with
  |true=>
   clear s;go_wp2_with fail;go_ret;exact ⟨_,rfl,rfl,J.sb⟩
  |false=>
   have D:=s.o p X _ V.o (J.sb);clear n h2;go_wp2_with fail;refine D.mono ?_;rintro e w4 ⟨v,rfl,rfl,Y⟩;go_wp2_with fail;go_ret;exact ⟨_,rfl,rfl,Y.sb⟩
end
section
variable {ps pn pi:Nat}{uv tv:Value}{xs:List Value}
theorem alg (h1:∀ u∈xs,u.oneCell'=true) (hl:xs.length<=2147483648) (h:au w0 w (aK 205 3 uv xs::F)) :
  Calls prog 112 #[uv] w (bf λv w'=>au w0 w' (aK 205 3 v xs::aK 205 3 uv xs::F)):=by
 have f:=uQ hl;obtain ⟨a,n,c,rfl,hn,b⟩:=au.rd h;cases a with
 |none=>
  have g:xs=[]:=by
   cases xs with
   |nil=>rfl
   |cons x xs=>obtain ⟨_,e,_⟩:=b 0 x rfl;cases e
  subst g;obtain rfl:n=0:=by simp only [ajw]at hn;omega
  have i:∀ w,(binOp .eql 106 (.slice none 0 c) (.slice none 0 0)).run prog w=.ok (.bool true) w:=λw=>by first|kernel_rfl|rfl
  go_in
  go_wp2;go_ret;exact ⟨_,rfl,au.iW.2 h⟩
 |some j=>
  have i:∀ w,(binOp .eql 106 (.slice (some j) n c) (.slice none 0 0)).run prog w=.ok (.bool false) w:=λw=>by first|kernel_rfl|rfl
  go_in
  go_wp2_with (first
   |((with_reducible refine Zw ⟨?_⟩);refine air (e:=205) (sz:=3) (je:=24) aC h ?_;intro l m d)
   |(with_reducible apply oK))
  refine ⟨aio 205 3 24 aC d aA aA bJ (au.rd d.drop) h1 (by simp only [ajw];omega) aU ?_⟩;intro v' w' hS;rw [ajc]at hS;go_wp2_with fail;go_ret;exact ⟨_,rfl,hS⟩
theorem auF (us:List aJ.gX):∀ u∈us.flatMap dO,u.oneCell'=true:=λu hu=>by
 obtain ⟨x,_,hx⟩:=aob.1 hu;unfold dO at hx;simp only [ab9,ajW,av2]at hx;rcases hx with rfl|rfl|rfl <;> rfl
theorem ar9 (hB:B<=14000000) (hu:us.length<=65536) (h:au w0 w (eH r m aZ p ps pn d::fB ps N pi uv tv::bF pi mi B::aK 205 3 uv (us.flatMap dO)::F)) :
  Calls prog 46 #[aW r] w (bf λv w'=>∃ (q qi:Nat) (vv:Value),v=aW q/\au w0 w' (fB q N qi vv (.slice none 0 0)::bF qi mi B::aK 205 3 vv (us.flatMap dO)::eH r m aZ p ps pn d::fB ps N pi uv tv::bF pi mi B::aK 205 3 uv (us.flatMap dO)::F)):=by
 have Ba:=uQ (show (us.flatMap dO).length<=2147483648 by rw [lK (λu _=>yD u)];omega);have HB:=uQ hB;have hok:=xM h;clear hu hB;go_enter func46,ntmps46;go_wp2_with fail;refine hok.mono ?_;rintro ee w1 ⟨v,rfl,rfl,rfl⟩;clear hok;go_wp2_with fail;have h1:=h.drew;clear h;refine gK [23,24,25] (λw'=>w'.cell? ⟨r,3,none⟩=some (.pointer (some ⟨ps,0,none⟩))/\w'.cell? ⟨ps,0,none⟩=some (.int .i64 N)/\w'.cell? ⟨ps,1,none⟩=some (.pointer (some ⟨pi,0,none⟩))/\w'.cell? ⟨ps,2,none⟩=some uv) aC ?_;have hG:World.cell? _ ⟨r,3,none⟩=some (.pointer (some ⟨ps,0,none⟩))/\World.cell? _ ⟨ps,0,none⟩=some (.int .i64 N)/\World.cell? _ ⟨ps,1,none⟩=some (.pointer (some ⟨pi,0,none⟩))/\World.cell? _ ⟨ps,2,none⟩=some uv:=⟨h1.bI bJ 3 rfl,h1.bI bZ 0 rfl,h1.bI bZ 1 rfl,h1.bI bZ 2 rfl⟩;refine rP 0 ?_ (y:=bV);refine rP 1 ?_ (y:=jF)
 refine rP 2 ?_ (y:=eY);refine rt 3 (h:=?_);refine rP 4 ?_ (y:=jF);refine rP 5 ?_ (y:=eY);refine rt 6 (h:=?_);refine rP 7 ?_ (y:=bV);refine rP 8 ?_ (y:=jF);refine rP 9 ?_ (y:=eY);refine rt 10 (h:=?_);refine rP 11 ?_ (y:=jF);refine rP 12 ?_ (y:=eY);refine rt 13 (h:=?_);refine rP 15 ?_ (y:=bV);refine rP 16 ?_ (y:=jF);refine rP 17 ?_ (y:=eY);refine rt 18 (h:=?_);refine rP 19 ?_ (y:=jF);refine rP 20 ?_ (y:=eY);refine rt 21 (h:=?_);clear hG;refine dZ 14 aF aC (λK hK=>?_)
 (refine yw aC aF ?_)
 refine (Z' HB.o h1.sb).mono ?_;rintro ee w2 ⟨v,rfl,qi,rfl,h2⟩;refine hK _ _ (.inr (.inl ⟨h2.bI jS 3 rfl,h2.bI mD 0 rfl,h2.bI mD 1 rfl,h2.bI mD 2 rfl⟩)) ?_;clear hK h1;refine dZ 22 aF aC (λK hK=>?_)
 (refine yw aC aF ?_)
 refine (alg (auF us) Ba.o (h2.sb:au w0 _ (aK 205 3 uv (us.flatMap dO)::eH r m aZ p ps pn d::fB ps N pi uv tv::bF qi mi B::bF pi mi B::F))).mono ?_;rintro ee w3 ⟨vv,rfl,h3⟩;refine hK _ _ (.inr (.inl ⟨h3.bI jS 3 rfl,h3.bI mD 0 rfl,h3.bI mD 1 rfl,h3.bI mD 2 rfl⟩)) ?_;clear hK h2;obtain ⟨va,vn,vc,rfl,_,_⟩:=au.rd h3;refine rp 23 (hy:=yF0) (h:=?_);refine dZ 24 aF aC (λK hK=>?_);refine SG h3 aF aF ?_;intro q w4 h4;refine hK _ _ (.inl rfl) ?_;clear hK h3;refine rP 25 ?_ (y:=kR);refine fK aC ?_;go_wp2_with fail;go_ret;exact ⟨_,rfl,q,qi,_,rfl,h4.sb⟩
end
theorem at7 {k:Nat}{caps:Array Value}{p:ByteArray->Bool} (hk:k=110/\caps=#[]\/k=119/\∃ z,caps=#[z]) (hcl:∀ (s:ByteArray) (w':World) (A B:aO),s.size<=4000000000->au w0 w' (A::B::F)->Calls prog k (#[.string s]++caps) w' (bf λv w''=>v=.bool (p s)/\au w0 w'' (A::B::F)))
  (hM:M.Ok K) (hK:K+500<=1099511627776) (hno:∀ f∈M.list,f.size<=4000000000) (h:au w0 w (aV m M::F)) :
  Calls prog 109 #[aW m,.func (.func k) #[] caps] w (bf λv w'=>v=dS (aH.lI p M.list M).2/\au w0 w' (aV m (aH.lI p M.list M).1::F)):=by
 have hls:=JL hM h;obtain ⟨rfl,rfl⟩|⟨rfl,z,rfl⟩:=hk
 all_goals
  have Hlen:=uQ (Ur hM);have Hn:=uQ hno;have HK:=uQ hK;have HM:=uQ hM;have oI:=uQ hcl;clear hno hM hK hcl;generalize M.list=l at *
  obtain ⟨R,hR⟩:∃ R,aH.lI p l M=R:=⟨_,rfl⟩;have HR:=uQ hR;rw [hR];clear hR;go_enter func109,ntmps109;go_wp2_with fail;refine hls.mono ?_;rintro e w1 ⟨v,rfl,hS,_⟩;clear hls h;obtain ⟨a,c,rfl⟩:=UO (au.rd hS);go_wp2_with fail
  go_loopg [11] l.length (λg iq wr=>∃ (i:Nat) (M2:aG),g=l.length-i/\i<=l.length/\iq=.int .i64 i/\(aH.lI p (l.drop i) M2=R/\M2.Ok (K+i))/\au w0 wr (aK 9 1 (.slice a l.length c) (nG l)::aV m M2::F))
  case atStart=>exact ⟨0,M,rfl,acn _,rfl,⟨by rw [av5];exact HR.o,HM.o⟩,hS⟩
  case round=>
   obtain ⟨i,M2,rfl,hi,rfl,⟨hsw,hok⟩,hS2⟩:=hrel;clear hS;by_cases hlt:i<l.length
   ·have c1:(i:Int)<(l.length:Int):=oQ;refine O5 ?_;intro hwi;obtain ⟨s,hs⟩:∃ s,l[i]?=some s:=⟨_,aaf hlt⟩;obtain ⟨bk,off,rfl,hc⟩:=JX (au.rd hS2) hs;have hsz:=Hn.o s (abH hs);have hd:l.drop i=s::l.drop (i+1):=by
     rw [ajB hlt];rw [aaf hlt]at hs;cases hs;rfl
    rw [hd]at hsw;have dP:=uQ hlt;have fV:=uQ hok;have hcl:=oI.o s wr _ _ hsz hS2;cases hso:p s with
    |false=>
     have Ed:=uQ (show aH.lI p (l.drop (i+1)) M2=R by unfold aH.lI at hsw;rwa [abB (by rw [hso];decide)]at hsw);rw [hso]at hcl;clear hs hlt hi hso hsw hd hok;go_wp2_with fail;refine hcl.mono ?_;rintro e w2 ⟨v,rfl,rfl,hS3⟩;clear hS2 hc hcl;go_wp2_with fail
     go_roundg (l.length-(i+1))
     case measure=>have:=dP.o;omega
     case rel=>exact ⟨i+1,M2,rfl,aiW dP.o,by first|rfl|go_num,⟨Ed.o,fV.o.mono oQ⟩,hS3⟩
    |true=>
     have Ed:=uQ (show (if (M2.dA s).2=0 then aH.lI p (l.drop (i+1)) (M2.dA s).1 else M2.dA s)=R by unfold aH.lI at hsw;rwa [abL hso]at hsw);rw [hso]at hcl;have I7:=uQ (λ(w':World) (hw:au w0 w' (aV m M2::aK 9 1 (.slice (some ⟨bk,off,none⟩) l.length c) (nG l)::F))=>BM hok (by have:=HK.o;have:=Hlen.o;omega) hw s);have yH:=uQ (hok.dA s);generalize M2.dA s=q at *
     obtain ⟨M3,q3⟩:=q;dsimp only at I7 yH Ed;clear hlt hi hso hsw hd hok;go_wp2_with fail;refine hcl.mono ?_;rintro e w2 ⟨v,rfl,rfl,hS3⟩;clear hS2 hcl;obtain ⟨MO,off',TK,hc'⟩:=JX (au.rd hS3) hs;cases TK;by_cases c3:q3=0
     ·have hb1:(q3 != 0)=false:=by rw [c3];rfl
      have rU:=uQ (show aH.lI p (l.drop (i+1)) M3=R from (abL c3).symm.trans Ed.o);clear c3 hc hs Ed;go_wp2_with fail;refine (I7.o _ (hS3.sb)).mono ?_;rintro e w3 ⟨v,rfl,rfl,hS5⟩;clear hS3 hc';exact ae8
     ·have hb1:(q3 != 0)=true:=ajo.2 c3;have rU:=uQ (show (M3,q3)=R from (abB c3).symm.trans Ed.o);clear c3 hc hs Ed;go_wp2_with fail;refine (I7.o _ (hS3.sb)).mono ?_;rintro e w3 ⟨v,rfl,rfl,hS5⟩;clear hS3 hc';exact afW
   ·exact aeS
theorem anl (f:ByteArray) (hf:f.size<=4000000000) (h:au w0 w F):Calls prog 110 #[.string f] w (bf λv w'=>v=.bool (aH.rC f)/\au w0 w' F):=by
 have Ho:=uQ (show aH.rC f=((aH.iD f).2 || f.toList==[116,109,112]) by unfold aH.rC;rw [ByteArray.toList_eq];rfl);have hn:=TS f hf h;generalize aH.iD f=q at *
 obtain ⟨x,t⟩:=q;dsimp only at hn
 go_in
 go_wp2_with fail;refine hn.mono ?_;rintro ee w1 ⟨v,rfl,rfl,h1⟩;cases t with
 |false=>
  exact Ph
 |true=>
  exact Ph
theorem anm (hM:aB.gU K r M) (hK:K+500<=1099511627776) (hno:∀ f∈M.list,f.size<=4000000000) (h:au w0 w (aV m M::F)):Calls prog 45 #[aW m] w (bf λv w'=>v=dS (aH.lI aH.rC M.list M).2/\au w0 w' (aV m (aH.lI aH.rC M.list M).1::F)):=by
 have a:=Fv hM.ok h ByteArray.empty;rw [KD hM.ok hM.fE.off]at a;have b:=at7 (.inl ⟨rfl,rfl⟩) (λs w' A B d g=>anl s d g) hM.ok hK hno h;generalize aH.lI aH.rC M.list M=R at *
 go_in
 go_wp2_with fail;refine a.mono ?_;rintro e i ⟨v,rfl,rfl,rfl⟩;go_wp2_with fail;refine b.mono ?_;rintro e j ⟨v,rfl,rfl,c⟩;go_wp2;go_ret;exact ⟨_,rfl,rfl,c⟩
section
variable {K1 E1:Nat}{R:List (Nat×ay.Bs)}{D:List (Nat×List ay.aT)}{pl:List (ay.Bs×aB.bT)}
theorem agu (hR:aB.jD K r0 E B n L M D) (hn:n<=1000) (hK:K<=1048576) (hst:aB.uF D N us pl) (hh:aB.NF M\/D≠[]/\aB.HF M N pl us) (h1:128<=limit) (h2:limit<=1048576) (hH:Ro w0 F iO) (h:au w0 w (aV m M::F)) :
  Calls prog 10 #[aW m,.int .i64 limit] w (bf λv w'=>∃ (r p ps pi pn:Nat) (uv:Value) (x:List (ay.Bs×aJ.iH)×Nat),v=.tuple #[aW r,.agg (iF aJ.gI.zero),dS 0]/\(aY.kE (aJ.lC (aB.ig D)) x.1/\(∀ q∈x.1,q.1.length=32)/\x.2<=n/\x.1.length<=n) /\
   au w0 w' (eH r m limit p ps pn false::fB ps (aB.eP D) pi uv (.slice none 0 0)::bF pn (aY.jE (aJ.jH x.1)) x.2::bF pi (aY.jE (aJ.jH x.1)) x.2::aK 205 3 uv (((aB.oP D).map (aJ.pI x.1)).flatMap dO)::bC p m (aB.dK M limit)::aV m M::F)):=by
 have hc:=hR.hd.fD.dV
 exact agF (λx:List (ay.Bs×aJ.iH)×Nat=>aY.jE (aJ.jH x.1)) (λx=>x.2) (λx=>(aB.oP D).map (aJ.pI x.1)) (λx=>aY.kE (aJ.lC (aB.ig D)) x.1/\(∀ q∈x.1,q.1.length=32)/\x.2<=n/\x.1.length<=n) h1 h2 hc.ok hK
  hc.alive (λx hx=>abQ hx.2.2.1 oQ)
  (λp b5 w' hw=>(amI (hR.dK limit h1 h2) hn hst hh (Ro.os hH) hw).mono λe w'' hv=>hv) h
theorem aqA {last:Int}{q:Bool}{c:aG} (d:aB.Ee K K1 E1 B1 M R last limit q c D) (e:128<=limit) (f:limit<=1048576):aB.qR (aH.iC M) R=[]->0<=aB.mZ (-1) R->Ll M (aB.dK M limit) R:=λa b=>by
 rcases d.zy a b with h|h|⟨K',E',B',us,pl,D,⟨L,g⟩,i,j,k,l⟩
 ·exact .inl h
 ·exact .inr (.inl h)
 ·exact .inr (.inr ⟨K',E',B',us,pl,D,g.dK limit e f,i,j,k,l⟩)
theorem ao7 {r:Nat} (E:aB.gU K r M) (G:∀ p∈M.aN,p.1.size<=24) (hs:(aB.dK M limit).aX=R.map λd=>(d.1:Int)) (hb:∀ d∈R,(aB.dK M limit).bytes M (d.1:Int)=(d.2,0)) (hn:R.length<=1000) (H:∀ d∈R,d.1<1048576)
  (D:aB.qR (aH.iC M) R=[]->0<=aB.mZ (-1) R->Ll M (aB.dK M limit) R) (h1:128<=limit) (h2:limit<=1048576) (hH:Ro w0 F iO) (h:au w0 w (aV m M::F)) :
  Calls prog 9 #[aW m,.int .i64 limit] w (bf λv w'=>Lm w0 (aB.qR (aH.iC M) R) (aV m M::F) v w'):=by
 have hM:=E.ok;have c:=OJ hM limit h E.alive h1 h2;have F8:=uQ (λ(p:Nat) (w':World) (hw:au w0 w' (bC p m (aB.dK M limit)::aV m M::F))=>U5 (aB.yN hM limit h1 h2) hM hs hb (abQ hn aU) hH hw)
 have j:=uQ (λ(p:Nat) (lc:Nat) (la:Option Addr) g i a b (l:∀ y∈g,zC y∈i) w' (hw:au w0 w' (aK 189 4 (.slice la g.length lc) (g.flatMap iy)::jm i::aV m M::bC p m (aB.dK M limit)::F))=>
  aaU (aB.yN hM limit h1 h2) hM (λf hf=>by
   rw [E.fE.list]at hf;obtain ⟨x,o,rfl⟩:=abI.1 hf;exact abQ (G x o) aU) (λd hd=>by
    have h1:=aB.Gn (L:=aB.dK M limit) hM (d.1:Int);rw [hb d hd]at h1;exact h1) (abQ hn aU) H a (KD hM E.fE.off) D hH b l hw)
 clear E G hn H D hs hb hM h h1 h2;generalize aB.dK M limit=L at *
 generalize aB.qR (aH.iC M) R=z at *
 go_in
 go_wp2_with fail;refine c.mono ?_;rintro e A ⟨v,rfl,p,rfl,n⟩;clear c;go_wp2_with fail;refine (F8.o p _ n).mono ?_;rintro e B ⟨v,rfl,lv,g,rfl,a,b,⟨la,lc,rfl⟩,i,l,h2⟩;clear n;go_wp2_with fail;refine (j.o p lc la g i a b l _ (h2.sb)).mono ?_;rintro e C ⟨v,rfl,fv,rfl,⟨s,t,rfl⟩,u⟩;go_wp2_with fail
 go_ret2
 exact ⟨_,rfl,_,rfl,⟨s,t,rfl⟩,u.sb⟩
def ajR (w0:World) (m:Nat) (fl:List aJ.gI) (K E B:Nat) (D:List (Nat×List ay.aT)) (F:List aO) (v:Value) (w:World):Prop:=
 ∃ M':aG,aB.tV K E B M' D/\Lm w0 fl (aV m M'::F) v w
theorem apj {last:Int}{q:Bool}{M2:aG} (hP:aB.Ee K K1 E1 B1 M R last limit q M2 D) (hK:K<=1000000) (hK1:K1<=1000000) (hE:E1<=440) (hB:B1<=200000) (h1:128<=limit) (h2:limit<=1048576) (hH:Ro w0 F iO) (h:au w0 w (aV m M::F)) :
  Calls prog 8 #[aW m,.int .i64 limit] w (bf λv w'=>ajR w0 m (aB.qR (aH.iC M) R) (K1+1100) (E1+2) (B1+60000) D F v w'):=by
 obtain ⟨hs,hb⟩:=hP.aX;have hM:=hP.dV.ok;have hop:=OJ hM limit h hP.dV.alive h1 h2;have N:∀ f∈M.list,f.size<=4000000000:=λf hf=>by
  rw [hP.dV.fE.list]at hf;obtain ⟨x,hx,rfl⟩:=abI.1 hf;exact abQ (hP.qK x hx) aU
 have o:∀ d∈R,d.2.length<=16777216:=λd hd=>by
  have h1:=aB.Gn (L:=aB.dK M limit) hM (d.1:Int);rw [hb d hd]at h1;exact h1
 have F8:=uQ (λ(p:Nat) (w':World) (s:au w0 w' (bC p m (aB.dK M limit)::aV m M::F))=>U5 (aB.yN hM limit h1 h2) hM hs hb (abQ hP.bD aU) hH s)
 have yE:=uQ (λ(p:Nat) (lc:Nat) (la:Option Addr) (g:List Mp) (E:List Sg) (j:g.map (·.1)=R) (l:∀ y∈g,xk y) (hz:∀ y∈g,zC y∈E) (w':World) (s:au w0 w' (aK 189 4 (.slice la g.length lc) (g.flatMap iy)::jm E::aV m M::bC p m (aB.dK M limit)::F))=>
  aaU (aB.yN hM limit h1 h2) hM N o (abQ hP.bD aU) hP.lim j (KD hM hP.dV.fE.off) (aqA hP h1 h2) hH l hz s)
 have O:=uQ (λ(G:List aO) (hG:Ro w0 G iO) (lc:Nat) (la:Option Addr) (g:List Mp) (E:List Sg) (j:g.map (·.1)=R) (l:∀ y∈g,xk y) (hz:∀ y∈g,zC y∈E) (w':World) (s:au w0 w' (aK 189 4 (.slice la g.length lc) (g.flatMap iy)::jm E::aV m M::G))=>
  ale hM (by have:=hP.bD;omega) N o (abQ hP.bD aU) hP.lim j (λi M'=>aB.gU (K+6*i) 1048576 M') hP.dV (λi M' h=>⟨h.ok,h.tmp _⟩) (λi M' d hd h _=>(h.pX d).mono oQ) hG l hz s)
 obtain ⟨c1,⟨L2,c2⟩,c3,c4⟩:=hP.next;rw [hP.Uf,hP.Sz]at O;obtain ⟨L1,u⟩:=hP.rp;obtain ⟨R1,p1,p2,p3,p4,p5⟩:=hP.mid
 have Yq:=uQ (λ(G:List aO) (hG:Ro w0 G iO) (w':World) (s:au w0 w' (aV m (aB.lT last R M).1::G))=>show Calls prog 44 #[aW m,.int .i64 limit] w' (bf λv w''=>v=dS 0/\au w0 w'' (aV m M2::G)) from by
  have h9:=alh (q:=q) oQ h1 h2 hP.ok.ok hP.ok.alive p1 p2 (abQ p3 aU) p4 p5 hG s;obtain ⟨z1,z2⟩:=hP.cls;rw [<-z1]at h9;have z3:(if q=true then (0:Int) else ((aB.dK (aB.lT last R M).1 limit).jO (aB.lT last R M).1).2.2)=0:=by
   cases q with
   |true=>rfl
   |false=>exact z2 rfl
  rw [z3]at h9;exact h9)
 have P:=uQ (λ(G:List aO) (w':World) (s:au w0 w' (aV m M2::G))=>anm u.hd.fD.dV oQ (λf hf=>by
  rw [u.hd.fD.dV.fE.list]at hf;obtain ⟨x,hx,rfl⟩:=abI.1 hf;exact abQ (u.qK x hx) aU) s)
 rw [c1]at P;have b:=uQ hP.pU;clear hP hs hb hM h N o u c1 p1 p2 p3 p4 p5;generalize (aH.lI aH.rC M2.list M2).1=H at *
 generalize (aB.lT last R M).1=M1 at *
 obtain ⟨N9,_,_,I⟩:=c2.hd.stp b.o;have J:=uQ (λ(G:List aO) (hG:Ro w0 G iO) (w':World) (s:au w0 w' (aV m H::G))=>agu c2 aU oQ I (.inl c3) h1 h2 hG s);have a:=uQ c2;have Q:=uQ c3;have S:=uQ c4;have HH:=uQ hH;have HK1:=uQ hK1;have HE:=uQ hE;have HB:=uQ hB;have n:=uQ (And.intro h1 h2);clear I c2 c3 c4 hH hK hK1 hE hB h1 h2;generalize aB.qR (aH.iC M) R=fl at *
 generalize aB.dK M limit=L at *
 go_enter func8,ntmps8;go_wp2_with fail;refine hop.mono ?_;rintro e w1 ⟨v,rfl,p,rfl,hS⟩;clear hop;go_wp2_with fail;refine (F8.o p _ hS).mono ?_;rintro e w2 ⟨v,rfl,lv,g,rfl,j,l,⟨la,lc,rfl⟩,E,hz,h2⟩;clear hS F8;have c:=uQ (And.intro j (And.intro l hz));clear j l hz;go_wp2_with fail;refine (yE.o p lc la g E c.o.1 c.o.2.1 c.o.2.2 _ (h2.sb)).mono ?_;rintro e w3 ⟨v,rfl,fv,rfl,⟨fa,fc,rfl⟩,h3⟩;clear h2 yE;go_wp2_with fail;refine (O.o (aK 36 36 (.slice fa fl.length fc) (fl.flatMap sO)::bC p m L::F) (Ro.os HH.o) lc la g E c.o.1 c.o.2.1 c.o.2.2 _ (h3.sb)).mono ?_;rintro e w4 ⟨v,rfl,rfl,h4⟩;clear h3 O c;go_wp2_with fail;refine (Yq.o _ (Ro.os HH.o) _ h4).mono ?_;rintro e w5 ⟨v,rfl,rfl,h5⟩;clear h4 Yq;go_wp2_with fail;refine (P.o _ _ h5).mono ?_;rintro e w6 ⟨v,rfl,rfl,h6⟩;clear h5 P;go_wp2_with fail
 refine (J.o _ (Ro.os HH.o) _ h6).mono ?_;rintro e w7 ⟨v,rfl,r,p2,ps,pi,pn,uv,⟨kv,bx⟩,rfl,⟨k1,k2,k3,k4⟩,h7⟩;clear h6 J;dsimp only at k1 k2 k3 k4 h7;have z:=(a.o.dK limit n.o.1 n.o.2).hd.zy k1 k2;have hst:aB.uF D (aB.eP D) ((aB.oP D).map (aJ.pI kv)) (aJ.jH kv):=⟨rfl,⟨kv,k1,k2,rfl,rfl⟩,b.o⟩;have xF:((aB.oP D).map (aJ.pI kv)).length<=999:=by
  unfold aB.oP;rw [abl,abl];exact a.o.hd.count
 have hpl:(aJ.jH kv).length<=999:=abQ (by unfold aJ.jH;rw [abl];exact ak6 _ _) k4;have JA:aY.kE (aY.jE (aJ.jH kv)) (aJ.jH kv):=aY.UE (aJ.OX k1.jA);have LP:=uQ (aH.qP.gY z (a.o.dK limit n.o.1 n.o.2).hd.fD.lD oQ);have LQ:=uQ (aH.qP.Cb z (a.o.dK limit n.o.1 n.o.2).hd.fD.lD oQ);have kV:=uQ z.key;have x9:=uQ hst;have Ba:=uQ xF;have Hpl:=uQ hpl;have QW:=uQ JA;have Yp:=uQ k3;clear z hst xF hpl JA k1 k2 k3 k4;generalize (aB.oP D).map (aJ.pI kv)=A at *
 generalize aJ.jH kv=t at *
 generalize aB.dK H limit=L5 at *
 go_wp2_with (with_reducible apply jd);refine ⟨iR uZ h7 rfl ?_⟩;intro b14 w8 h8;clear h7;go_wp2_with ((with_reducible refine eG ⟨?_⟩);refine jK (iF aJ.gI.zero) h8 aA aA aA eu aC aA ?_;intro w9 h9);clear h8;refine (ar9 (abQ Yp.o aU) (abQ Ba.o aU) (h9.drop.sb:au w0 w9 (eH r m limit p2 ps pn false::fB ps (aB.eP D) pi uv (.slice none 0 0)::bF pi (aY.jE t) bx::aK 205 3 uv (A.flatMap dO)::bF pn (aY.jE t) bx::bC p2 m L5::aV m H::aK 36 36 (.slice fa fl.length fc) (fl.flatMap sO)::bC p m L::F))).mono ?_;rintro e w10 ⟨v,rfl,q,qi,vv,rfl,T⟩;clear h9;have e0:w10.cell? ⟨q,0,none⟩=some (.int .i64 (aB.eP D)):=T.bI bJ 0 rfl;by_cases hD:D=[]
 ·have hl:aB.eP D = -1:=by rw [hD];rfl
  have Hm:=uQ (show aB.tV (K1+1100) (E1+2) (B1+60000) H D from aB.tV.nf (a.o.mono oQ oQ oQ (abG _)) b.o (by have:=S.o;omega) Q.o hD);rw [hl]at e0;clear hD hl;go_wp2_with fail
  go_ret2
  exact ⟨_,rfl,H,Hm.o,_,rfl,⟨fa,fc,rfl⟩,T.sb⟩
 ·have U:=aB.JJ hD;have HN:=uQ (And.intro U a.o.hd.Dl);obtain ⟨V,B⟩:∃ V,V=bH.jM Xx.sum bH.xH true (t.map aJ.mO):=⟨_,rfl⟩;obtain ⟨bu,C⟩:∃ bu,bu=bH.jM Xx.sum bH.xI false (A.map aJ.mV):=⟨_,rfl⟩;have hBl:V.length+bu.length<=60000:=by
   rw [B,C,bH.Gl (k:=3) rfl LP.o.row,bH.Gl (k:=3) rfl LQ.o.row,abl,abl,show bH.nX true 3=44 from rfl,show bH.nX false 3=12 from rfl];have:=Hpl.o;have:=Ba.o;omega
  obtain ⟨a1,a2⟩:=aB.tV.nO (a.o.mono (abG _) (abG _) (abG _) (abG _)) S.o (by have:=HE.o;omega) (by have:=HB.o;omega) Q.o x9.o hD B C hBl;obtain ⟨_,_,_,s4⟩:=a.o.WG (by have:=S.o;have:=HE.o;omega) (Q.o.hn (aB.eP D)) U (by have:=a.o.hd.Dl;omega) V bu
  have hsv:=acr a.o.hd.fD.dV.ok (by have:=HK1.o;omega) U (by have:=a.o.hd.Dl;omega) t QW.o (abQ Yp.o aU) kV.o A LP.o LQ.o V bu B C s4
   (T.sb:au w0 w10 (fB q (aB.eP D) qi vv (.slice none 0 0)::bF qi (aY.jE t) bx::aK 205 3 vv (A.flatMap dO)::aV m H::aK 36 36 (.slice fa fl.length fc) (fl.flatMap sO)::F))
  rw [a1]at hsv;have Hm:=uQ (show aB.tV (K1+1100) (E1+2) (B1+60000) (aH.nO H (aB.eP D) V bu).1 D from a2);generalize (aH.nO H (aB.eP D) V bu).1=M3 at *
  generalize aB.eP D=N5 at *
  clear a1 a2 s4 B C hBl hD;go_wp2_with fail;refine hsv.mono ?_;rintro e sH ⟨v,rfl,rfl,h11⟩;go_wp2_with fail
  go_ret2
  exact ⟨_,rfl,M3,Hm.o,_,rfl,⟨fa,fc,rfl⟩,h11.sb⟩
end
theorem Vb (q:PV){j:Nat}{v:Value} (h:(aI q.1)[j]?=some v):(iY q)[j]?=some v:=by
 unfold iY;rw [aiS (abM.1 h).1];exact h
theorem aeE (q:PV) (hk:q.1.length=32):(iY q)[32]?=some q.2.2:=by
 unfold iY;rw [aiP zP0,bP,hk];rfl
theorem adQ (x y:Operand) (k l:ay.Bs) (hk:k.length=32) (hl:l.length=32) (w:World):((do eqGuard .neq 34 x y (.agg (aI k).toArray) (.agg (aI l).toArray);binOp .neq 34 (.agg (aI k).toArray) (.agg (aI l).toArray)):Sem Value).run prog w=.ok (.bool (!decide (k=l))) w:=by
 have h:=adR k l hk hl w;simp [eqGuard,aii,h]
section
variable {av bv mv:Value}
theorem ahd (ps qs:List PV) (he:ps.map sD=qs.map sD) (hp:∀ q∈ps,q.1.length=32) (ha:Ro w0 F (bK 33 av (ps.flatMap iY))) (hb:Ro w0 F (bK 33 bv (qs.flatMap iY))) (hda:∀ q∈ps,Ro w0 F (bK 1 q.2.2 (aI q.2.1))) (hdb:∀ q∈qs,Ro w0 F (bK 1 q.2.2 (aI q.2.1)))
  (hlen:ps.length<=1073741824) (hdl:∀ q∈ps,q.2.1.length<=1073741824) (h:au w0 w F) :
  Calls prog 12 #[av,bv] w (bf λv w'=>v=.bool true/\au w0 w' F):=by
 have n:qs.length=ps.length:=by have:=aiX List.length he;rw [abl,abl]at this;exact this.symm
 have o:∀ (i:Nat) (p q:PV),ps[i]?=some p->qs[i]?=some q->q.1=p.1/\q.2.1=p.2.1:=λi p q h1 N=>by
  have:=aiX (λl=>l[i]?) he;simp only [ab4,h1,N,am8]at this;have e:=ajH this;exact ⟨(aiX Prod.fst e).symm,(aiX Prod.snd e).symm⟩
 have s:∀ q∈qs,q.1.length=32:=λq B=>by
  obtain ⟨i,hi,rfl⟩:=aqj B;have N:=o i _ _ (aaf oQ) (aaf hi);rw [N.1];exact hp _ (List.getElem_mem _)
 have C:=(show ∀ q∈ps,(iY q).length=33 from λq B=>yB q (hp q B));have D:=(show ∀ q∈qs,(iY q).length=33 from λq B=>yB q (s q B));obtain ⟨aa,ac,rfl⟩:=l9 C (ha w h) aU;obtain ⟨ba,bc,rfl⟩:=l9 D (hb w h) aU;rw [n]at hb ⊢;have G:=uQ n;clear s he n
 go_in
 have c0:(ps.length != ps.length)=false:=bne_self_eq_false ..;go_wp2
 go_loopg [5] ps.length (λg iq wr=>∃ i:Nat,g=ps.length-i/\i<=ps.length/\iq=.int .i64 i/\au w0 wr F)
 case atStart=>exact ⟨0,rfl,acn _,rfl,h⟩
 case round=>
  obtain ⟨i,rfl,H,rfl,S⟩:=hrel;clear h;by_cases hi:i<ps.length
  ·have T:i<ps.length:=oQ;have ab:IntKind.i64.wrap (i+1)=i+1:=abR _ (by have:=hlen;omega);obtain ⟨p,b⟩:=Nz hi;obtain ⟨q,f⟩:∃ q,qs[i]?=some q:=⟨_,aaf (by rw [G.o];exact hi)⟩;obtain ⟨e1,U⟩:=o i p q b f;have m:=S.drew;obtain ⟨t,off,c',f1,V⟩:=lV C (ha _ m) b aU;obtain ⟨c,a,ad,f2,W⟩:=lV D (hb _ m) f aU;rw [G.o]at f2;cases f1;cases f2;have d:=(hp p (abH b));have I:=hda p (abH b);have r:=hdb q (abH f);rw [U]at r;have J:=hdl p (abH b);obtain ⟨pk,u,z⟩:=p;obtain ⟨qk,qd,A⟩:=q;dsimp only at e1 U I r J;obtain rfl:pk=qk:=e1.symm;obtain rfl:u=qd:=U.symm
   have X:=(show (∀ j v,(aI pk)[j]?=some v->World.cell? _ ⟨t,off+i*33+j,none⟩=some v)/\(∀ j v,(aI pk)[j]?=some v->World.cell? _ ⟨c,a+i*33+j,none⟩=some v)/\World.cell? _ ⟨t,off+i*33+32,none⟩=some z/\World.cell? _ ⟨c,a+i*33+32,none⟩=some A from
    ⟨λj v Y=>V j v (Vb (pk,u,z) Y),λj v Y=>W j v (Vb (pk,u,A) Y),V 32 _ (aeE (pk,u,z) d),W 32 _ (aeE (pk,u,A) d)⟩)
   have L:=as9 u I r m oQ;have Z:∀ x y w,((do eqGuard .neq 34 x y (.agg (aI pk).toArray) (.agg (aI pk).toArray);binOp .neq 34 (.agg (aI pk).toArray) (.agg (aI pk).toArray)):Sem Value).run prog w=.ok (.bool false) w:=λx y w=>by rw [adQ x y pk pk d d w];simp
   have M:=(show (aI pk).length=32 by rw [bP,d]);clear b f H V W S;go_wp2;refine gK [22,23,24] (λw'=>w'.rangeAt t (off+i*33) (aI pk)/\w'.rangeAt c (a+i*33) (aI pk)/\w'.cell? ⟨t,off+i*33+32,none⟩=some z/\w'.cell? ⟨c,a+i*33+32,none⟩=some A) aC ?_;have hG:=X;refine rP 0 ?_ (y:=bV);refine rP 1 ?_ (y:=bV);refine rP 2 ?_ (y:=kX);refine rP 3 ?_ (y:=eY);refine ji 4 aF aC dF (lF (aI pk) aA underlying34 rfl (by rw [M];kernel_rfl) (λw hw=>hw.1)) aQ gQ ?_;refine rP 5 ?_ (y:=bV);refine rP 6 ?_ (y:=bV);refine rP 7 ?_ (y:=kX);refine rP 8 ?_ (y:=eY);refine ji 9 aF aC dF (lF (aI pk) aA underlying34 rfl (by rw [M];kernel_rfl) (λw hw=>hw.2.1)) aQ gQ ?_;refine rP 10 ?_ (y:=(DZ aF aF (Z _ _)));refine rP 11 ?_ (y:=bV);refine rP 12 ?_ (y:=(kH aA aF));refine rP 13 ?_ (y:=(kH aA aF));refine rP 14 ?_ (y:=(vW aA aF aF dX));refine rP 15 ?_ (y:=(rM aA aF dX))
   refine ji 16 aF aC dF (rG aA aF aC (λwq s=>s.2.2.1)) aQ gQ ?_;refine rP 17 ?_ (y:=(kH aA aF));refine rP 18 ?_ (y:=(kH aA aF));refine rP 19 ?_ (y:=(vW aA aF aF dX));refine rP 20 ?_ (y:=(rM aA aF dX));refine ji 21 aF aC dF (rG aA aF aC (λwq s=>s.2.2.2)) aQ gQ ?_;clear hG;refine dZ 22 aF aC (λK hK=>?_);refine Gv [z,A] aA aC aA ?_;refine L.mono ?_;rintro ee w5 ⟨v,rfl,rfl,h5⟩;refine hK _ _ (.inl rfl) ?_;clear hK L m;refine rP 23 ?_ (y:=(X8 aA aF dX));refine rP 24 ?_ (y:=(qh aA aF aF));refine fK aC ?_
   try simp only [kW]
   try go_frame
   go_wp2
   go_roundg (ps.length-(i+1))
   case measure=>have:=hi;omega
   case rel=>exact ⟨i+1,rfl,aiW hi,by first|rfl|go_num,h5⟩
  ·obtain rfl:i=ps.length:=oQ;have T:¬ ps.length<ps.length:=oQ;clear H;go_wp2;go_ret;exact ⟨.bool true,rfl,rfl,S⟩
end
section
variable {D:List (Nat×List ay.aT)}
def Y9 (w0:World) (r m:Nat) (limit:Int) (M:aG) (D:List (Nat×List ay.aT)) (F:List aO) (w:World):Prop:=
 ∃ (p ps pn B:Nat) (G:List aO),B<=999/\xu G F/\au w0 w (eH r m limit p ps pn false::bF pn (aJ.jZ (aB.ig D)) B::bC p m (aB.dK M limit)::aV m M::G)
theorem apg (hM:aB.tV K E B M D) (z:K<=1048576) (x:128<=limit) (y:limit<=1048576) (A:Ro w0 F iO) (h:au w0 w (aV m M::F)) :
  Calls prog 10 #[aW m,.int .i64 limit] w (bf λv w'=>∃ r,v=.tuple #[aW r,.agg (iF aJ.gI.zero),dS 0]/\Y9 w0 r m limit M D F w'):=by
 obtain ⟨t,u,a,l⟩:=hM.st;refine (agu (hM.dK limit x y) aU z a l x y A h).mono ?_;rintro e w' ⟨v,rfl,r,p,c,d,n,f,⟨kv,g⟩,rfl,⟨i,o,j,s⟩,b⟩;dsimp only at i o j s b;rw [show aY.jE (aJ.jH kv)=aJ.jZ (aB.ig D) from aJ.aeB i]at b;exact ⟨_,rfl,r,rfl,p,c,n,g,fB c (aB.eP D) d f (.slice none 0 0)::bF d (aJ.jZ (aB.ig D)) g::aK 205 3 f (((aB.oP D).map (aJ.pI kv)).flatMap dO)::F,j,oG,b.sb⟩
theorem apf {r:Nat} (hM:aB.tV K E B M D) (u:128<=limit) (t:limit<=1048576) (x:Ro w0 F iO) (h:Y9 w0 r m limit M D F w) :
  Calls prog 11 #[aW r] w (bf λv w'=>∃ (s:Value) (k:List PV),v=.tuple #[s,.bool true]/\(aY.kE (aJ.l7 (aB.iP D)) (k.map sD)/\(∀ q∈k,q.1.length=32/\∃ a n c,q.2.2=.slice a n c)/\k.length<=999/\(∀ q∈k,q.2.1.length<=16384)) /\
   au w0 w' (aK 122 33 s (k.flatMap iY)::lU k::aV m M::F)):=by
 obtain ⟨p,j,l,o,G,d,b,f⟩:=h;refine (adI (hM.dK limit u t).hd d (Ro.H9 x b) f).mono ?_;rintro e w' ⟨v,rfl,s,k,rfl,g,t⟩;refine ⟨_,rfl,s,k,rfl,g,?_⟩;have i:au w0 w' (aK 122 33 s (k.flatMap iY)::lU k::aV m M::G):=t.sb;exact i.sub (Iy bJ (Iy bJ (Iy bJ b)))
end
theorem aa6:aB.qR (-1) [(0,([]:ay.Bs))]=[⟨1,0,0⟩,⟨3,0,0⟩]:=rfl
def ES:aG:=((aG.iZ 1000).dM (aB.name 0)).1
theorem adM:(⟨#[115,101,103,46,48,48,48,48,48,48,48,48]⟩:ByteArray)=aB.name 0:=by decide +kernel
theorem ape:((aG.iZ 1000).dM (aB.name 0)).2=0:=by decide +kernel
theorem apd:(aB.dK ES 200).aX=[0]:=by decide +kernel
theorem apb:(aB.dK ES 200).bytes ES 0=([],0):=by decide +kernel
theorem apc:ES.aN=[(aB.name 0,0)]:=by decide +kernel
theorem adN:aH.iC ES = -1:=by decide +kernel
theorem JM (hH:Ro w0 F iO) (h:au w0 w F):Calls prog 13 #[] w (bf λv w'=>v=.bool true/\au w0 w' F):=by
 have c:Calls prog 31 #[.int .i64 1000] w (bf λv w'=>∃ m,v=.tuple #[aW m,dS 0]/\au w0 w' (aV m (aG.iZ 1000)::F)):=adU 1000 aU h;have o:=uQ hH;clear hH;go_enter func13,ntmps13;go_wp2_with fail;refine c.mono ?_;rintro e t ⟨v,rfl,m,rfl,l⟩;clear c h;have b:=Ji (aG.Ok.iZ 20 1000 aU) aU l ⟨#[115,101,103,46,48,48,48,48,48,48,48,48]⟩ aU;rw [adM,ape]at b;change Calls _ _ _ _ (bf λv w'=>v=dS 0/\au w0 w' (aV m ES::F)) at b;go_wp2_with fail;rw [adM];refine b.mono ?_;rintro e u ⟨v,rfl,rfl,g⟩;clear b l
 have f:=ao7 (R:=[(0,[])]) (show aB.gU 21 1000 ES from (aB.gU.iZ 20 1000 aU).dM _) (λp n=>by
  rw [apc,acS]at n;subst n;decide +kernel) apd (λd hd=>by
  rw [acS]at hd;subst hd;exact apb) aU (λd hd=>by
  rw [acS]at hd;subst hd;decide) (λh _=>by
  rw [adN,aa6]at h;cases h) aU aU o.o g
 rw [adN,aa6]at f;go_wp2_with fail;refine f.mono ?_;rintro e r ⟨v,rfl,fv,rfl,⟨y,z,rfl⟩,j⟩;clear g f;obtain ⟨s,off,rfl,a⟩:=pq (au.rd j) (i:=0) (x:= .int .i64 1) rfl;have A:r.cell? ⟨s,off,none⟩=some (.int .i64 1):=a 0 _ rfl;clear a;go_wp2_with fail;go_ret;exact ⟨_,rfl,rfl,j.drop.drop⟩
theorem aru {fn:Func}{t u v x:Tmp} (h:fn.results=#[.tmp t,.tmp u,.tmp v,.tmp x]) (tmps:Array Value) (P:Program) (w:World) :
  (results fn tmps).run P w=.ok (.tuple #[tmps.getD t undef,tmps.getD u undef,tmps.getD v undef,tmps.getD x undef]) w:=by simp [results,h]
section
variable {o oc:ay.Bs->Option ay.Bs}
theorem RX.sdW {p ps b c:Nat}{d:Value}{M:aG} (e:aB.Rp K r0 0 0 0 ⟨aZ,[],false,0⟩ M []) (a:M.aN=[]) (h:au w0 w (RX r m p ps b c d aZ M F)):pO w0 r m aZ K r0 0 0 (λ_=>none) (λ_=>none) false F w:=
 ⟨ps,p,c,b,0,0,0,d,_,-1,[],_,M,[],[],⟨e.rpd,aB.xY.start rfl rfl,rfl,rfl,λ_=>rfl,abG _,abG _,aB.vF.start a⟩,h.sb⟩
theorem pO.aqD (h:pO w0 r m aZ K r0 E n o oc d F w):∃ G:List aO,au w0 w G/\(∀ w',au w0 w' G->pO w0 r m aZ K r0 E n o oc d F w')/\(∀ w',au w0 w' G->au w0 w' F):=by
 obtain ⟨b,p,c,e,B,f,g,i,j,N,l,L,M,D,s,hf,t⟩:=h;exact ⟨_,t,λw' a=>⟨b,p,c,e,B,f,g,i,j,N,l,L,M,D,s,hf,a⟩,λw' a=>a.sb⟩
def Y8 (o:ay.Bs->Option ay.Bs) (qs:List PV):Prop:=aY.kE o (qs.map sD)/\(∀ q∈qs,q.1.length=32/\∃ a n c,q.2.2=.slice a n c)/\qs.length<=999/\∀ q∈qs,q.2.1.length<=16384
theorem alT (hn:n<=200) (C:Ro w0 F iO) (h:pO w0 r m aZ K r0 E n o oc d F w) :
  Calls prog 11 #[aW r] w (bf λv w'=>∃ (A:Value) (z:List PV),v=.tuple #[A,.bool true]/\Y8 o z/\pO w0 r m aZ K r0 E n o oc d (aK 122 33 A (z.flatMap iY)::lU z::F) w'):=by
 obtain ⟨a,p,c,f,B,g,i,j,l,N,s,L,M,D,t,hf,u⟩:=h;refine (adI (b:=999) hf.rp.hd (abQ hf.b1 (abQ hn aU)) (Ro.os C) u).mono ?_;rintro e w' ⟨v,rfl,A,z,rfl,x,y⟩;exact ⟨_,rfl,A,z,rfl,by rw [hf.aN];exact x,a,p,c,f,B,g,i,j,l,N,s,L,M,D,t,hf,y.sb⟩
def ajY (w0:World) (aZ:Int) (F:List aO) (v:Value) (w:World):Prop:=∃ (m r:Nat) (o:ay.Bs->Option ay.Bs) (mv:Value) (qs:List PV),v=.tuple #[aW m,aW r,mv,.bool true]/\Y8 o qs/\pO w0 r m aZ 25000 1048576 62 31 o o false (aK 122 33 mv (qs.flatMap iY)::lU qs::F) w
theorem auX (l1:128<=aZ) (l2:aZ<=2000) (ds:List QD){a:Option Addr}{c:Nat} (hr:Ro w0 F (bK 37 (.slice a ds.length c) (qw ds))) (hk:∀ d∈ds,d.c.key.length=32/\d.c.data.length<=300) (hd:∀ d∈ds,Ro w0 F (bK 1 d.dv (aI d.c.data))) (hl:ds.length<=30) (hH:Ro w0 F iO) (h:au w0 w F) :
  Calls prog 18 #[.int .i64 aZ,.slice a ds.length c] w (bf λv w'=>ajY w0 aZ F v w'):=by
 have C:=adU 1048576 aU h;have D:=uQ (And.intro l1 l2);have Hr:=uQ hr;have Hk:=uQ hk;have Hd:=uQ hd;have f:=uQ hl;have Q:=uQ hH;clear hr hk hd hl hH h l1 l2;go_enter func18,ntmps18;go_wp2_with fail;refine C.mono ?_;rintro R w1 ⟨v,rfl,m,rfl,h1⟩;clear C;have V:=arF (K:=0) D.o.1 (by have:=D.o.2;omega) (aB.gU.iZ 0 1048576 aU) (acn _) rfl Q.o h1;clear h1;go_wp2_with fail;refine V.mono ?_;rintro R w3 ⟨v,rfl,r,p,ps,pi,pn,uv,rfl,hR,S⟩;clear V;have HR:=uQ hR;clear hR;go_wp2_with (with_reducible apply jd);refine ⟨iR uZ S rfl ?_⟩;intro b8 w7 h7;refine BJ ?_;refine ⟨jK (iF aJ.gI.zero) h7 aA aA aA eu aC aA ?_⟩;intro w8 h8;have h9:=h8.drop;clear S h7 h8;have h9:au w0 w8 (RX r m p ps pi pn uv aZ (aG.iZ 1048576) F):=h9;have h2:=RX.sdW HR.o rfl h9;clear h9 HR;go_wp2_with fail
 go_loopg [13] ds.length (λg iq wr=>∃ (i:Nat) (o oc:ay.Bs->Option ay.Bs) (d:Bool),g=ds.length-i/\i<=ds.length/\iq=.int .i64 i/\pO w0 r m aZ (i*605) 1048576 (2*i) i o oc d F wr)
 case atStart=>exact ⟨0,_,_,_,rfl,acn _,rfl,h2⟩
 case round=>
  obtain ⟨i,o,oc,d,rfl,hi,rfl,u⟩:=hrel;clear h2;by_cases B:i<ds.length;rotate_left
  focus
   obtain rfl:i=ds.length:=oQ;have c1:decide ((ds.length:Int)<(ds.length:Int))=false:=aes oQ;have ab:¬ (ds.length:Int)<(ds.length:Int):=oQ;have W:=aao yR0 yR0 yR0 Q.o u;clear u hi B;go_wp2_with fail;refine W.mono ?_;rintro R w3 ⟨v,rfl,⟨rfl,S⟩|⟨rfl,S,_⟩⟩;rotate_left
   focus
    exfalso;have:=f.o;have h4:2*ds.length*(20+28*ds.length)<=60*(20+28*30):=aqe oQ oQ;omega
   clear W;have E:pO w0 r m aZ 25000 1048576 62 31 o o false F w3:=S.mono yR0 yR0 yR0;have X:=alT aU Q.o E;clear S E;go_wp2_with fail;refine X.mono ?_;rintro R w4 ⟨v,rfl,mv,qs,rfl,Y,h4⟩;have ac:=uQ Y;clear X Y;go_wp2_with fail
   try simp only [Exit.inBlock,Exit.then]
   refine bodyPost_ret (aru rfl _ _ _) rfl ?_;exact ⟨_,rfl,m,r,o,mv,qs,rfl,ac.o,h4⟩
  have c1:decide ((i:Int)<(ds.length:Int))=true:=aiC oQ;have ab:(i:Int)<(ds.length:Int):=oQ;have ag:IntKind.i64.wrap ((i:Int)+1)=(i:Int)+1:=abR _ yR0;obtain ⟨x,hx⟩:∃ x,ds[i]?=some x:=⟨_,aaf B⟩;have I:=abH hx;have dP:=uQ B;have n:=uQ (Hk.o x I);have Z:=uQ (Hd.o x I);obtain ⟨G,A,t,l⟩:=u.aqD;have J:=uQ t
  have L:=uQ (λ(w':World) (hw:au w0 w' G)=>show ∃ s off,a=some ⟨s,off,none⟩/\w'.rangeAt s (off+i*37) (uS x) from by
   have ad:=Hr.o _ (l _ hw);have ae:(qw ds)[i*37+0]?=some (.int .i64 x.c.kind):=OZ (λd hd=>(Hk.o d hd).1) hx rfl;obtain ⟨s,off,e,M⟩:=pq ad ae
   exact ⟨s,off,e,λj y hj=>by
    have:=M _ _ (OZ (λd hd=>(Hk.o d hd).1) hx hj);rw [<-avC]at this;exact this⟩)
  obtain ⟨s,off,rfl,_⟩:=L.o _ A;obtain ⟨da,dn,dc,N,aa,_⟩:=Z.o _ (l _ A);rw [bP,aiR]at aa;subst aa
  have Hc:=uQ (λ(w':World) (hw:au w0 w' G)=>show w'.cell? ⟨s,off+i*37,none⟩=some (.int .i64 x.c.kind)/\w'.rangeAt s (off+i*37+1) (aI x.c.key)/\w'.cell? ⟨s,off+i*37+33,none⟩=some (.slice da x.c.data.length dc) from by
   obtain ⟨_,_,e,hc⟩:=L.o _ hw;cases e;exact ⟨hc 0 _ (aqV x),λj z hj=>by rw [avC];exact hc (1+j) _ (aqU x hj),by rw [<-N];exact hc 33 _ (Vd x n.o.1 0)⟩)
  have T:=(Hc.o _ A).1;have fk:=(Hc.o _ A).2.1;have af:=uQ N;clear B hi hx I L t N l;by_cases U:x.c.kind=0
  ·as_aux_lemma=>
    rw [U]at T;clear u fk U;go_wp2_with fail;have O:=A.drew;clear A T;refine gK [11] (λw'=>w'.rangeAt s (off+i*37+1) (aI x.c.key)/\w'.cell? ⟨s,off+i*37+33,none⟩=some (.slice da x.c.data.length dc)) aC ?_;have A:=(Hc.o _ O).2;refine rP 0 ?_ (y:=bV);refine rP 1 ?_ (y:=bV);refine rP 2 ?_ (y:=bV);refine rP 3 ?_ (y:=kX);refine rP 4 ?_ (y:=eY);refine ji 5 aF aC dF (lF (b:=s) (o:=off+i*37+1) (aI x.c.key) aA underlying34 rfl (by rw [bP,n.o.1];kernel_rfl) (λw hw=>hw.1)) aQ gQ ?_;refine rP 6 ?_ (y:=bV);refine rP 7 ?_ (y:=bV);refine rP 8 ?_ (y:=kX);refine rP 9 ?_ (y:=eY);refine rt 10 (h:=?_);clear A;refine dZ 11 aF aC (λK hK=>?_)
    (refine Bq aC aF aF aF ?_)
    refine (alY yI0 yI0 yI0 n.o.1 x.c.data da dc (by have:=Z.o;rwa [af.o]at this) n.o.2 Q.o (J.o _ O)).mono ?_;rintro R w5 ⟨v,rfl,H⟩;refine hK _ _ (.inl rfl) ?_;clear hK;refine fK aC ?_
    try simp only [kW]
    try go_frame
    obtain ⟨o2,d2,h5⟩:∃ o2 d2,pO w0 r m aZ ((i+1)*605) 1048576 (2*(i+1)) (i+1) o2 oc d2 F w5:=by
     rcases H with ⟨_,h5⟩|⟨_,h5⟩
     ·exact ⟨_,_,h5.mono oQ oQ oQ⟩
     ·exact ⟨_,_,h5.mono oQ oQ oQ⟩
    clear H O;exact afj
  by_cases k1:x.c.kind=1
  ·as_aux_lemma=>
    rw [k1]at T;clear U k1;go_wp2_with ((with_reducible refine dH ⟨?_⟩);refine kQ (b:=s) (o:=off+i*37+1) (aI x.c.key) aA fk underlying34 rfl (by rw [bP,n.o.1];kernel_rfl) ?_);refine (alJ yI0 yI0 yI0 n.o.1 Q.o u).mono ?_;rintro R w5 ⟨v,rfl,H⟩;obtain ⟨o2,d2,h5⟩:∃ o2 d2,pO w0 r m aZ ((i+1)*605) 1048576 (2*(i+1)) (i+1) o2 oc d2 F w5:=by
     rcases H with ⟨_,h5⟩|⟨_,h5⟩
     ·exact ⟨_,_,h5.mono oQ oQ oQ⟩
     ·exact ⟨_,_,h5.mono oQ oQ oQ⟩
    clear H u A T fk;exact afj
  by_cases k2:x.c.kind=2
  ·as_aux_lemma=>
    rw [k2]at T;clear U k1 k2;go_wp2_with fail;refine (aao yI0 yI0 yI0 Q.o u).mono ?_;rintro R w5 ⟨v,rfl,H⟩;obtain ⟨o2,P,d2,h5⟩:∃ o2 P d2,pO w0 r m aZ ((i+1)*605) 1048576 (2*(i+1)) (i+1) o2 P d2 F w5:=by
     rcases H with ⟨_,h5⟩|⟨_,_,h5⟩
     ·exact ⟨_,_,_,h5.mono oQ oQ oQ⟩
     ·exact ⟨_,_,_,h5.mono oQ oQ oQ⟩
    clear H u A T fk;go_wp2_with fail
    go_roundg (ds.length-(i+1))
    case measure=>have:=dP.o;omega
    case rel=>exact ⟨i+1,o2,P,d2,rfl,aiW dP.o,by first|rfl|go_num,h5⟩
  have c0:(x.c.kind==0)=false:=by rw [acj];exact U
  have c2:(x.c.kind==1)=false:=by rw [acj];exact k1
  have c3:(x.c.kind==2)=false:=by rw [acj];exact k2
  clear U k1 k2 fk;have h5:pO w0 r m aZ ((i+1)*605) 1048576 (2*(i+1)) (i+1) o oc d F wr:=u.mono oQ oQ oQ;clear u;go_wp2_with fail
  go_roundg (ds.length-(i+1))
  case measure=>have:=dP.o;omega
  case rel=>exact ⟨i+1,o,oc,d,rfl,aiW dP.o,by first|rfl|go_num,h5⟩
end
end Go.Proofs.Y
