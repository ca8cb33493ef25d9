import Derived.Test.YtadhomdmbcldkaaGreatDoorJ11
set_option linter.unusedSimpArgs false
open Go.Proofs.Tryz
set_option maxRecDepth 20000
set_option linter.unusedVariables false
set_option maxHeartbeats 128000000
open Go Go.Sl Go.MapKept Go.RowKit
open Go.Proofs.YtadhomdmbcldkaaGreatDoor Go.Proofs.Y
variable {w0 w:World}{F:List aF}{m K p ps b3 pi B r:Nat}{M:ak.ak}{n seg:Int}{L:Seg.Log}{uv tv:Value}{mp:aj.Bs->Option Seg.aZ}{d:Bool}
theorem yR0{p:Prop} (h:p:=by have:=HK.o;omega):p:=h
theorem zI0{p:Prop} (h:p:=by have:=rF.o;omega):p:=h
namespace Go.Proofs.Y
open Go.ak
section
variable {v bv:Value}{q:Nat}
theorem GR (hM:M.Ok K) (s:ByteArray) (h:Sat w0 w (aI m M::F)):Calls prog 143 #[ptr m,.string s] w (aN λv w'=>v=.bool (aA.there M s)/\w=w'):=by
 have hs:=Dc hM h s;have Hf:=uQ (show aA.there M s=decide ((M.size s).2=0) from rfl);generalize M.size s=r at *
 obtain ⟨n,e⟩:=r;dsimp only at hs;have hb:(e==0)=decide (e=0):=by rw [aoT,ako,ad5]
 go_enter func143,ntmps143;go_wp2_with fail;refine hs.mono ?_;rintro ee w1 ⟨v,rfl,rfl,rfl⟩;clear hs;go_wp2;go_ret;rw [Hf.o];exact ⟨_,rfl,by first|rfl|(rw [<-hb];rfl)|simp,rfl⟩
theorem Zq (hM:M.Ok K) (hK:K+4<=1099511627776) (s:ByteArray) (hs:s.size<=9223372036854775807) (b:Bs) (hr:Ro w0 F (aW 1 bv (aB b))) (hbv:∃ a n c,bv=.slice a n c) (h:Sat w0 w (aI m M::F)) :
  Calls prog 117 #[ptr m,.string s,bv] w (aN λv w'=>v=errno (aA.write M s b).2/\Sat w0 w' (aI m (aA.write M s b).1::F)):=by
 obtain ⟨ba,bn,bc,rfl⟩:=hbv;have Hr:=uQ hr;have Hs:=uQ hs;have hth:=GR hM aA.tmp h;clear hr hs;cases ht:aA.there M aA.tmp with
 |false=>
  have HX:=uQ (show aA.write M s b=(if (M.create aA.tmp).2=0 then aA.fill (M.create aA.tmp).1 s b else M.create aA.tmp) by unfold aA.write aA.oK;rw [ht];rfl);rw [ht]at hth;clear ht;go_enter func117,ntmps117;go_wp2_with fail;refine hth.mono ?_;rintro ee w1 ⟨v,rfl,rfl,rfl⟩;clear hth;have hcr:=zi hM oQ h aA.tmp aG;have ok1:=hM.create aA.tmp;generalize M.create aA.tmp=r1 at *
  obtain ⟨M1,e1⟩:=r1;dsimp only at hcr ok1;clear h;go_wp2_with fail;refine hcr.mono ?_;rintro ee w3 ⟨v,rfl,rfl,h3⟩;clear hcr;by_cases c1:e1=0;rotate_left
  ·have hb1:(e1 != 0)=true:=ahV.2 c1;have HF:=uQ (show aA.write M s b=(M1,e1) from HX.o.trans (abL c1));clear c1;go_wp2;go_ret;rw [HF.o];exact ⟨_,rfl,rfl,h3⟩
  subst c1;have HY:=uQ (show aA.write M s b=aA.fill M1 s b from HX.o.trans (adU rfl));clear HX;have hap:=Bg ok1 oQ h3 aA.tmp b Hr.o;have ok2:=ok1.append aA.tmp b
  have HE:=uQ (show aA.fill M1 s b=(if (M1.append aA.tmp b).2=0 then
    (if ((M1.append aA.tmp b).1.sync aA.tmp).2=0 then ((M1.append aA.tmp b).1.sync aA.tmp).1.rename aA.tmp s else (M1.append aA.tmp b).1.sync aA.tmp)
   else if (M1.append aA.tmp b).2=11 then
    (if ((M1.append aA.tmp b).1.remove aA.tmp).2=0 then (((M1.append aA.tmp b).1.remove aA.tmp).1,11) else (M1.append aA.tmp b).1.remove aA.tmp)
   else M1.append aA.tmp b) from rfl)
  generalize M1.append aA.tmp b=r2 at *
  obtain ⟨M2,e2⟩:=r2;dsimp only at hap ok2;clear h3;go_wp2_with fail;refine hap.mono ?_;rintro ee w4 ⟨v,rfl,rfl,h4⟩;clear hap;by_cases c2:e2=0;rotate_left
  ·have hb2:(e2 != 0)=true:=ahV.2 c2;by_cases c3:e2=11
   ·subst c3;have hrm:=yI ok2 oQ h4 aA.tmp;have HG:=uQ (show aA.write M s b=(if (M2.remove aA.tmp).2=0 then ((M2.remove aA.tmp).1,11) else M2.remove aA.tmp) from HY.o.trans (HE.o.trans ((abL c2).trans (adU rfl))));generalize M2.remove aA.tmp=r3 at *
    obtain ⟨M3,e3⟩:=r3;dsimp only at hrm;clear h4 c2 HY HE;go_wp2_with fail;refine hrm.mono ?_;rintro ee w5 ⟨v,rfl,rfl,h5⟩;clear hrm;by_cases c4:e3=0
    ·have hb3:(e3 != 0)=false:=by rw [c4];rfl
     have HF:=uQ (HG.o.trans (adU c4));clear c4;go_wp2;go_ret;rw [HF.o];exact ⟨_,rfl,rfl,h5⟩
    ·have hb3:(e3 != 0)=true:=ahV.2 c4;have HF:=uQ (HG.o.trans (abL c4));clear c4;go_wp2;go_ret;rw [HF.o];exact ⟨_,rfl,rfl,h5⟩
   ·have hb3:(e2==11)=false:=ad3.2 c3;have HF:=uQ (show aA.write M s b=(M2,e2) from HY.o.trans (HE.o.trans ((abL c2).trans (abL c3))));clear c2 c3;go_wp2;go_ret;rw [HF.o];exact ⟨_,rfl,rfl,h4⟩
  subst c2;have hsy:=Uk ok2 h4 aA.tmp;have uU:=ok2.sync aA.tmp;have HG:=uQ (show aA.write M s b=(if (M2.sync aA.tmp).2=0 then (M2.sync aA.tmp).1.rename aA.tmp s else M2.sync aA.tmp) from HY.o.trans (HE.o.trans (adU rfl)));generalize M2.sync aA.tmp=r3 at *
  obtain ⟨M3,e3⟩:=r3;dsimp only at hsy uU;clear h4 HY HE;go_wp2_with fail;refine hsy.mono ?_;rintro ee w5 ⟨v,rfl,rfl,h5⟩;clear hsy;by_cases c4:e3=0;rotate_left
  ·have hb3:(e3 != 0)=true:=ahV.2 c4;have HF:=uQ (show aA.write M s b=(M3,e3) from HG.o.trans (abL c4));clear c4;go_wp2;go_ret;rw [HF.o];exact ⟨_,rfl,rfl,h5⟩
  subst c4;have hre:=LH uU oQ h5 aA.tmp s Hs.o;have HF:=uQ (show aA.write M s b=M3.rename aA.tmp s from HG.o.trans (adU rfl));generalize M3.rename aA.tmp s=r4 at *
  obtain ⟨M4,e4⟩:=r4;dsimp only at hre;clear h5;go_wp2_with fail;refine hre.mono ?_;rintro ee w6 ⟨v,rfl,rfl,h6⟩;clear hre;go_wp2;go_ret;rw [HF.o];exact ⟨_,rfl,rfl,h6⟩
 |true=>
  rw [ht]at hth;have hrm:=yI hM oQ h aA.tmp;have okR:=hM.remove aA.tmp;have HR:=uQ (show aA.write M s b=(if (M.remove aA.tmp).2=0 then (if ((M.remove aA.tmp).1.create aA.tmp).2=0 then aA.fill ((M.remove aA.tmp).1.create aA.tmp).1 s b else (M.remove aA.tmp).1.create aA.tmp) else M.remove aA.tmp) by unfold aA.write aA.oK;rw [ht];rfl);generalize M.remove aA.tmp=r0 at *
  obtain ⟨M0,e0⟩:=r0;dsimp only at hrm okR;clear ht;go_enter func117,ntmps117;go_wp2_with fail;refine hth.mono ?_;rintro ee w1 ⟨v,rfl,rfl,rfl⟩;clear hth;go_wp2_with fail;refine hrm.mono ?_;rintro ee w2 ⟨v,rfl,rfl,h2⟩;clear hrm h;by_cases c0:e0=0;rotate_left
  ·have hb0:(e0 != 0)=true:=ahV.2 c0;have HF:=uQ (show aA.write M s b=(M0,e0) from HR.o.trans (abL c0));clear c0;go_wp2;go_ret;rw [HF.o];exact ⟨_,rfl,rfl,h2⟩
  subst c0;have HX:=uQ (show aA.write M s b=(if (M0.create aA.tmp).2=0 then aA.fill (M0.create aA.tmp).1 s b else M0.create aA.tmp) from HR.o.trans (adU rfl));clear HR;have hcr:=zi okR oQ h2 aA.tmp aG;have ok1:=okR.create aA.tmp;generalize M0.create aA.tmp=r1 at *
  obtain ⟨M1,e1⟩:=r1;dsimp only at hcr ok1;clear h2;go_wp2_with fail;refine hcr.mono ?_;rintro ee w3 ⟨v,rfl,rfl,h3⟩;clear hcr;by_cases c1:e1=0;rotate_left
  ·have hb1:(e1 != 0)=true:=ahV.2 c1;have HF:=uQ (show aA.write M s b=(M1,e1) from HX.o.trans (abL c1));clear c1;go_wp2;go_ret;rw [HF.o];exact ⟨_,rfl,rfl,h3⟩
  subst c1;have HY:=uQ (show aA.write M s b=aA.fill M1 s b from HX.o.trans (adU rfl));clear HX;have hap:=Bg ok1 oQ h3 aA.tmp b Hr.o;have ok2:=ok1.append aA.tmp b
  have HE:=uQ (show aA.fill M1 s b=(if (M1.append aA.tmp b).2=0 then
    (if ((M1.append aA.tmp b).1.sync aA.tmp).2=0 then ((M1.append aA.tmp b).1.sync aA.tmp).1.rename aA.tmp s else (M1.append aA.tmp b).1.sync aA.tmp)
   else if (M1.append aA.tmp b).2=11 then
    (if ((M1.append aA.tmp b).1.remove aA.tmp).2=0 then (((M1.append aA.tmp b).1.remove aA.tmp).1,11) else (M1.append aA.tmp b).1.remove aA.tmp)
   else M1.append aA.tmp b) from rfl)
  generalize M1.append aA.tmp b=r2 at *
  obtain ⟨M2,e2⟩:=r2;dsimp only at hap ok2;clear h3;go_wp2_with fail;refine hap.mono ?_;rintro ee w4 ⟨v,rfl,rfl,h4⟩;clear hap;by_cases c2:e2=0;rotate_left
  ·have hb2:(e2 != 0)=true:=ahV.2 c2;by_cases c3:e2=11
   ·subst c3;have hrm:=yI ok2 oQ h4 aA.tmp;have HG:=uQ (show aA.write M s b=(if (M2.remove aA.tmp).2=0 then ((M2.remove aA.tmp).1,11) else M2.remove aA.tmp) from HY.o.trans (HE.o.trans ((abL c2).trans (adU rfl))));generalize M2.remove aA.tmp=r3 at *
    obtain ⟨M3,e3⟩:=r3;dsimp only at hrm;clear h4 c2 HY HE;go_wp2_with fail;refine hrm.mono ?_;rintro ee w5 ⟨v,rfl,rfl,h5⟩;clear hrm;by_cases c4:e3=0
    ·have hb3:(e3 != 0)=false:=by rw [c4];rfl
     have HF:=uQ (HG.o.trans (adU c4));clear c4;go_wp2;go_ret;rw [HF.o];exact ⟨_,rfl,rfl,h5⟩
    ·have hb3:(e3 != 0)=true:=ahV.2 c4;have HF:=uQ (HG.o.trans (abL c4));clear c4;go_wp2;go_ret;rw [HF.o];exact ⟨_,rfl,rfl,h5⟩
   ·have hb3:(e2==11)=false:=ad3.2 c3;have HF:=uQ (show aA.write M s b=(M2,e2) from HY.o.trans (HE.o.trans ((abL c2).trans (abL c3))));clear c2 c3;go_wp2;go_ret;rw [HF.o];exact ⟨_,rfl,rfl,h4⟩
  subst c2;have hsy:=Uk ok2 h4 aA.tmp;have uU:=ok2.sync aA.tmp;have HG:=uQ (show aA.write M s b=(if (M2.sync aA.tmp).2=0 then (M2.sync aA.tmp).1.rename aA.tmp s else M2.sync aA.tmp) from HY.o.trans (HE.o.trans (adU rfl)));generalize M2.sync aA.tmp=r3 at *
  obtain ⟨M3,e3⟩:=r3;dsimp only at hsy uU;clear h4 HY HE;go_wp2_with fail;refine hsy.mono ?_;rintro ee w5 ⟨v,rfl,rfl,h5⟩;clear hsy;by_cases c4:e3=0;rotate_left
  ·have hb3:(e3 != 0)=true:=ahV.2 c4;have HF:=uQ (show aA.write M s b=(M3,e3) from HG.o.trans (abL c4));clear c4;go_wp2;go_ret;rw [HF.o];exact ⟨_,rfl,rfl,h5⟩
  subst c4;have hre:=LH uU oQ h5 aA.tmp s Hs.o;have HF:=uQ (show aA.write M s b=M3.rename aA.tmp s from HG.o.trans (adU rfl));generalize M3.rename aA.tmp s=r4 at *
  obtain ⟨M4,e4⟩:=r4;dsimp only at hre;clear h5;go_wp2_with fail;refine hre.mono ?_;rintro ee w6 ⟨v,rfl,rfl,h6⟩;clear hre;go_wp2;go_ret;rw [HF.o];exact ⟨_,rfl,rfl,h6⟩
end
abbrev ou (b ps:Nat):aF:=pt b (.cells #[ptr ps] 103 (0,0))
theorem ah7 (f:ByteArray) (hf:f.size<=4000000000) (h:Sat w0 w (ou b3 ps::bZ ps n pi uv tv::F)) :
  Calls prog 119 #[.string f,ptr b3] w (aN λv w'=>v=.bool (aA.other n f)/\Sat w0 w' (ou b3 ps::bZ ps n pi uv tv::F)):=by
 have Ho:=uQ (show aA.other n f=((aA.number f).2 && (aA.number f).1 != n) from rfl);have hn:=QA f hf h;generalize aA.number f=q at *
 obtain ⟨x,t⟩:=q;dsimp only at hn;clear h;go_enter func119,ntmps119;go_wp2_with fail;refine hn.mono ?_;rintro ee w1 ⟨v,rfl,rfl,h1⟩;clear hn;cases t with
 |false=>
  go_wp2_with fail;go_ret;exact ⟨_,rfl,by rw [Ho.o];rfl,h1⟩
 |true=>
  have e1:w1.cell? ⟨b3,0,none⟩=some (.pointer (some ⟨ps,0,none⟩)):=h1.cellP aK 0 rfl;have e2:w1.cell? ⟨ps,0,none⟩=some (.int .i64 n):=h1.cellP aT 0 rfl;go_wp2_with fail;go_ret;exact ⟨_,rfl,by rw [Ho.o];rfl,h1⟩
theorem aj8 (hM:M.Ok K) (s:ByteArray) (b:aj.Bs):(aA.fill M s b).1.Ok (K+3):=by
 unfold aA.fill;split
 ·split
  ·exact ((hM.append _ _).sync _).rename _ _
  ·exact ((hM.append _ _).sync _).mono oQ
 ·split
  ·split
   ·exact ((hM.append _ _).remove _).mono oQ
   ·exact ((hM.append _ _).remove _).mono oQ
  ·exact (hM.append _ _).mono oQ
theorem aaZ (hM:M.Ok K) (s:ByteArray) (b:aj.Bs):(aA.write M s b).1.Ok (K+5):=by
 have hr:(aA.oK M).1.Ok (K+1):=by
  unfold aA.oK;split
  ·exact hM.remove _
  ·exact hM.mono oQ
 unfold aA.write;split
 ·split
  ·exact aj8 (hr.create _) _ _
  ·exact (hr.create _).mono oQ
 ·exact hr.mono oQ
theorem H6 {ld:ByteArray} (hl:ld.data.toList.length=4) (hg:ld.data.toList.all l9=true) (h1:0<=n) (h2:n<1048576):(aA.name ld n).size<=24/\((aA.name ld n).toList==[])=false:=by
 have h:=aA.G9 hl hg n h1 h2;unfold good at h;simp only [aeW,ad5]at h;refine ⟨h.1.2,?_⟩;rw [ad3,akk];intro e;have:=aeO List.length e;rw [ad6]at this;have h3:(aA.name ld n).size=0:=this;omega
theorem am3 (hM:M.Ok K) (hK:K+500<=1099511627776) (hno:∀ f∈M.list,f.size<=4000000000) (h:Sat w0 w (aI m M::ou b3 ps::bZ ps n pi uv tv::F)) :
  Calls prog 109 #[ptr m,.func (.func 119) #[] #[ptr b3]] w (aN λv w'=>v=errno (aA.sweep (aA.other n) M.list M).2/\Sat w0 w' (aI m (aA.sweep (aA.other n) M.list M).1::ou b3 ps::bZ ps n pi uv tv::F)):=by
 have hls:=KF hM h;have Hlen:=uQ (Q7 hM);have Hn:=uQ hno;have HK:=uQ hK;have HM:=uQ hM;clear hno hM hK;generalize M.list=l at *
 obtain ⟨R,hR⟩:∃ R,aA.sweep (aA.other n) l M=R:=⟨_,rfl⟩;have HR:=uQ hR;rw [hR];clear hR;go_enter func109,ntmps109;go_wp2_with fail;refine hls.mono ?_;rintro e w1 ⟨v,rfl,hS,_⟩;clear hls h;obtain ⟨a,c,rfl⟩:=RJ (Sat.rd hS);go_wp2_with fail
 go_loopg [11] l.length (λg iq wr=>∃ (i:Nat) (M2:ak),g=l.length-i/\i<=l.length/\iq=.int .i64 i/\(aA.sweep (aA.other n) (l.drop i) M2=R/\M2.Ok (K+i))/\Sat w0 wr (aC 9 1 (.slice a l.length c) (strs l)::aI m M2::ou b3 ps::bZ ps n pi uv tv::F))
 case atStart=>exact ⟨0,M,rfl,ad4 _,rfl,⟨by rw [apP];exact HR.o,HM.o⟩,hS⟩
 case round=>
  obtain ⟨i,M2,rfl,hi,rfl,⟨hsw,hok⟩,hS2⟩:=hrel;clear hS;by_cases hlt:i<l.length
  ·have c1:(i:Int)<(l.length:Int):=by omega
   have hwi:IntKind.i64.wrap ((i:Int)+1)=(i:Int)+1:=acO _ yS0;obtain ⟨s,hs⟩:∃ s,l[i]?=some s:=⟨_,aaJ hlt⟩;obtain ⟨bk,off,rfl,hc⟩:=H9 (Sat.rd hS2) hs;have hsz:=Hn.o s (acr hs);have hd:l.drop i=s::l.drop (i+1):=by
    rw [agf hlt];rw [aaJ hlt]at hs;cases hs;rfl
   rw [hd]at hsw;have aS:=uQ hlt;have bI:=uQ hok;have hcl:=ah7 s hsz (hS2.sb:Sat w0 wr (ou b3 ps::bZ ps n pi uv tv::aC 9 1 (.slice (some ⟨bk,off,none⟩) l.length c) (strs l)::aI m M2::F));cases hso:aA.other n s with
   |false=>
    have qG:=uQ (show aA.sweep (aA.other n) (l.drop (i+1)) M2=R by unfold aA.sweep at hsw;rwa [abL (by rw [hso];decide)]at hsw);rw [hso]at hcl;clear hs hlt hi hso hsw hd hok;go_wp2_with fail;refine hcl.mono ?_;rintro e w2 ⟨v,rfl,rfl,hS3⟩;clear hS2 hc hcl;go_wp2_with fail
    go_roundg (l.length-(i+1))
    case measure=>have:=aS.o;omega
    case rel=>exact ⟨i+1,M2,rfl,ad8 aS.o,by first|rfl|go_num,⟨qG.o,bI.o.mono oQ⟩,hS3.sb⟩
   |true=>
    have qG:=uQ (show (if (M2.remove s).2=0 then aA.sweep (aA.other n) (l.drop (i+1)) (M2.remove s).1 else M2.remove s)=R by unfold aA.sweep at hsw;rwa [adU hso]at hsw);rw [hso]at hcl;have xM:=uQ (λ(w':World) (hw:Sat w0 w' (aI m M2::ou b3 ps::bZ ps n pi uv tv::aC 9 1 (.slice (some ⟨bk,off,none⟩) l.length c) (strs l)::F))=>yI hok (by have:=HK.o;have:=Hlen.o;omega) hw s);have nZ:=uQ (hok.remove s);generalize M2.remove s=q at *
    obtain ⟨M3,q3⟩:=q;dsimp only at xM nZ qG;clear hlt hi hso hsw hd hok;go_wp2_with fail;refine hcl.mono ?_;rintro e w2 ⟨v,rfl,rfl,hS3⟩;clear hS2 hcl;have hS4:Sat w0 w2 (aC 9 1 (.slice (some ⟨bk,off,none⟩) l.length c) (strs l)::aI m M2::ou b3 ps::bZ ps n pi uv tv::F):=hS3.sb;obtain ⟨DX,off',Gv,hc'⟩:=H9 (Sat.rd hS4) hs;cases Gv;by_cases c3:q3=0
    ·have hb1:(q3 != 0)=false:=by rw [c3];rfl
     have ig:=uQ (show aA.sweep (aA.other n) (l.drop (i+1)) M3=R from (adU c3).symm.trans qG.o);clear c3 hc hs qG;go_wp2_with fail;refine (xM.o _ (hS3.sb)).mono ?_;rintro e w3 ⟨v,rfl,rfl,hS5⟩;clear hS3 hS4 hc';go_wp2_with fail
     go_roundg (l.length-(i+1))
     case measure=>have:=aS.o;omega
     case rel=>exact ⟨i+1,M3,rfl,ad8 aS.o,by first|rfl|go_num,⟨ig.o,nZ.o⟩,hS5.sb⟩
    ·have hb1:(q3 != 0)=true:=ahV.2 c3;have ig:=uQ (show (M3,q3)=R from (abL c3).symm.trans qG.o);clear c3 hc hs qG;go_wp2_with fail;refine (xM.o _ (hS3.sb)).mono ?_;rintro e w3 ⟨v,rfl,rfl,hS5⟩;clear hS3 hS4 hc';go_wp2_with fail;go_ret;exact ⟨_,rfl,by rw [<-ig.o];rfl,by rw [<-ig.o];exact hS5.sb⟩
  ·have c1:¬ (i:Int)<(l.length:Int):=by omega
   obtain rfl:i=l.length:=by omega
   have ig:=uQ (show (M2,0)=R by rw [ao4]at hsw;exact hsw);clear hlt hi hsw hok;go_wp2_with fail;go_ret;exact ⟨_,rfl,by rw [<-ig.o];rfl,by rw [<-ig.o];exact hS2.drop⟩
theorem ah8 (hM:M.Ok K) (hK:K+600<=1099511627776) (hn0:0<=n) (hn1:n<1048576) (kv:List (aj.Bs×Seg.aZ)) (hl:Tab.Lists mp kv) (hB:B<=13000000) (hk:∀ q∈kv,q.1.length=32) (us:List Rep.Use) (hoi:aO.Ok 3 true (kv.map Rep.jm)) (hou:aO.Ok 3 false (us.map Rep.jr))
  (bi bu:aj.Bs) (hbi:bi=aO.book Xx.sum aO.uP true (kv.map Rep.jm)) (hbu:bu=aO.book Xx.sum aO.uS false (us.map Rep.jr))
  (hno:∀ f∈(aA.write (aA.write M (aA.name aA.idx n) bi).1 (aA.name aA.use n) bu).1.dH.1.list,f.size<=4000000000)
  (h:Sat w0 w (bZ ps n pi uv tv::bf pi mp B::aC 205 3 uv (us.flatMap bJ)::aI m M::F)) :
  Calls prog 47 #[ptr m,ptr ps] w (aN λv w'=>v=errno (aA.save M n bi bu).2/\Sat w0 w' (bZ ps n pi uv tv::bf pi mp B::aC 205 3 uv (us.flatMap bJ)::aI m (aA.save M n bi bu).1::F)):=by
 obtain ⟨z1,z2⟩:=H6 (ld:=aA.idx) rfl aG hn0 hn1;obtain ⟨z3,_⟩:=H6 (ld:=aA.use) rfl aG hn0 hn1;have hkl:kv.length<=13000000:=by have:=hoi.len;rw [abl]at this;omega
 have HM:=uQ hM;have HK:=uQ hK;have Hl:=uQ hl;have HB:=uQ hB;have Hk:=uQ hk;have DL:=uQ hoi;have DN:=uQ hou;have Hno:=uQ hno;have qg:=uQ hkl;have Jd:=uQ hbi;have Hbu:=uQ hbu;have qH:=uQ z1;have Hz3:=uQ z3;have AO:=uQ (λ(w':World) (R:List aF) (hw:Sat w0 w' R)=>Kt n hw);have Hum:=uQ (λ(w':World) (R:List aF) (hw:Sat w0 w' R)=>MO n hw);have HS:=uQ (show aA.save M n bi bu=if (aA.write M (aA.name aA.idx n) bi).2=0 then aA.TU (aA.write M (aA.name aA.idx n) bi).1 n bu else aA.write M (aA.name aA.idx n) bi from rfl);clear hM hK hl hB hk hoi hou hno hbi hbu hkl z1 z3;generalize hni:aA.name aA.idx n=ni at *
 generalize hnu:aA.name aA.use n=nu at *
 have Hnu:=uQ hnu;clear hni hnu;go_enter func47,ntmps47;go_wp2_with (with_reducible apply fC);refine ⟨fB h ah ah ?_⟩;intro b3 w3 h3;replace h3:Sat w0 w3 (ou b3 ps::bZ ps n pi uv tv::bf pi mp B::aC 205 3 uv (us.flatMap bJ)::aI m M::F):=h3;clear h;have e1:w3.cell? ⟨b3,0,none⟩=some (.pointer (some ⟨ps,0,none⟩)):=h3.cellP aK 0 rfl;have e2:w3.cell? ⟨ps,1,none⟩=some (.pointer (some ⟨pi,0,none⟩)):=h3.cellP aT 1 rfl;have e3:w3.cell? ⟨ps,0,none⟩=some (.int .i64 n):=h3.cellP aT 0 rfl;go_wp2_with fail;refine (AO.o _ _ h3).mono ?_;rintro ee w4 ⟨v,rfl,rfl,h4⟩;clear h3 e1 e2 e3;have e1:w4.cell? ⟨b3,0,none⟩=some (.pointer (some ⟨ps,0,none⟩)):=h4.cellP aK 0 rfl;have e2:w4.cell? ⟨ps,1,none⟩=some (.pointer (some ⟨pi,0,none⟩)):=h4.cellP aT 1 rfl;go_wp2_with fail
 refine (ah5 Hl.o HB.o qg.o Hk.o (h4.sb:Sat w0 w4 (bf pi mp B::ou b3 ps::bZ ps n pi uv tv::aC 205 3 uv (us.flatMap bJ)::aI m M::F))).mono ?_;rintro ee w5 ⟨rv,rfl,h5⟩;clear h4 e1 e2;go_wp2_with fail;refine (afP kv Hk.o DL.o (λw hw=>Sat.rd hw) h5).mono ?_;rintro ee w6 ⟨v,rfl,iv,rfl,h6⟩;clear h5;rw [<-Jd.o]at h6;replace h6:Sat w0 w6 (jl iv bi::ou b3 ps::bZ ps n pi uv tv::bf pi mp B::aC 205 3 uv (us.flatMap bJ)::aI m M::F):=h6.sb;have e1:w6.cell? ⟨b3,0,none⟩=some (.pointer (some ⟨ps,0,none⟩)):=h6.cellP aT 0 rfl;have e2:w6.cell? ⟨ps,2,none⟩=some uv:=h6.cellP fE 2 rfl;go_wp2_with fail;refine (afY us DN.o (λw hw=>Sat.rd (hw.sb:Sat w0 w (aC 205 3 uv (us.flatMap bJ)::jl iv bi::ou b3 ps::bZ ps n pi uv tv::bf pi mp B::aI m M::F))) h6).mono ?_;rintro ee w7 ⟨v,rfl,uw,rfl,h7⟩;clear h6 e1 e2;rw [<-Hbu.o]at h7
 have e1:w7.cell? ⟨b3,0,none⟩=some (.pointer (some ⟨ps,0,none⟩)):=h7.cellP fE 0 rfl;have e3:w7.cell? ⟨ps,0,none⟩=some (.int .i64 n):=h7.cellP iw 0 rfl;go_wp2_with fail;refine (AO.o _ _ h7).mono ?_;rintro ee w8 ⟨v,rfl,rfl,h8⟩;clear h7 e1 e3;replace h8:Sat w0 w8 (aI m M::jl uw bu::jl iv bi::ou b3 ps::bZ ps n pi uv tv::bf pi mp B::aC 205 3 uv (us.flatMap bJ)::F):=h8.sb;have rO:=(RS.Si (h8.sb:Sat w0 w8 (jl iv bi::aI m M::jl uw bu::ou b3 ps::bZ ps n pi uv tv::bf pi mp B::aC 205 3 uv (us.flatMap bJ)::F)));obtain ⟨ia,il,ic,rfl,_,_⟩:=rO.cap;have hw1:=Zq HM.o yR0 ni yU0 bi (bv:= .slice ia il ic) (λw hw=>OM (hw.sb:Sat w0 w (jl (.slice ia il ic) bi::jl uw bu::ou b3 ps::bZ ps n pi uv tv::bf pi mp B::aC 205 3 uv (us.flatMap bJ)::F))) ⟨_,_,_,rfl⟩ h8;have ok1:=aaZ HM.o ni bi;clear rO;generalize aA.write M ni bi=r1 at *
 obtain ⟨M1,q1⟩:=r1;dsimp only at hw1 ok1 HS Hno;go_wp2_with fail;refine hw1.mono ?_;rintro ee w9 ⟨v,rfl,rfl,h9⟩;clear hw1 h8;by_cases c1:q1=0;rotate_left
 ·have hb1:(q1 != 0)=true:=ahV.2 c1;have HF:=uQ (show aA.save M n bi bu=(M1,q1) from HS.o.trans (abL c1));clear c1;go_wp2_with fail;go_ret;exact ⟨_,rfl,by rw [HF.o];rfl,by rw [HF.o];exact h9.sb⟩
 ·have Fh:=uQ (show aA.save M n bi bu=(if (aA.write M1 (aA.name aA.use n) bu).2=0 then aA.TV (aA.write M1 (aA.name aA.use n) bu).1 n else aA.write M1 (aA.name aA.use n) bu) from HS.o.trans (adU c1));rw [Hnu.o]at Fh;subst c1;have e1:w9.cell? ⟨b3,0,none⟩=some (.pointer (some ⟨ps,0,none⟩)):=h9.cellP iw 0 rfl;have e3:w9.cell? ⟨ps,0,none⟩=some (.int .i64 n):=h9.cellP (aU iw) 0 rfl;go_wp2_with fail;refine (Hum.o _ _ h9).mono ?_;rintro ee w10 ⟨v,rfl,rfl,h10⟩;clear h9 e1 e3;replace h10:Sat w0 w10 (aI m M1::jl uw bu::ou b3 ps::bZ ps n pi uv tv::bf pi mp B::aC 205 3 uv (us.flatMap bJ)::F):=h10.sb;have rO:=(RS.Si (h10.sb:Sat w0 w10 (jl uw bu::aI m M1::ou b3 ps::bZ ps n pi uv tv::bf pi mp B::aC 205 3 uv (us.flatMap bJ)::F)));obtain ⟨ua,ul,uc,rfl,_,_⟩:=rO.cap
  have hw2:=Zq ok1 yR0 nu (by have:=Hz3.o;omega) bu (bv:= .slice ua ul uc) (λw hw=>OM (hw.sb:Sat w0 w (jl (.slice ua ul uc) bu::ou b3 ps::bZ ps n pi uv tv::bf pi mp B::aC 205 3 uv (us.flatMap bJ)::F))) ⟨_,_,_,rfl⟩ h10;have ok2:=aaZ ok1 nu bu;clear rO HS;generalize aA.write M1 nu bu=r2 at *
  obtain ⟨M2,q2⟩:=r2;dsimp only at hw2 ok2 Fh Hno;go_wp2_with fail;refine hw2.mono ?_;rintro ee jZ ⟨v,rfl,rfl,h11⟩;clear hw2 h10;by_cases c2:q2=0;rotate_left
  ·have hb1:(q2 != 0)=true:=ahV.2 c2;have HF:=uQ (show aA.save M n bi bu=(M2,q2) from Fh.o.trans (abL c2));clear c2;go_wp2_with fail;go_ret;exact ⟨_,rfl,by rw [HF.o];rfl,by rw [HF.o];exact h11.sb⟩
  ·have HS2:=uQ (show aA.save M n bi bu=(if M2.dH.2=0 then aA.sweep (aA.other n) M2.dH.1.list M2.dH.1 else M2.dH) from Fh.o.trans (adU c2));subst c2;have hsd:=MK ok2 h11;have uU:=ok2.dH;clear Fh;generalize M2.dH=r3 at *
   obtain ⟨M3,q3⟩:=r3;dsimp only at hsd uU HS2 Hno;go_wp2_with fail;refine hsd.mono ?_;rintro ee w12 ⟨v,rfl,rfl,h12⟩;clear hsd h11;by_cases c3:q3=0;rotate_left
   ·have hb1:(q3 != 0)=true:=ahV.2 c3;have HF:=uQ (show aA.save M n bi bu=(M3,q3) from HS2.o.trans (abL c3));clear c3;go_wp2_with fail;go_ret;exact ⟨_,rfl,by rw [HF.o];rfl,by rw [HF.o];exact h12.sb⟩
   ·have HF:=uQ (show aA.save M n bi bu=aA.sweep (aA.other n) M3.list M3 from HS2.o.trans (adU c3));subst c3;have hsw:=am3 uU yR0 Hno.o (h12.sb:Sat w0 w12 (aI m M3::ou b3 ps::bZ ps n pi uv tv::bf pi mp B::aC 205 3 uv (us.flatMap bJ)::F));generalize aA.sweep (aA.other n) M3.list M3=r4 at *
    obtain ⟨M4,q4⟩:=r4;dsimp only at hsw HF;go_wp2_with fail;refine hsw.mono ?_;rintro ee ku ⟨v,rfl,rfl,h13⟩;clear hsw;go_wp2_with fail;go_ret;exact ⟨_,rfl,by rw [HF.o];rfl,by rw [HF.o];exact h13.sb⟩
theorem Iy {K:Nat}{M:ak} (h:M.Ok K) (ho:M.off=false):M.size ByteArray.empty=(0,9):=by
 have hn:bH M.now ByteArray.empty=none:=by
  cases hi:bH M.now ByteArray.empty with
  |none=>rfl
  |some i=>exact absurd rfl (h.fU.ne _ (ji hi))
 unfold ak.size;rw [ho,hn];rfl
section
variable {r0 E n:Nat}{o oc:aj.Bs->Option aj.Bs}{k:aj.Bs}
end
section
variable {bm:Nat}{lv:Value}{f:Int->Int}
theorem ahZ (q:Seg.aZ) (hb:IntKind.i64.wrap (f q.seg-q.at_)=f q.seg-q.at_) (h:Sat w0 w (jX bm f::F)) :
  Calls prog 148 #[.agg (bT q).toArray,.map (some bm)] w (aN λv w'=>v=.bool (aA.lies q f)/\Sat w0 w' (jX bm f::F)):=by
 have Hf:=uQ (show aA.lies q f=(decide (8<=q.at_) && (decide (41<=q.size) && decide (q.size<=f q.seg-q.at_))) from rfl);go_enter func148,ntmps148;go_wp2_with (with_reducible apply fC);refine ⟨fB h ah ah ?_⟩;intro b2 w2 h2;clear h;have e0:w2.cell? ⟨b2,0,none⟩=some (.int .i64 q.seg):=h2.cellP aK 0 rfl;have e1:w2.cell? ⟨b2,1,none⟩=some (.int .i64 q.at_):=h2.cellP aK 1 rfl;have e2:w2.cell? ⟨b2,2,none⟩=some (.int .i64 q.size):=h2.cellP aK 2 rfl;have hlk:=Kr q.seg (h2.pick aT);by_cases c1:8<=q.at_
 ·by_cases c2:41<=q.size
  ·by_cases c3:q.size<=f q.seg-q.at_
   ·have Hr:=uQ (Hf.o.trans (by rw [aem c1,aem c2,aem c3];rfl:_=true));go_wp2_with fail;go_ret;exact ⟨_,rfl,by rw [Hr.o];rfl,h2.drop⟩
   ·have Hr:=uQ (Hf.o.trans (by rw [aem c1,aem c2,aea c3];rfl:_=false));go_wp2_with fail;go_ret;exact ⟨_,rfl,by rw [Hr.o];rfl,h2.drop⟩
  ·have Hr:=uQ (Hf.o.trans (by rw [aem c1,aea c2];rfl:_=false));clear e0 hlk;go_wp2_with fail;go_ret;exact ⟨_,rfl,by rw [Hr.o];rfl,h2.drop⟩
 ·have Hr:=uQ (Hf.o.trans (by rw [aea c1];rfl:_=false));clear e0 e2 hlk;go_wp2_with fail;go_ret;exact ⟨_,rfl,by rw [Hr.o];rfl,h2.drop⟩
theorem ahR {sz:Int->Int}{us:List Rep.Use}{ss:List Int}{i:Nat}{s:Int} (h:ss[i]?=some s):aA.wH sz n us (ss.drop i) i=(if n<s then aA.fin n us i else match us[i]? with
  |none=>false
  |some u=>if aA.JV sz s u=true then aA.wH sz n us (ss.drop (i+1)) (i+1) else false):=by
 obtain ⟨hi,rfl⟩:=acZ.1 h;rw [agf hi]
 rfl
theorem ahQ (us:List Rep.Use) (rU:us.length<=1073741824) (hL:L.Ok) (hr:Ro w0 F (aW 3 lv (us.flatMap bJ))) (h:Sat w0 w (aV p m L::F)) :
  Calls prog 146 #[ptr p,lv,.int .i64 n] w (aN λv w'=>v=.bool (aA.fits L us n)/\Sat w0 w' (aV p m L::F)):=by
 obtain ⟨la,lc,rfl⟩:=iP (λu _=>tN u) (hr w h.drop) aG;have hse:=En hL h;have qh:=uQ (show L.aH.length<=1073741824 from by unfold Seg.Log.aH;rw [abl];have:=hL.len;omega);have NC:=uQ (λ(w':World) (R:List aF) (hw:Sat w0 w' (aV p m L::R))=>λ(s:Int)=>ajo hL s hw);have Hr:=uQ hr;have rF:=uQ rU;have HW0:=uQ (show aA.wH L.size n us (L.aH.drop 0) 0=aA.fits L us n from rfl);generalize aA.fits L us n=W at *
 clear hr rU hL;go_enter func146,ntmps146;go_wp2_with fail;refine hse.mono ?_;rintro ee w1 ⟨v,rfl,h1⟩;clear hse h;obtain ⟨sa,sc,rfl⟩:=QM (Sat.rd h1);go_wp2_with fail
 go_loopg [7,13] L.aH.length (λg kq iq wr=>∃ i:Nat,g=L.aH.length-i/\i<=L.aH.length/\kq=.int .i64 i/\iq=.int .i64 i/\aA.wH L.size n us (L.aH.drop i) i=W/\Sat w0 wr (aC 3 1 (.slice sa L.aH.length sc) (ints L.aH)::aV p m L::F))
 case atStart=>exact ⟨0,rfl,ad4 _,rfl,rfl,HW0.o,h1⟩
 case round=>
  obtain ⟨i,rfl,hi,rfl,rfl,hW,hS⟩:=hrel;clear h1 HW0;by_cases hlt:i<L.aH.length;rotate_left
  ·as_aux_lemma=>
   have c1:¬ (i:Int)<(L.aH.length:Int):=oQ;have HW:=uQ (show W=aA.fin n us i from by rw [aeI oQ]at hW;exact hW.symm);clear hW hlt hi;by_cases e1:i=us.length;rotate_left
   ·have hb:((i:Int)==(us.length:Int))=false:=by rw [ad3];omega
    have Hr:=uQ (HW.o.trans (by unfold aA.fin;rw [aea e1];rfl:_=false));clear e1;go_wp2_with fail;go_ret;exact ⟨_,rfl,by rw [Hr.o];rfl,hS.drop⟩
   ·rcases i with _|k
    ·have hb:((0:Int)==(us.length:Int))=true:=by rw [ako];omega
     have hbz:¬ (0:Int)<0:=by decide
     (try have ah9:=(show wr.cell? ⟨sb,so,none⟩=some (.int .i64 s) from hsc))
     (try have c10:(0:Int)<(L.aH.length:Int):=c1)
     have Hr:=uQ (HW.o.trans (by unfold aA.fin;rw [aem e1];rfl:_=false));clear e1;go_wp2_with fail;go_ret;exact ⟨_,rfl,by rw [Hr.o];rfl,hS.drop⟩
    ·have hb:((k:Int)+1==(us.length:Int))=true:=by rw [ako];omega
     have ck:k<us.length:=oQ;have hck:(k:Int)<(us.length:Int):=oQ;have hc0:(0:Int)<(k:Int)+1:=oQ;have hwk:IntKind.i64.wrap ((k:Int)+1-1)=(k:Int):=by rw [Int.add_sub_cancel];exact acO _ zI0
     have aio:IntKind.i64.wrap (k:Int)=(k:Int):=acO _ zI0;obtain ⟨u,hu⟩:∃ u,us[k]?=some u:=⟨_,aaJ ck⟩;have hgd:us.getD k ⟨0,0,0⟩=u:=by rw [adV,hu];rfl
     obtain ⟨bk,off,c',hsv,hcell⟩:=iL (f:=bJ) (k:=3) (λu _=>rfl) (Hr.o _ hS.drop.drop) hu aG;cases hsv;have e0:=hcell 0 _ rfl;rw [aml]at e0;by_cases c2:u.seg=n
     ·have jw:=uQ (HW.o.trans (by unfold aA.fin;rw [aem e1,Nat.add_sub_cancel,hgd,aem c2,aem (Nat.succ_pos k)];rfl:_=true));have hb2:(u.seg==n)=true:=ako.2 c2;clear e1 c2 hgd hu hcell ck;go_wp2_with fail;go_ret;exact ⟨_,rfl,by rw [jw.o];rfl,hS.drop⟩
     ·have jw:=uQ (HW.o.trans (by unfold aA.fin;rw [aem e1,Nat.add_sub_cancel,hgd,aea c2,aem (Nat.succ_pos k)];rfl:_=false));have hb2:(u.seg==n)=false:=ad3.2 c2;clear e1 c2 hgd hu hcell ck;go_wp2_with fail;go_ret;exact ⟨_,rfl,by rw [jw.o];rfl,hS.drop⟩
  have c1:(i:Int)<(L.aH.length:Int):=oQ;have hwi:IntKind.i64.wrap ((i:Int)+1)=(i:Int)+1:=acO _ (by have:=qh.o;omega);obtain ⟨s,hs⟩:∃ s,L.aH[i]?=some s:=⟨_,aaJ hlt⟩;obtain ⟨sb,so,scc,hsv,hsc⟩:=Em (Sat.rd hS) hs;cases hsv;have hstep:=ahR (n:=n) (sz:=L.size) (us:=us) hs;rw [hW]at hstep;have aS:=uQ hlt;clear hW hs hlt hi;by_cases cn:n<s
  ·as_aux_lemma=>
   have HW:=uQ (show W=aA.fin n us i from by rw [adU cn]at hstep;exact hstep);clear hstep;by_cases e1:i=us.length;rotate_left
   ·have hb:((i:Int)==(us.length:Int))=false:=by rw [ad3];omega
    have Hr:=uQ (HW.o.trans (by unfold aA.fin;rw [aea e1];rfl:_=false));clear e1;go_wp2_with fail;go_ret;exact ⟨_,rfl,by rw [Hr.o];rfl,hS.drop⟩
   ·rcases i with _|k
    ·have hb:((0:Int)==(us.length:Int))=true:=by rw [ako];omega
     have hbz:¬ (0:Int)<0:=by decide
     (try have ah9:=(show wr.cell? ⟨sb,so,none⟩=some (.int .i64 s) from hsc))
     (try have c10:(0:Int)<(L.aH.length:Int):=c1)
     have Hr:=uQ (HW.o.trans (by unfold aA.fin;rw [aem e1];rfl:_=false));clear e1;go_wp2_with fail;go_ret;exact ⟨_,rfl,by rw [Hr.o];rfl,hS.drop⟩
    ·have hb:((k:Int)+1==(us.length:Int))=true:=by rw [ako];omega
     have ck:k<us.length:=oQ;have hck:(k:Int)<(us.length:Int):=oQ;have hc0:(0:Int)<(k:Int)+1:=oQ;have hwk:IntKind.i64.wrap ((k:Int)+1-1)=(k:Int):=by rw [Int.add_sub_cancel];exact acO _ zI0
     have aio:IntKind.i64.wrap (k:Int)=(k:Int):=acO _ zI0;obtain ⟨u,hu⟩:∃ u,us[k]?=some u:=⟨_,aaJ ck⟩;have hgd:us.getD k ⟨0,0,0⟩=u:=by rw [adV,hu];rfl
     obtain ⟨bk,off,c',hsv,hcell⟩:=iL (f:=bJ) (k:=3) (λu _=>rfl) (Hr.o _ hS.drop.drop) hu aG;cases hsv;have e0:=hcell 0 _ rfl;rw [aml]at e0;by_cases c2:u.seg=n
     ·have jw:=uQ (HW.o.trans (by unfold aA.fin;rw [aem e1,Nat.add_sub_cancel,hgd,aem c2,aem (Nat.succ_pos k)];rfl:_=true));have hb2:(u.seg==n)=true:=ako.2 c2;clear e1 c2 hgd hu hcell ck;go_wp2_with fail;go_ret;exact ⟨_,rfl,by rw [jw.o];rfl,hS.drop⟩
     ·have jw:=uQ (HW.o.trans (by unfold aA.fin;rw [aem e1,Nat.add_sub_cancel,hgd,aea c2,aem (Nat.succ_pos k)];rfl:_=false));have hb2:(u.seg==n)=false:=ad3.2 c2;clear e1 c2 hgd hu hcell ck;go_wp2_with fail;go_ret;exact ⟨_,rfl,by rw [jw.o];rfl,hS.drop⟩
  rw [abL cn]at hstep;by_cases hu:i<us.length;rotate_left
  ·as_aux_lemma=>
   have jw:=uQ (show W=false from by rw [aiT oQ]at hstep;exact hstep);have cu:(us.length:Int)<=(i:Int):=oQ;have Xo:us.length<=i:=oQ;clear hstep hu;go_wp2_with fail;have hSd:=hS.drew;have hG:True:=trivial;refine eF [35,36] (λw'=>True) au ?_;refine rP 0 ?_ (y:=bD);refine rP 1 ?_ (y:=bD);refine rP 2 ?_ (y:=(xw ay bY));refine rP 3 ?_ (y:=lZ);refine rP 4 ?_ (y:=bD);refine eu 5 ay au bP ah gQ ?_;refine eu 6 ay au bP ah gQ ?_;refine eu 7 ay au bP ah gQ ?_;refine eu 8 ay au bP ah gQ ?_;refine eu 9 ay au bP ah gQ ?_;refine eu 10 ay au bP ah gQ ?_;refine eu 11 ay au bP ah gQ ?_;refine rP 12 ?_ (y:=(ny ah ay ay));refine rP 13 ?_ (y:=bD);refine eu 14 ay au bP ah gQ ?_;refine eu 15 ay au bP ah gQ ?_;refine eu 16 ay au bP ah gQ ?_;refine eu 17 ay au bP ah gQ ?_;refine eu 18 ay au bP ah gQ ?_;refine eu 19 ay au bP ah gQ ?_;refine eu 20 ay au bP ah gQ ?_;refine eu 21 ay au bP ah gQ ?_
   refine eu 22 ay au bP ah gQ ?_;refine rP 23 ?_ (y:=(ny ah ay ay));refine rP 24 ?_ (y:=bD);refine eu 25 ay au bP ah gQ ?_;refine eu 26 ay au bP ah gQ ?_;refine eu 27 ay au bP ah gQ ?_;refine eu 28 ay au bP ah gQ ?_;refine eu 29 ay au bP ah gQ ?_;refine eu 30 ay au bP ah gQ ?_;refine eu 31 ay au bP ah gQ ?_;refine eu 32 ay au bP ah gQ ?_;refine eu 33 ay au bP ah gQ ?_;refine eu 34 ay au bP ah gQ ?_;refine eu 35 ay au bP ah gQ ?_;refine rP 36 ?_ (y:=(ny ah ay ay));refine dX au ?_
   try simp only [jI]
   try go_frame
   go_wp2_with fail;go_ret;exact ⟨_,rfl,by rw [jw.o];rfl,hSd.drop⟩
  have cu:¬ (us.length:Int)<=(i:Int):=oQ;have Xo:¬ us.length<=i:=oQ;have cuD:decide (us.length<=i)=false:=aea Xo;have aoO:decide ((us.length:Int)<=(i:Int))=false:=aea cu;have cu2:(i:Int)<(us.length:Int):=oQ;obtain ⟨u,hx⟩:∃ u,us[i]?=some u:=⟨_,aaJ hu⟩;rw [hx]at hstep;dsimp only at hstep;obtain ⟨bk,off,c',hlv,hcell⟩:=iL (f:=bJ) (k:=3) (λu _=>rfl) (Hr.o _ hS.drop.drop) hx aG;cases hlv
  have HG:=uQ (λ(w':World) (hw:Sat w0 w' (aC 3 1 (.slice (some ⟨sb,so,none⟩) L.aH.length sc) (ints L.aH)::aV p m L::F))=>show w'.cell? ⟨bk,off+i*3,none⟩=some (.int .i64 u.seg)/\w'.cell? ⟨bk,off+i*3+1,none⟩=some (.int .i64 u.size)/\w'.cell? ⟨bk,off+i*3+2,none⟩=some (.int .i64 u.live) from by
   obtain ⟨_,_,_,e,hc⟩:=iL (f:=bJ) (k:=3) (λu _=>rfl) (Hr.o _ hw.drop.drop) hx aG;cases e;exact ⟨hc 0 _ rfl,hc 1 _ rfl,hc 2 _ rfl⟩)
  have hfu:aA.JV L.size s u=(decide (u.seg=s) && (decide (u.size=L.size s) && decide (u.live<=u.size))):=rfl;clear hcell hx hu;by_cases c2:u.seg=s;rotate_left
  ·as_aux_lemma=>
   have jw:=uQ (show W=false from by rw [hfu,aea c2]at hstep;exact hstep);have hb:(u.seg != s)=true:=ahV.2 c2;clear hstep hfu c2;go_wp2_with fail;have hSd:=hS.drew;refine eF [35,36] (λw'=>w'.cell? ⟨bk,off+i*3,none⟩=some (.int .i64 u.seg)/\w'.cell? ⟨bk,off+i*3+1,none⟩=some (.int .i64 u.size)/\w'.cell? ⟨bk,off+i*3+2,none⟩=some (.int .i64 u.live)) au ?_;have hG:=HG.o _ hSd;refine rP 0 ?_ (y:=bD);refine rP 1 ?_ (y:=bD);refine rP 2 ?_ (y:=(xw ay bY));refine rP 3 ?_ (y:=lZ);refine rP 4 ?_ (y:=bD);refine rP 5 ?_ (y:=(iI ah ay));refine rP 6 ?_ (y:=(iI ah ay));refine rP 7 ?_ (y:=(qA ah ay ay bY));refine rP 8 ?_ (y:=(ng ah ay bY));refine gJ 9 ay au bP (mX ah ay au yC0) aQ gQ ?_;refine rP 10 ?_ (y:=(iI ah ay));refine rP 11 ?_ (y:=(qy ah ay ay bY));refine rP 12 ?_ (y:=(ny ah ay ay));refine rP 13 ?_ (y:=bD);refine eu 14 ay au bP ah gQ ?_;refine eu 15 ay au bP ah gQ ?_
   refine eu 16 ay au bP ah gQ ?_;refine eu 17 ay au bP ah gQ ?_;refine eu 18 ay au bP ah gQ ?_;refine eu 19 ay au bP ah gQ ?_;refine eu 20 ay au bP ah gQ ?_;refine eu 21 ay au bP ah gQ ?_;refine eu 22 ay au bP ah gQ ?_;refine rP 23 ?_ (y:=(ny ah ay ay));refine rP 24 ?_ (y:=bD);refine eu 25 ay au bP ah gQ ?_;refine eu 26 ay au bP ah gQ ?_;refine eu 27 ay au bP ah gQ ?_;refine eu 28 ay au bP ah gQ ?_;refine eu 29 ay au bP ah gQ ?_;refine eu 30 ay au bP ah gQ ?_;refine eu 31 ay au bP ah gQ ?_;refine eu 32 ay au bP ah gQ ?_;refine eu 33 ay au bP ah gQ ?_;refine eu 34 ay au bP ah gQ ?_;refine eu 35 ay au bP ah gQ ?_;clear hG;refine rP 36 ?_ (y:=(ny ah ay ay));refine dX au ?_
   try simp only [jI]
   try go_frame
   go_wp2_with fail;go_ret;exact ⟨_,rfl,by rw [jw.o];rfl,hSd.drop⟩
  have hb1:(u.seg != s)=false:=by rw [c2];exact bne_self_eq_false ..
  rw [aem c2,Bool.true_and]at hfu;clear c2;by_cases c3:u.size=L.size s;rotate_left
  ·as_aux_lemma=>
   have jw:=uQ (show W=false from by rw [hfu,aea c3]at hstep;exact hstep);have hb:(u.size != L.size s)=true:=ahV.2 c3;clear hstep hfu c3;go_wp2_with fail;have hSd:=hS.drew;refine eF [35,36] (λw'=>w'.cell? ⟨bk,off+i*3,none⟩=some (.int .i64 u.seg)/\w'.cell? ⟨bk,off+i*3+1,none⟩=some (.int .i64 u.size)/\w'.cell? ⟨bk,off+i*3+2,none⟩=some (.int .i64 u.live)) au ?_;have hG:=HG.o _ hSd;refine rP 0 ?_ (y:=bD);refine rP 1 ?_ (y:=bD);refine rP 2 ?_ (y:=(xw ay bY));refine rP 3 ?_ (y:=lZ);refine rP 4 ?_ (y:=bD);refine rP 5 ?_ (y:=(iI ah ay));refine rP 6 ?_ (y:=(iI ah ay));refine rP 7 ?_ (y:=(qA ah ay ay bY));refine rP 8 ?_ (y:=(ng ah ay bY));refine gJ 9 ay au bP (mX ah ay au yC0) aQ gQ ?_;refine rP 10 ?_ (y:=(iI ah ay));refine rP 11 ?_ (y:=(qy ah ay ay bY));refine rP 12 ?_ (y:=(ny ah ay ay));refine rP 13 ?_ (y:=bD);refine rP 14 ?_ (y:=(iI ah ay))
   refine rP 15 ?_ (y:=(iI ah ay));refine rP 16 ?_ (y:=(qA ah ay ay bY));refine rP 17 ?_ (y:=(ng ah ay bY));refine gJ 18 ay au bP (mX ah ay au yC0) aQ gQ ?_;refine rP 19 ?_ (y:=(iI ah ay));refine rP 20 ?_ (y:=(iI ah ay));refine cZ 21 ay au (λK hK=>?_);refine F9 [ptr p,.int .i64 s] ah au ah ?_;refine (NC.o _ _ (hSd.sb:Sat w0 _ (aV p m L::aC 3 1 (.slice (some ⟨sb,so,none⟩) L.aH.length sc) (ints L.aH)::F)) s).mono ?_;rintro e lH ⟨v,rfl,rfl,h22⟩;have h23:Sat w0 lH (aC 3 1 (.slice (some ⟨sb,so,none⟩) L.aH.length sc) (ints L.aH)::aV p m L::F):=h22.sb;refine hK _ _ (.inr (.inl (HG.o _ h23))) ?_;clear hK hSd;generalize L.size s=z at *
   refine rP 22 ?_ (y:=(qy ah ay ay bY));refine rP 23 ?_ (y:=(ny ah ay ay));refine rP 24 ?_ (y:=bD);refine eu 25 ay au bP ah gQ ?_;refine eu 26 ay au bP ah gQ ?_;refine eu 27 ay au bP ah gQ ?_;refine eu 28 ay au bP ah gQ ?_;refine eu 29 ay au bP ah gQ ?_;refine eu 30 ay au bP ah gQ ?_;refine eu 31 ay au bP ah gQ ?_;refine eu 32 ay au bP ah gQ ?_;refine eu 33 ay au bP ah gQ ?_;refine eu 34 ay au bP ah gQ ?_;refine eu 35 ay au bP ah gQ ?_;refine rP 36 ?_ (y:=(ny ah ay ay));refine dX au ?_
   try simp only [jI]
   try go_frame
   go_wp2_with fail;go_ret;exact ⟨_,rfl,by rw [jw.o];rfl,h23.drop⟩
  have hb2:(u.size != L.size s)=false:=by rw [c3];exact bne_self_eq_false ..
  rw [aem c3,Bool.true_and]at hfu;by_cases c4:u.live<=u.size;rotate_left
  ·as_aux_lemma=>
   have jw:=uQ (show W=false from by rw [hfu,aea c4]at hstep;exact hstep);have c5:u.size<u.live:=oQ;clear hstep hfu c3 c4;go_wp2_with fail;have hSd:=hS.drew;refine eF [35,36] (λw'=>w'.cell? ⟨bk,off+i*3,none⟩=some (.int .i64 u.seg)/\w'.cell? ⟨bk,off+i*3+1,none⟩=some (.int .i64 u.size)/\w'.cell? ⟨bk,off+i*3+2,none⟩=some (.int .i64 u.live)) au ?_;have hG:=HG.o _ hSd;refine rP 0 ?_ (y:=bD);refine rP 1 ?_ (y:=bD);refine rP 2 ?_ (y:=(xw ay bY));refine rP 3 ?_ (y:=lZ);refine rP 4 ?_ (y:=bD);refine rP 5 ?_ (y:=(iI ah ay));refine rP 6 ?_ (y:=(iI ah ay));refine rP 7 ?_ (y:=(qA ah ay ay bY));refine rP 8 ?_ (y:=(ng ah ay bY));refine gJ 9 ay au bP (mX ah ay au yC0) aQ gQ ?_;refine rP 10 ?_ (y:=(iI ah ay));refine rP 11 ?_ (y:=(qy ah ay ay bY));refine rP 12 ?_ (y:=(ny ah ay ay));refine rP 13 ?_ (y:=bD);refine rP 14 ?_ (y:=(iI ah ay));refine rP 15 ?_ (y:=(iI ah ay))
   refine rP 16 ?_ (y:=(qA ah ay ay bY));refine rP 17 ?_ (y:=(ng ah ay bY));refine gJ 18 ay au bP (mX ah ay au yC0) aQ gQ ?_;refine rP 19 ?_ (y:=(iI ah ay));refine rP 20 ?_ (y:=(iI ah ay));refine cZ 21 ay au (λK hK=>?_);refine F9 [ptr p,.int .i64 s] ah au ah ?_;refine (NC.o _ _ (hSd.sb:Sat w0 _ (aV p m L::aC 3 1 (.slice (some ⟨sb,so,none⟩) L.aH.length sc) (ints L.aH)::F)) s).mono ?_;rintro e lH ⟨v,rfl,rfl,h22⟩;have h23:Sat w0 lH (aC 3 1 (.slice (some ⟨sb,so,none⟩) L.aH.length sc) (ints L.aH)::aV p m L::F):=h22.sb;refine hK _ _ (.inr (.inl (HG.o _ h23))) ?_;clear hK hSd;generalize L.size s=z at *
   have hG2:=HG.o _ h23;refine rP 22 ?_ (y:=(qy ah ay ay bY));refine rP 23 ?_ (y:=(ny ah ay ay));refine rP 24 ?_ (y:=bD);refine rP 25 ?_ (y:=(iI ah ay));refine rP 26 ?_ (y:=(iI ah ay));refine rP 27 ?_ (y:=(qA ah ay ay bY));refine rP 28 ?_ (y:=(ng ah ay bY));refine gJ 29 ay au bP (mX ah ay au yC0) aQ gQ ?_;refine rP 30 ?_ (y:=(iI ah ay));refine rP 31 ?_ (y:=(iI ah ay));refine rP 32 ?_ (y:=(qA ah ay ay bY));refine rP 33 ?_ (y:=(ng ah ay bY));refine gJ 34 ay au bP (mX ah ay au yC0) aQ gQ ?_;clear hG hG2;refine rP 35 ?_ (y:=(qy ah ay ay bY));refine rP 36 ?_ (y:=(ny ah ay ay));refine dX au ?_
   try simp only [jI]
   try go_frame
   go_wp2_with fail;go_ret;exact ⟨_,rfl,by rw [jw.o];rfl,h23.drop⟩
  ·as_aux_lemma=>
   have HW:=uQ (show aA.wH L.size n us (L.aH.drop (i+1)) (i+1)=W from by rw [hfu,aem c4]at hstep;exact hstep.symm);have c5:¬ u.size<u.live:=oQ;clear hstep hfu c3 c4;go_wp2_with fail;have hSd:=hS.drew;refine eF [35,36] (λw'=>w'.cell? ⟨bk,off+i*3,none⟩=some (.int .i64 u.seg)/\w'.cell? ⟨bk,off+i*3+1,none⟩=some (.int .i64 u.size)/\w'.cell? ⟨bk,off+i*3+2,none⟩=some (.int .i64 u.live)) au ?_;have hG:=HG.o _ hSd;refine rP 0 ?_ (y:=bD);refine rP 1 ?_ (y:=bD);refine rP 2 ?_ (y:=(xw ay bY));refine rP 3 ?_ (y:=lZ);refine rP 4 ?_ (y:=bD);refine rP 5 ?_ (y:=(iI ah ay));refine rP 6 ?_ (y:=(iI ah ay));refine rP 7 ?_ (y:=(qA ah ay ay bY));refine rP 8 ?_ (y:=(ng ah ay bY));refine gJ 9 ay au bP (mX ah ay au yC0) aQ gQ ?_;refine rP 10 ?_ (y:=(iI ah ay));refine rP 11 ?_ (y:=(qy ah ay ay bY));refine rP 12 ?_ (y:=(ny ah ay ay));refine rP 13 ?_ (y:=bD)
   refine rP 14 ?_ (y:=(iI ah ay));refine rP 15 ?_ (y:=(iI ah ay));refine rP 16 ?_ (y:=(qA ah ay ay bY));refine rP 17 ?_ (y:=(ng ah ay bY));refine gJ 18 ay au bP (mX ah ay au yC0) aQ gQ ?_;refine rP 19 ?_ (y:=(iI ah ay));refine rP 20 ?_ (y:=(iI ah ay));refine cZ 21 ay au (λK hK=>?_);refine F9 [ptr p,.int .i64 s] ah au ah ?_;refine (NC.o _ _ (hSd.sb:Sat w0 _ (aV p m L::aC 3 1 (.slice (some ⟨sb,so,none⟩) L.aH.length sc) (ints L.aH)::F)) s).mono ?_;rintro e lH ⟨v,rfl,rfl,h22⟩;have h23:Sat w0 lH (aC 3 1 (.slice (some ⟨sb,so,none⟩) L.aH.length sc) (ints L.aH)::aV p m L::F):=h22.sb;refine hK _ _ (.inr (.inl (HG.o _ h23))) ?_;clear hK hSd;have hG2:=HG.o _ h23;refine rP 22 ?_ (y:=(qy ah ay ay bY));refine rP 23 ?_ (y:=(ny ah ay ay));refine rP 24 ?_ (y:=bD);refine rP 25 ?_ (y:=(iI ah ay));refine rP 26 ?_ (y:=(iI ah ay));refine rP 27 ?_ (y:=(qA ah ay ay bY))
   refine rP 28 ?_ (y:=(ng ah ay bY));refine gJ 29 ay au bP (mX ah ay au yC0) aQ gQ ?_;refine rP 30 ?_ (y:=(iI ah ay));refine rP 31 ?_ (y:=(iI ah ay));refine rP 32 ?_ (y:=(qA ah ay ay bY));refine rP 33 ?_ (y:=(ng ah ay bY));refine gJ 34 ay au bP (mX ah ay au yC0) aQ gQ ?_;clear hG hG2;refine rP 35 ?_ (y:=(qy ah ay ay bY));refine rP 36 ?_ (y:=(ny ah ay ay));refine dX au ?_
   try simp only [jI]
   try go_frame
   go_wp2_with fail
   go_roundg (L.aH.length-(i+1))
   case measure=>have:=aS.o;omega
   case rel=>exact ⟨i+1,rfl,ad8 aS.o,by first|rfl|go_num,by first|rfl|go_num,HW.o,h23⟩
end
theorem Qv (hM:M.Ok K) (hz:M.size ByteArray.empty=(0,9)) (ht:aA.there M (aA.name aA.idx n)=false\/aA.there M (aA.name aA.use n)=false) (h:Sat w0 w (aI m M::F)) :
  Calls prog 101 #[ptr p,ptr m,.int .i64 n] w (aN λv w'=>v=.tuple #[.pointer none,errno 9]/\Sat w0 w' (aI m M::F)):=by
 have hsz:=Dc hM h ByteArray.empty;rw [hz]at hsz;have HM:=uQ hM;have Ht:=uQ ht;clear hM hz ht;go_enter func101,ntmps101;go_wp2_with fail;refine hsz.mono ?_;rintro e w1 ⟨v,rfl,rfl,rfl⟩;clear hsz;go_wp2_with fail;refine (Kt n h).mono ?_;rintro e w2 ⟨v,rfl,rfl,h2⟩;clear h;have hth:=GR HM.o (aA.name aA.idx n) h2;cases ht:aA.there M (aA.name aA.idx n) with
 |false=>
  rw [ht]at hth;clear ht;go_wp2_with fail;refine hth.mono ?_;rintro e w3 ⟨v,rfl,rfl,rfl⟩;clear hth;go_wp2_with fail
  go_ret2
  exact ⟨_,rfl,rfl,h2⟩
 |true=>
  rw [ht]at hth;have rE:=uQ (Ht.o.resolve_left (by rw [ht];decide));clear ht;go_wp2_with fail;refine hth.mono ?_;rintro e w3 ⟨v,rfl,rfl,rfl⟩;clear hth;go_wp2_with fail;refine (MO n h2).mono ?_;rintro e w4 ⟨v,rfl,rfl,h4⟩;have Ej:=GR HM.o (aA.name aA.use n) h4;rw [rE.o]at Ej;go_wp2_with fail;refine Ej.mono ?_;rintro e w5 ⟨v,rfl,rfl,rfl⟩;go_wp2_with fail
  go_ret2
  exact ⟨_,rfl,rfl,h4⟩
theorem Y5 (hL:L.Ok) (hM:M.Ok K) (hz:M.size ByteArray.empty=(0,9)) (ht1:aA.there M (aA.name aA.idx n)=true) (ht2:aA.there M (aA.name aA.use n)=true)
  (kv:List (aj.Bs×Seg.aZ)) (hk:∀ q∈kv,q.1.length=32) (us:List Rep.Use) (hoi:aO.Ok 3 true (kv.map Rep.jm)) (hou:aO.Ok 3 false (us.map Rep.jr))
  (ha1:M.all (aA.name aA.idx n)=(aO.book Xx.sum aO.uP true (kv.map Rep.jm),0)) (ha2:M.all (aA.name aA.use n)=(aO.book Xx.sum aO.uS false (us.map Rep.jr),0))
  (hf:aA.fits L us n=true) (qM:∀ q∈kv,aA.lies q.2 (aA.sizes us)=true/\IntKind.i64.wrap (aA.sizes us q.2.seg-q.2.at_)=aA.sizes us q.2.seg-q.2.at_) (h:Sat w0 w (aV p m L::aI m M::F)) :
  Calls prog 101 #[ptr p,ptr m,.int .i64 n] w (aN λv w'=>∃ (ps pi:Nat) (uv tv:Value),v=.tuple #[ptr ps,errno 0]/\Sat w0 w' (bZ ps n pi uv tv::bf pi (Tab.mapOf kv) kv.length::aC 205 3 uv (us.flatMap bJ)::aC 3 1 tv (ints (L.aH.filter λs=>decide (n<s)))::aV p m L::aI m M::F)):=by
 have h0:Sat w0 w (aI m M::aV p m L::F):=h.sb;have hsz:=Dc hM h0 ByteArray.empty;rw [hz]at hsz;have rU:us.length<=1073741824:=by have:=hou.len;rw [abl]at this;omega
 have HM:=uQ hM;have Jp:=uQ ht1;have rE:=uQ ht2;have HL:=uQ hL;have Hk:=uQ hk;have DL:=uQ hoi;have DN:=uQ hou;have Ha1:=uQ ha1;have Ha2:=uQ ha2;have Hf:=uQ hf;have Og:=uQ qM;have qg:=uQ (show kv.length<=65536 by have:=hoi.len;rwa [abl]at this);have rF:=uQ rU;clear hM hz ht1 ht2 hL hk hoi hou ha1 ha2 hf rU qM h;go_enter func101,ntmps101;go_wp2_with fail;refine hsz.mono ?_;rintro e w1 ⟨v,rfl,rfl,rfl⟩;clear hsz;go_wp2_with fail;refine (Kt n h0).mono ?_;rintro e w2 ⟨v,rfl,rfl,h2⟩;clear h0;have hth:=GR HM.o (aA.name aA.idx n) h2;rw [Jp.o]at hth;go_wp2_with fail;refine hth.mono ?_;rintro e w3 ⟨v,rfl,rfl,rfl⟩;clear hth;go_wp2_with fail;refine (MO n h2).mono ?_;rintro e w4 ⟨v,rfl,rfl,h4⟩;clear h2;have Ej:=GR HM.o (aA.name aA.use n) h4;rw [rE.o]at Ej;go_wp2_with fail;refine Ej.mono ?_;rintro e w5 ⟨v,rfl,rfl,rfl⟩;clear Ej;go_wp2_with fail
 refine (Kt n h4).mono ?_;rintro e w6 ⟨v,rfl,rfl,h6⟩;clear h4;have ha:=OH HM.o h6 (aA.name aA.idx n);rw [Ha1.o]at ha;go_wp2_with fail;refine ha.mono ?_;rintro e w7 ⟨v,rfl,bv,rfl,h7⟩;clear ha h6;go_wp2_with fail;refine (MO n h7).mono ?_;rintro e w8 ⟨v,rfl,rfl,h8⟩;clear h7;have h8':Sat w0 w8 (aI m M::aY bv (aO.book Xx.sum aO.uP true (kv.map Rep.jm))::aV p m L::F):=h8.sb;have hb:=OH HM.o h8' (aA.name aA.use n);rw [Ha2.o]at hb;clear h8;go_wp2_with fail;refine hb.mono ?_;rintro e w9 ⟨v,rfl,cv,rfl,h9⟩;clear hb h8';have Ee:Sat w0 w9 (aY bv (aO.book Xx.sum aO.uP true (kv.map Rep.jm))::aY cv (aO.book Xx.sum aO.uS false (us.map Rep.jr))::aI m M::aV p m L::F):=h9.sb;clear h9;have rO:=RS.La Ee;obtain ⟨ba,bn,bc,rfl,_,_⟩:=rO.cap;go_wp2_with fail;refine (afU kv Hk.o DL.o rO Ee).mono ?_;rintro e w10 ⟨v,rfl,iv,rfl,h10⟩;clear Ee rO
 have Qe:Sat w0 w10 (aY cv (aO.book Xx.sum aO.uS false (us.map Rep.jr))::aC 248 35 iv (kv.flatMap fO)::aI m M::aV p m L::F):=h10.sb;clear h10;have qN:=RS.La Qe;obtain ⟨ca,cn,cc,rfl,_,_⟩:=qN.cap;go_wp2_with fail;refine (afW us DN.o qN Qe).mono ?_;rintro e jZ ⟨v,rfl,uv,rfl,h11⟩;clear Qe qN;have h12:Sat w0 jZ (aV p m L::aC 205 3 uv (us.flatMap bJ)::aC 248 35 iv (kv.flatMap fO)::aI m M::F):=h11.sb;clear h11;go_wp2_with fail;have hft:=ahQ (n:=n) us rF.o HL.o (λw hw=>Sat.rd hw) h12;rw [Hf.o]at hft;refine hft.mono ?_;rintro e ku ⟨v,rfl,rfl,h13⟩;clear hft h12;obtain ⟨ua,uc,rfl⟩:=iP (λu _=>tN u) (Sat.rd (h13.pick (A:=aC 205 3 uv (us.flatMap bJ)) aT)) aG;obtain ⟨ia,ic,rfl⟩:=iP (λq hq=>lT q (Hk.o q hq)) (Sat.rd (h13.pick (A:=aC 248 35 iv (kv.flatMap fO)) fE)) aG
 have VR:=uQ (show ∀ i u,us[i]?=some u->aA.sizes (us.take (i+1))=λs=>if s=u.seg then u.size else aA.sizes (us.take i) s from λi u hu=>by rw [aeN,hu,ahW,aA.acH]);have hmm:=@run_makeMap prog;go_wp2_with fail;refine (aaC h13).mono ?_;rintro ee kC ⟨v,rfl,pi,rfl,fP⟩;clear h13;go_wp2_with (with_reducible apply fC);refine ⟨fB (cs:=#[.int .i64 n,ptr pi,.slice ua us.length uc,.slice none 0 0]) fP ah ah ?_⟩;intro ps IQ h15;clear fP;have h16:=Zy h15;go_wp2_with fail;have hx:Sat w0 (IQ.alloc (.map #[] 0)) (jX IQ.heap.size (aA.sizes (us.take 0))::bZ ps n pi (.slice ua us.length uc) (.slice none 0 0)::bf pi (λ_=>none) 0::aV p m L::aC 205 3 (.slice ua us.length uc) (us.flatMap bJ)::aC 248 35 (.slice ia kv.length ic) (kv.flatMap fO)::aI m M::F):=h16;clear h15 h16 hmm;generalize IQ.heap.size=bm at *
 go_loopg [98] us.length (λg iq wr=>∃ i:Nat,g=us.length-i/\i<=us.length/\iq=.int .i64 i /\
  Sat w0 wr (jX bm (aA.sizes (us.take i))::bZ ps n pi (.slice ua us.length uc) (.slice none 0 0)::bf pi (λ_=>none) 0::aV p m L::aC 205 3 (.slice ua us.length uc) (us.flatMap bJ)::aC 248 35 (.slice ia kv.length ic) (kv.flatMap fO)::aI m M::F))
 case atStart=>exact ⟨0,rfl,ad4 _,rfl,hx⟩
 case round=>
  obtain ⟨i,rfl,hi,rfl,hS⟩:=hrel;clear hx;by_cases hlt:i<us.length
  ·have c1:(i:Int)<(us.length:Int):=by omega
   have hwi:IntKind.i64.wrap ((i:Int)+1)=(i:Int)+1:=acO _ zI0;obtain ⟨u,hu⟩:∃ u,us[i]?=some u:=⟨_,aaJ hlt⟩;have aS:=uQ hlt;have iQ:=uQ (VR.o i u hu);obtain ⟨bk,off,c',hsv,hcell⟩:=iL (λu _=>tN u) (Sat.rd (hS.pk (A:=aC 205 3 (.slice ua us.length uc) (us.flatMap bJ)))) hu aG;cases hsv;clear hi hlt hu
   go_wp2_with (first
    |((with_reducible refine bC ⟨?_⟩);refine iD (b:=bk) (o:=off+i*3) (bJ u) ah hcell underlying205 rfl au ?_)
    |(with_reducible apply eG))
   refine ⟨eU I7 hS rfl ?_⟩;intro b18 w18 h18;go_wp2_with (with_reducible apply bW);refine ⟨fG (bJ u).toArray h18 ah ah ah bU au ah ?_⟩;intro w19 h19;clear h18 hS hcell;obtain ⟨qW,hup,h20⟩:=QJ u.seg u.size (h19.pick (aU aK));have f0:w19.cell? ⟨b18,0,none⟩=some (.int .i64 u.seg):=h19.cellP aK 0 rfl;have f1:w19.cell? ⟨b18,1,none⟩=some (.int .i64 u.size):=h19.cellP aK 1 rfl;rw [<-iQ.o]at h20;go_wp2_with fail
   go_roundg (us.length-(i+1))
   case measure=>have:=aS.o;omega
   case rel=>exact ⟨i+1,rfl,ad8 aS.o,by first|rfl|go_num,h20.sb⟩
  ·have c1:¬ (i:Int)<(us.length:Int):=by omega
   obtain rfl:i=us.length:=by omega
   rw [aeH]at hS;clear hlt hi VR;have hy:Sat w0 wr (jX bm (aA.sizes us)::bZ ps n pi (.slice ua us.length uc) (.slice none 0 0)::bf pi (Tab.mapOf (kv.take 0)) 0::aV p m L::aC 205 3 (.slice ua us.length uc) (us.flatMap bJ)::aC 248 35 (.slice ia kv.length ic) (kv.flatMap fO)::aI m M::F):=hS;clear hS;go_wp2_with fail
   go_loopg [110] kv.length (λg iq wr=>∃ i:Nat,g=kv.length-i/\i<=kv.length/\iq=.int .i64 i /\
    Sat w0 wr (jX bm (aA.sizes us)::bZ ps n pi (.slice ua us.length uc) (.slice none 0 0)::bf pi (Tab.mapOf (kv.take i)) i::aV p m L::aC 205 3 (.slice ua us.length uc) (us.flatMap bJ)::aC 248 35 (.slice ia kv.length ic) (kv.flatMap fO)::aI m M::F))
   case atStart=>exact ⟨0,rfl,ad4 _,rfl,hy⟩
   case round=>
    obtain ⟨i,rfl,hi,rfl,hS⟩:=hrel;clear hy;by_cases hlt:i<kv.length
    ·have c1:(i:Int)<(kv.length:Int):=by omega
     have hwi:IntKind.i64.wrap ((i:Int)+1)=(i:Int)+1:=acO _ (by have:=qg.o;omega);obtain ⟨q,hq⟩:∃ q,kv[i]?=some q:=⟨_,aaJ hlt⟩;have hqm:=acr hq;have aS:=uQ hlt;have FN:=uQ (show Tab.mapOf (kv.take (i+1))=Tab.put (Tab.mapOf (kv.take i)) q.1 q.2 by rw [aeN,hq,ahW,Tab.Rl]);obtain ⟨bk,off,c',hsv,hcell⟩:=iL (λq hq=>lT q (Hk.o q hq)) (Sat.rd (hS.pk (A:=aC 248 35 (.slice ia kv.length ic) (kv.flatMap fO)))) hq aG;cases hsv;have Hq:=uQ (Hk.o q hqm);have Y9:=Og.o q hqm;have VA:=uQ Y9;have Oe:=uQ (lT q Hq.o);clear hi hlt hq hqm Y9
     go_wp2_with (first
      |((with_reducible refine bC ⟨?_⟩);refine iD (b:=bk) (o:=off+i*35) (fO q) ah hcell underlying248 rfl (by rw [Oe.o];kernel_rfl) ?_)
      |(with_reducible apply eG))
     refine ⟨eU Nv hS rfl ?_⟩;intro b20 qW h20;go_wp2_with (with_reducible apply bW);refine ⟨fG (fO q).toArray h20 ah ah (by rw [abA,Oe.o];rfl) bU (by rw [abA,Oe.o];kernel_rfl) (by rw [ad7];exact GX _) ?_⟩;intro oN h21;clear h20 hS hcell;have hra:oN.rangeAt b20 0 (aB q.1):=λj v hj=>by
      refine h21.cellP aK (0+j) ?_;rw [aeh,aeE];unfold fO;rw [aek (acZ.1 hj).1];exact hj
     have uM:oN.rangeAt b20 32 (bT q.2):=λj v hj=>by
      refine h21.cellP aK (32+j) ?_;rw [aeh];unfold fO;rw [aew (by rw [aP,Hq.o];omega),aP,Hq.o,apI];exact hj
     go_wp2_with ((with_reducible refine bC ⟨?_⟩);refine iD (b:=b20) (o:=32) (bT q.2) ah uM underlying115 rfl au ?_);refine (ahZ q.2 VA.o.2 (h21.pk (A:=jX bm (aA.sizes us)))).mono ?_;rintro ee lH ⟨v,rfl,rfl,h22⟩;rw [VA.o.1];clear hra uM h21;have h23:=h22.drew;clear h22;have hG:lH.drew.cell? ⟨ps,1,none⟩=some (ptr pi)/\lH.drew.rangeAt b20 0 (aB q.1)/\lH.drew.rangeAt b20 32 (bT q.2):=by
      refine ⟨h23.cellP (aU aT) 1 rfl,λj v hj=>?_,λj v hj=>?_⟩
      ·refine h23.cellP aT (0+j) ?_;rw [aeh,aeE];unfold fO;rw [aek (acZ.1 hj).1];exact hj
      ·refine h23.cellP aT (32+j) ?_;rw [aeh];unfold fO;rw [aew (by rw [aP,Hq.o];omega),aP,Hq.o,apI];exact hj
     go_wp2_with fail;refine eF [8] (λw'=>w'.cell? ⟨ps,1,none⟩=some (ptr pi)/\w'.rangeAt b20 0 (aB q.1)/\w'.rangeAt b20 32 (bT q.2)) au ?_;refine rP 0 ?_ (y:=bD);refine rP 1 ?_ (y:=iG);refine rP 2 ?_ (y:=dh);refine rt 3 (h:=?_);refine rP 4 ?_ (y:=dh);refine gJ 5 ay au bP (lM (b:=b20) (o:=0) (aB q.1) ah underlying34 rfl (by rw [aP,Hq.o];kernel_rfl) (λw hw=>hw.2.1)) aQ gQ ?_;refine rP 6 ?_ (y:=dh);refine gJ 7 ay au bP (lM (b:=b20) (o:=32) (bT q.2) ah underlying115 rfl au (λw hw=>hw.2.2)) aQ gQ ?_;clear hG;have hp:=abb (B:=i) (p:=pi) (by have:=aS.o;have:=qg.o;omega) Hq.o q.2 (h23.pk (A:=bf pi (Tab.mapOf (kv.take i)) i));clear h23;refine cZ 8 ay au (λK' hK'=>?_)
     (refine JK au ay ay ay ?_)
     refine hp.mono ?_;rintro ee w24 ⟨v,rfl,qL⟩;refine hK' _ _ (.inl rfl) ?_;clear hK' hp;refine dX au ?_;rw [<-FN.o]at qL;go_wp2_with fail
     go_roundg (kv.length-(i+1))
     case measure=>have:=aS.o;omega
     case rel=>exact ⟨i+1,rfl,ad8 aS.o,by first|rfl|go_num,qL.sb⟩
    ·have c1:¬ (i:Int)<(kv.length:Int):=by omega
     obtain rfl:i=kv.length:=by omega
     rw [aeH]at hS;clear hlt hi;have hsl:L.aH.length<=1073741824:=by unfold Seg.Log.aH;rw [abl];have:=HL.o.len;omega
     have qh:=uQ hsl;clear hsl;go_wp2_with fail;refine (En HL.o (hS.pk (A:=aV p m L))).mono ?_;rintro ee IV ⟨v,rfl,h30⟩;obtain ⟨sa,sn,sc,rfl,Y3,_⟩:=Sat.rd h30;have ahY:sn=L.aH.length:=by
      rw [show (ints L.aH).length=L.aH.length from abl ..]at Y3;omega
     subst ahY;clear Y3 hS
     have h31:Sat w0 IV (bZ ps n pi (.slice ua us.length uc) (.slice none 0 0)::aC 3 1 (.slice none 0 0) (ints ((L.aH.take 0).filter λs=>decide (n<s)))::bf pi (Tab.mapOf kv) kv.length::aC 3 1 (.slice sa L.aH.length sc) (ints L.aH)::aV p m L::aC 205 3 (.slice ua us.length uc) (us.flatMap bJ)::aI m M::F):=
      (Sat.dO.2 h30).sb
     clear h30;go_wp2_with fail
     go_loopg [132] L.aH.length (λg iq wr=>∃ (i:Nat) (tv:Value),g=L.aH.length-i/\i<=L.aH.length/\iq=.int .i64 i /\
      Sat w0 wr (bZ ps n pi (.slice ua us.length uc) tv::aC 3 1 tv (ints ((L.aH.take i).filter λs=>decide (n<s)))::bf pi (Tab.mapOf kv) kv.length::aC 3 1 (.slice sa L.aH.length sc) (ints L.aH)::aV p m L::aC 205 3 (.slice ua us.length uc) (us.flatMap bJ)::aI m M::F))
     case atStart=>exact ⟨0,_,rfl,ad4 _,rfl,h31⟩
     case round=>
      obtain ⟨i,tv,rfl,hi,rfl,hS⟩:=hrel;clear h31;by_cases hlt:i<L.aH.length
      ·have c1:(i:Int)<(L.aH.length:Int):=by omega
       have hwi:IntKind.i64.wrap ((i:Int)+1)=(i:Int)+1:=acO _ (by have:=qh.o;omega);obtain ⟨s,hs⟩:∃ s,L.aH[i]?=some s:=⟨_,aaJ hlt⟩;have aS:=uQ hlt;have dP:=uQ (show L.aH.take (i+1)=L.aH.take i++[s] by rw [aeN,hs];rfl);obtain ⟨bk,off,cc,hsv,f0⟩:=Em (Sat.rd (hS.pk (A:=aC 3 1 (.slice sa L.aH.length sc) (ints L.aH)))) hs;cases hsv;clear hi hlt hs;by_cases hgt:n<s
       ·have kE:=uQ (show ints ((L.aH.take (i+1)).filter λs=>decide (n<s))=ints ((L.aH.take i).filter λs=>decide (n<s))++[.int .i64 s] by
         rw [dP.o,anP];unfold ints;rw [aef];simp [hgt])
        have hil:(ints ((L.aH.take i).filter λs=>decide (n<s))).length<=2147483648:=by
         unfold ints;rw [abl];have h1:=aiK (λs=>decide (n<s)) (L.aH.take i);have h2:=aoM i L.aH;have:=qh.o;omega
        have e3:wr.cell? ⟨ps,3,none⟩=some tv:=hS.cellP aK 3 rfl;go_wp2_with (with_reducible apply jh);refine ⟨jg (e:=3) (sz:=1) (dF:=8) au hS ay (cs:=#[.int .i64 s]) rfl rfl aG ?_⟩;intro b41 w41 rJ;go_wp2_with (with_reducible apply fZ);refine ⟨jF 3 1 8 au rJ ah ah (aU (aU aK)) aK rfl (ab1 1) ah hil (by show 1<=65536;decide) aG rfl ?_⟩;intro bA nA cA w42 h42;clear e3 hil;go_wp2_with (with_reducible apply bW);refine ⟨jM (cs':=#[.int .i64 n,ptr pi,.slice ua us.length uc,.slice (some ⟨bA,0,none⟩) nA cA]) h42 ah ay ah (lN bU) bG au ah ?_⟩;intro UL h43
        have Qg:Sat w0 UL (bZ ps n pi (.slice ua us.length uc) (.slice (some ⟨bA,0,none⟩) nA cA)::aC 3 1 (.slice (some ⟨bA,0,none⟩) nA cA) (ints ((L.aH.take (i+1)).filter λs=>decide (n<s)))::bf pi (Tab.mapOf kv) kv.length::aC 3 1 (.slice (some ⟨bk,off,none⟩) L.aH.length sc) (ints L.aH)::aV p m L::aC 205 3 (.slice ua us.length uc) (us.flatMap bJ)::aI m M::F):=by
         rw [kE.o];exact h43.sb
        clear rJ h42 h43 hS f0;go_wp2_with fail
        go_roundg (L.aH.length-(i+1))
        case measure=>have:=aS.o;omega
        case rel=>exact ⟨i+1,_,rfl,ad8 aS.o,by first|rfl|go_num,Qg⟩
       ·have kE:=uQ (show ints ((L.aH.take (i+1)).filter λs=>decide (n<s))=ints ((L.aH.take i).filter λs=>decide (n<s)) by
         rw [dP.o,anP];simp [hgt])
        have aoV:¬ s>n:=hgt;go_wp2_with fail
        go_roundg (L.aH.length-(i+1))
        case measure=>have:=aS.o;omega
        case rel=>exact ⟨i+1,tv,rfl,ad8 aS.o,by first|rfl|go_num,by rw [kE.o];exact hS⟩
      ·have c1:¬ (i:Int)<(L.aH.length:Int):=by omega
       obtain rfl:i=L.aH.length:=by omega
       rw [aeH]at hS;clear hlt hi;go_wp2_with fail
       go_ret2
       exact ⟨_,rfl,ps,rfl,pi,_,tv,hS.sb⟩
abbrev Fs:=List (aj.dK×Value)
abbrev Sg:=Int×Fs×Value
def dY (ys:List Sg):aF:=stars (ys.flatMap λy=>[aC 154 36 y.2.2 (iF y.2.1),kQ y.2.1])
section
variable {ys:List Sg}{y:Sg}
theorem afM (h:Sat w0 w (aC 154 36 y.2.2 (iF y.2.1)::kQ y.2.1::dY ys::F)):Sat w0 w (dY (y::ys)::F):=
 Sat.star.2 ((Sat.star.2 (h.sb:Sat w0 w (kQ y.2.1::dY ys::aC 154 36 y.2.2 (iF y.2.1)::F))).sb)
theorem WJ {A:aF} (hq:y∈ys) (hA:A=aC 154 36 y.2.2 (iF y.2.1)\/A=kQ y.2.1) (h:Sat w0 w (dY ys::F)):∃ G,Sat w0 w (A::G):=by
 obtain ⟨G,hG⟩:=Iz (ys.flatMap λy=>[aC 154 36 y.2.2 (iF y.2.1),kQ y.2.1]) A (ao6.2 ⟨y,hq,by rcases hA with rfl|rfl <;> simp⟩);unfold dY at h;rw [hG]at h;exact ⟨_,Sat.star.1 h⟩
theorem JB (hq:y∈ys) (h:Sat w0 w (dY ys::F)):aW 36 y.2.2 (iF y.2.1) w:=by
 obtain ⟨G,hG⟩:=WJ hq (.inl rfl) h;exact Sat.rd hG
theorem WI {f:aj.dK}{dv:Value} (hq:y∈ys) (hf:(f,dv)∈y.2.1) (h:Sat w0 w (dY ys::F)):∃ a n c,dv=.slice a n c/\n=f.e.data.length/\aW 1 dv (aB f.e.data) w:=by
 obtain ⟨G,hG⟩:=WJ hq (.inr rfl) h;obtain ⟨i,hi⟩:=List.getElem?_of_mem hf;have r:=Po hi w hG;obtain ⟨a,n,c,e,hn,_⟩:=r;have h2:f.e.data.length=n*1:=by rw [<-aP];exact hn
 exact ⟨a,n,c,e,by omega,Po hi w hG⟩
variable {pn:Nat}
end
section
variable {P:Program}{L:List aF}{ops:Array Oper}{a:Act}{Q:Exit->Act->World->Prop}{dst:Option Tmp}{t ty:TypeId}{pos:String}{after:Array Edge}{K:Act->World->Prop}{E:Prop}
end
end Go.Proofs.Y
namespace Go.xB
open Go.aj (Bs dK aJ gy encs dV)
open Go.Seg (aZ iH lS Xh dw)
open Go.Rep
section
variable {P P1:Plan}{pc:Int}{gs:List Int}{R S:List Row}{a c r y:Row}{k:Bs}{s:Int}
structure Good (P:Plan) (R:List Row):Prop where
 idx:∀ k,P.index k=mD R k
 keys:P.keys=aiW R
 uniq:∀ a∈R,∀ b∈R,mW a=mW b->a=b
 rise:R.Pairwise λa b=>a.1<=b.1
 tag:∀ a∈R,fF a=0\/fF a=1\/fF a=2
end
end Go.xB
namespace Go.Seg
open Go.ak
open Go.aj (Bs aJ dK encs dV gy scan qR)
structure HW (K r E B n:Nat) (M:ak) (R:List (Nat×Bs)):Prop where
 calm:Calm K r M
 rise:R.Pairwise λa b=>a.1<b.1
 lim:∀ d∈R,d.1<n
 file:∀ d∈R,M.all (name d.1)=(d.2,0)
 used:M.used<=B
 names:M.now.length<=E
 cover:∀ (k i:Nat),k<1048576->bH M.now (name (k:Int))=some i->∃ d∈R,d.1=k
def adR (M M':ak):Prop:=∀ t,t≠aA.tmp->M'.all t=M.all t
def jV (b:Bs):Bool:=(scan b).2.2 != 0
def gI (b:Bs):List aJ:=if jV b then (qR b).map (·.e) else (scan b).1.map (·.e)
def qo (b:Bs):Bs:=mag++encs (gI b)
def tC (d:Nat×Bs):Bool := !(jV d.2) || !(gI d.2).isEmpty
def done (R:List (Nat×Bs)):List (Nat×Bs):=(R.filter tC).map λd=>(d.1,qo d.2)
def lD (M:ak) (d:Nat×Bs):ak×Int:=if gI d.2=[] then M.remove (name (d.1:Int)) else aA.write M (name (d.1:Int)) (qo d.2)
def jJ:List (Nat×Bs)->ak->ak×Int
 |[],M=>(M,0)
 |d::R,M=>if jV d.2 then (if (lD M d).2=0 then jJ R (lD M d).1 else lD M d) else jJ R M
section
variable {K r E B n:Nat}{M M':ak}{R P:List (Nat×Bs)}{d:Nat×Bs}{b:Bs}
theorem Iu (b:Bs):(∀ x∈gI b,dV x)/\(qo b).length<=8+b.length/\(jV b=false->qo b=b):=by
 have hm:mag.length=8:=rfl;unfold gI qo gI;by_cases h:jV b=true
 ·rw [adU h];obtain ⟨h1,h2⟩:=aj.amo b;refine ⟨λx hx=>?_,by rw [aa7];omega,λq=>by rw [h]at q;cases q⟩;obtain ⟨f,hf,rfl⟩:=adu.1 hx;exact h1 f hf
 ·rw [abL h];have h0:(scan b).2.2=0:=by unfold jV at h;simpa using h
  obtain ⟨l,h1,h2,h3⟩:=aj.amu h0;rw [h3,aj.BJ];exact ⟨h1,by rw [<-h2];omega,λ_=>h2.symm⟩
theorem HW.mono (h:HW K r E B n M R){K' E' B':Nat} (h1:K<=K') (h2:E<=E') (h3:B<=B'):HW K' r E' B' n M R:=
 ⟨h.calm.mono h1,h.rise,h.lim,h.file,adT h.used h3,adT h.names h2,h.cover⟩
theorem HW.has (h:HW K r E B n M R) (hd:d∈R):∃ i,bH M.now (name (d.1:Int))=some i:=(aA.uF h.calm.quiet).1 (by rw [h.file d hd])
theorem Eo {a b:Nat} (ha:a<1048576) (hb:b<1048576) (h:a≠b):name (a:Int)≠name (b:Int):=λe=>by
 have:=aaz oQ oQ oQ oQ e;omega
theorem HW.remove (h:HW K r E B n M (P++d::R)) (hn:n<=1048576):(M.remove (name (d.1:Int))).2=0/\HW (K+1) r E B n (M.remove (name (d.1:Int))).1 (P++R)/\aA.Grown M (M.remove (name (d.1:Int))).1/\Apart M (M.remove (name (d.1:Int))).1:=by
 have hdm:d∈P++d::R:=by simp
 obtain ⟨i,hi⟩:=h.has hdm;obtain ⟨a1,a2,a3,a4⟩:=aA.LG h.calm hi;have hsub:∀ y∈P++R,y∈P++d::R:=λy hy=>by
  rcases aeQ.1 hy with q|q
  ·exact aob _ q
  ·exact List.mem_append_right _ (.tail _ q)
 have hne:∀ y∈P++R,y.1≠d.1:=λy hy=>by
  have hr:=anr.1 h.rise;rcases aeQ.1 hy with q|q
  ·have:=hr.2.2 y q d (.head _);omega
  ·have:=(aeZ.1 hr.2.1).1 y q;omega
 have hdl:=h.lim d hdm;refine ⟨a1,⟨h.calm.remove _,?_,λy hy=>h.lim y (hsub y hy),λy hy=>?_,adT a4 h.used,?_,λk j hk hj=>?_⟩,λp hp=>?_,λt ht=>a3 t (ht _)⟩
 ·exact h.rise.sublist (List.Sublist.append_left (List.sublist_cons_self d R) P)
 ·have:=h.lim y (hsub y hy);rw [a3 _ (Eo oQ oQ (hne y hy))];exact h.file y (hsub y hy)
 ·rw [a2];exact adT (wO _ _) h.names
 ·rw [a2]at hj;by_cases e:k=d.1
  ·exfalso;rw [e]at hj;have:=(aex.1 (ji hj)).2;simp [bne,mM]at this
  ·rw [KR (Eo hk oQ e)]at hj;obtain ⟨y,hy,hyk⟩:=h.cover k j hk hj;refine ⟨y,?_,hyk⟩;rcases aeQ.1 hy with q|q
   ·exact aob _ q
   ·rcases ad9.1 q with rfl|q
    ·exact absurd hyk.symm e
    ·exact List.mem_append_right _ q
 ·rw [a2]at hp;exact .inl (aex.1 hp).1
theorem HW.adJ (h:HW K r E B n M (P++d::R)) (ht:bH M.now aA.tmp=none) (hn:n<=1048576) (hE:E<500) (hr:B+b.length<=r):(aA.write M (name (d.1:Int)) b).2=0/\HW (K+5) r (E+1) (B+b.length) n (aA.write M (name (d.1:Int)) b).1 (P++(d.1,b)::R)/\aA.Grown M (aA.write M (name (d.1:Int)) b).1/\(∀ t,t≠aA.tmp->(∀ k:Int,t≠name k)->(aA.write M (name (d.1:Int)) b).1.all t=M.all t):=by
 have hdm:d∈P++d::R:=by simp
 have hdl:=h.lim d hdm;have w:=aA.IZ (s:=name (d.1:Int)) (b:=b) h.calm ht (by have:=h.names;omega) (YB _ oQ oQ) (aA.Di _).symm;have hu:=h.used;have h0:(aA.write M (name (d.1:Int)) b).2=0:=w.room oQ;have hall:(aA.write M (name (d.1:Int)) b).1.all (name (d.1:Int))=(b,0):=by
  rcases w.done with q|q
  ·exact q.2
  ·rw [q.1]at h0;cases h0
 have hne:∀ y∈P++d::R,y≠d->y.1≠d.1:=λy hy yj=>by
  have hr:=anr.1 h.rise;rcases aeQ.1 hy with q|q
  ·have:=hr.2.2 y q d (.head _);omega
  ·rcases ad9.1 q with rfl|q
   ·exact absurd rfl yj
   ·have:=(aeZ.1 hr.2.1).1 y q;omega
 have hmem:∀ y∈P++(d.1,b)::R,y=(d.1,b)\/y∈P++d::R/\y.1≠d.1:=λy hy=>by
  have hr:=anr.1 h.rise;rcases aeQ.1 hy with q|q
  ·exact .inr ⟨aob _ q,by have:=hr.2.2 y q d (.head _);omega⟩
  ·rcases ad9.1 q with q|q
   ·exact .inl q
   ·exact .inr ⟨List.mem_append_right _ (.tail _ q),by have:=(aeZ.1 hr.2.1).1 y q;omega⟩
 refine ⟨h0,⟨w.calm,?_,λy hy=>?_,λy hy=>?_,by have:=w.used;omega,by have:=w.len;have:=h.names;omega,λk j hk hj=>?_⟩,λp hp=>?_,λt h1 h2=>w.other t h1 (h2 _)⟩
 ·have hr:=anr.1 h.rise;obtain ⟨q1,q2⟩:=aeZ.1 hr.2.1;refine anr.2 ⟨hr.1,aeZ.2 ⟨q1,q2⟩,λa ha c hc=>?_⟩;rcases ad9.1 hc with rfl|hc
  ·exact hr.2.2 a ha d (.head _)
  ·exact hr.2.2 a ha c (.tail _ hc)
 ·rcases hmem y hy with rfl|⟨q,_⟩
  ·exact hdl
  ·exact h.lim y q
 ·rcases hmem y hy with rfl|⟨q,q2⟩
  ·exact hall
  ·have:=h.lim y q;rw [w.other _ (aA.Di _).symm (Eo oQ oQ q2)];exact h.file y q
 ·have hq:=w.calm.quiet;by_cases e:k=d.1
  ·exact ⟨(d.1,b),by simp,e.symm⟩
  ·have h1:(M.all (name (k:Int))).2=0:=by
    rw [<-w.other _ (aA.Di _).symm (Eo hk oQ e),(aA.uF hq).2 ⟨j,hj⟩]
   obtain ⟨i,hi⟩:=(aA.uF h.calm.quiet).1 h1;obtain ⟨y,hy,hyk⟩:=h.cover k i hk hi;refine ⟨y,?_,hyk⟩;rcases aeQ.1 hy with q|q
   ·exact aob _ q
   ·rcases ad9.1 q with rfl|q
    ·exact absurd hyk.symm e
    ·exact List.mem_append_right _ (.tail _ q)
 ·rcases w.names p hp with q|q
  ·exact .inl q
  ·exact .inr ⟨_,q⟩
theorem HW.apart (h:HW K r E B n M R) (hc:Calm (K+1) r M') (ha:adR M M') (hu:M'.used<=B) (hl:M'.now.length<=E):HW (K+1) r E B n M' R:=
 ⟨hc,h.rise,h.lim,λd hd=>(ha _ (aA.Di _).symm).trans (h.file d hd),hu,hl,λk i hk hi=>by
  have h1:=(aA.uF hc.quiet).2 ⟨i,hi⟩;rw [ha _ (aA.Di _).symm]at h1;obtain ⟨j,hj⟩:=(aA.uF h.calm.quiet).1 h1;exact h.cover k j hk hj⟩
theorem aoc (h:Calm K r M){i:Nat} (hi:bH M.now aA.tmp=some i) (s:ByteArray) (b:Bs):aA.write M s b=aA.write (M.remove aA.tmp).1 s b/\bH (M.remove aA.tmp).1.now aA.tmp=none:=by
 obtain ⟨a1,a2,_,_⟩:=aA.LG h hi;have ht:bH (M.remove aA.tmp).1.now aA.tmp=none:=by
  rw [a2];cases hj:bH (dS M.now aA.tmp) aA.tmp with
  |none=>rfl
  |some j=>
   have:=(aex.1 (ji hj)).2;simp [bne,mM]at this
 refine ⟨?_,ht⟩;have hth:aA.there M aA.tmp=true:=by
  unfold aA.there ak.size;rw [h.quiet.off,hi]
  rfl
 have e1:aA.oK M=M.remove aA.tmp:=by unfold aA.oK;rw [adU hth]
 have e2:aA.oK (M.remove aA.tmp).1=((M.remove aA.tmp).1,0):=by unfold aA.oK;rw [aA.Um (h.remove _).quiet ht];rfl
 unfold aA.write;rw [e1,e2,adU a1,adU rfl]
theorem HW.write (h:HW K r E B n M (P++d::R)) (hn:n<=1048576) (hE:E<500) (hr:B+b.length<=r):(aA.write M (name (d.1:Int)) b).2=0/\HW (K+6) r (E+1) (B+b.length) n (aA.write M (name (d.1:Int)) b).1 (P++(d.1,b)::R)/\aA.Grown M (aA.write M (name (d.1:Int)) b).1/\(∀ t,t≠aA.tmp->(∀ k:Int,t≠name k)->(aA.write M (name (d.1:Int)) b).1.all t=M.all t):=by
 cases hi:bH M.now aA.tmp with
 |none=>
  obtain ⟨a1,a2,a3,a4⟩:=h.adJ hi hn hE hr;exact ⟨a1,a2.mono oQ (ab1 _) (ab1 _),a3,a4⟩
 |some i=>
  obtain ⟨b1,b2,b3,b4⟩:=aA.LG h.calm hi;obtain ⟨e,ht⟩:=aoc h.calm hi (name (d.1:Int)) b;have h0:HW (K+1) r E B n (M.remove aA.tmp).1 (P++d::R):=h.apart (h.calm.remove _) b3 (adT b4 h.used) (by rw [b2];exact adT (wO _ _) h.names);obtain ⟨a1,a2,a3,a4⟩:=h0.adJ ht hn hE hr;rw [e];exact ⟨a1,a2,λp hp=>(a3 p hp).imp (λq=>by rw [b2]at q;exact (aex.1 q).1) id,λt h1 h2=>(a4 t h1 h2).trans (b3 t h1)⟩
theorem XC (d:Nat×Bs) (R:List (Nat×Bs)):done (d::R)=(if tC d then [(d.1,qo d.2)] else [])++done R:=by
 unfold done;rw [ao5];split
 ·rfl
 ·rfl
theorem HW.JE:∀ (R P:List (Nat×Bs)){K E B:Nat}{M:ak},HW K r E B n M (P++R)->n<=1048576->E+R.length<500->B+(R.map λd=>8+d.2.length).sum<=r ->
  (jJ R M).2=0/\HW (K+6*R.length) r (E+R.length) (B+(R.map λd=>8+d.2.length).sum) n (jJ R M).1 (P++done R)/\aA.Grown M (jJ R M).1/\(∀ t,t≠aA.tmp->(∀ k:Int,t≠name k)->(jJ R M).1.all t=M.all t)
 |[],P,K,E,B,M,h,_,_,_=>⟨rfl,h.mono (apB _ _) (apB _ _) (apB _ _),aA.Grown.refl M,λ_ _ _=>rfl⟩
 |d::R,P,K,E,B,M,h,hn,hE,hB=>by
  obtain ⟨s1,s2,s3⟩:=Iu d.2;rw [aev]at hE ⊢;rw [aes,apf]at hB ⊢;rw [XC];unfold jJ;by_cases hb:jV d.2=true
  ·rw [adU hb];by_cases hs:gI d.2=[]
   ·obtain ⟨a1,a2,a3,a4⟩:=h.remove hn;have e:lD M d=M.remove (name (d.1:Int)):=by unfold lD;rw [adU hs]
    rw [e,adU a1];have hk:tC d=false:=by unfold tC;rw [hb,hs];rfl
    rw [hk,abL aG,aeV];obtain ⟨i1,i2,i3,i4⟩:=HW.JE R P a2 hn oQ oQ;exact ⟨i1,i2.mono oQ oQ oQ,a3.trans i3,λt h1 h2=>(i4 t h1 h2).trans (a4 t h2)⟩
   ·obtain ⟨a1,a2,a3,a4⟩:=h.write (b:=qo d.2) hn oQ oQ;have e:lD M d=aA.write M (name (d.1:Int)) (qo d.2):=by unfold lD;rw [abL hs]
    rw [e,adU a1]
    have hk:tC d=true:=by unfold tC;cases hq:gI d.2 with
     |nil=>exact absurd hq hs
     |cons x l=>simp
    rw [hk,adU rfl];have a2':HW (K+6) r (E+1) (B+(qo d.2).length) n (aA.write M (name (d.1:Int)) (qo d.2)).1 ((P++[(d.1,qo d.2)])++R):=by rw [ad2];exact a2
    obtain ⟨i1,i2,i3,i4⟩:=HW.JE R (P++[(d.1,qo d.2)]) a2' hn oQ oQ;rw [ad2]at i2;exact ⟨i1,i2.mono oQ oQ oQ,a3.trans i3,λt h1 h2=>(i4 t h1 h2).trans (a4 t h1 h2)⟩
  ·have hb':jV d.2=false:=by simpa using hb
   rw [abL hb];have hk:tC d=true:=by unfold tC;rw [hb'];rfl
   rw [hk,adU rfl,s3 hb'];have h':HW K r E B n M ((P++[(d.1,d.2)])++R):=by rw [ad2];exact h
   obtain ⟨i1,i2,i3,i4⟩:=HW.JE R (P++[(d.1,d.2)]) h' hn oQ oQ;rw [ad2]at i2;exact ⟨i1,i2.mono oQ oQ oQ,i3,i4⟩
end
open Go.ak
open Go.aj (Bs aJ dK encs dV gy scan qR)
open Go.Rep
def jY (M:ak) (s:ByteArray):ak×Int:=if (M.size s).2=9 then (M,0) else M.remove s
def lu (last:Int):List (Nat×Bs)->ak->ak×Int
 |[],M=>(M,0)
 |d::R,M=>if last<(d.1:Int) then (if (jY M (name (d.1:Int))).2=0 then lu last R (jY M (name (d.1:Int))).1 else jY M (name (d.1:Int))) else (M,0)
section
variable {K r E B n:Nat}{M:ak}{R P:List (Nat×Bs)}{d:Nat×Bs}{b:Bs}{last:Int}
theorem agF (A C:List (Nat×Bs)):done (A++C)=done A++done C:=by unfold done;rw [anP,aef]
theorem HW.gone (h:HW K r E B n M R) (hn:n<=1048576){k:Nat} (hk:k<1048576) (hno:∀ d∈R,d.1≠k):bH M.now (name (k:Int))=none:=by
 cases hi:bH M.now (name (k:Int)) with
 |none=>rfl
 |some i=>
  obtain ⟨d,hd,e⟩:=h.cover k i hk hi;exact absurd e (hno d hd)
theorem HW.Xb:∀ (m:Nat) (R:List (Nat×Bs)){K:Nat}{M:ak},R.length=m->R.Pairwise (λa b=>a.1<b.1)->(∀ d∈R,d.1<n)->HW K r E B n M (done R)->n<=1048576 ->
  (lu last R.reverse M).2=0/\HW (K+R.length) r E B n (lu last R.reverse M).1 (done (R.filter λd=>decide ((d.1:Int)<=last)))/\aA.Grown M (lu last R.reverse M).1/\Apart M (lu last R.reverse M).1
 |0,R,K,M,hm,_,_,h,_=>by
  obtain rfl:=ae9 hm;exact ⟨rfl,h.mono (apB _ _) (ab1 _) (ab1 _),aA.Grown.refl M,Apart.refl M⟩
 |m+1,R,K,M,hm,hp,hl,h,hn=>by
  rcases List.eq_nil_or_concat R with rfl|⟨R',d,rfl⟩
  ·cases hm
  rw [List.concat_eq_append]at *
  have hm':R'.length=m:=by rw [aa7,ae3]at hm;omega
  obtain ⟨p1,p2,p3⟩:=anr.1 hp;have hd:=hl d yF0;rw [List.reverse_append,List.reverse_singleton,List.singleton_append];unfold lu;by_cases hlt:last<(d.1:Int)
  ·rw [adU hlt];have hf:(R'++[d]).filter (λd=>decide ((d.1:Int)<=last))=R'.filter λd=>decide ((d.1:Int)<=last):=by
    rw [anP,ao5,abL yT0,apj,aei]
   rw [hf,agF,XC]at *
   have hkey:(jY M (name (d.1:Int))).2=0/\HW (K+1) r E B n (jY M (name (d.1:Int))).1 (done R')/\aA.Grown M (jY M (name (d.1:Int))).1/\Apart M (jY M (name (d.1:Int))).1:=by
    have hd0:done ([]:List (Nat×Bs))=[]:=rfl;rw [hd0,aei]at h;by_cases hk:tC d=true
    ·rw [adU hk]at h;obtain ⟨i,hi⟩:=h.has (d:=(d.1,qo d.2)) yF0;have e:jY M (name (d.1:Int))=M.remove (name (d.1:Int)):=by
      unfold jY;rw [abL];rw [aA.Ud h.calm.quiet hi];simp
     rw [e];obtain ⟨a1,a2,a3,a4⟩:=HW.remove (P:=done R') (R:=[]) (d:=(d.1,qo d.2)) h hn;rw [aei]at a2;exact ⟨a1,a2,a3,a4⟩
    ·rw [abL hk,aei]at h;have hno:=h.gone hn (k:=d.1) oQ λy hy=>by
      unfold done at hy;obtain ⟨z,hz,rfl⟩:=adu.1 hy;have:=p3 z (aex.1 hz).1 d (.head _);simp only;omega
     have e:jY M (name (d.1:Int))=(M,0):=by
      unfold jY;rw [adU];rw [aA.Uc h.calm.quiet hno]
     rw [e];exact ⟨rfl,h.mono (apB _ _) (ab1 _) (ab1 _),aA.Grown.refl M,Apart.refl M⟩
   obtain ⟨a1,a2,a3,a4⟩:=hkey;rw [adU a1];obtain ⟨i1,i2,i3,i4⟩:=HW.Xb m R' hm' p1 (λy hy=>hl y (aob _ hy)) a2 hn;exact ⟨i1,i2.mono (by rw [aa7,ae3];omega) (ab1 _) (ab1 _),a3.trans i3,a4.trans i4⟩
  ·rw [abL hlt];have hf:(R'++[d]).filter (λd=>decide ((d.1:Int)<=last))=R'++[d]:=by
    rw [apJ];intro y hy;rcases aeQ.1 hy with q|q
    ·have:=p3 y q d (.head _);simp only [ad5];omega
    ·rw [aeG.1 q];simp only [ad5];omega
   rw [hf];exact ⟨rfl,h.mono (apB _ _) (ab1 _) (ab1 _),aA.Grown.refl M,Apart.refl M⟩
theorem HW.dH (h:HW K r E B n M R):M.dH.2=0/\HW K r E B n M.dH.1 R/\M.dH.1.now=M.now/\∀ t,M.dH.1.all t=M.all t:=by
 have ed:=h.calm.quiet.Uj;have hk:=h.calm.dH;have hnw:M.dH.1.now=M.now:=by rw [ed]
 have had:Alike M M.dH.1:=by rw [ed];exact ⟨rfl,rfl,rfl,λ_ _=>rfl⟩
 exact ⟨by rw [ed],⟨hk,h.rise,h.lim,λd hd=>by rw [had.all];exact h.file d hd,by rw [had.used];exact h.used,by rw [hnw];exact h.names,by rw [hnw];exact h.cover⟩,hnw,had.all⟩
theorem HW.log (h:HW K r E B n M R) (hn:n<=1048576) (lim:Int) (l1:128<=lim) (l2:lim<=1048576) :
  Keeps K r (Seg.fresh M lim) M/\(Seg.fresh M lim).l=R.map λd=>((d.1:Int),(d.2.length:Int)):=by
 have hq:=h.calm.quiet;have hF:=xZ h.calm.ok lim l1 l2
 have hs:(Seg.fresh M lim).aH=R.map λd=>(d.1:Int):=QL (CY hF) (by
   rw [ahB];exact h.rise.imp λhab=>by omega) λs=>by
  rw [aA.Yq hq.off];constructor
  ·rintro ⟨⟨a,b⟩,i,hi⟩;obtain ⟨k,rfl⟩:∃ k:Nat,s=k:=⟨s.toNat,by omega⟩;obtain ⟨d,hd,rfl⟩:=h.cover k i oQ hi;exact adu.2 ⟨d,hd,rfl⟩
  ·intro hs;obtain ⟨x,hx,rfl⟩:=adu.1 hs;have:=h.lim x hx;exact ⟨⟨by omega,by omega⟩,h.has hx⟩
 have hlen:(Seg.fresh M lim).l.length=R.length:=by
  have:=aeO List.length hs;unfold Log.aH at this;rw [abl,abl]at this;exact this
 refine ⟨⟨hF,h.calm,Yp M lim⟩,?_⟩;refine apV λk=>?_;rw [ad1];cases hd:R[k]? with
 |none=>exact apz.2 (by rw [hlen];exact apz.1 hd)
 |some d=>
  have hkl:k<R.length:=(acZ.1 hd).1;have hx:(Seg.fresh M lim).l[k]?=some ((Seg.fresh M lim).l[k]'oQ):=aaJ oQ;generalize (Seg.fresh M lim).l[k]'oQ=x at hx;obtain ⟨t,ht,hnu,e⟩:=BK (acr hx);obtain ⟨a,b,c⟩:=CQ hnu;have hk1:(Seg.fresh M lim).aH[k]?=some x.1:=by unfold Log.aH;rw [ad1,hx];rfl
  rw [hs,ad1,hd]at hk1;have e1:(number t).1=(d.1:Int):=by rw [e]at hk1;exact (aiJ hk1).symm
  rw [e1]at c;have hf:=h.file d (acr hd);rw [hx,e,e1,<-c];show _=some ((d.1:Int),(d.2.length:Int))
  congr 2
  obtain ⟨i,hi⟩:=(aA.uF hq).1 (aeO Prod.snd hf);rw [all_some hq hi]at hf;have hl2:=aeO (λz:Bs×Int=>z.1.length) hf;unfold ak.size;rw [hq.off,hi];show (((M.file i).now.length:Nat):Int)=_;simp only at hl2;omega
theorem HW.bytes (h:HW K r E B n M R) (hn:n<=1048576) (lim:Int) (l1:128<=lim) (l2:lim<=1048576):(Seg.fresh M lim).aH=R.map (λd=>(d.1:Int))/\∀ d∈R,(Seg.fresh M lim).bytes M (d.1:Int)=(d.2,0):=by
 obtain ⟨k1,k2⟩:=h.log hn lim l1 l2;have hs:(Seg.fresh M lim).aH=R.map λd=>(d.1:Int):=by unfold Log.aH;rw [k2,ahU];rfl
 refine ⟨hs,λd hd=>?_⟩;have hm:(d.1:Int)∈(Seg.fresh M lim).l.map (·.1):=by
  have:(d.1:Int)∈(Seg.fresh M lim).aH:=by rw [hs];exact adu.2 ⟨d,hd,rfl⟩
  exact this
 obtain ⟨k,hk⟩:=at_mem k1.log hm;unfold Log.bytes;rw [hk];exact h.file d hd
theorem HW.hd {D:List (Nat×List aJ)} (h:HW K r E B n M (D.map λd=>(d.1,mag++encs d.2))) (hn:n<=1048576) (h5:500<n) (hg:∀ d∈D,∀ x∈d.2,dV x) (lim:Int) (l1:128<=lim) (l2:lim<=1048576):HD K r E B n (Seg.fresh M lim) M D:=by
 obtain ⟨k1,k2⟩:=h.log hn lim l1 l2;have hmem:∀ d∈D,(d.1,mag++encs d.2)∈D.map λd=>(d.1,mag++encs d.2):=λd hd=>adu.2 ⟨d,hd,rfl⟩;have hlm:∀ d∈D,d.1<n:=λd hd=>h.lim (d.1,mag++encs d.2) (hmem d hd);have hfl:∀ d∈D,M.all (name d.1)=(mag++encs d.2,0):=λd hd=>h.file (d.1,mag++encs d.2) (hmem d hd);have hgd:∀ d∈D,(∀ x∈d.2,dV x)/\(n<=500->d.2≠[]):=λd hd=>⟨hg d hd,λq=>absurd q oQ⟩;have hus:M.used<=n*400+B:=adT h.used (Nat.le_add_left _ _);have hnm:M.now.length<=n+E:=adT h.names (Nat.le_add_left _ _);clear hmem;refine ⟨k1,?_,?_,hlm,hfl,hgd,hus,hnm,λk i hk hi=>?_⟩
 ·rw [k2,ahU];refine aj6 λd hd=>?_;have hm:mag.length=8:=rfl;simp only [Function.comp_apply,aa7];rw [hm]
  rfl
 ·have:=h.rise;rw [ahB]at this;exact this
 ·obtain ⟨y,hy,e⟩:=h.cover k i hk hi;obtain ⟨d,hd,rfl⟩:=adu.1 hy;exact ⟨d,hd,e⟩
end
def kT:Int->List (Nat×Bs)->Int
 |a,[]=>a
 |a,d::R=>kT (if jK (gI d.2)=true then max a (d.1:Int) else a) R
def cleared (last:Int) (R:List (Nat×Bs)) (M:ak):ak×Int:=
 if (jJ R M).2=0 then (if (lu last R.reverse (jJ R M).1).2=0 then (lu last R.reverse (jJ R M).1).1.dH else lu last R.reverse (jJ R M).1) else jJ R M
def left (last:Int) (R:List (Nat×Bs)):List (Nat×List aJ):=((R.filter λd=>decide ((d.1:Int)<=last)).filter tC).map λd=>(d.1,gI d.2)
section
variable {K r E B n:Nat}{M:ak}{R P:List (Nat×Bs)}{d:Nat×Bs}{b:Bs}{last nw:Int}
theorem left_done (last:Int) (R:List (Nat×Bs)):done (R.filter λd=>decide ((d.1:Int)<=last))=(left last R).map λd=>(d.1,mag++encs d.2):=by
 unfold done left;rw [ahU]
 rfl
theorem HW.cleared (h:HW K r E B n M R) (hn:n<=1048576) (hE:E+R.length<500) (hB:B+(R.map λd=>8+d.2.length).sum<=r) (last:Int) :
  (Seg.cleared last R M).2=0/\HW (K+7*R.length) r (E+R.length) (B+(R.map λd=>8+d.2.length).sum) n (Seg.cleared last R M).1 ((left last R).map λd=>(d.1,mag++encs d.2)) /\
   aA.Grown M (Seg.cleared last R M).1/\(∀ t,t≠aA.tmp->(∀ k:Int,t≠name k)->(Seg.cleared last R M).1.all t=M.all t):=by
 obtain ⟨a1,a2,a3,a4⟩:=HW.JE R [] h hn hE hB;rw [aeV]at a2;obtain ⟨b1,b2,b3,b4⟩:=HW.Xb (last:=last) R.length R rfl h.rise h.lim a2 hn;obtain ⟨c1,c2,c3,c4⟩:=b2.dH;rw [left_done]at c2;unfold Seg.cleared;rw [adU a1,adU b1];exact ⟨c1,c2.mono oQ (ab1 _) (ab1 _),λp hp=>(a3.trans b3) p (by rw [<-c3];exact hp),λt h1 h2=>(c4 t).trans ((b4 t h2).trans (a4 t h1 h2))⟩
theorem QN:∀ (R:List (Nat×Bs)) (a:Int),a<=kT a R/\(∀ d∈R,jK (gI d.2)=true->(d.1:Int)<=kT a R)/\(kT a R=a\/∃ d∈R,jK (gI d.2)=true/\(d.1:Int)=kT a R)
 |[],a=>⟨ape _,λd hd=>(by cases hd),.inl rfl⟩
 |d::R,a=>by
  obtain ⟨i1,i2,i3⟩:=QN R (if jK (gI d.2)=true then max a (d.1:Int) else a);show a<=kT _ R/\(∀ e∈d::R,_->(e.1:Int)<=kT _ R)/\(kT _ R=a\/∃ e∈d::R,_/\(e.1:Int)=kT _ R);generalize hx:kT (if jK (gI d.2)=true then max a (d.1:Int) else a) R=x at *
  by_cases he:jK (gI d.2)=true
  ·rw [adU he]at i1 i3;refine ⟨by omega,λe hm hq=>?_,?_⟩
   ·rcases ad9.1 hm with rfl|hm
    ·omega
    ·exact i2 e hm hq
   ·rcases i3 with q|⟨e,h1,h2,h3⟩
    ·by_cases hc:a<=(d.1:Int)
     ·exact .inr ⟨d,.head _,he,by omega⟩
     ·exact .inl oQ
    ·exact .inr ⟨e,.tail _ h1,h2,h3⟩
  ·rw [abL he]at i1 i3;refine ⟨i1,λe hm hq=>?_,?_⟩
   ·rcases ad9.1 hm with rfl|hm
    ·exact absurd hq he
    ·exact i2 e hm hq
   ·rcases i3 with q|⟨e,h1,h2,h3⟩
    ·exact .inl q
    ·exact .inr ⟨e,.tail _ h1,h2,h3⟩
theorem agT {l:List aJ} (h:jK l=true):l≠[]:=λe=>by rw [e]at h;cases h
theorem aje {d:Nat×Bs} (hd:d∈R) (h1:(d.1:Int)<=last) (h2:gI d.2≠[]):(d.1,gI d.2)∈left last R:=by
 unfold left;refine adu.2 ⟨d,aex.2 ⟨aex.2 ⟨hd,by simpa using h1⟩,?_⟩,rfl⟩;unfold tC;cases hq:gI d.2 with
 |nil=>exact absurd hq h2
 |cons x l=>simp
theorem left_of {y:Nat×List aJ} (hy:y∈left last R):∃ d∈R,(d.1:Int)<=last/\y=(d.1,gI d.2):=by
 unfold left at hy;obtain ⟨d,hd,rfl⟩:=adu.1 hy;obtain ⟨h1,_⟩:=aex.1 hd;obtain ⟨h2,h3⟩:=aex.1 h1;exact ⟨d,h2,by simpa using h3,rfl⟩
theorem ajc:∀ d∈left last R,∀ x∈d.2,dV x:=λy hy x hx=>by
 obtain ⟨d,_,_,rfl⟩:=left_of hy;exact (Iu d.2).1 x hx
theorem ajf (h:R.Pairwise λa b=>a.1<b.1):(left last R).Pairwise λa b=>a.1<b.1:=by
 unfold left;rw [ahB];exact (h.filter _).filter _
theorem ajb (h:R.Pairwise λa b=>a.1<b.1) (hl:last = -1\/∃ d∈R,jK (gI d.2)=true/\(d.1:Int)=last):vk (left last R)/\dw (left last R)=last:=by
 rcases hl with rfl|⟨d,hd,he,rfl⟩
 ·have e:left (-1) R=[]:=by
   rw [List.eq_nil_iff_forall_not_mem];intro y hy;obtain ⟨d,_,h2,_⟩:=left_of hy;omega
  rw [e];exact ⟨λd hd=>by (cases hd),rfl⟩
 ·have hm:=aje (last:=(d.1:Int)) hd (ape _) (agT he);have key:∀ y,(left (d.1:Int) R).getLast?=some y->y=(d.1,gI d.2):=λy hy=>by
   have hym:=apF hy;have h1:((d.1,gI d.2):Nat×List aJ).1<=y.1:=by
    obtain ⟨l,hl⟩:∃ l,left (d.1:Int) R=l++[y]:=by
     obtain ⟨q,hq⟩:=List.getLast?_eq_some_iff.1 hy;exact ⟨q,hq⟩
    have hr:=ajf (last:=(d.1:Int)) h;rw [hl]at hr hm;rcases aeQ.1 hm with q|q
    ·exact Nat.le_of_lt ((anr.1 hr).2.2 _ q y (.head _))
    ·rw [aeG.1 q];exact ab1 _
   obtain ⟨z,hz,h2,rfl⟩:=left_of hym;simp only at h1;have e:z=d:=aa5 (f:=λd:Nat×Bs=>d.1) h hz hd oQ;rw [e]
  cases hg:(left (d.1:Int) R).getLast? with
  |none=>
   rw [aox]at hg;rw [hg]at hm;cases hm
  |some y=>
   have hyy:=key y hg;refine ⟨λe hee=>?_,by unfold dw;rw [hg,hyy]⟩;rw [key e hee];exact he
end
structure nK (i c:Nat) (M:ak):Prop where
 calm:Calm (i*2000) 1048576 M
 names:∀ p∈M.now,∃ k:Nat,k<=20/\p.1=name (k:Int)
 len:M.now.length<=i
 used:M.used<=c*1200
section
set_option maxRecDepth 20000
variable {i j k c e:Nat}{M:ak}{b:Bs}
theorem nK.first:nK 0 0 (ak.new 1048576):=⟨Calm.new _ 1048576 aG,λp hp=>(by cases hp),ab1 0,ab1 0⟩
theorem nK.mono (h:nK i c M) (hj:i<=j) (hc:c<=e):nK j e M:=⟨h.calm.mono oQ,h.names,by have:=h.len;omega,by have:=h.used;omega⟩
theorem nK.create (h:nK i c M) (hk:k<=20):nK (i+1) c (M.create (name (k:Int))).1:=by
 have hc:=(h.calm.create (name (k:Int))).mono (show i*2000+1<=(i+1)*2000 by omega);rcases Pn h.calm.quiet (name (k:Int)) with ⟨_,_,e⟩|⟨hg,hn,hl,_⟩
 ·rw [e]at hc ⊢;exact ⟨hc,h.names,by have:=h.len;omega,by have:=h.used;omega⟩
 ·obtain ⟨_,c2,c3,_,_⟩:=Xn h.calm hg hn hl;refine ⟨hc,λp hp=>?_,?_,by rw [c3];have:=h.used;omega⟩
  ·rw [c2]at hp;rcases ad9.1 ((wU _ _ _).mem_iff.1 hp) with rfl|hp
   ·exact ⟨k,hk,rfl⟩
   ·exact h.names p (aex.1 hp).1
  ·rw [c2];exact adT (aA.aaM _ _ _) (by have:=h.len;omega)
theorem nK.append (h:nK i c M) (s:ByteArray) (hb:b.length<=1200):nK (i+1) (c+1) (M.append s b).1:=by
 have hc:=(h.calm.append s b).mono (show i*2000+1<=(i+1)*2000 by omega);have hnw:=Ws M s b;refine ⟨hc,by rw [hnw];exact h.names,by rw [hnw];have:=h.len;omega,?_⟩;rcases OJ h.calm.quiet s b with ⟨_,e⟩|⟨x,hx,⟨_,e⟩|⟨hr,_⟩⟩
 ·rw [e];have:=h.used;show M.used<=_;omega
 ·rw [e];have:=h.used;show M.used<=_;omega
 ·obtain ⟨_,_,a3,_,_⟩:=Wq h.calm hx b oQ;rw [a3];have:=h.used;omega
theorem nK.hw (h:nK i c M){n:Nat} (hn:21<=n):∃ R,HW (i*2000) 1048576 i (c*1200) n M R/\(R.map λd=>d.2.length).sum=M.used/\R.length<=i:=by
 have hq:=h.calm.quiet;have hk:=h.calm.ok.fU.oM.keys;have hnum:∀ p∈M.now,∃ k:Nat,k<=20/\p.1=name (k:Int)/\number p.1=((k:Int),true):=λp hp=>by
  obtain ⟨k,h1,h2⟩:=h.names p hp;exact ⟨k,h1,h2,by rw [h2];exact Ib k oQ oQ⟩
 have hmem:∀ d∈M.now.map (λp=>((number p.1).1.toNat,(M.file p.2).now)),∃ p∈M.now,d.1<=20/\p.1=name (d.1:Int)/\d.2=(M.file p.2).now:=λd hd=>by
  obtain ⟨p,hp,rfl⟩:=adu.1 hd;obtain ⟨k,h1,h2,h3⟩:=hnum p hp;refine ⟨p,hp,?_,?_,rfl⟩
  ·simp only [h3];omega
  ·simp only [h3];exact h2
 refine ⟨M.now.map λp=>((number p.1).1.toNat,(M.file p.2).now),⟨h.calm,?_,λd hd=>?_,λd hd=>?_,h.used,h.len,λk j hk2 hj=>?_⟩,?_,by rw [abl];exact h.len⟩
 ·have hf:=P6 (M:=M) M.list (by
   rw [hq.list,ahB];exact h.calm.ok.fU.oM)
  have e:(found M M.list).map (·.1)=M.now.map λp=>(number p.1).1:=by
   rw [hq.list];unfold found;have key:∀ l:Names,(∀ p∈l,p∈M.now)->((l.map (·.1)).filterMap λs=>if (number s).2=true then some ((number s).1,(M.size s).1) else none).map (·.1)=l.map λp=>(number p.1).1:=by
    intro l
    induction l with
    |nil=>exact λ_=>rfl
    |cons p l ih=>
     intro hl;obtain ⟨k,h1,h2,h3⟩:=hnum p (hl p (.head _));have ih:=ih λq hq=>hl q (.tail _ hq);rw [aes,List.filterMap_cons,h3];simp only [apc,aes,ih];rw [h3]
   exact key M.now λp hp=>hp
  rw [e,ahB]at hf;rw [ahB];refine hf.imp_of_mem λ{a c} ha hc hlt=>?_;obtain ⟨k1,_,_,e1⟩:=hnum a ha;obtain ⟨k2,_,_,e2⟩:=hnum c hc;simp only [e1,e2]at hlt ⊢;omega
 ·obtain ⟨p,hp,h1,_⟩:=hmem d hd;omega
 ·obtain ⟨p,hp,h1,h2,h3⟩:=hmem d hd;rw [<-h2,all_some hq (Ep hk hp),h3]
 ·have hm:=ji hj;obtain ⟨k2,h1,h2,h3⟩:=hnum _ hm;refine ⟨_,adu.2 ⟨_,hm,rfl⟩,?_⟩;have e:=aaz oQ oQ oQ oQ h2;simp only [h3];omega
 ·rw [ahU]
  rfl
end
end Go.Seg
namespace Go.Tab
open Go.aj (Bs)
theorem Lists.put {V:Type}{m:Bs->Option V}{kv:List (Bs×V)} (h:Lists m kv) (k:Bs) (v:V):Lists (Tab.put m k v) (ins (kv.filter λq=>decide (q.1≠k)) (k,v)):=by
 refine ⟨ZE (h.rise.filter _) λy hy=>by simpa using (aex.1 hy).2,λk' v'=>?_⟩;rw [Kw,aex];unfold Tab.put;by_cases e:k'=k
 ·subst e;rw [adU rfl];constructor
  ·rintro (q|⟨_,q⟩)
   ·cases q;rfl
   ·simp at q
  ·intro q;cases q;exact .inl rfl
 ·rw [abL e];constructor
  ·rintro (q|⟨q,_⟩)
   ·cases q;exact absurd rfl e
   ·exact (h.mem _ _).1 q
  ·intro q;exact .inr ⟨(h.mem _ _).2 q,by simpa using e⟩
end Go.Tab
namespace Go.Rep
open Go.aj (Bs)
open Go.Tab
theorem ZT:∀ (m:Nat) (l:List Row),l.length=m->(∀ x∈l,0<=x.1)->(∀ x∈l,(iJ x).length=32)->∃ kv,Lists (ledger l) kv/\∀ q∈kv,q.1.length=32
 |0,l,hm,_,_=>by
  obtain rfl:=ae9 hm;exact ⟨[],⟨List.Pairwise.nil,λk v=>⟨(λh=>by cases h),(λh=>by cases h)⟩⟩,λq hq=>by cases hq⟩
 |m+1,l,hm,h0,h32=>by
  rcases List.eq_nil_or_concat l with rfl|⟨l',r,rfl⟩
  ·cases hm
  rw [List.concat_eq_append]at *
  obtain ⟨kv,i1,i2⟩:=ZT m l' (by rw [aa7,ae3]at hm;omega) (λx hx=>h0 x (aob _ hx)) (λx hx=>h32 x (aob _ hx));rw [ZU l' r λx hx=>h0 x (aob _ hx)];unfold EL;split
  ·exact ⟨kv,i1,i2⟩
  ·refine ⟨_,i1.put _ _,λq hq=>?_⟩;rcases Kw.1 hq with rfl|hq
   ·exact h32 r yF0
   ·exact i2 q (aex.1 hq).1
end Go.Rep
namespace Go.Seg
open Go.ak
open Go.aj (Bs aJ dK encs dV gy scan qR)
open Go.Rep
section
variable {K r E B n:Nat}{L:Log}{M:ak}{D:List (Nat×List aJ)}{R:List (Nat×Bs)}{last:Int}
theorem HD.stp (h:HD K r E B n L M D) (he:vk D):∃ kv,Tab.Lists (ledger (iH D)) kv/\(∀ q∈kv,q.1.length=32)/\sN D (dw D) ((lQ D).map (upd kv)) (puts kv):=by
 obtain ⟨kv,h1,h2⟩:=ZT _ (iH D) rfl (λx hx=>by obtain ⟨d,_,e,_⟩:=Tv hx;omega) (λx hx=>(h.row hx).2.1.2);exact ⟨kv,h1,h2,rfl,⟨kv,h1,h2,rfl,rfl⟩,he⟩
theorem XO {x:aJ} (h:dV x):9<=(aj.encode x).1.length:=by
 have h1:=aj.SX h.1 h.2 [];have h2:=aj.zW (b:=(aj.encode x).1++[]) (by rw [h1]);rw [h1]at h2;exact h2.1
theorem XQ:∀ {l:List aJ},(∀ x∈l,dV x)->9*l.length<=(encs l).length
 |[],_=>ad4 _
 |x::l,h=>by
  have h1:=XO (h x (.head _));have ih:=XQ λy hy=>h y (.tail _ hy);have e:encs (x::l)=(aj.encode x).1++encs l:=rfl;rw [e,aa7,aev];omega
theorem TT (b:Bs):9*(gI b).length<=b.length:=by
 obtain ⟨h1,h2,_⟩:=Iu b;have h3:=XQ h1;have hm:mag.length=8:=rfl;unfold qo at h2;rw [aa7]at h2;omega
theorem aja (last:Int) (d:Nat×Bs) (R:List (Nat×Bs)):left last (d::R)=(if (d.1:Int)<=last/\tC d=true then [(d.1,gI d.2)] else [])++left last R:=by
 unfold left;rw [ao5];by_cases h1:(d.1:Int)<=last
 ·rw [adU (by simpa using h1),ao5];by_cases h2:tC d=true
  ·rw [adU h2,adU ⟨h1,h2⟩];rfl
  ·rw [abL h2,abL λq=>h2 q.2];rfl
 ·rw [abL (by simpa using h1),abL λq=>h1 q.1];rfl
theorem ZV (last:Int):∀ R:List (Nat×Bs),9*(lS (left last R)).length<=(R.map λd=>d.2.length).sum
 |[]=>ad4 _
 |d::R=>by
  have ih:=ZV last R;have h1:=TT d.2;rw [aja,agX,aa7,aes,apf];split
  ·have e:lS [(d.1,gI d.2)]=gI d.2:=by unfold lS;simp
   rw [e];omega
  ·have e:lS ([]:List (Nat×List aJ))=[]:=rfl;rw [e,ae0];omega
structure nM (K r E B n:Nat) (L:Log) (M:ak) (D:List (Nat×List aJ)):Prop where
 hd:HD K r E B n L M D
 few:(lS D).length<=n
 small:∀ p∈M.now,p.1.size<=24
 thin:n<=500->∀ e∈lS D,e.data.length<=300
theorem jy.t (h:jy K r E B n L M D):nM K r E B n L M D:=⟨h.hd,h.few,h.small,h.thin⟩
theorem nM.fresh (h:nM K r E B n L M D) (lim:Int) (l1:128<=lim) (l2:lim<=1048576):nM K r E B n (Seg.fresh M lim) M D:=⟨h.hd.fresh lim l1 l2,h.few,h.small,h.thin⟩
theorem HW.rpt (h:HW K r E B n M ((left last R).map λd=>(d.1,mag++encs d.2))) (hn:n<=1048576) (h5:500<n) (hs:∀ p∈M.now,p.1.size<=24) (hf:(lS (left last R)).length<=n) (lim:Int) (l1:128<=lim) (l2:lim<=1048576) :
  nM K r E B n (Seg.fresh M lim) M (left last R):=
 ⟨h.hd hn h5 ajc lim l1 l2,hf,hs,λq=>absurd q oQ⟩
end
def jA:Int->List (Nat×Bs)->Int
 |a,[]=>a
 |a,d::R=>jA (if jV d.2=false/\jK (gI d.2)=true then (d.1:Int) else a) R
theorem Ph {z:Int}:∀ {R:List (Nat×Bs)}{a:Int},a<z->(∀ d∈R,(d.1:Int)<z)->jA a R<z
 |[],_,h,_=>h
 |d::R,a,h,hr=>by
  unfold jA;refine Ph ?_ λy hy=>hr y (.tail _ hy);split
  ·exact hr d (.head _)
  ·exact h
def mF (D:List (Nat×List aJ)):List (Nat×Bs):=D.map λd=>(d.1,mag++encs d.2)
section
variable {M:ak}{D:List (Nat×List aJ)}{R:List (Nat×Bs)}{last nw a:Int}{es:List aJ}
theorem JA (h:∀ x∈es,dV x):jV (mag++encs es)=false/\gI (mag++encs es)=es:=by
 have h1:=aj.L8 es h;have hb:jV (mag++encs es)=false:=by unfold jV;rw [h1];rfl
 refine ⟨hb,?_⟩;unfold gI;rw [abL (by rw [hb];decide),h1];exact aj.BJ es 8
theorem Ik {y:Nat×Bs} (h:∀ d∈D,∀ x∈d.2,dV x) (hy:y∈mF D):∃ d∈D,y.1=d.1/\y.2=mag++encs d.2/\jV y.2=false/\gI y.2=d.2:=by
 obtain ⟨d,hd,rfl⟩:=adu.1 hy;obtain ⟨h1,h2⟩:=JA (h d hd);exact ⟨d,hd,rfl,rfl,h1,h2⟩
theorem Xc:∀ {R:List (Nat×Bs)},(∀ d∈R,jV d.2=false)->jJ R M=(M,0)
 |[],_=>rfl
 |d::R,h=>by
  unfold jJ;rw [abL (by rw [h d (.head _)];decide)];exact Xc λe he=>h e (.tail _ he)
theorem agh (h:∀ d∈R,(d.1:Int)<=last):lu last R.reverse M=(M,0):=by
 cases hr:R.reverse with
 |nil=>rfl
 |cons d l=>
  have hd:d∈R:=List.mem_reverse.1 (by rw [hr];exact .head _);have:=h d hd;unfold lu;rw [abL oQ]
theorem QU (hr:D.Pairwise λa b=>a.1<b.1){d:Nat×List aJ} (hd:d∈D):(d.1:Int)<=dw D:=ZL hr hd
theorem ai5 (hne:D≠[]):∃ d∈D,D.getLast?=some d/\dw D=(d.1:Int):=by
 cases hg:D.getLast? with
 |none=>exact absurd (aox.1 hg) hne
 |some d=>exact ⟨d,apF hg,rfl,by unfold dw;rw [hg]⟩
theorem aiY (hr:D.Pairwise λa b=>a.1<b.1) (hg:∀ d∈D,∀ x∈d.2,dV x) (he:vk D) (hn:nw = -1\/nw<=dw D) (h1 : -1<=nw):kT nw (mF D)=dw D:=by
 obtain ⟨a1,a2,a3⟩:=QN (mF D) nw;rcases Classical.em (D=[]) with rfl|hne
 ·have e:kT nw (mF [])=nw:=rfl;have e2:dw ([]:List (Nat×List aJ)) = -1:=rfl;rw [e,e2];rw [e2]at hn;omega
 ·obtain ⟨d,hd,hl,e⟩:=ai5 hne;obtain ⟨_,b2⟩:=JA (hg d hd);have h2:=a2 (d.1,mag++encs d.2) (adu.2 ⟨d,hd,rfl⟩) (by simp only;rw [b2];exact he d hl);simp only at h2;rcases a3 with q|⟨y,hy,_,q⟩
  ·rcases hn with rfl|hn <;> omega
  ·obtain ⟨z,hz,z1,_⟩:=Ik hg hy;have:=QU hr hz;omega
theorem Xj (hr:D.Pairwise λa b=>a.1<b.1) (hg:∀ d∈D,∀ x∈d.2,dV x) (he:vk D):jA (-1) (mF D)=dw D:=by
 rcases List.eq_nil_or_concat D with rfl|⟨D',d,rfl⟩
 ·rfl
 rw [List.concat_eq_append]at *
 have key:∀ (R:List (Nat×Bs)) (a:Int) (y:Nat×Bs),jV y.2=false->jK (gI y.2)=true->jA a (R++[y])=(y.1:Int):=by
  intro R
  induction R with
  |nil=>
   intro a y h1 h2;show (if jV y.2=false/\jK (gI y.2)=true then (y.1:Int) else a)=_;rw [adU ⟨h1,h2⟩]
  |cons x R ih=>
   intro a y h1 h2;exact ih _ y h1 h2
 have e:mF (D'++[d])=mF D'++[(d.1,mag++encs d.2)]:=by unfold mF;rw [aef];rfl
 obtain ⟨b1,b2⟩:=JA (hg d yF0);rw [e,ai6];exact key _ _ (d.1,mag++encs d.2) b1 (by simp only;rw [b2];exact he d yF0)
theorem af9 (hr:D.Pairwise λa b=>a.1<b.1) (hg:∀ d∈D,∀ x∈d.2,dV x):cleared (dw D) (mF D) M=M.dH:=by
 have h1:∀ y∈mF D,jV y.2=false:=λy hy=>by
  obtain ⟨d,hd,_,_,h,_⟩:=Ik hg hy;exact h
 have h2:∀ y∈mF D,(y.1:Int)<=dw D:=λy hy=>by
  obtain ⟨d,hd,e,_⟩:=Ik hg hy;rw [e];exact QU hr hd
 unfold cleared;rw [Xc h1];simp only [apc];rw [agh h2];simp only [apc]
end
open Go.aj (Bs aJ dK)
def MI (b:Bs):List dK:=if jV b=true then aj.qR b else (aj.scan b).1
theorem Ui (b:Bs):(MI b).map (·.e)=gI b:=by
 unfold MI gI;split <;> rfl
end Go.Seg
namespace Go.Proofs.Y
open Go.ak
abbrev Mp:=(Nat×aj.Bs)×Fs×Value
def pV (n:Int) (sv:Value) (at_ e:Int):Array Value:=#[.int .i64 n,sv,.int .i64 at_,errno e]
def cO (y:Mp):List Value:=(pV (y.1.1:Int) y.2.2 (aj.scan y.1.2).2.1 (aj.scan y.1.2).2.2).toList
def vV (y:Mp):Sg:=((y.1.1:Int),y.2)
structure qI (y:Mp):Prop where
 PW:y.2.1.map (·.1)=Seg.MI y.1.2
 key:∀ q∈y.2.1,q.1.e.key.length=32
 sl:∃ a c,y.2.2=.slice a y.2.1.length c
theorem Rn (y:Mp):(cO y).length=4:=rfl
theorem aks:tH prog 189=some [(0,1),(1,1),(2,1),(3,1)]:=by kernel_rfl
theorem Du:kD prog 189=some (.agg (pV 0 (.slice none 0 0) 0 0)):=by kernel_rfl
theorem al4 (n:Int) (w:World):(Instr.build 189 #[(0,.int .i64 n)]).run prog w=.ok (.agg (pV n (.slice none 0 0) 0 0)) w:=
 apA (P:=prog) [(0,.int .i64 n)] aks Du (by
  intro x hx;rw [aeG.1 hx];exact ⟨0,rfl,by show 0+1<=4;decide⟩) w
theorem afq {P:Program}{ops:Array Oper}{rest:List Oper}{w:World}{a:Act}{Q:Exit->Act->World->Prop}{dst:Option Tmp}{t ty:TypeId}{pos:String}{after:Array Edge}{x:Operand} (h:Stop (wpList P ops Q (⟨dst,.build ty #[(0,x)],t,pos,after,none⟩::rest) a w)):wpList P ops Q (⟨dst,.build ty #[(0,x)],t,pos,after,none⟩::rest) a w:=h.o
def ae4 (w0:World) (lv:Value) (ys:List Mp) (F:List aF) (w:World):Prop:=
 (∀ y∈ys,qI y)/\(∃ a c,lv=.slice a ys.length c)/\∃ zs:List Sg,(∀ y∈ys,vV y∈zs)/\Sat w0 w (aC 189 4 lv (ys.flatMap cO)::dY zs::F)
def ae6 (w0:World) (R:List (Nat×aj.Bs)) (F:List aF) (v:Value) (w:World):Prop:=
 ∃ (lv:Value) (ys:List Mp),v=.tuple #[lv,errno 0]/\ys.map (·.1)=R/\ae4 w0 lv ys F w
section
variable {R:List (Nat×aj.Bs)}
theorem SA (hL:L.Ok) (hM:M.Ok K) (hs:L.aH=R.map λd=>(d.1:Int)) (hb:∀ d∈R,L.bytes M (d.1:Int)=(d.2,0)) (hn:R.length<=65536) (hH:Ro w0 F Half) (h:Sat w0 w (aV p m L::aI m M::F)) :
  Calls prog 41 #[ptr p] w (aN λv w'=>ae6 w0 R (aV p m L::aI m M::F) v w'):=by
 have hse:=En hL h
 have uh:=uQ (show ∀ d∈R,d.2.length<=16777216 from λd hd=>by
  have h1:=Seg.DZ (L:=L) hM (d.1:Int);rw [hb d hd]at h1;exact h1)
 have Hby:=uQ (λ(d:Nat×aj.Bs) (hd:d∈R) (w':World) (G:List aF) (hw:Sat w0 w' (aV p m L::aI m M::G))=>show Calls prog 22 #[ptr p,.int .i64 (d.1:Int)] w' (aN λv w''=>∃ bv,v=.tuple #[bv,errno 0]/\Sat w0 w'' (aY bv d.2::aV p m L::aI m M::G)) from by
  have h1:=QY hL hM (d.1:Int) hw;rw [hb d hd]at h1;exact h1)
 have hsl:L.aH.length=R.length:=by rw [hs,abl]
 have Hs:=uQ hs;have HH:=uQ hH;have Hn:=uQ hn;have qh:=uQ hsl;clear hL hM hb hs hH hn hsl;generalize L.aH=S at *
 go_enter func41,ntmps41;go_wp2_with fail;refine hse.mono ?_;rintro e w1 ⟨v,rfl,hS⟩;clear hse h;obtain ⟨a,c,rfl⟩:=QM (Sat.rd hS);have h0:Sat w0 w1 (aC 189 4 (.slice none 0 0) (([]:List Mp).flatMap cO)::dY []::aC 3 1 (.slice a S.length c) (ints S)::aV p m L::aI m M::F):=Sat.dO.2 (Sat.emp.2 hS);clear hS;go_wp2_with fail
 go_loopg [4,13] S.length (λg ov iq wr=>∃ (i:Nat) (ys:List Mp) (zs:List Sg),g=S.length-i/\i<=S.length/\iq=.int .i64 i/\ys.map (·.1)=R.take i/\(∀ y∈ys,qI y)/\(∃ a c,ov=.slice a ys.length c)/\(∀ y∈ys,vV y∈zs) /\
  Sat w0 wr (aC 189 4 ov (ys.flatMap cO)::dY zs::aC 3 1 (.slice a S.length c) (ints S)::aV p m L::aI m M::F))
 case atStart=>exact ⟨0,[],[],rfl,ad4 _,rfl,rfl,(λ_ h=>nomatch h),⟨none,0,rfl⟩,(λ_ h=>nomatch h),h0⟩
 case round=>
  obtain ⟨i,ys,zs,rfl,hi,rfl,hys,hok,hov,hz,hS⟩:=hrel;clear h0;by_cases hlt:i<S.length;rotate_left
  ·have c1:¬ (i:Int)<(S.length:Int):=by omega
   have xO:=uQ (show ys.map (·.1)=R by rw [hys,adZ (by have:=qh.o;omega)]);have bI:=uQ (And.intro hok (And.intro hov hz));clear hys hok hov hz hlt hi;go_wp2_with fail
   go_ret2
   exact ⟨_,rfl,_,ys,rfl,xO.o,bI.o.1,bI.o.2.1,zs,bI.o.2.2,hS.sb⟩
  have c1:(i:Int)<(S.length:Int):=oQ;have hwi:IntKind.i64.wrap ((i:Int)+1)=(i:Int)+1:=acO _ (by have:=Hn.o;have:=qh.o;omega);obtain ⟨⟨n,b⟩,hd⟩:∃ d,R[i]?=some d:=⟨_,aaJ (by rw [<-qh.o];exact hlt)⟩;have hdm:=acr hd;have hsi:S[i]?=some (n:Int):=by rw [Hs.o,ad1,hd];rfl
  obtain ⟨bk,off,cc,hsv,hc0⟩:=Em (Sat.rd (hS.pk (A:=aC 3 1 (.slice a S.length c) (ints S)))) hsi;cases hsv;have dP:=uQ (show R.take (i+1)=R.take i++[(n,b)] by rw [aeN,hd,ahW]);have hbl:=uh.o _ hdm;have Hy:=uQ (Hby.o _ hdm);have aS:=uQ hlt;have o9:=uQ (And.intro hys (And.intro hok hz));have hyl:ys.length=i:=by
   have h1:=aeO List.length hys;rw [abl,adt]at h1;have:=qh.o;omega
  obtain ⟨zQ,zS,rfl⟩:=hov;have hlen:(ys.flatMap cO).length<=2147483648:=by
   rw [iK (k:=4) (λy _=>Rn y)];have:=Hn.o;have:=qh.o;omega
  have Hlen:=uQ hlen;clear hys hok hz hlt hi hd hdm hsi hyl hlen;go_wp2_with fail;refine (Hy.o _ _ (hS.sb:Sat w0 wr (aV p m L::aI m M::aC 189 4 (.slice zQ ys.length zS) (ys.flatMap cO)::dY zs::aC 3 1 (.slice (some ⟨bk,off,none⟩) S.length c) (ints S)::F))).mono ?_;rintro e w2 ⟨v,rfl,bv,rfl,h2⟩;clear hS hc0;obtain ⟨ba,bn,bc,rfl,hbn,hcap,hl⟩:=Bj h2;obtain rfl:bn=b.length:=hl
  go_wp2_with (first
   |((with_reducible refine afq ⟨?_⟩);refine EU ah (al4 n) ?_)
   |(with_reducible apply eG))
  refine ⟨eU Du h2 rfl ?_⟩;intro b9 w3 h3;go_wp2_with (with_reducible apply bW);refine ⟨fG (pV n (.slice none 0 0) 0 0) h3 ah ah ah bU au ah ?_⟩;intro w4 h4;clear h2 h3;have h5:Sat w0 w4 (aY (.slice ba b.length bc) b::pt b9 (.cells (pV n (.slice none 0 0) 0 0) 189 (0,0))::aC 189 4 (.slice zQ ys.length zS) (ys.flatMap cO)::dY zs::aC 3 1 (.slice (some ⟨bk,off,none⟩) S.length c) (ints S)::aV p m L::aI m M::F):=h4.sb;clear h4;go_wp2_with fail;have hfs:=Qa b (Ro.aY _ _) ⟨_,_,_,rfl,hbn,hcap⟩ (Ro.os HH.o) oQ h5;refine hfs.mono ?_;rintro e w6 ⟨v,rfl,fs,ov,hfs,hfk,rfl,h6⟩;obtain ⟨oa,oc,rfl⟩:=iP (f:=λq:aj.dK×Value=>nP q.1 q.2) (k:=36) (l:=fs) (λq hq=>xY q.1 q.2 (hfk q hq)) (Sat.rd h6) aG
  have h7:Sat w0 w6 (pt b9 (.cells (pV n (.slice none 0 0) 0 0) 189 (0,0))::aC 154 36 (.slice oa fs.length oc) (iF fs)::kQ fs::aY (.slice ba b.length bc) b::aC 189 4 (.slice zQ ys.length zS) (ys.flatMap cO)::dY zs::aC 3 1 (.slice (some ⟨bk,off,none⟩) S.length c) (ints S)::aV p m L::aI m M::F):=h6.sb;clear h5 h6;have Hb:=uQ (show Seg.jV b=((aj.scan b).2.2 != 0) from rfl);have yX:=uQ (show Seg.MI b=if Seg.jV b=true then aj.qR b else (aj.scan b).1 from rfl);have VE:=uQ (λ(jW:Fs) (sv:Value)=>show cO ((n,b),jW,sv)=(pV n sv (aj.scan b).2.1 (aj.scan b).2.2).toList from rfl);have nJ:=uQ (And.intro hfs hfk);clear hfs hfk;generalize aj.scan b=sc at *
  obtain ⟨TW,kN,kV⟩:=sc;dsimp only at Hb yX VE nJ;dsimp only;go_wp2_with (with_reducible apply bW);refine ⟨jM (cs':=pV n (.slice oa fs.length oc) 0 0) h7 ah ah ah bU bG au ah ?_⟩;intro w8 h8;clear h7;go_wp2_with (with_reducible apply bW);refine ⟨jM (cs':=pV n (.slice oa fs.length oc) kN 0) h8 ah ah ah bU bG au ah ?_⟩;intro w9 h9;clear h8;go_wp2_with (with_reducible apply bW);refine ⟨jM (cs':=pV n (.slice oa fs.length oc) kN kV) h9 ah ah ah bU bG au ah ?_⟩;intro w10 h10;clear h9;replace h10:Sat w0 w10 (pt b9 (.cells #[.int .i64 n,.slice oa fs.length oc,.int .i64 kN,.int .i64 kV] 189 (0,0))::aC 154 36 (.slice oa fs.length oc) (iF fs)::kQ fs::aY (.slice ba b.length bc) b::aC 189 4 (.slice zQ ys.length zS) (ys.flatMap cO)::dY zs::aC 3 1 (.slice (some ⟨bk,off,none⟩) S.length c) (ints S)::aV p m L::aI m M::F):=h10
  have e3:w10.cell? ⟨b9,3,none⟩=some (.int .i64 kV):=h10.cellP aK 3 rfl;by_cases hz:kV=0
  focus
   have hb0:(kV != 0)=false:=by rw [hz];rfl
   have VX:=uQ (show qI ((n,b),fs,.slice oa fs.length oc) from ⟨by rw [yX.o,Hb.o,hb0];exact nJ.o.1,nJ.o.2,_,_,rfl⟩);clear hz yX nJ;obtain ⟨jW,hf2⟩:∃ jW,jW=fs:=⟨fs,rfl⟩;obtain ⟨oH,ho2⟩:∃ x,x=oa:=⟨oa,rfl⟩;obtain ⟨oI,ho3⟩:∃ x,x=oc:=⟨oc,rfl⟩;obtain ⟨w12,aij⟩:∃ x,x=w10:=⟨w10,rfl⟩;subst hf2 ho2 ho3 aij;have h13:Sat w0 w12 (aC 189 4 (.slice zQ ys.length zS) (ys.flatMap cO)::pt b9 (.cells (pV n (.slice oH jW.length oI) kN kV) 189 (0,0))::aC 154 36 (.slice oH jW.length oI) (iF jW)::kQ jW::dY zs::aC 3 1 (.slice (some ⟨bk,off,none⟩) S.length c) (ints S)::aV p m L::aI m M::F):=h10.sb;clear h10
  rotate_left
  focus
   have hb0:(kV != 0)=true:=ahV.2 hz;clear hz;have h11:Sat w0 w10 (aY (.slice ba b.length bc) b::pt b9 (.cells (pV n (.slice oa fs.length oc) kN kV) 189 (0,0))::aC 189 4 (.slice zQ ys.length zS) (ys.flatMap cO)::dY zs::aC 3 1 (.slice (some ⟨bk,off,none⟩) S.length c) (ints S)::aV p m L::aI m M::F):=h10.sb;clear h10;go_wp2_with fail;refine (ahm b (Ro.aY _ _) ⟨_,_,_,rfl,hbn,hcap⟩ (Ro.os HH.o) (adT hbl aG) h11).mono ?_;rintro e jZ ⟨v,rfl,jW,YW,Qo,h12⟩;obtain ⟨oH,oI,rfl⟩:=iP (f:=λq:aj.dK×Value=>nP q.1 q.2) (k:=36) (l:=jW) (λq hq=>xY q.1 q.2 (Qo q hq)) (Sat.rd h12) aG;clear h11 e3;have VX:=uQ (show qI ((n,b),jW,.slice oH jW.length oI) from ⟨by rw [yX.o,Hb.o,hb0];exact YW,Qo,_,_,rfl⟩);clear yX nJ YW Qo;go_wp2_with (with_reducible apply bW)
   refine ⟨jM (cs':=pV n (.slice oH jW.length oI) kN kV) (h12.sb:Sat w0 jZ (pt b9 (.cells (pV n (.slice oa fs.length oc) kN kV) 189 (0,0))::aC 154 36 (.slice oH jW.length oI) (iF jW)::kQ jW::aC 189 4 (.slice zQ ys.length zS) (ys.flatMap cO)::dY zs::aC 3 1 (.slice (some ⟨bk,off,none⟩) S.length c) (ints S)::aV p m L::aI m M::F)) ah ah ah bU bG au ah ?_⟩;intro w12 fP;clear h12;have h13:Sat w0 w12 (aC 189 4 (.slice zQ ys.length zS) (ys.flatMap cO)::pt b9 (.cells (pV n (.slice oH jW.length oI) kN kV) 189 (0,0))::aC 154 36 (.slice oH jW.length oI) (iF jW)::kQ jW::dY zs::aC 3 1 (.slice (some ⟨bk,off,none⟩) S.length c) (ints S)::aV p m L::aI m M::F):=fP.sb;clear fP
  all_goals
   go_wp2_with (first
    |((with_reducible refine bC ⟨?_⟩);refine iC h13 ah aT underlying189 rfl au ?_)
    |((with_reducible refine jh ⟨?_⟩);refine jg (e:=189) (sz:=4) (dF:=48) au h13 ah rfl ah bG ?_;intro bN wN hN)
    |(with_reducible apply fZ))
   refine ⟨jF 189 4 48 au hN ah ah aT aK ah bG ah Hlen.o bG bG (ys:=(pV n _ kN kV).toList) rfl ?_⟩;intro b' n' c' kC fP;have hn':n'=ys.length+1:=by
    obtain ⟨_,_,_,he,hl2,_⟩:=Sat.rd fP;cases he;rw [aa7,iK (k:=4) (λy _=>Rn y)]at hl2;change 4*ys.length+4=_ at hl2;omega
   subst hn';go_wp2_with fail
   go_roundg (S.length-(i+1))
   case measure=>have:=aS.o;omega
   case rel=>
    refine ⟨i+1,ys++[((n,b),jW,.slice oH jW.length oI)],vV ((n,b),jW,.slice oH jW.length oI)::zs,rfl,aS.o,by first|rfl|go_num,?_,?_,⟨_,_,by rw [aa7];rfl⟩,?_,?_⟩;rotate_left 3
    ·rw [aeB,aen,aiq,aei,VE.o];exact (afM (y:=vV ((n,b),jW,.slice oH jW.length oI)) (fP.sb:Sat w0 kC (aC 154 36 (.slice oH jW.length oI) (iF jW)::kQ jW::dY zs::aC 189 4 (.slice (some ⟨b',0,none⟩) (ys.length+1) c') (ys.flatMap cO++(pV n (.slice oH jW.length oI) kN kV).toList)::aC 3 1 (.slice (some ⟨bk,off,none⟩) S.length c) (ints S)::aV p m L::aI m M::F))).sb
    ·rw [aef,o9.o.1,dP.o];rfl
    ·intro y hy;rcases aeQ.1 hy with hy|hy
     ·exact o9.o.2.1 y hy
     ·rw [aeG]at hy;subst hy;exact VX.o
    ·intro y hy;rcases aeQ.1 hy with hy|hy
     ·exact List.mem_cons_of_mem _ (o9.o.2.2 y hy)
     ·rw [aeG]at hy;subst hy;exact List.mem_cons_self ..
end
end Go.Proofs.Y
