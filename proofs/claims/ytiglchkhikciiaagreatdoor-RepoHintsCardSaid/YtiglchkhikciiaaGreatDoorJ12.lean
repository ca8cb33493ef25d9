import Derived.Test.YtiglchkhikciiaaGreatDoorJ11
import Derived.Test.YtiglchkhikciiaaGreatDoorRows
import Derived.Test.YtiglchkhikciiaaGreatDoorCards
import Derived.Test.YtiglchkhikciiaaGreatDoorTie
import Derived.ProofKit
import Derived.LaidMore
import Derived.OpenShut
import Derived.ShutString
import Derived.SevenTiedAt
set_option linter.unusedVariables false
set_option maxHeartbeats 128000000
namespace Go.Proofs.YtiglchkhikciiaaGreatDoor
open Go Go.Sl Go.ay Go.MapKept Go.RowKit
abbrev PV:=aj.Bs×aj.Bs×Value
def gu (q:PV):List Value:=aA q.1++[q.2.2]
def DC (q:PV):aj.Bs×aj.Bs:=(q.1,q.2.1)
def jo (ps:List PV):aG:=stars (ps.map fun q=>bJ q.2.2 q.2.1)
theorem wH (q:PV) (hk:q.1.length=32):(gu q).length=33:=by unfold gu;rw [aal,aV,hk];rfl
theorem afK (q:PV){a:Option Addr}{n c:Nat} (h:q.2.2 = .slice a n c):(gu q).all (·.oneCell')=true:=by
 unfold gu
 have hb:(aA q.1).all (·.oneCell')=true:=qJ _
 rw [ajZ,hb,h];rfl
theorem abb (ps:List PV) (q:PV):jo (ps++[q])=star (bJ q.2.2 q.2.1) (jo ps):=by
 unfold jo
 rw [aey,pK,Aj]
 show star (stars [bJ q.2.2 q.2.1]) _=_
 rw [Ak]
theorem afs:qW Tryz.prog 122=some [(0,32),(32,1)]:=by kernel_rfl
theorem ai6:jy Tryz.prog 122=some (.agg (gu (aj.zero32,[],.slice none 0 0)).toArray):=by kernel_rfl
theorem agT (k:aj.Bs) (hk:k.length=32) (d:aj.Bs) (a:Option Addr) (n c:Nat) (w:World) :
  (Instr.build 122 #[(0,.agg (aA k).toArray),(1,.slice a n c)]).run Tryz.prog w = .ok (.agg (gu (k,d,.slice a n c)).toArray) w:=by
 have hbk:(aA k).toArray.size=32:=by rw [aaI,aV,hk]
 refine (ak8 (P:=Tryz.prog) [(0,.agg (aA k).toArray),(1,.slice a n c)] afs ai6 (by
  intro p' hp
  simp only [aer,ajU,alb]at hp
  have hzz:(Value.agg (gu (aj.zero32,[],.slice none 0 0)).toArray).cells.size=33:=by
   show (gu (aj.zero32,[],.slice none 0 0)).toArray.size=33
   rw [aaI,wH _ rfl]
  rw [hzz]
  rcases hp with rfl|rfl
  ·refine ⟨0,?_,?_⟩
   ·show some (0,32)=some (0,(aA k).toArray.size);rw [hbk]
   ·show 0+(aA k).toArray.size≤33;omega
  ·exact ⟨32,rfl,by show 32+1≤33;omega⟩) w).trans ?_
 congr 2
 show dM (dM (gu (aj.zero32,[],.slice none 0 0)).toArray 0 (aA k)) 32 [.slice a n c]=_
 have h1:dM (gu (aj.zero32,[],.slice none 0 0)).toArray 0 (aA k)=(aA k++Value.slice none 0 0::[]).toArray:=by
  apply nT
  rw [jU _ _ _ (by rw [aaI,wH _ rfl,aV,hk];decide),ajD,ajd,aen,aV,hk,adM]
  rfl
 rw [h1]
 exact MO _ _ _ _ (by rw [aV,hk])
section
variable {w0 w:World}{F:List aG}{r m K r0 E n:Nat}{seg:Int}{o oc:aj.Bs→Option aj.Bs}{d:Bool}
set_option maxRecDepth 20000 in
theorem LQ {p ps pn B B0:Nat}{L:Seg.Log}{M:ay}{C:List (List aj.aP)} (hf:Seg.Rp K r0 E B0 n L M C) (hB:B≤200) (hH:Ro w0 F Half) (h:Sat w0 w (bG r m seg p ps pn d::aJ pn (Rep.eX (Rep.dJ 0 C)) B::aI p m L::aH m M::F)) :
  Calls Tryz.prog 13 #[ptr r] w (aO fun v w'=>∃ (mv:Value) (qs:List PV),v = .tuple #[mv,.bool true]∧(Tab.Lists (Rep.kK C.flatten) (qs.map DC)∧(∀ q∈qs,q.1.length=32∧∃ a n c,q.2.2 = .slice a n c)∧qs.length≤200∧(∀ q∈qs,q.2.1.length≤16384)) ∧
   Sat w0 w' (aC 122 33 mv (qs.flatMap gu)::jo qs::bG r m seg p ps pn d::aJ pn (Rep.eX (Rep.dJ 0 C)) B::aI p m L::aH m M::F)):=by
 have Hf:=uQ hf;have HH:=uQ hH
 have HB:=uQ hB
 have hks:=agu (adr hB aN) h
 clear hf hH hB h
 go_enter Tryz.func13,Tryz.ntmps13
 go_wp2_with fail
 refine hks.mono ?_
 rintro ee w1 ⟨kv,rfl,kl,hkl,h1⟩
 clear hks
 have Hl:=uQ hkl.1
 have mY:=uQ (show ∀ q∈kl,(aA q.1).length=32 from fun q hq=>by rw [aV];exact hkl.2.1 q hq)
 have Hk:=uQ hkl.2.1
 have I9:=uQ (show kl.length≤200 from adr hkl.2.2 HB.out)
 have jZ:=uQ (Rep.afl (es:=C.flatten) (Rep.Gw 0 C) hkl.1)
 obtain ⟨la,lc,rfl⟩:=iD mY.out (Sat.rd h1) aN
 have h2:Sat w0 w1 (aC 122 33 (.slice none 0 0) []::jo []::aC 31 32 (.slice la kl.length lc) (kl.flatMap fun q=>aA q.1)::bG r m seg p ps pn d::aJ pn (Rep.eX (Rep.dJ 0 C)) B::aI p m L::aH m M::F):=Sat.fD.2 (Sat.emp.2 h1)
 clear hkl h1
 go_wp2_with fail
 go_loopg [4,6] kl.length (fun g ov iq wr=>∃ (i:Nat) (qs:List PV),g=kl.length - i∧i≤kl.length∧iq = .int .i64 i∧(qs.map DC=(Rep.uD C.flatten kl).take i∧(∀ q∈qs,q.1.length=32∧∃ a n c,q.2.2 = .slice a n c)∧(∀ q∈qs,q.2.1.length≤16384)) ∧
  Sat w0 wr (aC 122 33 ov (qs.flatMap gu)::jo qs::aC 31 32 (.slice la kl.length lc) (kl.flatMap fun q=>aA q.1)::bG r m seg p ps pn d::aJ pn (Rep.eX (Rep.dJ 0 C)) B::aI p m L::aH m M::F))
 case atStart=>exact ⟨0,[],rfl,afm _,rfl,⟨rfl,(fun q hq=>by cases hq),(fun q hq=>by cases hq)⟩,h2⟩
 case round=>
  obtain ⟨i,qs,rfl,hi,rfl,⟨KX,TY,TW⟩,hS⟩:=hrel
  clear h2
  have Po:=uQ KX;have Hq:=uQ TY;have Pm:=uQ TW
  have Ua:qs.length=i:=by
   have:=aje List.length KX
   unfold Rep.uD at this
   rw [aaJ,acJ,aaJ]at this
   omega
  have Pn:=uQ Ua
  clear KX TY TW Ua
  by_cases hlt:i<kl.length
  rotate_left
  ·obtain rfl:i=kl.length:=by omega
   have c1:¬ (kl.length:Int)<(kl.length:Int):=oQ
   have hle:=WB (hS.sb:Sat w0 wr (bG r m seg p ps pn d::aJ pn (Rep.eX (Rep.dJ 0 C)) B::F))
   clear hlt hi
   go_wp2_with fail
   refine hle.mono ?_
   rintro ee w9 ⟨v,rfl,t,⟨t1,t2⟩,rfl,rfl⟩
   clear hle
   have htn:(t.n:Int)=(kl.length:Int):=by rw [Tab.aeg t1 t2 Hl.out]
   rw [htn]
   have heq:((kl.length:Int)==(kl.length:Int))=true:=beq_self_eq_true _
   go_wp2_with fail
   go_ret2
   refine ⟨_,rfl,_,qs,rfl,⟨?_,Hq.out,by rw [Pn.out];exact I9.out,Pm.out⟩,hS.sb⟩
   rw [Po.out,aeb (by unfold Rep.uD;rw [aaJ];exact acy _)]
   exact jZ.out
  have c1:(i:Int)<(kl.length:Int):=oQ
  have hwi:IntKind.i64.wrap ((i:Int)+1)=(i:Int)+1:=acI _ (by have:=I9.out;omega)
  obtain ⟨⟨k,pl⟩,hx⟩:∃ q,kl[i]?=some q:=⟨_,aak hlt⟩
  have hxm:=abA hx
  have Hxk:=uQ (Hk.out _ hxm)
  have hmk:=(Hl.out.mem k pl).1 hxm
  obtain ⟨data,g1,g2,g3,g4,g5,g6⟩:=Hf.out.got hmk
  obtain ⟨bk,off,c',hsv,hcell⟩:=iC (f:=fun q:aj.Bs×Seg.aU=>aA q.1) (k:=32) mY.out (Sat.rd (hS.pick fG)) hx aN
  cases hsv
  have bT:=uQ hlt
  have fB:=uQ (show (Rep.uD C.flatten kl).take (i+1)=(Rep.uD C.flatten kl).take i++[(k,data)] by
   unfold Rep.uD
   rw [← ala,← ala,ajL,hx,ajY,aey,ag8,ajP]
   simp only
   rw [g2];rfl)
  have hgt:=agt (by have:=HB.out;omega) Hxk.out pl hmk (Ro.os HH.out) Hf.out.hg.keeps.log Hf.out.hg.keeps.calm.ok g4 g5 data oQ g1
   (hS.sb:Sat w0 wr (bG r m seg p ps pn d::aJ pn (Rep.eX (Rep.dJ 0 C)) B::aI p m L::aH m M::aC 122 33 u4 (qs.flatMap gu)::jo qs::aC 31 32 (.slice (some ⟨bk,off,none⟩) kl.length lc) (kl.flatMap fun q=>aA q.1)::F))
  have YZ:=uQ (show data.length≤16384 by omega)
  clear hxm hlt hi hmk g1 g2 g3 g4 g5 g6 hS
  go_wp2_with ((with_reducible refine bD ⟨?_⟩);refine gU (b:=bk) (o:=off+i * 32) (aA k) ah hcell Tryz.underlying31 rfl (by rw [aV,Hxk.out];kernel_rfl) ?_)
  refine hgt.mono ?_
  rintro ee w5 ⟨v,rfl,bv,va,vn,vc,rfl,rfl,h5⟩
  clear hgt hcell
  replace h5:Sat w0 w5 (aC 122 33 u4 (qs.flatMap gu)::bJ (.slice va vn vc) data::jo qs::aC 31 32 (.slice (some ⟨bk,off,none⟩) kl.length lc) (kl.flatMap fun q=>aA q.1)::bG r m seg p ps pn d::aJ pn (Rep.eX (Rep.dJ 0 C)) B::aI p m L::aH m M::F):=h5.sb
  obtain ⟨bk2,off2,c2,e2,hcell⟩:=iC (f:=fun q:aj.Bs×Seg.aU=>aA q.1) (k:=32) mY.out (Sat.rd (h5.pick iZ)) hx aN
  cases e2
  have hle:(qs.flatMap gu).length≤2147483648:=by
   rw [iE (k:=33) fun q hq=>wH q (Hq.out q hq).1,Pn.out];have:=I9.out;have:=bT.out;omega
  go_wp2_with (first
   |((with_reducible refine bD ⟨?_⟩);refine gU (b:=bk) (o:=off+i * 32) (aA k) ah hcell Tryz.underlying31 rfl (by rw [aV,Hxk.out];kernel_rfl) ?_)
   |((with_reducible apply Ig);refine ⟨?_⟩;refine yR (ps:=#[(0,.agg (aA k).toArray),(1,.slice va vn vc)]) (by simp only [ajR,ag8,ajP];rfl) (fun w=>agT k Hxk.out data va vn vc w) ?_)
   |((with_reducible refine ny ⟨?_⟩);refine nH (e:=122) (sz:=33) (dS:=56) au h5 ah (cs:=(gu (k,data,.slice va vn vc)).toArray) rfl (by rw [aaI,wH _ Hxk.out]) bF ?_;intro bN wN hN)
   |((with_reducible refine lg ⟨?_⟩);refine nG 122 33 56 au hN ah ah (aW aT) aT (by rw [aaI,wH _ Hxk.out]) (acy 1) (by rw [adM];exact afK _ rfl) hle (by rw [aaI,wH _ Hxk.out];decide) aN rfl ?_;intro bA nA cA wA hA))
  go_roundg (kl.length - (i+1))
  case measure=>have:=bT.out;omega
  case rel=>
   refine ⟨i+1,qs++[(k,data,.slice va vn vc)],rfl,bT.out,by first|rfl|go_num,⟨?_,fun q hq=>?_,fun q hq=>?_⟩,?_⟩
   ·rw [aey,Po.out,fB.out];rfl
   ·rcases ajk.1 hq with hq|hq
    ·exact Hq.out q hq
    ·rw [aiR.1 hq];exact ⟨Hxk.out,_,_,_,rfl⟩
   ·rcases ajk.1 hq with hq|hq
    ·exact Pm.out q hq
    ·rw [aiR.1 hq];exact YZ.out
   ·rw [ajj,List.flatMap_singleton,abb]
    have h10:Sat w0 wA (bJ (.slice va vn vc) data::jo qs::aC 122 33 (.slice (some ⟨bA,0,none⟩) nA cA) (qs.flatMap gu++(gu (k,data,.slice va vn vc)).toArray.toList)::aC 31 32 (.slice (some ⟨bk,off,none⟩) kl.length lc) (kl.flatMap fun q=>aA q.1)::bG r m seg p ps pn d::aJ pn (Rep.eX (Rep.dJ 0 C)) B::aI p m L::aH m M::F):=hA.sb
    exact (Sat.star.2 h10).aZ
theorem aeA (hn:n≤200) (hH:Ro w0 F Half) (h:fV w0 r m seg K r0 E n o oc d F w) :
  Calls Tryz.prog 13 #[ptr r] w (aO fun v w'=>∃ (mv:Value) (qs:List PV),v = .tuple #[mv,.bool true]∧(Tab.Lists o (qs.map DC)∧(∀ q∈qs,q.1.length=32∧∃ a n c,q.2.2 = .slice a n c)∧qs.length≤200∧(∀ q∈qs,q.2.1.length≤16384)) ∧
   fV w0 r m seg K r0 E n o oc d (aC 122 33 mv (qs.flatMap gu)::jo qs::F) w'):=by
 obtain ⟨ps,p,pn,pi,B,B2,B0,uv,tv,N,us,L,M,C,C0,hf,hS⟩:=h
 refine (LQ (F:=cZ ps N pi uv tv::aJ pi (Rep.eX (Rep.dJ 0 C0)) B2::aC 73 3 uv (us.flatMap bI)::F) hf.rp (adr hf.b1 hn) (Ro.os hH) hS).mono ?_
 rintro e w' ⟨v,rfl,mv,qs,rfl,hq,h2⟩
 exact ⟨_,rfl,mv,qs,rfl,by rw [hf.now];exact hq,ps,p,pn,pi,B,B2,B0,uv,tv,N,us,L,M,C,C0,hf,h2.sb⟩
end
theorem V5 (q:PV){j:Nat}{v:Value} (h:(aA q.1)[j]?=some v):(gu q)[j]?=some v:=by
 unfold gu
 rw [adV (abl.1 h).1];exact h
theorem V4 (q:PV) (hk:q.1.length=32):(gu q)[32]?=some q.2.2:=by
 unfold gu
 rw [adQ (by rw [aV];omega),aV,hk];rfl
theorem aeK (x y:Operand) (k l:aj.Bs) (hk:k.length=32) (hl:l.length=32) (w:World):((do eqGuard .neq 31 x y (.agg (aA k).toArray) (.agg (aA l).toArray);binOp .neq 31 (.agg (aA k).toArray) (.agg (aA l).toArray)):Sem Value).run Tryz.prog w = .ok (.bool (!decide (k=l))) w:=by
 have h:=U4 k l hk hl w
 simp [eqGuard,h]
section
variable {w0 w:World}{F:List aG}{av bv mv:Value}
set_option maxRecDepth 20000 in
theorem Xk (ps qs:List PV) (he:ps.map DC=qs.map DC) (hp:∀ q∈ps,q.1.length=32) (ha:Ro w0 F (bg 33 av (ps.flatMap gu))) (hb:Ro w0 F (bg 33 bv (qs.flatMap gu))) (hda:∀ q∈ps,Ro w0 F (bg 1 q.2.2 (aA q.2.1))) (hdb:∀ q∈qs,Ro w0 F (bg 1 q.2.2 (aA q.2.1)))
  (hlen:ps.length≤1073741824) (hdl:∀ q∈ps,q.2.1.length≤1073741824) (h:Sat w0 w F) :
  Calls Tryz.prog 16 #[av,bv] w (aO fun v w'=>v = .bool true∧Sat w0 w' F):=by
 have hle:qs.length=ps.length:=by have:=aje List.length he;rw [aaJ,aaJ]at this;exact this.symm
 have hpq:∀ (i:Nat) (p q:PV),ps[i]?=some p→qs[i]?=some q→q.1=p.1∧q.2.1=p.2.1:=fun i p q h1 h2=>by
  have:=aje (fun l=>l[i]?) he
  simp only [aix,h1,h2,aj7]at this
  have e:=ake this
  exact ⟨(aje Prod.fst e).symm,(aje Prod.snd e).symm⟩
 have hq:∀ q∈qs,q.1.length=32:=fun q hm=>by
  obtain ⟨i,hi,rfl⟩:=akp hm
  have h2:=hpq i _ _ (aak oQ) (aak hi)
  rw [h2.1]
  exact hp _ (alo _)
 have OU:=uQ (show ∀ q∈ps,(gu q).length=33 from fun q hm=>wH q (hp q hm))
 have Ef:=uQ (show ∀ q∈qs,(gu q).length=33 from fun q hm=>wH q (hq q hm))
 obtain ⟨aa,ac,rfl⟩:=iD OU.out (ha w h) aN
 obtain ⟨ba,bc,rfl⟩:=iD Ef.out (hb w h) aN
 rw [hle]at hb ⊢
 have Ha:=uQ ha;have Hb:=uQ hb;have Hlen:=uQ hlen;have Y0:=uQ hda;have Y2:=uQ hdb;have IW:=uQ hdl;have Hp:=uQ hp;have Hpq:=uQ hpq;have o7:=uQ hle
 clear ha hb hlen hda hdb hdl hp hpq hq he hle
 go_enter Tryz.func16,Tryz.ntmps16
 have c0:((ps.length:Int) != (ps.length:Int))=false:=bne_self_eq_false ..
 go_wp2_with fail
 go_loopg [5] ps.length (fun g iq wr=>∃ i:Nat,g=ps.length - i∧i≤ps.length∧iq = .int .i64 i∧Sat w0 wr F)
 case atStart=>exact ⟨0,rfl,afm _,rfl,h⟩
 case round=>
  obtain ⟨i,rfl,hiN,rfl,hS⟩:=hrel
  clear h
  by_cases hi:i<ps.length
  ·have hic:(i:Int)<(ps.length:Int):=by omega
   have hwi:IntKind.i64.wrap ((i:Int)+1)=(i:Int)+1:=acI _ (by have:=Hlen.out;omega)
   obtain ⟨p,hpi⟩:∃ p,ps[i]?=some p:=⟨_,aak hi⟩
   obtain ⟨q,hqi⟩:∃ q,qs[i]?=some q:=⟨_,aak (by rw [o7.out];exact hi)⟩
   obtain ⟨e1,e2⟩:=Hpq.out i p q hpi hqi
   have hS1:=hS.drew
   obtain ⟨bk,off,c',f1,d1⟩:=iC OU.out (Ha.out _ hS1) hpi aN
   obtain ⟨bk2,off2,c2',f2,d2⟩:=iC Ef.out (Hb.out _ hS1) hqi aN
   rw [o7.out]at f2
   cases f1;cases f2
   have Hi:=uQ hi
   have Bg:=uQ (Hp.out p (abA hpi))
   have CP:=Y0.out p (abA hpi)
   have hrq:=Y2.out q (abA hqi)
   rw [e2]at hrq
   have acW:=IW.out p (abA hpi)
   obtain ⟨pk,pd,pv⟩:=p
   obtain ⟨qk,qd,qv⟩:=q
   dsimp only at e1 e2 CP hrq acW
   obtain rfl:pk=qk:=e1.symm
   obtain rfl:pd=qd:=e2.symm
   have YC:=uQ (show (∀ j v,(aA pk)[j]?=some v→World.cell? _ ⟨bk,off+i * 33+j,none⟩=some v)∧(∀ j v,(aA pk)[j]?=some v→World.cell? _ ⟨bk2,off2+i * 33+j,none⟩=some v)∧World.cell? _ ⟨bk,off+i * 33+32,none⟩=some pv∧World.cell? _ ⟨bk2,off2+i * 33+32,none⟩=some qv from
    ⟨fun j v hj=>d1 j v (V5 (pk,pd,pv) hj),fun j v hj=>d2 j v (V5 (pk,pd,qv) hj),d1 32 _ (V4 (pk,pd,pv) Bg.out),d2 32 _ (V4 (pk,pd,qv) Bg.out)⟩)
   have hsm:=ahb pd CP hrq hS1 oQ
   have hnk:∀ x y w,((do eqGuard .neq 31 x y (.agg (aA pk).toArray) (.agg (aA pk).toArray);binOp .neq 31 (.agg (aA pk).toArray) (.agg (aA pk).toArray)):Sem Value).run Tryz.prog w = .ok (.bool false) w:=fun x y w=>by rw [aeK x y pk pk Bg.out Bg.out w];simp
   have gJ:=uQ (show (aA pk).length=32 by rw [aV,Bg.out])
   clear hpi hqi hi hiN d1 d2 hS
   go_wp2_with fail
   refine dH [22,23,24] (fun w'=>w'.rangeAt bk (off+i * 33) (aA pk)∧w'.rangeAt bk2 (off2+i * 33) (aA pk)∧w'.cell? ⟨bk,off+i * 33+32,none⟩=some pv∧w'.cell? ⟨bk2,off2+i * 33+32,none⟩=some qv) au ?_
   have hG:World.rangeAt _ bk (off+i * 33) (aA pk)∧World.rangeAt _ bk2 (off2+i * 33) (aA pk)∧World.cell? _ ⟨bk,off+i * 33+32,none⟩=some pv∧World.cell? _ ⟨bk2,off2+i * 33+32,none⟩=some qv:=YC.out
   refine rP 0 ?_ (y:=aX)
   refine rP 1 ?_ (y:=aX)
   refine rP 2 ?_ (y:=gX)
   refine rP 3 ?_ (y:=cO)
   refine eP 4 ak au bK (ig (b:=bk) (o:=off+i * 33) (aA pk) ah Tryz.underlying31 rfl (by rw [gJ.out];kernel_rfl) (fun w hw=>hw.1)) aQ gQ ?_
   refine rP 5 ?_ (y:=aX)
   refine rP 6 ?_ (y:=aX)
   refine rP 7 ?_ (y:=gX)
   refine rP 8 ?_ (y:=cO)
   refine eP 9 ak au bK (ig (b:=bk2) (o:=off2+i * 33) (aA pk) ah Tryz.underlying31 rfl (by rw [gJ.out];kernel_rfl) (fun w hw=>hw.2.1)) aQ gQ ?_
   refine rP 10 ?_ (y:=(wY ak ak (hnk _ _)))
   refine rP 11 ?_ (y:=aX)
   refine rP 12 ?_ (y:=(fM ah ak))
   refine rP 13 ?_ (y:=(fM ah ak))
   refine rP 14 ?_ (y:=(pO ah ak ak dh))
   refine rP 15 ?_ (y:=(kT ah ak dh))
   refine eP 16 ak au bK (kY ah ak au (fun wq hq=>hq.2.2.1)) aQ gQ ?_
   refine rP 17 ?_ (y:=(fM ah ak))
   refine rP 18 ?_ (y:=(fM ah ak))
   refine rP 19 ?_ (y:=(pO ah ak ak dh))
   refine rP 20 ?_ (y:=(kT ah ak dh))
   refine eP 21 ak au bK (kY ah ak au (fun wq hq=>hq.2.2.2)) aQ gQ ?_
   clear hG
   refine bV 22 ak au (fun K hK=>?_)
   refine qm [pv,qv] ah au ah ?_
   refine hsm.mono ?_
   rintro ee w5 ⟨v,rfl,rfl,h5⟩
   refine hK _ _ (.inl rfl) ?_
   clear hK hsm hS1
   refine rP 23 ?_ (y:=(aiW ah ak dh))
   refine rP 24 ?_ (y:=(jX ah ak ak))
   refine dD au ?_
   try simp only [iO]
   try go_frame
   go_wp2_with fail
   go_roundg (ps.length - (i+1))
   case measure=>have:=Hi.out;omega
   case rel=>exact ⟨i+1,rfl,aiy Hi.out,by first|rfl|go_num,h5⟩
  ·obtain rfl:i=ps.length:=by omega
   have hic:¬ (ps.length:Int)<(ps.length:Int):=oQ
   clear hi hiN
   go_wp2_with fail
   go_ret
   exact ⟨.bool true,rfl,rfl,hS⟩
end
end Go.Proofs.YtiglchkhikciiaaGreatDoor
namespace Go.Seg
open Go.ay
open Go.aj (Bs aP encs iw)
open Go.Rep
end Go.Seg
namespace Go.Proofs.YtiglchkhikciiaaGreatDoor
open Go Go.Sl Go.ay Go.MapKept Go.RowKit
section
variable {w0 w:World}{F R:List aG}{r m K r0 E n:Nat}{seg:Int}{o oc:aj.Bs→Option aj.Bs}{d:Bool}
theorem Ro.vZ {F G:List aG}{X:World→Prop} (h:Ro w0 F X) (hs:∀ w,Sat w0 w G→Sat w0 w F):Ro w0 G X:=fun w hw=>h w (hs w hw)
theorem QF:∀ (es:List QD) (i:Nat) (d:QD),es[i]?=some d→∃ G,pz es=star (bJ d.dv d.c.data) G
 |[],_,_,h=>by cases h
 |x::es,0,d,h=>by
  obtain rfl:x=d:=by simpa using h
  exact ⟨_,rfl⟩
 |x::es,i+1,d,h=>by
  obtain ⟨G,hG⟩:=QF es i d (by simpa using h)
  refine ⟨star (bJ x.dv x.c.data) G,?_⟩
  show star (bJ x.dv x.c.data) (pz es)=_
  rw [hG,wR]
theorem aa8 {es:List QD}{i:Nat}{d:QD} (h:es[i]?=some d):Ro w0 (pz es::R) (bg 1 d.dv (aA d.c.data)):=fun w hw=>by
 obtain ⟨G,hG⟩:=QF es i d h
 rw [hG]at hw
 exact Sat.rd (Sat.star.1 hw)
theorem QG:∀ (es:List PV) (i:Nat) (d:PV),es[i]?=some d→∃ G,jo es=star (bJ d.2.2 d.2.1) G
 |[],_,_,h=>by cases h
 |x::es,0,d,h=>by
  obtain rfl:x=d:=by simpa using h
  exact ⟨_,rfl⟩
 |x::es,i+1,d,h=>by
  obtain ⟨G,hG⟩:=QG es i d (by simpa using h)
  refine ⟨star (bJ x.2.2 x.2.1) G,?_⟩
  show star (bJ x.2.2 x.2.1) (jo es)=_
  rw [hG,wR]
theorem EM {es:List PV}{q:PV} (h:q∈es):Ro w0 (jo es::R) (bg 1 q.2.2 (aA q.2.1)):=fun w hw=>by
 obtain ⟨i,hi⟩:=List.getElem?_of_mem h
 obtain ⟨G,hG⟩:=QG es i q hi
 rw [hG]at hw
 exact Sat.rd (Sat.star.1 hw)
theorem afO {es:List QD}{v:Value}{i:Nat}{d:QD} (hk:∀ d∈es,d.c.key.length=32) (hi:es[i]?=some d) (h:Sat w0 w (aC 39 37 v (jO es)::R)) :
  ∃ bk off c,v = .slice (some ⟨bk,off,none⟩) es.length c∧∀ j y,(lM d)[j]?=some y→w.cell? ⟨bk,off+i * 37+j,none⟩=some y:=by
 have hr:=Sat.rd h
 obtain ⟨a,n,c,rfl,hl,hx⟩:=id hr
 rw [Gp hk]at hl
 obtain rfl:n=es.length:=by omega
 have hx0:(jO es)[i * 37+0]?=some (.int .i64 d.c.kind):=Gn hk hi rfl
 obtain ⟨bk,off,rfl,hcell⟩:=nU hr hx0
 refine ⟨bk,off,c,rfl,fun j y hj=>?_⟩
 have:=hcell _ _ (Gn hk hi hj)
 rw [← akU]at this
 exact this
theorem afP {es:List QD}{v:Value} (hk:∀ d∈es,d.c.key.length=32) (h:Sat w0 w (aC 39 37 v (jO es)::R)):∃ a c,v = .slice a es.length c:=by
 obtain ⟨a,n,c,rfl,hl,hx⟩:=Sat.rd h
 rw [Gp hk]at hl
 obtain rfl:n=es.length:=by omega
 exact ⟨a,c,rfl⟩
theorem abX {es ds:List QD}{n:Nat} (h:es.map (·.c)=Rep.zy (ds.map (·.c)) n) (hk:∀ d∈ds,d.c.key.length=32):es.length≤n∧∀ d∈es,d.c.key.length=32∧d.c.data.length≤300:=by
 refine ⟨?_,fun d hd=>?_⟩
 ·have:=aje List.length h
  unfold Rep.zy at this
  rw [aaJ,aaJ,acJ]at this
  omega
 ·have h1:d.c∈es.map (·.c):=acK.2 ⟨d,hd,rfl⟩
  rw [h]at h1
  unfold Rep.zy at h1
  obtain ⟨x,hx,e⟩:=acK.1 h1
  obtain ⟨y,hy,rfl⟩:=acK.1 (ajm hx)
  rw [← e]
  exact ⟨hk y hy,by show (y.c.data.take 200).length≤300;rw [acJ];omega⟩
theorem fV.push (h:fV w0 r m seg K r0 E n o oc d F w):∃ G:List aG,Sat w0 w G∧(∀ w',Sat w0 w' G→fV w0 r m seg K r0 E n o oc d F w')∧(∀ (A:aG) (w':World),Sat w0 w' (A::G)→fV w0 r m seg K r0 E n o oc d (A::F) w')∧(∀ w',Sat w0 w' G→Sat w0 w' F):=by
 obtain ⟨G,h1,h2,h3⟩:=h.sat
 exact ⟨G,h1,fun w' hw=>(h2 _ _ (Sat.emp.2 hw)).drop,h2,h3⟩
end
end Go.Proofs.YtiglchkhikciiaaGreatDoor
namespace Go.aB
open Go.ay
def lT (s:ByteArray):Bool:=(number s).2 || s.data.toList==tmp.data.toList
end Go.aB
namespace Go.Seg
open Go.ay
open Go.aj (Bs aP encs iw)
open Go.Rep
section
variable {K r E B n:Nat}{L:Log}{M M':ay}{C:List (List aP)}{N:Int}{us:List Use}{pl:List (Bs×aU)}
theorem HG.fresh (h:HG K r E B n L M C) (lim:Int) (l1:128≤lim) (l2:lim≤1048576):HG K r E B n (fresh M lim) M C:=by
 have hq:=h.keeps.calm.quiet
 have hF:=BL h.keeps.calm.ok lim l1 l2
 have gG:=h.keeps.log.len
 have hlen0:=h.len
 have hs:(Seg.fresh M lim).aF=L.aF:=Ut (Af hF) (Af h.keeps.log) fun s=>by
  rw [aB.acn hq.off]
  constructor
  ·rintro ⟨⟨a,b⟩,i,hi⟩
   obtain ⟨k,rfl⟩:∃ k:Nat,s=k:=⟨s.toNat,by omega⟩
   have hc:=h.cover k i oQ hi
   exact abA (h.aF.2 k hc)
  ·intro hs
   obtain ⟨x,hx,rfl⟩:=acK.1 hs
   exact ⟨h.keeps.log.nums x hx,h.keeps.has x hx⟩
 have hl:(Seg.fresh M lim).l.length=C.length:=by
  have:=aje List.length hs
  unfold Log.aF at this
  rw [aaJ,aaJ]at this
  omega
 refine ⟨⟨hF,h.keeps.calm,acj M lim⟩,hl,fun k es hk=>?_,h.file,h.good,h.count,h.used,h.names,h.cover⟩
 have hkl:=(abl.1 hk).1
 have hx:(Seg.fresh M lim).l[k]?=some ((Seg.fresh M lim).l[k]'oQ):=aak oQ
 generalize (Seg.fresh M lim).l[k]'oQ=x at hx
 obtain ⟨t,ht,hn,e⟩:=zC (abA hx)
 obtain ⟨a,b,c⟩:=zO hn
 have hk1:(Seg.fresh M lim).aF[k]?=some x.1:=by unfold Log.aF;rw [aix,hx];rfl
 rw [hs,h.aF.2 k hkl]at hk1
 have e1:(number t).1=(k:Int):=by rw [e]at hk1;exact (ake hk1).symm
 rw [e1]at c
 have hf:=h.file k es hk
 rw [hx,e,e1,← c]
 congr 2
 obtain ⟨i,hi⟩:=(aB.zk hq).1 (aje Prod.snd hf)
 rw [all_some hq hi]at hf
 have hl2:=aje (fun z:Bs×Int=>z.1.length) hf
 simp only [aal]at hl2
 have hm:mag.length=8:=rfl
 unfold ay.size
 rw [hq.off,hi]
 show (((M.file i).now.length:Nat):Int)=_
 omega
theorem Rp.fresh (h:Rp K r E B n L M C) (lim:Int) (l1:128≤lim) (l2:lim≤1048576):Rp K r E B n (Seg.fresh M lim) M C:=⟨h.hg.fresh lim l1 l2,h.tmp,h.few,h.small⟩
theorem Rp.clean (h:Rp K r E B n L M C):(aB.sweep aB.lT M.list M).2=0∧Rp (K+500) r E B n L (aB.sweep aB.lT M.list M).1 C∧NF (aB.sweep aB.lT M.list M).1:=by
 have hc:=h.hg.keeps.calm
 have qp:M.list=M.now.map (·.1):=hc.quiet.list
 have hlen:M.list.length≤500:=by rw [qp,aaJ];exact hc.ok.fH.len
 have hs:=aB.G7 (p:=aB.lT) M.list K M hc (by rw [qp];exact aB.Vk hc) (fun f hf=>by
  rw [qp]at hf
  obtain ⟨p,hp,rfl⟩:=acK.1 hf
  exact ⟨p.2,zL hc.ok.fH.lF.keys (show (p.1,p.2)∈M.now from hp)⟩)
 generalize aB.sweep aB.lT M.list M=R at *
 have hg:∀ p∈R.1.now,aB.lT p.1=false:=fun p hp=>hs.gone p hp (by rw [qp];exact acK.2 ⟨p,hs.sub p hp,rfl⟩)
 have hk:∀ k:Int,aB.lT (name k)=false:=fun k=>by
  unfold aB.lT
  rw [aB.yG]
  simp only [Bool.false_or]
  rw [adW]
  exact fun e=>aB.Ib k (ByteArray.ext (Array.toList_inj.1 e.symm))
 refine ⟨hs.zero,⟨h.hg.apart (hs.calm.mono oQ) (fun k=>hs.other _ (hk k)) (adr hs.used h.hg.used) (adr hs.len h.hg.names),?_,h.few,fun p hp=>h.small p (hs.sub p hp)⟩,fun p hp=>?_⟩
 ·cases hi:bP R.1.now aB.tmp with
  |none=>rfl
  |some i=>
   have:=hg _ (jk hi)
   unfold aB.lT at this
   simp at this
 ·have:=hg p hp
  unfold aB.lT at this
  rw [Bool.or_eq_false_iff]at this
  exact this.1
theorem HG.le (h:HG K r E B n L M C) (hN:N=(C.length:Int) - 1):∀ s∈L.aF,s≤N:=fun s hs=>by
 obtain ⟨h1,h2⟩:=h.aF
 obtain ⟨j,hj⟩:=List.getElem?_of_mem hs
 have hjl:j<C.length:=by rw [← h1];exact (abl.1 hj).1
 have hj2:=h2 j hjl
 rw [hj]at hj2
 cases hj2
 omega
theorem Rp.last (h:Rp K r E B n L M C) (s:uZ C N us pl):lastOf (fun s=>L.bytes M s) L.aF=(N,0)∧Rep.run (fun s=>L.bytes M s) L.aF = .inr L.aF.length∧oL L.aF=N:=by
 obtain ⟨q1,q2⟩:=h.hg.aF
 by_cases hne:C=[]
 ·have hs:L.aF=[]:=aj2 (by rw [q1,hne];rfl)
  have hN:=s.last
  rw [hne]at hN
  rw [hs,hN]
  exact ⟨rfl,rfl,rfl⟩
 ·have he:=s.ends.resolve_left hne
  obtain ⟨es,e1,e2⟩:=he
  obtain ⟨r1,r2,r3,r4,r5⟩:=h.run ⟨es,hne,e1,e2⟩
  refine ⟨?_,by rw [r1,r2],by rw [r5,s.last]⟩
  obtain ⟨c,c1,c2,c3,c4⟩:=h.hg.split
  have hc:c=C.length:=by
   by_cases hh:c=C.length
   ·exact hh
   ·have:=c4 (C.length - 1) es oQ e1
    rw [e2]at this;cases this
  unfold lastOf
  rw [c1]
  simp only
  rw [abw (by simp),abw oQ,hc,List.getD,q2 _ oQ]
  simp only [Option.getD_some]
  rw [s.last]
  congr 1;omega
theorem NF.newest (h:NF M) (q:Quiet M):aB.newest M = -1:=by
 show aB.rZ M.list (-1) = -1
 rw [q.list]
 refine aB.FT _ _ (alC _) (fun t ht he=>?_) (.inl rfl)
 obtain ⟨p,hp,rfl⟩:=acK.1 ht
 rw [h p hp]at he;cases he
theorem HF.newest (h:HF M N pl us) (q:Quiet M) (h1:0≤N) (h2:N<1048576):aB.newest M=N:=by
 show aB.rZ M.list (-1)=N
 rw [q.list]
 obtain ⟨i,hi⟩:=(aB.zk q).1 (aje Prod.snd h.one)
 refine aB.FT _ _ oQ (fun t ht he=>?_) (.inr ⟨_,acK.2 ⟨_,jk hi,rfl⟩,by rw [aB.vY (.inl aB.zI) N h1 h2]⟩)
 obtain ⟨p,hp,rfl⟩:=acK.1 ht
 exact h.num p hp he
theorem NF.there (h:NF M) (q:Quiet M) (h1:0≤N) (h2:N<1048576):aB.there M (aB.name aB.idx N)=false:=by
 cases hi:bP M.now (aB.name aB.idx N) with
 |none=>exact aB.XT q hi
 |some i=>
  have:=h _ (jk hi)
  rw [aB.vY (.inl aB.zI) N h1 h2]at this
  cases this
theorem HF.there (h:HF M N pl us) (q:Quiet M):aB.there M (aB.name aB.idx N)=true∧aB.there M (aB.name aB.use N)=true:=by
 obtain ⟨i,hi⟩:=(aB.zk q).1 (aje Prod.snd h.one)
 obtain ⟨j,hj⟩:=(aB.zk q).1 (aje Prod.snd h.two)
 exact ⟨aB.XU q hi,aB.XU q hj⟩
structure ZG (L:Log) (N:Int) (us:List Use) (pl:List (Bs×aU)):Prop where
 key:∀ q∈pl,q.1.length=32
 idx:aS.Ok 3 true (pl.map iY)
 uses:aS.Ok 3 false (us.map jc)
 fits:aB.fits L us N=true
 lies:∀ q∈pl,aB.lies q.2 (aB.sizes us)=true∧IntKind.i64.wrap (aB.sizes us q.2.seg - q.2.at_)=aB.sizes us q.2.seg - q.2.at_
 tail:(L.aF.filter fun s=>decide (N<s))=[]
theorem aec {kv:List (Bs×dF)} (k1:Tab.Lists (ledger (dJ 0 C)) kv):kv.length≤(dJ 0 C).length:=by
 have h1:∀ x∈kv.map (·.1),x∈(dJ 0 C).map fZ:=fun x hx=>by
  obtain ⟨q,hq,rfl⟩:=acK.1 hx
  have:=(k1.mem q.1 q.2).1 hq
  unfold ledger at this
  obtain ⟨r,h4,_⟩:=akk.1 this
  obtain ⟨h5,_,h6⟩:=FV h4
  exact acK.2 ⟨r,h5,h6⟩
 have:=Tab.FI k1.keys h1
 rwa [aaJ,aaJ]at this
theorem Rp.lds (h:Rp K r E B n L M C) (hn:n≤1000) (s:uZ C N us pl) (hne:C≠[]):ZG L N us pl∧pl.length≤n:=by
 obtain ⟨kv,k1,k2,rfl,rfl⟩:=s.kv
 have hrow:=h.rows
 have ho:jY L C.length ((kZ C).map (upd kv)) (puts kv):=by
  have:=h.hint (kv:=kv) (by rw [hrow];exact k1) k2
  rw [h.hg.uses]at this
  exact this
 have vS:((kZ C).map (upd kv)).length≤n:=by
  rw [aaJ];unfold kZ
  rw [aaJ,alv];exact h.hg.count
 have hkl:kv.length≤n:=by
  have:=aec k1
  rw [← hrow]at this
  exact adr this h.iE
 have hpl:(puts kv).length≤n:=adr (by unfold puts;rw [aaJ];exact akD _ _) hkl
 have htk:L.aF.take C.length=L.aF:=by rw [← h.hg.aF.1];exact aiv
 have hpos:=akA.2 hne
 refine ⟨⟨ho.key,aB.jY.idx ho h.hg.keeps.log oQ,aB.jY.uses ho h.hg.keeps.log oQ,aB.ab7 h.hg.keeps.log ho htk ?_,aB.jY.lies ho h.hg.keeps.log,?_⟩,hpl⟩
 ·rw [ajS,h.hg.aF.1,h.hg.aF.2 _ oQ,s.last]
  congr 1;omega
 ·rw [List.filter_eq_nil_iff]
  intro x hx
  have:=h.hg.le s.last x hx
  simp;omega
end
end Go.Seg
namespace Go.Proofs.YtiglchkhikciiaaGreatDoor
open Go Go.Sl Go.ay Go.MapKept Go.RowKit
section
variable {w0 w:World}{F:List aG}{r m p ps pn pi B:Nat}{seg N:Int}{d:Bool}{uv tv:Value}{mi:aj.Bs→Option Seg.aU}{us:List Rep.Use}{xs:List Value}
theorem aaQ (h1:∀ u∈xs,u.oneCell'=true) (hl:xs.length≤2147483648) (h:Sat w0 w (aC 73 3 uv xs::F)) :
  Calls Tryz.prog 61 #[uv] w (aO fun v w'=>Sat w0 w' (aC 73 3 v xs::aC 73 3 uv xs::F)):=by
 have H1:=uQ h1;have Hl:=uQ hl
 obtain ⟨a,n,c,rfl,hn,hcs⟩:=Sat.rd h
 clear h1 hl
 cases a with
 |none=>
  have hx:xs=[]:=by
   cases xs with
   |nil=>rfl
   |cons x xs=>obtain ⟨_,e,_⟩:=hcs 0 x rfl;cases e
  subst hx
  obtain rfl:n=0:=by simp only [ajn]at hn;omega
  have he:∀ w,(binOp .eql 50 (.slice none 0 c) (.slice none 0 0)).run Tryz.prog w = .ok (.bool true) w:=fun w=>by first|kernel_rfl|rfl
  go_enter Tryz.func61,Tryz.ntmps61
  go_wp2_with fail
  go_ret
  exact ⟨_,rfl,Sat.fD.2 h⟩
 |some ad=>
  clear hn hcs
  have he:∀ w,(binOp .eql 50 (.slice (some ad) n c) (.slice none 0 0)).run Tryz.prog w = .ok (.bool false) w:=fun w=>by first|kernel_rfl|rfl
  go_enter Tryz.func61,Tryz.ntmps61
  go_wp2_with (first
   |((with_reducible refine Qe ⟨?_⟩);refine Yh (e:=73) (sz:=3) (dS:=24) au h ?_;intro bN wN hN)
   |(with_reducible apply lg))
  refine ⟨Yc 73 3 24 au hN ah ah aT (Sat.rd hN.drop) H1.out (by have:=Hl.out;simp only [ajn];omega) aN ?_⟩
  intro v' w' hS
  rw [ajd]at hS
  go_wp2_with fail
  go_ret
  exact ⟨_,rfl,hS⟩
theorem aik (us:List Rep.Use):∀ u∈us.flatMap bI,u.oneCell'=true:=fun u hu=>by
 obtain ⟨x,_,hx⟩:=alq.1 hu
 unfold bI at hx
 simp only [aer,ajU,alb]at hx
 rcases hx with rfl|rfl|rfl <;> rfl
set_option maxRecDepth 20000 in
theorem WW (hB:B≤14000000) (hu:us.length≤65536) (h:Sat w0 w (bG r m seg p ps pn d::cZ ps N pi uv tv::aJ pi mi B::aC 73 3 uv (us.flatMap bI)::F)) :
  Calls Tryz.prog 17 #[ptr r] w (aO fun v w'=>∃ (q qi:Nat) (vv:Value),v=ptr q∧Sat w0 w' (cZ q N qi vv (.slice none 0 0)::aJ qi mi B::aC 73 3 vv (us.flatMap bI)::bG r m seg p ps pn d::cZ ps N pi uv tv::aJ pi mi B::aC 73 3 uv (us.flatMap bI)::F)):=by
 have mD:=uQ (show (us.flatMap bI).length≤2147483648 by rw [iE (k:=3) (fun u _=>uK u)];omega)
 have HB:=uQ hB
 have hok:=oO h
 clear hu hB
 go_enter Tryz.func17,Tryz.ntmps17
 go_wp2_with fail
 refine hok.mono ?_
 rintro ee w1 ⟨v,rfl,rfl,rfl⟩
 clear hok
 go_wp2_with fail
 have h1:=h.drew
 clear h
 refine dH [23,24,25] (fun w'=>w'.cell? ⟨r,3,none⟩=some (.pointer (some ⟨ps,0,none⟩))∧w'.cell? ⟨ps,0,none⟩=some (.int .i64 N)∧w'.cell? ⟨ps,1,none⟩=some (.pointer (some ⟨pi,0,none⟩))∧w'.cell? ⟨ps,2,none⟩=some uv) au ?_
 have hG:World.cell? _ ⟨r,3,none⟩=some (.pointer (some ⟨ps,0,none⟩))∧World.cell? _ ⟨ps,0,none⟩=some (.int .i64 N)∧World.cell? _ ⟨ps,1,none⟩=some (.pointer (some ⟨pi,0,none⟩))∧World.cell? _ ⟨ps,2,none⟩=some uv:=⟨h1.cellP aT 3 rfl,h1.cellP aZ 0 rfl,h1.cellP aZ 1 rfl,h1.cellP aZ 2 rfl⟩
 refine rP 0 ?_ (y:=aX)
 refine rP 1 ?_ (y:=dZ)
 refine rP 2 ?_ (y:=cO)
 refine rt 3 (h:=?_)
 refine rP 4 ?_ (y:=dZ)
 refine rP 5 ?_ (y:=cO)
 refine rt 6 (h:=?_)
 refine rP 7 ?_ (y:=aX)
 refine rP 8 ?_ (y:=dZ)
 refine rP 9 ?_ (y:=cO)
 refine rt 10 (h:=?_)
 refine rP 11 ?_ (y:=dZ)
 refine rP 12 ?_ (y:=cO)
 refine rt 13 (h:=?_)
 refine rP 15 ?_ (y:=aX)
 refine rP 16 ?_ (y:=dZ)
 refine rP 17 ?_ (y:=cO)
 refine rt 18 (h:=?_)
 refine rP 19 ?_ (y:=dZ)
 refine rP 20 ?_ (y:=cO)
 refine rt 21 (h:=?_)
 clear hG
 refine bV 14 ak au (fun K hK=>?_)
 (refine pF au ak ?_)
 refine (J4 HB.out (h1.sb:Sat w0 _ (aJ pi mi B::bG r m seg p ps pn d::cZ ps N pi uv tv::aC 73 3 uv (us.flatMap bI)::F))).mono ?_
 rintro ee w2 ⟨v,rfl,qi,rfl,h2⟩
 refine hK _ _ (.inr (.inl ⟨h2.cellP fG 3 rfl,h2.cellP iZ 0 rfl,h2.cellP iZ 1 rfl,h2.cellP iZ 2 rfl⟩)) ?_
 clear hK h1
 refine bV 22 ak au (fun K hK=>?_)
 (refine pF au ak ?_)
 refine (aaQ (aik us) mD.out (h2.sb:Sat w0 _ (aC 73 3 uv (us.flatMap bI)::bG r m seg p ps pn d::cZ ps N pi uv tv::aJ qi mi B::aJ pi mi B::F))).mono ?_
 rintro ee w3 ⟨vv,rfl,h3⟩
 refine hK _ _ (.inr (.inl ⟨h3.cellP fG 3 rfl,h3.cellP iZ 0 rfl,h3.cellP iZ 1 rfl,h3.cellP iZ 2 rfl⟩)) ?_
 clear hK h2
 obtain ⟨va,vn,vc,rfl,_,_⟩:=Sat.rd h3
 refine rp 23 (hy:=(by (refine Or.inl ⟨by rfl,?_⟩;((intro wq;go_simp);first|done|exact wQ)))) (h:=?_)
 refine bV 24 ak au (fun K hK=>?_)
 refine J9 (cs:=#[.int .i64 N,ptr qi,.slice va vn vc,.slice none 0 0]) h3 ak ak ?_
 intro q w4 h4
 refine hK _ _ (.inl rfl) ?_
 clear hK h3
 refine rP 25 ?_ (y:=fJ)
 refine dD au ?_
 go_wp2_with fail
 go_ret
 exact ⟨_,rfl,q,qi,_,rfl,h4.sb⟩
end
section
variable {w0 w:World}{F:List aG}{m K p bm:Nat}{M:ay}{L:Seg.Log}{n:Int}{lv:Value}{f:Int→Int}
theorem ac6 (q:Seg.aU) (hb:IntKind.i64.wrap (f q.seg - q.at_)=f q.seg - q.at_) (h:Sat w0 w (jr bm f::F)) :
  Calls Tryz.prog 148 #[.agg (aK q).toArray,.map (some bm)] w (aO fun v w'=>v = .bool (aB.lies q f)∧Sat w0 w' (jr bm f::F)):=by
 have Hf:=uQ (show aB.lies q f=(decide (8≤q.at_) && (decide (41≤q.size) && decide (q.size≤f q.seg - q.at_))) from rfl)
 go_enter Tryz.func148,Tryz.ntmps148
 go_wp2_with (with_reducible apply eG)
 refine ⟨eH h ah ah ?_⟩
 intro b2 w2 h2
 clear h
 have e0:w2.cell? ⟨b2,0,none⟩=some (.int .i64 q.seg):=h2.cellP aT 0 rfl
 have e1:w2.cell? ⟨b2,1,none⟩=some (.int .i64 q.at_):=h2.cellP aT 1 rfl
 have e2:w2.cell? ⟨b2,2,none⟩=some (.int .i64 q.size):=h2.cellP aT 2 rfl
 have hlk:=Fj q.seg (h2.pick aZ)
 by_cases c1:8≤q.at_
 ·by_cases c2:41≤q.size
  ·by_cases c3:q.size≤f q.seg - q.at_
   ·have Hr:=uQ (Hf.out.trans (by rw [aiu c1,aiu c2,aiu c3];rfl:_=true))
    go_wp2_with fail
    go_ret
    exact ⟨_,rfl,by rw [Hr.out];rfl,h2.drop⟩
   ·have Hr:=uQ (Hf.out.trans (by rw [aiu c1,aiu c2,aex c3];rfl:_=false))
    go_wp2_with fail
    go_ret
    exact ⟨_,rfl,by rw [Hr.out];rfl,h2.drop⟩
  ·have Hr:=uQ (Hf.out.trans (by rw [aiu c1,aex c2];rfl:_=false))
   clear e0 hlk
   go_wp2_with fail
   go_ret
   exact ⟨_,rfl,by rw [Hr.out];rfl,h2.drop⟩
 ·have Hr:=uQ (Hf.out.trans (by rw [aex c1];rfl:_=false))
  clear e0 e2 hlk
  go_wp2_with fail
  go_ret
  exact ⟨_,rfl,by rw [Hr.out];rfl,h2.drop⟩
theorem ac0 {sz:Int→Int}{us:List Rep.Use}{ss:List Int}{i:Nat}{s:Int} (h:ss[i]?=some s):aB.rM sz n us (ss.drop i) i=(if n<s then aB.fin n us i else match us[i]? with
  |none=>false
  |some u=>if aB.EX sz s u=true then aB.rM sz n us (ss.drop (i+1)) (i+1) else false):=by
 obtain ⟨hi,rfl⟩:=abl.1 h
 rw [ajX hi]
 rfl
set_option maxRecDepth 20000 in
theorem acZ (us:List Rep.Use) (vS:us.length≤1073741824) (hL:L.Ok) (hr:Ro w0 F (bg 3 lv (us.flatMap bI))) (h:Sat w0 w (aI p m L::F)) :
  Calls Tryz.prog 146 #[ptr p,lv,.int .i64 n] w (aO fun v w'=>v = .bool (aB.fits L us n)∧Sat w0 w' (aI p m L::F)):=by
 obtain ⟨la,lc,rfl⟩:=iD (fun u _=>uK u) (hr w h.drop) aN
 have hse:=Dn hL h
 have rE:=uQ (show L.aF.length≤1073741824 from by unfold Seg.Log.aF;rw [aaJ];have:=hL.len;omega)
 have IB:=uQ (fun (w':World) (R:List aG) (hw:Sat w0 w' (aI p m L::R))=>fun (s:Int)=>aev hL s hw)
 have Hr:=uQ hr;have mD:=uQ vS
 have HW0:=uQ (show aB.rM L.size n us (L.aF.drop 0) 0=aB.fits L us n from rfl)
 generalize aB.fits L us n=W at *
 clear hr vS hL
 go_enter Tryz.func146,Tryz.ntmps146
 go_wp2_with fail
 refine hse.mono ?_
 rintro ee w1 ⟨v,rfl,h1⟩
 clear hse h
 obtain ⟨sa,sc,rfl⟩:=Uw (Sat.rd h1)
 go_wp2_with fail
 go_loopg [7,13] L.aF.length (fun g kq iq wr=>∃ i:Nat,g=L.aF.length - i∧i≤L.aF.length∧kq = .int .i64 i∧iq = .int .i64 i∧aB.rM L.size n us (L.aF.drop i) i=W∧Sat w0 wr (aC 3 1 (.slice sa L.aF.length sc) (ints L.aF)::aI p m L::F))
 case atStart=>exact ⟨0,rfl,afm _,rfl,rfl,HW0.out,h1⟩
 case round=>
  obtain ⟨i,rfl,hi,rfl,rfl,hW,hS⟩:=hrel
  clear h1 HW0
  by_cases hlt:i<L.aF.length
  rotate_left
  ·as_aux_lemma=>
   have c1:¬ (i:Int)<(L.aF.length:Int):=oQ
   have HW:=uQ (show W=aB.fin n us i from by rw [aiz oQ]at hW;exact hW.symm)
   clear hW hlt hi
   by_cases e1:i=us.length
   rotate_left
   ·have hb:((i:Int)==(us.length:Int))=false:=by rw [adW];omega
    have Hr:=uQ (HW.out.trans (by unfold aB.fin;rw [aex e1];rfl:_=false))
    clear e1
    go_wp2_with fail
    go_ret
    exact ⟨_,rfl,by rw [Hr.out];rfl,hS.drop⟩
   ·rcases i with _|k
    ·have hb:((0:Int)==(us.length:Int))=true:=by rw [akr];omega
     have hbz:¬ (0:Int)<0:=by decide
     (try have adk:=(show wr.cell? ⟨sb,so,none⟩=some (.int .i64 s) from hsc))
     (try have c10:(0:Int)<(L.aF.length:Int):=c1)
     have Hr:=uQ (HW.out.trans (by unfold aB.fin;rw [aiu e1];rfl:_=false))
     clear e1
     go_wp2_with fail
     go_ret
     exact ⟨_,rfl,by rw [Hr.out];rfl,hS.drop⟩
    ·have hb:((k:Int)+1==(us.length:Int))=true:=by rw [akr];omega
     have ck:k<us.length:=oQ
     have hck:(k:Int)<(us.length:Int):=oQ
     have hc0:(0:Int)<(k:Int)+1:=oQ
     have hwk:IntKind.i64.wrap ((k:Int)+1 - 1)=(k:Int):=by rw [Int.add_sub_cancel];exact acI _ (by have:=mD.out;omega)
     have adt:IntKind.i64.wrap (k:Int)=(k:Int):=acI _ (by have:=mD.out;omega)
     obtain ⟨u,hu⟩:∃ u,us[k]?=some u:=⟨_,aak ck⟩
     have hgd:us.getD k ⟨0,0,0⟩=u:=by rw [adP,hu];rfl
     obtain ⟨bk,off,c',hsv,hcell⟩:=iC (f:=bI) (k:=3) (fun u _=>rfl) (Hr.out _ hS.drop.drop) hu aN
     cases hsv
     have e0:=hcell 0 _ rfl
     rw [akc]at e0
     by_cases c2:u.seg=n
     ·have nJ:=uQ (HW.out.trans (by unfold aB.fin;rw [aiu e1,akW,hgd,aiu c2,aiu (Nat.succ_pos k)];rfl:_=true))
      have hb2:(u.seg==n)=true:=akr.2 c2
      clear e1 c2 hgd hu hcell ck
      go_wp2_with fail
      go_ret
      exact ⟨_,rfl,by rw [nJ.out];rfl,hS.drop⟩
     ·have nJ:=uQ (HW.out.trans (by unfold aB.fin;rw [aiu e1,akW,hgd,aex c2,aiu (Nat.succ_pos k)];rfl:_=false))
      have hb2:(u.seg==n)=false:=adW.2 c2
      clear e1 c2 hgd hu hcell ck
      go_wp2_with fail
      go_ret
      exact ⟨_,rfl,by rw [nJ.out];rfl,hS.drop⟩
  have c1:(i:Int)<(L.aF.length:Int):=oQ
  have hwi:IntKind.i64.wrap ((i:Int)+1)=(i:Int)+1:=acI _ (by have:=rE.out;omega)
  obtain ⟨s,hs⟩:∃ s,L.aF[i]?=some s:=⟨_,aak hlt⟩
  obtain ⟨sb,so,scc,hsv,hsc⟩:=CZ (Sat.rd hS) hs
  cases hsv
  have hstep:=ac0 (n:=n) (sz:=L.size) (us:=us) hs
  rw [hW]at hstep
  have bT:=uQ hlt
  clear hW hs hlt hi
  by_cases cn:n<s
  ·as_aux_lemma=>
   have HW:=uQ (show W=aB.fin n us i from by rw [ac3 cn]at hstep;exact hstep)
   clear hstep
   by_cases e1:i=us.length
   rotate_left
   ·have hb:((i:Int)==(us.length:Int))=false:=by rw [adW];omega
    have Hr:=uQ (HW.out.trans (by unfold aB.fin;rw [aex e1];rfl:_=false))
    clear e1
    go_wp2_with fail
    go_ret
    exact ⟨_,rfl,by rw [Hr.out];rfl,hS.drop⟩
   ·rcases i with _|k
    ·have hb:((0:Int)==(us.length:Int))=true:=by rw [akr];omega
     have hbz:¬ (0:Int)<0:=by decide
     (try have adk:=(show wr.cell? ⟨sb,so,none⟩=some (.int .i64 s) from hsc))
     (try have c10:(0:Int)<(L.aF.length:Int):=c1)
     have Hr:=uQ (HW.out.trans (by unfold aB.fin;rw [aiu e1];rfl:_=false))
     clear e1
     go_wp2_with fail
     go_ret
     exact ⟨_,rfl,by rw [Hr.out];rfl,hS.drop⟩
    ·have hb:((k:Int)+1==(us.length:Int))=true:=by rw [akr];omega
     have ck:k<us.length:=oQ
     have hck:(k:Int)<(us.length:Int):=oQ
     have hc0:(0:Int)<(k:Int)+1:=oQ
     have hwk:IntKind.i64.wrap ((k:Int)+1 - 1)=(k:Int):=by rw [Int.add_sub_cancel];exact acI _ (by have:=mD.out;omega)
     have adt:IntKind.i64.wrap (k:Int)=(k:Int):=acI _ (by have:=mD.out;omega)
     obtain ⟨u,hu⟩:∃ u,us[k]?=some u:=⟨_,aak ck⟩
     have hgd:us.getD k ⟨0,0,0⟩=u:=by rw [adP,hu];rfl
     obtain ⟨bk,off,c',hsv,hcell⟩:=iC (f:=bI) (k:=3) (fun u _=>rfl) (Hr.out _ hS.drop.drop) hu aN
     cases hsv
     have e0:=hcell 0 _ rfl
     rw [akc]at e0
     by_cases c2:u.seg=n
     ·have nJ:=uQ (HW.out.trans (by unfold aB.fin;rw [aiu e1,akW,hgd,aiu c2,aiu (Nat.succ_pos k)];rfl:_=true))
      have hb2:(u.seg==n)=true:=akr.2 c2
      clear e1 c2 hgd hu hcell ck
      go_wp2_with fail
      go_ret
      exact ⟨_,rfl,by rw [nJ.out];rfl,hS.drop⟩
     ·have nJ:=uQ (HW.out.trans (by unfold aB.fin;rw [aiu e1,akW,hgd,aex c2,aiu (Nat.succ_pos k)];rfl:_=false))
      have hb2:(u.seg==n)=false:=adW.2 c2
      clear e1 c2 hgd hu hcell ck
      go_wp2_with fail
      go_ret
      exact ⟨_,rfl,by rw [nJ.out];rfl,hS.drop⟩
  rw [abw cn]at hstep
  by_cases hu:i<us.length
  rotate_left
  ·as_aux_lemma=>
   have nJ:=uQ (show W=false from by rw [ajH oQ]at hstep;exact hstep)
   have cu:(us.length:Int)≤(i:Int):=oQ
   have Qy:us.length≤i:=oQ
   clear hstep hu
   go_wp2_with fail
   have hSd:=hS.drew
   have hG:True:=trivial
   refine dH [35,36] (fun w'=>True) au ?_
   refine rP 0 ?_ (y:=aX)
   refine rP 1 ?_ (y:=aX)
   refine rP 2 ?_ (y:=(nZ ak dh))
   refine rP 3 ?_ (y:=jm)
   refine rP 4 ?_ (y:=aX)
   refine dP 5 ak au bK ah gQ ?_
   refine dP 6 ak au bK ah gQ ?_
   refine dP 7 ak au bK ah gQ ?_
   refine dP 8 ak au bK ah gQ ?_
   refine dP 9 ak au bK ah gQ ?_
   refine dP 10 ak au bK ah gQ ?_
   refine dP 11 ak au bK ah gQ ?_
   refine rP 12 ?_ (y:=(jX ah ak ak))
   refine rP 13 ?_ (y:=aX)
   refine dP 14 ak au bK ah gQ ?_
   refine dP 15 ak au bK ah gQ ?_
   refine dP 16 ak au bK ah gQ ?_
   refine dP 17 ak au bK ah gQ ?_
   refine dP 18 ak au bK ah gQ ?_
   refine dP 19 ak au bK ah gQ ?_
   refine dP 20 ak au bK ah gQ ?_
   refine dP 21 ak au bK ah gQ ?_
   refine dP 22 ak au bK ah gQ ?_
   refine rP 23 ?_ (y:=(jX ah ak ak))
   refine rP 24 ?_ (y:=aX)
   refine dP 25 ak au bK ah gQ ?_
   refine dP 26 ak au bK ah gQ ?_
   refine dP 27 ak au bK ah gQ ?_
   refine dP 28 ak au bK ah gQ ?_
   refine dP 29 ak au bK ah gQ ?_
   refine dP 30 ak au bK ah gQ ?_
   refine dP 31 ak au bK ah gQ ?_
   refine dP 32 ak au bK ah gQ ?_
   refine dP 33 ak au bK ah gQ ?_
   refine dP 34 ak au bK ah gQ ?_
   refine dP 35 ak au bK ah gQ ?_
   refine rP 36 ?_ (y:=(jX ah ak ak))
   refine dD au ?_
   try simp only [iO]
   try go_frame
   go_wp2_with fail
   go_ret
   exact ⟨_,rfl,by rw [nJ.out];rfl,hSd.drop⟩
  have cu:¬ (us.length:Int)≤(i:Int):=oQ
  have Qy:¬ us.length≤i:=oQ
  have cuD:decide (us.length≤i)=false:=aex Qy
  have ajo:decide ((us.length:Int)≤(i:Int))=false:=aex cu
  have cu2:(i:Int)<(us.length:Int):=oQ
  obtain ⟨u,hx⟩:∃ u,us[i]?=some u:=⟨_,aak hu⟩
  rw [hx]at hstep
  dsimp only at hstep
  obtain ⟨bk,off,c',hlv,hcell⟩:=iC (f:=bI) (k:=3) (fun u _=>rfl) (Hr.out _ hS.drop.drop) hx aN
  cases hlv
  have HG:=uQ (fun (w':World) (hw:Sat w0 w' (aC 3 1 (.slice (some ⟨sb,so,none⟩) L.aF.length sc) (ints L.aF)::aI p m L::F))=>show w'.cell? ⟨bk,off+i * 3,none⟩=some (.int .i64 u.seg)∧w'.cell? ⟨bk,off+i * 3+1,none⟩=some (.int .i64 u.size)∧w'.cell? ⟨bk,off+i * 3+2,none⟩=some (.int .i64 u.live) from by
   obtain ⟨_,_,_,e,hc⟩:=iC (f:=bI) (k:=3) (fun u _=>rfl) (Hr.out _ hw.drop.drop) hx aN
   cases e
   exact ⟨hc 0 _ rfl,hc 1 _ rfl,hc 2 _ rfl⟩)
  have hfu:aB.EX L.size s u=(decide (u.seg=s) && (decide (u.size=L.size s) && decide (u.live≤u.size))):=rfl
  clear hcell hx hu
  by_cases c2:u.seg=s
  rotate_left
  ·as_aux_lemma=>
   have nJ:=uQ (show W=false from by rw [hfu,aex c2]at hstep;exact hstep)
   have hb:(u.seg != s)=true:=aj6.2 c2
   clear hstep hfu c2
   go_wp2_with fail
   have hSd:=hS.drew
   refine dH [35,36] (fun w'=>w'.cell? ⟨bk,off+i * 3,none⟩=some (.int .i64 u.seg)∧w'.cell? ⟨bk,off+i * 3+1,none⟩=some (.int .i64 u.size)∧w'.cell? ⟨bk,off+i * 3+2,none⟩=some (.int .i64 u.live)) au ?_
   have hG:=HG.out _ hSd
   refine rP 0 ?_ (y:=aX)
   refine rP 1 ?_ (y:=aX)
   refine rP 2 ?_ (y:=(nZ ak dh))
   refine rP 3 ?_ (y:=jm)
   refine rP 4 ?_ (y:=aX)
   refine rP 5 ?_ (y:=(fM ah ak))
   refine rP 6 ?_ (y:=(fM ah ak))
   refine rP 7 ?_ (y:=(pO ah ak ak dh))
   refine rP 8 ?_ (y:=(kT ah ak dh))
   refine eP 9 ak au bK (kY ah ak au (by intro wq hq;first|exact hq|exact hq.1|exact hq.2|exact hq.2.1|exact hq.2.2|exact hq.2.2.1|exact hq.2.2.2|exact hq.2.2.2.1|exact hq.2.2.2.2)) aQ gQ ?_
   refine rP 10 ?_ (y:=(fM ah ak))
   refine rP 11 ?_ (y:=(oV ah ak ak dh))
   refine rP 12 ?_ (y:=(jX ah ak ak))
   refine rP 13 ?_ (y:=aX)
   refine dP 14 ak au bK ah gQ ?_
   refine dP 15 ak au bK ah gQ ?_
   refine dP 16 ak au bK ah gQ ?_
   refine dP 17 ak au bK ah gQ ?_
   refine dP 18 ak au bK ah gQ ?_
   refine dP 19 ak au bK ah gQ ?_
   refine dP 20 ak au bK ah gQ ?_
   refine dP 21 ak au bK ah gQ ?_
   refine dP 22 ak au bK ah gQ ?_
   refine rP 23 ?_ (y:=(jX ah ak ak))
   refine rP 24 ?_ (y:=aX)
   refine dP 25 ak au bK ah gQ ?_
   refine dP 26 ak au bK ah gQ ?_
   refine dP 27 ak au bK ah gQ ?_
   refine dP 28 ak au bK ah gQ ?_
   refine dP 29 ak au bK ah gQ ?_
   refine dP 30 ak au bK ah gQ ?_
   refine dP 31 ak au bK ah gQ ?_
   refine dP 32 ak au bK ah gQ ?_
   refine dP 33 ak au bK ah gQ ?_
   refine dP 34 ak au bK ah gQ ?_
   refine dP 35 ak au bK ah gQ ?_
   clear hG
   refine rP 36 ?_ (y:=(jX ah ak ak))
   refine dD au ?_
   try simp only [iO]
   try go_frame
   go_wp2_with fail
   go_ret
   exact ⟨_,rfl,by rw [nJ.out];rfl,hSd.drop⟩
  have hb1:(u.seg != s)=false:=by rw [c2];exact bne_self_eq_false ..
  rw [aiu c2,Bool.true_and]at hfu
  clear c2
  by_cases c3:u.size=L.size s
  rotate_left
  ·as_aux_lemma=>
   have nJ:=uQ (show W=false from by rw [hfu,aex c3]at hstep;exact hstep)
   have hb:(u.size != L.size s)=true:=aj6.2 c3
   clear hstep hfu c3
   go_wp2_with fail
   have hSd:=hS.drew
   refine dH [35,36] (fun w'=>w'.cell? ⟨bk,off+i * 3,none⟩=some (.int .i64 u.seg)∧w'.cell? ⟨bk,off+i * 3+1,none⟩=some (.int .i64 u.size)∧w'.cell? ⟨bk,off+i * 3+2,none⟩=some (.int .i64 u.live)) au ?_
   have hG:=HG.out _ hSd
   refine rP 0 ?_ (y:=aX)
   refine rP 1 ?_ (y:=aX)
   refine rP 2 ?_ (y:=(nZ ak dh))
   refine rP 3 ?_ (y:=jm)
   refine rP 4 ?_ (y:=aX)
   refine rP 5 ?_ (y:=(fM ah ak))
   refine rP 6 ?_ (y:=(fM ah ak))
   refine rP 7 ?_ (y:=(pO ah ak ak dh))
   refine rP 8 ?_ (y:=(kT ah ak dh))
   refine eP 9 ak au bK (kY ah ak au (by intro wq hq;first|exact hq|exact hq.1|exact hq.2|exact hq.2.1|exact hq.2.2|exact hq.2.2.1|exact hq.2.2.2|exact hq.2.2.2.1|exact hq.2.2.2.2)) aQ gQ ?_
   refine rP 10 ?_ (y:=(fM ah ak))
   refine rP 11 ?_ (y:=(oV ah ak ak dh))
   refine rP 12 ?_ (y:=(jX ah ak ak))
   refine rP 13 ?_ (y:=aX)
   refine rP 14 ?_ (y:=(fM ah ak))
   refine rP 15 ?_ (y:=(fM ah ak))
   refine rP 16 ?_ (y:=(pO ah ak ak dh))
   refine rP 17 ?_ (y:=(kT ah ak dh))
   refine eP 18 ak au bK (kY ah ak au (by intro wq hq;first|exact hq|exact hq.1|exact hq.2|exact hq.2.1|exact hq.2.2|exact hq.2.2.1|exact hq.2.2.2|exact hq.2.2.2.1|exact hq.2.2.2.2)) aQ gQ ?_
   refine rP 19 ?_ (y:=(fM ah ak))
   refine rP 20 ?_ (y:=(fM ah ak))
   refine bV 21 ak au (fun K hK=>?_)
   refine qm [ptr p,.int .i64 s] ah au ah ?_
   refine (IB.out _ _ (hSd.sb:Sat w0 _ (aI p m L::aC 3 1 (.slice (some ⟨sb,so,none⟩) L.aF.length sc) (ints L.aF)::F)) s).mono ?_
   rintro e rC ⟨v,rfl,rfl,h22⟩
   have h23:Sat w0 rC (aC 3 1 (.slice (some ⟨sb,so,none⟩) L.aF.length sc) (ints L.aF)::aI p m L::F):=h22.sb
   refine hK _ _ (.inr (.inl (HG.out _ h23))) ?_
   clear hK hSd
   generalize L.size s=z at *
   refine rP 22 ?_ (y:=(oV ah ak ak dh))
   refine rP 23 ?_ (y:=(jX ah ak ak))
   refine rP 24 ?_ (y:=aX)
   refine dP 25 ak au bK ah gQ ?_
   refine dP 26 ak au bK ah gQ ?_
   refine dP 27 ak au bK ah gQ ?_
   refine dP 28 ak au bK ah gQ ?_
   refine dP 29 ak au bK ah gQ ?_
   refine dP 30 ak au bK ah gQ ?_
   refine dP 31 ak au bK ah gQ ?_
   refine dP 32 ak au bK ah gQ ?_
   refine dP 33 ak au bK ah gQ ?_
   refine dP 34 ak au bK ah gQ ?_
   refine dP 35 ak au bK ah gQ ?_
   refine rP 36 ?_ (y:=(jX ah ak ak))
   refine dD au ?_
   try simp only [iO]
   try go_frame
   go_wp2_with fail
   go_ret
   exact ⟨_,rfl,by rw [nJ.out];rfl,h23.drop⟩
  have hb2:(u.size != L.size s)=false:=by rw [c3];exact bne_self_eq_false ..
  rw [aiu c3,Bool.true_and]at hfu
  by_cases c4:u.live≤u.size
  rotate_left
  ·as_aux_lemma=>
   have nJ:=uQ (show W=false from by rw [hfu,aex c4]at hstep;exact hstep)
   have c5:u.size<u.live:=oQ
   clear hstep hfu c3 c4
   go_wp2_with fail
   have hSd:=hS.drew
   refine dH [35,36] (fun w'=>w'.cell? ⟨bk,off+i * 3,none⟩=some (.int .i64 u.seg)∧w'.cell? ⟨bk,off+i * 3+1,none⟩=some (.int .i64 u.size)∧w'.cell? ⟨bk,off+i * 3+2,none⟩=some (.int .i64 u.live)) au ?_
   have hG:=HG.out _ hSd
   refine rP 0 ?_ (y:=aX)
   refine rP 1 ?_ (y:=aX)
   refine rP 2 ?_ (y:=(nZ ak dh))
   refine rP 3 ?_ (y:=jm)
   refine rP 4 ?_ (y:=aX)
   refine rP 5 ?_ (y:=(fM ah ak))
   refine rP 6 ?_ (y:=(fM ah ak))
   refine rP 7 ?_ (y:=(pO ah ak ak dh))
   refine rP 8 ?_ (y:=(kT ah ak dh))
   refine eP 9 ak au bK (kY ah ak au (by intro wq hq;first|exact hq|exact hq.1|exact hq.2|exact hq.2.1|exact hq.2.2|exact hq.2.2.1|exact hq.2.2.2|exact hq.2.2.2.1|exact hq.2.2.2.2)) aQ gQ ?_
   refine rP 10 ?_ (y:=(fM ah ak))
   refine rP 11 ?_ (y:=(oV ah ak ak dh))
   refine rP 12 ?_ (y:=(jX ah ak ak))
   refine rP 13 ?_ (y:=aX)
   refine rP 14 ?_ (y:=(fM ah ak))
   refine rP 15 ?_ (y:=(fM ah ak))
   refine rP 16 ?_ (y:=(pO ah ak ak dh))
   refine rP 17 ?_ (y:=(kT ah ak dh))
   refine eP 18 ak au bK (kY ah ak au (by intro wq hq;first|exact hq|exact hq.1|exact hq.2|exact hq.2.1|exact hq.2.2|exact hq.2.2.1|exact hq.2.2.2|exact hq.2.2.2.1|exact hq.2.2.2.2)) aQ gQ ?_
   refine rP 19 ?_ (y:=(fM ah ak))
   refine rP 20 ?_ (y:=(fM ah ak))
   refine bV 21 ak au (fun K hK=>?_)
   refine qm [ptr p,.int .i64 s] ah au ah ?_
   refine (IB.out _ _ (hSd.sb:Sat w0 _ (aI p m L::aC 3 1 (.slice (some ⟨sb,so,none⟩) L.aF.length sc) (ints L.aF)::F)) s).mono ?_
   rintro e rC ⟨v,rfl,rfl,h22⟩
   have h23:Sat w0 rC (aC 3 1 (.slice (some ⟨sb,so,none⟩) L.aF.length sc) (ints L.aF)::aI p m L::F):=h22.sb
   refine hK _ _ (.inr (.inl (HG.out _ h23))) ?_
   clear hK hSd
   generalize L.size s=z at *
   have hG2:=HG.out _ h23
   refine rP 22 ?_ (y:=(oV ah ak ak dh))
   refine rP 23 ?_ (y:=(jX ah ak ak))
   refine rP 24 ?_ (y:=aX)
   refine rP 25 ?_ (y:=(fM ah ak))
   refine rP 26 ?_ (y:=(fM ah ak))
   refine rP 27 ?_ (y:=(pO ah ak ak dh))
   refine rP 28 ?_ (y:=(kT ah ak dh))
   refine eP 29 ak au bK (kY ah ak au (by intro wq hq;first|exact hq|exact hq.1|exact hq.2|exact hq.2.1|exact hq.2.2|exact hq.2.2.1|exact hq.2.2.2|exact hq.2.2.2.1|exact hq.2.2.2.2)) aQ gQ ?_
   refine rP 30 ?_ (y:=(fM ah ak))
   refine rP 31 ?_ (y:=(fM ah ak))
   refine rP 32 ?_ (y:=(pO ah ak ak dh))
   refine rP 33 ?_ (y:=(kT ah ak dh))
   refine eP 34 ak au bK (kY ah ak au (by intro wq hq;first|exact hq|exact hq.1|exact hq.2|exact hq.2.1|exact hq.2.2|exact hq.2.2.1|exact hq.2.2.2|exact hq.2.2.2.1|exact hq.2.2.2.2)) aQ gQ ?_
   clear hG hG2
   refine rP 35 ?_ (y:=(oV ah ak ak dh))
   refine rP 36 ?_ (y:=(jX ah ak ak))
   refine dD au ?_
   try simp only [iO]
   try go_frame
   go_wp2_with fail
   go_ret
   exact ⟨_,rfl,by rw [nJ.out];rfl,h23.drop⟩
  ·as_aux_lemma=>
   have HW:=uQ (show aB.rM L.size n us (L.aF.drop (i+1)) (i+1)=W from by rw [hfu,aiu c4]at hstep;exact hstep.symm)
   have c5:¬ u.size<u.live:=oQ
   clear hstep hfu c3 c4
   go_wp2_with fail
   have hSd:=hS.drew
   refine dH [35,36] (fun w'=>w'.cell? ⟨bk,off+i * 3,none⟩=some (.int .i64 u.seg)∧w'.cell? ⟨bk,off+i * 3+1,none⟩=some (.int .i64 u.size)∧w'.cell? ⟨bk,off+i * 3+2,none⟩=some (.int .i64 u.live)) au ?_
   have hG:=HG.out _ hSd
   refine rP 0 ?_ (y:=aX)
   refine rP 1 ?_ (y:=aX)
   refine rP 2 ?_ (y:=(nZ ak dh))
   refine rP 3 ?_ (y:=jm)
   refine rP 4 ?_ (y:=aX)
   refine rP 5 ?_ (y:=(fM ah ak))
   refine rP 6 ?_ (y:=(fM ah ak))
   refine rP 7 ?_ (y:=(pO ah ak ak dh))
   refine rP 8 ?_ (y:=(kT ah ak dh))
   refine eP 9 ak au bK (kY ah ak au (by intro wq hq;first|exact hq|exact hq.1|exact hq.2|exact hq.2.1|exact hq.2.2|exact hq.2.2.1|exact hq.2.2.2|exact hq.2.2.2.1|exact hq.2.2.2.2)) aQ gQ ?_
   refine rP 10 ?_ (y:=(fM ah ak))
   refine rP 11 ?_ (y:=(oV ah ak ak dh))
   refine rP 12 ?_ (y:=(jX ah ak ak))
   refine rP 13 ?_ (y:=aX)
   refine rP 14 ?_ (y:=(fM ah ak))
   refine rP 15 ?_ (y:=(fM ah ak))
   refine rP 16 ?_ (y:=(pO ah ak ak dh))
   refine rP 17 ?_ (y:=(kT ah ak dh))
   refine eP 18 ak au bK (kY ah ak au (by intro wq hq;first|exact hq|exact hq.1|exact hq.2|exact hq.2.1|exact hq.2.2|exact hq.2.2.1|exact hq.2.2.2|exact hq.2.2.2.1|exact hq.2.2.2.2)) aQ gQ ?_
   refine rP 19 ?_ (y:=(fM ah ak))
   refine rP 20 ?_ (y:=(fM ah ak))
   refine bV 21 ak au (fun K hK=>?_)
   refine qm [ptr p,.int .i64 s] ah au ah ?_
   refine (IB.out _ _ (hSd.sb:Sat w0 _ (aI p m L::aC 3 1 (.slice (some ⟨sb,so,none⟩) L.aF.length sc) (ints L.aF)::F)) s).mono ?_
   rintro e rC ⟨v,rfl,rfl,h22⟩
   have h23:Sat w0 rC (aC 3 1 (.slice (some ⟨sb,so,none⟩) L.aF.length sc) (ints L.aF)::aI p m L::F):=h22.sb
   refine hK _ _ (.inr (.inl (HG.out _ h23))) ?_
   clear hK hSd
   have hG2:=HG.out _ h23
   refine rP 22 ?_ (y:=(oV ah ak ak dh))
   refine rP 23 ?_ (y:=(jX ah ak ak))
   refine rP 24 ?_ (y:=aX)
   refine rP 25 ?_ (y:=(fM ah ak))
   refine rP 26 ?_ (y:=(fM ah ak))
   refine rP 27 ?_ (y:=(pO ah ak ak dh))
   refine rP 28 ?_ (y:=(kT ah ak dh))
   refine eP 29 ak au bK (kY ah ak au (by intro wq hq;first|exact hq|exact hq.1|exact hq.2|exact hq.2.1|exact hq.2.2|exact hq.2.2.1|exact hq.2.2.2|exact hq.2.2.2.1|exact hq.2.2.2.2)) aQ gQ ?_
   refine rP 30 ?_ (y:=(fM ah ak))
   refine rP 31 ?_ (y:=(fM ah ak))
   refine rP 32 ?_ (y:=(pO ah ak ak dh))
   refine rP 33 ?_ (y:=(kT ah ak dh))
   refine eP 34 ak au bK (kY ah ak au (by intro wq hq;first|exact hq|exact hq.1|exact hq.2|exact hq.2.1|exact hq.2.2|exact hq.2.2.1|exact hq.2.2.2|exact hq.2.2.2.1|exact hq.2.2.2.2)) aQ gQ ?_
   clear hG hG2
   refine rP 35 ?_ (y:=(oV ah ak ak dh))
   refine rP 36 ?_ (y:=(jX ah ak ak))
   refine dD au ?_
   try simp only [iO]
   try go_frame
   go_wp2_with fail
   go_roundg (L.aF.length - (i+1))
   case measure=>have:=bT.out;omega
   case rel=>exact ⟨i+1,rfl,aiy bT.out,by first|rfl|go_num,by first|rfl|go_num,HW.out,h23⟩
end
section
variable {w0 w:World}{F:List aG}{m K p:Nat}{M:ay}{L:Seg.Log}{n:Int}
set_option maxRecDepth 20000 in
theorem ac7 (hM:M.Ok K) (hz:M.size ByteArray.empty=(0,9)) (ht:aB.there M (aB.name aB.idx n)=false∨aB.there M (aB.name aB.use n)=false) (h:Sat w0 w (aH m M::F)) :
  Calls Tryz.prog 92 #[ptr p,ptr m,.int .i64 n] w (aO fun v w'=>v = .tuple #[.pointer none,errno 9]∧Sat w0 w' (aH m M::F)):=by
 have hsz:=Ai hM h ByteArray.empty
 rw [hz]at hsz
 have HM:=uQ hM;have Ht:=uQ ht
 clear hM hz ht
 go_enter Tryz.func92,Tryz.ntmps92
 go_wp2_with fail
 refine hsz.mono ?_
 rintro e w1 ⟨v,rfl,rfl,rfl⟩
 clear hsz
 go_wp2_with fail
 refine (Fp n h).mono ?_
 rintro e w2 ⟨v,rfl,rfl,h2⟩
 clear h
 have hth:=CU HM.out (aB.name aB.idx n) h2
 cases ht:aB.there M (aB.name aB.idx n) with
 |false=>
  rw [ht]at hth
  clear ht
  go_wp2_with fail
  refine hth.mono ?_
  rintro e w3 ⟨v,rfl,rfl,rfl⟩
  clear hth
  go_wp2_with fail
  go_ret2
  exact ⟨_,rfl,rfl,h2⟩
 |true=>
  rw [ht]at hth
  have pX:=uQ (Ht.out.resolve_left (by rw [ht];decide))
  clear ht
  go_wp2_with fail
  refine hth.mono ?_
  rintro e w3 ⟨v,rfl,rfl,rfl⟩
  clear hth
  go_wp2_with fail
  refine (Ih n h2).mono ?_
  rintro e w4 ⟨v,rfl,rfl,h4⟩
  have zH:=CU HM.out (aB.name aB.use n) h4
  rw [pX.out]at zH
  go_wp2_with fail
  refine zH.mono ?_
  rintro e w5 ⟨v,rfl,rfl,rfl⟩
  go_wp2_with fail
  go_ret2
  exact ⟨_,rfl,rfl,h4⟩
end
section
variable {w0 w:World}{F:List aG}{m K p:Nat}{M:ay}{L:Seg.Log}{n:Int}
set_option maxRecDepth 20000 in
theorem ac8 (hL:L.Ok) (hM:M.Ok K) (hz:M.size ByteArray.empty=(0,9)) (ht1:aB.there M (aB.name aB.idx n)=true) (ht2:aB.there M (aB.name aB.use n)=true)
  (kv:List (aj.Bs×Seg.aU)) (hk:∀ q∈kv,q.1.length=32) (us:List Rep.Use) (hoi:aS.Ok 3 true (kv.map Rep.iY)) (hou:aS.Ok 3 false (us.map Rep.jc))
  (ha1:M.all (aB.name aB.idx n)=(aS.book Xx.sum aS.qR true (kv.map Rep.iY),0)) (ha2:M.all (aB.name aB.use n)=(aS.book Xx.sum aS.qU false (us.map Rep.jc),0))
  (hf:aB.fits L us n=true) (qp:∀ q∈kv,aB.lies q.2 (aB.sizes us)=true∧IntKind.i64.wrap (aB.sizes us q.2.seg - q.2.at_)=aB.sizes us q.2.seg - q.2.at_) (h:Sat w0 w (aI p m L::aH m M::F)) :
  Calls Tryz.prog 92 #[ptr p,ptr m,.int .i64 n] w (aO fun v w'=>∃ (ps pi:Nat) (uv tv:Value),v = .tuple #[ptr ps,errno 0]∧Sat w0 w' (cZ ps n pi uv tv::aJ pi (Tab.mapOf kv) kv.length::aC 73 3 uv (us.flatMap bI)::aC 3 1 tv (ints (L.aF.filter fun s=>decide (n<s)))::aI p m L::aH m M::F)):=by
 have h0:Sat w0 w (aH m M::aI p m L::F):=h.sb
 have hsz:=Ai hM h0 ByteArray.empty
 rw [hz]at hsz
 have vS:us.length≤1073741824:=by have:=hou.len;rw [aaJ]at this;omega
 have HM:=uQ hM;have Em:=uQ ht1;have pX:=uQ ht2;have HL:=uQ hL;have Hk:=uQ hk;have y8:=uQ hoi;have y9:=uQ hou;have IE:=uQ ha1;have IG:=uQ ha2;have Hf:=uQ hf;have Jf:=uQ qp;have jZ:=uQ (show kv.length≤65536 by have:=hoi.len;rwa [aaJ]at this);have mD:=uQ vS
 clear hM hz ht1 ht2 hL hk hoi hou ha1 ha2 hf vS qp h
 go_enter Tryz.func92,Tryz.ntmps92
 go_wp2_with fail
 refine hsz.mono ?_
 rintro e w1 ⟨v,rfl,rfl,rfl⟩
 clear hsz
 go_wp2_with fail
 refine (Fp n h0).mono ?_
 rintro e w2 ⟨v,rfl,rfl,h2⟩
 clear h0
 have hth:=CU HM.out (aB.name aB.idx n) h2
 rw [Em.out]at hth
 go_wp2_with fail
 refine hth.mono ?_
 rintro e w3 ⟨v,rfl,rfl,rfl⟩
 clear hth
 go_wp2_with fail
 refine (Ih n h2).mono ?_
 rintro e w4 ⟨v,rfl,rfl,h4⟩
 clear h2
 have zH:=CU HM.out (aB.name aB.use n) h4
 rw [pX.out]at zH
 go_wp2_with fail
 refine zH.mono ?_
 rintro e w5 ⟨v,rfl,rfl,rfl⟩
 clear zH
 go_wp2_with fail
 refine (Fp n h4).mono ?_
 rintro e w6 ⟨v,rfl,rfl,h6⟩
 clear h4
 have ha:=JE HM.out h6 (aB.name aB.idx n)
 rw [IE.out]at ha
 go_wp2_with fail
 refine ha.mono ?_
 rintro e w7 ⟨v,rfl,bv,rfl,h7⟩
 clear ha h6
 go_wp2_with fail
 refine (Ih n h7).mono ?_
 rintro e w8 ⟨v,rfl,rfl,h8⟩
 clear h7
 have h8':Sat w0 w8 (aH m M::bJ bv (aS.book Xx.sum aS.qR true (kv.map Rep.iY))::aI p m L::F):=h8.sb
 have hb:=JE HM.out h8' (aB.name aB.use n)
 rw [IG.out]at hb
 clear h8
 go_wp2_with fail
 refine hb.mono ?_
 rintro e w9 ⟨v,rfl,cv,rfl,h9⟩
 clear hb h8'
 have zD:Sat w0 w9 (bJ bv (aS.book Xx.sum aS.qR true (kv.map Rep.iY))::bJ cv (aS.book Xx.sum aS.qU false (us.map Rep.jc))::aH m M::aI p m L::F):=h9.sb
 clear h9
 have oK:=RS.F5 zD
 obtain ⟨ba,bn,bc,rfl,_,_⟩:=oK.cap
 go_wp2_with fail
 refine (aaC kv Hk.out y8.out oK zD).mono ?_
 rintro e w10 ⟨v,rfl,iv,rfl,h10⟩
 clear zD oK
 have KE:Sat w0 w10 (bJ cv (aS.book Xx.sum aS.qU false (us.map Rep.jc))::aC 243 35 iv (kv.flatMap fC)::aH m M::aI p m L::F):=h10.sb
 clear h10
 have lV:=RS.F5 KE
 obtain ⟨ca,cn,cc,rfl,_,_⟩:=lV.cap
 go_wp2_with fail
 refine (aaE us y9.out lV KE).mono ?_
 rintro e jd ⟨v,rfl,uv,rfl,h11⟩
 clear KE lV
 have h12:Sat w0 jd (aI p m L::aC 73 3 uv (us.flatMap bI)::aC 243 35 iv (kv.flatMap fC)::aH m M::F):=h11.sb
 clear h11
 go_wp2_with fail
 have hft:=acZ (n:=n) us mD.out HL.out (fun w hw=>Sat.rd hw) h12
 rw [Hf.out]at hft
 refine hft.mono ?_
 rintro e jF ⟨v,rfl,rfl,h13⟩
 clear hft h12
 obtain ⟨ua,uc,rfl⟩:=iD (fun u _=>uK u) (Sat.rd (h13.pick (A:=aC 73 3 uv (us.flatMap bI)) aZ)) aN
 obtain ⟨ia,ic,rfl⟩:=iD (fun q hq=>ku q (Hk.out q hq)) (Sat.rd (h13.pick (A:=aC 243 35 iv (kv.flatMap fC)) fG)) aN
 have Py:=uQ (show ∀ i u,us[i]?=some u→aB.sizes (us.take (i+1))=fun s=>if s=u.seg then u.size else aB.sizes (us.take i) s from fun i u hu=>by rw [ajL,hu,ajY,aB.XB])
 have hmm:=@run_makeMap Tryz.prog
 go_wp2_with fail
 refine (U5 h13).mono ?_
 rintro ee kR ⟨v,rfl,pi,rfl,gW⟩
 clear h13
 go_wp2_with (with_reducible apply eG)
 refine ⟨eH (cs:=#[.int .i64 n,ptr pi,.slice ua us.length uc,.slice none 0 0]) gW ah ah ?_⟩
 intro ps Ar h15
 clear gW
 have h16:=Ul h15
 go_wp2_with fail
 have hx:Sat w0 (Ar.alloc (.map #[] 0)) (jr Ar.heap.size (aB.sizes (us.take 0))::cZ ps n pi (.slice ua us.length uc) (.slice none 0 0)::aJ pi (fun _=>none) 0::aI p m L::aC 73 3 (.slice ua us.length uc) (us.flatMap bI)::aC 243 35 (.slice ia kv.length ic) (kv.flatMap fC)::aH m M::F):=h16
 clear h15 h16 hmm
 generalize Ar.heap.size=bm at *
 go_loopg [98] us.length (fun g iq wr=>∃ i:Nat,g=us.length - i∧i≤us.length∧iq = .int .i64 i ∧
  Sat w0 wr (jr bm (aB.sizes (us.take i))::cZ ps n pi (.slice ua us.length uc) (.slice none 0 0)::aJ pi (fun _=>none) 0::aI p m L::aC 73 3 (.slice ua us.length uc) (us.flatMap bI)::aC 243 35 (.slice ia kv.length ic) (kv.flatMap fC)::aH m M::F))
 case atStart=>exact ⟨0,rfl,afm _,rfl,hx⟩
 case round=>
  obtain ⟨i,rfl,hi,rfl,hS⟩:=hrel
  clear hx
  by_cases hlt:i<us.length
  ·have c1:(i:Int)<(us.length:Int):=by omega
   have hwi:IntKind.i64.wrap ((i:Int)+1)=(i:Int)+1:=acI _ (by have:=mD.out;omega)
   obtain ⟨u,hu⟩:∃ u,us[i]?=some u:=⟨_,aak hlt⟩
   have bT:=uQ hlt;have gq:=uQ (Py.out i u hu)
   obtain ⟨bk,off,c',hsv,hcell⟩:=iC (fun u _=>uK u) (Sat.rd (hS.pk (A:=aC 73 3 (.slice ua us.length uc) (us.flatMap bI)))) hu aN
   cases hsv
   clear hi hlt hu
   go_wp2_with (first
    |((with_reducible refine bD ⟨?_⟩);refine gU (b:=bk) (o:=off+i * 3) (bI u) ah hcell Tryz.underlying73 rfl au ?_)
    |(with_reducible apply eU))
   refine ⟨dU Ir hS rfl ?_⟩
   intro b18 w18 h18
   go_wp2_with (with_reducible apply bY)
   refine ⟨fE (bI u).toArray h18 ah ah ah bZ au ah ?_⟩
   intro Om h19
   clear h18 hS hcell
   obtain ⟨DU,hup,h20⟩:=Lj u.seg u.size (h19.pick (aW aT))
   have f0:Om.cell? ⟨b18,0,none⟩=some (.int .i64 u.seg):=h19.cellP aT 0 rfl
   have f1:Om.cell? ⟨b18,1,none⟩=some (.int .i64 u.size):=h19.cellP aT 1 rfl
   rw [← gq.out]at h20
   go_wp2_with fail
   go_roundg (us.length - (i+1))
   case measure=>have:=bT.out;omega
   case rel=>exact ⟨i+1,rfl,aiy bT.out,by first|rfl|go_num,h20.sb⟩
  ·have c1:¬ (i:Int)<(us.length:Int):=by omega
   obtain rfl:i=us.length:=by omega
   rw [aiv]at hS
   clear hlt hi Py
   have hy:Sat w0 wr (jr bm (aB.sizes us)::cZ ps n pi (.slice ua us.length uc) (.slice none 0 0)::aJ pi (Tab.mapOf (kv.take 0)) 0::aI p m L::aC 73 3 (.slice ua us.length uc) (us.flatMap bI)::aC 243 35 (.slice ia kv.length ic) (kv.flatMap fC)::aH m M::F):=hS
   clear hS
   go_wp2_with fail
   go_loopg [110] kv.length (fun g iq wr=>∃ i:Nat,g=kv.length - i∧i≤kv.length∧iq = .int .i64 i ∧
    Sat w0 wr (jr bm (aB.sizes us)::cZ ps n pi (.slice ua us.length uc) (.slice none 0 0)::aJ pi (Tab.mapOf (kv.take i)) i::aI p m L::aC 73 3 (.slice ua us.length uc) (us.flatMap bI)::aC 243 35 (.slice ia kv.length ic) (kv.flatMap fC)::aH m M::F))
   case atStart=>exact ⟨0,rfl,afm _,rfl,hy⟩
   case round=>
    obtain ⟨i,rfl,hi,rfl,hS⟩:=hrel
    clear hy
    by_cases hlt:i<kv.length
    ·have c1:(i:Int)<(kv.length:Int):=by omega
     have hwi:IntKind.i64.wrap ((i:Int)+1)=(i:Int)+1:=acI _ (by have:=jZ.out;omega)
     obtain ⟨q,hq⟩:∃ q,kv[i]?=some q:=⟨_,aak hlt⟩
     have hqm:=abA hq
     have bT:=uQ hlt
     have Bh:=uQ (show Tab.mapOf (kv.take (i+1))=Tab.put (Tab.mapOf (kv.take i)) q.1 q.2 by rw [ajL,hq,ajY,Tab.LX])
     obtain ⟨bk,off,c',hsv,hcell⟩:=iC (fun q hq=>ku q (Hk.out q hq)) (Sat.rd (hS.pk (A:=aC 243 35 (.slice ia kv.length ic) (kv.flatMap fC)))) hq aN
     cases hsv
     have Hq:=uQ (Hk.out q hqm)
     have TL:=Jf.out q hqm
     have O6:=uQ TL
     have Ja:=uQ (ku q Hq.out)
     clear hi hlt hq hqm TL
     go_wp2_with (first
      |((with_reducible refine bD ⟨?_⟩);refine gU (b:=bk) (o:=off+i * 35) (fC q) ah hcell Tryz.underlying243 rfl (by rw [Ja.out];kernel_rfl) ?_)
      |(with_reducible apply eU))
     refine ⟨dU Iq hS rfl ?_⟩
     intro b20 DU h20
     go_wp2_with (with_reducible apply bY)
     refine ⟨fE (fC q).toArray h20 ah ah (by rw [aaI,Ja.out];rfl) bZ (by rw [aaI,Ja.out];kernel_rfl) (by rw [adM];exact C9 _) ?_⟩
     intro yP h21
     clear h20 hS hcell
     have hra:yP.rangeAt b20 0 (aA q.1):=fun j v hj=>by
      refine h21.cellP aT (0+j) ?_
      rw [abL,aen]
      unfold fC
      rw [adV (abl.1 hj).1];exact hj
     have CP:yP.rangeAt b20 32 (aK q.2):=fun j v hj=>by
      refine h21.cellP aT (32+j) ?_
      rw [abL]
      unfold fC
      rw [adQ (by rw [aV,Hq.out];omega),aV,Hq.out,akY];exact hj
     go_wp2_with ((with_reducible refine bD ⟨?_⟩);refine gU (b:=b20) (o:=32) (aK q.2) ah CP Tryz.underlying116 rfl au ?_)
     refine (ac6 q.2 O6.out.2 (h21.pk (A:=jr bm (aB.sizes us)))).mono ?_
     rintro ee rC ⟨v,rfl,rfl,h22⟩
     rw [O6.out.1]
     clear hra CP h21
     have h23:=h22.drew
     clear h22
     have hG:rC.drew.cell? ⟨ps,1,none⟩=some (ptr pi)∧rC.drew.rangeAt b20 0 (aA q.1)∧rC.drew.rangeAt b20 32 (aK q.2):=by
      refine ⟨h23.cellP (aW aZ) 1 rfl,fun j v hj=>?_,fun j v hj=>?_⟩
      ·refine h23.cellP aZ (0+j) ?_
       rw [abL,aen]
       unfold fC
       rw [adV (abl.1 hj).1];exact hj
      ·refine h23.cellP aZ (32+j) ?_
       rw [abL]
       unfold fC
       rw [adQ (by rw [aV,Hq.out];omega),aV,Hq.out,akY];exact hj
     go_wp2_with fail
     refine dH [8] (fun w'=>w'.cell? ⟨ps,1,none⟩=some (ptr pi)∧w'.rangeAt b20 0 (aA q.1)∧w'.rangeAt b20 32 (aK q.2)) au ?_
     refine rP 0 ?_ (y:=aX)
     refine rP 1 ?_ (y:=dZ)
     refine rP 2 ?_ (y:=cO)
     refine rt 3 (h:=?_)
     refine rP 4 ?_ (y:=cO)
     refine eP 5 ak au bK (ig (b:=b20) (o:=0) (aA q.1) ah Tryz.underlying31 rfl (by rw [aV,Hq.out];kernel_rfl) (fun w hw=>hw.2.1)) aQ gQ ?_
     refine rP 6 ?_ (y:=cO)
     refine eP 7 ak au bK (ig (b:=b20) (o:=32) (aK q.2) ah Tryz.underlying116 rfl au (fun w hw=>hw.2.2)) aQ gQ ?_
     clear hG
     have hp:=Gi (B:=i) (p:=pi) (by have:=bT.out;have:=jZ.out;omega) Hq.out q.2 (h23.pk (A:=aJ pi (Tab.mapOf (kv.take i)) i))
     clear h23
     refine bV 8 ak au (fun K' hK'=>?_)
     (refine vI au ak ak ak ?_)
     refine hp.mono ?_
     rintro ee w24 ⟨v,rfl,vN⟩
     refine hK' _ _ (.inl rfl) ?_
     clear hK' hp
     refine dD au ?_
     rw [← Bh.out]at vN
     go_wp2_with fail
     go_roundg (kv.length - (i+1))
     case measure=>have:=bT.out;omega
     case rel=>exact ⟨i+1,rfl,aiy bT.out,by first|rfl|go_num,vN.sb⟩
    ·have c1:¬ (i:Int)<(kv.length:Int):=by omega
     obtain rfl:i=kv.length:=by omega
     rw [aiv]at hS
     clear hlt hi
     have hsl:L.aF.length≤1073741824:=by unfold Seg.Log.aF;rw [aaJ];have:=HL.out.len;omega
     have rE:=uQ hsl
     clear hsl
     go_wp2_with fail
     refine (Dn HL.out (hS.pk (A:=aI p m L))).mono ?_
     rintro ee yQ ⟨v,rfl,h30⟩
     obtain ⟨sa,sn,sc,rfl,TG,_⟩:=Sat.rd h30
     have ac5:sn=L.aF.length:=by
      rw [show (ints L.aF).length=L.aF.length from aaJ ..]at TG;omega
     subst ac5
     clear TG hS
     have h31:Sat w0 yQ (cZ ps n pi (.slice ua us.length uc) (.slice none 0 0)::aC 3 1 (.slice none 0 0) (ints ((L.aF.take 0).filter fun s=>decide (n<s)))::aJ pi (Tab.mapOf kv) kv.length::aC 3 1 (.slice sa L.aF.length sc) (ints L.aF)::aI p m L::aC 73 3 (.slice ua us.length uc) (us.flatMap bI)::aH m M::F):=
      (Sat.fD.2 h30).sb
     clear h30
     go_wp2_with fail
     go_loopg [132] L.aF.length (fun g iq wr=>∃ (i:Nat) (tv:Value),g=L.aF.length - i∧i≤L.aF.length∧iq = .int .i64 i ∧
      Sat w0 wr (cZ ps n pi (.slice ua us.length uc) tv::aC 3 1 tv (ints ((L.aF.take i).filter fun s=>decide (n<s)))::aJ pi (Tab.mapOf kv) kv.length::aC 3 1 (.slice sa L.aF.length sc) (ints L.aF)::aI p m L::aC 73 3 (.slice ua us.length uc) (us.flatMap bI)::aH m M::F))
     case atStart=>exact ⟨0,_,rfl,afm _,rfl,h31⟩
     case round=>
      obtain ⟨i,tv,rfl,hi,rfl,hS⟩:=hrel
      clear h31
      by_cases hlt:i<L.aF.length
      ·have c1:(i:Int)<(L.aF.length:Int):=by omega
       have hwi:IntKind.i64.wrap ((i:Int)+1)=(i:Int)+1:=acI _ (by have:=rE.out;omega)
       obtain ⟨s,hs⟩:∃ s,L.aF[i]?=some s:=⟨_,aak hlt⟩
       have bT:=uQ hlt
       have fB:=uQ (show L.aF.take (i+1)=L.aF.take i++[s] by rw [ajL,hs];rfl)
       obtain ⟨bk,off,cc,hsv,f0⟩:=CZ (Sat.rd (hS.pk (A:=aC 3 1 (.slice sa L.aF.length sc) (ints L.aF)))) hs
       cases hsv
       clear hi hlt hs
       by_cases hgt:n<s
       ·have xw:=uQ (show ints ((L.aF.take (i+1)).filter fun s=>decide (n<s))=ints ((L.aF.take i).filter fun s=>decide (n<s))++[.int .i64 s] by
         rw [fB.out,List.filter_append]
         unfold ints
         rw [aey]
         simp [hgt])
        have hil:(ints ((L.aF.take i).filter fun s=>decide (n<s))).length≤2147483648:=by
         unfold ints
         rw [aaJ]
         have h1:=akD (fun s=>decide (n<s)) (L.aF.take i)
         have h2:=akX i L.aF
         have:=rE.out
         omega
        have e3:wr.cell? ⟨ps,3,none⟩=some tv:=hS.cellP aT 3 rfl
        go_wp2_with (with_reducible apply ny)
        refine ⟨nH (e:=3) (sz:=1) (dS:=8) au hS ak (cs:=#[.int .i64 s]) rfl rfl aN ?_⟩
        intro b41 w41 oI
        go_wp2_with (with_reducible apply lg)
        refine ⟨nG 3 1 8 au oI ah ah (aW (aW aT)) aT rfl (acy 1) ah hil (by show 1≤65536;decide) aN rfl ?_⟩
        intro bA nA cA w42 h42
        clear e3 hil
        go_wp2_with (with_reducible apply bY)
        refine ⟨eY (cs':=#[.int .i64 n,ptr pi,.slice ua us.length uc,.slice (some ⟨bA,0,none⟩) nA cA]) h42 ah ak ah (jh bZ) bF au ah ?_⟩
        intro Oq h43
        have KF:Sat w0 Oq (cZ ps n pi (.slice ua us.length uc) (.slice (some ⟨bA,0,none⟩) nA cA)::aC 3 1 (.slice (some ⟨bA,0,none⟩) nA cA) (ints ((L.aF.take (i+1)).filter fun s=>decide (n<s)))::aJ pi (Tab.mapOf kv) kv.length::aC 3 1 (.slice (some ⟨bk,off,none⟩) L.aF.length sc) (ints L.aF)::aI p m L::aC 73 3 (.slice ua us.length uc) (us.flatMap bI)::aH m M::F):=by
         rw [xw.out]
         exact h43.sb
        clear oI h42 h43 hS f0
        go_wp2_with fail
        go_roundg (L.aF.length - (i+1))
        case measure=>have:=bT.out;omega
        case rel=>exact ⟨i+1,_,rfl,aiy bT.out,by first|rfl|go_num,KF⟩
       ·have xw:=uQ (show ints ((L.aF.take (i+1)).filter fun s=>decide (n<s))=ints ((L.aF.take i).filter fun s=>decide (n<s)) by
         rw [fB.out,List.filter_append]
         simp [hgt])
        have ajw:¬ s>n:=hgt
        go_wp2_with fail
        go_roundg (L.aF.length - (i+1))
        case measure=>have:=bT.out;omega
        case rel=>exact ⟨i+1,tv,rfl,aiy bT.out,by first|rfl|go_num,by rw [xw.out];exact hS⟩
      ·have c1:¬ (i:Int)<(L.aF.length:Int):=by omega
       obtain rfl:i=L.aF.length:=by omega
       rw [aiv]at hS
       clear hlt hi
       go_wp2_with fail
       go_ret2
       exact ⟨_,rfl,ps,rfl,pi,_,tv,hS.sb⟩
end
section
variable {w0 w:World}{F:List aG}{p m K r0 E B n:Nat}{L:Seg.Log}{M:ay}{C:List (List aj.aP)}{N limit:Int}{us:List Rep.Use}{pl:List (aj.Bs×Seg.aU)}
def PK (w0:World) (p m n:Nat) (L:Seg.Log) (M:ay) (C:List (List aj.aP)) (N:Int) (F:List aG) (v:Value) (w:World):Prop:=
 ∃ (ps pi:Nat) (uv tv:Value) (x:List (aj.Bs×Rep.dF)×Nat),v = .tuple #[ptr ps,.agg (dK Rep.dI.zero),errno 0]∧(∃ a c,tv = .slice a 0 c)∧(Tab.Lists (Rep.ledger (Rep.dJ 0 C)) x.1∧(∀ q∈x.1,q.1.length=32)∧x.2≤n) ∧
  Sat w0 w (cZ ps N pi uv tv::aJ pi (Tab.mapOf (Rep.puts x.1)) x.2::aC 73 3 uv (((Seg.kZ C).map (Rep.upd x.1)).flatMap bI)::aI p m L::aH m M::F)
theorem agz (hR:Seg.Rp K r0 E B n L M C) (hn:n≤1000) (hst:Seg.uZ C N us pl) (hH:Ro w0 F Half) (h:Sat w0 w (aI p m L::aH m M::F)) :
  Calls Tryz.prog 93 #[ptr p] w (aO fun v w'=>PK w0 p m n L M C N F v w'):=by
 obtain ⟨_,q2,q3⟩:=hR.last hst
 refine (NG hR.hg.keeps.log hR.hg.keeps.calm.ok hH (adr hR.iE oQ) hR.WU h).mono ?_
 rintro e w' ⟨v,rfl,ho⟩
 unfold tJ at ho
 rw [show Rep.run (dB L M) L.aF = .inr L.aF.length from q2]at ho
 obtain ⟨ps,pi,uv,tv,av,kv,rfl,⟨k1,k2,k3⟩,⟨⟨a,c,rfl⟩,_⟩,hS⟩:=ho
 rw [aiv]at k1 k3 hS
 rw [show Rep.rowsOf (dB L M) L.aF=Rep.dJ 0 C from hR.rows]at k1
 rw [q3,show Rep.jl (dB L M) L.aF=Seg.kZ C from hR.hg.uses,akb]at hS
 exact ⟨_,rfl,ps,pi,uv,_,(kv,kv.length),rfl,⟨a,c,rfl⟩,⟨k1,k2,adr k3 hR.iE⟩,hS.sb⟩
set_option maxRecDepth 20000 in
theorem acf (hR:Seg.Rp K r0 E B n L M C) (hn:n≤1000) (hst:Seg.uZ C N us pl) (hh:Seg.NF M∨C≠[]∧Seg.HF M N pl us) (hH:Ro w0 F Half) (h:Sat w0 w (aI p m L::aH m M::F)) :
  Calls Tryz.prog 46 #[ptr p,ptr m] w (aO fun v w'=>PK w0 p m n L M C N F v w'):=by
 have hL:=hR.hg.keeps.log
 have hM:=hR.hg.keeps.calm.ok
 have hq:=hR.hg.keeps.calm.quiet
 have hN:=hst.last
 have hC:=hR.hg.count
 obtain ⟨q1,_,_⟩:=hR.last hst
 have gq:=uQ (show ∀ f∈M.list,f.size≤4000000000 from fun f hf=>by
  rw [hq.list]at hf
  obtain ⟨x,hx,rfl⟩:=acK.1 hf
  exact adr (hR.small x hx) aN)
 have Ju:=uQ (fun (w':World) (R:List aG) (hr:Ro w0 R Half) (hw:Sat w0 w' (aI p m L::aH m M::R))=>agz hR hn hst hr hw)
 have hz:=GX hM hq.off
 have HM:=uQ hM;have HL:=uQ hL;have HH:=uQ hH
 have hcase:(C=[]∧N = -1∧aB.newest M = -1)∨(0≤N∧aB.newest M = -1∧aB.there M (aB.name aB.idx N)=false)∨(0≤N∧aB.newest M=N∧C≠[]∧Seg.HF M N pl us):=by
  by_cases hne:C=[]
  ·rcases hh with e|⟨e,_⟩
   ·exact .inl ⟨hne,by rw [hN,hne];rfl,e.newest hq⟩
   ·exact absurd hne e
  ·have hpos:=akA.2 hne
   rcases hh with e|⟨_,e⟩
   ·exact .inr (.inl ⟨by omega,e.newest hq,e.there hq oQ oQ⟩)
   ·exact .inr (.inr ⟨by omega,e.newest hq oQ oQ,hne,e⟩)
 rcases hcase with ⟨_,rfl,c2⟩|⟨c1,c2,c3⟩|⟨c1,c2,c3,c4⟩
 ·clear hR hst hh hL hM hH hN hC hz
  go_enter Tryz.func46,Tryz.ntmps46
  go_wp2_with (with_reducible apply eU)
  refine ⟨dU mV h rfl ?_⟩
  intro b5 w5 h5
  have hla:=FH (F:=pt b5 (.cells (dK Rep.dI.zero) 33 (0,0))::F) HL.out HM.out (Ro.os HH.out) (h5.sb)
  rw [show Rep.lastOf (dB L M) L.aF=(-1,0) from q1]at hla
  clear h h5 q1
  go_wp2_with fail
  refine hla.mono ?_
  rintro ee w6 ⟨v,rfl,rfl,h6⟩
  have hnw:=FU HM.out gq.out (h6.sb:Sat w0 w6 (aH m M::aI p m L::pt b5 (.cells (dK Rep.dI.zero) 33 (0,0))::F))
  rw [c2]at hnw
  clear hla
  go_wp2_with fail
  refine hnw.mono ?_
  rintro ee w7 ⟨v,rfl,rfl,h7⟩
  have lV:=Ju.out w7 (pt b5 (.cells (dK Rep.dI.zero) 33 (0,0))::F) (Ro.os HH.out) (h7.sb)
  clear h6 h7 hnw
  go_wp2_with fail
  refine lV.mono ?_
  rintro ee w8 ⟨v,rfl,ps,pi,uv,tv,x,rfl,um,hx,h9⟩
  have h10:Sat w0 w8 (pt b5 (.cells (dK Rep.dI.zero) 33 (0,0))::cZ ps (-1) pi uv tv::aJ pi (Tab.mapOf (Rep.puts x.1)) x.2::aC 73 3 uv (((Seg.kZ C).map (Rep.upd x.1)).flatMap bI)::aI p m L::aH m M::F):=h9.sb
  clear h9 lV
  go_wp2_with ((with_reducible refine bY ⟨?_⟩);refine fE (dK Rep.dI.zero) h10 ah ah ah bZ au ah ?_;intro jd h11)
  refine ⟨rfl,_,uI rfl h11 ah aT Tryz.underlying33 rfl au,_,rfl,ps,pi,uv,tv,x,rfl,um,hx,h11.drop⟩
 ·have c4:¬ N < -1:=by omega
  have c5:decide (N < -1)=false:=aex c4
  have c6:decide (0≤N)=true:=aiu c1
  clear hR hst hh hL hM hH hN hC
  go_enter Tryz.func46,Tryz.ntmps46
  go_wp2_with (with_reducible apply eU)
  refine ⟨dU mV h rfl ?_⟩
  intro b5 w5 h5
  have hla:=FH (F:=pt b5 (.cells (dK Rep.dI.zero) 33 (0,0))::F) HL.out HM.out (Ro.os HH.out) (h5.sb)
  rw [show Rep.lastOf (dB L M) L.aF=(N,0) from q1]at hla
  clear h h5 q1
  go_wp2_with fail
  refine hla.mono ?_
  rintro ee w6 ⟨v,rfl,rfl,h6⟩
  have hnw:=FU HM.out gq.out (h6.sb:Sat w0 w6 (aH m M::aI p m L::pt b5 (.cells (dK Rep.dI.zero) 33 (0,0))::F))
  rw [c2]at hnw
  clear hla
  go_wp2_with fail
  refine hnw.mono ?_
  rintro ee w7 ⟨v,rfl,rfl,h7⟩
  have hld:=ac7 (p:=p) (n:=N) HM.out hz (.inl c3) h7
  clear h6 hnw
  go_wp2_with fail
  refine hld.mono ?_
  rintro ee w8 ⟨v,rfl,rfl,h8⟩
  have lV:=Ju.out w8 (pt b5 (.cells (dK Rep.dI.zero) 33 (0,0))::F) (Ro.os HH.out) (h8.sb)
  clear h7 h8 hld
  go_wp2_with fail
  refine lV.mono ?_
  rintro ee w8 ⟨v,rfl,ps,pi,uv,tv,x,rfl,um,hx,h9⟩
  have h10:Sat w0 w8 (pt b5 (.cells (dK Rep.dI.zero) 33 (0,0))::cZ ps N pi uv tv::aJ pi (Tab.mapOf (Rep.puts x.1)) x.2::aC 73 3 uv (((Seg.kZ C).map (Rep.upd x.1)).flatMap bI)::aI p m L::aH m M::F):=h9.sb
  clear h9 lV
  go_wp2_with ((with_reducible refine bY ⟨?_⟩);refine fE (dK Rep.dI.zero) h10 ah ah ah bZ au ah ?_;intro jd h11)
  refine ⟨rfl,_,uI rfl h11 ah aT Tryz.underlying33 rfl au,_,rfl,ps,pi,uv,tv,x,rfl,um,hx,h11.drop⟩
 ·obtain ⟨ld,hpl⟩:=hR.lds hn hst c3
  obtain ⟨kv,k1,k2,k3,k4⟩:=hst.kv
  obtain ⟨t1,t2⟩:=c4.there hq
  have Hld:=uQ (fun (w':World) (R:List aG) (hw:Sat w0 w' (aI p m L::aH m M::R))=>ac8 hL hM hz t1 t2 pl ld.key us ld.idx ld.uses c4.one c4.two ld.fits ld.lies hw)
  rw [ld.tail]at Hld
  have c6:decide (0≤N)=true:=aiu c1
  have Hx:=uQ (show Tab.Lists (Rep.ledger (Rep.dJ 0 C)) kv∧(∀ q∈kv,q.1.length=32)∧pl.length≤n from ⟨k1,k2,hpl⟩)
  have Bv:=uQ k3;have Hpl:=uQ k4
  clear hR hst hh hL hM hH hN hC hz ld hpl k1 k2 k3 k4 t1 t2 c3 c4 Ju
  go_enter Tryz.func46,Tryz.ntmps46
  go_wp2_with (with_reducible apply eU)
  refine ⟨dU mV h rfl ?_⟩
  intro b5 w5 h5
  have hla:=FH (F:=pt b5 (.cells (dK Rep.dI.zero) 33 (0,0))::F) HL.out HM.out (Ro.os HH.out) (h5.sb)
  rw [show Rep.lastOf (dB L M) L.aF=(N,0) from q1]at hla
  clear h h5 q1
  go_wp2_with fail
  refine hla.mono ?_
  rintro ee w6 ⟨v,rfl,rfl,h6⟩
  have hnw:=FU HM.out gq.out (h6.sb:Sat w0 w6 (aH m M::aI p m L::pt b5 (.cells (dK Rep.dI.zero) 33 (0,0))::F))
  rw [c2]at hnw
  clear hla
  go_wp2_with fail
  refine hnw.mono ?_
  rintro ee w7 ⟨v,rfl,rfl,h7⟩
  have hld:=Hld.out w7 (pt b5 (.cells (dK Rep.dI.zero) 33 (0,0))::F) (h7.sb)
  clear h6 h7 hnw Hld
  go_wp2_with fail
  refine hld.mono ?_
  rintro ee w8 ⟨v,rfl,ps,pi,uv,tv,rfl,h9⟩
  obtain ⟨ta,tn,tc,rfl,htl,_⟩:=Sat.rd (h9.pick (A:=aC 3 1 tv (ints [])) iZ)
  obtain rfl:tn=0:=by simpa [ints] using htl.symm
  have h10:Sat w0 w8 (pt b5 (.cells (dK Rep.dI.zero) 33 (0,0))::cZ ps N pi uv (.slice ta 0 tc)::aJ pi (Tab.mapOf pl) pl.length::aC 73 3 uv (us.flatMap bI)::aI p m L::aH m M::F):=h9.sb
  clear h9 hld htl
  go_wp2_with ((with_reducible refine bY ⟨?_⟩);refine fE (dK Rep.dI.zero) h10 ah ah ah bZ au ah ?_;intro jd h11)
  have h12:Sat w0 jd (pt b5 (.cells (dK Rep.dI.zero) 33 (0,0))::cZ ps N pi uv (.slice ta 0 tc)::aJ pi (Tab.mapOf (Rep.puts kv)) pl.length::aC 73 3 uv (((Seg.kZ C).map (Rep.upd kv)).flatMap bI)::aI p m L::aH m M::F):=by
   rw [← Bv.out,← Hpl.out];exact h11
  refine ⟨rfl,_,uI rfl h12 ah aT Tryz.underlying33 rfl au,_,rfl,ps,pi,uv,_,(kv,pl.length),rfl,⟨ta,tc,rfl⟩,Hx.out,h12.drop⟩
end
section
variable {w0 w:World}{F:List aG}{m r K r0 E B n:Nat}{L:Seg.Log}{M:ay}{C:List (List aj.aP)}{N limit seg:Int}{us:List Rep.Use}{pl:List (aj.Bs×Seg.aU)}{o oc:aj.Bs→Option aj.Bs}
theorem Wx (hR:Seg.Rp K r0 E B n L M C) (hn:n≤1000) (hK:K≤1048576) (hst:Seg.uZ C N us pl) (hh:Seg.NF M∨C≠[]∧Seg.HF M N pl us) (h1:128≤limit) (h2:limit≤1048576) (hH:Ro w0 F Half) (h:Sat w0 w (aH m M::F)) :
  Calls Tryz.prog 10 #[ptr m,.int .i64 limit] w (aO fun v w'=>∃ (r p ps pi pn:Nat) (uv:Value) (x:List (aj.Bs×Rep.dF)×Nat),v = .tuple #[ptr r,.agg (dK Rep.dI.zero),errno 0]∧(Tab.Lists (Rep.ledger (Rep.dJ 0 C)) x.1∧(∀ q∈x.1,q.1.length=32)∧x.2≤n) ∧
   Sat w0 w' (bG r m limit p ps pn false::cZ ps N pi uv (.slice none 0 0)::aJ pn (Tab.mapOf (Rep.puts x.1)) x.2::aJ pi (Tab.mapOf (Rep.puts x.1)) x.2::aC 73 3 uv (((Seg.kZ C).map (Rep.upd x.1)).flatMap bI)::aI p m (Seg.fresh M limit)::aH m M::F)):=by
 have hc:=hR.hg.keeps.calm
 exact WJ (fun x:List (aj.Bs×Rep.dF)×Nat=>Tab.mapOf (Rep.puts x.1)) (fun x=>x.2) (fun x=>(Seg.kZ C).map (Rep.upd x.1)) (fun x=>Tab.Lists (Rep.ledger (Rep.dJ 0 C)) x.1∧(∀ q∈x.1,q.1.length=32)∧x.2≤n) h1 h2 hc.ok hK
  (by unfold Seg.alive;rw [GX hc.ok hc.quiet.off];rfl) (fun x hx=>adr hx.2.2 oQ)
  (fun p b5 w' hw=>(acf (hR.fresh limit h1 h2) hn hst hh (Ro.os hH) hw).mono fun e w'' hv=>hv) h
theorem fV.again (h:fV w0 r m seg K r0 E n o oc false F w):∃ (B0:Nat) (L:Seg.Log) (M:ay) (C:List (List aj.aP)) (N:Int) (us:List Rep.Use),Seg.Rp K r0 E B0 n L M C∧Seg.o8 r0 E n B0 M C N us∧o=Rep.kK C.flatten∧Sat w0 w (aH m M::F):=by
 obtain ⟨ps,p,pn,pi,B,B2,B0,uv,tv,N,us,L,M,C,C0,hf,hS⟩:=h
 obtain rfl:=hf.clean rfl
 exact ⟨B0,L,M,C,N,us,hf.rp,hf.ext,hf.now,hS.sb⟩
end
section
variable {w0 w:World}{F:List aG}{m K r:Nat}{M:ay}
set_option maxRecDepth 20000 in
theorem ahS {k:Nat}{caps:Array Value}{p:ByteArray→Bool} (hk:k=57∧caps=#[]∨k=124∧∃ z,caps=#[z]) (hcl:∀ (s:ByteArray) (w':World) (A B:aG),s.size≤4000000000→Sat w0 w' (A::B::F)→Calls Tryz.prog k (#[.string s]++caps) w' (aO fun v w''=>v = .bool (p s)∧Sat w0 w'' (A::B::F)))
  (hM:M.Ok K) (hK:K+500≤1099511627776) (hno:∀ f∈M.list,f.size≤4000000000) (h:Sat w0 w (aH m M::F)) :
  Calls Tryz.prog 56 #[ptr m,.func (.func k) #[] caps] w (aO fun v w'=>v=errno (aB.sweep p M.list M).2∧Sat w0 w' (aH m (aB.sweep p M.list M).1::F)):=by
 have hls:=Dk hM h
 obtain ⟨rfl,rfl⟩|⟨rfl,z,rfl⟩:=hk
 all_goals
  have Hlen:=uQ (LJ hM)
  have Hn:=uQ hno;have HK:=uQ hK;have HM:=uQ hM;have iF:=uQ hcl
  clear hno hM hK hcl
  generalize M.list=l at *
  obtain ⟨R,hR⟩:∃ R,aB.sweep p l M=R:=⟨_,rfl⟩
  have HR:=uQ hR
  rw [hR]
  clear hR
  go_enter Tryz.func56,Tryz.ntmps56
  go_wp2_with fail
  refine hls.mono ?_
  rintro e w1 ⟨v,rfl,hS,_⟩
  clear hls h
  obtain ⟨a,c,rfl⟩:=Mc (Sat.rd hS)
  go_wp2_with fail
  go_loopg [11] l.length (fun g iq wr=>∃ (i:Nat) (M2:ay),g=l.length - i∧i≤l.length∧iq = .int .i64 i∧(aB.sweep p (l.drop i) M2=R∧M2.Ok (K+i))∧Sat w0 wr (aC 9 1 (.slice a l.length c) (strs l)::aH m M2::F))
  case atStart=>exact ⟨0,M,rfl,afm _,rfl,⟨by rw [alu];exact HR.out,HM.out⟩,hS⟩
  case round=>
   obtain ⟨i,M2,rfl,hi,rfl,⟨hsw,hok⟩,hS2⟩:=hrel
   clear hS
   by_cases hlt:i<l.length
   ·have c1:(i:Int)<(l.length:Int):=by omega
    have hwi:IntKind.i64.wrap ((i:Int)+1)=(i:Int)+1:=acI _ (by have:=Hlen.out;omega)
    obtain ⟨s,hs⟩:∃ s,l[i]?=some s:=⟨_,aak hlt⟩
    obtain ⟨bk,off,rfl,hc⟩:=Dv (Sat.rd hS2) hs
    have hsz:=Hn.out s (abA hs)
    have hd:l.drop i=s::l.drop (i+1):=by
     rw [ajX hlt]
     rw [aak hlt]at hs
     cases hs;rfl
    rw [hd]at hsw
    have bT:=uQ hlt;have bU:=uQ hok
    have hcl:=iF.out s wr _ _ hsz hS2
    cases hso:p s with
    |false=>
     have nM:=uQ (show aB.sweep p (l.drop (i+1)) M2=R by unfold aB.sweep at hsw;rwa [abw (by rw [hso];decide)]at hsw)
     rw [hso]at hcl
     clear hs hlt hi hso hsw hd hok
     go_wp2_with fail
     refine hcl.mono ?_
     rintro e w2 ⟨v,rfl,rfl,hS3⟩
     clear hS2 hc hcl
     go_wp2_with fail
     go_roundg (l.length - (i+1))
     case measure=>have:=bT.out;omega
     case rel=>exact ⟨i+1,M2,rfl,aiy bT.out,by first|rfl|go_num,⟨nM.out,bU.out.mono oQ⟩,hS3⟩
    |true=>
     have nM:=uQ (show (if (M2.remove s).2=0 then aB.sweep p (l.drop (i+1)) (M2.remove s).1 else M2.remove s)=R by unfold aB.sweep at hsw;rwa [ac3 hso]at hsw)
     rw [hso]at hcl
     have xF:=uQ (fun (w':World) (hw:Sat w0 w' (aH m M2::aC 9 1 (.slice (some ⟨bk,off,none⟩) l.length c) (strs l)::F))=>yJ hok (by have:=HK.out;have:=Hlen.out;omega) hw s)
     have l7:=uQ (hok.remove s)
     generalize M2.remove s=q at *
     obtain ⟨M3,q3⟩:=q
     dsimp only at xF l7 nM
     clear hlt hi hso hsw hd hok
     go_wp2_with fail
     refine hcl.mono ?_
     rintro e w2 ⟨v,rfl,rfl,hS3⟩
     clear hS2 hcl
     obtain ⟨ED,off',Ce,hc'⟩:=Dv (Sat.rd hS3) hs
     cases Ce
     by_cases c3:q3=0
     ·have hb1:(q3 != 0)=false:=by rw [c3];rfl
      have kN:=uQ (show aB.sweep p (l.drop (i+1)) M3=R from (ac3 c3).symm.trans nM.out)
      clear c3 hc hs nM
      go_wp2_with fail
      refine (xF.out _ (hS3.sb)).mono ?_
      rintro e w3 ⟨v,rfl,rfl,hS5⟩
      clear hS3 hc'
      go_wp2_with fail
      go_roundg (l.length - (i+1))
      case measure=>have:=bT.out;omega
      case rel=>exact ⟨i+1,M3,rfl,aiy bT.out,by first|rfl|go_num,⟨kN.out,l7.out⟩,hS5.sb⟩
     ·have hb1:(q3 != 0)=true:=aj6.2 c3
      have kN:=uQ (show (M3,q3)=R from (abw c3).symm.trans nM.out)
      clear c3 hc hs nM
      go_wp2_with fail
      refine (xF.out _ (hS3.sb)).mono ?_
      rintro e w3 ⟨v,rfl,rfl,hS5⟩
      clear hS3 hc'
      go_wp2_with fail
      go_ret
      exact ⟨_,rfl,by rw [← kN.out];rfl,by rw [← kN.out];exact hS5.sb⟩
   ·have c1:¬ (i:Int)<(l.length:Int):=by omega
    obtain rfl:i=l.length:=by omega
    have kN:=uQ (show (M2,0)=R by rw [ak9]at hsw;exact hsw)
    clear hlt hi hsw hok
    go_wp2_with fail
    go_ret
    exact ⟨_,rfl,by rw [← kN.out];rfl,by rw [← kN.out];exact hS2.drop⟩
theorem acU (f:ByteArray) (hf:f.size≤4000000000) (h:Sat w0 w F):Calls Tryz.prog 57 #[.string f] w (aO fun v w'=>v = .bool (aB.lT f)∧Sat w0 w' F):=by
 have Ho:=uQ (show aB.lT f=((aB.number f).2 || f.toList==[116,109,112]) by unfold aB.lT;rw [ByteArray.toList_eq];rfl)
 have hn:=KU f hf h
 generalize aB.number f=q at *
 obtain ⟨x,t⟩:=q
 dsimp only at hn
 clear h
 go_enter Tryz.func57,Tryz.ntmps57
 go_wp2_with fail
 refine hn.mono ?_
 rintro ee w1 ⟨v,rfl,rfl,h1⟩
 clear hn
 cases t with
 |false=>
  go_wp2_with fail
  go_ret
  exact ⟨_,rfl,by rw [Ho.out];rfl,h1⟩
 |true=>
  go_wp2_with fail
  go_ret
  exact ⟨_,rfl,by rw [Ho.out];rfl,h1⟩
theorem acV (hM:Seg.Calm K r M) (hK:K+500≤1099511627776) (hno:∀ f∈M.list,f.size≤4000000000) (h:Sat w0 w (aH m M::F)):Calls Tryz.prog 14 #[ptr m] w (aO fun v w'=>v=errno (aB.sweep aB.lT M.list M).2∧Sat w0 w' (aH m (aB.sweep aB.lT M.list M).1::F)):=by
 have hsi:=Ai hM.ok h ByteArray.empty
 rw [GX hM.ok hM.quiet.off]at hsi
 have hsw:=ahS (k:=57) (caps:=#[]) (p:=aB.lT) (.inl ⟨rfl,rfl⟩) (fun s w' A B hs hw=>acU s hs hw) hM.ok hK hno h
 generalize aB.sweep aB.lT M.list M=R at *
 clear hM hK hno
 go_enter Tryz.func14,Tryz.ntmps14
 go_wp2_with fail
 refine hsi.mono ?_
 rintro e w1 ⟨v,rfl,rfl,rfl⟩
 clear hsi
 go_wp2_with fail
 refine hsw.mono ?_
 rintro e w2 ⟨v,rfl,rfl,hS2⟩
 go_wp2_with fail
 go_ret
 exact ⟨_,rfl,rfl,hS2⟩
end
end Go.Proofs.YtiglchkhikciiaaGreatDoor
namespace Go.Sl
open Go
theorem DX {P:Program}{ops:Array Oper}{Q:Exit→Act→World→Prop}{late:List Nat}{G:World→Prop} (G':World→Prop) (hG:∀ w,G' w→G w):∀ {n:Nat}{l:Array Bool}{a:Act}{w:World},iI P ops Q late G' n l a w→iI P ops Q late G n l a w
 |0,_,_,_,h=>h
 |n+1,_,_,_,h=>⟨h.1,fun i hi=>wpOp_mono (fun a' w' h'=>⟨h'.1.imp id (fun q=>q.imp (hG _) id),DX G' hG h'.2⟩) (h.2 i hi)⟩
end Go.Sl
namespace Go.Proofs.YtiglchkhikciiaaGreatDoor
open Go Go.Sl Go.ay Go.MapKept Go.RowKit
section
variable {w0 w:World}{F:List aG}{lv:Value}
set_option maxRecDepth 20000 in
theorem af8 (z:Int) (ds:List QD) (hr:Ro w0 F (bg 37 lv (jO ds))) (he:∀ d∈ds,JD w0 F d) (hH:Ro w0 F Half) (h:Sat w0 w F) :
  Calls Tryz.prog 3 #[.int .i64 z,lv] w (aO fun v w'=>v = .bool true∧Sat w0 w' F):=by
 have Hr:=uQ hr;have He:=uQ he;have HH:=uQ hH
 clear hr he hH
 go_enter Tryz.func3,Tryz.ntmps3
 go_wp2_with fail
 refine (abV ds 30 aN Hr.out He.out h).mono ?_
 rintro ee w2 ⟨v,rfl,es,ov,rfl,hes,_,h2⟩
 obtain ⟨q1,q2⟩:=abX hes (fun d hd=>(He.out d hd).key)
 have xu:=uQ q1;have IX:=uQ q2
 obtain ⟨oa,oc',rfl⟩:=afP (fun d hd=>(IX.out d hd).1) h2
 clear h hes q1 q2
 have hnew:=U9 1048576 aN h2
 have hlim:=aiB z 128 3000 aN
 have hwi:=aiA z 128 3000
 generalize within z 128 3000=lim at *
 clear h2
 go_wp2_with fail
 refine (hwi _).mono ?_
 rintro ee w5 ⟨v,rfl,rfl,rfl⟩
 clear hwi
 go_wp2_with fail
 refine hnew.mono ?_
 rintro ee w4 ⟨v,rfl,m,rfl,h4⟩
 clear hnew
 have hop:=ahB (K:=0) hlim.1 oQ (Seg.Calm.new 0 1048576 aN) (afm _) rfl (Ro.os HH.out) h4
 have uU:=uQ hlim
 clear h4 hlim
 go_wp2_with fail
 refine hop.mono ?_
 rintro ee w6 ⟨v,rfl,r,rfl,h6⟩
 clear hop
 obtain ⟨G,hS,_,hpush,_⟩:=h6.push
 clear h6
 go_wp2_with (with_reducible apply eU)
 refine ⟨dU mV hS rfl ?_⟩
 intro b14 w7 h7
 go_wp2_with (with_reducible apply bY)
 refine ⟨fE (dK Rep.dI.zero) h7 ah ah ah bZ au ah ?_⟩
 intro w8 h8
 have h9:=(hpush _ _ h8).drop
 clear hS hpush h7 h8
 go_wp2_with fail
 go_loopg [10] es.length (fun g iq wr=>∃ (i:Nat) (o oc:aj.Bs→Option aj.Bs) (d:Bool),g=es.length - i∧i≤es.length∧iq = .int .i64 i ∧
  fV w0 r m lim (i * 605) 1048576 (2 * i) i o oc d (aC 39 37 (.slice oa es.length oc') (jO es)::pz es::F) wr)
 case atStart=>exact ⟨0,_,_,_,rfl,afm _,rfl,h9⟩
 case round=>
  obtain ⟨i,o,oc,d,rfl,hi,rfl,hS⟩:=hrel
  clear h9
  by_cases hlt:i<es.length
  ·have c1:(i:Int)<(es.length:Int):=by omega
   have hwi:IntKind.i64.wrap ((i:Int)+1)=(i:Int)+1:=acI _ (by have:=xu.out;omega)
   obtain ⟨x,hx⟩:∃ x,es[i]?=some x:=⟨_,aak hlt⟩
   have bT:=uQ hlt
   have hxk:=IX.out x (abA hx)
   have Hxk:=uQ hxk
   obtain ⟨G,hG,hback,_,hdrop⟩:=hS.push
   obtain ⟨bk,off,c,hov,hcells⟩:=afO (fun d hd=>(IX.out d hd).1) hx ((hdrop _ hG).pick aT)
   cases hov
   have ZC:=uQ (show Ro w0 (aC 39 37 (.slice (some ⟨bk,off,none⟩) es.length oc') (jO es)::pz es::F) (bg 1 x.dv (aA x.c.data)) from Ro.sD (aa8 hx) aZ)
   have e0:wr.cell? ⟨bk,off+i * 37,none⟩=some (.int .i64 x.c.kind):=hcells 0 _ rfl
   have YQ:=uQ hcells
   clear hcells hlt hi hxk hx hG hback hdrop
   by_cases hk0:0≤x.c.kind
   ·by_cases hk4:x.c.kind<4
    ·have hone:Calls Tryz.prog 11 #[ptr r,.agg (gB x)] wr (aO fun v w'=>∃ (e:Int) (o2 MF:aj.Bs→Option aj.Bs) (d2:Bool),v=errno e∧fV w0 r m lim ((i+1) * 605) 1048576 (2 * (i+1)) (i+1) o2 MF d2 (aC 39 37 (.slice (some ⟨bk,off,none⟩) es.length oc') (jO es)::pz es::F) w'):=by
      have hn1:i≤199∧2 * i≤200∧i * 605≤1048576:=by have:=xu.out;have:=bT.out;omega
      rw [show (i+1) * 605=i * 605+605 by omega,show 2 * (i+1)=2 * i+2 by omega]
      by_cases hk3:x.c.kind<3
      ·exact abk x Hxk.out.1 ⟨hk0,hk3⟩ ZC.out Hxk.out.2 hn1.1 hn1.2.1 hn1.2.2 (Ro.os HH.out) hS
      ·refine (abp x Hxk.out.1 ⟨by omega,by omega,by omega⟩ hn1.1 hn1.2.1 hn1.2.2 (Ro.os HH.out) hS).mono ?_
       rintro e w' ⟨v,rfl,rfl,h2⟩
       exact ⟨_,rfl,0,_,_,_,rfl,h2.mono oQ oQ oQ⟩
     go_wp2_with ((with_reducible refine bD ⟨?_⟩);refine gU (b:=bk) (o:=off+i * 37) (lM x) ah YQ.out Tryz.underlying39 rfl (by rw [DF _ Hxk.out.1];exact Fq) ?_)
     refine hone.mono ?_
     rintro ee w10 ⟨v,rfl,e,o2,MF,d2,rfl,h10⟩
     clear hS e0 hone
     go_wp2_with fail
     go_roundg (es.length - (i+1))
     case measure=>have:=bT.out;omega
     case rel=>exact ⟨i+1,o2,MF,d2,rfl,aiy bT.out,by first|rfl|go_num,h10⟩
    ·go_wp2_with fail
     go_roundg (es.length - (i+1))
     case measure=>have:=bT.out;omega
     case rel=>exact ⟨i+1,o,oc,d,rfl,aiy bT.out,by first|rfl|go_num,hS.mono oQ oQ oQ⟩
   ·go_wp2_with fail
    go_roundg (es.length - (i+1))
    case measure=>have:=bT.out;omega
    case rel=>exact ⟨i+1,o,oc,d,rfl,aiy bT.out,by first|rfl|go_num,hS.mono oQ oQ oQ⟩
  ·obtain rfl:i=es.length:=by omega
   have c1:¬ (es.length:Int)<(es.length:Int):=oQ
   have h30:fV w0 r m lim 18150 1048576 60 30 o oc d F wr:=(hS.mono (by have:=xu.out;omega) (by have:=xu.out;omega) xu.out).drop.drop
   have hrl:=XG aN aN h30
   clear hS h30 hlt hi
   go_wp2_with fail
   refine hrl.mono ?_
   rintro ee jd ⟨v,rfl,rfl,h11⟩
   clear hrl
   have hmap:=aeA aN HH.out h11
   clear h11
   go_wp2_with fail
   refine hmap.mono ?_
   rintro ee w12 ⟨v,rfl,av,qa,rfl,⟨ha1,ha2,Td,Tf⟩,h12⟩
   clear hmap
   obtain ⟨B0,L,M,C,N,us,hR,hE,hoc,h13⟩:=h12.again
   obtain ⟨_,pl,hst,hex⟩:=hE
   obtain ⟨hnf,TB⟩:=hex aN aN aN
   have hh:Seg.NF M∨C≠[]∧Seg.HF M N pl us:=by
    by_cases hne:C=[]
    ·exact .inl (hnf hne)
    ·exact .inr ⟨hne,TB hne⟩
   have hop:=Wx (limit:=lim) hR aN aN hst hh uU.out.1 (by have:=uU.out;omega) (Ro.os HH.out) h13
   rw [hoc]at ha1
   have IE:=uQ ha1;have IG:=uQ ha2;have YI:=uQ Td;have YJ:=uQ Tf;have HR:=uQ hR;have mZ:=uQ hst
   clear h12 h13 hnf TB hex hh hoc ha1 ha2 Td Tf hR hst
   go_wp2_with fail
   refine hop.mono ?_
   rintro ee kR ⟨v,rfl,x,px,uG,sF,Dx,sN,⟨kx,bx⟩,rfl,⟨FB,Lm,Lp⟩,gW⟩
   clear hop
   dsimp only at FB Lm Lp gW
   rw [Rep.MP FB]at gW
   have Jc:=uQ (And.intro FB (And.intro Lm Lp))
   have Ec:=uQ (HR.out.fresh lim uU.out.1 (by have:=uU.out;omega))
   clear FB Lm Lp
   go_wp2_with (with_reducible apply eU)
   refine ⟨dU mV gW rfl ?_⟩
   intro b15 Ar h15
   go_wp2_with (with_reducible apply bY)
   refine ⟨fE (dK Rep.dI.zero) h15 ah ah ah bZ au ah ?_⟩
   intro w16 h16
   have hmp:=LQ (B:=bx) (F:=cZ uG N sF sN (.slice none 0 0)::aJ sF (Rep.eX (Rep.dJ 0 C)) bx::aC 73 3 sN (((Seg.kZ C).map (Rep.upd kx)).flatMap bI)::aC 122 33 av (qa.flatMap gu)::jo qa::F) Ec.out (by have:=Jc.out.2.2;omega) (Ro.os HH.out) (h16.sb)
   clear gW h15 h16
   go_wp2_with fail
   refine hmp.mono ?_
   rintro ee uM ⟨v,rfl,bv,qb,rfl,⟨hb1,hb2,hb3,hb4⟩,h17⟩
   clear hmp
   have Hb1:=uQ hb1;have Hb2:=uQ hb2;have Hb3:=uQ hb3;have Hb4:=uQ hb4
   have hsz:∀ f∈M.list,f.size≤4000000000:=fun f hf=>by
    rw [HR.out.hg.keeps.calm.quiet.list]at hf
    obtain ⟨y,hy,rfl⟩:=acK.1 hf
    exact adr (HR.out.small y hy) aN
   obtain ⟨hz,hR2,hnf⟩:=HR.out.clean
   have hcl:=acV HR.out.hg.keeps.calm aN hsz (h17.sb:Sat w0 uM (aH m M::aC 122 33 bv (qb.flatMap gu)::jo qb::bG x m lim px uG Dx false::aJ Dx (Rep.eX (Rep.dJ 0 C)) bx::aI px m (Seg.fresh M lim)::cZ uG N sF sN (.slice none 0 0)::aJ sF (Rep.eX (Rep.dJ 0 C)) bx::aC 73 3 sN (((Seg.kZ C).map (Rep.upd kx)).flatMap bI)::aC 122 33 av (qa.flatMap gu)::jo qa::F))
   rw [hz]at hcl
   generalize (aB.sweep aB.lT M.list M).1=M2 at *
   have HR2:=uQ hR2;have Pe:=uQ hnf
   generalize Seg.fresh M lim=Lx at *
   clear hb1 hb2 hb3 hb4 hsz hz h17 hR2 hnf
   go_wp2_with fail
   refine hcl.mono ?_
   rintro ee w18 ⟨v,rfl,rfl,h18⟩
   clear hcl
   have hnw:=FU HR2.out.hg.keeps.calm.ok (fun f hf=>by
    rw [HR2.out.hg.keeps.calm.quiet.list]at hf
    obtain ⟨y,hy,rfl⟩:=acK.1 hf
    exact adr (HR2.out.small y hy) aN) h18
   rw [Pe.out.newest HR2.out.hg.keeps.calm.quiet]at hnw
   clear h18
   go_wp2_with fail
   refine hnw.mono ?_
   rintro ee Om ⟨v,rfl,rfl,h19⟩
   clear hnw
   have hop:=Wx (limit:=lim) HR2.out aN aN mZ.out (.inl Pe.out) uU.out.1 (by have:=uU.out;omega) (Ro.os HH.out) h19
   clear h19
   go_wp2_with fail
   refine hop.mono ?_
   rintro ee DU ⟨v,rfl,y,py,Dy,zV,VJ,Aq,⟨ky,dS⟩,rfl,⟨FC,Uz,Lr⟩,h20⟩
   clear hop
   dsimp only at FC Uz Lr h20
   obtain rfl:ky=kx:=FC.unique Jc.out.1
   rw [Rep.MP FC]at h20
   have OW:=uQ Lr
   have Y7:=uQ (HR2.out.fresh lim uU.out.1 (by have:=uU.out;omega))
   clear FC Uz Lr
   go_wp2_with (with_reducible apply eU)
   refine ⟨dU mV h20 rfl ?_⟩
   intro b21 yP h21
   go_wp2_with (with_reducible apply bY)
   refine ⟨fE (dK Rep.dI.zero) h21 ah ah ah bZ au ah ?_⟩
   intro rC h22
   have hmp:=LQ (B:=dS) (F:=cZ Dy N zV Aq (.slice none 0 0)::aJ zV (Rep.eX (Rep.dJ 0 C)) dS::aC 73 3 Aq (((Seg.kZ C).map (Rep.upd ky)).flatMap bI)::aC 122 33 bv (qb.flatMap gu)::jo qb::bG x m lim px uG Dx false::cZ uG N sF sN (.slice none 0 0)::aJ sF (Rep.eX (Rep.dJ 0 C)) bx::aC 73 3 sN (((Seg.kZ C).map (Rep.upd ky)).flatMap bI)::aC 122 33 av (qa.flatMap gu)::jo qa::F) Y7.out (by have:=OW.out;omega) (Ro.os HH.out) (h22.sb)
   clear h20 h21 h22
   go_wp2_with fail
   refine hmp.mono ?_
   rintro ee X7 ⟨v,rfl,cv,qc,rfl,⟨hc1,hc2,hc3,hc4⟩,h23⟩
   clear hmp
   have IQ:=uQ hc1;have Hc2:=uQ hc2
   have mD:=uQ (show ((Seg.kZ C).map (Rep.upd ky)).length≤65536 by
    unfold Seg.kZ
    rw [aaJ,aaJ,alv]
    have:=HR.out.hg.count;omega)
   generalize (Seg.kZ C).map (Rep.upd ky)=ux at *
   generalize Rep.eX (Rep.dJ 0 C)=mC at *
   clear hc1 hc2 hc3 hc4
   -- all that is wanted, with a frame that grows
   obtain ⟨TT,yh⟩:∃ TT:List aG→List aG,∀ R,TT R=(bG x m lim px uG Dx false::cZ uG N sF sN (.slice none 0 0)::aJ sF mC bx::aC 73 3 sN (ux.flatMap bI)::bG y m lim py Dy VJ false::cZ Dy N zV Aq (.slice none 0 0)::aJ zV mC dS::aC 73 3 Aq (ux.flatMap bI)::R):=⟨_,fun _=>rfl⟩
   have kM:=uQ (show ∀ (w':World) (R:List aG),Sat w0 w' (TT R)→Sat w0 w' R from fun w' R hw=>by rw [yh]at hw;exact hw.sb)
   have OO:=uQ (show ∀ (w':World) (R:List aG),Sat w0 w' (TT R)→Calls Tryz.prog 17 #[ptr x] w' (aO fun v w''=>∃ (q qi:Nat) (vv:Value),v=ptr q∧Sat w0 w'' (TT (cZ q N qi vv (.slice none 0 0)::aC 73 3 vv (ux.flatMap bI)::R))) from fun w' R hw=>by
    rw [yh]at hw
    refine (WW (by have:=Jc.out.2.2;omega) mD.out hw).mono ?_
    rintro e w'' ⟨v,rfl,q,qi,vv,rfl,h2⟩
    exact ⟨_,rfl,q,qi,vv,rfl,by rw [yh];exact h2.sb⟩)
   have OQ:=uQ (show ∀ (w':World) (R:List aG),Sat w0 w' (TT R)→Calls Tryz.prog 17 #[ptr y] w' (aO fun v w''=>∃ (q qi:Nat) (vv:Value),v=ptr q∧Sat w0 w'' (TT (cZ q N qi vv (.slice none 0 0)::aC 73 3 vv (ux.flatMap bI)::R))) from fun w' R hw=>by
    rw [yh]at hw
    refine (WW (by have:=OW.out;omega) mD.out (hw.sb:Sat w0 w' (bG y m lim py Dy VJ false::cZ Dy N zV Aq (.slice none 0 0)::aJ zV mC dS::aC 73 3 Aq (ux.flatMap bI)::bG x m lim px uG Dx false::cZ uG N sF sN (.slice none 0 0)::aJ sF mC bx::aC 73 3 sN (ux.flatMap bI)::R))).mono ?_
    rintro e w'' ⟨v,rfl,q,qi,vv,rfl,h2⟩
    exact ⟨_,rfl,q,qi,vv,rfl,by rw [yh];exact h2.sb⟩)
   have vN:Sat w0 X7 (TT (aC 122 33 av (qa.flatMap gu)::jo qa::aC 122 33 bv (qb.flatMap gu)::jo qb::aC 122 33 cv (qc.flatMap gu)::jo qc::F)):=by rw [yh];exact h23.sb
   clear h23 yh
   have hm1:=fun (w':World) (hw:Sat w0 w' (TT (aC 122 33 av (qa.flatMap gu)::jo qa::aC 122 33 bv (qb.flatMap gu)::jo qb::aC 122 33 cv (qc.flatMap gu)::jo qc::F)))=>Xk (av:=av) (bv:=bv) qa qb (IE.out.unique Hb1.out)
    (fun q hq=>(IG.out q hq).1) (Ro.vZ (Ro.sD (fun w hw=>Sat.rd hw) aT) (fun w=>kM.out w _)) (Ro.vZ (Ro.sD (fun w hw=>Sat.rd hw) fG) (fun w=>kM.out w _))
    (fun q hq=>Ro.vZ (Ro.sD (EM hq) aZ) (fun w=>kM.out w _)) (fun q hq=>Ro.vZ (Ro.sD (EM hq) iZ) (fun w=>kM.out w _))
    (adr YI.out aN) (fun q hq=>adr (YJ.out q hq) aN) hw
   have hm2:=fun (w':World) (hw:Sat w0 w' (TT (aC 122 33 av (qa.flatMap gu)::jo qa::aC 122 33 bv (qb.flatMap gu)::jo qb::aC 122 33 cv (qc.flatMap gu)::jo qc::F)))=>Xk (av:=bv) (bv:=cv) qb qc (Hb1.out.unique IQ.out)
    (fun q hq=>(Hb2.out q hq).1) (Ro.vZ (Ro.sD (fun w hw=>Sat.rd hw) fG) (fun w=>kM.out w _)) (Ro.vZ (Ro.sD (fun w hw=>Sat.rd hw) qA) (fun w=>kM.out w _))
    (fun q hq=>Ro.vZ (Ro.sD (EM hq) iZ) (fun w=>kM.out w _)) (fun q hq=>Ro.vZ (Ro.sD (EM hq) VG) (fun w=>kM.out w _))
    (adr Hb3.out aN) (fun q hq=>adr (Hb4.out q hq) aN) hw
   have YE:=uQ hm1;have uP:=uQ hm2
   clear hm1 hm2
   generalize hF2:(aC 122 33 av (qa.flatMap gu)::jo qa::aC 122 33 bv (qb.flatMap gu)::jo qb::aC 122 33 cv (qc.flatMap gu)::jo qc::F)=F2 at *
   have HF2:=uQ (show ∀ w',Sat w0 w' F2→Sat w0 w' F from fun w' hw=>by rw [← hF2]at hw;exact hw.sb)
   clear hF2
   go_wp2_with fail
   have hd:=vN.drew
   clear vN
   refine dH [39,40,41,42,43,44] (fun _=>True) au ?_
   refine rP 0 ?_ (y:=aX)
   refine rP 1 ?_ (y:=jm)
   refine rP 2 ?_ (y:=aX)
   refine rP 3 ?_ (y:=(fM ah ak))
   refine rP 4 ?_ (y:=(jX ah ak ak))
   refine rP 5 ?_ (y:=aX)
   refine rP 6 ?_ (y:=(fM ah ak))
   refine rP 7 ?_ (y:=(fM ah ak))
   refine bV 8 ak au (fun K hK=>?_)
   refine qm [av,bv] ah au ah ?_
   refine (YE.out _ hd).mono ?_
   rintro ee w25 ⟨v,rfl,rfl,SH⟩
   refine hK _ _ (.inr (.inl trivial)) ?_
   clear hK hd
   refine rP 9 ?_ (y:=(jX ah ak ak))
   refine rP 10 ?_ (y:=aX)
   refine rP 11 ?_ (y:=(fM ah ak))
   refine rP 12 ?_ (y:=(fM ah ak))
   refine bV 13 ak au (fun K hK=>?_)
   refine qm [bv,cv] ah au ah ?_
   refine (uP.out _ SH).mono ?_
   rintro ee w26 ⟨v,rfl,rfl,SI⟩
   refine hK _ _ (.inr (.inl trivial)) ?_
   clear hK SH
   refine rP 14 ?_ (y:=(jX ah ak ak))
   refine rP 15 ?_ (y:=aX)
   refine rP 16 ?_ (y:=(fM ah ak))
   refine rP 21 ?_ (y:=(fM ah ak))
   refine bV 17 ak au (fun K hK=>?_)
   refine qm [ptr x] ah au ah ?_
   refine (OO.out _ _ SI).mono ?_
   rintro ee w27 ⟨v,rfl,s1,i1,v1,rfl,h27⟩
   refine hK _ _ (.inr (.inl trivial)) ?_
   clear hK SI
   refine DX (fun w'=>w'.cell? ⟨s1,0,none⟩=some (.int .i64 N)) (fun _ _=>trivial) ?_
   have hG:w27.cell? ⟨s1,0,none⟩=some (.int .i64 N):=(kM.out _ _ h27).cellP aT 0 rfl
   refine rP 18 ?_ (y:=(wX ah ak))
   refine rP 19 ?_ (y:=(kT ah ak dh))
   refine eP 20 ak au bK (kY ah ak au (by intro wq hq;first|exact hq|exact hq.1|exact hq.2|exact hq.2.1|exact hq.2.2|exact hq.2.2.1|exact hq.2.2.2|exact hq.2.2.2.1|exact hq.2.2.2.2)) aQ gQ ?_
   clear hG
   refine bV 22 ak au (fun K hK=>?_)
   refine qm [ptr y] ah au ah ?_
   refine (OQ.out _ _ h27).mono ?_
   rintro ee X8 ⟨v,rfl,s2,i2,v2,rfl,h28⟩
   have hG:=(kM.out _ _ h28).cellP fG 0 rfl
   refine hK _ _ (.inr (.inl hG)) ?_
   clear hK h27 hG
   refine DX (fun w'=>w'.cell? ⟨s1,0,none⟩=some (.int .i64 N)∧w'.cell? ⟨s2,0,none⟩=some (.int .i64 N)) (fun _ h=>h.1) ?_
   have hG:X8.cell? ⟨s1,0,none⟩=some (.int .i64 N)∧X8.cell? ⟨s2,0,none⟩=some (.int .i64 N):=⟨(kM.out _ _ h28).cellP fG 0 rfl,(kM.out _ _ h28).cellP aT 0 rfl⟩
   have hbN:(N==N)=true:=beq_self_eq_true N
   refine rP 23 ?_ (y:=(wX ah ak))
   refine rP 24 ?_ (y:=(kT ah ak dh))
   refine eP 25 ak au bK (kY ah ak au (by intro wq hq;first|exact hq|exact hq.1|exact hq.2|exact hq.2.1|exact hq.2.2|exact hq.2.2.1|exact hq.2.2.2|exact hq.2.2.2.1|exact hq.2.2.2.2)) aQ gQ ?_
   refine rP 26 ?_ (y:=(oV ah ak ak dh))
   refine rP 27 ?_ (y:=(jX ah ak ak))
   refine rP 28 ?_ (y:=aX)
   refine rP 29 ?_ (y:=(fM ah ak))
   refine rP 34 ?_ (y:=(fM ah ak))
   clear hG hbN
   refine bV 30 ak au (fun K hK=>?_)
   refine qm [ptr x] ah au ah ?_
   refine (OO.out _ _ h28).mono ?_
   rintro ee Oo ⟨v,rfl,s3,i3,v3,rfl,BM⟩
   have hG:Oo.cell? ⟨s1,0,none⟩=some (.int .i64 N)∧Oo.cell? ⟨s2,0,none⟩=some (.int .i64 N):=⟨(kM.out _ _ BM).cellP qA 0 rfl,(kM.out _ _ BM).cellP fG 0 rfl⟩
   refine hK _ _ (.inr (.inl hG)) ?_
   clear hK h28
   refine DX (fun w'=>(w'.cell? ⟨s1,0,none⟩=some (.int .i64 N)∧w'.cell? ⟨s2,0,none⟩=some (.int .i64 N))∧w'.cell? ⟨s3,2,none⟩=some v3) (fun _ h=>h.1) ?_
   replace hG:=And.intro hG (show Oo.cell? ⟨s3,2,none⟩=some v3 from (kM.out _ _ BM).cellP aT 2 rfl)
   refine rP 31 ?_ (y:=(wX ah ak))
   refine rP 32 ?_ (y:=(kT ah ak dh))
   refine eP 33 ak au bK (kY ah ak au (by intro wq hq;first|exact hq|exact hq.1|exact hq.2|exact hq.2.1|exact hq.2.2|exact hq.2.2.1|exact hq.2.2.2|exact hq.2.2.2.1|exact hq.2.2.2.2)) aQ gQ ?_
   clear hG
   refine bV 35 ak au (fun K hK=>?_)
   refine qm [ptr y] ah au ah ?_
   refine (OQ.out _ _ BM).mono ?_
   rintro ee yQ ⟨v,rfl,s4,i4,v4,rfl,h30⟩
   have hG:(yQ.cell? ⟨s1,0,none⟩=some (.int .i64 N)∧yQ.cell? ⟨s2,0,none⟩=some (.int .i64 N))∧yQ.cell? ⟨s3,2,none⟩=some v3:=⟨⟨(kM.out _ _ h30).cellP afn 0 rfl,(kM.out _ _ h30).cellP qA 0 rfl⟩,(kM.out _ _ h30).cellP fG 2 rfl⟩
   refine hK _ _ (.inr (.inl hG)) ?_
   clear hK BM
   refine DX (fun w'=>((w'.cell? ⟨s1,0,none⟩=some (.int .i64 N)∧w'.cell? ⟨s2,0,none⟩=some (.int .i64 N))∧w'.cell? ⟨s3,2,none⟩=some v3)∧w'.cell? ⟨s4,2,none⟩=some v4) (fun _ h=>h.1) ?_
   replace hG:=And.intro hG (show yQ.cell? ⟨s4,2,none⟩=some v4 from (kM.out _ _ h30).cellP aT 2 rfl)
   refine rP 36 ?_ (y:=(wX ah ak))
   refine rP 37 ?_ (y:=(kT ah ak dh))
   refine eP 38 ak au bK (kY ah ak au (by intro wq hq;first|exact hq|exact hq.1|exact hq.2|exact hq.2.1|exact hq.2.2|exact hq.2.2.1|exact hq.2.2.2|exact hq.2.2.2.1|exact hq.2.2.2.2)) aQ gQ ?_
   clear hG
   refine bV 39 ak au (fun K hK=>?_)
   refine qm [v3,v4] ah au ah ?_
   refine (aha ux (fun w hw=>Sat.rd ((kM.out _ _ hw).pick iZ)) (fun w hw=>Sat.rd ((kM.out _ _ hw).pick aZ)) h30 (adr mD.out aN)).mono ?_
   rintro ee X9 ⟨v,rfl,rfl,h31⟩
   refine hK _ _ (.inl rfl) ?_
   clear hK h30
   refine rP 40 ?_ (y:=(jX ah ak ak))
   refine rP 41 ?_ (y:=aX)
   refine bV 42 ak au (fun K hK=>?_)
   refine qm [] ah au ah ?_
   have h32:Sat w0 X9 F:=HF2.out _ ((kM.out _ _ h31).drop.drop.drop.drop.drop.drop.drop.drop)
   refine (aem HH.out h32).mono ?_
   rintro ee w33 ⟨v,rfl,rfl,h33⟩
   refine hK _ _ (.inl rfl) ?_
   clear hK h31 h32
   refine rP 43 ?_ (y:=(jX ah ak ak))
   refine rP 44 ?_ (y:=fJ)
   refine dD au ?_
   try simp only [iO]
   try go_frame
   go_wp2_with fail
   go_ret
   exact ⟨_,rfl,rfl,h33⟩
end
end Go.Proofs.YtiglchkhikciiaaGreatDoor
namespace Go.Proofs.YtiglchkhikciiaaGreatDoor
open Go Go.Sl Go.ay Go.ChangeShapes Go.WideShapes Go.RowKit
structure QD.At (W:World) (d:QD):Prop where
 kind:rW d.c.kind
 key:d.c.key.length=32
 rd:bg 1 d.dv (aA d.c.data) W
 cap:kV d.dv
 n:rW d.c.n
 m:rW d.c.m
 rl:bg 1 d.lv (ints d.c.l) W
 Qr:kV d.lv
 ins:∀ i∈d.c.l,rW i
section
variable {H:Type}{enc:TypeId×Value→H}{W:World}{base:Nat}{spare:Nat→Bool}{held:Bool}
set_option maxRecDepth 100000 in
theorem afk {fuel:Nat}{cs:List Value}{x:DataW H×List MemPlace} (h:DataW.trod enc Tryz.prog W base spare held fuel 39 cs=some x):∃ d:QD,lM d=cs∧d.At W:=by
 obtain ⟨hl,hf⟩:=afi Tryz.underlying39 h
 have e37:Tryz.prog.cellsOf 39=37:=by kernel_rfl
 have e1:Tryz.prog.cellsOf 3=1:=by kernel_rfl
 have e2:Tryz.prog.cellsOf 31=32:=by kernel_rfl
 have e3:Tryz.prog.cellsOf 36=1:=by kernel_rfl
 have e5:Tryz.prog.cellsOf 5=1:=by kernel_rfl
 have e4:Tryz.prog.cellsOf 37=1:=by kernel_rfl
 rw [e37]at hl
 obtain ⟨n0,y0,h0⟩:=hf 0 _ rfl
 obtain ⟨n1,y1,h1⟩:=hf 1 _ rfl
 obtain ⟨n2,y2,h2⟩:=hf 2 _ rfl
 obtain ⟨n3,y3,h3⟩:=hf 3 _ rfl
 obtain ⟨n4,y4,h4⟩:=hf 4 _ rfl
 obtain ⟨n5,y5,h5⟩:=hf 5 _ rfl
 simp only [List.getElem_toArray,List.getElem_cons_zero,List.getElem_cons_succ,e1,e2,e3,e4,alu]at h0 h1 h2 h3 h4 h5
 obtain ⟨z0,q0,_,w0⟩:=DataW.trod_int Tryz.underlying3 h0
 obtain ⟨kl,k1,k2⟩:=afj Tryz.underlying31 e2 h1
 have hd:∃ v,(cs.drop 33).take 1=[v]:=by
  have:((cs.drop 33).take 1).length=1:=by rw [acJ,adU];omega
  exact List.length_eq_one_iff.1 this
 obtain ⟨dv,hdv⟩:=hd
 rw [hdv]at h2
 obtain ⟨l2,r2,c2⟩:=adz Tryz.underlying36 Tryz.underlying5 e5 h2
 obtain ⟨z3,q3,_,w3⟩:=DataW.trod_int Tryz.underlying3 h3
 obtain ⟨z4,q4,_,w4⟩:=DataW.trod_int Tryz.underlying3 h4
 have hd:∃ v,(cs.drop 36).take 1=[v]:=by
  have:((cs.drop 36).take 1).length=1:=by rw [acJ,adU];omega
  exact List.length_eq_one_iff.1 this
 obtain ⟨lv,hlv⟩:=hd
 rw [hlv]at h5
 obtain ⟨l6,r6,c6,i6⟩:=adA Tryz.underlying37 Tryz.underlying3 e1 h5
 refine ⟨⟨⟨z0,kl,l2,z3,z4,l6⟩,dv,lv⟩,?_,bounds_i64 w0,k2,r2,c2,bounds_i64 w3,bounds_i64 w4,r6,c6,i6⟩
 show (Value.int .i64 z0::aA kl)++dv::[.int .i64 z3,.int .i64 z4,lv]=cs
 have s1:cs=cs.take 1++((cs.drop 1).take 32++((cs.drop 33).take 1++((cs.drop 34).take 1++((cs.drop 35).take 1++(cs.drop 36).take 1)))):=by
  have a4:(cs.drop 36).take 1=cs.drop 36:=aeb (by rw [adU];omega)
  have a3:(cs.drop 35).take 1++cs.drop 36=cs.drop 35:=by
   rw [show cs.drop 36=(cs.drop 35).drop 1 by rw [ak3]];exact ajs 1 _
  have a2:(cs.drop 34).take 1++cs.drop 35=cs.drop 34:=by
   rw [show cs.drop 35=(cs.drop 34).drop 1 by rw [ak3]];exact ajs 1 _
  have a1:(cs.drop 33).take 1++cs.drop 34=cs.drop 33:=by
   rw [show cs.drop 34=(cs.drop 33).drop 1 by rw [ak3]];exact ajs 1 _
  have a0:(cs.drop 1).take 32++cs.drop 33=cs.drop 1:=by
   rw [show cs.drop 33=(cs.drop 1).drop 32 by rw [ak3]];exact ajs 32 _
  rw [a4,a3,a2,a1,a0]
  exact (ajs 1 cs).symm
 rw [s1,q0,← k1,hdv,q3,q4,hlv];rfl
theorem adB {fuel:Nat}{v:Value}{x:DataW H×List MemPlace} (h:DataW.trod enc Tryz.prog W base spare held fuel 22 [v]=some x) :
  ∃ ds:List QD,bg 37 v (jO ds) W∧kV v∧∀ d∈ds,d.At W:=by
 obtain ⟨elems,h1,h2,h3⟩:=VA Tryz.underlying22 (k:=37) au oQ h
 obtain ⟨ds,h4,h5⟩:=LY (f:=lM) (p:=fun d=>d.At W) elems fun cs hcs=>by
  obtain ⟨_,n,y,h6⟩:=h3 cs hcs
  exact afk h6
 refine ⟨ds,?_,h2,h5⟩
 unfold jO
 rw [List.flatMap_def,h4]
 exact h1
theorem QD.At.ro {d:QD} (h:d.At W):JD W [Sl.old W] d:=⟨h.key,MS h.rd,h.cap,MS h.rl,h.Qr⟩
end
end Go.Proofs.YtiglchkhikciiaaGreatDoor
namespace Go.Proofs.YtiglchkhikciiaaGreatDoor.card
open Go.ChangeShapes Go.WideShapes Go.ChangeAt Go.RowKit
open Go Go.Sl Go.ay
theorem acr:Tryz.prog.globalNamed "hoard/crc.half" = some 0:=by kernel_rfl
theorem ahZ:((Tryz.prog.globals[0]?).map (·.type))=some 343:=by kernel_rfl
theorem door_met (os:Os) (args:Array Value):laidMetH Tryz.prog [("hoard/crc.half",Rows.laid_hoard_crc_half)] ((World.doorLaid Tryz.prog 400 os).forCall (fun _ _=>0) ⟨#[],args,[]⟩).memory:=
 laidMetH_of_parts3 (fuel:=8) (laidMet_of_run' 8 au au) au au
theorem of_laid {W:World} (h:laidMetH Tryz.prog [("hoard/crc.half",Rows.laid_hoard_crc_half)] W):0<W.heap.size∧Half W:=by
 rw [MakeChecks.laidMetH_plain _ _ _ au]at h
 obtain ⟨ps,⟨g0,t0,cs0,f0,p0,q0,hg0,ht0,hv0,hd0,hrest⟩,ajy⟩:=h
 obtain rfl:=ake (acr.symm.trans hg0)
 obtain rfl:=ake (ahZ.symm.trans ht0)
 obtain ⟨xs,m1,rfl,hx1,hlen,hn3,hel⟩:=DataW.trod_array Tryz.underlying343 hd0
 have c3:Tryz.prog.cellsOf 219=1:=by kernel_rfl
 simp only [Prod.mk.injEq,Rows.laid_hoard_crc_half,DataW.agg.injEq]at hx1
 have hH:Half W:=by
  intro i hi
  have h0:=hel i hi
  have hxi:xs[i]?=some (xs[i]'oQ):=aak oQ
  rw [hxi]at h0
  obtain ⟨k,e1,e2,_⟩:=DataW.trod_int Tryz.underlying219 h0
  rw [c3,aiw]at e1
  have hc:cs0.toList[i]?=some (.int .u32 k):=by
   have:((cs0.toList.drop i).take 1)[0]?=some (.int .u32 k):=by rw [e1];rfl
   rw [ajl,ac3 aN,akG]at this
   exact this
  have hL:=aje (fun l=>l[i]?) hx1.1
  rw [aix,hxi]at hL
  have hk:k=((aj.half.getD i 0:Nat):Int):=by
   rw [e2]at hL
   rcases i with _|_|_|_|_|_|_|_|_|_|_|_|_|_|_|_|i
   all_goals first|omega|(simp at hL;rw [← hL];rfl)
  subst hk
  have:=World.var?_cell hg0 hv0 i
  rw [this,← akg]
  exact hc
 refine ⟨?_,hH⟩
 by_cases hz:0<W.heap.size
 ·exact hz
 ·have h0:=hH 0 aN
  have e:W.heap[0]?=none:=ak0 oQ
  simp [World.cell?,e]at h0
end Go.Proofs.YtiglchkhikciiaaGreatDoor.card
