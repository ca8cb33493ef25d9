import Derived.Test.YtihngncbioofnaaGreatDoorJ13
open Go.Proofs.Tryz
set_option maxRecDepth 20000
set_option linter.unusedVariables false
set_option linter.unusedSimpArgs false
set_option maxHeartbeats 128000000
open Go Go.Sl Go.MapKept Go.RowKit
open Go.Proofs.YtihngncbioofnaaGreatDoor
variable {w0 w:World}{F:List aG}{m K r r0 E n B p gb q kp ip Bi ps pn:Nat}{seg N pc limit:Int}{d:Bool}{L:Seg.Log}{M:ay.ay}{D:List (Nat×List aj.aI)}{gs:List Int}{mm:aj.Bs->Option Rep.jG}{bg:List (Value×List Int)}{mi:aj.Bs->Option Seg.aV}{lv:Value}{P:aO.Plan}{zs ys:List Proofs.Y.Sg}{oc:aj.Bs->Option aj.Bs}{y:Proofs.Y.Sg}{us:List Rep.Use}
theorem yV0{p:Prop} (h:p:=by unfold iJ;rw [ace];exact AQ x dS.o 0):p:=h
theorem yZ0{p:Prop} (h:p:=by unfold iJ;rw [ace];exact Gj x hj):p:=h
theorem zC0{p:Prop} (h:p:=by unfold iJ;rw [ace];exact Gl x):p:=h
namespace Go.Proofs.Y
open Go.ay
theorem ahT {t:Int} (h:Sat w0 w (omap (.int .i64) gb ((.int .i64 t,.int .i64 1)::gs.map λg=>(.int .i64 g,.int .i64 1))::F)):Sat w0 w (fA gb (gs++[t])::F):=by
 unfold fA;rw [adU];exact h.F8 (akF (l₁:=[(Value.int .i64 t,Value.int .i64 1)]))
theorem ahU {t:Int} (ht:t∉gs):(gs.map λg=>(Value.int .i64 g,Value.int .i64 1)).Perm (gs.map λg=>(Value.int .i64 g,Value.int .i64 1))/\∀ p∈gs.map λg=>(Value.int .i64 g,Value.int .i64 1),p.1 ≠ .int .i64 t:=
 ⟨.refl _,λp hp e=>by
  obtain ⟨g,hg,rfl⟩:=abL.1 hp;cases e;exact ht hg⟩
structure xR (P:aO.Plan) (ys zs:List Sg):Prop where
 aF:P.aF=ys.map λy=>(y.1,kC y)
 nodup:(P.aF.map (·.1)).Nodup
 mem:∀ y∈ys,y∈zs
 ok:IU ys
 fit:∀ y∈ys,VU y
 len:ys.length<=1000000
theorem xR.take (h:xR P ys zs){i:Nat} (hy:ys[i]?=some y):P.aF.take (i+1)=P.aF.take i++[(y.1,kC y)]:=by
 rw [h.aF,aeK,adW,hy];rfl
theorem af0 (hpc:0<=pc/\pc<=100) (hP:EF P N mm mi bg B Bi) (hS:xR P ys zs)
  (h:Sat w0 w (fA gb []::dL q N lv kp ip gb::aC 146 3 lv (ys.flatMap eP)::dG kp mm B::dK bg::aH ip mi Bi::fC zs::F)) :
  Calls prog 71 #[ptr q,.int .i64 pc] w (aP λv w'=>Sat w0 w' (fA gb (aO.chosen P pc)::dL q N lv kp ip gb::aC 146 3 lv (ys.flatMap eP)::dG kp mm B::dK bg::aH ip mi Bi::fC zs::F)):=by
 have xM:=uQ hpc;have HP:=uQ hP;have HS:=uQ hS;obtain ⟨R,hR⟩:∃ R,aO.chosen P pc=R:=⟨_,rfl⟩;rw [hR];have HR:=uQ hR;obtain ⟨la,lc,rfl⟩:=jK (f:=eP) (k:=3) (l:=ys) (λy _=>AZ y) (Sat.rd (h.pk (A:=aC 146 3 lv (ys.flatMap eP)))) aN;clear hpc hP hS hR;go_enter func71,ntmps71;go_wp2_with fail
 go_loopg [4] (ys.length+2) (λg mv wr=>(∃ (n:Nat) (gs:List Int),g=n+1/\mv=.bool true/\aO.JV P gs<n/\aO.choose P pc n gs=R/\Sat w0 wr (fA gb gs::dL q N (.slice la ys.length lc) kp ip gb::aC 146 3 (.slice la ys.length lc) (ys.flatMap eP)::dG kp mm B::dK bg::aH ip mi Bi::fC zs::F))\/g=0/\mv=.bool false/\Sat w0 wr (fA gb R::dL q N (.slice la ys.length lc) kp ip gb::aC 146 3 (.slice la ys.length lc) (ys.flatMap eP)::dG kp mm B::dK bg::aH ip mi Bi::fC zs::F))
 case atStart=>
  refine .inl ⟨ys.length+1,[],rfl,rfl,?_,?_,h⟩
  ·have h1:=aO.left_le (P:=P) (gs:=[]);have h2:=aey List.length HS.o.aF;rw [aa4]at h2;omega
  ·have h2:=aey List.length HS.o.aF;rw [aa4]at h2;rw [<-h2];exact HR.o
 case round=>
  clear h;rcases hrel with ⟨n,gs,rfl,rfl,hlt,hch,hS⟩|⟨rfl,rfl,hS⟩
  rotate_left
  focus
   go_wp2_with fail
   go_end0
   exact ⟨_,rfl,hS⟩
  have U2:=uQ hch;have bT:=uQ hlt;obtain ⟨nx,hnx⟩:∃ nx,aO.nextL P gs pc P.aF=nx:=⟨_,rfl⟩;have zD:=uQ hnx;have Hlen:=uQ HS.o.len;have e1:wr.cell? ⟨q,1,none⟩=some (.slice la ys.length lc):=hS.cellP bf 1 rfl;have h1:Sat w0 wr (aC 3 1 (.slice none 0 0) (ints (aO.nextL P gs pc (P.aF.take 0)))::fA gb gs::dL q N (.slice la ys.length lc) kp ip gb::aC 146 3 (.slice la ys.length lc) (ys.flatMap eP)::dG kp mm B::dK bg::aH ip mi Bi::fC zs::F):=by
   rw [aeO];exact Sat.gB.2 hS
  clear hS hnx hch hlt;go_wp2_with fail;clear e1
  go_loopg [5,16] ys.length (λg nq iq wr=>∃ (i:Nat) (nv:Value),nv=nq/\g=ys.length-i/\i<=ys.length/\iq=.int .i64 i/\Sat w0 wr (aC 3 1 nv (ints (aO.nextL P gs pc (P.aF.take i)))::fA gb gs::dL q N (.slice la ys.length lc) kp ip gb::aC 146 3 (.slice la ys.length lc) (ys.flatMap eP)::dG kp mm B::dK bg::aH ip mi Bi::fC zs::F))
  case atStart=>exact ⟨0,_,rfl,rfl,aea _,rfl,h1⟩
  case round=>
   obtain ⟨i,nv,rfl,rfl,hi,rfl,hS⟩:=hrel;clear h1;by_cases hil:i<ys.length;rotate_left
   focus
    obtain rfl:i=ys.length:=by omega
    have c1:¬ (ys.length:Int)<(ys.length:Int):=oQ;have hal:P.aF.take ys.length=P.aF:=by rw [HS.o.aF,<-aa4 (f:=λy:Sg=>(y.1,kC y)),aeo]
    rw [hal,zD.o]at hS;clear hi hil hal;obtain ⟨na,nc,rfl⟩:=FI (Sat.rd hS);have Hnd:=uQ (aO.akd (gs:=gs) (pc:=pc) HS.o.nodup);rw [zD.o]at Hnd
    have Hnl:=uQ (show nx.length<=1000000 by
     have h1:=aey List.length zD.o;unfold aO.nextL at h1;rw [aa4]at h1;have h2:=aeT (λx => !gs.contains x.1 && aO.sparse P gs pc x) P.aF;have h3:=aey List.length HS.o.aF;rw [aa4]at h3;have:=Hlen.o;omega)
    have h2:Sat w0 wr (fA gb (gs++nx.take 0)::aC 3 1 (.slice na nx.length nc) (ints nx)::dL q N (.slice la ys.length lc) kp ip gb::aC 146 3 (.slice la ys.length lc) (ys.flatMap eP)::dG kp mm B::dK bg::aH ip mi Bi::fC zs::F):=by
     rw [aeO,adV];exact hS.sb
    clear hS;go_wp2_with fail
    go_loopg [4,42] nx.length (λg mv iq wr=>∃ i:Nat,g=nx.length-i/\i<=nx.length/\mv=.bool (decide (0<i))/\iq=.int .i64 i/\Sat w0 wr (fA gb (gs++nx.take i)::aC 3 1 (.slice na nx.length nc) (ints nx)::dL q N (.slice la ys.length lc) kp ip gb::aC 146 3 (.slice la ys.length lc) (ys.flatMap eP)::dG kp mm B::dK bg::aH ip mi Bi::fC zs::F))
    case atStart=>exact ⟨0,rfl,aea _,rfl,rfl,h2⟩
    case round=>
     obtain ⟨j,rfl,hj,rfl,rfl,hS⟩:=hrel;clear h2;by_cases hjl:j<nx.length;rotate_left
     focus
      obtain rfl:j=nx.length:=by omega
      have c2:¬ (nx.length:Int)<(nx.length:Int):=oQ;rw [aeo]at hS;clear hj hjl;obtain ⟨n',rfl⟩:∃ n',n=n'+1:=⟨n-1,by have:=bT.o;omega⟩;by_cases hne:nx=[]
      focus
       have YQ:R=gs:=by
        rw [<-U2.o,aO.WX];rw [zD.o];exact hne
       have hmv:decide (0<nx.length)=false:=by rw [hne];rfl
       rw [hmv]
       have iw:=uQ (show Sat w0 wr (fA gb R::dL q N (.slice la ys.length lc) kp ip gb::aC 146 3 (.slice la ys.length lc) (ys.flatMap eP)::dG kp mm B::dK bg::aH ip mi Bi::fC zs::F) by
        rw [hne,adV]at hS;rw [YQ];exact hS.sb)
       clear hS hmv hne YQ;go_wp2_with fail
       go_roundg 0
       case measure=>omega
       case rel=>exact .inr ⟨rfl,rfl,iw.o⟩
      have hmv:decide (0<nx.length)=true:=aeb (apO.2 hne);rw [hmv];have qZ:=uQ hne;have iw:=uQ (hS.sb:Sat w0 wr (fA gb (gs++nx)::dL q N (.slice la ys.length lc) kp ip gb::aC 146 3 (.slice la ys.length lc) (ys.flatMap eP)::dG kp mm B::dK bg::aH ip mi Bi::fC zs::F));clear hS hmv hne;go_wp2_with fail
      go_roundg (n'+1)
      case measure=>omega
      case rel=>
       have hne2:aO.nextL P gs pc P.aF≠[]:=by rw [zD.o];exact qZ.o
       refine .inl ⟨n',gs++nx,rfl,rfl,?_,?_,iw.o⟩
       ·have h1:=aO.ajA hne2;rw [zD.o]at h1;have:=bT.o;omega
       ·rw [<-U2.o,aO.WY hne2,zD.o]
     have c2:(j:Int)<(nx.length:Int):=oQ;have CP:IntKind.i64.wrap ((j:Int)+1)=(j:Int)+1:=adr _ (by have:=Hnl.o;omega);obtain ⟨t,ht⟩:∃ t,nx[j]?=some t:=⟨_,aay hjl⟩;obtain ⟨bk,off,cc,e,hcell⟩:=tY (Sat.rd (hS.pk (A:=aC 3 1 (.slice na nx.length nc) (ints nx)))) ht;cases e
     have NV:=uQ (ahU (gs:=gs++nx.take j) (t:=t) (by
      intro hm;rcases aeg.1 hm with hm|hm
      ·exact Hnd.o.2 t (abA ht) hm
      ·obtain ⟨u,hu⟩:=apI hm;have rG:u<j:=by
        have h1:=(abm.1 hu).1;rw [ads]at h1;omega
       rw [apC rG]at hu;have:=(List.getElem?_inj oQ Hnd.o.1).1 (hu.trans ht.symm);omega))
     have wo:=uQ (show nx.take (j+1)=nx.take j++[t] by rw [aeK,ht];rfl);have kK:=uQ hjl;have eg:wr.cell? ⟨q,4,none⟩=some (.map (some gb)):=hS.cellP eH 4 rfl;clear ht hj hjl;go_wp2_with (at_mapUpdate;go_must (refine MC (key:= .int .i64 t) ah _ _ _ ah underlying142 underlying3 ah ah ah rfl hS _ (.inl NV.o) ?_);intro w2 hS2);have h3:=ahT hS2;rw [adQ,<-wo.o]at h3;clear hS hS2 eg hcell;go_wp2_with fail
     go_roundg (nx.length-(j+1))
     case measure=>have:=kK.o;omega
     case rel=>exact ⟨j+1,rfl,aec kK.o,by rw [aeb (Nat.succ_pos j)],by first|rfl|go_num,h3⟩
   have c1:(i:Int)<(ys.length:Int):=oQ;have hwi:IntKind.i64.wrap ((i:Int)+1)=(i:Int)+1:=adr _ yM0;obtain ⟨y,hy⟩:∃ y,ys[i]?=some y:=⟨_,aay hil⟩;have hym:=abA hy;obtain ⟨_,fa,fc,hyl⟩:=HS.o.ok y hym;have Hyf:=uQ (HS.o.fit y hym);have ED:=uQ (HS.o.mem y hym);have eG:=uQ (HS.o.take hy);obtain ⟨bk,off,c2,e2,hcell⟩:=jd (f:=eP) (k:=3) (λy _=>AZ y) (Sat.rd (hS.pk (A:=aC 146 3 (.slice la ys.length lc) (ys.flatMap eP)))) hy aN;cases e2;have IL:=uQ hyl;have kH:=uQ hil;obtain ⟨s,fs,sv⟩:=y;dsimp only at hyl;subst hyl;obtain ⟨cu,Ai⟩:∃ cu,aO.nextL P gs pc (P.aF.take i)=cu:=⟨_,rfl⟩;rw [Ai]at hS;have BI:=uQ Ai;clear hy hym hi hil Ai;have hcell:wr.rangeAt bk (off+i*3) [.int .i64 s,.slice fa fs.length fc,.int .i64 (aO.pay (kC (s,fs,.slice fa fs.length fc)))]:=hcell;obtain ⟨py,hpy⟩:∃ py,aO.pay (kC (s,fs,.slice fa fs.length fc))=py:=⟨_,rfl⟩
   rw [hpy]at hcell;have zG:=uQ hpy;clear hpy
   go_wp2_with (first
    |((with_reducible refine bP ⟨?_⟩);refine iR (b:=bk) (o:=off+i*3) [.int .i64 s,.slice fa fs.length fc,.int .i64 py] ah hcell underlying146 rfl au ?_)
    |(with_reducible apply fB))
   refine ⟨eF MI hS rfl ?_⟩;intro b7 w7 h7;clear hcell hS;go_wp2_with ((with_reducible refine dh ⟨?_⟩);refine fP #[.int .i64 s,.slice fa fs.length fc,.int .i64 py] h7 ah ah ah cZ au ah ?_;intro w8 h8);have h9:=h8.drew;clear h7 h8;have hlk:=Ju s (h9.sb:Sat w0 _ (fA gb gs::pt b7 (.cells #[.int .i64 s,.slice fa fs.length fc,.int .i64 py] 146 (0,0))::aC 3 1 nv (ints cu)::dL q N (.slice (some ⟨bk,off,none⟩) ys.length lc) kp ip gb::aC 146 3 (.slice (some ⟨bk,off,none⟩) ys.length lc) (ys.flatMap eP)::dG kp mm B::dK bg::aH ip mi Bi::fC zs::F));by_cases hc:gs.contains s=true
   focus
    rw [acg hc]at hlk
    have qY:=uQ (show aO.nextL P gs pc (P.aF.take (i+1))=cu by
     rw [eG.o,aO.aaK,hc,Bool.not_true,Bool.false_and,abj aN,adV,BI.o])
    have hG:World.cell? _ ⟨q,4,none⟩=some (.map (some gb))/\World.cell? _ ⟨b7,0,none⟩=some (.int .i64 s)/\(Instr.lookup 142 (.map (some gb)) (.int .i64 s) false).run prog _=.ok (.int .i64 1) _:=⟨h9.cellP iO 4 rfl,h9.cellP aU 0 rfl,hlk⟩;clear hlk;refine dN [12,13] (λw'=>w'.cell? ⟨q,4,none⟩=some (.map (some gb))/\w'.cell? ⟨b7,0,none⟩=some (.int .i64 s)/\(Instr.lookup 142 (.map (some gb)) (.int .i64 s) false).run prog w'=.ok (.int .i64 1) w') au ?_;refine rP 0 ?_ (y:=aZ);refine rP 1 ?_ (y:=dW);refine rP 2 ?_ (y:=bY);refine rt 3 (h:=?_);refine rP 4 ?_ (y:=bY);refine rt 5 (h:=?_);refine rt 6 (h:=?_);refine rP 7 ?_ (y:=jH);refine rP 8 ?_ (y:=aZ);clear hG;refine eu 9 ak au bV ah gQ ?_;refine eu 10 ak au bV ah gQ ?_;refine eu 11 ak au bV ah gQ ?_;refine eu 12 ak au bV ah gQ ?_;refine rP 13 ?_ (y:=(nC ah ak ak));refine dH au ?_;go_wp2_with fail
    go_roundg (ys.length-(i+1))
    case measure=>have:=kH.o;omega
    case rel=>exact ⟨i+1,_,rfl,rfl,aec kH.o,by first|rfl|go_num,by rw [qY.o];exact h9.drop⟩
   rw [abj hc]at hlk;obtain ⟨z,hz⟩:∃ z,aO.sparse P gs pc (s,kC (s,fs,.slice fa fs.length fc))=z:=⟨_,rfl⟩
   have qY:=uQ (show aO.nextL P gs pc (P.aF.take (i+1))=cu++(if z=true then [s] else []) by
    rw [eG.o,aO.aaK,Bool.eq_false_iff.2 hc,Bool.not_false,apV,BI.o,hz])
   have Hz:=uQ hz;have hG:World.cell? _ ⟨q,4,none⟩=some (.map (some gb))/\World.rangeAt _ b7 0 [.int .i64 s,.slice fa fs.length fc,.int .i64 py]/\World.cell? _ ⟨b7,0,none⟩=some (.int .i64 s)/\(Instr.lookup 142 (.map (some gb)) (.int .i64 s) false).run prog _=.ok (.int .i64 0) _:=⟨h9.cellP iO 4 rfl,λk v hk=>h9.cellP aU (0+k) (by rw [ad8,ace];exact hk),h9.cellP aU 0 rfl,hlk⟩;clear hlk hz hc;refine dN [12,13] (λw'=>w'.cell? ⟨q,4,none⟩=some (.map (some gb))/\w'.rangeAt b7 0 [.int .i64 s,.slice fa fs.length fc,.int .i64 py]/\w'.cell? ⟨b7,0,none⟩=some (.int .i64 s)/\(Instr.lookup 142 (.map (some gb)) (.int .i64 s) false).run prog w'=.ok (.int .i64 0) w') au ?_;refine rP 0 ?_ (y:=aZ);refine rP 1 ?_ (y:=dW);refine rP 2 ?_ (y:=bY);refine rt 3 (h:=?_);refine rP 4 ?_ (y:=bY);refine rt 5 (h:=?_);refine rt 6 (h:=?_);refine rP 7 ?_ (y:=jH)
   refine rP 8 ?_ (y:=aZ);refine rP 9 ?_ (y:=(iU ah ak));refine gK 10 ak au bV (anU (b:=b7) (o:=0) [.int .i64 s,.slice fa fs.length fc,.int .i64 py] ah ah underlying146 rfl au (λw hw=>hw.2.1)) aQ gQ ?_;refine rP 11 ?_ (y:=(iU ah ak));clear hG;refine bW 12 ak au (λK hK=>?_);refine EP [ptr q,.agg #[.int .i64 s,.slice fa fs.length fc,.int .i64 py],.int .i64 pc] ah au ah ?_;have hsp:=agw (y:=(s,fs,.slice fa fs.length fc)) (pc:=pc) ED.o rfl Hyf.o xM.o HP.o (h9.sb:Sat w0 _ (fA gb gs::dL q N (.slice (some ⟨bk,off,none⟩) ys.length lc) kp ip gb::dG kp mm B::dK bg::aH ip mi Bi::fC zs::pt b7 (.cells #[.int .i64 s,.slice fa fs.length fc,.int .i64 py] 146 (0,0))::aC 3 1 nv (ints cu)::aC 146 3 (.slice (some ⟨bk,off,none⟩) ys.length lc) (ys.flatMap eP)::F));dsimp only at hsp;rw [zG.o,Hz.o]at hsp;refine hsp.mono ?_;clear hsp;rintro ee w10 ⟨v,rfl,rfl,h10⟩
   refine hK _ _ (.inl rfl) ?_;clear hK h9;refine rP 13 ?_ (y:=(nC ah ak ak));refine dH au ?_;rcases z with _|_
   focus
    have iw:=uQ (h10.sb:Sat w0 w10 (aC 3 1 nv (ints cu)::fA gb gs::dL q N (.slice (some ⟨bk,off,none⟩) ys.length lc) kp ip gb::aC 146 3 (.slice (some ⟨bk,off,none⟩) ys.length lc) (ys.flatMap eP)::dG kp mm B::dK bg::aH ip mi Bi::fC zs::F));clear h10;go_wp2_with fail
    go_roundg (ys.length-(i+1))
    case measure=>have:=kH.o;omega
    case rel=>exact ⟨i+1,_,rfl,rfl,aec kH.o,by first|rfl|go_num,by rw [qY.o];simp only [apA,afX,adV];exact iw.o⟩
   have e0:w10.cell? ⟨b7,0,none⟩=some (.int .i64 s):=h10.cellP (aS (aS (aS (aS (aS (aS aU)))))) 0 rfl;have hcl:(ints cu).length<=2147483648:=by
    rw [Ql,<-BI.o];unfold aO.nextL;rw [aa4];have h2:=aeT (λx => !gs.contains x.1 && aO.sparse P gs pc x) (P.aF.take i);have h3:=aey List.length HS.o.aF;rw [aa4]at h3;rw [ads]at h2;have:=Hlen.o;omega
   have h11:Sat w0 w10 (aC 3 1 nv (ints cu)::fA gb gs::dL q N (.slice (some ⟨bk,off,none⟩) ys.length lc) kp ip gb::aC 146 3 (.slice (some ⟨bk,off,none⟩) ys.length lc) (ys.flatMap eP)::dG kp mm B::dK bg::aH ip mi Bi::fC zs::pt b7 (.cells #[.int .i64 s,.slice fa fs.length fc,.int .i64 py] 146 (0,0))::F):=h10.sb;clear h10;have jT:=uQ hcl;clear hcl
   go_wp2_with (first
    |((with_reducible refine nR ⟨?_⟩);refine nN (e:=3) (sz:=1) (eX:=8) au h11 ah (cs:=#[.int .i64 s]) rfl rfl bI ?_;intro bN wN hN)
    |((with_reducible refine lH ⟨?_⟩);refine oh 3 1 8 au hN ah ah bf aU ah (abl 1) ah jT.o (by show 1<=65536;decide) aN (ys:=ints [s]) rfl ?_;intro bA nA cA wA hA))
   rw [<-Qk]at hA;have iw:=uQ (hA.sb:Sat w0 wA (aC 3 1 (.slice (some ⟨bA,0,none⟩) nA cA) (ints (cu++[s]))::fA gb gs::dL q N (.slice (some ⟨bk,off,none⟩) ys.length lc) kp ip gb::aC 146 3 (.slice (some ⟨bk,off,none⟩) ys.length lc) (ys.flatMap eP)::dG kp mm B::dK bg::aH ip mi Bi::fC zs::F));clear h11 hN hA e0;go_wp2_with fail
   go_roundg (ys.length-(i+1))
   case measure=>have:=kH.o;omega
   case rel=>exact ⟨i+1,_,rfl,rfl,aec kH.o,by first|rfl|go_num,by rw [qY.o];simp only [apa];exact iw.o⟩
end Go.Proofs.Y
namespace Go.aO
open Go.aj (Bs dD aI dI encs gu)
open Go.Seg (aV)
open Go.Rep
open Go.ay
theorem abf:∀ (es:List aI) (a:Nat),pay (dI es a)<=((encs es).length:Int)
 |[],a=>aoZ _
 |e::es,a=>by
  have ih:=abf es (a+(aj.encode e).1.length);have e1:(encs (e::es)).length=(aj.encode e).1.length+(encs es).length:=by
   show ((aj.encode e).1++encs es).length=_;rw [aaL]
  have e2:pay (dI (e::es) a)=(if e.tag=2 then 0 else ((aj.encode e).1.length:Int))+pay (dI es (a+(aj.encode e).1.length)):=rfl;rw [e1,e2];split <;> omega
theorem amP {K r E B n:Nat}{L:Seg.Log}{M:ay}{D:List (Nat×List aI)} (h:Seg.gI K r E B n L M D){x:Int×List dD} (hx:x∈gX D):pay x.2<=16777216/\x.2.length<=n:=by
 obtain ⟨d,hd,rfl⟩:=abL.1 hx;constructor
 ·have h1:=Seg.Jc (L:=L) h.hd.keeps.calm.ok (d.1:Int);rw [h.hd.bytes hd]at h1;have h2:=abf d.2 8;have h3:(Seg.mag++encs d.2).length<=16777216:=h1;rw [aaL]at h3;show pay (dI d.2 8)<=_;omega
 ·show (dI d.2 8).length<=n;rw [<-aa4 (f:=λf:dD=>f.e),aj.yA];have h1:=h.few;unfold Seg.fO at h1;rw [List.flatMap_def]at h1;have h2:=(List.sublist_flatten_of_mem (abL.2 ⟨d,hd,rfl⟩:d.2∈D.map (·.2))).length_le;omega
end Go.aO
namespace Go.Proofs.Y
open Go.ay
section
theorem WU (hS:xR P ys zs) (h:Sat w0 w (fA gb gs::dL q N lv kp ip gb::aC 146 3 lv (ys.flatMap eP)::F)) :
  Calls prog 34 #[ptr q] w (aP λv w'=>Sat w0 w' (aC 3 1 v (ints (aO.kU gs P.aF))::fA gb gs::dL q N lv kp ip gb::aC 146 3 lv (ys.flatMap eP)::F)):=by
 have HS:=uQ hS;obtain ⟨la,lc,rfl⟩:=jK (f:=eP) (k:=3) (l:=ys) (λy _=>AZ y) (Sat.rd (h.pk (A:=aC 146 3 lv (ys.flatMap eP)))) aN;have Hlen:=uQ hS.len;have e1:w.cell? ⟨q,1,none⟩=some (.slice la ys.length lc):=h.cellP bf 1 rfl;have h1:Sat w0 w (aC 3 1 (.slice none 0 0) (ints (aO.kU gs (P.aF.take 0)))::fA gb gs::dL q N (.slice la ys.length lc) kp ip gb::aC 146 3 (.slice la ys.length lc) (ys.flatMap eP)::F):=by
  rw [aeO];exact Sat.gB.2 h
 clear h hS;go_enter func34,ntmps34;go_wp2_with fail;clear e1
 go_loopg [3,11] ys.length (λg nq iq wr=>∃ (i:Nat) (nv:Value),nv=nq/\g=ys.length-i/\i<=ys.length/\iq=.int .i64 i/\Sat w0 wr (aC 3 1 nv (ints (aO.kU gs (P.aF.take i)))::fA gb gs::dL q N (.slice la ys.length lc) kp ip gb::aC 146 3 (.slice la ys.length lc) (ys.flatMap eP)::F))
 case atStart=>exact ⟨0,_,rfl,rfl,aea _,rfl,h1⟩
 case round=>
  obtain ⟨i,nv,rfl,rfl,hi,rfl,hS⟩:=hrel;clear h1;by_cases hil:i<ys.length;rotate_left
  focus
   obtain rfl:i=ys.length:=by omega
   have c1:¬ (ys.length:Int)<(ys.length:Int):=oQ;have hal:P.aF.take ys.length=P.aF:=by rw [HS.o.aF,<-aa4 (f:=λy:Sg=>(y.1,kC y)),aeo]
   rw [hal]at hS;clear hi hil hal;go_wp2_with fail;go_ret;exact ⟨_,rfl,hS⟩
  have c1:(i:Int)<(ys.length:Int):=oQ;have hwi:IntKind.i64.wrap ((i:Int)+1)=(i:Int)+1:=adr _ yM0;obtain ⟨y,hy⟩:∃ y,ys[i]?=some y:=⟨_,aay hil⟩;have hym:=abA hy;obtain ⟨_,fa,fc,hyl⟩:=HS.o.ok y hym;have eG:=uQ (HS.o.take hy);obtain ⟨bk,off,c2,e2,hcell⟩:=jd (f:=eP) (k:=3) (λy _=>AZ y) (Sat.rd (hS.pk (A:=aC 146 3 (.slice la ys.length lc) (ys.flatMap eP)))) hy aN;cases e2;have kH:=uQ hil;obtain ⟨s,fs,sv⟩:=y;dsimp only at hyl;subst hyl;have hcl:(ints (aO.kU gs (P.aF.take i))).length<=2147483648:=by
   rw [Ql];unfold aO.kU;rw [aa4];have h2:=aeT (λx=>gs.contains x.1) (P.aF.take i);have h3:=aey List.length HS.o.aF;rw [aa4]at h3;rw [ads]at h2;have:=Hlen.o;omega
  obtain ⟨cu,Ai⟩:∃ cu,aO.kU gs (P.aF.take i)=cu:=⟨_,rfl⟩;rw [Ai]at hS hcl;have BI:=uQ Ai;have jT:=uQ hcl;have hcell:wr.rangeAt bk (off+i*3) [.int .i64 s,.slice fa fs.length fc,.int .i64 (aO.pay (kC (s,fs,.slice fa fs.length fc)))]:=hcell;generalize aO.pay (kC (s,fs,.slice fa fs.length fc))=py at hcell;clear hy hym hi hil Ai hcl
  go_wp2_with (first
   |((with_reducible refine bP ⟨?_⟩);refine iR (b:=bk) (o:=off+i*3) [.int .i64 s,.slice fa fs.length fc,.int .i64 py] ah hcell underlying146 rfl au ?_)
   |(with_reducible apply fB))
  refine ⟨eF MI hS rfl ?_⟩;intro b7 w7 h7;clear hcell hS;go_wp2_with ((with_reducible refine dh ⟨?_⟩);refine fP #[.int .i64 s,.slice fa fs.length fc,.int .i64 py] h7 ah ah ah cZ au ah ?_;intro w8 h8);have h9:=h8.drew;clear h7 h8;have hlk:=Ju s (h9.sb:Sat w0 _ (fA gb gs::pt b7 (.cells #[.int .i64 s,.slice fa fs.length fc,.int .i64 py] 146 (0,0))::aC 3 1 nv (ints cu)::dL q N (.slice (some ⟨bk,off,none⟩) ys.length lc) kp ip gb::aC 146 3 (.slice (some ⟨bk,off,none⟩) ys.length lc) (ys.flatMap eP)::F));have e4:World.cell? _ ⟨q,4,none⟩=some (.map (some gb)):=h9.cellP iO 4 rfl;have e0:World.cell? _ ⟨b7,0,none⟩=some (.int .i64 s):=h9.cellP aU 0 rfl;by_cases hc:gs.contains s=true;rotate_left
  focus
   rw [abj hc]at hlk
   have qY:=uQ (show aO.kU gs (P.aF.take (i+1))=cu by
    rw [eG.o,aO.Yy,abj hc,adV,BI.o])
   clear hc;have hG:World.cell? _ ⟨q,4,none⟩=some (.map (some gb))/\World.cell? _ ⟨b7,0,none⟩=some (.int .i64 s)/\(Instr.lookup 142 (.map (some gb)) (.int .i64 s) false).run prog _=.ok (.int .i64 0) _:=⟨e4,e0,hlk⟩;refine dN [7] (λw'=>w'.cell? ⟨q,4,none⟩=some (.map (some gb))/\w'.cell? ⟨b7,0,none⟩=some (.int .i64 s)/\(Instr.lookup 142 (.map (some gb)) (.int .i64 s) false).run prog w'=.ok (.int .i64 0) w') au ?_;refine rP 0 ?_ (y:=aZ);refine rP 1 ?_ (y:=dW);refine rP 2 ?_ (y:=bY);refine rt 3 (h:=?_);refine rP 4 ?_ (y:=bY);refine rt 5 (h:=?_);refine rt 6 (h:=?_);clear hG;refine rP 7 ?_ (y:=jH);refine dH au ?_;go_wp2_with fail
   go_roundg (ys.length-(i+1))
   case measure=>have:=kH.o;omega
   case rel=>exact ⟨i+1,_,rfl,rfl,aec kH.o,by first|rfl|go_num,by rw [qY.o];exact h9.drop⟩
  rw [acg hc]at hlk
  have qY:=uQ (show aO.kU gs (P.aF.take (i+1))=cu++[s] by
   rw [eG.o,aO.Yy,acg hc,BI.o])
  clear hc;have hG:World.cell? _ ⟨q,4,none⟩=some (.map (some gb))/\World.cell? _ ⟨b7,0,none⟩=some (.int .i64 s)/\(Instr.lookup 142 (.map (some gb)) (.int .i64 s) false).run prog _=.ok (.int .i64 1) _:=⟨e4,e0,hlk⟩;refine dN [7] (λw'=>w'.cell? ⟨q,4,none⟩=some (.map (some gb))/\w'.cell? ⟨b7,0,none⟩=some (.int .i64 s)/\(Instr.lookup 142 (.map (some gb)) (.int .i64 s) false).run prog w'=.ok (.int .i64 1) w') au ?_;refine rP 0 ?_ (y:=aZ);refine rP 1 ?_ (y:=dW);refine rP 2 ?_ (y:=bY);refine rt 3 (h:=?_);refine rP 4 ?_ (y:=bY);refine rt 5 (h:=?_);refine rt 6 (h:=?_);clear hG;refine rP 7 ?_ (y:=jH);refine dH au ?_
  have h11:=(h9.sb:Sat w0 _ (aC 3 1 nv (ints cu)::pt b7 (.cells #[.int .i64 s,.slice fa fs.length fc,.int .i64 py] 146 (0,0))::fA gb gs::dL q N (.slice (some ⟨bk,off,none⟩) ys.length lc) kp ip gb::aC 146 3 (.slice (some ⟨bk,off,none⟩) ys.length lc) (ys.flatMap eP)::F));clear h9 hlk e4
  go_wp2_with (first
   |((with_reducible refine nR ⟨?_⟩);refine nN (e:=3) (sz:=1) (eX:=8) au h11 ah (cs:=#[.int .i64 s]) rfl rfl bI ?_;intro bN wN hN)
   |((with_reducible refine lH ⟨?_⟩);refine oh 3 1 8 au hN ah ah bf aU ah (abl 1) ah jT.o (by show 1<=65536;decide) aN (ys:=ints [s]) rfl ?_;intro bA nA cA wA hA))
  rw [<-Qk]at hA;have iw:=uQ (hA.sb:Sat w0 wA (aC 3 1 (.slice (some ⟨bA,0,none⟩) nA cA) (ints (cu++[s]))::fA gb gs::dL q N (.slice (some ⟨bk,off,none⟩) ys.length lc) kp ip gb::aC 146 3 (.slice (some ⟨bk,off,none⟩) ys.length lc) (ys.flatMap eP)::F));clear h11 hN hA e0;go_wp2_with fail
  go_roundg (ys.length-(i+1))
  case measure=>have:=kH.o;omega
  case rel=>exact ⟨i+1,_,rfl,rfl,aec kH.o,by first|rfl|go_num,by rw [qY.o];exact iw.o⟩
variable {pi:Nat}{uv tv:Value}
def uy (N:Int) (mi:aj.Bs->Option Seg.aV) (D:List (Nat×List aj.aI)):aO.Plan:=⟨N,aO.gX D,aO.lu (aO.jY (aO.gX D)),mi⟩
def ae2 (w0:World) (N pc:Int) (Bi n:Nat) (mi:aj.Bs->Option Seg.aV) (D:List (Nat×List aj.aI)) (R:List aG) (v:Value) (w':World):Prop:=
 ∃ (b kp ip gb Bk:Nat) (lv:Value) (mm:aj.Bs->Option Rep.jG) (bg:List (Value×List Int)) (ys zs:List Sg),v=.tuple #[ptr b,errno 0]/\EF (uy N mi D) N mm mi bg Bk Bi/\xR (uy N mi D) ys zs/\Sat w0 w' (fA gb (aO.chosen (uy N mi D) pc)::dL b N lv kp ip gb::aC 146 3 lv (ys.flatMap eP)::dG kp mm Bk::dK bg::aH ip mi Bi::fC zs::R)
theorem akT {ys zs:List Sg}{Bk:Nat} (hR:Seg.gI K r0 E B n L M D) (hn:n<=1000) (qg:Bi<=13000000) (hys:(ys.map λy=>(y.1,kC y))=aO.gX D) (hok:IU ys) (hyz:∀ y∈ys,y∈zs) (hko:mW mm (aO.lu (aO.jY (aO.gX D))) bg) (CB:Bk<=n) :
  EF (uy N mi D) N mm mi bg Bk Bi/\xR (uy N mi D) ys zs:=by
 refine ⟨⟨rfl,rfl,hko,λk=>?_,by omega,qg⟩,hys.symm,aO.amQ hR.hd.rise,hyz,hok,λy hy=>?_,?_⟩
 ·have h1:=aO.ZQ (aO.jY (aO.gX D)) k;rw [aO.SE]at h1;have:=hR.few;show (aO.iT (aO.lu (aO.jY (aO.gX D))) k).1.length<=_;omega
 ·have hx:(y.1,kC y)∈aO.gX D:=by rw [<-hys];exact abL.2 ⟨y,hy,rfl⟩
  obtain ⟨h1,h2⟩:=aO.amP hR hx;refine ⟨(hok y hy).1,h1,?_⟩;have h3:(kC y).length<=n:=h2;unfold kC at h3;rw [aa4]at h3;omega
 ·have h1:=aey List.length hys;rw [aa4,aO.Lm]at h1;have:=hR.hd.count;omega
theorem Xh (hpc:0<=pc/\pc<=100) (hR:Seg.gI K r0 E B n L M D) (hn:n<=1000) (hus:us.map (·.seg)=D.map λd=>(d.1:Int)) (qg:Bi<=13000000) (hH:Ro w0 F Half)
  (h:Sat w0 w (aY r m seg p ps pn false::cO ps N pi uv tv::aH pi mi Bi::aC 45 3 uv (us.flatMap bG)::aK p m L::aJ m M::F)) :
  Calls prog 33 #[ptr r,.int .i64 pc] w (aP λv w'=>ae2 w0 N pc Bi n mi D (aY r m seg p ps pn false::cO ps N pi uv tv::aH pi mi Bi::aC 45 3 uv (us.flatMap bG)::aK p m L::aJ m M::F) v w'):=by
 have hl:=SL h;have hd:=alZ h;have hrd:=agq hR hn hus (adt qg aN) hH h;have HR:=uQ hR;have Hn:=uQ hn;have H7:=uQ qg;have xM:=uQ hpc;clear h hR hn hus qg hH;have c1:decide (pc<0)=false:=ad2 oQ;have c1':¬ pc<0:=oQ;have c2:decide (pc>100)=false:=ad2 oQ;have c2':¬ 100<pc:=oQ;clear hpc;go_enter func33,ntmps33;go_wp2_with fail;refine hl.mono ?_;rintro ee w1 ⟨v,rfl,rfl,rfl⟩;go_wp2_with fail;refine hd.mono ?_;rintro ee w1 ⟨v,rfl,rfl,rfl⟩;go_wp2_with fail;refine hrd.mono ?_;rintro ee w2 ⟨v,rfl,b,kp,ip,gb,Bk,lv,mm,bg,ys,zs,rfl,k1,k2,k3,k4,k5,h2⟩;obtain ⟨hP,hS⟩:=akT (N:=N) (mi:=mi) HR.o Hn.o H7.o k1 k2 k3 k4 k5;clear hl hd hrd k1 k2 k3 k4 k5;go_wp2_with fail
 refine (af0 xM.o hP hS (h2.sb:Sat w0 w2 (fA gb []::dL b N lv kp ip gb::aC 146 3 lv (ys.flatMap eP)::dG kp mm Bk::dK bg::aH ip mi Bi::fC zs::aY r m seg p ps pn false::cO ps N pi uv tv::aH pi mi Bi::aC 45 3 uv (us.flatMap bG)::aK p m L::aJ m M::F))).mono ?_;rintro ee w3 ⟨v,rfl,h3⟩;have iw:=uQ (And.intro hP (And.intro hS h3));clear h2 h3 hP hS;go_wp2_with fail
 go_ret2
 obtain ⟨k1,k2,k3⟩:=iw.o;exact ⟨_,rfl,b,kp,ip,gb,Bk,lv,mm,bg,ys,zs,rfl,k1,k2,k3⟩
theorem agv (hpc:0<=pc/\pc<=100) (hR:Seg.gI K r0 E B n L M D) (hn:n<=1000) (hus:us.map (·.seg)=D.map λd=>(d.1:Int)) (qg:Bi<=13000000) (hH:Ro w0 F Half)
  (h:Sat w0 w (aY r m seg p ps pn false::cO ps N pi uv tv::aH pi mi Bi::aC 45 3 uv (us.flatMap bG)::aK p m L::aJ m M::F)) :
  Calls prog 11 #[ptr r,.int .i64 pc] w (aP λv w'=>∃ sv,v=.tuple #[sv,errno 0]/\Sat w0 w' (aC 3 1 sv (ints (aO.kU (aO.chosen (uy N mi D) pc) (aO.gX D)))::aY r m seg p ps pn false::cO ps N pi uv tv::aH pi mi Bi::aC 45 3 uv (us.flatMap bG)::aK p m L::aJ m M::F)):=by
 have hp:=Xh hpc hR hn hus qg hH h;clear h hR hn hus qg hH hpc;go_enter func11,ntmps11;go_wp2_with fail;refine hp.mono ?_;rintro ee w2 ⟨v,rfl,b,kp,ip,gb,Bk,lv,mm,bg,ys,zs,rfl,k1,k2,h2⟩;clear hp k1;go_wp2_with fail;refine (WU k2 (h2.sb:Sat w0 w2 (fA gb (aO.chosen (uy N mi D) pc)::dL b N lv kp ip gb::aC 146 3 lv (ys.flatMap eP)::dG kp mm Bk::dK bg::aH ip mi Bi::fC zs::aY r m seg p ps pn false::cO ps N pi uv tv::aH pi mi Bi::aC 45 3 uv (us.flatMap bG)::aK p m L::aJ m M::F))).mono ?_;rintro ee w3 ⟨v,rfl,h3⟩;clear h2 k2;have iw:=uQ (h3.sb:Sat w0 w3 (aC 3 1 v (ints (aO.kU (aO.chosen (uy N mi D) pc) (uy N mi D).aF))::aY r m seg p ps pn false::cO ps N pi uv tv::aH pi mi Bi::aC 45 3 uv (us.flatMap bG)::aK p m L::aJ m M::F));clear h3;go_wp2_with fail
 go_ret2
 exact ⟨_,rfl,_,rfl,iw.o⟩
end
end Go.Proofs.Y
namespace Go.Seg
open Go.ay
open Go.aj (Bs aI encs gu dI)
open Go.Rep
section
variable {K r E B n:Nat}{L:Log}{M:ay}{C:List (List aI)}{x y:aI}
theorem Gi:put C false x=C++[[x]]:=rfl
theorem Rp.abr (h:Rp K r E B n L M C) (hn:n<400) (hE:n+E<500) (hon:L.on=false) (hk:x.key.length=32) (hd:x.data.length<=300) (h0:(aj.encode x).2=0) (hr:n*400+B+400<=r) :
  (L.append M x).2.2=0/\(L.append M x).1.1.on=true/\(L.append M x).1.1.limit=L.limit/\Rp (K+4) r E B (n+1) (L.append M x).1.1 (L.append M x).1.2 (C++[[x]])/\∃ row,gG 0 (C++[[x]])=gG 0 C++[row]/\row.2.e=x/\iP row=(L.append M x).2.1:=by
 have hf:L.fits (aj.encode x).1.length=false:=by unfold Log.fits;rw [hon];rfl
 have hu:=h.hg.used;have hrm:=h.hg.keeps.calm.room;have hnm:=h.hg.names;obtain ⟨a1,a2,a3,_⟩:=h.hg.append oQ x hk hd h0 (.inr ⟨by omega,by omega⟩);obtain ⟨C',b1,b2,_,row,b4,b5,b6⟩:=h.yes oQ hk hd h0 a1;rw [hf,Gi]at b2;subst b2;exact ⟨a1,a2,a3,b1,row,b4,b5,b6⟩
end
section
variable {K r E B n:Nat}{L:Log}{M:ay}{C:List (List aI)}{x y:aI}
theorem HG.len_eq {K' r' E' B' n':Nat}{M':ay}{C':List (List aI)} (h:HG K r E B n L M C) (h':HG K' r' E' B' n' L M' C'):C.length=C'.length:=h.len.symm.trans h'.len
theorem Rq (h0:(aj.encode x).2=0) (hk:x.key.length=32) (ht:x.tag=0):(aj.encode x).1.length=41+x.data.length:=by
 rw [Ba h0 hk];unfold aj.size;have hc:aj.check x=0:=by
  unfold aj.encode at h0;split at h0
  ·exact h0
  ·rename_i h;exact Decidable.not_not.1 h
 rw [abj (by rw [hc];decide),abj (by rw [ht];decide)]
theorem HG.akD (h:HG K r E B n L M (C++[[x]])) (h0:(aj.encode x).2=0) (hk:x.key.length=32) (hd:x.data.length<=1) (ht:x.tag=0) (hon:L.on=true) (hlim:L.limit=200):L.fits (aj.encode bC).1.length=true:=by
 have hl:L.l.getLast?=some ((C.length:Int),8+((encs [x]).length:Int)):=by
  rw [aeH,h.len,aaL,aer,ao8];exact h.at_ _ _ (by rw [aeh (abl _),ajN];rfl)
 unfold Log.fits;rw [hl,hon,hlim,ES,Rq h0 hk ht,agf];simp only [afW,apd,apV];exact aeb oQ
theorem ak6:put (C++[[x]]) true y=C++[[x,y]]:=by
 unfold put;rw [acg rfl,List.dropLast_concat,List.getLastD_eq_getLast?,List.getLast?_concat]
 rfl
theorem Yg (s:List aI) (a:Nat) (k:Int):(dI s a).map (λ_=>k)=s.map λ_=>k:=by
 conv=>rhs;rw [<-aj.yA s a]
 rw [aeW];rfl
theorem alM (k:Nat) (s t:List aI):(gG k [s,t]).map (·.1)=(s.map λ_=>(k:Int))++t.map λ_=>((k+1:Nat):Int):=by
 show (((dI s 8).map λf=>((k:Int),f))++(((dI t 8).map λf=>(((k+1:Nat):Int),f))++[])).map (λr:Row=>r.1)=_;rw [adV,adU,aeW,aeW];exact congr (aey _ (Yg s 8 k)) (Yg t 8 _)
theorem akx {C2:List (List aI)} (hf:C2.flatten=[x,y]) (hl:C2.length=1):C2=[[x,y]]:=by
 match C2,hl with
 |[s],_=>
  rw [ao1,List.flatten_nil,adV]at hf;rw [hf]
theorem an6 {C2:List (List aI)}{a b:aI}{row:Row} (hf:C2.flatten=[a,b,x,y]) (hl:C2.length=2) (hr:gG 0 C2=gG 0 [[a,b],[x]]++[row]):C2=[[a,b],[x,y]]:=by
 match C2,hl with
 |[s,t],_=>
  rw [ao1,ao1,List.flatten_nil,adV]at hf;have h1:=aey (λl:List Row=>l.map (·.1)) hr;simp only [adU,alM]at h1;rcases s with _|⟨s0,_|⟨s1,_|⟨s2,s⟩⟩⟩
  ·simp only [aeu]at hf;rw [hf]at h1;simp at h1
  ·simp only [aeI,aeu,List.cons.injEq]at hf;rw [hf.2]at h1;simp at h1
  ·simp only [aeI,aeu,List.cons.injEq]at hf;rw [hf.1,hf.2.1,hf.2.2]
  ·simp at h1
theorem Rp.Xb (h:Rp K r E B n L M (C++[[x]])) (hn:n<400) (hE:n+E<500) (hk:x.key.length=32) (hd:x.data.length<=1) (ht:x.tag=0) (h0:(aj.encode x).2=0) (hon:L.on=true) (hlim:L.limit=200) (hr:n*400+B+400<=r) :
  (L.append M bC).2.2=0/\(L.commit M).1.1.on=false/\(L.commit M).1.1.limit=200/\∀ {K' r' E' B' n':Nat} {M3:ay} {C2:List (List aI)},HG K' r' E' B' n' (L.commit M).1.1 M3 C2->C2.length=C.length+1:=by
 have hu:=h.hg.used;have hrm:=h.hg.keeps.calm.room;have hnm:=h.hg.names;obtain ⟨a1,_⟩:=h.hg.append oQ bC rfl aN ah (.inr ⟨by omega,by omega⟩);obtain ⟨_,b2,b3,b4⟩:=h.hg.commit oQ (.inl a1);rw [h.hg.akD h0 hk hd ht hon hlim,ak6]at b4;refine ⟨a1,b2,b3.trans hlim,λh'=>?_⟩;rw [<-b4.len_eq h',aaL,aer]
end
end Go.Seg
namespace Go.aO
open Go.aj (Bs dD aI dI encs gu)
open Go.Seg (aV bC)
open Go.Rep
theorem anm {x y:aI} (hx:x.tag=0) (hy:y.tag=0) (hk:x.key=y.key) (h0:0<(aj.encode x).1.length) (h1:0<(aj.encode y).1.length) (N:Int):kU (chosen ⟨N,uG [[x,bC],[y,bC]],lu (jY (uG [[x,bC],[y,bC]])),dO (gG 0 [[x,bC],[y,bC]])⟩ 100) (uG [[x,bC],[y,bC]])=[0]:=by
 generalize hQ:lu (jY (uG [[x,bC],[y,bC]]))=Q;have hi:dO (gG 0 [[x,bC],[y,bC]]) y.key=some ⟨1,8,((aj.encode y).1.length:Int)⟩:=by
  have e:gG 0 [[x,bC],[y,bC]]=(gG 0 [[x,bC]]++[((1:Int),⟨y,8,(aj.encode y).1.length⟩)])++[((1:Int),⟨bC,8+(aj.encode y).1.length,(aj.encode bC).1.length⟩)]:=rfl;rw [e,QX ah,Kr (by exact hy)];unfold Tab.put;exact acg rfl
 generalize dO (gG 0 [[x,bC],[y,bC]])=I at hi ⊢;have es:uG [[x,bC],[y,bC]]=[((0:Int),[⟨x,8,(aj.encode x).1.length⟩,⟨bC,8+(aj.encode x).1.length,(aj.encode bC).1.length⟩]),((1:Int),[⟨y,8,(aj.encode y).1.length⟩,⟨bC,8+(aj.encode y).1.length,(aj.encode bC).1.length⟩])]:=rfl;rw [es];generalize (aj.encode x).1.length=a at *
 generalize (aj.encode y).1.length=b at *
 generalize (aj.encode bC).1.length=c at *
 clear hQ es;obtain ⟨P,hP⟩:∃ P,P=Plan.mk N [((0:Int),[⟨x,8,a⟩,⟨bC,8+a,c⟩]),((1:Int),[⟨y,8,b⟩,⟨bC,8+b,c⟩])] Q I:=⟨_,rfl⟩;rw [<-hP];have hI:P.index=I:=by rw [hP]
 have hS:P.aF=[((0:Int),[⟨x,8,a⟩,⟨bC,8+a,c⟩]),((1:Int),[⟨y,8,b⟩,⟨bC,8+b,c⟩])]:=by rw [hP]
 clear hP;have cc:∀ (gs:List Int) (s:Int) (z:Nat),counts P gs s ⟨bC,z,c⟩=false:=λgs s z=>by unfold counts;exact acg rfl
 have c0:∀ gs:List Int,counts P gs 0 ⟨x,8,a⟩=false:=λgs=>by
  unfold counts;rw [abj (by show ¬ x.tag=2;rw [hx];decide),acg (show x.tag=0 from hx)];show (match P.index x.key with|some p=>wZ p ⟨0,((8:Nat):Int),(a:Int)⟩|none=>false)=false;rw [hI,hk,hi]
  rfl
 have c1:∀ gs:List Int,counts P gs 1 ⟨y,8,b⟩=true:=λgs=>by
  unfold counts;rw [abj (by show ¬ y.tag=2;rw [hy];decide),acg (show y.tag=0 from hy)];show (match P.index y.key with|some p=>wZ p ⟨1,((8:Nat):Int),(b:Int)⟩|none=>false)=true;rw [hI,hi];show ((1:Int)==1 && ((8:Int)==((8:Nat):Int) && (b:Int)==(b:Int)))=true;rw [beq_self_eq_true (b:Int)]
  rfl
 have p0:∀ (e:aI) (a z:Nat),e.tag=0->pay [⟨e,8,a⟩,⟨bC,z,c⟩]=(a:Int):=λe a z he=>by
  unfold pay pay pay;rw [abj (by show ¬ e.tag=2;rw [he];decide),acg (show bC.tag=2 from rfl)];show (a:Int)+0=a;exact Int.add_zero _
 have s0:sparse P [] 100 ((0:Int),[⟨x,8,a⟩,⟨bC,8+a,c⟩])=true:=by
  unfold sparse;simp only;rw [p0 x a _ hx,abj oQ];unfold nV nV nV;rw [c0,cc,abj aN,abj aN];exact aeb oQ
 have s1:∀ gs:List Int,sparse P gs 100 ((1:Int),[⟨y,8,b⟩,⟨bC,8+b,c⟩])=false\/b=0:=λgs=>by
  by_cases hb:b=0
  ·exact .inr hb
  refine .inl ?_;unfold sparse;simp only;rw [p0 y b _ hy,abj oQ];unfold nV nV nV;rw [c1,cc,acg rfl,abj aN];exact ad2 (by show ¬ (100*((b:Int)+(0+0))<100*(b:Int));omega)
 have s1:∀ gs:List Int,sparse P gs 100 ((1:Int),[⟨y,8,b⟩,⟨bC,8+b,c⟩])=false:=λgs=>(s1 gs).resolve_right oQ;have n1:nextL P [] 100 P.aF=[0]:=by
  unfold nextL;rw [hS,apF (by rw [s0];rfl),an5 (by rw [s1,Bool.and_false];exact Bool.false_ne_true)]
  rfl
 have n2:nextL P [0] 100 P.aF=[]:=by
  unfold nextL;rw [hS,an5 yF0,an5 (by rw [s1,Bool.and_false];exact Bool.false_ne_true)]
  rfl
 unfold chosen;rw [hS]at n1 n2;rw [hS];show kU (choose P 100 (2+1) []) _=_;rw [WY (by rw [hS,n1];decide),hS,n1,aeu,WX (by rw [hS];exact n2)]
 rfl
end Go.aO
namespace Go.Proofs.Y
open Go.ay
theorem am8 {K:Nat}{M:ay} (h:M.Ok K) (ho:M.off=false):M.size ByteArray.empty=(0,9):=by
 have hn:bU M.now ByteArray.empty=none:=by
  cases hi:bU M.now ByteArray.empty with
  |none=>rfl
  |some i=>exact absurd rfl (h.ig.ne _ (jD hi))
 unfold ay.size;rw [ho,hn];rfl
abbrev RX (r m p ps pi pn:Nat) (uv:Value) (limit:Int) (M:ay) (F:List aG):List aG:=
 aY r m limit p ps pn false::cO ps (-1) pi uv (.slice none 0 0)::aH pn (λ_=>none) 0::aH pi (λ_=>none) 0::aC 45 3 uv []::aK p m ⟨limit,[],false,0⟩::aJ m M::F
theorem abZ {m K r0:Nat}{M:ay}{limit:Int} (h1:128<=limit) (h2:limit<=1048576) (hM:Seg.Calm K r0 M) (hK:K<=1048576) (jr:M.now=[]) (hH:Ro w0 F Half) (h:Sat w0 w (aJ m M::F)) :
  Calls prog 19 #[ptr m,.int .i64 limit] w (aP λv w'=>∃ (r p ps pi pn:Nat) (uv:Value),v=.tuple #[ptr r,.agg (dP Rep.dJ.zero),errno 0]/\Seg.Rp K r0 0 0 0 ⟨limit,[],false,0⟩ M []/\Sat w0 w' (RX r m p ps pi pn uv limit M F)):=by
 have hl:M.list=[]:=by rw [hM.quiet.list,jr];rfl
 have hfr:Seg.fresh M limit=⟨limit,[],false,0⟩:=by
  unfold Seg.fresh Seg.found;rw [hl]
  rfl
 have ha:Seg.alive M=0:=by unfold Seg.alive;rw [am8 hM.ok hM.quiet.off];rfl
 have hu:M.used=0:=by unfold ay.used;rw [jr];rfl
 refine (alH h1 h2 hM.ok hK ha (by rw [hfr];rfl) hl hH h).mono ?_;rintro e w' ⟨v,rfl,r,p,ps,pi,pn,uv,rfl,hS⟩;have hok:=Seg.Jt hM.ok limit h1 h2;rw [hfr]at hS hok;refine ⟨_,rfl,r,p,ps,pi,pn,uv,rfl,⟨⟨⟨hok,hM,λs hs=>by cases hs⟩,rfl,λk es hk=>(by simp at hk),λk es hk=>(by simp at hk),λes he=>(by cases he),abl _,by rw [hu];omega,by rw [jr];exact abl _,λk i hk hi=>by rw [jr]at hi;cases hi⟩,by rw [jr];rfl,abl _,λp hp=>(by rw [jr]at hp;cases hp),λe he=>(by cases he)⟩,hS.sb⟩
theorem afm {P:Program}{ops:Array Oper}{Q:Exit->Act->World->Prop}{rest:List Oper}{a:Act}{w:World}{dst:Option Tmp}{ty t:TypeId}{pos:String}{after:Array Edge}{g:Nat×Bool}{n:Nat}{xs:Array (Nat×Operand)} (h:Stop (wpList P ops Q (⟨dst,.buildSlice ty n xs,t,pos,after,some g⟩::rest) a w)):wpList P ops Q (⟨dst,.buildSlice ty n xs,t,pos,after,some g⟩::rest) a w:=h.o
theorem akC (z:Int) (hH:Ro w0 F Half) (h:Sat w0 w F) :
  Calls prog 30 #[.int .i64 z] w (aP λv w'=>∃ (r m p ps pi pn:Nat) (uv:Value) (limit:Int) (M:ay),v=.tuple #[ptr r,ptr m,.bool true]/\(128<=limit/\limit<=2000/\M.now=[])/\Seg.Rp 0 1048576 0 0 0 ⟨limit,[],false,0⟩ M []/\Sat w0 w' (RX r m p ps pi pn uv limit M F)):=by
 have hnew:=aaD 1048576 aN h;have hlim:=Mc z 128 2000 aN;have hwi:=L9 z 128 2000;generalize within z 128 2000=lim at *
 have vX:=uQ hlim;have HH:=uQ hH;clear h hlim hH;go_enter func30,ntmps30;go_wp2_with fail;refine hnew.mono ?_;rintro ee w1 ⟨v,rfl,m,rfl,h1⟩;clear hnew;go_wp2_with fail;refine (hwi _).mono ?_;rintro ee w2 ⟨v,rfl,rfl,rfl⟩;clear hwi;have hop:=abZ (K:=0) vX.o.1 (by have:=vX.o.2;omega) (Seg.Calm.new 0 1048576 aN) (aea _) rfl HH.o h1;clear h1;go_wp2_with fail;refine hop.mono ?_;rintro ee w3 ⟨v,rfl,r,p,ps,pi,pn,uv,rfl,hR,h3⟩;clear hop;have HR:=uQ hR;clear hR;go_wp2_with (with_reducible apply fB);refine ⟨eF nO h3 rfl ?_⟩;intro b8 w7 h7;go_wp2_with (with_reducible apply dh);refine ⟨fP (dP Rep.dJ.zero) h7 ah ah ah cZ au ah ?_⟩;intro w8 h8;have h9:=h8.drop;clear h3 h7 h8;have h9:Sat w0 w8 (RX r m p ps pi pn uv lim (ay.new 1048576) F):=h9;go_wp2_with fail
 go_ret3
 exact ⟨_,rfl,r,m,p,ps,pi,pn,uv,lim,_,rfl,⟨vX.o.1,vX.o.2,rfl⟩,HR.o,h9⟩
section
variable {o:aj.Bs->Option aj.Bs}
theorem agL (x:QD) (hkey:x.c.key.length=32) (hkind:x.c.kind=0) (hd:Ro w0 F (bF 1 x.dv (aA x.c.data))) (hlen:x.c.data.length<=300) (hn:n<=199) (hE:E<=200) (hK:K<=1048576) (hH:Ro w0 F Half) (h:gy w0 r m seg K r0 E n o oc d F w) :
  Calls prog 21 #[ptr r,.agg (iJ x)] w (aP λv w'=>∃ (o' oc':aj.Bs->Option aj.Bs) (d':Bool),gy w0 r m seg (K+605) r0 (E+2) (n+1) o' oc' d' F w'):=by
 obtain ⟨LL,hS,hpush,hdrop⟩:=h.sat;have hF:=hdrop _ hS;obtain ⟨da,dn,dc,hdv,hdn,_⟩:=hd w hF;rw [aX,aes]at hdn;subst hdn;rw [hdv]at hd;have Hd:=uQ hd;have Hlen:=uQ hlen;clear hd hlen;have dS:=uQ hkey;have Hp:=uQ hpush;have HH:=uQ hH;have Hn:=uQ hn;have HE:=uQ hE;have HK:=uQ hK;clear h hpush hdrop hkey hH hn hE hK hF;go_enter func21,ntmps21;go_wp2_with (with_reducible apply fD);refine ⟨fE hS ah ah ?_⟩;intro b3 w3 h3;have h4:=Hp.o _ _ h3;have e0:w3.cell? ⟨b3,0,none⟩=some (.int .i64 x.c.kind):=h3.cellP aU 0 zC0;have fk:w3.rangeAt b3 1 (aA x.c.key):=λj z hj=>h3.cellP aU (1+j) yZ0;have e33:w3.cell? ⟨b3,33,none⟩=some x.dv:=h3.cellP aU 33 yV0;clear hS h3;rw [hdv]at e33;rw [hkind]at e0;go_wp2_with ((with_reducible refine bP ⟨?_⟩);refine iR (b:=b3) (o:=1) (aA x.c.key) ah fk underlying50 rfl (by rw [aX,dS.o];kernel_rfl) ?_)
 refine (agT yH0 HE.o HK.o dS.o x.c.data da dc (Ro.os Hd.o) Hlen.o (Ro.os HH.o) h4).mono ?_;rintro ee w5 ⟨v,rfl,⟨rfl,h5⟩|⟨rfl,h5⟩⟩
 ·go_wp2_with fail
  go_end0
  exact ⟨_,rfl,_,_,_,h5.drop.mono oQ oQ oQ⟩
 ·go_wp2_with fail
  go_end0
  exact ⟨_,rfl,_,_,_,h5.drop.mono oQ oQ oQ⟩
theorem agM (x:QD) (hkey:x.c.key.length=32) (hkind:x.c.kind=1) (hn:n<=199) (hE:E<=200) (hK:K<=1048576) (hH:Ro w0 F Half) (h:gy w0 r m seg K r0 E n o oc d F w) :
  Calls prog 21 #[ptr r,.agg (iJ x)] w (aP λv w'=>∃ (o' oc':aj.Bs->Option aj.Bs) (d':Bool),gy w0 r m seg (K+605) r0 (E+2) (n+1) o' oc' d' F w'):=by
 obtain ⟨LL,hS,hpush,hdrop⟩:=h.sat;have hF:=hdrop _ hS;have dS:=uQ hkey;have Hp:=uQ hpush;have HH:=uQ hH;have Hn:=uQ hn;have HE:=uQ hE;have HK:=uQ hK;clear h hpush hdrop hkey hH hn hE hK hF;go_enter func21,ntmps21;go_wp2_with (with_reducible apply fD);refine ⟨fE hS ah ah ?_⟩;intro b3 w3 h3;have h4:=Hp.o _ _ h3;have e0:w3.cell? ⟨b3,0,none⟩=some (.int .i64 x.c.kind):=h3.cellP aU 0 zC0;have fk:w3.rangeAt b3 1 (aA x.c.key):=λj z hj=>h3.cellP aU (1+j) yZ0;have e33:w3.cell? ⟨b3,33,none⟩=some x.dv:=h3.cellP aU 33 yV0;clear hS h3;rw [hkind]at e0;go_wp2_with ((with_reducible refine bP ⟨?_⟩);refine iR (b:=b3) (o:=1) (aA x.c.key) ah fk underlying50 rfl (by rw [aX,dS.o];kernel_rfl) ?_);refine (agE yH0 HE.o HK.o dS.o (Ro.os HH.o) h4).mono ?_;rintro ee w5 ⟨v,rfl,⟨rfl,h5⟩|⟨rfl|rfl,h5⟩⟩
 ·go_wp2_with fail
  go_end0
  exact ⟨_,rfl,_,_,_,h5.drop.mono oQ oQ oQ⟩
 ·go_wp2_with fail
  go_end0
  exact ⟨_,rfl,_,_,_,h5.drop.mono oQ oQ oQ⟩
 ·go_wp2_with fail
  go_end0
  exact ⟨_,rfl,_,_,_,h5.drop.mono oQ oQ oQ⟩
theorem agN (x:QD) (hkey:x.c.key.length=32) (hkind:x.c.kind=2) (hn:n<=199) (hE:E<=200) (hK:K<=1048576) (hH:Ro w0 F Half) (h:gy w0 r m seg K r0 E n o oc d F w) :
  Calls prog 21 #[ptr r,.agg (iJ x)] w (aP λv w'=>∃ (o' oc':aj.Bs->Option aj.Bs) (d':Bool),gy w0 r m seg (K+605) r0 (E+2) (n+1) o' oc' d' F w'):=by
 obtain ⟨LL,hS,hpush,hdrop⟩:=h.sat;have hF:=hdrop _ hS;have dS:=uQ hkey;have Hp:=uQ hpush;have HH:=uQ hH;have Hn:=uQ hn;have HE:=uQ hE;have HK:=uQ hK;clear h hpush hdrop hkey hH hn hE hK hF;go_enter func21,ntmps21;go_wp2_with (with_reducible apply fD);refine ⟨fE hS ah ah ?_⟩;intro b3 w3 h3;have h4:=Hp.o _ _ h3;have e0:w3.cell? ⟨b3,0,none⟩=some (.int .i64 x.c.kind):=h3.cellP aU 0 zC0;have fk:w3.rangeAt b3 1 (aA x.c.key):=λj z hj=>h3.cellP aU (1+j) yZ0;have e33:w3.cell? ⟨b3,33,none⟩=some x.dv:=h3.cellP aU 33 yV0;clear hS h3;rw [hkind]at e0;go_wp2_with fail;refine (OO yH0 HE.o HK.o (Ro.os HH.o) h4).mono ?_;rintro ee w5 ⟨v,rfl,⟨rfl,h5⟩|⟨rfl,_,h5⟩⟩
 ·go_wp2_with fail
  go_end0
  exact ⟨_,rfl,_,_,_,h5.drop.mono oQ oQ oQ⟩
 ·go_wp2_with fail
  go_end0
  exact ⟨_,rfl,_,_,_,h5.drop.mono oQ oQ oQ⟩
theorem agO (x:QD) (hkey:x.c.key.length=32) (hkind:x.c.kind=3) (hn:n<=199) (hE:E<=200) (hK:K<=1048576) (hH:Ro w0 F Half) (h:gy w0 r m seg K r0 E n o oc d F w) :
  Calls prog 21 #[ptr r,.agg (iJ x)] w (aP λv w'=>∃ (o' oc':aj.Bs->Option aj.Bs) (d':Bool),gy w0 r m seg (K+605) r0 (E+2) (n+1) o' oc' d' F w'):=by
 obtain ⟨LL,hS,hpush,hdrop⟩:=h.sat;have hF:=hdrop _ hS;have dS:=uQ hkey;have Hp:=uQ hpush;have HH:=uQ hH;have Hn:=uQ hn;have HE:=uQ hE;have HK:=uQ hK;clear h hpush hdrop hkey hH hn hE hK hF;go_enter func21,ntmps21;go_wp2_with (with_reducible apply fD);refine ⟨fE hS ah ah ?_⟩;intro b3 w3 h3;have h4:=Hp.o _ _ h3;have e0:w3.cell? ⟨b3,0,none⟩=some (.int .i64 x.c.kind):=h3.cellP aU 0 zC0;have fk:w3.rangeAt b3 1 (aA x.c.key):=λj z hj=>h3.cellP aU (1+j) yZ0;have e33:w3.cell? ⟨b3,33,none⟩=some x.dv:=h3.cellP aU 33 yV0;clear hS h3;rw [hkind]at e0;go_wp2_with fail;refine (agU yH0 HK.o h4).mono ?_;rintro ee w5 ⟨v,rfl,rfl,h5⟩;go_wp2_with fail
 go_end0
 exact ⟨_,rfl,_,_,_,h5.drop.mono oQ oQ oQ⟩
theorem agP (x:QD) (hkey:x.c.key.length=32) (hkind:x.c.kind≠0/\x.c.kind≠1/\x.c.kind≠2/\x.c.kind≠3) (hn:n<=199) (hE:E<=200) (hK:K<=1048576) (hH:Ro w0 F Half) (h:gy w0 r m seg K r0 E n o oc d F w) :
  Calls prog 21 #[ptr r,.agg (iJ x)] w (aP λv w'=>∃ (o' oc':aj.Bs->Option aj.Bs) (d':Bool),gy w0 r m seg (K+605) r0 (E+2) (n+1) o' oc' d' F w'):=by
 obtain ⟨LL,hS,hpush,hdrop⟩:=h.sat;have hF:=hdrop _ hS;have dS:=uQ hkey;have Hp:=uQ hpush;have HH:=uQ hH;have Hn:=uQ hn;have HE:=uQ hE;have HK:=uQ hK;clear h hpush hdrop hkey hH hn hE hK hF;go_enter func21,ntmps21;go_wp2_with (with_reducible apply fD);refine ⟨fE hS ah ah ?_⟩;intro b3 w3 h3;have h4:=Hp.o _ _ h3;have e0:w3.cell? ⟨b3,0,none⟩=some (.int .i64 x.c.kind):=h3.cellP aU 0 zC0;have fk:w3.rangeAt b3 1 (aA x.c.key):=λj z hj=>h3.cellP aU (1+j) yZ0;have e33:w3.cell? ⟨b3,33,none⟩=some x.dv:=h3.cellP aU 33 yV0;clear hS h3;obtain ⟨k0,k1,k2,k3⟩:=hkind;have c0:(x.c.kind==0)=false:=by rw [adX];exact k0
 have c1:(x.c.kind==1)=false:=by rw [adX];exact k1
 have c2:(x.c.kind==2)=false:=by rw [adX];exact k2
 have c3:(x.c.kind==3)=false:=by rw [adX];exact k3
 clear k0 k1 k2 k3;go_wp2_with fail
 go_end0
 exact ⟨_,rfl,_,_,_,h4.drop.mono oQ oQ oQ⟩
theorem Xt (x:QD) (hkey:x.c.key.length=32) (hd:Ro w0 F (bF 1 x.dv (aA x.c.data))) (hlen:x.c.data.length<=300) (hn:n<=199) (hE:E<=200) (hK:K<=1048576) (hH:Ro w0 F Half) (h:gy w0 r m seg K r0 E n o oc d F w) :
  Calls prog 21 #[ptr r,.agg (iJ x)] w (aP λv w'=>∃ (o' oc':aj.Bs->Option aj.Bs) (d':Bool),gy w0 r m seg (K+605) r0 (E+2) (n+1) o' oc' d' F w'):=by
 by_cases h0:x.c.kind=0
 ·exact agL x hkey h0 hd hlen hn hE hK hH h
 by_cases h1:x.c.kind=1
 ·exact agM x hkey h1 hn hE hK hH h
 by_cases h2:x.c.kind=2
 ·exact agN x hkey h2 hn hE hK hH h
 by_cases h3:x.c.kind=3
 ·exact agO x hkey h3 hn hE hK hH h
 ·exact agP x hkey ⟨h0,h1,h2,h3⟩ hn hE hK hH h
theorem RX.sd {p ps pi pn:Nat}{uv:Value}{M:ay} (hR:Seg.Rp K r0 0 0 0 ⟨seg,[],false,0⟩ M []) (jr:M.now=[]) (h:Sat w0 w (RX r m p ps pi pn uv seg M F)):gy w0 r m seg K r0 0 0 (λ_=>none) (λ_=>none) false F w:=
 ⟨ps,p,pn,pi,0,0,0,uv,_,-1,[],_,M,[],[],⟨hR.rpd,Seg.oK.start rfl rfl,rfl,rfl,λ_=>rfl,abl _,abl _,Seg.qB.start jr⟩,h.sb⟩
theorem agS (z:Int) (ds:List QD){a:Option Addr}{c:Nat} (hr:Ro w0 F (bF 37 (.slice a ds.length c) (jU ds))) (hk:∀ d∈ds,d.c.key.length=32/\d.c.data.length<=300) (hd:∀ d∈ds,Ro w0 F (bF 1 d.dv (aA d.c.data))) (hl:ds.length<=40) (hH:Ro w0 F Half) (h:Sat w0 w F) :
  Calls prog 7 #[.int .i64 z,.slice a ds.length c] w (aP λv w'=>∃ (r m:Nat) (lim:Int) (o:aj.Bs->Option aj.Bs),v=.tuple #[ptr r,ptr m,.bool true]/\(128<=lim/\lim<=2000)/\gy w0 r m lim 25000 1048576 82 41 o o false F w'):=by
 have hop:=akC z hH h;have Hr:=uQ hr;have Hk:=uQ hk;have Hd:=uQ hd;have Hl:=uQ hl;have HH:=uQ hH;clear hr hk hd hl hH h;go_enter func7,ntmps7;go_wp2_with fail;refine hop.mono ?_;rintro ee w1 ⟨v,rfl,r,m,p,ps,pi,pn,uv,lim,M,rfl,⟨l1,l2,l3⟩,hR,h1⟩;clear hop;have vX:=uQ (And.intro l1 l2);have h2:=RX.sd hR l3 h1;clear h1 hR l1 l2 l3;go_wp2_with fail
 go_loopg [10] ds.length (λg iq wr=>∃ (i:Nat) (o oc:aj.Bs->Option aj.Bs) (d:Bool),g=ds.length-i/\i<=ds.length/\iq=.int .i64 i/\gy w0 r m lim (i*605) 1048576 (2*i) i o oc d F wr)
 case atStart=>exact ⟨0,_,_,_,rfl,aea _,rfl,h2⟩
 case round=>
  obtain ⟨i,o,oc,d,rfl,hi,rfl,hS⟩:=hrel;clear h2;by_cases hlt:i<ds.length;rotate_left
  focus
   obtain rfl:i=ds.length:=by omega
   have c1:decide ((ds.length:Int)<(ds.length:Int))=false:=ad2 oQ;have c1':¬ (ds.length:Int)<(ds.length:Int):=oQ;have hcm:=OO yN0 yN0 yN0 HH.o hS;clear hS hi hlt;go_wp2_with fail;refine hcm.mono ?_;rintro ee w3 ⟨v,rfl,⟨rfl,h3⟩|⟨rfl,h3,_⟩⟩;rotate_left
   focus
    exfalso;have:=Hl.o;have h4:2*ds.length*(20+28*ds.length)<=80*(20+28*40):=an9 oQ oQ;omega
   clear hcm;have bH:=uQ (show gy w0 r m lim 25000 1048576 82 41 o o false F w3 from h3.mono yN0 yN0 yN0);clear h3;go_wp2_with fail
   go_ret3
   exact ⟨_,rfl,r,m,lim,o,rfl,vX.o,bH.o⟩
  have c1:decide ((i:Int)<(ds.length:Int))=true:=aeb oQ;have c1':(i:Int)<(ds.length:Int):=oQ;have hwi:IntKind.i64.wrap ((i:Int)+1)=(i:Int)+1:=adr _ yN0;obtain ⟨x,hx⟩:∃ x,ds[i]?=some x:=⟨_,aay hlt⟩;have hxm:=abA hx;have bT:=uQ hlt;have Hxk:=uQ (Hk.o x hxm);have Hxd:=uQ (Hd.o x hxm);obtain ⟨LL,hG,hback,hdrop⟩:=hS.sat;have hrd:=Hr.o _ (hdrop _ hG);have hx0:(jU ds)[i*37+0]?=some (.int .i64 x.c.kind):=Dt (λd hd=>(Hk.o d hd).1) hx rfl;obtain ⟨bk,off,e,hcell⟩:=pI hrd hx0;cases e;have hcells:wr.rangeAt bk (off+i*37) (ng x):=λj y hj=>by
   have:=hcell _ _ (Dt (λd hd=>(Hk.o d hd).1) hx hj);rw [<-apB]at this;exact this
  clear hlt hi hx hxm hG hback hdrop hrd hx0 hcell;go_wp2_with ((with_reducible refine bP ⟨?_⟩);refine iR (b:=bk) (o:=off+i*37) (ng x) ah hcells underlying69 rfl (by rw [Dq _ Hxk.o.1];exact FH) ?_);refine (Xt (n:=i) (E:=2*i) (K:=i*605) x Hxk.o.1 Hxd.o Hxk.o.2 (by have:=Hl.o;have:=bT.o;omega) (by have:=Hl.o;have:=bT.o;omega) (by have:=Hl.o;have:=bT.o;omega) HH.o hS).mono ?_;rintro ee w3 ⟨v,rfl,o2,Df,d2,h3⟩;have iw:=uQ (show gy w0 r m lim ((i+1)*605) 1048576 (2*(i+1)) (i+1) o2 Df d2 F w3 from by rw [show (i+1)*605=i*605+605 by omega,show 2*(i+1)=2*i+2 by omega];exact h3);clear hS hcells h3;go_wp2_with fail
  go_roundg (ds.length-(i+1))
  case measure=>have:=bT.o;omega
  case rel=>exact ⟨i+1,o2,Df,d2,rfl,aec bT.o,by first|rfl|go_num,iw.o⟩
end
theorem af2 (hS:xR P ys zs) (hP:EF P N mm mi bg B Bi) (hL:L.Ok) (hM:M.Ok K) (hK:K+4*(aO.copyS P gs P.aF).length+6<=1099511627776) (hdl:∀ y∈ys,∀ q∈y.2.1,q.1.e.data.length<=1099511627) (hH:Ro w0 F Half)
  (h:Sat w0 w (fA gb gs::dL q N lv kp ip gb::aC 146 3 lv (ys.flatMap eP)::dG kp mm B::dK bg::aH ip mi Bi::fC zs::aK p m L::aJ m M::F)) :
  Calls prog 35 #[ptr q,ptr p] w (aP λv w'=>v=errno (L.copied M (aO.copyS P gs P.aF)).2/\Sat w0 w' (fA gb gs::dL q N lv kp ip gb::aC 146 3 lv (ys.flatMap eP)::dG kp mm B::dK bg::aH ip mi Bi::fC zs::aK p m (L.copied M (aO.copyS P gs P.aF)).1.1::aJ m (L.copied M (aO.copyS P gs P.aF)).1.2::F)):=by
 have HS:=uQ hS;have HP:=uQ hP;have HH:=uQ hH;have HDl:=uQ hdl;obtain ⟨Q,hQ⟩:∃ Q,L.appends M (aO.copyS P gs P.aF)=Q:=⟨_,rfl⟩;obtain ⟨R,hR⟩:∃ R,L.copied M (aO.copyS P gs P.aF)=R:=⟨_,rfl⟩;have Ia:=uQ (show R=if Q.2=0 then ((Q.1.1.commit Q.1.2).1,(Q.1.1.commit Q.1.2).2.2) else Q by rw [<-hR,<-hQ];rfl);rw [hR];obtain ⟨la,lc,rfl⟩:=jK (f:=eP) (k:=3) (l:=ys) (λy _=>AZ y) (Sat.rd (h.pk (A:=aC 146 3 lv (ys.flatMap eP)))) aN;have Hlen:=uQ hS.len;have e1:w.cell? ⟨q,1,none⟩=some (.slice la ys.length lc):=h.cellP bf 1 rfl;have Ei:=uQ (show L.appends M (aO.copyS P gs (P.aF.drop 0))=Q/\L.Ok/\M.Ok K/\K+4*(aO.copyS P gs (P.aF.drop 0)).length+6<=1099511627776 by rw [apN];exact ⟨hQ,hL,hM,hK⟩);clear hS hP hH hdl hL hM hK hQ hR;go_enter func35,ntmps35;go_wp2_with fail;clear e1
 go_loopg [18] ys.length (λg iq wr=>∃ (i K1:Nat) (L1:Seg.Log) (M1:ay),g=ys.length-i/\i<=ys.length/\iq=.int .i64 i/\(L1.appends M1 (aO.copyS P gs (P.aF.drop i))=Q/\L1.Ok/\M1.Ok K1/\K1+4*(aO.copyS P gs (P.aF.drop i)).length+6<=1099511627776)/\Sat w0 wr (fA gb gs::dL q N (.slice la ys.length lc) kp ip gb::aC 146 3 (.slice la ys.length lc) (ys.flatMap eP)::dG kp mm B::dK bg::aH ip mi Bi::fC zs::aK p m L1::aJ m M1::F))
 case atStart=>exact ⟨0,K,L,M,rfl,aea _,rfl,Ei.o,h⟩
 case round=>
  obtain ⟨i,K1,L1,M1,rfl,hi,rfl,hin,hS⟩:=hrel;clear h Ei;by_cases hil:i<ys.length;rotate_left
  focus
   obtain rfl:i=ys.length:=by omega
   have c1:¬ (ys.length:Int)<(ys.length:Int):=oQ;have hal:P.aF.drop ys.length=[]:=by rw [HS.o.aF];exact aew (by rw [aa4];exact abl _)
   rw [hal]at hin;obtain ⟨i1,i2,i3,i4⟩:=hin;have hQ:Q=((L1,M1),0):=i1.symm;have hcm:=JR (Ro.os HH.o) i2 i3 (adt (Nat.add_le_add_right (Nat.le_add_right _ _) 6) i4) (hS.sb:Sat w0 wr (aK p m L1::aJ m M1::fA gb gs::dL q N (.slice la ys.length lc) kp ip gb::aC 146 3 (.slice la ys.length lc) (ys.flatMap eP)::dG kp mm B::dK bg::aH ip mi Bi::fC zs::F));have hfin:R=((L1.commit M1).1,(L1.commit M1).2.2):=by rw [Ia.o,hQ];rfl
   generalize L1.commit M1=z at *
   obtain ⟨⟨L2,M2⟩,n2,e2⟩:=z;dsimp only at hcm hfin;have bH:=uQ hfin;clear hi hil hal i1 i2 i3 i4 hQ hfin Ia hS;go_wp2_with fail;refine hcm.mono ?_;rintro ee w2 ⟨v,rfl,rfl,h2⟩;clear hcm;have iw:=uQ (h2.sb:Sat w0 w2 (fA gb gs::dL q N (.slice la ys.length lc) kp ip gb::aC 146 3 (.slice la ys.length lc) (ys.flatMap eP)::dG kp mm B::dK bg::aH ip mi Bi::fC zs::aK p m L2::aJ m M2::F));clear h2;go_wp2_with fail;go_ret;rw [bH.o];exact ⟨_,rfl,rfl,iw.o⟩
  have c1:(i:Int)<(ys.length:Int):=oQ;have hwi:IntKind.i64.wrap ((i:Int)+1)=(i:Int)+1:=adr _ yM0;obtain ⟨y,hy⟩:∃ y,ys[i]?=some y:=⟨_,aay hil⟩;have hym:=abA hy;have Zo:P.aF.drop i=(y.1,kC y)::P.aF.drop (i+1):=by
   have h1:P.aF[i]?=some (y.1,kC y):=by rw [HS.o.aF,adW,hy];rfl
   obtain ⟨h2,h3⟩:=abm.1 h1;rw [ah3 h2,h3]
  rw [Zo,aO.Xc]at hin;obtain ⟨bk,off,c2,e2,hcell0⟩:=jd (f:=eP) (k:=3) (λy _=>AZ y) (Sat.rd (hS.pk (A:=aC 146 3 (.slice la ys.length lc) (ys.flatMap eP)))) hy aN;cases e2;have kH:=uQ hil;have Np:=uQ (HS.o.fit y hym);have ED:=uQ (HS.o.mem y hym);have IK:=uQ (HDl.o y hym);obtain ⟨_,fa,fc,hyl⟩:=HS.o.ok y hym;obtain ⟨s,fs,sv⟩:=y;dsimp only at hyl;subst hyl;have hcell:wr.rangeAt bk (off+i*3) [.int .i64 s,.slice fa fs.length fc,.int .i64 (aO.pay (kC (s,fs,.slice fa fs.length fc)))]:=hcell0;clear hcell0;generalize aO.pay (kC (s,fs,.slice fa fs.length fc))=py at hcell;rw [show kC (s,fs,Value.slice fa fs.length fc)=fs.map (·.1) from rfl]at hin;dsimp only at hin IK;obtain ⟨T,hT⟩:∃ T,aO.copyS P gs (P.aF.drop (i+1))=T:=⟨_,rfl⟩;rw [hT]at hin;have HT:=uQ hT;have aB:=uQ hin;clear hy hym hi hil Zo hin hT
  go_wp2_with (first
   |((with_reducible refine bP ⟨?_⟩);refine iR (b:=bk) (o:=off+i*3) [.int .i64 s,.slice fa fs.length fc,.int .i64 py] ah hcell underlying146 rfl au ?_)
   |(with_reducible apply fB))
  refine ⟨eF MI hS rfl ?_⟩;intro b7 w7 h7;clear hcell hS;go_wp2_with ((with_reducible refine dh ⟨?_⟩);refine fP #[.int .i64 s,.slice fa fs.length fc,.int .i64 py] h7 ah ah ah cZ au ah ?_;intro w8 h8);have h9:=h8.drew;clear h7 h8;have hlk:=Ju s (h9.sb:Sat w0 _ (fA gb gs::pt b7 (.cells #[.int .i64 s,.slice fa fs.length fc,.int .i64 py] 146 (0,0))::dL q N (.slice (some ⟨bk,off,none⟩) ys.length lc) kp ip gb::aC 146 3 (.slice (some ⟨bk,off,none⟩) ys.length lc) (ys.flatMap eP)::dG kp mm B::dK bg::aH ip mi Bi::fC zs::aK p m L1::aJ m M1::F));have e4:World.cell? _ ⟨q,4,none⟩=some (.map (some gb)):=h9.cellP (aS (aS aU)) 4 rfl;have e0:World.cell? _ ⟨b7,0,none⟩=some (.int .i64 s):=h9.cellP aU 0 rfl;by_cases hc:gs.contains s=true;rotate_left
  focus
   rw [abj hc]at hlk
   have Iu:=uQ (show L1.appends M1 T=Q/\L1.Ok/\M1.Ok K1/\K1+4*T.length+6<=1099511627776 by
    have h1:=aB.o;rw [abj hc,aeu]at h1;exact h1)
   clear hc aB;have hG:World.cell? _ ⟨q,4,none⟩=some (.map (some gb))/\World.cell? _ ⟨b7,0,none⟩=some (.int .i64 s)/\(Instr.lookup 142 (.map (some gb)) (.int .i64 s) false).run prog _=.ok (.int .i64 0) _:=⟨e4,e0,hlk⟩;refine dN [7] (λw'=>w'.cell? ⟨q,4,none⟩=some (.map (some gb))/\w'.cell? ⟨b7,0,none⟩=some (.int .i64 s)/\(Instr.lookup 142 (.map (some gb)) (.int .i64 s) false).run prog w'=.ok (.int .i64 0) w') au ?_;refine rP 0 ?_ (y:=aZ);refine rP 1 ?_ (y:=dW);refine rP 2 ?_ (y:=bY);refine rt 3 (h:=?_);refine rP 4 ?_ (y:=bY);refine rt 5 (h:=?_);refine rt 6 (h:=?_);clear hG;refine rP 7 ?_ (y:=jH);refine dH au ?_;have iw:=uQ (h9.drop);clear h9;go_wp2_with fail
   go_roundg (ys.length-(i+1))
   case measure=>have:=kH.o;omega
   case rel=>exact ⟨i+1,K1,L1,M1,rfl,aec kH.o,by first|rfl|go_num,by rw [HT.o];exact Iu.o,iw.o⟩
  rw [acg hc]at hlk
  have Iu:=uQ (show L1.appends M1 (((((fs.drop 0).map (·.1)).filter λf=>aO.counts P gs s f).map (·.e))++T)=Q/\L1.Ok/\M1.Ok K1/\K1+4*(((((fs.drop 0).map (·.1)).filter λf=>aO.counts P gs s f).map (·.e))++T).length+6<=1099511627776 by
   have h1:=aB.o;rw [acg hc]at h1;rw [apN];exact h1)
  clear hc aB;have hG:World.cell? _ ⟨q,4,none⟩=some (.map (some gb))/\World.cell? _ ⟨b7,0,none⟩=some (.int .i64 s)/\(Instr.lookup 142 (.map (some gb)) (.int .i64 s) false).run prog _=.ok (.int .i64 1) _:=⟨e4,e0,hlk⟩;refine dN [7] (λw'=>w'.cell? ⟨q,4,none⟩=some (.map (some gb))/\w'.cell? ⟨b7,0,none⟩=some (.int .i64 s)/\(Instr.lookup 142 (.map (some gb)) (.int .i64 s) false).run prog w'=.ok (.int .i64 1) w') au ?_;refine rP 0 ?_ (y:=aZ);refine rP 1 ?_ (y:=dW);refine rP 2 ?_ (y:=bY);refine rt 3 (h:=?_);refine rP 4 ?_ (y:=bY);refine rt 5 (h:=?_);refine rt 6 (h:=?_);clear hG;refine rP 7 ?_ (y:=jH);refine dH au ?_;clear hlk e4 e0;have e1:World.cell? _ ⟨b7,1,none⟩=some (.slice fa fs.length fc):=h9.cellP aU 1 rfl;have sV:=uQ Np.o.len
  obtain ⟨G,HG⟩:∃ G,Hid (G=fA gb gs::dL q N (.slice (some ⟨bk,off,none⟩) ys.length lc) kp ip gb::aC 146 3 (.slice (some ⟨bk,off,none⟩) ys.length lc) (ys.flatMap eP)::dG kp mm B::dK bg::aH ip mi Bi::fC zs::F):=⟨_,uQ rfl⟩;have hA:=(h9.sb:Sat w0 _ (pt b7 (.cells #[.int .i64 s,.slice fa fs.length fc,.int .i64 py] 146 (0,0))::fA gb gs::dL q N (.slice (some ⟨bk,off,none⟩) ys.length lc) kp ip gb::dG kp mm B::dK bg::aH ip mi Bi::fC zs::aC 146 3 (.slice (some ⟨bk,off,none⟩) ys.length lc) (ys.flatMap eP)::aK p m L1::aJ m M1::F));clear h9 HG;go_wp2_with fail;clear e1
  go_loopg [33] fs.length (λg jq wr=>∃ (j K2:Nat) (L2:Seg.Log) (M2:ay),g=fs.length-j/\j<=fs.length/\jq=.int .i64 j/\(L2.appends M2 (((((fs.drop j).map (·.1)).filter λf=>aO.counts P gs s f).map (·.e))++T)=Q/\L2.Ok/\M2.Ok K2/\K2+4*(((((fs.drop j).map (·.1)).filter λf=>aO.counts P gs s f).map (·.e))++T).length+6<=1099511627776)/\Sat w0 wr (pt b7 (.cells #[.int .i64 s,.slice fa fs.length fc,.int .i64 py] 146 (0,0))::fA gb gs::dL q N (.slice (some ⟨bk,off,none⟩) ys.length lc) kp ip gb::dG kp mm B::dK bg::aH ip mi Bi::fC zs::aC 146 3 (.slice (some ⟨bk,off,none⟩) ys.length lc) (ys.flatMap eP)::aK p m L2::aJ m M2::F))
  case atStart=>exact ⟨0,K1,L1,M1,rfl,aea _,rfl,Iu.o,hA⟩
  case round=>
   obtain ⟨j,K2,L2,M2,rfl,hj,rfl,hin,hS⟩:=hrel;clear hA Iu;by_cases hjl:j<fs.length;rotate_left
   focus
    obtain rfl:j=fs.length:=by omega
    have d1:¬ (fs.length:Int)<(fs.length:Int):=oQ
    have Hi3:=uQ (show L2.appends M2 T=Q/\L2.Ok/\M2.Ok K2/\K2+4*T.length+6<=1099511627776 by
     rw [apH]at hin;exact hin)
    have iw:=uQ (hS.sb:Sat w0 wr (fA gb gs::dL q N (.slice (some ⟨bk,off,none⟩) ys.length lc) kp ip gb::aC 146 3 (.slice (some ⟨bk,off,none⟩) ys.length lc) (ys.flatMap eP)::dG kp mm B::dK bg::aH ip mi Bi::fC zs::aK p m L2::aJ m M2::F));clear hin hS hj hjl;go_wp2_with fail
    go_roundg (ys.length-(i+1))
    case measure=>have:=kH.o;omega
    case rel=>exact ⟨i+1,K2,L2,M2,rfl,aec kH.o,by first|rfl|go_num,by rw [HT.o];exact Hi3.o,iw.o⟩
   have d1:(j:Int)<(fs.length:Int):=oQ;have CP:IntKind.i64.wrap ((j:Int)+1)=(j:Int)+1:=adr _ (by have:=sV.o;omega);obtain ⟨⟨f,dv⟩,hq⟩:∃ q,fs[j]?=some q:=⟨_,aay hjl⟩;have hfm:=abA hq;have qh:f.e.key.length=32:=Np.o.key _ hfm;have hrd:Ro w0 (fC zs::F) (bF 1 dv (aA f.e.data)):=λw' hw=>by
    obtain ⟨a,n,c,e,_,h1⟩:=Ox ED.o hfm hw;exact h1
   obtain ⟨da,dn,dc,rfl,hdn,_⟩:=Ox ED.o hfm (hS.pk (A:=fC zs));subst hdn;have NJ:=uQ hrd;have U4:=uQ (IK.o _ hfm);dsimp only at U4;obtain ⟨bk2,off2,cc2,e2,hcell⟩:=jd (f:=λq:aj.dD×Value=>nT q.1 q.2) (k:=36) (λq hq=>tK q.1 q.2 (Np.o.key q hq)) (WE ED.o (hS.pk (A:=fC zs))) hq aN;cases e2;have Aj:(nT f (.slice da f.e.data.length dc)).length=36:=tK _ _ qh;have hfd:fs.drop j=(f,Value.slice da f.e.data.length dc)::fs.drop (j+1):=by
    obtain ⟨h2,h3⟩:=abm.1 hq;rw [ah3 h2,h3]
   rw [hfd,ad7,ajL]at hin;dsimp only at hin;have kK:=uQ hjl;have lG:=uQ qh;have aB:=uQ hin;clear hq hfm qh hj hjl hin hfd hrd
   go_wp2_with (first
    |((with_reducible refine bP ⟨?_⟩);refine iR (b:=bk2) (o:=off2+j*36) (nT f (.slice da f.e.data.length dc)) ah hcell underlying54 rfl (by rw [Aj];kernel_rfl) ?_)
    |(with_reducible apply fB))
   refine ⟨eF G5 hS rfl ?_⟩;intro b9 w9 h9;clear hcell hS;go_wp2_with (with_reducible apply dh);refine ⟨fP (gV f (.slice da f.e.data.length dc)) h9 ah ah (by rw [pq _ _ lG.o];rfl) cZ yO0 (EW _ _ _ _) ?_⟩;intro w10 h10;clear h9;have e0:w10.cell? ⟨b7,0,none⟩=some (.int .i64 s):=h10.cellP bf 0 rfl;go_wp2_with ((with_reducible refine bP ⟨?_⟩);refine iQ (cs:=gV f (.slice da f.e.data.length dc)) h10 ah aU underlying54 rfl yO0 ?_)
   refine (WT (s:=s) (f:=f) lG.o HP.o.b1 HP.o.b2 HP.o.key HP.o.len HP.o.idx (h10.sb:Sat w0 w10 (fA gb gs::dL q N (.slice (some ⟨bk,off,none⟩) ys.length lc) kp ip gb::dG kp mm B::dK bg::aH ip mi Bi::pt b9 (.cells (gV f (.slice da f.e.data.length dc)) 54 (0,0))::pt b7 (.cells #[.int .i64 s,.slice (some ⟨bk2,off2,none⟩) fs.length fc,.int .i64 py] 146 (0,0))::fC zs::aC 146 3 (.slice (some ⟨bk,off,none⟩) ys.length lc) (ys.flatMap eP)::aK p m L2::aJ m M2::F))).mono ?_;rintro ee iH ⟨v,rfl,rfl,h11⟩;clear h10 e0;obtain ⟨z,hz⟩:∃ z,aO.counts P gs s f=z:=⟨_,rfl⟩;rw [hz]at aB ⊢;clear hz;rcases z with _|_
   focus
    have iw:=uQ (h11.sb:Sat w0 iH (pt b7 (.cells #[.int .i64 s,.slice (some ⟨bk2,off2,none⟩) fs.length fc,.int .i64 py] 146 (0,0))::fA gb gs::dL q N (.slice (some ⟨bk,off,none⟩) ys.length lc) kp ip gb::dG kp mm B::dK bg::aH ip mi Bi::fC zs::aC 146 3 (.slice (some ⟨bk,off,none⟩) ys.length lc) (ys.flatMap eP)::aK p m L2::aJ m M2::F));clear h11;go_wp2_with fail
    go_roundg (fs.length-(j+1))
    case measure=>have:=kK.o;omega
    case rel=>exact ⟨j+1,K2,L2,M2,rfl,aec kK.o,by first|rfl|go_num,aB.o,iw.o⟩
   obtain ⟨i1,i2,i3,i4⟩:=aB.o;rw [acg rfl,ad7,aeI]at i1 i4;rw [aep]at i4;have hap:=CU f.e lG.o da dc (Ro.os NJ.o) (Ro.os HH.o) U4.o i2 i3 oQ (h11.sb:Sat w0 iH (aK p m L2::aJ m M2::pt b9 (.cells (gV f (.slice da f.e.data.length dc)) 54 (0,0))::pt b7 (.cells #[.int .i64 s,.slice (some ⟨bk2,off2,none⟩) fs.length fc,.int .i64 py] 146 (0,0))::fA gb gs::dL q N (.slice (some ⟨bk,off,none⟩) ys.length lc) kp ip gb::dG kp mm B::dK bg::aH ip mi Bi::fC zs::aC 146 3 (.slice (some ⟨bk,off,none⟩) ys.length lc) (ys.flatMap eP)::F))
   have fe:iH.rangeAt b9 0 (lZ f.e (.slice da f.e.data.length dc)):=λk v hk=>h11.cellP (aS (aS (aS (aS (aS aU))))) (0+k) (by
    rw [ad8];unfold gV nT;rw [ace,aej (abm.1 hk).1];exact hk)
   have ru:=uQ (Seg.Log.Ok.append i2 M2 f.e lG.o);have Vr:=uQ (Seg.Log.V9 (L:=L2) i3 f.e);have hun:L2.appends M2 (f.e::((((fs.drop (j+1)).map (·.1)).filter λf=>aO.counts P gs s f).map (·.e)++T))=if (L2.append M2 f.e).2.2=0 then (L2.append M2 f.e).1.1.appends (L2.append M2 f.e).1.2 ((((fs.drop (j+1)).map (·.1)).filter λf=>aO.counts P gs s f).map (·.e)++T) else ((L2.append M2 f.e).1,(L2.append M2 f.e).2.2):=rfl
   rw [hun]at i1;clear hun i2 i3 aB;generalize L2.append M2 f.e=z at *
   obtain ⟨⟨L3,M3⟩,pl,e3⟩:=z;dsimp only at hap i1 ru Vr;have HI1:=uQ i1;have HI4:=uQ i4;clear h11 i1 i4;go_wp2_with ((with_reducible refine bP ⟨?_⟩);refine iR (b:=b9) (o:=0) (lZ f.e (.slice da f.e.data.length dc)) ah fe underlying52 rfl (by rw [OY _ _ lG.o];exact CQ) ?_);refine hap.mono ?_;rintro ee w12 ⟨v,rfl,rfl,h12⟩;clear hap fe;go_wp2_with (with_reducible apply fB);refine ⟨eF ou h12 rfl ?_⟩;intro b13 jM h13;clear h12;go_wp2_with (with_reducible apply dh);refine ⟨fP (aW pl).toArray h13 ah ah ah cZ au ah ?_⟩;intro kT iM;clear h13;by_cases he:e3=0;rotate_left
   focus
    have hb:(e3 != 0)=true:=afZ.2 he;have hfin:R=((L3,M3),e3):=by
     have h1:=HI1.o;rw [abj he]at h1;rw [Ia.o,<-h1,abj he]
    have bH:=uQ hfin;have iw:=uQ (iM.sb:Sat w0 kT (fA gb gs::dL q N (.slice (some ⟨bk,off,none⟩) ys.length lc) kp ip gb::aC 146 3 (.slice (some ⟨bk,off,none⟩) ys.length lc) (ys.flatMap eP)::dG kp mm B::dK bg::aH ip mi Bi::fC zs::aK p m L3::aJ m M3::F));clear iM he hfin Ia HI1;go_wp2_with fail;go_ret;rw [bH.o];exact ⟨_,rfl,rfl,iw.o⟩
   have hb:(e3 != 0)=false:=by rw [he];rfl
   have Hi5:=uQ (show L3.appends M3 ((((fs.drop (j+1)).map (·.1)).filter λf=>aO.counts P gs s f).map (·.e)++T)=Q/\L3.Ok/\M3.Ok (K2+4)/\K2+4+4*((((fs.drop (j+1)).map (·.1)).filter λf=>aO.counts P gs s f).map (·.e)++T).length+6<=1099511627776 by
    have h1:=HI1.o;rw [acg he]at h1;exact ⟨h1,ru.o,Vr.o,by have:=HI4.o;omega⟩)
   have iw:=uQ (iM.sb:Sat w0 kT (pt b7 (.cells #[.int .i64 s,.slice (some ⟨bk2,off2,none⟩) fs.length fc,.int .i64 py] 146 (0,0))::fA gb gs::dL q N (.slice (some ⟨bk,off,none⟩) ys.length lc) kp ip gb::dG kp mm B::dK bg::aH ip mi Bi::fC zs::aC 146 3 (.slice (some ⟨bk,off,none⟩) ys.length lc) (ys.flatMap eP)::aK p m L3::aJ m M3::F));clear iM he HI1;go_wp2_with fail
   go_roundg (fs.length-(j+1))
   case measure=>have:=kK.o;omega
   case rel=>exact ⟨j+1,K2+4,L3,M3,rfl,aec kK.o,by first|rfl|go_num,Hi5.o,iw.o⟩
theorem al2 (h:Sat w0 w (aY r m seg p ps pn d::F)):Calls prog 41 #[ptr r] w (aP λv w'=>v=ptr m/\w=w'):=by
 have e0:w.cell? ⟨r,0,none⟩=some (.pointer (some ⟨m,0,none⟩)):=h.cellAt 0 _ rfl;have hok:=nZ h;clear h;go_enter func41,ntmps41;go_wp2_with fail;refine hok.mono ?_;rintro ee w1 ⟨v,rfl,rfl,rfl⟩;go_wp2_with fail;go_ret;exact ⟨_,rfl,rfl,rfl⟩
theorem alB (hR:Seg.gI K r0 E B n L M D) (hn:n<=1000) (hK:K<=1048576) (he:Seg.sU D) (hh:Seg.HN M N) (h0 : -1<=N) (hl:N<Seg.dV D) (h1:128<=limit) (h2:limit<=1048576) (hH:Ro w0 F Half) (h:Sat w0 w (aJ m M::aY r m limit p ps pn d::F)) :
  Calls prog 39 #[ptr r] w (aP λv w'=>∃ (p ps pi pn:Nat) (uv:Value) (x:List (aj.Bs×Rep.dY)×Nat),v=errno 0/\(Tab.Lists (Rep.ledger (Seg.bZ D)) x.1/\(∀ q∈x.1,q.1.length=32)/\x.2<=n/\x.1.length<=n) /\
   Sat w0 w' (aY r m limit p ps pn false::cO ps (Seg.dV D) pi uv (.slice none 0 0)::aH pn (Tab.mapOf (Rep.puts x.1)) x.2::aH pi (Tab.mapOf (Rep.puts x.1)) x.2::aC 45 3 uv (((Seg.jA D).map (Rep.upd x.1)).flatMap bG)::aK p m (Seg.fresh M limit)::aJ m M::F)):=by
 have Hop:=uQ (λ(w':World) (R:List aG) (hr:Ro w0 R Half) (hw:Sat w0 w' (aJ m M::R))=>alD (limit:=limit) hR hn hK he hh h0 hl h1 h2 hr hw);have HH:=uQ hH;have hok:=nZ (h.sb:Sat w0 w (aY r m limit p ps pn d::aJ m M::F));clear hR hn hK he hh h0 hl h1 h2 hH;go_enter func39,ntmps39;go_wp2_with fail;refine hok.mono ?_;rintro ee w1 ⟨v,rfl,rfl,rfl⟩;clear hok;go_wp2_with fail;have h3:=h.drew;clear h;refine dN [8,9,10,11,12,14,15,16] (λw'=>w'.cell? ⟨r,0,none⟩=some (.pointer (some ⟨m,0,none⟩))/\w'.cell? ⟨r,1,none⟩=some (.int .i64 limit)) au ?_;have hG:World.cell? _ ⟨r,0,none⟩=some (.pointer (some ⟨m,0,none⟩))/\World.cell? _ ⟨r,1,none⟩=some (.int .i64 limit):=⟨h3.cellP bf 0 rfl,h3.cellP bf 1 rfl⟩;refine rP 0 ?_ (y:=aZ);refine rP 1 ?_ (y:=dW);refine rP 2 ?_ (y:=bY);refine rt 3 (h:=?_);refine rP 4 ?_ (y:=aZ);refine rP 5 ?_ (y:=dW)
 refine rP 6 ?_ (y:=bY);refine rt 7 (h:=?_);clear hG;refine sO 8 13 ak ak au (λK hK=>?_) (λK hK=>?_)
 focus
  (refine iC au ak ak ?_)
  refine (Hop.o _ _ (Ro.os HH.o) h3).mono ?_;rintro ee w4 ⟨v,rfl,r2,p2,ps2,pi,xg,uv,x,rfl,hx,h4⟩;have Hx:=uQ hx;refine hK _ _ (.inl rfl) ?_;clear hK h3 hx;refine rP 9 ?_ (y:=aZ);refine rP 10 ?_ (y:=(iF ak dw));refine rP 11 ?_ (y:=(iF ak dw));refine rP 12 ?_ (y:=(iF ak dw));refine bW 13 ak au (λK hK=>?_);refine nH (nO) h4 rfl ?_;intro b5 w5 h5;refine hK _ _ (.inr (.inl ⟨h5.cellP (aS (aS (aS (aS (aS (aS (aS (aS aU)))))))) 0 rfl,h5.cellP (aS (aS (aS (aS (aS (aS (aS (aS aU)))))))) 1 rfl⟩)) ?_;clear hK h4;refine rP 14 ?_ (y:=iy)
 rotate_left
 focus
  refine nH (nO) h3 rfl ?_;intro b5 w4 h4;refine hK _ _ (.inr (.inl ⟨h4.cellP eH 0 rfl,h4.cellP eH 1 rfl⟩)) ?_;clear hK h3;refine bW 8 ak au (λK hK=>?_)
  (refine iC au ak ak ?_)
  refine (Hop.o _ _ (Ro.os HH.o) (h4.sb:Sat w0 w4 (aJ m M::pt b5 (.cells (dP Rep.dJ.zero) 63 (0,0))::aY r m limit p ps pn d::F))).mono ?_;rintro ee w5 ⟨v,rfl,r2,p2,ps2,pi,xg,uv,x,rfl,hx,h5'⟩;have Hx:=uQ hx;refine hK _ _ (.inl rfl) ?_;clear hK h4 hx;have h5:Sat w0 w5 (pt b5 (.cells (dP Rep.dJ.zero) 63 (0,0))::aY r2 m limit p2 ps2 xg false::cO ps2 (Seg.dV D) pi uv (.slice none 0 0)::aH xg (Tab.mapOf (Rep.puts x.1)) x.2::aH pi (Tab.mapOf (Rep.puts x.1)) x.2::aC 45 3 uv (((Seg.jA D).map (Rep.upd x.1)).flatMap bG)::aK p2 m (Seg.fresh M limit)::aJ m M::aY r m limit p ps pn d::F):=h5'.sb;clear h5';refine rP 9 ?_ (y:=aZ);refine rP 10 ?_ (y:=(iF ak dw));refine rP 11 ?_ (y:=(iF ak dw));refine rP 12 ?_ (y:=(iF ak dw));refine rP 14 ?_ (y:=iy)
 all_goals
  refine bW 15 ak au (λK hK=>?_);refine kQ (cs':=dP Rep.dJ.zero) h5 ak ak ah cZ bI au ah ?_;intro w6 h6;refine hK _ _ (.inl rfl) ?_;clear hK h5;refine rP 16 ?_ (y:=iy);refine dH au ?_
  go_wp2_with (first
   |((with_reducible refine bP ⟨?_⟩);refine iQ (cs:=#[ptr m,.int .i64 limit,ptr p2,ptr ps2,ptr xg,.bool false]) h6 ah bf underlying91 rfl au ?_)
   |(with_reducible apply dh))
  refine ⟨fP #[ptr m,.int .i64 limit,ptr p2,ptr ps2,ptr xg,.bool false] (h6.sb:Sat w0 w6 (aY r m limit p ps pn d::cO ps2 (Seg.dV D) pi uv (.slice none 0 0)::aH xg (Tab.mapOf (Rep.puts x.1)) x.2::aH pi (Tab.mapOf (Rep.puts x.1)) x.2::aC 45 3 uv (((Seg.jA D).map (Rep.upd x.1)).flatMap bG)::aK p2 m (Seg.fresh M limit)::aJ m M::F)) ah ah ah cZ au ah ?_⟩;intro w7 h7;clear h6;have iw:=uQ (show Sat w0 w7 (aY r m limit p2 ps2 xg false::cO ps2 (Seg.dV D) pi uv (.slice none 0 0)::aH xg (Tab.mapOf (Rep.puts x.1)) x.2::aH pi (Tab.mapOf (Rep.puts x.1)) x.2::aC 45 3 uv (((Seg.jA D).map (Rep.upd x.1)).flatMap bG)::aK p2 m (Seg.fresh M limit)::aJ m M::F) from h7);clear h7;go_wp2_with fail;go_ret;exact ⟨_,rfl,p2,ps2,pi,xg,uv,x,rfl,Hx.o,iw.o⟩
def VR (w0:World) (r m:Nat) (seg:Int) (D:List (Nat×List aj.aI)) (F:List aG) (w:World):Prop:=
 ∃ (ps p pn B K r0 E B0 n:Nat) (L:Seg.Log) (M:ay),(Seg.HD K r0 E B0 n L M D/\B<=200)/\Sat w0 w (aY r m seg p ps pn false::aH pn (Rep.dO (Seg.bZ D)) B::aK p m L::aJ m M::F)
theorem tu.mono {K' E' n':Nat} (h:tu w0 r m seg K r0 E n D F w) (h1:K<=K') (h2:E<=E') (h3:n<=n'):tu w0 r m seg K' r0 E' n' D F w:=by
 obtain ⟨ps,p,pn,pi,B,B2,B0,uv,tv,N,us,L,M,⟨hC,hb,hb2⟩,hS⟩:=h;exact ⟨ps,p,pn,pi,B,B2,B0,uv,tv,N,us,L,M,⟨⟨hC.rp.mono h1 h2 (abl _) h3,hC.off,hC.fresh,hC.ext.mono h3 h2⟩,adt hb h3,adt hb2 h3⟩,hS⟩
theorem amS {ys zs:List Sg}{P:aO.Plan} (hS:xR P ys zs) (hP:P.aF=aO.gX D){L:Seg.Log}{M:ay}{B0:Nat} (hR:Seg.gI K r0 E B0 n L M D) (hn5:n<=500):∀ y∈ys,∀ q∈y.2.1,q.1.e.data.length<=1099511627:=λy hy q hq=>by
 have h1:(y.1,kC y)∈aO.gX D:=by rw [<-hP,hS.aF];exact abL.2 ⟨y,hy,rfl⟩
 obtain ⟨d,hd,e⟩:=abL.1 h1;have h2:q.1∈aj.dI d.2 8:=by
  have:kC y=aj.dI d.2 8:=(aey Prod.snd e).symm;rw [<-this];exact abL.2 ⟨q,hq,rfl⟩
 have h3:=hR.thin hn5 q.1.e (by
  rw [<-Seg.qo];exact abL.2 ⟨_,aO.ahw hd h2,rfl⟩)
 omega
theorem agu (hpc:0<=pc/\pc<=100) (h1:128<=seg) (h2:seg<=1048576) (hn2:n<=200) (hn:2*n+E<470) (hK:K<=500000) (hH:Ro w0 F Half) (h:tu w0 r m seg K r0 E n D F w) :
  Calls prog 10 #[ptr r,.int .i64 pc] w (aP λv w'=>
   (∃ (gv:Value) (D1:List (Nat×List aj.aI)),v=.tuple #[gv,errno 0]/\(Rep.jw (Seg.fO D1)=Rep.jw (Seg.fO D)/\aO.Rnd pc D D1)/\tu w0 r m seg (K+5*n+700) r0 (E+2) (2*n+1) D1 F w') \/
   (v=.tuple #[.slice none 0 0,errno 11]/\r0<(2*n+1)*400+E*(20+28*n)/\VR w0 r m seg D F w')):=by
 obtain ⟨ps,p,pn,pi,B,B2,B0,uv,tv,N,us,L,M,⟨hC,hb,hb2⟩,hS⟩:=h;have hpl:=Xh hpc hC.rp oQ hC.st.uses (by omega:B2<=13000000) (Ro.os hH) (hS.sb:Sat w0 w (aY r m seg p ps pn false::cO ps N pi uv tv::aH pi (Rep.dO (Seg.bZ D)) B2::aC 45 3 uv (us.flatMap bG)::aK p m L::aJ m M::aH pn (Rep.dO (Seg.bZ D)) B::F));have HC:=uQ hC;have xM:=uQ hpc;have Hn:=uQ hn;have qY:=uQ hn2;have HK:=uQ hK;have HH:=uQ hH;have Hl:=uQ (And.intro h1 h2);have Hb:=uQ hb;have Hb2:=uQ hb2;have HS:=uQ hS;clear hC hpc hn hn2 hK hH h1 h2 hb hb2 hS;go_enter func10,ntmps10;go_wp2_with fail;refine hpl.mono ?_;rintro ee w1 ⟨v,rfl,b,kp,ip,gb,Bk,lv,mm,bg,ys,zs,rfl,hP,PD,h1⟩;clear hpl;generalize YM:uy N (Rep.dO (Seg.bZ D)) D=P at *
 have BG:=uQ (show P=aO.Dk N D from YM.symm);have Pz:P.aF=aO.gX D:=by rw [BG.o];rfl
 clear YM;obtain ⟨gs,hgs⟩:∃ gs,gs=aO.chosen P pc:=⟨_,rfl⟩;rw [<-hgs]at h1;have Nr:=uQ hgs;obtain ⟨G,hG⟩:∃ G,G=aO.kU gs (aO.gX D):=⟨_,rfl⟩;have hgo:=WU PD (h1.sb:Sat w0 w1 (fA gb gs::dL b N lv kp ip gb::aC 146 3 lv (ys.flatMap eP)::dG kp mm Bk::dK bg::aH ip (Rep.dO (Seg.bZ D)) B2::fC zs::aY r m seg p ps pn false::cO ps N pi uv tv::aH pi (Rep.dO (Seg.bZ D)) B2::aC 45 3 uv (us.flatMap bG)::aK p m L::aJ m M::aH pn (Rep.dO (Seg.bZ D)) B::F));rw [Pz,<-hG]at hgo;have HG:=uQ hG;have MP:=uQ Pz;have HP:=uQ hP;have Ib:=uQ PD;clear h1 hG hgs Pz hP PD;go_wp2_with fail;refine hgo.mono ?_;rintro ee w2 ⟨v,rfl,h2⟩;clear hgo;obtain ⟨va,vc,rfl⟩:=FI (Sat.rd h2);by_cases hg:G=[]
 focus
  have hbz:((G.length:Int)==0)=true:=by rw [hg];rfl
  have hne:aO.Rnd pc D D:=⟨⟨_,_,_,_,_,_,_,HC.o.rp⟩,.inl ⟨rfl,by
   rw [<-HC.o.st.last,<-BG.o,<-Nr.o,<-HG.o];exact hg⟩⟩
  have qZ:=uQ hne;have bH:=uQ (show tu w0 r m seg K r0 E n D F w2 from ⟨ps,p,pn,pi,B,B2,B0,uv,tv,N,us,L,M,⟨HC.o,Hb.o,Hb2.o⟩,h2.sb⟩);clear h2 hne hg HS HG MP HP Ib Nr BG;go_wp2_with fail
  go_ret2
  exact ⟨_,rfl,.inl ⟨_,D,rfl,⟨rfl,qZ.o⟩,bH.o.mono oQ oQ oQ⟩⟩
 have hbz:((G.length:Int)==0)=false:=by
  rw [adX];have:=apO.2 hg;omega
 have Hg:=uQ hg;have Zc:=SL (h2.sb:Sat w0 w2 (aY r m seg p ps pn false::F));clear hg;go_wp2_with fail;refine Zc.mono ?_;rintro ee w3 ⟨v,rfl,rfl,rfl⟩;clear Zc hbz;obtain ⟨xs,hxs⟩:∃ xs,xs=aO.copyS P gs P.aF:=⟨_,rfl⟩;have hxc:xs=(aO.copy P gs (Seg.bZ D)).map (·.2.e):=by rw [hxs,MP.o,aO.Xd]
 have hxl:xs.length<=n:=by rw [hxc];exact Seg.Xe HC.o.rp
 have mX:=HC.o.ran (P:=P) (gs:=gs) (xs:=xs) (λk=>by rw [BG.o];rfl) (by rw [BG.o,<-aO.ab9];rfl) hxc yH0;have hcp:=af2 Ib.o HP.o HC.o.rp.hd.keeps.log HC.o.rp.hd.keeps.calm.ok (by rw [<-hxs];have:=HK.o;have:=Hn.o;omega) (amS Ib.o MP.o HC.o.rp yH0) (Ro.os HH.o) (h2.sb:Sat w0 w2 (fA gb gs::dL b N lv kp ip gb::aC 146 3 lv (ys.flatMap eP)::dG kp mm Bk::dK bg::aH ip (Rep.dO (Seg.bZ D)) B2::fC zs::aK p m L::aJ m M::aC 3 1 (.slice va G.length vc) (ints G)::aY r m seg p ps pn false::aH pn (Rep.dO (Seg.bZ D)) B::F));rw [<-hxs]at hcp;rw [<-HG.o]at mX;have Hxc:=uQ hxc;generalize L.copied M xs=z at *
 obtain ⟨⟨L2,M2⟩,e2⟩:=z;dsimp only at mX hcp;obtain ⟨⟨N2,hd2⟩,mX⟩:=mX;have HL2:=uQ hd2.keeps.log;have uN:=uQ hd2.keeps.calm.ok;clear h2 hxs hxc hxl hd2 HS;go_wp2_with fail;refine hcp.mono ?_;rintro ee w4 ⟨v,rfl,rfl,h4'⟩;clear hcp;have h4:Sat w0 w4 (aC 3 1 (.slice va G.length vc) (ints G)::aY r m seg p ps pn false::aK p m L2::aJ m M2::aH pn (Rep.dO (Seg.bZ D)) B::F):=h4'.sb;clear h4';rcases mX with ⟨rfl,hr0,D1,mX⟩|⟨rfl,hrr,hr0,hhd⟩
 rotate_left
 focus
  have hrb:=aam HL2.o uN.o (by have:=HK.o;have:=Hn.o;omega) (h4.sb:Sat w0 w4 (aK p m L2::aJ m M2::aY r m seg p ps pn false::aH pn (Rep.dO (Seg.bZ D)) B::F));rw [hr0]at hrb;generalize L2.rollback M2=z at *
  obtain ⟨⟨L3,M3⟩,e3⟩:=z;dsimp only at hrb hhd;have Hhd:=uQ hhd;have Hrr:=uQ hrr;clear h4 hr0 hhd hrr;go_wp2_with fail;refine hrb.mono ?_;rintro ee w5 ⟨v,rfl,rfl,h5⟩;clear hrb;have bH:=uQ (show VR w0 r m seg D F w5 from ⟨ps,p,pn,B,_,r0,E,B0,_,L3,M3,⟨Hhd.o,by have:=Hb.o;have:=qY.o;omega⟩,h5.sb⟩);clear h5;go_wp2_with fail
  go_ret2
  refine ⟨_,rfl,.inr ⟨rfl,?_,bH.o⟩⟩;have:=Hrr.o;have:=HC.o.used;omega
 obtain ⟨Q,hQ⟩:∃ Q,L2.removes M2 G=Q:=⟨_,rfl⟩;rw [hQ]at hr0 mX;have UU:=uQ hr0;have VE:=uQ mX
 have U9:=uQ (show G.length<=n by
  rw [HG.o];unfold aO.kU;rw [aa4];have h3:=aeT (λx=>gs.contains x.1) (aO.gX D);rw [aO.Lm]at h3;exact adt h3 HC.o.rp.hd.count)
 have h5:Sat w0 w4 (aC 3 1 (.slice va G.length vc) (ints G)::aK p m L2::aJ m M2::aY r m seg p ps pn false::F):=h4.sb;have Ei:=uQ (show L2.removes M2 (G.drop 0)=Q/\L2.Ok/\M2.Ok (K+4*n+5+0) by rw [apN];exact ⟨hQ,HL2.o,uN.o⟩);clear h4 hr0 mX hQ HL2 uN HP Ib;go_wp2_with fail
 go_loopg [47] G.length (λg iq wr=>∃ (i:Nat) (L3:Seg.Log) (M3:ay),g=G.length-i/\i<=G.length/\iq=.int .i64 i/\(L3.removes M3 (G.drop i)=Q/\L3.Ok/\M3.Ok (K+4*n+5+i))/\Sat w0 wr (aC 3 1 (.slice va G.length vc) (ints G)::aK p m L3::aJ m M3::aY r m seg p ps pn false::F))
 case atStart=>exact ⟨0,L2,M2,rfl,aea _,rfl,Ei.o,h5⟩
 case round=>
  obtain ⟨i,L3,M3,rfl,hi,rfl,hin,hS⟩:=hrel;clear h5 Ei;by_cases hil:i<G.length
  focus
   have c1:(i:Int)<(G.length:Int):=oQ;have hwi:IntKind.i64.wrap ((i:Int)+1)=(i:Int)+1:=adr _ (by have:=U9.o;have:=Hn.o;omega);obtain ⟨t,ht⟩:∃ t,G[i]?=some t:=⟨_,aay hil⟩;obtain ⟨bk,off,cc,e,hcell⟩:=tY (Sat.rd hS) ht;cases e;have hdp:G.drop i=t::G.drop (i+1):=by
    obtain ⟨h2,h3⟩:=abm.1 ht;rw [ah3 h2,h3]
   obtain ⟨i1,i2,i3⟩:=hin;rw [hdp]at i1;have hun:L3.removes M3 (t::G.drop (i+1))=if (L3.remove M3 t).2=0 then (L3.remove M3 t).1.1.removes (L3.remove M3 t).1.2 (G.drop (i+1)) else L3.remove M3 t:=rfl
   rw [hun]at i1;have hz:(L3.remove M3 t).2=0:=by
    apply apS;intro q;rw [abj q]at i1;exact q (by rw [i1];exact UU.o)
   rw [acg hz]at i1;have hrm:=Qy i2 i3 (by have:=HK.o;have:=Hn.o;have:=U9.o;omega) t (hS.sb:Sat w0 wr (aK p m L3::aJ m M3::aC 3 1 (.slice (some ⟨bk,off,none⟩) G.length vc) (ints G)::aY r m seg p ps pn false::F));rw [hz]at hrm;have dB:=uQ (i2.remove M3 t);have Vq:=uQ (Seg.KJ (L:=L3) i3 t);generalize L3.remove M3 t=z at *
   obtain ⟨⟨L4,M4⟩,e4⟩:=z;dsimp only at hrm i1 dB Vq;have Hi1:=uQ i1;have kH:=uQ hil;clear hi hil ht hdp hun hz i1 i2 i3 hS;go_wp2_with fail;refine hrm.mono ?_;rintro ee w6 ⟨v,rfl,rfl,h6⟩;clear hrm hcell;have iw:=uQ (h6.sb:Sat w0 w6 (aC 3 1 (.slice (some ⟨bk,off,none⟩) G.length vc) (ints G)::aK p m L4::aJ m M4::aY r m seg p ps pn false::F));clear h6;go_wp2_with fail
   go_roundg (G.length-(i+1))
   case measure=>have:=kH.o;omega
   case rel=>exact ⟨i+1,L4,M4,rfl,aec kH.o,by first|rfl|go_num,⟨Hi1.o,dB.o,Vq.o⟩,iw.o⟩
  obtain rfl:i=G.length:=by omega
  have c1:¬ (G.length:Int)<(G.length:Int):=oQ;rw [apH]at hin;have hQ:Q=((L3,M3),0):=hin.1.symm;have mX:=VE.o;rw [hQ]at mX;dsimp only at mX;obtain ⟨y1,y2,y3⟩:=mX.rp.dir;have hsy:=aan mX.rp.hd.keeps.calm.ok (hS.sb:Sat w0 wr (aK p m L3::aJ m M3::aC 3 1 (.slice va G.length vc) (ints G)::aY r m seg p ps pn false::F));rw [y1]at hsy;have hhn:Seg.HN M3.dR.1 N:=λq hq hm=>mX.hn q (by rw [<-y2];exact hq) hm;have HR:=uQ y3;have Va:=uQ hhn;have bT:=uQ mX.lt;have U7:=uQ mX.ends;have Vu:=uQ mX.obj;have aeA:=uQ mX.new;have HR0:=uQ mX.rp;generalize M3.dR.1=M4 at *
  clear hS hi hil hin hQ mX VE UU y1 y2 y3 hhn;go_wp2_with fail;refine hsy.mono ?_;rintro ee w6 ⟨v,rfl,rfl,h6⟩;clear hsy;have hN1 : -1<=N:=by
   rw [HC.o.st.last];unfold Seg.dV;split <;> omega
  have hre:=alB HR.o yH0 (by have:=HK.o;have:=Hn.o;omega) U7.o Va.o hN1 bT.o Hl.o.1 Hl.o.2 (Ro.os HH.o) (h6.sb:Sat w0 w6 (aJ m M4::aY r m seg p ps pn false::aC 3 1 (.slice va G.length vc) (ints G)::F));clear h6;go_wp2_with fail;refine hre.mono ?_;rintro ee w7 ⟨v,rfl,p5,Gg,F9,Gf,GN,⟨kv,bx⟩,rfl,⟨k1,k2,k3,k4⟩,h7⟩;clear hre;dsimp only at k1 k2 k3 k4 h7;have E8:=HR.o.fresh seg Hl.o.1 Hl.o.2;have hNl:0<=Seg.dV D1/\Seg.dV D1<1048576:=by
   have:=bT.o;have:=HR.o.hd.JZ;have:=Hn.o;omega
  have hho:=E8.hd.hint k1 k2;have hst:Seg.zN D1 (Seg.dV D1) ((Seg.jA D1).map (Rep.upd kv)) (Rep.puts kv):=⟨rfl,⟨kv,k1,k2,rfl,rfl⟩,U7.o⟩;have rG:((Seg.jA D1).map (Rep.upd kv)).length<=2*n+1:=by
   unfold Seg.jA;rw [aa4,aa4];exact HR.o.hd.count
  have jr:=Rep.KH k1;have hpl:(Rep.puts kv).length<=2*n+1:=adt (by unfold Rep.puts;rw [aa4];exact aeT _ _) k4;have vg:Tab.Lists (Tab.mapOf (Rep.puts kv)) (Rep.puts kv):=Tab.J4 (Rep.Dp k1.rise);have rW:=uQ (aB.kJ.idx hho E8.hd.keeps.log yH0);have rX:=uQ (aB.kJ.uses hho E8.hd.keeps.log yH0);have dS:=uQ hho.key;have nD:=uQ hst;have nP:=uQ rG;have BM:=uQ jr;have Hpl:=uQ hpl;have zB:=uQ vg;have BH:=uQ E8;have vU:=uQ hNl;have Ig:=uQ k3;have Et:=uQ (show (Seg.fresh M4 seg).on=false/\(Seg.fresh M4 seg).fresh=0 from ⟨rfl,rfl⟩);clear hho hst rG jr hpl vg E8 hNl k1 k2 k3 k4 HR hN1;generalize Seg.fresh M4 seg=L5 at *
  generalize (Seg.jA D1).map (Rep.upd kv)=zk at *
  generalize Rep.puts kv=pl at *
  obtain ⟨N5,Py⟩:∃ N5,N5=Seg.dV D1:=⟨_,rfl⟩;rw [<-Py]at h7;have xH:=uQ Py;clear Py;have hmd:=al2 h7;go_wp2_with fail;refine hmd.mono ?_;rintro ee w8 ⟨v,rfl,rfl,rfl⟩;clear hmd;have hse:=acf (by have:=Ig.o;have:=Hn.o;omega:bx<=14000000) (by have:=nP.o;have:=Hn.o;omega) (h7.sb:Sat w0 w7 (aY r m seg p5 Gg Gf false::cO Gg N5 F9 GN (.slice none 0 0)::aH F9 (Tab.mapOf pl) bx::aC 45 3 GN (zk.flatMap bG)::aH Gf (Tab.mapOf pl) bx::aK p5 m L5::aJ m M4::aC 3 1 (.slice va G.length vc) (ints G)::F));clear h7;go_wp2_with fail;refine hse.mono ?_;rintro ee w9 ⟨v,rfl,q,qi,vv,rfl,h9⟩;clear hse;obtain ⟨bi,hbi⟩:∃ bi,bi=aT.book Xx.sum aT.qL true (pl.map Rep.ji):=⟨_,rfl⟩;obtain ⟨bu,hbu⟩:∃ bu,bu=aT.book Xx.sum aT.qM false (zk.map Rep.jl):=⟨_,rfl⟩;have hB:bi.length+bu.length<=40+56*(2*n+1):=by
   rw [hbi,hbu,aT.x8 (k:=3) rfl rW.o.row,aT.x8 (k:=3) rfl rX.o.row,aa4,aa4,show aT.jL true 3=44 from rfl,show aT.jL false 3=12 from rfl];have:=Hpl.o;have:=nP.o;omega
  obtain ⟨s1,s2,s3,s4⟩:=BH.o.save yH0 (Va.o.mono (Int.le_of_lt bT.o)) vU.o.1 vU.o.2 bi bu;rw [<-xH.o]at s1 s2 s3 s4
  have hsv:=P9 BH.o.hd.keeps.calm.ok (by have:=HK.o;have:=Hn.o;omega) (by rw [xH.o];exact vU.o.1) (by rw [xH.o];exact vU.o.2) pl zB.o (by have:=Ig.o;have:=Hn.o;omega) dS.o zk rW.o rX.o bi bu hbi hbu s4
   (h9.sb:Sat w0 w9 (cO q N5 qi vv (.slice none 0 0)::aH qi (Tab.mapOf pl) bx::aC 45 3 vv (zk.flatMap bG)::aJ m M4::aY r m seg p5 Gg Gf false::cO Gg N5 F9 GN (.slice none 0 0)::aH F9 (Tab.mapOf pl) bx::aC 45 3 GN (zk.flatMap bG)::aH Gf (Tab.mapOf pl) bx::aK p5 m L5::F))
  have s5:=aB.Gp (n:=N5) (b1:=bi) (b2:=bu) BH.o.hd.keeps.calm BH.o.tmp (by have:=BH.o.hd.names;have:=Hn.o;omega) (by rw [xH.o];exact vU.o.1) (by rw [xH.o];exact vU.o.2);rw [<-xH.o]at vU;have hu4:=BH.o.hd.used;generalize aB.save M4 N5 bi bu=z at *
  obtain ⟨M5,e5⟩:=z;dsimp only at hsv s1 s2 s3;have JG:bi.length+bu.length+M4.used<=r0->Seg.HF M5 N5 pl zk:=λhrm=>by
   have hz:=s5.room oQ;have hd:=s5.done.resolve_right (by simp only at hz ⊢;omega);refine ⟨by rw [<-hbi];exact hd.2.1,by rw [<-hbu];exact hd.2.2,λp hp hnm=>?_⟩;have:=s5.gone hz p hp;unfold aB.other at this;rw [hnm]at this;simpa using this
  have HCD:=uQ (show Seg.CD (K+5*n+700) r0 (E+2) (B0+bi.length+bu.length) (2*n+1) L5 M5 D1 N5 zk from ⟨s1.mono oQ (abl _) (abl _) (abl _),Et.o.1,Et.o.2,by
   have h3:=HC.o.used;have h4:E*(20+28*n)<=E*(20+28*(2*n+1)):=Nat.mul_le_mul_left _ oQ;have h5:(E+2)*(20+28*(2*n+1))=E*(20+28*(2*n+1))+2*(20+28*(2*n+1)):=akH ..;refine ⟨by omega,s3,vU.o.2,pl,by rw [xH.o];exact nD.o,λa1 a2 a3=>⟨λe=>?_,λ_=>JG ?_⟩⟩
   ·have h6:=vU.o.1;rw [xH.o,e]at h6;exact absurd h6 aN
   ·have h6:(E+2)*(20+28*(2*n+1))<=130*(20+28*200):=an9 a3 oQ;omega⟩)
  clear s5 hu4 JG
  have jT:=uQ (show aO.Rnd pc D D1 from ⟨⟨_,_,_,_,_,_,_,HC.o.rp⟩,.inr (by
   rw [<-HC.o.st.last,<-BG.o,<-Nr.o,<-Hxc.o];refine ⟨λe=>Hg.o ?_,aeA.o⟩;rw [HG.o,e];unfold aO.kU;simp)⟩)
  clear h9 s1 s3 s4 hB hbi hbu;go_wp2_with fail;refine hsv.mono ?_;rintro ee w10 ⟨v,rfl,rfl,h10⟩;clear hsv
  have bH:=uQ (show tu w0 r m seg (K+5*n+700) r0 (E+2) (2*n+1) D1 F w10 from ⟨Gg,p5,Gf,F9,bx,bx,_,GN,_,N5,zk,L5,M5,⟨HCD.o,Ig.o,Ig.o⟩,by
   rw [BM.o]at h10;exact h10.sb⟩)
  clear h10;rcases s2 with rfl|rfl
  ·go_wp2_with fail
   go_ret2
   exact ⟨_,rfl,.inl ⟨_,D1,rfl,⟨Vu.o,jT.o⟩,bH.o⟩⟩
  ·go_wp2_with fail
   go_ret2
   exact ⟨_,rfl,.inl ⟨_,D1,rfl,⟨Vu.o,jT.o⟩,bH.o⟩⟩
section
variable {o:aj.Bs->Option aj.Bs}
theorem ajR {p ps pn B B0:Nat}{L:Seg.Log}{M:ay}{D:List (Nat×List aj.aI)} (hf:Seg.HD K r0 E B0 n L M D) (hB:B<=200) (hH:Ro w0 F Half) (h:Sat w0 w (aY r m seg p ps pn d::aH pn (Rep.dO (Seg.bZ D)) B::aK p m L::aJ m M::F)) :
  Calls prog 18 #[ptr r] w (aP λv w'=>∃ (mv:Value) (qs:List PV),v=.tuple #[mv,.bool true]/\(Tab.Lists (Rep.jw (Seg.fO D)) (qs.map AP)/\(∀ q∈qs,q.1.length=32/\∃ a n c,q.2.2=.slice a n c)/\qs.length<=200/\(∀ q∈qs,q.2.1.length<=16384)) /\
   Sat w0 w' (aC 113 33 mv (qs.flatMap kG)::rD qs::aY r m seg p ps pn d::aH pn (Rep.dO (Seg.bZ D)) B::aK p m L::aJ m M::F)):=by
 have Hf:=uQ hf;have HH:=uQ hH;have HB:=uQ hB;have hks:=al1 (adt hB aN) h;clear hf hH hB h;go_enter func18,ntmps18;go_wp2_with fail;refine hks.mono ?_;rintro ee w1 ⟨kv,rfl,kl,hkl,h1⟩;clear hks;have Hl:=uQ hkl.1;have o9:=uQ (show ∀ q∈kl,(aA q.1).length=32 from λq hq=>by rw [aX];exact hkl.2.1 q hq);have Hk:=uQ hkl.2.1;have Nu:=uQ (show kl.length<=200 from adt hkl.2.2 HB.o);have mG:=uQ (Rep.akE (es:=(Seg.fO D)) (Seg.qo D) hkl.1);obtain ⟨la,lc,rfl⟩:=jK o9.o (Sat.rd h1) aN;have h2:Sat w0 w1 (aC 113 33 (.slice none 0 0) []::rD []::aC 50 32 (.slice la kl.length lc) (kl.flatMap λq=>aA q.1)::aY r m seg p ps pn d::aH pn (Rep.dO (Seg.bZ D)) B::aK p m L::aJ m M::F):=Sat.gB.2 (Sat.emp.2 h1);clear hkl h1;go_wp2_with fail
 go_loopg [4,6] kl.length (λg ov iq wr=>∃ (i:Nat) (qs:List PV),g=kl.length-i/\i<=kl.length/\iq=.int .i64 i/\(qs.map AP=(Rep.wX (Seg.fO D) kl).take i/\(∀ q∈qs,q.1.length=32/\∃ a n c,q.2.2=.slice a n c)/\(∀ q∈qs,q.2.1.length<=16384)) /\
  Sat w0 wr (aC 113 33 ov (qs.flatMap kG)::rD qs::aC 50 32 (.slice la kl.length lc) (kl.flatMap λq=>aA q.1)::aY r m seg p ps pn d::aH pn (Rep.dO (Seg.bZ D)) B::aK p m L::aJ m M::F))
 case atStart=>exact ⟨0,[],rfl,aea _,rfl,⟨rfl,(λq hq=>by cases hq),(λq hq=>by cases hq)⟩,h2⟩
 case round=>
  obtain ⟨i,qs,rfl,hi,rfl,⟨P7,Zq,Zp⟩,hS⟩:=hrel;clear h2;have VD:=uQ P7;have Hq:=uQ Zq;have VA:=uQ Zp;have Zr:qs.length=i:=by
   have:=aey List.length P7;unfold Rep.wX at this;rw [aa4,ads,aa4]at this;omega
  have VB:=uQ Zr;clear P7 Zq Zp Zr;by_cases hlt:i<kl.length;rotate_left
  ·obtain rfl:i=kl.length:=by omega
   have c1:¬ (kl.length:Int)<(kl.length:Int):=oQ;have hle:=alG (hS.sb:Sat w0 wr (aY r m seg p ps pn d::aH pn (Rep.dO (Seg.bZ D)) B::F));clear hlt hi;go_wp2_with fail;refine hle.mono ?_;rintro ee w9 ⟨v,rfl,t,⟨t1,t2⟩,rfl,rfl⟩;clear hle;have htn:(t.n:Int)=(kl.length:Int):=by rw [Tab.ajC t1 t2 Hl.o]
   rw [htn];have heq:((kl.length:Int)==(kl.length:Int))=true:=beq_self_eq_true _;go_wp2_with fail
   go_ret2
   refine ⟨_,rfl,_,qs,rfl,⟨?_,Hq.o,by rw [VB.o];exact Nu.o,VA.o⟩,hS.sb⟩;rw [VD.o,ad9 (by unfold Rep.wX;rw [aa4];exact abl _)];exact mG.o
  have c1:(i:Int)<(kl.length:Int):=oQ;have hwi:IntKind.i64.wrap ((i:Int)+1)=(i:Int)+1:=adr _ (by have:=Nu.o;omega);obtain ⟨⟨k,pl⟩,hx⟩:∃ q,kl[i]?=some q:=⟨_,aay hlt⟩;have hxm:=abA hx;have Hxk:=uQ (Hk.o _ hxm);have hmk:=(Hl.o.mem k pl).1 hxm;obtain ⟨data,g1,g2,g3,g4,g5,g6⟩:=Hf.o.got hmk;obtain ⟨bk,off,c',hsv,hcell⟩:=jd (f:=λq:aj.Bs×Seg.aV=>aA q.1) (k:=32) o9.o (Sat.rd (hS.pick eH)) hx aN;cases hsv;have bT:=uQ hlt
  have eG:=uQ (show (Rep.wX (Seg.fO D) kl).take (i+1)=(Rep.wX (Seg.fO D) kl).take i++[(k,data)] by
   unfold Rep.wX;rw [<-aoU,<-aoU,aeK,hx,afw,adU,ad7,aeF];simp only;rw [g2];rfl)
  have hgt:=al0 (by have:=HB.o;omega) Hxk.o pl hmk (Ro.os HH.o) Hf.o.keeps.log Hf.o.keeps.calm.ok g4 g5 data oQ g1
   (hS.sb:Sat w0 wr (aY r m seg p ps pn d::aH pn (Rep.dO (Seg.bZ D)) B::aK p m L::aJ m M::aC 113 33 u4 (qs.flatMap kG)::rD qs::aC 50 32 (.slice (some ⟨bk,off,none⟩) kl.length lc) (kl.flatMap λq=>aA q.1)::F))
  have Na:=uQ (show data.length<=16384 by omega);clear hxm hlt hi hmk g1 g2 g3 g4 g5 g6 hS;go_wp2_with ((with_reducible refine bP ⟨?_⟩);refine iR (b:=bk) (o:=off+i*32) (aA k) ah hcell underlying50 rfl yS0 ?_);refine hgt.mono ?_;rintro ee w5 ⟨v,rfl,bv,va,vn,vc,rfl,rfl,h5⟩;clear hgt hcell;replace h5:Sat w0 w5 (aC 113 33 u4 (qs.flatMap kG)::bQ (.slice va vn vc) data::rD qs::aC 50 32 (.slice (some ⟨bk,off,none⟩) kl.length lc) (kl.flatMap λq=>aA q.1)::aY r m seg p ps pn d::aH pn (Rep.dO (Seg.bZ D)) B::aK p m L::aJ m M::F):=h5.sb;obtain ⟨bk2,off2,c2,e2,hcell⟩:=jd (f:=λq:aj.Bs×Seg.aV=>aA q.1) (k:=32) o9.o (Sat.rd (h5.pick iO)) hx aN;cases e2;have hle:(qs.flatMap kG).length<=2147483648:=by
   rw [jy (k:=33) λq hq=>yS q (Hq.o q hq).1,VB.o];have:=Nu.o;have:=bT.o;omega
  go_wp2_with (first
   |((with_reducible refine bP ⟨?_⟩);refine iR (b:=bk) (o:=off+i*32) (aA k) ah hcell underlying50 rfl yS0 ?_)
   |((with_reducible apply y7);refine ⟨?_⟩;refine vS (ps:=#[(0,.agg (aA k).toArray),(1,.slice va vn vc)]) (by simp only [aeX,ad7,aeF];rfl) (λw=>amo k Hxk.o data va vn vc w) ?_)
   |((with_reducible refine nR ⟨?_⟩);refine nN (e:=113) (sz:=33) (eX:=56) au h5 ah (cs:=(kG (k,data,.slice va vn vc)).toArray) rfl (by rw [abn,yS _ Hxk.o]) bI ?_;intro bN wN hN)
   |((with_reducible refine lH ⟨?_⟩);refine oh 113 33 56 au hN ah ah (aS aU) aU (by rw [abn,yS _ Hxk.o]) (abl 1) (by rw [ad6];exact alg _ rfl) hle (by rw [abn,yS _ Hxk.o];decide) aN rfl ?_;intro bA nA cA wA hA))
  go_roundg (kl.length-(i+1))
  case measure=>have:=bT.o;omega
  case rel=>
   refine ⟨i+1,qs++[(k,data,.slice va vn vc)],rfl,bT.o,by first|rfl|go_num,⟨?_,λq hq=>?_,λq hq=>?_⟩,?_⟩
   ·rw [adU,VD.o,eG.o];rfl
   ·rcases aeg.1 hq with hq|hq
    ·exact Hq.o q hq
    ·rw [adZ.1 hq];exact ⟨Hxk.o,_,_,_,rfl⟩
   ·rcases aeg.1 hq with hq|hq
    ·exact VA.o q hq
    ·rw [adZ.1 hq];exact Na.o
   ·rw [aeB,List.flatMap_singleton,agD];have h10:Sat w0 wA (bQ (.slice va vn vc) data::rD qs::aC 113 33 (.slice (some ⟨bA,0,none⟩) nA cA) (qs.flatMap kG++(kG (k,data,.slice va vn vc)).toArray.toList)::aC 50 32 (.slice (some ⟨bk,off,none⟩) kl.length lc) (kl.flatMap λq=>aA q.1)::aY r m seg p ps pn d::aH pn (Rep.dO (Seg.bZ D)) B::aK p m L::aJ m M::F):=hA.sb;exact (Sat.star.2 h10).bf
end
end Go.Proofs.Y
namespace Go.Seg
open Go.ay
open Go.aj (Bs aI encs gu dI)
open Go.Rep
section
variable {K r E B n:Nat}{L:Log}{M:ay}{D:List (Nat×List aI)}{N:Int}{us:List Use}{pl:List (Bs×aV)}
theorem ajq (h:D≠[]):0<=dV D:=by
 unfold dV;cases hl:D.getLast? with
 |none=>exact absurd (ahP.1 hl) h
 |some d=>simp only;omega
theorem ajx {l:List Row}{kv:List (Bs×dY)} (k1:Tab.Lists (ledger l) kv):kv.length<=l.length:=by
 have h1:∀ x∈kv.map (·.1),x∈l.map fU:=λx hx=>by
  obtain ⟨q,hq,rfl⟩:=abL.1 hx;have:=(k1.mem q.1 q.2).1 hq;unfold ledger at this;obtain ⟨r,h4,_⟩:=aip.1 this;obtain ⟨h5,_,h6⟩:=FZ h4;exact abL.2 ⟨r,h5,h6⟩
 have:=Tab.JW k1.keys h1
 rwa [aa4,aa4]at this
theorem gI.ZU (h:gI K r E B n L M D){kv:List (Bs×dY)} (k1:Tab.Lists (ledger (bZ D)) kv):kv.length<=n:=by
 have h1:=ajx k1;have h2:=h.few;rw [<-qo,aa4]at h2;omega
theorem gI.lds (h:gI K r E B n L M D) (hn:n<=1000) (s:zN D N us pl) (hne:D≠[]):Lds L N us pl/\pl.length<=n:=by
 obtain ⟨kv,k1,k2,rfl,rfl⟩:=s.kv;have ho:=h.hd.hint k1 k2;have rG:((jA D).map (upd kv)).length<=n:=by unfold jA;rw [aa4,aa4];exact h.hd.count
 have hpl:(puts kv).length<=n:=adt (by unfold puts;rw [aa4];exact aeT _ _) (h.ZU k1);have htk:L.aF.take D.length=L.aF:=ad9 (by rw [h.hd.aF,aa4];exact abl _);refine ⟨⟨ho.key,aB.kJ.idx ho h.hd.keeps.log oQ,aB.kJ.uses ho h.hd.keeps.log oQ,aB.ahs h.hd.keeps.log ho htk ?_,aB.kJ.lies ho h.hd.keeps.log,?_⟩,hpl⟩
 ·rw [h.hd.aF,aqi,s.last];unfold dV;cases hl:D.getLast? with
  |none=>exact absurd (ahP.1 hl) hne
  |some d=>rfl
 ·rw [ap5];intro x hx;rw [h.hd.aF]at hx;obtain ⟨d,hd,rfl⟩:=abL.1 hx;have:=ZV h.hd.rise hd;rw [s.last];simp only [adY];omega
end
end Go.Seg
namespace Go.Proofs.Y
open Go.ay
section
variable {pl:List (aj.Bs×Seg.aV)}{o:aj.Bs->Option aj.Bs}
theorem ahy (hR:Seg.gI K r0 E B n L M D) (hn:n<=1000) (hst:Seg.zN D N us pl) (hh:Seg.NF M\/D≠[]/\Seg.HF M N pl us) (hH:Ro w0 F Half) (h:Sat w0 w (aK p m L::aJ m M::F)) :
  Calls prog 57 #[ptr p,ptr m] w (aP λv w'=>Oa w0 p m n L M D F v w'):=by
 have hL:=hR.hd.keeps.log;have hM:=hR.hd.keeps.calm.ok;have hq:=hR.hd.keeps.calm.quiet;obtain rfl:N=Seg.dV D:=hst.last;have hC:=hR.hd.JZ;obtain ⟨q1,_,_⟩:=hR.hd.last hst.ends
 have iZ:=uQ (show ∀ f∈M.list,f.size<=4000000000 from λf hf=>by
  rw [hq.list]at hf;obtain ⟨x,hx,rfl⟩:=abL.1 hf;exact adt (hR.small x hx) aN)
 have Ey:=uQ (λ(w':World) (R:List aG) (hr:Ro w0 R Half) (hw:Sat w0 w' (aK p m L::aJ m M::R))=>acj hR hn hst.ends hr hw);have hz:=Lp hM hq.off;have HM:=uQ hM;have HL:=uQ hL;have HH:=uQ hH;have hcase:(D=[]/\(Seg.dV D) = -1/\aB.newest M = -1)\/(0<=(Seg.dV D)/\aB.newest M = -1/\aB.there M (aB.name aB.idx (Seg.dV D))=false)\/(0<=(Seg.dV D)/\aB.newest M=(Seg.dV D)/\D≠[]/\Seg.HF M (Seg.dV D) pl us):=by
  by_cases hne:D=[]
  ·rcases hh with e|⟨e,_⟩
   ·exact .inl ⟨hne,by rw [hne];rfl,e.newest hq⟩
   ·exact absurd hne e
  ·have hpos:=Seg.ajq hne;rcases hh with e|⟨_,e⟩
   ·exact .inr (.inl ⟨by omega,e.newest hq,e.there hq oQ oQ⟩)
   ·exact .inr (.inr ⟨by omega,e.newest hq oQ oQ,hne,e⟩)
 rcases hcase with ⟨_,hm1,c2⟩|⟨c1,c2,c3⟩|⟨c1,c2,c3,c4⟩
 ·clear hR hst hh hL hM hH hC hz;go_enter func57,ntmps57;go_wp2_with (with_reducible apply fB);refine ⟨eF nO h rfl ?_⟩;intro b5 w5 h5;have hla:=FN (F:=pt b5 (.cells (dP Rep.dJ.zero) 63 (0,0))::F) HL.o HM.o (Ro.os HH.o) (h5.sb);rw [show Rep.lastOf (dF L M) L.aF=(-1,0) from q1.trans (by rw [hm1])]at hla;clear h h5 q1;go_wp2_with fail;refine hla.mono ?_;rintro ee w6 ⟨v,rfl,rfl,h6⟩;have hnw:=Ko HM.o iZ.o (h6.sb:Sat w0 w6 (aJ m M::aK p m L::pt b5 (.cells (dP Rep.dJ.zero) 63 (0,0))::F));rw [c2]at hnw;clear hla;go_wp2_with fail;refine hnw.mono ?_;rintro ee w7 ⟨v,rfl,rfl,h7⟩;have mY:=Ey.o w7 (pt b5 (.cells (dP Rep.dJ.zero) 63 (0,0))::F) (Ro.os HH.o) (h7.sb);clear h6 h7 hnw;go_wp2_with fail;refine mY.mono ?_;rintro ee w8 ⟨v,rfl,ps,pi,uv,tv,x,rfl,rF,hx,h9⟩
  have h10:Sat w0 w8 (pt b5 (.cells (dP Rep.dJ.zero) 63 (0,0))::cO ps (Seg.dV D) pi uv tv::aH pi (Tab.mapOf (Rep.puts x.1)) x.2::aC 45 3 uv (((Seg.jA D).map (Rep.upd x.1)).flatMap bG)::aK p m L::aJ m M::F):=h9.sb;clear h9 mY;go_wp2_with ((with_reducible refine dh ⟨?_⟩);refine fP (dP Rep.dJ.zero) h10 ah ah ah cZ au ah ?_;intro iH h11);refine ⟨rfl,_,vK rfl h11 ah aU underlying63 rfl au,_,rfl,ps,pi,uv,tv,x,rfl,rF,hx,h11.drop⟩
 ·have c4:¬ (Seg.dV D) < -1:=by omega
  have c5:decide ((Seg.dV D) < -1)=false:=ad2 c4;have c6:decide (0<=(Seg.dV D))=true:=aeb c1;clear hR hst hh hL hM hH hC;go_enter func57,ntmps57;go_wp2_with (with_reducible apply fB);refine ⟨eF nO h rfl ?_⟩;intro b5 w5 h5;have hla:=FN (F:=pt b5 (.cells (dP Rep.dJ.zero) 63 (0,0))::F) HL.o HM.o (Ro.os HH.o) (h5.sb);rw [show Rep.lastOf (dF L M) L.aF=((Seg.dV D),0) from q1]at hla;clear h h5 q1;go_wp2_with fail;refine hla.mono ?_;rintro ee w6 ⟨v,rfl,rfl,h6⟩;have hnw:=Ko HM.o iZ.o (h6.sb:Sat w0 w6 (aJ m M::aK p m L::pt b5 (.cells (dP Rep.dJ.zero) 63 (0,0))::F));rw [c2]at hnw;clear hla;go_wp2_with fail;refine hnw.mono ?_;rintro ee w7 ⟨v,rfl,rfl,h7⟩;have hld:=Ze (p:=p) (n:=Seg.dV D) HM.o hz (.inl c3) h7;clear h6 hnw;go_wp2_with fail;refine hld.mono ?_;rintro ee w8 ⟨v,rfl,rfl,h8⟩
  have mY:=Ey.o w8 (pt b5 (.cells (dP Rep.dJ.zero) 63 (0,0))::F) (Ro.os HH.o) (h8.sb);clear h7 h8 hld;go_wp2_with fail;refine mY.mono ?_;rintro ee w8 ⟨v,rfl,ps,pi,uv,tv,x,rfl,rF,hx,h9⟩;have h10:Sat w0 w8 (pt b5 (.cells (dP Rep.dJ.zero) 63 (0,0))::cO ps (Seg.dV D) pi uv tv::aH pi (Tab.mapOf (Rep.puts x.1)) x.2::aC 45 3 uv (((Seg.jA D).map (Rep.upd x.1)).flatMap bG)::aK p m L::aJ m M::F):=h9.sb;clear h9 mY;go_wp2_with ((with_reducible refine dh ⟨?_⟩);refine fP (dP Rep.dJ.zero) h10 ah ah ah cZ au ah ?_;intro iH h11);refine ⟨rfl,_,vK rfl h11 ah aU underlying63 rfl au,_,rfl,ps,pi,uv,tv,x,rfl,rF,hx,h11.drop⟩
 ·obtain ⟨ld,hpl⟩:=hR.lds hn hst c3;obtain ⟨kv,k1,k2,k3,k4⟩:=hst.kv;obtain ⟨t1,t2⟩:=c4.there hq;have Hld:=uQ (λ(w':World) (R:List aG) (hw:Sat w0 w' (aK p m L::aJ m M::R))=>ait hL hM hz t1 t2 pl ld.key us ld.idx ld.uses c4.one c4.two ld.fits ld.lies hw);rw [ld.tail]at Hld;have c6:decide (0<=(Seg.dV D))=true:=aeb c1;have Hx:=uQ (show Tab.Lists (Rep.ledger (Seg.bZ D)) kv/\(∀ q∈kv,q.1.length=32)/\pl.length<=n/\kv.length<=n from ⟨k1,k2,hpl,hR.ZU k1⟩);have zJ:=uQ k3;have Hpl:=uQ k4;clear hR hst hh hL hM hH hC hz ld hpl k1 k2 k3 k4 t1 t2 c3 c4 Ey;go_enter func57,ntmps57;go_wp2_with (with_reducible apply fB);refine ⟨eF nO h rfl ?_⟩;intro b5 w5 h5;have hla:=FN (F:=pt b5 (.cells (dP Rep.dJ.zero) 63 (0,0))::F) HL.o HM.o (Ro.os HH.o) (h5.sb);rw [show Rep.lastOf (dF L M) L.aF=((Seg.dV D),0) from q1]at hla;clear h h5 q1;go_wp2_with fail
  refine hla.mono ?_;rintro ee w6 ⟨v,rfl,rfl,h6⟩;have hnw:=Ko HM.o iZ.o (h6.sb:Sat w0 w6 (aJ m M::aK p m L::pt b5 (.cells (dP Rep.dJ.zero) 63 (0,0))::F));rw [c2]at hnw;clear hla;go_wp2_with fail;refine hnw.mono ?_;rintro ee w7 ⟨v,rfl,rfl,h7⟩;have hld:=Hld.o w7 (pt b5 (.cells (dP Rep.dJ.zero) 63 (0,0))::F) (h7.sb);clear h6 h7 hnw Hld;go_wp2_with fail;refine hld.mono ?_;rintro ee w8 ⟨v,rfl,ps,pi,uv,tv,rfl,h9⟩;obtain ⟨ta,tn,tc,rfl,htl,_⟩:=Sat.rd (h9.pick (A:=aC 3 1 tv (ints [])) iO);obtain rfl:tn=0:=by simpa [ints] using htl.symm
  have h10:Sat w0 w8 (pt b5 (.cells (dP Rep.dJ.zero) 63 (0,0))::cO ps (Seg.dV D) pi uv (.slice ta 0 tc)::aH pi (Tab.mapOf pl) pl.length::aC 45 3 uv (us.flatMap bG)::aK p m L::aJ m M::F):=h9.sb;clear h9 hld htl;go_wp2_with ((with_reducible refine dh ⟨?_⟩);refine fP (dP Rep.dJ.zero) h10 ah ah ah cZ au ah ?_;intro iH h11);have h12:Sat w0 iH (pt b5 (.cells (dP Rep.dJ.zero) 63 (0,0))::cO ps (Seg.dV D) pi uv (.slice ta 0 tc)::aH pi (Tab.mapOf (Rep.puts kv)) pl.length::aC 45 3 uv (((Seg.jA D).map (Rep.upd kv)).flatMap bG)::aK p m L::aJ m M::F):=by
   rw [<-zJ.o,<-Hpl.o];exact h11
  refine ⟨rfl,_,vK rfl h12 ah aU underlying63 rfl au,_,rfl,ps,pi,uv,_,(kv,pl.length),rfl,⟨ta,tc,rfl⟩,Hx.o,h12.drop⟩
theorem gy.rt (h:gy w0 r m seg K r0 E n o oc false F w):∃ D,o=Rep.jw (Seg.fO D)/\tu w0 r m seg K r0 E n D F w:=by
 obtain ⟨ps,p,pn,pi,B,B2,B0,uv,tv,N,us,L,M,D,D0,hf,hS⟩:=h;obtain rfl:=hf.clean rfl;obtain ⟨N1,f1,f2,f3⟩:=hf.qG.ex;have hN:N1=[]:=by
  have:=aey List.length f1;rw [aaL]at this;exact agZ oQ
 refine ⟨D,hf.now,ps,p,pn,pi,B,B2,B0,uv,tv,N,us,L,M,⟨⟨hf.rp,?_,by rw [f3,hN];rfl,hf.ext⟩,hf.b1,hf.b2⟩,hS⟩;cases ho:L.on with
 |false=>rfl
 |true=>exact absurd hN (f2 ho)
theorem tu.sd (h:tu w0 r m seg K r0 E n D F w):gy w0 r m seg K r0 E n (Rep.jw (Seg.fO D)) (Rep.jw (Seg.fO D)) false F w:=by
 obtain ⟨ps,p,pn,pi,B,B2,B0,uv,tv,N,us,L,M,⟨hC,hb,hb2⟩,hS⟩:=h;exact ⟨ps,p,pn,pi,B,B2,B0,uv,tv,N,us,L,M,D,D,⟨hC.rp,Seg.oK.start hC.off hC.fresh,rfl,rfl,λ_=>rfl,hb,hb2,hC.ext⟩,hS⟩
theorem EO {d:Bool} (hn:n<=200) (hH:Ro w0 F Half) (h:gy w0 r m seg K r0 E n o oc d F w) :
  Calls prog 18 #[ptr r] w (aP λv w'=>∃ (mv:Value) (qs:List PV),v=.tuple #[mv,.bool true]/\(Tab.Lists o (qs.map AP)/\(∀ q∈qs,q.1.length=32/\∃ a n c,q.2.2=.slice a n c)/\qs.length<=200/\(∀ q∈qs,q.2.1.length<=16384)) /\
   gy w0 r m seg K r0 E n o oc d (aC 113 33 mv (qs.flatMap kG)::rD qs::F) w'):=by
 obtain ⟨ps,p,pn,pi,B,B2,B0,uv,tv,N,us,L,M,D,D0,hf,hS⟩:=h;refine (ajR (F:=cO ps N pi uv tv::aH pi (Rep.dO (Seg.bZ D0)) B2::aC 45 3 uv (us.flatMap bG)::F) hf.rp.hd (adt hf.b1 hn) (Ro.os hH) hS).mono ?_;rintro e w' ⟨v,rfl,mv,qs,rfl,hq,h2⟩;exact ⟨_,rfl,mv,qs,rfl,by rw [hf.now];exact hq,ps,p,pn,pi,B,B2,B0,uv,tv,N,us,L,M,D,D0,hf,h2.sb⟩
theorem XC (hpc:0<=pc/\pc<=100) (h1:128<=seg) (h2:seg<=1048576) (hn2:n<=200) (hn:2*n+E<470) (hK:K<=500000) (hr:(2*n+1)*400+E*(20+28*n)<=r0) (hH:Ro w0 F Half) (h:gy w0 r m seg K r0 E n o oc false F w) :
  Calls prog 10 #[ptr r,.int .i64 pc] w (aP λv w'=>∃ gv,v=.tuple #[gv,errno 0]/\gy w0 r m seg (K+5*n+700) r0 (E+2) (2*n+1) o o false F w'):=by
 obtain ⟨D,rfl,hD⟩:=h.rt;refine (agu hpc h1 h2 hn2 hn hK hH hD).mono ?_;rintro e w' ⟨v,rfl,⟨gv,D1,rfl,⟨ho,_⟩,h3⟩|⟨_,h3,_⟩⟩
 ·have h4:=h3.sd;rw [ho]at h4;exact ⟨_,rfl,gv,rfl,h4⟩
 ·omega
theorem agR (hr:r0=1048576) (hn:n<=200) (hE:E<=130) (hK:K<=1048576) (h1:128<=limit) (h2:limit<=1048576) (hH:Ro w0 F Half) (h:gy w0 r m seg K r0 E n o oc false F w) :
  Calls prog 19 #[ptr m,.int .i64 limit] w (aP λv w'=>∃ x,v=.tuple #[ptr x,.agg (dP Rep.dJ.zero),errno 0]/\gy w0 x m limit K r0 E n o o false F w'):=by
 obtain ⟨D,rfl,ps,p,pn,pi,B,B2,B0,uv,tv,N,us,L,M,⟨hC,_,_⟩,hS⟩:=h.rt;have hc:=hC.rp.hd.keeps.calm;have hR:=hC.rp.fresh limit h1 h2;obtain ⟨pl,hst,hex⟩:=hC.ext.ex;obtain ⟨hnf,JG⟩:=hex hr hn hE;have hh:Seg.NF M\/D≠[]/\Seg.HF M N pl us:=by
  by_cases hne:D=[]
  ·exact .inl (hnf hne)
  ·exact .inr ⟨hne,JG hne⟩
 have hw:Sat w0 w (aJ m M::F):=hS.sb
 refine (RZ (λx:List (aj.Bs×Rep.dY)×Nat=>Tab.mapOf (Rep.puts x.1)) (λx=>x.2) (λx=>(Seg.jA D).map (Rep.upd x.1)) (λx=>Tab.Lists (Rep.ledger (Seg.bZ D)) x.1/\(∀ q∈x.1,q.1.length=32)/\x.2<=n/\x.1.length<=n) h1 h2 hc.ok hK
  (by unfold Seg.alive;rw [Lp hc.ok hc.quiet.off];rfl) (λx hx=>adt hx.2.2.1 oQ)
  (λp b5 w' hw=>(ahy hR oQ hst hh (Ro.os hH) hw).mono λe w'' hv=>hv) hw).mono ?_
 rintro e w' ⟨v,rfl,x,px,psx,pix,pnx,uvx,⟨kx,bx⟩,rfl,⟨k1,k2,k3,k4⟩,h3⟩;dsimp only at k1 k2 k3 k4 h3;have hus:us=(Seg.jA D).map (Rep.upd kx):=by
  obtain ⟨kv,q1,_,q3,_⟩:=hst.kv;rw [q3,q1.unique k1]
 rw [Rep.KH k1,<-hus]at h3;refine ⟨_,rfl,x,rfl,tu.sd ⟨psx,px,pnx,pix,bx,bx,B0,uvx,.slice none 0 0,N,us,Seg.fresh M limit,M,⟨⟨hR,rfl,rfl,hC.ext⟩,k3,k3⟩,?_⟩⟩;rw [hst.last];exact h3.sb
end
theorem ajE (hH:Ro w0 F Half) (h:Sat w0 w F):Calls prog 17 #[] w (aP λv w'=>v=.bool true/\Sat w0 w' F):=by
 have hnew:=aaD 2000 aN h;have HH:=uQ hH;clear hH h;go_enter func17,ntmps17;go_wp2_with fail;refine hnew.mono ?_;rintro e w1 ⟨v,rfl,m,rfl,hS⟩;clear hnew;have hop:=abZ (K:=0) (limit:=200) aN aN (Seg.Calm.new 0 2000 aN) (aea _) rfl HH.o hS;clear hS;go_wp2_with fail;refine hop.mono ?_;rintro ee w2 ⟨v,rfl,r,p,ps,pi,pn,uv,rfl,hR,h2⟩;clear hop;generalize ay.new 2000=M0 at *
 go_wp2_with (with_reducible apply fB);refine ⟨eF nO h2 rfl ?_⟩;intro b4 w4 h4;go_wp2_with ((with_reducible refine dh ⟨?_⟩);refine fP (dP Rep.dJ.zero) h4 ah ah ah cZ au ah ?_;intro w5 h5)
 go_wp2_with (first
  |((with_reducible apply ac4);refine ⟨?_⟩;refine y8 ah ?_)
  |((with_reducible apply y7);refine ⟨?_⟩;refine vS ah acu ?_))
 have h6:Sat w0 w5 (aY r m 200 p ps pn false::aH pn (Rep.dO (Rep.gG 0 [])) 0::aK p m ⟨200,[],false,0⟩::aJ m M0::F):=h5.sb;clear h2 h4 h5
 -- the first Put
 have hgx:(aj.encode ⟨0,mP,[]⟩).2=0:=Seg.Pm vI [] (aea _);obtain ⟨a1,a2,a3,a4,alI,a5,a6,a7⟩:=hR.abr (x:=⟨0,mP,[]⟩) aN aN rfl vI (aea _) hgx aN;have hp:=SN aN vI [] none 0 (λw _=>xu 1 0 w) (aea _) hR.hg.keeps.log hR.hg.keeps.calm.ok aN (Ro.os HH.o) a1 h6;rw [<-a7]at hp;generalize (⟨200,[],false,0⟩:Seg.Log).append M0 ⟨0,mP,[]⟩=q at *
 obtain ⟨⟨L1,M1⟩,pc1,e1⟩:=q;dsimp only at a1 a2 a3 a4 hp;refine hp.mono ?_;rintro e w7 ⟨v,rfl,rfl,h7⟩;clear hp h6 hR
 rw [show Tab.put (Rep.dO (Rep.gG 0 [])) mP (Rep.iP alI)=Rep.dO (Rep.gG 0 ([]++[[⟨0,mP,[]⟩]])) by
  rw [a5,Rep.Kr (by unfold Rep.dM;rw [a6])];unfold Rep.fU;rw [a6]]at h7
 clear a5 a6 a7;obtain ⟨b1,b2,b3,zV⟩:=a4.Xb aN aN vI (aea _) rfl hgx a2 a3 aN;have hc:=acd a4 aN aN aN b1 (Ro.os HH.o) h7;clear a1 a2 a3 h7;generalize L1.commit M1=q at *
 obtain ⟨⟨L2,M2⟩,n2,e2⟩:=q;dsimp only at b2 b3 zV hc;go_wp2_with fail;refine hc.mono ?_;rintro e w8 ⟨v,rfl,ps2,pi2,B2,uv2,tv2,N2,us2,pl2,M3,C2,bb,rfl,⟨hcd,⟨hbb,_⟩,_⟩,h8⟩;clear hc;have hC2:C2=[[⟨0,mP,[]⟩,Seg.bC]]:=Seg.akx hcd.flat (zV hcd.rp.hg);subst hC2;obtain ⟨apw,c1,c2⟩:=hcd.row
 rw [show Rep.dO (Rep.gG 0 ([]++[[⟨0,mP,[]⟩]]))=Rep.dO (Rep.gG 0 [[⟨0,mP,[]⟩,Seg.bC]]) by
  rw [c1,Rep.QX (by unfold Rep.dM;rw [c2];rfl)]]at h8
 have hR2:=hcd.rp;clear b1 zV a4 hcd c1 c2
 go_wp2_with (first
  |((with_reducible apply ac4);refine ⟨?_⟩;refine y8 ah ?_)
  |((with_reducible apply y7);refine ⟨?_⟩;refine vS ah acu ?_)
  |((with_reducible refine afm ⟨?_⟩);refine y8 ah ?_;refine nN (e:=5) (sz:=1) (eX:=1) (cs:=#[.int .u8 1]) au h8 ah rfl rfl bI ?_;intro bD wD hD))
 have h9:Sat w0 wD (aY r m 200 p ps2 pn false::aH pn (Rep.dO (Rep.gG 0 [[⟨0,mP,[]⟩,Seg.bC]])) (0+1)::aK p m L2::aJ m M3::aC 5 1 (.slice (some ⟨bD,0,none⟩) 1 1) (aA [1])::F):=
  (Sat.lN (n:=1) (cap:=1) (xs:=aA [1]) (sz:=1) hD ah (abl 1) (abl _) aN ah).sb
 clear hD h8;have Fe:(aj.encode ⟨0,mP,[1]⟩).2=0:=Seg.Pm vI [1] aN;obtain ⟨a1,a2,a3,a4,row3,a5,a6,a7⟩:=hR2.abr (x:=⟨0,mP,[1]⟩) aN aN b2 vI aN Fe oQ;have hp:=SN aN vI [1] (some ⟨bD,0,none⟩) 1 (Ro.oI (λw hw=>Sat.rd hw) aU) aN hR2.hg.keeps.log hR2.hg.keeps.calm.ok aN (Ro.os HH.o) a1 h9;rw [<-a7]at hp;clear h9;generalize L2.append M3 ⟨0,mP,[1]⟩=q at *
 obtain ⟨⟨L3,M4⟩,pc3,e3⟩:=q;dsimp only at a1 a2 a3 a4 hp;refine hp.mono ?_;rintro e w10 ⟨v,rfl,rfl,h10⟩;clear hp hR2
 rw [show Tab.put (Rep.dO (Rep.gG 0 [[⟨0,mP,[]⟩,Seg.bC]])) mP (Rep.iP row3)=Rep.dO (Rep.gG 0 ([[⟨0,mP,[]⟩,Seg.bC]]++[[⟨0,mP,[1]⟩]])) by
  rw [a5,Rep.Kr (by unfold Rep.dM;rw [a6])];unfold Rep.fU;rw [a6]]at h10
 clear a5 a6 a7;obtain ⟨b1,b2',b3',zV⟩:=a4.Xb aN aN vI aN rfl Fe a2 (a3.trans b3) oQ;have hc:=acd a4 aN aN aN b1 (Ro.os HH.o) h10;clear a1 a2 a3 h10 b2 b3;generalize L3.commit M4=q at *
 obtain ⟨⟨L4,M5⟩,n4,e4⟩:=q;dsimp only at b2' b3' zV hc;go_wp2_with fail;refine hc.mono ?_;rintro e iH ⟨v,rfl,ps4,pi4,B4,uv4,tv4,N4,us4,pl4,M6,C4,b5,rfl,⟨hcd,_,_⟩,h11⟩;clear hc;obtain ⟨row4,c1,c2⟩:=hcd.row;have hC4:C4=[[⟨0,mP,[]⟩,Seg.bC],[⟨0,mP,[1]⟩,Seg.bC]]:=Seg.an6 hcd.flat (zV hcd.rp.hg) c1;subst hC4;have u1:=hcd.st.std.uses;have hsp:=agv (pc:=100) aN hcd.rp.rpd aN u1 (adt hcd.len.1 aN) (Ro.os HH.o) (h11.sb:Sat w0 iH (aY r m 200 p ps4 pn false::cO ps4 N4 pi4 uv4 tv4::aH pi4 (Tab.mapOf pl4) B4::aC 45 3 uv4 (us4.flatMap bG)::aK p m L4::aJ m M6::F));have hres:=aO.anm (x:=⟨0,mP,[]⟩) (y:=⟨0,mP,[1]⟩) rfl rfl rfl (by rw [Seg.Rq hgx vI rfl];decide) (by rw [Seg.Rq Fe vI rfl];decide) N4;rw [hcd.now]at hsp;unfold uy at hsp;rw [aO.amR,hres]at hsp;clear hres hcd u1 c1 c2 h11 b1 b2' b3' zV a4;go_wp2_with fail;refine hsp.mono ?_
 rintro e w12 ⟨v,rfl,sv,rfl,h12⟩;clear hsp;obtain ⟨bk,off,c2,e2,hcell⟩:=tY (Sat.rd h12) (i:=0) (s:=0) rfl;cases e2;have hcell0:w12.cell? ⟨bk,off,none⟩=some (.int .i64 0):=hcell;have iw:=uQ (h12.sb:Sat w0 w12 F);clear h12;go_wp2_with fail;go_ret;exact ⟨_,rfl,rfl,iw.o⟩
end Go.Proofs.Y
