import Derived.Test.YtihngncbioofnaaGreatDoorJ12
set_option maxRecDepth 20000
set_option linter.unusedVariables false
set_option maxHeartbeats 128000000
namespace Go.Proofs.YtihngncbioofnaaGreatDoor
open Go Go.Sl Go.ay Go.MapKept Go.RowKit
section
variable {w0 w:World}{F:List aH}{gb q kp ip B Bi:Nat}{gs:List Int}{mm:ah.Bs→Option Rep.iw}{bg:List (Value×List Int)}{mi:ah.Bs→Option Seg.aU}{N pc:Int}{lv:Value}{P:aO.Plan}{zs ys:List Sg}{y:Sg}
theorem agz {t:Int} (h:Sat w0 w (omap (.int .i64) gb ((.int .i64 t,.int .i64 1)::gs.map fun g=>(.int .i64 g,.int .i64 1))::F)):Sat w0 w (eG gb (gs++[t])::F):=by
 unfold eG;rw [acI];exact h.F8 (ajl (l₁:=[(Value.int .i64 t,Value.int .i64 1)]))
theorem agA {t:Int} (ht:t∉gs):(gs.map fun g=>(Value.int .i64 g,Value.int .i64 1)).Perm (gs.map fun g=>(Value.int .i64 g,Value.int .i64 1))∧∀ p∈gs.map fun g=>(Value.int .i64 g,Value.int .i64 1),p.1 ≠ .int .i64 t:=
 ⟨.refl _,fun p hp e=>by
  obtain ⟨g,hg,rfl⟩:=abZ.1 hp;cases e;exact ht hg⟩
structure xB (P:aO.Plan) (ys zs:List Sg):Prop where
 aF:P.aF=ys.map fun y=>(y.1,jO y)
 nodup:(P.aF.map (·.1)).Nodup
 mem:∀ y∈ys,y∈zs
 ok:Iy ys
 fit:∀ y∈ys,UK y
 len:ys.length≤1000000
theorem xB.take (h:xB P ys zs){i:Nat} (hy:ys[i]?=some y):P.aF.take (i+1)=P.aF.take i++[(y.1,jO y)]:=by
 rw [h.aF,adD,acE,hy];rfl
theorem aeE (hpc:0≤pc∧pc≤100) (hP:EF P N mm mi bg B Bi) (hS:xB P ys zs)
  (h:Sat w0 w (eG gb []::dM q N lv kp ip gb::aB 146 3 lv (ys.flatMap dY)::dB kp mm B::dK bg::aI ip mi Bi::eP zs::F)) :
  Calls Tryz.prog 71 #[ptr q,.int .i64 pc] w (aP fun v w'=>Sat w0 w' (eG gb (aO.chosen P pc)::dM q N lv kp ip gb::aB 146 3 lv (ys.flatMap dY)::dB kp mm B::dK bg::aI ip mi Bi::eP zs::F)):=by
 have xg:=uQ hpc;have HP:=uQ hP;have HS:=uQ hS;obtain ⟨R,hR⟩:∃ R,aO.chosen P pc=R:=⟨_,rfl⟩;rw [hR];have HR:=uQ hR;obtain ⟨la,lc,rfl⟩:=jl (f:=dY) (k:=3) (l:=ys) (fun y _=>BA y) (Sat.rd (h.pk (A:=aB 146 3 lv (ys.flatMap dY)))) aN;clear hpc hP hS hR;go_enter Tryz.func71,Tryz.ntmps71;go_wp2_with fail
 go_loopg [4] (ys.length+2) (fun g mv wr=>(∃ (n:Nat) (gs:List Int),g=n+1∧mv = .bool true∧aO.Jz P gs<n∧aO.choose P pc n gs=R∧Sat w0 wr (eG gb gs::dM q N (.slice la ys.length lc) kp ip gb::aB 146 3 (.slice la ys.length lc) (ys.flatMap dY)::dB kp mm B::dK bg::aI ip mi Bi::eP zs::F))∨g=0∧mv = .bool false∧Sat w0 wr (eG gb R::dM q N (.slice la ys.length lc) kp ip gb::aB 146 3 (.slice la ys.length lc) (ys.flatMap dY)::dB kp mm B::dK bg::aI ip mi Bi::eP zs::F))
 case atStart=>
  refine .inl ⟨ys.length+1,[],rfl,rfl,?_,?_,h⟩
  ·have h1:=aO.left_le (P:=P) (gs:=[]);have h2:=adu List.length HS.out.aF;rw [abl]at h2;omega
  ·have h2:=adu List.length HS.out.aF;rw [abl]at h2;rw [← h2];exact HR.out
 case round=>
  clear h;rcases hrel with ⟨n,gs,rfl,rfl,hlt,hch,hS⟩|⟨rfl,rfl,hS⟩
  rotate_left
  focus
   go_wp2_with fail
   go_end0
   exact ⟨_,rfl,hS⟩
  have TK:=uQ hch;have bV:=uQ hlt;obtain ⟨nx,hnx⟩:∃ nx,aO.nextL P gs pc P.aF=nx:=⟨_,rfl⟩;have vG:=uQ hnx;have Hlen:=uQ HS.out.len;have e1:wr.cell? ⟨q,1,none⟩=some (.slice la ys.length lc):=hS.cellP aY 1 rfl;have h1:Sat w0 wr (aB 3 1 (.slice none 0 0) (ints (aO.nextL P gs pc (P.aF.take 0)))::eG gb gs::dM q N (.slice la ys.length lc) kp ip gb::aB 146 3 (.slice la ys.length lc) (ys.flatMap dY)::dB kp mm B::dK bg::aI ip mi Bi::eP zs::F):=by
   rw [adH];exact Sat.gI.2 hS
  clear hS hnx hch hlt;go_wp2_with fail;clear e1
  go_loopg [5,16] ys.length (fun g nq iq wr=>∃ (i:Nat) (nv:Value),nv=nq∧g=ys.length - i∧i≤ys.length∧iq = .int .i64 i∧Sat w0 wr (aB 3 1 nv (ints (aO.nextL P gs pc (P.aF.take i)))::eG gb gs::dM q N (.slice la ys.length lc) kp ip gb::aB 146 3 (.slice la ys.length lc) (ys.flatMap dY)::dB kp mm B::dK bg::aI ip mi Bi::eP zs::F))
  case atStart=>exact ⟨0,_,rfl,rfl,acV _,rfl,h1⟩
  case round=>
   obtain ⟨i,nv,rfl,rfl,hi,rfl,hS⟩:=hrel;clear h1;by_cases hil:i<ys.length;rotate_left
   focus
    obtain rfl:i=ys.length:=by omega
    have c1:¬ (ys.length:Int)<(ys.length:Int):=oQ;have hal:P.aF.take ys.length=P.aF:=by rw [HS.out.aF,← abl (f:=fun y:Sg=>(y.1,jO y)),adk]
    rw [hal,vG.out]at hS;clear hi hil hal;obtain ⟨na,nc,rfl⟩:=FN (Sat.rd hS);have Hnd:=uQ (aO.aiE (gs:=gs) (pc:=pc) HS.out.nodup);rw [vG.out]at Hnd
    have Hnl:=uQ (show nx.length≤1000000 by
     have h1:=adu List.length vG.out;unfold aO.nextL at h1;rw [abl]at h1;have h2:=agJ (fun x => !gs.contains x.1 && aO.sparse P gs pc x) P.aF;have h3:=adu List.length HS.out.aF;rw [abl]at h3;have:=Hlen.out;omega)
    have h2:Sat w0 wr (eG gb (gs++nx.take 0)::aB 3 1 (.slice na nx.length nc) (ints nx)::dM q N (.slice la ys.length lc) kp ip gb::aB 146 3 (.slice la ys.length lc) (ys.flatMap dY)::dB kp mm B::dK bg::aI ip mi Bi::eP zs::F):=by
     rw [adH,acM];exact hS.sb
    clear hS;go_wp2_with fail
    go_loopg [4,42] nx.length (fun g mv iq wr=>∃ i:Nat,g=nx.length - i∧i≤nx.length∧mv = .bool (decide (0<i))∧iq = .int .i64 i∧Sat w0 wr (eG gb (gs++nx.take i)::aB 3 1 (.slice na nx.length nc) (ints nx)::dM q N (.slice la ys.length lc) kp ip gb::aB 146 3 (.slice la ys.length lc) (ys.flatMap dY)::dB kp mm B::dK bg::aI ip mi Bi::eP zs::F))
    case atStart=>exact ⟨0,rfl,acV _,rfl,rfl,h2⟩
    case round=>
     obtain ⟨j,rfl,hj,rfl,rfl,hS⟩:=hrel;clear h2;by_cases hjl:j<nx.length;rotate_left
     focus
      obtain rfl:j=nx.length:=by omega
      have c2:¬ (nx.length:Int)<(nx.length:Int):=oQ;rw [adk]at hS;clear hj hjl;obtain ⟨n',rfl⟩:∃ n',n=n'+1:=⟨n - 1,by have:=bV.out;omega⟩;by_cases hne:nx=[]
      focus
       have XC:R=gs:=by
        rw [← TK.out,aO.VA];rw [vG.out];exact hne
       have hmv:decide (0<nx.length)=false:=by rw [hne];rfl
       rw [hmv]
       have gy:=uQ (show Sat w0 wr (eG gb R::dM q N (.slice la ys.length lc) kp ip gb::aB 146 3 (.slice la ys.length lc) (ys.flatMap dY)::dB kp mm B::dK bg::aI ip mi Bi::eP zs::F) by
        rw [hne,acM]at hS;rw [XC];exact hS.sb)
       clear hS hmv hne XC;go_wp2_with fail
       go_roundg 0
       case measure=>omega
       case rel=>exact .inr ⟨rfl,rfl,gy.out⟩
      have hmv:decide (0<nx.length)=true:=adt (amK.2 hne);rw [hmv];have qN:=uQ hne;have gy:=uQ (hS.sb:Sat w0 wr (eG gb (gs++nx)::dM q N (.slice la ys.length lc) kp ip gb::aB 146 3 (.slice la ys.length lc) (ys.flatMap dY)::dB kp mm B::dK bg::aI ip mi Bi::eP zs::F));clear hS hmv hne;go_wp2_with fail
      go_roundg (n'+1)
      case measure=>omega
      case rel=>
       have hne2:aO.nextL P gs pc P.aF≠[]:=by rw [vG.out];exact qN.out
       refine .inl ⟨n',gs++nx,rfl,rfl,?_,?_,gy.out⟩
       ·have h1:=aO.ah2 hne2;rw [vG.out]at h1;have:=bV.out;omega
       ·rw [← TK.out,aO.VB hne2,vG.out]
     have c2:(j:Int)<(nx.length:Int):=oQ;have Ju:IntKind.i64.wrap ((j:Int)+1)=(j:Int)+1:=acC _ (by have:=Hnl.out;omega);obtain ⟨t,ht⟩:∃ t,nx[j]?=some t:=⟨_,aaI hjl⟩;obtain ⟨bk,off,cc,e,hcell⟩:=sU (Sat.rd (hS.pk (A:=aB 3 1 (.slice na nx.length nc) (ints nx)))) ht;cases e
     have MV:=uQ (agA (gs:=gs++nx.take j) (t:=t) (by
      intro hm;rcases ac3.1 hm with hm|hm
      ·exact Hnd.out.2 t (abV ht) hm
      ·obtain ⟨u,hu⟩:=an8 hm;have CW:u<j:=by
        have h1:=(abW.1 hu).1;rw [acA]at h1;omega
       rw [an4 CW]at hu;have:=(List.getElem?_inj oQ Hnd.out.1).1 (hu.trans ht.symm);omega))
     have vJ:=uQ (show nx.take (j+1)=nx.take j++[t] by rw [adD,ht];rfl);have lD:=uQ hjl;have eg:wr.cell? ⟨q,4,none⟩=some (.map (some gb)):=hS.cellP eH 4 rfl;clear ht hj hjl;go_wp2_with (at_mapUpdate;go_must (refine Lm (key:= .int .i64 t) aj _ _ _ aj Tryz.underlying142 Tryz.underlying3 aj aj aj rfl hS _ (.inl MV.out) ?_);intro w2 hS2);have h3:=agz hS2;rw [acD,← vJ.out]at h3;clear hS hS2 eg hcell;go_wp2_with fail
     go_roundg (nx.length - (j+1))
     case measure=>have:=lD.out;omega
     case rel=>exact ⟨j+1,rfl,adi lD.out,by rw [adt (Nat.succ_pos j)],by first|rfl|go_num,h3⟩
   have c1:(i:Int)<(ys.length:Int):=oQ;have hwi:IntKind.i64.wrap ((i:Int)+1)=(i:Int)+1:=acC _ (by have:=Hlen.out;omega);obtain ⟨y,hy⟩:∃ y,ys[i]?=some y:=⟨_,aaI hil⟩;have hym:=abV hy;obtain ⟨_,fa,fc,hyl⟩:=HS.out.ok y hym;have Hyf:=uQ (HS.out.fit y hym);have ED:=uQ (HS.out.mem y hym);have gY:=uQ (HS.out.take hy);obtain ⟨bk,off,c2,e2,hcell⟩:=jG (f:=dY) (k:=3) (fun y _=>BA y) (Sat.rd (hS.pk (A:=aB 146 3 (.slice la ys.length lc) (ys.flatMap dY)))) hy aN;cases e2;have Iu:=uQ hyl;have jS:=uQ hil;obtain ⟨s,fs,sv⟩:=y;dsimp only at hyl;subst hyl;obtain ⟨cu,Ar⟩:∃ cu,aO.nextL P gs pc (P.aF.take i)=cu:=⟨_,rfl⟩;rw [Ar]at hS;have BU:=uQ Ar;clear hy hym hi hil Ar;have hcell:wr.rangeAt bk (off+i * 3) [.int .i64 s,.slice fa fs.length fc,.int .i64 (aO.pay (jO (s,fs,.slice fa fs.length fc)))]:=hcell
   obtain ⟨py,hpy⟩:∃ py,aO.pay (jO (s,fs,.slice fa fs.length fc))=py:=⟨_,rfl⟩;rw [hpy]at hcell;have zC:=uQ hpy;clear hpy
   go_wp2_with (first
    |((with_reducible refine bI ⟨?_⟩);refine iL (b:=bk) (o:=off+i * 3) [.int .i64 s,.slice fa fs.length fc,.int .i64 py] aj hcell Tryz.underlying146 rfl au ?_)
    |(with_reducible apply gq))
   refine ⟨fF LC hS rfl ?_⟩;intro b7 w7 h7;clear hcell hS;go_wp2_with ((with_reducible refine cO ⟨?_⟩);refine gJ #[.int .i64 s,.slice fa fs.length fc,.int .i64 py] h7 aj aj aj cZ au aj ?_;intro w8 h8);have h9:=h8.drew;clear h7 h8;have hlk:=Jg s (h9.sb:Sat w0 _ (eG gb gs::pt b7 (.cells #[.int .i64 s,.slice fa fs.length fc,.int .i64 py] 146 (0,0))::aB 3 1 nv (ints cu)::dM q N (.slice (some ⟨bk,off,none⟩) ys.length lc) kp ip gb::aB 146 3 (.slice (some ⟨bk,off,none⟩) ys.length lc) (ys.flatMap dY)::dB kp mm B::dK bg::aI ip mi Bi::eP zs::F));by_cases hc:gs.contains s=true
   focus
    rw [acr hc]at hlk
    have qM:=uQ (show aO.nextL P gs pc (P.aF.take (i+1))=cu by
     rw [gY.out,aO.Zo,hc,Bool.not_true,Bool.false_and,abA aN,acM,BU.out])
    have hG:World.cell? _ ⟨q,4,none⟩=some (.map (some gb))∧World.cell? _ ⟨b7,0,none⟩=some (.int .i64 s)∧(Instr.lookup 142 (.map (some gb)) (.int .i64 s) false).run Tryz.prog _ = .ok (.int .i64 1) _:=⟨h9.cellP iJ 4 rfl,h9.cellP aV 0 rfl,hlk⟩;clear hlk;refine dS [12,13] (fun w'=>w'.cell? ⟨q,4,none⟩=some (.map (some gb))∧w'.cell? ⟨b7,0,none⟩=some (.int .i64 s)∧(Instr.lookup 142 (.map (some gb)) (.int .i64 s) false).run Tryz.prog w' = .ok (.int .i64 1) w') au ?_;refine rP 0 ?_ (y:=aZ);refine rP 1 ?_ (y:=dV);refine rP 2 ?_ (y:=bW);refine rt 3 (h:=?_);refine rP 4 ?_ (y:=bW);refine rt 5 (h:=?_);refine rt 6 (h:=?_);refine rP 7 ?_ (y:=kM);refine rP 8 ?_ (y:=aZ);clear hG;refine pU 9 ak au eU aj gQ ?_;refine pU 10 ak au eU aj gQ ?_;refine pU 11 ak au eU aj gQ ?_;refine pU 12 ak au eU aj gQ ?_;refine rP 13 ?_ (y:=(DZ aj ak ak));refine dI au ?_;go_wp2_with fail
    go_roundg (ys.length - (i+1))
    case measure=>have:=jS.out;omega
    case rel=>exact ⟨i+1,_,rfl,rfl,adi jS.out,by first|rfl|go_num,by rw [qM.out];exact h9.drop⟩
   rw [abA hc]at hlk;obtain ⟨z,hz⟩:∃ z,aO.sparse P gs pc (s,jO (s,fs,.slice fa fs.length fc))=z:=⟨_,rfl⟩
   have qM:=uQ (show aO.nextL P gs pc (P.aF.take (i+1))=cu++(if z=true then [s] else []) by
    rw [gY.out,aO.Zo,Bool.eq_false_iff.2 hc,Bool.not_false,aoJ,BU.out,hz])
   have Hz:=uQ hz;have hG:World.cell? _ ⟨q,4,none⟩=some (.map (some gb))∧World.rangeAt _ b7 0 [.int .i64 s,.slice fa fs.length fc,.int .i64 py]∧World.cell? _ ⟨b7,0,none⟩=some (.int .i64 s)∧(Instr.lookup 142 (.map (some gb)) (.int .i64 s) false).run Tryz.prog _ = .ok (.int .i64 0) _:=⟨h9.cellP iJ 4 rfl,fun k v hk=>h9.cellP aV (0+k) (by rw [acT,abY];exact hk),h9.cellP aV 0 rfl,hlk⟩;clear hlk hz hc;refine dS [12,13] (fun w'=>w'.cell? ⟨q,4,none⟩=some (.map (some gb))∧w'.rangeAt b7 0 [.int .i64 s,.slice fa fs.length fc,.int .i64 py]∧w'.cell? ⟨b7,0,none⟩=some (.int .i64 s)∧(Instr.lookup 142 (.map (some gb)) (.int .i64 s) false).run Tryz.prog w' = .ok (.int .i64 0) w') au ?_;refine rP 0 ?_ (y:=aZ);refine rP 1 ?_ (y:=dV);refine rP 2 ?_ (y:=bW);refine rt 3 (h:=?_);refine rP 4 ?_ (y:=bW);refine rt 5 (h:=?_);refine rt 6 (h:=?_);refine rP 7 ?_ (y:=kM)
   refine rP 8 ?_ (y:=aZ);refine rP 9 ?_ (y:=(tZ aj ak));refine gV 10 ak au eU (amj (b:=b7) (o:=0) [.int .i64 s,.slice fa fs.length fc,.int .i64 py] aj aj Tryz.underlying146 rfl au (fun w hw=>hw.2.1)) aQ gQ ?_;refine rP 11 ?_ (y:=(tZ aj ak));clear hG;refine bY 12 ak au (fun K hK=>?_);refine Wi [ptr q,.agg #[.int .i64 s,.slice fa fs.length fc,.int .i64 py],.int .i64 pc] aj au aj ?_;have hsp:=ae7 (y:=(s,fs,.slice fa fs.length fc)) (pc:=pc) ED.out rfl Hyf.out xg.out HP.out (h9.sb:Sat w0 _ (eG gb gs::dM q N (.slice (some ⟨bk,off,none⟩) ys.length lc) kp ip gb::dB kp mm B::dK bg::aI ip mi Bi::eP zs::pt b7 (.cells #[.int .i64 s,.slice fa fs.length fc,.int .i64 py] 146 (0,0))::aB 3 1 nv (ints cu)::aB 146 3 (.slice (some ⟨bk,off,none⟩) ys.length lc) (ys.flatMap dY)::F));dsimp only at hsp;rw [zC.out,Hz.out]at hsp;refine hsp.mono ?_;clear hsp;rintro ee w10 ⟨v,rfl,rfl,h10⟩
   refine hK _ _ (.inl rfl) ?_;clear hK h9;refine rP 13 ?_ (y:=(DZ aj ak ak));refine dI au ?_;rcases z with _|_
   focus
    have gy:=uQ (h10.sb:Sat w0 w10 (aB 3 1 nv (ints cu)::eG gb gs::dM q N (.slice (some ⟨bk,off,none⟩) ys.length lc) kp ip gb::aB 146 3 (.slice (some ⟨bk,off,none⟩) ys.length lc) (ys.flatMap dY)::dB kp mm B::dK bg::aI ip mi Bi::eP zs::F));clear h10;go_wp2_with fail
    go_roundg (ys.length - (i+1))
    case measure=>have:=jS.out;omega
    case rel=>exact ⟨i+1,_,rfl,rfl,adi jS.out,by first|rfl|go_num,by rw [qM.out];simp only [anY,afy,acM];exact gy.out⟩
   have e0:w10.cell? ⟨b7,0,none⟩=some (.int .i64 s):=h10.cellP (aT (aT (aT (aT (aT (aT aV)))))) 0 rfl;have hcl:(ints cu).length≤2147483648:=by
    rw [O6,← BU.out];unfold aO.nextL;rw [abl];have h2:=agJ (fun x => !gs.contains x.1 && aO.sparse P gs pc x) (P.aF.take i);have h3:=adu List.length HS.out.aF;rw [abl]at h3;rw [acA]at h2;have:=Hlen.out;omega
   have h11:Sat w0 w10 (aB 3 1 nv (ints cu)::eG gb gs::dM q N (.slice (some ⟨bk,off,none⟩) ys.length lc) kp ip gb::aB 146 3 (.slice (some ⟨bk,off,none⟩) ys.length lc) (ys.flatMap dY)::dB kp mm B::dK bg::aI ip mi Bi::eP zs::pt b7 (.cells #[.int .i64 s,.slice fa fs.length fc,.int .i64 py] 146 (0,0))::F):=h10.sb;clear h10;have fP:=uQ hcl;clear hcl
   go_wp2_with (first
    |((with_reducible refine pI ⟨?_⟩);refine o7 (e:=3) (sz:=1) (eY:=8) au h11 aj (cs:=#[.int .i64 s]) rfl rfl bJ ?_;intro bN wN hN)
    |((with_reducible refine lX ⟨?_⟩);refine pW 3 1 8 au hN aj aj aY aV aj (abL 1) aj fP.out (by show 1≤65536;decide) aN (ys:=ints [s]) rfl ?_;intro bA nA cA wA hA))
   rw [← O5]at hA;have gy:=uQ (hA.sb:Sat w0 wA (aB 3 1 (.slice (some ⟨bA,0,none⟩) nA cA) (ints (cu++[s]))::eG gb gs::dM q N (.slice (some ⟨bk,off,none⟩) ys.length lc) kp ip gb::aB 146 3 (.slice (some ⟨bk,off,none⟩) ys.length lc) (ys.flatMap dY)::dB kp mm B::dK bg::aI ip mi Bi::eP zs::F));clear h11 hN hA e0;go_wp2_with fail
   go_roundg (ys.length - (i+1))
   case measure=>have:=jS.out;omega
   case rel=>exact ⟨i+1,_,rfl,rfl,adi jS.out,by first|rfl|go_num,by rw [qM.out];simp only [anJ];exact gy.out⟩
end
end Go.Proofs.YtihngncbioofnaaGreatDoor
namespace Go.aO
open Go.ah (Bs dA aG dN encs fH)
open Go.Seg (aU)
open Go.Rep
open Go.ay
theorem ZT:∀ (es:List aG) (a:Nat),pay (dN es a)≤((encs es).length:Int)
 |[],a=>an2 _
 |e::es,a=>by
  have ih:=ZT es (a+(ah.encode e).1.length);have e1:(encs (e::es)).length=(ah.encode e).1.length+(encs es).length:=by
   show ((ah.encode e).1++encs es).length=_;rw [aaK]
  have e2:pay (dN (e::es) a)=(if e.tag=2 then 0 else ((ah.encode e).1.length:Int))+pay (dN es (a+(ah.encode e).1.length)):=rfl;rw [e1,e2];split <;> omega
theorem alf {K r E B n:Nat}{L:Seg.Log}{M:ay}{D:List (Nat×List aG)} (h:Seg.ji K r E B n L M D){x:Int×List dA} (hx:x∈fV D):pay x.2≤16777216∧x.2.length≤n:=by
 obtain ⟨d,hd,rfl⟩:=abZ.1 hx;constructor
 ·have h1:=Seg.EN (L:=L) h.hd.keeps.calm.ok (d.1:Int);rw [h.hd.bytes hd]at h1;have h2:=ZT d.2 8;have h3:(Seg.mag++encs d.2).length≤16777216:=h1;rw [aaK]at h3;show pay (dN d.2 8)≤_;omega
 ·show (dN d.2 8).length≤n;rw [← abl (f:=fun f:dA=>f.e),ah.xW];have h1:=h.few;unfold Seg.iF at h1;rw [List.flatMap_def]at h1;have h2:=(List.sublist_flatten_of_mem (abZ.2 ⟨d,hd,rfl⟩:d.2∈D.map (·.2))).length_le;omega
end Go.aO
namespace Go.Proofs.YtihngncbioofnaaGreatDoor
open Go Go.Sl Go.ay Go.MapKept Go.RowKit
section
variable {w0 w:World}{F:List aH}{gb q kp ip B Bi:Nat}{gs:List Int}{mm:ah.Bs→Option Rep.iw}{bg:List (Value×List Int)}{mi:ah.Bs→Option Seg.aU}{N pc:Int}{lv:Value}{P:aO.Plan}{zs ys:List Sg}{y:Sg}
theorem Vx (hS:xB P ys zs) (h:Sat w0 w (eG gb gs::dM q N lv kp ip gb::aB 146 3 lv (ys.flatMap dY)::F)) :
  Calls Tryz.prog 34 #[ptr q] w (aP fun v w'=>Sat w0 w' (aB 3 1 v (ints (aO.jZ gs P.aF))::eG gb gs::dM q N lv kp ip gb::aB 146 3 lv (ys.flatMap dY)::F)):=by
 have HS:=uQ hS;obtain ⟨la,lc,rfl⟩:=jl (f:=dY) (k:=3) (l:=ys) (fun y _=>BA y) (Sat.rd (h.pk (A:=aB 146 3 lv (ys.flatMap dY)))) aN;have Hlen:=uQ hS.len;have e1:w.cell? ⟨q,1,none⟩=some (.slice la ys.length lc):=h.cellP aY 1 rfl;have h1:Sat w0 w (aB 3 1 (.slice none 0 0) (ints (aO.jZ gs (P.aF.take 0)))::eG gb gs::dM q N (.slice la ys.length lc) kp ip gb::aB 146 3 (.slice la ys.length lc) (ys.flatMap dY)::F):=by
  rw [adH];exact Sat.gI.2 h
 clear h hS;go_enter Tryz.func34,Tryz.ntmps34;go_wp2_with fail;clear e1
 go_loopg [3,11] ys.length (fun g nq iq wr=>∃ (i:Nat) (nv:Value),nv=nq∧g=ys.length - i∧i≤ys.length∧iq = .int .i64 i∧Sat w0 wr (aB 3 1 nv (ints (aO.jZ gs (P.aF.take i)))::eG gb gs::dM q N (.slice la ys.length lc) kp ip gb::aB 146 3 (.slice la ys.length lc) (ys.flatMap dY)::F))
 case atStart=>exact ⟨0,_,rfl,rfl,acV _,rfl,h1⟩
 case round=>
  obtain ⟨i,nv,rfl,rfl,hi,rfl,hS⟩:=hrel;clear h1;by_cases hil:i<ys.length;rotate_left
  focus
   obtain rfl:i=ys.length:=by omega
   have c1:¬ (ys.length:Int)<(ys.length:Int):=oQ;have hal:P.aF.take ys.length=P.aF:=by rw [HS.out.aF,← abl (f:=fun y:Sg=>(y.1,jO y)),adk]
   rw [hal]at hS;clear hi hil hal;go_wp2_with fail;go_ret;exact ⟨_,rfl,hS⟩
  have c1:(i:Int)<(ys.length:Int):=oQ;have hwi:IntKind.i64.wrap ((i:Int)+1)=(i:Int)+1:=acC _ (by have:=Hlen.out;omega);obtain ⟨y,hy⟩:∃ y,ys[i]?=some y:=⟨_,aaI hil⟩;have hym:=abV hy;obtain ⟨_,fa,fc,hyl⟩:=HS.out.ok y hym;have gY:=uQ (HS.out.take hy);obtain ⟨bk,off,c2,e2,hcell⟩:=jG (f:=dY) (k:=3) (fun y _=>BA y) (Sat.rd (hS.pk (A:=aB 146 3 (.slice la ys.length lc) (ys.flatMap dY)))) hy aN;cases e2;have jS:=uQ hil;obtain ⟨s,fs,sv⟩:=y;dsimp only at hyl;subst hyl;have hcl:(ints (aO.jZ gs (P.aF.take i))).length≤2147483648:=by
   rw [O6];unfold aO.jZ;rw [abl];have h2:=agJ (fun x=>gs.contains x.1) (P.aF.take i);have h3:=adu List.length HS.out.aF;rw [abl]at h3;rw [acA]at h2;have:=Hlen.out;omega
  obtain ⟨cu,Ar⟩:∃ cu,aO.jZ gs (P.aF.take i)=cu:=⟨_,rfl⟩;rw [Ar]at hS hcl;have BU:=uQ Ar;have fP:=uQ hcl;have hcell:wr.rangeAt bk (off+i * 3) [.int .i64 s,.slice fa fs.length fc,.int .i64 (aO.pay (jO (s,fs,.slice fa fs.length fc)))]:=hcell;generalize aO.pay (jO (s,fs,.slice fa fs.length fc))=py at hcell;clear hy hym hi hil Ar hcl
  go_wp2_with (first
   |((with_reducible refine bI ⟨?_⟩);refine iL (b:=bk) (o:=off+i * 3) [.int .i64 s,.slice fa fs.length fc,.int .i64 py] aj hcell Tryz.underlying146 rfl au ?_)
   |(with_reducible apply gq))
  refine ⟨fF LC hS rfl ?_⟩;intro b7 w7 h7;clear hcell hS;go_wp2_with ((with_reducible refine cO ⟨?_⟩);refine gJ #[.int .i64 s,.slice fa fs.length fc,.int .i64 py] h7 aj aj aj cZ au aj ?_;intro w8 h8);have h9:=h8.drew;clear h7 h8;have hlk:=Jg s (h9.sb:Sat w0 _ (eG gb gs::pt b7 (.cells #[.int .i64 s,.slice fa fs.length fc,.int .i64 py] 146 (0,0))::aB 3 1 nv (ints cu)::dM q N (.slice (some ⟨bk,off,none⟩) ys.length lc) kp ip gb::aB 146 3 (.slice (some ⟨bk,off,none⟩) ys.length lc) (ys.flatMap dY)::F));have e4:World.cell? _ ⟨q,4,none⟩=some (.map (some gb)):=h9.cellP iJ 4 rfl;have e0:World.cell? _ ⟨b7,0,none⟩=some (.int .i64 s):=h9.cellP aV 0 rfl;by_cases hc:gs.contains s=true;rotate_left
  focus
   rw [abA hc]at hlk
   have qM:=uQ (show aO.jZ gs (P.aF.take (i+1))=cu by
    rw [gY.out,aO.Xj,abA hc,acM,BU.out])
   clear hc;have hG:World.cell? _ ⟨q,4,none⟩=some (.map (some gb))∧World.cell? _ ⟨b7,0,none⟩=some (.int .i64 s)∧(Instr.lookup 142 (.map (some gb)) (.int .i64 s) false).run Tryz.prog _ = .ok (.int .i64 0) _:=⟨e4,e0,hlk⟩;refine dS [7] (fun w'=>w'.cell? ⟨q,4,none⟩=some (.map (some gb))∧w'.cell? ⟨b7,0,none⟩=some (.int .i64 s)∧(Instr.lookup 142 (.map (some gb)) (.int .i64 s) false).run Tryz.prog w' = .ok (.int .i64 0) w') au ?_;refine rP 0 ?_ (y:=aZ);refine rP 1 ?_ (y:=dV);refine rP 2 ?_ (y:=bW);refine rt 3 (h:=?_);refine rP 4 ?_ (y:=bW);refine rt 5 (h:=?_);refine rt 6 (h:=?_);clear hG;refine rP 7 ?_ (y:=kM);refine dI au ?_;go_wp2_with fail
   go_roundg (ys.length - (i+1))
   case measure=>have:=jS.out;omega
   case rel=>exact ⟨i+1,_,rfl,rfl,adi jS.out,by first|rfl|go_num,by rw [qM.out];exact h9.drop⟩
  rw [acr hc]at hlk
  have qM:=uQ (show aO.jZ gs (P.aF.take (i+1))=cu++[s] by
   rw [gY.out,aO.Xj,acr hc,BU.out])
  clear hc;have hG:World.cell? _ ⟨q,4,none⟩=some (.map (some gb))∧World.cell? _ ⟨b7,0,none⟩=some (.int .i64 s)∧(Instr.lookup 142 (.map (some gb)) (.int .i64 s) false).run Tryz.prog _ = .ok (.int .i64 1) _:=⟨e4,e0,hlk⟩;refine dS [7] (fun w'=>w'.cell? ⟨q,4,none⟩=some (.map (some gb))∧w'.cell? ⟨b7,0,none⟩=some (.int .i64 s)∧(Instr.lookup 142 (.map (some gb)) (.int .i64 s) false).run Tryz.prog w' = .ok (.int .i64 1) w') au ?_;refine rP 0 ?_ (y:=aZ);refine rP 1 ?_ (y:=dV);refine rP 2 ?_ (y:=bW);refine rt 3 (h:=?_);refine rP 4 ?_ (y:=bW);refine rt 5 (h:=?_);refine rt 6 (h:=?_);clear hG;refine rP 7 ?_ (y:=kM);refine dI au ?_
  have h11:=(h9.sb:Sat w0 _ (aB 3 1 nv (ints cu)::pt b7 (.cells #[.int .i64 s,.slice fa fs.length fc,.int .i64 py] 146 (0,0))::eG gb gs::dM q N (.slice (some ⟨bk,off,none⟩) ys.length lc) kp ip gb::aB 146 3 (.slice (some ⟨bk,off,none⟩) ys.length lc) (ys.flatMap dY)::F));clear h9 hlk e4
  go_wp2_with (first
   |((with_reducible refine pI ⟨?_⟩);refine o7 (e:=3) (sz:=1) (eY:=8) au h11 aj (cs:=#[.int .i64 s]) rfl rfl bJ ?_;intro bN wN hN)
   |((with_reducible refine lX ⟨?_⟩);refine pW 3 1 8 au hN aj aj aY aV aj (abL 1) aj fP.out (by show 1≤65536;decide) aN (ys:=ints [s]) rfl ?_;intro bA nA cA wA hA))
  rw [← O5]at hA;have gy:=uQ (hA.sb:Sat w0 wA (aB 3 1 (.slice (some ⟨bA,0,none⟩) nA cA) (ints (cu++[s]))::eG gb gs::dM q N (.slice (some ⟨bk,off,none⟩) ys.length lc) kp ip gb::aB 146 3 (.slice (some ⟨bk,off,none⟩) ys.length lc) (ys.flatMap dY)::F));clear h11 hN hA e0;go_wp2_with fail
  go_roundg (ys.length - (i+1))
  case measure=>have:=jS.out;omega
  case rel=>exact ⟨i+1,_,rfl,rfl,adi jS.out,by first|rfl|go_num,by rw [qM.out];exact gy.out⟩
variable {r m p ps pn pi K r0 E n:Nat}{seg:Int}{d:Bool}{uv tv:Value}{us:List Rep.Use}{L:Seg.Log}{M:ay}{D:List (Nat×List ah.aG)}
def tC (N:Int) (mi:ah.Bs→Option Seg.aU) (D:List (Nat×List ah.aG)):aO.Plan:=⟨N,aO.fV D,aO.kH (aO.jK (aO.fV D)),mi⟩
def adJ (w0:World) (N pc:Int) (Bi n:Nat) (mi:ah.Bs→Option Seg.aU) (D:List (Nat×List ah.aG)) (R:List aH) (v:Value) (w':World):Prop:=
 ∃ (b kp ip gb Bk:Nat) (lv:Value) (mm:ah.Bs→Option Rep.iw) (bg:List (Value×List Int)) (ys zs:List Sg),v = .tuple #[ptr b,errno 0]∧EF (tC N mi D) N mm mi bg Bk Bi∧xB (tC N mi D) ys zs∧Sat w0 w' (eG gb (aO.chosen (tC N mi D) pc)::dM b N lv kp ip gb::aB 146 3 lv (ys.flatMap dY)::dB kp mm Bk::dK bg::aI ip mi Bi::eP zs::R)
theorem ajj {ys zs:List Sg}{Bk:Nat} (hR:Seg.ji K r0 E B n L M D) (hn:n≤1000) (pK:Bi≤13000000) (hys:(ys.map fun y=>(y.1,jO y))=aO.fV D) (hok:Iy ys) (hyz:∀ y∈ys,y∈zs) (hko:lN mm (aO.kH (aO.jK (aO.fV D))) bg) (CS:Bk≤n) :
  EF (tC N mi D) N mm mi bg Bk Bi∧xB (tC N mi D) ys zs:=by
 refine ⟨⟨rfl,rfl,hko,fun k=>?_,by omega,pK⟩,hys.symm,aO.alg hR.hd.rise,hyz,hok,fun y hy=>?_,?_⟩
 ·have h1:=aO.YB (aO.jK (aO.fV D)) k;rw [aO.QH]at h1;have:=hR.few;show (aO.iG (aO.kH (aO.jK (aO.fV D))) k).1.length≤_;omega
 ·have hx:(y.1,jO y)∈aO.fV D:=by rw [← hys];exact abZ.2 ⟨y,hy,rfl⟩
  obtain ⟨h1,h2⟩:=aO.alf hR hx;refine ⟨(hok y hy).1,h1,?_⟩;have h3:(jO y).length≤n:=h2;unfold jO at h3;rw [abl]at h3;omega
 ·have h1:=adu List.length hys;rw [abl,aO.KA]at h1;have:=hR.hd.count;omega
theorem VN (hpc:0≤pc∧pc≤100) (hR:Seg.ji K r0 E B n L M D) (hn:n≤1000) (hus:us.map (·.seg)=D.map fun d=>(d.1:Int)) (pK:Bi≤13000000) (hH:Ro w0 F Half)
  (h:Sat w0 w (aW r m seg p ps pn false::dh ps N pi uv tv::aI pi mi Bi::aB 45 3 uv (us.flatMap bT)::aK p m L::aJ m M::F)) :
  Calls Tryz.prog 33 #[ptr r,.int .i64 pc] w (aP fun v w'=>adJ w0 N pc Bi n mi D (aW r m seg p ps pn false::dh ps N pi uv tv::aI pi mi Bi::aB 45 3 uv (us.flatMap bT)::aK p m L::aJ m M::F) v w'):=by
 have hl:=Bv h;have hd:=ako h;have hrd:=ae1 hR hn hus (acz pK aN) hH h;have HR:=uQ hR;have Hn:=uQ hn;have G7:=uQ pK;have xg:=uQ hpc;clear h hR hn hus pK hH;have c1:decide (pc<0)=false:=ac4 oQ;have c1':¬ pc<0:=oQ;have c2:decide (pc>100)=false:=ac4 oQ;have c2':¬ 100<pc:=oQ;clear hpc;go_enter Tryz.func33,Tryz.ntmps33;go_wp2_with fail;refine hl.mono ?_;rintro ee w1 ⟨v,rfl,rfl,rfl⟩;go_wp2_with fail;refine hd.mono ?_;rintro ee w1 ⟨v,rfl,rfl,rfl⟩;go_wp2_with fail;refine hrd.mono ?_;rintro ee w2 ⟨v,rfl,b,kp,ip,gb,Bk,lv,mm,bg,ys,zs,rfl,k1,k2,k3,k4,k5,h2⟩;obtain ⟨hP,hS⟩:=ajj (N:=N) (mi:=mi) HR.out Hn.out G7.out k1 k2 k3 k4 k5;clear hl hd hrd k1 k2 k3 k4 k5;go_wp2_with fail
 refine (aeE xg.out hP hS (h2.sb:Sat w0 w2 (eG gb []::dM b N lv kp ip gb::aB 146 3 lv (ys.flatMap dY)::dB kp mm Bk::dK bg::aI ip mi Bi::eP zs::aW r m seg p ps pn false::dh ps N pi uv tv::aI pi mi Bi::aB 45 3 uv (us.flatMap bT)::aK p m L::aJ m M::F))).mono ?_;rintro ee w3 ⟨v,rfl,h3⟩;have gy:=uQ (And.intro hP (And.intro hS h3));clear h2 h3 hP hS;go_wp2_with fail
 go_ret2
 obtain ⟨k1,k2,k3⟩:=gy.out;exact ⟨_,rfl,b,kp,ip,gb,Bk,lv,mm,bg,ys,zs,rfl,k1,k2,k3⟩
theorem ae6 (hpc:0≤pc∧pc≤100) (hR:Seg.ji K r0 E B n L M D) (hn:n≤1000) (hus:us.map (·.seg)=D.map fun d=>(d.1:Int)) (pK:Bi≤13000000) (hH:Ro w0 F Half)
  (h:Sat w0 w (aW r m seg p ps pn false::dh ps N pi uv tv::aI pi mi Bi::aB 45 3 uv (us.flatMap bT)::aK p m L::aJ m M::F)) :
  Calls Tryz.prog 11 #[ptr r,.int .i64 pc] w (aP fun v w'=>∃ sv,v = .tuple #[sv,errno 0]∧Sat w0 w' (aB 3 1 sv (ints (aO.jZ (aO.chosen (tC N mi D) pc) (aO.fV D)))::aW r m seg p ps pn false::dh ps N pi uv tv::aI pi mi Bi::aB 45 3 uv (us.flatMap bT)::aK p m L::aJ m M::F)):=by
 have hp:=VN hpc hR hn hus pK hH h;clear h hR hn hus pK hH hpc;go_enter Tryz.func11,Tryz.ntmps11;go_wp2_with fail;refine hp.mono ?_;rintro ee w2 ⟨v,rfl,b,kp,ip,gb,Bk,lv,mm,bg,ys,zs,rfl,k1,k2,h2⟩;clear hp k1;go_wp2_with fail;refine (Vx k2 (h2.sb:Sat w0 w2 (eG gb (aO.chosen (tC N mi D) pc)::dM b N lv kp ip gb::aB 146 3 lv (ys.flatMap dY)::dB kp mm Bk::dK bg::aI ip mi Bi::eP zs::aW r m seg p ps pn false::dh ps N pi uv tv::aI pi mi Bi::aB 45 3 uv (us.flatMap bT)::aK p m L::aJ m M::F))).mono ?_;rintro ee w3 ⟨v,rfl,h3⟩;clear h2 k2;have gy:=uQ (h3.sb:Sat w0 w3 (aB 3 1 v (ints (aO.jZ (aO.chosen (tC N mi D) pc) (tC N mi D).aF))::aW r m seg p ps pn false::dh ps N pi uv tv::aI pi mi Bi::aB 45 3 uv (us.flatMap bT)::aK p m L::aJ m M::F));clear h3;go_wp2_with fail
 go_ret2
 exact ⟨_,rfl,_,rfl,gy.out⟩
end
end Go.Proofs.YtihngncbioofnaaGreatDoor
namespace Go.Seg
open Go.ay
open Go.ah (Bs aG encs fH dN)
open Go.Rep
def Log.copied (L:Log) (M:ay) (xs:List aG):(Log×ay)×Int:=
 if (L.appends M xs).2=0 then (((L.appends M xs).1.1.commit (L.appends M xs).1.2).1,((L.appends M xs).1.1.commit (L.appends M xs).1.2).2.2) else L.appends M xs
structure Ran (K r E B n:Nat) (L:Log) (M:ay) (D D1:List (Nat×List aG)) (N:Int) (gs:List Int) (xs:List aG):Prop where
 rp:ji K r E B n L M D1
 hn:HN M N
 lt:N<jg D1
 ends:wR D1
 obj:jA (iF D1)=jA (iF D)
 new:∃ N0 c es,D1=(D.filter fun d => !gs.contains (d.1:Int))++(N0++[(c,es++[bf])])∧iF N0++es=xs
section
variable {K r E B n:Nat}{L:Log}{M:ay}{D N1:List (Nat×List aG)}{N:Int}{us:List Use}{P:aO.Plan}{gs:List Int}{xs:List aG}
theorem HD.aeS (h:HD K r E B n L M (D++N1)) (hon:L.on=true→N1≠[]) (hn:n+E<499) :
  ((L.commit M).2.2=0∧∃ N2,HD (K+5) r E B (n+1) (L.commit M).1.1 (L.commit M).1.2 (D++N2)∧iF N2=iF N1++[bf]∧∃ N0 c es,N2=N0++[(c,es++[bf])]) ∨
  ((L.commit M).2.2=11∧HD (K+5) r E B (n+1) (L.commit M).1.1 (L.commit M).1.2 (D++N1)∧(L.commit M).1.1.fresh=L.fresh∧r<(n+1) * 400+B):=by
 have hnm:=h.names;have hus:=h.used;have hrm:=h.keeps.calm.room;rcases h.zK (x:=bf) oQ oQ aj with hz|hz
 ·obtain ⟨a1,a2,a3,a4⟩:=h.commit oQ (.inl hz);obtain ⟨N2,b1,b2,b3,b4,b5⟩:=Z8 (D:=D) (N:=N1) (x:=bf) (L.fits (ah.encode bf).1.length) fun hq=>hon (xU hq);rw [b1]at a4;exact .inl ⟨a1,N2,a4,b2,b5⟩
 ·have hz':(L.append M bf).2.2≠0:=by rw [hz];decide
  obtain ⟨_,k2⟩:=h.keeps.append bf rfl;obtain ⟨_,k4,_⟩:=k2 hz';have e:L.commit M=((L.append M bf).1,0,(L.append M bf).2.2):=by unfold Log.commit;rw [acr hz']
  rw [e];refine .inr ⟨hz,(h.IJ bf rfl hz').mono oQ (abL _) (abL _) oQ,k4,?_⟩;apply aog;intro q;exact hz' (h.append oQ bf rfl aN aj (.inr ⟨by omega,by omega⟩)).1
theorem aeY (h:ji K r E B n L M D):∀ x∈(aO.copy P gs (dG D)).map (·.2.e),Fine x:=fun x hx=>by
 obtain ⟨q,hq,rfl⟩:=abZ.1 hx;have h1:=(acY.1 hq).1;obtain ⟨_,h2,_⟩:=h.hd.row h1;refine ⟨h2.2,h.thin _ ?_,h2.1⟩;rw [← rV];exact abZ.2 ⟨q,h1,rfl⟩
theorem VJ (h:ji K r E B n L M D):((aO.copy P gs (dG D)).map (·.2.e)).length≤n:=by
 rw [abl];have h1:=agJ (fun r=>gs.contains r.1 && aO.counts P gs r.1 r.2) (dG D);have h2:=h.few;rw [← rV,abl]at h2;exact acz h1 h2
theorem agE {x:aG} (h:fH x):x.tag=0∨x.tag=1∨x.tag=2:=by
 rcases ah.EO (ah.ES h.1).1 with ⟨t,_⟩|⟨t,_⟩|⟨t,_⟩ <;> omega
theorem ji.same (h:ji K r E B n L M D) (hi:∀ k,P.index k=dO (dG D) k) (hk:P.keys=aO.kH (dG D)) (k:Bs):jA ((aO.stay gs (dG D)++aO.copy P gs (dG D)).map (·.2.e)) k=jA (iF D) k:=by
 rw [← rV];exact aO.ak7 hi hk (fun a ha b hb e=>ake h.hd.rise (fun d hd=>(h.hd.good d hd).1) ha hb e) (akd h.hd.rise) (fun a ha=>agE (h.hd.row ha).2.1) k
theorem agB (gs:List Int) (D:List (Nat×List aG)):aO.jZ gs (aO.fV D)=((D.filter fun d=>gs.contains (d.1:Int)).map (·.1)).map fun s:Nat=>(s:Int):=by
 unfold aO.jZ aO.fV;rw [List.filter_map,aee,aee]
 rfl
theorem ahV (D:List (Nat×List aG)) (d:Nat×List aG):jg (D++[d])=(d.1:Int):=by unfold jg;rw [anT];rfl
theorem ji.dir (h:ji K r E B n L M D):M.dR.2=0∧M.dR.1.now=M.now∧ji (K+1) r E B n L M.dR.1 D:=by
 have ed:=h.hd.keeps.calm.quiet.Gw;have hk:=h.hd.keeps.calm.dR;have hnw:M.dR.1.now=M.now:=by rw [ed]
 have had:Alike M M.dR.1:=by rw [ed];exact ⟨rfl,rfl,rfl,fun _ _=>rfl⟩
 refine ⟨by rw [ed],hnw,⟨h.hd.alike ⟨h.hd.keeps.log,hk.mono oQ,fun s hs=>by rw [hnw];exact h.hd.keeps.has s hs⟩ rfl had,by rw [hnw];exact h.tmp,h.few,by rw [hnw];exact h.small,h.thin⟩⟩
theorem CD.ran (h:CD K r E B n L M D N us) (hi:∀ k,P.index k=dO (dG D) k) (hk:P.keys=aO.kH (dG D)) (hxs:xs=(aO.copy P gs (dG D)).map (·.2.e)) (hn:2 * n+E<490) :
  (∃ N2,HD (K+4 * n+5) r E B (2 * n+1) (L.copied M xs).1.1 (L.copied M xs).1.2 (D++N2))∧(
  ((L.copied M xs).2=0∧((L.copied M xs).1.1.removes (L.copied M xs).1.2 (aO.jZ gs (aO.fV D))).2=0∧∃ D1,Ran (K+5 * n+5) r E B (2 * n+1) ((L.copied M xs).1.1.removes (L.copied M xs).1.2 (aO.jZ gs (aO.fV D))).1.1 ((L.copied M xs).1.1.removes (L.copied M xs).1.2 (aO.jZ gs (aO.fV D))).1.2 D D1 N gs xs) ∨
  ((L.copied M xs).2=11∧r<(2 * n+1) * 400+B∧((L.copied M xs).1.1.rollback (L.copied M xs).1.2).2=0∧HD (K+7 * n+7) r E B (2 * n+1) ((L.copied M xs).1.1.rollback (L.copied M xs).1.2).1.1 ((L.copied M xs).1.1.rollback (L.copied M xs).1.2).1.2 D)):=by
 have XP:∀ x∈xs,Fine x:=by rw [hxs];exact aeY h.rp
 have hlen:xs.length≤n:=by rw [hxs];exact VJ h.rp
 have h0:HD K r E B n L M (D++[]):=by rw [acM];exact h.rp.hd
 obtain ⟨N1,a1,a2,a3,a4,a5⟩:=h0.appends xs (fun q=>by rw [h.off]at q;cases q) (by rw [h.fresh];rfl) XP oQ;unfold Log.copied;generalize L.appends M xs=q at *
 obtain ⟨⟨L1,M1⟩,e1⟩:=q;dsimp only at a1 a2 a3 a4 a5 ⊢;have YL:∀ {K' n':Nat} {L':Log} {M':ay} {N':List (Nat×List aG)},HD K' r E B n' L' M' (D++N')→N'.length≤n':=fun hh=>by
  have:=hh.count;rw [aaK]at this;omega
 rcases a5 with ⟨rfl,b2,b3,b4⟩|rfl
 rotate_left
 ·rw [abA aN];obtain ⟨c1,c2,_,_⟩:=a1.rollback a2;have:=YL a1;refine ⟨⟨N1,a1.mono oQ (abL _) (abL _) oQ⟩,.inr ⟨rfl,?_,c1,c2.mono oQ (abL _) (abL _) oQ⟩⟩;apply aog;intro q;have:=a4 oQ;cases this
 rw [acr rfl];rw [show iF ([]:List (Nat×List aG))=[] from rfl,adl]at b2;have hgr:=a3.trans (aC.YH L1 M1);rcases a1.aeS b3 oQ with ⟨c1,N2,c2,c3,N0,c,es,rfl⟩|⟨c1,c2,c3,c4⟩
 rotate_left
 ·obtain ⟨d1,d2,_,_⟩:=c2.rollback (c3.trans a2);have:=YL c2;exact ⟨⟨N1,c2.mono oQ (abL _) (abL _) oQ⟩,.inr ⟨c1,Nat.lt_of_lt_of_le c4 (Nat.add_le_add_right (afx 400 oQ) B),d1,d2.mono oQ (abL _) (abL _) oQ⟩⟩
 generalize L1.commit M1=q at *
 obtain ⟨⟨L2,M2⟩,n2,e2⟩:=q;dsimp only at c1 c2 hgr ⊢;subst c1;obtain ⟨ss,hss⟩:∃ ss,ss=(D.filter fun d=>gs.contains (d.1:Int)).map (·.1):=⟨_,rfl⟩;have hr:=c2.rise;rw [ahE]at hr;have OQ:∀ s,s∈ss↔∃ d∈D,gs.contains (d.1:Int)=true∧d.1=s:=fun s=>by
  rw [hss,abZ];exact ⟨fun ⟨d,hd,e⟩=>⟨d,(acY.1 hd).1,(acY.1 hd).2,e⟩,fun ⟨d,hd,hg,e⟩=>⟨d,acY.2 ⟨hd,hg⟩,e⟩⟩
 have hnd:ss.Nodup:=by
  rw [hss];exact (hr.1.filter _).map _ fun a b hab=>by show a.1≠b.1;omega
 have hsl:ss.length≤n:=by
  rw [hss,abl];exact acz (agJ _ _) h.rp.hd.count
 obtain ⟨d1,d2,d3,d4⟩:=c2.removes ss hnd fun s hs=>by
  obtain ⟨d,hd,_,e⟩:=(OQ s).1 hs;exact ⟨d,ac3.2 (.inl hd),e⟩
 have hfil:((D++(N0++[(c,es++[bf])])).filter fun d => !ss.contains d.1)=(D.filter fun d => !gs.contains (d.1:Int))++(N0++[(c,es++[bf])]):=by
  rw [anS]
  congr 1
  ·refine List.filter_congr fun d hd=>?_
   congr 1
   rw [anu,an3,OQ];constructor
   ·rintro ⟨e,_,hg,he⟩;rw [← he];exact hg
   ·exact fun hg=>⟨d,hd,hg,rfl⟩
  ·rw [amw];intro d hd;rw [aoE,← aov,an3,OQ];rintro ⟨e,he,_,hed⟩;have:=hr.2.2 e he d hd;omega
 have hgo:(ss.map fun s:Nat=>(s:Int))=aO.jZ gs (aO.fV D):=by rw [agB,hss]
 rw [hfil]at d2;rw [hgo]at d1 d2 d3 d4;have OB:=hgr.trans d4;obtain ⟨F,hF⟩:∃ F,F=D.filter fun d => !gs.contains (d.1:Int):=⟨_,rfl⟩;have Om:iF F=(aO.stay gs (dG D)).map (·.2.e):=by rw [alS,rV,hF]
 rw [← hF]at d2;have hE1:iF (F++(N0++[(c,es++[bf])]))=(iF F++xs)++[bf]:=by rw [EW,c3,b2,acD]
 have hsub:∀ e∈iF F,e∈iF D:=fun e he=>by
  rw [Om]at he;rw [← rV];obtain ⟨q,hq,rfl⟩:=abZ.1 he;exact abZ.2 ⟨q,(acY.1 hq).1,rfl⟩
 have hsl2:(iF F).length≤n:=by
  rw [Om,abl];refine acz (agJ _ _) ?_;have:=h.rp.few;rw [← rV,abl]at this;exact this
 refine ⟨⟨_,c2.mono oQ (abL _) (abL _) oQ⟩,.inl ⟨rfl,d1,F++(N0++[(c,es++[bf])]),⟨⟨d2.mono oQ (abL _) (abL _) oQ,?_,?_,fun p hp=>?_,?_⟩,h.hn.grown OB,?_,fun d hd=>?_,?_,N0,c,es,by rw [hF],?_⟩⟩⟩
 ·cases hi:bP (L2.removes M2 (aO.jZ gs (aO.fV D))).1.2.now aC.tmp with
  |none=>rfl
  |some i=>
   rcases OB _ (jF hi) with q|⟨k,q⟩
   ·have:=Dh h.rp.hd.keeps.calm.ok.gG.mG.keys (show (aC.tmp,i)∈M.now from q);rw [h.rp.tmp]at this;cases this
   ·exact absurd q (aC.GH k)
 ·rw [hE1,aaK,aaK,ac7];omega
 ·rcases OB p hp with q|⟨k,q⟩
  ·exact h.rp.small p q
  ·rw [q];exact Zc k
 ·rw [hE1];intro e he;rcases ac3.1 he with he|he
  ·rcases ac3.1 he with he|he
   ·exact h.rp.thin e (hsub e he)
   ·exact (XP e he).data
  ·rw [acO.1 he];decide
 ·rw [← acD,ahV,h.st.last];unfold jg;cases hl:D.getLast? with
  |none=>simp only;omega
  |some d=>
   have:=hr.2.2 d (agv hl) (c,es++[bf]) (by simp);simp only at this ⊢;omega
 ·rw [← acD,anT]at hd;simp only [List.getLast?_singleton,Option.some_or,Option.some.injEq]at hd;rw [← hd];unfold lS;simp only;rw [anT]
  rfl
 ·funext k
  rw [hE1,ZJ rfl,Om,hxs,← acI];exact h.rp.same hi hk k
 ·rw [EW,show iF [(c,es++[bf])]=es++[bf] from acM _,← acD,b2]at c3;exact List.append_cancel_right c3
end
end Go.Seg
namespace Go.aO
open Go.ah (Bs dA aG dN encs fH)
open Go.Seg (dG)
open Go.Rep
def copyS (P:Plan) (gs:List Int) (l:List (Int×List dA)):List aG:=l.flatMap fun x=>if gs.contains x.1=true then (x.2.filter fun f=>counts P gs x.1 f).map (·.e) else []
theorem VH (P:Plan) (gs:List Int) (x:Int×List dA) (l:List (Int×List dA)):copyS P gs (x::l)=(if gs.contains x.1=true then (x.2.filter fun f=>counts P gs x.1 f).map (·.e) else [])++copyS P gs l:=by unfold copyS;rw [ada]
theorem VI (P:Plan) (gs:List Int):∀ D:List (Nat×List aG),copyS P gs (fV D)=(copy P gs (dG D)).map (·.2.e)
 |[]=>rfl
 |d::D=>by
  have e:fV (d::D)=((d.1:Int),dN d.2 8)::fV D:=rfl;have e1:copy P gs (dG (d::D))=copy P gs ((dN d.2 8).map fun f=>((d.1:Int),f))++copy P gs (dG D):=by unfold copy;rw [Seg.QF,anS]
  rw [e,VH,VI P gs D,e1,acI]
  congr 1
  unfold copy;rw [List.filter_map,aee];cases hg:gs.contains (d.1:Int) with
  |true=>
   rw [acr rfl];have e2:((fun r:Row=>gs.contains r.1 && counts P gs r.1 r.2) ∘ fun f:dA=>((d.1:Int),f))=fun f=>counts P gs (d.1:Int) f:=by
    funext f
    simp only [Function.comp_apply,hg,aoJ]
   rw [e2]
   rfl
  |false=>
   rw [abA aN];have e2:((fun r:Row=>gs.contains r.1 && counts P gs r.1 r.2) ∘ fun f:dA=>((d.1:Int),f))=fun f=>false:=by
    funext f
    simp only [Function.comp_apply,hg,Bool.false_and]
   rw [e2,List.filter_eq_nil_iff.2 fun _ _=>Bool.false_ne_true]
   rfl
def Dp (N:Int) (D:List (Nat×List aG)):Plan:=⟨N,fV D,kH (jK (fV D)),dO (dG D)⟩
theorem af9 {D:List (Nat×List aG)}{d:Nat×List aG}{f:dA} (hd:d∈D) (hf:f∈dN d.2 8):((d.1:Int),f)∈dG D:=ahK.2 ⟨d,hd,abZ.2 ⟨f,hf,rfl⟩⟩
structure Rnd (pc:Int) (D D1:List (Nat×List aG)):Prop where
 was:∃ (K r E B n:Nat) (L:Seg.Log) (M:ay.ay),Seg.ji K r E B n L M D
 did:D1=D∧jZ (chosen (Dp (Seg.jg D) D) pc) (fV D)=[]∨chosen (Dp (Seg.jg D) D) pc≠[]∧∃ N0 c es,D1=(D.filter fun d => !(chosen (Dp (Seg.jg D) D) pc).contains (d.1:Int))++(N0++[(c,es++[Seg.bf])])∧Seg.iF N0++es=(copy (Dp (Seg.jg D) D) (chosen (Dp (Seg.jg D) D) pc) (dG D)).map (·.2.e)
end Go.aO
namespace Go.Proofs.YtihngncbioofnaaGreatDoor
open Go Go.Sl Go.ay Go.MapKept Go.RowKit
section
variable {w0 w:World}{F:List aH}{gb q kp ip B Bi p m K:Nat}{gs:List Int}{mm:ah.Bs→Option Rep.iw}{bg:List (Value×List Int)}{mi:ah.Bs→Option Seg.aU}{N pc:Int}{lv:Value}{P:aO.Plan}{zs ys:List Sg}{L:Seg.Log}{M:ay}
theorem aeF (hS:xB P ys zs) (hP:EF P N mm mi bg B Bi) (hL:L.Ok) (hM:M.Ok K) (hK:K+4 * (aO.copyS P gs P.aF).length+6≤1099511627776) (hdl:∀ y∈ys,∀ q∈y.2.1,q.1.e.data.length≤1099511627) (hH:Ro w0 F Half)
  (h:Sat w0 w (eG gb gs::dM q N lv kp ip gb::aB 146 3 lv (ys.flatMap dY)::dB kp mm B::dK bg::aI ip mi Bi::eP zs::aK p m L::aJ m M::F)) :
  Calls Tryz.prog 35 #[ptr q,ptr p] w (aP fun v w'=>v=errno (L.copied M (aO.copyS P gs P.aF)).2∧Sat w0 w' (eG gb gs::dM q N lv kp ip gb::aB 146 3 lv (ys.flatMap dY)::dB kp mm B::dK bg::aI ip mi Bi::eP zs::aK p m (L.copied M (aO.copyS P gs P.aF)).1.1::aJ m (L.copied M (aO.copyS P gs P.aF)).1.2::F)):=by
 have HS:=uQ hS;have HP:=uQ hP;have HH:=uQ hH;have HDl:=uQ hdl;obtain ⟨Q,hQ⟩:∃ Q,L.appends M (aO.copyS P gs P.aF)=Q:=⟨_,rfl⟩;obtain ⟨R,hR⟩:∃ R,L.copied M (aO.copyS P gs P.aF)=R:=⟨_,rfl⟩;have G8:=uQ (show R=if Q.2=0 then ((Q.1.1.commit Q.1.2).1,(Q.1.1.commit Q.1.2).2.2) else Q by rw [← hR,← hQ];rfl);rw [hR];obtain ⟨la,lc,rfl⟩:=jl (f:=dY) (k:=3) (l:=ys) (fun y _=>BA y) (Sat.rd (h.pk (A:=aB 146 3 lv (ys.flatMap dY)))) aN;have Hlen:=uQ hS.len;have e1:w.cell? ⟨q,1,none⟩=some (.slice la ys.length lc):=h.cellP aY 1 rfl;have Ee:=uQ (show L.appends M (aO.copyS P gs (P.aF.drop 0))=Q∧L.Ok∧M.Ok K∧K+4 * (aO.copyS P gs (P.aF.drop 0)).length+6≤1099511627776 by rw [aoy];exact ⟨hQ,hL,hM,hK⟩);clear hS hP hH hdl hL hM hK hQ hR;go_enter Tryz.func35,Tryz.ntmps35;go_wp2_with fail;clear e1
 go_loopg [18] ys.length (fun g iq wr=>∃ (i K1:Nat) (L1:Seg.Log) (M1:ay),g=ys.length - i∧i≤ys.length∧iq = .int .i64 i∧(L1.appends M1 (aO.copyS P gs (P.aF.drop i))=Q∧L1.Ok∧M1.Ok K1∧K1+4 * (aO.copyS P gs (P.aF.drop i)).length+6≤1099511627776)∧Sat w0 wr (eG gb gs::dM q N (.slice la ys.length lc) kp ip gb::aB 146 3 (.slice la ys.length lc) (ys.flatMap dY)::dB kp mm B::dK bg::aI ip mi Bi::eP zs::aK p m L1::aJ m M1::F))
 case atStart=>exact ⟨0,K,L,M,rfl,acV _,rfl,Ee.out,h⟩
 case round=>
  obtain ⟨i,K1,L1,M1,rfl,hi,rfl,hin,hS⟩:=hrel;clear h Ee;by_cases hil:i<ys.length;rotate_left
  focus
   obtain rfl:i=ys.length:=by omega
   have c1:¬ (ys.length:Int)<(ys.length:Int):=oQ;have hal:P.aF.drop ys.length=[]:=by rw [HS.out.aF];exact adp (by rw [abl];exact abL _)
   rw [hal]at hin;obtain ⟨i1,i2,i3,i4⟩:=hin;have hQ:Q=((L1,M1),0):=i1.symm;have hcm:=Ph (Ro.os HH.out) i2 i3 (acz (Nat.add_le_add_right (Nat.le_add_right _ _) 6) i4) (hS.sb:Sat w0 wr (aK p m L1::aJ m M1::eG gb gs::dM q N (.slice la ys.length lc) kp ip gb::aB 146 3 (.slice la ys.length lc) (ys.flatMap dY)::dB kp mm B::dK bg::aI ip mi Bi::eP zs::F));have hfin:R=((L1.commit M1).1,(L1.commit M1).2.2):=by rw [G8.out,hQ];rfl
   generalize L1.commit M1=z at *
   obtain ⟨⟨L2,M2⟩,n2,e2⟩:=z;dsimp only at hcm hfin;have bF:=uQ hfin;clear hi hil hal i1 i2 i3 i4 hQ hfin G8 hS;go_wp2_with fail;refine hcm.mono ?_;rintro ee w2 ⟨v,rfl,rfl,h2⟩;clear hcm;have gy:=uQ (h2.sb:Sat w0 w2 (eG gb gs::dM q N (.slice la ys.length lc) kp ip gb::aB 146 3 (.slice la ys.length lc) (ys.flatMap dY)::dB kp mm B::dK bg::aI ip mi Bi::eP zs::aK p m L2::aJ m M2::F));clear h2;go_wp2_with fail;go_ret;rw [bF.out];exact ⟨_,rfl,rfl,gy.out⟩
  have c1:(i:Int)<(ys.length:Int):=oQ;have hwi:IntKind.i64.wrap ((i:Int)+1)=(i:Int)+1:=acC _ (by have:=Hlen.out;omega);obtain ⟨y,hy⟩:∃ y,ys[i]?=some y:=⟨_,aaI hil⟩;have hym:=abV hy;have X8:P.aF.drop i=(y.1,jO y)::P.aF.drop (i+1):=by
   have h1:P.aF[i]?=some (y.1,jO y):=by rw [HS.out.aF,acE,hy];rfl
   obtain ⟨h2,h3⟩:=abW.1 h1;rw [aic h2,h3]
  rw [X8,aO.VH]at hin;obtain ⟨bk,off,c2,e2,hcell0⟩:=jG (f:=dY) (k:=3) (fun y _=>BA y) (Sat.rd (hS.pk (A:=aB 146 3 (.slice la ys.length lc) (ys.flatMap dY)))) hy aN;cases e2;have jS:=uQ hil;have LZ:=uQ (HS.out.fit y hym);have ED:=uQ (HS.out.mem y hym);have UH:=uQ (HDl.out y hym);obtain ⟨_,fa,fc,hyl⟩:=HS.out.ok y hym;obtain ⟨s,fs,sv⟩:=y;dsimp only at hyl;subst hyl;have hcell:wr.rangeAt bk (off+i * 3) [.int .i64 s,.slice fa fs.length fc,.int .i64 (aO.pay (jO (s,fs,.slice fa fs.length fc)))]:=hcell0;clear hcell0;generalize aO.pay (jO (s,fs,.slice fa fs.length fc))=py at hcell;rw [show jO (s,fs,Value.slice fa fs.length fc)=fs.map (·.1) from rfl]at hin;dsimp only at hin UH;obtain ⟨T,hT⟩:∃ T,aO.copyS P gs (P.aF.drop (i+1))=T:=⟨_,rfl⟩;rw [hT]at hin;have HT:=uQ hT;have aC:=uQ hin;clear hy hym hi hil X8 hin hT
  go_wp2_with (first
   |((with_reducible refine bI ⟨?_⟩);refine iL (b:=bk) (o:=off+i * 3) [.int .i64 s,.slice fa fs.length fc,.int .i64 py] aj hcell Tryz.underlying146 rfl au ?_)
   |(with_reducible apply gq))
  refine ⟨fF LC hS rfl ?_⟩;intro b7 w7 h7;clear hcell hS;go_wp2_with ((with_reducible refine cO ⟨?_⟩);refine gJ #[.int .i64 s,.slice fa fs.length fc,.int .i64 py] h7 aj aj aj cZ au aj ?_;intro w8 h8);have h9:=h8.drew;clear h7 h8;have hlk:=Jg s (h9.sb:Sat w0 _ (eG gb gs::pt b7 (.cells #[.int .i64 s,.slice fa fs.length fc,.int .i64 py] 146 (0,0))::dM q N (.slice (some ⟨bk,off,none⟩) ys.length lc) kp ip gb::aB 146 3 (.slice (some ⟨bk,off,none⟩) ys.length lc) (ys.flatMap dY)::dB kp mm B::dK bg::aI ip mi Bi::eP zs::aK p m L1::aJ m M1::F));have e4:World.cell? _ ⟨q,4,none⟩=some (.map (some gb)):=h9.cellP (aT (aT aV)) 4 rfl;have e0:World.cell? _ ⟨b7,0,none⟩=some (.int .i64 s):=h9.cellP aV 0 rfl;by_cases hc:gs.contains s=true;rotate_left
  focus
   rw [abA hc]at hlk
   have Ij:=uQ (show L1.appends M1 T=Q∧L1.Ok∧M1.Ok K1∧K1+4 * T.length+6≤1099511627776 by
    have h1:=aC.out;rw [abA hc,adl]at h1;exact h1)
   clear hc aC;have hG:World.cell? _ ⟨q,4,none⟩=some (.map (some gb))∧World.cell? _ ⟨b7,0,none⟩=some (.int .i64 s)∧(Instr.lookup 142 (.map (some gb)) (.int .i64 s) false).run Tryz.prog _ = .ok (.int .i64 0) _:=⟨e4,e0,hlk⟩;refine dS [7] (fun w'=>w'.cell? ⟨q,4,none⟩=some (.map (some gb))∧w'.cell? ⟨b7,0,none⟩=some (.int .i64 s)∧(Instr.lookup 142 (.map (some gb)) (.int .i64 s) false).run Tryz.prog w' = .ok (.int .i64 0) w') au ?_;refine rP 0 ?_ (y:=aZ);refine rP 1 ?_ (y:=dV);refine rP 2 ?_ (y:=bW);refine rt 3 (h:=?_);refine rP 4 ?_ (y:=bW);refine rt 5 (h:=?_);refine rt 6 (h:=?_);clear hG;refine rP 7 ?_ (y:=kM);refine dI au ?_;have gy:=uQ (h9.drop);clear h9;go_wp2_with fail
   go_roundg (ys.length - (i+1))
   case measure=>have:=jS.out;omega
   case rel=>exact ⟨i+1,K1,L1,M1,rfl,adi jS.out,by first|rfl|go_num,by rw [HT.out];exact Ij.out,gy.out⟩
  rw [acr hc]at hlk
  have Ij:=uQ (show L1.appends M1 (((((fs.drop 0).map (·.1)).filter fun f=>aO.counts P gs s f).map (·.e))++T)=Q∧L1.Ok∧M1.Ok K1∧K1+4 * (((((fs.drop 0).map (·.1)).filter fun f=>aO.counts P gs s f).map (·.e))++T).length+6≤1099511627776 by
   have h1:=aC.out;rw [acr hc]at h1;rw [aoy];exact h1)
  clear hc aC;have hG:World.cell? _ ⟨q,4,none⟩=some (.map (some gb))∧World.cell? _ ⟨b7,0,none⟩=some (.int .i64 s)∧(Instr.lookup 142 (.map (some gb)) (.int .i64 s) false).run Tryz.prog _ = .ok (.int .i64 1) _:=⟨e4,e0,hlk⟩;refine dS [7] (fun w'=>w'.cell? ⟨q,4,none⟩=some (.map (some gb))∧w'.cell? ⟨b7,0,none⟩=some (.int .i64 s)∧(Instr.lookup 142 (.map (some gb)) (.int .i64 s) false).run Tryz.prog w' = .ok (.int .i64 1) w') au ?_;refine rP 0 ?_ (y:=aZ);refine rP 1 ?_ (y:=dV);refine rP 2 ?_ (y:=bW);refine rt 3 (h:=?_);refine rP 4 ?_ (y:=bW);refine rt 5 (h:=?_);refine rt 6 (h:=?_);clear hG;refine rP 7 ?_ (y:=kM);refine dI au ?_;clear hlk e4 e0;have e1:World.cell? _ ⟨b7,1,none⟩=some (.slice fa fs.length fc):=h9.cellP aV 1 rfl;have zl:=uQ LZ.out.len
  obtain ⟨G,HG⟩:∃ G,Hid (G=eG gb gs::dM q N (.slice (some ⟨bk,off,none⟩) ys.length lc) kp ip gb::aB 146 3 (.slice (some ⟨bk,off,none⟩) ys.length lc) (ys.flatMap dY)::dB kp mm B::dK bg::aI ip mi Bi::eP zs::F):=⟨_,uQ rfl⟩;have hA:=(h9.sb:Sat w0 _ (pt b7 (.cells #[.int .i64 s,.slice fa fs.length fc,.int .i64 py] 146 (0,0))::eG gb gs::dM q N (.slice (some ⟨bk,off,none⟩) ys.length lc) kp ip gb::dB kp mm B::dK bg::aI ip mi Bi::eP zs::aB 146 3 (.slice (some ⟨bk,off,none⟩) ys.length lc) (ys.flatMap dY)::aK p m L1::aJ m M1::F));clear h9 HG;go_wp2_with fail;clear e1
  go_loopg [33] fs.length (fun g jq wr=>∃ (j K2:Nat) (L2:Seg.Log) (M2:ay),g=fs.length - j∧j≤fs.length∧jq = .int .i64 j∧(L2.appends M2 (((((fs.drop j).map (·.1)).filter fun f=>aO.counts P gs s f).map (·.e))++T)=Q∧L2.Ok∧M2.Ok K2∧K2+4 * (((((fs.drop j).map (·.1)).filter fun f=>aO.counts P gs s f).map (·.e))++T).length+6≤1099511627776)∧Sat w0 wr (pt b7 (.cells #[.int .i64 s,.slice fa fs.length fc,.int .i64 py] 146 (0,0))::eG gb gs::dM q N (.slice (some ⟨bk,off,none⟩) ys.length lc) kp ip gb::dB kp mm B::dK bg::aI ip mi Bi::eP zs::aB 146 3 (.slice (some ⟨bk,off,none⟩) ys.length lc) (ys.flatMap dY)::aK p m L2::aJ m M2::F))
  case atStart=>exact ⟨0,K1,L1,M1,rfl,acV _,rfl,Ij.out,hA⟩
  case round=>
   obtain ⟨j,K2,L2,M2,rfl,hj,rfl,hin,hS⟩:=hrel;clear hA Ij;by_cases hjl:j<fs.length;rotate_left
   focus
    obtain rfl:j=fs.length:=by omega
    have d1:¬ (fs.length:Int)<(fs.length:Int):=oQ
    have Hi3:=uQ (show L2.appends M2 T=Q∧L2.Ok∧M2.Ok K2∧K2+4 * T.length+6≤1099511627776 by
     rw [List.drop_length]at hin;exact hin)
    have gy:=uQ (hS.sb:Sat w0 wr (eG gb gs::dM q N (.slice (some ⟨bk,off,none⟩) ys.length lc) kp ip gb::aB 146 3 (.slice (some ⟨bk,off,none⟩) ys.length lc) (ys.flatMap dY)::dB kp mm B::dK bg::aI ip mi Bi::eP zs::aK p m L2::aJ m M2::F));clear hin hS hj hjl;go_wp2_with fail
    go_roundg (ys.length - (i+1))
    case measure=>have:=jS.out;omega
    case rel=>exact ⟨i+1,K2,L2,M2,rfl,adi jS.out,by first|rfl|go_num,by rw [HT.out];exact Hi3.out,gy.out⟩
   have d1:(j:Int)<(fs.length:Int):=oQ;have Ju:IntKind.i64.wrap ((j:Int)+1)=(j:Int)+1:=acC _ (by have:=zl.out;omega);obtain ⟨⟨f,dv⟩,hq⟩:∃ q,fs[j]?=some q:=⟨_,aaI hjl⟩;have hfm:=abV hq;have pO:f.e.key.length=32:=LZ.out.key _ hfm;have hrd:Ro w0 (eP zs::F) (bG 1 dv (aA f.e.data)):=fun w' hw=>by
    obtain ⟨a,n,c,e,_,h1⟩:=Nw ED.out hfm hw;exact h1
   obtain ⟨da,dn,dc,rfl,hdn,_⟩:=Nw ED.out hfm (hS.pk (A:=eP zs));subst hdn;have ML:=uQ hrd;have TL:=uQ (UH.out _ hfm);dsimp only at TL;obtain ⟨bk2,off2,cc2,e2,hcell⟩:=jG (f:=fun q:ah.dA×Value=>mO q.1 q.2) (k:=36) (fun q hq=>sH q.1 q.2 (LZ.out.key q hq)) (Vh ED.out (hS.pk (A:=eP zs))) hq aN;cases e2;have Au:(mO f (.slice da f.e.data.length dc)).length=36:=sH _ _ pO;have hfd:fs.drop j=(f,Value.slice da f.e.data.length dc)::fs.drop (j+1):=by
    obtain ⟨h2,h3⟩:=abW.1 hq;rw [aic h2,h3]
   rw [hfd,acS,aie]at hin;dsimp only at hin;have lD:=uQ hjl;have kL:=uQ pO;have aC:=uQ hin;clear hq hfm pO hj hjl hin hfd hrd
   go_wp2_with (first
    |((with_reducible refine bI ⟨?_⟩);refine iL (b:=bk2) (o:=off2+j * 36) (mO f (.slice da f.e.data.length dc)) aj hcell Tryz.underlying54 rfl (by rw [Au];kernel_rfl) ?_)
    |(with_reducible apply gq))
   refine ⟨fF GY hS rfl ?_⟩;intro b9 w9 h9;clear hcell hS;go_wp2_with (with_reducible apply cO);refine ⟨gJ (fU f (.slice da f.e.data.length dc)) h9 aj aj (by rw [oK _ _ kL.out];rfl) cZ (by rw [oK _ _ kL.out];kernel_rfl) (E5 _ _ _ _) ?_⟩;intro w10 h10;clear h9;have e0:w10.cell? ⟨b7,0,none⟩=some (.int .i64 s):=h10.cellP aY 0 rfl;go_wp2_with ((with_reducible refine bI ⟨?_⟩);refine iW (cs:=fU f (.slice da f.e.data.length dc)) h10 aj aV Tryz.underlying54 rfl (by rw [oK _ _ kL.out];kernel_rfl) ?_)
   refine (Vw (s:=s) (f:=f) kL.out HP.out.b1 HP.out.b2 HP.out.key HP.out.len HP.out.idx (h10.sb:Sat w0 w10 (eG gb gs::dM q N (.slice (some ⟨bk,off,none⟩) ys.length lc) kp ip gb::dB kp mm B::dK bg::aI ip mi Bi::pt b9 (.cells (fU f (.slice da f.e.data.length dc)) 54 (0,0))::pt b7 (.cells #[.int .i64 s,.slice (some ⟨bk2,off2,none⟩) fs.length fc,.int .i64 py] 146 (0,0))::eP zs::aB 146 3 (.slice (some ⟨bk,off,none⟩) ys.length lc) (ys.flatMap dY)::aK p m L2::aJ m M2::F))).mono ?_;rintro ee iV ⟨v,rfl,rfl,h11⟩;clear h10 e0;obtain ⟨z,hz⟩:∃ z,aO.counts P gs s f=z:=⟨_,rfl⟩;rw [hz]at aC ⊢;clear hz;rcases z with _|_
   focus
    have gy:=uQ (h11.sb:Sat w0 iV (pt b7 (.cells #[.int .i64 s,.slice (some ⟨bk2,off2,none⟩) fs.length fc,.int .i64 py] 146 (0,0))::eG gb gs::dM q N (.slice (some ⟨bk,off,none⟩) ys.length lc) kp ip gb::dB kp mm B::dK bg::aI ip mi Bi::eP zs::aB 146 3 (.slice (some ⟨bk,off,none⟩) ys.length lc) (ys.flatMap dY)::aK p m L2::aJ m M2::F));clear h11;go_wp2_with fail
    go_roundg (fs.length - (j+1))
    case measure=>have:=lD.out;omega
    case rel=>exact ⟨j+1,K2,L2,M2,rfl,adi lD.out,by first|rfl|go_num,aC.out,gy.out⟩
   obtain ⟨i1,i2,i3,i4⟩:=aC.out;rw [acr rfl,acS,adA]at i1 i4;rw [ac5]at i4;have hap:=Dc f.e kL.out da dc (Ro.os ML.out) (Ro.os HH.out) TL.out i2 i3 oQ (h11.sb:Sat w0 iV (aK p m L2::aJ m M2::pt b9 (.cells (fU f (.slice da f.e.data.length dc)) 54 (0,0))::pt b7 (.cells #[.int .i64 s,.slice (some ⟨bk2,off2,none⟩) fs.length fc,.int .i64 py] 146 (0,0))::eG gb gs::dM q N (.slice (some ⟨bk,off,none⟩) ys.length lc) kp ip gb::dB kp mm B::dK bg::aI ip mi Bi::eP zs::aB 146 3 (.slice (some ⟨bk,off,none⟩) ys.length lc) (ys.flatMap dY)::F))
   have fe:iV.rangeAt b9 0 (kX f.e (.slice da f.e.data.length dc)):=fun k v hk=>h11.cellP (aT (aT (aT (aT (aT aV))))) (0+k) (by
    rw [acT];unfold fU mO;rw [abY,ac2 (abW.1 hk).1];exact hk)
   have lM:=uQ (Seg.Log.Ok.append i2 M2 f.e kL.out);have Uj:=uQ (Seg.Log.U1 (L:=L2) i3 f.e);have hun:L2.appends M2 (f.e::((((fs.drop (j+1)).map (·.1)).filter fun f=>aO.counts P gs s f).map (·.e)++T))=if (L2.append M2 f.e).2.2=0 then (L2.append M2 f.e).1.1.appends (L2.append M2 f.e).1.2 ((((fs.drop (j+1)).map (·.1)).filter fun f=>aO.counts P gs s f).map (·.e)++T) else ((L2.append M2 f.e).1,(L2.append M2 f.e).2.2):=rfl
   rw [hun]at i1;clear hun i2 i3 aC;generalize L2.append M2 f.e=z at *
   obtain ⟨⟨L3,M3⟩,pl,e3⟩:=z;dsimp only at hap i1 lM Uj;have HI1:=uQ i1;have HI4:=uQ i4;clear h11 i1 i4;go_wp2_with ((with_reducible refine bI ⟨?_⟩);refine iL (b:=b9) (o:=0) (kX f.e (.slice da f.e.data.length dc)) aj fe Tryz.underlying52 rfl (by rw [NW _ _ kL.out];exact CY) ?_);refine hap.mono ?_;rintro ee w12 ⟨v,rfl,rfl,h12⟩;clear hap fe;go_wp2_with (with_reducible apply gq);refine ⟨fF ng h12 rfl ?_⟩;intro b13 jU h13;clear h12;go_wp2_with (with_reducible apply cO);refine ⟨gJ (aS pl).toArray h13 aj aj aj cZ au aj ?_⟩;intro nN ku;clear h13;by_cases he:e3=0;rotate_left
   focus
    have hb:(e3 != 0)=true:=agL.2 he;have hfin:R=((L3,M3),e3):=by
     have h1:=HI1.out;rw [abA he]at h1;rw [G8.out,← h1,abA he]
    have bF:=uQ hfin;have gy:=uQ (ku.sb:Sat w0 nN (eG gb gs::dM q N (.slice (some ⟨bk,off,none⟩) ys.length lc) kp ip gb::aB 146 3 (.slice (some ⟨bk,off,none⟩) ys.length lc) (ys.flatMap dY)::dB kp mm B::dK bg::aI ip mi Bi::eP zs::aK p m L3::aJ m M3::F));clear ku he hfin G8 HI1;go_wp2_with fail;go_ret;rw [bF.out];exact ⟨_,rfl,rfl,gy.out⟩
   have hb:(e3 != 0)=false:=by rw [he];rfl
   have Hi5:=uQ (show L3.appends M3 ((((fs.drop (j+1)).map (·.1)).filter fun f=>aO.counts P gs s f).map (·.e)++T)=Q∧L3.Ok∧M3.Ok (K2+4)∧K2+4+4 * ((((fs.drop (j+1)).map (·.1)).filter fun f=>aO.counts P gs s f).map (·.e)++T).length+6≤1099511627776 by
    have h1:=HI1.out;rw [acr he]at h1;exact ⟨h1,lM.out,Uj.out,by have:=HI4.out;omega⟩)
   have gy:=uQ (ku.sb:Sat w0 nN (pt b7 (.cells #[.int .i64 s,.slice (some ⟨bk2,off2,none⟩) fs.length fc,.int .i64 py] 146 (0,0))::eG gb gs::dM q N (.slice (some ⟨bk,off,none⟩) ys.length lc) kp ip gb::dB kp mm B::dK bg::aI ip mi Bi::eP zs::aB 146 3 (.slice (some ⟨bk,off,none⟩) ys.length lc) (ys.flatMap dY)::aK p m L3::aJ m M3::F));clear ku he HI1;go_wp2_with fail
   go_roundg (fs.length - (j+1))
   case measure=>have:=lD.out;omega
   case rel=>exact ⟨j+1,K2+4,L3,M3,rfl,adi lD.out,by first|rfl|go_num,Hi5.out,gy.out⟩
end
def oH (w0:World) (r m:Nat) (seg:Int) (K r0 E n:Nat) (D:List (Nat×List ah.aG)) (F:List aH) (w:World):Prop:=
 ∃ (ps p pn pi B B2 B0:Nat) (uv tv:Value) (N:Int) (us:List Rep.Use) (L:Seg.Log) (M:ay),(Seg.CD K r0 E B0 n L M D N us∧B≤n∧B2≤n) ∧
  Sat w0 w (aW r m seg p ps pn false::aI pn (Rep.dO (Seg.dG D)) B::aK p m L::aJ m M::dh ps N pi uv tv::aI pi (Rep.dO (Seg.dG D)) B2::aB 45 3 uv (us.flatMap bT)::F)
section
variable {w0 w:World}{F:List aH}{r p m K r0 E B n:Nat}{L:Seg.Log}{M:ay}{D:List (Nat×List ah.aG)}{N limit seg:Int}{us:List Rep.Use}{o oc:ah.Bs→Option ah.Bs}
theorem iE.rd (h:iE w0 r m seg K r0 E n o oc false F w) (h1:300000≤r0) (h2:n≤45) (h3:E≤90):∃ D,o=Rep.jA (Seg.iF D)∧oH w0 r m seg K r0 E n D F w:=by
 obtain ⟨ps,p,pn,pi,B,B2,B0,uv,tv,N,us,L,M,C,C0,hf,hS⟩:=h;obtain rfl:=hf.clean rfl;obtain ⟨hu,pl,hst,_⟩:=id hf.ext;have hfr:=hf.pJ.fresh;refine ⟨Seg.kD C,by rw [Seg.NY];exact hf.now,ps,p,pn,pi,B,B2,B0,uv,tv,N,us,L,M,⟨⟨hf.rp.rpd,?_,by omega,hf.ext.hd h1 h2 h3 hf.small⟩,hf.b1,hf.b2⟩,?_⟩
 ·cases ho:L.on with
  |false=>rfl
  |true=>exact absurd (hf.pJ.base.gt ho) (Nat.lt_irrefl _)
 ·rw [Seg.J9];exact hS
def UN (w0:World) (p m n:Nat) (L:Seg.Log) (M:ay) (D:List (Nat×List ah.aG)) (F:List aH) (v:Value) (w:World):Prop:=
 ∃ (ps pi:Nat) (uv tv:Value) (x:List (ah.Bs×Rep.dP)×Nat),v = .tuple #[ptr ps,.agg (fA Rep.dZ.zero),errno 0]∧(∃ a c,tv = .slice a 0 c)∧(Tab.Lists (Rep.ledger (Seg.dG D)) x.1∧(∀ q∈x.1,q.1.length=32)∧x.2≤n∧x.1.length≤n) ∧
  Sat w0 w (dh ps (Seg.jg D) pi uv tv::aI pi (Tab.mapOf (Rep.puts x.1)) x.2::aB 45 3 uv (((Seg.lC D).map (Rep.upd x.1)).flatMap bT)::aK p m L::aJ m M::F)
theorem akv (hR:Seg.ji K r0 E B n L M D) (hn:n≤1000) (he:Seg.wR D) (hH:Ro w0 F Half) (h:Sat w0 w (aK p m L::aJ m M::F)) :
  Calls Tryz.prog 62 #[ptr p] w (aP fun v w'=>UN w0 p m n L M D F v w'):=by
 obtain ⟨_,q2,q3⟩:=hR.hd.last he;refine (Q5 hR.hd.keeps.log hR.hd.keeps.calm.ok hH (acz hR.iY oQ) hR.QK h).mono ?_;rintro e w' ⟨v,rfl,ho⟩;unfold vN at ho;rw [show Rep.run (dH L M) L.aF = .inr L.aF.length from q2]at ho;obtain ⟨ps,pi,uv,tv,av,kv,rfl,⟨k1,k2,k3⟩,⟨⟨a,c,rfl⟩,_⟩,hS⟩:=ho;rw [adk]at k1 k3 hS;rw [show Rep.rowsOf (dH L M) L.aF=Seg.dG D from hR.hd.rows]at k1;rw [q3,show Rep.jC (dH L M) L.aF=Seg.lC D from hR.hd.uses,anm]at hS;have hl:=acz k3 hR.iY;exact ⟨_,rfl,ps,pi,uv,_,(kv,kv.length),rfl,⟨a,c,rfl⟩,⟨k1,k2,hl,hl⟩,hS.sb⟩
theorem agb (hR:Seg.ji K r0 E B n L M D) (hn:n≤1000) (he:Seg.wR D) (hN:N=Seg.jg D) (h0:0≤N) (hnw:aC.newest M≤N) (hth:aC.there M (aC.name aC.idx N)=false) (hH:Ro w0 F Half) (h:Sat w0 w (aK p m L::aJ m M::F)) :
  Calls Tryz.prog 57 #[ptr p,ptr m] w (aP fun v w'=>UN w0 p m n L M D F v w'):=by
 have hL:=hR.hd.keeps.log;have hM:=hR.hd.keeps.calm.ok;have hq:=hR.hd.keeps.calm.quiet;obtain ⟨q1,_,_⟩:=hR.hd.last he;rw [← hN]at q1
 have iC:=uQ (show ∀ f∈M.list,f.size≤4000000000 from fun f hf=>by
  rw [hq.list]at hf;obtain ⟨x,hx,rfl⟩:=abZ.1 hf;exact acz (hR.small x hx) aN)
 have adr:=uQ (fun (w':World) (R:List aH) (hr:Ro w0 R Half) (hw:Sat w0 w' (aK p m L::aJ m M::R))=>akv hR hn he hr hw);have hz:=abh hM hq.off;have HM:=uQ hM;have HL:=uQ hL;have HH:=uQ hH;obtain ⟨z,c2⟩:∃ z,aC.newest M=z:=⟨_,rfl⟩;rw [c2]at hnw;have c4:¬ N<z:=oQ;have c5:decide (N<z)=false:=ac4 c4;have c6:decide (0≤N)=true:=adt h0;have Tz:=uQ hN;clear hR hL hM hH he hq hN hnw;go_enter Tryz.func57,Tryz.ntmps57;go_wp2_with (with_reducible apply gq);refine ⟨fF qc h rfl ?_⟩;intro b5 w5 h5;have hla:=YG (F:=pt b5 (.cells (fA Rep.dZ.zero) 63 (0,0))::F) HL.out HM.out (Ro.os HH.out) (h5.sb);rw [show Rep.lastOf (dH L M) L.aF=(N,0) from q1]at hla;clear h h5 q1;go_wp2_with fail;refine hla.mono ?_;rintro ee w6 ⟨v,rfl,rfl,h6⟩;have hnw:=aiA HM.out iC.out (h6.sb:Sat w0 w6 (aJ m M::aK p m L::pt b5 (.cells (fA Rep.dZ.zero) 63 (0,0))::F));rw [c2]at hnw;clear hla c2;go_wp2_with fail
 refine hnw.mono ?_;rintro ee w7 ⟨v,rfl,rfl,h7⟩;have hld:=ag2 (p:=p) (n:=N) HM.out hz (.inl hth) h7;clear h6 hnw;go_wp2_with fail;refine hld.mono ?_;rintro ee w8 ⟨v,rfl,rfl,h8⟩;have FH:=adr.out w8 (pt b5 (.cells (fA Rep.dZ.zero) 63 (0,0))::F) (Ro.os HH.out) (h8.sb);clear h7 h8 hld;go_wp2_with fail;refine FH.mono ?_;rintro ee w8 ⟨v,rfl,ps,pi,uv,tv,x,rfl,AB,hx,h9⟩;have h10:Sat w0 w8 (pt b5 (.cells (fA Rep.dZ.zero) 63 (0,0))::dh ps (Seg.jg D) pi uv tv::aI pi (Tab.mapOf (Rep.puts x.1)) x.2::aB 45 3 uv (((Seg.lC D).map (Rep.upd x.1)).flatMap bT)::aK p m L::aJ m M::F):=h9.sb;clear h9 FH;go_wp2_with ((with_reducible refine cO ⟨?_⟩);refine gJ (fA Rep.dZ.zero) h10 aj aj aj cZ au aj ?_;intro iV h11);refine ⟨rfl,_,Bo rfl h11 aj aV Tryz.underlying63 rfl au,_,rfl,ps,pi,uv,tv,x,rfl,AB,hx,h11.drop⟩
theorem ajX (hR:Seg.ji K r0 E B n L M D) (hn:n≤1000) (hK:K≤1048576) (he:Seg.wR D) (hh:Seg.HN M N) (h0 : -1≤N) (hl:N<Seg.jg D) (h1:128≤limit) (h2:limit≤1048576) (hH:Ro w0 F Half) (h:Sat w0 w (aJ m M::F)) :
  Calls Tryz.prog 19 #[ptr m,.int .i64 limit] w (aP fun v w'=>∃ (r p ps pi pn:Nat) (uv:Value) (x:List (ah.Bs×Rep.dP)×Nat),v = .tuple #[ptr r,.agg (fA Rep.dZ.zero),errno 0]∧(Tab.Lists (Rep.ledger (Seg.dG D)) x.1∧(∀ q∈x.1,q.1.length=32)∧x.2≤n∧x.1.length≤n) ∧
   Sat w0 w' (aW r m limit p ps pn false::dh ps (Seg.jg D) pi uv (.slice none 0 0)::aI pn (Tab.mapOf (Rep.puts x.1)) x.2::aI pi (Tab.mapOf (Rep.puts x.1)) x.2::aB 45 3 uv (((Seg.lC D).map (Rep.upd x.1)).flatMap bT)::aK p m (Seg.fresh M limit)::aJ m M::F)):=by
 have hc:=hR.hd.keeps.calm;have hlim:=hR.hd.Y0
 exact aax (fun x:List (ah.Bs×Rep.dP)×Nat=>Tab.mapOf (Rep.puts x.1)) (fun x=>x.2) (fun x=>(Seg.lC D).map (Rep.upd x.1)) (fun x=>Tab.Lists (Rep.ledger (Seg.dG D)) x.1∧(∀ q∈x.1,q.1.length=32)∧x.2≤n∧x.1.length≤n) h1 h2 hc.ok hK
  (by unfold Seg.alive;rw [abh hc.ok hc.quiet.off];rfl) (fun x hx=>acz hx.2.2.1 oQ)
  (fun p b5 w' hw=>(agb (hR.fresh limit h1 h2) hn he rfl oQ ((hh.mono (Int.le_of_lt hl)).newest hc.quiet oQ) (hh.there hc.quiet hl oQ oQ) (Ro.os hH) hw).mono fun e w'' hv=>hv) h
end
section
variable {w0 w:World}{F:List aH}{r p m K r0 E B n ps pn:Nat}{L:Seg.Log}{M:ay}{D:List (Nat×List ah.aG)}{N limit seg:Int}{d:Bool}
theorem akr (h:Sat w0 w (aW r m seg p ps pn d::F)):Calls Tryz.prog 41 #[ptr r] w (aP fun v w'=>v=ptr m∧w=w'):=by
 have e0:w.cell? ⟨r,0,none⟩=some (.pointer (some ⟨m,0,none⟩)):=h.cellAt 0 _ rfl;have hok:=nK h;clear h;go_enter Tryz.func41,Tryz.ntmps41;go_wp2_with fail;refine hok.mono ?_;rintro ee w1 ⟨v,rfl,rfl,rfl⟩;go_wp2_with fail;go_ret;exact ⟨_,rfl,rfl,rfl⟩
theorem ajT (hR:Seg.ji K r0 E B n L M D) (hn:n≤1000) (hK:K≤1048576) (he:Seg.wR D) (hh:Seg.HN M N) (h0 : -1≤N) (hl:N<Seg.jg D) (h1:128≤limit) (h2:limit≤1048576) (hH:Ro w0 F Half) (h:Sat w0 w (aJ m M::aW r m limit p ps pn d::F)) :
  Calls Tryz.prog 39 #[ptr r] w (aP fun v w'=>∃ (p ps pi pn:Nat) (uv:Value) (x:List (ah.Bs×Rep.dP)×Nat),v=errno 0∧(Tab.Lists (Rep.ledger (Seg.dG D)) x.1∧(∀ q∈x.1,q.1.length=32)∧x.2≤n∧x.1.length≤n) ∧
   Sat w0 w' (aW r m limit p ps pn false::dh ps (Seg.jg D) pi uv (.slice none 0 0)::aI pn (Tab.mapOf (Rep.puts x.1)) x.2::aI pi (Tab.mapOf (Rep.puts x.1)) x.2::aB 45 3 uv (((Seg.lC D).map (Rep.upd x.1)).flatMap bT)::aK p m (Seg.fresh M limit)::aJ m M::F)):=by
 have Hop:=uQ (fun (w':World) (R:List aH) (hr:Ro w0 R Half) (hw:Sat w0 w' (aJ m M::R))=>ajX (limit:=limit) hR hn hK he hh h0 hl h1 h2 hr hw);have HH:=uQ hH;have hok:=nK (h.sb:Sat w0 w (aW r m limit p ps pn d::aJ m M::F));clear hR hn hK he hh h0 hl h1 h2 hH;go_enter Tryz.func39,Tryz.ntmps39;go_wp2_with fail;refine hok.mono ?_;rintro ee w1 ⟨v,rfl,rfl,rfl⟩;clear hok;go_wp2_with fail;have h3:=h.drew;clear h;refine dS [8,9,10,11,12,14,15,16] (fun w'=>w'.cell? ⟨r,0,none⟩=some (.pointer (some ⟨m,0,none⟩))∧w'.cell? ⟨r,1,none⟩=some (.int .i64 limit)) au ?_;have hG:World.cell? _ ⟨r,0,none⟩=some (.pointer (some ⟨m,0,none⟩))∧World.cell? _ ⟨r,1,none⟩=some (.int .i64 limit):=⟨h3.cellP aY 0 rfl,h3.cellP aY 1 rfl⟩;refine rP 0 ?_ (y:=aZ);refine rP 1 ?_ (y:=dV);refine rP 2 ?_ (y:=bW);refine rt 3 (h:=?_);refine rP 4 ?_ (y:=aZ);refine rP 5 ?_ (y:=dV)
 refine rP 6 ?_ (y:=bW);refine rt 7 (h:=?_);clear hG;refine rU 8 13 ak ak au (fun K hK=>?_) (fun K hK=>?_)
 focus
  (refine gZ au ak ak ?_)
  refine (Hop.out _ _ (Ro.os HH.out) h3).mono ?_;rintro ee w4 ⟨v,rfl,r2,p2,ps2,pi,wC,uv,x,rfl,hx,h4⟩;have Hx:=uQ hx;refine hK _ _ (.inl rfl) ?_;clear hK h3 hx;refine rP 9 ?_ (y:=aZ);refine rP 10 ?_ (y:=(fC ak bU));refine rP 11 ?_ (y:=(fC ak bU));refine rP 12 ?_ (y:=(fC ak bU));refine bY 13 ak au (fun K hK=>?_);refine lZ (qc) h4 rfl ?_;intro b5 w5 h5;refine hK _ _ (.inr (.inl ⟨h5.cellP (aT (aT (aT (aT (aT (aT (aT (aT aV)))))))) 0 rfl,h5.cellP (aT (aT (aT (aT (aT (aT (aT (aT aV)))))))) 1 rfl⟩)) ?_;clear hK h4;refine rP 14 ?_ (y:=fZ)
 rotate_left
 focus
  refine lZ (qc) h3 rfl ?_;intro b5 w4 h4;refine hK _ _ (.inr (.inl ⟨h4.cellP eH 0 rfl,h4.cellP eH 1 rfl⟩)) ?_;clear hK h3;refine bY 8 ak au (fun K hK=>?_)
  (refine gZ au ak ak ?_)
  refine (Hop.out _ _ (Ro.os HH.out) (h4.sb:Sat w0 w4 (aJ m M::pt b5 (.cells (fA Rep.dZ.zero) 63 (0,0))::aW r m limit p ps pn d::F))).mono ?_;rintro ee w5 ⟨v,rfl,r2,p2,ps2,pi,wC,uv,x,rfl,hx,h5'⟩;have Hx:=uQ hx;refine hK _ _ (.inl rfl) ?_;clear hK h4 hx;have h5:Sat w0 w5 (pt b5 (.cells (fA Rep.dZ.zero) 63 (0,0))::aW r2 m limit p2 ps2 wC false::dh ps2 (Seg.jg D) pi uv (.slice none 0 0)::aI wC (Tab.mapOf (Rep.puts x.1)) x.2::aI pi (Tab.mapOf (Rep.puts x.1)) x.2::aB 45 3 uv (((Seg.lC D).map (Rep.upd x.1)).flatMap bT)::aK p2 m (Seg.fresh M limit)::aJ m M::aW r m limit p ps pn d::F):=h5'.sb;clear h5';refine rP 9 ?_ (y:=aZ);refine rP 10 ?_ (y:=(fC ak bU));refine rP 11 ?_ (y:=(fC ak bU));refine rP 12 ?_ (y:=(fC ak bU));refine rP 14 ?_ (y:=fZ)
 all_goals
  refine bY 15 ak au (fun K hK=>?_);refine kW (cs':=fA Rep.dZ.zero) h5 ak ak aj cZ bJ au aj ?_;intro w6 h6;refine hK _ _ (.inl rfl) ?_;clear hK h5;refine rP 16 ?_ (y:=fZ);refine dI au ?_
  go_wp2_with (first
   |((with_reducible refine bI ⟨?_⟩);refine iW (cs:=#[ptr m,.int .i64 limit,ptr p2,ptr ps2,ptr wC,.bool false]) h6 aj aY Tryz.underlying91 rfl au ?_)
   |(with_reducible apply cO))
  refine ⟨gJ #[ptr m,.int .i64 limit,ptr p2,ptr ps2,ptr wC,.bool false] (h6.sb:Sat w0 w6 (aW r m limit p ps pn d::dh ps2 (Seg.jg D) pi uv (.slice none 0 0)::aI wC (Tab.mapOf (Rep.puts x.1)) x.2::aI pi (Tab.mapOf (Rep.puts x.1)) x.2::aB 45 3 uv (((Seg.lC D).map (Rep.upd x.1)).flatMap bT)::aK p2 m (Seg.fresh M limit)::aJ m M::F)) aj aj aj cZ au aj ?_⟩;intro w7 h7;clear h6;have gy:=uQ (show Sat w0 w7 (aW r m limit p2 ps2 wC false::dh ps2 (Seg.jg D) pi uv (.slice none 0 0)::aI wC (Tab.mapOf (Rep.puts x.1)) x.2::aI pi (Tab.mapOf (Rep.puts x.1)) x.2::aB 45 3 uv (((Seg.lC D).map (Rep.upd x.1)).flatMap bT)::aK p2 m (Seg.fresh M limit)::aJ m M::F) from h7);clear h7;go_wp2_with fail;go_ret;exact ⟨_,rfl,p2,ps2,pi,wC,uv,x,rfl,Hx.out,gy.out⟩
end
def Na (w0:World) (r m:Nat) (seg:Int) (D:List (Nat×List ah.aG)) (F:List aH) (w:World):Prop:=
 ∃ (ps p pn B K r0 E B0 n:Nat) (L:Seg.Log) (M:ay),(Seg.HD K r0 E B0 n L M D∧B≤200)∧Sat w0 w (aW r m seg p ps pn false::aI pn (Rep.dO (Seg.dG D)) B::aK p m L::aJ m M::F)
section
variable {w0 w:World}{F:List aH}{r m K r0 E n:Nat}{D:List (Nat×List ah.aG)}{pc seg:Int}
theorem oH.wk (hn:n≤200) (h:oH w0 r m seg K r0 E n D F w):Na w0 r m seg D F w:=by
 obtain ⟨ps,p,pn,pi,B,B2,B0,uv,tv,N,us,L,M,⟨hC,hb,_⟩,hS⟩:=h;exact ⟨ps,p,pn,B,K,r0,E,B0,n,L,M,⟨hC.rp.hd,acz hb hn⟩,hS.sb⟩
theorem oH.mono {K' E' n':Nat} (h:oH w0 r m seg K r0 E n D F w) (h1:K≤K') (h2:E≤E') (h3:n≤n'):oH w0 r m seg K' r0 E' n' D F w:=by
 obtain ⟨ps,p,pn,pi,B,B2,B0,uv,tv,N,us,L,M,⟨hC,hb,hb2⟩,hS⟩:=h;exact ⟨ps,p,pn,pi,B,B2,B0,uv,tv,N,us,L,M,⟨⟨hC.rp.mono h1 h2 (abL _) h3,hC.off,hC.fresh,hC.ext.mono h3 h2⟩,acz hb h3,acz hb2 h3⟩,hS⟩
theorem ali {ys zs:List Sg}{P:aO.Plan} (hS:xB P ys zs) (hP:P.aF=aO.fV D){L:Seg.Log}{M:ay}{B0:Nat} (hR:Seg.ji K r0 E B0 n L M D):∀ y∈ys,∀ q∈y.2.1,q.1.e.data.length≤1099511627:=fun y hy q hq=>by
 have h1:(y.1,jO y)∈aO.fV D:=by rw [← hP,hS.aF];exact abZ.2 ⟨y,hy,rfl⟩
 obtain ⟨d,hd,e⟩:=abZ.1 h1;have h2:q.1∈ah.dN d.2 8:=by
  have:jO y=ah.dN d.2 8:=(adu Prod.snd e).symm;rw [← this];exact abZ.2 ⟨q,hq,rfl⟩
 have h3:=hR.thin q.1.e (by
  rw [← Seg.rV];exact abZ.2 ⟨_,aO.af9 hd h2,rfl⟩)
 omega
theorem ae5 (hpc:0≤pc∧pc≤100) (h1:128≤seg) (h2:seg≤1048576) (hn2:n≤200) (hn:2 * n+E<470) (hK:K≤500000) (hH:Ro w0 F Half) (h:oH w0 r m seg K r0 E n D F w) :
  Calls Tryz.prog 10 #[ptr r,.int .i64 pc] w (aP fun v w'=>
   (∃ (gv:Value) (D1:List (Nat×List ah.aG)),v = .tuple #[gv,errno 0]∧(Rep.jA (Seg.iF D1)=Rep.jA (Seg.iF D)∧aO.Rnd pc D D1)∧oH w0 r m seg (K+5 * n+700) r0 (E+2) (2 * n+1) D1 F w') ∨
   (v = .tuple #[.slice none 0 0,errno 11]∧r0<(2 * n+1) * 400+E * (20+28 * n)∧Na w0 r m seg D F w')):=by
 obtain ⟨ps,p,pn,pi,B,B2,B0,uv,tv,N,us,L,M,⟨hC,hb,hb2⟩,hS⟩:=h;have hpl:=VN hpc hC.rp oQ hC.st.uses (by omega:B2≤13000000) (Ro.os hH) (hS.sb:Sat w0 w (aW r m seg p ps pn false::dh ps N pi uv tv::aI pi (Rep.dO (Seg.dG D)) B2::aB 45 3 uv (us.flatMap bT)::aK p m L::aJ m M::aI pn (Rep.dO (Seg.dG D)) B::F));have HC:=uQ hC;have xg:=uQ hpc;have Hn:=uQ hn;have qM:=uQ hn2;have HK:=uQ hK;have HH:=uQ hH;have Hl:=uQ (And.intro h1 h2);have Hb:=uQ hb;have Hb2:=uQ hb2;have HS:=uQ hS;clear hC hpc hn hn2 hK hH h1 h2 hb hb2 hS;go_enter Tryz.func10,Tryz.ntmps10;go_wp2_with fail;refine hpl.mono ?_;rintro ee w1 ⟨v,rfl,b,kp,ip,gb,Bk,lv,mm,bg,ys,zs,rfl,hP,Ou,h1⟩;clear hpl;generalize Xy:tC N (Rep.dO (Seg.dG D)) D=P at *
 have BP:=uQ (show P=aO.Dp N D from Xy.symm);have Ot:P.aF=aO.fV D:=by rw [BP.out];rfl
 clear Xy;obtain ⟨gs,hgs⟩:∃ gs,gs=aO.chosen P pc:=⟨_,rfl⟩;rw [← hgs]at h1;have L8:=uQ hgs;obtain ⟨G,hG⟩:∃ G,G=aO.jZ gs (aO.fV D):=⟨_,rfl⟩;have hgo:=Vx Ou (h1.sb:Sat w0 w1 (eG gb gs::dM b N lv kp ip gb::aB 146 3 lv (ys.flatMap dY)::dB kp mm Bk::dK bg::aI ip (Rep.dO (Seg.dG D)) B2::eP zs::aW r m seg p ps pn false::dh ps N pi uv tv::aI pi (Rep.dO (Seg.dG D)) B2::aB 45 3 uv (us.flatMap bT)::aK p m L::aJ m M::aI pn (Rep.dO (Seg.dG D)) B::F));rw [Ot,← hG]at hgo;have HG:=uQ hG;have LK:=uQ Ot;have HP:=uQ hP;have G9:=uQ Ou;clear h1 hG hgs Ot hP Ou;go_wp2_with fail;refine hgo.mono ?_;rintro ee w2 ⟨v,rfl,h2⟩;clear hgo;obtain ⟨va,vc,rfl⟩:=FN (Sat.rd h2);by_cases hg:G=[]
 focus
  have hbz:((G.length:Int)==0)=true:=by rw [hg];rfl
  have hne:aO.Rnd pc D D:=⟨⟨_,_,_,_,_,_,_,HC.out.rp⟩,.inl ⟨rfl,by
   rw [← HC.out.st.last,← BP.out,← L8.out,← HG.out];exact hg⟩⟩
  have qN:=uQ hne;have bF:=uQ (show oH w0 r m seg K r0 E n D F w2 from ⟨ps,p,pn,pi,B,B2,B0,uv,tv,N,us,L,M,⟨HC.out,Hb.out,Hb2.out⟩,h2.sb⟩);clear h2 hne hg HS HG LK HP G9 L8 BP;go_wp2_with fail
  go_ret2
  exact ⟨_,rfl,.inl ⟨_,D,rfl,⟨rfl,qN.out⟩,bF.out.mono oQ oQ oQ⟩⟩
 have hbz:((G.length:Int)==0)=false:=by
  rw [acH];have:=amK.2 hg;omega
 have Hg:=uQ hg;have yu:=Bv (h2.sb:Sat w0 w2 (aW r m seg p ps pn false::F));clear hg;go_wp2_with fail;refine yu.mono ?_;rintro ee w3 ⟨v,rfl,rfl,rfl⟩;clear yu hbz;obtain ⟨xs,hxs⟩:∃ xs,xs=aO.copyS P gs P.aF:=⟨_,rfl⟩;have hxc:xs=(aO.copy P gs (Seg.dG D)).map (·.2.e):=by rw [hxs,LK.out,aO.VI]
 have hxl:xs.length≤n:=by rw [hxc];exact Seg.VJ HC.out.rp
 have lU:=HC.out.ran (P:=P) (gs:=gs) (xs:=xs) (fun k=>by rw [BP.out];rfl) (by rw [BP.out,← aO.aaH];rfl) hxc (by have:=Hn.out;omega);have hcp:=aeF G9.out HP.out HC.out.rp.hd.keeps.log HC.out.rp.hd.keeps.calm.ok (by rw [← hxs];have:=HK.out;have:=Hn.out;omega) (ali G9.out LK.out HC.out.rp) (Ro.os HH.out) (h2.sb:Sat w0 w2 (eG gb gs::dM b N lv kp ip gb::aB 146 3 lv (ys.flatMap dY)::dB kp mm Bk::dK bg::aI ip (Rep.dO (Seg.dG D)) B2::eP zs::aK p m L::aJ m M::aB 3 1 (.slice va G.length vc) (ints G)::aW r m seg p ps pn false::aI pn (Rep.dO (Seg.dG D)) B::F));rw [← hxs]at hcp;rw [← HG.out]at lU;have Hxc:=uQ hxc;generalize L.copied M xs=z at *
 obtain ⟨⟨L2,M2⟩,e2⟩:=z;dsimp only at lU hcp;obtain ⟨⟨N2,hd2⟩,lU⟩:=lU;have HL2:=uQ hd2.keeps.log;have uh:=uQ hd2.keeps.calm.ok;clear h2 hxs hxc hxl hd2 HS;go_wp2_with fail;refine hcp.mono ?_;rintro ee w4 ⟨v,rfl,rfl,h4'⟩;clear hcp;have h4:Sat w0 w4 (aB 3 1 (.slice va G.length vc) (ints G)::aW r m seg p ps pn false::aK p m L2::aJ m M2::aI pn (Rep.dO (Seg.dG D)) B::F):=h4'.sb;clear h4';rcases lU with ⟨rfl,hr0,D1,lU⟩|⟨rfl,hrr,hr0,hhd⟩
 rotate_left
 focus
  have hrb:=YX HL2.out uh.out (by have:=HK.out;have:=Hn.out;omega) (h4.sb:Sat w0 w4 (aK p m L2::aJ m M2::aW r m seg p ps pn false::aI pn (Rep.dO (Seg.dG D)) B::F));rw [hr0]at hrb;generalize L2.rollback M2=z at *
  obtain ⟨⟨L3,M3⟩,e3⟩:=z;dsimp only at hrb hhd;have Hhd:=uQ hhd;have Hrr:=uQ hrr;clear h4 hr0 hhd hrr;go_wp2_with fail;refine hrb.mono ?_;rintro ee w5 ⟨v,rfl,rfl,h5⟩;clear hrb;have bF:=uQ (show Na w0 r m seg D F w5 from ⟨ps,p,pn,B,_,r0,E,B0,_,L3,M3,⟨Hhd.out,by have:=Hb.out;have:=qM.out;omega⟩,h5.sb⟩);clear h5;go_wp2_with fail
  go_ret2
  refine ⟨_,rfl,.inr ⟨rfl,?_,bF.out⟩⟩;have:=Hrr.out;have:=HC.out.used;omega
 obtain ⟨Q,hQ⟩:∃ Q,L2.removes M2 G=Q:=⟨_,rfl⟩;rw [hQ]at hr0 lU;have TD:=uQ hr0;have Uw:=uQ lU
 have TR:=uQ (show G.length≤n by
  rw [HG.out];unfold aO.jZ;rw [abl];have h3:=agJ (fun x=>gs.contains x.1) (aO.fV D);rw [aO.KA]at h3;exact acz h3 HC.out.rp.hd.count)
 have h5:Sat w0 w4 (aB 3 1 (.slice va G.length vc) (ints G)::aK p m L2::aJ m M2::aW r m seg p ps pn false::F):=h4.sb;have Ee:=uQ (show L2.removes M2 (G.drop 0)=Q∧L2.Ok∧M2.Ok (K+4 * n+5+0) by rw [aoy];exact ⟨hQ,HL2.out,uh.out⟩);clear h4 hr0 lU hQ HL2 uh HP G9;go_wp2_with fail
 go_loopg [47] G.length (fun g iq wr=>∃ (i:Nat) (L3:Seg.Log) (M3:ay),g=G.length - i∧i≤G.length∧iq = .int .i64 i∧(L3.removes M3 (G.drop i)=Q∧L3.Ok∧M3.Ok (K+4 * n+5+i))∧Sat w0 wr (aB 3 1 (.slice va G.length vc) (ints G)::aK p m L3::aJ m M3::aW r m seg p ps pn false::F))
 case atStart=>exact ⟨0,L2,M2,rfl,acV _,rfl,Ee.out,h5⟩
 case round=>
  obtain ⟨i,L3,M3,rfl,hi,rfl,hin,hS⟩:=hrel;clear h5 Ee;by_cases hil:i<G.length
  focus
   have c1:(i:Int)<(G.length:Int):=oQ;have hwi:IntKind.i64.wrap ((i:Int)+1)=(i:Int)+1:=acC _ (by have:=TR.out;have:=Hn.out;omega);obtain ⟨t,ht⟩:∃ t,G[i]?=some t:=⟨_,aaI hil⟩;obtain ⟨bk,off,cc,e,hcell⟩:=sU (Sat.rd hS) ht;cases e;have hdp:G.drop i=t::G.drop (i+1):=by
    obtain ⟨h2,h3⟩:=abW.1 ht;rw [aic h2,h3]
   obtain ⟨i1,i2,i3⟩:=hin;rw [hdp]at i1;have hun:L3.removes M3 (t::G.drop (i+1))=if (L3.remove M3 t).2=0 then (L3.remove M3 t).1.1.removes (L3.remove M3 t).1.2 (G.drop (i+1)) else L3.remove M3 t:=rfl
   rw [hun]at i1;have hz:(L3.remove M3 t).2=0:=by
    apply aog;intro q;rw [abA q]at i1;exact q (by rw [i1];exact TD.out)
   rw [acr hz]at i1;have hrm:=Px i2 i3 (by have:=HK.out;have:=Hn.out;have:=TR.out;omega) t (hS.sb:Sat w0 wr (aK p m L3::aJ m M3::aB 3 1 (.slice (some ⟨bk,off,none⟩) G.length vc) (ints G)::aW r m seg p ps pn false::F));rw [hz]at hrm;have dw:=uQ (i2.remove M3 t);have Ui:=uQ (Seg.J4 (L:=L3) i3 t);generalize L3.remove M3 t=z at *
   obtain ⟨⟨L4,M4⟩,e4⟩:=z;dsimp only at hrm i1 dw Ui;have Hi1:=uQ i1;have jS:=uQ hil;clear hi hil ht hdp hun hz i1 i2 i3 hS;go_wp2_with fail;refine hrm.mono ?_;rintro ee w6 ⟨v,rfl,rfl,h6⟩;clear hrm hcell;have gy:=uQ (h6.sb:Sat w0 w6 (aB 3 1 (.slice (some ⟨bk,off,none⟩) G.length vc) (ints G)::aK p m L4::aJ m M4::aW r m seg p ps pn false::F));clear h6;go_wp2_with fail
   go_roundg (G.length - (i+1))
   case measure=>have:=jS.out;omega
   case rel=>exact ⟨i+1,L4,M4,rfl,adi jS.out,by first|rfl|go_num,⟨Hi1.out,dw.out,Ui.out⟩,gy.out⟩
  obtain rfl:i=G.length:=by omega
  have c1:¬ (G.length:Int)<(G.length:Int):=oQ;rw [List.drop_length]at hin;have hQ:Q=((L3,M3),0):=hin.1.symm;have lU:=Uw.out;rw [hQ]at lU;dsimp only at lU;obtain ⟨y1,y2,y3⟩:=lU.rp.dir;have hsy:=YZ lU.rp.hd.keeps.calm.ok (hS.sb:Sat w0 wr (aK p m L3::aJ m M3::aB 3 1 (.slice va G.length vc) (ints G)::aW r m seg p ps pn false::F));rw [y1]at hsy;have hhn:Seg.HN M3.dR.1 N:=fun q hq hm=>lU.hn q (by rw [← y2];exact hq) hm;have HR:=uQ y3;have TT:=uQ hhn;have bV:=uQ lU.lt;have TP:=uQ lU.ends;have Um:=uQ lU.obj;have ac9:=uQ lU.new;have HR0:=uQ lU.rp;generalize M3.dR.1=M4 at *
  clear hS hi hil hin hQ lU Uw TD y1 y2 y3 hhn;go_wp2_with fail;refine hsy.mono ?_;rintro ee w6 ⟨v,rfl,rfl,h6⟩;clear hsy;have hN1 : -1≤N:=by
   rw [HC.out.st.last];unfold Seg.jg;split <;> omega
  have hre:=ajT HR.out (by have:=Hn.out;omega) (by have:=HK.out;have:=Hn.out;omega) TP.out TT.out hN1 bV.out Hl.out.1 Hl.out.2 (Ro.os HH.out) (h6.sb:Sat w0 w6 (aJ m M4::aW r m seg p ps pn false::aB 3 1 (.slice va G.length vc) (ints G)::F));clear h6;go_wp2_with fail;refine hre.mono ?_;rintro ee w7 ⟨v,rfl,p5,Gg,F9,Gf,GN,⟨kv,bx⟩,rfl,⟨k1,k2,k3,k4⟩,h7⟩;clear hre;dsimp only at k1 k2 k3 k4 h7;have Fh:=HR.out.fresh seg Hl.out.1 Hl.out.2;have hNl:0≤Seg.jg D1∧Seg.jg D1<1048576:=by
   have:=bV.out;have:=HR.out.hd.Y0;have:=Hn.out;omega
  have hho:=Fh.hd.hint k1 k2;have hst:Seg.Iz D1 (Seg.jg D1) ((Seg.lC D1).map (Rep.upd kv)) (Rep.puts kv):=⟨rfl,⟨kv,k1,k2,rfl,rfl⟩,TP.out⟩;have CW:((Seg.lC D1).map (Rep.upd kv)).length≤2 * n+1:=by
   unfold Seg.lC;rw [abl,abl];exact HR.out.hd.count
  have je:=Rep.aaf k1;have hpl:(Rep.puts kv).length≤2 * n+1:=acz (by unfold Rep.puts;rw [abl];exact agJ _ _) k4;have Aw:Tab.Lists (Tab.mapOf (Rep.puts kv)) (Rep.puts kv):=Tab.PI (Rep.Gj k1.rise);have zy:=uQ (aC.mJ.idx hho Fh.hd.keeps.log (by have:=Hn.out;omega));have zA:=uQ (aC.mJ.uses hho Fh.hd.keeps.log (by have:=Hn.out;omega));have iM:=uQ hho.key;have nP:=uQ hst;have xA:=uQ CW;have MG:=uQ je;have Hpl:=uQ hpl;have Md:=uQ Aw;have BQ:=uQ Fh;have uZ:=uQ hNl;have H7:=uQ k3;have Es:=uQ (show (Seg.fresh M4 seg).on=false∧(Seg.fresh M4 seg).fresh=0 from ⟨rfl,rfl⟩);clear hho hst CW je hpl Aw Fh hNl k1 k2 k3 k4 HR hN1;generalize Seg.fresh M4 seg=L5 at *
  generalize (Seg.lC D1).map (Rep.upd kv)=yV at *
  generalize Rep.puts kv=pl at *
  obtain ⟨N5,Oq⟩:∃ N5,N5=Seg.jg D1:=⟨_,rfl⟩;rw [← Oq]at h7;have wV:=uQ Oq;clear Oq;have hmd:=akr h7;go_wp2_with fail;refine hmd.mono ?_;rintro ee w8 ⟨v,rfl,rfl,rfl⟩;clear hmd;have hse:=aaJ (by have:=H7.out;have:=Hn.out;omega:bx≤14000000) (by have:=xA.out;have:=Hn.out;omega) (h7.sb:Sat w0 w7 (aW r m seg p5 Gg Gf false::dh Gg N5 F9 GN (.slice none 0 0)::aI F9 (Tab.mapOf pl) bx::aB 45 3 GN (yV.flatMap bT)::aI Gf (Tab.mapOf pl) bx::aK p5 m L5::aJ m M4::aB 3 1 (.slice va G.length vc) (ints G)::F));clear h7;go_wp2_with fail;refine hse.mono ?_;rintro ee w9 ⟨v,rfl,q,qi,vv,rfl,h9⟩;clear hse;obtain ⟨bi,hbi⟩:∃ bi,bi=dF.book Xx.sum dF.AO true (pl.map Rep.lF):=⟨_,rfl⟩;obtain ⟨bu,hbu⟩:∃ bu,bu=dF.book Xx.sum dF.AP false (yV.map Rep.lH):=⟨_,rfl⟩;have hB:bi.length+bu.length≤40+56 * (2 * n+1):=by
   rw [hbi,hbu,dF.IU (k:=3) rfl zy.out.row,dF.IU (k:=3) rfl zA.out.row,abl,abl,show dF.qV true 3=44 from rfl,show dF.qV false 3=12 from rfl];have:=Hpl.out;have:=xA.out;omega
  obtain ⟨s1,s2,s3,s4⟩:=BQ.out.save (by have:=Hn.out;omega) (TT.out.mono (Int.le_of_lt bV.out)) uZ.out.1 uZ.out.2 bi bu;rw [← wV.out]at s1 s2 s3 s4
  have hsv:=Yg BQ.out.hd.keeps.calm.ok (by have:=HK.out;have:=Hn.out;omega) (by rw [wV.out];exact uZ.out.1) (by rw [wV.out];exact uZ.out.2) pl Md.out (by have:=H7.out;have:=Hn.out;omega) iM.out yV zy.out zA.out bi bu hbi hbu s4
   (h9.sb:Sat w0 w9 (dh q N5 qi vv (.slice none 0 0)::aI qi (Tab.mapOf pl) bx::aB 45 3 vv (yV.flatMap bT)::aJ m M4::aW r m seg p5 Gg Gf false::dh Gg N5 F9 GN (.slice none 0 0)::aI F9 (Tab.mapOf pl) bx::aB 45 3 GN (yV.flatMap bT)::aI Gf (Tab.mapOf pl) bx::aK p5 m L5::F))
  have s5:=aC.Kt (n:=N5) (b1:=bi) (b2:=bu) BQ.out.hd.keeps.calm BQ.out.tmp (by have:=BQ.out.hd.names;have:=Hn.out;omega) (by rw [wV.out];exact uZ.out.1) (by rw [wV.out];exact uZ.out.2);rw [← wV.out]at uZ;have hu4:=BQ.out.hd.used;generalize aC.save M4 N5 bi bu=z at *
  obtain ⟨M5,e5⟩:=z;dsimp only at hsv s1 s2 s3;have XQ:bi.length+bu.length+M4.used≤r0→Seg.HF M5 N5 pl yV:=fun hrm=>by
   have hz:=s5.room oQ;have hd:=s5.done.resolve_right (by simp only at hz ⊢;omega);refine ⟨by rw [← hbi];exact hd.2.1,by rw [← hbu];exact hd.2.2,fun p hp hnm=>?_⟩;have:=s5.gone hz p hp;unfold aC.other at this;rw [hnm]at this;simpa using this
  have HCD:=uQ (show Seg.CD (K+5 * n+700) r0 (E+2) (B0+bi.length+bu.length) (2 * n+1) L5 M5 D1 N5 yV from ⟨s1.mono oQ (abL _) (abL _) (abL _),Es.out.1,Es.out.2,by
   have h3:=HC.out.used;have h4:E * (20+28 * n)≤E * (20+28 * (2 * n+1)):=Nat.mul_le_mul_left _ oQ;have h5:(E+2) * (20+28 * (2 * n+1))=E * (20+28 * (2 * n+1))+2 * (20+28 * (2 * n+1)):=ak4 ..;refine ⟨by omega,s3,uZ.out.2,pl,by rw [wV.out];exact nP.out,fun a1 a2 a3=>⟨fun e=>?_,fun _=>XQ ?_⟩⟩
   ·have h6:=uZ.out.1;rw [wV.out,e]at h6;exact absurd h6 aN
   ·have h6:(E+2) * (20+28 * (2 * n+1))≤130 * (20+28 * 200):=anv a3 oQ;omega⟩)
  clear s5 hu4 XQ
  have fP:=uQ (show aO.Rnd pc D D1 from ⟨⟨_,_,_,_,_,_,_,HC.out.rp⟩,.inr (by
   rw [← HC.out.st.last,← BP.out,← L8.out,← Hxc.out];refine ⟨fun e=>Hg.out ?_,ac9.out⟩;rw [HG.out,e];unfold aO.jZ;simp)⟩)
  clear h9 s1 s3 s4 hB hbi hbu;go_wp2_with fail;refine hsv.mono ?_;rintro ee w10 ⟨v,rfl,rfl,h10⟩;clear hsv
  have bF:=uQ (show oH w0 r m seg (K+5 * n+700) r0 (E+2) (2 * n+1) D1 F w10 from ⟨Gg,p5,Gf,F9,bx,bx,_,GN,_,N5,yV,L5,M5,⟨HCD.out,H7.out,H7.out⟩,by
   rw [MG.out]at h10;exact h10.sb⟩)
  clear h10;rcases s2 with rfl|rfl
  ·go_wp2_with fail
   go_ret2
   exact ⟨_,rfl,.inl ⟨_,D1,rfl,⟨Um.out,fP.out⟩,bF.out⟩⟩
  ·go_wp2_with fail
   go_ret2
   exact ⟨_,rfl,.inl ⟨_,D1,rfl,⟨Um.out,fP.out⟩,bF.out⟩⟩
end
end Go.Proofs.YtihngncbioofnaaGreatDoor
namespace Go.Rep
open Go.ah (Bs)
structure sF where
 kind:Int
 key:Bs
 data:Bs
 n:Int
 m:Int
 l:List Int
def sF.cut (c:sF):sF:=⟨c.kind,c.key,c.data.take 200,c.n,c.m,c.l.take 60⟩
def Cm (l:List sF) (n:Nat):List sF:=(l.take n).map sF.cut
end Go.Rep
namespace Go.Proofs.YtihngncbioofnaaGreatDoor
open Go Go.Sl Go.ay Go.MapKept Go.RowKit
structure QD where
 c:Rep.sF
 dv:Value
 lv:Value
def mW (d:QD):List Value:=(.int .i64 d.c.kind::aA d.c.key)++d.dv::[.int .i64 d.c.n,.int .i64 d.c.m,d.lv]
def ig (d:QD):Array Value:=(mW d).toArray
def kF (ds:List QD):List Value:=ds.flatMap mW
structure Cc (w0:World) (F:List aH) (d:QD):Prop where
 key:d.c.key.length=32
 rd:Ro w0 F (bG 1 d.dv (aA d.c.data))
 cap:lQ d.dv
 rl:Ro w0 F (bG 1 d.lv (ints d.c.l))
 NI:lQ d.lv
theorem Cc.of_sub {w0:World}{F G:List aH}{d:QD} (h:Cc w0 F d) (hs:∀ w,Sat w0 w G→Sat w0 w F):Cc w0 G d:=
 ⟨h.key,fun w hw=>h.rd w (hs w hw),h.cap,fun w hw=>h.rl w (hs w hw),h.NI⟩
def Tq:QD:=⟨⟨0,ah.zero32,[],0,0,[]⟩,.slice none 0 0,.slice none 0 0⟩
theorem zQo:jr Tryz.prog 69=some (.agg (ig Tq)):=by kernel_rfl
theorem Jv:(Tryz.prog.info? 69).map (·.size)=some 37:=by kernel_rfl
theorem Gn (d:QD) (hk:d.c.key.length=32):(mW d).length=37:=by
 unfold mW;rw [aaK,ac5,aX,hk];rfl
theorem yL (d:QD) (hk:d.c.key.length=32):(ig d).size=37:=by unfold ig;rw [abX,Gn d hk]
theorem Qo (d:QD) (hk:d.c.key.length=32):(Value.int .i64 d.c.kind::aA d.c.key).length=33:=by rw [ac5,aX,hk]
theorem Gm (d:QD):(mW d)[0]?=some (.int .i64 d.c.kind):=rfl
theorem Gl (d:QD){j:Nat}{v:Value} (h:(aA d.c.key)[j]?=some v):(mW d)[1+j]?=some v:=by
 unfold mW;rw [aoh,adA,ah9,ac2 (abW.1 h).1];exact h
theorem Bh (d:QD) (hk:d.c.key.length=32) (j:Nat):(mW d)[33+j]?=(d.dv::[.int .i64 d.c.n,.int .i64 d.c.m,d.lv]:List Value)[j]?:=by
 unfold mW;have h:=Qo d hk;rw [ac0 oQ,h,Nat.add_sub_cancel_left]
theorem Qn (l1 l2:List Value) (x y:Value){i:Nat} (hi:l1.length=i):eu (l1++x::l2).toArray i [y]=(l1++y::l2).toArray:=by
 subst hi;apply qR;rw [lg _ _ _ (by simp)];simp only [acW,ac7];rw [List.take_left,aou,adp oQ,Nat.add_sub_cancel_left,adl,aop,aoy,acD,List.singleton_append]
theorem ajA (d:QD) (hk:d.c.key.length=32) (b:ah.Bs) (dv:Value):eu (ig d) 33 [dv]=ig ⟨⟨d.c.kind,d.c.key,b,d.c.n,d.c.m,d.c.l⟩,dv,d.lv⟩:=
 Qn _ _ _ _ (Qo d hk)
theorem ajB (d:QD) (hk:d.c.key.length=32) (l:List Int) (lv:Value):eu (ig d) 36 [lv]=ig ⟨⟨d.c.kind,d.c.key,d.c.data,d.c.n,d.c.m,l⟩,d.dv,lv⟩:=by
 have e:∀ d:QD,mW d=((.int .i64 d.c.kind::aA d.c.key)++[d.dv,.int .i64 d.c.n,.int .i64 d.c.m])++d.lv::[]:=fun d=>by
  unfold mW;rw [acD];rfl
 unfold ig;rw [e,e];exact Qn _ _ _ _ (by rw [aaK,Qo d hk];rfl)
theorem ajE (d:QD) (hk:d.c.key.length=32):(ig d).getD 33 undef=d.dv:=by
 have:=Bh d hk 0;rw [ai8];unfold ig;rw [abY,this];rfl
theorem ajF (d:QD) (hk:d.c.key.length=32):(ig d).getD 36 undef=d.lv:=by
 have:=Bh d hk 3;rw [ai8];unfold ig;rw [abY,this];rfl
theorem JZ {ds:List QD} (hk:∀ d∈ds,d.c.key.length=32){i:Nat}{d:QD} (hi:ds[i]?=some d){j:Nat}{y:Value} (hj:(mW d)[j]?=some y):(kF ds)[i * 37+j]?=some y:=by
 induction ds generalizing i with
 |nil=>simp at hi
 |cons x ds ih=>
  have hx:=Gn x (hk x (.head _));unfold kF at *
  rw [ada];cases i with
  |zero=>
   obtain rfl:x=d:=by simpa using hi
   rw [ac2 (by have:=(abW.1 hj).1;omega),Nat.zero_mul,acT];exact hj
  |succ i=>
   rw [ac0 (by rw [hx];omega),hx,show (i+1) * 37+j - 37=i * 37+j by omega];exact ih (fun d hd=>hk d (.tail _ hd)) (by simpa using hi)
theorem Qp {ds:List QD} (hk:∀ d∈ds,d.c.key.length=32):(kF ds).length=37 * ds.length:=by
 unfold kF
 induction ds with
 |nil=>rfl
 |cons x ds ih=>rw [ada,aaK,Gn x (hk x (.head _)),ih (fun d hd=>hk d (.tail _ hd)),ac5];omega
theorem ajG (ds:List QD) (d:QD):kF (ds++[d])=kF ds++(ig d).toList:=by unfold kF ig;rw [adz];simp
def rC (ds:List QD):aH:=stars (ds.map fun d=>bK d.dv d.c.data)
theorem afe (ds:List QD) (d:QD):rC (ds++[d])=star (bK d.dv d.c.data) (rC ds):=by
 unfold rC;rw [acI,qy,DC];show star (stars [bK d.dv d.c.data]) _=_;rw [DF]
theorem aaj (d:QD){a1 a2:Option Addr}{n1 n2 c1 c2:Nat} (h1:d.dv = .slice a1 n1 c1) (h2:d.lv = .slice a2 n2 c2):(ig d).toList.all (·.oneCell')=true:=by
 unfold ig mW;have hb:(aA d.c.key).all (·.oneCell')=true:=uz _;rw [acW,ahh,aoI,hb,h1,h2]
 rfl
section
variable {w0 w:World}{F R:List aH}{v bv dv x lv:Value}
theorem afU {ds es:List QD}{i:Nat} (h:es.map (·.c)=((ds.map (·.c)).take i).map Rep.sF.cut) (hk:∀ p∈ds,p.c.key.length=32):∀ p∈es,p.c.key.length=32:=by
 intro p hp;have h1:p.c∈es.map (·.c):=abZ.2 ⟨p,hp,rfl⟩;rw [h,abZ]at h1;obtain ⟨x,hx,he⟩:=h1;obtain ⟨q,hq,rfl⟩:=abZ.1 (adG hx);rw [← he];exact hk q hq
theorem afT (ds:List QD) (n:Nat) (hn:n≤1048576) (hr:Ro w0 F (bG 37 lv (kF ds))) (he:∀ d∈ds,Cc w0 F d) (h:Sat w0 w F) :
  Calls Tryz.prog 8 #[lv,.int .i64 n] w (aP fun v w'=>∃ (es:List QD) (ov:Value),v=ov∧es.map (·.c)=Rep.Cm (ds.map (·.c)) n∧(∀ d∈es,Ro w0 F (bG 1 d.lv (ints d.c.l))∧lQ d.lv) ∧
   Sat w0 w' (aB 69 37 ov (kF es)::rC es::F)):=by
 obtain ⟨la,ln,lc,rfl,hl,_⟩:=hr w h;rw [Qp (fun p hp=>(he p hp).key)]at hl;obtain rfl:ln=ds.length:=by omega
 have Hr:=uQ hr;have He:=uQ he;have Hn:=uQ hn;clear hr he hl hn;go_enter Tryz.func8,Tryz.ntmps8;go_wp2_with fail
 go_loopg [5,6] ds.length (fun g ov iq wr=>∃ (i:Nat) (es:List QD),g=ds.length - i∧i≤ds.length∧i≤n∧iq = .int .i64 i∧es.map (·.c)=((ds.map (·.c)).take i).map Rep.sF.cut∧(∀ d∈es,Ro w0 F (bG 1 d.lv (ints d.c.l))∧lQ d.lv) ∧
  Sat w0 wr (aB 69 37 ov (kF es)::rC es::F))
 case atStart=>exact ⟨0,[],rfl,acV _,acV _,rfl,rfl,(fun d hd=>by cases hd),Sat.gI.2 (Sat.emp.2 h)⟩
 case round=>
  obtain ⟨i,es,rfl,hi,hin,rfl,hfs,hls,hS⟩:=hrel;have ny:=uQ hfs;have Hi:=uQ hi;have aC:=uQ hin;have MB:=uQ hls;clear h hfs hi hin hls;by_cases hlt:i<ds.length∧i<n
  ·obtain ⟨hl1,hl2⟩:=hlt;have c1:(i:Int)<(ds.length:Int):=oQ;have c2:(i:Int)<(n:Int):=oQ;have hwi:IntKind.i64.wrap ((i:Int)+1)=(i:Int)+1:=acC _ (by have:=Hn.out;omega);have BX:=uQ hl1;have Hl2:=uQ hl2;have qK:=uQ (afU ny.out (fun p hp=>(He.out p hp).key));clear hl1 hl2;obtain ⟨x,hx⟩:∃ x,ds[i]?=some x:=⟨_,aaI BX.out⟩;have hxe:=He.out x (abV hx);have hk:∀ p∈ds,p.c.key.length=32:=fun p hp=>(He.out p hp).key
   have hcut:=uQ (show es.map (·.c)++[x.c.cut]=((ds.map (·.c)).take (i+1)).map Rep.sF.cut by
    rw [ny.out,adD,acI,acE,hx];rfl)
   have Yd:Ro w0 (aB 69 37 u5 (kF es)::rC es::F) (bG 37 (.slice la ds.length lc) (kF ds)):=Ro.os Hr.out;have hx0:(kF ds)[i * 37+0]?=some (.int .i64 x.c.kind):=JZ hk hx rfl;obtain ⟨bk,off,rfl,_⟩:=qU (Yd _ hS) hx0
   have HG:=uQ (show ∀ w' L,Ro w0 L (bG 37 (.slice (some ⟨bk,off,none⟩) ds.length lc) (kF ds))→Sat w0 w' L→∀ j v,(mW x)[j]?=some v→w'.cell? ⟨bk,off+i * 37+j,none⟩=some v by
    intro w' L hL hw j v hj;obtain ⟨Ny,off',Oz,hcell⟩:=qU (hL w' hw) hx0;cases Oz;have:=hcell _ _ (JZ hk hx hj);rw [← an9]at this;exact this)
   obtain ⟨⟨kind,key,data,xn,xm,xl⟩,dv,lv⟩:=x;obtain ⟨hkey,hrd,hcap,hrl,agV⟩:=hxe;obtain ⟨da,dn,dc,rfl,hdn,hdc⟩:=hcap;obtain ⟨sV,sZ,sW,rfl,XY,XV⟩:=agV;have hdl:dn=data.length:=by
    obtain ⟨a',n',c',he,hl,_⟩:=hrd _ (hS.sb);cases he;rw [aX,adb]at hl;exact hl.symm
   subst hdl;have ML:=uQ hrd;have Hrl:=uQ hrl;have iM:=uQ (show key.length=32 from hkey);have Un:=uQ (aaj ⟨⟨kind,key,data,xn,xm,xl⟩,.slice da data.length dc,.slice sV sZ sW⟩ rfl rfl);have Ey:=uQ (yL ⟨⟨kind,key,data,xn,xm,xl⟩,.slice da data.length dc,.slice sV sZ sW⟩ hkey);clear hx hk Yd hx0 hrd hrl hkey;generalize hd1:(⟨⟨kind,key,data,xn,xm,xl⟩,.slice da data.length dc,.slice sV sZ sW⟩:QD)=d1 at HG Un Ey;have XI:d1.c.key.length=32:=by rw [← hd1];exact iM.out
   have XH:d1.dv = .slice da data.length dc:=by rw [← hd1]
   have XJ:d1.lv = .slice sV sZ sW:=by rw [← hd1]
   have Hd1:=uQ hd1;have Ia:=uQ XI;have acP:=uQ XH;have acQ:=uQ XJ;clear hd1 XI XH XJ
   go_wp2_with (first
    |((with_reducible refine bI ⟨?_⟩);refine iL (b:=bk) (o:=off+i * 37) (mW d1) aj (HG.out _ _ (Ro.os Hr.out) hS) Tryz.underlying69 rfl (by rw [Gn _ Ia.out];exact Jv) ?_)
    |(with_reducible apply gq))
   refine ⟨fF zQo hS rfl ?_⟩;intro q w1 hS1;go_wp2_with (with_reducible apply cO);refine ⟨gJ (ig d1) hS1 (cs:=ig Tq) aj aj (Ey.out.trans (yL Tq rfl).symm) eX (by rw [Ey.out];exact Jv) Un.out ?_⟩;intro w2 hS2;clear hS hS1;go_wp2_with ((with_reducible refine bI ⟨?_⟩);refine gu (b:=q) (o:=33) (v:= .slice da data.length dc) hS2 aj bC (by rw [Ey.out];decide) (by rw [ajE _ Ia.out,acP.out]) au ?_);refine (cut_c da data.length dc 200 hdn hdc _).mono ?_;rintro ee w3 ⟨v,rfl,rfl,rfl⟩;go_wp2_with fail;refine (aeX hS2 (data.take 200) (ajJ ((Ro.os ML.out) _ hS2)) (by rw [acA];omega)).mono ?_;rintro ee w4 ⟨v,rfl,hS4,ca,cn,cc,rfl⟩;obtain ⟨d2,hd2⟩:∃ d2:QD,d2=⟨⟨d1.c.kind,d1.c.key,data.take 200,d1.c.n,d1.c.m,d1.c.l⟩,.slice ca cn cc,d1.lv⟩:=⟨_,rfl⟩;have hp2:eu (ig d1) 33 [.slice ca cn cc]=ig d2:=by rw [ajA _ Ia.out (data.take 200),hd2]
   have XK:d2.c.key.length=32:=by rw [hd2];exact Ia.out
   have XL:d2.lv = .slice sV sZ sW:=by rw [hd2];exact acQ.out
   have zB:=uQ hp2;have Hd2:=uQ hd2;have Eb:=uQ XK;have acR:=uQ XL;clear hp2 hd2 XK XL hS2;go_wp2_with (with_reducible apply cO);refine ⟨fG (b:=q) (o:=33) (v:= .slice ca cn cc) hS4 aj aj zB.out eX (by rw [Ey.out];show 33+1≤37;decide) au aj ?_⟩;intro w5 hS5;clear hS4;go_wp2_with ((with_reducible refine bI ⟨?_⟩);refine gu (b:=q) (o:=36) (v:= .slice sV sZ sW) hS5 aj bC (by rw [yL _ Eb.out];decide) (by rw [ajF _ Eb.out,acR.out]) au ?_);refine (aiM sV sZ sW 60 XY XV _).mono ?_;rintro ee w6 ⟨v,rfl,rfl,rfl⟩;obtain ⟨d3,hd3⟩:∃ d3:QD,d3=⟨⟨d2.c.kind,d2.c.key,d2.c.data,d2.c.n,d2.c.m,xl.take 60⟩,d2.dv,.slice sV (min sZ 60) sW⟩:=⟨_,rfl⟩;have hp3:eu (ig d2) 36 [.slice sV (min sZ 60) sW]=ig d3:=by rw [ajB _ Eb.out (xl.take 60),hd3]
   have XM:d3.c.key.length=32:=by rw [hd3];exact Eb.out
   have adh:=uQ (show (ig d3).toList.all (·.oneCell')=true by rw [hd3,Hd2.out];exact aaj _ rfl rfl);have Hc3:=uQ (show d3.c=Rep.sF.cut ⟨kind,key,data,xn,xm,xl⟩ by rw [hd3,Hd2.out,← Hd1.out];rfl);have Hb3:=uQ (show bK d3.dv d3.c.data=bK (.slice ca cn cc) (data.take 200) by rw [hd3,Hd2.out]);have Ud:=uQ (show d3.lv = .slice sV (min sZ 60) sW∧d3.c.l=xl.take 60 by rw [hd3];exact ⟨rfl,rfl⟩);have Hp3:=uQ hp3;have Ib:=uQ XM;clear hp3 hd3 XM;have hlen:(kF es).length≤2147483648:=by
    rw [Qp qK.out];have:=adu List.length ny.out;simp only [abl,acA]at this;have:=Hn.out;have:=aC.out;omega
   go_wp2_with (with_reducible apply cO);refine ⟨fG (b:=q) (o:=36) (v:= .slice sV (min sZ 60) sW) hS5 aj aj Hp3.out eX (by rw [yL _ Eb.out];exact abL 37) au aj ?_⟩;intro w7 hS7;clear hS5
   go_wp2_with (first
    |((with_reducible refine bI ⟨?_⟩);refine iW (b:=q) hS7 aj bC Tryz.underlying69 rfl (by rw [yL _ Ib.out];exact Jv) ?_)
    |((with_reducible refine pI ⟨?_⟩);refine o7 (e:=69) (sz:=37) (eY:=104) au hS7 aj (cs:=ig d3) rfl (yL _ Ib.out) bJ ?_;intro bN wN hN)
    |((with_reducible refine lX ⟨?_⟩);refine pW 69 37 104 au hN aj aj bC bC ((yL _ Ib.out).trans aN) (abL 1) adh.out hlen (by rw [yL _ Ib.out];decide) aN rfl ?_;intro bA nA cA wA hA))
   go_roundg (ds.length - (i+1))
   case measure=>have:=BX.out;omega
   case rel=>
    refine ⟨i+1,es++[d3],rfl,adi BX.out,adi Hl2.out,by first|rfl|go_num,?_,?_,?_⟩
    ·rw [← hcut.out,acI,acS,adw,Hc3.out]
    ·intro d hd;rcases ac3.1 hd with hd|hd
     ·exact MB.out d hd
     ·rw [acO.1 hd,Ud.out.1,Ud.out.2];exact ⟨fun w hw=>ajK (Hrl.out w hw),⟨_,_,_,rfl,acz (Nat.min_le_left _ _) XY,XV⟩⟩
    ·rw [ajG,afe,Hb3.out];have h10:Sat w0 wA (bK (.slice ca cn cc) (data.take 200)::rC es::aB 69 37 (.slice (some ⟨bA,0,none⟩) nA cA) (kF es++(ig d3).toList)::F):=hA.sb;exact (Sat.star.2 h10).aY
  ·have hfin:es.map (·.c)=Rep.Cm (ds.map (·.c)) n:=by
    rw [ny.out];unfold Rep.Cm
    congr 1
    have:=Hi.out;have:=aC.out;by_cases hh:i=n
    ·rw [hh]
    ·rw [acX (by rw [abl];omega),acX (by rw [abl];omega)]
   have bF:=uQ hfin;by_cases hl1:i<ds.length
   ·have c1:(i:Int)<(ds.length:Int):=by omega
    have c2:¬ (i:Int)<(n:Int):=oQ;clear hfin hlt hl1;go_wp2;go_ret;exact ⟨_,rfl,es,bF.out,MB.out,hS⟩
   ·have c1:¬ (i:Int)<(ds.length:Int):=by omega
    clear hfin hlt hl1;go_wp2;go_ret;exact ⟨_,rfl,es,bF.out,MB.out,hS⟩
end
abbrev PV:=ah.Bs×ah.Bs×Value
def jH (q:PV):List Value:=aA q.1++[q.2.2]
def JY (q:PV):ah.Bs×ah.Bs:=(q.1,q.2.1)
def nG (ps:List PV):aH:=stars (ps.map fun q=>bK q.2.2 q.2.1)
theorem yK (q:PV) (hk:q.1.length=32):(jH q).length=33:=by unfold jH;rw [aaK,aX,hk];rfl
theorem ajD (q:PV){a:Option Addr}{n c:Nat} (h:q.2.2 = .slice a n c):(jH q).all (·.oneCell')=true:=by
 unfold jH;have hb:(aA q.1).all (·.oneCell')=true:=uz _;rw [ahh,hb,h];rfl
theorem aff (ps:List PV) (q:PV):nG (ps++[q])=star (bK q.2.2 q.2.1) (nG ps):=by
 unfold nG;rw [acI,qy,DC];show star (stars [bK q.2.2 q.2.1]) _=_;rw [DF]
theorem ajd:rM Tryz.prog 113=some [(0,32),(32,1)]:=by kernel_rfl
theorem ane:jr Tryz.prog 113=some (.agg (jH (ah.zero32,[],.slice none 0 0)).toArray):=by kernel_rfl
theorem akP (k:ah.Bs) (hk:k.length=32) (d:ah.Bs) (a:Option Addr) (n c:Nat) (w:World) :
  (Instr.build 113 #[(0,.agg (aA k).toArray),(1,.slice a n c)]).run Tryz.prog w = .ok (.agg (jH (k,d,.slice a n c)).toArray) w:=by
 have hbk:(aA k).toArray.size=32:=by rw [abX,aX,hk]
 refine (aod (P:=Tryz.prog) [(0,.agg (aA k).toArray),(1,.slice a n c)] ajd ane (by
  intro p' hp;simp only [acK,ag0,aoj]at hp;have hzz:(Value.agg (jH (ah.zero32,[],.slice none 0 0)).toArray).cells.size=33:=by
   show (jH (ah.zero32,[],.slice none 0 0)).toArray.size=33;rw [abX,yK _ rfl]
  rw [hzz];rcases hp with rfl|rfl
  ·refine ⟨0,?_,?_⟩
   ·show some (0,32)=some (0,(aA k).toArray.size);rw [hbk]
   ·show 0+(aA k).toArray.size≤33;omega
  ·exact ⟨32,rfl,by show 32+1≤33;omega⟩) w).trans ?_
 congr 2
 show eu (eu (jH (ah.zero32,[],.slice none 0 0)).toArray 0 (aA k)) 32 [.slice a n c]=_;have h1:eu (jH (ah.zero32,[],.slice none 0 0)).toArray 0 (aA k)=(aA k++Value.slice none 0 0::[]).toArray:=by
  apply qR;rw [lg _ _ _ (by rw [abX,yK _ rfl,aX,hk];decide),adH,adl,acT,aX,hk,acW]
  rfl
 rw [h1];exact Qn _ _ _ _ (by rw [aX,hk])
end Go.Proofs.YtihngncbioofnaaGreatDoor
namespace Go.Seg
open Go.ay
open Go.ah (Bs aG encs fH)
open Go.Rep
end Go.Seg
namespace Go.Proofs.YtihngncbioofnaaGreatDoor
open Go Go.Sl Go.ay Go.MapKept Go.RowKit
section
variable {w0 w:World}{F R:List aH}{r m K r0 E n:Nat}{seg:Int}{o oc:ah.Bs→Option ah.Bs}{d:Bool}
theorem VW:∀ (es:List QD) (i:Nat) (d:QD),es[i]?=some d→∃ G,rC es=star (bK d.dv d.c.data) G
 |[],_,_,h=>by cases h
 |x::es,0,d,h=>by
  obtain rfl:x=d:=by simpa using h
  exact ⟨_,rfl⟩
 |x::es,i+1,d,h=>by
  obtain ⟨G,hG⟩:=VW es i d (by simpa using h);refine ⟨star (bK x.dv x.c.data) G,?_⟩;show star (bK x.dv x.c.data) (rC es)=_;rw [hG,uY]
theorem afd {es:List QD}{i:Nat}{d:QD} (h:es[i]?=some d):Ro w0 (rC es::R) (bG 1 d.dv (aA d.c.data)):=fun w hw=>by
 obtain ⟨G,hG⟩:=VW es i d h;rw [hG]at hw;exact Sat.rd (Sat.star.1 hw)
theorem VX:∀ (es:List PV) (i:Nat) (d:PV),es[i]?=some d→∃ G,nG es=star (bK d.2.2 d.2.1) G
 |[],_,_,h=>by cases h
 |x::es,0,d,h=>by
  obtain rfl:x=d:=by simpa using h
  exact ⟨_,rfl⟩
 |x::es,i+1,d,h=>by
  obtain ⟨G,hG⟩:=VX es i d (by simpa using h);refine ⟨star (bK x.2.2 x.2.1) G,?_⟩;show star (bK x.2.2 x.2.1) (nG es)=_;rw [hG,uY]
theorem I7 {es:List PV}{q:PV} (h:q∈es):Ro w0 (nG es::R) (bG 1 q.2.2 (aA q.2.1)):=fun w hw=>by
 obtain ⟨i,hi⟩:=an8 h;obtain ⟨G,hG⟩:=VX es i q hi;rw [hG]at hw;exact Sat.rd (Sat.star.1 hw)
theorem ajH {es:List QD}{v:Value} (hk:∀ d∈es,d.c.key.length=32) (h:Sat w0 w (aB 69 37 v (kF es)::R)):∃ a c,v = .slice a es.length c:=by
 obtain ⟨a,n,c,rfl,hl,hx⟩:=Sat.rd h;rw [Qp hk]at hl;obtain rfl:n=es.length:=by omega
 exact ⟨a,c,rfl⟩
theorem afV {es ds:List QD}{n:Nat} (h:es.map (·.c)=Rep.Cm (ds.map (·.c)) n) (hk:∀ d∈ds,d.c.key.length=32):es.length≤n∧∀ d∈es,d.c.key.length=32∧d.c.data.length≤300:=by
 refine ⟨?_,fun d hd=>?_⟩
 ·have:=adu List.length h;unfold Rep.Cm at this;rw [abl,abl,acA]at this;omega
 ·have h1:d.c∈es.map (·.c):=abZ.2 ⟨d,hd,rfl⟩;rw [h]at h1;unfold Rep.Cm at h1;obtain ⟨x,hx,e⟩:=abZ.1 h1;obtain ⟨y,hy,rfl⟩:=abZ.1 (adG hx);rw [← e];exact ⟨hk y hy,by show (y.c.data.take 200).length≤300;rw [acA];omega⟩
end
end Go.Proofs.YtihngncbioofnaaGreatDoor
namespace Go.Seg
open Go.ay
open Go.ah (Bs aG encs fH dN)
open Go.Rep
section
variable {K r E B n:Nat}{L:Log}{M:ay}{C:List (List aG)}{x y:aG}
theorem Bd:put C false x=C++[[x]]:=rfl
theorem Rp.aac (h:Rp K r E B n L M C) (hn:n<400) (hE:n+E<500) (hon:L.on=false) (hk:x.key.length=32) (hd:x.data.length≤300) (h0:(ah.encode x).2=0) (hr:n * 400+B+400≤r) :
  (L.append M x).2.2=0∧(L.append M x).1.1.on=true∧(L.append M x).1.1.limit=L.limit∧Rp (K+4) r E B (n+1) (L.append M x).1.1 (L.append M x).1.2 (C++[[x]])∧∃ row,dW 0 (C++[[x]])=dW 0 C++[row]∧row.2.e=x∧iH row=(L.append M x).2.1:=by
 have hf:L.fits (ah.encode x).1.length=false:=by unfold Log.fits;rw [hon];rfl
 have hu:=h.hg.used;have hrm:=h.hg.keeps.calm.room;have hnm:=h.hg.names;obtain ⟨a1,a2,a3,_⟩:=h.hg.append oQ x hk hd h0 (.inr ⟨by omega,by omega⟩);obtain ⟨C',b1,b2,_,row,b4,b5,b6⟩:=h.yes oQ hk hd h0 a1;rw [hf,Bd]at b2;subst b2;exact ⟨a1,a2,a3,b1,row,b4,b5,b6⟩
end
section
variable {K r E B n:Nat}{L:Log}{M:ay}{C:List (List aG)}{x y:aG}
theorem HG.len_eq {K' r' E' B' n':Nat}{M':ay}{C':List (List aG)} (h:HG K r E B n L M C) (h':HG K' r' E' B' n' L M' C'):C.length=C'.length:=h.len.symm.trans h'.len
theorem Qj (h0:(ah.encode x).2=0) (hk:x.key.length=32) (ht:x.tag=0):(ah.encode x).1.length=41+x.data.length:=by
 rw [BD h0 hk];unfold ah.size;have hc:ah.check x=0:=by
  unfold ah.encode at h0;split at h0
  ·exact h0
  ·rename_i h;exact Decidable.not_not.1 h
 rw [abA (by rw [hc];decide),abA (by rw [ht];decide)]
theorem HG.ai5 (h:HG K r E B n L M (C++[[x]])) (h0:(ah.encode x).2=0) (hk:x.key.length=32) (hd:x.data.length≤1) (ht:x.tag=0) (hon:L.on=true) (hlim:L.limit=200):L.fits (ah.encode bf).1.length=true:=by
 have hl:L.l.getLast?=some ((C.length:Int),8+((encs [x]).length:Int)):=by
  rw [adv,h.len,aaK,ac7,Nat.add_sub_cancel];exact h.at_ _ _ (by rw [ac0 (abL _),anm];rfl)
 unfold Log.fits;rw [hl,hon,hlim,ET,Qj h0 hk ht,aeR];simp only [ahf,anW,aoJ];exact adt oQ
theorem ajt:put (C++[[x]]) true y=C++[[x,y]]:=by
 unfold put;rw [acr rfl,List.dropLast_concat,List.getLastD_eq_getLast?,List.getLast?_concat]
 rfl
theorem WT (s:List aG) (a:Nat) (k:Int):(dN s a).map (fun _=>k)=s.map fun _=>k:=by
 conv=>rhs;rw [← ah.xW s a]
 rw [aee];rfl
theorem akc (k:Nat) (s t:List aG):(dW k [s,t]).map (·.1)=(s.map fun _=>(k:Int))++t.map fun _=>((k+1:Nat):Int):=by
 show (((dN s 8).map fun f=>((k:Int),f))++(((dN t 8).map fun f=>(((k+1:Nat):Int),f))++[])).map (fun r:Row=>r.1)=_;rw [acM,acI,aee,aee];exact congr (adu _ (WT s 8 k)) (WT t 8 _)
theorem aiZ {C2:List (List aG)} (hf:C2.flatten=[x,y]) (hl:C2.length=1):C2=[[x,y]]:=by
 match C2,hl with
 |[s],_=>
  rw [anI,List.flatten_nil,acM]at hf;rw [hf]
theorem amx {C2:List (List aG)}{a b:aG}{row:Row} (hf:C2.flatten=[a,b,x,y]) (hl:C2.length=2) (hr:dW 0 C2=dW 0 [[a,b],[x]]++[row]):C2=[[a,b],[x,y]]:=by
 match C2,hl with
 |[s,t],_=>
  rw [anI,anI,List.flatten_nil,acM]at hf;have h1:=adu (fun l:List Row=>l.map (·.1)) hr;simp only [acI,akc]at h1;rcases s with _|⟨s0,_|⟨s1,_|⟨s2,s⟩⟩⟩
  ·simp only [adl]at hf;rw [hf]at h1;simp at h1
  ·simp only [adA,adl,List.cons.injEq]at hf;rw [hf.2]at h1;simp at h1
  ·simp only [adA,adl,List.cons.injEq]at hf;rw [hf.1,hf.2.1,hf.2.2]
  ·simp at h1
theorem Rp.VG (h:Rp K r E B n L M (C++[[x]])) (hn:n<400) (hE:n+E<500) (hk:x.key.length=32) (hd:x.data.length≤1) (ht:x.tag=0) (h0:(ah.encode x).2=0) (hon:L.on=true) (hlim:L.limit=200) (hr:n * 400+B+400≤r) :
  (L.append M bf).2.2=0∧(L.commit M).1.1.on=false∧(L.commit M).1.1.limit=200∧∀ {K' r' E' B' n':Nat} {M3:ay} {C2:List (List aG)},HG K' r' E' B' n' (L.commit M).1.1 M3 C2→C2.length=C.length+1:=by
 have hu:=h.hg.used;have hrm:=h.hg.keeps.calm.room;have hnm:=h.hg.names;obtain ⟨a1,_⟩:=h.hg.append oQ bf rfl aN aj (.inr ⟨by omega,by omega⟩);obtain ⟨_,b2,b3,b4⟩:=h.hg.commit oQ (.inl a1);rw [h.hg.ai5 h0 hk hd ht hon hlim,ajt]at b4;refine ⟨a1,b2,b3.trans hlim,fun h'=>?_⟩;rw [← b4.len_eq h',aaK,ac7]
end
end Go.Seg
namespace Go.aO
open Go.ah (Bs dA aG dN encs fH)
open Go.Seg (aU bf)
open Go.Rep
theorem alM {x y:aG} (hx:x.tag=0) (hy:y.tag=0) (hk:x.key=y.key) (h0:0<(ah.encode x).1.length) (h1:0<(ah.encode y).1.length) (N:Int):jZ (chosen ⟨N,tN [[x,bf],[y,bf]],kH (jK (tN [[x,bf],[y,bf]])),dO (dW 0 [[x,bf],[y,bf]])⟩ 100) (tN [[x,bf],[y,bf]])=[0]:=by
 generalize hQ:kH (jK (tN [[x,bf],[y,bf]]))=Q;have hi:dO (dW 0 [[x,bf],[y,bf]]) y.key=some ⟨1,8,((ah.encode y).1.length:Int)⟩:=by
  have e:dW 0 [[x,bf],[y,bf]]=(dW 0 [[x,bf]]++[((1:Int),⟨y,8,(ah.encode y).1.length⟩)])++[((1:Int),⟨bf,8+(ah.encode y).1.length,(ah.encode bf).1.length⟩)]:=rfl;rw [e,P6 aj,JJ (by exact hy)];unfold Tab.put;exact acr rfl
 generalize dO (dW 0 [[x,bf],[y,bf]])=I at hi ⊢;have es:tN [[x,bf],[y,bf]]=[((0:Int),[⟨x,8,(ah.encode x).1.length⟩,⟨bf,8+(ah.encode x).1.length,(ah.encode bf).1.length⟩]),((1:Int),[⟨y,8,(ah.encode y).1.length⟩,⟨bf,8+(ah.encode y).1.length,(ah.encode bf).1.length⟩])]:=rfl;rw [es];generalize (ah.encode x).1.length=a at *
 generalize (ah.encode y).1.length=b at *
 generalize (ah.encode bf).1.length=c at *
 clear hQ es;obtain ⟨P,hP⟩:∃ P,P=Plan.mk N [((0:Int),[⟨x,8,a⟩,⟨bf,8+a,c⟩]),((1:Int),[⟨y,8,b⟩,⟨bf,8+b,c⟩])] Q I:=⟨_,rfl⟩;rw [← hP];have hI:P.index=I:=by rw [hP]
 have hS:P.aF=[((0:Int),[⟨x,8,a⟩,⟨bf,8+a,c⟩]),((1:Int),[⟨y,8,b⟩,⟨bf,8+b,c⟩])]:=by rw [hP]
 clear hP;have cc:∀ (gs:List Int) (s:Int) (z:Nat),counts P gs s ⟨bf,z,c⟩=false:=fun gs s z=>by unfold counts;exact acr rfl
 have c0:∀ gs:List Int,counts P gs 0 ⟨x,8,a⟩=false:=fun gs=>by
  unfold counts;rw [abA (by show ¬ x.tag=2;rw [hx];decide),acr (show x.tag=0 from hx)];show (match P.index x.key with|some p=>tH p ⟨0,((8:Nat):Int),(a:Int)⟩|none=>false)=false;rw [hI,hk,hi]
  rfl
 have c1:∀ gs:List Int,counts P gs 1 ⟨y,8,b⟩=true:=fun gs=>by
  unfold counts;rw [abA (by show ¬ y.tag=2;rw [hy];decide),acr (show y.tag=0 from hy)];show (match P.index y.key with|some p=>tH p ⟨1,((8:Nat):Int),(b:Int)⟩|none=>false)=true;rw [hI,hi];show ((1:Int)==1 && ((8:Int)==((8:Nat):Int) && (b:Int)==(b:Int)))=true;rw [beq_self_eq_true (b:Int)]
  rfl
 have p0:∀ (e:aG) (a z:Nat),e.tag=0→pay [⟨e,8,a⟩,⟨bf,z,c⟩]=(a:Int):=fun e a z he=>by
  unfold pay pay pay;rw [abA (by show ¬ e.tag=2;rw [he];decide),acr (show bf.tag=2 from rfl)];show (a:Int)+0=a;exact Int.add_zero _
 have s0:sparse P [] 100 ((0:Int),[⟨x,8,a⟩,⟨bf,8+a,c⟩])=true:=by
  unfold sparse;simp only;rw [p0 x a _ hx,abA oQ];unfold mQ mQ mQ;rw [c0,cc,abA aN,abA aN];exact adt oQ
 have s1:∀ gs:List Int,sparse P gs 100 ((1:Int),[⟨y,8,b⟩,⟨bf,8+b,c⟩])=false∨b=0:=fun gs=>by
  by_cases hb:b=0
  ·exact .inr hb
  refine .inl ?_;unfold sparse;simp only;rw [p0 y b _ hy,abA oQ];unfold mQ mQ mQ;rw [c1,cc,acr rfl,abA aN];exact ac4 (by show ¬ (100 * ((b:Int)+(0+0))<100 * (b:Int));omega)
 have s1:∀ gs:List Int,sparse P gs 100 ((1:Int),[⟨y,8,b⟩,⟨bf,8+b,c⟩])=false:=fun gs=>(s1 gs).resolve_right oQ;have n1:nextL P [] 100 P.aF=[0]:=by
  unfold nextL;rw [hS,an7 (by rw [s0];rfl),am1 (by rw [s1,Bool.and_false];exact Bool.false_ne_true)]
  rfl
 have n2:nextL P [0] 100 P.aF=[]:=by
  unfold nextL;rw [hS,am1 (by simp),am1 (by rw [s1,Bool.and_false];exact Bool.false_ne_true)]
  rfl
 unfold chosen;rw [hS]at n1 n2;rw [hS];show jZ (choose P 100 (2+1) []) _=_;rw [VB (by rw [hS,n1];decide),hS,n1,adl,VA (by rw [hS];exact n2)]
 rfl
end Go.aO
namespace Go.Proofs.YtihngncbioofnaaGreatDoor
open Go Go.Sl Go.ay Go.MapKept Go.RowKit
theorem alC {K:Nat}{M:ay} (h:M.Ok K) (ho:M.off=false):M.size ByteArray.empty=(0,9):=by
 have hn:bP M.now ByteArray.empty=none:=by
  cases hi:bP M.now ByteArray.empty with
  |none=>rfl
  |some i=>exact absurd rfl (h.gG.ne _ (jF hi))
 unfold ay.size;rw [ho,hn];rfl
section
variable {w0 w:World}{F:List aH}
abbrev RX (r m p ps pi pn:Nat) (uv:Value) (limit:Int) (M:ay) (F:List aH):List aH:=
 aW r m limit p ps pn false::dh ps (-1) pi uv (.slice none 0 0)::aI pn (fun _=>none) 0::aI pi (fun _=>none) 0::aB 45 3 uv []::aK p m ⟨limit,[],false,0⟩::aJ m M::F
theorem aay {m K r0:Nat}{M:ay}{limit:Int} (h1:128≤limit) (h2:limit≤1048576) (hM:Seg.Calm K r0 M) (hK:K≤1048576) (je:M.now=[]) (hH:Ro w0 F Half) (h:Sat w0 w (aJ m M::F)) :
  Calls Tryz.prog 19 #[ptr m,.int .i64 limit] w (aP fun v w'=>∃ (r p ps pi pn:Nat) (uv:Value),v = .tuple #[ptr r,.agg (fA Rep.dZ.zero),errno 0]∧Seg.Rp K r0 0 0 0 ⟨limit,[],false,0⟩ M []∧Sat w0 w' (RX r m p ps pi pn uv limit M F)):=by
 have hl:M.list=[]:=by rw [hM.quiet.list,je];rfl
 have hfr:Seg.fresh M limit=⟨limit,[],false,0⟩:=by
  unfold Seg.fresh Seg.found;rw [hl]
  rfl
 have ha:Seg.alive M=0:=by unfold Seg.alive;rw [alC hM.ok hM.quiet.off];rfl
 have hu:M.used=0:=by unfold ay.used;rw [je];rfl
 refine (aj6 h1 h2 hM.ok hK ha (by rw [hfr];rfl) hl hH h).mono ?_;rintro e w' ⟨v,rfl,r,p,ps,pi,pn,uv,rfl,hS⟩;have hok:=Seg.Jf hM.ok limit h1 h2;rw [hfr]at hS hok;refine ⟨_,rfl,r,p,ps,pi,pn,uv,rfl,⟨⟨⟨hok,hM,fun s hs=>by cases hs⟩,rfl,fun k es hk=>(by simp at hk),fun k es hk=>(by simp at hk),fun es he=>(by cases he),abL _,by rw [hu];omega,by rw [je];exact abL _,fun k i hk hi=>by rw [je]at hi;cases hi⟩,by rw [je];rfl,abL _,fun p hp=>(by rw [je]at hp;cases hp),fun e he=>(by cases he)⟩,hS.sb⟩
end
section
theorem ad6 {P:Program}{ops:Array Oper}{Q:Exit→Act→World→Prop}{rest:List Oper}{a:Act}{w:World}{dst:Option Tmp}{ty t:TypeId}{pos:String}{after:Array Edge}{g:Nat×Bool}{n:Nat}{xs:Array (Nat×Operand)} (h:Stop (wpList P ops Q (⟨dst,.buildSlice ty n xs,t,pos,after,some g⟩::rest) a w)):wpList P ops Q (⟨dst,.buildSlice ty n xs,t,pos,after,some g⟩::rest) a w:=h.out
variable {w0 w:World}{F:List aH}
theorem ai4 (z:Int) (hH:Ro w0 F Half) (h:Sat w0 w F) :
  Calls Tryz.prog 30 #[.int .i64 z] w (aP fun v w'=>∃ (r m p ps pi pn:Nat) (uv:Value) (limit:Int) (M:ay),v = .tuple #[ptr r,ptr m,.bool true]∧(128≤limit∧limit≤2000∧M.now=[])∧Seg.Rp 0 1048576 0 0 0 ⟨limit,[],false,0⟩ M []∧Sat w0 w' (RX r m p ps pi pn uv limit M F)):=by
 have hnew:=Zg 1048576 aN h;have hlim:=SL z 128 2000 aN;have hwi:=SK z 128 2000;generalize within z 128 2000=lim at *
 have vF:=uQ hlim;have HH:=uQ hH;clear h hlim hH;go_enter Tryz.func30,Tryz.ntmps30;go_wp2_with fail;refine hnew.mono ?_;rintro ee w1 ⟨v,rfl,m,rfl,h1⟩;clear hnew;go_wp2_with fail;refine (hwi _).mono ?_;rintro ee w2 ⟨v,rfl,rfl,rfl⟩;clear hwi;have hop:=aay (K:=0) vF.out.1 (by have:=vF.out.2;omega) (Seg.Calm.new 0 1048576 aN) (acV _) rfl HH.out h1;clear h1;go_wp2_with fail;refine hop.mono ?_;rintro ee w3 ⟨v,rfl,r,p,ps,pi,pn,uv,rfl,hR,h3⟩;clear hop;have HR:=uQ hR;clear hR;go_wp2_with (with_reducible apply gq);refine ⟨fF qc h3 rfl ?_⟩;intro b8 w7 h7;go_wp2_with (with_reducible apply cO);refine ⟨gJ (fA Rep.dZ.zero) h7 aj aj aj cZ au aj ?_⟩;intro w8 h8;have h9:=h8.drop;clear h3 h7 h8;have h9:Sat w0 w8 (RX r m p ps pi pn uv lim (ay.new 1048576) F):=h9;go_wp2_with fail
 go_ret3
 exact ⟨_,rfl,r,m,p,ps,pi,pn,uv,lim,_,rfl,⟨vF.out.1,vF.out.2,rfl⟩,HR.out,h9⟩
end
end Go.Proofs.YtihngncbioofnaaGreatDoor
