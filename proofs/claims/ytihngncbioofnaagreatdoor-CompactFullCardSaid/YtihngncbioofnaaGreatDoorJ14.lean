import Derived.Test.YtihngncbioofnaaGreatDoorJ13
import Derived.Test.YtihngncbioofnaaGreatDoorRows
import Derived.Test.YtihngncbioofnaaGreatDoorCards
import Derived.Test.YtihngncbioofnaaGreatDoorTie
import Derived.ProofKit
import Derived.LaidMore
import Derived.OpenShut
import Derived.ShutString
import Derived.SevenTiedAt
set_option maxRecDepth 100000
set_option linter.unusedVariables false
set_option maxHeartbeats 128000000
namespace Go.Proofs.YtihngncbioofnaaGreatDoor
open Go Go.Sl Go.ay Go.MapKept Go.RowKit
section
variable {w0 w:World}{F:List aH}{r m K r0 E n:Nat}{seg:Int}{o oc:ah.Bs→Option ah.Bs}{d:Bool}
theorem afo (x:QD) (hkey:x.c.key.length=32) (hkind:x.c.kind=0) (hd:Ro w0 F (bG 1 x.dv (aA x.c.data))) (hlen:x.c.data.length≤300) (hn:n≤199) (hE:E≤200) (hK:K≤1048576) (hH:Ro w0 F Half) (h:iE w0 r m seg K r0 E n o oc d F w) :
  Calls Tryz.prog 21 #[ptr r,.agg (ig x)] w (aP fun v w'=>∃ (o' oc':ah.Bs→Option ah.Bs) (d':Bool),iE w0 r m seg (K+605) r0 (E+2) (n+1) o' oc' d' F w'):=by
 obtain ⟨LL,hS,hpush,hdrop⟩:=h.sat;have hF:=hdrop _ hS;obtain ⟨da,dn,dc,hdv,hdn,_⟩:=hd w hF;rw [aX,adb]at hdn;subst hdn;rw [hdv]at hd;have Hd:=uQ hd;have Hlen:=uQ hlen;clear hd hlen;have iM:=uQ hkey;have Hp:=uQ hpush;have HH:=uQ hH;have Hn:=uQ hn;have HE:=uQ hE;have HK:=uQ hK;clear h hpush hdrop hkey hH hn hE hK hF;go_enter Tryz.func21,Tryz.ntmps21;go_wp2_with (with_reducible apply fK);refine ⟨fM hS aj aj ?_⟩;intro b3 w3 h3;have h4:=Hp.out _ _ h3;have e0:w3.cell? ⟨b3,0,none⟩=some (.int .i64 x.c.kind):=h3.cellP aV 0 (by unfold ig;rw [abY];exact Gm x);have fk:w3.rangeAt b3 1 (aA x.c.key):=fun j z hj=>h3.cellP aV (1+j) (by unfold ig;rw [abY];exact Gl x hj);have e33:w3.cell? ⟨b3,33,none⟩=some x.dv:=h3.cellP aV 33 (by unfold ig;rw [abY];exact Bh x iM.out 0);clear hS h3;rw [hdv]at e33;rw [hkind]at e0
 go_wp2_with ((with_reducible refine bI ⟨?_⟩);refine iL (b:=b3) (o:=1) (aA x.c.key) aj fk Tryz.underlying50 rfl (by rw [aX,iM.out];kernel_rfl) ?_);refine (alN (by have:=Hn.out;omega) HE.out HK.out iM.out x.c.data da dc (Ro.os Hd.out) Hlen.out (Ro.os HH.out) h4).mono ?_;rintro ee w5 ⟨v,rfl,⟨rfl,h5⟩|⟨rfl,h5⟩⟩
 ·go_wp2_with fail
  go_end0
  exact ⟨_,rfl,_,_,_,h5.drop.mono oQ oQ oQ⟩
 ·go_wp2_with fail
  go_end0
  exact ⟨_,rfl,_,_,_,h5.drop.mono oQ oQ oQ⟩
theorem afp (x:QD) (hkey:x.c.key.length=32) (hkind:x.c.kind=1) (hn:n≤199) (hE:E≤200) (hK:K≤1048576) (hH:Ro w0 F Half) (h:iE w0 r m seg K r0 E n o oc d F w) :
  Calls Tryz.prog 21 #[ptr r,.agg (ig x)] w (aP fun v w'=>∃ (o' oc':ah.Bs→Option ah.Bs) (d':Bool),iE w0 r m seg (K+605) r0 (E+2) (n+1) o' oc' d' F w'):=by
 obtain ⟨LL,hS,hpush,hdrop⟩:=h.sat;have hF:=hdrop _ hS;have iM:=uQ hkey;have Hp:=uQ hpush;have HH:=uQ hH;have Hn:=uQ hn;have HE:=uQ hE;have HK:=uQ hK;clear h hpush hdrop hkey hH hn hE hK hF;go_enter Tryz.func21,Tryz.ntmps21;go_wp2_with (with_reducible apply fK);refine ⟨fM hS aj aj ?_⟩;intro b3 w3 h3;have h4:=Hp.out _ _ h3;have e0:w3.cell? ⟨b3,0,none⟩=some (.int .i64 x.c.kind):=h3.cellP aV 0 (by unfold ig;rw [abY];exact Gm x);have fk:w3.rangeAt b3 1 (aA x.c.key):=fun j z hj=>h3.cellP aV (1+j) (by unfold ig;rw [abY];exact Gl x hj);have e33:w3.cell? ⟨b3,33,none⟩=some x.dv:=h3.cellP aV 33 (by unfold ig;rw [abY];exact Bh x iM.out 0);clear hS h3;rw [hkind]at e0;go_wp2_with ((with_reducible refine bI ⟨?_⟩);refine iL (b:=b3) (o:=1) (aA x.c.key) aj fk Tryz.underlying50 rfl (by rw [aX,iM.out];kernel_rfl) ?_)
 refine (ala (by have:=Hn.out;omega) HE.out HK.out iM.out (Ro.os HH.out) h4).mono ?_;rintro ee w5 ⟨v,rfl,⟨rfl,h5⟩|⟨rfl|rfl,h5⟩⟩
 ·go_wp2_with fail
  go_end0
  exact ⟨_,rfl,_,_,_,h5.drop.mono oQ oQ oQ⟩
 ·go_wp2_with fail
  go_end0
  exact ⟨_,rfl,_,_,_,h5.drop.mono oQ oQ oQ⟩
 ·go_wp2_with fail
  go_end0
  exact ⟨_,rfl,_,_,_,h5.drop.mono oQ oQ oQ⟩
theorem afq (x:QD) (hkey:x.c.key.length=32) (hkind:x.c.kind=2) (hn:n≤199) (hE:E≤200) (hK:K≤1048576) (hH:Ro w0 F Half) (h:iE w0 r m seg K r0 E n o oc d F w) :
  Calls Tryz.prog 21 #[ptr r,.agg (ig x)] w (aP fun v w'=>∃ (o' oc':ah.Bs→Option ah.Bs) (d':Bool),iE w0 r m seg (K+605) r0 (E+2) (n+1) o' oc' d' F w'):=by
 obtain ⟨LL,hS,hpush,hdrop⟩:=h.sat;have hF:=hdrop _ hS;have iM:=uQ hkey;have Hp:=uQ hpush;have HH:=uQ hH;have Hn:=uQ hn;have HE:=uQ hE;have HK:=uQ hK;clear h hpush hdrop hkey hH hn hE hK hF;go_enter Tryz.func21,Tryz.ntmps21;go_wp2_with (with_reducible apply fK);refine ⟨fM hS aj aj ?_⟩;intro b3 w3 h3;have h4:=Hp.out _ _ h3;have e0:w3.cell? ⟨b3,0,none⟩=some (.int .i64 x.c.kind):=h3.cellP aV 0 (by unfold ig;rw [abY];exact Gm x);have fk:w3.rangeAt b3 1 (aA x.c.key):=fun j z hj=>h3.cellP aV (1+j) (by unfold ig;rw [abY];exact Gl x hj);have e33:w3.cell? ⟨b3,33,none⟩=some x.dv:=h3.cellP aV 33 (by unfold ig;rw [abY];exact Bh x iM.out 0);clear hS h3;rw [hkind]at e0;go_wp2_with fail;refine (ak9 (by have:=Hn.out;omega) HE.out HK.out (Ro.os HH.out) h4).mono ?_;rintro ee w5 ⟨v,rfl,⟨rfl,h5⟩|⟨rfl,h5⟩⟩
 ·go_wp2_with fail
  go_end0
  exact ⟨_,rfl,_,_,_,h5.drop.mono oQ oQ oQ⟩
 ·go_wp2_with fail
  go_end0
  exact ⟨_,rfl,_,_,_,h5.drop.mono oQ oQ oQ⟩
theorem afr (x:QD) (hkey:x.c.key.length=32) (hkind:x.c.kind=3) (hn:n≤199) (hE:E≤200) (hK:K≤1048576) (hH:Ro w0 F Half) (h:iE w0 r m seg K r0 E n o oc d F w) :
  Calls Tryz.prog 21 #[ptr r,.agg (ig x)] w (aP fun v w'=>∃ (o' oc':ah.Bs→Option ah.Bs) (d':Bool),iE w0 r m seg (K+605) r0 (E+2) (n+1) o' oc' d' F w'):=by
 obtain ⟨LL,hS,hpush,hdrop⟩:=h.sat;have hF:=hdrop _ hS;have iM:=uQ hkey;have Hp:=uQ hpush;have HH:=uQ hH;have Hn:=uQ hn;have HE:=uQ hE;have HK:=uQ hK;clear h hpush hdrop hkey hH hn hE hK hF;go_enter Tryz.func21,Tryz.ntmps21;go_wp2_with (with_reducible apply fK);refine ⟨fM hS aj aj ?_⟩;intro b3 w3 h3;have h4:=Hp.out _ _ h3;have e0:w3.cell? ⟨b3,0,none⟩=some (.int .i64 x.c.kind):=h3.cellP aV 0 (by unfold ig;rw [abY];exact Gm x);have fk:w3.rangeAt b3 1 (aA x.c.key):=fun j z hj=>h3.cellP aV (1+j) (by unfold ig;rw [abY];exact Gl x hj);have e33:w3.cell? ⟨b3,33,none⟩=some x.dv:=h3.cellP aV 33 (by unfold ig;rw [abY];exact Bh x iM.out 0);clear hS h3;rw [hkind]at e0;go_wp2_with fail;refine (alO (by have:=Hn.out;omega) HK.out h4).mono ?_;rintro ee w5 ⟨v,rfl,rfl,h5⟩;go_wp2_with fail
 go_end0
 exact ⟨_,rfl,_,_,_,h5.drop.mono oQ oQ oQ⟩
theorem afs (x:QD) (hkey:x.c.key.length=32) (hkind:x.c.kind≠0∧x.c.kind≠1∧x.c.kind≠2∧x.c.kind≠3) (hn:n≤199) (hE:E≤200) (hK:K≤1048576) (hH:Ro w0 F Half) (h:iE w0 r m seg K r0 E n o oc d F w) :
  Calls Tryz.prog 21 #[ptr r,.agg (ig x)] w (aP fun v w'=>∃ (o' oc':ah.Bs→Option ah.Bs) (d':Bool),iE w0 r m seg (K+605) r0 (E+2) (n+1) o' oc' d' F w'):=by
 obtain ⟨LL,hS,hpush,hdrop⟩:=h.sat;have hF:=hdrop _ hS;have iM:=uQ hkey;have Hp:=uQ hpush;have HH:=uQ hH;have Hn:=uQ hn;have HE:=uQ hE;have HK:=uQ hK;clear h hpush hdrop hkey hH hn hE hK hF;go_enter Tryz.func21,Tryz.ntmps21;go_wp2_with (with_reducible apply fK);refine ⟨fM hS aj aj ?_⟩;intro b3 w3 h3;have h4:=Hp.out _ _ h3;have e0:w3.cell? ⟨b3,0,none⟩=some (.int .i64 x.c.kind):=h3.cellP aV 0 (by unfold ig;rw [abY];exact Gm x);have fk:w3.rangeAt b3 1 (aA x.c.key):=fun j z hj=>h3.cellP aV (1+j) (by unfold ig;rw [abY];exact Gl x hj);have e33:w3.cell? ⟨b3,33,none⟩=some x.dv:=h3.cellP aV 33 (by unfold ig;rw [abY];exact Bh x iM.out 0);clear hS h3;obtain ⟨k0,k1,k2,k3⟩:=hkind;have c0:(x.c.kind==0)=false:=by rw [acH];exact k0
 have c1:(x.c.kind==1)=false:=by rw [acH];exact k1
 have c2:(x.c.kind==2)=false:=by rw [acH];exact k2
 have c3:(x.c.kind==3)=false:=by rw [acH];exact k3
 clear k0 k1 k2 k3;go_wp2_with fail
 go_end0
 exact ⟨_,rfl,_,_,_,h4.drop.mono oQ oQ oQ⟩
theorem afm (x:QD) (hkey:x.c.key.length=32) (hd:Ro w0 F (bG 1 x.dv (aA x.c.data))) (hlen:x.c.data.length≤300) (hn:n≤199) (hE:E≤200) (hK:K≤1048576) (hH:Ro w0 F Half) (h:iE w0 r m seg K r0 E n o oc d F w) :
  Calls Tryz.prog 21 #[ptr r,.agg (ig x)] w (aP fun v w'=>∃ (o' oc':ah.Bs→Option ah.Bs) (d':Bool),iE w0 r m seg (K+605) r0 (E+2) (n+1) o' oc' d' F w'):=by
 by_cases h0:x.c.kind=0
 ·exact afo x hkey h0 hd hlen hn hE hK hH h
 by_cases h1:x.c.kind=1
 ·exact afp x hkey h1 hn hE hK hH h
 by_cases h2:x.c.kind=2
 ·exact afq x hkey h2 hn hE hK hH h
 by_cases h3:x.c.kind=3
 ·exact afr x hkey h3 hn hE hK hH h
 ·exact afs x hkey ⟨h0,h1,h2,h3⟩ hn hE hK hH h
theorem RX.st {p ps pi pn:Nat}{uv:Value}{M:ay} (hR:Seg.Rp K r0 0 0 0 ⟨seg,[],false,0⟩ M []) (je:M.now=[]) (h:Sat w0 w (RX r m p ps pi pn uv seg M F)):iE w0 r m seg K r0 0 0 (fun _=>none) (fun _=>none) false F w:=
 ⟨ps,p,pn,pi,0,0,0,uv,_,-1,[],_,M,[],[],⟨hR,Seg.qH.start rfl rfl,rfl,rfl,fun _=>rfl,abL _,abL _,Seg.oD.start je⟩,h.sb⟩
theorem ajk (z:Int) (ds:List QD){a:Option Addr}{c:Nat} (hr:Ro w0 F (bG 37 (.slice a ds.length c) (kF ds))) (hk:∀ d∈ds,d.c.key.length=32∧d.c.data.length≤300) (hd:∀ d∈ds,Ro w0 F (bG 1 d.dv (aA d.c.data))) (hl:ds.length≤40) (hH:Ro w0 F Half) (h:Sat w0 w F) :
  Calls Tryz.prog 7 #[.int .i64 z,.slice a ds.length c] w (aP fun v w'=>∃ (r m:Nat) (lim:Int) (o:ah.Bs→Option ah.Bs),v = .tuple #[ptr r,ptr m,.bool true]∧(128≤lim∧lim≤2000)∧iE w0 r m lim 25000 1048576 82 41 o o false F w'):=by
 have hop:=ai4 z hH h;have Hr:=uQ hr;have Hk:=uQ hk;have Hd:=uQ hd;have Hl:=uQ hl;have HH:=uQ hH;clear hr hk hd hl hH h;go_enter Tryz.func7,Tryz.ntmps7;go_wp2_with fail;refine hop.mono ?_;rintro ee w1 ⟨v,rfl,r,m,p,ps,pi,pn,uv,lim,M,rfl,⟨l1,l2,l3⟩,hR,h1⟩;clear hop;have vF:=uQ (And.intro l1 l2);have h2:=RX.st hR l3 h1;clear h1 hR l1 l2 l3;go_wp2_with fail
 go_loopg [10] ds.length (fun g iq wr=>∃ (i:Nat) (o oc:ah.Bs→Option ah.Bs) (d:Bool),g=ds.length - i∧i≤ds.length∧iq = .int .i64 i∧iE w0 r m lim (i * 605) 1048576 (2 * i) i o oc d F wr)
 case atStart=>exact ⟨0,_,_,_,rfl,acV _,rfl,h2⟩
 case round=>
  obtain ⟨i,o,oc,d,rfl,hi,rfl,hS⟩:=hrel;clear h2;by_cases hlt:i<ds.length;rotate_left
  focus
   obtain rfl:i=ds.length:=by omega
   have c1:decide ((ds.length:Int)<(ds.length:Int))=false:=ac4 oQ;have c1':¬ (ds.length:Int)<(ds.length:Int):=oQ;have hcm:=aa3 (by have:=Hl.out;omega) (by have:=Hl.out;omega) (by have:=Hl.out;omega) HH.out hS;clear hS hi hlt;go_wp2_with fail;refine hcm.mono ?_;rintro ee w3 ⟨v,rfl,⟨rfl,h3⟩|⟨rfl,h3,_⟩⟩;rotate_left
   focus
    exfalso;have:=Hl.out;have h4:2 * ds.length * (20+28 * ds.length)≤80 * (20+28 * 40):=anv oQ oQ;omega
   clear hcm;have bF:=uQ (show iE w0 r m lim 25000 1048576 82 41 o o false F w3 from h3.mono (by have:=Hl.out;omega) (by have:=Hl.out;omega) (by have:=Hl.out;omega));clear h3;go_wp2_with fail
   go_ret3
   exact ⟨_,rfl,r,m,lim,o,rfl,vF.out,bF.out⟩
  have c1:decide ((i:Int)<(ds.length:Int))=true:=adt oQ;have c1':(i:Int)<(ds.length:Int):=oQ;have hwi:IntKind.i64.wrap ((i:Int)+1)=(i:Int)+1:=acC _ (by have:=Hl.out;omega);obtain ⟨x,hx⟩:∃ x,ds[i]?=some x:=⟨_,aaI hlt⟩;have hxm:=abV hx;have bV:=uQ hlt;have Hxk:=uQ (Hk.out x hxm);have Hxd:=uQ (Hd.out x hxm);obtain ⟨LL,hG,hback,hdrop⟩:=hS.sat;have hrd:=Hr.out _ (hdrop _ hG);have hx0:(kF ds)[i * 37+0]?=some (.int .i64 x.c.kind):=JZ (fun d hd=>(Hk.out d hd).1) hx rfl;obtain ⟨bk,off,e,hcell⟩:=qU hrd hx0;cases e;have hcells:wr.rangeAt bk (off+i * 37) (mW x):=fun j y hj=>by
   have:=hcell _ _ (JZ (fun d hd=>(Hk.out d hd).1) hx hj);rw [← an9]at this;exact this
  clear hlt hi hx hxm hG hback hdrop hrd hx0 hcell;go_wp2_with ((with_reducible refine bI ⟨?_⟩);refine iL (b:=bk) (o:=off+i * 37) (mW x) aj hcells Tryz.underlying69 rfl (by rw [Gn _ Hxk.out.1];exact Jv) ?_);refine (afm (n:=i) (E:=2 * i) (K:=i * 605) x Hxk.out.1 Hxd.out Hxk.out.2 (by have:=Hl.out;have:=bV.out;omega) (by have:=Hl.out;have:=bV.out;omega) (by have:=Hl.out;have:=bV.out;omega) HH.out hS).mono ?_;rintro ee w3 ⟨v,rfl,o2,ZK,d2,h3⟩;have gy:=uQ (show iE w0 r m lim ((i+1) * 605) 1048576 (2 * (i+1)) (i+1) o2 ZK d2 F w3 from by rw [show (i+1) * 605=i * 605+605 by omega,show 2 * (i+1)=2 * i+2 by omega];exact h3);clear hS hcells h3;go_wp2_with fail
  go_roundg (ds.length - (i+1))
  case measure=>have:=bV.out;omega
  case rel=>exact ⟨i+1,o2,ZK,d2,rfl,adi bV.out,by first|rfl|go_num,gy.out⟩
end
section
variable {w0 w:World}{F:List aH}
theorem YW (hH:Ro w0 F Half) (h:Sat w0 w F):Calls Tryz.prog 17 #[] w (aP fun v w'=>v = .bool true∧Sat w0 w' F):=by
 have hnew:=Zg 2000 aN h;have HH:=uQ hH;clear hH h;go_enter Tryz.func17,Tryz.ntmps17;go_wp2_with fail;refine hnew.mono ?_;rintro e w1 ⟨v,rfl,m,rfl,hS⟩;clear hnew;have hop:=aay (K:=0) (limit:=200) aN aN (Seg.Calm.new 0 2000 aN) (acV _) rfl HH.out hS;clear hS;go_wp2_with fail;refine hop.mono ?_;rintro ee w2 ⟨v,rfl,r,p,ps,pi,pn,uv,rfl,hR,h2⟩;clear hop;generalize ay.new 2000=M0 at *
 go_wp2_with (with_reducible apply gq);refine ⟨fF qc h2 rfl ?_⟩;intro b4 w4 h4;go_wp2_with ((with_reducible refine cO ⟨?_⟩);refine gJ (fA Rep.dZ.zero) h4 aj aj aj cZ au aj ?_;intro w5 h5)
 go_wp2_with (first
  |((with_reducible apply abx);refine ⟨?_⟩;refine yS aj ?_)
  |((with_reducible apply yR);refine ⟨?_⟩;refine yY aj aaR ?_))
 have h6:Sat w0 w5 (aW r m 200 p ps pn false::aI pn (Rep.dO (Rep.dW 0 [])) 0::aK p m ⟨200,[],false,0⟩::aJ m M0::F):=h5.sb;clear h2 h4 h5
 -- the first Put
 have hgx:(ah.encode ⟨0,lG,[]⟩).2=0:=Seg.Oj uP [] (acV _);obtain ⟨a1,a2,a3,a4,aj7,a5,a6,a7⟩:=hR.aac (x:=⟨0,lG,[]⟩) aN aN rfl uP (acV _) hgx aN;have hp:=QN aN uP [] none 0 (fun w _=>wG 1 0 w) (acV _) hR.hg.keeps.log hR.hg.keeps.calm.ok aN (Ro.os HH.out) a1 h6;rw [← a7]at hp;generalize (⟨200,[],false,0⟩:Seg.Log).append M0 ⟨0,lG,[]⟩=q at *
 obtain ⟨⟨L1,M1⟩,pc1,e1⟩:=q;dsimp only at a1 a2 a3 a4 hp;refine hp.mono ?_;rintro e w7 ⟨v,rfl,rfl,h7⟩;clear hp h6 hR
 rw [show Tab.put (Rep.dO (Rep.dW 0 [])) lG (Rep.iH aj7)=Rep.dO (Rep.dW 0 ([]++[[⟨0,lG,[]⟩]])) by
  rw [a5,Rep.JJ (by unfold Rep.dJ;rw [a6])];unfold Rep.fB;rw [a6]]at h7
 clear a5 a6 a7;obtain ⟨b1,b2,b3,zN⟩:=a4.VG aN aN uP (acV _) rfl hgx a2 a3 aN;have hc:=QL a4 aN aN aN b1 (Ro.os HH.out) h7;clear a1 a2 a3 h7;generalize L1.commit M1=q at *
 obtain ⟨⟨L2,M2⟩,n2,e2⟩:=q;dsimp only at b2 b3 zN hc;go_wp2_with fail;refine hc.mono ?_;rintro e w8 ⟨v,rfl,ps2,pi2,B2,uv2,tv2,N2,Ld,pl2,M3,C2,bb,rfl,⟨hcd,⟨hbb,_⟩,_⟩,h8⟩;clear hc;have hC2:C2=[[⟨0,lG,[]⟩,Seg.bf]]:=Seg.aiZ hcd.flat (zN hcd.rp.hg);subst hC2;obtain ⟨anN,c1,c2⟩:=hcd.row
 rw [show Rep.dO (Rep.dW 0 ([]++[[⟨0,lG,[]⟩]]))=Rep.dO (Rep.dW 0 [[⟨0,lG,[]⟩,Seg.bf]]) by
  rw [c1,Rep.P6 (by unfold Rep.dJ;rw [c2];rfl)]]at h8
 have hR2:=hcd.rp;clear b1 zN a4 hcd c1 c2
 go_wp2_with (first
  |((with_reducible apply abx);refine ⟨?_⟩;refine yS aj ?_)
  |((with_reducible apply yR);refine ⟨?_⟩;refine yY aj aaR ?_)
  |((with_reducible refine ad6 ⟨?_⟩);refine yS aj ?_;refine o7 (e:=5) (sz:=1) (eY:=1) (cs:=#[.int .u8 1]) au h8 aj rfl rfl bJ ?_;intro bD wD hD))
 have h9:Sat w0 wD (aW r m 200 p ps2 pn false::aI pn (Rep.dO (Rep.dW 0 [[⟨0,lG,[]⟩,Seg.bf]])) (0+1)::aK p m L2::aJ m M3::aB 5 1 (.slice (some ⟨bD,0,none⟩) 1 1) (aA [1])::F):=
  (Sat.kR (n:=1) (cap:=1) (xs:=aA [1]) (sz:=1) hD aj (abL 1) (abL _) aN aj).sb
 clear hD h8;have Fp:(ah.encode ⟨0,lG,[1]⟩).2=0:=Seg.Oj uP [1] aN;obtain ⟨a1,a2,a3,a4,row3,a5,a6,a7⟩:=hR2.aac (x:=⟨0,lG,[1]⟩) aN aN b2 uP aN Fp oQ;have hp:=QN aN uP [1] (some ⟨bD,0,none⟩) 1 (Ro.oV (fun w hw=>Sat.rd hw) aV) aN hR2.hg.keeps.log hR2.hg.keeps.calm.ok aN (Ro.os HH.out) a1 h9;rw [← a7]at hp;clear h9;generalize L2.append M3 ⟨0,lG,[1]⟩=q at *
 obtain ⟨⟨L3,M4⟩,pc3,e3⟩:=q;dsimp only at a1 a2 a3 a4 hp;refine hp.mono ?_;rintro e w10 ⟨v,rfl,rfl,h10⟩;clear hp hR2
 rw [show Tab.put (Rep.dO (Rep.dW 0 [[⟨0,lG,[]⟩,Seg.bf]])) lG (Rep.iH row3)=Rep.dO (Rep.dW 0 ([[⟨0,lG,[]⟩,Seg.bf]]++[[⟨0,lG,[1]⟩]])) by
  rw [a5,Rep.JJ (by unfold Rep.dJ;rw [a6])];unfold Rep.fB;rw [a6]]at h10
 clear a5 a6 a7;obtain ⟨b1,b2',b3',zN⟩:=a4.VG aN aN uP aN rfl Fp a2 (a3.trans b3) oQ;have hc:=QL a4 aN aN aN b1 (Ro.os HH.out) h10;clear a1 a2 a3 h10 b2 b3;generalize L3.commit M4=q at *
 obtain ⟨⟨L4,M5⟩,n4,e4⟩:=q;dsimp only at b2' b3' zN hc;go_wp2_with fail;refine hc.mono ?_;rintro e iV ⟨v,rfl,ZY,ZW,B4,uv4,tv4,N4,us4,pl4,M6,C4,b5,rfl,⟨hcd,_,_⟩,h11⟩;clear hc;obtain ⟨row4,c1,c2⟩:=hcd.row;have hC4:C4=[[⟨0,lG,[]⟩,Seg.bf],[⟨0,lG,[1]⟩,Seg.bf]]:=Seg.amx hcd.flat (zN hcd.rp.hg) c1;subst hC4;have u1:=hcd.st.std.uses;have hsp:=ae6 (pc:=100) aN hcd.rp.rpd aN u1 (acz hcd.len.1 aN) (Ro.os HH.out) (h11.sb:Sat w0 iV (aW r m 200 p ZY pn false::dh ZY N4 ZW uv4 tv4::aI ZW (Tab.mapOf pl4) B4::aB 45 3 uv4 (us4.flatMap bT)::aK p m L4::aJ m M6::F));have hres:=aO.alM (x:=⟨0,lG,[]⟩) (y:=⟨0,lG,[1]⟩) rfl rfl rfl (by rw [Seg.Qj hgx uP rfl];decide) (by rw [Seg.Qj Fp uP rfl];decide) N4;rw [hcd.now]at hsp;unfold tC at hsp;rw [aO.alh,hres]at hsp;clear hres hcd u1 c1 c2 h11 b1 b2' b3' zN a4;go_wp2_with fail;refine hsp.mono ?_;rintro e w12 ⟨v,rfl,sv,rfl,h12⟩
 clear hsp;obtain ⟨bk,off,c2,e2,hcell⟩:=sU (Sat.rd h12) (i:=0) (s:=0) rfl;cases e2;have hcell0:w12.cell? ⟨bk,off,none⟩=some (.int .i64 0):=hcell;have gy:=uQ (h12.sb:Sat w0 w12 F);clear h12;go_wp2_with fail;go_ret;exact ⟨_,rfl,rfl,gy.out⟩
end
section
variable {w0 w:World}{F:List aH}{r m K r0 E n:Nat}{seg:Int}{o oc:ah.Bs→Option ah.Bs}{d:Bool}
theorem PD {p ps pn B B0:Nat}{L:Seg.Log}{M:ay}{D:List (Nat×List ah.aG)} (hf:Seg.HD K r0 E B0 n L M D) (hB:B≤200) (hH:Ro w0 F Half) (h:Sat w0 w (aW r m seg p ps pn d::aI pn (Rep.dO (Seg.dG D)) B::aK p m L::aJ m M::F)) :
  Calls Tryz.prog 18 #[ptr r] w (aP fun v w'=>∃ (mv:Value) (qs:List PV),v = .tuple #[mv,.bool true]∧(Tab.Lists (Rep.jA (Seg.iF D)) (qs.map JY)∧(∀ q∈qs,q.1.length=32∧∃ a n c,q.2.2 = .slice a n c)∧qs.length≤200∧(∀ q∈qs,q.2.1.length≤16384)) ∧
   Sat w0 w' (aB 113 33 mv (qs.flatMap jH)::nG qs::aW r m seg p ps pn d::aI pn (Rep.dO (Seg.dG D)) B::aK p m L::aJ m M::F)):=by
 have Hf:=uQ hf;have HH:=uQ hH;have HB:=uQ hB;have hks:=akq (acz hB aN) h;clear hf hH hB h;go_enter Tryz.func18,Tryz.ntmps18;go_wp2_with fail;refine hks.mono ?_;rintro ee w1 ⟨kv,rfl,kl,hkl,h1⟩;clear hks;have Hl:=uQ hkl.1;have oz:=uQ (show ∀ q∈kl,(aA q.1).length=32 from fun q hq=>by rw [aX];exact hkl.2.1 q hq);have Hk:=uQ hkl.2.1;have L9:=uQ (show kl.length≤200 from acz hkl.2.2 HB.out);have oC:=uQ (Rep.ai6 (es:=(Seg.iF D)) (Seg.rV D) hkl.1);obtain ⟨la,lc,rfl⟩:=jl oz.out (Sat.rd h1) aN;have h2:Sat w0 w1 (aB 113 33 (.slice none 0 0) []::nG []::aB 50 32 (.slice la kl.length lc) (kl.flatMap fun q=>aA q.1)::aW r m seg p ps pn d::aI pn (Rep.dO (Seg.dG D)) B::aK p m L::aJ m M::F):=Sat.gI.2 (Sat.emp.2 h1);clear hkl h1;go_wp2_with fail
 go_loopg [4,6] kl.length (fun g ov iq wr=>∃ (i:Nat) (qs:List PV),g=kl.length - i∧i≤kl.length∧iq = .int .i64 i∧(qs.map JY=(Rep.wz (Seg.iF D) kl).take i∧(∀ q∈qs,q.1.length=32∧∃ a n c,q.2.2 = .slice a n c)∧(∀ q∈qs,q.2.1.length≤16384)) ∧
  Sat w0 wr (aB 113 33 ov (qs.flatMap jH)::nG qs::aB 50 32 (.slice la kl.length lc) (kl.flatMap fun q=>aA q.1)::aW r m seg p ps pn d::aI pn (Rep.dO (Seg.dG D)) B::aK p m L::aJ m M::F))
 case atStart=>exact ⟨0,[],rfl,acV _,rfl,⟨rfl,(fun q hq=>by cases hq),(fun q hq=>by cases hq)⟩,h2⟩
 case round=>
  obtain ⟨i,qs,rfl,hi,rfl,⟨OL,Ya,X9⟩,hS⟩:=hrel;clear h2;have Uu:=uQ OL;have Hq:=uQ Ya;have Ew:=uQ X9;have Yb:qs.length=i:=by
   have:=adu List.length OL;unfold Rep.wz at this;rw [abl,acA,abl]at this;omega
  have Ut:=uQ Yb;clear OL Ya X9 Yb;by_cases hlt:i<kl.length;rotate_left
  ·obtain rfl:i=kl.length:=by omega
   have c1:¬ (kl.length:Int)<(kl.length:Int):=oQ;have hle:=aj1 (hS.sb:Sat w0 wr (aW r m seg p ps pn d::aI pn (Rep.dO (Seg.dG D)) B::F));clear hlt hi;go_wp2_with fail;refine hle.mono ?_;rintro ee w9 ⟨v,rfl,t,⟨t1,t2⟩,rfl,rfl⟩;clear hle;have htn:(t.n:Int)=(kl.length:Int):=by rw [Tab.ah4 t1 t2 Hl.out]
   rw [htn];have heq:((kl.length:Int)==(kl.length:Int))=true:=beq_self_eq_true _;go_wp2_with fail
   go_ret2
   refine ⟨_,rfl,_,qs,rfl,⟨?_,Hq.out,by rw [Ut.out];exact L9.out,Ew.out⟩,hS.sb⟩;rw [Uu.out,acX (by unfold Rep.wz;rw [abl];exact abL _)];exact oC.out
  have c1:(i:Int)<(kl.length:Int):=oQ;have hwi:IntKind.i64.wrap ((i:Int)+1)=(i:Int)+1:=acC _ (by have:=L9.out;omega);obtain ⟨⟨k,pl⟩,hx⟩:∃ q,kl[i]?=some q:=⟨_,aaI hlt⟩;have hxm:=abV hx;have Hxk:=uQ (Hk.out _ hxm);have hmk:=(Hl.out.mem k pl).1 hxm;obtain ⟨data,g1,g2,g3,g4,g5,g6⟩:=Hf.out.got hmk;obtain ⟨bk,off,c',hsv,hcell⟩:=jG (f:=fun q:ah.Bs×Seg.aU=>aA q.1) (k:=32) oz.out (Sat.rd (hS.pick eH)) hx aN;cases hsv;have bV:=uQ hlt
  have gY:=uQ (show (Rep.wz (Seg.iF D) kl).take (i+1)=(Rep.wz (Seg.iF D) kl).take i++[(k,data)] by
   unfold Rep.wz;rw [← anw,← anw,adD,hx,agU,acI,acS,adw];simp only;rw [g2];rfl)
  have hgt:=akp (by have:=HB.out;omega) Hxk.out pl hmk (Ro.os HH.out) Hf.out.keeps.log Hf.out.keeps.calm.ok g4 g5 data oQ g1
   (hS.sb:Sat w0 wr (aW r m seg p ps pn d::aI pn (Rep.dO (Seg.dG D)) B::aK p m L::aJ m M::aB 113 33 u4 (qs.flatMap jH)::nG qs::aB 50 32 (.slice (some ⟨bk,off,none⟩) kl.length lc) (kl.flatMap fun q=>aA q.1)::F))
  have Hd3:=uQ (show data.length≤16384 by omega);clear hxm hlt hi hmk g1 g2 g3 g4 g5 g6 hS;go_wp2_with ((with_reducible refine bI ⟨?_⟩);refine iL (b:=bk) (o:=off+i * 32) (aA k) aj hcell Tryz.underlying50 rfl (by rw [aX,Hxk.out];kernel_rfl) ?_);refine hgt.mono ?_;rintro ee w5 ⟨v,rfl,bv,va,vn,vc,rfl,rfl,h5⟩;clear hgt hcell;replace h5:Sat w0 w5 (aB 113 33 u4 (qs.flatMap jH)::bK (.slice va vn vc) data::nG qs::aB 50 32 (.slice (some ⟨bk,off,none⟩) kl.length lc) (kl.flatMap fun q=>aA q.1)::aW r m seg p ps pn d::aI pn (Rep.dO (Seg.dG D)) B::aK p m L::aJ m M::F):=h5.sb;obtain ⟨bk2,off2,c2,e2,hcell⟩:=jG (f:=fun q:ah.Bs×Seg.aU=>aA q.1) (k:=32) oz.out (Sat.rd (h5.pick iJ)) hx aN;cases e2;have hle:(qs.flatMap jH).length≤2147483648:=by
   rw [iY (k:=33) fun q hq=>yK q (Hq.out q hq).1,Ut.out];have:=L9.out;have:=bV.out;omega
  go_wp2_with (first
   |((with_reducible refine bI ⟨?_⟩);refine iL (b:=bk) (o:=off+i * 32) (aA k) aj hcell Tryz.underlying50 rfl (by rw [aX,Hxk.out];kernel_rfl) ?_)
   |((with_reducible apply yR);refine ⟨?_⟩;refine yY (ps:=#[(0,.agg (aA k).toArray),(1,.slice va vn vc)]) (by simp only [aes,acS,adw];rfl) (fun w=>akP k Hxk.out data va vn vc w) ?_)
   |((with_reducible refine pI ⟨?_⟩);refine o7 (e:=113) (sz:=33) (eY:=56) au h5 aj (cs:=(jH (k,data,.slice va vn vc)).toArray) rfl (by rw [abX,yK _ Hxk.out]) bJ ?_;intro bN wN hN)
   |((with_reducible refine lX ⟨?_⟩);refine pW 113 33 56 au hN aj aj (aT aV) aV (by rw [abX,yK _ Hxk.out]) (abL 1) (by rw [acW];exact ajD _ rfl) hle (by rw [abX,yK _ Hxk.out];decide) aN rfl ?_;intro bA nA cA wA hA))
  go_roundg (kl.length - (i+1))
  case measure=>have:=bV.out;omega
  case rel=>
   refine ⟨i+1,qs++[(k,data,.slice va vn vc)],rfl,bV.out,by first|rfl|go_num,⟨?_,fun q hq=>?_,fun q hq=>?_⟩,?_⟩
   ·rw [acI,Uu.out,gY.out];rfl
   ·rcases ac3.1 hq with hq|hq
    ·exact Hq.out q hq
    ·rw [acO.1 hq];exact ⟨Hxk.out,_,_,_,rfl⟩
   ·rcases ac3.1 hq with hq|hq
    ·exact Ew.out q hq
    ·rw [acO.1 hq];exact Hd3.out
   ·rw [adz,List.flatMap_singleton,aff];have h10:Sat w0 wA (bK (.slice va vn vc) data::nG qs::aB 113 33 (.slice (some ⟨bA,0,none⟩) nA cA) (qs.flatMap jH++(jH (k,data,.slice va vn vc)).toArray.toList)::aB 50 32 (.slice (some ⟨bk,off,none⟩) kl.length lc) (kl.flatMap fun q=>aA q.1)::aW r m seg p ps pn d::aI pn (Rep.dO (Seg.dG D)) B::aK p m L::aJ m M::F):=hA.sb;exact (Sat.star.2 h10).aY
end
theorem aai (q:PV){j:Nat}{v:Value} (h:(aA q.1)[j]?=some v):(jH q)[j]?=some v:=by
 unfold jH;rw [ac2 (abW.1 h).1];exact h
theorem aah (q:PV) (hk:q.1.length=32):(jH q)[32]?=some q.2.2:=by
 unfold jH;rw [ac0 (by rw [aX];omega),aX,hk];rfl
theorem ait (x y:Operand) (k l:ah.Bs) (hk:k.length=32) (hl:l.length=32) (w:World):((do eqGuard .neq 50 x y (.agg (aA k).toArray) (.agg (aA l).toArray);binOp .neq 50 (.agg (aA k).toArray) (.agg (aA l).toArray)):Sem Value).run Tryz.prog w = .ok (.bool (!decide (k=l))) w:=by
 have h:=Zd k l hk hl w;simp [eqGuard,acN,h]
section
variable {w0 w:World}{F:List aH}{av bv mv:Value}
theorem aaY (ps qs:List PV) (he:ps.map JY=qs.map JY) (hp:∀ q∈ps,q.1.length=32) (ha:Ro w0 F (bG 33 av (ps.flatMap jH))) (hb:Ro w0 F (bG 33 bv (qs.flatMap jH))) (hda:∀ q∈ps,Ro w0 F (bG 1 q.2.2 (aA q.2.1))) (hdb:∀ q∈qs,Ro w0 F (bG 1 q.2.2 (aA q.2.1)))
  (hlen:ps.length≤1073741824) (hdl:∀ q∈ps,q.2.1.length≤1073741824) (h:Sat w0 w F) :
  Calls Tryz.prog 20 #[av,bv] w (aP fun v w'=>v = .bool true∧Sat w0 w' F):=by
 have hle:qs.length=ps.length:=by have:=adu List.length he;rw [abl,abl]at this;exact this.symm
 have hpq:∀ (i:Nat) (p q:PV),ps[i]?=some p→qs[i]?=some q→q.1=p.1∧q.2.1=p.2.1:=fun i p q h1 h2=>by
  have:=adu (fun l=>l[i]?) he;simp only [acE,h1,h2,ahf]at this;have e:=ahM this;exact ⟨(adu Prod.fst e).symm,(adu Prod.snd e).symm⟩
 have hq:∀ q∈qs,q.1.length=32:=fun q hm=>by
  obtain ⟨i,hi,rfl⟩:=anA hm;have h2:=hpq i _ _ (aaI oQ) (aaI hi);rw [h2.1];exact hp _ (aot _)
 have TW:=uQ (show ∀ q∈ps,(jH q).length=33 from fun q hm=>yK q (hp q hm));have Ik:=uQ (show ∀ q∈qs,(jH q).length=33 from fun q hm=>yK q (hq q hm));obtain ⟨aa,ac,rfl⟩:=jl TW.out (ha w h) aN;obtain ⟨ba,bc,rfl⟩:=jl Ik.out (hb w h) aN;rw [hle]at hb ⊢;have Ha:=uQ ha;have Hb:=uQ hb;have Hlen:=uQ hlen;have Hda:=uQ hda;have Hdb:=uQ hdb;have wZ:=uQ hdl;have Hp:=uQ hp;have Hpq:=uQ hpq;have qL:=uQ hle;clear ha hb hlen hda hdb hdl hp hpq hq he hle;go_enter Tryz.func20,Tryz.ntmps20;have c0:((ps.length:Int) != (ps.length:Int))=false:=bne_self_eq_false ..;go_wp2_with fail
 go_loopg [5] ps.length (fun g iq wr=>∃ i:Nat,g=ps.length - i∧i≤ps.length∧iq = .int .i64 i∧Sat w0 wr F)
 case atStart=>exact ⟨0,rfl,acV _,rfl,h⟩
 case round=>
  obtain ⟨i,rfl,hiN,rfl,hS⟩:=hrel;clear h;by_cases hi:i<ps.length
  ·have hic:(i:Int)<(ps.length:Int):=by omega
   have hwi:IntKind.i64.wrap ((i:Int)+1)=(i:Int)+1:=acC _ (by have:=Hlen.out;omega);obtain ⟨p,hpi⟩:∃ p,ps[i]?=some p:=⟨_,aaI hi⟩;obtain ⟨q,hqi⟩:∃ q,qs[i]?=some q:=⟨_,aaI (by rw [qL.out];exact hi)⟩;obtain ⟨e1,e2⟩:=Hpq.out i p q hpi hqi;have hS1:=hS.drew;obtain ⟨bk,off,c',f1,d1⟩:=jG TW.out (Ha.out _ hS1) hpi aN;obtain ⟨bk2,off2,c2',f2,d2⟩:=jG Ik.out (Hb.out _ hS1) hqi aN;rw [qL.out]at f2;cases f1;cases f2;have Hi:=uQ hi;have Et:=uQ (Hp.out p (abV hpi));have Ye:=Hda.out p (abV hpi);have hrq:=Hdb.out q (abV hqi);rw [e2]at hrq;have agW:=wZ.out p (abV hpi);obtain ⟨pk,pd,pv⟩:=p;obtain ⟨qk,qd,qv⟩:=q;dsimp only at e1 e2 Ye hrq agW;obtain rfl:pk=qk:=e1.symm;obtain rfl:pd=qd:=e2.symm
   have HGA:=uQ (show (∀ j v,(aA pk)[j]?=some v→World.cell? _ ⟨bk,off+i * 33+j,none⟩=some v)∧(∀ j v,(aA pk)[j]?=some v→World.cell? _ ⟨bk2,off2+i * 33+j,none⟩=some v)∧World.cell? _ ⟨bk,off+i * 33+32,none⟩=some pv∧World.cell? _ ⟨bk2,off2+i * 33+32,none⟩=some qv from
    ⟨fun j v hj=>d1 j v (aai (pk,pd,pv) hj),fun j v hj=>d2 j v (aai (pk,pd,qv) hj),d1 32 _ (aah (pk,pd,pv) Et.out),d2 32 _ (aah (pk,pd,qv) Et.out)⟩)
   have hsm:=aaZ pd Ye hrq hS1 oQ;have hnk:∀ x y w,((do eqGuard .neq 50 x y (.agg (aA pk).toArray) (.agg (aA pk).toArray);binOp .neq 50 (.agg (aA pk).toArray) (.agg (aA pk).toArray)):Sem Value).run Tryz.prog w = .ok (.bool false) w:=fun x y w=>by rw [ait x y pk pk Et.out Et.out w];simp
   have iD:=uQ (show (aA pk).length=32 by rw [aX,Et.out]);clear hpi hqi hi hiN d1 d2 hS;go_wp2_with fail;refine dS [22,23,24] (fun w'=>w'.rangeAt bk (off+i * 33) (aA pk)∧w'.rangeAt bk2 (off2+i * 33) (aA pk)∧w'.cell? ⟨bk,off+i * 33+32,none⟩=some pv∧w'.cell? ⟨bk2,off2+i * 33+32,none⟩=some qv) au ?_;have hG:World.rangeAt _ bk (off+i * 33) (aA pk)∧World.rangeAt _ bk2 (off2+i * 33) (aA pk)∧World.cell? _ ⟨bk,off+i * 33+32,none⟩=some pv∧World.cell? _ ⟨bk2,off2+i * 33+32,none⟩=some qv:=HGA.out;refine rP 0 ?_ (y:=aZ);refine rP 1 ?_ (y:=aZ);refine rP 2 ?_ (y:=jf);refine rP 3 ?_ (y:=bW);refine gV 4 ak au eU (iI (b:=bk) (o:=off+i * 33) (aA pk) aj Tryz.underlying50 rfl (by rw [iD.out];kernel_rfl) (fun w hw=>hw.1)) aQ gQ ?_;refine rP 5 ?_ (y:=aZ);refine rP 6 ?_ (y:=aZ);refine rP 7 ?_ (y:=jf);refine rP 8 ?_ (y:=bW)
   refine gV 9 ak au eU (iI (b:=bk2) (o:=off2+i * 33) (aA pk) aj Tryz.underlying50 rfl (by rw [iD.out];kernel_rfl) (fun w hw=>hw.2.1)) aQ gQ ?_;refine rP 10 ?_ (y:=(qG ak ak (hnk _ _)));refine rP 11 ?_ (y:=aZ);refine rP 12 ?_ (y:=(tZ aj ak));refine rP 13 ?_ (y:=(tZ aj ak));refine rP 14 ?_ (y:=(ach aj ak ak bU));refine rP 15 ?_ (y:=(BM aj ak bU));refine gV 16 ak au eU (DJ aj ak au (fun wq hq=>hq.2.2.1)) aQ gQ ?_;refine rP 17 ?_ (y:=(tZ aj ak));refine rP 18 ?_ (y:=(tZ aj ak));refine rP 19 ?_ (y:=(ach aj ak ak bU));refine rP 20 ?_ (y:=(BM aj ak bU));refine gV 21 ak au eU (DJ aj ak au (fun wq hq=>hq.2.2.2)) aQ gQ ?_;clear hG;refine bY 22 ak au (fun K hK=>?_);refine Wi [pv,qv] aj au aj ?_;refine hsm.mono ?_;rintro ee w5 ⟨v,rfl,rfl,h5⟩;refine hK _ _ (.inl rfl) ?_;clear hK hsm hS1;refine rP 23 ?_ (y:=(am7 aj ak bU));refine rP 24 ?_ (y:=(DZ aj ak ak));refine dI au ?_
   try simp only [jT]
   try go_frame
   go_wp2_with fail
   go_roundg (ps.length - (i+1))
   case measure=>have:=Hi.out;omega
   case rel=>exact ⟨i+1,rfl,adi Hi.out,by first|rfl|go_num,h5⟩
  ·obtain rfl:i=ps.length:=by omega
   have hic:¬ (ps.length:Int)<(ps.length:Int):=oQ;clear hi hiN;go_wp2_with fail;go_ret;exact ⟨.bool true,rfl,rfl,hS⟩
end
end Go.Proofs.YtihngncbioofnaaGreatDoor
namespace Go.Seg
open Go.ay
open Go.Rep
theorem CD.jR {K E B n:Nat}{L:Log}{M:ay}{D:List (Nat×List ah.aG)}{N:Int}{us:List Use} (h:CD K 1048576 E B n L M D N us) (z:Nat) (h1:M.used≤z) (h2:z≤16777216):M.jR z=({ M with room:=z },0)∧CD K z E B n L { M with room:=z } D N us:=by
 obtain ⟨a1,a2⟩:=alu h.rp.hd.keeps.calm z h1 h2;have g:=h.rp.hd
 exact ⟨a1,⟨⟨⟨⟨g.keeps.log,a2,g.keeps.has⟩,g.l,g.rise,g.lim,g.file,g.good,g.used,g.names,g.cover⟩,h.rp.tmp,h.rp.few,h.rp.small,h.rp.thin⟩,h.off,h.fresh,by
  obtain ⟨u,h1,h2,pl,s,q⟩:=h.ext;exact ⟨u,h1,h2,pl,s,fun _ b c=>⟨fun e=>(q rfl b c).1 e,fun e=>⟨((q rfl b c).2 e).one,((q rfl b c).2 e).two,((q rfl b c).2 e).num⟩⟩⟩⟩⟩
end Go.Seg
namespace Go.Proofs.YtihngncbioofnaaGreatDoor
open Go Go.Sl Go.ay Go.MapKept Go.RowKit
section
variable {w0 w:World}{F:List aH}{lv:Value}{r m K r0 E n:Nat}{seg:Int}{D:List (Nat×List ah.aG)}
theorem oH.room (h3:n * 400+E * (20+28 * n)≤1048576) (h:oH w0 r m seg K 1048576 E n D F w):∃ (U:Nat) (M:ay) (G:List aH),U≤1048576∧M.Ok K∧M.qF=U∧Sat w0 w (aJ m M::G)∧∀ z:Int,(U:Int)≤z→z≤16777216→(M.jR z).2=0∧∀ w',Sat w0 w' (aJ m (M.jR z).1::G)→oH w0 r m seg K z.toNat E n D F w':=by
 obtain ⟨ps,p,pn,pi,B,B2,B0,uv,tv,N,us,L,M,⟨hC,hb,hb2⟩,hS⟩:=h;have hc:=hC.rp.hd.keeps.calm;have hu:=hC.rp.hd.used;have hx:=hC.used;refine ⟨M.used,M,aW r m seg p ps pn false::aI pn (Rep.dO (Seg.dG D)) B::aK p m L::dh ps N pi uv tv::aI pi (Rep.dO (Seg.dG D)) B2::aB 45 3 uv (us.flatMap bT)::F,by omega,hc.ok,?_,hS.sb,fun z h1 h2=>?_⟩
 ·unfold ay.qF;rw [hc.quiet.off];rfl
 ·obtain ⟨k,rfl⟩:=aom (show 0≤z by omega);obtain ⟨a1,a2⟩:=hC.jR k oQ oQ;rw [a1];exact ⟨rfl,fun w' hw=>⟨ps,p,pn,pi,B,B2,B0,uv,tv,N,us,L,_,⟨a2,hb,hb2⟩,hw.sb⟩⟩
def kS (D:List (Nat×List ah.aG)):List ah.Bs:=D.map fun d=>Seg.mag++ah.encs d.2
def iy (D:List (Nat×List ah.aG)):List Int:=D.map fun d=>(d.1:Int)
theorem aeV (z pc room:Int) (ds:List QD) (hr:Ro w0 F (bG 37 lv (kF ds))) (he:∀ d∈ds,Cc w0 F d) (hH:Ro w0 F Half) (h:Sat w0 w F) :
  Calls Tryz.prog 5 #[.int .i64 z,.int .i64 pc,lv,.int .i64 room] w (aP fun v w'=>v = .bool true∧Sat w0 w' F):=by
 have Hr:=uQ hr;have He:=uQ he;have HH:=uQ hH;clear hr he hH;go_enter Tryz.func5,Tryz.ntmps5;go_wp2_with fail;refine (afT ds 40 aN Hr.out (fun d hd=>(He.out d hd).of_sub fun w hw=>hw) h).mono ?_;rintro ee w2 ⟨v,rfl,es,ov,rfl,hes,_,h2⟩;obtain ⟨q1,q2⟩:=afV hes (fun d hd=>(He.out d hd).key);have Ec:=uQ q1;have TN:=uQ q2;obtain ⟨oa,oc,rfl⟩:=ajH (fun d hd=>(TN.out d hd).1) h2;clear h hes q1 q2
 have hpl:=ajk z es (Ro.oV (fun w hw=>Sat.rd hw) aV) TN.out (fun d hd=>by
  obtain ⟨i,hi⟩:=an8 hd;exact Ro.oV (afd hi) aY) Ec.out (Ro.os HH.out) h2
 clear h2;go_wp2_with fail;refine hpl.mono ?_;rintro ee w3 ⟨v,rfl,r,m,lim,o,rfl,hlim,h3⟩;clear hpl;have vF:=uQ hlim;obtain ⟨D,hoD,h4⟩:=h3.rd aN aN aN;obtain ⟨U,M0,G,u1,u2,u3,u4,u5⟩:=oH.room aN h4;clear h3 h4 hlim hoD;have OV:IntKind.i64.wrap ((U:Int)+300)=(U:Int)+300:=acC _ oQ;have hur:=fun w h=>amD (w0:=w0) (w:=w) (m:=m) (F:=G) u2 h;rw [u3]at hur;have hin:=SL room U (U+300) oQ;have hwr:=SK room U (U+300);generalize within room U (U+300)=rm at *
 have hset:=fun w h=>als (w0:=w0) (w:=w) (m:=m) (M:=M0) (F:=G) h rm;obtain ⟨u6,u7⟩:=u5 rm hin.1 oQ;rw [u6]at hset;have TJ:=uQ u7;generalize (M0.jR rm).1=M2 at *
 generalize rm.toNat=r1 at *
 clear u1 u2 u3 u5 u6 u7 hin;go_wp2_with fail;refine (hur _ u4).mono ?_;rintro ee w12 ⟨v,rfl,rfl,h12⟩;clear u4;go_wp2_with fail;refine (hur _ h12).mono ?_;rintro ee jU ⟨v,rfl,rfl,h13⟩;clear h12 hur;go_wp2_with fail;refine (hwr _).mono ?_;rintro ee nN ⟨v,rfl,rfl,rfl⟩;go_wp2_with fail;refine (hset _ h13).mono ?_;rintro ee w15 ⟨v,rfl,rfl,h15⟩;have h16:=TJ.out _ h15;clear h13 h15 TJ hwr hset OV;obtain ⟨ps,p,pn,pi,B,B2,B0,uv,tv,N,us,L,M,⟨hC,hb,hb2⟩,h17⟩:=h16;have HC:=uQ hC;have Hb:=uQ (And.intro hb hb2);have hmap:=PD hC.rp.hd (acz hb aN) (Ro.os HH.out) h17;clear h17 hC hb hb2;go_wp2_with fail;refine hmap.mono ?_;rintro ee w18 ⟨v,rfl,mv,qs,rfl,⟨hq1,hq2,hq3,hq4⟩,h18⟩;clear hmap;have Ur:=uQ hq1;have Eu:=uQ hq2;have Ew:=uQ hq3;have Us:=uQ hq4;clear hq1 hq2 hq3 hq4;have yu:=Bv (h18.sb:Sat w0 w18 (aW r m lim p ps pn false::F));go_wp2_with fail;refine yu.mono ?_
 rintro ee w19 ⟨v,rfl,rfl,rfl⟩;clear yu;obtain ⟨R,hR⟩:∃ R,R=aI pn (Rep.dO (Seg.dG D)) B::dh ps N pi uv tv::aI pi (Rep.dO (Seg.dG D)) B2::aB 45 3 uv (us.flatMap bT)::aB 113 33 mv (qs.flatMap jH)::nG qs::aB 69 37 (.slice oa es.length oc) (kF es)::rC es::F:=⟨_,rfl⟩;have h19:Sat w0 w18 (aK p m L::aW r m lim p ps pn false::aJ m M::R):=by rw [hR];exact h18.sb
 have HR:=uQ hR;clear h18 hR;have hsg:=FY HC.out.rp.hd.keeps.log h19;rw [show L.aF=iy D from HC.out.rp.hd.aF]at hsg;clear h19;go_wp2_with fail;refine hsg.mono ?_;rintro ee Lh ⟨v,rfl,h20⟩;clear hsg;obtain ⟨na,nc,rfl⟩:=FN (Sat.rd h20);have hnl:(iy D).length=D.length:=abl ..;have Hnl:=uQ hnl;have wZ:=uQ (show D.length≤41 from HC.out.rp.hd.count);have h21:Sat w0 Lh (aB 39 1 (.slice none 0 0) []::lY [] ((kS D).take 0)::aB 3 1 (.slice na (iy D).length nc) (ints (iy D))::aK p m L::aW r m lim p ps pn false::aJ m M::R):=Sat.gI.2 (Sat.emp.2 h20);clear h20 hnl;go_wp2_with fail
 go_loopg [14,15] D.length (fun g bq iq wr=>∃ (i:Nat) (vs:List Value) (ba:Option Addr) (bn bc:Nat),g=D.length - i∧i≤D.length∧bq = .slice ba bn bc∧iq = .int .i64 i∧vs.length=i∧Sat w0 wr (aB 39 1 (.slice ba bn bc) vs::lY vs ((kS D).take i)::aB 3 1 (.slice na (iy D).length nc) (ints (iy D))::aK p m L::aW r m lim p ps pn false::aJ m M::R))
 case atStart=>exact ⟨0,[],none,0,0,rfl,acV _,rfl,rfl,rfl,h21⟩
 case round=>
  obtain ⟨i,vs,ba,bn,bc,rfl,hi,rfl,rfl,hvs,hS⟩:=hrel;clear h21;have EC:=uQ hvs;clear hvs;by_cases hlt:i<D.length
  focus
   have c1:decide ((i:Int)<((iy D).length:Int))=true:=adt (by have:=Hnl.out;omega);have c1':(i:Int)<((iy D).length:Int):=by have:=Hnl.out;omega
   have hwi:IntKind.i64.wrap ((i:Int)+1)=(i:Int)+1:=acC _ (by have:=wZ.out;omega);obtain ⟨d,hd⟩:∃ d,D[i]?=some d:=⟨_,aaI hlt⟩;have hdm:=abV hd;have bV:=uQ hlt;have hnd:(iy D)[i]?=some (d.1:Int):=by unfold iy;rw [acE,hd];rfl
   have vG:=uQ (show (kS D).take (i+1)=(kS D).take i++[Seg.mag++ah.encs d.2] by
    unfold kS;rw [adD,acE,hd];rfl)
   have Hlk:=uQ (show ((kS D).take i).length=i by unfold kS;rw [acA,abl];omega);have hby:=fun (w2:World) (R:List aH) (hw:Sat w0 w2 (aK p m L::aJ m M::R))=>FV HC.out.rp.hd.keeps.log HC.out.rp.hd.keeps.calm.ok (d.1:Int) hw;rw [HC.out.rp.hd.bytes hdm]at hby;have BR:=uQ hby;have h22:=hS.drew;obtain ⟨bk,off,cc,e,hcell⟩:=sU (Sat.rd (h22.pick eH)) hnd;cases e;generalize Seg.mag++ah.encs d.2=bl at *
   clear hS hi hlt hd hdm hnd hby;go_wp2_with fail;refine dS [6,7,8,9,10,11] (fun w'=>w'.cell? ⟨bk,off+i,none⟩=some (.int .i64 (d.1:Int))) au ?_;have hG:=hcell;refine rP 0 ?_ (y:=aZ);refine rP 2 ?_ (y:=aZ);refine rP 3 ?_ (y:=aZ);refine rP 4 ?_ (y:=jf);refine rt 5 (h:=?_);refine bY 1 ak au (fun K hK=>?_)
   (refine oJ au ak ?_)
   refine (Bv (h22.sb:Sat w0 _ (aW r m lim p ps pn false::R))).mono ?_;rintro ee w23 ⟨v,rfl,rfl,rfl⟩;refine hK _ _ (.inr (.inl hG)) ?_;clear hK hG;refine bY 6 ak au (fun K hK=>?_)
   (refine gZ au ak ak ?_)
   refine (BR.out _ _ (h22.sb:Sat w0 _ (aK p m L::aJ m M::aB 39 1 (.slice ba bn bc) vs::lY vs ((kS D).take i)::aB 3 1 (.slice (some ⟨bk,off,none⟩) (iy D).length nc) (ints (iy D))::aW r m lim p ps pn false::R))).mono ?_;rintro ee Lj ⟨v,rfl,bv,rfl,vV⟩;refine hK _ _ (.inl rfl) ?_;clear hK h22 hcell;refine rP 7 ?_ (y:=aZ);refine rP 8 ?_ (y:=(fC ak bU));refine rP 9 ?_ (y:=(fC ak bU));refine rP 10 ?_ (y:=fZ);refine rP 11 ?_ (y:=fZ);refine dI au ?_;obtain ⟨va,vn,vc,rfl⟩:=IW vV;have CQ:Sat w0 Lj (aB 39 1 (.slice ba bn bc) vs::bK (.slice va vn vc) bl::lY vs ((kS D).take i)::aB 3 1 (.slice (some ⟨bk,off,none⟩) (iy D).length nc) (ints (iy D))::aK p m L::aW r m lim p ps pn false::aJ m M::R):=vV.sb;clear vV;have hvl:vs.length≤2147483648:=by have:=EC.out;have:=bV.out;have:=wZ.out;omega
   go_wp2_with (first
    |((with_reducible refine pI ⟨?_⟩);refine o7 (e:=39) (sz:=1) (eY:=24) au CQ aj (cs:=#[.slice va vn vc]) rfl rfl bJ ?_;intro bN wN hN)
    |((with_reducible refine lX ⟨?_⟩);refine pW 39 1 24 au hN aj aj aY aV aj (abL 1) aj hvl (by show 1≤65536;decide) aN (ys:=[.slice va vn vc]) rfl ?_;intro bA nA cA wA hA))
   have Fb:Sat w0 wA (bK (.slice va vn vc) bl::lY vs ((kS D).take i)::aB 39 1 (.slice (some ⟨bA,0,none⟩) nA cA) (vs++[.slice va vn vc])::aB 3 1 (.slice (some ⟨bk,off,none⟩) (iy D).length nc) (ints (iy D))::aK p m L::aW r m lim p ps pn false::aJ m M::R):=hA.sb;have h27:=Sat.star.2 Fb;rw [← Vp _ _ _ _ (by rw [EC.out,Hlk.out]),← vG.out]at h27;have gy:=uQ (h27.sb:Sat w0 wA (aB 39 1 (.slice (some ⟨bA,0,none⟩) nA cA) (vs++[.slice va vn vc])::lY (vs++[.slice va vn vc]) ((kS D).take (i+1))::aB 3 1 (.slice (some ⟨bk,off,none⟩) (iy D).length nc) (ints (iy D))::aK p m L::aW r m lim p ps pn false::aJ m M::R));clear CQ hN hA Fb h27 hvl;go_wp2_with fail
   go_roundg (D.length - (i+1))
   case measure=>have:=bV.out;omega
   case rel=>exact ⟨i+1,_,_,_,_,rfl,adi bV.out,rfl,by first|rfl|go_num,by rw [aaK,EC.out];rfl,gy.out⟩
  obtain rfl:i=D.length:=by omega
  have c1:decide ((D.length:Int)<((iy D).length:Int))=false:=ac4 (by have:=Hnl.out;omega);have c1':¬ (D.length:Int)<((iy D).length:Int):=by have:=Hnl.out;omega
  have htk:(kS D).take D.length=kS D:=acX (by unfold kS;rw [abl];exact abL _);rw [htk]at hS;obtain ⟨_,_,_,ebn,hbn,_⟩:=Sat.rd hS;cases ebn;obtain rfl:bn=D.length:=by rw [adb,EC.out]at hbn;exact hbn.symm
  clear hi hlt htk hbn;have hwp:=SK pc 0 100;have hpm:=SL pc 0 100 aN;generalize within pc 0 100=pcc at *
  have Hpm:=uQ hpm;clear hpm;obtain ⟨X,hX⟩:∃ X,X=aB 113 33 mv (qs.flatMap jH)::nG qs::aB 3 1 (.slice na (iy D).length nc) (ints (iy D))::aB 39 1 (.slice ba D.length bc) vs::lY vs (kS D)::aB 69 37 (.slice oa es.length oc) (kF es)::rC es::F:=⟨_,rfl⟩;have hrd:oH w0 r m lim 25000 r1 82 41 D X wr:=by
   rw [hX];rw [HR.out]at hS;exact ⟨ps,p,pn,pi,B,B2,B0,uv,tv,N,us,L,M,⟨HC.out,Hb.out⟩,hS.sb⟩
  have Ov:Ro w0 X Half:=by rw [hX];exact Ro.os HH.out
  have hrun:=ae5 Hpm.out vF.out.1 (by have:=vF.out;omega) aN aN aN Ov hrd;have HX:=uQ hX;have TF:=uQ Ov;clear hS hrd hX Ov HR HC Hb;go_wp2_with fail;refine (hwp _).mono ?_;rintro ee w28 ⟨v,rfl,rfl,rfl⟩;clear hwp;go_wp2_with fail;refine hrun.mono ?_;rintro ee w29 ⟨v,rfl,⟨gv,D1,rfl,⟨FC,_⟩,Jh⟩|⟨rfl,_,Jh⟩⟩
  focus
   obtain ⟨ps,p,pn,B,K9,r9,E9,B9,n9,L,M,⟨hD,hb⟩,h30⟩:=oH.wk aN Jh;have hmap:=PD hD hb (Ro.os TF.out) h30;rw [FC]at hmap;clear Jh h30 hrun FC hD hb;go_wp2_with fail;refine hmap.mono ?_;rintro ee wJ ⟨v,rfl,bv,qb,rfl,⟨hb1,hb2,hb3,hb4⟩,h31⟩;clear hmap;rw [HX.out]at h31;have h32:Sat w0 wJ (aB 113 33 mv (qs.flatMap jH)::nG qs::aB 113 33 bv (qb.flatMap jH)::nG qb::F):=h31.sb;clear h31;have hsm:=aaY (av:=mv) (bv:=bv) qs qb (Ur.out.unique hb1) (fun q hq=>(Eu.out q hq).1) (Ro.oV (fun w hw=>Sat.rd hw) aV) (Ro.oV (fun w hw=>Sat.rd hw) eH) (fun q hq=>Ro.oV (I7 hq) aY) (fun q hq=>Ro.oV (I7 hq) iJ) (acz Ew.out aN) (fun q hq=>acz (Us.out q hq) aN) h32;clear h32 hb1 hb2 hb3 hb4;go_wp2_with fail;refine hsm.mono ?_;rintro ee BI ⟨v,rfl,rfl,sJ⟩;clear hsm;have hlv:=YW (Ro.os HH.out) (sJ.sb:Sat w0 BI F);clear sJ;go_wp2_with fail;refine hlv.mono ?_;rintro ee SI ⟨v,rfl,rfl,xX⟩
   go_wp2_with fail;go_ret;exact ⟨_,rfl,rfl,xX⟩
  obtain ⟨ps,p,pn,B,K9,r9,E9,B9,n9,L,M,⟨hD,hb⟩,h30⟩:=Jh;have hmap:=PD hD hb (Ro.os TF.out) h30;have HD:=uQ hD;clear h30 hrun hD hb;go_wp2_with fail;refine hmap.mono ?_;rintro ee wJ ⟨v,rfl,bv,qb,rfl,⟨hb1,hb2,hb3,hb4⟩,h31⟩;clear hmap;rw [HX.out]at h31;have h32:Sat w0 wJ (aB 113 33 mv (qs.flatMap jH)::nG qs::aB 113 33 bv (qb.flatMap jH)::nG qb::aW r m lim p ps pn false::aK p m L::aJ m M::aB 3 1 (.slice na (iy D).length nc) (ints (iy D))::aB 39 1 (.slice ba D.length bc) vs::lY vs (kS D)::F):=h31.sb;clear h31;have hsm:=aaY (av:=mv) (bv:=bv) qs qb (Ur.out.unique hb1) (fun q hq=>(Eu.out q hq).1) (Ro.oV (fun w hw=>Sat.rd hw) aV) (Ro.oV (fun w hw=>Sat.rd hw) eH) (fun q hq=>Ro.oV (I7 hq) aY) (fun q hq=>Ro.oV (I7 hq) iJ) (acz Ew.out aN) (fun q hq=>acz (Us.out q hq) aN) h32;clear h32 hb1 hb2 hb3 hb4;go_wp2_with fail;refine hsm.mono ?_;rintro ee BI ⟨v,rfl,rfl,Xm⟩;clear hsm
  have sJ:Sat w0 BI (aK p m L::aW r m lim p ps pn false::aJ m M::aB 3 1 (.slice na (iy D).length nc) (ints (iy D))::aB 39 1 (.slice ba D.length bc) vs::lY vs (kS D)::F):=Xm.sb;clear Xm;have yu:=Bv (sJ.sb:Sat w0 BI (aW r m lim p ps pn false::F));go_wp2_with fail;refine yu.mono ?_;rintro ee SI ⟨v,rfl,rfl,rfl⟩;clear yu;have hsg:=FY HD.out.keeps.log sJ;rw [show L.aF=iy D from HD.out.aF]at hsg;clear sJ;go_wp2_with fail;refine hsg.mono ?_;rintro ee w35 ⟨sv,rfl,h35⟩;clear hsg;have hsi:=ak6 (av:=sv) (bv:= .slice na (iy D).length nc) (iy D) (Ro.oV (fun w hw=>Sat.rd hw) aV) (Ro.oV (fun w hw=>Sat.rd hw) rJ) h35 (by have:=Hnl.out;have:=wZ.out;omega);clear h35;go_wp2_with fail;refine hsi.mono ?_;rintro ee w36 ⟨v,rfl,rfl,Xo⟩;clear hsi
  have Xn:Sat w0 w36 (aB 3 1 (.slice na (iy D).length nc) (ints (iy D))::aK p m L::aW r m lim p ps pn false::aJ m M::aB 39 1 (.slice ba D.length bc) vs::lY vs (kS D)::F):=Xo.sb;clear Xo;go_wp2_with fail
  go_loopg [22] D.length (fun g iq wr=>∃ i:Nat,g=D.length - i∧i≤D.length∧iq = .int .i64 i∧Sat w0 wr (aB 3 1 (.slice na (iy D).length nc) (ints (iy D))::aK p m L::aW r m lim p ps pn false::aJ m M::aB 39 1 (.slice ba D.length bc) vs::lY vs (kS D)::F))
  case atStart=>exact ⟨0,rfl,acV _,rfl,Xn⟩
  case round=>
   obtain ⟨i,rfl,hi,rfl,hS⟩:=hrel;clear Xn;by_cases hlt:i<D.length
   focus
    have c1:decide ((i:Int)<((iy D).length:Int))=true:=adt (by have:=Hnl.out;omega);have c1':(i:Int)<((iy D).length:Int):=by have:=Hnl.out;omega
    have hwi:IntKind.i64.wrap ((i:Int)+1)=(i:Int)+1:=acC _ (by have:=wZ.out;omega);obtain ⟨d,hd⟩:∃ d,D[i]?=some d:=⟨_,aaI hlt⟩;have hdm:=abV hd;have bV:=uQ hlt;have hnd:(iy D)[i]?=some (d.1:Int):=by unfold iy;rw [acE,hd];rfl
    have hsd:(kS D)[i]?=some (Seg.mag++ah.encs d.2):=by unfold kS;rw [acE,hd];rfl
    obtain ⟨x,hx⟩:∃ x,vs[i]?=some x:=⟨_,aaI (by have:=EC.out;omega)⟩;have hby:=fun (w2:World) (R:List aH) (hw:Sat w0 w2 (aK p m L::aJ m M::R))=>FV HD.out.keeps.log HD.out.keeps.calm.ok (d.1:Int) hw;have hbl:=Seg.EN (L:=L) HD.out.keeps.calm.ok (d.1:Int);rw [HD.out.bytes hdm]at hby hbl;have lW:=uQ (show (Seg.mag++ah.encs d.2).length≤16777216 from hbl);have BR:=uQ hby;have h22:=hS.drew;obtain ⟨bk,off,cc,e,hcell⟩:=sU (Sat.rd h22) hnd;cases e;generalize Seg.mag++ah.encs d.2=bl at *
    have Hx:=uQ hx;have Hsd:=uQ hsd;clear hS hi hlt hd hdm hnd hby hbl hx hsd;go_wp2_with fail;refine dS [6,7,8,9,10,11] (fun w'=>w'.cell? ⟨bk,off+i,none⟩=some (.int .i64 (d.1:Int))) au ?_;have hG:=hcell;refine rP 0 ?_ (y:=aZ);refine rP 2 ?_ (y:=aZ);refine rP 3 ?_ (y:=aZ);refine rP 4 ?_ (y:=jf);refine rt 5 (h:=?_);refine bY 1 ak au (fun K hK=>?_)
    (refine oJ au ak ?_)
    refine (Bv (h22.sb:Sat w0 _ (aW r m lim p ps pn false::F))).mono ?_;rintro ee w23 ⟨v,rfl,rfl,rfl⟩;refine hK _ _ (.inr (.inl hG)) ?_;clear hK hG;refine bY 6 ak au (fun K hK=>?_)
    (refine gZ au ak ak ?_)
    refine (BR.out _ _ (h22.sb:Sat w0 _ (aK p m L::aJ m M::aB 3 1 (.slice (some ⟨bk,off,none⟩) (iy D).length nc) (ints (iy D))::aW r m lim p ps pn false::aB 39 1 (.slice ba D.length bc) vs::lY vs (kS D)::F))).mono ?_;rintro ee Lj ⟨v,rfl,Vq,rfl,vV⟩;refine hK _ _ (.inl rfl) ?_;clear hK h22 hcell;refine rP 7 ?_ (y:=aZ);refine rP 8 ?_ (y:=(fC ak bU));refine rP 9 ?_ (y:=(fC ak bU));refine rP 10 ?_ (y:=fZ);refine rP 11 ?_ (y:=fZ);refine dI au ?_;have CQ:Sat w0 Lj (bK Vq bl::lY vs (kS D)::aB 39 1 (.slice ba D.length bc) vs::aB 3 1 (.slice (some ⟨bk,off,none⟩) (iy D).length nc) (ints (iy D))::aK p m L::aW r m lim p ps pn false::aJ m M::F):=vV.sb;clear vV;obtain ⟨b9,o9,e9,hc9⟩:=wF (Sat.rd (CQ.pick eH)) Hx.out;cases e9;have hsa:=aaZ (av:=Vq) (bv:=x) bl (Ro.oV (fun w hw=>Sat.rd hw) aV) (Ro.oV (aex Hx.out Hsd.out) aY) CQ (by have:=lW.out;omega);clear CQ;go_wp2_with fail
    refine hsa.mono ?_;rintro ee w26 ⟨v,rfl,rfl,Fb⟩;clear hsa hc9;have gy:=uQ (Fb.sb:Sat w0 w26 (aB 3 1 (.slice (some ⟨bk,off,none⟩) (iy D).length nc) (ints (iy D))::aK p m L::aW r m lim p ps pn false::aJ m M::aB 39 1 (.slice (some ⟨b9,o9,none⟩) D.length bc) vs::lY vs (kS D)::F));clear Fb;go_wp2_with fail
    go_roundg (D.length - (i+1))
    case measure=>have:=bV.out;omega
    case rel=>exact ⟨i+1,rfl,adi bV.out,by first|rfl|go_num,gy.out⟩
   obtain rfl:i=D.length:=by omega
   have c1:decide ((D.length:Int)<((iy D).length:Int))=false:=ac4 (by have:=Hnl.out;omega);have c1':¬ (D.length:Int)<((iy D).length:Int):=by have:=Hnl.out;omega
   have hlv:=YW (Ro.os HH.out) (hS.sb:Sat w0 wr F);clear hS hi hlt;go_wp2_with fail;refine hlv.mono ?_;rintro ee SI ⟨v,rfl,rfl,xX⟩;go_wp2_with fail;go_ret;exact ⟨_,rfl,rfl,xX⟩
end
end Go.Proofs.YtihngncbioofnaaGreatDoor
namespace Go.Proofs.YtihngncbioofnaaGreatDoor
open Go Go.Sl Go.ay Go.ChangeShapes Go.WideShapes Go.RowKit
structure QD.At (W:World) (d:QD):Prop where
 kind:qo d.c.kind
 key:d.c.key.length=32
 rd:bG 1 d.dv (aA d.c.data) W
 cap:lQ d.dv
 n:qo d.c.n
 m:qo d.c.m
 rl:bG 1 d.lv (ints d.c.l) W
 NI:lQ d.lv
 ins:∀ i∈d.c.l,qo i
section
variable {H:Type}{enc:TypeId×Value→H}{W:World}{base:Nat}{spare:Nat→Bool}{held:Bool}
theorem ai3 {fuel:Nat}{cs:List Value}{x:DataW H×List MemPlace} (h:DataW.trod enc Tryz.prog W base spare held fuel 69 cs=some x):∃ d:QD,mW d=cs∧d.At W:=by
 obtain ⟨hl,hf⟩:=ai1 Tryz.underlying69 h;have e37:Tryz.prog.cellsOf 69=37:=by kernel_rfl
 have e1:Tryz.prog.cellsOf 3=1:=by kernel_rfl
 have e2:Tryz.prog.cellsOf 50=32:=by kernel_rfl
 have e3:Tryz.prog.cellsOf 39=1:=by kernel_rfl
 have e5:Tryz.prog.cellsOf 5=1:=by kernel_rfl
 have e4:Tryz.prog.cellsOf 29=1:=by kernel_rfl
 rw [e37]at hl;obtain ⟨n0,y0,h0⟩:=hf 0 _ rfl;obtain ⟨n1,y1,h1⟩:=hf 1 _ rfl;obtain ⟨n2,y2,h2⟩:=hf 2 _ rfl;obtain ⟨n3,y3,h3⟩:=hf 3 _ rfl;obtain ⟨n4,y4,h4⟩:=hf 4 _ rfl;obtain ⟨n5,y5,h5⟩:=hf 5 _ rfl;simp only [List.getElem_toArray,List.getElem_cons_zero,List.getElem_cons_succ,e1,e2,e3,e4,aoy]at h0 h1 h2 h3 h4 h5;obtain ⟨z0,q0,_,w0⟩:=aok Tryz.underlying3 h0;obtain ⟨kl,k1,k2⟩:=ai2 Tryz.underlying50 e2 h1;have hd:∃ v,(cs.drop 33).take 1=[v]:=by
  have:((cs.drop 33).take 1).length=1:=by rw [acA,acL];omega
  exact List.length_eq_one_iff.1 this
 obtain ⟨dv,hdv⟩:=hd;rw [hdv]at h2;obtain ⟨l2,r2,c2⟩:=aho Tryz.underlying39 Tryz.underlying5 e5 h2;obtain ⟨z3,q3,_,w3⟩:=aok Tryz.underlying3 h3;obtain ⟨z4,q4,_,w4⟩:=aok Tryz.underlying3 h4;have hd:∃ v,(cs.drop 36).take 1=[v]:=by
  have:((cs.drop 36).take 1).length=1:=by rw [acA,acL];omega
  exact List.length_eq_one_iff.1 this
 obtain ⟨lv,hlv⟩:=hd;rw [hlv]at h5;obtain ⟨l6,r6,c6,i6⟩:=ahp Tryz.underlying29 Tryz.underlying3 e1 h5;refine ⟨⟨⟨z0,kl,l2,z3,z4,l6⟩,dv,lv⟩,?_,bounds_i64 w0,k2,r2,c2,bounds_i64 w3,bounds_i64 w4,r6,c6,i6⟩;show (Value.int .i64 z0::aA kl)++dv::[.int .i64 z3,.int .i64 z4,lv]=cs;have s1:cs=cs.take 1++((cs.drop 1).take 32++((cs.drop 33).take 1++((cs.drop 34).take 1++((cs.drop 35).take 1++(cs.drop 36).take 1)))):=by
  have a4:(cs.drop 36).take 1=cs.drop 36:=acX (by rw [acL];omega);have a3:(cs.drop 35).take 1++cs.drop 36=cs.drop 35:=by
   rw [show cs.drop 36=(cs.drop 35).drop 1 by rw [aol]];exact adB 1 _
  have a2:(cs.drop 34).take 1++cs.drop 35=cs.drop 34:=by
   rw [show cs.drop 35=(cs.drop 34).drop 1 by rw [aol]];exact adB 1 _
  have a1:(cs.drop 33).take 1++cs.drop 34=cs.drop 33:=by
   rw [show cs.drop 34=(cs.drop 33).drop 1 by rw [aol]];exact adB 1 _
  have a0:(cs.drop 1).take 32++cs.drop 33=cs.drop 1:=by
   rw [show cs.drop 33=(cs.drop 1).drop 32 by rw [aol]];exact adB 32 _
  rw [a4,a3,a2,a1,a0];exact (adB 1 cs).symm
 rw [s1,q0,← k1,hdv,q3,q4,hlv];rfl
theorem ahq {fuel:Nat}{v:Value}{x:DataW H×List MemPlace} (h:DataW.trod enc Tryz.prog W base spare held fuel 22 [v]=some x) :
  ∃ ds:List QD,bG 37 v (kF ds) W∧lQ v∧∀ d∈ds,d.At W:=by
 obtain ⟨elems,h1,h2,h3⟩:=ZN Tryz.underlying22 (k:=37) au oQ h;obtain ⟨ds,h4,h5⟩:=PK (f:=mW) (p:=fun d=>d.At W) elems fun cs hcs=>by
  obtain ⟨_,n,y,h6⟩:=h3 cs hcs;exact ai3 h6
 refine ⟨ds,?_,h2,h5⟩;unfold kF;rw [List.flatMap_def,h4];exact h1
theorem QD.At.ro {d:QD} (h:d.At W):Cc W [Sl.old W] d:=⟨h.key,Qq h.rd,h.cap,Qq h.rl,h.NI⟩
end
end Go.Proofs.YtihngncbioofnaaGreatDoor
namespace Go.Proofs.YtihngncbioofnaaGreatDoor.card
open Go.ChangeShapes Go.WideShapes Go.ChangeAt Go.RowKit
open Go Go.Sl Go.ay
theorem agn:Tryz.prog.globalNamed "hoard/crc.half" = some 0:=by kernel_rfl
theorem al9:((Tryz.prog.globals[0]?).map (·.type))=some 277:=by kernel_rfl
theorem door_met (os:Os) (args:Array Value):laidMetH Tryz.prog [("hoard/crc.half",Rows.laid_hoard_crc_half)] ((World.doorLaid Tryz.prog 400 os).forCall (fun _ _=>0) ⟨#[],args,[]⟩).memory:=
 laidMetH_of_parts3 (fuel:=8) (laidMet_of_run' 8 au au) au au
theorem of_laid {W:World} (h:laidMetH Tryz.prog [("hoard/crc.half",Rows.laid_hoard_crc_half)] W):0<W.heap.size∧Half W:=by
 rw [MakeChecks.laidMetH_plain _ _ _ au]at h;obtain ⟨ps,⟨g0,t0,cs0,f0,p0,q0,hg0,ht0,hv0,hd0,hrest⟩,anB⟩:=h;obtain rfl:=ahM (agn.symm.trans hg0);obtain rfl:=ahM (al9.symm.trans ht0);obtain ⟨xs,m1,rfl,hx1,hlen,hn3,hel⟩:=DataW.trod_array Tryz.underlying277 hd0;have c3:Tryz.prog.cellsOf 171=1:=by kernel_rfl
 simp only [Prod.mk.injEq,Rows.laid_hoard_crc_half,DataW.agg.injEq]at hx1;have hH:Half W:=by
  intro i hi;have h0:=hel i hi;have hxi:xs[i]?=some (xs[i]'oQ):=aaI oQ;rw [hxi]at h0;obtain ⟨k,e1,e2,_⟩:=aok Tryz.underlying171 h0;rw [c3,adb]at e1;have hc:cs0.toList[i]?=some (.int .u32 k):=by
   have:((cs0.toList.drop i).take 1)[0]?=some (.int .u32 k):=by rw [e1];rfl
   rw [adC,acr aN,anQ]at this;exact this
  have hL:=adu (fun l=>l[i]?) hx1.1;rw [acE,hxi]at hL;have hk:k=((ah.half.getD i 0:Nat):Int):=by
   rw [e2]at hL;rcases i with _|_|_|_|_|_|_|_|_|_|_|_|_|_|_|_|i
   all_goals first|omega|(simp at hL;rw [← hL];rfl)
  subst hk;have:=World.var?_cell hg0 hv0 i;rw [this,← ah6];exact hc
 refine ⟨?_,hH⟩;by_cases hz:0<W.heap.size
 ·exact hz
 ·have h0:=hH 0 aN;have e:W.heap[0]?=none:=aoa oQ;simp [World.cell?,e]at h0
end Go.Proofs.YtihngncbioofnaaGreatDoor.card
