import Derived.Test.YtadhomdmbcldkaaGreatDoorJ10
set_option linter.unusedSimpArgs false
open Go.Proofs.Tryz
set_option maxRecDepth 20000
set_option linter.unusedVariables false
set_option maxHeartbeats 128000000
open Go Go.Sl Go.MapKept Go.RowKit
open Go.Proofs.YtadhomdmbcldkaaGreatDoor Go.Proofs.Y
variable {w w0:World}{F R:List aF}{p B m K r ps pn b:Nat}{M:ak.ak}{v bv rv lv vy:Value}{L:Seg.Log}{P:Program}{ops:Array Oper}{a:Act}{dst:Option Tmp}{ty:TypeId}{after:Array Edge}{x y:Operand}{seg:Int}{d:Bool}{k:aj.Bs}{mp:aj.Bs->Option Seg.aZ}{rest:List Oper}{Q:Exit->Act->World->Prop}{xs:List Value}
theorem yU0{p:Prop} (h:p:=by have:=qH.o;omega):p:=h
theorem zJ0{p:Prop} (h:p:=by have:=Hk.o;omega):p:=h
namespace Go.Proofs.Y
open Go.ak
theorem ahm (l:Bs) (hr:Ro w0 F (aW 1 bv (aB l))) (hcap:nN bv) (hH:Ro w0 F Half) (hl:l.length<=268435456) (h:Sat w0 w F) :
  Calls prog 97 #[bv] w (aN λv w'=>∃ (fs:List (aj.dK×Value)),fs.map (·.1)=aj.qR l/\(∀ p∈fs,p.1.e.key.length=32) /\
   Sat w0 w' (aC 154 36 v (iF fs)::kQ fs::F)):=by
 obtain ⟨ba,bn,bc,rfl,hbn,hbc⟩:=hcap;have hln:bn=l.length:=by
  obtain ⟨_,_,_,he,hl',_⟩:=hr w h;cases he;rw [aP,aeo]at hl';exact hl'.symm
 subst hln;have Hf:=uQ (show aj.qR l=aj.tK l.length l 0 from rfl);have hS0:Sat w0 w (aC 154 36 (.slice none 0 0) (iF [])::kQ []::F):=Sat.dO.2 (Sat.emp.2 h);by_cases hl0:l.length=0
 ·have Ji:=uQ hl0;have hfin:=uQ (show aj.qR l=[] by rw [Hf.o,hl0];rfl);have c1:¬ (0:Int)<(l.length:Int):=oQ;clear hr hH hl hl0 hbn hbc;go_enter func97,ntmps97;go_wp2_with fail
  go_loopg [3,4] 0 (λg ov iq wr=>ov=.slice none 0 0/\iq=.int .i64 0/\wr=w)
  case atStart=>exact ⟨rfl,rfl,rfl⟩
  case round=>
   obtain ⟨rfl,rfl,rfl⟩:=hrel;go_wp2;go_ret;exact ⟨_,rfl,[],by rw [hfin.o];rfl,by simp,hS0⟩
 obtain ⟨bk,off,rfl⟩:∃ bk off,ba=some ⟨bk,off,none⟩:=by
  obtain ⟨b',o',hb,_⟩:=oJ (i:=0) (x:= .int .u8 (l[0]'oQ).toNat) (hr w h) (by unfold aB;rw [ad1,aaJ oQ];rfl);exact ⟨_,_,hb⟩
 have Hr:=uQ hr;have HH:=uQ hH;have Hl:=uQ hl;have qZ:=uQ (show l.length<=bc/\bc<=9223372036854775807 from ⟨hbn,hbc⟩);clear hr hH hl hbn hbc hl0;go_enter func97,ntmps97;go_wp2_with fail
 go_loopg [3,4] l.length (λg ov aq wr=>∃ (at_:Nat) (fs:List (aj.dK×Value)),g=l.length-at_/\at_<=l.length/\9*fs.length<=at_/\aq=.int .i64 at_/\(∀ p∈fs,p.1.e.key.length=32) /\
  (∃ k,l.length-at_<=k/\aj.qR l=fs.map (·.1)++aj.tK k (l.drop at_) at_) /\
  Sat w0 wr (aC 154 36 ov (iF fs)::kQ fs::F))
 case atStart=>
  exact ⟨0,[],rfl,ad4 _,ad4 _,rfl,by simp,⟨l.length,by omega,by rw [Hf.o];rfl⟩,hS0⟩
 case round=>
  obtain ⟨at_,fs,rfl,hat,hfl,rfl,hfk,⟨k,hk,hsc⟩,hS⟩:=hrel;have Hk:=uQ hk;have vH:=uQ hsc;have ru:=uQ hfk;have oO:=uQ (show at_<=l.length/\9*fs.length<=at_ from ⟨hat,hfl⟩);clear hk hsc hfk hfl hS0;by_cases hlt:at_<l.length
  ·have c1:(at_:Int)<(l.length:Int):=by omega
   have c2:(at_:Int)<=(bc:Int):=by have:=qZ.o;omega
   have c3:(l.length:Int)<=(bc:Int):=by have:=qZ.o;omega
   have c4:(at_:Int)<=(l.length:Int):=oQ;have c5:(0:Int)<=(at_:Int):=oQ;have c6:¬ bc=at_:=by have:=qZ.o;omega
   have hsl:∀ w,(Instr.sliceAt 59 (.slice (some ⟨bk,off,none⟩) l.length bc) (some (.int .i64 at_)) none none).run prog w=.ok (.slice (some ⟨bk,off+at_,none⟩) (l.length-at_) (bc-at_)) w:=by
    intro w;go_simp
   have hrd:=uQ (λw hw=>SV (Hr.o w hw) at_ l.length (bc-at_) hat (ab1 _));rw [aeH]at hrd;have aS:=uQ hlt;clear hlt hat;go_wp2_with ((with_reducible refine OV ⟨?_⟩);refine UQ ah ah hsl ?_);refine (P7 (l.drop at_) (Ro.os hrd.o) ⟨_,_,_,rfl,by have:=qZ.o;omega,by have:=qZ.o;omega⟩ (Ro.os HH.o) (by rw [adX];have:=Hl.o;omega) hS).mono ?_;rintro ee w2 ⟨v,rfl,da,dc,rfl,hS2⟩;have FQ:=uQ (aj.LD (l.drop at_));obtain ⟨k,rfl⟩:∃ k',k=k'+1:=⟨k-1,by have:=Hk.o;have:=aS.o;omega⟩
   have xK:=uQ (show l.drop at_≠[] by
    intro h0;have:=aeO List.length h0;rw [adX]at this;have:=aS.o;simp only [ae0]at *
    omega)
   by_cases hz:(aj.read (l.drop at_)).2.2=0
   ·have bI:=uQ (aj.zW hz)
    have AU:=uQ (show aj.qR l=fs.map (·.1)++(⟨(aj.read (l.drop at_)).1,at_,(aj.read (l.drop at_)).2.1⟩::aj.tK k ((l.drop at_).drop (aj.read (l.drop at_)).2.1) (at_+(aj.read (l.drop at_)).2.1)) by
     rw [vH.o];simp only [aj.tK];rw [abL xK.o,abL (λh=>h hz)])
    have hN:=bI.o.2.1;rw [adX]at hN;rw [apD]at AU;generalize aj.read (l.drop at_)=r at *
    obtain ⟨e,n,er⟩:=r;obtain rfl:er=0:=hz;have Hn:=uQ (show 9<=n/\n<=l.length-at_ from ⟨bI.o.1,hN⟩);have dQ:=uQ (show e.key.length=32 from FQ.o);clear hN vH FQ bI
    try clear hz
    simp only at AU hS2;have hw:IntKind.i64.wrap ((at_:Int)+(n:Int))=((at_+n:Nat):Int):=by
     rw [acO _ (by have:=Hn.o;have:=Hl.o;omega)];omega
    have hlen:(iF fs).length<=2147483648:=by
     rw [PX ru.o];have:=oO.o;have:=Hl.o;omega
    go_wp2_with (first
     |((with_reducible refine sS ⟨?_⟩);refine tX aQ ?_;intro bE wE hE)|((with_reducible refine ql ⟨?_⟩);first|(refine jO aQ ah ah fQ gZ sQ ?_;intro wS hS)|(refine jO (e:=aj.zeroE) (da:=none) (dn:=0) (dc:=0) aQ ah ah rfl gZ sQ ?_;intro wS hS))|((with_reducible refine Bh ⟨?_⟩);refine Dn aQ ah bK fQ ?_)
     |((with_reducible refine Ju ⟨?_⟩);refine Nh ah ah ah (λw=>ab8 e dQ.o da _ dc at_ n w) ?_)
     |((with_reducible refine jh ⟨?_⟩);refine jg (e:=154) (sz:=36) (dF:=80) au aQ ay (cs:=jQ ⟨e,at_,n⟩ (.slice da e.data.length dc)) rfl (rH _ _ dQ.o) bG ?_;intro bN wN hN)
     |((with_reducible refine fZ ⟨?_⟩);refine jF 154 36 80 au aQ ah ah bK bK ((rH _ _ dQ.o).trans aG) (ab1 1) (Gi _ _ _ _) hlen (by rw [rH _ _ dQ.o];decide) aG rfl ?_;intro bA nA cA wA hA))
    go_roundg (l.length-(at_+n))
    case measure=>have:=Hn.o;omega
    case rel=>
     refine ⟨at_+n,fs++[(⟨e,at_,n⟩,.slice da e.data.length dc)],rfl,by have:=Hn.o;have:=oO.o;omega,by rw [aa7,ae3];have:=oO.o;have:=Hn.o;omega,by first|rfl|go_num,?_,⟨k,by have:=Hn.o;have:=Hk.o;omega,?_⟩,?_⟩
     ·intro p hp;rw [aeQ]at hp;rcases hp with hp|hp
      ·exact ru.o p hp
      ·rw [aeG]at hp;subst hp;exact dQ.o
     ·rw [AU.o,aef,ad2];rfl
     ·rw [Yj,Xu];have e9:iF [((⟨e,at_,n⟩:aj.dK),Value.slice da e.data.length dc)]=(jQ ⟨e,at_,n⟩ (.slice da e.data.length dc)).toList:=by
       unfold iF jQ;simp
      rw [e9];have h10:Sat w0 wA (aY (.slice da e.data.length dc) e.data::kQ fs::aC 154 36 (.slice (some ⟨bA,0,none⟩) nA cA) (iF fs++(jQ ⟨e,at_,n⟩ (.slice da e.data.length dc)).toList)::F):=hA.sb;exact (Sat.star.2 h10).aT
   ·have hfin:=uQ (show aj.qR l=fs.map (·.1)++aj.tK k (l.drop (at_+1)) (at_+1) by
     rw [vH.o];simp only [aj.tK];rw [abL xK.o,adU hz,apD])
    have c9:((aj.read (l.drop at_)).2.2 != 0)=true:=ahV.2 hz;have c8:((aj.read (l.drop at_)).2.2==0)=false:=by rw [ad3];exact hz
    have hw:IntKind.i64.wrap ((at_:Int)+1)=(at_:Int)+1:=acO _ (by have:=aS.o;have:=Hl.o;omega);clear hz vH;go_wp2_with (first|((with_reducible refine sS ⟨?_⟩);refine tX aQ ?_;intro bE wE hE)|((with_reducible refine ql ⟨?_⟩);first|(refine jO aQ ah ah fQ gZ sQ ?_;intro wS hS)|(refine jO (e:=aj.zeroE) (da:=none) (dn:=0) (dc:=0) aQ ah ah rfl gZ sQ ?_;intro wS hS))|((with_reducible refine Bh ⟨?_⟩);refine Dn aQ ah bK fQ ?_))
    go_roundg (l.length-(at_+1))
    case measure=>have:=aS.o;omega
    case rel=>
     exact ⟨at_+1,fs,rfl,aS.o,by have:=oO.o.2;omega,by first|rfl|go_num,ru.o,⟨k,by have:=Hk.o;omega,hfin.o⟩,Sat.sb aQ⟩
  ·have c1:¬ (at_:Int)<(l.length:Int):=by omega
   have hfin:=uQ (show aj.qR l=fs.map (·.1) by
    rw [vH.o,aeI oQ];cases k <;> simp [aj.tK])
   clear hlt hat;go_wp2;go_ret;exact ⟨_,rfl,fs,by rw [hfin.o],λa b hm=>ru.o _ hm,hS⟩
end Go.Proofs.Y
namespace Go.Rep
structure Kpv where
 a:Option Addr
 n:Nat
 c:Nat
 last:Seg.aZ
end Go.Rep
namespace Go.Proofs.Y
open Go.ak
section
variable {L:List aF}{t e:TypeId}{pos:String}{s:Operand}{sz dF:Nat}{v1:Value}
theorem amd (hb:qJ P t e sz dF=true) (w:World):(Instr.buildSlice t 0 #[]).run P w=.ok (.slice (some ⟨w.heap.size,0,none⟩) 0 0) (w.alloc (.cells #[] e)):=by
 obtain ⟨hu,i,z,hi,hz,e1,e2,e3,e4⟩:=yZ hb;have hsz':(sizeOf e).run P w=.ok i.size w:=by simp [sizeOf,typeInfo,hi]
 have hf:Instr.fill (λi'=>some (i'*i.size,i.size)) ((Array.range 0).map ((#[]:Array Value)[· % (#[]:Array Value).size]!)) []=some #[]:=by unfold Instr.fill;simp
 unfold Instr.buildSlice;simp only [aed,agu hu,adW,hsz',Nat.zero_mul,abL (show ¬ (0>2^24) by omega)];simp [newRow,go_sem]
theorem WE (h:Stop (wpList P ops Q (⟨dst,.buildSlice ty 0 #[],t,pos,after,none⟩::rest) a w)):wpList P ops Q (⟨dst,.buildSlice ty 0 #[],t,pos,after,none⟩::rest) a w:=h.o
theorem adC (hb:qJ P ty e sz dF=true) (hs:Sat w0 w L)
  (hK:∀ b w',Sat w0 w' (aC e sz (.slice (some ⟨b,0,none⟩) 0 0) []::L)->wpList P ops Q rest (a.put dst (.slice (some ⟨b,0,none⟩) 0 0)) w'):wpList P ops Q (⟨dst,.buildSlice ty 0 #[],t,pos,after,none⟩::rest) a w:=by
 refine ae5 rfl λ_ hK'=>?_;have hS:=hs.alloc (.cells #[] e);unfold Oper.wp execOp;simp only [ahS,ah3,aed,aep,amd hb w,adW];exact hK' _ _ (hK _ _ (Sat.kU hS yF0 (ab1 _) yF0 aG yF0))
end
section
variable {n c:Nat}{m:aj.Bs->Option Seg.aZ}
theorem agb (h1:∀ u∈xs,u.oneCell'=true) (hl:xs.length<=2147483648) (h:Sat w0 w (aC 215 36 (.slice (some ⟨b,0,none⟩) n c) xs::F)) :
  Calls prog 124 #[.slice (some ⟨b,0,none⟩) n c] w (aN λv w'=>Sat w0 w' (aC 215 36 v xs::aC 215 36 (.slice (some ⟨b,0,none⟩) n c) xs::F)):=by
 have H1:=uQ h1;have Hl:=uQ hl;have he:∀ w,(binOp .eql 212 (.slice (some ⟨b,0,none⟩) n c) (.slice none 0 0)).run prog w=.ok (.bool false) w:=λw=>by first|kernel_rfl|rfl
 clear h1 hl;go_enter func124,ntmps124
 go_wp2_with (first
  |((with_reducible refine WE ⟨?_⟩);refine adC (e:=215) (sz:=36) (dF:=64) au h ?_;intro bN wN hN)
  |(with_reducible apply fZ))
 refine ⟨adx 215 36 64 au hN ah ah aK (Sat.rd hN.drop) H1.o (by have:=Hl.o;simp only [ae0];omega) aG ?_⟩;intro v' w' hS;rw [aeV]at hS;go_wp2_with fail;go_ret;exact ⟨_,rfl,hS⟩
theorem amJ (s:List (Tab.Slot Seg.aZ)):∀ u∈s.flatMap (slotL bT),u.oneCell'=true:=λu hu=>by
 obtain ⟨x,_,hx⟩:=ao6.1 hu;have:=(agt.1 (pX bT x (yD _))) u hx;exact this
theorem Xk (hB:B<=14000000) (h:Sat w0 w (bf p m B::F)) :
  Calls prog 50 #[ptr p] w (aN λv w'=>∃ q,v=ptr q/\Sat w0 w' (bf q m B::bf p m B::F)):=by
 obtain ⟨t,sv,⟨ok,is,hb⟩,hR⟩:=bf.open h;have hsz:t.slots.length<=56000008:=by have:=ok.size;omega
 have Hlen:=uQ (show ∀ x∈t.slots,(slotL bT x).length=36 from λx hx=>kZ bT x (ok.good.key x hx) 3 (yC _));have lJ:=uQ ok.good.lU;have VW:=uQ (show (t.slots.flatMap (slotL bT)).length=t.slots.length*36 from (iK Hlen.o).trans (aiS _ _));obtain ⟨la,lc,rfl⟩:=iP Hlen.o (Sat.rd (hR.pick aT)) aG;obtain ⟨bs,rfl⟩:∃ bs,la=some ⟨bs,0,none⟩:=by
  rcases Sat.kL (hR.pick aT) with ⟨_,he,_⟩|⟨b,n,cap,cs,he,_⟩
  ·have:=aeO List.length he;have:=VW.o;have:=lJ.o;simp only [ae0]at *;omega
  ·cases he;exact ⟨b,rfl⟩
 have hok:=Ie lJ.o hR;have bI:=uQ ok;have kF:=uQ is;have Hb:=uQ hb;have iQ:=uQ hsz;clear h ok is hb hsz hB;go_enter func50,ntmps50;go_wp2_with fail;refine hok.mono ?_;rintro ee w1 ⟨v,rfl,rfl,rfl⟩;clear hok;go_wp2_with fail;have hR1:=hR.drew;clear hR;refine eF [13,14,15] (λw'=>w'.cell? ⟨p,0,none⟩=some (.slice (some ⟨bs,0,none⟩) t.slots.length lc)/\w'.cell? ⟨p,1,none⟩=some (.int .i64 t.n)/\w'.cell? ⟨p,2,none⟩=some (.int .i64 t.gone)) au ?_;have hG:World.cell? _ ⟨p,0,none⟩=some (.slice (some ⟨bs,0,none⟩) t.slots.length lc)/\World.cell? _ ⟨p,1,none⟩=some (.int .i64 t.n)/\World.cell? _ ⟨p,2,none⟩=some (.int .i64 t.gone):=⟨hR1.cellAt 0 _ rfl,hR1.cellAt 1 _ rfl,hR1.cellAt 2 _ rfl⟩;refine rP 0 ?_ (y:=bD);refine rP 1 ?_ (y:=iG);refine rP 2 ?_ (y:=dh);refine rt 3 (h:=?_);refine rP 5 ?_ (y:=bD);refine rP 6 ?_ (y:=iG);refine rP 7 ?_ (y:=dh)
 refine rt 8 (h:=?_);refine rP 9 ?_ (y:=bD);refine rP 10 ?_ (y:=iG);refine rP 11 ?_ (y:=dh);refine rt 12 (h:=?_);clear hG;refine cZ 4 ay au (λK hK=>?_)
 (refine uJ au ay ?_)
 refine (agb (amJ _) (by rw [VW.o];have:=iQ.o;omega) (hR1.sb:Sat w0 _ (aC 215 36 (.slice (some ⟨bs,0,none⟩) t.slots.length lc) (t.slots.flatMap (slotL bT))::fV p 217 (.slice (some ⟨bs,0,none⟩) t.slots.length lc) t.n t.gone::F))).mono ?_;rintro ee w2 ⟨v,rfl,h2⟩;refine hK _ _ (.inr (.inl ⟨h2.cellP fE 0 rfl,h2.cellP fE 1 rfl,h2.cellP fE 2 rfl⟩)) ?_;clear hK hR1;obtain ⟨a2,c2,rfl⟩:=iP Hlen.o (Sat.rd h2) aG;refine rp 13 (hy:=yE0) (h:=?_);refine cZ 14 ay au (λK hK=>?_);refine PD (cs:=#[.slice a2 t.slots.length c2,.int .i64 t.n,.int .i64 t.gone]) h2 ay ay ?_;intro q w3 h3;refine hK _ _ (.inl rfl) ?_;clear hK h2;refine rP 15 ?_ (y:=jU);refine dX au ?_
 try simp only [jI]
 try go_frame
 go_wp2_with fail;go_ret;have h4:=bf.shut bI.o kF.o Hb.o (h3.sb:Sat w0 w3 (fV p 217 (.slice (some ⟨bs,0,none⟩) t.slots.length lc) t.n t.gone::aC 215 36 (.slice (some ⟨bs,0,none⟩) t.slots.length lc) (t.slots.flatMap (slotL bT))::fV q 217 (.slice a2 t.slots.length c2) t.n t.gone::aC 215 36 (.slice a2 t.slots.length c2) (t.slots.flatMap (slotL bT))::F));exact ⟨_,rfl,q,rfl,bf.shut bI.o kF.o Hb.o (h4.sb)⟩
theorem ajg (h:Sat w0 w (bf p m B::F)) :
  Calls prog 128 #[ptr p] w (aN λv w'=>∃ t:Tab.Tb Seg.aZ,(t.Ok/\t.Is m)/\v=.int .i64 t.n/\w=w'):=by
 obtain ⟨t,sv,⟨ok,is,hb⟩,hR⟩:=bf.open h;have Hlen:=uQ (show ∀ x∈t.slots,(slotL bT x).length=36 from λx hx=>kZ bT x (ok.good.key x hx) 3 (yC _));obtain ⟨la,lc,rfl⟩:=iP Hlen.o (Sat.rd (hR.pick aT)) aG;have hok:=Ie ok.good.lU hR;have e1:w.cell? ⟨p,1,none⟩=some (.int .i64 t.n):=hR.cellAt 1 _ rfl;have H:=uQ (And.intro ok is);clear h ok is hb hR;go_enter func128,ntmps128;go_wp2_with fail;refine hok.mono ?_;rintro ee w1 ⟨v,rfl,rfl,rfl⟩;clear hok;go_wp2_with fail;go_ret;exact ⟨_,rfl,t,H.o,rfl,rfl⟩
end
section
variable {t:TypeId}{pos:String}
theorem afw (h:Stop (wpList P ops Q (⟨dst,.sliceToArrayPointer ty x,t,pos,after,none⟩::rest) a w)):wpList P ops Q (⟨dst,.sliceToArrayPointer ty x,t,pos,after,none⟩::rest) a w:=h.o
theorem an2 (hx:a.eval x=v) (hr:∀ w,(Instr.arrayAt ty v).run P w=.ok vy w) (h:wpList P ops Q rest (a.put dst vy) w):wpList P ops Q (⟨dst,.sliceToArrayPointer ty x,t,pos,after,none⟩::rest) a w:=
 ae5 rfl λ_ hK=>by
  unfold Oper.wp execOp;simp only [hx,aed,hr,adW,aep];exact hK _ _ h
theorem Wy (h:Stop (wpList P ops Q (⟨dst,.build ty #[],t,pos,after,none⟩::rest) a w)):wpList P ops Q (⟨dst,.build ty #[],t,pos,after,none⟩::rest) a w:=h.o
end
theorem acj (w:World):(Instr.build 276 #[]).run prog w=.ok (.agg (bQ xA).toArray) w:=by kernel_rfl
theorem akJ (k:aj.Bs) (hk:k.length=32) (nv:Value):eH (bQ ⟨⟨aj.zero32,[]⟩,nv⟩).toArray 0 (aB k)=(bQ ⟨⟨k,[]⟩,nv⟩).toArray:=by
 have hz:aj.zero32.length=32:=rfl;apply rY;rw [yF _ _ _ (by rw [abA,lV _ hz,aP,hk];decide),ad7];unfold bQ;rw [Ey _ _ _ _ (by rw [aP,aP,hk,hz];decide),zT (by rw [aP,aP,hk,hz])]
theorem abf (k:aj.Bs) (hk:k.length=32) (ns ms:List Int) (nv mv:Value):eH (bQ ⟨⟨k,ns⟩,nv⟩).toArray 32 [mv]=(bQ ⟨⟨k,ms⟩,mv⟩).toArray:=by
 apply rY;rw [yF _ _ _ (by rw [abA,lV _ hk];exact ab1 33),ad7];have h0:=zU (aB k) [nv] [mv] 0;rw [aP,hk,zT (xs:=[nv]) (vs:=[mv]) ah]at h0;exact h0
abbrev qQ (b:Nat) (k:aj.Bs) (ns:List Int) (nv:Value):aF:=pt b (.cells (bQ ⟨⟨k,ns⟩,nv⟩).toArray 276 (0,0))
abbrev kK (b:Nat) (mg:ByteArray) (kd:Bool) (k:Nat):aF:=pt b (.cells (nI mg kd k) 270 (0,0))
theorem aiZ (eX:ByteArray) (k:Nat) (hk:k<=3) (rs:List aO.Rw) (hok:∀ r∈rs,aO.yY k r) (hn:rs.length<=65536) (hz:∀ r∈rs,r.key=aj.zero32) (T:aj.Bs) (hr:RS w0 F rv (aO.jL false rs++T)) (h:Sat w0 w (iW p rv::F)) :
  Calls prog 233 #[.agg (nI eX false k),ptr p,.int .i64 rs.length] w (aN λv w'=>∃ (vs:List RV) (rv':Value),vs.map (·.x)=rs/\RS w0 F rv' T/\Sat w0 w' (aC 276 33 v (vs.flatMap bQ)::iZ vs::iW p rv'::F)):=by
 have Hr:=uQ hr;have bI:=uQ hok;have Hn:=uQ hn;have Hk:=uQ hk;have Hz:=uQ hz;clear hr hok hn hk hz;go_enter func233,ntmps233;go_wp2_with (with_reducible apply fC);refine ⟨fB h ah ah ?_⟩;intro b3 w3 h3;replace h3:Sat w0 w3 (iW p rv::kK b3 eX false k::F):=h3.sb;clear h;go_wp2_with fail
 go_loopg [7,10] rs.length (λg oq iq wr=>∃ (i:Nat) (vs:List RV) (ov tJ:Value),g=rs.length-i/\i<=rs.length/\ov=oq/\iq=.int .i64 i/\RS w0 F tJ (aO.jL false (rs.drop i)++T)/\(vs.map (·.x)=rs.take i/\∀ x∈vs,x.x.key.length=32) /\
  Sat w0 wr (aC 276 33 ov (vs.flatMap bQ)::iZ vs::iW p tJ::kK b3 eX false k::F))
 case atStart=>exact ⟨0,[],_,rv,rfl,ad4 _,rfl,rfl,Hr.o,⟨rfl,λr hr=>by cases hr⟩,Sat.dO.2 (Sat.emp.2 h3)⟩
 case round=>
  obtain ⟨i,vs,ov,wZ,rfl,hi,rfl,rfl,hRS,hvs,hS⟩:=hrel;clear h3;by_cases hlt:i<rs.length
  ·as_aux_lemma=>
    have c3:(i:Int)<(rs.length:Int):=oQ;have hwi:IntKind.i64.wrap ((i:Int)+1)=(i:Int)+1:=acO _ yP0;obtain ⟨r,hx⟩:∃ r,rs[i]?=some r:=⟨_,aaJ hlt⟩;have lK:=uQ (bI.o r (acr hx));have Hkz:=uQ (Hz.o r (acr hx));have dP:=uQ (aO.lX hx);have aS:=uQ hlt;have lY:=uQ hvs
    have Qu:=uQ (show (vs.flatMap bQ).length<=2147483648 from by
     rw [iK λr hr=>lV r (hvs.2 r hr)];have:=aeO List.length hvs.1;rw [abl,adt]at this;have:=Hn.o;omega)
    rw [aO.abV hx,ad2]at hRS;obtain ⟨Y,hY⟩:∃ Y,aO.jL false (rs.drop (i+1))++T=Y:=⟨_,rfl⟩;rw [hY]at hRS;have HY:=uQ hY;clear hY;have kW:=uQ (show RS w0 F wZ (aO.jk r.nums++Y) from by unfold aO.rowB at hRS;exact hRS);clear hx hlt hi hvs hRS
    go_wp2_with (first
     |((with_reducible refine Wy ⟨?_⟩);refine EU ah acj ?_)
     |(with_reducible apply eG))
    refine ⟨eU Aj hS rfl ?_⟩;intro b8 w8 h8;clear hS;go_wp2_with (with_reducible apply bW);refine ⟨fG (bQ xA).toArray h8 ah ah ah bU au ah ?_⟩;intro w9 h9;clear h8;have HR:=kW;have h10:Sat w0 w9 (qQ b8 r.key (r.nums.take 0) (.slice none 0 0)::aC 3 1 (.slice none 0 0) (ints (r.nums.take 0))::iW p wZ::kK b3 eX false k::aC 276 33 ov (vs.flatMap bQ)::iZ vs::F):=by
     rw [afC,Hkz.o];exact (Sat.dO.2 h9).sb
    clear h9;have h9:=h10;clear h10;generalize wZ=tJ at *
    go_wp2_with ((with_reducible refine bC ⟨?_⟩);refine eY h9 ah (aU (aU (aU aK))) bG ay au ?_);go_wp2_with ((with_reducible refine bC ⟨?_⟩);refine eY h9 ah (aU (aU (aU aK))) bG ay au ?_)
    go_loopg [22] k (λg iq wr=>∃ (j:Nat) (nv mG:Value),g=k-j/\j<=k/\iq=.int .i64 j/\RS w0 F mG (aO.jk (r.nums.drop j)++Y)/\Sat w0 wr (qQ b8 r.key (r.nums.take j) nv::aC 3 1 nv (ints (r.nums.take j))::iW p mG::kK b3 eX false k::aC 276 33 ov (vs.flatMap bQ)::iZ vs::F))
    case atStart=>exact ⟨0,_,tJ,rfl,ad4 _,rfl,HR.o,h9⟩
    case round=>
     obtain ⟨j,nv,mG,rfl,hj,rfl,hRS,hSj⟩:=hrel;clear h9;by_cases hjl:j<k
     ·as_aux_lemma=>
      have c4:(j:Int)<(k:Int):=oQ;have Kq:IntKind.i64.wrap ((j:Int)+1)=(j:Int)+1:=acO _ zJ0;obtain ⟨n,hn⟩:∃ n,r.nums[j]?=some n:=⟨_,aaJ (by rw [lK.o.len];exact hjl)⟩;have hnb:=lK.o.num n (acr hn);obtain ⟨x,rfl⟩:∃ x:Nat,n=(x:Int):=⟨n.toNat,by omega⟩;have hdr:aO.jk (r.nums.drop j)=aj.le x 4++aO.jk (r.nums.drop (j+1)):=by
       have:=aO.aaU hn
       rwa [apH]at this
      have dP:=uQ (aO.lX hn);rw [hdr,ad2]at hRS;have hnum:aj.num ((aj.le x 4++(aO.jk (r.nums.drop (j+1))++Y)).take 4)=x:=by
       rw [aO.Ul];have:=aO.aaP hnb
       rwa [apH]at this
      have Gw:=aO.JH x (aO.jk (r.nums.drop (j+1))++Y);have hw2:IntKind.i64.wrap (x:Int)=(x:Int):=acO _ oQ;have hrn:=uQ (λ(w':World) (R:List aF) (hr':RS w0 R mG (aj.le x 4++(aO.jk (r.nums.drop (j+1))++Y))) (hw:Sat w0 w' (iW p mG::R))=>LK (by rw [aa7,aj.iE];omega) hr' hw);rw [hnum,Gw]at hrn;have kW:=uQ hRS;have uj:=uQ hjl;have hkey:=lK.o.key;have dQ:=uQ hkey;have Hsm:=uQ (show (r.nums.take j).length<=2147483648 from by rw [adt];have:=Hk.o;omega);obtain ⟨na,nn,nc,rfl,hnl,_⟩:=Sat.rd (hSj.pick aT);clear hn hnb hjl hj hdr hnum Gw hkey hnl hRS;go_wp2_with fail;have h10:=hSj.drew;clear hSj;refine eF [6,7,8] (λw'=>w'.cell? ⟨b8,32,none⟩=some (.slice na nn nc)) au ?_
      have HG:=uQ (λ(w':World) (R:List aF) (hw:Sat w0 w' (qQ b8 r.key (r.nums.take j) (.slice na nn nc)::R))=>show w'.cell? ⟨b8,32,none⟩=some (.slice na nn nc) from hw.cellP aK 32 (CX (x:=⟨r.key,r.nums.take j⟩) dQ.o));have hG:=HG.o _ _ h10;refine rP 0 ?_ (y:=dh);refine rt 1 (h:=?_);clear hG;refine rP 2 ?_ (y:=bD);refine cZ 3 ay au (λK hK=>?_)
      (refine jB au ay ay ?_)
      refine (hrn.o _ _ (kW.o.more jS) (h10.sb:Sat w0 _ (iW p mG::qQ b8 r.key (r.nums.take j) (.slice na nn nc)::aC 3 1 (.slice na nn nc) (ints (r.nums.take j))::kK b3 eX false k::aC 276 33 ov (vs.flatMap bQ)::iZ vs::F))).mono ?_;rintro ee jZ ⟨v,rfl,rv3,rfl,vP,h11⟩;refine hK _ _ (.inr (.inl (HG.o _ _ (h11.sb)))) ?_;have NH:=uQ (vP _ kW.o);clear hK h10 hrn vP kW;refine rP 4 ?_ (y:=(U6 ay bY));refine cZ 5 ay au (λK hK=>?_);refine JJ (e:=3) (sz:=1) (dF:=8) au h11 ay (cs:=#[.int .i64 (x:Int)]) rfl rfl aG ?_;intro bN w12 h12;refine hK _ _ (.inr (.inl (HG.o _ _ (h12.sb)))) ?_;clear hK h11;refine cZ 6 ay au (λK hK=>?_);refine JI 3 1 8 au h12 ay ay (by first|exact aU (aU (aU aK))) aK rfl (ab1 1) rfl (by unfold ints;rw [abl];exact Hsm.o) bG bG (ys:=ints [(x:Int)]) rfl ?_;intro b' n' c' ku h13;refine hK _ _ (.inl rfl) ?_;clear hK h12;refine rP 7 ?_ (y:=dh)
      refine cZ 8 ay au (λK hK=>?_);refine pI (cs':=(bQ ⟨⟨r.key,r.nums.take (j+1)⟩,.slice (some ⟨b',0,none⟩) n' c'⟩).toArray) (h13.sb:Sat w0 ku (qQ b8 r.key (r.nums.take j) (.slice na nn nc)::aC 3 1 (.slice (some ⟨b',0,none⟩) n' c') (ints (r.nums.take j)++ints [(x:Int)])::iW p rv3::kK b3 eX false k::aC 276 33 ov (vs.flatMap bQ)::iZ vs::F)) ay ay (abf r.key dQ.o _ _ _ _) bU (by show 32+1<=_;rw [lF _ dQ.o];decide) au ah ?_;intro kC fP;refine hK _ _ (.inl rfl) ?_;clear hK h13;refine dX au ?_;go_wp2_with fail
      go_roundg (k-(j+1))
      case measure=>have:=uj.o;omega
      case rel=>exact ⟨j+1,_,rv3,rfl,ad8 uj.o,by first|rfl|go_num,NH.o,by rw [dP.o,show ints (r.nums.take j++[(x:Int)])=ints (r.nums.take j)++ints [(x:Int)] from aef ..];rw [<-dP.o];exact fP⟩
     ·as_aux_lemma=>
      have c4:¬ (j:Int)<(k:Int):=oQ;obtain rfl:j=k:=by omega
      have hln:=lK.o.len;have e1:r.nums.drop j=[]:=aeI oQ;have e2:r.nums.take j=r.nums:=adZ oQ;rw [e1]at hRS;rw [e2]at hSj;have kW:=uQ (show RS w0 F mG Y from hRS);have dQ:=uQ lK.o.key;have lq:=uQ Qu.o;obtain ⟨na,nn,nc,rfl,_,_⟩:=Sat.rd (hSj.pick aT);clear hj hjl hRS hln e1 e2
      go_wp2_with (first
       |((with_reducible refine bC ⟨?_⟩);refine iC hSj ah aK underlying276 rfl (by rw [lF _ dQ.o];kernel_rfl) ?_)
       |((with_reducible refine jh ⟨?_⟩);refine jg (e:=276) (sz:=33) (dF:=56) (cs:=(bQ ⟨r,.slice na nn nc⟩).toArray) au hSj ah rfl (lF ⟨r,.slice na nn nc⟩ dQ.o) bG ?_;intro bN wN hN)
       |(with_reducible apply fZ))
      refine ⟨jF (cs:=(bQ ⟨r,.slice na nn nc⟩).toArray) 276 33 56 au hN ah ah (aU (aU (aU (aU (aU aK))))) aK (lF ⟨r,.slice na nn nc⟩ dQ.o) bG EH lq.o (by rw [lF ⟨r,.slice na nn nc⟩ dQ.o];decide) bG rfl ?_⟩;intro b' n' c2 kC fP;clear hSj hN;go_wp2_with fail
      go_roundg (rs.length-(i+1))
      case measure=>have:=aS.o;omega
      case rel=>
       refine ⟨i+1,vs++[⟨r,.slice na nn nc⟩],_,mG,rfl,ad8 aS.o,rfl,by first|rfl|go_num,by rw [HY.o];exact kW.o,⟨?_,?_⟩,?_⟩
       ·rw [aef,dP.o,lY.o.1];rfl
       ·intro x hx;rcases aeQ.1 hx with hx|hx
        ·exact lY.o.2 x hx
        ·rw [aeG.1 hx];exact dQ.o
       ·rw [aeB,aen,aiq,aei];have h15:Sat w0 kC (aC 3 1 (.slice na nn nc) (ints r.nums)::iZ vs::aC 276 33 (.slice (some ⟨b',0,none⟩) n' c2) (vs.flatMap bQ++bQ ⟨r,.slice na nn nc⟩)::iW p mG::kK b3 eX false j::F):=fP.sb;exact (KZ (r:=⟨r,.slice na nn nc⟩) h15).sb
  ·as_aux_lemma=>
   have c3:¬ (i:Int)<(rs.length:Int):=oQ;obtain rfl:i=rs.length:=by omega
   rw [ao4]at hRS;rw [aeH]at hvs;have kW:=uQ (show RS w0 F wZ T from hRS);have lY:=uQ hvs.1;clear hi hlt hRS hvs;go_wp2_with fail;go_ret;exact ⟨_,rfl,vs,lY.o,wZ,kW.o,hS.sb⟩
theorem ai0 (eX:ByteArray) (k:Nat) (hk:k<=3) (rs:List aO.Rw) (hok:∀ r∈rs,aO.yY k r) (hn:rs.length<=65536) (T:aj.Bs) (hr:RS w0 F rv (aO.jL true rs++T)) (h:Sat w0 w (iW p rv::F)) :
  Calls prog 233 #[.agg (nI eX true k),ptr p,.int .i64 rs.length] w (aN λv w'=>∃ (vs:List RV) (rv':Value),vs.map (·.x)=rs/\RS w0 F rv' T/\Sat w0 w' (aC 276 33 v (vs.flatMap bQ)::iZ vs::iW p rv'::F)):=by
 have Hr:=uQ hr;have bI:=uQ hok;have Hn:=uQ hn;have Hk:=uQ hk;clear hr hok hn hk;go_enter func233,ntmps233;go_wp2_with (with_reducible apply fC);refine ⟨fB h ah ah ?_⟩;intro b3 w3 h3;replace h3:Sat w0 w3 (iW p rv::kK b3 eX true k::F):=h3.sb;clear h;go_wp2_with fail
 go_loopg [7,10] rs.length (λg oq iq wr=>∃ (i:Nat) (vs:List RV) (ov tJ:Value),g=rs.length-i/\i<=rs.length/\ov=oq/\iq=.int .i64 i/\RS w0 F tJ (aO.jL true (rs.drop i)++T)/\(vs.map (·.x)=rs.take i/\∀ x∈vs,x.x.key.length=32) /\
  Sat w0 wr (aC 276 33 ov (vs.flatMap bQ)::iZ vs::iW p tJ::kK b3 eX true k::F))
 case atStart=>exact ⟨0,[],_,rv,rfl,ad4 _,rfl,rfl,Hr.o,⟨rfl,λr hr=>by cases hr⟩,Sat.dO.2 (Sat.emp.2 h3)⟩
 case round=>
  obtain ⟨i,vs,ov,wZ,rfl,hi,rfl,rfl,hRS,hvs,hS⟩:=hrel;clear h3;by_cases hlt:i<rs.length
  ·as_aux_lemma=>
    have c3:(i:Int)<(rs.length:Int):=oQ;have hwi:IntKind.i64.wrap ((i:Int)+1)=(i:Int)+1:=acO _ yP0;obtain ⟨r,hx⟩:∃ r,rs[i]?=some r:=⟨_,aaJ hlt⟩;have lK:=uQ (bI.o r (acr hx));have dP:=uQ (aO.lX hx);have aS:=uQ hlt;have lY:=uQ hvs
    have Qu:=uQ (show (vs.flatMap bQ).length<=2147483648 from by
     rw [iK λr hr=>lV r (hvs.2 r hr)];have:=aeO List.length hvs.1;rw [abl,adt]at this;have:=Hn.o;omega)
    rw [aO.abV hx,ad2]at hRS;obtain ⟨Y,hY⟩:∃ Y,aO.jL true (rs.drop (i+1))++T=Y:=⟨_,rfl⟩;rw [hY]at hRS;have HY:=uQ hY;clear hY;have kW:=uQ (show RS w0 F wZ (r.key++(aO.jk r.nums++Y)) from by unfold aO.rowB at hRS;rw [adU rfl,ad2]at hRS;exact hRS);clear hx hlt hi hvs hRS
    go_wp2_with (first
     |((with_reducible refine Wy ⟨?_⟩);refine EU ah acj ?_)
     |(with_reducible apply eG))
    refine ⟨eU Aj hS rfl ?_⟩;intro b8 w8 h8;clear hS;go_wp2_with (with_reducible apply bW);refine ⟨fG (bQ xA).toArray h8 ah ah ah bU au ah ?_⟩;intro w9 h9;clear h8;have hby:=akU (F:=qQ b8 aj.zero32 [] (.slice none 0 0)::aC 276 33 ov (vs.flatMap bQ)::iZ vs::kK b3 eX true k::F) (by rw [aa7,lK.o.key];omega) (kW.o.more jS) (h9.sb:Sat w0 w9 (iW p wZ::qQ b8 aj.zero32 [] (.slice none 0 0)::aC 276 33 ov (vs.flatMap bQ)::iZ vs::kK b3 eX true k::F));have hkt:(r.key++(aO.jk r.nums++Y)).take 32=r.key:=List.take_left' lK.o.key;have hkd:(r.key++(aO.jk r.nums++Y)).drop 32=aO.jk r.nums++Y:=List.drop_left' lK.o.key;rw [hkt,hkd]at hby;clear hkt hkd;go_wp2_with ((with_reducible refine bC ⟨?_⟩);refine eY h9 ah (aU (aU (aU (aU aK)))) bG ay au ?_);refine hby.mono ?_;rintro ee w10 ⟨v,rfl,tJ,wL,_,h10⟩;have HR:=uQ (wL _ kW.o);have dQ:=uQ lK.o.key;clear hby h9 wL kW
    obtain ⟨a1,n1,c1,rfl,hn1,hc1,hl1⟩:=Bj h10;rw [dQ.o]at hl1;subst hl1;obtain ⟨bk,off,rfl,hcell⟩:=oJ (Sat.rd h10) (i:=0) (xU.2 ⟨r.key[0]'(by rw [dQ.o];decide),aaJ _,rfl⟩);have hap:∀ w,(Instr.arrayAt 34 (.slice (some ⟨bk,off,none⟩) 32 c1)).run prog w=.ok (.pointer (some ⟨bk,off,none⟩)) w:=λw=>by
     unfold Instr.arrayAt;simp only [aed,agu underlying34,adW]
     rfl
    go_wp2_with (first
     |((with_reducible refine afw ⟨?_⟩);refine an2 ah hap ?_)
     |((with_reducible refine bC ⟨?_⟩);refine iD (b:=bk) (o:=off) (aB r.key) ah hcell underlying34 rfl (by rw [aP,dQ.o];kernel_rfl) ?_)
     |(with_reducible apply bW))
    refine ⟨jM (cs':=(bQ ⟨⟨r.key,[]⟩,.slice none 0 0⟩).toArray) (h10.sb:Sat w0 w10 (qQ b8 aj.zero32 [] (.slice none 0 0)::iW p tJ::kK b3 eX true k::aC 276 33 ov (vs.flatMap bQ)::iZ vs::F)) ah ah (akJ r.key dQ.o _) bU (by show 0+(aB r.key).toArray.size<=_;rw [abA,aP,dQ.o];decide) (by show _=some (aB r.key).toArray.size;rw [abA,aP,dQ.o];kernel_rfl) (by show (aB r.key).toArray.toList.all _=true;rw [ad7,uH]) ?_⟩;intro jZ h11;clear h10 hcell hap;have h9:Sat w0 jZ (qQ b8 r.key (r.nums.take 0) (.slice none 0 0)::aC 3 1 (.slice none 0 0) (ints (r.nums.take 0))::iW p tJ::kK b3 eX true k::aC 276 33 ov (vs.flatMap bQ)::iZ vs::F):=by
     rw [afC];exact (Sat.dO.2 h11).sb
    clear h11;go_wp2_with ((with_reducible refine bC ⟨?_⟩);refine eY h9 ah (aU (aU (aU aK))) bG ay au ?_)
    go_loopg [22] k (λg iq wr=>∃ (j:Nat) (nv mG:Value),g=k-j/\j<=k/\iq=.int .i64 j/\RS w0 F mG (aO.jk (r.nums.drop j)++Y)/\Sat w0 wr (qQ b8 r.key (r.nums.take j) nv::aC 3 1 nv (ints (r.nums.take j))::iW p mG::kK b3 eX true k::aC 276 33 ov (vs.flatMap bQ)::iZ vs::F))
    case atStart=>exact ⟨0,_,tJ,rfl,ad4 _,rfl,HR.o,h9⟩
    case round=>
     obtain ⟨j,nv,mG,rfl,hj,rfl,hRS,hSj⟩:=hrel;clear h9;by_cases hjl:j<k
     ·as_aux_lemma=>
      have c4:(j:Int)<(k:Int):=oQ;have Kq:IntKind.i64.wrap ((j:Int)+1)=(j:Int)+1:=acO _ zJ0;obtain ⟨n,hn⟩:∃ n,r.nums[j]?=some n:=⟨_,aaJ (by rw [lK.o.len];exact hjl)⟩;have hnb:=lK.o.num n (acr hn);obtain ⟨x,rfl⟩:∃ x:Nat,n=(x:Int):=⟨n.toNat,by omega⟩;have hdr:aO.jk (r.nums.drop j)=aj.le x 4++aO.jk (r.nums.drop (j+1)):=by
       have:=aO.aaU hn
       rwa [apH]at this
      have dP:=uQ (aO.lX hn);rw [hdr,ad2]at hRS;have hnum:aj.num ((aj.le x 4++(aO.jk (r.nums.drop (j+1))++Y)).take 4)=x:=by
       rw [aO.Ul];have:=aO.aaP hnb
       rwa [apH]at this
      have Gw:=aO.JH x (aO.jk (r.nums.drop (j+1))++Y);have hw2:IntKind.i64.wrap (x:Int)=(x:Int):=acO _ oQ;have hrn:=uQ (λ(w':World) (R:List aF) (hr':RS w0 R mG (aj.le x 4++(aO.jk (r.nums.drop (j+1))++Y))) (hw:Sat w0 w' (iW p mG::R))=>LK (by rw [aa7,aj.iE];omega) hr' hw);rw [hnum,Gw]at hrn;have kW:=uQ hRS;have uj:=uQ hjl;have hkey:=lK.o.key;have dQ:=uQ hkey;have Hsm:=uQ (show (r.nums.take j).length<=2147483648 from by rw [adt];have:=Hk.o;omega);obtain ⟨na,nn,nc,rfl,hnl,_⟩:=Sat.rd (hSj.pick aT);clear hn hnb hjl hj hdr hnum Gw hkey hnl hRS;go_wp2_with fail;have h10:=hSj.drew;clear hSj;refine eF [6,7,8] (λw'=>w'.cell? ⟨b8,32,none⟩=some (.slice na nn nc)) au ?_
      have HG:=uQ (λ(w':World) (R:List aF) (hw:Sat w0 w' (qQ b8 r.key (r.nums.take j) (.slice na nn nc)::R))=>show w'.cell? ⟨b8,32,none⟩=some (.slice na nn nc) from hw.cellP aK 32 (CX (x:=⟨r.key,r.nums.take j⟩) dQ.o));have hG:=HG.o _ _ h10;refine rP 0 ?_ (y:=dh);refine rt 1 (h:=?_);clear hG;refine rP 2 ?_ (y:=bD);refine cZ 3 ay au (λK hK=>?_)
      (refine jB au ay ay ?_)
      refine (hrn.o _ _ (kW.o.more jS) (h10.sb:Sat w0 _ (iW p mG::qQ b8 r.key (r.nums.take j) (.slice na nn nc)::aC 3 1 (.slice na nn nc) (ints (r.nums.take j))::kK b3 eX true k::aC 276 33 ov (vs.flatMap bQ)::iZ vs::F))).mono ?_;rintro ee jZ ⟨v,rfl,rv3,rfl,vP,h11⟩;refine hK _ _ (.inr (.inl (HG.o _ _ (h11.sb)))) ?_;have NH:=uQ (vP _ kW.o);clear hK h10 hrn vP kW;refine rP 4 ?_ (y:=(U6 ay bY));refine cZ 5 ay au (λK hK=>?_);refine JJ (e:=3) (sz:=1) (dF:=8) au h11 ay (cs:=#[.int .i64 (x:Int)]) rfl rfl aG ?_;intro bN w12 h12;refine hK _ _ (.inr (.inl (HG.o _ _ (h12.sb)))) ?_;clear hK h11;refine cZ 6 ay au (λK hK=>?_);refine JI 3 1 8 au h12 ay ay (by first|exact aU (aU (aU aK))) aK rfl (ab1 1) rfl (by unfold ints;rw [abl];exact Hsm.o) bG bG (ys:=ints [(x:Int)]) rfl ?_;intro b' n' c' ku h13;refine hK _ _ (.inl rfl) ?_;clear hK h12;refine rP 7 ?_ (y:=dh)
      refine cZ 8 ay au (λK hK=>?_);refine pI (cs':=(bQ ⟨⟨r.key,r.nums.take (j+1)⟩,.slice (some ⟨b',0,none⟩) n' c'⟩).toArray) (h13.sb:Sat w0 ku (qQ b8 r.key (r.nums.take j) (.slice na nn nc)::aC 3 1 (.slice (some ⟨b',0,none⟩) n' c') (ints (r.nums.take j)++ints [(x:Int)])::iW p rv3::kK b3 eX true k::aC 276 33 ov (vs.flatMap bQ)::iZ vs::F)) ay ay (abf r.key dQ.o _ _ _ _) bU (by show 32+1<=_;rw [lF _ dQ.o];decide) au ah ?_;intro kC fP;refine hK _ _ (.inl rfl) ?_;clear hK h13;refine dX au ?_;go_wp2_with fail
      go_roundg (k-(j+1))
      case measure=>have:=uj.o;omega
      case rel=>exact ⟨j+1,_,rv3,rfl,ad8 uj.o,by first|rfl|go_num,NH.o,by rw [dP.o,show ints (r.nums.take j++[(x:Int)])=ints (r.nums.take j)++ints [(x:Int)] from aef ..];rw [<-dP.o];exact fP⟩
     ·as_aux_lemma=>
      have c4:¬ (j:Int)<(k:Int):=oQ;obtain rfl:j=k:=by omega
      have hln:=lK.o.len;have e1:r.nums.drop j=[]:=aeI oQ;have e2:r.nums.take j=r.nums:=adZ oQ;rw [e1]at hRS;rw [e2]at hSj;have kW:=uQ (show RS w0 F mG Y from hRS);have dQ:=uQ lK.o.key;have lq:=uQ Qu.o;obtain ⟨na,nn,nc,rfl,_,_⟩:=Sat.rd (hSj.pick aT);clear hj hjl hRS hln e1 e2
      go_wp2_with (first
       |((with_reducible refine bC ⟨?_⟩);refine iC hSj ah aK underlying276 rfl (by rw [lF _ dQ.o];kernel_rfl) ?_)
       |((with_reducible refine jh ⟨?_⟩);refine jg (e:=276) (sz:=33) (dF:=56) (cs:=(bQ ⟨r,.slice na nn nc⟩).toArray) au hSj ah rfl (lF ⟨r,.slice na nn nc⟩ dQ.o) bG ?_;intro bN wN hN)
       |(with_reducible apply fZ))
      refine ⟨jF (cs:=(bQ ⟨r,.slice na nn nc⟩).toArray) 276 33 56 au hN ah ah (aU (aU (aU (aU (aU aK))))) aK (lF ⟨r,.slice na nn nc⟩ dQ.o) bG EH lq.o (by rw [lF ⟨r,.slice na nn nc⟩ dQ.o];decide) bG rfl ?_⟩;intro b' n' c2 kC fP;clear hSj hN;go_wp2_with fail
      go_roundg (rs.length-(i+1))
      case measure=>have:=aS.o;omega
      case rel=>
       refine ⟨i+1,vs++[⟨r,.slice na nn nc⟩],_,mG,rfl,ad8 aS.o,rfl,by first|rfl|go_num,by rw [HY.o];exact kW.o,⟨?_,?_⟩,?_⟩
       ·rw [aef,dP.o,lY.o.1];rfl
       ·intro x hx;rcases aeQ.1 hx with hx|hx
        ·exact lY.o.2 x hx
        ·rw [aeG.1 hx];exact dQ.o
       ·rw [aeB,aen,aiq,aei];have h15:Sat w0 kC (aC 3 1 (.slice na nn nc) (ints r.nums)::iZ vs::aC 276 33 (.slice (some ⟨b',0,none⟩) n' c2) (vs.flatMap bQ++bQ ⟨r,.slice na nn nc⟩)::iW p mG::kK b3 eX true j::F):=fP.sb;exact (KZ (r:=⟨r,.slice na nn nc⟩) h15).sb
  ·as_aux_lemma=>
   have c3:¬ (i:Int)<(rs.length:Int):=oQ;obtain rfl:i=rs.length:=by omega
   rw [ao4]at hRS;rw [aeH]at hvs;have kW:=uQ (show RS w0 F wZ T from hRS);have lY:=uQ hvs.1;clear hi hlt hRS hvs;go_wp2_with fail;go_ret;exact ⟨_,rfl,vs,lY.o,wZ,kW.o,hS.sb⟩
end Go.Proofs.Y
namespace Go.aO
open Go.aj (Bs le num iE CP)
variable {X:Bs->Nat}{mg:Bs}{kd:Bool}{l:List Rw}{k:Nat}
theorem WR:book X mg kd l=mg++(le l.length 4++(jL kd l++le (X (body mg kd l)) 8)):=by
 unfold book body;simp only [ad2]
theorem WQ (hm:mg.length=8) (h:∀ r∈l,yY k r):(book X mg kd l).take (12+l.length*kM kd k)=body mg kd l:=by
 unfold book;exact List.take_left' (DY hm h)
theorem aaN {n:Nat} (h:n<=65536) (t:Bs):num ((le n 4++t).take 4)=n:=by
 rw [Ul];exact CP 4 n (ajq h aG)
theorem aaO {n:Nat} (h:n<18446744073709551616):num ((le n 8).take 8)=n:=by
 rw [adZ (by rw [iE];exact ab1 _)];exact CP 8 n (Nat.lt_of_lt_of_le h aG)
end Go.aO
namespace Go.Proofs.Y
open Go.ak
section
variable {t:TypeId}{pos:String}{vx:Value}
theorem adM (hx:a.eval x=vx) (hy:a.eval y=vy) (hr:∀ w,(Instr.sliceAt ty vx none (some vy) none).run P w=.ok v w):Yields P ops ⟨dst,.slice ty x none (some y) none,t,pos,after,none⟩ v a:=
 .inl ⟨mZ _ rfl,λw=>by simp only [execOp,hx,hy,aiM,ao1,aed,hr,adW,aep]⟩
end
theorem acP (b:ByteArray) (l:aj.Bs) (h:b.data.toList=l):(⟨l.toArray⟩:ByteArray)=b:=by
 apply ByteArray.ext;rw [<-h]
theorem afY (us:List Rep.Use) (hok:aO.Ok 3 false (us.map Rep.jr)) (hr:Ro w0 F (aW 3 lv (us.flatMap bJ))) (h:Sat w0 w F) :
  Calls prog 116 #[lv] w (aN λv w'=>∃ bv,v=.tuple #[bv,errno 0]/\Sat w0 w' (jl bv (aO.book Xx.sum aO.uS false (us.map Rep.jr))::F)):=by
 have hn:us.length<=65536:=by have:=hok.len;rwa [abl]at this
 skip
 obtain ⟨la,lc,rfl⟩:=iP (λu _=>tN u) (hr w h) aG;have c1:¬ (65536:Int)<(us.length:Int):=oQ;have Hr:=uQ hr;have bI:=uQ hok;have Hn:=uQ hn;clear hr hok hn;go_enter func116,ntmps116;go_wp2_with fail;refine (ads h).mono ?_;rintro ee w1 ⟨v,rfl,rfl,h1⟩;clear h;go_wp2_with fail;refine (akz us Hn.o Hr.o h1).mono ?_;rintro ee w2 ⟨ov,rfl,rs,hrs,h2⟩;clear h1;have vG:=uQ hrs;have hkey:∀ r∈rs,r.x.key.length=32/\0<r.x.nums.length:=λr hr=>by
  have h1:r.x∈us.map Rep.jr:=by rw [<-hrs];exact apa hr
  have:=bI.o.row r.x h1;exact ⟨this.key,by rw [this.len];decide⟩
 have dQ:=uQ hkey;clear hrs hkey;go_wp2_with fail;refine (WT ⟨#[72,79,65,82,68,85,83,69]⟩ aO.uS rfl rfl false 3 aG rs (by rw [vG.o];exact bI.o) (λw hw=>Sat.rd hw) (λr hr=>(Es hr (dQ.o r hr).1 (dQ.o r hr).2).sub jS) h2).mono ?_;rintro ee w3 ⟨v,rfl,bv,rfl,h3⟩;rw [vG.o]at h3;clear h2;go_wp2_with fail
 go_ret2
 exact ⟨_,rfl,bv,rfl,h3.sb⟩
theorem afP (us:List (aj.Bs×Seg.aZ)) (hk:∀ q∈us,q.1.length=32) (hok:aO.Ok 3 true (us.map Rep.jm)) (hr:Ro w0 F (aW 35 lv (us.flatMap fO))) (h:Sat w0 w F) :
  Calls prog 114 #[lv] w (aN λv w'=>∃ bv,v=.tuple #[bv,errno 0]/\Sat w0 w' (jl bv (aO.book Xx.sum aO.uP true (us.map Rep.jm))::F)):=by
 have hn:us.length<=65536:=by have:=hok.len;rwa [abl]at this
 have Hk:=uQ hk;obtain ⟨la,lc,rfl⟩:=iP (λu hu=>lT u (Hk.o u hu)) (hr w h) aG;have c1:¬ (65536:Int)<(us.length:Int):=oQ;have Hr:=uQ hr;have bI:=uQ hok;have Hn:=uQ hn;clear hr hok hn;go_enter func114,ntmps114;go_wp2_with fail;refine (ZC h).mono ?_;rintro ee w1 ⟨v,rfl,rfl,h1⟩;clear h;go_wp2_with fail;refine (aky us Hn.o Hk.o Hr.o h1).mono ?_;rintro ee w2 ⟨ov,rfl,rs,hrs,h2⟩;clear h1;have vG:=uQ hrs;have hkey:∀ r∈rs,r.x.key.length=32/\0<r.x.nums.length:=λr hr=>by
  have h1:r.x∈us.map Rep.jm:=by rw [<-hrs];exact apa hr
  have:=bI.o.row r.x h1;exact ⟨this.key,by rw [this.len];decide⟩
 have dQ:=uQ hkey;clear hrs hkey;go_wp2_with fail;refine (WT ⟨#[72,79,65,82,68,73,68,88]⟩ aO.uP rfl rfl true 3 aG rs (by rw [vG.o];exact bI.o) (λw hw=>Sat.rd hw) (λr hr=>(Es hr (dQ.o r hr).1 (dQ.o r hr).2).sub jS) h2).mono ?_;rintro ee w3 ⟨v,rfl,bv,rfl,h3⟩;rw [vG.o]at h3;clear h2;go_wp2_with fail
 go_ret2
 exact ⟨_,rfl,bv,rfl,h3.sb⟩
theorem afT (eX:ByteArray) (mg:aj.Bs) (hmb:eX.data.toList=mg) (rM:mg.length=8) (k:Nat) (hk:k<=3) (hk0:0<k) (rs:List aO.Rw) (hok:aO.Ok k false rs) (hz:∀ r∈rs,r.key=aj.zero32) (hr:RS w0 F bv (aO.book Xx.sum mg false rs)) (h:Sat w0 w F) :
  Calls prog 187 #[.agg (nI eX false k),bv] w (aN λv w'=>∃ (vs:List RV) (lv:Value),v=.tuple #[lv,errno 0]/\vs.map (·.x)=rs/\Sat w0 w' (aC 276 33 lv (vs.flatMap bQ)::iZ vs::F)):=by
 obtain ⟨ba,bc,rfl,hbc,hbm⟩:=hr.len h;have hlen:(aO.book Xx.sum mg false rs).length=20+rs.length*aO.kM false k:=aO.JC rM hok.row;have hbe:=aO.WR (X:=Xx.sum) (mg:=mg) (kd:=false) (l:=rs);have hbt:=aO.WQ (X:=Xx.sum) (mg:=mg) (kd:=false) rM hok.row;have hb3:(aO.body mg false rs).length=12+rs.length*aO.kM false k:=aO.DY rM hok.row;have hz1:rs.length*aO.kM false k<=65536*44:=apu hok.len (aO.LP hk);have hto:=RS.to hr (k:=12+rs.length*aO.kM false k) (by rw [hlen];omega) bc (adT (by rw [hlen];omega) hbc) (ab1 _);rw [hbt]at hto;obtain ⟨ta,tc,hte,_,_⟩:=hto.len h;rw [hte]at hto;obtain ⟨S,hS⟩:∃ S,Xx.sum (aO.body mg false rs)=S:=⟨_,rfl⟩;have hSl:S<18446744073709551616:=by rw [<-hS];exact Xx.sum_lt _
 rw [hS]at hbe;have FU:=uQ hto;have Hte:=uQ hte;clear hto hte;have Hlen:=uQ hlen;have NM:=uQ hbe;have Hbt:=uQ hbt;have Hb3:=uQ hb3;have HS:=uQ hS;have Fj:=uQ hSl;obtain ⟨Z,hZ⟩:∃ Z,rs.length*aO.kM false k=Z:=⟨_,rfl⟩;have HZ:=uQ hZ;rw [hZ]at hz1 hlen;have qH:=uQ hz1;have Hr:=uQ hr;have bI:=uQ hok;have DF:=uQ hmb;have qE:=uQ rM;have Hk:=uQ hk;have Ob:=uQ hk0;have NK:=uQ hbc;have Hbm:=uQ hbm;have Hz:=uQ hz;have vF:=uQ (show (aO.book Xx.sum mg false rs).length=20+Z from hlen);clear hbe hbt hb3 hz1 hS hSl hZ hr hok hmb rM hk hk0 hbc hbm hlen hz;have c1:¬ ((aO.book Xx.sum mg false rs).length:Int)<12:=by have:=vF.o;omega
 have c2:¬ (65536:Int)<(rs.length:Int):=by have:=bI.o.len;omega
 have c3:¬ ((aO.book Xx.sum mg false rs).length:Int)<20+(Z:Int):=by have:=vF.o;omega
 have c4:¬ (20+(Z:Int))<((aO.book Xx.sum mg false rs).length:Int):=by have:=vF.o;omega
 go_enter func187,ntmps187;go_wp2_with (with_reducible apply fC);refine ⟨fB h ah ah ?_⟩;intro b2 w2 h2;replace h2:Sat w0 w2 (kK b2 eX false k::F):=h2;clear h;go_wp2_with fail;refine (abT (by rw [vF.o];have:=qH.o;omega) (Hr.o.more jS) h2).mono ?_;rintro ee w3 ⟨v,rfl,p,rv,rfl,h3,hrs⟩;clear h2;have Ce:RS w0 (aY rv (aO.book Xx.sum mg false rs)::kK b2 eX false k::F) rv (mg++(aj.le rs.length 4++(aO.jL false rs++aj.le S 8))):=by rw [<-NM.o];exact hrs
 generalize hG0:aY rv (aO.book Xx.sum mg false rs)=BB at *
 clear hG0;have htx:=ab3 (by rw [aa7,qE.o];omega) Ce h3;rw [List.take_left' qE.o,List.drop_left' qE.o,acP eX mg DF.o]at htx;clear hrs h3;go_wp2_with fail;refine htx.mono ?_;rintro ee w4 ⟨v,rfl,tJ,rfl,hr1,h4⟩;have wL:=hr1 _ Ce;clear htx hr1 Ce;have hn4:=LK (by rw [aa7,aj.iE];omega) wL h4;rw [aO.aaN bI.o.len,aO.JH]at hn4;clear h4;go_wp2_with fail;refine hn4.mono ?_;rintro ee w5 ⟨v,rfl,mG,rfl,hr2,h5⟩;have zD:=hr2 _ wL;have Ov:=uQ (show RS w0 (BB::kK b2 eX false k::F) mG (aO.jL false rs++aj.le S 8) from zD);clear hn4 hr2 wL zD;have hwn:IntKind.i64.wrap (rs.length:Int)=(rs.length:Int):=acO _ (by have:=bI.o.len;omega);have hw1:IntKind.i64.wrap ((rs.length:Int)*((aO.kM false k:Nat):Int))=(Z:Int):=by
  rw [<-apT,HZ.o];exact acO _ yU0
 have hw2:IntKind.i64.wrap (12+(Z:Int))=12+(Z:Int):=acO _ yU0;have hw3:IntKind.i64.wrap (12+(Z:Int)+8)=20+(Z:Int):=by rw [show 12+(Z:Int)+8=20+(Z:Int) by omega];exact acO _ yU0
 have hw4:IntKind.i64.wrap (20+(Z:Int)-8)=12+(Z:Int):=by rw [show 20+(Z:Int)-8=12+(Z:Int) by omega];exact acO _ yU0
 have hsl:∀ w,(Instr.sliceAt 59 (.slice ba (aO.book Xx.sum mg false rs).length bc) none (some (.int .i64 (12+(Z:Int)))) none).run prog w=.ok (.slice ta (aO.body mg false rs).length tc) w:=λw=>by
  have:=LY (a:=ba) (n:=(aO.book Xx.sum mg false rs).length) (c:=bc) (k:=12+Z) (by have:=vF.o;have:=NK.o;omega) w;rw [<-HZ.o,Hte.o,HZ.o]at this;rw [show (12+(Z:Int))=((12+Z:Nat):Int) by omega];exact this
 have qh:=uQ hsl;clear hsl;generalize (aO.book Xx.sum mg false rs).length=L at *
 go_wp2_with (first
  |((with_reducible refine bC ⟨?_⟩);first
   |refine iC h5 ah fE underlying270 rfl au ?_
   |refine eY h5 ah fE bG ay au ?_))
 refine (ZK eX false k zJ0 h5).mono ?_;rintro ee w6 ⟨v,rfl,rfl,h6⟩;clear h5
 go_wp2_with (first
  |((with_reducible refine bC ⟨?_⟩);refine iC h6 ah fE underlying270 rfl au ?_))
 refine (aiZ eX k Hk.o rs bI.o.row bI.o.len Hz.o (aj.le S 8) Ov.o h6).mono ?_;rintro ee w7 ⟨v,rfl,vs,rv3,hvs,vP,h7⟩;have lY:=uQ hvs;have Ox:=uQ vP;clear h6 hvs vP;go_wp2_with fail;have hG:True:=trivial;have h8:=h7.drew;clear h7;refine eF [] (λw'=>True) au ?_;refine rP 0 ?_ (y:=bD);refine rP 2 ?_ (y:=bD);refine rP 3 ?_ (y:=bD);refine rP 4 ?_ (y:=lZ);refine rP 5 ?_ (y:=(adM ay ay qh.o));refine cZ 1 ay au (λK hK=>?_)
 (refine jB au ay ay ?_)
 have BZ:=abS (F:=aC 276 33 v (vs.flatMap bQ)::iZ vs::BB::kK b2 eX false k::F) (by rw [aj.iE];exact ab1 _) (Ox.o.more jS) (h8.sb:Sat w0 _ (iW p rv3::aC 276 33 v (vs.flatMap bQ)::iZ vs::BB::kK b2 eX false k::F));rw [aO.aaO Fj.o]at BZ;refine BZ.mono ?_;rintro ee w9 ⟨v2,rfl,TQ,rfl,_,h9⟩;refine hK _ _ (.inr (.inl trivial)) ?_;clear hK BZ h8;refine cZ 6 ay au (λK hK=>?_)
 (refine jB au ay ay ?_)
 have hxs:=U5 (l:=aO.body mg false rs) (λe=>by have:=Hb3.o;rw [e]at this;simp only [ae0]at this;omega) (by rw [Hb3.o,HZ.o];have:=qH.o;omega) (FU.o.more jS) h9;rw [HS.o]at hxs;refine hxs.mono ?_;rintro ee w10 ⟨v3,rfl,rfl,h10⟩;refine hK _ _ (.inr (.inl trivial)) ?_;clear hK hxs h9;refine rP 7 ?_ (y:=lZ);refine dX au ?_;go_wp2_with ((with_reducible refine bC ⟨?_⟩);refine iC h10 ah (aU iw) underlying270 rfl au ?_)
 have dQ:=uQ (show ∀ r∈vs,r.x.key.length=32/\0<r.x.nums.length from λr hr=>by
  have h1:r.x∈rs:=by rw [<-lY.o];exact apa hr
  have:=bI.o.row r.x h1;exact ⟨this.key,by rw [this.len];exact Ob.o⟩)
 have OA:=uQ (show vs.length<=1073741824 from by
  have:=aeO List.length lY.o;rw [abl]at this;have:=bI.o.len;omega)
 refine (Td eX false k vs OA.o (λw hw=>Sat.rd (hw.sb:Sat w0 w (aC 276 33 v (vs.flatMap bQ)::iW p TQ::iZ vs::BB::kK b2 eX false k::F))) (λr hr=>(Es hr (dQ.o r hr).1 (dQ.o r hr).2).sub jS) h10).mono ?_;rintro ee jZ ⟨v4,rfl,t,rfl,ht,h11⟩;have ht2:t=true:=ht.2 (by rw [lY.o];exact bI.o.rise);subst ht2;clear h10 ht;go_wp2_with fail
 go_ret2
 exact ⟨_,rfl,vs,v,rfl,lY.o,h11.sb⟩
theorem afV (eX:ByteArray) (mg:aj.Bs) (hmb:eX.data.toList=mg) (rM:mg.length=8) (k:Nat) (hk:k<=3) (hk0:0<k) (rs:List aO.Rw) (hok:aO.Ok k true rs) (hr:RS w0 F bv (aO.book Xx.sum mg true rs)) (h:Sat w0 w F) :
  Calls prog 187 #[.agg (nI eX true k),bv] w (aN λv w'=>∃ (vs:List RV) (lv:Value),v=.tuple #[lv,errno 0]/\vs.map (·.x)=rs/\Sat w0 w' (aC 276 33 lv (vs.flatMap bQ)::iZ vs::F)):=by
 obtain ⟨ba,bc,rfl,hbc,hbm⟩:=hr.len h;have hlen:(aO.book Xx.sum mg true rs).length=20+rs.length*aO.kM true k:=aO.JC rM hok.row;have hbe:=aO.WR (X:=Xx.sum) (mg:=mg) (kd:=true) (l:=rs);have hbt:=aO.WQ (X:=Xx.sum) (mg:=mg) (kd:=true) rM hok.row;have hb3:(aO.body mg true rs).length=12+rs.length*aO.kM true k:=aO.DY rM hok.row;have hz1:rs.length*aO.kM true k<=65536*44:=apu hok.len (aO.LP hk);have hto:=RS.to hr (k:=12+rs.length*aO.kM true k) (by rw [hlen];omega) bc (adT (by rw [hlen];omega) hbc) (ab1 _);rw [hbt]at hto;obtain ⟨ta,tc,hte,_,_⟩:=hto.len h;rw [hte]at hto;obtain ⟨S,hS⟩:∃ S,Xx.sum (aO.body mg true rs)=S:=⟨_,rfl⟩;have hSl:S<18446744073709551616:=by rw [<-hS];exact Xx.sum_lt _
 rw [hS]at hbe;have FU:=uQ hto;have Hte:=uQ hte;clear hto hte;have Hlen:=uQ hlen;have NM:=uQ hbe;have Hbt:=uQ hbt;have Hb3:=uQ hb3;have HS:=uQ hS;have Fj:=uQ hSl;obtain ⟨Z,hZ⟩:∃ Z,rs.length*aO.kM true k=Z:=⟨_,rfl⟩;have HZ:=uQ hZ;rw [hZ]at hz1 hlen;have qH:=uQ hz1;have Hr:=uQ hr;have bI:=uQ hok;have DF:=uQ hmb;have qE:=uQ rM;have Hk:=uQ hk;have Ob:=uQ hk0;have NK:=uQ hbc;have Hbm:=uQ hbm;have vF:=uQ (show (aO.book Xx.sum mg true rs).length=20+Z from hlen);clear hbe hbt hb3 hz1 hS hSl hZ hr hok hmb rM hk hk0 hbc hbm hlen;have c1:¬ ((aO.book Xx.sum mg true rs).length:Int)<12:=by have:=vF.o;omega
 have c2:¬ (65536:Int)<(rs.length:Int):=by have:=bI.o.len;omega
 have c3:¬ ((aO.book Xx.sum mg true rs).length:Int)<20+(Z:Int):=by have:=vF.o;omega
 have c4:¬ (20+(Z:Int))<((aO.book Xx.sum mg true rs).length:Int):=by have:=vF.o;omega
 go_enter func187,ntmps187;go_wp2_with (with_reducible apply fC);refine ⟨fB h ah ah ?_⟩;intro b2 w2 h2;replace h2:Sat w0 w2 (kK b2 eX true k::F):=h2;clear h;go_wp2_with fail;refine (abT (by rw [vF.o];have:=qH.o;omega) (Hr.o.more jS) h2).mono ?_;rintro ee w3 ⟨v,rfl,p,rv,rfl,h3,hrs⟩;clear h2;have Ce:RS w0 (aY rv (aO.book Xx.sum mg true rs)::kK b2 eX true k::F) rv (mg++(aj.le rs.length 4++(aO.jL true rs++aj.le S 8))):=by rw [<-NM.o];exact hrs
 generalize hG0:aY rv (aO.book Xx.sum mg true rs)=BB at *
 clear hG0;have htx:=ab3 (by rw [aa7,qE.o];omega) Ce h3;rw [List.take_left' qE.o,List.drop_left' qE.o,acP eX mg DF.o]at htx;clear hrs h3;go_wp2_with fail;refine htx.mono ?_;rintro ee w4 ⟨v,rfl,tJ,rfl,hr1,h4⟩;have wL:=hr1 _ Ce;clear htx hr1 Ce;have hn4:=LK (by rw [aa7,aj.iE];omega) wL h4;rw [aO.aaN bI.o.len,aO.JH]at hn4;clear h4;go_wp2_with fail;refine hn4.mono ?_;rintro ee w5 ⟨v,rfl,mG,rfl,hr2,h5⟩;have zD:=hr2 _ wL;have Ov:=uQ (show RS w0 (BB::kK b2 eX true k::F) mG (aO.jL true rs++aj.le S 8) from zD);clear hn4 hr2 wL zD;have hwn:IntKind.i64.wrap (rs.length:Int)=(rs.length:Int):=acO _ (by have:=bI.o.len;omega);have hw1:IntKind.i64.wrap ((rs.length:Int)*((aO.kM true k:Nat):Int))=(Z:Int):=by
  rw [<-apT,HZ.o];exact acO _ yU0
 have hw2:IntKind.i64.wrap (12+(Z:Int))=12+(Z:Int):=acO _ yU0;have hw3:IntKind.i64.wrap (12+(Z:Int)+8)=20+(Z:Int):=by rw [show 12+(Z:Int)+8=20+(Z:Int) by omega];exact acO _ yU0
 have hw4:IntKind.i64.wrap (20+(Z:Int)-8)=12+(Z:Int):=by rw [show 20+(Z:Int)-8=12+(Z:Int) by omega];exact acO _ yU0
 have hsl:∀ w,(Instr.sliceAt 59 (.slice ba (aO.book Xx.sum mg true rs).length bc) none (some (.int .i64 (12+(Z:Int)))) none).run prog w=.ok (.slice ta (aO.body mg true rs).length tc) w:=λw=>by
  have:=LY (a:=ba) (n:=(aO.book Xx.sum mg true rs).length) (c:=bc) (k:=12+Z) (by have:=vF.o;have:=NK.o;omega) w;rw [<-HZ.o,Hte.o,HZ.o]at this;rw [show (12+(Z:Int))=((12+Z:Nat):Int) by omega];exact this
 have qh:=uQ hsl;clear hsl;generalize (aO.book Xx.sum mg true rs).length=L at *
 go_wp2_with (first
  |((with_reducible refine bC ⟨?_⟩);first
   |refine iC h5 ah fE underlying270 rfl au ?_
   |refine eY h5 ah fE bG ay au ?_))
 refine (ZK eX true k zJ0 h5).mono ?_;rintro ee w6 ⟨v,rfl,rfl,h6⟩;clear h5
 go_wp2_with (first
  |((with_reducible refine bC ⟨?_⟩);refine iC h6 ah fE underlying270 rfl au ?_))
 refine (ai0 eX k Hk.o rs bI.o.row bI.o.len (aj.le S 8) Ov.o h6).mono ?_;rintro ee w7 ⟨v,rfl,vs,rv3,hvs,vP,h7⟩;have lY:=uQ hvs;have Ox:=uQ vP;clear h6 hvs vP;go_wp2_with fail;have hG:True:=trivial;have h8:=h7.drew;clear h7;refine eF [] (λw'=>True) au ?_;refine rP 0 ?_ (y:=bD);refine rP 2 ?_ (y:=bD);refine rP 3 ?_ (y:=bD);refine rP 4 ?_ (y:=lZ);refine rP 5 ?_ (y:=(adM ay ay qh.o));refine cZ 1 ay au (λK hK=>?_)
 (refine jB au ay ay ?_)
 have BZ:=abS (F:=aC 276 33 v (vs.flatMap bQ)::iZ vs::BB::kK b2 eX true k::F) (by rw [aj.iE];exact ab1 _) (Ox.o.more jS) (h8.sb:Sat w0 _ (iW p rv3::aC 276 33 v (vs.flatMap bQ)::iZ vs::BB::kK b2 eX true k::F));rw [aO.aaO Fj.o]at BZ;refine BZ.mono ?_;rintro ee w9 ⟨v2,rfl,TQ,rfl,_,h9⟩;refine hK _ _ (.inr (.inl trivial)) ?_;clear hK BZ h8;refine cZ 6 ay au (λK hK=>?_)
 (refine jB au ay ay ?_)
 have hxs:=U5 (l:=aO.body mg true rs) (λe=>by have:=Hb3.o;rw [e]at this;simp only [ae0]at this;omega) (by rw [Hb3.o,HZ.o];have:=qH.o;omega) (FU.o.more jS) h9;rw [HS.o]at hxs;refine hxs.mono ?_;rintro ee w10 ⟨v3,rfl,rfl,h10⟩;refine hK _ _ (.inr (.inl trivial)) ?_;clear hK hxs h9;refine rP 7 ?_ (y:=lZ);refine dX au ?_;go_wp2_with ((with_reducible refine bC ⟨?_⟩);refine iC h10 ah (aU iw) underlying270 rfl au ?_)
 have dQ:=uQ (show ∀ r∈vs,r.x.key.length=32/\0<r.x.nums.length from λr hr=>by
  have h1:r.x∈rs:=by rw [<-lY.o];exact apa hr
  have:=bI.o.row r.x h1;exact ⟨this.key,by rw [this.len];exact Ob.o⟩)
 have OA:=uQ (show vs.length<=1073741824 from by
  have:=aeO List.length lY.o;rw [abl]at this;have:=bI.o.len;omega)
 refine (Td eX true k vs OA.o (λw hw=>Sat.rd (hw.sb:Sat w0 w (aC 276 33 v (vs.flatMap bQ)::iW p TQ::iZ vs::BB::kK b2 eX true k::F))) (λr hr=>(Es hr (dQ.o r hr).1 (dQ.o r hr).2).sub jS) h10).mono ?_;rintro ee jZ ⟨v4,rfl,t,rfl,ht,h11⟩;have ht2:t=true:=ht.2 (by rw [lY.o];exact bI.o.rise);subst ht2;clear h10 ht;go_wp2_with fail
 go_ret2
 exact ⟨_,rfl,vs,v,rfl,lY.o,h11.sb⟩
section
variable {nv:Value}
theorem ami (a b c:Int) (w:World):(Instr.build 205 #[(0,.int .i64 a),(1,.int .i64 b),(2,.int .i64 c)]).run prog w=.ok (.agg (bJ ⟨a,b,c⟩).toArray) w:=by kernel_rfl
theorem al8 (a b c:Int) (w:World):(Instr.build 115 #[(0,.int .i64 a),(1,.int .i64 b),(2,.int .i64 c)]).run prog w=.ok (.agg (bT ⟨a,b,c⟩).toArray) w:=by kernel_rfl
theorem KY {a b c:Int} (h:aW 1 nv (ints [a,b,c]) w):∃ q o cc,nv=.slice (some ⟨q,o,none⟩) 3 cc/\w.cell? ⟨q,o,none⟩=some (.int .i64 a)/\w.cell? ⟨q,o+1,none⟩=some (.int .i64 b)/\w.cell? ⟨q,o+2,none⟩=some (.int .i64 c):=by
 obtain ⟨q,o,cc,rfl,c0⟩:=Ky h (i:=0) rfl;obtain ⟨_,_,_,e1,c1⟩:=Ky h (i:=1) rfl;cases e1;obtain ⟨_,_,_,e2,c2⟩:=Ky h (i:=2) rfl;cases e2;exact ⟨q,o,cc,rfl,c0,c1,c2⟩
theorem akW (k:aj.Bs) (hk:k.length=32) (a b c:Int) (hr:Ro w0 F (aW 1 nv (ints [a,b,c]))) (h:Sat w0 w F) :
  Calls prog 191 #[.agg (bQ ⟨⟨k,[a,b,c]⟩,nv⟩).toArray] w (aN λv w'=>v=.agg (bJ ⟨a,b,c⟩).toArray/\Sat w0 w' F):=by
 obtain ⟨q,o,cc,rfl,_⟩:=KY (hr w h);have Hr:=uQ hr;have Hk:=uQ hk;clear hr hk;go_enter func191,ntmps191;go_wp2_with (with_reducible apply fC);refine ⟨fB h ah ah ?_⟩;intro b1 w1 h1;replace h1:Sat w0 w1 (qQ b1 k [a,b,c] (.slice (some ⟨q,o,none⟩) 3 cc)::F):=h1;go_wp2_with (with_reducible apply eG);refine ⟨eU I7 h1 rfl ?_⟩;intro b2 w2 h2;clear h h1;go_wp2_with fail;have h3:=h2.drew;clear h2;refine eF [12,13] (λw'=>w'.cell? ⟨b1,32,none⟩=some (.slice (some ⟨q,o,none⟩) 3 cc)/\w'.cell? ⟨q,o,none⟩=some (.int .i64 a)/\w'.cell? ⟨q,o+1,none⟩=some (.int .i64 b)/\w'.cell? ⟨q,o+2,none⟩=some (.int .i64 c)) au ?_
 have hG:World.cell? w2.drew ⟨b1,32,none⟩=some (.slice (some ⟨q,o,none⟩) 3 cc)/\World.cell? w2.drew ⟨q,o,none⟩=some (.int .i64 a)/\World.cell? w2.drew ⟨q,o+1,none⟩=some (.int .i64 b)/\World.cell? w2.drew ⟨q,o+2,none⟩=some (.int .i64 c):=by
  obtain ⟨_,_,_,e,c0⟩:=KY (Hr.o _ h3.drop.drop);cases e;exact ⟨h3.cellP aT 32 (CX (x:=⟨k,[a,b,c]⟩) Hk.o),c0⟩
 refine rP 0 ?_ (y:=dh);refine rt 1 (h:=?_);refine rP 2 ?_ (y:=iV);refine rt 3 (h:=?_);refine rP 4 ?_ (y:=dh);refine rt 5 (h:=?_);refine rP 6 ?_ (y:=iV);refine rt 7 (h:=?_);refine rP 8 ?_ (y:=dh);refine rt 9 (h:=?_);refine rP 10 ?_ (y:=iV);refine rt 11 (h:=?_);clear hG;refine rP 12 ?_ (y:=(I5 ay ay ay (λw=>ami a b c w)));refine cZ 13 ay au (λK hK=>?_);refine pI (cs':=(bJ ⟨a,b,c⟩).toArray) h3 ay ay ah bU bG au ah ?_;intro w4 h4;refine hK _ _ (.inl rfl) ?_;clear hK h3;refine dX au ?_;go_wp2_with fail;refine ⟨rfl,_,wY rfl h4 ah bK underlying205 rfl au,?_⟩;exact ⟨_,rfl,rfl,h4.drop.drop⟩
theorem akQ (k:aj.Bs) (hk:k.length=32) (a b c:Int):eH (fO (aj.zero32,Seg.aZ.zero)).toArray 0 (fO (k,⟨a,b,c⟩)).toArray.toList=(fO (k,⟨a,b,c⟩)).toArray:=by
 rw [abk _ _ (by rw [ad7,abA,lT (k,⟨a,b,c⟩) hk,lT (aj.zero32,Seg.aZ.zero) rfl]),ad7]
theorem akV (k:aj.Bs) (hk:k.length=32) (a b c:Int) (hr:Ro w0 F (aW 1 nv (ints [a,b,c]))) (h:Sat w0 w F) :
  Calls prog 189 #[.agg (bQ ⟨⟨k,[a,b,c]⟩,nv⟩).toArray] w (aN λv w'=>v=.agg (fO (k,⟨a,b,c⟩)).toArray/\Sat w0 w' F):=by
 obtain ⟨q,o,cc,rfl,_⟩:=KY (hr w h);have Hr:=uQ hr;have Hk:=uQ hk;have kX:=uQ (show (aB k).length=32 by rw [aP];exact hk);clear hr hk;go_enter func189,ntmps189;go_wp2_with (with_reducible apply fC);refine ⟨fB h ah ah ?_⟩;intro b1 w1 h1;replace h1:Sat w0 w1 (qQ b1 k [a,b,c] (.slice (some ⟨q,o,none⟩) 3 cc)::F):=h1;go_wp2_with (with_reducible apply eG);refine ⟨eU Nv h1 rfl ?_⟩;intro b2 w2 h2;clear h h1;go_wp2_with fail;have h3:=h2.drew;clear h2;refine eF [15,16] (λw'=>w'.cell? ⟨b1,32,none⟩=some (.slice (some ⟨q,o,none⟩) 3 cc)/\w'.cell? ⟨q,o,none⟩=some (.int .i64 a)/\w'.cell? ⟨q,o+1,none⟩=some (.int .i64 b)/\w'.cell? ⟨q,o+2,none⟩=some (.int .i64 c)/\w'.rangeAt b1 0 (aB k)) au ?_
 have hG:World.cell? w2.drew ⟨b1,32,none⟩=some (.slice (some ⟨q,o,none⟩) 3 cc)/\World.cell? w2.drew ⟨q,o,none⟩=some (.int .i64 a)/\World.cell? w2.drew ⟨q,o+1,none⟩=some (.int .i64 b)/\World.cell? w2.drew ⟨q,o+2,none⟩=some (.int .i64 c)/\World.rangeAt w2.drew b1 0 (aB k):=by
  obtain ⟨_,_,_,e,c0,c1,c2⟩:=KY (Hr.o _ h3.drop.drop);cases e;exact ⟨h3.cellP aT 32 (CX (x:=⟨k,[a,b,c]⟩) Hk.o),c0,c1,c2,λj z hj=>by rw [aeE];exact h3.cellP aT j (L6 (x:=⟨k,[a,b,c]⟩) hj)⟩
 refine rP 0 ?_ (y:=dh);refine gJ 1 ay au bP (lM (b:=b1) (o:=0) (aB k) ah underlying34 rfl yJ0 (λw hw=>hw.2.2.2.2)) aQ gQ ?_;refine rP 2 ?_ (y:=dh);refine rt 3 (h:=?_);refine rP 4 ?_ (y:=iV);refine rt 5 (h:=?_);refine rP 6 ?_ (y:=dh);refine rt 7 (h:=?_);refine rP 8 ?_ (y:=iV);refine rt 9 (h:=?_);refine rP 10 ?_ (y:=dh);refine rt 11 (h:=?_);refine rP 12 ?_ (y:=iV);refine rt 13 (h:=?_);clear hG;refine rP 14 ?_ (y:=(I5 ay ay ay (λw=>al8 a b c w)));refine rP 15 ?_ (y:=(aol ay ay (λw=>acf k Hk.o ⟨a,b,c⟩ w)));refine cZ 16 ay au (λK hK=>?_);refine pI (cs':=(fO (k,⟨a,b,c⟩)).toArray) h3 ay ay (akQ k Hk.o a b c) bU (by show 0+(fO (k,⟨a,b,c⟩)).toArray.size<=35;rw [abA,lT _ Hk.o];decide) (by show _=some (fO (k,⟨a,b,c⟩)).toArray.size;rw [abA,lT _ Hk.o];kernel_rfl) (by show (fO (k,⟨a,b,c⟩)).toArray.toList.all _=true;rw [ad7];exact GX _) ?_;intro w4 h4
 refine hK _ _ (.inl rfl) ?_;clear hK h3;refine dX au ?_;go_wp2_with fail;refine ⟨rfl,_,wY rfl h4 ah bK underlying248 rfl (by rw [abA,lT _ Hk.o];kernel_rfl),?_⟩;exact ⟨_,rfl,rfl,h4.drop.drop⟩
theorem afH (us:List Rep.Use) (vs:List RV) (hus:vs.map (·.x)=us.map Rep.jr) (hl:us.length<=65536) (hr:Ro w0 F (aW 33 lv (vs.flatMap bQ))) (he:∀ r∈vs,uD w0 F r) (h:Sat w0 w F) :
  Calls prog 190 #[lv,.func (.func 191) #[] #[]] w (aN λv w'=>Sat w0 w' (aC 205 3 v (us.flatMap bJ)::F)):=by
 obtain ⟨la,lc,rfl⟩:=iP (λr hr=>lV r (he r hr).key) (hr w h) aG;have hlen:vs.length=us.length:=by have:=aeO List.length hus;rwa [abl,abl]at this
 have Hr:=uQ hr;have Hl:=uQ hl;have He:=uQ he;have uy:=uQ hus;have Hlen:=uQ hlen;clear hr hl he hus;rw [hlen];clear hlen;go_enter func190,ntmps190;go_wp2_with fail
 go_loopg [5,10] us.length (λg ov iq wr=>∃ (i:Nat) (o2:Value),g=us.length-i/\i<=us.length/\o2=ov/\iq=.int .i64 i/\Sat w0 wr (aC 205 3 o2 ((us.take i).flatMap bJ)::F))
 case atStart=>exact ⟨0,_,rfl,ad4 _,rfl,rfl,Sat.dO.2 h⟩
 case round=>
  obtain ⟨i,ov,rfl,hi,rfl,rfl,hS⟩:=hrel;clear h;by_cases hlt:i<us.length
  ·as_aux_lemma=>
    have c3:(i:Int)<(us.length:Int):=oQ;have hwi:IntKind.i64.wrap ((i:Int)+1)=(i:Int)+1:=acO _ (by have:=Hl.o;omega);obtain ⟨r,hx⟩:∃ r,vs[i]?=some r:=⟨_,aaJ (by rw [Hlen.o];exact hlt)⟩;obtain ⟨u,hu⟩:∃ u,us[i]?=some u:=⟨_,aaJ hlt⟩;have qN:r.x=Rep.jr u:=by
     have h1:(vs.map (·.x))[i]?=some r.x:=by rw [ad1,hx];rfl
     rw [uy.o,ad1,hu]at h1;exact (aiJ h1).symm
    obtain ⟨bk,off,c',hsv,hcell⟩:=iL (f:=bQ) (k:=33) (λr hr=>lV r (He.o r hr).key) (Hr.o _ hS.drop) hx aG;rw [Hlen.o]at hsv;cases hsv;have hro:=He.o r (acr hx);have dP:=uQ (show us.take (i+1)=us.take i++[u] from aO.lX hu)
    have lq:=uQ (show ((us.take i).flatMap bJ).length<=2147483648 from by
     rw [iK (λu _=>tN u),adt];have:=Hl.o;omega)
    obtain ⟨rx,nv⟩:=r;dsimp only at qN;subst qN;have H1:=uQ hro;have aS:=uQ hlt;obtain ⟨na,nn,nc,wJ,_,_⟩:=hro.rd _ hS.drop;dsimp only at wJ;subst wJ;clear hx hu hlt hi hro
    go_wp2_with (first
     |((with_reducible refine bC ⟨?_⟩);refine iD (b:=bk) (o:=off+i*33) (bQ ⟨Rep.jr u,.slice na nn nc⟩) ah hcell underlying276 rfl zA0 ?_)
     |(with_reducible apply eG))
    refine ⟨eU Aj hS rfl ?_⟩;intro b8 w8 h8;clear hS hcell;go_wp2_with (with_reducible apply bW);refine ⟨fG (bQ ⟨Rep.jr u,.slice na nn nc⟩).toArray h8 ah ah (by rw [lF _ H1.o.key];rfl) bU zB0 EH ?_⟩;intro w9 h9;clear h8;go_wp2_with ((with_reducible refine bC ⟨?_⟩);refine iC h9 ah aK underlying276 rfl zB0 ?_);refine (akW aj.zero32 rfl u.seg u.size u.live (Ro.os H1.o.rd) h9).mono ?_;rintro ee w10 ⟨v,rfl,rfl,h10⟩;clear h9
    go_wp2_with (first
     |((with_reducible refine jh ⟨?_⟩);refine jg (e:=205) (sz:=3) (dF:=24) (cs:=(bJ u).toArray) au h10 ah rfl ah bG ?_;intro bN wN hN)
     |(with_reducible apply fZ))
    refine ⟨jF (cs:=(bJ u).toArray) 205 3 24 au hN ah ah (aU (aU aK)) aK ah bG ah lq.o (by exact Nat.le_of_ble_eq_true ah) bG rfl ?_⟩;intro b' n' c2 kC fP;go_wp2_with fail
    go_roundg (us.length-(i+1))
    case measure=>have:=aS.o;omega
    case rel=>exact ⟨i+1,_,rfl,ad8 aS.o,rfl,by first|rfl|go_num,by rw [dP.o,aeB,aen,aiq,aei];exact fP.sb⟩
  ·have c3:¬ (i:Int)<(us.length:Int):=by omega
   have hi2:i=us.length:=oQ;subst hi2;rw [aeH]at hS;clear hi hlt;go_wp2_with fail;go_ret;exact ⟨_,rfl,hS⟩
theorem afG (us:List (aj.Bs×Seg.aZ)) (vs:List RV) (hus:vs.map (·.x)=us.map Rep.jm) (hl:us.length<=65536) (hk:∀ q∈us,q.1.length=32) (hr:Ro w0 F (aW 33 lv (vs.flatMap bQ))) (he:∀ r∈vs,uD w0 F r) (h:Sat w0 w F) :
  Calls prog 188 #[lv,.func (.func 189) #[] #[]] w (aN λv w'=>Sat w0 w' (aC 248 35 v (us.flatMap fO)::F)):=by
 obtain ⟨la,lc,rfl⟩:=iP (λr hr=>lV r (he r hr).key) (hr w h) aG;have hlen:vs.length=us.length:=by have:=aeO List.length hus;rwa [abl,abl]at this
 have Hr:=uQ hr;have Hl:=uQ hl;have He:=uQ he;have uy:=uQ hus;have Hlen:=uQ hlen;have Hk:=uQ hk;clear hr hl he hus hk;rw [hlen];clear hlen;go_enter func188,ntmps188;go_wp2_with fail
 go_loopg [5,10] us.length (λg ov iq wr=>∃ (i:Nat) (o2:Value),g=us.length-i/\i<=us.length/\o2=ov/\iq=.int .i64 i/\Sat w0 wr (aC 248 35 o2 ((us.take i).flatMap fO)::F))
 case atStart=>exact ⟨0,_,rfl,ad4 _,rfl,rfl,Sat.dO.2 h⟩
 case round=>
  obtain ⟨i,ov,rfl,hi,rfl,rfl,hS⟩:=hrel;clear h;by_cases hlt:i<us.length
  ·as_aux_lemma=>
    have c3:(i:Int)<(us.length:Int):=oQ;have hwi:IntKind.i64.wrap ((i:Int)+1)=(i:Int)+1:=acO _ (by have:=Hl.o;omega);obtain ⟨r,hx⟩:∃ r,vs[i]?=some r:=⟨_,aaJ (by rw [Hlen.o];exact hlt)⟩;obtain ⟨u,hu⟩:∃ u,us[i]?=some u:=⟨_,aaJ hlt⟩;have qN:r.x=Rep.jm u:=by
     have h1:(vs.map (·.x))[i]?=some r.x:=by rw [ad1,hx];rfl
     rw [uy.o,ad1,hu]at h1;exact (aiJ h1).symm
    obtain ⟨bk,off,c',hsv,hcell⟩:=iL (f:=bQ) (k:=33) (λr hr=>lV r (He.o r hr).key) (Hr.o _ hS.drop) hx aG;rw [Hlen.o]at hsv;cases hsv;have hro:=He.o r (acr hx);have dP:=uQ (show us.take (i+1)=us.take i++[u] from aO.lX hu)
    have lq:=uQ (show ((us.take i).flatMap fO).length<=2147483648 from by
     rw [iK (λu hu=>lT u (Hk.o u (ae2 hu))),adt];have:=Hl.o;omega)
    have rD:=Hk.o u (acr hu);obtain ⟨rx,nv⟩:=r;dsimp only at qN;subst qN;have H1:=uQ hro;have aS:=uQ hlt;obtain ⟨na,nn,nc,wJ,_,_⟩:=hro.rd _ hS.drop;dsimp only at wJ;subst wJ;clear hx hu hlt hi hro
    go_wp2_with (first
     |((with_reducible refine bC ⟨?_⟩);refine iD (b:=bk) (o:=off+i*33) (bQ ⟨Rep.jm u,.slice na nn nc⟩) ah hcell underlying276 rfl zA0 ?_)
     |(with_reducible apply eG))
    refine ⟨eU Aj hS rfl ?_⟩;intro b8 w8 h8;clear hS hcell;go_wp2_with (with_reducible apply bW);refine ⟨fG (bQ ⟨Rep.jm u,.slice na nn nc⟩).toArray h8 ah ah (by rw [lF _ H1.o.key];rfl) bU zB0 EH ?_⟩;intro w9 h9;clear h8;go_wp2_with ((with_reducible refine bC ⟨?_⟩);refine iC h9 ah aK underlying276 rfl zB0 ?_);refine (akV u.1 rD u.2.seg u.2.at_ u.2.size (Ro.os H1.o.rd) h9).mono ?_;rintro ee w10 ⟨v,rfl,rfl,h10⟩;clear h9
    go_wp2_with (first
     |((with_reducible refine jh ⟨?_⟩);refine jg (e:=248) (sz:=35) (dF:=56) (cs:=(fO u).toArray) au h10 ah rfl (by rw [abA,lT _ rD]) bG ?_;intro bN wN hN)
     |(with_reducible apply fZ))
    refine ⟨jF (cs:=(fO u).toArray) 248 35 56 au hN ah ah (aU (aU aK)) aK (by rw [abA,lT _ rD]) bG (by rw [ad7];exact GX u) lq.o (by rw [abA,lT _ rD];decide) bG rfl ?_⟩;intro b' n' c2 kC fP;go_wp2_with fail
    go_roundg (us.length-(i+1))
    case measure=>have:=aS.o;omega
    case rel=>exact ⟨i+1,_,rfl,ad8 aS.o,rfl,by first|rfl|go_num,by rw [dP.o,aeB,aen,aiq,aei];exact fP.sb⟩
  ·have c3:¬ (i:Int)<(us.length:Int):=by omega
   have hi2:i=us.length:=oQ;subst hi2;rw [aeH]at hS;clear hi hlt;go_wp2_with fail;go_ret;exact ⟨_,rfl,hS⟩
theorem afW (us:List Rep.Use) (hok:aO.Ok 3 false (us.map Rep.jr)) (hr:RS w0 F bv (aO.book Xx.sum aO.uS false (us.map Rep.jr))) (h:Sat w0 w F) :
  Calls prog 145 #[bv] w (aN λv w'=>∃ lv,v=.tuple #[lv,errno 0]/\Sat w0 w' (aC 205 3 lv (us.flatMap bJ)::F)):=by
 have hn:us.length<=65536:=by have:=hok.len;rwa [abl]at this
 have Hr:=uQ hr;have bI:=uQ hok;have Hn:=uQ hn;clear hr hok hn;go_enter func145,ntmps145;go_wp2_with fail;refine (ads h).mono ?_;rintro ee w1 ⟨v,rfl,rfl,h1⟩;clear h;go_wp2_with fail;refine (afT ⟨#[72,79,65,82,68,85,83,69]⟩ aO.uS rfl rfl 3 aG aG _ bI.o (λr hr=>by obtain ⟨u,_,rfl⟩:=adu.1 hr;rfl) Hr.o h1).mono ?_;rintro ee w2 ⟨v,rfl,vs,lv,rfl,hvs,h2⟩;have lY:=uQ hvs
 have dQ:=uQ (show ∀ r∈vs,r.x.key.length=32/\0<r.x.nums.length from λr hr=>by
  have h1:r.x∈us.map Rep.jr:=by rw [<-hvs];exact apa hr
  have:=bI.o.row r.x h1;exact ⟨this.key,by rw [this.len];decide⟩)
 clear h1 hvs;go_wp2_with fail;refine (afH us vs lY.o Hn.o (λw hw=>Sat.rd hw) (λr hr=>(Es hr (dQ.o r hr).1 (dQ.o r hr).2).sub jS) h2).mono ?_;rintro ee w3 ⟨v,rfl,h3⟩;clear h2;go_wp2_with fail
 go_ret2
 exact ⟨_,rfl,_,rfl,h3.sb⟩
theorem afU (us:List (aj.Bs×Seg.aZ)) (hk:∀ q∈us,q.1.length=32) (hok:aO.Ok 3 true (us.map Rep.jm)) (hr:RS w0 F bv (aO.book Xx.sum aO.uP true (us.map Rep.jm))) (h:Sat w0 w F) :
  Calls prog 144 #[bv] w (aN λv w'=>∃ lv,v=.tuple #[lv,errno 0]/\Sat w0 w' (aC 248 35 lv (us.flatMap fO)::F)):=by
 have hn:us.length<=65536:=by have:=hok.len;rwa [abl]at this
 have Hr:=uQ hr;have bI:=uQ hok;have Hn:=uQ hn;have Hk:=uQ hk;clear hr hok hn hk;go_enter func144,ntmps144;go_wp2_with fail;refine (ZC h).mono ?_;rintro ee w1 ⟨v,rfl,rfl,h1⟩;clear h;go_wp2_with fail;refine (afV ⟨#[72,79,65,82,68,73,68,88]⟩ aO.uP rfl rfl 3 aG aG _ bI.o Hr.o h1).mono ?_;rintro ee w2 ⟨v,rfl,vs,lv,rfl,hvs,h2⟩;have lY:=uQ hvs
 have dQ:=uQ (show ∀ r∈vs,r.x.key.length=32/\0<r.x.nums.length from λr hr=>by
  have h1:r.x∈us.map Rep.jm:=by rw [<-hvs];exact apa hr
  have:=bI.o.row r.x h1;exact ⟨this.key,by rw [this.len];decide⟩)
 clear h1 hvs;go_wp2_with fail;refine (afG us vs lY.o Hn.o Hk.o (λw hw=>Sat.rd hw) (λr hr=>(Es hr (dQ.o r hr).1 (dQ.o r hr).2).sub jS) h2).mono ?_;rintro ee w3 ⟨v,rfl,h3⟩;clear h2;go_wp2_with fail
 go_ret2
 exact ⟨_,rfl,_,rfl,h3.sb⟩
end
theorem OU {P:Program}{ops:Array Oper}{Q:Exit->Act->World->Prop}{a:Act}{w:World}{b:Bool} (id:Nat) (h:Stop ((Code.region id ops b).wp P Q a w)):(Code.region id ops b).wp P Q a w:=h.o
section
variable {bg:List (Value×List Int)}{q:Value×List Int}{mm:aj.Bs->Option Rep.Kpv}{mk:aj.Bs->Option xB.Kv}{iv:Value}
end
section
variable {q d i:Nat}{D:ak}{tv:Value}
theorem agH (t:List Int) (htl:t.length<=1048576) (hL:L.Ok) (hM:M.Ok K) (hK:K<=1048576) (hr:Ro w0 F (aW 1 tv (ints t))) (h:Sat w0 w (aV p m L::aI m M::F)) :
  Calls prog 49 #[ptr p,tv] w (aN λv w'=>v=errno (Seg.Log.drop t t.length L M).2/\Sat w0 w' (aV p m (Seg.Log.drop t t.length L M).1.1::aI m (Seg.Log.drop t t.length L M).1.2::F)):=by
 obtain ⟨ta,tc,rfl⟩:=QM (hr w h.drop.drop);have Hr:=uQ hr;have uq:=uQ htl;have HK:=uQ hK;have w1:IntKind.i64.wrap ((t.length:Int)-1)=(t.length:Int)-1:=acO _ oQ;have H0:=uQ (show L.Ok/\M.Ok K from ⟨hL,hM⟩);clear hr htl hK hL hM;go_enter func49,ntmps49;go_wp2_with fail
 go_loopg [5] t.length (λg iq wr=>∃ (k:Nat) (L':Seg.Log) (M':ak),g=0+k/\k<=t.length/\iq=.int .i64 ((k:Int)-1)/\Seg.Log.drop t t.length L M=Seg.Log.drop t k L' M'/\L'.Ok/\M'.Ok (K+(t.length-k))/\Sat w0 wr (aV p m L'::aI m M'::F))
 case atStart=>exact ⟨t.length,L,M,(aeE _).symm,ab1 _,rfl,rfl,H0.o.1,H0.o.2.mono (apB _ _),h⟩
 case round=>
  obtain ⟨k,L',M',rfl,hk,rfl,he,hL,hM,hS⟩:=hrel;clear h;cases k with
  |zero=>
   have c1:¬ (((0:Nat):Int)-1)>=0:=by decide
   have He:=uQ he;have HM:=uQ hM;have HL:=uQ hL;clear he hL hM hk;by_cases ht:t=[]
   ·have hb:((t.length:Int)==0)=true:=by rw [ht];rfl
    have Hf:=uQ (Seg.drop_nil (L:=L') (M:=M') ht);clear ht;go_wp2_with fail;go_ret;rw [He.o,Hf.o];exact ⟨_,rfl,rfl,hS⟩
   ·have hb:((t.length:Int)==0)=false:=by
     rw [ad3];intro e;exact ht (ae9 oQ)
    have Hf:=uQ (Seg.drop_end (L:=L') (M:=M') ht);clear ht;go_wp2_with fail;refine (ajp HM.o hS).mono ?_;rintro ee w2 ⟨v,rfl,rfl,hS2⟩;clear hS;go_wp2_with fail;go_ret;rw [He.o,Hf.o];exact ⟨_,rfl,rfl,hS2⟩
  |succ k=>
   have e1:((k+1:Nat):Int)-1=(k:Int):=oQ;rw [e1];have c1:(k:Int)>=0:=oQ;have c2:(k:Int)<(t.length:Int):=oQ;have w2:IntKind.i64.wrap ((k:Int)-1)=(k:Int)-1:=acO _ (by have:=uq.o;omega);obtain ⟨s,hs⟩:∃ s,t[k]?=some s:=⟨_,aaJ oQ⟩;have hgd:t.getD k 0=s:=by rw [List.getD,hs];rfl
   obtain ⟨bk,off,cc,e2,c0⟩:=Em (Hr.o _ hS.drop.drop) hs;cases e2;have hrm:=ajn hL hM (by have:=HK.o;have:=uq.o;omega) s hS;have He:=uQ he;have Hk:=uQ hk;have Qw:=hL.remove M' s;have Qx:=Seg.abt (L:=L') hM s;have N9:=uQ (λ(h0:(L'.remove M' s).2=0)=>Seg.agI (t:=t) (L:=L') (M:=M') (k:=k) (by rw [hgd];exact h0));have Hno:=uQ (λ(h0:(L'.remove M' s).2≠0)=>Seg.agJ (t:=t) (L:=L') (M:=M') (k:=k) (by rw [hgd];exact h0));rw [hgd]at N9 Hno;clear he hk hs hgd hL hM hS;generalize L'.remove M' s=r at *
   obtain ⟨⟨L2,M2⟩,e⟩:=r;dsimp only at hrm Qw Qx N9 Hno;have aey:=uQ Qw;have aeA:=uQ Qx;clear Qw Qx;go_wp2_with fail;refine hrm.mono ?_;rintro ee w3 ⟨v,rfl,rfl,hS3⟩;clear hrm c0;by_cases h0:e=0
   ·subst h0;have Hf:=uQ (N9.o rfl);go_wp2_with fail
    go_roundg (0+k)
    case measure=>omega
    case rel=>exact ⟨k,L2,M2,rfl,Nat.le_of_succ_le Hk.o,by first|rfl|go_num,He.o.trans Hf.o,aey.o,aeA.o.mono zJ0,hS3⟩
   ·have hb:(e != 0)=true:=by rw [ahV];exact h0
    have hb2:(e==0)=false:=by rw [ad3];exact h0
    have Hf:=uQ (Hno.o h0);clear h0;go_wp2_with fail;go_ret;rw [He.o,Hf.o];exact ⟨_,rfl,rfl,hS3⟩
end
abbrev iT (r m:Nat) (seg:Int) (p ps pn:Nat) (d:Bool):aF:=pt r (.cells #[ptr m,.int .i64 seg,ptr p,ptr ps,ptr pn,.bool d] 117 (0,0))
section
variable {limit:Int}
theorem aku:tH prog 117=some [(0,1),(1,1),(2,1),(3,1),(4,1),(5,1)]:=by kernel_rfl
theorem aov:kD prog 117=some (.agg #[.pointer none,.int .i64 0,.pointer none,.pointer none,.pointer none,.bool false]):=by kernel_rfl
theorem ama (seg:Int) (w:World):(Instr.build 117 #[(0,ptr m),(1,.int .i64 seg),(2,ptr p),(3,ptr ps),(4,ptr pn)]).run prog w=.ok (.agg #[ptr m,.int .i64 seg,ptr p,ptr ps,ptr pn,.bool false]) w:=
 apA (P:=prog) [(0,ptr m),(1,.int .i64 seg),(2,ptr p),(3,ptr ps),(4,ptr pn)] aku aov (by
  intro q hq;simp only [ad9,aiR,apW]at hq;rcases hq with rfl|rfl|rfl|rfl|rfl
  ·exact ⟨0,rfl,by show 0+1<=6;decide⟩
  ·exact ⟨1,rfl,by show 1+1<=6;decide⟩
  ·exact ⟨2,rfl,by show 2+1<=6;decide⟩
  ·exact ⟨3,rfl,by show 3+1<=6;decide⟩
  ·exact ⟨4,rfl,by show 4+1<=6;decide⟩) w
theorem alA {ι:Type}{N:Int} (mi:ι->aj.Bs->Option Seg.aZ) (Bf:ι->Nat) (uf:ι->List Rep.Use) (Q:ι->Prop) (h1:128<=limit) (h2:limit<=1048576) (hM:M.Ok K) (hK:K<=1048576) (ha:Seg.alive M=0) (hB:∀ x,Q x->Bf x<=14000000)
  (hfd:∀ (p b5:Nat) (w':World),Sat w0 w' (aV p m (Seg.fresh M limit)::aI m M::pt b5 (.cells (dW Rep.dI.zero) 36 (0,0))::F)->Calls prog 48 #[ptr p,ptr m] w' (aN λv w''=>∃ (ps pi:Nat) (uv tv:Value) (x:ι),v=.tuple #[ptr ps,.agg (dW Rep.dI.zero),errno 0]/\(∃ a c,tv=.slice a 0 c)/\Q x /\
   Sat w0 w'' (bZ ps N pi uv tv::bf pi (mi x) (Bf x)::aC 205 3 uv ((uf x).flatMap bJ)::aV p m (Seg.fresh M limit)::aI m M::pt b5 (.cells (dW Rep.dI.zero) 36 (0,0))::F)))
  (h:Sat w0 w (aI m M::F)) :
  Calls prog 10 #[ptr m,.int .i64 limit] w (aN λv w'=>∃ (r p ps pi pn:Nat) (uv:Value) (x:ι),v=.tuple #[ptr r,.agg (dW Rep.dI.zero),errno 0]/\Q x /\
   Sat w0 w' (iT r m limit p ps pn false::bZ ps N pi uv (.slice none 0 0)::bf pn (mi x) (Bf x)::bf pi (mi x) (Bf x)::aC 205 3 uv ((uf x).flatMap bJ)::aV p m (Seg.fresh M limit)::aI m M::F)):=by
 have HL:=uQ (Seg.xZ hM limit h1 h2);have Hop:=uQ (λ(w':World) (R:List aF) (hw:Sat w0 w' (aI m M::R))=>Lh hM limit hw ha h1 h2);generalize Seg.fresh M limit=L at *
 have HM:=uQ hM;have HK:=uQ hK;have HB:=uQ hB;have Hfd:=uQ hfd;clear h1 h2 hM hK ha hB hfd;go_enter func10,ntmps10;go_wp2_with (with_reducible apply eG);refine ⟨eU pY h rfl ?_⟩;intro b5 w5 h5;go_wp2_with fail;refine (Hop.o _ _ (h5.sb:Sat w0 w5 (aI m M::pt b5 (.cells (dW Rep.dI.zero) 36 (0,0))::F))).mono ?_;rintro ee w6 ⟨v,rfl,p,rfl,h6⟩;clear h h5;go_wp2_with fail;refine (Hfd.o p b5 _ h6).mono ?_;rintro ee w7 ⟨v,rfl,ps,pi,uv,tv,x,rfl,⟨ta,tc,rfl⟩,hq,h7⟩;have Hq:=uQ hq;have HBx:=uQ (HB.o x hq);clear h6 hq;go_wp2_with (with_reducible apply eG);refine ⟨eU pY h7 rfl ?_⟩;intro b10 w8 h8;clear h7;go_wp2_with (with_reducible apply bW);refine ⟨fG (dW Rep.dI.zero) h8 ah ah ah bU au ah ?_⟩;intro w9 h9;clear h8
 replace h9:Sat w0 w9 (aV p m L::aI m M::bZ ps N pi uv (.slice ta 0 tc)::bf pi (mi x) (Bf x)::aC 205 3 uv ((uf x).flatMap bJ)::pt b5 (.cells (dW Rep.dI.zero) 36 (0,0))::F):=h9.sb;go_wp2_with ((with_reducible refine bC ⟨?_⟩);refine eY aQ ah bK bG ay au ?_);have hdr:=agH (tv:= .slice ta 0 tc) [] (ad4 _) HL.o HM.o HK.o (λw _=>SQ 1 0 w |> λ_=>⟨ta,0,tc,rfl,rfl,λj x hj=>by cases hj⟩) h9;rw [show ([]:List Int).length=0 from rfl,Seg.drop_nil rfl]at hdr;refine hdr.mono ?_;rintro ee w10 ⟨v,rfl,rfl,h10⟩;clear hdr h9;go_wp2_with (with_reducible apply bW);refine ⟨jM (cs':=#[.int .i64 N,ptr pi,uv,.slice none 0 0]) h10 ah ah ah anF bG au ah ?_⟩;intro jZ h11;replace h11:Sat w0 jZ (bf pi (mi x) (Bf x)::bZ ps N pi uv (.slice none 0 0)::aV p m L::aI m M::aC 205 3 uv ((uf x).flatMap bJ)::pt b5 (.cells (dW Rep.dI.zero) 36 (0,0))::F):=h11.sb;clear h10
 go_wp2_with ((with_reducible refine bC ⟨?_⟩);refine eY h11 ah aT bG ay au ?_);refine (Xk HBx.o h11).mono ?_;rintro ee w12 ⟨v,rfl,pn,rfl,h12⟩;clear h11
 go_wp2_with (first
  |((with_reducible apply ac0);refine ⟨?_⟩;first|refine EU ah (ama limit) ?_|refine EU ah LV ?_)
  |((with_reducible refine fC ⟨?_⟩);refine fB h12 ah ah ?_;intro r ku h13)
  |(with_reducible apply bW))
 refine ⟨fG (dW Rep.dI.zero) (h13.sb:Sat w0 ku (pt b5 (.cells (dW Rep.dI.zero) 36 (0,0))::iT r m limit p ps pn false::bZ ps N pi uv (.slice none 0 0)::bf pn (mi x) (Bf x)::bf pi (mi x) (Bf x)::aC 205 3 uv ((uf x).flatMap bJ)::aV p m L::aI m M::F)) ah ah ah bU au ah ?_⟩;intro kC fP;go_wp2_with fail;refine ⟨rfl,_,zX rfl fP ah aK underlying36 rfl au,_,rfl,r,p,ps,pi,pn,uv,x,rfl,Hq.o,fP.drop⟩
theorem LM {seg:Int}{d:Bool} (h:Sat w0 w (iT r m seg p ps pn d::F)):Calls prog 68 #[ptr r] w (aN λv w'=>v=.bool true/\w=w'):=by
 have e2:w.cell? ⟨r,2,none⟩=some (.pointer (some ⟨p,0,none⟩)):=h.cellAt 2 _ rfl;go_enter func68,ntmps68;go_wp2;go_ret;exact ⟨_,rfl,rfl,rfl⟩
end
end Go.Proofs.Y
namespace Go.Tab
end Go.Tab
namespace Go.Proofs.Y
open Go.ak
theorem alp (h:Sat w0 w (iT r m seg p ps pn d::bf pn mp B::F)) :
  Calls prog 53 #[ptr r] w (aN λv w'=>∃ t:Tab.Tb Seg.aZ,(t.Ok/\t.Is mp)/\v=.int .i64 t.n/\w=w'):=by
 have hok:=LM h;have hle:=ajg (h.sb:Sat w0 w (bf pn mp B::iT r m seg p ps pn d::F));have e4:w.cell? ⟨r,4,none⟩=some (.pointer (some ⟨pn,0,none⟩)):=h.cellAt 4 _ rfl;clear h;go_enter func53,ntmps53;go_wp2_with fail;refine hok.mono ?_;rintro e w1 ⟨v,rfl,rfl,rfl⟩;go_wp2_with fail;refine hle.mono ?_;rintro e w2 ⟨v,rfl,t,ht,rfl,rfl⟩;go_wp2_with fail;go_ret;exact ⟨_,rfl,t,ht,rfl,rfl⟩
theorem alI (hB:B<=13000000) (h:Sat w0 w (iT r m seg p ps pn d::bf pn mp B::F)) :
  Calls prog 51 #[ptr r] w (aN λv w'=>∃ kv:List (aj.Bs×Seg.aZ),(Tab.Lists mp kv/\(∀ q∈kv,q.1.length=32)/\kv.length<=B)/\Sat w0 w' (aC 34 32 v (kv.flatMap λq=>aB q.1)::iT r m seg p ps pn d::bf pn mp B::F)):=by
 have e4:w.cell? ⟨r,4,none⟩=some (.pointer (some ⟨pn,0,none⟩)):=h.cellAt 4 _ rfl;have hok:=LM h;have hks:=ZI hB (h.sb:Sat w0 w (bf pn mp B::iT r m seg p ps pn d::F));clear h;go_enter func51,ntmps51;go_wp2_with fail;refine hok.mono ?_;rintro ee w1 ⟨v,rfl,rfl,rfl⟩;go_wp2_with fail;refine hks.mono ?_;rintro ee w2 ⟨v,rfl,kv,hkv,h2⟩;have sH:=uQ hkv;clear hkv;go_wp2_with fail;go_ret;exact ⟨_,rfl,kv,⟨sH.o.1,by intros;exact sH.o.2.1 (_,_) aQ,sH.o.2.2⟩,h2.sb⟩
theorem akM {a b:Array Value} (h:a.size=b.size):eH a 0 b.toList=b:=by
 apply rY;rw [mV _ _ _ (by rw [ad6];omega),afC,aeV,aeE,aeI (by rw [ad6,ad6];omega),aei]
theorem alH (hB:B<=268435000) (hk:k.length=32) (pl:Seg.aZ) (hm:mp k=some pl) (hH:Ro w0 F Half) (hL:L.Ok) (hM:M.Ok K) (h1 : -9223372036854775808<=pl.at_/\pl.at_<=9223372036854775807) (h2 : -9223372036854775808<=pl.size/\pl.size<=9223372036854775807) (data:aj.Bs) (hdl:data.length<=140737488355328) (hr:L.read M pl=(⟨0,k,data⟩,0)) (h:Sat w0 w (iT r m seg p ps pn d::bf pn mp B::aV p m L::aI m M::F)) :
  Calls prog 52 #[ptr r,.agg (aB k).toArray] w (aN λv w'=>∃ bv a n c,v=.tuple #[bv,errno 0]/\bv=.slice a n c/\Sat w0 w' (aY bv data::iT r m seg p ps pn d::bf pn mp B::aV p m L::aI m M::F)):=by
 have Hk:=uQ hk;have kX:=uQ (show (aB k).length=32 by rw [aP,hk]);have HT:=uQ (λ(w':World) (R:List aF) (hw:Sat w0 w' (bf pn mp B::R))=>Gj hB hk hw);rw [hm,Option.getD_some,Option.isSome_some]at HT;have HH:=uQ hH;have HR:=uQ (λ(w':World) (R:List aF) (hh:Ro w0 R Half) (hw:Sat w0 w' (aV p m L::aI m M::R))=>ajm hh hL hM pl h1 h2 hw);rw [hr]at HR;have qC:=uQ hdl;clear hk hB hm hH hL hM h1 h2 hr hdl;go_enter func52,ntmps52;go_wp2_with (with_reducible apply fC);refine ⟨fB h ay ay ?_⟩;intro b3 w3 h3;have h4:Sat w0 w3 (iT r m seg p ps pn d::pt b3 (.cells (aB k).toArray 34 (0,0))::bf pn mp B::aV p m L::aI m M::F):=h3.sb;clear h h3;go_wp2_with fail;refine (LM h4).mono ?_;rintro ee w5 ⟨v,rfl,rfl,rfl⟩;go_wp2_with fail;have h5:=h4.drew;clear h4;refine eF [5,6,7,8,10,11] (λw'=>w'.cell? ⟨r,4,none⟩=some (.pointer (some ⟨pn,0,none⟩))/\w'.rangeAt b3 0 (aB k)) au ?_
 have BN:∀ (w':World) (R:List aF),Sat w0 w' (iT r m seg p ps pn d::pt b3 (.cells (aB k).toArray 34 (0,0))::R)->w'.cell? ⟨r,4,none⟩=some (.pointer (some ⟨pn,0,none⟩))/\w'.rangeAt b3 0 (aB k):=λw' R hw=>⟨hw.cellP aK 4 rfl,λj z hj=>by rw [aeE];exact hw.cellP aT j zN0⟩;have Am:=uQ BN;have hG:=BN _ _ h5;clear BN;refine rP 0 ?_ (y:=bD);refine rP 1 ?_ (y:=iG);refine rP 2 ?_ (y:=dh);refine rt 3 (h:=?_);refine gJ 4 ay au bP (lM (b:=b3) (o:=0) (aB k) ah underlying34 rfl yJ0 (λw hw=>hw.2)) aQ gQ ?_;clear hG;refine Io 5 9 ay ay au (λK hK=>?_) (λK hK=>?_)
 focus
  (refine jB au ay ay ?_)
  refine (HT.o _ _ (h5.sb:Sat w0 _ (bf pn mp B::iT r m seg p ps pn d::pt b3 (.cells (aB k).toArray 34 (0,0))::aV p m L::aI m M::F))).mono ?_;rintro ee w6 ⟨v,rfl,rfl,h6⟩;refine hK _ _ (.inl rfl) ?_;clear hK h5;refine rP 6 ?_ (y:=bD);refine rP 7 ?_ (y:=(nU ay bY));refine rP 8 ?_ (y:=(nU ay bY));refine cZ 9 ay au (λK hK=>?_);refine zn (yP) h6 rfl ?_;intro b6 w7 h7;refine hK _ _ (.inr (.inl (Am.o _ _ (h7.sb:Sat w0 w7 (iT r m seg p ps pn d::pt b3 (.cells (aB k).toArray 34 (0,0))::pt b6 (.cells (bT Seg.aZ.zero).toArray 115 (0,0))::bf pn mp B::aV p m L::aI m M::F))))) ?_;clear hK h6;have h8:Sat w0 w7 (pt b6 (.cells (bT Seg.aZ.zero).toArray 115 (0,0))::iT r m seg p ps pn d::pt b3 (.cells (aB k).toArray 34 (0,0))::bf pn mp B::aV p m L::aI m M::F):=h7.sb;clear h7
 rotate_left
 focus
  refine zn (yP) h5 rfl ?_;intro b6 w6 h6;refine hK _ _ (.inr (.inl (Am.o _ _ (h6.sb:Sat w0 w6 (iT r m seg p ps pn d::pt b3 (.cells (aB k).toArray 34 (0,0))::pt b6 (.cells (bT Seg.aZ.zero).toArray 115 (0,0))::bf pn mp B::aV p m L::aI m M::F))))) ?_;clear hK h5;refine cZ 5 ay au (λK hK=>?_)
  (refine jB au ay ay ?_)
  refine (HT.o _ _ (h6.sb:Sat w0 _ (bf pn mp B::pt b6 (.cells (bT Seg.aZ.zero).toArray 115 (0,0))::iT r m seg p ps pn d::pt b3 (.cells (aB k).toArray 34 (0,0))::aV p m L::aI m M::F))).mono ?_;rintro ee w7 ⟨v,rfl,rfl,h7⟩;refine hK _ _ (.inl rfl) ?_;clear hK h6;refine rP 6 ?_ (y:=bD);refine rP 7 ?_ (y:=(nU ay bY));refine rP 8 ?_ (y:=(nU ay bY));have h8:Sat w0 w7 (pt b6 (.cells (bT Seg.aZ.zero).toArray 115 (0,0))::iT r m seg p ps pn d::pt b3 (.cells (aB k).toArray 34 (0,0))::bf pn mp B::aV p m L::aI m M::F):=h7.sb;clear h7
 all_goals
  refine cZ 10 ay au (λK hK=>?_);refine pI (cs':=(bT pl).toArray) h8 ay ay ah bU bG au ah ?_;intro w9 h9;refine hK _ _ (.inl rfl) ?_;clear hK h8;refine rP 11 ?_ (y:=jU);refine dX au ?_;go_wp2_with fail;have h10:=h9.drew;clear h9 Am;refine eF [5,6,7,8,10,11] (λw'=>w'.cell? ⟨r,2,none⟩=some (.pointer (some ⟨p,0,none⟩))/\w'.rangeAt b6 0 (bT pl)) au ?_;have BN:∀ (w':World) (R:List aF),Sat w0 w' (pt b6 (.cells (bT pl).toArray 115 (0,0))::iT r m seg p ps pn d::R)->w'.cell? ⟨r,2,none⟩=some (.pointer (some ⟨p,0,none⟩))/\w'.rangeAt b6 0 (bT pl):=λw' R hw=>⟨hw.cellP aT 2 rfl,λj z hj=>by rw [aeE];exact hw.cellP aK j zN0⟩;have Am:=uQ BN;have hG:=BN _ _ h10;clear BN;refine rP 0 ?_ (y:=bD);refine rP 1 ?_ (y:=iG);refine rP 2 ?_ (y:=dh);refine rt 3 (h:=?_);refine gJ 4 ay au bP (lM (b:=b6) (o:=0) (bT pl) ah underlying115 rfl au (λw hw=>hw.2)) aQ gQ ?_
  clear hG;refine Io 5 9 ay ay au (λK hK=>?_) (λK hK=>?_)
  focus
   (refine jB au ay ay ?_)
   refine (HR.o _ _ (Ro.os HH.o) (h10.sb:Sat w0 _ (aV p m L::aI m M::pt b6 (.cells (bT pl).toArray 115 (0,0))::iT r m seg p ps pn d::pt b3 (.cells (aB k).toArray 34 (0,0))::bf pn mp B::F))).mono ?_;rintro ee jZ ⟨v,rfl,da,dc,rfl,h11⟩;refine hK _ _ (.inl rfl) ?_;clear hK h10;refine rP 6 ?_ (y:=bD);refine rP 7 ?_ (y:=(nU ay bY));refine rP 8 ?_ (y:=(nU ay bY));refine cZ 9 ay au (λK hK=>?_);refine zn (EZ) h11 rfl ?_;intro b8 w12 h12;refine hK _ _ (.inr (.inl (Am.o _ _ (h12.sb:Sat w0 w12 (pt b6 (.cells (bT pl).toArray 115 (0,0))::iT r m seg p ps pn d::pt b8 (.cells Ak.cells 71 (0,0))::aY (.slice da data.length dc) data::aV p m L::aI m M::pt b3 (.cells (aB k).toArray 34 (0,0))::bf pn mp B::F))))) ?_;clear hK h11
  rotate_left
  focus
   refine zn (EZ) h10 rfl ?_;intro b8 jZ h11;refine hK _ _ (.inr (.inl (Am.o _ _ (h11.sb:Sat w0 jZ (pt b6 (.cells (bT pl).toArray 115 (0,0))::iT r m seg p ps pn d::pt b8 (.cells Ak.cells 71 (0,0))::pt b3 (.cells (aB k).toArray 34 (0,0))::bf pn mp B::aV p m L::aI m M::F))))) ?_;clear hK h10;refine cZ 5 ay au (λK hK=>?_)
   (refine jB au ay ay ?_)
   refine (HR.o _ _ (Ro.os HH.o) (h11.sb:Sat w0 _ (aV p m L::aI m M::pt b8 (.cells Ak.cells 71 (0,0))::pt b6 (.cells (bT pl).toArray 115 (0,0))::iT r m seg p ps pn d::pt b3 (.cells (aB k).toArray 34 (0,0))::bf pn mp B::F))).mono ?_;rintro ee w12 ⟨v,rfl,da,dc,rfl,h12⟩;refine hK _ _ (.inl rfl) ?_;clear hK h11;refine rP 6 ?_ (y:=bD);refine rP 7 ?_ (y:=(nU ay bY));refine rP 8 ?_ (y:=(nU ay bY));replace h12:Sat w0 w12 (pt b8 (.cells Ak.cells 71 (0,0))::aY (.slice da data.length dc) data::aV p m L::aI m M::pt b6 (.cells (bT pl).toArray 115 (0,0))::iT r m seg p ps pn d::pt b3 (.cells (aB k).toArray 34 (0,0))::bf pn mp B::F):=h12.sb
  all_goals
   refine cZ 10 ay au (λK hK=>?_);refine pI (cs':=bV ⟨0,k,data⟩ (.slice da data.length dc)) (v:= .agg (bV ⟨0,k,data⟩ (.slice da data.length dc))) h12 ay ay (by exact akM (show (bV aj.zeroE (.slice none 0 0)).size=(bV ⟨0,k,data⟩ (.slice da data.length dc)).size by rw [dJ _ _ (show (⟨0,k,data⟩:aj.aJ).key.length=32 from Hk.o)];rfl)) bU (show 0+(bV ⟨0,k,data⟩ (.slice da data.length dc)).size<=(bV aj.zeroE (.slice none 0 0)).size by rw [dJ _ _ (show (⟨0,k,data⟩:aj.aJ).key.length=32 from Hk.o)];exact ab1 _) (show _=some (bV ⟨0,k,data⟩ (.slice da data.length dc)).size by rw [dJ _ _ (show (⟨0,k,data⟩:aj.aJ).key.length=32 from Hk.o)];exact yw) (JQ _ _ _ _) ?_;intro ku h13;refine hK _ _ (.inl rfl) ?_;clear hK h12;refine rP 11 ?_ (y:=jU);refine dX au ?_;have e0:ku.cell? ⟨b8,0,none⟩=some (.int .i64 0):=h13.cellP aK 0 (by unfold bV;rw [aeh];rfl)
   have f1:ku.rangeAt b8 1 (aB k):=λj z hj=>h13.cellP aK (1+j) (by unfold bV;rw [aeh];exact XT (⟨0,k,data⟩:aj.aJ) _ hj);have f2:ku.rangeAt b3 0 (aB k):=λj z hj=>by rw [aeE];exact (h13.pk (A:=pt b3 (.cells (aB k).toArray 34 (0,0)))).cellAt j z zN0
   have e33:ku.cell? ⟨b8,33,none⟩=some (.slice da data.length dc):=h13.cellP aK 33 (by unfold bV;rw [aeh];exact XR (⟨0,k,data⟩:aj.aJ) _ Hk.o);have hnk:∀ w,(binOp .neq 34 (.agg (aB k).toArray) (.agg (aB k).toArray)).run prog w=.ok (.bool false) w:=λw=>by rw [aaB k k Hk.o Hk.o w];simp
   have hcl:=xW h13 (Sat.rd (h13.sb:Sat w0 ku (aY (.slice da data.length dc) data::F))) qC.o;clear Am HH HR HT
   go_wp2_with (first
    |((with_reducible refine bC ⟨?_⟩);first
     |refine iD (b:=b8) (o:=1) (aB k) ah f1 underlying34 rfl yJ0 ?_
     |refine iD (b:=b3) (o:=0) (aB k) ah f2 underlying34 rfl yJ0 ?_)
    |((with_reducible apply EM);refine ⟨?_⟩;refine EN (by first|rfl|kernel_rfl) ?_))
   refine hcl.mono ?_;rintro ee kC ⟨v,rfl,fP,a,n,c,rfl⟩;clear hcl;go_wp2_with fail
   go_ret2
   exact ⟨_,rfl,_,a,n,c,rfl,rfl,fP.sb⟩
def Bc (x:aj.Bs×Seg.aZ):Array Value:=#[.agg (aB x.1).toArray,.agg (bT x.2).toArray]
section
variable {m:aj.Bs->Option (Seg.aZ)}
theorem afl (h:Sat w0 w F):Calls prog 166 #[ptr p] w
  (aN λv w'=>∃ b,v=.func (.func 209) #[] #[ptr b]/\Sat w0 w' (pt b (.cells #[ptr p] 105 (0,0))::F)):=by
 go_enter func166,ntmps166;go_wp2_with (first|((with_reducible refine fC ⟨?_⟩);refine fB aQ ay ay ?_;intro bB wB hB)|(with_reducible apply eG));go_ret;exact ⟨_,rfl,bB,rfl,hB⟩
abbrev dN.ER:=@bf
abbrev dN.Ad:Nat:=105
abbrev dN.MX:Nat:=209
theorem dN.ac9:type_of% @func209:=@func209
theorem dN.ada:type_of% @ntmps209:=@ntmps209
theorem dN.adb:type_of% @LJ:=@LJ
abbrev dN.yL:=@Bc
open dN in
theorem afk {b:Nat}{l:List (aj.Bs×Seg.aZ)} (hB:B<=13000000) (hl:Tab.Lists m l) :
  Iter prog 209 #[ptr b] (l.map Bc) w0 [bf p m B,pt b (.cells #[ptr p] 105 (0,0))] [bf p m B,pt b (.cells #[ptr p] 105 (0,0))]:=aag
end
def uV (b:Nat) (xs:List (aj.Bs×Seg.aZ)):aF:=Sl.ex λov:Value=>star (pt b (.cells #[ov] 207 (0,0))) (aC 248 35 ov (xs.flatMap fO))
theorem alh {fn:Func}{t:Tmp} (h:fn.results=#[.tmp t]) (tmps:Array Value) (P:Program) (w:World):(results fn tmps).run P w=.ok (tmps.getD t undef) w:=by
 simp only [results,h];simp
theorem agV {P:Program}{w0 w:World}{F:List aF}{fn:Func}{a:Act}{K:Ending->World->Prop}{D:Nat}{v:Value} (ha:a.defers=[{ target:= .collected D,args:=#[] }]) (h:Sat w0 w (pt D (.deferred (some []))::F)) (hv:∀ w,(results fn a.tmps).run P w=.ok v w)
  (hK:∀ w',Sat w0 w' F->K (.returned v) w'):PG P fn K .ret a w:=by
 show LeavesInM Fence.wide 0 P fn a.tmps K a.defers .returning w;rw [ha];exact ZQ h hv hK
section
variable {m:aj.Bs->Option Seg.aZ}{kv xs:List (aj.Bs×Seg.aZ)}
theorem aa3 (h:Sat w0 w (uV b xs::F)):∃ ov,Sat w0 w (pt b (.cells #[ov] 207 (0,0))::aC 248 35 ov (xs.flatMap fO)::F):=by
 obtain ⟨ov,h1⟩:=Sat.ex.1 h;exact ⟨ov,Sat.star.1 h1⟩
theorem aa4 {ov:Value} (h:Sat w0 w (pt b (.cells #[ov] 207 (0,0))::aC 248 35 ov (xs.flatMap fO)::F)):Sat w0 w (uV b xs::F):=Sat.ex.2 ⟨ov,Sat.star.2 h⟩
theorem aor:kD prog 207=some (.slice none 0 0):=by kernel_rfl
theorem ah5 (hl:Tab.Lists m kv) (hB:B<=13000000) (hkl:kv.length<=13000000) (hks:∀ q∈kv,q.1.length=32) (h:Sat w0 w (bf p m B::F)) :
  Calls prog 115 #[ptr p] w (aN λv w'=>Sat w0 w' (aC 248 35 v (kv.flatMap fO)::bf p m B::F)):=by
 have Hl:=uQ hl;have HB:=uQ hB;have qg:=uQ hkl;have kX:=uQ hks;clear hl hB hkl hks;refine WX func115 rfl ?_;simp only [ntmps115,abA,aev,ae0,Nat.reduceAdd,Nat.reduceSub,Array.replicate_succ,Array.replicate_zero,List.push_toArray,List.append_toArray,aeV,aiQ];go_wp2_with (with_reducible apply eG);refine ⟨eU aor h rfl ?_⟩;intro b3 w3 h3;go_wp2_with fail;refine (afl h3).mono ?_;rintro ee w4 ⟨v,rfl,bA,rfl,h4⟩;go_wp2_with fail;have h5:Sat w0 w4 (bf p m B::pt bA (.cells #[ptr p] 105 (0,0))::uV b3 (kv.take 0)::F):=by
  have h6:Sat w0 w4 (pt b3 (.cells #[.slice none 0 0] 207 (0,0))::bf p m B::pt bA (.cells #[ptr p] 105 (0,0))::F):=h4.sb;exact (aa4 (xs:=[]) ((Sat.dO.2 h6).sb:Sat w0 w4 (pt b3 (.cells #[.slice none 0 0] 207 (0,0))::aC 248 35 (.slice none 0 0) []::bf p m B::pt bA (.cells #[ptr p] 105 (0,0))::F))).sb
 clear h h3 h4;refine adH (gf:=209) (lb:=#[ptr bA]) ah (λargs w=>by kernel_rfl) (afk HB.o Hl.o) ?_ (λpre=>uV b3 (kv.take pre.length)::F) h5 ?_ ?_
 ·intro x hx;obtain ⟨p,_,rfl⟩:=adu.1 hx
  rfl
 ·clear h5;intro l pre x post U W hkv hS T hT;obtain ⟨i,hi⟩:∃ i,i=pre.length:=⟨_,rfl⟩;have hlt:i<kv.length:=by
   have:=aeO List.length hkv;rw [abl,aa7,aev]at this;omega
  obtain ⟨⟨k,y⟩,hy⟩:∃ p,kv[i]?=some p:=⟨_,aaJ hlt⟩;obtain rfl:x=Bc (k,y):=by
   have e1:(kv.map Bc)[i]?=some (Bc (k,y)):=by rw [ad1,hy];rfl
   rw [hkv,hi,aew (ab1 _),aph,List.getElem?_cons_zero]at e1;exact aiJ e1
  have Gy:=kX.o _ (acr hy);have htk:kv.take (i+1)=kv.take i++[(k,y)]:=by rw [aeN,hy,ahW]
  have hil:(pre++[Bc (k,y)]).length=i+1:=by rw [aa7,hi];rfl
  have dP:=uQ htk;have Dz:=uQ hil;have jG:=uQ (show k.length=32 from Gy)
  have lq:=uQ (show ((kv.take i).flatMap fO).length<=2147483648 from by
   rw [iK (k:=35) λq hq=>lT q (kX.o q (ae2 hq)),adt];have:=qg.o;omega)
  have hS0:Sat w0 W (uV b3 (kv.take i)::(F++U)):=by rw [hi];exact hS
  clear hkv hS hi hlt hy Gy htk hil;simp [Bc]at hT;subst hT;refine wpIn_seq_k λK hK=>?_;refine wW ah λK2 hK2=>?_;go_wp2_with (with_reducible apply eG);refine ⟨eU Nu hS0 rfl ?_⟩;intro b5 w5 h5;go_wp2_with ((with_reducible refine bW ⟨?_⟩);refine fG (aB k).toArray h5 ah ah (by rw [abA,aP,jG.o];rfl) bU yV0 (by rw [ad7];exact uH _) ?_;intro w6 h6);refine wW ah λK3 hK3=>?_;go_wp2_with (with_reducible apply eG);refine ⟨eU yP h6 rfl ?_⟩;intro b6 w7 h7;go_wp2_with ((with_reducible refine bW ⟨?_⟩);refine fG (bT y).toArray h7 ah ah ah bU au ah ?_;intro w8 h8);refine ⟨pt b6 (.cells (bT y).toArray 115 (0,0))::pt b5 (.cells (aB k).toArray 34 (0,0))::uV b3 (kv.take i)::F,h8,?_⟩;clear h8 h7 h6 h5 hS0;intro U' w9 h9;have h10:Sat w0 w9 (pt b6 (.cells (bT y).toArray 115 (0,0))::pt b5 (.cells (aB k).toArray 34 (0,0))::uV b3 (kv.take i)::(F++U')):=h9;clear h9
  obtain ⟨ov,h11⟩:=aa3 (h10.sb:Sat w0 w9 (uV b3 (kv.take i)::pt b6 (.cells (bT y).toArray 115 (0,0))::pt b5 (.cells (aB k).toArray 34 (0,0))::(F++U')));clear h10;obtain ⟨oa,on,oc,rfl,_,_⟩:=Sat.rd (h11.pick aT);refine wpIn_block (wW ah λK6 hK6=>?_)
  go_wp2_with (first
   |((with_reducible refine bC ⟨?_⟩);first
    |refine iC h11 ah fE underlying115 rfl au ?_
    |refine iC h11 ah iw underlying34 rfl yV0 ?_
    |refine eY h11 ah aK bG ay au ?_)
   |((with_reducible refine FX ⟨?_⟩);refine IW ah ah (λw=>acf k jG.o y w) ?_)
   |((with_reducible refine jh ⟨?_⟩);refine jg (e:=248) (sz:=35) (dF:=56) (cs:=(fO (k,y)).toArray) au h11 ah rfl (by rw [abA,lT _ jG.o]) bG ?_;intro bN wN hN)
   |(with_reducible apply fZ))
  refine ⟨jF (cs:=(fO (k,y)).toArray) 248 35 56 au hN ah ah fE aK (by rw [abA,lT _ jG.o]) bG (by rw [ad7];exact GX (k,y)) lq.o (by rw [abA,lT _ jG.o];decide) bG rfl ?_⟩;intro b' n' c' w12 h12;clear h11 hN;go_wp2_with (with_reducible apply bW);refine ⟨jM (cs':=#[.slice (some ⟨b',0,none⟩) n' c']) (h12.sb:Sat w0 w12 (pt b3 (.cells #[.slice oa on oc] 207 (0,0))::aC 248 35 (.slice (some ⟨b',0,none⟩) n' c') ((kv.take i).flatMap fO++fO (k,y))::(F++U'))) ah ah ah bU bG au ah ?_⟩;intro ku h13;go_wp2_with fail;refine ⟨trivial,?_⟩;rw [Dz.o,dP.o];have fP:=aa4 (xs:=kv.take i++[(k,y)]) (by rw [aeB,aen,aiq,aei];exact h13);exact fP
 ·intro D w8 h8;have h9:Sat w0 w8 (bf p m B::pt bA (.cells #[ptr p] 105 (0,0))::uV b3 kv::(F++[pt D (.deferred (some []))])):=by
   have q:=h8;rw [abl,aeH]at q;exact q
  have hA:Sat w0 w8 (pt D (.deferred (some []))::bf p m B::pt bA (.cells #[ptr p] 105 (0,0))::uV b3 kv::F):=
   Sat.Jt (L:=bf p m B::pt bA (.cells #[ptr p] 105 (0,0))::uV b3 kv::F) (R:=[pt D (.deferred (some []))]) h9
  clear h5 h8 h9;obtain ⟨ov,hB2⟩:=aa3 (hA.sb:Sat w0 w8 (uV b3 kv::pt D (.deferred (some []))::bf p m B::F));clear hA;obtain ⟨oa,on,oc,rfl,_,_⟩:=Sat.rd (hB2.pick aT);go_wp2_with ((with_reducible refine bC ⟨?_⟩);refine eY hB2 ah aK bG ay au ?_);refine agV rfl (hB2.sb:Sat w0 w8 (pt D (.deferred (some []))::aC 248 35 (.slice oa on oc) (kv.flatMap fO)::bf p m B::F)) (λw=>alh (t:=2) ah _ _ w) ?_;intro w9 h9;exact ⟨_,rfl,h9⟩
end
section
variable {fb nb:Nat}{bs:List Nat}{wv:Value}{s:ByteArray}{l:Names}{fs:List aX}
theorem LH (hM:M.Ok K) (hK:K<=1099511627776) (h:Sat w0 w (aI m M::F)) (s t:ByteArray) (ht:t.size<=9223372036854775807) :
  Calls prog 159 #[ptr m,.string s,.string t] w (aN λv w'=>v=errno (M.rename s t).2/\Sat w0 w' (aI m (M.rename s t).1::F)):=by
 obtain ⟨bs,fb,nb,wv,hl,hR⟩:=aI.open h;have hg:=Yz t w ht;cases ho:M.off
 ·cases hn:bH M.now s with
  |none=>
   have hf:=BF (s:=s) hR ho hn;have bF:Hid (M.rename s t=(M,9)):=by show _=_;simp [ak.rename,ho,hn]
   clear ho hn;go_enter func159,ntmps159;go_wp2_with (first|(go_at_call 76;refine hf.mono ?_;rintro e w1 ⟨v,rfl,rfl,rfl⟩));go_ret;exact ⟨errno 9,rfl,by rw [bF.o],by rw [bF.o];exact h⟩
  |some i=>
   have hf:=BH (s:=s) hR ho hn;cases hgs:good t
   ·rw [hgs]at hg;have bF:Hid (M.rename s t=(M,7)):=by show _=_;simp [ak.rename,ho,hn,hgs]
    clear ho hn hgs;go_enter func159,ntmps159;go_wp2_with (first|(go_at_call 76;refine hf.mono ?_;rintro e w1 ⟨v,rfl,rfl,rfl⟩)|(go_at_call 81;refine hg.mono ?_;rintro e w1 ⟨v,rfl,rfl,rfl⟩));go_ret;exact ⟨errno 7,rfl,by rw [bF.o],by rw [bF.o];exact h⟩
   rw [hgs]at hg;have hst:=Dh hR hM.left;cases hstep:M.step.2
   ·rw [hstep]at hst;have bF:Hid (M.rename s t=(M.step.1,12)):=by show _=_;simp [ak.rename,ho,hn,hgs,hstep]
    clear ho hn hstep hgs;go_enter func159,ntmps159;go_wp2_with (first|(go_at_call 76;refine hf.mono ?_;rintro e w1 ⟨v,rfl,rfl,rfl⟩)|(go_at_call 81;refine hg.mono ?_;rintro e w1 ⟨v,rfl,rfl,rfl⟩)|(go_at_call 82;refine hst.mono ?_;rintro e w1 ⟨v,rfl,rfl,hS1⟩));go_ret;refine ⟨errno 12,rfl,by rw [bF.o],?_⟩;rw [bF.o];exact aI.shut (bs:=bs) (fb:=fb) (nb:=nb) (wv:=wv) yY0 (vZ hS1)
   ·rw [hstep]at hst;have bF:Hid (M.rename s t=(M.step.1.link ⟨s,t,i⟩,0)):=by show _=_;simp [ak.rename,ho,hn,hgs,hstep]
    have hne:=tu hgs;have hl':bs.length=M.step.1.files.length:=by rw [M.jf.2.2.2.1];exact hl
    have hlp:pU bs ⟨s,t,i⟩=ptr (bs.getD i 0):=by unfold pU;rw [abL hne]
    have Az:=uQ hl';have Oh:=uQ hlp;clear ho hn hstep hgs hne hl' hlp;generalize hq:bs.getD i 0=q at hf;have Hq:=uQ hq;clear hq;go_enter func159,ntmps159;go_wp2_with (first|(go_at_call 76;refine hf.mono ?_;rintro e w1 ⟨v,rfl,rfl,rfl⟩)|(go_at_call 81;refine hg.mono ?_;rintro e w1 ⟨v,rfl,rfl,rfl⟩)|(go_at_call 82;fail));refine hst.mono ?_;rintro e w1 ⟨v,rfl,rfl,hS1⟩;have hlk:=ZX hM.step hK Az.o ⟨s,t,i⟩ (vZ hS1);rw [Oh.o,Hq.o]at hlk;go_wp2_with (go_at_call 83;go_must (refine hlk.mono ?_);rintro e w2 ⟨v2,rfl,hS2⟩);go_ret;refine ⟨errno 0,rfl,by rw [bF.o],?_⟩;rw [bF.o];exact hS2
 ·have hf:=BG (s:=s) hR ho;have bF:Hid (M.rename s t=(M,12)):=by show _=_;simp [ak.rename,ho]
  clear ho;go_enter func159,ntmps159;go_wp2_with (first|(go_at_call 76;refine hf.mono ?_;rintro e w1 ⟨v,rfl,rfl,rfl⟩));go_ret;exact ⟨errno 12,rfl,by rw [bF.o],by rw [bF.o];exact h⟩
end
end Go.Proofs.Y
