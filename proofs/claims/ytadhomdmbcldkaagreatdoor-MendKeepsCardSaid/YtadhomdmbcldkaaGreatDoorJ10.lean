import Derived.Test.YtadhomdmbcldkaaGreatDoorJ9
set_option linter.unusedSimpArgs false
variable {A:Prop}
open Go.Proofs.Tryz
set_option maxRecDepth 20000
set_option linter.unusedVariables false
set_option maxHeartbeats 128000000
open Go Go.Sl Go.MapKept Go.RowKit
open Go.Proofs.YtadhomdmbcldkaaGreatDoor Go.Proofs.Y
variable {w0 w:World}{F:List aO}{m K p B r ps pn b b3 pi r0 E:Nat}{M:aG.aG}{L:aB.aS}{aZ n:Int}{d:Bool}{mp:ay.Bs->Option aB.bT}{k:ay.Bs}{v bv uv tv:Value}
theorem yA0(h:A:=by intro I a;first|exact a|exact a.1|exact a.2|exact a.2.1|exact a.2.2|exact a.2.2.1|exact a.2.2.2|exact a.2.2.2.1|exact a.2.2.2.2):A:=h
theorem yB0(h:A:=by intro wq hq;first|exact hq|exact hq.1|exact hq.2|exact hq.2.1|exact hq.2.2|exact hq.2.2.1|exact hq.2.2.2|exact hq.2.2.2.1|exact hq.2.2.2.2):A:=h
theorem yN0(h:A:=by have:=HK.o;omega):A:=h
theorem yS0(h:A:=by have:=Hb.o;have:=HB.o;omega):A:=h
theorem yU0(h:A:=by rw [abC,bP,oV.o];kernel_rfl):A:=h
theorem zA0(h:A:=by first|rfl|kernel_rfl):A:=h
theorem zS0(h:A:=by rw [ab5];exact g):A:=h
namespace Go.Proofs.Y
open Go.aG
theorem arA (h:au w0 w (eH r m aZ p ps pn d::bF pn mp B::F)) :
  Calls prog 53 #[aW r] w (bf λv w'=>∃ t:aY.Tb aB.bT,(t.Ok/\t.Is mp)/\v=.int .i64 t.n/\w=w'):=by
 have a:=xM h;have b:=aoN h.sb;have f:=h.dD 4 _ rfl
 go_in
 go_wp2_with fail;refine a.mono ?_;rintro e g ⟨v,rfl,rfl,rfl⟩;go_wp2_with fail;refine b.mono ?_;rintro e i ⟨v,rfl,t,c,rfl,rfl⟩;go_wp2;go_ret;exact ⟨_,rfl,t,c,rfl,rfl⟩
theorem ar8 (hB:B<=134217000) (hk:k.length=32) (data:ay.Bs) (da:Option Addr) (dc:Nat) (hd:Ro w0 F (bK 1 (.slice da data.length dc) (aI data))) (Dk:data.length<=1099511627) (hL:L.Ok) (hM:M.Ok K) (rY:K+4<=1099511627776) (hH:Ro w0 F iO)
  (h0:(L.append M ⟨0,k,data⟩).2.2=0) (h:au w0 w (eH r m aZ p ps pn d::bF pn mp B::bC p m L::aV m M::F)) :
  Calls prog 64 #[aW r,.agg (aI k).toArray,.slice da data.length dc] w (bf λv w'=>v=dS 0 /\
   au w0 w' (eH r m aZ p ps pn true::bF pn (aY.put mp k (L.append M ⟨0,k,data⟩).2.1) (B+1)::bC p m (L.append M ⟨0,k,data⟩).1.1::aV m (L.append M ⟨0,k,data⟩).1.2::F)):=by
 have s:(aI k).length=32:=by rw [bP,hk]
 have e:=uQ (λ(w':World) (R:List aO) N O (c:au w0 w' (bC p m L::aV m M::R))=>Oa ⟨0,k,data⟩ hk da dc O N Dk hL hM rY c);generalize L.append M ⟨0,k,data⟩=q at *
 obtain ⟨⟨L2,M2⟩,pc,T⟩:=q;dsimp only at h0 e ⊢;subst h0;have H:=uQ hB;have f:=uQ hk;have i:=uQ s;have Hd:=uQ hd;have I:=uQ hH;clear hB hk s hd Dk hL hM rY hH;go_enter func64,ntmps64;go_wp2_with (with_reducible apply jy);refine ⟨jB h aF aF ?_⟩;intro b4 P t;replace t:au w0 P (pt b4 (.cells (aI k).toArray 34 (0,0))::eH r m aZ p ps pn d::bF pn mp B::bC p m L::aV m M::F):=t;clear h;go_wp2_with fail;refine (xM t.sb).mono ?_;rintro E U ⟨v,rfl,rfl,rfl⟩;go_wp2_with fail;have u:=t.drew;clear t;refine gK [7,8,9,10,12,13] (λw'=>w'.cell? ⟨r,2,none⟩=some (.pointer (some ⟨p,0,none⟩))/\w'.rangeAt b4 0 (aI k)) aC ?_
 have l:∀ (w':World) (R:List aO) J,au w0 w' (pt b4 (.cells (aI k).toArray 34 (0,0))::eH r m aZ p ps pn J::R)->w'.cell? ⟨r,2,none⟩=some (.pointer (some ⟨p,0,none⟩))/\w'.rangeAt b4 0 (aI k):=λw' R J c=>⟨c.bI bZ 2 rfl,λj z g=>by rw [aiO];exact c.bI bJ j zS0⟩;have x:=uQ l;have A:=l _ _ _ u;clear l;refine rP 0 ?_ (y:=bV);refine rP 1 ?_ (y:=jF);refine rP 2 ?_ (y:=eY);refine rt 3 (h:=?_);refine ji 4 aF aC dF (lF (aI k) aA underlying34 rfl (by rw [i.o];kernel_rfl) (λw c=>c.2)) aQ gQ ?_;clear A;refine rP 5 ?_ (y:=bV);refine rP 6 ?_ (y:=(IW aF aF aF (λw=>ag0 ⟨0,k,data⟩ f.o da data.length dc w)));refine BN 7 11 aF aF aC (λK b=>?_) (λK b=>?_)
 ·(refine kM aC aF aF ?_)
  refine (e.o _ _ (Ro.os I.o) (Ro.os Hd.o) (u.sb:au w0 _ (bC p m L::aV m M::pt b4 (.cells (aI k).toArray 34 (0,0))::eH r m aZ p ps pn d::bF pn mp B::F))).mono ?_;rintro E Q ⟨v,rfl,rfl,n⟩;refine b _ _ (.inl rfl) ?_;clear b e u;refine rP 8 ?_ (y:=bV);refine rP 9 ?_ (y:=(lX aF dX));refine rP 10 ?_ (y:=(lX aF dX));refine dZ 11 aF aC (λK b=>?_);refine vJ (uz) n rfl ?_;intro b7 G o;refine b _ _ (.inr (.inl (x.o _ _ _ o.sb))) ?_;clear b n;have C:au w0 G (pt b7 (.cells (dQ aB.bT.zero).toArray 115 (0,0))::pt b4 (.cells (aI k).toArray 34 (0,0))::eH r m aZ p ps pn d::bF pn mp B::bC p m L2::aV m M2::F):=o.sb;clear o;refine dZ 12 aF aC (λK b=>?_);refine qE C aF aF aA eu dG aC aA ?_;intro S D;refine b _ _ (.inl rfl) ?_;clear b C;refine rP 13 ?_ (y:=kR);refine fK aC ?_;go_wp2_with fail;have a:=D.drew;clear D
  replace a:au w0 _ (pt b4 (.cells (aI k).toArray 34 (0,0))::eH r m aZ p ps pn d::bF pn mp B::pt b7 (.cells (dQ pc).toArray 115 (0,0))::bC p m L2::aV m M2::F):=a.sb;refine gK [6] (λw'=>w'.cell? ⟨r,4,none⟩=some (.pointer (some ⟨pn,0,none⟩))/\w'.rangeAt b4 0 (aI k)/\w'.rangeAt b7 0 (dQ pc)) aC ?_;have A:World.cell? _ ⟨r,4,none⟩=some (.pointer (some ⟨pn,0,none⟩))/\World.rangeAt _ b4 0 (aI k)/\World.rangeAt _ b7 0 (dQ pc):=⟨a.bI bZ 4 rfl,λj z g=>by rw [aiO];exact a.bI bJ j zS0,λj z g=>by rw [aiO];exact a.bI mD j zS0⟩;refine rP 0 ?_ (y:=bV);refine rP 1 ?_ (y:=jF);refine rP 2 ?_ (y:=eY);refine rt 3 (h:=?_);refine ji 4 aF aC dF (lF (aI k) aA underlying34 rfl (by rw [i.o];kernel_rfl) (λw c=>c.2.1)) aQ gQ ?_;refine ji 5 aF aC dF (lF (dQ pc) aA underlying115 rfl aC (λw c=>c.2.2)) aQ gQ ?_;clear A;refine dZ 6 aF aC (λK b=>?_)
  (refine Bq aC aF aF aF ?_)
  refine (OV H.o f.o pc a.sb).mono ?_;rintro E sH ⟨v,rfl,h11⟩;refine b _ _ (.inl rfl) ?_;clear b a;refine fK aC ?_;go_wp2_with (with_reducible apply eG);exact agl
 ·refine vJ (uz) u rfl ?_;intro b7 Q n;refine b _ _ (.inr (.inl (x.o _ _ _ n.sb))) ?_;clear b u;refine dZ 7 aF aC (λK b=>?_)
  (refine kM aC aF aF ?_)
  refine (e.o _ _ (Ro.os I.o) (Ro.os Hd.o) (n.sb:au w0 _ (bC p m L::aV m M::pt b7 (.cells (dQ aB.bT.zero).toArray 115 (0,0))::pt b4 (.cells (aI k).toArray 34 (0,0))::eH r m aZ p ps pn d::bF pn mp B::F))).mono ?_;rintro E G ⟨v,rfl,rfl,o⟩;refine b _ _ (.inl rfl) ?_;clear b e n;refine rP 8 ?_ (y:=bV);refine rP 9 ?_ (y:=(lX aF dX));refine rP 10 ?_ (y:=(lX aF dX));have C:au w0 G (pt b7 (.cells (dQ aB.bT.zero).toArray 115 (0,0))::pt b4 (.cells (aI k).toArray 34 (0,0))::eH r m aZ p ps pn d::bF pn mp B::bC p m L2::aV m M2::F):=o.sb;clear o;refine dZ 12 aF aC (λK b=>?_);refine qE C aF aF aA eu dG aC aA ?_;intro S D;refine b _ _ (.inl rfl) ?_;clear b C;refine rP 13 ?_ (y:=kR);refine fK aC ?_;go_wp2_with fail;have a:=D.drew;clear D
  replace a:au w0 _ (pt b4 (.cells (aI k).toArray 34 (0,0))::eH r m aZ p ps pn d::bF pn mp B::pt b7 (.cells (dQ pc).toArray 115 (0,0))::bC p m L2::aV m M2::F):=a.sb;refine gK [6] (λw'=>w'.cell? ⟨r,4,none⟩=some (.pointer (some ⟨pn,0,none⟩))/\w'.rangeAt b4 0 (aI k)/\w'.rangeAt b7 0 (dQ pc)) aC ?_;have A:World.cell? _ ⟨r,4,none⟩=some (.pointer (some ⟨pn,0,none⟩))/\World.rangeAt _ b4 0 (aI k)/\World.rangeAt _ b7 0 (dQ pc):=⟨a.bI bZ 4 rfl,λj z g=>by rw [aiO];exact a.bI bJ j zS0,λj z g=>by rw [aiO];exact a.bI mD j zS0⟩;refine rP 0 ?_ (y:=bV);refine rP 1 ?_ (y:=jF);refine rP 2 ?_ (y:=eY);refine rt 3 (h:=?_);refine ji 4 aF aC dF (lF (aI k) aA underlying34 rfl (by rw [i.o];kernel_rfl) (λw c=>c.2.1)) aQ gQ ?_;refine ji 5 aF aC dF (lF (dQ pc) aA underlying115 rfl aC (λw c=>c.2.2)) aQ gQ ?_;clear A;refine dZ 6 aF aC (λK b=>?_)
  (refine Bq aC aF aF aF ?_)
  refine (OV H.o f.o pc (a.sb:au w0 _ (bF pn mp B::pt b4 (.cells (aI k).toArray 34 (0,0))::eH r m aZ p ps pn d::pt b7 (.cells (dQ pc).toArray 115 (0,0))::bC p m L2::aV m M2::F))).mono ?_;rintro E sH ⟨v,rfl,h11⟩;refine b _ _ (.inl rfl) ?_;clear b a;refine fK aC ?_;go_wp2_with (with_reducible apply eG);exact agl
def CY:aY.gy aB.bT:=⟨2,ay.gu,aB.bT.zero⟩
theorem asW (w:World):(Instr.build 215 #[(0,.int .i64 2)]).run prog w=.ok (.agg (bY dQ CY).toArray) w:=by
 refine (uU [(0,.int .i64 2)] aer Ld (by
  intro c b;simp only [ab9,ajW,av2]at b;have a:(Value.agg (bY dQ (⟨0,ay.gu,aB.bT.zero⟩:aY.gy (aB.bT))).toArray).cells.size=36:=by
   show (bY dQ (⟨0,ay.gu,aB.bT.zero⟩:aY.gy (aB.bT))).toArray.size=36;rw [abC,pG dQ _ aU 3 rfl]
  rw [a];rcases b with rfl
  exact ⟨0,rfl,by show 0+1<=36;omega⟩) w).trans ?_
 rfl
section
variable {R:List aO}{sv:Value}{m:ay.Bs->Option (aB.bT)}
theorem aap (hB:B<=134217000) (hk:k.length=32) (h:au w0 w (bF p m B::F)) :
  Calls prog 134 #[aW p,.agg (aI k).toArray] w (bf λv w'=>v=.bool (m k).isSome/\au w0 w' (bF p (aY.qo m k) B::F)):=by
 obtain ⟨t,sv,⟨ok,is,hb⟩,hR⟩:=bF.open h;obtain ⟨d,he⟩:=ok.pU k;have hsz:t.bG.length<=536872000:=by have:=ok.size;omega
 have Hlen:=uQ (show ∀ x∈t.bG,(bY dQ x).length=36 from λx hx=>pG dQ x (ok.dW.key x hx) 3 (Ic _));obtain ⟨la,lc,rfl⟩:=l9 Hlen.o (au.rd (hR.pick bZ)) aU;have hrl:0<(t.bG.flatMap (bY dQ)).length:=by rw [lK Hlen.o];have:=ok.dW.qX;omega
 obtain ⟨bk,rfl⟩:=J3 (hR.pick bZ) hrl;have Hk:=uQ hk;have fV:=uQ ok;have tN:=uQ is;have Hb:=uQ hb;have He:=uQ he;have sV:=uQ hsz;have HB:=uQ hB;have vG:=uQ ok.dW.qX;have AQ:=uQ (show (aI k).length=32 by rw [bP,hk]);clear h hk ok is hb he hsz hB hrl;go_enter func134,ntmps134;go_wp2_with (with_reducible apply jy);refine ⟨jB hR aF aF ?_⟩;intro b4 w4 hS4;have hA:au w0 w4 (kY p 217 (.slice (some ⟨bk,0,none⟩) t.bG.length lc) t.n t.gB::aK 215 36 (.slice (some ⟨bk,0,none⟩) t.bG.length lc) (t.bG.flatMap (bY dQ))::pt b4 (.cells (aI k).toArray 34 (0,0))::F):=hS4.sb;clear hR hS4;go_wp2_with fail;refine (JZ vG.o hA).mono ?_;rintro ee w7 ⟨v',rfl,rfl,rfl⟩;go_wp2_with ((with_reducible refine dH ⟨?_⟩);refine kG hA aA (bW (bW (bJ (A:=pt b4 (.cells (aI k).toArray 34 (0,0)))))) underlying34 rfl yZ0 ?_);have hf:=Ti fV.o.dW (abQ sV.o aU) Hk.o He.o hA;clear hA
 refine hf.mono ?_;rintro ee w8 ⟨v',rfl,x,hx,rfl,oZ⟩;clear hf;have hlt:=aY.xK (k:=k) (d:=d) vG.o;by_cases h1:x.st=1;rotate_left
 ·have hd:decide (x.st=1)=false:=aes h1;have hno:m k=none:=by
   obtain ⟨_,q2⟩:=tN.o.some fV.o He.o hx;exact q2 h1
  have Hno:=uQ hno
  have ai7:=uQ (show aY.qo m k=m from by
   funext l
   unfold aY.qo;split
   ·rename_i e;rw [e,hno]
   ·rfl)
  clear h1 hx hno hlt;go_wp2_with fail;go_ret;exact ⟨_,rfl,by rw [Hno.o];rfl,by rw [ai7.o];exact bF.fA fV.o tN.o Hb.o (oZ.sb)⟩
 ·have hd:decide (x.st=1)=true:=aiC h1;have Ri:=uQ (show (m k).isSome=true from by rw [(tN.o.some fV.o He.o hx).1 h1];rfl);have AY:=uQ (Ku (f:=bY dQ) (k:=36) (i:=aY.pos k t.bG.length d) (x:=CY) Hlen.o (pG dQ _ rfl 3 rfl) hlt);obtain ⟨hn0,hok2⟩:=aY.alL fV.o He.o hx h1 (z:=CY) rfl rfl;have D8:=uQ (λn g=>aY.aoa tN.o (aY.aaq fV.o.dW He.o hx h1 (z:=CY) rfl rfl).2 n g);have hrl:(t.bG.flatMap (bY dQ)).length=36*t.bG.length:=lK Hlen.o;have hls:=pG dQ CY rfl 3 rfl;have hwn:IntKind.i64.wrap ((t.n:Int)-1)=((t.n-1:Nat):Int):=by rw [abR _ yS0];omega
  have hwg:IntKind.i64.wrap ((t.gB:Int)+1)=((t.gB+1:Nat):Int):=by rw [abR _ yS0];omega
  have hle:(t.bG.set (aY.pos k t.bG.length d) CY).length=t.bG.length:=akW;have Hb2:=uQ (show (t.n-1)+(t.gB+1)<=B by have:=Hb.o;omega);have yH:=uQ hok2;generalize hns:t.bG.set (aY.pos k t.bG.length d) CY=ns at *
  clear hns hok2;clear h1 hx;generalize aY.pos k t.bG.length d=P0 at *
  have c0:(0:Int)<=(P0:Int):=oQ;have c1:(P0:Int)<(t.bG.length:Int):=oQ
  go_wp2_with (first
   |((with_reducible refine dH ⟨?_⟩);refine jC oZ aA dh dG aF aC ?_)
   |((with_reducible apply Xi);refine ⟨?_⟩;refine FQ aA (λw=>asW w) ?_)
   |(with_reducible apply eG))
  refine ⟨aiu (vs:=bY dQ CY) (P0*36) oZ aA aA rfl (pJ eu) (by rw [hrl,hls];omega) (by rw [hls];kernel_rfl) (y7 dQ _ aA) ?_⟩;intro w12 sW;rw [<-AY.o]at sW;clear oZ
  go_wp2_with (first
   |((with_reducible refine dH ⟨?_⟩);refine jC sW aA dh dG aF aC ?_)
   |(with_reducible apply eG))
  refine ⟨jI (cs':=#[.slice (some ⟨bk,0,none⟩) t.bG.length lc,.int .i64 ((t.n-1:Nat):Int),.int .i64 t.gB]) sW aA aA aA eu dG aC aA ?_⟩;intro vU zY;clear sW
  go_wp2_with (first
   |((with_reducible refine dH ⟨?_⟩);refine jC zY aA dh dG aF aC ?_)
   |(with_reducible apply eG))
  refine ⟨jI (cs':=#[.slice (some ⟨bk,0,none⟩) t.bG.length lc,.int .i64 ((t.n-1:Nat):Int),.int .i64 ((t.gB+1:Nat):Int)]) zY aA aA aA eu dG aC aA ?_⟩;intro wW NK;clear zY hwn hwg;go_wp2_with fail;have hSd:=NK.drew;clear NK;have hw8:IntKind.i64.wrap (8*((t.n-1:Nat):Int))=8*((t.n-1:Nat):Int):=abR _ yS0;have awc:wrap64 (8*((t.n-1:Nat):Int))=8*((t.n-1:Nat):Int):=ajU _ yS0;have LK:=uQ (show t.n-1<=134217728 by have:=Hb.o;have:=HB.o;omega);clear hn0;generalize t.n-1=n1 at *
  generalize t.gB+1=g1 at *
  by_cases c8:8<t.bG.length
  ·have RZ:(8:Int)<(t.bG.length:Int):=oQ;have c8d:decide ((8:Int)<(t.bG.length:Int))=true:=aiC RZ;by_cases c9:8*n1<t.bG.length
   ·have Si:8*(n1:Int)<(t.bG.length:Int):=oQ;have c9d:decide (8*(n1:Int)<(t.bG.length:Int))=true:=aiC Si;refine VG ?_;intro hG;refine rP 0 ?_ (y:=bV);refine rP 1 ?_ (y:=jF);refine rP 2 ?_ (y:=eY);refine rt 3 (h:=?_);refine rP 4 ?_ (y:=(vX aF dX));refine rP 5 ?_ (y:=nT);refine rP 6 ?_ (y:=bV);refine rP 7 ?_ (y:=(kH aA aF));refine rP 8 ?_ (y:=(La aA aF));refine rP 9 ?_ (y:=(rM aA aF dX));refine ji 10 aF aC dF (rG aA aF aC yB0) aQ gQ ?_;refine rP 11 ?_ (y:=(aiD aA aF dX));refine rP 12 ?_ (y:=(kH aA aF));refine rP 13 ?_ (y:=(La aA aF));refine rP 14 ?_ (y:=(rM aA aF dX));refine ji 15 aF aC dF (rG aA aF aC yB0) aQ gQ ?_;refine rP 16 ?_ (y:=(vV aA aF aF dX));refine rP 17 ?_ (y:=(vV aA aF aF dX));refine rP 18 ?_ (y:=(qh aA aF aF));clear hG;refine fK aC ?_
    try simp only [kW]
    try go_frame
    have hrn:=agt (t:=⟨ns,n1,g1⟩) (N:=n1) yH.o (abG _) LK.o (by show ns.length<=_;have:=sV.o;omega) (hSd.sb:au w0 _ (kY p 217 (.slice (some ⟨bk,0,none⟩) t.bG.length lc) n1 g1::aK 215 36 (.slice (some ⟨bk,0,none⟩) t.bG.length lc) (ns.flatMap (bY dQ))::pt b4 (.cells (aI k).toArray 34 (0,0))::F));have e1:World.cell? _ ⟨p,1,none⟩=some (.int .i64 n1):=hSd.bI dh 1 rfl;clear hSd;go_wp2_with fail;refine hrn.mono ?_;rintro ee Cc ⟨v',rfl,s',sv',EJ,anb⟩;clear hrn;have YU:=uQ EJ;clear EJ e1;go_wp2_with fail;go_ret;exact ⟨_,rfl,by rw [Ri.o];rfl,bF.fA (t:=⟨s',n1,0⟩) YU.o.JY (YU.o.is (D8.o n1 g1) n1 0) (by have:=Hb2.o;simp only;omega) (anb.sb)⟩
   ·have Si:¬ 8*(n1:Int)<(t.bG.length:Int):=oQ;have c9d:decide (8*(n1:Int)<(t.bG.length:Int))=false:=aes Si;refine VG ?_;intro hG;refine rP 0 ?_ (y:=bV);refine rP 1 ?_ (y:=jF);refine rP 2 ?_ (y:=eY);refine rt 3 (h:=?_);refine rP 4 ?_ (y:=(vX aF dX));refine rP 5 ?_ (y:=nT);refine rP 6 ?_ (y:=bV);refine rP 7 ?_ (y:=(kH aA aF));refine rP 8 ?_ (y:=(La aA aF));refine rP 9 ?_ (y:=(rM aA aF dX));refine ji 10 aF aC dF (rG aA aF aC yB0) aQ gQ ?_;refine rP 11 ?_ (y:=(aiD aA aF dX));refine rP 12 ?_ (y:=(kH aA aF));refine rP 13 ?_ (y:=(La aA aF));refine rP 14 ?_ (y:=(rM aA aF dX));refine ji 15 aF aC dF (rG aA aF aC yB0) aQ gQ ?_;refine rP 16 ?_ (y:=(vV aA aF aF dX));refine rP 17 ?_ (y:=(vV aA aF aF dX));refine rP 18 ?_ (y:=(qh aA aF aF));clear hG;refine fK aC ?_
    try simp only [kW]
    try go_frame
    go_wp2_with fail;go_ret;exact ⟨_,rfl,by rw [Ri.o];rfl,bF.fA (t:=⟨ns,n1,g1⟩) yH.o (D8.o n1 g1) Hb2.o (hSd.sb)⟩
  ·have RZ:¬ (8:Int)<(t.bG.length:Int):=oQ;have c8d:decide ((8:Int)<(t.bG.length:Int))=false:=aes RZ;refine VG ?_;intro hG;refine rP 0 ?_ (y:=bV);refine rP 1 ?_ (y:=jF);refine rP 2 ?_ (y:=eY);refine rt 3 (h:=?_);refine rP 4 ?_ (y:=(vX aF dX));refine rP 5 ?_ (y:=nT);refine rP 6 ?_ (y:=bV);refine fF 7 aF aC dF aA gQ ?_;refine fF 8 aF aC dF aA gQ ?_;refine fF 9 aF aC dF aA gQ ?_;refine fF 10 aF aC dF aA gQ ?_;refine fF 11 aF aC dF aA gQ ?_;refine fF 12 aF aC dF aA gQ ?_;refine fF 13 aF aC dF aA gQ ?_;refine fF 14 aF aC dF aA gQ ?_;refine fF 15 aF aC dF aA gQ ?_;refine fF 16 aF aC dF aA gQ ?_;refine fF 17 aF aC dF aA gQ ?_;refine rP 18 ?_ (y:=(qh aA aF aF));clear hG;refine fK aC ?_
   try simp only [kW]
   try go_frame
   go_wp2_with fail;go_ret;exact ⟨_,rfl,by rw [Ri.o];rfl,bF.fA (t:=⟨ns,n1,g1⟩) yH.o (D8.o n1 g1) Hb2.o (hSd.sb)⟩
end
theorem ar6 (hB:B<=268435000) (hk:k.length=32) (h:au w0 w (eH r m aZ p ps pn d::bF pn mp B::F)) :
  Calls prog 179 #[aW r,.agg (aI k).toArray] w (bf λv w'=>v=.tuple #[.agg (dQ ((mp k).getD aB.bT.zero)).toArray,.bool (mp k).isSome]/\au w0 w' (eH r m aZ p ps pn d::bF pn mp B::F)):=by
 have u:=uQ hk;have g:=uQ (show (aI k).length=32 by rw [bP,hk]);have x:=uQ hB;clear hk hB
 go_in
 go_wp2_with (with_reducible apply jy);refine ⟨jB h aF aF ?_⟩;intro e I l;go_wp2_with (with_reducible apply jd);refine ⟨iR uz l rfl ?_⟩;intro n A a;replace a:au w0 A (eH r m aZ p ps pn d::pt n (.cells (dQ aB.bT.zero).toArray 115 (0,0))::pt e (.cells (aI k).toArray 34 (0,0))::bF pn mp B::F):=a.sb;clear h l;go_wp2_with fail;refine (xM a).mono ?_;rintro C J ⟨v,rfl,rfl,rfl⟩;go_wp2_with fail;have f:=a.drew;clear a;refine gK [5,6,7,8,9] (λw'=>w'.cell? ⟨r,4,none⟩=some (.pointer (some ⟨pn,0,none⟩))/\w'.rangeAt e 0 (aI k)) aC ?_;have D:World.cell? _ ⟨r,4,none⟩=some (.pointer (some ⟨pn,0,none⟩))/\World.rangeAt _ e 0 (aI k):=⟨f.bI bJ 4 rfl,λj z E=>by rw [aiO];exact f.bI jS j (by rw [ab5];exact E)⟩;refine rP 0 ?_ (y:=bV);refine rP 1 ?_ (y:=jF);refine rP 2 ?_ (y:=eY);refine rt 3 (h:=?_)
 refine ji 4 aF aC dF (lF (aI k) aA underlying34 rfl (by rw [g.o];kernel_rfl) (λw G=>G.2)) aQ gQ ?_;clear D;refine dZ 5 aF aC (λK b=>?_)
 (refine kM aC aF aF ?_)
 refine (GH x.o u.o f.sb).mono ?_;rintro C H ⟨v,rfl,rfl,o⟩;refine b _ _ (.inl rfl) ?_;clear b f;generalize c:(mp k).getD aB.bT.zero=L at *
 have i:=uQ c;clear c;refine rP 6 ?_ (y:=(lX aF dX));refine rP 7 ?_ (y:=(lX aF dX));have s:au w0 H (pt n (.cells (dQ aB.bT.zero).toArray 115 (0,0))::eH r m aZ p ps pn d::pt e (.cells (aI k).toArray 34 (0,0))::bF pn mp B::F):=o.sb;clear o;refine dZ 8 aF aC (λK b=>?_);refine qE s aF aF aA eu dG aC aA ?_;intro M t;refine b _ _ (.inl rfl) ?_;clear b s;refine rP 9 ?_ (y:=kR);refine fK aC ?_;go_wp2_with fail;refine ⟨rfl,_,uT rfl t aA bJ underlying115 rfl aC,_,rfl,?_,t.sb⟩;rw [i.o];rfl
theorem agN (hB:B<=268435000) (hk:k.length=32) (h:au w0 w (eH r m aZ p ps pn d::bF pn mp B::F)) :
  Calls prog 133 #[aW r,.agg (aI k).toArray] w (bf λv w'=>v=.bool (mp k).isSome/\au w0 w' (eH r m aZ p ps pn d::bF pn mp B::F)):=by
 have b:=(show (aI k).length=32 by rw [bP,hk])
 go_in
 go_wp2_with (apply jy);refine ⟨jB h aF aF ?_⟩;intro c e a;replace a:au w0 e (pt c (.cells (aI k).toArray 34 (0,0))::eH r m aZ p ps pn d::bF pn mp B::F):=a;go_wp2_with ((refine dH ⟨?_⟩);refine kG a aA bJ underlying34 rfl (by rw [abC,b];kernel_rfl) ?_);refine (ar6 hB hk a.sb).mono ?_;rintro l n ⟨v,rfl,rfl,f⟩;generalize (mp k).getD aB.bT.zero=g at *
 go_wp2_with (apply jd);refine ⟨iR uz f rfl ?_⟩;intro o s i;go_wp2_with (apply eG);refine ⟨jK (dQ g).toArray i aA aA aA eu aC aA ?_⟩;intro t j;go_wp2;go_ret;exact ⟨_,rfl,rfl,j.sb⟩
theorem ar5 (hB:B<=13000000) (h:au w0 w (eH r m aZ p ps pn d::bF pn mp B::F)) :
  Calls prog 51 #[aW r] w (bf λv w'=>∃ kv:List (ay.Bs×aB.bT),(aY.kE mp kv/\(∀ q∈kv,q.1.length=32)/\kv.length<=B)/\au w0 w' (aK 34 32 v (kv.flatMap λq=>aI q.1)::eH r m aZ p ps pn d::bF pn mp B::F)):=by
 have g:=h.dD 4 _ rfl;have b:=xM h;have c:=acW hB h.sb
 go_in
 go_wp2_with fail;refine b.mono ?_;rintro e i ⟨v,rfl,rfl,rfl⟩;go_wp2_with fail;refine c.mono ?_;rintro e j ⟨v,rfl,kv,a,f⟩;go_wp2;go_ret;exact ⟨_,rfl,kv,⟨a.1,by intros;exact a.2.1 (_,_) aQ,a.2.2⟩,f.sb⟩
theorem aqM {a b:Array Value} (h:a.size=b.size):iK a 0 b.toList=b:=by
 apply vS;rw [qY _ _ _ (by rw [ahN];omega),ajN,ajc,aiO,aiU (by rw [ahN,ahN];omega),ahB]
theorem ar4 (hB:B<=268435000) (hk:k.length=32) (pl:aB.bT) (hm:mp k=some pl) (hH:Ro w0 F iO) (hL:L.Ok) (hM:M.Ok K) (h1 : -9223372036854775808<=pl.aP/\pl.aP<=9223372036854775807) (h2 : -9223372036854775808<=pl.size/\pl.size<=9223372036854775807) (data:ay.Bs) (hdl:data.length<=140737488355328) (hr:L.read M pl=(⟨0,k,data⟩,0)) (h:au w0 w (eH r m aZ p ps pn d::bF pn mp B::bC p m L::aV m M::F)) :
  Calls prog 52 #[aW r,.agg (aI k).toArray] w (bf λv w'=>∃ bv a n c,v=.tuple #[bv,dS 0]/\bv=.slice a n c/\au w0 w' (cZ bv data::eH r m aZ p ps pn d::bF pn mp B::bC p m L::aV m M::F)):=by
 have O:=uQ hk;have I:=uQ (show (aI k).length=32 by rw [bP,hk]);have W:=uQ (λ(w':World) (R:List aO) (s:au w0 w' (bF pn mp B::R))=>GH hB hk s);rw [hm,avL,Option.isSome_some]at W;have Z:=uQ hH;have X:=uQ (λ(w':World) (R:List aO) (hh:Ro w0 R iO) (s:au w0 w' (bC p m L::aV m M::R))=>aoX hh hL hM pl h1 h2 s);rw [hr]at X;have aa:=uQ hdl;clear hk hB hm hH hL hM h1 h2 hr hdl;go_enter func52,ntmps52;go_wp2_with (with_reducible apply jy);refine ⟨jB h aF aF ?_⟩;intro f w3 h3;have h4:au w0 w3 (eH r m aZ p ps pn d::pt f (.cells (aI k).toArray 34 (0,0))::bF pn mp B::bC p m L::aV m M::F):=h3.sb;clear h h3;go_wp2_with fail;refine (xM h4).mono ?_;rintro S w5 ⟨v,rfl,rfl,rfl⟩;go_wp2_with fail;have T:=h4.drew;clear h4;refine gK [5,6,7,8,10,11] (λw'=>w'.cell? ⟨r,4,none⟩=some (.pointer (some ⟨pn,0,none⟩))/\w'.rangeAt f 0 (aI k)) aC ?_
 have g:∀ (w':World) (R:List aO),au w0 w' (eH r m aZ p ps pn d::pt f (.cells (aI k).toArray 34 (0,0))::R)->w'.cell? ⟨r,4,none⟩=some (.pointer (some ⟨pn,0,none⟩))/\w'.rangeAt f 0 (aI k):=λw' R s=>⟨s.bI bJ 4 rfl,λj z J=>by rw [aiO];exact s.bI bZ j (by rw [ab5];exact J)⟩;have i:=uQ g;have hG:=g _ _ T;clear g;refine rP 0 ?_ (y:=bV);refine rP 1 ?_ (y:=jF);refine rP 2 ?_ (y:=eY);refine rt 3 (h:=?_);refine ji 4 aF aC dF (lF (aI k) aA underlying34 rfl (by rw [I.o];kernel_rfl) (λw s=>s.2)) aQ gQ ?_;clear hG;refine BN 5 9 aF aF aC (λK e=>?_) (λK e=>?_)
 focus
  (refine kM aC aF aF ?_)
  refine (W.o _ _ (T.sb:au w0 _ (bF pn mp B::eH r m aZ p ps pn d::pt f (.cells (aI k).toArray 34 (0,0))::bC p m L::aV m M::F))).mono ?_;rintro S w6 ⟨v,rfl,rfl,P⟩;refine e _ _ (.inl rfl) ?_;clear e T;refine rP 6 ?_ (y:=bV);refine rP 7 ?_ (y:=(lX aF dX));refine rP 8 ?_ (y:=(lX aF dX));refine dZ 9 aF aC (λK e=>?_);refine vJ (uz) P rfl ?_;intro l Y Q;refine e _ _ (.inr (.inl (i.o _ _ (Q.sb:au w0 Y (eH r m aZ p ps pn d::pt f (.cells (aI k).toArray 34 (0,0))::pt l (.cells (dQ aB.bT.zero).toArray 115 (0,0))::bF pn mp B::bC p m L::aV m M::F))))) ?_;clear e P;have h8:au w0 Y (pt l (.cells (dQ aB.bT.zero).toArray 115 (0,0))::eH r m aZ p ps pn d::pt f (.cells (aI k).toArray 34 (0,0))::bF pn mp B::bC p m L::aV m M::F):=Q.sb;clear Q
 rotate_left
 focus
  refine vJ (uz) T rfl ?_;intro l w6 P;refine e _ _ (.inr (.inl (i.o _ _ (P.sb:au w0 w6 (eH r m aZ p ps pn d::pt f (.cells (aI k).toArray 34 (0,0))::pt l (.cells (dQ aB.bT.zero).toArray 115 (0,0))::bF pn mp B::bC p m L::aV m M::F))))) ?_;clear e T;refine dZ 5 aF aC (λK e=>?_)
  (refine kM aC aF aF ?_)
  refine (W.o _ _ (P.sb:au w0 _ (bF pn mp B::pt l (.cells (dQ aB.bT.zero).toArray 115 (0,0))::eH r m aZ p ps pn d::pt f (.cells (aI k).toArray 34 (0,0))::bC p m L::aV m M::F))).mono ?_;rintro S Y ⟨v,rfl,rfl,Q⟩;refine e _ _ (.inl rfl) ?_;clear e P;refine rP 6 ?_ (y:=bV);refine rP 7 ?_ (y:=(lX aF dX));refine rP 8 ?_ (y:=(lX aF dX));have h8:au w0 Y (pt l (.cells (dQ aB.bT.zero).toArray 115 (0,0))::eH r m aZ p ps pn d::pt f (.cells (aI k).toArray 34 (0,0))::bF pn mp B::bC p m L::aV m M::F):=Q.sb;clear Q
 all_goals
  refine dZ 10 aF aC (λK e=>?_);refine qE h8 aF aF aA eu dG aC aA ?_;intro w9 h9;refine e _ _ (.inl rfl) ?_;clear e h8;refine rP 11 ?_ (y:=kR);refine fK aC ?_;go_wp2_with fail;have C:=h9.drew;clear h9 i;refine gK [5,6,7,8,10,11] (λw'=>w'.cell? ⟨r,2,none⟩=some (.pointer (some ⟨p,0,none⟩))/\w'.rangeAt l 0 (dQ pl)) aC ?_;have g:∀ (w':World) (R:List aO),au w0 w' (pt l (.cells (dQ pl).toArray 115 (0,0))::eH r m aZ p ps pn d::R)->w'.cell? ⟨r,2,none⟩=some (.pointer (some ⟨p,0,none⟩))/\w'.rangeAt l 0 (dQ pl):=λw' R s=>⟨s.bI bZ 2 rfl,λj z J=>by rw [aiO];exact s.bI bJ j (by rw [ab5];exact J)⟩;have i:=uQ g;have hG:=g _ _ C;clear g;refine rP 0 ?_ (y:=bV);refine rP 1 ?_ (y:=jF);refine rP 2 ?_ (y:=eY);refine rt 3 (h:=?_);refine ji 4 aF aC dF (lF (dQ pl) aA underlying115 rfl aC (λw s=>s.2)) aQ gQ ?_;clear hG
  refine BN 5 9 aF aF aC (λK e=>?_) (λK e=>?_)
  focus
   (refine kM aC aF aF ?_)
   refine (X.o _ _ (Ro.os Z.o) (C.sb:au w0 _ (bC p m L::aV m M::pt l (.cells (dQ pl).toArray 115 (0,0))::eH r m aZ p ps pn d::pt f (.cells (aI k).toArray 34 (0,0))::bF pn mp B::F))).mono ?_;rintro S U ⟨v,rfl,E,G,rfl,t⟩;refine e _ _ (.inl rfl) ?_;clear e C;refine rP 6 ?_ (y:=bV);refine rP 7 ?_ (y:=(lX aF dX));refine rP 8 ?_ (y:=(lX aF dX));refine dZ 9 aF aC (λK e=>?_);refine vJ (FV) t rfl ?_;intro H N u;refine e _ _ (.inr (.inl (i.o _ _ (u.sb:au w0 N (pt l (.cells (dQ pl).toArray 115 (0,0))::eH r m aZ p ps pn d::pt H (.cells Ci.cells 71 (0,0))::cZ (.slice E data.length G) data::bC p m L::aV m M::pt f (.cells (aI k).toArray 34 (0,0))::bF pn mp B::F))))) ?_;clear e t
  rotate_left
  focus
   refine vJ (FV) C rfl ?_;intro H U t;refine e _ _ (.inr (.inl (i.o _ _ (t.sb:au w0 U (pt l (.cells (dQ pl).toArray 115 (0,0))::eH r m aZ p ps pn d::pt H (.cells Ci.cells 71 (0,0))::pt f (.cells (aI k).toArray 34 (0,0))::bF pn mp B::bC p m L::aV m M::F))))) ?_;clear e C;refine dZ 5 aF aC (λK e=>?_)
   (refine kM aC aF aF ?_)
   refine (X.o _ _ (Ro.os Z.o) (t.sb:au w0 _ (bC p m L::aV m M::pt H (.cells Ci.cells 71 (0,0))::pt l (.cells (dQ pl).toArray 115 (0,0))::eH r m aZ p ps pn d::pt f (.cells (aI k).toArray 34 (0,0))::bF pn mp B::F))).mono ?_;rintro S N ⟨v,rfl,E,G,rfl,u⟩;refine e _ _ (.inl rfl) ?_;clear e t;refine rP 6 ?_ (y:=bV);refine rP 7 ?_ (y:=(lX aF dX));refine rP 8 ?_ (y:=(lX aF dX));replace u:au w0 N (pt H (.cells Ci.cells 71 (0,0))::cZ (.slice E data.length G) data::bC p m L::aV m M::pt l (.cells (dQ pl).toArray 115 (0,0))::eH r m aZ p ps pn d::pt f (.cells (aI k).toArray 34 (0,0))::bF pn mp B::F):=u.sb
  all_goals
   refine dZ 10 aF aC (λK e=>?_);refine qE (v:= .agg (dR ⟨0,k,data⟩ (.slice E data.length G))) u aF aF (by exact aqM (show (dR ay.iL (.slice none 0 0)).size=(dR ⟨0,k,data⟩ (.slice E data.length G)).size by rw [iw _ _ (show (⟨0,k,data⟩:ay.aT).key.length=32 from O.o)];rfl)) eu (show 0+(dR ⟨0,k,data⟩ (.slice E data.length G)).size<=(dR ay.iL (.slice none 0 0)).size by rw [iw _ _ (show (⟨0,k,data⟩:ay.aT).key.length=32 from O.o)];exact abG _) (show _=some (dR ⟨0,k,data⟩ (.slice E data.length G)).size by rw [iw _ _ (show (⟨0,k,data⟩:ay.aT).key.length=32 from O.o)];exact zA) (SY _ _ _ _) ?_;intro D x;refine e _ _ (.inl rfl) ?_;clear e u;refine rP 11 ?_ (y:=kR);refine fK aC ?_;have e0:D.cell? ⟨H,0,none⟩=some (.int .i64 0):=x.bI bJ 0 (by unfold dR;rw [ab5];rfl)
   have f1:D.rangeAt H 1 (aI k):=λj z J=>x.bI bJ (1+j) (by unfold dR;rw [ab5];exact ame (⟨0,k,data⟩:ay.aT) _ J);have f2:D.rangeAt f 0 (aI k):=λj z J=>by rw [aiO];exact (x.pk (A:=pt f (.cells (aI k).toArray 34 (0,0)))).dD j z (by rw [ab5];exact J)
   have ac:D.cell? ⟨H,33,none⟩=some (.slice E data.length G):=x.bI bJ 33 (by unfold dR;rw [ab5];exact amd (⟨0,k,data⟩:ay.aT) _ O.o);have ad:∀ w,(binOp .neq 34 (.agg (aI k).toArray) (.agg (aI k).toArray)).run prog w=.ok (.bool false) w:=λw=>by rw [adR k k O.o O.o w];simp
   have V:=yL x (au.rd (x.sb:au w0 D (cZ (.slice E data.length G) data::F))) aa.o;clear i Z X W
   go_wp2_with (first
    |((with_reducible refine dH ⟨?_⟩);first
     |refine kQ (b:=H) (o:=1) (aI k) aA f1 underlying34 rfl (by rw [I.o];kernel_rfl) ?_
     |refine kQ (b:=f) (o:=0) (aI k) aA f2 underlying34 rfl (by rw [I.o];kernel_rfl) ?_)
    |((with_reducible apply BU);refine ⟨?_⟩;refine BX zA0 ?_))
   refine V.mono ?_;rintro S ae ⟨v,rfl,ab,a,n,c,rfl⟩;clear V;go_wp2_with fail
   go_ret2
   exact ⟨_,rfl,_,a,n,c,rfl,rfl,ab.sb⟩
theorem ar7 (hB:B<=134217000) (hk:k.length=32) (data:ay.Bs) (da:Option Addr) (dc:Nat) (hd:Ro w0 F (bK 1 (.slice da data.length dc) (aI data))) (Dk:data.length<=1099511627) (hL:L.Ok) (hM:M.Ok K) (rY:K+4<=1099511627776) (hH:Ro w0 F iO)
  (h0:(L.append M ⟨0,k,data⟩).2.2≠0) (h:au w0 w (eH r m aZ p ps pn d::bF pn mp B::bC p m L::aV m M::F)) :
  Calls prog 64 #[aW r,.agg (aI k).toArray,.slice da data.length dc] w (bf λv w'=>v=dS (L.append M ⟨0,k,data⟩).2.2/\au w0 w' (eH r m aZ p ps pn d::bF pn mp B::bC p m (L.append M ⟨0,k,data⟩).1.1::aV m (L.append M ⟨0,k,data⟩).1.2::F)):=by
 have l:(aI k).length=32:=by rw [bP,hk]
 have b:=uQ (λ(w':World) (R:List aO) N O (f:au w0 w' (bC p m L::aV m M::R))=>Oa ⟨0,k,data⟩ hk da dc O N Dk hL hM rY f);generalize L.append M ⟨0,k,data⟩=q at *
 obtain ⟨⟨E,G⟩,W,P⟩:=q;dsimp only at h0 b ⊢;have X:(P != 0)=true:=ajo.2 h0;have Y:=uQ hB;have n:=uQ hk;have A:=uQ l;have Hd:=uQ hd;have H:=uQ hH;clear hB hk l hd Dk hL hM rY hH
 go_in
 go_wp2_with (with_reducible apply jy);refine ⟨jB h aF aF ?_⟩;intro c Q o;replace o:au w0 Q (pt c (.cells (aI k).toArray 34 (0,0))::eH r m aZ p ps pn d::bF pn mp B::bC p m L::aV m M::F):=o;clear h;go_wp2_with fail;refine (xM o.sb).mono ?_;rintro I Z ⟨v,rfl,rfl,rfl⟩;go_wp2_with fail;have s:=o.drew;clear o;refine gK [7,8,9,10,12,13] (λw'=>w'.cell? ⟨r,2,none⟩=some (.pointer (some ⟨p,0,none⟩))/\w'.rangeAt c 0 (aI k)) aC ?_;have e:∀ (w':World) (R:List aO) J,au w0 w' (pt c (.cells (aI k).toArray 34 (0,0))::eH r m aZ p ps pn J::R)->w'.cell? ⟨r,2,none⟩=some (.pointer (some ⟨p,0,none⟩))/\w'.rangeAt c 0 (aI k):=λw' R J f=>⟨f.bI bZ 2 rfl,λj z S=>by rw [aiO];exact f.bI bJ j (by rw [ab5];exact S)⟩;have t:=uQ e;have T:=e _ _ _ s;clear e;refine rP 0 ?_ (y:=bV);refine rP 1 ?_ (y:=jF);refine rP 2 ?_ (y:=eY);refine rt 3 (h:=?_)
 refine ji 4 aF aC dF (lF (aI k) aA underlying34 rfl (by rw [A.o];kernel_rfl) (λw f=>f.2)) aQ gQ ?_;clear T;refine rP 5 ?_ (y:=bV);refine rP 6 ?_ (y:=(IW aF aF aF (λw=>ag0 ⟨0,k,data⟩ n.o da data.length dc w)));refine BN 7 11 aF aF aC (λK a=>?_) (λK a=>?_)
 ·(refine kM aC aF aF ?_)
  refine (b.o _ _ (Ro.os H.o) (Ro.os Hd.o) (s.sb:au w0 _ (bC p m L::aV m M::pt c (.cells (aI k).toArray 34 (0,0))::eH r m aZ p ps pn d::bF pn mp B::F))).mono ?_;rintro I U ⟨v,rfl,rfl,g⟩;refine a _ _ (.inl rfl) ?_;clear a b s;refine rP 8 ?_ (y:=bV);refine rP 9 ?_ (y:=(lX aF dX));refine rP 10 ?_ (y:=(lX aF dX));refine dZ 11 aF aC (λK a=>?_);refine vJ (uz) g rfl ?_;intro x C i;refine a _ _ (.inr (.inl (t.o _ _ _ i.sb))) ?_;clear a g;have u:au w0 C (pt x (.cells (dQ aB.bT.zero).toArray 115 (0,0))::pt c (.cells (aI k).toArray 34 (0,0))::eH r m aZ p ps pn d::bF pn mp B::bC p m E::aV m G::F):=i.sb;clear i;refine dZ 12 aF aC (λK a=>?_);refine qE u aF aF aA eu dG aC aA ?_;intro V D;refine a _ _ (.inl rfl) ?_;clear a u;refine rP 13 ?_ (y:=kR);refine fK aC ?_;go_wp2_with fail;go_ret;exact ⟨_,rfl,rfl,D.sb⟩
 ·refine vJ (uz) s rfl ?_;intro x U g;refine a _ _ (.inr (.inl (t.o _ _ _ g.sb))) ?_;clear a s;refine dZ 7 aF aC (λK a=>?_)
  (refine kM aC aF aF ?_)
  refine (b.o _ _ (Ro.os H.o) (Ro.os Hd.o) (g.sb:au w0 _ (bC p m L::aV m M::pt x (.cells (dQ aB.bT.zero).toArray 115 (0,0))::pt c (.cells (aI k).toArray 34 (0,0))::eH r m aZ p ps pn d::bF pn mp B::F))).mono ?_;rintro I C ⟨v,rfl,rfl,i⟩;refine a _ _ (.inl rfl) ?_;clear a b g;refine rP 8 ?_ (y:=bV);refine rP 9 ?_ (y:=(lX aF dX));refine rP 10 ?_ (y:=(lX aF dX));have u:au w0 C (pt x (.cells (dQ aB.bT.zero).toArray 115 (0,0))::pt c (.cells (aI k).toArray 34 (0,0))::eH r m aZ p ps pn d::bF pn mp B::bC p m E::aV m G::F):=i.sb;clear i;refine dZ 12 aF aC (λK a=>?_);refine qE u aF aF aA eu dG aC aA ?_;intro V D;refine a _ _ (.inl rfl) ?_;clear a u;refine rP 13 ?_ (y:=kR);refine fK aC ?_;go_wp2_with fail;go_ret;exact ⟨_,rfl,rfl,D.sb⟩
theorem agZ (k:ay.Bs) (hk:k.length=32) (w:World) :
  (Instr.build 71 #[(0,.int .i64 1),(1,.agg (aI k).toArray)]).run prog w=.ok (.agg (dR ⟨1,k,[]⟩ (.slice none 0 0))) w:=by
 have c:(dR ay.iL (.slice none 0 0)).size=34:=iw _ _ rfl;have a:(aI k).toArray.size=32:=by simp [aI,hk]
 have h:=uU [(0,.int .i64 1),(1,.agg (aI k).toArray)] OQ FV (by
  intro p d;simp only [ab9,ajW,av2]at d;have b:Ci.cells.size=34:=c;rw [b];rcases d with rfl|rfl
  ·exact ⟨0,rfl,by show 0+1<=34;omega⟩
  ·refine ⟨1,?_,?_⟩
   ·show some (1,32)=some (1,(aI k).toArray.size);rw [a]
   ·show 1+(aI k).toArray.size<=34;rw [a];omega) w
 refine h.trans ?_
 congr 2
 apply vS;refine (aqJ _ c _ _ (show (aI k).toArray.toList.length=32 by rw [agQ,bP,hk])).trans ?_
 rfl
theorem ar1 (hB:B<=134217000) (hk:k.length=32) (hm:mp k=none) (h:au w0 w (eH r m aZ p ps pn d::bF pn mp B::bC p m L::aV m M::F)) :
  Calls prog 65 #[aW r,.agg (aI k).toArray] w (bf λv w'=>v=dS 9/\au w0 w' (eH r m aZ p ps pn d::bF pn mp B::bC p m L::aV m M::F)):=by
 have b:=(show (aI k).length=32 by rw [bP,hk]);have c:=uQ (λ(w':World) (R:List aO) (f:au w0 w' (eH r m aZ p ps pn d::bF pn mp B::R))=>agN (abQ hB aU) hk f);rw [hm,Option.isSome_none]at c
 go_in
 go_wp2_with (apply jy);refine ⟨jB h aF aF ?_⟩;intro g i e;have a:au w0 i (eH r m aZ p ps pn d::bF pn mp B::pt g (.cells (aI k).toArray 34 (0,0))::bC p m L::aV m M::F):=e.sb;go_wp2_with fail;refine (xM a).mono ?_;rintro j n ⟨v,rfl,rfl,rfl⟩;go_wp2_with ((refine dH ⟨?_⟩);refine kG a aA jS underlying34 rfl (by rw [abC,b];kernel_rfl) ?_);refine (c.o _ _ a).mono ?_;rintro j o ⟨v,rfl,rfl,l⟩;go_wp2;go_ret;exact ⟨_,rfl,rfl,l.sb⟩
theorem ar0 (hB:B<=134217000) (hk:k.length=32) (pl:aB.bT) (hm:mp k=some pl) (hL:L.Ok) (hM:M.Ok K) (rY:K+4<=1099511627776) (hH:Ro w0 F iO) (h0:(L.append M ⟨1,k,[]⟩).2.2≠0) (h:au w0 w (eH r m aZ p ps pn d::bF pn mp B::bC p m L::aV m M::F)) :
  Calls prog 65 #[aW r,.agg (aI k).toArray] w (bf λv w'=>v=dS (L.append M ⟨1,k,[]⟩).2.2/\au w0 w' (eH r m aZ p ps pn d::bF pn mp B::bC p m (L.append M ⟨1,k,[]⟩).1.1::aV m (L.append M ⟨1,k,[]⟩).1.2::F)):=by
 refine agk ?_;intro Hk wZ HB HX hap;generalize L.append M ⟨1,k,[]⟩=q at *
 obtain ⟨⟨x,A⟩,O,G⟩:=q;dsimp only at h0 hap ⊢;have C:=uQ hH;have P:(G != 0)=true:=ajo.2 h0;clear hk hB hm hL hM rY hH h0
 go_in
 go_wp2_with (with_reducible apply jy);refine ⟨jB h aF aF ?_⟩;intro b H D;have n:au w0 H (eH r m aZ p ps pn d::bF pn mp B::pt b (.cells (aI k).toArray 34 (0,0))::bC p m L::aV m M::F):=D.sb;clear h D;go_wp2_with fail;refine (xM n).mono ?_;rintro s Q ⟨v,rfl,rfl,rfl⟩;go_wp2_with ((with_reducible refine dH ⟨?_⟩);refine kG n aA jS underlying34 rfl (by rw [abC,wZ.o];kernel_rfl) ?_);refine (HX.o _ _ n).mono ?_;rintro s E ⟨v,rfl,rfl,c⟩;clear n;go_wp2_with fail;have g:au w0 _ (pt b (.cells (aI k).toArray 34 (0,0))::eH r m aZ p ps pn d::bF pn mp B::bC p m L::aV m M::F):=(c.drew).sb;clear c;refine gK [6,7,8,9,11,12] (λw'=>w'.cell? ⟨r,2,none⟩=some (.pointer (some ⟨p,0,none⟩))/\w'.rangeAt b 0 (aI k)) aC ?_
 have e:∀ (w':World) (R:List aO),au w0 w' (pt b (.cells (aI k).toArray 34 (0,0))::eH r m aZ p ps pn d::R)->w'.cell? ⟨r,2,none⟩=some (.pointer (some ⟨p,0,none⟩))/\w'.rangeAt b 0 (aI k):=λw' R hw=>⟨hw.bI bZ 2 rfl,λj z I=>by rw [aiO];exact hw.bI bJ j (by rw [ab5];exact I)⟩;have i:=uQ e;have J:=e _ _ g;clear e;refine rP 0 ?_ (y:=bV);refine rP 1 ?_ (y:=jF);refine rP 2 ?_ (y:=eY);refine rt 3 (h:=?_);refine ji 4 aF aC dF (lF (aI k) aA underlying34 rfl zC0 (λw hw=>hw.2)) aQ gQ ?_;clear J;refine rP 5 ?_ (y:=(X9 aF aF (λw=>agZ k Hk.o w)));refine BN 6 10 aF aF aC (λK a=>?_) (λK a=>?_)
 ·(refine kM aC aF aF ?_)
  refine (hap.o _ _ (Ro.os C.o) (g.sb:au w0 _ (bC p m L::aV m M::pt b (.cells (aI k).toArray 34 (0,0))::eH r m aZ p ps pn d::bF pn mp B::F))).mono ?_;rintro s E ⟨v,rfl,rfl,c⟩;refine a _ _ (.inl rfl) ?_;clear a hap g;refine rP 7 ?_ (y:=bV);refine rP 8 ?_ (y:=(lX aF dX));refine rP 9 ?_ (y:=(lX aF dX));refine dZ 10 aF aC (λK a=>?_);refine vJ (uz) c rfl ?_;intro o t f;refine a _ _ (.inr (.inl (i.o _ _ f.sb))) ?_;clear a c;have l:au w0 t (pt o (.cells (dQ aB.bT.zero).toArray 115 (0,0))::pt b (.cells (aI k).toArray 34 (0,0))::eH r m aZ p ps pn d::bF pn mp B::bC p m x::aV m A::F):=f.sb;clear f;refine dZ 11 aF aC (λK a=>?_);refine qE l aF aF aA eu dG aC aA ?_;intro N u;refine a _ _ (.inl rfl) ?_;clear a l;refine rP 12 ?_ (y:=kR);refine fK aC ?_;go_wp2_with fail;go_ret;exact ⟨_,rfl,rfl,u.sb⟩
 ·refine vJ (uz) g rfl ?_;intro o E c;refine a _ _ (.inr (.inl (i.o _ _ c.sb))) ?_;clear a g;refine dZ 6 aF aC (λK a=>?_)
  (refine kM aC aF aF ?_)
  refine (hap.o _ _ (Ro.os C.o) (c.sb:au w0 _ (bC p m L::aV m M::pt o (.cells (dQ aB.bT.zero).toArray 115 (0,0))::pt b (.cells (aI k).toArray 34 (0,0))::eH r m aZ p ps pn d::bF pn mp B::F))).mono ?_;rintro s t ⟨v,rfl,rfl,f⟩;refine a _ _ (.inl rfl) ?_;clear a hap c;refine rP 7 ?_ (y:=bV);refine rP 8 ?_ (y:=(lX aF dX));refine rP 9 ?_ (y:=(lX aF dX));have l:au w0 t (pt o (.cells (dQ aB.bT.zero).toArray 115 (0,0))::pt b (.cells (aI k).toArray 34 (0,0))::eH r m aZ p ps pn d::bF pn mp B::bC p m x::aV m A::F):=f.sb;clear f;refine dZ 11 aF aC (λK a=>?_);refine qE l aF aF aA eu dG aC aA ?_;intro N u;refine a _ _ (.inl rfl) ?_;clear a l;refine rP 12 ?_ (y:=kR);refine fK aC ?_;go_wp2_with fail;go_ret;exact ⟨_,rfl,rfl,u.sb⟩
theorem ar2 (hB:B<=134217000) (hk:k.length=32) (pl:aB.bT) (hm:mp k=some pl) (hL:L.Ok) (hM:M.Ok K) (rY:K+4<=1099511627776) (hH:Ro w0 F iO) (h0:(L.append M ⟨1,k,[]⟩).2.2=0) (h:au w0 w (eH r m aZ p ps pn d::bF pn mp B::bC p m L::aV m M::F)) :
  Calls prog 65 #[aW r,.agg (aI k).toArray] w (bf λv w'=>v=dS 0/\au w0 w' (eH r m aZ p ps pn true::bF pn (aY.qo mp k) B::bC p m (L.append M ⟨1,k,[]⟩).1.1::aV m (L.append M ⟨1,k,[]⟩).1.2::F)):=by
 refine agk ?_;intro Hk wZ HB HX hap;generalize L.append M ⟨1,k,[]⟩=q at *
 obtain ⟨⟨L2,M2⟩,pc,I⟩:=q;dsimp only at h0 hap ⊢;have C:=uQ hH;subst h0;clear hk hB hm hL hM rY hH;go_enter func65,ntmps65;go_wp2_with (with_reducible apply jy);refine ⟨jB h aF aF ?_⟩;intro b3 G D;have x:au w0 G (eH r m aZ p ps pn d::bF pn mp B::pt b3 (.cells (aI k).toArray 34 (0,0))::bC p m L::aV m M::F):=D.sb;clear h D;go_wp2_with fail;refine (xM x).mono ?_;rintro i J ⟨v,rfl,rfl,rfl⟩;go_wp2_with ((with_reducible refine dH ⟨?_⟩);refine kG x aA jS underlying34 rfl (by rw [abC,wZ.o];kernel_rfl) ?_);refine (HX.o _ _ x).mono ?_;rintro i E ⟨v,rfl,rfl,c⟩;clear x;go_wp2_with fail;have l:au w0 _ (pt b3 (.cells (aI k).toArray 34 (0,0))::eH r m aZ p ps pn d::bF pn mp B::bC p m L::aV m M::F):=(c.drew).sb;clear c;refine gK [6,7,8,9,11,12] (λw'=>w'.cell? ⟨r,2,none⟩=some (.pointer (some ⟨p,0,none⟩))/\w'.rangeAt b3 0 (aI k)) aC ?_
 have f:∀ (w':World) (R:List aO),au w0 w' (pt b3 (.cells (aI k).toArray 34 (0,0))::eH r m aZ p ps pn d::R)->w'.cell? ⟨r,2,none⟩=some (.pointer (some ⟨p,0,none⟩))/\w'.rangeAt b3 0 (aI k):=λw' R hw=>⟨hw.bI bZ 2 rfl,λj z n=>by rw [aiO];exact hw.bI bJ j (by rw [ab5];exact n)⟩;have e:=uQ f;have s:=f _ _ l;clear f;refine rP 0 ?_ (y:=bV);refine rP 1 ?_ (y:=jF);refine rP 2 ?_ (y:=eY);refine rt 3 (h:=?_);refine ji 4 aF aC dF (lF (aI k) aA underlying34 rfl zC0 (λw hw=>hw.2)) aQ gQ ?_;clear s;refine rP 5 ?_ (y:=(X9 aF aF (λw=>agZ k Hk.o w)));refine BN 6 10 aF aF aC (λK a=>?_) (λK a=>?_)
 ·(refine kM aC aF aF ?_)
  refine (hap.o _ _ (Ro.os C.o) (l.sb:au w0 _ (bC p m L::aV m M::pt b3 (.cells (aI k).toArray 34 (0,0))::eH r m aZ p ps pn d::bF pn mp B::F))).mono ?_;rintro i E ⟨v,rfl,rfl,c⟩;refine a _ _ (.inl rfl) ?_;clear a hap l;refine rP 7 ?_ (y:=bV);refine rP 8 ?_ (y:=(lX aF dX));refine rP 9 ?_ (y:=(lX aF dX));refine dZ 10 aF aC (λK a=>?_);refine vJ (uz) c rfl ?_;intro b7 A g;refine a _ _ (.inr (.inl (e.o _ _ g.sb))) ?_;clear a c;have t:au w0 A (pt b7 (.cells (dQ aB.bT.zero).toArray 115 (0,0))::pt b3 (.cells (aI k).toArray 34 (0,0))::eH r m aZ p ps pn d::bF pn mp B::bC p m L2::aV m M2::F):=g.sb;clear g;refine dZ 11 aF aC (λK a=>?_);refine qE t aF aF aA eu dG aC aA ?_;intro H u;refine a _ _ (.inl rfl) ?_;clear a t;refine rP 12 ?_ (y:=kR);refine fK aC ?_;go_wp2_with fail
  have b:au w0 _ (pt b3 (.cells (aI k).toArray 34 (0,0))::eH r m aZ p ps pn d::bF pn mp B::pt b7 (.cells (dQ pc).toArray 115 (0,0))::bC p m L2::aV m M2::F):=(u.drew).sb;clear u e;refine gK [5] (λw'=>w'.cell? ⟨r,4,none⟩=some (.pointer (some ⟨pn,0,none⟩))/\w'.rangeAt b3 0 (aI k)) aC ?_;have s:World.cell? _ ⟨r,4,none⟩=some (.pointer (some ⟨pn,0,none⟩))/\World.rangeAt _ b3 0 (aI k):=⟨b.bI bZ 4 rfl,λj z n=>by rw [aiO];exact b.bI bJ j (by rw [ab5];exact n)⟩;refine rP 0 ?_ (y:=bV);refine rP 1 ?_ (y:=jF);refine rP 2 ?_ (y:=eY);refine rt 3 (h:=?_);refine ji 4 aF aC dF (lF (aI k) aA underlying34 rfl zC0 (λw hw=>hw.2)) aQ gQ ?_;clear s;refine dZ 5 aF aC (λK a=>?_)
  (refine kM aC aF aF ?_)
  refine (aap HB.o Hk.o b.sb).mono ?_;rintro i sH ⟨v,rfl,rfl,h11⟩;refine a _ _ (.inl rfl) ?_;clear a b;refine fK aC ?_;go_wp2_with (with_reducible apply eG);refine ⟨jI (h11.sb:au w0 sH (eH r m aZ p ps pn d::bF pn (aY.qo mp k) B::pt b3 (.cells (aI k).toArray 34 (0,0))::pt b7 (.cells (dQ pc).toArray 115 (0,0))::bC p m L2::aV m M2::F)) aA aA aA eu dG aC aA ?_⟩;intro w12 h12;go_wp2_with fail;go_ret;exact ⟨_,rfl,rfl,h12.sb⟩
 ·refine vJ (uz) l rfl ?_;intro b7 E c;refine a _ _ (.inr (.inl (e.o _ _ c.sb))) ?_;clear a l;refine dZ 6 aF aC (λK a=>?_)
  (refine kM aC aF aF ?_)
  refine (hap.o _ _ (Ro.os C.o) (c.sb:au w0 _ (bC p m L::aV m M::pt b7 (.cells (dQ aB.bT.zero).toArray 115 (0,0))::pt b3 (.cells (aI k).toArray 34 (0,0))::eH r m aZ p ps pn d::bF pn mp B::F))).mono ?_;rintro i A ⟨v,rfl,rfl,g⟩;refine a _ _ (.inl rfl) ?_;clear a hap c;refine rP 7 ?_ (y:=bV);refine rP 8 ?_ (y:=(lX aF dX));refine rP 9 ?_ (y:=(lX aF dX));have t:au w0 A (pt b7 (.cells (dQ aB.bT.zero).toArray 115 (0,0))::pt b3 (.cells (aI k).toArray 34 (0,0))::eH r m aZ p ps pn d::bF pn mp B::bC p m L2::aV m M2::F):=g.sb;clear g;refine dZ 11 aF aC (λK a=>?_);refine qE t aF aF aA eu dG aC aA ?_;intro H u;refine a _ _ (.inl rfl) ?_;clear a t;refine rP 12 ?_ (y:=kR);refine fK aC ?_;go_wp2_with fail;have b:au w0 _ (pt b3 (.cells (aI k).toArray 34 (0,0))::eH r m aZ p ps pn d::bF pn mp B::pt b7 (.cells (dQ pc).toArray 115 (0,0))::bC p m L2::aV m M2::F):=(u.drew).sb;clear u e
  refine gK [5] (λw'=>w'.cell? ⟨r,4,none⟩=some (.pointer (some ⟨pn,0,none⟩))/\w'.rangeAt b3 0 (aI k)) aC ?_;have s:World.cell? _ ⟨r,4,none⟩=some (.pointer (some ⟨pn,0,none⟩))/\World.rangeAt _ b3 0 (aI k):=⟨b.bI bZ 4 rfl,λj z n=>by rw [aiO];exact b.bI bJ j (by rw [ab5];exact n)⟩;refine rP 0 ?_ (y:=bV);refine rP 1 ?_ (y:=jF);refine rP 2 ?_ (y:=eY);refine rt 3 (h:=?_);refine ji 4 aF aC dF (lF (o:=0) (aI k) aA underlying34 rfl zC0 (λw hw=>hw.2)) aQ gQ ?_;clear s;refine dZ 5 aF aC (λK a=>?_)
  (refine kM aC aF aF ?_)
  refine (aap HB.o Hk.o b.sb).mono ?_;rintro i sH ⟨v,rfl,rfl,h11⟩;refine a _ _ (.inl rfl) ?_;clear a b;refine fK aC ?_;go_wp2_with (with_reducible apply eG);refine ⟨jI (cs':=#[aW m,.int .i64 aZ,aW p,aW ps,aW pn,.bool true]) (h11.sb:au w0 sH (eH r m aZ p ps pn d::bF pn (aY.qo mp k) B::pt b3 (.cells (aI k).toArray 34 (0,0))::pt b7 (.cells (dQ pc).toArray 115 (0,0))::bC p m L2::aV m M2::F)) aA aA aA eu dG aC aA ?_⟩;intro w12 h12;go_wp2_with fail;go_ret;exact ⟨_,rfl,rfl,h12.sb⟩
def Eh (x:ay.Bs×aB.bT):Array Value:=#[.agg (aI x.1).toArray,.agg (dQ x.2).toArray]
section
variable {m:ay.Bs->Option (aB.bT)}
theorem akb (h:au w0 w F):Calls prog 166 #[aW p] w
  (bf λv w'=>∃ b,v=.func (.func 209) #[] #[aW b]/\au w0 w' (pt b (.cells #[aW p] 105 (0,0))::F)):=by
 go_in
 exact afh
abbrev fH.IJ:=@bF
abbrev fH.DT:Nat:=105
abbrev fH.Qm:Nat:=209
abbrev fH.ahU:=@func209
abbrev fH.ahV:=@ntmps209
abbrev fH.ahW:=@agz
abbrev fH.BZ:=@Eh
abbrev fH.ahX:=@underlying215
abbrev fH.ahY:=@Ld
abbrev fH.ahZ:=@OO
open fH in
theorem aj9 {b:Nat}{l:List (ay.Bs×aB.bT)} (hB:B<=13000000) (hl:aY.kE m l) :
  Rn prog 209 #[aW b] (l.map Eh) w0 [bF p m B,pt b (.cells #[aW p] 105 (0,0))] [bF p m B,pt b (.cells #[aW p] 105 (0,0))]:=adw
end
def yT (b:Nat) (xs:List (ay.Bs×aB.bT)):aO:=Sl.ex λov:Value=>fP (pt b (.cells #[ov] 207 (0,0))) (aK 248 35 ov (xs.flatMap jU))
theorem ars {fn:Func}{t:Tmp} (h:fn.results=#[.tmp t]) (tmps:Array Value) (P:Program) (w:World):(results fn tmps).run P w=.ok (tmps.getD t undef) w:=by
 simp only [results,h];simp
theorem ama {P:Program}{w0 w:World}{F:List aO}{fn:Func}{a:Act}{K:Ending->World->Prop}{D:Nat}{v:Value} (ha:a.defers=[{ target:= .collected D,args:=#[] }]) (h:au w0 w (pt D (.deferred (some []))::F)) (hv:∀ w,(results fn a.tmps).run P w=.ok v w)
  (hK:∀ w',au w0 w' F->K (.returned v) w'):SS P fn K .ret a w:=by
 exact afY
section
variable {m:ay.Bs->Option aB.bT}{kv xs:List (ay.Bs×aB.bT)}
theorem aeo (h:au w0 w (yT b xs::F)):∃ ov,au w0 w (pt b (.cells #[ov] 207 (0,0))::aK 248 35 ov (xs.flatMap jU)::F):=by
 obtain ⟨ov,h1⟩:=au.ex.1 h;exact ⟨ov,au.fP.1 h1⟩
theorem aep {ov:Value} (h:au w0 w (pt b (.cells #[ov] 207 (0,0))::aK 248 35 ov (xs.flatMap jU)::F)):au w0 w (yT b xs::F):=au.ex.2 ⟨ov,au.fP.2 h⟩
theorem avt:nR prog 207=some (.slice none 0 0):=aC
theorem anG (hl:aY.kE m kv) (hB:B<=13000000) (hkl:kv.length<=13000000) (hks:∀ q∈kv,q.1.length=32) (h:au w0 w (bF p m B::F)) :
  Calls prog 115 #[aW p] w (bf λv w'=>au w0 w' (aK 248 35 v (kv.flatMap jU)::bF p m B::F)):=by
 have Hl:=uQ hl;have HB:=uQ hB;have zJ:=uQ hkl;have wZ:=uQ hks;clear hl hB hkl hks;refine ZN func115 rfl ?_;simp only [ntmps115,abC,aiT,ajw,Nat.reduceAdd,Nat.reduceSub,Array.replicate_succ,Array.replicate_zero,List.push_toArray,List.append_toArray,ajc,ajK];go_wp2_with (with_reducible apply jd);refine ⟨iR avt h rfl ?_⟩;intro b3 w3 h3;go_wp2_with fail;refine (akb h3).mono ?_;rintro ee w4 ⟨v,rfl,bA,rfl,h4⟩;go_wp2_with fail;have h5:au w0 w4 (bF p m B::pt bA (.cells #[aW p] 105 (0,0))::yT b3 (kv.take 0)::F):=by
  have h6:au w0 w4 (pt b3 (.cells #[.slice none 0 0] 207 (0,0))::bF p m B::pt bA (.cells #[aW p] 105 (0,0))::F):=h4.sb;exact (aep (xs:=[]) ((au.iW.2 h6).sb:au w0 w4 (pt b3 (.cells #[.slice none 0 0] 207 (0,0))::aK 248 35 (.slice none 0 0) []::bF p m B::pt bA (.cells #[aW p] 105 (0,0))::F))).sb
 clear h h3 h4;refine aiy (gf:=209) (lb:=#[aW bA]) aA (λargs w=>by kernel_rfl) (aj9 HB.o Hl.o) ?_ (λpre=>yT b3 (kv.take pre.length)::F) h5 ?_ ?_
 ·intro x hx;obtain ⟨p,_,rfl⟩:=abI.1 hx
  rfl
 ·clear h5;intro l pre x post U W hkv hS T hT;obtain ⟨i,hi⟩:∃ i,i=pre.length:=⟨_,rfl⟩;have hlt:i<kv.length:=by
   have:=aiX List.length hkv;rw [abl,aay,aiT]at this;omega
  obtain ⟨⟨k,y⟩,hy⟩:∃ p,kv[i]?=some p:=⟨_,aaf hlt⟩;obtain rfl:x=Eh (k,y):=by
   have e1:(kv.map Eh)[i]?=some (Eh (k,y)):=by rw [ab4,hy];rfl
   rw [hkv,hi,aiP (abG _),auP,List.getElem?_cons_zero]at e1;exact ajH e1
  have abX:=wZ.o _ (abH hy);have htk:kv.take (i+1)=kv.take i++[(k,y)]:=by rw [ajf,hy,akf]
  have hil:(pre++[Eh (k,y)]).length=i+1:=by rw [aay,hi];rfl
  have jl:=uQ htk;have LC:=uQ hil;have oV:=uQ (show k.length=32 from abX)
  have zK:=uQ (show ((kv.take i).flatMap jU).length<=2147483648 from by
   rw [lK (k:=35) λq hq=>qH q (wZ.o q (ajq hq)),abA];have:=zJ.o;omega)
  have hS0:au w0 W (yT b3 (kv.take i)::(F++U)):=by rw [hi];exact hS
  clear hkv hS hi hlt hy abX htk hil;simp [Eh]at hT;subst hT;refine wpIn_seq_k λK hK=>?_;refine BL aA λK2 hK2=>?_;go_wp2_with (with_reducible apply jd);refine ⟨iR Qx hS0 rfl ?_⟩;intro b5 w5 h5;go_wp2_with ((with_reducible refine eG ⟨?_⟩);refine jK (aI k).toArray h5 aA aA (by rw [abC,bP,oV.o];rfl) eu yU0 zF0 ?_;intro w6 h6);refine BL aA λK3 hK3=>?_;go_wp2_with (with_reducible apply jd);refine ⟨iR uz h6 rfl ?_⟩;intro b6 w7 h7;go_wp2_with ((with_reducible refine eG ⟨?_⟩);refine jK (dQ y).toArray h7 aA aA aA eu aC aA ?_;intro w8 h8);refine ⟨pt b6 (.cells (dQ y).toArray 115 (0,0))::pt b5 (.cells (aI k).toArray 34 (0,0))::yT b3 (kv.take i)::F,h8,?_⟩;clear h8 h7 h6 h5 hS0;intro U' w9 h9;have h10:au w0 w9 (pt b6 (.cells (dQ y).toArray 115 (0,0))::pt b5 (.cells (aI k).toArray 34 (0,0))::yT b3 (kv.take i)::(F++U')):=h9;clear h9
  obtain ⟨ov,h11⟩:=aeo (h10.sb:au w0 w9 (yT b3 (kv.take i)::pt b6 (.cells (dQ y).toArray 115 (0,0))::pt b5 (.cells (aI k).toArray 34 (0,0))::(F++U')));clear h10;obtain ⟨oa,on,oc,rfl,_,_⟩:=au.rd (h11.pick bZ);refine wpIn_block (BL aA λK6 hK6=>?_)
  go_wp2_with (first
   |((with_reducible refine dH ⟨?_⟩);first
    |refine kG h11 aA jS underlying115 rfl aC ?_
    |refine kG h11 aA mD underlying34 rfl yU0 ?_
    |refine jC h11 aA bJ dG aF aC ?_)
   |((with_reducible refine Jb ⟨?_⟩);refine KT aA aA (λw=>ag5 k oV.o y w) ?_)
   |((with_reducible refine rV ⟨?_⟩);refine rJ (e:=248) (sz:=35) (je:=56) (cs:=(jU (k,y)).toArray) aC h11 aA rfl (by rw [abC,qH _ oV.o]) dG ?_;intro bN wN hN)
   |(with_reducible apply oK))
  refine ⟨sJ (cs:=(jU (k,y)).toArray) 248 35 56 aC hN aA aA jS bJ (by rw [abC,qH _ oV.o]) dG (by rw [agQ];exact JG (k,y)) zK.o (by rw [abC,qH _ oV.o];decide) dG rfl ?_⟩;intro b' n' c' w12 h12;clear h11 hN;go_wp2_with (with_reducible apply eG);refine ⟨jI (cs':=#[.slice (some ⟨b',0,none⟩) n' c']) (h12.sb:au w0 w12 (pt b3 (.cells #[.slice oa on oc] 207 (0,0))::aK 248 35 (.slice (some ⟨b',0,none⟩) n' c') ((kv.take i).flatMap jU++jU (k,y))::(F++U'))) aA aA aA eu dG aC aA ?_⟩;intro vU h13;go_wp2_with fail;refine ⟨trivial,?_⟩;rw [LC.o,jl.o];have nJ:=aep (xs:=kv.take i++[(k,y)]) (by rw [ai5,aiN,am6,ahB];exact h13);exact nJ
 ·intro D w8 h8;have h9:au w0 w8 (bF p m B::pt bA (.cells #[aW p] 105 (0,0))::yT b3 kv::(F++[pt D (.deferred (some []))])):=by
   have q:=h8;rw [abl,ai0]at q;exact q
  have hA:au w0 w8 (pt D (.deferred (some []))::bF p m B::pt bA (.cells #[aW p] 105 (0,0))::yT b3 kv::F):=
   au.MB (L:=bF p m B::pt bA (.cells #[aW p] 105 (0,0))::yT b3 kv::F) (R:=[pt D (.deferred (some []))]) h9
  clear h5 h8 h9;obtain ⟨ov,hB2⟩:=aeo (hA.sb:au w0 w8 (yT b3 kv::pt D (.deferred (some []))::bF p m B::F));clear hA;obtain ⟨oa,on,oc,rfl,_,_⟩:=au.rd (hB2.pick bZ);go_wp2_with ((with_reducible refine dH ⟨?_⟩);refine jC hB2 aA bJ dG aF aC ?_);refine ama rfl (hB2.sb:au w0 w8 (pt D (.deferred (some []))::aK 248 35 (.slice oa on oc) (kv.flatMap jU)::bF p m B::F)) (λw=>ars (t:=2) aA _ _ w) ?_;intro w9 h9;exact ⟨_,rfl,h9⟩
end
section
variable {fb nb:Nat}{bs:List Nat}{wv:Value}{s:ByteArray}{l:iI}{fs:List dw}
theorem VR (hM:M.Ok K) (hK:K<=1099511627776) (h:au w0 w (aV m M::F)) (s t:ByteArray) (ht:t.size<=9223372036854775807) :
  Calls prog 159 #[aW m,.string s,.string t] w (bf λv w'=>v=dS (M.kC s t).2/\au w0 w' (aV m (M.kC s t).1::F)):=by
 obtain ⟨bs,fb,nb,wv,hl,f⟩:=aV.open h;have hg:=abx t w ht;cases ho:M.off
 ·cases hn:dN M.aN s with
  |none=>
   have hf:=EC (s:=s) f ho hn;have iT:Hid (M.kC s t=(M,9)):=by show _=_;simp [aG.kC,ho,hn]
   clear ho hn;go_enter func159,ntmps159;refine Pg ?_;exact Vs
  |some i=>
   have hf:=EF (s:=s) f ho hn;cases hgs:dW t
   ·rw [hgs]at hg;have iT:Hid (M.kC s t=(M,7)):=by show _=_;simp [aG.kC,ho,hn,hgs]
    clear ho hn hgs;go_enter func159,ntmps159;go_wp2_with (first|(go_at_call 76;refine hf.mono ?_;rintro e w1 ⟨v,rfl,rfl,rfl⟩)|(go_at_call 81;refine hg.mono ?_;rintro e w1 ⟨v,rfl,rfl,rfl⟩));go_ret;exact ⟨dS 7,rfl,by rw [iT.o],by rw [iT.o];exact h⟩
   rw [hgs]at hg;have a:=Fz f hM.left;cases hstep:M.step.2
   ·rw [hstep]at a;have iT:Hid (M.kC s t=(M.step.1,12)):=by show _=_;simp [aG.kC,ho,hn,hgs,hstep]
    clear ho hn hstep hgs;go_enter func159,ntmps159;go_wp2_with (first|(go_at_call 76;refine hf.mono ?_;rintro e w1 ⟨v,rfl,rfl,rfl⟩)|(go_at_call 81;refine hg.mono ?_;rintro e w1 ⟨v,rfl,rfl,rfl⟩)|(go_at_call 82;refine a.mono ?_;rintro e w1 ⟨v,rfl,rfl,hS1⟩));exact J8
   ·rw [hstep]at a;have iT:Hid (M.kC s t=(M.step.1.kL ⟨s,t,i⟩,0)):=by show _=_;simp [aG.kC,ho,hn,hgs,hstep]
    have b:=yx hgs;have hl':bs.length=M.step.1.dU.length:=by rw [M.qg.2.2.2.1];exact hl
    have c:vP bs ⟨s,t,i⟩=aW (bs.getD i 0):=by unfold vP;rw [abB b]
    have g:=uQ hl';have j:=uQ c;clear ho hn hstep hgs b hl' c;generalize n:bs.getD i 0=q at hf;have o:=uQ n;clear n;go_enter func159,ntmps159;go_wp2_with (first|(go_at_call 76;refine hf.mono ?_;rintro e w1 ⟨v,rfl,rfl,rfl⟩)|(go_at_call 81;refine hg.mono ?_;rintro e w1 ⟨v,rfl,rfl,rfl⟩)|(go_at_call 82;fail));refine a.mono ?_;rintro e w1 ⟨v,rfl,rfl,hS1⟩;have d:=adk hM.step hK g.o ⟨s,t,i⟩ (Fe hS1);rw [j.o,o.o]at d;go_wp2_with (go_at_call 83;go_must (refine d.mono ?_);rintro e r ⟨u,rfl,l⟩);refine O9 ?_;exact l
 ·have hf:=ED (s:=s) f ho;have iT:Hid (M.kC s t=(M,12)):=by show _=_;simp [aG.kC,ho]
  clear ho;go_enter func159,ntmps159;refine Pg ?_;exact O1
end
section
variable {q:Nat}
theorem JE (hM:M.Ok K) (s:ByteArray) (h:au w0 w (aV m M::F)):Calls prog 143 #[aW m,.string s] w (bf λv w'=>v=.bool (aH.there M s)/\w=w'):=by
 have a:=Fv hM h s;have b:=(show aH.there M s=decide ((M.size s).2=0) from rfl);generalize M.size s=r at *
 obtain ⟨n,e⟩:=r;dsimp only at a;have c:(e==0)=decide (e=0):=by rw [atd,alj,ad2]
 go_in
 go_wp2_with fail;refine a.mono ?_;rintro d f ⟨v,rfl,rfl,rfl⟩;go_wp2;go_ret;rw [b];exact ⟨_,rfl,by first|rfl|(rw [<-c];rfl)|simp,rfl⟩
theorem acD (hM:M.Ok K) (hK:K+4<=1099511627776) (s:ByteArray) (hs:s.size<=9223372036854775807) (b:Bs) (hr:Ro w0 F (bK 1 bv (aI b))) (hbv:∃ a n c,bv=.slice a n c) (h:au w0 w (aV m M::F)) :
  Calls prog 117 #[aW m,.string s,bv] w (bf λv w'=>v=dS (aH.gG M s b).2/\au w0 w' (aV m (aH.gG M s b).1::F)):=by
 obtain ⟨J,L,bc,rfl⟩:=hbv;have C:=uQ hr;have Hs:=uQ hs;have i:=JE hM aH.tmp h;clear hr hs;cases ht:aH.there M aH.tmp with
 |false=>
  have HX:=uQ (show aH.gG M s b=(if (M.dM aH.tmp).2=0 then aH.fill (M.dM aH.tmp).1 s b else M.dM aH.tmp) by unfold aH.gG aH.tJ;rw [ht];rfl);rw [ht]at i;clear ht
  go_in
  go_wp2_with fail;refine i.mono ?_;rintro ee D ⟨v,rfl,rfl,rfl⟩;clear i;have d:=Ji hM oQ h aH.tmp aU;have e:=hM.dM aH.tmp;generalize M.dM aH.tmp=t at *
  obtain ⟨M1,e1⟩:=t;dsimp only at d e;clear h;go_wp2_with fail;refine d.mono ?_;rintro ee E ⟨v,rfl,rfl,h3⟩;clear d;by_cases c1:e1=0;rotate_left
  ·exact aff
  subst c1;have HY:=uQ (show aH.gG M s b=aH.fill M1 s b from HX.o.trans (abL rfl));clear HX;have f:=Ja e oQ h3 aH.tmp b C.o;have ok2:=e.append aH.tmp b
  have HE:=uQ (show aH.fill M1 s b=(if (M1.append aH.tmp b).2=0 then
    (if ((M1.append aH.tmp b).1.dY aH.tmp).2=0 then ((M1.append aH.tmp b).1.dY aH.tmp).1.kC aH.tmp s else (M1.append aH.tmp b).1.dY aH.tmp)
   else if (M1.append aH.tmp b).2=11 then
    (if ((M1.append aH.tmp b).1.dA aH.tmp).2=0 then (((M1.append aH.tmp b).1.dA aH.tmp).1,11) else (M1.append aH.tmp b).1.dA aH.tmp)
   else M1.append aH.tmp b) from rfl)
  generalize M1.append aH.tmp b=u at *
  obtain ⟨M2,e2⟩:=u;dsimp only at f ok2;clear h3;go_wp2_with fail;refine f.mono ?_;rintro ee G ⟨v,rfl,rfl,h4⟩;clear f;by_cases c2:e2=0;rotate_left
  ·have x:(e2 != 0)=true:=ajo.2 c2;by_cases c3:e2=11
   ·subst c3;refine afp ?_;intro hrm HG;generalize M2.dA aH.tmp=j at *
    obtain ⟨M3,g⟩:=j;dsimp only at hrm;clear h4 c2 HY HE;go_wp2_with fail;refine hrm.mono ?_;rintro ee y ⟨v,rfl,rfl,h5⟩;clear hrm;by_cases c4:g=0
    ·have hb3:(g != 0)=false:=by rw [c4];rfl
     have HF:=uQ (HG.o.trans (abL c4));exact Ii
    ·have hb3:(g != 0)=true:=ajo.2 c4;have HF:=uQ (HG.o.trans (abB c4));exact Ii
   ·exact ae0
  subst c2;refine afq ?_;intro hsy Ai HG;generalize M2.dY aH.tmp=j at *
  obtain ⟨M3,g⟩:=j;dsimp only at hsy Ai;clear h4 HY HE;go_wp2_with fail;refine hsy.mono ?_;rintro ee y ⟨v,rfl,rfl,h5⟩;clear hsy;by_cases c4:g=0;rotate_left
  ·have hb3:(g != 0)=true:=ajo.2 c4;have HF:=uQ (show aH.gG M s b=(M3,g) from HG.o.trans (abB c4));exact Ii
  subst c4;exact agm
 |true=>
  rw [ht]at i;have hrm:=BM hM oQ h aH.tmp;have l:=hM.dA aH.tmp;have z:=uQ (show aH.gG M s b=(if (M.dA aH.tmp).2=0 then (if ((M.dA aH.tmp).1.dM aH.tmp).2=0 then aH.fill ((M.dA aH.tmp).1.dM aH.tmp).1 s b else (M.dA aH.tmp).1.dM aH.tmp) else M.dA aH.tmp) by unfold aH.gG aH.tJ;rw [ht];rfl);generalize M.dA aH.tmp=H at *
  obtain ⟨o,A⟩:=H;dsimp only at hrm l;clear ht
  go_in
  go_wp2_with fail;refine i.mono ?_;rintro ee D ⟨v,rfl,rfl,rfl⟩;clear i;go_wp2_with fail;refine hrm.mono ?_;rintro ee N ⟨v,rfl,rfl,B⟩;clear hrm h;by_cases r:A=0;rotate_left
  ·have I:(A != 0)=true:=ajo.2 r;have HF:=uQ (show aH.gG M s b=(o,A) from z.o.trans (abB r));clear r;go_wp2;go_ret;rw [HF.o];exact ⟨_,rfl,rfl,B⟩
  subst r;have HX:=uQ (show aH.gG M s b=(if (o.dM aH.tmp).2=0 then aH.fill (o.dM aH.tmp).1 s b else o.dM aH.tmp) from z.o.trans (abL rfl));clear z;have d:=Ji l oQ B aH.tmp aU;have e:=l.dM aH.tmp;generalize o.dM aH.tmp=t at *
  obtain ⟨M1,e1⟩:=t;dsimp only at d e;clear B;go_wp2_with fail;refine d.mono ?_;rintro ee E ⟨v,rfl,rfl,h3⟩;clear d;by_cases c1:e1=0;rotate_left
  ·exact aff
  subst c1;have HY:=uQ (show aH.gG M s b=aH.fill M1 s b from HX.o.trans (abL rfl));clear HX;have f:=Ja e oQ h3 aH.tmp b C.o;have ok2:=e.append aH.tmp b
  have HE:=uQ (show aH.fill M1 s b=(if (M1.append aH.tmp b).2=0 then
    (if ((M1.append aH.tmp b).1.dY aH.tmp).2=0 then ((M1.append aH.tmp b).1.dY aH.tmp).1.kC aH.tmp s else (M1.append aH.tmp b).1.dY aH.tmp)
   else if (M1.append aH.tmp b).2=11 then
    (if ((M1.append aH.tmp b).1.dA aH.tmp).2=0 then (((M1.append aH.tmp b).1.dA aH.tmp).1,11) else (M1.append aH.tmp b).1.dA aH.tmp)
   else M1.append aH.tmp b) from rfl)
  generalize M1.append aH.tmp b=u at *
  obtain ⟨M2,e2⟩:=u;dsimp only at f ok2;clear h3;go_wp2_with fail;refine f.mono ?_;rintro ee G ⟨v,rfl,rfl,h4⟩;clear f;by_cases c2:e2=0;rotate_left
  ·have x:(e2 != 0)=true:=ajo.2 c2;by_cases c3:e2=11
   ·subst c3;refine afp ?_;intro hrm HG;generalize M2.dA aH.tmp=j at *
    obtain ⟨M3,g⟩:=j;dsimp only at hrm;clear h4 c2 HY HE;go_wp2_with fail;refine hrm.mono ?_;rintro ee y ⟨v,rfl,rfl,h5⟩;clear hrm;by_cases c4:g=0
    ·have hb3:(g != 0)=false:=by rw [c4];rfl
     have HF:=uQ (HG.o.trans (abL c4));exact Ii
    ·have hb3:(g != 0)=true:=ajo.2 c4;have HF:=uQ (HG.o.trans (abB c4));exact Ii
   ·exact ae0
  subst c2;refine afq ?_;intro hsy Ai HG;generalize M2.dY aH.tmp=j at *
  obtain ⟨M3,g⟩:=j;dsimp only at hsy Ai;clear h4 HY HE;go_wp2_with fail;refine hsy.mono ?_;rintro ee y ⟨v,rfl,rfl,h5⟩;clear hsy;by_cases c4:g=0;rotate_left
  ·have hb3:(g != 0)=true:=ajo.2 c4;have HF:=uQ (show aH.gG M s b=(M3,g) from HG.o.trans (abB c4));exact Ii
  subst c4;exact agm
end
abbrev tZ (b ps:Nat):aO:=pt b (.cells #[aW ps] 103 (0,0))
theorem anH (f:ByteArray) (hf:f.size<=4000000000) (h:au w0 w (tZ b3 ps::fB ps n pi uv tv::F)) :
  Calls prog 119 #[.string f,aW b3] w (bf λv w'=>v=.bool (aH.kU n f)/\au w0 w' (tZ b3 ps::fB ps n pi uv tv::F)):=by
 have Ho:=uQ (show aH.kU n f=((aH.iD f).2 && (aH.iD f).1 != n) from rfl);have hn:=TS f hf h;generalize aH.iD f=q at *
 obtain ⟨x,t⟩:=q;dsimp only at hn
 go_in
 go_wp2_with fail;refine hn.mono ?_;rintro ee w1 ⟨v,rfl,rfl,h1⟩;cases t with
 |false=>
  exact Ph
 |true=>
  have e1:w1.cell? ⟨b3,0,none⟩=some (.pointer (some ⟨ps,0,none⟩)):=h1.bI bJ 0 rfl;have e2:w1.cell? ⟨ps,0,none⟩=some (.int .i64 n):=h1.bI bZ 0 rfl;exact Ph
theorem apZ (hM:M.Ok K) (s:ByteArray) (b:ay.Bs):(aH.fill M s b).1.Ok (K+3):=by
 unfold aH.fill;split
 ·split
  ·exact ((hM.append _ _).dY _).kC _ _
  ·exact ((hM.append _ _).dY _).mono oQ
 ·split
  ·split
   ·exact ((hM.append _ _).dA _).mono oQ
   ·exact ((hM.append _ _).dA _).mono oQ
  ·exact (hM.append _ _).mono oQ
theorem aej (hM:M.Ok K) (s:ByteArray) (b:ay.Bs):(aH.gG M s b).1.Ok (K+5):=by
 have hr:(aH.tJ M).1.Ok (K+1):=by
  unfold aH.tJ;split
  ·exact hM.dA _
  ·exact hM.mono oQ
 unfold aH.gG;split
 ·split
  ·exact apZ (hr.dM _) _ _
  ·exact (hr.dM _).mono oQ
 ·exact hr.mono oQ
theorem JV {ld:ByteArray} (hl:ld.data.toList.length=4) (hg:ld.data.toList.all vM=true) (h1:0<=n) (h2:n<1048576):(aH.name ld n).size<=24/\((aH.name ld n).toList==[])=false:=by
 have h:=aH.JU hl hg n h1 h2;unfold dW at h;simp only [ajg,ad2]at h;refine ⟨h.1.2,?_⟩;rw [acj,ByteArray.toList_eq];intro e;have:=aiX List.length e;rw [ahN]at this;have h3:(aH.name ld n).size=0:=this;omega
theorem at6 (hM:M.Ok K) (hK:K+500<=1099511627776) (hno:∀ f∈M.list,f.size<=4000000000) (h:au w0 w (aV m M::tZ b3 ps::fB ps n pi uv tv::F)) :
  Calls prog 109 #[aW m,.func (.func 119) #[] #[aW b3]] w (bf λv w'=>v=dS (aH.lI (aH.kU n) M.list M).2/\au w0 w' (aV m (aH.lI (aH.kU n) M.list M).1::tZ b3 ps::fB ps n pi uv tv::F)):=by
 have u:=JL hM h;have Hlen:=uQ (Ur hM);have L:=uQ hno;have N:=uQ hK;have O:=uQ hM;clear hno hM hK;generalize M.list=l at *
 obtain ⟨R,z⟩:∃ R,aH.lI (aH.kU n) l M=R:=⟨_,rfl⟩;have P:=uQ z;rw [z];clear z;go_enter func109,ntmps109;go_wp2_with fail;refine u.mono ?_;rintro e W ⟨v,rfl,A,_⟩;clear u h;obtain ⟨a,c,rfl⟩:=UO (au.rd A);go_wp2_with fail
 go_loopg [11] l.length (λg Q S=>∃ (i:Nat) (M2:aG),g=l.length-i/\i<=l.length/\Q=.int .i64 i/\(aH.lI (aH.kU n) (l.drop i) M2=R/\M2.Ok (K+i))/\au w0 S (aK 9 1 (.slice a l.length c) (nG l)::aV m M2::tZ b3 ps::fB ps n pi uv tv::F))
 case atStart=>exact ⟨0,M,rfl,acn _,rfl,⟨by rw [av5];exact P.o,O.o⟩,A⟩
 case round=>
  obtain ⟨i,M2,rfl,hi,rfl,⟨hsw,hok⟩,hS2⟩:=hrel;clear A;by_cases hlt:i<l.length
  ·have c1:(i:Int)<(l.length:Int):=oQ;refine O5 ?_;intro hwi;obtain ⟨s,hs⟩:∃ s,l[i]?=some s:=⟨_,aaf hlt⟩;obtain ⟨H,off,rfl,B⟩:=JX (au.rd hS2) hs;have C:=L.o s (abH hs);have hd:l.drop i=s::l.drop (i+1):=by
    rw [ajB hlt];rw [aaf hlt]at hs;cases hs;rfl
   rw [hd]at hsw;have dP:=uQ hlt;have D:=uQ hok;have j:=anH s C hS2.sb;cases hso:aH.kU n s with
   |false=>
    have b:=uQ (show aH.lI (aH.kU n) (l.drop (i+1)) M2=R by unfold aH.lI at hsw;rwa [abB (by rw [hso];decide)]at hsw);rw [hso]at j;clear hs hlt hi hso hsw hd hok;go_wp2_with fail;refine j.mono ?_;rintro e I ⟨v,rfl,rfl,d⟩;clear hS2 B j;go_wp2_with fail
    go_roundg (l.length-(i+1))
    case measure=>have:=dP.o;omega
    case rel=>exact ⟨i+1,M2,rfl,aiW dP.o,by first|rfl|go_num,⟨b.o,D.o.mono oQ⟩,d.sb⟩
   |true=>
    have b:=uQ (show (if (M2.dA s).2=0 then aH.lI (aH.kU n) (l.drop (i+1)) (M2.dA s).1 else M2.dA s)=R by unfold aH.lI at hsw;rwa [abL hso]at hsw);rw [hso]at j;have o:=uQ (λ(w':World) (T:au w0 w' (aV m M2::tZ b3 ps::fB ps n pi uv tv::aK 9 1 (.slice (some ⟨H,off,none⟩) l.length c) (nG l)::F))=>BM hok (by have:=N.o;have:=Hlen.o;omega) T s);have yH:=uQ (hok.dA s);generalize M2.dA s=q at *
    obtain ⟨M3,y⟩:=q;dsimp only at o yH b;clear hlt hi hso hsw hd hok;go_wp2_with fail;refine j.mono ?_;rintro e I ⟨v,rfl,rfl,d⟩;clear hS2 j;have r:au w0 I (aK 9 1 (.slice (some ⟨H,off,none⟩) l.length c) (nG l)::aV m M2::tZ b3 ps::fB ps n pi uv tv::F):=d.sb;obtain ⟨U,J,E,x⟩:=JX (au.rd r) hs;cases E;by_cases t:y=0
    ·have G:(y != 0)=false:=by rw [t];rfl
     have rU:=uQ (show aH.lI (aH.kU n) (l.drop (i+1)) M3=R from (abL t).symm.trans b.o);clear t B hs b;go_wp2_with fail;refine (o.o _ (d.sb)).mono ?_;rintro e V ⟨v,rfl,rfl,hS5⟩;clear d r x;exact ae8
    ·have G:(y != 0)=true:=ajo.2 t;have rU:=uQ (show (M3,y)=R from (abB t).symm.trans b.o);clear t B hs b;go_wp2_with fail;refine (o.o _ (d.sb)).mono ?_;rintro e V ⟨v,rfl,rfl,hS5⟩;clear d r x;exact afW
  ·exact aeS
theorem acr (hM:M.Ok K) (hK:K+600<=1099511627776) (hn0:0<=n) (hn1:n<1048576) (kv:List (ay.Bs×aB.bT)) (hl:aY.kE mp kv) (hB:B<=13000000) (hk:∀ q∈kv,q.1.length=32) (us:List aJ.gX) (hoi:bH.Ok 3 true (kv.map aJ.mO)) (hou:bH.Ok 3 false (us.map aJ.mV))
  (bi bu:ay.Bs) (hbi:bi=bH.jM Xx.sum bH.xH true (kv.map aJ.mO)) (hbu:bu=bH.jM Xx.sum bH.xI false (us.map aJ.mV))
  (hno:∀ f∈(aH.gG (aH.gG M (aH.name aH.gY n) bi).1 (aH.name aH.kJ n) bu).1.fU.1.list,f.size<=4000000000)
  (h:au w0 w (fB ps n pi uv tv::bF pi mp B::aK 205 3 uv (us.flatMap dO)::aV m M::F)) :
  Calls prog 47 #[aW m,aW ps] w (bf λv w'=>v=dS (aH.nO M n bi bu).2/\au w0 w' (fB ps n pi uv tv::bF pi mp B::aK 205 3 uv (us.flatMap dO)::aV m (aH.nO M n bi bu).1::F)):=by
 obtain ⟨z1,z2⟩:=JV (ld:=aH.gY) rfl aU hn0 hn1;obtain ⟨z3,_⟩:=JV (ld:=aH.kJ) rfl aU hn0 hn1;have E:kv.length<=13000000:=by have:=hoi.len;rw [abl]at this;omega
 have HM:=uQ hM;have HK:=uQ hK;have Hl:=uQ hl;have HB:=uQ hB;have Hk:=uQ hk;have aa:=uQ hoi;have ab:=uQ hou;have e:=uQ hno;have ac:=uQ E;have ad:=uQ hbi;have ae:=uQ hbu;have af:=uQ z1;have ag:=uQ z3;have G:=uQ (λ(w':World) (R:List aO) (a:au w0 w' R)=>NW n a);have ah:=uQ (λ(w':World) (R:List aO) (a:au w0 w' R)=>Qh n a);have Y:=uQ (show aH.nO M n bi bu=if (aH.gG M (aH.name aH.gY n) bi).2=0 then aH.WC (aH.gG M (aH.name aH.gY n) bi).1 n bu else aH.gG M (aH.name aH.gY n) bi from rfl);clear hM hK hl hB hk hoi hou hno hbi hbu E z1 z3;generalize ai:aH.name aH.gY n=ni at *
 generalize H:aH.name aH.kJ n=nu at *
 have aj:=uQ H;clear ai H;go_enter func47,ntmps47;go_wp2_with (with_reducible apply jy);refine ⟨jB h aA aA ?_⟩;intro b3 Z j;replace j:au w0 Z (tZ b3 ps::fB ps n pi uv tv::bF pi mp B::aK 205 3 uv (us.flatMap dO)::aV m M::F):=j;clear h;have g:Z.cell? ⟨b3,0,none⟩=some (.pointer (some ⟨ps,0,none⟩)):=j.bI bJ 0 rfl;have I:Z.cell? ⟨ps,1,none⟩=some (.pointer (some ⟨pi,0,none⟩)):=j.bI bZ 1 rfl;have J:Z.cell? ⟨ps,0,none⟩=some (.int .i64 n):=j.bI bZ 0 rfl;go_wp2_with fail;refine (G.o _ _ j).mono ?_;rintro i w4 ⟨v,rfl,rfl,h4⟩;clear j g I J;have g:w4.cell? ⟨b3,0,none⟩=some (.pointer (some ⟨ps,0,none⟩)):=h4.bI bJ 0 rfl;have I:w4.cell? ⟨ps,1,none⟩=some (.pointer (some ⟨pi,0,none⟩)):=h4.bI bZ 1 rfl;go_wp2_with fail
 refine (anG Hl.o HB.o ac.o Hk.o (h4.sb:au w0 w4 (bF pi mp B::tZ b3 ps::fB ps n pi uv tv::aK 205 3 uv (us.flatMap dO)::aV m M::F))).mono ?_;rintro i w5 ⟨rv,rfl,h5⟩;clear h4 g I;go_wp2_with fail;refine (akT kv Hk.o aa.o (λw a=>au.rd a) h5).mono ?_;rintro i w6 ⟨v,rfl,iv,rfl,l⟩;clear h5;rw [<-ad.o]at l;replace l:au w0 w6 (mX iv bi::tZ b3 ps::fB ps n pi uv tv::bF pi mp B::aK 205 3 uv (us.flatMap dO)::aV m M::F):=l.sb;have g:w6.cell? ⟨b3,0,none⟩=some (.pointer (some ⟨ps,0,none⟩)):=l.bI bZ 0 rfl;have I:w6.cell? ⟨ps,2,none⟩=some uv:=l.bI jS 2 rfl;go_wp2_with fail;refine (ak2 us ab.o (λw a=>au.rd (a.sb:au w0 w (aK 205 3 uv (us.flatMap dO)::mX iv bi::tZ b3 ps::fB ps n pi uv tv::bF pi mp B::aV m M::F))) l).mono ?_;rintro i w7 ⟨v,rfl,L,rfl,N⟩;clear l g I;rw [<-ae.o]at N
 have g:w7.cell? ⟨b3,0,none⟩=some (.pointer (some ⟨ps,0,none⟩)):=N.bI jS 0 rfl;have J:w7.cell? ⟨ps,0,none⟩=some (.int .i64 n):=N.bI mD 0 rfl;go_wp2_with fail;refine (G.o _ _ N).mono ?_;rintro i w8 ⟨v,rfl,rfl,O⟩;clear N g J;replace O:au w0 w8 (aV m M::mX L bu::mX iv bi::tZ b3 ps::fB ps n pi uv tv::bF pi mp B::aK 205 3 uv (us.flatMap dO)::F):=O.sb;have b:=(RS.U0 (O.sb:au w0 w8 (mX iv bi::aV m M::mX L bu::tZ b3 ps::fB ps n pi uv tv::bF pi mp B::aK 205 3 uv (us.flatMap dO)::F)));obtain ⟨ia,il,ic,rfl,_,_⟩:=b.cap;have o:=acD HM.o yN0 ni (by have:=af.o;omega) bi (bv:= .slice ia il ic) (λw a=>RD (a.sb:au w0 w (mX (.slice ia il ic) bi::mX L bu::tZ b3 ps::fB ps n pi uv tv::bF pi mp B::aK 205 3 uv (us.flatMap dO)::F))) ⟨_,_,_,rfl⟩ O;have r:=aej HM.o ni bi;clear b;generalize aH.gG M ni bi=r1 at *
 obtain ⟨s,q1⟩:=r1;dsimp only at o r Y e;go_wp2_with fail;refine o.mono ?_;rintro i w9 ⟨v,rfl,rfl,P⟩;clear o O;by_cases Q:q1=0;rotate_left
 ·have S:(q1 != 0)=true:=ajo.2 Q;have HF:=uQ (show aH.nO M n bi bu=(s,q1) from Y.o.trans (abB Q));clear Q;go_wp2_with fail;go_ret;exact ⟨_,rfl,by rw [HF.o];rfl,by rw [HF.o];exact P.sb⟩
 ·have c:=uQ (show aH.nO M n bi bu=(if (aH.gG s (aH.name aH.kJ n) bu).2=0 then aH.WE (aH.gG s (aH.name aH.kJ n) bu).1 n else aH.gG s (aH.name aH.kJ n) bu) from Y.o.trans (abL Q));rw [aj.o]at c;subst Q;have g:w9.cell? ⟨b3,0,none⟩=some (.pointer (some ⟨ps,0,none⟩)):=P.bI mD 0 rfl;have J:w9.cell? ⟨ps,0,none⟩=some (.int .i64 n):=P.bI (bW mD) 0 rfl;go_wp2_with fail;refine (ah.o _ _ P).mono ?_;rintro i T ⟨v,rfl,rfl,d⟩;clear P g J;replace d:au w0 T (aV m s::mX L bu::tZ b3 ps::fB ps n pi uv tv::bF pi mp B::aK 205 3 uv (us.flatMap dO)::F):=d.sb;have b:=(RS.U0 (d.sb:au w0 T (mX L bu::aV m s::tZ b3 ps::fB ps n pi uv tv::bF pi mp B::aK 205 3 uv (us.flatMap dO)::F)));obtain ⟨ua,ul,uc,rfl,_,_⟩:=b.cap
  have t:=acD r yN0 nu (by have:=ag.o;omega) bu (bv:= .slice ua ul uc) (λw a=>RD (a.sb:au w0 w (mX (.slice ua ul uc) bu::tZ b3 ps::fB ps n pi uv tv::bF pi mp B::aK 205 3 uv (us.flatMap dO)::F))) ⟨_,_,_,rfl⟩ d;have u:=aej r nu bu;clear b Y;generalize aH.gG s nu bu=r2 at *
  obtain ⟨C,q2⟩:=r2;dsimp only at t u c e;go_wp2_with fail;refine t.mono ?_;rintro i am ⟨v,rfl,rfl,x⟩;clear t d;by_cases U:q2=0;rotate_left
  ·have S:(q2 != 0)=true:=ajo.2 U;have HF:=uQ (show aH.nO M n bi bu=(C,q2) from c.o.trans (abB U));clear U;go_wp2_with fail;go_ret;exact ⟨_,rfl,by rw [HF.o];rfl,by rw [HF.o];exact x.sb⟩
  ·have y:=uQ (show aH.nO M n bi bu=(if C.fU.2=0 then aH.lI (aH.kU n) C.fU.1.list C.fU.1 else C.fU) from c.o.trans (abL U));subst U;have z:=KG u x;have V:=u.fU;clear c;generalize C.fU=r3 at *
   obtain ⟨D,q3⟩:=r3;dsimp only at z V y e;go_wp2_with fail;refine z.mono ?_;rintro i ak ⟨v,rfl,rfl,W⟩;clear z x;by_cases X:q3=0;rotate_left
   ·have S:(q3 != 0)=true:=ajo.2 X;have HF:=uQ (show aH.nO M n bi bu=(D,q3) from y.o.trans (abB X));clear X;go_wp2_with fail;go_ret;exact ⟨_,rfl,by rw [HF.o];rfl,by rw [HF.o];exact W.sb⟩
   ·have HF:=uQ (show aH.nO M n bi bu=aH.lI (aH.kU n) D.list D from y.o.trans (abL X));subst X;have A:=at6 V yN0 e.o (W.sb:au w0 ak (aV m D::tZ b3 ps::fB ps n pi uv tv::bF pi mp B::aK 205 3 uv (us.flatMap dO)::F));generalize aH.lI (aH.kU n) D.list D=r4 at *
    obtain ⟨M4,q4⟩:=r4;dsimp only at A HF;go_wp2_with fail;refine A.mono ?_;rintro i an ⟨v,rfl,rfl,al⟩;clear A;go_wp2_with fail;go_ret;exact ⟨_,rfl,by rw [HF.o];rfl,by rw [HF.o];exact al.sb⟩
section
variable {B0 n:Nat}{C:List (List ay.aT)}
theorem arW (h:au w0 w (eH r m aZ p ps pn false::F)):Calls prog 66 #[aW r] w (bf λv w'=>v=dS 0/\w=w'):=by
 have b:=h.dD 5 _ rfl;have a:=xM h
 go_in
 go_wp2_with fail;refine a.mono ?_;rintro c d ⟨v,rfl,rfl,rfl⟩;go_wp2;go_ret;exact ⟨_,rfl,rfl,rfl⟩
theorem arY (hL:L.Ok) (hM:M.Ok K) (rY:K+6<=1099511627776) (hH:Ro w0 F iO) (hz:(L.jO M).2.2≠0) (h:au w0 w (eH r m aZ p ps pn true::bC p m L::aV m M::F)) :
  Calls prog 66 #[aW r] w (bf λv w'=>v=dS (L.jO M).2.2/\au w0 w' (eH r m aZ p ps pn true::bC p m (L.jO M).1.1::aV m (L.jO M).1.2::F)):=by
 have a:=Ul (Ro.os hH) hL hM rY (h.sb:au w0 w (bC p m L::aV m M::eH r m aZ p ps pn true::F));generalize L.jO M=q at *
 obtain ⟨⟨d,e⟩,f,g⟩:=q;dsimp only at a hz ⊢;have e5:w.cell? ⟨r,5,none⟩=some (.bool true):=h.dD 5 _ rfl;have e2':w.cell? ⟨r,2,none⟩=some (.pointer (some ⟨p,0,none⟩)):=h.dD 2 _ rfl;have hok:=xM h
 go_in
 go_wp2_with fail;refine hok.mono ?_;rintro b j ⟨v,rfl,rfl,rfl⟩;go_wp2_with fail;refine a.mono ?_;rintro b l ⟨v,rfl,rfl,c⟩;go_wp2;go_ret;exact ⟨_,rfl,rfl,c.sb⟩
end
theorem KD {K:Nat}{M:aG} (h:M.Ok K) (ho:M.off=false):M.size ByteArray.empty=(0,9):=by
 exact ae9
section
variable {bm:Nat}{lv:Value}{f:Int->Int}
theorem anB (q:aB.bT) (hb:IntKind.i64.wrap (f q.aZ-q.aP)=f q.aZ-q.aP) (h:au w0 w (oM bm f::F)) :
  Calls prog 148 #[.agg (dQ q).toArray,.map (some bm)] w (bf λv w'=>v=.bool (aH.zB q f)/\au w0 w' (oM bm f::F)):=by
 have b:=uQ (show aH.zB q f=(decide (8<=q.aP) && (decide (41<=q.size) && decide (q.size<=f q.aZ-q.aP))) from rfl)
 go_in
 go_wp2_with (with_reducible apply jy);refine ⟨jB h aA aA ?_⟩;intro b2 d h2;clear h;have g:d.cell? ⟨b2,0,none⟩=some (.int .i64 q.aZ):=h2.bI bJ 0 rfl;have l:d.cell? ⟨b2,1,none⟩=some (.int .i64 q.aP):=h2.bI bJ 1 rfl;have j:d.cell? ⟨b2,2,none⟩=some (.int .i64 q.size):=h2.bI bJ 2 rfl;have a:=NV q.aZ (h2.pick bZ);by_cases c:8<=q.aP
 ·by_cases e:41<=q.size
  ·by_cases i:q.size<=f q.aZ-q.aP
   ·have Hr:=uQ (b.o.trans (by rw [aiC c,aiC e,aiC i];rfl:_=true));go_wp2_with fail;go_ret;exact ⟨_,rfl,by rw [Hr.o];rfl,h2.drop⟩
   ·have Hr:=uQ (b.o.trans (by rw [aiC c,aiC e,aes i];rfl:_=false));go_wp2_with fail;go_ret;exact ⟨_,rfl,by rw [Hr.o];rfl,h2.drop⟩
  ·have Hr:=uQ (b.o.trans (by rw [aiC c,aes e];rfl:_=false));clear g a;go_wp2;go_ret;exact ⟨_,rfl,by rw [Hr.o];rfl,h2.drop⟩
 ·have Hr:=uQ (b.o.trans (by rw [aes c];rfl:_=false));clear g j a;go_wp2;go_ret;exact ⟨_,rfl,by rw [Hr.o];rfl,h2.drop⟩
theorem anr {sz:Int->Int}{us:List aJ.gX}{ss:List Int}{i:Nat}{s:Int} (h:ss[i]?=some s):aH.zW sz n us (ss.drop i) i=(if n<s then aH.wF n us i else match us[i]? with
  |none=>false
  |some u=>if aH.Ns sz s u=true then aH.zW sz n us (ss.drop (i+1)) (i+1) else false):=by
 obtain ⟨hi,rfl⟩:=abM.1 h;rw [ajB hi]
 rfl
theorem anq (us:List aJ.gX) (xF:us.length<=1073741824) (hL:L.Ok) (hr:Ro w0 F (bK 3 lv (us.flatMap dO))) (h:au w0 w (bC p m L::F)) :
  Calls prog 146 #[aW p,lv,.int .i64 n] w (bf λv w'=>v=.bool (aH.fC L us n)/\au w0 w' (bC p m L::F)):=by
 obtain ⟨la,lc,rfl⟩:=l9 (λu _=>yD u) (hr w h.drop) aU;have hse:=ER hL h;have zN:=uQ (show L.aX.length<=1073741824 from by unfold aB.aS.aX;rw [abl];have:=hL.len;omega);have S:=uQ (λ(w':World) (R:List aO) (hw:au w0 w' (bC p m L::R))=>λ(s:Int)=>aoZ hL s hw);have D:=uQ hr;have J:=uQ xF;have HW0:=uQ (show aH.zW L.size n us (L.aX.drop 0) 0=aH.fC L us n from rfl);generalize aH.fC L us n=W at *
 clear hr xF hL;go_enter func146,ntmps146;go_wp2_with fail;refine hse.mono ?_;rintro ee w1 ⟨v,rfl,h1⟩;clear hse h;obtain ⟨sa,P,rfl⟩:=Ue (au.rd h1);go_wp2_with fail
 go_loopg [7,13] L.aX.length (λg kq iq wr=>∃ i:Nat,g=L.aX.length-i/\i<=L.aX.length/\kq=.int .i64 i/\iq=.int .i64 i/\aH.zW L.size n us (L.aX.drop i) i=W/\au w0 wr (aK 3 1 (.slice sa L.aX.length P) (dJ L.aX)::bC p m L::F))
 case atStart=>exact ⟨0,rfl,acn _,rfl,rfl,HW0.o,h1⟩
 case round=>
  obtain ⟨i,rfl,hi,rfl,rfl,hW,x⟩:=hrel;clear h1 HW0;by_cases M:i<L.aX.length;rotate_left
  ·as_aux_lemma=>
   have c1:¬ (i:Int)<(L.aX.length:Int):=oQ;have HW:=uQ (show W=aH.wF n us i from by rw [aiU oQ]at hW;exact hW.symm);clear hW M hi;by_cases A:i=us.length;rotate_left
   ·have hb:((i:Int)==(us.length:Int))=false:=by rw [acj];omega
    have D:=uQ (HW.o.trans (by unfold aH.wF;rw [aes A];rfl:_=false));clear A;go_wp2_with fail;go_ret;exact ⟨_,rfl,by rw [D.o];rfl,x.drop⟩
   ·rcases i with _|k
    ·have hb:((0:Int)==(us.length:Int))=true:=by rw [alj];omega
     have hbz:¬ (0:Int)<0:=aU
     (try have anI:=(show wr.cell? ⟨sb,N,none⟩=some (.int .i64 s) from hsc))
     (try have c10:(0:Int)<(L.aX.length:Int):=c1)
     have D:=uQ (HW.o.trans (by unfold aH.wF;rw [aiC A];rfl:_=false));clear A;go_wp2_with fail;go_ret;exact ⟨_,rfl,by rw [D.o];rfl,x.drop⟩
    ·have hb:((k:Int)+1==(us.length:Int))=true:=by rw [alj];omega
     have ck:k<us.length:=oQ;have hck:(k:Int)<(us.length:Int):=oQ;have hc0:(0:Int)<(k:Int)+1:=oQ;have hwk:IntKind.i64.wrap ((k:Int)+1-1)=(k:Int):=by rw [Int.add_sub_cancel];exact abR _ zO0
     have anQ:IntKind.i64.wrap (k:Int)=(k:Int):=abR _ zO0;obtain ⟨u,C⟩:∃ u,us[k]?=some u:=⟨_,aaf ck⟩;have t:us.getD k ⟨0,0,0⟩=u:=by rw [abY,C];rfl
     obtain ⟨B,off,c',E,c⟩:=lV (f:=dO) (k:=3) (λu _=>rfl) (D.o _ x.drop.drop) C aU;cases E;have e0:=c 0 _ rfl;rw [aoe]at e0;by_cases r:u.aZ=n
     ·have j:=uQ (HW.o.trans (by unfold aH.wF;rw [aiC A,Nat.add_sub_cancel,t,aiC r,aiC (Nat.succ_pos k)];rfl:_=true));have O:(u.aZ==n)=true:=alj.2 r;clear A r t C c ck;go_wp2_with fail;go_ret;exact ⟨_,rfl,by rw [j.o];rfl,x.drop⟩
     ·have j:=uQ (HW.o.trans (by unfold aH.wF;rw [aiC A,Nat.add_sub_cancel,t,aes r,aiC (Nat.succ_pos k)];rfl:_=false));have O:(u.aZ==n)=false:=acj.2 r;clear A r t C c ck;go_wp2_with fail;go_ret;exact ⟨_,rfl,by rw [j.o];rfl,x.drop⟩
  have c1:(i:Int)<(L.aX.length:Int):=oQ;have hwi:IntKind.i64.wrap ((i:Int)+1)=(i:Int)+1:=abR _ (by have:=zN.o;omega);obtain ⟨s,hs⟩:∃ s,L.aX[i]?=some s:=⟨_,aaf M⟩;obtain ⟨sb,N,scc,E,hsc⟩:=GZ (au.rd x) hs;cases E;have b:=anr (n:=n) (sz:=L.size) (us:=us) hs;rw [hW]at b;have dP:=uQ M;clear hW hs M hi;by_cases cn:n<s
  ·as_aux_lemma=>
   have HW:=uQ (show W=aH.wF n us i from by rw [abL cn]at b;exact b);clear b;by_cases A:i=us.length;rotate_left
   ·have hb:((i:Int)==(us.length:Int))=false:=by rw [acj];omega
    have D:=uQ (HW.o.trans (by unfold aH.wF;rw [aes A];rfl:_=false));clear A;go_wp2_with fail;go_ret;exact ⟨_,rfl,by rw [D.o];rfl,x.drop⟩
   ·rcases i with _|k
    ·have hb:((0:Int)==(us.length:Int))=true:=by rw [alj];omega
     have hbz:¬ (0:Int)<0:=aU
     (try have anI:=(show wr.cell? ⟨sb,N,none⟩=some (.int .i64 s) from hsc))
     (try have c10:(0:Int)<(L.aX.length:Int):=c1)
     have D:=uQ (HW.o.trans (by unfold aH.wF;rw [aiC A];rfl:_=false));clear A;go_wp2_with fail;go_ret;exact ⟨_,rfl,by rw [D.o];rfl,x.drop⟩
    ·have hb:((k:Int)+1==(us.length:Int))=true:=by rw [alj];omega
     have ck:k<us.length:=oQ;have hck:(k:Int)<(us.length:Int):=oQ;have hc0:(0:Int)<(k:Int)+1:=oQ;have hwk:IntKind.i64.wrap ((k:Int)+1-1)=(k:Int):=by rw [Int.add_sub_cancel];exact abR _ zO0
     have anQ:IntKind.i64.wrap (k:Int)=(k:Int):=abR _ zO0;obtain ⟨u,C⟩:∃ u,us[k]?=some u:=⟨_,aaf ck⟩;have t:us.getD k ⟨0,0,0⟩=u:=by rw [abY,C];rfl
     obtain ⟨B,off,c',E,c⟩:=lV (f:=dO) (k:=3) (λu _=>rfl) (D.o _ x.drop.drop) C aU;cases E;have e0:=c 0 _ rfl;rw [aoe]at e0;by_cases r:u.aZ=n
     ·have j:=uQ (HW.o.trans (by unfold aH.wF;rw [aiC A,Nat.add_sub_cancel,t,aiC r,aiC (Nat.succ_pos k)];rfl:_=true));have O:(u.aZ==n)=true:=alj.2 r;clear A r t C c ck;go_wp2_with fail;go_ret;exact ⟨_,rfl,by rw [j.o];rfl,x.drop⟩
     ·have j:=uQ (HW.o.trans (by unfold aH.wF;rw [aiC A,Nat.add_sub_cancel,t,aes r,aiC (Nat.succ_pos k)];rfl:_=false));have O:(u.aZ==n)=false:=acj.2 r;clear A r t C c ck;go_wp2_with fail;go_ret;exact ⟨_,rfl,by rw [j.o];rfl,x.drop⟩
  rw [abB cn]at b;by_cases C:i<us.length;rotate_left
  ·as_aux_lemma=>
   have j:=uQ (show W=false from by rw [avA oQ]at b;exact b);have cu:(us.length:Int)<=(i:Int):=oQ;have ZO:us.length<=i:=oQ;clear b C;go_wp2_with fail;have d:=x.drew;have hG:True:=trivial;refine gK [35,36] (λw'=>True) aC ?_;refine rP 0 ?_ (y:=bV);refine rP 1 ?_ (y:=bV);refine rP 2 ?_ (y:=(vX aF dX));refine rP 3 ?_ (y:=nT);refine rP 4 ?_ (y:=bV);refine fF 5 aF aC dF aA gQ ?_;refine fF 6 aF aC dF aA gQ ?_;refine fF 7 aF aC dF aA gQ ?_;refine fF 8 aF aC dF aA gQ ?_;refine fF 9 aF aC dF aA gQ ?_;refine fF 10 aF aC dF aA gQ ?_;refine fF 11 aF aC dF aA gQ ?_;refine rP 12 ?_ (y:=(qh aA aF aF));refine rP 13 ?_ (y:=bV);refine fF 14 aF aC dF aA gQ ?_;refine fF 15 aF aC dF aA gQ ?_;refine fF 16 aF aC dF aA gQ ?_;refine fF 17 aF aC dF aA gQ ?_;refine fF 18 aF aC dF aA gQ ?_;refine fF 19 aF aC dF aA gQ ?_;refine fF 20 aF aC dF aA gQ ?_;refine fF 21 aF aC dF aA gQ ?_
   refine fF 22 aF aC dF aA gQ ?_;refine rP 23 ?_ (y:=(qh aA aF aF));refine rP 24 ?_ (y:=bV);refine fF 25 aF aC dF aA gQ ?_;refine fF 26 aF aC dF aA gQ ?_;refine fF 27 aF aC dF aA gQ ?_;refine fF 28 aF aC dF aA gQ ?_;refine fF 29 aF aC dF aA gQ ?_;refine fF 30 aF aC dF aA gQ ?_;refine fF 31 aF aC dF aA gQ ?_;refine fF 32 aF aC dF aA gQ ?_;refine fF 33 aF aC dF aA gQ ?_;refine fF 34 aF aC dF aA gQ ?_;refine fF 35 aF aC dF aA gQ ?_;refine rP 36 ?_ (y:=(qh aA aF aF));refine fK aC ?_
   try simp only [kW]
   try go_frame
   go_wp2_with fail;go_ret;exact ⟨_,rfl,by rw [j.o];rfl,d.drop⟩
  have cu:¬ (us.length:Int)<=(i:Int):=oQ;have ZO:¬ us.length<=i:=oQ;have cuD:decide (us.length<=i)=false:=aes ZO;have avU:decide ((us.length:Int)<=(i:Int))=false:=aes cu;have cu2:(i:Int)<(us.length:Int):=oQ;obtain ⟨u,hx⟩:∃ u,us[i]?=some u:=⟨_,aaf C⟩;rw [hx]at b;dsimp only at b;obtain ⟨B,off,c',hlv,c⟩:=lV (f:=dO) (k:=3) (λu _=>rfl) (D.o _ x.drop.drop) hx aU;cases hlv
  have HG:=uQ (λ(w':World) (hw:au w0 w' (aK 3 1 (.slice (some ⟨sb,N,none⟩) L.aX.length P) (dJ L.aX)::bC p m L::F))=>show w'.cell? ⟨B,off+i*3,none⟩=some (.int .i64 u.aZ)/\w'.cell? ⟨B,off+i*3+1,none⟩=some (.int .i64 u.size)/\w'.cell? ⟨B,off+i*3+2,none⟩=some (.int .i64 u.live) from by
   obtain ⟨_,_,_,e,hc⟩:=lV (f:=dO) (k:=3) (λu _=>rfl) (D.o _ hw.drop.drop) hx aU;cases e;exact ⟨hc 0 _ rfl,hc 1 _ rfl,hc 2 _ rfl⟩)
  have l:aH.Ns L.size s u=(decide (u.aZ=s) && (decide (u.size=L.size s) && decide (u.live<=u.size))):=rfl;clear c hx C;by_cases r:u.aZ=s;rotate_left
  ·as_aux_lemma=>
   have j:=uQ (show W=false from by rw [l,aes r]at b;exact b);have hb:(u.aZ != s)=true:=ajo.2 r;clear b l r;go_wp2_with fail;have d:=x.drew;refine gK [35,36] (λw'=>w'.cell? ⟨B,off+i*3,none⟩=some (.int .i64 u.aZ)/\w'.cell? ⟨B,off+i*3+1,none⟩=some (.int .i64 u.size)/\w'.cell? ⟨B,off+i*3+2,none⟩=some (.int .i64 u.live)) aC ?_;have hG:=HG.o _ d;refine rP 0 ?_ (y:=bV);refine rP 1 ?_ (y:=bV);refine rP 2 ?_ (y:=(vX aF dX));refine rP 3 ?_ (y:=nT);refine rP 4 ?_ (y:=bV);refine rP 5 ?_ (y:=(kH aA aF));refine rP 6 ?_ (y:=(kH aA aF));refine rP 7 ?_ (y:=(vW aA aF aF dX));refine rP 8 ?_ (y:=(rM aA aF dX));refine ji 9 aF aC dF (rG aA aF aC yA0) aQ gQ ?_;refine rP 10 ?_ (y:=(kH aA aF));refine rP 11 ?_ (y:=(vV aA aF aF dX));refine rP 12 ?_ (y:=(qh aA aF aF));refine rP 13 ?_ (y:=bV);refine fF 14 aF aC dF aA gQ ?_;refine fF 15 aF aC dF aA gQ ?_;refine fF 16 aF aC dF aA gQ ?_
   refine fF 17 aF aC dF aA gQ ?_;refine fF 18 aF aC dF aA gQ ?_;refine fF 19 aF aC dF aA gQ ?_;refine fF 20 aF aC dF aA gQ ?_;refine fF 21 aF aC dF aA gQ ?_;refine fF 22 aF aC dF aA gQ ?_;refine rP 23 ?_ (y:=(qh aA aF aF));refine rP 24 ?_ (y:=bV);refine fF 25 aF aC dF aA gQ ?_;refine fF 26 aF aC dF aA gQ ?_;refine fF 27 aF aC dF aA gQ ?_;refine fF 28 aF aC dF aA gQ ?_;refine fF 29 aF aC dF aA gQ ?_;refine fF 30 aF aC dF aA gQ ?_;refine fF 31 aF aC dF aA gQ ?_;refine fF 32 aF aC dF aA gQ ?_;refine fF 33 aF aC dF aA gQ ?_;refine fF 34 aF aC dF aA gQ ?_;refine fF 35 aF aC dF aA gQ ?_;clear hG;refine rP 36 ?_ (y:=(qh aA aF aF));refine fK aC ?_
   try simp only [kW]
   try go_frame
   go_wp2_with fail;go_ret;exact ⟨_,rfl,by rw [j.o];rfl,d.drop⟩
  have hb1:(u.aZ != s)=false:=by rw [r];exact bne_self_eq_false ..
  rw [aiC r,awC]at l;clear r;by_cases c3:u.size=L.size s;rotate_left
  ·as_aux_lemma=>
   have j:=uQ (show W=false from by rw [l,aes c3]at b;exact b);have hb:(u.size != L.size s)=true:=ajo.2 c3;clear b l c3;go_wp2_with fail;have d:=x.drew;refine gK [35,36] (λw'=>w'.cell? ⟨B,off+i*3,none⟩=some (.int .i64 u.aZ)/\w'.cell? ⟨B,off+i*3+1,none⟩=some (.int .i64 u.size)/\w'.cell? ⟨B,off+i*3+2,none⟩=some (.int .i64 u.live)) aC ?_;have hG:=HG.o _ d;refine rP 0 ?_ (y:=bV);refine rP 1 ?_ (y:=bV);refine rP 2 ?_ (y:=(vX aF dX));refine rP 3 ?_ (y:=nT);refine rP 4 ?_ (y:=bV);refine rP 5 ?_ (y:=(kH aA aF));refine rP 6 ?_ (y:=(kH aA aF));refine rP 7 ?_ (y:=(vW aA aF aF dX));refine rP 8 ?_ (y:=(rM aA aF dX));refine ji 9 aF aC dF (rG aA aF aC yA0) aQ gQ ?_;refine rP 10 ?_ (y:=(kH aA aF));refine rP 11 ?_ (y:=(vV aA aF aF dX));refine rP 12 ?_ (y:=(qh aA aF aF));refine rP 13 ?_ (y:=bV);refine rP 14 ?_ (y:=(kH aA aF));refine rP 15 ?_ (y:=(kH aA aF))
   refine rP 16 ?_ (y:=(vW aA aF aF dX));refine rP 17 ?_ (y:=(rM aA aF dX));refine ji 18 aF aC dF (rG aA aF aC yA0) aQ gQ ?_;refine rP 19 ?_ (y:=(kH aA aF));refine rP 20 ?_ (y:=(kH aA aF));refine dZ 21 aF aC (λK Q=>?_);refine Gv [aW p,.int .i64 s] aA aC aA ?_;refine (S.o _ _ (d.sb:au w0 _ (bC p m L::aK 3 1 (.slice (some ⟨sb,N,none⟩) L.aX.length P) (dJ L.aX)::F)) s).mono ?_;rintro e G ⟨v,rfl,rfl,H⟩;have o:au w0 G (aK 3 1 (.slice (some ⟨sb,N,none⟩) L.aX.length P) (dJ L.aX)::bC p m L::F):=H.sb;refine Q _ _ (.inr (.inl (HG.o _ o))) ?_;clear Q d;generalize L.size s=z at *
   refine rP 22 ?_ (y:=(vV aA aF aF dX));refine rP 23 ?_ (y:=(qh aA aF aF));refine rP 24 ?_ (y:=bV);refine fF 25 aF aC dF aA gQ ?_;refine fF 26 aF aC dF aA gQ ?_;refine fF 27 aF aC dF aA gQ ?_;refine fF 28 aF aC dF aA gQ ?_;refine fF 29 aF aC dF aA gQ ?_;refine fF 30 aF aC dF aA gQ ?_;refine fF 31 aF aC dF aA gQ ?_;refine fF 32 aF aC dF aA gQ ?_;refine fF 33 aF aC dF aA gQ ?_;refine fF 34 aF aC dF aA gQ ?_;refine fF 35 aF aC dF aA gQ ?_;refine rP 36 ?_ (y:=(qh aA aF aF));refine fK aC ?_
   try simp only [kW]
   try go_frame
   go_wp2_with fail;go_ret;exact ⟨_,rfl,by rw [j.o];rfl,o.drop⟩
  have O:(u.size != L.size s)=false:=by rw [c3];exact bne_self_eq_false ..
  rw [aiC c3,awC]at l;by_cases c4:u.live<=u.size;rotate_left
  ·as_aux_lemma=>
   have j:=uQ (show W=false from by rw [l,aes c4]at b;exact b);have c5:u.size<u.live:=oQ;clear b l c3 c4;go_wp2_with fail;have d:=x.drew;refine gK [35,36] (λw'=>w'.cell? ⟨B,off+i*3,none⟩=some (.int .i64 u.aZ)/\w'.cell? ⟨B,off+i*3+1,none⟩=some (.int .i64 u.size)/\w'.cell? ⟨B,off+i*3+2,none⟩=some (.int .i64 u.live)) aC ?_;have hG:=HG.o _ d;refine rP 0 ?_ (y:=bV);refine rP 1 ?_ (y:=bV);refine rP 2 ?_ (y:=(vX aF dX));refine rP 3 ?_ (y:=nT);refine rP 4 ?_ (y:=bV);refine rP 5 ?_ (y:=(kH aA aF));refine rP 6 ?_ (y:=(kH aA aF));refine rP 7 ?_ (y:=(vW aA aF aF dX));refine rP 8 ?_ (y:=(rM aA aF dX));refine ji 9 aF aC dF (rG aA aF aC yA0) aQ gQ ?_;refine rP 10 ?_ (y:=(kH aA aF));refine rP 11 ?_ (y:=(vV aA aF aF dX));refine rP 12 ?_ (y:=(qh aA aF aF));refine rP 13 ?_ (y:=bV);refine rP 14 ?_ (y:=(kH aA aF));refine rP 15 ?_ (y:=(kH aA aF))
   refine rP 16 ?_ (y:=(vW aA aF aF dX));refine rP 17 ?_ (y:=(rM aA aF dX));refine ji 18 aF aC dF (rG aA aF aC yA0) aQ gQ ?_;refine rP 19 ?_ (y:=(kH aA aF));refine rP 20 ?_ (y:=(kH aA aF));refine dZ 21 aF aC (λK Q=>?_);refine Gv [aW p,.int .i64 s] aA aC aA ?_;refine (S.o _ _ (d.sb:au w0 _ (bC p m L::aK 3 1 (.slice (some ⟨sb,N,none⟩) L.aX.length P) (dJ L.aX)::F)) s).mono ?_;rintro e G ⟨v,rfl,rfl,H⟩;have o:au w0 G (aK 3 1 (.slice (some ⟨sb,N,none⟩) L.aX.length P) (dJ L.aX)::bC p m L::F):=H.sb;refine Q _ _ (.inr (.inl (HG.o _ o))) ?_;clear Q d;generalize L.size s=z at *
   have hG2:=HG.o _ o;refine rP 22 ?_ (y:=(vV aA aF aF dX));refine rP 23 ?_ (y:=(qh aA aF aF));refine rP 24 ?_ (y:=bV);refine rP 25 ?_ (y:=(kH aA aF));refine rP 26 ?_ (y:=(kH aA aF));refine rP 27 ?_ (y:=(vW aA aF aF dX));refine rP 28 ?_ (y:=(rM aA aF dX));refine ji 29 aF aC dF (rG aA aF aC yA0) aQ gQ ?_;refine rP 30 ?_ (y:=(kH aA aF));refine rP 31 ?_ (y:=(kH aA aF));refine rP 32 ?_ (y:=(vW aA aF aF dX));refine rP 33 ?_ (y:=(rM aA aF dX));refine ji 34 aF aC dF (rG aA aF aC yA0) aQ gQ ?_;clear hG hG2;refine rP 35 ?_ (y:=(vV aA aF aF dX));refine rP 36 ?_ (y:=(qh aA aF aF));refine fK aC ?_
   try simp only [kW]
   try go_frame
   go_wp2_with fail;go_ret;exact ⟨_,rfl,by rw [j.o];rfl,o.drop⟩
  ·as_aux_lemma=>
   have HW:=uQ (show aH.zW L.size n us (L.aX.drop (i+1)) (i+1)=W from by rw [l,aiC c4]at b;exact b.symm);have c5:¬ u.size<u.live:=oQ;clear b l c3 c4;go_wp2_with fail;have d:=x.drew;refine gK [35,36] (λw'=>w'.cell? ⟨B,off+i*3,none⟩=some (.int .i64 u.aZ)/\w'.cell? ⟨B,off+i*3+1,none⟩=some (.int .i64 u.size)/\w'.cell? ⟨B,off+i*3+2,none⟩=some (.int .i64 u.live)) aC ?_;have hG:=HG.o _ d;refine rP 0 ?_ (y:=bV);refine rP 1 ?_ (y:=bV);refine rP 2 ?_ (y:=(vX aF dX));refine rP 3 ?_ (y:=nT);refine rP 4 ?_ (y:=bV);refine rP 5 ?_ (y:=(kH aA aF));refine rP 6 ?_ (y:=(kH aA aF));refine rP 7 ?_ (y:=(vW aA aF aF dX));refine rP 8 ?_ (y:=(rM aA aF dX));refine ji 9 aF aC dF (rG aA aF aC yA0) aQ gQ ?_;refine rP 10 ?_ (y:=(kH aA aF));refine rP 11 ?_ (y:=(vV aA aF aF dX));refine rP 12 ?_ (y:=(qh aA aF aF));refine rP 13 ?_ (y:=bV);refine rP 14 ?_ (y:=(kH aA aF))
   refine rP 15 ?_ (y:=(kH aA aF));refine rP 16 ?_ (y:=(vW aA aF aF dX));refine rP 17 ?_ (y:=(rM aA aF dX));refine ji 18 aF aC dF (rG aA aF aC yA0) aQ gQ ?_;refine rP 19 ?_ (y:=(kH aA aF));refine rP 20 ?_ (y:=(kH aA aF));refine dZ 21 aF aC (λK Q=>?_);refine Gv [aW p,.int .i64 s] aA aC aA ?_;refine (S.o _ _ (d.sb:au w0 _ (bC p m L::aK 3 1 (.slice (some ⟨sb,N,none⟩) L.aX.length P) (dJ L.aX)::F)) s).mono ?_;rintro e G ⟨v,rfl,rfl,H⟩;have o:au w0 G (aK 3 1 (.slice (some ⟨sb,N,none⟩) L.aX.length P) (dJ L.aX)::bC p m L::F):=H.sb;refine Q _ _ (.inr (.inl (HG.o _ o))) ?_;clear Q d;have hG2:=HG.o _ o;refine rP 22 ?_ (y:=(vV aA aF aF dX));refine rP 23 ?_ (y:=(qh aA aF aF));refine rP 24 ?_ (y:=bV);refine rP 25 ?_ (y:=(kH aA aF));refine rP 26 ?_ (y:=(kH aA aF));refine rP 27 ?_ (y:=(vW aA aF aF dX));refine rP 28 ?_ (y:=(rM aA aF dX))
   refine ji 29 aF aC dF (rG aA aF aC yA0) aQ gQ ?_;refine rP 30 ?_ (y:=(kH aA aF));refine rP 31 ?_ (y:=(kH aA aF));refine rP 32 ?_ (y:=(vW aA aF aF dX));refine rP 33 ?_ (y:=(rM aA aF dX));refine ji 34 aF aC dF (rG aA aF aC yA0) aQ gQ ?_;clear hG hG2;refine rP 35 ?_ (y:=(vV aA aF aF dX));refine rP 36 ?_ (y:=(qh aA aF aF));refine fK aC ?_
   try simp only [kW]
   try go_frame
   go_wp2_with fail
   go_roundg (L.aX.length-(i+1))
   case measure=>have:=dP.o;omega
   case rel=>exact ⟨i+1,rfl,aiW dP.o,by first|rfl|go_num,by first|rfl|go_num,HW.o,o⟩
end
theorem TR (hM:M.Ok K) (hz:M.size ByteArray.empty=(0,9)) (ht:aH.there M (aH.name aH.gY n)=false\/aH.there M (aH.name aH.kJ n)=false) (h:au w0 w (aV m M::F)) :
  Calls prog 101 #[aW p,aW m,.int .i64 n] w (bf λv w'=>v=.tuple #[.pointer none,dS 9]/\au w0 w' (aV m M::F)):=by
 have c:=Fv hM h ByteArray.empty;rw [hz]at c;have g:=uQ hM;have j:=uQ ht;clear hM hz ht
 go_in
 go_wp2_with fail;refine c.mono ?_;rintro e o ⟨v,rfl,rfl,rfl⟩;clear c;go_wp2_with fail;refine (NW n h).mono ?_;rintro e r ⟨v,rfl,rfl,d⟩;clear h;have a:=JE g.o (aH.name aH.gY n) d;cases ht:aH.there M (aH.name aH.gY n) with
 |false=>
  rw [ht]at a;clear ht;go_wp2_with fail;refine a.mono ?_;rintro e l ⟨v,rfl,rfl,rfl⟩;clear a;go_wp2_with fail
  go_ret2
  exact ⟨_,rfl,rfl,d⟩
 |true=>
  rw [ht]at a;have f:=uQ (j.o.resolve_left (by rw [ht];decide));clear ht;go_wp2_with fail;refine a.mono ?_;rintro e l ⟨v,rfl,rfl,rfl⟩;clear a;go_wp2_with fail;refine (Qh n d).mono ?_;rintro e s ⟨v,rfl,rfl,i⟩;have b:=JE g.o (aH.name aH.kJ n) i;rw [f.o]at b;go_wp2_with fail;refine b.mono ?_;rintro e t ⟨v,rfl,rfl,rfl⟩;go_wp2_with fail
  go_ret2
  exact ⟨_,rfl,rfl,i⟩
theorem ab2 (hL:L.Ok) (hM:M.Ok K) (hz:M.size ByteArray.empty=(0,9)) (ht1:aH.there M (aH.name aH.gY n)=true) (ht2:aH.there M (aH.name aH.kJ n)=true)
  (kv:List (ay.Bs×aB.bT)) (hk:∀ q∈kv,q.1.length=32) (us:List aJ.gX) (hoi:bH.Ok 3 true (kv.map aJ.mO)) (hou:bH.Ok 3 false (us.map aJ.mV))
  (ha1:M.all (aH.name aH.gY n)=(bH.jM Xx.sum bH.xH true (kv.map aJ.mO),0)) (ha2:M.all (aH.name aH.kJ n)=(bH.jM Xx.sum bH.xI false (us.map aJ.mV),0))
  (hf:aH.fC L us n=true) (JA:∀ q∈kv,aH.zB q.2 (aH.nY us)=true/\IntKind.i64.wrap (aH.nY us q.2.aZ-q.2.aP)=aH.nY us q.2.aZ-q.2.aP) (h:au w0 w (bC p m L::aV m M::F)) :
  Calls prog 101 #[aW p,aW m,.int .i64 n] w (bf λv w'=>∃ (ps pi:Nat) (uv tv:Value),v=.tuple #[aW ps,dS 0]/\au w0 w' (fB ps n pi uv tv::bF pi (aY.jE kv) kv.length::aK 205 3 uv (us.flatMap dO)::aK 3 1 tv (dJ (L.aX.filter λs=>decide (n<s)))::bC p m L::aV m M::F)):=by
 have h0:au w0 w (aV m M::bC p m L::F):=h.sb;have hsz:=Fv hM h0 ByteArray.empty;rw [hz]at hsz;have xF:us.length<=1073741824:=by have:=hou.len;rw [abl]at this;omega
 have HM:=uQ hM;have LY:=uQ ht1;have LZ:=uQ ht2;have HL:=uQ hL;have Hk:=uQ hk;have LP:=uQ hoi;have LQ:=uQ hou;have Ha1:=uQ ha1;have Ha2:=uQ ha2;have Hf:=uQ hf;have QW:=uQ JA;have zJ:=uQ (show kv.length<=65536 by have:=hoi.len;rwa [abl]at this);have Ba:=uQ xF;clear hM hz ht1 ht2 hL hk hoi hou ha1 ha2 hf xF JA h;go_enter func101,ntmps101;go_wp2_with fail;refine hsz.mono ?_;rintro e w1 ⟨v,rfl,rfl,rfl⟩;clear hsz;go_wp2_with fail;refine (NW n h0).mono ?_;rintro e w2 ⟨v,rfl,rfl,h2⟩;clear h0;have hth:=JE HM.o (aH.name aH.gY n) h2;rw [LY.o]at hth;go_wp2_with fail;refine hth.mono ?_;rintro e w3 ⟨v,rfl,rfl,rfl⟩;clear hth;go_wp2_with fail;refine (Qh n h2).mono ?_;rintro e w4 ⟨v,rfl,rfl,h4⟩;clear h2;have TW:=JE HM.o (aH.name aH.kJ n) h4;rw [LZ.o]at TW;go_wp2_with fail;refine TW.mono ?_;rintro e w5 ⟨v,rfl,rfl,rfl⟩;clear TW;go_wp2_with fail
 refine (NW n h4).mono ?_;rintro e w6 ⟨v,rfl,rfl,h6⟩;clear h4;have ha:=Md HM.o h6 (aH.name aH.gY n);rw [Ha1.o]at ha;go_wp2_with fail;refine ha.mono ?_;rintro e w7 ⟨v,rfl,bv,rfl,h7⟩;clear ha h6;go_wp2_with fail;refine (Qh n h7).mono ?_;rintro e w8 ⟨v,rfl,rfl,h8⟩;clear h7;have h8':au w0 w8 (aV m M::cZ bv (bH.jM Xx.sum bH.xH true (kv.map aJ.mO))::bC p m L::F):=h8.sb;have hb:=Md HM.o h8' (aH.name aH.kJ n);rw [Ha2.o]at hb;clear h8;go_wp2_with fail;refine hb.mono ?_;rintro e w9 ⟨v,rfl,cv,rfl,h9⟩;clear hb h8';have TI:au w0 w9 (cZ bv (bH.jM Xx.sum bH.xH true (kv.map aJ.mO))::cZ cv (bH.jM Xx.sum bH.xI false (us.map aJ.mV))::aV m M::bC p m L::F):=h9.sb;clear h9;have GV:=RS.OE TI;obtain ⟨ba,bn,bc,rfl,_,_⟩:=GV.cap;go_wp2_with fail;refine (akZ kv Hk.o LP.o GV TI).mono ?_;rintro e w10 ⟨v,rfl,iv,rfl,h10⟩;clear TI GV
 have TD:au w0 w10 (cZ cv (bH.jM Xx.sum bH.xI false (us.map aJ.mV))::aK 248 35 iv (kv.flatMap jU)::aV m M::bC p m L::F):=h10.sb;clear h10;have EK:=RS.OE TD;obtain ⟨ca,cn,cc,rfl,_,_⟩:=EK.cap;go_wp2_with fail;refine (ak1 us LQ.o EK TD).mono ?_;rintro e sH ⟨v,rfl,uv,rfl,h11⟩;clear TD EK;have h12:au w0 sH (bC p m L::aK 205 3 uv (us.flatMap dO)::aK 248 35 iv (kv.flatMap jU)::aV m M::F):=h11.sb;clear h11;go_wp2_with fail;have hft:=anq (n:=n) us Ba.o HL.o (λw hw=>au.rd hw) h12;rw [Hf.o]at hft;refine hft.mono ?_;rintro e vU ⟨v,rfl,rfl,h13⟩;clear hft h12;obtain ⟨ua,uc,rfl⟩:=l9 (λu _=>yD u) (au.rd (h13.pick (A:=aK 205 3 uv (us.flatMap dO)) bZ)) aU;obtain ⟨ia,ic,rfl⟩:=l9 (λq hq=>qH q (Hk.o q hq)) (au.rd (h13.pick (A:=aK 248 35 iv (kv.flatMap jU)) jS)) aU
 have YW:=uQ (show ∀ i u,us[i]?=some u->aH.nY (us.take (i+1))=λs=>if s=u.aZ then u.size else aH.nY (us.take i) s from λi u hu=>by rw [ajf,hu,akf,aH.ahs]);have hmm:=@run_makeMap prog;go_wp2_with fail;refine (adS h13).mono ?_;rintro ee wW ⟨v,rfl,pi,rfl,nJ⟩;clear h13;go_wp2_with (with_reducible apply jy);refine ⟨jB (cs:=#[.int .i64 n,aW pi,.slice ua us.length uc,.slice none 0 0]) nJ aA aA ?_⟩;intro ps Cc h15;clear nJ;have h16:=acI h15;go_wp2_with fail;have hx:au w0 (Cc.alloc (.map #[] 0)) (oM Cc.heap.size (aH.nY (us.take 0))::fB ps n pi (.slice ua us.length uc) (.slice none 0 0)::bF pi (λ_=>none) 0::bC p m L::aK 205 3 (.slice ua us.length uc) (us.flatMap dO)::aK 248 35 (.slice ia kv.length ic) (kv.flatMap jU)::aV m M::F):=h16;clear h15 h16 hmm;generalize Cc.heap.size=bm at *
 go_loopg [98] us.length (λg iq wr=>∃ i:Nat,g=us.length-i/\i<=us.length/\iq=.int .i64 i /\
  au w0 wr (oM bm (aH.nY (us.take i))::fB ps n pi (.slice ua us.length uc) (.slice none 0 0)::bF pi (λ_=>none) 0::bC p m L::aK 205 3 (.slice ua us.length uc) (us.flatMap dO)::aK 248 35 (.slice ia kv.length ic) (kv.flatMap jU)::aV m M::F))
 case atStart=>exact ⟨0,rfl,acn _,rfl,hx⟩
 case round=>
  obtain ⟨i,rfl,hi,rfl,hS⟩:=hrel;clear hx;by_cases hlt:i<us.length
  ·have c1:(i:Int)<(us.length:Int):=oQ;have hwi:IntKind.i64.wrap ((i:Int)+1)=(i:Int)+1:=abR _ (by have:=Ba.o;omega);obtain ⟨u,hu⟩:∃ u,us[i]?=some u:=⟨_,aaf hlt⟩;have dP:=uQ hlt;have sV:=uQ (YW.o i u hu);obtain ⟨bk,off,c',hsv,hcell⟩:=lV (λu _=>yD u) (au.rd (hS.pk (A:=aK 205 3 (.slice ua us.length uc) (us.flatMap dO)))) hu aU;cases hsv;clear hi hlt hu
   go_wp2_with (first
    |((with_reducible refine dH ⟨?_⟩);refine kQ (b:=bk) (o:=off+i*3) (dO u) aA hcell underlying205 rfl aC ?_)
    |(with_reducible apply jd))
   refine ⟨iR Le hS rfl ?_⟩;intro b18 w18 h18;go_wp2_with (with_reducible apply eG);refine ⟨jK (dO u).toArray h18 aA aA aA eu aC aA ?_⟩;intro IL h19;clear h18 hS hcell;obtain ⟨Az,hup,h20⟩:=Ua u.aZ u.size (h19.pick (bW bJ));have f0:IL.cell? ⟨b18,0,none⟩=some (.int .i64 u.aZ):=h19.bI bJ 0 rfl;have f1:IL.cell? ⟨b18,1,none⟩=some (.int .i64 u.size):=h19.bI bJ 1 rfl;rw [<-sV.o]at h20;go_wp2_with fail
   go_roundg (us.length-(i+1))
   case measure=>have:=dP.o;omega
   case rel=>exact ⟨i+1,rfl,aiW dP.o,by first|rfl|go_num,h20.sb⟩
  ·have c1:¬ (i:Int)<(us.length:Int):=oQ;obtain rfl:i=us.length:=oQ;rw [ai0]at hS;clear hlt hi YW;have hy:au w0 wr (oM bm (aH.nY us)::fB ps n pi (.slice ua us.length uc) (.slice none 0 0)::bF pi (aY.jE (kv.take 0)) 0::bC p m L::aK 205 3 (.slice ua us.length uc) (us.flatMap dO)::aK 248 35 (.slice ia kv.length ic) (kv.flatMap jU)::aV m M::F):=hS;clear hS;go_wp2_with fail
   go_loopg [110] kv.length (λg iq wr=>∃ i:Nat,g=kv.length-i/\i<=kv.length/\iq=.int .i64 i /\
    au w0 wr (oM bm (aH.nY us)::fB ps n pi (.slice ua us.length uc) (.slice none 0 0)::bF pi (aY.jE (kv.take i)) i::bC p m L::aK 205 3 (.slice ua us.length uc) (us.flatMap dO)::aK 248 35 (.slice ia kv.length ic) (kv.flatMap jU)::aV m M::F))
   case atStart=>exact ⟨0,rfl,acn _,rfl,hy⟩
   case round=>
    obtain ⟨i,rfl,hi,rfl,hS⟩:=hrel;clear hy;by_cases hlt:i<kv.length
    ·have c1:(i:Int)<(kv.length:Int):=oQ;have hwi:IntKind.i64.wrap ((i:Int)+1)=(i:Int)+1:=abR _ (by have:=zJ.o;omega);obtain ⟨q,hq⟩:∃ q,kv[i]?=some q:=⟨_,aaf hlt⟩;have hqm:=abH hq;have dP:=uQ hlt;have ajt:=uQ (show aY.jE (kv.take (i+1))=aY.put (aY.jE (kv.take i)) q.1 q.2 by rw [ajf,hq,akf,aY.UF]);obtain ⟨bk,off,c',hsv,hcell⟩:=lV (λq hq=>qH q (Hk.o q hq)) (au.rd (hS.pk (A:=aK 248 35 (.slice ia kv.length ic) (kv.flatMap jU)))) hq aU;cases hsv;have Hq:=uQ (Hk.o q hqm);have hly:=QW.o q hqm;have YJ:=uQ hly;have QU:=uQ (qH q Hq.o);clear hi hlt hq hqm hly
     go_wp2_with (first
      |((with_reducible refine dH ⟨?_⟩);refine kQ (b:=bk) (o:=off+i*35) (jU q) aA hcell underlying248 rfl (by rw [QU.o];kernel_rfl) ?_)
      |(with_reducible apply jd))
     refine ⟨iR Qy hS rfl ?_⟩;intro b20 Az h20;go_wp2_with (with_reducible apply eG);refine ⟨jK (jU q).toArray h20 aA aA (by rw [abC,QU.o];rfl) eu (by rw [abC,QU.o];kernel_rfl) (by rw [agQ];exact JG _) ?_⟩;intro DW h21;clear h20 hS hcell;have hra:DW.rangeAt b20 0 (aI q.1):=λj v hj=>by
      refine h21.bI bJ (0+j) ?_;rw [ab5,aiO];unfold jU;rw [aiS (abM.1 hj).1];exact hj
     have JD:DW.rangeAt b20 32 (dQ q.2):=λj v hj=>by
      refine h21.bI bJ (32+j) ?_;rw [ab5];unfold jU;rw [aiP (by rw [bP,Hq.o];omega),bP,Hq.o,avN];exact hj
     go_wp2_with ((with_reducible refine dH ⟨?_⟩);refine kQ (b:=b20) (o:=32) (dQ q.2) aA JD underlying115 rfl aC ?_);refine (anB q.2 YJ.o.2 (h21.pk (A:=oM bm (aH.nY us)))).mono ?_;rintro ee Qo ⟨v,rfl,rfl,h22⟩;rw [YJ.o.1];clear hra JD h21;have h23:=h22.drew;clear h22;have hG:Qo.drew.cell? ⟨ps,1,none⟩=some (aW pi)/\Qo.drew.rangeAt b20 0 (aI q.1)/\Qo.drew.rangeAt b20 32 (dQ q.2):=by
      refine ⟨h23.bI (bW bZ) 1 rfl,λj v hj=>?_,λj v hj=>?_⟩
      ·refine h23.bI bZ (0+j) ?_;rw [ab5,aiO];unfold jU;rw [aiS (abM.1 hj).1];exact hj
      ·refine h23.bI bZ (32+j) ?_;rw [ab5];unfold jU;rw [aiP (by rw [bP,Hq.o];omega),bP,Hq.o,avN];exact hj
     go_wp2_with fail;refine gK [8] (λw'=>w'.cell? ⟨ps,1,none⟩=some (aW pi)/\w'.rangeAt b20 0 (aI q.1)/\w'.rangeAt b20 32 (dQ q.2)) aC ?_;refine rP 0 ?_ (y:=bV);refine rP 1 ?_ (y:=jF);refine rP 2 ?_ (y:=eY);refine rt 3 (h:=?_);refine rP 4 ?_ (y:=eY);refine ji 5 aF aC dF (lF (b:=b20) (o:=0) (aI q.1) aA underlying34 rfl (by rw [bP,Hq.o];kernel_rfl) (λw hw=>hw.2.1)) aQ gQ ?_;refine rP 6 ?_ (y:=eY);refine ji 7 aF aC dF (lF (b:=b20) (o:=32) (dQ q.2) aA underlying115 rfl aC (λw hw=>hw.2.2)) aQ gQ ?_;clear hG;have hp:=OV (B:=i) (p:=pi) (by have:=dP.o;have:=zJ.o;omega) Hq.o q.2 (h23.pk (A:=bF pi (aY.jE (kv.take i)) i));clear h23;refine dZ 8 aF aC (λK' hK'=>?_)
     (refine Bq aC aF aF aF ?_)
     refine hp.mono ?_;rintro ee w24 ⟨v,rfl,Dj⟩;refine hK' _ _ (.inl rfl) ?_;clear hK' hp;refine fK aC ?_;rw [<-ajt.o]at Dj;go_wp2_with fail
     go_roundg (kv.length-(i+1))
     case measure=>have:=dP.o;omega
     case rel=>exact ⟨i+1,rfl,aiW dP.o,by first|rfl|go_num,Dj.sb⟩
    ·have c1:¬ (i:Int)<(kv.length:Int):=oQ;obtain rfl:i=kv.length:=oQ;rw [ai0]at hS;clear hlt hi;have hsl:L.aX.length<=1073741824:=by unfold aB.aS.aX;rw [abl];have:=HL.o.len;omega
     have zN:=uQ hsl;clear hsl;go_wp2_with fail;refine (ER HL.o (hS.pk (A:=bC p m L))).mono ?_;rintro ee Ce ⟨v,rfl,h30⟩;obtain ⟨sa,sn,sc,rfl,hl9,_⟩:=au.rd h30;have anA:sn=L.aX.length:=by
      rw [show (dJ L.aX).length=L.aX.length from abl ..]at hl9;omega
     subst anA;clear hl9 hS
     have h31:au w0 Ce (fB ps n pi (.slice ua us.length uc) (.slice none 0 0)::aK 3 1 (.slice none 0 0) (dJ ((L.aX.take 0).filter λs=>decide (n<s)))::bF pi (aY.jE kv) kv.length::aK 3 1 (.slice sa L.aX.length sc) (dJ L.aX)::bC p m L::aK 205 3 (.slice ua us.length uc) (us.flatMap dO)::aV m M::F):=
      (au.iW.2 h30).sb
     clear h30;go_wp2_with fail
     go_loopg [132] L.aX.length (λg iq wr=>∃ (i:Nat) (tv:Value),g=L.aX.length-i/\i<=L.aX.length/\iq=.int .i64 i /\
      au w0 wr (fB ps n pi (.slice ua us.length uc) tv::aK 3 1 tv (dJ ((L.aX.take i).filter λs=>decide (n<s)))::bF pi (aY.jE kv) kv.length::aK 3 1 (.slice sa L.aX.length sc) (dJ L.aX)::bC p m L::aK 205 3 (.slice ua us.length uc) (us.flatMap dO)::aV m M::F))
     case atStart=>exact ⟨0,_,rfl,acn _,rfl,h31⟩
     case round=>
      obtain ⟨i,tv,rfl,hi,rfl,hS⟩:=hrel;clear h31;by_cases hlt:i<L.aX.length
      ·have c1:(i:Int)<(L.aX.length:Int):=oQ;have hwi:IntKind.i64.wrap ((i:Int)+1)=(i:Int)+1:=abR _ (by have:=zN.o;omega);obtain ⟨s,hs⟩:∃ s,L.aX[i]?=some s:=⟨_,aaf hlt⟩;have dP:=uQ hlt;have jl:=uQ (show L.aX.take (i+1)=L.aX.take i++[s] by rw [ajf,hs];rfl);obtain ⟨bk,off,cc,hsv,f0⟩:=GZ (au.rd (hS.pk (A:=aK 3 1 (.slice sa L.aX.length sc) (dJ L.aX)))) hs;cases hsv;clear hi hlt hs;by_cases hgt:n<s
       ·have yE:=uQ (show dJ ((L.aX.take (i+1)).filter λs=>decide (n<s))=dJ ((L.aX.take i).filter λs=>decide (n<s))++[.int .i64 s] by
         rw [jl.o,aof];unfold dJ;rw [acy];simp [hgt])
        have hil:(dJ ((L.aX.take i).filter λs=>decide (n<s))).length<=2147483648:=by
         unfold dJ;rw [abl];have h1:=ak6 (λs=>decide (n<s)) (L.aX.take i);have h2:=avH i L.aX;have:=zN.o;omega
        have e3:wr.cell? ⟨ps,3,none⟩=some tv:=hS.bI bJ 3 rfl;go_wp2_with (with_reducible apply rV);refine ⟨rJ (e:=3) (sz:=1) (je:=8) aC hS aF (cs:=#[.int .i64 s]) rfl rfl aU ?_⟩;intro b41 w41 xC;go_wp2_with (with_reducible apply oK);refine ⟨sJ 3 1 8 aC xC aA aA (bW (bW bJ)) bJ rfl (abG 1) aA hil (by show 1<=65536;decide) aU rfl ?_⟩;intro bA nA cA w42 h42;clear e3 hil;go_wp2_with (with_reducible apply eG);refine ⟨jI (cs':=#[.int .i64 n,aW pi,.slice ua us.length uc,.slice (some ⟨bA,0,none⟩) nA cA]) h42 aA aF aA (pJ eu) dG aC aA ?_⟩;intro XO h43
        have TG:au w0 XO (fB ps n pi (.slice ua us.length uc) (.slice (some ⟨bA,0,none⟩) nA cA)::aK 3 1 (.slice (some ⟨bA,0,none⟩) nA cA) (dJ ((L.aX.take (i+1)).filter λs=>decide (n<s)))::bF pi (aY.jE kv) kv.length::aK 3 1 (.slice (some ⟨bk,off,none⟩) L.aX.length sc) (dJ L.aX)::bC p m L::aK 205 3 (.slice ua us.length uc) (us.flatMap dO)::aV m M::F):=by
         rw [yE.o];exact h43.sb
        clear xC h42 h43 hS f0;go_wp2_with fail
        go_roundg (L.aX.length-(i+1))
        case measure=>have:=dP.o;omega
        case rel=>exact ⟨i+1,_,rfl,aiW dP.o,by first|rfl|go_num,TG⟩
       ·have yE:=uQ (show dJ ((L.aX.take (i+1)).filter λs=>decide (n<s))=dJ ((L.aX.take i).filter λs=>decide (n<s)) by
         rw [jl.o,aof];simp [hgt])
        have av4:¬ s>n:=hgt;go_wp2_with fail
        go_roundg (L.aX.length-(i+1))
        case measure=>have:=dP.o;omega
        case rel=>exact ⟨i+1,tv,rfl,aiW dP.o,by first|rfl|go_num,by rw [yE.o];exact hS⟩
      ·have c1:¬ (i:Int)<(L.aX.length:Int):=oQ;obtain rfl:i=L.aX.length:=oQ;rw [ai0]at hS;clear hlt hi;go_wp2_with fail
       go_ret2
       exact ⟨_,rfl,ps,rfl,pi,_,tv,hS.sb⟩
abbrev Fs:=List (ay.fO×Value)
abbrev Sg:=Int×Fs×Value
def jm (ys:List Sg):aO:=nP (ys.flatMap λy=>[aK 154 36 y.2.2 (jw y.2.1),kT y.2.1])
section
variable {ys:List Sg}{y:Sg}
theorem akN (h:au w0 w (aK 154 36 y.2.2 (jw y.2.1)::kT y.2.1::jm ys::F)):au w0 w (jm (y::ys)::F):=
 au.fP.2 ((au.fP.2 (h.sb:au w0 w (kT y.2.1::jm ys::aK 154 36 y.2.2 (jw y.2.1)::F))).sb)
theorem ZA {A:aO} (hq:y∈ys) (hA:A=aK 154 36 y.2.2 (jw y.2.1)\/A=kT y.2.1) (h:au w0 w (jm ys::F)):∃ G,au w0 w (A::G):=by
 obtain ⟨G,hG⟩:=WX (ys.flatMap λy=>[aK 154 36 y.2.2 (jw y.2.1),kT y.2.1]) A (aob.2 ⟨y,hq,by rcases hA with rfl|rfl <;> simp⟩);unfold jm at h;rw [hG]at h;exact ⟨_,au.fP.1 h⟩
theorem MN (hq:y∈ys) (h:au w0 w (jm ys::F)):bK 36 y.2.2 (jw y.2.1) w:=by
 obtain ⟨G,hG⟩:=ZA hq (.inl rfl) h;exact au.rd hG
theorem Zz {f:ay.fO}{dv:Value} (hq:y∈ys) (hf:(f,dv)∈y.2.1) (h:au w0 w (jm ys::F)):∃ a n c,dv=.slice a n c/\n=f.e.data.length/\bK 1 dv (aI f.e.data) w:=by
 obtain ⟨G,hG⟩:=ZA hq (.inr rfl) h;obtain ⟨i,hi⟩:=avO hf;have r:=Eu hi w hG;obtain ⟨a,n,c,e,hn,_⟩:=r;have h2:f.e.data.length=n*1:=by rw [<-bP];exact hn
 exact ⟨a,n,c,e,by omega,Eu hi w hG⟩
theorem agO (h:au w0 w (eH r m aZ p ps pn d::F)):Calls prog 20 #[aW r] w (bf λv w'=>v=aW p/\w=w'):=by
 have e2:=h.dD 2 _ rfl;have hok:=xM h;clear h
 go_in
 go_wp2_with fail;refine hok.mono ?_;rintro ee w1 ⟨v,rfl,rfl,rfl⟩;go_wp2_with fail;go_ret;exact ⟨_,rfl,rfl,rfl⟩
end
end Go.Proofs.Y
namespace Go.aJ
open Go.ay (Bs)
open Go.aY
theorem ada:∀ (m:Nat) (l:List fZ),l.length=m->(∀ x∈l,0<=x.1)->(∀ x∈l,(kD x).length=32)->∃ kv,kE (lC l) kv/\∀ q∈kv,q.1.length=32
 |0,l,hm,_,_=>by
  obtain rfl:=ajn hm;exact ⟨[],⟨List.Pairwise.nil,λk v=>⟨(λh=>by cases h),(λh=>by cases h)⟩⟩,λq a=>by cases a⟩
 |m+1,l,hm,h0,h32=>by
  rcases aog l with rfl|⟨l',r,rfl⟩
  ·cases hm
  rw [aok]at *
  obtain ⟨kv,c,d⟩:=ada m l' (by rw [aay,ai8]at hm;omega) (λx b=>h0 x (ajm _ b)) (λx b=>h32 x (ajm _ b));rw [adb l' r λx b=>h0 x (ajm _ b)];unfold IC;split
  ·exact ⟨kv,c,d⟩
  ·refine ⟨_,c.put _ _,λq a=>?_⟩;rcases NY.1 a with rfl|a
   ·exact h32 r yD0
   ·exact d q (ai4.1 a).1
end Go.aJ
namespace Go.aB
open Go.aG
open Go.ay (Bs aT fO bU gV iJ eF sG)
open Go.aJ
def oz (M:aG) (s:ByteArray):aG×Int:=if (M.size s).2=9 then (M,0) else M.dA s
def pR (last:Int):List (Nat×Bs)->aG->aG×Int
 |[],M=>(M,0)
 |d::R,M=>if last<(d.1:Int) then (if (oz M (name (d.1:Int))).2=0 then pR last R (oz M (name (d.1:Int))).1 else oz M (name (d.1:Int))) else (M,0)
section
variable {K r E B n:Nat}{M:aG}{R P:List (Nat×Bs)}{d:Nat×Bs}{b:Bs}{last:Int}
theorem alW (A C:List (Nat×Bs)):done (A++C)=done A++done C:=by unfold done;rw [aof,acy]
theorem HW.gB (h:HW K r E B n M R) (hn:n<=1048576){k:Nat} (b:k<1048576) (a:∀ d∈R,d.1≠k):dN M.aN (name (k:Int))=none:=by
 cases hi:dN M.aN (name k) with
 |none=>rfl
 |some i=>
  obtain ⟨d,hd,e⟩:=h.rX k i b hi;exact absurd e (a d hd)
theorem HW.ZW:∀ (m:Nat) (R:List (Nat×Bs)){K:Nat}{M:aG},R.length=m->R.Pairwise (λa b=>a.1<b.1)->(∀ d∈R,d.1<n)->HW K r E B n M (done R)->n<=1048576 ->
  (pR last R.reverse M).2=0/\HW (K+R.length) r E B n (pR last R.reverse M).1 (done (R.filter λd=>decide ((d.1:Int)<=last)))/\aH.kS M (pR last R.reverse M).1/\qj M (pR last R.reverse M).1
 |0,R,K,M,hm,_,_,h,_=>by
  obtain rfl:=ajn hm;exact ⟨rfl,h.mono (Nat.le_add_right _ _) (abG _) (abG _),aH.kS.refl M,qj.refl M⟩
 |m+1,R,K,M,hm,hp,hl,h,hn=>by
  rcases aog R with rfl|⟨D,d,rfl⟩
  ·cases hm
  rw [aok]at *
  have G:D.length=m:=by rw [aay,ai8]at hm;omega
  obtain ⟨p1,p2,p3⟩:=ajJ.1 hp;have hd:=hl d yD0;rw [List.reverse_append,List.reverse_singleton,List.singleton_append];unfold pR;by_cases F:last<(d.1:Int)
  ·rw [abL F];have hf:(D++[d]).filter (λd=>decide ((d.1:Int)<=last))=D.filter λd=>decide ((d.1:Int)<=last):=by
    rw [aof,anT,abB yO0,List.filter_nil,ahB]
   rw [hf,alW,aav]at *
   have f:(oz M (name d.1)).2=0/\HW (K+1) r E B n (oz M (name d.1)).1 (done D)/\aH.kS M (oz M (name d.1)).1/\qj M (oz M (name d.1)).1:=by
    have j:done ([]:List (Nat×Bs))=[]:=rfl;rw [j,ahB]at h;by_cases u:wG d=true
    ·rw [abL u]at h;obtain ⟨i,hi⟩:=h.oD (d:=(d.1,wL d.2)) yD0;have e:oz M (name d.1)=M.dA (name d.1):=by
      unfold oz;rw [abB];rw [aH.WV h.dV.fE hi];simp
     rw [e];obtain ⟨l,g,o,s⟩:=HW.dA h hn;rw [ahB]at g;exact ⟨l,g,o,s⟩
    ·rw [abB u,ahB]at h;have t:=h.gB hn (k:=d.1) oQ λy c=>by
      unfold done at c;obtain ⟨z,v,rfl⟩:=abI.1 c;have:=p3 z (ai4.1 v).1 d (.head _);simp only;omega
     have e:oz M (name d.1)=(M,0):=by
      unfold oz;rw [abL];rw [aH.WU h.dV.fE t]
     rw [e];exact afP
   obtain ⟨l,g,o,s⟩:=f;rw [abL l];obtain ⟨w,x,A,C⟩:=HW.ZW m D G p1 (λy c=>hl y (ajm _ c)) g hn;exact ⟨w,x.mono (by rw [aay,ai8];omega) (abG _) (abG _),o.trans A,s.trans C⟩
  ·rw [abB F];have hf:(D++[d]).filter (λd=>decide ((d.1:Int)<=last))=D++[d]:=by
    rw [avV];intro y c;rcases ahc.1 c with q|q
    ·have:=p3 y q d (.head _);simp only [ad2];omega
    ·rw [acS.1 q];simp only [ad2];omega
   rw [hf];exact afP
theorem HW.fU (h:HW K r E B n M R):M.fU.2=0/\HW K r E B n M.fU.1 R/\M.fU.1.aN=M.aN/\∀ t,M.fU.1.all t=M.all t:=by
 have c:=h.dV.fE.KH;have e:=h.dV.fU;have a:M.fU.1.aN=M.aN:=by rw [c]
 have b:nH M M.fU.1:=by rw [c];exact ⟨rfl,rfl,rfl,λ_ _=>rfl⟩
 exact ⟨by rw [c],⟨e,h.jA,h.lim,λd hd=>by rw [b.all];exact h.file d hd,by rw [b.cO];exact h.cO,by rw [a];exact h.ku,by rw [a];exact h.rX⟩,a,b.all⟩
theorem HW.lD (h:HW K r E B n M R) (hn:n<=1048576) (lim:Int) (l1:128<=lim) (l2:lim<=1048576) :
  ny K r (aB.dK M lim) M/\(aB.dK M lim).l=R.map λd=>((d.1:Int),(d.2.length:Int)):=by
 have g:=h.dV.fE;have u:=yN h.dV.ok lim l1 l2
 have j:(aB.dK M lim).aX=R.map λd=>(d.1:Int):=Ud (Fp u) (by
   rw [akC];exact h.jA.imp λv=>by omega) λs=>by
  rw [aH.abn g.off];constructor
  ·rintro ⟨⟨a,b⟩,i,hi⟩;obtain ⟨k,rfl⟩:∃ k:Nat,s=k:=⟨s.toNat,by omega⟩;obtain ⟨d,hd,rfl⟩:=h.rX k i oQ hi;exact abI.2 ⟨d,hd,rfl⟩
  ·intro j;obtain ⟨x,hx,rfl⟩:=abI.1 j;have:=h.lim x hx;exact ⟨⟨by omega,by omega⟩,h.oD hx⟩
 have f:(aB.dK M lim).l.length=R.length:=by
  have:=aiX List.length j;unfold aS.aX at this;rw [abl,abl]at this;exact this
 refine ⟨⟨u,h.dV,abm M lim⟩,?_⟩;refine awf λk=>?_;rw [ab4];cases hd:R[k]? with
 |none=>exact anS.2 (by rw [f];exact anS.1 hd)
 |some d=>
  have w:=(abM.1 hd).1;have hx:(aB.dK M lim).l[k]?=some ((aB.dK M lim).l[k]'oQ):=aaf oQ;generalize (aB.dK M lim).l[k]'oQ=x at hx;obtain ⟨t,y,m,e⟩:=EH (abH hx);obtain ⟨a,b,c⟩:=E5 m;have hk1:(aB.dK M lim).aX[k]?=some x.1:=by unfold aS.aX;rw [ab4,hx];rfl
  rw [j,ab4,hd]at hk1;have e1:(iD t).1=(d.1:Int):=by rw [e]at hk1;exact (ajH hk1).symm
  rw [e1]at c;have hf:=h.file d (abH hd);rw [hx,e,e1,<-c];show _=some ((d.1:Int),(d.2.length:Int))
  congr 2
  obtain ⟨i,hi⟩:=(aH.yh g).1 (aiX Prod.snd hf);rw [sN g hi]at hf;have o:=aiX (λz:Bs×Int=>z.1.length) hf;unfold aG.size;rw [g.off,hi];show (((M.file i).aN.length:Nat):Int)=_;simp only at o;omega
theorem HW.bytes (h:HW K r E B n M R) (hn:n<=1048576) (lim:Int) (l1:128<=lim) (l2:lim<=1048576):(aB.dK M lim).aX=R.map (λd=>(d.1:Int))/\∀ d∈R,(aB.dK M lim).bytes M (d.1:Int)=(d.2,0):=by
 obtain ⟨k1,k2⟩:=h.lD hn lim l1 l2;have hs:(aB.dK M lim).aX=R.map λd=>(d.1:Int):=by unfold aS.aX;rw [k2,ajr];rfl
 refine ⟨hs,λd hd=>?_⟩;have hm:(d.1:Int)∈(aB.dK M lim).l.map (·.1):=by
  have:(d.1:Int)∈(aB.dK M lim).aX:=by rw [hs];exact abI.2 ⟨d,hd,rfl⟩
  exact this
 obtain ⟨k,hk⟩:=akt k1.lD hm;unfold aS.bytes;rw [hk];exact h.file d hd
theorem HW.hd {D:List (Nat×List aT)} (h:HW K r E B n M (D.map λd=>(d.1,dL++bU d.2))) (hn:n<=1048576) (p:n<=500->∀ d∈D,d.2≠[]) (hg:∀ d∈D,∀ x∈d.2,gV x) (lim:Int) (u:128<=lim) (v:lim<=1048576):HD K r E B n (aB.dK M lim) M D:=by
 obtain ⟨l,m⟩:=h.lD hn lim u v;have a:∀ d∈D,(d.1,dL++bU d.2)∈D.map λd=>(d.1,dL++bU d.2):=λd hd=>abI.2 ⟨d,hd,rfl⟩;have b:∀ d∈D,d.1<n:=λd hd=>h.lim (d.1,dL++bU d.2) (a d hd);have c:∀ d∈D,M.all (name d.1)=(dL++bU d.2,0):=λd hd=>h.file (d.1,dL++bU d.2) (a d hd);have f:∀ d∈D,(∀ x∈d.2,gV x)/\(n<=500->d.2≠[]):=λd hd=>⟨hg d hd,λq=>p q d hd⟩;have g:M.cO<=n*400+B:=abQ h.cO (Nat.le_add_left _ _);have j:M.aN.length<=n+E:=abQ h.ku (Nat.le_add_left _ _);refine ⟨l,?_,?_,b,c,f,g,j,λk i o hi=>?_⟩
 ·rw [m,ajr];refine anP λd hd=>?_;have s:dL.length=8:=rfl;simp only [Function.comp_apply,aay];rw [s]
  rfl
 ·have:=h.jA;rw [akC]at this;exact this
 ·obtain ⟨y,t,e⟩:=h.rX k i o hi;obtain ⟨d,hd,rfl⟩:=abI.1 t;exact ⟨d,hd,e⟩
end
def o8:Int->List (Nat×Bs)->Int
 |a,[]=>a
 |a,d::R=>o8 (if mJ (jG d.2)=true then max a (d.1:Int) else a) R
def lT (last:Int) (R:List (Nat×Bs)) (M:aG):aG×Int:=
 if (nI R M).2=0 then (if (pR last R.reverse (nI R M).1).2=0 then (pR last R.reverse (nI R M).1).1.fU else pR last R.reverse (nI R M).1) else nI R M
def left (last:Int) (R:List (Nat×Bs)):List (Nat×List aT):=((R.filter λd=>decide ((d.1:Int)<=last)).filter wG).map λd=>(d.1,jG d.2)
section
variable {K r E B n:Nat}{M:aG}{R P:List (Nat×Bs)}{d:Nat×Bs}{b:Bs}{last nw:Int}
theorem aoL (last:Int) (R:List (Nat×Bs)):done (R.filter λd=>decide ((d.1:Int)<=last))=(left last R).map λd=>(d.1,dL++bU d.2):=by
 unfold done left;rw [ajr]
 rfl
theorem HW.lT (h:HW K r E B n M R) (hn:n<=1048576) (hE:E+R.length<500) (hB:B+(R.map λd=>8+d.2.length).sum<=r) (last:Int) :
  (aB.lT last R M).2=0/\HW (K+7*R.length) r (E+R.length) (B+(R.map λd=>8+d.2.length).sum) n (aB.lT last R M).1 ((left last R).map λd=>(d.1,dL++bU d.2)) /\
   aH.kS M (aB.lT last R M).1/\(∀ t,t≠aH.tmp->(∀ k:Int,t≠name k)->(aB.lT last R M).1.all t=M.all t):=by
 obtain ⟨e,a,f,g⟩:=HW.MR R [] h hn hE hB;rw [ajc]at a;obtain ⟨b1,b2,i,j⟩:=HW.ZW R.length R rfl h.jA h.lim a hn;obtain ⟨l,b,m,o⟩:=b2.fU;rw [aoL]at b;unfold aB.lT;rw [abL e,abL b1];exact ⟨l,b.mono oQ (abG _) (abG _),λp s=>(f.trans i) p (by rw [<-m];exact s),λt u c=>(o t).trans ((j t c).trans (g t u c))⟩
theorem Ug:∀ (R:List (Nat×Bs)) (a:Int),a<=o8 a R/\(∀ d∈R,mJ (jG d.2)=true->(d.1:Int)<=o8 a R)/\(o8 a R=a\/∃ d∈R,mJ (jG d.2)=true/\(d.1:Int)=o8 a R)
 |[],a=>⟨avf _,λd hd=>(by cases hd),.inl rfl⟩
 |d::R,a=>by
  obtain ⟨i,n,c⟩:=Ug R (if mJ (jG d.2)=true then max a d.1 else a);show a<=o8 _ R/\(∀ e∈d::R,_->e.1<=o8 _ R)/\(o8 _ R=a\/∃ e∈d::R,_/\e.1=o8 _ R);generalize o:o8 (if mJ (jG d.2)=true then max a d.1 else a) R=x at *
  by_cases f:mJ (jG d.2)=true
  ·rw [abL f]at i c;refine ⟨by omega,λe b g=>?_,?_⟩
   ·rcases ab9.1 b with rfl|b
    ·omega
    ·exact n e b g
   ·rcases c with q|⟨e,j,l,m⟩
    ·by_cases r:a<=d.1
     ·exact .inr ⟨d,.head _,f,by omega⟩
     ·exact .inl oQ
    ·exact .inr ⟨e,.tail _ j,l,m⟩
  ·rw [abB f]at i c;refine ⟨i,λe b g=>?_,?_⟩
   ·rcases ab9.1 b with rfl|b
    ·exact absurd g f
    ·exact n e b g
   ·rcases c with q|⟨e,j,l,m⟩
    ·exact .inl q
    ·exact .inr ⟨e,.tail _ j,l,m⟩
end
section
variable {K r E B n:Nat}{L:aS}{M:aG}{D:List (Nat×List aT)}{R:List (Nat×Bs)}{last:Int}
theorem HD.stp (h:HD K r E B n L M D) (he:vg D):∃ kv,aY.kE (lC (ig D)) kv/\(∀ q∈kv,q.1.length=32)/\uF D (eP D) ((oP D).map (pI kv)) (jH kv):=by
 have⟨kv,b,c⟩:=ada _ (ig D) rfl (λx a=>by have⟨d,_,e,_⟩:=V8 a;omega) (λx a=>(h.row a).2.1.2);exact ⟨kv,b,c,rfl,⟨kv,b,c,rfl,rfl⟩,he⟩
theorem aaI {x:aT} (h:gV x):9<=(ay.dI x).1.length:=by
 have a:=ay.VQ h.1 h.2 [];have b:=ay.BK (by rw [a]);rw [a]at b;exact b.1
theorem Nh:∀ {l:List aT},(∀ x∈l,gV x)->9*l.length<=(bU l).length
 |[],_=>acn _
 |x::l,h=>by
  have h1:=aaI (h x (.head _));have ih:=Nh λy hy=>h y (.tail _ hy);exact af0
theorem WB (b:Bs):9*(jG b).length<=b.length:=by
 obtain ⟨h1,h2,_⟩:=Ky b;have h3:=Nh h1;have hm:dL.length=8:=rfl;unfold wL at h2;rw [aay]at h2;omega
theorem ade (last:Int) (d:Nat×Bs) (R:List (Nat×Bs)):left last (d::R)=(if (d.1:Int)<=last/\wG d=true then [(d.1,jG d.2)] else [])++left last R:=by
 unfold left;rw [anT];by_cases a:d.1<=last
 ·rw [abL (by simpa using a),anT];by_cases b:wG d=true
  ·rw [abL b,abL ⟨a,b⟩];rfl
  ·rw [abB b,abB λq=>b q.2];rfl
 ·rw [abB (by simpa using a),abB λq=>a q.1];rfl
structure oJ (K r E B n:Nat) (L:aS) (M:aG) (D:List (Nat×List aT)):Prop where
 hd:HD K r E B n L M D
 rE:(iP D).length<=n
 qK:∀ p∈M.aN,p.1.size<=24
 uV:n<=500->∀ e∈iP D,e.data.length<=300
theorem jD.t (h:jD K r E B n L M D):oJ K r E B n L M D:=⟨h.hd,h.rE,h.qK,h.uV⟩
theorem oJ.dK (h:oJ K r E B n L M D) (lim:Int) (l1:128<=lim) (l2:lim<=1048576):oJ K r E B n (aB.dK M lim) M D:=⟨h.hd.dK lim l1 l2,h.rE,h.qK,h.uV⟩
end
def mZ:Int->List (Nat×Bs)->Int
 |a,[]=>a
 |a,d::R=>mZ (if lH d.2=false/\mJ (jG d.2)=true then (d.1:Int) else a) R
theorem Z8 {z:Int}:∀ {R:List (Nat×Bs)}{a:Int},a<z->(∀ d∈R,(d.1:Int)<z)->mZ a R<z
 |[],_,h,_=>h
 |d::R,a,h,hr=>by
  unfold mZ;refine Z8 ?_ λy hy=>hr y (.tail _ hy);split
  ·exact hr d (.head _)
  ·exact h
def mF (D:List (Nat×List aT)):List (Nat×Bs):=D.map λd=>(d.1,dL++bU d.2)
section
variable {M:aG}{D:List (Nat×List aT)}{R:List (Nat×Bs)}{last nw a:Int}{es:List aT}
theorem Ep (h:∀ x∈es,gV x):lH (dL++bU es)=false/\jG (dL++bU es)=es:=by
 have h1:=ay.Kz es h;have hb:lH (dL++bU es)=false:=by unfold lH;rw [h1];rfl
 refine ⟨hb,?_⟩;unfold jG;rw [abB (by rw [hb];decide),h1];exact ay.zX es 8
theorem VL {y:Nat×Bs} (h:∀ d∈D,∀ x∈d.2,gV x) (hy:y∈mF D):∃ d∈D,y.1=d.1/\y.2=dL++bU d.2/\lH y.2=false/\jG y.2=d.2:=by
 obtain ⟨d,hd,rfl⟩:=abI.1 hy;obtain ⟨h1,h2⟩:=Ep (h d hd);exact ⟨d,hd,rfl,rfl,h1,h2⟩
theorem ZX:∀ {R:List (Nat×Bs)},(∀ d∈R,lH d.2=false)->nI R M=(M,0)
 |[],_=>rfl
 |d::R,h=>by
  unfold nI;rw [abB (by rw [h d (.head _)];decide)];exact ZX λe he=>h e (.tail _ he)
theorem ali (h:∀ d∈R,(d.1:Int)<=last):pR last R.reverse M=(M,0):=by
 cases hr:R.reverse with
 |nil=>rfl
 |cons d l=>
  have hd:=List.mem_reverse.1 (by rw [hr];exact .head _);have:=h d hd;unfold pR;rw [abB oQ]
theorem ac0 (hr:D.Pairwise λa b=>a.1<b.1){d:Nat×List aT} (hd:d∈D):(d.1:Int)<=eP D:=Oc hr hd
theorem aoB (hne:D≠[]):∃ d∈D,D.getLast?=some d/\eP D=(d.1:Int):=by
 cases hg:D.getLast? with
 |none=>exact absurd (ajF.1 hg) hne
 |some d=>exact ⟨d,aju hg,rfl,by unfold eP;rw [hg]⟩
theorem aou (h:D.Pairwise λa b=>a.1<b.1) (hg:∀ d∈D,∀ x∈d.2,gV x) (k:vg D) (hn:nw = -1\/nw<=eP D) (p : -1<=nw):o8 nw (mF D)=eP D:=by
 have⟨o,g,i⟩:=Ug (mF D) nw;rcases Classical.em (D=[]) with rfl|c
 ·have e:o8 nw (mF [])=nw:=rfl;have f:eP ([]:List (Nat×List aT)) = -1:=rfl;rw [e,f];rw [f]at hn;omega
 ·have⟨d,hd,j,e⟩:=aoB c;have⟨_,b2⟩:=Ep (hg d hd);have l:=g (d.1,dL++bU d.2) (abI.2 ⟨d,hd,rfl⟩) (by simp only;rw [b2];exact k d j);simp only at l;rcases i with q|⟨y,m,_,q⟩
  ·rcases hn with rfl|hn <;> omega
  ·have⟨z,n,r,_⟩:=VL hg m;have:=ac0 h n;omega
theorem alq (hr:D.Pairwise λa b=>a.1<b.1) (hg:∀ d∈D,∀ x∈d.2,gV x) (he:vg D):mZ (-1) (mF D)=eP D:=by
 rcases aog D with rfl|⟨g,d,rfl⟩
 ·rfl
 rw [aok]at *
 have key:∀ (R:List (Nat×Bs)) (a:Int) y,lH y.2=false->mJ (jG y.2)=true->mZ a (R++[y])=y.1:=by
  intro R
  induction R with
  |nil=>
   intro a y c f;show (if lH y.2=false/\mJ (jG y.2)=true then (y.1:Int) else a)=_;rw [abL ⟨c,f⟩]
  |cons x R i=>
   intro a y c f;exact i _ y c f
 have e:mF (g++[d])=mF g++[(d.1,dL++bU d.2)]:=by unfold mF;rw [acy];rfl
 obtain ⟨b1,b2⟩:=Ep (hg d yD0);rw [e,aoC];exact key _ _ (d.1,dL++bU d.2) b1 (by simp only;rw [b2];exact he d yD0)
theorem ald (hr:D.Pairwise λa b=>a.1<b.1) (hg:∀ d∈D,∀ x∈d.2,gV x):lT (eP D) (mF D) M=M.fU:=by
 have f:∀ y∈mF D,lH y.2=false:=λy c=>by
  have⟨d,hd,_,_,h,_⟩:=VL hg c;exact h
 have g:∀ y∈mF D,y.1<=eP D:=λy c=>by
  have⟨d,hd,e,_⟩:=VL hg c;rw [e];exact ac0 hr hd
 unfold lT;rw [ZX f];simp only [auT];rw [ali g];simp only [auT]
end
open Go.aG
open Go.ay (Bs aT bU gV iJ)
open Go.aJ
section
variable {K r E B n:Nat}{L:aS}{M M':aG}{D:List (Nat×List aT)}{N:Int}{us:List gX}{pl:List (Bs×bT)}{b1 b2:Bs}
theorem jD.hf (h:jD K r E B n L M D) (hnm:M.aN.length<=480) (h1:0<=N) (h2:N<1048576) (hb1:b1=bH.jM Xx.sum bH.xH true (pl.map mO)) (hb2:b2=bH.jM Xx.sum bH.xI false (us.map mV))
  (hr:M.cO+b1.length+b2.length<=r):(aH.nO M N b1 b2).2=0/\HF (aH.nO M N b1 b2).1 N pl us/\(aH.nO M N b1 b2).1.aN.length<=M.aN.length+2/\(aH.nO M N b1 b2).1.cO<=M.cO+b1.length+b2.length:=by
 have s:=aH.WH (n:=N) (b1:=b1) (b2:=b2) h.hd.fD.dV h.tmp hnm h1 h2;have hz:=s.room hr;have hd:=s.done.resolve_right oQ;refine ⟨hz,⟨by rw [<-hb1];exact hd.2.1,by rw [<-hb2];exact hd.2.2,λp hp hn=>?_⟩,s.len,s.cO⟩;have:=s.gB hz p hp;unfold aH.kU at this;rw [hn]at this;simpa using this
theorem ahv (h:∀ p∈M.aN,p.1.size<=24) (g:aH.kS M M'):∀ p∈M'.aN,p.1.size<=24:=λp hp=>by
 rcases g p hp with q|⟨k,q⟩
 ·exact h p q
 ·rw [q];exact adP k
end
end Go.aB
