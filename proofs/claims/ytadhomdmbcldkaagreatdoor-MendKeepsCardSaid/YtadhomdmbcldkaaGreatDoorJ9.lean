import Derived.Test.YtadhomdmbcldkaaGreatDoorJ8
set_option linter.unusedSimpArgs false
open Go.Proofs.Tryz
set_option maxRecDepth 20000
set_option linter.unusedVariables false
set_option maxHeartbeats 128000000
open Go Go.Sl Go.MapKept Go.RowKit
open Go.Proofs.YtadhomdmbcldkaaGreatDoor Go.Proofs.Y
variable {w w0:World}{F:List aO}{p m K:Nat}{P:Program}{ops:Array Oper}{a:Act}{dst:Option Tmp}{ty:TypeId}{after:Array Edge}{x y:Operand}{v rv lv bv vy:Value}{rest:List Oper}{Q:Exit->Act->World->Prop}{xs:List Value}{L:aB.aS}{M:aG.aG}
theorem yX0{p:Prop} (h:p:=by rw [b];omega):p:=h
theorem zL0{p:Prop} (h:p:=by have:=Hn.o;omega):p:=h
namespace Go.Proofs.Y
open Go.aG
section
variable {L R:List aO}{t e:TypeId}{pos:String}{s:Operand}{sz je:Nat}{v1:Value}
theorem asT (hb:vZ P t e sz je=true) (w:World):(Instr.buildSlice t 0 #[]).run P w=.ok (.slice (some ⟨w.heap.size,0,none⟩) 0 0) (w.alloc (.cells #[] e)):=by
 obtain ⟨b,i,z,hi,d,f,g,j,l⟩:=CQ hb;have a:(sizeOf e).run P w=.ok i.size w:=by simp [sizeOf,typeInfo,hi]
 have hf:Instr.fill (λc=>some (c*i.size,i.size)) ((Array.range 0).map ((#[]:Array Value)[· % (#[]:Array Value).size]!)) []=some #[]:=by unfold Instr.fill;simp
 unfold Instr.buildSlice;simp only [aii,akB b,acz,a,Nat.zero_mul,abB (show ¬ (0>2^24) by omega)];simp [newRow,go_sem]
theorem Zw (h:lQ (wpList P ops Q (⟨dst,.buildSlice ty 0 #[],t,pos,after,none⟩::rest) a w)):wpList P ops Q (⟨dst,.buildSlice ty 0 #[],t,pos,after,none⟩::rest) a w:=h.o
theorem air (hb:vZ P ty e sz je=true) (hs:au w0 w L)
  (hK:∀ b w',au w0 w' (aK e sz (.slice (some ⟨b,0,none⟩) 0 0) []::L)->wpList P ops Q rest (a.put dst (.slice (some ⟨b,0,none⟩) 0 0)) w'):wpList P ops Q (⟨dst,.buildSlice ty 0 #[],t,pos,after,none⟩::rest) a w:=by
 refine ajs rfl λ_ hK'=>?_;have hS:=hs.alloc (.cells #[] e);unfold Oper.wp execOp;simp only [akg,ajz,aii,aiV,asT hb w,acz];exact hK' _ _ (hK _ _ (au.pV hS yD0 (abG _) yD0 aU yD0))
end
section
variable {b n c B:Nat}{m:ay.Bs->Option aB.bT}
theorem alf (h1:∀ u∈xs,u.oneCell'=true) (hl:xs.length<=2147483648) (h:au w0 w (aK 215 36 (.slice (some ⟨b,0,none⟩) n c) xs::F)) :
  Calls prog 124 #[.slice (some ⟨b,0,none⟩) n c] w (bf λv w'=>au w0 w' (aK 215 36 v xs::aK 215 36 (.slice (some ⟨b,0,none⟩) n c) xs::F)):=by
 have d:=uQ hl;have f:∀ w,(binOp .eql 212 (.slice (some ⟨b,0,none⟩) n c) (.slice none 0 0)).run prog w=.ok (.bool false) w:=λw=>by first|kernel_rfl|rfl
 go_in
 go_wp2_with (first
  |((with_reducible refine Zw ⟨?_⟩);refine air (e:=215) (sz:=36) (je:=64) aC h ?_;intro g i a)
  |(with_reducible apply oK))
 refine ⟨aio 215 36 64 aC a aA aA bJ (au.rd a.drop) h1 (by have:=d.o;simp only [ajw];omega) aU ?_⟩;intro v' w' hS;rw [ajc]at hS;go_wp2_with fail;go_ret;exact ⟨_,rfl,hS⟩
theorem atE (s:List (aY.gy aB.bT)):∀ u∈s.flatMap (bY dQ),u.oneCell'=true:=λu hu=>by
 obtain ⟨x,_,hx⟩:=aob.1 hu;have:=(ajC.1 (y7 dQ x (OO _))) u hx;exact this
theorem Z' (hB:B<=14000000) (h:au w0 w (bF p m B::F)) :
  Calls prog 50 #[aW p] w (bf λv w'=>∃ q,v=aW q/\au w0 w' (bF q m B::bF p m B::F)):=by
 obtain ⟨t,O,⟨ok,is,A⟩,f⟩:=bF.open h;have g:t.bG.length<=56000008:=by have:=ok.size;omega
 have a:=uQ (show ∀ x∈t.bG,(bY dQ x).length=36 from λx G=>pG dQ x (ok.dW.key x G) 3 (Ic _));have i:=uQ ok.dW.qX;have j:=uQ (show (t.bG.flatMap (bY dQ)).length=t.bG.length*36 from (lK a.o).trans (alQ _ _));obtain ⟨H,lc,rfl⟩:=l9 a.o (au.rd (f.pick bZ)) aU;obtain ⟨d,rfl⟩:∃ d,H=some ⟨d,0,none⟩:=by
  rcases au.nV (f.pick bZ) with ⟨_,u,_⟩|⟨b,n,cap,P,u,_⟩
  ·have:=aiX List.length u;have:=j.o;have:=i.o;simp only [ajw]at *;omega
  ·cases u;exact ⟨b,rfl⟩
 have l:=JZ i.o f;have o:=uQ ok;have r:=uQ is;have C:=uQ A;have z:=uQ g;clear h ok is A g hB
 go_in
 go_wp2_with fail;refine l.mono ?_;rintro I Q ⟨v,rfl,rfl,rfl⟩;clear l;go_wp2_with fail;have c:=f.drew;clear f;refine gK [13,14,15] (λw'=>w'.cell? ⟨p,0,none⟩=some (.slice (some ⟨d,0,none⟩) t.bG.length lc)/\w'.cell? ⟨p,1,none⟩=some (.int .i64 t.n)/\w'.cell? ⟨p,2,none⟩=some (.int .i64 t.gB)) aC ?_;have J:World.cell? _ ⟨p,0,none⟩=some (.slice (some ⟨d,0,none⟩) t.bG.length lc)/\World.cell? _ ⟨p,1,none⟩=some (.int .i64 t.n)/\World.cell? _ ⟨p,2,none⟩=some (.int .i64 t.gB):=⟨c.dD 0 _ rfl,c.dD 1 _ rfl,c.dD 2 _ rfl⟩;refine rP 0 ?_ (y:=bV);refine rP 1 ?_ (y:=jF);refine rP 2 ?_ (y:=eY);refine rt 3 (h:=?_);refine rP 5 ?_ (y:=bV);refine rP 6 ?_ (y:=jF);refine rP 7 ?_ (y:=eY);refine rt 8 (h:=?_);refine rP 9 ?_ (y:=bV);refine rP 10 ?_ (y:=jF);refine rP 11 ?_ (y:=eY);refine rt 12 (h:=?_);clear J;refine dZ 4 aF aC (λK s=>?_)
 (refine yw aC aF ?_)
 refine (alf (atE _) (by rw [j.o];have:=z.o;omega) c.sb).mono ?_;rintro I R ⟨v,rfl,e⟩;refine s _ _ (.inr (.inl ⟨e.bI jS 0 rfl,e.bI jS 1 rfl,e.bI jS 2 rfl⟩)) ?_;clear s c;obtain ⟨D,E,rfl⟩:=l9 a.o (au.rd e) aU;refine rp 13 (hy:=(by (refine Or.inl ⟨by rfl,?_⟩;((intro S;go_simp);first|done|exact wQ)))) (h:=?_);refine dZ 14 aF aC (λK s=>?_);refine SG e aF aF ?_;intro q L M;refine s _ _ (.inl rfl) ?_;clear s e;refine rP 15 ?_ (y:=kR);refine fK aC ?_
 try simp only [kW]
 try go_frame
 go_wp2_with fail;go_ret;have N:=bF.fA o.o r.o C.o (M.sb:au w0 L (kY p 217 (.slice (some ⟨d,0,none⟩) t.bG.length lc) t.n t.gB::aK 215 36 (.slice (some ⟨d,0,none⟩) t.bG.length lc) (t.bG.flatMap (bY dQ))::kY q 217 (.slice D t.bG.length E) t.n t.gB::aK 215 36 (.slice D t.bG.length E) (t.bG.flatMap (bY dQ))::F));exact ⟨_,rfl,q,rfl,bF.fA o.o r.o C.o (N.sb)⟩
theorem aoN (h:au w0 w (bF p m B::F)) :
  Calls prog 128 #[aW p] w (bf λv w'=>∃ t:aY.Tb aB.bT,(t.Ok/\t.Is m)/\v=.int .i64 t.n/\w=w'):=by
 obtain ⟨t,d,⟨ok,is,c⟩,b⟩:=bF.open h;have Hlen:=uQ (show ∀ x∈t.bG,(bY dQ x).length=36 from λx hx=>pG dQ x (ok.dW.key x hx) 3 (Ic _));obtain ⟨e,lc,rfl⟩:=l9 Hlen.o (au.rd (b.pick bZ)) aU;have a:=JZ ok.dW.qX b;have f:=b.dD 1 _ rfl;have H:=(And.intro ok is)
 go_in
 go_wp2_with fail;refine a.mono ?_;rintro g i ⟨v,rfl,rfl,rfl⟩;go_wp2;go_ret;exact ⟨_,rfl,t,H,rfl,rfl⟩
end
section
variable {t:TypeId}{pos:String}
theorem akv (h:lQ (wpList P ops Q (⟨dst,.sliceToArrayPointer ty x,t,pos,after,none⟩::rest) a w)):wpList P ops Q (⟨dst,.sliceToArrayPointer ty x,t,pos,after,none⟩::rest) a w:=h.o
theorem au7 (hx:a.eval x=v) (hr:∀ w,(Instr.arrayAt ty v).run P w=.ok vy w) (h:wpList P ops Q rest (a.put dst vy) w):wpList P ops Q (⟨dst,.sliceToArrayPointer ty x,t,pos,after,none⟩::rest) a w:=
 ajs rfl λ_ hK=>by
  unfold Oper.wp execOp;simp only [hx,aii,hr,acz,aiV];exact hK _ _ h
theorem Zr (h:lQ (wpList P ops Q (⟨dst,.build ty #[],t,pos,after,none⟩::rest) a w)):wpList P ops Q (⟨dst,.build ty #[],t,pos,after,none⟩::rest) a w:=h.o
end
theorem ag9 (w:World):(Instr.build 276 #[]).run prog w=.ok (.agg (eX AB).toArray) w:=aC
theorem aqI (k:ay.Bs) (hk:k.length=32) (nv:Value):iK (eX ⟨⟨ay.gu,[]⟩,nv⟩).toArray 0 (aI k)=(eX ⟨⟨k,[]⟩,nv⟩).toArray:=by
 have hz:ay.gu.length=32:=rfl;apply vS;rw [BI _ _ _ (by rw [abC,rF _ hz,bP,hk];decide),agQ];unfold eX;exact Vt
theorem aey (k:ay.Bs) (hk:k.length=32) (ns ms:List Int) (nv mv:Value):iK (eX ⟨⟨k,ns⟩,nv⟩).toArray 32 [mv]=(eX ⟨⟨k,ms⟩,mv⟩).toArray:=by
 apply vS;rw [BI _ _ _ (by rw [abC,rF _ hk];exact abG 33),agQ];have h0:=Dt (aI k) [nv] [mv] 0;rw [bP,hk,Ig aA]at h0;exact h0
abbrev xO (b:Nat) (k:ay.Bs) (ns:List Int) (nv:Value):aO:=pt b (.cells (eX ⟨⟨k,ns⟩,nv⟩).toArray 276 (0,0))
abbrev oN (b:Nat) (mg:ByteArray) (kd:Bool) (k:Nat):aO:=pt b (.cells (su mg kd k) 270 (0,0))
theorem aov (jr:ByteArray) (k:Nat) (hk:k<=3) (rs:List bH.Rw) (hok:∀ r∈rs,bH.CO k r) (hn:rs.length<=65536) (hz:∀ r∈rs,r.key=ay.gu) (T:ay.Bs) (hr:RS w0 F rv (bH.nN false rs++T)) (h:au w0 w (mG p rv::F)) :
  Calls prog 233 #[.agg (su jr false k),aW p,.int .i64 rs.length] w (bf λv w'=>∃ (vs:List RV) (rv':Value),vs.map (·.x)=rs/\RS w0 F rv' T/\au w0 w' (aK 276 33 v (vs.flatMap eX)::mQ vs::mG p rv'::F)):=by
 have N:=uQ hr;have A:=uQ hok;have Hn:=uQ hn;have Hk:=uQ hk;have O:=uQ hz;clear hr hok hn hk hz;go_enter func233,ntmps233;go_wp2_with (with_reducible apply jy);refine ⟨jB h aA aA ?_⟩;intro d P t;replace t:au w0 P (mG p rv::oN d jr false k::F):=t.sb;clear h;go_wp2_with fail
 go_loopg [7,10] rs.length (λg Q B C=>∃ (i:Nat) (vs:List RV) (f b:Value),g=rs.length-i/\i<=rs.length/\f=Q/\B=.int .i64 i/\RS w0 F b (bH.nN false (rs.drop i)++T)/\(vs.map (·.x)=rs.take i/\∀ x∈vs,x.x.key.length=32) /\
  au w0 C (aK 276 33 f (vs.flatMap eX)::mQ vs::mG p b::oN d jr false k::F))
 case atStart=>exact ⟨0,[],_,rv,rfl,acn _,rfl,rfl,N.o,⟨rfl,λr hr=>by cases hr⟩,au.iW.2 (au.ng.2 t)⟩
 case round=>
  obtain ⟨i,vs,f,Dz,rfl,hi,rfl,rfl,hRS,hvs,hS⟩:=hrel;clear t;by_cases hlt:i<rs.length
  ·as_aux_lemma=>
    have c3:(i:Int)<(rs.length:Int):=oQ;have S:IntKind.i64.wrap ((i:Int)+1)=(i:Int)+1:=abR _ zL0;obtain ⟨r,hx⟩:∃ r,rs[i]?=some r:=⟨_,aaf hlt⟩;have xg:=uQ (A.o r (abH hx));have D:=uQ (O.o r (abH hx));refine aeY ?_;intro hRS jl dP uD JB;obtain ⟨Y,E⟩:∃ Y,bH.nN false (rs.drop (i+1))++T=Y:=⟨_,rfl⟩;rw [E]at hRS;have U:=uQ E;clear E;have oU:=uQ (show RS w0 F Dz (bH.ou r.eU++Y) from by unfold bH.BO at hRS;exact hRS);clear hx hlt hi hvs hRS
    go_wp2_with (first
     |((with_reducible refine Zr ⟨?_⟩);refine FQ aA ag9 ?_)
     |(with_reducible apply jd))
    refine ⟨iR D5 hS rfl ?_⟩;intro l w8 J;clear hS;go_wp2_with (with_reducible apply eG);refine ⟨jK (eX AB).toArray J aA aA aA eu aC aA ?_⟩;intro V m;clear J;have W:=oU;have a:au w0 V (xO l r.key (r.eU.take 0) (.slice none 0 0)::aK 3 1 (.slice none 0 0) (dJ (r.eU.take 0))::mG p Dz::oN d jr false k::aK 276 33 f (vs.flatMap eX)::mQ vs::F):=by
     rw [ajN,D.o];exact (au.iW.2 m).sb
    clear m;have m:=a;clear a;generalize Dz=b at *
    go_wp2_with ((with_reducible refine dH ⟨?_⟩);refine jC m aA (bW (bW (bW bJ))) dG aF aC ?_);go_wp2_with ((with_reducible refine dH ⟨?_⟩);refine jC m aA (bW (bW (bW bJ))) dG aF aC ?_)
    go_loopg [22] k (λg B C=>∃ (j:Nat) (nv sF:Value),g=k-j/\j<=k/\B=.int .i64 j/\RS w0 F sF (bH.ou (r.eU.drop j)++Y)/\au w0 C (xO l r.key (r.eU.take j) nv::aK 3 1 nv (dJ (r.eU.take j))::mG p sF::oN d jr false k::aK 276 33 f (vs.flatMap eX)::mQ vs::F))
    case atStart=>exact ⟨0,_,b,rfl,acn _,rfl,W.o,m⟩
    case round=>
     obtain ⟨j,nv,sF,rfl,L,rfl,hRS,hSj⟩:=hrel;clear m;by_cases hjl:j<k
     ·as_aux_lemma=>
      refine afa ?_;intro c4 EL n hn hnb;obtain ⟨x,rfl⟩:∃ x:Nat,n=(x:Int):=⟨n.toNat,by omega⟩;refine af9 ?_;intro hRS hdr jl hnum GL hw2 hrn oU yF hkey kV Hsm;obtain ⟨na,nn,nc,rfl,G,_⟩:=au.rd (hSj.pick bZ);clear hn hnb hjl L hdr hnum GL hkey G hRS;go_wp2_with fail;have a:=hSj.drew;clear hSj;refine gK [6,7,8] (λw'=>w'.cell? ⟨l,32,none⟩=some (.slice na nn nc)) aC ?_;have HG:=uQ (λ(w':World) (R:List aO) (hw:au w0 w' (xO l r.key (r.eU.take j) (.slice na nn nc)::R))=>show w'.cell? ⟨l,32,none⟩=some (.slice na nn nc) from hw.bI bJ 32 (Fj (x:=⟨r.key,r.eU.take j⟩) kV.o));have X:=HG.o _ _ a;refine rP 0 ?_ (y:=eY);refine rt 1 (h:=?_);clear X;refine rP 2 ?_ (y:=bV);refine dZ 3 aF aC (λK hK=>?_)
      (refine kM aC aF aF ?_)
      refine (hrn.o _ _ (oU.o.tC oG) (a.sb:au w0 _ (mG p sF::xO l r.key (r.eU.take j) (.slice na nn nc)::aK 3 1 (.slice na nn nc) (dJ (r.eU.take j))::oN d jr false k::aK 276 33 f (vs.flatMap eX)::mQ vs::F))).mono ?_;rintro ee Z ⟨v,rfl,rv3,rfl,c,o⟩;refine hK _ _ (.inr (.inl (HG.o _ _ (o.sb)))) ?_;have Yl:=uQ (c _ oU.o);clear hK a hrn c oU;refine rP 4 ?_ (y:=(Ya aF dX));refine dZ 5 aF aC (λK hK=>?_);refine aaB (e:=3) (sz:=1) (je:=8) aC o aF (cs:=#[.int .i64 (x:Int)]) rfl rfl aU ?_;intro bN aa s;refine hK _ _ (.inr (.inl (HG.o _ _ (s.sb)))) ?_;clear hK o;refine dZ 6 aF aC (λK hK=>?_);refine aaz 3 1 8 aC s aF aF (by first|exact bW (bW (bW bJ))) bJ rfl (abG 1) rfl (by unfold dJ;rw [abl];exact Hsm.o) dG dG (ys:=dJ [(x:Int)]) rfl ?_;intro u z M H h13;refine hK _ _ (.inl rfl) ?_;clear hK s;refine rP 7 ?_ (y:=eY);refine dZ 8 aF aC (λK hK=>?_)
      refine qE (cs':=(eX ⟨⟨r.key,r.eU.take (j+1)⟩,.slice (some ⟨u,0,none⟩) z M⟩).toArray) (h13.sb:au w0 H (xO l r.key (r.eU.take j) (.slice na nn nc)::aK 3 1 (.slice (some ⟨u,0,none⟩) z M) (dJ (r.eU.take j)++dJ [(x:Int)])::mG p rv3::oN d jr false k::aK 276 33 f (vs.flatMap eX)::mQ vs::F)) aF aF (aey r.key kV.o _ _ _ _) eu (by show 32+1<=_;rw [qJ _ kV.o];decide) aC aA ?_;exact agj
     ·as_aux_lemma=>
      have c4:¬ (j:Int)<(k:Int):=oQ;obtain rfl:j=k:=oQ;have hln:=xg.o.len;have e1:r.eU.drop j=[]:=aiU oQ;have e2:r.eU.take j=r.eU:=acE oQ;rw [e1]at hRS;rw [e2]at hSj;have oU:=uQ (show RS w0 F sF Y from hRS);have kV:=uQ xg.o.key;have zK:=uQ JB.o;obtain ⟨na,nn,nc,rfl,_,_⟩:=au.rd (hSj.pick bZ);clear L hjl hRS hln e1 e2
      go_wp2_with (first
       |((with_reducible refine dH ⟨?_⟩);refine kG hSj aA bJ underlying276 rfl (by rw [qJ _ kV.o];kernel_rfl) ?_)
       |((with_reducible refine rV ⟨?_⟩);refine rJ (e:=276) (sz:=33) (je:=56) (cs:=(eX ⟨r,.slice na nn nc⟩).toArray) aC hSj aA rfl (qJ ⟨r,.slice na nn nc⟩ kV.o) dG ?_;intro bN wN hN)
       |(with_reducible apply oK))
      refine aeW ?_;intro u z c2 wW nJ;clear hSj hN;go_wp2_with fail
      go_roundg (rs.length-(i+1))
      case measure=>have:=dP.o;omega
      case rel=>
       refine ⟨i+1,vs++[⟨r,.slice na nn nc⟩],_,sF,rfl,aiW dP.o,rfl,by first|rfl|go_num,by rw [U.o];exact oU.o,⟨?_,?_⟩,?_⟩
       ·rw [acy,jl.o,uD.o.1];rfl
       ·intro x hx;rcases ahc.1 hx with hx|hx
        ·exact uD.o.2 x hx
        ·rw [acS.1 hx];exact kV.o
       ·rw [ai5,aiN,am6,ahB];have I:au w0 wW (aK 3 1 (.slice na nn nc) (dJ r.eU)::mQ vs::aK 276 33 (.slice (some ⟨u,0,none⟩) z c2) (vs.flatMap eX++eX ⟨r,.slice na nn nc⟩)::mG p sF::oN d jr false j::F):=nJ.sb;exact (OD (r:=⟨r,.slice na nn nc⟩) I).sb
  ·as_aux_lemma=>
   exact aeQ
theorem aow (jr:ByteArray) (k:Nat) (hk:k<=3) (rs:List bH.Rw) (hok:∀ r∈rs,bH.CO k r) (hn:rs.length<=65536) (T:ay.Bs) (hr:RS w0 F rv (bH.nN true rs++T)) (h:au w0 w (mG p rv::F)) :
  Calls prog 233 #[.agg (su jr true k),aW p,.int .i64 rs.length] w (bf λv w'=>∃ (vs:List RV) (rv':Value),vs.map (·.x)=rs/\RS w0 F rv' T/\au w0 w' (aK 276 33 v (vs.flatMap eX)::mQ vs::mG p rv'::F)):=by
 have Z:=uQ hr;have J:=uQ hok;have Hn:=uQ hn;have Hk:=uQ hk;clear hr hok hn hk;go_enter func233,ntmps233;go_wp2_with (with_reducible apply jy);refine ⟨jB h aA aA ?_⟩;intro f w3 G;replace G:au w0 w3 (mG p rv::oN f jr true k::F):=G.sb;clear h;go_wp2_with fail
 go_loopg [7,10] rs.length (λg oq L M=>∃ (i:Nat) (vs:List RV) (l b:Value),g=rs.length-i/\i<=rs.length/\l=oq/\L=.int .i64 i/\RS w0 F b (bH.nN true (rs.drop i)++T)/\(vs.map (·.x)=rs.take i/\∀ x∈vs,x.x.key.length=32) /\
  au w0 M (aK 276 33 l (vs.flatMap eX)::mQ vs::mG p b::oN f jr true k::F))
 case atStart=>exact ⟨0,[],_,rv,rfl,acn _,rfl,rfl,Z.o,⟨rfl,λr hr=>by cases hr⟩,au.iW.2 (au.ng.2 G)⟩
 case round=>
  obtain ⟨i,vs,l,Dz,rfl,hi,rfl,rfl,hRS,hvs,hS⟩:=hrel;clear G;by_cases hlt:i<rs.length
  ·as_aux_lemma=>
    have c3:(i:Int)<(rs.length:Int):=oQ;have aa:IntKind.i64.wrap ((i:Int)+1)=(i:Int)+1:=abR _ zL0;obtain ⟨r,hx⟩:∃ r,rs[i]?=some r:=⟨_,aaf hlt⟩;have xg:=uQ (J.o r (abH hx));refine aeY ?_;intro hRS jl dP uD JB;obtain ⟨Y,N⟩:∃ Y,bH.nN true (rs.drop (i+1))++T=Y:=⟨_,rfl⟩;rw [N]at hRS;have HY:=uQ N;clear N;have oU:=uQ (show RS w0 F Dz (r.key++(bH.ou r.eU++Y)) from by unfold bH.BO at hRS;rw [abL rfl,ab6]at hRS;exact hRS);clear hx hlt hi hvs hRS
    go_wp2_with (first
     |((with_reducible refine Zr ⟨?_⟩);refine FQ aA ag9 ?_)
     |(with_reducible apply jd))
    refine ⟨iR D5 hS rfl ?_⟩;intro m w8 U;clear hS;go_wp2_with (with_reducible apply eG);refine ⟨jK (eX AB).toArray U aA aA aA eu aC aA ?_⟩;intro w9 t;clear U;have u:=aq1 (by rw [aay,xg.o.key];omega) (oU.o.tC oG) (t.sb:au w0 w9 (mG p Dz::xO m ay.gu [] (.slice none 0 0)::aK 276 33 l (vs.flatMap eX)::mQ vs::oN f jr true k::F));have A:(r.key++(bH.ou r.eU++Y)).take 32=r.key:=List.take_left' xg.o.key;have B:(r.key++(bH.ou r.eU++Y)).drop 32=bH.ou r.eU++Y:=List.drop_left' xg.o.key;rw [A,B]at u;clear A B;go_wp2_with ((with_reducible refine dH ⟨?_⟩);refine jC t aA (bW (bW (bW (bW bJ)))) dG aF aC ?_);refine u.mono ?_;rintro ee O ⟨v,rfl,b,o,_,a⟩;have HR:=uQ (o _ oU.o);have kV:=uQ xg.o.key;clear u t o oU;obtain ⟨a1,n1,c1,rfl,ab,ac,C⟩:=Bh a;rw [kV.o]at C;subst C;obtain ⟨V,off,rfl,d⟩:=pq (au.rd a) (Bj.2 ⟨r.key[0]'(by rw [kV.o];decide),aaf _,rfl⟩)
    have D:∀ w,(Instr.arrayAt 34 (.slice (some ⟨V,off,none⟩) 32 c1)).run prog w=.ok (.pointer (some ⟨V,off,none⟩)) w:=λw=>by
     unfold Instr.arrayAt;simp only [aii,akB underlying34,acz]
     rfl
    go_wp2_with (first
     |((with_reducible refine akv ⟨?_⟩);refine au7 aA D ?_)
     |((with_reducible refine dH ⟨?_⟩);refine kQ (aI r.key) aA d underlying34 rfl (by rw [bP,kV.o];kernel_rfl) ?_)
     |(with_reducible apply eG))
    refine ⟨jI (a.sb:au w0 O (xO m ay.gu [] (.slice none 0 0)::mG p b::oN f jr true k::aK 276 33 l (vs.flatMap eX)::mQ vs::F)) aA aA (aqI r.key kV.o _) eu (by show 0+(aI r.key).toArray.size<=_;rw [abC,bP,kV.o];decide) (by show _=some (aI r.key).toArray.size;rw [abC,bP,kV.o];kernel_rfl) (by show (aI r.key).toArray.toList.all _=true;rw [agQ,yu]) ?_⟩;intro E c;clear a d D;have t:au w0 E (xO m r.key (r.eU.take 0) (.slice none 0 0)::aK 3 1 (.slice none 0 0) (dJ (r.eU.take 0))::mG p b::oN f jr true k::aK 276 33 l (vs.flatMap eX)::mQ vs::F):=by
     rw [ajN];exact (au.iW.2 c).sb
    clear c;go_wp2_with ((with_reducible refine dH ⟨?_⟩);refine jC t aA (bW (bW (bW bJ))) dG aF aC ?_)
    go_loopg [22] k (λg L M=>∃ (j:Nat) (nv sF:Value),g=k-j/\j<=k/\L=.int .i64 j/\RS w0 F sF (bH.ou (r.eU.drop j)++Y)/\au w0 M (xO m r.key (r.eU.take j) nv::aK 3 1 nv (dJ (r.eU.take j))::mG p sF::oN f jr true k::aK 276 33 l (vs.flatMap eX)::mQ vs::F))
    case atStart=>exact ⟨0,_,b,rfl,acn _,rfl,HR.o,t⟩
    case round=>
     obtain ⟨j,nv,sF,rfl,W,rfl,hRS,hSj⟩:=hrel;clear t;by_cases hjl:j<k
     ·as_aux_lemma=>
      refine afa ?_;intro c4 EL n hn hnb;obtain ⟨x,rfl⟩:∃ x:Nat,n=(x:Int):=⟨n.toNat,by omega⟩;refine af9 ?_;intro hRS hdr jl hnum GL hw2 hrn oU yF hkey kV Hsm;obtain ⟨na,nn,nc,rfl,P,_⟩:=au.rd (hSj.pick bZ);clear hn hnb hjl W hdr hnum GL hkey P hRS;go_wp2_with fail;have a:=hSj.drew;clear hSj;refine gK [6,7,8] (λw'=>w'.cell? ⟨m,32,none⟩=some (.slice na nn nc)) aC ?_;have HG:=uQ (λ(w':World) (R:List aO) (hw:au w0 w' (xO m r.key (r.eU.take j) (.slice na nn nc)::R))=>show w'.cell? ⟨m,32,none⟩=some (.slice na nn nc) from hw.bI bJ 32 (Fj kV.o));have hG:=HG.o _ _ a;refine rP 0 ?_ (y:=eY);refine rt 1 (h:=?_);clear hG;refine rP 2 ?_ (y:=bV);refine dZ 3 aF aC (λK hK=>?_)
      (refine kM aC aF aF ?_)
      refine (hrn.o _ _ (oU.o.tC oG) (a.sb:au w0 _ (mG p sF::xO m r.key (r.eU.take j) (.slice na nn nc)::aK 3 1 (.slice na nn nc) (dJ (r.eU.take j))::oN f jr true k::aK 276 33 l (vs.flatMap eX)::mQ vs::F))).mono ?_;rintro ee E ⟨v,rfl,rv3,rfl,s,c⟩;refine hK _ _ (.inr (.inl (HG.o _ _ (c.sb)))) ?_;have Yl:=uQ (s _ oU.o);clear hK a hrn s oU;refine rP 4 ?_ (y:=(Ya aF dX));refine dZ 5 aF aC (λK hK=>?_);refine aaB (e:=3) (sz:=1) (je:=8) aC c aF (cs:=#[.int .i64 (x:Int)]) rfl rfl aU ?_;intro bN ad z;refine hK _ _ (.inr (.inl (HG.o _ _ (z.sb)))) ?_;clear hK c;refine dZ 6 aF aC (λK hK=>?_);refine aaz 3 1 8 aC z aF aF (by first|exact bW (bW (bW bJ))) bJ rfl (abG 1) rfl (by unfold dJ;rw [abl];exact Hsm.o) dG dG (ys:=dJ [(x:Int)]) rfl ?_;intro H I X Q h13;refine hK _ _ (.inl rfl) ?_;clear hK z;refine rP 7 ?_ (y:=eY);refine dZ 8 aF aC (λK hK=>?_)
      refine qE (cs':=(eX ⟨⟨r.key,r.eU.take (j+1)⟩,.slice (some ⟨H,0,none⟩) I X⟩).toArray) (h13.sb:au w0 Q (xO m r.key (r.eU.take j) (.slice na nn nc)::aK 3 1 (.slice (some ⟨H,0,none⟩) I X) (dJ (r.eU.take j)++dJ [(x:Int)])::mG p rv3::oN f jr true k::aK 276 33 l (vs.flatMap eX)::mQ vs::F)) aF aF (aey r.key kV.o _ _ _ _) eu (by show 32+1<=_;rw [qJ _ kV.o];decide) aC aA ?_;exact agj
     ·as_aux_lemma=>
      have c4:¬ (j:Int)<(k:Int):=oQ;obtain rfl:j=k:=oQ;have hln:=xg.o.len;have e1:r.eU.drop j=[]:=aiU oQ;have e2:r.eU.take j=r.eU:=acE oQ;rw [e1]at hRS;rw [e2]at hSj;have oU:=uQ (show RS w0 F sF Y from hRS);have kV:=uQ xg.o.key;have zK:=uQ JB.o;obtain ⟨na,nn,nc,rfl,_,_⟩:=au.rd (hSj.pick bZ);clear W hjl hRS hln e1 e2
      go_wp2_with (first
       |((with_reducible refine dH ⟨?_⟩);refine kG hSj aA bJ underlying276 rfl (by rw [qJ _ kV.o];kernel_rfl) ?_)
       |((with_reducible refine rV ⟨?_⟩);refine rJ (e:=276) (sz:=33) (je:=56) (cs:=(eX ⟨r,.slice na nn nc⟩).toArray) aC hSj aA rfl (qJ ⟨r,.slice na nn nc⟩ kV.o) dG ?_;intro bN wN hN)
       |(with_reducible apply oK))
      refine aeW ?_;intro H I c2 wW nJ;clear hSj hN;go_wp2_with fail
      go_roundg (rs.length-(i+1))
      case measure=>have:=dP.o;omega
      case rel=>
       refine ⟨i+1,vs++[⟨r,.slice na nn nc⟩],_,sF,rfl,aiW dP.o,rfl,by first|rfl|go_num,by rw [HY.o];exact oU.o,⟨?_,?_⟩,?_⟩
       ·rw [acy,jl.o,uD.o.1];rfl
       ·intro x hx;rcases ahc.1 hx with hx|hx
        ·exact uD.o.2 x hx
        ·rw [acS.1 hx];exact kV.o
       ·rw [ai5,aiN,am6,ahB];have S:au w0 wW (aK 3 1 (.slice na nn nc) (dJ r.eU)::mQ vs::aK 276 33 (.slice (some ⟨H,0,none⟩) I c2) (vs.flatMap eX++eX ⟨r,.slice na nn nc⟩)::mG p sF::oN f jr true j::F):=nJ.sb;exact (OD (r:=⟨r,.slice na nn nc⟩) S).sb
  ·as_aux_lemma=>
   exact aeQ
section
variable {t:TypeId}{pos:String}{vx:Value}
theorem aiE (hx:a.eval x=vx) (hy:a.eval y=vy) (hr:∀ w,(Instr.sliceAt ty vx none (some vy) none).run P w=.ok v w):Yields P ops ⟨dst,.slice ty x none (some y) none,t,pos,after,none⟩ v a:=
 .inl ⟨rH _ rfl,λw=>by simp only [execOp,hx,hy,am8,avX,aii,hr,acz,aiV]⟩
end
theorem ahC (b:ByteArray) (l:ay.Bs) (h:b.data.toList=l):(⟨l.toArray⟩:ByteArray)=b:=by
 apply ByteArray.ext;rw [<-h]
theorem ak2 (us:List aJ.gX) (hok:bH.Ok 3 false (us.map aJ.mV)) (hr:Ro w0 F (bK 3 lv (us.flatMap dO))) (h:au w0 w F) :
  Calls prog 116 #[lv] w (bf λv w'=>∃ bv,v=.tuple #[bv,dS 0]/\au w0 w' (mX bv (bH.jM Xx.sum bH.xI false (us.map aJ.mV))::F)):=by
 have hn:us.length<=65536:=by have:=hok.len;rwa [abl]at this
 skip
 obtain ⟨l,lc,rfl⟩:=l9 (λu _=>yD u) (hr w h) aU;have m:¬ (65536:Int)<us.length:=oQ;have i:=uQ hn;clear hn
 go_in
 go_wp2_with fail;refine (aif h).mono ?_;rintro ee n ⟨v,rfl,rfl,e⟩;clear h;go_wp2_with fail;refine (aqu us i.o hr e).mono ?_;rintro ee o ⟨s,rfl,f,c,h2⟩;clear e;have yI:=uQ c;have a:∀ r∈f,r.x.key.length=32/\0<r.x.eU.length:=λr hr=>by
  have e:r.x∈us.map aJ.mV:=by rw [<-c];exact auS hr
  have:=hok.row r.x e;exact ⟨this.key,by rw [this.len];decide⟩
 have b:=uQ a;clear c a;go_wp2_with fail;refine (ZJ ⟨#[72,79,65,82,68,85,83,69]⟩ bH.xI rfl rfl false 3 aU f (by rw [yI.o];exact hok) (λw j=>au.rd j) (λr hr=>(H7 hr (b.o r hr).1 (b.o r hr).2).sub oG) h2).mono ?_;exact afH
theorem akT (us:List (ay.Bs×aB.bT)) (A:∀ q∈us,q.1.length=32) (hok:bH.Ok 3 true (us.map aJ.mO)) (z:Ro w0 F (bK 35 lv (us.flatMap jU))) (h:au w0 w F) :
  Calls prog 114 #[lv] w (bf λv w'=>∃ bv,v=.tuple #[bv,dS 0]/\au w0 w' (mX bv (bH.jM Xx.sum bH.xH true (us.map aJ.mO))::F)):=by
 have hn:us.length<=65536:=by have:=hok.len;rwa [abl]at this
 obtain ⟨n,lc,rfl⟩:=l9 (λu i=>qH u (A u i)) (z w h) aU;have l:=uQ hn
 go_in
 go_wp2_with fail;refine (acM h).mono ?_;rintro ee s ⟨v,rfl,rfl,e⟩;go_wp2_with fail;refine (aqt us l.o A z e).mono ?_;rintro ee t ⟨y,rfl,g,c,h2⟩;have yI:=uQ c;have a:∀ r∈g,r.x.key.length=32/\0<r.x.eU.length:=λr z=>by
  have e:r.x∈us.map aJ.mO:=by rw [<-c];exact auS z
  have:=hok.row r.x e;exact ⟨this.key,by rw [this.len];decide⟩
 go_wp2_with fail;refine (ZJ ⟨#[72,79,65,82,68,73,68,88]⟩ bH.xH rfl rfl true 3 aU g (by rw [yI.o];exact hok) (λw m=>au.rd m) (λr z=>(H7 z (a r z).1 (a r z).2).sub oG) h2).mono ?_;exact afH
theorem akY (jr:ByteArray) (mg:ay.Bs) (hmb:jr.data.toList=mg) (xE:mg.length=8) (k:Nat) (hk:k<=3) (hk0:0<k) (rs:List bH.Rw) (hok:bH.Ok k false rs) (hz:∀ r∈rs,r.key=ay.gu) (hr:RS w0 F bv (bH.jM Xx.sum mg false rs)) (h:au w0 w F) :
  Calls prog 187 #[.agg (su jr false k),bv] w (bf λv w'=>∃ (vs:List RV) (lv:Value),v=.tuple #[lv,dS 0]/\vs.map (·.x)=rs/\au w0 w' (aK 276 33 lv (vs.flatMap eX)::mQ vs::F)):=by
 obtain ⟨ba,bc,rfl,s,I⟩:=hr.len h;have b:(bH.jM Xx.sum mg false rs).length=20+rs.length*bH.nX false k:=bH.Gl xE hok.row;have u:=bH.ZG (X:=Xx.sum) (mg:=mg) (kd:=false) (l:=rs);have z:=bH.ZF (X:=Xx.sum) (mg:=mg) (kd:=false) xE hok.row;have J:(bH.body mg false rs).length=12+rs.length*bH.nX false k:=bH.Gj xE hok.row;have A:rs.length*bH.nX false k<=65536*44:=aqe hok.len (bH.PK hk);have d:=RS.to hr (k:=12+rs.length*bH.nX false k) yX0 bc (abQ yX0 s) (abG _);rw [z]at d;obtain ⟨ta,tc,B,_,_⟩:=d.len h;rw [B]at d;obtain ⟨S,hS⟩:∃ S,Xx.sum (bH.body mg false rs)=S:=⟨_,rfl⟩;have M:S<18446744073709551616:=by rw [<-hS];exact Xx.Xb _
 rw [hS]at u;have I8:=uQ d;have Hte:=uQ B;clear d B;have Hlen:=uQ b;have QH:=uQ u;have Hbt:=uQ z;have N:=uQ J;have HS:=uQ hS;have IX:=uQ M;obtain ⟨Z,hZ⟩:∃ Z,rs.length*bH.nX false k=Z:=⟨_,rfl⟩;have HZ:=uQ hZ;rw [hZ]at A b;have zO:=uQ A;have Hr:=uQ hr;have fV:=uQ hok;have QX:=uQ hmb;have C:=uQ xE;have Hk:=uQ hk;have QM:=uQ hk0;have QG:=uQ s;have Hbm:=uQ I;have Hz:=uQ hz;have f:=uQ (show (bH.jM Xx.sum mg false rs).length=20+Z from b);clear u z J A hS M hZ hr hok hmb xE hk hk0 s I b hz;have c1:¬ ((bH.jM Xx.sum mg false rs).length:Int)<12:=by have:=f.o;omega
 have c2:¬ (65536:Int)<(rs.length:Int):=by have:=fV.o.len;omega
 have c3:¬ ((bH.jM Xx.sum mg false rs).length:Int)<20+(Z:Int):=by have:=f.o;omega
 have c4:¬ (20+(Z:Int))<((bH.jM Xx.sum mg false rs).length:Int):=by have:=f.o;omega
 go_enter func187,ntmps187;go_wp2_with (with_reducible apply jy);refine ⟨jB h aA aA ?_⟩;intro b2 w2 h2;replace h2:au w0 w2 (oN b2 jr false k::F):=h2;clear h;go_wp2_with fail;refine (agE (by rw [f.o];have:=zO.o;omega) (Hr.o.tC oG) h2).mono ?_;rintro ee w3 ⟨v,rfl,p,rv,rfl,h3,O⟩;clear h2;have g:RS w0 (cZ rv (bH.jM Xx.sum mg false rs)::oN b2 jr false k::F) rv (mg++(ay.le rs.length 4++(bH.nN false rs++ay.le S 8))):=by rw [<-QH.o];exact O
 generalize hG0:cZ rv (bH.jM Xx.sum mg false rs)=BB at *
 clear hG0;have D:=agT (by rw [aay,C.o];omega) g h3;rw [List.take_left' C.o,List.drop_left' C.o,ahC jr mg QX.o]at D;clear O h3;go_wp2_with fail;refine D.mono ?_;rintro ee w4 ⟨v,rfl,rv1,rfl,P,h4⟩;have i:=P _ g;clear D P g;have E:=VX (by rw [aay,ay.nK];omega) i h4;rw [bH.ad6 fV.o.len,bH.SE]at E;clear h4;go_wp2_with fail;refine E.mono ?_;rintro ee w5 ⟨v,rfl,sF,rfl,Q,h5⟩;have j:=Q _ i;have Rf:=uQ (show RS w0 (BB::oN b2 jr false k::F) sF (bH.nN false rs++ay.le S 8) from j);clear E Q i j;have hwn:IntKind.i64.wrap (rs.length:Int)=(rs.length:Int):=abR _ (by have:=fV.o.len;omega);have hw1:IntKind.i64.wrap ((rs.length:Int)*((bH.nX false k:Nat):Int))=(Z:Int):=by
  rw [<-Int.natCast_mul,HZ.o];exact abR _ zI0
 refine aeL ?_;intro hw2 hw3 hw4;have hsl:∀ w,(Instr.sliceAt 59 (.slice ba (bH.jM Xx.sum mg false rs).length bc) none (some (.int .i64 (12+(Z:Int)))) none).run prog w=.ok (.slice ta (bH.body mg false rs).length tc) w:=λw=>by
  have:=PU (a:=ba) (n:=(bH.jM Xx.sum mg false rs).length) (c:=bc) (k:=12+Z) (by have:=f.o;have:=QG.o;omega) w;exact afZ
 have zN:=uQ hsl;clear hsl;generalize (bH.jM Xx.sum mg false rs).length=L at *
 go_wp2_with (first
  |((with_reducible refine dH ⟨?_⟩);first
   |refine kG h5 aA jS underlying270 rfl aC ?_
   |refine jC h5 aA jS dG aF aC ?_))
 refine (acZ jr false k (by have:=Hk.o;omega) h5).mono ?_;rintro ee w6 ⟨v,rfl,rfl,h6⟩;clear h5
 go_wp2_with (first
  |((with_reducible refine dH ⟨?_⟩);refine kG h6 aA jS underlying270 rfl aC ?_))
 refine (aov jr k Hk.o rs fV.o.row fV.o.len Hz.o (ay.le S 8) Rf.o h6).mono ?_;rintro ee w7 ⟨v,rfl,vs,rv3,hvs,m,h7⟩;have uD:=uQ hvs;have Rh:=uQ m;clear h6 hvs m;go_wp2_with fail;have hG:True:=trivial;have h8:=h7.drew;clear h7;refine gK [] (λw'=>True) aC ?_;refine rP 0 ?_ (y:=bV);refine rP 2 ?_ (y:=bV);refine rP 3 ?_ (y:=bV);refine rP 4 ?_ (y:=nT);refine rP 5 ?_ (y:=(aiE aF aF zN.o));refine dZ 1 aF aC (λK hK=>?_)
 (refine kM aC aF aF ?_)
 have G:=agD (F:=aK 276 33 v (vs.flatMap eX)::mQ vs::BB::oN b2 jr false k::F) (by rw [ay.nK];exact abG _) (Rh.o.tC oG) (h8.sb:au w0 _ (mG p rv3::aK 276 33 v (vs.flatMap eX)::mQ vs::BB::oN b2 jr false k::F));rw [bH.ad7 IX.o]at G;refine G.mono ?_;rintro ee w9 ⟨v2,rfl,Wy,rfl,_,h9⟩;refine hK _ _ (.inr (.inl trivial)) ?_;clear hK G h8;refine dZ 6 aF aC (λK hK=>?_)
 (refine kM aC aF aF ?_)
 have H:=X7 (l:=bH.body mg false rs) (λe=>by have:=N.o;rw [e]at this;simp only [ajw]at this;omega) (by rw [N.o,HZ.o];have:=zO.o;omega) (I8.o.tC oG) h9;rw [HS.o]at H;refine H.mono ?_;rintro ee w10 ⟨v3,rfl,rfl,h10⟩;refine hK _ _ (.inr (.inl trivial)) ?_;clear hK H h9;refine rP 7 ?_ (y:=nT);refine fK aC ?_;go_wp2_with ((with_reducible refine dH ⟨?_⟩);refine kG h10 aA (bW mD) underlying270 rfl aC ?_)
 have o:=uQ (show ∀ r∈vs,r.x.key.length=32/\0<r.x.eU.length from λr hr=>by
  have h1:r.x∈rs:=by rw [<-uD.o];exact auS hr
  have:=fV.o.row r.x h1;exact ⟨this.key,by rw [this.len];exact QM.o⟩)
 have Rk:=uQ (show vs.length<=1073741824 from by
  have:=aiX List.length uD.o;rw [abl]at this;have:=fV.o.len;omega)
 refine (VU jr false k vs Rk.o (λw hw=>au.rd (hw.sb:au w0 w (aK 276 33 v (vs.flatMap eX)::mG p Wy::mQ vs::BB::oN b2 jr false k::F))) (λr hr=>(H7 hr (o.o r hr).1 (o.o r hr).2).sub oG) h10).mono ?_;exact ae7
theorem ak0 (jr:ByteArray) (mg:ay.Bs) (hmb:jr.data.toList=mg) (xE:mg.length=8) (k:Nat) (hk:k<=3) (hk0:0<k) (rs:List bH.Rw) (hok:bH.Ok k true rs) (hr:RS w0 F bv (bH.jM Xx.sum mg true rs)) (h:au w0 w F) :
  Calls prog 187 #[.agg (su jr true k),bv] w (bf λv w'=>∃ (vs:List RV) (lv:Value),v=.tuple #[lv,dS 0]/\vs.map (·.x)=rs/\au w0 w' (aK 276 33 lv (vs.flatMap eX)::mQ vs::F)):=by
 obtain ⟨ba,bc,rfl,s,I⟩:=hr.len h;have b:(bH.jM Xx.sum mg true rs).length=20+rs.length*bH.nX true k:=bH.Gl xE hok.row;have u:=bH.ZG (X:=Xx.sum) (mg:=mg) (kd:=true) (l:=rs);have z:=bH.ZF (X:=Xx.sum) (mg:=mg) (kd:=true) xE hok.row;have J:(bH.body mg true rs).length=12+rs.length*bH.nX true k:=bH.Gj xE hok.row;have A:rs.length*bH.nX true k<=65536*44:=aqe hok.len (bH.PK hk);have d:=RS.to hr (k:=12+rs.length*bH.nX true k) yX0 bc (abQ yX0 s) (abG _);rw [z]at d;obtain ⟨ta,tc,B,_,_⟩:=d.len h;rw [B]at d;obtain ⟨S,hS⟩:∃ S,Xx.sum (bH.body mg true rs)=S:=⟨_,rfl⟩;have M:S<18446744073709551616:=by rw [<-hS];exact Xx.Xb _
 rw [hS]at u;have I8:=uQ d;have Hte:=uQ B;clear d B;have Hlen:=uQ b;have QH:=uQ u;have Hbt:=uQ z;have N:=uQ J;have HS:=uQ hS;have IX:=uQ M;obtain ⟨Z,hZ⟩:∃ Z,rs.length*bH.nX true k=Z:=⟨_,rfl⟩;have HZ:=uQ hZ;rw [hZ]at A b;have zO:=uQ A;have Hr:=uQ hr;have fV:=uQ hok;have QX:=uQ hmb;have C:=uQ xE;have Hk:=uQ hk;have QM:=uQ hk0;have QG:=uQ s;have Hbm:=uQ I;have f:=uQ (show (bH.jM Xx.sum mg true rs).length=20+Z from b);clear u z J A hS M hZ hr hok hmb xE hk hk0 s I b;have c1:¬ ((bH.jM Xx.sum mg true rs).length:Int)<12:=by have:=f.o;omega
 have c2:¬ (65536:Int)<(rs.length:Int):=by have:=fV.o.len;omega
 have c3:¬ ((bH.jM Xx.sum mg true rs).length:Int)<20+(Z:Int):=by have:=f.o;omega
 have c4:¬ (20+(Z:Int))<((bH.jM Xx.sum mg true rs).length:Int):=by have:=f.o;omega
 go_enter func187,ntmps187;go_wp2_with (with_reducible apply jy);refine ⟨jB h aA aA ?_⟩;intro b2 w2 h2;replace h2:au w0 w2 (oN b2 jr true k::F):=h2;clear h;go_wp2_with fail;refine (agE (by rw [f.o];have:=zO.o;omega) (Hr.o.tC oG) h2).mono ?_;rintro ee w3 ⟨v,rfl,p,rv,rfl,h3,O⟩;clear h2;have g:RS w0 (cZ rv (bH.jM Xx.sum mg true rs)::oN b2 jr true k::F) rv (mg++(ay.le rs.length 4++(bH.nN true rs++ay.le S 8))):=by rw [<-QH.o];exact O
 generalize hG0:cZ rv (bH.jM Xx.sum mg true rs)=BB at *
 clear hG0;have D:=agT (by rw [aay,C.o];omega) g h3;rw [List.take_left' C.o,List.drop_left' C.o,ahC jr mg QX.o]at D;clear O h3;go_wp2_with fail;refine D.mono ?_;rintro ee w4 ⟨v,rfl,rv1,rfl,P,h4⟩;have i:=P _ g;clear D P g;have E:=VX (by rw [aay,ay.nK];omega) i h4;rw [bH.ad6 fV.o.len,bH.SE]at E;clear h4;go_wp2_with fail;refine E.mono ?_;rintro ee w5 ⟨v,rfl,sF,rfl,Q,h5⟩;have j:=Q _ i;have Rf:=uQ (show RS w0 (BB::oN b2 jr true k::F) sF (bH.nN true rs++ay.le S 8) from j);clear E Q i j;have hwn:IntKind.i64.wrap (rs.length:Int)=(rs.length:Int):=abR _ (by have:=fV.o.len;omega);have hw1:IntKind.i64.wrap ((rs.length:Int)*((bH.nX true k:Nat):Int))=(Z:Int):=by
  rw [<-Int.natCast_mul,HZ.o];exact abR _ zI0
 refine aeL ?_;intro hw2 hw3 hw4;have hsl:∀ w,(Instr.sliceAt 59 (.slice ba (bH.jM Xx.sum mg true rs).length bc) none (some (.int .i64 (12+(Z:Int)))) none).run prog w=.ok (.slice ta (bH.body mg true rs).length tc) w:=λw=>by
  have:=PU (a:=ba) (n:=(bH.jM Xx.sum mg true rs).length) (c:=bc) (k:=12+Z) (by have:=f.o;have:=QG.o;omega) w;exact afZ
 have zN:=uQ hsl;clear hsl;generalize (bH.jM Xx.sum mg true rs).length=L at *
 go_wp2_with (first
  |((with_reducible refine dH ⟨?_⟩);first
   |refine kG h5 aA jS underlying270 rfl aC ?_
   |refine jC h5 aA jS dG aF aC ?_))
 refine (acZ jr true k (by have:=Hk.o;omega) h5).mono ?_;rintro ee w6 ⟨v,rfl,rfl,h6⟩;clear h5
 go_wp2_with (first
  |((with_reducible refine dH ⟨?_⟩);refine kG h6 aA jS underlying270 rfl aC ?_))
 refine (aow jr k Hk.o rs fV.o.row fV.o.len (ay.le S 8) Rf.o h6).mono ?_;rintro ee w7 ⟨v,rfl,vs,rv3,hvs,m,h7⟩;have uD:=uQ hvs;have Rh:=uQ m;clear h6 hvs m;go_wp2_with fail;have hG:True:=trivial;have h8:=h7.drew;clear h7;refine gK [] (λw'=>True) aC ?_;refine rP 0 ?_ (y:=bV);refine rP 2 ?_ (y:=bV);refine rP 3 ?_ (y:=bV);refine rP 4 ?_ (y:=nT);refine rP 5 ?_ (y:=(aiE aF aF zN.o));refine dZ 1 aF aC (λK hK=>?_)
 (refine kM aC aF aF ?_)
 have G:=agD (F:=aK 276 33 v (vs.flatMap eX)::mQ vs::BB::oN b2 jr true k::F) (by rw [ay.nK];exact abG _) (Rh.o.tC oG) (h8.sb:au w0 _ (mG p rv3::aK 276 33 v (vs.flatMap eX)::mQ vs::BB::oN b2 jr true k::F));rw [bH.ad7 IX.o]at G;refine G.mono ?_;rintro ee w9 ⟨v2,rfl,Wy,rfl,_,h9⟩;refine hK _ _ (.inr (.inl trivial)) ?_;clear hK G h8;refine dZ 6 aF aC (λK hK=>?_)
 (refine kM aC aF aF ?_)
 have H:=X7 (l:=bH.body mg true rs) (λe=>by have:=N.o;rw [e]at this;simp only [ajw]at this;omega) (by rw [N.o,HZ.o];have:=zO.o;omega) (I8.o.tC oG) h9;rw [HS.o]at H;refine H.mono ?_;rintro ee w10 ⟨v3,rfl,rfl,h10⟩;refine hK _ _ (.inr (.inl trivial)) ?_;clear hK H h9;refine rP 7 ?_ (y:=nT);refine fK aC ?_;go_wp2_with ((with_reducible refine dH ⟨?_⟩);refine kG h10 aA (bW mD) underlying270 rfl aC ?_)
 have o:=uQ (show ∀ r∈vs,r.x.key.length=32/\0<r.x.eU.length from λr hr=>by
  have h1:r.x∈rs:=by rw [<-uD.o];exact auS hr
  have:=fV.o.row r.x h1;exact ⟨this.key,by rw [this.len];exact QM.o⟩)
 have Rk:=uQ (show vs.length<=1073741824 from by
  have:=aiX List.length uD.o;rw [abl]at this;have:=fV.o.len;omega)
 refine (VU jr true k vs Rk.o (λw hw=>au.rd (hw.sb:au w0 w (aK 276 33 v (vs.flatMap eX)::mG p Wy::mQ vs::BB::oN b2 jr true k::F))) (λr hr=>(H7 hr (o.o r hr).1 (o.o r hr).2).sub oG) h10).mono ?_;exact ae7
section
variable {nv:Value}
theorem as1 (a b c:Int) (w:World):(Instr.build 205 #[(0,.int .i64 a),(1,.int .i64 b),(2,.int .i64 c)]).run prog w=.ok (.agg (dO ⟨a,b,c⟩).toArray) w:=aC
theorem asM (a b c:Int) (w:World):(Instr.build 115 #[(0,.int .i64 a),(1,.int .i64 b),(2,.int .i64 c)]).run prog w=.ok (.agg (dQ ⟨a,b,c⟩).toArray) w:=aC
theorem OC {a b c:Int} (h:bK 1 nv (dJ [a,b,c]) w):∃ q o cc,nv=.slice (some ⟨q,o,none⟩) 3 cc/\w.cell? ⟨q,o,none⟩=some (.int .i64 a)/\w.cell? ⟨q,o+1,none⟩=some (.int .i64 b)/\w.cell? ⟨q,o+2,none⟩=some (.int .i64 c):=by
 obtain ⟨q,o,cc,rfl,c0⟩:=NZ h (i:=0) rfl;obtain ⟨_,_,_,e1,c1⟩:=NZ h (i:=1) rfl;cases e1;obtain ⟨_,_,_,e2,c2⟩:=NZ h (i:=2) rfl;cases e2;exact ⟨q,o,cc,rfl,c0,c1,c2⟩
theorem aq4 (k:ay.Bs) (hk:k.length=32) (a b c:Int) (hr:Ro w0 F (bK 1 nv (dJ [a,b,c]))) (h:au w0 w F) :
  Calls prog 191 #[.agg (eX ⟨⟨k,[a,b,c]⟩,nv⟩).toArray] w (bf λv w'=>v=.agg (dO ⟨a,b,c⟩).toArray/\au w0 w' F):=by
 obtain ⟨q,o,i,rfl,_⟩:=OC (hr w h);have n:=uQ hk
 go_in
 go_wp2_with (apply jy);refine ⟨jB h aA aA ?_⟩;intro b1 r d;replace d:au w0 r (xO b1 k [a,b,c] (.slice (some ⟨q,o,none⟩) 3 i)::F):=d;go_wp2_with (apply jd);refine ⟨iR Le d rfl ?_⟩;intro b2 f j;go_wp2;have g:=j.drew;refine gK [12,13] (λw'=>w'.cell? ⟨b1,32,none⟩=some (.slice (some ⟨q,o,none⟩) 3 i)/\w'.cell? ⟨q,o,none⟩=some (.int .i64 a)/\w'.cell? ⟨q,o+1,none⟩=some (.int .i64 b)/\w'.cell? ⟨q,o+2,none⟩=some (.int .i64 c)) aC ?_;have s:World.cell? f.drew ⟨b1,32,none⟩=some (.slice (some ⟨q,o,none⟩) 3 i)/\World.cell? f.drew ⟨q,o,none⟩=some (.int .i64 a)/\World.cell? f.drew ⟨q,o+1,none⟩=some (.int .i64 b)/\World.cell? f.drew ⟨q,o+2,none⟩=some (.int .i64 c):=by
  obtain ⟨_,_,_,e,t⟩:=OC (hr _ g.drop.drop);cases e;exact ⟨g.bI bZ 32 (Fj n.o),t⟩
 refine rP 0 ?_ (y:=eY);refine rt 1 (h:=?_);refine rP 2 ?_ (y:=kX);refine rt 3 (h:=?_);refine rP 4 ?_ (y:=eY);refine rt 5 (h:=?_);refine rP 6 ?_ (y:=kX);refine rt 7 (h:=?_);refine rP 8 ?_ (y:=eY);refine rt 9 (h:=?_);refine rP 10 ?_ (y:=kX);refine rt 11 (h:=?_);refine rP 12 ?_ (y:=(IW aF aF aF (λw=>as1 a b c w)));refine dZ 13 aF aC (λK l=>?_);refine qE g aF aF aA eu dG aC aA ?_;intro u m;refine l _ _ (.inl rfl) ?_;refine fK aC ?_;go_wp2;refine ⟨rfl,_,Il rfl m aA dh underlying205 rfl aC,?_⟩;exact ⟨_,rfl,rfl,m.drop.drop⟩
theorem aqP (k:ay.Bs) (hk:k.length=32) (a b c:Int):iK (jU (ay.gu,aB.bT.zero)).toArray 0 (jU (k,⟨a,b,c⟩)).toArray.toList=(jU (k,⟨a,b,c⟩)).toArray:=by
 rw [aeD _ _ (by rw [agQ,abC,qH (k,⟨a,b,c⟩) hk,qH (ay.gu,aB.bT.zero) rfl]),agQ]
theorem aq3 (k:ay.Bs) (hk:k.length=32) (a b c:Int) (hr:Ro w0 F (bK 1 nv (dJ [a,b,c]))) (h:au w0 w F) :
  Calls prog 189 #[.agg (eX ⟨⟨k,[a,b,c]⟩,nv⟩).toArray] w (bf λv w'=>v=.agg (jU (k,⟨a,b,c⟩)).toArray/\au w0 w' F):=by
 obtain ⟨q,o,l,rfl,_⟩:=OC (hr w h);have d:=uQ hk;have m:=(show (aI k).length=32 by rw [bP];exact hk)
 go_in
 go_wp2_with (apply jy);refine ⟨jB h aA aA ?_⟩;intro b1 t i;replace i:au w0 t (xO b1 k [a,b,c] (.slice (some ⟨q,o,none⟩) 3 l)::F):=i;go_wp2_with (apply jd);refine ⟨iR Qy i rfl ?_⟩;intro b2 f n;go_wp2;have g:=n.drew;refine gK [15,16] (λw'=>w'.cell? ⟨b1,32,none⟩=some (.slice (some ⟨q,o,none⟩) 3 l)/\w'.cell? ⟨q,o,none⟩=some (.int .i64 a)/\w'.cell? ⟨q,o+1,none⟩=some (.int .i64 b)/\w'.cell? ⟨q,o+2,none⟩=some (.int .i64 c)/\w'.rangeAt b1 0 (aI k)) aC ?_;have u:World.cell? f.drew ⟨b1,32,none⟩=some (.slice (some ⟨q,o,none⟩) 3 l)/\World.cell? f.drew ⟨q,o,none⟩=some (.int .i64 a)/\World.cell? f.drew ⟨q,o+1,none⟩=some (.int .i64 b)/\World.cell? f.drew ⟨q,o+2,none⟩=some (.int .i64 c)/\World.rangeAt f.drew b1 0 (aI k):=by
  obtain ⟨_,_,_,e,x,A,B⟩:=OC (hr _ g.drop.drop);cases e;exact ⟨g.bI bZ 32 (Fj d.o),x,A,B,λj z C=>by rw [aiO];exact g.bI bZ j (PW C)⟩
 refine rP 0 ?_ (y:=eY);refine ji 1 aF aC dF (lF (aI k) aA underlying34 rfl (by rw [m];kernel_rfl) (λw D=>D.2.2.2.2)) aQ gQ ?_;refine rP 2 ?_ (y:=eY);refine rt 3 (h:=?_);refine rP 4 ?_ (y:=kX);refine rt 5 (h:=?_);refine rP 6 ?_ (y:=eY);refine rt 7 (h:=?_);refine rP 8 ?_ (y:=kX);refine rt 9 (h:=?_);refine rP 10 ?_ (y:=eY);refine rt 11 (h:=?_);refine rP 12 ?_ (y:=kX);refine rt 13 (h:=?_);refine rP 14 ?_ (y:=(IW aF aF aF (λw=>asM a b c w)));refine rP 15 ?_ (y:=(X9 aF aF (λw=>ag5 k d.o ⟨a,b,c⟩ w)));refine dZ 16 aF aC (λK r=>?_);refine qE g aF aF (aqP k d.o a b c) eu (by show 0+(jU (k,⟨a,b,c⟩)).toArray.size<=35;rw [abC,qH _ d.o];decide) (by show _=some (jU (k,⟨a,b,c⟩)).toArray.size;rw [abC,qH _ d.o];kernel_rfl) (by rw [agQ];exact JG _) ?_;intro E s;refine r _ _ (.inl rfl) ?_;refine fK aC ?_;go_wp2
 refine ⟨rfl,_,Il rfl s aA dh underlying248 rfl (by rw [abC,qH _ d.o];kernel_rfl),?_⟩;exact ⟨_,rfl,rfl,s.drop.drop⟩
theorem akI (us:List aJ.gX) (vs:List RV) (hus:vs.map (·.x)=us.map aJ.mV) (hl:us.length<=65536) (hr:Ro w0 F (bK 33 lv (vs.flatMap eX))) (he:∀ r∈vs,yK w0 F r) (h:au w0 w F) :
  Calls prog 190 #[lv,.func (.func 191) #[] #[]] w (bf λv w'=>au w0 w' (aK 205 3 v (us.flatMap dO)::F)):=by
 obtain ⟨K,lc,rfl⟩:=l9 (λr hr=>rF r (he r hr).key) (hr w h) aU;have a:vs.length=us.length:=by have:=aiX List.length hus;rwa [abl,abl]at this
 have E:=uQ hr;have Hl:=uQ hl;have t:=uQ he;have Y3:=uQ hus;have c:=uQ a;clear hr hl he hus;rw [a];clear a;go_enter func190,ntmps190;go_wp2_with fail
 go_loopg [5,10] us.length (λg y G H=>∃ (i:Nat) (z:Value),g=us.length-i/\i<=us.length/\z=y/\G=.int .i64 i/\au w0 H (aK 205 3 z ((us.take i).flatMap dO)::F))
 case atStart=>exact ⟨0,_,rfl,acn _,rfl,rfl,au.iW.2 h⟩
 case round=>
  obtain ⟨i,y,rfl,hi,rfl,rfl,hS⟩:=hrel;clear h;by_cases hlt:i<us.length
  ·as_aux_lemma=>
    refine O7 ?_;intro c3 hwi;obtain ⟨r,hx⟩:∃ r,vs[i]?=some r:=⟨_,aaf (by rw [c.o];exact hlt)⟩;obtain ⟨u,hu⟩:∃ u,us[i]?=some u:=⟨_,aaf hlt⟩;have f:r.x=aJ.mV u:=by
     exact afw
    obtain ⟨L,off,M,j,b⟩:=lV (λr hr=>rF r (t.o r hr).key) (E.o _ hS.drop) hx aU;rw [c.o]at j;cases j;have d:=t.o r (abH hx);have jl:=uQ (show us.take (i+1)=us.take i++[u] from bH.qy hu)
    have n:=uQ (show ((us.take i).flatMap dO).length<=2147483648 from by
     rw [lK (λu _=>yD u),abA];have:=Hl.o;omega)
    obtain ⟨N,nv⟩:=r;dsimp only at f;subst f;have l:=uQ d;have dP:=uQ hlt;obtain ⟨A,B,C,m,_,_⟩:=d.rd _ hS.drop;dsimp only at m;subst m;clear hx hu hlt hi d
    go_wp2_with (first
     |((with_reducible refine dH ⟨?_⟩);refine kQ (eX ⟨aJ.mV u,.slice A B C⟩) aA b underlying276 rfl (by rw [rF _ l.o.key];kernel_rfl) ?_)
     |(with_reducible apply jd))
    refine ⟨iR D5 hS rfl ?_⟩;intro O P D;clear hS b;refine BJ ?_;refine ⟨jK (eX ⟨aJ.mV u,.slice A B C⟩).toArray D aA aA (by rw [qJ _ l.o.key];rfl) eu (by rw [qJ _ l.o.key];kernel_rfl) Kw ?_⟩;intro Q o;clear D;go_wp2_with ((with_reducible refine dH ⟨?_⟩);refine kG o aA bJ underlying276 rfl (by rw [qJ _ l.o.key];kernel_rfl) ?_);refine (aq4 ay.gu rfl u.aZ u.size u.live (Ro.os l.o.rd) o).mono ?_;rintro R I ⟨v,rfl,rfl,s⟩;clear o
    go_wp2_with (first
     |((with_reducible refine rV ⟨?_⟩);refine rJ (e:=205) (sz:=3) (je:=24) (cs:=(dO u).toArray) aC s aA rfl aA dG ?_;intro S T J)
     |(with_reducible apply oK))
    refine ⟨sJ (cs:=(dO u).toArray) 205 3 24 aC J aA aA (bW (bW bJ)) bJ aA dG aA n.o (by exact Nat.le_of_ble_eq_true aA) dG rfl ?_⟩;exact aeP
  ·exact afl
theorem akH (us:List (ay.Bs×aB.bT)) (vs:List RV) (hus:vs.map (·.x)=us.map aJ.mO) (hl:us.length<=65536) (hk:∀ q∈us,q.1.length=32) (hr:Ro w0 F (bK 33 lv (vs.flatMap eX))) (he:∀ r∈vs,yK w0 F r) (h:au w0 w F) :
  Calls prog 188 #[lv,.func (.func 189) #[] #[]] w (bf λv w'=>au w0 w' (aK 248 35 v (us.flatMap jU)::F)):=by
 obtain ⟨M,lc,rfl⟩:=l9 (λr hr=>rF r (he r hr).key) (hr w h) aU;have a:vs.length=us.length:=by have:=aiX List.length hus;rwa [abl,abl]at this
 have H:=uQ hr;have Hl:=uQ hl;have y:=uQ he;have Y3:=uQ hus;have d:=uQ a;have z:=uQ hk;clear hr hl he hus hk;rw [a];clear a;go_enter func188,ntmps188;go_wp2_with fail
 go_loopg [5,10] us.length (λg A I J=>∃ (i:Nat) (B:Value),g=us.length-i/\i<=us.length/\B=A/\I=.int .i64 i/\au w0 J (aK 248 35 B ((us.take i).flatMap jU)::F))
 case atStart=>exact ⟨0,_,rfl,acn _,rfl,rfl,au.iW.2 h⟩
 case round=>
  obtain ⟨i,A,rfl,hi,rfl,rfl,hS⟩:=hrel;clear h;by_cases hlt:i<us.length
  ·as_aux_lemma=>
    refine O7 ?_;intro c3 hwi;obtain ⟨r,hx⟩:∃ r,vs[i]?=some r:=⟨_,aaf (by rw [d.o];exact hlt)⟩;obtain ⟨u,hu⟩:∃ u,us[i]?=some u:=⟨_,aaf hlt⟩;have j:r.x=aJ.mO u:=by
     exact afw
    obtain ⟨N,off,O,l,b⟩:=lV (λr hr=>rF r (y.o r hr).key) (H.o _ hS.drop) hx aU;rw [d.o]at l;cases l;have f:=y.o r (abH hx);have jl:=uQ (show us.take (i+1)=us.take i++[u] from bH.qy hu)
    have o:=uQ (show ((us.take i).flatMap jU).length<=2147483648 from by
     rw [lK (λu hu=>qH u (z.o u (ajq hu))),abA];have:=Hl.o;omega)
    have c:=z.o u (abH hu);obtain ⟨P,nv⟩:=r;dsimp only at j;subst j;have m:=uQ f;have dP:=uQ hlt;obtain ⟨C,D,E,n,_,_⟩:=f.rd _ hS.drop;dsimp only at n;subst n;clear hx hu hlt hi f
    go_wp2_with (first
     |((with_reducible refine dH ⟨?_⟩);refine kQ (eX ⟨aJ.mO u,.slice C D E⟩) aA b underlying276 rfl (by rw [rF _ m.o.key];kernel_rfl) ?_)
     |(with_reducible apply jd))
    refine ⟨iR D5 hS rfl ?_⟩;intro Q R G;clear hS b;refine BJ ?_;refine ⟨jK (eX ⟨aJ.mO u,.slice C D E⟩).toArray G aA aA (by rw [qJ _ m.o.key];rfl) eu (by rw [qJ _ m.o.key];kernel_rfl) Kw ?_⟩;intro S s;clear G;go_wp2_with ((with_reducible refine dH ⟨?_⟩);refine kG s aA bJ underlying276 rfl (by rw [qJ _ m.o.key];kernel_rfl) ?_);refine (aq3 u.1 c u.2.aZ u.2.aP u.2.size (Ro.os m.o.rd) s).mono ?_;rintro T K ⟨v,rfl,rfl,t⟩;clear s
    go_wp2_with (first
     |((with_reducible refine rV ⟨?_⟩);refine rJ (e:=248) (sz:=35) (je:=56) (cs:=(jU u).toArray) aC t aA rfl (by rw [abC,qH _ c]) dG ?_;intro U V L)
     |(with_reducible apply oK))
    refine ⟨sJ (cs:=(jU u).toArray) 248 35 56 aC L aA aA (bW (bW bJ)) bJ (by rw [abC,qH _ c]) dG (by rw [agQ];exact JG u) o.o (by rw [abC,qH _ c];decide) dG rfl ?_⟩;exact aeP
  ·exact afl
theorem ak1 (us:List aJ.gX) (hok:bH.Ok 3 false (us.map aJ.mV)) (j:RS w0 F bv (bH.jM Xx.sum bH.xI false (us.map aJ.mV))) (h:au w0 w F) :
  Calls prog 145 #[bv] w (bf λv w'=>∃ lv,v=.tuple #[lv,dS 0]/\au w0 w' (aK 205 3 lv (us.flatMap dO)::F)):=by
 have hn:us.length<=65536:=by have:=hok.len;rwa [abl]at this
 have e:=uQ hn
 go_in
 go_wp2_with fail;refine (aif h).mono ?_;rintro ee g ⟨v,rfl,rfl,c⟩;go_wp2_with fail;refine (akY ⟨#[72,79,65,82,68,85,83,69]⟩ bH.xI rfl rfl 3 aU aU _ hok (λr j=>by obtain ⟨u,_,rfl⟩:=abI.1 j;rfl) j c).mono ?_;rintro ee i ⟨v,rfl,d,lv,rfl,b,h2⟩
 have a:=(show ∀ r∈d,r.x.key.length=32/\0<r.x.eU.length from λr j=>by
  have c:r.x∈us.map aJ.mV:=by rw [<-b];exact auS j
  have:=hok.row r.x c;exact ⟨this.key,by rw [this.len];decide⟩)
 go_wp2_with fail;refine (akI us d b e.o (λw f=>au.rd f) (λr j=>(H7 j (a r j).1 (a r j).2).sub oG) h2).mono ?_;exact af6
theorem akZ (us:List (ay.Bs×aB.bT)) (l:∀ q∈us,q.1.length=32) (hok:bH.Ok 3 true (us.map aJ.mO)) (j:RS w0 F bv (bH.jM Xx.sum bH.xH true (us.map aJ.mO))) (h:au w0 w F) :
  Calls prog 144 #[bv] w (bf λv w'=>∃ lv,v=.tuple #[lv,dS 0]/\au w0 w' (aK 248 35 lv (us.flatMap jU)::F)):=by
 have hn:us.length<=65536:=by have:=hok.len;rwa [abl]at this
 have e:=uQ l
 go_in
 go_wp2_with fail;refine (acM h).mono ?_;rintro ee g ⟨v,rfl,rfl,c⟩;go_wp2_with fail;refine (ak0 ⟨#[72,79,65,82,68,73,68,88]⟩ bH.xH rfl rfl 3 aU aU _ hok j c).mono ?_;rintro ee i ⟨v,rfl,d,lv,rfl,b,h2⟩
 have a:=(show ∀ r∈d,r.x.key.length=32/\0<r.x.eU.length from λr j=>by
  have c:r.x∈us.map aJ.mO:=by rw [<-b];exact auS j
  have:=hok.row r.x c;exact ⟨this.key,by rw [this.len];decide⟩)
 go_wp2_with fail;refine (akH us d b hn e.o (λw f=>au.rd f) (λr j=>(H7 j (a r j).1 (a r j).2).sub oG) h2).mono ?_;exact af6
end
theorem RJ {P:Program}{ops:Array Oper}{Q:Exit->Act->World->Prop}{a:Act}{w:World}{b:Bool} (id:Nat) (h:lQ ((Code.region id ops b).wp P Q a w)):(Code.region id ops b).wp P Q a w:=h.o
section
variable {q d i:Nat}{D:aG}{tv:Value}
theorem alZ (t:List Int) (htl:t.length<=1048576) (hL:L.Ok) (hM:M.Ok K) (hK:K<=1048576) (hr:Ro w0 F (bK 1 tv (dJ t))) (h:au w0 w (bC p m L::aV m M::F)) :
  Calls prog 49 #[aW p,tv] w (bf λv w'=>v=dS (aB.aS.drop t t.length L M).2/\au w0 w' (bC p m (aB.aS.drop t t.length L M).1.1::aV m (aB.aS.drop t t.length L M).1.2::F)):=by
 obtain ⟨ta,tc,rfl⟩:=Ue (hr w h.drop.drop);have O:=uQ hr;have y:=uQ htl;have P:=uQ hK;have w1:IntKind.i64.wrap ((t.length:Int)-1)=(t.length:Int)-1:=abR _ oQ;have I:=uQ (show L.Ok/\M.Ok K from ⟨hL,hM⟩);clear hr htl hK hL hM;go_enter func49,ntmps49;go_wp2_with fail
 go_loopg [5] t.length (λg Q R=>∃ (k:Nat) (a:aB.aS) (b:aG),g=0+k/\k<=t.length/\Q=.int .i64 ((k:Int)-1)/\aB.aS.drop t t.length L M=aB.aS.drop t k a b/\a.Ok/\b.Ok (K+(t.length-k))/\au w0 R (bC p m a::aV m b::F))
 case atStart=>exact ⟨t.length,L,M,(aiO _).symm,abG _,rfl,rfl,I.o.1,I.o.2.mono (Nat.le_add_right _ _),h⟩
 case round=>
  obtain ⟨k,a,b,rfl,E,rfl,D,hL,hM,u⟩:=hrel;clear h;cases k with
  |zero=>
   have S:¬ (((0:Nat):Int)-1)>=0:=aU;have z:=uQ D;have T:=uQ hM;have HL:=uQ hL;clear D hL hM E;by_cases x:t=[]
   ·have J:((t.length:Int)==0)=true:=by rw [x];rfl
    have j:=uQ (aB.drop_nil (L:=a) (M:=b) x);clear x;go_wp2_with fail;go_ret;rw [z.o,j.o];exact ⟨_,rfl,rfl,u⟩
   ·have J:((t.length:Int)==0)=false:=by
     rw [acj];intro e;exact x (ajn oQ)
    have j:=uQ (aB.al0 (L:=a) (M:=b) x);clear x;go_wp2_with fail;refine (ao0 T.o u).mono ?_;rintro U V ⟨v,rfl,rfl,G⟩;clear u;go_wp2_with fail;go_ret;rw [z.o,j.o];exact ⟨_,rfl,rfl,G⟩
  |succ k=>
   have W:((k+1:Nat):Int)-1=(k:Int):=oQ;rw [W];have S:(k:Int)>=0:=oQ;have c2:(k:Int)<(t.length:Int):=oQ;have V:IntKind.i64.wrap ((k:Int)-1)=(k:Int)-1:=abR _ (by have:=y.o;omega);obtain ⟨s,H⟩:∃ s,t[k]?=some s:=⟨_,aaf oQ⟩;have f:t.getD k 0=s:=by rw [List.getD,H];rfl
   obtain ⟨bk,off,cc,X,Y⟩:=GZ (O.o _ u.drop.drop) H;cases X;have l:=aoY hL hM (by have:=P.o;have:=y.o;omega) s u;have z:=uQ D;have N:=uQ E;have c:=hL.dA b s;have d:=aB.ags (L:=a) hM s;have n:=uQ (λ(i:(a.dA b s).2=0)=>aB.al1 (t:=t) (L:=a) (M:=b) (k:=k) (by rw [f];exact i));have o:=uQ (λ(i:(a.dA b s).2≠0)=>aB.al2 (t:=t) (L:=a) (M:=b) (k:=k) (by rw [f];exact i));rw [f]at n o;clear D E H f hL hM u;generalize a.dA b s=r at *
   obtain ⟨⟨Z,M2⟩,e⟩:=r;dsimp only at l c d n o;have A:=uQ c;have B:=uQ d;clear c d;go_wp2_with fail;refine l.mono ?_;rintro U w3 ⟨v,rfl,rfl,C⟩;clear l Y;by_cases i:e=0
   ·subst i;have j:=uQ (n.o rfl);go_wp2_with fail
    go_roundg (0+k)
    case measure=>omega
    case rel=>exact ⟨k,Z,M2,rfl,Nat.le_of_succ_le N.o,by first|rfl|go_num,z.o.trans j.o,A.o,B.o.mono (by have:=N.o;omega),C⟩
   ·have J:(e != 0)=true:=by rw [ajo];exact i
    have aa:(e==0)=false:=by rw [acj];exact i
    have j:=uQ (o.o i);clear i;go_wp2_with fail;go_ret;rw [z.o,j.o];exact ⟨_,rfl,rfl,C⟩
end
abbrev eH (r m:Nat) (aZ:Int) (p ps pn:Nat) (d:Bool):aO:=pt r (.cells #[aW m,.int .i64 aZ,aW p,aW ps,aW pn,.bool d] 117 (0,0))
section
variable {r ps pn:Nat}{limit:Int}
theorem apz (hM:M.Ok K) (hl:M.list=[]) (h:au w0 w (aV m M::F)):Calls prog 100 #[aW m] w (bf λv w'=>v=.int .i64 (-1)/\au w0 w' (aV m M::F)):=by
 have b:=JL hM h
 go_in
 go_wp2_with fail;refine b.mono ?_;rintro e i ⟨v,rfl,f,a,n,c,rfl⟩;have hn:n=0:=by
  obtain ⟨_,_,_,j,d,_⟩:=au.rd f;cases j;rw [hl]at d;simpa [nG] using d.symm
 subst hn;go_wp2
 go_loopg [3,11] 0 (λg lv l o=>lv=.int .i64 (-1)/\l=.int .i64 0/\o=i)
 case atStart=>exact ⟨rfl,rfl,rfl⟩
 case round=>
  obtain ⟨rfl,rfl,rfl⟩:=hrel;go_wp2;go_ret;exact ⟨_,rfl,rfl,f.drop⟩
theorem asu {bt:aJ.qB}{v:Value} (h:Bg w0 F bt [] p m L M v w):∃ (ps pi:Nat) (uv tv:Value),v=.tuple #[aW ps,.agg (iF aJ.gI.zero),dS 0]/\(∃ a c,tv=.slice a 0 c) /\
  au w0 w (fB ps (-1) pi uv tv::bF pi (λ_=>none) 0::aK 205 3 uv []::bC p m L::aV m M::F):=by
 have hr:aJ.run bt []=.inr 0:=rfl;unfold Bg at h;rw [hr]at h;obtain ⟨ps,pi,uv,tv,av,kv,rfl,⟨_,_,hk⟩,⟨⟨a',c',rfl⟩,_⟩,hS⟩:=h;obtain rfl:kv=[]:=List.length_eq_zero_iff.1 (Nat.le_zero.1 hk);exact ⟨ps,pi,uv,_,rfl,⟨a',c',rfl⟩,hS.sb⟩
theorem amH (H:L.Ok) (G:L.aX=[]) (hM:M.Ok K) (J:M.list=[]) (I:Ro w0 F iO) (h:au w0 w (bC p m L::aV m M::F)) :
  Calls prog 48 #[aW p,aW m] w (bf λv w'=>∃ (ps D:Nat) (E tv:Value),v=.tuple #[aW ps,.agg (iF aJ.gI.zero),dS 0]/\(∃ a c,tv=.slice a 0 c) /\
   au w0 w' (fB ps (-1) D E tv::bF D (λ_=>none) 0::aK 205 3 E []::bC p m L::aV m M::F)):=by
 have l:=uQ I
 go_in
 go_wp2_with (apply jd);refine ⟨iR uZ h rfl ?_⟩;intro f x n;have b:=ac3 H hM (Ro.os l.o) (n.sb:au w0 x (bC p m L::aV m M::pt f (.cells (iF aJ.gI.zero) 36 (0,0))::F));rw [G,show aJ.xG (gJ L M) []=(-1,0) from rfl]at b;go_wp2_with fail;refine b.mono ?_;rintro o C ⟨v,rfl,rfl,s⟩;go_wp2_with fail;refine (apz hM J s.sb).mono ?_;rintro o y ⟨v,rfl,rfl,t⟩;have d:=Wv H hM (Ro.os l.o) (by rw [G];exact acn _) (by rw [G];intro r z;cases z) (t.sb:au w0 y (bC p m L::aV m M::pt f (.cells (iF aJ.gI.zero) 36 (0,0))::F));go_wp2_with fail;refine d.mono ?_;rintro o A ⟨v,rfl,g⟩;rw [G]at g;obtain ⟨ps,D,E,tv,rfl,i,u⟩:=asu g;have j:au w0 A (pt f (.cells (iF aJ.gI.zero) 36 (0,0))::fB ps (-1) D E tv::bF D (λ_=>none) 0::aK 205 3 E []::bC p m L::aV m M::F):=u.sb;go_wp2_with ((refine eG ⟨?_⟩);refine jK (iF aJ.gI.zero) j aA aA aA eu aC aA ?_;intro B e)
 refine ⟨rfl,_,Dy rfl e aA bJ underlying36 rfl aC,_,rfl,ps,D,E,tv,rfl,i,e.drop⟩
theorem aqp:yA prog 117=some [(0,1),(1,1),(2,1),(3,1),(4,1),(5,1)]:=aC
theorem avy:nR prog 117=some (.agg #[.pointer none,.int .i64 0,.pointer none,.pointer none,.pointer none,.bool false]):=aC
theorem asO (aZ:Int) (w:World):(Instr.build 117 #[(0,aW m),(1,.int .i64 aZ),(2,aW p),(3,aW ps),(4,aW pn)]).run prog w=.ok (.agg #[aW m,.int .i64 aZ,aW p,aW ps,aW pn,.bool false]) w:=
 uU [(0,aW m),(1,.int .i64 aZ),(2,aW p),(3,aW ps),(4,aW pn)] aqp avy (by
  intro q hq;simp only [ab9,ajW,av2]at hq;rcases hq with rfl|rfl|rfl|rfl|rfl
  ·exact ⟨0,rfl,by show 0+1<=6;decide⟩
  ·exact ⟨1,rfl,by show 1+1<=6;decide⟩
  ·exact ⟨2,rfl,by show 2+1<=6;decide⟩
  ·exact ⟨3,rfl,by show 3+1<=6;decide⟩
  ·exact ⟨4,rfl,by show 4+1<=6;decide⟩) w
theorem agF {ι:Type}{N:Int} (mi:ι->ay.Bs->Option aB.bT) (Bf:ι->Nat) (uf:ι->List aJ.gX) (Q:ι->Prop) (h1:128<=limit) (h2:limit<=1048576) (hM:M.Ok K) (hK:K<=1048576) (ha:aB.alive M=0) (hB:∀ x,Q x->Bf x<=14000000)
  (hfd:∀ (p b5:Nat) (w':World),au w0 w' (bC p m (aB.dK M limit)::aV m M::pt b5 (.cells (iF aJ.gI.zero) 36 (0,0))::F)->Calls prog 48 #[aW p,aW m] w' (bf λv w''=>∃ (ps pi:Nat) (uv tv:Value) (x:ι),v=.tuple #[aW ps,.agg (iF aJ.gI.zero),dS 0]/\(∃ a c,tv=.slice a 0 c)/\Q x /\
   au w0 w'' (fB ps N pi uv tv::bF pi (mi x) (Bf x)::aK 205 3 uv ((uf x).flatMap dO)::bC p m (aB.dK M limit)::aV m M::pt b5 (.cells (iF aJ.gI.zero) 36 (0,0))::F)))
  (h:au w0 w (aV m M::F)) :
  Calls prog 10 #[aW m,.int .i64 limit] w (bf λv w'=>∃ (r p ps pi pn:Nat) (uv:Value) (x:ι),v=.tuple #[aW r,.agg (iF aJ.gI.zero),dS 0]/\Q x /\
   au w0 w' (eH r m limit p ps pn false::fB ps N pi uv (.slice none 0 0)::bF pn (mi x) (Bf x)::bF pi (mi x) (Bf x)::aK 205 3 uv ((uf x).flatMap dO)::bC p m (aB.dK M limit)::aV m M::F)):=by
 have H:=uQ (aB.yN hM limit h1 h2);have i:=uQ (λ(w':World) (R:List aO) (I:au w0 w' (aV m M::R))=>OJ hM limit I ha h1 h2);generalize aB.dK M limit=L at *
 have J:=uQ hM;have O:=uQ hK;have P:=uQ hB;have l:=uQ hfd;clear h1 h2 hM hK ha hB hfd;go_enter func10,ntmps10;go_wp2_with (with_reducible apply jd);refine ⟨iR uZ h rfl ?_⟩;intro b5 S A;go_wp2_with fail;refine (i.o _ _ A.sb).mono ?_;rintro n w6 ⟨v,rfl,p,rfl,B⟩;clear h A;go_wp2_with fail;refine (l.o p b5 _ B).mono ?_;rintro n w7 ⟨v,rfl,ps,pi,uv,tv,x,rfl,⟨C,D,rfl⟩,o,E⟩;have T:=uQ o;have s:=uQ (P.o x o);clear B o;go_wp2_with (with_reducible apply jd);refine ⟨iR uZ E rfl ?_⟩;intro U w8 G;clear E;go_wp2_with (with_reducible apply eG);refine ⟨jK (iF aJ.gI.zero) G aA aA aA eu aC aA ?_⟩;intro V g;clear G;replace g:au w0 V (bC p m L::aV m M::fB ps N pi uv (.slice C 0 D)::bF pi (mi x) (Bf x)::aK 205 3 uv ((uf x).flatMap dO)::pt b5 (.cells (iF aJ.gI.zero) 36 (0,0))::F):=g.sb;go_wp2_with ((with_reducible refine dH ⟨?_⟩);refine jC aQ aA dh dG aF aC ?_)
 have d:=alZ [] (acn _) H.o J.o O.o (λw _=>J9 1 0 w |> λ_=>⟨C,0,D,rfl,rfl,λj x W=>by cases W⟩) g;rw [show ([]:List Int).length=0 from rfl,aB.drop_nil rfl]at d;refine d.mono ?_;rintro n X ⟨v,rfl,rfl,e⟩;clear d g;go_wp2_with (with_reducible apply eG);refine ⟨jI e aA aA aA auG dG aC aA ?_⟩;intro t b;replace b:au w0 t (bF pi (mi x) (Bf x)::fB ps N pi uv (.slice none 0 0)::bC p m L::aV m M::aK 205 3 uv ((uf x).flatMap dO)::pt b5 (.cells (iF aJ.gI.zero) 36 (0,0))::F):=b.sb;clear e;go_wp2_with ((with_reducible refine dH ⟨?_⟩);refine jC b aA bZ dG aF aC ?_);refine (Z' s.o b).mono ?_;rintro n Y ⟨v,rfl,pn,rfl,u⟩;clear b
 go_wp2_with (first
  |((with_reducible apply Xi);refine ⟨?_⟩;first|refine FQ aA (asO limit) ?_|refine FQ aA PO ?_)
  |((with_reducible refine jy ⟨?_⟩);refine jB u aA aA ?_;intro r y z)
  |(with_reducible apply eG))
 refine ⟨jK (iF aJ.gI.zero) (z.sb:au w0 y (pt b5 (.cells (iF aJ.gI.zero) 36 (0,0))::eH r m limit p ps pn false::fB ps N pi uv (.slice none 0 0)::bF pn (mi x) (Bf x)::bF pi (mi x) (Bf x)::aK 205 3 uv ((uf x).flatMap dO)::bC p m L::aV m M::F)) aA aA aA eu aC aA ?_⟩;intro Z f;go_wp2_with fail;refine ⟨rfl,_,Dy rfl f aA bJ underlying36 rfl aC,_,rfl,r,p,ps,pi,pn,uv,x,rfl,T.o,f.drop⟩
theorem arE (h1:128<=limit) (h2:limit<=1048576) (hM:M.Ok K) (hK:K<=1048576) (ha:aB.alive M=0) (hf:(aB.dK M limit).aX=[]) (hl:M.list=[]) (hH:Ro w0 F iO) (h:au w0 w (aV m M::F)) :
  Calls prog 10 #[aW m,.int .i64 limit] w (bf λv w'=>∃ (r p ps pi pn:Nat) (uv:Value),v=.tuple #[aW r,.agg (iF aJ.gI.zero),dS 0] /\
   au w0 w' (eH r m limit p ps pn false::fB ps (-1) pi uv (.slice none 0 0)::bF pn (λ_=>none) 0::bF pi (λ_=>none) 0::aK 205 3 uv []::bC p m (aB.dK M limit)::aV m M::F)):=by
 refine (agF (ι:=Unit) (N:= -1) (λ_ _=>none) (λ_=>0) (λ_=>[]) (λ_=>True) h1 h2 hM hK ha (λ_ _=>by decide) (λp b5 w' hw=>?_) h).mono ?_
 ·refine (amH (aB.yN hM limit h1 h2) hf hM hl (Ro.os hH) hw).mono ?_;rintro e w' ⟨v,rfl,ps,pi,uv,tv,rfl,NS,hS⟩;exact ⟨_,rfl,ps,pi,uv,tv,(),rfl,NS,trivial,hS⟩
 ·rintro e w' ⟨v,rfl,r,p,ps,pi,pn,uv,_,rfl,_,hS⟩;exact ⟨_,rfl,r,p,ps,pi,pn,uv,rfl,hS⟩
theorem xM {aZ:Int}{d:Bool} (h:au w0 w (eH r m aZ p ps pn d::F)):Calls prog 68 #[aW r] w (bf λv w'=>v=.bool true/\w=w'):=by
 have e2:=h.dD 2 _ rfl
 go_in
 go_wp2;go_ret;exact ⟨_,rfl,rfl,rfl⟩
end
end Go.Proofs.Y
