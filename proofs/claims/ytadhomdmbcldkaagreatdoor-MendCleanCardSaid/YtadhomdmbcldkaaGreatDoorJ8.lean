import Derived.Test.YtadhomdmbcldkaaGreatDoorJ7
import Derived.Laws.StructEq
set_option linter.unusedSimpArgs false
open Go.Proofs.Tryz
set_option maxRecDepth 100000
set_option linter.unusedVariables false
set_option maxHeartbeats 128000000
open Go Go.Sl Go.MapKept Go.RowKit
open Go.Proofs.YtadhomdmbcldkaaGreatDoor Go.Proofs.Y
variable {w0 w:World}{F R L L':List aF}{v lv bv gV fv nv wv dv v1:Value}{ops:Array Oper}{a:Act}{dst:Option Tmp}{after:Array Edge}{Q:Exit->Act->World->Prop}{y x s:Operand}{P:Program}{K d b bE p T sz i B base:Nat}{xs:List RF}{g:qc}{rest:List Oper}{E:Prop}{e:aj.aJ}{ty:TypeId}{cs:Array Value}{l k:ak.Bs}{m:aj.Bs->Option (Seg.aZ)}{H:Type}{spare:Nat->Bool}{held:Bool}
namespace Go.aj
end Go.aj
namespace Go.Proofs.Y
open Go.ak
theorem EF (x n:Nat) (hx:x<18446744073709551616) (h1:1<=n) (h8:n<=8) (h:Sat w0 w F) :
  Calls prog 139 #[.int .u64 x,.int .i64 n] w (aN λv w'=>Sat w0 w' (aY v (aj.le x n)::F)/\∃ a n c,v=.slice a n c):=by
 have d1:decide ((n:Int)<1)=false:=by rw [aeJ];omega
 have d2:decide (8<(n:Int))=false:=by rw [aeJ];omega
 have d1':¬ n<1:=oQ;have d2':¬ 8<n:=oQ;have Hx:=uQ hx;have H8:=uQ h8;clear hx h1 h8;go_enter func139,ntmps139;go_wp2_with fail;clear d1 d2 d1' d2'
 go_loopg [0,5,6] n (λg xq bq iq wr=>∃ i:Nat,g=n-i/\i<=n/\iq=.int .i64 i/\xq=.int .u64 (x/256^i:Nat)/\Sat w0 wr (aY bq (aj.le x i)::F))
 case atStart=>exact ⟨0,rfl,ad4 _,rfl,by rw [Nat.pow_zero,Nat.div_one],Sat.dO.2 h⟩
 case round=>
  obtain ⟨i,rfl,hi,rfl,rfl,hS⟩:=hrel;clear h;obtain ⟨ba,bn,bc,rfl,_⟩:=id (Sat.rd hS);by_cases hlt:i<n
  ·have c1:(i:Int)<(n:Int):=by omega
   have h8:=H8.o;have hwi:=qm (i:=i);have hX:x/256^i<18446744073709551616:=ajq (aoG _ _) Hx.o;have hnx:x/256^(i+1)=x/256^i/256:=by rw [apt,Nat.div_div_eq_div_mul]
   have hle:=aj.ai8 x i;have nX:=uQ hle;have AQ:=uQ hnx;have aS:=uQ hlt;have hlen:(aB (aj.le x i)).length<=2147483648:=by rw [aP,aj.iE];omega
   clear hle hnx hlt h8;generalize x/256^i=X at *
   obtain ⟨cc,hcc⟩:∃ cc,cc=UInt8.ofNat (X%256):=⟨_,rfl⟩;have hcv:(X:Int)%256=(cc.toNat:Int):=by rw [hcc,aoB];omega
   have hcw:(cc.toNat:Int)%256=(cc.toNat:Int):=by have:=cc.toNat_lt;omega
   have hdv:(X:Int)/256=((X/256:Nat):Int):=rfl;have hdw:((X/256:Nat):Int)%18446744073709551616=((X/256:Nat):Int):=oQ;rw [<-hcc]at nX;clear hcc hX;generalize X/256=Y at *
   have hSo:Sat w0 wr (aC 5 1 (.slice ba bn bc) (aB (aj.le x i))::F):=hS;generalize hB:aB (aj.le x i)=B at *
   clear hS
   go_wp2_with (first
    |((with_reducible refine jh ⟨?_⟩);refine jg (e:=5) (sz:=1) (dF:=1) au aQ ay ay ah bG ?_;intro bN wN hN)
    |((with_reducible refine fZ ⟨?_⟩);refine jF 5 1 1 au hN ah ah (aU aK) aK ah (ab1 1) ah hlen (by show 1<=65536;decide) aG ay ?_;intro bA nA cA wA hA))
   go_roundg (n-(i+1))
   case measure=>have:=aS.o;omega
   case rel=>
    refine ⟨i+1,rfl,ad8 aS.o,by first|rfl|go_num,by rw [AQ.o],?_⟩;rw [nX.o];unfold aY;have e:aB (aj.le x i++[cc])=B++[Value.int .u8 cc.toNat]:=by rw [<-hB];unfold aB;rw [aef];rfl
    rw [e];exact hA
  ·obtain rfl:i=n:=by omega
   have c1:¬ (i:Int)<(i:Int):=oQ;clear hlt;go_wp2;go_ret;exact ⟨_,rfl,hS,_,_,_,rfl⟩
theorem alu (h:Sat w0 w F) :
  Calls prog 72 #[] w (aN λv w'=>∃ b,v=.slice (some ⟨b,0,none⟩) 8 8/\Sat w0 w' (aY v [72,79,65,82,68,83,69,71]::F)):=by
 have hA:=h.alloc (.cells #[.int .u8 72,.int .u8 79,.int .u8 65,.int .u8 82,.int .u8 68,.int .u8 83,.int .u8 69,.int .u8 71] 5);go_enter func72,ntmps72;go_wp2;go_ret;exact ⟨_,rfl,_,rfl,Sat.kU hA rfl (ab1 _) (ab1 _) aG rfl⟩
section
variable {D:ak}
theorem amV (D:ak) (i:Nat):D.step.1.file i=D.file i:=by unfold ak.file;rw [MB]
end
section
variable {D:ak}
theorem O7 {l:Bs} (h:Sat w0 w (aY v l::R)):∃ a c,v=.slice a l.length c/\l.length<=c/\c<=9223372036854775807/\((a=none/\c=0)\/∃ g,a=some ⟨g,0,none⟩):=by
 rcases Sat.kL h with ⟨hv,hx,_⟩|⟨b,n',cap',cs,hv,hl,hn,hc,hcm,_,_⟩
 ·have h5:(aB l).length=0:=by rw [hx];rfl
  rw [aP]at h5;exact ⟨none,0,by rw [hv,h5],by omega,by omega,.inl ⟨rfl,rfl⟩⟩
 ·rw [aP,aeo]at hl;exact ⟨_,_,by rw [hv,hl],by omega,hcm,.inr ⟨b,rfl⟩⟩
section
variable {t:Nat}{pos:String}{x:Value}{K:Act->World->Prop}
theorem vg (hs:Sat w0 w (aY v l::R)) (hv:a.eval s=v) (hy:a.eval y=x) (hx:aW 1 x (aB k) w) (hl:l.length+k.length<=1099511627776)
  (hK:∀ a' n' c' w',Sat w0 w' (aY (.slice a' n' c') (l++k)::R)->wpList prog ops Q rest (a.put dst (.slice a' n' c')) w') :
  wpList prog ops Q (⟨dst,.call { callee:= .builtin .append,args:=#[s,y],argTypes:=#[59,59] },t,pos,after,none⟩::rest) a w:=by
 obtain ⟨i,hi,hz0,hz1,hz2⟩:=uO;refine Ah (w0:=w0) ah s y 59 ah _ i _ underlying59 hi hz0 hz1 ah oQ hv hy (vK _) hs hx ?_ ?_ ?_
 ·rw [aP,aP];unfold maxLen;omega
 ·rw [aP,aP,hz2];omega
 ·intro v2 w2 hS2 _;obtain ⟨a2,n2,c2,rfl,_⟩:=id hS2.rd;refine hK _ _ _ _ ?_;unfold aY aB;rw [aef];exact hS2
end
theorem W9 (ws:List (gX×Value)):(ws.flatMap mO).length=3*ws.length:=by
 induction ws with
 |nil=>rfl
 |cons x l ih=>rw [aen,aa7,ih,aev];show 3+3*l.length=_;omega
theorem af2 {ws:List (gX×Value)} (h:aW 3 v (ws.flatMap mO) w):∃ a c,v=.slice a ws.length c:=by
 obtain ⟨a,n,c,rfl,hl,_⟩:=h;rw [W9]at hl;obtain rfl:n=ws.length:=by omega
 exact ⟨a,c,rfl⟩
end
section
variable {o:Nat}{t ty n c:Nat}{pos:String}{xs:List Value}{K:Act->World->Prop}
theorem agN (i:Nat) (hs:Sat w0 w L) (hx:a.eval x=.pointer (some ⟨b,i,none⟩)) (hy:a.eval y=v) (u:pF (aC T sz (.slice (some ⟨b,0,none⟩) n c) xs) (aC T sz (.slice (some ⟨b,0,none⟩) n c) (xs.set i v)) L L')
  (hi:i<xs.length) (hty:(P.info? ty).map (·.size)=some 1) (h0:v.cells=#[v]) (h1:v.oneCell'=true)
  (hK:∀ w',Sat w0 w' L'->K (a.put dst undef) w') :
  if Region.wanted ⟨dst,.store ty x y,t,pos,after,none⟩ (yielded ops a.tmps)=true then Oper.wp P ⟨dst,.store ty x y,t,pos,after,none⟩ a w K Q else E:=by
 obtain ⟨R',h2,h3⟩:=u;have h:=hs.perm h2;rcases Sat.kL h with ⟨he,_⟩|⟨g',n',cap',cs,he,k1,k2,k3,k4,k5,k6⟩
 ·cases he
 ·cases he;have hlen:xs.length<=cs.size:=by rw [<-k5,adt,ad6];omega
  refine pI k6 hx hy (cs':=cs.setIfInBounds i v) (by rw [h0];rfl) bU (by rw [h0];show i+1<=cs.size;omega) (by rw [h0];exact hty) (by rw [h0];simpa using h1) λw' hS=>hK w' (Sat.perm ?_ h3.symm);refine Sat.kU hS (by rw [ahu];exact k1) k2 (by rw [apC];exact k3) k4 ?_;rw [aoR,List.take_set,k5]
end
section
variable {D:ak}{x:RF}
theorem abD (hx:xs[i]?=some x) (h:Sat w0 w (stars (xs.map je)::R)):∃ G:aF,(∀ x',stars ((xs.set i x').map je)=star (je x') G) /\
  Sat w0 w (aY x.fv x.f.fast::aY x.nv x.f.now::aC 93 3 x.wv (x.ws.flatMap mO)::pG x.ws::G::R):=by
 obtain ⟨G,hG,hG'⟩:=acL xs i x hx;refine ⟨G,hG',?_⟩;rw [hG]at h;have h1:=Sat.star.1 h;unfold je at h1;have h2:=Sat.star.1 h1;have h3:=Sat.star.1 (h2.pick aT);have h4:=Sat.star.1 (h3.pick aT);have h5:=Sat.star.1 (h4.pick aT);have h6:=Sat.emp.1 (h5.pick aT);exact h6.sub (dA iw (dA fE (dA aT (dA aK (dA aK iY)))))
theorem abC {G:aF} (hG:∀ x',stars ((xs.set i x').map je)=star (je x') G) (h:Sat w0 w (aY x.fv x.f.fast::aY x.nv x.f.now::aC 93 3 x.wv (x.ws.flatMap mO)::pG x.ws::G::R)) :
  Sat w0 w (stars ((xs.set i x).map je)::R):=by
 rw [hG x];refine Sat.star.2 ?_;unfold je;have h0:Sat w0 w (stars []::aY x.fv x.f.fast::aY x.nv x.f.now::aC 93 3 x.wv (x.ws.flatMap mO)::pG x.ws::G::R):=Sat.emp.2 h;have h1:Sat w0 w (stars [pG x.ws]::aY x.fv x.f.fast::aY x.nv x.f.now::aC 93 3 x.wv (x.ws.flatMap mO)::G::R):=Sat.star.2 (h0.sub (dA rW (dA aK iY)));have h2:=Sat.star.2 (h1.sub (dA iw (dA aK iY)));have h3:=Sat.star.2 (h2.sub (dA fE (dA aK iY)));exact Sat.star.2 (h3.sub (dA aT (dA aK iY)))
theorem abH:∀ (xs:List RF) (i:Nat) (x:RF) (u:Value),xs[i]?=some x->(iR xs).set (i*3+1) u=iR (xs.set i { x with nv:=u })
 |[],_,_,_,h=>by cases h
 |q::xs,0,x,u,h=>by cases h;rfl
 |q::xs,i+1,x,u,h=>by
  have e:=abH xs i x u yL0;show (q.fv::q.nv::q.wv::iR xs).set ((i+1)*3+1) u=q.fv::q.nv::q.wv::iR (xs.set i { x with nv:=u });rw [<-e,show (i+1)*3+1=i*3+1+1+1+1 by omega];rfl
theorem abJ:∀ (xs:List RF) (i:Nat) (x:RF) (u:Value),xs[i]?=some x->(iR xs).set (i*3+2) u=iR (xs.set i { x with wv:=u })
 |[],_,_,_,h=>by cases h
 |q::xs,0,x,u,h=>by cases h;rfl
 |q::xs,i+1,x,u,h=>by
  have e:=abJ xs i x u yL0;show (q.fv::q.nv::q.wv::iR xs).set ((i+1)*3+2) u=q.fv::q.nv::q.wv::iR (xs.set i { x with wv:=u });rw [<-e,show (i+1)*3+2=i*3+2+1+1+1 by omega];rfl
theorem abI {x x':RF} (h1:x'.fv=x.fv) (h2:x'.nv=x.nv) (h3:x'.wv=x.wv):∀ (xs:List RF) (i:Nat),iR (xs.set i x')=iR (xs.set i x)
 |[],_=>rfl
 |q::xs,0=>by
  show x'.fv::x'.nv::x'.wv::iR xs=x.fv::x.nv::x.wv::iR xs;rw [h1,h2,h3]
 |q::xs,i+1=>by
  show q.fv::q.nv::q.wv::iR (xs.set i x')=q.fv::q.nv::q.wv::iR (xs.set i x);rw [abI h1 h2 h3 xs i]
theorem abG (f f':aX) (fv nv wv:Value) (ws ws':List (gX×Value)) (xs:List RF) (i:Nat):iR (xs.set i ⟨f,fv,nv,wv,ws⟩)=iR (xs.set i ⟨f',fv,nv,wv,ws'⟩):=abI (x:=⟨f',fv,nv,wv,ws'⟩) (x':=⟨f,fv,nv,wv,ws⟩) rfl rfl rfl xs i
theorem af8 {ws:List (gX×Value)}{p:gX×Value} (h:Sat w0 w (aY p.2 p.1.b::pG ws::R)):Sat w0 w (pG (ws++[p])::R):=by
 rw [Xa];exact Sat.star.2 (h.sub (dA aT (dA aK iY)))
theorem af4 (ws:List (gX×Value)) (p:gX×Value):ws.flatMap mO++mO p=(ws++[p]).flatMap mO:=by rw [aeB];simp
theorem sG.set (h:sG D fv nv xs g){i:Nat}{x':RF} (hok:x'.ws.map (·.1)=x'.f.waits):sG (D.eP i x'.f) fv nv (xs.set i x') g:=
 ⟨by rw [List.map_set,h.files];rfl,(λy hy=>by rcases ajr hy with hy|rfl;exact h.ok y hy;exact hok),h.fast,h.now⟩
theorem sG.step (h:sG D fv nv xs g):sG D.step.1 fv nv xs g:=⟨by rw [MB];exact h.files,h.ok,by rw [acN];exact h.fast,by rw [Ug];exact h.now⟩
end
section
variable {t ty o:Nat}{pos:String}{g:Nat×Bool}
theorem adA (ks:List Value) (hw:Region.wanted ⟨dst,.load ty x,t,pos,after,some g⟩ (yielded ops a.tmps)=true) (hx:a.eval x=.pointer (some ⟨b,o,none⟩)) (hc:w.rangeAt b o ks)
  {d:TypeDesc} (hu:P.underlying ty=some d) (hd:d.isRow=true) (hi:(P.info? ty).map (·.size)=some ks.length)
  (h:wpList P ops Q rest (a.put dst (.agg ks.toArray)) w):wpList P ops Q (⟨dst,.load ty x,t,pos,after,some g⟩::rest) a w:=
 BigFrame.wpList_want hw λ_ hK=>wp_load_mid ty x rfl b o hx ks d hc hu hd hi (hK _ _ h)
theorem WB (h:Stop (wpList P ops Q (⟨dst,.load ty x,t,pos,after,some g⟩::rest) a w)):wpList P ops Q (⟨dst,.load ty x,t,pos,after,some g⟩::rest) a w:=h.o
end
theorem sV (h:Sat w0 w (pt bE (.cells (bV e dv) 71 (0,0))::R)):w.cell? ⟨bE,0,none⟩=some (.int .i64 e.tag):=h.cellAt 0 _ (zu e _)
theorem sW (hk:e.key.length=32) (h:Sat w0 w (pt bE (.cells (bV e dv) 71 (0,0))::R)):w.cell? ⟨bE,33,none⟩=some dv:=h.cellAt 33 _ (D9 e _ hk)
theorem wG (hk:e.key.length=32) (h:Sat w0 w (pt bE (.cells (bV e dv) 71 (0,0))::R)):w.rangeAt bE 1 (aB e.key):=λj v hj=>h.cellAt (1+j) v (PL e dv hk j v yX0)
theorem XU {i:Nat}{c:UInt8} (hk:e.key.length=32) (hi:e.key[i]?=some c) (h:Sat w0 w (pt bE (.cells (bV e dv) 71 (0,0))::R)):w.cell? ⟨bE,1+i,none⟩=some (.int .u8 c.toNat):=
 wG hk h i _ (by unfold aB;rw [ad1,hi];rfl)
theorem ale (e:aj.aJ) (hk:e.key.length=32) (da:Option Addr) (dc:Nat) (hd:Ro w0 F (aW 1 (.slice da e.data.length dc) (aB e.data))) (t2:e.tag=2) (hz:e.key=aj.zero32) (Ec:e.data.length=0) (h:Sat w0 w F) :
  Calls prog 80 #[.agg (bV e (.slice da e.data.length dc))] w (aN λv w'=>∃ bv,v=.tuple #[bv,errno (aj.encode e).2]/\(∃ a n c,bv=.slice a n c)/\Sat w0 w' (aY bv (aj.encode e).1::F)):=by
 have Hk:=uQ hk;have Hd:=uQ hd;have hnk:=Gh e.key hk;have hks:(aB e.key).length=32:=by rw [aP,hk]
 have kX:=uQ hks;clear hd hks;go_enter func80,ntmps80;go_wp2_with (first|((with_reducible refine xQ ⟨?_⟩);refine yM aQ ah ?_;intro bX wX hX)|(with_reducible apply bC));refine ⟨?_⟩;have f0:=sV hX;have f33:=sW hk hX;have fk:=wG hk hX;have Fk:=uQ fk;clear h hk fk;have h0i:decide (0<e.data.length)=false:=by rw [aeJ];omega
 have h0j:¬ 0<e.data.length:=oQ;rw [t2]at f0;have hzd:decide (e.key=aj.zero32)=true:=aem hz;have yU:=uQ (show aj.check e=0 by unfold aj.check;simp [t2,hz,Ec]);have qC:=uQ (show e.data.length<=16384 by omega);have yT:Hid (∀ B0 N8,B0=[(2:UInt8)]++e.data->B0.length+8=N8->aj.le N8 4++B0=aj.body e):=λB0 N8 h1 h2=>by
  have h3:aj.size e=9:=by unfold aj.size;rw [yU.o];simp [t2]
  have h4:N8=9:=by rw [<-h2,h1];simp [Ec]
  unfold aj.body;rw [h3,h4,h1,t2];rfl
 have vw:=uQ (show [(2:UInt8)].length<=33 by decide);have h1i:decide (16384<(e.data.length:Int))=false:=by rw [aeJ];omega
 have Hz:=uQ hz;clear hz Ec
 go_wp2_with (first
  |((with_reducible refine WB ⟨?_⟩);refine adA (b:=bX) (o:=1) (aB e.key) ah ah Fk.o underlying34 rfl yJ0 ?_)
  |((with_reducible refine jh ⟨?_⟩);refine jg (e:=5) (sz:=1) (dF:=1) au hX ah (cs:=#[.int .u8 2]) rfl rfl bG ?_;intro bN wN hN))
 have f0:=sV (hN.pick aT);rw [t2]at f0;have rE:=uQ t2;clear t2;have hS:Sat w0 _ (aY (.slice (some ⟨bN,0,none⟩) 1 1) [(2:UInt8)]::pt bX (.cells (bV e (.slice da e.data.length dc)) 71 (0,0))::F):=Sat.kU hN rfl (ab1 _) (ab1 _) aG rfl;clear hX hN;obtain ⟨R0,hR0⟩:∃ R0,R0=[(2:UInt8)]:=⟨_,rfl⟩;rw [<-hR0]at hS yT vw;clear hR0;go_wp2_with fail
 go_loopg [4,5] 0 (λg bq iq wr=>bq=.slice (some ⟨bN,0,none⟩) 1 1/\iq=.int .i64 0/\Sat w0 wr (aY (.slice (some ⟨bN,0,none⟩) 1 1) R0::pt bX (.cells (bV e (.slice da e.data.length dc)) 71 (0,0))::F))
 case atStart=>exact ⟨rfl,rfl,hS⟩
 case round=>
  obtain ⟨rfl,rfl,hS⟩:=hrel;have f0:=sV (hS.pick aT);rw [rE.o]at f0;have f33:=sW Hk.o (hS.pick aT);have f33:=sW Hk.o (hS.pick aT);go_wp2_with ((with_reducible refine fZ ⟨?_⟩);refine vg hS ay ay (Hd.o _ hS.drop.drop) (by have:=vw.o;have:=qC.o;omega) ?_;intro a1 n1 c1 w1 hS1);clear f33 hS;have hb0:∃ B0,B0=R0++e.data:=⟨_,rfl⟩;obtain ⟨B0,hb0⟩:=hb0;rw [<-hb0]at hS1;have Hb0:=uQ hb0;have o7:=uQ (show B0.length<=16417 by rw [hb0,aa7];have:=vw.o;have:=qC.o;omega);clear hb0;obtain ⟨a1',c1',hv1,_⟩:=O7 hS1;cases hv1;have hput:=EF (B0.length+8) 4 (by have:=o7.o;omega) aG aG hS1;have hw8:IntKind.i64.wrap ((B0.length:Int)+8)=((B0.length+8:Nat):Int):=by have:=o7.o;exact acO _ oQ
  have pR:((B0.length+8:Nat):Int)%18446744073709551616=((B0.length+8:Nat):Int):=by have:=o7.o;omega
  have zF:wrap64 ((B0.length:Int)+8)=((B0.length+8:Nat):Int):=by rw [<-IntWalk.i64_left];exact hw8
  have rV:IntKind.u64.wrap ((B0.length+8:Nat):Int)=((B0.length+8:Nat):Int):=pR;rw [show ((4:Nat):Int)=4 from rfl]at hput;generalize zA:B0.length+8=N8 at *
  have Fg:=uQ zA;clear zA;go_wp2_with fail;simp only [zF,rV];refine hput.mono ?_;clear hput hw8 pR zF rV;rintro ee w2 ⟨v,rfl,hS2,a2,n2,c2,rfl⟩;clear hS1;go_wp2_with ((with_reducible refine fZ ⟨?_⟩);refine vg hS2 ay ay (Sat.rd (hS2.pick aT)) (by rw [aj.iE];have:=o7.o;omega) ?_;intro a3 n3 c3 w3 hS3);clear hS2;obtain ⟨B1,hb1⟩:∃ B1,B1=aj.le N8 4++B0:=⟨_,rfl⟩;rw [<-hb1]at hS3;have yS:=uQ (show B1.length<=16421 by rw [hb1,aa7,aj.iE];have:=o7.o;omega);have Fq:=uQ (show B1=aj.body e by rw [hb1];exact yT.o B0 N8 Hb0.o Fg.o);clear hb1;have hsum:=TI B1 (Sat.rd hS3) (by have:=yS.o;omega);have hcl:=aj.D5 B1;have hput:=EF (aj.crc B1) 4 oQ aG aG hS3;rw [show ((4:Nat):Int)=4 from rfl]at hput;generalize hC:aj.crc B1=C at *
  have HC:=uQ hC;have pR:(C:Int)%18446744073709551616=(C:Int):=oQ;have rV:IntKind.u64.wrap (C:Int)=(C:Int):=pR;clear hC hcl;go_wp2_with fail;refine hsum.mono ?_;clear hsum;rintro ee w4 ⟨v,rfl,rfl,rfl⟩;go_wp2_with fail;refine hput.mono ?_;clear hput pR rV;rintro ee w4 ⟨v,rfl,hS4,a4,n4,c4,rfl⟩;clear hS3;go_wp2_with ((with_reducible refine fZ ⟨?_⟩);refine vg hS4 ay ay (Sat.rd (hS4.pick aT)) (by rw [aj.iE];have:=yS.o;omega) ?_;intro a5 n5 c5 w5 hS5);clear hS4
  go_ret2
  have hen:aj.encode e=(aj.le C 4++B1,0):=by unfold aj.encode;rw [abL (by rw [yU.o];simp),<-Fq.o,HC.o]
  exact ⟨_,rfl,.slice a5 n5 c5,by rw [hen];rfl,⟨_,_,_,rfl⟩,by rw [hen];exact hS5.sub (dA aK (lg (lg (lg iY))))⟩
theorem alc (e:aj.aJ) (hk:e.key.length=32) (da:Option Addr) (dc:Nat) (hd:Ro w0 F (aW 1 (.slice da e.data.length dc) (aB e.data))) (hT:e.tag=0) (hsz:¬ 16384<e.data.length) (h:Sat w0 w F) :
  Calls prog 80 #[.agg (bV e (.slice da e.data.length dc))] w (aN λv w'=>∃ bv,v=.tuple #[bv,errno (aj.encode e).2]/\(∃ a n c,bv=.slice a n c)/\Sat w0 w' (aY bv (aj.encode e).1::F)):=by
 have Hk:=uQ hk;have Hd:=uQ hd;have hnk:=Gh e.key hk;have hks:(aB e.key).length=32:=by rw [aP,hk]
 have kX:=uQ hks;clear hd hks;go_enter func80,ntmps80;go_wp2_with (first|((with_reducible refine xQ ⟨?_⟩);refine yM aQ ah ?_;intro bX wX hX)|(with_reducible apply bC));refine ⟨?_⟩;have f0:=sV hX;have f33:=sW hk hX;have fk:=wG hk hX;have Fk:=uQ fk;clear h hk fk;rw [hT]at f0;have HT:=uQ hT;clear hT hnk;have yU:=uQ (show aj.check e=0 by unfold aj.check;simp [HT.o,hsz]);have qC:=uQ (show e.data.length<=16384 by omega);have yT:Hid (∀ B0 N8,B0=([(0:UInt8)]++e.key)++e.data->B0.length+8=N8->aj.le N8 4++B0=aj.body e):=λB0 N8 h1 h2=>by
  have h3:aj.size e=41+e.data.length:=by unfold aj.size;rw [yU.o];simp [HT.o]
  have h4:N8=41+e.data.length:=by rw [<-h2,h1];simp [Hk.o];omega
  unfold aj.body;rw [h3,h4,h1,HT.o];simp
 have vw:=uQ (show ([(0:UInt8)]++e.key).length<=33 by simp [Hk.o]);have h1i:decide (16384<(e.data.length:Int))=false:=by rw [aeJ];omega
 clear hsz;go_wp2_with ((with_reducible refine jh ⟨?_⟩);refine jg (e:=5) (sz:=1) (dF:=1) au hX ah (cs:=#[.int .u8 0]) rfl rfl bG ?_;intro bN wN hN);have hS0:Sat w0 wN (aY (.slice (some ⟨bN,0,none⟩) 1 1) ([(0:UInt8)]++e.key.take 0)::pt bX (.cells (bV e (.slice da e.data.length dc)) 71 (0,0))::F):=by rw [afC];exact Sat.kU hN rfl (ab1 _) (ab1 _) aG rfl
 clear hX hN f0 f33;go_wp2_with fail
 go_loopg [4,5] 32 (λg bq iq wr=>∃ i:Nat,g=32-i/\i<=32/\iq=.int .i64 i/\Sat w0 wr (aY bq ([(0:UInt8)]++e.key.take i)::pt bX (.cells (bV e (.slice da e.data.length dc)) 71 (0,0))::F))
 case atStart=>exact ⟨0,rfl,by decide,rfl,hS0⟩
 case round=>
  obtain ⟨i,rfl,hi,rfl,hS⟩:=hrel;clear hS0;obtain ⟨ba,bn,bc,rfl,_⟩:=id (Sat.rd hS);have f0:=sV (hS.pick aT);rw [HT.o]at f0;by_cases hlt:i<32
  ·have c1:(i:Int)<32:=by omega
   have hwi:=qm (i:=i);obtain ⟨cc,hcc⟩:∃ cc,e.key[i]?=some cc:=⟨_,aaJ (by rw [Hk.o];exact hlt)⟩;have fk:=XU Hk.o hcc (hS.pick aT);have AQ:=uQ (show [(0:UInt8)]++e.key.take (i+1)=([(0:UInt8)]++e.key.take i)++[cc] by rw [aeN,hcc];simp);have hlen:(aB ([(0:UInt8)]++e.key.take i)).length<=2147483648:=by rw [aP,aa7,adt];simp;omega
   have aS:=uQ hlt;clear hcc hlt;have hSo:Sat w0 wr (aC 5 1 (.slice ba bn bc) (aB ([(0:UInt8)]++e.key.take i))::pt bX (.cells (bV e (.slice da e.data.length dc)) 71 (0,0))::F):=hS;generalize hB:[(0:UInt8)]++e.key.take i=B at *
   clear hS
   go_wp2_with (first
    |((with_reducible refine jh ⟨?_⟩);refine jg (e:=5) (sz:=1) (dF:=1) au hSo ah (cs:=#[.int .u8 cc.toNat]) rfl rfl bG ?_;intro bM wM hM)
    |((with_reducible refine fZ ⟨?_⟩);refine jF 5 1 1 au hM ah ah (aU aK) aK ah (ab1 1) ah hlen (by show 1<=65536;decide) aG ay ?_;intro bA nA cA wA hA))
   go_roundg (32-(i+1))
   case measure=>have:=aS.o;omega
   case rel=>
    refine ⟨i+1,rfl,ad8 aS.o,by first|rfl|go_num,?_⟩;rw [AQ.o];have e1:aB (B++[cc])=aB B++[Value.int .u8 cc.toNat]:=by unfold aB;rw [aef];rfl
    unfold aY;rw [e1];exact hA
  ·obtain rfl:i=32:=by omega
   have c1:¬ ((32:Nat):Int)<32:=by decide
   rw [adZ (by rw [Hk.o];exact ab1 _)]at hS;clear hlt hi;obtain ⟨R0,hR0⟩:∃ R0,R0=[(0:UInt8)]++e.key:=⟨_,rfl⟩;rw [<-hR0]at hS yT vw;clear hR0;have f33:=sW Hk.o (hS.pick aT);go_wp2_with ((with_reducible refine fZ ⟨?_⟩);refine vg hS ay ay (Hd.o _ hS.drop.drop) (by have:=vw.o;have:=qC.o;omega) ?_;intro a1 n1 c1 w1 hS1);clear f33 hS;have hb0:∃ B0,B0=R0++e.data:=⟨_,rfl⟩;obtain ⟨B0,hb0⟩:=hb0;rw [<-hb0]at hS1;have Hb0:=uQ hb0;have o7:=uQ (show B0.length<=16417 by rw [hb0,aa7];have:=vw.o;have:=qC.o;omega);clear hb0;obtain ⟨a1',c1',hv1,_⟩:=O7 hS1;cases hv1;have hput:=EF (B0.length+8) 4 (by have:=o7.o;omega) aG aG hS1;have hw8:IntKind.i64.wrap ((B0.length:Int)+8)=((B0.length+8:Nat):Int):=by have:=o7.o;exact acO _ oQ
   have pR:((B0.length+8:Nat):Int)%18446744073709551616=((B0.length+8:Nat):Int):=by have:=o7.o;omega
   have zF:wrap64 ((B0.length:Int)+8)=((B0.length+8:Nat):Int):=by rw [<-IntWalk.i64_left];exact hw8
   have rV:IntKind.u64.wrap ((B0.length+8:Nat):Int)=((B0.length+8:Nat):Int):=pR;rw [show ((4:Nat):Int)=4 from rfl]at hput;generalize zA:B0.length+8=N8 at *
   have Fg:=uQ zA;clear zA;go_wp2_with fail;simp only [zF,rV];refine hput.mono ?_;clear hput hw8 pR zF rV;rintro ee w2 ⟨v,rfl,hS2,a2,n2,c2,rfl⟩;clear hS1;go_wp2_with ((with_reducible refine fZ ⟨?_⟩);refine vg hS2 ay ay (Sat.rd (hS2.pick aT)) (by rw [aj.iE];have:=o7.o;omega) ?_;intro a3 n3 c3 w3 hS3);clear hS2;obtain ⟨B1,hb1⟩:∃ B1,B1=aj.le N8 4++B0:=⟨_,rfl⟩;rw [<-hb1]at hS3;have yS:=uQ (show B1.length<=16421 by rw [hb1,aa7,aj.iE];have:=o7.o;omega);have Fq:=uQ (show B1=aj.body e by rw [hb1];exact yT.o B0 N8 Hb0.o Fg.o);clear hb1;have hsum:=TI B1 (Sat.rd hS3) (by have:=yS.o;omega);have hcl:=aj.D5 B1;have hput:=EF (aj.crc B1) 4 oQ aG aG hS3;rw [show ((4:Nat):Int)=4 from rfl]at hput;generalize hC:aj.crc B1=C at *
   have HC:=uQ hC;have pR:(C:Int)%18446744073709551616=(C:Int):=oQ;have rV:IntKind.u64.wrap (C:Int)=(C:Int):=pR;clear hC hcl;go_wp2_with fail;refine hsum.mono ?_;clear hsum;rintro ee w4 ⟨v,rfl,rfl,rfl⟩;go_wp2_with fail;refine hput.mono ?_;clear hput pR rV;rintro ee w4 ⟨v,rfl,hS4,a4,n4,c4,rfl⟩;clear hS3;go_wp2_with ((with_reducible refine fZ ⟨?_⟩);refine vg hS4 ay ay (Sat.rd (hS4.pick aT)) (by rw [aj.iE];have:=yS.o;omega) ?_;intro a5 n5 c5 w5 hS5);clear hS4
   go_ret2
   have hen:aj.encode e=(aj.le C 4++B1,0):=by unfold aj.encode;rw [abL (by rw [yU.o];simp),<-Fq.o,HC.o]
   exact ⟨_,rfl,.slice a5 n5 c5,by rw [hen];rfl,⟨_,_,_,rfl⟩,by rw [hen];exact hS5.sub (dA aK (lg (lg (lg iY))))⟩
theorem ald (e:aj.aJ) (hk:e.key.length=32) (da:Option Addr) (dc:Nat) (hd:Ro w0 F (aW 1 (.slice da e.data.length dc) (aB e.data))) (hT:e.tag=1) (hsz:e.data.length=0) (h:Sat w0 w F) :
  Calls prog 80 #[.agg (bV e (.slice da e.data.length dc))] w (aN λv w'=>∃ bv,v=.tuple #[bv,errno (aj.encode e).2]/\(∃ a n c,bv=.slice a n c)/\Sat w0 w' (aY bv (aj.encode e).1::F)):=by
 have Hk:=uQ hk;have Hd:=uQ hd;have hnk:=Gh e.key hk;have hks:(aB e.key).length=32:=by rw [aP,hk]
 have kX:=uQ hks;clear hd hks;go_enter func80,ntmps80;go_wp2_with (first|((with_reducible refine xQ ⟨?_⟩);refine yM aQ ah ?_;intro bX wX hX)|(with_reducible apply bC));refine ⟨?_⟩;have f0:=sV hX;have f33:=sW hk hX;have fk:=wG hk hX;have Fk:=uQ fk;clear h hk fk;rw [hT]at f0;have HT:=uQ hT;clear hT hnk;have h0i:decide (0<e.data.length)=false:=by rw [aeJ];omega
 have h0j:¬ 0<e.data.length:=oQ;have yU:=uQ (show aj.check e=0 by unfold aj.check;simp [HT.o,hsz]);have qC:=uQ (show e.data.length<=16384 by omega);have yT:Hid (∀ B0 N8,B0=([(1:UInt8)]++e.key)++e.data->B0.length+8=N8->aj.le N8 4++B0=aj.body e):=λB0 N8 h1 h2=>by
  have h3:aj.size e=41+e.data.length:=by unfold aj.size;rw [yU.o];simp [HT.o]
  have h4:N8=41+e.data.length:=by rw [<-h2,h1];simp [Hk.o];omega
  unfold aj.body;rw [h3,h4,h1,HT.o];simp
 have vw:=uQ (show ([(1:UInt8)]++e.key).length<=33 by simp [Hk.o]);have h1i:decide (16384<(e.data.length:Int))=false:=by rw [aeJ];omega
 clear hsz;go_wp2_with ((with_reducible refine jh ⟨?_⟩);refine jg (e:=5) (sz:=1) (dF:=1) au hX ah (cs:=#[.int .u8 1]) rfl rfl bG ?_;intro bN wN hN);have hS0:Sat w0 wN (aY (.slice (some ⟨bN,0,none⟩) 1 1) ([(1:UInt8)]++e.key.take 0)::pt bX (.cells (bV e (.slice da e.data.length dc)) 71 (0,0))::F):=by rw [afC];exact Sat.kU hN rfl (ab1 _) (ab1 _) aG rfl
 clear hX hN f0 f33;go_wp2_with fail
 go_loopg [4,5] 32 (λg bq iq wr=>∃ i:Nat,g=32-i/\i<=32/\iq=.int .i64 i/\Sat w0 wr (aY bq ([(1:UInt8)]++e.key.take i)::pt bX (.cells (bV e (.slice da e.data.length dc)) 71 (0,0))::F))
 case atStart=>exact ⟨0,rfl,by decide,rfl,hS0⟩
 case round=>
  obtain ⟨i,rfl,hi,rfl,hS⟩:=hrel;clear hS0;obtain ⟨ba,bn,bc,rfl,_⟩:=id (Sat.rd hS);have f0:=sV (hS.pick aT);rw [HT.o]at f0;by_cases hlt:i<32
  ·have c1:(i:Int)<32:=by omega
   have hwi:=qm (i:=i);obtain ⟨cc,hcc⟩:∃ cc,e.key[i]?=some cc:=⟨_,aaJ (by rw [Hk.o];exact hlt)⟩;have fk:=XU Hk.o hcc (hS.pick aT);have AQ:=uQ (show [(1:UInt8)]++e.key.take (i+1)=([(1:UInt8)]++e.key.take i)++[cc] by rw [aeN,hcc];simp);have hlen:(aB ([(1:UInt8)]++e.key.take i)).length<=2147483648:=by rw [aP,aa7,adt];simp;omega
   have aS:=uQ hlt;clear hcc hlt;have hSo:Sat w0 wr (aC 5 1 (.slice ba bn bc) (aB ([(1:UInt8)]++e.key.take i))::pt bX (.cells (bV e (.slice da e.data.length dc)) 71 (0,0))::F):=hS;generalize hB:[(1:UInt8)]++e.key.take i=B at *
   clear hS
   go_wp2_with (first
    |((with_reducible refine jh ⟨?_⟩);refine jg (e:=5) (sz:=1) (dF:=1) au hSo ah (cs:=#[.int .u8 cc.toNat]) rfl rfl bG ?_;intro bM wM hM)
    |((with_reducible refine fZ ⟨?_⟩);refine jF 5 1 1 au hM ah ah (aU aK) aK ah (ab1 1) ah hlen (by show 1<=65536;decide) aG ay ?_;intro bA nA cA wA hA))
   go_roundg (32-(i+1))
   case measure=>have:=aS.o;omega
   case rel=>
    refine ⟨i+1,rfl,ad8 aS.o,by first|rfl|go_num,?_⟩;rw [AQ.o];have e1:aB (B++[cc])=aB B++[Value.int .u8 cc.toNat]:=by unfold aB;rw [aef];rfl
    unfold aY;rw [e1];exact hA
  ·obtain rfl:i=32:=by omega
   have c1:¬ ((32:Nat):Int)<32:=by decide
   rw [adZ (by rw [Hk.o];exact ab1 _)]at hS;clear hlt hi;obtain ⟨R0,hR0⟩:∃ R0,R0=[(1:UInt8)]++e.key:=⟨_,rfl⟩;rw [<-hR0]at hS yT vw;clear hR0;have f33:=sW Hk.o (hS.pick aT);go_wp2_with ((with_reducible refine fZ ⟨?_⟩);refine vg hS ay ay (Hd.o _ hS.drop.drop) (by have:=vw.o;have:=qC.o;omega) ?_;intro a1 n1 c1 w1 hS1);clear f33 hS;have hb0:∃ B0,B0=R0++e.data:=⟨_,rfl⟩;obtain ⟨B0,hb0⟩:=hb0;rw [<-hb0]at hS1;have Hb0:=uQ hb0;have o7:=uQ (show B0.length<=16417 by rw [hb0,aa7];have:=vw.o;have:=qC.o;omega);clear hb0;obtain ⟨a1',c1',hv1,_⟩:=O7 hS1;cases hv1;have hput:=EF (B0.length+8) 4 (by have:=o7.o;omega) aG aG hS1;have hw8:IntKind.i64.wrap ((B0.length:Int)+8)=((B0.length+8:Nat):Int):=by have:=o7.o;exact acO _ oQ
   have pR:((B0.length+8:Nat):Int)%18446744073709551616=((B0.length+8:Nat):Int):=by have:=o7.o;omega
   have zF:wrap64 ((B0.length:Int)+8)=((B0.length+8:Nat):Int):=by rw [<-IntWalk.i64_left];exact hw8
   have rV:IntKind.u64.wrap ((B0.length+8:Nat):Int)=((B0.length+8:Nat):Int):=pR;rw [show ((4:Nat):Int)=4 from rfl]at hput;generalize zA:B0.length+8=N8 at *
   have Fg:=uQ zA;clear zA;go_wp2_with fail;simp only [zF,rV];refine hput.mono ?_;clear hput hw8 pR zF rV;rintro ee w2 ⟨v,rfl,hS2,a2,n2,c2,rfl⟩;clear hS1;go_wp2_with ((with_reducible refine fZ ⟨?_⟩);refine vg hS2 ay ay (Sat.rd (hS2.pick aT)) (by rw [aj.iE];have:=o7.o;omega) ?_;intro a3 n3 c3 w3 hS3);clear hS2;obtain ⟨B1,hb1⟩:∃ B1,B1=aj.le N8 4++B0:=⟨_,rfl⟩;rw [<-hb1]at hS3;have yS:=uQ (show B1.length<=16421 by rw [hb1,aa7,aj.iE];have:=o7.o;omega);have Fq:=uQ (show B1=aj.body e by rw [hb1];exact yT.o B0 N8 Hb0.o Fg.o);clear hb1;have hsum:=TI B1 (Sat.rd hS3) (by have:=yS.o;omega);have hcl:=aj.D5 B1;have hput:=EF (aj.crc B1) 4 oQ aG aG hS3;rw [show ((4:Nat):Int)=4 from rfl]at hput;generalize hC:aj.crc B1=C at *
   have HC:=uQ hC;have pR:(C:Int)%18446744073709551616=(C:Int):=oQ;have rV:IntKind.u64.wrap (C:Int)=(C:Int):=pR;clear hC hcl;go_wp2_with fail;refine hsum.mono ?_;clear hsum;rintro ee w4 ⟨v,rfl,rfl,rfl⟩;go_wp2_with fail;refine hput.mono ?_;clear hput pR rV;rintro ee w4 ⟨v,rfl,hS4,a4,n4,c4,rfl⟩;clear hS3;go_wp2_with ((with_reducible refine fZ ⟨?_⟩);refine vg hS4 ay ay (Sat.rd (hS4.pick aT)) (by rw [aj.iE];have:=yS.o;omega) ?_;intro a5 n5 c5 w5 hS5);clear hS4
   go_ret2
   have hen:aj.encode e=(aj.le C 4++B1,0):=by unfold aj.encode;rw [abL (by rw [yU.o];simp),<-Fq.o,HC.o]
   exact ⟨_,rfl,.slice a5 n5 c5,by rw [hen];rfl,⟨_,_,_,rfl⟩,by rw [hen];exact hS5.sub (dA aK (lg (lg (lg iY))))⟩
theorem alf (e:aj.aJ) (hk:e.key.length=32) (da:Option Addr) (dc:Nat) (hd:Ro w0 F (aW 1 (.slice da e.data.length dc) (aB e.data)))  (h:Sat w0 w F) :
  Calls prog 80 #[.agg (bV e (.slice da e.data.length dc))] w (aN λv w'=>∃ bv,v=.tuple #[bv,errno (aj.encode e).2]/\(∃ a n c,bv=.slice a n c)/\Sat w0 w' (aY bv (aj.encode e).1::F)):=by
 have hbad:∀ n,aj.check e=n->n≠0->aj.encode e=([],n):=λn hn h0=>by unfold aj.encode;rw [hn,adU h0]
 have nV:=uQ hbad;clear hbad;by_cases t2:e.tag=2
 ·by_cases h0:0<e.data.length
  ·have Hf:=uQ (nV.o 4 (by unfold aj.check;simp [t2,h0]) aG);have h0i:(0:Int)<(e.data.length:Int):=oQ;have Hk:=uQ hk;clear hd hk;go_enter func80,ntmps80;go_wp2_with (first|((with_reducible refine xQ ⟨?_⟩);refine yM aQ ah ?_;intro bX wX hX)|(with_reducible apply bC));refine ⟨?_⟩;have f0:=sV hX;have f33:=sW Hk.o hX;have fk:=wG Hk.o hX;have Fk:=uQ fk;clear h fk;rw [t2]at f0;go_wp2
   go_ret2
   exact ⟨_,rfl,.slice none 0 0,by rw [Hf.o];rfl,⟨_,_,_,rfl⟩,by rw [Hf.o];exact Sat.dO.2 hX.drop⟩
  ·have Ec:e.data.length=0:=by omega
   by_cases hz:e.key=aj.zero32
   ·exact ale e hk da dc hd t2 hz Ec h
   ·have hzd:decide (e.key=aj.zero32)=false:=aea hz;have h0i:decide (0<e.data.length)=false:=aea h0;have Hf:=uQ (nV.o 4 (by unfold aj.check;simp [t2,hz]) aG);have hnk:=Gh e.key hk;have kX:=uQ (show (aB e.key).length=32 by rw [aP,hk]);have Hk:=uQ hk;clear hz Ec hd hk;go_enter func80,ntmps80;go_wp2_with (first|((with_reducible refine xQ ⟨?_⟩);refine yM aQ ah ?_;intro bX wX hX)|(with_reducible apply bC));refine ⟨?_⟩;have f0:=sV hX;have f33:=sW Hk.o hX;have fk:=wG Hk.o hX;have Fk:=uQ fk;clear h fk;rw [t2]at f0;go_wp2_with ((with_reducible refine WB ⟨?_⟩);refine adA (b:=bX) (o:=1) (aB e.key) ah ah Fk.o underlying34 rfl yJ0 ?_)
    go_ret2
    exact ⟨_,rfl,.slice none 0 0,by rw [Hf.o];rfl,⟨_,_,_,rfl⟩,by rw [Hf.o];exact Sat.dO.2 hX.drop⟩
 ·have t2b:(e.tag==2)=false:=by simpa using t2
  have Hk:=uQ hk;by_cases t0:e.tag=0
  ·by_cases hb:16384<e.data.length
   ·have Hf:=uQ (nV.o 5 (by unfold aj.check;simp [t0,hb]) aG);have hbi:(16384:Int)<(e.data.length:Int):=oQ;clear hb t2 t2b hd hk;go_enter func80,ntmps80;go_wp2_with (first|((with_reducible refine xQ ⟨?_⟩);refine yM aQ ah ?_;intro bX wX hX)|(with_reducible apply bC));refine ⟨?_⟩;have f0:=sV hX;have f33:=sW Hk.o hX;have fk:=wG Hk.o hX;have Fk:=uQ fk;clear h fk;rw [t0]at f0;clear t0;go_wp2
    go_ret2
    exact ⟨_,rfl,.slice none 0 0,by rw [Hf.o];rfl,⟨_,_,_,rfl⟩,by rw [Hf.o];exact Sat.dO.2 hX.drop⟩
   ·exact alc e hk da dc hd t0 hb h
  ·by_cases t1:e.tag=1
   ·by_cases h0:0<e.data.length
    ·have Hf:=uQ (nV.o 4 (by unfold aj.check;simp [t1,h0]) aG);have h0i:(0:Int)<(e.data.length:Int):=oQ;clear t2 t2b t0 hd hk;go_enter func80,ntmps80;go_wp2_with (first|((with_reducible refine xQ ⟨?_⟩);refine yM aQ ah ?_;intro bX wX hX)|(with_reducible apply bC));refine ⟨?_⟩;have f0:=sV hX;have f33:=sW Hk.o hX;have fk:=wG Hk.o hX;have Fk:=uQ fk;clear h fk;rw [t1]at f0;clear t1;go_wp2
     go_ret2
     exact ⟨_,rfl,.slice none 0 0,by rw [Hf.o];rfl,⟨_,_,_,rfl⟩,by rw [Hf.o];exact Sat.dO.2 hX.drop⟩
    ·exact ald e hk da dc hd t1 oQ h
   ·have Hf:=uQ (nV.o 4 (by unfold aj.check;simp [t0,t1,t2]) aG);by_cases hneg:e.tag<0
    ·have g1:decide (e.tag<0)=true:=aem hneg;clear t0 t1 t2 t2b hd hk;go_enter func80,ntmps80;go_wp2_with (first|((with_reducible refine xQ ⟨?_⟩);refine yM aQ ah ?_;intro bX wX hX)|(with_reducible apply bC));refine ⟨?_⟩;have f0:=sV hX;have f33:=sW Hk.o hX;have fk:=wG Hk.o hX;have Fk:=uQ fk;clear h fk;generalize e.tag=T at *
     go_wp2
     go_ret2
     exact ⟨_,rfl,.slice none 0 0,by rw [Hf.o];rfl,⟨_,_,_,rfl⟩,by rw [Hf.o];exact Sat.dO.2 hX.drop⟩
    ·have g1:decide (e.tag<0)=false:=aea hneg;have g2:decide (2<e.tag)=true:=aem oQ;have g2':2<e.tag:=oQ;clear t0 t1 t2 t2b hd hk;go_enter func80,ntmps80;go_wp2_with (first|((with_reducible refine xQ ⟨?_⟩);refine yM aQ ah ?_;intro bX wX hX)|(with_reducible apply bC));refine ⟨?_⟩;have f0:=sV hX;have f33:=sW Hk.o hX;have fk:=wG Hk.o hX;have Fk:=uQ fk;clear h fk;generalize e.tag=T at *
     go_wp2
     go_ret2
     exact ⟨_,rfl,.slice none 0 0,by rw [Hf.o];rfl,⟨_,_,_,rfl⟩,by rw [Hf.o];exact Sat.dO.2 hX.drop⟩
section
variable {D:ak}
theorem Ls (s:ByteArray) (b:Bs) (hb:Ro w0 F (aW 1 bv (aB b))) (hbl:b.length<=1048576) (ok:D.Ok K) (hK:K<=1048576) (hus:D.used<=1099511627776) (h:Sat w0 w (fH d D::F)) :
  Calls prog 39 #[ptr d,.string s,.agg #[.bool false,.int .i64 0,bv]] w (aN λv w'=>v=errno (D.append s b).2/\Sat w0 w' (fH d (D.append s b).1::F)):=by
 have Ok:=uQ ok;have uy:=uQ hus;have Hb:=uQ hb;have uh:=uQ hbl;have HK:=uQ hK;have hl:D.now.length<=1048576:=adT ok.fU.len aG;have Hl:=uQ hl;obtain ⟨ba,bn,bc,rfl,hbn,_⟩:=id (hb _ h.drop);rw [aP,aeo]at hbn;subst hbn;clear hb hbl hK hus ok hl;go_enter func39,ntmps39;go_wp2_with (first|((with_reducible refine fC ⟨?_⟩);refine fB aQ ay ay ?_;intro bB wB hB)|(with_reducible apply bC));refine ⟨?_⟩;have hO:=hB.sub (dA aT (dA aK iY));have hfd:=abE s Hl.o hO;obtain ⟨gV,fv,nv,wv,xs,g,hin,hR⟩:=fH.open hO;have aA:=uQ hin;have e7:World.cell? _ ⟨d,7,none⟩=some (.bool D.off):=hR.cellP aK 7 rfl;clear h hin hO;cases ho:D.off with
 |true=>
  have Ha:=uQ (show D.append s b=(D,12) by unfold ak.append;rw [ho];rfl);rw [ho]at e7;clear ho hfd;go_wp2;go_ret;exact ⟨_,rfl,by rw [Ha.o];rfl,by rw [Ha.o];exact (fH.shut aA.o hR).sub (dA aK (lg iY))⟩
 |false=>
  rw [ho]at e7;have Ho:=uQ (show ¬ (D.off=true) by rw [ho];decide);clear ho;cases hg:bH D.now s with
  |none=>
   have Ha:=uQ (show D.append s b=(D,9) by unfold ak.append;rw [abL Ho.o,hg]);have hwh:D.which s = -1:=by unfold ak.which;rw [hg]
   rw [hwh]at hfd;clear hg hwh;go_wp2_with fail;refine hfd.mono ?_;rintro ee w1 ⟨v,rfl,rfl,rfl⟩;clear hfd;go_wp2;go_ret;exact ⟨_,rfl,by rw [Ha.o];rfl,by rw [Ha.o];exact (fH.shut aA.o hR).sub (dA aK (lg iY))⟩
  |some i=>
   have hwh:D.which s=(i:Int):=by unfold ak.which;rw [hg]
   rw [hwh]at hfd;have c1:¬ (i:Int)<0:=oQ;have hif:i<D.files.length:=Ok.o.fU.ids _ (ji hg);have Hif:=uQ hif;have Hg:=uQ hg;have hroom:=Ok.o.room;have hus:=uy.o;have hbl:=uh.o;clear hg hwh hif;go_wp2_with fail;refine hfd.mono ?_;rintro ee w1 ⟨v,rfl,rfl,rfl⟩;clear hfd e7;go_wp2_with fail;have f0:World.cell? (World.drew _) ⟨bB,0,none⟩=some (.bool false):=hB.drew.cellP aK 0 rfl
   go_region
   clear f0;have hBd:=hB.drew.drew;clear hB hR;have Qi:=hBd.sub (dA aT (dA aK iY));have huc:=amk Hl.o uy.o Ok.o.fU.ids Qi;obtain ⟨gV,fv,nv,wv,xs,g,hin,hR⟩:=fH.open Qi;clear Qi;go_wp2_with fail;refine eF [14,15] (λw'=>w'.cell? ⟨bB,0,none⟩=some (.bool false)/\w'.cell? ⟨bB,2,none⟩=some (.slice ba b.length bc)/\w'.cell? ⟨d,0,none⟩=some (.int .i64 D.room)) au ?_;have hG:World.cell? _ ⟨bB,0,none⟩=some (.bool false)/\World.cell? _ ⟨bB,2,none⟩=some (.slice ba b.length bc)/\World.cell? _ ⟨d,0,none⟩=some (.int .i64 D.room):=⟨hBd.cellP aK 0 rfl,hBd.cellP aK 2 rfl,hR.cellP aK 0 rfl⟩;refine rP 0 ?_ (y:=dh);refine rt 1 (h:=?_);refine rP 2 ?_ (y:=(EY ay bY));refine rP 3 ?_ (y:=bD);refine rP 4 ?_ (y:=(ng ah ay bY));refine gJ 5 ay au bP (mX ah ay au yC0) aQ gQ ?_;refine rP 6 ?_ (y:=(aoi ah ay bY));refine rP 7 ?_ (y:=(iI ah ay))
   refine rP 8 ?_ (y:=(adL ah ay));refine rP 9 ?_ (y:=(ng ah ay bY));refine gJ 10 ay au bP (mX ah ay au yC0) aQ gQ ?_;refine rP 11 ?_ (y:=(iI ah ay));refine cZ 12 ay au (λK hK=>?_);refine F9 [ptr d] ah au ah ?_;refine huc.mono ?_;clear huc hR hG hin gV fv nv wv xs g;rintro e w4 ⟨v,rfl,rfl,hS⟩;obtain ⟨gV,fv,nv,wv,xs,g,hin,hR⟩:=fH.open hS;have Fz:=uQ hin;have hst:=ab2 hR Ok.o.left;have hw3:IntKind.i64.wrap ((D.room:Int)-(D.used:Int))=(D.room:Int)-(D.used:Int):=acO _ oQ;refine hK _ _ (.inr (.inl ⟨hS.cellP aT 0 rfl,hS.cellP aT 2 rfl,hR.cellP aK 0 rfl⟩)) ?_;clear hK hin hBd;by_cases Ei:(D.room:Int)-D.used<b.length
   ·have Ha:=uQ (show D.append s b=(D,11) by unfold ak.append;rw [abL Ho.o,Hg.o];simp only [];rw [adU Ei]);clear hst;refine rP 13 ?_ (y:=(qy ah ay ay bY));refine rP 14 ?_ (y:=(qy ah ay ay bY));refine rP 15 ?_ (y:=(ny ah ay ay));refine dX au ?_
    try simp only [jI]
    try go_frame
    go_wp2;go_ret;exact ⟨_,rfl,by rw [Ha.o];rfl,by rw [Ha.o];exact hS.sub (dA aK (lg iY))⟩
   ·have hstep:∀ X:ak×Int,(if D.step.2=false then (D.step.1,12) else (D.step.1.eP i ((D.file i).do ⟨false,0,b⟩),0))=X->D.append s b=X:=by
     rintro X rfl;unfold ak.append;rw [abL Ho.o,Hg.o];simp only [];rw [abL Ei]
    have DU:=uQ hstep;clear hstep;refine rP 13 ?_ (y:=(qy ah ay ay bY));refine rP 14 ?_ (y:=(qy ah ay ay bY));refine rP 15 ?_ (y:=(ny ah ay ay));refine dX au ?_
    try simp only [jI]
    try go_frame
    go_wp2_with fail;refine hst.mono ?_;clear hst hS hR hw3;rintro ee w5 ⟨v,rfl,rfl,hS⟩;rw [<-MC]at hS;have Au:=uQ Fz.o.step;cases ht:D.step.2 with
    |false=>
     have Ha:=uQ (DU.o _ (adU ht));clear ht;go_wp2;go_ret;exact ⟨_,rfl,by rw [Ha.o];rfl,by rw [Ha.o];exact (fH.shut Au.o hS).sub (dA aK (lg iY))⟩
    |true=>
     have Ha:=uQ (DU.o _ (abL (by rw [ht];decide)));have x9:D.file i=D.step.1.file i:=(amV D i).symm;rw [x9]at Ha;have kE:=uQ (show i<D.step.1.files.length by rw [MB];exact Hif.o);have Ok1:=uQ Ok.o.step;clear ht x9 Ei DU hus hroom;generalize D.step.1=D1 at *
     obtain ⟨x,hx,yh⟩:=Au.o.file kE.o;rw [<-yh]at Ha;have hok:=Au.o.ok x (acr hx);have hxo:=Ok1.o.file i;rw [<-yh]at hxo;have hnl:=adT hxo.uT (show 16777216<=1099511627776 by decide);have hwb:x.ws.length<=1048576:=by rw [<-abl (f:=λp:gX×Value=>p.1),hok];exact adT hxo.budget HK.o
     have hlx:xs.length=D1.files.length:=by rw [<-Au.o.files,abl]
     rcases Sat.kL (hS.pick aT) with ⟨_,hxx,_⟩|⟨fb,fn,fc,cs,rfl,hfn,_⟩
     ·have h1:=aeO List.length hxx;have h2:=kE.o;rw [yJ]at h1;simp only [ae0]at h1;omega
     rw [yJ]at hfn;obtain rfl:fn=xs.length:=by omega
     have c2:(i:Int)<(xs.length:Int):=by have:=kE.o;omega
     have hq:i*3+2<(iR xs).length:=by have:=kE.o;rw [yJ];omega
     have hq1:∀ xs':List RF,xs'.length=xs.length->i*3+1<(iR xs').length:=λxs' e=>by have:=kE.o;rw [yJ,e];omega
     obtain ⟨G,YH,hO⟩:=abD hx (hS.pick fE);obtain ⟨_,_,hw2⟩:=S9 hx;have e2:=(akh (hS.pick aT) (i*3+2) (.slice none 0 0)).2.1 _ hw2;obtain ⟨xf,I4,U3,xwv,xu⟩:=x;dsimp only at hxo hok hwb hO e2 hnl;obtain ⟨wa,wc,rfl⟩:=af2 (Sat.rd (hO.pick fE));have e1:World.cell? _ ⟨d,1,none⟩=some (.slice (some ⟨fb,0,none⟩) xs.length fc):=hO.cellP Sz 1 rfl;have Hx:=uQ hx;have Hxf:=uQ yh;have bI:=uQ hok;have HGx:=uQ YH;have Hnl:=uQ hnl;have Hxn:=uQ hxo.uT;have hlen:(xu.flatMap mO).length<=2147483648:=by rw [W9];omega
     clear hx yh hok YH hw2 hxo hnl hwb hlx hS hfn;go_wp2_with fail;have hO2:=hO.drew;clear hO e1 e2;refine eF [16,17,18] (λw'=>w'.cell? ⟨d,1,none⟩=some (.slice (some ⟨fb,0,none⟩) xs.length fc)/\w'.cell? ⟨bB,0,none⟩=some (.bool false)/\w'.cell? ⟨bB,1,none⟩=some (.int .i64 0)/\w'.cell? ⟨bB,2,none⟩=some (.slice ba b.length bc)) au ?_;have hG:World.cell? _ ⟨d,1,none⟩=some (.slice (some ⟨fb,0,none⟩) xs.length fc)/\World.cell? _ ⟨bB,0,none⟩=some (.bool false)/\World.cell? _ ⟨bB,1,none⟩=some (.int .i64 0)/\World.cell? _ ⟨bB,2,none⟩=some (.slice ba b.length bc):=⟨hO2.cellP Sz 1 rfl,hO2.cellP Lp 0 rfl,hO2.cellP Lp 1 rfl,hO2.cellP Lp 2 rfl⟩;refine rP 0 ?_ (y:=bD);refine rP 1 ?_ (y:=iG);refine rP 2 ?_ (y:=dh);refine rt 3 (h:=?_);refine rP 4 ?_ (y:=bD);refine rP 5 ?_ (y:=bD);refine rP 6 ?_ (y:=dh);refine rt 7 (h:=?_);refine rP 8 ?_ (y:=dh)
     refine rt 9 (h:=?_);refine rP 10 ?_ (y:=dh);refine rt 11 (h:=?_);refine cZ 12 ay au (λK hK=>?_);refine uJ au ay ?_;refine (Pj hO2 b (Hb.o _ (hO2.sb)) oQ).mono ?_;rintro e w6 ⟨v,rfl,hS6,a6,n6,c6,rfl⟩;refine hK _ _ (.inr (.inl ⟨hS6.cellP Lm 1 rfl,hS6.cellP yE 0 rfl,hS6.cellP yE 1 rfl,hS6.cellP yE 2 rfl⟩)) ?_;clear hK hG hO2;refine rp 13 (hy:=yE0) (h:=?_);refine cZ 14 ay au (λK hK=>?_);refine JJ (e:=93) (sz:=3) (dF:=40) au hS6 ay (cs:=#[.bool false,.int .i64 0,.slice a6 n6 c6]) rfl rfl bG ?_;intro bN w7 hS7;refine hK _ _ (.inr (.inl ⟨hS7.cellP (aU Lm) 1 rfl,hS7.cellP (aU yE) 0 rfl,hS7.cellP (aU yE) 1 rfl,hS7.cellP (aU yE) 2 rfl⟩)) ?_;clear hK hS6;refine cZ 15 ay au (λK hK=>?_);refine JI 93 3 40 au hS7 ay ay rW aK ah (ab1 1) ah hlen (by show 3<=65536;decide) aG rfl ?_;intro bA nA cA w8 kJ
     refine hK _ _ (.inr (.inl ⟨kJ.cellP Lm 1 rfl,kJ.cellP yE 0 rfl,kJ.cellP yE 1 rfl,kJ.cellP yE 2 rfl⟩)) ?_;clear hK hS7;refine rP 16 ?_ (y:=iV);refine rP 17 ?_ (y:=dh);refine cZ 18 ay au (λK hK=>?_);refine agN (b:=fb) (i*3+2) kJ ay ay gZ hq au rfl rfl ?_;intro w9 iU;refine hK _ _ (.inl rfl) ?_;refine dX au ?_;have ew:xu.flatMap mO++#[Value.bool false,Value.int .i64 0,.slice a6 n6 c6].toList=(xu++[((⟨false,0,b⟩:gX),Value.slice a6 n6 c6)]).flatMap mO:=af4 xu (⟨false,0,b⟩,.slice a6 n6 c6);rw [ew]at iU
     have hx2:(iR xs).set (i*3+2) (.slice (some ⟨bA,0,none⟩) nA cA)=iR (xs.set i ⟨⟨xf.fast,xf.now,xf.waits++[⟨false,0,b⟩]⟩,I4,U3,.slice (some ⟨bA,0,none⟩) nA cA,xu++[(⟨false,0,b⟩,.slice a6 n6 c6)]⟩):=
      (abJ xs i _ _ Hx.o).trans (abG _ _ _ _ _ _ _ xs i)
     rw [hx2]at iU;clear hx2 ew kJ hq;have hx2:∃ x2:RF,x2=⟨⟨xf.fast,xf.now,xf.waits++[⟨false,0,b⟩]⟩,I4,U3,.slice (some ⟨bA,0,none⟩) nA cA,xu++[(⟨false,0,b⟩,.slice a6 n6 c6)]⟩:=⟨_,rfl⟩;obtain ⟨x2,hx2⟩:=hx2;have hA1:=af8 (p:=((⟨false,0,b⟩:gX),Value.slice a6 n6 c6)) (iU.sub (dA aT (dA iw iY)));have hA2:=abC (x:=⟨⟨xf.fast,xf.now,xf.waits++[⟨false,0,b⟩]⟩,I4,U3,.slice (some ⟨bA,0,none⟩) nA cA,xu++[(⟨false,0,b⟩,.slice a6 n6 c6)]⟩) HGx.o (hA1.sub (dA fE (dA fE (dA aT (dA aK iY)))));rw [<-hx2]at hA2;have hok2:x2.ws.map (·.1)=x2.f.waits:=by rw [hx2];simp [bI.o]
     have YX:=Au.o.set (i:=i) (x':=x2) hok2;have e4:(D1.eP i x2.f).file i=x2.f:=by rw [zx kE.o,adU rfl]
     have e5:x2.f.now=xf.now:=by rw [hx2]
     have hh:=alo (D:=D1.eP i x2.f) i (by unfold ak.eP;rw [ahu];exact kE.o) YX (by rw [e4,e5];exact Hnl.o) (hA2.sub (dA aT (dA aT (dA aK iY))));rw [e4,e5]at hh;have Jr:=uQ hx2;have nZ:=uQ hok2;have Zr:(xs.set i x2)[i]?=some x2:=by rw [apv (by rw [<-abl (f:=λr:RF=>r.f),Au.o.files];exact kE.o)]
     have aeY:=uQ Zr;clear hx2 hok2 YX e4 e5 iU hA1 hA2 Zr;clear hK;go_wp2_with fail;refine hh.mono ?_;clear hh;rintro ee w10 ⟨v,rfl,dG,a7,n7,c7,rfl⟩
     go_wp2_with (first
      |((with_reducible refine bC ⟨?_⟩);refine eY aQ ah bK bG ay au ?_)
      |((with_reducible refine fZ ⟨?_⟩);refine vg dG ay ay (Hb.o _ (dG.sb)) (by have:=Hnl.o;have:=Hxn.o;omega) ?_;intro a8 n8 c8 jZ pO)
      |((with_reducible refine bW ⟨?_⟩);refine an8 (b:=fb) (i*3+1) pO ah ay gZ (hq1 _ (ahu ..)) au rfl rfl ?_;intro w12 kH))
     clear dG pO;go_wp2;go_ret;refine ⟨_,rfl,by rw [Ha.o];rfl,?_⟩;rw [Ha.o];have YE:=aeY.o;have hx2:=Jr.o;subst hx2;rw [abH _ i _ _ YE,List.set_set]at kH;obtain ⟨G2,hG2,hO3⟩:=abD YE (kH.pick iw);have h3:=abC (x:=⟨xf.do ⟨false,0,b⟩,I4,.slice a8 n8 c8,.slice (some ⟨bA,0,none⟩) nA cA,xu++[(⟨false,0,b⟩,.slice a6 n6 c6)]⟩) hG2 (hO3.sub (dA aK (dA rW (dA aT (dA aT (dA aT (lg iY)))))));rw [List.set_set]at h3;rw [abG _ (xf.do ⟨false,0,b⟩) _ _ _ _ (xu++[(⟨false,0,b⟩,.slice a6 n6 c6)]) xs i]at h3;refine (fH.shut (D:=D1.eP i (xf.do ⟨false,0,b⟩)) (Au.o.set (x':=⟨xf.do ⟨false,0,b⟩,I4,.slice a8 n8 c8,.slice (some ⟨bA,0,none⟩) nA cA,xu++[(⟨false,0,b⟩,.slice a6 n6 c6)]⟩) nZ.o) (h3.sub (dA aT (dA aT (dA aK iY))))).sub (dA aK (lg iY))
end
section
variable {o:Nat}{t T:TypeId}{pos:String}{K:Act->World->Prop}
theorem zn (hz:kD P ty=some v) (hs:Sat w0 w L) (hcs:v.cells=cs)
  (hK:∀ b w',Sat w0 w' (pt b (.cells cs ty (0,0))::L)->K (a.put dst (.pointer (some ⟨b,0,none⟩))) w') :
  if Region.wanted ⟨dst,.alloc ty,t,pos,after,none⟩ (yielded ops a.tmps)=true then Oper.wp P ⟨dst,.alloc ty,t,pos,after,none⟩ a w K Q else E:=by
 subst hcs;refine BD rfl ?_;have hS:=hs.alloc (.cells v.cells ty);unfold Oper.wp execOp;have hrun:(Instr.alloc ty true (.tuple #[])).run P w=.ok (.pointer (some ⟨w.heap.size,0,none⟩)) (w.alloc (.cells v.cells ty)):=by
  simp [Instr.alloc,LZ hz w,newVar,newRow,go_sem,Result.andThen]
 simp only [aed,aep,hrun,adW];exact hK _ _ hS
end
section
variable {D:ak}{x:RF}
section
variable {o:Nat}{t ty:Nat}{pos:String}
end
end
section
variable {t e:TypeId}{pos:String}{dF:Nat}
theorem adx (e:TypeId) (sz dF:Nat){xs ys:List Value} (hb:qJ P ty e sz dF=true) (hs:Sat w0 w L) (hv:a.eval s=v) (hy:a.eval y=v1) (p:Pick (aC e sz v xs) L R) (hrd:aW sz v1 ys w) (h1:∀ u∈ys,u.oneCell'=true)
  (h63:xs.length+ys.length<=2147483648) (hby:dF<=65000)
  (hK:∀ v' w',Sat w0 w' (aC e sz v' (xs++ys)::R)->wpList P ops Q rest (a.put dst v') w') :
  wpList P ops Q (⟨dst,.call { callee:= .builtin .append,args:=#[s,y],argTypes:=#[ty,ty] },t,pos,after,none⟩::rest) a w:=by
 obtain ⟨hu,i,z,hi,hz,e1,e2,e3,e4⟩:=yZ hb;subst e2;refine Ah (w0:=w0) rfl s y ty rfl e i z hu hi hz e1 e3 e4 hv hy h1 (hs.pick p) hrd zG0 ?_ λv' w' hS _=>hK v' w' hS
 calc (xs.length+ys.length)*i.bytes<=2147483648*65000:=apu h63 hby
  _<=140737488355328:=by decide
end
section
variable {e:TypeId}{t:Nat}{pos:String}{x:Value}{xs ys:List Value}{K:Act->World->Prop}
end
end Go.Proofs.Y
namespace Go.Seg
open Go.ak
section
variable {φ:Nat->Nat}{V:Nat->Prop}{M D:ak}{K:Nat}{L:Log}
end
section
variable {i:Nat}{M D:ak}{L:Log}
end
end Go.Seg
namespace Go.ak
def qB (c:Nat) (f:aX):Prop:=∀ k,k<=f.waits.length->(f.at k).length<=c
section
variable {c c' K:Nat}{f:aX}{M:ak}
theorem qB.mono (h:qB c f) (hc:c<=c'):qB c' f:=λk hk=>adT (h k hk) hc
theorem qB.new (c:Nat):qB c aX.new:=λk _=>by simp [aX.new,aX.at]
theorem qB.now (h:qB c f) (ok:f.Ok K):f.now.length<=c:=by rw [ok.now];exact h _ (ab1 _)
theorem qB.put (h:qB c f) (ok:f.Ok K) (b:Bs):qB (c+b.length) (f.do ⟨false,0,b⟩):=λk hk=>by
 have hw:(f.do ⟨false,0,b⟩).waits.length=f.waits.length+1:=by simp [aX.do]
 rw [hw]at hk;rcases aiN k (f.waits.length+1) with hlt|hge
 ·rw [f.FY _ k oQ];have:=h k oQ;omega
 ·obtain rfl:k=f.waits.length+1:=by omega
  rw [f.OT _ ok.now];unfold gX.on;simp only [aip,ao7,aa7];have:=h.now ok;omega
def ak.Cap (c:Nat) (M:ak):Prop:=∀ f∈M.files,qB c f
theorem ak.Cap.mono (h:M.Cap c) (hc:c<=c'):M.Cap c':=λf hf=>(h f hf).mono hc
theorem ak.Cap.like {M':ak} (h:M.Cap c) (e:M'.files=M.files):M'.Cap c:=λf hf=>h f (e ▸ hf)
theorem ak.Cap.file (h:M.Cap c) (i:Nat):qB c (M.file i):=by
 unfold ak.file;rcases aiN i M.files.length with hi|hi
 ·rw [adV,aaJ hi];exact h _ (apn hi)
 ·rw [adV,aiT hi];exact qB.new c
theorem ak.Cap.new (c room:Nat):(ak.new room).Cap c:=λf hf=>by cases hf
theorem ak.Cap.step (h:M.Cap c):M.step.1.Cap c:=h.like M.jf.2.2.2.1
theorem ak.Cap.set (h:M.Cap c) (i:Nat) (hf:qB c f):(M.eP i f).Cap c:=λg hg=>by
 rcases ajr hg with hg|rfl
 ·exact h g hg
 ·exact hf
theorem ak.Cap.create (h:M.Cap c) (s:ByteArray):(M.create s).1.Cap c:=by
 unfold ak.create;split;· exact h
 split;· exact h
 split;· exact h
 split;· exact h
 split;· exact h.step
 intro f hf;rcases aeQ.1 hf with hf|hf
 ·exact h f hf
 ·rw [aeG.1 hf];exact qB.new c
theorem ak.Cap.append (h:M.Cap c) (ok:M.Ok K) (s:ByteArray) (b:Bs):(M.append s b).1.Cap (c+b.length):=by
 have h':M.Cap (c+b.length):=h.mono (apB _ _);unfold ak.append;split;· exact h'
 split;· exact h'
 split;· exact h'
 split;· exact h'.step
 exact h'.step.set _ ((h.file _).put (ok.file _) b)
end
end Go.ak
namespace Go.Seg
open Go.ak
section
variable {c c' K n:Nat}{L:Log}{M:ak}
end
def Log.drop (t:List Int):Nat->Log->ak->(Log×ak)×Int
 |0,L,M=>if t=[] then ((L,M),0) else ((L,M.dH.1),M.dH.2)
 |k+1,L,M=>if (L.remove M (t.getD k 0)).2=0 then Log.drop t k (L.remove M (t.getD k 0)).1.1 (L.remove M (t.getD k 0)).1.2 else L.remove M (t.getD k 0)
section
variable {t:List Int}{L:Log}{M D:ak}{K i:Nat}
theorem drop_nil (h:t=[]):Log.drop t 0 L M=((L,M),0):=by unfold Log.drop;rw [adU h]
theorem drop_end (h:t≠[]):Log.drop t 0 L M=((L,M.dH.1),M.dH.2):=by unfold Log.drop;rw [abL h]
theorem agI {k:Nat} (h:(L.remove M (t.getD k 0)).2=0):Log.drop t (k+1) L M=Log.drop t k (L.remove M (t.getD k 0)).1.1 (L.remove M (t.getD k 0)).1.2:=by
 conv=>lhs;unfold Log.drop
 rw [adU h]
theorem agJ {k:Nat} (h:(L.remove M (t.getD k 0)).2≠0):Log.drop t (k+1) L M=L.remove M (t.getD k 0):=by
 conv=>lhs;unfold Log.drop
 rw [abL h]
theorem abt (h:M.Ok K) (n:Int):(L.remove M n).1.2.Ok (K+1):=by
 unfold Log.remove;cases L.at n with
 |none=>exact h.mono (aiL K)
 |some i=>simp only;split <;> exact h.remove _
end
end Go.Seg
namespace Go.Proofs.Y
open Go.ak
def AZ (w0:World) (F:List aF) (bt:Rep.Told) (ns:List Int) (p m:Nat) (L:Seg.Log) (M:ak) (v:Value) (w':World):Prop:=
 match Rep.run bt ns with
 |.inl (fl,e)=>v=.tuple #[.pointer none,.agg (dW fl),errno e]/\Sat w0 w' (aV p m L::aI m M::F)
 |.inr n=>∃ (ps pi:Nat) (uv tv av:Value) (kv:List (aj.Bs×Rep.dU)),v=.tuple #[ptr ps,.agg (dW Rep.dI.zero),errno 0] /\
   (Tab.Lists (Rep.ledger (Rep.rowsOf bt (ns.take n))) kv/\(∀ q∈kv,q.1.length=32)/\kv.length<=(Rep.rowsOf bt (ns.take n)).length) /\
   ((∃ a' c',tv=.slice a' (ns.length-n) c')/\∀ W,aW 1 av (ints ns) W->aW 1 tv (ints (ns.drop n)) W) /\
   Sat w0 w' (bZ ps (Rep.qO (ns.take n)) pi uv tv::bf pi (Tab.mapOf (Rep.puts kv)) kv.length::aC 205 3 uv (((Rep.nT bt (ns.take n)).map (Rep.upd kv)).flatMap bJ)::aC 3 1 av (ints ns)::aV p m L::aI m M::F)
section
variable {m:Nat}{L:Seg.Log}{M:ak}
theorem aos:kD prog 256=some (.agg #[.pointer none]):=by kernel_rfl
theorem acd (hL:L.Ok) (hM:M.Ok K) (hH:Ro w0 F Half) (hrows:(Rep.rowsOf (dD L M) L.aH).length<=12000000) (hsz:∀ r∈Rep.rowsOf (dD L M) L.aH,(r.2.size:Int)<=4294967296) (h:Sat w0 w (aV p m L::aI m M::F)) :
  Calls prog 102 #[ptr p] w (aN λv w'=>AZ w0 F (dD L M) L.aH p m L M v w'):=by
 have Hlen:=uQ (show L.aH.length<=1048576 from by unfold Seg.Log.aH;rw [abl];have:=hL.len;omega);have hse:=En hL h
 have VJ:=uQ (show ∀ s∈L.aH,0<=s from λs hs=>by
  unfold Seg.Log.aH at hs;obtain ⟨x,hx,rfl⟩:=adu.1 hs;exact (hL.nums x hx).1)
 have HL:=uQ hL;have HM:=uQ hM;have HH:=uQ hH;have Ou:=uQ hrows;have iQ:=uQ hsz;clear hL hM hH hrows hsz;go_enter func102,ntmps102;go_wp2_with (with_reducible apply eG);refine ⟨eU pY h rfl ?_⟩;intro b3 w3 h3;clear hse h;go_wp2_with fail;refine (En HL.o (h3.pick aT)).mono ?_;rintro ee w4 ⟨sv,rfl,h4⟩;have hsp:=split_c HL.o HM.o (Ro.os HH.o) (h4.sb:Sat w0 w4 (aC 3 1 sv (ints L.aH)::aV p m L::aI m M::pt b3 (.cells (dW Rep.dI.zero) 36 (0,0))::F));clear h3 h4;go_wp2_with fail;refine hsp.mono ?_;rintro ee w5 ⟨v,rfl,rfl,h5⟩;clear hsp;by_cases h0:(Rep.split (dD L M) L.aH L.aH.length).2=0;rotate_left
 ·have hb:((Rep.split (dD L M) L.aH L.aH.length).2 != 0)=true:=by rw [ahV];exact h0
  have Hf:=uQ (show Rep.run (dD L M) L.aH=.inl (Rep.dI.zero,(Rep.split (dD L M) L.aH L.aH.length).2) by unfold Rep.run;rw [adU h0]);have h6:Sat w0 w5 (pt b3 (.cells (dW Rep.dI.zero) 36 (0,0))::aV p m L::aI m M::F):=h5.sb;clear h0 h5
  go_wp2_with (first
   |((with_reducible refine OO ⟨?_⟩);refine UO (λw=>LV w) ?_)
   |((with_reducible refine bW ⟨?_⟩);refine fG (dW Rep.dI.zero) h6 ah ah ah bU au ah ?_;intro w9 h9))
  refine ⟨rfl,_,zX rfl h9 ah bK underlying36 rfl au,_,rfl,?_⟩;unfold AZ;rw [Hf.o];exact ⟨rfl,h9.drop⟩
 have hb:((Rep.split (dD L M) L.aH L.aH.length).2 != 0)=false:=by rw [h0];rfl
 have nX:=uQ (Rep.Uf (dD L M) L.aH L.aH.length);have Hf:=uQ (show Rep.run (dD L M) L.aH=Rep.EG (dD L M) L.aH (Rep.split (dD L M) L.aH L.aH.length).1 by unfold Rep.run;rw [abL (λh=>h h0)]);rw [h0];generalize (Rep.split (dD L M) L.aH L.aH.length).1=n at *
 clear h0;obtain ⟨tv,htl,⟨ta,tc,rfl⟩,htr⟩:=anj nX.o h5;have Htr:=uQ htr;clear htr;go_wp2_with fail;have hG:True:=trivial;have h6:=h5.drew;clear h5;refine eF [] (λw'=>True) au ?_;refine rP 1 ?_ (y:=bD);refine rP 2 ?_ (y:=bD);refine rP 3 ?_ (y:=(adN ay ay htl));refine cZ 0 ay au (λK hK=>?_);refine D7 [] au yF0 ?_;refine (aaC h6).mono ?_;rintro ee w7 ⟨v,rfl,pi,rfl,h7⟩;refine hK _ _ (.inr (.inl trivial)) ?_;clear hK h6;refine rp 4 (hy:=yE0) (h:=?_);refine cZ 5 ay au (λK hK=>?_);refine PD (cs:=#[.int .i64 (-1),ptr pi,.slice none 0 0,.slice ta (L.aH.length-n) tc]) h7 ay ay ?_;intro ps w8 h8;refine hK _ _ (.inr (.inl trivial)) ?_;clear hK h7;refine rP 6 ?_ (y:=jU);refine dX au ?_;clear hG;go_wp2_with fail;refine (ajL h8).mono ?_;rintro ee w9 ⟨v,rfl,pg,rfl,h9⟩;clear h8;go_wp2_with (with_reducible apply eG);refine ⟨eU aos h9 rfl ?_⟩;intro b9 w10 h10;clear h9
 obtain ⟨ha,hc,hhl,hhr⟩:=ahO nX.o (h10.sb:Sat w0 w10 (aC 3 1 sv (ints L.aH)::F));go_wp2_with ((with_reducible refine bW ⟨?_⟩);refine jM (cs':=#[ptr pg]) h10 ah ay ah bU bG au ah ?_;intro jZ h11)
 have h12:Sat w0 jZ (bZ ps (Rep.qO (L.aH.take 0)) pi (.slice none 0 0) (.slice ta (L.aH.length-n) tc)::aC 205 3 (.slice none 0 0) ((Rep.nT (dD L M) (L.aH.take 0)).flatMap bJ)::bf pi (λ_=>none) 0::pt b9 (.cells #[ptr pg] 256 (0,0)) ::
  fJ pg (Rep.ledger (Rep.rowsOf (dD L M) (L.aH.take 0))) (Rep.rowsOf (dD L M) (L.aH.take 0)).length::pt b3 (.cells (dW Rep.dI.zero) 36 (0,0))::aC 3 1 sv (ints L.aH)::aV p m L::aI m M::F):=(Sat.dO.2 h11).sb
 clear h10 h11 htl
 go_loopg [45] n (λg iq wr=>∃ (i:Nat) (uv:Value),g=n-i/\i<=n/\iq=.int .i64 i/\Rep.bad (dD L M) (L.aH.take i)=none/\Sat w0 wr (bZ ps (Rep.qO (L.aH.take i)) pi uv (.slice ta (L.aH.length-n) tc)::aC 205 3 uv ((Rep.nT (dD L M) (L.aH.take i)).flatMap bJ)::bf pi (λ_=>none) 0::pt b9 (.cells #[ptr pg] 256 (0,0)) ::
  fJ pg (Rep.ledger (Rep.rowsOf (dD L M) (L.aH.take i))) (Rep.rowsOf (dD L M) (L.aH.take i)).length::pt b3 (.cells (dW Rep.dI.zero) 36 (0,0))::aC 3 1 sv (ints L.aH)::aV p m L::aI m M::F))
 case atStart=>exact ⟨0,.slice none 0 0,rfl,ad4 _,rfl,rfl,h12⟩
 case round=>
  obtain ⟨i,uv,rfl,hi,rfl,hbad,hS⟩:=hrel;clear h12;have nV:=uQ hbad;clear hbad;by_cases hlt:i<n;rotate_left
  ·obtain rfl:i=n:=by omega
   have c1:¬ (i:Int)<(i:Int):=oQ;obtain ⟨kv,k1,k2,k3⟩:=fJ.lists (hS.pk (A:=fJ pg (Rep.ledger (Rep.rowsOf (dD L M) (L.aH.take i))) (Rep.rowsOf (dD L M) (L.aH.take i)).length));have k4:=adT (Rep.Tz (dD L M) L.aH i) Ou.o;have hks:∀ q∈kv,q.1.length=32/\0<=q.2.place.size/\q.2.place.size<=4294967296:=λq hq=>by
    obtain ⟨r,hr,e⟩:=Rep.ai9 ((k1.mem q.1 q.2).1 hq);rw [e];exact ⟨k2 q hq,Int.natCast_nonneg _,iQ.o r (Rep.alG _ _ _ r hr)⟩
   have hfl:=ag5 (us:=Rep.nT (dD L M) (L.aH.take i)) k1 oQ oQ hks (by unfold Rep.nT;rw [abl,adt];have:=Hlen.o;omega)
    (hS.sb:Sat w0 wr (bZ ps (Rep.qO (L.aH.take i)) pi uv (.slice ta (L.aH.length-i) tc)::bf pi (λ_=>none) 0::fJ pg (Rep.ledger (Rep.rowsOf (dD L M) (L.aH.take i))) (Rep.rowsOf (dD L M) (L.aH.take i)).length ::
     aC 205 3 uv ((Rep.nT (dD L M) (L.aH.take i)).flatMap bJ)::pt b3 (.cells (dW Rep.dI.zero) 36 (0,0))::aC 3 1 sv (ints L.aH)::aV p m L::aI m M::F))
   have K:=uQ (And.intro k1 (And.intro k2 k3));have Hg:=uQ (Hf.o.trans (Rep.ab5 nV.o));have Htv:=uQ Htr.o;clear k1 k2 k3 k4 hks hlt hi;go_wp2_with ((with_reducible refine bC ⟨?_⟩);refine iC (cs:=#[ptr pg]) hS ah (aU (aU (aU aK))) underlying256 rfl au ?_);refine hfl.mono ?_;rintro ee kC ⟨v,rfl,fP⟩;clear hfl hS
   go_wp2_with (first
    |((with_reducible refine OO ⟨?_⟩);refine UO (λw=>LV w) ?_)
    |((with_reducible refine bW ⟨?_⟩);refine fG (dW Rep.dI.zero) fP ah ah ah (lN (lN (lN (lN bU)))) au ah ?_;intro IQ h15))
   refine ⟨rfl,_,zX rfl h15 ah (aU (aU (aU (aU aK)))) underlying36 rfl au,_,rfl,?_⟩;unfold AZ;rw [Hg.o];exact ⟨ps,pi,uv,.slice ta (L.aH.length-i) tc,sv,kv,rfl,K.o,⟨⟨ta,tc,rfl⟩,Htv.o⟩,h15.sb⟩
  have c1:(i:Int)<(n:Int):=oQ;have hwi:IntKind.i64.wrap ((i:Int)+1)=(i:Int)+1:=acO _ (by have:=nX.o;have:=Hlen.o;omega);have hni:(L.aH.take n).length=n:=by rw [adt];have:=nX.o;omega
  obtain ⟨s,hs⟩:∃ s,(L.aH.take n)[i]?=some s:=⟨_,aaJ oQ⟩;have hs2:L.aH[i]?=some s:=by rw [alM]at hs;rw [adU hlt]at hs;exact hs
  have dP:=uQ (show L.aH.take (i+1)=L.aH.take i++[s] by rw [aeN,hs2,ahW])
  have Jo:=uQ (show ∃ post,L.aH.take n=L.aH.take i++s::post by
   obtain ⟨h1,e⟩:=acZ.1 hs;refine ⟨(L.aH.take n).drop (i+1),?_⟩;have e2:L.aH.take i=(L.aH.take n).take i:=by rw [apO,apg (Nat.le_of_lt hlt)]
   rw [e2,<-e,<-agf h1,aeX])
  have Hs0:=uQ (VJ.o s (acr hs2));obtain ⟨bk,off,c',hsv,f0⟩:=Em (hhr _ (Sat.rd (hS.pk (A:=aC 3 1 sv (ints L.aH))))) hs;rw [hni]at hsv;cases hsv
  have hb:=QY HL.o HM.o s (hS.sb:Sat w0 wr (aV p m L::aI m M::bZ ps (Rep.qO (L.aH.take i)) pi uv (.slice ta (L.aH.length-n) tc)::aC 205 3 uv ((Rep.nT (dD L M) (L.aH.take i)).flatMap bJ)::bf pi (λ_=>none) 0::pt b9 (.cells #[ptr pg] 256 (0,0)) ::
   fJ pg (Rep.ledger (Rep.rowsOf (dD L M) (L.aH.take i))) (Rep.rowsOf (dD L M) (L.aH.take i)).length::pt b3 (.cells (dW Rep.dI.zero) 36 (0,0))::aC 3 1 sv (ints L.aH)::F))
  have aS:=uQ hlt;clear hS hs hs2 hni hlt hi;go_wp2_with fail;refine hb.mono ?_;rintro ee qW ⟨v,rfl,bv,rfl,h20⟩;clear hb f0;obtain ⟨hcap,ca,cc,rfl⟩:=O5 h20;by_cases h0:(L.bytes M s).2=0;rotate_left
  ·have hb1:((L.bytes M s).2 != 0)=true:=by rw [ahV];exact h0
   have Hg:=uQ (show Rep.run (dD L M) L.aH=.inl (Rep.dI.zero,(L.bytes M s).2) by
    rw [Hf.o];obtain ⟨post,e⟩:=Jo.o;exact Rep.ab4 (by rw [e];exact Rep.afK nV.o h0))
   have h21:Sat w0 qW (pt b3 (.cells (dW Rep.dI.zero) 36 (0,0))::aV p m L::aI m M::F):=h20.sb;clear h20 h0 hcap
   go_wp2_with (first
    |((with_reducible refine OO ⟨?_⟩);refine UO (λw=>LV w) ?_)
    |((with_reducible refine bW ⟨?_⟩);refine fG (dW Rep.dI.zero) h21 ah ah ah bU au ah ?_;intro lH h22))
   refine ⟨rfl,_,zX rfl h22 ah bK underlying36 rfl au,_,rfl,?_⟩;unfold AZ;rw [Hg.o];exact ⟨rfl,h22.drop⟩
  have hb1:((L.bytes M s).2 != 0)=false:=by rw [h0];rfl
  have H0:=uQ h0;rw [h0];clear h0;have hbl:=Seg.DZ (L:=L) HM.o s;have hsc:=Qa (w0:=w0) (w:=qW) (L.bytes M s).1 (Ro.aY _ _) hcap (Ro.os HH.o) (adT hbl aG) h20;clear hcap;go_wp2_with fail;refine hsc.mono ?_;rintro ee oN ⟨v,rfl,fs,fv,hfs,hfk,rfl,h21⟩;clear hsc h20;obtain ⟨fa,fc,rfl⟩:=Yk hfk h21;by_cases h1:(aj.scan (L.bytes M s).1).2.2=0;rotate_left
  ·have hb2:((aj.scan (L.bytes M s).1).2.2 != 0)=true:=by rw [ahV];exact h1
   have Hg:=uQ (show Rep.run (dD L M) L.aH=.inl (Rep.fault s (aj.scan (L.bytes M s).1).2.1,13) by
    rw [Hf.o];obtain ⟨post,e⟩:=Jo.o;exact Rep.ab4 (by rw [e];exact Rep.afL nV.o H0.o h1))
   have h22:Sat w0 oN (pt b3 (.cells (dW Rep.dI.zero) 36 (0,0))::aV p m L::aI m M::F):=h21.sb;clear h21 h1 hfs hfk;go_wp2_with fail;refine (ag2 s (aj.scan (L.bytes M s).1).2.1 h22).mono ?_;rintro ee IU ⟨v,rfl,rfl,h23⟩;clear h22;go_wp2_with ((with_reducible refine bW ⟨?_⟩);refine fG (dW (Rep.fault s (aj.scan (L.bytes M s).1).2.1)) h23 ah ah ah bU au ah ?_;intro w24 qL);refine ⟨rfl,_,zX rfl qL ah bK underlying36 rfl au,_,rfl,?_⟩;unfold AZ;rw [Hg.o];exact ⟨rfl,qL.drop⟩
  have hb2:((aj.scan (L.bytes M s).1).2.2 != 0)=false:=by rw [h1];rfl
  have H1:=uQ h1;rw [h1];clear h1
  have h22:Sat w0 oN (fJ pg (Rep.ledger (Rep.rowsOf (dD L M) (L.aH.take i)++(fs.take 0).map λq=>(s,q.1))) ((Rep.rowsOf (dD L M) (L.aH.take i)).length+0)::bZ ps (Rep.qO (L.aH.take i)) pi uv (.slice ta (L.aH.length-n) tc)::aC 205 3 uv ((Rep.nT (dD L M) (L.aH.take i)).flatMap bJ)::bf pi (λ_=>none) 0::pt b9 (.cells #[ptr pg] 256 (0,0)) ::
   pt b3 (.cells (dW Rep.dI.zero) 36 (0,0))::aC 3 1 sv (ints L.aH)::aV p m L::aI m M::aC 154 36 (.slice fa fs.length fc) (iF fs)::kQ fs::F):=by
   have q:Sat w0 oN (fJ pg (Rep.ledger (Rep.rowsOf (dD L M) (L.aH.take i))) (Rep.rowsOf (dD L M) (L.aH.take i)).length::bZ ps (Rep.qO (L.aH.take i)) pi uv (.slice ta (L.aH.length-n) tc)::aC 205 3 uv ((Rep.nT (dD L M) (L.aH.take i)).flatMap bJ)::bf pi (λ_=>none) 0::pt b9 (.cells #[ptr pg] 256 (0,0)) ::
   pt b3 (.cells (dW Rep.dI.zero) 36 (0,0))::aC 3 1 sv (ints L.aH)::aV p m L::aI m M::aC 154 36 (.slice fa fs.length fc) (iF fs)::kQ fs::F):=h21.sb
   rw [afC,ah3,aei,aml];exact q
  have aeg:=uQ (show (Rep.rowsOf (dD L M) (L.aH.take i)).length+fs.length<=12000000 by
   have q1:=Rep.Tz (dD L M) L.aH (i+1);rw [dP.o,Rep.abY,aa7,abl,show (aj.scan (dD L M s).1).1=fs.map (·.1) from hfs.symm,abl]at q1;exact adT q1 Ou.o)
  have hfl:fs.length<=16777216:=by
   have:=aj.acB (L.bytes M s).1;rw [<-hfs,abl]at this;omega
  have kE:=uQ hfl;have nJ:=uQ hfs;have ru:=uQ hfk;clear h21 hbl hfs hfk;go_wp2_with fail
  go_loopg [72] fs.length (λg jq wr=>∃ j:Nat,g=fs.length-j/\j<=fs.length/\jq=.int .i64 j/\Sat w0 wr (fJ pg (Rep.ledger (Rep.rowsOf (dD L M) (L.aH.take i)++(fs.take j).map λq=>(s,q.1))) ((Rep.rowsOf (dD L M) (L.aH.take i)).length+j)::bZ ps (Rep.qO (L.aH.take i)) pi uv (.slice ta (L.aH.length-n) tc)::aC 205 3 uv ((Rep.nT (dD L M) (L.aH.take i)).flatMap bJ)::bf pi (λ_=>none) 0::pt b9 (.cells #[ptr pg] 256 (0,0)) ::
   pt b3 (.cells (dW Rep.dI.zero) 36 (0,0))::aC 3 1 sv (ints L.aH)::aV p m L::aI m M::aC 154 36 (.slice fa fs.length fc) (iF fs)::kQ fs::F))
  case atStart=>exact ⟨0,rfl,ad4 _,rfl,h22⟩
  case round=>
   obtain ⟨j,rfl,hj,rfl,hS⟩:=hrel;clear h22;by_cases hjl:j<fs.length;rotate_left
   ·obtain rfl:j=fs.length:=by omega
    have d1:¬ (fs.length:Int)<(fs.length:Int):=oQ;rw [aeH]at hS;clear hjl hj;have rU:((Rep.nT (dD L M) (L.aH.take i)).flatMap bJ).length<=2147483648:=by
     rw [iK (k:=3) λu _=>rfl];unfold Rep.nT;rw [abl,adt];have:=Hlen.o;omega
    go_wp2_with (first
     |((with_reducible refine bW ⟨?_⟩);refine jM (cs':=#[.int .i64 s,ptr pi,uv,.slice ta (L.aH.length-n) tc]) hS ah ay ah (lN bU) bG au ah ?_;intro w40 JW)
     |((with_reducible refine bC ⟨?_⟩);refine eY JW ah (aU aK) bG ay au ?_)
     |(with_reducible apply jh))
    refine ⟨jg (e:=205) (sz:=3) (dF:=24) au JW ah (cs:=#[.int .i64 s,.int .i64 ((L.bytes M s).1.length:Nat),.int .i64 0]) rfl rfl aG ?_⟩;intro b41 w41 rJ;go_wp2_with (with_reducible apply fZ);refine ⟨jF 205 3 24 au rJ ah ah (aU (aU (aU aK))) aK rfl (ab1 1) ah rU (by show 3<=65536;decide) aG rfl ?_⟩;intro bA nA cA w42 h42;go_wp2_with ((with_reducible refine bW ⟨?_⟩);refine jM (cs':=#[.int .i64 s,ptr pi,.slice (some ⟨bA,0,none⟩) nA cA,.slice ta (L.aH.length-n) tc]) h42 ah ay ah (lN (lN bU)) bG au ah ?_;intro UL h43)
    have Qg:Sat w0 UL (bZ ps (Rep.qO (L.aH.take (i+1))) pi (.slice (some ⟨bA,0,none⟩) nA cA) (.slice ta (L.aH.length-n) tc)::aC 205 3 (.slice (some ⟨bA,0,none⟩) nA cA) ((Rep.nT (dD L M) (L.aH.take (i+1))).flatMap bJ)::bf pi (λ_=>none) 0::pt b9 (.cells #[ptr pg] 256 (0,0)) ::
     fJ pg (Rep.ledger (Rep.rowsOf (dD L M) (L.aH.take (i+1)))) (Rep.rowsOf (dD L M) (L.aH.take (i+1))).length::pt b3 (.cells (dW Rep.dI.zero) 36 (0,0))::aC 3 1 sv (ints L.aH)::aV p m L::aI m M::F):=by
     rw [dP.o,Rep.ai7,Rep.anM,Rep.abY,aa7,abl,show (aj.scan (dD L M s).1).1=fs.map (·.1) from nJ.o.symm,abl,ahU,aeB];exact h43.sb
    clear JW rJ h42 h43 hS
    go_roundg (n-(i+1))
    case measure=>have:=aS.o;omega
    case rel=>exact ⟨i+1,.slice (some ⟨bA,0,none⟩) nA cA,rfl,aS.o,by first|rfl|go_num,by rw [dP.o];exact Rep.afJ nV.o H0.o H1.o,Qg⟩
   have d1:(j:Int)<(fs.length:Int):=oQ;have Kq:IntKind.i64.wrap ((j:Int)+1)=(j:Int)+1:=acO _ oQ;obtain ⟨⟨f,dv⟩,hq⟩:∃ q,fs[j]?=some q:=⟨_,aaJ hjl⟩;have Qq:f.e.key.length=32:=ru.o _ (acr hq);obtain ⟨da,dn,dc,rfl,_,_⟩:=Po hq wr (hS.pk (A:=kQ fs));obtain ⟨bk2,off2,c2,e2,hcell⟩:=iL (f:=λq:aj.dK×Value=>nP q.1 q.2) (k:=36) (λq hq=>xY q.1 q.2 (ru.o q hq)) (Sat.rd (hS.pk (A:=aC 154 36 (.slice fa fs.length fc) (iF fs)))) hq aG;cases e2;have J6:(nP f (.slice da dn dc)).length=36:=xY _ _ Qq;have Htj:=uQ (show (fs.take (j+1)).map (λq=>(s,q.1))=(fs.take j).map (λq=>(s,q.1))++[(s,f)] by rw [aeN,hq,ahW,aef];rfl);have uj:=uQ hjl;have rC:=uQ Qq;clear hq Qq hj
   go_wp2_with (first
    |((with_reducible refine bC ⟨?_⟩);refine iD (b:=bk2) (o:=off2+j*36) (nP f (.slice da dn dc)) ah hcell underlying154 rfl (by rw [J6];kernel_rfl) ?_)
    |(with_reducible apply eG))
   refine ⟨eU Ns hS rfl ?_⟩;intro b17 IV h30
   go_wp2_with (first
    |((with_reducible refine bW ⟨?_⟩);refine fG (jQ f (.slice da dn dc)) h30 ah ah (by rw [rH _ _ rC.o];rfl) bU (by rw [rH _ _ rC.o];kernel_rfl) (Gi _ _ _ _) ?_;intro Nb h31)
    |((with_reducible refine bC ⟨?_⟩);refine iC (cs:=jQ f (.slice da dn dc)) h31 ah aK underlying154 rfl (by rw [rH _ _ rC.o];kernel_rfl) ?_)
    |((with_reducible refine bC ⟨?_⟩);refine iC (cs:=#[ptr pg]) h31 ah (aU (aU (aU (aU (aU aK))))) underlying256 rfl au ?_))
   have hrl:=Rep.Tz (dD L M) L.aH i;refine (anm (p:=pg) s f rC.o (by have:=Ou.o;have:=kE.o;have:=uj.o;have:=aeg.o;omega) (h31.pick aT)).mono ?_;rintro ee w32 ⟨v,rfl,h32⟩;clear h30 h31 hS hcell;have hnn:∀ x∈Rep.rowsOf (dD L M) (L.aH.take i)++(fs.take j).map (λq=>(s,q.1)),0<=x.1:=λx hx=>by
    rcases aeQ.1 hx with hx|hx
    ·unfold Rep.rowsOf at hx;obtain ⟨u,hu,hx⟩:=ao6.1 hx;obtain ⟨g,_,rfl⟩:=adu.1 hx;exact VJ.o u (ae2 hu)
    ·obtain ⟨g,_,rfl⟩:=adu.1 hx;exact Hs0.o
   rw [<-Rep.ZU _ _ hnn,ad2,<-Htj.o]at h32;clear hnn;go_wp2_with fail
   go_roundg (fs.length-(j+1))
   case measure=>have:=uj.o;omega
   case rel=>exact ⟨j+1,rfl,uj.o,by first|rfl|go_num,h32.sb⟩
end
end Go.Proofs.Y
namespace Go.Seg
open Go.ak
structure rG (i:Nat) (M D:ak):Prop where
 ok:M.Ok (i*2000)
 fit:Fit (i*2000) D
 side:∃ φ V,Side φ V M D
 quiet:Quiet M
 cap:M.Cap (i*2000)
 now:M.now.length<=i
section
variable {i j K:Nat}{M D:ak}
theorem rG.first (r:Nat) (hr:r<=16777216):rG 0 (ak.new r) (ak.new r):=
 ⟨ak.Ok.new _ r hr,Fit.new _ r hr,⟨_,_,Side.new r⟩,Quiet.new r,ak.Cap.new _ r,ab1 0⟩
theorem rG.mono (h:rG i M D) (hj:i<=j):rG j M D:=
 ⟨h.ok.mono oQ,h.fit.mono oQ,h.side,h.quiet,h.cap.mono oQ,by have:=h.now;omega⟩
theorem agq (M:ak) (s:ByteArray):(M.create s).1.now.length<=M.now.length+1:=by
 have e3:=M.jf.2.2.1;unfold ak.create;split;· simp only;omega
 split;· simp only;omega
 split;· simp only;omega
 split;· simp only;omega
 split;· simp only;rw [e3];omega
 show (gU.on _ M.step.1.now).length<=_;rw [e3];unfold gU.on;simp only [apc];split
 ·omega
 ·rw [RX];have:=wO M.now s;omega
theorem Ws (M:ak) (s:ByteArray) (b:Bs):(M.append s b).1.now=M.now:=by
 have e3:=M.jf.2.2.1;unfold ak.append;split;· rfl
 split;· rfl
 split;· rfl
 split;· exact e3
 exact e3
theorem rG.create (h:rG i M D) (s:ByteArray):(D.create s).2=(M.create s).2/\rG (i+1) (M.create s).1 (D.create s).1:=by
 obtain ⟨φ,V,sd⟩:=h.side;obtain ⟨h1,h2⟩:=sd.create h.ok s;exact ⟨h1.symm,(h.ok.create s).mono oQ,(h.fit.create s).mono oQ,h2,h.quiet.create s,(h.cap.create s).mono oQ,by have:=agq M s;have:=h.now;omega⟩
theorem rG.append (h:rG i M D) (s:ByteArray) (b:Bs) (hb:b.length<=2000):(D.append s b).2=(M.append s b).2/\rG (i+1) (M.append s b).1 (D.append s b).1:=by
 obtain ⟨φ,V,sd⟩:=h.side;obtain ⟨h1,h2⟩:=sd.append h.ok s b;exact ⟨h1.symm,(h.ok.append s b).mono oQ,(h.fit.append s b).mono oQ,h2,h.quiet.append s b,(h.cap.append h.ok s b).mono oQ,by rw [Ws];have:=h.now;omega⟩
end
section
variable {i n c K:Nat}{L:Log}{M D:ak}
theorem CY (h:L.Ok):L.aH.Pairwise (· < ·):=h.rise
theorem amA (h:L.Ok):∀ s∈L.aH,0<=s:=λs hs=>by
 unfold Log.aH at hs;obtain ⟨x,hx,rfl⟩:=adu.1 hs;exact (h.nums x hx).1
theorem rows_ok (h:L.Ok) (M:ak) (n:Nat):Rep.Rows (Rep.rowsOf (λs=>L.bytes M s) (L.aH.take n)):=
 Rep.alF ((CY h).sublist (List.take_sublist _ _)) λs hs=>amA h s (ae2 hs)
end
end Go.Seg
namespace Go.Rep
open Go.aj (Bs dK aJ gy encs dV)
open Go.Seg (aZ mag)
open Go.Tab
theorem KQ:∀ {l:List Row}{k:Bs}{r:Row},newest l k=some r->r∈l/\fF r≠2/\iJ r=k
 |[],_,_,h=>by cases h
 |x::l,k,r,h=>by
  unfold newest at h;split at h
  ·rename_i y hy;cases h;obtain ⟨h1,h2⟩:=KQ hy;exact ⟨.tail _ h1,h2⟩
  ·split at h
   ·rename_i hh;cases h;exact ⟨.head _,hh⟩
   ·cases h
end Go.Rep
namespace Go.Seg
open Go.ak
open Go.aj (Bs dK encs dV gy aJ)
open Go.Rep
section
variable {n:Nat}{ds:List aJ}{L:Log}{M:ak}{C:List (List aJ)}{c:Nat}
end
end Go.Seg
namespace Go.Rep
open Go.aj (Bs dK aJ gy encs dV)
open Go.Seg (aZ mag)
open Go.Tab
def mD (l:List Row) (k:Bs):Option aZ:=(newest l k).bind λr=>if fF r=0 then some (mW r) else none
def vW (es:List aJ) (k:Bs):Option Bs:=(KC es k).bind λe=>if e.tag=0 then some e.data else none
section
variable {l:List Row}{r:Row}{k:Bs}{es:List aJ}{x:aJ}{C:List (List aJ)}
theorem aaK (l:List Row) (k:Bs):(mD l k).isSome=(vW (l.map (·.2.e)) k).isSome/\∀ r,newest l k=some r->fF r=0->vW (l.map (·.2.e)) k=some r.2.e.data:=by
 have e:=aaG l k;unfold mD vW;rw [<-e];cases hn:newest l k with
 |none=>exact ⟨rfl,λr hr=>by cases hr⟩
 |some r=>
  refine ⟨?_,λr' hr h0=>?_⟩
  ·show (if fF r=0 then some (mW r) else none).isSome=(if r.2.e.tag=0 then some r.2.e.data else none).isSome;unfold fF;split <;> rfl
  ·cases hr;show (if r.2.e.tag=0 then some r.2.e.data else none)=_;rw [adU (show r.2.e.tag=0 from h0)]
theorem ajY {p:aZ} (h:mD l k=some p):∃ r∈l,mW r=p/\fF r=0/\iJ r=k/\vW (l.map (·.2.e)) k=some r.2.e.data:=by
 have h':=h;unfold mD at h;obtain ⟨r,h1,h2⟩:=Option.bind_eq_some_iff.1 h;obtain ⟨h3,h4,h5⟩:=KQ h1;split at h2
 ·rename_i h6;cases h2;exact ⟨r,h3,rfl,h6,h5,(aaK l k).2 r h1 h6⟩
 ·cases h2
theorem akR {kv:List (Bs×dU)} (h:Tab.Lists (ledger l) kv):Tab.mapOf (puts kv)=mD l:=by
 have hl:=Tab.aao (SK h.rise)
 funext k
 have key:∀ p,Tab.mapOf (puts kv) k=some p↔mD l k=some p:=λp=>by
  rw [<-hl.mem];unfold puts mD;rw [adu,Option.bind_eq_some_iff];constructor
  ·rintro ⟨q,hq,e⟩;obtain ⟨h1,h2⟩:=aex.1 hq;have h3:=(h.mem q.1 q.2).1 h1;unfold ledger at h3;obtain ⟨r,h4,h5⟩:=akB.1 h3;have e1:q.1=k:=aeO Prod.fst e;have e2:q.2.place=p:=aeO Prod.snd e;refine ⟨r,by rw [<-e1];exact h4,?_⟩;have ht:q.2.tag=0:=by simpa using h2
   rw [<-h5]at ht e2;simp only at ht e2;rw [adU ht,e2]
  ·rintro ⟨r,h1,h2⟩;split at h2
   ·rename_i ht;cases h2;refine ⟨(k,⟨fF r,mW r,first l k⟩),aex.2 ⟨(h.mem _ _).2 (by unfold ledger;rw [h1];rfl),by simpa using ht⟩,rfl⟩
   ·cases h2
 cases hn:mD l k with
 |some p=>exact (key p).2 hn
 |none=>
  cases hm:Tab.mapOf (puts kv) k with
  |none=>rfl
  |some p=>rw [(key p).1 hm]at hn;cases hn
def putRow (C:List (List aJ)) (b:Bool) (x:aJ):Row:=
 if b then (((C.length-1:Nat):Int),⟨x,8+(encs (C.getLastD [])).length,(aj.encode x).1.length⟩) else ((C.length:Int),⟨x,8,(aj.encode x).1.length⟩)
end
end Go.Rep
namespace Go.Seg
open Go.ak
open Go.aj (Bs aJ encs dV)
open Go.Rep
section
variable {K r E B n:Nat}{L:Log}{M:ak}{C:List (List aJ)}{x:aJ}
end
end Go.Seg
namespace Go.Proofs.Y
open Go.ak
theorem aah {p : Prop} (h : p := by
 have hr:=ade hB h;clear h;go_enter adf,adg;go_wp2_with fail;refine hr.mono ?_;rintro ee w1 ⟨sv,rfl,s,⟨hs1,hs2,hs3⟩,hS1⟩;clear hr;have Hs1:=uQ hs1;have ig:=uQ hs2;have um:=uQ hs3
 have FB:=uQ (show ∀ q∈s.map λx=>(x.key,x.val),q.1.length=32 from λq hq=>by
  obtain ⟨x,hx,rfl⟩:=adu.1 hq;exact (hs2 x hx).2)
 have Hlen:=uQ (show ∀ x∈s,(slotL Ae x).length=Af from λx hx=>kZ Ae x (hs2 x hx).2 IK (adh _));obtain ⟨la,lc,rfl⟩:=iP Hlen.o (Sat.rd hS1) aG;have hsb:s.length<=13000000:=adT hs3 hB;have hS2:Sat w0 w1 (aC 34 32 (.slice none 0 0) (((s.take 0).map λx=>(x.key,x.val)).flatMap λq=>aB q.1)::aC ES Af (.slice la s.length lc) (s.flatMap (slotL Ae))::UF p m B::F):=Sat.dO.2 hS1;clear hs1 hs2 hs3 hB hS1;go_wp2_with fail
 go_loopg [3,9] s.length (λg oq iq wr=>∃ (i:Nat),g=s.length-i/\i<=s.length/\iq=.int .i64 i /\
  Sat w0 wr (aC 34 32 oq (((s.take i).map λx=>(x.key,x.val)).flatMap λq=>aB q.1)::aC ES Af (.slice la s.length lc) (s.flatMap (slotL Ae))::UF p m B::F))
 case atStart=>exact ⟨0,rfl,ad4 _,rfl,hS2⟩
 case round=>
  obtain ⟨i,rfl,hi,rfl,hS⟩:=hrel;clear hS2;by_cases hlt:i<s.length;rotate_left
  ·obtain rfl:i=s.length:=by ((try simp only [Af,IK,ES] at *);omega)
   have c1:¬ (s.length:Int)<(s.length:Int):=oQ;rw [aeH]at hS;clear hlt hi;go_wp2_with fail;go_ret;refine ⟨_,rfl,s.map λx=>(x.key,x.val),⟨Hs1.o,by intros;exact FB.o (_,_) aQ,by rw [abl];exact um.o⟩,hS.sb⟩
  have c1:(i:Int)<(s.length:Int):=oQ;have hwi:=qm (i:=i);obtain ⟨x,hx⟩:∃ x,s[i]?=some x:=⟨_,aaJ hlt⟩;have hxm:=acr hx;have Hxk:=uQ (ig.o x hxm).2;obtain ⟨bk,off,c',hsv,hcell⟩:=iL Hlen.o (Sat.rd (hS.pick aT)) hx aG;cases hsv;have gB:=Hlen.o x hxm
  have dP:=uQ (show ((s.take (i+1)).map λx=>(x.key,x.val)).flatMap (λq=>aB q.1)=((s.take i).map λx=>(x.key,x.val)).flatMap (λq=>aB q.1)++aB x.key by
   rw [aeN,hx,ahW,aef,aeB];simp)
  have aS:=uQ hlt;have BX:(((s.take i).map λx=>(x.key,x.val)).flatMap λq=>aB q.1).length<=2147483648:=by
   rw [iK (k:=32) λq hq=>by
    obtain ⟨y,hy,rfl⟩:=adu.1 hq;rw [aP];exact (ig.o y (ae2 hy)).2]
   rw [abl];have:=aoM i s
   ((try simp only [Af,IK,ES] at *);omega)
  clear hx hxm hlt hi
  go_wp2_with (first
   |((with_reducible refine bC ⟨?_⟩);refine iD (b:=bk) (o:=off+i*Af) (slotL Ae x) ah hcell adi rfl yN0 ?_)
   |(with_reducible apply eG))
  refine ⟨eU adk hS rfl ?_⟩;intro b7 w7 hS7
  go_wp2_with (first
   |((with_reducible refine bW ⟨?_⟩);refine fG (slotL Ae x).toArray hS7 ah ah zC0 bU yK0 (by rw [ad7];exact pX Ae x (adl _)) ?_;intro w10 dG)
   |(with_reducible apply bC))
  refine ⟨?_⟩;clear hS hS7 hcell;have f1:w10.rangeAt b7 1 (aB x.key):=Df (dG.pick aK)
  go_wp2_with (first
   |((with_reducible refine bC ⟨?_⟩);refine iD (b:=b7) (o:=1) (aB x.key) ah f1 underlying34 rfl yQ0 ?_)
   |(with_reducible apply jh))
  refine ⟨jg (e:=34) (sz:=32) (dF:=32) au dG ah (cs:=(aB x.key).toArray) rfl (by rw [abA,aP,Hxk.o]) aG ?_⟩;intro bN wN hN;go_wp2_with (with_reducible apply fZ);refine ⟨jF 34 32 32 au hN ah ah (aU (aU aK)) aK (by rw [abA,aP,Hxk.o]) (ab1 1) (by rw [ad7];exact uH _) BX (by rw [abA,aP,Hxk.o];decide) aG (by rw [ad7]) ?_⟩;intro bA nA cA wA hA;go_wp2_with fail;rw [<-dP.o]at hA
  go_roundg (s.length-(i+1))
  case measure=>have:=aS.o;((try simp only [Af,IK,ES] at *);omega)
  case rel=>exact ⟨i+1,rfl,aS.o,by first|rfl|go_num,hA.sb⟩) : p := h
theorem dM.ade:type_of% @LJ:=@LJ
theorem dM.adf:type_of% @func125:=@func125
theorem dM.adg:type_of% @ntmps125:=@ntmps125
abbrev dM.Ae:=@bT
abbrev dM.Af:Nat:=36
abbrev dM.IK:Nat:=3
theorem dM.adh:type_of% @yC:=@yC
abbrev dM.ES:Nat:=215
abbrev dM.UF:=@bf
theorem dM.adi:type_of% @underlying215:=@underlying215
theorem dM.adk:type_of% @yO:=@yO
theorem dM.adl:type_of% @yD:=@yD
open dM in
theorem ZI (hB:B<=13000000) (h:Sat w0 w (bf p m B::F)) :
  Calls prog 125 #[ptr p] w (aN λv w'=>∃ kv:List (aj.Bs×Seg.aZ),(Tab.Lists m kv/\(∀ q∈kv,q.1.length=32)/\kv.length<=B)/\Sat w0 w' (aC 34 32 v (kv.flatMap λq=>aB q.1)::bf p m B::F)):=aah
def fO (q:aj.Bs×Seg.aZ):List Value:=aB q.1++bT q.2
theorem lT (q:aj.Bs×Seg.aZ) (hk:q.1.length=32):(fO q).length=35:=by unfold fO;rw [aa7,aP,hk];rfl
theorem GX (q:aj.Bs×Seg.aZ):(fO q).all (·.oneCell')=true:=by unfold fO;rw [ajk,uH];rfl
theorem akr:tH prog 248=some [(0,32),(32,3)]:=by kernel_rfl
theorem Nv:kD prog 248=some (.agg (fO (aj.zero32,Seg.aZ.zero)).toArray):=by kernel_rfl
theorem acf (k:aj.Bs) (hk:k.length=32) (v:Seg.aZ) (w:World):(Instr.build 248 #[(0,.agg (aB k).toArray),(1,.agg (bT v).toArray)]).run prog w=.ok (.agg (fO (k,v)).toArray) w:=by
 have h:=apA (P:=prog) [(0,.agg (aB k).toArray),(1,.agg (bT v).toArray)] akr Nv (by
  intro p hp;have hzz:(Value.agg (fO (aj.zero32,Seg.aZ.zero)).toArray).cells.size=35:=by rfl
  rw [hzz];rcases ad9.1 hp with rfl|hp
  ·refine ⟨0,?_,?_⟩
   ·show some (0,32)=some (0,(aB k).toArray.size);rw [abA,aP,hk]
   ·show 0+(aB k).toArray.size<=35;rw [abA,aP,hk];decide
  ·rw [aeG.1 hp];exact ⟨32,rfl,by show 32+3<=35;omega⟩) w
 refine h.trans ?_;have hz:aj.zero32.length=32:=rfl;have hzl:(fO (aj.zero32,Seg.aZ.zero)).length=35:=lT _ hz;have e:eH (eH (fO (aj.zero32,Seg.aZ.zero)).toArray 0 (aB k)) 32 (bT v)=(fO (k,v)).toArray:=by
  apply rY;rw [yF _ _ _ (by rw [lC,abA,hzl];exact ab1 35),yF _ _ _ (by rw [abA,hzl,aP,hk];decide),ad7];have e1:kY (fO (aj.zero32,Seg.aZ.zero)) 0 (aB k)=aB k++bT Seg.aZ.zero:=by
   unfold fO;rw [Ey _ _ _ _ (by rw [aP,aP,hk,hz];decide),zT (by rw [aP,aP,hk,hz])]
  have h0:=zU (aB k) (bT Seg.aZ.zero) (bT v) 0;rw [aP,hk,zT (xs:=bT Seg.aZ.zero) (vs:=bT v) ah]at h0;rw [e1];exact h0
 exact aeO (λx=>Result.ok (Value.agg x) w) e
end Go.Proofs.Y
namespace Go.aj
end Go.aj
namespace Go.Proofs.Y
open Go.ak
section
variable {av:Value}
theorem WU {l:Bs}{i:Nat}{x:UInt8} (h:l[i]?=some x):(aB l)[i]?=some (.int .u8 x.toNat):=by unfold aB;rw [ad1,h];rfl
end
end Go.Proofs.Y
namespace Go.Rep
open Go.aj (Bs dK)
open Go.Seg (aZ)
open Go.Tab
def hit (k:Bs) (r:Row):Bool:=decide (fF r<2) && decide (iJ r=k)
section
variable {l:List Row}{k:Bs}{i:Nat}{r:Row}
end
section
variable {V:Type}
variable {l:List (Bs×V)}{x y:Bs×V}{i:Nat}
end
section
variable {l:List Row}{us:List Use}{i k:Nat}{r:Row}{u:Use}
end
end Go.Rep
namespace Go.Proofs.Y
open Go.ak
section
variable {t:TypeId}{pos:String}{v2:Value}{i1 i2:Nat}
theorem aol (hx:a.eval x=v1) (hy:a.eval y=v2) (hr:∀ w,(Instr.build ty #[(i1,v1),(i2,v2)]).run P w=.ok v w):Yields P ops ⟨dst,.build ty #[(i1,x),(i2,y)],t,pos,after,none⟩ v a:=
 .inl ⟨mZ _ rfl,λw=>by simp only [execOp,ahS,aes,ah3,hx,hy,aed,hr,adW,aep]⟩
end
structure BO (v:Value) (l:Bs) (b o cap:Nat) (cs:Array Value):Prop where
 eq:v=.slice (some ⟨b,o,none⟩) l.length cap
 le:l.length<=cap
 max:cap<=9223372036854775807
 fit:o+cap<=cs.size
 rd:∀ j y,(aB l)[j]?=some y->cs[o+j]?=some y
section
variable {x:Value}{o cap:Nat}
theorem BO.ofB (h:Sat w0 w (aY v l::R)) (hl:0<l.length):∃ b cap cs,BO v l b 0 cap cs/\Sat w0 w (pt b (.cells cs 5 (0,0))::R):=by
 rcases Sat.kL h with ⟨_,hx,_⟩|⟨b,n,cap,cs,hv,h1,h2,h3,h4,h5,h6⟩
 ·have:=aeO List.length hx;rw [aP]at this;simp only [ae0]at this;omega
 ·rw [aP,aeo]at h1;subst h1;refine ⟨b,cap,cs,⟨hv,h2,h4,by omega,λj y hj=>?_⟩,h6⟩;rw [aeE];exact lX h5 hj
theorem BO.aW (h:BO v l b o cap cs) (hS:Sat w0 w (pt b (.cells cs 5 (0,0))::R)):aW 1 v (aB l) w:=
 ⟨_,_,_,h.eq,by rw [aP,aeo],λj y hj=>⟨_,rfl,by
  have hadd:(⟨b,o,none⟩:Addr).add j=⟨b,o+j,none⟩:=by unfold Addr.add;split <;> simp_all
  rw [hadd];exact hS.cellAt (o+j) y (h.rd j y hj)⟩⟩
theorem BO.agG (h:BO v l b 0 cap cs) (hl:4<=l.length):BO (.slice (some ⟨b,4,none⟩) (l.length-4) (cap-4)) (l.drop 4) b 4 (cap-4) cs:=by
 have:=h.le;have:=h.max;have:=h.fit;refine ⟨by rw [adX],by rw [adX];omega,by omega,by omega,λj y hj=>?_⟩
 have:=h.rd (4+j) y (by
  unfold aB at hj ⊢;rw [List.map_drop,aoz]at hj;exact hj)
 rwa [aeE]at this
theorem alP (h:BO v l b o cap cs) (hS:Sat w0 w (pt b (.cells cs 5 (0,0))::R)) (hx:aW 1 x (aB k) w) (hl:l.length+k.length<=1099511627776) :
  ∃ v' w' b' o' cap' cs',(Builtin.append_ #[59,59] 59 #[v,x]).run prog w=.ok v' w'/\BO v' (l++k) b' o' cap' cs'/\Sat w0 w' (pt b' (.cells cs' 5 (0,0))::R):=by
 obtain ⟨i,hi,hz0,hz1,hz2⟩:=uO;have ht:=underlying59;obtain ⟨xa,m,c,rfl,hyl,vS⟩:=hx;rw [aP,aeo]at hyl;subst hyl;have hv:=h.eq;by_cases hm0:k=[]
 ·subst hm0;refine ⟨v,w,b,o,cap,cs,?_,by rw [aei];exact h,hS⟩;rw [hv];cases xa <;> simp [Builtin.append_,agu ht,sizeOf,typeInfo,hi,Builtin.lenOf,Builtin.firstCells,loadCells,loadCellsFrom,h.le,storeCells]
 obtain ⟨ad,rfl⟩:∃ ad,xa=some ad:=by
  obtain ⟨y,hy⟩:∃ y,(aB k)[0]?=some y:=by
   cases k with
   |nil=>exact absurd rfl hm0
   |cons y _=>exact ⟨_,rfl⟩
  obtain ⟨b',hb,_⟩:=vS 0 y hy;exact ⟨b',hb⟩
 have hnews:∀ j u,(aB k)[j]?=some u->w.cell? (ad.add j)=some u:=λj u hj=>by
  obtain ⟨b',hb,hx⟩:=vS j u hj;cases hb;exact hx
 have hkl:(aB k).length=k.length*i.size:=by rw [aP,hz1,aeo]
 by_cases hroom:l.length+k.length<=cap
 ·have hfit:=h.fit
  have hr:=run_append_room_cells (P:=prog) (w:=w) 59 59 5 i ht hi b o l.length cap ad k.length c (aB k) hkl hnews (λu hu=>vK _ u hu) hroom (λj hj=>by
    rw [aP]at hj;rw [hz1,aeo,hS.cellAt (o+l.length+j) _ (ajC (show o+l.length+j<cs.size by omega))];rfl) (λj hj=>hS.oC _)
  rw [<-hv,hz1,aeo]at hr;refine ⟨_,_,b,o,cap,eH cs (o+l.length) (aB k),hr,⟨by rw [aa7],by rw [aa7];exact hroom,h.max,by rw [lC];exact hfit,λj y hj=>?_⟩,Sat.sets (aB k) (o+l.length) hS⟩;have hcl:cs.toList.length=cs.size:=ad6;have hin:(o+l.length)+(aB k).length<=cs.size:=by rw [aP];omega
  rw [<-ahC,mV _ _ _ hin];have htl:(cs.toList.take (o+l.length)).length=o+l.length:=by rw [adt,hcl];omega
  by_cases hj2:j<l.length
  ·rw [ad2,aek oQ,alM,adU oQ,ahC];refine h.rd j y ?_;unfold aB at hj ⊢;rw [aef,aek (by rw [abl];exact hj2)]at hj;exact hj
  ·have hj3:=(acZ.1 hj).1;rw [aP,aa7]at hj3;rw [ad2,aew oQ,htl,aek (by rw [aP];omega)];unfold aB at hj ⊢;rw [aef,aew (by rw [abl];omega),abl]at hj;rw [<-hj];congr 1;omega
 ·have holds:∀ j u,(aB l)[j]?=some u->w.cell? ((⟨b,o,none⟩:Addr).add j)=some u:=λj u hj=>by
   have hadd:(⟨b,o,none⟩:Addr).add j=⟨b,o+j,none⟩:=by unfold Addr.add;split <;> simp_all
   rw [hadd];exact hS.cellAt (o+j) u (h.rd j u hj)
  have hz:i.zero=some (.int .u8 0):=hz0;have hmx:maxLen=9223372036854775807:=rfl;have hr:=run_append_grow (P:=prog) w 59 59 5 i _ ht hi hz ⟨b,o,none⟩ l.length cap (aB l) (by rw [aP,hz1,aeo]) holds ad k.length c (aB k) hkl hnews oQ oQ (growslice_fits oQ (by rw [hz2];omega));rw [<-hv]at hr;have hge:=grownCap_ge w (l.length+k.length) cap 5;have hcm:=grownCap_le_maxLen w (l.length+k.length) cap 5 oQ;have hA:=(hS.drop.drew).alloc (.cells ((aB l).toArray++(aB k).toArray++Builtin.zeroCells (Value.int .u8 0).cells (grownCap w (l.length+k.length) cap 5-(l.length+k.length))) 5);refine ⟨_,_,_,0,_,_,hr,⟨by rw [aa7];rfl,by rw [aa7];exact hge,hcm,?_,λj y hj=>?_⟩,hA⟩
  ·simp only [Array.size_append,abA,size_zeroCells,aP];have:(Value.int IntKind.u8 0).cells.size=1:=rfl;rw [this];omega
  ·rw [aeE,<-ahC];simp only [apy];have e:aB (l++k)=aB l++aB k:=by unfold aB;rw [aef]
   rw [e]at hj;rw [aek (acZ.1 hj).1];exact hj
theorem ady {ops:Array Oper}{rest:List Oper}{a:Act}{Q:Exit->Act->World->Prop}{dst:Option Tmp}{pos:String}{after:Array Edge}{s y:Operand} (h:BO v l b o cap cs) (hS:Sat w0 w (pt b (.cells cs 5 (0,0))::R)) (hv:a.eval s=v) (hy:a.eval y=x) (hx:aW 1 x (aB k) w) (hl:l.length+k.length<=1099511627776)
  (hK:∀ v' b' o' cap' cs' w',BO v' (l++k) b' o' cap' cs'->Sat w0 w' (pt b' (.cells cs' 5 (0,0))::R)->wpList prog ops Q rest (a.put dst v') w') :
  wpList prog ops Q (⟨dst,.call { callee:= .builtin .append,args:=#[s,y],argTypes:=#[59,59] },59,pos,after,none⟩::rest) a w:=
 ae5 rfl λ_ hK'=>by
  obtain ⟨v',w',b',o',cap',cs',hr,h2,h3⟩:=alP h hS hx hl;unfold Oper.wp execOp;simp only [resolve,invoke,builtin,aed,aep,adW,ahS,aes,ah3,hv,hy,hr];exact hK' _ _ (hK v' b' o' cap' cs' w' h2 h3)
theorem BO.set (h:BO v l b o cap cs){i:Nat} (hi:i<l.length) (z:UInt8):BO v (l.set i z) b o cap (cs.setIfInBounds (o+i) (.int .u8 z.toNat)):=by
 refine ⟨by rw [ahu];exact h.eq,by rw [ahu];exact h.le,h.max,by rw [apC];exact h.fit,λj y hj=>?_⟩;have hfit:=h.fit;have hle:=h.le;have e:aB (l.set i z)=(aB l).set i (.int .u8 z.toNat):=by unfold aB;rw [List.map_set]
 rw [e]at hj;rw [<-ahC,aoR];by_cases hij:i=j
 ·subst hij;rw [apv (by rw [aP];exact hi)]at hj;rw [apv (by rw [ad6];omega)];exact hj
 ·rw [apE hij]at hj;rw [apE oQ,ahC];exact h.rd j y hj
end
theorem agO {x:aj.aJ} (h0:(aj.encode x).2=0) (hk:x.key.length=32):(aj.encode x).1.length<=41+x.data.length:=by
 rw [Seg.Ub h0 hk];unfold aj.size;split
 ·omega
 ·split <;> omega
theorem XV {es:List (aj.aJ×Value)} (hk:∀ p∈es,p.1.key.length=32) (h:aW 34 lv (kR es) w){i:Nat}{p:aj.aJ×Value} (hi:es[i]?=some p) :
  ∃ bk off c,lv=.slice (some ⟨bk,off,none⟩) es.length c/\w.rangeAt bk (off+i*34) (jd p.1 p.2):=
 iL (f:=λp:aj.aJ×Value=>jd p.1 p.2) (λp hp=>wF p.1 p.2 (hk p hp)) h hi aG
theorem alL (es:List (aj.aJ×Value)) (hn:es.length<=1000) (hr:Ro w0 F (aW 34 lv (kR es))) (he:∀ p∈es,E5 w0 F p) (hd:∀ p∈es,p.1.data.length<=100) (h:Sat w0 w F) :
  Calls prog 33 #[lv] w (aN λv w'=>∃ (bv gv:Value) (lb:Bs),v=.tuple #[bv,gv]/\8<=lb.length/\lb.length<=8+es.length*141/\Sat w0 w' (aY bv lb::F)):=by
 obtain ⟨la,lc,rfl⟩:=iP (f:=λp:aj.aJ×Value=>jd p.1 p.2) (λp hp=>wF p.1 p.2 (he p hp).key) (hr w h) aG;have Hr:=uQ hr;have He:=uQ he;have Hd:=uQ hd;have Hn:=uQ hn;clear hr he hd hn;go_enter func33,ntmps33;go_wp2_with fail;refine (alu h).mono ?_;rintro ee w1 ⟨v,rfl,mb,rfl,h1⟩;clear h;go_wp2_with fail
 go_loopg [4,5,6] es.length (λg bq gq iq wr=>∃ (i:Nat) (lb:Bs) (gs:List Value),g=es.length-i/\i<=es.length/\iq=.int .i64 i/\8<=lb.length/\lb.length<=8+i*141/\gs.length<=34*i /\
  Sat w0 wr (aY bq lb::aC 71 34 gq gs::F))
 case atStart=>exact ⟨0,[72,79,65,82,68,83,69,71],[],rfl,ad4 _,rfl,by decide,by decide,ad4 _,(Sat.dO.2 h1).sb⟩
 case round=>
  obtain ⟨i,lb,gs,rfl,hi,rfl,hb1,hb2,hg,hS⟩:=hrel;clear h1;have Hb:=uQ (And.intro hb1 (And.intro hb2 hg));clear hb1 hb2 hg;by_cases hlt:i<es.length;rotate_left
  ·obtain rfl:i=es.length:=by omega
   have c1:¬ (es.length:Int)<(es.length:Int):=oQ;clear hlt hi;go_wp2_with fail
   go_ret2
   exact ⟨_,rfl,_,⟨_,rfl⟩,lb,Hb.o.1,Hb.o.2.1,hS.sb⟩
  have c1:(i:Int)<(es.length:Int):=oQ;have hwi:IntKind.i64.wrap ((i:Int)+1)=(i:Int)+1:=acO _ yP0;obtain ⟨p,hp⟩:∃ p,es[i]?=some p:=⟨_,aaJ hlt⟩;have hpm:=acr hp;have hpe:=He.o p hpm;have Om:=uQ (Hd.o p hpm);obtain ⟨bk,off,c',e0,hc⟩:=XV (λp hp=>(He.o p hp).key) (Hr.o _ hS.drop.drop) hp;cases e0
  have HC:=uQ (λ(w':World) (hw:Sat w0 w' F)=>show w'.rangeAt bk (off+i*34) (jd p.1 p.2) from by
   obtain ⟨DX,off',c'',e0,hc⟩:=XV (λp hp=>(He.o p hp).key) (Hr.o _ hw) hp;cases e0;exact hc)
  obtain ⟨e,dv⟩:=p;obtain ⟨hkey,hrd,hcap⟩:=hpe;obtain ⟨da,dn,dc,rfl,hdn,hdc⟩:=hcap;obtain rfl:dn=e.data.length:=by
   obtain ⟨a',n',c',he,hl,_⟩:=hrd _ hS.drop.drop;cases he;rw [aP,aeo]at hl;exact hl.symm
  have dQ:=uQ hkey;have FP:=uQ hrd;have aS:=uQ hlt;clear hp hpm hkey hrd hlt hi;dsimp only at Om HC hc;go_wp2_with ((with_reducible refine bC ⟨?_⟩);refine iD (b:=bk) (o:=off+i*34) (jd e (.slice da e.data.length dc)) ah hc underlying71 rfl (by rw [wF e _ dQ.o];exact yw) ?_);refine (alf e dQ.o da dc (Ro.os FP.o) hS).mono ?_;rintro ee w2 ⟨v,rfl,bv,rfl,⟨ba,bn,bc,rfl⟩,h2⟩;clear hS hc;by_cases h0:(aj.encode e).2=0;rotate_left
  ·have hb:((aj.encode e).2==0)=false:=by rw [ad3];exact h0
   clear h0;generalize (aj.encode e).2=er at *
   go_wp2_with fail
   go_roundg (es.length-(i+1))
   case measure=>have:=aS.o;omega
   case rel=>exact ⟨i+1,lb,gs,rfl,aS.o,by first|rfl|go_num,Hb.o.1,by have:=Hb.o.2.1;omega,by have:=Hb.o.2.2;omega,h2.drop⟩
  have Vl:=uQ (agO h0 dQ.o);rw [h0];clear h0;generalize hE:(aj.encode e).1=E at *
  clear hE;have zC:=Sat.rd h2;have h3:Sat w0 w2 (aY u4 lb::aC 71 34 u5 gs::F):=h2.drop;clear h2;go_wp2_with (with_reducible apply fZ);refine ⟨vg h3 ah ah zC (by have:=Vl.o;have:=Om.o;have:=Hb.o.2.1;have:=aS.o;have:=Hn.o;omega) ?_⟩;intro WH WO bc2 w4 h4;clear zC h3;have hc:=HC.o _ h4.drop.drop;have hgl:gs.length<=2147483648:=by have:=Hb.o.2.2;have:=aS.o;have:=Hn.o;omega
  generalize zy:lb++E=LL at *
  have Va:=uQ (show LL.length=lb.length+E.length by rw [<-zy,aa7]);clear zy
  go_wp2_with (first
   |((with_reducible refine bC ⟨?_⟩);refine iD (b:=bk) (o:=off+i*34) (jd e (.slice da e.data.length dc)) ah hc underlying71 rfl (by rw [wF e _ dQ.o];exact yw) ?_)
   |((with_reducible refine aft ⟨?_⟩);refine anZ h4 ah dQ.o ?_;intro bN wN hN)
   |(with_reducible apply fZ))
  refine ⟨jF 71 34 64 au hN ah ah (aU (aU aK)) aK (by rw [dJ _ _ dQ.o]) (ab1 1) (JQ _ _ _ _) hgl (by rw [dJ _ _ dQ.o];decide) aG rfl ?_⟩;intro bA nA cA wA hA;clear hN h4 hc;go_wp2_with fail
  go_roundg (es.length-(i+1))
  case measure=>have:=aS.o;omega
  case rel=>exact ⟨i+1,LL,gs++(bV e (.slice da e.data.length dc)).toList,rfl,aS.o,by first|rfl|go_num,by have:=Va.o;have:=Hb.o.1;omega,by have:=Va.o;have:=Vl.o;have:=Om.o;have:=Hb.o.2.1;omega,by have x8:(bV e (.slice da e.data.length dc)).toList.length=34:=(ad6).trans (dJ _ _ dQ.o);rw [aa7,x8];have:=Hb.o.2.2;omega,hA.sb⟩
open Go Go.Sl Go.ak Go.ChangeShapes Go.WideShapes Go.RowKit
section
variable {enc:TypeId×Value->H}{W:World}
theorem akf {t:TypeId}{fuel:Nat}{cs:List Value}{x:DataW H×List MemPlace}{k:Nat} (ht:prog.underlying t=some (.array k 5)) (hk:prog.cellsOf t=k) (h:DataW.trod enc prog W base spare held fuel t cs=some x) :
  ∃ l:Bs,aB l=cs/\l.length=k:=by
 obtain ⟨xs,m,_,_,hl,hxl,hf⟩:=DataW.trod_array ht h;have e1:prog.cellsOf 5=1:=by kernel_rfl
 rw [hk]at hl;have hz:∀ i,i<k->∃ z:Int,cs[i]?=some (.int .u8 z)/\(Lit.int .u8 z).wf=true:=by
  intro i hi;have h0:=hf i hi;rw [aaJ oQ,e1,aeo]at h0;obtain ⟨z,q1,_,q3⟩:=DataW.trod_int underlying5 h0;refine ⟨z,?_,q3⟩;have:((cs.drop i).take 1)[0]?=some (.int .u8 z):=by rw [q1];rfl
  rw [alM,adU aG,aoz]at this;exact this
 obtain ⟨zs,z1,z2⟩:=Z5 hz;have hcs:cs=zs.map (.int .u8):=by
  apply apV;intro i;rw [ad1];by_cases hi:i<k
  ·have:=(z2 i _ (aaJ oQ)).1;rw [this,aaJ (show i<zs.length by omega)];rfl
  ·rw [aiT oQ,aiT oQ];rfl
 refine ⟨IC zs,?_,by unfold IC;rw [abl];exact z1⟩;rw [WV,hcs];intro z hz;obtain ⟨i,hi,rfl⟩:=aoI hz;exact (z2 i _ (aaJ hi)).2
structure Dw (W:World) (p:aj.aJ×Value):Prop where
 key:p.1.key.length=32
 tag:GV p.1.tag
 rd:aW 1 p.2 (aB p.1.data) W
 cap:nN p.2
theorem ake {fuel:Nat}{cs:List Value}{x:DataW H×List MemPlace} (h:DataW.trod enc prog W base spare held fuel 71 cs=some x):∃ p:aj.aJ×Value,jd p.1 p.2=cs/\Dw W p:=by
 obtain ⟨hl,hf⟩:=aa1 underlying71 h;have e34:prog.cellsOf 71=34:=by kernel_rfl
 have e1:prog.cellsOf 3=1:=by kernel_rfl
 have e2:prog.cellsOf 34=32:=by kernel_rfl
 have e3:prog.cellsOf 59=1:=by kernel_rfl
 have e5:prog.cellsOf 5=1:=by kernel_rfl
 rw [e34]at hl;obtain ⟨n0,y0,h0⟩:=hf 0 _ rfl;obtain ⟨n1,y1,h1⟩:=hf 1 _ rfl;obtain ⟨n2,y2,h2⟩:=hf 2 _ rfl;simp only [List.getElem_toArray,List.getElem_cons_zero,List.getElem_cons_succ,e1,e2,e3,apP]at h0 h1 h2;obtain ⟨z0,q0,_,w0⟩:=DataW.trod_int underlying3 h0;obtain ⟨kl,k1,k2⟩:=akf underlying34 e2 h1;have hd:∃ v,(cs.drop 33).take 1=[v]:=by
  have:((cs.drop 33).take 1).length=1:=by rw [adt,adX];omega
  exact List.length_eq_one_iff.1 this
 obtain ⟨dv,hdv⟩:=hd;rw [hdv]at h2;obtain ⟨l5,r5,c5⟩:=ZB underlying59 underlying5 e5 h2;refine ⟨(⟨z0,kl,l5⟩,dv),?_,k2,bounds_i64 w0,r5,c5⟩;show Value.int .i64 z0::(aB kl++[dv])=cs;have s1:cs=cs.take 1++((cs.drop 1).take 32++(cs.drop 33).take 1):=by
  have a1:cs=cs.take 1++cs.drop 1:=(aeX 1 cs).symm;have a2:cs.drop 1=(cs.drop 1).take 32++(cs.drop 1).drop 32:=(aeX 32 _).symm;have a3:(cs.drop 1).drop 32=(cs.drop 33).take 1:=by rw [apD,adZ yM0]
  rw [a3]at a2;rw [<-a2];exact a1
 rw [s1,q0,<-k1,hdv];rfl
theorem Dw.ro {p:aj.aJ×Value} (h:Dw W p):E5 W [Sl.old W] p:=⟨h.key,LC h.rd,h.cap⟩
end
structure PC where
 n:Int
 es:List (aj.aJ×Value)
 ev:Value
 rest:Bs
 rv:Value
 bad:Bool
 at_:Int
 plain:Bool
def uX (d:PC):List Value:=[.int .i64 d.n,d.ev,d.rv,.bool d.bad,.int .i64 d.at_,.bool d.plain]
structure PC.At (W:World) (d:PC):Prop where
 n:GV d.n
 rd:aW 34 d.ev (kR d.es) W
 cap:nN d.ev
 ents:∀ p∈d.es,Dw W p
 rr:aW 1 d.rv (aB d.rest) W
 rc:nN d.rv
 at_:GV d.at_
structure OD (w0:World) (F:List aF) (d:PC):Prop where
 rd:Ro w0 F (aW 34 d.ev (kR d.es))
 cap:nN d.ev
 ents:∀ p∈d.es,E5 w0 F p
 rr:Ro w0 F (aW 1 d.rv (aB d.rest))
 rc:nN d.rv
theorem PC.At.ro {W:World}{d:PC} (h:d.At W):OD W [Sl.old W] d:=⟨LC h.rd,h.cap,λp hp=>(h.ents p hp).ro,LC h.rr,h.rc⟩
section
variable {enc:TypeId×Value->H}{W:World}
theorem aiv {fuel:Nat}{v:Value}{x:DataW H×List MemPlace} (h:DataW.trod enc prog W base spare held fuel 72 [v]=some x) :
  ∃ es:List (aj.aJ×Value),aW 34 v (kR es) W/\nN v/\∀ p∈es,Dw W p:=by
 obtain ⟨elems,h1,h2,h3⟩:=Sm underlying72 (k:=34) au oQ h;obtain ⟨ds,h4,h5⟩:=KI (f:=λp:aj.aJ×Value=>jd p.1 p.2) (p:=λd=>Dw W d) elems λcs hcs=>by
  obtain ⟨_,n,y,h6⟩:=h3 cs hcs;exact ake h6
 refine ⟨ds,?_,h2,h5⟩;unfold kR;rw [List.flatMap_def,h4];exact h1
theorem akg {fuel:Nat}{cs:List Value}{x:DataW H×List MemPlace} (h:DataW.trod enc prog W base spare held fuel 83 cs=some x):∃ d:PC,uX d=cs/\d.At W:=by
 obtain ⟨hl,hf⟩:=aa1 underlying83 h;have e6:prog.cellsOf 83=6:=by kernel_rfl
 have e1:prog.cellsOf 3=1:=by kernel_rfl
 have e2:prog.cellsOf 72=1:=by kernel_rfl
 have e3:prog.cellsOf 59=1:=by kernel_rfl
 have e4:prog.cellsOf 4=1:=by kernel_rfl
 have e5:prog.cellsOf 5=1:=by kernel_rfl
 rw [e6]at hl
 match cs,hl with
 |[v0,v1,v2,v3,v4,v5],_=>
  obtain ⟨n0,y0,h0⟩:=hf 0 _ rfl;obtain ⟨n1,y1,h1⟩:=hf 1 _ rfl;obtain ⟨n2,y2,h2⟩:=hf 2 _ rfl;obtain ⟨n3,y3,h3⟩:=hf 3 _ rfl;obtain ⟨n4,y4,h4⟩:=hf 4 _ rfl;obtain ⟨n5,y5,h5⟩:=hf 5 _ rfl;simp only [List.getElem_toArray,List.getElem_cons_zero,List.getElem_cons_succ,e1,e2,e3,e4,apP,apK,List.take_succ_cons,afC]at h0 h1 h2 h3 h4 h5;obtain ⟨z0,q0,_,w0⟩:=DataW.trod_int underlying3 h0;obtain ⟨l1,r1,c1,i1⟩:=aiv h1;obtain ⟨l2,r2,c2⟩:=ZB underlying59 underlying5 e5 h2;obtain ⟨b3,q3,_⟩:=DataW.trod_bool underlying4 h3;obtain ⟨z4,q4,_,w4⟩:=DataW.trod_int underlying3 h4;obtain ⟨b5,q5,_⟩:=DataW.trod_bool underlying4 h5;simp only [List.cons.injEq,and_true]at q0 q3 q4 q5;subst q0;subst q3;subst q4;subst q5;exact ⟨⟨z0,l1,v1,l2,v2,b3,z4,b5⟩,rfl,bounds_i64 w0,r1,c1,i1,r2,c2,bounds_i64 w4⟩
theorem aix {fuel:Nat}{v:Value}{x:DataW H×List MemPlace} (h:DataW.trod enc prog W base spare held fuel 22 [v]=some x) :
  ∃ ds:List PC,aW 6 v (ds.flatMap uX) W/\nN v/\∀ d∈ds,d.At W:=by
 obtain ⟨elems,h1,h2,h3⟩:=Sm underlying22 (k:=6) au oQ h;obtain ⟨ds,h4,h5⟩:=KI (f:=uX) (p:=λd=>d.At W) elems λcs hcs=>by
  obtain ⟨_,n,y,h6⟩:=h3 cs hcs;exact akg h6
 refine ⟨ds,?_,h2,h5⟩;rw [List.flatMap_def,h4];exact h1
end
open Go.ak
theorem Xv:∀ (fs:List (aj.aJ×Value)) (i:Nat) (p:aj.aJ×Value),fs[i]?=some p->∃ G,uI fs=star (aY p.2 p.1.data) G
 |[],_,_,h=>by cases h
 |x::fs,0,p,h=>by
  obtain rfl:x=p:=by simpa using h
  exact ⟨_,rfl⟩
 |x::fs,i+1,p,h=>by
  obtain ⟨G,hG⟩:=Xv fs i p yL0;refine ⟨star (aY x.2 x.1.data) G,?_⟩;show star (aY x.2 x.1.data) (uI fs)=_;rw [hG,xg]
theorem agv {fs:List (aj.aJ×Value)} (hk:∀ p∈fs,p.1.key.length=32) (h:Sat w0 w (uI fs::R)):∀ p∈fs,E5 w0 (uI fs::R) p:=λp hp=>by
 obtain ⟨i,hi⟩:=List.getElem?_of_mem hp;obtain ⟨G,hG⟩:=Xv fs i p hi;refine ⟨hk p hp,λw' hw=>?_,?_⟩
 ·rw [hG]at hw;exact Sat.rd (Sat.star.1 hw)
 ·rw [hG]at h;exact (O5 (Sat.star.1 h)).1
theorem aa6 {ds:List PC}{i:Nat}{d:PC} (h:aW 6 lv (ds.flatMap uX) w) (hi:ds[i]?=some d):∃ bk off c,lv=.slice (some ⟨bk,off,none⟩) ds.length c/\∀ j v,(uX d)[j]?=some v->w.cell? ⟨bk,off+i*6+j,none⟩=some v:=
 iL (f:=uX) (k:=6) (λ_ _=>rfl) h hi aG
end Go.Proofs.Y
namespace Go.Seg
open Go.ak
open Go.aj (Bs dK encs dV gy aJ)
open Go.Rep
section
variable {n n2:Nat}{ds ps:List aJ}{L L2:Log}{M M2:ak}{C C0 C2:List (List aJ)}{c c2:Nat}{d:aJ}
end
theorem QL:∀ {l l':List Int},l.Pairwise (· < ·)->l'.Pairwise (· < ·)->(∀ p,p∈l↔p∈l')->l=l'
 |[],[],_,_,_=>rfl
 |[],b::l',_,_,h=>by have:=(h b).2 (.head _);cases this
 |a::l,[],_,_,h=>by have:=(h a).1 (.head _);cases this
 |a::l,b::l',h1,h2,h=>by
  obtain ⟨a1,a2⟩:=aeZ.1 h1;obtain ⟨b1,b2⟩:=aeZ.1 h2;have hab:a=b:=by
   rcases ad9.1 ((h a).1 (.head _)) with e|h3
   ·exact e
   ·rcases ad9.1 ((h b).2 (.head _)) with e|h4
    ·exact e.symm
    ·have:=b1 a h3;have:=a1 b h4;omega
  subst hab
  congr 1
  refine QL a2 b2 λp=>?_;have:=h p;rw [ad9,ad9]at this;constructor
  ·intro hp;rcases this.1 (.inr hp) with e|h3
   ·subst e;have:=a1 p hp;omega
   ·exact h3
  ·intro hp;rcases this.2 (.inr hp) with e|h3
   ·subst e;have:=b1 p hp;omega
   ·exact h3
section
variable {n:Nat}{ds:List aJ}{L:Log}{M:ak}{C C0:List (List aJ)}{c:Nat}{d x:aJ}{xe:aJ}
end
end Go.Seg
namespace Go.aA
open Go.ak
open Go.Rep (Use)
open Go.Seg (aZ)
def fin (n:Int) (us:List Use) (i:Nat):Bool:=decide (i=us.length) && (decide (0<i) && decide ((us.getD (i-1) ⟨0,0,0⟩).seg=n))
def JV (sz:Int->Int) (s:Int) (u:Use):Bool:=decide (u.seg=s) && (decide (u.size=sz s) && decide (u.live<=u.size))
def wH (sz:Int->Int) (n:Int) (us:List Use):List Int->Nat->Bool
 |[],i=>fin n us i
 |s::ss,i=>if n<s then fin n us i else match us[i]? with
  |none=>false
  |some u=>if JV sz s u=true then wH sz n us ss (i+1) else false
def fits (L:Seg.Log) (us:List Use) (n:Int):Bool:=wH L.size n us L.aH 0
theorem ahc {sz:Int->Int}{n:Int}{us:List Use} (hu:∀ u∈us,u.seg<=n/\u.size=sz u.seg/\u.live<=u.size) (hl:us.getLast?.map (·.seg)=some n) :
  ∀ (ss:List Int) (i:Nat) (rest:List Int),ss=(us.drop i).map (·.seg)++rest->(∀ s∈rest,n<s)->i<=us.length->wH sz n us ss i=true:=by
 have hfin:fin n us us.length=true:=by
  cases us with
  |nil=>cases hl
  |cons u us=>
   unfold fin;have e:(u::us).getLast?=some ((u::us).getD ((u::us).length-1) ⟨0,0,0⟩):=by
    rw [aoy,adV];rw [aaJ yF0];rfl
   rw [e]at hl;simp only [aiM,Option.some.injEq]at hl;rw [hl];simp
 intro ss
 induction ss with
 |nil=>
  intro i rest hs hr hi;have:=aeO List.length hs;simp only [ae0,aa7,abl,adX]at this;obtain rfl:i=us.length:=by omega
  exact hfin
 |cons s ss ih=>
  intro i rest hs hr hi;by_cases hlt:i<us.length
  ·have hd:us.drop i=us[i]::us.drop (i+1):=agf hlt;rw [hd,aes,aiQ]at hs;obtain ⟨h1,h2⟩:=List.cons.inj hs;obtain ⟨u1,u2,u3⟩:=hu us[i] (apn hlt);unfold wH;rw [abL oQ,aaJ hlt];simp only;rw [adU (by unfold JV;rw [h1,u2];simp;omega)];exact ih (i+1) rest h2 hr hlt
  ·obtain rfl:i=us.length:=by omega
   rw [ao4,ah3,aeV]at hs;have:=hr s (by rw [<-hs];exact List.mem_cons_self);unfold wH;rw [adU this];exact hfin
def lies (p:aZ) (sz:Int->Int):Bool:=decide (8<=p.at_) && (decide (41<=p.size) && decide (p.size<=sz p.seg-p.at_))
def sizes (us:List Use):Int->Int:=us.foldl (λf u=>λs=>if s=u.seg then u.size else f s) λ_=>0
theorem acH (us:List Use) (u:Use):sizes (us++[u])=λs=>if s=u.seg then u.size else sizes us s:=by unfold sizes;rw [apd];rfl
theorem amG {us:List Use} (h:(us.map (·.seg)).Nodup){u:Use} (hu:u∈us):sizes us u.seg=u.size:=by
 rw [<-List.reverse_reverse us]at h hu ⊢;generalize us.reverse=r at *
 induction r with
 |nil=>cases hu
 |cons v r ih=>
  rw [List.reverse_cons]at h hu ⊢;rw [acH];rw [aef,List.nodup_append]at h;rcases aeQ.1 hu with hu|hu
  ·have hne:u.seg≠v.seg:=h.2.2 _ (adu.2 ⟨u,hu,rfl⟩) _ yF0;simp only;rw [abL hne];exact ih h.1 hu
  ·rw [aeG.1 hu];simp
section
variable {T:Kept}{s1 s2 s:ByteArray}{b1 b2 b:Bs}{K:Nat}{M:ak}
end
theorem Yq {M:ak}{lim:Int} (hoff:M.off=false) (s:Int):s∈(Seg.fresh M lim).aH↔(0<=s/\s<1048576)/\∃ i,bH M.now (Seg.name s)=some i:=by
 constructor
 ·intro hs;unfold Seg.Log.aH at hs;obtain ⟨x,hx,rfl⟩:=adu.1 hs;obtain ⟨t,ht,hn,rfl⟩:=Seg.BK hx;obtain ⟨a,b,c⟩:=Seg.CQ hn;refine ⟨⟨a,b⟩,?_⟩;simp only;rw [c];exact Seg.Z4 ht
 ·rintro ⟨⟨a,b⟩,i,hi⟩;have:=Seg.ahl (lim:=lim) hoff a b hi;unfold Seg.nf at this;exact ae2 this
end Go.aA
namespace Go.Seg
open Go.ak
open Go.aj (Bs dK encs dV gy aJ)
open Go.Rep
structure nD (L:Log) (c:Nat) (us:List Use) (ps:List (Bs×aZ)):Prop where
 aH:us.map (·.seg)=L.aH.take c
 use:∀ u∈us,0<=u.live/\u.live<=u.size/\u.size=L.size u.seg/\u.size<=33554432
 key:∀ q∈ps,q.1.length=32
 rise:ps.Pairwise λa b=>a.1<b.1
 plc:∀ q∈ps,8<=q.2.at_/\41<=q.2.size/\q.2.at_+q.2.size<=L.size q.2.seg/\q.2.seg∈L.aH.take c
section
variable {K r E B n c:Nat}{L:Log}{M:ak}{C:List (List aJ)}
end
section
variable {n:Nat}{L:Log}{M:ak}{C:List (List aJ)}{c:Cal}
end
end Go.Seg
namespace Go.aA
open Go.ak
open Go.Seg (Log Keeps Holds HG nD mag)
open Go.aj (dK encs dV gy aJ)
open Go.Rep (Use)
section
variable {n K r E B:Nat}{L:Log}{M:ak}{C:List (List aJ)}{N:Int}{b1 b2:aj.Bs}
theorem Di (k:Int):tmp≠Seg.name k:=λe=>by
 rcases L9 k with q|⟨q,_⟩
 ·rw [q]at e;exact Un e
 ·rw [<-e]at q;exact absurd q aG
end
open Go.ak
open Go.Seg (Log Keeps Holds HG nD mag aZ)
open Go.aj (dK encs dV gy aJ)
open Go.Rep (Use)
theorem am6 (M:ak):M.dH.1.now=M.now:=by
 obtain ⟨_,e1,e2,e3,e4⟩:=M.jf;unfold ak.dH;split;· rfl
 split;· exact e2
 exact e2
def Grown (M M':ak):Prop:=∀ p∈M'.now,p∈M.now\/∃ k,p.1=Seg.name k
theorem Grown.refl (M:ak):Grown M M:=λp hp=> .inl hp
theorem Grown.trans {A B D:ak} (h:Grown A B) (k:Grown B D):Grown A D:=λp hp=>by
 rcases k p hp with q|q
 ·exact h p q
 ·exact .inr q
section
variable {n K B c:Nat}{L:Log}{M M':ak}{C:List (List aJ)}{N:Int}{b1 b2:aj.Bs}{us:List Use}
theorem ahb (hL:L.Ok){ps:List (aj.Bs×aZ)} (ho:nD L c us ps) (hc:L.aH.take c=L.aH) (hN:L.aH.getLast?=some N):fits L us N=true:=by
 have hle:∀ s∈L.aH,s<=N:=λs hs=>by
  obtain ⟨l',hl'⟩:=List.getLast?_eq_some_iff.1 hN;have hr:=Seg.CY hL;rw [hl']at hs hr;rcases aeQ.1 hs with hs|hs
  ·have:=(anr.1 hr).2.2 s hs N yF0;omega
  ·rw [aeG.1 hs];exact ape _
 have QF:us.map (·.seg)=L.aH:=by rw [ho.aH,hc]
 unfold aA.fits;refine ahc (λu hu=>?_) ?_ _ 0 [] (by rw [apP,QF,aei]) (λs hs=>by cases hs) (ad4 _)
 ·have hm:u.seg∈L.aH:=by rw [<-QF];exact adu.2 ⟨u,hu,rfl⟩
  obtain ⟨_,u2,u3,_⟩:=ho.use u hu;exact ⟨hle _ hm,u3,u2⟩
 ·rw [<-apw,QF];exact hN
end
end Go.aA
