import Derived.Test.YtadhomdmbcldkaaGreatDoorJ4
set_option linter.unusedSimpArgs false
variable {A:Prop}
open Go.Proofs.Tryz
set_option maxRecDepth 20000
set_option linter.unusedVariables false
set_option maxHeartbeats 128000000
open Go Go.Sl Go.MapKept Go.RowKit
open Go.Proofs.YtadhomdmbcldkaaGreatDoor Go.Proofs.Y
variable {w0 w:World}{F R:List aO}{v bv dv x lv:Value}{p q m K B b B':Nat}{L:aB.aS}{M:aG.aG}{s:Int×Int}
theorem zE0(h:A:=by rw [abJ];have:=Hl.o;omega):A:=h
theorem zF0(h:A:=by rw [agQ];exact yu _):A:=h
theorem zQ0(h:A:=by rw [h.l];exact abI.2 ⟨d,hd,rfl⟩):A:=h
namespace Go.aB
theorem OB (n:Int) (h1:0<=n) (h2:n<1048576):iD (name n)=(n,true):=by
 unfold name;rw [abB oQ];unfold iD;have hl:(jW++lu n.toNat 8).length=12:=by rw [aay,zU];rfl
 have hd:(jW++lu n.toNat 8).drop 4=lu n.toNat 8:=rfl;have ht:(jW++lu n.toNat 8).take 4=jW:=rfl;have hv:=auN 8 n.toNat oQ;simp only [hl,hd,ht,SC,hv,true_and];rw [abL oQ];simp only [Prod.mk.injEq,and_true];omega
structure AL where
 kind:Int
 e:ay.aT
 n:Int
 p:bT
 l:List Int
def AL.cut (c:AL):AL:=⟨c.kind,ay.aag 300 c.e,c.n,c.p,c.l.take 60⟩
end Go.aB
namespace Go.ay
def qQ (x:Nat):Nat:=(x/2) ^^^ (if x%2=1 then 3988292384 else 0)
theorem Qs (a b:Nat):(a ^^^ b)/2=a/2 ^^^ b/2:=by
 have h:=Nat.shiftRight_xor_distrib (a:=a) (b:=b) (i:=1);simpa [Nat.shiftRight_eq_div_pow] using h
theorem avk (a b:Nat):(a ^^^ b)%2=(a%2+b%2)%2:=by
 have h:=Nat.testBit_xor a b 0;rw [Nat.testBit_zero,Nat.testBit_zero,Nat.testBit_zero]at h;rcases Nat.mod_two_eq_zero_or_one a with h1|h1 <;> rcases Nat.mod_two_eq_zero_or_one b with h2|h2 <;> rcases Nat.mod_two_eq_zero_or_one (a ^^^ b) with h3|h3 <;> simp [h1,h2,h3]at h ⊢
theorem Je (u z:Nat):qQ (u ^^^ z)=(u/2) ^^^ ((z/2) ^^^ (if (u%2+z%2)%2=1 then 3988292384 else 0)):=by
 unfold qQ;rw [Qs,avk,Nat.xor_assoc]
theorem ZI (y:Nat):qQ (qQ (qQ (qQ y)))=zq y:=by
 have a:=(Nat.xor_zero y).symm
 conv=>lhs;rw [a]
 rw [Je,Je,Je,Je];rw [show y/2/2/2/2=y/16 by omega];unfold zq
 congr 1
 have b:y%2=(y%16)%2:=oQ;have c:y/2%2=(y%16)/2%2:=oQ;have d:y/2/2%2=(y%16)/2/2%2:=oQ;have e:y/2/2/2%2=(y%16)/2/2/2%2:=oQ;rw [b,c,d,e];have f:y%16<16:=oQ;clear b c d e a;generalize y%16=r at *
 revert r;decide +kernel
def wu (x c k:Nat):Nat:=if x%2≠c/2^k%2 then (x/2) ^^^ 3988292384 else x/2
theorem CV (x c k:Nat):wu x c k ^^^ (c/2^(k+1))=qQ (x ^^^ (c/2^k)):=by
 rw [Je];unfold wu;have e:c/2^(k+1)=c/2^k/2:=by rw [awx,Nat.div_div_eq_div_mul]
 rw [e];by_cases h:x%2=c/2^k%2
 ·rw [abB oQ,abB oQ,Nat.xor_zero]
 ·rw [abL h,abL oQ,Nat.xor_assoc,Nat.xor_comm 3988292384]
def zT (x c:Nat):Nat->Nat
 |0=>x
 |k+1=>wu (zT x c k) c k
theorem akV (x:Nat) (c:UInt8):zT x c.toNat 8=rD x c:=by
 have hc:=c.toNat_lt;have h0:zT x c.toNat 8=zT x c.toNat 8 ^^^ (c.toNat/2^8):=by rw [show c.toNat/2^8=0 by omega,Nat.xor_zero]
 rw [h0];show wu _ _ 7 ^^^ _=_;rw [CV _ _ 7];show qQ (wu _ _ 6 ^^^ _)=_;rw [CV _ _ 6];show qQ (qQ (wu _ _ 5 ^^^ _))=_;rw [CV _ _ 5];show qQ (qQ (qQ (wu _ _ 4 ^^^ _)))=_;rw [CV _ _ 4];show qQ (qQ (qQ (qQ (wu _ _ 3 ^^^ _))))=_;rw [ZI,CV _ _ 3];show zq (qQ (wu _ _ 2 ^^^ _))=_;rw [CV _ _ 2];show zq (qQ (qQ (wu _ _ 1 ^^^ _)))=_;rw [CV _ _ 1];show zq (qQ (qQ (qQ (wu _ _ 0 ^^^ _))))=_;rw [CV _ _ 0,ZI];rw [show c.toNat/2^0=c.toNat by rw [Nat.pow_zero,Nat.div_one]]
 rfl
theorem akU {x:Nat} (h:x<4294967296) (c k:Nat):wu x c k<4294967296:=by
 unfold wu;split
 ·exact DY oQ aU
 ·omega
theorem ZE {x:Nat} (h:x<4294967296) (c:Nat):∀ k,zT x c k<4294967296
 |0=>h
 |k+1=>akU (ZE h c k) c k
theorem ad8 {l:Bs}{i:Nat} (h:i<l.length):bD (l.drop i)=(l[i]'h).toNat+256*bD (l.drop (i+1)):=by
 rw [ajB h];rfl
end Go.ay
namespace Go.Proofs.Y
open Go.aG
theorem aoV (hL:L.Ok) (h:au w0 w (bC p m L::F)) :
  Calls prog 226 #[aW p] w (bf λv w'=>v=.int .i64 L.next/\au w0 w' (bC p m L::F)):=by
 obtain ⟨lv,hR⟩:=bC.open h;refine (atF hL.len hL.eU hR).mono ?_;rintro e w1 ⟨v,rfl,rfl,hS⟩;exact ⟨_,rfl,rfl,bC.oO hS⟩
theorem ato (l:List (Int×Int)) (n z:Int):jg l++[.int .i64 n,.int .i64 z]=jg (l++[(n,z)]):=by rw [Fq];rfl
theorem ZC (hL:L.Ok) (hM:M.Ok K) (rY:K+4<=1099511627776) (b:Bs) (hb0:b≠[]) (hbl:b.length<=16777216) (hr:Ro w0 F (bK 1 bv (aI b)))
  (h:au w0 w (bC p m L::aV m M::F)) :
  Calls prog 177 #[aW p,bv] w (bf λv w'=>v=.tuple #[OT (L.begin M b).2.1,dS (L.begin M b).2.2] /\
   au w0 w' (bC p m (L.begin M b).1.1::aV m (L.begin M b).1.2::F)):=by
 obtain ⟨ba,bn,bc,rfl,hbn⟩:=Kt hr (A:=ng) (au.ng.2 (h.gZ 2 [] rfl rfl));subst hbn;obtain ⟨i,hi,hz0,hz1,hz2⟩:=Aa;have Hg:=uQ (aB.aS.akR L M b);have HM:=uQ (aB.aS.WS (L:=L) hM);have HL:=uQ (hL.fA M);have Hr:=uQ hr;have Hb0:=uQ hb0;have I:=uQ hbl;clear hr hb0 hbl;go_enter func177,ntmps177;go_wp2_with (refine iR Lc aQ rfl ?_;intro q w1 hS1);refine (atx hL hM (au.sb aQ)).mono ?_;rintro e w2 ⟨v,rfl,rfl,hS2⟩;clear hS1 h hL hM;generalize L.fA M=S at *
 obtain ⟨⟨d,M1⟩,e1⟩:=S;by_cases c:e1=0;rotate_left
 ·have J:(e1==0)=false:=alE c;have a:=uQ (Hg.o.trans (abB c));clear c;go_wp2_with ((with_reducible refine eG ⟨?_⟩);refine jI aQ aA aF pQ fJ dG aC aA ?_;intro O f);refine ⟨rfl,_,uT rfl aQ aA dh underlying115 rfl aC,_,rfl,?_,?_⟩
  ·rw [a.o];rfl
  ·rw [a.o];exact au.sb f
 subst c;have H1:=uQ (Hg.o.trans (abL rfl));clear Hg;go_wp2_with fail;refine (aoV HL.o (au.pk aQ)).mono ?_;rintro e w3 ⟨v,rfl,rfl,Q⟩;clear hS2;have hs1:=uQ HL.o.next;have hfr:=uQ HL.o.dK;have N:=uQ HL.o.len;unfold aB.aS.nC at H1;have F6:=uQ (aB.JV d.next);by_cases hn:1048576<=d.next
 ·have a:=uQ (H1.o.trans (abL hn));generalize d.next=n at *
  go_wp2_with ((with_reducible refine eG ⟨?_⟩);refine jI aQ aA aF pQ fJ dG aC aA ?_;intro O f);refine ⟨rfl,_,uT rfl aQ aA dh underlying115 rfl aC,_,rfl,?_,?_⟩
  ·rw [a.o];rfl
  ·rw [a.o];exact au.sb f
 have H2:=uQ (H1.o.trans (abB hn));clear H1;have Hn:=uQ hn;have hnd:¬ 1048576<=d.next:=hn;clear hn;have R:=Au d.next Q;generalize T:d.next=n at *
 have QZ:=uQ T;clear T;go_wp2_with fail;refine R.mono ?_;rintro e w4 ⟨v,rfl,rfl,hS4⟩;clear R Q hnd;generalize aB.name n=nm at *
 obtain ⟨lv,hR⟩:=bC.xJ (au.pk aQ);have e0:w4.cell? ⟨p,0,none⟩=some (aW m):=hR.bI dh 0 rfl;go_wp2_with fail;refine (Ji HM.o oQ (au.pk aQ) nm F6.o).mono ?_;rintro e z ⟨v,rfl,rfl,B⟩;have U:=uQ (HM.o.dM nm);clear hS4 hR e0;generalize M1.dM nm=C at *
 obtain ⟨M2,e2⟩:=C;by_cases c:e2=0;rotate_left
 ·have J:(e2==0)=false:=alE c;have a:=uQ (H2.o.trans (abL c));clear c;go_wp2_with ((with_reducible refine eG ⟨?_⟩);refine jI aQ aA aF pQ fJ dG aC aA ?_;intro O f);refine ⟨rfl,_,uT rfl aQ aA dh underlying115 rfl aC,_,rfl,?_,?_⟩
  ·rw [a.o];rfl
  ·rw [a.o];exact bC.oO (lv:=lv) (au.sb f)
 subst c;have H3:=uQ (H2.o.trans (abB (λh=>h rfl)));clear H2;go_wp2_with fail;refine gK [9,10] (λw'=>w'.cell? ⟨p,0,none⟩=some (aW m)) aC ?_;have hG:z.drew.cell? ⟨p,0,none⟩=some (aW m):=B.drew.bI dh 0 rfl;refine rP 0 ?_ (y:=bV);refine rP 1 ?_ (y:=jF);refine rP 2 ?_ (y:=eY);refine rt 3 (h:=?_);refine rP 4 ?_ (y:=bV);refine rP 7 ?_ (y:=bV);refine dZ 5 aF aC (λK g=>?_);go_simp;have V:=B.drew.alloc (.cells #[.int .u8 72,.int .u8 79,.int .u8 65,.int .u8 82,.int .u8 68,.int .u8 83,.int .u8 69,.int .u8 71] 5);refine g _ _ (.inr (.inl (V.bI dh 0 rfl))) ?_;clear g K hG V;refine dZ 6 aF aC (λK g=>?_)
 have hcv:(convert 59 59 (.slice (some ⟨z.heap.size,0,none⟩) 8 8)).run prog ((z.alloc (.cells #[.int .u8 72,.int .u8 79,.int .u8 65,.int .u8 82,.int .u8 68,.int .u8 83,.int .u8 69,.int .u8 71] 5)).drew)=.ok (.slice (some ⟨z.heap.size,0,none⟩) 8 8) ((z.alloc (.cells #[.int .u8 72,.int .u8 79,.int .u8 65,.int .u8 82,.int .u8 68,.int .u8 83,.int .u8 69,.int .u8 71] 5 (8,9))).drew):=
  Lib.run_convert_bytes_const (P:=prog) z.drew 59 5 #[.int .u8 72,.int .u8 79,.int .u8 65,.int .u8 82,.int .u8 68,.int .u8 83,.int .u8 69,.int .u8 71] 8 8 underlying59 underlying5
 have W:=(B.alloc (.cells #[.int .u8 72,.int .u8 79,.int .u8 65,.int .u8 82,.int .u8 68,.int .u8 83,.int .u8 69,.int .u8 71] 5 (8,9))).drew;go_simp;refine g _ _ (.inr (.inl (W.bI dh 0 rfl))) ?_;clear g K;have X:=Hr.o _ (W.sb);have H:bK 1 (.slice (some ⟨z.heap.size,0,none⟩) 8 8) (aI aB.dL) ((z.alloc (.cells #[.int .u8 72,.int .u8 79,.int .u8 65,.int .u8 82,.int .u8 68,.int .u8 83,.int .u8 69,.int .u8 71] 5 (8,9))).drew):=by
  refine ⟨_,8,8,rfl,rfl,λj x hj=>⟨_,rfl,?_⟩⟩;rw [xw];have hjl:j<aB.dL.length:=by
   have:=(abM.1 hj).1;rw [bP]at this;exact this
  have hx:=(JQ (l:=aB.dL) W hjl 0).1;unfold aI at hj;rw [ab4,aaf hjl]at hj;cases hj;exact hx
 have G:aI b≠[]:=by
  intro h;apply Hb0.o;unfold aI at h;exact List.map_eq_nil_iff.1 h
 have o:(aI aB.dL).length+(aI b).length<=maxLen:=by rw [bP,bP];have:=I.o;unfold maxLen aB.dL;simp;omega
 have r:((aI aB.dL).length+(aI b).length)*i.bytes<=140737488355328:=by rw [bP,bP,hz2];have:=I.o;unfold aB.dL;simp;omega
 refine dZ 8 aF aC (λK g=>?_);refine atU (w0:=w0) (xs:=aI aB.dL) (b:=z.heap.size) (n:=8) (cap:=8) aA _ _ _ aA _ i _ underlying59 hi hz0 hz1 aA rfl (abG _) H W.drop aA aA X G o r ?_;intro b4 n4 k4 w6 s;clear hcv X H G o r W;have s:au w0 w6 (cZ (.slice (some ⟨b4,0,none⟩) n4 k4) (aB.dL++b)::aV m M2::pt q (.cells #[.int .i64 0,.int .i64 0,.int .i64 0] 115)::tq p m d lv::aK 148 2 lv (jg d.l)::F):=by
  have e:aI aB.dL++aI b=aI (aB.dL++b):=by unfold aI;rw [acy]
  rw [e]at s;exact au.sb s
 refine g _ _ (.inr (.inl (s.bI dh 0 rfl))) ?_;clear g K B;refine dZ 9 aF aC (λK g=>?_)
 (refine Bq aC aF aF aF ?_)
 refine (Ja U.o oQ (au.pk aQ) nm (aB.dL++b) yG0).mono ?_;rintro e w7 ⟨v,rfl,rfl,t⟩;refine g _ _ (.inl rfl) ?_;clear g K;refine rP 10 ?_ (y:=kR);refine fK aC ?_;clear s;have Lr:=uQ (U.o.append nm (aB.dL++b));generalize M2.append nm (aB.dL++b)=D at *
 obtain ⟨M3,e3⟩:=D;by_cases c:e3=0
 ·subst c;have a:=uQ (H3.o.trans (abL rfl));have c2:w7.cell? ⟨p,2,none⟩=some lv:=t.bI dh 2 rfl;have hwl:IntKind.i64.wrap (8+(b.length:Int))=8+(b.length:Int):=by rw [aiY];have:=I.o;omega
  obtain ⟨ii,hii,G,hy1,hy2⟩:=info_parts acO;have h7:=t.alloc (.cells #[.int .i64 n,.int .i64 (8+(b.length:Int))] 148);have hoc:∀ u∈(#[.int .i64 n,.int .i64 (8+(b.length:Int))]:Array Value).toList,u.oneCell'=true:=by
   intro u hu;simp only [ab9,ajW,av2]at hu;rcases hu with rfl|rfl <;> rfl
  have o:(jg d.l).length+2<=maxLen:=by rw [qx];have:=N.o;unfold maxLen;omega
  have r:((jg d.l).length+2)*ii.bytes<=140737488355328:=by rw [qx,hy2];have:=N.o;omega
  have h8:au w0 _ (aK 148 2 lv (jg d.l)::tq p m d lv::pt q (.cells #[.int .i64 0,.int .i64 0,.int .i64 0] 115)::aV m M3::F):=h7.sb;have hwf:IntKind.i64.wrap (d.dK+1)=d.dK+1:=by rw [aiY];have:=hfr.o;have:=N.o;omega
  go_wp2_with (first
   |(at_builtin;refine AA (w0:=w0) aA _ _ _ aA _ ii _ underlying144 hii G hy1 aA oQ aA aA hoc h8 (Dx _ _ _ 2 1 1 aA) o r ?_;intro v2 w8 oZ hne;obtain ⟨ab,an,ac,rfl⟩:=hne yD0;clear h8 h7 t c2 hoc o r hne)
   |((with_reducible refine dH ⟨?_⟩);refine jC aQ aA dh dG aF aC ?_)|((with_reducible refine eG ⟨?_⟩);refine jI aQ aA aF pQ fJ dG aC aA ?_;intro O f))
  refine ⟨rfl,_,uT rfl aQ aA dh underlying115 rfl aC,_,rfl,?_,?_⟩
  ·rw [a.o];rfl
  ·rw [a.o];have e:jg d.l++[.int .i64 n,.int .i64 (8+(b.length:Int))]=jg (d.l++[(n,8+(b.length:Int))]):=ato _ _ _;rw [e]at f;exact bC.oO (lv:= .slice (some ⟨ab,0,none⟩) an ac) (au.sb f)
 have H4:=uQ (H3.o.trans (abB c));have J:(e3==0)=false:=alE c;clear c H3;by_cases c:e3=11
 ·subst c;have H5:=uQ (H4.o.trans (abL rfl));have e0:w7.cell? ⟨p,0,none⟩=some (aW m):=t.bI dh 0 rfl;go_wp2_with fail;refine (BM Lr.o oQ (au.pk aQ) nm).mono ?_;rintro e w8 ⟨v,rfl,rfl,oZ⟩;clear t e0;generalize M3.dA nm=E at *
  obtain ⟨M4,e4⟩:=E;by_cases c:e4=0
  ·subst c;go_wp2_with ((with_reducible refine eG ⟨?_⟩);refine jI aQ aA aF pQ fJ dG aC aA ?_;intro O f);refine ⟨rfl,_,uT rfl aQ aA dh underlying115 rfl aC,_,rfl,?_,?_⟩
   ·rw [H5.o];rfl
   ·rw [H5.o];exact bC.oO (lv:=lv) (au.sb f)
  ·have J:(e4==0)=false:=alE c;have H6:=uQ (H5.o.trans (by rw [abB c]));clear c;go_wp2_with ((with_reducible refine eG ⟨?_⟩);refine jI aQ aA aF pQ fJ dG aC aA ?_;intro O f);refine ⟨rfl,_,uT rfl aQ aA dh underlying115 rfl aC,_,rfl,?_,?_⟩
   ·rw [H6.o];rfl
   ·rw [H6.o];exact bC.oO (lv:=lv) (au.sb f)
 ·have a:=uQ (H4.o.trans (abB c));have av3:(e3==11)=false:=alE c;clear c H4;go_wp2_with ((with_reducible refine eG ⟨?_⟩);refine jI aQ aA aF pQ fJ dG aC aA ?_;intro O f);refine ⟨rfl,_,uT rfl aQ aA dh underlying115 rfl aC,_,rfl,?_,?_⟩
  ·rw [a.o];rfl
  ·rw [a.o];exact bC.oO (lv:=lv) (au.sb f)
theorem atg (hl:L.l.getLast?=some s) (h:au w0 w (tq p m L lv::aK 148 2 lv (jg L.l)::F)) :
  ∃ bk n cap cs,lv=.slice (some ⟨bk,0,none⟩) (n+1) cap/\L9 L.l n cap cs/\cs[n*2]?=some (.int .i64 s.1)/\cs[n*2+1]?=some (.int .i64 s.2) /\
   au w0 w (tq p m L (.slice (some ⟨bk,0,none⟩) (n+1) cap)::pt bk (.cells cs 148 (0,0))::F):=WJ hl h
theorem Oa (e:ay.aT) (hk:e.key.length=32) (da:Option Addr) (dc:Nat) (hd:Ro w0 F (bK 1 (.slice da e.data.length dc) (aI e.data))) (hH:Ro w0 F iO) (Dk:e.data.length<=1099511627)
  (hL:L.Ok) (hM:M.Ok K) (rY:K+4<=1099511627776) (h:au w0 w (bC p m L::aV m M::F)) :
  Calls prog 131 #[aW p,.agg (dR e (.slice da e.data.length dc))] w (bf λv w'=>v=.tuple #[OT (L.append M e).2.1,dS (L.append M e).2.2] /\
   au w0 w' (bC p m (L.append M e).1.1::aV m (L.append M e).1.2::F)):=by
 obtain ⟨lv,hR⟩:=bC.xJ h;clear h;have u:=iw e (.slice da e.data.length dc) hk;have P:=uQ u;have Hd:=uQ hd;have HH:=uQ hH;have Hk:=uQ hk;have Q:=uQ Dk;have y:=uQ hL;have R:=uQ hM;have z:=uQ hL.len;have S:=uQ (show (ay.dI e).1.length<=16425 from aB.SL e hk);have A:=uQ (aB.aaK e);have Z:=uQ (aB.aS.MC (L:=L) (M:=M) (x:=e));have J:=uQ (aB.aS.Em (L:=L) (M:=M) (x:=e));have B:=uQ (aB.aS.CS (L:=L) (M:=M) (x:=e));clear u hd hH hk Dk hL hM;go_enter func131,ntmps131
 go_wp2_with (first
  |((with_reducible refine jy ⟨?_⟩);refine jB aQ aA (cs:=dR e (.slice da e.data.length dc)) rfl ?_;intro q3 w1 T)
  |(refine iR Lc aQ rfl ?_;intro q w2 C))
 refine (Aj (au.pk aQ)).mono ?_;rintro N o ⟨v,rfl,rfl,rfl⟩;clear T hR;go_wp2_with ((with_reducible refine dH ⟨?_⟩);refine kG aQ aA dh underlying71 aA (by rw [P.o];kernel_rfl) ?_);refine (SK e Hk.o da dc yG0 yG0 C Q.o).mono ?_;rintro N o ⟨v,rfl,bv,rfl,⟨ba,bn,bc,rfl⟩,c⟩;clear C;generalize hE:ay.dI e=E at *
 have HE:=uQ hE;clear hE;obtain ⟨b,e1⟩:=E;have g:Hid (b.length<=16425):=S;by_cases t:e1=0;rotate_left
 ·have aa:(e1==0)=false:=alE t;have a:=uQ (Z.o t);clear t;go_wp2_with ((with_reducible refine eG ⟨?_⟩);refine jI aQ aA aF pQ fJ dG aC aA ?_;intro U r);refine ⟨rfl,_,uT rfl aQ aA dh underlying115 rfl aC,_,rfl,?_,?_⟩
  ·rw [a.o];rfl
  ·rw [a.o];exact bC.oO (lv:=lv) (au.sb r)
 subst t;have V:bn=b.length:=by
  obtain ⟨a',n',c',t,j,_⟩:=au.rd c;cases t;rw [bP,aiR]at j;exact j.symm
 subst V;have D:=uQ (A.o rfl);clear Z A;cases hon:L.on
 ·have hf:=aB.aS.amw b.length hon;have a:=uQ (B.o rfl hf);have c3:o.cell? ⟨p,3,none⟩=some (.bool false):=c.bI dh 3 (by rw [<-hon];rfl);clear hf J B hon;go_wp2_with fail;have d:=c.drew;have W:o.drew.cell? ⟨p,3,none⟩=some (.bool false):=c3
  go_region
  clear c3 W;have f:au w0 _ (bC p m L::aV m M::_):=bC.oO (lv:=lv) (d.sb);go_wp2_with fail;refine (ZC y.o R.o rY b D.o (by have:=g.o;omega) yG0 f).mono ?_;rintro N w5 ⟨v,rfl,rfl,G⟩;clear d f c;go_wp2_with ((with_reducible refine eG ⟨?_⟩);refine jI aQ aA aF pQ fJ dG aC aA ?_;intro U r);refine ⟨rfl,_,uT rfl aQ aA dh underlying115 rfl aC,_,rfl,?_,?_⟩
  ·rw [a.o];rfl
  ·rw [a.o];exact au.sb r
 ·obtain ⟨s,j⟩:=y.o.last hon;obtain ⟨O,n,cap,cs,rfl,X,c0,c1,H⟩:=atg j (c.sb);have hf:=aB.aS.amx b.length hon j;have hs:=y.o.nY s (aju j);have I:=y.o.limit;have hn:=X.len;have Y:=z.o;have ab:(n:Int)<(n:Int)+1:=oQ;have ac:IntKind.i64.wrap (n:Int)=(n:Int):=by rw [aiY];omega
  have ad:IntKind.i64.wrap (s.2+(b.length:Int))=s.2+(b.length:Int):=by rw [aiY];have:=g.o;omega
  have g1:o.drew.cell? ⟨p,1,none⟩=some (.int .i64 L.limit):=H.drew.bI dh 1 rfl;have g2:o.drew.cell? ⟨p,2,none⟩=some (.slice (some ⟨O,0,none⟩) (n+1) cap):=H.drew.bI dh 2 rfl;have g3:o.drew.cell? ⟨p,3,none⟩=some (.bool true):=H.drew.bI dh 3 (by rw [<-hon];rfl);have g4:o.drew.cell? ⟨O,n*2+1,none⟩=some (.int .i64 s.2):=H.drew.bI dh _ c1;have Hl:=uQ j;have Hb:=uQ X;have Hs:=uQ hs;clear hs I hn Y j X c0 c1 hon H;by_cases l:s.2+(b.length:Int)<=L.limit
  ·have i:decide (s.2+(b.length:Int)<=L.limit)=true:=aiC l;have a:=uQ (J.o rfl (hf.trans i));clear hf i J B;go_wp2_with fail;have d:=c.drew
   go_region
   clear g1 g2 g3 g4;have f:au w0 _ (bC p m L::aV m M::_):=bC.oO (lv:= .slice (some ⟨O,0,none⟩) (n+1) cap) (d.sb);go_wp2_with fail;refine (am3 Hl.o Hs.o R.o oQ z.o b (by have:=g.o;omega) yG0 f).mono ?_;rintro N w5 ⟨v,rfl,rfl,G⟩;clear d f c;go_wp2_with ((with_reducible refine eG ⟨?_⟩);refine jI aQ aA aF pQ fJ dG aC aA ?_;intro U r);refine ⟨rfl,_,uT rfl aQ aA dh underlying115 rfl aC,_,rfl,?_,?_⟩
   ·rw [a.o];rfl
   ·rw [a.o];exact au.sb r
  ·have i:decide (s.2+(b.length:Int)<=L.limit)=false:=aes l;have a:=uQ (B.o rfl (hf.trans i));clear hf i J B;go_wp2_with fail;have d:=c.drew
   go_region
   clear g1 g2 g3 g4;have f:au w0 _ (bC p m L::aV m M::_):=bC.oO (lv:= .slice (some ⟨O,0,none⟩) (n+1) cap) (d.sb);go_wp2_with fail;refine (ZC y.o R.o rY b D.o (by have:=g.o;omega) yG0 f).mono ?_;rintro N w5 ⟨v,rfl,rfl,G⟩;clear d f c;go_wp2_with ((with_reducible refine eG ⟨?_⟩);refine jI aQ aA aF pQ fJ dG aC aA ?_;intro U r);refine ⟨rfl,_,uT rfl aQ aA dh underlying115 rfl aC,_,rfl,?_,?_⟩
   ·rw [a.o];rfl
   ·rw [a.o];exact au.sb r
theorem Ul (hH:Ro w0 F iO) (hL:L.Ok) (hM:M.Ok K) (rY:K+6<=1099511627776) (h:au w0 w (bC p m L::aV m M::F)) :
  Calls prog 108 #[aW p] w (bf λv w'=>v=.tuple #[.int .i64 (L.jO M).2.1,dS (L.jO M).2.2] /\
   au w0 w' (bC p m (L.jO M).1.1::aV m (L.jO M).1.2::F)):=by
 have i:=Oa aB.gq rfl none 0 (λw _=>J9 1 0 w) hH aU hL hM oQ h;have s:=uQ (aB.aS.MV L M);have S:=uQ (hL.append M aB.gq rfl);have H:=uQ (aB.aS.akj (L:=L) hM aB.gq);have T:=uQ hH;clear hL hM h hH;generalize L.append M aB.gq=A at *
 obtain ⟨⟨U,J⟩,f,t⟩:=A;go_enter func108,ntmps108;go_wp2_with fail;refine i.mono ?_;rintro e V ⟨v,rfl,rfl,j⟩;clear i;by_cases b:t=0;rotate_left
 ·have l:(t==0)=false:=alE b;have a:=uQ (s.o.trans (abL b));clear b;go_wp2_with (first|(refine iR Lc aQ rfl ?_;intro q N n)|((with_reducible refine eG ⟨?_⟩);refine jI aQ aA aF pQ fJ dG aC aA ?_;intro I g))
  go_ret2
  refine ⟨.tuple #[.int .i64 0,dS t],rfl,?_,?_⟩
  ·rw [a.o]
  ·rw [a.o];exact au.sb g
 subst b;have u:=uQ (s.o.trans (abB (λh=>h rfl)));clear s;go_wp2_with (first|(refine iR Lc aQ rfl ?_;intro q N n)|((with_reducible refine eG ⟨?_⟩);refine jI aQ aA aF pQ fJ dG aC aA ?_;intro I g));have j:=g;clear g n;obtain ⟨lv,r⟩:=bC.xJ (au.pk aQ);clear j;go_wp2_with fail;refine gK [7,8] (λw'=>w'.cell? ⟨p,0,none⟩=some (aW m)/\w'.cell? ⟨q,0,none⟩=some (.int .i64 f.aZ)) aC ?_;have O:(World.drew _).cell? ⟨p,0,none⟩=some (aW m)/\(World.drew _).cell? ⟨q,0,none⟩=some (.int .i64 f.aZ):=⟨r.drew.bI dh 0 rfl,r.drew.bI dh 0 rfl⟩;refine rP 0 ?_ (y:=bV);refine rP 1 ?_ (y:=jF);refine rP 2 ?_ (y:=eY);refine rt 3 (h:=?_);refine rP 4 ?_ (y:=eY);refine rt 5 (h:=?_);clear O;refine dZ 6 aF aC (λK o=>?_)
 (refine yw aC aF ?_)
 refine (Au f.aZ r.drew).mono ?_;rintro e W ⟨v,rfl,rfl,c⟩;refine o _ _ (.inr (.inl ⟨c.bI dh 0 rfl,c.bI dh 0 rfl⟩)) ?_;clear o K;refine dZ 7 aF aC (λK o=>?_)
 (refine kM aC aF aF ?_)
 refine (Qb H.o (au.pk aQ) _).mono ?_;rintro e P ⟨v,rfl,rfl,d⟩;refine o _ _ (.inl rfl) ?_;clear o K c r;refine rP 8 ?_ (y:=kR);refine fK aC ?_;have x:=uQ (H.o.dY (aB.name f.aZ));generalize J.dY (aB.name f.aZ)=B at *
 obtain ⟨Q,z⟩:=B;by_cases b:z=0;rotate_left
 ·have l:(z==0)=false:=alE b;have a:=uQ (u.o.trans (abL b));clear b;go_wp2_with fail
  go_ret2
  refine ⟨.tuple #[.int .i64 0,dS z],rfl,?_,?_⟩
  ·rw [a.o]
  ·rw [a.o];exact bC.oO (lv:=lv) (au.sb d)
 subst b;have D:=uQ (u.o.trans (abB (λh=>h rfl)));clear u;have R:P.cell? ⟨p,0,none⟩=some (aW m):=d.bI dh 0 rfl;go_wp2_with fail;refine (KG x.o (au.pk aQ)).mono ?_;rintro e X ⟨v,rfl,rfl,E⟩;clear d R;generalize Q.fU=C at *
 obtain ⟨Y,G⟩:=C;by_cases b:G=0;rotate_left
 ·have l:(G==0)=false:=alE b;have a:=uQ (D.o.trans (abL b));clear b;go_wp2_with fail
  go_ret2
  refine ⟨.tuple #[.int .i64 0,dS G],rfl,?_,?_⟩
  ·rw [a.o]
  ·rw [a.o];exact bC.oO (lv:=lv) (au.sb E)
 subst b;have a:=uQ (D.o.trans (abB (λh=>h rfl)));clear D;go_wp2_with (first|((with_reducible refine dH ⟨?_⟩);refine jC aQ aA dh dG aF aC ?_)|((with_reducible refine eG ⟨?_⟩);refine jI aQ aA aF pQ fJ dG aC aA ?_;intro I g))
 go_ret2
 refine ⟨.tuple #[.int .i64 f.aZ,dS 0],rfl,?_,?_⟩
 ·rw [a.o]
 ·rw [a.o];exact bC.oO (lv:=lv) (au.sb g)
def Ef (x:ay.Bs×aJ.iH):Array Value:=#[.agg (aI x.1).toArray,.agg (lg x.2).toArray]
section
variable {m:ay.Bs->Option (aJ.iH)}
theorem aj8 (h:au w0 w F):Calls prog 196 #[aW p] w
  (bf λv w'=>∃ b,v=.func (.func 237) #[] #[aW b]/\au w0 w' (pt b (.cells #[aW p] 251 (0,0))::F)):=by
 go_in
 exact afh
theorem adw(h:A:=by
 intro ly R hY W hW;have Hl:=uQ hl;have hW0:au w0 W (IJ p m B::pt b (.cells #[aW p] DT (0,0))::R []):=hW;clear hW hl;show Calls prog Qm #[.func (.yield ly) #[] #[],aW b] W _;go_enter ahU,ahV;have hr:=ahW hB hW0;go_wp2_with ((with_reducible refine dH ⟨?_⟩);refine jC hW0 aA dh dG aF aC ?_);clear hW0;refine hr.mono ?_;rintro ee w1 ⟨sv,rfl,s,⟨hs1,hs2,hs3⟩,hS1⟩;clear hr;have e0:l=s.map λx=>(x.key,x.val):=Hl.o.FD hs1;clear hs1 Hl;subst e0;have rU:=uQ hs2;have zM:=uQ hs3;have Hlen:=uQ (show ∀ x∈s,(bY jT x).length=lM from λx hx=>pG jT x (hs2 x hx).2 qM (KO _));obtain ⟨la,lc,rfl⟩:=l9 Hlen.o (au.rd hS1) aU;have hsb:s.length<=13000000:=abQ hs3 hB;clear hs2 hs3 hB;go_wp2_with fail
 go_loopg [8] s.length (λg iq wr=>∃ (i:Nat),g=s.length-i/\i<=s.length/\iq=.int .i64 i /\
  au w0 wr (aK qN lM (.slice la s.length lc) (s.flatMap (bY jT))::IJ p m B::pt b (.cells #[aW p] DT (0,0))::R (((s.take i).map λx=>(x.key,x.val)).map BZ)))
 case atStart=>exact ⟨0,rfl,acn _,rfl,hS1⟩
 case round=>
  obtain ⟨i,rfl,hi,rfl,hS⟩:=hrel;clear hS1;by_cases hlt:i<s.length;rotate_left
  ·obtain rfl:i=s.length:=by ((try simp only [lM,qM,qN,DT,Qm] at *);omega)
   have c1:¬ (s.length:Int)<(s.length:Int):=oQ;rw [ai0]at hS;clear hlt hi;go_wp2_with fail
   go_end0
   exact ⟨_,rfl,by rw [<-ajr];exact hS.drop⟩
  have c1:(i:Int)<(s.length:Int):=oQ;have hwi:=EN (i:=i);obtain ⟨x,hx⟩:∃ x,s[i]?=some x:=⟨_,aaf hlt⟩;have hxm:=abH hx;have Hxk:=uQ (rU.o x hxm).2;obtain ⟨bk,off,c',hsv,hcell⟩:=lV Hlen.o (au.rd (hS.pick bJ)) hx aU;cases hsv;have o7:=Hlen.o x hxm;have jl:=uQ (show s.take (i+1)=s.take i++[x] by rw [ajf,hx,akf]);have dP:=uQ hlt
  have LV:=uQ (show (s.map λx=>(x.key,x.val)).map BZ=((s.take i).map λx=>(x.key,x.val)).map BZ++BZ (x.key,x.val)::((s.drop (i+1)).map λx=>(x.key,x.val)).map BZ by
   have e:s=s.take i++x::s.drop (i+1):=by
    obtain ⟨h1,rfl⟩:=abM.1 hx;rw [<-ajB h1,aja]
   conv=>lhs;rw [e]
   simp only [acy,aij])
  clear hx hxm hlt hi
  go_wp2_with (first
   |((with_reducible refine dH ⟨?_⟩);refine kQ (b:=bk) (o:=off+i*lM) (bY jT x) aA hcell ahX rfl yV0 ?_)
   |(with_reducible apply jd))
  refine ⟨iR ahY hS rfl ?_⟩;intro b7 w7 hS7;go_wp2_with ((with_reducible apply eG));refine ⟨jK (bY jT x).toArray hS7 aA aA zW0 eu yW0 (by rw [agQ];exact y7 jT x (ahZ _)) ?_⟩;intro w10 jX;clear hS hS7 hcell;have f1:w10.rangeAt b7 1 (aI x.key):=Ir (jX.pick bJ);have f2:w10.rangeAt b7 33 (jT x.val):=atD Hxk.o (jX.pick bJ);have e1:=underlying34
  have zx:au w0 w10 (R (((s.take i).map λx=>(x.key,x.val)).map BZ)++[aK qN lM (.slice (some ⟨bk,off,none⟩) s.length lc) (s.flatMap (bY jT)),IJ p m B,pt b (.cells #[aW p] DT (0,0))]):=
   (jX.drop:au w0 w10 ([aK qN lM (.slice (some ⟨bk,off,none⟩) s.length lc) (s.flatMap (bY jT)),IJ p m B,pt b (.cells #[aW p] DT (0,0))]++R (((s.take i).map λx=>(x.key,x.val)).map BZ))).MB
  obtain ⟨yf,yt,ya,yb,hy,hr⟩:=hY _ _ _ w10 _ LV.o zx;clear zx jX hY
  go_step
  go_step
  go_step
  refine arl aA ?_;intro K hK
  go_wp2_with (first
   |((with_reducible refine dH ⟨?_⟩);refine kQ (b:=b7) (o:=1) (aI x.key) aA f1 e1 rfl yL0 ?_)
   |((with_reducible refine dH ⟨?_⟩);refine kQ (b:=b7) (o:=33) (jT x.val) aA f2 DN rfl aC ?_))
  refine ⟨_,yf,yt,ya,yb,hy,hr.mono ?_⟩;rintro ee w12 ⟨rfl,sW⟩;refine ⟨_,rfl,?_⟩;have zY:au w0 w12 (aK qN lM (.slice (some ⟨bk,off,none⟩) s.length lc) (s.flatMap (bY jT))::IJ p m B::pt b (.cells #[aW p] DT (0,0))::R (((s.take (i+1)).map λx=>(x.key,x.val)).map BZ)):=by
   have:=sW.MB;rw [jl.o,acy,acy];exact this
  clear sW hr hy f1 f2;go_wp2_with fail
  go_roundg (s.length-(i+1))
  case measure=>have:=dP.o;((try simp only [lM,qM,qN,DT,Qm] at *);omega)
  case rel=>exact ⟨i+1,rfl,dP.o,by first|rfl|go_num,zY⟩):A:=h
abbrev fG.IJ:=@jV
abbrev fG.DT:Nat:=251
abbrev fG.Qm:Nat:=237
abbrev fG.ahU:=@func237
abbrev fG.ahV:=@ntmps237
abbrev fG.ahW:=@arx
abbrev fG.BZ:=@Ef
abbrev fG.ahX:=@underlying345
abbrev fG.ahY:=@Yb
abbrev fG.ahZ:=@Zg
open fG in
theorem aj7 {b:Nat}{l:List (ay.Bs×aJ.iH)} (hB:B<=13000000) (hl:aY.kE m l) :
  Rn prog 237 #[aW b] (l.map Ef) w0 [jV p m B,pt b (.cells #[aW p] 251 (0,0))] [jV p m B,pt b (.cells #[aW p] 251 (0,0))]:=adw
end
def oM (b:Nat) (f:Int->Int):aO:=λh=>∃ l:List (Value×Value),((∀ p∈l,∃ k v:Int,p=(.int .i64 k,.int .i64 v)/\f k=v)/\∀ k:Int,(∀ p∈l,p.1 ≠ .int .i64 k)->f k=0)/\jJ (.int .i64) b l h
section
variable {f:Int->Int}{l:List (Value×Value)}
theorem acJ (h:au w0 w (oM b f::R)):∃ l:List (Value×Value),((∀ p∈l,∃ k v:Int,p=(.int .i64 k,.int .i64 v)/\f k=v)/\∀ k:Int,(∀ p∈l,p.1 ≠ .int .i64 k)->f k=0)/\au w0 w (jJ (.int .i64) b l::R):=by
 obtain ⟨a,x,c,p,q,d,rfl,⟨l,e,g⟩,i⟩:=h;exact ⟨l,e,a,_,c,p,q,d,rfl,g,i⟩
theorem acK (h1:∀ p∈l,∃ k v:Int,p=(.int .i64 k,.int .i64 v)/\f k=v) (h2:∀ k:Int,(∀ p∈l,p.1 ≠ .int .i64 k)->f k=0) (h:au w0 w (jJ (.int .i64) b l::R)):au w0 w (oM b f::R):=
 h.head λ_ hx=>⟨l,⟨h1,h2⟩,hx⟩
theorem acI (h:au w0 w R):au w0 (w.alloc (.map #[] 0)) (oM w.heap.size (λ_=>0)::R):=acK yD0 (λ_ _=>rfl) (h.OH (.int .i64))
theorem NV (k:Int) (h:au w0 w (oM b f::R)):(Instr.lookup 246 (.map (some b)) (.int .i64 k) false).run prog w=.ok (.int .i64 (f k)) w:=by
 have⟨l,⟨a,c⟩,d⟩:=acJ h;rcases ag7 (key:= .int .i64 k) underlying246 underlying3 aC rfl d with ⟨v,g,e,_⟩|⟨hn,e,_⟩
 ·have⟨j,m,i,hf⟩:=a _ g;cases i;rw [e,hf]
 ·rw [e,c k hn]
theorem Ua (k v:Int) (h:au w0 w (oM b f::R)):∃ w',(Instr.mapUpdate 246 (.map (some b)) (.int .i64 k) (.int .i64 v)).run prog w=.ok () w'/\au w0 w' (oM b (λs=>if s=k then v else f s)::R):=by
 have⟨l,⟨B,C⟩,z⟩:=acJ h;have⟨w',D,E⟩:=Sl.ahb (key:= .int .i64 k) underlying246 underlying3 rfl (.int .i64 v) z;refine ⟨w',D,?_⟩;have t:=z.OG;have⟨g,u,j,x,m⟩:∃ g:List (Value×Value),(l.Perm g/\(∀ p∈g,p.1 ≠ .int .i64 k)\/∃ o,l.Perm ((.int .i64 k,o)::g))/\(∀ p∈g,p.1 ≠ .int .i64 k)/\(∀ p∈g,p∈l)/\∀ p∈l,p.1 ≠ .int .i64 k->p∈g:=by
  by_cases A:∃ p∈l,p.1=.int .i64 k
  ·obtain ⟨⟨_,o⟩,F,rfl⟩:=A;obtain ⟨G,H,y⟩:=List.append_of_mem F;have a:l.Perm ((.int .i64 k,o)::(G++H)):=by rw [y];exact auH
   have i:=(a.map (·.1)).nodup_iff.1 t;rw [aij,ao5]at i
   exact ⟨_,.inr ⟨o,a⟩,λp c e=>i.1 (abI.2 ⟨p,c,e⟩),λp c=>a.mem_iff.2 (.tail _ c),λp c j=>by
    rcases ab9.1 (a.mem_iff.1 c) with e|e
    ·exact absurd (by rw [e]) j
    ·exact e⟩
  ·have d:∀ p∈l,p.1 ≠ .int .i64 k:=λp a e=>A ⟨p,a,e⟩;exact ⟨l,.inl ⟨.refl _,d⟩,d,λ_ h=>h,λ_ h _=>h⟩
 refine acK ?_ ?_ (E g u)
 ·intro p a;rcases ab9.1 a with rfl|a
  ·exact ⟨k,v,rfl,abL rfl⟩
  ·obtain ⟨r,I,rfl,hf⟩:=B p (x p a);refine ⟨r,I,rfl,?_⟩;rw [abB (λe=>j _ a (by rw [e])),hf]
 ·intro r d;have n:r≠k:=λe=>d _ (.head _) (by rw [e]);rw [abB n];refine C r λp a e=>?_;exact d p (.tail _ (m p a (λJ=>n (by rw [J]at e;cases e;rfl)))) e
end
section
variable {m:ay.Bs->Option aB.bT}
theorem bF.mono (hB:B<=B') (h:au w0 w (bF p m B::R)):au w0 w (bF p m B'::R):=by
 obtain ⟨t,sv,⟨ok,is,hb⟩,hS⟩:=bF.open h;exact bF.fA ok is (abQ hb hB) hS
end
theorem aad (x:aJ.iH) (h:au w0 w F):Calls prog 197 #[.agg (lg x).toArray] w (bf λv w'=>v=.bool (aJ.yM x)/\au w0 w' F):=by
 obtain ⟨dB,⟨aZ,aP,size⟩,first⟩:=x;have b:=uQ (show ∀ c,c=(decide (dB=0) || (decide (0<=first) && decide (first<aZ)))->c=aJ.yM ⟨dB,⟨aZ,aP,size⟩,first⟩ from λc l=>l)
 go_in
 go_wp2_with (first|((with_reducible refine jy ⟨?_⟩);refine jB aQ aF aF ?_;intro f g d)|(with_reducible apply dH));refine ⟨?_⟩;have n:g.cell? ⟨f,0,none⟩=some (.int .i64 dB):=d.bI bJ 0 rfl;have f1:g.cell? ⟨f,1,none⟩=some (.int .i64 aZ):=d.bI bJ 1 rfl;have f2:g.cell? ⟨f,4,none⟩=some (.int .i64 first):=d.bI bJ 4 rfl;have HB:=uQ d.drop;clear d h;by_cases a:dB=0
 ·have m:(dB==0)=true:=alj.2 a;have e:=b.o true (by simp [a]);have He:=uQ e;clear a e b;exact Pe
 ·have m:(dB==0)=false:=by rw [acj];exact a
  by_cases i:0<=first
  ·by_cases j:first<aZ
   ·have He:=uQ (b.o true (by simp [a,i,j]));clear a b;exact Pe
   ·have He:=uQ (b.o false (by simp [a,j]));clear a b;exact Pe
  ·have He:=uQ (b.o false (by simp [a,i]));clear a b;exact Pe
def dO (u:aJ.gX):List Value:=[.int .i64 u.aZ,.int .i64 u.size,.int .i64 u.live]
theorem yD (u:aJ.gX):(dO u).length=3:=rfl
theorem Le:nR prog 205=some (.agg (dO ⟨0,0,0⟩).toArray):=aC
theorem avv:nR prog 246=some (.map none):=aC
theorem Qx:nR prog 34=some (.agg (aI ay.gu).toArray):=aC
abbrev fB (ps:Nat) (last:Int) (pi:Nat) (uv tv:Value):aO:=pt ps (.cells #[.int .i64 last,aW pi,uv,tv] 108 (0,0))
def aaV (F:List aO) (ps b2 b3 b4 bm pi pg:Nat) (last:Int) (uv tv:Value) (us:List aJ.gX) (kv:List (ay.Bs×aJ.iH)) (pre:List (Array Value)):List aO:=
 fB ps last pi uv tv::pt b2 (.cells #[aW ps] 103 (0,0))::pt b4 (.cells #[.map (some bm)] 246 (0,0))::oM bm (λs=>aJ.kF s (kv.take pre.length)) ::
 bF pi (aY.jE (aJ.jH (kv.take pre.length))) pre.length::aK 205 3 uv (us.flatMap dO)::pt b3 (.cells #[aW pg] 256 (0,0))::F
section
variable {ps pi pg:Nat}{last:Int}{uv tv:Value}{us:List aJ.gX}{m:ay.Bs->Option aJ.iH}{kv:List (ay.Bs×aJ.iH)}
theorem amo (hl:aY.kE m kv) (hB:B<=13000000) (hkl:kv.length<=13000000) (hks:∀ p∈kv,p.1.length=32/\0<=p.2.jf.size/\p.2.jf.size<=4294967296) (hu:us.length<=13000000)
  (h:au w0 w (fB ps last pi uv tv::bF pi (λ_=>none) 0::jV pg m B::aK 205 3 uv (us.flatMap dO)::F)) :
  Calls prog 153 #[aW ps,.agg #[aW pg]] w (bf λ_ w'=>au w0 w' (fB ps last pi uv tv::bF pi (aY.jE (aJ.jH kv)) kv.length::jV pg m B::aK 205 3 uv ((us.map (aJ.pI kv)).flatMap dO)::F)):=by
 have Hl:=uQ hl;have HB:=uQ hB;have R:=uQ hkl;have S:=uQ hks;have Hu:=uQ hu;have Hlen:=uQ (show ∀ u∈us,(dO u).length=3 from λu _=>rfl);clear hl hB hkl hks hu;have hmm:=@run_makeMap prog;refine ZN func153 rfl ?_;simp only [ntmps153,abC,aiT,ajw,Nat.reduceAdd,Nat.reduceSub,Array.replicate_succ,Array.replicate_zero,List.push_toArray,List.append_toArray,ajc,ajK];go_wp2_with (with_reducible apply jy);refine ⟨jB h aF aF ?_⟩;intro b2 w2 h2;go_wp2_with (with_reducible apply jy);refine ⟨jB h2 aF aF ?_⟩;intro b3 w3 h3;have aa:=acI h3;go_wp2_with (with_reducible apply jd);refine ⟨iR avv aa rfl ?_⟩;intro b4 w4 h4;generalize w3.heap.size=bm at *
 go_wp2_with (first
  |((with_reducible refine eG ⟨?_⟩);refine jI h4 aA aF aA eu dG aC aA ?_;intro w5 Z)
  |((with_reducible refine dH ⟨?_⟩);refine jC Z aA dh dG aF aC ?_))
 refine (aj8 Z).mono ?_;rintro ee w6 ⟨v,rfl,bA,rfl,h6⟩;go_wp2_with fail
 have h7:au w0 w6 (jV pg m B::pt bA (.cells #[aW pg] 251 (0,0))::fB ps last pi uv tv::pt b2 (.cells #[aW ps] 103 (0,0))::pt b4 (.cells #[.map (some bm)] 246 (0,0))::oM bm (λ_=>0) ::
   bF pi (λ_=>none) 0::aK 205 3 uv (us.flatMap dO)::pt b3 (.cells #[aW pg] 256 (0,0))::F):=h6.sb
 clear h h2 h3 aa h4 Z h6 hmm;refine aiy aA (λargs w=>by kernel_rfl) (aj7 HB.o Hl.o) ?_ (aaV F ps b2 b3 b4 bm pi pg last uv tv us kv) h7 ?_ ?_
 ·intro x hx;obtain ⟨p,_,rfl⟩:=abI.1 hx
  rfl
 ·clear h7;intro l pre x post U W V J T hT;obtain ⟨i,hi⟩:∃ i,i=pre.length:=⟨_,rfl⟩;have b:i<kv.length:=by
   have:=aiX List.length V;rw [abl,aay,aiT]at this;omega
  obtain ⟨⟨k,y⟩,hy⟩:∃ p,kv[i]?=some p:=⟨_,aaf b⟩;obtain rfl:x=Ef (k,y):=by
   have e1:(kv.map Ef)[i]?=some (Ef (k,y)):=by rw [ab4,hy];rfl
   rw [V,hi,aiP (abG _),auP,List.getElem?_cons_zero]at e1;exact ajH e1
  have M:=abH hy;obtain ⟨N,ab,hs1⟩:=S.o _ M;have htk:kv.take (i+1)=kv.take i++[(k,y)]:=by rw [ajf,hy,akf]
  have hil:(pre++[Ef (k,y)]).length=i+1:=by rw [aay,hi];rfl
  have jl:=uQ htk;have LC:=uQ hil;have Hi:=uQ hi;have C:=uQ b;have r:=uQ N;have Hs:=uQ (And.intro ab hs1)
  have hS0:au w0 W (fB ps last pi uv tv::pt b2 (.cells #[aW ps] 103 (0,0))::pt b4 (.cells #[.map (some bm)] 246 (0,0))::oM bm (λs=>aJ.kF s (kv.take i)) ::
   bF pi (aY.jE (aJ.jH (kv.take i))) i::aK 205 3 uv (us.flatMap dO)::pt b3 (.cells #[aW pg] 256 (0,0))::(F++U)):=by rw [hi];exact J
  clear V J hi b hy M N ab hs1 htk hil;simp [Ef]at hT;subst hT;refine wpIn_seq_k λK hK=>?_;refine BL aA λK2 hK2=>?_;go_wp2_with (with_reducible apply jd);refine ⟨iR Qx hS0 rfl ?_⟩;intro X w5 Z;go_wp2_with ((with_reducible refine eG ⟨?_⟩);refine jK (aI k).toArray Z aA aA (by rw [abC,bP,r.o];rfl) eu (by rw [abC,bP,r.o];kernel_rfl) zF0 ?_;intro w6 h6);refine BL aA λK3 hK3=>?_;go_wp2_with (with_reducible apply jd);refine ⟨iR Qz h6 rfl ?_⟩;intro A w7 h7;go_wp2_with ((with_reducible refine eG ⟨?_⟩);refine jK (lg y).toArray h7 aA aA aA eu aC aA ?_;intro w8 h8)
  -- the body
  refine ⟨pt A (.cells (lg y).toArray 254 (0,0))::pt X (.cells (aI k).toArray 34 (0,0))::fB ps last pi uv tv::pt b2 (.cells #[aW ps] 103 (0,0))::pt b4 (.cells #[.map (some bm)] 246 (0,0))::oM bm (λs=>aJ.kF s (kv.take i)) ::
   bF pi (aY.jE (aJ.jH (kv.take i))) i::aK 205 3 uv (us.flatMap dO)::pt b3 (.cells #[aW pg] 256 (0,0))::F,h8,?_⟩
  clear h8 h7 h6 Z hS0;intro U' I Y
  have t:au w0 I (pt A (.cells (lg y).toArray 254 (0,0))::pt X (.cells (aI k).toArray 34 (0,0))::fB ps last pi uv tv::pt b2 (.cells #[aW ps] 103 (0,0))::pt b4 (.cells #[.map (some bm)] 246 (0,0))::oM bm (λs=>aJ.kF s (kv.take i)) ::
   bF pi (aY.jE (aJ.jH (kv.take i))) i::aK 205 3 uv (us.flatMap dO)::pt b3 (.cells #[aW pg] 256 (0,0))::(F++U')):=Y
  clear Y;have f0:I.cell? ⟨A,0,none⟩=some (.int .i64 y.dB):=t.bI bJ 0 rfl;refine wpIn_block (wpIn_seq_k λK4 hK4=>wpIn_seq_k λK5 hK5=>BL aA λK6 hK6=>?_);by_cases ht:y.dB=0
  ·have hb:(y.dB==0)=true:=alj.2 ht;have E:=uQ (show aY.jE (aJ.jH (kv.take (i+1)))=aY.put (aY.jE (aJ.jH (kv.take i))) k y.jf by rw [jl.o,aJ.aeC,abL ht,aY.UF]);clear ht;go_wp2_with fail;refine wpIn_cond_true aA ?_;have a:=t.drew
   have hG:I.drew.cell? ⟨b2,0,none⟩=some (aW ps)/\I.drew.cell? ⟨ps,1,none⟩=some (aW pi)/\I.drew.rangeAt X 0 (aI k)/\I.drew.rangeAt A 1 (dQ y.jf):=
    ⟨a.bI (bW (bW (bW bJ))) 0 rfl,a.bI (bW (bW bJ)) 1 rfl,wO (a.pick (bW bJ)),λj v hj=>by
     refine a.bI bJ (1+j) ?_;rw [ab5,Nat.add_comm];have hj3:j<3:=(abM.1 hj).1;rcases j with _|_|_|j
     ·exact hj
     ·exact hj
     ·exact hj
     ·omega⟩
   refine arj [7] (λw'=>w'.cell? ⟨b2,0,none⟩=some (aW ps)/\w'.cell? ⟨ps,1,none⟩=some (aW pi)/\w'.rangeAt X 0 (aI k)/\w'.rangeAt A 1 (dQ y.jf)) aA aC λK7 hK7=>?_;refine rt 0 (h:=?_);refine rP 1 ?_ (y:=jF);refine rP 2 ?_ (y:=eY);refine rt 3 (h:=?_);refine ji 4 aF aC dF (lF (aI k) aA underlying34 rfl (by rw [bP,r.o];kernel_rfl) (λw hw=>hw.2.2.1)) aQ gQ ?_;refine rP 5 ?_ (y:=eY);refine ji 6 aF aC dF (lF (dQ y.jf) aA underlying115 rfl aC (λw hw=>hw.2.2.2)) aQ gQ ?_;clear hG
   have hp:=OV (by have:=C.o;have:=R.o;omega) r.o y.jf (a.sb:au w0 I.drew (bF pi (aY.jE (aJ.jH (kv.take i))) i::pt A (.cells (lg y).toArray 254 (0,0))::pt X (.cells (aI k).toArray 34 (0,0))::pt b2 (.cells #[aW ps] 103 (0,0))::pt b4 (.cells #[.map (some bm)] 246 (0,0))::oM bm (λs=>aJ.kF s (kv.take i))::fB ps last pi uv tv::aK 205 3 uv (us.flatMap dO)::pt b3 (.cells #[aW pg] 256 (0,0))::(F++U')));clear t a f0;refine dZ 7 aF aC (λK' G=>?_)
   (refine Bq aC aF aF aF ?_)
   refine hp.mono ?_;rintro ee sH ⟨v,rfl,a⟩;refine G _ _ (.inl rfl) ?_;clear G hp;refine fK aC ?_;rw [<-E.o]at a
   have c:au w0 sH (pt A (.cells (lg y).toArray 254 (0,0))::pt X (.cells (aI k).toArray 34 (0,0))::pt b2 (.cells #[aW ps] 103 (0,0))::pt b4 (.cells #[.map (some bm)] 246 (0,0))::oM bm (λs=>aJ.kF s (kv.take i))::fB ps last pi uv tv ::
    bF pi (aY.jE (aJ.jH (kv.take (i+1)))) (i+1)::aK 205 3 uv (us.flatMap dO)::pt b3 (.cells #[aW pg] 256 (0,0))::(F++U')):=a.sb
   clear a;go_wp2_with fail;refine wpIn_seq_k λK8 hK8=>?_;refine BL aA λK9 hK9=>?_;go_wp2_with ((with_reducible refine dH ⟨?_⟩);refine kG c aA (bJ) underlying254 rfl aC ?_);refine (aad y c).mono ?_;rintro ee vU ⟨v,rfl,rfl,h13⟩;clear c;by_cases hc:aJ.yM y=true
   ·have hlv:(λs=>aJ.kF s (kv.take (i+1)))=λs=>if s=y.jf.aZ then aJ.kF y.jf.aZ (kv.take i)+y.jf.size else aJ.kF s (kv.take i):=by
     funext s
     rw [jl.o,aJ.Oj];by_cases e:s=y.jf.aZ
     ·subst e;simp [hc]
     ·simp only [hc,true_and,abB e];rw [abB (λh=>e h.symm),Int.add_zero]
    have Hlv:=uQ hlv;have hlk:=NV y.jf.aZ (h13.pick (bW (bW (bW (bW bJ)))));obtain ⟨wW,hup,nJ⟩:=Ua y.jf.aZ (aJ.kF y.jf.aZ (kv.take i)+y.jf.size) (h13.pick (bW (bW (bW (bW bJ)))));obtain ⟨q1,q2⟩:=aJ.Us y.jf.aZ aU (kv.take i) λp hp=>(S.o p (ajq hp)).2;have q3:(kv.take i).length<=13000000:=abQ (avH i kv) R.o;have q4:=Hs.o;have hwa:IntKind.i64.wrap (aJ.kF y.jf.aZ (kv.take i)+y.jf.size)=aJ.kF y.jf.aZ (kv.take i)+y.jf.size:=abR _ oQ;have hwb:wrap64 (aJ.kF y.jf.aZ (kv.take i)+y.jf.size)=aJ.kF y.jf.aZ (kv.take i)+y.jf.size:=ajU _ oQ;clear q1 q2 q3 q4 hlv;have e0:vU.cell? ⟨b4,0,none⟩=some (.map (some bm)):=h13.bI (bW (bW (bW bJ))) 0 rfl;have e1:vU.cell? ⟨A,1,none⟩=some (.int .i64 y.jf.aZ):=h13.bI bJ 1 rfl;have e2:vU.cell? ⟨A,3,none⟩=some (.int .i64 y.jf.size):=h13.bI bJ 3 rfl;rw [hc];clear h13 hc;go_wp2_with fail;exact agh
   ·exact agc
  ·have hb:(y.dB==0)=false:=by rw [acj];exact ht
   have E:=uQ (show aY.jE (aJ.jH (kv.take (i+1)))=aY.jE (aJ.jH (kv.take i)) by rw [jl.o,aJ.aeC,abB ht]);clear ht;go_wp2_with fail;refine wpIn_cond_false aA ?_;refine wpIn_skip ?_;go_wp2_with fail;rw [<-E.o]at t;have a:=bF.mono (akA i) (t.pick (bW (bW (bW (bW (bW (bW bJ)))))))
   have c:au w0 I (pt A (.cells (lg y).toArray 254 (0,0))::pt X (.cells (aI k).toArray 34 (0,0))::pt b2 (.cells #[aW ps] 103 (0,0))::pt b4 (.cells #[.map (some bm)] 246 (0,0))::oM bm (λs=>aJ.kF s (kv.take i))::fB ps last pi uv tv ::
    bF pi (aY.jE (aJ.jH (kv.take (i+1)))) (i+1)::aK 205 3 uv (us.flatMap dO)::pt b3 (.cells #[aW pg] 256 (0,0))::(F++U')):=a.sb
   clear t a f0;refine wpIn_seq_k λK8 hK8=>?_;refine BL aA λK9 hK9=>?_;go_wp2_with ((with_reducible refine dH ⟨?_⟩);refine kG c aA (bJ) underlying254 rfl aC ?_);refine (aad y c).mono ?_;rintro ee vU ⟨v,rfl,rfl,h13⟩;clear c;by_cases hc:aJ.yM y=true
   ·have hlv:(λs=>aJ.kF s (kv.take (i+1)))=λs=>if s=y.jf.aZ then aJ.kF y.jf.aZ (kv.take i)+y.jf.size else aJ.kF s (kv.take i):=by
     funext s
     rw [jl.o,aJ.Oj];by_cases e:s=y.jf.aZ
     ·subst e;simp [hc]
     ·simp only [hc,true_and,abB e];rw [abB (λh=>e h.symm),Int.add_zero]
    have Hlv:=uQ hlv;have hlk:=NV y.jf.aZ (h13.pick (bW (bW (bW (bW bJ)))));obtain ⟨wW,hup,nJ⟩:=Ua y.jf.aZ (aJ.kF y.jf.aZ (kv.take i)+y.jf.size) (h13.pick (bW (bW (bW (bW bJ)))));obtain ⟨q1,q2⟩:=aJ.Us y.jf.aZ aU (kv.take i) λp hp=>(S.o p (ajq hp)).2;have q3:(kv.take i).length<=13000000:=abQ (avH i kv) R.o;have q4:=Hs.o;have hwa:IntKind.i64.wrap (aJ.kF y.jf.aZ (kv.take i)+y.jf.size)=aJ.kF y.jf.aZ (kv.take i)+y.jf.size:=abR _ oQ;have hwb:wrap64 (aJ.kF y.jf.aZ (kv.take i)+y.jf.size)=aJ.kF y.jf.aZ (kv.take i)+y.jf.size:=ajU _ oQ;clear q1 q2 q3 q4 hlv;have e0:vU.cell? ⟨b4,0,none⟩=some (.map (some bm)):=h13.bI (bW (bW (bW bJ))) 0 rfl;have e1:vU.cell? ⟨A,1,none⟩=some (.int .i64 y.jf.aZ):=h13.bI bJ 1 rfl;have e2:vU.cell? ⟨A,3,none⟩=some (.int .i64 y.jf.size):=h13.bI bJ 3 rfl;rw [hc];clear h13 hc;go_wp2_with fail;exact agh
   ·exact agc
 ·intro D w8 h8
  have Y:au w0 w8 (jV pg m B::pt bA (.cells #[aW pg] 251 (0,0))::fB ps last pi uv tv::pt b2 (.cells #[aW ps] 103 (0,0))::pt b4 (.cells #[.map (some bm)] 246 (0,0))::oM bm (λs=>aJ.kF s kv) ::
   bF pi (aY.jE (aJ.jH kv)) kv.length::aK 205 3 uv (us.flatMap dO)::pt b3 (.cells #[aW pg] 256 (0,0))::(F++[pt D (.deferred (some []))])):=by
   have q:=h8;unfold aaV at q;rw [abl,ai0]at q;exact q
  have hA:au w0 w8 (pt D (.deferred (some []))::jV pg m B::pt bA (.cells #[aW pg] 251 (0,0))::fB ps last pi uv tv::pt b2 (.cells #[aW ps] 103 (0,0))::pt b4 (.cells #[.map (some bm)] 246 (0,0))::oM bm (λs=>aJ.kF s kv) ::
   bF pi (aY.jE (aJ.jH kv)) kv.length::aK 205 3 uv (us.flatMap dO)::pt b3 (.cells #[aW pg] 256 (0,0))::F):=
   au.MB (L:=jV pg m B::pt bA (.cells #[aW pg] 251 (0,0))::fB ps last pi uv tv::pt b2 (.cells #[aW ps] 103 (0,0))::pt b4 (.cells #[.map (some bm)] 246 (0,0))::oM bm (λs=>aJ.kF s kv) ::
    bF pi (aY.jE (aJ.jH kv)) kv.length::aK 205 3 uv (us.flatMap dO)::pt b3 (.cells #[aW pg] 256 (0,0))::F) Y
  clear h7 h8 Y;have H:au w0 w8 (aK 205 3 uv ((aJ.half kv us 0).flatMap dO)::fB ps last pi uv tv::pt b2 (.cells #[aW ps] 103 (0,0))::pt b4 (.cells #[.map (some bm)] 246 (0,0))::oM bm (λs=>aJ.kF s kv)::pt D (.deferred (some []))::bF pi (aY.jE (aJ.jH kv)) kv.length::jV pg m B::F):=hA.sb;clear hA;obtain ⟨ua,uc,rfl⟩:=l9 (l:=aJ.half kv us 0) (f:=dO) (k:=3) (λu _=>rfl) (au.rd H) aU;rw [aJ.TJ]at H;go_wp2_with ((with_reducible refine dH ⟨?_⟩);refine jC H aA dh dG aF aC ?_)
  go_loopg [42] us.length (λg iq wr=>∃ i:Nat,g=us.length-i/\i<=us.length/\iq=.int .i64 i /\
   au w0 wr (aK 205 3 (.slice ua us.length uc) ((aJ.half kv us i).flatMap dO)::fB ps last pi (.slice ua us.length uc) tv::pt b2 (.cells #[aW ps] 103 (0,0))::pt b4 (.cells #[.map (some bm)] 246 (0,0))::oM bm (λs=>aJ.kF s kv)::pt D (.deferred (some []))::bF pi (aY.jE (aJ.jH kv)) kv.length::jV pg m B::F))
  case atStart=>exact ⟨0,rfl,acn _,rfl,H⟩
  case round=>
   obtain ⟨i,rfl,hi,rfl,J⟩:=hrel;clear H;by_cases b:i<us.length;rotate_left
   ·obtain rfl:i=us.length:=oQ;have c1:¬ (us.length:Int)<(us.length:Int):=oQ;rw [aJ.ane]at J;clear b hi;go_wp2_with fail;refine al9 rfl (J.pick (bW (bW (bW (bW (bW bJ)))))) (λw=>results_none rfl _ _ _) ?_;intro I Y;exact ⟨_,rfl,Y.sb⟩
   have c1:(i:Int)<(us.length:Int):=oQ;have hwi:IntKind.i64.wrap ((i:Int)+1)=(i:Int)+1:=abR _ (by have:=Hu.o;omega);obtain ⟨u,hu⟩:∃ u,us[i]?=some u:=⟨_,aaf b⟩;have hx:(aJ.half kv us i)[i]?=some u:=aJ.anf hu;have O:=uQ (PN (f:=dO) (k:=3) (o:=2) (x':=aJ.pI kv u) (vs:=[.int .i64 (aJ.kF u.aZ kv)]) (λu _=>rfl) hx aA (by show 2+1<=3;decide));rw [aJ.ang hu]at O;have hrl:((aJ.half kv us i).flatMap dO).length=3*us.length:=by rw [lK (k:=3) (f:=dO) λu _=>rfl,aJ.TJ]
   obtain ⟨bk,off,c',hsv,d⟩:=lV (f:=dO) (k:=3) (λu _=>rfl) (au.rd J) hx aU;rw [aJ.TJ]at hsv;cases hsv;rcases au.nV J with ⟨e,_⟩|⟨g',n',cap',cs',e,_⟩
   ·cases e
   obtain rfl:off=0:=by injection e with e1;injection e1 with e2;injection e2
   obtain ⟨g',rfl⟩:∃ g,g=bk:=⟨_,rfl⟩;simp only [aiO]at d;have C:=uQ b;clear b hi hu hx
   go_wp2_with (first
    |((with_reducible refine dH ⟨?_⟩);refine kQ (o:=i*3) (dO u) aA d underlying205 rfl aC ?_)
    |(with_reducible apply jd))
   refine ⟨iR Le J rfl ?_⟩;intro b8 I oh;go_wp2_with ((with_reducible refine eG ⟨?_⟩);refine jK (dO u).toArray oh aA aA aA eu aC aA ?_;intro z P);have n:=P.drew
   have hG:z.drew.cell? ⟨b2,0,none⟩=some (aW ps)/\z.drew.cell? ⟨ps,2,none⟩=some (.slice (some ⟨g',0,none⟩) us.length uc)/\z.drew.cell? ⟨b4,0,none⟩=some (.map (some bm))/\z.drew.cell? ⟨b8,0,none⟩=some (.int .i64 u.aZ) /\
     (Instr.lookup 246 (.map (some bm)) (.int .i64 u.aZ) false).run prog z.drew=.ok (.int .i64 (aJ.kF u.aZ kv)) z.drew:=
    ⟨n.bI (bW (bW (bW bJ))) 0 rfl,n.bI (bW (bW bJ)) 2 rfl,n.bI (bW (bW (bW (bW bJ)))) 0 rfl,n.bI bJ 0 rfl,NV u.aZ (n.pick (bW (bW (bW (bW (bW bJ))))))⟩
   clear J oh d;refine gK [9,10,11] (λw'=>w'.cell? ⟨b2,0,none⟩=some (aW ps)/\w'.cell? ⟨ps,2,none⟩=some (.slice (some ⟨g',0,none⟩) us.length uc)/\w'.cell? ⟨b4,0,none⟩=some (.map (some bm))/\w'.cell? ⟨b8,0,none⟩=some (.int .i64 u.aZ)/\(Instr.lookup 246 (.map (some bm)) (.int .i64 u.aZ) false).run prog w'=.ok (.int .i64 (aJ.kF u.aZ kv)) w') aC ?_;refine rt 0 (h:=?_);refine rP 1 ?_ (y:=jF);refine rP 2 ?_ (y:=eY);refine rt 3 (h:=?_);refine rP 4 ?_ (y:=bV);refine rt 5 (h:=?_);refine rP 6 ?_ (y:=eY);refine rt 7 (h:=?_);refine rt 8 (h:=?_);refine rP 9 ?_ (y:=kX);refine rP 10 ?_ (y:=eY);clear hG;refine dZ 11 aF aC (λK' G=>?_);refine Jj (vs:=[.int .i64 (aJ.kF u.aZ kv)]) (i*3+2) n aF aF rfl (pJ eu) (by rw [hrl];have:=C.o;show i*3+2+1<=_;omega) aC aA ?_;intro w12 Q;refine G _ _ (.inl rfl) ?_;clear G n P;refine fK aC ?_;rw [<-O.o]at Q
   go_wp2_with fail
   go_roundg (us.length-(i+1))
   case measure=>have:=C.o;omega
   case rel=>exact ⟨i+1,rfl,C.o,by first|rfl|go_num,Q.sb⟩
end
theorem Qr {L:List aO}{b:Nat}{ops:Array Oper}{rest:List Oper}{a:Act}{Q:Exit->Act->World->Prop}{dst:Option Tmp}{t:TypeId}{pos:String}{after:Array Edge}{P:Program}{ty:TypeId}{x y:Operand}{c d:Value} (hx:a.eval x=c) (hy:a.eval y=d) (hr:∀ w,(Instr.sliceAt ty c (some d) none none).run P w=.ok v w)
  (h:wpList P ops Q rest (a.put dst v) w):wpList P ops Q (⟨dst,.slice ty x (some y) none none,t,pos,after,none⟩::rest) a w:=
 ajs rfl λ_ hK=>by
  exact Vl
theorem MK {ops:Array Oper}{rest:List Oper}{a:Act}{Q:Exit->Act->World->Prop}{dst:Option Tmp}{t:TypeId}{pos:String}{after:Array Edge}{P:Program}{ty:TypeId}{x y:Operand} (h:lQ (wpList P ops Q (⟨dst,.slice ty x (some y) none none,t,pos,after,none⟩::rest) a w)):wpList P ops Q (⟨dst,.slice ty x (some y) none none,t,pos,after,none⟩::rest) a w:=h.o
theorem TA (l:Bs) (hr:Ro w0 F (bK 1 bv (aI l))) (hcap:lS bv) (hH:Ro w0 F iO) (hl:l.length<=268435456) (h:au w0 w F) :
  Calls prog 96 #[bv] w (bf λv w'=>∃ (fs:List (ay.fO×Value)) (ov:Value),fs.map (·.1)=(ay.eF l).1/\(∀ p∈fs,p.1.e.key.length=32)/\v=.tuple #[ov,.int .i64 (ay.eF l).2.1,dS (ay.eF l).2.2] /\
   au w0 w' (aK 154 36 ov (jw fs)::kT fs::F)):=by
 obtain ⟨I,K,bc,rfl,f,m⟩:=hcap;have E:K=l.length:=by
  exact Dv
 subst E;have hcv:=Lib.run_convert_bytes_const w 59 5 #[.int .u8 72,.int .u8 79,.int .u8 65,.int .u8 82,.int .u8 68,.int .u8 83,.int .u8 69,.int .u8 71] 8 8 underlying59 underlying5;have B:au w0 (w.alloc (.cells #[.int .u8 72,.int .u8 79,.int .u8 65,.int .u8 82,.int .u8 68,.int .u8 83,.int .u8 69,.int .u8 71] 5 (8,9))) (Ac w.heap.size ay.yQ::F):=h.alloc _;simp only [abC,aiT,ajw,aiO,Nat.reduceAdd]at hcv;have s:bK 1 (.slice (some ⟨w.heap.size,0,none⟩) 8 8) (aI ay.yQ) (w.alloc (.cells #[.int .u8 72,.int .u8 79,.int .u8 65,.int .u8 82,.int .u8 68,.int .u8 83,.int .u8 69,.int .u8 71] 5 (8,9))):=by
  refine ⟨_,8,8,rfl,rfl,λj x hj=>⟨_,rfl,?_⟩⟩;rw [xw];have hjl:j<ay.yQ.length:=by
   have:=(abM.1 hj).1;rw [bP]at this;exact this
  have hx:=(JQ B hjl 0).1;unfold aI at hj;rw [ab4,aaf hjl]at hj;cases hj;exact hx
 have c:=anj l ay.yQ I l.length bc f m (hr _ B.drop) _ 8 8 s;have Hr:=uQ hr;have L:=uQ hH;have Hl:=uQ hl;have d:=uQ (show l.length<=bc/\bc<=9223372036854775807 from ⟨f,m⟩);have hF:=uQ B.drop;clear hr hH hl f m B s;cases hm:decide (l.take ay.yQ.length=ay.yQ)
 ·have C:=uQ (show ay.eF l=([],0,4) by
   unfold ay.eF;have:¬ l.take 8=ay.yQ:=of_decide_eq_false hm;rw [abB this])
  rw [hm]at c;clear hm;go_enter func96,ntmps96;go_wp2_with fail;refine c.mono ?_;rintro e M ⟨v,rfl,rfl,rfl⟩;go_wp2
  go_ret3
  refine ⟨_,rfl,[],_,by rw [C.o];rfl,by simp,?_,au.iW.2 (au.ng.2 hF.o)⟩;rw [C.o];rfl
 ·have o:l.take 8=ay.yQ:=ak5 hm;have t:8<=l.length:=by
   have:=aiX List.length o;rw [abA]at this;have G:ay.yQ.length=8:=rfl;omega
  have C:=uQ (show ay.eF l=ay.pY l.length (l.drop 8) 8 by
   unfold ay.eF;rw [abL o])
  have N:=uQ t;rw [hm]at c;obtain ⟨D,off,rfl⟩:∃ D off,I=some ⟨D,off,none⟩:=by
   obtain ⟨b',o',hb,_⟩:=pq (i:=0) (x:= .int .u8 (l[0]'oQ).toNat) (Hr.o _ hF.o) (by unfold aI;rw [ab4,aaf oQ];rfl);exact ⟨_,_,hb⟩
  clear hm o t;go_enter func96,ntmps96;go_wp2_with fail;refine c.mono ?_;rintro e M ⟨v,rfl,rfl,rfl⟩;go_wp2_with fail
  go_loopg [6,5] (l.length-8) (λg O ov P=>∃ (aP:Nat) (fs:List (ay.fO×Value)),g=l.length-aP/\8<=aP/\aP<=l.length/\9*fs.length<=aP/\O=.int .i64 aP/\(∀ p∈fs,p.1.e.key.length=32) /\
   (∃ k,l.length-aP<=k/\ay.eF l=(fs.map (·.1)++(ay.pY k (l.drop aP) aP).1,(ay.pY k (l.drop aP) aP).2)) /\
   au w0 P (aK 154 36 ov (jw fs)::kT fs::F))
  case atStart=>
   exact ⟨8,[],rfl,abG _,N.o,acn _,rfl,by simp,⟨l.length,by omega,by rw [C.o];rfl⟩,au.iW.2 (au.ng.2 hF.o)⟩
  case round=>
   obtain ⟨aP,fs,rfl,G,hat,u,rfl,y,⟨k,J,z⟩,hS⟩:=hrel;have Hk:=uQ J;have vH:=uQ z;have sK:=uQ y;have vk:=uQ (show aP<=l.length/\8<=aP/\9*fs.length<=aP from ⟨hat,G,u⟩);clear J z y G u;by_cases hlt:aP<l.length
   ·have c1:aP<l.length:=oQ;have R:aP<=bc:=by have:=d.o;omega
    have S:l.length<=bc:=by have:=d.o;omega
    have T:aP<=l.length:=oQ;have U:(0:Int)<=aP:=oQ;have V:¬ bc=aP:=by have:=d.o;omega
    have H:∀ w,(Instr.sliceAt 59 (.slice (some ⟨D,off,none⟩) l.length bc) (some (.int .i64 aP)) none none).run prog w=.ok (.slice (some ⟨D,off+aP,none⟩) (l.length-aP) (bc-aP)) w:=by
     intro w;go_simp
    have A:=uQ (λw hw=>yC (Hr.o w hw) aP l.length (bc-aP) hat (abG _));rw [ai0]at A;have dP:=uQ hlt;clear hlt hat;go_wp2_with ((with_reducible refine MK ⟨?_⟩);refine Qr aA aA H ?_);refine (Tv (l.drop aP) (Ro.os A.o) ⟨_,_,_,rfl,by have:=d.o;omega,by have:=d.o;omega⟩ (Ro.os L.o) zE0 hS).mono ?_;rintro W X ⟨v,rfl,da,dc,rfl,hS2⟩;have Ec:=uQ (ay.Ik (l.drop aP));obtain ⟨k,rfl⟩:∃ Q,k=Q+1:=⟨k-1,by have:=Hk.o;have:=dP.o;omega⟩;refine VI ?_;intro vC;by_cases hz:(ay.read (l.drop aP)).2.2=0
    ·have fV:=uQ (ay.BK hz)
     have yJ:=uQ (show ay.eF l=(fs.map (·.1)++(⟨(ay.read (l.drop aP)).1,aP,(ay.read (l.drop aP)).2.1⟩::(ay.pY k ((l.drop aP).drop (ay.read (l.drop aP)).2.1) (aP+(ay.read (l.drop aP)).2.1)).1),(ay.pY k ((l.drop aP).drop (ay.read (l.drop aP)).2.1) (aP+(ay.read (l.drop aP)).2.1)).2) by
      rw [vH.o];simp only [ay.pY];rw [abB vC.o,abB (λh=>h hz)])
     have hN:=fV.o.2.1;rw [abJ]at hN;rw [apl]at yJ;exact af8
    ·exact aga
   ·exact aeN
def iF (f:aJ.gI):Array Value:=(.int .i64 f.auW :: .int .i64 f.aZ :: .int .i64 f.aP::(aI ay.gu++[.string ByteArray.empty])).toArray
theorem uZ:nR prog 36=some (.agg (iF aJ.gI.zero)):=aC
section
variable {ov:Value}
theorem aui {fs:List (ay.fO×Value)} (hk:∀ p∈fs,p.1.e.key.length=32) (h:bK 36 ov (jw fs) w){i:Nat}{p:ay.fO×Value} (hi:fs[i]?=some p) :
  ∃ bk off c,ov=.slice (some ⟨bk,off,none⟩) fs.length c/\w.cell? ⟨bk,off+i*36,none⟩=some (.int .i64 p.1.e.dB):=by
 obtain ⟨bk,off,c,e,hc⟩:=lV (λp hp=>Bz p.1 p.2 (hk p hp)) h hi aU;exact ⟨bk,off,c,e,hc 0 _ rfl⟩
theorem al7 (fs:List (ay.fO×Value)) (hk:∀ p∈fs,p.1.e.key.length=32) (hn:fs.length<=1073741824) (h:bK 36 ov (jw fs) w) :
  Calls prog 193 #[ov] w (bf λv w'=>v=.bool (aJ.C9 (fs.map (·.1)))/\w=w'):=by
 cases hfs:fs.getLast? with
 |none=>
  obtain rfl:fs=[]:=ajF.1 hfs;obtain ⟨a,n,c,rfl,f,_⟩:=h;obtain rfl:n=0:=by have:=f;simp [jw]at this;omega
  go_in
  go_wp2_with fail;go_ret;exact ⟨_,rfl,rfl,rfl⟩
 |some p=>
  have b:fs≠[]:=by intro e;rw [e]at hfs;cases hfs
  have d:=List.length_pos_iff.2 b;have hi:fs[fs.length-1]?=some p:=by rw [<-ao2];exact hfs
  obtain ⟨i,off,c,rfl,l⟩:=aui hk h hi;have g:=uQ (show aJ.C9 (fs.map (·.1))=(p.1.e.dB==2) by unfold aJ.C9;rw [asq,hfs];rfl);rw [g.o];have m:fs.length>0:=oQ;have o:(0:Int)<fs.length:=oQ;have r:IntKind.i64.wrap (fs.length-1)=((fs.length-1:Nat):Int):=by rw [abR _ oQ];omega
  have s:(0:Int)<=((fs.length-1:Nat):Int):=oQ;have t:((fs.length-1:Nat):Int)<(fs.length:Int):=oQ;clear hfs b d hi h hk hn;generalize fs.length-1=j at *
  go_in
  go_wp2_with fail;go_ret;exact ⟨_,rfl,rfl,rfl⟩
end
section
variable {m:ay.Bs->Option aJ.iH}
theorem jV.mono (hB:B<=B') (h:au w0 w (jV p m B::R)):au w0 w (jV p m B'::R):=by
 obtain ⟨t,sv,⟨ok,is,hb⟩,hS⟩:=jV.open h;exact jV.fA ok is (abQ hb hB) hS
variable {da:Option Addr}{dn dc:Nat}
theorem amF (f:ay.fO) (dv:Value) (hk:f.e.key.length=32):(nU f dv)[34]?=some (.int .i64 f.aP)/\(nU f dv)[35]?=some (.int .i64 f.size)/\∀ j v,(aI f.e.key)[j]?=some v->(nU f dv)[1+j]?=some v:=by
 have c:(mM f.e dv).length=34:=zn _ _ hk;refine ⟨?_,?_,λj v d=>?_⟩
 ·show (mM f.e dv++_).toArray[34]?=_;rw [ab5,aiP oQ,c];rfl
 ·show (mM f.e dv++_).toArray[35]?=_;rw [ab5,aiP oQ,c];rfl
 ·have a:=(abM.1 d).1;have b:=a;rw [bP,hk]at b;show (mM f.e dv++_).toArray[1+j]?=_;rw [ab5,aiS oQ,Nat.add_comm];show (aI f.e.key++[dv])[j]?=_;rw [aiS a];exact d
theorem aup (s:Int) (f:ay.fO) (hk:f.e.key.length=32) (hB:B<=13000000) (h:au w0 w (jV p m B::F)) :
  Calls prog 152 #[.agg #[aW p],.int .i64 s,.agg (nU f (.slice da dn dc))] w (bf λ_ w'=>au w0 w' (jV p (aJ.IC m (s,f)) (B+1)::F)):=by
 have Hk:=uQ hk;have HB:=uQ hB;have e0:(nU f (.slice da dn dc))[0]?=some (.int .i64 f.e.dB):=rfl;obtain ⟨e34,e35,aaD⟩:=amF f (.slice da dn dc) hk;clear hk hB;go_enter func152,ntmps152;go_wp2_with (with_reducible apply jy);refine ⟨jB h aF aF ?_⟩;intro b3 w3 h3;go_wp2_with (with_reducible apply jy);refine ⟨jB h3 aF aF ?_⟩;intro b5 w5 h5;clear h h3;have h6:au w0 w5 (pt b5 (.cells (nU f (.slice da dn dc)) 154 (0,0))::pt b3 (.cells #[aW p] 256 (0,0))::jV p m B::F):=h5;clear h5;have f0:w5.cell? ⟨b5,0,none⟩=some (.int .i64 f.e.dB):=h6.bI bJ 0 e0;by_cases h2:f.e.dB=2
 ·have hb:(f.e.dB==2)=true:=alj.2 h2;have Q5:=uQ (show aJ.IC m (s,f)=m from abL h2);have h7:=uQ (jV.mono (akA B) (h6.sb:au w0 w5 (jV p m B::F)));clear h2 h6;go_wp2_with fail
  (try simp only [Exit.inBlock,Exit.then]);refine bodyPost_ret (results_none rfl _ _ _) rfl ?_
  exact ⟨_,rfl,by rw [Q5.o];exact h7.o⟩
 have hb:(f.e.dB==2)=false:=by rw [acj];exact h2
 have Q5:=uQ (show aJ.IC m (s,f)=aY.put m f.e.key ⟨f.e.dB,⟨s,f.aP,f.size⟩,aJ.uI m (s,f)⟩ from abB h2);clear h2;have hkr:w5.rangeAt b5 1 (aI f.e.key):=λj v hj=>h6.bI bJ (1+j) (aaD j v hj)
 go_wp2_with (first
  |((with_reducible refine dH ⟨?_⟩);refine jC h6 aA dh dG aF aC ?_)
  |((with_reducible refine dH ⟨?_⟩);refine kQ (aI f.e.key) aA hkr underlying34 rfl zB0 ?_))
 refine (amU (by have:=HB.o;omega) Hk.o (h6.sb:au w0 w5 (jV p m B::pt b5 (.cells (nU f (.slice da dn dc)) 154 (0,0))::pt b3 (.cells #[aW p] 256 (0,0))::F))).mono ?_;rintro ee w7 ⟨v,rfl,hv,h7⟩;clear h6 hkr f0;rcases hm:m f.e.key with _|a
 focus
  rw [hm,Option.getD_none,Option.isSome_none]at hv;subst hv;have hf0:aJ.EG m (s,f) = -1:=by unfold aJ.EG;show (match m f.e.key with|some a=>a.first|none=> -1) = -1;rw [hm]
  clear hm;go_wp2_with (with_reducible apply jd);refine ⟨iR Qz h7 rfl ?_⟩;intro b6 w8 h8;go_wp2_with (first|((with_reducible refine eG ⟨?_⟩);refine jK (lg ⟨0,aB.bT.zero,0⟩).toArray h8 aA aA aA eu aC aA ?_;intro w9 h9)|((with_reducible refine eG ⟨?_⟩);refine jI h9 aA aF aA eu (by show 4+1<=5;decide) aC aA ?_;intro wB hB)|(with_reducible apply dH));refine ⟨?_⟩;have f1:wB.cell? ⟨b5,0,none⟩=some (.int .i64 f.e.dB):=hB.bI (bW (bW bJ)) 0 e0;have f2:wB.cell? ⟨b6,4,none⟩=some (.int .i64 (-1)):=hB.bI bJ 4 rfl;clear h7 h8 h9;by_cases hz:f.e.dB=0
  focus
   have hb0:(f.e.dB==0)=true:=alj.2 hz;have hE:=uQ (show aJ.uI m (s,f)=s by unfold aJ.uI;rw [hf0];exact abL ⟨hz,by decide⟩);clear hz hf0;go_wp2_with ((with_reducible refine eG ⟨?_⟩);refine jI hB aA aF aA eu (by show 4+1<=5;decide) aC aA ?_;intro wA hA);clear hB f1 f2
  rotate_left
  focus
   have hb0:(f.e.dB==0)=false:=by rw [acj];exact hz
   have hE:=uQ (show aJ.uI m (s,f) = -1 by unfold aJ.uI;rw [hf0];exact abB (λh=>hz h.1));clear hz hf0;go_wp2_with fail;clear f1 f2;have hA:=hB;clear hB
 rotate_left 2
 focus
  rw [hm,avL,Option.isSome_some]at hv;subst hv;have hf0:aJ.EG m (s,f)=a.first:=by unfold aJ.EG;show (match m f.e.key with|some a=>a.first|none=> -1)=a.first;rw [hm]
  obtain ⟨at0,⟨ap1,ap2,ap3⟩,af⟩:=a;have h7':=h7;clear h7 hm;have h7:=h7';clear h7';go_wp2_with (with_reducible apply jd);refine ⟨iR Qz h7 rfl ?_⟩;intro b6 w8 h8;go_wp2_with (first|((with_reducible refine eG ⟨?_⟩);refine jK (lg ⟨at0,⟨ap1,ap2,ap3⟩,af⟩).toArray h8 aA aA aA eu aC aA ?_;intro w9 h9)|(with_reducible apply dH));refine ⟨?_⟩;have f1:w9.cell? ⟨b5,0,none⟩=some (.int .i64 f.e.dB):=h9.bI (bW (bW bJ)) 0 e0;have f2:w9.cell? ⟨b6,4,none⟩=some (.int .i64 af):=h9.bI bJ 4 rfl;clear h7 h8;by_cases hz:f.e.dB=0
  focus
   have hb0:(f.e.dB==0)=true:=alj.2 hz;by_cases hf:af<0
   focus
    have hE:=uQ (show aJ.uI m (s,f)=s by unfold aJ.uI;rw [hf0];exact abL ⟨hz,hf⟩);clear hz hf0;go_wp2_with ((with_reducible refine eG ⟨?_⟩);refine jI h9 aA aF aA eu (by show 4+1<=5;decide) aC aA ?_;intro wA hA);clear h9 f1 f2
   rotate_left
   focus
    have hE:=uQ (show aJ.uI m (s,f)=af by unfold aJ.uI;rw [hf0];exact abB (λh=>hf h.2));clear hz hf0;go_wp2_with fail;clear f1 f2;have hA:=h9;clear h9
  rotate_left 2
  focus
   have hb0:(f.e.dB==0)=false:=by rw [acj];exact hz
   have hE:=uQ (show aJ.uI m (s,f)=af by unfold aJ.uI;rw [hf0];exact abB (λh=>hz h.1));clear hz hf0;go_wp2_with fail;clear f1 f2;have hA:=h9;clear h9
 all_goals
  obtain ⟨q0,q1,q2,q3,q4,hE,oh⟩:∃ q0 q1 q2 q3 q4:Int,Hid (aJ.uI m (s,f)=q4)/\au w0 _ (pt b6 (.cells #[.int .i64 q0,.int .i64 q1,.int .i64 q2,.int .i64 q3,.int .i64 q4] 254 (0,0))::jV p m B::pt b5 (.cells (nU f (.slice da dn dc)) 154 (0,0))::pt b3 (.cells #[aW p] 256 (0,0))::F):=⟨_,_,_,_,_,hE,hA.drew⟩;clear hA;have hG:=And.intro (oh.bI (bW (bW bJ)) 0 e0) (And.intro (oh.bI (bW (bW bJ)) 34 e34) (oh.bI (bW (bW bJ)) 35 e35));refine gK [11,12] (λw'=>w'.cell? ⟨b5,0,none⟩=some (.int .i64 f.e.dB)/\w'.cell? ⟨b5,34,none⟩=some (.int .i64 f.aP)/\w'.cell? ⟨b5,35,none⟩=some (.int .i64 f.size)) aC ?_;refine rP 0 ?_ (y:=eY);refine rP 1 ?_ (y:=eY);refine rt 2 (h:=?_);refine rP 3 ?_ (y:=bV);refine rP 4 ?_ (y:=eY);refine rt 5 (h:=?_);refine rP 6 ?_ (y:=eY);refine rt 7 (h:=?_);refine rp 8 (hy:=yF0) (h:=?_);refine rP 9 ?_ (y:=eY);refine dZ 10 aF aC (λK hK=>?_)
  refine qE oh aF aF aA eu (by show 0+1<=5;decide) aC aA ?_;intro w10 jX;have hG2:=And.intro (jX.bI (bW (bW bJ)) 0 e0) (And.intro (jX.bI (bW (bW bJ)) 34 e34) (jX.bI (bW (bW bJ)) 35 e35));refine hK _ _ (.inr (.inl hG2)) ?_;clear hK oh hG hG2;refine rP 11 ?_ (y:=eY);refine dZ 12 aF aC (λK hK=>?_);refine qE (cs':=#[.int .i64 f.e.dB,.int .i64 s,.int .i64 f.aP,.int .i64 f.size,.int .i64 q4]) jX aF aF aA eu (by show 1+3<=5;decide) aC aA ?_;intro w12 sW;refine hK _ _ (.inl rfl) ?_;clear hK jX;refine fK aC ?_;have zY:au w0 w12 (pt b6 (.cells (lg ⟨f.e.dB,⟨s,f.aP,f.size⟩,aJ.uI m (s,f)⟩).toArray 254 (0,0))::jV p m B::pt b5 (.cells (nU f (.slice da dn dc)) 154 (0,0))::pt b3 (.cells #[aW p] 256 (0,0))::F):=by
   have:=sW;rw [hE.o];exact this
  clear sW;have hkr:w12.rangeAt b5 1 (aI f.e.key):=λj v hj=>zY.bI (bW (bW bJ)) (1+j) (aaD j v hj)
  go_wp2_with (first
   |((with_reducible refine dH ⟨?_⟩);refine kQ (b:=b5) (o:=1) (aI f.e.key) aA hkr underlying34 rfl zB0 ?_)
   |((with_reducible refine dH ⟨?_⟩);refine kG zY aA (bJ (A:=pt b6 (.cells (lg ⟨f.e.dB,⟨s,f.aP,f.size⟩,aJ.uI m (s,f)⟩).toArray 254 (0,0)))) underlying254 rfl aC ?_)
   |((with_reducible refine dH ⟨?_⟩);refine jC zY aA dh dG aF aC ?_))
  refine (aqG (p:=p) (by have:=HB.o;omega) Hk.o ⟨f.e.dB,⟨s,f.aP,f.size⟩,aJ.uI m (s,f)⟩ (zY.sb:au w0 w12 (jV p m B::F))).mono ?_;rintro ee wW ⟨v,rfl,NK⟩;go_wp2_with fail
  go_end0
  exact ⟨_,rfl,by rw [Q5.o];exact NK⟩
end
section
variable {P:Program}{L:List aO}{ops:Array Oper}{rest:List Oper}{a:Act}{Q:Exit->Act->World->Prop}
variable {dst:Option Tmp}{t ty T e:TypeId}{pos:String}{after:Array Edge}{x y:Operand}{cs:Array Value}{o n c k cap sz je:Nat}{ad:Addr}{ys:List Value}
theorem al4 (sz je:Nat){K:Act->World->Prop}{E:Prop} (B:vZ P ty e sz je=true) (hv:a.eval x=.slice (some ⟨b,0,none⟩) k cap) (hy:a.eval y=.slice (some ad) n c)
  (h:au w0 w (pt b (.cells cs T (0,0))::F)) (C:ys.length=n*sz) (A:∀ j u,ys[j]?=some u->w.cell? (ad.add j)=some u) (D:∀ u∈ys,u.oneCell'=true) (v:k+n<=cap) (G:cap*sz<=cs.size)
  (H:∀ w',au w0 w' (pt b (.cells (iK cs (k*sz) ys) T (0,0))::F)->K (a.put dst (.slice (some ⟨b,0,none⟩) (k+n) cap)) w') :
  if Region.wanted ⟨dst,.call { callee:= .builtin .append,args:=#[x,y],argTypes:=#[ty,ty] },t,pos,after,none⟩ (yielded ops a.tmps)=true then
   Oper.wp P ⟨dst,.call { callee:= .builtin .append,args:=#[x,y],argTypes:=#[ty,ty] },t,pos,after,none⟩ a w K Q else E:=by
 rw [abL (rH _ rfl)];obtain ⟨f,i,z,hi,m,g,o,r,s⟩:=CQ B;subst g;have d:=abQ (am2 _ v) G;rw [as3]at d
 have hr:=run_append_room_cells (w:=w) ty t e i f hi b 0 k cap ad n c ys C A D v (λj l=>by
   rw [aiO,h.dD (k*i.size+j) _ (ao1 (show k*i.size+j<cs.size by omega))];rfl) (λj l=>h.uJ _)
 rw [aiO]at hr;refine Vk ?_;exact H _ (au.KA ys (k*i.size) h)
theorem aiF {b c:Value} (d:a.eval x=b) (hy:a.eval y=c) (e:∀ w,(Instr.sliceAt ty b (some c) none none).run P w=.ok v w):Yields P ops ⟨dst,.slice ty x (some y) none none,t,pos,after,none⟩ v a:=
 .inl ⟨rH _ rfl,λw=>by simp only [execOp,d,hy,am8,avX,aii,e,acz,aiV]⟩
theorem asA (sz:Nat){z:Value} (hu:P.underlying ty=some (.slice e)) (hz:nR P e=some z) (hzs:z.cells.size=sz) (h1:z.cells.toList.all (·.oneCell')=true){o:Nat} (hfit:o+sz<=cs.size)
  (h:au w0 w (pt b (.cells cs T (0,0))::F)) :
  ∃ w',(Builtin.clear_ #[ty] t #[.slice (some ⟨b,o,none⟩) 1 c]).run P w=.ok (.tuple #[]) w'/\au w0 w' (pt b (.cells (iK cs o z.cells.toList) T (0,0))::F):=by
 refine ⟨w.setCells b o z.cells.toList,?_,au.KA _ _ h⟩;have hzc:(Builtin.zeroCells z.cells 1).toList=z.cells.toList:=by
  unfold Builtin.zeroCells;simp only [Array.toList_map,Array.toList_range,Nat.one_mul];apply List.ext_getElem yD0;intro i q1 q2;have hi:i<z.cells.size:=by simpa using q2
  simp [auE hi,hi]
 have hst:=run_storeCells_cells (P:=P) b o z.cells.toList 0 w (λj hj=>by
   rw [aoe,h.dD (o+j) _ (ao1 (show o+j<cs.size by simp at hj;omega))];rfl) (λj hj=>h.uJ _) (λu hu=>(ajC.1 h1) u hu)
 simp only [aoe]at hst;simp [Builtin.clear_,akB hu,Wx hz w,hzc,hst]
theorem au4 (sz:Nat){z:Value} (hu:P.underlying ty=some (.slice e)) (hz:nR P e=some z) (hzs:z.cells.size=sz) (h1:z.cells.toList.all (·.oneCell')=true) (hx:a.eval x=.slice (some ⟨b,o,none⟩) 1 c) (hfit:o+sz<=cs.size)
  (h:au w0 w (pt b (.cells cs T (0,0))::F)) (hK:∀ w',au w0 w' (pt b (.cells (iK cs o z.cells.toList) T (0,0))::F)->wpList P ops Q rest (a.put dst (.tuple #[])) w') :
  wpList P ops Q (⟨dst,.call { callee:= .builtin .clear,args:=#[x],argTypes:=#[ty] },t,pos,after,none⟩::rest) a w:=by
 refine ajs rfl λ_ hK'=>?_;obtain ⟨w',hr,hS⟩:=asA (P:=P) (t:=t) (c:=c) sz hu hz hzs h1 hfit h;unfold Oper.wp execOp;simp only [resolve,invoke,builtin,aii,aiV,acz,akg,aij,ajz,hx,hr];exact hK' _ _ (hK w' hS)
theorem akr (h:lQ (wpList P ops Q (⟨dst,.call { callee:= .builtin .clear,args:=#[x],argTypes:=#[ty] },t,pos,after,none⟩::rest) a w)):wpList P ops Q (⟨dst,.call { callee:= .builtin .clear,args:=#[x],argTypes:=#[ty] },t,pos,after,none⟩::rest) a w:=h.o
end
theorem alK {l:List (Int×Int)}{i cap:Nat}{cs:Array Value} (hi:i<l.length) (hn:l.length<=cap) (hc:cap*2<=cs.size) (htk:cs.toList.take (l.length*2)=jg l) (z:List Value) (hz:z.length=2) :
  (iK (iK cs (i*2) (jg (l.drop (i+1)))) ((l.length-1)*2) z).toList.take ((l.length-1)*2)=jg (l.eraseIdx i):=by
 have a:(jg (l.drop (i+1))).length=(l.length-(i+1))*2:=by rw [qx,abJ,alQ]
 have b:cs.toList.length=cs.size:=by simp
 rw [qY _ _ _ (by rw [pW];omega),ab6,List.take_append,awo,Nat.min_self];have c:(iK cs (i*2) (jg (l.drop (i+1)))).toList.length=cs.size:=(ahN).trans (pW _ _ _);have d:((iK cs (i*2) (jg (l.drop (i+1)))).toList.take ((l.length-1)*2)).length=(l.length-1)*2:=by
  rw [abA,c];omega
 rw [d,auP,ajN,ahB,qY _ _ _ oQ,ab6,List.take_append,abA,b,avG oQ,acE yE0];rw [List.take_append,a,acE (l:=jg (l.drop (i+1))) oQ,show (l.length-1)*2-i*2-(l.length-(i+1))*2=0 by omega,ajN,ahB];have e:cs.toList.take (i*2)=jg (l.take i):=by
  have:=aiX (List.take (i*2)) htk;rw [awo,avG oQ]at this;rw [this]
  conv=>lhs;rw [<-aja i l,Fq,ajj (by rw [qx,abA];omega),acE (by rw [qx,abA];omega)]
 rw [e,<-Fq,List.eraseIdx_eq_take_drop_succ]
theorem atl (l:List (Int×Int)) (i:Nat):jg (l.drop i)=(jg l).drop (i*2):=by
 rcases anF i l.length with h|h
 ·have h1:jg l=jg (l.take i)++jg (l.drop i):=by rw [<-Fq,aja]
  have h2:(jg (l.take i)).length=i*2:=by rw [qx,abA];omega
  rw [h1,<-h2,List.drop_left]
 ·rw [aiU h,aiU (by rw [qx];omega)];rfl
theorem atm (l:List (Int×Int)):∀ u∈jg l,u.oneCell'=true:=by
 intro u hu;unfold jg at hu;rw [aob]at hu;obtain ⟨s,_,hs⟩:=hu;simp only [ab9,ajW,av2]at hs;rcases hs with rfl|rfl <;> rfl
theorem atf (l:List (Int×Int)) (i:Nat) (hi:i<l.length) (hln:l.length<=1048576) (h:au w0 w (aK 148 2 lv (jg l)::F)) :
  Calls prog 170 #[lv,.int .i64 i,.int .i64 ((i:Int)+1)] w (bf λv w'=>∃ a n c,v=.slice a n c/\au w0 w' (aK 148 2 v (jg (l.eraseIdx i))::F)):=by
 rcases h.nV with ⟨rfl,Q,hF⟩|⟨b,R,cap,cs,rfl,r,d,B,f,g,M⟩
 ·exfalso;have:=aiX List.length Q;rw [qx]at this;simp at this;omega
 rw [qx]at r;obtain rfl:R=l.length:=oQ;have O:cap<=9223372036854775807:=f;have s:=uQ (alK hi d B g [.int .i64 0,.int .i64 0] rfl);have h0:(0:Int)<=(i:Int):=oQ;have h1:(i:Int)<=(i:Int)+1:=oQ;have h2:(i:Int)+1<=(l.length:Int):=oQ;have h3:(l.length:Int)<=(cap:Int):=oQ;have S:((i:Int)==(i:Int)+1)=false:=by rw [acj];omega
 have Hp:=uQ M;have C:=uQ f;have D:=uQ B;have t:=uQ d;have E:=uQ g;have m:=uQ hi;have T:=uQ hln;clear d B f g hi h r hln;go_enter func170,ntmps170;go_wp2_with fail;obtain ⟨G,x,z⟩:∃ G:Addr,(i+1<l.length->G=⟨b,(i+1)*2,none⟩)/\∀ w,(Instr.sliceAt 144 (.slice (some ⟨b,0,none⟩) l.length cap) (some (.int .i64 ((i:Int)+1))) none none).run prog w=.ok (.slice (some G) (l.length-(i+1)) (cap-(i+1))) w:=by
  by_cases U:cap=i+1
  ·refine ⟨⟨b,0,none⟩,λhh=>by have:=t.o;omega,λw=>?_⟩;have V:(0:Int)<=(i:Int)+1:=oQ;have W:((i:Int)+1).toNat=i+1:=oQ;go_simp
  ·refine ⟨⟨b,(i+1)*2,none⟩,λ_=>rfl,λw=>?_⟩;have V:(0:Int)<=(i:Int)+1:=oQ;have W:((i:Int)+1).toNat=i+1:=oQ;go_simp
 have X:i<=cap:=oQ;refine gK [] (λ_=>True) aC ?_;refine rP 0 ?_ (y:=bV);refine rP 1 ?_ (y:=bV);refine rp 2 (hy:=yF0) (h:=?_);refine rP 3 ?_ (y:=bV);refine rP 4 ?_ (y:=bV);refine rP 5 ?_ (y:=(aiF aF aF z));refine dZ 6 aF aC (λK P=>?_);refine al4 (e:=148) (w0:=w0) (b:=b) (cs:=cs) (k:=i) (ys:=jg (l.drop (i+1))) 2 16 aC aA aA Hp.o.drew (by rw [qx,abJ,alQ]) ?_ (atm _) (by have:=t.o;have:=m.o;omega) D.o ?_
 ·intro j u H;have I:=(abM.1 H).1;rw [qx,abJ]at I;rw [x oQ,Addr.add_mid];rw [atl,anv]at H;exact Hp.o.drew.dD _ _ (qy E.o H)
 intro w2 J;refine P _ _ (.inr (.inl trivial)) ?_;clear P K;rw [show i+(l.length-(i+1))=l.length-1 by have:=m.o;omega];have Y:(0:Int)<=((l.length-1:Nat):Int):=oQ;have Z:((l.length-1:Nat):Int)<=(l.length:Int):=oQ;have aa:¬ cap=l.length-1:=by have:=t.o;have:=m.o;omega
 have ab:l.length-(l.length-1)=1:=by have:=m.o;omega
 have A:=uQ (show (l.length-1)*2+2<=(iK cs (i*2) (jg (l.drop (i+1)))).size by rw [pW];have:=D.o;have:=t.o;have:=m.o;omega);have Hk:=uQ (show (jg (l.eraseIdx i)).length=(l.length-1)*2 by rw [qx,List.length_eraseIdx_of_lt m.o,alQ]);generalize (l.length-1)=N at *
 refine rP 7 ?_ (y:=kR);refine fK aC ?_;clear M z x;go_wp2_with ((with_reducible refine akr ⟨?_⟩);refine au4 (o:=N*2) 2 underlying144 aiH aA aA aA A.o J ?_;intro w3 L);go_ret;refine ⟨_,rfl,_,_,_,rfl,?_⟩;exact au.pV L Hk.o (by have:=t.o;omega) (by rw [pW,pW];exact D.o) C.o s.o
theorem aoY (hL:L.Ok) (hM:M.Ok K) (rY:K<=1099511627776) (n:Int) (h:au w0 w (bC p m L::aV m M::F)) :
  Calls prog 121 #[aW p,.int .i64 n] w (bf λv w'=>v=dS (L.dA M n).2/\au w0 w' (bC p m (L.dA M n).1.1::aV m (L.dA M n).1.2::F)):=by
 obtain ⟨lv,r⟩:=bC.xJ h;have g:=Aj r;have hf:=JK hL n h;clear r lv;rcases Nr n with ⟨s,t⟩|⟨i,s,t⟩
 ·have u:=uQ (show L.dA M n=((L,M),9) by unfold aB.aS.dA;rw [s]);rw [t]at hf;clear s t hL h;go_enter func121,ntmps121;go_wp2_with fail;refine g.mono ?_;rintro e H ⟨v,rfl,rfl,rfl⟩;clear g;go_wp2_with fail;refine hf.mono ?_;rintro e H ⟨v,rfl,rfl,j⟩;clear hf;go_wp2;go_ret;rw [u.o];exact ⟨_,rfl,rfl,j⟩
 ·rw [t]at hf;have x:=(aB.aS.MI s).1;have O:=uQ (show L.dA M n=if (M.dA (aB.name n)).2=0 then ((L.xR i,(M.dA (aB.name n)).1),0) else ((L,(M.dA (aB.name n)).1),(M.dA (aB.name n)).2) by unfold aB.aS.dA;rw [s]);have U:(0:Int)<=i:=oQ;have hd:decide (i<0)=false:=aes oQ;have o:=uQ x;have d:=uQ hL.len;have z:=uQ hL.dK;clear s t hL h x;go_enter func121,ntmps121;go_wp2_with fail;refine g.mono ?_;rintro e H ⟨v,rfl,rfl,rfl⟩;clear g;go_wp2_with fail;refine hf.mono ?_;rintro e H ⟨v,rfl,rfl,j⟩;clear hf;obtain ⟨lv,r⟩:=bC.xJ j;clear j;go_wp2_with fail;refine gK [6,7] (λw'=>w'.cell? ⟨p,0,none⟩=some (aW m)) aC ?_;have P:H.drew.cell? ⟨p,0,none⟩=some (aW m):=r.drew.bI dh 0 rfl;refine rP 0 ?_ (y:=bV);refine rP 1 ?_ (y:=jF);refine rP 2 ?_ (y:=eY);refine rt 3 (h:=?_);refine rP 4 ?_ (y:=bV);clear P;refine dZ 5 aF aC (λK A=>?_)
  (refine yw aC aF ?_)
  refine (Au n r.drew).mono ?_;rintro e w3 ⟨v,rfl,rfl,C⟩;refine A _ _ (.inr (.inl (C.bI dh 0 rfl))) ?_;clear A r;refine dZ 6 aF aC (λK A=>?_)
  (refine kM aC aF aF ?_)
  refine (BM hM rY (au.pk aQ) _).mono ?_;rintro e w4 ⟨v,rfl,rfl,b⟩;refine A _ _ (.inl rfl) ?_;clear A C;refine rP 7 ?_ (y:=kR);refine fK aC ?_;clear hM;generalize M.dA (aB.name n)=B at *
  obtain ⟨M2,Q⟩:=B;by_cases I:Q=0;rotate_left
  ·have V:(Q==0)=false:=alE I;have f:=uQ (O.o.trans (abB I));clear I;go_wp2_with fail;go_ret;rw [f.o];exact ⟨_,rfl,rfl,bC.oO (au.sb b)⟩
  subst I;have f:=uQ (O.o.trans (abL rfl));clear O;obtain ⟨J,lc,rfl⟩:∃ J lc,lv=.slice J L.l.length lc:=by
   obtain ⟨a,W,c,rfl,hn,_⟩:=au.rd (b.pk);rw [qx]at hn;exact ⟨a,c,by rw [show W=L.l.length by omega]⟩
  have X:IntKind.i64.wrap (L.l.length-1)=L.l.length-1:=by rw [aiY];have:=d.o;omega
  have Y:IntKind.i64.wrap (L.l.length-L.dK)=L.l.length-L.dK:=by rw [aiY];have:=d.o;have:=z.o;omega
  have Z:IntKind.i64.wrap (L.dK-1)=L.dK-1:=by rw [aiY];have:=d.o;have:=z.o;omega
  have aa:IntKind.i64.wrap ((i:Int)+1)=(i:Int)+1:=by rw [aiY];have:=d.o;have:=o.o;omega
  have D:=uQ (show (L.xR i).on=if ((i:Int)==(L.l.length:Int)-1)=true then false else L.on by
   unfold aB.aS.xR;simp only [alj];have:=o.o;by_cases R:i+1=L.l.length
   ·rw [abL R,abL oQ]
   ·rw [abB R,abB oQ])
  have E:=uQ (show (L.xR i).dK=if decide ((L.l.length:Int)-L.dK<=(i:Int))=true then L.dK-1 else L.dK by
   unfold aB.aS.xR;simp only [ad2])
  have G:=uQ (show (L.xR i).l=L.l.eraseIdx i/\(L.xR i).limit=L.limit from ⟨rfl,rfl⟩);generalize L.xR i=LW at *
  obtain ⟨S,Wl,ab,ac⟩:=LW;obtain ⟨rfl,rfl⟩:=G.o;obtain rfl:=D.o;obtain rfl:=E.o;clear D E G;cases hb1:((i:Int)==(L.l.length:Int)-1) <;> cases hb2:(decide ((L.l.length:Int)-L.dK<=(i:Int)))
  all_goals
   go_wp2_with (first|((with_reducible refine dH ⟨?_⟩);refine jC aQ aA dh dG aF aC ?_)|((with_reducible refine eG ⟨?_⟩);refine jI aQ aA aF pQ fJ dG aC aA ?_;intro T N))
   try have b:=N
   have P:(World.drew _).cell? ⟨p,2,none⟩=some (.slice J L.l.length lc)/\(World.drew _).cell? ⟨p,4,none⟩=some (.int .i64 L.dK):=⟨b.drew.bI dh 2 rfl,b.drew.bI dh 4 rfl⟩;refine gK [10,11] (λw'=>w'.cell? ⟨p,2,none⟩=some (.slice J L.l.length lc)/\w'.cell? ⟨p,4,none⟩=some (.int .i64 L.dK)) aC ?_;refine rP 0 ?_ (y:=bV);refine rP 1 ?_ (y:=bV);refine rP 2 ?_ (y:=jF);refine rP 3 ?_ (y:=eY);refine rt 4 (h:=?_);refine rP 5 ?_ (y:=(vX aF dX));refine rP 6 ?_ (y:=bV);refine rP 7 ?_ (y:=jF);refine rP 8 ?_ (y:=eY);refine rt 9 (h:=?_);refine rP 10 ?_ (y:=nT);refine rP 11 ?_ (y:=nT);refine fK aC ?_;clear P;have ad:=b.drew;clear b;go_wp2_with (first|((with_reducible refine dH ⟨?_⟩);refine jC aQ aA dh dG aF aC ?_)|((with_reducible refine eG ⟨?_⟩);refine jI aQ aA aF pQ fJ dG aC aA ?_;intro T N));refine (atf L.l i o.o d.o (au.pk aQ)).mono ?_
   rintro e w6 ⟨v,rfl,da,dn,dc,rfl,ae⟩;go_wp2_with ((with_reducible refine eG ⟨?_⟩);refine jI aQ aA aF pQ fJ dG aC aA ?_;intro T N);go_ret;rw [f.o,hb1,hb2];simp only [auT,auQ,ajI];exact ⟨_,rfl,rfl,bC.oO (au.sb N)⟩
theorem ags {L:aB.aS}{M:aG} (h:M.Ok K) (n:Int):(L.dA M n).1.2.Ok (K+1):=by
 unfold aB.aS.dA;split;· exact h.mono (akA K)
 split <;> exact h.dA _
theorem aoX (hH:Ro w0 F iO) (hL:L.Ok) (hM:M.Ok K) (pl:aB.bT) (h1 : -9223372036854775808<=pl.aP/\pl.aP<=9223372036854775807) (h2 : -9223372036854775808<=pl.size/\pl.size<=9223372036854775807) (h:au w0 w (bC p m L::aV m M::F)) :
  Calls prog 127 #[aW p,OT pl] w (bf λv w'=>∃ da dc,v=.tuple #[.agg (dR (L.read M pl).1 (.slice da (L.read M pl).1.data.length dc)),dS (L.read M pl).2] /\
   au w0 w' (cZ (.slice da (L.read M pl).1.data.length dc) (L.read M pl).1.data::bC p m L::aV m M::F)):=by
 have W:=uQ hH;rcases Nr pl.aZ with ⟨A,B⟩|⟨i,A,B⟩
 ·have l:=uQ (show L.read M pl=(ay.iL,9) by unfold aB.aS.read;rw [A]);have I:=uQ B;clear A B hH
  go_in
  go_wp2_with (first|((with_reducible refine jy ⟨?_⟩);refine jB aQ aF aF ?_;intro s X Y)|((with_reducible refine ql ⟨?_⟩);refine qA aQ ?_;intro E G j));obtain ⟨lv,f⟩:=bC.xJ (j.pk);refine (Aj f).mono ?_;rintro e Z ⟨v,rfl,rfl,rfl⟩;clear f lv;have hf:=JK hL pl.aZ (j.pk);rw [I.o]at hf;go_wp2_with ((with_reducible refine dH ⟨?_⟩);refine jC aQ aA dh dG aF aC ?_);refine hf.mono ?_;rintro e C ⟨v,rfl,rfl,t⟩;clear hf j;go_wp2_with (first|((with_reducible refine uG ⟨?_⟩);refine uX ?_)|((with_reducible refine mY ⟨?_⟩);first|(refine jk aQ aA aA fQ fJ sQ ?_;intro n d)|(refine jk aQ aA aA rfl fJ sQ ?_;intro n d)));rw [l.o];exact ⟨rfl,_,Io rfl aQ aA dh rfl,_,rfl,none,0,rfl,au.iW.2 (au.sb d)⟩
 ·have c:=uQ (show L.read M pl=if (M.read (aB.name pl.aZ) pl.aP pl.size).2≠0 then (ay.iL,(M.read (aB.name pl.aZ) pl.aP pl.size).2)
   else if (ay.read (M.read (aB.name pl.aZ) pl.aP pl.size).1).2.2≠0 then (ay.iL,(ay.read (M.read (aB.name pl.aZ) pl.aP pl.size).1).2.2)
   else if (ay.read (M.read (aB.name pl.aZ) pl.aP pl.size).1).2.1≠(M.read (aB.name pl.aZ) pl.aP pl.size).1.length then (ay.iL,4)
   else ((ay.read (M.read (aB.name pl.aZ) pl.aP pl.size).1).1,0) by unfold aB.aS.read;rw [A])
  have I:=uQ B;have J:=uQ (aB.ard hM (aB.name pl.aZ) pl.aP pl.size);have aa:(0:Int)<=i:=oQ;have hd:decide (i<0)=false:=aes oQ;clear A B hH
  go_in
  go_wp2_with (first|((with_reducible refine jy ⟨?_⟩);refine jB aQ aF aF ?_;intro s X Y)|((with_reducible refine ql ⟨?_⟩);refine qA aQ ?_;intro E G j));obtain ⟨lv,f⟩:=bC.xJ (j.pk);refine (Aj f).mono ?_;rintro e Z ⟨v,rfl,rfl,rfl⟩;clear f lv;have hf:=JK hL pl.aZ (j.pk);rw [I.o]at hf;go_wp2_with ((with_reducible refine dH ⟨?_⟩);refine jC aQ aA dh dG aF aC ?_);refine hf.mono ?_;rintro e C ⟨v,rfl,rfl,t⟩;clear hf j;obtain ⟨lv,f⟩:=bC.xJ t;clear t;go_wp2;refine gK [11,12,13,14,15,16] (λw'=>w'.cell? ⟨p,0,none⟩=some (aW m)/\w'.cell? ⟨s,0,none⟩=some (.int .i64 pl.aZ)/\w'.cell? ⟨s,1,none⟩=some (.int .i64 pl.aP)/\w'.cell? ⟨s,2,none⟩=some (.int .i64 pl.size)) aC ?_
  have hG:C.drew.cell? ⟨p,0,none⟩=some (aW m)/\C.drew.cell? ⟨s,0,none⟩=some (.int .i64 pl.aZ)/\C.drew.cell? ⟨s,1,none⟩=some (.int .i64 pl.aP)/\C.drew.cell? ⟨s,2,none⟩=some (.int .i64 pl.size):=⟨f.drew.bI dh 0 rfl,f.drew.bI dh 0 rfl,f.drew.bI dh 1 rfl,f.drew.bI dh 2 rfl⟩;refine rP 0 ?_ (y:=bV);refine rP 1 ?_ (y:=jF);refine rP 2 ?_ (y:=eY);refine rt 3 (h:=?_);refine rP 4 ?_ (y:=eY);refine rt 5 (h:=?_);refine rP 7 ?_ (y:=eY);refine rt 8 (h:=?_);refine rP 9 ?_ (y:=eY);refine rt 10 (h:=?_);clear hG;refine dZ 6 aF aC (λK D=>?_)
  (refine yw aC aF ?_)
  refine (Au pl.aZ f.drew).mono ?_;rintro e w4 ⟨v,rfl,rfl,g⟩;refine D _ _ (.inr (.inl ⟨g.bI dh 0 rfl,g.bI dh 0 rfl,g.bI dh 1 rfl,g.bI dh 2 rfl⟩)) ?_;clear D f;refine dZ 11 aF aC (λK D=>?_)
  (refine SH aC aF aF aF aF ?_)
  refine (arb hM (au.pk aQ) _ pl.aP pl.size h1 h2).mono ?_;rintro e w5 ⟨v,rfl,bv,rfl,u⟩;refine D _ _ (.inl rfl) ?_;clear D g h1 h2;refine rP 12 ?_ (y:=bV);refine rP 13 ?_ (y:=(lX aF dX));refine rP 14 ?_ (y:=(lX aF dX));refine rP 15 ?_ (y:=kR);refine rP 16 ?_ (y:=kR);refine fK aC ?_;generalize M.read (aB.name pl.aZ) pl.aP pl.size=RR at *
  obtain ⟨z,U⟩:=RR;by_cases H:U=0;rotate_left
  ·have N:(U==0)=false:=alE H;have l:=uQ (c.o.trans (abL H));clear H;go_wp2_with (first|((with_reducible refine uG ⟨?_⟩);refine uX ?_)|((with_reducible refine mY ⟨?_⟩);first|(refine jk aQ aA aA fQ fJ sQ ?_;intro n d)|(refine jk aQ aA aA rfl fJ sQ ?_;intro n d)));rw [l.o];exact ⟨rfl,_,Io rfl aQ aA dh rfl,_,rfl,none,0,rfl,au.iW.2 (au.pick (bC.oO (au.sb d)) bJ)⟩
  subst H;have a:=uQ (c.o.trans (abB (λh=>h rfl)));clear c;obtain ⟨ba,bn,bc,O,P,Q,R⟩:=Bh u;subst O;subst R;have x:=Tv z (Ro.op (Ro.cZ _ _)) ⟨_,_,_,rfl,P,Q⟩ (Ro.os W.o) (by have:=J.o;simp only at this;omega) u;have r:=aB.Ik z;generalize ay.read z=FR at *
  obtain ⟨fe,S,V⟩:=FR;simp only at x r;go_wp2_with fail;refine x.mono ?_;rintro e w6 ⟨v,rfl,da,dc,rfl,ab⟩;clear x u;by_cases o:V=0;rotate_left
  ·have N:(V==0)=false:=alE o;have l:=uQ (a.o.trans (abL o));clear o;go_wp2_with (first|((with_reducible refine ql ⟨?_⟩);refine qA aQ ?_;intro E G j)|((with_reducible refine uG ⟨?_⟩);refine uX ?_)|((with_reducible refine mY ⟨?_⟩);first|(refine jk aQ aA aA fQ fJ sQ ?_;intro n d)|(refine jk aQ aA aA rfl fJ sQ ?_;intro n d)));rw [l.o];exact ⟨rfl,_,Io rfl aQ aA dh rfl,_,rfl,none,0,rfl,au.iW.2 (au.pick (bC.oO (au.sb d)) bJ)⟩
  subst o;have b:=uQ (a.o.trans (abB (λh=>h rfl)));clear a;by_cases hn:S=z.length;rotate_left
  ·have T:((S:Int)==(z.length:Int))=false:=by rw [acj];omega
   have l:=uQ (b.o.trans (abL hn));clear hn;go_wp2_with (first|((with_reducible refine ql ⟨?_⟩);refine qA aQ ?_;intro E G j)|((with_reducible refine uG ⟨?_⟩);refine uX ?_)|((with_reducible refine mY ⟨?_⟩);first|(refine jk aQ aA aA fQ fJ sQ ?_;intro n d)|(refine jk aQ aA aA rfl fJ sQ ?_;intro n d)));rw [l.o];exact ⟨rfl,_,Io rfl aQ aA dh rfl,_,rfl,none,0,rfl,au.iW.2 (au.pick (bC.oO (au.sb d)) bJ)⟩
  have l:=uQ (b.o.trans (abB (λh=>h hn)));have T:((S:Int)==(z.length:Int))=true:=by rw [alj];omega
  clear hn b;go_wp2_with (first|((with_reducible refine ql ⟨?_⟩);refine qA aQ ?_;intro E G j)|((with_reducible refine xA ⟨?_⟩);refine xU aQ aA dh fQ ?_)|((with_reducible refine mY ⟨?_⟩);first|(refine jk aQ aA aA fQ fJ sQ ?_;intro n d)|(refine jk aQ aA aA rfl fJ sQ ?_;intro n d)));rw [l.o];exact ⟨rfl,_,Io rfl aQ aA dh r,_,rfl,da,dc,rfl,au.sub (bC.oO (au.sb d)) oG⟩
theorem aq7 {k:Nat}{l:List Int}{a:Option Addr}{n c:Nat} (h:bK 1 (.slice a n c) (dJ l) w):bK 1 (.slice a (min n k) c) (dJ (l.take k)) w:=by
 obtain ⟨m,o,r,f,g,i⟩:=h;cases f;have b:∀ l:List Int,(dJ l).length=l.length:=λl=>abl ..;rw [b,aiR]at g;refine ⟨a,_,c,rfl,by rw [b,abA];omega,λj y d=>?_⟩;have e:(dJ l)[j]?=some y:=by
  unfold dJ at d ⊢;rw [avZ,ak7]at d;split at d
  ·exact d
  ·cases d
 exact i j y e
theorem XQ (x lo hi:Int) (h:lo<=hi):lo<=within x lo hi/\within x lo hi<=hi:=by
 unfold within;split
 ·exact ⟨avf _,h⟩
 ·split <;> omega
theorem Ny {fs:List (ay.fO×Value)}{v:Value} (hk:∀ p∈fs,p.1.e.key.length=32) (h:au w0 w (aK 154 36 v (jw fs)::R)):∃ a c,v=.slice a fs.length c:=by
 obtain ⟨a,n,c,rfl,hl,hx⟩:=au.rd h;rw [Tn hk]at hl;obtain rfl:n=fs.length:=oQ;exact ⟨a,c,rfl⟩
theorem aak:∀ (fs:List (ay.fO×Value)) (i:Nat) (p:ay.fO×Value),fs[i]?=some p->∃ G,kT fs=fP (cZ p.2 p.1.e.data) G
 |[],_,_,h=>by cases h
 |x::fs,0,p,h=>by
  obtain rfl:x=p:=by simpa using h
  exact ⟨_,rfl⟩
 |x::fs,i+1,p,h=>by
  obtain ⟨G,hG⟩:=aak fs i p yJ0;refine ⟨fP (cZ x.2 x.1.e.data) G,?_⟩;show fP (cZ x.2 x.1.e.data) (kT fs)=_;rw [hG,zF]
theorem Eu {fs:List (ay.fO×Value)}{i:Nat}{p:ay.fO×Value} (h:fs[i]?=some p):Ro w0 (kT fs::R) (bK 1 p.2 (aI p.1.e.data)):=λw hw=>by
 obtain ⟨G,hG⟩:=aak fs i p h;rw [hG]at hw;exact au.rd (au.fP.1 hw)
theorem RU {l:Bs} (h:au w0 w (cZ v l::R)):lS v/\∃ a c,v=.slice a l.length c:=by
 refine ⟨ZH h,?_⟩;obtain ⟨a,n,c,rfl,_,_,rfl⟩:=Bh h;exact ⟨a,c,rfl⟩
end Go.Proofs.Y
namespace Go.aH
open Go.aG
def name (jW:ByteArray) (n:Int):ByteArray:=if aB.name n=ByteArray.empty then ByteArray.empty else jW++(aB.name n).extract 4 12
def gY:ByteArray:=⟨#[105,100,120,46]⟩
def kJ:ByteArray:=⟨#[117,115,101,46]⟩
theorem PX (n:Int):aB.name n=ByteArray.empty\/(aB.name n).size=12/\(aB.name n).data.toList.take 4=aB.jW:=by
 unfold aB.name;split
 ·exact .inl rfl
 ·right;refine ⟨?_,rfl⟩;show (aB.jW++aB.lu n.toNat 8).toArray.size=12;rw [abC,aay,aB.zU];rfl
end Go.aH
namespace Go.aB
open Go.aG
structure nH (M M':aG):Prop where
 aN:M'.aN=M.aN
 room:M'.room=M.room
 off:M'.off=M.off
 bytes:∀ p∈M.aN,(M'.file p.2).aN=(M.file p.2).aN
theorem nH.refl (M:aG):nH M M:=⟨rfl,rfl,rfl,λ_ _=>rfl⟩
theorem nH.trans {A B C:aG} (h:nH A B) (k:nH B C):nH A C:=
 ⟨k.aN.trans h.aN,k.room.trans h.room,k.off.trans h.off,λp hp=>(k.bytes p (by rw [h.aN];exact hp)).trans (h.bytes p hp)⟩
theorem nH.cO {M M':aG} (h:nH M M'):M'.cO=M.cO:=by
 unfold aG.cO;rw [h.aN];exact aiX List.sum (anP λp hp=>by rw [h.bytes p hp])
theorem nH.all {M M':aG} (h:nH M M') (s:ByteArray):M'.all s=M.all s:=by
 unfold aG.all;rw [h.off,h.aN];cases hg:dN M.aN s with
 |none=>rfl
 |some i=>simp only;rw [h.bytes (s,i) (lZ hg)]
theorem Qa {M:aG}{K:Nat} (ok:M.Ok K) (q:jL M) (s:ByteArray):nH M (M.dY s).1:=by
 cases hg:dN M.aN s with
 |none=>
  have:M.dY s=(M,9):=by unfold aG.dY;rw [q.off,hg];rfl
  rw [this];exact nH.refl M
 |some i=>
  rw [q.KI hg];refine ⟨rfl,rfl,rfl,λp hp=>?_⟩;rw [Df (ok.jR.qG _ (lZ hg))];split
  ·rename_i e;rw [e];rfl
  ·rfl
theorem zS {M:aG} (q:jL M) (s:ByteArray) (b:Bs) :
  dN M.aN s=none/\M.append s b=(M,9)\/∃ i,dN M.aN s=some i/\((M.room:Int)-M.cO<b.length/\M.append s b=(M,11)\/¬ (M.room:Int)-M.cO<b.length/\M.append s b=(M.lW i ((M.file i).do ⟨false,0,b⟩),0)):=by
 unfold aG.append;rw [q.off,q.step];cases hg:dN M.aN s with
 |none=>exact .inl ⟨rfl,rfl⟩
 |some i=>
  refine .inr ⟨i,rfl,?_⟩;simp only [ajI,auQ,Bool.true_eq_false];by_cases h:(M.room:Int)-M.cO<b.length
  ·exact .inl ⟨h,by rw [abL h]⟩
  ·exact .inr ⟨h,by rw [abB h]⟩
theorem Gs {M:aG} (q:jL M) (s:ByteArray) :
  (M.dM s).2≠0/\(M.dM s).2≠11/\(M.dM s).1=M\/dW s=true/\dN M.aN s=none/\M.aN.length<500/\M.dM s=({ M with dU:=M.dU++[dw.iZ],aN:=qp M.aN s M.dU.length,waits:=M.waits++[⟨ByteArray.empty,s,M.dU.length⟩] },0):=by
 unfold aG.dM;rw [q.off,q.step];simp only [ajI,auQ,Bool.true_eq_false];by_cases h1:dW s=false
 ·rw [abL h1];exact .inl ⟨by simp,by simp,rfl⟩
 rw [abB h1];by_cases h2:(dN M.aN s).isSome=true
 ·rw [abL h2];exact .inl ⟨by simp,by simp,rfl⟩
 rw [abB h2];by_cases h3:500<=M.aN.length
 ·rw [abL h3];exact .inl ⟨by simp,by simp,rfl⟩
 rw [abB h3];have hg:dW s=true:=by simpa using h1
 refine .inr ⟨hg,by simpa using h2,by omega,?_⟩;unfold aG.kL lY.on;simp only [auT,abB (yx hg)];rw [q.off]
theorem Pz {M:aG} (q:jL M){s:ByteArray}{i:Nat} (h:dN M.aN s=some i):M.dA s=(M.kL ⟨s,ByteArray.empty,0⟩,0):=by
 unfold aG.dA;rw [q.off,q.step,h];simp
theorem Ox {l:iI}{s t:ByteArray} (h:s≠t):dN (jY l t) s=dN l s:=by
 induction l with
 |nil=>rfl
 |cons p l ih=>
  unfold dN jY at *
  rw [anT];by_cases e:p.1=t
  ·rw [abB (by simp [bne,tY,e])];rw [ih,List.find?_cons];have:(p.1==s)=false:=by rw [tY,e];exact aes (λhh=>h hh.symm)
   rw [this]
  ·rw [abL (by simp [tY,bne,e]),List.find?_cons,List.find?_cons];cases (p.1==s)
   ·exact ih
   ·rfl
theorem apE {l:iI}{s t:ByteArray}{i:Nat} (h:s≠t):dN (yR l t i) s=dN l s:=by
 have ht:(t==s)=false:=by rw [tY];exact aes (λhh=>h hh.symm)
 induction l with
 |nil=>unfold yR dN;simp [ht]
 |cons p l ih=>
  unfold yR;split
  ·unfold dN;rw [List.find?_cons,ht]
  ·unfold dN at *
   rw [List.find?_cons,List.find?_cons];cases (p.1==s)
   ·exact ih
   ·rfl
theorem G9 {l:iI}{s t:ByteArray}{i:Nat} (h:s≠t):dN (qp l t i) s=dN l s:=by
 unfold qp;rw [apE h,Ox h]
theorem Hw {l:iI} (hs:tX l) (s:ByteArray) (i:Nat):dN (qp l s i) s=some i:=
 G8 (hs.put s i).keys ((BG l s i).mem_iff.2 (.head _))
theorem apo (l:iI) (s:ByteArray) (i:Nat):jY (yR l s i) s=jY l s:=by
 induction l with
 |nil=>unfold yR jY;simp [bne,tY]
 |cons p l ih=>
  unfold yR;split
  ·unfold jY;rw [anT,abB (by simp [bne,tY])]
  ·unfold jY at *
   rw [anT,anT,ih]
theorem UK {l:iI}{s:ByteArray}{i:Nat} (h:dN l s=none):jY (qp l s i) s=l:=by
 unfold qp;rw [apo,EX h,EX h]
structure gU (K room:Nat) (M:aG):Prop where
 ok:M.Ok K
 fE:jL M
 dst:xX M
 cO:M.cO<=M.room
 room:M.room=room
section
variable {K r:Nat}{M:aG}{L:aS}
theorem gU.mono {K':Nat} (h:gU K r M) (hk:K<=K'):gU K' r M:=⟨h.ok.mono hk,h.fE,h.dst,h.cO,h.room⟩
theorem gU.iZ (K r:Nat) (h:r<=16777216):gU K r (iZ r):=⟨aG.Ok.iZ K r h,jL.iZ r,List.nodup_nil,acn _,rfl⟩
theorem gU.dM (h:gU K r M) (s:ByteArray):gU (K+1) r (M.dM s).1:=by
 have f:=(qO.zl h.ok h.dst h.cO ⟨0,s,s,0,0,[],[]⟩ (show (0:Int)≠8 by decide) (show (0:Int)≠9 by decide)).1;exact ⟨h.ok.dM s,h.fE.dM s,f.dst,f.cO,f.room.trans h.room⟩
theorem gU.append (h:gU K r M) (s:ByteArray) (b:Bs):gU (K+1) r (M.append s b).1:=by
 have f:=(qO.zl h.ok h.dst h.cO ⟨1,s,s,0,0,b,[]⟩ (show (1:Int)≠8 by decide) (show (1:Int)≠9 by decide)).1;exact ⟨h.ok.append s b,h.fE.append s b,f.dst,f.cO,f.room.trans h.room⟩
theorem gU.dA (h:gU K r M) (s:ByteArray):gU (K+1) r (M.dA s).1:=by
 have f:=(qO.zl h.ok h.dst h.cO ⟨4,s,s,0,0,[],[]⟩ (show (4:Int)≠8 by decide) (show (4:Int)≠9 by decide)).1;exact ⟨h.ok.dA s,h.fE.dA s,f.dst,f.cO,f.room.trans h.room⟩
theorem gU.dY (h:gU K r M) (s:ByteArray):gU (K+1) r (M.dY s).1:=by
 have f:=(qO.zl h.ok h.dst h.cO ⟨5,s,s,0,0,[],[]⟩ (show (5:Int)≠8 by decide) (show (5:Int)≠9 by decide)).1;exact ⟨h.ok.dY s,h.fE.dY s,f.dst,f.cO,f.room.trans h.room⟩
theorem gU.fU (h:gU K r M):gU K r M.fU.1:=by
 have f:=(qO.zl h.ok h.dst h.cO ⟨6,ByteArray.empty,ByteArray.empty,0,0,[],[]⟩ (show (6:Int)≠8 by decide) (show (6:Int)≠9 by decide)).1;exact ⟨h.ok.fU,h.fE.fU,f.dst,f.cO,f.room.trans h.room⟩
def oC (L:aS) (M:aG):Prop:=∀ s∈L.l,∃ i,dN M.aN (name s.1)=some i
structure ny (K r:Nat) (L:aS) (M:aG):Prop where
 lD:L.Ok
 dV:gU K r M
 oD:oC L M
theorem ny.mono {K':Nat} (h:ny K r L M) (hk:K<=K'):ny K' r L M:=⟨h.lD,h.dV.mono hk,h.oD⟩
theorem ny.fA (h:ny K r L M):ny (K+1) r (L.fA M).1.1 (L.fA M).1.2/\(L.fA M).2=0/\(L.fA M).1.1.l=L.l/\(L.fA M).1.1.dK=L.dK/\nH M (L.fA M).1.2:=by
 have a:=h.lD.fA M;cases hon:L.on with
 |false=>rw [aS.ahq M hon]at a ⊢;exact ⟨h.mono (akA K),rfl,rfl,rfl,nH.refl M⟩
 |true=>
  have⟨s,b⟩:=h.lD.last hon;rw [aS.ahr M b hon]at a ⊢;have⟨i,hi⟩:=h.oD s (aju b);have e:=h.dV.fE.KI hi;have d:(M.dY (name s.1)).2=0:=by rw [e]
  have c:=Qa h.dV.ok h.dV.fE (name s.1);have f:=h.dV.dY (name s.1);rw [abL d]at a ⊢;exact ⟨⟨a,f,λt g=>by rw [c.aN];exact h.oD t g⟩,rfl,rfl,rfl,c⟩
theorem ny.nC (h:ny K r L M) (b:Bs) (hb:b.length<=16777216):ny (K+3) r (L.nC M b).1.1 (L.nC M b).1.2 /\
  ((L.nC M b).2.2≠0->(L.nC M b).1.1=L/\nH M (L.nC M b).1.2/\((L.nC M b).2.2=11->(M.room:Int)-M.cO<b.length+8)):=by
 have a:=h.lD.nC M b hb;unfold aS.nC at a ⊢;by_cases z:1048576<=L.next
 ·rw [abL z]at a ⊢;exact ⟨h.mono oQ,λ_=>⟨rfl,nH.refl M,λn=>by cases n⟩⟩
 rw [abB z]at a ⊢;have f:=h.dV.dM (name L.next);rcases Gs h.dV.fE (name L.next) with ⟨D,E,F⟩|⟨hg,hn,O,c⟩
 ·rw [abL D]at a ⊢;simp only [F]at a f ⊢;exact ⟨h.mono oQ,λ_=>⟨by first|trivial|rfl,nH.refl M,λn=>absurd n E⟩⟩
 have G:(M.dM (name L.next)).2=0:=by rw [c]
 rw [abB (λn=>n G)]at a ⊢;have d:dN (M.dM (name L.next)).1.aN (name L.next)=some M.dU.length:=by
  rw [c];exact Hw h.dV.ok.jR.sU _ _
 have l:(M.dM (name L.next)).1.cO=M.cO/\(M.dM (name L.next)).1.room=M.room:=by
  refine ⟨?_,by rw [c]⟩;rw [c];show ((qp M.aN (name L.next) M.dU.length).map λp=>((M.dU++[dw.iZ]).getD p.2 dw.iZ).aN.length).sum=_;refine aeR ?_;intro e0 p hp;have:=h.dV.ok.jR.qG p hp;exact Vw
 have o:oC L (M.dM (name L.next)).1:=λs m=>by
  obtain ⟨i,hi⟩:=h.oD s m;rw [c];refine ⟨i,?_⟩;rw [G9 (λe=>by rw [e,hn]at hi;cases hi)];exact hi
 have v:=f.append (name L.next) (dL++b);rcases zS f.fE (name L.next) (dL++b) with ⟨w,_⟩|⟨i,w,⟨A,t⟩|⟨A,t⟩⟩
 ·rw [d]at w;cases w
 ·have u:((M.dM (name L.next)).1.append (name L.next) (dL++b)).2=11:=by rw [t]
  have x:¬ ((M.dM (name L.next)).1.append (name L.next) (dL++b)).2=0:=by rw [u];decide
  have H:((M.dM (name L.next)).1.append (name L.next) (dL++b)).1=(M.dM (name L.next)).1:=by rw [t]
  have B:=Pz f.fE d;have y:=f.dA (name L.next);rw [abB x,abL u]at a ⊢;rw [H]at *
  have C:nH M ((M.dM (name L.next)).1.dA (name L.next)).1:=by
   rw [B,c];refine ⟨?_,rfl,rfl,λp hp=>?_⟩
   ·show lY.on ⟨name L.next,ByteArray.empty,0⟩ (qp M.aN (name L.next) M.dU.length)=M.aN;unfold lY.on;simp only [abB (yx hg),auT];exact UK hn
   ·have:=h.dV.ok.jR.qG p hp;exact afd
  refine ⟨⟨a,y.mono oQ,λs m=>by rw [C.aN];exact h.oD s m⟩,λ_=>⟨rfl,C,λ_=>?_⟩⟩;rw [l.1,l.2,aay]at A;have:dL.length=8:=rfl;omega
 ·have u:((M.dM (name L.next)).1.append (name L.next) (dL++b)).2=0:=by rw [t]
  rw [abL u]at a ⊢;refine ⟨⟨a,v.mono oQ,λs m=>?_⟩,λn=>absurd rfl n⟩;rw [t];rcases ahc.1 m with m|m
  ·exact o s m
  ·rw [acS.1 m];exact ⟨_,d⟩
theorem ny.begin (h:ny K r L M) (b:Bs) (hb:b.length<=16777216):ny (K+4) r (L.begin M b).1.1 (L.begin M b).1.2 /\
  ((L.begin M b).2.2≠0->(L.begin M b).1.1.l=L.l/\(L.begin M b).1.1.dK=L.dK/\nH M (L.begin M b).1.2/\((L.begin M b).2.2=11->(M.room:Int)-M.cO<b.length+8)):=by
 have⟨c,d,f,g,a⟩:=h.fA;unfold aS.begin;rw [abL d];have⟨i,j⟩:=c.nC b hb;refine ⟨i,λm=>?_⟩;have⟨n,o,s⟩:=j m;rw [n];exact ⟨f,g,a.trans o,λe=>by rw [<-a.cO,<-a.room];exact s e⟩
theorem ny.grow (h:ny K r L M) (b:Bs) (hf:L.fC b.length=true):ny (K+1) r (L.grow M b).1.1 (L.grow M b).1.2 /\
  ((L.grow M b).2.2≠0->(L.grow M b).1.1=L/\nH M (L.grow M b).1.2/\((L.grow M b).2.2=11->(M.room:Int)-M.cO<b.length)):=by
 have a:=h.lD.grow M b hf;unfold aS.grow at a ⊢;cases hl:L.l.getLast? with
 |none=>exact ⟨h.mono (akA K),λd=>absurd rfl d⟩
 |some s=>
  rw [hl]at a;simp only at a ⊢;have e:=h.dV.append (name s.1) b;obtain ⟨j,m⟩:=h.oD s (aju hl);rcases zS h.dV.fE (name s.1) b with ⟨f,_⟩|⟨i,f,⟨n,g⟩|⟨n,g⟩⟩
  ·rw [m]at f;cases f
  ·rw [g]at a e ⊢;rw [abB (yD0)]at a ⊢;exact ⟨h.mono (akA K),λ_=>⟨rfl,nH.refl M,λ_=>n⟩⟩
  ·rw [g]at a e ⊢;rw [abL rfl]at a ⊢;refine ⟨⟨a,e,λt c=>?_⟩,λd=>absurd rfl d⟩;rcases ahc.1 c with c|c
   ·exact h.oD t ((List.dropLast_subset _ c))
   ·rw [acS.1 c];exact ⟨j,m⟩
theorem P5 {x:ay.aT} (h:(ay.dI x).2=0) (hk:x.key.length=32):(ay.dI x).1.length=ay.size x:=by
 unfold ay.dI at *
 split at h
 ·rename_i a;exact absurd h a
 ·rename_i a;rw [abB a];unfold ay.body ay.size;simp only [aay,ay.nK,ai8,abB a];split
  ·rename_i b;have:x.data.length=0:=by
    simp only [Decidable.not_not]at a;unfold ay.kK at a;rw [b]at a;simp only [show ¬ ((2:Int)=0) by decide,auQ,auT]at a;split at a
    ·cases a
    split at a
    ·cases a
    omega
   simp;omega
  ·omega
theorem ny.append (h:ny K r L M) (x:ay.aT) (hk:x.key.length=32):ny (K+4) r (L.append M x).1.1 (L.append M x).1.2 /\
  ((L.append M x).2.2≠0->(L.append M x).1.1.l=L.l/\(L.append M x).1.1.dK=L.dK/\nH M (L.append M x).1.2/\((L.append M x).2.2=11->(M.room:Int)-M.cO<ay.size x+8)):=by
 have n:=SL x hk;by_cases b:(ay.dI x).2=0
 ·have g:=P5 b hk;cases hf:L.fC (ay.dI x).1.length with
  |true=>
   rw [aS.Em b hf];have⟨c,d⟩:=h.grow _ hf;refine ⟨c.mono oQ,λf=>?_⟩;have⟨i,j,m⟩:=d f;rw [i];exact ⟨rfl,rfl,j,λe=>by omega⟩
  |false=>
   rw [aS.CS b hf];have⟨c,d⟩:=h.begin _ (by omega:(ay.dI x).1.length<=16777216);exact ⟨c,λf=>by rw [<-g];exact d f⟩
 ·rw [aS.MC b];refine ⟨h.mono oQ,λ_=>⟨rfl,rfl,nH.refl M,λe=>?_⟩⟩;have a:=e;unfold ay.dI at a;split at a
  ·simp only at a;unfold ay.kK at a
   repeat' split at a
   all_goals cases a
  ·cases a
theorem Zn (h:ny K r L M) (x:ay.aT) (hk:x.key.length=32) (h0:(L.append M x).2.2=0):∃ i,dN (L.append M x).1.2.aN (name (L.append M x).2.1.aZ)=some i:=by
 have hK:=(h.append x hk).1;have key:∃ s,(L.append M x).1.1.l.getLast?=some s/\s.1=(L.append M x).2.1.aZ:=by
  by_cases h1:(ay.dI x).2=0
  ·cases hf:L.fC (ay.dI x).1.length with
   |true=>
    rw [aS.Em h1 hf]at h0 ⊢;unfold aS.grow at h0 ⊢;cases hl:L.l.getLast? with
    |none=>
     exfalso;unfold aS.fC at hf;rw [ajg]at hf;exact h.lD.on hf.1 (ajF.1 hl)
    |some s=>
     rw [hl]at h0;simp only at h0 ⊢;split at h0
     ·rename_i e;rw [abL e];exact ⟨(s.1,s.2+((ay.dI x).1.length:Int)),by simp,rfl⟩
     ·rename_i e;exact absurd h0 e
   |false=>
    rw [aS.CS h1 hf]at h0 ⊢;unfold aS.begin at h0 ⊢;split at h0
    ·rename_i e;rw [abL e];unfold aS.nC at h0 ⊢;split at h0
     ·cases h0
     rename_i e1;rw [abB e1];split at h0
     ·rename_i e2;exact absurd h0 e2
     rename_i e2;rw [abB e2];split at h0
     ·rename_i e3;rw [abL e3];exact ⟨((L.fA M).1.1.next,8+((ay.dI x).1.length:Int)),by simp,rfl⟩
     ·split at h0
      ·rename_i e3 e4;simp only at h0;split at h0
       ·cases h0
       ·rename_i e5;exact absurd h0 e5
      ·rename_i e3 e4;exact absurd h0 e3
    ·rename_i e;exact absurd h0 e
  ·rw [aS.MC h1]at h0;exact absurd h0 h1
 obtain ⟨s,hs,e⟩:=key;rw [<-e];exact hK.oD s (aju hs)
theorem ny.jO (h:ny K r L M):ny (K+5) r (L.jO M).1.1 (L.jO M).1.2:=by
 have⟨c,_⟩:=h.append gq rfl;have a:=h.lD.jO M;rw [aS.MV]at a ⊢;split
 ·exact c.mono oQ
 rename_i d;rw [abB d]at a;simp only [Decidable.not_not]at d;have⟨i,hi⟩:=Zn h gq rfl d;have es:=c.dV.fE.KI hi;have b:=c.dV.dY (name (L.append M gq).2.1.aZ);have e:((L.append M gq).1.2.dY (name (L.append M gq).2.1.aZ)).2=0:=by rw [es]
 rw [abB (λf=>f e)]at a ⊢;have hd:=b.fE.KH;have g:(((L.append M gq).1.2.dY (name (L.append M gq).2.1.aZ)).1.fU).2=0:=by rw [hd]
 rw [abB (λf=>f g)]at a ⊢;refine ⟨a,b.fU,λs l=>?_⟩;have⟨j,m⟩:=c.oD s l;refine ⟨j,?_⟩;rw [hd,es];exact m
end
end Go.aB
namespace Go.ay
theorem abj {l:Bs} (h:l.length=4):∃ a b c d,l=[a,b,c,d]:=by
 match l,h with
 |[a,b,c,d],_=>exact ⟨a,b,c,d,rfl⟩
theorem Nc {x:aT} (h:(dI x).2=0):kK x=0/\(dI x).1=le (lq (body x)) 4++body x:=by
 unfold dI at *
 split at h
 ·rename_i hc;exact absurd h hc
 ·rename_i hc;rw [abB hc];exact ⟨by simpa using hc,rfl⟩
theorem Jf {x:aT} (h:kK x=0):x.dB=0/\x.data.length<=16384\/x.dB=2/\x.key=gu/\x.data=[]\/x.dB=1/\x.data=[]:=by
 unfold kK at h;split at h
 ·rename_i t;split at h
  ·cases h
  ·exact .inl ⟨t,by omega⟩
 split at h
 ·rename_i t;split at h
  ·cases h
  rename_i hk;split at h
  ·cases h
  rename_i hd;exact .inr (.inl ⟨t,by simpa using hk,ajn oQ⟩)
 split at h
 ·rename_i t;split at h
  ·cases h
  rename_i hd;exact .inr (.inr ⟨t,ajn oQ⟩)
 ·cases h
theorem VQ {x:aT} (h:(dI x).2=0) (hk:x.key.length=32) (rest:Bs):read ((dI x).1++rest)=(x,(dI x).1.length,0):=by
 have B:=aB.P5 h hk;have⟨n,I⟩:=Nc h;have O:size x=9\/41<=size x:=by
  unfold size;rw [abB (by simp [n])];by_cases r:x.dB=2
  ·rw [abL r];omega
  ·rw [abB r];omega
 have J:size x<=16425:=by
  rcases Jf n with ⟨t,d⟩|⟨t,k,d⟩|⟨t,d⟩
  all_goals
   unfold size;rw [abB (by simp [n])];by_cases r:x.dB=2
   ·rw [abL r];omega
   ·rw [abB r]
    first|omega|(rw [d];simp)
 have⟨i,j,l,m,C⟩:=abj (nK (lq (body x)) 4);have⟨c,e,f,g,D⟩:=abj (nK (size x) 4);have s:bD [c,e,f,g]=size x:=by rw [<-D];exact EZ 4 _ oQ
 have u:bD [i,j,l,m]=lq (body x):=by rw [<-C];exact EZ 4 _ (Gq _)
 have E:body x=[c,e,f,g]++(UInt8.ofNat x.dB.toNat::((if x.dB=2 then [] else x.key)++x.data)):=by unfold body;rw [D];simp
 have F:(dI x).1=i::j::l::m::c::e::f::g::UInt8.ofNat x.dB.toNat::((if x.dB=2 then [] else x.key)++x.data):=by rw [I,C,E];rfl
 have G:((if x.dB=2 then [] else x.key)++x.data).length+9=size x:=by rw [<-B,F];simp
 have H:UInt8.ofNat x.dB.toNat=0/\x.dB=0/\41<=size x\/UInt8.ofNat x.dB.toNat=1/\x.dB=1/\size x=41\/UInt8.ofNat x.dB.toNat=2/\x.dB=2/\size x=9:=by
  rcases Jf n with ⟨t,d⟩|⟨t,k,d⟩|⟨t,d⟩
  ·left;rw [t];refine ⟨rfl,rfl,?_⟩;unfold size;rw [abB (by simp [n]),abB (by rw [t];decide)];omega
  ·right;right;rw [t];refine ⟨rfl,rfl,?_⟩;unfold size;rw [abB (by simp [n]),abL t]
  ·right;left;rw [t];refine ⟨rfl,rfl,?_⟩;unfold size;rw [abB (by simp [n]),abB (by rw [t];decide),d];rfl
 have v:fC (UInt8.ofNat x.dB.toNat) (size x)=true:=by
  rcases H with ⟨a,_,b⟩|⟨a,_,b⟩|⟨a,_,b⟩
  ·rw [a];unfold fC;rw [abL rfl,ad2];omega
  ·rw [a];unfold fC;rw [abB aU,abL rfl,ad2];omega
  ·rw [a];unfold fC;rw [abB aU,abB aU,abL rfl,ad2];omega
 generalize hP:(if x.dB=2 then [] else x.key)++x.data=P at *
 generalize Q:UInt8.ofNat x.dB.toNat=T at *
 have K:((dI x).1++rest)=i::j::l::m::c::e::f::g::T::(P++rest):=by rw [F];rfl
 have w:(i::j::l::m::c::e::f::g::T::(P++rest)).length=size x+rest.length:=by simp;omega
 have y:(i::j::l::m::c::e::f::g::T::(P++rest)).take (size x)=i::j::l::m::c::e::f::g::T::P:=by
  have:i::j::l::m::c::e::f::g::T::(P++rest)=(i::j::l::m::c::e::f::g::T::P)++rest:=rfl;rw [this,ajj yO0,acE yO0]
 rw [B,K];unfold read;dsimp only;rw [abB (by rw [w];omega)];have hn:bD (((i::j::l::m::c::e::f::g::T::(P++rest)).drop 4).take 4)=size x:=s;have L:(i::j::l::m::c::e::f::g::T::(P++rest)).getD 8 0=T:=rfl;have M:bD ((i::j::l::m::c::e::f::g::T::(P++rest)).take 4)=lq (body x):=u;rw [hn,L,v,abB aU,abB (by rw [w];omega),y,M];have z:(i::j::l::m::c::e::f::g::T::P).drop 4=body x:=by rw [E];rfl
 rw [z,abB yD0];have N:(i::j::l::m::c::e::f::g::T::(P++rest)).drop 9=P++rest:=rfl;have A:(i::j::l::m::c::e::f::g::T::P).drop 41=P.drop 32:=rfl;rw [N,A];rcases H with ⟨a,t,b⟩|⟨a,t,b⟩|⟨a,t,b⟩
 ·rw [abL b];exact aeJ
 ·rw [abL oQ];exact aeJ
 ·rw [abB oQ,a];rcases Jf n with ⟨o,d⟩|⟨o,k,d⟩|⟨o,d⟩
  ·rw [t]at o;cases o
  ·have⟨dB,key,data⟩:=x;simp only at t k d ⊢;rw [t,k,d];rfl
  ·rw [t]at o;cases o
def bU (l:List aT):Bs:=l.flatMap λx=>(dI x).1
def gV (x:aT):Prop:=(dI x).2=0/\x.key.length=32
def iJ:List aT->Nat->List fO
 |[],_=>[]
 |x::l,aP=>⟨x,aP,(dI x).1.length⟩::iJ l (aP+(dI x).1.length)
theorem zX:∀ (l:List aT) (aP:Nat),(iJ l aP).map (·.e)=l
 |[],_=>rfl
 |x::l,aP=>by rw [iJ,aij,zX l]
theorem amG (l:List aT) (aP:Nat):(iJ l aP).length=l.length:=by rw [<-abl,zX]
theorem al6 {x:aT} (h:gV x):0<(dI x).1.length:=List.length_pos_iff.2 (aB.aaK x h.1)
theorem ahf:∀ (l:List aT) (k aP:Nat),(∀ x∈l,gV x)->(bU l).length<=k->pY k (bU l) aP=(iJ l aP,aP+(bU l).length,0)
 |[],k,aP,_,_=>by
  cases k with
  |zero=>rfl
  |succ k=>rfl
 |x::l,k,aP,hg,hk=>by
  have h1:=hg x (.head _);have e:bU (x::l)=(dI x).1++bU l:=rfl;have hp:=al6 h1;rw [e,aay]at hk;cases k with
  |zero=>omega
  |succ k=>
   have hr:=VQ h1.1 h1.2 (bU l);have hd:((dI x).1++bU l).drop (dI x).1.length=bU l:=by simp
   rw [e];unfold pY;rw [abB (by intro hh;have:=aiX List.length hh;rw [aay]at this;simp only [ajw]at this;omega),hr];simp only [ne_eq,not_true_eq_false,auQ,hd];rw [ahf l k (aP+(dI x).1.length) (λy hy=>hg y (.tail _ hy)) oQ];simp only [iJ,aay,avC]
theorem Kz (l:List aT) (hg:∀ x∈l,gV x):eF (aB.dL++bU l)=(iJ l 8,(aB.dL++bU l).length,0):=by
 unfold eF;rw [abL aA];have e:(aB.dL++bU l).drop 8=bU l:=rfl;rw [e,ahf l _ 8 hg (by rw [aay];omega),aay]
 rfl
end Go.ay
namespace Go.aB
open Go.aG
open Go.ay (bU gV)
theorem Oq {a b:Int} (ha:0<=a) (ha2:a<1048576) (hb:0<=b) (hb2:b<1048576) (h:name a=name b):a=b:=by
 have h1:=OB a ha ha2;have h2:=OB b hb hb2;rw [h]at h1;rw [h1]at h2;exact aiX Prod.fst h2
theorem NC (n:Int) (h1:0<=n) (h2:n<1048576):dW (name n)=true:=by
 unfold name;rw [abB oQ];unfold dW;have a:(jW++lu n.toNat 8).length=12:=by rw [aay,zU];rfl
 have b:(⟨(jW++lu n.toNat 8).toArray⟩:ByteArray).size=12:=by show (jW++lu n.toNat 8).toArray.size=12;simp [a]
 rw [b];simp only [ana];have hd:(lu n.toNat 8).all vM=true:=by
  rw [ajC];intro c d;have:=(ajC.1 (SC 8 n.toNat)) c d;unfold um at this;exact ae4
 rw [hd]
 rfl
theorem al3 {M:aG}{K r:Nat} (h:gU K r M){s t:ByteArray}{i:Nat} (h1:dN M.aN s=some i) (h2:dN M.aN t=some i):t=s:=by
 by_cases e:t=s
 ·exact e
 ·exfalso;have:=(XK h.ok.jR.sU h.dst h1).1 (t,i) (ai4.2 ⟨lZ h2,by simpa [bne,tY] using e⟩);exact this rfl
theorem sN {M:aG} (q:jL M){s:ByteArray}{i:Nat} (h:dN M.aN s=some i):M.all s=((M.file i).aN,0):=by
 unfold aG.all;rw [q.off,h];rfl
theorem zi {M:aG} (q:jL M){s:ByteArray} (h:dN M.aN s=none):M.all s=([],9):=by
 unfold aG.all;rw [q.off,h];rfl
section
variable {K r:Nat}{M:aG}{L:aS}
theorem MF (h:gU K r M){s:ByteArray}{i:Nat} (hi:dN M.aN s=some i) (b:Bs) (hr:M.cO+b.length<=M.room) :
  (M.append s b).2=0/\(M.append s b).1.aN=M.aN/\(M.append s b).1.cO=M.cO+b.length/\(M.append s b).1.all s=((M.all s).1++b,0)/\∀ t,t≠s->(M.append s b).1.all t=M.all t:=by
 have a:i<M.dU.length:=h.ok.jR.qG _ (lZ hi);rcases zS h.fE s b with ⟨c,_⟩|⟨j,c,⟨g,f⟩|⟨g,f⟩⟩
 ·rw [hi]at c;cases c
 ·omega
 rw [hi]at c;cases c;have d:=(h.append s b).fE;rw [f]at d ⊢;refine ⟨rfl,rfl,?_,?_,λt l=>?_⟩
 ·have:=aie h.ok h.dst hi ((M.file i).do ⟨false,0,b⟩);have e:((M.file i).do ⟨false,0,b⟩).aN.length=(M.file i).aN.length+b.length:=by simp [dw.do,jQ.on]
  rw [e]at this;show (M.lW i _).cO=_;omega
 ·rw [sN d hi,sN h.fE hi,Df a,abL rfl];rfl
 ·cases hj:dN M.aN t with
  |none=>rw [zi d hj,zi h.fE hj]
  |some j=>
   rw [sN d hj,sN h.fE hj,Df a,abB (λe=>l (al3 h hi (by rw [<-e];exact hj)))]
theorem MW (h:gU K r M){s:ByteArray} (hg:dW s=true) (hn:dN M.aN s=none) (hl:M.aN.length<500) :
  (M.dM s).2=0/\(M.dM s).1.aN=qp M.aN s M.dU.length/\(M.dM s).1.cO=M.cO/\(M.dM s).1.all s=([],0)/\∀ t,t≠s->(M.dM s).1.all t=M.all t:=by
 rcases Gs h.fE s with ⟨b,f,m⟩|⟨_,_,_,c⟩
 ·exfalso;apply b;unfold aG.dM;rw [h.fE.off,h.fE.step,hg,hn];simp only [ajI,auQ,Bool.true_eq_false,Option.isSome_none];rw [abB oQ]
 have a:=(h.dM s).fE;rw [c]at a ⊢;refine ⟨rfl,rfl,?_,?_,λt d=>?_⟩
 ·show ((qp M.aN s M.dU.length).map λp=>((M.dU++[dw.iZ]).getD p.2 dw.iZ).aN.length).sum=_;refine aeR ?_;intro e0 p hp;have:=h.ok.jR.qG p hp;exact Vw
 ·refine (sN a (Hw h.ok.jR.sU _ _)).trans ?_;simp [aG.file,dw.iZ]
 ·have e:=G9 (l:=M.aN) (i:=M.dU.length) d;cases hj:dN M.aN t with
  |none=>rw [hj]at e;exact (zi a e).trans (zi h.fE hj).symm
  |some j=>
   rw [hj]at e;refine (sN a e).trans ?_;rw [sN h.fE hj];have:=h.ok.jR.qG _ (lZ hj);exact Vw
theorem ara (q:jL M){s:ByteArray}{l:Bs} (h:M.all s=(l,0)){a n:Nat} (hn:a+n<=l.length):M.read s a n=((l.drop a).take n,0):=by
 unfold aG.all at h;unfold aG.read;rw [q.off]at h ⊢;simp only [ajI,auQ]at h ⊢;split at h
 ·cases h
 ·rename_i i hi;cases h;rw [abB oQ,abB oQ];simp
theorem aS.aty (L:aS) (M:aG):(L.fA M).1.1.limit=L.limit:=by
 unfold aS.fA;split
 ·rfl
 split
 ·split <;> rfl
 ·rfl
structure Holds (n:Nat) (L:aS) (M:aG) (C:List (List ay.aT)):Prop where
 fD:ny (n*5) 1048576 L M
 len:L.l.length=C.length
 aP:∀ (k:Nat) (es:List ay.aT),C[k]?=some es->L.l[k]?=some ((k:Int),8+((bU es).length:Int))
 file:∀ (k:Nat) (es:List ay.aT),C[k]?=some es->M.all (name k)=(dL++bU es,0)
 dW:∀ es∈C,(∀ x∈es,gV x)/\es≠[]
 fit:∀ es∈C,8+((bU es).length:Int)<=L.limit\/es.length=1
 count:C.length<=n
 cO:M.cO<=n*400
 ku:M.aN.length<=n
 only:∀ (s:ByteArray) (i:Nat),dN M.aN s=some i->∃ k:Nat,k<C.length/\s=name k
def put (C:List (List ay.aT)) (on:Bool) (x:ay.aT):List (List ay.aT):=if on then C.dropLast++[C.getLastD []++[x]] else C++[[x]]
theorem CZ (a b:List ay.aT):bU (a++b)=bU a++bU b:=by unfold bU;rw [ai5]
theorem Nj (x:ay.aT):bU [x]=(ay.dI x).1:=by unfold bU;simp
variable {n:Nat}{C:List (List ay.aT)}
theorem aaJ {x:ay.aT} (h0:(ay.dI x).2=0) (hk:x.key.length=32) (hd:x.data.length<=300):(ay.dI x).1.length<=341:=by
 rw [P5 h0 hk];unfold ay.size;split
 ·omega
 ·split <;> omega
end
open Go.aG
theorem Gn {K:Nat}{L:aS}{M:aG} (h:M.Ok K) (n:Int):(L.bytes M n).1.length<=16777216:=by
 unfold aS.bytes;split
 ·simp
 ·unfold aG.all;split
  ·simp
  split
  ·simp
  ·exact (h.file _).zD
open Go.ay (bU gV)
section
variable {n:Nat}{M:aG}{L:aS}{C:List (List ay.aT)}
def alp (C:List (List ay.aT)):Prop:=∀ es∈C,∀ (k:Nat) (x:ay.aT),es[k]?=some x->x.dB=2->k+1=es.length
def apF (es:List ay.aT):Prop:=∀ x∈es,x.dB≠2
structure ajV (on:Bool) (C:List (List ay.aT)):Prop where
 last:alp C
 tail:on=true->apF (C.getLastD [])
theorem Gz {k:Nat} (h:L.fC k=true):L.on=true:=by
 unfold aS.fC at h;rw [ajg]at h;exact h.1
end
open Go.aG
open Go.ay (bU gV iJ)
open Go.aG
open Go.ay (bU gV)
section
variable {K:Nat}{M M':aG}{L:aS}{s t:ByteArray}{i:Nat}
def nf (L:aS):List Int:=(L.l.map (·.1)).take (L.l.length-L.dK.toNat)
variable {sure opn:List (bT×ay.aT)}
end
open Go.aG
section
variable {K K':Nat}{M M':aG}{L:aS}{s t:ByteArray}{i:Nat}{sure opn:List (bT×ay.aT)}
theorem Zk:∀ (x y u v:Bs),x.length=y.length->x<y->x++u<y++v
 |[],[],_,_,_,h=>absurd h (List.not_lt_nil [])
 |[],_::_,_,_,h,_=>by simp at h
 |_::_,[],_,_,h,_=>by simp at h
 |a::x,b::y,u,v,hl,h=>by
  rw [ajK,ajK,List.cons_lt_cons_iff];rcases List.cons_lt_cons_iff.1 h with h1|⟨e,h1⟩
  ·exact .inl h1
  ·exact .inr ⟨e,Zk x y u v (by simpa using hl) h1⟩
theorem Rx:∀ (x u v:Bs),u<v->x++u<x++v
 |[],_,_,h=>h
 |a::x,u,v,h=>by
  rw [ajK,ajK,List.cons_lt_cons_iff];exact .inr ⟨rfl,Rx x u v h⟩
theorem aat:∀ (k a b:Nat),a<b->b<10^k->lu a k<lu b k
 |0,a,b,h,hb=>by simp at hb;omega
 |k+1,a,b,h,hb=>by
  show lu (a/10) k++[UInt8.ofNat (48+a%10)]<lu (b/10) k++[UInt8.ofNat (48+b%10)];have hb':b/10<10^k:=by rw [Nat.div_lt_iff_lt_mul oQ];rw [awx]at hb;exact hb
  rcases anF (a/10) (b/10) with q|q
  ·exact Zk _ _ _ _ (by rw [zU,zU]) (aat k _ _ q hb')
  ·have e:a/10=b/10:=oQ;rw [e];refine Rx _ _ _ ?_;rw [List.cons_lt_cons_iff];left;rw [UInt8.lt_iff_toNat_lt,ao4,ao4];omega
theorem apm {a b:Int} (h1:0<=a) (h2:a<b) (h3:b<1048576):lt (name a) (name b)=true:=by
 unfold name;rw [abB oQ,abB oQ];unfold lt;rw [ad2];exact Rx _ _ _ (aat 8 _ _ oQ oQ)
theorem E5 {s:ByteArray} (h:(iD s).2=true):0<=(iD s).1/\(iD s).1<1048576/\name (iD s).1=s:=by
 unfold iD at h ⊢;dsimp only at h ⊢;split at h
 ·rename_i hc;rw [abL hc];obtain ⟨c1,c2,c3,c4⟩:=hc;refine ⟨by simp only;omega,by simp only;omega,?_⟩;simp only;unfold name;rw [abB oQ];have hl:(s.data.toList.drop 4).length=8:=by
   have:s.data.toList.length=12:=by first|exact c1|(rw [ahN];exact c1)
   rw [abJ,this]
  have hd:=alP (s.data.toList.drop 4) c3;rw [hl]at hd;have e:jW++lu (Int.toNat ((val (s.data.toList.drop 4):Nat):Int)) 8=s.data.toList:=by
   rw [Int.toNat_natCast,hd,<-c2,aja]
  rw [e]
 ·cases h
theorem EH {l:List ByteArray}{x:Int×Int} (h:x∈qF M l):∃ t∈l,(iD t).2=true/\x=((iD t).1,(M.size t).1):=by
 unfold qF at h;obtain ⟨t,ht,he⟩:=List.mem_filterMap.1 h;split at he
 ·rename_i hn;exact ⟨t,ht,hn,(ajH he).symm⟩
 ·cases he
theorem adn (h:t∈M.list):∃ i,dN M.aN t=some i:=by
 unfold aG.list at h;split at h
 ·cases h
 ·obtain ⟨p,hp,rfl⟩:=abI.1 h;cases hg:dN M.aN p.1 with
  |none=>exact absurd rfl (Oy hg p hp)
  |some i=>exact ⟨i,rfl⟩
theorem abh:∀ (l:List ByteArray),l.Pairwise (λa b=>lt a b=true)->((qF M l).map (·.1)).Pairwise (· < ·)
 |[],_=>List.Pairwise.nil
 |t::l,h=>by
  obtain ⟨h1,h2⟩:=ajk.1 h;have ih:=abh l h2;by_cases hn:(iD t).2=true
  ·have e:qF M (t::l)=((iD t).1,(M.size t).1)::qF M l:=by unfold qF;rw [List.filterMap_cons];simp [hn]
   rw [e,aij,ajk];refine ⟨λx hx=>?_,ih⟩;obtain ⟨y,hy,rfl⟩:=abI.1 hx;obtain ⟨u,hu,hun,rfl⟩:=EH hy;have hlt:=h1 u hu;obtain ⟨a1,a2,a3⟩:=E5 hn;obtain ⟨b1,b2,b3⟩:=E5 hun;rcases Int.lt_or_le (iD t).1 (iD u).1 with q|q
   ·exact q
   ·exfalso;rcases Int.lt_or_eq_of_le q with q|q
    ·have h3:=apm b1 q a2;rw [a3,b3]at h3;have:=lt_trans hlt h3;rw [lt_irrefl]at this;cases this
    ·rw [<-a3,<-q,b3,lt_irrefl]at hlt;cases hlt
  ·have e:qF M (t::l)=qF M l:=by unfold qF;rw [List.filterMap_cons];simp [hn]
   rw [e];exact ih
theorem yN (ok:M.Ok K) (limit:Int) (h1:128<=limit) (h2:limit<=1048576):(dK M limit).Ok:=by
 refine ⟨⟨h1,h2⟩,?_,λx hx=>?_,λx hx=>?_,⟨avf _,by simp [dK]⟩,λhh=>by cases hh⟩
 ·refine abh M.list ?_;unfold aG.list;split
  ·exact List.Pairwise.nil
  ·rw [akC];exact ok.jR.sU
 ·obtain ⟨t,_,hn,rfl⟩:=EH hx;have:=E5 hn;exact ⟨this.1,this.2.1⟩
 ·obtain ⟨t,_,hn,rfl⟩:=EH hx;unfold aG.size;split
  ·simp
  split
  ·simp
  ·have:=(ok.file ‹Nat›).zD;simp only;omega
end
open Go.ay (bU gV)
section
variable {K K':Nat}{M M':aG}{L:aS}{s t:ByteArray}{i:Nat}{sure opn:List (bT×ay.aT)}
theorem abm (M:aG) (limit:Int):oC (dK M limit) M:=λx hx=>by
 obtain ⟨t,ht,hn,rfl⟩:=EH hx;simp only;rw [(E5 hn).2.2];exact adn ht
theorem amN {n lim:Int} (a:M.off=false) (b:0<=n) (c:n<1048576) (hi:dN M.aN (name n)=some i):n∈nf (dK M lim):=by
 have d:name n∈M.list:=by
  unfold aG.list;rw [a];exact abI.2 ⟨_,lZ hi,rfl⟩
 unfold nf dK;simp only;rw [acE (by rw [abl];simp)];refine abI.2 ⟨(n,(M.size (name n)).1),?_,rfl⟩;unfold qF;refine List.mem_filterMap.2 ⟨name n,d,?_⟩;rw [OB n b c]
 rfl
theorem akt (hL:L.Ok){n:Int} (h:n∈L.l.map (·.1)):∃ k,L.at n=some k:=by
 obtain ⟨s,hs,rfl⟩:=abI.1 h;cases hat:L.at s.1 with
 |some k=>exact ⟨k,rfl⟩
 |none=>
  unfold aS.at at hat;rw [List.findIdx?_eq_none_iff]at hat;have:=hat s hs;simp at this
end
open Go.aG
open Go.ay (bU gV iJ)
structure HG (K r E B n:Nat) (L:aS) (M:aG) (C:List (List ay.aT)):Prop where
 fD:ny K r L M
 len:L.l.length=C.length
 aP:∀ (k:Nat) (es:List ay.aT),C[k]?=some es->L.l[k]?=some ((k:Int),8+((bU es).length:Int))
 file:∀ (k:Nat) (es:List ay.aT),C[k]?=some es->M.all (name k)=(dL++bU es,0)
 dW:∀ es∈C,(∀ x∈es,gV x)/\es≠[]
 count:C.length<=n
 cO:M.cO<=n*400+B
 ku:M.aN.length<=n+E
 rX:∀ (k i:Nat),k<1048576->dN M.aN (name (k:Int))=some i->k<C.length
structure HD (K r E B n:Nat) (L:aS) (M:aG) (D:List (Nat×List ay.aT)):Prop where
 fD:ny K r L M
 l:L.l=D.map λd=>((d.1:Int),8+((bU d.2).length:Int))
 jA:D.Pairwise λa b=>a.1<b.1
 lim:∀ d∈D,d.1<n
 file:∀ d∈D,M.all (name d.1)=(dL++bU d.2,0)
 dW:∀ d∈D,(∀ x∈d.2,gV x)/\(n<=500->d.2≠[])
 cO:M.cO<=n*400+B
 ku:M.aN.length<=n+E
 rX:∀ (k i:Nat),k<1048576->dN M.aN (name (k:Int))=some i->∃ d∈D,d.1=k
def Ag (C:List (List ay.aT)):List (Nat×List ay.aT):=C.mapIdx λi es=>(i,es)
def ig (D:List (Nat×List ay.aT)):List aJ.fZ:=D.flatMap λd=>(iJ d.2 8).map λf=>((d.1:Int),f)
section
variable {K r E B n:Nat}{L:aS}{M:aG}{C:List (List ay.aT)}{D:List (Nat×List ay.aT)}{d:Nat×List ay.aT}
theorem Oz (i:Nat):(Ag C)[i]?=C[i]?.map λes=>(i,es):=by unfold Ag;rw [List.getElem?_mapIdx]
theorem OA (h:d∈Ag C):C[d.1]?=some d.2:=by
 obtain ⟨i,hi⟩:=List.mem_iff_getElem?.1 h;rw [Oz]at hi;cases hc:C[i]? with
 |none=>rw [hc]at hi;cases hi
 |some es=>rw [hc]at hi;cases hi;exact hc
theorem HG.hd (h:HG K r E B n L M C):HD K r E B n L M (Ag C):=by
 refine ⟨h.fD,?_,?_,λd hd=>?_,λd hd=>?_,λd hd=>?_,h.cO,h.ku,λk i g hi=>?_⟩
 ·refine awf λi=>?_;rw [ab4,Oz];cases hc:C[i]? with
  |none=>exact anS.2 (by rw [h.len];exact anS.1 hc)
  |some es=>exact h.aP i es hc
 ·rw [ao3];intro i j hi l b;have e:∀ (q:Nat) (f:q<(Ag C).length),(Ag C)[q].1=q:=λq f=>by
   have a:=Oz (C:=C) q;rw [aaf f]at a;cases hc:C[q]? with
   |none=>rw [hc]at a;cases a
   |some es=>rw [hc]at a;rw [ajH a]
  rw [e i hi,e j l];exact b
 ·have:=(abM.1 (OA hd)).1;exact awp this h.count
 ·exact h.file d.1 d.2 (OA hd)
 ·exact ⟨(h.dW d.2 (abH (OA hd))).1,λ_=>(h.dW d.2 (abH (OA hd))).2⟩
 ·have c:=h.rX k i g hi;refine ⟨(k,C[k]),?_,rfl⟩;refine List.mem_iff_getElem?.2 ⟨k,?_⟩;rw [Oz,aaf c]
  rfl
theorem HD.mono {K' E' B' b:Nat} (h:HD K r E B n L M D) (c:K<=K') (f:E<=E') (e:B<=B') (a:n<=b):HD K' r E' B' b L M D:=
 ⟨h.fD.mono c,h.l,h.jA,λd hd=>awp (h.lim d hd) a,h.file,λd hd=>⟨(h.dW d hd).1,λq=>(h.dW d hd).2 (abQ a q)⟩,abQ h.cO (Nat.add_le_add (am2 400 a) e),abQ h.ku oQ,h.rX⟩
theorem HD.aX (h:HD K r E B n L M D):L.aX=D.map λd=>(d.1:Int):=by
 unfold aS.aX;rw [h.l,ajr]
 rfl
theorem HD.RI (h:HD K r E B n L M D) (hd:d∈D):∃ i,L.at (d.1:Int)=some i:=by
 cases hat:L.at d.1 with
 |some i=>exact ⟨i,rfl⟩
 |none=>
  unfold aS.at at hat;rw [List.findIdx?_eq_none_iff]at hat;have:=hat (d.1,8+((bU d.2).length:Int)) zQ0;simp at this
theorem HD.bytes (h:HD K r E B n L M D) (hd:d∈D):L.bytes M (d.1:Int)=(dL++bU d.2,0):=by
 obtain ⟨i,hi⟩:=h.RI hd;unfold aS.bytes;rw [hi];exact h.file d hd
theorem HD.Ej {b:aS}{c:aG} (h:HD K r E B n L M D){K':Nat} (e:ny K' r b c) (f:b.l=L.l) (a:nH M c):HD K' r E B n b c D:=
 ⟨e,by rw [f];exact h.l,h.jA,h.lim,λd hd=>by rw [a.all];exact h.file d hd,h.dW,by rw [a.cO];exact h.cO,by rw [a.aN];exact h.ku,by rw [a.aN];exact h.rX⟩
theorem HD.akk (h:HD K r E B n L M D) (x:ay.aT) (hk:x.key.length=32) (hz:(L.append M x).2.2≠0):HD (K+4) r E B n (L.append M x).1.1 (L.append M x).1.2 D:=by
 obtain ⟨k1,k2⟩:=h.fD.append x hk;obtain ⟨k3,_,k4,_⟩:=k2 hz;exact h.Ej k1 k3 k4
def qW (D:List (Nat×List ay.aT)):Nat:=match D.getLast? with
 |none=>0
 |some d=>d.1+1
theorem HD.next (h:HD K r E B n L M D):L.next=qW D:=by
 unfold aS.next qW;rw [h.l,asq];cases D.getLast? with
 |none=>rfl
 |some d=>simp
theorem UM (hr:D.Pairwise λa b=>a.1<b.1) (hd:d∈D):d.1<qW D:=by
 unfold qW;rcases aog D with rfl|⟨D0,e,rfl⟩
 ·cases hd
 ·rw [aok,as4]at *
  rw [ajJ]at hr;simp only [List.getLast?_singleton,Option.some_or];rcases ahc.1 hd with hd|hd
  ·have:=hr.2.2 d hd e yD0;omega
  ·rw [acS.1 hd];omega
theorem HD.ad1 (h:HD K r E B n L M D):qW D<=n:=by
 unfold qW;cases hl:D.getLast? with
 |none=>exact acn _
 |some d=>exact h.lim d (aju hl)
def tH (D:List (Nat×List ay.aT)) (fC:Bool) (x:ay.aT):List (Nat×List ay.aT):=
 if fC=true then D.dropLast++[((D.getLastD (0,[])).1,(D.getLastD (0,[])).2++[x])] else D++[(qW D,[x])]
theorem HD.Ry (h:HD K r E B n L M D) (hn:n<1000) (J:M.aN.length<500){x:ay.aT} (N:(ay.dI x).2=0):(L.append M x).2.2=0\/(L.append M x).2.2=11:=by
 cases hf:L.fC (ay.dI x).1.length with
 |true=>
  rw [aS.Em N hf];have⟨s,v⟩:=h.fD.lD.last (Gz hf);have⟨i,hi⟩:=h.fD.oD _ (aju v);unfold aS.grow;rw [v];simp only;rcases zS h.fD.dV.fE (name s.1) (ay.dI x).1 with ⟨b,_⟩|⟨j,b,⟨m,f⟩|⟨m,f⟩⟩
  ·rw [hi]at b;cases b
  ·rw [f];right;rw [abB yD0]
  ·rw [f];left;rw [abL rfl]
 |false=>
  rw [aS.CS N hf];have⟨A,C,F,_,w⟩:=h.fD.fA;have o:(L.fA M).1.1.next=qW D:=by rw [<-h.next];unfold aS.next;rw [F]
  unfold aS.begin;rw [abL C];have y:=h.ad1;have t:dN (L.fA M).1.2.aN (name (qW D:Int))=none:=by
   cases hi:dN (L.fA M).1.2.aN (name (qW D:Int)) with
   |none=>rfl
   |some i=>
    rw [w.aN]at hi;have⟨d,hd,e⟩:=h.rX (qW D) i oQ hi;have:=UM h.jA hd;omega
  have u:(L.fA M).1.2.aN.length<500:=by rw [w.aN];exact J
  have g:=A.dV;generalize qW D=c at *
  generalize (L.fA M).1.1=I at *
  generalize (L.fA M).1.2=z at *
  unfold aS.nC;rw [o,abB oQ];have⟨G,H,_,_,_⟩:=MW g (NC c oQ oQ) t u;have l:=g.dM (name c);have a:dN (z.dM (name c)).1.aN (name c)=some z.dU.length:=by rw [H];exact Hw g.ok.jR.sU _ _
  rw [abB (λq=>q G)];rcases zS l.fE (name c) (dL++(ay.dI x).1) with ⟨b,_⟩|⟨j,b,⟨m,f⟩|⟨m,f⟩⟩
  ·rw [a]at b;cases b
  ·right;rw [f,abB yD0,abL rfl];simp only;rw [abL (by rw [Pz l.fE a])]
  ·left;rw [f,abL rfl]
theorem HD.append (h:HD K r E B n L M D) (hn:n<1000) (x:ay.aT) (hk:x.key.length=32) (hd:x.data.length<=300) (h0:(ay.dI x).2=0) (hz:(L.append M x).2.2=0\/M.cO+400<=M.room/\M.aN.length<500) :
  (L.append M x).2.2=0/\(L.append M x).1.1.on=true/\(L.append M x).1.1.limit=L.limit/\HD (K+4) r E B (n+1) (L.append M x).1.1 (L.append M x).1.2 (tH D (L.fC (ay.dI x).1.length) x):=by
 have ah:=aaJ h0 hk hd;have A:=(h.fD.append x hk).1;have hu:=h.cO;have ae:=h.fD.dV.room;cases hf:L.fC (ay.dI x).1.length with
 |true=>
  rw [aS.Em h0 hf]at A hz ⊢;have C:=hf;unfold aS.fC at C;rw [ajg,ad2]at C;obtain ⟨s,F⟩:=h.fD.lD.last C.1;obtain ⟨I,⟨c,es⟩,rfl⟩:∃ I e,D=I++[e]:=by
   rcases aog D with e|⟨I,e,rfl⟩
   ·rw [h.l,e]at F;cases F
   ·exact ⟨I,e,aok⟩
  have m:(c,es)∈I++[(c,es)]:=by simp
  have G:=h.l;rw [acy,aij,ajz]at G;rw [G,as4]at F;simp only [List.getLast?_singleton,Option.some_or,Option.some.injEq]at F;subst F;have F:L.l.getLast?=some ((c:Int),8+((bU es).length:Int)):=by rw [G,as4];simp
  have J:c<n:=h.lim _ m;obtain ⟨i,hi⟩:=h.fD.oD _ (aju F);simp only at hi;have H:=h.file _ m;simp only at H;have N:M.cO+(ay.dI x).1.length<=M.room:=by
   rcases hz with hz|⟨hz,_⟩
   ·rcases zS h.fD.dV.fE (name (c:Int)) (ay.dI x).1 with ⟨z,_⟩|⟨j,z,⟨q2,O⟩|⟨q2,O⟩⟩
    ·rw [hi]at z;cases z
    ·unfold aS.grow at hz;rw [F]at hz;simp only [O]at hz;rw [abB aU]at hz;exact absurd (show (11:Int)=0 from hz) aU
    ·omega
   ·omega
  obtain ⟨a1,V,a3,W,a5⟩:=MF h.fD.dV hi (ay.dI x).1 N;have hE:L.grow M (ay.dI x).1=(({ L with l:=L.l.dropLast++[((c:Int),8+((bU es).length:Int)+((ay.dI x).1.length:Int))] },(M.append (name (c:Int)) (ay.dI x).1).1),⟨(c:Int),8+((bU es).length:Int),(ay.dI x).1.length⟩,0):=by
   unfold aS.grow;rw [F];simp only [a1,auT]
  rw [hE]at A ⊢;simp only at A ⊢;rw [H]at W;have af:(bU (es++[x])).length=(bU es).length+(ay.dI x).1.length:=by rw [CZ,Nj,aay]
  have o:tH (I++[(c,es)]) true x=I++[(c,es++[x])]:=by unfold tH;rw [abL rfl];simp
  rw [o];have P:(M.append (name (c:Int)) (ay.dI x).1).1.all (name (c:Int))=(dL++bU (es++[x]),0):=by rw [W,CZ,Nj];simp
  have hr:=h.jA;rw [ajJ]at hr;refine ⟨by first|trivial|rfl,C.1,by first|trivial|rfl,⟨A,?_,?_,?_,?_,?_,?_,?_,?_⟩⟩
  ·show L.l.dropLast++_=_;rw [G,acy,List.dropLast_concat,aij,ajz,af];simp only [List.append_cancel_left_eq,List.cons.injEq,Prod.mk.injEq,true_and,and_true];omega
  ·rw [ajJ];refine ⟨hr.1,List.pairwise_singleton _ _,λa ha b hb=>?_⟩;rw [acS.1 hb];exact hr.2.2 a ha (c,es) yD0
  ·intro d hd;rcases ahc.1 hd with hd|hd
   ·exact Nat.lt_succ_of_lt (h.lim d (ahc.2 (.inl hd)))
   ·rw [acS.1 hd];exact Nat.lt_succ_of_lt J
  ·intro d hd;rcases ahc.1 hd with hd|hd
   ·have h1:=hr.2.2 d hd (c,es) yD0;have h2:=h.lim d (ahc.2 (.inl hd));simp only at h1;rw [a5 _ (λe=>by have:=Oq oQ oQ oQ oQ e;omega)];exact h.file d (ahc.2 (.inl hd))
   ·rw [acS.1 hd];exact P
  ·intro d hd;rcases ahc.1 hd with hd|hd
   ·have X:=h.dW d (ahc.2 (.inl hd));exact ⟨X.1,λq=>X.2 oQ⟩
   ·rw [acS.1 hd];refine ⟨λy Q=>?_,λ_=>by simp⟩;rcases ahc.1 Q with Q|Q
    ·exact (h.dW _ m).1 y Q
    ·rw [acS.1 Q];exact ⟨h0,hk⟩
  ·rw [a3];omega
  ·rw [V];have:=h.ku;omega
  ·intro k j R Y;rw [V]at Y;obtain ⟨d,hd,e⟩:=h.rX k j R Y;rcases ahc.1 hd with hd|hd
   ·exact ⟨d,ahc.2 (.inl hd),e⟩
   ·rw [acS.1 hd]at e;exact ⟨(c,es++[x]),by simp,e⟩
 |false=>
  rw [aS.CS h0 hf]at A hz ⊢;obtain ⟨Z,s2,s3,s4,s5⟩:=h.fD.fA;have aa:=aS.aty L M;have hB:L.begin M (ay.dI x).1=(L.fA M).1.1.nC (L.fA M).1.2 (ay.dI x).1:=by unfold aS.begin;rw [abL s2]
  rw [hB]at A hz ⊢;have S:(L.fA M).1.1.next=qW D:=by rw [<-h.next];unfold aS.next;rw [s3]
  have T:=s5.all;have f:=s5.aN;have t:=s5.cO;have ad:=Z.dV.room;have J:=h.ad1;have u:∀ d∈D,d.1<qW D:=λd hd=>UM h.jA hd;have o:tH D false x=D++[(qW D,[x])]:=by unfold tH;rw [abB aU]
  rw [o];generalize qW D=c at *
  generalize (L.fA M).1.1=L1 at *
  generalize (L.fA M).1.2=v at *
  have ag:dN v.aN (name (c:Int))=none:=by
   cases X:dN v.aN (name (c:Int)) with
   |none=>rfl
   |some i=>
    exfalso;rw [f]at X;obtain ⟨d,hd,e⟩:=h.rX c i oQ X;have:=u d hd;omega
  have ab:v.aN.length<500:=by
   rcases hz with hz|⟨_,hz⟩
   ·rcases Gs Z.dV.fE (name (c:Int)) with ⟨z,_,_⟩|⟨_,_,O,_⟩
    ·unfold aS.nC at hz;rw [S,abB oQ,abL z]at hz;exact absurd hz z
    ·exact O
   ·rw [f];exact hz
  obtain ⟨c1,c2,c3,c4,c5⟩:=MW Z.dV (NC (c:Int) oQ oQ) ag ab;have U:=Z.dV.dM (name (c:Int));have w:dN (v.dM (name (c:Int))).1.aN (name (c:Int))=some v.dU.length:=by rw [c2];exact Hw Z.dV.ok.jR.sU _ _
  have N:(v.dM (name (c:Int))).1.cO+(dL++(ay.dI x).1).length<=(v.dM (name (c:Int))).1.room:=by
   rcases hz with hz|⟨hz,_⟩
   ·rcases zS U.fE (name (c:Int)) (dL++(ay.dI x).1) with ⟨z,_⟩|⟨j,z,⟨q2,O⟩|⟨q2,O⟩⟩
    ·rw [w]at z;cases z
    ·unfold aS.nC at hz;rw [S,abB oQ,abB (λhh=>hh c1)]at hz;simp only [O]at hz;rw [abB aU]at hz;simp only [auT]at hz;split at hz
     ·exact absurd hz aU
     ·rename_i g;exact absurd hz g
    ·omega
   ·rw [c3,t,U.room,aay];have:dL.length=8:=rfl;omega
  obtain ⟨a1,V,a3,W,a5⟩:=MF U w (dL++(ay.dI x).1) N;have hE:L1.nC v (ay.dI x).1=(({ L1 with l:=L1.l++[((c:Int),8+((ay.dI x).1.length:Int))],on:=true,dK:=L1.dK+1 },((v.dM (name (c:Int))).1.append (name (c:Int)) (dL++(ay.dI x).1)).1),⟨(c:Int),8,(ay.dI x).1.length⟩,0):=by
   unfold aS.nC;rw [S,abB oQ,abB (λhh=>hh c1),abL a1]
  rw [hE]at A ⊢;simp only at A ⊢;rw [c4]at W;have P:((v.dM (name (c:Int))).1.append (name (c:Int)) (dL++(ay.dI x).1)).1.all (name (c:Int))=(dL++bU [x],0):=by rw [W,Nj];simp
  refine ⟨by first|trivial|rfl,by first|trivial|rfl,aa,⟨A,?_,?_,?_,?_,?_,?_,?_,?_⟩⟩
  ·simp only [s3,h.l,acy,aij,ajz,Nj]
  ·rw [ajJ];refine ⟨h.jA,List.pairwise_singleton _ _,λa ha b hb=>?_⟩;rw [acS.1 hb];exact u a ha
  ·intro d hd;rcases ahc.1 hd with hd|hd
   ·exact Nat.lt_succ_of_lt (h.lim d hd)
   ·rw [acS.1 hd];exact Nat.lt_succ_of_le J
  ·intro d hd;rcases ahc.1 hd with hd|hd
   ·have h1:=u d hd;have ac:name (d.1:Int)≠name (c:Int):=λe=>by have:=Oq oQ oQ oQ oQ e;omega
    rw [a5 _ ac,c5 _ ac,T];exact h.file d hd
   ·rw [acS.1 hd];exact P
  ·intro d hd;rcases ahc.1 hd with hd|hd
   ·exact ⟨(h.dW d hd).1,λq=>(h.dW d hd).2 oQ⟩
   ·rw [acS.1 hd];exact ⟨λy Q=>by rw [acS.1 Q];exact ⟨h0,hk⟩,λ_=>by simp⟩
  ·rw [a3,c3,t,aay];have:dL.length=8:=rfl;omega
  ·rw [V,c2,UU];have:=EW v.aN (name (c:Int));rw [f]at this;have:=h.ku;rw [f];omega
  ·intro k j R Y;by_cases e:k=c
   ·subst e;exact ⟨(k,[x]),by simp,rfl⟩
   ·rw [V,c2,G9 (λq=>e (by have:=Oq oQ oQ oQ oQ q;omega)),f]at Y;obtain ⟨d,hd,e2⟩:=h.rX k j R Y;exact ⟨d,ahc.2 (.inl hd),e2⟩
theorem HD.jO (h:HD K r E B n L M D) (hn:n<1000) (hz:(L.append M gq).2.2=0\/M.cO+400<=M.room/\M.aN.length<500) :
  (L.jO M).2.2=0/\(L.jO M).1.1.on=false/\(L.jO M).1.1.limit=L.limit/\HD (K+5) r E B (n+1) (L.jO M).1.1 (L.jO M).1.2 (tH D (L.fC (ay.dI gq).1.length) gq):=by
 have⟨m,w,t,c⟩:=h.append hn gq rfl aU aA hz;have⟨i,hi⟩:=Zn h.fD gq rfl m;have b:=h.fD.lD.jO M;have a:=h.fD.jO;rw [aS.MV]at b a ⊢;rw [abB (λd=>d m)]at b a ⊢;generalize L.append M gq=r at *
 have⟨⟨x,o⟩,p1,y⟩:=r;simp only at *
 have u:=Qa c.fD.dV.ok c.fD.dV.fE (name p1.aZ);have e:=c.fD.dV.dY (name p1.aZ);have es:=c.fD.dV.fE.KI hi;have f:(o.dY (name p1.aZ)).2=0:=by rw [es]
 rw [abB (λd=>d f)]at b a ⊢;generalize (o.dY (name p1.aZ)).1=g at *
 have s:=e.fE.KH;have j:g.fU.2=0:=by rw [s]
 rw [abB (λd=>d j)]at b a ⊢;have l:nH g g.fU.1:=by rw [s];exact ⟨rfl,rfl,rfl,λ_ _=>rfl⟩
 have v:=u.trans l;exact ⟨rfl,rfl,t,c.Ej a rfl v⟩
end
open Go.aG
open Go.ay (bU gV iJ aT)
def Qe (d:aT):aT:=if d.dB=0 then ⟨0,d.key,d.data⟩ else if d.dB=1 then ⟨1,d.key,[]⟩ else gq
def acR (d:aT):Prop:=d.dB=0\/d.dB=1
instance (d:aT):Decidable (acR d):=by unfold acR;infer_instance
structure Pl (n:Nat) (ds:List aT) (L:aS) (M:aG) (C:List (List aT)):Prop where
 holds:Holds n L M C
 tail:ajV L.on C
 av1:C.flatten=ds.map Qe
 qK:∀ x∈C.flatten,x.data.length<=300
section
variable {n:Nat}{ds:List aT}{L:aS}{M:aG}{C C0:List (List aT)}{d:aT}
theorem ahK (hk:d.key.length=32) (hd:d.data.length<=300):(ay.dI (Qe d)).2=0:=by
 have hc:ay.kK (Qe d)=0:=by
  unfold Qe;split
  ·unfold ay.kK;simp only [auT];rw [abB oQ]
  split
  ·unfold ay.kK;simp
  ·decide
 unfold ay.dI;rw [abB (by simp [hc])]
end
open Go.aG
structure Fit (K:Nat) (D:aG):Prop where
 ok:D.Ok K
 qK:D.Rt
 dU:D.dU.length<=500+K
open Go.ay (Bs fO bU gV iJ aT)
open Go.aJ
open Go.aG
open Go.ay (Bs aT bU gV)
open Go.aJ
open Go.aG
open Go.ay (bU gV iJ aT)
end Go.aB
namespace Go.ay
theorem ahe:∀ (k:Nat) (b:Bs) (aP:Nat),(pY k b aP).1.length<=k
 |0,_,_=>abG 0
 |k+1,b,aP=>by
  unfold pY;split
  ·exact acn _
  split
  ·exact acn _
  ·simp only [aiT];have:=ahe k;exact Nat.succ_le_succ (this _ _)
theorem ahi (b:Bs):(eF b).1.length<=b.length:=by
 unfold eF;split
 ·exact ahe _ _ _
 ·exact acn _
theorem arf {b:Bs} (h:(read b).2.2=0):(read b).1.dB=0\/(read b).1.dB=1\/(read b).1.dB=2:=by
 unfold read at *
 dsimp only at *
 split at h
 ·simp at h
 rename_i h9;rw [abB h9];split at h
 ·simp at h
 rename_i hf;rw [abB hf];split at h
 ·simp at h
 rename_i hl;rw [abB hl];split at h
 ·simp at h
 rename_i hc;rw [abB hc];have ht:b.getD 8 0=0\/b.getD 8 0=1\/b.getD 8 0=2:=by
  unfold fC at hf;split at hf
  ·exact .inl aQ
  split at hf
  ·exact .inr (.inl aQ)
  split at hf
  ·exact .inr (.inr aQ)
  ·exact absurd rfl hf
 split
 all_goals
  dsimp only;rcases ht with e|e|e <;> rw [e]
  ·exact .inl rfl
  ·exact .inr (.inl rfl)
  ·exact .inr (.inr rfl)
theorem ahh:∀ (k:Nat) (b:Bs) (aP:Nat),∀ f∈(pY k b aP).1,(f.e.dB=0\/f.e.dB=1\/f.e.dB=2)/\f.e.key.length=32/\9<=f.size/\f.size<=b.length
 |0,_,_,f,hf=>by cases hf
 |k+1,b,aP,f,hf=>by
  unfold pY at hf;split at hf
  ·cases hf
  split at hf
  ·cases hf
  rename_i a;have a:(read b).2.2=0:=by simpa using a
  have d:=BK a;simp only at hf;rcases ab9.1 hf with rfl|hf
  ·exact ⟨arf a,d.2.2,d.1,d.2.1⟩
  ·have c:=ahh k _ _ f hf;refine ⟨c.1,c.2.1,c.2.2.1,abQ c.2.2.2 ?_⟩;rw [abJ];omega
theorem atc (b:Bs):∀ f∈(eF b).1,(f.e.dB=0\/f.e.dB=1\/f.e.dB=2)/\f.e.key.length=32/\9<=f.size/\f.size<=b.length:=λf hf=>by
 unfold eF at hf;split at hf
 ·have h:=ahh _ _ _ f hf;refine ⟨h.1,h.2.1,h.2.2.1,abQ h.2.2.2 ?_⟩;rw [abJ];omega
 ·cases hf
end Go.ay
