import Derived.Test.YtadhomdmbcldkaaGreatDoorJ9
import Derived.Test.YtadhomdmbcldkaaGreatDoorShelf
set_option linter.unusedSimpArgs false
open Go.Proofs.Tryz
set_option maxRecDepth 20000
set_option linter.unusedVariables false
set_option maxHeartbeats 128000000
open Go Go.Sl Go.MapKept Go.RowKit
open Go.Proofs.YtadhomdmbcldkaaGreatDoor Go.Proofs.Y
variable {w w0:World}{F L:List aF}{P:Program}{ops:Array Oper}{rest:List Oper}{a:Act}{Q:Exit->Act->World->Prop}{dst:Option Tmp}{ty:TypeId}{after:Array Edge}{x y s:Operand}{v vy lv:Value}{l m:ak.Bs}{n K:Nat}{M:ak.ak}
theorem zB0{p:Prop} (h:p:=by rw [lF _ H1.o.key];kernel_rfl):p:=h
namespace Go.Proofs.Y
open Go.ak
section
variable {t:TypeId}{pos:String}{vx:Value}
theorem Nr (hx:a.eval x=vx) (hy:a.eval y=vy) (hr:∀ w,(Instr.sliceAt ty vx (some vy) none none).run P w=.ok v w):Yields P ops ⟨dst,.slice ty x (some y) none none,t,pos,after,none⟩ v a:=
 .inl ⟨mZ _ rfl,λw=>by simp only [execOp,hx,hy,aiM,ao1,aed,hr,adW,aep]⟩
theorem an1 (l c:Nat) (h1:l<=c) (h2:c<=1099511627776) (hs:Sat w0 w L) (hx:a.eval x=.int .i64 l) (hy:a.eval y=.int .i64 c)
  (hK:∀ b w',Sat w0 w' (aY (.slice (some ⟨b,0,none⟩) l c) (List.replicate l 0)::L)->wpList prog ops Q rest (a.put dst (.slice (some ⟨b,0,none⟩) l c)) w') :
  wpList prog ops Q (⟨dst,.makeSlice 59 x y,t,pos,after,none⟩::rest) a w:=by
 have hS:=hs.alloc (.cells (madeCells #[.int .u8 0] c) 5);refine ae5 rfl λ_ hK'=>?_;unfold Oper.wp execOp;simp only [hx,hy,aam l c h1 h2,aed,aep,adW];exact hK' _ _ (hK _ _ (aak h1 h2 hS))
theorem afv (h:Stop (wpList P ops Q (⟨dst,.makeSlice ty x y,t,pos,after,none⟩::rest) a w)):wpList P ops Q (⟨dst,.makeSlice ty x y,t,pos,after,none⟩::rest) a w:=h.o
theorem adw (hs:Sat w0 w (aY v l::F)) (hv:a.eval s=v) (hy:a.eval y=vy) (hx:aW 1 vy (aB m) w) (hlen:l.length+m.length<=1099511627776)
  (hK:∀ v' w',Sat w0 w' (aY v' (l++m)::F)->wpList prog ops Q rest (a.put dst v') w') :
  wpList prog ops Q (⟨dst,.call { callee:= .builtin .append,args:=#[s,y],argTypes:=#[59,59] },59,pos,after,none⟩::rest) a w:=by
 obtain ⟨i,hi,hz0,hz1,hz2⟩:=uO;have h63:(aB l).length+(aB m).length<=maxLen:=by rw [aP,aP];unfold maxLen;omega
 have hby:((aB l).length+(aB m).length)*i.bytes<=140737488355328:=by rw [aP,aP,hz2];omega
 refine Ah (w0:=w0) rfl s y 59 rfl _ i _ underlying59 hi hz0 hz1 ah oQ hv hy (vK _) hs hx h63 hby ?_;intro v' w' hS hn;rw [<-Bo]at hS;exact hK v' w' hS
end
section
variable {bv rv:Value}{p:Nat}
theorem amS (n:Nat):∃ x:Nat,IntKind.u64.wrap ((2870177450012600261:Int)+(n:Int))=(x:Int)/\x<18446744073709551616/\(2870177450012600261+n)%18446744073709551616=x:=by
 obtain ⟨x,a,b,c⟩:=acM 2870177450012600261 n;unfold Xx.W at c;exact ⟨x,(aeO (λz=>IntKind.u64.wrap (z+(n:Int))) (show (2870177450012600261:Int)=((2870177450012600261:Nat):Int) from rfl)).trans a,b,c⟩
theorem aib (hl0:l≠[]) (hl:l.length<=1073741824) (hr:RS w0 F bv l) (h:Sat w0 w (jC p Xx.Ln.zero (.slice none 0 0) 0::F)) :
  Calls prog 245 #[ptr p,bv] w (aN λ_ w'=>∃ rv bA cA,Sat w0 w' (jC p (Xx.kG l.length Xx.Ln.zero l).1 rv l.length::aY (.slice (some ⟨bA,0,none⟩) l.length cA) l::F)/\RS w0 (aY (.slice (some ⟨bA,0,none⟩) l.length cA) l::F) rv (Xx.kG l.length Xx.Ln.zero l).2):=by
 obtain ⟨ba,bc,rfl,hb1,hb2⟩:=(hr.more (G:=jC p Xx.Ln.zero (.slice none 0 0) 0::F) jS).len h;have Hr:=uQ hr;have Hl:=uQ hl;have Ji:=uQ hl0;have c0:w.cell? ⟨p,0,none⟩=some (.bool true):=h.cellAt 0 _ rfl;have n1:IntKind.u64.wrap (l.length:Int)=(l.length:Int):=by rw [alK];omega
 have n2:(l.length:Int)%18446744073709551616=(l.length:Int):=oQ;have n3:IntKind.i64.wrap (l.length:Int)=(l.length:Int):=acO _ oQ;clear hr hl hb1 hb2 hl0;go_enter func245,ntmps245
 go_wp2_with (first
  |((with_reducible refine bC ⟨?_⟩);refine eY h ah aK bG ay au ?_)
  |(with_reducible apply bW))
 refine ⟨jM (v:= .int .u64 l.length) h ah ah ah bU (by exact ab1 8) au ah ?_⟩;intro w1 h1;have h2:Sat w0 w1 (jC p Xx.Ln.zero (.slice none 0 0) l.length::F):=h1;clear h h1 c0
 go_wp2_with (first
  |((with_reducible refine bC ⟨?_⟩);refine eY h2 ah aK bG ay au ?_)
  |(with_reducible apply afv))
 refine ⟨an1 0 l.length (ad4 _) (by have:=Hl.o;omega) h2 ah ah ?_⟩;intro bM w3 h3
 go_wp2_with (first
  |((with_reducible refine bC ⟨?_⟩);refine eY h3 ah aT bG ay au ?_)
  |(with_reducible apply fZ))
 refine ⟨adw (m:=[]) h3 ah ah (SQ 1 0 _) yF0 ?_⟩;intro v4 w4 h4;go_wp2_with (with_reducible apply fZ);refine ⟨adw (m:=l) h4 ah ah (Hr.o.rd _ h4.drop.drop) (by simp only [List.replicate,aei,ae0];have:=Hl.o;omega) ?_⟩;intro v5 w5 h5;have h6:Sat w0 w5 (aY v5 l::jC p Xx.Ln.zero (.slice none 0 0) l.length::F):=h5;clear h2 h3 h4 h5;obtain ⟨bA,cA,rfl⟩:∃ bA cA,v5=.slice (some ⟨bA,0,none⟩) l.length cA:=by
  rcases Sat.kL h6 with ⟨_,he,_⟩|⟨b,n,cap,cs,he,k1,_⟩
  ·exfalso;apply Ji.o;have:=aeO List.length he;rw [aP]at this;exact ae9 (by simpa using this)
  ·rw [aP,aeo]at k1;subst k1;exact ⟨b,cap,he⟩
 have h7:Sat w0 w5 (jC p Xx.Ln.zero (.slice none 0 0) l.length::aY (.slice (some ⟨bA,0,none⟩) l.length cA) l::F):=h6.sb;have ug:=uQ (show RS w0 (aY (.slice (some ⟨bA,0,none⟩) l.length cA) l::F) (.slice (some ⟨bA,0,none⟩) l.length cA) l from RS.La h7.drop);clear h6;go_wp2_with fail
 go_loopg [4] l.length (λg aq wr=>∃ (ln:Xx.Ln) (m:Bs),g=m.length/\m.length<=l.length/\ln.lt/\RS w0 (aY (.slice (some ⟨bA,0,none⟩) l.length cA) l::F) aq m/\Xx.kG l.length Xx.Ln.zero l=Xx.kG m.length ln m /\
  Sat w0 wr (jC p ln (.slice none 0 0) l.length::aY (.slice (some ⟨bA,0,none⟩) l.length cA) l::F))
 case atStart=>exact ⟨Xx.Ln.zero,l,rfl,ab1 _,Xx.adQ,ug.o,rfl,h7⟩
 case round=>
  obtain ⟨⟨la,lb,lc,ld⟩,m,rfl,hml,hlt,hRS,heq,hS⟩:=hrel;clear h7 ug;by_cases h32:32<=m.length
  ·obtain ⟨a,c,a4,c4,rfl,k1,k2,hrun4,rs4⟩:=zl hRS hS.drop h32;obtain ⟨_,_,a0,c0,he,_,_,TK,TB⟩:=zl hRS hS.drop (k:=0) oQ;cases he;obtain ⟨_,_,a1,c1,he,_,_,TL,TD⟩:=zl hRS hS.drop (k:=8) oQ;cases he;obtain ⟨_,_,a2,c2,he,_,_,TM,TF⟩:=zl hRS hS.drop (k:=16) oQ;cases he;obtain ⟨_,_,a3,c3,he,_,_,TN,TG⟩:=zl hRS hS.drop (k:=24) oQ;cases he;have hst:Xx.kG m.length ⟨la,lb,lc,ld⟩ m=Xx.kG (m.drop 32).length (Xx.strip ⟨la,lb,lc,ld⟩ m) (m.drop 32):=by rw [Xx.ahv h32 (ab1 _),adX]
   have hsl:=Xx.acQ ⟨la,lb,lc,ld⟩ m;have hsp:Xx.strip ⟨la,lb,lc,ld⟩ m=⟨Xx.lane la (aj.num ((m.drop 0).take 8)),Xx.lane lb (aj.num ((m.drop 8).take 8)),Xx.lane lc (aj.num ((m.drop 16).take 8)),Xx.lane ld (aj.num ((m.drop 24).take 8))⟩:=rfl;obtain ⟨N0,VF⟩:∃ N,Hid (aj.num ((m.drop 0).take 8)=N):=⟨_,uQ rfl⟩;obtain ⟨N1,VG⟩:∃ N,Hid (aj.num ((m.drop 8).take 8)=N):=⟨_,uQ rfl⟩;obtain ⟨N2,DI⟩:∃ N,Hid (aj.num ((m.drop 16).take 8)=N):=⟨_,uQ rfl⟩;obtain ⟨N3,VH⟩:∃ N,Hid (aj.num ((m.drop 24).take 8)=N):=⟨_,uQ rfl⟩;rw [VF.o,VG.o,DI.o,VH.o]at hsp;obtain ⟨n0,Vu⟩:∃ N,Hid (Xx.lane la N0=N):=⟨_,uQ rfl⟩;obtain ⟨n1',Vw⟩:∃ N,Hid (Xx.lane lb N1=N):=⟨_,uQ rfl⟩;obtain ⟨zJ,Vx⟩:∃ N,Hid (Xx.lane lc N2=N):=⟨_,uQ rfl⟩;obtain ⟨G8,Vy⟩:∃ N,Hid (Xx.lane ld N3=N):=⟨_,uQ rfl⟩;rw [Vu.o,Vw.o,Vx.o,Vy.o]at hsp
   rw [hsp]at hst hsl;have o9:=uQ (heq.trans hst);have qh:=uQ hsl;have aeL:=uQ rs4;have Ja:=uQ h32;have Hll:=uQ (show (m.drop 32).length<m.length/\(m.drop 32).length<=l.length by rw [adX];omega);replace TB:=uQ TB;replace TD:=uQ TD;replace TF:=uQ TF;replace TG:=uQ TG;replace TK:=uQ TK;replace TL:=uQ TL;replace TM:=uQ TM;replace TN:=uQ TN;have aeM:=uQ hrun4;have cc:(32:Int)<=(m.length:Int):=oQ;clear hst hsl hsp heq hRS rs4 hlt hml k1 k2 h32 hrun4;go_wp2_with fail
   go_loopg [45] 4 (λg iq wr=>∃ (i:Nat),g=4-i/\i<=4/\iq=.int .i64 i/\Sat w0 wr ((match i with|0=>jC p ⟨la,lb,lc,ld⟩ (.slice none 0 0) l.length|1=>jC p ⟨n0,lb,lc,ld⟩ (.slice none 0 0) l.length|2=>jC p ⟨n0,n1',lc,ld⟩ (.slice none 0 0) l.length|3=>jC p ⟨n0,n1',zJ,ld⟩ (.slice none 0 0) l.length|_=>jC p ⟨n0,n1',zJ,G8⟩ (.slice none 0 0) l.length)::aY (.slice (some ⟨bA,0,none⟩) l.length cA) l::F))
   case atStart=>exact ⟨0,rfl,by omega,rfl,hS⟩
   case round=>
    obtain ⟨i,rfl,hi,rfl,wI⟩:=hrel;clear hS;obtain rfl|rfl|rfl|rfl|rfl:i=0\/i=1\/i=2\/i=3\/i=4:=by omega
    ·have hw1:(8:Int)*0=0:=by decide
     have hw2:IntKind.i64.wrap (0:Int)=(0:Int):=by decide
     have HG:=uQ (λ(w:World) (R:List aF) (hS:Sat w0 w (jC p ⟨la,lb,lc,ld⟩ (.slice none 0 0) l.length::R))=>show w.cell? ⟨p,2,none⟩=some (.int .u64 la) from hS.cellAt 2 _ rfl);go_wp2_with fail;have hS1:=wI.drew;clear wI;refine eF [13,16,17] (λw'=>w'.cell? ⟨p,2,none⟩=some (.int .u64 la)) au ?_;have hG:=HG.o _ _ hS1;refine rP 0 ?_ (y:=bD);refine rP 1 ?_ (y:=bD);refine rP 2 ?_ (y:=bD);refine rP 3 ?_ (y:=bD);refine rP 4 ?_ (y:=iG);refine rP 5 ?_ (y:=dh);refine rP 6 ?_ (y:=iV);refine rt 7 (h:=?_);refine rP 8 ?_ (y:=bD);refine rP 9 ?_ (y:=bD);refine rP 10 ?_ (y:=lZ);refine rP 11 ?_ (y:=(Nr ay (by go_simp;first|done|rfl) TK.o));refine rP 14 ?_ (y:=iG);refine rP 15 ?_ (y:=dh);clear hG;refine cZ 12 ay au (λK hK=>?_)
     (refine uJ au ay ?_)
     refine (IY (m.drop 0) (by rw [adX];have:=Ja.o;omega) (TB.o.more jS) hS1).mono ?_;rintro ee w12 ⟨v,rfl,rfl,rfl⟩;refine hK _ _ (.inr (.inr rfl)) ?_;clear hK;rw [VF.o];refine cZ 13 ay au (λK hK=>?_)
     (refine jB au ay ay ?_)
     refine (yx la N0 hS1).mono ?_;rintro ee ku ⟨v,rfl,rfl,h13⟩;refine hK _ _ (.inl rfl) ?_;clear hK hS1;rw [Vu.o];refine rP 16 ?_ (y:=iV);refine cZ 17 ay au (λK hK=>?_);refine pI (v:= .int .u64 n0) h13 ay ay ah bU (by exact (by decide:3<=8)) au ah ?_;intro Dl h17;refine hK _ _ (.inl rfl) ?_;clear hK h13;refine dX au ?_
     try simp only [jI]
     try go_frame
     have h18:Sat w0 Dl (jC p ⟨n0,lb,lc,ld⟩ (.slice none 0 0) l.length::aY (.slice (some ⟨bA,0,none⟩) l.length cA) l::F):=h17;clear h17;go_wp2_with fail
     go_roundg 3
     case measure=>omega
     case rel=>exact ⟨1,rfl,by omega,rfl,h18⟩
    ·have hw1:(8:Int)*1=8:=by decide
     have hw2:IntKind.i64.wrap (8:Int)=(8:Int):=by decide
     have HG:=uQ (λ(w:World) (R:List aF) (hS:Sat w0 w (jC p ⟨n0,lb,lc,ld⟩ (.slice none 0 0) l.length::R))=>show w.cell? ⟨p,3,none⟩=some (.int .u64 lb) from hS.cellAt 3 _ rfl);go_wp2_with fail;have hS1:=wI.drew;clear wI;refine eF [13,16,17] (λw'=>w'.cell? ⟨p,3,none⟩=some (.int .u64 lb)) au ?_;have hG:=HG.o _ _ hS1;refine rP 0 ?_ (y:=bD);refine rP 1 ?_ (y:=bD);refine rP 2 ?_ (y:=bD);refine rP 3 ?_ (y:=bD);refine rP 4 ?_ (y:=iG);refine rP 5 ?_ (y:=dh);refine rP 6 ?_ (y:=iV);refine rt 7 (h:=?_);refine rP 8 ?_ (y:=bD);refine rP 9 ?_ (y:=bD);refine rP 10 ?_ (y:=lZ);refine rP 11 ?_ (y:=(Nr ay (by go_simp;first|done|rfl) TL.o));refine rP 14 ?_ (y:=iG);refine rP 15 ?_ (y:=dh);clear hG;refine cZ 12 ay au (λK hK=>?_)
     (refine uJ au ay ?_)
     refine (IY (m.drop 8) (by rw [adX];have:=Ja.o;omega) (TD.o.more jS) hS1).mono ?_;rintro ee w12 ⟨v,rfl,rfl,rfl⟩;refine hK _ _ (.inr (.inr rfl)) ?_;clear hK;rw [VG.o];refine cZ 13 ay au (λK hK=>?_)
     (refine jB au ay ay ?_)
     refine (yx lb N1 hS1).mono ?_;rintro ee ku ⟨v,rfl,rfl,h13⟩;refine hK _ _ (.inl rfl) ?_;clear hK hS1;rw [Vw.o];refine rP 16 ?_ (y:=iV);refine cZ 17 ay au (λK hK=>?_);refine pI (v:= .int .u64 n1') h13 ay ay ah bU (by exact (by decide:4<=8)) au ah ?_;intro Dl h17;refine hK _ _ (.inl rfl) ?_;clear hK h13;refine dX au ?_
     try simp only [jI]
     try go_frame
     have h18:Sat w0 Dl (jC p ⟨n0,n1',lc,ld⟩ (.slice none 0 0) l.length::aY (.slice (some ⟨bA,0,none⟩) l.length cA) l::F):=h17;clear h17;go_wp2_with fail
     go_roundg 2
     case measure=>omega
     case rel=>exact ⟨2,rfl,by omega,rfl,h18⟩
    ·have hw1:(8:Int)*2=16:=by decide
     have hw2:IntKind.i64.wrap (16:Int)=(16:Int):=by decide
     have HG:=uQ (λ(w:World) (R:List aF) (hS:Sat w0 w (jC p ⟨n0,n1',lc,ld⟩ (.slice none 0 0) l.length::R))=>show w.cell? ⟨p,4,none⟩=some (.int .u64 lc) from hS.cellAt 4 _ rfl);go_wp2_with fail;have hS1:=wI.drew;clear wI;refine eF [13,16,17] (λw'=>w'.cell? ⟨p,4,none⟩=some (.int .u64 lc)) au ?_;have hG:=HG.o _ _ hS1;refine rP 0 ?_ (y:=bD);refine rP 1 ?_ (y:=bD);refine rP 2 ?_ (y:=bD);refine rP 3 ?_ (y:=bD);refine rP 4 ?_ (y:=iG);refine rP 5 ?_ (y:=dh);refine rP 6 ?_ (y:=iV);refine rt 7 (h:=?_);refine rP 8 ?_ (y:=bD);refine rP 9 ?_ (y:=bD);refine rP 10 ?_ (y:=lZ);refine rP 11 ?_ (y:=(Nr ay (by go_simp;first|done|rfl) TM.o));refine rP 14 ?_ (y:=iG);refine rP 15 ?_ (y:=dh);clear hG;refine cZ 12 ay au (λK hK=>?_)
     (refine uJ au ay ?_)
     refine (IY (m.drop 16) (by rw [adX];have:=Ja.o;omega) (TF.o.more jS) hS1).mono ?_;rintro ee w12 ⟨v,rfl,rfl,rfl⟩;refine hK _ _ (.inr (.inr rfl)) ?_;clear hK;rw [DI.o];refine cZ 13 ay au (λK hK=>?_)
     (refine jB au ay ay ?_)
     refine (yx lc N2 hS1).mono ?_;rintro ee ku ⟨v,rfl,rfl,h13⟩;refine hK _ _ (.inl rfl) ?_;clear hK hS1;rw [Vx.o];refine rP 16 ?_ (y:=iV);refine cZ 17 ay au (λK hK=>?_);refine pI (v:= .int .u64 zJ) h13 ay ay ah bU (by exact (by decide:5<=8)) au ah ?_;intro Dl h17;refine hK _ _ (.inl rfl) ?_;clear hK h13;refine dX au ?_
     try simp only [jI]
     try go_frame
     have h18:Sat w0 Dl (jC p ⟨n0,n1',zJ,ld⟩ (.slice none 0 0) l.length::aY (.slice (some ⟨bA,0,none⟩) l.length cA) l::F):=h17;clear h17;go_wp2_with fail
     go_roundg 1
     case measure=>omega
     case rel=>exact ⟨3,rfl,by omega,rfl,h18⟩
    ·have hw1:(8:Int)*3=24:=by decide
     have hw2:IntKind.i64.wrap (24:Int)=(24:Int):=by decide
     have HG:=uQ (λ(w:World) (R:List aF) (hS:Sat w0 w (jC p ⟨n0,n1',zJ,ld⟩ (.slice none 0 0) l.length::R))=>show w.cell? ⟨p,5,none⟩=some (.int .u64 ld) from hS.cellAt 5 _ rfl);go_wp2_with fail;have hS1:=wI.drew;clear wI;refine eF [13,16,17] (λw'=>w'.cell? ⟨p,5,none⟩=some (.int .u64 ld)) au ?_;have hG:=HG.o _ _ hS1;refine rP 0 ?_ (y:=bD);refine rP 1 ?_ (y:=bD);refine rP 2 ?_ (y:=bD);refine rP 3 ?_ (y:=bD);refine rP 4 ?_ (y:=iG);refine rP 5 ?_ (y:=dh);refine rP 6 ?_ (y:=iV);refine rt 7 (h:=?_);refine rP 8 ?_ (y:=bD);refine rP 9 ?_ (y:=bD);refine rP 10 ?_ (y:=lZ);refine rP 11 ?_ (y:=(Nr ay (by go_simp;first|done|rfl) TN.o));refine rP 14 ?_ (y:=iG);refine rP 15 ?_ (y:=dh);clear hG;refine cZ 12 ay au (λK hK=>?_)
     (refine uJ au ay ?_)
     refine (IY (m.drop 24) (by rw [adX];have:=Ja.o;omega) (TG.o.more jS) hS1).mono ?_;rintro ee w12 ⟨v,rfl,rfl,rfl⟩;refine hK _ _ (.inr (.inr rfl)) ?_;clear hK;rw [VH.o];refine cZ 13 ay au (λK hK=>?_)
     (refine jB au ay ay ?_)
     refine (yx ld N3 hS1).mono ?_;rintro ee ku ⟨v,rfl,rfl,h13⟩;refine hK _ _ (.inl rfl) ?_;clear hK hS1;rw [Vy.o];refine rP 16 ?_ (y:=iV);refine cZ 17 ay au (λK hK=>?_);refine pI (v:= .int .u64 G8) h13 ay ay ah bU (by exact (by decide:6<=8)) au ah ?_;intro Dl h17;refine hK _ _ (.inl rfl) ?_;clear hK h13;refine dX au ?_
     try simp only [jI]
     try go_frame
     have h18:Sat w0 Dl (jC p ⟨n0,n1',zJ,G8⟩ (.slice none 0 0) l.length::aY (.slice (some ⟨bA,0,none⟩) l.length cA) l::F):=h17;clear h17;go_wp2_with fail
     go_roundg 0
     case measure=>omega
     case rel=>exact ⟨4,rfl,by omega,rfl,h18⟩
    ·have hS4:Sat w0 wr (jC p ⟨n0,n1',zJ,G8⟩ (.slice none 0 0) l.length::aY (.slice (some ⟨bA,0,none⟩) l.length cA) l::F):=wI;clear wI;go_wp2_with ((with_reducible refine Jy ⟨?_⟩);refine Nl ah ah aeM.o ?_)
     go_roundg (m.drop 32).length
     case measure=>exact Hll.o.1
     case rel=>exact ⟨⟨n0,n1',zJ,G8⟩,m.drop 32,rfl,Hll.o.2,qh.o,by have k:=aeL.o;rw [adX]at k;exact k,o9.o,hS4⟩
  ·have hst:=uQ (show Xx.kG l.length Xx.Ln.zero l=(⟨la,lb,lc,ld⟩,m) from heq.trans (Xx.ahw h32));have kW:=uQ hRS;obtain ⟨a,c,rfl,k1,k2⟩:=hRS.len hS.drop;have cc:¬ (32:Int)<=(m.length:Int):=oQ;clear heq hlt hml h32 hRS k1 k2;go_wp2_with ((with_reducible refine bW ⟨?_⟩);refine jM (v:= .slice a m.length c) hS ah ah ah bU (by exact aiL 7) au ah ?_;intro w9 h9)
   go_end0
   exact ⟨_,rfl,.slice a m.length c,bA,cA,by rw [hst.o];exact h9,by rw [hst.o];exact kW.o⟩
theorem aia {ln:Xx.Ln}{m:Bs} (hln:ln.lt) (hn:n<=1073741824) (hm:m.length<=1073741824) (hr:RS w0 F rv m) (h:Sat w0 w (jC p ln rv n::F)):Calls prog 246 #[ptr p] w (aN λv w'=>v=.int .u64 (Xx.f3 (Xx.f2 (Xx.f1 (Xx.tail (((if 32<=n then Xx.joined ln else 2870177450012600261)+n)%18446744073709551616) m))):Nat)/\Sat w0 w' (jC p ln rv n::F)):=by
 obtain ⟨ra,rc,rfl,k1,k2⟩:=(hr.more (G:=jC p ln rv n::F) jS).len h;have Hr:=uQ (λ(w:World) (x:Nat) (hx:x<18446744073709551616) (hS:Sat w0 w (jC p ln (.slice ra m.length rc) n::F))=>aoh x hx m hm (hr.more jS) hS);have c0:w.cell? ⟨p,0,none⟩=some (.bool true):=h.cellAt 0 _ rfl;have Hj:=uQ (λ(w:World) (hS:Sat w0 w (jC p ln (.slice ra m.length rc) n::F))=>aiP hln hS);have YI:=uQ (λ(w:World) (hS:Sat w0 w (jC p ln (.slice ra m.length rc) n::F))=>show w.cell? ⟨p,7,none⟩=some (.int .u64 n)/\w.cell? ⟨p,6,none⟩=some (.slice ra m.length rc) from ⟨hS.cellAt 7 _ rfl,hS.cellAt 6 _ rfl⟩);have Hn:=uQ hn;clear hr hm k1 k2 hn;by_cases h32:32<=n
 ·rw [adU h32];generalize Xx.joined ln=J at *
  obtain ⟨x,e1,hx,e2⟩:=acM J n;change (J+n)%18446744073709551616=x at e2;rw [e2];have htl:Xx.tail x m<18446744073709551616:=Xx.acU x m (show x<Xx.W from hx);have uq:=uQ (λ(w:World) (hS:Sat w0 w (jC p ln (.slice ra m.length rc) n::F))=>Hr.o w x hx hS);generalize Xx.tail x m=y at *
  obtain ⟨t1,t2,t3,t4,t5,f1,f2,f3,f4,f5,f6⟩:=X9 htl;have NW:=uQ f6;have o8:=uQ e1;have Hf:=uQ (And.intro f1 (And.intro f2 (And.intro f3 (And.intro f4 f5))));have ci:(32:Int)<=(n:Int):=oQ;clear hx htl f6 e1 e2 f1 f2 f3 f4 f5 Hr h32 hln;go_enter func246,ntmps246;go_wp2_with ((with_reducible refine bC ⟨?_⟩);refine eY h ah aK bG ay au ?_);refine (Hj.o _ h).mono ?_;rintro ee w1 ⟨v,rfl,rfl,h1⟩;clear h c0 Hj;go_wp2_with fail;have hS:=h1.drew;clear h1;refine eF [10,11] (λw'=>w'.cell? ⟨p,7,none⟩=some (.int .u64 n)/\w'.cell? ⟨p,6,none⟩=some (.slice ra m.length rc)) au ?_;have hG:=YI.o _ hS;refine rP 0 ?_ (y:=bD);refine rP 1 ?_ (y:=bD);refine rP 2 ?_ (y:=iG);refine rP 3 ?_ (y:=dh);refine rt 4 (h:=?_);refine rp 5 (hy:=(Dt ay ay (by intro wq;have e1:=o8.o;(go_simp);first|done|exact wQ))) (h:=?_);refine rP 6 ?_ (y:=bD);refine rP 7 ?_ (y:=iG)
  refine rP 8 ?_ (y:=dh);refine rt 9 (h:=?_);clear hG;refine cZ 10 ay au (λK hK=>?_)
  (refine jB au ay ay ?_)
  refine (uq.o _ hS).mono ?_;rintro ee w2 ⟨v,rfl,rfl,h2⟩;refine hK _ _ (.inl rfl) ?_;clear hK hS uq;refine rP 11 ?_ (y:=jU);refine dX au ?_
  try simp only [jI]
  try go_frame
  obtain ⟨f1,f2,f3,f4,f5⟩:=Hf.o;go_wp2;go_ret;exact ⟨_,rfl,by rw [NW.o];rfl,h2⟩
 ·rw [abL h32];obtain ⟨x,e1,hx,e2⟩:=amS n;rw [e2];have htl:Xx.tail x m<18446744073709551616:=Xx.acU x m (show x<Xx.W from hx);have uq:=uQ (λ(w:World) (hS:Sat w0 w (jC p ln (.slice ra m.length rc) n::F))=>Hr.o w x hx hS);generalize Xx.tail x m=y at *
  obtain ⟨t1,t2,t3,t4,t5,f1,f2,f3,f4,f5,f6⟩:=X9 htl;have NW:=uQ f6;have o8:=uQ e1;have Hf:=uQ (And.intro f1 (And.intro f2 (And.intro f3 (And.intro f4 f5))));have ci:¬ (32:Int)<=(n:Int):=oQ;clear hx htl f6 e1 e2 f1 f2 f3 f4 f5 Hr h32 hln Hj;go_enter func246,ntmps246;go_wp2_with ((with_reducible refine bC ⟨?_⟩);refine eY h ah aK bG ay au ?_);have h1:=h;clear h c0;go_wp2_with fail;have hS:=h1.drew;clear h1;refine eF [10,11] (λw'=>w'.cell? ⟨p,7,none⟩=some (.int .u64 n)/\w'.cell? ⟨p,6,none⟩=some (.slice ra m.length rc)) au ?_;have hG:=YI.o _ hS;refine rP 0 ?_ (y:=bD);refine rP 1 ?_ (y:=bD);refine rP 2 ?_ (y:=iG);refine rP 3 ?_ (y:=dh);refine rt 4 (h:=?_);refine rp 5 (hy:=(Dt ay ay (by intro wq;have e1:=o8.o;(go_simp);first|done|exact wQ))) (h:=?_);refine rP 6 ?_ (y:=bD);refine rP 7 ?_ (y:=iG);refine rP 8 ?_ (y:=dh);refine rt 9 (h:=?_);clear hG
  refine cZ 10 ay au (λK hK=>?_)
  (refine jB au ay ay ?_)
  refine (uq.o _ hS).mono ?_;rintro ee w2 ⟨v,rfl,rfl,h2⟩;refine hK _ _ (.inl rfl) ?_;clear hK hS uq;refine rP 11 ?_ (y:=jU);refine dX au ?_
  try simp only [jI]
  try go_frame
  obtain ⟨f1,f2,f3,f4,f5⟩:=Hf.o;go_wp2;go_ret;exact ⟨_,rfl,by rw [NW.o];rfl,h2⟩
theorem U5 (hl0:l≠[]) (hl:l.length<=1073741824) (hr:RS w0 F bv l) (h:Sat w0 w F):Calls prog 208 #[bv,.int .u64 0] w (aN λv w'=>v=.int .u64 (Xx.sum l:Nat)/\Sat w0 w' F):=by
 obtain ⟨ba,bc,rfl,_,_⟩:=hr.len h;have Hr:=uQ hr;have Hl:=uQ hl;have Ji:=uQ hl0;have Hz:=uQ (show Xx.sum l=Xx.f3 (Xx.f2 (Xx.f1 (Xx.tail (((if 32<=l.length then Xx.joined (Xx.kG l.length Xx.Ln.zero l).1 else 2870177450012600261)+l.length)%18446744073709551616) (Xx.kG l.length Xx.Ln.zero l).2))) from rfl);clear hr hl hl0;go_enter func208,ntmps208;go_wp2_with fail;refine (ajQ h).mono ?_;rintro ee w1 ⟨v,rfl,p,rfl,h1⟩;go_wp2_with fail;refine (aib Ji.o Hl.o Hr.o h1).mono ?_;rintro ee w2 ⟨v,rfl,rv,bA,cA,h2,hrs⟩;have hgl:=Xx.Yx l.length Xx.Ln.zero l Xx.adQ;have hlen:(Xx.kG l.length Xx.Ln.zero l).2.length<=1073741824:=adT (Xx.Yw l.length Xx.Ln.zero l) Hl.o;have hs:=aia hgl Hl.o hlen hrs h2;rw [<-Hz.o]at hs;clear hgl hlen hrs h h1 h2 Hz;go_wp2_with fail;refine hs.mono ?_;rintro ee w3 ⟨v,rfl,rfl,h3⟩;clear hs;go_wp2;go_ret;exact ⟨_,rfl,rfl,h3.drop.drop⟩
end
end Go.Proofs.Y
namespace Go.Sl
open Go
section
variable {P:Program}{ops:Array Oper}{Q:Exit->Act->World->Prop}{late:List Nat}{G:World->Prop}{n:Nat}{l:Array Bool}{a:Act}{w:World}{oi oj:Oper}
theorem Io (i j:Nat) (hi:ops.toList[i]?=some oi) (hj:ops.toList[j]?=some oj) (hr:Region.ready .any ops l=[i,j])
  (h1:∀ K:Act->World->Prop,(∀ a' w',keeps late G i w w'->jT P ops Q late G n (l.setIfInBounds i true) a' w'->K a' w') ->
   if Region.wanted oi (yielded ops a.tmps)=true then Oper.wp P oi a w K Q else K (a.put oi.dst undef) w)
  (h2:∀ K:Act->World->Prop,(∀ a' w',keeps late G j w w'->jT P ops Q late G n (l.setIfInBounds j true) a' w'->K a' w') ->
   if Region.wanted oj (yielded ops a.tmps)=true then Oper.wp P oj a w K Q else K (a.put oj.dst undef) w):jT P ops Q late G (n+1) l a w:=by
 rw [ahC]at hi hj;refine ⟨(λh0=>by rw [hr]at h0;cases h0),λk hk=>?_⟩;rw [hr]at hk;have hk2:k=i\/k=j:=by simpa using hk
 rcases hk2 with rfl|rfl
 ·have:=h1 _ (λa' w' h1 h2=>And.intro h1 h2);unfold wpOp;rw [hi];show if Region.wanted oi (yielded ops a.tmps)=true then _ else _
  split
  ·rename_i hw;rw [adU hw]at this;exact .inl this
  ·rename_i hw;rw [abL hw]at this;exact this
 ·have:=h2 _ (λa' w' h1 h2=>And.intro h1 h2);unfold wpOp;rw [hj];show if Region.wanted oj (yielded ops a.tmps)=true then _ else _
  split
  ·rename_i hw;rw [adU hw]at this;exact .inl this
  ·rename_i hw;rw [abL hw]at this;exact this
end
end Go.Sl
namespace Go.Proofs.Y
open Go.ak
section
variable {K:Act->World->Prop}{E:Prop}{t:TypeId}{pos:String}
theorem adG (hs:Sat w0 w (jl v l::F)) (hv:a.eval s=v) (hy:a.eval y=vy) (hx:aW 1 vy (aB m) w) (hm:m≠[]) (hlen:l.length+m.length<=1099511627776) (hK:∀ v' w',Sat w0 w' (jl v' (l++m)::F)->K (a.put dst v') w') :
  Oper.wp prog ⟨dst,.call { callee:= .builtin .append,args:=#[s,y],argTypes:=#[59,59] },59,pos,after,none⟩ a w K Q:=by
 obtain ⟨i,hi,hz0,hz1,hz2⟩:=uO;have h63:(aB l).length+(aB m).length<=maxLen:=by rw [aP,aP];unfold maxLen;omega
 have hby:((aB l).length+(aB m).length)*i.bytes<=140737488355328:=by rw [aP,aP,hz2];omega
 obtain ⟨v',w',hr,hS⟩:=alQ (P:=prog) 59 59 5 i _ underlying59 hi hz0 hz1 ah oQ (vK _) (λe=>hm (by cases m with|nil=>rfl|cons z r=>cases e)) hs hx h63 hby;rw [<-Bo]at hS;unfold Oper.wp execOp;simp only [resolve,invoke,builtin,aed,aep,adW,ahS,aes,ah3,hv,hy,hr];exact hK _ _ hS
theorem XG (hs:Sat w0 w (jl v l::F)) (hv:a.eval s=v) (hy:a.eval y=vy) (hx:aW 1 vy (aB m) w) (hm:m≠[]) (hlen:l.length+m.length<=1099511627776) (hK:∀ v' w',Sat w0 w' (jl v' (l++m)::F)->K (a.put dst v') w') :
  if Region.wanted ⟨dst,.call { callee:= .builtin .append,args:=#[s,y],argTypes:=#[59,59] },59,pos,after,none⟩ (yielded ops a.tmps)=true then
   Oper.wp prog ⟨dst,.call { callee:= .builtin .append,args:=#[s,y],argTypes:=#[59,59] },59,pos,after,none⟩ a w K Q else E:=BD rfl (adG hs hv hy hx hm hlen hK)
theorem UN (hs:Sat w0 w (jl v l::F)) (hv:a.eval s=v) (hy:a.eval y=vy) (hx:aW 1 vy (aB m) w) (hm:m≠[]) (hlen:l.length+m.length<=1099511627776) (hK:∀ v' w',Sat w0 w' (jl v' (l++m)::F)->wpList prog ops Q rest (a.put dst v') w') :
  wpList prog ops Q (⟨dst,.call { callee:= .builtin .append,args:=#[s,y],argTypes:=#[59,59] },59,pos,after,none⟩::rest) a w:=
 ae5 rfl λ_ hK'=>adG hs hv hy hx hm hlen λv' w' h=>hK' _ _ (hK v' w' h)
theorem afc (h:Sat w0 w (jl v l::F)) (e:l=m):Sat w0 w (jl v m::F):=e ▸ h
theorem afd (h:Sat w0 w (jl v l::F)):Sat w0 w (jl v (l++[])::F):=by rw [aei];exact h
theorem afx (h:Stop (wpList P ops Q (⟨dst,.slice ty x none none none,t,pos,after,none⟩::rest) a w)):wpList P ops Q (⟨dst,.slice ty x none none none,t,pos,after,none⟩::rest) a w:=h.o
theorem an3 (hx:a.eval x=v) (hr:∀ w,(Instr.sliceAt ty v none none none).run P w=.ok vy w) (h:wpList P ops Q rest (a.put dst vy) w):wpList P ops Q (⟨dst,.slice ty x none none none,t,pos,after,none⟩::rest) a w:=
 ae5 rfl λ_ hK=>by
  unfold Oper.wp execOp;simp only [hx,ao1,aed,hr,adW,aep];exact hK _ _ h
theorem Wx (h:Stop (wpList P ops Q (⟨dst,.call { callee:= .builtin .append,args:=#[s,y],argTypes:=#[59,59] },t,pos,after,none⟩::rest) a w)):wpList P ops Q (⟨dst,.call { callee:= .builtin .append,args:=#[s,y],argTypes:=#[59,59] },t,pos,after,none⟩::rest) a w:=h.o
theorem XH (sb:ByteArray) (hl:sb.data.toList=l) (hle:l.length<=1073741824) (hs:Sat w0 w F) (hx:a.eval x=.string sb) (hK:∀ v' w',Sat w0 w' (jl v' l::F)->K (a.put dst v') w') :
  if Region.wanted ⟨dst,.convert 9 59 x,t,pos,after,none⟩ (yielded ops a.tmps)=true then Oper.wp prog ⟨dst,.convert 9 59 x,t,pos,after,none⟩ a w K Q else E:=by
 refine BD rfl ?_;have hr:=Lib.run_convert_string_bytes (P:=prog) w 9 59 5 sb underlying9 underlying59 underlying5;unfold Oper.wp execOp;simp only [hx,aed,hr,adW,aep];exact hK _ _ (afp hs 5 sb l hl hle)
theorem RS.Si (h:Sat w0 w (jl v l::F)):RS w0 (jl v l::F) v l:=by
 refine ⟨λw hw=>OM hw,?_⟩;rcases OL h with h|⟨b,n,cap,cs,m,rfl,hl,hn,hc,hcm,htk,hmk,hp⟩
 ·obtain ⟨a,n,c,e,h1,h2,h3⟩:=Bj h;exact ⟨a,n,c,e,h1,h2⟩
 ·exact ⟨_,n,cap,rfl,hn,hcm⟩
end
theorem lF (r:RV) (h:r.x.key.length=32):(bQ r).toArray.size=33:=by rw [abA];exact lV r h
theorem rvG (r:RV) (h:r.x.key.length=32):(bQ r).toArray.getD 32 undef=r.nv:=by
 rw [apo,show (bQ r).toArray[32]?=some r.nv from CX (x:=r.x) (nv:=r.nv) h];rfl
theorem amm {w:World}{r:RV} (h:aW 1 r.nv (ints r.x.nums) w):(bQ r).toArray.toList.all (·.oneCell')=true:=by
 obtain ⟨a,n,c,e,_⟩:=h;unfold bQ;rw [e];rw [ad7,ajk,uH];rfl
def xA:RV:=⟨⟨aj.zero32,[]⟩,.slice none 0 0⟩
theorem Aj:kD prog 276=some (.agg (bQ xA).toArray):=by kernel_rfl
theorem Ky {w:World}{sv:Value}{l:List Int}{i:Nat}{s:Int} (h:aW 1 sv (ints l) w) (hs:l[i]?=some s):∃ bk off c,sv=.slice (some ⟨bk,off,none⟩) l.length c/\w.cell? ⟨bk,off+i,none⟩=some (.int .i64 s):=by
 obtain ⟨bk,off,cc,hsv,hcell⟩:=iL (f:=λi:Int=>[Value.int .i64 i]) (k:=1) (l:=l) (λu _=>rfl) yI0 hs aG;have f0:=hcell 0 _ rfl;rw [aeo,aml]at f0;exact ⟨bk,off,cc,hsv,f0⟩
theorem aiH {w:World}{sv:Value}{l:List Int} (h:aW 1 sv (ints l) w):∃ a c,sv=.slice a l.length c:=
 iP (f:=λi:Int=>[Value.int .i64 i]) (k:=1) (l:=l) (λu _=>rfl) yI0 aG
theorem WT (eX:ByteArray) (mg:Bs) (hmb:eX.data.toList=mg) (rM:mg.length=8) (kd:Bool) (k:Nat) (hk:k<=3) (rs:List RV) (hok:aO.Ok k kd (rs.map (·.x))) (hr:Ro w0 F (aW 33 lv (rs.flatMap bQ))) (he:∀ r∈rs,uD w0 F r) (h:Sat w0 w F) :
  Calls prog 163 #[.agg (nI eX kd k),lv] w (aN λv w'=>∃ bv,v=.tuple #[bv,errno 0]/\Sat w0 w' (jl bv (aO.book Xx.sum mg kd (rs.map (·.x)))::F)):=by
 obtain ⟨la,lc,rfl⟩:=iP (λr hr=>lV r (he r hr).key) (hr w h) aG;have hn:rs.length<=65536:=by have:=hok.len;rwa [abl]at this
 have Hr:=uQ hr;have He:=uQ he;have Hn:=uQ hn;have bI:=uQ hok;have DF:=uQ hmb;have qE:=uQ rM;have c1:¬ (65536:Int)<(rs.length:Int):=oQ;have c2:IntKind.u64.wrap (rs.length:Int)=(rs.length:Int):=by rw [alK];omega
 clear hr he hn hok hmb rM;go_enter func163,ntmps163;go_wp2_with (with_reducible apply fC);refine ⟨fB h ay ay ?_⟩;intro b2 w2 hS0;replace hS0:Sat w0 w2 (pt b2 (.cells (nI eX kd k) 270 (0,0))::F):=hS0;clear h;go_wp2_with fail;have hS1:=hS0.drew;clear hS0;have hG0:=hS1.cellAt 0 (.string eX) rfl;refine eF [2,7,8] (λw'=>w'.cell? ⟨b2,0,none⟩=some (.string eX)) au ?_;have hG:=hG0;refine rP 0 ?_ (y:=dh);refine rt 1 (h:=?_);clear hG;refine rP 3 ?_ (y:=bD);refine rP 4 ?_ (y:=(xw ay bY));refine rP 5 ?_ (y:=(U6 ay bY));refine Io 2 6 ay ay au (λK hK=>?_) (λK hK=>?_)
 focus
  refine XH eX DF.o (by rw [qE.o];decide) hS1 ay ?_;intro v16 w3 h3;refine hK _ _ (.inl rfl) ?_;clear hK hS1 hG0;refine cZ 6 ay au (λK hK=>?_)
  (refine jB au ay ay ?_)
  refine (Ew rs.length yP0 h3).mono ?_;rintro ee w4 ⟨v,rfl,h4,_⟩;refine hK _ _ (.inr (.inl ((h4.drop.drop).cellAt 0 (.string eX) rfl))) ?_;clear hK h3;refine cZ 7 ay au (λK hK=>?_);refine XG (h4.sb:Sat w0 _ (jl v16 mg::aY v (aj.le rs.length 4)::pt b2 (.cells (nI eX kd k) 270 (0,0))::F)) ay ay (Sat.rd h4) (λe=>by cases e) (by rw [qE.o,aj.iE];decide) ?_;intro v6 w5 h5;refine hK _ _ (.inl rfl) ?_;clear hK h4;refine rP 8 ?_ (y:=jU);refine dX au ?_
  try simp only [jI]
  try go_frame
  have hB:Sat w0 w5 (jl v6 (mg++aj.le rs.length 4)::pt b2 (.cells (nI eX kd k) 270 (0,0))::F):=h5.sb;clear h5
 rotate_left
 focus
  (refine jB au ay ay ?_)
  refine (Ew rs.length yP0 hS1).mono ?_;rintro ee w4 ⟨v,rfl,h4,_⟩;refine hK _ _ (.inr (.inl ((h4.drop).cellAt 0 (.string eX) rfl))) ?_;clear hK hS1 hG0;refine cZ 2 ay au (λK hK=>?_);refine XH eX DF.o (by rw [qE.o];decide) h4 ay ?_;intro v16 w3 h3;refine hK _ _ (.inl rfl) ?_;clear hK h4;refine cZ 7 ay au (λK hK=>?_);refine XG (h3.sb:Sat w0 _ (jl v16 mg::aY v (aj.le rs.length 4)::pt b2 (.cells (nI eX kd k) 270 (0,0))::F)) ay ay (Sat.rd h3.drop) (λe=>by cases e) (by rw [qE.o,aj.iE];decide) ?_;intro v6 w5 h5;refine hK _ _ (.inl rfl) ?_;clear hK h3;refine rP 8 ?_ (y:=jU);refine dX au ?_
  try simp only [jI]
  try go_frame
  have hB:Sat w0 w5 (jl v6 (mg++aj.le rs.length 4)::pt b2 (.cells (nI eX kd k) 270 (0,0))::F):=h5.sb;clear h5
 all_goals
  as_aux_lemma=>
   have hX0:=uQ hB;go_wp2_with fail
   go_loopg [6,24] rs.length (λg bq iq wr=>∃ (i:Nat) (bv:Value),g=rs.length-i/\i<=rs.length/\bv=bq/\iq=.int .i64 i/\Sat w0 wr (jl bv (mg++aj.le rs.length 4++aO.jL kd ((rs.map (·.x)).take i))::pt b2 (.cells (nI eX kd k) 270 (0,0))::F))
   case atStart=>exact ⟨0,_,rfl,ad4 _,rfl,rfl,by rw [afC,aO.Tt,aei];exact hB⟩
   case round=>
    obtain ⟨i,bv,rfl,hi,rfl,rfl,hS⟩:=hrel;clear hB hX0;by_cases hlt:i<rs.length
    ·as_aux_lemma=>
     have c3:(i:Int)<(rs.length:Int):=oQ;have hwi:IntKind.i64.wrap ((i:Int)+1)=(i:Int)+1:=acO _ yP0;obtain ⟨r,hx⟩:∃ q,rs[i]?=some q:=⟨_,aaJ hlt⟩;have H1:=uQ (He.o r (acr hx));have lK:=uQ (bI.o.row r.x (apa (acr hx)));have htk:=aO.alD (kd:=kd) (show (rs.map (·.x))[i]?=some r.x by rw [ad1,hx];rfl);have YQ:(mg++aj.le rs.length 4++aO.jL kd ((rs.map (·.x)).take i)).length<=3000000:=by
      rw [aa7,aa7,qE.o,aj.iE,aO.Tq _ (λq hq=>bI.o.row q (ae2 hq)),adt,abl];have h1:=Hn.o;have h2:min i rs.length*aO.kM kd k<=65536*44:=apu oQ (aO.LP hk);omega
     obtain ⟨bk,off,c',hsv,hcell⟩:=iL (f:=bQ) (k:=33) (λr hr=>lV r (He.o r hr).key) (Hr.o _ hS.drop.drop) hx aG;cases hsv;have Zp:mg++aj.le rs.length 4++aO.jL kd ((rs.map (·.x)).take (i+1))=(mg++aj.le rs.length 4++aO.jL kd ((rs.map (·.x)).take i))++(if kd then r.x.key else [])++aO.jk r.x.nums:=by
      rw [htk];unfold aO.rowB;simp only [ad2]
     generalize mg++aj.le rs.length 4++aO.jL kd ((rs.map (·.x)).take i)=X at *
     have Jq:=uQ Zp;have HX:=uQ YQ;have aS:=uQ hlt;clear hx htk Zp YQ hlt hi
     go_wp2_with (first
      |((with_reducible refine bC ⟨?_⟩);refine iD (b:=bk) (o:=off+i*33) (bQ r) ah hcell underlying276 rfl zA0 ?_)
      |(with_reducible apply eG))
     refine ⟨eU Aj hS rfl ?_⟩;intro b8 w8 h8;clear hS hcell;go_wp2_with (with_reducible apply bW);refine ⟨fG (bQ r).toArray h8 ah ah (by rw [lF _ H1.o.key];rfl) bU zB0 (amm (H1.o.rd _ h8.drop.drop.drop)) ?_⟩;intro w9 h9;clear h8;have hgd:(bQ r).toArray.getD 32 undef=r.nv:=rvG _ H1.o.key;obtain ⟨kb,hkb⟩:∃ kb,Hid (kd=kb):=⟨_,uQ rfl⟩;cases kd
     focus
      have hQ:=afd (h9.pick aT);have dP:=uQ (show mg++aj.le rs.length 4++aO.jL false ((rs.map (·.x)).take (i+1))=X++[]++aO.jk r.x.nums from Jq.o);have HY:=uQ (show (X++([]:Bs)).length<=3000100 by rw [aei];have:=HX.o;omega);generalize X++([]:Bs)=Y at *
      clear h9 Jq HX
     rotate_left
     focus
      have hrd:aW 1 (.slice (some ⟨b8,0,none⟩) 32 32) (aB r.x.key) w9:=⟨_,_,_,rfl,by rw [aP,H1.o.key],λj z hj=>⟨_,rfl,by rw [Bd,aeE];exact h9.cellP aK j (L6 hj)⟩⟩;have dP:=uQ (show mg++aj.le rs.length 4++aO.jL true ((rs.map (·.x)).take (i+1))=X++r.x.key++aO.jk r.x.nums from Jq.o);have HY:=uQ (show (X++r.x.key).length<=3000100 by rw [aa7,H1.o.key];have:=HX.o;omega);have hsl:∀ w,(Instr.sliceAt 34 (.pointer (some ⟨b8,0,none⟩)) none none none).run prog w=.ok (.slice (some ⟨b8,0,none⟩) 32 32) w:=λw=>by kernel_rfl
      go_wp2_with (first
       |((with_reducible refine bC ⟨?_⟩);refine eY h9 ah (aU aT) bG ay au ?_)
       |(with_reducible apply afx))
      refine ⟨an3 ah hsl ?_⟩;refine UN (m:=r.x.key) (h9.pick aT) ah ah hrd (λe=>by have:=H1.o.key;rw [e]at this;cases this) (by rw [H1.o.key];have:=HX.o;omega) ?_;intro v33 w10 hQ;generalize X++r.x.key=Y at *
      clear h9 Jq HX hrd
     all_goals
      obtain ⟨na,nc,wJ⟩:=aiH (H1.o.rd _ (hQ.drop.drop.drop));rw [wJ]at hgd;have Hnv:=uQ wJ;go_wp2_with ((with_reducible refine bC ⟨?_⟩);first|refine eY (o:=32) hQ ah aT (by rw [lF _ H1.o.key];decide) hgd au ?_|refine eY hQ ah (aU aT) bG ay au ?_);clear hgd;rw [hkb.o]at hQ
      go_loopg [6,37] r.x.nums.length (λg bq jq wr=>∃ (j:Nat) (cv:Value),g=r.x.nums.length-j/\j<=r.x.nums.length/\cv=bq/\jq=.int .i64 j/\Sat w0 wr (jl cv (Y++aO.jk (r.x.nums.take j))::pt b8 (.cells (bQ r).toArray 276 (0,0))::pt b2 (.cells (nI eX kb k) 270 (0,0))::F))
      case atStart=>exact ⟨0,_,rfl,ad4 _,rfl,rfl,by rw [afC,aO.aaW,aei];exact hQ⟩
      case round=>
       obtain ⟨j,cv,rfl,hj,rfl,rfl,hSj⟩:=hrel;clear hQ;by_cases hjl:j<r.x.nums.length
       ·obtain ⟨n,hn⟩:∃ n,r.x.nums[j]?=some n:=⟨_,aaJ hjl⟩;have hnb:=lK.o.num n (acr hn);obtain ⟨bk2,of2,cc2,e2,hcj⟩:=Ky (H1.o.rd _ (hSj.drop.drop.drop)) hn;rw [Hnv.o]at e2;cases e2;have DJ:=uQ (aO.aj2 hn);obtain ⟨x,rfl⟩:∃ x:Nat,n=(x:Int):=⟨n.toNat,by omega⟩;have d1:decide ((x:Int)<0)=false:=by rw [aeJ];omega
        have d2:decide ((4294967295:Int)<(x:Int))=false:=by rw [aeJ];omega
        have d3:¬ (x:Int)<0:=oQ;have d4:¬ (4294967295:Int)<(x:Int):=oQ;have d5:IntKind.u64.wrap (x:Int)=(x:Int):=by rw [alK];omega
        have c4:(j:Int)<(r.x.nums.length:Int):=oQ;have Kq:IntKind.i64.wrap ((j:Int)+1)=(j:Int)+1:=acO _ (by have:=lK.o.len;omega);have VL:=uQ (λ(w':World) (R:List aF) (hw:Sat w0 w' R)=>Ew x oQ hw);have hyl:(Y++aO.jk (r.x.nums.take j)).length<=4000000:=by rw [aa7,aO.aaV,adt];have:=lK.o.len;have:=HY.o;omega
        have og:=uQ hyl;have uj:=uQ hjl;clear hn hnb hjl hj hyl;go_wp2_with fail;refine (VL.o _ _ hSj).mono ?_;rintro ee w5 ⟨v,rfl,h5,_⟩;clear VL hcj hSj;go_wp2_with (with_reducible apply Wx);refine ⟨UN (m:=aj.le x 4) (h5.pick aT) ah ah (Sat.rd h5) (λe=>by cases e) (by rw [aj.iE];have:=og.o;omega) ?_⟩;intro v6 w6 h6;go_wp2_with fail
        go_roundg (r.x.nums.length-(j+1))
        case measure=>have:=uj.o;omega
        case rel=>exact ⟨j+1,_,rfl,ad8 uj.o,rfl,by first|rfl|go_num,by rw [DJ.o,<-ad2];exact h6.sb⟩
       ·have c4:¬ (j:Int)<(r.x.nums.length:Int):=by omega
        obtain rfl:j=r.x.nums.length:=by omega
        rw [aeH]at hSj;clear hj hjl;go_wp2_with fail
        go_roundg (rs.length-(i+1))
        case measure=>have:=aS.o;omega
        case rel=>exact ⟨i+1,_,rfl,ad8 aS.o,rfl,by first|rfl|go_num,by rw [dP.o];rw [<-hkb.o]at hSj;exact hSj.sb⟩
    ·as_aux_lemma=>
     have c3:¬ (i:Int)<(rs.length:Int):=oQ;obtain rfl:i=rs.length:=by omega
     have eb:mg++aj.le rs.length 4++aO.jL kd ((rs.map (·.x)).take rs.length)=aO.body mg kd (rs.map (·.x)):=by
      unfold aO.body;rw [adZ (by rw [abl];exact ab1 _),abl]
     have hSb:=afc hS eb;have uh:=uQ (aO.afS (mg:=mg) qE.o hk bI.o)
     have xK:=uQ (show aO.body mg kd (rs.map (·.x))≠[] from λe=>by
      have:=aO.DY (mg:=mg) (kd:=kd) qE.o bI.o.row;rw [e]at this;simp only [ae0]at this;omega)
     have rO:=Td eX kd k rs yP0 (Ro.os Hr.o) (λr hr=>(He.o r hr).sub jS) hSb;clear hS hi hlt eb;go_wp2_with ((with_reducible refine bC ⟨?_⟩);refine iC hSb ah aT underlying270 rfl au ?_);refine rO.mono ?_;rintro ee w5 ⟨v,rfl,t,rfl,ht,h5⟩;obtain rfl:t=true:=ht.2 bI.o.rise;clear rO hSb ht;go_wp2_with fail;have hxs:=U5 xK.o (by have:=uh.o;omega) (RS.Si h5) h5;obtain ⟨S,HS⟩:∃ S,Hid (Xx.sum (aO.body mg kd (rs.map (·.x)))=S):=⟨_,uQ rfl⟩;have Fj:=uQ (show S<Xx.W by rw [<-HS.o];exact Xx.sum_lt _);rw [HS.o]at hxs;refine hxs.mono ?_;rintro ee w6 ⟨v,rfl,rfl,h6⟩;clear h5 hxs;go_wp2_with fail;refine (akG S Fj.o h6).mono ?_;rintro ee w7 ⟨v,rfl,h7,_⟩;clear h6;go_wp2_with (with_reducible apply Wx)
     refine ⟨UN (m:=aj.le S 8) (h7.pick aT) ah ah (Sat.rd h7) (λe=>by have k:=aeO List.length e;rw [aj.iE]at k;cases k) (by rw [aj.iE];have:=uh.o;omega) ?_⟩;intro v8 w8 h8;have h9:Sat w0 w8 (jl v8 (aO.book Xx.sum mg kd (rs.map (·.x)))::F):=by unfold aO.book;rw [HS.o];exact h8.sb
     clear h7 h8;go_wp2_with fail
     go_ret2
     exact ⟨_,rfl,v8,rfl,h9⟩
section
variable {w':World}{t:TypeId}{pos:String}{xs:Array (Nat×Operand)}
theorem afr (h:Stop (wpList P ops Q (⟨dst,.buildSlice ty n xs,t,pos,after,none⟩::rest) a w)):wpList P ops Q (⟨dst,.buildSlice ty n xs,t,pos,after,none⟩::rest) a w:=h.o
theorem anX (parts':Array (Nat×Value)) (he:xs.map (λp=>(p.1,a.eval p.2))=parts') (hr:(Instr.buildSlice ty n parts').run P w=.ok v w') (h:wpList P ops Q rest (a.put dst v) w'):wpList P ops Q (⟨dst,.buildSlice ty n xs,t,pos,after,none⟩::rest) a w:=
 ae5 rfl λ_ hK=>by
  unfold Oper.wp execOp;simp only [he,aed,hr,adW,aep];exact hK _ _ h
end
theorem anH (a b c:Int) (h:Sat w0 w F):Calls prog 169 #[.agg #[.int .i64 a,.int .i64 b,.int .i64 c]] w
  (aN λv w'=>∃ q,v=.agg (bQ ⟨⟨aj.zero32,[a,b,c]⟩,.slice (some ⟨q,0,none⟩) 3 3⟩).toArray/\Sat w0 w' (pt q (.cells #[.int .i64 a,.int .i64 b,.int .i64 c] 3 (0,0))::F)):=by
 have hbs:∀ w,(Instr.buildSlice 46 3 #[(0,.int .i64 a),(1,.int .i64 b),(2,.int .i64 c)]).run prog w=.ok (.slice (some ⟨w.heap.size,0,none⟩) 3 3) (w.alloc (.cells #[.int .i64 a,.int .i64 b,.int .i64 c] 3)):=λw=>by kernel_rfl
 have hrow:∀ w q,(Instr.build 276 #[(1,.slice (some ⟨q,0,none⟩) 3 3)]).run prog w=.ok (.agg (bQ ⟨⟨aj.zero32,[a,b,c]⟩,.slice (some ⟨q,0,none⟩) 3 3⟩).toArray) w:=λw q=>by kernel_rfl
 go_enter func169,ntmps169;go_wp2_with (with_reducible apply fC);refine ⟨fB h ah ah ?_⟩;intro b1 w1 h1;go_wp2_with (with_reducible apply eG);refine ⟨eU Aj h1 rfl ?_⟩;intro b2 w2 h2;have hS:=h2.alloc (.cells #[.int .i64 a,.int .i64 b,.int .i64 c] 3);generalize hq:w2.heap.size=q at *
 have hq2:=hq
 go_wp2_with (first
  |((with_reducible refine bC ⟨?_⟩);refine eY h2 ah aT bG ay au ?_)
  |((with_reducible refine bW ⟨?_⟩);refine fG (bQ ⟨⟨aj.zero32,[a,b,c]⟩,.slice (some ⟨q,0,none⟩) 3 3⟩).toArray hS ah ah ah Us au ah ?_;intro w9 h9))
 refine ⟨rfl,_,wY rfl h9 ah bK underlying276 rfl au,?_⟩;exact ⟨_,rfl,q,rfl,h9.sb⟩
theorem akp:tH prog 276=some [(0,32),(32,1)]:=by kernel_rfl
theorem amb (k:aj.Bs) (hk:k.length=32) (x:aO.Rw) (hx:x.key=k) (nv:Value) (q:Nat) (wJ:nv=.slice (some ⟨q,0,none⟩) 3 3) (w:World):(Instr.build 276 #[(0,.agg (aB k).toArray),(1,nv)]).run prog w=.ok (.agg (bQ ⟨x,nv⟩).toArray) w:=by
 subst wJ;subst hx
 have h:=apA (P:=prog) [(0,.agg (aB x.key).toArray),(1,.slice (some ⟨q,0,none⟩) 3 3)] akp Aj (by
  intro p hp;have hzz:(Value.agg (bQ xA).toArray).cells.size=33:=by rfl
  rw [hzz];rcases ad9.1 hp with rfl|hp
  ·refine ⟨0,?_,?_⟩
   ·show some (0,32)=some (0,(aB x.key).toArray.size);rw [abA,aP,hk]
   ·show 0+(aB x.key).toArray.size<=33;rw [abA,aP,hk];decide
  ·rw [aeG.1 hp];exact ⟨32,rfl,by show 32+1<=33;omega⟩) w
 refine h.trans ?_;have hz:aj.zero32.length=32:=rfl;have hzl:(bQ xA).length=33:=lV _ hz;have e:eH (eH (bQ xA).toArray 0 (aB x.key)) 32 [.slice (some ⟨q,0,none⟩) 3 3]=(bQ ⟨x,.slice (some ⟨q,0,none⟩) 3 3⟩).toArray:=by
  apply rY;rw [yF _ _ _ (by rw [lC,abA,hzl];exact ab1 33),yF _ _ _ (by rw [abA,hzl,aP,hk];decide),ad7];have e1:kY (bQ xA) 0 (aB x.key)=aB x.key++[.slice none 0 0]:=by
   unfold bQ xA;rw [Ey _ _ _ _ (by rw [aP,aP,hk,hz];decide),zT (by rw [aP,aP,hk,hz])]
  have h0:=zU (aB x.key) [.slice none 0 0] [.slice (some ⟨q,0,none⟩) 3 3] 0;rw [aP,hk,zT (xs:=[Value.slice none 0 0]) (vs:=[Value.slice (some ⟨q,0,none⟩) 3 3]) ah]at h0;rw [e1];exact h0
 exact aeO (λx=>Result.ok (Value.agg x) w) e
theorem air (k:aj.Bs) (hk:k.length=32) (a b c:Int) (h:Sat w0 w F):Calls prog 165 #[.agg (aB k++[Value.int .i64 a,Value.int .i64 b,Value.int .i64 c]).toArray] w
  (aN λv w'=>∃ q,v=.agg (bQ ⟨⟨k,[a,b,c]⟩,.slice (some ⟨q,0,none⟩) 3 3⟩).toArray/\Sat w0 w' (pt q (.cells #[.int .i64 a,.int .i64 b,.int .i64 c] 3 (0,0))::F)):=by
 have hbs:∀ w,(Instr.buildSlice 46 3 #[(0,.int .i64 a),(1,.int .i64 b),(2,.int .i64 c)]).run prog w=.ok (.slice (some ⟨w.heap.size,0,none⟩) 3 3) (w.alloc (.cells #[.int .i64 a,.int .i64 b,.int .i64 c] 3)):=λw=>by kernel_rfl
 have hrow:∀ w q,(Instr.build 276 #[(0,.agg (aB k).toArray),(1,.slice (some ⟨q,0,none⟩) 3 3)]).run prog w=.ok (.agg (bQ ⟨⟨k,[a,b,c]⟩,.slice (some ⟨q,0,none⟩) 3 3⟩).toArray) w:=λw q=>amb k hk ⟨k,[a,b,c]⟩ rfl _ q rfl w;have hsz:(aB k++[Value.int .i64 a,Value.int .i64 b,Value.int .i64 c]).toArray.size=35:=by rw [abA,aa7,aP,hk];rfl
 have hat:∀ j v,([Value.int .i64 a,Value.int .i64 b,Value.int .i64 c]:List Value)[j]?=some v->(aB k++[Value.int .i64 a,Value.int .i64 b,Value.int .i64 c]).toArray.getD (32+j) undef=v:=λj v hj=>by
  rw [apo,aeh,aew (by rw [aP,hk];omega),aP,hk,apI,hj];rfl
 have hki:(prog.info? 34).map (·.size)=some (aB k).length:=by rw [aP,hk];kernel_rfl
 go_enter func165,ntmps165;go_wp2_with (with_reducible apply fC);refine ⟨fB h ah ah ?_⟩;intro b1 w1 h1;go_wp2_with (with_reducible apply eG);refine ⟨eU Aj h1 rfl ?_⟩;intro b2 w2 h2;replace h2:Sat w0 w2 (pt b2 (.cells (bQ xA).toArray 276 (0,0))::pt b1 (.cells (aB k++[Value.int .i64 a,Value.int .i64 b,Value.int .i64 c]).toArray 248 (0,0))::F):=h2;have hS:=h2.alloc (.cells #[.int .i64 a,.int .i64 b,.int .i64 c] 3);have hrs:∀ q,(bQ ⟨⟨k,[a,b,c]⟩,.slice (some ⟨q,0,none⟩) 3 3⟩).toArray.size=33:=λq=>lF _ hk
 go_wp2_with (first
  |((with_reducible refine bC ⟨?_⟩);first
   |refine EW (o:=0) (aB k) h2 ah aT (λj v hj=>by rw [aeE,aeh,aek (acZ.1 hj).1];exact hj) underlying34 rfl hki ?_
   |refine eY (o:=32) h2 ah aT (by show 33<=(aB k++_).toArray.size;rw [hsz];decide) (hat 0 _ rfl) au ?_
   |refine eY (o:=33) h2 ah aT (by show 34<=(aB k++_).toArray.size;rw [hsz];decide) (hat 1 _ rfl) au ?_
   |refine eY (o:=34) h2 ah aT (by show 35<=(aB k++_).toArray.size;rw [hsz];decide) (hat 2 _ rfl) au ?_)
  |(with_reducible apply afr))
 refine ⟨anX #[(0,.int .i64 a),(1,.int .i64 b),(2,.int .i64 c)] (by simp only [ahS,aes,ah3];rfl) (hbs _) ?_⟩;generalize hq:w2.heap.size=q at *
 go_wp2_with (with_reducible apply afs);refine ⟨anY #[(0,.agg (aB k).toArray),(1,.slice (some ⟨q,0,none⟩) 3 3)] (by simp only [ahS,aes,ah3];rfl) (λw=>hrow w q) ?_⟩;go_wp2_with (with_reducible apply bW);refine ⟨fG (bQ ⟨⟨k,[a,b,c]⟩,.slice (some ⟨q,0,none⟩) 3 3⟩).toArray hS ah ah (by rw [hrs q];rfl) Us (by rw [hrs q];kernel_rfl) (by unfold bQ;rw [ad7,ajk,uH];rfl) ?_⟩;intro w9 h9;go_wp2_with fail;refine ⟨rfl,_,wY rfl h9 ah bK underlying276 rfl (by rw [hrs q];kernel_rfl),?_⟩;exact ⟨_,rfl,_,rfl,h9.sb⟩
end Go.Proofs.Y
namespace Go.Rep
def jr (u:Use):aO.Rw:=⟨aj.zero32,[u.seg,u.size,u.live]⟩
def jm (p:aj.Bs×Seg.aZ):aO.Rw:=⟨p.1,[p.2.seg,p.2.at_,p.2.size]⟩
end Go.Rep
namespace Go.Proofs.Y
open Go.ak
def iZ (rs:List RV):aF:=stars (rs.map λr=>aC 3 1 r.nv (ints r.x.nums))
section
variable {rs:List RV}{r:RV}
theorem aj3 (rs:List RV) (r:RV):iZ (rs++[r])=star (aC 3 1 r.nv (ints r.x.nums)) (iZ rs):=by
 unfold iZ;rw [aef,qx,aes,ah3,EK,EJ]
theorem KZ (h:Sat w0 w (aC 3 1 r.nv (ints r.x.nums)::iZ rs::F)):Sat w0 w (iZ (rs++[r])::F):=by
 rw [aj3];exact Sat.star.2 h
theorem Es (hr:r∈rs) (hk:r.x.key.length=32) (hn:0<r.x.nums.length):uD w0 (iZ rs::F) r:=by
 refine ⟨hk,λw hw=>?_,hn⟩;obtain ⟨G,hG⟩:=Iz (rs.map λr=>aC 3 1 r.nv (ints r.x.nums)) _ (apa hr);have h1:Sat w0 w (star (aC 3 1 r.nv (ints r.x.nums)) G::F):=by rw [<-hG];exact hw
 exact Sat.rd (Sat.star.1 h1)
theorem aaT {q:Nat}{a b c:Int} (h:Sat w0 w (pt q (.cells #[.int .i64 a,.int .i64 b,.int .i64 c] 3 (0,0))::F)):Sat w0 w (aC 3 1 (.slice (some ⟨q,0,none⟩) 3 3) (ints [a,b,c])::F):=
 Sat.kU h rfl (ab1 _) (ab1 _) aG rfl
theorem EH {k:aj.Bs}{ns:List Int}{a:Option Addr}{n c:Nat}:(bQ ⟨⟨k,ns⟩,.slice a n c⟩).toArray.toList.all (·.oneCell')=true:=by
 rw [ad7];unfold bQ;rw [ajk,uH];rfl
theorem akz (us:List Rep.Use) (hl:us.length<=65536) (hr:Ro w0 F (aW 3 lv (us.flatMap bJ))) (h:Sat w0 w F) :
  Calls prog 168 #[lv,.func (.func 169) #[] #[]] w (aN λv w'=>∃ rs:List RV,rs.map (·.x)=us.map Rep.jr/\Sat w0 w' (aC 276 33 v (rs.flatMap bQ)::iZ rs::F)):=by
 obtain ⟨la,lc,rfl⟩:=iP (λu _=>tN u) (hr w h) aG;have Hr:=uQ hr;have Hl:=uQ hl;clear hr hl;go_enter func168,ntmps168;go_wp2_with fail
 go_loopg [5,10] us.length (λg ov iq wr=>∃ (i:Nat) (rs:List RV) (o2:Value),g=us.length-i/\i<=us.length/\o2=ov/\iq=.int .i64 i/\(rs.map (·.x)=(us.take i).map Rep.jr/\∀ r∈rs,r.x.key.length=32)/\Sat w0 wr (aC 276 33 o2 (rs.flatMap bQ)::iZ rs::F))
 case atStart=>exact ⟨0,[],_,rfl,ad4 _,rfl,rfl,⟨rfl,λr hr=>by cases hr⟩,Sat.dO.2 (Sat.emp.2 h)⟩
 case round=>
  obtain ⟨i,rs,ov,rfl,hi,rfl,rfl,hrs,hS⟩:=hrel;clear h;by_cases hlt:i<us.length
  ·as_aux_lemma=>
    have c3:(i:Int)<(us.length:Int):=oQ;have hwi:IntKind.i64.wrap ((i:Int)+1)=(i:Int)+1:=acO _ (by have:=Hl.o;omega);obtain ⟨u,hx⟩:∃ u,us[i]?=some u:=⟨_,aaJ hlt⟩;obtain ⟨bk,off,c',hsv,hcell⟩:=iL (f:=bJ) (k:=3) (λu _=>tN u) (Hr.o _ hS.drop.drop) hx aG;cases hsv;have aS:=uQ hlt;have vG:=uQ hrs;have dP:=uQ (show us.take (i+1)=us.take i++[u] from aO.lX hx)
    have lq:=uQ (show (rs.flatMap bQ).length<=2147483648 from by
     rw [iK λr hr=>lV r (hrs.2 r hr)];have:=aeO List.length hrs.1;rw [abl,abl,adt]at this;have:=Hl.o;omega)
    clear hx hlt hi hrs
    go_wp2_with (first
     |((with_reducible refine bC ⟨?_⟩);refine iD (b:=bk) (o:=off+i*3) (bJ u) ah hcell underlying205 rfl au ?_)
     |(with_reducible apply eG))
    refine ⟨eU I7 hS rfl ?_⟩;intro b8 w8 h8;clear hS hcell;go_wp2_with (with_reducible apply bW);refine ⟨fG (bJ u).toArray h8 ah ah ah bU au ah ?_⟩;intro w9 h9;clear h8;go_wp2_with ((with_reducible refine bC ⟨?_⟩);refine iC h9 ah aK underlying205 rfl au ?_);refine (anH u.seg u.size u.live h9).mono ?_;rintro ee w10 ⟨v,rfl,q,rfl,h10⟩;clear h9;have h11:=aaT h10;clear h10
    go_wp2_with (first
     |((with_reducible refine jh ⟨?_⟩);refine jg (e:=276) (sz:=33) (dF:=56) (cs:=(bQ ⟨Rep.jr u,.slice (some ⟨q,0,none⟩) 3 3⟩).toArray) au h11 ah rfl (lF ⟨Rep.jr u,.slice (some ⟨q,0,none⟩) 3 3⟩ rfl) bG ?_;intro bN wN hN)
     |(with_reducible apply fZ))
    refine ⟨jF (cs:=(bQ ⟨Rep.jr u,.slice (some ⟨q,0,none⟩) 3 3⟩).toArray) 276 33 56 au hN ah ah (aU (aU (aU aK))) aK (lF ⟨Rep.jr u,.slice (some ⟨q,0,none⟩) 3 3⟩ rfl) bG EH lq.o (by rw [lF ⟨Rep.jr u,.slice (some ⟨q,0,none⟩) 3 3⟩ rfl];decide) bG rfl ?_⟩;intro b' n' c2 kC fP;go_wp2_with fail
    go_roundg (us.length-(i+1))
    case measure=>have:=aS.o;omega
    case rel=>
     refine ⟨i+1,rs++[⟨Rep.jr u,.slice (some ⟨q,0,none⟩) 3 3⟩],_,rfl,ad8 aS.o,rfl,by first|rfl|go_num,⟨?_,?_⟩,?_⟩
     ·rw [aef,dP.o,aef,vG.o.1];rfl
     ·intro r hr;rcases aeQ.1 hr with hr|hr
      ·exact vG.o.2 r hr
      ·rw [aeG.1 hr];exact rfl
     ·rw [aeB,aen,aiq,aei];have h15:Sat w0 kC (aC 3 1 (.slice (some ⟨q,0,none⟩) 3 3) (ints (Rep.jr u).nums)::iZ rs::aC 276 33 (.slice (some ⟨b',0,none⟩) n' c2) (rs.flatMap bQ++bQ ⟨Rep.jr u,.slice (some ⟨q,0,none⟩) 3 3⟩)::F):=fP.sb;exact (KZ (r:=⟨Rep.jr u,.slice (some ⟨q,0,none⟩) 3 3⟩) h15).sb
  ·have c3:¬ (i:Int)<(us.length:Int):=by omega
   have hi2:i=us.length:=oQ;subst hi2;rw [aeH]at hrs;clear hi hlt;go_wp2_with fail;go_ret;exact ⟨_,rfl,rs,hrs.1,hS⟩
theorem aky (us:List (aj.Bs×Seg.aZ)) (hl:us.length<=65536) (hk:∀ q∈us,q.1.length=32) (hr:Ro w0 F (aW 35 lv (us.flatMap fO))) (h:Sat w0 w F) :
  Calls prog 164 #[lv,.func (.func 165) #[] #[]] w (aN λv w'=>∃ rs:List RV,rs.map (·.x)=us.map Rep.jm/\Sat w0 w' (aC 276 33 v (rs.flatMap bQ)::iZ rs::F)):=by
 have Hk:=uQ hk;clear hk;obtain ⟨la,lc,rfl⟩:=iP (λu hu=>lT u (Hk.o u hu)) (hr w h) aG;have Hr:=uQ hr;have Hl:=uQ hl;clear hr hl;go_enter func164,ntmps164;go_wp2_with fail
 go_loopg [5,10] us.length (λg ov iq wr=>∃ (i:Nat) (rs:List RV) (o2:Value),g=us.length-i/\i<=us.length/\o2=ov/\iq=.int .i64 i/\(rs.map (·.x)=(us.take i).map Rep.jm/\∀ r∈rs,r.x.key.length=32)/\Sat w0 wr (aC 276 33 o2 (rs.flatMap bQ)::iZ rs::F))
 case atStart=>exact ⟨0,[],_,rfl,ad4 _,rfl,rfl,⟨rfl,λr hr=>by cases hr⟩,Sat.dO.2 (Sat.emp.2 h)⟩
 case round=>
  obtain ⟨i,rs,ov,rfl,hi,rfl,rfl,hrs,hS⟩:=hrel;clear h;by_cases hlt:i<us.length
  ·as_aux_lemma=>
    have c3:(i:Int)<(us.length:Int):=oQ;have hwi:IntKind.i64.wrap ((i:Int)+1)=(i:Int)+1:=acO _ (by have:=Hl.o;omega);obtain ⟨u,hx⟩:∃ u,us[i]?=some u:=⟨_,aaJ hlt⟩;obtain ⟨bk,off,c',hsv,hcell⟩:=iL (f:=fO) (k:=35) (λu hu=>lT u (Hk.o u hu)) (Hr.o _ hS.drop.drop) hx aG;cases hsv;have aS:=uQ hlt;have vG:=uQ hrs;have dP:=uQ (show us.take (i+1)=us.take i++[u] from aO.lX hx)
    have lq:=uQ (show (rs.flatMap bQ).length<=2147483648 from by
     rw [iK λr hr=>lV r (hrs.2 r hr)];have:=aeO List.length hrs.1;rw [abl,abl,adt]at this;have:=Hl.o;omega)
    have rD:=uQ (Hk.o u (acr hx));clear hx hlt hi hrs
    go_wp2_with (first
     |((with_reducible refine bC ⟨?_⟩);refine iD (b:=bk) (o:=off+i*35) (fO u) ah hcell underlying248 rfl (by rw [lT _ rD.o];kernel_rfl) ?_)
     |(with_reducible apply eG))
    refine ⟨eU Nv hS rfl ?_⟩;intro b8 w8 h8;clear hS hcell;go_wp2_with (with_reducible apply bW);refine ⟨fG (fO u).toArray h8 ah ah (by rw [abA,lT _ rD.o];rfl) bU (by rw [abA,lT _ rD.o];kernel_rfl) (by rw [ad7];exact GX u) ?_⟩;intro w9 h9;clear h8;go_wp2_with ((with_reducible refine bC ⟨?_⟩);refine iC h9 ah aK underlying248 rfl (by rw [abA,lT _ rD.o];kernel_rfl) ?_);refine (air u.1 rD.o u.2.seg u.2.at_ u.2.size h9).mono ?_;rintro ee w10 ⟨v,rfl,q,rfl,h10⟩;clear h9;have h11:=aaT h10;clear h10
    go_wp2_with (first
     |((with_reducible refine jh ⟨?_⟩);refine jg (e:=276) (sz:=33) (dF:=56) (cs:=(bQ ⟨Rep.jm u,.slice (some ⟨q,0,none⟩) 3 3⟩).toArray) au h11 ah rfl (lF ⟨Rep.jm u,.slice (some ⟨q,0,none⟩) 3 3⟩ rD.o) bG ?_;intro bN wN hN)
     |(with_reducible apply fZ))
    refine ⟨jF (cs:=(bQ ⟨Rep.jm u,.slice (some ⟨q,0,none⟩) 3 3⟩).toArray) 276 33 56 au hN ah ah (aU (aU (aU aK))) aK (lF ⟨Rep.jm u,.slice (some ⟨q,0,none⟩) 3 3⟩ rD.o) bG EH lq.o (by rw [lF ⟨Rep.jm u,.slice (some ⟨q,0,none⟩) 3 3⟩ rD.o];decide) bG rfl ?_⟩;intro b' n' c2 kC fP;go_wp2_with fail
    go_roundg (us.length-(i+1))
    case measure=>have:=aS.o;omega
    case rel=>
     refine ⟨i+1,rs++[⟨Rep.jm u,.slice (some ⟨q,0,none⟩) 3 3⟩],_,rfl,ad8 aS.o,rfl,by first|rfl|go_num,⟨?_,?_⟩,?_⟩
     ·rw [aef,dP.o,aef,vG.o.1];rfl
     ·intro r hr;rcases aeQ.1 hr with hr|hr
      ·exact vG.o.2 r hr
      ·rw [aeG.1 hr];exact rD.o
     ·rw [aeB,aen,aiq,aei];have h15:Sat w0 kC (aC 3 1 (.slice (some ⟨q,0,none⟩) 3 3) (ints (Rep.jm u).nums)::iZ rs::aC 276 33 (.slice (some ⟨b',0,none⟩) n' c2) (rs.flatMap bQ++bQ ⟨Rep.jm u,.slice (some ⟨q,0,none⟩) 3 3⟩)::F):=fP.sb;exact (KZ (r:=⟨Rep.jm u,.slice (some ⟨q,0,none⟩) 3 3⟩) h15).sb
  ·have c3:¬ (i:Int)<(us.length:Int):=by omega
   have hi2:i=us.length:=oQ;subst hi2;rw [aeH]at hrs;clear hi hlt;go_wp2_with fail;go_ret;exact ⟨_,rfl,rs,hrs.1,hS⟩
end
end Go.Proofs.Y
namespace Go.aA
open Go.ak
open Go.Seg (Log Keeps Holds HG nD mag aZ)
open Go.aj (dK encs dV gy aJ)
open Go.Rep (Use)
section
variable {n K r E B c:Nat}{L:Log}{M:ak}{C:List (List aJ)}{N:Int}{us:List Use}{ps:List (Bs×aZ)}
theorem nD.size (h:nD L c us ps){s:Int} (hs:s∈L.aH.take c):L.size s<=33554432:=by
 rw [<-h.aH]at hs;obtain ⟨u,hu,rfl⟩:=adu.1 hs;obtain ⟨_,_,h3,h4⟩:=h.use u hu;omega
theorem nD.idx (h:nD L c us ps) (hL:L.Ok) (hl:ps.length<=65536):aO.Ok 3 true (ps.map Rep.jm):=by
 refine ⟨by rw [abl];exact hl,λr hr=>?_,λi a b ha hb=>?_⟩
 ·obtain ⟨q,hq,rfl⟩:=adu.1 hr;obtain ⟨p1,p2,p3,p4⟩:=h.plc q hq;have hz:=nD.size h p4;have hsg:=ae2 p4;obtain ⟨x,hx,hxe⟩:=adu.1 hsg;have hnm:=hL.nums x hx;refine ⟨h.key q hq,rfl,λm hm=>?_⟩;simp only [Rep.jm,ad9,aiR,apW]at hm;rcases hm with rfl|rfl|rfl <;> omega
 ·rw [ad1]at ha hb;obtain ⟨x,hx,rfl⟩:=akB.1 ha;obtain ⟨y,hy,rfl⟩:=akB.1 hb;obtain ⟨i1,rfl⟩:=acZ.1 hx;obtain ⟨i2,rfl⟩:=acZ.1 hy;unfold aO.ahead;rw [adU rfl];exact ao8.1 h.rise i (i+1) i1 i2 oQ
theorem nD.uses (h:nD L c us ps) (hL:L.Ok) (hl:us.length<=65536):aO.Ok 3 false (us.map Rep.jr):=by
 have rO:(us.map (·.seg)).Pairwise (· < ·):=by
  rw [h.aH];exact (Seg.CY hL).sublist (List.take_sublist _ _)
 refine ⟨by rw [abl];exact hl,λr hr=>?_,λi a b ha hb=>?_⟩
 ·obtain ⟨u,hu,rfl⟩:=adu.1 hr;obtain ⟨p1,p2,p3,p4⟩:=h.use u hu;have hsg:u.seg∈L.aH:=ae2 (by rw [<-h.aH];exact adu.2 ⟨u,hu,rfl⟩);obtain ⟨x,hx,hxe⟩:=adu.1 hsg;have hnm:=hL.nums x hx;refine ⟨rfl,rfl,λm hm=>?_⟩;simp only [Rep.jr,ad9,aiR,apW]at hm;rcases hm with rfl|rfl|rfl <;> omega
 ·rw [ad1]at ha hb;obtain ⟨x,hx,rfl⟩:=akB.1 ha;obtain ⟨y,hy,rfl⟩:=akB.1 hb;obtain ⟨i1,rfl⟩:=acZ.1 hx;obtain ⟨i2,rfl⟩:=acZ.1 hy;unfold aO.ahead;rw [abL aG];have:=ao8.1 rO i (i+1) (by rw [abl];exact i1) (by rw [abl];exact i2) oQ;rw [List.getElem_map,List.getElem_map]at this;exact this
end
structure Hd (T:Kept) (P:ByteArray->Prop) (K:Nat) (M:ak):Prop where
 ok:M.Ok K
 nm:∀ k,k<=M.waits.length->(∀ t∈T,bH (M.iO k) t.1=some t.2.1)/\∀ p∈M.iO k,(∃ t∈T,p.1=t.1)\/P p.1
 fil:∀ t∈T,M.file t.2.1=t.2.2
section
variable {T:Kept}{P:ByteArray->Prop}{K K' r:Nat}{M:ak}{s:ByteArray}{L:Log}{N:Int}
end
section
variable {T:Kept}{P:ByteArray->Prop}{n K K' E B c:Nat}{L:Log}{M M':ak}{C:List (List aJ)}{N:Int}{b1 b2:aj.Bs}{us:List Use}
end
end Go.aA
namespace Go.Proofs.Y
open Go.ak
section
variable {t e:TypeId}{pos:String}{v1 v2:Value}{cs1 cs2:Array Value}{g:Nat×Bool}{op:Op}{sz dF:Nat}
theorem ame (hb:qJ P t e sz dF=true) (h1:v1.cells.size=sz) (h2:v2.cells.size=sz) (hle:2*sz<=16777216) (w:World) :
  (Instr.buildSlice t 2 #[(0,v1),(1,v2)]).run P w=.ok (.slice (some ⟨w.heap.size,0,none⟩) 2 2) (w.alloc (.cells (v1.cells++v2.cells) e)):=by
 obtain ⟨hu,i,z,hi,hz,e1,e2,e3,e4⟩:=yZ hb;subst e1;have hzv:(zeroValue e).run P w=.ok z w:=by simp [zeroValue,typeInfo,hi,hz]
 have hsz':(sizeOf e).run P w=.ok i.size w:=by simp [sizeOf,typeInfo,hi]
 have hnz:¬ (2*i.size=0):=oQ;have hle':¬ (2*i.size>2^24):=oQ;unfold Instr.buildSlice;simp only [aed,agu hu,adW,hsz',abL hle',abL hnz,hzv,aep];have hf:Instr.fill (λi'=>some (i'*i.size,i.size)) ((Array.range (2*i.size)).map (z.cells[· % z.cells.size]!)) [(0,v1),(1,v2)]=some (v1.cells++v2.cells):=by
  generalize hz0:(Array.range (2*i.size)).map (z.cells[· % z.cells.size]!)=z0;have hs1:z0.size=2*i.size:=by rw [<-hz0];simp
  have hf1:∀ (v:Value) (off:Nat) (cs:Array Value),v.cells.zipIdx.foldl (λcs (c,j)=>cs.setIfInBounds (off+j) c) cs=eH cs off v.cells.toList:=λv off cs=>by
   have:=P5 v.cells.toList 0 off cs;rw [aml]at this;rw [<-this,<-Array.foldl_toList,Array.toList_zipIdx]
  unfold Instr.fill;simp only [Nat.zero_mul];have hc:¬ ((v1.cells.size≠i.size || 0+v1.cells.size>z0.size)=true):=by
   rw [hs1];simp [h1];omega
  simp only [abL hc];rw [hf1];unfold Instr.fill;simp only [Nat.one_mul];have hc2:¬ ((v2.cells.size≠i.size || i.size+v2.cells.size>(eH z0 0 v1.cells.toList).size)=true):=by
   rw [lC,hs1];simp [h2];omega
  simp only [abL hc2];rw [hf1];unfold Instr.fill
  congr 1
  apply Array.toList_inj.1;have hl1:v1.cells.toList.length=i.size:=by rw [ad6];exact h1
  have hl2:v2.cells.toList.length=i.size:=by rw [ad6];exact h2
  have hz1:z0.toList.length=2*i.size:=by rw [ad6];exact hs1
  rw [mV _ _ _ (by rw [lC,hs1,hl2];omega),mV _ _ _ (by rw [hs1,hl1];omega),apy];rw [afC,aeV,aeE,aeT oQ,adZ oQ,aeI (by rw [aa7,adX,hl1,hl2,hz1];omega),aei]
 simp only [hf];simp [newRow,go_sem]
theorem aoa (hb:qJ P ty e sz dF=true) (hs:Sat w0 w L) (hx:a.eval x=v1) (hy:a.eval y=v2) (hc1:v1.cells=cs1) (hc2:v2.cells=cs2) (h1:cs1.size=sz) (h2:cs2.size=sz) (hle:2*sz<=16777216)
  (hK:∀ b w',Sat w0 w' (pt b (.cells (cs1++cs2) e (0,0))::L)->wpList P ops Q rest (a.put dst (.slice (some ⟨b,0,none⟩) 2 2)) w'):wpList P ops Q (⟨dst,.buildSlice ty 2 #[(0,x),(1,y)],t,pos,after,none⟩::rest) a w:=by
 subst hc1;subst hc2;refine ae5 rfl λ_ hK'=>?_;have hS:=hs.alloc (.cells (v1.cells++v2.cells) e);unfold Oper.wp execOp;simp only [hx,hy,ahS,aes,ah3,aed,aep,ame hb h1 h2 hle w,adW];exact hK' _ _ (hK _ _ hS)
end
end Go.Proofs.Y
namespace Go.aA
open Go.aj (Bs)
theorem SE (l p:List UInt8):Lib.hasPrefix l p=decide (l.take p.length=p):=by
 rw [aoT,decide_eq_true_iff];unfold Lib.hasPrefix;rw [List.isPrefixOf_iff_prefix,List.prefix_iff_eq_take];exact eq_comm
theorem ags {l p:List UInt8} (h:l.take p.length=p):Lib.trimPrefix l p=l.drop p.length:=by
 unfold Lib.trimPrefix;rw [adU (by rw [SE,decide_eq_true_iff];exact h)]
theorem aaQ {s:ByteArray} (h:s.data.toList.take 4=[105,100,120,46]\/s.data.toList.take 4=[117,115,101,46]):number s=Seg.number ⟨(Seg.lead++s.data.toList.drop 4).toArray⟩:=by unfold number;rw [adU h]
theorem aj0 {s:ByteArray} (h:¬ (s.data.toList.take 4=[105,100,120,46]\/s.data.toList.take 4=[117,115,101,46])):number s=(0,false):=by unfold number;rw [abL h]
end Go.aA
namespace Go.Proofs.Y
open Go.ak
section
variable {t:TypeId}{pos:String}
theorem afA (h:Stop (wpList P ops Q (⟨dst,.buildSlice ty 2 #[(0,x),(1,y)],t,pos,after,none⟩::rest) a w)):wpList P ops Q (⟨dst,.buildSlice ty 2 #[(0,x),(1,y)],t,pos,after,none⟩::rest) a w:=h.o
end
section
variable {m:Nat}
theorem Xq (s p:ByteArray) (w:World):Calls prog 160 #[.string s,.string p] w (aN λv w'=>v=.tuple #[.string ⟨(Lib.trimPrefix s.data.toList p.data.toList).toArray⟩,.bool (Lib.hasPrefix s.data.toList p.data.toList)]/\w=w'):=
 (Tryz.strings_CutPrefix s p w).mono λe w' ⟨he,hw⟩=>⟨_,he,rfl,hw.symm⟩
theorem Xr (s p:ByteArray) (k:Nat) (hk:p.data.toList.length=k) (h:s.data.toList.take k=p.data.toList) (w:World):Calls prog 160 #[.string s,.string p] w (aN λv w'=>v=.tuple #[.string ⟨(s.data.toList.drop k).toArray⟩,.bool true]/\w=w'):=by
 subst hk;have hc:=Xq s p w;rw [aA.ags h,aA.SE,aem h]at hc;exact hc
theorem Xp (s p:ByteArray) (k:Nat) (hk:p.data.toList.length=k) (h:¬ s.data.toList.take k=p.data.toList) (w:World):Calls prog 160 #[.string s,.string p] w (aN λv w'=>(∃ r:ByteArray,v=.tuple #[.string r,.bool false])/\w=w'):=by
 subst hk;have hc:=Xq s p w;rw [aA.SE,aea h]at hc;exact hc.mono λe w' ⟨v,he,hv,hw⟩=>⟨v,he,⟨_,hv⟩,hw⟩
theorem ZP (r:List UInt8):(⟨#[115,101,103,46]⟩:ByteArray)++(⟨r.toArray⟩:ByteArray)=⟨(Seg.lead++r).toArray⟩:=by
 apply ByteArray.ext;rw [ByteArray.data_append];apply Array.toList_inj.1;simp [Seg.lead]
theorem QA (s:ByteArray) (hs:s.size<=4000000000) (h:Sat w0 w F) :
  Calls prog 111 #[.string s] w (aN λv w'=>v=.tuple #[.int .i64 (aA.number s).1,.bool (aA.number s).2]/\Sat w0 w' F):=by
 have Hs:=uQ hs;have hsz:∀ r:List UInt8,r.length<=4000000000->¬ 9223372036854775807<(⟨#[115,101,103,46]⟩:ByteArray).size+(⟨r.toArray⟩:ByteArray).size:=λr hr=>by
  have:(⟨r.toArray⟩:ByteArray).size=r.length:=by show r.toArray.size=_;exact abA ..
  have h4:(⟨#[115,101,103,46]⟩:ByteArray).size=4:=rfl;omega
 have iQ:=uQ hsz;have Hl:=uQ (show s.data.toList.length<=4000000000 from by rw [ad6];exact hs);clear hs hsz;go_enter func111,ntmps111;go_wp2_with ((with_reducible refine afA ⟨?_⟩);refine aoa (e:=9) (sz:=1) (dF:=16) (cs1:=#[.string ⟨#[105,100,120,46]⟩]) (cs2:=#[.string ⟨#[117,115,101,46]⟩]) au h ah ah rfl rfl rfl rfl bG ?_;intro b w1 h1);replace h1:Sat w0 w1 (pt b (.cells #[.string ⟨#[105,100,120,46]⟩,.string ⟨#[117,115,101,46]⟩] 9 (0,0))::F):=h1
 go_loopg [10] 3 (λg iq wr=>∃ i:Nat,g=3-i/\i<=2/\iq=.int .i64 i/\wr=w1/\(1<=i->¬ s.data.toList.take 4=[105,100,120,46])/\(2<=i->¬ s.data.toList.take 4=[117,115,101,46]))
 case atStart=>exact ⟨0,rfl,by omega,rfl,rfl,λh=>by omega,λh=>by omega⟩
 case round=>
  obtain ⟨i,rfl,hi,rfl,rfl,hn1,hn2⟩:=hrel;have h01:i=0\/i=1\/i=2:=oQ;clear hi h;have c0:=h1.cellAt 0 (.string ⟨#[105,100,120,46]⟩) rfl;have c1:=h1.cellAt 1 (.string ⟨#[117,115,101,46]⟩) rfl;rcases h01 with rfl|rfl|rfl
  ·clear hn1 hn2 c1;go_wp2_with fail;by_cases ht:s.data.toList.take 4=[105,100,120,46]
   ·refine (Xr s ⟨#[105,100,120,46]⟩ 4 rfl ht _).mono ?_;rintro e w2 ⟨v,rfl,rfl,rfl⟩;have hz:=iQ.o (s.data.toList.drop 4) (by rw [adX];have:=Hl.o;omega);have Hy:=uQ (aA.aaQ (s:=s) (.inl ht));clear ht iQ;go_wp2_with fail;rw [show (⟨#[115,101,103,46]⟩:ByteArray)++(⟨(s.data.toList.drop 4).toArray⟩:ByteArray)=⟨(Seg.lead++s.data.toList.drop 4).toArray⟩ from ZP _];refine (Ue _ h1).mono ?_;rintro e w3 ⟨v,rfl,rfl,h3⟩;go_wp2_with fail
    go_ret2
    exact ⟨_,rfl,by rw [Hy.o];rfl,h3.drop⟩
   ·refine (Xp s ⟨#[105,100,120,46]⟩ 4 rfl ht _).mono ?_;rintro e w2 ⟨v,rfl,⟨r,rfl⟩,rfl⟩;clear c0;go_wp2_with fail
    go_roundg 2
    case measure=>omega
    case rel=>exact ⟨1,rfl,by omega,rfl,rfl,λ_=>ht,λh=>by omega⟩
  ·have ht1:=hn1 oQ;clear hn1 hn2 c0;go_wp2_with fail;by_cases ht:s.data.toList.take 4=[117,115,101,46]
   ·refine (Xr s ⟨#[117,115,101,46]⟩ 4 rfl ht _).mono ?_;rintro e w2 ⟨v,rfl,rfl,rfl⟩;have hz:=iQ.o (s.data.toList.drop 4) (by rw [adX];have:=Hl.o;omega);have Hy:=uQ (aA.aaQ (s:=s) (.inr ht));clear ht ht1 iQ;go_wp2_with fail;rw [show (⟨#[115,101,103,46]⟩:ByteArray)++(⟨(s.data.toList.drop 4).toArray⟩:ByteArray)=⟨(Seg.lead++s.data.toList.drop 4).toArray⟩ from ZP _];refine (Ue _ h1).mono ?_;rintro e w3 ⟨v,rfl,rfl,h3⟩;go_wp2_with fail
    go_ret2
    exact ⟨_,rfl,by rw [Hy.o];rfl,h3.drop⟩
   ·refine (Xp s ⟨#[117,115,101,46]⟩ 4 rfl ht _).mono ?_;rintro e w2 ⟨v,rfl,⟨r,rfl⟩,rfl⟩;clear c1;go_wp2_with fail
    go_roundg 1
    case measure=>omega
    case rel=>exact ⟨2,rfl,by omega,rfl,rfl,λ_=>ht1,λ_=>ht⟩
  ·have Hy:=uQ (aA.aj0 (s:=s) (λh=>h.elim (hn1 oQ) (hn2 oQ)));clear hn1 hn2 c0 c1;go_wp2_with fail
   go_ret2
   exact ⟨_,rfl,by rw [Hy.o];rfl,h1.drop⟩
end
section
variable {m:Nat}
theorem RJ {v:Value}{l:List ByteArray} (h:aW 1 v (strs l) w):∃ a c,v=.slice a l.length c:=by
 obtain ⟨a,n,c,rfl,hl,hx⟩:=h;unfold strs at hl;rw [abl,aeo]at hl;exact ⟨a,c,by rw [hl]⟩
theorem H9 {l:List ByteArray}{i:Nat}{s:ByteArray}{a:Option Addr}{n c:Nat} (h:aW 1 (.slice a n c) (strs l) w) (hi:l[i]?=some s):∃ bk off,a=some ⟨bk,off,none⟩/\w.cell? ⟨bk,off+i,none⟩=some (.string s):=by
 have hx:(strs l)[i]?=some (.string s):=by unfold strs;rw [ad1,hi];rfl
 obtain ⟨bk,off,rfl,hc⟩:=oJ h hx;exact ⟨bk,off,rfl,hc _ _ hx⟩
theorem Q7 (ok:M.Ok K):M.list.length<=500:=by
 unfold ak.list;split
 ·exact ad4 _
 ·rw [abl];exact ok.fU.len
theorem ajO {l:List ByteArray}{i:Nat}{s:ByteArray} (h:l[i]?=some s) (x:Int):aA.wR (l.drop i) x=aA.wR (l.drop (i+1)) (if (aA.number s).2=true then max x (aA.number s).1 else x):=by
 obtain ⟨hi,rfl⟩:=acZ.1 h;rw [agf hi]
 rfl
theorem H7 (hM:M.Ok K) (hn:∀ f∈M.list,f.size<=4000000000) (h:Sat w0 w (aI m M::F)):Calls prog 100 #[ptr m] w (aN λv w'=>v=.int .i64 (aA.newest M)/\Sat w0 w' (aI m M::F)):=by
 have hls:=KF hM h;have Hlen:=uQ (Q7 hM);have Hn:=uQ hn;have Hw:=uQ (show aA.wR M.list (-1)=aA.newest M from rfl);clear hn hM;generalize M.list=l at *
 generalize aA.newest M=W at *
 go_enter func100,ntmps100;go_wp2_with fail;refine hls.mono ?_;rintro e w1 ⟨v,rfl,hS,_⟩;clear hls h;obtain ⟨a,c,rfl⟩:=RJ (Sat.rd hS);go_wp2_with fail
 go_loopg [3,11] l.length (λg lv iq wr=>∃ (i:Nat) (x:Int),g=l.length-i/\i<=l.length/\lv=.int .i64 x/\iq=.int .i64 i/\aA.wR (l.drop i) x=W/\Sat w0 wr (aC 9 1 (.slice a l.length c) (strs l)::aI m M::F))
 case atStart=>exact ⟨0,-1,rfl,ad4 _,rfl,rfl,Hw.o,hS⟩
 case round=>
  obtain ⟨i,x,rfl,hi,rfl,rfl,hx,hS2⟩:=hrel;clear hS;by_cases hlt:i<l.length
  ·have c1:(i:Int)<(l.length:Int):=by omega
   have hwi:IntKind.i64.wrap ((i:Int)+1)=(i:Int)+1:=acO _ yS0;obtain ⟨s,hs⟩:∃ s,l[i]?=some s:=⟨_,aaJ hlt⟩;obtain ⟨bk,off,rfl,hc⟩:=H9 (Sat.rd hS2) hs;have Hx:=uQ (hx.symm.trans (ajO hs x));have hsz:=Hn.o s (acr hs);have aS:=uQ hlt;clear hx hs hlt hi;go_wp2_with fail;refine (QA s hsz hS2).mono ?_;rintro e w2 ⟨v,rfl,rfl,hS3⟩;clear hS2 hc;generalize (aA.number s).1=n at *
   generalize (aA.number s).2=b at *
   cases b with
   |true=>
    go_wp2_with fail
    go_roundg (l.length-(i+1))
    case measure=>have:=aS.o;omega
    case rel=>exact ⟨i+1,max x n,rfl,ad8 aS.o,by first|rfl|(congr 1),by first|rfl|go_num,Hx.o.symm,hS3⟩
   |false=>
    go_wp2_with fail
    go_roundg (l.length-(i+1))
    case measure=>have:=aS.o;omega
    case rel=>exact ⟨i+1,x,rfl,ad8 aS.o,rfl,by first|rfl|go_num,Hx.o.symm,hS3⟩
  ·have c1:¬ (i:Int)<(l.length:Int):=by omega
   have Hx:=uQ (show x=W by rw [aeI oQ]at hx;exact hx);clear hx hlt hi;go_wp2_with fail;go_ret;exact ⟨_,rfl,by rw [Hx.o];rfl,hS2.drop⟩
end
end Go.Proofs.Y
namespace Go.aA
open Go.ak
open Go.Seg (Log Keeps Holds HG nD mag aZ)
open Go.aj (dK encs dV gy aJ)
open Go.Rep (Use)
section
variable {n K r E B c:Nat}{L:Log}{M M':ak}{C:List (List aJ)}{N:Int}{us:List Use}{ps:List (Bs×aZ)}{b1 b2:aj.Bs}
theorem KP:∀ (l:List ByteArray) (x:Int),x<=N->(∀ s∈l,(number s).2=true->(number s).1=N)->(x=N\/∃ s∈l,(number s).2=true)->wR l x=N
 |[],x,_,_,h=>by
  rcases h with h|⟨s,hs,_⟩
  ·exact h
  ·cases hs
 |s::l,x,hx,hl,h=>by
  show wR l (if (number s).2=true then max x (number s).1 else x)=N;by_cases hs:(number s).2=true
  ·rw [adU hs,hl s (.head _) hs,Int.max_eq_right hx];exact KP l N (ape _) (λt ht=>hl t (.tail _ ht)) (.inl rfl)
  ·rw [abL hs];refine KP l x hx (λt ht=>hl t (.tail _ ht)) ?_;rcases h with h|⟨t,ht,he⟩
   ·exact .inl h
   ·rcases ad9.1 ht with rfl|ht
    ·exact absurd he hs
    ·exact .inr ⟨t,ht,he⟩
theorem nD.lies (h:nD L c us ps) (hL:L.Ok):∀ q∈ps,aA.lies q.2 (aA.sizes us)=true/\IntKind.i64.wrap (aA.sizes us q.2.seg-q.2.at_)=aA.sizes us q.2.seg-q.2.at_:=λq hq=>by
 obtain ⟨p1,p2,p3,p4⟩:=h.plc q hq;have hz:=nD.size h p4;have hnd:(us.map (·.seg)).Nodup:=by
  rw [h.aH];exact (((Seg.CY hL).sublist (List.take_sublist _ _)).imp λ{a b} hab=>by omega)
 have hm:q.2.seg∈us.map (·.seg):=by rw [h.aH];exact p4
 obtain ⟨u,hu,he⟩:=adu.1 hm;obtain ⟨_,_,u3,_⟩:=h.use u hu;have hs:aA.sizes us q.2.seg=L.size q.2.seg:=by rw [<-he,amG hnd hu,u3]
 rw [hs];refine ⟨?_,acO _ oQ⟩;unfold aA.lies;rw [aem p1,aem p2,hs,aem (by omega:q.2.size<=L.size q.2.seg-q.2.at_)]
 rfl
end
end Go.aA
namespace Go.Seg
open Go.ak
open Go.aj (Bs aJ encs dV)
open Go.Rep
section
variable {K r E B n:Nat}{L:Log}{M M':ak}{C:List (List aJ)}{x:aJ}
theorem aay (k:Int):(name k).size<=24:=by
 rcases aA.L9 k with z|⟨z,_⟩
 ·rw [z];decide
 ·rw [z];decide
end
end Go.Seg
namespace Go.Tab
open Go.aj (Bs)
section
variable {α V:Type}{m:Bs->Option V}{k:Bs}{v:V}
theorem KE [DecidableEq α]:∀ {l l':List α},l.Nodup->(∀ x∈l,x∈l')->l.length<=l'.length
 |[],_,_,_=>ad4 _
 |a::l,l',hd,hs=>by
  obtain ⟨h1,h2⟩:=aoC.1 hd;have hm:=hs a (.head _);have ih:=KE (l':=l'.erase a) h2 (λx hx=>(List.mem_erase_of_ne (λe:x=a=>h1 (by rw [<-e];exact hx))).2 (hs x (.tail _ hx)));rw [List.length_erase_of_mem hm]at ih;have:=List.length_pos_of_mem hm;rw [aev];omega
theorem ajh {t:Tb V} (h:t.Ok) (hi:t.Is m){kv:List (Bs×V)} (hl:Lists m kv):t.n=kv.length:=by
 have hA:((t.slots.filter λx=>x.st==1).map (·.key)).Nodup:=by
  rw [List.nodup_iff_pairwise_ne,ahB,List.pairwise_filter,ao8];intro i j hi hj hij p1 p2 e;have:=h.good.one (aaJ hi) (aaJ hj) (by simpa using p1) (by simpa using p2) e;omega
 have hn:t.n=((t.slots.filter λx=>x.st==1).map (·.key)).length:=by
  rw [abl,h.n];unfold kS;rw [apk]
 have hB:=hl.keys;have hAB:∀ x∈(t.slots.filter λx=>x.st==1).map (·.key),x∈kv.map (·.1):=λx hx=>by
  obtain ⟨y,hy,rfl⟩:=adu.1 hx;obtain ⟨h1,h2⟩:=aex.1 hy;obtain ⟨i,hi1,hi2⟩:=aoI h1;have:m y.key=some y.val:=(hi _ _).1 ⟨i,y,by rw [aaJ hi1,hi2],by simpa using h2,rfl,rfl⟩;exact adu.2 ⟨(y.key,y.val),(hl.mem _ _).2 this,rfl⟩
 have hBA:∀ x∈kv.map (·.1),x∈(t.slots.filter λx=>x.st==1).map (·.key):=λx hx=>by
  obtain ⟨q,hq,rfl⟩:=adu.1 hx;obtain ⟨i,y,h1,h2,h3,h4⟩:=(hi q.1 q.2).2 ((hl.mem q.1 q.2).1 hq);exact adu.2 ⟨y,aex.2 ⟨acr h1,by simpa using h2⟩,h3⟩
 have l1:=KE hA hAB;have l2:=KE hB hBA;rw [abl]at l1 l2 hn;rw [abl]at l1 l2;omega
end
end Go.Tab
namespace Go.Seg
open Go.ak
open Go.aj (Bs aJ encs dV)
section
variable {K r:Nat}{L:Log}{M:ak}
end
end Go.Seg
namespace Go.Rep
open Go.aj (Bs aJ dV)
open Go.Seg (aZ)
open Go.Tab
def yB (es:List aJ) (kv:List (Bs×aZ)):List (Bs×Bs):=kv.map λq=>(q.1,(vW es q.1).getD [])
theorem akj {l:List Row}{es:List aJ}{kv:List (Bs×aZ)} (he:l.map (·.2.e)=es) (h:Lists (mD l) kv):Lists (vW es) (yB es kv):=by
 subst he;refine ⟨?_,λk v=>?_⟩
 ·unfold yB;rw [ahB];exact h.rise
 ·unfold yB;rw [adu];obtain ⟨o1,_⟩:=aaK l k;constructor
  ·rintro ⟨q,hq,e⟩;have e1:q.1=k:=aeO Prod.fst e;have e2:(vW (l.map (·.2.e)) q.1).getD []=v:=aeO Prod.snd e;rw [e1]at e2;have hn:=(h.mem q.1 q.2).1 hq;rw [e1]at hn;rw [hn]at o1;cases ho:vW (l.map (·.2.e)) k with
   |none=>rw [ho]at o1;cases o1
   |some d=>rw [ho]at e2;exact aeO some e2
  ·intro ho;rw [ho]at o1;cases hn:mD l k with
   |none=>rw [hn]at o1;cases o1
   |some pl=>exact ⟨(k,pl),(h.mem _ _).2 hn,by simp only;rw [ho];rfl⟩
end Go.Rep
namespace Go.Seg
open Go.ak
open Go.aj (Bs aJ encs dV)
open Go.Rep
section
variable {K r E B n:Nat}{L:Log}{M:ak}{C:List (List aJ)}{k:Bs}{pl:aZ}
end
open Go.ak
open Go.aj (Bs aJ encs dV gy)
open Go.Rep
section
variable {K r E B n:Nat}{L:Log}{M:ak}{D:List (Nat×List aJ)}{d:Nat×List aJ}{x:aJ}
theorem HD.rows (h:HD K r E B n L M D):rowsOf (λs=>L.bytes M s) L.aH=iH D:=by
 have key:∀ D':List (Nat×List aJ),(∀ d∈D',d∈D)->rowsOf (λs=>L.bytes M s) (D'.map λd=>(d.1:Int))=iH D':=by
  intro D'
  induction D' with
  |nil=>exact λ_=>rfl
  |cons y D' ih=>
   intro hs;have hy:=hs y (.head _);have h1:=abZ (bt:=λs=>L.bytes M s) [y.2] y.1 λj es hj=>by
    cases j with
    |zero=>cases hj;exact ⟨h.bytes hy,(h.good y hy).1⟩
    |succ j=>simp at hj
   have e1:rowsOf (λs=>L.bytes M s) [(y.1:Int)]=(gy y.2 8).map λf=>((y.1:Int),f):=by
    have h2:Ip y.1 [y.2]=(gy y.2 8).map λf=>((y.1:Int),f):=by unfold Ip;unfold Ip;rw [aei]
    rw [<-h2];exact h1
   have e2:∀ (a:Int) (l:List Int),rowsOf (λs=>L.bytes M s) (a::l)=rowsOf (λs=>L.bytes M s) [a]++rowsOf (λs=>L.bytes M s) l:=λa l=>by
    unfold rowsOf;simp
   rw [aes,e2,e1,ih λd hd=>hs d (.tail _ hd)]
   rfl
 rw [h.aH];exact key D λd hd=>hd
theorem HD.bad (h:HD K r E B n L M D):Rep.bad (λs=>L.bytes M s) L.aH=none:=by
 refine Rep.afI λj s hs=>?_;rw [h.aH,ad1]at hs;cases hq:D[j]? with
 |none=>rw [hq]at hs;cases hs
 |some y=>
  rw [hq]at hs;cases hs;have hy:=acr hq;exact ⟨_,h.bytes hy,(h.good y hy).1⟩
end
open Go.ak
open Go.aj (Bs aJ encs dV)
open Go.Rep
def Apart (M M':ak):Prop:=∀ t,(∀ k:Int,t≠name k)->M'.all t=M.all t
section
variable {K r E B n:Nat}{L:Log}{M M' M2:ak}{C C0:List (List aJ)}{x:aJ}
theorem Apart.refl (M:ak):Apart M M:=λ_ _=>rfl
theorem Apart.trans (h:Apart M M') (k:Apart M' M2):Apart M M2:=λt ht=>(k t ht).trans (h t ht)
end
structure HF (M:ak) (N:Int) (pl:List (Bs×aZ)) (us:List Use):Prop where
 one:M.all (aA.name aA.idx N)=(aO.book Xx.sum aO.uP true (pl.map jm),0)
 two:M.all (aA.name aA.use N)=(aO.book Xx.sum aO.uS false (us.map jr),0)
 num:∀ p∈M.now,(aA.number p.1).2=true->(aA.number p.1).1=N
def NF (M:ak):Prop:=∀ p∈M.now,(aA.number p.1).2=false
section
variable {K r E B n r0 B0:Nat}{L:Log}{M M':ak}{C C0:List (List aJ)}{N:Int}{us:List Use}{pl:List (Bs×aZ)}
end
end Go.Seg
namespace Go.aA
open Go.ak
def l7 (s:ByteArray):Bool:=(number s).2 || s.data.toList==tmp.data.toList
end Go.aA
namespace Go.Seg
open Go.ak
open Go.aj (Bs aJ encs dV)
open Go.Rep
section
variable {K r E B n:Nat}{L:Log}{M M':ak}{C:List (List aJ)}{N:Int}{us:List Use}{pl:List (Bs×aZ)}
theorem NF.newest (h:NF M) (q:Quiet M):aA.newest M = -1:=by
 show aA.wR M.list (-1) = -1;rw [q.list];refine aA.KP _ _ (ape _) (λt ht he=>?_) (.inl rfl);obtain ⟨p,hp,rfl⟩:=adu.1 ht;rw [h p hp]at he;cases he
theorem HF.newest (h:HF M N pl us) (q:Quiet M) (h1:0<=N) (h2:N<1048576):aA.newest M=N:=by
 show aA.wR M.list (-1)=N;rw [q.list];obtain ⟨i,hi⟩:=(aA.uF q).1 (aeO Prod.snd h.one);refine aA.KP _ _ oQ (λt ht he=>?_) (.inr ⟨_,adu.2 ⟨_,ji hi,rfl⟩,by rw [aA.wV (.inl aA.Cj) N h1 h2]⟩);obtain ⟨p,hp,rfl⟩:=adu.1 ht;exact h.num p hp he
theorem NF.there (h:NF M) (q:Quiet M) (h1:0<=N) (h2:N<1048576):aA.there M (aA.name aA.idx N)=false:=by
 cases hi:bH M.now (aA.name aA.idx N) with
 |none=>exact aA.Um q hi
 |some i=>
  have:=h _ (ji hi);rw [aA.wV (.inl aA.Cj) N h1 h2]at this;cases this
theorem HF.there (h:HF M N pl us) (q:Quiet M):aA.there M (aA.name aA.idx N)=true/\aA.there M (aA.name aA.use N)=true:=by
 obtain ⟨i,hi⟩:=(aA.uF q).1 (aeO Prod.snd h.one);obtain ⟨j,hj⟩:=(aA.uF q).1 (aeO Prod.snd h.two);exact ⟨aA.acW q hi,aA.acW q hj⟩
structure VZ (L:Log) (N:Int) (us:List Use) (pl:List (Bs×aZ)):Prop where
 key:∀ q∈pl,q.1.length=32
 idx:aO.Ok 3 true (pl.map jm)
 uses:aO.Ok 3 false (us.map jr)
 fits:aA.fits L us N=true
 lies:∀ q∈pl,aA.lies q.2 (aA.sizes us)=true/\IntKind.i64.wrap (aA.sizes us q.2.seg-q.2.at_)=aA.sizes us q.2.seg-q.2.at_
 tail:(L.aH.filter λs=>decide (N<s))=[]
end
end Go.Seg
namespace Go.xB
open Go.aj (Bs dK aJ gy encs dV)
open Go.Seg (aZ)
open Go.Rep
def pay:List dK->Int
 |[]=>0
 |f::l=>(if f.e.tag=2 then 0 else (f.size:Int))+pay l
abbrev Kv:=List Int×aZ
def KA (m:Bs->Option Kv) (k:Bs):Kv:=(m k).getD ([],aZ.zero)
def ai1 (c:List Int) (s t:Int):List Int:=if t=0/\c.getLast?≠some s then c++[s] else c
def ank (m:Bs->Option Kv) (r:Row):Bs->Option Kv:=Tab.put m (iJ r) (ai1 (KA m (iJ r)).1 r.1 (fF r),mW r)
def anl (m:Bs->Option Kv) (r:Row):Bs->Option Kv:=if fF r=2 then m else ank m r
structure Plan where
 last:Int
 aH:List (Int×List dK)
 keys:Bs->Option Kv
 index:Bs->Option aZ
def aa8 (a b:aZ):Bool:=a.seg==b.seg && (a.at_==b.at_ && a.size==b.size)
def counts (P:Plan) (gs:List Int) (s:Int) (f:dK):Bool:=
 if f.e.tag=2 then false
 else if f.e.tag=0 then match P.index f.e.key with
  |some p=>aa8 p ⟨s,f.at_,f.size⟩
  |none=>false
 else aa8 (KA P.keys f.e.key).2 ⟨s,f.at_,f.size⟩ && (KA P.keys f.e.key).1.any λt=>decide (t<s) && !gs.contains t
def Z8 (P:Plan) (gs:List Int) (s:Int):List dK->Int
 |[]=>0
 |f::l=>(if counts P gs s f=true then (f.size:Int) else 0)+Z8 P gs s l
def sparse (P:Plan) (gs:List Int) (pc:Int) (x:Int×List dK):Bool:=
 if pay x.2=0 then decide (0<pc) && (decide (x.1≠P.last) || decide (0<gs.length)) else decide (100*Z8 P gs x.1 x.2<pc*pay x.2)
def nextL (P:Plan) (gs:List Int) (pc:Int) (l:List (Int×List dK)):List Int:=(l.filter λx => !gs.contains x.1 && sparse P gs pc x).map (·.1)
def choose (P:Plan) (pc:Int):Nat->List Int->List Int
 |0,gs=>gs
 |n+1,gs=>if nextL P gs pc P.aH=[] then gs else choose P pc n (gs++nextL P gs pc P.aH)
def aiW (rs:List Row):Bs->Option Kv:=rs.foldl anl λ_=>none
section
variable {C:List (List aJ)}
end
section
variable {R:List Row}{k:Bs}{r x:Row}{m:Bs->Option Kv}{gs:List Int}{P:Plan}
abbrev hit (k:Bs) (r:Row):Prop:=fF r≠2/\iJ r=k
def copy (P:Plan) (gs:List Int) (R:List Row):List Row:=R.filter λr=>gs.contains r.1 && counts P gs r.1 r.2
end
end Go.xB
namespace Go.Seg
open Go.ak
open Go.aj (Bs aJ encs dV gy)
open Go.Rep
section
variable {D N:List (Nat×List aJ)}{x:aJ}{gs:List Int}
def lS (D:List (Nat×List aJ)):List aJ:=D.flatMap (·.2)
theorem agX (D N:List (Nat×List aJ)):lS (D++N)=lS D++lS N:=by unfold lS;rw [aeB]
theorem BJ:∀ (es:List aJ) (a:Nat),(gy es a).map (·.e)=es
 |[],_=>rfl
 |x::es,a=>by unfold gy;rw [aes,BJ es]
theorem ED (D:List (Nat×List aJ)):(iH D).map (·.2.e)=lS D:=by
 induction D with
 |nil=>rfl
 |cons d D ih=>
  unfold iH lS at *
  rw [aen,aen,aef,ih,ahU]
  congr 1
  exact BJ d.2 8
theorem aa5 {α:Type}{f:α->Nat}{l:List α} (h:l.Pairwise λa b=>f a<f b){a b:α} (ha:a∈l) (hb:b∈l) (e:f a=f b):a=b:=by
 induction l with
 |nil=>cases ha
 |cons x l ih=>
  rw [aeZ]at h;rcases ad9.1 ha with rfl|ha' <;> rcases ad9.1 hb with rfl|hb'
  ·rfl
  ·have:=h.1 b hb';omega
  ·have:=h.1 a ha';omega
  ·exact ih h.2 ha' hb'
end
section
variable {K r E B n:Nat}{L:Log}{M:ak}{D N:List (Nat×List aJ)}
end
section
variable {K r E B n:Nat}{L:Log}{M M':ak}{D:List (Nat×List aJ)}
theorem HD.fresh (h:HD K r E B n L M D) (lim:Int) (l1:128<=lim) (l2:lim<=1048576):HD K r E B n (fresh M lim) M D:=by
 have hq:=h.keeps.calm.quiet;have hF:=xZ h.keeps.calm.ok lim l1 l2;have hs:(Seg.fresh M lim).aH=L.aH:=QL (CY hF) (CY h.keeps.log) λs=>by
  rw [aA.Yq hq.off];constructor
  ·rintro ⟨⟨a,b⟩,i,hi⟩;obtain ⟨k,rfl⟩:∃ k:Nat,s=k:=⟨s.toNat,by omega⟩;obtain ⟨d,hd,rfl⟩:=h.cover k i oQ hi;rw [h.aH];exact adu.2 ⟨d,hd,rfl⟩
  ·intro hs;obtain ⟨x,hx,rfl⟩:=adu.1 hs;exact ⟨h.keeps.log.nums x hx,h.keeps.has x hx⟩
 have hlen:(Seg.fresh M lim).l.length=D.length:=by
  have:=aeO List.length hs;rw [h.aH]at this;unfold Log.aH at this;rw [abl,abl]at this;exact this
 refine ⟨⟨hF,h.keeps.calm,Yp M lim⟩,?_,h.rise,h.lim,h.file,h.good,h.used,h.names,h.cover⟩;refine apV λk=>?_;rw [ad1];cases hd:D[k]? with
 |none=>exact apz.2 (by rw [hlen];exact apz.1 hd)
 |some d=>
  have hkl:k<D.length:=(acZ.1 hd).1;have hx:(Seg.fresh M lim).l[k]?=some ((Seg.fresh M lim).l[k]'oQ):=aaJ oQ;generalize (Seg.fresh M lim).l[k]'oQ=x at hx;obtain ⟨t,ht,hn,e⟩:=BK (acr hx);obtain ⟨a,b,c⟩:=CQ hn;have hk1:(Seg.fresh M lim).aH[k]?=some x.1:=by unfold Log.aH;rw [ad1,hx];rfl
  rw [hs,h.aH,ad1,hd]at hk1;have e1:(number t).1=(d.1:Int):=by rw [e]at hk1;exact (aiJ hk1).symm
  rw [e1]at c;have hf:=h.file d (acr hd);rw [hx,e,e1,<-c];show _=some ((d.1:Int),8+((encs d.2).length:Int))
  congr 2
  obtain ⟨i,hi⟩:=(aA.uF hq).1 (aeO Prod.snd hf);rw [all_some hq hi]at hf;have hl2:=aeO (λz:Bs×Int=>z.1.length) hf;simp only [aa7]at hl2;have hm:mag.length=8:=rfl;unfold ak.size;rw [hq.off,hi];show (((M.file i).now.length:Nat):Int)=_;omega
theorem HD.told (h:HD K r E B n L M D):∀ j es,(D.map (·.2))[j]?=some es->L.bytes M (L.aH.getD j 0)=(mag++encs es,0)/\∀ x∈es,dV x:=λj es hj=>by
 rw [ad1]at hj;cases hd:D[j]? with
 |none=>rw [hd]at hj;cases hj
 |some d=>
  rw [hd]at hj;cases hj;have hm:=acr hd;have e:L.aH.getD j 0=(d.1:Int):=by
   rw [h.aH,adV,ad1,hd];rfl
  rw [e];exact ⟨h.bytes hm,(h.good d hm).1⟩
theorem HD.split (h:HD K r E B n L M D):∃ c,Rep.split (λs=>L.bytes M s) L.aH L.aH.length=(c,0)/\c<=D.length/\(c≠0->∃ d,D[c-1]?=some d/\Rep.jK d.2=true)/\∀ j d,c<=j->D[j]?=some d->Rep.jK d.2=false:=by
 have hl:L.aH.length=(D.map (·.2)).length:=by rw [h.aH,abl,abl]
 obtain ⟨c,h1,h2,h3,h4⟩:=Rep.acK hl h.told (D.map (·.2)).length (ab1 _);rw [abl]at h2;refine ⟨c,by rw [hl];exact h1,h2,λhc=>?_,λj d a b=>?_⟩
 ·obtain ⟨es,h5,h6⟩:=h3 hc;rw [ad1]at h5;cases hd:D[c-1]? with
  |none=>rw [hd]at h5;cases h5
  |some d=>rw [hd]at h5;cases h5;exact ⟨d,rfl,h6⟩
 ·have hj:=(acZ.1 b).1;exact h4 j d.2 a (by rw [abl];exact hj) (by rw [ad1,b];rfl)
theorem HD.run (h:HD K r E B n L M D) (hc:∀ d,D.getLast?=some d->Rep.jK d.2=true):Rep.run (λs=>L.bytes M s) L.aH=.inr D.length:=by
 obtain ⟨c,h1,h2,_,h4⟩:=h.split;have hcl:c=D.length:=by
  rcases aiN c D.length with q|q
  ·exfalso;have hl:D[D.length-1]?=some (D[D.length-1]'oQ):=aaJ oQ;have h5:=h4 _ _ oQ hl;have h6:=hc _ (by rw [aoy];exact hl);rw [h5]at h6;cases h6
  ·omega
 unfold Rep.run;rw [h1,abL yF0,hcl];refine Rep.ab5 ?_;have e:L.aH.take D.length=L.aH:=adZ (by rw [h.aH,abl];exact ab1 _);rw [e];exact h.bad
theorem HD.akX (h:HD K r E B n L M D){r':Rep.Row} (hr:r'∈iH D):L.read M (Rep.mW r')=(r'.2.e,0):=by
 unfold iH at hr;obtain ⟨d,hd,hr⟩:=ao6.1 hr;obtain ⟨f,h3,rfl⟩:=adu.1 hr;obtain ⟨u,v,h4,h5,h6⟩:=Rep.PY d.2 8 h3;obtain ⟨e,at_,size⟩:=f;simp only at h3 h4 h5 h6;subst h5;subst h6;have hx:dV e:=(h.good d hd).1 e (by rw [h4];simp);have hf:=h.file d hd;have hm:mag.length=8:=rfl;have hes:encs d.2=encs u++((aj.encode e).1++encs v):=by rw [h4,Gf];rfl
 have hrd:=akY h.keeps.calm.quiet hf (a:=8+(encs u).length) (n:=(aj.encode e).1.length) (by rw [aa7,hes,aa7,aa7];omega);have hdd:((mag++encs d.2).drop (8+(encs u).length)).take (aj.encode e).1.length=(aj.encode e).1:=by
  rw [hes,<-ad2,apM,aeI (by rw [aa7];omega)];rw [show 8+(encs u).length-(mag++encs u).length=0 by rw [aa7];omega,apP,aeV,aeT (ab1 _),aeH]
 rw [hdd]at hrd;have hre:=aj.SX hx.1 hx.2 [];rw [aei]at hre;obtain ⟨i,hi⟩:=h.OQ hd;unfold Log.read Rep.mW;simp only [hi];rw [hrd];simp only [hre];rw [abL aG,abL aG,abL yF0]
end
end Go.Seg
namespace Go.xB
open Go.aj (Bs dK aJ gy encs dV)
open Go.Seg (aZ iH lS)
open Go.Rep
section
variable {D:List (Nat×List aJ)}{d:Nat×List aJ}
end
end Go.xB
namespace Go.Seg
open Go.ak
open Go.aj (Bs aJ encs dV gy)
open Go.Rep
def dw (D:List (Nat×List aJ)):Int:=match D.getLast? with
 |none=> -1
 |some d=>(d.1:Int)
def vk (D:List (Nat×List aJ)):Prop:=∀ d,D.getLast?=some d->jK d.2=true
def lQ (D:List (Nat×List aJ)):List Use:=D.map λd=>⟨(d.1:Int),((mag++encs d.2).length:Int),0⟩
structure jy (K r E B n:Nat) (L:Log) (M:ak) (D:List (Nat×List aJ)):Prop where
 hd:HD K r E B n L M D
 tmp:bH M.now aA.tmp=none
 few:(lS D).length<=n
 small:∀ p∈M.now,p.1.size<=24
 thin:n<=500->∀ e∈lS D,e.data.length<=300
def HN (M:ak) (N:Int):Prop:=∀ p∈M.now,(aA.number p.1).2=true->(aA.number p.1).1<=N
structure sN (D:List (Nat×List aJ)) (N:Int) (us:List Use) (pl:List (Bs×aZ)):Prop where
 last:N=dw D
 kv:∃ kv,Tab.Lists (ledger (iH D)) kv/\(∀ q∈kv,q.1.length=32)/\us=(lQ D).map (upd kv)/\pl=puts kv
 ends:vk D
section
variable {K r E B n:Nat}{L:Log}{M M':ak}{C:List (List aJ)}{D N1:List (Nat×List aJ)}{N:Int}{d:Nat×List aJ}{us:List Use}{q:Row}{k:Bs}{pl:aZ}{ps:List (Bs×aZ)}
theorem jy.mono (h:jy K r E B n L M D){K' E' B' n':Nat} (h1:K<=K') (h2:E<=E') (h3:B<=B') (h4:n<=n'):jy K' r E' B' n' L M D:=⟨h.hd.mono h1 h2 h3 h4,h.tmp,adT h.few h4,h.small,λq=>h.thin (adT h4 q)⟩
theorem abK:∀ {D:List (Nat×List aJ)}{a n:Nat},D.Pairwise (λa b=>a.1<b.1)->(∀ d∈D,a<=d.1/\d.1<n)->D.length<=n-a
 |[],_,_,_,_=>ad4 _
 |d::D,a,n,hp,h=>by
  rw [aeZ]at hp;have h1:=h d (.head _);have ih:=abK (a:=d.1+1) (n:=n) hp.2 λe he=>⟨hp.1 e he,(h e (.tail _ he)).2⟩;rw [aev];omega
theorem HD.count (h:HD K r E B n L M D):D.length<=n:=by
 have:=abK (a:=0) h.rise λd hd=>⟨ad4 _,h.lim d hd⟩;omega
theorem abW (d:Nat×List aJ) (D:List (Nat×List aJ)):iH (d::D)=((gy d.2 8).map λf=>((d.1:Int),f))++iH D:=by unfold iH;rw [aen]
theorem Tv (hq:q∈iH D):∃ d∈D,q.1=(d.1:Int)/\q.2∈gy d.2 8/\∃ u v,d.2=u++q.2.e::v/\q.2.at_=8+(encs u).length/\q.2.size=(aj.encode q.2.e).1.length:=by
 unfold iH at hq;obtain ⟨d,hd,hq⟩:=ao6.1 hq;obtain ⟨f,hf,rfl⟩:=adu.1 hq;obtain ⟨u,v,h⟩:=Rep.PY d.2 8 hf;exact ⟨d,hd,rfl,hf,u,v,h⟩
theorem HD.row (h:HD K r E B n L M D) (hq:q∈iH D):L.read M (mW q)=(q.2.e,0)/\dV q.2.e/\(q.2.size:Int)<=4294967296/\(q.2.at_:Int)<=4294967296:=by
 refine ⟨h.akX hq,?_⟩;obtain ⟨d,hd,h1,h2,u,v,h8,h9,h10⟩:=Tv hq;have hsz:=h.keeps.log.sizes ((d.1:Int),8+((encs d.2).length:Int)) (by rw [h.l];exact adu.2 ⟨d,hd,rfl⟩);have he:(encs d.2).length=(encs u).length+((aj.encode q.2.e).1.length+(encs v).length):=by
  conv=>lhs;rw [h8]
  rw [Gf,aa7]
  congr 1
  exact aa7
 simp only at hsz;exact ⟨(h.good d hd).1 _ (by rw [h8];simp),by omega,by omega⟩
theorem jy.iK (h:jy K r E B n L M D):(rowsOf (λs=>L.bytes M s) L.aH).length<=n:=by
 rw [h.hd.rows,<-abl (f:=λr:Row=>r.2.e),ED];exact h.few
theorem jy.TA (h:jy K r E B n L M D):∀ q∈rowsOf (λs=>L.bytes M s) L.aH,(q.2.size:Int)<=4294967296:=λq hq=>by
 rw [h.hd.rows]at hq;exact (h.hd.row hq).2.2.1
theorem HD.got (h:HD K r E B n L M D) (hk:mD (iH D) k=some pl):∃ data,L.read M pl=(⟨0,k,data⟩,0)/\vW (lS D) k=some data/\data.length<=16384/\(-9223372036854775808<=pl.at_/\pl.at_<=9223372036854775807)/\(-9223372036854775808<=pl.size/\pl.size<=9223372036854775807)/\k.length=32:=by
 obtain ⟨q,hq,e1,e2,e3,e4⟩:=ajY hk;obtain ⟨r1,r2,r3,r4⟩:=h.row hq;rw [ED]at e4;obtain ⟨s,⟨⟨tag,key,data⟩,at_,size⟩⟩:=q;obtain rfl:tag=0:=e2;obtain rfl:key=k:=e3;refine ⟨data,by rw [<-e1];exact r1,e4,?_,?_,?_,r2.2⟩
 ·rcases aj.F6 (aj.JM r2.1).1 with ⟨_,q⟩|⟨q,_⟩|⟨q,_⟩
  ·exact q
  ·cases q
  ·cases q
 ·rw [<-e1];show -9223372036854775808<=(at_:Int)/\(at_:Int)<=9223372036854775807;have:(at_:Int)<=4294967296:=r4;omega
 ·rw [<-e1];show -9223372036854775808<=(size:Int)/\(size:Int)<=9223372036854775807;have:(size:Int)<=4294967296:=r3;omega
theorem HD.size (h:HD K r E B n L M D) (hd:d∈D):L.size (d.1:Int)=((mag++encs d.2).length:Nat):=by
 obtain ⟨i,hi⟩:=h.OQ hd;obtain ⟨h1,s,h2,h3⟩:=Log.Jw hi;have h4:=h2;rw [h.l,ad1]at h4;obtain ⟨e,he,rfl⟩:=akB.1 h4;simp only at h3;obtain rfl:e=d:=aa5 (f:=λd:Nat×List aJ=>d.1) h.rise (acr he) hd oQ;unfold Log.size;rw [hi];simp only [adV,h2,Option.getD_some,aa7];have:mag.length=8:=rfl;omega
theorem acD {s:Int}:∀ {D:List (Nat×List aJ)},(∀ d∈D,(d.1:Int)≠s)->uZ (iH D) s=0
 |[],_=>rfl
 |d::D,h=>by rw [abW,TY,acE,abL (h d (.head _)),acD λe he=>h e (.tail _ he)];rfl
theorem acC:∀ {D:List (Nat×List aJ)},D.Pairwise (λa b=>a.1<b.1)->d∈D->uZ (iH D) (d.1:Int)=(encs d.2).length
 |[],_,h=>by cases h
 |e::D,hp,h=>by
  rw [aeZ]at hp;rw [abW,TY,acE];rcases ad9.1 h with rfl|h
  ·rw [adU rfl,Yl,acD λe he=>by have:=hp.1 e he;omega];omega
  ·have:=hp.1 d h;rw [abL oQ,acC hp.2 h];omega
theorem HD.uses (h:HD K r E B n L M D):nT (λs=>L.bytes M s) L.aH=lQ D:=by
 rw [h.aH];unfold nT lQ;rw [ahU];refine aj6 λd hd=>?_;simp only [Function.comp_apply,h.bytes hd]
theorem anG (kv:List (Bs×dU)):((lQ D).map (upd kv)).map (·.seg)=D.map λd=>(d.1:Int):=by
 unfold lQ;rw [ahU,ahU]
 rfl
theorem HD.hint (h:HD K r E B n L M D){kv:List (Bs×dU)} (hk:Tab.Lists (ledger (iH D)) kv) (h32:∀ q∈kv,q.1.length=32):nD L D.length ((lQ D).map (upd kv)) (puts kv):=by
 have htk:L.aH.take D.length=L.aH:=adZ (by rw [h.aH,abl];exact ab1 _);have hok:=rows_ok h.keeps.log M D.length;rw [htk,h.rows]at hok;have hrow:∀ p∈kv,∃ r,r∈iH D/\fF r≠2/\p.2.tag=fF r/\p.2.place=mW r:=λp hp=>by
  have h1:=(hk.mem p.1 p.2).1 hp;unfold ledger at h1;obtain ⟨r,h2,h3⟩:=akB.1 h1;obtain ⟨h4,h5,_⟩:=KQ h2;exact ⟨r,h4,h5,by rw [<-h3],by rw [<-h3]⟩
 have hm:mag.length=8:=rfl;refine ⟨by rw [htk,h.aH];exact anG kv,λu hu=>?_,λq hq=>?_,Rep.SK hk.rise,λq hq=>?_⟩
 ·obtain ⟨u0,h1,rfl⟩:=adu.1 hu;unfold lQ at h1;obtain ⟨d,hd,rfl⟩:=adu.1 h1;have hz:=h.size hd;have hlv:=ajj hok hk (d.1:Int);have hls:=Z' (l:=iH D) (d.1:Int) _ (ab1 _);rw [aeH,hlv,acC h.rise hd]at hls;have hsz:=h.keeps.log.sizes ((d.1:Int),8+((encs d.2).length:Int)) (by rw [h.l];exact adu.2 ⟨d,hd,rfl⟩);unfold upd;simp only [hz,aa7];simp only at hsz;refine ⟨hls.1,?_,trivial,?_⟩
  ·have:=hls.2;omega
  ·omega
 ·unfold puts at hq;obtain ⟨p,hp,rfl⟩:=adu.1 hq;exact h32 p (aex.1 hp).1
 ·unfold puts at hq;obtain ⟨p,hp,rfl⟩:=adu.1 hq;obtain ⟨hp1,hp2⟩:=aex.1 hp;obtain ⟨r,h1,_,h3,h4⟩:=hrow p hp1;obtain ⟨d,hd,hr1,h7,u,v,h8,h9,h10⟩:=Tv h1;have hg:dV r.2.e:=(h.good d hd).1 _ (by rw [h8];simp);have hz:=h.size hd;have ht:r.2.e.tag=0:=by
   have:p.2.tag=0:=by simpa using hp2
   rw [h3]at this;exact this
  have hl:r.2.size=41+r.2.e.data.length:=by
   rw [h10,Ub hg.1 hg.2];unfold aj.size;rw [abL (by simp [(aj.JM hg.1).1]),abL (by rw [ht];decide)]
  have hes:encs d.2=encs u++((aj.encode r.2.e).1++encs v):=by rw [h8,Gf];rfl
  simp only;rw [h4];show 8<=(r.2.at_:Int)/\41<=(r.2.size:Int)/\(r.2.at_:Int)+(r.2.size:Int)<=L.size r.1/\r.1∈L.aH.take D.length;rw [htk,hr1,hz,aa7,hes,aa7,aa7];refine ⟨by omega,by omega,by omega,?_⟩;rw [h.aH];exact adu.2 ⟨d,hd,rfl⟩
theorem ZL (hr:D.Pairwise λa b=>a.1<b.1) (hd:d∈D):(d.1:Int)<=dw D:=by
 have h1:=ajR hr hd;unfold RD at h1;unfold dw;split at h1
 ·omega
 ·rename_i e he;rw [he];simp only;omega
theorem HD.Cm (h:HD K r E B n L M D):dw D<n:=by
 unfold dw;cases hl:D.getLast? with
 |none=>simp only;omega
 |some d=>have:=h.lim d (apF hl);simp only;omega
theorem HD.last (h:HD K r E B n L M D) (hc:vk D):lastOf (λs=>L.bytes M s) L.aH=(dw D,0)/\Rep.run (λs=>L.bytes M s) L.aH=.inr L.aH.length/\qO L.aH=dw D:=by
 have hlen:L.aH.length=D.length:=by rw [h.aH,abl]
 have hll:qO L.aH=dw D:=by
  unfold qO dw;rw [h.aH,apw];cases D.getLast? <;> rfl
 refine ⟨?_,by rw [hlen];exact h.run hc,hll⟩;obtain ⟨c,h1,h2,_,h4⟩:=h.split;have hcl:c=D.length:=by
  rcases aiN c D.length with q|q
  ·exfalso;have hl:D[D.length-1]?=some (D[D.length-1]'oQ):=aaJ oQ;have h5:=h4 _ _ oQ hl;have h6:=hc _ (by rw [aoy];exact hl);rw [h5]at h6;cases h6
  ·omega
 unfold lastOf;rw [h1];simp only;rw [abL yF0,hcl];by_cases h0:D.length=0
 ·rw [adU h0];unfold dw;rw [ae9 h0]
  rfl
 ·rw [abL h0,<-hll];unfold qO;rw [aoy,hlen,adV];cases hq:L.aH[D.length-1]? with
  |none=>exact absurd (apz.1 hq) oQ
  |some s=>rfl
theorem jy.fresh (h:jy K r E B n L M D) (lim:Int) (l1:128<=lim) (l2:lim<=1048576):jy K r E B n (Seg.fresh M lim) M D:=⟨h.hd.fresh lim l1 l2,h.tmp,h.few,h.small,h.thin⟩
theorem HD.apart {K' E' B':Nat} (h:HD K r E B n L M D) (c:Calm K' r M') (ha:∀ k:Int,M'.all (name k)=M.all (name k)) (hu:M'.used<=n*400+B') (hn:M'.now.length<=n+E'):HD K' r E' B' n L M' D:=by
 have has:∀ k:Int,(∃ i,bH M'.now (name k)=some i)↔∃ i,bH M.now (name k)=some i:=λk=>by
  rw [<-aA.uF c.quiet,<-aA.uF h.keeps.calm.quiet,ha]
 exact ⟨⟨h.keeps.log,c,λs hs=>(has s.1).2 (h.keeps.has s hs)⟩,h.l,h.rise,h.lim,λd hd=>by rw [ha];exact h.file d hd,h.good,hu,hn,λk i hk hi=>by
  obtain ⟨j,hj⟩:=(has k).1 ⟨i,hi⟩;exact h.cover k j hk hj⟩
theorem jy.acu (h:jy K r E B n L M D) (hnm:M.now.length<=480) (hh:HN M N) (h1:0<=N) (h2:N<1048576) (b1 b2:Bs) :
  jy (K+600) r (E+2) (B+b1.length+b2.length) n L (aA.save M N b1 b2).1 D/\((aA.save M N b1 b2).2=0\/(aA.save M N b1 b2).2=11)/\HN (aA.save M N b1 b2).1 N /\
   (∀ f∈(aA.write (aA.write M (aA.name aA.idx N) b1).1 (aA.name aA.use N) b2).1.dH.1.list,f.size<=4000000000):=by
 have aoX:=h.hd.names;have s:=aA.acv (b1:=b1) (b2:=b2) h.hd.keeps.calm h.tmp oQ h1 h2;have g1:=aA.G9 (ld:=aA.idx) rfl aG N h1 h2;have g2:=aA.G9 (ld:=aA.use) rfl aG N h1 h2;have hsz:∀ ld:ByteArray,ld.data.toList.length=4->(aA.name ld N).size<=24:=λld hl=>by
  show (aA.name ld N).data.size<=24;rw [<-ad6,aA.name_eq ld N h1 h2,aa7,hl,sU];omega
 refine ⟨⟨h.hd.apart s.calm (λk=>s.other _ (aA.Di k).symm (aA.amw k N h1 h2) (aA.amx k N h1 h2) (aA.aki (by rw [aA.Ic]))) (by have:=s.used;have:=h.hd.used;omega) (by have:=s.len;omega),s.tmp,h.few,λp hp=>?_,h.thin⟩,s.done.imp (·.1) id,λp hp hm=>?_,λf hf=>?_⟩
 ·rcases s.names p hp with q|q|q
  ·exact h.small p q
  ·rw [q];exact hsz _ rfl
  ·rw [q];exact hsz _ rfl
 ·rcases s.names p hp with q|q|q
  ·exact hh p q hm
  ·rw [q,aA.wV (.inl aA.Cj) N h1 h2];exact ape _
  ·rw [q,aA.wV (.inr aA.IL) N h1 h2];exact ape _
 ·have w1:=aA.IZ (b:=b1) h.hd.keeps.calm h.tmp oQ g1 (aA.Zx N h1 h2);have w2:=aA.IZ (b:=b2) w1.calm w1.tmp (by have:=w1.len;omega) g2 (aA.ado N h1 h2);rw [w2.calm.dH.quiet.list,aA.am6]at hf;obtain ⟨p,hp,rfl⟩:=adu.1 hf;refine adT (m:=24) ?_ aG;rcases w2.names p hp with q|q
  ·rcases w1.names p q with q|q
   ·exact h.small p q
   ·rw [q];exact hsz _ rfl
  ·rw [q];exact hsz _ rfl
end
section
variable {K r E B n:Nat}{L:Log}{M:ak}{D N1:List (Nat×List aJ)}{N:Int}{us:List Use}{P:xB.Plan}{gs:List Int}{xs:List aJ}
theorem ai6 (D:List (Nat×List aJ)) (d:Nat×List aJ):dw (D++[d])=(d.1:Int):=by unfold dw;rw [List.getLast?_append];rfl
theorem jy.dir (h:jy K r E B n L M D):M.dH.2=0/\M.dH.1.now=M.now/\jy (K+1) r E B n L M.dH.1 D:=by
 have ed:=h.hd.keeps.calm.quiet.Uj;have hk:=h.hd.keeps.calm.dH;have hnw:M.dH.1.now=M.now:=by rw [ed]
 have had:Alike M M.dH.1:=by rw [ed];exact ⟨rfl,rfl,rfl,λ_ _=>rfl⟩
 refine ⟨by rw [ed],hnw,⟨h.hd.alike ⟨h.hd.keeps.log,hk.mono oQ,λs hs=>by rw [hnw];exact h.hd.keeps.has s hs⟩ rfl had,by rw [hnw];exact h.tmp,h.few,by rw [hnw];exact h.small,h.thin⟩⟩
end
end Go.Seg
namespace Go.xB
open Go.aj (Bs dK aJ gy encs dV)
open Go.Seg (iH)
open Go.Rep
end Go.xB
namespace Go.aj
open Go.Seg (mag)
theorem ZM:∀ b:Bs,le (num b) b.length=b
 |[]=>rfl
 |c::b=>by
  have h:le (num (c::b)) (b.length+1)=UInt8.ofNat (num (c::b)%256)::le (num (c::b)/256) b.length:=rfl;have hc:=c.toNat_lt;have e1:num (c::b)=c.toNat+256*num b:=rfl;rw [aev,h,e1,show (c.toNat+256*num b)%256=c.toNat by omega,show (c.toNat+256*num b)/256=num b by omega,ZM b,UInt8.ofNat_toNat]
theorem ZN {b:Bs} (h:b.length=4):le (num b) 4=b:=by rw [<-h];exact ZM b
theorem aha {t:UInt8}{n:Nat} (h:fits t n=true):(t=0/\41<=n/\n<=16425)\/(t=1/\n=41)\/(t=2/\n=9):=by
 unfold fits at h;split at h
 ·exact .inl ⟨by assumption,by simpa using h⟩
 split at h
 ·exact .inr (.inl ⟨by assumption,by simpa using h⟩)
 split at h
 ·exact .inr (.inr ⟨by assumption,by simpa using h⟩)
 ·cases h
theorem abr {b:Bs} (h:(read b).2.2=0):dV (read b).1/\b.take (read b).2.1=(encode (read b).1).1/\(read b).2.1=(encode (read b).1).1.length/\(read b).2.1<=b.length:=by
 have hk:=(zW h).2.2;have hle:=(zW h).2.1
 suffices hs:check (read b).1=0/\b.take (read b).2.1=(encode (read b).1).1 by
  refine ⟨⟨?_,hk⟩,hs.2,?_,hle⟩
  ·unfold encode;rw [abL (by simp [hs.1])]
  ·rw [<-hs.2,adt];omega
 clear hk hle;unfold read at h ⊢;split at h
 ·cases h
 rename_i g1;rw [abL g1];dsimp only at h ⊢;split at h
 ·cases h
 rename_i g2;rw [abL g2];split at h
 ·cases h
 rename_i g3;rw [abL g3];split at h
 ·cases h
 rename_i g4;rw [abL g4];clear h;generalize hn:num ((b.drop 4).take 4)=n at *
 have g4':crc ((b.take n).drop 4)=num (b.take 4):=Classical.byContradiction g4;have l4:(b.take 4).length=4:=by rw [adt];omega
 have l8:((b.drop 4).take 4).length=4:=by rw [adt,adX];omega
 have e4:b.take 4=le (crc ((b.take n).drop 4)) 4:=by rw [g4',ZN l4]
 have e8:(b.drop 4).take 4=le n 4:=by rw [<-hn,ZN l8]
 have hf:=aha (show fits (b.getD 8 0) n=true by simpa using g2);have n9:9<=n:=by rcases hf with ⟨_,h,_⟩|⟨_,h⟩|⟨_,h⟩ <;> omega
 have hsplit:b.take n=b.take 4++(b.take n).drop 4:=by
  conv=>lhs;rw [<-aeX 4 (b.take n),apO,apg oQ]
 have hg8:∃ t,b[8]?=some t/\b.getD 8 0=t:=by
  have:8<b.length:=oQ;exact ⟨b[8],aaJ this,by rw [adV,aaJ this,Option.getD_some]⟩
 obtain ⟨t,GN,htd⟩:=hg8;rw [htd]at hf ⊢;have hmid:(b.take n).drop 4=le n 4++[t]++(b.take n).drop 9:=by
  have a1:(b.take n).drop 4=((b.take n).drop 4).take 4++((b.take n).drop 4).drop 4:=(aeX 4 _).symm;have a2:((b.take n).drop 4).take 4=(b.drop 4).take 4:=by
   rw [List.drop_take,apO,apg oQ]
  have a3:((b.take n).drop 4).drop 4=t::(b.take n).drop 9:=by
   rw [apD];have h8:8<(b.take n).length:=by rw [adt];omega
   rw [show 4+4=8 from rfl,agf h8]
   congr 1
   rw [List.getElem_take];have h8':8<b.length:=oQ;rw [aaJ h8']at GN;exact aiJ GN
  rw [a1,a2,a3,e8,ad2]
  rfl
 have key:∀ (x:aJ),check x=0->body x=(b.take n).drop 4->check x=0/\b.take n=(encode x).1:=λx hc hb=>by
  refine ⟨hc,?_⟩;unfold encode;rw [abL (by simp [hc])];show b.take n=le (crc (body x)) 4++body x;rw [hb,<-e4];exact hsplit
 rcases hf with ⟨rfl,h1,h2⟩|⟨rfl,rfl⟩|⟨rfl,rfl⟩
 ·rw [adU h1];have hd:((b.take n).drop 41).length=n-41:=by rw [adX,adt];omega
  have hc:check ⟨((0:UInt8).toNat:Int),(b.drop 9).take 32,(b.take n).drop 41⟩=0:=by
   unfold check;rw [adU ah,abL (by dsimp only;omega)]
  refine key _ hc ?_;unfold body size;rw [abL (λh=>h hc),abL (show ¬ ((0:UInt8).toNat:Int)=2 by decide),hmid];dsimp only;rw [hd,show 41+(n-41)=n by omega,abL (show ¬ ((0:UInt8).toNat:Int)=2 by decide)];have:(b.take n).drop 9=(b.drop 9).take 32++(b.take n).drop 41:=by
   rw [<-aeX 32 ((b.take n).drop 9),apD]
   congr 1
   rw [List.drop_take,apO,apg oQ]
  rw [this,ad2]
  rfl
 ·rw [adU aG];have hd:(b.take 41).drop 41=[]:=List.drop_eq_nil_of_le zM0;have hc:check ⟨((1:UInt8).toNat:Int),(b.drop 9).take 32,(b.take 41).drop 41⟩=0:=by
   unfold check;rw [abL (show ¬ ((1:UInt8).toNat:Int)=0 by decide),abL (show ¬ ((1:UInt8).toNat:Int)=2 by decide),adU ah,hd]
   rfl
  refine key _ hc ?_;unfold body size;rw [abL (λh=>h hc),abL (show ¬ ((1:UInt8).toNat:Int)=2 by decide),hmid];dsimp only;rw [hd,abL (show ¬ ((1:UInt8).toNat:Int)=2 by decide)];have:(b.take 41).drop 9=(b.drop 9).take 32:=by rw [List.drop_take]
  rw [this];simp
 ·rw [abL aG];have hd:(b.take 9).drop 9=[]:=List.drop_eq_nil_of_le zM0;have hc:check ⟨((2:UInt8).toNat:Int),zero32,[]⟩=0:=by
   unfold check;rw [abL (show ¬ ((2:UInt8).toNat:Int)=0 by decide),adU ah,abL yF0,abL yF0,abL yF0]
  refine key _ hc ?_;unfold body size;rw [abL (λh=>h hc),adU ah,hmid,hd,adU ah]
  rfl
theorem acz:∀ (k:Nat) (b:Bs) (at_:Nat),b.length<=k->(nS k b at_).2.2=0->∃ l:List aJ,(∀ x∈l,dV x)/\b=encs l/\(nS k b at_).1=gy l at_
 |0,b,at_,hb,_=>⟨[],yF0,ae9 oQ,rfl⟩
 |k+1,b,at_,hb,h=>by
  unfold nS at h ⊢;by_cases h0:b=[]
  ·exact ⟨[],by simp,h0,by rw [adU h0];rfl⟩
  rw [abL h0]at h ⊢;by_cases h1:(read b).2.2=0
  ·rw [abL (by simp [h1])]at h ⊢;obtain ⟨i1,i2,i3,i4⟩:=abr h1;have i5:=(zW h1).1;obtain ⟨l,j1,j2,j3⟩:=acz k (b.drop (read b).2.1) (at_+(read b).2.1) yM0 h;refine ⟨(read b).1::l,?_,?_,?_⟩
   ·intro x hx;rcases ad9.1 hx with rfl|hx
    ·exact i1
    ·exact j1 x hx
   ·show b=(encode (read b).1).1++encs l;rw [<-i2,<-j2,aeX]
   ·dsimp only;rw [j3,gy,<-i3]
  ·rw [adU h1]at h;exact absurd h h1
theorem amu {b:Bs} (h:(scan b).2.2=0):∃ l:List aJ,(∀ x∈l,dV x)/\b=mag++encs l/\(scan b).1=gy l 8:=by
 unfold scan at h ⊢;split at h
 ·rename_i hm;rw [adU hm];obtain ⟨l,i1,i2,i3⟩:=acz b.length (b.drop 8) 8 yM0 h;refine ⟨l,i1,?_,i3⟩;rw [<-i2]
  conv=>lhs;rw [<-aeX 8 b,hm]
  rfl
 ·cases h
def tK:Nat->Bs->Nat->List dK
 |0,_,_=>[]
 |k+1,b,at_=>
  if b=[] then []
  else if (read b).2.2≠0 then tK k (b.drop 1) (at_+1)
  else ⟨(read b).1,at_,(read b).2.1⟩::tK k (b.drop (read b).2.1) (at_+(read b).2.1)
def qR (b:Bs):List dK:=tK b.length b 0
theorem TS:∀ (k:Nat) (b:Bs) (at_:Nat),b.length<=k->(∀ f∈tK k b at_,dV f.e)/\(encs ((tK k b at_).map (·.e))).length<=b.length
 |0,b,at_,_=>⟨λf hf=>(by cases hf),ad4 _⟩
 |k+1,b,at_,hb=>by
  unfold tK;by_cases h0:b=[]
  ·rw [adU h0];exact ⟨λf hf=>(by cases hf),ad4 _⟩
  rw [abL h0];have hp:=List.length_pos_iff.2 h0;by_cases h1:(read b).2.2=0
  ·rw [abL (by simp [h1])];obtain ⟨i1,i2,i3,i4⟩:=abr h1;have i5:=(zW h1).1;obtain ⟨j1,j2⟩:=TS k (b.drop (read b).2.1) (at_+(read b).2.1) yM0;refine ⟨?_,?_⟩
   ·intro f hf;rcases ad9.1 hf with rfl|hf
    ·exact i1
    ·exact j1 f hf
   ·rw [aes];show ((encode (read b).1).1++encs _).length<=_;rw [aa7,<-i3];rw [adX]at j2;omega
  ·rw [adU h1];obtain ⟨j1,j2⟩:=TS k (b.drop 1) (at_+1) yM0;rw [adX]at j2;exact ⟨j1,by omega⟩
theorem amo (b:Bs):(∀ f∈qR b,dV f.e)/\(encs ((qR b).map (·.e))).length<=b.length:=TS _ b 0 (ab1 _)
end Go.aj
