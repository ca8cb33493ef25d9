import Derived.Test.YtihngncbioofnaaGreatDoorJ4
import Derived.Lib.Bytealg
import Derived.Lib.BytesEntry
import Derived.Sort.Grow
import Derived.Sort.OwnSorted
import Derived.Shelf.SlSortCmp.WholeK
import Derived.Shelf.SlSortCmp.NoneTotal
import Derived.Test.YtihngncbioofnaaGreatDoorSort
import Derived.RangeFuncNested
import Derived.RangeFuncLeaves
import Derived.TacticsIn
import Derived.OrdersIn
set_option maxRecDepth 100000
namespace Go.Proofs.YtihngncbioofnaaGreatDoor
open Go Go.Sl Go.ay Go.MapKept Go.RowKit
section
variable {P : Program} {ops : Array Oper} {a : Act} {dst : Option Tmp} {t ty : TypeId} {pos : String} {after : Array Edge} {x y : Operand} {v vx vy : Value} {ad : Addr} {fl : Nat} {bo : BinOp} {tz : TypeId} {g : Option (Nat × Bool)}
theorem gmQ (hw : Region.wanted ⟨dst, .move x, t, pos, after, g⟩ (yielded ops a.tmps) = true := by rfl) (hx : a.eval x = v := by conv => lhs; whnf) : Yields P ops ⟨dst, .move x, t, pos, after, g⟩ v a := tZ hw hx
end
end Go.Proofs.YtihngncbioofnaaGreatDoor
set_option linter.unusedVariables false
set_option maxHeartbeats 128000000
namespace Go.Seg
def Log.aF (L:Log):List Int:=L.l.map (·.1)
end Go.Seg
namespace Go.Proofs.YtihngncbioofnaaGreatDoor
open Go Go.Sl Go.ay Go.MapKept Go.RowKit
theorem acs:jr Tryz.prog 105=some (.agg #[.int .i64 0,.int .i64 0]):=by kernel_rfl
section
variable {w0 w:World}{F R:List aH}{v bv dv x lv:Value}{q p m K:Nat}{L:Seg.Log}{M:ay}{s:Int×Int}
theorem O5 (l k:List Int):ints (l++k)=ints l++ints k:=by unfold ints;rw [acI]
theorem O6 (l:List Int):(ints l).length=l.length:=by unfold ints;rw [abl]
theorem alj (hln:L.l.length≤1048576) (h:Sat w0 w (mF p m L lv::aB 105 2 lv (eF L.l)::F)) :
  (L.l=[]∧lv = .slice none 0 0)∨∃ b cap cs,lv = .slice (some ⟨b,0,none⟩) L.l.length cap∧(∀ (i:Nat) (s:Int×Int),L.l[i]?=some s→cs[i * 2]?=some (.int .i64 s.1)∧cs[i * 2+1]?=some (.int .i64 s.2)) ∧
   Sat w0 w (pt b (.cells cs 105 (0,0))::mF p m L lv::F)∧∀ w1 G,Sat w0 w1 (pt b (.cells cs 105 (0,0))::G)→Sat w0 w1 (aB 105 2 lv (eF L.l)::G):=by
 have h':=h.aY;rcases h'.kP with ⟨rfl,hx,hF⟩|⟨b,n',cap,cs,rfl,hll,hn',hc,hcm,htk,hp⟩
 ·left;refine ⟨?_,rfl⟩;cases hl:L.l with
  |nil=>rfl
  |cons a l=>rw [hl]at hx;simp [eF]at hx
 ·right;rw [kT]at hll;obtain rfl:n'=L.l.length:=by omega
  refine ⟨b,cap,cs,rfl,?_,hp,fun w1 G hS=>Sat.kR hS (by rw [kT];omega) hn' hc hcm htk⟩;intro i s hs;obtain ⟨h1,h2⟩:=KD _ _ _ hs;rw [ahC i 2];exact ⟨mZ htk h1,mZ htk h2⟩
theorem FY (hL:L.Ok) (h:Sat w0 w (aK p m L::F)) :
  Calls Tryz.prog 16 #[ptr p] w (aP fun v w'=>Sat w0 w' (aB 3 1 v (ints L.aF)::aK p m L::F)):=by
 obtain ⟨lv,hR⟩:=aK.oW h;clear h;have hok:=tu hR;rcases alj hL.len hR with ⟨hnil,rfl⟩|⟨b,cap,cs,rfl,hcl,hp,hend⟩
 ·have bF:=uQ (show L.aF=[] by unfold Seg.Log.aF;rw [hnil];rfl);clear hnil hL;go_enter Tryz.func16,Tryz.ntmps16;go_wp2_with fail;refine hok.mono ?_;rintro e w2 ⟨v,rfl,rfl,rfl⟩;clear hok;go_wp2_with ((with_reducible refine bI ⟨?_⟩);refine gu aQ aj bC bJ ak au ?_)
  go_loopg [14,3] 0 (fun g iq ov wr=>iq = .int .i64 0∧ov = .slice none 0 0∧wr=w)
  case atStart=>exact ⟨rfl,rfl,rfl⟩
  case round=>
   obtain ⟨rfl,rfl,rfl⟩:=hrel;go_wp2;go_ret;rw [bF.out];exact ⟨_,rfl,Sat.gI.2 (aK.shut2 hR)⟩
 ·have fP:=uQ hcl;have Ie:=uQ hend;have jJ:=uQ hL.len;clear hcl hend hL hR;go_enter Tryz.func16,Tryz.ntmps16;go_wp2_with fail;refine hok.mono ?_;rintro e w2 ⟨v,rfl,rfl,rfl⟩;clear hok;go_wp2_with ((with_reducible refine bI ⟨?_⟩);refine gu aQ aj bC bJ ak au ?_)
  go_loopg [14,3] L.l.length (fun g iq ov wr=>∃ i:Nat,g=L.l.length - i∧i≤L.l.length∧iq = .int .i64 i ∧
   Sat w0 wr (aB 3 1 ov (ints ((L.l.take i).map (·.1)))::pt b (.cells cs 105 (0,0))::mF p m L (.slice (some ⟨b,0,none⟩) L.l.length cap)::F))
  case atStart=>exact ⟨0,rfl,acV _,rfl,Sat.gI.2 hp⟩
  case round=>
   obtain ⟨i,rfl,hi,rfl,hS⟩:=hrel;clear hp;by_cases hlt:i<L.l.length
   ·obtain ⟨s,hs⟩:∃ s,L.l[i]?=some s:=⟨_,aaI hlt⟩
    have gY:=uQ (show ints ((L.l.take i).map (·.1))++[.int .i64 s.1]=ints ((L.l.take (i+1)).map (·.1)) by
     rw [adD,hs,acI,O5];rfl)
    have hlen:(ints ((L.l.take i).map (·.1))).length≤2147483648:=by
     rw [O6,abl,acA];have:=jJ.out;omega
    obtain ⟨d0,d1⟩:=fP.out i s hs;have LQ:=uQ d0;have Hd1:=uQ d1;have bV:=uQ hlt;have hic:(i:Int)<(L.l.length:Int):=oQ;have hwi:IntKind.i64.wrap ((i:Int)+1)=(i:Int)+1:=acC _ (by have:=jJ.out;omega);clear hs d0 d1 hlt
    go_wp2_with (first
     |((with_reducible refine bI ⟨?_⟩);refine DW (b:=b) (o:=i * 2) [.int .i64 s.1,.int .i64 s.2] aQ aj bC (fun j v hj=>by
       rcases j with _|_|j
       ·cases hj;exact LQ.out
       ·cases hj;exact Hd1.out
       ·simp at hj) Tryz.underlying105 rfl au ?_)
     |(refine fF acs aQ rfl ?_;intro q3 w3 hS3)
     |((with_reducible refine cO ⟨?_⟩);refine fG aQ aj ak pQ eX bJ au aj ?_;intro wS hS)|((with_reducible refine bI ⟨?_⟩);refine gu aQ aj bC bJ ak au ?_)|((with_reducible refine pI ⟨?_⟩);refine o7 (e:=3) (sz:=1) (eY:=8) au aQ ak ak aj bJ ?_;intro bN wN hN)|((with_reducible refine lX ⟨?_⟩);refine pW 3 1 8 au aQ aj aj bC bC aj bJ aj aQ bJ bJ ak ?_;intro bA nA cA wA hA))
    go_roundg (L.l.length - (i+1))
    case measure=>have:=bV.out;omega
    case rel=>
     refine ⟨i+1,rfl,adi bV.out,by first|rfl|go_num,?_⟩;rw [gY.out]at hA;exact Sat.sb hA
   ·obtain rfl:i=L.l.length:=by omega
    have hic:¬ (L.l.length:Int)<(L.l.length:Int):=oQ;rw [adk]at hS;clear hi hlt;go_wp2;go_ret;refine ⟨_,rfl,?_⟩;have h7:=Ie.out _ _ (hS.pk);exact Sat.sub (aK.shut2 (lv:= .slice (some ⟨b,0,none⟩) L.l.length cap) (Sat.sb h7)) pV
end
section
variable {w0 w:World}{F:List aH}{av bv v:Value}
theorem ak6 (la:List Int) (ha:Ro w0 F (bG 1 av (ints la))) (hb:Ro w0 F (bG 1 bv (ints la))) (h:Sat w0 w F) (hlen:la.length≤9223372036854775807) :
  Calls Tryz.prog 25 #[av,bv] w (aP fun v w'=>v = .bool true∧Sat w0 w' F):=by
 obtain ⟨aa,an,ac,rfl,hal,_⟩:=id (ha w h);obtain ⟨ba,bn,bc,rfl,hbl,_⟩:=id (hb w h);rw [show (ints la).length=la.length from abl ..,adb]at hal hbl;subst hal;obtain rfl:=hbl.symm;have Ha:=uQ ha;have Hb:=uQ hb;clear ha hb;go_enter Tryz.func25,Tryz.ntmps25;go_wp2
 go_loopg [5] la.length (fun g iq wr=>∃ i:Nat,g=la.length - i∧i≤la.length∧iq = .int .i64 i∧Sat w0 wr F)
 case atStart=>exact ⟨0,rfl,acV _,rfl,h⟩
 case round=>
  obtain ⟨i,rfl,hiN,rfl,hS⟩:=hrel;by_cases hi:i<la.length
  ·have hx:(ints la)[i]?=some (.int .i64 (la[i]'hi)):=by unfold ints;simp [hi]
   obtain ⟨bk,off,rfl,c1⟩:=wF (Ha.out _ hS) hx;obtain ⟨bk2,off2,rfl,c2⟩:=wF (Hb.out _ hS) hx;generalize (la[i]'hi)=X at c1 c2;clear hx;have hic:(i:Int)<(la.length:Int):=oQ;have hS1:=hS.drew;go_wp2;refine dS [8] (fun w'=>w'.cell? ⟨bk,off+i,none⟩=some (.int .i64 X)∧w'.cell? ⟨bk2,off2+i,none⟩=some (.int .i64 X)) au ?_;have hG:_∧_:=And.intro c1 c2
   refine rp 0 (hy:=(by first|((with_reducible apply Ak);refine ⟨?_⟩;exact zi ak)|((with_reducible apply Ad);refine ⟨?_⟩;exact y8 ak)|((with_reducible apply Am);refine ⟨?_⟩;exact zk ak)|((with_reducible apply Ah);refine ⟨?_⟩;exact zf ak bU)|((with_reducible apply Aj);refine ⟨?_⟩;exact o8 ak bU)|((with_reducible apply Ae);refine ⟨?_⟩;exact qG ak ak bU)|((with_reducible apply Ai);refine ⟨?_⟩;exact zh ak ak bU)|((with_reducible apply Ag);refine ⟨?_⟩;exact fC ak bU)|((with_reducible apply Ap);refine ⟨?_⟩;exact wL ak bU)|((with_reducible apply Af);refine ⟨?_⟩;exact y9 ak bU)|(refine Or.inl ⟨by rfl,?_⟩;((intro wq;go_simp);first|done|exact wQ)))) (h:=?_)
   refine rp 1 (hy:=(by first|((with_reducible apply Ak);refine ⟨?_⟩;exact zi ak)|((with_reducible apply Ad);refine ⟨?_⟩;exact y8 ak)|((with_reducible apply Am);refine ⟨?_⟩;exact zk ak)|((with_reducible apply Ah);refine ⟨?_⟩;exact zf ak bU)|((with_reducible apply Aj);refine ⟨?_⟩;exact o8 ak bU)|((with_reducible apply Ae);refine ⟨?_⟩;exact qG ak ak bU)|((with_reducible apply Ai);refine ⟨?_⟩;exact zh ak ak bU)|((with_reducible apply Ag);refine ⟨?_⟩;exact fC ak bU)|((with_reducible apply Ap);refine ⟨?_⟩;exact wL ak bU)|((with_reducible apply Af);refine ⟨?_⟩;exact y9 ak bU)|(refine Or.inl ⟨by rfl,?_⟩;((intro wq;go_simp);first|done|exact wQ)))) (h:=?_)
   refine rp 2 (hy:=(by first|((with_reducible apply Ak);refine ⟨?_⟩;exact zi ak)|((with_reducible apply Ad);refine ⟨?_⟩;exact y8 ak)|((with_reducible apply Am);refine ⟨?_⟩;exact zk ak)|((with_reducible apply Ah);refine ⟨?_⟩;exact zf ak bU)|((with_reducible apply Aj);refine ⟨?_⟩;exact o8 ak bU)|((with_reducible apply Ae);refine ⟨?_⟩;exact qG ak ak bU)|((with_reducible apply Ai);refine ⟨?_⟩;exact zh ak ak bU)|((with_reducible apply Ag);refine ⟨?_⟩;exact fC ak bU)|((with_reducible apply Ap);refine ⟨?_⟩;exact wL ak bU)|((with_reducible apply Af);refine ⟨?_⟩;exact y9 ak bU)|(refine Or.inl ⟨by rfl,?_⟩;((intro wq;go_simp);first|done|exact wQ)))) (h:=?_);refine rt 3 (h:=?_)
   refine rp 4 (hy:=(by first|((with_reducible apply Ak);refine ⟨?_⟩;exact zi ak)|((with_reducible apply Ad);refine ⟨?_⟩;exact y8 ak)|((with_reducible apply Am);refine ⟨?_⟩;exact zk ak)|((with_reducible apply Ah);refine ⟨?_⟩;exact zf ak bU)|((with_reducible apply Aj);refine ⟨?_⟩;exact o8 ak bU)|((with_reducible apply Ae);refine ⟨?_⟩;exact qG ak ak bU)|((with_reducible apply Ai);refine ⟨?_⟩;exact zh ak ak bU)|((with_reducible apply Ag);refine ⟨?_⟩;exact fC ak bU)|((with_reducible apply Ap);refine ⟨?_⟩;exact wL ak bU)|((with_reducible apply Af);refine ⟨?_⟩;exact y9 ak bU)|(refine Or.inl ⟨by rfl,?_⟩;((intro wq;go_simp);first|done|exact wQ)))) (h:=?_)
   refine rp 5 (hy:=(by first|((with_reducible apply Ak);refine ⟨?_⟩;exact zi ak)|((with_reducible apply Ad);refine ⟨?_⟩;exact y8 ak)|((with_reducible apply Am);refine ⟨?_⟩;exact zk ak)|((with_reducible apply Ah);refine ⟨?_⟩;exact zf ak bU)|((with_reducible apply Aj);refine ⟨?_⟩;exact o8 ak bU)|((with_reducible apply Ae);refine ⟨?_⟩;exact qG ak ak bU)|((with_reducible apply Ai);refine ⟨?_⟩;exact zh ak ak bU)|((with_reducible apply Ag);refine ⟨?_⟩;exact fC ak bU)|((with_reducible apply Ap);refine ⟨?_⟩;exact wL ak bU)|((with_reducible apply Af);refine ⟨?_⟩;exact y9 ak bU)|(refine Or.inl ⟨by rfl,?_⟩;((intro wq;go_simp);first|done|exact wQ)))) (h:=?_)
   refine rp 6 (hy:=(by first|((with_reducible apply Ak);refine ⟨?_⟩;exact zi ak)|((with_reducible apply Ad);refine ⟨?_⟩;exact y8 ak)|((with_reducible apply Am);refine ⟨?_⟩;exact zk ak)|((with_reducible apply Ah);refine ⟨?_⟩;exact zf ak bU)|((with_reducible apply Aj);refine ⟨?_⟩;exact o8 ak bU)|((with_reducible apply Ae);refine ⟨?_⟩;exact qG ak ak bU)|((with_reducible apply Ai);refine ⟨?_⟩;exact zh ak ak bU)|((with_reducible apply Ag);refine ⟨?_⟩;exact fC ak bU)|((with_reducible apply Ap);refine ⟨?_⟩;exact wL ak bU)|((with_reducible apply Af);refine ⟨?_⟩;exact y9 ak bU)|(refine Or.inl ⟨by rfl,?_⟩;((intro wq;go_simp);first|done|exact wQ)))) (h:=?_);refine rt 7 (h:=?_)
   refine rp 8 (hy:=(by first|((with_reducible apply Ak);refine ⟨?_⟩;exact zi ak)|((with_reducible apply Ad);refine ⟨?_⟩;exact y8 ak)|((with_reducible apply Am);refine ⟨?_⟩;exact zk ak)|((with_reducible apply Ah);refine ⟨?_⟩;exact zf ak bU)|((with_reducible apply Aj);refine ⟨?_⟩;exact o8 ak bU)|((with_reducible apply Ae);refine ⟨?_⟩;exact qG ak ak bU)|((with_reducible apply Ai);refine ⟨?_⟩;exact zh ak ak bU)|((with_reducible apply Ag);refine ⟨?_⟩;exact fC ak bU)|((with_reducible apply Ap);refine ⟨?_⟩;exact wL ak bU)|((with_reducible apply Af);refine ⟨?_⟩;exact y9 ak bU)|(refine Or.inl ⟨by rfl,?_⟩;((intro wq;go_simp);first|done|exact wQ)))) (h:=?_);refine dI au ?_;clear hG
   try go_frame
   go_wp2
   go_roundg (la.length - (i+1))
   case measure=>omega
   case rel=>exact ⟨i+1,rfl,by omega,by go_num,hS1⟩
  ·obtain rfl:i=la.length:=by omega
   have hic:¬ (la.length:Int)<(la.length:Int):=oQ;go_wp2;go_ret;exact ⟨.bool true,rfl,rfl,hS⟩
section
variable {L R:List aH}{b o:Nat}{ops:Array Oper}{rest:List Oper}{a:Act}{Q:Exit→Act→World→Prop}{dst:Option Tmp}{t ty T:TypeId}{pos:String}{after:Array Edge}{P:Program}{x:Operand}{cs:Array Value}{g:Nat×Bool}
theorem IL (h:Stop (wpList P ops Q (⟨dst,.load ty x,t,pos,after,some g⟩::rest) a w)):wpList P ops Q (⟨dst,.load ty x,t,pos,after,some g⟩::rest) a w:=h.out
theorem Ll (hw:Region.wanted ⟨dst,.load ty x,t,pos,after,some g⟩ (yielded ops a.tmps)=true) (hx:a.eval x = .pointer (some ⟨b,o,none⟩)) (cl:List Value) (d:TypeDesc) (hc:w.rangeAt b o cl)
  (hu:P.underlying ty=some d) (hd:d.isRow=true) (hi:(P.info? ty).map (·.size)=some cl.length)
  (h:wpList P ops Q rest (a.put dst (.agg cl.toArray)) w):wpList P ops Q (⟨dst,.load ty x,t,pos,after,some g⟩::rest) a w:=
 wpList_step fun _ hK=>by
  rw [acr hw];exact wp_load_mid ty x rfl b o hx cl d hc hu hd hi (hK _ _ h)
end
end
def aS (p:Seg.aU):List Value:=[.int .i64 p.seg,.int .i64 p.at_,.int .i64 p.size]
def bZ (a:Rep.dP):List Value:=[.int .i64 a.tag,.int .i64 a.place.seg,.int .i64 a.place.at_,.int .i64 a.place.size,.int .i64 a.first]
abbrev rX:Rep.dP:=⟨0,Seg.aU.zero,0⟩
abbrev rY:Seg.aU:=Seg.aU.zero
theorem qQ (p:Seg.aU):(aS p).length=3:=rfl
theorem vO (a:Rep.dP):(bZ a).length=5:=rfl
theorem uS (p:Seg.aU):(aS p).all (·.oneCell')=true:=rfl
theorem xC (a:Rep.dP):(bZ a).all (·.oneCell')=true:=rfl
def slotL {V:Type} (enc:V→List Value) (x:Tab.Slot V):List Value:= .int .i64 x.st::(aA x.key++enc x.val)
abbrev fJ (p:Nat) (T:TypeId) (sv:Value) (n g:Nat):aH:=pt p (.cells #[sv,.int .i64 n,.int .i64 g] T (0,0))
theorem jc {V:Type} (enc:V→List Value) (x:Tab.Slot V) (hk:x.key.length=32) (m:Nat) (he:(enc x.val).length=m):(slotL enc x).length=33+m:=by
 unfold slotL;rw [ac5,aaK,aX,hk,he];omega
theorem uz (b:ah.Bs):(aA b).all (·.oneCell')=true:=by
 rw [aeD];intro v hv;unfold aA at hv;obtain ⟨c,_,rfl⟩:=abZ.1 hv
 rfl
theorem mY {V:Type} (enc:V→List Value) (x:Tab.Slot V) (he:(enc x.val).all (·.oneCell')=true):(slotL enc x).all (·.oneCell')=true:=by
 unfold slotL;rw [aoI,ahh,uz,he];rfl
theorem alE {V:Type} (enc:V→List Value) (x:Tab.Slot V){j:Nat}{v:Value} (h:(aA x.key)[j]?=some v):(slotL enc x)[1+j]?=some v:=by
 unfold slotL;rw [aoh,ah9,ac2 (abW.1 h).1];exact h
theorem abk {V:Type} (enc:V→List Value) (x:Tab.Slot V) (hk:x.key.length=32){j:Nat}{v:Value} (h:(enc x.val)[j]?=some v):(slotL enc x)[33+j]?=some v:=by
 unfold slotL;rw [show 33+j=32+j+1 by omega,ah9,ac0 (by rw [aX,hk];omega),aX,hk,Nat.add_sub_cancel_left];exact h
theorem wO:jr Tryz.prog 289=some (.agg (slotL bZ ⟨0,ah.zero32,⟨0,Seg.aU.zero,0⟩⟩).toArray):=by kernel_rfl
theorem ug:jr Tryz.prog 164=some (.agg (slotL aS ⟨0,ah.zero32,Seg.aU.zero⟩).toArray):=by kernel_rfl
section
variable {w0 w:World}{L R:List aH}{b:Nat}{T:TypeId}{V:Type}{enc:V→List Value}{x:Tab.Slot V}{l:List Value}
theorem oZ (h:Sat w0 w (pt b (.cells l.toArray T (0,0))::R)):w.rangeAt b 0 l:=fun j v hj=>by
 have:=h.cellP aV j (by rw [abY];exact hj);rw [acT];exact this
theorem yP (h:Sat w0 w (pt b (.cells (slotL enc x).toArray T (0,0))::R)):w.rangeAt b 1 (aA x.key):=fun j v hj=>
 h.cellP aV (1+j) (by rw [abY];exact alE enc x hj)
theorem alF (hk:x.key.length=32) (h:Sat w0 w (pt b (.cells (slotL enc x).toArray T (0,0))::R)):w.rangeAt b 33 (enc x.val):=fun j v hj=>
 h.cellP aV (33+j) (by rw [abY];exact abk enc x hk hj)
end
end Go.Proofs.YtihngncbioofnaaGreatDoor
namespace Go.Tab
open Go.ah (Bs)
section
variable {V:Type}{x:Slot V}{c:Nat}
theorem Xl (hc:∃ j,c=2^j∧3≤j) (hk:x.key.length=32) (hx:x.st=0):Good (List.replicate c x):=
 ⟨by rw [adI];exact hc,(fun y hy=>by rw [List.eq_of_mem_replicate hy,hx];decide),(fun y hy=>by rw [List.eq_of_mem_replicate hy];exact hk),fun i y hy h1=>by
  rw [List.eq_of_mem_replicate (abV hy),hx]at h1;cases h1⟩
theorem Wn (hx:x.st=0) (k:Bs) (v:V):¬ Has (List.replicate c x) k v:=by
 rintro ⟨i,y,hy,h1,_⟩;rw [List.eq_of_mem_replicate (abV hy),hx]at h1;cases h1
theorem Wj (hx:x.st=0):jP (List.replicate c x)=0:=by unfold jP;rw [List.countP_replicate,abA (by rw [hx];decide)]
theorem Wp (hx:x.st=0):used (List.replicate c x)=0:=by unfold used;rw [List.countP_replicate,abA (by rw [hx];decide)]
theorem PU (hk:x.key.length=32) (hx:x.st=0):(⟨List.replicate 8 x,0,0⟩:Tb V).Ok:=
 ⟨Xl ⟨3,rfl,abL 3⟩ hk hx,(Wj hx).symm,(Wp hx).symm,by simp,by simp⟩
theorem PS (hx:x.st=0) (n g:Nat):(⟨List.replicate 8 x,n,g⟩:Tb V).Is (fun _=>none):=fun k v=>⟨fun h=>absurd h (Wn hx k v),fun h=>by cases h⟩
theorem Tb.Is.some {t:Tb V}{m:Bs→Option V} (hm:t.Is m) (ho:t.Ok){k:Bs}{d:Nat} (he:Ends t.slots k d){y:Slot V} (hy:t.slots[pos k t.slots.length d]?=some y):(y.st=1→m k=some y.val)∧(y.st≠1→m k=none):=by
 refine ⟨fun h1=>(hm k _).1 (Jb he hy h1).2,fun h1=>?_⟩;cases hmk:m k with
 |none=>rfl
 |some v=>exact absurd ((hm k v).2 hmk) ((Ja ho.good he hy h1).2 v)
end
end Go.Tab
namespace Go.Proofs.YtihngncbioofnaaGreatDoor
open Go Go.Sl Go.ay Go.MapKept Go.RowKit
theorem Y5 (z:Array Value) (h:0<z.size):∀ n,(madeCells z (n * z.size)).toList=(List.replicate n z.toList).flatten
 |0=>by simp [madeCells]
 |n+1=>by
  have ih:=Y5 z h n;have hl:(madeCells z ((n+1) * z.size)).toList=(List.range ((n+1) * z.size)).map (z[· % z.size]!):=by unfold madeCells;simp
  have hl0:(madeCells z (n * z.size)).toList=(List.range (n * z.size)).map (z[· % z.size]!):=by unfold madeCells;simp
  rw [hl0]at ih;rw [hl,Nat.succ_mul,List.range_add,acI,ih,List.replicate_succ',List.flatten_append]
  congr 1
  rw [aee];simp only [anI,List.flatten_nil,acM];refine List.ext_getElem (by simp) fun i h1 h2=>?_;have hi:i<z.size:=by simpa using h1
  simp only [List.getElem_map,List.getElem_range,Function.comp];rw [ahC n,Nat.mul_add_mod,anU hi,getElem!_pos z i hi,Array.getElem_toList]
section
variable {P:Program}{w0 w:World}{L L' R:List aH}{b o:Nat}{ops:Array Oper}{rest:List Oper}{a:Act}{Q:Exit→Act→World→Prop}{dst:Option Tmp}{t ty T e sz eY n c:Nat}{pos:String}{after:Array Edge}{x y:Operand}{v:Value}{zs:List Value}
theorem at_make (h:Stop (wpList P ops Q (⟨dst,.makeSlice ty x y,t,pos,after,none⟩::rest) a w)):wpList P ops Q (⟨dst,.makeSlice ty x y,t,pos,after,none⟩::rest) a w:=h.out
theorem DX (hb:pG P ty e sz eY=true) (hz:jr P e=some (.agg zs.toArray)) (hs:Sat w0 w L) (hx:a.eval x = .int .i64 n) (hy:a.eval y = .int .i64 n) (hle:eY * n≤281474976710656) (hm:n≤9223372036854775807)
  (hK:∀ b w',Sat w0 w' (aB e sz (.slice (some ⟨b,0,none⟩) n n) (List.replicate n zs).flatten::L)→wpList P ops Q rest (a.put dst (.slice (some ⟨b,0,none⟩) n n)) w') :
  wpList P ops Q (⟨dst,.makeSlice ty x y,t,pos,after,none⟩::rest) a w:=by
 obtain ⟨hu,i,z,hi,hz1,h1,h2,h3,h4⟩:=xE hb;have hzz:z = .agg zs.toArray:=by
  unfold jr at hz;rw [hi]at hz;simp only [Option.bind_some]at hz;rw [hz1]at hz;exact ahM hz
 subst hzz;have hzl:zs.length=sz:=by rw [← abX];exact h3
 have hr:=run_make (P:=P) w ty e i (.agg zs.toArray) hu hi hz1 .i64 .i64 n n oQ (an2 _) (by rw [h2,← Int.natCast_mul];omega) oQ;simp only [Int.toNat_natCast]at hr;have hS:=hs.alloc (.cells (madeCells (Value.agg zs.toArray).cells (n * i.size)) e);refine aeB rfl fun _ hK'=>?_;unfold Oper.wp execOp;simp only [hx,hy,hr,acN,ac1,acB];refine hK' _ _ (hK _ _ ?_);have hm:=Y5 zs.toArray (by rw [abX];omega) n;rw [abX,hzl]at hm;refine Sat.kR hS (by rw [List.length_flatten,List.map_replicate,List.sum_replicate_nat,hzl]) (abL _) (by rw [size_madeCells,h1];exact abL _) (by unfold maxLen;omega) ?_;rw [h1];show (madeCells zs.toArray (n * sz)).toList.take (n * sz)=_;rw [hm,acX (by rw [List.length_flatten,List.map_replicate,List.sum_replicate_nat,hzl];exact abL _)]
end
end Go.Proofs.YtihngncbioofnaaGreatDoor
namespace Go.Tab
open Go.ah (Bs)
structure vM {V:Type} (t:Tb V) (s':List (Slot V)) (N:Nat):Prop where
 good:Good s'
 has:∀ k v,Has s' k v↔Has t.slots k v
 nf:jP s'=t.n
 nu:used s'=t.n
 lo:2 * N≤s'.length
 lo8:8≤s'.length
 hi:s'.length=8∨s'.length<4 * N
theorem vM.ok {V:Type}{t:Tb V}{s':List (Slot V)} (h:vM t s' (t.n+1)):(⟨s',t.n,0⟩:Tb V).Ok:=
 ⟨h.good,h.nf.symm,by rw [h.nu];rfl,by have:=h.lo;simp only;omega,by have:=h.hi;simp only;omega⟩
theorem vM.is {V:Type}{t:Tb V}{s':List (Slot V)}{N:Nat} (h:vM t s' N){m:Bs→Option V} (hm:t.Is m) (n g:Nat):(⟨s',n,g⟩:Tb V).Is m:=fun k v=>(h.has k v).trans (hm k v)
theorem half_start {V:Type}{old:List (Slot V)}{x:Slot V}{c:Nat} (hc:∃ j,c=2^j∧3≤j) (hk:x.key.length=32) (hx:x.st=0):Half old (List.replicate c x) 0:=
 ⟨Xl hc hk hx,fun k v=>⟨fun h=>absurd h (Wn hx k v),fun h=>by obtain ⟨i,y,hy,_⟩:=h;simp at hy⟩,by rw [Wj hx];rfl,by rw [Wp hx];rfl⟩
end Go.Tab
namespace Go.Proofs.YtihngncbioofnaaGreatDoor
open Go Go.Sl Go.ay Go.MapKept Go.RowKit
theorem Gh (A B vs:List Value) (i:Nat) (h:i+vs.length≤A.length):jY (A++B) i vs=jY A i vs++B:=by
 unfold jY;rw [ado oQ,anf oQ];simp only [acD]
theorem Gt {α:Type}{f:α→List Value}{k:Nat}:∀ {l:List α}{i o:Nat}{x x':α}{vs:List Value},(∀ x∈l,(f x).length=k)→l[i]?=some x→f x'=jY (f x) o vs→o+vs.length≤k→(l.set i x').flatMap f=jY (l.flatMap f) (i * k+o) vs
 |[],_,_,_,_,_,_,h,_,_=>by cases h
 |y::l,0,o,x,x',vs,hk,h,hx,ho=>by
  obtain rfl:y=x:=by simpa using h
  rw [List.set_cons_zero,ada,ada,Nat.zero_mul,acT,hx,Gh _ _ _ _ (by rw [hk y (.head _)];exact ho)]
 |y::l,i+1,o,x,x',vs,hk,h,hx,ho=>by
  have h0:=hk y (.head _);rw [List.set_cons_succ,ada,ada,Gt (fun z hz=>hk z (.tail _ hz)) (by simpa using h) hx ho,show (i+1) * k+o=(f y).length+(i * k+o) by rw [h0,Nat.succ_mul];omega,Bc]
theorem Rt {V:Type} (enc:V→List Value) (x:Tab.Slot V) (v:V) (hk:x.key.length=32) (he:(enc v).length=(enc x.val).length):slotL enc ⟨x.st,x.key,v⟩=jY (slotL enc x) 33 (enc v):=by
 have e:slotL enc x=(.int .i64 x.st::aA x.key)++enc x.val:=rfl;have hl:(Value.int .i64 x.st::aA x.key).length=33:=by rw [ac5,aX,hk]
 rw [e,show 33=(Value.int .i64 x.st::aA x.key).length+0 by rw [hl],Bc];unfold jY;rw [adH,adl,acT,he,List.drop_length,acM];rfl
section
variable {w0 w:World}{R:List aH}{T sz n c:Nat}{a:Option Addr}{xs:List Value}
theorem Ba (h:Sat w0 w (aB T sz (.slice a n c) xs::R)) (hx:0<xs.length):∃ b,a=some ⟨b,0,none⟩:=by
 rcases Sat.kP h with ⟨_,rfl,_⟩|⟨b,n',cap',cs,he,_⟩
 ·simp at hx
 ·cases he;exact ⟨b,rfl⟩
end
theorem Ti (n g l:Nat) (h:n+g≤134217728) (hl:l≤1073741824) :
  IntKind.i64.wrap ((n:Int)+(g:Int))=(n:Int)+(g:Int)∧IntKind.i64.wrap ((n:Int)+(g:Int)+1)=(n:Int)+(g:Int)+1∧IntKind.i64.wrap (4 * ((n:Int)+(g:Int)+1))=4 * ((n:Int)+(g:Int)+1)∧IntKind.i64.wrap (3 * (l:Int))=3 * (l:Int) ∧
  wrap64 ((n:Int)+(g:Int))=(n:Int)+(g:Int)∧wrap64 ((n:Int)+(g:Int)+1)=(n:Int)+(g:Int)+1∧wrap64 (4 * ((n:Int)+(g:Int)+1))=4 * ((n:Int)+(g:Int)+1)∧wrap64 (3 * (l:Int))=3 * (l:Int)∧IntKind.i64.wrap ((n:Int)+1)=(n:Int)+1:=
 ⟨acC _ oQ,acC _ oQ,acC _ oQ,acC _ oQ,adM _ oQ,adM _ oQ,adM _ oQ,adM _ oQ,acC _ oQ⟩
theorem ajf:rM Tryz.prog 289=some [(0,1),(1,32),(33,5)]:=by kernel_rfl
theorem ZX:rM Tryz.prog 164=some [(0,1),(1,32),(33,3)]:=by kernel_rfl
theorem Dt {xs vs:List Value} (h:vs.length=xs.length):jY xs 0 vs=vs:=by
 unfold jY;rw [adH,adl,acT,h,List.drop_length,acM]
theorem Bg (cs:Array Value) (o:Nat) (vs:List Value) (h:o+vs.length≤cs.size):(eu cs o vs).toList=jY cs.toList o vs:=by
 rw [lg _ _ _ h,acD];rfl
theorem Qm {V:Type} (enc:V→List Value) (z:Tab.Slot V) (k:ah.Bs) (v:V) (hz:z.key.length=32) (hk:k.length=32) (he:(enc v).length=(enc z.val).length) (n:Nat) (hn:(enc z.val).length=n) :
  Gi [(0,1),(1,32),(33,n)] (slotL enc z).toArray [(0,.int .i64 1),(1,.agg (aA k).toArray),(2,.agg (enc v).toArray)]=(slotL enc ⟨1,k,v⟩).toArray:=by
 have hzl:(slotL enc z).length=33+n:=by rw [jc enc z hz _ hn]
 show eu (eu (eu (slotL enc z).toArray 0 [.int .i64 1]) 1 (aA k)) 33 (enc v)=_;apply qR;rw [Bg _ _ _ (by rw [kE,kE,abX,hzl];omega),Bg _ _ _ (by rw [kE,abX,hzl,aX,hk];omega),Bg _ _ _ (by rw [abX,hzl,ac7];omega)];have e:slotL enc z=[.int .i64 z.st]++(aA z.key++enc z.val):=rfl;have e1:jY (slotL enc z) 0 [.int .i64 1]=[.int .i64 1]++(aA z.key++enc z.val):=by
  rw [e,Gh _ _ _ _ (abL 1)];rfl
 have e2:jY ([Value.int .i64 1]++(aA z.key++enc z.val)) 1 (aA k)=[Value.int .i64 1]++(aA k++enc z.val):=by
  have h0:=Bc [Value.int .i64 1] (aA z.key++enc z.val) (aA k) 0;have h1:jY (aA z.key++enc z.val) 0 (aA k)=aA k++enc z.val:=by
   rw [Gh _ _ _ _ (by rw [aX,aX,hk,hz];omega),Dt (by rw [aX,aX,hk,hz])]
  rw [h1]at h0;exact h0
 have e3:jY ([Value.int .i64 1]++(aA k++enc z.val)) 33 (enc v)=[Value.int .i64 1]++(aA k++enc v):=by
  have h0:=Bc ([Value.int .i64 1]++aA k) (enc z.val) (enc v) 0;rw [Dt he]at h0;have hl:([Value.int .i64 1]++aA k).length+0=33:=by rw [aaK,aX,hk];rfl
  rw [hl,acD,acD]at h0;exact h0
 simp only [];rw [e1,e2,e3];rfl
end Go.Proofs.YtihngncbioofnaaGreatDoor
namespace Go.Tab
open Go.ah (Bs num)
section
variable {V:Type}{s:List (Slot V)}{x z:Slot V}{k:Bs}{v:V}{d:Nat}
def del (m:Bs→Option V) (k:Bs):Bs→Option V:=fun l=>if l=k then none else m l
theorem VZ (g:Good s) (he:Ends s k d) (hx:s[pos k s.length d]?=some x) (hf:x.st=1) (hz:z.st=2) (OX:z.key.length=32) :
  Good (s.set (pos k s.length d) z)∧∀ k' v',Has (s.set (pos k s.length d) z) k' v'↔k'≠k∧Has s k' v':=by
 obtain ⟨hk,_⟩:=Jb he hx hf;have hlt:pos k s.length d<s.length:=lV g.jB;generalize hp:pos k s.length d=p at *
 have hst:∀ q l,qB (s.set p z) l q→qB s l q:=fun q l=>by
  unfold qB;by_cases h:p=q
  ·subst h;rw [uV hlt];rintro ⟨y,hy,h1⟩;cases hy;rcases h1 with h1|⟨h1,_⟩ <;> omega
  ·rw [rW h];exact id
 refine ⟨⟨by rw [ag6];exact g.pow,fun y hy=>?_,fun y hy=>?_,fun q y hq hy=>?_⟩,fun k' v'=>?_⟩
 ·rcases anj hy with h|rfl
  ·exact g.st y h
  ·omega
 ·rcases anj hy with h|rfl
  ·exact g.key y h
  ·exact OX
 ·rw [ag6];by_cases h:p=q
  ·subst h;rw [uV hlt]at hq;cases hq;omega
  ·rw [rW h]at hq;obtain ⟨d',a,b,c⟩:=g.reach q y hq hy;exact ⟨d',a,b,fun e h hh=>c e h (hst _ _ hh)⟩
 ·constructor
  ·rintro ⟨q,y,hq,h1,h2,h3⟩;by_cases h:p=q
   ·subst h;rw [uV hlt]at hq;cases hq;omega
   ·rw [rW h]at hq;refine ⟨fun e=>?_,q,y,hq,h1,h2,h3⟩;exact h (g.one hx hq hf h1 (hk.trans (e.symm.trans h2.symm)))
  ·rintro ⟨hne,q,y,hq,h1,h2,h3⟩;have:p≠q:=fun h=>by
    subst h;rw [hx]at hq;cases hq;exact hne (h2.symm.trans hk)
   exact ⟨q,y,by rw [rW this];exact hq,h1,h2,h3⟩
theorem ahA {t:Tb V}{m:Bs→Option V}{s':List (Slot V)} (hm:t.Is m) (h:∀ k' v',Has s' k' v'↔k'≠k∧Has t.slots k' v') (n g:Nat):(⟨s',n,g⟩:Tb V).Is (del m k):=fun k' v'=>by
 rw [show (⟨s',n,g⟩:Tb V).slots=s' from rfl,h];unfold del;split
 ·rename_i e;exact ⟨fun q=>absurd e q.1,fun q=>by cases q⟩
 ·rename_i e;rw [hm];exact ⟨fun q=>q.2,fun q=>⟨e,q⟩⟩
theorem afh {t:Tb V} (h:t.Ok) (he:Ends t.slots k d) (hx:t.slots[pos k t.slots.length d]?=some x) (hf:x.st=1) (hz:z.st=2) (OX:z.key.length=32) :
  0<t.n∧(⟨t.slots.set (pos k t.slots.length d) z,t.n - 1,t.gone+1⟩:Tb V).Ok:=by
 have h1:=wH (fun x=>x.st==1) t.slots _ x z hx;have h2:=wH (fun x=>x.st != 0) t.slots _ x z hx;have hn:0<jP t.slots:=by
  unfold jP;exact List.countP_pos_iff.2 ⟨x,abV hx,by simp [hf]⟩
 have hn2:=h.n;refine ⟨by omega,(VZ h.good he hx hf hz OX).1,?_,?_,?_,?_⟩
 ·unfold jP at *;simp [hf,hz]at h1 ⊢;omega
 ·have:=h.gone;unfold used at *;simp [hf,hz]at h2 ⊢;omega
 ·have:=h.load;simp only [ag6];omega
 ·have:=h.size;simp only [ag6];omega
theorem vM.ok0 {t:Tb V}{s':List (Slot V)} (h:vM t s' t.n):(⟨s',t.n,0⟩:Tb V).Ok:=
 ⟨h.good,h.nf.symm,by rw [h.nu];rfl,by have:=h.lo;have:=h.lo8;have:=h.hi;simp only;omega,by have:=h.hi;simp only;omega⟩
end
end Go.Tab
namespace Go.Tab
open Go.ah (Bs)
theorem IV (a b:Bs):a<b∨a=b∨b<a:=by
 by_cases h1:a<b
 ·exact .inl h1
 ·rcases List.le_iff_lt_or_eq.1 (List.not_lt.1 h1) with h2|h2
  ·exact .inr (.inr h2)
  ·exact .inr (.inl h2.symm)
structure Lists {V:Type} (m:Bs→Option V) (l:List (Bs×V)):Prop where
 rise:l.Pairwise fun a b=>a.1<b.1
 mem:∀ k v,(k,v)∈l↔m k=some v
theorem aat {V:Type}:∀ {l l':List (Bs×V)},l.Pairwise (fun a b=>a.1<b.1)→l'.Pairwise (fun a b=>a.1<b.1)→(∀ p,p∈l↔p∈l')→l=l'
 |[],[],_,_,_=>rfl
 |[],b::l',_,_,h=>by have:=(h b).2 (.head _);cases this
 |a::l,[],_,_,h=>by have:=(h a).1 (.head _);cases this
 |a::l,b::l',h1,h2,h=>by
  obtain ⟨a1,a2⟩:=aeA.1 h1;obtain ⟨b1,b2⟩:=aeA.1 h2;have hab:a=b:=by
   rcases acK.1 ((h a).1 (.head _)) with e|h3
   ·exact e
   ·rcases acK.1 ((h b).2 (.head _)) with e|h4
    ·exact e.symm
    ·exact absurd (aoH (b1 a h3) (a1 b h4)) (aoc _)
  subst hab
  congr 1
  refine aat a2 b2 fun p=>?_;have:=h p;rw [acK,acK]at this;constructor
  ·intro hp;rcases this.1 (.inr hp) with e|h3
   ·subst e;exact absurd (a1 p hp) (aoc _)
   ·exact h3
  ·intro hp;rcases this.2 (.inr hp) with e|h3
   ·subst e;exact absurd (b1 p hp) (aoc _)
   ·exact h3
theorem Lists.unique {V:Type}{m:Bs→Option V}{l l':List (Bs×V)} (h:Lists m l) (h':Lists m l'):l=l':=
 aat h.rise h'.rise fun p=>by rw [h.mem p.1 p.2,h'.mem p.1 p.2]
theorem Lists.keys {V:Type}{m:Bs→Option V}{l:List (Bs×V)} (h:Lists m l):(l.map (·.1)).Nodup:=by
 rw [List.nodup_iff_pairwise_ne,aij];exact h.rise.imp fun {a b} hab e=>by rw [e]at hab;exact aoc _ hab
def ins {V:Type}:List (Bs×V)→Bs×V→List (Bs×V)
 |[],x=>[x]
 |y::l,x=>if x.1<y.1 then x::y::l else y::ins l x
end Go.Tab
namespace Go.Rep
open Go.ah (Bs dA)
open Go.Seg (aU)
open Go.Tab
def idx (l:List Row):Nat→List (Bs×aU)
 |0=>[]
 |i+1=>match l[i]? with
  |none=>idx l i
  |some r=>if cnt l i=true∧dJ r=0 then ins (idx l i) (fB r,iH r) else idx l i
def live (l:List Row) (s:Int):Nat→Int
 |0=>0
 |i+1=>match l[i]? with
  |none=>live l s i
  |some r=>if cnt l i=true∧r.1=s then live l s i+r.2.size else live l s i
def gB (s:Int):List (Bs×dP)→Int
 |[]=>0
 |p::l=>(if counts p.2=true∧p.2.place.seg=s then p.2.place.size else 0)+gB s l
def puts (kv:List (Bs×dP)):List (Bs×aU):=(kv.filter fun p=>decide (p.2.tag=0)).map fun p=>(p.1,p.2.place)
theorem aix {l:List Row}{i j:Nat}{r x:Row} (hi:l[i]?=some r) (hj:l[j]?=some x) (h1:mP l i=true) (h2:mP l j=true) (hk:fB r=fB x):i=j:=by
 have aux:∀ {i j:Nat} {r x:Row},l[i]?=some r→l[j]?=some x→mP l i=true→mP l j=true→fB r=fB x→¬ i<j:=by
  intro i j r x hi hj h1 h2 hk hlt;unfold mP at h1 h2;rw [hi]at h1;rw [hj]at h2;simp only [adg,acF,aeD]at h1 h2;have hm:x∈l.drop (i+1):=by
   refine abV (i:=j - (i+1)) ?_;rw [anQ,show i+1+(j - (i+1))=j by omega];exact hj
  have:=h1.2 x hm;simp [h2.1,hk]at this
 rcases aoD i j with q|q|q
 ·exact absurd q (aux hi hj h1 h2 hk)
 ·exact q
 ·exact absurd q (aux hj hi h2 h1 hk.symm)
def uM (l:List Row):Nat→List Bs
 |0=>[]
 |i+1=>match l[i]? with
  |none=>uM l i
  |some r=>if mP l i=true then fB r::uM l i else uM l i
theorem PO {l:List Row}:∀ {n:Nat}{k:Bs},k∈uM l n↔∃ i r,i<n∧l[i]?=some r∧mP l i=true∧fB r=k
 |0,k=>by simp [uM]
 |n+1,k=>by
  have ih:=@PO l n k;unfold uM;constructor
  ·intro h;split at h
   ·obtain ⟨i,r,a,b⟩:=ih.1 h;exact ⟨i,r,by omega,b⟩
   ·rename_i r hr;split at h
    ·rename_i hc;rcases acK.1 h with e|h
     ·exact ⟨n,r,by omega,hr,hc,e.symm⟩
     ·obtain ⟨i,r,a,b⟩:=ih.1 h;exact ⟨i,r,by omega,b⟩
    ·obtain ⟨i,r,a,b⟩:=ih.1 h;exact ⟨i,r,by omega,b⟩
  ·rintro ⟨i,r,hi,hr,hc,rfl⟩;by_cases hin:i<n
   ·have:=ih.2 ⟨i,r,hin,hr,hc,rfl⟩;split
    ·exact this
    ·split
     ·exact .tail _ this
     ·exact this
   ·obtain rfl:i=n:=by omega
    rw [hr];simp only;rw [acr hc];exact .head _
theorem JG {l:List Row}:∀ n,(uM l n).Nodup
 |0=>List.nodup_nil
 |n+1=>by
  unfold uM;split
  ·exact JG n
  ·rename_i r hr;split
   ·rename_i hc;refine amL.2 ⟨fun h=>?_,JG n⟩;obtain ⟨i,x,a,b,c,d⟩:=PO.1 h;have:=aix b hr c hc d;omega
   ·exact JG n
def adds (l:List Row) (s:Int) (k:Bs):Int:=match ledger l k with
 |some a=>if counts a=true∧a.place.seg=s then a.place.size else 0
 |none=>0
theorem al0 {f:Bs→Int}{l l':List Bs} (h:l.Perm l'):(l.map f).sum=(l'.map f).sum:=by
 induction h with
 |nil=>rfl
 |cons x _ ih=>simp only [acS,aor,ih]
 |swap x y l=>simp only [acS,aor];omega
 |trans _ _ h1 h2=>rw [h1,h2]
theorem YV {l:List Row} (hl:Rows l) (s:Int):∀ n,live l s n=((uM l n).map (adds l s)).sum
 |0=>rfl
 |n+1=>by
  have ih:=YV hl s n;unfold live uM;split
  ·rename_i hr;rw [ih]
  ·rename_i r hr;by_cases hn:mP l n=true
   ·obtain ⟨a,h1,h2,h3,h4⟩:=VF hl hr hn;rw [acr hn,acS,aor,ih];unfold adds;rw [h1];simp only;rw [h4,h3,show (iH r).seg=r.1 from rfl,show (iH r).size=(r.2.size:Int) from rfl];split
    ·exact Int.add_comm _ _
    ·exact (Int.zero_add _).symm
   ·rw [abA hn,abA (fun h=>hn (aeP h.1)),ih]
theorem YS {l:List Row} (s:Int):∀ (kv:List (Bs×dP)),(∀ p∈kv,ledger l p.1=some p.2)→gB s kv=((kv.map (·.1)).map (adds l s)).sum
 |[],_=>rfl
 |p::kv,h=>by
  rw [acS,acS,aor,← YS s kv fun q hq=>h q (.tail _ hq)];unfold adds;rw [h p (.head _)]
  rfl
theorem YU {l:List Row} (hl:Rows l){kv:List (Bs×dP)} (hk:Lists (ledger l) kv) (s:Int):live l s l.length=gB s kv:=by
 rw [YV hl,YS s kv fun p hp=>(hk.mem p.1 p.2).1 hp];refine al0 ((List.perm_ext_iff_of_nodup (JG _) hk.keys).2 fun k=>?_);rw [PO,abZ];constructor
 ·rintro ⟨i,r,_,hr,hn,rfl⟩;obtain ⟨a,h1,_⟩:=VF hl hr hn;exact ⟨(fB r,a),(hk.mem _ _).2 h1,rfl⟩
 ·rintro ⟨⟨k',a⟩,hp,rfl⟩;have h3:=(hk.mem _ _).1 hp;unfold ledger at h3;cases hn:newest l k' with
  |none=>rw [hn]at h3;cases h3
  |some r=>
   obtain ⟨i,a,b,c,_⟩:=Zk hl.tag hn;exact ⟨i,r,(abW.1 a).1,a,b,c⟩
end Go.Rep
namespace Go.Tab
open Go.ah (Bs)
theorem IZ:∀ (a b:Bs),Lib.compareBytes a b<0↔a<b
 |[],[]=>by simp [Lib.compareBytes]
 |[],b::bs=>by simp [Lib.compareBytes]
 |a::l,[]=>by simp [Lib.compareBytes]
 |a::l,b::bs=>by
  rw [List.cons_lt_cons_iff,← IZ l bs];rw [show Lib.compareBytes (a::l) (b::bs)=if a<b then -1 else if b<a then 1 else Lib.compareBytes l bs from rfl];by_cases h1:a<b
  ·simp [h1]
  ·rw [abA h1];by_cases h2:b<a
   ·rw [acr h2];constructor
    ·intro h;exact absurd h aN
    ·rintro (h|⟨rfl,_⟩)
     ·exact absurd h h1
     ·exact absurd h2 h1
   ·rw [abA h2];have:a=b:=by
     have h3:¬ a.toNat<b.toNat:=fun h=>h1 (UInt8.lt_iff_toNat_lt.2 h);have h4:¬ b.toNat<a.toNat:=fun h=>h2 (UInt8.lt_iff_toNat_lt.2 h);exact UInt8.toNat_inj.1 oQ
    subst this;constructor
    ·intro h;exact .inr ⟨rfl,h⟩
    ·rintro (h|⟨_,h⟩)
     ·exact absurd h h1
     ·exact h
end Go.Tab
namespace Go.Proofs.YtihngncbioofnaaGreatDoor
open Go Go.Sl Go.ay Go.MapKept Go.RowKit
theorem zJ (b o j:Nat):(⟨b,o,none⟩:Addr).add j=⟨b,o+j,none⟩:=by unfold Addr.add;split <;> simp_all
section
variable {w0 w:World}{F R:List aH}{v bv av:Value}
theorem aaQ {l:ah.Bs} (h:bG 1 v (aA l) w):(Extern.Bytes.bytesOf v).run Tryz.prog w = .ok ⟨l.toArray⟩ w:=by
 obtain ⟨a,n,c,rfl,hl,hx⟩:=h;rw [aX,adb]at hl;subst hl;cases a with
 |none=>
  obtain rfl:l=[]:=by
   cases l with
   |nil=>rfl
   |cons d l=>obtain ⟨b,hb,_⟩:=hx 0 _ rfl;cases hb
  rfl
 |some ad=>
  have:=Lib.run_loadBytesX (P:=Tryz.prog) w (l.map fun c=>(c.toNat:Int)) ad .empty (fun j x hj=>by
   rw [acE]at hj;obtain ⟨c',hc',rfl⟩:=ag4.1 hj;have hy:(aA l)[j]?=some (.int .u8 c'.toNat):=by unfold aA;rw [acE,hc'];rfl
   obtain ⟨b,hb,hc⟩:=hx _ _ hy;cases hb;exact hc)
  rw [abl]at this;simp only [Extern.Bytes.bytesOf,this];have e:Lib.bytesOf (l.map fun c=>(c.toNat:Int))=l:=by
   unfold Lib.bytesOf;rw [aee]
   conv=>rhs;rw [← List.map_id l]
   exact amJ fun c _=>by simp
  rw [e];show Result.ok ({ data:=(#[]:Array UInt8)++l.toArray }:ByteArray) w=_;rw [Array.empty_append]
theorem akA {x y:ah.Bs} (h1:bG 1 av (aA x) w) (h2:bG 1 bv (aA y) w):(Extern.BytealgCompare.compare #[av,bv]).run Tryz.prog w = .ok (.int .i64 (Lib.compareBytes x y)) w:=by
 change Sem.run Tryz.prog (do pure (goInt (Extern.BytealgCompare.cmp (← Extern.Bytes.bytesOf av) (← Extern.Bytes.bytesOf bv)))) w=_;simp only [acN,ac1,aaQ h1,aaQ h2,Result.andThen];rw [Lib.cmp_eq]
 rfl
theorem Vk (x y:ah.Bs) (h1:bG 1 av (aA x) w) (h2:bG 1 bv (aA y) w) :
  Calls Tryz.prog 182 #[av,bv] w fun e w'=>e = .returned (.int .i64 (Lib.compareBytes x y))∧w'=w:=by
 have hr:=akA h1 h2;generalize Lib.compareBytes x y=r at *
 clear h1 h2;go_enter Tryz.func182,Tryz.ntmps182;go_wp2;rw [run_callFunc_extern Tryz.func213 au au au (e:=Extern.BytealgCompare.compare) au,hr];simp only [Result.andThen];rw [Oper.upon_value];go_wp2;go_ret;exact ⟨rfl,rfl⟩
end
end Go.Proofs.YtihngncbioofnaaGreatDoor
namespace Go.Proofs.YtihngncbioofnaaGreatDoor
open Go Go.Sl Go.ay Go.MapKept Go.RowKit Go.Sort
section
variable {α:Type} [Inhabited α] {enc:α→List Value}{k:Nat}
theorem af7 (hk:∀ x,(enc x).length=k) (h0:0<k) (d:Array α):(flatK enc k d).toList=d.toList.flatMap enc:=by
 have hl:(d.toList.flatMap enc).length=k * d.toList.length:=iY fun x _=>hk x;refine List.ext_getElem (by rw [hl,acJ,size_flatK,acJ,ahC]) fun t h1 h2=>?_;have ht:t<d.size * k:=by rw [acJ,size_flatK]at h1;exact h1
 have hi:t / k<d.size:=Nat.div_lt_of_lt_mul (by rw [ahC];exact ht);have hx:d.toList[t / k]?=some d[t / k]! := by
  rw [ah6,aib hi,getElem!_pos d _ hi]
 have hm:t%k<(enc d[t / k]!).length:=by rw [hk];exact anH _ h0
 have hr:=Ko (l:=d.toList) (f:=enc) (k:=k) (fun x _=>hk x) hx (aaI hm);rw [show t / k * k+t%k=t by rw [ahC];exact Nat.div_add_mod t k,aaI h2]at hr;rw [ahM hr,Array.getElem_toList,← getElem!_pos (flatK enc k d) t (by rw [size_flatK];exact ht),get_flatK _ _ _ _ ht];exact getElem!_pos (enc d[t / k]!) (t%k) hm
end
section
variable {w0 w:World}{R:List aH}{g n m:Nat}{T:TypeId}{cs:Array Value}{os:Array Obj}
theorem agY {fr:Nat×Nat} (d:Array Value) (hb:w.heap[g]?=some (.cells cs T fr)):(grow (putRow id (Sort.ahead w n) g 0 d) os).heap[g]?=some (.cells (putCells id 0 d cs) T fr):=by
 have hg:g<w.heap.size:=(amM.1 hb).1;rw [heap_grow_old _ _ (by simpa using hg)];simp [putRow,mapBlock,Sort.ahead,ai9,hb,onCells]
theorem agI (d:Array Value):w.grownBy (grow (putRow id (Sort.ahead w n) g 0 d) os) (some g):=by
 refine ⟨rfl,rfl,rfl,by simp,fun k hk hne=>?_⟩;rw [heap_grow_old _ _ (by simpa using hk)];have:g≠k:=fun e=>hne (by rw [e]);simp [putRow,mapBlock,Sort.ahead,ai9,this]
theorem ami (d:Array Value) (h:d.size≤cs.size):(putCells id 0 d cs).toList.take d.size=d.toList:=by
 apply an1;intro j;by_cases hj:j<d.size
 ·rw [an4 hj,ah6];simp [putCells,hj,show j<cs.size by omega]
 ·rw [List.getElem?_take_eq_none oQ,ahF (by simp;omega)]
theorem ak8 (hp:Sat w0 w (pt g (.cells cs T (0,0))::R)) (d:Array Value):Sat w0 (grow (putRow id (Sort.ahead w n) g 0 d) os) (pt g (.cells (putCells id 0 d cs) T (0,0))::R):=by
 have hg:=agI (w:=w) (g:=g) (n:=n) (os:=os) d;exact hp.turn hg.os hg.tape hg.output hg.size (agY (n:=n) (os:=os) d hp.at) (fun i hi hlt=>hg.block i hlt (by simpa using hi))
theorem ag7 {d:Array Value} (hb:w.heap[g]?=some (.cells cs T (0,0))) (ht:cs.toList.take d.size=d.toList):Holds id w g 0 d:=by
 intro j hj;refine ⟨?_,by simp [World.frozen?,hb]⟩;have h1:(cs.toList.take d.size)[j]?=d.toList[j]?:=by rw [ht]
 rw [an4 hj]at h1;simp only [World.cell?,hb,acT];simp only [Option.isSome_none,afy,anY];rw [← ah6,h1,ah6,aib hj,getElem!_pos d j hj]
 rfl
end
end Go.Proofs.YtihngncbioofnaaGreatDoor
namespace Go.Tab
open Go.ah (Bs)
open Go.Sort
theorem al2 {V:Type} (key:V→Bs):SWO (Go.Proofs.ltOf fun x y=>Lib.compareBytes (key x) (key y)):=by
 have e:∀ x y,Go.Proofs.ltOf (fun x y=>Lib.compareBytes (key x) (key y)) x y=decide (key x<key y):=fun x y=>by
  unfold Go.Proofs.ltOf;rw [anu,acF,acF];exact IZ _ _
 refine ⟨fun x=>?_,fun x y z=>?_,fun x y z=>?_⟩
 ·rw [e,adE];exact aoc _
 ·rw [e,e,e,acF,acF,acF];exact aoH
 ·rw [e,e,e,adE,adE,adE];intro h1 h2 h3;rcases IV (key x) (key y) with q|q|q
  ·exact h1 q
  ·exact h2 (q ▸ h3)
  ·rcases IV (key y) (key z) with p|p|p
   ·exact h2 p
   ·exact aoc _ (aoH q (p ▸ h3))
   ·exact aoc _ (aoH (aoH h3 p) q)
theorem alL {V:Type} [Inhabited V] {key:V→Bs}{d d':Array V} (hp:PermIn 0 d.size d d') (hs:SortedIn (Go.Proofs.ltOf fun x y=>Lib.compareBytes (key x) (key y)) 0 d.size d') :
  d'.toList.Perm d.toList∧d'.toList.Pairwise fun a b=>¬ key b<key a:=by
 obtain ⟨h1,_,h3⟩:=hp;constructor
 ·have e:∀ a:Array V,a.extract 0 a.size=a:=fun a=>by simp
  have h3':=h3;rw [e d,← h1,e d']at h3';exact h3'
 ·rw [anl];intro i j hi hj hij;rw [acJ]at hi hj;have:=hs i j (acV _) hij oQ;rw [getElem!_pos d' i hi,getElem!_pos d' j hj]at this;unfold Go.Proofs.ltOf at this;rw [adE,IZ]at this;simpa using this
theorem Pn {V:Type}{s l:List (Slot V)}{m:Bs→Option V} (g:Good s) (hm:∀ k v,Has s k v↔m k=some v) (hp:l.Perm (s.filter fun x=>decide (x.st=1))) (hs:l.Pairwise fun a b=>¬ b.key<a.key) :
  Lists m (l.map fun x=>(x.key,x.val))∧∀ x∈l,x.st=1∧x.key.length=32:=by
 have hmem:∀ x,x∈l↔x∈s∧x.st=1:=fun x=>by rw [hp.mem_iff,acY,acF]
 have hnd:l.Pairwise fun a b=>a.key≠b.key:=by
  have h0:(s.filter fun x=>decide (x.st=1)).Pairwise fun a b=>a.key≠b.key:=by
   rw [List.pairwise_filter,anl];intro i j hi hj hij h1 h2 h3;have:=g.one (aaI hi) (aaI hj) (by simpa using h1) (by simpa using h2) h3;omega
  exact (hp.pairwise_iff (fun {a b} h=>Ne.symm h)).2 h0
 refine ⟨⟨?_,fun k v=>?_⟩,fun x hx=>⟨((hmem x).1 hx).2,g.key x ((hmem x).1 hx).1⟩⟩
 ·rw [aij];refine (hs.and hnd).imp fun {a b} h=>?_;rcases IV a.key b.key with q|q|q
  ·exact q
  ·exact absurd q h.2
  ·exact absurd q h.1
 ·rw [← hm,abZ];constructor
  ·rintro ⟨x,hx,e⟩;obtain ⟨a,b⟩:=(hmem x).1 hx;obtain ⟨i,hi,he⟩:=anA a;cases e;exact ⟨i,x,by rw [aaI hi,he],b,rfl,rfl⟩
  ·rintro ⟨i,x,hi,a,rfl,rfl⟩;exact ⟨x,(hmem x).2 ⟨abV hi,a⟩,rfl⟩
end Go.Tab
namespace Go.Proofs.YtihngncbioofnaaGreatDoor
open Go Go.Sl Go.ay Go.MapKept Go.RowKit
section
variable {w0 w:World}{F R:List aH}{p n gn d c:Nat}{sv v:Value}{k:ah.Bs}{s:List (Tab.Slot (Rep.dP))}{a:Option Addr}
theorem JO (hl:0<s.length) (h:Sat w0 w (fJ p 250 (.slice a s.length c) n gn::F)) :
  Calls Tryz.prog 189 #[ptr p] w (aP fun v w'=>v = .bool true∧w=w'):=by
 have e0:w.cell? ⟨p,0,none⟩=some (.slice a s.length c):=h.cellAt 0 _ rfl;have c1:(0:Int)<(s.length:Int):=oQ;go_enter Tryz.func189,Tryz.ntmps189;go_wp2;go_ret;exact ⟨_,rfl,rfl,rfl⟩
theorem Py {p : Prop} (h : p := by
 have Hk:=uQ hk;have HG:=uQ g;have HE:=uQ he;have Hc:=uQ hc;have Hlen:=uQ (show ∀ x∈s,(slotL lu x).length=tX from fun x hx=>jc lu x (g.key x hx) KW (Lc _));obtain ⟨la,lc,rfl⟩:=jl Hlen.out (Sat.rd (h.pick aY)) aN;obtain ⟨j,hj,_⟩:=g.pow;have XT:j<40:=by
  rcases amB j 40 with q|q
  ·exact q
  ·have:2^40≤2^j:=anR aN q;have Ji:(2:Nat)^40=1099511627776:=by decide
   omega
 have Hj:=uQ hj;have TV:=uQ XT;have Hd:=uQ (show d<s.length from he.lt);have hp0:0<s.length:=g.jB;have jv:=uQ hp0;have Hpz:=uQ (Tab.ajp (k:=k) hp0);clear hj XT hk g he hc hp0;go_enter Sr,Sv;go_wp2_with ((with_reducible refine fK ⟨?_⟩);refine fM aQ ak ak ?_;intro bB wB hB);have hB1:=hB.drew;clear hB;refine dS [6,7] (fun w'=>w'.rangeAt bB 0 (aA k)∧w'.cell? ⟨p,0,none⟩=some (.slice la s.length lc)) au ?_;have hG:World.rangeAt _ bB 0 (aA k)∧World.cell? _ ⟨p,0,none⟩=some (.slice la s.length lc):=⟨oZ (hB1.pk (A:=pt bB (.cells (aA k).toArray 50 (0,0)))),hB1.cellP bC 0 rfl⟩;refine gV 0 ak au eU (iI (b:=bB) (o:=0) (aA k) aj Tryz.underlying50 rfl (by rw [aX,Hk.out];kernel_rfl) (fun w hw=>hw.1)) aQ gQ ?_;refine rP 1 ?_ (y:=aZ);refine rP 2 ?_ (y:=dV);refine rP 3 ?_ (y:=bW);refine rt 4 (h:=?_);refine rP 5 ?_ (y:=(o8 ak bU));clear hG;have hh:=ag8 k Hk.out j TV.out hB1
 rw [← Hj.out]at hh;refine bY 6 ak au (fun K hK=>?_)
 (refine gZ au ak ak ?_)
 refine hh.mono ?_;rintro ee w2 ⟨v,rfl,rfl,hS2⟩;refine hK _ _ (.inl rfl) ?_;clear hK hh hB1;refine rP 7 ?_ (y:=fZ);refine dI au ?_
 try simp only [jT]
 try go_frame
 rw [← Hpz.out];go_wp2_with fail
 go_loopg [7,8] d (fun g aq sq wr=>∃ e:Nat,g=d - e∧e≤d∧aq = .int .i64 (Tab.pos k s.length e:Nat)∧sq = .int .i64 ((e:Int)+1) ∧
  Sat w0 wr (pt bB (.cells (aA k).toArray 50 (0,0))::fJ p DT (.slice la s.length lc) n gn::aB DU tX (.slice la s.length lc) (s.flatMap (slotL lu))::F))
 case atStart=>exact ⟨0,rfl,acV _,rfl,rfl,hS2.sb⟩
 case round=>
  obtain ⟨e,rfl,hed,rfl,rfl,hS⟩:=hrel;clear hS2;have hlt:=Tab.lV (k:=k) (d:=e) jv.out;have hdl:=Hd.out;have hcl:=Hc.out;obtain ⟨x,hx⟩:∃ x,s[Tab.pos k s.length e]?=some x:=⟨_,aaI hlt⟩;have hxm:=abV hx;have hst:=HG.out.st x hxm;have Hxk:=uQ (HG.out.key x hxm);obtain ⟨bk,off,c',hsv,hcell⟩:=jG Hlen.out (Sat.rd (hS.pick eH)) hx aN;have En:=uQ (Tab.ajo (k:=k) (d:=e) jv.out);have Ug:=uQ (UQ (Tab.pos k s.length e+1) j oQ (by have:=TV.out;omega))
  have xw:=uQ (show e=d↔x.stop k from ⟨fun h=>by
    subst h;obtain ⟨y,hy,hs⟩:=HE.out.here;rw [hx]at hy;cases hy;exact hs,fun h=>by
    rcases amB e d with q|q
    ·exact absurd ⟨x,hx,h⟩ (HE.out.no e q)
    ·omega⟩)
  have Hx:=uQ hx;cases hsv;have c0:(0:Int)≤((Tab.pos k s.length e:Nat):Int):=oQ;have c1:((Tab.pos k s.length e:Nat):Int)<(s.length:Int):=oQ;have c2:Tab.pos k s.length e<s.length:=hlt;have e0:wr.cell? ⟨p,0,none⟩=some (.slice (some ⟨bk,off,none⟩) s.length lc):=hS.cellP bC 0 rfl;have gK:=Hlen.out x hxm;clear hx hxm;have hq:bits .and .i64 (((Tab.pos k s.length e:Nat):Int)+1) ((s.length:Int) - 1)=((Tab.pos k s.length (e+1):Nat):Int):=by
   have h1:=Ug.out;rw [← Hj.out,En.out]at h1;rw [← h1]
   congr 1
   have:=jv.out;omega
  have hw1:IntKind.i64.wrap (((Tab.pos k s.length e:Nat):Int)+1)=((Tab.pos k s.length e:Nat):Int)+1:=acC _ oQ;have hw2:IntKind.i64.wrap ((s.length:Int) - 1)=(s.length:Int) - 1:=acC _ oQ;have hw3:IntKind.i64.wrap ((e:Int)+1+1)=(e:Int)+1+1:=acC _ oQ;clear hdl hcl;generalize hP1:Tab.pos k s.length (e+1)=P1 at hq;have TA:=uQ hP1;generalize hP:Tab.pos k s.length e=P0 at *
  have HP:=uQ hP;clear hP1 hP hlt Ug En;have TM:=uQ hed;clear hed;go_wp2_with (with_reducible apply bI);refine ⟨gu hS aj bC bJ ak au ?_⟩;go_wp2_with (with_reducible apply bI);refine ⟨iL (b:=bk) (o:=off+P0 * tX) (slotL lu x) aj hcell Sz rfl (by rw [gK];kernel_rfl) ?_⟩;go_wp2_with (with_reducible apply gq);refine ⟨fF SA hS rfl ?_⟩;intro b9 w9 iZ;go_wp2_with (first|((with_reducible refine cO ⟨?_⟩);refine gJ (slotL lu x).toArray iZ aj aj (by rw [abX,gK];rfl) cZ (by rw [abX,gK];kernel_rfl) (by rw [acW];exact mY lu x (RP _)) ?_;intro w10 dL)|(with_reducible apply bI));refine ⟨?_⟩;clear hS iZ hcell e0;have f0:w10.cell? ⟨b9,0,none⟩=some (.int .i64 x.st):=dL.cellP aV 0 (by rw [abY];rfl);have f1:w10.rangeAt b9 1 (aA x.key):=yP (dL.pick aV);have f2:w10.cell? ⟨p,0,none⟩=some (.slice (some ⟨bk,off,none⟩) s.length lc):=dL.cellP bC 0 rfl
  have hend:Sat w0 w10 (pt bB (.cells (aA k).toArray 50 (0,0))::fJ p DT (.slice (some ⟨bk,off,none⟩) s.length lc) n gn::aB DU tX (.slice (some ⟨bk,off,none⟩) s.length lc) (s.flatMap (slotL lu))::F):=dL.sb;have h3:x.st=0∨x.st=1∨x.st=2:=oQ;rcases h3 with h3|h3|h3
  ·have h4:e=d:=xw.out.2 (.inl h3);rw [h3]at f0;have Hdx:=uQ (show decide (x.st=1)=false by rw [h3];rfl);have nP:=uQ (show (x.st:Int)=0 by rw [h3];rfl);clear xw hst h3 f1 f2 hq hw1 hw2 hw3 c0 c1 c2;subst h4;go_wp2_with fail;have nV:=dL.drew;clear dL;refine dS [4,7] (fun w'=>w'.cell? ⟨b9,0,none⟩=some (.int .i64 0)) au ?_;have hG:World.cell? _ ⟨b9,0,none⟩=some (.int .i64 0):=nV.cellP aV 0 (by rw [abY,← nP.out];rfl);clear f0;refine rP 0 ?_ (y:=aZ);refine rP 1 ?_ (y:=aZ);refine rP 2 ?_ (y:=bW);refine rt 3 (h:=?_);refine rP 4 ?_ (y:=kM);refine rP 5 ?_ (y:=fZ);refine rP 6 ?_ (y:=fZ);refine rP 7 ?_ (y:=fZ);refine dI au ?_;clear hG
   try simp only [jT]
   try go_frame
   go_wp2_with fail
   go_ret3
   exact ⟨_,rfl,x,by rw [HP.out];exact Hx.out,by rw [HP.out,Hdx.out];rfl,nV.sb⟩
  ·have f3:w10.rangeAt bB 0 (aA k):=oZ (dL.pk (A:=pt bB (.cells (aA k).toArray 50 (0,0))));have hkk:=Wy x.key k Hxk.out Hk.out;rw [h3]at f0;by_cases hxk:x.key=k
   ·have h4:e=d:=xw.out.2 (.inr ⟨h3,hxk⟩);have Hdx:=uQ (show decide (x.st=1)=true by rw [h3];rfl);have nP:=uQ (show (x.st:Int)=1 by rw [h3];rfl);rw [adt hxk]at hkk;clear xw hst h3 hxk hq hw1 hw2 hw3 c0 c1 c2 f2;subst h4
    go_wp2_with (first
     |((with_reducible refine IL ⟨?_⟩);refine Ll (o:=1) aj aj (aA x.key) _ f1 Tryz.underlying50 rfl (by rw [aX,Hxk.out];kernel_rfl) ?_)
     |((with_reducible refine IL ⟨?_⟩);refine Ll (o:=0) aj aj (aA k) _ f3 Tryz.underlying50 rfl (by rw [aX,Hk.out];kernel_rfl) ?_))
    clear hkk f1 f3;have nV:=dL.drew;clear dL;refine dS [4,7] (fun w'=>w'.cell? ⟨b9,0,none⟩=some (.int .i64 1)) au ?_;have hG:World.cell? _ ⟨b9,0,none⟩=some (.int .i64 1):=nV.cellP aV 0 (by rw [abY,← nP.out];rfl);clear f0;refine rP 0 ?_ (y:=aZ);refine rP 1 ?_ (y:=aZ);refine rP 2 ?_ (y:=bW);refine rt 3 (h:=?_);refine rP 4 ?_ (y:=kM);refine rP 5 ?_ (y:=fZ);refine rP 6 ?_ (y:=fZ);refine rP 7 ?_ (y:=fZ);refine dI au ?_;clear hG
    try simp only [jT]
    try go_frame
    go_wp2_with fail
    go_ret3
    exact ⟨_,rfl,x,by rw [HP.out];exact Hx.out,by rw [HP.out,Hdx.out];rfl,nV.sb⟩
   ·have h4:e<d:=by
     have:=TM.out;rcases amB e d with q|q
     ·exact q
     ·exact absurd (xw.out.1 oQ) (fun h=>h.elim (fun h=>by omega) fun h=>hxk h.2)
    rw [ac4 hxk]at hkk;have H4:=uQ h4;clear xw hst h3 hxk h4
    go_wp2_with (first
     |((with_reducible refine IL ⟨?_⟩);refine Ll (o:=1) aj aj (aA x.key) _ f1 Tryz.underlying50 rfl (by rw [aX,Hxk.out];kernel_rfl) ?_)
     |((with_reducible refine IL ⟨?_⟩);refine Ll (o:=0) aj aj (aA k) _ f3 Tryz.underlying50 rfl (by rw [aX,Hk.out];kernel_rfl) ?_))
    go_roundg (d - (e+1))
    case measure=>have:=H4.out;omega
    case rel=>exact ⟨e+1,rfl,H4.out,by rw [TA.out],by first|rfl|go_num,dL.sb⟩
  ·have h4:e<d:=by
    have:=TM.out;rcases amB e d with q|q
    ·exact q
    ·exact absurd (xw.out.1 oQ) (fun h=>h.elim (fun h=>by omega) fun h=>by omega)
   rw [h3]at f0;have H4:=uQ h4;clear xw hst h3 f1 h4;go_wp2_with fail
   go_roundg (d - (e+1))
   case measure=>have:=H4.out;omega
   case rel=>exact ⟨e+1,rfl,H4.out,by rw [TA.out],by first|rfl|go_num,dL.sb⟩) : p := h
abbrev gW.lu:=@bZ
abbrev gW.tX:Nat:=38
abbrev gW.KW:Nat:=5
theorem gW.Lc:type_of% @vO:=@vO
theorem gW.Sr:type_of% @Tryz.func190:=@Tryz.func190
theorem gW.Sv:type_of% @Tryz.ntmps190:=@Tryz.ntmps190
abbrev gW.DT:Nat:=250
abbrev gW.DU:Nat:=289
theorem gW.Sz:type_of% @Tryz.underlying289:=@Tryz.underlying289
theorem gW.SA:type_of% @wO:=@wO
theorem gW.RP:type_of% @xC:=@xC
open gW in
theorem EY (g:Tab.Good s) (hc:s.length≤1073741824) (hk:k.length=32) (he:Tab.Ends s k d) (h:Sat w0 w (fJ p 250 sv n gn::aB 289 38 sv (s.flatMap (slotL bZ))::F)) :
  Calls Tryz.prog 190 #[ptr p,.agg (aA k).toArray] w (aP fun v w'=>∃ x,s[Tab.pos k s.length d]?=some x∧v = .tuple #[.int .i64 (Tab.pos k s.length d:Nat),.int .i64 ((d:Int)+1),.bool (decide (x.st=1))] ∧
   Sat w0 w' (fJ p 250 sv n gn::aB 289 38 sv (s.flatMap (slotL bZ))::F)):=Py
end
section
variable {w0 w:World}{F R:List aH}{p n gn d c:Nat}{sv v:Value}{k:ah.Bs}{s:List (Tab.Slot (Seg.aU))}{a:Option Addr}
theorem AZ (hl:0<s.length) (h:Sat w0 w (fJ p 166 (.slice a s.length c) n gn::F)) :
  Calls Tryz.prog 86 #[ptr p] w (aP fun v w'=>v = .bool true∧w=w'):=by
 have e0:w.cell? ⟨p,0,none⟩=some (.slice a s.length c):=h.cellAt 0 _ rfl;have c1:(0:Int)<(s.length:Int):=oQ;go_enter Tryz.func86,Tryz.ntmps86;go_wp2;go_ret;exact ⟨_,rfl,rfl,rfl⟩
abbrev gX.lu:=@aS
abbrev gX.tX:Nat:=36
abbrev gX.KW:Nat:=3
theorem gX.Lc:type_of% @qQ:=@qQ
theorem gX.Sr:type_of% @Tryz.func146:=@Tryz.func146
theorem gX.Sv:type_of% @Tryz.ntmps146:=@Tryz.ntmps146
abbrev gX.DT:Nat:=166
abbrev gX.DU:Nat:=164
theorem gX.Sz:type_of% @Tryz.underlying164:=@Tryz.underlying164
theorem gX.SA:type_of% @ug:=@ug
theorem gX.RP:type_of% @uS:=@uS
open gX in
theorem CG (g:Tab.Good s) (hc:s.length≤1073741824) (hk:k.length=32) (he:Tab.Ends s k d) (h:Sat w0 w (fJ p 166 sv n gn::aB 164 36 sv (s.flatMap (slotL aS))::F)) :
  Calls Tryz.prog 146 #[ptr p,.agg (aA k).toArray] w (aP fun v w'=>∃ x,s[Tab.pos k s.length d]?=some x∧v = .tuple #[.int .i64 (Tab.pos k s.length d:Nat),.int .i64 ((d:Int)+1),.bool (decide (x.st=1))] ∧
   Sat w0 w' (fJ p 166 sv n gn::aB 164 36 sv (s.flatMap (slotL aS))::F)):=Py
end
def fE (p:Nat) (m:ah.Bs→Option (Rep.dP)) (B:Nat):aH:=fun h=>∃ (t:Tab.Tb (Rep.dP)) (sv:Value),(t.Ok∧t.Is m∧t.n+t.gone≤B)∧stars [fJ p 250 sv t.n t.gone,aB 289 38 sv (t.slots.flatMap (slotL bZ))] h
theorem G5:jr Tryz.prog 191=some (.agg (bZ ⟨0,Seg.aU.zero,0⟩).toArray):=by kernel_rfl
section
variable {w0 w:World}{F R:List aH}{p B:Nat}{sv v:Value}{k:ah.Bs}{m:ah.Bs→Option (Rep.dP)}{t:Tab.Tb (Rep.dP)}
theorem fE.open (h:Sat w0 w (fE p m B::F)):∃ (t:Tab.Tb (Rep.dP)) (sv:Value),(t.Ok∧t.Is m∧t.n+t.gone≤B)∧Sat w0 w (fJ p 250 sv t.n t.gone::aB 289 38 sv (t.slots.flatMap (slotL bZ))::F):=by
 obtain ⟨ha,x,hx,q,r,dd,rfl,⟨t,sv,hin,hp⟩,hq⟩:=h;refine ⟨t,sv,hin,ha,_,hx,?_⟩;show stars ([fJ p 250 sv t.n t.gone,aB 289 38 sv (t.slots.flatMap (slotL bZ))]++F) _;rw [qy];exact ⟨q,r,dd,rfl,hp,hq⟩
theorem fE.shut (h1:t.Ok) (h2:t.Is m) (h3:t.n+t.gone≤B) (h:Sat w0 w (fJ p 250 sv t.n t.gone::aB 289 38 sv (t.slots.flatMap (slotL bZ))::F)):Sat w0 w (fE p m B::F):=
 Sat.join (M:=[fJ p 250 sv t.n t.gone,aB 289 38 sv (t.slots.flatMap (slotL bZ))]) h fun _ hx=>⟨t,sv,⟨h1,h2,h3⟩,hx⟩
theorem aiu (h:Sat w0 w F):Calls Tryz.prog 113 #[] w (aP fun v w'=>∃ p,v=ptr p∧Sat w0 w' (fE p (fun _=>none) 0::F)):=by
 go_enter Tryz.func113,Tryz.ntmps113
 go_wp2_with (first
  |((with_reducible refine at_make ⟨?_⟩);refine DX (e:=289) (sz:=38) (eY:=80) (n:=8) au wO h aj aj aN aN ?_;intro bM wM hM)
  |((with_reducible refine fK ⟨?_⟩);refine fM hM ak ak ?_;intro bB wB hB))
 go_ret;refine ⟨_,rfl,bB,rfl,?_⟩;have e:(List.replicate 8 (slotL bZ ⟨0,ah.zero32,rX⟩)).flatten=(List.replicate 8 (⟨0,ah.zero32,rX⟩:Tab.Slot (Rep.dP))).flatMap (slotL bZ):=(Dx 8 _).symm;rw [e]at hB;exact fE.shut (t:=⟨List.replicate 8 ⟨0,ah.zero32,rX⟩,0,0⟩) (Tab.PU aN rfl) (Tab.PS rfl 0 0) (abL 0) hB
theorem Pz {p : Prop} (h : p := by
 obtain ⟨t,sv,⟨ok,is,hb⟩,hR⟩:=RQ h;obtain ⟨d,he⟩:=ok.ends k;have hsz:t.slots.length≤1073741824:=by have:=ok.size;omega
 have Hlen:=uQ (show ∀ x∈t.slots,(slotL lu x).length=tX from fun x hx=>jc lu x (ok.good.key x hx) KW (Lc _));obtain ⟨la,lc,rfl⟩:=jl Hlen.out (Sat.rd (hR.pick aY)) aN;have Hk:=uQ hk;have dw:=uQ ok;have iR:=uQ is;have Hb:=uQ hb;have He:=uQ he;have iC:=uQ hsz;have jv:=uQ ok.good.jB;clear h hk ok is hb he hsz hB;go_enter RU,RY;go_wp2_with (first|((with_reducible refine fK ⟨?_⟩);refine fM aQ ak ak ?_;intro bB wB hB)|(with_reducible apply gq));refine ⟨fF KU hB rfl ?_⟩;intro b4 w4 hS4;go_wp2_with (with_reducible apply gq);refine ⟨fF KU hS4 rfl ?_⟩;intro b6 w6 hS6;have Jo:Sat w0 w6 (fJ p DT (.slice la t.slots.length lc) t.n t.gone::pt b6 (.cells (lu yU).toArray BG (0,0))::pt b4 (.cells (lu yU).toArray BG (0,0))::pt bB (.cells (aA k).toArray 50 (0,0))::aB DU tX (.slice la t.slots.length lc) (t.slots.flatMap (slotL lu))::F):=hS6.sb;clear hB hS4 hS6 hR;go_wp2_with fail
 refine (RZ jv.out Jo).mono ?_;rintro ee w7 ⟨v,rfl,rfl,rfl⟩;go_wp2_with ((with_reducible refine bI ⟨?_⟩);refine iW Jo aj (aT (aT (aT aV))) Tryz.underlying50 rfl (by rw [abX,aX,Hk.out];kernel_rfl) ?_);have hf:=Si dw.out.good iC.out Hk.out He.out (Jo.sb:Sat w0 w6 (fJ p DT (.slice la t.slots.length lc) t.n t.gone::aB DU tX (.slice la t.slots.length lc) (t.slots.flatMap (slotL lu))::pt b6 (.cells (lu yU).toArray BG (0,0))::pt b4 (.cells (lu yU).toArray BG (0,0))::F));clear Jo;refine hf.mono ?_;rintro ee w8 ⟨v,rfl,x,hx,rfl,jE⟩;clear hf;obtain ⟨m1,m2⟩:=iR.out.some dw.out He.out hx;have hxm:=abV hx;have hxk:=dw.out.good.key x hxm;obtain ⟨bk,off,c',hsv,hcell⟩:=jG Hlen.out (Sat.rd (jE.pick aY)) hx aN;cases hsv;have hlt:=Tab.lV (k:=k) (d:=d) jv.out;have hval:∀ j v,(lu x.val)[j]?=some v→w8.cell? ⟨bk,off+Tab.pos k t.slots.length d * tX+33+j,none⟩=some v:=fun j v hj=>by
  rw [an9 _ 33 j];exact hcell (33+j) v (abk lu x hxk hj)
 clear hcell hx hxm;generalize Tab.pos k t.slots.length d=P0 at *
 have c0:(0:Int)≤(P0:Int):=oQ;have c1:(P0:Int)<(t.slots.length:Int):=oQ;have e0:w8.cell? ⟨p,0,none⟩=some (.slice (some ⟨bk,off,none⟩) t.slots.length lc):=jE.cellP bC 0 rfl;by_cases h1:x.st=1
 ·have hd:decide (x.st=1)=true:=adt h1;have Hm:=uQ (m1 h1);clear m1 m2 h1
  go_wp2_with (first
   |((with_reducible refine bI ⟨?_⟩);refine gu jE aj bC bJ ak au ?_)
   |((with_reducible refine bI ⟨?_⟩);refine iL (b:=bk) (o:=off+P0 * tX+33) (lu x.val) aj hval DL rfl au ?_)
   |((with_reducible refine cO ⟨?_⟩);refine gJ (lu x.val).toArray jE aj aj aj (jh (jh (jh cZ))) au aj ?_;intro w10 dL))
  refine ⟨rfl,_,og rfl dL aj bC DL rfl au,_,rfl,?_,KX dw.out iR.out Hb.out (dL.sb)⟩;rw [Hm.out];rfl
 ·have hd:decide (x.st=1)=false:=ac4 h1;have Hm:=uQ (m2 h1);clear m1 m2 h1
  go_wp2_with (first
   |((with_reducible refine bI ⟨?_⟩);refine iW jE aj (aT (aT (aV (A:=pt b6 (.cells (lu yU).toArray BG (0,0)))))) DL rfl au ?_)
   |((with_reducible refine cO ⟨?_⟩);refine gJ (lu yU).toArray jE aj aj aj (jh (jh (jh cZ))) au aj ?_;intro w10 dL))
  refine ⟨rfl,_,og rfl dL aj (aT (aT (aT aV))) DL rfl au,_,rfl,?_,KX dw.out iR.out Hb.out (dL.sb)⟩;rw [Hm.out];rfl) : p := h
theorem gW.RQ:type_of% @fE.open:=@fE.open
theorem gW.RU:type_of% @Tryz.func156:=@Tryz.func156
theorem gW.RY:type_of% @Tryz.ntmps156:=@Tryz.ntmps156
theorem gW.KU:type_of% @G5:=@G5
abbrev gW.yU:=@rX
abbrev gW.BG:Nat:=191
theorem gW.RZ:type_of% @JO:=@JO
theorem gW.Si:type_of% @EY:=@EY
theorem gW.DL:type_of% @Tryz.underlying191:=@Tryz.underlying191
theorem gW.KX:type_of% @fE.shut:=@fE.shut
open gW in
theorem agt (hB:B≤268435000) (hk:k.length=32) (h:Sat w0 w (fE p m B::F)) :
  Calls Tryz.prog 156 #[ptr p,.agg (aA k).toArray] w (aP fun v w'=>v = .tuple #[.agg (bZ ((m k).getD ⟨0,Seg.aU.zero,0⟩)).toArray,.bool (m k).isSome]∧Sat w0 w' (fE p m B::F)):=Pz
end
section
variable {w0 w:World}{F R:List aH}{p B N:Nat}{sv v:Value}{k:ah.Bs}{m:ah.Bs→Option (Rep.dP)}{t:Tab.Tb (Rep.dP)}
theorem ajV (ok:t.Ok) (hN:t.n≤N) (hNb:N≤134217728) (XW:t.slots.length≤1073741824) (h:Sat w0 w (fJ p 250 sv t.n t.gone::aB 289 38 sv (t.slots.flatMap (slotL bZ))::F)) :
  Calls Tryz.prog 191 #[ptr p,.int .i64 N] w (aP fun _ w'=>∃ s' sv',Tab.vM t s' N∧Sat w0 w' (fJ p 250 sv' t.n 0::aB 289 38 sv' (s'.flatMap (slotL bZ))::F)):=by
 have dw:=uQ ok;have HN:=uQ hN;have Tv:=uQ hNb;have Hlen:=uQ (show ∀ x∈t.slots,(slotL bZ x).length=38 from fun x hx=>jc bZ x (ok.good.key x hx) 5 (vO _));obtain ⟨la,lc,rfl⟩:=jl Hlen.out (Sat.rd (h.pick aY)) aN;have hw0:IntKind.i64.wrap (2 * (N:Int))=2 * (N:Int):=acC _ oQ;have Yn:wrap64 (2 * (N:Int))=2 * (N:Int):=adM _ oQ;clear ok hN;go_enter Tryz.func191,Tryz.ntmps191;go_wp2_with fail
 go_loopg [4] (4 * N) (fun g cq wr=>∃ c:Nat,g=4 * N+8 - c∧cq = .int .i64 c∧(∃ j,c=2^j∧3≤j)∧8≤c∧(c=8∨c<4 * N)∧wr=w)
 case atStart=>exact ⟨8,by omega,rfl,⟨3,rfl,abL 3⟩,abL 8,.inl rfl,rfl⟩
 case round=>
  obtain ⟨c,rfl,rfl,⟨j,hj,hj3⟩,hc8,hc,rfl⟩:=hrel;by_cases hlt:c<2 * N
  ·have c1:(c:Int)<2 * (N:Int):=by omega
   have hw1:IntKind.i64.wrap ((c:Int) * 2)=(c:Int) * 2:=acC _ oQ;have Yo:wrap64 ((c:Int) * 2)=(c:Int) * 2:=adM _ oQ;have Hj:=uQ hj;have Ef:=uQ hj3;have bV:=uQ hlt;have uj:=uQ hc8;clear hj hj3 hlt hc hc8;go_wp2_with fail
   go_roundg (4 * N+8 - c * 2)
   case measure=>have:=bV.out;have:=uj.out;omega
   case rel=>exact ⟨c * 2,rfl,by first|rfl|go_num,⟨j+1,by rw [aoq,Hj.out],by have:=Ef.out;omega⟩,by have:=uj.out;omega,.inr (by have:=bV.out;omega),rfl⟩
  ·have c1:¬ (c:Int)<2 * (N:Int):=by omega
   have HC:=uQ (show (∃ j,c=2^j∧3≤j)∧2 * N≤c∧8≤c∧(c=8∨c<4 * N) from ⟨⟨j,hj,hj3⟩,by omega,hc8,hc⟩);have hcb:c≤1073741824:=oQ;have rZ:=uQ hcb;clear hj hj3 hlt hc hc8 hw0 hcb hNb
   go_wp2_with (first
    |((with_reducible refine bI ⟨?_⟩);refine gu h aj bC bJ ak au ?_)
    |((with_reducible refine at_make ⟨?_⟩);refine DX (e:=289) (sz:=38) (eY:=80) (n:=c) au wO h aj aj (by have:=rZ.out;omega) (by have:=rZ.out;omega) ?_;intro bM wM hM)
    |((with_reducible refine cO ⟨?_⟩);refine fG aQ aj ak pQ eX bJ au aj ?_;intro wS hS))
   have e8:(List.replicate c (slotL bZ ⟨0,ah.zero32,rX⟩)).flatten=(List.replicate c (⟨0,ah.zero32,rX⟩:Tab.Slot (Rep.dP))).flatMap (slotL bZ):=(Dx c _).symm;rw [e8]at hS;have hS0:Sat w0 _ (fJ p 250 (.slice (some ⟨bM,0,none⟩) c c) t.n 0::aB 289 38 (.slice (some ⟨bM,0,none⟩) c c) ((List.replicate c (⟨0,ah.zero32,rX⟩:Tab.Slot (Rep.dP))).flatMap (slotL bZ))::aB 289 38 (.slice la t.slots.length lc) (t.slots.flatMap (slotL bZ))::F):=hS.sb;clear hS hM h e8 c1;go_wp2_with fail
   go_loopg [31] t.slots.length (fun g iq wr=>∃ (i:Nat) (cur:List (Tab.Slot (Rep.dP))),g=t.slots.length - i∧i≤t.slots.length∧iq = .int .i64 i∧Tab.Half t.slots cur i∧cur.length=c ∧
    Sat w0 wr (fJ p 250 (.slice (some ⟨bM,0,none⟩) c c) t.n 0::aB 289 38 (.slice (some ⟨bM,0,none⟩) c c) (cur.flatMap (slotL bZ))::aB 289 38 (.slice la t.slots.length lc) (t.slots.flatMap (slotL bZ))::F))
   case atStart=>exact ⟨0,_,rfl,acV _,rfl,Tab.half_start HC.out.1 aN rfl,adI,hS0⟩
   case round=>
    obtain ⟨i,cur,rfl,hi,rfl,hH,hcl,hS⟩:=hrel;clear hS0;have HH:=uQ hH;have fP:=uQ hcl;by_cases hlt:i<t.slots.length;rotate_left
    ·obtain rfl:i=t.slots.length:=by omega
     have c1:¬ (t.slots.length:Int)<(t.slots.length:Int):=oQ;clear hlt hH hi;go_wp2_with fail
     go_end0
     obtain ⟨q1,q2,q3,q4⟩:=HH.out.done;exact ⟨_,rfl,cur,⟨q1,q2,q3.trans dw.out.n.symm,q4.trans dw.out.n.symm,by rw [fP.out];exact HC.out.2.1,by rw [fP.out];exact HC.out.2.2.1,by rw [fP.out];exact HC.out.2.2.2⟩,_,hS.sb⟩
    have c1:(i:Int)<(t.slots.length:Int):=oQ;have hwi:=yA (i:=i);obtain ⟨x,hx⟩:∃ x,t.slots[i]?=some x:=⟨_,aaI hlt⟩;have hxm:=abV hx;have hst:=dw.out.good.st x hxm;have Hxk:=uQ (dw.out.good.key x hxm);obtain ⟨bk,off,c',hsv,hcell⟩:=jG Hlen.out (Sat.rd (hS.pick eH)) hx aN;cases hsv;have gK:=Hlen.out x hxm;have Hx:=uQ hx;have bV:=uQ hlt;clear hx hxm hlt hH hi
    go_wp2_with (first
     |((with_reducible refine bI ⟨?_⟩);refine iL (b:=bk) (o:=off+i * 38) (slotL bZ x) aj hcell Tryz.underlying289 rfl (by rw [gK];kernel_rfl) ?_)
     |(with_reducible apply gq))
    refine ⟨fF wO hS rfl ?_⟩;intro b7 w7 hS7;go_wp2_with (first|((with_reducible refine cO ⟨?_⟩);refine gJ (slotL bZ x).toArray hS7 aj aj (by rw [abX,gK];rfl) cZ (by rw [abX,gK];kernel_rfl) (by rw [acW];exact mY bZ x (xC _)) ?_;intro w10 dL)|(with_reducible apply bI));refine ⟨?_⟩;clear hS hS7 hcell;have f0:w10.cell? ⟨b7,0,none⟩=some (.int .i64 x.st):=dL.cellP aV 0 (by rw [abY];rfl);have f1:w10.rangeAt b7 1 (aA x.key):=yP (dL.pick aV);by_cases h1:x.st=1;rotate_left
    ·have hst1:((x.st:Int)==1)=false:=by rw [acH];omega
     have H1:=uQ h1;clear h1 f1;go_wp2_with fail
     go_roundg (t.slots.length - (i+1))
     case measure=>have:=bV.out;omega
     case rel=>exact ⟨i+1,cur,rfl,bV.out,by first|rfl|go_num,HH.out.skip Hx.out H1.out,fP.out,dL.sb⟩
    ·have hus:Tab.used cur<cur.length:=by
      have h2:=HH.out.nu;have h3:=Tab.Og t.slots i;have h4:=dw.out.n;have h5:=HN.out;have h6:=HC.out;rw [fP.out];omega
     obtain ⟨dd,hdd⟩:=Tab.Jc (k:=x.key) HH.out.good (Tab.Je hus);have H1:=uQ h1;have vw:=uQ hdd;have hst1:((x.st:Int)==1)=true:=by rw [h1];rfl
     have wY:=uQ (show ∀ y∈cur,(slotL bZ y).length=38 from fun y hy=>jc bZ y (HH.out.good.key y hy) 5 (vO _));clear h1 hus hdd;go_wp2_with ((with_reducible refine bI ⟨?_⟩);refine iL (b:=b7) (o:=1) (aA x.key) aj f1 Tryz.underlying50 rfl (by rw [aX,Hxk.out];kernel_rfl) ?_);have hf:=EY HH.out.good (by rw [fP.out];exact rZ.out) Hxk.out vw.out (dL.sb:Sat w0 w10 (fJ p 250 (.slice (some ⟨bM,0,none⟩) c c) t.n 0::aB 289 38 (.slice (some ⟨bM,0,none⟩) c c) (cur.flatMap (slotL bZ))::pt b7 (.cells (slotL bZ x).toArray 289 (0,0))::aB 289 38 (.slice (some ⟨bk,off,none⟩) t.slots.length lc) (t.slots.flatMap (slotL bZ))::F));clear dL f0 f1;refine hf.mono ?_;rintro ee iV ⟨v,rfl,y,hy,rfl,nV⟩;clear hf hy;have hlt2:=Tab.lV (k:=x.key) (d:=dd) HH.out.good.jB;rw [fP.out]at hlt2
     have xk:=uQ (yN (f:=slotL bZ) (k:=38) (i:=Tab.pos x.key cur.length dd) (x:=x) wY.out gK (Tab.lV HH.out.good.jB));have xu:=uQ (HH.out.step dw.out.good Hx.out H1.out vw.out);rw [fP.out]at xk xu;rw [fP.out];have hrl:(cur.flatMap (slotL bZ)).length=38 * c:=by rw [iY wY.out,fP.out]
     generalize Tab.pos x.key c dd=P0 at *
     have c2:(0:Int)≤(P0:Int):=oQ;have c3:(P0:Int)<(c:Int):=oQ;go_wp2_with fail;have hSd:=nV.drew;clear nV;refine dS [6,7] (fun w'=>w'.cell? ⟨p,0,none⟩=some (.slice (some ⟨bM,0,none⟩) c c)∧w'.rangeAt b7 0 (slotL bZ x)) au ?_;have hG:World.cell? _ ⟨p,0,none⟩=some (.slice (some ⟨bM,0,none⟩) c c)∧World.rangeAt _ b7 0 (slotL bZ x):=⟨hSd.cellP bC 0 rfl,oZ (hSd.pk (A:=pt b7 (.cells (slotL bZ x).toArray 289 (0,0))))⟩;refine rP 0 ?_ (y:=aZ);refine rP 1 ?_ (y:=dV);refine rP 2 ?_ (y:=bW);refine rt 3 (h:=?_);refine rP 4 ?_ (y:=aZ);refine gV 5 ak au eU (iI (b:=b7) (o:=0) (slotL bZ x) aj Tryz.underlying289 rfl (by rw [gK];kernel_rfl) (fun w hw=>hw.2)) aQ gQ ?_;refine rP 6 ?_ (y:=jf);clear hG;refine bY 7 ak au (fun K hK=>?_);refine uG (vs:=slotL bZ x) (P0 * 38) hSd ak ak rfl (jh cZ) (by rw [gK,hrl];omega) (by rw [gK];kernel_rfl) (mY bZ x (xC _)) ?_;intro w12 iK
     refine hK _ _ (.inl rfl) ?_;clear hK hSd;refine dI au ?_
     try simp only [jT]
     try go_frame
     rw [← xk.out]at iK;go_wp2_with fail
     go_roundg (t.slots.length - (i+1))
     case measure=>have:=bV.out;omega
     case rel=>exact ⟨i+1,_,rfl,bV.out,by first|rfl|go_num,xu.out,by rw [ag6];exact fP.out,iK.sb⟩
end
theorem akY (k:ah.Bs) (hk:k.length=32) (v:Rep.dP) (w:World) :
  (Instr.build 289 #[(0,.int .i64 1),(1,.agg (aA k).toArray),(2,.agg (bZ v).toArray)]).run Tryz.prog w = .ok (.agg (slotL bZ ⟨1,k,v⟩).toArray) w:=by
 have hbk:(aA k).toArray.size=32:=by rw [abX,aX,hk]
 refine (aod (P:=Tryz.prog) [(0,.int .i64 1),(1,.agg (aA k).toArray),(2,.agg (bZ v).toArray)] ajf wO (by
  intro p' hp;simp only [acK,ag0,aoj]at hp;have hzz:(Value.agg (slotL bZ (⟨0,ah.zero32,rX⟩:Tab.Slot (Rep.dP))).toArray).cells.size=38:=by
   show (slotL bZ (⟨0,ah.zero32,rX⟩:Tab.Slot (Rep.dP))).toArray.size=38;rw [abX,jc bZ _ aN 5 rfl]
  rw [hzz];rcases hp with rfl|rfl|rfl
  ·exact ⟨0,rfl,by show 0+1≤38;omega⟩
  ·refine ⟨1,?_,?_⟩
   ·show some (1,32)=some (1,(aA k).toArray.size);rw [hbk]
   ·show 1+(aA k).toArray.size≤38;omega
  ·exact ⟨33,rfl,by show 33+5≤38;omega⟩) w).trans ?_
 rw [show (Value.agg (slotL bZ (⟨0,ah.zero32,rX⟩:Tab.Slot (Rep.dP))).toArray).cells=(slotL bZ (⟨0,ah.zero32,rX⟩:Tab.Slot (Rep.dP))).toArray from rfl,Qm bZ ⟨0,ah.zero32,rX⟩ k v aN hk rfl 5 rfl]
section
variable {w0 w:World}{F R:List aH}{p B:Nat}{sv:Value}{k:ah.Bs}{m:ah.Bs→Option (Rep.dP)}
theorem ajr (hB:B≤134217000) (hk:k.length=32) (v:Rep.dP) (h:Sat w0 w (fE p m B::F)) :
  Calls Tryz.prog 157 #[ptr p,.agg (aA k).toArray,.agg (bZ v).toArray] w (aP fun _ w'=>Sat w0 w' (fE p (Tab.put m k v) (B+1)::F)):=by
 obtain ⟨t,sv,⟨ok,is,hb⟩,hR⟩:=fE.open h;obtain ⟨d,he⟩:=ok.ends k;have hsz:t.slots.length≤1073741824:=by have:=ok.size;omega
 have Hlen:=uQ (show ∀ x∈t.slots,(slotL bZ x).length=38 from fun x hx=>jc bZ x (ok.good.key x hx) 5 (vO _));obtain ⟨la,lc,rfl⟩:=jl Hlen.out (Sat.rd (hR.pick aY)) aN;have hrl:0<(t.slots.flatMap (slotL bZ)).length:=by rw [iY Hlen.out];have:=ok.good.jB;omega
 obtain ⟨bk,rfl⟩:=Ba (hR.pick aY) hrl;have Hk:=uQ hk;have dw:=uQ ok;have iR:=uQ is;have Hb:=uQ hb;have He:=uQ he;have iC:=uQ hsz;have HB:=uQ hB;have jv:=uQ ok.good.jB;have qJ:=uQ (show (aA k).length=32 by rw [aX,hk]);clear h hk ok is hb he hsz hB hrl;go_enter Tryz.func157,Tryz.ntmps157;go_wp2_with (with_reducible apply fK);refine ⟨fM hR ak ak ?_⟩;intro b4 w4 hS4;go_wp2_with (with_reducible apply fK);refine ⟨fM hS4 ak ak ?_⟩;intro b5 w5 hS5;have hA:Sat w0 w5 (fJ p 250 (.slice (some ⟨bk,0,none⟩) t.slots.length lc) t.n t.gone::aB 289 38 (.slice (some ⟨bk,0,none⟩) t.slots.length lc) (t.slots.flatMap (slotL bZ))::pt b4 (.cells (aA k).toArray 50 (0,0))::pt b5 (.cells (bZ v).toArray 191 (0,0))::F):=hS5.sb;clear hR hS4 hS5;go_wp2_with fail;refine (JO jv.out hA).mono ?_;rintro ee w7 ⟨v',rfl,rfl,rfl⟩
 go_wp2_with ((with_reducible refine bI ⟨?_⟩);refine iW hA aj (aT (aT (aV (A:=pt b4 (.cells (aA k).toArray 50 (0,0)))))) Tryz.underlying50 rfl (by rw [abX,qJ.out];kernel_rfl) ?_);have hf:=EY dw.out.good iC.out Hk.out He.out hA;clear hA;refine hf.mono ?_;rintro ee w8 ⟨v',rfl,x,hx,rfl,jE⟩;clear hf;have hlt:=Tab.lV (k:=k) (d:=d) jv.out;by_cases h1:x.st=1
 ·have hd:decide (x.st=1)=true:=adt h1;have hxm:=abV hx;have oG:=uQ (Gt (f:=slotL bZ) (k:=38) (o:=33) (x':=⟨x.st,x.key,v⟩) (vs:=bZ v) Hlen.out hx (Rt bZ x v (dw.out.good.key x hxm) rfl) (by show 33+5≤38;decide));have lM:=uQ (Tab.Ql dw.out He.out hx h1 v);have pq:=uQ (Tab.CZ iR.out (Tab.JX dw.out.good He.out hx h1 v).2 t.n t.gone);have hrl:(t.slots.flatMap (slotL bZ)).length=38 * t.slots.length:=iY Hlen.out;clear hx hxm h1;generalize Tab.pos k t.slots.length d=P0 at *
  have c0:(0:Int)≤(P0:Int):=oQ;have c1:(P0:Int)<(t.slots.length:Int):=oQ;go_wp2_with fail;have hSd:=jE.drew;clear jE;refine dS [6,7,8] (fun w'=>w'.cell? ⟨p,0,none⟩=some (.slice (some ⟨bk,0,none⟩) t.slots.length lc)∧w'.rangeAt b5 0 (bZ v)) au ?_;have hG:World.cell? _ ⟨p,0,none⟩=some (.slice (some ⟨bk,0,none⟩) t.slots.length lc)∧World.rangeAt _ b5 0 (bZ v):=⟨hSd.cellP bC 0 rfl,oZ (hSd.pk (A:=pt b5 (.cells (bZ v).toArray 191 (0,0))))⟩;refine rP 0 ?_ (y:=aZ);refine rP 1 ?_ (y:=dV);refine rP 2 ?_ (y:=bW);refine rt 3 (h:=?_);refine rP 4 ?_ (y:=aZ);refine gV 5 ak au eU (iI (b:=b5) (o:=0) (bZ v) aj Tryz.underlying191 rfl au (fun w hw=>hw.2)) aQ gQ ?_;refine rP 6 ?_ (y:=jf);refine rP 7 ?_ (y:=bW);clear hG;refine bY 8 ak au (fun K hK=>?_);refine uG (vs:=bZ v) (P0 * 38+33) hSd ak ak rfl (jh cZ) (by rw [hrl];show P0 * 38+33+5≤_;omega) au aj ?_;intro w12 iK
  refine hK _ _ (.inl rfl) ?_;clear hK hSd;refine dI au ?_
  try simp only [jT]
  try go_frame
  rw [← oG.out]at iK;go_wp2_with fail
  go_end0
  exact ⟨_,rfl,fE.shut (sv:= .slice (some ⟨bk,0,none⟩) t.slots.length lc) lM.out pq.out (Nat.le_succ_of_le Hb.out) (iK.sb)⟩
 have hd:decide (x.st=1)=false:=ac4 h1;have hb4:=Hb.out;have hB4:=HB.out;have yw:=iC.out;obtain ⟨hA1,hA2,hA3,x9,xY,xZ,x8,yc,yg⟩:=Ti t.n t.gone t.slots.length oQ yw;have Hx:=uQ hx;have H1:=uQ h1;clear hx h1 hb4 hB4 yw;go_wp2_with fail;have hSd:=jE.drew;clear jE;have e0:World.cell? _ ⟨p,0,none⟩=some (.slice (some ⟨bk,0,none⟩) t.slots.length lc):=hSd.cellP bC 0 rfl;have e1:World.cell? _ ⟨p,1,none⟩=some (.int .i64 t.n):=hSd.cellP bC 1 rfl;have e2:World.cell? _ ⟨p,2,none⟩=some (.int .i64 t.gone):=hSd.cellP bC 2 rfl
 go_region
 have hcmp:3 * t.slots.length<4 * (t.n+t.gone+1)∨4 * (t.n+t.gone+1)≤3 * t.slots.length:=oQ;rcases hcmp with hcmp|hcmp
 focus
  have hci:(3:Int) * (t.slots.length:Int)<4 * ((t.n:Int)+(t.gone:Int)+1):=oQ;have hrn:=ajV (N:=t.n+1) dw.out (ahD _) (by have:=Hb.out;have:=HB.out;omega) iC.out hSd;rw [show (((t.n+1:Nat)):Int)=(t.n:Int)+1 by omega]at hrn;clear hSd e0 e2;go_wp2_with fail;refine hrn.mono ?_;rintro ee w9 ⟨v',rfl,s',sv',nX,iZ⟩;clear hrn e1 hci hcmp;have hok1:=nX.ok;have sO:=nX.is iR.out t.n 0;have sS:4 * ((⟨s',t.n,0⟩:Tab.Tb (Rep.dP)).n+(⟨s',t.n,0⟩:Tab.Tb (Rep.dP)).gone+1)≤3 * (⟨s',t.n,0⟩:Tab.Tb (Rep.dP)).slots.length:=by have:=nX.lo;simp only;omega
  have hb1:(⟨s',t.n,0⟩:Tab.Tb (Rep.dP)).n+(⟨s',t.n,0⟩:Tab.Tb (Rep.dP)).gone≤B:=by have:=Hb.out;simp only;omega
  have dL:Sat w0 w9 (fJ p 250 sv' (⟨s',t.n,0⟩:Tab.Tb (Rep.dP)).n (⟨s',t.n,0⟩:Tab.Tb (Rep.dP)).gone::aB 289 38 sv' ((⟨s',t.n,0⟩:Tab.Tb (Rep.dP)).slots.flatMap (slotL bZ))::pt b4 (.cells (aA k).toArray 50 (0,0))::pt b5 (.cells (bZ v).toArray 191 (0,0))::F):=iZ;clear iZ nX hA1 hA2 hA3 x9 xY xZ x8 yc yg;generalize (⟨s',t.n,0⟩:Tab.Tb (Rep.dP))=t1 at hok1 sO sS hb1 dL;have qj:=uQ (show ∀ x∈t1.slots,(slotL bZ x).length=38 from fun x hx=>jc bZ x (hok1.good.key x hx) 5 (vO _));obtain ⟨FP,qp,rfl⟩:=jl qj.out (Sat.rd (dL.pick aY)) aN;have jM:=uQ hok1;have qh:=uQ sO;have su:=uQ sS;have Hb1:=uQ hb1;obtain ⟨d1,he1⟩:=hok1.ends k;have kK:=uQ he1;have hno:m k=none:=by
   obtain ⟨_,q2⟩:=iR.out.some dw.out He.out Hx.out;exact q2 H1.out
  have hsz1:t1.slots.length≤1073741824:=by have:=hok1.size;have:=HB.out;omega
  clear hok1 sO sS hb1 he1;go_wp2_with ((with_reducible refine bI ⟨?_⟩);refine iW dL aj (aT (aT (aV (A:=pt b4 (.cells (aA k).toArray 50 (0,0)))))) Tryz.underlying50 rfl (by rw [abX,qJ.out];kernel_rfl) ?_);have hf:=EY jM.out.good hsz1 Hk.out kK.out dL;clear dL hsz1;refine hf.mono ?_;rintro ee w8b ⟨v',rfl,x1,hx1,rfl,hT⟩;have nR:=uQ hx1
  have qg:=uQ (show x1.st≠1 from fun h=>by
   have:=(qh.out.some jM.out kK.out hx1).1 h;rw [hno]at this;cases this)
  clear hf hx1 hno Hx H1 He dw iR Hlen jv Hb iC hlt hd;go_wp2_with fail
 rotate_left
 focus
  have hci:¬ (3:Int) * (t.slots.length:Int)<4 * ((t.n:Int)+(t.gone:Int)+1):=oQ;have su:=uQ hcmp;clear e0 e1 e2 hcmp;go_wp2_with fail;clear hci hA1 hA2 hA3 x9 xY xZ x8 yc yg hlt hd jv iC;obtain ⟨t1,rfl⟩:∃ y,y=t:=⟨t,rfl⟩;obtain ⟨x1,rfl⟩:∃ y,y=x:=⟨x,rfl⟩;obtain ⟨d1,rfl⟩:∃ y,y=d:=⟨d,rfl⟩;obtain ⟨FP,yj⟩:∃ y:Option Addr,y=some ⟨bk,0,none⟩:=⟨_,rfl⟩;obtain ⟨qp,rfl⟩:∃ y,y=lc:=⟨lc,rfl⟩;rw [← yj]at hSd;have hT:=hSd;have jM:=uQ dw.out;have qh:=uQ iR.out;have Hb1:=uQ Hb.out;have kK:=uQ He.out;have nR:=uQ Hx.out;have qg:=uQ H1.out;have qj:=uQ Hlen.out;clear hSd dw iR Hb He Hx H1 Hlen yj
 all_goals
  have hrl:(t1.slots.flatMap (slotL bZ)).length=38 * t1.slots.length:=iY qj.out;obtain ⟨bk1,rfl⟩:=Ba (hT.pick aY) (by rw [hrl];have:=jM.out.good.jB;omega);have oG:=uQ (yN (f:=slotL bZ) (k:=38) (i:=Tab.pos k t1.slots.length d1) (x:=⟨1,k,v⟩) qj.out (jc bZ _ Hk.out 5 rfl) (Tab.lV jM.out.good.jB));have lM:=uQ (Tab.Qk jM.out su.out kK.out nR.out qg.out Hk.out v);have pq:=uQ (Tab.CZ qh.out (Tab.Bd jM.out.good kK.out nR.out qg.out Hk.out v).2 (t1.n+1) t1.gone);have hlt1:=Tab.lV (k:=k) (d:=d1) jM.out.good.jB;have hls:=jc bZ (⟨1,k,v⟩:Tab.Slot (Rep.dP)) Hk.out 5 rfl;have hwn:IntKind.i64.wrap ((t1.n:Int)+1)=(t1.n:Int)+1:=acC _ (by have:=Hb1.out;have:=HB.out;omega);clear nR qg kK jM qh su;generalize Tab.pos k t1.slots.length d1=P1 at *
  have c0:(0:Int)≤(P1:Int):=oQ;have c1:(P1:Int)<(t1.slots.length:Int):=oQ;have hSd:=hT.drew;clear hT;refine dS [8,9] (fun w'=>w'.cell? ⟨p,0,none⟩=some (.slice (some ⟨bk1,0,none⟩) t1.slots.length qp)∧w'.rangeAt b4 0 (aA k)∧w'.rangeAt b5 0 (bZ v)) au ?_;have hG:World.cell? _ ⟨p,0,none⟩=some (.slice (some ⟨bk1,0,none⟩) t1.slots.length qp)∧World.rangeAt _ b4 0 (aA k)∧World.rangeAt _ b5 0 (bZ v):=⟨hSd.cellP bC 0 rfl,oZ (hSd.pk (A:=pt b4 (.cells (aA k).toArray 50 (0,0)))),oZ (hSd.pk (A:=pt b5 (.cells (bZ v).toArray 191 (0,0))))⟩;refine rP 0 ?_ (y:=aZ);refine rP 1 ?_ (y:=dV);refine rP 2 ?_ (y:=bW);refine rt 3 (h:=?_);refine rP 4 ?_ (y:=aZ);refine gV 5 ak au eU (iI (b:=b4) (o:=0) (aA k) aj Tryz.underlying50 rfl (by rw [qJ.out];kernel_rfl) (fun w hw=>hw.2.1)) aQ gQ ?_
  refine gV 6 ak au eU (iI (b:=b5) (o:=0) (bZ v) aj Tryz.underlying191 rfl au (fun w hw=>hw.2.2)) aQ gQ ?_;refine rP 7 ?_ (y:=(GX ak ak ak (fun w=>akY k Hk.out v w)));refine rP 8 ?_ (y:=jf);clear hG;refine bY 9 ak au (fun K hK=>?_);refine uG (vs:=slotL bZ ⟨1,k,v⟩) (P1 * 38) hSd ak ak rfl (jh cZ) (by rw [hrl,hls];omega) (by rw [hls];kernel_rfl) (mY bZ _ aj) ?_;intro w12 iK;refine hK _ _ (.inl rfl) ?_;clear hK hSd;refine dI au ?_
  try simp only [jT]
  try go_frame
  rw [← oG.out]at iK
  go_wp2_with (first
   |((with_reducible refine bI ⟨?_⟩);refine gu iK aj bC bJ ak au ?_)
   |((with_reducible refine cO ⟨?_⟩);refine fG aQ aj ak pQ eX bJ au aj ?_;intro wS hS))
  go_end0
  exact ⟨_,rfl,fE.shut (sv:= .slice (some ⟨bk1,0,none⟩) t1.slots.length qp) lM.out pq.out (by have:=Hb1.out;simp only;omega) (hS.sb)⟩
end
theorem Y1 {p : Prop} (h : p := by
 have h0:=Sat.start W;have h1:=h0.alloc (.cells (slotL jI x).toArray qC);have h2:=(h1.alloc (.cells (slotL jI y).toArray qC)).drew;have hsz:(W.alloc (.cells (slotL jI x).toArray qC)).heap.size=W.heap.size+1:=Array.size_push ..;rw [hsz]at h2
 have r1:bG 1 (.slice (some ⟨W.heap.size,1,none⟩) 32 32) (aA x.key) ((W.alloc (.cells (slotL jI x).toArray qC)).alloc (.cells (slotL jI y).toArray qC)).drew:=
  ⟨_,_,_,rfl,by rw [aX,hx],fun j z hj=>⟨_,rfl,by rw [zJ];exact yP (h2.pick aY) j z hj⟩⟩
 have r2:bG 1 (.slice (some ⟨W.heap.size+1,1,none⟩) 32 32) (aA y.key) ((W.alloc (.cells (slotL jI x).toArray qC)).alloc (.cells (slotL jI y).toArray qC)).drew:=
  ⟨_,_,_,rfl,by rw [aX,hy],fun j z hj=>⟨_,rfl,by rw [zJ];exact yP (h2.pick aV) j z hj⟩⟩
 have hb:=Vk x.key y.key r1 r2;clear h0 h1 h2 r1 r2 hsz;generalize Lib.compareBytes x.key y.key=r at *
 go_enter abz,abB;go_wp2_with fail;have hG:True:=trivial;refine dS [] (fun w'=>True) au ?_;refine rP 0 ?_ (y:=bW);refine rp 1 (hy:=(by (refine Or.inl ⟨by rfl,?_⟩;((intro wq;go_simp);first|done|exact wQ)))) (h:=?_);refine rP 2 ?_ (y:=bW);refine rp 3 (hy:=(by (refine Or.inl ⟨by rfl,?_⟩;((intro wq;go_simp);first|done|exact wQ)))) (h:=?_);refine bY 4 ak au (fun K hK=>?_)
 (refine gZ au ak ak ?_)
 refine hb.mono ?_;rintro e w' ⟨rfl,rfl⟩;refine hK _ _ (.inr (.inr rfl)) ?_;clear hK hb;refine rP 5 ?_ (y:=fZ);refine dI au ?_;clear hG;go_wp2_with fail;go_ret;exact ⟨rfl,1,#[.cells (slotL jI x).toArray qC,.cells (slotL jI y).toArray qC],by rw [Sort.alloc_eq_grow,Sort.alloc_eq_grow,Sort.grow_grow,Sort.drew_grow];rfl⟩) : p := h
abbrev gW.jI:=@bZ
abbrev gW.qC:Nat:=289
theorem gW.abz:type_of% @Tryz.func220:=@Tryz.func220
theorem gW.abB:type_of% @Tryz.ntmps220:=@Tryz.ntmps220
open gW in
theorem VD (x y:Tab.Slot (Rep.dP)) (hx:x.key.length=32) (hy:y.key.length=32) (W:World) :
  Calls Tryz.prog 220 #[.agg (slotL bZ x).toArray,.agg (slotL bZ y).toArray] W fun e w'=>e = .returned (.int .i64 (Lib.compareBytes x.key y.key))∧∃ q os',w'=Sort.grow (W.drewN q) os':=Y1
open Go.Sort
abbrev UL:Type:={ x:Tab.Slot (Rep.dP) // x.key.length=32 }
instance:Inhabited UL:=⟨⟨⟨0,ah.zero32,⟨0,Seg.aU.zero,0⟩⟩,rfl⟩⟩
section
variable {w0 w:World}{F:List aH}{v:Value}
theorem Y2 {p : Prop} (h : p := by
 have hlen:∀ x∈l,(slotL jI x).length=ou:=fun x hx=>jc jI x (hk x hx) KY (KZ _);rcases h.kP with ⟨rfl,hn',h'⟩|⟨g,n,cap,cs,rfl,hl,hn',hc,hcm,htk,hp⟩
 ·obtain rfl:l=[]:=by
   cases l with
   |nil=>rfl
   |cons x l=>rw [ada]at hn';have:=adu List.length hn';rw [aaK,hlen x (.head _)]at this;simp at this
  refine (AnyF.slices_SortFunc_none Sj none 0 (.func (.func La) #[] #[]) w).mono ?_;rintro e w1 ⟨rfl,rfl⟩;exact ⟨_,rfl,[],⟨.refl _,.nil⟩,h⟩
 ·rw [iY hlen,ahC]at hl;obtain rfl:n=l.length:=(Nat.eq_of_mul_eq_mul_right aN hl).symm;let d:Array qE:=(l.attach.map fun x=>(⟨x.1,hk x.1 x.2⟩:qE)).toArray;have hd:d.toList.map (·.1)=l:=by
   show (l.attach.map fun x=>(⟨x.1,hk x.1 x.2⟩:qE)).map (·.1)=l;rw [aee];exact List.attach_map_subtype_val l
  have hds:d.size=l.length:=by rw [← hd,abl,acJ]
  have hke:∀ x:qE,((fun x:qE=>slotL jI x.1) x).length=ou:=fun x=>jc jI x.1 x.2 KY (KZ _);have hfl:∀ d:Array qE,(flatK (fun x:qE=>slotL jI x.1) ou d).toList=(d.toList.map (·.1)).flatMap (slotL jI):=fun d=>by
   rw [af7 hke aN,List.flatMap_map]
  have hH:HoldsK (fun x:qE=>slotL jI x.1) ou w g 0 d:=ag7 hp.at (by rw [size_flatK,hds,hfl,hd];exact htk);refine (AnyQ.slices_SortFunc Sj ou abC abD (fun x:qE=>slotL jI x.1) hke (fun x v hv=>aeD.1 (mY jI x.1 (Sm _)) v hv) (fun x y=>Lib.compareBytes x.1.key y.1.key) (Tab.al2 fun x:qE=>x.1.key) La #[] g 0 cap d w (fun args w=>by kernel_rfl) (fun m os dk _ x y=>abE x.1 y.1 x.2 y.2 _) hH hp.lt oQ |> fun q=>(by rw [hds]at q;exact q:Calls Tryz.prog abG #[.slice (some ⟨g,0,none⟩) l.length cap,.func (.func La) #[] #[]] w _)).mono ?_;rintro e w1 ⟨rfl,d',n',os,hpm,hst,rfl⟩;obtain ⟨q1,q2⟩:=Tab.alL (key:=fun x:qE=>x.1.key) (by rw [hds];exact hpm) (by rw [hds];exact hst);have hl':d'.toList.length=l.length:=by rw [q1.length_eq,acJ,hds]
  have hS:=ak8 (n:=n') (os:=os) hp (flatK (fun x:qE=>slotL jI x.1) ou d');have hsz':(flatK (fun x:qE=>slotL jI x.1) ou d').size=l.length * ou:=by rw [size_flatK,← acJ,hl']
  refine ⟨_,rfl,d'.toList.map (·.1),⟨by rw [← hd];exact q1.map _,aij.2 q2⟩,?_⟩;refine hS.kR ?_ hn' (by simpa [Sort.putCells] using hc) hcm ?_
  ·rw [← hfl,acJ,hsz']
  ·rw [← hfl,← hsz'];refine ami _ ?_;have:l.length * ou≤cap * ou:=afx _ hn';omega) : p := h
abbrev gW.ou:Nat:=38
abbrev gW.KY:Nat:=5
theorem gW.KZ:type_of% @vO:=@vO
theorem gW.Sj:type_of% @Tryz.sortA:=@Tryz.sortA
abbrev gW.La:Nat:=220
abbrev gW.qE:=@UL
theorem gW.abC:type_of% @Tryz.isAgg289:=@Tryz.isAgg289
theorem gW.abD:type_of% @Tryz.sizeOf289:=@Tryz.sizeOf289
theorem gW.Sm:type_of% @xC:=@xC
theorem gW.abE:type_of% @VD:=@VD
abbrev gW.abG:Nat:=219
open gW in
theorem alI (l:List (Tab.Slot (Rep.dP))) (hk:∀ x∈l,x.key.length=32) (hn:l.length≤1073741824) (h:Sat w0 w (aB 289 38 v (l.flatMap (slotL bZ))::F)) :
  Calls Tryz.prog 219 #[v,.func (.func 220) #[] #[]] w (aP fun _ w'=>∃ l':List (Tab.Slot (Rep.dP)),(l'.Perm l∧l'.Pairwise fun a b=>¬ b.key<a.key)∧Sat w0 w' (aB 289 38 v (l'.flatMap (slotL bZ))::F)):=Y2
end
end Go.Proofs.YtihngncbioofnaaGreatDoor
namespace Go.Proofs.YtihngncbioofnaaGreatDoor
open Go Go.Sl Go.ay Go.MapKept Go.RowKit
section
variable {w0 w:World}{F R:List aH}{p B:Nat}{sv v:Value}{k:ah.Bs}{m:ah.Bs→Option (Rep.dP)}{t:Tab.Tb (Rep.dP)}
theorem aau (hB:B≤13000000) (h:Sat w0 w (fE p m B::F)) :
  Calls Tryz.prog 193 #[ptr p] w (aP fun v w'=>∃ l:List (Tab.Slot (Rep.dP)),(Tab.Lists m (l.map fun x=>(x.key,x.val))∧(∀ x∈l,x.st=1∧x.key.length=32)∧l.length≤B)∧Sat w0 w' (aB 289 38 v (l.flatMap (slotL bZ))::fE p m B::F)):=by
 obtain ⟨t,sv,⟨ok,is,hb⟩,hR⟩:=fE.open h;have hsz:t.slots.length≤56000000:=by have:=ok.size;omega
 have Hlen:=uQ (show ∀ x∈t.slots,(slotL bZ x).length=38 from fun x hx=>jc bZ x (ok.good.key x hx) 5 (vO _));obtain ⟨la,lc,rfl⟩:=jl Hlen.out (Sat.rd (hR.pick aY)) aN;have dw:=uQ ok;have iR:=uQ is;have Hb:=uQ hb;have iC:=uQ hsz;have jv:=uQ ok.good.jB;clear h ok is hb hB;have hS0:Sat w0 w (aB 289 38 (.slice none 0 0) []::fJ p 250 (.slice la t.slots.length lc) t.n t.gone::aB 289 38 (.slice la t.slots.length lc) (t.slots.flatMap (slotL bZ))::F):=Sat.gI.2 hR;clear hR;go_enter Tryz.func193,Tryz.ntmps193;go_wp2_with fail;refine (JO jv.out (hS0.pick aY)).mono ?_;rintro ee w7 ⟨v,rfl,rfl,rfl⟩;go_wp2_with ((with_reducible refine bI ⟨?_⟩);refine gu hS0 aj bC bJ ak au ?_)
 go_loopg [3,14] t.slots.length (fun g oq iq wr=>∃ (i:Nat),g=t.slots.length - i∧i≤t.slots.length∧iq = .int .i64 i ∧
  Sat w0 wr (aB 289 38 oq (((t.slots.take i).filter fun x=>decide (x.st=1)).flatMap (slotL bZ))::fJ p 250 (.slice la t.slots.length lc) t.n t.gone::aB 289 38 (.slice la t.slots.length lc) (t.slots.flatMap (slotL bZ))::F))
 case atStart=>exact ⟨0,rfl,acV _,rfl,hS0⟩
 case round=>
  obtain ⟨i,rfl,hi,rfl,hS⟩:=hrel;clear hS0;by_cases hlt:i<t.slots.length;rotate_left
  ·obtain rfl:i=t.slots.length:=by omega
   have c1:¬ (t.slots.length:Int)<(t.slots.length:Int):=oQ;rw [adk]at hS;have hfk:∀ x∈t.slots.filter fun x=>decide (x.st=1),x.key.length=32:=fun x hx=>dw.out.good.key x (acY.1 hx).1;have hs:=alI (t.slots.filter fun x=>decide (x.st=1)) hfk (acz (agJ _ _) (acz hsz aN)) hS;clear hlt hi hS hfk;go_wp2_with fail;refine hs.mono ?_;rintro ee w8 ⟨v,rfl,l,⟨h1,h2⟩,jE⟩;clear hs;have Hl:=uQ (Tab.Pn dw.out.good iR.out h1 h2)
   have Hll:=uQ (show l.length≤B from by
    rw [h1.length_eq,← List.countP_eq_length_filter];have e:t.slots.countP (fun x=>decide (x.st=1))=Tab.jP t.slots:=by
     unfold Tab.jP;refine List.countP_congr fun x _=>?_;simp
    have:=dw.out.n;have:=Hb.out;omega)
   clear h1 h2;go_wp2_with fail;go_ret;exact ⟨_,rfl,l,⟨Hl.out.1,Hl.out.2,Hll.out⟩,Sat.Z7 (fE.shut dw.out iR.out Hb.out (jE.sb))⟩
  have c1:(i:Int)<(t.slots.length:Int):=oQ;have hwi:=yA (i:=i);obtain ⟨x,hx⟩:∃ x,t.slots[i]?=some x:=⟨_,aaI hlt⟩;have hxm:=abV hx;have hst:=dw.out.good.st x hxm;have Hxk:=uQ (dw.out.good.key x hxm);obtain ⟨bk,off,c',hsv,hcell⟩:=jG Hlen.out (Sat.rd (hS.pick eH)) hx aN;cases hsv;have gK:=Hlen.out x hxm;have htk:(t.slots.take (i+1)).filter (fun x=>decide (x.st=1))=(t.slots.take i).filter (fun x=>decide (x.st=1))++[x].filter fun x=>decide (x.st=1):=by
   rw [adD,hx,agU,anS]
  have gY:=uQ htk;have bV:=uQ hlt;have Fz:(((t.slots.take i).filter fun x=>decide (x.st=1)).flatMap (slotL bZ)).length≤2147483648:=by
   rw [iY fun y hy=>Hlen.out y (adG (acY.1 hy).1)];have h1:=agJ (fun x=>decide (x.st=1)) (t.slots.take i);have h2:=aoi i t.slots;have h3:=iC.out;omega
  clear hx hxm hlt hi htk
  go_wp2_with (first
   |((with_reducible refine bI ⟨?_⟩);refine iL (b:=bk) (o:=off+i * 38) (slotL bZ x) aj hcell Tryz.underlying289 rfl (by rw [gK];kernel_rfl) ?_)
   |(with_reducible apply gq))
  refine ⟨fF wO hS rfl ?_⟩;intro b7 w7 hS7;go_wp2_with (first|((with_reducible refine cO ⟨?_⟩);refine gJ (slotL bZ x).toArray hS7 aj aj (by rw [abX,gK];rfl) cZ (by rw [abX,gK];kernel_rfl) (by rw [acW];exact mY bZ x (xC _)) ?_;intro w10 dL)|(with_reducible apply bI));refine ⟨?_⟩;clear hS hS7 hcell;have f0:w10.cell? ⟨b7,0,none⟩=some (.int .i64 x.st):=dL.cellP aV 0 (by rw [abY];rfl);by_cases h1:x.st=1;rotate_left
  ·have hst1:((x.st:Int)==1)=false:=by rw [acH];omega
   have e9:(t.slots.take (i+1)).filter (fun x=>decide (x.st=1))=(t.slots.take i).filter (fun x=>decide (x.st=1)):=by
    rw [gY.out,am1 (by rw [ac4 h1];decide),List.filter_nil,acM]
   have E9:=uQ e9;clear h1 e9;go_wp2_with fail
   go_roundg (t.slots.length - (i+1))
   case measure=>have:=bV.out;omega
   case rel=>exact ⟨i+1,rfl,bV.out,by first|rfl|go_num,by rw [E9.out];exact dL.sb⟩
  ·have hst1:((x.st:Int)==1)=true:=by rw [h1];rfl
   have e9:((t.slots.take (i+1)).filter (fun x=>decide (x.st=1))).flatMap (slotL bZ)=((t.slots.take i).filter (fun x=>decide (x.st=1))).flatMap (slotL bZ)++slotL bZ x:=by
    rw [gY.out,an7 (by rw [adt h1]),List.filter_nil,adz,ada,anX,acM]
   have E9:=uQ e9;clear h1 e9
   go_wp2_with (first
    |((with_reducible refine bI ⟨?_⟩);refine iW dL aj bC Tryz.underlying289 rfl (by rw [abX,gK];kernel_rfl) ?_)
    |(with_reducible apply pI))
   refine ⟨o7 (e:=289) (sz:=38) (eY:=80) au dL aj (cs:=(slotL bZ x).toArray) rfl (by rw [abX,gK]) aN ?_⟩;intro bN wN hN;go_wp2_with (with_reducible apply lX);refine ⟨pW 289 38 80 au hN aj aj bC aV (by rw [abX,gK]) (abL 1) (by rw [acW];exact mY bZ x (xC _)) Fz (by rw [abX,gK];decide) aN (by rw [acW]) ?_⟩;intro bA nA cA wA hA;go_wp2_with fail;rw [← E9.out]at hA
   go_roundg (t.slots.length - (i+1))
   case measure=>have:=bV.out;omega
   case rel=>exact ⟨i+1,rfl,bV.out,by first|rfl|go_num,hA.sb⟩
end
end Go.Proofs.YtihngncbioofnaaGreatDoor
namespace Go
open Go.Sl
variable {P:Program}{ops:Array Oper}{Q:Exit→Act→World→Prop}{K:Act→World→Prop}{l:Option Nat}{n:Nat}
abbrev rf (l:Option Nat):Fence:={ Fence.wide with round:=l }
abbrev calm (K:Act→World→Prop):Exit→Act→World→Prop:=Exit.then K fun _ _ _=>False
theorem NH:¬ LetsOut (calm K):=fun ⟨_,_,h⟩=>h
theorem akf {row:String}{args:Array Value}{w:World}{R:Value→World→Prop} (h:Rows P row args w R):RowsIn (rf l) n P row args w R:=fun c cs _=>by
 obtain ⟨v,w',r,s⟩:=h c cs;exact ⟨v,w',r,stepsIn_wide.2 s⟩
theorem ZM {o:Oper}{a:Act}{w:World}{N N':Act→World→Prop} (ho:∀ c,o.op ≠ .defer c) (hN:∀ a w,N a w→N' a w) (h:o.wp P a w N (calm K)):o.wpIn (rf l) n P a w N' Q:=by
 refine ⟨fun _ _=>trivial,?_⟩;rw [Oper.semAt_eq _ _ _ ho];unfold Oper.wp at h;generalize (execOp a.eval o).run P w=r at h ⊢;cases r with
 |ok x w'=>
  cases x with
  |value v=>exact hN _ _ h
  |skip=>exact hN _ _ h
  |defer d=>exact hN _ _ h
  |enter f args=>
   refine ⟨(fun hd=>by cases hd),?_⟩;refine CallsIn.mono (callsIn_wide.2 h) fun e w'' he=>?_;cases e with
   |returned v=>exact hN _ _ he
   |panicked c=>exact False.elim he
   |outgrown=>exact (NH he).elim
  |row row args=>exact ⟨(fun hd=>by cases hd),(akf h).mono fun v w'' he=>hN _ _ he⟩
  |round l' f tmps assign body=>exact h.elim
  |_=>exact h.elim
 |halt x w'=>
  cases x with
  |panic v=>exact False.elim h
  |_=>exact h.elim
theorem Pm {Bq:List Oper} (hK:∀ a w,K a w→wpListIn (rf l) n P ops Q Bq a w):∀ (rest:List Oper) (a:Act) (w:World),(∀ o∈rest,∀ c,o.op ≠ .defer c)→wpList P ops (calm K) rest a w→wpListIn (rf l) n P ops Q (rest++Bq) a w
 |[],a,w,_,h=>hK _ _ h
 |o::rest,a,w,hd,h=>by
  have ih:=Pm (Bq:=Bq) hK rest;show if Region.wanted o (yielded ops a.tmps)=true then o.wpIn (rf l) n P a w (wpListIn (rf l) n P ops Q (rest++Bq)) Q else (∀ f,o.about P w a.eval=some f→(rf l).fn f)∧wpListIn (rf l) n P ops Q (rest++Bq) (a.put o.dst undef) w
  have h':if Region.wanted o (yielded ops a.tmps)=true then o.wp P a w (wpList P ops (calm K) rest) (calm K)∨(o.asks P a w∧LetsOut (calm K)) else wpList P ops (calm K) rest (a.put o.dst undef) w:=h
  split at h'
  ·rename_i hw;rw [acr hw];rcases h' with h'|h'
   ·exact ZM (hd o (.head _)) (fun a w h=>ih a w (fun o ho=>hd o (.tail _ ho)) h) h'
   ·exact (NH h'.2).elim
  ·rename_i hw;rw [abA hw];exact ⟨fun _ _=>trivial,ih _ _ (fun o ho=>hd o (.tail _ ho)) h'⟩
abbrev AY (ops:Array Oper):Bool:=ops.toList.all fun o=>match o.op with | .defer _=>false|_=>true
theorem P5 (hd:AY ops=true):∀ o∈ops.toList,∀ c,o.op ≠ .defer c:=fun o ho c e=>by
 have:=(aeD.1 hd) o ho;rw [e]at this;cases this
theorem YO {rest:List Oper}{a:Act}{w:World} (hd:∀ o∈rest,∀ c,o.op ≠ .defer c) (h:wpList P ops (calm (Q .normal)) rest a w):wpListIn (rf l) n P ops Q rest a w:=by
 have:=Pm (l:=l) (n:=n) (Bq:=[]) (Q:=Q) (fun _ _ h=>h) rest a w hd h;rw [acM]at this;exact this
theorem ajO {id:Nat}{a:Act}{w:World} (hd:AY ops=true) (h:wpList P ops (calm (Q .normal)) ops.toList a w):(Code.region id ops false).wpIn (rf l) n P Q a w:=
 wpIn_region_list (YO (P5 hd) h)
theorem IB (hd:∀ o∈ops.toList,∀ c,o.op ≠ .defer c):∀ (k:Nat) (ls:Array Bool) (a:Act) (w:World),wpAny P .any ops (calm (Q .normal)) k ls a w→wpAnyIn (rf l) n P .any ops Q k ls a w
 |0,_,_,_,h=>h
 |k+1,ls,a,w,h=>by
  refine ⟨h.1,fun i hi=>?_⟩;have h':=h.2 i hi;unfold wpOp at h';unfold wpOpIn;split at h'
  ·rename_i he;simp only [he];exact IB hd k _ _ _ h'
  ·rename_i o he;simp only [he];split at h'
   ·rename_i hw;rw [acr hw];rcases h' with h'|h'
    ·refine ZM (hd o ?_) (fun a w h=>IB hd k _ a w h) h';rw [← ah6]at he;exact abV he
    ·exact (NH h'.2).elim
   ·rename_i hw;rw [abA hw];exact ⟨fun _ _=>trivial,IB hd k _ _ _ h'⟩
theorem ajP {id:Nat}{a:Act}{w:World} (late:List Nat) (G:World→Prop) (hd:AY ops=true) (hm:P.follows .mixedOrders=true)
  (h:jm P ops (calm (Q .normal)) late G ops.size (Array.replicate ops.size false) a w.drew):(Code.region id ops true).wpIn (rf l) n P Q a w:=
 wpIn_region_any hm (IB (P5 hd) _ _ _ _ (SY _ _ _ _ h))
theorem uT {id:Nat}{rest:List Oper}{a:Act}{w:World} (hd:AY rest.toArray=true) (h:∀ K:Act→World→Prop,(∀ a w,Q .normal a w→K a w)→wpList P rest.toArray (Exit.then K fun _ _ _=>False) rest a w):(Code.region id rest.toArray false).wpIn (rf l) n P Q a w:=
 ajO hd (by simpa using h _ fun _ _ h=>h)
theorem ajQ {id:Nat}{a:Act}{w:World} (late:List Nat) (G:World→Prop) (hd:AY ops=true) (hm:P.follows .mixedOrders=true)
  (h:∀ K:Act→World→Prop,(∀ a w,Q .normal a w→K a w)→jm P ops (Exit.then K fun _ _ _=>False) late G ops.size (Array.replicate ops.size false) a w.drew):(Code.region id ops true).wpIn (rf l) n P Q a w:=
 ajP late G hd hm (h _ fun _ _ h=>h)
theorem ajR {id:Nat}{a:Act}{w:World} (pre:List Oper) (o:Oper) (post:List Oper) (he:ops.toList=pre++o::post) (hd:AY ops=true)
  (h:wpList P ops (calm fun a w=>Region.wanted o (yielded ops a.tmps)=true∧∃ (l':Nat) (f:FuncId) (tmps:Array Value) (assign body:Code),(execOp a.eval o).run P w = .ok (.round l' f tmps assign body) w ∧
   RoundIn Fence.wide 0 P l' f tmps assign body w (fun e w'=>∃ v,e = .returned v∧wpList P ops (calm (Q .normal)) post (a.put o.dst v) w')) pre a w) :
  (Code.region id ops false).wp P Q a w:=by
 refine wpIn_wide (n:=0).1 (wpIn_region_list ?_);have hd':=P5 hd;rw [he]at hd' ⊢;refine Pm (l:=none) (n:=0) (K:=_) (fun a w hk=>?_) pre a w (fun o ho=>hd' o (List.mem_append_left _ ho)) h;obtain ⟨hw,l',f,tmps,assign,body,hx,hF,hc⟩:=hk;show if Region.wanted o (yielded ops a.tmps)=true then o.wpIn (rf none) 0 P a w (wpListIn (rf none) 0 P ops Q post) Q else _
 rw [acr hw];refine ⟨fun _ _=>trivial,?_⟩;rw [Oper.semAt_eq _ _ _ (hd' o (by simp)),hx];refine ⟨(fun hd=>by cases hd),hF,fun c cs hro=>?_⟩;obtain ⟨e,w',⟨v,rfl,hv⟩,hs⟩:=hc c cs hro;exact ⟨.returned v,w',YO (l:=none) (n:=0) (fun o ho=>hd' o (List.mem_append_right _ (.tail _ ho))) hv,hs⟩
theorem ajS {a:Act}{w:World}{id:Nat}{o0 o1 o2 o3 o4 o o6:Oper}{c:Code} (hd:AY #[o0,o1,o2,o3,o4,o,o6]=true)
  (h:∀ K:Act→World→Prop,(∀ a w,c.wp P Q a w→K a w)→wpList P #[o0,o1,o2,o3,o4,o,o6] (calm fun a w=>Region.wanted o (yielded #[o0,o1,o2,o3,o4,o,o6] a.tmps)=true∧∃ (l':Nat) (f:FuncId) (tmps:Array Value) (assign body:Code),(execOp a.eval o).run P w = .ok (.round l' f tmps assign body) w ∧
   RoundIn Fence.wide 0 P l' f tmps assign body w (fun e w'=>∃ v,e = .returned v∧wpList P #[o0,o1,o2,o3,o4,o,o6] (Exit.then K fun _ _ _=>False) [o6] (a.put o.dst v) w')) [o0,o1,o2,o3,o4] a w) :
  (Code.seq (Code.region id #[o0,o1,o2,o3,o4,o,o6] false) c).wp P Q a w:=
 wp_seq (ajR [o0,o1,o2,o3,o4] o [o6] rfl hd (h _ fun _ _ h=>h))
end Go
namespace Go
open Go.Sl Go.RowKit
section
variable {P:Program}{w0 w:World}{F R L:List aH}{b:Nat}{o o':Obj}{kv:List (Array Value)}{A A':List aH}
theorem Sl.Sat.putObj (o':Obj) (h:Sat w0 w (pt b o::R)):Sat w0 (w.putObj b o') (pt b o'::R):=
 h.turn rfl rfl rfl (by rw [World.putObj_size];exact abL _) (World.putObj_heap_same h.lt) fun i hi _=>World.putObj_heap_other hi
theorem Sl.Sat.IC (h:Sat w0 w (L++R)):Sat w0 w (R++L):=h.perm ajl
def Iter (P:Program) (gf:Nat) (lb:Array Value) (kv:List (Array Value)) (w0:World) (A A':List aH):Prop:=
 ∀ (l:Nat) (R:List (Array Value)→List aH),
  (∀ pre x post W U,kv=pre++x::post→Sat w0 W (R pre++U)→∃ f tmps assign body,(Instr.yield l x).run P W = .ok (.round l f tmps assign body) W ∧
   RoundIn Fence.wide 0 P l f tmps assign body W (fun e W'=>e = .returned (.bool true)∧Sat w0 W' (R (pre++[x])++U))) →
  ∀ W,Sat w0 W (A++R [])→Calls P gf (#[.func (.yield l) #[] #[]]++lb) W (aP fun v W'=>Sat w0 W' (A'++R kv))
theorem acf {g:Operand}{ps:Array Tmp}{assign body:Code}{Q:Exit→Act→World→Prop}{a:Act}{gf:Nat}{lb:Array Value}
  (hg:a.eval g = .func (.func gf) #[] lb) (eg:∀ args w,(callFunc gf args).run P w = .ok (.enter gf args) w)
  (hit:Iter P gf lb kv w0 A A') (hps:∀ x∈kv,x.size=ps.size) (R:List (Array Value)→List aH) (h:Sat w0 w (A++R []))
  (ag9:∀ (l:Nat) (pre:List (Array Value)) (x:Array Value) (post:List (Array Value)) (U:List aH) (W:World),kv=pre++x::post→Sat w0 W (R pre++U) →
   ∀ T,T=(ps.zip x).foldl (fun t (p,v)=>t.setIfInBounds p v) a.tmps→assign.wpIn (rf (some l)) 0 P (Exit.then (fun a₁ w₁=>∃ M:List aH,Sat w0 w₁ (M++U)∧∀ U' w₂,Sat w0 w₂ (M++U')→body.wpIn (rf (some l)) 0 P (fun e _ w₃=>e = .normal∧Sat w0 w₃ (R (pre++[x])++U')) a₁ w₂) (fun _ _ _=>False))
    { tmps:=T,defers:=[] } W)
  (hdone:∀ D w',Sat w0 w' (A'++(R kv++[pt D (.deferred (some []))]))→Q .normal { a with defers:={ target:= .collected D,args:=#[] }::a.defers } w') :
  (Code.rangeFunc g ps assign body).wp P Q a w:=by
 refine (wpIn_wide (n:=0)).1 (wpIn_rangeFunc ?_);intro fn hfn;obtain ⟨rec,hrec⟩:∃ rec:LoopState→Option Code→Loop,rec=fun st pe=>{ state:=st,pending:=pe,fn,tmps:=a.tmps,params:=ps,assign,body,defers:=w.heap.size }:=⟨_,rfl⟩;obtain ⟨D,hD⟩:∃ D,D=w.heap.size:=⟨_,rfl⟩;obtain ⟨l,hl⟩:∃ l,l=D+1:=⟨_,rfl⟩;obtain ⟨W1,hW1⟩:∃ W1,W1=(w.alloc (.deferred (some []))).alloc (.loop (rec .ready none)):=⟨_,rfl⟩;have hS1:Sat w0 W1 (pt l (.loop (rec .ready none))::pt D (.deferred (some []))::(A++R [])):=by
  have:=(h.alloc (.deferred (some []))).alloc (.loop (rec .ready none));rw [World.size_alloc,← hW1,← hD,← hl]at this;exact this
 refine ⟨l,[{ target:= .collected D,args:=#[] }],W1,{ target:= .fn (.func gf) lb,args:=#[.func (.yield l) #[] #[]] },W1,gf,#[.func (.yield l) #[] #[]]++lb,W1,?_,?_,?_,?_,(fun h=>by cases h),?_⟩
 ·rw [hW1,hl,hD,hrec];exact run_enterLoop_outer _ _ _ _ _
 ·simp only [resolve,hg];simp [go_sem]
 ·intro f' _;trivial
 ·simp [invoke,go_sem,eg]
 ·refine callsIn_wide.2 ((hit l (fun pre=>R pre++[pt l (.loop (rec .ready none)),pt D (.deferred (some []))]) ?_ W1 ?_).mono ?_)
  ·intro pre x post W U hkv hS;have hS':Sat w0 W (pt l (.loop (rec .ready none))::(R pre++(pt D (.deferred (some []))::U))):=by
    rw [acD]at hS;exact hS.perm anV
   have hat:=hS'.at;have hy:=run_yield (P:=P) (args:=x) hat (by rw [hrec];exact hps x (by rw [hkv];simp));refine ⟨_,_,_,_,hy,roundIn_of_wpIn trivial ?_⟩
   have hr:=ag9 l pre x post (pt D (.deferred (some []))::U++[pt l (.loop (rec .ready none))]) W hkv (hS'.perm (by
    rw [← adA,← acD];exact (ajl (l₁:=[pt l (.loop (rec .ready none))]) (l₂:=R pre++(pt D (.deferred (some []))::U))))) _ rfl
   have e1:((rec .ready none).params.zip x).foldl (fun tmps (t,a)=>tmps.setIfInBounds t a) (rec .ready none).tmps=(ps.zip x).foldl (fun t (p,v)=>t.setIfInBounds p v) a.tmps:=by rw [hrec]
   rw [e1];have e2:(rec .ready none).assign=assign:=by rw [hrec]
   have e3:(rec .ready none).body=body:=by rw [hrec]
   rw [e2,e3];refine wpIn_mono hr ?_;intro e a1 w1 he;cases e with
   |normal=>
    obtain ⟨M,hM,hb⟩:=he
    have hM':Sat w0 w1 (pt l (.loop (rec .ready none))::(M++(pt D (.deferred (some []))::U))):=hM.perm (by
     rw [← acD];exact ajl (l₁:=M++(pt D (.deferred (some []))::U)) (l₂:=[pt l (.loop (rec .ready none))]))
    have hM2:=hM'.putObj (.loop { rec .ready none with state:= .busy });refine ⟨_,run_beginRound hM'.at (by rw [hrec]),?_⟩
    refine wpIn_mono (hb (pt D (.deferred (some []))::U++[pt l (.loop { rec .ready none with state:= .busy })]) _ (hM2.perm (by
     rw [← adA,← acD];exact (ajl (l₁:=[pt l (.loop { rec .ready none with state:= .busy })]) (l₂:=M++(pt D (.deferred (some []))::U)))))) ?_
    rintro e2 a2 w2 ⟨rfl,hS2⟩
    have hS3:Sat w0 w2 (pt l (.loop { rec .ready none with state:= .busy })::(R (pre++[x])++(pt D (.deferred (some []))::U))):=hS2.perm (by
     rw [← acD];exact ajl (l₁:=R (pre++[x])++(pt D (.deferred (some []))::U)) (l₂:=[pt l (.loop { rec .ready none with state:= .busy })]))
    refine ⟨_,_,run_endRound none hS3.at,rfl,?_⟩;have hS4:=hS3.putObj (.loop (rec .ready none));have e4:(Obj.loop { { rec .ready none with state:= .busy } with state:=if (none:Option Code).isNone then .ready else .done,pending:=none }) = .loop (rec .ready none):=by rw [hrec];rfl
    rw [e4];refine hS4.perm ?_;rw [acD];exact anV.symm
   |exit id=>exact he.elim
   |goto t=>exact he.elim
   |ret=>exact he.elim
   |panic c=>exact he.elim
   |outgrown=>exact he.elim
  ·refine hS1.perm ?_;rw [← acD];exact (ajl (l₁:=[pt l (.loop (rec .ready none)),pt D (.deferred (some []))]) (l₂:=A++R []))
  ·rintro e W2 ⟨v,rfl,hS⟩
   have hS':Sat w0 W2 (pt l (.loop (rec .ready none))::(A'++(R kv++[pt D (.deferred (some []))]))):=hS.perm (by
    rw [← acD,← acD];exact anV)
   refine ⟨none,_,by have:=run_endLoop (P:=P) hS'.at (by rw [hrec];simp);rw [show (rec .ready none).pending=none by rw [hrec]]at this;exact this,?_⟩;exact hdone D _ (hS'.putObj _).drop
theorem YK {fn:Func}{tmps:Array Value}{K:Ending→World→Prop}{D:Nat}{v:Value} (h:Sat w0 w (pt D (.deferred (some []))::F)) (hv:∀ w,(results fn tmps).run P w = .ok v w) (hK:∀ w',Sat w0 w' F→K (.returned v) w') :
  LeavesInM Fence.wide 0 P fn tmps K [{ target:= .collected D,args:=#[] }] .returning w:=
 ⟨by simp,.inl ⟨_,_,rfl,run_takeDeferred h.at,⟨_,hv _,hK _ ((h.putObj (.deferred none)).drop)⟩⟩⟩
def NV (P:Program) (fn:Func) (K:Ending→World→Prop):Exit→Act→World→Prop
 |.normal,a,w | .ret,a,w=>LeavesInM Fence.wide 0 P fn a.tmps K a.defers .returning w
 |_,_,_=>False
theorem Vu {f:FuncId}{fn:Func}{c:Code}{args:Array Value}{K:Ending→World→Prop} (hf:P.funcs[f]?=some fn) (hb:fn.body=some c)
  (h:c.wp P (NV P fn K) { tmps:=args++Array.replicate (fn.ntmps - args.size) undef,defers:=[] } w):Calls P f args w K:=
 (callsIn_wide (n:=0)).1 (callsIn_of_wp_marks hf hb trivial (wpIn_wide.2 (wp_mono h fun e a w he=>by
  cases e with
  |normal=>exact he
  |ret=>exact he
  |_=>exact he.elim)) rfl)
theorem afI {fn:Func}{a:Act}{K:Ending→World→Prop}{D:Nat}{v:Value} (ha:a.defers=[{ target:= .collected D,args:=#[] }]) (h:Sat w0 w (pt D (.deferred (some []))::F)) (hv:∀ w,(results fn a.tmps).run P w = .ok v w)
  (hK:∀ w',Sat w0 w' F→K (.returned v) w'):NV P fn K .normal a w:=by
 show LeavesInM Fence.wide 0 P fn a.tmps K a.defers .returning w;rw [ha];exact YK h hv hK
end
end Go
