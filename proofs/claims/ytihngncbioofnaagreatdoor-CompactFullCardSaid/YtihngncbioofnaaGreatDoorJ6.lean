import Derived.Test.YtihngncbioofnaaGreatDoorJ5
import Derived.Test.YtihngncbioofnaaGreatDoorSort
import Derived.Laws.Slices
set_option maxRecDepth 20000
set_option linter.unusedVariables false
set_option maxHeartbeats 128000000
namespace Go.Proofs.YtihngncbioofnaaGreatDoor
open Go Go.Sl Go.ay Go.MapKept Go.RowKit
def zH (x:ah.Bs×Rep.dP):Array Value:=#[.agg (aA x.1).toArray,.agg (bZ x.2).toArray]
section
variable {w0 w:World}{F:List aH}{p B:Nat}{m:ah.Bs→Option (Rep.dP)}
theorem adV (h:Sat w0 w F):Calls Tryz.prog 158 #[ptr p] w
  (aP fun v w'=>∃ b,v = .func (.func 192) #[] #[ptr b]∧Sat w0 w' (pt b (.cells #[ptr p] 188 (0,0))::F)):=by
 go_enter Tryz.func158,Tryz.ntmps158;go_wp2_with (first|((with_reducible refine fK ⟨?_⟩);refine fM aQ ak ak ?_;intro bB wB hB)|(with_reducible apply gq));go_ret;exact ⟨_,rfl,bB,rfl,hB⟩
theorem Y3 {p : Prop} (h : p := by
 intro ly R hY W hW;have Hl:=uQ hl;have hW0:Sat w0 W (DN p m B::pt b (.cells #[ptr p] DR (0,0))::R []):=hW;clear hW hl;show Calls Tryz.prog abH #[.func (.yield ly) #[] #[],ptr b] W _;go_enter abI,abJ;have hr:=abK hB hW0;go_wp2_with ((with_reducible refine bI ⟨?_⟩);refine gu hW0 aj bC bJ ak au ?_);clear hW0;refine hr.mono ?_;rintro ee w1 ⟨sv,rfl,s,⟨hs1,hs2,hs3⟩,hS1⟩;clear hr;have e0:l=s.map fun x=>(x.key,x.val):=Hl.out.unique hs1;clear hs1 Hl;subst e0;have qX:=uQ hs2;have UA:=uQ hs3;have Hlen:=uQ (show ∀ x∈s,(slotL jI x).length=ou from fun x hx=>jc jI x (hs2 x hx).2 KY (KZ _));obtain ⟨la,lc,rfl⟩:=jl Hlen.out (Sat.rd hS1) aN;have hsb:s.length≤13000000:=acz hs3 hB;clear hs2 hs3 hB;go_wp2_with fail
 go_loopg [8] s.length (fun g iq wr=>∃ (i:Nat),g=s.length - i∧i≤s.length∧iq = .int .i64 i ∧
  Sat w0 wr (aB qC ou (.slice la s.length lc) (s.flatMap (slotL jI))::DN p m B::pt b (.cells #[ptr p] DR (0,0))::R (((s.take i).map fun x=>(x.key,x.val)).map wI)))
 case atStart=>exact ⟨0,rfl,acV _,rfl,hS1⟩
 case round=>
  obtain ⟨i,rfl,hi,rfl,hS⟩:=hrel;clear hS1;by_cases hlt:i<s.length;rotate_left
  ·obtain rfl:i=s.length:=by omega
   have c1:¬ (s.length:Int)<(s.length:Int):=oQ;rw [adk]at hS;clear hlt hi;go_wp2_with fail
   go_end0
   exact ⟨_,rfl,by rw [← aee];exact hS.drop⟩
  have c1:(i:Int)<(s.length:Int):=oQ;have hwi:=yA (i:=i);obtain ⟨x,hx⟩:∃ x,s[i]?=some x:=⟨_,aaI hlt⟩;have hxm:=abV hx;have Hxk:=uQ (qX.out x hxm).2;obtain ⟨bk,off,c',hsv,hcell⟩:=jG Hlen.out (Sat.rd (hS.pick aV)) hx aN;cases hsv;have gK:=Hlen.out x hxm;have gY:=uQ (show s.take (i+1)=s.take i++[x] by rw [adD,hx,agU]);have bV:=uQ hlt
  have Ip:=uQ (show (s.map fun x=>(x.key,x.val)).map wI=((s.take i).map fun x=>(x.key,x.val)).map wI++wI (x.key,x.val)::((s.drop (i+1)).map fun x=>(x.key,x.val)).map wI by
   have e:s=s.take i++x::s.drop (i+1):=by
    obtain ⟨h1,rfl⟩:=abW.1 hx;rw [← aic h1,adB]
   conv=>lhs;rw [e]
   simp only [acI,acS])
  clear hx hxm hlt hi
  go_wp2_with (first
   |((with_reducible refine bI ⟨?_⟩);refine iL (b:=bk) (o:=off+i * ou) (slotL jI x) aj hcell abM rfl (by rw [gK];kernel_rfl) ?_)
   |(with_reducible apply gq))
  refine ⟨fF abN hS rfl ?_⟩;intro b7 w7 hS7;go_wp2_with ((with_reducible apply cO));refine ⟨gJ (slotL jI x).toArray hS7 aj aj (by rw [abX,gK];rfl) cZ (by rw [abX,gK];kernel_rfl) (by rw [acW];exact mY jI x (Sm _)) ?_⟩;intro w10 dL;clear hS hS7 hcell;have f1:w10.rangeAt b7 1 (aA x.key):=yP (dL.pick aV);have f2:w10.rangeAt b7 33 (jI x.val):=alF Hxk.out (dL.pick aV);have e1:=Tryz.underlying50
  have nV:Sat w0 w10 (R (((s.take i).map fun x=>(x.key,x.val)).map wI)++[aB qC ou (.slice (some ⟨bk,off,none⟩) s.length lc) (s.flatMap (slotL jI)),DN p m B,pt b (.cells #[ptr p] DR (0,0))]):=
   (dL.drop:Sat w0 w10 ([aB qC ou (.slice (some ⟨bk,off,none⟩) s.length lc) (s.flatMap (slotL jI)),DN p m B,pt b (.cells #[ptr p] DR (0,0))]++R (((s.take i).map fun x=>(x.key,x.val)).map wI))).IC
  obtain ⟨yf,yt,ya,yb,hy,hr⟩:=hY _ _ _ w10 _ Ip.out nV;clear nV dL hY
  go_step
  go_step
  go_step
  refine ajS aj ?_;intro K hK
  go_wp2_with (first
   |((with_reducible refine bI ⟨?_⟩);refine iL (b:=b7) (o:=1) (aA x.key) aj f1 e1 rfl (by rw [aX,Hxk.out];kernel_rfl) ?_)
   |((with_reducible refine bI ⟨?_⟩);refine iL (b:=b7) (o:=33) (jI x.val) aj f2 abO rfl au ?_))
  refine ⟨_,yf,yt,ya,yb,hy,hr.mono ?_⟩;rintro ee w12 ⟨rfl,iK⟩;refine ⟨_,rfl,?_⟩;have uH:Sat w0 w12 (aB qC ou (.slice (some ⟨bk,off,none⟩) s.length lc) (s.flatMap (slotL jI))::DN p m B::pt b (.cells #[ptr p] DR (0,0))::R (((s.take (i+1)).map fun x=>(x.key,x.val)).map wI)):=by
   have:=iK.IC;rw [gY.out,acI,acI];exact this
  clear iK hr hy f1 f2;go_wp2_with fail
  go_roundg (s.length - (i+1))
  case measure=>have:=bV.out;omega
  case rel=>exact ⟨i+1,rfl,bV.out,by first|rfl|go_num,uH⟩) : p := h
abbrev gW.DN:=@fE
abbrev gW.DR:Nat:=188
abbrev gW.abH:Nat:=192
theorem gW.abI:type_of% @Tryz.func192:=@Tryz.func192
theorem gW.abJ:type_of% @Tryz.ntmps192:=@Tryz.ntmps192
theorem gW.abK:type_of% @aau:=@aau
abbrev gW.wI:=@zH
theorem gW.abM:type_of% @Tryz.underlying289:=@Tryz.underlying289
theorem gW.abN:type_of% @wO:=@wO
theorem gW.abO:type_of% @Tryz.underlying191:=@Tryz.underlying191
open gW in
theorem adU {b:Nat}{l:List (ah.Bs×Rep.dP)} (hB:B≤13000000) (hl:Tab.Lists m l) :
  Iter Tryz.prog 192 #[ptr b] (l.map zH) w0 [fE p m B,pt b (.cells #[ptr p] 188 (0,0))] [fE p m B,pt b (.cells #[ptr p] 188 (0,0))]:=Y3
end
def aI (p:Nat) (m:ah.Bs→Option (Seg.aU)) (B:Nat):aH:=fun h=>∃ (t:Tab.Tb (Seg.aU)) (sv:Value),(t.Ok∧t.Is m∧t.n+t.gone≤B)∧stars [fJ p 166 sv t.n t.gone,aB 164 36 sv (t.slots.flatMap (slotL aS))] h
theorem ng:jr Tryz.prog 94=some (.agg (aS Seg.aU.zero).toArray):=by kernel_rfl
section
variable {w0 w:World}{F R:List aH}{p B:Nat}{sv v:Value}{k:ah.Bs}{m:ah.Bs→Option (Seg.aU)}{t:Tab.Tb (Seg.aU)}
theorem aI.open (h:Sat w0 w (aI p m B::F)):∃ (t:Tab.Tb (Seg.aU)) (sv:Value),(t.Ok∧t.Is m∧t.n+t.gone≤B)∧Sat w0 w (fJ p 166 sv t.n t.gone::aB 164 36 sv (t.slots.flatMap (slotL aS))::F):=by
 obtain ⟨ha,x,hx,q,r,dd,rfl,⟨t,sv,hin,hp⟩,hq⟩:=h;refine ⟨t,sv,hin,ha,_,hx,?_⟩;show stars ([fJ p 166 sv t.n t.gone,aB 164 36 sv (t.slots.flatMap (slotL aS))]++F) _;rw [qy];exact ⟨q,r,dd,rfl,hp,hq⟩
theorem aI.shut (h1:t.Ok) (h2:t.Is m) (h3:t.n+t.gone≤B) (h:Sat w0 w (fJ p 166 sv t.n t.gone::aB 164 36 sv (t.slots.flatMap (slotL aS))::F)):Sat w0 w (aI p m B::F):=
 Sat.join (M:=[fJ p 166 sv t.n t.gone,aB 164 36 sv (t.slots.flatMap (slotL aS))]) h fun _ hx=>⟨t,sv,⟨h1,h2,h3⟩,hx⟩
theorem aiw (h:Sat w0 w F):Calls Tryz.prog 112 #[] w (aP fun v w'=>∃ p,v=ptr p∧Sat w0 w' (aI p (fun _=>none) 0::F)):=by
 go_enter Tryz.func112,Tryz.ntmps112
 go_wp2_with (first
  |((with_reducible refine at_make ⟨?_⟩);refine DX (e:=164) (sz:=36) (eY:=64) (n:=8) au ug h aj aj aN aN ?_;intro bM wM hM)
  |((with_reducible refine fK ⟨?_⟩);refine fM hM ak ak ?_;intro bB wB hB))
 go_ret;refine ⟨_,rfl,bB,rfl,?_⟩;have e:(List.replicate 8 (slotL aS ⟨0,ah.zero32,rY⟩)).flatten=(List.replicate 8 (⟨0,ah.zero32,rY⟩:Tab.Slot (Seg.aU))).flatMap (slotL aS):=(Dx 8 _).symm;rw [e]at hB;exact aI.shut (t:=⟨List.replicate 8 ⟨0,ah.zero32,rY⟩,0,0⟩) (Tab.PU aN rfl) (Tab.PS rfl 0 0) (abL 0) hB
theorem gX.RQ:type_of% @aI.open:=@aI.open
theorem gX.RU:type_of% @Tryz.func98:=@Tryz.func98
theorem gX.RY:type_of% @Tryz.ntmps98:=@Tryz.ntmps98
theorem gX.KU:type_of% @ng:=@ng
abbrev gX.yU:=@rY
abbrev gX.BG:Nat:=94
theorem gX.RZ:type_of% @AZ:=@AZ
theorem gX.Si:type_of% @CG:=@CG
theorem gX.DL:type_of% @Tryz.underlying94:=@Tryz.underlying94
theorem gX.KX:type_of% @aI.shut:=@aI.shut
open gX in
theorem Oh (hB:B≤268435000) (hk:k.length=32) (h:Sat w0 w (aI p m B::F)) :
  Calls Tryz.prog 98 #[ptr p,.agg (aA k).toArray] w (aP fun v w'=>v = .tuple #[.agg (aS ((m k).getD Seg.aU.zero)).toArray,.bool (m k).isSome]∧Sat w0 w' (aI p m B::F)):=Pz
end
section
variable {w0 w:World}{F R:List aH}{p B N:Nat}{sv v:Value}{k:ah.Bs}{m:ah.Bs→Option (Seg.aU)}{t:Tab.Tb (Seg.aU)}
theorem aar (ok:t.Ok) (hN:t.n≤N) (hNb:N≤134217728) (XW:t.slots.length≤1073741824) (h:Sat w0 w (fJ p 166 sv t.n t.gone::aB 164 36 sv (t.slots.flatMap (slotL aS))::F)) :
  Calls Tryz.prog 147 #[ptr p,.int .i64 N] w (aP fun _ w'=>∃ s' sv',Tab.vM t s' N∧Sat w0 w' (fJ p 166 sv' t.n 0::aB 164 36 sv' (s'.flatMap (slotL aS))::F)):=by
 have dw:=uQ ok;have HN:=uQ hN;have Tv:=uQ hNb;have Hlen:=uQ (show ∀ x∈t.slots,(slotL aS x).length=36 from fun x hx=>jc aS x (ok.good.key x hx) 3 (qQ _));obtain ⟨la,lc,rfl⟩:=jl Hlen.out (Sat.rd (h.pick aY)) aN;have hw0:IntKind.i64.wrap (2 * (N:Int))=2 * (N:Int):=acC _ oQ;have Yn:wrap64 (2 * (N:Int))=2 * (N:Int):=adM _ oQ;clear ok hN;go_enter Tryz.func147,Tryz.ntmps147;go_wp2_with fail
 go_loopg [4] (4 * N) (fun g cq wr=>∃ c:Nat,g=4 * N+8 - c∧cq = .int .i64 c∧(∃ j,c=2^j∧3≤j)∧8≤c∧(c=8∨c<4 * N)∧wr=w)
 case atStart=>exact ⟨8,by omega,rfl,⟨3,rfl,abL 3⟩,abL 8,.inl rfl,rfl⟩
 case round=>
  obtain ⟨c,rfl,rfl,⟨j,hj,hj3⟩,hc8,hc,rfl⟩:=hrel;by_cases hlt:c<2 * N
  ·have c1:(c:Int)<2 * (N:Int):=by omega
   have hw1:IntKind.i64.wrap ((c:Int) * 2)=(c:Int) * 2:=acC _ oQ;have Yo:wrap64 ((c:Int) * 2)=(c:Int) * 2:=adM _ oQ;have Hj:=uQ hj;have Ef:=uQ hj3;have bV:=uQ hlt;have uj:=uQ hc8;clear hj hj3 hlt hc hc8;go_wp2_with fail
   go_roundg (4 * N+8 - c * 2)
   case measure=>have:=bV.out;have:=uj.out;omega
   case rel=>exact ⟨c * 2,rfl,by first|rfl|go_num,⟨j+1,by rw [aoq,Hj.out],by have:=Ef.out;omega⟩,by have:=uj.out;omega,.inr (by have:=bV.out;omega),rfl⟩
  ·have c1:¬ (c:Int)<2 * (N:Int):=by omega
   have HC:=uQ (show (∃ j,c=2^j∧3≤j)∧2 * N≤c∧8≤c∧(c=8∨c<4 * N) from ⟨⟨j,hj,hj3⟩,by omega,hc8,hc⟩);have hcb:c≤1073741824:=oQ;have rZ:=uQ hcb;clear hj hj3 hlt hc hc8 hw0 hcb hNb
   go_wp2_with (first
    |((with_reducible refine bI ⟨?_⟩);refine gu h aj bC bJ ak au ?_)
    |((with_reducible refine at_make ⟨?_⟩);refine DX (e:=164) (sz:=36) (eY:=64) (n:=c) au ug h aj aj (by have:=rZ.out;omega) (by have:=rZ.out;omega) ?_;intro bM wM hM)
    |((with_reducible refine cO ⟨?_⟩);refine fG aQ aj ak pQ eX bJ au aj ?_;intro wS hS))
   have e8:(List.replicate c (slotL aS ⟨0,ah.zero32,rY⟩)).flatten=(List.replicate c (⟨0,ah.zero32,rY⟩:Tab.Slot (Seg.aU))).flatMap (slotL aS):=(Dx c _).symm;rw [e8]at hS;have hS0:Sat w0 _ (fJ p 166 (.slice (some ⟨bM,0,none⟩) c c) t.n 0::aB 164 36 (.slice (some ⟨bM,0,none⟩) c c) ((List.replicate c (⟨0,ah.zero32,rY⟩:Tab.Slot (Seg.aU))).flatMap (slotL aS))::aB 164 36 (.slice la t.slots.length lc) (t.slots.flatMap (slotL aS))::F):=hS.sb;clear hS hM h e8 c1;go_wp2_with fail
   go_loopg [31] t.slots.length (fun g iq wr=>∃ (i:Nat) (cur:List (Tab.Slot (Seg.aU))),g=t.slots.length - i∧i≤t.slots.length∧iq = .int .i64 i∧Tab.Half t.slots cur i∧cur.length=c ∧
    Sat w0 wr (fJ p 166 (.slice (some ⟨bM,0,none⟩) c c) t.n 0::aB 164 36 (.slice (some ⟨bM,0,none⟩) c c) (cur.flatMap (slotL aS))::aB 164 36 (.slice la t.slots.length lc) (t.slots.flatMap (slotL aS))::F))
   case atStart=>exact ⟨0,_,rfl,acV _,rfl,Tab.half_start HC.out.1 aN rfl,adI,hS0⟩
   case round=>
    obtain ⟨i,cur,rfl,hi,rfl,hH,hcl,hS⟩:=hrel;clear hS0;have HH:=uQ hH;have fP:=uQ hcl;by_cases hlt:i<t.slots.length;rotate_left
    ·obtain rfl:i=t.slots.length:=by omega
     have c1:¬ (t.slots.length:Int)<(t.slots.length:Int):=oQ;clear hlt hH hi;go_wp2_with fail
     go_end0
     obtain ⟨q1,q2,q3,q4⟩:=HH.out.done;exact ⟨_,rfl,cur,⟨q1,q2,q3.trans dw.out.n.symm,q4.trans dw.out.n.symm,by rw [fP.out];exact HC.out.2.1,by rw [fP.out];exact HC.out.2.2.1,by rw [fP.out];exact HC.out.2.2.2⟩,_,hS.sb⟩
    have c1:(i:Int)<(t.slots.length:Int):=oQ;have hwi:=yA (i:=i);obtain ⟨x,hx⟩:∃ x,t.slots[i]?=some x:=⟨_,aaI hlt⟩;have hxm:=abV hx;have hst:=dw.out.good.st x hxm;have Hxk:=uQ (dw.out.good.key x hxm);obtain ⟨bk,off,c',hsv,hcell⟩:=jG Hlen.out (Sat.rd (hS.pick eH)) hx aN;cases hsv;have gK:=Hlen.out x hxm;have Hx:=uQ hx;have bV:=uQ hlt;clear hx hxm hlt hH hi
    go_wp2_with (first
     |((with_reducible refine bI ⟨?_⟩);refine iL (b:=bk) (o:=off+i * 36) (slotL aS x) aj hcell Tryz.underlying164 rfl (by rw [gK];kernel_rfl) ?_)
     |(with_reducible apply gq))
    refine ⟨fF ug hS rfl ?_⟩;intro b7 w7 hS7;go_wp2_with (first|((with_reducible refine cO ⟨?_⟩);refine gJ (slotL aS x).toArray hS7 aj aj (by rw [abX,gK];rfl) cZ (by rw [abX,gK];kernel_rfl) (by rw [acW];exact mY aS x (uS _)) ?_;intro w10 dL)|(with_reducible apply bI));refine ⟨?_⟩;clear hS hS7 hcell;have f0:w10.cell? ⟨b7,0,none⟩=some (.int .i64 x.st):=dL.cellP aV 0 (by rw [abY];rfl);have f1:w10.rangeAt b7 1 (aA x.key):=yP (dL.pick aV);by_cases h1:x.st=1;rotate_left
    ·have hst1:((x.st:Int)==1)=false:=by rw [acH];omega
     have H1:=uQ h1;clear h1 f1;go_wp2_with fail
     go_roundg (t.slots.length - (i+1))
     case measure=>have:=bV.out;omega
     case rel=>exact ⟨i+1,cur,rfl,bV.out,by first|rfl|go_num,HH.out.skip Hx.out H1.out,fP.out,dL.sb⟩
    ·have hus:Tab.used cur<cur.length:=by
      have h2:=HH.out.nu;have h3:=Tab.Og t.slots i;have h4:=dw.out.n;have h5:=HN.out;have h6:=HC.out;rw [fP.out];omega
     obtain ⟨dd,hdd⟩:=Tab.Jc (k:=x.key) HH.out.good (Tab.Je hus);have H1:=uQ h1;have vw:=uQ hdd;have hst1:((x.st:Int)==1)=true:=by rw [h1];rfl
     have wY:=uQ (show ∀ y∈cur,(slotL aS y).length=36 from fun y hy=>jc aS y (HH.out.good.key y hy) 3 (qQ _));clear h1 hus hdd;go_wp2_with ((with_reducible refine bI ⟨?_⟩);refine iL (b:=b7) (o:=1) (aA x.key) aj f1 Tryz.underlying50 rfl (by rw [aX,Hxk.out];kernel_rfl) ?_);have hf:=CG HH.out.good (by rw [fP.out];exact rZ.out) Hxk.out vw.out (dL.sb:Sat w0 w10 (fJ p 166 (.slice (some ⟨bM,0,none⟩) c c) t.n 0::aB 164 36 (.slice (some ⟨bM,0,none⟩) c c) (cur.flatMap (slotL aS))::pt b7 (.cells (slotL aS x).toArray 164 (0,0))::aB 164 36 (.slice (some ⟨bk,off,none⟩) t.slots.length lc) (t.slots.flatMap (slotL aS))::F));clear dL f0 f1;refine hf.mono ?_;rintro ee iV ⟨v,rfl,y,hy,rfl,nV⟩;clear hf hy;have hlt2:=Tab.lV (k:=x.key) (d:=dd) HH.out.good.jB;rw [fP.out]at hlt2
     have xk:=uQ (yN (f:=slotL aS) (k:=36) (i:=Tab.pos x.key cur.length dd) (x:=x) wY.out gK (Tab.lV HH.out.good.jB));have xu:=uQ (HH.out.step dw.out.good Hx.out H1.out vw.out);rw [fP.out]at xk xu;rw [fP.out];have hrl:(cur.flatMap (slotL aS)).length=36 * c:=by rw [iY wY.out,fP.out]
     generalize Tab.pos x.key c dd=P0 at *
     have c2:(0:Int)≤(P0:Int):=oQ;have c3:(P0:Int)<(c:Int):=oQ;go_wp2_with fail;have hSd:=nV.drew;clear nV;refine dS [6,7] (fun w'=>w'.cell? ⟨p,0,none⟩=some (.slice (some ⟨bM,0,none⟩) c c)∧w'.rangeAt b7 0 (slotL aS x)) au ?_;have hG:World.cell? _ ⟨p,0,none⟩=some (.slice (some ⟨bM,0,none⟩) c c)∧World.rangeAt _ b7 0 (slotL aS x):=⟨hSd.cellP bC 0 rfl,oZ (hSd.pk (A:=pt b7 (.cells (slotL aS x).toArray 164 (0,0))))⟩;refine rP 0 ?_ (y:=aZ);refine rP 1 ?_ (y:=dV);refine rP 2 ?_ (y:=bW);refine rt 3 (h:=?_);refine rP 4 ?_ (y:=aZ);refine gV 5 ak au eU (iI (b:=b7) (o:=0) (slotL aS x) aj Tryz.underlying164 rfl (by rw [gK];kernel_rfl) (fun w hw=>hw.2)) aQ gQ ?_;refine rP 6 ?_ (y:=jf);clear hG;refine bY 7 ak au (fun K hK=>?_);refine uG (vs:=slotL aS x) (P0 * 36) hSd ak ak rfl (jh cZ) (by rw [gK,hrl];omega) (by rw [gK];kernel_rfl) (mY aS x (uS _)) ?_;intro w12 iK
     refine hK _ _ (.inl rfl) ?_;clear hK hSd;refine dI au ?_
     try simp only [jT]
     try go_frame
     rw [← xk.out]at iK;go_wp2_with fail
     go_roundg (t.slots.length - (i+1))
     case measure=>have:=bV.out;omega
     case rel=>exact ⟨i+1,_,rfl,bV.out,by first|rfl|go_num,xu.out,by rw [ag6];exact fP.out,iK.sb⟩
end
theorem ak1 (k:ah.Bs) (hk:k.length=32) (v:Seg.aU) (w:World) :
  (Instr.build 164 #[(0,.int .i64 1),(1,.agg (aA k).toArray),(2,.agg (aS v).toArray)]).run Tryz.prog w = .ok (.agg (slotL aS ⟨1,k,v⟩).toArray) w:=by
 have hbk:(aA k).toArray.size=32:=by rw [abX,aX,hk]
 refine (aod (P:=Tryz.prog) [(0,.int .i64 1),(1,.agg (aA k).toArray),(2,.agg (aS v).toArray)] ZX ug (by
  intro p' hp;simp only [acK,ag0,aoj]at hp;have hzz:(Value.agg (slotL aS (⟨0,ah.zero32,rY⟩:Tab.Slot (Seg.aU))).toArray).cells.size=36:=by
   show (slotL aS (⟨0,ah.zero32,rY⟩:Tab.Slot (Seg.aU))).toArray.size=36;rw [abX,jc aS _ aN 3 rfl]
  rw [hzz];rcases hp with rfl|rfl|rfl
  ·exact ⟨0,rfl,by show 0+1≤36;omega⟩
  ·refine ⟨1,?_,?_⟩
   ·show some (1,32)=some (1,(aA k).toArray.size);rw [hbk]
   ·show 1+(aA k).toArray.size≤36;omega
  ·exact ⟨33,rfl,by show 33+3≤36;omega⟩) w).trans ?_
 rw [show (Value.agg (slotL aS (⟨0,ah.zero32,rY⟩:Tab.Slot (Seg.aU))).toArray).cells=(slotL aS (⟨0,ah.zero32,rY⟩:Tab.Slot (Seg.aU))).toArray from rfl,Qm aS ⟨0,ah.zero32,rY⟩ k v aN hk rfl 3 rfl]
section
variable {w0 w:World}{F R:List aH}{p B:Nat}{sv:Value}{k:ah.Bs}{m:ah.Bs→Option (Seg.aU)}
theorem Qi (hB:B≤134217000) (hk:k.length=32) (v:Seg.aU) (h:Sat w0 w (aI p m B::F)) :
  Calls Tryz.prog 96 #[ptr p,.agg (aA k).toArray,.agg (aS v).toArray] w (aP fun _ w'=>Sat w0 w' (aI p (Tab.put m k v) (B+1)::F)):=by
 obtain ⟨t,sv,⟨ok,is,hb⟩,hR⟩:=aI.open h;obtain ⟨d,he⟩:=ok.ends k;have hsz:t.slots.length≤1073741824:=by have:=ok.size;omega
 have Hlen:=uQ (show ∀ x∈t.slots,(slotL aS x).length=36 from fun x hx=>jc aS x (ok.good.key x hx) 3 (qQ _));obtain ⟨la,lc,rfl⟩:=jl Hlen.out (Sat.rd (hR.pick aY)) aN;have hrl:0<(t.slots.flatMap (slotL aS)).length:=by rw [iY Hlen.out];have:=ok.good.jB;omega
 obtain ⟨bk,rfl⟩:=Ba (hR.pick aY) hrl;have Hk:=uQ hk;have dw:=uQ ok;have iR:=uQ is;have Hb:=uQ hb;have He:=uQ he;have iC:=uQ hsz;have HB:=uQ hB;have jv:=uQ ok.good.jB;have qJ:=uQ (show (aA k).length=32 by rw [aX,hk]);clear h hk ok is hb he hsz hB hrl;go_enter Tryz.func96,Tryz.ntmps96;go_wp2_with (with_reducible apply fK);refine ⟨fM hR ak ak ?_⟩;intro b4 w4 hS4;go_wp2_with (with_reducible apply fK);refine ⟨fM hS4 ak ak ?_⟩;intro b5 w5 hS5;have hA:Sat w0 w5 (fJ p 166 (.slice (some ⟨bk,0,none⟩) t.slots.length lc) t.n t.gone::aB 164 36 (.slice (some ⟨bk,0,none⟩) t.slots.length lc) (t.slots.flatMap (slotL aS))::pt b4 (.cells (aA k).toArray 50 (0,0))::pt b5 (.cells (aS v).toArray 94 (0,0))::F):=hS5.sb;clear hR hS4 hS5;go_wp2_with fail;refine (AZ jv.out hA).mono ?_;rintro ee w7 ⟨v',rfl,rfl,rfl⟩
 go_wp2_with ((with_reducible refine bI ⟨?_⟩);refine iW hA aj (aT (aT (aV (A:=pt b4 (.cells (aA k).toArray 50 (0,0)))))) Tryz.underlying50 rfl (by rw [abX,qJ.out];kernel_rfl) ?_);have hf:=CG dw.out.good iC.out Hk.out He.out hA;clear hA;refine hf.mono ?_;rintro ee w8 ⟨v',rfl,x,hx,rfl,jE⟩;clear hf;have hlt:=Tab.lV (k:=k) (d:=d) jv.out;by_cases h1:x.st=1
 ·have hd:decide (x.st=1)=true:=adt h1;have hxm:=abV hx;have oG:=uQ (Gt (f:=slotL aS) (k:=36) (o:=33) (x':=⟨x.st,x.key,v⟩) (vs:=aS v) Hlen.out hx (Rt aS x v (dw.out.good.key x hxm) rfl) (by show 33+3≤36;decide));have lM:=uQ (Tab.Ql dw.out He.out hx h1 v);have pq:=uQ (Tab.CZ iR.out (Tab.JX dw.out.good He.out hx h1 v).2 t.n t.gone);have hrl:(t.slots.flatMap (slotL aS)).length=36 * t.slots.length:=iY Hlen.out;clear hx hxm h1;generalize Tab.pos k t.slots.length d=P0 at *
  have c0:(0:Int)≤(P0:Int):=oQ;have c1:(P0:Int)<(t.slots.length:Int):=oQ;go_wp2_with fail;have hSd:=jE.drew;clear jE;refine dS [6,7,8] (fun w'=>w'.cell? ⟨p,0,none⟩=some (.slice (some ⟨bk,0,none⟩) t.slots.length lc)∧w'.rangeAt b5 0 (aS v)) au ?_;have hG:World.cell? _ ⟨p,0,none⟩=some (.slice (some ⟨bk,0,none⟩) t.slots.length lc)∧World.rangeAt _ b5 0 (aS v):=⟨hSd.cellP bC 0 rfl,oZ (hSd.pk (A:=pt b5 (.cells (aS v).toArray 94 (0,0))))⟩;refine rP 0 ?_ (y:=aZ);refine rP 1 ?_ (y:=dV);refine rP 2 ?_ (y:=bW);refine rt 3 (h:=?_);refine rP 4 ?_ (y:=aZ);refine gV 5 ak au eU (iI (b:=b5) (o:=0) (aS v) aj Tryz.underlying94 rfl au (fun w hw=>hw.2)) aQ gQ ?_;refine rP 6 ?_ (y:=jf);refine rP 7 ?_ (y:=bW);clear hG;refine bY 8 ak au (fun K hK=>?_);refine uG (vs:=aS v) (P0 * 36+33) hSd ak ak rfl (jh cZ) (by rw [hrl];show P0 * 36+33+3≤_;omega) au aj ?_;intro w12 iK
  refine hK _ _ (.inl rfl) ?_;clear hK hSd;refine dI au ?_
  try simp only [jT]
  try go_frame
  rw [← oG.out]at iK;go_wp2_with fail
  go_end0
  exact ⟨_,rfl,aI.shut (sv:= .slice (some ⟨bk,0,none⟩) t.slots.length lc) lM.out pq.out (Nat.le_succ_of_le Hb.out) (iK.sb)⟩
 have hd:decide (x.st=1)=false:=ac4 h1;have hb4:=Hb.out;have hB4:=HB.out;have yw:=iC.out;obtain ⟨hA1,hA2,hA3,x9,xY,xZ,x8,yc,yg⟩:=Ti t.n t.gone t.slots.length oQ yw;have Hx:=uQ hx;have H1:=uQ h1;clear hx h1 hb4 hB4 yw;go_wp2_with fail;have hSd:=jE.drew;clear jE;have e0:World.cell? _ ⟨p,0,none⟩=some (.slice (some ⟨bk,0,none⟩) t.slots.length lc):=hSd.cellP bC 0 rfl;have e1:World.cell? _ ⟨p,1,none⟩=some (.int .i64 t.n):=hSd.cellP bC 1 rfl;have e2:World.cell? _ ⟨p,2,none⟩=some (.int .i64 t.gone):=hSd.cellP bC 2 rfl
 go_region
 have hcmp:3 * t.slots.length<4 * (t.n+t.gone+1)∨4 * (t.n+t.gone+1)≤3 * t.slots.length:=oQ;rcases hcmp with hcmp|hcmp
 focus
  have hci:(3:Int) * (t.slots.length:Int)<4 * ((t.n:Int)+(t.gone:Int)+1):=oQ;have hrn:=aar (N:=t.n+1) dw.out (ahD _) (by have:=Hb.out;have:=HB.out;omega) iC.out hSd;rw [show (((t.n+1:Nat)):Int)=(t.n:Int)+1 by omega]at hrn;clear hSd e0 e2;go_wp2_with fail;refine hrn.mono ?_;rintro ee w9 ⟨v',rfl,s',sv',nX,iZ⟩;clear hrn e1 hci hcmp;have hok1:=nX.ok;have sO:=nX.is iR.out t.n 0;have sS:4 * ((⟨s',t.n,0⟩:Tab.Tb (Seg.aU)).n+(⟨s',t.n,0⟩:Tab.Tb (Seg.aU)).gone+1)≤3 * (⟨s',t.n,0⟩:Tab.Tb (Seg.aU)).slots.length:=by have:=nX.lo;simp only;omega
  have hb1:(⟨s',t.n,0⟩:Tab.Tb (Seg.aU)).n+(⟨s',t.n,0⟩:Tab.Tb (Seg.aU)).gone≤B:=by have:=Hb.out;simp only;omega
  have dL:Sat w0 w9 (fJ p 166 sv' (⟨s',t.n,0⟩:Tab.Tb (Seg.aU)).n (⟨s',t.n,0⟩:Tab.Tb (Seg.aU)).gone::aB 164 36 sv' ((⟨s',t.n,0⟩:Tab.Tb (Seg.aU)).slots.flatMap (slotL aS))::pt b4 (.cells (aA k).toArray 50 (0,0))::pt b5 (.cells (aS v).toArray 94 (0,0))::F):=iZ;clear iZ nX hA1 hA2 hA3 x9 xY xZ x8 yc yg;generalize (⟨s',t.n,0⟩:Tab.Tb (Seg.aU))=t1 at hok1 sO sS hb1 dL;have qj:=uQ (show ∀ x∈t1.slots,(slotL aS x).length=36 from fun x hx=>jc aS x (hok1.good.key x hx) 3 (qQ _));obtain ⟨FP,qp,rfl⟩:=jl qj.out (Sat.rd (dL.pick aY)) aN;have jM:=uQ hok1;have qh:=uQ sO;have su:=uQ sS;have Hb1:=uQ hb1;obtain ⟨d1,he1⟩:=hok1.ends k;have kK:=uQ he1;have hno:m k=none:=by
   obtain ⟨_,q2⟩:=iR.out.some dw.out He.out Hx.out;exact q2 H1.out
  have hsz1:t1.slots.length≤1073741824:=by have:=hok1.size;have:=HB.out;omega
  clear hok1 sO sS hb1 he1;go_wp2_with ((with_reducible refine bI ⟨?_⟩);refine iW dL aj (aT (aT (aV (A:=pt b4 (.cells (aA k).toArray 50 (0,0)))))) Tryz.underlying50 rfl (by rw [abX,qJ.out];kernel_rfl) ?_);have hf:=CG jM.out.good hsz1 Hk.out kK.out dL;clear dL hsz1;refine hf.mono ?_;rintro ee w8b ⟨v',rfl,x1,hx1,rfl,hT⟩;have nR:=uQ hx1
  have qg:=uQ (show x1.st≠1 from fun h=>by
   have:=(qh.out.some jM.out kK.out hx1).1 h;rw [hno]at this;cases this)
  clear hf hx1 hno Hx H1 He dw iR Hlen jv Hb iC hlt hd;go_wp2_with fail
 rotate_left
 focus
  have hci:¬ (3:Int) * (t.slots.length:Int)<4 * ((t.n:Int)+(t.gone:Int)+1):=oQ;have su:=uQ hcmp;clear e0 e1 e2 hcmp;go_wp2_with fail;clear hci hA1 hA2 hA3 x9 xY xZ x8 yc yg hlt hd jv iC;obtain ⟨t1,rfl⟩:∃ y,y=t:=⟨t,rfl⟩;obtain ⟨x1,rfl⟩:∃ y,y=x:=⟨x,rfl⟩;obtain ⟨d1,rfl⟩:∃ y,y=d:=⟨d,rfl⟩;obtain ⟨FP,yj⟩:∃ y:Option Addr,y=some ⟨bk,0,none⟩:=⟨_,rfl⟩;obtain ⟨qp,rfl⟩:∃ y,y=lc:=⟨lc,rfl⟩;rw [← yj]at hSd;have hT:=hSd;have jM:=uQ dw.out;have qh:=uQ iR.out;have Hb1:=uQ Hb.out;have kK:=uQ He.out;have nR:=uQ Hx.out;have qg:=uQ H1.out;have qj:=uQ Hlen.out;clear hSd dw iR Hb He Hx H1 Hlen yj
 all_goals
  have hrl:(t1.slots.flatMap (slotL aS)).length=36 * t1.slots.length:=iY qj.out;obtain ⟨bk1,rfl⟩:=Ba (hT.pick aY) (by rw [hrl];have:=jM.out.good.jB;omega);have oG:=uQ (yN (f:=slotL aS) (k:=36) (i:=Tab.pos k t1.slots.length d1) (x:=⟨1,k,v⟩) qj.out (jc aS _ Hk.out 3 rfl) (Tab.lV jM.out.good.jB));have lM:=uQ (Tab.Qk jM.out su.out kK.out nR.out qg.out Hk.out v);have pq:=uQ (Tab.CZ qh.out (Tab.Bd jM.out.good kK.out nR.out qg.out Hk.out v).2 (t1.n+1) t1.gone);have hlt1:=Tab.lV (k:=k) (d:=d1) jM.out.good.jB;have hls:=jc aS (⟨1,k,v⟩:Tab.Slot (Seg.aU)) Hk.out 3 rfl;have hwn:IntKind.i64.wrap ((t1.n:Int)+1)=(t1.n:Int)+1:=acC _ (by have:=Hb1.out;have:=HB.out;omega);clear nR qg kK jM qh su;generalize Tab.pos k t1.slots.length d1=P1 at *
  have c0:(0:Int)≤(P1:Int):=oQ;have c1:(P1:Int)<(t1.slots.length:Int):=oQ;have hSd:=hT.drew;clear hT;refine dS [8,9] (fun w'=>w'.cell? ⟨p,0,none⟩=some (.slice (some ⟨bk1,0,none⟩) t1.slots.length qp)∧w'.rangeAt b4 0 (aA k)∧w'.rangeAt b5 0 (aS v)) au ?_;have hG:World.cell? _ ⟨p,0,none⟩=some (.slice (some ⟨bk1,0,none⟩) t1.slots.length qp)∧World.rangeAt _ b4 0 (aA k)∧World.rangeAt _ b5 0 (aS v):=⟨hSd.cellP bC 0 rfl,oZ (hSd.pk (A:=pt b4 (.cells (aA k).toArray 50 (0,0)))),oZ (hSd.pk (A:=pt b5 (.cells (aS v).toArray 94 (0,0))))⟩;refine rP 0 ?_ (y:=aZ);refine rP 1 ?_ (y:=dV);refine rP 2 ?_ (y:=bW);refine rt 3 (h:=?_);refine rP 4 ?_ (y:=aZ);refine gV 5 ak au eU (iI (b:=b4) (o:=0) (aA k) aj Tryz.underlying50 rfl (by rw [qJ.out];kernel_rfl) (fun w hw=>hw.2.1)) aQ gQ ?_
  refine gV 6 ak au eU (iI (b:=b5) (o:=0) (aS v) aj Tryz.underlying94 rfl au (fun w hw=>hw.2.2)) aQ gQ ?_;refine rP 7 ?_ (y:=(GX ak ak ak (fun w=>ak1 k Hk.out v w)));refine rP 8 ?_ (y:=jf);clear hG;refine bY 9 ak au (fun K hK=>?_);refine uG (vs:=slotL aS ⟨1,k,v⟩) (P1 * 36) hSd ak ak rfl (jh cZ) (by rw [hrl,hls];omega) (by rw [hls];kernel_rfl) (mY aS _ aj) ?_;intro w12 iK;refine hK _ _ (.inl rfl) ?_;clear hK hSd;refine dI au ?_
  try simp only [jT]
  try go_frame
  rw [← oG.out]at iK
  go_wp2_with (first
   |((with_reducible refine bI ⟨?_⟩);refine gu iK aj bC bJ ak au ?_)
   |((with_reducible refine cO ⟨?_⟩);refine fG aQ aj ak pQ eX bJ au aj ?_;intro wS hS))
  go_end0
  exact ⟨_,rfl,aI.shut (sv:= .slice (some ⟨bk1,0,none⟩) t1.slots.length qp) lM.out pq.out (by have:=Hb1.out;simp only;omega) (hS.sb)⟩
end
abbrev gX.jI:=@aS
abbrev gX.qC:Nat:=164
theorem gX.abz:type_of% @Tryz.func181:=@Tryz.func181
theorem gX.abB:type_of% @Tryz.ntmps181:=@Tryz.ntmps181
open gX in
theorem VE (x y:Tab.Slot (Seg.aU)) (hx:x.key.length=32) (hy:y.key.length=32) (W:World) :
  Calls Tryz.prog 181 #[.agg (slotL aS x).toArray,.agg (slotL aS y).toArray] W fun e w'=>e = .returned (.int .i64 (Lib.compareBytes x.key y.key))∧∃ q os',w'=Sort.grow (W.drewN q) os':=Y1
open Go.Sort
abbrev UM:Type:={ x:Tab.Slot (Seg.aU) // x.key.length=32 }
instance:Inhabited UM:=⟨⟨⟨0,ah.zero32,Seg.aU.zero⟩,rfl⟩⟩
section
variable {w0 w:World}{F:List aH}{v:Value}
abbrev gX.ou:Nat:=36
abbrev gX.KY:Nat:=3
theorem gX.KZ:type_of% @qQ:=@qQ
theorem gX.Sj:type_of% @Tryz.sortL:=@Tryz.sortL
abbrev gX.La:Nat:=181
abbrev gX.qE:=@UM
theorem gX.abC:type_of% @Tryz.isAgg164:=@Tryz.isAgg164
theorem gX.abD:type_of% @Tryz.sizeOf164:=@Tryz.sizeOf164
theorem gX.Sm:type_of% @uS:=@uS
theorem gX.abE:type_of% @VE:=@VE
abbrev gX.abG:Nat:=180
open gX in
theorem alJ (l:List (Tab.Slot (Seg.aU))) (hk:∀ x∈l,x.key.length=32) (hn:l.length≤1073741824) (h:Sat w0 w (aB 164 36 v (l.flatMap (slotL aS))::F)) :
  Calls Tryz.prog 180 #[v,.func (.func 181) #[] #[]] w (aP fun _ w'=>∃ l':List (Tab.Slot (Seg.aU)),(l'.Perm l∧l'.Pairwise fun a b=>¬ b.key<a.key)∧Sat w0 w' (aB 164 36 v (l'.flatMap (slotL aS))::F)):=Y2
end
end Go.Proofs.YtihngncbioofnaaGreatDoor
namespace Go.Proofs.YtihngncbioofnaaGreatDoor
open Go Go.Sl Go.ay Go.MapKept Go.RowKit
section
variable {w0 w:World}{F R:List aH}{p B:Nat}{sv v:Value}{k:ah.Bs}{m:ah.Bs→Option (Seg.aU)}{t:Tab.Tb (Seg.aU)}
theorem Qz (hB:B≤13000000) (h:Sat w0 w (aI p m B::F)) :
  Calls Tryz.prog 148 #[ptr p] w (aP fun v w'=>∃ l:List (Tab.Slot (Seg.aU)),(Tab.Lists m (l.map fun x=>(x.key,x.val))∧(∀ x∈l,x.st=1∧x.key.length=32)∧l.length≤B)∧Sat w0 w' (aB 164 36 v (l.flatMap (slotL aS))::aI p m B::F)):=by
 obtain ⟨t,sv,⟨ok,is,hb⟩,hR⟩:=aI.open h;have hsz:t.slots.length≤56000000:=by have:=ok.size;omega
 have Hlen:=uQ (show ∀ x∈t.slots,(slotL aS x).length=36 from fun x hx=>jc aS x (ok.good.key x hx) 3 (qQ _));obtain ⟨la,lc,rfl⟩:=jl Hlen.out (Sat.rd (hR.pick aY)) aN;have dw:=uQ ok;have iR:=uQ is;have Hb:=uQ hb;have iC:=uQ hsz;have jv:=uQ ok.good.jB;clear h ok is hb hB;have hS0:Sat w0 w (aB 164 36 (.slice none 0 0) []::fJ p 166 (.slice la t.slots.length lc) t.n t.gone::aB 164 36 (.slice la t.slots.length lc) (t.slots.flatMap (slotL aS))::F):=Sat.gI.2 hR;clear hR;go_enter Tryz.func148,Tryz.ntmps148;go_wp2_with fail;refine (AZ jv.out (hS0.pick aY)).mono ?_;rintro ee w7 ⟨v,rfl,rfl,rfl⟩;go_wp2_with ((with_reducible refine bI ⟨?_⟩);refine gu hS0 aj bC bJ ak au ?_)
 go_loopg [3,14] t.slots.length (fun g oq iq wr=>∃ (i:Nat),g=t.slots.length - i∧i≤t.slots.length∧iq = .int .i64 i ∧
  Sat w0 wr (aB 164 36 oq (((t.slots.take i).filter fun x=>decide (x.st=1)).flatMap (slotL aS))::fJ p 166 (.slice la t.slots.length lc) t.n t.gone::aB 164 36 (.slice la t.slots.length lc) (t.slots.flatMap (slotL aS))::F))
 case atStart=>exact ⟨0,rfl,acV _,rfl,hS0⟩
 case round=>
  obtain ⟨i,rfl,hi,rfl,hS⟩:=hrel;clear hS0;by_cases hlt:i<t.slots.length;rotate_left
  ·obtain rfl:i=t.slots.length:=by omega
   have c1:¬ (t.slots.length:Int)<(t.slots.length:Int):=oQ;rw [adk]at hS;have hfk:∀ x∈t.slots.filter fun x=>decide (x.st=1),x.key.length=32:=fun x hx=>dw.out.good.key x (acY.1 hx).1;have hs:=alJ (t.slots.filter fun x=>decide (x.st=1)) hfk (acz (agJ _ _) (acz hsz aN)) hS;clear hlt hi hS hfk;go_wp2_with fail;refine hs.mono ?_;rintro ee w8 ⟨v,rfl,l,⟨h1,h2⟩,jE⟩;clear hs;have Hl:=uQ (Tab.Pn dw.out.good iR.out h1 h2)
   have Hll:=uQ (show l.length≤B from by
    rw [h1.length_eq,← List.countP_eq_length_filter];have e:t.slots.countP (fun x=>decide (x.st=1))=Tab.jP t.slots:=by
     unfold Tab.jP;refine List.countP_congr fun x _=>?_;simp
    have:=dw.out.n;have:=Hb.out;omega)
   clear h1 h2;go_wp2_with fail;go_ret;exact ⟨_,rfl,l,⟨Hl.out.1,Hl.out.2,Hll.out⟩,Sat.Z7 (aI.shut dw.out iR.out Hb.out (jE.sb))⟩
  have c1:(i:Int)<(t.slots.length:Int):=oQ;have hwi:=yA (i:=i);obtain ⟨x,hx⟩:∃ x,t.slots[i]?=some x:=⟨_,aaI hlt⟩;have hxm:=abV hx;have hst:=dw.out.good.st x hxm;have Hxk:=uQ (dw.out.good.key x hxm);obtain ⟨bk,off,c',hsv,hcell⟩:=jG Hlen.out (Sat.rd (hS.pick eH)) hx aN;cases hsv;have gK:=Hlen.out x hxm;have htk:(t.slots.take (i+1)).filter (fun x=>decide (x.st=1))=(t.slots.take i).filter (fun x=>decide (x.st=1))++[x].filter fun x=>decide (x.st=1):=by
   rw [adD,hx,agU,anS]
  have gY:=uQ htk;have bV:=uQ hlt;have Fz:(((t.slots.take i).filter fun x=>decide (x.st=1)).flatMap (slotL aS)).length≤2147483648:=by
   rw [iY fun y hy=>Hlen.out y (adG (acY.1 hy).1)];have h1:=agJ (fun x=>decide (x.st=1)) (t.slots.take i);have h2:=aoi i t.slots;have h3:=iC.out;omega
  clear hx hxm hlt hi htk
  go_wp2_with (first
   |((with_reducible refine bI ⟨?_⟩);refine iL (b:=bk) (o:=off+i * 36) (slotL aS x) aj hcell Tryz.underlying164 rfl (by rw [gK];kernel_rfl) ?_)
   |(with_reducible apply gq))
  refine ⟨fF ug hS rfl ?_⟩;intro b7 w7 hS7;go_wp2_with (first|((with_reducible refine cO ⟨?_⟩);refine gJ (slotL aS x).toArray hS7 aj aj (by rw [abX,gK];rfl) cZ (by rw [abX,gK];kernel_rfl) (by rw [acW];exact mY aS x (uS _)) ?_;intro w10 dL)|(with_reducible apply bI));refine ⟨?_⟩;clear hS hS7 hcell;have f0:w10.cell? ⟨b7,0,none⟩=some (.int .i64 x.st):=dL.cellP aV 0 (by rw [abY];rfl);by_cases h1:x.st=1;rotate_left
  ·have hst1:((x.st:Int)==1)=false:=by rw [acH];omega
   have e9:(t.slots.take (i+1)).filter (fun x=>decide (x.st=1))=(t.slots.take i).filter (fun x=>decide (x.st=1)):=by
    rw [gY.out,am1 (by rw [ac4 h1];decide),List.filter_nil,acM]
   have E9:=uQ e9;clear h1 e9;go_wp2_with fail
   go_roundg (t.slots.length - (i+1))
   case measure=>have:=bV.out;omega
   case rel=>exact ⟨i+1,rfl,bV.out,by first|rfl|go_num,by rw [E9.out];exact dL.sb⟩
  ·have hst1:((x.st:Int)==1)=true:=by rw [h1];rfl
   have e9:((t.slots.take (i+1)).filter (fun x=>decide (x.st=1))).flatMap (slotL aS)=((t.slots.take i).filter (fun x=>decide (x.st=1))).flatMap (slotL aS)++slotL aS x:=by
    rw [gY.out,an7 (by rw [adt h1]),List.filter_nil,adz,ada,anX,acM]
   have E9:=uQ e9;clear h1 e9
   go_wp2_with (first
    |((with_reducible refine bI ⟨?_⟩);refine iW dL aj bC Tryz.underlying164 rfl (by rw [abX,gK];kernel_rfl) ?_)
    |(with_reducible apply pI))
   refine ⟨o7 (e:=164) (sz:=36) (eY:=64) au dL aj (cs:=(slotL aS x).toArray) rfl (by rw [abX,gK]) aN ?_⟩;intro bN wN hN;go_wp2_with (with_reducible apply lX);refine ⟨pW 164 36 64 au hN aj aj bC aV (by rw [abX,gK]) (abL 1) (by rw [acW];exact mY aS x (uS _)) Fz (by rw [abX,gK];decide) aN (by rw [acW]) ?_⟩;intro bA nA cA wA hA;go_wp2_with fail;rw [← E9.out]at hA
   go_roundg (t.slots.length - (i+1))
   case measure=>have:=bV.out;omega
   case rel=>exact ⟨i+1,rfl,bV.out,by first|rfl|go_num,hA.sb⟩
end
end Go.Proofs.YtihngncbioofnaaGreatDoor
namespace Go.Tab
open Go.ah (Bs)
open Go.Seg (aU)
open Go.Rep (dP)
section
variable {V:Type}
def mapOf (l:List (Bs×V)):Bs→Option V:=l.foldl (fun m p=>put m p.1 p.2) fun _=>none
theorem Y9 (l:List (Bs×V)) (p:Bs×V):mapOf (l++[p])=put (mapOf l) p.1 p.2:=by unfold mapOf;rw [aob];rfl
theorem Y8:∀ (n:Nat){l:List (Bs×V)},l.length=n→l.Pairwise (fun a b=>a.1<b.1)→∀ k v,(k,v)∈l↔mapOf l k=some v
 |0,l,hn,_,k,v=>by
  obtain rfl:l=[]:=agl hn;exact ⟨(fun h=>by cases h),(fun h=>by cases h)⟩
 |n+1,l,hn,hs,k,v=>by
  obtain ⟨l',p,rfl⟩:∃ l' p,l=l'++[p]:=⟨l.dropLast,l.getLast (by intro e;rw [e]at hn;cases hn),(List.dropLast_concat_getLast _).symm⟩;have hn':l'.length=n:=by rw [aaK]at hn;simpa using hn
  obtain ⟨s1,_,s3⟩:=ahE.1 hs;have ih:=Y8 n hn' s1 k v;rw [Y9,ac3,acO];show _↔(if k=p.1 then some p.2 else mapOf l' k)=some v;by_cases hk:k=p.1
  ·rw [acr hk];constructor
   ·rintro (h|h)
    ·exact absurd (hk ▸ s3 _ h p (.head _)) (aoc _)
    ·rw [← h]
   ·intro h;exact .inr (by rw [hk,← ahM h])
  ·rw [abA hk,← ih];exact ⟨fun h=>h.elim id fun e=>absurd (adu Prod.fst e) hk,.inl⟩
theorem PI {l:List (Bs×V)} (hs:l.Pairwise fun a b=>a.1<b.1):Lists (mapOf l) l:=⟨hs,Y8 _ rfl hs⟩
end
end Go.Tab
namespace Go.Rep
open Go.ah (Bs)
open Go.Tab
theorem aag (l:List (Bs×dP)) (p:Bs×dP):puts (l++[p])=if p.2.tag=0 then puts l++[(p.1,p.2.place)] else puts l:=by
 unfold puts;rw [anS];by_cases h:p.2.tag=0
 ·rw [acr h,an7 (by rw [adt h]),List.filter_nil,acI];rfl
 ·rw [abA h,am1 (by rw [ac4 h];decide),List.filter_nil,acM]
theorem Gj {l:List (Bs×dP)} (h:l.Pairwise fun a b=>a.1<b.1):(puts l).Pairwise fun a b=>a.1<b.1:=by
 unfold puts;rw [aij];exact h.filter _
theorem FW (s:Int):∀ (l:List (Bs×dP)) (p:Bs×dP),gB s (l++[p])=gB s l+(if counts p.2=true∧p.2.place.seg=s then p.2.place.size else 0)
 |[],p=>by simp [gB]
 |q::l,p=>by
  have:=FW s l p;simp only [adA,gB];omega
theorem Po (s:Int){b:Int} (hb:0≤b):∀ (l:List (Bs×dP)),(∀ p∈l,0≤p.2.place.size∧p.2.place.size≤b)→0≤gB s l∧gB s l≤b * l.length
 |[],_=>by simp [gB]
 |q::l,h=>by
  obtain ⟨i1,i2⟩:=Po s hb l fun p hp=>h p (.tail _ hp);obtain ⟨j1,j2⟩:=h q (.head _);have e:b * ((q::l).length:Int)=b * l.length+b:=by rw [ac5,Int.natCast_succ,Int.mul_add,Int.mul_one]
  rw [e];simp only [gB];split <;> omega
end Go.Rep
namespace Go.Proofs.YtihngncbioofnaaGreatDoor
open Go Go.Sl Go.ay Go.MapKept Go.RowKit
def kZ (b:Nat) (f:Int→Int):aH:=fun h=>∃ l:List (Value×Value),((∀ p∈l,∃ k v:Int,p=(.int .i64 k,.int .i64 v)∧f k=v)∧∀ k:Int,(∀ p∈l,p.1 ≠ .int .i64 k)→f k=0)∧omap (.int .i64) b l h
section
variable {w0 w:World}{R:List aH}{b:Nat}{f:Int→Int}{l:List (Value×Value)}
theorem Yr (h:Sat w0 w (kZ b f::R)):∃ l:List (Value×Value),((∀ p∈l,∃ k v:Int,p=(.int .i64 k,.int .i64 v)∧f k=v)∧∀ k:Int,(∀ p∈l,p.1 ≠ .int .i64 k)→f k=0)∧Sat w0 w (omap (.int .i64) b l::R):=by
 obtain ⟨ha,x,hx,p,q,dd,rfl,⟨l,h1,h2⟩,hq⟩:=h;exact ⟨l,h1,ha,_,hx,p,q,dd,rfl,h2,hq⟩
theorem Yt (h1:∀ p∈l,∃ k v:Int,p=(.int .i64 k,.int .i64 v)∧f k=v) (h2:∀ k:Int,(∀ p∈l,p.1 ≠ .int .i64 k)→f k=0) (h:Sat w0 w (omap (.int .i64) b l::R)):Sat w0 w (kZ b f::R):=
 h.head fun _ hx=>⟨l,⟨h1,h2⟩,hx⟩
theorem ahn (h:Sat w0 w R):Sat w0 (w.alloc (.map #[] 0)) (kZ w.heap.size (fun _=>0)::R):=Yt (by simp) (fun _ _=>rfl) (h.F7 (.int .i64))
theorem O1 (k:Int) (h:Sat w0 w (kZ b f::R)):(Instr.lookup 142 (.map (some b)) (.int .i64 k) false).run Tryz.prog w = .ok (.int .i64 (f k)) w:=by
 obtain ⟨l,⟨h1,h2⟩,hS⟩:=Yr h;rcases Q8 (key:= .int .i64 k) Tryz.underlying142 Tryz.underlying3 (z:= .int .i64 0) au rfl hS with ⟨v,hm,e,_⟩|⟨hn,e,_⟩
 ·obtain ⟨k',v',hp,hf⟩:=h1 _ hm;cases hp;rw [e,hf]
 ·rw [e,h2 k hn]
theorem Yu (k v:Int) (h:Sat w0 w (kZ b f::R)):∃ w',(Instr.mapUpdate 142 (.map (some b)) (.int .i64 k) (.int .i64 v)).run Tryz.prog w = .ok () w'∧Sat w0 w' (kZ b (fun s=>if s=k then v else f s)::R):=by
 obtain ⟨l,⟨h1,h2⟩,hS⟩:=Yr h;obtain ⟨w',hr,hs⟩:=Sl.run_store (key:= .int .i64 k) Tryz.underlying142 Tryz.underlying3 rfl (.int .i64 v) hS;refine ⟨w',hr,?_⟩;have hnd:=hS.JQ;obtain ⟨l0,hl0,hne,hin,hout⟩:∃ l0:List (Value×Value),(l.Perm l0∧(∀ p∈l0,p.1 ≠ .int .i64 k)∨∃ v0,l.Perm ((.int .i64 k,v0)::l0))∧(∀ p∈l0,p.1 ≠ .int .i64 k)∧(∀ p∈l0,p∈l)∧∀ p∈l,p.1 ≠ .int .i64 k→p∈l0:=by
  by_cases hk:∃ p∈l,p.1 = .int .i64 k
  ·obtain ⟨⟨_,v0⟩,hm,rfl⟩:=hk;obtain ⟨l1,l2,e12⟩:=List.append_of_mem hm;have hp:l.Perm ((.int .i64 k,v0)::(l1++l2)):=by rw [e12];exact anV
   have X5:=(hp.map (·.1)).nodup_iff.1 hnd;rw [acS,amL]at X5
   exact ⟨_,.inr ⟨v0,hp⟩,fun p hp' e=>X5.1 (abZ.2 ⟨p,hp',e⟩),fun p hp'=>hp.mem_iff.2 (.tail _ hp'),fun p hp' hne=>by
    rcases acK.1 (hp.mem_iff.1 hp') with e|e
    ·exact absurd (by rw [e]) hne
    ·exact e⟩
  ·have hk':∀ p∈l,p.1 ≠ .int .i64 k:=fun p hp e=>hk ⟨p,hp,e⟩;exact ⟨l,.inl ⟨.refl _,hk'⟩,hk',fun _ h=>h,fun _ h _=>h⟩
 refine Yt (l:=(.int .i64 k,.int .i64 v)::l0) ?_ ?_ (hs l0 hl0)
 ·intro p hp;rcases acK.1 hp with rfl|hp
  ·exact ⟨k,v,rfl,acr rfl⟩
  ·obtain ⟨k',v',rfl,hf⟩:=h1 p (hin p hp);refine ⟨k',v',rfl,?_⟩;show (if k'=k then v else f k')=v';rw [abA (fun e=>hne _ hp (by rw [e])),hf]
 ·intro k' hk';have hkk:k'≠k:=fun e=>hk' _ (.head _) (by rw [e]);show (if k'=k then v else f k')=0;rw [abA hkk];refine h2 k' fun p hp e=>?_;exact hk' p (.tail _ (hout p hp (fun e2=>hkk (by rw [e2]at e;cases e;rfl)))) e
end
section
variable {w0 w:World}{R:List aH}{p B B':Nat}{m:ah.Bs→Option Seg.aU}
theorem aI.mono (hB:B≤B') (h:Sat w0 w (aI p m B::R)):Sat w0 w (aI p m B'::R):=by
 obtain ⟨t,sv,⟨ok,is,hb⟩,hS⟩:=aI.open h;exact aI.shut ok is (acz hb hB) hS
end
section
variable {w0 w:World}{F:List aH}
theorem VL (x:Rep.dP) (h:Sat w0 w F):Calls Tryz.prog 159 #[.agg (bZ x).toArray] w (aP fun v w'=>v = .bool (Rep.counts x)∧Sat w0 w' F):=by
 obtain ⟨tag,⟨seg,at_,size⟩,first⟩:=x;show Calls Tryz.prog 159 #[.agg #[.int .i64 tag,.int .i64 seg,.int .i64 at_,.int .i64 size,.int .i64 first]] w _;have Hc:=uQ (show ∀ c,c=(decide (tag=0) || (decide (0≤first) && decide (first<seg)))→c=Rep.counts ⟨tag,⟨seg,at_,size⟩,first⟩ from fun c hc=>hc);go_enter Tryz.func159,Tryz.ntmps159;go_wp2_with (first|((with_reducible refine fK ⟨?_⟩);refine fM aQ ak ak ?_;intro bB wB hB)|(with_reducible apply bI));refine ⟨?_⟩;have f0:wB.cell? ⟨bB,0,none⟩=some (.int .i64 tag):=hB.cellP aV 0 rfl;have f1:wB.cell? ⟨bB,1,none⟩=some (.int .i64 seg):=hB.cellP aV 1 rfl;have f2:wB.cell? ⟨bB,4,none⟩=some (.int .i64 first):=hB.cellP aV 4 rfl;have HB:=uQ hB.drop;clear hB h;by_cases h0:tag=0
 ·have hb:(tag==0)=true:=ai7.2 h0;have e:=Hc.out true (by simp [h0]);have He:=uQ e;clear h0 e Hc;go_wp2_with fail;go_ret;exact ⟨_,rfl,adu Value.bool He.out,HB.out⟩
 ·have hb:(tag==0)=false:=by rw [acH];exact h0
  by_cases h1:0≤first
  ·by_cases h2:first<seg
   ·have He:=uQ (Hc.out true (by simp [h0,h1,h2]));clear h0 Hc;go_wp2_with fail;go_ret;exact ⟨_,rfl,adu Value.bool He.out,HB.out⟩
   ·have He:=uQ (Hc.out false (by simp [h0,h2]));clear h0 Hc;go_wp2_with fail;go_ret;exact ⟨_,rfl,adu Value.bool He.out,HB.out⟩
  ·have He:=uQ (Hc.out false (by simp [h0,h1]));clear h0 Hc;go_wp2_with fail;go_ret;exact ⟨_,rfl,adu Value.bool He.out,HB.out⟩
end
end Go.Proofs.YtihngncbioofnaaGreatDoor
namespace Go.Rep
structure Use where
 seg:Int
 size:Int
 live:Int
def upd (kv:List (ah.Bs×dP)) (u:Use):Use:=⟨u.seg,u.size,gB u.seg kv⟩
def half (kv:List (ah.Bs×dP)) (us:List Use) (i:Nat):List Use:=(us.take i).map (upd kv)++us.drop i
section
variable {kv:List (ah.Bs×dP)}{us:List Use}{i:Nat}{u:Use}
theorem Oy:(half kv us i).length=us.length:=by
 unfold half;rw [aaK,abl,← aaK,adB]
theorem agN:half kv us us.length=us.map (upd kv):=by unfold half;rw [adk,List.drop_length,acM]
theorem agO (h:us[i]?=some u):(half kv us i)[i]?=some u:=by
 unfold half;have hi:=(abW.1 h).1;have e:((us.take i).map (upd kv)).length=i:=by rw [abl,acA];omega
 rw [ac0 oQ,e,anm,anQ,aif];exact h
theorem agP (h:us[i]?=some u):(half kv us i).set i (upd kv u)=half kv us (i+1):=by
 obtain ⟨hi,rfl⟩:=abW.1 h;have e:((us.take i).map (upd kv)).length=i:=by rw [abl,acA];omega
 unfold half;rw [List.set_append_right _ _ oQ,e,anm,aic hi,List.set_cons_zero,adD,aaI hi,agU,acI,acD]
 rfl
end
end Go.Rep
namespace Go.Proofs.YtihngncbioofnaaGreatDoor
open Go Go.Sl Go.ay Go.MapKept Go.RowKit
def bT (u:Rep.Use):List Value:=[.int .i64 u.seg,.int .i64 u.size,.int .i64 u.live]
theorem DK (u:Rep.Use):(bT u).length=3:=rfl
theorem acu:jr Tryz.prog 45=some (.agg (bT ⟨0,0,0⟩).toArray):=by kernel_rfl
theorem anc:jr Tryz.prog 142=some (.map none):=by kernel_rfl
theorem aco:jr Tryz.prog 50=some (.agg (aA ah.zero32).toArray):=by kernel_rfl
abbrev dh (ps:Nat) (last:Int) (pi:Nat) (uv tv:Value):aH:=pt ps (.cells #[.int .i64 last,ptr pi,uv,tv] 38 (0,0))
def WE (F:List aH) (ps b2 b3 b4 bm pi pg:Nat) (last:Int) (uv tv:Value) (us:List Rep.Use) (kv:List (ah.Bs×Rep.dP)) (pre:List (Array Value)):List aH:=
 dh ps last pi uv tv::pt b2 (.cells #[ptr ps] 33 (0,0))::pt b4 (.cells #[.map (some bm)] 142 (0,0))::kZ bm (fun s=>Rep.gB s (kv.take pre.length)) ::
 aI pi (Tab.mapOf (Rep.puts (kv.take pre.length))) pre.length::aB 45 3 uv (us.flatMap bT)::pt b3 (.cells #[ptr pg] 193 (0,0))::F
section
variable {w0 w:World}{F:List aH}{ps pi pg B:Nat}{last:Int}{uv tv:Value}{us:List Rep.Use}{m:ah.Bs→Option Rep.dP}{kv:List (ah.Bs×Rep.dP)}
theorem afX (hl:Tab.Lists m kv) (hB:B≤13000000) (hkl:kv.length≤13000000) (hks:∀ p∈kv,p.1.length=32∧0≤p.2.place.size∧p.2.place.size≤4294967296) (hu:us.length≤13000000)
  (h:Sat w0 w (dh ps last pi uv tv::aI pi (fun _=>none) 0::fE pg m B::aB 45 3 uv (us.flatMap bT)::F)) :
  Calls Tryz.prog 116 #[ptr ps,.agg #[ptr pg]] w (aP fun _ w'=>Sat w0 w' (dh ps last pi uv tv::aI pi (Tab.mapOf (Rep.puts kv)) kv.length::fE pg m B::aB 45 3 uv ((us.map (Rep.upd kv)).flatMap bT)::F)):=by
 have Hl:=uQ hl;have HB:=uQ hB;have oC:=uQ hkl;have iD:=uQ hks;have Hu:=uQ hu;have Hlen:=uQ (show ∀ u∈us,(bT u).length=3 from fun u _=>rfl);clear hl hB hkl hks hu;have hmm:=@run_makeMap Tryz.prog;refine Vu Tryz.func116 rfl ?_;simp only [Tryz.ntmps116,abX,ac5,adF,Nat.reduceAdd,Nat.reduceSub,Array.replicate_succ,Array.replicate_zero,List.push_toArray,List.append_toArray,adl,adA];go_wp2_with (with_reducible apply fK);refine ⟨fM h ak ak ?_⟩;intro b2 w2 h2;go_wp2_with (with_reducible apply fK);refine ⟨fM h2 ak ak ?_⟩;intro b3 w3 h3;have Xp:=ahn h3;go_wp2_with (with_reducible apply gq);refine ⟨fF anc Xp rfl ?_⟩;intro b4 w4 h4;generalize w3.heap.size=bm at *
 go_wp2_with (first
  |((with_reducible refine cO ⟨?_⟩);refine fG h4 aj ak aj cZ bJ au aj ?_;intro w5 h5)
  |((with_reducible refine bI ⟨?_⟩);refine gu h5 aj bC bJ ak au ?_))
 refine (adV h5).mono ?_;rintro ee w6 ⟨v,rfl,bA,rfl,h6⟩;go_wp2_with fail
 have h7:Sat w0 w6 (fE pg m B::pt bA (.cells #[ptr pg] 188 (0,0))::dh ps last pi uv tv::pt b2 (.cells #[ptr ps] 33 (0,0))::pt b4 (.cells #[.map (some bm)] 142 (0,0))::kZ bm (fun _=>0) ::
   aI pi (fun _=>none) 0::aB 45 3 uv (us.flatMap bT)::pt b3 (.cells #[ptr pg] 193 (0,0))::F):=h6.sb
 clear h h2 h3 Xp h4 h5 h6 hmm;refine acf (gf:=192) (lb:=#[ptr bA]) aj (fun args w=>by kernel_rfl) (adU HB.out Hl.out) ?_ (WE F ps b2 b3 b4 bm pi pg last uv tv us kv) h7 ?_ ?_
 ·intro x hx;obtain ⟨p,_,rfl⟩:=abZ.1 hx
  rfl
 ·clear h7;intro l pre x post U W hkv hS T hT;obtain ⟨i,hi⟩:∃ i,i=pre.length:=⟨_,rfl⟩;have hlt:i<kv.length:=by
   have:=adu List.length hkv;rw [abl,aaK,ac5]at this;omega
  obtain ⟨⟨k,y⟩,hy⟩:∃ p,kv[i]?=some p:=⟨_,aaI hlt⟩;obtain rfl:x=zH (k,y):=by
   have e1:(kv.map zH)[i]?=some (zH (k,y)):=by rw [acE,hy];rfl
   rw [hkv,hi,ac0 (abL _),anm,List.getElem?_cons_zero]at e1;exact ahM e1
  have hmem:=abV hy;obtain ⟨Fq,hs0,hs1⟩:=iD.out _ hmem;have htk:kv.take (i+1)=kv.take i++[(k,y)]:=by rw [adD,hy,agU]
  have hil:(pre++[zH (k,y)]).length=i+1:=by rw [aaK,hi];rfl
  have gY:=uQ htk;have jS:=uQ hil;have Hi:=uQ hi;have bV:=uQ hlt;have oz:=uQ Fq;have Hs:=uQ (And.intro hs0 hs1)
  have hS0:Sat w0 W (dh ps last pi uv tv::pt b2 (.cells #[ptr ps] 33 (0,0))::pt b4 (.cells #[.map (some bm)] 142 (0,0))::kZ bm (fun s=>Rep.gB s (kv.take i)) ::
   aI pi (Tab.mapOf (Rep.puts (kv.take i))) i::aB 45 3 uv (us.flatMap bT)::pt b3 (.cells #[ptr pg] 193 (0,0))::(F++U)):=by rw [hi];exact hS
  clear hkv hS hi hlt hy hmem Fq hs0 hs1 htk hil;simp [zH]at hT;subst hT;refine wpIn_seq_k fun K hK=>?_;refine uT aj fun K2 hK2=>?_;go_wp2_with (with_reducible apply gq);refine ⟨fF aco hS0 rfl ?_⟩;intro b5 w5 h5;go_wp2_with ((with_reducible refine cO ⟨?_⟩);refine gJ (aA k).toArray h5 aj aj (by rw [abX,aX,oz.out];rfl) cZ (by rw [abX,aX,oz.out];kernel_rfl) (by rw [acW];exact uz _) ?_;intro w6 h6);refine uT aj fun K3 hK3=>?_;go_wp2_with (with_reducible apply gq);refine ⟨fF G5 h6 rfl ?_⟩;intro b6 w7 h7;go_wp2_with ((with_reducible refine cO ⟨?_⟩);refine gJ (bZ y).toArray h7 aj aj aj cZ au aj ?_;intro w8 h8)
  -- the body
  refine ⟨pt b6 (.cells (bZ y).toArray 191 (0,0))::pt b5 (.cells (aA k).toArray 50 (0,0))::dh ps last pi uv tv::pt b2 (.cells #[ptr ps] 33 (0,0))::pt b4 (.cells #[.map (some bm)] 142 (0,0))::kZ bm (fun s=>Rep.gB s (kv.take i)) ::
   aI pi (Tab.mapOf (Rep.puts (kv.take i))) i::aB 45 3 uv (us.flatMap bT)::pt b3 (.cells #[ptr pg] 193 (0,0))::F,h8,?_⟩
  clear h8 h7 h6 h5 hS0;intro U' w9 h9
  have h10:Sat w0 w9 (pt b6 (.cells (bZ y).toArray 191 (0,0))::pt b5 (.cells (aA k).toArray 50 (0,0))::dh ps last pi uv tv::pt b2 (.cells #[ptr ps] 33 (0,0))::pt b4 (.cells #[.map (some bm)] 142 (0,0))::kZ bm (fun s=>Rep.gB s (kv.take i)) ::
   aI pi (Tab.mapOf (Rep.puts (kv.take i))) i::aB 45 3 uv (us.flatMap bT)::pt b3 (.cells #[ptr pg] 193 (0,0))::(F++U')):=h9
  clear h9;have f0:w9.cell? ⟨b6,0,none⟩=some (.int .i64 y.tag):=h10.cellP aV 0 rfl;refine wpIn_block (wpIn_seq_k fun K4 hK4=>wpIn_seq_k fun K5 hK5=>uT aj fun K6 hK6=>?_);by_cases ht:y.tag=0
  ·have hb:(y.tag==0)=true:=ai7.2 ht;have MK:=uQ (show Tab.mapOf (Rep.puts (kv.take (i+1)))=Tab.put (Tab.mapOf (Rep.puts (kv.take i))) k y.place by rw [gY.out,Rep.aag,acr ht,Tab.Y9]);clear ht;go_wp2_with fail;refine wpIn_cond_true aj ?_;have h11:=h10.drew
   have hG:w9.drew.cell? ⟨b2,0,none⟩=some (ptr ps)∧w9.drew.cell? ⟨ps,1,none⟩=some (ptr pi)∧w9.drew.rangeAt b5 0 (aA k)∧w9.drew.rangeAt b6 1 (aS y.place):=
    ⟨h11.cellP (aT (aT (aT aV))) 0 rfl,h11.cellP (aT (aT aV)) 1 rfl,oZ (h11.pick (aT aV)),fun j v hj=>by
     refine h11.cellP aV (1+j) ?_;rw [abY,aoh];have hj3:j<3:=(abW.1 hj).1;rcases j with _|_|_|j
     ·exact hj
     ·exact hj
     ·exact hj
     ·omega⟩
   refine ajQ [7] (fun w'=>w'.cell? ⟨b2,0,none⟩=some (ptr ps)∧w'.cell? ⟨ps,1,none⟩=some (ptr pi)∧w'.rangeAt b5 0 (aA k)∧w'.rangeAt b6 1 (aS y.place)) aj au fun K7 hK7=>?_;refine rt 0 (h:=?_);refine rP 1 ?_ (y:=dV);refine rP 2 ?_ (y:=bW);refine rt 3 (h:=?_);refine gV 4 ak au eU (iI (b:=b5) (o:=0) (aA k) aj Tryz.underlying50 rfl (by rw [aX,oz.out];kernel_rfl) (fun w hw=>hw.2.2.1)) aQ gQ ?_;refine rP 5 ?_ (y:=bW);refine gV 6 ak au eU (iI (b:=b6) (o:=1) (aS y.place) aj Tryz.underlying94 rfl au (fun w hw=>hw.2.2.2)) aQ gQ ?_;clear hG
   have hp:=Qi (B:=i) (p:=pi) (by have:=bV.out;have:=oC.out;omega) oz.out y.place (h11.sb:Sat w0 w9.drew (aI pi (Tab.mapOf (Rep.puts (kv.take i))) i::pt b6 (.cells (bZ y).toArray 191 (0,0))::pt b5 (.cells (aA k).toArray 50 (0,0))::pt b2 (.cells #[ptr ps] 33 (0,0))::pt b4 (.cells #[.map (some bm)] 142 (0,0))::kZ bm (fun s=>Rep.gB s (kv.take i))::dh ps last pi uv tv::aB 45 3 uv (us.flatMap bT)::pt b3 (.cells #[ptr pg] 193 (0,0))::(F++U')));clear h10 h11 f0;refine bY 7 ak au (fun K' hK'=>?_)
   (refine xM au ak ak ak ?_)
   refine hp.mono ?_;rintro ee iV ⟨v,rfl,h11⟩;refine hK' _ _ (.inl rfl) ?_;clear hK' hp;refine dI au ?_;rw [← MK.out]at h11
   have h12:Sat w0 iV (pt b6 (.cells (bZ y).toArray 191 (0,0))::pt b5 (.cells (aA k).toArray 50 (0,0))::pt b2 (.cells #[ptr ps] 33 (0,0))::pt b4 (.cells #[.map (some bm)] 142 (0,0))::kZ bm (fun s=>Rep.gB s (kv.take i))::dh ps last pi uv tv ::
    aI pi (Tab.mapOf (Rep.puts (kv.take (i+1)))) (i+1)::aB 45 3 uv (us.flatMap bT)::pt b3 (.cells #[ptr pg] 193 (0,0))::(F++U')):=h11.sb
   clear h11;go_wp2_with fail;refine wpIn_seq_k fun K8 hK8=>?_;refine uT aj fun K9 hK9=>?_;go_wp2_with ((with_reducible refine bI ⟨?_⟩);refine iW h12 aj (aV (A:=pt b6 (.cells (bZ y).toArray 191 (0,0)))) Tryz.underlying191 rfl au ?_);refine (VL y h12).mono ?_;rintro ee jU ⟨v,rfl,rfl,h13⟩;clear h12;by_cases hc:Rep.counts y=true
   ·have hlv:(fun s=>Rep.gB s (kv.take (i+1)))=fun s=>if s=y.place.seg then Rep.gB y.place.seg (kv.take i)+y.place.size else Rep.gB s (kv.take i):=by
     funext s
     rw [gY.out,Rep.FW];by_cases e:s=y.place.seg
     ·subst e;simp [hc]
     ·simp only [hc,true_and,abA e];rw [abA (fun h=>e h.symm),Int.add_zero]
    have Hlv:=uQ hlv;have hlk:=O1 y.place.seg (h13.pick (aT (aT (aT (aT aV)))));obtain ⟨nN,hup,ku⟩:=Yu y.place.seg (Rep.gB y.place.seg (kv.take i)+y.place.size) (h13.pick (aT (aT (aT (aT aV)))));obtain ⟨q1,q2⟩:=Rep.Po y.place.seg (b:=4294967296) aN (kv.take i) fun p hp=>(iD.out p (adG hp)).2;have q3:(kv.take i).length≤13000000:=acz (aoi i kv) oC.out;have q4:=Hs.out;have hwa:IntKind.i64.wrap (Rep.gB y.place.seg (kv.take i)+y.place.size)=Rep.gB y.place.seg (kv.take i)+y.place.size:=acC _ oQ;have hwb:wrap64 (Rep.gB y.place.seg (kv.take i)+y.place.size)=Rep.gB y.place.seg (kv.take i)+y.place.size:=adM _ oQ;clear q1 q2 q3 q4 hlv;have e0:jU.cell? ⟨b4,0,none⟩=some (.map (some bm)):=h13.cellP (aT (aT (aT aV))) 0 rfl;have e1:jU.cell? ⟨b6,1,none⟩=some (.int .i64 y.place.seg):=h13.cellP aV 1 rfl;have e2:jU.cell? ⟨b6,3,none⟩=some (.int .i64 y.place.size):=h13.cellP aV 3 rfl
    rw [hc];clear h13 hc;go_wp2_with fail;refine wpIn_cond_true aj ?_;refine uT aj fun K10 hK10=>?_;go_wp2_with fail;rw [← Hlv.out]at ku;refine ⟨trivial,?_⟩
    have h15:Sat w0 nN (dh ps last pi uv tv::pt b2 (.cells #[ptr ps] 33 (0,0))::pt b4 (.cells #[.map (some bm)] 142 (0,0))::kZ bm (fun s=>Rep.gB s (kv.take (i+1))) ::
     aI pi (Tab.mapOf (Rep.puts (kv.take (i+1)))) (i+1)::aB 45 3 uv (us.flatMap bT)::pt b3 (.cells #[ptr pg] 193 (0,0))::(F++U')):=ku.sb
    rw [← jS.out]at h15;exact h15
   ·have hlv:(fun s=>Rep.gB s (kv.take (i+1)))=fun s=>Rep.gB s (kv.take i):=by
     funext s
     rw [gY.out,Rep.FW,abA (fun h=>hc h.1),Int.add_zero]
    have Hlv:=uQ hlv;rw [aov]at hc;rw [hc];clear hlv hc;go_wp2_with fail;refine wpIn_cond_false aj ?_;refine wpIn_skip ?_;go_wp2_with fail;rw [← Hlv.out]at h13;refine ⟨trivial,?_⟩
    have h15:Sat w0 jU (dh ps last pi uv tv::pt b2 (.cells #[ptr ps] 33 (0,0))::pt b4 (.cells #[.map (some bm)] 142 (0,0))::kZ bm (fun s=>Rep.gB s (kv.take (i+1))) ::
     aI pi (Tab.mapOf (Rep.puts (kv.take (i+1)))) (i+1)::aB 45 3 uv (us.flatMap bT)::pt b3 (.cells #[ptr pg] 193 (0,0))::(F++U')):=h13.sb
    rw [← jS.out]at h15;exact h15
  ·have hb:(y.tag==0)=false:=by rw [acH];exact ht
   have MK:=uQ (show Tab.mapOf (Rep.puts (kv.take (i+1)))=Tab.mapOf (Rep.puts (kv.take i)) by rw [gY.out,Rep.aag,abA ht]);clear ht;go_wp2_with fail;refine wpIn_cond_false aj ?_;refine wpIn_skip ?_;go_wp2_with fail;rw [← MK.out]at h10;have h11:=aI.mono (ahD i) (h10.pick (aT (aT (aT (aT (aT (aT aV)))))))
   have h12:Sat w0 w9 (pt b6 (.cells (bZ y).toArray 191 (0,0))::pt b5 (.cells (aA k).toArray 50 (0,0))::pt b2 (.cells #[ptr ps] 33 (0,0))::pt b4 (.cells #[.map (some bm)] 142 (0,0))::kZ bm (fun s=>Rep.gB s (kv.take i))::dh ps last pi uv tv ::
    aI pi (Tab.mapOf (Rep.puts (kv.take (i+1)))) (i+1)::aB 45 3 uv (us.flatMap bT)::pt b3 (.cells #[ptr pg] 193 (0,0))::(F++U')):=h11.sb
   clear h10 h11 f0;refine wpIn_seq_k fun K8 hK8=>?_;refine uT aj fun K9 hK9=>?_;go_wp2_with ((with_reducible refine bI ⟨?_⟩);refine iW h12 aj (aV (A:=pt b6 (.cells (bZ y).toArray 191 (0,0)))) Tryz.underlying191 rfl au ?_);refine (VL y h12).mono ?_;rintro ee jU ⟨v,rfl,rfl,h13⟩;clear h12;by_cases hc:Rep.counts y=true
   ·have hlv:(fun s=>Rep.gB s (kv.take (i+1)))=fun s=>if s=y.place.seg then Rep.gB y.place.seg (kv.take i)+y.place.size else Rep.gB s (kv.take i):=by
     funext s
     rw [gY.out,Rep.FW];by_cases e:s=y.place.seg
     ·subst e;simp [hc]
     ·simp only [hc,true_and,abA e];rw [abA (fun h=>e h.symm),Int.add_zero]
    have Hlv:=uQ hlv;have hlk:=O1 y.place.seg (h13.pick (aT (aT (aT (aT aV)))));obtain ⟨nN,hup,ku⟩:=Yu y.place.seg (Rep.gB y.place.seg (kv.take i)+y.place.size) (h13.pick (aT (aT (aT (aT aV)))));obtain ⟨q1,q2⟩:=Rep.Po y.place.seg (b:=4294967296) aN (kv.take i) fun p hp=>(iD.out p (adG hp)).2;have q3:(kv.take i).length≤13000000:=acz (aoi i kv) oC.out;have q4:=Hs.out;have hwa:IntKind.i64.wrap (Rep.gB y.place.seg (kv.take i)+y.place.size)=Rep.gB y.place.seg (kv.take i)+y.place.size:=acC _ oQ;have hwb:wrap64 (Rep.gB y.place.seg (kv.take i)+y.place.size)=Rep.gB y.place.seg (kv.take i)+y.place.size:=adM _ oQ;clear q1 q2 q3 q4 hlv;have e0:jU.cell? ⟨b4,0,none⟩=some (.map (some bm)):=h13.cellP (aT (aT (aT aV))) 0 rfl;have e1:jU.cell? ⟨b6,1,none⟩=some (.int .i64 y.place.seg):=h13.cellP aV 1 rfl;have e2:jU.cell? ⟨b6,3,none⟩=some (.int .i64 y.place.size):=h13.cellP aV 3 rfl
    rw [hc];clear h13 hc;go_wp2_with fail;refine wpIn_cond_true aj ?_;refine uT aj fun K10 hK10=>?_;go_wp2_with fail;rw [← Hlv.out]at ku;refine ⟨trivial,?_⟩
    have h15:Sat w0 nN (dh ps last pi uv tv::pt b2 (.cells #[ptr ps] 33 (0,0))::pt b4 (.cells #[.map (some bm)] 142 (0,0))::kZ bm (fun s=>Rep.gB s (kv.take (i+1))) ::
     aI pi (Tab.mapOf (Rep.puts (kv.take (i+1)))) (i+1)::aB 45 3 uv (us.flatMap bT)::pt b3 (.cells #[ptr pg] 193 (0,0))::(F++U')):=ku.sb
    rw [← jS.out]at h15;exact h15
   ·have hlv:(fun s=>Rep.gB s (kv.take (i+1)))=fun s=>Rep.gB s (kv.take i):=by
     funext s
     rw [gY.out,Rep.FW,abA (fun h=>hc h.1),Int.add_zero]
    have Hlv:=uQ hlv;rw [aov]at hc;rw [hc];clear hlv hc;go_wp2_with fail;refine wpIn_cond_false aj ?_;refine wpIn_skip ?_;go_wp2_with fail;rw [← Hlv.out]at h13;refine ⟨trivial,?_⟩
    have h15:Sat w0 jU (dh ps last pi uv tv::pt b2 (.cells #[ptr ps] 33 (0,0))::pt b4 (.cells #[.map (some bm)] 142 (0,0))::kZ bm (fun s=>Rep.gB s (kv.take (i+1))) ::
     aI pi (Tab.mapOf (Rep.puts (kv.take (i+1)))) (i+1)::aB 45 3 uv (us.flatMap bT)::pt b3 (.cells #[ptr pg] 193 (0,0))::(F++U')):=h13.sb
    rw [← jS.out]at h15;exact h15
 ·intro D w8 h8
  have h9:Sat w0 w8 (fE pg m B::pt bA (.cells #[ptr pg] 188 (0,0))::dh ps last pi uv tv::pt b2 (.cells #[ptr ps] 33 (0,0))::pt b4 (.cells #[.map (some bm)] 142 (0,0))::kZ bm (fun s=>Rep.gB s kv) ::
   aI pi (Tab.mapOf (Rep.puts kv)) kv.length::aB 45 3 uv (us.flatMap bT)::pt b3 (.cells #[ptr pg] 193 (0,0))::(F++[pt D (.deferred (some []))])):=by
   have q:=h8;unfold WE at q;rw [abl,adk]at q;exact q
  have hA:Sat w0 w8 (pt D (.deferred (some []))::fE pg m B::pt bA (.cells #[ptr pg] 188 (0,0))::dh ps last pi uv tv::pt b2 (.cells #[ptr ps] 33 (0,0))::pt b4 (.cells #[.map (some bm)] 142 (0,0))::kZ bm (fun s=>Rep.gB s kv) ::
   aI pi (Tab.mapOf (Rep.puts kv)) kv.length::aB 45 3 uv (us.flatMap bT)::pt b3 (.cells #[ptr pg] 193 (0,0))::F):=
   Sat.IC (L:=fE pg m B::pt bA (.cells #[ptr pg] 188 (0,0))::dh ps last pi uv tv::pt b2 (.cells #[ptr ps] 33 (0,0))::pt b4 (.cells #[.map (some bm)] 142 (0,0))::kZ bm (fun s=>Rep.gB s kv) ::
    aI pi (Tab.mapOf (Rep.puts kv)) kv.length::aB 45 3 uv (us.flatMap bT)::pt b3 (.cells #[ptr pg] 193 (0,0))::F) (R:=[pt D (.deferred (some []))]) h9
  clear h7 h8 h9;have hB2:Sat w0 w8 (aB 45 3 uv ((Rep.half kv us 0).flatMap bT)::dh ps last pi uv tv::pt b2 (.cells #[ptr ps] 33 (0,0))::pt b4 (.cells #[.map (some bm)] 142 (0,0))::kZ bm (fun s=>Rep.gB s kv)::pt D (.deferred (some []))::aI pi (Tab.mapOf (Rep.puts kv)) kv.length::fE pg m B::F):=hA.sb;clear hA;obtain ⟨ua,uc,rfl⟩:=jl (l:=Rep.half kv us 0) (f:=bT) (k:=3) (fun u _=>rfl) (Sat.rd hB2) aN;rw [Rep.Oy]at hB2;go_wp2_with ((with_reducible refine bI ⟨?_⟩);refine gu hB2 aj bC bJ ak au ?_)
  go_loopg [42] us.length (fun g iq wr=>∃ i:Nat,g=us.length - i∧i≤us.length∧iq = .int .i64 i ∧
   Sat w0 wr (aB 45 3 (.slice ua us.length uc) ((Rep.half kv us i).flatMap bT)::dh ps last pi (.slice ua us.length uc) tv::pt b2 (.cells #[ptr ps] 33 (0,0))::pt b4 (.cells #[.map (some bm)] 142 (0,0))::kZ bm (fun s=>Rep.gB s kv)::pt D (.deferred (some []))::aI pi (Tab.mapOf (Rep.puts kv)) kv.length::fE pg m B::F))
  case atStart=>exact ⟨0,rfl,acV _,rfl,hB2⟩
  case round=>
   obtain ⟨i,rfl,hi,rfl,hS⟩:=hrel;clear hB2;by_cases hlt:i<us.length;rotate_left
   ·obtain rfl:i=us.length:=by omega
    have c1:¬ (us.length:Int)<(us.length:Int):=oQ;rw [Rep.agN]at hS;clear hlt hi;go_wp2_with fail;refine afI rfl (hS.pick (aT (aT (aT (aT (aT aV)))))) (fun w=>results_none rfl _ _ _) ?_;intro w9 h9;exact ⟨_,rfl,h9.sb⟩
   have c1:(i:Int)<(us.length:Int):=oQ;have hwi:IntKind.i64.wrap ((i:Int)+1)=(i:Int)+1:=acC _ (by have:=Hu.out;omega);obtain ⟨u,hu⟩:∃ u,us[i]?=some u:=⟨_,aaI hlt⟩;have hx:(Rep.half kv us i)[i]?=some u:=Rep.agO hu;have oG:=uQ (Gt (f:=bT) (k:=3) (o:=2) (x':=Rep.upd kv u) (vs:=[.int .i64 (Rep.gB u.seg kv)]) (fun u _=>rfl) hx aj (by show 2+1≤3;decide));rw [Rep.agP hu]at oG;have hrl:((Rep.half kv us i).flatMap bT).length=3 * us.length:=by rw [iY (k:=3) (f:=bT) fun u _=>rfl,Rep.Oy]
   obtain ⟨bk,off,c',hsv,hcell⟩:=jG (f:=bT) (k:=3) (fun u _=>rfl) (Sat.rd hS) hx aN;rw [Rep.Oy]at hsv;cases hsv;rcases Sat.kP hS with ⟨e,_⟩|⟨g',n',cap',cs',e,_⟩
   ·cases e
   obtain rfl:off=0:=by injection e with e1;injection e1 with e2;injection e2
   obtain ⟨g',rfl⟩:∃ g,g=bk:=⟨_,rfl⟩;simp only [acT]at hcell;have bV:=uQ hlt;clear hlt hi hu hx
   go_wp2_with (first
    |((with_reducible refine bI ⟨?_⟩);refine iL (o:=i * 3) (bT u) aj hcell Tryz.underlying45 rfl au ?_)
    |(with_reducible apply gq))
   refine ⟨fF acu hS rfl ?_⟩;intro b8 w9 iZ;go_wp2_with ((with_reducible refine cO ⟨?_⟩);refine gJ (bT u).toArray iZ aj aj aj cZ au aj ?_;intro w10 dL);have hSd:=dL.drew
   have hG:w10.drew.cell? ⟨b2,0,none⟩=some (ptr ps)∧w10.drew.cell? ⟨ps,2,none⟩=some (.slice (some ⟨g',0,none⟩) us.length uc)∧w10.drew.cell? ⟨b4,0,none⟩=some (.map (some bm))∧w10.drew.cell? ⟨b8,0,none⟩=some (.int .i64 u.seg) ∧
     (Instr.lookup 142 (.map (some bm)) (.int .i64 u.seg) false).run Tryz.prog w10.drew = .ok (.int .i64 (Rep.gB u.seg kv)) w10.drew:=
    ⟨hSd.cellP (aT (aT (aT aV))) 0 rfl,hSd.cellP (aT (aT aV)) 2 rfl,hSd.cellP (aT (aT (aT (aT aV)))) 0 rfl,hSd.cellP aV 0 rfl,O1 u.seg (hSd.pick (aT (aT (aT (aT (aT aV))))))⟩
   clear hS iZ hcell;refine dS [9,10,11] (fun w'=>w'.cell? ⟨b2,0,none⟩=some (ptr ps)∧w'.cell? ⟨ps,2,none⟩=some (.slice (some ⟨g',0,none⟩) us.length uc)∧w'.cell? ⟨b4,0,none⟩=some (.map (some bm))∧w'.cell? ⟨b8,0,none⟩=some (.int .i64 u.seg)∧(Instr.lookup 142 (.map (some bm)) (.int .i64 u.seg) false).run Tryz.prog w' = .ok (.int .i64 (Rep.gB u.seg kv)) w') au ?_;refine rt 0 (h:=?_);refine rP 1 ?_ (y:=dV);refine rP 2 ?_ (y:=bW);refine rt 3 (h:=?_);refine rP 4 ?_ (y:=aZ);refine rt 5 (h:=?_);refine rP 6 ?_ (y:=bW);refine rt 7 (h:=?_);refine rt 8 (h:=?_);refine rP 9 ?_ (y:=jf);refine rP 10 ?_ (y:=bW);clear hG;refine bY 11 ak au (fun K' hK'=>?_);refine uG (vs:=[.int .i64 (Rep.gB u.seg kv)]) (i * 3+2) hSd ak ak rfl (jh cZ) (by rw [hrl];have:=bV.out;show i * 3+2+1≤_;omega) au aj ?_;intro w12 iK;refine hK' _ _ (.inl rfl) ?_;clear hK' hSd dL;refine dI au ?_
   rw [← oG.out]at iK;go_wp2_with fail
   go_roundg (us.length - (i+1))
   case measure=>have:=bV.out;omega
   case rel=>exact ⟨i+1,rfl,bV.out,by first|rfl|go_num,iK.sb⟩
end
end Go.Proofs.YtihngncbioofnaaGreatDoor
namespace Go.Rep
open Go.ah (Bs dA)
def xQ (l:List dA):Bool:=match l.getLast? with
 |some f=>f.e.tag==2
 |none=>false
abbrev Told:Type:=Int→Bs×Int
def split (bt:Told) (ns:List Int):Nat→Nat×Int
 |0=>(0,0)
 |i+1=>if (bt (ns.getD i 0)).2≠0 then (0,(bt (ns.getD i 0)).2) else if (ah.scan (bt (ns.getD i 0)).1).2.2=0∧xQ (ah.scan (bt (ns.getD i 0)).1).1=true then (i+1,0) else split bt ns i
theorem Ry (bt:Told) (ns:List Int):∀ i,(split bt ns i).1≤i
 |0=>abL 0
 |i+1=>by
  have:=Ry bt ns i;unfold split;split
  ·exact acV _
  split
  ·exact abL _
  ·omega
structure dZ where
 what:Int
 seg:Int
 at_:Int
def dZ.zero:dZ:=⟨0,0,0⟩
def fault (s:Int) (at_:Nat):dZ:=if at_=0 then ⟨1,s,0⟩ else ⟨2,s,at_⟩
def bad (bt:Told):List Int→Option (dZ×Int)
 |[]=>none
 |s::l=>if (bt s).2≠0 then some (dZ.zero,(bt s).2) else if (ah.scan (bt s).1).2.2≠0 then some (fault s (ah.scan (bt s).1).2.1,13) else bad bt l
def rowsOf (bt:Told) (l:List Int):List Row:=l.flatMap fun s=>(ah.scan (bt s).1).1.map fun f=>(s,f)
def jC (bt:Told) (l:List Int):List Use:=l.map fun s=>⟨s,((bt s).1.length:Int),0⟩
theorem IQ (bt:Told):∀ (l k:List Int),bad bt l=none→bad bt (l++k)=bad bt k
 |[],_,_=>rfl
 |s::l,k,h=>by
  unfold bad at h;rw [adA];show (if (bt s).2≠0 then _ else if (ah.scan (bt s).1).2.2≠0 then _ else bad bt (l++k))=_;split at h
  ·cases h
  ·rename_i h1;rw [abA h1];split at h
   ·cases h
   ·rename_i h2;rw [abA h2];exact IQ bt l k h
theorem aei {bt:Told}{s:Int}{pre post:List Int} (hp:bad bt pre=none) (h:(bt s).2≠0):bad bt (pre++s::post)=some (dZ.zero,(bt s).2):=by
 rw [IQ bt _ _ hp];unfold bad;rw [acr h]
theorem aej {bt:Told}{s:Int}{pre post:List Int} (hp:bad bt pre=none) (h:(bt s).2=0) (h2:(ah.scan (bt s).1).2.2≠0):bad bt (pre++s::post)=some (fault s (ah.scan (bt s).1).2.1,13):=by
 rw [IQ bt _ _ hp];unfold bad;rw [abA (fun h3=>h3 h),acr h2]
theorem aeh {bt:Told}{s:Int}{pre:List Int} (hp:bad bt pre=none) (h:(bt s).2=0) (h2:(ah.scan (bt s).1).2.2=0):bad bt (pre++[s])=none:=by
 rw [IQ bt _ _ hp];unfold bad;rw [abA (fun h3=>h3 h),abA (fun h3=>h3 h2)];rfl
theorem aaG (bt:Told) (l:List Int) (s:Int):rowsOf bt (l++[s])=rowsOf bt l++(ah.scan (bt s).1).1.map fun f=>(s,f):=by
 unfold rowsOf;rw [adz,ada,anX,acM]
theorem amF (bt:Told) (l:List Int) (s:Int):jC bt (l++[s])=jC bt l++[⟨s,((bt s).1.length:Int),0⟩]:=by
 unfold jC;rw [acI];rfl
end Go.Rep
namespace Go.Proofs.YtihngncbioofnaaGreatDoor
open Go Go.Sl Go.ay Go.MapKept Go.RowKit
section
variable {w0 w:World}{F R:List aH}{v bv dv x lv:Value}
theorem amU {L:List aH}{b:Nat}{ops:Array Oper}{rest:List Oper}{a:Act}{Q:Exit→Act→World→Prop}{dst:Option Tmp}{t:TypeId}{pos:String}{after:Array Edge}{P:Program}{ty:TypeId}{x y:Operand}{vx vy:Value} (hx:a.eval x=vx) (hy:a.eval y=vy) (hr:∀ w,(Instr.sliceAt ty vx (some vy) none none).run P w = .ok v w)
  (h:wpList P ops Q rest (a.put dst v) w):wpList P ops Q (⟨dst,.slice ty x (some y) none none,t,pos,after,none⟩::rest) a w:=
 aeB rfl fun _ hK=>by
  unfold Oper.wp execOp;simp only [hx,hy,ahf,an5,acN,hr,acB,ac1];exact hK _ _ h
theorem aeb {ops:Array Oper}{rest:List Oper}{a:Act}{Q:Exit→Act→World→Prop}{dst:Option Tmp}{t:TypeId}{pos:String}{after:Array Edge}{P:Program}{ty:TypeId}{x y:Operand} (h:Stop (wpList P ops Q (⟨dst,.slice ty x (some y) none none,t,pos,after,none⟩::rest) a w)):wpList P ops Q (⟨dst,.slice ty x (some y) none none,t,pos,after,none⟩::rest) a w:=h.out
theorem Oe (l:Bs) (hr:Ro w0 F (bG 1 bv (aA l))) (hcap:lQ bv) (hH:Ro w0 F Half) (hl:l.length≤268435456) (h:Sat w0 w F) :
  Calls Tryz.prog 15 #[bv] w (aP fun v w'=>∃ (fs:List (ah.dA×Value)) (ov:Value),fs.map (·.1)=(ah.scan l).1∧(∀ p∈fs,p.1.e.key.length=32)∧v = .tuple #[ov,.int .i64 (ah.scan l).2.1,errno (ah.scan l).2.2] ∧
   Sat w0 w' (aB 54 36 ov (jD fs)::kN fs::F)):=by
 obtain ⟨ba,bn,bc,rfl,hbn,hbc⟩:=hcap;have hln:bn=l.length:=by
  obtain ⟨_,_,_,he,hl',_⟩:=hr w h;cases he;rw [aX,adb]at hl';exact hl'.symm
 subst hln;have hcv:=Lib.run_convert_bytes_const (P:=Tryz.prog) w 39 5 #[.int .u8 72,.int .u8 79,.int .u8 65,.int .u8 82,.int .u8 68,.int .u8 83,.int .u8 69,.int .u8 71] 8 8 Tryz.underlying39 Tryz.underlying5;have hB:Sat w0 (w.alloc (.cells #[.int .u8 72,.int .u8 79,.int .u8 65,.int .u8 82,.int .u8 68,.int .u8 83,.int .u8 69,.int .u8 71] 5 (8,9))) (mrow w.heap.size ah.tq::F):=h.alloc _;simp only [abX,ac5,adF,acT,Nat.reduceAdd]at hcv;have hmr:bG 1 (.slice (some ⟨w.heap.size,0,none⟩) 8 8) (aA ah.tq) (w.alloc (.cells #[.int .u8 72,.int .u8 79,.int .u8 65,.int .u8 82,.int .u8 68,.int .u8 83,.int .u8 69,.int .u8 71] 5 (8,9))):=by
  refine ⟨_,8,8,rfl,rfl,fun j x hj=>⟨_,rfl,?_⟩⟩;rw [qO];have hjl:j<ah.tq.length:=by
   have:=(abW.1 hj).1;rw [aX]at this;exact this
  have hx:=(JE (l:=ah.tq) hB hjl 0).1;unfold aA at hj;rw [acE,aaI hjl]at hj;cases hj;exact hx
 have hpre:=agS l ah.tq ba l.length bc hbn hbc (hr _ hB.drop) _ 8 8 hmr;have Hr:=uQ hr;have HH:=uQ hH;have Hl:=uQ hl;have wW:=uQ (show l.length≤bc∧bc≤9223372036854775807 from ⟨hbn,hbc⟩);have hF:=uQ hB.drop;clear hr hH hl hbn hbc hB hmr;cases hm:decide (l.take ah.tq.length=ah.tq)
 ·have Hf:=uQ (show ah.scan l=([],0,4) by
   unfold ah.scan;have:¬ l.take 8=ah.tq:=of_decide_eq_false hm;rw [abA this])
  rw [hm]at hpre;clear hm;go_enter Tryz.func15,Tryz.ntmps15;go_wp2_with fail;refine hpre.mono ?_;rintro e w1 ⟨v,rfl,rfl,rfl⟩;go_wp2
  go_ret3
  refine ⟨_,rfl,[],_,by rw [Hf.out];rfl,by simp,?_,Sat.gI.2 (Sat.emp.2 hF.out)⟩;rw [Hf.out];rfl
 ·have hlm:l.take 8=ah.tq:=ail hm;have XU:8≤l.length:=by
   have:=adu List.length hlm;rw [acA]at this;have h8:ah.tq.length=8:=rfl;omega
  have Hf:=uQ (show ah.scan l=ah.oh l.length (l.drop 8) 8 by
   unfold ah.scan;rw [acr hlm])
  have H8:=uQ XU;rw [hm]at hpre;obtain ⟨bk,off,rfl⟩:∃ bk off,ba=some ⟨bk,off,none⟩:=by
   obtain ⟨b',o',hb,_⟩:=qU (i:=0) (x:= .int .u8 (l[0]'oQ).toNat) (Hr.out _ hF.out) (by unfold aA;rw [acE,aaI oQ];rfl);exact ⟨_,_,hb⟩
  clear hm hlm XU;go_enter Tryz.func15,Tryz.ntmps15;go_wp2_with fail;refine hpre.mono ?_;rintro e w1 ⟨v,rfl,rfl,rfl⟩;go_wp2_with fail
  go_loopg [6,5] (l.length - 8) (fun g aq ov wr=>∃ (at_:Nat) (fs:List (ah.dA×Value)),g=l.length - at_∧8≤at_∧at_≤l.length∧9 * fs.length≤at_∧aq = .int .i64 at_∧(∀ p∈fs,p.1.e.key.length=32) ∧
   (∃ k,l.length - at_≤k∧ah.scan l=(fs.map (·.1)++(ah.oh k (l.drop at_) at_).1,(ah.oh k (l.drop at_) at_).2)) ∧
   Sat w0 wr (aB 54 36 ov (jD fs)::kN fs::F))
  case atStart=>
   exact ⟨8,[],rfl,abL _,H8.out,acV _,rfl,by simp,⟨l.length,by omega,by rw [Hf.out];rfl⟩,Sat.gI.2 (Sat.emp.2 hF.out)⟩
  case round=>
   obtain ⟨at_,fs,rfl,h8,hat,hfl,rfl,hfk,⟨k,hk,hsc⟩,hS⟩:=hrel;have Hk:=uQ hk;have vI:=uQ hsc;have qK:=uQ hfk;have qI:=uQ (show at_≤l.length∧8≤at_∧9 * fs.length≤at_ from ⟨hat,h8,hfl⟩);clear hk hsc hfk h8 hfl;by_cases hlt:at_<l.length
   ·have c1:(at_:Int)<(l.length:Int):=by omega
    have c2:(at_:Int)≤(bc:Int):=by have:=wW.out;omega
    have c3:(l.length:Int)≤(bc:Int):=by have:=wW.out;omega
    have c4:(at_:Int)≤(l.length:Int):=oQ;have c5:(0:Int)≤(at_:Int):=oQ;have c6:¬ bc=at_:=by have:=wW.out;omega
    have hsl:∀ w,(Instr.sliceAt 39 (.slice (some ⟨bk,off,none⟩) l.length bc) (some (.int .i64 at_)) none none).run Tryz.prog w = .ok (.slice (some ⟨bk,off+at_,none⟩) (l.length - at_) (bc - at_)) w:=by
     intro w;go_simp
    have hrd:=uQ (fun w hw=>aam (Hr.out w hw) at_ l.length (bc - at_) hat (abL _));rw [adk]at hrd;have bV:=uQ hlt;clear hlt hat;go_wp2_with ((with_reducible refine aeb ⟨?_⟩);refine amU aj aj hsl ?_);refine (Xb (l.drop at_) (Ro.os hrd.out) ⟨_,_,_,rfl,by have:=wW.out;omega,by have:=wW.out;omega⟩ (Ro.os HH.out) (by rw [acL];have:=Hl.out;omega) hS).mono ?_;rintro ee w2 ⟨v,rfl,da,dc,rfl,hS2⟩;have Uz:=uQ (ah.Qv (l.drop at_));obtain ⟨k,rfl⟩:∃ k',k=k'+1:=⟨k - 1,by have:=Hk.out;have:=bV.out;omega⟩
    have qN:=uQ (show l.drop at_≠[] by
     intro h0;have:=adu List.length h0;rw [acL]at this;have:=bV.out;simp only [adF]at *
     omega)
    by_cases hz:(ah.read (l.drop at_)).2.2=0
    ·have dw:=uQ (ah.aap hz)
     have MR:=uQ (show ah.scan l=(fs.map (·.1)++(⟨(ah.read (l.drop at_)).1,at_,(ah.read (l.drop at_)).2.1⟩::(ah.oh k ((l.drop at_).drop (ah.read (l.drop at_)).2.1) (at_+(ah.read (l.drop at_)).2.1)).1),(ah.oh k ((l.drop at_).drop (ah.read (l.drop at_)).2.1) (at_+(ah.read (l.drop at_)).2.1)).2) by
      rw [vI.out];simp only [ah.oh];rw [abA qN.out,abA (fun h=>h hz)])
     have hN:=dw.out.2.1;rw [acL]at hN;rw [aol]at MR;generalize ah.read (l.drop at_)=r at *
     obtain ⟨e,n,er⟩:=r;obtain rfl:er=0:=hz;have Hn:=uQ (show 9≤n∧n≤l.length - at_ from ⟨dw.out.1,hN⟩);have iM:=uQ (show e.key.length=32 from Uz.out);clear hN vI Uz dw
     try clear hz
     simp only at MR hS2;have hw:IntKind.i64.wrap ((at_:Int)+(n:Int))=((at_+n:Nat):Int):=by
      rw [acC _ (by have:=Hn.out;have:=Hl.out;omega)];omega
     have hlen:(jD fs).length≤2147483648:=by
      rw [WR qK.out];have:=qI.out;have:=Hl.out;omega
     go_wp2_with (first
      |((with_reducible refine sG ⟨?_⟩);refine tY aQ ?_;intro bE wE hE)|((with_reducible refine qm ⟨?_⟩);first|(refine jV aQ aj aj fQ eX sQ ?_;intro wS hS)|(refine jV (e:=ah.zeroE) (da:=none) (dn:=0) (dc:=0) aQ aj aj rfl eX sQ ?_;intro wS hS))|((with_reducible refine EL ⟨?_⟩);refine GR aQ aj bC fQ ?_)
      |((with_reducible refine U8 ⟨?_⟩);refine ab5 aj aj aj (fun w=>akB e iM.out da _ dc at_ n w) ?_)
      |((with_reducible refine pI ⟨?_⟩);refine o7 (e:=54) (sz:=36) (eY:=80) au aQ ak (cs:=fU ⟨e,at_,n⟩ (.slice da e.data.length dc)) rfl (oK _ _ iM.out) bJ ?_;intro bN wN hN)
      |((with_reducible refine lX ⟨?_⟩);refine pW 54 36 80 au aQ aj aj bC bC ((oK _ _ iM.out).trans aN) (abL 1) (E5 _ _ _ _) hlen (by rw [oK _ _ iM.out];decide) aN rfl ?_;intro bA nA cA wA hA))
     go_roundg (l.length - (at_+n))
     case measure=>have:=Hn.out;omega
     case rel=>
      refine ⟨at_+n,fs++[(⟨e,at_,n⟩,.slice da e.data.length dc)],rfl,by have:=qI.out;omega,by have:=Hn.out;have:=qI.out;omega,by rw [aaK,ac7];have:=qI.out;have:=Hn.out;omega,by first|rfl|go_num,?_,⟨k,by have:=Hn.out;have:=Hk.out;omega,?_⟩,?_⟩
      ·intro p hp;rw [ac3]at hp;rcases hp with hp|hp
       ·exact qK.out p hp
       ·rw [acO]at hp;subst hp;exact iM.out
      ·rw [MR.out,acI,acD];rfl
      ·rw [af8,afc];have e9:jD [((⟨e,at_,n⟩:ah.dA),Value.slice da e.data.length dc)]=(fU ⟨e,at_,n⟩ (.slice da e.data.length dc)).toList:=by
        unfold jD fU;simp
       rw [e9];have h10:Sat w0 wA (bK (.slice da e.data.length dc) e.data::kN fs::aB 54 36 (.slice (some ⟨bA,0,none⟩) nA cA) (jD fs++(fU ⟨e,at_,n⟩ (.slice da e.data.length dc)).toList)::F):=hA.sb;exact (Sat.star.2 h10).aY
    ·have hfin:=uQ (show ah.scan l=(fs.map (·.1),at_,(ah.read (l.drop at_)).2.2) by
      rw [vI.out];simp only [ah.oh];rw [abA qN.out,acr hz,acM])
     have c9:((ah.read (l.drop at_)).2.2==0)=false:=by rw [acH];exact hz
     clear hz vI;go_wp2_with (first|((with_reducible refine sG ⟨?_⟩);refine tY aQ ?_;intro bE wE hE)|((with_reducible refine qm ⟨?_⟩);first|(refine jV aQ aj aj fQ eX sQ ?_;intro wS hS)|(refine jV (e:=ah.zeroE) (da:=none) (dn:=0) (dc:=0) aQ aj aj rfl eX sQ ?_;intro wS hS))|((with_reducible refine EL ⟨?_⟩);refine GR aQ aj bC fQ ?_))
     go_ret3
     refine ⟨_,rfl,fs,u5,by rw [hfin.out],qK.out,?_,Sat.sb aQ⟩;rw [hfin.out];rfl
   ·have c1:¬ (at_:Int)<(l.length:Int):=by omega
    have hfin:=uQ (show ah.scan l=(fs.map (·.1),at_,0) by
     rw [vI.out,adp oQ];cases k <;> simp [ah.oh])
    clear hlt hat;go_wp2
    go_ret3
    refine ⟨_,rfl,fs,by rw [hfin.out],fun a b hm=>qK.out _ hm,u5,?_,hS⟩;rw [hfin.out];rfl
end
def fA (f:Rep.dZ):Array Value:=(.int .i64 f.what :: .int .i64 f.seg :: .int .i64 f.at_::(aA ah.zero32++[.string ByteArray.empty])).toArray
theorem qc:jr Tryz.prog 63=some (.agg (fA Rep.dZ.zero)):=by kernel_rfl
section
variable {w0 w:World}{F:List aH}{ov:Value}
theorem ama {fs:List (ah.dA×Value)} (hk:∀ p∈fs,p.1.e.key.length=32) (h:bG 36 ov (jD fs) w){i:Nat}{p:ah.dA×Value} (hi:fs[i]?=some p) :
  ∃ bk off c,ov = .slice (some ⟨bk,off,none⟩) fs.length c∧w.cell? ⟨bk,off+i * 36,none⟩=some (.int .i64 p.1.e.tag):=by
 obtain ⟨bk,off,c,e,hc⟩:=jG (f:=fun p:ah.dA×Value=>mO p.1 p.2) (k:=36) (fun p hp=>sH p.1 p.2 (hk p hp)) h hi aN;exact ⟨bk,off,c,e,hc 0 _ rfl⟩
theorem afF (fs:List (ah.dA×Value)) (hk:∀ p∈fs,p.1.e.key.length=32) (hn:fs.length≤1073741824) (h:bG 36 ov (jD fs) w) :
  Calls Tryz.prog 155 #[ov] w (aP fun v w'=>v = .bool (Rep.xQ (fs.map (·.1)))∧w=w'):=by
 cases hfs:fs.getLast? with
 |none=>
  obtain rfl:fs=[]:=ank.1 hfs;obtain ⟨a,n,c,rfl,hl,_⟩:=h;obtain rfl:n=0:=by have:=hl;simp [jD]at this;omega
  go_enter Tryz.func155,Tryz.ntmps155;go_wp2_with fail;go_ret;exact ⟨_,rfl,rfl,rfl⟩
 |some p=>
  have hne:fs≠[]:=by intro e;rw [e]at hfs;cases hfs
  have hlen:0<fs.length:=amK.2 hne;have hi:fs[fs.length - 1]?=some p:=by rw [← adv];exact hfs
  obtain ⟨bk,off,c,rfl,hc⟩:=ama hk h hi;have He:=uQ (show Rep.xQ (fs.map (·.1))=(p.1.e.tag==2) by unfold Rep.xQ;rw [List.getLast?_map,hfs];rfl);rw [He.out];have c1:(fs.length:Int)>0:=oQ;have c2:(0:Int)<(fs.length:Int):=oQ;have w1:IntKind.i64.wrap ((fs.length:Int) - 1)=((fs.length - 1:Nat):Int):=by rw [acC _ oQ];omega
  have c3:(0:Int)≤((fs.length - 1:Nat):Int):=oQ;have c4:((fs.length - 1:Nat):Int)<(fs.length:Int):=oQ;clear hfs hne hlen hi h hk hn;generalize fs.length - 1=j at *
  go_enter Tryz.func155,Tryz.ntmps155;go_wp2_with fail;go_ret;exact ⟨_,rfl,rfl,rfl⟩
end
section
variable {w0 w:World}{F R:List aH}{p B B':Nat}{m:ah.Bs→Option Rep.dP}
theorem fE.mono (hB:B≤B') (h:Sat w0 w (fE p m B::R)):Sat w0 w (fE p m B'::R):=by
 obtain ⟨t,sv,⟨ok,is,hb⟩,hS⟩:=fE.open h;exact fE.shut ok is (acz hb hB) hS
variable {da:Option Addr}{dn dc:Nat}
theorem E8 (f:ah.dA) (dv:Value) (hk:f.e.key.length=32):(fU f dv)[34]?=some (.int .i64 f.at_)∧(fU f dv)[35]?=some (.int .i64 f.size)∧∀ j v,(aA f.e.key)[j]?=some v→(fU f dv)[1+j]?=some v:=by
 have hl:(kX f.e dv).length=34:=NW _ _ hk;refine ⟨?_,?_,fun j v hj=>?_⟩
 ·show (kX f.e dv++_).toArray[34]?=_;rw [abY,ac0 oQ,hl];rfl
 ·show (kX f.e dv++_).toArray[35]?=_;rw [abY,ac0 oQ,hl];rfl
 ·have hj1:=(abW.1 hj).1;have hj2:=hj1;rw [aX,hk]at hj2;show (kX f.e dv++_).toArray[1+j]?=_;rw [abY,ac2 oQ,aoh];show (aA f.e.key++[dv])[j]?=_;rw [ac2 hj1];exact hj
theorem amg (s:Int) (f:ah.dA) (hk:f.e.key.length=32) (hB:B≤13000000) (h:Sat w0 w (fE p m B::F)) :
  Calls Tryz.prog 115 #[.agg #[ptr p],.int .i64 s,.agg (fU f (.slice da dn dc))] w (aP fun _ w'=>Sat w0 w' (fE p (Rep.Gz m (s,f)) (B+1)::F)):=by
 have Hk:=uQ hk;have HB:=uQ hB;have e0:(fU f (.slice da dn dc))[0]?=some (.int .i64 f.e.tag):=rfl;obtain ⟨e34,e35,l7⟩:=E8 f (.slice da dn dc) hk;clear hk hB;go_enter Tryz.func115,Tryz.ntmps115;go_wp2_with (with_reducible apply fK);refine ⟨fM h ak ak ?_⟩;intro b3 w3 h3;go_wp2_with (with_reducible apply fK);refine ⟨fM h3 ak ak ?_⟩;intro b5 w5 h5;clear h h3;have h6:Sat w0 w5 (pt b5 (.cells (fU f (.slice da dn dc)) 54 (0,0))::pt b3 (.cells #[ptr p] 193 (0,0))::fE p m B::F):=h5;clear h5;have f0:w5.cell? ⟨b5,0,none⟩=some (.int .i64 f.e.tag):=h6.cellP aV 0 e0;by_cases h2:f.e.tag=2
 ·have hb:(f.e.tag==2)=true:=ai7.2 h2;have MH:=uQ (show Rep.Gz m (s,f)=m from acr h2);have h7:=uQ (fE.mono (ahD B) (h6.sb:Sat w0 w5 (fE p m B::F)));clear h2 h6;go_wp2_with fail
  (try simp only [Exit.inBlock,Exit.then]);refine bodyPost_ret (results_none rfl _ _ _) rfl ?_
  exact ⟨_,rfl,by rw [MH.out];exact h7.out⟩
 have hb:(f.e.tag==2)=false:=by rw [acH];exact h2
 have MH:=uQ (show Rep.Gz m (s,f)=Tab.put m f.e.key ⟨f.e.tag,⟨s,f.at_,f.size⟩,Rep.nT m (s,f)⟩ from abA h2);clear h2;have hkr:w5.rangeAt b5 1 (aA f.e.key):=fun j v hj=>h6.cellP aV (1+j) (l7 j v hj)
 go_wp2_with (first
  |((with_reducible refine bI ⟨?_⟩);refine gu h6 aj bC bJ ak au ?_)
  |((with_reducible refine bI ⟨?_⟩);refine iL (b:=b5) (o:=1) (aA f.e.key) aj hkr Tryz.underlying50 rfl (by rw [aX,Hk.out];kernel_rfl) ?_))
 refine (agt (by have:=HB.out;omega) Hk.out (h6.sb:Sat w0 w5 (fE p m B::pt b5 (.cells (fU f (.slice da dn dc)) 54 (0,0))::pt b3 (.cells #[ptr p] 193 (0,0))::F))).mono ?_;rintro ee w7 ⟨v,rfl,hv,h7⟩;clear h6 hkr f0;rcases hm:m f.e.key with _|a
 focus
  rw [hm,Option.getD_none,Option.isSome_none]at hv;subst hv;have hf0:Rep.zZ m (s,f) = -1:=by unfold Rep.zZ;show (match m f.e.key with|some a=>a.first|none=> -1) = -1;rw [hm]
  clear hm;go_wp2_with (with_reducible apply gq);refine ⟨fF G5 h7 rfl ?_⟩;intro b6 w8 h8;go_wp2_with (first|((with_reducible refine cO ⟨?_⟩);refine gJ (bZ ⟨0,Seg.aU.zero,0⟩).toArray h8 aj aj aj cZ au aj ?_;intro w9 h9)|((with_reducible refine cO ⟨?_⟩);refine fG (cs':=#[.int .i64 0,.int .i64 0,.int .i64 0,.int .i64 0,.int .i64 (-1)]) h9 aj ak aj cZ (by show 4+1≤5;decide) au aj ?_;intro wB hB)|(with_reducible apply bI));refine ⟨?_⟩;have f1:wB.cell? ⟨b5,0,none⟩=some (.int .i64 f.e.tag):=hB.cellP (aT (aT aV)) 0 e0;have f2:wB.cell? ⟨b6,4,none⟩=some (.int .i64 (-1)):=hB.cellP aV 4 rfl;clear h7 h8 h9;by_cases hz:f.e.tag=0
  focus
   have hb0:(f.e.tag==0)=true:=ai7.2 hz;have hE:=uQ (show Rep.nT m (s,f)=s by unfold Rep.nT;rw [hf0];exact acr ⟨hz,by decide⟩);clear hz hf0;go_wp2_with ((with_reducible refine cO ⟨?_⟩);refine fG (cs':=#[.int .i64 0,.int .i64 0,.int .i64 0,.int .i64 0,.int .i64 s]) hB aj ak aj cZ (by show 4+1≤5;decide) au aj ?_;intro wA hA);clear hB f1 f2
  rotate_left
  focus
   have hb0:(f.e.tag==0)=false:=by rw [acH];exact hz
   have hE:=uQ (show Rep.nT m (s,f) = -1 by unfold Rep.nT;rw [hf0];exact abA (fun h=>hz h.1));clear hz hf0;go_wp2_with fail;clear f1 f2;have hA:=hB;clear hB
 rotate_left 2
 focus
  rw [hm,anW,Option.isSome_some]at hv;subst hv;have hf0:Rep.zZ m (s,f)=a.first:=by unfold Rep.zZ;show (match m f.e.key with|some a=>a.first|none=> -1)=a.first;rw [hm]
  obtain ⟨at0,⟨UR,UU,UW⟩,af⟩:=a;have Xq:=h7;clear h7 hm;have h7:=Xq;clear Xq;go_wp2_with (with_reducible apply gq);refine ⟨fF G5 h7 rfl ?_⟩;intro b6 w8 h8;go_wp2_with (first|((with_reducible refine cO ⟨?_⟩);refine gJ (bZ ⟨at0,⟨UR,UU,UW⟩,af⟩).toArray h8 aj aj aj cZ au aj ?_;intro w9 h9)|(with_reducible apply bI));refine ⟨?_⟩;have f1:w9.cell? ⟨b5,0,none⟩=some (.int .i64 f.e.tag):=h9.cellP (aT (aT aV)) 0 e0;have f2:w9.cell? ⟨b6,4,none⟩=some (.int .i64 af):=h9.cellP aV 4 rfl;clear h7 h8;by_cases hz:f.e.tag=0
  focus
   have hb0:(f.e.tag==0)=true:=ai7.2 hz;by_cases hf:af<0
   focus
    have hE:=uQ (show Rep.nT m (s,f)=s by unfold Rep.nT;rw [hf0];exact acr ⟨hz,hf⟩);clear hz hf0;go_wp2_with ((with_reducible refine cO ⟨?_⟩);refine fG (cs':=#[.int .i64 at0,.int .i64 UR,.int .i64 UU,.int .i64 UW,.int .i64 s]) h9 aj ak aj cZ (by show 4+1≤5;decide) au aj ?_;intro wA hA);clear h9 f1 f2
   rotate_left
   focus
    have hE:=uQ (show Rep.nT m (s,f)=af by unfold Rep.nT;rw [hf0];exact abA (fun h=>hf h.2));clear hz hf0;go_wp2_with fail;clear f1 f2;have hA:=h9;clear h9
  rotate_left 2
  focus
   have hb0:(f.e.tag==0)=false:=by rw [acH];exact hz
   have hE:=uQ (show Rep.nT m (s,f)=af by unfold Rep.nT;rw [hf0];exact abA (fun h=>hz h.1));clear hz hf0;go_wp2_with fail;clear f1 f2;have hA:=h9;clear h9
 all_goals
  obtain ⟨q0,q1,q2,q3,q4,hE,iZ⟩:∃ q0 q1 q2 q3 q4:Int,Hid (Rep.nT m (s,f)=q4)∧Sat w0 _ (pt b6 (.cells #[.int .i64 q0,.int .i64 q1,.int .i64 q2,.int .i64 q3,.int .i64 q4] 191 (0,0))::fE p m B::pt b5 (.cells (fU f (.slice da dn dc)) 54 (0,0))::pt b3 (.cells #[ptr p] 193 (0,0))::F):=⟨_,_,_,_,_,hE,hA.drew⟩;clear hA;have hG:=And.intro (iZ.cellP (aT (aT aV)) 0 e0) (And.intro (iZ.cellP (aT (aT aV)) 34 e34) (iZ.cellP (aT (aT aV)) 35 e35));refine dS [11,12] (fun w'=>w'.cell? ⟨b5,0,none⟩=some (.int .i64 f.e.tag)∧w'.cell? ⟨b5,34,none⟩=some (.int .i64 f.at_)∧w'.cell? ⟨b5,35,none⟩=some (.int .i64 f.size)) au ?_;refine rP 0 ?_ (y:=bW);refine rP 1 ?_ (y:=bW);refine rt 2 (h:=?_);refine rP 3 ?_ (y:=aZ);refine rP 4 ?_ (y:=bW);refine rt 5 (h:=?_);refine rP 6 ?_ (y:=bW);refine rt 7 (h:=?_)
  refine rp 8 (hy:=(by (refine Or.inl ⟨by rfl,?_⟩;((intro wq;go_simp);first|done|exact wQ)))) (h:=?_);refine rP 9 ?_ (y:=bW);refine bY 10 ak au (fun K hK=>?_);refine kW (cs':=#[.int .i64 f.e.tag,.int .i64 q1,.int .i64 q2,.int .i64 q3,.int .i64 q4]) iZ ak ak aj cZ (by show 0+1≤5;decide) au aj ?_;intro w10 dL;have hG2:=And.intro (dL.cellP (aT (aT aV)) 0 e0) (And.intro (dL.cellP (aT (aT aV)) 34 e34) (dL.cellP (aT (aT aV)) 35 e35));refine hK _ _ (.inr (.inl hG2)) ?_;clear hK iZ hG hG2;refine rP 11 ?_ (y:=bW);refine bY 12 ak au (fun K hK=>?_);refine kW (cs':=#[.int .i64 f.e.tag,.int .i64 s,.int .i64 f.at_,.int .i64 f.size,.int .i64 q4]) dL ak ak aj cZ (by show 1+3≤5;decide) au aj ?_;intro w12 iK;refine hK _ _ (.inl rfl) ?_;clear hK dL;refine dI au ?_
  have uH:Sat w0 w12 (pt b6 (.cells (bZ ⟨f.e.tag,⟨s,f.at_,f.size⟩,Rep.nT m (s,f)⟩).toArray 191 (0,0))::fE p m B::pt b5 (.cells (fU f (.slice da dn dc)) 54 (0,0))::pt b3 (.cells #[ptr p] 193 (0,0))::F):=by
   have:=iK;rw [hE.out];exact this
  clear iK;have hkr:w12.rangeAt b5 1 (aA f.e.key):=fun j v hj=>uH.cellP (aT (aT aV)) (1+j) (l7 j v hj)
  go_wp2_with (first
   |((with_reducible refine bI ⟨?_⟩);refine iL (b:=b5) (o:=1) (aA f.e.key) aj hkr Tryz.underlying50 rfl (by rw [aX,Hk.out];kernel_rfl) ?_)
   |((with_reducible refine bI ⟨?_⟩);refine iW uH aj (aV (A:=pt b6 (.cells (bZ ⟨f.e.tag,⟨s,f.at_,f.size⟩,Rep.nT m (s,f)⟩).toArray 191 (0,0)))) Tryz.underlying191 rfl au ?_)
   |((with_reducible refine bI ⟨?_⟩);refine gu uH aj bC bJ ak au ?_))
  refine (ajr (p:=p) (by have:=HB.out;omega) Hk.out ⟨f.e.tag,⟨s,f.at_,f.size⟩,Rep.nT m (s,f)⟩ (uH.sb:Sat w0 w12 (fE p m B::F))).mono ?_;rintro ee nN ⟨v,rfl,Jp⟩;go_wp2_with fail
  go_end0
  exact ⟨_,rfl,by rw [MH.out];exact Jp⟩
end
section
variable {P:Program}{w0 w:World}{F R L:List aH}{b:Nat}{ops:Array Oper}{rest:List Oper}{a:Act}{Q:Exit→Act→World→Prop}
variable {dst:Option Tmp}{t ty T e:TypeId}{pos:String}{after:Array Edge}{x y:Operand}{cs:Array Value}{v:Value}{o n c k cap sz eY:Nat}{ad:Addr}{ys:List Value}
theorem afA (sz eY:Nat){K:Act→World→Prop}{E:Prop} (hb:pG P ty e sz eY=true) (hv:a.eval x = .slice (some ⟨b,0,none⟩) k cap) (hy:a.eval y = .slice (some ad) n c)
  (h:Sat w0 w (pt b (.cells cs T (0,0))::F)) (hl:ys.length=n * sz) (hnews:∀ j u,ys[j]?=some u→w.cell? (ad.add j)=some u) (h1:∀ u∈ys,u.oneCell'=true) (hroom:k+n≤cap) (hc:cap * sz≤cs.size)
  (hK:∀ w',Sat w0 w' (pt b (.cells (eu cs (k * sz) ys) T (0,0))::F)→K (a.put dst (.slice (some ⟨b,0,none⟩) (k+n) cap)) w') :
  if Region.wanted ⟨dst,.call { callee:= .builtin .append,args:=#[x,y],argTypes:=#[ty,ty] },t,pos,after,none⟩ (yielded ops a.tmps)=true then
   Oper.wp P ⟨dst,.call { callee:= .builtin .append,args:=#[x,y],argTypes:=#[ty,ty] },t,pos,after,none⟩ a w K Q else E:=by
 rw [acr (lI _ rfl)];obtain ⟨hu,i,z,hi,hz,e1,e2,e3,e4⟩:=xE hb;subst e1;have hle:(k+n) * i.size≤cs.size:=acz (afx _ hroom) hc;rw [ak4]at hle
 have hr:=run_append_room_cells (P:=P) (w:=w) ty t e i hu hi b 0 k cap ad n c ys hl hnews h1 hroom (fun j hj=>by
   rw [acT,h.cellAt (k * i.size+j) _ (aib (show k * i.size+j<cs.size by omega))];rfl) (fun j hj=>h.oL _)
 rw [acT]at hr;unfold Oper.wp execOp;simp only [resolve,invoke,builtin,acN,ac1,acB,aes,acS,adw,hv,hy,hr];exact hK _ (Sat.sets ys (k * i.size) h)
theorem acn {vx vy:Value} (hx:a.eval x=vx) (hy:a.eval y=vy) (hr:∀ w,(Instr.sliceAt ty vx (some vy) none none).run P w = .ok v w):Yields P ops ⟨dst,.slice ty x (some y) none none,t,pos,after,none⟩ v a:=
 .inl ⟨lI _ rfl,fun w=>by simp only [execOp,hx,hy,ahf,an5,acN,hr,acB,ac1]⟩
theorem akD (sz:Nat){z:Value} (hu:P.underlying ty=some (.slice e)) (hz:jr P e=some z) (hzs:z.cells.size=sz) (h1:z.cells.toList.all (·.oneCell')=true){o:Nat} (hfit:o+sz≤cs.size)
  (h:Sat w0 w (pt b (.cells cs T (0,0))::F)) :
  ∃ w',(Builtin.clear_ #[ty] t #[.slice (some ⟨b,o,none⟩) 1 c]).run P w = .ok (.tuple #[]) w'∧Sat w0 w' (pt b (.cells (eu cs o z.cells.toList) T (0,0))::F):=by
 refine ⟨w.setCells b o z.cells.toList,?_,Sat.sets _ _ h⟩;have hzc:(Builtin.zeroCells z.cells 1).toList=z.cells.toList:=by
  unfold Builtin.zeroCells;simp only [Array.toList_map,Array.toList_range,Nat.one_mul];apply List.ext_getElem (by simp);intro i q1 q2;have hi:i<z.cells.size:=by simpa using q2
  simp [anU hi,hi]
 have hst:=run_storeCells_cells (P:=P) b o z.cells.toList 0 w (fun j hj=>by
   rw [aif,h.cellAt (o+j) _ (aib (show o+j<cs.size by simp at hj;omega))];rfl) (fun j hj=>h.oL _) (fun u hu=>(aeD.1 h1) u hu)
 simp only [aif]at hst;simp [Builtin.clear_,agK hu,Kr hz w,hzc,hst]
theorem amR (sz:Nat){z:Value} (hu:P.underlying ty=some (.slice e)) (hz:jr P e=some z) (hzs:z.cells.size=sz) (h1:z.cells.toList.all (·.oneCell')=true) (hx:a.eval x = .slice (some ⟨b,o,none⟩) 1 c) (hfit:o+sz≤cs.size)
  (h:Sat w0 w (pt b (.cells cs T (0,0))::F)) (hK:∀ w',Sat w0 w' (pt b (.cells (eu cs o z.cells.toList) T (0,0))::F)→wpList P ops Q rest (a.put dst (.tuple #[])) w') :
  wpList P ops Q (⟨dst,.call { callee:= .builtin .clear,args:=#[x],argTypes:=#[ty] },t,pos,after,none⟩::rest) a w:=by
 refine aeB rfl fun _ hK'=>?_;obtain ⟨w',hr,hS⟩:=akD (P:=P) (t:=t) (c:=c) sz hu hz hzs h1 hfit h;unfold Oper.wp execOp;simp only [resolve,invoke,builtin,acN,ac1,acB,aes,acS,adw,hx,hr];exact hK' _ _ (hK w' hS)
theorem ad8 (h:Stop (wpList P ops Q (⟨dst,.call { callee:= .builtin .clear,args:=#[x],argTypes:=#[ty] },t,pos,after,none⟩::rest) a w)):wpList P ops Q (⟨dst,.call { callee:= .builtin .clear,args:=#[x],argTypes:=#[ty] },t,pos,after,none⟩::rest) a w:=h.out
end
section
variable {w0 w:World}{F R:List aH}{v bv dv x lv:Value}{q p m K:Nat}
theorem afg {l:List (Int×Int)}{i cap:Nat}{cs:Array Value} (hi:i<l.length) (hn:l.length≤cap) (hc:cap * 2≤cs.size) (htk:cs.toList.take (l.length * 2)=eF l) (z:List Value) (hz:z.length=2) :
  (eu (eu cs (i * 2) (eF (l.drop (i+1)))) ((l.length - 1) * 2) z).toList.take ((l.length - 1) * 2)=eF (l.eraseIdx i):=by
 have hys:(eF (l.drop (i+1))).length=(l.length - (i+1)) * 2:=by rw [kT,acL,ahC]
 have hcl:cs.toList.length=cs.size:=by simp
 rw [lg _ _ _ (by rw [kE];omega),acD,List.take_append,List.take_take,Nat.min_self];have hp2:(eu cs (i * 2) (eF (l.drop (i+1)))).toList.length=cs.size:=(acJ).trans (kE _ _ _);have h1:((eu cs (i * 2) (eF (l.drop (i+1)))).toList.take ((l.length - 1) * 2)).length=(l.length - 1) * 2:=by
  rw [acA,hp2];omega
 rw [h1,anm,adH,acM,lg _ _ _ oQ,acD];rw [List.take_append,acA,hcl,aoe oQ,acX (l:=cs.toList.take (i * 2)) (by rw [acA];omega)];rw [List.take_append,hys,acX (l:=eF (l.drop (i+1))) oQ,show (l.length - 1) * 2 - i * 2 - (l.length - (i+1)) * 2=0 by omega,adH,acM];have h2:cs.toList.take (i * 2)=eF (l.take i):=by
  have:=adu (List.take (i * 2)) htk;rw [List.take_take,aoe oQ]at this;rw [this]
  conv=>lhs;rw [← adB i l,Bz]
  rw [ado (by rw [kT,acA];omega),acX (by rw [kT,acA];omega)]
 rw [h2,← Bz,anK]
theorem alm (l:List (Int×Int)) (i:Nat):eF (l.drop i)=(eF l).drop (i * 2):=by
 rcases amB i l.length with h|h
 ·have h1:eF l=eF (l.take i)++eF (l.drop i):=by rw [← Bz,adB]
  have h2:(eF (l.take i)).length=i * 2:=by rw [kT,acA];omega
  rw [h1,← h2,List.drop_left]
 ·rw [adp h,adp (by rw [kT];omega)];rfl
theorem aln (l:List (Int×Int)):∀ u∈eF l,u.oneCell'=true:=by
 intro u hu;unfold eF at hu;rw [ahK]at hu;obtain ⟨s,_,hs⟩:=hu;simp only [acK,ag0,aoj]at hs;rcases hs with rfl|rfl <;> rfl
theorem alb (l:List (Int×Int)) (i:Nat) (hi:i<l.length) (hln:l.length≤1048576) (h:Sat w0 w (aB 105 2 lv (eF l)::F)) :
  Calls Tryz.prog 75 #[lv,.int .i64 i,.int .i64 ((i:Int)+1)] w (aP fun v w'=>∃ a n c,v = .slice a n c∧Sat w0 w' (aB 105 2 v (eF (l.eraseIdx i))::F)):=by
 rcases h.kP with ⟨rfl,hx,hF⟩|⟨b,n',cap,cs,rfl,hll,hn',hc,hcm,htk,hp⟩
 ·exfalso;have:=adu List.length hx;rw [kT]at this;simp at this;omega
 rw [kT]at hll;obtain rfl:n'=l.length:=by omega
 have hcm':cap≤9223372036854775807:=hcm;have LU:=uQ (afg hi hn' hc htk [.int .i64 0,.int .i64 0] rfl);have h0:(0:Int)≤(i:Int):=oQ;have h1:(i:Int)≤(i:Int)+1:=oQ;have h2:(i:Int)+1≤(l.length:Int):=oQ;have h3:(l.length:Int)≤(cap:Int):=oQ;have hne:((i:Int)==(i:Int)+1)=false:=by rw [acH];omega
 have Hp:=uQ hp;have Hcm:=uQ hcm;have Hc:=uQ hc;have Hn:=uQ hn';have gY:=uQ htk;have Hi:=uQ hi;have jJ:=uQ hln;clear hn' hc hcm htk hi h hll hln;go_enter Tryz.func75,Tryz.ntmps75;go_wp2_with fail;obtain ⟨ad,had,hsl⟩:∃ ad:Addr,(i+1<l.length→ad=⟨b,(i+1) * 2,none⟩)∧∀ w,(Instr.sliceAt 97 (.slice (some ⟨b,0,none⟩) l.length cap) (some (.int .i64 ((i:Int)+1))) none none).run Tryz.prog w = .ok (.slice (some ad) (l.length - (i+1)) (cap - (i+1))) w:=by
  by_cases hce:cap=i+1
  ·refine ⟨⟨b,0,none⟩,fun hh=>by have:=Hn.out;omega,fun w=>?_⟩;have h4:(0:Int)≤(i:Int)+1:=oQ;have h5:((i:Int)+1).toNat=i+1:=oQ;go_simp
  ·refine ⟨⟨b,(i+1) * 2,none⟩,fun _=>rfl,fun w=>?_⟩;have h4:(0:Int)≤(i:Int)+1:=oQ;have h5:((i:Int)+1).toNat=i+1:=oQ;go_simp
 have hic:i≤cap:=oQ;refine dS [] (fun _=>True) au ?_;refine rP 0 ?_ (y:=aZ);refine rP 1 ?_ (y:=aZ);refine rp 2 (hy:=(by (refine Or.inl ⟨by rfl,?_⟩;((intro wq;go_simp);first|done|exact wQ)))) (h:=?_);refine rP 3 ?_ (y:=aZ);refine rP 4 ?_ (y:=aZ);refine rP 5 ?_ (y:=(acn ak ak hsl));refine bY 6 ak au (fun K hK=>?_);refine afA (e:=105) (w0:=w0) (b:=b) (cs:=cs) (k:=i) (ys:=eF (l.drop (i+1))) 2 16 au aj aj Hp.out.drew (by rw [kT,acL,ahC]) ?_ (aln _) (by have:=Hn.out;have:=Hi.out;omega) Hc.out ?_
 ·intro j u hj;have hjl:=(abW.1 hj).1;rw [kT,acL]at hjl;rw [had oQ,Addr.add_mid];rw [alm,anQ]at hj;exact Hp.out.drew.cellAt _ _ (mZ gY.out hj)
 intro w2 hS2;refine hK _ _ (.inr (.inl trivial)) ?_;clear hK K;rw [show i+(l.length - (i+1))=l.length - 1 by have:=Hi.out;omega];have hj0:(0:Int)≤((l.length - 1:Nat):Int):=oQ;have hj1:((l.length - 1:Nat):Int)≤(l.length:Int):=oQ;have hj2:¬ cap=l.length - 1:=by have:=Hn.out;have:=Hi.out;omega
 have hj3:l.length - (l.length - 1)=1:=by have:=Hi.out;omega
 have hfit:=uQ (show (l.length - 1) * 2+2≤(eu cs (i * 2) (eF (l.drop (i+1)))).size by rw [kE];have:=Hc.out;have:=Hn.out;have:=Hi.out;omega);have Hk:=uQ (show (eF (l.eraseIdx i)).length=(l.length - 1) * 2 by rw [kT,List.length_eraseIdx_of_lt Hi.out,ahC]);generalize (l.length - 1)=N at *
 refine rP 7 ?_ (y:=fZ);refine dI au ?_;clear hp hsl had;go_wp2_with ((with_reducible refine ad8 ⟨?_⟩);refine amR (o:=N * 2) 2 Tryz.underlying97 acs aj aj aj hfit.out hS2 ?_;intro w3 hS3);go_ret;refine ⟨_,rfl,_,_,_,rfl,?_⟩;exact Sat.kR hS3 Hk.out (by have:=Hn.out;omega) (by rw [kE,kE];exact Hc.out) Hcm.out LU.out
end
section
variable {w0 w:World}{F R:List aH}{v bv dv x lv:Value}{q p m K:Nat}{L:Seg.Log}{M:ay}{s:Int×Int}
theorem Px (hL:L.Ok) (hM:M.Ok K) (jW:K≤1099511627776) (n:Int) (h:Sat w0 w (aK p m L::aJ m M::F)) :
  Calls Tryz.prog 37 #[ptr p,.int .i64 n] w (aP fun v w'=>v=errno (L.remove M n).2∧Sat w0 w' (aK p m (L.remove M n).1.1::aJ m (L.remove M n).1.2::F)):=by
 obtain ⟨lv,hR⟩:=aK.oW h;have hok:=tu hR;have hf:=JA hL n h;clear hR lv;rcases N7 (L:=L) n with ⟨ha,hb⟩|⟨i,ha,hb⟩
 ·have bF:=uQ (show L.remove M n=((L,M),9) by unfold Seg.Log.remove;rw [ha]);rw [hb]at hf;clear ha hb hL h;go_enter Tryz.func37,Tryz.ntmps37;go_wp2_with fail;refine hok.mono ?_;rintro e w2 ⟨v,rfl,rfl,rfl⟩;clear hok;go_wp2_with fail;refine hf.mono ?_;rintro e w2 ⟨v,rfl,rfl,hS2⟩;clear hf;go_wp2;go_ret;rw [bF.out];exact ⟨_,rfl,rfl,hS2⟩
 ·rw [hb]at hf;have hlt:=(Seg.Log.Ce ha).1;have Hg:=uQ (show L.remove M n=if (M.remove (Seg.name n)).2=0 then ((L.without i,(M.remove (Seg.name n)).1),0) else ((L,(M.remove (Seg.name n)).1),(M.remove (Seg.name n)).2) by unfold Seg.Log.remove;rw [ha]);have hi0:(0:Int)≤(i:Int):=oQ;have hd:decide ((i:Int)<0)=false:=ac4 oQ;have bV:=uQ hlt;have jJ:=uQ hL.len;have TQ:=uQ hL.fresh;clear ha hb hL h hlt;go_enter Tryz.func37,Tryz.ntmps37;go_wp2_with fail;refine hok.mono ?_;rintro e w2 ⟨v,rfl,rfl,rfl⟩;clear hok;go_wp2_with fail;refine hf.mono ?_;rintro e w2 ⟨v,rfl,rfl,hS2⟩;clear hf;obtain ⟨lv,hR⟩:=aK.oW hS2;clear hS2;go_wp2_with fail;refine dS [6,7] (fun w'=>w'.cell? ⟨p,0,none⟩=some (ptr m)) au ?_;have hG:w2.drew.cell? ⟨p,0,none⟩=some (ptr m):=hR.drew.cellP bC 0 rfl;refine rP 0 ?_ (y:=aZ);refine rP 1 ?_ (y:=dV);refine rP 2 ?_ (y:=bW);refine rt 3 (h:=?_)
  refine rP 4 ?_ (y:=aZ);clear hG;refine bY 5 ak au (fun K hK=>?_)
  (refine oJ au ak ?_)
  refine (yQ n hR.drew).mono ?_;rintro e w3 ⟨v,rfl,rfl,hS3⟩;refine hK _ _ (.inr (.inl (hS3.cellP bC 0 rfl))) ?_;clear hK hR;refine bY 6 ak au (fun K hK=>?_)
  (refine gZ au ak ak ?_)
  refine (Du hM jW (Sat.pk aQ) _).mono ?_;rintro e w4 ⟨v,rfl,rfl,hS4⟩;refine hK _ _ (.inl rfl) ?_;clear hK hS3;refine rP 7 ?_ (y:=fZ);refine dI au ?_;clear hM;generalize M.remove (Seg.name n)=B at *
  obtain ⟨M2,e2⟩:=B;by_cases he:e2=0;rotate_left
  ·have heb:(e2==0)=false:=ahB he;have hfin:=uQ (Hg.out.trans (abA he));clear he;go_wp2_with fail;go_ret;rw [hfin.out];exact ⟨_,rfl,rfl,aK.shut2 (lv:=lv) (Sat.sb hS4)⟩
  subst he;have hfin:=uQ (Hg.out.trans (acr rfl));clear Hg;obtain ⟨la,lc,rfl⟩:∃ la lc,lv = .slice la L.l.length lc:=by
   obtain ⟨a,n',c,rfl,hn,_⟩:=Sat.rd (hS4.pk (A:=aB 105 2 lv (eF L.l)));rw [kT]at hn;exact ⟨a,c,by rw [show n'=L.l.length by omega]⟩
  have hw1:IntKind.i64.wrap ((L.l.length:Int) - 1)=(L.l.length:Int) - 1:=by rw [adL];have:=jJ.out;omega
  have hw2:IntKind.i64.wrap ((L.l.length:Int) - L.fresh)=(L.l.length:Int) - L.fresh:=by rw [adL];have:=jJ.out;have:=TQ.out;omega
  have hw3:IntKind.i64.wrap (L.fresh - 1)=L.fresh - 1:=by rw [adL];have:=jJ.out;have:=TQ.out;omega
  have hw4:IntKind.i64.wrap ((i:Int)+1)=(i:Int)+1:=by rw [adL];have:=jJ.out;have:=bV.out;omega
  have Es:=uQ (show (L.without i).on=if ((i:Int)==(L.l.length:Int) - 1)=true then false else L.on by
   unfold Seg.Log.without;simp only [ai7];have:=bV.out;by_cases hh:i+1=L.l.length
   ·rw [acr hh,acr oQ]
   ·rw [abA hh,abA oQ])
  have ny:=uQ (show (L.without i).fresh=if decide ((L.l.length:Int) - L.fresh≤(i:Int))=true then L.fresh - 1 else L.fresh by
   unfold Seg.Log.without;simp only [acF])
  have Hll:=uQ (show (L.without i).l=L.l.eraseIdx i∧(L.without i).limit=L.limit from ⟨rfl,rfl⟩);generalize L.without i=LW at *
  obtain ⟨ano,Wl,Won,Wfr⟩:=LW;obtain ⟨rfl,rfl⟩:=Hll.out;obtain rfl:=Es.out;obtain rfl:=ny.out;clear Es ny Hll;cases hb1:((i:Int)==(L.l.length:Int) - 1) <;> cases hb2:(decide ((L.l.length:Int) - L.fresh≤(i:Int)))
  all_goals
   go_wp2_with (first|((with_reducible refine bI ⟨?_⟩);refine gu aQ aj bC bJ ak au ?_)|((with_reducible refine cO ⟨?_⟩);refine fG aQ aj ak pQ eX bJ au aj ?_;intro wS hS))
   try have hS4:=hS
   have hG:(World.drew _).cell? ⟨p,2,none⟩=some (.slice la L.l.length lc)∧(World.drew _).cell? ⟨p,4,none⟩=some (.int .i64 L.fresh):=⟨hS4.drew.cellP bC 2 rfl,hS4.drew.cellP bC 4 rfl⟩;refine dS [10,11] (fun w'=>w'.cell? ⟨p,2,none⟩=some (.slice la L.l.length lc)∧w'.cell? ⟨p,4,none⟩=some (.int .i64 L.fresh)) au ?_;refine rP 0 ?_ (y:=aZ);refine rP 1 ?_ (y:=aZ);refine rP 2 ?_ (y:=dV);refine rP 3 ?_ (y:=bW);refine rt 4 (h:=?_);refine rP 5 ?_ (y:=(o8 ak bU));refine rP 6 ?_ (y:=aZ);refine rP 7 ?_ (y:=dV);refine rP 8 ?_ (y:=bW);refine rt 9 (h:=?_);refine rP 10 ?_ (y:=kM);refine rP 11 ?_ (y:=kM);refine dI au ?_;clear hG;have hS5:=hS4.drew;clear hS4;go_wp2_with (first|((with_reducible refine bI ⟨?_⟩);refine gu aQ aj bC bJ ak au ?_)|((with_reducible refine cO ⟨?_⟩);refine fG aQ aj ak pQ eX bJ au aj ?_;intro wS hS))
   refine (alb (lv:= .slice la L.l.length lc) L.l i bV.out jJ.out (Sat.pk aQ)).mono ?_;rintro e w6 ⟨v,rfl,da,dn,dc,rfl,hS6⟩;go_wp2_with ((with_reducible refine cO ⟨?_⟩);refine fG aQ aj ak pQ eX bJ au aj ?_;intro wS hS);go_ret;rw [hfin.out,hb1,hb2];simp only [anJ,anY,afy];exact ⟨_,rfl,rfl,aK.shut2 (lv:= .slice da dn dc) (Sat.sb hS)⟩
theorem J4 {L:Seg.Log}{M:ay} (h:M.Ok K) (n:Int):(L.remove M n).1.2.Ok (K+1):=by
 unfold Seg.Log.remove;split;· exact h.mono (ahD K)
 split <;> exact h.remove _
theorem aeg {L:Seg.Log}{M:ay} (hl:L.l.getLast?=some s) (hf:0<L.fresh):L.rollback M=if (L.remove M s.1).2=0 then Seg.Log.back (L.fresh.toNat - 1) (L.remove M s.1).1.1 (L.remove M s.1).1.2 else L.remove M s.1:=by
 unfold Seg.Log.rollback;obtain ⟨k,hk⟩:∃ k,L.fresh.toNat=k+1:=⟨L.fresh.toNat - 1,by omega⟩;rw [hk];show (match L.l.getLast? with|none=>_|some s=>_)=_;rw [hl];rfl
theorem ajU {L:Seg.Log}{M:ay} (hL:L.Ok) (hl:L.l.getLast?=some s) (hf:0<L.fresh) (h:(L.remove M s.1).2=0):(L.remove M s.1).1.1.fresh=L.fresh - 1:=by
 have ha:=hL.Nk hl;unfold Seg.Log.remove at *
 rw [ha]at h ⊢;simp only at h ⊢;split
 ·unfold Seg.Log.without;have:=hL.fresh;simp only;rw [acr oQ]
 ·rename_i hh;rw [abA hh]at h;exact absurd h hh
theorem YX (hL:L.Ok) (hM:M.Ok K) (jW:K+1048576≤1099511627776) (h:Sat w0 w (aK p m L::aJ m M::F)) :
  Calls Tryz.prog 36 #[ptr p] w (aP fun v w'=>v=errno (L.rollback M).2∧Sat w0 w' (aK p m (L.rollback M).1.1::aJ m (L.rollback M).1.2::F)):=by
 have hok:Calls Tryz.prog 45 #[ptr p] w (aP fun v w'=>v = .bool true∧w=w'):=by
  obtain ⟨lv,hR⟩:=aK.oW h;exact tu hR
 have Uy:=uQ (rfl:L.rollback M=L.rollback M);generalize hres:L.rollback M=RES at Uy ⊢;have Hq:=uQ (show L.rollback M=RES from hres);have hfl:L.fresh.toNat≤1048576:=by have:=hL.fresh;have:=hL.len;omega
 have hinit:Hid (∃ (L':Seg.Log) (M':ay) (K':Nat),L'.Ok∧M'.Ok K'∧K'+L'.fresh.toNat≤1099511627776∧L'.rollback M'=RES∧L'.fresh.toNat=L.fresh.toNat∧Sat w0 w (aK p m L'::aJ m M'::F)):=uQ ⟨L,M,K,hL,hM,by omega,hres,rfl,h⟩;clear hres Uy hL hM h Hq hfl;go_enter Tryz.func36,Tryz.ntmps36;go_wp2_with fail;refine hok.mono ?_;rintro e w2 ⟨v,rfl,rfl,rfl⟩;clear hok;go_wp2_with fail
 go_loopg [] L.fresh.toNat (fun g wr=>∃ (L':Seg.Log) (M':ay) (K':Nat),L'.Ok∧M'.Ok K'∧K'+L'.fresh.toNat≤1099511627776∧L'.rollback M'=RES∧L'.fresh.toNat=g∧Sat w0 wr (aK p m L'::aJ m M'::F))
 case atStart=>exact hinit.out
 case round=>
  obtain ⟨L1,M1,K1,hL,hM,Oo,hres,rfl,hS⟩:=hrel;clear hinit;by_cases hf:0<L1.fresh
  ·have hne:L1.l≠[]:=by intro e;have:=hL.fresh;rw [e]at this;simp at this;omega
   obtain ⟨s,hl⟩:∃ s,L1.l.getLast?=some s:=⟨_,List.getLast?_eq_some_getLast hne⟩;have hbl:=aeg (M:=M1) hl hf;rw [hres]at hbl;have lW:=uQ hbl;have Hrf:=uQ (ajU (M:=M1) hL hl hf);have HL2:=uQ (hL.remove M1 s.1);have uh:=uQ (J4 (L:=L1) hM s.1);have hrm:=Px hL hM oQ s.1 hS.drew;obtain ⟨lv,hR⟩:=aK.oW hS;have hlen:=hL.len;obtain ⟨bk,n,cap,cs,rfl,hb,c0,c1,hB⟩:=aa8 hl hR;have hn:=hb.len;have hn0:(n:Int)<(n:Int)+1:=oQ;have hwn:IntKind.i64.wrap (n:Int)=(n:Int):=by rw [adL];omega
   have e4:wr.cell? ⟨p,4,none⟩=some (.int .i64 L1.fresh):=hB.cellP bC 4 rfl;have hG:wr.drew.cell? ⟨p,2,none⟩=some (.slice (some ⟨bk,0,none⟩) (n+1) cap)∧wr.drew.cell? ⟨bk,n * 2,none⟩=some (.int .i64 s.1):=⟨hB.drew.cellP bC 2 rfl,hB.drew.cellP bC _ c0⟩;have Hf:=uQ (show 0<L1.fresh∧K1+L1.fresh.toNat≤1099511627776 from ⟨hf,Oo⟩);clear hbl hne hl hb c0 c1 hB hR hlen hn hres hL hM Oo;go_wp2_with fail;refine dS [14,15] (fun w'=>w'.cell? ⟨p,2,none⟩=some (.slice (some ⟨bk,0,none⟩) (n+1) cap)∧w'.cell? ⟨bk,n * 2,none⟩=some (.int .i64 s.1)) au ?_;refine rP 0 ?_ (y:=aZ);refine rP 1 ?_ (y:=aZ);refine rP 2 ?_ (y:=dV);refine rP 3 ?_ (y:=bW);refine rt 4 (h:=?_);refine rP 5 ?_ (y:=aZ);refine rP 6 ?_ (y:=dV);refine rP 7 ?_ (y:=bW);refine rt 8 (h:=?_);refine rP 9 ?_ (y:=(o8 ak bU));refine rP 10 ?_ (y:=kM);refine rP 11 ?_ (y:=jf);refine rP 12 ?_ (y:=bW)
   refine rt 13 (h:=?_);clear hG e4;refine bY 14 ak au (fun K hK=>?_)
   (refine gZ au ak ak ?_)
   refine hrm.mono ?_;rintro e w3 ⟨v,rfl,rfl,hS3⟩;refine hK _ _ (.inl rfl) ?_;clear hK hS hrm;refine rP 15 ?_ (y:=fZ);refine dI au ?_;generalize L1.remove M1 s.1=A at *
   obtain ⟨⟨L2,M2⟩,e2⟩:=A;by_cases he:e2=0
   ·subst he;have H1:=uQ (lW.out.trans (acr rfl));have H2:=uQ (show L2.fresh=L1.fresh - 1 from Hrf.out rfl);go_wp2_with fail
    go_roundg L2.fresh.toNat
    case measure=>have:=H2.out;have:=Hf.out;omega
    case rel=>
     refine ⟨L2,M2,K1+1,HL2.out,uh.out,?_,?_,rfl,hS3⟩
     ·have:=H2.out;have:=Hf.out;omega
     ·rw [H1.out];unfold Seg.Log.rollback
      congr 1
      have:=H2.out;have:=Hf.out;omega
   ·have heb:(e2==0)=false:=ahB he;have H1:=uQ (lW.out.trans (abA he));clear he;go_wp2_with fail;go_ret;rw [H1.out];exact ⟨_,rfl,rfl,hS3⟩
  ·have hz:L1.fresh.toNat=0:=by omega
   have H1:=uQ (show RES=(({ L1 with on:=false },M1),0) by
    rw [← hres];unfold Seg.Log.rollback;rw [hz];rfl)
   obtain ⟨lv,hR⟩:=aK.oW hS;have hle:L1.fresh≤0:=oQ;clear hres hL hM Oo hz hS;go_wp2_with (first|((with_reducible refine bI ⟨?_⟩);refine gu aQ aj bC bJ ak au ?_)|((with_reducible refine cO ⟨?_⟩);refine fG aQ aj ak pQ eX bJ au aj ?_;intro wS hS));go_ret;rw [H1.out];exact ⟨_,rfl,rfl,aK.shut2 (lv:=lv) (Sat.sb hS)⟩
end
end Go.Proofs.YtihngncbioofnaaGreatDoor
