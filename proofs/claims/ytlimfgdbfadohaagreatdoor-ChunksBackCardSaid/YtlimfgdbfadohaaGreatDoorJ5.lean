import Derived.Test.YtlimfgdbfadohaaGreatDoorJ4
import Derived.Test.YtlimfgdbfadohaaGreatDoorSort
import Derived.RangeFuncNested
import Derived.RangeFuncLeaves
import Derived.TacticsIn
import Derived.OrdersIn
namespace Go.Proofs.YtlimfgdbfadohaaGreatDoor
open Go Go.Sl Go.aB Go.MapKept Go.RowKit
section
variable {P : Program} {ops : Array Oper} {a : Act} {dst : Option Tmp} {t ty : TypeId} {pos : String} {after : Array Edge} {x y : Operand} {v vx vy : Value} {ad : Addr} {fl : Nat} {bo : BinOp} {tz : TypeId} {g : Option (Nat × Bool)}
theorem gmQ (hw : Region.wanted ⟨dst, .move x, t, pos, after, g⟩ (yielded ops a.tmps) = true := by rfl) (hx : a.eval x = v := by conv => lhs; whnf) : Yields P ops ⟨dst, .move x, t, pos, after, g⟩ v a := fV hw hx
end
end Go.Proofs.YtlimfgdbfadohaaGreatDoor
set_option linter.unusedVariables false
set_option maxHeartbeats 128000000
namespace Go.Proofs.YtlimfgdbfadohaaGreatDoor
open Go Go.Sl Go.aB Go.MapKept Go.RowKit
section
variable {w0 w:World}{F R:List aC}{p n gn d c:Nat}{sv v:Value}{k:ak.Bs}{s:List (Tab.Slot (Rep.dP))}{a:Option Addr}
theorem J6 (hl:0<s.length) (h:Sat w0 w (dR p 271 (.slice a s.length c) n gn::F)) :
  Calls Tryz.prog 198 #[ptr p] w (aI fun v w'=>v = .bool true∧w=w'):=by
 have e0:w.cell? ⟨p,0,none⟩=some (.slice a s.length c):=h.cellAt 0 _ rfl
 have c1:(0:Int)<(s.length:Int):=oQ
 go_enter Tryz.func198,Tryz.ntmps198
 go_wp2
 go_ret
 exact ⟨_,rfl,rfl,rfl⟩
set_option maxRecDepth 20000 in
theorem Em (g:Tab.Good s) (hc:s.length≤1073741824) (hk:k.length=32) (he:Tab.Ends s k d) (h:Sat w0 w (dR p 271 sv n gn::aF 300 38 sv (s.flatMap (slotL bf))::F)) :
  Calls Tryz.prog 199 #[ptr p,.agg (ay k).toArray] w (aI fun v w'=>∃ x,s[Tab.pos k s.length d]?=some x∧v = .tuple #[.int .i64 (Tab.pos k s.length d:Nat),.int .i64 ((d:Int)+1),.bool (decide (x.st=1))] ∧
   Sat w0 w' (dR p 271 sv n gn::aF 300 38 sv (s.flatMap (slotL bf))::F)):=by
 have Hk:=uQ hk;have HG:=uQ g;have HE:=uQ he;have Hc:=uQ hc
 have Hlen:=uQ (show ∀ x∈s,(slotL bf x).length=38 from fun x hx=>gB bf x (g.key x hx) 5 (rY _))
 obtain ⟨la,lc,rfl⟩:=jm Hlen.out (Sat.rd (h.pick aP)) aJ
 obtain ⟨j,hj,_⟩:=g.pow
 have wH:j<40:=by
  rcases Nat.lt_or_ge j 40 with q|q
  ·exact q
  ·have:2^40≤2^j:=Nat.pow_le_pow_right aJ q
   have zI:(2:Nat)^40=1099511627776:=by decide
   omega
 have Hj:=uQ hj;have vg:=uQ wH
 have Hd:=uQ (show d<s.length from he.lt)
 have hp0:0<s.length:=g.gZ
 have fZ:=uQ hp0
 have AA:=uQ (Tab.Kq (k:=k) hp0)
 clear hj wH hk g he hc hp0
 go_enter Tryz.func199,Tryz.ntmps199
 go_wp2_with ((with_reducible refine fH ⟨?_⟩);refine fO aQ aj aj ?_;intro bB wB hB)
 have hB1:=hB.drew
 clear hB
 refine dh [6,7] (fun w'=>w'.rangeAt bB 0 (ay k)∧w'.cell? ⟨p,0,none⟩=some (.slice la s.length lc)) au ?_
 have hG:World.rangeAt _ bB 0 (ay k)∧World.cell? _ ⟨p,0,none⟩=some (.slice la s.length lc):=⟨lV (hB1.pk (A:=pt bB (.cells (ay k).toArray 30 (0,0)))),hB1.cellP aY 0 rfl⟩
 refine dK 0 aj au bC (gu (b:=bB) (o:=0) (ay k) ah Tryz.underlying30 rfl (by rw [aU,Hk.out];kernel_rfl) (fun w hw=>hw.1)) aQ gQ ?_
 refine rP 1 ?_ (y:=aG)
 refine rP 2 ?_ (y:=dL)
 refine rP 3 ?_ (y:=cO)
 refine rt 4 (h:=?_)
 refine rP 5 ?_ (y:=(nG aj bT))
 clear hG
 have hh:=Je k Hk.out j vg.out hB1
 rw [← Hj.out]at hh
 refine bG 6 aj au (fun K hK=>?_)
 (refine eU au aj aj ?_)
 refine hh.mono ?_
 rintro ee w2 ⟨v,rfl,rfl,hS2⟩
 refine hK _ _ (.inl rfl) ?_
 clear hK hh hB1
 refine rP 7 ?_ (y:=dN)
 refine cu au ?_
 try simp only [jB]
 try go_frame
 rw [← AA.out]
 go_wp2_with fail
 go_loopg [7,8] d (fun g aq sq wr=>∃ e:Nat,g=d - e∧e≤d∧aq = .int .i64 (Tab.pos k s.length e:Nat)∧sq = .int .i64 ((e:Int)+1) ∧
  Sat w0 wr (pt bB (.cells (ay k).toArray 30 (0,0))::dR p 271 (.slice la s.length lc) n gn::aF 300 38 (.slice la s.length lc) (s.flatMap (slotL bf))::F))
 case atStart=>exact ⟨0,rfl,Nat.zero_le _,rfl,rfl,hS2.sb⟩
 case round=>
  obtain ⟨e,rfl,hed,rfl,rfl,hS⟩:=hrel
  clear hS2
  have hlt:=Tab.jS (k:=k) (d:=e) fZ.out
  have hdl:=Hd.out
  have hcl:=Hc.out
  obtain ⟨x,hx⟩:∃ x,s[Tab.pos k s.length e]?=some x:=⟨_,List.getElem?_eq_getElem hlt⟩
  have hxm:=List.mem_of_getElem? hx
  have hst:=HG.out.st x hxm
  have Hxk:=uQ (HG.out.key x hxm)
  obtain ⟨bk,off,c',hsv,hcell⟩:=mJ Hlen.out (Sat.rd (hS.pick dM)) hx aJ
  have nS:=uQ (Tab.Ko (k:=k) (d:=e) fZ.out)
  have vw:=uQ (DN (Tab.pos k s.length e+1) j oQ (by have:=vg.out;omega))
  have jM:=uQ (show e=d↔x.stop k from ⟨fun h=>by
    subst h
    obtain ⟨y,hy,hs⟩:=HE.out.here
    rw [hx]at hy;cases hy;exact hs,fun h=>by
    rcases Nat.lt_or_ge e d with q|q
    ·exact absurd ⟨x,hx,h⟩ (HE.out.no e q)
    ·omega⟩)
  have Hx:=uQ hx
  cases hsv
  have c0:(0:Int)≤((Tab.pos k s.length e:Nat):Int):=oQ
  have c1:((Tab.pos k s.length e:Nat):Int)<(s.length:Int):=oQ
  have c2:Tab.pos k s.length e<s.length:=hlt
  have e0:wr.cell? ⟨p,0,none⟩=some (.slice (some ⟨bk,off,none⟩) s.length lc):=hS.cellP aY 0 rfl
  have fA:=Hlen.out x hxm
  clear hx hxm
  have hq:bits .and .i64 (((Tab.pos k s.length e:Nat):Int)+1) ((s.length:Int) - 1)=((Tab.pos k s.length (e+1):Nat):Int):=by
   have h1:=vw.out
   rw [← Hj.out,nS.out]at h1
   rw [← h1]
   congr 1
   have:=fZ.out
   omega
  have hw1:IntKind.i64.wrap (((Tab.pos k s.length e:Nat):Int)+1)=((Tab.pos k s.length e:Nat):Int)+1:=IntWalk.i64_in _ oQ
  have hw2:IntKind.i64.wrap ((s.length:Int) - 1)=(s.length:Int) - 1:=IntWalk.i64_in _ oQ
  have hw3:IntKind.i64.wrap ((e:Int)+1+1)=(e:Int)+1+1:=IntWalk.i64_in _ oQ
  clear hdl hcl
  generalize hP1:Tab.pos k s.length (e+1)=P1 at hq
  have uT:=uQ hP1
  generalize hP:Tab.pos k s.length e=P0 at *
  have HP:=uQ hP
  clear hP1 hP hlt vw nS
  have uZ:=uQ hed
  clear hed
  go_wp2_with (with_reducible apply bI)
  refine ⟨gK hS ah aY bH aj au ?_⟩
  go_wp2_with (with_reducible apply bI)
  refine ⟨jw (b:=bk) (o:=off+P0 * 38) (slotL bf x) ah hcell Tryz.underlying300 rfl (by rw [fA];kernel_rfl) ?_⟩
  go_wp2_with (with_reducible apply dY)
  refine ⟨dS yQ hS rfl ?_⟩
  intro b9 w9 iT
  go_wp2_with (first|((with_reducible refine bU ⟨?_⟩);refine eH (slotL bf x).toArray iT ah ah (by rw [List.size_toArray,fA];rfl) bJ (by rw [List.size_toArray,fA];kernel_rfl) (by rw [List.toList_toArray];exact kJ bf x (xI _)) ?_;intro w10 bP)|(with_reducible apply bI))
  refine ⟨?_⟩
  clear hS iT hcell e0
  have f0:w10.cell? ⟨b9,0,none⟩=some (.int .i64 x.st):=bP.cellP aH 0 (by rw [List.getElem?_toArray];rfl)
  have f1:w10.rangeAt b9 1 (ay x.key):=qL (bP.pick aH)
  have f2:w10.cell? ⟨p,0,none⟩=some (.slice (some ⟨bk,off,none⟩) s.length lc):=bP.cellP aY 0 rfl
  have hend:Sat w0 w10 (pt bB (.cells (ay k).toArray 30 (0,0))::dR p 271 (.slice (some ⟨bk,off,none⟩) s.length lc) n gn::aF 300 38 (.slice (some ⟨bk,off,none⟩) s.length lc) (s.flatMap (slotL bf))::F):=bP.sb
  have h3:x.st=0∨x.st=1∨x.st=2:=oQ
  rcases h3 with h3|h3|h3
  ·have h4:e=d:=jM.out.2 (.inl h3)
   rw [h3]at f0
   have Hdx:=uQ (show decide (x.st=1)=false by rw [h3];rfl)
   have kT:=uQ (show (x.st:Int)=0 by rw [h3];rfl)
   clear jM hst h3 f1 f2 hq hw1 hw2 hw3 c0 c1 c2
   subst h4
   go_wp2_with fail
   have iR:=bP.drew
   clear bP
   refine dh [4,7] (fun w'=>w'.cell? ⟨b9,0,none⟩=some (.int .i64 0)) au ?_
   have hG:World.cell? _ ⟨b9,0,none⟩=some (.int .i64 0):=iR.cellP aH 0 (by rw [List.getElem?_toArray,← kT.out];rfl)
   clear f0
   refine rP 0 ?_ (y:=aG)
   refine rP 1 ?_ (y:=aG)
   refine rP 2 ?_ (y:=cO)
   refine rt 3 (h:=?_)
   refine rP 4 ?_ (y:=dB)
   refine rP 5 ?_ (y:=dN)
   refine rP 6 ?_ (y:=dN)
   refine rP 7 ?_ (y:=dN)
   refine cu au ?_
   clear hG
   try simp only [jB]
   try go_frame
   go_wp2_with fail
   go_ret3
   exact ⟨_,rfl,x,by rw [HP.out];exact Hx.out,by rw [HP.out,Hdx.out];rfl,iR.sb⟩
  ·have f3:w10.rangeAt bB 0 (ay k):=lV (bP.pk (A:=pt bB (.cells (ay k).toArray 30 (0,0))))
   have hkk:=pJ x.key k Hxk.out Hk.out
   rw [h3]at f0
   by_cases hxk:x.key=k
   ·have h4:e=d:=jM.out.2 (.inr ⟨h3,hxk⟩)
    have Hdx:=uQ (show decide (x.st=1)=true by rw [h3];rfl)
    have kT:=uQ (show (x.st:Int)=1 by rw [h3];rfl)
    rw [decide_eq_true hxk]at hkk
    clear jM hst h3 hxk hq hw1 hw2 hw3 c0 c1 c2 f2
    subst h4
    go_wp2_with (first
     |((with_reducible refine qw ⟨?_⟩);refine qO (o:=1) ah ah (ay x.key) _ f1 Tryz.underlying30 rfl (by rw [aU,Hxk.out];kernel_rfl) ?_)
     |((with_reducible refine qw ⟨?_⟩);refine qO (o:=0) ah ah (ay k) _ f3 Tryz.underlying30 rfl (by rw [aU,Hk.out];kernel_rfl) ?_))
    clear hkk f1 f3
    have iR:=bP.drew
    clear bP
    refine dh [4,7] (fun w'=>w'.cell? ⟨b9,0,none⟩=some (.int .i64 1)) au ?_
    have hG:World.cell? _ ⟨b9,0,none⟩=some (.int .i64 1):=iR.cellP aH 0 (by rw [List.getElem?_toArray,← kT.out];rfl)
    clear f0
    refine rP 0 ?_ (y:=aG)
    refine rP 1 ?_ (y:=aG)
    refine rP 2 ?_ (y:=cO)
    refine rt 3 (h:=?_)
    refine rP 4 ?_ (y:=dB)
    refine rP 5 ?_ (y:=dN)
    refine rP 6 ?_ (y:=dN)
    refine rP 7 ?_ (y:=dN)
    refine cu au ?_
    clear hG
    try simp only [jB]
    try go_frame
    go_wp2_with fail
    go_ret3
    exact ⟨_,rfl,x,by rw [HP.out];exact Hx.out,by rw [HP.out,Hdx.out];rfl,iR.sb⟩
   ·have h4:e<d:=by
     have:=uZ.out
     rcases Nat.lt_or_ge e d with q|q
     ·exact q
     ·exact absurd (jM.out.1 oQ) (fun h=>h.elim (fun h=>by omega) fun h=>hxk h.2)
    rw [decide_eq_false hxk]at hkk
    have H4:=uQ h4
    clear jM hst h3 hxk h4
    go_wp2_with (first
     |((with_reducible refine qw ⟨?_⟩);refine qO (o:=1) ah ah (ay x.key) _ f1 Tryz.underlying30 rfl (by rw [aU,Hxk.out];kernel_rfl) ?_)
     |((with_reducible refine qw ⟨?_⟩);refine qO (o:=0) ah ah (ay k) _ f3 Tryz.underlying30 rfl (by rw [aU,Hk.out];kernel_rfl) ?_))
    go_roundg (d - (e+1))
    case measure=>have:=H4.out;omega
    case rel=>exact ⟨e+1,rfl,H4.out,by rw [uT.out],by first|rfl|go_num,bP.sb⟩
  ·have h4:e<d:=by
    have:=uZ.out
    rcases Nat.lt_or_ge e d with q|q
    ·exact q
    ·exact absurd (jM.out.1 oQ) (fun h=>h.elim (fun h=>by omega) fun h=>by omega)
   rw [h3]at f0
   have H4:=uQ h4
   clear jM hst h3 f1 h4
   go_wp2_with fail
   go_roundg (d - (e+1))
   case measure=>have:=H4.out;omega
   case rel=>exact ⟨e+1,rfl,H4.out,by rw [uT.out],by first|rfl|go_num,bP.sb⟩
end
section
variable {w0 w:World}{F R:List aC}{p n gn d c:Nat}{sv v:Value}{k:ak.Bs}{s:List (Tab.Slot (Seg.bF))}{a:Option Addr}
theorem CJ (hl:0<s.length) (h:Sat w0 w (dR p 172 (.slice a s.length c) n gn::F)) :
  Calls Tryz.prog 81 #[ptr p] w (aI fun v w'=>v = .bool true∧w=w'):=by
 have e0:w.cell? ⟨p,0,none⟩=some (.slice a s.length c):=h.cellAt 0 _ rfl
 have c1:(0:Int)<(s.length:Int):=oQ
 go_enter Tryz.func81,Tryz.ntmps81
 go_wp2
 go_ret
 exact ⟨_,rfl,rfl,rfl⟩
set_option maxRecDepth 20000 in
theorem Bl (g:Tab.Good s) (hc:s.length≤1073741824) (hk:k.length=32) (he:Tab.Ends s k d) (h:Sat w0 w (dR p 172 sv n gn::aF 170 36 sv (s.flatMap (slotL aW))::F)) :
  Calls Tryz.prog 95 #[ptr p,.agg (ay k).toArray] w (aI fun v w'=>∃ x,s[Tab.pos k s.length d]?=some x∧v = .tuple #[.int .i64 (Tab.pos k s.length d:Nat),.int .i64 ((d:Int)+1),.bool (decide (x.st=1))] ∧
   Sat w0 w' (dR p 172 sv n gn::aF 170 36 sv (s.flatMap (slotL aW))::F)):=by
 have Hk:=uQ hk;have HG:=uQ g;have HE:=uQ he;have Hc:=uQ hc
 have Hlen:=uQ (show ∀ x∈s,(slotL aW x).length=36 from fun x hx=>gB aW x (g.key x hx) 3 (uG _))
 obtain ⟨la,lc,rfl⟩:=jm Hlen.out (Sat.rd (h.pick aP)) aJ
 obtain ⟨j,hj,_⟩:=g.pow
 have wH:j<40:=by
  rcases Nat.lt_or_ge j 40 with q|q
  ·exact q
  ·have:2^40≤2^j:=Nat.pow_le_pow_right aJ q
   have zI:(2:Nat)^40=1099511627776:=by decide
   omega
 have Hj:=uQ hj;have vg:=uQ wH
 have Hd:=uQ (show d<s.length from he.lt)
 have hp0:0<s.length:=g.gZ
 have fZ:=uQ hp0
 have AA:=uQ (Tab.Kq (k:=k) hp0)
 clear hj wH hk g he hc hp0
 go_enter Tryz.func95,Tryz.ntmps95
 go_wp2_with ((with_reducible refine fH ⟨?_⟩);refine fO aQ aj aj ?_;intro bB wB hB)
 have hB1:=hB.drew
 clear hB
 refine dh [6,7] (fun w'=>w'.rangeAt bB 0 (ay k)∧w'.cell? ⟨p,0,none⟩=some (.slice la s.length lc)) au ?_
 have hG:World.rangeAt _ bB 0 (ay k)∧World.cell? _ ⟨p,0,none⟩=some (.slice la s.length lc):=⟨lV (hB1.pk (A:=pt bB (.cells (ay k).toArray 30 (0,0)))),hB1.cellP aY 0 rfl⟩
 refine dK 0 aj au bC (gu (b:=bB) (o:=0) (ay k) ah Tryz.underlying30 rfl (by rw [aU,Hk.out];kernel_rfl) (fun w hw=>hw.1)) aQ gQ ?_
 refine rP 1 ?_ (y:=aG)
 refine rP 2 ?_ (y:=dL)
 refine rP 3 ?_ (y:=cO)
 refine rt 4 (h:=?_)
 refine rP 5 ?_ (y:=(nG aj bT))
 clear hG
 have hh:=Je k Hk.out j vg.out hB1
 rw [← Hj.out]at hh
 refine bG 6 aj au (fun K hK=>?_)
 (refine eU au aj aj ?_)
 refine hh.mono ?_
 rintro ee w2 ⟨v,rfl,rfl,hS2⟩
 refine hK _ _ (.inl rfl) ?_
 clear hK hh hB1
 refine rP 7 ?_ (y:=dN)
 refine cu au ?_
 try simp only [jB]
 try go_frame
 rw [← AA.out]
 go_wp2_with fail
 go_loopg [7,8] d (fun g aq sq wr=>∃ e:Nat,g=d - e∧e≤d∧aq = .int .i64 (Tab.pos k s.length e:Nat)∧sq = .int .i64 ((e:Int)+1) ∧
  Sat w0 wr (pt bB (.cells (ay k).toArray 30 (0,0))::dR p 172 (.slice la s.length lc) n gn::aF 170 36 (.slice la s.length lc) (s.flatMap (slotL aW))::F))
 case atStart=>exact ⟨0,rfl,Nat.zero_le _,rfl,rfl,hS2.sb⟩
 case round=>
  obtain ⟨e,rfl,hed,rfl,rfl,hS⟩:=hrel
  clear hS2
  have hlt:=Tab.jS (k:=k) (d:=e) fZ.out
  have hdl:=Hd.out
  have hcl:=Hc.out
  obtain ⟨x,hx⟩:∃ x,s[Tab.pos k s.length e]?=some x:=⟨_,List.getElem?_eq_getElem hlt⟩
  have hxm:=List.mem_of_getElem? hx
  have hst:=HG.out.st x hxm
  have Hxk:=uQ (HG.out.key x hxm)
  obtain ⟨bk,off,c',hsv,hcell⟩:=mJ Hlen.out (Sat.rd (hS.pick dM)) hx aJ
  have nS:=uQ (Tab.Ko (k:=k) (d:=e) fZ.out)
  have vw:=uQ (DN (Tab.pos k s.length e+1) j oQ (by have:=vg.out;omega))
  have jM:=uQ (show e=d↔x.stop k from ⟨fun h=>by
    subst h
    obtain ⟨y,hy,hs⟩:=HE.out.here
    rw [hx]at hy;cases hy;exact hs,fun h=>by
    rcases Nat.lt_or_ge e d with q|q
    ·exact absurd ⟨x,hx,h⟩ (HE.out.no e q)
    ·omega⟩)
  have Hx:=uQ hx
  cases hsv
  have c0:(0:Int)≤((Tab.pos k s.length e:Nat):Int):=oQ
  have c1:((Tab.pos k s.length e:Nat):Int)<(s.length:Int):=oQ
  have c2:Tab.pos k s.length e<s.length:=hlt
  have e0:wr.cell? ⟨p,0,none⟩=some (.slice (some ⟨bk,off,none⟩) s.length lc):=hS.cellP aY 0 rfl
  have fA:=Hlen.out x hxm
  clear hx hxm
  have hq:bits .and .i64 (((Tab.pos k s.length e:Nat):Int)+1) ((s.length:Int) - 1)=((Tab.pos k s.length (e+1):Nat):Int):=by
   have h1:=vw.out
   rw [← Hj.out,nS.out]at h1
   rw [← h1]
   congr 1
   have:=fZ.out
   omega
  have hw1:IntKind.i64.wrap (((Tab.pos k s.length e:Nat):Int)+1)=((Tab.pos k s.length e:Nat):Int)+1:=IntWalk.i64_in _ oQ
  have hw2:IntKind.i64.wrap ((s.length:Int) - 1)=(s.length:Int) - 1:=IntWalk.i64_in _ oQ
  have hw3:IntKind.i64.wrap ((e:Int)+1+1)=(e:Int)+1+1:=IntWalk.i64_in _ oQ
  clear hdl hcl
  generalize hP1:Tab.pos k s.length (e+1)=P1 at hq
  have uT:=uQ hP1
  generalize hP:Tab.pos k s.length e=P0 at *
  have HP:=uQ hP
  clear hP1 hP hlt vw nS
  have uZ:=uQ hed
  clear hed
  go_wp2_with (with_reducible apply bI)
  refine ⟨gK hS ah aY bH aj au ?_⟩
  go_wp2_with (with_reducible apply bI)
  refine ⟨jw (b:=bk) (o:=off+P0 * 36) (slotL aW x) ah hcell Tryz.underlying170 rfl (by rw [fA];kernel_rfl) ?_⟩
  go_wp2_with (with_reducible apply dY)
  refine ⟨dS Ag hS rfl ?_⟩
  intro b9 w9 iT
  go_wp2_with (first|((with_reducible refine bU ⟨?_⟩);refine eH (slotL aW x).toArray iT ah ah (by rw [List.size_toArray,fA];rfl) bJ (by rw [List.size_toArray,fA];kernel_rfl) (by rw [List.toList_toArray];exact kJ aW x (EW _)) ?_;intro w10 bP)|(with_reducible apply bI))
  refine ⟨?_⟩
  clear hS iT hcell e0
  have f0:w10.cell? ⟨b9,0,none⟩=some (.int .i64 x.st):=bP.cellP aH 0 (by rw [List.getElem?_toArray];rfl)
  have f1:w10.rangeAt b9 1 (ay x.key):=qL (bP.pick aH)
  have f2:w10.cell? ⟨p,0,none⟩=some (.slice (some ⟨bk,off,none⟩) s.length lc):=bP.cellP aY 0 rfl
  have hend:Sat w0 w10 (pt bB (.cells (ay k).toArray 30 (0,0))::dR p 172 (.slice (some ⟨bk,off,none⟩) s.length lc) n gn::aF 170 36 (.slice (some ⟨bk,off,none⟩) s.length lc) (s.flatMap (slotL aW))::F):=bP.sb
  have h3:x.st=0∨x.st=1∨x.st=2:=oQ
  rcases h3 with h3|h3|h3
  ·have h4:e=d:=jM.out.2 (.inl h3)
   rw [h3]at f0
   have Hdx:=uQ (show decide (x.st=1)=false by rw [h3];rfl)
   have kT:=uQ (show (x.st:Int)=0 by rw [h3];rfl)
   clear jM hst h3 f1 f2 hq hw1 hw2 hw3 c0 c1 c2
   subst h4
   go_wp2_with fail
   have iR:=bP.drew
   clear bP
   refine dh [4,7] (fun w'=>w'.cell? ⟨b9,0,none⟩=some (.int .i64 0)) au ?_
   have hG:World.cell? _ ⟨b9,0,none⟩=some (.int .i64 0):=iR.cellP aH 0 (by rw [List.getElem?_toArray,← kT.out];rfl)
   clear f0
   refine rP 0 ?_ (y:=aG)
   refine rP 1 ?_ (y:=aG)
   refine rP 2 ?_ (y:=cO)
   refine rt 3 (h:=?_)
   refine rP 4 ?_ (y:=dB)
   refine rP 5 ?_ (y:=dN)
   refine rP 6 ?_ (y:=dN)
   refine rP 7 ?_ (y:=dN)
   refine cu au ?_
   clear hG
   try simp only [jB]
   try go_frame
   go_wp2_with fail
   go_ret3
   exact ⟨_,rfl,x,by rw [HP.out];exact Hx.out,by rw [HP.out,Hdx.out];rfl,iR.sb⟩
  ·have f3:w10.rangeAt bB 0 (ay k):=lV (bP.pk (A:=pt bB (.cells (ay k).toArray 30 (0,0))))
   have hkk:=pJ x.key k Hxk.out Hk.out
   rw [h3]at f0
   by_cases hxk:x.key=k
   ·have h4:e=d:=jM.out.2 (.inr ⟨h3,hxk⟩)
    have Hdx:=uQ (show decide (x.st=1)=true by rw [h3];rfl)
    have kT:=uQ (show (x.st:Int)=1 by rw [h3];rfl)
    rw [decide_eq_true hxk]at hkk
    clear jM hst h3 hxk hq hw1 hw2 hw3 c0 c1 c2 f2
    subst h4
    go_wp2_with (first
     |((with_reducible refine qw ⟨?_⟩);refine qO (o:=1) ah ah (ay x.key) _ f1 Tryz.underlying30 rfl (by rw [aU,Hxk.out];kernel_rfl) ?_)
     |((with_reducible refine qw ⟨?_⟩);refine qO (o:=0) ah ah (ay k) _ f3 Tryz.underlying30 rfl (by rw [aU,Hk.out];kernel_rfl) ?_))
    clear hkk f1 f3
    have iR:=bP.drew
    clear bP
    refine dh [4,7] (fun w'=>w'.cell? ⟨b9,0,none⟩=some (.int .i64 1)) au ?_
    have hG:World.cell? _ ⟨b9,0,none⟩=some (.int .i64 1):=iR.cellP aH 0 (by rw [List.getElem?_toArray,← kT.out];rfl)
    clear f0
    refine rP 0 ?_ (y:=aG)
    refine rP 1 ?_ (y:=aG)
    refine rP 2 ?_ (y:=cO)
    refine rt 3 (h:=?_)
    refine rP 4 ?_ (y:=dB)
    refine rP 5 ?_ (y:=dN)
    refine rP 6 ?_ (y:=dN)
    refine rP 7 ?_ (y:=dN)
    refine cu au ?_
    clear hG
    try simp only [jB]
    try go_frame
    go_wp2_with fail
    go_ret3
    exact ⟨_,rfl,x,by rw [HP.out];exact Hx.out,by rw [HP.out,Hdx.out];rfl,iR.sb⟩
   ·have h4:e<d:=by
     have:=uZ.out
     rcases Nat.lt_or_ge e d with q|q
     ·exact q
     ·exact absurd (jM.out.1 oQ) (fun h=>h.elim (fun h=>by omega) fun h=>hxk h.2)
    rw [decide_eq_false hxk]at hkk
    have H4:=uQ h4
    clear jM hst h3 hxk h4
    go_wp2_with (first
     |((with_reducible refine qw ⟨?_⟩);refine qO (o:=1) ah ah (ay x.key) _ f1 Tryz.underlying30 rfl (by rw [aU,Hxk.out];kernel_rfl) ?_)
     |((with_reducible refine qw ⟨?_⟩);refine qO (o:=0) ah ah (ay k) _ f3 Tryz.underlying30 rfl (by rw [aU,Hk.out];kernel_rfl) ?_))
    go_roundg (d - (e+1))
    case measure=>have:=H4.out;omega
    case rel=>exact ⟨e+1,rfl,H4.out,by rw [uT.out],by first|rfl|go_num,bP.sb⟩
  ·have h4:e<d:=by
    have:=uZ.out
    rcases Nat.lt_or_ge e d with q|q
    ·exact q
    ·exact absurd (jM.out.1 oQ) (fun h=>h.elim (fun h=>by omega) fun h=>by omega)
   rw [h3]at f0
   have H4:=uQ h4
   clear jM hst h3 f1 h4
   go_wp2_with fail
   go_roundg (d - (e+1))
   case measure=>have:=H4.out;omega
   case rel=>exact ⟨e+1,rfl,H4.out,by rw [uT.out],by first|rfl|go_num,bP.sb⟩
end
def eF (p:Nat) (m:ak.Bs→Option (Rep.dP)) (B:Nat):aC:=fun h=>∃ (t:Tab.Tb (Rep.dP)) (sv:Value),(t.Ok∧t.Is m∧t.n+t.gone≤B)∧stars [dR p 271 sv t.n t.gone,aF 300 38 sv (t.slots.flatMap (slotL bf))] h
theorem Dt:iH Tryz.prog 214=some (.agg (bf ⟨0,Seg.bF.zero,0⟩).toArray):=by kernel_rfl
section
variable {w0 w:World}{F R:List aC}{p B:Nat}{sv v:Value}{k:ak.Bs}{m:ak.Bs→Option (Rep.dP)}{t:Tab.Tb (Rep.dP)}
theorem eF.open (h:Sat w0 w (eF p m B::F)):∃ (t:Tab.Tb (Rep.dP)) (sv:Value),(t.Ok∧t.Is m∧t.n+t.gone≤B)∧Sat w0 w (dR p 271 sv t.n t.gone::aF 300 38 sv (t.slots.flatMap (slotL bf))::F):=by
 obtain ⟨ha,x,hx,q,r,dd,rfl,⟨t,sv,hin,hp⟩,hq⟩:=h
 refine ⟨t,sv,hin,ha,_,hx,?_⟩
 show stars ([dR p 271 sv t.n t.gone,aF 300 38 sv (t.slots.flatMap (slotL bf))]++F) _
 rw [pX]
 exact ⟨q,r,dd,rfl,hp,hq⟩
theorem eF.shut (h1:t.Ok) (h2:t.Is m) (h3:t.n+t.gone≤B) (h:Sat w0 w (dR p 271 sv t.n t.gone::aF 300 38 sv (t.slots.flatMap (slotL bf))::F)):Sat w0 w (eF p m B::F):=
 Sat.join (M:=[dR p 271 sv t.n t.gone,aF 300 38 sv (t.slots.flatMap (slotL bf))]) h fun _ hx=>⟨t,sv,⟨h1,h2,h3⟩,hx⟩
theorem ab5 (h:Sat w0 w F):Calls Tryz.prog 121 #[] w (aI fun v w'=>∃ p,v=ptr p∧Sat w0 w' (eF p (fun _=>none) 0::F)):=by
 go_enter Tryz.func121,Tryz.ntmps121
 go_wp2_with (first
  |((with_reducible refine at_make ⟨?_⟩);refine Ae (e:=300) (sz:=38) (dX:=80) (n:=8) au yQ h ah ah aJ aJ ?_;intro bM wM hM)
  |((with_reducible refine fH ⟨?_⟩);refine fO hM aj aj ?_;intro bB wB hB))
 go_ret
 refine ⟨_,rfl,bB,rfl,?_⟩
 have e:(List.replicate 8 (slotL bf ⟨0,ak.zero32,nI⟩)).flatten=(List.replicate 8 (⟨0,ak.zero32,nI⟩:Tab.Slot (Rep.dP))).flatMap (slotL bf):=(zV 8 _).symm
 rw [e]at hB
 exact eF.shut (t:=⟨List.replicate 8 ⟨0,ak.zero32,nI⟩,0,0⟩) (Tab.JM aJ rfl) (Tab.JL rfl 0 0) (Nat.le_refl 0) hB
set_option maxRecDepth 20000 in
theorem ZO (hB:B≤268435000) (hk:k.length=32) (h:Sat w0 w (eF p m B::F)) :
  Calls Tryz.prog 164 #[ptr p,.agg (ay k).toArray] w (aI fun v w'=>v = .tuple #[.agg (bf ((m k).getD ⟨0,Seg.bF.zero,0⟩)).toArray,.bool (m k).isSome]∧Sat w0 w' (eF p m B::F)):=by
 obtain ⟨t,sv,⟨ok,is,hb⟩,hR⟩:=eF.open h
 obtain ⟨d,he⟩:=ok.ends k
 have hsz:t.slots.length≤1073741824:=by have:=ok.size;omega
 have Hlen:=uQ (show ∀ x∈t.slots,(slotL bf x).length=38 from fun x hx=>gB bf x (ok.good.key x hx) 5 (rY _))
 obtain ⟨la,lc,rfl⟩:=jm Hlen.out (Sat.rd (hR.pick aP)) aJ
 have Hk:=uQ hk;have bY:=uQ ok;have fF:=uQ is;have Hb:=uQ hb;have He:=uQ he;have dw:=uQ hsz
 have fZ:=uQ ok.good.gZ
 clear h hk ok is hb he hsz hB
 go_enter Tryz.func164,Tryz.ntmps164
 go_wp2_with (first|((with_reducible refine fH ⟨?_⟩);refine fO aQ aj aj ?_;intro bB wB hB)|(with_reducible apply dY))
 refine ⟨dS Dt hB rfl ?_⟩
 intro b4 w4 hS4
 go_wp2_with (with_reducible apply dY)
 refine ⟨dS Dt hS4 rfl ?_⟩
 intro b6 w6 hS6
 have jZ:Sat w0 w6 (dR p 271 (.slice la t.slots.length lc) t.n t.gone::pt b6 (.cells (bf nI).toArray 214 (0,0))::pt b4 (.cells (bf nI).toArray 214 (0,0))::pt bB (.cells (ay k).toArray 30 (0,0))::aF 300 38 (.slice la t.slots.length lc) (t.slots.flatMap (slotL bf))::F):=hS6.sb
 clear hB hS4 hS6 hR
 go_wp2_with fail
 refine (J6 fZ.out jZ).mono ?_
 rintro ee w7 ⟨v,rfl,rfl,rfl⟩
 go_wp2_with ((with_reducible refine bI ⟨?_⟩);refine fB jZ ah (aO (aO (aO aH))) Tryz.underlying30 rfl (by rw [List.size_toArray,aU,Hk.out];kernel_rfl) ?_)
 have hf:=Em bY.out.good dw.out Hk.out He.out (jZ.sb:Sat w0 w6 (dR p 271 (.slice la t.slots.length lc) t.n t.gone::aF 300 38 (.slice la t.slots.length lc) (t.slots.flatMap (slotL bf))::pt b6 (.cells (bf nI).toArray 214 (0,0))::pt b4 (.cells (bf nI).toArray 214 (0,0))::F))
 clear jZ
 refine hf.mono ?_
 rintro ee w8 ⟨v,rfl,x,hx,rfl,fG⟩
 clear hf
 obtain ⟨m1,m2⟩:=fF.out.some bY.out He.out hx
 have hxm:=List.mem_of_getElem? hx
 have hxk:=bY.out.good.key x hxm
 obtain ⟨bk,off,c',hsv,hcell⟩:=mJ Hlen.out (Sat.rd (fG.pick aP)) hx aJ
 cases hsv
 have hlt:=Tab.jS (k:=k) (d:=d) fZ.out
 have hval:∀ j v,(bf x.val)[j]?=some v→w8.cell? ⟨bk,off+Tab.pos k t.slots.length d * 38+33+j,none⟩=some v:=fun j v hj=>by
  rw [Nat.add_assoc _ 33 j]
  exact hcell (33+j) v (FB bf x hxk hj)
 clear hcell hx hxm
 generalize Tab.pos k t.slots.length d=P0 at *
 have c0:(0:Int)≤(P0:Int):=oQ
 have c1:(P0:Int)<(t.slots.length:Int):=oQ
 have e0:w8.cell? ⟨p,0,none⟩=some (.slice (some ⟨bk,off,none⟩) t.slots.length lc):=fG.cellP aY 0 rfl
 by_cases h1:x.st=1
 ·have hd:decide (x.st=1)=true:=decide_eq_true h1
  have Hm:=uQ (m1 h1)
  clear m1 m2 h1
  go_wp2_with (first
   |((with_reducible refine bI ⟨?_⟩);refine gK fG ah aY bH aj au ?_)
   |((with_reducible refine bI ⟨?_⟩);refine jw (b:=bk) (o:=off+P0 * 38+33) (bf x.val) ah hval Tryz.underlying214 rfl au ?_)
   |((with_reducible refine bU ⟨?_⟩);refine eH (bf x.val).toArray fG ah ah ah (fD (fD (fD bJ))) au ah ?_;intro w10 bP))
  refine ⟨rfl,_,kC rfl bP ah aY Tryz.underlying214 rfl au,_,rfl,?_,eF.shut bY.out fF.out Hb.out (bP.sb)⟩
  rw [Hm.out];rfl
 ·have hd:decide (x.st=1)=false:=decide_eq_false h1
  have Hm:=uQ (m2 h1)
  clear m1 m2 h1
  go_wp2_with (first
   |((with_reducible refine bI ⟨?_⟩);refine fB fG ah (aO (aO (aH (A:=pt b6 (.cells (bf nI).toArray 214 (0,0)))))) Tryz.underlying214 rfl au ?_)
   |((with_reducible refine bU ⟨?_⟩);refine eH (bf nI).toArray fG ah ah ah (fD (fD (fD bJ))) au ah ?_;intro w10 bP))
  refine ⟨rfl,_,kC rfl bP ah (aO (aO (aO aH))) Tryz.underlying214 rfl au,_,rfl,?_,eF.shut bY.out fF.out Hb.out (bP.sb)⟩
  rw [Hm.out];rfl
end
section
variable {w0 w:World}{F R:List aC}{p B N:Nat}{sv v:Value}{k:ak.Bs}{m:ak.Bs→Option (Rep.dP)}{t:Tab.Tb (Rep.dP)}
set_option maxRecDepth 20000 in
theorem adx (ok:t.Ok) (hN:t.n≤N) (hNb:N≤134217728) (Qw:t.slots.length≤1073741824) (h:Sat w0 w (dR p 271 sv t.n t.gone::aF 300 38 sv (t.slots.flatMap (slotL bf))::F)) :
  Calls Tryz.prog 200 #[ptr p,.int .i64 N] w (aI fun _ w'=>∃ s' sv',Tab.tV t s' N∧Sat w0 w' (dR p 271 sv' t.n 0::aF 300 38 sv' (s'.flatMap (slotL bf))::F)):=by
 have bY:=uQ ok;have HN:=uQ hN;have Mc:=uQ hNb
 have Hlen:=uQ (show ∀ x∈t.slots,(slotL bf x).length=38 from fun x hx=>gB bf x (ok.good.key x hx) 5 (rY _))
 obtain ⟨la,lc,rfl⟩:=jm Hlen.out (Sat.rd (h.pick aP)) aJ
 have hw0:IntKind.i64.wrap (2 * (N:Int))=2 * (N:Int):=IntWalk.i64_in _ oQ
 have QT:wrap64 (2 * (N:Int))=2 * (N:Int):=IntWalk.wrap64_in _ oQ
 clear ok hN
 go_enter Tryz.func200,Tryz.ntmps200
 go_wp2_with fail
 go_loopg [4] (4 * N) (fun g cq wr=>∃ c:Nat,g=4 * N+8 - c∧cq = .int .i64 c∧(∃ j,c=2^j∧3≤j)∧8≤c∧(c=8∨c<4 * N)∧wr=w)
 case atStart=>exact ⟨8,by omega,rfl,⟨3,rfl,Nat.le_refl 3⟩,Nat.le_refl 8,.inl rfl,rfl⟩
 case round=>
  obtain ⟨c,rfl,rfl,⟨j,hj,hj3⟩,hc8,hc,rfl⟩:=hrel
  by_cases hlt:c<2 * N
  ·have c1:(c:Int)<2 * (N:Int):=by omega
   have hw1:IntKind.i64.wrap ((c:Int) * 2)=(c:Int) * 2:=IntWalk.i64_in _ oQ
   have QU:wrap64 ((c:Int) * 2)=(c:Int) * 2:=IntWalk.wrap64_in _ oQ
   have Hj:=uQ hj;have Am:=uQ hj3;have dH:=uQ hlt;have rW:=uQ hc8
   clear hj hj3 hlt hc hc8
   go_wp2_with fail
   go_roundg (4 * N+8 - c * 2)
   case measure=>have:=dH.out;have:=rW.out;omega
   case rel=>exact ⟨c * 2,rfl,by first|rfl|go_num,⟨j+1,by rw [Nat.pow_succ,Hj.out],by have:=Am.out;omega⟩,by have:=rW.out;omega,.inr (by have:=dH.out;omega),rfl⟩
  ·have c1:¬ (c:Int)<2 * (N:Int):=by omega
   have HC:=uQ (show (∃ j,c=2^j∧3≤j)∧2 * N≤c∧8≤c∧(c=8∨c<4 * N) from ⟨⟨j,hj,hj3⟩,by omega,hc8,hc⟩)
   have hcb:c≤1073741824:=oQ
   have qR:=uQ hcb
   clear hj hj3 hlt hc hc8 hw0 hcb hNb
   go_wp2_with (first
    |((with_reducible refine bI ⟨?_⟩);refine gK h ah aY bH aj au ?_)
    |((with_reducible refine at_make ⟨?_⟩);refine Ae (e:=300) (sz:=38) (dX:=80) (n:=c) au yQ h ah ah (by have:=qR.out;omega) (by have:=qR.out;omega) ?_;intro bM wM hM)
    |((with_reducible refine bU ⟨?_⟩);refine eX aQ ah aj pQ eP bH au ah ?_;intro wS hS))
   have e8:(List.replicate c (slotL bf ⟨0,ak.zero32,nI⟩)).flatten=(List.replicate c (⟨0,ak.zero32,nI⟩:Tab.Slot (Rep.dP))).flatMap (slotL bf):=(zV c _).symm
   rw [e8]at hS
   have hS0:Sat w0 _ (dR p 271 (.slice (some ⟨bM,0,none⟩) c c) t.n 0::aF 300 38 (.slice (some ⟨bM,0,none⟩) c c) ((List.replicate c (⟨0,ak.zero32,nI⟩:Tab.Slot (Rep.dP))).flatMap (slotL bf))::aF 300 38 (.slice la t.slots.length lc) (t.slots.flatMap (slotL bf))::F):=hS.sb
   clear hS hM h e8 c1
   go_wp2_with fail
   go_loopg [31] t.slots.length (fun g iq wr=>∃ (i:Nat) (cur:List (Tab.Slot (Rep.dP))),g=t.slots.length - i∧i≤t.slots.length∧iq = .int .i64 i∧Tab.Half t.slots cur i∧cur.length=c ∧
    Sat w0 wr (dR p 271 (.slice (some ⟨bM,0,none⟩) c c) t.n 0::aF 300 38 (.slice (some ⟨bM,0,none⟩) c c) (cur.flatMap (slotL bf))::aF 300 38 (.slice la t.slots.length lc) (t.slots.flatMap (slotL bf))::F))
   case atStart=>exact ⟨0,_,rfl,Nat.zero_le _,rfl,Tab.half_start HC.out.1 aJ rfl,List.length_replicate,hS0⟩
   case round=>
    obtain ⟨i,cur,rfl,hi,rfl,hH,hcl,hS⟩:=hrel
    clear hS0
    have HH:=uQ hH;have gy:=uQ hcl
    by_cases hlt:i<t.slots.length
    rotate_left
    ·obtain rfl:i=t.slots.length:=by omega
     have c1:¬ (t.slots.length:Int)<(t.slots.length:Int):=oQ
     clear hlt hH hi
     go_wp2_with fail
     go_end0
     obtain ⟨q1,q2,q3,q4⟩:=HH.out.done
     exact ⟨_,rfl,cur,⟨q1,q2,q3.trans bY.out.n.symm,q4.trans bY.out.n.symm,by rw [gy.out];exact HC.out.2.1,by rw [gy.out];exact HC.out.2.2.1,by rw [gy.out];exact HC.out.2.2.2⟩,_,hS.sb⟩
    have c1:(i:Int)<(t.slots.length:Int):=oQ
    have hwi:=pU (i:=i)
    obtain ⟨x,hx⟩:∃ x,t.slots[i]?=some x:=⟨_,List.getElem?_eq_getElem hlt⟩
    have hxm:=List.mem_of_getElem? hx
    have hst:=bY.out.good.st x hxm
    have Hxk:=uQ (bY.out.good.key x hxm)
    obtain ⟨bk,off,c',hsv,hcell⟩:=mJ Hlen.out (Sat.rd (hS.pick dM)) hx aJ
    cases hsv
    have fA:=Hlen.out x hxm
    have Hx:=uQ hx;have dH:=uQ hlt
    clear hx hxm hlt hH hi
    go_wp2_with (first
     |((with_reducible refine bI ⟨?_⟩);refine jw (b:=bk) (o:=off+i * 38) (slotL bf x) ah hcell Tryz.underlying300 rfl (by rw [fA];kernel_rfl) ?_)
     |(with_reducible apply dY))
    refine ⟨dS yQ hS rfl ?_⟩
    intro b7 w7 hS7
    go_wp2_with (first|((with_reducible refine bU ⟨?_⟩);refine eH (slotL bf x).toArray hS7 ah ah (by rw [List.size_toArray,fA];rfl) bJ (by rw [List.size_toArray,fA];kernel_rfl) (by rw [List.toList_toArray];exact kJ bf x (xI _)) ?_;intro w10 bP)|(with_reducible apply bI))
    refine ⟨?_⟩
    clear hS hS7 hcell
    have f0:w10.cell? ⟨b7,0,none⟩=some (.int .i64 x.st):=bP.cellP aH 0 (by rw [List.getElem?_toArray];rfl)
    have f1:w10.rangeAt b7 1 (ay x.key):=qL (bP.pick aH)
    by_cases h1:x.st=1
    rotate_left
    ·have hst1:((x.st:Int)==1)=false:=by rw [beq_eq_false_iff_ne];omega
     have H1:=uQ h1
     clear h1 f1
     go_wp2_with fail
     go_roundg (t.slots.length - (i+1))
     case measure=>have:=dH.out;omega
     case rel=>exact ⟨i+1,cur,rfl,dH.out,by first|rfl|go_num,HH.out.skip Hx.out H1.out,gy.out,bP.sb⟩
    ·have hus:Tab.used cur<cur.length:=by
      have h2:=HH.out.nu
      have h3:=Tab.IC t.slots i
      have h4:=bY.out.n
      have h5:=HN.out
      have h6:=HC.out
      rw [gy.out];omega
     obtain ⟨dd,hdd⟩:=Tab.Ei (k:=x.key) HH.out.good (Tab.Eo hus)
     have H1:=uQ h1;have qh:=uQ hdd
     have hst1:((x.st:Int)==1)=true:=by rw [h1];rfl
     have uX:=uQ (show ∀ y∈cur,(slotL bf y).length=38 from fun y hy=>gB bf y (HH.out.good.key y hy) 5 (rY _))
     clear h1 hus hdd
     go_wp2_with ((with_reducible refine bI ⟨?_⟩);refine jw (b:=b7) (o:=1) (ay x.key) ah f1 Tryz.underlying30 rfl (by rw [aU,Hxk.out];kernel_rfl) ?_)
     have hf:=Em HH.out.good (by rw [gy.out];exact qR.out) Hxk.out qh.out (bP.sb:Sat w0 w10 (dR p 271 (.slice (some ⟨bM,0,none⟩) c c) t.n 0::aF 300 38 (.slice (some ⟨bM,0,none⟩) c c) (cur.flatMap (slotL bf))::pt b7 (.cells (slotL bf x).toArray 300 (0,0))::aF 300 38 (.slice (some ⟨bk,off,none⟩) t.slots.length lc) (t.slots.flatMap (slotL bf))::F))
     clear bP f0 f1
     refine hf.mono ?_
     rintro ee fU ⟨v,rfl,y,hy,rfl,iR⟩
     clear hf hy
     have hlt2:=Tab.jS (k:=x.key) (d:=dd) HH.out.good.gZ
     rw [gy.out]at hlt2
     have vG:=uQ (sU (f:=slotL bf) (k:=38) (i:=Tab.pos x.key cur.length dd) (x:=x) uX.out fA (Tab.jS HH.out.good.gZ))
     have vH:=uQ (HH.out.step bY.out.good Hx.out H1.out qh.out)
     rw [gy.out]at vG vH
     rw [gy.out]
     have hrl:(cur.flatMap (slotL bf)).length=38 * c:=by rw [jr uX.out,gy.out]
     generalize Tab.pos x.key c dd=P0 at *
     have c2:(0:Int)≤(P0:Int):=oQ
     have c3:(P0:Int)<(c:Int):=oQ
     go_wp2_with fail
     have hSd:=iR.drew
     clear iR
     refine dh [6,7] (fun w'=>w'.cell? ⟨p,0,none⟩=some (.slice (some ⟨bM,0,none⟩) c c)∧w'.rangeAt b7 0 (slotL bf x)) au ?_
     have hG:World.cell? _ ⟨p,0,none⟩=some (.slice (some ⟨bM,0,none⟩) c c)∧World.rangeAt _ b7 0 (slotL bf x):=⟨hSd.cellP aY 0 rfl,lV (hSd.pk (A:=pt b7 (.cells (slotL bf x).toArray 300 (0,0))))⟩
     refine rP 0 ?_ (y:=aG)
     refine rP 1 ?_ (y:=dL)
     refine rP 2 ?_ (y:=cO)
     refine rt 3 (h:=?_)
     refine rP 4 ?_ (y:=aG)
     refine dK 5 aj au bC (gu (b:=b7) (o:=0) (slotL bf x) ah Tryz.underlying300 rfl (by rw [fA];kernel_rfl) (fun w hw=>hw.2)) aQ gQ ?_
     refine rP 6 ?_ (y:=dZ)
     clear hG
     refine bG 7 aj au (fun K hK=>?_)
     refine sF (vs:=slotL bf x) (P0 * 38) hSd aj aj rfl (fD bJ) (by rw [fA,hrl];omega) (by rw [fA];kernel_rfl) (kJ bf x (xI _)) ?_
     intro w12 gq
     refine hK _ _ (.inl rfl) ?_
     clear hK hSd
     refine cu au ?_
     try simp only [jB]
     try go_frame
     rw [← vG.out]at gq
     go_wp2_with fail
     go_roundg (t.slots.length - (i+1))
     case measure=>have:=dH.out;omega
     case rel=>exact ⟨i+1,_,rfl,dH.out,by first|rfl|go_num,vH.out,by rw [List.length_set];exact gy.out,gq.sb⟩
end
theorem aeK (k:ak.Bs) (hk:k.length=32) (v:Rep.dP) (w:World) :
  (Instr.build 300 #[(0,.int .i64 1),(1,.agg (ay k).toArray),(2,.agg (bf v).toArray)]).run Tryz.prog w = .ok (.agg (slotL bf ⟨1,k,v⟩).toArray) w:=by
 have hbk:(ay k).toArray.size=32:=by rw [List.size_toArray,aU,hk]
 refine (run_build (P:=Tryz.prog) [(0,.int .i64 1),(1,.agg (ay k).toArray),(2,.agg (bf v).toArray)] acX yQ (by
  intro p' hp
  simp only [List.mem_cons,List.not_mem_nil,or_false]at hp
  have hzz:(Value.agg (slotL bf (⟨0,ak.zero32,nI⟩:Tab.Slot (Rep.dP))).toArray).cells.size=38:=by
   show (slotL bf (⟨0,ak.zero32,nI⟩:Tab.Slot (Rep.dP))).toArray.size=38
   rw [List.size_toArray,gB bf _ aJ 5 rfl]
  rw [hzz]
  rcases hp with rfl|rfl|rfl
  ·exact ⟨0,rfl,by show 0+1≤38;omega⟩
  ·refine ⟨1,?_,?_⟩
   ·show some (1,32)=some (1,(ay k).toArray.size);rw [hbk]
   ·show 1+(ay k).toArray.size≤38;omega
  ·exact ⟨33,rfl,by show 33+5≤38;omega⟩) w).trans ?_
 rw [show (Value.agg (slotL bf (⟨0,ak.zero32,nI⟩:Tab.Slot (Rep.dP))).toArray).cells=(slotL bf (⟨0,ak.zero32,nI⟩:Tab.Slot (Rep.dP))).toArray from rfl,Kv bf ⟨0,ak.zero32,nI⟩ k v aJ hk rfl 5 rfl]
section
variable {w0 w:World}{F R:List aC}{p B:Nat}{sv:Value}{k:ak.Bs}{m:ak.Bs→Option (Rep.dP)}
set_option maxRecDepth 20000 in
theorem ac3 (hB:B≤134217000) (hk:k.length=32) (v:Rep.dP) (h:Sat w0 w (eF p m B::F)) :
  Calls Tryz.prog 165 #[ptr p,.agg (ay k).toArray,.agg (bf v).toArray] w (aI fun _ w'=>Sat w0 w' (eF p (Tab.put m k v) (B+1)::F)):=by
 obtain ⟨t,sv,⟨ok,is,hb⟩,hR⟩:=eF.open h
 obtain ⟨d,he⟩:=ok.ends k
 have hsz:t.slots.length≤1073741824:=by have:=ok.size;omega
 have Hlen:=uQ (show ∀ x∈t.slots,(slotL bf x).length=38 from fun x hx=>gB bf x (ok.good.key x hx) 5 (rY _))
 obtain ⟨la,lc,rfl⟩:=jm Hlen.out (Sat.rd (hR.pick aP)) aJ
 have hrl:0<(t.slots.flatMap (slotL bf)).length:=by rw [jr Hlen.out];have:=ok.good.gZ;omega
 obtain ⟨bk,rfl⟩:=sO (hR.pick aP) hrl
 have Hk:=uQ hk;have bY:=uQ ok;have fF:=uQ is;have Hb:=uQ hb;have He:=uQ he;have dw:=uQ hsz;have HB:=uQ hB
 have fZ:=uQ ok.good.gZ
 have nR:=uQ (show (ay k).length=32 by rw [aU,hk])
 clear h hk ok is hb he hsz hB hrl
 go_enter Tryz.func165,Tryz.ntmps165
 go_wp2_with (with_reducible apply fH)
 refine ⟨fO hR aj aj ?_⟩
 intro b4 w4 hS4
 go_wp2_with (with_reducible apply fH)
 refine ⟨fO hS4 aj aj ?_⟩
 intro b5 w5 hS5
 have hA:Sat w0 w5 (dR p 271 (.slice (some ⟨bk,0,none⟩) t.slots.length lc) t.n t.gone::aF 300 38 (.slice (some ⟨bk,0,none⟩) t.slots.length lc) (t.slots.flatMap (slotL bf))::pt b4 (.cells (ay k).toArray 30 (0,0))::pt b5 (.cells (bf v).toArray 214 (0,0))::F):=hS5.sb
 clear hR hS4 hS5
 go_wp2_with fail
 refine (J6 fZ.out hA).mono ?_
 rintro ee w7 ⟨v',rfl,rfl,rfl⟩
 go_wp2_with ((with_reducible refine bI ⟨?_⟩);refine fB hA ah (aO (aO (aH (A:=pt b4 (.cells (ay k).toArray 30 (0,0)))))) Tryz.underlying30 rfl (by rw [List.size_toArray,nR.out];kernel_rfl) ?_)
 have hf:=Em bY.out.good dw.out Hk.out He.out hA
 clear hA
 refine hf.mono ?_
 rintro ee w8 ⟨v',rfl,x,hx,rfl,fG⟩
 clear hf
 have hlt:=Tab.jS (k:=k) (d:=d) fZ.out
 by_cases h1:x.st=1
 ·have hd:decide (x.st=1)=true:=decide_eq_true h1
  have hxm:=List.mem_of_getElem? hx
  have l9:=uQ (CX (f:=slotL bf) (k:=38) (o:=33) (x':=⟨x.st,x.key,v⟩) (vs:=bf v) Hlen.out hx (KY bf x v (bY.out.good.key x hxm) rfl) (by show 33+5≤38;decide))
  have lQ:=uQ (Tab.Ku bY.out He.out hx h1 v)
  have lN:=uQ (Tab.zJ fF.out (Tab.Fb bY.out.good He.out hx h1 v).2 t.n t.gone)
  have hrl:(t.slots.flatMap (slotL bf)).length=38 * t.slots.length:=jr Hlen.out
  clear hx hxm h1
  generalize Tab.pos k t.slots.length d=P0 at *
  have c0:(0:Int)≤(P0:Int):=oQ
  have c1:(P0:Int)<(t.slots.length:Int):=oQ
  go_wp2_with fail
  have hSd:=fG.drew
  clear fG
  refine dh [6,7,8] (fun w'=>w'.cell? ⟨p,0,none⟩=some (.slice (some ⟨bk,0,none⟩) t.slots.length lc)∧w'.rangeAt b5 0 (bf v)) au ?_
  have hG:World.cell? _ ⟨p,0,none⟩=some (.slice (some ⟨bk,0,none⟩) t.slots.length lc)∧World.rangeAt _ b5 0 (bf v):=⟨hSd.cellP aY 0 rfl,lV (hSd.pk (A:=pt b5 (.cells (bf v).toArray 214 (0,0))))⟩
  refine rP 0 ?_ (y:=aG)
  refine rP 1 ?_ (y:=dL)
  refine rP 2 ?_ (y:=cO)
  refine rt 3 (h:=?_)
  refine rP 4 ?_ (y:=aG)
  refine dK 5 aj au bC (gu (b:=b5) (o:=0) (bf v) ah Tryz.underlying214 rfl au (fun w hw=>hw.2)) aQ gQ ?_
  refine rP 6 ?_ (y:=dZ)
  refine rP 7 ?_ (y:=cO)
  clear hG
  refine bG 8 aj au (fun K hK=>?_)
  refine sF (vs:=bf v) (P0 * 38+33) hSd aj aj rfl (fD bJ) (by rw [hrl];show P0 * 38+33+5≤_;omega) au ah ?_
  intro w12 gq
  refine hK _ _ (.inl rfl) ?_
  clear hK hSd
  refine cu au ?_
  try simp only [jB]
  try go_frame
  rw [← l9.out]at gq
  go_wp2_with fail
  go_end0
  exact ⟨_,rfl,eF.shut (sv:= .slice (some ⟨bk,0,none⟩) t.slots.length lc) lQ.out lN.out (Nat.le_succ_of_le Hb.out) (gq.sb)⟩
 have hd:decide (x.st=1)=false:=decide_eq_false h1
 have hb4:=Hb.out
 have hB4:=HB.out
 have wL:=dw.out
 obtain ⟨hA1,hA2,hA3,wu,vX,vY,vZ,wz,wC⟩:=LJ t.n t.gone t.slots.length oQ wL
 have Hx:=uQ hx;have H1:=uQ h1
 clear hx h1 hb4 hB4 wL
 go_wp2_with fail
 have hSd:=fG.drew
 clear fG
 have e0:World.cell? _ ⟨p,0,none⟩=some (.slice (some ⟨bk,0,none⟩) t.slots.length lc):=hSd.cellP aY 0 rfl
 have e1:World.cell? _ ⟨p,1,none⟩=some (.int .i64 t.n):=hSd.cellP aY 1 rfl
 have e2:World.cell? _ ⟨p,2,none⟩=some (.int .i64 t.gone):=hSd.cellP aY 2 rfl
 go_region
 have hcmp:3 * t.slots.length<4 * (t.n+t.gone+1)∨4 * (t.n+t.gone+1)≤3 * t.slots.length:=oQ
 rcases hcmp with hcmp|hcmp
 focus
  have hci:(3:Int) * (t.slots.length:Int)<4 * ((t.n:Int)+(t.gone:Int)+1):=oQ
  have hrn:=adx (N:=t.n+1) bY.out (Nat.le_succ _) (by have:=Hb.out;have:=HB.out;omega) dw.out hSd
  rw [show (((t.n+1:Nat)):Int)=(t.n:Int)+1 by omega]at hrn
  clear hSd e0 e2
  go_wp2_with fail
  refine hrn.mono ?_
  rintro ee w9 ⟨v',rfl,s',sv',lG,iT⟩
  clear hrn e1 hci hcmp
  have hok1:=lG.ok
  have rC:=lG.is fF.out t.n 0
  have rD:4 * ((⟨s',t.n,0⟩:Tab.Tb (Rep.dP)).n+(⟨s',t.n,0⟩:Tab.Tb (Rep.dP)).gone+1)≤3 * (⟨s',t.n,0⟩:Tab.Tb (Rep.dP)).slots.length:=by have:=lG.lo;simp only;omega
  have hb1:(⟨s',t.n,0⟩:Tab.Tb (Rep.dP)).n+(⟨s',t.n,0⟩:Tab.Tb (Rep.dP)).gone≤B:=by have:=Hb.out;simp only;omega
  have bP:Sat w0 w9 (dR p 271 sv' (⟨s',t.n,0⟩:Tab.Tb (Rep.dP)).n (⟨s',t.n,0⟩:Tab.Tb (Rep.dP)).gone::aF 300 38 sv' ((⟨s',t.n,0⟩:Tab.Tb (Rep.dP)).slots.flatMap (slotL bf))::pt b4 (.cells (ay k).toArray 30 (0,0))::pt b5 (.cells (bf v).toArray 214 (0,0))::F):=iT
  clear iT lG hA1 hA2 hA3 wu vX vY vZ wz wC
  generalize (⟨s',t.n,0⟩:Tab.Tb (Rep.dP))=t1 at hok1 rC rD hb1 bP
  have oI:=uQ (show ∀ x∈t1.slots,(slotL bf x).length=38 from fun x hx=>gB bf x (hok1.good.key x hx) 5 (rY _))
  obtain ⟨Ce,oZ,rfl⟩:=jm oI.out (Sat.rd (bP.pick aP)) aJ
  have je:=uQ hok1;have oG:=uQ rC;have qV:=uQ rD;have Hb1:=uQ hb1
  obtain ⟨d1,he1⟩:=hok1.ends k
  have lC:=uQ he1
  have hno:m k=none:=by
   obtain ⟨_,q2⟩:=fF.out.some bY.out He.out Hx.out
   exact q2 H1.out
  have hsz1:t1.slots.length≤1073741824:=by have:=hok1.size;have:=HB.out;omega
  clear hok1 rC rD hb1 he1
  go_wp2_with ((with_reducible refine bI ⟨?_⟩);refine fB bP ah (aO (aO (aH (A:=pt b4 (.cells (ay k).toArray 30 (0,0)))))) Tryz.underlying30 rfl (by rw [List.size_toArray,nR.out];kernel_rfl) ?_)
  have hf:=Em je.out.good hsz1 Hk.out lC.out bP
  clear bP hsz1
  refine hf.mono ?_
  rintro ee Vh ⟨v',rfl,x1,hx1,rfl,hT⟩
  have oJ:=uQ hx1
  have oC:=uQ (show x1.st≠1 from fun h=>by
   have:=(oG.out.some je.out lC.out hx1).1 h
   rw [hno]at this;cases this)
  clear hf hx1 hno Hx H1 He bY fF Hlen fZ Hb dw hlt hd
  go_wp2_with fail
 rotate_left
 focus
  have hci:¬ (3:Int) * (t.slots.length:Int)<4 * ((t.n:Int)+(t.gone:Int)+1):=oQ
  have qV:=uQ hcmp
  clear e0 e1 e2 hcmp
  go_wp2_with fail
  clear hci hA1 hA2 hA3 wu vX vY vZ wz wC hlt hd fZ dw
  obtain ⟨t1,rfl⟩:∃ y,y=t:=⟨t,rfl⟩
  obtain ⟨x1,rfl⟩:∃ y,y=x:=⟨x,rfl⟩
  obtain ⟨d1,rfl⟩:∃ y,y=d:=⟨d,rfl⟩
  obtain ⟨Ce,wI⟩:∃ y:Option Addr,y=some ⟨bk,0,none⟩:=⟨_,rfl⟩
  obtain ⟨oZ,rfl⟩:∃ y,y=lc:=⟨lc,rfl⟩
  rw [← wI]at hSd
  have hT:=hSd
  have je:=uQ bY.out;have oG:=uQ fF.out;have Hb1:=uQ Hb.out;have lC:=uQ He.out;have oJ:=uQ Hx.out;have oC:=uQ H1.out;have oI:=uQ Hlen.out
  clear hSd bY fF Hb He Hx H1 Hlen wI
 all_goals
  have hrl:(t1.slots.flatMap (slotL bf)).length=38 * t1.slots.length:=jr oI.out
  obtain ⟨bk1,rfl⟩:=sO (hT.pick aP) (by rw [hrl];have:=je.out.good.gZ;omega)
  have l9:=uQ (sU (f:=slotL bf) (k:=38) (i:=Tab.pos k t1.slots.length d1) (x:=⟨1,k,v⟩) oI.out (gB bf _ Hk.out 5 rfl) (Tab.jS je.out.good.gZ))
  have lQ:=uQ (Tab.Kt je.out qV.out lC.out oJ.out oC.out Hk.out v)
  have lN:=uQ (Tab.zJ oG.out (Tab.CQ je.out.good lC.out oJ.out oC.out Hk.out v).2 (t1.n+1) t1.gone)
  have hlt1:=Tab.jS (k:=k) (d:=d1) je.out.good.gZ
  have hls:=gB bf (⟨1,k,v⟩:Tab.Slot (Rep.dP)) Hk.out 5 rfl
  have hwn:IntKind.i64.wrap ((t1.n:Int)+1)=(t1.n:Int)+1:=IntWalk.i64_in _ (by have:=Hb1.out;have:=HB.out;omega)
  clear oJ oC lC je oG qV
  generalize Tab.pos k t1.slots.length d1=P1 at *
  have c0:(0:Int)≤(P1:Int):=oQ
  have c1:(P1:Int)<(t1.slots.length:Int):=oQ
  have hSd:=hT.drew
  clear hT
  refine dh [8,9] (fun w'=>w'.cell? ⟨p,0,none⟩=some (.slice (some ⟨bk1,0,none⟩) t1.slots.length oZ)∧w'.rangeAt b4 0 (ay k)∧w'.rangeAt b5 0 (bf v)) au ?_
  have hG:World.cell? _ ⟨p,0,none⟩=some (.slice (some ⟨bk1,0,none⟩) t1.slots.length oZ)∧World.rangeAt _ b4 0 (ay k)∧World.rangeAt _ b5 0 (bf v):=⟨hSd.cellP aY 0 rfl,lV (hSd.pk (A:=pt b4 (.cells (ay k).toArray 30 (0,0)))),lV (hSd.pk (A:=pt b5 (.cells (bf v).toArray 214 (0,0))))⟩
  refine rP 0 ?_ (y:=aG)
  refine rP 1 ?_ (y:=dL)
  refine rP 2 ?_ (y:=cO)
  refine rt 3 (h:=?_)
  refine rP 4 ?_ (y:=aG)
  refine dK 5 aj au bC (gu (b:=b4) (o:=0) (ay k) ah Tryz.underlying30 rfl (by rw [nR.out];kernel_rfl) (fun w hw=>hw.2.1)) aQ gQ ?_
  refine dK 6 aj au bC (gu (b:=b5) (o:=0) (bf v) ah Tryz.underlying214 rfl au (fun w hw=>hw.2.2)) aQ gQ ?_
  refine rP 7 ?_ (y:=(F5 aj aj aj (fun w=>aeK k Hk.out v w)))
  refine rP 8 ?_ (y:=dZ)
  clear hG
  refine bG 9 aj au (fun K hK=>?_)
  refine sF (vs:=slotL bf ⟨1,k,v⟩) (P1 * 38) hSd aj aj rfl (fD bJ) (by rw [hrl,hls];omega) (by rw [hls];kernel_rfl) (kJ bf _ ah) ?_
  intro w12 gq
  refine hK _ _ (.inl rfl) ?_
  clear hK hSd
  refine cu au ?_
  try simp only [jB]
  try go_frame
  rw [← l9.out]at gq
  go_wp2_with (first
   |((with_reducible refine bI ⟨?_⟩);refine gK gq ah aY bH aj au ?_)
   |((with_reducible refine bU ⟨?_⟩);refine eX aQ ah aj pQ eP bH au ah ?_;intro wS hS))
  go_end0
  exact ⟨_,rfl,eF.shut (sv:= .slice (some ⟨bk1,0,none⟩) t1.slots.length oZ) lQ.out lN.out (by have:=Hb1.out;simp only;omega) (hS.sb)⟩
end
set_option maxRecDepth 20000 in
theorem Yy (x y:Tab.Slot (Rep.dP)) (hx:x.key.length=32) (hy:y.key.length=32) (W:World) :
  Calls Tryz.prog 235 #[.agg (slotL bf x).toArray,.agg (slotL bf y).toArray] W fun e w'=>e = .returned (.int .i64 (Lib.compareBytes x.key y.key))∧∃ q os',w'=Sort.grow (W.drewN q) os':=by
 have h0:=Sat.start W
 have h1:=h0.alloc (.cells (slotL bf x).toArray 300)
 have h2:=(h1.alloc (.cells (slotL bf y).toArray 300)).drew
 have hsz:(W.alloc (.cells (slotL bf x).toArray 300)).heap.size=W.heap.size+1:=Array.size_push ..
 rw [hsz]at h2
 have r1:bK 1 (.slice (some ⟨W.heap.size,1,none⟩) 32 32) (ay x.key) ((W.alloc (.cells (slotL bf x).toArray 300)).alloc (.cells (slotL bf y).toArray 300)).drew:=
  ⟨_,_,_,rfl,by rw [aU,hx],fun j z hj=>⟨_,rfl,by rw [y9];exact qL (h2.pick aP) j z hj⟩⟩
 have r2:bK 1 (.slice (some ⟨W.heap.size+1,1,none⟩) 32 32) (ay y.key) ((W.alloc (.cells (slotL bf x).toArray 300)).alloc (.cells (slotL bf y).toArray 300)).drew:=
  ⟨_,_,_,rfl,by rw [aU,hy],fun j z hj=>⟨_,rfl,by rw [y9];exact qL (h2.pick aH) j z hj⟩⟩
 have hb:=NK x.key y.key r1 r2
 clear h0 h1 h2 r1 r2 hsz
 generalize Lib.compareBytes x.key y.key=r at *
 go_enter Tryz.func235,Tryz.ntmps235
 go_wp2_with fail
 have hG:True:=trivial
 refine dh [] (fun w'=>True) au ?_
 refine rP 0 ?_ (y:=cO)
 refine rp 1 (hy:=(by (refine Or.inl ⟨by rfl,?_⟩;((intro wq;go_simp);first|done|exact wQ)))) (h:=?_)
 refine rP 2 ?_ (y:=cO)
 refine rp 3 (hy:=(by (refine Or.inl ⟨by rfl,?_⟩;((intro wq;go_simp);first|done|exact wQ)))) (h:=?_)
 refine bG 4 aj au (fun K hK=>?_)
 (refine eU au aj aj ?_)
 refine hb.mono ?_
 rintro e w' ⟨rfl,rfl⟩
 refine hK _ _ (.inr (.inr rfl)) ?_
 clear hK hb
 refine rP 5 ?_ (y:=dN)
 refine cu au ?_
 clear hG
 go_wp2_with fail
 go_ret
 exact ⟨rfl,1,#[.cells (slotL bf x).toArray 300,.cells (slotL bf y).toArray 300],by rw [Sort.alloc_eq_grow,Sort.alloc_eq_grow,Sort.grow_grow,Sort.drew_grow];rfl⟩
open Go.Sort
abbrev oL:Type:={ x:Tab.Slot (Rep.dP) // x.key.length=32 }
instance:Inhabited oL:=⟨⟨⟨0,ak.zero32,⟨0,Seg.bF.zero,0⟩⟩,rfl⟩⟩
section
variable {w0 w:World}{F:List aC}{v:Value}
theorem afs (l:List (Tab.Slot (Rep.dP))) (hk:∀ x∈l,x.key.length=32) (hn:l.length≤1073741824) (h:Sat w0 w (aF 300 38 v (l.flatMap (slotL bf))::F)) :
  Calls Tryz.prog 234 #[v,.func (.func 235) #[] #[]] w (aI fun _ w'=>∃ l':List (Tab.Slot (Rep.dP)),(l'.Perm l∧l'.Pairwise fun a b=>¬ b.key<a.key)∧Sat w0 w' (aF 300 38 v (l'.flatMap (slotL bf))::F)):=by
 have hlen:∀ x∈l,(slotL bf x).length=38:=fun x hx=>gB bf x (hk x hx) 5 (rY _)
 rcases h.jR with ⟨rfl,hn',h'⟩|⟨g,n,cap,cs,rfl,hl,hn',hc,hcm,htk,hp⟩
 ·obtain rfl:l=[]:=by
   cases l with
   |nil=>rfl
   |cons x l=>rw [List.flatMap_cons]at hn';have:=congrArg List.length hn';rw [List.length_append,hlen x (.head _)]at this;simp at this
  refine (AnyF.slices_SortFunc_none Tryz.sortA none 0 (.func (.func 235) #[] #[]) w).mono ?_
  rintro e w1 ⟨rfl,rfl⟩
  exact ⟨_,rfl,[],⟨.refl _,.nil⟩,h⟩
 ·rw [jr hlen,Nat.mul_comm]at hl
  obtain rfl:n=l.length:=(Nat.eq_of_mul_eq_mul_right aJ hl).symm
  let d:Array oL:=(l.attach.map fun x=>(⟨x.1,hk x.1 x.2⟩:oL)).toArray
  have hd:d.toList.map (·.1)=l:=by
   show (l.attach.map fun x=>(⟨x.1,hk x.1 x.2⟩:oL)).map (·.1)=l
   rw [List.map_map]
   exact List.attach_map_subtype_val l
  have hds:d.size=l.length:=by rw [← hd,List.length_map,Array.length_toList]
  have hke:∀ x:oL,((fun x:oL=>slotL bf x.1) x).length=38:=fun x=>gB bf x.1 x.2 5 (rY _)
  have hfl:∀ d:Array oL,(flatK (fun x:oL=>slotL bf x.1) 38 d).toList=(d.toList.map (·.1)).flatMap (slotL bf):=fun d=>by
   rw [Pm hke aJ,List.flatMap_map]
  have hH:HoldsK (fun x:oL=>slotL bf x.1) 38 w g 0 d:=QD hp.at (by rw [size_flatK,hds,hfl,hd];exact htk)
  refine (AnyQ.slices_SortFunc Tryz.sortA 38 Tryz.isAgg300 Tryz.sizeOf300 (fun x:oL=>slotL bf x.1) hke (fun x v hv=>List.all_eq_true.1 (kJ bf x.1 (xI _)) v hv) (fun x y=>Lib.compareBytes x.1.key y.1.key) (Tab.UU fun x:oL=>x.1.key) 235 #[] g 0 cap d w (fun args w=>by kernel_rfl) (fun m os dk _ x y=>Yy x.1 y.1 x.2 y.2 _) hH hp.lt oQ |> fun q=>(by rw [hds]at q;exact q:Calls Tryz.prog 234 #[.slice (some ⟨g,0,none⟩) l.length cap,.func (.func 235) #[] #[]] w _)).mono ?_
  rintro e w1 ⟨rfl,d',n',os,hpm,hst,rfl⟩
  obtain ⟨q1,q2⟩:=Tab.UE (key:=fun x:oL=>x.1.key) (by rw [hds];exact hpm) (by rw [hds];exact hst)
  have hl':d'.toList.length=l.length:=by rw [q1.length_eq,Array.length_toList,hds]
  have hS:=Ul (n:=n') (os:=os) hp (flatK (fun x:oL=>slotL bf x.1) 38 d')
  have hsz':(flatK (fun x:oL=>slotL bf x.1) 38 d').size=l.length * 38:=by rw [size_flatK,← Array.length_toList,hl']
  refine ⟨_,rfl,d'.toList.map (·.1),⟨by rw [← hd];exact q1.map _,List.pairwise_map.2 q2⟩,?_⟩
  refine hS.jV ?_ hn' (by simpa [Sort.putCells] using hc) hcm ?_
  ·rw [← hfl,Array.length_toList,hsz']
  ·rw [← hfl,← hsz']
   refine U2 _ ?_
   have:l.length * 38≤cap * 38:=Nat.mul_le_mul_right _ hn'
   omega
end
end Go.Proofs.YtlimfgdbfadohaaGreatDoor
namespace Go.Proofs.YtlimfgdbfadohaaGreatDoor
open Go Go.Sl Go.aB Go.MapKept Go.RowKit
section
variable {w0 w:World}{F R:List aC}{p B:Nat}{sv v:Value}{k:ak.Bs}{m:ak.Bs→Option (Rep.dP)}{t:Tab.Tb (Rep.dP)}
set_option maxRecDepth 20000 in
theorem adM (hB:B≤13000000) (h:Sat w0 w (eF p m B::F)) :
  Calls Tryz.prog 202 #[ptr p] w (aI fun v w'=>∃ l:List (Tab.Slot (Rep.dP)),(Tab.Lists m (l.map fun x=>(x.key,x.val))∧(∀ x∈l,x.st=1∧x.key.length=32)∧l.length≤B)∧Sat w0 w' (aF 300 38 v (l.flatMap (slotL bf))::eF p m B::F)):=by
 obtain ⟨t,sv,⟨ok,is,hb⟩,hR⟩:=eF.open h
 have hsz:t.slots.length≤56000000:=by have:=ok.size;omega
 have Hlen:=uQ (show ∀ x∈t.slots,(slotL bf x).length=38 from fun x hx=>gB bf x (ok.good.key x hx) 5 (rY _))
 obtain ⟨la,lc,rfl⟩:=jm Hlen.out (Sat.rd (hR.pick aP)) aJ
 have bY:=uQ ok;have fF:=uQ is;have Hb:=uQ hb;have dw:=uQ hsz;have fZ:=uQ ok.good.gZ
 clear h ok is hb hB
 have hS0:Sat w0 w (aF 300 38 (.slice none 0 0) []::dR p 271 (.slice la t.slots.length lc) t.n t.gone::aF 300 38 (.slice la t.slots.length lc) (t.slots.flatMap (slotL bf))::F):=Sat.fM.2 hR
 clear hR
 go_enter Tryz.func202,Tryz.ntmps202
 go_wp2_with fail
 refine (J6 fZ.out (hS0.pick aP)).mono ?_
 rintro ee w7 ⟨v,rfl,rfl,rfl⟩
 go_wp2_with ((with_reducible refine bI ⟨?_⟩);refine gK hS0 ah aY bH aj au ?_)
 go_loopg [3,14] t.slots.length (fun g oq iq wr=>∃ (i:Nat),g=t.slots.length - i∧i≤t.slots.length∧iq = .int .i64 i ∧
  Sat w0 wr (aF 300 38 oq (((t.slots.take i).filter fun x=>decide (x.st=1)).flatMap (slotL bf))::dR p 271 (.slice la t.slots.length lc) t.n t.gone::aF 300 38 (.slice la t.slots.length lc) (t.slots.flatMap (slotL bf))::F))
 case atStart=>exact ⟨0,rfl,Nat.zero_le _,rfl,hS0⟩
 case round=>
  obtain ⟨i,rfl,hi,rfl,hS⟩:=hrel
  clear hS0
  by_cases hlt:i<t.slots.length
  rotate_left
  ·obtain rfl:i=t.slots.length:=by omega
   have c1:¬ (t.slots.length:Int)<(t.slots.length:Int):=oQ
   rw [List.take_length]at hS
   have hfk:∀ x∈t.slots.filter fun x=>decide (x.st=1),x.key.length=32:=fun x hx=>bY.out.good.key x (List.mem_filter.1 hx).1
   have hs:=afs (t.slots.filter fun x=>decide (x.st=1)) hfk (Nat.le_trans (List.length_filter_le _ _) (Nat.le_trans hsz aJ)) hS
   clear hlt hi hS hfk
   go_wp2_with fail
   refine hs.mono ?_
   rintro ee w8 ⟨v,rfl,l,⟨h1,h2⟩,fG⟩
   clear hs
   have Hl:=uQ (Tab.Jz bY.out.good fF.out h1 h2)
   have Hll:=uQ (show l.length≤B from by
    rw [h1.length_eq,← List.countP_eq_length_filter]
    have e:t.slots.countP (fun x=>decide (x.st=1))=Tab.jg t.slots:=by
     unfold Tab.jg
     refine List.countP_congr fun x _=>?_
     simp
    have:=bY.out.n;have:=Hb.out;omega)
   clear h1 h2
   go_wp2_with fail
   go_ret
   exact ⟨_,rfl,l,⟨Hl.out.1,Hl.out.2,Hll.out⟩,Sat.Tc (eF.shut bY.out fF.out Hb.out (fG.sb))⟩
  have c1:(i:Int)<(t.slots.length:Int):=oQ
  have hwi:=pU (i:=i)
  obtain ⟨x,hx⟩:∃ x,t.slots[i]?=some x:=⟨_,List.getElem?_eq_getElem hlt⟩
  have hxm:=List.mem_of_getElem? hx
  have hst:=bY.out.good.st x hxm
  have Hxk:=uQ (bY.out.good.key x hxm)
  obtain ⟨bk,off,c',hsv,hcell⟩:=mJ Hlen.out (Sat.rd (hS.pick dM)) hx aJ
  cases hsv
  have fA:=Hlen.out x hxm
  have htk:(t.slots.take (i+1)).filter (fun x=>decide (x.st=1))=(t.slots.take i).filter (fun x=>decide (x.st=1))++[x].filter fun x=>decide (x.st=1):=by
   rw [List.take_add_one,hx,Option.toList_some,List.filter_append]
  have iM:=uQ htk
  have dH:=uQ hlt
  have Ja:(((t.slots.take i).filter fun x=>decide (x.st=1)).flatMap (slotL bf)).length≤2147483648:=by
   rw [jr fun y hy=>Hlen.out y (List.mem_of_mem_take (List.mem_filter.1 hy).1)]
   have h1:=List.length_filter_le (fun x=>decide (x.st=1)) (t.slots.take i)
   have h2:=List.length_take_le' i t.slots
   have h3:=dw.out
   omega
  clear hx hxm hlt hi htk
  go_wp2_with (first
   |((with_reducible refine bI ⟨?_⟩);refine jw (b:=bk) (o:=off+i * 38) (slotL bf x) ah hcell Tryz.underlying300 rfl (by rw [fA];kernel_rfl) ?_)
   |(with_reducible apply dY))
  refine ⟨dS yQ hS rfl ?_⟩
  intro b7 w7 hS7
  go_wp2_with (first|((with_reducible refine bU ⟨?_⟩);refine eH (slotL bf x).toArray hS7 ah ah (by rw [List.size_toArray,fA];rfl) bJ (by rw [List.size_toArray,fA];kernel_rfl) (by rw [List.toList_toArray];exact kJ bf x (xI _)) ?_;intro w10 bP)|(with_reducible apply bI))
  refine ⟨?_⟩
  clear hS hS7 hcell
  have f0:w10.cell? ⟨b7,0,none⟩=some (.int .i64 x.st):=bP.cellP aH 0 (by rw [List.getElem?_toArray];rfl)
  by_cases h1:x.st=1
  rotate_left
  ·have hst1:((x.st:Int)==1)=false:=by rw [beq_eq_false_iff_ne];omega
   have e9:(t.slots.take (i+1)).filter (fun x=>decide (x.st=1))=(t.slots.take i).filter (fun x=>decide (x.st=1)):=by
    rw [iM.out,List.filter_cons_of_neg (by rw [decide_eq_false h1];decide),List.filter_nil,List.append_nil]
   have E9:=uQ e9
   clear h1 e9
   go_wp2_with fail
   go_roundg (t.slots.length - (i+1))
   case measure=>have:=dH.out;omega
   case rel=>exact ⟨i+1,rfl,dH.out,by first|rfl|go_num,by rw [E9.out];exact bP.sb⟩
  ·have hst1:((x.st:Int)==1)=true:=by rw [h1];rfl
   have e9:((t.slots.take (i+1)).filter (fun x=>decide (x.st=1))).flatMap (slotL bf)=((t.slots.take i).filter (fun x=>decide (x.st=1))).flatMap (slotL bf)++slotL bf x:=by
    rw [iM.out,List.filter_cons_of_pos (by rw [decide_eq_true h1]),List.filter_nil,List.flatMap_append,List.flatMap_cons,List.flatMap_nil,List.append_nil]
   have E9:=uQ e9
   clear h1 e9
   go_wp2_with (first
    |((with_reducible refine bI ⟨?_⟩);refine fB bP ah aY Tryz.underlying300 rfl (by rw [List.size_toArray,fA];kernel_rfl) ?_)
    |(with_reducible apply kU))
   refine ⟨lu (e:=300) (sz:=38) (dX:=80) au bP ah (cs:=(slotL bf x).toArray) rfl (by rw [List.size_toArray,fA]) aJ ?_⟩
   intro bN wN hN
   go_wp2_with (with_reducible apply jf)
   refine ⟨lq 300 38 80 au hN ah ah aY aH (by rw [List.size_toArray,fA]) (Nat.le_refl 1) (by rw [List.toList_toArray];exact kJ bf x (xI _)) Ja (by rw [List.size_toArray,fA];decide) aJ (by rw [List.toList_toArray]) ?_⟩
   intro bA nA cA wA hA
   go_wp2_with fail
   rw [← E9.out]at hA
   go_roundg (t.slots.length - (i+1))
   case measure=>have:=dH.out;omega
   case rel=>exact ⟨i+1,rfl,dH.out,by first|rfl|go_num,hA.sb⟩
end
end Go.Proofs.YtlimfgdbfadohaaGreatDoor
namespace Go
open Go.Sl
variable {P:Program}{ops:Array Oper}{Q:Exit→Act→World→Prop}{K:Act→World→Prop}{l:Option Nat}{n:Nat}
abbrev rf (l:Option Nat):Fence:={ Fence.wide with round:=l }
abbrev calm (K:Act→World→Prop):Exit→Act→World→Prop:=Exit.then K fun _ _ _=>False
theorem Ic:¬ LetsOut (calm K):=fun ⟨_,_,h⟩=>h
theorem adZ {row:String}{args:Array Value}{w:World}{R:Value→World→Prop} (h:Rows P row args w R):RowsIn (rf l) n P row args w R:=fun c cs _=>by
 obtain ⟨v,w',r,s⟩:=h c cs
 exact ⟨v,w',r,stepsIn_wide.2 s⟩
theorem SK {o:Oper}{a:Act}{w:World}{N N':Act→World→Prop} (ho:∀ c,o.op ≠ .defer c) (hN:∀ a w,N a w→N' a w) (h:o.wp P a w N (calm K)):o.wpIn (rf l) n P a w N' Q:=by
 refine ⟨fun _ _=>trivial,?_⟩
 rw [Oper.semAt_eq _ _ _ ho]
 unfold Oper.wp at h
 generalize (execOp a.eval o).run P w=r at h ⊢
 cases r with
 |ok x w'=>
  cases x with
  |value v=>exact hN _ _ h
  |skip=>exact hN _ _ h
  |defer d=>exact hN _ _ h
  |enter f args=>
   refine ⟨(fun hd=>by cases hd),?_⟩
   refine CallsIn.mono (callsIn_wide.2 h) fun e w'' he=>?_
   cases e with
   |returned v=>exact hN _ _ he
   |panicked c=>exact False.elim he
   |outgrown=>exact (Ic he).elim
  |row row args=>exact ⟨(fun hd=>by cases hd),(adZ h).mono fun v w'' he=>hN _ _ he⟩
  |round l' f tmps assign body=>exact h.elim
  |_=>exact h.elim
 |halt x w'=>
  cases x with
  |panic v=>exact False.elim h
  |_=>exact h.elim
theorem Jy {yG:List Oper} (hK:∀ a w,K a w→wpListIn (rf l) n P ops Q yG a w):∀ (rest:List Oper) (a:Act) (w:World),(∀ o∈rest,∀ c,o.op ≠ .defer c)→wpList P ops (calm K) rest a w→wpListIn (rf l) n P ops Q (rest++yG) a w
 |[],a,w,_,h=>hK _ _ h
 |o::rest,a,w,hd,h=>by
  have ih:=Jy (yG:=yG) hK rest
  show if Region.wanted o (yielded ops a.tmps)=true then o.wpIn (rf l) n P a w (wpListIn (rf l) n P ops Q (rest++yG)) Q else (∀ f,o.about P w a.eval=some f→(rf l).fn f)∧wpListIn (rf l) n P ops Q (rest++yG) (a.put o.dst undef) w
  have h':if Region.wanted o (yielded ops a.tmps)=true then o.wp P a w (wpList P ops (calm K) rest) (calm K)∨(o.asks P a w∧LetsOut (calm K)) else wpList P ops (calm K) rest (a.put o.dst undef) w:=h
  split at h'
  ·rename_i hw
   rw [if_pos hw]
   rcases h' with h'|h'
   ·exact SK (hd o (.head _)) (fun a w h=>ih a w (fun o ho=>hd o (.tail _ ho)) h) h'
   ·exact (Ic h'.2).elim
  ·rename_i hw
   rw [if_neg hw]
   exact ⟨fun _ _=>trivial,ih _ _ (fun o ho=>hd o (.tail _ ho)) h'⟩
abbrev yD (ops:Array Oper):Bool:=ops.toList.all fun o=>match o.op with | .defer _=>false|_=>true
theorem JW (hd:yD ops=true):∀ o∈ops.toList,∀ c,o.op ≠ .defer c:=fun o ho c e=>by
 have:=(List.all_eq_true.1 hd) o ho
 rw [e]at this;cases this
theorem Rz {rest:List Oper}{a:Act}{w:World} (hd:∀ o∈rest,∀ c,o.op ≠ .defer c) (h:wpList P ops (calm (Q .normal)) rest a w):wpListIn (rf l) n P ops Q rest a w:=by
 have:=Jy (l:=l) (n:=n) (yG:=[]) (Q:=Q) (fun _ _ h=>h) rest a w hd h
 rw [List.append_nil]at this
 exact this
theorem adr {id:Nat}{a:Act}{w:World} (hd:yD ops=true) (h:wpList P ops (calm (Q .normal)) ops.toList a w):(Code.region id ops false).wpIn (rf l) n P Q a w:=
 wpIn_region_list (Rz (JW hd) h)
theorem DR (hd:∀ o∈ops.toList,∀ c,o.op ≠ .defer c):∀ (k:Nat) (ls:Array Bool) (a:Act) (w:World),wpAny P .any ops (calm (Q .normal)) k ls a w→wpAnyIn (rf l) n P .any ops Q k ls a w
 |0,_,_,_,h=>h
 |k+1,ls,a,w,h=>by
  refine ⟨h.1,fun i hi=>?_⟩
  have h':=h.2 i hi
  unfold wpOp at h'
  unfold wpOpIn
  split at h'
  ·rename_i he;simp only [he];exact DR hd k _ _ _ h'
  ·rename_i o he
   simp only [he]
   split at h'
   ·rename_i hw
    rw [if_pos hw]
    rcases h' with h'|h'
    ·refine SK (hd o ?_) (fun a w h=>DR hd k _ a w h) h'
     rw [← Array.getElem?_toList]at he
     exact List.mem_of_getElem? he
    ·exact (Ic h'.2).elim
   ·rename_i hw
    rw [if_neg hw]
    exact ⟨fun _ _=>trivial,DR hd k _ _ _ h'⟩
theorem ads {id:Nat}{a:Act}{w:World} (late:List Nat) (G:World→Prop) (hd:yD ops=true) (hm:P.follows .mixedOrders=true)
  (h:iK P ops (calm (Q .normal)) late G ops.size (Array.replicate ops.size false) a w.drew):(Code.region id ops true).wpIn (rf l) n P Q a w:=
 wpIn_region_any hm (DR (JW hd) _ _ _ _ (Lr _ _ _ _ h))
theorem sS {id:Nat}{rest:List Oper}{a:Act}{w:World} (hd:yD rest.toArray=true) (h:∀ K:Act→World→Prop,(∀ a w,Q .normal a w→K a w)→wpList P rest.toArray (Exit.then K fun _ _ _=>False) rest a w):(Code.region id rest.toArray false).wpIn (rf l) n P Q a w:=
 adr hd (by simpa using h _ fun _ _ h=>h)
theorem adt {id:Nat}{a:Act}{w:World} (late:List Nat) (G:World→Prop) (hd:yD ops=true) (hm:P.follows .mixedOrders=true)
  (h:∀ K:Act→World→Prop,(∀ a w,Q .normal a w→K a w)→iK P ops (Exit.then K fun _ _ _=>False) late G ops.size (Array.replicate ops.size false) a w.drew):(Code.region id ops true).wpIn (rf l) n P Q a w:=
 ads late G hd hm (h _ fun _ _ h=>h)
theorem adu {id:Nat}{a:Act}{w:World} (pre:List Oper) (o:Oper) (post:List Oper) (he:ops.toList=pre++o::post) (hd:yD ops=true)
  (h:wpList P ops (calm fun a w=>Region.wanted o (yielded ops a.tmps)=true∧∃ (l':Nat) (f:FuncId) (tmps:Array Value) (assign body:Code),(execOp a.eval o).run P w = .ok (.round l' f tmps assign body) w ∧
   RoundIn Fence.wide 0 P l' f tmps assign body w (fun e w'=>∃ v,e = .returned v∧wpList P ops (calm (Q .normal)) post (a.put o.dst v) w')) pre a w) :
  (Code.region id ops false).wp P Q a w:=by
 refine wpIn_wide (n:=0).1 (wpIn_region_list ?_)
 have hd':=JW hd
 rw [he]at hd' ⊢
 refine Jy (l:=none) (n:=0) (K:=_) (fun a w hk=>?_) pre a w (fun o ho=>hd' o (List.mem_append_left _ ho)) h
 obtain ⟨hw,l',f,tmps,assign,body,hx,hF,hc⟩:=hk
 show if Region.wanted o (yielded ops a.tmps)=true then o.wpIn (rf none) 0 P a w (wpListIn (rf none) 0 P ops Q post) Q else _
 rw [if_pos hw]
 refine ⟨fun _ _=>trivial,?_⟩
 rw [Oper.semAt_eq _ _ _ (hd' o (by simp)),hx]
 refine ⟨(fun hd=>by cases hd),hF,fun c cs hro=>?_⟩
 obtain ⟨e,w',⟨v,rfl,hv⟩,hs⟩:=hc c cs hro
 exact ⟨.returned v,w',Rz (l:=none) (n:=0) (fun o ho=>hd' o (List.mem_append_right _ (.tail _ ho))) hv,hs⟩
theorem TF {a:Act}{w:World}{id:Nat}{o0 o1 o2 o3 o4 o o6:Oper}{c:Code} (hd:yD #[o0,o1,o2,o3,o4,o,o6]=true)
  (h:∀ K:Act→World→Prop,(∀ a w,c.wp P Q a w→K a w)→wpList P #[o0,o1,o2,o3,o4,o,o6] (calm fun a w=>Region.wanted o (yielded #[o0,o1,o2,o3,o4,o,o6] a.tmps)=true∧∃ (l':Nat) (f:FuncId) (tmps:Array Value) (assign body:Code),(execOp a.eval o).run P w = .ok (.round l' f tmps assign body) w ∧
   RoundIn Fence.wide 0 P l' f tmps assign body w (fun e w'=>∃ v,e = .returned v∧wpList P #[o0,o1,o2,o3,o4,o,o6] (Exit.then K fun _ _ _=>False) [o6] (a.put o.dst v) w')) [o0,o1,o2,o3,o4] a w) :
  (Code.seq (Code.region id #[o0,o1,o2,o3,o4,o,o6] false) c).wp P Q a w:=
 wp_seq (adu [o0,o1,o2,o3,o4] o [o6] rfl hd (h _ fun _ _ h=>h))
end Go
namespace Go
open Go.Sl Go.RowKit
section
variable {P:Program}{w0 w:World}{F R L:List aC}{b:Nat}{o o':Obj}{kv:List (Array Value)}{A A':List aC}
theorem Sl.Sat.putObj (o':Obj) (h:Sat w0 w (pt b o::R)):Sat w0 (w.putObj b o') (pt b o'::R):=
 h.turn rfl rfl rfl (by rw [World.putObj_size];exact Nat.le_refl _) (World.putObj_heap_same h.lt) fun i hi _=>World.putObj_heap_other hi
theorem Sl.Sat.zf (h:Sat w0 w (L++R)):Sat w0 w (R++L):=h.perm List.perm_append_comm
def Iter (P:Program) (gf:Nat) (lb:Array Value) (kv:List (Array Value)) (w0:World) (A A':List aC):Prop:=
 ∀ (l:Nat) (R:List (Array Value)→List aC),
  (∀ pre x post W U,kv=pre++x::post→Sat w0 W (R pre++U)→∃ f tmps assign body,(Instr.yield l x).run P W = .ok (.round l f tmps assign body) W ∧
   RoundIn Fence.wide 0 P l f tmps assign body W (fun e W'=>e = .returned (.bool true)∧Sat w0 W' (R (pre++[x])++U))) →
  ∀ W,Sat w0 W (A++R [])→Calls P gf (#[.func (.yield l) #[] #[]]++lb) W (aI fun v W'=>Sat w0 W' (A'++R kv))
theorem Vu {g:Operand}{ps:Array Tmp}{assign body:Code}{Q:Exit→Act→World→Prop}{a:Act}{gf:Nat}{lb:Array Value}
  (hg:a.eval g = .func (.func gf) #[] lb) (eg:∀ args w,(callFunc gf args).run P w = .ok (.enter gf args) w)
  (hit:Iter P gf lb kv w0 A A') (hps:∀ x∈kv,x.size=ps.size) (R:List (Array Value)→List aC) (h:Sat w0 w (A++R []))
  (aay:∀ (l:Nat) (pre:List (Array Value)) (x:Array Value) (post:List (Array Value)) (U:List aC) (W:World),kv=pre++x::post→Sat w0 W (R pre++U) →
   ∀ T,T=(ps.zip x).foldl (fun t (p,v)=>t.setIfInBounds p v) a.tmps→assign.wpIn (rf (some l)) 0 P (Exit.then (fun a₁ w₁=>∃ M:List aC,Sat w0 w₁ (M++U)∧∀ U' w₂,Sat w0 w₂ (M++U')→body.wpIn (rf (some l)) 0 P (fun e _ w₃=>e = .normal∧Sat w0 w₃ (R (pre++[x])++U')) a₁ w₂) (fun _ _ _=>False))
    { tmps:=T,defers:=[] } W)
  (hdone:∀ D w',Sat w0 w' (A'++(R kv++[pt D (.deferred (some []))]))→Q .normal { a with defers:={ target:= .collected D,args:=#[] }::a.defers } w') :
  (Code.rangeFunc g ps assign body).wp P Q a w:=by
 refine (wpIn_wide (n:=0)).1 (wpIn_rangeFunc ?_)
 intro fn hfn
 obtain ⟨rec,hrec⟩:∃ rec:LoopState→Option Code→Loop,rec=fun st pe=>{ state:=st,pending:=pe,fn,tmps:=a.tmps,params:=ps,assign,body,defers:=w.heap.size }:=⟨_,rfl⟩
 obtain ⟨D,hD⟩:∃ D,D=w.heap.size:=⟨_,rfl⟩
 obtain ⟨l,hl⟩:∃ l,l=D+1:=⟨_,rfl⟩
 obtain ⟨W1,hW1⟩:∃ W1,W1=(w.alloc (.deferred (some []))).alloc (.loop (rec .ready none)):=⟨_,rfl⟩
 have hS1:Sat w0 W1 (pt l (.loop (rec .ready none))::pt D (.deferred (some []))::(A++R [])):=by
  have:=(h.alloc (.deferred (some []))).alloc (.loop (rec .ready none))
  rw [World.size_alloc,← hW1,← hD,← hl]at this
  exact this
 refine ⟨l,[{ target:= .collected D,args:=#[] }],W1,{ target:= .fn (.func gf) lb,args:=#[.func (.yield l) #[] #[]] },W1,gf,#[.func (.yield l) #[] #[]]++lb,W1,?_,?_,?_,?_,(fun h=>by cases h),?_⟩
 ·rw [hW1,hl,hD,hrec];exact run_enterLoop_outer _ _ _ _ _
 ·simp only [resolve,hg]
  simp [go_sem]
 ·intro f' _;trivial
 ·simp [invoke,go_sem,eg]
 ·refine callsIn_wide.2 ((hit l (fun pre=>R pre++[pt l (.loop (rec .ready none)),pt D (.deferred (some []))]) ?_ W1 ?_).mono ?_)
  ·intro pre x post W U hkv hS
   have hS':Sat w0 W (pt l (.loop (rec .ready none))::(R pre++(pt D (.deferred (some []))::U))):=by
    rw [List.append_assoc]at hS
    exact hS.perm List.perm_middle
   have hat:=hS'.at
   have hy:=run_yield (P:=P) (args:=x) hat (by rw [hrec];exact hps x (by rw [hkv];simp))
   refine ⟨_,_,_,_,hy,roundIn_of_wpIn trivial ?_⟩
   have hr:=aay l pre x post (pt D (.deferred (some []))::U++[pt l (.loop (rec .ready none))]) W hkv (hS'.perm (by
    rw [← List.cons_append,← List.append_assoc]
    exact (List.perm_append_comm (l₁:=[pt l (.loop (rec .ready none))]) (l₂:=R pre++(pt D (.deferred (some []))::U))))) _ rfl
   have e1:((rec .ready none).params.zip x).foldl (fun tmps (t,a)=>tmps.setIfInBounds t a) (rec .ready none).tmps=(ps.zip x).foldl (fun t (p,v)=>t.setIfInBounds p v) a.tmps:=by rw [hrec]
   rw [e1]
   have e2:(rec .ready none).assign=assign:=by rw [hrec]
   have e3:(rec .ready none).body=body:=by rw [hrec]
   rw [e2,e3]
   refine wpIn_mono hr ?_
   intro e a1 w1 he
   cases e with
   |normal=>
    obtain ⟨M,hM,hb⟩:=he
    have hM':Sat w0 w1 (pt l (.loop (rec .ready none))::(M++(pt D (.deferred (some []))::U))):=hM.perm (by
     rw [← List.append_assoc]
     exact List.perm_append_comm (l₁:=M++(pt D (.deferred (some []))::U)) (l₂:=[pt l (.loop (rec .ready none))]))
    have hM2:=hM'.putObj (.loop { rec .ready none with state:= .busy })
    refine ⟨_,run_beginRound hM'.at (by rw [hrec]),?_⟩
    refine wpIn_mono (hb (pt D (.deferred (some []))::U++[pt l (.loop { rec .ready none with state:= .busy })]) _ (hM2.perm (by
     rw [← List.cons_append,← List.append_assoc]
     exact (List.perm_append_comm (l₁:=[pt l (.loop { rec .ready none with state:= .busy })]) (l₂:=M++(pt D (.deferred (some []))::U)))))) ?_
    rintro e2 a2 w2 ⟨rfl,hS2⟩
    have hS3:Sat w0 w2 (pt l (.loop { rec .ready none with state:= .busy })::(R (pre++[x])++(pt D (.deferred (some []))::U))):=hS2.perm (by
     rw [← List.append_assoc]
     exact List.perm_append_comm (l₁:=R (pre++[x])++(pt D (.deferred (some []))::U)) (l₂:=[pt l (.loop { rec .ready none with state:= .busy })]))
    refine ⟨_,_,run_endRound none hS3.at,rfl,?_⟩
    have hS4:=hS3.putObj (.loop (rec .ready none))
    have e4:(Obj.loop { { rec .ready none with state:= .busy } with state:=if (none:Option Code).isNone then .ready else .done,pending:=none }) = .loop (rec .ready none):=by rw [hrec];rfl
    rw [e4]
    refine hS4.perm ?_
    rw [List.append_assoc]
    exact List.perm_middle.symm
   |exit id=>exact he.elim
   |goto t=>exact he.elim
   |ret=>exact he.elim
   |panic c=>exact he.elim
   |outgrown=>exact he.elim
  ·refine hS1.perm ?_
   rw [← List.append_assoc]
   exact (List.perm_append_comm (l₁:=[pt l (.loop (rec .ready none)),pt D (.deferred (some []))]) (l₂:=A++R []))
  ·rintro e W2 ⟨v,rfl,hS⟩
   have hS':Sat w0 W2 (pt l (.loop (rec .ready none))::(A'++(R kv++[pt D (.deferred (some []))]))):=hS.perm (by
    rw [← List.append_assoc,← List.append_assoc]
    exact List.perm_middle)
   refine ⟨none,_,by have:=run_endLoop (P:=P) hS'.at (by rw [hrec];simp);rw [show (rec .ready none).pending=none by rw [hrec]]at this;exact this,?_⟩
   exact hdone D _ (hS'.putObj _).drop
theorem Ru {fn:Func}{tmps:Array Value}{K:Ending→World→Prop}{D:Nat}{v:Value} (h:Sat w0 w (pt D (.deferred (some []))::F)) (hv:∀ w,(results fn tmps).run P w = .ok v w) (hK:∀ w',Sat w0 w' F→K (.returned v) w') :
  LeavesInM Fence.wide 0 P fn tmps K [{ target:= .collected D,args:=#[] }] .returning w:=
 ⟨by simp,.inl ⟨_,_,rfl,run_takeDeferred h.at,⟨_,hv _,hK _ ((h.putObj (.deferred none)).drop)⟩⟩⟩
def Ip (P:Program) (fn:Func) (K:Ending→World→Prop):Exit→Act→World→Prop
 |.normal,a,w | .ret,a,w=>LeavesInM Fence.wide 0 P fn a.tmps K a.defers .returning w
 |_,_,_=>False
theorem Oa {f:FuncId}{fn:Func}{c:Code}{args:Array Value}{K:Ending→World→Prop} (hf:P.funcs[f]?=some fn) (hb:fn.body=some c)
  (h:c.wp P (Ip P fn K) { tmps:=args++Array.replicate (fn.ntmps - args.size) undef,defers:=[] } w):Calls P f args w K:=
 (callsIn_wide (n:=0)).1 (callsIn_of_wp_marks hf hb trivial (wpIn_wide.2 (wp_mono h fun e a w he=>by
  cases e with
  |normal=>exact he
  |ret=>exact he
  |_=>exact he.elim)) rfl)
theorem Zb {fn:Func}{a:Act}{K:Ending→World→Prop}{D:Nat}{v:Value} (ha:a.defers=[{ target:= .collected D,args:=#[] }]) (h:Sat w0 w (pt D (.deferred (some []))::F)) (hv:∀ w,(results fn a.tmps).run P w = .ok v w)
  (hK:∀ w',Sat w0 w' F→K (.returned v) w'):Ip P fn K .normal a w:=by
 show LeavesInM Fence.wide 0 P fn a.tmps K a.defers .returning w
 rw [ha]
 exact Ru h hv hK
end
end Go
namespace Go.Proofs.YtlimfgdbfadohaaGreatDoor
open Go Go.Sl Go.aB Go.MapKept Go.RowKit
def oN (x:ak.Bs×Rep.dP):Array Value:=#[.agg (ay x.1).toArray,.agg (bf x.2).toArray]
section
variable {w0 w:World}{F:List aC}{p B:Nat}{m:ak.Bs→Option (Rep.dP)}
theorem XJ (h:Sat w0 w F):Calls Tryz.prog 166 #[ptr p] w
  (aI fun v w'=>∃ b,v = .func (.func 201) #[] #[ptr b]∧Sat w0 w' (pt b (.cells #[ptr p] 211 (0,0))::F)):=by
 go_enter Tryz.func166,Tryz.ntmps166
 go_wp2_with (first|((with_reducible refine fH ⟨?_⟩);refine fO aQ aj aj ?_;intro bB wB hB)|(with_reducible apply dY))
 go_ret
 exact ⟨_,rfl,bB,rfl,hB⟩
set_option maxRecDepth 20000 in
theorem XI {b:Nat}{l:List (ak.Bs×Rep.dP)} (hB:B≤13000000) (hl:Tab.Lists m l) :
  Iter Tryz.prog 201 #[ptr b] (l.map oN) w0 [eF p m B,pt b (.cells #[ptr p] 211 (0,0))] [eF p m B,pt b (.cells #[ptr p] 211 (0,0))]:=by
 intro ly R hY W hW
 have Hl:=uQ hl
 have hW0:Sat w0 W (eF p m B::pt b (.cells #[ptr p] 211 (0,0))::R []):=hW
 clear hW hl
 show Calls Tryz.prog 201 #[.func (.yield ly) #[] #[],ptr b] W _
 go_enter Tryz.func201,Tryz.ntmps201
 have hr:=adM hB hW0
 go_wp2_with ((with_reducible refine bI ⟨?_⟩);refine gK hW0 ah aY bH aj au ?_)
 clear hW0
 refine hr.mono ?_
 rintro ee w1 ⟨sv,rfl,s,⟨hs1,hs2,hs3⟩,hS1⟩
 clear hr
 have e0:l=s.map fun x=>(x.key,x.val):=Hl.out.unique hs1
 clear hs1 Hl
 subst e0
 have GN:=uQ hs2;have Xe:=uQ hs3
 have Hlen:=uQ (show ∀ x∈s,(slotL bf x).length=38 from fun x hx=>gB bf x (hs2 x hx).2 5 (rY _))
 obtain ⟨la,lc,rfl⟩:=jm Hlen.out (Sat.rd hS1) aJ
 have hsb:s.length≤13000000:=Nat.le_trans hs3 hB
 clear hs2 hs3 hB
 go_wp2_with fail
 go_loopg [8] s.length (fun g iq wr=>∃ (i:Nat),g=s.length - i∧i≤s.length∧iq = .int .i64 i ∧
  Sat w0 wr (aF 300 38 (.slice la s.length lc) (s.flatMap (slotL bf))::eF p m B::pt b (.cells #[ptr p] 211 (0,0))::R (((s.take i).map fun x=>(x.key,x.val)).map oN)))
 case atStart=>exact ⟨0,rfl,Nat.zero_le _,rfl,hS1⟩
 case round=>
  obtain ⟨i,rfl,hi,rfl,hS⟩:=hrel
  clear hS1
  by_cases hlt:i<s.length
  rotate_left
  ·obtain rfl:i=s.length:=by omega
   have c1:¬ (s.length:Int)<(s.length:Int):=oQ
   rw [List.take_length]at hS
   clear hlt hi
   go_wp2_with fail
   go_end0
   exact ⟨_,rfl,by rw [← List.map_map];exact hS.drop⟩
  have c1:(i:Int)<(s.length:Int):=oQ
  have hwi:=pU (i:=i)
  obtain ⟨x,hx⟩:∃ x,s[i]?=some x:=⟨_,List.getElem?_eq_getElem hlt⟩
  have hxm:=List.mem_of_getElem? hx
  have Hxk:=uQ (GN.out x hxm).2
  obtain ⟨bk,off,c',hsv,hcell⟩:=mJ Hlen.out (Sat.rd (hS.pick aH)) hx aJ
  cases hsv
  have fA:=Hlen.out x hxm
  have iM:=uQ (show s.take (i+1)=s.take i++[x] by rw [List.take_add_one,hx,Option.toList_some])
  have dH:=uQ hlt
  have yZ:=uQ (show (s.map fun x=>(x.key,x.val)).map oN=((s.take i).map fun x=>(x.key,x.val)).map oN++oN (x.key,x.val)::((s.drop (i+1)).map fun x=>(x.key,x.val)).map oN by
   have e:s=s.take i++x::s.drop (i+1):=by
    obtain ⟨h1,rfl⟩:=List.getElem?_eq_some_iff.1 hx
    rw [← List.drop_eq_getElem_cons h1,List.take_append_drop]
   conv=>lhs;rw [e]
   simp only [List.map_append,List.map_cons])
  clear hx hxm hlt hi
  go_wp2_with (first
   |((with_reducible refine bI ⟨?_⟩);refine jw (b:=bk) (o:=off+i * 38) (slotL bf x) ah hcell Tryz.underlying300 rfl (by rw [fA];kernel_rfl) ?_)
   |(with_reducible apply dY))
  refine ⟨dS yQ hS rfl ?_⟩
  intro b7 w7 hS7
  go_wp2_with ((with_reducible apply bU))
  refine ⟨eH (slotL bf x).toArray hS7 ah ah (by rw [List.size_toArray,fA];rfl) bJ (by rw [List.size_toArray,fA];kernel_rfl) (by rw [List.toList_toArray];exact kJ bf x (xI _)) ?_⟩
  intro w10 bP
  clear hS hS7 hcell
  have f1:w10.rangeAt b7 1 (ay x.key):=qL (bP.pick aH)
  have f2:w10.rangeAt b7 33 (bf x.val):=UD Hxk.out (bP.pick aH)
  have e1:=Tryz.underlying30
  have iR:Sat w0 w10 (R (((s.take i).map fun x=>(x.key,x.val)).map oN)++[aF 300 38 (.slice (some ⟨bk,off,none⟩) s.length lc) (s.flatMap (slotL bf)),eF p m B,pt b (.cells #[ptr p] 211 (0,0))]):=
   (bP.drop:Sat w0 w10 ([aF 300 38 (.slice (some ⟨bk,off,none⟩) s.length lc) (s.flatMap (slotL bf)),eF p m B,pt b (.cells #[ptr p] 211 (0,0))]++R (((s.take i).map fun x=>(x.key,x.val)).map oN))).zf
  obtain ⟨yf,yt,ya,yb,hy,hr⟩:=hY _ _ _ w10 _ yZ.out iR
  clear iR bP hY
  go_step
  go_step
  go_step
  refine TF ah ?_
  intro K hK
  go_wp2_with (first
   |((with_reducible refine bI ⟨?_⟩);refine jw (b:=b7) (o:=1) (ay x.key) ah f1 e1 rfl (by rw [aU,Hxk.out];kernel_rfl) ?_)
   |((with_reducible refine bI ⟨?_⟩);refine jw (b:=b7) (o:=33) (bf x.val) ah f2 Tryz.underlying214 rfl au ?_))
  refine ⟨_,yf,yt,ya,yb,hy,hr.mono ?_⟩
  rintro ee w12 ⟨rfl,gq⟩
  refine ⟨_,rfl,?_⟩
  have nK:Sat w0 w12 (aF 300 38 (.slice (some ⟨bk,off,none⟩) s.length lc) (s.flatMap (slotL bf))::eF p m B::pt b (.cells #[ptr p] 211 (0,0))::R (((s.take (i+1)).map fun x=>(x.key,x.val)).map oN)):=by
   have:=gq.zf
   rw [iM.out,List.map_append,List.map_append]
   exact this
  clear gq hr hy f1 f2
  go_wp2_with fail
  go_roundg (s.length - (i+1))
  case measure=>have:=dH.out;omega
  case rel=>exact ⟨i+1,rfl,dH.out,by first|rfl|go_num,nK⟩
end
def aZ (p:Nat) (m:ak.Bs→Option (Seg.bF)) (B:Nat):aC:=fun h=>∃ (t:Tab.Tb (Seg.bF)) (sv:Value),(t.Ok∧t.Is m∧t.n+t.gone≤B)∧stars [dR p 172 sv t.n t.gone,aF 170 36 sv (t.slots.flatMap (slotL aW))] h
theorem qP:iH Tryz.prog 107=some (.agg (aW Seg.bF.zero).toArray):=by kernel_rfl
section
variable {w0 w:World}{F R:List aC}{p B:Nat}{sv v:Value}{k:ak.Bs}{m:ak.Bs→Option (Seg.bF)}{t:Tab.Tb (Seg.bF)}
theorem aZ.open (h:Sat w0 w (aZ p m B::F)):∃ (t:Tab.Tb (Seg.bF)) (sv:Value),(t.Ok∧t.Is m∧t.n+t.gone≤B)∧Sat w0 w (dR p 172 sv t.n t.gone::aF 170 36 sv (t.slots.flatMap (slotL aW))::F):=by
 obtain ⟨ha,x,hx,q,r,dd,rfl,⟨t,sv,hin,hp⟩,hq⟩:=h
 refine ⟨t,sv,hin,ha,_,hx,?_⟩
 show stars ([dR p 172 sv t.n t.gone,aF 170 36 sv (t.slots.flatMap (slotL aW))]++F) _
 rw [pX]
 exact ⟨q,r,dd,rfl,hp,hq⟩
theorem aZ.shut (h1:t.Ok) (h2:t.Is m) (h3:t.n+t.gone≤B) (h:Sat w0 w (dR p 172 sv t.n t.gone::aF 170 36 sv (t.slots.flatMap (slotL aW))::F)):Sat w0 w (aZ p m B::F):=
 Sat.join (M:=[dR p 172 sv t.n t.gone,aF 170 36 sv (t.slots.flatMap (slotL aW))]) h fun _ hx=>⟨t,sv,⟨h1,h2,h3⟩,hx⟩
theorem ab7 (h:Sat w0 w F):Calls Tryz.prog 119 #[] w (aI fun v w'=>∃ p,v=ptr p∧Sat w0 w' (aZ p (fun _=>none) 0::F)):=by
 go_enter Tryz.func119,Tryz.ntmps119
 go_wp2_with (first
  |((with_reducible refine at_make ⟨?_⟩);refine Ae (e:=170) (sz:=36) (dX:=64) (n:=8) au Ag h ah ah aJ aJ ?_;intro bM wM hM)
  |((with_reducible refine fH ⟨?_⟩);refine fO hM aj aj ?_;intro bB wB hB))
 go_ret
 refine ⟨_,rfl,bB,rfl,?_⟩
 have e:(List.replicate 8 (slotL aW ⟨0,ak.zero32,nJ⟩)).flatten=(List.replicate 8 (⟨0,ak.zero32,nJ⟩:Tab.Slot (Seg.bF))).flatMap (slotL aW):=(zV 8 _).symm
 rw [e]at hB
 exact aZ.shut (t:=⟨List.replicate 8 ⟨0,ak.zero32,nJ⟩,0,0⟩) (Tab.JM aJ rfl) (Tab.JL rfl 0 0) (Nat.le_refl 0) hB
set_option maxRecDepth 20000 in
theorem IE (hB:B≤268435000) (hk:k.length=32) (h:Sat w0 w (aZ p m B::F)) :
  Calls Tryz.prog 63 #[ptr p,.agg (ay k).toArray] w (aI fun v w'=>v = .tuple #[.agg (aW ((m k).getD Seg.bF.zero)).toArray,.bool (m k).isSome]∧Sat w0 w' (aZ p m B::F)):=by
 obtain ⟨t,sv,⟨ok,is,hb⟩,hR⟩:=aZ.open h
 obtain ⟨d,he⟩:=ok.ends k
 have hsz:t.slots.length≤1073741824:=by have:=ok.size;omega
 have Hlen:=uQ (show ∀ x∈t.slots,(slotL aW x).length=36 from fun x hx=>gB aW x (ok.good.key x hx) 3 (uG _))
 obtain ⟨la,lc,rfl⟩:=jm Hlen.out (Sat.rd (hR.pick aP)) aJ
 have Hk:=uQ hk;have bY:=uQ ok;have fF:=uQ is;have Hb:=uQ hb;have He:=uQ he;have dw:=uQ hsz
 have fZ:=uQ ok.good.gZ
 clear h hk ok is hb he hsz hB
 go_enter Tryz.func63,Tryz.ntmps63
 go_wp2_with (first|((with_reducible refine fH ⟨?_⟩);refine fO aQ aj aj ?_;intro bB wB hB)|(with_reducible apply dY))
 refine ⟨dS qP hB rfl ?_⟩
 intro b4 w4 hS4
 go_wp2_with (with_reducible apply dY)
 refine ⟨dS qP hS4 rfl ?_⟩
 intro b6 w6 hS6
 have jZ:Sat w0 w6 (dR p 172 (.slice la t.slots.length lc) t.n t.gone::pt b6 (.cells (aW nJ).toArray 107 (0,0))::pt b4 (.cells (aW nJ).toArray 107 (0,0))::pt bB (.cells (ay k).toArray 30 (0,0))::aF 170 36 (.slice la t.slots.length lc) (t.slots.flatMap (slotL aW))::F):=hS6.sb
 clear hB hS4 hS6 hR
 go_wp2_with fail
 refine (CJ fZ.out jZ).mono ?_
 rintro ee w7 ⟨v,rfl,rfl,rfl⟩
 go_wp2_with ((with_reducible refine bI ⟨?_⟩);refine fB jZ ah (aO (aO (aO aH))) Tryz.underlying30 rfl (by rw [List.size_toArray,aU,Hk.out];kernel_rfl) ?_)
 have hf:=Bl bY.out.good dw.out Hk.out He.out (jZ.sb:Sat w0 w6 (dR p 172 (.slice la t.slots.length lc) t.n t.gone::aF 170 36 (.slice la t.slots.length lc) (t.slots.flatMap (slotL aW))::pt b6 (.cells (aW nJ).toArray 107 (0,0))::pt b4 (.cells (aW nJ).toArray 107 (0,0))::F))
 clear jZ
 refine hf.mono ?_
 rintro ee w8 ⟨v,rfl,x,hx,rfl,fG⟩
 clear hf
 obtain ⟨m1,m2⟩:=fF.out.some bY.out He.out hx
 have hxm:=List.mem_of_getElem? hx
 have hxk:=bY.out.good.key x hxm
 obtain ⟨bk,off,c',hsv,hcell⟩:=mJ Hlen.out (Sat.rd (fG.pick aP)) hx aJ
 cases hsv
 have hlt:=Tab.jS (k:=k) (d:=d) fZ.out
 have hval:∀ j v,(aW x.val)[j]?=some v→w8.cell? ⟨bk,off+Tab.pos k t.slots.length d * 36+33+j,none⟩=some v:=fun j v hj=>by
  rw [Nat.add_assoc _ 33 j]
  exact hcell (33+j) v (FB aW x hxk hj)
 clear hcell hx hxm
 generalize Tab.pos k t.slots.length d=P0 at *
 have c0:(0:Int)≤(P0:Int):=oQ
 have c1:(P0:Int)<(t.slots.length:Int):=oQ
 have e0:w8.cell? ⟨p,0,none⟩=some (.slice (some ⟨bk,off,none⟩) t.slots.length lc):=fG.cellP aY 0 rfl
 by_cases h1:x.st=1
 ·have hd:decide (x.st=1)=true:=decide_eq_true h1
  have Hm:=uQ (m1 h1)
  clear m1 m2 h1
  go_wp2_with (first
   |((with_reducible refine bI ⟨?_⟩);refine gK fG ah aY bH aj au ?_)
   |((with_reducible refine bI ⟨?_⟩);refine jw (b:=bk) (o:=off+P0 * 36+33) (aW x.val) ah hval Tryz.underlying107 rfl au ?_)
   |((with_reducible refine bU ⟨?_⟩);refine eH (aW x.val).toArray fG ah ah ah (fD (fD (fD bJ))) au ah ?_;intro w10 bP))
  refine ⟨rfl,_,kC rfl bP ah aY Tryz.underlying107 rfl au,_,rfl,?_,aZ.shut bY.out fF.out Hb.out (bP.sb)⟩
  rw [Hm.out];rfl
 ·have hd:decide (x.st=1)=false:=decide_eq_false h1
  have Hm:=uQ (m2 h1)
  clear m1 m2 h1
  go_wp2_with (first
   |((with_reducible refine bI ⟨?_⟩);refine fB fG ah (aO (aO (aH (A:=pt b6 (.cells (aW nJ).toArray 107 (0,0)))))) Tryz.underlying107 rfl au ?_)
   |((with_reducible refine bU ⟨?_⟩);refine eH (aW nJ).toArray fG ah ah ah (fD (fD (fD bJ))) au ah ?_;intro w10 bP))
  refine ⟨rfl,_,kC rfl bP ah (aO (aO (aO aH))) Tryz.underlying107 rfl au,_,rfl,?_,aZ.shut bY.out fF.out Hb.out (bP.sb)⟩
  rw [Hm.out];rfl
end
section
variable {w0 w:World}{F R:List aC}{p B N:Nat}{sv v:Value}{k:ak.Bs}{m:ak.Bs→Option (Seg.bF)}{t:Tab.Tb (Seg.bF)}
set_option maxRecDepth 20000 in
theorem TJ (ok:t.Ok) (hN:t.n≤N) (hNb:N≤134217728) (Qw:t.slots.length≤1073741824) (h:Sat w0 w (dR p 172 sv t.n t.gone::aF 170 36 sv (t.slots.flatMap (slotL aW))::F)) :
  Calls Tryz.prog 141 #[ptr p,.int .i64 N] w (aI fun _ w'=>∃ s' sv',Tab.tV t s' N∧Sat w0 w' (dR p 172 sv' t.n 0::aF 170 36 sv' (s'.flatMap (slotL aW))::F)):=by
 have bY:=uQ ok;have HN:=uQ hN;have Mc:=uQ hNb
 have Hlen:=uQ (show ∀ x∈t.slots,(slotL aW x).length=36 from fun x hx=>gB aW x (ok.good.key x hx) 3 (uG _))
 obtain ⟨la,lc,rfl⟩:=jm Hlen.out (Sat.rd (h.pick aP)) aJ
 have hw0:IntKind.i64.wrap (2 * (N:Int))=2 * (N:Int):=IntWalk.i64_in _ oQ
 have QT:wrap64 (2 * (N:Int))=2 * (N:Int):=IntWalk.wrap64_in _ oQ
 clear ok hN
 go_enter Tryz.func141,Tryz.ntmps141
 go_wp2_with fail
 go_loopg [4] (4 * N) (fun g cq wr=>∃ c:Nat,g=4 * N+8 - c∧cq = .int .i64 c∧(∃ j,c=2^j∧3≤j)∧8≤c∧(c=8∨c<4 * N)∧wr=w)
 case atStart=>exact ⟨8,by omega,rfl,⟨3,rfl,Nat.le_refl 3⟩,Nat.le_refl 8,.inl rfl,rfl⟩
 case round=>
  obtain ⟨c,rfl,rfl,⟨j,hj,hj3⟩,hc8,hc,rfl⟩:=hrel
  by_cases hlt:c<2 * N
  ·have c1:(c:Int)<2 * (N:Int):=by omega
   have hw1:IntKind.i64.wrap ((c:Int) * 2)=(c:Int) * 2:=IntWalk.i64_in _ oQ
   have QU:wrap64 ((c:Int) * 2)=(c:Int) * 2:=IntWalk.wrap64_in _ oQ
   have Hj:=uQ hj;have Am:=uQ hj3;have dH:=uQ hlt;have rW:=uQ hc8
   clear hj hj3 hlt hc hc8
   go_wp2_with fail
   go_roundg (4 * N+8 - c * 2)
   case measure=>have:=dH.out;have:=rW.out;omega
   case rel=>exact ⟨c * 2,rfl,by first|rfl|go_num,⟨j+1,by rw [Nat.pow_succ,Hj.out],by have:=Am.out;omega⟩,by have:=rW.out;omega,.inr (by have:=dH.out;omega),rfl⟩
  ·have c1:¬ (c:Int)<2 * (N:Int):=by omega
   have HC:=uQ (show (∃ j,c=2^j∧3≤j)∧2 * N≤c∧8≤c∧(c=8∨c<4 * N) from ⟨⟨j,hj,hj3⟩,by omega,hc8,hc⟩)
   have hcb:c≤1073741824:=oQ
   have qR:=uQ hcb
   clear hj hj3 hlt hc hc8 hw0 hcb hNb
   go_wp2_with (first
    |((with_reducible refine bI ⟨?_⟩);refine gK h ah aY bH aj au ?_)
    |((with_reducible refine at_make ⟨?_⟩);refine Ae (e:=170) (sz:=36) (dX:=64) (n:=c) au Ag h ah ah (by have:=qR.out;omega) (by have:=qR.out;omega) ?_;intro bM wM hM)
    |((with_reducible refine bU ⟨?_⟩);refine eX aQ ah aj pQ eP bH au ah ?_;intro wS hS))
   have e8:(List.replicate c (slotL aW ⟨0,ak.zero32,nJ⟩)).flatten=(List.replicate c (⟨0,ak.zero32,nJ⟩:Tab.Slot (Seg.bF))).flatMap (slotL aW):=(zV c _).symm
   rw [e8]at hS
   have hS0:Sat w0 _ (dR p 172 (.slice (some ⟨bM,0,none⟩) c c) t.n 0::aF 170 36 (.slice (some ⟨bM,0,none⟩) c c) ((List.replicate c (⟨0,ak.zero32,nJ⟩:Tab.Slot (Seg.bF))).flatMap (slotL aW))::aF 170 36 (.slice la t.slots.length lc) (t.slots.flatMap (slotL aW))::F):=hS.sb
   clear hS hM h e8 c1
   go_wp2_with fail
   go_loopg [31] t.slots.length (fun g iq wr=>∃ (i:Nat) (cur:List (Tab.Slot (Seg.bF))),g=t.slots.length - i∧i≤t.slots.length∧iq = .int .i64 i∧Tab.Half t.slots cur i∧cur.length=c ∧
    Sat w0 wr (dR p 172 (.slice (some ⟨bM,0,none⟩) c c) t.n 0::aF 170 36 (.slice (some ⟨bM,0,none⟩) c c) (cur.flatMap (slotL aW))::aF 170 36 (.slice la t.slots.length lc) (t.slots.flatMap (slotL aW))::F))
   case atStart=>exact ⟨0,_,rfl,Nat.zero_le _,rfl,Tab.half_start HC.out.1 aJ rfl,List.length_replicate,hS0⟩
   case round=>
    obtain ⟨i,cur,rfl,hi,rfl,hH,hcl,hS⟩:=hrel
    clear hS0
    have HH:=uQ hH;have gy:=uQ hcl
    by_cases hlt:i<t.slots.length
    rotate_left
    ·obtain rfl:i=t.slots.length:=by omega
     have c1:¬ (t.slots.length:Int)<(t.slots.length:Int):=oQ
     clear hlt hH hi
     go_wp2_with fail
     go_end0
     obtain ⟨q1,q2,q3,q4⟩:=HH.out.done
     exact ⟨_,rfl,cur,⟨q1,q2,q3.trans bY.out.n.symm,q4.trans bY.out.n.symm,by rw [gy.out];exact HC.out.2.1,by rw [gy.out];exact HC.out.2.2.1,by rw [gy.out];exact HC.out.2.2.2⟩,_,hS.sb⟩
    have c1:(i:Int)<(t.slots.length:Int):=oQ
    have hwi:=pU (i:=i)
    obtain ⟨x,hx⟩:∃ x,t.slots[i]?=some x:=⟨_,List.getElem?_eq_getElem hlt⟩
    have hxm:=List.mem_of_getElem? hx
    have hst:=bY.out.good.st x hxm
    have Hxk:=uQ (bY.out.good.key x hxm)
    obtain ⟨bk,off,c',hsv,hcell⟩:=mJ Hlen.out (Sat.rd (hS.pick dM)) hx aJ
    cases hsv
    have fA:=Hlen.out x hxm
    have Hx:=uQ hx;have dH:=uQ hlt
    clear hx hxm hlt hH hi
    go_wp2_with (first
     |((with_reducible refine bI ⟨?_⟩);refine jw (b:=bk) (o:=off+i * 36) (slotL aW x) ah hcell Tryz.underlying170 rfl (by rw [fA];kernel_rfl) ?_)
     |(with_reducible apply dY))
    refine ⟨dS Ag hS rfl ?_⟩
    intro b7 w7 hS7
    go_wp2_with (first|((with_reducible refine bU ⟨?_⟩);refine eH (slotL aW x).toArray hS7 ah ah (by rw [List.size_toArray,fA];rfl) bJ (by rw [List.size_toArray,fA];kernel_rfl) (by rw [List.toList_toArray];exact kJ aW x (EW _)) ?_;intro w10 bP)|(with_reducible apply bI))
    refine ⟨?_⟩
    clear hS hS7 hcell
    have f0:w10.cell? ⟨b7,0,none⟩=some (.int .i64 x.st):=bP.cellP aH 0 (by rw [List.getElem?_toArray];rfl)
    have f1:w10.rangeAt b7 1 (ay x.key):=qL (bP.pick aH)
    by_cases h1:x.st=1
    rotate_left
    ·have hst1:((x.st:Int)==1)=false:=by rw [beq_eq_false_iff_ne];omega
     have H1:=uQ h1
     clear h1 f1
     go_wp2_with fail
     go_roundg (t.slots.length - (i+1))
     case measure=>have:=dH.out;omega
     case rel=>exact ⟨i+1,cur,rfl,dH.out,by first|rfl|go_num,HH.out.skip Hx.out H1.out,gy.out,bP.sb⟩
    ·have hus:Tab.used cur<cur.length:=by
      have h2:=HH.out.nu
      have h3:=Tab.IC t.slots i
      have h4:=bY.out.n
      have h5:=HN.out
      have h6:=HC.out
      rw [gy.out];omega
     obtain ⟨dd,hdd⟩:=Tab.Ei (k:=x.key) HH.out.good (Tab.Eo hus)
     have H1:=uQ h1;have qh:=uQ hdd
     have hst1:((x.st:Int)==1)=true:=by rw [h1];rfl
     have uX:=uQ (show ∀ y∈cur,(slotL aW y).length=36 from fun y hy=>gB aW y (HH.out.good.key y hy) 3 (uG _))
     clear h1 hus hdd
     go_wp2_with ((with_reducible refine bI ⟨?_⟩);refine jw (b:=b7) (o:=1) (ay x.key) ah f1 Tryz.underlying30 rfl (by rw [aU,Hxk.out];kernel_rfl) ?_)
     have hf:=Bl HH.out.good (by rw [gy.out];exact qR.out) Hxk.out qh.out (bP.sb:Sat w0 w10 (dR p 172 (.slice (some ⟨bM,0,none⟩) c c) t.n 0::aF 170 36 (.slice (some ⟨bM,0,none⟩) c c) (cur.flatMap (slotL aW))::pt b7 (.cells (slotL aW x).toArray 170 (0,0))::aF 170 36 (.slice (some ⟨bk,off,none⟩) t.slots.length lc) (t.slots.flatMap (slotL aW))::F))
     clear bP f0 f1
     refine hf.mono ?_
     rintro ee fU ⟨v,rfl,y,hy,rfl,iR⟩
     clear hf hy
     have hlt2:=Tab.jS (k:=x.key) (d:=dd) HH.out.good.gZ
     rw [gy.out]at hlt2
     have vG:=uQ (sU (f:=slotL aW) (k:=36) (i:=Tab.pos x.key cur.length dd) (x:=x) uX.out fA (Tab.jS HH.out.good.gZ))
     have vH:=uQ (HH.out.step bY.out.good Hx.out H1.out qh.out)
     rw [gy.out]at vG vH
     rw [gy.out]
     have hrl:(cur.flatMap (slotL aW)).length=36 * c:=by rw [jr uX.out,gy.out]
     generalize Tab.pos x.key c dd=P0 at *
     have c2:(0:Int)≤(P0:Int):=oQ
     have c3:(P0:Int)<(c:Int):=oQ
     go_wp2_with fail
     have hSd:=iR.drew
     clear iR
     refine dh [6,7] (fun w'=>w'.cell? ⟨p,0,none⟩=some (.slice (some ⟨bM,0,none⟩) c c)∧w'.rangeAt b7 0 (slotL aW x)) au ?_
     have hG:World.cell? _ ⟨p,0,none⟩=some (.slice (some ⟨bM,0,none⟩) c c)∧World.rangeAt _ b7 0 (slotL aW x):=⟨hSd.cellP aY 0 rfl,lV (hSd.pk (A:=pt b7 (.cells (slotL aW x).toArray 170 (0,0))))⟩
     refine rP 0 ?_ (y:=aG)
     refine rP 1 ?_ (y:=dL)
     refine rP 2 ?_ (y:=cO)
     refine rt 3 (h:=?_)
     refine rP 4 ?_ (y:=aG)
     refine dK 5 aj au bC (gu (b:=b7) (o:=0) (slotL aW x) ah Tryz.underlying170 rfl (by rw [fA];kernel_rfl) (fun w hw=>hw.2)) aQ gQ ?_
     refine rP 6 ?_ (y:=dZ)
     clear hG
     refine bG 7 aj au (fun K hK=>?_)
     refine sF (vs:=slotL aW x) (P0 * 36) hSd aj aj rfl (fD bJ) (by rw [fA,hrl];omega) (by rw [fA];kernel_rfl) (kJ aW x (EW _)) ?_
     intro w12 gq
     refine hK _ _ (.inl rfl) ?_
     clear hK hSd
     refine cu au ?_
     try simp only [jB]
     try go_frame
     rw [← vG.out]at gq
     go_wp2_with fail
     go_roundg (t.slots.length - (i+1))
     case measure=>have:=dH.out;omega
     case rel=>exact ⟨i+1,_,rfl,dH.out,by first|rfl|go_num,vH.out,by rw [List.length_set];exact gy.out,gq.sb⟩
end
theorem aeN (k:ak.Bs) (hk:k.length=32) (v:Seg.bF) (w:World) :
  (Instr.build 170 #[(0,.int .i64 1),(1,.agg (ay k).toArray),(2,.agg (aW v).toArray)]).run Tryz.prog w = .ok (.agg (slotL aW ⟨1,k,v⟩).toArray) w:=by
 have hbk:(ay k).toArray.size=32:=by rw [List.size_toArray,aU,hk]
 refine (run_build (P:=Tryz.prog) [(0,.int .i64 1),(1,.agg (ay k).toArray),(2,.agg (aW v).toArray)] SY Ag (by
  intro p' hp
  simp only [List.mem_cons,List.not_mem_nil,or_false]at hp
  have hzz:(Value.agg (slotL aW (⟨0,ak.zero32,nJ⟩:Tab.Slot (Seg.bF))).toArray).cells.size=36:=by
   show (slotL aW (⟨0,ak.zero32,nJ⟩:Tab.Slot (Seg.bF))).toArray.size=36
   rw [List.size_toArray,gB aW _ aJ 3 rfl]
  rw [hzz]
  rcases hp with rfl|rfl|rfl
  ·exact ⟨0,rfl,by show 0+1≤36;omega⟩
  ·refine ⟨1,?_,?_⟩
   ·show some (1,32)=some (1,(ay k).toArray.size);rw [hbk]
   ·show 1+(ay k).toArray.size≤36;omega
  ·exact ⟨33,rfl,by show 33+3≤36;omega⟩) w).trans ?_
 rw [show (Value.agg (slotL aW (⟨0,ak.zero32,nJ⟩:Tab.Slot (Seg.bF))).toArray).cells=(slotL aW (⟨0,ak.zero32,nJ⟩:Tab.Slot (Seg.bF))).toArray from rfl,Kv aW ⟨0,ak.zero32,nJ⟩ k v aJ hk rfl 3 rfl]
section
variable {w0 w:World}{F R:List aC}{p B:Nat}{sv:Value}{k:ak.Bs}{m:ak.Bs→Option (Seg.bF)}
set_option maxRecDepth 20000 in
theorem Kr (hB:B≤134217000) (hk:k.length=32) (v:Seg.bF) (h:Sat w0 w (aZ p m B::F)) :
  Calls Tryz.prog 94 #[ptr p,.agg (ay k).toArray,.agg (aW v).toArray] w (aI fun _ w'=>Sat w0 w' (aZ p (Tab.put m k v) (B+1)::F)):=by
 obtain ⟨t,sv,⟨ok,is,hb⟩,hR⟩:=aZ.open h
 obtain ⟨d,he⟩:=ok.ends k
 have hsz:t.slots.length≤1073741824:=by have:=ok.size;omega
 have Hlen:=uQ (show ∀ x∈t.slots,(slotL aW x).length=36 from fun x hx=>gB aW x (ok.good.key x hx) 3 (uG _))
 obtain ⟨la,lc,rfl⟩:=jm Hlen.out (Sat.rd (hR.pick aP)) aJ
 have hrl:0<(t.slots.flatMap (slotL aW)).length:=by rw [jr Hlen.out];have:=ok.good.gZ;omega
 obtain ⟨bk,rfl⟩:=sO (hR.pick aP) hrl
 have Hk:=uQ hk;have bY:=uQ ok;have fF:=uQ is;have Hb:=uQ hb;have He:=uQ he;have dw:=uQ hsz;have HB:=uQ hB
 have fZ:=uQ ok.good.gZ
 have nR:=uQ (show (ay k).length=32 by rw [aU,hk])
 clear h hk ok is hb he hsz hB hrl
 go_enter Tryz.func94,Tryz.ntmps94
 go_wp2_with (with_reducible apply fH)
 refine ⟨fO hR aj aj ?_⟩
 intro b4 w4 hS4
 go_wp2_with (with_reducible apply fH)
 refine ⟨fO hS4 aj aj ?_⟩
 intro b5 w5 hS5
 have hA:Sat w0 w5 (dR p 172 (.slice (some ⟨bk,0,none⟩) t.slots.length lc) t.n t.gone::aF 170 36 (.slice (some ⟨bk,0,none⟩) t.slots.length lc) (t.slots.flatMap (slotL aW))::pt b4 (.cells (ay k).toArray 30 (0,0))::pt b5 (.cells (aW v).toArray 107 (0,0))::F):=hS5.sb
 clear hR hS4 hS5
 go_wp2_with fail
 refine (CJ fZ.out hA).mono ?_
 rintro ee w7 ⟨v',rfl,rfl,rfl⟩
 go_wp2_with ((with_reducible refine bI ⟨?_⟩);refine fB hA ah (aO (aO (aH (A:=pt b4 (.cells (ay k).toArray 30 (0,0)))))) Tryz.underlying30 rfl (by rw [List.size_toArray,nR.out];kernel_rfl) ?_)
 have hf:=Bl bY.out.good dw.out Hk.out He.out hA
 clear hA
 refine hf.mono ?_
 rintro ee w8 ⟨v',rfl,x,hx,rfl,fG⟩
 clear hf
 have hlt:=Tab.jS (k:=k) (d:=d) fZ.out
 by_cases h1:x.st=1
 ·have hd:decide (x.st=1)=true:=decide_eq_true h1
  have hxm:=List.mem_of_getElem? hx
  have l9:=uQ (CX (f:=slotL aW) (k:=36) (o:=33) (x':=⟨x.st,x.key,v⟩) (vs:=aW v) Hlen.out hx (KY aW x v (bY.out.good.key x hxm) rfl) (by show 33+3≤36;decide))
  have lQ:=uQ (Tab.Ku bY.out He.out hx h1 v)
  have lN:=uQ (Tab.zJ fF.out (Tab.Fb bY.out.good He.out hx h1 v).2 t.n t.gone)
  have hrl:(t.slots.flatMap (slotL aW)).length=36 * t.slots.length:=jr Hlen.out
  clear hx hxm h1
  generalize Tab.pos k t.slots.length d=P0 at *
  have c0:(0:Int)≤(P0:Int):=oQ
  have c1:(P0:Int)<(t.slots.length:Int):=oQ
  go_wp2_with fail
  have hSd:=fG.drew
  clear fG
  refine dh [6,7,8] (fun w'=>w'.cell? ⟨p,0,none⟩=some (.slice (some ⟨bk,0,none⟩) t.slots.length lc)∧w'.rangeAt b5 0 (aW v)) au ?_
  have hG:World.cell? _ ⟨p,0,none⟩=some (.slice (some ⟨bk,0,none⟩) t.slots.length lc)∧World.rangeAt _ b5 0 (aW v):=⟨hSd.cellP aY 0 rfl,lV (hSd.pk (A:=pt b5 (.cells (aW v).toArray 107 (0,0))))⟩
  refine rP 0 ?_ (y:=aG)
  refine rP 1 ?_ (y:=dL)
  refine rP 2 ?_ (y:=cO)
  refine rt 3 (h:=?_)
  refine rP 4 ?_ (y:=aG)
  refine dK 5 aj au bC (gu (b:=b5) (o:=0) (aW v) ah Tryz.underlying107 rfl au (fun w hw=>hw.2)) aQ gQ ?_
  refine rP 6 ?_ (y:=dZ)
  refine rP 7 ?_ (y:=cO)
  clear hG
  refine bG 8 aj au (fun K hK=>?_)
  refine sF (vs:=aW v) (P0 * 36+33) hSd aj aj rfl (fD bJ) (by rw [hrl];show P0 * 36+33+3≤_;omega) au ah ?_
  intro w12 gq
  refine hK _ _ (.inl rfl) ?_
  clear hK hSd
  refine cu au ?_
  try simp only [jB]
  try go_frame
  rw [← l9.out]at gq
  go_wp2_with fail
  go_end0
  exact ⟨_,rfl,aZ.shut (sv:= .slice (some ⟨bk,0,none⟩) t.slots.length lc) lQ.out lN.out (Nat.le_succ_of_le Hb.out) (gq.sb)⟩
 have hd:decide (x.st=1)=false:=decide_eq_false h1
 have hb4:=Hb.out
 have hB4:=HB.out
 have wL:=dw.out
 obtain ⟨hA1,hA2,hA3,wu,vX,vY,vZ,wz,wC⟩:=LJ t.n t.gone t.slots.length oQ wL
 have Hx:=uQ hx;have H1:=uQ h1
 clear hx h1 hb4 hB4 wL
 go_wp2_with fail
 have hSd:=fG.drew
 clear fG
 have e0:World.cell? _ ⟨p,0,none⟩=some (.slice (some ⟨bk,0,none⟩) t.slots.length lc):=hSd.cellP aY 0 rfl
 have e1:World.cell? _ ⟨p,1,none⟩=some (.int .i64 t.n):=hSd.cellP aY 1 rfl
 have e2:World.cell? _ ⟨p,2,none⟩=some (.int .i64 t.gone):=hSd.cellP aY 2 rfl
 go_region
 have hcmp:3 * t.slots.length<4 * (t.n+t.gone+1)∨4 * (t.n+t.gone+1)≤3 * t.slots.length:=oQ
 rcases hcmp with hcmp|hcmp
 focus
  have hci:(3:Int) * (t.slots.length:Int)<4 * ((t.n:Int)+(t.gone:Int)+1):=oQ
  have hrn:=TJ (N:=t.n+1) bY.out (Nat.le_succ _) (by have:=Hb.out;have:=HB.out;omega) dw.out hSd
  rw [show (((t.n+1:Nat)):Int)=(t.n:Int)+1 by omega]at hrn
  clear hSd e0 e2
  go_wp2_with fail
  refine hrn.mono ?_
  rintro ee w9 ⟨v',rfl,s',sv',lG,iT⟩
  clear hrn e1 hci hcmp
  have hok1:=lG.ok
  have rC:=lG.is fF.out t.n 0
  have rD:4 * ((⟨s',t.n,0⟩:Tab.Tb (Seg.bF)).n+(⟨s',t.n,0⟩:Tab.Tb (Seg.bF)).gone+1)≤3 * (⟨s',t.n,0⟩:Tab.Tb (Seg.bF)).slots.length:=by have:=lG.lo;simp only;omega
  have hb1:(⟨s',t.n,0⟩:Tab.Tb (Seg.bF)).n+(⟨s',t.n,0⟩:Tab.Tb (Seg.bF)).gone≤B:=by have:=Hb.out;simp only;omega
  have bP:Sat w0 w9 (dR p 172 sv' (⟨s',t.n,0⟩:Tab.Tb (Seg.bF)).n (⟨s',t.n,0⟩:Tab.Tb (Seg.bF)).gone::aF 170 36 sv' ((⟨s',t.n,0⟩:Tab.Tb (Seg.bF)).slots.flatMap (slotL aW))::pt b4 (.cells (ay k).toArray 30 (0,0))::pt b5 (.cells (aW v).toArray 107 (0,0))::F):=iT
  clear iT lG hA1 hA2 hA3 wu vX vY vZ wz wC
  generalize (⟨s',t.n,0⟩:Tab.Tb (Seg.bF))=t1 at hok1 rC rD hb1 bP
  have oI:=uQ (show ∀ x∈t1.slots,(slotL aW x).length=36 from fun x hx=>gB aW x (hok1.good.key x hx) 3 (uG _))
  obtain ⟨Ce,oZ,rfl⟩:=jm oI.out (Sat.rd (bP.pick aP)) aJ
  have je:=uQ hok1;have oG:=uQ rC;have qV:=uQ rD;have Hb1:=uQ hb1
  obtain ⟨d1,he1⟩:=hok1.ends k
  have lC:=uQ he1
  have hno:m k=none:=by
   obtain ⟨_,q2⟩:=fF.out.some bY.out He.out Hx.out
   exact q2 H1.out
  have hsz1:t1.slots.length≤1073741824:=by have:=hok1.size;have:=HB.out;omega
  clear hok1 rC rD hb1 he1
  go_wp2_with ((with_reducible refine bI ⟨?_⟩);refine fB bP ah (aO (aO (aH (A:=pt b4 (.cells (ay k).toArray 30 (0,0)))))) Tryz.underlying30 rfl (by rw [List.size_toArray,nR.out];kernel_rfl) ?_)
  have hf:=Bl je.out.good hsz1 Hk.out lC.out bP
  clear bP hsz1
  refine hf.mono ?_
  rintro ee Vh ⟨v',rfl,x1,hx1,rfl,hT⟩
  have oJ:=uQ hx1
  have oC:=uQ (show x1.st≠1 from fun h=>by
   have:=(oG.out.some je.out lC.out hx1).1 h
   rw [hno]at this;cases this)
  clear hf hx1 hno Hx H1 He bY fF Hlen fZ Hb dw hlt hd
  go_wp2_with fail
 rotate_left
 focus
  have hci:¬ (3:Int) * (t.slots.length:Int)<4 * ((t.n:Int)+(t.gone:Int)+1):=oQ
  have qV:=uQ hcmp
  clear e0 e1 e2 hcmp
  go_wp2_with fail
  clear hci hA1 hA2 hA3 wu vX vY vZ wz wC hlt hd fZ dw
  obtain ⟨t1,rfl⟩:∃ y,y=t:=⟨t,rfl⟩
  obtain ⟨x1,rfl⟩:∃ y,y=x:=⟨x,rfl⟩
  obtain ⟨d1,rfl⟩:∃ y,y=d:=⟨d,rfl⟩
  obtain ⟨Ce,wI⟩:∃ y:Option Addr,y=some ⟨bk,0,none⟩:=⟨_,rfl⟩
  obtain ⟨oZ,rfl⟩:∃ y,y=lc:=⟨lc,rfl⟩
  rw [← wI]at hSd
  have hT:=hSd
  have je:=uQ bY.out;have oG:=uQ fF.out;have Hb1:=uQ Hb.out;have lC:=uQ He.out;have oJ:=uQ Hx.out;have oC:=uQ H1.out;have oI:=uQ Hlen.out
  clear hSd bY fF Hb He Hx H1 Hlen wI
 all_goals
  have hrl:(t1.slots.flatMap (slotL aW)).length=36 * t1.slots.length:=jr oI.out
  obtain ⟨bk1,rfl⟩:=sO (hT.pick aP) (by rw [hrl];have:=je.out.good.gZ;omega)
  have l9:=uQ (sU (f:=slotL aW) (k:=36) (i:=Tab.pos k t1.slots.length d1) (x:=⟨1,k,v⟩) oI.out (gB aW _ Hk.out 3 rfl) (Tab.jS je.out.good.gZ))
  have lQ:=uQ (Tab.Kt je.out qV.out lC.out oJ.out oC.out Hk.out v)
  have lN:=uQ (Tab.zJ oG.out (Tab.CQ je.out.good lC.out oJ.out oC.out Hk.out v).2 (t1.n+1) t1.gone)
  have hlt1:=Tab.jS (k:=k) (d:=d1) je.out.good.gZ
  have hls:=gB aW (⟨1,k,v⟩:Tab.Slot (Seg.bF)) Hk.out 3 rfl
  have hwn:IntKind.i64.wrap ((t1.n:Int)+1)=(t1.n:Int)+1:=IntWalk.i64_in _ (by have:=Hb1.out;have:=HB.out;omega)
  clear oJ oC lC je oG qV
  generalize Tab.pos k t1.slots.length d1=P1 at *
  have c0:(0:Int)≤(P1:Int):=oQ
  have c1:(P1:Int)<(t1.slots.length:Int):=oQ
  have hSd:=hT.drew
  clear hT
  refine dh [8,9] (fun w'=>w'.cell? ⟨p,0,none⟩=some (.slice (some ⟨bk1,0,none⟩) t1.slots.length oZ)∧w'.rangeAt b4 0 (ay k)∧w'.rangeAt b5 0 (aW v)) au ?_
  have hG:World.cell? _ ⟨p,0,none⟩=some (.slice (some ⟨bk1,0,none⟩) t1.slots.length oZ)∧World.rangeAt _ b4 0 (ay k)∧World.rangeAt _ b5 0 (aW v):=⟨hSd.cellP aY 0 rfl,lV (hSd.pk (A:=pt b4 (.cells (ay k).toArray 30 (0,0)))),lV (hSd.pk (A:=pt b5 (.cells (aW v).toArray 107 (0,0))))⟩
  refine rP 0 ?_ (y:=aG)
  refine rP 1 ?_ (y:=dL)
  refine rP 2 ?_ (y:=cO)
  refine rt 3 (h:=?_)
  refine rP 4 ?_ (y:=aG)
  refine dK 5 aj au bC (gu (b:=b4) (o:=0) (ay k) ah Tryz.underlying30 rfl (by rw [nR.out];kernel_rfl) (fun w hw=>hw.2.1)) aQ gQ ?_
  refine dK 6 aj au bC (gu (b:=b5) (o:=0) (aW v) ah Tryz.underlying107 rfl au (fun w hw=>hw.2.2)) aQ gQ ?_
  refine rP 7 ?_ (y:=(F5 aj aj aj (fun w=>aeN k Hk.out v w)))
  refine rP 8 ?_ (y:=dZ)
  clear hG
  refine bG 9 aj au (fun K hK=>?_)
  refine sF (vs:=slotL aW ⟨1,k,v⟩) (P1 * 36) hSd aj aj rfl (fD bJ) (by rw [hrl,hls];omega) (by rw [hls];kernel_rfl) (kJ aW _ ah) ?_
  intro w12 gq
  refine hK _ _ (.inl rfl) ?_
  clear hK hSd
  refine cu au ?_
  try simp only [jB]
  try go_frame
  rw [← l9.out]at gq
  go_wp2_with (first
   |((with_reducible refine bI ⟨?_⟩);refine gK gq ah aY bH aj au ?_)
   |((with_reducible refine bU ⟨?_⟩);refine eX aQ ah aj pQ eP bH au ah ?_;intro wS hS))
  go_end0
  exact ⟨_,rfl,aZ.shut (sv:= .slice (some ⟨bk1,0,none⟩) t1.slots.length oZ) lQ.out lN.out (by have:=Hb1.out;simp only;omega) (hS.sb)⟩
end
open Go.Sort
abbrev XC:Type:={ x:Tab.Slot (Seg.bF) // x.key.length=32 }
instance:Inhabited XC:=⟨⟨⟨0,ak.zero32,Seg.bF.zero⟩,rfl⟩⟩
section
variable {w0 w:World}{F:List aC}{v:Value}
end
end Go.Proofs.YtlimfgdbfadohaaGreatDoor
namespace Go.Tab
open Go.ak (Bs)
open Go.Seg (bF)
open Go.Rep (dP)
section
variable {V:Type}
def mapOf (l:List (Bs×V)):Bs→Option V:=l.foldl (fun m p=>put m p.1 p.2) fun _=>none
theorem abP (l:List (Bs×V)) (p:Bs×V):mapOf (l++[p])=put (mapOf l) p.1 p.2:=by unfold mapOf;rw [List.foldl_append];rfl
end
end Go.Tab
namespace Go.Rep
open Go.ak (Bs)
open Go.Tab
theorem Tj (l:List (Bs×dP)) (p:Bs×dP):puts (l++[p])=if p.2.tag=0 then puts l++[(p.1,p.2.place)] else puts l:=by
 unfold puts
 rw [List.filter_append]
 by_cases h:p.2.tag=0
 ·rw [if_pos h,List.filter_cons_of_pos (by rw [decide_eq_true h]),List.filter_nil,List.map_append];rfl
 ·rw [if_neg h,List.filter_cons_of_neg (by rw [decide_eq_false h];decide),List.filter_nil,List.append_nil]
theorem Cm (s:Int):∀ (l:List (Bs×dP)) (p:Bs×dP),fK s (l++[p])=fK s l+(if counts p.2=true∧p.2.place.seg=s then p.2.place.size else 0)
 |[],p=>by simp [fK]
 |q::l,p=>by
  have:=Cm s l p
  simp only [List.cons_append,fK]
  omega
theorem JA (s:Int){b:Int} (hb:0≤b):∀ (l:List (Bs×dP)),(∀ p∈l,0≤p.2.place.size∧p.2.place.size≤b)→0≤fK s l∧fK s l≤b * l.length
 |[],_=>by simp [fK]
 |q::l,h=>by
  obtain ⟨i1,i2⟩:=JA s hb l fun p hp=>h p (.tail _ hp)
  obtain ⟨j1,j2⟩:=h q (.head _)
  have e:b * ((q::l).length:Int)=b * l.length+b:=by rw [List.length_cons,Int.natCast_succ,Int.mul_add,Int.mul_one]
  rw [e]
  simp only [fK]
  split <;> omega
end Go.Rep
namespace Go.Proofs.YtlimfgdbfadohaaGreatDoor
open Go Go.Sl Go.aB Go.MapKept Go.RowKit
def kH (b:Nat) (f:Int→Int):aC:=fun h=>∃ l:List (Value×Value),((∀ p∈l,∃ k v:Int,p=(.int .i64 k,.int .i64 v)∧f k=v)∧∀ k:Int,(∀ p∈l,p.1 ≠ .int .i64 k)→f k=0)∧omap (.int .i64) b l h
section
variable {w0 w:World}{R:List aC}{b:Nat}{f:Int→Int}{l:List (Value×Value)}
theorem QX (h:Sat w0 w (kH b f::R)):∃ l:List (Value×Value),((∀ p∈l,∃ k v:Int,p=(.int .i64 k,.int .i64 v)∧f k=v)∧∀ k:Int,(∀ p∈l,p.1 ≠ .int .i64 k)→f k=0)∧Sat w0 w (omap (.int .i64) b l::R):=by
 obtain ⟨ha,x,hx,p,q,dd,rfl,⟨l,h1,h2⟩,hq⟩:=h
 exact ⟨l,h1,ha,_,hx,p,q,dd,rfl,h2,hq⟩
theorem QY (h1:∀ p∈l,∃ k v:Int,p=(.int .i64 k,.int .i64 v)∧f k=v) (h2:∀ k:Int,(∀ p∈l,p.1 ≠ .int .i64 k)→f k=0) (h:Sat w0 w (omap (.int .i64) b l::R)):Sat w0 w (kH b f::R):=
 h.head fun _ hx=>⟨l,⟨h1,h2⟩,hx⟩
theorem aaL (h:Sat w0 w R):Sat w0 (w.alloc (.map #[] 0)) (kH w.heap.size (fun _=>0)::R):=QY (by simp) (fun _ _=>rfl) (h.ES (.int .i64))
theorem Jq (k:Int) (h:Sat w0 w (kH b f::R)):(Instr.lookup 205 (.map (some b)) (.int .i64 k) false).run Tryz.prog w = .ok (.int .i64 (f k)) w:=by
 obtain ⟨l,⟨h1,h2⟩,hS⟩:=QX h
 rcases Ug (key:= .int .i64 k) Tryz.underlying205 Tryz.underlying3 (z:= .int .i64 0) au rfl hS with ⟨v,hm,e,_⟩|⟨hn,e,_⟩
 ·obtain ⟨k',v',hp,hf⟩:=h1 _ hm
  cases hp
  rw [e,hf]
 ·rw [e,h2 k hn]
theorem QZ (k v:Int) (h:Sat w0 w (kH b f::R)):∃ w',(Instr.mapUpdate 205 (.map (some b)) (.int .i64 k) (.int .i64 v)).run Tryz.prog w = .ok () w'∧Sat w0 w' (kH b (fun s=>if s=k then v else f s)::R):=by
 obtain ⟨l,⟨h1,h2⟩,hS⟩:=QX h
 obtain ⟨w',hr,hs⟩:=Sl.run_store (key:= .int .i64 k) Tryz.underlying205 Tryz.underlying3 rfl (.int .i64 v) hS
 refine ⟨w',hr,?_⟩
 have hnd:=hS.ER
 obtain ⟨l0,hl0,hne,hin,hout⟩:∃ l0:List (Value×Value),(l.Perm l0∧(∀ p∈l0,p.1 ≠ .int .i64 k)∨∃ v0,l.Perm ((.int .i64 k,v0)::l0))∧(∀ p∈l0,p.1 ≠ .int .i64 k)∧(∀ p∈l0,p∈l)∧∀ p∈l,p.1 ≠ .int .i64 k→p∈l0:=by
  by_cases hk:∃ p∈l,p.1 = .int .i64 k
  ·obtain ⟨⟨_,v0⟩,hm,rfl⟩:=hk
   obtain ⟨l1,l2,e12⟩:=List.append_of_mem hm
   have hp:l.Perm ((.int .i64 k,v0)::(l1++l2)):=by rw [e12];exact List.perm_middle
   have QB:=(hp.map (·.1)).nodup_iff.1 hnd
   rw [List.map_cons,List.nodup_cons]at QB
   exact ⟨_,.inr ⟨v0,hp⟩,fun p hp' e=>QB.1 (List.mem_map.2 ⟨p,hp',e⟩),fun p hp'=>hp.mem_iff.2 (.tail _ hp'),fun p hp' hne=>by
    rcases List.mem_cons.1 (hp.mem_iff.1 hp') with e|e
    ·exact absurd (by rw [e]) hne
    ·exact e⟩
  ·have hk':∀ p∈l,p.1 ≠ .int .i64 k:=fun p hp e=>hk ⟨p,hp,e⟩
   exact ⟨l,.inl ⟨.refl _,hk'⟩,hk',fun _ h=>h,fun _ h _=>h⟩
 refine QY (l:=(.int .i64 k,.int .i64 v)::l0) ?_ ?_ (hs l0 hl0)
 ·intro p hp
  rcases List.mem_cons.1 hp with rfl|hp
  ·exact ⟨k,v,rfl,if_pos rfl⟩
  ·obtain ⟨k',v',rfl,hf⟩:=h1 p (hin p hp)
   refine ⟨k',v',rfl,?_⟩
   show (if k'=k then v else f k')=v'
   rw [if_neg (fun e=>hne _ hp (by rw [e])),hf]
 ·intro k' hk'
  have hkk:k'≠k:=fun e=>hk' _ (.head _) (by rw [e])
  show (if k'=k then v else f k')=0
  rw [if_neg hkk]
  refine h2 k' fun p hp e=>?_
  exact hk' p (.tail _ (hout p hp (fun e2=>hkk (by rw [e2]at e;cases e;rfl)))) e
end
section
variable {w0 w:World}{R:List aC}{p B B':Nat}{m:ak.Bs→Option Seg.bF}
theorem aZ.mono (hB:B≤B') (h:Sat w0 w (aZ p m B::R)):Sat w0 w (aZ p m B'::R):=by
 obtain ⟨t,sv,⟨ok,is,hb⟩,hS⟩:=aZ.open h
 exact aZ.shut ok is (Nat.le_trans hb hB) hS
end
section
variable {w0 w:World}{F:List aC}
set_option maxRecDepth 20000 in
theorem Ot (x:Rep.dP) (h:Sat w0 w F):Calls Tryz.prog 167 #[.agg (bf x).toArray] w (aI fun v w'=>v = .bool (Rep.counts x)∧Sat w0 w' F):=by
 obtain ⟨tag,⟨seg,at_,size⟩,first⟩:=x
 show Calls Tryz.prog 167 #[.agg #[.int .i64 tag,.int .i64 seg,.int .i64 at_,.int .i64 size,.int .i64 first]] w _
 have Hc:=uQ (show ∀ c,c=(decide (tag=0) || (decide (0≤first) && decide (first<seg)))→c=Rep.counts ⟨tag,⟨seg,at_,size⟩,first⟩ from fun c hc=>hc)
 go_enter Tryz.func167,Tryz.ntmps167
 go_wp2_with (first|((with_reducible refine fH ⟨?_⟩);refine fO aQ aj aj ?_;intro bB wB hB)|(with_reducible apply bI))
 refine ⟨?_⟩
 have f0:wB.cell? ⟨bB,0,none⟩=some (.int .i64 tag):=hB.cellP aH 0 rfl
 have f1:wB.cell? ⟨bB,1,none⟩=some (.int .i64 seg):=hB.cellP aH 1 rfl
 have f2:wB.cell? ⟨bB,4,none⟩=some (.int .i64 first):=hB.cellP aH 4 rfl
 have HB:=uQ hB.drop
 clear hB h
 by_cases h0:tag=0
 ·have hb:(tag==0)=true:=beq_iff_eq.2 h0
  have e:=Hc.out true (by simp [h0])
  have He:=uQ e
  clear h0 e Hc
  go_wp2_with fail
  go_ret
  exact ⟨_,rfl,congrArg Value.bool He.out,HB.out⟩
 ·have hb:(tag==0)=false:=by rw [beq_eq_false_iff_ne];exact h0
  by_cases h1:0≤first
  ·by_cases h2:first<seg
   ·have He:=uQ (Hc.out true (by simp [h0,h1,h2]))
    clear h0 Hc
    go_wp2_with fail
    go_ret
    exact ⟨_,rfl,congrArg Value.bool He.out,HB.out⟩
   ·have He:=uQ (Hc.out false (by simp [h0,h2]))
    clear h0 Hc
    go_wp2_with fail
    go_ret
    exact ⟨_,rfl,congrArg Value.bool He.out,HB.out⟩
  ·have He:=uQ (Hc.out false (by simp [h0,h1]))
   clear h0 Hc
   go_wp2_with fail
   go_ret
   exact ⟨_,rfl,congrArg Value.bool He.out,HB.out⟩
end
end Go.Proofs.YtlimfgdbfadohaaGreatDoor
