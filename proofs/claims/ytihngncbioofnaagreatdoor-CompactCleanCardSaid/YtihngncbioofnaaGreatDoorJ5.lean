import Derived.Test.YtihngncbioofnaaGreatDoorJ4
import Derived.Lib.Bytealg
import Derived.Lib.BytesEntry
import Derived.Sort.Grow
import Derived.Sort.OwnSorted
import Derived.Shelf.SlSortCmp.WholeK
import Derived.Shelf.SlSortCmp.NoneTotal
import Derived.Test.YtihngncbioofnaaGreatDoorSort
import Derived.RangeFuncNested
import Derived.RangeFuncLeaves
import Derived.TacticsIn
import Derived.OrdersIn
namespace Go.Proofs.YtihngncbioofnaaGreatDoor
open Go Go.Sl Go.au Go.MapKept Go.RowKit
section
variable {P : Program} {ops : Array Oper} {a : Act} {dst : Option Tmp} {t ty : TypeId} {pos : String} {after : Array Edge} {x y : Operand} {v vx vy : Value} {ad : Addr} {fl : Nat} {bo : BinOp} {tz : TypeId} {g : Option (Nat × Bool)}
theorem gmQ (hw : Region.wanted ⟨dst, .move x, t, pos, after, g⟩ (yielded ops a.tmps) = true := by rfl) (hx : a.eval x = v := by conv => lhs; whnf) : Yields P ops ⟨dst, .move x, t, pos, after, g⟩ v a := Ar hw hx
end
end Go.Proofs.YtihngncbioofnaaGreatDoor
set_option linter.unusedVariables false
set_option maxHeartbeats 128000000
namespace Go.Tab
open Go.ah (Bs)
theorem Ig:∀ (a b:Bs),Lib.compareBytes a b<0↔a<b
 |[],[]=>by simp [Lib.compareBytes]
 |[],b::bs=>by simp [Lib.compareBytes]
 |a::l,[]=>by simp [Lib.compareBytes]
 |a::l,b::bs=>by
  rw [List.cons_lt_cons_iff,← Ig l bs]
  rw [show Lib.compareBytes (a::l) (b::bs)=if a<b then -1 else if b<a then 1 else Lib.compareBytes l bs from rfl]
  by_cases h1:a<b
  ·simp [h1]
  ·rw [abk h1]
   by_cases h2:b<a
   ·rw [abN h2]
    constructor
    ·intro h;exact absurd h aN
    ·rintro (h|⟨rfl,_⟩)
     ·exact absurd h h1
     ·exact absurd h2 h1
   ·rw [abk h2]
    have:a=b:=by
     have h3:¬ a.toNat<b.toNat:=fun h=>h1 (UInt8.lt_iff_toNat_lt.2 h)
     have h4:¬ b.toNat<a.toNat:=fun h=>h2 (UInt8.lt_iff_toNat_lt.2 h)
     exact UInt8.toNat_inj.1 oQ
    subst this
    constructor
    ·intro h;exact .inr ⟨rfl,h⟩
    ·rintro (h|⟨_,h⟩)
     ·exact absurd h h1
     ·exact h
end Go.Tab
namespace Go.Proofs.YtihngncbioofnaaGreatDoor
open Go Go.Sl Go.au Go.MapKept Go.RowKit
theorem yS (b o j:Nat):(⟨b,o,none⟩:Addr).add j=⟨b,o+j,none⟩:=by unfold Addr.add;split <;> simp_all
section
variable {w0 w:World}{F R:List aH}{v bv av:Value}
theorem aaj {l:ah.Bs} (h:bG 1 v (aA l) w):(Extern.Bytes.bytesOf v).run Tryz.prog w = .ok ⟨l.toArray⟩ w:=by
 obtain ⟨a,n,c,rfl,hl,hx⟩:=h
 rw [aZ,acP]at hl
 subst hl
 cases a with
 |none=>
  obtain rfl:l=[]:=by
   cases l with
   |nil=>rfl
   |cons d l=>obtain ⟨b,hb,_⟩:=hx 0 _ rfl;cases hb
  rfl
 |some ad=>
  have:=Lib.run_loadBytesX (P:=Tryz.prog) w (l.map fun c=>(c.toNat:Int)) ad .empty (fun j x hj=>by
   rw [ab2]at hj
   obtain ⟨c',hc',rfl⟩:=ag0.1 hj
   have hy:(aA l)[j]?=some (.int .u8 c'.toNat):=by unfold aA;rw [ab2,hc'];rfl
   obtain ⟨b,hb,hc⟩:=hx _ _ hy
   cases hb
   exact hc)
  rw [abj]at this
  simp only [Extern.Bytes.bytesOf,this]
  have e:Lib.bytesOf (l.map fun c=>(c.toNat:Int))=l:=by
   unfold Lib.bytesOf
   rw [afE]
   conv=>rhs;rw [← List.map_id l]
   exact amo fun c _=>by simp
  rw [e]
  show Result.ok ({ data:=(#[]:Array UInt8)++l.toArray }:ByteArray) w=_
  rw [Array.empty_append]
theorem ajF {x y:ah.Bs} (h1:bG 1 av (aA x) w) (h2:bG 1 bv (aA y) w):(Extern.BytealgCompare.compare #[av,bv]).run Tryz.prog w = .ok (.int .i64 (Lib.compareBytes x y)) w:=by
 change Sem.run Tryz.prog (do pure (goInt (Extern.BytealgCompare.cmp (← Extern.Bytes.bytesOf av) (← Extern.Bytes.bytesOf bv)))) w=_
 simp only [ach,acy,aaj h1,aaj h2,Result.andThen]
 rw [Lib.cmp_eq]
 rfl
set_option maxRecDepth 100000 in
theorem UH (x y:ah.Bs) (h1:bG 1 av (aA x) w) (h2:bG 1 bv (aA y) w) :
  Calls Tryz.prog 182 #[av,bv] w fun e w'=>e = .returned (.int .i64 (Lib.compareBytes x y))∧w'=w:=by
 have hr:=ajF h1 h2
 generalize Lib.compareBytes x y=r at *
 clear h1 h2
 go_enter Tryz.func182,Tryz.ntmps182
 go_wp2
 rw [run_callFunc_extern Tryz.func213 ak ak ak (e:=Extern.BytealgCompare.compare) ak,hr]
 simp only [Result.andThen]
 rw [Oper.upon_value]
 go_wp2
 go_ret
 exact ⟨rfl,rfl⟩
end
end Go.Proofs.YtihngncbioofnaaGreatDoor
namespace Go.Proofs.YtihngncbioofnaaGreatDoor
open Go Go.Sl Go.au Go.MapKept Go.RowKit Go.Sort
section
variable {α:Type} [Inhabited α] {enc:α→List Value}{k:Nat}
theorem afr (hk:∀ x,(enc x).length=k) (h0:0<k) (d:Array α):(flatK enc k d).toList=d.toList.flatMap enc:=by
 have hl:(d.toList.flatMap enc).length=k * d.toList.length:=jd fun x _=>hk x
 refine List.ext_getElem (by rw [hl,acj,size_flatK,acj,ag6]) fun t h1 h2=>?_
 have ht:t<d.size * k:=by rw [acj,size_flatK]at h1;exact h1
 have hi:t / k<d.size:=Nat.div_lt_of_lt_mul (by rw [ag6];exact ht)
 have hx:d.toList[t / k]?=some d[t / k]! := by
  rw [alv,alI hi,getElem!_pos d _ hi]
 have hm:t%k<(enc d[t / k]!).length:=by rw [hk];exact anI _ h0
 have hr:=JC (l:=d.toList) (f:=enc) (k:=k) (fun x _=>hk x) hx (aad hm)
 rw [show t / k * k+t%k=t by rw [ag6];exact Nat.div_add_mod t k,aad h2]at hr
 rw [aio hr,Array.getElem_toList,← getElem!_pos (flatK enc k d) t (by rw [size_flatK];exact ht),get_flatK _ _ _ _ ht]
 exact getElem!_pos (enc d[t / k]!) (t%k) hm
end
section
variable {w0 w:World}{R:List aH}{g n m:Nat}{T:TypeId}{cs:Array Value}{os:Array Obj}
theorem agd {fr:Nat×Nat} (d:Array Value) (hb:w.heap[g]?=some (.cells cs T fr)):(grow (putRow id (Sort.ahead w n) g 0 d) os).heap[g]?=some (.cells (putCells id 0 d cs) T fr):=by
 have hg:g<w.heap.size:=(amu.1 hb).1
 rw [heap_grow_old _ _ (by simpa using hg)]
 simp [putRow,mapBlock,Sort.ahead,amk,hb,onCells]
theorem afY (d:Array Value):w.grownBy (grow (putRow id (Sort.ahead w n) g 0 d) os) (some g):=by
 refine ⟨rfl,rfl,rfl,by simp,fun k hk hne=>?_⟩
 rw [heap_grow_old _ _ (by simpa using hk)]
 have:g≠k:=fun e=>hne (by rw [e])
 simp [putRow,mapBlock,Sort.ahead,amk,this]
theorem alh (d:Array Value) (h:d.size≤cs.size):(putCells id 0 d cs).toList.take d.size=d.toList:=by
 apply ane
 intro j
 by_cases hj:j<d.size
 ·rw [anf hj,alv]
  simp [putCells,hj,show j<cs.size by omega]
 ·rw [List.getElem?_take_eq_none oQ,ahu (by simp;omega)]
theorem akd (hp:Sat w0 w (pt g (.cells cs T (0,0))::R)) (d:Array Value):Sat w0 (grow (putRow id (Sort.ahead w n) g 0 d) os) (pt g (.cells (putCells id 0 d cs) T (0,0))::R):=by
 have hg:=afY (w:=w) (g:=g) (n:=n) (os:=os) d
 exact hp.turn hg.os hg.tape hg.output hg.size (agd (n:=n) (os:=os) d hp.at) (fun i hi hlt=>hg.block i hlt (by simpa using hi))
theorem agn {d:Array Value} (hb:w.heap[g]?=some (.cells cs T (0,0))) (ht:cs.toList.take d.size=d.toList):Holds id w g 0 d:=by
 intro j hj
 refine ⟨?_,by simp [World.frozen?,hb]⟩
 have h1:(cs.toList.take d.size)[j]?=d.toList[j]?:=by rw [ht]
 rw [anf hj]at h1
 simp only [World.cell?,hb,acp]
 simp only [Option.isSome_none,agm,ang]
 rw [← alv,h1,alv,alI hj,getElem!_pos d j hj]
 rfl
end
end Go.Proofs.YtihngncbioofnaaGreatDoor
namespace Go.Tab
open Go.ah (Bs)
open Go.Sort
theorem ak1 {V:Type} (key:V→Bs):SWO (Go.Proofs.ltOf fun x y=>Lib.compareBytes (key x) (key y)):=by
 have e:∀ x y,Go.Proofs.ltOf (fun x y=>Lib.compareBytes (key x) (key y)) x y=decide (key x<key y):=fun x y=>by
  unfold Go.Proofs.ltOf
  rw [amO,abZ,abZ]
  exact Ig _ _
 refine ⟨fun x=>?_,fun x y z=>?_,fun x y z=>?_⟩
 ·rw [e,adA];exact anp _
 ·rw [e,e,e,abZ,abZ,abZ];exact anV
 ·rw [e,e,e,adA,adA,adA]
  intro h1 h2 h3
  rcases H9 (key x) (key y) with q|q|q
  ·exact h1 q
  ·exact h2 (q ▸ h3)
  ·rcases H9 (key y) (key z) with p|p|p
   ·exact h2 p
   ·exact anp _ (anV q (p ▸ h3))
   ·exact anp _ (anV (anV h3 p) q)
theorem akL {V:Type} [Inhabited V] {key:V→Bs}{d d':Array V} (hp:PermIn 0 d.size d d') (hs:SortedIn (Go.Proofs.ltOf fun x y=>Lib.compareBytes (key x) (key y)) 0 d.size d') :
  d'.toList.Perm d.toList∧d'.toList.Pairwise fun a b=>¬ key b<key a:=by
 obtain ⟨h1,_,h3⟩:=hp
 constructor
 ·have e:∀ a:Array V,a.extract 0 a.size=a:=fun a=>by simp
  have h3':=h3
  rw [e d,← h1,e d']at h3'
  exact h3'
 ·rw [amL]
  intro i j hi hj hij
  rw [acj]at hi hj
  have:=hs i j (acv _) hij oQ
  rw [getElem!_pos d' i hi,getElem!_pos d' j hj]at this
  unfold Go.Proofs.ltOf at this
  rw [adA,Ig]at this
  simpa using this
theorem OM {V:Type}{s l:List (Slot V)}{m:Bs→Option V} (g:Good s) (hm:∀ k v,Has s k v↔m k=some v) (hp:l.Perm (s.filter fun x=>decide (x.st=1))) (hs:l.Pairwise fun a b=>¬ b.key<a.key) :
  Lists m (l.map fun x=>(x.key,x.val))∧∀ x∈l,x.st=1∧x.key.length=32:=by
 have hmem:∀ x,x∈l↔x∈s∧x.st=1:=fun x=>by rw [hp.mem_iff,ab1,abZ]
 have hnd:l.Pairwise fun a b=>a.key≠b.key:=by
  have h0:(s.filter fun x=>decide (x.st=1)).Pairwise fun a b=>a.key≠b.key:=by
   rw [List.pairwise_filter,amL]
   intro i j hi hj hij h1 h2 h3
   have:=g.one (aad hi) (aad hj) (by simpa using h1) (by simpa using h2) h3
   omega
  exact (hp.pairwise_iff (fun {a b} h=>Ne.symm h)).2 h0
 refine ⟨⟨?_,fun k v=>?_⟩,fun x hx=>⟨((hmem x).1 hx).2,g.key x ((hmem x).1 hx).1⟩⟩
 ·rw [amx]
  refine (hs.and hnd).imp fun {a b} h=>?_
  rcases H9 a.key b.key with q|q|q
  ·exact q
  ·exact absurd q h.2
  ·exact absurd q h.1
 ·rw [← hm,abA]
  constructor
  ·rintro ⟨x,hx,e⟩
   obtain ⟨a,b⟩:=(hmem x).1 hx
   obtain ⟨i,hi,he⟩:=anq a
   cases e
   exact ⟨i,x,by rw [aad hi,he],b,rfl,rfl⟩
  ·rintro ⟨i,x,hi,a,rfl,rfl⟩
   exact ⟨x,(hmem x).2 ⟨abn hi,a⟩,rfl⟩
end Go.Tab
namespace Go.Proofs.YtihngncbioofnaaGreatDoor
open Go Go.Sl Go.au Go.MapKept Go.RowKit
section
variable {w0 w:World}{F R:List aH}{p n gn d c:Nat}{sv v:Value}{k:ah.Bs}{s:List (Tab.Slot (Rep.dM))}{a:Option Addr}
theorem Jm (hl:0<s.length) (h:Sat w0 w (fG p 250 (.slice a s.length c) n gn::F)) :
  Calls Tryz.prog 189 #[ptr p] w (aP fun v w'=>v = .bool true∧w=w'):=by
 have e0:w.cell? ⟨p,0,none⟩=some (.slice a s.length c):=h.cellAt 0 _ rfl
 have c1:(0:Int)<(s.length:Int):=oQ
 go_enter Tryz.func189,Tryz.ntmps189
 go_wp2
 go_ret
 exact ⟨_,rfl,rfl,rfl⟩
theorem OW {p : Prop} (h : p := by
 have Hk:=uQ hk;have HG:=uQ g;have HE:=uQ he;have Hc:=uQ hc
 have Hlen:=uQ (show ∀ x∈s,(slotL kX x).length=sU from fun x hx=>ji kX x (g.key x hx) Ko (Kw _))
 obtain ⟨la,lc,rfl⟩:=jI Hlen.out (Sat.rd (h.pick aX)) aN
 obtain ⟨j,hj,_⟩:=g.pow
 have Xh:j<40:=by
  rcases alK j 40 with q|q
  ·exact q
  ·have:2^40≤2^j:=am3 aN q
   have IE:(2:Nat)^40=1099511627776:=by decide
   omega
 have Hj:=uQ hj;have Tc:=uQ Xh
 have Hd:=uQ (show d<s.length from he.lt)
 have hp0:0<s.length:=g.jB
 have jo:=uQ hp0
 have Hpz:=uQ (Tab.aiE (k:=k) hp0)
 clear hj Xh hk g he hc hp0
 go_enter Rk,Rl
 go_wp2_with ((with_reducible refine fO ⟨?_⟩);refine fU aQ ay ay ?_;intro bB wB hB)
 have hB1:=hB.drew
 clear hB
 refine dU [6,7] (fun w'=>w'.rangeAt bB 0 (aA k)∧w'.cell? ⟨p,0,none⟩=some (.slice la s.length lc)) ak ?_
 have hG:World.rangeAt _ bB 0 (aA k)∧World.cell? _ ⟨p,0,none⟩=some (.slice la s.length lc):=⟨oH (hB1.pk (A:=pt bB (.cells (aA k).toArray 50 (0,0)))),hB1.cellP bF 0 rfl⟩
 refine ig 0 ay ak fE (iT (b:=bB) (o:=0) (aA k) aj Tryz.underlying50 rfl (by rw [aZ,Hk.out];kernel_rfl) (fun w hw=>hw.1)) aQ gQ ?_
 refine rP 1 ?_ (y:=bf)
 refine rP 2 ?_ (y:=dS)
 refine rP 3 ?_ (y:=bU)
 refine rt 4 (h:=?_)
 refine rP 5 ?_ (y:=(vW ay eH))
 clear hG
 have hh:=agp k Hk.out j Tc.out hB1
 rw [← Hj.out]at hh
 refine cO 6 ay ak (fun K hK=>?_)
 (refine iG ak ay ay ?_)
 refine hh.mono ?_
 rintro ee w2 ⟨v,rfl,rfl,hS2⟩
 refine hK _ _ (.inl rfl) ?_
 clear hK hh hB1
 refine rP 7 ?_ (y:=gV)
 refine dO ak ?_
 try simp only [jZ]
 try go_frame
 rw [← Hpz.out]
 go_wp2_with fail
 go_loopg [7,8] d (fun g aq sq wr=>∃ e:Nat,g=d - e∧e≤d∧aq = .int .i64 (Tab.pos k s.length e:Nat)∧sq = .int .i64 ((e:Int)+1) ∧
  Sat w0 wr (pt bB (.cells (aA k).toArray 50 (0,0))::fG p CU (.slice la s.length lc) n gn::aB CV sU (.slice la s.length lc) (s.flatMap (slotL kX))::F))
 case atStart=>exact ⟨0,rfl,acv _,rfl,rfl,hS2.sb⟩
 case round=>
  obtain ⟨e,rfl,hed,rfl,rfl,hS⟩:=hrel
  clear hS2
  have hlt:=Tab.lM (k:=k) (d:=e) jo.out
  have hdl:=Hd.out
  have hcl:=Hc.out
  obtain ⟨x,hx⟩:∃ x,s[Tab.pos k s.length e]?=some x:=⟨_,aad hlt⟩
  have hxm:=abn hx
  have hst:=HG.out.st x hxm
  have Hxk:=uQ (HG.out.key x hxm)
  obtain ⟨bk,off,c',hsv,hcell⟩:=jF Hlen.out (Sat.rd (hS.pick eX)) hx aN
  have Dz:=uQ (Tab.aiD (k:=k) (d:=e) jo.out)
  have Tt:=uQ (Uf (Tab.pos k s.length e+1) j oQ (by have:=Tc.out;omega))
  have wI:=uQ (show e=d↔x.stop k from ⟨fun h=>by
    subst h
    obtain ⟨y,hy,hs⟩:=HE.out.here
    rw [hx]at hy;cases hy;exact hs,fun h=>by
    rcases alK e d with q|q
    ·exact absurd ⟨x,hx,h⟩ (HE.out.no e q)
    ·omega⟩)
  have Hx:=uQ hx
  cases hsv
  have c0:(0:Int)≤((Tab.pos k s.length e:Nat):Int):=oQ
  have c1:((Tab.pos k s.length e:Nat):Int)<(s.length:Int):=oQ
  have c2:Tab.pos k s.length e<s.length:=hlt
  have e0:wr.cell? ⟨p,0,none⟩=some (.slice (some ⟨bk,off,none⟩) s.length lc):=hS.cellP bF 0 rfl
  have gW:=Hlen.out x hxm
  clear hx hxm
  have hq:bits .and .i64 (((Tab.pos k s.length e:Nat):Int)+1) ((s.length:Int) - 1)=((Tab.pos k s.length (e+1):Nat):Int):=by
   have h1:=Tt.out
   rw [← Hj.out,Dz.out]at h1
   rw [← h1]
   congr 1
   have:=jo.out
   omega
  have hw1:IntKind.i64.wrap (((Tab.pos k s.length e:Nat):Int)+1)=((Tab.pos k s.length e:Nat):Int)+1:=abX _ oQ
  have hw2:IntKind.i64.wrap ((s.length:Int) - 1)=(s.length:Int) - 1:=abX _ oQ
  have hw3:IntKind.i64.wrap ((e:Int)+1+1)=(e:Int)+1+1:=abX _ oQ
  clear hdl hcl
  generalize hP1:Tab.pos k s.length (e+1)=P1 at hq
  have SA:=uQ hP1
  generalize hP:Tab.pos k s.length e=P0 at *
  have HP:=uQ hP
  clear hP1 hP hlt Tt Dz
  have SK:=uQ hed
  clear hed
  go_wp2_with (with_reducible apply bP)
  refine ⟨gq hS aj bF bJ ay ak ?_⟩
  go_wp2_with (with_reducible apply bP)
  refine ⟨jk (b:=bk) (o:=off+P0 * sU) (slotL kX x) aj hcell Rn rfl (by rw [gW];kernel_rfl) ?_⟩
  go_wp2_with (with_reducible apply fV)
  refine ⟨fH Rq hS rfl ?_⟩
  intro b9 w9 iW
  go_wp2_with (first|((with_reducible refine bZ ⟨?_⟩);refine gy (slotL kX x).toArray iW aj aj (by rw [abL,gW];rfl) dB (by rw [abL,gW];kernel_rfl) (by rw [acE];exact mY kX x (Q5 _)) ?_;intro w10 dN)|(with_reducible apply bP))
  refine ⟨?_⟩
  clear hS iW hcell e0
  have f0:w10.cell? ⟨b9,0,none⟩=some (.int .i64 x.st):=dN.cellP aV 0 (by rw [abT];rfl)
  have f1:w10.rangeAt b9 1 (aA x.key):=Ac (dN.pick aV)
  have f2:w10.cell? ⟨p,0,none⟩=some (.slice (some ⟨bk,off,none⟩) s.length lc):=dN.cellP bF 0 rfl
  have hend:Sat w0 w10 (pt bB (.cells (aA k).toArray 50 (0,0))::fG p CU (.slice (some ⟨bk,off,none⟩) s.length lc) n gn::aB CV sU (.slice (some ⟨bk,off,none⟩) s.length lc) (s.flatMap (slotL kX))::F):=dN.sb
  have h3:x.st=0∨x.st=1∨x.st=2:=oQ
  rcases h3 with h3|h3|h3
  ·have h4:e=d:=wI.out.2 (.inl h3)
   rw [h3]at f0
   have Hdx:=uQ (show decide (x.st=1)=false by rw [h3];rfl)
   have nC:=uQ (show (x.st:Int)=0 by rw [h3];rfl)
   clear wI hst h3 f1 f2 hq hw1 hw2 hw3 c0 c1 c2
   subst h4
   go_wp2_with fail
   have nM:=dN.drew
   clear dN
   refine dU [4,7] (fun w'=>w'.cell? ⟨b9,0,none⟩=some (.int .i64 0)) ak ?_
   have hG:World.cell? _ ⟨b9,0,none⟩=some (.int .i64 0):=nM.cellP aV 0 (by rw [abT,← nC.out];rfl)
   clear f0
   refine rP 0 ?_ (y:=bf)
   refine rP 1 ?_ (y:=bf)
   refine rP 2 ?_ (y:=bU)
   refine rt 3 (h:=?_)
   refine rP 4 ?_ (y:=jU)
   refine rP 5 ?_ (y:=gV)
   refine rP 6 ?_ (y:=gV)
   refine rP 7 ?_ (y:=gV)
   refine dO ak ?_
   clear hG
   try simp only [jZ]
   try go_frame
   go_wp2_with fail
   go_ret3
   exact ⟨_,rfl,x,by rw [HP.out];exact Hx.out,by rw [HP.out,Hdx.out];rfl,nM.sb⟩
  ·have f3:w10.rangeAt bB 0 (aA k):=oH (dN.pk (A:=pt bB (.cells (aA k).toArray 50 (0,0))))
   have hkk:=VG x.key k Hxk.out Hk.out
   rw [h3]at f0
   by_cases hxk:x.key=k
   ·have h4:e=d:=wI.out.2 (.inr ⟨h3,hxk⟩)
    have Hdx:=uQ (show decide (x.st=1)=true by rw [h3];rfl)
    have nC:=uQ (show (x.st:Int)=1 by rw [h3];rfl)
    rw [acT hxk]at hkk
    clear wI hst h3 hxk hq hw1 hw2 hw3 c0 c1 c2 f2
    subst h4
    go_wp2_with (first
     |((with_reducible refine G8 ⟨?_⟩);refine KD (o:=1) aj aj (aA x.key) _ f1 Tryz.underlying50 rfl (by rw [aZ,Hxk.out];kernel_rfl) ?_)
     |((with_reducible refine G8 ⟨?_⟩);refine KD (o:=0) aj aj (aA k) _ f3 Tryz.underlying50 rfl (by rw [aZ,Hk.out];kernel_rfl) ?_))
    clear hkk f1 f3
    have nM:=dN.drew
    clear dN
    refine dU [4,7] (fun w'=>w'.cell? ⟨b9,0,none⟩=some (.int .i64 1)) ak ?_
    have hG:World.cell? _ ⟨b9,0,none⟩=some (.int .i64 1):=nM.cellP aV 0 (by rw [abT,← nC.out];rfl)
    clear f0
    refine rP 0 ?_ (y:=bf)
    refine rP 1 ?_ (y:=bf)
    refine rP 2 ?_ (y:=bU)
    refine rt 3 (h:=?_)
    refine rP 4 ?_ (y:=jU)
    refine rP 5 ?_ (y:=gV)
    refine rP 6 ?_ (y:=gV)
    refine rP 7 ?_ (y:=gV)
    refine dO ak ?_
    clear hG
    try simp only [jZ]
    try go_frame
    go_wp2_with fail
    go_ret3
    exact ⟨_,rfl,x,by rw [HP.out];exact Hx.out,by rw [HP.out,Hdx.out];rfl,nM.sb⟩
   ·have h4:e<d:=by
     have:=SK.out
     rcases alK e d with q|q
     ·exact q
     ·exact absurd (wI.out.1 oQ) (fun h=>h.elim (fun h=>by omega) fun h=>hxk h.2)
    rw [acu hxk]at hkk
    have H4:=uQ h4
    clear wI hst h3 hxk h4
    go_wp2_with (first
     |((with_reducible refine G8 ⟨?_⟩);refine KD (o:=1) aj aj (aA x.key) _ f1 Tryz.underlying50 rfl (by rw [aZ,Hxk.out];kernel_rfl) ?_)
     |((with_reducible refine G8 ⟨?_⟩);refine KD (o:=0) aj aj (aA k) _ f3 Tryz.underlying50 rfl (by rw [aZ,Hk.out];kernel_rfl) ?_))
    go_roundg (d - (e+1))
    case measure=>have:=H4.out;omega
    case rel=>exact ⟨e+1,rfl,H4.out,by rw [SA.out],by first|rfl|go_num,dN.sb⟩
  ·have h4:e<d:=by
    have:=SK.out
    rcases alK e d with q|q
    ·exact q
    ·exact absurd (wI.out.1 oQ) (fun h=>h.elim (fun h=>by omega) fun h=>by omega)
   rw [h3]at f0
   have H4:=uQ h4
   clear wI hst h3 f1 h4
   go_wp2_with fail
   go_roundg (d - (e+1))
   case measure=>have:=H4.out;omega
   case rel=>exact ⟨e+1,rfl,H4.out,by rw [SA.out],by first|rfl|go_num,dN.sb⟩) : p := h
abbrev fK.kX:=@bW
abbrev fK.sU:Nat:=38
abbrev fK.Ko:Nat:=5
theorem fK.Kw:type_of% @uY:=@uY
theorem fK.Rk:type_of% @Tryz.func190:=@Tryz.func190
theorem fK.Rl:type_of% @Tryz.ntmps190:=@Tryz.ntmps190
abbrev fK.CU:Nat:=250
abbrev fK.CV:Nat:=289
theorem fK.Rn:type_of% @Tryz.underlying289:=@Tryz.underlying289
theorem fK.Rq:type_of% @vX:=@vX
theorem fK.Q5:type_of% @wO:=@wO
set_option maxRecDepth 20000 in
open fK in
theorem Ef (g:Tab.Good s) (hc:s.length≤1073741824) (hk:k.length=32) (he:Tab.Ends s k d) (h:Sat w0 w (fG p 250 sv n gn::aB 289 38 sv (s.flatMap (slotL bW))::F)) :
  Calls Tryz.prog 190 #[ptr p,.agg (aA k).toArray] w (aP fun v w'=>∃ x,s[Tab.pos k s.length d]?=some x∧v = .tuple #[.int .i64 (Tab.pos k s.length d:Nat),.int .i64 ((d:Int)+1),.bool (decide (x.st=1))] ∧
   Sat w0 w' (fG p 250 sv n gn::aB 289 38 sv (s.flatMap (slotL bW))::F)):=OW
end
section
variable {w0 w:World}{F R:List aH}{p n gn d c:Nat}{sv v:Value}{k:ah.Bs}{s:List (Tab.Slot (Seg.aU))}{a:Option Addr}
theorem BQ (hl:0<s.length) (h:Sat w0 w (fG p 166 (.slice a s.length c) n gn::F)) :
  Calls Tryz.prog 86 #[ptr p] w (aP fun v w'=>v = .bool true∧w=w'):=by
 have e0:w.cell? ⟨p,0,none⟩=some (.slice a s.length c):=h.cellAt 0 _ rfl
 have c1:(0:Int)<(s.length:Int):=oQ
 go_enter Tryz.func86,Tryz.ntmps86
 go_wp2
 go_ret
 exact ⟨_,rfl,rfl,rfl⟩
abbrev fM.kX:=@aT
abbrev fM.sU:Nat:=36
abbrev fM.Ko:Nat:=3
theorem fM.Kw:type_of% @su:=@su
theorem fM.Rk:type_of% @Tryz.func146:=@Tryz.func146
theorem fM.Rl:type_of% @Tryz.ntmps146:=@Tryz.ntmps146
abbrev fM.CU:Nat:=166
abbrev fM.CV:Nat:=164
theorem fM.Rn:type_of% @Tryz.underlying164:=@Tryz.underlying164
theorem fM.Rq:type_of% @uH:=@uH
theorem fM.Q5:type_of% @vP:=@vP
set_option maxRecDepth 20000 in
open fM in
theorem Bd (g:Tab.Good s) (hc:s.length≤1073741824) (hk:k.length=32) (he:Tab.Ends s k d) (h:Sat w0 w (fG p 166 sv n gn::aB 164 36 sv (s.flatMap (slotL aT))::F)) :
  Calls Tryz.prog 146 #[ptr p,.agg (aA k).toArray] w (aP fun v w'=>∃ x,s[Tab.pos k s.length d]?=some x∧v = .tuple #[.int .i64 (Tab.pos k s.length d:Nat),.int .i64 ((d:Int)+1),.bool (decide (x.st=1))] ∧
   Sat w0 w' (fG p 166 sv n gn::aB 164 36 sv (s.flatMap (slotL aT))::F)):=OW
end
def fC (p:Nat) (m:ah.Bs→Option (Rep.dM)) (B:Nat):aH:=fun h=>∃ (t:Tab.Tb (Rep.dM)) (sv:Value),(t.Ok∧t.Is m∧t.n+t.gone≤B)∧stars [fG p 250 sv t.n t.gone,aB 289 38 sv (t.slots.flatMap (slotL bW))] h
theorem F8:jy Tryz.prog 191=some (.agg (bW ⟨0,Seg.aU.zero,0⟩).toArray):=by kernel_rfl
section
variable {w0 w:World}{F R:List aH}{p B:Nat}{sv v:Value}{k:ah.Bs}{m:ah.Bs→Option (Rep.dM)}{t:Tab.Tb (Rep.dM)}
theorem fC.open (h:Sat w0 w (fC p m B::F)):∃ (t:Tab.Tb (Rep.dM)) (sv:Value),(t.Ok∧t.Is m∧t.n+t.gone≤B)∧Sat w0 w (fG p 250 sv t.n t.gone::aB 289 38 sv (t.slots.flatMap (slotL bW))::F):=by
 obtain ⟨ha,x,hx,q,r,dd,rfl,⟨t,sv,hin,hp⟩,hq⟩:=h
 refine ⟨t,sv,hin,ha,_,hx,?_⟩
 show stars ([fG p 250 sv t.n t.gone,aB 289 38 sv (t.slots.flatMap (slotL bW))]++F) _
 rw [qA]
 exact ⟨q,r,dd,rfl,hp,hq⟩
theorem fC.shut (h1:t.Ok) (h2:t.Is m) (h3:t.n+t.gone≤B) (h:Sat w0 w (fG p 250 sv t.n t.gone::aB 289 38 sv (t.slots.flatMap (slotL bW))::F)):Sat w0 w (fC p m B::F):=
 Sat.join (M:=[fG p 250 sv t.n t.gone,aB 289 38 sv (t.slots.flatMap (slotL bW))]) h fun _ hx=>⟨t,sv,⟨h1,h2,h3⟩,hx⟩
theorem ahG (h:Sat w0 w F):Calls Tryz.prog 113 #[] w (aP fun v w'=>∃ p,v=ptr p∧Sat w0 w' (fC p (fun _=>none) 0::F)):=by
 go_enter Tryz.func113,Tryz.ntmps113
 go_wp2_with (first
  |((with_reducible refine at_make ⟨?_⟩);refine CZ (e:=289) (sz:=38) (fA:=80) (n:=8) ak vX h aj aj aN aN ?_;intro bM wM hM)
  |((with_reducible refine fO ⟨?_⟩);refine fU hM ay ay ?_;intro bB wB hB))
 go_ret
 refine ⟨_,rfl,bB,rfl,?_⟩
 have e:(List.replicate 8 (slotL bW ⟨0,ah.zero32,qZ⟩)).flatten=(List.replicate 8 (⟨0,ah.zero32,qZ⟩:Tab.Slot (Rep.dM))).flatMap (slotL bW):=(Cm 8 _).symm
 rw [e]at hB
 exact fC.shut (t:=⟨List.replicate 8 ⟨0,ah.zero32,qZ⟩,0,0⟩) (Tab.O9 aN rfl) (Tab.O8 rfl 0 0) (abm 0) hB
theorem OX {p : Prop} (h : p := by
 obtain ⟨t,sv,⟨ok,is,hb⟩,hR⟩:=Q7 h
 obtain ⟨d,he⟩:=ok.ends k
 have hsz:t.slots.length≤1073741824:=by have:=ok.size;omega
 have Hlen:=uQ (show ∀ x∈t.slots,(slotL kX x).length=sU from fun x hx=>ji kX x (ok.good.key x hx) Ko (Kw _))
 obtain ⟨la,lc,rfl⟩:=jI Hlen.out (Sat.rd (hR.pick aX)) aN
 have Hk:=uQ hk;have dA:=uQ ok;have iM:=uQ is;have Hb:=uQ hb;have He:=uQ he;have gZ:=uQ hsz
 have jo:=uQ ok.good.jB
 clear h hk ok is hb he hsz hB
 go_enter Q8,Q9
 go_wp2_with (first|((with_reducible refine fO ⟨?_⟩);refine fU aQ ay ay ?_;intro bB wB hB)|(with_reducible apply fV))
 refine ⟨fH J9 hB rfl ?_⟩
 intro b4 w4 hS4
 go_wp2_with (with_reducible apply fV)
 refine ⟨fH J9 hS4 rfl ?_⟩
 intro b6 w6 hS6
 have IL:Sat w0 w6 (fG p CU (.slice la t.slots.length lc) t.n t.gone::pt b6 (.cells (kX yw).toArray Ai (0,0))::pt b4 (.cells (kX yw).toArray Ai (0,0))::pt bB (.cells (aA k).toArray 50 (0,0))::aB CV sU (.slice la t.slots.length lc) (t.slots.flatMap (slotL kX))::F):=hS6.sb
 clear hB hS4 hS6 hR
 go_wp2_with fail
 refine (Rf jo.out IL).mono ?_
 rintro ee w7 ⟨v,rfl,rfl,rfl⟩
 go_wp2_with ((with_reducible refine bP ⟨?_⟩);refine iU IL aj (aS (aS (aS aV))) Tryz.underlying50 rfl (by rw [abL,aZ,Hk.out];kernel_rfl) ?_)
 have hf:=Rh dA.out.good gZ.out Hk.out He.out (IL.sb:Sat w0 w6 (fG p CU (.slice la t.slots.length lc) t.n t.gone::aB CV sU (.slice la t.slots.length lc) (t.slots.flatMap (slotL kX))::pt b6 (.cells (kX yw).toArray Ai (0,0))::pt b4 (.cells (kX yw).toArray Ai (0,0))::F))
 clear IL
 refine hf.mono ?_
 rintro ee w8 ⟨v,rfl,x,hx,rfl,jA⟩
 clear hf
 obtain ⟨m1,m2⟩:=iM.out.some dA.out He.out hx
 have hxm:=abn hx
 have hxk:=dA.out.good.key x hxm
 obtain ⟨bk,off,c',hsv,hcell⟩:=jF Hlen.out (Sat.rd (jA.pick aX)) hx aN
 cases hsv
 have hlt:=Tab.lM (k:=k) (d:=d) jo.out
 have hval:∀ j v,(kX x.val)[j]?=some v→w8.cell? ⟨bk,off+Tab.pos k t.slots.length d * sU+33+j,none⟩=some v:=fun j v hj=>by
  rw [ank _ 33 j]
  exact hcell (33+j) v (aaJ kX x hxk hj)
 clear hcell hx hxm
 generalize Tab.pos k t.slots.length d=P0 at *
 have c0:(0:Int)≤(P0:Int):=oQ
 have c1:(P0:Int)<(t.slots.length:Int):=oQ
 have e0:w8.cell? ⟨p,0,none⟩=some (.slice (some ⟨bk,off,none⟩) t.slots.length lc):=jA.cellP bF 0 rfl
 by_cases h1:x.st=1
 ·have hd:decide (x.st=1)=true:=acT h1
  have Hm:=uQ (m1 h1)
  clear m1 m2 h1
  go_wp2_with (first
   |((with_reducible refine bP ⟨?_⟩);refine gq jA aj bF bJ ay ak ?_)
   |((with_reducible refine bP ⟨?_⟩);refine jk (b:=bk) (o:=off+P0 * sU+33) (kX x.val) aj hval CP rfl ak ?_)
   |((with_reducible refine bZ ⟨?_⟩);refine gy (kX x.val).toArray jA aj aj aj (je (je (je dB))) ak aj ?_;intro w10 dN))
  refine ⟨rfl,_,oI rfl dN aj bF CP rfl ak,_,rfl,?_,Kq dA.out iM.out Hb.out (dN.sb)⟩
  rw [Hm.out];rfl
 ·have hd:decide (x.st=1)=false:=acu h1
  have Hm:=uQ (m2 h1)
  clear m1 m2 h1
  go_wp2_with (first
   |((with_reducible refine bP ⟨?_⟩);refine iU jA aj (aS (aS (aV (A:=pt b6 (.cells (kX yw).toArray Ai (0,0)))))) CP rfl ak ?_)
   |((with_reducible refine bZ ⟨?_⟩);refine gy (kX yw).toArray jA aj aj aj (je (je (je dB))) ak aj ?_;intro w10 dN))
  refine ⟨rfl,_,oI rfl dN aj (aS (aS (aS aV))) CP rfl ak,_,rfl,?_,Kq dA.out iM.out Hb.out (dN.sb)⟩
  rw [Hm.out];rfl) : p := h
theorem fK.Q7:type_of% @fC.open:=@fC.open
theorem fK.Q8:type_of% @Tryz.func156:=@Tryz.func156
theorem fK.Q9:type_of% @Tryz.ntmps156:=@Tryz.ntmps156
theorem fK.J9:type_of% @F8:=@F8
abbrev fK.yw:=@qZ
abbrev fK.Ai:Nat:=191
theorem fK.Rf:type_of% @Jm:=@Jm
theorem fK.Rh:type_of% @Ef:=@Ef
theorem fK.CP:type_of% @Tryz.underlying191:=@Tryz.underlying191
theorem fK.Kq:type_of% @fC.shut:=@fC.shut
set_option maxRecDepth 20000 in
open fK in
theorem afK (hB:B≤268435000) (hk:k.length=32) (h:Sat w0 w (fC p m B::F)) :
  Calls Tryz.prog 156 #[ptr p,.agg (aA k).toArray] w (aP fun v w'=>v = .tuple #[.agg (bW ((m k).getD ⟨0,Seg.aU.zero,0⟩)).toArray,.bool (m k).isSome]∧Sat w0 w' (fC p m B::F)):=OX
end
section
variable {w0 w:World}{F R:List aH}{p B N:Nat}{sv v:Value}{k:ah.Bs}{m:ah.Bs→Option (Rep.dM)}{t:Tab.Tb (Rep.dM)}
set_option maxRecDepth 20000 in
theorem ai7 (ok:t.Ok) (hN:t.n≤N) (hNb:N≤134217728) (Xk:t.slots.length≤1073741824) (h:Sat w0 w (fG p 250 sv t.n t.gone::aB 289 38 sv (t.slots.flatMap (slotL bW))::F)) :
  Calls Tryz.prog 191 #[ptr p,.int .i64 N] w (aP fun _ w'=>∃ s' sv',Tab.uV t s' N∧Sat w0 w' (fG p 250 sv' t.n 0::aB 289 38 sv' (s'.flatMap (slotL bW))::F)):=by
 have dA:=uQ ok;have HN:=uQ hN;have Sv:=uQ hNb
 have Hlen:=uQ (show ∀ x∈t.slots,(slotL bW x).length=38 from fun x hx=>ji bW x (ok.good.key x hx) 5 (uY _))
 obtain ⟨la,lc,rfl⟩:=jI Hlen.out (Sat.rd (h.pick aX)) aN
 have hw0:IntKind.i64.wrap (2 * (N:Int))=2 * (N:Int):=abX _ oQ
 have XI:wrap64 (2 * (N:Int))=2 * (N:Int):=ahs _ oQ
 clear ok hN
 go_enter Tryz.func191,Tryz.ntmps191
 go_wp2_with fail
 go_loopg [4] (4 * N) (fun g cq wr=>∃ c:Nat,g=4 * N+8 - c∧cq = .int .i64 c∧(∃ j,c=2^j∧3≤j)∧8≤c∧(c=8∨c<4 * N)∧wr=w)
 case atStart=>exact ⟨8,by omega,rfl,⟨3,rfl,abm 3⟩,abm 8,.inl rfl,rfl⟩
 case round=>
  obtain ⟨c,rfl,rfl,⟨j,hj,hj3⟩,hc8,hc,rfl⟩:=hrel
  by_cases hlt:c<2 * N
  ·have c1:(c:Int)<2 * (N:Int):=by omega
   have hw1:IntKind.i64.wrap ((c:Int) * 2)=(c:Int) * 2:=abX _ oQ
   have XJ:wrap64 ((c:Int) * 2)=(c:Int) * 2:=ahs _ oQ
   have Hj:=uQ hj;have Dv:=uQ hj3;have bY:=uQ hlt;have tq:=uQ hc8
   clear hj hj3 hlt hc hc8
   go_wp2_with fail
   go_roundg (4 * N+8 - c * 2)
   case measure=>have:=bY.out;have:=tq.out;omega
   case rel=>exact ⟨c * 2,rfl,by first|rfl|go_num,⟨j+1,by rw [anC,Hj.out],by have:=Dv.out;omega⟩,by have:=tq.out;omega,.inr (by have:=bY.out;omega),rfl⟩
  ·have c1:¬ (c:Int)<2 * (N:Int):=by omega
   have HC:=uQ (show (∃ j,c=2^j∧3≤j)∧2 * N≤c∧8≤c∧(c=8∨c<4 * N) from ⟨⟨j,hj,hj3⟩,by omega,hc8,hc⟩)
   have hcb:c≤1073741824:=oQ
   have rC:=uQ hcb
   clear hj hj3 hlt hc hc8 hw0 hcb hNb
   go_wp2_with (first
    |((with_reducible refine bP ⟨?_⟩);refine gq h aj bF bJ ay ak ?_)
    |((with_reducible refine at_make ⟨?_⟩);refine CZ (e:=289) (sz:=38) (fA:=80) (n:=c) ak vX h aj aj (by have:=rC.out;omega) (by have:=rC.out;omega) ?_;intro bM wM hM)
    |((with_reducible refine bZ ⟨?_⟩);refine fD aQ aj ay pQ fP bJ ak aj ?_;intro wS hS))
   have e8:(List.replicate c (slotL bW ⟨0,ah.zero32,qZ⟩)).flatten=(List.replicate c (⟨0,ah.zero32,qZ⟩:Tab.Slot (Rep.dM))).flatMap (slotL bW):=(Cm c _).symm
   rw [e8]at hS
   have hS0:Sat w0 _ (fG p 250 (.slice (some ⟨bM,0,none⟩) c c) t.n 0::aB 289 38 (.slice (some ⟨bM,0,none⟩) c c) ((List.replicate c (⟨0,ah.zero32,qZ⟩:Tab.Slot (Rep.dM))).flatMap (slotL bW))::aB 289 38 (.slice la t.slots.length lc) (t.slots.flatMap (slotL bW))::F):=hS.sb
   clear hS hM h e8 c1
   go_wp2_with fail
   go_loopg [31] t.slots.length (fun g iq wr=>∃ (i:Nat) (cur:List (Tab.Slot (Rep.dM))),g=t.slots.length - i∧i≤t.slots.length∧iq = .int .i64 i∧Tab.Half t.slots cur i∧cur.length=c ∧
    Sat w0 wr (fG p 250 (.slice (some ⟨bM,0,none⟩) c c) t.n 0::aB 289 38 (.slice (some ⟨bM,0,none⟩) c c) (cur.flatMap (slotL bW))::aB 289 38 (.slice la t.slots.length lc) (t.slots.flatMap (slotL bW))::F))
   case atStart=>exact ⟨0,_,rfl,acv _,rfl,Tab.half_start HC.out.1 aN rfl,aeV,hS0⟩
   case round=>
    obtain ⟨i,cur,rfl,hi,rfl,hH,hcl,hS⟩:=hrel
    clear hS0
    have HH:=uQ hH;have gB:=uQ hcl
    by_cases hlt:i<t.slots.length
    rotate_left
    ·obtain rfl:i=t.slots.length:=by omega
     have c1:¬ (t.slots.length:Int)<(t.slots.length:Int):=oQ
     clear hlt hH hi
     go_wp2_with fail
     go_end0
     obtain ⟨q1,q2,q3,q4⟩:=HH.out.done
     exact ⟨_,rfl,cur,⟨q1,q2,q3.trans dA.out.n.symm,q4.trans dA.out.n.symm,by rw [gB.out];exact HC.out.2.1,by rw [gB.out];exact HC.out.2.2.1,by rw [gB.out];exact HC.out.2.2.2⟩,_,hS.sb⟩
    have c1:(i:Int)<(t.slots.length:Int):=oQ
    have hwi:=zD (i:=i)
    obtain ⟨x,hx⟩:∃ x,t.slots[i]?=some x:=⟨_,aad hlt⟩
    have hxm:=abn hx
    have hst:=dA.out.good.st x hxm
    have Hxk:=uQ (dA.out.good.key x hxm)
    obtain ⟨bk,off,c',hsv,hcell⟩:=jF Hlen.out (Sat.rd (hS.pick eX)) hx aN
    cases hsv
    have gW:=Hlen.out x hxm
    have Hx:=uQ hx;have bY:=uQ hlt
    clear hx hxm hlt hH hi
    go_wp2_with (first
     |((with_reducible refine bP ⟨?_⟩);refine jk (b:=bk) (o:=off+i * 38) (slotL bW x) aj hcell Tryz.underlying289 rfl (by rw [gW];kernel_rfl) ?_)
     |(with_reducible apply fV))
    refine ⟨fH vX hS rfl ?_⟩
    intro b7 w7 hS7
    go_wp2_with (first|((with_reducible refine bZ ⟨?_⟩);refine gy (slotL bW x).toArray hS7 aj aj (by rw [abL,gW];rfl) dB (by rw [abL,gW];kernel_rfl) (by rw [acE];exact mY bW x (wO _)) ?_;intro w10 dN)|(with_reducible apply bP))
    refine ⟨?_⟩
    clear hS hS7 hcell
    have f0:w10.cell? ⟨b7,0,none⟩=some (.int .i64 x.st):=dN.cellP aV 0 (by rw [abT];rfl)
    have f1:w10.rangeAt b7 1 (aA x.key):=Ac (dN.pick aV)
    by_cases h1:x.st=1
    rotate_left
    ·have hst1:((x.st:Int)==1)=false:=by rw [ab4];omega
     have H1:=uQ h1
     clear h1 f1
     go_wp2_with fail
     go_roundg (t.slots.length - (i+1))
     case measure=>have:=bY.out;omega
     case rel=>exact ⟨i+1,cur,rfl,bY.out,by first|rfl|go_num,HH.out.skip Hx.out H1.out,gB.out,dN.sb⟩
    ·have hus:Tab.used cur<cur.length:=by
      have h2:=HH.out.nu
      have h3:=Tab.NJ t.slots i
      have h4:=dA.out.n
      have h5:=HN.out
      have h6:=HC.out
      rw [gB.out];omega
     obtain ⟨dd,hdd⟩:=Tab.Iq (k:=x.key) HH.out.good (Tab.Iu hus)
     have H1:=uQ h1;have uM:=uQ hdd
     have hst1:((x.st:Int)==1)=true:=by rw [h1];rfl
     have wC:=uQ (show ∀ y∈cur,(slotL bW y).length=38 from fun y hy=>ji bW y (HH.out.good.key y hy) 5 (uY _))
     clear h1 hus hdd
     go_wp2_with ((with_reducible refine bP ⟨?_⟩);refine jk (b:=b7) (o:=1) (aA x.key) aj f1 Tryz.underlying50 rfl (by rw [aZ,Hxk.out];kernel_rfl) ?_)
     have hf:=Ef HH.out.good (by rw [gB.out];exact rC.out) Hxk.out uM.out (dN.sb:Sat w0 w10 (fG p 250 (.slice (some ⟨bM,0,none⟩) c c) t.n 0::aB 289 38 (.slice (some ⟨bM,0,none⟩) c c) (cur.flatMap (slotL bW))::pt b7 (.cells (slotL bW x).toArray 289 (0,0))::aB 289 38 (.slice (some ⟨bk,off,none⟩) t.slots.length lc) (t.slots.flatMap (slotL bW))::F))
     clear dN f0 f1
     refine hf.mono ?_
     rintro ee iY ⟨v,rfl,y,hy,rfl,nM⟩
     clear hf hy
     have hlt2:=Tab.lM (k:=x.key) (d:=dd) HH.out.good.jB
     rw [gB.out]at hlt2
     have wG:=uQ (yh (f:=slotL bW) (k:=38) (i:=Tab.pos x.key cur.length dd) (x:=x) wC.out gW (Tab.lM HH.out.good.jB))
     have wH:=uQ (HH.out.step dA.out.good Hx.out H1.out uM.out)
     rw [gB.out]at wG wH
     rw [gB.out]
     have hrl:(cur.flatMap (slotL bW)).length=38 * c:=by rw [jd wC.out,gB.out]
     generalize Tab.pos x.key c dd=P0 at *
     have c2:(0:Int)≤(P0:Int):=oQ
     have c3:(P0:Int)<(c:Int):=oQ
     go_wp2_with fail
     have hSd:=nM.drew
     clear nM
     refine dU [6,7] (fun w'=>w'.cell? ⟨p,0,none⟩=some (.slice (some ⟨bM,0,none⟩) c c)∧w'.rangeAt b7 0 (slotL bW x)) ak ?_
     have hG:World.cell? _ ⟨p,0,none⟩=some (.slice (some ⟨bM,0,none⟩) c c)∧World.rangeAt _ b7 0 (slotL bW x):=⟨hSd.cellP bF 0 rfl,oH (hSd.pk (A:=pt b7 (.cells (slotL bW x).toArray 289 (0,0))))⟩
     refine rP 0 ?_ (y:=bf)
     refine rP 1 ?_ (y:=dS)
     refine rP 2 ?_ (y:=bU)
     refine rt 3 (h:=?_)
     refine rP 4 ?_ (y:=bf)
     refine ig 5 ay ak fE (iT (b:=b7) (o:=0) (slotL bW x) aj Tryz.underlying289 rfl (by rw [gW];kernel_rfl) (fun w hw=>hw.2)) aQ gQ ?_
     refine rP 6 ?_ (y:=jh)
     clear hG
     refine cO 7 ay ak (fun K hK=>?_)
     refine tV (vs:=slotL bW x) (P0 * 38) hSd ay ay rfl (je dB) (by rw [gW,hrl];omega) (by rw [gW];kernel_rfl) (mY bW x (wO _)) ?_
     intro w12 iH
     refine hK _ _ (.inl rfl) ?_
     clear hK hSd
     refine dO ak ?_
     try simp only [jZ]
     try go_frame
     rw [← wG.out]at iH
     go_wp2_with fail
     go_roundg (t.slots.length - (i+1))
     case measure=>have:=bY.out;omega
     case rel=>exact ⟨i+1,_,rfl,bY.out,by first|rfl|go_num,wH.out,by rw [ag4];exact gB.out,iH.sb⟩
end
theorem aj1 (k:ah.Bs) (hk:k.length=32) (v:Rep.dM) (w:World) :
  (Instr.build 289 #[(0,.int .i64 1),(1,.agg (aA k).toArray),(2,.agg (bW v).toArray)]).run Tryz.prog w = .ok (.agg (slotL bW ⟨1,k,v⟩).toArray) w:=by
 have hbk:(aA k).toArray.size=32:=by rw [abL,aZ,hk]
 refine (anu (P:=Tryz.prog) [(0,.int .i64 1),(1,.agg (aA k).toArray),(2,.agg (bW v).toArray)] aiu vX (by
  intro p' hp
  simp only [ab5,ag3,anz]at hp
  have hzz:(Value.agg (slotL bW (⟨0,ah.zero32,qZ⟩:Tab.Slot (Rep.dM))).toArray).cells.size=38:=by
   show (slotL bW (⟨0,ah.zero32,qZ⟩:Tab.Slot (Rep.dM))).toArray.size=38
   rw [abL,ji bW _ aN 5 rfl]
  rw [hzz]
  rcases hp with rfl|rfl|rfl
  ·exact ⟨0,rfl,by show 0+1≤38;omega⟩
  ·refine ⟨1,?_,?_⟩
   ·show some (1,32)=some (1,(aA k).toArray.size);rw [hbk]
   ·show 1+(aA k).toArray.size≤38;omega
  ·exact ⟨33,rfl,by show 33+5≤38;omega⟩) w).trans ?_
 rw [show (Value.agg (slotL bW (⟨0,ah.zero32,qZ⟩:Tab.Slot (Rep.dM))).toArray).cells=(slotL bW (⟨0,ah.zero32,qZ⟩:Tab.Slot (Rep.dM))).toArray from rfl,PY bW ⟨0,ah.zero32,qZ⟩ k v aN hk rfl 5 rfl]
section
variable {w0 w:World}{F R:List aH}{p B:Nat}{sv:Value}{k:ah.Bs}{m:ah.Bs→Option (Rep.dM)}
set_option maxRecDepth 20000 in
theorem aiG (hB:B≤134217000) (hk:k.length=32) (v:Rep.dM) (h:Sat w0 w (fC p m B::F)) :
  Calls Tryz.prog 157 #[ptr p,.agg (aA k).toArray,.agg (bW v).toArray] w (aP fun _ w'=>Sat w0 w' (fC p (Tab.put m k v) (B+1)::F)):=by
 obtain ⟨t,sv,⟨ok,is,hb⟩,hR⟩:=fC.open h
 obtain ⟨d,he⟩:=ok.ends k
 have hsz:t.slots.length≤1073741824:=by have:=ok.size;omega
 have Hlen:=uQ (show ∀ x∈t.slots,(slotL bW x).length=38 from fun x hx=>ji bW x (ok.good.key x hx) 5 (uY _))
 obtain ⟨la,lc,rfl⟩:=jI Hlen.out (Sat.rd (hR.pick aX)) aN
 have hrl:0<(t.slots.flatMap (slotL bW)).length:=by rw [jd Hlen.out];have:=ok.good.jB;omega
 obtain ⟨bk,rfl⟩:=zN (hR.pick aX) hrl
 have Hk:=uQ hk;have dA:=uQ ok;have iM:=uQ is;have Hb:=uQ hb;have He:=uQ he;have gZ:=uQ hsz;have HB:=uQ hB
 have jo:=uQ ok.good.jB
 have qh:=uQ (show (aA k).length=32 by rw [aZ,hk])
 clear h hk ok is hb he hsz hB hrl
 go_enter Tryz.func157,Tryz.ntmps157
 go_wp2_with (with_reducible apply fO)
 refine ⟨fU hR ay ay ?_⟩
 intro b4 w4 hS4
 go_wp2_with (with_reducible apply fO)
 refine ⟨fU hS4 ay ay ?_⟩
 intro b5 w5 hS5
 have hA:Sat w0 w5 (fG p 250 (.slice (some ⟨bk,0,none⟩) t.slots.length lc) t.n t.gone::aB 289 38 (.slice (some ⟨bk,0,none⟩) t.slots.length lc) (t.slots.flatMap (slotL bW))::pt b4 (.cells (aA k).toArray 50 (0,0))::pt b5 (.cells (bW v).toArray 191 (0,0))::F):=hS5.sb
 clear hR hS4 hS5
 go_wp2_with fail
 refine (Jm jo.out hA).mono ?_
 rintro ee w7 ⟨v',rfl,rfl,rfl⟩
 go_wp2_with ((with_reducible refine bP ⟨?_⟩);refine iU hA aj (aS (aS (aV (A:=pt b4 (.cells (aA k).toArray 50 (0,0)))))) Tryz.underlying50 rfl (by rw [abL,qh.out];kernel_rfl) ?_)
 have hf:=Ef dA.out.good gZ.out Hk.out He.out hA
 clear hA
 refine hf.mono ?_
 rintro ee w8 ⟨v',rfl,x,hx,rfl,jA⟩
 clear hf
 have hlt:=Tab.lM (k:=k) (d:=d) jo.out
 by_cases h1:x.st=1
 ·have hd:decide (x.st=1)=true:=acT h1
  have hxm:=abn hx
  have nY:=uQ (Fp (f:=slotL bW) (k:=38) (o:=33) (x':=⟨x.st,x.key,v⟩) (vs:=bW v) Hlen.out hx (QM bW x v (dA.out.good.key x hxm) rfl) (by show 33+5≤38;decide))
  have lF:=uQ (Tab.PX dA.out He.out hx h1 v)
  have oJ:=uQ (Tab.BI iM.out (Tab.Jr dA.out.good He.out hx h1 v).2 t.n t.gone)
  have hrl:(t.slots.flatMap (slotL bW)).length=38 * t.slots.length:=jd Hlen.out
  clear hx hxm h1
  generalize Tab.pos k t.slots.length d=P0 at *
  have c0:(0:Int)≤(P0:Int):=oQ
  have c1:(P0:Int)<(t.slots.length:Int):=oQ
  go_wp2_with fail
  have hSd:=jA.drew
  clear jA
  refine dU [6,7,8] (fun w'=>w'.cell? ⟨p,0,none⟩=some (.slice (some ⟨bk,0,none⟩) t.slots.length lc)∧w'.rangeAt b5 0 (bW v)) ak ?_
  have hG:World.cell? _ ⟨p,0,none⟩=some (.slice (some ⟨bk,0,none⟩) t.slots.length lc)∧World.rangeAt _ b5 0 (bW v):=⟨hSd.cellP bF 0 rfl,oH (hSd.pk (A:=pt b5 (.cells (bW v).toArray 191 (0,0))))⟩
  refine rP 0 ?_ (y:=bf)
  refine rP 1 ?_ (y:=dS)
  refine rP 2 ?_ (y:=bU)
  refine rt 3 (h:=?_)
  refine rP 4 ?_ (y:=bf)
  refine ig 5 ay ak fE (iT (b:=b5) (o:=0) (bW v) aj Tryz.underlying191 rfl ak (fun w hw=>hw.2)) aQ gQ ?_
  refine rP 6 ?_ (y:=jh)
  refine rP 7 ?_ (y:=bU)
  clear hG
  refine cO 8 ay ak (fun K hK=>?_)
  refine tV (vs:=bW v) (P0 * 38+33) hSd ay ay rfl (je dB) (by rw [hrl];show P0 * 38+33+5≤_;omega) ak aj ?_
  intro w12 iH
  refine hK _ _ (.inl rfl) ?_
  clear hK hSd
  refine dO ak ?_
  try simp only [jZ]
  try go_frame
  rw [← nY.out]at iH
  go_wp2_with fail
  go_end0
  exact ⟨_,rfl,fC.shut (sv:= .slice (some ⟨bk,0,none⟩) t.slots.length lc) lF.out oJ.out (Nat.le_succ_of_le Hb.out) (iH.sb)⟩
 have hd:decide (x.st=1)=false:=acu h1
 have hb4:=Hb.out
 have hB4:=HB.out
 have xK:=gZ.out
 obtain ⟨hA1,hA2,hA3,xF,xB,xC,xE,xG,xH⟩:=RY t.n t.gone t.slots.length oQ xK
 have Hx:=uQ hx;have H1:=uQ h1
 clear hx h1 hb4 hB4 xK
 go_wp2_with fail
 have hSd:=jA.drew
 clear jA
 have e0:World.cell? _ ⟨p,0,none⟩=some (.slice (some ⟨bk,0,none⟩) t.slots.length lc):=hSd.cellP bF 0 rfl
 have e1:World.cell? _ ⟨p,1,none⟩=some (.int .i64 t.n):=hSd.cellP bF 1 rfl
 have e2:World.cell? _ ⟨p,2,none⟩=some (.int .i64 t.gone):=hSd.cellP bF 2 rfl
 go_region
 have hcmp:3 * t.slots.length<4 * (t.n+t.gone+1)∨4 * (t.n+t.gone+1)≤3 * t.slots.length:=oQ
 rcases hcmp with hcmp|hcmp
 focus
  have hci:(3:Int) * (t.slots.length:Int)<4 * ((t.n:Int)+(t.gone:Int)+1):=oQ
  have hrn:=ai7 (N:=t.n+1) dA.out (ahp _) (by have:=Hb.out;have:=HB.out;omega) gZ.out hSd
  rw [show (((t.n+1:Nat)):Int)=(t.n:Int)+1 by omega]at hrn
  clear hSd e0 e2
  go_wp2_with fail
  refine hrn.mono ?_
  rintro ee w9 ⟨v',rfl,s',sv',nN,iW⟩
  clear hrn e1 hci hcmp
  have hok1:=nN.ok
  have rO:=nN.is iM.out t.n 0
  have rU:4 * ((⟨s',t.n,0⟩:Tab.Tb (Rep.dM)).n+(⟨s',t.n,0⟩:Tab.Tb (Rep.dM)).gone+1)≤3 * (⟨s',t.n,0⟩:Tab.Tb (Rep.dM)).slots.length:=by have:=nN.lo;simp only;omega
  have hb1:(⟨s',t.n,0⟩:Tab.Tb (Rep.dM)).n+(⟨s',t.n,0⟩:Tab.Tb (Rep.dM)).gone≤B:=by have:=Hb.out;simp only;omega
  have dN:Sat w0 w9 (fG p 250 sv' (⟨s',t.n,0⟩:Tab.Tb (Rep.dM)).n (⟨s',t.n,0⟩:Tab.Tb (Rep.dM)).gone::aB 289 38 sv' ((⟨s',t.n,0⟩:Tab.Tb (Rep.dM)).slots.flatMap (slotL bW))::pt b4 (.cells (aA k).toArray 50 (0,0))::pt b5 (.cells (bW v).toArray 191 (0,0))::F):=iW
  clear iW nN hA1 hA2 hA3 xF xB xC xE xG xH
  generalize (⟨s',t.n,0⟩:Tab.Tb (Rep.dM))=t1 at hok1 rO rU hb1 dN
  have pz:=uQ (show ∀ x∈t1.slots,(slotL bW x).length=38 from fun x hx=>ji bW x (hok1.good.key x hx) 5 (uY _))
  obtain ⟨EJ,pI,rfl⟩:=jI pz.out (Sat.rd (dN.pick aX)) aN
  have jK:=uQ hok1;have o9:=uQ rO;have rD:=uQ rU;have Hb1:=uQ hb1
  obtain ⟨d1,he1⟩:=hok1.ends k
  have kK:=uQ he1
  have hno:m k=none:=by
   obtain ⟨_,q2⟩:=iM.out.some dA.out He.out Hx.out
   exact q2 H1.out
  have hsz1:t1.slots.length≤1073741824:=by have:=hok1.size;have:=HB.out;omega
  clear hok1 rO rU hb1 he1
  go_wp2_with ((with_reducible refine bP ⟨?_⟩);refine iU dN aj (aS (aS (aV (A:=pt b4 (.cells (aA k).toArray 50 (0,0)))))) Tryz.underlying50 rfl (by rw [abL,qh.out];kernel_rfl) ?_)
  have hf:=Ef jK.out.good hsz1 Hk.out kK.out dN
  clear dN hsz1
  refine hf.mono ?_
  rintro ee w8b ⟨v',rfl,x1,hx1,rfl,hT⟩
  have nD:=uQ hx1
  have o8:=uQ (show x1.st≠1 from fun h=>by
   have:=(o9.out.some jK.out kK.out hx1).1 h
   rw [hno]at this;cases this)
  clear hf hx1 hno Hx H1 He dA iM Hlen jo Hb gZ hlt hd
  go_wp2_with fail
 rotate_left
 focus
  have hci:¬ (3:Int) * (t.slots.length:Int)<4 * ((t.n:Int)+(t.gone:Int)+1):=oQ
  have rD:=uQ hcmp
  clear e0 e1 e2 hcmp
  go_wp2_with fail
  clear hci hA1 hA2 hA3 xF xB xC xE xG xH hlt hd jo gZ
  obtain ⟨t1,rfl⟩:∃ y,y=t:=⟨t,rfl⟩
  obtain ⟨x1,rfl⟩:∃ y,y=x:=⟨x,rfl⟩
  obtain ⟨d1,rfl⟩:∃ y,y=d:=⟨d,rfl⟩
  obtain ⟨EJ,xJ⟩:∃ y:Option Addr,y=some ⟨bk,0,none⟩:=⟨_,rfl⟩
  obtain ⟨pI,rfl⟩:∃ y,y=lc:=⟨lc,rfl⟩
  rw [← xJ]at hSd
  have hT:=hSd
  have jK:=uQ dA.out;have o9:=uQ iM.out;have Hb1:=uQ Hb.out;have kK:=uQ He.out;have nD:=uQ Hx.out;have o8:=uQ H1.out;have pz:=uQ Hlen.out
  clear hSd dA iM Hb He Hx H1 Hlen xJ
 all_goals
  have hrl:(t1.slots.flatMap (slotL bW)).length=38 * t1.slots.length:=jd pz.out
  obtain ⟨bk1,rfl⟩:=zN (hT.pick aX) (by rw [hrl];have:=jK.out.good.jB;omega)
  have nY:=uQ (yh (f:=slotL bW) (k:=38) (i:=Tab.pos k t1.slots.length d1) (x:=⟨1,k,v⟩) pz.out (ji bW _ Hk.out 5 rfl) (Tab.lM jK.out.good.jB))
  have lF:=uQ (Tab.PW jK.out rD.out kK.out nD.out o8.out Hk.out v)
  have oJ:=uQ (Tab.BI o9.out (Tab.zS jK.out.good kK.out nD.out o8.out Hk.out v).2 (t1.n+1) t1.gone)
  have hlt1:=Tab.lM (k:=k) (d:=d1) jK.out.good.jB
  have hls:=ji bW (⟨1,k,v⟩:Tab.Slot (Rep.dM)) Hk.out 5 rfl
  have hwn:IntKind.i64.wrap ((t1.n:Int)+1)=(t1.n:Int)+1:=abX _ (by have:=Hb1.out;have:=HB.out;omega)
  clear nD o8 kK jK o9 rD
  generalize Tab.pos k t1.slots.length d1=P1 at *
  have c0:(0:Int)≤(P1:Int):=oQ
  have c1:(P1:Int)<(t1.slots.length:Int):=oQ
  have hSd:=hT.drew
  clear hT
  refine dU [8,9] (fun w'=>w'.cell? ⟨p,0,none⟩=some (.slice (some ⟨bk1,0,none⟩) t1.slots.length pI)∧w'.rangeAt b4 0 (aA k)∧w'.rangeAt b5 0 (bW v)) ak ?_
  have hG:World.cell? _ ⟨p,0,none⟩=some (.slice (some ⟨bk1,0,none⟩) t1.slots.length pI)∧World.rangeAt _ b4 0 (aA k)∧World.rangeAt _ b5 0 (bW v):=⟨hSd.cellP bF 0 rfl,oH (hSd.pk (A:=pt b4 (.cells (aA k).toArray 50 (0,0)))),oH (hSd.pk (A:=pt b5 (.cells (bW v).toArray 191 (0,0))))⟩
  refine rP 0 ?_ (y:=bf)
  refine rP 1 ?_ (y:=dS)
  refine rP 2 ?_ (y:=bU)
  refine rt 3 (h:=?_)
  refine rP 4 ?_ (y:=bf)
  refine ig 5 ay ak fE (iT (b:=b4) (o:=0) (aA k) aj Tryz.underlying50 rfl (by rw [qh.out];kernel_rfl) (fun w hw=>hw.2.1)) aQ gQ ?_
  refine ig 6 ay ak fE (iT (b:=b5) (o:=0) (bW v) aj Tryz.underlying191 rfl ak (fun w hw=>hw.2.2)) aQ gQ ?_
  refine rP 7 ?_ (y:=(FZ ay ay ay (fun w=>aj1 k Hk.out v w)))
  refine rP 8 ?_ (y:=jh)
  clear hG
  refine cO 9 ay ak (fun K hK=>?_)
  refine tV (vs:=slotL bW ⟨1,k,v⟩) (P1 * 38) hSd ay ay rfl (je dB) (by rw [hrl,hls];omega) (by rw [hls];kernel_rfl) (mY bW _ aj) ?_
  intro w12 iH
  refine hK _ _ (.inl rfl) ?_
  clear hK hSd
  refine dO ak ?_
  try simp only [jZ]
  try go_frame
  rw [← nY.out]at iH
  go_wp2_with (first
   |((with_reducible refine bP ⟨?_⟩);refine gq iH aj bF bJ ay ak ?_)
   |((with_reducible refine bZ ⟨?_⟩);refine fD aQ aj ay pQ fP bJ ak aj ?_;intro wS hS))
  go_end0
  exact ⟨_,rfl,fC.shut (sv:= .slice (some ⟨bk1,0,none⟩) t1.slots.length pI) lF.out oJ.out (by have:=Hb1.out;simp only;omega) (hS.sb)⟩
end
theorem Yq {p : Prop} (h : p := by
 have h0:=Sat.start W
 have h1:=h0.alloc (.cells (slotL jC x).toArray pW)
 have h2:=(h1.alloc (.cells (slotL jC y).toArray pW)).drew
 have hsz:(W.alloc (.cells (slotL jC x).toArray pW)).heap.size=W.heap.size+1:=Array.size_push ..
 rw [hsz]at h2
 have r1:bG 1 (.slice (some ⟨W.heap.size,1,none⟩) 32 32) (aA x.key) ((W.alloc (.cells (slotL jC x).toArray pW)).alloc (.cells (slotL jC y).toArray pW)).drew:=
  ⟨_,_,_,rfl,by rw [aZ,hx],fun j z hj=>⟨_,rfl,by rw [yS];exact Ac (h2.pick aX) j z hj⟩⟩
 have r2:bG 1 (.slice (some ⟨W.heap.size+1,1,none⟩) 32 32) (aA y.key) ((W.alloc (.cells (slotL jC x).toArray pW)).alloc (.cells (slotL jC y).toArray pW)).drew:=
  ⟨_,_,_,rfl,by rw [aZ,hy],fun j z hj=>⟨_,rfl,by rw [yS];exact Ac (h2.pick aV) j z hj⟩⟩
 have hb:=UH x.key y.key r1 r2
 clear h0 h1 h2 r1 r2 hsz
 generalize Lib.compareBytes x.key y.key=r at *
 go_enter aaX,aaY
 go_wp2_with fail
 have hG:True:=trivial
 refine dU [] (fun w'=>True) ak ?_
 refine rP 0 ?_ (y:=bU)
 refine rp 1 (hy:=(by (refine Or.inl ⟨by rfl,?_⟩;((intro wq;go_simp);first|done|exact wQ)))) (h:=?_)
 refine rP 2 ?_ (y:=bU)
 refine rp 3 (hy:=(by (refine Or.inl ⟨by rfl,?_⟩;((intro wq;go_simp);first|done|exact wQ)))) (h:=?_)
 refine cO 4 ay ak (fun K hK=>?_)
 (refine iG ak ay ay ?_)
 refine hb.mono ?_
 rintro e w' ⟨rfl,rfl⟩
 refine hK _ _ (.inr (.inr rfl)) ?_
 clear hK hb
 refine rP 5 ?_ (y:=gV)
 refine dO ak ?_
 clear hG
 go_wp2_with fail
 go_ret
 exact ⟨rfl,1,#[.cells (slotL jC x).toArray pW,.cells (slotL jC y).toArray pW],by rw [Sort.alloc_eq_grow,Sort.alloc_eq_grow,Sort.grow_grow,Sort.drew_grow];rfl⟩) : p := h
abbrev fK.jC:=@bW
abbrev fK.pW:Nat:=289
theorem fK.aaX:type_of% @Tryz.func220:=@Tryz.func220
theorem fK.aaY:type_of% @Tryz.ntmps220:=@Tryz.ntmps220
set_option maxRecDepth 20000 in
open fK in
theorem U1 (x y:Tab.Slot (Rep.dM)) (hx:x.key.length=32) (hy:y.key.length=32) (W:World) :
  Calls Tryz.prog 220 #[.agg (slotL bW x).toArray,.agg (slotL bW y).toArray] W fun e w'=>e = .returned (.int .i64 (Lib.compareBytes x.key y.key))∧∃ q os',w'=Sort.grow (W.drewN q) os':=Yq
open Go.Sort
abbrev Ub:Type:={ x:Tab.Slot (Rep.dM) // x.key.length=32 }
instance:Inhabited Ub:=⟨⟨⟨0,ah.zero32,⟨0,Seg.aU.zero,0⟩⟩,rfl⟩⟩
section
variable {w0 w:World}{F:List aH}{v:Value}
theorem Yr {p : Prop} (h : p := by
 have hlen:∀ x∈l,(slotL jC x).length=nT:=fun x hx=>ji jC x (hk x hx) Kr (Kt _)
 rcases h.kP with ⟨rfl,hn',h'⟩|⟨g,n,cap,cs,rfl,hl,hn',hc,hcm,htk,hp⟩
 ·obtain rfl:l=[]:=by
   cases l with
   |nil=>rfl
   |cons x l=>rw [acG]at hn';have:=acX List.length hn';rw [aac,hlen x (.head _)]at this;simp at this
  refine (AnyF.slices_SortFunc_none Ri none 0 (.func (.func Ku) #[] #[]) w).mono ?_
  rintro e w1 ⟨rfl,rfl⟩
  exact ⟨_,rfl,[],⟨.refl _,.nil⟩,h⟩
 ·rw [jd hlen,ag6]at hl
  obtain rfl:n=l.length:=(Nat.eq_of_mul_eq_mul_right aN hl).symm
  let d:Array pX:=(l.attach.map fun x=>(⟨x.1,hk x.1 x.2⟩:pX)).toArray
  have hd:d.toList.map (·.1)=l:=by
   show (l.attach.map fun x=>(⟨x.1,hk x.1 x.2⟩:pX)).map (·.1)=l
   rw [afE]
   exact List.attach_map_subtype_val l
  have hds:d.size=l.length:=by rw [← hd,abj,acj]
  have hke:∀ x:pX,((fun x:pX=>slotL jC x.1) x).length=nT:=fun x=>ji jC x.1 x.2 Kr (Kt _)
  have hfl:∀ d:Array pX,(flatK (fun x:pX=>slotL jC x.1) nT d).toList=(d.toList.map (·.1)).flatMap (slotL jC):=fun d=>by
   rw [afr hke aN,List.flatMap_map]
  have hH:HoldsK (fun x:pX=>slotL jC x.1) nT w g 0 d:=agn hp.at (by rw [size_flatK,hds,hfl,hd];exact htk)
  refine (AnyQ.slices_SortFunc Ri nT aaZ aa0 (fun x:pX=>slotL jC x.1) hke (fun x v hv=>af0.1 (mY jC x.1 (Rj _)) v hv) (fun x y=>Lib.compareBytes x.1.key y.1.key) (Tab.ak1 fun x:pX=>x.1.key) Ku #[] g 0 cap d w (fun args w=>by kernel_rfl) (fun m os dk _ x y=>aa1 x.1 y.1 x.2 y.2 _) hH hp.lt oQ |> fun q=>(by rw [hds]at q;exact q:Calls Tryz.prog aa2 #[.slice (some ⟨g,0,none⟩) l.length cap,.func (.func Ku) #[] #[]] w _)).mono ?_
  rintro e w1 ⟨rfl,d',n',os,hpm,hst,rfl⟩
  obtain ⟨q1,q2⟩:=Tab.akL (key:=fun x:pX=>x.1.key) (by rw [hds];exact hpm) (by rw [hds];exact hst)
  have hl':d'.toList.length=l.length:=by rw [q1.length_eq,acj,hds]
  have hS:=akd (n:=n') (os:=os) hp (flatK (fun x:pX=>slotL jC x.1) nT d')
  have hsz':(flatK (fun x:pX=>slotL jC x.1) nT d').size=l.length * nT:=by rw [size_flatK,← acj,hl']
  refine ⟨_,rfl,d'.toList.map (·.1),⟨by rw [← hd];exact q1.map _,amx.2 q2⟩,?_⟩
  refine hS.kR ?_ hn' (by simpa [Sort.putCells] using hc) hcm ?_
  ·rw [← hfl,acj,hsz']
  ·rw [← hfl,← hsz']
   refine alh _ ?_
   have:l.length * nT≤cap * nT:=agi _ hn'
   omega) : p := h
abbrev fK.nT:Nat:=38
abbrev fK.Kr:Nat:=5
theorem fK.Kt:type_of% @uY:=@uY
theorem fK.Ri:type_of% @Tryz.sortA:=@Tryz.sortA
abbrev fK.Ku:Nat:=220
abbrev fK.pX:=@Ub
theorem fK.aaZ:type_of% @Tryz.isAgg289:=@Tryz.isAgg289
theorem fK.aa0:type_of% @Tryz.sizeOf289:=@Tryz.sizeOf289
theorem fK.Rj:type_of% @wO:=@wO
theorem fK.aa1:type_of% @U1:=@U1
abbrev fK.aa2:Nat:=219
open fK in
theorem akI (l:List (Tab.Slot (Rep.dM))) (hk:∀ x∈l,x.key.length=32) (hn:l.length≤1073741824) (h:Sat w0 w (aB 289 38 v (l.flatMap (slotL bW))::F)) :
  Calls Tryz.prog 219 #[v,.func (.func 220) #[] #[]] w (aP fun _ w'=>∃ l':List (Tab.Slot (Rep.dM)),(l'.Perm l∧l'.Pairwise fun a b=>¬ b.key<a.key)∧Sat w0 w' (aB 289 38 v (l'.flatMap (slotL bW))::F)):=Yr
end
end Go.Proofs.YtihngncbioofnaaGreatDoor
namespace Go.Proofs.YtihngncbioofnaaGreatDoor
open Go Go.Sl Go.au Go.MapKept Go.RowKit
section
variable {w0 w:World}{F R:List aH}{p B:Nat}{sv v:Value}{k:ah.Bs}{m:ah.Bs→Option (Rep.dM)}{t:Tab.Tb (Rep.dM)}
set_option maxRecDepth 20000 in
theorem ZM (hB:B≤13000000) (h:Sat w0 w (fC p m B::F)) :
  Calls Tryz.prog 193 #[ptr p] w (aP fun v w'=>∃ l:List (Tab.Slot (Rep.dM)),(Tab.Lists m (l.map fun x=>(x.key,x.val))∧(∀ x∈l,x.st=1∧x.key.length=32)∧l.length≤B)∧Sat w0 w' (aB 289 38 v (l.flatMap (slotL bW))::fC p m B::F)):=by
 obtain ⟨t,sv,⟨ok,is,hb⟩,hR⟩:=fC.open h
 have hsz:t.slots.length≤56000000:=by have:=ok.size;omega
 have Hlen:=uQ (show ∀ x∈t.slots,(slotL bW x).length=38 from fun x hx=>ji bW x (ok.good.key x hx) 5 (uY _))
 obtain ⟨la,lc,rfl⟩:=jI Hlen.out (Sat.rd (hR.pick aX)) aN
 have dA:=uQ ok;have iM:=uQ is;have Hb:=uQ hb;have gZ:=uQ hsz;have jo:=uQ ok.good.jB
 clear h ok is hb hB
 have hS0:Sat w0 w (aB 289 38 (.slice none 0 0) []::fG p 250 (.slice la t.slots.length lc) t.n t.gone::aB 289 38 (.slice la t.slots.length lc) (t.slots.flatMap (slotL bW))::F):=Sat.iL.2 hR
 clear hR
 go_enter Tryz.func193,Tryz.ntmps193
 go_wp2_with fail
 refine (Jm jo.out (hS0.pick aX)).mono ?_
 rintro ee w7 ⟨v,rfl,rfl,rfl⟩
 go_wp2_with ((with_reducible refine bP ⟨?_⟩);refine gq hS0 aj bF bJ ay ak ?_)
 go_loopg [3,14] t.slots.length (fun g oq iq wr=>∃ (i:Nat),g=t.slots.length - i∧i≤t.slots.length∧iq = .int .i64 i ∧
  Sat w0 wr (aB 289 38 oq (((t.slots.take i).filter fun x=>decide (x.st=1)).flatMap (slotL bW))::fG p 250 (.slice la t.slots.length lc) t.n t.gone::aB 289 38 (.slice la t.slots.length lc) (t.slots.flatMap (slotL bW))::F))
 case atStart=>exact ⟨0,rfl,acv _,rfl,hS0⟩
 case round=>
  obtain ⟨i,rfl,hi,rfl,hS⟩:=hrel
  clear hS0
  by_cases hlt:i<t.slots.length
  rotate_left
  ·obtain rfl:i=t.slots.length:=by omega
   have c1:¬ (t.slots.length:Int)<(t.slots.length:Int):=oQ
   rw [acK]at hS
   have hfk:∀ x∈t.slots.filter fun x=>decide (x.st=1),x.key.length=32:=fun x hx=>dA.out.good.key x (ab1.1 hx).1
   have hs:=akI (t.slots.filter fun x=>decide (x.st=1)) hfk (abV (agB _ _) (abV hsz aN)) hS
   clear hlt hi hS hfk
   go_wp2_with fail
   refine hs.mono ?_
   rintro ee w8 ⟨v,rfl,l,⟨h1,h2⟩,jA⟩
   clear hs
   have Hl:=uQ (Tab.OM dA.out.good iM.out h1 h2)
   have Hll:=uQ (show l.length≤B from by
    rw [h1.length_eq,← List.countP_eq_length_filter]
    have e:t.slots.countP (fun x=>decide (x.st=1))=Tab.jP t.slots:=by
     unfold Tab.jP
     refine List.countP_congr fun x _=>?_
     simp
    have:=dA.out.n;have:=Hb.out;omega)
   clear h1 h2
   go_wp2_with fail
   go_ret
   exact ⟨_,rfl,l,⟨Hl.out.1,Hl.out.2,Hll.out⟩,Sat.Zo (fC.shut dA.out iM.out Hb.out (jA.sb))⟩
  have c1:(i:Int)<(t.slots.length:Int):=oQ
  have hwi:=zD (i:=i)
  obtain ⟨x,hx⟩:∃ x,t.slots[i]?=some x:=⟨_,aad hlt⟩
  have hxm:=abn hx
  have hst:=dA.out.good.st x hxm
  have Hxk:=uQ (dA.out.good.key x hxm)
  obtain ⟨bk,off,c',hsv,hcell⟩:=jF Hlen.out (Sat.rd (hS.pick eX)) hx aN
  cases hsv
  have gW:=Hlen.out x hxm
  have htk:(t.slots.take (i+1)).filter (fun x=>decide (x.st=1))=(t.slots.take i).filter (fun x=>decide (x.st=1))++[x].filter fun x=>decide (x.st=1):=by
   rw [adT,hx,agX,amM]
  have gG:=uQ htk
  have bY:=uQ hlt
  have Oa:(((t.slots.take i).filter fun x=>decide (x.st=1)).flatMap (slotL bW)).length≤2147483648:=by
   rw [jd fun y hy=>Hlen.out y (afM (ab1.1 hy).1)]
   have h1:=agB (fun x=>decide (x.st=1)) (t.slots.take i)
   have h2:=List.length_take_le' i t.slots
   have h3:=gZ.out
   omega
  clear hx hxm hlt hi htk
  go_wp2_with (first
   |((with_reducible refine bP ⟨?_⟩);refine jk (b:=bk) (o:=off+i * 38) (slotL bW x) aj hcell Tryz.underlying289 rfl (by rw [gW];kernel_rfl) ?_)
   |(with_reducible apply fV))
  refine ⟨fH vX hS rfl ?_⟩
  intro b7 w7 hS7
  go_wp2_with (first|((with_reducible refine bZ ⟨?_⟩);refine gy (slotL bW x).toArray hS7 aj aj (by rw [abL,gW];rfl) dB (by rw [abL,gW];kernel_rfl) (by rw [acE];exact mY bW x (wO _)) ?_;intro w10 dN)|(with_reducible apply bP))
  refine ⟨?_⟩
  clear hS hS7 hcell
  have f0:w10.cell? ⟨b7,0,none⟩=some (.int .i64 x.st):=dN.cellP aV 0 (by rw [abT];rfl)
  by_cases h1:x.st=1
  rotate_left
  ·have hst1:((x.st:Int)==1)=false:=by rw [ab4];omega
   have e9:(t.slots.take (i+1)).filter (fun x=>decide (x.st=1))=(t.slots.take i).filter (fun x=>decide (x.st=1)):=by
    rw [gG.out,amv (by rw [acu h1];decide),anR,ab6]
   have E9:=uQ e9
   clear h1 e9
   go_wp2_with fail
   go_roundg (t.slots.length - (i+1))
   case measure=>have:=bY.out;omega
   case rel=>exact ⟨i+1,rfl,bY.out,by first|rfl|go_num,by rw [E9.out];exact dN.sb⟩
  ·have hst1:((x.st:Int)==1)=true:=by rw [h1];rfl
   have e9:((t.slots.take (i+1)).filter (fun x=>decide (x.st=1))).flatMap (slotL bW)=((t.slots.take i).filter (fun x=>decide (x.st=1))).flatMap (slotL bW)++slotL bW x:=by
    rw [gG.out,ani (by rw [acT h1]),anR,ac4,acG,am9,ab6]
   have E9:=uQ e9
   clear h1 e9
   go_wp2_with (first
    |((with_reducible refine bP ⟨?_⟩);refine iU dN aj bF Tryz.underlying289 rfl (by rw [abL,gW];kernel_rfl) ?_)
    |(with_reducible apply qJ))
   refine ⟨qB (e:=289) (sz:=38) (fA:=80) ak dN aj (cs:=(slotL bW x).toArray) rfl (by rw [abL,gW]) aN ?_⟩
   intro bN wN hN
   go_wp2_with (with_reducible apply nG)
   refine ⟨qY 289 38 80 ak hN aj aj bF aV (by rw [abL,gW]) (abm 1) (by rw [acE];exact mY bW x (wO _)) Oa (by rw [abL,gW];decide) aN (by rw [acE]) ?_⟩
   intro bA nA cA wA hA
   go_wp2_with fail
   rw [← E9.out]at hA
   go_roundg (t.slots.length - (i+1))
   case measure=>have:=bY.out;omega
   case rel=>exact ⟨i+1,rfl,bY.out,by first|rfl|go_num,hA.sb⟩
end
end Go.Proofs.YtihngncbioofnaaGreatDoor
namespace Go
open Go.Sl
variable {P:Program}{ops:Array Oper}{Q:Exit→Act→World→Prop}{K:Act→World→Prop}{l:Option Nat}{n:Nat}
abbrev rf (l:Option Nat):Fence:={ Fence.wide with round:=l }
abbrev calm (K:Act→World→Prop):Exit→Act→World→Prop:=Exit.then K fun _ _ _=>False
theorem MW:¬ LetsOut (calm K):=fun ⟨_,_,h⟩=>h
theorem ajm {row:String}{args:Array Value}{w:World}{R:Value→World→Prop} (h:Rows P row args w R):RowsIn (rf l) n P row args w R:=fun c cs _=>by
 obtain ⟨v,w',r,s⟩:=h c cs
 exact ⟨v,w',r,stepsIn_wide.2 s⟩
theorem Y8 {o:Oper}{a:Act}{w:World}{N N':Act→World→Prop} (ho:∀ c,o.op ≠ .defer c) (hN:∀ a w,N a w→N' a w) (h:o.wp P a w N (calm K)):o.wpIn (rf l) n P a w N' Q:=by
 refine ⟨fun _ _=>trivial,?_⟩
 rw [Oper.semAt_eq _ _ _ ho]
 unfold Oper.wp at h
 generalize (execOp a.eval o).run P w=r at h ⊢
 cases r with
 |ok x w'=>
  cases x with
  |value v=>exact hN _ _ h
  |skip=>exact hN _ _ h
  |defer d=>exact hN _ _ h
  |enter f args=>
   refine ⟨(fun hd=>by cases hd),?_⟩
   refine CallsIn.mono (callsIn_wide.2 h) fun e w'' he=>?_
   cases e with
   |returned v=>exact hN _ _ he
   |panicked c=>exact False.elim he
   |outgrown=>exact (MW he).elim
  |row row args=>exact ⟨(fun hd=>by cases hd),(ajm h).mono fun v w'' he=>hN _ _ he⟩
  |round l' f tmps assign body=>exact h.elim
  |_=>exact h.elim
 |halt x w'=>
  cases x with
  |panic v=>exact False.elim h
  |_=>exact h.elim
theorem OL {zX:List Oper} (hK:∀ a w,K a w→wpListIn (rf l) n P ops Q zX a w):∀ (rest:List Oper) (a:Act) (w:World),(∀ o∈rest,∀ c,o.op ≠ .defer c)→wpList P ops (calm K) rest a w→wpListIn (rf l) n P ops Q (rest++zX) a w
 |[],a,w,_,h=>hK _ _ h
 |o::rest,a,w,hd,h=>by
  have ih:=OL (zX:=zX) hK rest
  show if Region.wanted o (yielded ops a.tmps)=true then o.wpIn (rf l) n P a w (wpListIn (rf l) n P ops Q (rest++zX)) Q else (∀ f,o.about P w a.eval=some f→(rf l).fn f)∧wpListIn (rf l) n P ops Q (rest++zX) (a.put o.dst undef) w
  have h':if Region.wanted o (yielded ops a.tmps)=true then o.wp P a w (wpList P ops (calm K) rest) (calm K)∨(o.asks P a w∧LetsOut (calm K)) else wpList P ops (calm K) rest (a.put o.dst undef) w:=h
  split at h'
  ·rename_i hw
   rw [abN hw]
   rcases h' with h'|h'
   ·exact Y8 (hd o (.head _)) (fun a w h=>ih a w (fun o ho=>hd o (.tail _ ho)) h) h'
   ·exact (MW h'.2).elim
  ·rename_i hw
   rw [abk hw]
   exact ⟨fun _ _=>trivial,ih _ _ (fun o ho=>hd o (.tail _ ho)) h'⟩
abbrev zM (ops:Array Oper):Bool:=ops.toList.all fun o=>match o.op with | .defer _=>false|_=>true
theorem Pn (hd:zM ops=true):∀ o∈ops.toList,∀ c,o.op ≠ .defer c:=fun o ho c e=>by
 have:=(af0.1 hd) o ho
 rw [e]at this;cases this
theorem Yf {rest:List Oper}{a:Act}{w:World} (hd:∀ o∈rest,∀ c,o.op ≠ .defer c) (h:wpList P ops (calm (Q .normal)) rest a w):wpListIn (rf l) n P ops Q rest a w:=by
 have:=OL (l:=l) (n:=n) (zX:=[]) (Q:=Q) (fun _ _ h=>h) rest a w hd h
 rw [ab6]at this
 exact this
theorem ai0 {id:Nat}{a:Act}{w:World} (hd:zM ops=true) (h:wpList P ops (calm (Q .normal)) ops.toList a w):(Code.region id ops false).wpIn (rf l) n P Q a w:=
 wpIn_region_list (Yf (Pn hd) h)
theorem GR (hd:∀ o∈ops.toList,∀ c,o.op ≠ .defer c):∀ (k:Nat) (ls:Array Bool) (a:Act) (w:World),wpAny P .any ops (calm (Q .normal)) k ls a w→wpAnyIn (rf l) n P .any ops Q k ls a w
 |0,_,_,_,h=>h
 |k+1,ls,a,w,h=>by
  refine ⟨h.1,fun i hi=>?_⟩
  have h':=h.2 i hi
  unfold wpOp at h'
  unfold wpOpIn
  split at h'
  ·rename_i he;simp only [he];exact GR hd k _ _ _ h'
  ·rename_i o he
   simp only [he]
   split at h'
   ·rename_i hw
    rw [abN hw]
    rcases h' with h'|h'
    ·refine Y8 (hd o ?_) (fun a w h=>GR hd k _ a w h) h'
     rw [← alv]at he
     exact abn he
    ·exact (MW h'.2).elim
   ·rename_i hw
    rw [abk hw]
    exact ⟨fun _ _=>trivial,GR hd k _ _ _ h'⟩
theorem ai1 {id:Nat}{a:Act}{w:World} (late:List Nat) (G:World→Prop) (hd:zM ops=true) (hm:P.follows .mixedOrders=true)
  (h:jl P ops (calm (Q .normal)) late G ops.size (Array.replicate ops.size false) a w.drew):(Code.region id ops true).wpIn (rf l) n P Q a w:=
 wpIn_region_any hm (GR (Pn hd) _ _ _ _ (RJ _ _ _ _ h))
theorem uq {id:Nat}{rest:List Oper}{a:Act}{w:World} (hd:zM rest.toArray=true) (h:∀ K:Act→World→Prop,(∀ a w,Q .normal a w→K a w)→wpList P rest.toArray (Exit.then K fun _ _ _=>False) rest a w):(Code.region id rest.toArray false).wpIn (rf l) n P Q a w:=
 ai0 hd (by simpa using h _ fun _ _ h=>h)
theorem ai2 {id:Nat}{a:Act}{w:World} (late:List Nat) (G:World→Prop) (hd:zM ops=true) (hm:P.follows .mixedOrders=true)
  (h:∀ K:Act→World→Prop,(∀ a w,Q .normal a w→K a w)→jl P ops (Exit.then K fun _ _ _=>False) late G ops.size (Array.replicate ops.size false) a w.drew):(Code.region id ops true).wpIn (rf l) n P Q a w:=
 ai1 late G hd hm (h _ fun _ _ h=>h)
theorem ai3 {id:Nat}{a:Act}{w:World} (pre:List Oper) (o:Oper) (post:List Oper) (he:ops.toList=pre++o::post) (hd:zM ops=true)
  (h:wpList P ops (calm fun a w=>Region.wanted o (yielded ops a.tmps)=true∧∃ (l':Nat) (f:FuncId) (tmps:Array Value) (assign body:Code),(execOp a.eval o).run P w = .ok (.round l' f tmps assign body) w ∧
   RoundIn Fence.wide 0 P l' f tmps assign body w (fun e w'=>∃ v,e = .returned v∧wpList P ops (calm (Q .normal)) post (a.put o.dst v) w')) pre a w) :
  (Code.region id ops false).wp P Q a w:=by
 refine wpIn_wide (n:=0).1 (wpIn_region_list ?_)
 have hd':=Pn hd
 rw [he]at hd' ⊢
 refine OL (l:=none) (n:=0) (K:=_) (fun a w hk=>?_) pre a w (fun o ho=>hd' o (ahz _ ho)) h
 obtain ⟨hw,l',f,tmps,assign,body,hx,hF,hc⟩:=hk
 show if Region.wanted o (yielded ops a.tmps)=true then o.wpIn (rf none) 0 P a w (wpListIn (rf none) 0 P ops Q post) Q else _
 rw [abN hw]
 refine ⟨fun _ _=>trivial,?_⟩
 rw [Oper.semAt_eq _ _ _ (hd' o (by simp)),hx]
 refine ⟨(fun hd=>by cases hd),hF,fun c cs hro=>?_⟩
 obtain ⟨e,w',⟨v,rfl,hv⟩,hs⟩:=hc c cs hro
 exact ⟨.returned v,w',Yf (l:=none) (n:=0) (fun o ho=>hd' o (List.mem_append_right _ (.tail _ ho))) hv,hs⟩
theorem ai4 {a:Act}{w:World}{id:Nat}{o0 o1 o2 o3 o4 o o6:Oper}{c:Code} (hd:zM #[o0,o1,o2,o3,o4,o,o6]=true)
  (h:∀ K:Act→World→Prop,(∀ a w,c.wp P Q a w→K a w)→wpList P #[o0,o1,o2,o3,o4,o,o6] (calm fun a w=>Region.wanted o (yielded #[o0,o1,o2,o3,o4,o,o6] a.tmps)=true∧∃ (l':Nat) (f:FuncId) (tmps:Array Value) (assign body:Code),(execOp a.eval o).run P w = .ok (.round l' f tmps assign body) w ∧
   RoundIn Fence.wide 0 P l' f tmps assign body w (fun e w'=>∃ v,e = .returned v∧wpList P #[o0,o1,o2,o3,o4,o,o6] (Exit.then K fun _ _ _=>False) [o6] (a.put o.dst v) w')) [o0,o1,o2,o3,o4] a w) :
  (Code.seq (Code.region id #[o0,o1,o2,o3,o4,o,o6] false) c).wp P Q a w:=
 wp_seq (ai3 [o0,o1,o2,o3,o4] o [o6] rfl hd (h _ fun _ _ h=>h))
end Go
namespace Go
open Go.Sl Go.RowKit
section
variable {P:Program}{w0 w:World}{F R L:List aH}{b:Nat}{o o':Obj}{kv:List (Array Value)}{A A':List aH}
theorem Sl.Sat.putObj (o':Obj) (h:Sat w0 w (pt b o::R)):Sat w0 (w.putObj b o') (pt b o'::R):=
 h.turn rfl rfl rfl (by rw [World.putObj_size];exact abm _) (World.putObj_heap_same h.lt) fun i hi _=>World.putObj_heap_other hi
theorem Sl.Sat.GU (h:Sat w0 w (L++R)):Sat w0 w (R++L):=h.perm aml
def Iter (P:Program) (gf:Nat) (lb:Array Value) (kv:List (Array Value)) (w0:World) (A A':List aH):Prop:=
 ∀ (l:Nat) (R:List (Array Value)→List aH),
  (∀ pre x post W U,kv=pre++x::post→Sat w0 W (R pre++U)→∃ f tmps assign body,(Instr.yield l x).run P W = .ok (.round l f tmps assign body) W ∧
   RoundIn Fence.wide 0 P l f tmps assign body W (fun e W'=>e = .returned (.bool true)∧Sat w0 W' (R (pre++[x])++U))) →
  ∀ W,Sat w0 W (A++R [])→Calls P gf (#[.func (.yield l) #[] #[]]++lb) W (aP fun v W'=>Sat w0 W' (A'++R kv))
theorem abD {g:Operand}{ps:Array Tmp}{assign body:Code}{Q:Exit→Act→World→Prop}{a:Act}{gf:Nat}{lb:Array Value}
  (hg:a.eval g = .func (.func gf) #[] lb) (eg:∀ args w,(callFunc gf args).run P w = .ok (.enter gf args) w)
  (hit:Iter P gf lb kv w0 A A') (hps:∀ x∈kv,x.size=ps.size) (R:List (Array Value)→List aH) (h:Sat w0 w (A++R []))
  (agq:∀ (l:Nat) (pre:List (Array Value)) (x:Array Value) (post:List (Array Value)) (U:List aH) (W:World),kv=pre++x::post→Sat w0 W (R pre++U) →
   ∀ T,T=(ps.zip x).foldl (fun t (p,v)=>t.setIfInBounds p v) a.tmps→assign.wpIn (rf (some l)) 0 P (Exit.then (fun a₁ w₁=>∃ M:List aH,Sat w0 w₁ (M++U)∧∀ U' w₂,Sat w0 w₂ (M++U')→body.wpIn (rf (some l)) 0 P (fun e _ w₃=>e = .normal∧Sat w0 w₃ (R (pre++[x])++U')) a₁ w₂) (fun _ _ _=>False))
    { tmps:=T,defers:=[] } W)
  (hdone:∀ D w',Sat w0 w' (A'++(R kv++[pt D (.deferred (some []))]))→Q .normal { a with defers:={ target:= .collected D,args:=#[] }::a.defers } w') :
  (Code.rangeFunc g ps assign body).wp P Q a w:=by
 refine (wpIn_wide (n:=0)).1 (wpIn_rangeFunc ?_)
 intro fn hfn
 obtain ⟨rec,hrec⟩:∃ rec:LoopState→Option Code→Loop,rec=fun st pe=>{ state:=st,pending:=pe,fn,tmps:=a.tmps,params:=ps,assign,body,defers:=w.heap.size }:=⟨_,rfl⟩
 obtain ⟨D,hD⟩:∃ D,D=w.heap.size:=⟨_,rfl⟩
 obtain ⟨l,hl⟩:∃ l,l=D+1:=⟨_,rfl⟩
 obtain ⟨W1,hW1⟩:∃ W1,W1=(w.alloc (.deferred (some []))).alloc (.loop (rec .ready none)):=⟨_,rfl⟩
 have hS1:Sat w0 W1 (pt l (.loop (rec .ready none))::pt D (.deferred (some []))::(A++R [])):=by
  have:=(h.alloc (.deferred (some []))).alloc (.loop (rec .ready none))
  rw [World.size_alloc,← hW1,← hD,← hl]at this
  exact this
 refine ⟨l,[{ target:= .collected D,args:=#[] }],W1,{ target:= .fn (.func gf) lb,args:=#[.func (.yield l) #[] #[]] },W1,gf,#[.func (.yield l) #[] #[]]++lb,W1,?_,?_,?_,?_,(fun h=>by cases h),?_⟩
 ·rw [hW1,hl,hD,hrec];exact run_enterLoop_outer _ _ _ _ _
 ·simp only [resolve,hg]
  simp [go_sem]
 ·intro f' _;trivial
 ·simp [invoke,go_sem,eg]
 ·refine callsIn_wide.2 ((hit l (fun pre=>R pre++[pt l (.loop (rec .ready none)),pt D (.deferred (some []))]) ?_ W1 ?_).mono ?_)
  ·intro pre x post W U hkv hS
   have hS':Sat w0 W (pt l (.loop (rec .ready none))::(R pre++(pt D (.deferred (some []))::U))):=by
    rw [abY]at hS
    exact hS.perm am7
   have hat:=hS'.at
   have hy:=run_yield (P:=P) (args:=x) hat (by rw [hrec];exact hps x (by rw [hkv];simp))
   refine ⟨_,_,_,_,hy,roundIn_of_wpIn trivial ?_⟩
   have hr:=agq l pre x post (pt D (.deferred (some []))::U++[pt l (.loop (rec .ready none))]) W hkv (hS'.perm (by
    rw [← acY,← abY]
    exact (aml (l₁:=[pt l (.loop (rec .ready none))]) (l₂:=R pre++(pt D (.deferred (some []))::U))))) _ rfl
   have e1:((rec .ready none).params.zip x).foldl (fun tmps (t,a)=>tmps.setIfInBounds t a) (rec .ready none).tmps=(ps.zip x).foldl (fun t (p,v)=>t.setIfInBounds p v) a.tmps:=by rw [hrec]
   rw [e1]
   have e2:(rec .ready none).assign=assign:=by rw [hrec]
   have e3:(rec .ready none).body=body:=by rw [hrec]
   rw [e2,e3]
   refine wpIn_mono hr ?_
   intro e a1 w1 he
   cases e with
   |normal=>
    obtain ⟨M,hM,hb⟩:=he
    have hM':Sat w0 w1 (pt l (.loop (rec .ready none))::(M++(pt D (.deferred (some []))::U))):=hM.perm (by
     rw [← abY]
     exact aml (l₁:=M++(pt D (.deferred (some []))::U)) (l₂:=[pt l (.loop (rec .ready none))]))
    have hM2:=hM'.putObj (.loop { rec .ready none with state:= .busy })
    refine ⟨_,run_beginRound hM'.at (by rw [hrec]),?_⟩
    refine wpIn_mono (hb (pt D (.deferred (some []))::U++[pt l (.loop { rec .ready none with state:= .busy })]) _ (hM2.perm (by
     rw [← acY,← abY]
     exact (aml (l₁:=[pt l (.loop { rec .ready none with state:= .busy })]) (l₂:=M++(pt D (.deferred (some []))::U)))))) ?_
    rintro e2 a2 w2 ⟨rfl,hS2⟩
    have hS3:Sat w0 w2 (pt l (.loop { rec .ready none with state:= .busy })::(R (pre++[x])++(pt D (.deferred (some []))::U))):=hS2.perm (by
     rw [← abY]
     exact aml (l₁:=R (pre++[x])++(pt D (.deferred (some []))::U)) (l₂:=[pt l (.loop { rec .ready none with state:= .busy })]))
    refine ⟨_,_,run_endRound none hS3.at,rfl,?_⟩
    have hS4:=hS3.putObj (.loop (rec .ready none))
    have e4:(Obj.loop { { rec .ready none with state:= .busy } with state:=if (none:Option Code).isNone then .ready else .done,pending:=none }) = .loop (rec .ready none):=by rw [hrec];rfl
    rw [e4]
    refine hS4.perm ?_
    rw [abY]
    exact am7.symm
   |exit id=>exact he.elim
   |goto t=>exact he.elim
   |ret=>exact he.elim
   |panic c=>exact he.elim
   |outgrown=>exact he.elim
  ·refine hS1.perm ?_
   rw [← abY]
   exact (aml (l₁:=[pt l (.loop (rec .ready none)),pt D (.deferred (some []))]) (l₂:=A++R []))
  ·rintro e W2 ⟨v,rfl,hS⟩
   have hS':Sat w0 W2 (pt l (.loop (rec .ready none))::(A'++(R kv++[pt D (.deferred (some []))]))):=hS.perm (by
    rw [← abY,← abY]
    exact am7)
   refine ⟨none,_,by have:=run_endLoop (P:=P) hS'.at (by rw [hrec];simp);rw [show (rec .ready none).pending=none by rw [hrec]]at this;exact this,?_⟩
   exact hdone D _ (hS'.putObj _).drop
theorem X9 {fn:Func}{tmps:Array Value}{K:Ending→World→Prop}{D:Nat}{v:Value} (h:Sat w0 w (pt D (.deferred (some []))::F)) (hv:∀ w,(results fn tmps).run P w = .ok v w) (hK:∀ w',Sat w0 w' F→K (.returned v) w') :
  LeavesInM Fence.wide 0 P fn tmps K [{ target:= .collected D,args:=#[] }] .returning w:=
 ⟨by simp,.inl ⟨_,_,rfl,run_takeDeferred h.at,⟨_,hv _,hK _ ((h.putObj (.deferred none)).drop)⟩⟩⟩
def Ns (P:Program) (fn:Func) (K:Ending→World→Prop):Exit→Act→World→Prop
 |.normal,a,w | .ret,a,w=>LeavesInM Fence.wide 0 P fn a.tmps K a.defers .returning w
 |_,_,_=>False
theorem UQ {f:FuncId}{fn:Func}{c:Code}{args:Array Value}{K:Ending→World→Prop} (hf:P.funcs[f]?=some fn) (hb:fn.body=some c)
  (h:c.wp P (Ns P fn K) { tmps:=args++Array.replicate (fn.ntmps - args.size) undef,defers:=[] } w):Calls P f args w K:=
 (callsIn_wide (n:=0)).1 (callsIn_of_wp_marks hf hb trivial (wpIn_wide.2 (wp_mono h fun e a w he=>by
  cases e with
  |normal=>exact he
  |ret=>exact he
  |_=>exact he.elim)) rfl)
theorem ae5 {fn:Func}{a:Act}{K:Ending→World→Prop}{D:Nat}{v:Value} (ha:a.defers=[{ target:= .collected D,args:=#[] }]) (h:Sat w0 w (pt D (.deferred (some []))::F)) (hv:∀ w,(results fn a.tmps).run P w = .ok v w)
  (hK:∀ w',Sat w0 w' F→K (.returned v) w'):Ns P fn K .normal a w:=by
 show LeavesInM Fence.wide 0 P fn a.tmps K a.defers .returning w
 rw [ha]
 exact X9 h hv hK
end
end Go
namespace Go.Proofs.YtihngncbioofnaaGreatDoor
open Go Go.Sl Go.au Go.MapKept Go.RowKit
def yQ (x:ah.Bs×Rep.dM):Array Value:=#[.agg (aA x.1).toArray,.agg (bW x.2).toArray]
section
variable {w0 w:World}{F:List aH}{p B:Nat}{m:ah.Bs→Option (Rep.dM)}
theorem adf (h:Sat w0 w F):Calls Tryz.prog 158 #[ptr p] w
  (aP fun v w'=>∃ b,v = .func (.func 192) #[] #[ptr b]∧Sat w0 w' (pt b (.cells #[ptr p] 188 (0,0))::F)):=by
 go_enter Tryz.func158,Tryz.ntmps158
 go_wp2_with (first|((with_reducible refine fO ⟨?_⟩);refine fU aQ ay ay ?_;intro bB wB hB)|(with_reducible apply fV))
 go_ret
 exact ⟨_,rfl,bB,rfl,hB⟩
theorem Yt {p : Prop} (h : p := by
 intro ly R hY W hW
 have Hl:=uQ hl
 have hW0:Sat w0 W (CQ p m B::pt b (.cells #[ptr p] CS (0,0))::R []):=hW
 clear hW hl
 show Calls Tryz.prog aa3 #[.func (.yield ly) #[] #[],ptr b] W _
 go_enter aa4,aa5
 have hr:=aa6 hB hW0
 go_wp2_with ((with_reducible refine bP ⟨?_⟩);refine gq hW0 aj bF bJ ay ak ?_)
 clear hW0
 refine hr.mono ?_
 rintro ee w1 ⟨sv,rfl,s,⟨hs1,hs2,hs3⟩,hS1⟩
 clear hr
 have e0:l=s.map fun x=>(x.key,x.val):=Hl.out.unique hs1
 clear hs1 Hl
 subst e0
 have uS:=uQ hs2;have Hs3:=uQ hs3
 have Hlen:=uQ (show ∀ x∈s,(slotL jC x).length=nT from fun x hx=>ji jC x (hs2 x hx).2 Kr (Kt _))
 obtain ⟨la,lc,rfl⟩:=jI Hlen.out (Sat.rd hS1) aN
 have hsb:s.length≤13000000:=abV hs3 hB
 clear hs2 hs3 hB
 go_wp2_with fail
 go_loopg [8] s.length (fun g iq wr=>∃ (i:Nat),g=s.length - i∧i≤s.length∧iq = .int .i64 i ∧
  Sat w0 wr (aB pW nT (.slice la s.length lc) (s.flatMap (slotL jC))::CQ p m B::pt b (.cells #[ptr p] CS (0,0))::R (((s.take i).map fun x=>(x.key,x.val)).map vV)))
 case atStart=>exact ⟨0,rfl,acv _,rfl,hS1⟩
 case round=>
  obtain ⟨i,rfl,hi,rfl,hS⟩:=hrel
  clear hS1
  by_cases hlt:i<s.length
  rotate_left
  ·obtain rfl:i=s.length:=by omega
   have c1:¬ (s.length:Int)<(s.length:Int):=oQ
   rw [acK]at hS
   clear hlt hi
   go_wp2_with fail
   go_end0
   exact ⟨_,rfl,by rw [← afE];exact hS.drop⟩
  have c1:(i:Int)<(s.length:Int):=oQ
  have hwi:=zD (i:=i)
  obtain ⟨x,hx⟩:∃ x,s[i]?=some x:=⟨_,aad hlt⟩
  have hxm:=abn hx
  have Hxk:=uQ (uS.out x hxm).2
  obtain ⟨bk,off,c',hsv,hcell⟩:=jF Hlen.out (Sat.rd (hS.pick aV)) hx aN
  cases hsv
  have gW:=Hlen.out x hxm
  have gG:=uQ (show s.take (i+1)=s.take i++[x] by rw [adT,hx,agX])
  have bY:=uQ hlt
  have Gy:=uQ (show (s.map fun x=>(x.key,x.val)).map vV=((s.take i).map fun x=>(x.key,x.val)).map vV++vV (x.key,x.val)::((s.drop (i+1)).map fun x=>(x.key,x.val)).map vV by
   have e:s=s.take i++x::s.drop (i+1):=by
    obtain ⟨h1,rfl⟩:=abl.1 hx
    rw [← alJ h1,ac3]
   conv=>lhs;rw [e]
   simp only [ab8,aci])
  clear hx hxm hlt hi
  go_wp2_with (first
   |((with_reducible refine bP ⟨?_⟩);refine jk (b:=bk) (o:=off+i * nT) (slotL jC x) aj hcell aa7 rfl (by rw [gW];kernel_rfl) ?_)
   |(with_reducible apply fV))
  refine ⟨fH aa8 hS rfl ?_⟩
  intro b7 w7 hS7
  go_wp2_with ((with_reducible apply bZ))
  refine ⟨gy (slotL jC x).toArray hS7 aj aj (by rw [abL,gW];rfl) dB (by rw [abL,gW];kernel_rfl) (by rw [acE];exact mY jC x (Rj _)) ?_⟩
  intro w10 dN
  clear hS hS7 hcell
  have f1:w10.rangeAt b7 1 (aA x.key):=Ac (dN.pick aV)
  have f2:w10.rangeAt b7 33 (jC x.val):=akF Hxk.out (dN.pick aV)
  have e1:=Tryz.underlying50
  have nM:Sat w0 w10 (R (((s.take i).map fun x=>(x.key,x.val)).map vV)++[aB pW nT (.slice (some ⟨bk,off,none⟩) s.length lc) (s.flatMap (slotL jC)),CQ p m B,pt b (.cells #[ptr p] CS (0,0))]):=
   (dN.drop:Sat w0 w10 ([aB pW nT (.slice (some ⟨bk,off,none⟩) s.length lc) (s.flatMap (slotL jC)),CQ p m B,pt b (.cells #[ptr p] CS (0,0))]++R (((s.take i).map fun x=>(x.key,x.val)).map vV))).GU
  obtain ⟨yf,yt,ya,yb,hy,hr⟩:=hY _ _ _ w10 _ Gy.out nM
  clear nM dN hY
  go_step
  go_step
  go_step
  refine ai4 aj ?_
  intro K hK
  go_wp2_with (first
   |((with_reducible refine bP ⟨?_⟩);refine jk (b:=b7) (o:=1) (aA x.key) aj f1 e1 rfl (by rw [aZ,Hxk.out];kernel_rfl) ?_)
   |((with_reducible refine bP ⟨?_⟩);refine jk (b:=b7) (o:=33) (jC x.val) aj f2 aa9 rfl ak ?_))
  refine ⟨_,yf,yt,ya,yb,hy,hr.mono ?_⟩
  rintro ee w12 ⟨rfl,iH⟩
  refine ⟨_,rfl,?_⟩
  have tX:Sat w0 w12 (aB pW nT (.slice (some ⟨bk,off,none⟩) s.length lc) (s.flatMap (slotL jC))::CQ p m B::pt b (.cells #[ptr p] CS (0,0))::R (((s.take (i+1)).map fun x=>(x.key,x.val)).map vV)):=by
   have:=iH.GU
   rw [gG.out,ab8,ab8]
   exact this
  clear iH hr hy f1 f2
  go_wp2_with fail
  go_roundg (s.length - (i+1))
  case measure=>have:=bY.out;omega
  case rel=>exact ⟨i+1,rfl,bY.out,by first|rfl|go_num,tX⟩) : p := h
abbrev fK.CQ:=@fC
abbrev fK.CS:Nat:=188
abbrev fK.aa3:Nat:=192
theorem fK.aa4:type_of% @Tryz.func192:=@Tryz.func192
theorem fK.aa5:type_of% @Tryz.ntmps192:=@Tryz.ntmps192
theorem fK.aa6:type_of% @ZM:=@ZM
abbrev fK.vV:=@yQ
theorem fK.aa7:type_of% @Tryz.underlying289:=@Tryz.underlying289
theorem fK.aa8:type_of% @vX:=@vX
theorem fK.aa9:type_of% @Tryz.underlying191:=@Tryz.underlying191
set_option maxRecDepth 20000 in
open fK in
theorem ade {b:Nat}{l:List (ah.Bs×Rep.dM)} (hB:B≤13000000) (hl:Tab.Lists m l) :
  Iter Tryz.prog 192 #[ptr b] (l.map yQ) w0 [fC p m B,pt b (.cells #[ptr p] 188 (0,0))] [fC p m B,pt b (.cells #[ptr p] 188 (0,0))]:=Yt
end
def aJ (p:Nat) (m:ah.Bs→Option (Seg.aU)) (B:Nat):aH:=fun h=>∃ (t:Tab.Tb (Seg.aU)) (sv:Value),(t.Ok∧t.Is m∧t.n+t.gone≤B)∧stars [fG p 166 sv t.n t.gone,aB 164 36 sv (t.slots.flatMap (slotL aT))] h
theorem nU:jy Tryz.prog 94=some (.agg (aT Seg.aU.zero).toArray):=by kernel_rfl
section
variable {w0 w:World}{F R:List aH}{p B:Nat}{sv v:Value}{k:ah.Bs}{m:ah.Bs→Option (Seg.aU)}{t:Tab.Tb (Seg.aU)}
theorem aJ.open (h:Sat w0 w (aJ p m B::F)):∃ (t:Tab.Tb (Seg.aU)) (sv:Value),(t.Ok∧t.Is m∧t.n+t.gone≤B)∧Sat w0 w (fG p 166 sv t.n t.gone::aB 164 36 sv (t.slots.flatMap (slotL aT))::F):=by
 obtain ⟨ha,x,hx,q,r,dd,rfl,⟨t,sv,hin,hp⟩,hq⟩:=h
 refine ⟨t,sv,hin,ha,_,hx,?_⟩
 show stars ([fG p 166 sv t.n t.gone,aB 164 36 sv (t.slots.flatMap (slotL aT))]++F) _
 rw [qA]
 exact ⟨q,r,dd,rfl,hp,hq⟩
theorem aJ.shut (h1:t.Ok) (h2:t.Is m) (h3:t.n+t.gone≤B) (h:Sat w0 w (fG p 166 sv t.n t.gone::aB 164 36 sv (t.slots.flatMap (slotL aT))::F)):Sat w0 w (aJ p m B::F):=
 Sat.join (M:=[fG p 166 sv t.n t.gone,aB 164 36 sv (t.slots.flatMap (slotL aT))]) h fun _ hx=>⟨t,sv,⟨h1,h2,h3⟩,hx⟩
theorem ahI (h:Sat w0 w F):Calls Tryz.prog 112 #[] w (aP fun v w'=>∃ p,v=ptr p∧Sat w0 w' (aJ p (fun _=>none) 0::F)):=by
 go_enter Tryz.func112,Tryz.ntmps112
 go_wp2_with (first
  |((with_reducible refine at_make ⟨?_⟩);refine CZ (e:=164) (sz:=36) (fA:=64) (n:=8) ak uH h aj aj aN aN ?_;intro bM wM hM)
  |((with_reducible refine fO ⟨?_⟩);refine fU hM ay ay ?_;intro bB wB hB))
 go_ret
 refine ⟨_,rfl,bB,rfl,?_⟩
 have e:(List.replicate 8 (slotL aT ⟨0,ah.zero32,ru⟩)).flatten=(List.replicate 8 (⟨0,ah.zero32,ru⟩:Tab.Slot (Seg.aU))).flatMap (slotL aT):=(Cm 8 _).symm
 rw [e]at hB
 exact aJ.shut (t:=⟨List.replicate 8 ⟨0,ah.zero32,ru⟩,0,0⟩) (Tab.O9 aN rfl) (Tab.O8 rfl 0 0) (abm 0) hB
theorem fM.Q7:type_of% @aJ.open:=@aJ.open
theorem fM.Q8:type_of% @Tryz.func98:=@Tryz.func98
theorem fM.Q9:type_of% @Tryz.ntmps98:=@Tryz.ntmps98
theorem fM.J9:type_of% @nU:=@nU
abbrev fM.yw:=@ru
abbrev fM.Ai:Nat:=94
theorem fM.Rf:type_of% @BQ:=@BQ
theorem fM.Rh:type_of% @Bd:=@Bd
theorem fM.CP:type_of% @Tryz.underlying94:=@Tryz.underlying94
theorem fM.Kq:type_of% @aJ.shut:=@aJ.shut
set_option maxRecDepth 20000 in
open fM in
theorem Wq (hB:B≤268435000) (hk:k.length=32) (h:Sat w0 w (aJ p m B::F)) :
  Calls Tryz.prog 98 #[ptr p,.agg (aA k).toArray] w (aP fun v w'=>v = .tuple #[.agg (aT ((m k).getD Seg.aU.zero)).toArray,.bool (m k).isSome]∧Sat w0 w' (aJ p m B::F)):=OX
end
section
variable {w0 w:World}{F R:List aH}{p B N:Nat}{sv v:Value}{k:ah.Bs}{m:ah.Bs→Option (Seg.aU)}{t:Tab.Tb (Seg.aU)}
set_option maxRecDepth 20000 in
theorem ZJ (ok:t.Ok) (hN:t.n≤N) (hNb:N≤134217728) (Xk:t.slots.length≤1073741824) (h:Sat w0 w (fG p 166 sv t.n t.gone::aB 164 36 sv (t.slots.flatMap (slotL aT))::F)) :
  Calls Tryz.prog 147 #[ptr p,.int .i64 N] w (aP fun _ w'=>∃ s' sv',Tab.uV t s' N∧Sat w0 w' (fG p 166 sv' t.n 0::aB 164 36 sv' (s'.flatMap (slotL aT))::F)):=by
 have dA:=uQ ok;have HN:=uQ hN;have Sv:=uQ hNb
 have Hlen:=uQ (show ∀ x∈t.slots,(slotL aT x).length=36 from fun x hx=>ji aT x (ok.good.key x hx) 3 (su _))
 obtain ⟨la,lc,rfl⟩:=jI Hlen.out (Sat.rd (h.pick aX)) aN
 have hw0:IntKind.i64.wrap (2 * (N:Int))=2 * (N:Int):=abX _ oQ
 have XI:wrap64 (2 * (N:Int))=2 * (N:Int):=ahs _ oQ
 clear ok hN
 go_enter Tryz.func147,Tryz.ntmps147
 go_wp2_with fail
 go_loopg [4] (4 * N) (fun g cq wr=>∃ c:Nat,g=4 * N+8 - c∧cq = .int .i64 c∧(∃ j,c=2^j∧3≤j)∧8≤c∧(c=8∨c<4 * N)∧wr=w)
 case atStart=>exact ⟨8,by omega,rfl,⟨3,rfl,abm 3⟩,abm 8,.inl rfl,rfl⟩
 case round=>
  obtain ⟨c,rfl,rfl,⟨j,hj,hj3⟩,hc8,hc,rfl⟩:=hrel
  by_cases hlt:c<2 * N
  ·have c1:(c:Int)<2 * (N:Int):=by omega
   have hw1:IntKind.i64.wrap ((c:Int) * 2)=(c:Int) * 2:=abX _ oQ
   have XJ:wrap64 ((c:Int) * 2)=(c:Int) * 2:=ahs _ oQ
   have Hj:=uQ hj;have Dv:=uQ hj3;have bY:=uQ hlt;have tq:=uQ hc8
   clear hj hj3 hlt hc hc8
   go_wp2_with fail
   go_roundg (4 * N+8 - c * 2)
   case measure=>have:=bY.out;have:=tq.out;omega
   case rel=>exact ⟨c * 2,rfl,by first|rfl|go_num,⟨j+1,by rw [anC,Hj.out],by have:=Dv.out;omega⟩,by have:=tq.out;omega,.inr (by have:=bY.out;omega),rfl⟩
  ·have c1:¬ (c:Int)<2 * (N:Int):=by omega
   have HC:=uQ (show (∃ j,c=2^j∧3≤j)∧2 * N≤c∧8≤c∧(c=8∨c<4 * N) from ⟨⟨j,hj,hj3⟩,by omega,hc8,hc⟩)
   have hcb:c≤1073741824:=oQ
   have rC:=uQ hcb
   clear hj hj3 hlt hc hc8 hw0 hcb hNb
   go_wp2_with (first
    |((with_reducible refine bP ⟨?_⟩);refine gq h aj bF bJ ay ak ?_)
    |((with_reducible refine at_make ⟨?_⟩);refine CZ (e:=164) (sz:=36) (fA:=64) (n:=c) ak uH h aj aj (by have:=rC.out;omega) (by have:=rC.out;omega) ?_;intro bM wM hM)
    |((with_reducible refine bZ ⟨?_⟩);refine fD aQ aj ay pQ fP bJ ak aj ?_;intro wS hS))
   have e8:(List.replicate c (slotL aT ⟨0,ah.zero32,ru⟩)).flatten=(List.replicate c (⟨0,ah.zero32,ru⟩:Tab.Slot (Seg.aU))).flatMap (slotL aT):=(Cm c _).symm
   rw [e8]at hS
   have hS0:Sat w0 _ (fG p 166 (.slice (some ⟨bM,0,none⟩) c c) t.n 0::aB 164 36 (.slice (some ⟨bM,0,none⟩) c c) ((List.replicate c (⟨0,ah.zero32,ru⟩:Tab.Slot (Seg.aU))).flatMap (slotL aT))::aB 164 36 (.slice la t.slots.length lc) (t.slots.flatMap (slotL aT))::F):=hS.sb
   clear hS hM h e8 c1
   go_wp2_with fail
   go_loopg [31] t.slots.length (fun g iq wr=>∃ (i:Nat) (cur:List (Tab.Slot (Seg.aU))),g=t.slots.length - i∧i≤t.slots.length∧iq = .int .i64 i∧Tab.Half t.slots cur i∧cur.length=c ∧
    Sat w0 wr (fG p 166 (.slice (some ⟨bM,0,none⟩) c c) t.n 0::aB 164 36 (.slice (some ⟨bM,0,none⟩) c c) (cur.flatMap (slotL aT))::aB 164 36 (.slice la t.slots.length lc) (t.slots.flatMap (slotL aT))::F))
   case atStart=>exact ⟨0,_,rfl,acv _,rfl,Tab.half_start HC.out.1 aN rfl,aeV,hS0⟩
   case round=>
    obtain ⟨i,cur,rfl,hi,rfl,hH,hcl,hS⟩:=hrel
    clear hS0
    have HH:=uQ hH;have gB:=uQ hcl
    by_cases hlt:i<t.slots.length
    rotate_left
    ·obtain rfl:i=t.slots.length:=by omega
     have c1:¬ (t.slots.length:Int)<(t.slots.length:Int):=oQ
     clear hlt hH hi
     go_wp2_with fail
     go_end0
     obtain ⟨q1,q2,q3,q4⟩:=HH.out.done
     exact ⟨_,rfl,cur,⟨q1,q2,q3.trans dA.out.n.symm,q4.trans dA.out.n.symm,by rw [gB.out];exact HC.out.2.1,by rw [gB.out];exact HC.out.2.2.1,by rw [gB.out];exact HC.out.2.2.2⟩,_,hS.sb⟩
    have c1:(i:Int)<(t.slots.length:Int):=oQ
    have hwi:=zD (i:=i)
    obtain ⟨x,hx⟩:∃ x,t.slots[i]?=some x:=⟨_,aad hlt⟩
    have hxm:=abn hx
    have hst:=dA.out.good.st x hxm
    have Hxk:=uQ (dA.out.good.key x hxm)
    obtain ⟨bk,off,c',hsv,hcell⟩:=jF Hlen.out (Sat.rd (hS.pick eX)) hx aN
    cases hsv
    have gW:=Hlen.out x hxm
    have Hx:=uQ hx;have bY:=uQ hlt
    clear hx hxm hlt hH hi
    go_wp2_with (first
     |((with_reducible refine bP ⟨?_⟩);refine jk (b:=bk) (o:=off+i * 36) (slotL aT x) aj hcell Tryz.underlying164 rfl (by rw [gW];kernel_rfl) ?_)
     |(with_reducible apply fV))
    refine ⟨fH uH hS rfl ?_⟩
    intro b7 w7 hS7
    go_wp2_with (first|((with_reducible refine bZ ⟨?_⟩);refine gy (slotL aT x).toArray hS7 aj aj (by rw [abL,gW];rfl) dB (by rw [abL,gW];kernel_rfl) (by rw [acE];exact mY aT x (vP _)) ?_;intro w10 dN)|(with_reducible apply bP))
    refine ⟨?_⟩
    clear hS hS7 hcell
    have f0:w10.cell? ⟨b7,0,none⟩=some (.int .i64 x.st):=dN.cellP aV 0 (by rw [abT];rfl)
    have f1:w10.rangeAt b7 1 (aA x.key):=Ac (dN.pick aV)
    by_cases h1:x.st=1
    rotate_left
    ·have hst1:((x.st:Int)==1)=false:=by rw [ab4];omega
     have H1:=uQ h1
     clear h1 f1
     go_wp2_with fail
     go_roundg (t.slots.length - (i+1))
     case measure=>have:=bY.out;omega
     case rel=>exact ⟨i+1,cur,rfl,bY.out,by first|rfl|go_num,HH.out.skip Hx.out H1.out,gB.out,dN.sb⟩
    ·have hus:Tab.used cur<cur.length:=by
      have h2:=HH.out.nu
      have h3:=Tab.NJ t.slots i
      have h4:=dA.out.n
      have h5:=HN.out
      have h6:=HC.out
      rw [gB.out];omega
     obtain ⟨dd,hdd⟩:=Tab.Iq (k:=x.key) HH.out.good (Tab.Iu hus)
     have H1:=uQ h1;have uM:=uQ hdd
     have hst1:((x.st:Int)==1)=true:=by rw [h1];rfl
     have wC:=uQ (show ∀ y∈cur,(slotL aT y).length=36 from fun y hy=>ji aT y (HH.out.good.key y hy) 3 (su _))
     clear h1 hus hdd
     go_wp2_with ((with_reducible refine bP ⟨?_⟩);refine jk (b:=b7) (o:=1) (aA x.key) aj f1 Tryz.underlying50 rfl (by rw [aZ,Hxk.out];kernel_rfl) ?_)
     have hf:=Bd HH.out.good (by rw [gB.out];exact rC.out) Hxk.out uM.out (dN.sb:Sat w0 w10 (fG p 166 (.slice (some ⟨bM,0,none⟩) c c) t.n 0::aB 164 36 (.slice (some ⟨bM,0,none⟩) c c) (cur.flatMap (slotL aT))::pt b7 (.cells (slotL aT x).toArray 164 (0,0))::aB 164 36 (.slice (some ⟨bk,off,none⟩) t.slots.length lc) (t.slots.flatMap (slotL aT))::F))
     clear dN f0 f1
     refine hf.mono ?_
     rintro ee iY ⟨v,rfl,y,hy,rfl,nM⟩
     clear hf hy
     have hlt2:=Tab.lM (k:=x.key) (d:=dd) HH.out.good.jB
     rw [gB.out]at hlt2
     have wG:=uQ (yh (f:=slotL aT) (k:=36) (i:=Tab.pos x.key cur.length dd) (x:=x) wC.out gW (Tab.lM HH.out.good.jB))
     have wH:=uQ (HH.out.step dA.out.good Hx.out H1.out uM.out)
     rw [gB.out]at wG wH
     rw [gB.out]
     have hrl:(cur.flatMap (slotL aT)).length=36 * c:=by rw [jd wC.out,gB.out]
     generalize Tab.pos x.key c dd=P0 at *
     have c2:(0:Int)≤(P0:Int):=oQ
     have c3:(P0:Int)<(c:Int):=oQ
     go_wp2_with fail
     have hSd:=nM.drew
     clear nM
     refine dU [6,7] (fun w'=>w'.cell? ⟨p,0,none⟩=some (.slice (some ⟨bM,0,none⟩) c c)∧w'.rangeAt b7 0 (slotL aT x)) ak ?_
     have hG:World.cell? _ ⟨p,0,none⟩=some (.slice (some ⟨bM,0,none⟩) c c)∧World.rangeAt _ b7 0 (slotL aT x):=⟨hSd.cellP bF 0 rfl,oH (hSd.pk (A:=pt b7 (.cells (slotL aT x).toArray 164 (0,0))))⟩
     refine rP 0 ?_ (y:=bf)
     refine rP 1 ?_ (y:=dS)
     refine rP 2 ?_ (y:=bU)
     refine rt 3 (h:=?_)
     refine rP 4 ?_ (y:=bf)
     refine ig 5 ay ak fE (iT (b:=b7) (o:=0) (slotL aT x) aj Tryz.underlying164 rfl (by rw [gW];kernel_rfl) (fun w hw=>hw.2)) aQ gQ ?_
     refine rP 6 ?_ (y:=jh)
     clear hG
     refine cO 7 ay ak (fun K hK=>?_)
     refine tV (vs:=slotL aT x) (P0 * 36) hSd ay ay rfl (je dB) (by rw [gW,hrl];omega) (by rw [gW];kernel_rfl) (mY aT x (vP _)) ?_
     intro w12 iH
     refine hK _ _ (.inl rfl) ?_
     clear hK hSd
     refine dO ak ?_
     try simp only [jZ]
     try go_frame
     rw [← wG.out]at iH
     go_wp2_with fail
     go_roundg (t.slots.length - (i+1))
     case measure=>have:=bY.out;omega
     case rel=>exact ⟨i+1,_,rfl,bY.out,by first|rfl|go_num,wH.out,by rw [ag4];exact gB.out,iH.sb⟩
end
theorem aj6 (k:ah.Bs) (hk:k.length=32) (v:Seg.aU) (w:World) :
  (Instr.build 164 #[(0,.int .i64 1),(1,.agg (aA k).toArray),(2,.agg (aT v).toArray)]).run Tryz.prog w = .ok (.agg (slotL aT ⟨1,k,v⟩).toArray) w:=by
 have hbk:(aA k).toArray.size=32:=by rw [abL,aZ,hk]
 refine (anu (P:=Tryz.prog) [(0,.int .i64 1),(1,.agg (aA k).toArray),(2,.agg (aT v).toArray)] Zm uH (by
  intro p' hp
  simp only [ab5,ag3,anz]at hp
  have hzz:(Value.agg (slotL aT (⟨0,ah.zero32,ru⟩:Tab.Slot (Seg.aU))).toArray).cells.size=36:=by
   show (slotL aT (⟨0,ah.zero32,ru⟩:Tab.Slot (Seg.aU))).toArray.size=36
   rw [abL,ji aT _ aN 3 rfl]
  rw [hzz]
  rcases hp with rfl|rfl|rfl
  ·exact ⟨0,rfl,by show 0+1≤36;omega⟩
  ·refine ⟨1,?_,?_⟩
   ·show some (1,32)=some (1,(aA k).toArray.size);rw [hbk]
   ·show 1+(aA k).toArray.size≤36;omega
  ·exact ⟨33,rfl,by show 33+3≤36;omega⟩) w).trans ?_
 rw [show (Value.agg (slotL aT (⟨0,ah.zero32,ru⟩:Tab.Slot (Seg.aU))).toArray).cells=(slotL aT (⟨0,ah.zero32,ru⟩:Tab.Slot (Seg.aU))).toArray from rfl,PY aT ⟨0,ah.zero32,ru⟩ k v aN hk rfl 3 rfl]
section
variable {w0 w:World}{F R:List aH}{p B:Nat}{sv:Value}{k:ah.Bs}{m:ah.Bs→Option (Seg.aU)}
set_option maxRecDepth 20000 in
theorem PS (hB:B≤134217000) (hk:k.length=32) (v:Seg.aU) (h:Sat w0 w (aJ p m B::F)) :
  Calls Tryz.prog 96 #[ptr p,.agg (aA k).toArray,.agg (aT v).toArray] w (aP fun _ w'=>Sat w0 w' (aJ p (Tab.put m k v) (B+1)::F)):=by
 obtain ⟨t,sv,⟨ok,is,hb⟩,hR⟩:=aJ.open h
 obtain ⟨d,he⟩:=ok.ends k
 have hsz:t.slots.length≤1073741824:=by have:=ok.size;omega
 have Hlen:=uQ (show ∀ x∈t.slots,(slotL aT x).length=36 from fun x hx=>ji aT x (ok.good.key x hx) 3 (su _))
 obtain ⟨la,lc,rfl⟩:=jI Hlen.out (Sat.rd (hR.pick aX)) aN
 have hrl:0<(t.slots.flatMap (slotL aT)).length:=by rw [jd Hlen.out];have:=ok.good.jB;omega
 obtain ⟨bk,rfl⟩:=zN (hR.pick aX) hrl
 have Hk:=uQ hk;have dA:=uQ ok;have iM:=uQ is;have Hb:=uQ hb;have He:=uQ he;have gZ:=uQ hsz;have HB:=uQ hB
 have jo:=uQ ok.good.jB
 have qh:=uQ (show (aA k).length=32 by rw [aZ,hk])
 clear h hk ok is hb he hsz hB hrl
 go_enter Tryz.func96,Tryz.ntmps96
 go_wp2_with (with_reducible apply fO)
 refine ⟨fU hR ay ay ?_⟩
 intro b4 w4 hS4
 go_wp2_with (with_reducible apply fO)
 refine ⟨fU hS4 ay ay ?_⟩
 intro b5 w5 hS5
 have hA:Sat w0 w5 (fG p 166 (.slice (some ⟨bk,0,none⟩) t.slots.length lc) t.n t.gone::aB 164 36 (.slice (some ⟨bk,0,none⟩) t.slots.length lc) (t.slots.flatMap (slotL aT))::pt b4 (.cells (aA k).toArray 50 (0,0))::pt b5 (.cells (aT v).toArray 94 (0,0))::F):=hS5.sb
 clear hR hS4 hS5
 go_wp2_with fail
 refine (BQ jo.out hA).mono ?_
 rintro ee w7 ⟨v',rfl,rfl,rfl⟩
 go_wp2_with ((with_reducible refine bP ⟨?_⟩);refine iU hA aj (aS (aS (aV (A:=pt b4 (.cells (aA k).toArray 50 (0,0)))))) Tryz.underlying50 rfl (by rw [abL,qh.out];kernel_rfl) ?_)
 have hf:=Bd dA.out.good gZ.out Hk.out He.out hA
 clear hA
 refine hf.mono ?_
 rintro ee w8 ⟨v',rfl,x,hx,rfl,jA⟩
 clear hf
 have hlt:=Tab.lM (k:=k) (d:=d) jo.out
 by_cases h1:x.st=1
 ·have hd:decide (x.st=1)=true:=acT h1
  have hxm:=abn hx
  have nY:=uQ (Fp (f:=slotL aT) (k:=36) (o:=33) (x':=⟨x.st,x.key,v⟩) (vs:=aT v) Hlen.out hx (QM aT x v (dA.out.good.key x hxm) rfl) (by show 33+3≤36;decide))
  have lF:=uQ (Tab.PX dA.out He.out hx h1 v)
  have oJ:=uQ (Tab.BI iM.out (Tab.Jr dA.out.good He.out hx h1 v).2 t.n t.gone)
  have hrl:(t.slots.flatMap (slotL aT)).length=36 * t.slots.length:=jd Hlen.out
  clear hx hxm h1
  generalize Tab.pos k t.slots.length d=P0 at *
  have c0:(0:Int)≤(P0:Int):=oQ
  have c1:(P0:Int)<(t.slots.length:Int):=oQ
  go_wp2_with fail
  have hSd:=jA.drew
  clear jA
  refine dU [6,7,8] (fun w'=>w'.cell? ⟨p,0,none⟩=some (.slice (some ⟨bk,0,none⟩) t.slots.length lc)∧w'.rangeAt b5 0 (aT v)) ak ?_
  have hG:World.cell? _ ⟨p,0,none⟩=some (.slice (some ⟨bk,0,none⟩) t.slots.length lc)∧World.rangeAt _ b5 0 (aT v):=⟨hSd.cellP bF 0 rfl,oH (hSd.pk (A:=pt b5 (.cells (aT v).toArray 94 (0,0))))⟩
  refine rP 0 ?_ (y:=bf)
  refine rP 1 ?_ (y:=dS)
  refine rP 2 ?_ (y:=bU)
  refine rt 3 (h:=?_)
  refine rP 4 ?_ (y:=bf)
  refine ig 5 ay ak fE (iT (b:=b5) (o:=0) (aT v) aj Tryz.underlying94 rfl ak (fun w hw=>hw.2)) aQ gQ ?_
  refine rP 6 ?_ (y:=jh)
  refine rP 7 ?_ (y:=bU)
  clear hG
  refine cO 8 ay ak (fun K hK=>?_)
  refine tV (vs:=aT v) (P0 * 36+33) hSd ay ay rfl (je dB) (by rw [hrl];show P0 * 36+33+3≤_;omega) ak aj ?_
  intro w12 iH
  refine hK _ _ (.inl rfl) ?_
  clear hK hSd
  refine dO ak ?_
  try simp only [jZ]
  try go_frame
  rw [← nY.out]at iH
  go_wp2_with fail
  go_end0
  exact ⟨_,rfl,aJ.shut (sv:= .slice (some ⟨bk,0,none⟩) t.slots.length lc) lF.out oJ.out (Nat.le_succ_of_le Hb.out) (iH.sb)⟩
 have hd:decide (x.st=1)=false:=acu h1
 have hb4:=Hb.out
 have hB4:=HB.out
 have xK:=gZ.out
 obtain ⟨hA1,hA2,hA3,xF,xB,xC,xE,xG,xH⟩:=RY t.n t.gone t.slots.length oQ xK
 have Hx:=uQ hx;have H1:=uQ h1
 clear hx h1 hb4 hB4 xK
 go_wp2_with fail
 have hSd:=jA.drew
 clear jA
 have e0:World.cell? _ ⟨p,0,none⟩=some (.slice (some ⟨bk,0,none⟩) t.slots.length lc):=hSd.cellP bF 0 rfl
 have e1:World.cell? _ ⟨p,1,none⟩=some (.int .i64 t.n):=hSd.cellP bF 1 rfl
 have e2:World.cell? _ ⟨p,2,none⟩=some (.int .i64 t.gone):=hSd.cellP bF 2 rfl
 go_region
 have hcmp:3 * t.slots.length<4 * (t.n+t.gone+1)∨4 * (t.n+t.gone+1)≤3 * t.slots.length:=oQ
 rcases hcmp with hcmp|hcmp
 focus
  have hci:(3:Int) * (t.slots.length:Int)<4 * ((t.n:Int)+(t.gone:Int)+1):=oQ
  have hrn:=ZJ (N:=t.n+1) dA.out (ahp _) (by have:=Hb.out;have:=HB.out;omega) gZ.out hSd
  rw [show (((t.n+1:Nat)):Int)=(t.n:Int)+1 by omega]at hrn
  clear hSd e0 e2
  go_wp2_with fail
  refine hrn.mono ?_
  rintro ee w9 ⟨v',rfl,s',sv',nN,iW⟩
  clear hrn e1 hci hcmp
  have hok1:=nN.ok
  have rO:=nN.is iM.out t.n 0
  have rU:4 * ((⟨s',t.n,0⟩:Tab.Tb (Seg.aU)).n+(⟨s',t.n,0⟩:Tab.Tb (Seg.aU)).gone+1)≤3 * (⟨s',t.n,0⟩:Tab.Tb (Seg.aU)).slots.length:=by have:=nN.lo;simp only;omega
  have hb1:(⟨s',t.n,0⟩:Tab.Tb (Seg.aU)).n+(⟨s',t.n,0⟩:Tab.Tb (Seg.aU)).gone≤B:=by have:=Hb.out;simp only;omega
  have dN:Sat w0 w9 (fG p 166 sv' (⟨s',t.n,0⟩:Tab.Tb (Seg.aU)).n (⟨s',t.n,0⟩:Tab.Tb (Seg.aU)).gone::aB 164 36 sv' ((⟨s',t.n,0⟩:Tab.Tb (Seg.aU)).slots.flatMap (slotL aT))::pt b4 (.cells (aA k).toArray 50 (0,0))::pt b5 (.cells (aT v).toArray 94 (0,0))::F):=iW
  clear iW nN hA1 hA2 hA3 xF xB xC xE xG xH
  generalize (⟨s',t.n,0⟩:Tab.Tb (Seg.aU))=t1 at hok1 rO rU hb1 dN
  have pz:=uQ (show ∀ x∈t1.slots,(slotL aT x).length=36 from fun x hx=>ji aT x (hok1.good.key x hx) 3 (su _))
  obtain ⟨EJ,pI,rfl⟩:=jI pz.out (Sat.rd (dN.pick aX)) aN
  have jK:=uQ hok1;have o9:=uQ rO;have rD:=uQ rU;have Hb1:=uQ hb1
  obtain ⟨d1,he1⟩:=hok1.ends k
  have kK:=uQ he1
  have hno:m k=none:=by
   obtain ⟨_,q2⟩:=iM.out.some dA.out He.out Hx.out
   exact q2 H1.out
  have hsz1:t1.slots.length≤1073741824:=by have:=hok1.size;have:=HB.out;omega
  clear hok1 rO rU hb1 he1
  go_wp2_with ((with_reducible refine bP ⟨?_⟩);refine iU dN aj (aS (aS (aV (A:=pt b4 (.cells (aA k).toArray 50 (0,0)))))) Tryz.underlying50 rfl (by rw [abL,qh.out];kernel_rfl) ?_)
  have hf:=Bd jK.out.good hsz1 Hk.out kK.out dN
  clear dN hsz1
  refine hf.mono ?_
  rintro ee w8b ⟨v',rfl,x1,hx1,rfl,hT⟩
  have nD:=uQ hx1
  have o8:=uQ (show x1.st≠1 from fun h=>by
   have:=(o9.out.some jK.out kK.out hx1).1 h
   rw [hno]at this;cases this)
  clear hf hx1 hno Hx H1 He dA iM Hlen jo Hb gZ hlt hd
  go_wp2_with fail
 rotate_left
 focus
  have hci:¬ (3:Int) * (t.slots.length:Int)<4 * ((t.n:Int)+(t.gone:Int)+1):=oQ
  have rD:=uQ hcmp
  clear e0 e1 e2 hcmp
  go_wp2_with fail
  clear hci hA1 hA2 hA3 xF xB xC xE xG xH hlt hd jo gZ
  obtain ⟨t1,rfl⟩:∃ y,y=t:=⟨t,rfl⟩
  obtain ⟨x1,rfl⟩:∃ y,y=x:=⟨x,rfl⟩
  obtain ⟨d1,rfl⟩:∃ y,y=d:=⟨d,rfl⟩
  obtain ⟨EJ,xJ⟩:∃ y:Option Addr,y=some ⟨bk,0,none⟩:=⟨_,rfl⟩
  obtain ⟨pI,rfl⟩:∃ y,y=lc:=⟨lc,rfl⟩
  rw [← xJ]at hSd
  have hT:=hSd
  have jK:=uQ dA.out;have o9:=uQ iM.out;have Hb1:=uQ Hb.out;have kK:=uQ He.out;have nD:=uQ Hx.out;have o8:=uQ H1.out;have pz:=uQ Hlen.out
  clear hSd dA iM Hb He Hx H1 Hlen xJ
 all_goals
  have hrl:(t1.slots.flatMap (slotL aT)).length=36 * t1.slots.length:=jd pz.out
  obtain ⟨bk1,rfl⟩:=zN (hT.pick aX) (by rw [hrl];have:=jK.out.good.jB;omega)
  have nY:=uQ (yh (f:=slotL aT) (k:=36) (i:=Tab.pos k t1.slots.length d1) (x:=⟨1,k,v⟩) pz.out (ji aT _ Hk.out 3 rfl) (Tab.lM jK.out.good.jB))
  have lF:=uQ (Tab.PW jK.out rD.out kK.out nD.out o8.out Hk.out v)
  have oJ:=uQ (Tab.BI o9.out (Tab.zS jK.out.good kK.out nD.out o8.out Hk.out v).2 (t1.n+1) t1.gone)
  have hlt1:=Tab.lM (k:=k) (d:=d1) jK.out.good.jB
  have hls:=ji aT (⟨1,k,v⟩:Tab.Slot (Seg.aU)) Hk.out 3 rfl
  have hwn:IntKind.i64.wrap ((t1.n:Int)+1)=(t1.n:Int)+1:=abX _ (by have:=Hb1.out;have:=HB.out;omega)
  clear nD o8 kK jK o9 rD
  generalize Tab.pos k t1.slots.length d1=P1 at *
  have c0:(0:Int)≤(P1:Int):=oQ
  have c1:(P1:Int)<(t1.slots.length:Int):=oQ
  have hSd:=hT.drew
  clear hT
  refine dU [8,9] (fun w'=>w'.cell? ⟨p,0,none⟩=some (.slice (some ⟨bk1,0,none⟩) t1.slots.length pI)∧w'.rangeAt b4 0 (aA k)∧w'.rangeAt b5 0 (aT v)) ak ?_
  have hG:World.cell? _ ⟨p,0,none⟩=some (.slice (some ⟨bk1,0,none⟩) t1.slots.length pI)∧World.rangeAt _ b4 0 (aA k)∧World.rangeAt _ b5 0 (aT v):=⟨hSd.cellP bF 0 rfl,oH (hSd.pk (A:=pt b4 (.cells (aA k).toArray 50 (0,0)))),oH (hSd.pk (A:=pt b5 (.cells (aT v).toArray 94 (0,0))))⟩
  refine rP 0 ?_ (y:=bf)
  refine rP 1 ?_ (y:=dS)
  refine rP 2 ?_ (y:=bU)
  refine rt 3 (h:=?_)
  refine rP 4 ?_ (y:=bf)
  refine ig 5 ay ak fE (iT (b:=b4) (o:=0) (aA k) aj Tryz.underlying50 rfl (by rw [qh.out];kernel_rfl) (fun w hw=>hw.2.1)) aQ gQ ?_
  refine ig 6 ay ak fE (iT (b:=b5) (o:=0) (aT v) aj Tryz.underlying94 rfl ak (fun w hw=>hw.2.2)) aQ gQ ?_
  refine rP 7 ?_ (y:=(FZ ay ay ay (fun w=>aj6 k Hk.out v w)))
  refine rP 8 ?_ (y:=jh)
  clear hG
  refine cO 9 ay ak (fun K hK=>?_)
  refine tV (vs:=slotL aT ⟨1,k,v⟩) (P1 * 36) hSd ay ay rfl (je dB) (by rw [hrl,hls];omega) (by rw [hls];kernel_rfl) (mY aT _ aj) ?_
  intro w12 iH
  refine hK _ _ (.inl rfl) ?_
  clear hK hSd
  refine dO ak ?_
  try simp only [jZ]
  try go_frame
  rw [← nY.out]at iH
  go_wp2_with (first
   |((with_reducible refine bP ⟨?_⟩);refine gq iH aj bF bJ ay ak ?_)
   |((with_reducible refine bZ ⟨?_⟩);refine fD aQ aj ay pQ fP bJ ak aj ?_;intro wS hS))
  go_end0
  exact ⟨_,rfl,aJ.shut (sv:= .slice (some ⟨bk1,0,none⟩) t1.slots.length pI) lF.out oJ.out (by have:=Hb1.out;simp only;omega) (hS.sb)⟩
end
abbrev fM.jC:=@aT
abbrev fM.pW:Nat:=164
theorem fM.aaX:type_of% @Tryz.func181:=@Tryz.func181
theorem fM.aaY:type_of% @Tryz.ntmps181:=@Tryz.ntmps181
set_option maxRecDepth 20000 in
open fM in
theorem U2 (x y:Tab.Slot (Seg.aU)) (hx:x.key.length=32) (hy:y.key.length=32) (W:World) :
  Calls Tryz.prog 181 #[.agg (slotL aT x).toArray,.agg (slotL aT y).toArray] W fun e w'=>e = .returned (.int .i64 (Lib.compareBytes x.key y.key))∧∃ q os',w'=Sort.grow (W.drewN q) os':=Yq
open Go.Sort
abbrev Uc:Type:={ x:Tab.Slot (Seg.aU) // x.key.length=32 }
instance:Inhabited Uc:=⟨⟨⟨0,ah.zero32,Seg.aU.zero⟩,rfl⟩⟩
section
variable {w0 w:World}{F:List aH}{v:Value}
abbrev fM.nT:Nat:=36
abbrev fM.Kr:Nat:=3
theorem fM.Kt:type_of% @su:=@su
theorem fM.Ri:type_of% @Tryz.sortL:=@Tryz.sortL
abbrev fM.Ku:Nat:=181
abbrev fM.pX:=@Uc
theorem fM.aaZ:type_of% @Tryz.isAgg164:=@Tryz.isAgg164
theorem fM.aa0:type_of% @Tryz.sizeOf164:=@Tryz.sizeOf164
theorem fM.Rj:type_of% @vP:=@vP
theorem fM.aa1:type_of% @U2:=@U2
abbrev fM.aa2:Nat:=180
open fM in
theorem akJ (l:List (Tab.Slot (Seg.aU))) (hk:∀ x∈l,x.key.length=32) (hn:l.length≤1073741824) (h:Sat w0 w (aB 164 36 v (l.flatMap (slotL aT))::F)) :
  Calls Tryz.prog 180 #[v,.func (.func 181) #[] #[]] w (aP fun _ w'=>∃ l':List (Tab.Slot (Seg.aU)),(l'.Perm l∧l'.Pairwise fun a b=>¬ b.key<a.key)∧Sat w0 w' (aB 164 36 v (l'.flatMap (slotL aT))::F)):=Yr
end
end Go.Proofs.YtihngncbioofnaaGreatDoor
