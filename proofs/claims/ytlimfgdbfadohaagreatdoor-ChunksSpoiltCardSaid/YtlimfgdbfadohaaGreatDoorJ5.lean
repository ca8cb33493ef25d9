import Derived.Test.YtlimfgdbfadohaaGreatDoorJ4
import Derived.Sort.OwnSorted
import Derived.Shelf.SlSortCmp.WholeK
import Derived.Shelf.SlSortCmp.NoneTotal
import Derived.Test.YtlimfgdbfadohaaGreatDoorSort
import Derived.RangeFuncNested
import Derived.RangeFuncLeaves
import Derived.TacticsIn
import Derived.OrdersIn
namespace Go.Proofs.YtlimfgdbfadohaaGreatDoor
open Go Go.Sl Go.Med Go.MapKept Go.RowKit
section
variable {P : Program} {ops : Array Oper} {a : Act} {dst : Option Tmp} {t ty : TypeId} {pos : String} {after : Array Edge} {x y : Operand} {v vx vy : Value} {ad : Addr} {fl : Nat} {bo : BinOp} {tz : TypeId} {g : Option (Nat × Bool)}
theorem gmQ (hw : Region.wanted ⟨dst, .move x, t, pos, after, g⟩ (yielded ops a.tmps) = true := by rfl) (hx : a.eval x = v := by conv => lhs; whnf) : Yields P ops ⟨dst, .move x, t, pos, after, g⟩ v a := yg_move hw hx
end
end Go.Proofs.YtlimfgdbfadohaaGreatDoor
set_option linter.unusedVariables false
set_option maxHeartbeats 128000000
namespace Go.Proofs.YtlimfgdbfadohaaGreatDoor
open Go Go.Sl Go.Med Go.MapKept Go.RowKit Go.Sort
section
variable {α:Type} [Inhabited α] {enc:α→List Value}{k:Nat}
theorem flatK_list (hk:∀ x,(enc x).length=k) (h0:0<k) (d:Array α):(flatK enc k d).toList=d.toList.flatMap enc:=by
 have hl:(d.toList.flatMap enc).length=k * d.toList.length:=rows_len fun x _=>hk x
 refine List.ext_getElem (by rw [hl,Array.length_toList,size_flatK,Array.length_toList,Nat.mul_comm]) fun t h1 h2=>?_
 have ht:t<d.size * k:=by rw [Array.length_toList,size_flatK]at h1;exact h1
 have hi:t / k<d.size:=Nat.div_lt_of_lt_mul (by rw [Nat.mul_comm];exact ht)
 have hx:d.toList[t / k]?=some d[t / k]! := by
  rw [Array.getElem?_toList,Array.getElem?_eq_getElem hi,getElem!_pos d _ hi]
 have hm:t%k<(enc d[t / k]!).length:=by rw [hk];exact Nat.mod_lt _ h0
 have hr:=rows_at (l:=d.toList) (f:=enc) (k:=k) (fun x _=>hk x) hx (List.getElem?_eq_getElem hm)
 rw [show t / k * k+t%k=t by rw [Nat.mul_comm];exact Nat.div_add_mod t k,List.getElem?_eq_getElem h2]at hr
 rw [Option.some.inj hr,Array.getElem_toList,← getElem!_pos (flatK enc k d) t (by rw [size_flatK];exact ht),get_flatK _ _ _ _ ht]
 exact getElem!_pos (enc d[t / k]!) (t%k) hm
end
section
variable {w0 w:World}{R:List HProp}{g n m:Nat}{T:TypeId}{cs:Array Value}{os:Array Obj}
theorem heap_sortedV {fr:Nat×Nat} (d:Array Value) (hb:w.heap[g]?=some (.cells cs T fr)):(grow (putRow id (Sort.ahead w n) g 0 d) os).heap[g]?=some (.cells (putCells id 0 d cs) T fr):=by
 have hg:g<w.heap.size:=(Array.getElem?_eq_some_iff.1 hb).1
 rw [heap_grow_old _ _ (by simpa using hg)]
 simp [putRow,mapBlock,Sort.ahead,Array.getElem?_modify,hb,onCells]
theorem grownBy_sortedV (d:Array Value):w.grownBy (grow (putRow id (Sort.ahead w n) g 0 d) os) (some g):=by
 refine ⟨rfl,rfl,rfl,by simp,fun k hk hne=>?_⟩
 rw [heap_grow_old _ _ (by simpa using hk)]
 have:g≠k:=fun e=>hne (by rw [e])
 simp [putRow,mapBlock,Sort.ahead,Array.getElem?_modify,this]
theorem take_putCellsV (d:Array Value) (h:d.size≤cs.size):(putCells id 0 d cs).toList.take d.size=d.toList:=by
 apply List.ext_getElem?
 intro j
 by_cases hj:j<d.size
 ·rw [List.getElem?_take_of_lt hj,Array.getElem?_toList]
  simp [putCells,hj,show j<cs.size by omega]
 ·rw [List.getElem?_take_eq_none oQ,List.getElem?_eq_none (by simp;omega)]
theorem sat_sorted (hp:Sat w0 w (pt g (.cells cs T (0,0))::R)) (d:Array Value):Sat w0 (grow (putRow id (Sort.ahead w n) g 0 d) os) (pt g (.cells (putCells id 0 d cs) T (0,0))::R):=by
 have hg:=grownBy_sortedV (w:=w) (g:=g) (n:=n) (os:=os) d
 exact hp.turn hg.os hg.tape hg.output hg.size (heap_sortedV (n:=n) (os:=os) d hp.at) (fun i hi hlt=>hg.block i hlt (by simpa using hi))
theorem holds_blockV {d:Array Value} (hb:w.heap[g]?=some (.cells cs T (0,0))) (ht:cs.toList.take d.size=d.toList):Holds id w g 0 d:=by
 intro j hj
 refine ⟨?_,by simp [World.frozen?,hb]⟩
 have h1:(cs.toList.take d.size)[j]?=d.toList[j]?:=by rw [ht]
 rw [List.getElem?_take_of_lt hj]at h1
 simp only [World.cell?,hb,Nat.zero_add]
 simp only [Option.isSome_none,Bool.false_eq_true,if_false]
 rw [← Array.getElem?_toList,h1,Array.getElem?_toList,Array.getElem?_eq_getElem hj,getElem!_pos d j hj]
 rfl
end
end Go.Proofs.YtlimfgdbfadohaaGreatDoor
namespace Go.Tab
open Go.Frm (Bs)
open Go.Sort
theorem swo_key {V:Type} (key:V→Bs):SWO (Go.Proofs.ltOf fun x y=>Lib.compareBytes (key x) (key y)):=by
 have e:∀ x y,Go.Proofs.ltOf (fun x y=>Lib.compareBytes (key x) (key y)) x y=decide (key x<key y):=fun x y=>by
  unfold Go.Proofs.ltOf
  rw [Bool.eq_iff_iff,decide_eq_true_eq,decide_eq_true_eq]
  exact cmpB_lt _ _
 refine ⟨fun x=>?_,fun x y z=>?_,fun x y z=>?_⟩
 ·rw [e,decide_eq_false_iff_not];exact List.lt_irrefl _
 ·rw [e,e,e,decide_eq_true_eq,decide_eq_true_eq,decide_eq_true_eq];exact List.lt_trans
 ·rw [e,e,e,decide_eq_false_iff_not,decide_eq_false_iff_not,decide_eq_false_iff_not]
  intro h1 h2 h3
  rcases bs_tri (key x) (key y) with q|q|q
  ·exact h1 q
  ·exact h2 (q ▸ h3)
  ·rcases bs_tri (key y) (key z) with p|p|p
   ·exact h2 p
   ·exact List.lt_irrefl _ (List.lt_trans q (p ▸ h3))
   ·exact List.lt_irrefl _ (List.lt_trans (List.lt_trans h3 p) q)
theorem sorted_list {V:Type} [Inhabited V] {key:V→Bs}{d d':Array V} (hp:PermIn 0 d.size d d') (hs:SortedIn (Go.Proofs.ltOf fun x y=>Lib.compareBytes (key x) (key y)) 0 d.size d') :
  d'.toList.Perm d.toList∧d'.toList.Pairwise fun a b=>¬ key b<key a:=by
 obtain ⟨h1,_,h3⟩:=hp
 constructor
 ·have e:∀ a:Array V,a.extract 0 a.size=a:=fun a=>by simp
  have h3':=h3
  rw [e d,← h1,e d']at h3'
  exact h3'
 ·rw [List.pairwise_iff_getElem]
  intro i j hi hj hij
  rw [Array.length_toList]at hi hj
  have:=hs i j (Nat.zero_le _) hij oQ
  rw [getElem!_pos d' i hi,getElem!_pos d' j hj]at this
  unfold Go.Proofs.ltOf at this
  rw [decide_eq_false_iff_not,cmpB_lt]at this
  simpa using this
theorem lists_of {V:Type}{s l:List (Slot V)}{m:Bs→Option V} (g:Good s) (hm:∀ k v,Has s k v↔m k=some v) (hp:l.Perm (s.filter fun x=>decide (x.st=1))) (hs:l.Pairwise fun a b=>¬ b.key<a.key) :
  Lists m (l.map fun x=>(x.key,x.val))∧∀ x∈l,x.st=1∧x.key.length=32:=by
 have hmem:∀ x,x∈l↔x∈s∧x.st=1:=fun x=>by rw [hp.mem_iff,List.mem_filter,decide_eq_true_eq]
 have hnd:l.Pairwise fun a b=>a.key≠b.key:=by
  have h0:(s.filter fun x=>decide (x.st=1)).Pairwise fun a b=>a.key≠b.key:=by
   rw [List.pairwise_filter,List.pairwise_iff_getElem]
   intro i j hi hj hij h1 h2 h3
   have:=g.one (List.getElem?_eq_getElem hi) (List.getElem?_eq_getElem hj) (by simpa using h1) (by simpa using h2) h3
   omega
  exact (hp.pairwise_iff (fun {a b} h=>Ne.symm h)).2 h0
 refine ⟨⟨?_,fun k v=>?_⟩,fun x hx=>⟨((hmem x).1 hx).2,g.key x ((hmem x).1 hx).1⟩⟩
 ·rw [List.pairwise_map]
  refine (hs.and hnd).imp fun {a b} h=>?_
  rcases bs_tri a.key b.key with q|q|q
  ·exact q
  ·exact absurd q h.2
  ·exact absurd q h.1
 ·rw [← hm,List.mem_map]
  constructor
  ·rintro ⟨x,hx,e⟩
   obtain ⟨a,b⟩:=(hmem x).1 hx
   obtain ⟨i,hi,he⟩:=List.getElem_of_mem a
   cases e
   exact ⟨i,x,by rw [List.getElem?_eq_getElem hi,he],b,rfl,rfl⟩
  ·rintro ⟨i,x,hi,a,rfl,rfl⟩
   exact ⟨x,(hmem x).2 ⟨List.mem_of_getElem? hi,a⟩,rfl⟩
end Go.Tab
namespace Go.Proofs.YtlimfgdbfadohaaGreatDoor
open Go Go.Sl Go.Med Go.MapKept Go.RowKit
section
variable {w0 w:World}{F R:List HProp}{p n gn d c:Nat}{sv v:Value}{k:Frm.Bs}{s:List (Tab.Slot (Rep.Abt))}{a:Option Addr}
theorem okA_c (hl:0<s.length) (h:Sat w0 w (tbPt p 271 (.slice a s.length c) n gn::F)) :
  Calls Tryz.prog 198 #[ptr p] w (Rtn fun v w'=>v = .bool true∧w=w'):=by
 have e0:w.cell? ⟨p,0,none⟩=some (.slice a s.length c):=h.cellAt 0 _ rfl
 have c1:(0:Int)<(s.length:Int):=oQ
 go_enter Tryz.func198,Tryz.ntmps198
 go_wp2
 go_ret
 exact ⟨_,rfl,rfl,rfl⟩
set_option maxRecDepth 20000 in
theorem findA_c (g:Tab.Good s) (hc:s.length≤1073741824) (hk:k.length=32) (he:Tab.Ends s k d) (h:Sat w0 w (tbPt p 271 sv n gn::osl 300 38 sv (s.flatMap (slotL aenc))::F)) :
  Calls Tryz.prog 199 #[ptr p,.agg (bys k).toArray] w (Rtn fun v w'=>∃ x,s[Tab.pos k s.length d]?=some x∧v = .tuple #[.int .i64 (Tab.pos k s.length d:Nat),.int .i64 ((d:Int)+1),.bool (decide (x.st=1))] ∧
   Sat w0 w' (tbPt p 271 sv n gn::osl 300 38 sv (s.flatMap (slotL aenc))::F)):=by
 have Hk:=uQ hk;have HG:=uQ g;have HE:=uQ he;have Hc:=uQ hc
 have Hlen:=uQ (show ∀ x∈s,(slotL aenc x).length=38 from fun x hx=>slotL_len aenc x (g.key x hx) 5 (aenc_len _))
 obtain ⟨la,lc,rfl⟩:=osl_rows Hlen.out (Sat.rd (h.pick pick1)) dCz
 obtain ⟨j,hj,_⟩:=g.pow
 have hj40:j<40:=by
  rcases Nat.lt_or_ge j 40 with q|q
  ·exact q
  ·have:2^40≤2^j:=Nat.pow_le_pow_right dCz q
   have h40:(2:Nat)^40=1099511627776:=by decide
   omega
 have Hj:=uQ hj;have Hj40:=uQ hj40
 have Hd:=uQ (show d<s.length from he.lt)
 have hp0:0<s.length:=g.pos_len
 have Hp0:=uQ hp0
 have Hpz:=uQ (Tab.pos_zero (k:=k) hp0)
 clear hj hj40 hk g he hc hp0
 go_enter Tryz.func199,Tryz.ntmps199
 go_wp2_with ((with_reducible refine at_box ⟨?_⟩);refine wl_box aQ evD evD ?_;intro bB wB hB)
 have hB1:=hB.drew
 clear hB
 refine wpL_begin [6,7] (fun w'=>w'.rangeAt bB 0 (bys k)∧w'.cell? ⟨p,0,none⟩=some (.slice la s.length lc)) kRz ?_
 have hG:World.rangeAt _ bB 0 (bys k)∧World.cell? _ ⟨p,0,none⟩=some (.slice la s.length lc):=⟨pt_rangeL (hB1.pk (A:=pt bB (.cells (bys k).toArray 30 (0,0)))),hB1.cellP pkD 0 rfl⟩
 refine rg_take 0 evD kRz i3z (tk_loadN (b:=bB) (o:=0) (bys k) rFz Tryz.underlying30 rfl (by rw [bys_len,Hk.out];kernel_rfl) (fun w hw=>hw.1)) aQ gQ ?_
 refine rP 1 ?_ (y:=mvQ)
 refine rP 2 ?_ (y:=nlQ)
 refine rP 3 ?_ (y:=flQ)
 refine rt 4 (h:=?_)
 refine rP 5 ?_ (y:=(yl_len evD rnD))
 clear hG
 have hh:=home_c k Hk.out j Hj40.out hB1
 rw [← Hj.out]at hh
 refine rg_eff 6 evD kRz (fun K hK=>?_)
 (refine eff_call2 kRz evD evD ?_)
 refine hh.mono ?_
 rintro ee w2 ⟨v,rfl,rfl,hS2⟩
 refine hK _ _ (.inl rfl) ?_
 clear hK hh hB1
 refine rP 7 ?_ (y:=asQ)
 refine wpL_done kRz ?_
 try simp only [ayQ]
 try go_frame
 rw [← Hpz.out]
 go_wp2_with fail
 go_loopg [7,8] d (fun g aq sq wr=>∃ e:Nat,g=d - e∧e≤d∧aq = .int .i64 (Tab.pos k s.length e:Nat)∧sq = .int .i64 ((e:Int)+1) ∧
  Sat w0 wr (pt bB (.cells (bys k).toArray 30 (0,0))::tbPt p 271 (.slice la s.length lc) n gn::osl 300 38 (.slice la s.length lc) (s.flatMap (slotL aenc))::F))
 case atStart=>exact ⟨0,rfl,Nat.zero_le _,rfl,rfl,hS2.sb⟩
 case round=>
  obtain ⟨e,rfl,hed,rfl,rfl,hS⟩:=hrel
  clear hS2
  have hlt:=Tab.pos_lt (k:=k) (d:=e) Hp0.out
  have hdl:=Hd.out
  have hcl:=Hc.out
  obtain ⟨x,hx⟩:∃ x,s[Tab.pos k s.length e]?=some x:=⟨_,List.getElem?_eq_getElem hlt⟩
  have hxm:=List.mem_of_getElem? hx
  have hst:=HG.out.st x hxm
  have Hxk:=uQ (HG.out.key x hxm)
  obtain ⟨bk,off,c',hsv,hcell⟩:=osl_row Hlen.out (Sat.rd (hS.pick pick2)) hx dCz
  have Hnext:=uQ (Tab.pos_next (k:=k) (d:=e) Hp0.out)
  have Hmask:=uQ (and_mask (Tab.pos k s.length e+1) j oQ (by have:=Hj40.out;omega))
  have Hstop:=uQ (show e=d↔x.stop k from ⟨fun h=>by
    subst h
    obtain ⟨y,hy,hs⟩:=HE.out.here
    rw [hx]at hy;cases hy;exact hs,fun h=>by
    rcases Nat.lt_or_ge e d with q|q
    ·exact absurd ⟨x,hx,h⟩ (HE.out.no e q)
    ·omega⟩)
  have Hx:=uQ hx
  cases hsv
  have c0:(0:Int)≤((Tab.pos k s.length e:Nat):Int):=oQ
  have c1:((Tab.pos k s.length e:Nat):Int)<(s.length:Int):=oQ
  have c2:Tab.pos k s.length e<s.length:=hlt
  have e0:wr.cell? ⟨p,0,none⟩=some (.slice (some ⟨bk,off,none⟩) s.length lc):=hS.cellP pkD 0 rfl
  have hl38:=Hlen.out x hxm
  clear hx hxm
  have hq:bits .and .i64 (((Tab.pos k s.length e:Nat):Int)+1) ((s.length:Int) - 1)=((Tab.pos k s.length (e+1):Nat):Int):=by
   have h1:=Hmask.out
   rw [← Hj.out,Hnext.out]at h1
   rw [← h1]
   congr 1
   have:=Hp0.out
   omega
  have hw1:IntKind.i64.wrap (((Tab.pos k s.length e:Nat):Int)+1)=((Tab.pos k s.length e:Nat):Int)+1:=IntWalk.i64_in _ oQ
  have hw2:IntKind.i64.wrap ((s.length:Int) - 1)=(s.length:Int) - 1:=IntWalk.i64_in _ oQ
  have hw3:IntKind.i64.wrap ((e:Int)+1+1)=(e:Int)+1+1:=IntWalk.i64_in _ oQ
  clear hdl hcl
  generalize hP1:Tab.pos k s.length (e+1)=P1 at hq
  have HP1:=uQ hP1
  generalize hP:Tab.pos k s.length e=P0 at *
  have HP:=uQ hP
  clear hP1 hP hlt Hmask Hnext
  have Hed:=uQ hed
  clear hed
  go_wp2_with (with_reducible apply at_load)
  refine ⟨wl_load1 hS rFz pkD nLz evD kRz ?_⟩
  go_wp2_with (with_reducible apply at_load)
  refine ⟨wl_loadW (b:=bk) (o:=off+P0 * 38) (slotL aenc x) rFz hcell Tryz.underlying300 rfl (by rw [hl38];kernel_rfl) ?_⟩
  go_wp2_with (with_reducible apply at_alloc)
  refine ⟨wl_alloc zSlotA hS rfl ?_⟩
  intro b9 w9 hS9
  go_wp2_with (first|((with_reducible refine at_store ⟨?_⟩);refine wl_storeA (slotL aenc x).toArray hS9 rFz rFz (by rw [List.size_toArray,hl38];rfl) upd0 (by rw [List.size_toArray,hl38];kernel_rfl) (by rw [List.toList_toArray];exact slotL_ones aenc x (aenc_ones _)) ?_;intro w10 hS10)|(with_reducible apply at_load))
  refine ⟨?_⟩
  clear hS hS9 hcell e0
  have f0:w10.cell? ⟨b9,0,none⟩=some (.int .i64 x.st):=hS10.cellP pick0 0 (by rw [List.getElem?_toArray];rfl)
  have f1:w10.rangeAt b9 1 (bys x.key):=slot_key (hS10.pick pick0)
  have f2:w10.cell? ⟨p,0,none⟩=some (.slice (some ⟨bk,off,none⟩) s.length lc):=hS10.cellP pkD 0 rfl
  have hend:Sat w0 w10 (pt bB (.cells (bys k).toArray 30 (0,0))::tbPt p 271 (.slice (some ⟨bk,off,none⟩) s.length lc) n gn::osl 300 38 (.slice (some ⟨bk,off,none⟩) s.length lc) (s.flatMap (slotL aenc))::F):=hS10.sb
  have h3:x.st=0∨x.st=1∨x.st=2:=oQ
  rcases h3 with h3|h3|h3
  ·have h4:e=d:=Hstop.out.2 (.inl h3)
   rw [h3]at f0
   have Hdx:=uQ (show decide (x.st=1)=false by rw [h3];rfl)
   have Hst:=uQ (show (x.st:Int)=0 by rw [h3];rfl)
   clear Hstop hst h3 f1 f2 hq hw1 hw2 hw3 c0 c1 c2
   subst h4
   go_wp2_with fail
   have hS11:=hS10.drew
   clear hS10
   refine wpL_begin [4,7] (fun w'=>w'.cell? ⟨b9,0,none⟩=some (.int .i64 0)) kRz ?_
   have hG:World.cell? _ ⟨b9,0,none⟩=some (.int .i64 0):=hS11.cellP pick0 0 (by rw [List.getElem?_toArray,← Hst.out];rfl)
   clear f0
   refine rP 0 ?_ (y:=mvQ)
   refine rP 1 ?_ (y:=mvQ)
   refine rP 2 ?_ (y:=flQ)
   refine rt 3 (h:=?_)
   refine rP 4 ?_ (y:=bnQ)
   refine rP 5 ?_ (y:=asQ)
   refine rP 6 ?_ (y:=asQ)
   refine rP 7 ?_ (y:=asQ)
   refine wpL_done kRz ?_
   clear hG
   try simp only [ayQ]
   try go_frame
   go_wp2_with fail
   go_ret3
   exact ⟨_,rfl,x,by rw [HP.out];exact Hx.out,by rw [HP.out,Hdx.out];rfl,hS11.sb⟩
  ·have f3:w10.rangeAt bB 0 (bys k):=pt_rangeL (hS10.pk (A:=pt bB (.cells (bys k).toArray 30 (0,0))))
   have hkk:=eqIn_key x.key k Hxk.out Hk.out
   rw [h3]at f0
   by_cases hxk:x.key=k
   ·have h4:e=d:=Hstop.out.2 (.inr ⟨h3,hxk⟩)
    have Hdx:=uQ (show decide (x.st=1)=true by rw [h3];rfl)
    have Hst:=uQ (show (x.st:Int)=1 by rw [h3];rfl)
    rw [decide_eq_true hxk]at hkk
    clear Hstop hst h3 hxk hq hw1 hw2 hw3 c0 c1 c2 f2
    subst h4
    go_wp2_with (first
     |((with_reducible refine at_loadG ⟨?_⟩);refine wl_loadGm (o:=1) rFz rFz (bys x.key) _ f1 Tryz.underlying30 rfl (by rw [bys_len,Hxk.out];kernel_rfl) ?_)
     |((with_reducible refine at_loadG ⟨?_⟩);refine wl_loadGm (o:=0) rFz rFz (bys k) _ f3 Tryz.underlying30 rfl (by rw [bys_len,Hk.out];kernel_rfl) ?_))
    clear hkk f1 f3
    have hS11:=hS10.drew
    clear hS10
    refine wpL_begin [4,7] (fun w'=>w'.cell? ⟨b9,0,none⟩=some (.int .i64 1)) kRz ?_
    have hG:World.cell? _ ⟨b9,0,none⟩=some (.int .i64 1):=hS11.cellP pick0 0 (by rw [List.getElem?_toArray,← Hst.out];rfl)
    clear f0
    refine rP 0 ?_ (y:=mvQ)
    refine rP 1 ?_ (y:=mvQ)
    refine rP 2 ?_ (y:=flQ)
    refine rt 3 (h:=?_)
    refine rP 4 ?_ (y:=bnQ)
    refine rP 5 ?_ (y:=asQ)
    refine rP 6 ?_ (y:=asQ)
    refine rP 7 ?_ (y:=asQ)
    refine wpL_done kRz ?_
    clear hG
    try simp only [ayQ]
    try go_frame
    go_wp2_with fail
    go_ret3
    exact ⟨_,rfl,x,by rw [HP.out];exact Hx.out,by rw [HP.out,Hdx.out];rfl,hS11.sb⟩
   ·have h4:e<d:=by
     have:=Hed.out
     rcases Nat.lt_or_ge e d with q|q
     ·exact q
     ·exact absurd (Hstop.out.1 oQ) (fun h=>h.elim (fun h=>by omega) fun h=>hxk h.2)
    rw [decide_eq_false hxk]at hkk
    have H4:=uQ h4
    clear Hstop hst h3 hxk h4
    go_wp2_with (first
     |((with_reducible refine at_loadG ⟨?_⟩);refine wl_loadGm (o:=1) rFz rFz (bys x.key) _ f1 Tryz.underlying30 rfl (by rw [bys_len,Hxk.out];kernel_rfl) ?_)
     |((with_reducible refine at_loadG ⟨?_⟩);refine wl_loadGm (o:=0) rFz rFz (bys k) _ f3 Tryz.underlying30 rfl (by rw [bys_len,Hk.out];kernel_rfl) ?_))
    go_roundg (d - (e+1))
    case measure=>have:=H4.out;omega
    case rel=>exact ⟨e+1,rfl,H4.out,by rw [HP1.out],by first|rfl|go_num,hS10.sb⟩
  ·have h4:e<d:=by
    have:=Hed.out
    rcases Nat.lt_or_ge e d with q|q
    ·exact q
    ·exact absurd (Hstop.out.1 oQ) (fun h=>h.elim (fun h=>by omega) fun h=>by omega)
   rw [h3]at f0
   have H4:=uQ h4
   clear Hstop hst h3 f1 h4
   go_wp2_with fail
   go_roundg (d - (e+1))
   case measure=>have:=H4.out;omega
   case rel=>exact ⟨e+1,rfl,H4.out,by rw [HP1.out],by first|rfl|go_num,hS10.sb⟩
end
section
variable {w0 w:World}{F R:List HProp}{p n gn d c:Nat}{sv v:Value}{k:Frm.Bs}{s:List (Tab.Slot (Seg.Plc))}{a:Option Addr}
theorem okL_c (hl:0<s.length) (h:Sat w0 w (tbPt p 172 (.slice a s.length c) n gn::F)) :
  Calls Tryz.prog 81 #[ptr p] w (Rtn fun v w'=>v = .bool true∧w=w'):=by
 have e0:w.cell? ⟨p,0,none⟩=some (.slice a s.length c):=h.cellAt 0 _ rfl
 have c1:(0:Int)<(s.length:Int):=oQ
 go_enter Tryz.func81,Tryz.ntmps81
 go_wp2
 go_ret
 exact ⟨_,rfl,rfl,rfl⟩
set_option maxRecDepth 20000 in
theorem findL_c (g:Tab.Good s) (hc:s.length≤1073741824) (hk:k.length=32) (he:Tab.Ends s k d) (h:Sat w0 w (tbPt p 172 sv n gn::osl 170 36 sv (s.flatMap (slotL penc))::F)) :
  Calls Tryz.prog 95 #[ptr p,.agg (bys k).toArray] w (Rtn fun v w'=>∃ x,s[Tab.pos k s.length d]?=some x∧v = .tuple #[.int .i64 (Tab.pos k s.length d:Nat),.int .i64 ((d:Int)+1),.bool (decide (x.st=1))] ∧
   Sat w0 w' (tbPt p 172 sv n gn::osl 170 36 sv (s.flatMap (slotL penc))::F)):=by
 have Hk:=uQ hk;have HG:=uQ g;have HE:=uQ he;have Hc:=uQ hc
 have Hlen:=uQ (show ∀ x∈s,(slotL penc x).length=36 from fun x hx=>slotL_len penc x (g.key x hx) 3 (penc_len _))
 obtain ⟨la,lc,rfl⟩:=osl_rows Hlen.out (Sat.rd (h.pick pick1)) dCz
 obtain ⟨j,hj,_⟩:=g.pow
 have hj40:j<40:=by
  rcases Nat.lt_or_ge j 40 with q|q
  ·exact q
  ·have:2^40≤2^j:=Nat.pow_le_pow_right dCz q
   have h40:(2:Nat)^40=1099511627776:=by decide
   omega
 have Hj:=uQ hj;have Hj40:=uQ hj40
 have Hd:=uQ (show d<s.length from he.lt)
 have hp0:0<s.length:=g.pos_len
 have Hp0:=uQ hp0
 have Hpz:=uQ (Tab.pos_zero (k:=k) hp0)
 clear hj hj40 hk g he hc hp0
 go_enter Tryz.func95,Tryz.ntmps95
 go_wp2_with ((with_reducible refine at_box ⟨?_⟩);refine wl_box aQ evD evD ?_;intro bB wB hB)
 have hB1:=hB.drew
 clear hB
 refine wpL_begin [6,7] (fun w'=>w'.rangeAt bB 0 (bys k)∧w'.cell? ⟨p,0,none⟩=some (.slice la s.length lc)) kRz ?_
 have hG:World.rangeAt _ bB 0 (bys k)∧World.cell? _ ⟨p,0,none⟩=some (.slice la s.length lc):=⟨pt_rangeL (hB1.pk (A:=pt bB (.cells (bys k).toArray 30 (0,0)))),hB1.cellP pkD 0 rfl⟩
 refine rg_take 0 evD kRz i3z (tk_loadN (b:=bB) (o:=0) (bys k) rFz Tryz.underlying30 rfl (by rw [bys_len,Hk.out];kernel_rfl) (fun w hw=>hw.1)) aQ gQ ?_
 refine rP 1 ?_ (y:=mvQ)
 refine rP 2 ?_ (y:=nlQ)
 refine rP 3 ?_ (y:=flQ)
 refine rt 4 (h:=?_)
 refine rP 5 ?_ (y:=(yl_len evD rnD))
 clear hG
 have hh:=home_c k Hk.out j Hj40.out hB1
 rw [← Hj.out]at hh
 refine rg_eff 6 evD kRz (fun K hK=>?_)
 (refine eff_call2 kRz evD evD ?_)
 refine hh.mono ?_
 rintro ee w2 ⟨v,rfl,rfl,hS2⟩
 refine hK _ _ (.inl rfl) ?_
 clear hK hh hB1
 refine rP 7 ?_ (y:=asQ)
 refine wpL_done kRz ?_
 try simp only [ayQ]
 try go_frame
 rw [← Hpz.out]
 go_wp2_with fail
 go_loopg [7,8] d (fun g aq sq wr=>∃ e:Nat,g=d - e∧e≤d∧aq = .int .i64 (Tab.pos k s.length e:Nat)∧sq = .int .i64 ((e:Int)+1) ∧
  Sat w0 wr (pt bB (.cells (bys k).toArray 30 (0,0))::tbPt p 172 (.slice la s.length lc) n gn::osl 170 36 (.slice la s.length lc) (s.flatMap (slotL penc))::F))
 case atStart=>exact ⟨0,rfl,Nat.zero_le _,rfl,rfl,hS2.sb⟩
 case round=>
  obtain ⟨e,rfl,hed,rfl,rfl,hS⟩:=hrel
  clear hS2
  have hlt:=Tab.pos_lt (k:=k) (d:=e) Hp0.out
  have hdl:=Hd.out
  have hcl:=Hc.out
  obtain ⟨x,hx⟩:∃ x,s[Tab.pos k s.length e]?=some x:=⟨_,List.getElem?_eq_getElem hlt⟩
  have hxm:=List.mem_of_getElem? hx
  have hst:=HG.out.st x hxm
  have Hxk:=uQ (HG.out.key x hxm)
  obtain ⟨bk,off,c',hsv,hcell⟩:=osl_row Hlen.out (Sat.rd (hS.pick pick2)) hx dCz
  have Hnext:=uQ (Tab.pos_next (k:=k) (d:=e) Hp0.out)
  have Hmask:=uQ (and_mask (Tab.pos k s.length e+1) j oQ (by have:=Hj40.out;omega))
  have Hstop:=uQ (show e=d↔x.stop k from ⟨fun h=>by
    subst h
    obtain ⟨y,hy,hs⟩:=HE.out.here
    rw [hx]at hy;cases hy;exact hs,fun h=>by
    rcases Nat.lt_or_ge e d with q|q
    ·exact absurd ⟨x,hx,h⟩ (HE.out.no e q)
    ·omega⟩)
  have Hx:=uQ hx
  cases hsv
  have c0:(0:Int)≤((Tab.pos k s.length e:Nat):Int):=oQ
  have c1:((Tab.pos k s.length e:Nat):Int)<(s.length:Int):=oQ
  have c2:Tab.pos k s.length e<s.length:=hlt
  have e0:wr.cell? ⟨p,0,none⟩=some (.slice (some ⟨bk,off,none⟩) s.length lc):=hS.cellP pkD 0 rfl
  have hl38:=Hlen.out x hxm
  clear hx hxm
  have hq:bits .and .i64 (((Tab.pos k s.length e:Nat):Int)+1) ((s.length:Int) - 1)=((Tab.pos k s.length (e+1):Nat):Int):=by
   have h1:=Hmask.out
   rw [← Hj.out,Hnext.out]at h1
   rw [← h1]
   congr 1
   have:=Hp0.out
   omega
  have hw1:IntKind.i64.wrap (((Tab.pos k s.length e:Nat):Int)+1)=((Tab.pos k s.length e:Nat):Int)+1:=IntWalk.i64_in _ oQ
  have hw2:IntKind.i64.wrap ((s.length:Int) - 1)=(s.length:Int) - 1:=IntWalk.i64_in _ oQ
  have hw3:IntKind.i64.wrap ((e:Int)+1+1)=(e:Int)+1+1:=IntWalk.i64_in _ oQ
  clear hdl hcl
  generalize hP1:Tab.pos k s.length (e+1)=P1 at hq
  have HP1:=uQ hP1
  generalize hP:Tab.pos k s.length e=P0 at *
  have HP:=uQ hP
  clear hP1 hP hlt Hmask Hnext
  have Hed:=uQ hed
  clear hed
  go_wp2_with (with_reducible apply at_load)
  refine ⟨wl_load1 hS rFz pkD nLz evD kRz ?_⟩
  go_wp2_with (with_reducible apply at_load)
  refine ⟨wl_loadW (b:=bk) (o:=off+P0 * 36) (slotL penc x) rFz hcell Tryz.underlying170 rfl (by rw [hl38];kernel_rfl) ?_⟩
  go_wp2_with (with_reducible apply at_alloc)
  refine ⟨wl_alloc zSlotL hS rfl ?_⟩
  intro b9 w9 hS9
  go_wp2_with (first|((with_reducible refine at_store ⟨?_⟩);refine wl_storeA (slotL penc x).toArray hS9 rFz rFz (by rw [List.size_toArray,hl38];rfl) upd0 (by rw [List.size_toArray,hl38];kernel_rfl) (by rw [List.toList_toArray];exact slotL_ones penc x (penc_ones _)) ?_;intro w10 hS10)|(with_reducible apply at_load))
  refine ⟨?_⟩
  clear hS hS9 hcell e0
  have f0:w10.cell? ⟨b9,0,none⟩=some (.int .i64 x.st):=hS10.cellP pick0 0 (by rw [List.getElem?_toArray];rfl)
  have f1:w10.rangeAt b9 1 (bys x.key):=slot_key (hS10.pick pick0)
  have f2:w10.cell? ⟨p,0,none⟩=some (.slice (some ⟨bk,off,none⟩) s.length lc):=hS10.cellP pkD 0 rfl
  have hend:Sat w0 w10 (pt bB (.cells (bys k).toArray 30 (0,0))::tbPt p 172 (.slice (some ⟨bk,off,none⟩) s.length lc) n gn::osl 170 36 (.slice (some ⟨bk,off,none⟩) s.length lc) (s.flatMap (slotL penc))::F):=hS10.sb
  have h3:x.st=0∨x.st=1∨x.st=2:=oQ
  rcases h3 with h3|h3|h3
  ·have h4:e=d:=Hstop.out.2 (.inl h3)
   rw [h3]at f0
   have Hdx:=uQ (show decide (x.st=1)=false by rw [h3];rfl)
   have Hst:=uQ (show (x.st:Int)=0 by rw [h3];rfl)
   clear Hstop hst h3 f1 f2 hq hw1 hw2 hw3 c0 c1 c2
   subst h4
   go_wp2_with fail
   have hS11:=hS10.drew
   clear hS10
   refine wpL_begin [4,7] (fun w'=>w'.cell? ⟨b9,0,none⟩=some (.int .i64 0)) kRz ?_
   have hG:World.cell? _ ⟨b9,0,none⟩=some (.int .i64 0):=hS11.cellP pick0 0 (by rw [List.getElem?_toArray,← Hst.out];rfl)
   clear f0
   refine rP 0 ?_ (y:=mvQ)
   refine rP 1 ?_ (y:=mvQ)
   refine rP 2 ?_ (y:=flQ)
   refine rt 3 (h:=?_)
   refine rP 4 ?_ (y:=bnQ)
   refine rP 5 ?_ (y:=asQ)
   refine rP 6 ?_ (y:=asQ)
   refine rP 7 ?_ (y:=asQ)
   refine wpL_done kRz ?_
   clear hG
   try simp only [ayQ]
   try go_frame
   go_wp2_with fail
   go_ret3
   exact ⟨_,rfl,x,by rw [HP.out];exact Hx.out,by rw [HP.out,Hdx.out];rfl,hS11.sb⟩
  ·have f3:w10.rangeAt bB 0 (bys k):=pt_rangeL (hS10.pk (A:=pt bB (.cells (bys k).toArray 30 (0,0))))
   have hkk:=eqIn_key x.key k Hxk.out Hk.out
   rw [h3]at f0
   by_cases hxk:x.key=k
   ·have h4:e=d:=Hstop.out.2 (.inr ⟨h3,hxk⟩)
    have Hdx:=uQ (show decide (x.st=1)=true by rw [h3];rfl)
    have Hst:=uQ (show (x.st:Int)=1 by rw [h3];rfl)
    rw [decide_eq_true hxk]at hkk
    clear Hstop hst h3 hxk hq hw1 hw2 hw3 c0 c1 c2 f2
    subst h4
    go_wp2_with (first
     |((with_reducible refine at_loadG ⟨?_⟩);refine wl_loadGm (o:=1) rFz rFz (bys x.key) _ f1 Tryz.underlying30 rfl (by rw [bys_len,Hxk.out];kernel_rfl) ?_)
     |((with_reducible refine at_loadG ⟨?_⟩);refine wl_loadGm (o:=0) rFz rFz (bys k) _ f3 Tryz.underlying30 rfl (by rw [bys_len,Hk.out];kernel_rfl) ?_))
    clear hkk f1 f3
    have hS11:=hS10.drew
    clear hS10
    refine wpL_begin [4,7] (fun w'=>w'.cell? ⟨b9,0,none⟩=some (.int .i64 1)) kRz ?_
    have hG:World.cell? _ ⟨b9,0,none⟩=some (.int .i64 1):=hS11.cellP pick0 0 (by rw [List.getElem?_toArray,← Hst.out];rfl)
    clear f0
    refine rP 0 ?_ (y:=mvQ)
    refine rP 1 ?_ (y:=mvQ)
    refine rP 2 ?_ (y:=flQ)
    refine rt 3 (h:=?_)
    refine rP 4 ?_ (y:=bnQ)
    refine rP 5 ?_ (y:=asQ)
    refine rP 6 ?_ (y:=asQ)
    refine rP 7 ?_ (y:=asQ)
    refine wpL_done kRz ?_
    clear hG
    try simp only [ayQ]
    try go_frame
    go_wp2_with fail
    go_ret3
    exact ⟨_,rfl,x,by rw [HP.out];exact Hx.out,by rw [HP.out,Hdx.out];rfl,hS11.sb⟩
   ·have h4:e<d:=by
     have:=Hed.out
     rcases Nat.lt_or_ge e d with q|q
     ·exact q
     ·exact absurd (Hstop.out.1 oQ) (fun h=>h.elim (fun h=>by omega) fun h=>hxk h.2)
    rw [decide_eq_false hxk]at hkk
    have H4:=uQ h4
    clear Hstop hst h3 hxk h4
    go_wp2_with (first
     |((with_reducible refine at_loadG ⟨?_⟩);refine wl_loadGm (o:=1) rFz rFz (bys x.key) _ f1 Tryz.underlying30 rfl (by rw [bys_len,Hxk.out];kernel_rfl) ?_)
     |((with_reducible refine at_loadG ⟨?_⟩);refine wl_loadGm (o:=0) rFz rFz (bys k) _ f3 Tryz.underlying30 rfl (by rw [bys_len,Hk.out];kernel_rfl) ?_))
    go_roundg (d - (e+1))
    case measure=>have:=H4.out;omega
    case rel=>exact ⟨e+1,rfl,H4.out,by rw [HP1.out],by first|rfl|go_num,hS10.sb⟩
  ·have h4:e<d:=by
    have:=Hed.out
    rcases Nat.lt_or_ge e d with q|q
    ·exact q
    ·exact absurd (Hstop.out.1 oQ) (fun h=>h.elim (fun h=>by omega) fun h=>by omega)
   rw [h3]at f0
   have H4:=uQ h4
   clear Hstop hst h3 f1 h4
   go_wp2_with fail
   go_roundg (d - (e+1))
   case measure=>have:=H4.out;omega
   case rel=>exact ⟨e+1,rfl,H4.out,by rw [HP1.out],by first|rfl|go_num,hS10.sb⟩
end
def TabMA (p:Nat) (m:Frm.Bs→Option (Rep.Abt)) (B:Nat):HProp:=fun h=>∃ (t:Tab.Tb (Rep.Abt)) (sv:Value),(t.Ok∧t.Is m∧t.n+t.gone≤B)∧stars [tbPt p 271 sv t.n t.gone,osl 300 38 sv (t.slots.flatMap (slotL aenc))] h
theorem zValA:zeroB Tryz.prog 214=some (.agg (aenc ⟨0,Seg.Plc.zero,0⟩).toArray):=by kernel_rfl
section
variable {w0 w:World}{F R:List HProp}{p B:Nat}{sv v:Value}{k:Frm.Bs}{m:Frm.Bs→Option (Rep.Abt)}{t:Tab.Tb (Rep.Abt)}
theorem TabMA.open (h:Sat w0 w (TabMA p m B::F)):∃ (t:Tab.Tb (Rep.Abt)) (sv:Value),(t.Ok∧t.Is m∧t.n+t.gone≤B)∧Sat w0 w (tbPt p 271 sv t.n t.gone::osl 300 38 sv (t.slots.flatMap (slotL aenc))::F):=by
 obtain ⟨ha,x,hx,q,r,dd,rfl,⟨t,sv,hin,hp⟩,hq⟩:=h
 refine ⟨t,sv,hin,ha,_,hx,?_⟩
 show stars ([tbPt p 271 sv t.n t.gone,osl 300 38 sv (t.slots.flatMap (slotL aenc))]++F) _
 rw [stars_append]
 exact ⟨q,r,dd,rfl,hp,hq⟩
theorem TabMA.shut (h1:t.Ok) (h2:t.Is m) (h3:t.n+t.gone≤B) (h:Sat w0 w (tbPt p 271 sv t.n t.gone::osl 300 38 sv (t.slots.flatMap (slotL aenc))::F)):Sat w0 w (TabMA p m B::F):=
 Sat.join (M:=[tbPt p 271 sv t.n t.gone,osl 300 38 sv (t.slots.flatMap (slotL aenc))]) h fun _ hx=>⟨t,sv,⟨h1,h2,h3⟩,hx⟩
theorem newA_c (h:Sat w0 w F):Calls Tryz.prog 121 #[] w (Rtn fun v w'=>∃ p,v=ptr p∧Sat w0 w' (TabMA p (fun _=>none) 0::F)):=by
 go_enter Tryz.func121,Tryz.ntmps121
 go_wp2_with (first
  |((with_reducible refine at_make ⟨?_⟩);refine wl_makeN (e:=300) (sz:=38) (by':=80) (n:=8) kRz zSlotA h rFz rFz dCz dCz ?_;intro bM wM hM)
  |((with_reducible refine at_box ⟨?_⟩);refine wl_box hM evD evD ?_;intro bB wB hB))
 go_ret
 refine ⟨_,rfl,bB,rfl,?_⟩
 have e:(List.replicate 8 (slotL aenc ⟨0,Frm.zero32,zwA⟩)).flatten=(List.replicate 8 (⟨0,Frm.zero32,zwA⟩:Tab.Slot (Rep.Abt))).flatMap (slotL aenc):=(rows_rep 8 _).symm
 rw [e]at hB
 exact TabMA.shut (t:=⟨List.replicate 8 ⟨0,Frm.zero32,zwA⟩,0,0⟩) (Tab.new_ok dCz rfl) (Tab.new_is rfl 0 0) (Nat.le_refl 0) hB
set_option maxRecDepth 20000 in
theorem getA_c (hB:B≤268435000) (hk:k.length=32) (h:Sat w0 w (TabMA p m B::F)) :
  Calls Tryz.prog 164 #[ptr p,.agg (bys k).toArray] w (Rtn fun v w'=>v = .tuple #[.agg (aenc ((m k).getD ⟨0,Seg.Plc.zero,0⟩)).toArray,.bool (m k).isSome]∧Sat w0 w' (TabMA p m B::F)):=by
 obtain ⟨t,sv,⟨ok,is,hb⟩,hR⟩:=TabMA.open h
 obtain ⟨d,he⟩:=ok.ends k
 have hsz:t.slots.length≤1073741824:=by have:=ok.size;omega
 have Hlen:=uQ (show ∀ x∈t.slots,(slotL aenc x).length=38 from fun x hx=>slotL_len aenc x (ok.good.key x hx) 5 (aenc_len _))
 obtain ⟨la,lc,rfl⟩:=osl_rows Hlen.out (Sat.rd (hR.pick pick1)) dCz
 have Hk:=uQ hk;have Hok:=uQ ok;have His:=uQ is;have Hb:=uQ hb;have He:=uQ he;have Hsz:=uQ hsz
 have Hp0:=uQ ok.good.pos_len
 clear h hk ok is hb he hsz hB
 go_enter Tryz.func164,Tryz.ntmps164
 go_wp2_with (first|((with_reducible refine at_box ⟨?_⟩);refine wl_box aQ evD evD ?_;intro bB wB hB)|(with_reducible apply at_alloc))
 refine ⟨wl_alloc zValA hB rfl ?_⟩
 intro b4 w4 hS4
 go_wp2_with (with_reducible apply at_alloc)
 refine ⟨wl_alloc zValA hS4 rfl ?_⟩
 intro b6 w6 hS6
 have hR6:Sat w0 w6 (tbPt p 271 (.slice la t.slots.length lc) t.n t.gone::pt b6 (.cells (aenc zwA).toArray 214 (0,0))::pt b4 (.cells (aenc zwA).toArray 214 (0,0))::pt bB (.cells (bys k).toArray 30 (0,0))::osl 300 38 (.slice la t.slots.length lc) (t.slots.flatMap (slotL aenc))::F):=hS6.sb
 clear hB hS4 hS6 hR
 go_wp2_with fail
 refine (okA_c Hp0.out hR6).mono ?_
 rintro ee w7 ⟨v,rfl,rfl,rfl⟩
 go_wp2_with ((with_reducible refine at_load ⟨?_⟩);refine wl_loadA hR6 rFz (pick_there (pick_there (pick_there pick0))) Tryz.underlying30 rfl (by rw [List.size_toArray,bys_len,Hk.out];kernel_rfl) ?_)
 have hf:=findA_c Hok.out.good Hsz.out Hk.out He.out (hR6.sb:Sat w0 w6 (tbPt p 271 (.slice la t.slots.length lc) t.n t.gone::osl 300 38 (.slice la t.slots.length lc) (t.slots.flatMap (slotL aenc))::pt b6 (.cells (aenc zwA).toArray 214 (0,0))::pt b4 (.cells (aenc zwA).toArray 214 (0,0))::F))
 clear hR6
 refine hf.mono ?_
 rintro ee w8 ⟨v,rfl,x,hx,rfl,hS8⟩
 clear hf
 obtain ⟨m1,m2⟩:=His.out.some Hok.out He.out hx
 have hxm:=List.mem_of_getElem? hx
 have hxk:=Hok.out.good.key x hxm
 obtain ⟨bk,off,c',hsv,hcell⟩:=osl_row Hlen.out (Sat.rd (hS8.pick pick1)) hx dCz
 cases hsv
 have hlt:=Tab.pos_lt (k:=k) (d:=d) Hp0.out
 have hval:∀ j v,(aenc x.val)[j]?=some v→w8.cell? ⟨bk,off+Tab.pos k t.slots.length d * 38+33+j,none⟩=some v:=fun j v hj=>by
  rw [Nat.add_assoc _ 33 j]
  exact hcell (33+j) v (slotL_val aenc x hxk hj)
 clear hcell hx hxm
 generalize Tab.pos k t.slots.length d=P0 at *
 have c0:(0:Int)≤(P0:Int):=oQ
 have c1:(P0:Int)<(t.slots.length:Int):=oQ
 have e0:w8.cell? ⟨p,0,none⟩=some (.slice (some ⟨bk,off,none⟩) t.slots.length lc):=hS8.cellP pkD 0 rfl
 by_cases h1:x.st=1
 ·have hd:decide (x.st=1)=true:=decide_eq_true h1
  have Hm:=uQ (m1 h1)
  clear m1 m2 h1
  go_wp2_with (first
   |((with_reducible refine at_load ⟨?_⟩);refine wl_load1 hS8 rFz pkD nLz evD kRz ?_)
   |((with_reducible refine at_load ⟨?_⟩);refine wl_loadW (b:=bk) (o:=off+P0 * 38+33) (aenc x.val) rFz hval Tryz.underlying214 rfl kRz ?_)
   |((with_reducible refine at_store ⟨?_⟩);refine wl_storeA (aenc x.val).toArray hS8 rFz rFz rFz (upd_there (upd_there (upd_there upd0))) kRz rFz ?_;intro w10 hS10))
  refine ⟨rfl,_,res_cell_tmp rfl hS10 rFz pkD Tryz.underlying214 rfl kRz,_,rfl,?_,TabMA.shut Hok.out His.out Hb.out (hS10.sb)⟩
  rw [Hm.out];rfl
 ·have hd:decide (x.st=1)=false:=decide_eq_false h1
  have Hm:=uQ (m2 h1)
  clear m1 m2 h1
  go_wp2_with (first
   |((with_reducible refine at_load ⟨?_⟩);refine wl_loadA hS8 rFz (pick_there (pick_there (pick0 (A:=pt b6 (.cells (aenc zwA).toArray 214 (0,0)))))) Tryz.underlying214 rfl kRz ?_)
   |((with_reducible refine at_store ⟨?_⟩);refine wl_storeA (aenc zwA).toArray hS8 rFz rFz rFz (upd_there (upd_there (upd_there upd0))) kRz rFz ?_;intro w10 hS10))
  refine ⟨rfl,_,res_cell_tmp rfl hS10 rFz (pick_there (pick_there (pick_there pick0))) Tryz.underlying214 rfl kRz,_,rfl,?_,TabMA.shut Hok.out His.out Hb.out (hS10.sb)⟩
  rw [Hm.out];rfl
end
section
variable {w0 w:World}{F R:List HProp}{p B N:Nat}{sv v:Value}{k:Frm.Bs}{m:Frm.Bs→Option (Rep.Abt)}{t:Tab.Tb (Rep.Abt)}
set_option maxRecDepth 20000 in
theorem renewA_c (ok:t.Ok) (hN:t.n≤N) (hNb:N≤134217728) (hlen31:t.slots.length≤1073741824) (h:Sat w0 w (tbPt p 271 sv t.n t.gone::osl 300 38 sv (t.slots.flatMap (slotL aenc))::F)) :
  Calls Tryz.prog 200 #[ptr p,.int .i64 N] w (Rtn fun _ w'=>∃ s' sv',Tab.Renewed t s' N∧Sat w0 w' (tbPt p 271 sv' t.n 0::osl 300 38 sv' (s'.flatMap (slotL aenc))::F)):=by
 have Hok:=uQ ok;have HN:=uQ hN;have HNb:=uQ hNb
 have Hlen:=uQ (show ∀ x∈t.slots,(slotL aenc x).length=38 from fun x hx=>slotL_len aenc x (ok.good.key x hx) 5 (aenc_len _))
 obtain ⟨la,lc,rfl⟩:=osl_rows Hlen.out (Sat.rd (h.pick pick1)) dCz
 have hw0:IntKind.i64.wrap (2 * (N:Int))=2 * (N:Int):=IntWalk.i64_in _ oQ
 have hw0b:wrap64 (2 * (N:Int))=2 * (N:Int):=IntWalk.wrap64_in _ oQ
 clear ok hN
 go_enter Tryz.func200,Tryz.ntmps200
 go_wp2_with fail
 go_loopg [4] (4 * N) (fun g cq wr=>∃ c:Nat,g=4 * N+8 - c∧cq = .int .i64 c∧(∃ j,c=2^j∧3≤j)∧8≤c∧(c=8∨c<4 * N)∧wr=w)
 case atStart=>exact ⟨8,by omega,rfl,⟨3,rfl,Nat.le_refl 3⟩,Nat.le_refl 8,.inl rfl,rfl⟩
 case round=>
  obtain ⟨c,rfl,rfl,⟨j,hj,hj3⟩,hc8,hc,rfl⟩:=hrel
  by_cases hlt:c<2 * N
  ·have c1:(c:Int)<2 * (N:Int):=by omega
   have hw1:IntKind.i64.wrap ((c:Int) * 2)=(c:Int) * 2:=IntWalk.i64_in _ oQ
   have hw1b:wrap64 ((c:Int) * 2)=(c:Int) * 2:=IntWalk.wrap64_in _ oQ
   have Hj:=uQ hj;have Hj3:=uQ hj3;have Hlt:=uQ hlt;have Hc8:=uQ hc8
   clear hj hj3 hlt hc hc8
   go_wp2_with fail
   go_roundg (4 * N+8 - c * 2)
   case measure=>have:=Hlt.out;have:=Hc8.out;omega
   case rel=>exact ⟨c * 2,rfl,by first|rfl|go_num,⟨j+1,by rw [Nat.pow_succ,Hj.out],by have:=Hj3.out;omega⟩,by have:=Hc8.out;omega,.inr (by have:=Hlt.out;omega),rfl⟩
  ·have c1:¬ (c:Int)<2 * (N:Int):=by omega
   have HC:=uQ (show (∃ j,c=2^j∧3≤j)∧2 * N≤c∧8≤c∧(c=8∨c<4 * N) from ⟨⟨j,hj,hj3⟩,by omega,hc8,hc⟩)
   have hcb:c≤1073741824:=oQ
   have Hcb:=uQ hcb
   clear hj hj3 hlt hc hc8 hw0 hcb hNb
   go_wp2_with (first
    |((with_reducible refine at_load ⟨?_⟩);refine wl_load1 h rFz pkD nLz evD kRz ?_)
    |((with_reducible refine at_make ⟨?_⟩);refine wl_makeN (e:=300) (sz:=38) (by':=80) (n:=c) kRz zSlotA h rFz rFz (by have:=Hcb.out;omega) (by have:=Hcb.out;omega) ?_;intro bM wM hM)
    |((with_reducible refine at_store ⟨?_⟩);refine wl_store aQ rFz evD pQ upD nLz kRz rFz ?_;intro wS hS))
   have e8:(List.replicate c (slotL aenc ⟨0,Frm.zero32,zwA⟩)).flatten=(List.replicate c (⟨0,Frm.zero32,zwA⟩:Tab.Slot (Rep.Abt))).flatMap (slotL aenc):=(rows_rep c _).symm
   rw [e8]at hS
   have hS0:Sat w0 _ (tbPt p 271 (.slice (some ⟨bM,0,none⟩) c c) t.n 0::osl 300 38 (.slice (some ⟨bM,0,none⟩) c c) ((List.replicate c (⟨0,Frm.zero32,zwA⟩:Tab.Slot (Rep.Abt))).flatMap (slotL aenc))::osl 300 38 (.slice la t.slots.length lc) (t.slots.flatMap (slotL aenc))::F):=hS.sb
   clear hS hM h e8 c1
   go_wp2_with fail
   go_loopg [31] t.slots.length (fun g iq wr=>∃ (i:Nat) (cur:List (Tab.Slot (Rep.Abt))),g=t.slots.length - i∧i≤t.slots.length∧iq = .int .i64 i∧Tab.Half t.slots cur i∧cur.length=c ∧
    Sat w0 wr (tbPt p 271 (.slice (some ⟨bM,0,none⟩) c c) t.n 0::osl 300 38 (.slice (some ⟨bM,0,none⟩) c c) (cur.flatMap (slotL aenc))::osl 300 38 (.slice la t.slots.length lc) (t.slots.flatMap (slotL aenc))::F))
   case atStart=>exact ⟨0,_,rfl,Nat.zero_le _,rfl,Tab.half_start HC.out.1 dCz rfl,List.length_replicate,hS0⟩
   case round=>
    obtain ⟨i,cur,rfl,hi,rfl,hH,hcl,hS⟩:=hrel
    clear hS0
    have HH:=uQ hH;have Hcl:=uQ hcl
    by_cases hlt:i<t.slots.length
    rotate_left
    ·obtain rfl:i=t.slots.length:=by omega
     have c1:¬ (t.slots.length:Int)<(t.slots.length:Int):=oQ
     clear hlt hH hi
     go_wp2_with fail
     go_end0
     obtain ⟨q1,q2,q3,q4⟩:=HH.out.done
     exact ⟨_,rfl,cur,⟨q1,q2,q3.trans Hok.out.n.symm,q4.trans Hok.out.n.symm,by rw [Hcl.out];exact HC.out.2.1,by rw [Hcl.out];exact HC.out.2.2.1,by rw [Hcl.out];exact HC.out.2.2.2⟩,_,hS.sb⟩
    have c1:(i:Int)<(t.slots.length:Int):=oQ
    have hwi:=iwQ (i:=i)
    obtain ⟨x,hx⟩:∃ x,t.slots[i]?=some x:=⟨_,List.getElem?_eq_getElem hlt⟩
    have hxm:=List.mem_of_getElem? hx
    have hst:=Hok.out.good.st x hxm
    have Hxk:=uQ (Hok.out.good.key x hxm)
    obtain ⟨bk,off,c',hsv,hcell⟩:=osl_row Hlen.out (Sat.rd (hS.pick pick2)) hx dCz
    cases hsv
    have hl38:=Hlen.out x hxm
    have Hx:=uQ hx;have Hlt:=uQ hlt
    clear hx hxm hlt hH hi
    go_wp2_with (first
     |((with_reducible refine at_load ⟨?_⟩);refine wl_loadW (b:=bk) (o:=off+i * 38) (slotL aenc x) rFz hcell Tryz.underlying300 rfl (by rw [hl38];kernel_rfl) ?_)
     |(with_reducible apply at_alloc))
    refine ⟨wl_alloc zSlotA hS rfl ?_⟩
    intro b7 w7 hS7
    go_wp2_with (first|((with_reducible refine at_store ⟨?_⟩);refine wl_storeA (slotL aenc x).toArray hS7 rFz rFz (by rw [List.size_toArray,hl38];rfl) upd0 (by rw [List.size_toArray,hl38];kernel_rfl) (by rw [List.toList_toArray];exact slotL_ones aenc x (aenc_ones _)) ?_;intro w10 hS10)|(with_reducible apply at_load))
    refine ⟨?_⟩
    clear hS hS7 hcell
    have f0:w10.cell? ⟨b7,0,none⟩=some (.int .i64 x.st):=hS10.cellP pick0 0 (by rw [List.getElem?_toArray];rfl)
    have f1:w10.rangeAt b7 1 (bys x.key):=slot_key (hS10.pick pick0)
    by_cases h1:x.st=1
    rotate_left
    ·have hst1:((x.st:Int)==1)=false:=by rw [beq_eq_false_iff_ne];omega
     have H1:=uQ h1
     clear h1 f1
     go_wp2_with fail
     go_roundg (t.slots.length - (i+1))
     case measure=>have:=Hlt.out;omega
     case rel=>exact ⟨i+1,cur,rfl,Hlt.out,by first|rfl|go_num,HH.out.skip Hx.out H1.out,Hcl.out,hS10.sb⟩
    ·have hus:Tab.used cur<cur.length:=by
      have h2:=HH.out.nu
      have h3:=Tab.fulls_take_le t.slots i
      have h4:=Hok.out.n
      have h5:=HN.out
      have h6:=HC.out
      rw [Hcl.out];omega
     obtain ⟨dd,hdd⟩:=Tab.ends_of (k:=x.key) HH.out.good (Tab.free_of hus)
     have H1:=uQ h1;have Hdd:=uQ hdd
     have hst1:((x.st:Int)==1)=true:=by rw [h1];rfl
     have Hcl38:=uQ (show ∀ y∈cur,(slotL aenc y).length=38 from fun y hy=>slotL_len aenc y (HH.out.good.key y hy) 5 (aenc_len _))
     clear h1 hus hdd
     go_wp2_with ((with_reducible refine at_load ⟨?_⟩);refine wl_loadW (b:=b7) (o:=1) (bys x.key) rFz f1 Tryz.underlying30 rfl (by rw [bys_len,Hxk.out];kernel_rfl) ?_)
     have hf:=findA_c HH.out.good (by rw [Hcl.out];exact Hcb.out) Hxk.out Hdd.out (hS10.sb:Sat w0 w10 (tbPt p 271 (.slice (some ⟨bM,0,none⟩) c c) t.n 0::osl 300 38 (.slice (some ⟨bM,0,none⟩) c c) (cur.flatMap (slotL aenc))::pt b7 (.cells (slotL aenc x).toArray 300 (0,0))::osl 300 38 (.slice (some ⟨bk,off,none⟩) t.slots.length lc) (t.slots.flatMap (slotL aenc))::F))
     clear hS10 f0 f1
     refine hf.mono ?_
     rintro ee w11 ⟨v,rfl,y,hy,rfl,hS11⟩
     clear hf hy
     have hlt2:=Tab.pos_lt (k:=x.key) (d:=dd) HH.out.good.pos_len
     rw [Hcl.out]at hlt2
     have Hset:=uQ (rows_set (f:=slotL aenc) (k:=38) (i:=Tab.pos x.key cur.length dd) (x:=x) Hcl38.out hl38 (Tab.pos_lt HH.out.good.pos_len))
     have Hst2:=uQ (HH.out.step Hok.out.good Hx.out H1.out Hdd.out)
     rw [Hcl.out]at Hset Hst2
     rw [Hcl.out]
     have hrl:(cur.flatMap (slotL aenc)).length=38 * c:=by rw [rows_len Hcl38.out,Hcl.out]
     generalize Tab.pos x.key c dd=P0 at *
     have c2:(0:Int)≤(P0:Int):=oQ
     have c3:(P0:Int)<(c:Int):=oQ
     go_wp2_with fail
     have hSd:=hS11.drew
     clear hS11
     refine wpL_begin [6,7] (fun w'=>w'.cell? ⟨p,0,none⟩=some (.slice (some ⟨bM,0,none⟩) c c)∧w'.rangeAt b7 0 (slotL aenc x)) kRz ?_
     have hG:World.cell? _ ⟨p,0,none⟩=some (.slice (some ⟨bM,0,none⟩) c c)∧World.rangeAt _ b7 0 (slotL aenc x):=⟨hSd.cellP pkD 0 rfl,pt_rangeL (hSd.pk (A:=pt b7 (.cells (slotL aenc x).toArray 300 (0,0))))⟩
     refine rP 0 ?_ (y:=mvQ)
     refine rP 1 ?_ (y:=nlQ)
     refine rP 2 ?_ (y:=flQ)
     refine rt 3 (h:=?_)
     refine rP 4 ?_ (y:=mvQ)
     refine rg_take 5 evD kRz i3z (tk_loadN (b:=b7) (o:=0) (slotL aenc x) rFz Tryz.underlying300 rfl (by rw [hl38];kernel_rfl) (fun w hw=>hw.2)) aQ gQ ?_
     refine rP 6 ?_ (y:=ixQ)
     clear hG
     refine rg_eff 7 evD kRz (fun K hK=>?_)
     refine eff_storeSN (vs:=slotL aenc x) (P0 * 38) hSd evD evD rfl (upd_there upd0) (by rw [hl38,hrl];omega) (by rw [hl38];kernel_rfl) (slotL_ones aenc x (aenc_ones _)) ?_
     intro w12 hS12
     refine hK _ _ (.inl rfl) ?_
     clear hK hSd
     refine wpL_done kRz ?_
     try simp only [ayQ]
     try go_frame
     rw [← Hset.out]at hS12
     go_wp2_with fail
     go_roundg (t.slots.length - (i+1))
     case measure=>have:=Hlt.out;omega
     case rel=>exact ⟨i+1,_,rfl,Hlt.out,by first|rfl|go_num,Hst2.out,by rw [List.length_set];exact Hcl.out,hS12.sb⟩
end
theorem run_slotA (k:Frm.Bs) (hk:k.length=32) (v:Rep.Abt) (w:World) :
  (Instr.build 300 #[(0,.int .i64 1),(1,.agg (bys k).toArray),(2,.agg (aenc v).toArray)]).run Tryz.prog w = .ok (.agg (slotL aenc ⟨1,k,v⟩).toArray) w:=by
 have hbk:(bys k).toArray.size=32:=by rw [List.size_toArray,bys_len,hk]
 refine (run_build (P:=Tryz.prog) [(0,.int .i64 1),(1,.agg (bys k).toArray),(2,.agg (aenc v).toArray)] plSlotA zSlotA (by
  intro p' hp
  simp only [List.mem_cons,List.not_mem_nil,or_false]at hp
  have hzz:(Value.agg (slotL aenc (⟨0,Frm.zero32,zwA⟩:Tab.Slot (Rep.Abt))).toArray).cells.size=38:=by
   show (slotL aenc (⟨0,Frm.zero32,zwA⟩:Tab.Slot (Rep.Abt))).toArray.size=38
   rw [List.size_toArray,slotL_len aenc _ dCz 5 rfl]
  rw [hzz]
  rcases hp with rfl|rfl|rfl
  ·exact ⟨0,rfl,by show 0+1≤38;omega⟩
  ·refine ⟨1,?_,?_⟩
   ·show some (1,32)=some (1,(bys k).toArray.size);rw [hbk]
   ·show 1+(bys k).toArray.size≤38;omega
  ·exact ⟨33,rfl,by show 33+5≤38;omega⟩) w).trans ?_
 rw [show (Value.agg (slotL aenc (⟨0,Frm.zero32,zwA⟩:Tab.Slot (Rep.Abt))).toArray).cells=(slotL aenc (⟨0,Frm.zero32,zwA⟩:Tab.Slot (Rep.Abt))).toArray from rfl,put_slot aenc ⟨0,Frm.zero32,zwA⟩ k v dCz hk rfl 5 rfl]
section
variable {w0 w:World}{F R:List HProp}{p B:Nat}{sv:Value}{k:Frm.Bs}{m:Frm.Bs→Option (Rep.Abt)}
set_option maxRecDepth 20000 in
theorem putA_c (hB:B≤134217000) (hk:k.length=32) (v:Rep.Abt) (h:Sat w0 w (TabMA p m B::F)) :
  Calls Tryz.prog 165 #[ptr p,.agg (bys k).toArray,.agg (aenc v).toArray] w (Rtn fun _ w'=>Sat w0 w' (TabMA p (Tab.put m k v) (B+1)::F)):=by
 obtain ⟨t,sv,⟨ok,is,hb⟩,hR⟩:=TabMA.open h
 obtain ⟨d,he⟩:=ok.ends k
 have hsz:t.slots.length≤1073741824:=by have:=ok.size;omega
 have Hlen:=uQ (show ∀ x∈t.slots,(slotL aenc x).length=38 from fun x hx=>slotL_len aenc x (ok.good.key x hx) 5 (aenc_len _))
 obtain ⟨la,lc,rfl⟩:=osl_rows Hlen.out (Sat.rd (hR.pick pick1)) dCz
 have hrl:0<(t.slots.flatMap (slotL aenc)).length:=by rw [rows_len Hlen.out];have:=ok.good.pos_len;omega
 obtain ⟨bk,rfl⟩:=osl_zero (hR.pick pick1) hrl
 have Hk:=uQ hk;have Hok:=uQ ok;have His:=uQ is;have Hb:=uQ hb;have He:=uQ he;have Hsz:=uQ hsz;have HB:=uQ hB
 have Hp0:=uQ ok.good.pos_len
 have Hbs:=uQ (show (bys k).length=32 by rw [bys_len,hk])
 clear h hk ok is hb he hsz hB hrl
 go_enter Tryz.func165,Tryz.ntmps165
 go_wp2_with (with_reducible apply at_box)
 refine ⟨wl_box hR evD evD ?_⟩
 intro b4 w4 hS4
 go_wp2_with (with_reducible apply at_box)
 refine ⟨wl_box hS4 evD evD ?_⟩
 intro b5 w5 hS5
 have hA:Sat w0 w5 (tbPt p 271 (.slice (some ⟨bk,0,none⟩) t.slots.length lc) t.n t.gone::osl 300 38 (.slice (some ⟨bk,0,none⟩) t.slots.length lc) (t.slots.flatMap (slotL aenc))::pt b4 (.cells (bys k).toArray 30 (0,0))::pt b5 (.cells (aenc v).toArray 214 (0,0))::F):=hS5.sb
 clear hR hS4 hS5
 go_wp2_with fail
 refine (okA_c Hp0.out hA).mono ?_
 rintro ee w7 ⟨v',rfl,rfl,rfl⟩
 go_wp2_with ((with_reducible refine at_load ⟨?_⟩);refine wl_loadA hA rFz (pick_there (pick_there (pick0 (A:=pt b4 (.cells (bys k).toArray 30 (0,0)))))) Tryz.underlying30 rfl (by rw [List.size_toArray,Hbs.out];kernel_rfl) ?_)
 have hf:=findA_c Hok.out.good Hsz.out Hk.out He.out hA
 clear hA
 refine hf.mono ?_
 rintro ee w8 ⟨v',rfl,x,hx,rfl,hS8⟩
 clear hf
 have hlt:=Tab.pos_lt (k:=k) (d:=d) Hp0.out
 by_cases h1:x.st=1
 ·have hd:decide (x.st=1)=true:=decide_eq_true h1
  have hxm:=List.mem_of_getElem? hx
  have Hrow:=uQ (rows_part (f:=slotL aenc) (k:=38) (o:=33) (x':=⟨x.st,x.key,v⟩) (vs:=aenc v) Hlen.out hx (slotL_setv aenc x v (Hok.out.good.key x hxm) rfl) (by show 33+5≤38;decide))
  have Hok2:=uQ (Tab.put_old_ok Hok.out He.out hx h1 v)
  have His2:=uQ (Tab.is_put His.out (Tab.put_found Hok.out.good He.out hx h1 v).2 t.n t.gone)
  have hrl:(t.slots.flatMap (slotL aenc)).length=38 * t.slots.length:=rows_len Hlen.out
  clear hx hxm h1
  generalize Tab.pos k t.slots.length d=P0 at *
  have c0:(0:Int)≤(P0:Int):=oQ
  have c1:(P0:Int)<(t.slots.length:Int):=oQ
  go_wp2_with fail
  have hSd:=hS8.drew
  clear hS8
  refine wpL_begin [6,7,8] (fun w'=>w'.cell? ⟨p,0,none⟩=some (.slice (some ⟨bk,0,none⟩) t.slots.length lc)∧w'.rangeAt b5 0 (aenc v)) kRz ?_
  have hG:World.cell? _ ⟨p,0,none⟩=some (.slice (some ⟨bk,0,none⟩) t.slots.length lc)∧World.rangeAt _ b5 0 (aenc v):=⟨hSd.cellP pkD 0 rfl,pt_rangeL (hSd.pk (A:=pt b5 (.cells (aenc v).toArray 214 (0,0))))⟩
  refine rP 0 ?_ (y:=mvQ)
  refine rP 1 ?_ (y:=nlQ)
  refine rP 2 ?_ (y:=flQ)
  refine rt 3 (h:=?_)
  refine rP 4 ?_ (y:=mvQ)
  refine rg_take 5 evD kRz i3z (tk_loadN (b:=b5) (o:=0) (aenc v) rFz Tryz.underlying214 rfl kRz (fun w hw=>hw.2)) aQ gQ ?_
  refine rP 6 ?_ (y:=ixQ)
  refine rP 7 ?_ (y:=flQ)
  clear hG
  refine rg_eff 8 evD kRz (fun K hK=>?_)
  refine eff_storeSN (vs:=aenc v) (P0 * 38+33) hSd evD evD rfl (upd_there upd0) (by rw [hrl];show P0 * 38+33+5≤_;omega) kRz rFz ?_
  intro w12 hS12
  refine hK _ _ (.inl rfl) ?_
  clear hK hSd
  refine wpL_done kRz ?_
  try simp only [ayQ]
  try go_frame
  rw [← Hrow.out]at hS12
  go_wp2_with fail
  go_end0
  exact ⟨_,rfl,TabMA.shut (sv:= .slice (some ⟨bk,0,none⟩) t.slots.length lc) Hok2.out His2.out (Nat.le_succ_of_le Hb.out) (hS12.sb)⟩
 have hd:decide (x.st=1)=false:=decide_eq_false h1
 have hb4:=Hb.out
 have hB4:=HB.out
 have hsz4:=Hsz.out
 obtain ⟨hA1,hA2,hA3,hA4,hA1b,hA2b,hA3b,hA4b,hA5⟩:=wraps4 t.n t.gone t.slots.length oQ hsz4
 have Hx:=uQ hx;have H1:=uQ h1
 clear hx h1 hb4 hB4 hsz4
 go_wp2_with fail
 have hSd:=hS8.drew
 clear hS8
 have e0:World.cell? _ ⟨p,0,none⟩=some (.slice (some ⟨bk,0,none⟩) t.slots.length lc):=hSd.cellP pkD 0 rfl
 have e1:World.cell? _ ⟨p,1,none⟩=some (.int .i64 t.n):=hSd.cellP pkD 1 rfl
 have e2:World.cell? _ ⟨p,2,none⟩=some (.int .i64 t.gone):=hSd.cellP pkD 2 rfl
 go_region
 have hcmp:3 * t.slots.length<4 * (t.n+t.gone+1)∨4 * (t.n+t.gone+1)≤3 * t.slots.length:=oQ
 rcases hcmp with hcmp|hcmp
 focus
  have hci:(3:Int) * (t.slots.length:Int)<4 * ((t.n:Int)+(t.gone:Int)+1):=oQ
  have hrn:=renewA_c (N:=t.n+1) Hok.out (Nat.le_succ _) (by have:=Hb.out;have:=HB.out;omega) Hsz.out hSd
  rw [show (((t.n+1:Nat)):Int)=(t.n:Int)+1 by omega]at hrn
  clear hSd e0 e2
  go_wp2_with fail
  refine hrn.mono ?_
  rintro ee w9 ⟨v',rfl,s',sv',hren,hS9⟩
  clear hrn e1 hci hcmp
  have hok1:=hren.ok
  have his1:=hren.is His.out t.n 0
  have hld1:4 * ((⟨s',t.n,0⟩:Tab.Tb (Rep.Abt)).n+(⟨s',t.n,0⟩:Tab.Tb (Rep.Abt)).gone+1)≤3 * (⟨s',t.n,0⟩:Tab.Tb (Rep.Abt)).slots.length:=by have:=hren.lo;simp only;omega
  have hb1:(⟨s',t.n,0⟩:Tab.Tb (Rep.Abt)).n+(⟨s',t.n,0⟩:Tab.Tb (Rep.Abt)).gone≤B:=by have:=Hb.out;simp only;omega
  have hS10:Sat w0 w9 (tbPt p 271 sv' (⟨s',t.n,0⟩:Tab.Tb (Rep.Abt)).n (⟨s',t.n,0⟩:Tab.Tb (Rep.Abt)).gone::osl 300 38 sv' ((⟨s',t.n,0⟩:Tab.Tb (Rep.Abt)).slots.flatMap (slotL aenc))::pt b4 (.cells (bys k).toArray 30 (0,0))::pt b5 (.cells (aenc v).toArray 214 (0,0))::F):=hS9
  clear hS9 hren hA1 hA2 hA3 hA4 hA1b hA2b hA3b hA4b hA5
  generalize (⟨s',t.n,0⟩:Tab.Tb (Rep.Abt))=t1 at hok1 his1 hld1 hb1 hS10
  have Hlen1:=uQ (show ∀ x∈t1.slots,(slotL aenc x).length=38 from fun x hx=>slotL_len aenc x (hok1.good.key x hx) 5 (aenc_len _))
  obtain ⟨la1,lc1,rfl⟩:=osl_rows Hlen1.out (Sat.rd (hS10.pick pick1)) dCz
  have Hok1:=uQ hok1;have His1:=uQ his1;have Hld1:=uQ hld1;have Hb1:=uQ hb1
  obtain ⟨d1,he1⟩:=hok1.ends k
  have He1:=uQ he1
  have hno:m k=none:=by
   obtain ⟨_,q2⟩:=His.out.some Hok.out He.out Hx.out
   exact q2 H1.out
  have hsz1:t1.slots.length≤1073741824:=by have:=hok1.size;have:=HB.out;omega
  clear hok1 his1 hld1 hb1 he1
  go_wp2_with ((with_reducible refine at_load ⟨?_⟩);refine wl_loadA hS10 rFz (pick_there (pick_there (pick0 (A:=pt b4 (.cells (bys k).toArray 30 (0,0)))))) Tryz.underlying30 rfl (by rw [List.size_toArray,Hbs.out];kernel_rfl) ?_)
  have hf:=findA_c Hok1.out.good hsz1 Hk.out He1.out hS10
  clear hS10 hsz1
  refine hf.mono ?_
  rintro ee w8b ⟨v',rfl,x1,hx1,rfl,hT⟩
  have Hx1:=uQ hx1
  have H1f:=uQ (show x1.st≠1 from fun h=>by
   have:=(His1.out.some Hok1.out He1.out hx1).1 h
   rw [hno]at this;cases this)
  clear hf hx1 hno Hx H1 He Hok His Hlen Hp0 Hb Hsz hlt hd
  go_wp2_with fail
 rotate_left
 focus
  have hci:¬ (3:Int) * (t.slots.length:Int)<4 * ((t.n:Int)+(t.gone:Int)+1):=oQ
  have Hld1:=uQ hcmp
  clear e0 e1 e2 hcmp
  go_wp2_with fail
  clear hci hA1 hA2 hA3 hA4 hA1b hA2b hA3b hA4b hA5 hlt hd Hp0 Hsz
  obtain ⟨t1,rfl⟩:∃ y,y=t:=⟨t,rfl⟩
  obtain ⟨x1,rfl⟩:∃ y,y=x:=⟨x,rfl⟩
  obtain ⟨d1,rfl⟩:∃ y,y=d:=⟨d,rfl⟩
  obtain ⟨la1,hla1⟩:∃ y:Option Addr,y=some ⟨bk,0,none⟩:=⟨_,rfl⟩
  obtain ⟨lc1,rfl⟩:∃ y,y=lc:=⟨lc,rfl⟩
  rw [← hla1]at hSd
  have hT:=hSd
  have Hok1:=uQ Hok.out;have His1:=uQ His.out;have Hb1:=uQ Hb.out;have He1:=uQ He.out;have Hx1:=uQ Hx.out;have H1f:=uQ H1.out;have Hlen1:=uQ Hlen.out
  clear hSd Hok His Hb He Hx H1 Hlen hla1
 all_goals
  have hrl:(t1.slots.flatMap (slotL aenc)).length=38 * t1.slots.length:=rows_len Hlen1.out
  obtain ⟨bk1,rfl⟩:=osl_zero (hT.pick pick1) (by rw [hrl];have:=Hok1.out.good.pos_len;omega)
  have Hrow:=uQ (rows_set (f:=slotL aenc) (k:=38) (i:=Tab.pos k t1.slots.length d1) (x:=⟨1,k,v⟩) Hlen1.out (slotL_len aenc _ Hk.out 5 rfl) (Tab.pos_lt Hok1.out.good.pos_len))
  have Hok2:=uQ (Tab.put_new_ok Hok1.out Hld1.out He1.out Hx1.out H1f.out Hk.out v)
  have His2:=uQ (Tab.is_put His1.out (Tab.put_new Hok1.out.good He1.out Hx1.out H1f.out Hk.out v).2 (t1.n+1) t1.gone)
  have hlt1:=Tab.pos_lt (k:=k) (d:=d1) Hok1.out.good.pos_len
  have hls:=slotL_len aenc (⟨1,k,v⟩:Tab.Slot (Rep.Abt)) Hk.out 5 rfl
  have hwn:IntKind.i64.wrap ((t1.n:Int)+1)=(t1.n:Int)+1:=IntWalk.i64_in _ (by have:=Hb1.out;have:=HB.out;omega)
  clear Hx1 H1f He1 Hok1 His1 Hld1
  generalize Tab.pos k t1.slots.length d1=P1 at *
  have c0:(0:Int)≤(P1:Int):=oQ
  have c1:(P1:Int)<(t1.slots.length:Int):=oQ
  have hSd:=hT.drew
  clear hT
  refine wpL_begin [8,9] (fun w'=>w'.cell? ⟨p,0,none⟩=some (.slice (some ⟨bk1,0,none⟩) t1.slots.length lc1)∧w'.rangeAt b4 0 (bys k)∧w'.rangeAt b5 0 (aenc v)) kRz ?_
  have hG:World.cell? _ ⟨p,0,none⟩=some (.slice (some ⟨bk1,0,none⟩) t1.slots.length lc1)∧World.rangeAt _ b4 0 (bys k)∧World.rangeAt _ b5 0 (aenc v):=⟨hSd.cellP pkD 0 rfl,pt_rangeL (hSd.pk (A:=pt b4 (.cells (bys k).toArray 30 (0,0)))),pt_rangeL (hSd.pk (A:=pt b5 (.cells (aenc v).toArray 214 (0,0))))⟩
  refine rP 0 ?_ (y:=mvQ)
  refine rP 1 ?_ (y:=nlQ)
  refine rP 2 ?_ (y:=flQ)
  refine rt 3 (h:=?_)
  refine rP 4 ?_ (y:=mvQ)
  refine rg_take 5 evD kRz i3z (tk_loadN (b:=b4) (o:=0) (bys k) rFz Tryz.underlying30 rfl (by rw [Hbs.out];kernel_rfl) (fun w hw=>hw.2.1)) aQ gQ ?_
  refine rg_take 6 evD kRz i3z (tk_loadN (b:=b5) (o:=0) (aenc v) rFz Tryz.underlying214 rfl kRz (fun w hw=>hw.2.2)) aQ gQ ?_
  refine rP 7 ?_ (y:=(yl_build3 evD evD evD (fun w=>run_slotA k Hk.out v w)))
  refine rP 8 ?_ (y:=ixQ)
  clear hG
  refine rg_eff 9 evD kRz (fun K hK=>?_)
  refine eff_storeSN (vs:=slotL aenc ⟨1,k,v⟩) (P1 * 38) hSd evD evD rfl (upd_there upd0) (by rw [hrl,hls];omega) (by rw [hls];kernel_rfl) (slotL_ones aenc _ rFz) ?_
  intro w12 hS12
  refine hK _ _ (.inl rfl) ?_
  clear hK hSd
  refine wpL_done kRz ?_
  try simp only [ayQ]
  try go_frame
  rw [← Hrow.out]at hS12
  go_wp2_with (first
   |((with_reducible refine at_load ⟨?_⟩);refine wl_load1 hS12 rFz pkD nLz evD kRz ?_)
   |((with_reducible refine at_store ⟨?_⟩);refine wl_store aQ rFz evD pQ upD nLz kRz rFz ?_;intro wS hS))
  go_end0
  exact ⟨_,rfl,TabMA.shut (sv:= .slice (some ⟨bk1,0,none⟩) t1.slots.length lc1) Hok2.out His2.out (by have:=Hb1.out;simp only;omega) (hS.sb)⟩
end
set_option maxRecDepth 20000 in
theorem cmpA_c (x y:Tab.Slot (Rep.Abt)) (hx:x.key.length=32) (hy:y.key.length=32) (W:World) :
  Calls Tryz.prog 235 #[.agg (slotL aenc x).toArray,.agg (slotL aenc y).toArray] W fun e w'=>e = .returned (.int .i64 (Lib.compareBytes x.key y.key))∧∃ q os',w'=Sort.grow (W.drewN q) os':=by
 have h0:=Sat.start W
 have h1:=h0.alloc (.cells (slotL aenc x).toArray 300)
 have h2:=(h1.alloc (.cells (slotL aenc y).toArray 300)).drew
 have hsz:(W.alloc (.cells (slotL aenc x).toArray 300)).heap.size=W.heap.size+1:=Array.size_push ..
 rw [hsz]at h2
 have r1:rdsl 1 (.slice (some ⟨W.heap.size,1,none⟩) 32 32) (bys x.key) ((W.alloc (.cells (slotL aenc x).toArray 300)).alloc (.cells (slotL aenc y).toArray 300)).drew:=
  ⟨_,_,_,rfl,by rw [bys_len,hx],fun j z hj=>⟨_,rfl,by rw [adr_add];exact slot_key (h2.pick pick1) j z hj⟩⟩
 have r2:rdsl 1 (.slice (some ⟨W.heap.size+1,1,none⟩) 32 32) (bys y.key) ((W.alloc (.cells (slotL aenc x).toArray 300)).alloc (.cells (slotL aenc y).toArray 300)).drew:=
  ⟨_,_,_,rfl,by rw [bys_len,hy],fun j z hj=>⟨_,rfl,by rw [adr_add];exact slot_key (h2.pick pick0) j z hj⟩⟩
 have hb:=bcmp_c x.key y.key r1 r2
 clear h0 h1 h2 r1 r2 hsz
 generalize Lib.compareBytes x.key y.key=r at *
 go_enter Tryz.func235,Tryz.ntmps235
 go_wp2_with fail
 have hG:True:=trivial
 refine wpL_begin [] (fun w'=>True) kRz ?_
 refine rP 0 ?_ (y:=flQ)
 refine rp 1 (hy:=(by (refine Or.inl ⟨by rfl,?_⟩;((intro wq;go_simp);first|done|exact wQ)))) (h:=?_)
 refine rP 2 ?_ (y:=flQ)
 refine rp 3 (hy:=(by (refine Or.inl ⟨by rfl,?_⟩;((intro wq;go_simp);first|done|exact wQ)))) (h:=?_)
 refine rg_eff 4 evD kRz (fun K hK=>?_)
 (refine eff_call2 kRz evD evD ?_)
 refine hb.mono ?_
 rintro e w' ⟨rfl,rfl⟩
 refine hK _ _ (.inr (.inr rfl)) ?_
 clear hK hb
 refine rP 5 ?_ (y:=asQ)
 refine wpL_done kRz ?_
 clear hG
 go_wp2_with fail
 go_ret
 exact ⟨rfl,1,#[.cells (slotL aenc x).toArray 300,.cells (slotL aenc y).toArray 300],by rw [Sort.alloc_eq_grow,Sort.alloc_eq_grow,Sort.grow_grow,Sort.drew_grow];rfl⟩
open Go.Sort
abbrev SlKA:Type:={ x:Tab.Slot (Rep.Abt) // x.key.length=32 }
instance:Inhabited SlKA:=⟨⟨⟨0,Frm.zero32,⟨0,Seg.Plc.zero,0⟩⟩,rfl⟩⟩
section
variable {w0 w:World}{F:List HProp}{v:Value}
theorem sortA_c (l:List (Tab.Slot (Rep.Abt))) (hk:∀ x∈l,x.key.length=32) (hn:l.length≤1073741824) (h:Sat w0 w (osl 300 38 v (l.flatMap (slotL aenc))::F)) :
  Calls Tryz.prog 234 #[v,.func (.func 235) #[] #[]] w (Rtn fun _ w'=>∃ l':List (Tab.Slot (Rep.Abt)),(l'.Perm l∧l'.Pairwise fun a b=>¬ b.key<a.key)∧Sat w0 w' (osl 300 38 v (l'.flatMap (slotL aenc))::F)):=by
 have hlen:∀ x∈l,(slotL aenc x).length=38:=fun x hx=>slotL_len aenc x (hk x hx) 5 (aenc_len _)
 rcases h.osl_cases with ⟨rfl,hn',h'⟩|⟨g,n,cap,cs,rfl,hl,hn',hc,hcm,htk,hp⟩
 ·obtain rfl:l=[]:=by
   cases l with
   |nil=>rfl
   |cons x l=>rw [List.flatMap_cons]at hn';have:=congrArg List.length hn';rw [List.length_append,hlen x (.head _)]at this;simp at this
  refine (AnyF.slices_SortFunc_none Tryz.sortA none 0 (.func (.func 235) #[] #[]) w).mono ?_
  rintro e w1 ⟨rfl,rfl⟩
  exact ⟨_,rfl,[],⟨.refl _,.nil⟩,h⟩
 ·rw [rows_len hlen,Nat.mul_comm]at hl
  obtain rfl:n=l.length:=(Nat.eq_of_mul_eq_mul_right dCz hl).symm
  let d:Array SlKA:=(l.attach.map fun x=>(⟨x.1,hk x.1 x.2⟩:SlKA)).toArray
  have hd:d.toList.map (·.1)=l:=by
   show (l.attach.map fun x=>(⟨x.1,hk x.1 x.2⟩:SlKA)).map (·.1)=l
   rw [List.map_map]
   exact List.attach_map_subtype_val l
  have hds:d.size=l.length:=by rw [← hd,List.length_map,Array.length_toList]
  have hke:∀ x:SlKA,((fun x:SlKA=>slotL aenc x.1) x).length=38:=fun x=>slotL_len aenc x.1 x.2 5 (aenc_len _)
  have hfl:∀ d:Array SlKA,(flatK (fun x:SlKA=>slotL aenc x.1) 38 d).toList=(d.toList.map (·.1)).flatMap (slotL aenc):=fun d=>by
   rw [flatK_list hke dCz,List.flatMap_map]
  have hH:HoldsK (fun x:SlKA=>slotL aenc x.1) 38 w g 0 d:=holds_blockV hp.at (by rw [size_flatK,hds,hfl,hd];exact htk)
  refine (AnyQ.slices_SortFunc Tryz.sortA 38 Tryz.isAgg300 Tryz.sizeOf300 (fun x:SlKA=>slotL aenc x.1) hke (fun x v hv=>List.all_eq_true.1 (slotL_ones aenc x.1 (aenc_ones _)) v hv) (fun x y=>Lib.compareBytes x.1.key y.1.key) (Tab.swo_key fun x:SlKA=>x.1.key) 235 #[] g 0 cap d w (fun args w=>by kernel_rfl) (fun m os dk _ x y=>cmpA_c x.1 y.1 x.2 y.2 _) hH hp.lt oQ |> fun q=>(by rw [hds]at q;exact q:Calls Tryz.prog 234 #[.slice (some ⟨g,0,none⟩) l.length cap,.func (.func 235) #[] #[]] w _)).mono ?_
  rintro e w1 ⟨rfl,d',n',os,hpm,hst,rfl⟩
  obtain ⟨q1,q2⟩:=Tab.sorted_list (key:=fun x:SlKA=>x.1.key) (by rw [hds];exact hpm) (by rw [hds];exact hst)
  have hl':d'.toList.length=l.length:=by rw [q1.length_eq,Array.length_toList,hds]
  have hS:=sat_sorted (n:=n') (os:=os) hp (flatK (fun x:SlKA=>slotL aenc x.1) 38 d')
  have hsz':(flatK (fun x:SlKA=>slotL aenc x.1) 38 d').size=l.length * 38:=by rw [size_flatK,← Array.length_toList,hl']
  refine ⟨_,rfl,d'.toList.map (·.1),⟨by rw [← hd];exact q1.map _,List.pairwise_map.2 q2⟩,?_⟩
  refine hS.osl_of_pt ?_ hn' (by simpa [Sort.putCells] using hc) hcm ?_
  ·rw [← hfl,Array.length_toList,hsz']
  ·rw [← hfl,← hsz']
   refine take_putCellsV _ ?_
   have:l.length * 38≤cap * 38:=Nat.mul_le_mul_right _ hn'
   omega
end
end Go.Proofs.YtlimfgdbfadohaaGreatDoor
namespace Go.Proofs.YtlimfgdbfadohaaGreatDoor
open Go Go.Sl Go.Med Go.MapKept Go.RowKit
section
variable {w0 w:World}{F R:List HProp}{p B:Nat}{sv v:Value}{k:Frm.Bs}{m:Frm.Bs→Option (Rep.Abt)}{t:Tab.Tb (Rep.Abt)}
set_option maxRecDepth 20000 in
theorem risingA_c (hB:B≤13000000) (h:Sat w0 w (TabMA p m B::F)) :
  Calls Tryz.prog 202 #[ptr p] w (Rtn fun v w'=>∃ l:List (Tab.Slot (Rep.Abt)),(Tab.Lists m (l.map fun x=>(x.key,x.val))∧(∀ x∈l,x.st=1∧x.key.length=32)∧l.length≤B)∧Sat w0 w' (osl 300 38 v (l.flatMap (slotL aenc))::TabMA p m B::F)):=by
 obtain ⟨t,sv,⟨ok,is,hb⟩,hR⟩:=TabMA.open h
 have hsz:t.slots.length≤56000000:=by have:=ok.size;omega
 have Hlen:=uQ (show ∀ x∈t.slots,(slotL aenc x).length=38 from fun x hx=>slotL_len aenc x (ok.good.key x hx) 5 (aenc_len _))
 obtain ⟨la,lc,rfl⟩:=osl_rows Hlen.out (Sat.rd (hR.pick pick1)) dCz
 have Hok:=uQ ok;have His:=uQ is;have Hb:=uQ hb;have Hsz:=uQ hsz;have Hp0:=uQ ok.good.pos_len
 clear h ok is hb hB
 have hS0:Sat w0 w (osl 300 38 (.slice none 0 0) []::tbPt p 271 (.slice la t.slots.length lc) t.n t.gone::osl 300 38 (.slice la t.slots.length lc) (t.slots.flatMap (slotL aenc))::F):=Sat.osl_nil.2 hR
 clear hR
 go_enter Tryz.func202,Tryz.ntmps202
 go_wp2_with fail
 refine (okA_c Hp0.out (hS0.pick pick1)).mono ?_
 rintro ee w7 ⟨v,rfl,rfl,rfl⟩
 go_wp2_with ((with_reducible refine at_load ⟨?_⟩);refine wl_load1 hS0 rFz pkD nLz evD kRz ?_)
 go_loopg [3,14] t.slots.length (fun g oq iq wr=>∃ (i:Nat),g=t.slots.length - i∧i≤t.slots.length∧iq = .int .i64 i ∧
  Sat w0 wr (osl 300 38 oq (((t.slots.take i).filter fun x=>decide (x.st=1)).flatMap (slotL aenc))::tbPt p 271 (.slice la t.slots.length lc) t.n t.gone::osl 300 38 (.slice la t.slots.length lc) (t.slots.flatMap (slotL aenc))::F))
 case atStart=>exact ⟨0,rfl,Nat.zero_le _,rfl,hS0⟩
 case round=>
  obtain ⟨i,rfl,hi,rfl,hS⟩:=hrel
  clear hS0
  by_cases hlt:i<t.slots.length
  rotate_left
  ·obtain rfl:i=t.slots.length:=by omega
   have c1:¬ (t.slots.length:Int)<(t.slots.length:Int):=oQ
   rw [List.take_length]at hS
   have hfk:∀ x∈t.slots.filter fun x=>decide (x.st=1),x.key.length=32:=fun x hx=>Hok.out.good.key x (List.mem_filter.1 hx).1
   have hs:=sortA_c (t.slots.filter fun x=>decide (x.st=1)) hfk (Nat.le_trans (List.length_filter_le _ _) (Nat.le_trans hsz dCz)) hS
   clear hlt hi hS hfk
   go_wp2_with fail
   refine hs.mono ?_
   rintro ee w8 ⟨v,rfl,l,⟨h1,h2⟩,hS8⟩
   clear hs
   have Hl:=uQ (Tab.lists_of Hok.out.good His.out h1 h2)
   have Hll:=uQ (show l.length≤B from by
    rw [h1.length_eq,← List.countP_eq_length_filter]
    have e:t.slots.countP (fun x=>decide (x.st=1))=Tab.fulls t.slots:=by
     unfold Tab.fulls
     refine List.countP_congr fun x _=>?_
     simp
    have:=Hok.out.n;have:=Hb.out;omega)
   clear h1 h2
   go_wp2_with fail
   go_ret
   exact ⟨_,rfl,l,⟨Hl.out.1,Hl.out.2,Hll.out⟩,Sat.put1 (TabMA.shut Hok.out His.out Hb.out (hS8.sb))⟩
  have c1:(i:Int)<(t.slots.length:Int):=oQ
  have hwi:=iwQ (i:=i)
  obtain ⟨x,hx⟩:∃ x,t.slots[i]?=some x:=⟨_,List.getElem?_eq_getElem hlt⟩
  have hxm:=List.mem_of_getElem? hx
  have hst:=Hok.out.good.st x hxm
  have Hxk:=uQ (Hok.out.good.key x hxm)
  obtain ⟨bk,off,c',hsv,hcell⟩:=osl_row Hlen.out (Sat.rd (hS.pick pick2)) hx dCz
  cases hsv
  have hl38:=Hlen.out x hxm
  have htk:(t.slots.take (i+1)).filter (fun x=>decide (x.st=1))=(t.slots.take i).filter (fun x=>decide (x.st=1))++[x].filter fun x=>decide (x.st=1):=by
   rw [List.take_add_one,hx,Option.toList_some,List.filter_append]
  have Htk:=uQ htk
  have Hlt:=uQ hlt
  have hle5:(((t.slots.take i).filter fun x=>decide (x.st=1)).flatMap (slotL aenc)).length≤2147483648:=by
   rw [rows_len fun y hy=>Hlen.out y (List.mem_of_mem_take (List.mem_filter.1 hy).1)]
   have h1:=List.length_filter_le (fun x=>decide (x.st=1)) (t.slots.take i)
   have h2:=List.length_take_le' i t.slots
   have h3:=Hsz.out
   omega
  clear hx hxm hlt hi htk
  go_wp2_with (first
   |((with_reducible refine at_load ⟨?_⟩);refine wl_loadW (b:=bk) (o:=off+i * 38) (slotL aenc x) rFz hcell Tryz.underlying300 rfl (by rw [hl38];kernel_rfl) ?_)
   |(with_reducible apply at_alloc))
  refine ⟨wl_alloc zSlotA hS rfl ?_⟩
  intro b7 w7 hS7
  go_wp2_with (first|((with_reducible refine at_store ⟨?_⟩);refine wl_storeA (slotL aenc x).toArray hS7 rFz rFz (by rw [List.size_toArray,hl38];rfl) upd0 (by rw [List.size_toArray,hl38];kernel_rfl) (by rw [List.toList_toArray];exact slotL_ones aenc x (aenc_ones _)) ?_;intro w10 hS10)|(with_reducible apply at_load))
  refine ⟨?_⟩
  clear hS hS7 hcell
  have f0:w10.cell? ⟨b7,0,none⟩=some (.int .i64 x.st):=hS10.cellP pick0 0 (by rw [List.getElem?_toArray];rfl)
  by_cases h1:x.st=1
  rotate_left
  ·have hst1:((x.st:Int)==1)=false:=by rw [beq_eq_false_iff_ne];omega
   have e9:(t.slots.take (i+1)).filter (fun x=>decide (x.st=1))=(t.slots.take i).filter (fun x=>decide (x.st=1)):=by
    rw [Htk.out,List.filter_cons_of_neg (by rw [decide_eq_false h1];decide),List.filter_nil,List.append_nil]
   have E9:=uQ e9
   clear h1 e9
   go_wp2_with fail
   go_roundg (t.slots.length - (i+1))
   case measure=>have:=Hlt.out;omega
   case rel=>exact ⟨i+1,rfl,Hlt.out,by first|rfl|go_num,by rw [E9.out];exact hS10.sb⟩
  ·have hst1:((x.st:Int)==1)=true:=by rw [h1];rfl
   have e9:((t.slots.take (i+1)).filter (fun x=>decide (x.st=1))).flatMap (slotL aenc)=((t.slots.take i).filter (fun x=>decide (x.st=1))).flatMap (slotL aenc)++slotL aenc x:=by
    rw [Htk.out,List.filter_cons_of_pos (by rw [decide_eq_true h1]),List.filter_nil,List.flatMap_append,List.flatMap_cons,List.flatMap_nil,List.append_nil]
   have E9:=uQ e9
   clear h1 e9
   go_wp2_with (first
    |((with_reducible refine at_load ⟨?_⟩);refine wl_loadA hS10 rFz pkD Tryz.underlying300 rfl (by rw [List.size_toArray,hl38];kernel_rfl) ?_)
    |(with_reducible apply at_build1))
   refine ⟨wl_build1 (e:=300) (sz:=38) (by':=80) kRz hS10 rFz (cs:=(slotL aenc x).toArray) rfl (by rw [List.size_toArray,hl38]) dCz ?_⟩
   intro bN wN hN
   go_wp2_with (with_reducible apply at_append)
   refine ⟨wl_app 300 38 80 kRz hN rFz rFz pkD pick0 (by rw [List.size_toArray,hl38]) (Nat.le_refl 1) (by rw [List.toList_toArray];exact slotL_ones aenc x (aenc_ones _)) hle5 (by rw [List.size_toArray,hl38];decide) dCz (by rw [List.toList_toArray]) ?_⟩
   intro bA nA cA wA hA
   go_wp2_with fail
   rw [← E9.out]at hA
   go_roundg (t.slots.length - (i+1))
   case measure=>have:=Hlt.out;omega
   case rel=>exact ⟨i+1,rfl,Hlt.out,by first|rfl|go_num,hA.sb⟩
end
end Go.Proofs.YtlimfgdbfadohaaGreatDoor
namespace Go
open Go.Sl
variable {P:Program}{ops:Array Oper}{Q:Exit→Act→World→Prop}{K:Act→World→Prop}{l:Option Nat}{n:Nat}
abbrev rf (l:Option Nat):Fence:={ Fence.wide with round:=l }
abbrev calm (K:Act→World→Prop):Exit→Act→World→Prop:=Exit.then K fun _ _ _=>False
theorem calm_out:¬ LetsOut (calm K):=fun ⟨_,_,h⟩=>h
theorem rowsIn_rf {row:String}{args:Array Value}{w:World}{R:Value→World→Prop} (h:Rows P row args w R):RowsIn (rf l) n P row args w R:=fun c cs _=>by
 obtain ⟨v,w',r,s⟩:=h c cs
 exact ⟨v,w',r,stepsIn_wide.2 s⟩
theorem op_in {o:Oper}{a:Act}{w:World}{N N':Act→World→Prop} (ho:∀ c,o.op ≠ .defer c) (hN:∀ a w,N a w→N' a w) (h:o.wp P a w N (calm K)):o.wpIn (rf l) n P a w N' Q:=by
 refine ⟨fun _ _=>trivial,?_⟩
 rw [Oper.semAt_eq _ _ _ ho]
 unfold Oper.wp at h
 generalize (execOp a.eval o).run P w=r at h ⊢
 cases r with
 |ok x w'=>
  cases x with
  |value v=>exact hN _ _ h
  |skip=>exact hN _ _ h
  |defer d=>exact hN _ _ h
  |enter f args=>
   refine ⟨(fun hd=>by cases hd),?_⟩
   refine CallsIn.mono (callsIn_wide.2 h) fun e w'' he=>?_
   cases e with
   |returned v=>exact hN _ _ he
   |panicked c=>exact False.elim he
   |outgrown=>exact (calm_out he).elim
  |row row args=>exact ⟨(fun hd=>by cases hd),(rowsIn_rf h).mono fun v w'' he=>hN _ _ he⟩
  |round l' f tmps assign body=>exact h.elim
  |_=>exact h.elim
 |halt x w'=>
  cases x with
  |panic v=>exact False.elim h
  |_=>exact h.elim
theorem list_in {rest2:List Oper} (hK:∀ a w,K a w→wpListIn (rf l) n P ops Q rest2 a w):∀ (rest:List Oper) (a:Act) (w:World),(∀ o∈rest,∀ c,o.op ≠ .defer c)→wpList P ops (calm K) rest a w→wpListIn (rf l) n P ops Q (rest++rest2) a w
 |[],a,w,_,h=>hK _ _ h
 |o::rest,a,w,hd,h=>by
  have ih:=list_in (rest2:=rest2) hK rest
  show if Region.wanted o (yielded ops a.tmps)=true then o.wpIn (rf l) n P a w (wpListIn (rf l) n P ops Q (rest++rest2)) Q else (∀ f,o.about P w a.eval=some f→(rf l).fn f)∧wpListIn (rf l) n P ops Q (rest++rest2) (a.put o.dst undef) w
  have h':if Region.wanted o (yielded ops a.tmps)=true then o.wp P a w (wpList P ops (calm K) rest) (calm K)∨(o.asks P a w∧LetsOut (calm K)) else wpList P ops (calm K) rest (a.put o.dst undef) w:=h
  split at h'
  ·rename_i hw
   rw [if_pos hw]
   rcases h' with h'|h'
   ·exact op_in (hd o (.head _)) (fun a w h=>ih a w (fun o ho=>hd o (.tail _ ho)) h) h'
   ·exact (calm_out h'.2).elim
  ·rename_i hw
   rw [if_neg hw]
   exact ⟨fun _ _=>trivial,ih _ _ (fun o ho=>hd o (.tail _ ho)) h'⟩
abbrev noDefer (ops:Array Oper):Bool:=ops.toList.all fun o=>match o.op with | .defer _=>false|_=>true
theorem noDefer_of (hd:noDefer ops=true):∀ o∈ops.toList,∀ c,o.op ≠ .defer c:=fun o ho c e=>by
 have:=(List.all_eq_true.1 hd) o ho
 rw [e]at this;cases this
theorem list_in' {rest:List Oper}{a:Act}{w:World} (hd:∀ o∈rest,∀ c,o.op ≠ .defer c) (h:wpList P ops (calm (Q .normal)) rest a w):wpListIn (rf l) n P ops Q rest a w:=by
 have:=list_in (l:=l) (n:=n) (rest2:=[]) (Q:=Q) (fun _ _ h=>h) rest a w hd h
 rw [List.append_nil]at this
 exact this
theorem region_in {id:Nat}{a:Act}{w:World} (hd:noDefer ops=true) (h:wpList P ops (calm (Q .normal)) ops.toList a w):(Code.region id ops false).wpIn (rf l) n P Q a w:=
 wpIn_region_list (list_in' (noDefer_of hd) h)
theorem any_in (hd:∀ o∈ops.toList,∀ c,o.op ≠ .defer c):∀ (k:Nat) (ls:Array Bool) (a:Act) (w:World),wpAny P .any ops (calm (Q .normal)) k ls a w→wpAnyIn (rf l) n P .any ops Q k ls a w
 |0,_,_,_,h=>h
 |k+1,ls,a,w,h=>by
  refine ⟨h.1,fun i hi=>?_⟩
  have h':=h.2 i hi
  unfold wpOp at h'
  unfold wpOpIn
  split at h'
  ·rename_i he;simp only [he];exact any_in hd k _ _ _ h'
  ·rename_i o he
   simp only [he]
   split at h'
   ·rename_i hw
    rw [if_pos hw]
    rcases h' with h'|h'
    ·refine op_in (hd o ?_) (fun a w h=>any_in hd k _ a w h) h'
     rw [← Array.getElem?_toList]at he
     exact List.mem_of_getElem? he
    ·exact (calm_out h'.2).elim
   ·rename_i hw
    rw [if_neg hw]
    exact ⟨fun _ _=>trivial,any_in hd k _ _ _ h'⟩
theorem region_in_any {id:Nat}{a:Act}{w:World} (late:List Nat) (G:World→Prop) (hd:noDefer ops=true) (hm:P.follows .mixedOrders=true)
  (h:wpL P ops (calm (Q .normal)) late G ops.size (Array.replicate ops.size false) a w.drew):(Code.region id ops true).wpIn (rf l) n P Q a w:=
 wpIn_region_any hm (any_in (noDefer_of hd) _ _ _ _ (wpAny_of_L _ _ _ _ h))
theorem region_in_lit {id:Nat}{rest:List Oper}{a:Act}{w:World} (hd:noDefer rest.toArray=true) (h:∀ K:Act→World→Prop,(∀ a w,Q .normal a w→K a w)→wpList P rest.toArray (Exit.then K fun _ _ _=>False) rest a w):(Code.region id rest.toArray false).wpIn (rf l) n P Q a w:=
 region_in hd (by simpa using h _ fun _ _ h=>h)
theorem region_in_anyK {id:Nat}{a:Act}{w:World} (late:List Nat) (G:World→Prop) (hd:noDefer ops=true) (hm:P.follows .mixedOrders=true)
  (h:∀ K:Act→World→Prop,(∀ a w,Q .normal a w→K a w)→wpL P ops (Exit.then K fun _ _ _=>False) late G ops.size (Array.replicate ops.size false) a w.drew):(Code.region id ops true).wpIn (rf l) n P Q a w:=
 region_in_any late G hd hm (h _ fun _ _ h=>h)
theorem region_yield {id:Nat}{a:Act}{w:World} (pre:List Oper) (o:Oper) (post:List Oper) (he:ops.toList=pre++o::post) (hd:noDefer ops=true)
  (h:wpList P ops (calm fun a w=>Region.wanted o (yielded ops a.tmps)=true∧∃ (l':Nat) (f:FuncId) (tmps:Array Value) (assign body:Code),(execOp a.eval o).run P w = .ok (.round l' f tmps assign body) w ∧
   RoundIn Fence.wide 0 P l' f tmps assign body w (fun e w'=>∃ v,e = .returned v∧wpList P ops (calm (Q .normal)) post (a.put o.dst v) w')) pre a w) :
  (Code.region id ops false).wp P Q a w:=by
 refine wpIn_wide (n:=0).1 (wpIn_region_list ?_)
 have hd':=noDefer_of hd
 rw [he]at hd' ⊢
 refine list_in (l:=none) (n:=0) (K:=_) (fun a w hk=>?_) pre a w (fun o ho=>hd' o (List.mem_append_left _ ho)) h
 obtain ⟨hw,l',f,tmps,assign,body,hx,hF,hc⟩:=hk
 show if Region.wanted o (yielded ops a.tmps)=true then o.wpIn (rf none) 0 P a w (wpListIn (rf none) 0 P ops Q post) Q else _
 rw [if_pos hw]
 refine ⟨fun _ _=>trivial,?_⟩
 rw [Oper.semAt_eq _ _ _ (hd' o (by simp)),hx]
 refine ⟨(fun hd=>by cases hd),hF,fun c cs hro=>?_⟩
 obtain ⟨e,w',⟨v,rfl,hv⟩,hs⟩:=hc c cs hro
 exact ⟨.returned v,w',list_in' (l:=none) (n:=0) (fun o ho=>hd' o (List.mem_append_right _ (.tail _ ho))) hv,hs⟩
theorem region_yield6 {a:Act}{w:World}{id:Nat}{o0 o1 o2 o3 o4 o o6:Oper}{c:Code} (hd:noDefer #[o0,o1,o2,o3,o4,o,o6]=true)
  (h:∀ K:Act→World→Prop,(∀ a w,c.wp P Q a w→K a w)→wpList P #[o0,o1,o2,o3,o4,o,o6] (calm fun a w=>Region.wanted o (yielded #[o0,o1,o2,o3,o4,o,o6] a.tmps)=true∧∃ (l':Nat) (f:FuncId) (tmps:Array Value) (assign body:Code),(execOp a.eval o).run P w = .ok (.round l' f tmps assign body) w ∧
   RoundIn Fence.wide 0 P l' f tmps assign body w (fun e w'=>∃ v,e = .returned v∧wpList P #[o0,o1,o2,o3,o4,o,o6] (Exit.then K fun _ _ _=>False) [o6] (a.put o.dst v) w')) [o0,o1,o2,o3,o4] a w) :
  (Code.seq (Code.region id #[o0,o1,o2,o3,o4,o,o6] false) c).wp P Q a w:=
 wp_seq (region_yield [o0,o1,o2,o3,o4] o [o6] rfl hd (h _ fun _ _ h=>h))
end Go
namespace Go
open Go.Sl Go.RowKit
section
variable {P:Program}{w0 w:World}{F R L:List HProp}{b:Nat}{o o':Obj}{kv:List (Array Value)}{A A':List HProp}
theorem Sl.Sat.putObj (o':Obj) (h:Sat w0 w (pt b o::R)):Sat w0 (w.putObj b o') (pt b o'::R):=
 h.turn rfl rfl rfl (by rw [World.putObj_size];exact Nat.le_refl _) (World.putObj_heap_same h.lt) fun i hi _=>World.putObj_heap_other hi
theorem Sl.Sat.appc (h:Sat w0 w (L++R)):Sat w0 w (R++L):=h.perm List.perm_append_comm
def Iter (P:Program) (gf:Nat) (lb:Array Value) (kv:List (Array Value)) (w0:World) (A A':List HProp):Prop:=
 ∀ (l:Nat) (R:List (Array Value)→List HProp),
  (∀ pre x post W U,kv=pre++x::post→Sat w0 W (R pre++U)→∃ f tmps assign body,(Instr.yield l x).run P W = .ok (.round l f tmps assign body) W ∧
   RoundIn Fence.wide 0 P l f tmps assign body W (fun e W'=>e = .returned (.bool true)∧Sat w0 W' (R (pre++[x])++U))) →
  ∀ W,Sat w0 W (A++R [])→Calls P gf (#[.func (.yield l) #[] #[]]++lb) W (Rtn fun v W'=>Sat w0 W' (A'++R kv))
theorem wp_rangeFunc_sat {g:Operand}{ps:Array Tmp}{assign body:Code}{Q:Exit→Act→World→Prop}{a:Act}{gf:Nat}{lb:Array Value}
  (hg:a.eval g = .func (.func gf) #[] lb) (eg:∀ args w,(callFunc gf args).run P w = .ok (.enter gf args) w)
  (hit:Iter P gf lb kv w0 A A') (hps:∀ x∈kv,x.size=ps.size) (R:List (Array Value)→List HProp) (h:Sat w0 w (A++R []))
  (hround:∀ (l:Nat) (pre:List (Array Value)) (x:Array Value) (post:List (Array Value)) (U:List HProp) (W:World),kv=pre++x::post→Sat w0 W (R pre++U) →
   ∀ T,T=(ps.zip x).foldl (fun t (p,v)=>t.setIfInBounds p v) a.tmps→assign.wpIn (rf (some l)) 0 P (Exit.then (fun a₁ w₁=>∃ M:List HProp,Sat w0 w₁ (M++U)∧∀ U' w₂,Sat w0 w₂ (M++U')→body.wpIn (rf (some l)) 0 P (fun e _ w₃=>e = .normal∧Sat w0 w₃ (R (pre++[x])++U')) a₁ w₂) (fun _ _ _=>False))
    { tmps:=T,defers:=[] } W)
  (hdone:∀ D w',Sat w0 w' (A'++(R kv++[pt D (.deferred (some []))]))→Q .normal { a with defers:={ target:= .collected D,args:=#[] }::a.defers } w') :
  (Code.rangeFunc g ps assign body).wp P Q a w:=by
 refine (wpIn_wide (n:=0)).1 (wpIn_rangeFunc ?_)
 intro fn hfn
 obtain ⟨rec,hrec⟩:∃ rec:LoopState→Option Code→Loop,rec=fun st pe=>{ state:=st,pending:=pe,fn,tmps:=a.tmps,params:=ps,assign,body,defers:=w.heap.size }:=⟨_,rfl⟩
 obtain ⟨D,hD⟩:∃ D,D=w.heap.size:=⟨_,rfl⟩
 obtain ⟨l,hl⟩:∃ l,l=D+1:=⟨_,rfl⟩
 obtain ⟨W1,hW1⟩:∃ W1,W1=(w.alloc (.deferred (some []))).alloc (.loop (rec .ready none)):=⟨_,rfl⟩
 have hS1:Sat w0 W1 (pt l (.loop (rec .ready none))::pt D (.deferred (some []))::(A++R [])):=by
  have:=(h.alloc (.deferred (some []))).alloc (.loop (rec .ready none))
  rw [World.size_alloc,← hW1,← hD,← hl]at this
  exact this
 refine ⟨l,[{ target:= .collected D,args:=#[] }],W1,{ target:= .fn (.func gf) lb,args:=#[.func (.yield l) #[] #[]] },W1,gf,#[.func (.yield l) #[] #[]]++lb,W1,?_,?_,?_,?_,(fun h=>by cases h),?_⟩
 ·rw [hW1,hl,hD,hrec];exact run_enterLoop_outer _ _ _ _ _
 ·simp only [resolve,hg]
  simp [go_sem]
 ·intro f' _;trivial
 ·simp [invoke,go_sem,eg]
 ·refine callsIn_wide.2 ((hit l (fun pre=>R pre++[pt l (.loop (rec .ready none)),pt D (.deferred (some []))]) ?_ W1 ?_).mono ?_)
  ·intro pre x post W U hkv hS
   have hS':Sat w0 W (pt l (.loop (rec .ready none))::(R pre++(pt D (.deferred (some []))::U))):=by
    rw [List.append_assoc]at hS
    exact hS.perm List.perm_middle
   have hat:=hS'.at
   have hy:=run_yield (P:=P) (args:=x) hat (by rw [hrec];exact hps x (by rw [hkv];simp))
   refine ⟨_,_,_,_,hy,roundIn_of_wpIn trivial ?_⟩
   have hr:=hround l pre x post (pt D (.deferred (some []))::U++[pt l (.loop (rec .ready none))]) W hkv (hS'.perm (by
    rw [← List.cons_append,← List.append_assoc]
    exact (List.perm_append_comm (l₁:=[pt l (.loop (rec .ready none))]) (l₂:=R pre++(pt D (.deferred (some []))::U))))) _ rfl
   have e1:((rec .ready none).params.zip x).foldl (fun tmps (t,a)=>tmps.setIfInBounds t a) (rec .ready none).tmps=(ps.zip x).foldl (fun t (p,v)=>t.setIfInBounds p v) a.tmps:=by rw [hrec]
   rw [e1]
   have e2:(rec .ready none).assign=assign:=by rw [hrec]
   have e3:(rec .ready none).body=body:=by rw [hrec]
   rw [e2,e3]
   refine wpIn_mono hr ?_
   intro e a1 w1 he
   cases e with
   |normal=>
    obtain ⟨M,hM,hb⟩:=he
    have hM':Sat w0 w1 (pt l (.loop (rec .ready none))::(M++(pt D (.deferred (some []))::U))):=hM.perm (by
     rw [← List.append_assoc]
     exact List.perm_append_comm (l₁:=M++(pt D (.deferred (some []))::U)) (l₂:=[pt l (.loop (rec .ready none))]))
    have hM2:=hM'.putObj (.loop { rec .ready none with state:= .busy })
    refine ⟨_,run_beginRound hM'.at (by rw [hrec]),?_⟩
    refine wpIn_mono (hb (pt D (.deferred (some []))::U++[pt l (.loop { rec .ready none with state:= .busy })]) _ (hM2.perm (by
     rw [← List.cons_append,← List.append_assoc]
     exact (List.perm_append_comm (l₁:=[pt l (.loop { rec .ready none with state:= .busy })]) (l₂:=M++(pt D (.deferred (some []))::U)))))) ?_
    rintro e2 a2 w2 ⟨rfl,hS2⟩
    have hS3:Sat w0 w2 (pt l (.loop { rec .ready none with state:= .busy })::(R (pre++[x])++(pt D (.deferred (some []))::U))):=hS2.perm (by
     rw [← List.append_assoc]
     exact List.perm_append_comm (l₁:=R (pre++[x])++(pt D (.deferred (some []))::U)) (l₂:=[pt l (.loop { rec .ready none with state:= .busy })]))
    refine ⟨_,_,run_endRound none hS3.at,rfl,?_⟩
    have hS4:=hS3.putObj (.loop (rec .ready none))
    have e4:(Obj.loop { { rec .ready none with state:= .busy } with state:=if (none:Option Code).isNone then .ready else .done,pending:=none }) = .loop (rec .ready none):=by rw [hrec];rfl
    rw [e4]
    refine hS4.perm ?_
    rw [List.append_assoc]
    exact List.perm_middle.symm
   |exit id=>exact he.elim
   |goto t=>exact he.elim
   |ret=>exact he.elim
   |panic c=>exact he.elim
   |outgrown=>exact he.elim
  ·refine hS1.perm ?_
   rw [← List.append_assoc]
   exact (List.perm_append_comm (l₁:=[pt l (.loop (rec .ready none)),pt D (.deferred (some []))]) (l₂:=A++R []))
  ·rintro e W2 ⟨v,rfl,hS⟩
   have hS':Sat w0 W2 (pt l (.loop (rec .ready none))::(A'++(R kv++[pt D (.deferred (some []))]))):=hS.perm (by
    rw [← List.append_assoc,← List.append_assoc]
    exact List.perm_middle)
   refine ⟨none,_,by have:=run_endLoop (P:=P) hS'.at (by rw [hrec];simp);rw [show (rec .ready none).pending=none by rw [hrec]]at this;exact this,?_⟩
   exact hdone D _ (hS'.putObj _).drop
theorem leaves_mark {fn:Func}{tmps:Array Value}{K:Ending→World→Prop}{D:Nat}{v:Value} (h:Sat w0 w (pt D (.deferred (some []))::F)) (hv:∀ w,(results fn tmps).run P w = .ok v w) (hK:∀ w',Sat w0 w' F→K (.returned v) w') :
  LeavesInM Fence.wide 0 P fn tmps K [{ target:= .collected D,args:=#[] }] .returning w:=
 ⟨by simp,.inl ⟨_,_,rfl,run_takeDeferred h.at,⟨_,hv _,hK _ ((h.putObj (.deferred none)).drop)⟩⟩⟩
def endsM (P:Program) (fn:Func) (K:Ending→World→Prop):Exit→Act→World→Prop
 |.normal,a,w | .ret,a,w=>LeavesInM Fence.wide 0 P fn a.tmps K a.defers .returning w
 |_,_,_=>False
theorem calls_of_wp_marks {f:FuncId}{fn:Func}{c:Code}{args:Array Value}{K:Ending→World→Prop} (hf:P.funcs[f]?=some fn) (hb:fn.body=some c)
  (h:c.wp P (endsM P fn K) { tmps:=args++Array.replicate (fn.ntmps - args.size) undef,defers:=[] } w):Calls P f args w K:=
 (callsIn_wide (n:=0)).1 (callsIn_of_wp_marks hf hb trivial (wpIn_wide.2 (wp_mono h fun e a w he=>by
  cases e with
  |normal=>exact he
  |ret=>exact he
  |_=>exact he.elim)) rfl)
theorem endsM_end {fn:Func}{a:Act}{K:Ending→World→Prop}{D:Nat}{v:Value} (ha:a.defers=[{ target:= .collected D,args:=#[] }]) (h:Sat w0 w (pt D (.deferred (some []))::F)) (hv:∀ w,(results fn a.tmps).run P w = .ok v w)
  (hK:∀ w',Sat w0 w' F→K (.returned v) w'):endsM P fn K .normal a w:=by
 show LeavesInM Fence.wide 0 P fn a.tmps K a.defers .returning w
 rw [ha]
 exact leaves_mark h hv hK
end
end Go
namespace Go.Proofs.YtlimfgdbfadohaaGreatDoor
open Go Go.Sl Go.Med Go.MapKept Go.RowKit
def abA (x:Frm.Bs×Rep.Abt):Array Value:=#[.agg (bys x.1).toArray,.agg (aenc x.2).toArray]
section
variable {w0 w:World}{F:List HProp}{p B:Nat}{m:Frm.Bs→Option (Rep.Abt)}
theorem allA_c (h:Sat w0 w F):Calls Tryz.prog 166 #[ptr p] w
  (Rtn fun v w'=>∃ b,v = .func (.func 201) #[] #[ptr b]∧Sat w0 w' (pt b (.cells #[ptr p] 211 (0,0))::F)):=by
 go_enter Tryz.func166,Tryz.ntmps166
 go_wp2_with (first|((with_reducible refine at_box ⟨?_⟩);refine wl_box aQ evD evD ?_;intro bB wB hB)|(with_reducible apply at_alloc))
 go_ret
 exact ⟨_,rfl,bB,rfl,hB⟩
set_option maxRecDepth 20000 in
theorem allA1_c {b:Nat}{l:List (Frm.Bs×Rep.Abt)} (hB:B≤13000000) (hl:Tab.Lists m l) :
  Iter Tryz.prog 201 #[ptr b] (l.map abA) w0 [TabMA p m B,pt b (.cells #[ptr p] 211 (0,0))] [TabMA p m B,pt b (.cells #[ptr p] 211 (0,0))]:=by
 intro ly R hY W hW
 have Hl:=uQ hl
 have hW0:Sat w0 W (TabMA p m B::pt b (.cells #[ptr p] 211 (0,0))::R []):=hW
 clear hW hl
 show Calls Tryz.prog 201 #[.func (.yield ly) #[] #[],ptr b] W _
 go_enter Tryz.func201,Tryz.ntmps201
 have hr:=risingA_c hB hW0
 go_wp2_with ((with_reducible refine at_load ⟨?_⟩);refine wl_load1 hW0 rFz pkD nLz evD kRz ?_)
 clear hW0
 refine hr.mono ?_
 rintro ee w1 ⟨sv,rfl,s,⟨hs1,hs2,hs3⟩,hS1⟩
 clear hr
 have e0:l=s.map fun x=>(x.key,x.val):=Hl.out.unique hs1
 clear hs1 Hl
 subst e0
 have Hs2:=uQ hs2;have Hs3:=uQ hs3
 have Hlen:=uQ (show ∀ x∈s,(slotL aenc x).length=38 from fun x hx=>slotL_len aenc x (hs2 x hx).2 5 (aenc_len _))
 obtain ⟨la,lc,rfl⟩:=osl_rows Hlen.out (Sat.rd hS1) dCz
 have hsb:s.length≤13000000:=Nat.le_trans hs3 hB
 clear hs2 hs3 hB
 go_wp2_with fail
 go_loopg [8] s.length (fun g iq wr=>∃ (i:Nat),g=s.length - i∧i≤s.length∧iq = .int .i64 i ∧
  Sat w0 wr (osl 300 38 (.slice la s.length lc) (s.flatMap (slotL aenc))::TabMA p m B::pt b (.cells #[ptr p] 211 (0,0))::R (((s.take i).map fun x=>(x.key,x.val)).map abA)))
 case atStart=>exact ⟨0,rfl,Nat.zero_le _,rfl,hS1⟩
 case round=>
  obtain ⟨i,rfl,hi,rfl,hS⟩:=hrel
  clear hS1
  by_cases hlt:i<s.length
  rotate_left
  ·obtain rfl:i=s.length:=by omega
   have c1:¬ (s.length:Int)<(s.length:Int):=oQ
   rw [List.take_length]at hS
   clear hlt hi
   go_wp2_with fail
   go_end0
   exact ⟨_,rfl,by rw [← List.map_map];exact hS.drop⟩
  have c1:(i:Int)<(s.length:Int):=oQ
  have hwi:=iwQ (i:=i)
  obtain ⟨x,hx⟩:∃ x,s[i]?=some x:=⟨_,List.getElem?_eq_getElem hlt⟩
  have hxm:=List.mem_of_getElem? hx
  have Hxk:=uQ (Hs2.out x hxm).2
  obtain ⟨bk,off,c',hsv,hcell⟩:=osl_row Hlen.out (Sat.rd (hS.pick pick0)) hx dCz
  cases hsv
  have hl38:=Hlen.out x hxm
  have Htk:=uQ (show s.take (i+1)=s.take i++[x] by rw [List.take_add_one,hx,Option.toList_some])
  have Hlt:=uQ hlt
  have Hspl:=uQ (show (s.map fun x=>(x.key,x.val)).map abA=((s.take i).map fun x=>(x.key,x.val)).map abA++abA (x.key,x.val)::((s.drop (i+1)).map fun x=>(x.key,x.val)).map abA by
   have e:s=s.take i++x::s.drop (i+1):=by
    obtain ⟨h1,rfl⟩:=List.getElem?_eq_some_iff.1 hx
    rw [← List.drop_eq_getElem_cons h1,List.take_append_drop]
   conv=>lhs;rw [e]
   simp only [List.map_append,List.map_cons])
  clear hx hxm hlt hi
  go_wp2_with (first
   |((with_reducible refine at_load ⟨?_⟩);refine wl_loadW (b:=bk) (o:=off+i * 38) (slotL aenc x) rFz hcell Tryz.underlying300 rfl (by rw [hl38];kernel_rfl) ?_)
   |(with_reducible apply at_alloc))
  refine ⟨wl_alloc zSlotA hS rfl ?_⟩
  intro b7 w7 hS7
  go_wp2_with ((with_reducible apply at_store))
  refine ⟨wl_storeA (slotL aenc x).toArray hS7 rFz rFz (by rw [List.size_toArray,hl38];rfl) upd0 (by rw [List.size_toArray,hl38];kernel_rfl) (by rw [List.toList_toArray];exact slotL_ones aenc x (aenc_ones _)) ?_⟩
  intro w10 hS10
  clear hS hS7 hcell
  have f1:w10.rangeAt b7 1 (bys x.key):=slot_key (hS10.pick pick0)
  have f2:w10.rangeAt b7 33 (aenc x.val):=slot_val Hxk.out (hS10.pick pick0)
  have e1:=Tryz.underlying30
  have hS11:Sat w0 w10 (R (((s.take i).map fun x=>(x.key,x.val)).map abA)++[osl 300 38 (.slice (some ⟨bk,off,none⟩) s.length lc) (s.flatMap (slotL aenc)),TabMA p m B,pt b (.cells #[ptr p] 211 (0,0))]):=
   (hS10.drop:Sat w0 w10 ([osl 300 38 (.slice (some ⟨bk,off,none⟩) s.length lc) (s.flatMap (slotL aenc)),TabMA p m B,pt b (.cells #[ptr p] 211 (0,0))]++R (((s.take i).map fun x=>(x.key,x.val)).map abA))).appc
  obtain ⟨yf,yt,ya,yb,hy,hr⟩:=hY _ _ _ w10 _ Hspl.out hS11
  clear hS11 hS10 hY
  go_step
  go_step
  go_step
  refine region_yield6 rFz ?_
  intro K hK
  go_wp2_with (first
   |((with_reducible refine at_load ⟨?_⟩);refine wl_loadW (b:=b7) (o:=1) (bys x.key) rFz f1 e1 rfl (by rw [bys_len,Hxk.out];kernel_rfl) ?_)
   |((with_reducible refine at_load ⟨?_⟩);refine wl_loadW (b:=b7) (o:=33) (aenc x.val) rFz f2 Tryz.underlying214 rfl kRz ?_))
  refine ⟨_,yf,yt,ya,yb,hy,hr.mono ?_⟩
  rintro ee w12 ⟨rfl,hS12⟩
  refine ⟨_,rfl,?_⟩
  have hS13:Sat w0 w12 (osl 300 38 (.slice (some ⟨bk,off,none⟩) s.length lc) (s.flatMap (slotL aenc))::TabMA p m B::pt b (.cells #[ptr p] 211 (0,0))::R (((s.take (i+1)).map fun x=>(x.key,x.val)).map abA)):=by
   have:=hS12.appc
   rw [Htk.out,List.map_append,List.map_append]
   exact this
  clear hS12 hr hy f1 f2
  go_wp2_with fail
  go_roundg (s.length - (i+1))
  case measure=>have:=Hlt.out;omega
  case rel=>exact ⟨i+1,rfl,Hlt.out,by first|rfl|go_num,hS13⟩
end
def TabML (p:Nat) (m:Frm.Bs→Option (Seg.Plc)) (B:Nat):HProp:=fun h=>∃ (t:Tab.Tb (Seg.Plc)) (sv:Value),(t.Ok∧t.Is m∧t.n+t.gone≤B)∧stars [tbPt p 172 sv t.n t.gone,osl 170 36 sv (t.slots.flatMap (slotL penc))] h
theorem zValL:zeroB Tryz.prog 107=some (.agg (penc Seg.Plc.zero).toArray):=by kernel_rfl
section
variable {w0 w:World}{F R:List HProp}{p B:Nat}{sv v:Value}{k:Frm.Bs}{m:Frm.Bs→Option (Seg.Plc)}{t:Tab.Tb (Seg.Plc)}
theorem TabML.open (h:Sat w0 w (TabML p m B::F)):∃ (t:Tab.Tb (Seg.Plc)) (sv:Value),(t.Ok∧t.Is m∧t.n+t.gone≤B)∧Sat w0 w (tbPt p 172 sv t.n t.gone::osl 170 36 sv (t.slots.flatMap (slotL penc))::F):=by
 obtain ⟨ha,x,hx,q,r,dd,rfl,⟨t,sv,hin,hp⟩,hq⟩:=h
 refine ⟨t,sv,hin,ha,_,hx,?_⟩
 show stars ([tbPt p 172 sv t.n t.gone,osl 170 36 sv (t.slots.flatMap (slotL penc))]++F) _
 rw [stars_append]
 exact ⟨q,r,dd,rfl,hp,hq⟩
theorem TabML.shut (h1:t.Ok) (h2:t.Is m) (h3:t.n+t.gone≤B) (h:Sat w0 w (tbPt p 172 sv t.n t.gone::osl 170 36 sv (t.slots.flatMap (slotL penc))::F)):Sat w0 w (TabML p m B::F):=
 Sat.join (M:=[tbPt p 172 sv t.n t.gone,osl 170 36 sv (t.slots.flatMap (slotL penc))]) h fun _ hx=>⟨t,sv,⟨h1,h2,h3⟩,hx⟩
theorem newL_c (h:Sat w0 w F):Calls Tryz.prog 119 #[] w (Rtn fun v w'=>∃ p,v=ptr p∧Sat w0 w' (TabML p (fun _=>none) 0::F)):=by
 go_enter Tryz.func119,Tryz.ntmps119
 go_wp2_with (first
  |((with_reducible refine at_make ⟨?_⟩);refine wl_makeN (e:=170) (sz:=36) (by':=64) (n:=8) kRz zSlotL h rFz rFz dCz dCz ?_;intro bM wM hM)
  |((with_reducible refine at_box ⟨?_⟩);refine wl_box hM evD evD ?_;intro bB wB hB))
 go_ret
 refine ⟨_,rfl,bB,rfl,?_⟩
 have e:(List.replicate 8 (slotL penc ⟨0,Frm.zero32,zwL⟩)).flatten=(List.replicate 8 (⟨0,Frm.zero32,zwL⟩:Tab.Slot (Seg.Plc))).flatMap (slotL penc):=(rows_rep 8 _).symm
 rw [e]at hB
 exact TabML.shut (t:=⟨List.replicate 8 ⟨0,Frm.zero32,zwL⟩,0,0⟩) (Tab.new_ok dCz rfl) (Tab.new_is rfl 0 0) (Nat.le_refl 0) hB
set_option maxRecDepth 20000 in
theorem getL_c (hB:B≤268435000) (hk:k.length=32) (h:Sat w0 w (TabML p m B::F)) :
  Calls Tryz.prog 63 #[ptr p,.agg (bys k).toArray] w (Rtn fun v w'=>v = .tuple #[.agg (penc ((m k).getD Seg.Plc.zero)).toArray,.bool (m k).isSome]∧Sat w0 w' (TabML p m B::F)):=by
 obtain ⟨t,sv,⟨ok,is,hb⟩,hR⟩:=TabML.open h
 obtain ⟨d,he⟩:=ok.ends k
 have hsz:t.slots.length≤1073741824:=by have:=ok.size;omega
 have Hlen:=uQ (show ∀ x∈t.slots,(slotL penc x).length=36 from fun x hx=>slotL_len penc x (ok.good.key x hx) 3 (penc_len _))
 obtain ⟨la,lc,rfl⟩:=osl_rows Hlen.out (Sat.rd (hR.pick pick1)) dCz
 have Hk:=uQ hk;have Hok:=uQ ok;have His:=uQ is;have Hb:=uQ hb;have He:=uQ he;have Hsz:=uQ hsz
 have Hp0:=uQ ok.good.pos_len
 clear h hk ok is hb he hsz hB
 go_enter Tryz.func63,Tryz.ntmps63
 go_wp2_with (first|((with_reducible refine at_box ⟨?_⟩);refine wl_box aQ evD evD ?_;intro bB wB hB)|(with_reducible apply at_alloc))
 refine ⟨wl_alloc zValL hB rfl ?_⟩
 intro b4 w4 hS4
 go_wp2_with (with_reducible apply at_alloc)
 refine ⟨wl_alloc zValL hS4 rfl ?_⟩
 intro b6 w6 hS6
 have hR6:Sat w0 w6 (tbPt p 172 (.slice la t.slots.length lc) t.n t.gone::pt b6 (.cells (penc zwL).toArray 107 (0,0))::pt b4 (.cells (penc zwL).toArray 107 (0,0))::pt bB (.cells (bys k).toArray 30 (0,0))::osl 170 36 (.slice la t.slots.length lc) (t.slots.flatMap (slotL penc))::F):=hS6.sb
 clear hB hS4 hS6 hR
 go_wp2_with fail
 refine (okL_c Hp0.out hR6).mono ?_
 rintro ee w7 ⟨v,rfl,rfl,rfl⟩
 go_wp2_with ((with_reducible refine at_load ⟨?_⟩);refine wl_loadA hR6 rFz (pick_there (pick_there (pick_there pick0))) Tryz.underlying30 rfl (by rw [List.size_toArray,bys_len,Hk.out];kernel_rfl) ?_)
 have hf:=findL_c Hok.out.good Hsz.out Hk.out He.out (hR6.sb:Sat w0 w6 (tbPt p 172 (.slice la t.slots.length lc) t.n t.gone::osl 170 36 (.slice la t.slots.length lc) (t.slots.flatMap (slotL penc))::pt b6 (.cells (penc zwL).toArray 107 (0,0))::pt b4 (.cells (penc zwL).toArray 107 (0,0))::F))
 clear hR6
 refine hf.mono ?_
 rintro ee w8 ⟨v,rfl,x,hx,rfl,hS8⟩
 clear hf
 obtain ⟨m1,m2⟩:=His.out.some Hok.out He.out hx
 have hxm:=List.mem_of_getElem? hx
 have hxk:=Hok.out.good.key x hxm
 obtain ⟨bk,off,c',hsv,hcell⟩:=osl_row Hlen.out (Sat.rd (hS8.pick pick1)) hx dCz
 cases hsv
 have hlt:=Tab.pos_lt (k:=k) (d:=d) Hp0.out
 have hval:∀ j v,(penc x.val)[j]?=some v→w8.cell? ⟨bk,off+Tab.pos k t.slots.length d * 36+33+j,none⟩=some v:=fun j v hj=>by
  rw [Nat.add_assoc _ 33 j]
  exact hcell (33+j) v (slotL_val penc x hxk hj)
 clear hcell hx hxm
 generalize Tab.pos k t.slots.length d=P0 at *
 have c0:(0:Int)≤(P0:Int):=oQ
 have c1:(P0:Int)<(t.slots.length:Int):=oQ
 have e0:w8.cell? ⟨p,0,none⟩=some (.slice (some ⟨bk,off,none⟩) t.slots.length lc):=hS8.cellP pkD 0 rfl
 by_cases h1:x.st=1
 ·have hd:decide (x.st=1)=true:=decide_eq_true h1
  have Hm:=uQ (m1 h1)
  clear m1 m2 h1
  go_wp2_with (first
   |((with_reducible refine at_load ⟨?_⟩);refine wl_load1 hS8 rFz pkD nLz evD kRz ?_)
   |((with_reducible refine at_load ⟨?_⟩);refine wl_loadW (b:=bk) (o:=off+P0 * 36+33) (penc x.val) rFz hval Tryz.underlying107 rfl kRz ?_)
   |((with_reducible refine at_store ⟨?_⟩);refine wl_storeA (penc x.val).toArray hS8 rFz rFz rFz (upd_there (upd_there (upd_there upd0))) kRz rFz ?_;intro w10 hS10))
  refine ⟨rfl,_,res_cell_tmp rfl hS10 rFz pkD Tryz.underlying107 rfl kRz,_,rfl,?_,TabML.shut Hok.out His.out Hb.out (hS10.sb)⟩
  rw [Hm.out];rfl
 ·have hd:decide (x.st=1)=false:=decide_eq_false h1
  have Hm:=uQ (m2 h1)
  clear m1 m2 h1
  go_wp2_with (first
   |((with_reducible refine at_load ⟨?_⟩);refine wl_loadA hS8 rFz (pick_there (pick_there (pick0 (A:=pt b6 (.cells (penc zwL).toArray 107 (0,0)))))) Tryz.underlying107 rfl kRz ?_)
   |((with_reducible refine at_store ⟨?_⟩);refine wl_storeA (penc zwL).toArray hS8 rFz rFz rFz (upd_there (upd_there (upd_there upd0))) kRz rFz ?_;intro w10 hS10))
  refine ⟨rfl,_,res_cell_tmp rfl hS10 rFz (pick_there (pick_there (pick_there pick0))) Tryz.underlying107 rfl kRz,_,rfl,?_,TabML.shut Hok.out His.out Hb.out (hS10.sb)⟩
  rw [Hm.out];rfl
end
section
variable {w0 w:World}{F R:List HProp}{p B N:Nat}{sv v:Value}{k:Frm.Bs}{m:Frm.Bs→Option (Seg.Plc)}{t:Tab.Tb (Seg.Plc)}
set_option maxRecDepth 20000 in
theorem renewL_c (ok:t.Ok) (hN:t.n≤N) (hNb:N≤134217728) (hlen31:t.slots.length≤1073741824) (h:Sat w0 w (tbPt p 172 sv t.n t.gone::osl 170 36 sv (t.slots.flatMap (slotL penc))::F)) :
  Calls Tryz.prog 141 #[ptr p,.int .i64 N] w (Rtn fun _ w'=>∃ s' sv',Tab.Renewed t s' N∧Sat w0 w' (tbPt p 172 sv' t.n 0::osl 170 36 sv' (s'.flatMap (slotL penc))::F)):=by
 have Hok:=uQ ok;have HN:=uQ hN;have HNb:=uQ hNb
 have Hlen:=uQ (show ∀ x∈t.slots,(slotL penc x).length=36 from fun x hx=>slotL_len penc x (ok.good.key x hx) 3 (penc_len _))
 obtain ⟨la,lc,rfl⟩:=osl_rows Hlen.out (Sat.rd (h.pick pick1)) dCz
 have hw0:IntKind.i64.wrap (2 * (N:Int))=2 * (N:Int):=IntWalk.i64_in _ oQ
 have hw0b:wrap64 (2 * (N:Int))=2 * (N:Int):=IntWalk.wrap64_in _ oQ
 clear ok hN
 go_enter Tryz.func141,Tryz.ntmps141
 go_wp2_with fail
 go_loopg [4] (4 * N) (fun g cq wr=>∃ c:Nat,g=4 * N+8 - c∧cq = .int .i64 c∧(∃ j,c=2^j∧3≤j)∧8≤c∧(c=8∨c<4 * N)∧wr=w)
 case atStart=>exact ⟨8,by omega,rfl,⟨3,rfl,Nat.le_refl 3⟩,Nat.le_refl 8,.inl rfl,rfl⟩
 case round=>
  obtain ⟨c,rfl,rfl,⟨j,hj,hj3⟩,hc8,hc,rfl⟩:=hrel
  by_cases hlt:c<2 * N
  ·have c1:(c:Int)<2 * (N:Int):=by omega
   have hw1:IntKind.i64.wrap ((c:Int) * 2)=(c:Int) * 2:=IntWalk.i64_in _ oQ
   have hw1b:wrap64 ((c:Int) * 2)=(c:Int) * 2:=IntWalk.wrap64_in _ oQ
   have Hj:=uQ hj;have Hj3:=uQ hj3;have Hlt:=uQ hlt;have Hc8:=uQ hc8
   clear hj hj3 hlt hc hc8
   go_wp2_with fail
   go_roundg (4 * N+8 - c * 2)
   case measure=>have:=Hlt.out;have:=Hc8.out;omega
   case rel=>exact ⟨c * 2,rfl,by first|rfl|go_num,⟨j+1,by rw [Nat.pow_succ,Hj.out],by have:=Hj3.out;omega⟩,by have:=Hc8.out;omega,.inr (by have:=Hlt.out;omega),rfl⟩
  ·have c1:¬ (c:Int)<2 * (N:Int):=by omega
   have HC:=uQ (show (∃ j,c=2^j∧3≤j)∧2 * N≤c∧8≤c∧(c=8∨c<4 * N) from ⟨⟨j,hj,hj3⟩,by omega,hc8,hc⟩)
   have hcb:c≤1073741824:=oQ
   have Hcb:=uQ hcb
   clear hj hj3 hlt hc hc8 hw0 hcb hNb
   go_wp2_with (first
    |((with_reducible refine at_load ⟨?_⟩);refine wl_load1 h rFz pkD nLz evD kRz ?_)
    |((with_reducible refine at_make ⟨?_⟩);refine wl_makeN (e:=170) (sz:=36) (by':=64) (n:=c) kRz zSlotL h rFz rFz (by have:=Hcb.out;omega) (by have:=Hcb.out;omega) ?_;intro bM wM hM)
    |((with_reducible refine at_store ⟨?_⟩);refine wl_store aQ rFz evD pQ upD nLz kRz rFz ?_;intro wS hS))
   have e8:(List.replicate c (slotL penc ⟨0,Frm.zero32,zwL⟩)).flatten=(List.replicate c (⟨0,Frm.zero32,zwL⟩:Tab.Slot (Seg.Plc))).flatMap (slotL penc):=(rows_rep c _).symm
   rw [e8]at hS
   have hS0:Sat w0 _ (tbPt p 172 (.slice (some ⟨bM,0,none⟩) c c) t.n 0::osl 170 36 (.slice (some ⟨bM,0,none⟩) c c) ((List.replicate c (⟨0,Frm.zero32,zwL⟩:Tab.Slot (Seg.Plc))).flatMap (slotL penc))::osl 170 36 (.slice la t.slots.length lc) (t.slots.flatMap (slotL penc))::F):=hS.sb
   clear hS hM h e8 c1
   go_wp2_with fail
   go_loopg [31] t.slots.length (fun g iq wr=>∃ (i:Nat) (cur:List (Tab.Slot (Seg.Plc))),g=t.slots.length - i∧i≤t.slots.length∧iq = .int .i64 i∧Tab.Half t.slots cur i∧cur.length=c ∧
    Sat w0 wr (tbPt p 172 (.slice (some ⟨bM,0,none⟩) c c) t.n 0::osl 170 36 (.slice (some ⟨bM,0,none⟩) c c) (cur.flatMap (slotL penc))::osl 170 36 (.slice la t.slots.length lc) (t.slots.flatMap (slotL penc))::F))
   case atStart=>exact ⟨0,_,rfl,Nat.zero_le _,rfl,Tab.half_start HC.out.1 dCz rfl,List.length_replicate,hS0⟩
   case round=>
    obtain ⟨i,cur,rfl,hi,rfl,hH,hcl,hS⟩:=hrel
    clear hS0
    have HH:=uQ hH;have Hcl:=uQ hcl
    by_cases hlt:i<t.slots.length
    rotate_left
    ·obtain rfl:i=t.slots.length:=by omega
     have c1:¬ (t.slots.length:Int)<(t.slots.length:Int):=oQ
     clear hlt hH hi
     go_wp2_with fail
     go_end0
     obtain ⟨q1,q2,q3,q4⟩:=HH.out.done
     exact ⟨_,rfl,cur,⟨q1,q2,q3.trans Hok.out.n.symm,q4.trans Hok.out.n.symm,by rw [Hcl.out];exact HC.out.2.1,by rw [Hcl.out];exact HC.out.2.2.1,by rw [Hcl.out];exact HC.out.2.2.2⟩,_,hS.sb⟩
    have c1:(i:Int)<(t.slots.length:Int):=oQ
    have hwi:=iwQ (i:=i)
    obtain ⟨x,hx⟩:∃ x,t.slots[i]?=some x:=⟨_,List.getElem?_eq_getElem hlt⟩
    have hxm:=List.mem_of_getElem? hx
    have hst:=Hok.out.good.st x hxm
    have Hxk:=uQ (Hok.out.good.key x hxm)
    obtain ⟨bk,off,c',hsv,hcell⟩:=osl_row Hlen.out (Sat.rd (hS.pick pick2)) hx dCz
    cases hsv
    have hl38:=Hlen.out x hxm
    have Hx:=uQ hx;have Hlt:=uQ hlt
    clear hx hxm hlt hH hi
    go_wp2_with (first
     |((with_reducible refine at_load ⟨?_⟩);refine wl_loadW (b:=bk) (o:=off+i * 36) (slotL penc x) rFz hcell Tryz.underlying170 rfl (by rw [hl38];kernel_rfl) ?_)
     |(with_reducible apply at_alloc))
    refine ⟨wl_alloc zSlotL hS rfl ?_⟩
    intro b7 w7 hS7
    go_wp2_with (first|((with_reducible refine at_store ⟨?_⟩);refine wl_storeA (slotL penc x).toArray hS7 rFz rFz (by rw [List.size_toArray,hl38];rfl) upd0 (by rw [List.size_toArray,hl38];kernel_rfl) (by rw [List.toList_toArray];exact slotL_ones penc x (penc_ones _)) ?_;intro w10 hS10)|(with_reducible apply at_load))
    refine ⟨?_⟩
    clear hS hS7 hcell
    have f0:w10.cell? ⟨b7,0,none⟩=some (.int .i64 x.st):=hS10.cellP pick0 0 (by rw [List.getElem?_toArray];rfl)
    have f1:w10.rangeAt b7 1 (bys x.key):=slot_key (hS10.pick pick0)
    by_cases h1:x.st=1
    rotate_left
    ·have hst1:((x.st:Int)==1)=false:=by rw [beq_eq_false_iff_ne];omega
     have H1:=uQ h1
     clear h1 f1
     go_wp2_with fail
     go_roundg (t.slots.length - (i+1))
     case measure=>have:=Hlt.out;omega
     case rel=>exact ⟨i+1,cur,rfl,Hlt.out,by first|rfl|go_num,HH.out.skip Hx.out H1.out,Hcl.out,hS10.sb⟩
    ·have hus:Tab.used cur<cur.length:=by
      have h2:=HH.out.nu
      have h3:=Tab.fulls_take_le t.slots i
      have h4:=Hok.out.n
      have h5:=HN.out
      have h6:=HC.out
      rw [Hcl.out];omega
     obtain ⟨dd,hdd⟩:=Tab.ends_of (k:=x.key) HH.out.good (Tab.free_of hus)
     have H1:=uQ h1;have Hdd:=uQ hdd
     have hst1:((x.st:Int)==1)=true:=by rw [h1];rfl
     have Hcl38:=uQ (show ∀ y∈cur,(slotL penc y).length=36 from fun y hy=>slotL_len penc y (HH.out.good.key y hy) 3 (penc_len _))
     clear h1 hus hdd
     go_wp2_with ((with_reducible refine at_load ⟨?_⟩);refine wl_loadW (b:=b7) (o:=1) (bys x.key) rFz f1 Tryz.underlying30 rfl (by rw [bys_len,Hxk.out];kernel_rfl) ?_)
     have hf:=findL_c HH.out.good (by rw [Hcl.out];exact Hcb.out) Hxk.out Hdd.out (hS10.sb:Sat w0 w10 (tbPt p 172 (.slice (some ⟨bM,0,none⟩) c c) t.n 0::osl 170 36 (.slice (some ⟨bM,0,none⟩) c c) (cur.flatMap (slotL penc))::pt b7 (.cells (slotL penc x).toArray 170 (0,0))::osl 170 36 (.slice (some ⟨bk,off,none⟩) t.slots.length lc) (t.slots.flatMap (slotL penc))::F))
     clear hS10 f0 f1
     refine hf.mono ?_
     rintro ee w11 ⟨v,rfl,y,hy,rfl,hS11⟩
     clear hf hy
     have hlt2:=Tab.pos_lt (k:=x.key) (d:=dd) HH.out.good.pos_len
     rw [Hcl.out]at hlt2
     have Hset:=uQ (rows_set (f:=slotL penc) (k:=36) (i:=Tab.pos x.key cur.length dd) (x:=x) Hcl38.out hl38 (Tab.pos_lt HH.out.good.pos_len))
     have Hst2:=uQ (HH.out.step Hok.out.good Hx.out H1.out Hdd.out)
     rw [Hcl.out]at Hset Hst2
     rw [Hcl.out]
     have hrl:(cur.flatMap (slotL penc)).length=36 * c:=by rw [rows_len Hcl38.out,Hcl.out]
     generalize Tab.pos x.key c dd=P0 at *
     have c2:(0:Int)≤(P0:Int):=oQ
     have c3:(P0:Int)<(c:Int):=oQ
     go_wp2_with fail
     have hSd:=hS11.drew
     clear hS11
     refine wpL_begin [6,7] (fun w'=>w'.cell? ⟨p,0,none⟩=some (.slice (some ⟨bM,0,none⟩) c c)∧w'.rangeAt b7 0 (slotL penc x)) kRz ?_
     have hG:World.cell? _ ⟨p,0,none⟩=some (.slice (some ⟨bM,0,none⟩) c c)∧World.rangeAt _ b7 0 (slotL penc x):=⟨hSd.cellP pkD 0 rfl,pt_rangeL (hSd.pk (A:=pt b7 (.cells (slotL penc x).toArray 170 (0,0))))⟩
     refine rP 0 ?_ (y:=mvQ)
     refine rP 1 ?_ (y:=nlQ)
     refine rP 2 ?_ (y:=flQ)
     refine rt 3 (h:=?_)
     refine rP 4 ?_ (y:=mvQ)
     refine rg_take 5 evD kRz i3z (tk_loadN (b:=b7) (o:=0) (slotL penc x) rFz Tryz.underlying170 rfl (by rw [hl38];kernel_rfl) (fun w hw=>hw.2)) aQ gQ ?_
     refine rP 6 ?_ (y:=ixQ)
     clear hG
     refine rg_eff 7 evD kRz (fun K hK=>?_)
     refine eff_storeSN (vs:=slotL penc x) (P0 * 36) hSd evD evD rfl (upd_there upd0) (by rw [hl38,hrl];omega) (by rw [hl38];kernel_rfl) (slotL_ones penc x (penc_ones _)) ?_
     intro w12 hS12
     refine hK _ _ (.inl rfl) ?_
     clear hK hSd
     refine wpL_done kRz ?_
     try simp only [ayQ]
     try go_frame
     rw [← Hset.out]at hS12
     go_wp2_with fail
     go_roundg (t.slots.length - (i+1))
     case measure=>have:=Hlt.out;omega
     case rel=>exact ⟨i+1,_,rfl,Hlt.out,by first|rfl|go_num,Hst2.out,by rw [List.length_set];exact Hcl.out,hS12.sb⟩
end
theorem run_slotL (k:Frm.Bs) (hk:k.length=32) (v:Seg.Plc) (w:World) :
  (Instr.build 170 #[(0,.int .i64 1),(1,.agg (bys k).toArray),(2,.agg (penc v).toArray)]).run Tryz.prog w = .ok (.agg (slotL penc ⟨1,k,v⟩).toArray) w:=by
 have hbk:(bys k).toArray.size=32:=by rw [List.size_toArray,bys_len,hk]
 refine (run_build (P:=Tryz.prog) [(0,.int .i64 1),(1,.agg (bys k).toArray),(2,.agg (penc v).toArray)] plSlotL zSlotL (by
  intro p' hp
  simp only [List.mem_cons,List.not_mem_nil,or_false]at hp
  have hzz:(Value.agg (slotL penc (⟨0,Frm.zero32,zwL⟩:Tab.Slot (Seg.Plc))).toArray).cells.size=36:=by
   show (slotL penc (⟨0,Frm.zero32,zwL⟩:Tab.Slot (Seg.Plc))).toArray.size=36
   rw [List.size_toArray,slotL_len penc _ dCz 3 rfl]
  rw [hzz]
  rcases hp with rfl|rfl|rfl
  ·exact ⟨0,rfl,by show 0+1≤36;omega⟩
  ·refine ⟨1,?_,?_⟩
   ·show some (1,32)=some (1,(bys k).toArray.size);rw [hbk]
   ·show 1+(bys k).toArray.size≤36;omega
  ·exact ⟨33,rfl,by show 33+3≤36;omega⟩) w).trans ?_
 rw [show (Value.agg (slotL penc (⟨0,Frm.zero32,zwL⟩:Tab.Slot (Seg.Plc))).toArray).cells=(slotL penc (⟨0,Frm.zero32,zwL⟩:Tab.Slot (Seg.Plc))).toArray from rfl,put_slot penc ⟨0,Frm.zero32,zwL⟩ k v dCz hk rfl 3 rfl]
section
variable {w0 w:World}{F R:List HProp}{p B:Nat}{sv:Value}{k:Frm.Bs}{m:Frm.Bs→Option (Seg.Plc)}
set_option maxRecDepth 20000 in
theorem putL_c (hB:B≤134217000) (hk:k.length=32) (v:Seg.Plc) (h:Sat w0 w (TabML p m B::F)) :
  Calls Tryz.prog 94 #[ptr p,.agg (bys k).toArray,.agg (penc v).toArray] w (Rtn fun _ w'=>Sat w0 w' (TabML p (Tab.put m k v) (B+1)::F)):=by
 obtain ⟨t,sv,⟨ok,is,hb⟩,hR⟩:=TabML.open h
 obtain ⟨d,he⟩:=ok.ends k
 have hsz:t.slots.length≤1073741824:=by have:=ok.size;omega
 have Hlen:=uQ (show ∀ x∈t.slots,(slotL penc x).length=36 from fun x hx=>slotL_len penc x (ok.good.key x hx) 3 (penc_len _))
 obtain ⟨la,lc,rfl⟩:=osl_rows Hlen.out (Sat.rd (hR.pick pick1)) dCz
 have hrl:0<(t.slots.flatMap (slotL penc)).length:=by rw [rows_len Hlen.out];have:=ok.good.pos_len;omega
 obtain ⟨bk,rfl⟩:=osl_zero (hR.pick pick1) hrl
 have Hk:=uQ hk;have Hok:=uQ ok;have His:=uQ is;have Hb:=uQ hb;have He:=uQ he;have Hsz:=uQ hsz;have HB:=uQ hB
 have Hp0:=uQ ok.good.pos_len
 have Hbs:=uQ (show (bys k).length=32 by rw [bys_len,hk])
 clear h hk ok is hb he hsz hB hrl
 go_enter Tryz.func94,Tryz.ntmps94
 go_wp2_with (with_reducible apply at_box)
 refine ⟨wl_box hR evD evD ?_⟩
 intro b4 w4 hS4
 go_wp2_with (with_reducible apply at_box)
 refine ⟨wl_box hS4 evD evD ?_⟩
 intro b5 w5 hS5
 have hA:Sat w0 w5 (tbPt p 172 (.slice (some ⟨bk,0,none⟩) t.slots.length lc) t.n t.gone::osl 170 36 (.slice (some ⟨bk,0,none⟩) t.slots.length lc) (t.slots.flatMap (slotL penc))::pt b4 (.cells (bys k).toArray 30 (0,0))::pt b5 (.cells (penc v).toArray 107 (0,0))::F):=hS5.sb
 clear hR hS4 hS5
 go_wp2_with fail
 refine (okL_c Hp0.out hA).mono ?_
 rintro ee w7 ⟨v',rfl,rfl,rfl⟩
 go_wp2_with ((with_reducible refine at_load ⟨?_⟩);refine wl_loadA hA rFz (pick_there (pick_there (pick0 (A:=pt b4 (.cells (bys k).toArray 30 (0,0)))))) Tryz.underlying30 rfl (by rw [List.size_toArray,Hbs.out];kernel_rfl) ?_)
 have hf:=findL_c Hok.out.good Hsz.out Hk.out He.out hA
 clear hA
 refine hf.mono ?_
 rintro ee w8 ⟨v',rfl,x,hx,rfl,hS8⟩
 clear hf
 have hlt:=Tab.pos_lt (k:=k) (d:=d) Hp0.out
 by_cases h1:x.st=1
 ·have hd:decide (x.st=1)=true:=decide_eq_true h1
  have hxm:=List.mem_of_getElem? hx
  have Hrow:=uQ (rows_part (f:=slotL penc) (k:=36) (o:=33) (x':=⟨x.st,x.key,v⟩) (vs:=penc v) Hlen.out hx (slotL_setv penc x v (Hok.out.good.key x hxm) rfl) (by show 33+3≤36;decide))
  have Hok2:=uQ (Tab.put_old_ok Hok.out He.out hx h1 v)
  have His2:=uQ (Tab.is_put His.out (Tab.put_found Hok.out.good He.out hx h1 v).2 t.n t.gone)
  have hrl:(t.slots.flatMap (slotL penc)).length=36 * t.slots.length:=rows_len Hlen.out
  clear hx hxm h1
  generalize Tab.pos k t.slots.length d=P0 at *
  have c0:(0:Int)≤(P0:Int):=oQ
  have c1:(P0:Int)<(t.slots.length:Int):=oQ
  go_wp2_with fail
  have hSd:=hS8.drew
  clear hS8
  refine wpL_begin [6,7,8] (fun w'=>w'.cell? ⟨p,0,none⟩=some (.slice (some ⟨bk,0,none⟩) t.slots.length lc)∧w'.rangeAt b5 0 (penc v)) kRz ?_
  have hG:World.cell? _ ⟨p,0,none⟩=some (.slice (some ⟨bk,0,none⟩) t.slots.length lc)∧World.rangeAt _ b5 0 (penc v):=⟨hSd.cellP pkD 0 rfl,pt_rangeL (hSd.pk (A:=pt b5 (.cells (penc v).toArray 107 (0,0))))⟩
  refine rP 0 ?_ (y:=mvQ)
  refine rP 1 ?_ (y:=nlQ)
  refine rP 2 ?_ (y:=flQ)
  refine rt 3 (h:=?_)
  refine rP 4 ?_ (y:=mvQ)
  refine rg_take 5 evD kRz i3z (tk_loadN (b:=b5) (o:=0) (penc v) rFz Tryz.underlying107 rfl kRz (fun w hw=>hw.2)) aQ gQ ?_
  refine rP 6 ?_ (y:=ixQ)
  refine rP 7 ?_ (y:=flQ)
  clear hG
  refine rg_eff 8 evD kRz (fun K hK=>?_)
  refine eff_storeSN (vs:=penc v) (P0 * 36+33) hSd evD evD rfl (upd_there upd0) (by rw [hrl];show P0 * 36+33+3≤_;omega) kRz rFz ?_
  intro w12 hS12
  refine hK _ _ (.inl rfl) ?_
  clear hK hSd
  refine wpL_done kRz ?_
  try simp only [ayQ]
  try go_frame
  rw [← Hrow.out]at hS12
  go_wp2_with fail
  go_end0
  exact ⟨_,rfl,TabML.shut (sv:= .slice (some ⟨bk,0,none⟩) t.slots.length lc) Hok2.out His2.out (Nat.le_succ_of_le Hb.out) (hS12.sb)⟩
 have hd:decide (x.st=1)=false:=decide_eq_false h1
 have hb4:=Hb.out
 have hB4:=HB.out
 have hsz4:=Hsz.out
 obtain ⟨hA1,hA2,hA3,hA4,hA1b,hA2b,hA3b,hA4b,hA5⟩:=wraps4 t.n t.gone t.slots.length oQ hsz4
 have Hx:=uQ hx;have H1:=uQ h1
 clear hx h1 hb4 hB4 hsz4
 go_wp2_with fail
 have hSd:=hS8.drew
 clear hS8
 have e0:World.cell? _ ⟨p,0,none⟩=some (.slice (some ⟨bk,0,none⟩) t.slots.length lc):=hSd.cellP pkD 0 rfl
 have e1:World.cell? _ ⟨p,1,none⟩=some (.int .i64 t.n):=hSd.cellP pkD 1 rfl
 have e2:World.cell? _ ⟨p,2,none⟩=some (.int .i64 t.gone):=hSd.cellP pkD 2 rfl
 go_region
 have hcmp:3 * t.slots.length<4 * (t.n+t.gone+1)∨4 * (t.n+t.gone+1)≤3 * t.slots.length:=oQ
 rcases hcmp with hcmp|hcmp
 focus
  have hci:(3:Int) * (t.slots.length:Int)<4 * ((t.n:Int)+(t.gone:Int)+1):=oQ
  have hrn:=renewL_c (N:=t.n+1) Hok.out (Nat.le_succ _) (by have:=Hb.out;have:=HB.out;omega) Hsz.out hSd
  rw [show (((t.n+1:Nat)):Int)=(t.n:Int)+1 by omega]at hrn
  clear hSd e0 e2
  go_wp2_with fail
  refine hrn.mono ?_
  rintro ee w9 ⟨v',rfl,s',sv',hren,hS9⟩
  clear hrn e1 hci hcmp
  have hok1:=hren.ok
  have his1:=hren.is His.out t.n 0
  have hld1:4 * ((⟨s',t.n,0⟩:Tab.Tb (Seg.Plc)).n+(⟨s',t.n,0⟩:Tab.Tb (Seg.Plc)).gone+1)≤3 * (⟨s',t.n,0⟩:Tab.Tb (Seg.Plc)).slots.length:=by have:=hren.lo;simp only;omega
  have hb1:(⟨s',t.n,0⟩:Tab.Tb (Seg.Plc)).n+(⟨s',t.n,0⟩:Tab.Tb (Seg.Plc)).gone≤B:=by have:=Hb.out;simp only;omega
  have hS10:Sat w0 w9 (tbPt p 172 sv' (⟨s',t.n,0⟩:Tab.Tb (Seg.Plc)).n (⟨s',t.n,0⟩:Tab.Tb (Seg.Plc)).gone::osl 170 36 sv' ((⟨s',t.n,0⟩:Tab.Tb (Seg.Plc)).slots.flatMap (slotL penc))::pt b4 (.cells (bys k).toArray 30 (0,0))::pt b5 (.cells (penc v).toArray 107 (0,0))::F):=hS9
  clear hS9 hren hA1 hA2 hA3 hA4 hA1b hA2b hA3b hA4b hA5
  generalize (⟨s',t.n,0⟩:Tab.Tb (Seg.Plc))=t1 at hok1 his1 hld1 hb1 hS10
  have Hlen1:=uQ (show ∀ x∈t1.slots,(slotL penc x).length=36 from fun x hx=>slotL_len penc x (hok1.good.key x hx) 3 (penc_len _))
  obtain ⟨la1,lc1,rfl⟩:=osl_rows Hlen1.out (Sat.rd (hS10.pick pick1)) dCz
  have Hok1:=uQ hok1;have His1:=uQ his1;have Hld1:=uQ hld1;have Hb1:=uQ hb1
  obtain ⟨d1,he1⟩:=hok1.ends k
  have He1:=uQ he1
  have hno:m k=none:=by
   obtain ⟨_,q2⟩:=His.out.some Hok.out He.out Hx.out
   exact q2 H1.out
  have hsz1:t1.slots.length≤1073741824:=by have:=hok1.size;have:=HB.out;omega
  clear hok1 his1 hld1 hb1 he1
  go_wp2_with ((with_reducible refine at_load ⟨?_⟩);refine wl_loadA hS10 rFz (pick_there (pick_there (pick0 (A:=pt b4 (.cells (bys k).toArray 30 (0,0)))))) Tryz.underlying30 rfl (by rw [List.size_toArray,Hbs.out];kernel_rfl) ?_)
  have hf:=findL_c Hok1.out.good hsz1 Hk.out He1.out hS10
  clear hS10 hsz1
  refine hf.mono ?_
  rintro ee w8b ⟨v',rfl,x1,hx1,rfl,hT⟩
  have Hx1:=uQ hx1
  have H1f:=uQ (show x1.st≠1 from fun h=>by
   have:=(His1.out.some Hok1.out He1.out hx1).1 h
   rw [hno]at this;cases this)
  clear hf hx1 hno Hx H1 He Hok His Hlen Hp0 Hb Hsz hlt hd
  go_wp2_with fail
 rotate_left
 focus
  have hci:¬ (3:Int) * (t.slots.length:Int)<4 * ((t.n:Int)+(t.gone:Int)+1):=oQ
  have Hld1:=uQ hcmp
  clear e0 e1 e2 hcmp
  go_wp2_with fail
  clear hci hA1 hA2 hA3 hA4 hA1b hA2b hA3b hA4b hA5 hlt hd Hp0 Hsz
  obtain ⟨t1,rfl⟩:∃ y,y=t:=⟨t,rfl⟩
  obtain ⟨x1,rfl⟩:∃ y,y=x:=⟨x,rfl⟩
  obtain ⟨d1,rfl⟩:∃ y,y=d:=⟨d,rfl⟩
  obtain ⟨la1,hla1⟩:∃ y:Option Addr,y=some ⟨bk,0,none⟩:=⟨_,rfl⟩
  obtain ⟨lc1,rfl⟩:∃ y,y=lc:=⟨lc,rfl⟩
  rw [← hla1]at hSd
  have hT:=hSd
  have Hok1:=uQ Hok.out;have His1:=uQ His.out;have Hb1:=uQ Hb.out;have He1:=uQ He.out;have Hx1:=uQ Hx.out;have H1f:=uQ H1.out;have Hlen1:=uQ Hlen.out
  clear hSd Hok His Hb He Hx H1 Hlen hla1
 all_goals
  have hrl:(t1.slots.flatMap (slotL penc)).length=36 * t1.slots.length:=rows_len Hlen1.out
  obtain ⟨bk1,rfl⟩:=osl_zero (hT.pick pick1) (by rw [hrl];have:=Hok1.out.good.pos_len;omega)
  have Hrow:=uQ (rows_set (f:=slotL penc) (k:=36) (i:=Tab.pos k t1.slots.length d1) (x:=⟨1,k,v⟩) Hlen1.out (slotL_len penc _ Hk.out 3 rfl) (Tab.pos_lt Hok1.out.good.pos_len))
  have Hok2:=uQ (Tab.put_new_ok Hok1.out Hld1.out He1.out Hx1.out H1f.out Hk.out v)
  have His2:=uQ (Tab.is_put His1.out (Tab.put_new Hok1.out.good He1.out Hx1.out H1f.out Hk.out v).2 (t1.n+1) t1.gone)
  have hlt1:=Tab.pos_lt (k:=k) (d:=d1) Hok1.out.good.pos_len
  have hls:=slotL_len penc (⟨1,k,v⟩:Tab.Slot (Seg.Plc)) Hk.out 3 rfl
  have hwn:IntKind.i64.wrap ((t1.n:Int)+1)=(t1.n:Int)+1:=IntWalk.i64_in _ (by have:=Hb1.out;have:=HB.out;omega)
  clear Hx1 H1f He1 Hok1 His1 Hld1
  generalize Tab.pos k t1.slots.length d1=P1 at *
  have c0:(0:Int)≤(P1:Int):=oQ
  have c1:(P1:Int)<(t1.slots.length:Int):=oQ
  have hSd:=hT.drew
  clear hT
  refine wpL_begin [8,9] (fun w'=>w'.cell? ⟨p,0,none⟩=some (.slice (some ⟨bk1,0,none⟩) t1.slots.length lc1)∧w'.rangeAt b4 0 (bys k)∧w'.rangeAt b5 0 (penc v)) kRz ?_
  have hG:World.cell? _ ⟨p,0,none⟩=some (.slice (some ⟨bk1,0,none⟩) t1.slots.length lc1)∧World.rangeAt _ b4 0 (bys k)∧World.rangeAt _ b5 0 (penc v):=⟨hSd.cellP pkD 0 rfl,pt_rangeL (hSd.pk (A:=pt b4 (.cells (bys k).toArray 30 (0,0)))),pt_rangeL (hSd.pk (A:=pt b5 (.cells (penc v).toArray 107 (0,0))))⟩
  refine rP 0 ?_ (y:=mvQ)
  refine rP 1 ?_ (y:=nlQ)
  refine rP 2 ?_ (y:=flQ)
  refine rt 3 (h:=?_)
  refine rP 4 ?_ (y:=mvQ)
  refine rg_take 5 evD kRz i3z (tk_loadN (b:=b4) (o:=0) (bys k) rFz Tryz.underlying30 rfl (by rw [Hbs.out];kernel_rfl) (fun w hw=>hw.2.1)) aQ gQ ?_
  refine rg_take 6 evD kRz i3z (tk_loadN (b:=b5) (o:=0) (penc v) rFz Tryz.underlying107 rfl kRz (fun w hw=>hw.2.2)) aQ gQ ?_
  refine rP 7 ?_ (y:=(yl_build3 evD evD evD (fun w=>run_slotL k Hk.out v w)))
  refine rP 8 ?_ (y:=ixQ)
  clear hG
  refine rg_eff 9 evD kRz (fun K hK=>?_)
  refine eff_storeSN (vs:=slotL penc ⟨1,k,v⟩) (P1 * 36) hSd evD evD rfl (upd_there upd0) (by rw [hrl,hls];omega) (by rw [hls];kernel_rfl) (slotL_ones penc _ rFz) ?_
  intro w12 hS12
  refine hK _ _ (.inl rfl) ?_
  clear hK hSd
  refine wpL_done kRz ?_
  try simp only [ayQ]
  try go_frame
  rw [← Hrow.out]at hS12
  go_wp2_with (first
   |((with_reducible refine at_load ⟨?_⟩);refine wl_load1 hS12 rFz pkD nLz evD kRz ?_)
   |((with_reducible refine at_store ⟨?_⟩);refine wl_store aQ rFz evD pQ upD nLz kRz rFz ?_;intro wS hS))
  go_end0
  exact ⟨_,rfl,TabML.shut (sv:= .slice (some ⟨bk1,0,none⟩) t1.slots.length lc1) Hok2.out His2.out (by have:=Hb1.out;simp only;omega) (hS.sb)⟩
end
open Go.Sort
abbrev SlKL:Type:={ x:Tab.Slot (Seg.Plc) // x.key.length=32 }
instance:Inhabited SlKL:=⟨⟨⟨0,Frm.zero32,Seg.Plc.zero⟩,rfl⟩⟩
section
variable {w0 w:World}{F:List HProp}{v:Value}
end
end Go.Proofs.YtlimfgdbfadohaaGreatDoor
namespace Go.Tab
open Go.Frm (Bs)
open Go.Seg (Plc)
open Go.Rep (Abt)
section
variable {V:Type}
def mapOf (l:List (Bs×V)):Bs→Option V:=l.foldl (fun m p=>put m p.1 p.2) fun _=>none
theorem mapOf_snoc (l:List (Bs×V)) (p:Bs×V):mapOf (l++[p])=put (mapOf l) p.1 p.2:=by unfold mapOf;rw [List.foldl_append];rfl
end
end Go.Tab
namespace Go.Rep
open Go.Frm (Bs)
open Go.Tab
theorem puts_snoc (l:List (Bs×Abt)) (p:Bs×Abt):puts (l++[p])=if p.2.tag=0 then puts l++[(p.1,p.2.place)] else puts l:=by
 unfold puts
 rw [List.filter_append]
 by_cases h:p.2.tag=0
 ·rw [if_pos h,List.filter_cons_of_pos (by rw [decide_eq_true h]),List.filter_nil,List.map_append];rfl
 ·rw [if_neg h,List.filter_cons_of_neg (by rw [decide_eq_false h];decide),List.filter_nil,List.append_nil]
theorem liveL_snoc (s:Int):∀ (l:List (Bs×Abt)) (p:Bs×Abt),liveL s (l++[p])=liveL s l+(if counts p.2=true∧p.2.place.seg=s then p.2.place.size else 0)
 |[],p=>by simp [liveL]
 |q::l,p=>by
  have:=liveL_snoc s l p
  simp only [List.cons_append,liveL]
  omega
theorem liveL_le (s:Int){b:Int} (hb:0≤b):∀ (l:List (Bs×Abt)),(∀ p∈l,0≤p.2.place.size∧p.2.place.size≤b)→0≤liveL s l∧liveL s l≤b * l.length
 |[],_=>by simp [liveL]
 |q::l,h=>by
  obtain ⟨i1,i2⟩:=liveL_le s hb l fun p hp=>h p (.tail _ hp)
  obtain ⟨j1,j2⟩:=h q (.head _)
  have e:b * ((q::l).length:Int)=b * l.length+b:=by rw [List.length_cons,Int.natCast_succ,Int.mul_add,Int.mul_one]
  rw [e]
  simp only [liveL]
  split <;> omega
end Go.Rep
namespace Go.Proofs.YtlimfgdbfadohaaGreatDoor
open Go Go.Sl Go.Med Go.MapKept Go.RowKit
def imap (b:Nat) (f:Int→Int):HProp:=fun h=>∃ l:List (Value×Value),((∀ p∈l,∃ k v:Int,p=(.int .i64 k,.int .i64 v)∧f k=v)∧∀ k:Int,(∀ p∈l,p.1 ≠ .int .i64 k)→f k=0)∧omap (.int .i64) b l h
section
variable {w0 w:World}{R:List HProp}{b:Nat}{f:Int→Int}{l:List (Value×Value)}
theorem imap_open (h:Sat w0 w (imap b f::R)):∃ l:List (Value×Value),((∀ p∈l,∃ k v:Int,p=(.int .i64 k,.int .i64 v)∧f k=v)∧∀ k:Int,(∀ p∈l,p.1 ≠ .int .i64 k)→f k=0)∧Sat w0 w (omap (.int .i64) b l::R):=by
 obtain ⟨ha,x,hx,p,q,dd,rfl,⟨l,h1,h2⟩,hq⟩:=h
 exact ⟨l,h1,ha,_,hx,p,q,dd,rfl,h2,hq⟩
theorem imap_shut (h1:∀ p∈l,∃ k v:Int,p=(.int .i64 k,.int .i64 v)∧f k=v) (h2:∀ k:Int,(∀ p∈l,p.1 ≠ .int .i64 k)→f k=0) (h:Sat w0 w (omap (.int .i64) b l::R)):Sat w0 w (imap b f::R):=
 h.head fun _ hx=>⟨l,⟨h1,h2⟩,hx⟩
theorem imap_new (h:Sat w0 w R):Sat w0 (w.alloc (.map #[] 0)) (imap w.heap.size (fun _=>0)::R):=imap_shut (by simp) (fun _ _=>rfl) (h.omap_new (.int .i64))
theorem imap_look (k:Int) (h:Sat w0 w (imap b f::R)):(Instr.lookup 205 (.map (some b)) (.int .i64 k) false).run Tryz.prog w = .ok (.int .i64 (f k)) w:=by
 obtain ⟨l,⟨h1,h2⟩,hS⟩:=imap_open h
 rcases run_look (key:= .int .i64 k) Tryz.underlying205 Tryz.underlying3 (z:= .int .i64 0) kRz rfl hS with ⟨v,hm,e,_⟩|⟨hn,e,_⟩
 ·obtain ⟨k',v',hp,hf⟩:=h1 _ hm
  cases hp
  rw [e,hf]
 ·rw [e,h2 k hn]
theorem imap_store (k v:Int) (h:Sat w0 w (imap b f::R)):∃ w',(Instr.mapUpdate 205 (.map (some b)) (.int .i64 k) (.int .i64 v)).run Tryz.prog w = .ok () w'∧Sat w0 w' (imap b (fun s=>if s=k then v else f s)::R):=by
 obtain ⟨l,⟨h1,h2⟩,hS⟩:=imap_open h
 obtain ⟨w',hr,hs⟩:=Sl.run_store (key:= .int .i64 k) Tryz.underlying205 Tryz.underlying3 rfl (.int .i64 v) hS
 refine ⟨w',hr,?_⟩
 have hnd:=hS.omap_keys
 obtain ⟨l0,hl0,hne,hin,hout⟩:∃ l0:List (Value×Value),(l.Perm l0∧(∀ p∈l0,p.1 ≠ .int .i64 k)∨∃ v0,l.Perm ((.int .i64 k,v0)::l0))∧(∀ p∈l0,p.1 ≠ .int .i64 k)∧(∀ p∈l0,p∈l)∧∀ p∈l,p.1 ≠ .int .i64 k→p∈l0:=by
  by_cases hk:∃ p∈l,p.1 = .int .i64 k
  ·obtain ⟨⟨_,v0⟩,hm,rfl⟩:=hk
   obtain ⟨l1,l2,e12⟩:=List.append_of_mem hm
   have hp:l.Perm ((.int .i64 k,v0)::(l1++l2)):=by rw [e12];exact List.perm_middle
   have hnd2:=(hp.map (·.1)).nodup_iff.1 hnd
   rw [List.map_cons,List.nodup_cons]at hnd2
   exact ⟨_,.inr ⟨v0,hp⟩,fun p hp' e=>hnd2.1 (List.mem_map.2 ⟨p,hp',e⟩),fun p hp'=>hp.mem_iff.2 (.tail _ hp'),fun p hp' hne=>by
    rcases List.mem_cons.1 (hp.mem_iff.1 hp') with e|e
    ·exact absurd (by rw [e]) hne
    ·exact e⟩
  ·have hk':∀ p∈l,p.1 ≠ .int .i64 k:=fun p hp e=>hk ⟨p,hp,e⟩
   exact ⟨l,.inl ⟨.refl _,hk'⟩,hk',fun _ h=>h,fun _ h _=>h⟩
 refine imap_shut (l:=(.int .i64 k,.int .i64 v)::l0) ?_ ?_ (hs l0 hl0)
 ·intro p hp
  rcases List.mem_cons.1 hp with rfl|hp
  ·exact ⟨k,v,rfl,if_pos rfl⟩
  ·obtain ⟨k',v',rfl,hf⟩:=h1 p (hin p hp)
   refine ⟨k',v',rfl,?_⟩
   show (if k'=k then v else f k')=v'
   rw [if_neg (fun e=>hne _ hp (by rw [e])),hf]
 ·intro k' hk'
  have hkk:k'≠k:=fun e=>hk' _ (.head _) (by rw [e])
  show (if k'=k then v else f k')=0
  rw [if_neg hkk]
  refine h2 k' fun p hp e=>?_
  exact hk' p (.tail _ (hout p hp (fun e2=>hkk (by rw [e2]at e;cases e;rfl)))) e
end
section
variable {w0 w:World}{R:List HProp}{p B B':Nat}{m:Frm.Bs→Option Seg.Plc}
theorem TabML.mono (hB:B≤B') (h:Sat w0 w (TabML p m B::R)):Sat w0 w (TabML p m B'::R):=by
 obtain ⟨t,sv,⟨ok,is,hb⟩,hS⟩:=TabML.open h
 exact TabML.shut ok is (Nat.le_trans hb hB) hS
end
section
variable {w0 w:World}{F:List HProp}
set_option maxRecDepth 20000 in
theorem counts_c (x:Rep.Abt) (h:Sat w0 w F):Calls Tryz.prog 167 #[.agg (aenc x).toArray] w (Rtn fun v w'=>v = .bool (Rep.counts x)∧Sat w0 w' F):=by
 obtain ⟨tag,⟨seg,at_,size⟩,first⟩:=x
 show Calls Tryz.prog 167 #[.agg #[.int .i64 tag,.int .i64 seg,.int .i64 at_,.int .i64 size,.int .i64 first]] w _
 have Hc:=uQ (show ∀ c,c=(decide (tag=0) || (decide (0≤first) && decide (first<seg)))→c=Rep.counts ⟨tag,⟨seg,at_,size⟩,first⟩ from fun c hc=>hc)
 go_enter Tryz.func167,Tryz.ntmps167
 go_wp2_with (first|((with_reducible refine at_box ⟨?_⟩);refine wl_box aQ evD evD ?_;intro bB wB hB)|(with_reducible apply at_load))
 refine ⟨?_⟩
 have f0:wB.cell? ⟨bB,0,none⟩=some (.int .i64 tag):=hB.cellP pick0 0 rfl
 have f1:wB.cell? ⟨bB,1,none⟩=some (.int .i64 seg):=hB.cellP pick0 1 rfl
 have f2:wB.cell? ⟨bB,4,none⟩=some (.int .i64 first):=hB.cellP pick0 4 rfl
 have HB:=uQ hB.drop
 clear hB h
 by_cases h0:tag=0
 ·have hb:(tag==0)=true:=beq_iff_eq.2 h0
  have e:=Hc.out true (by simp [h0])
  have He:=uQ e
  clear h0 e Hc
  go_wp2_with fail
  go_ret
  exact ⟨_,rfl,congrArg Value.bool He.out,HB.out⟩
 ·have hb:(tag==0)=false:=by rw [beq_eq_false_iff_ne];exact h0
  by_cases h1:0≤first
  ·by_cases h2:first<seg
   ·have He:=uQ (Hc.out true (by simp [h0,h1,h2]))
    clear h0 Hc
    go_wp2_with fail
    go_ret
    exact ⟨_,rfl,congrArg Value.bool He.out,HB.out⟩
   ·have He:=uQ (Hc.out false (by simp [h0,h2]))
    clear h0 Hc
    go_wp2_with fail
    go_ret
    exact ⟨_,rfl,congrArg Value.bool He.out,HB.out⟩
  ·have He:=uQ (Hc.out false (by simp [h0,h1]))
   clear h0 Hc
   go_wp2_with fail
   go_ret
   exact ⟨_,rfl,congrArg Value.bool He.out,HB.out⟩
end
end Go.Proofs.YtlimfgdbfadohaaGreatDoor
