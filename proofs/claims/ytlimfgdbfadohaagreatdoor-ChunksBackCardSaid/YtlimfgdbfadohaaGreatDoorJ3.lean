import Derived.Test.YtlimfgdbfadohaaGreatDoorJ2
import Derived.Lib.SlBytesConst
import Derived.Laws.IdiomStrings
import Derived.Deep.MidRow
import Derived.Laws.ResultCell
set_option linter.unusedVariables false
set_option maxHeartbeats 128000000
namespace Go.Proofs.YtlimfgdbfadohaaGreatDoor
open Go Go.Sl Go.aB Go.MapKept Go.RowKit
section
variable {w0 w:World}{F:List aC}{v bv dv x:Value}{q:Nat}
def mrow (q:Nat) (l:Bs):aC:=pt q (.cells (ay l).toArray 5 (l.length,l.length+1))
theorem EN {l:Bs} (h:Sat w0 w (mrow q l::F)){i:Nat} (hi:i<l.length) (x:UInt8) :
  w.cell? ⟨q,i,none⟩=some (.int .u8 (l[i]'hi).toNat)∧w.frozen? ⟨q,i,none⟩=false∧Sat w0 (w.setCell ⟨q,i,none⟩ (.int .u8 x.toNat)) (mrow q (l.set i x)::F):=by
 have hb:=h.at
 refine ⟨?_,?_,?_⟩
 ·simp only [World.cell?,hb]
  rw [List.getElem?_toArray]
  unfold ay
  rw [List.getElem?_map,List.getElem?_eq_getElem hi];rfl
 ·simp only [World.frozen?,hb]
  simp;omega
 ·refine h.turn rfl rfl rfl (by simp) ?_ ?_
  ·simp only [World.setCell,Array.getElem?_modify,if_true,hb]
   simp only [Option.map_some,Option.some.injEq]
   rw [List.length_set]
   congr 1
   unfold ay
   rw [List.setIfInBounds_toArray,List.map_set,if_neg (by simp)]
  ·intro j hj _
   simp only [World.setCell,Array.getElem?_modify]
   rw [if_neg (Ne.symm hj)]
theorem abU {l:Bs} (h:Sat w0 w (mrow q l::F)) (c:Nat):(convert 27 9 (.slice (some ⟨q,0,none⟩) l.length c)).run Tryz.prog w = .ok (.string ⟨l.toArray⟩) w:=by
 refine run_convert_bytes_back (P:=Tryz.prog) w _ _ 5 _ c l Tryz.underlying27 Tryz.underlying5 Tryz.underlying9 (fun j hj=>?_)
 rw [pG]
 exact (EN h hj 0).1
set_option maxRecDepth 20000 in
theorem Aa (n:Int) (h:Sat w0 w F) :
  Calls Tryz.prog 99 #[.int .i64 n] w (aI fun v w'=>v = .string (Seg.name n)∧Sat w0 w' F):=by
 by_cases h1:n<0
 ·have Hf:=uQ (show Seg.name n=ByteArray.empty by unfold Seg.name;rw [if_pos (.inl h1)])
  go_enter Tryz.func99,Tryz.ntmps99
  go_wp2
  go_ret
  exact ⟨_,rfl,by rw [Hf.out];rfl,h⟩
 have h1d:decide (n<0)=false:=decide_eq_false h1
 by_cases h2:1048576≤n
 ·have Hf:=uQ (show Seg.name n=ByteArray.empty by unfold Seg.name;rw [if_pos (.inr h2)])
  go_enter Tryz.func99,Tryz.ntmps99
  go_wp2
  go_ret
  exact ⟨_,rfl,by rw [Hf.out];rfl,h⟩
 have Es:decide (1048576≤n)=false:=decide_eq_false h2
 obtain ⟨m0,rfl⟩:=Int.eq_ofNat_of_zero_le (show 0≤n by omega)
 have Hf:=uQ (show Seg.name (m0:Int)=⟨(Seg.lead++Seg.iI m0 8).toArray⟩ by unfold Seg.name;rw [if_neg oQ];rfl)
 have hm0:m0<10^8:=by omega
 have Hm:=uQ hm0
 have hcv:=Lib.run_convert_bytes_const (P:=Tryz.prog) w 27 5 #[.int .u8 115,.int .u8 101,.int .u8 103,.int .u8 46,.int .u8 48,.int .u8 48,.int .u8 48,.int .u8 48,.int .u8 48,.int .u8 48,.int .u8 48,.int .u8 48] 12 12 Tryz.underlying27 Tryz.underlying5
 have hB:Sat w0 (w.alloc (.cells #[.int .u8 115,.int .u8 101,.int .u8 103,.int .u8 46,.int .u8 48,.int .u8 48,.int .u8 48,.int .u8 48,.int .u8 48,.int .u8 48,.int .u8 48,.int .u8 48] 5 (12,13))) (mrow w.heap.size (Seg.lead++List.replicate 8 48)::F):=h.alloc _
 simp only [List.size_toArray,List.length_cons,List.length_nil,Nat.zero_add,Nat.reduceAdd]at hcv
 clear hm0
 go_enter Tryz.func99,Tryz.ntmps99
 go_wp2_with fail
 clear h1 h2 h1d Es
 generalize w.heap.size=q at *
 go_loopg [0,4] 8 (fun g nv iq wr=>∃ (k m:Nat) (tail:Bs),g=k∧k≤8∧nv = .int .i64 m∧iq = .int .i64 ((k:Int)+3)∧m<10^k∧Seg.lead++Seg.iI m0 8=Seg.lead++Seg.iI m k++tail∧tail.length=8 - k ∧
  Sat w0 wr (mrow q (Seg.lead++List.replicate k 48++tail)::F))
 case atStart=>exact ⟨8,m0,[],rfl,Nat.le_refl _,rfl,rfl,Hm.out,by simp,rfl,by simpa using hB⟩
 case round=>
  obtain ⟨k,m,tail,hgk,hk,rfl,rfl,hm,hfin,htl,hS⟩:=hrel
  have aap:=hgk.symm
  subst aap
  have bV:=uQ hfin;have y5:=uQ htl
  clear hB hfin htl
  by_cases hp:0<m
  ·obtain ⟨k',rfl⟩:∃ k',k=k'+1:=by
    cases k with
    |zero=>simp at hm;omega
    |succ k'=>exact ⟨k',rfl⟩
   have hlen:(Seg.lead++List.replicate (k'+1) 48++tail).length=12:=by
    have:=y5.out
    simp [Seg.lead];omega
   have hidx:k'+4<(Seg.lead++List.replicate (k'+1) 48++tail).length:=by omega
   obtain ⟨e0,e1,hS5⟩:=EN hS hidx (UInt8.ofNat (48+m%10))
   generalize (Seg.lead++List.replicate (k'+1) 48++tail)[k'+4]'hidx=old at e0
   have hpi:(0:Int)<(m:Int):=by omega
   have hki:(k':Int)+4<12:=by omega
   have hdg:48+(m:Int)%10=((UInt8.ofNat (48+m%10)).toNat:Int):=by rw [UInt8.toNat_ofNat'];omega
   have hm2:m<10 * 10^k':=by rw [Nat.pow_succ]at hm;omega
   have hbig:10^(k'+1)≤10^8:=Nat.pow_le_pow_right aJ hk
   have hw1:IntKind.i64.wrap ((m:Int) / 10)=(m:Int) / 10:=by rw [IntKind.wrap_i64];omega
   have vk:=uQ hm2
   have Wu:=uQ (show Seg.iI m (k'+1)=Seg.iI (m / 10) k'++[UInt8.ofNat (48+m%10)] by rfl)
   have hc3:((k'+1:Nat):Int)+3=(k':Int)+4:=by omega
   rw [hc3]
   clear hm hm2 hlen hidx hbig
   generalize UInt8.ofNat (48+m%10)=dg at *
   go_wp2_with fail
   go_roundg k'
   case rel=>
    refine ⟨k',m / 10,dg::tail,rfl,by omega,?_,?_,?_,?_,?_,?_⟩
    ·congr 1
    ·congr 1;omega
    ·have:=vk.out;omega
    ·rw [bV.out,Wu.out];simp
    ·have:=y5.out;simp;omega
    ·have e:(Seg.lead++List.replicate (k'+1) 48++tail).set (k'+4) dg=Seg.lead++List.replicate k' 48++dg::tail:=by
      have hl:(Seg.lead++List.replicate k' (48:UInt8)).length=k'+4:=by simp only [Seg.lead,List.length_append,List.length_replicate,List.length_cons,List.length_nil];omega
      rw [List.replicate_succ',← List.append_assoc,List.append_assoc (Seg.lead++List.replicate k' 48),List.set_append_right _ _ oQ,hl,Nat.sub_self]
      rfl
     rw [← e];exact hS5
   case measure=>omega
  ·have hm0:m=0:=by omega
   subst hm0
   have htx:=abU hS 12
   have hlen:(Seg.lead++List.replicate k 48++tail).length=12:=by
    have:=y5.out
    simp [Seg.lead];omega
   rw [hlen]at htx
   clear hm
   go_wp2
   go_ret
   refine ⟨_,rfl,?_,hS.drop⟩
   rw [Hf.out,bV.out,Seg.OG];simp
end
section
variable {w0 w:World}{F:List aC}{v bv dv x:Value}{q:Nat}
theorem NI (s:ByteArray):(s.extract 0 4).toList=s.data.toList.take 4:=by
 rw [Go.Lib.extract_toList];simp
theorem Ya (s:ByteArray) (h:s.size=12):(s.extract 4 12).data.toList=s.data.toList.drop 4:=by
 rw [Go.Lib.extract_data]
 refine List.take_of_length_le ?_
 have:s.data.toList.length=12:=by rw [Array.length_toList];exact h
 rw [List.length_drop];omega
set_option maxRecDepth 20000 in
theorem afr (s:ByteArray) (h:Sat w0 w F) :
  Calls Tryz.prog 73 #[.string s] w (aI fun v w'=>v = .tuple #[.int .i64 (Seg.number s).1,.bool (Seg.number s).2]∧Sat w0 w' F):=by
 by_cases h1:s.size=12
 ·have hs:((s.size:Int)=12):=by omega
  have h1d:decide ((s.size:Int)=12)=true:=decide_eq_true hs
  by_cases h2:s.data.toList.take 4=Seg.lead
  ·have Es:((s.extract 0 4).toList==[115,101,103,46])=true:=by rw [NI s,h2];rfl
   have hN:=uQ (show Seg.number s=if (s.data.toList.drop 4).all Seg.lT=true∧Seg.val (s.data.toList.drop 4)<1048576 then ((Seg.val (s.data.toList.drop 4):Int),true) else (0,false) by
    unfold Seg.number
    simp only [Array.length_toList,show s.data.size=12 from h1,h2,true_and])
   have Hb:=uQ (Ya s h1)
   have hcv:=run_bytes_of_string (P:=Tryz.prog) w 9 27 5 (s.extract 4 12) Tryz.underlying9 Tryz.underlying27 Tryz.underlying5
   have hz:(s.extract 4 12).size=8:=by simp [ByteArray.size_extract,h1]
   have hcell:∀ (i:Nat) (hi:i<8),((w.alloc (.cells (bytesRow (s.extract 4 12) (grownCap w (s.extract 4 12).size 0 5)) 5 ((bytesRow (s.extract 4 12) (grownCap w (s.extract 4 12).size 0 5)).size,(bytesRow (s.extract 4 12) (grownCap w (s.extract 4 12).size 0 5)).size+1))).drew).cell? ⟨w.heap.size,0+i,none⟩=some (.int .u8 ((s.extract 4 12).data[i]'(by have:(s.extract 4 12).data.size=8:=hz;omega)).toNat):=by
    intro i hi
    rw [Nat.zero_add]
    exact (World.cell?_alloc_mark w.drew _ _ _ _).trans (bytesRow_at _ _ _ _)
   have hB:Sat w0 ((w.alloc (.cells (bytesRow (s.extract 4 12) (grownCap w (s.extract 4 12).size 0 5)) 5 ((bytesRow (s.extract 4 12) (grownCap w (s.extract 4 12).size 0 5)).size,(bytesRow (s.extract 4 12) (grownCap w (s.extract 4 12).size 0 5)).size+1))).drew) F:=(h.drew.alloc _).drop
   rw [hz]at hcv hcell hB
   have Hlen:=uQ (show (s.data.toList.drop 4).length=8 by rw [List.length_drop,Array.length_toList,show s.data.size=12 from h1])
   have hcell':∀ (i:Nat) (hi:i<(s.data.toList.drop 4).length),((w.alloc (.cells (bytesRow (s.extract 4 12) (grownCap w 8 0 5)) 5 ((bytesRow (s.extract 4 12) (grownCap w 8 0 5)).size,(bytesRow (s.extract 4 12) (grownCap w 8 0 5)).size+1))).drew).cell? ⟨w.heap.size,0+i,none⟩=some (.int .u8 ((s.data.toList.drop 4)[i]'hi).toNat):=by
    intro i hi
    rw [hcell i (by rw [← Hlen.out];exact hi)]
    congr 4
    have:=Hb.out
    rw [← Array.getElem_toList]
    exact getElem_congr this rfl _
   clear hcell
   generalize grownCap w 8 0 5=cap at *
   generalize s.data.toList.drop 4=l at *
   go_enter Tryz.func73,Tryz.ntmps73
   go_wp2_with fail
   clear hcv h1d Es hs h1 h2
   generalize World.drew _=wb at *
   generalize w.heap.size=q at *
   go_loopg [4,19] 8 (fun g nv iq wr=>∃ i:Nat,g=8 - i∧i≤8∧nv = .int .i64 (Seg.val (l.take i))∧iq = .int .i64 i∧(l.take i).all Seg.lT=true∧wr=wb)
   case atStart=>exact ⟨0,rfl,by omega,rfl,rfl,rfl,rfl⟩
   case round=>
    obtain ⟨i,rfl,hi,rfl,rfl,hall,rfl⟩:=hrel
    have yS:=uQ hall
    clear hall
    by_cases hi':i<8
    ·have hil:i<l.length:=by have:=Hlen.out;omega
     have hc:=hcell' i hil
     rw [Nat.zero_add]at hc
     have Hc:=uQ (List.getElem_mem hil)
     have hii:(i:Int)<8:=by omega
     have Hn:=uQ (show Seg.val (l.take (i+1))=10 * Seg.val (l.take i)+(l[i].toNat - 48) by rw [List.take_succ_eq_append_getElem hil,Seg.FU])
     have Hd:=uQ (show (l.take (i+1)).all Seg.lT=Seg.lT l[i] by rw [List.take_succ_eq_append_getElem hil,List.all_append,yS.out,Bool.true_and];simp)
     have Hv:=uQ (Seg.agH _ yS.out)
     generalize l[i]=c at *
     by_cases hd:Seg.lT c=true
     ·have hd':=hd
      unfold Seg.lT at hd'
      rw [Bool.and_eq_true,decide_eq_true_eq,decide_eq_true_eq]at hd'
      have b1:¬ c.toNat<48:=by omega
      have b2:¬ 57<c.toNat:=by omega
      have b3:(c.toNat:Int) - 48=((c.toNat - 48:Nat):Int):=by omega
      have aaB:Seg.val (l.take i)<100000000:=by
       have:=Hv.out
       rw [List.length_take]at this
       exact Nat.lt_of_lt_of_le this (Nat.pow_le_pow_right aJ oQ:_≤10^8)
      have qh:=uQ hd'
      have b4:IntKind.i64.wrap (10 * (Seg.val (l.take i):Int))=10 * (Seg.val (l.take i):Int):=by rw [IntKind.wrap_i64];omega
      have b5:IntKind.i64.wrap (10 * (Seg.val (l.take i):Int)+((c.toNat - 48:Nat):Int))=10 * (Seg.val (l.take i):Int)+((c.toNat - 48:Nat):Int):=by rw [IntKind.wrap_i64];omega
      have b6:IntKind.i64.wrap ((i:Int)+1)=(i:Int)+1:=by rw [IntKind.wrap_i64];omega
      clear aaB hd' hcell'
      generalize c.toNat - 48=d at *
      go_wp2_with fail
      go_roundg (8 - (i+1))
      case measure=>omega
      case rel=>
       refine ⟨i+1,rfl,by omega,?_,rfl,by rw [Hd.out,hd],rfl⟩
       rw [Hn.out];rfl
     ·have hno:¬ (l.all Seg.lT=true∧Seg.val l<1048576):=fun hh=>hd (List.all_eq_true.1 hh.1 _ Hc.out)
      have Qh:=uQ (hN.out.trans (if_neg hno))
      have hd':=hd
      unfold Seg.lT at hd'
      rw [Bool.and_eq_true,decide_eq_true_eq,decide_eq_true_eq]at hd'
      clear hcell' hno Hn Hd
      by_cases b1:c.toNat<48
      ·clear hd'
       go_wp2
       go_ret2
       exact ⟨_,rfl,by rw [Qh.out];rfl,hB⟩
      ·have b2:57<c.toNat:=by omega
       clear hd'
       go_wp2
       go_ret2
       exact ⟨_,rfl,by rw [Qh.out];rfl,hB⟩
    ·obtain rfl:i=8:=by omega
     have hc8:((8:Nat):Int)=8:=rfl
     rw [hc8]
     clear hc8 hi
     have htk:=uQ (show l.take 8=l from List.take_of_length_le (by have:=Hlen.out;omega))
     have hN3:=uQ (show Seg.number s=if Seg.val l<1048576 then ((Seg.val l:Int),true) else (0,false) by
      have:=yS.out
      rw [htk.out]at this
      rw [hN.out];simp only [this,true_and])
     rw [htk.out]
     clear hcell' hi'
     obtain ⟨V,hV⟩:∃ V:Int,V=(Seg.val l:Int):=⟨_,rfl⟩
     have HV:=uQ hV
     rw [← hV]
     by_cases hv:1048576≤V
     ·have hvd:decide (1048576≤V)=true:=decide_eq_true hv
      have Hv:=uQ hv
      clear hv hV
      go_wp2
      go_ret2
      exact ⟨_,rfl,by rw [hN3.out,if_neg (by have:=Hv.out;have:=HV.out;omega)];rfl,hB⟩
     ·have hvd:decide (1048576≤V)=false:=decide_eq_false hv
      have Hv:=uQ hv
      clear hv hV
      go_wp2
      go_ret2
      exact ⟨_,rfl,by rw [hN3.out,if_pos (by have:=Hv.out;have:=HV.out;omega),← HV.out];rfl,hB⟩
  ·have Es:((s.extract 0 4).toList==[115,101,103,46])=false:=by rw [NI s];exact beq_false_of_ne h2
   have hN:=uQ (show Seg.number s=(0,false) by
    unfold Seg.number
    simp only [h2,false_and,and_false,if_false])
   go_enter Tryz.func73,Tryz.ntmps73
   go_wp2
   go_ret2
   exact ⟨_,rfl,by rw [hN.out];rfl,h⟩
 ·have hs:¬ ((s.size:Int)=12):=by omega
  have h1d:decide ((s.size:Int)=12)=false:=decide_eq_false hs
  have hN:=uQ (show Seg.number s=(0,false) by
    unfold Seg.number
    simp only [Array.length_toList,show ¬ s.data.size=12 from h1,false_and,if_false])
  go_enter Tryz.func73,Tryz.ntmps73
  go_wp2
  go_ret2
  exact ⟨_,rfl,by rw [hN.out];rfl,h⟩
end
end Go.Proofs.YtlimfgdbfadohaaGreatDoor
namespace Go.Seg
open Go.aB
structure Log where
 limit:Int
 l:List (Int×Int)
 on:Bool
 fresh:Int
def alive (M:aB):Int:=if (M.size ByteArray.empty).2=9 then 0 else (M.size ByteArray.empty).2
def found (M:aB) (l:List ByteArray):List (Int×Int):=l.filterMap fun s=>if (number s).2=true then some ((number s).1,(M.size s).1) else none
def fresh (M:aB) (limit:Int):Log:=⟨limit,found M M.list,false,0⟩
theorem ZF (M:aB) (l:List ByteArray) (s:ByteArray):found M (l++[s])=found M l++(if (number s).2=true then [((number s).1,(M.size s).1)] else []):=by
 unfold found
 rw [List.filterMap_append]
 congr 1
 by_cases h:(number s).2=true <;> simp [h]
theorem ZE (M:aB) (l:List ByteArray):(found M l).length≤l.length:=List.length_filterMap_le _ _
end Go.Seg
namespace Go.Proofs.YtlimfgdbfadohaaGreatDoor
open Go Go.Sl Go.aB Go.MapKept Go.RowKit
def dV (l:List (Int×Int)):List Value:=l.flatMap fun s=>[.int .i64 s.1,.int .i64 s.2]
abbrev lI (p m:Nat) (L:Seg.Log) (lv:Value):aC:=pt p (.cells #[ptr m,.int .i64 L.limit,lv,.bool L.on,.int .i64 L.fresh] 151 (0,0))
def y7 (p m:Nat) (L:Seg.Log) (lv:Value):List aC:=[lI p m L lv,aF 159 2 lv (dV L.l)]
def aS (p m:Nat) (L:Seg.Log):aC:=fun h=>∃ lv,stars (y7 p m L lv) h
theorem Q7:(Tryz.prog.info? 159).map (fun i=>(i.zero,i.size,i.bytes))=some (some (.agg #[.int .i64 0,.int .i64 0]),2,16):=by kernel_rfl
section
variable {w0 w:World}{F:List aC}{v bv dv x lv:Value}{q p m K:Nat}{L:Seg.Log}{M:aB}
theorem aS.open (h:Sat w0 w (aS p m L::F)):∃ lv,Sat w0 w (y7 p m L lv++F):=by
 obtain ⟨ha,x,hx,p,q,d,rfl,⟨lv,hp⟩,hq⟩:=h
 refine ⟨lv,ha,_,hx,?_⟩
 rw [pX]
 exact ⟨p,q,d,rfl,hp,hq⟩
theorem aS.shut (h:Sat w0 w (y7 p m L lv++F)):Sat w0 w (aS p m L::F):=
 h.join fun _ hx=>⟨lv,hx⟩
theorem kD (l:List (Int×Int)):(dV l).length=2 * l.length:=by
 unfold dV
 induction l with
 |nil=>rfl
 |cons a l ih=>rw [List.flatMap_cons,List.length_append,ih];simp;omega
theorem yK (l k:List (Int×Int)):dV (l++k)=dV l++dV k:=by unfold dV;rw [List.flatMap_append]
theorem XH (hM:M.Ok K) (h:Sat w0 w (aT m M::F)) :
  Calls Tryz.prog 71 #[ptr m] w (aI fun v w'=>v=errno (Seg.alive M)∧w=w'):=by
 have hs:=UC hM h ByteArray.empty
 have Dv:=uQ (show Seg.alive M=if (M.size ByteArray.empty).2=9 then 0 else (M.size ByteArray.empty).2 from rfl)
 generalize (M.size ByteArray.empty).2=e at *
 generalize (M.size ByteArray.empty).1=n at *
 by_cases he:e=9
 ·subst he
  go_enter Tryz.func71,Tryz.ntmps71
  go_wp2_with fail
  refine hs.mono ?_
  rintro e w1 ⟨v,rfl,rfl,rfl⟩
  clear hs
  go_wp2
  go_ret
  exact ⟨_,rfl,by rw [Dv.out];rfl,rfl⟩
 ·have hed:(e==9)=false:=beq_false_of_ne he
  have He:=uQ he
  clear he
  go_enter Tryz.func71,Tryz.ntmps71
  go_wp2_with fail
  refine hs.mono ?_
  rintro e w1 ⟨v,rfl,rfl,rfl⟩
  clear hs
  go_wp2
  go_ret
  exact ⟨_,rfl,by rw [Dv.out,if_neg He.out];rfl,rfl⟩
set_option maxRecDepth 20000 in
theorem acF (hM:M.Ok K) (limit:Int) (h:Sat w0 w (aT m M::F)) (ha:Seg.alive M=0) (h1:128≤limit) (h2:limit≤1048576) :
  Calls Tryz.prog 43 #[ptr m,.int .i64 limit] w (aI fun v w'=>∃ p,v = .tuple #[ptr p,errno 0]∧Sat w0 w' (aS p m (Seg.fresh M limit)::aT m M::F)):=by
 have hal:=XH hM h
 rw [ha]at hal
 have hd1:decide (limit<128)=false:=decide_eq_false oQ
 have hd2:decide (1048576<limit)=false:=decide_eq_false oQ
 obtain ⟨i,hi,hz0,hz1,hz2⟩:=info_parts Q7
 have hll:=uQ (show M.list.length≤500 by
  unfold aB.list
  split
  ·simp
  ·rw [List.length_map];exact hM.iO.len)
 clear h1 h2 ha
 go_enter Tryz.func43,Tryz.ntmps43
 go_wp2_with fail
 refine hal.mono ?_
 rintro e w1 ⟨v,rfl,rfl,rfl⟩
 clear hal
 have hB:=h.alloc (.cells #[ptr m,.int .i64 limit,.slice none 0 0,.bool false,.int .i64 0] 151)
 have hL:=Ry hM hB.aP
 go_wp2_with fail
 refine hL.mono ?_
 rintro e w2 ⟨v,rfl,hS,ba,bn,bc,rfl⟩
 have hlen:bn=M.list.length:=by
  obtain ⟨a',n',c',he,hl,_⟩:=Sat.rd hS
  cases he
  rw [afN,Nat.mul_one]at hl
  exact hl.symm
 clear hL hB
 subst hlen
 generalize w.heap.size=q at *
 go_wp2_with fail
 go_loopg [32] M.list.length (fun g iq wr=>∃ (i:Nat) (lv:Value),g=M.list.length - i∧i≤M.list.length∧iq = .int .i64 i∧Sat w0 wr (y7 q m ⟨limit,Seg.found M (M.list.take i),false,0⟩ lv++aF 9 1 (.slice ba M.list.length bc) (strs M.list)::aT m M::F))
 case atStart=>exact ⟨0,.slice none 0 0,rfl,Nat.zero_le _,rfl,by
  have:=Sat.fM (T:=159) (sz:=2) |>.2 hS
  exact this.sel 4 [3,0,1,2] rfl rfl⟩
 case round=>
  obtain ⟨j,lv,rfl,hj,rfl,hR⟩:=hrel
  clear hS
  by_cases hj':j<M.list.length
  ·have hx:M.list[j]?=some (M.list[j]'hj'):=List.getElem?_eq_getElem hj'
   have hcx:=Sat.rd (hR.sel 3 [2] rfl rfl)
   obtain ⟨bk,off,hba,c1⟩:=zQ hcx (afL hx)
   have pF:=uQ (show Seg.found M (M.list.take (j+1))=Seg.found M (M.list.take j)++(if (Seg.number M.list[j]).2=true then [((Seg.number M.list[j]).1,(M.size M.list[j]).1)] else []) by
    rw [List.take_succ_eq_append_getElem hj',Seg.ZF])
   have hnum:=afr M.list[j] hR
   have Ak:=uQ (Seg.ZE M (M.list.take j))
   generalize M.list[j]=s at *
   have hic:(j:Int)<(M.list.length:Int):=by omega
   have hjl:=uQ hj'
   clear hx hcx hj'
   subst hba
   go_wp2_with fail
   refine hnum.mono ?_
   rintro e w3 ⟨v,rfl,rfl,Eu⟩
   clear hnum
   have hwi:IntKind.i64.wrap ((j:Int)+1)=(j:Int)+1:=IntWalk.i64_in _ (by have:=hll.out;have:=hjl.out;omega)
   cases hb:(Seg.number s).2
   ·have Hb:=uQ hb
    clear hb
    go_wp2
    go_roundg (M.list.length - (j+1))
    case measure=>have:=hjl.out;omega
    case rel=>
     refine ⟨j+1,lv,rfl,Nat.succ_le_of_lt hjl.out,by first|rfl|go_num,?_⟩
     rw [pF.out,Hb.out,if_neg aJ,List.append_nil]
     exact Eu
   ·have Hb:=uQ hb
    clear hb
    have hsz:=UC hM (Eu.sel 4 [3,0,1,2] rfl rfl) s
    go_wp2_with fail
    refine hsz.mono ?_
    rintro e w4 ⟨v,rfl,rfl,rfl⟩
    clear hsz
    have c2:=Eu.cellAt 2 _ rfl
    generalize (M.size s).1=sz at *
    generalize (M.size s).2=se at *
    generalize (Seg.number s).1=nu at *
    have h7:=Eu.alloc (.cells #[.int .i64 nu,.int .i64 sz] 159)
    have hoc:∀ u∈(#[.int .i64 nu,.int .i64 sz]:Array Value).toList,u.oneCell'=true:=by
     intro u hu
     simp only [List.mem_cons,List.not_mem_nil,or_false]at hu
     rcases hu with rfl|rfl <;> rfl
    have hlen:(dV (Seg.found M (M.list.take j))).length≤2 * 500:=by
     rw [kD];have:=Ak.out;have:=hll.out;rw [List.length_take]at *;omega
    have h63:(dV (Seg.found M (M.list.take j))).length+2≤maxLen:=by unfold maxLen;omega
    have hby:((dV (Seg.found M (M.list.take j))).length+2) * i.bytes≤140737488355328:=by rw [hz2];omega
    have h8:Sat w0 _ (aF 159 2 lv (dV (Seg.found M (M.list.take j)))::lI q m ⟨limit,Seg.found M (M.list.take j),false,0⟩ lv::aF 9 1 (.slice (some ⟨bk,off,none⟩) M.list.length bc) (strs M.list)::aT m M::F):=h7.sel 5 [2,1,3,4] rfl rfl
    clear hlen
    go_wp2_with (at_builtin;go_must (refine yN (w0:=w0) ah _ _ _ ah _ i _ Tryz.underlying149 hi hz0 hz1 ah oQ ah ah hoc h8 (yE _ _ _ 2 1 1 ah) h63 hby ?_);intro v2 w5 hS5 hne;obtain ⟨ab,an,ac,rfl⟩:=hne (by simp);have e2:=hS5.aP.cellAt 2 _ rfl;have g2:=hS5.aP.nY 2)
    have hS6:=hS5.aP.set 2 (.slice (some ⟨ab,0,none⟩) an ac)
    generalize w5.setCell _ _=w6 at *
    go_roundg (M.list.length - (j+1))
    case measure=>have:=hjl.out;omega
    case rel=>
     refine ⟨j+1,.slice (some ⟨ab,0,none⟩) an ac,rfl,Nat.succ_le_of_lt hjl.out,by first|rfl|go_num,?_⟩
     rw [pF.out,Hb.out,if_pos rfl]
     unfold y7
     rw [yK]
     exact hS6
  ·obtain rfl:j=M.list.length:=by omega
   have hic:¬ (M.list.length:Int)<(M.list.length:Int):=by omega
   rw [List.take_length]at hR
   clear hj hj'
   go_wp2
   go_ret2
   refine ⟨_,rfl,q,rfl,?_⟩
   exact aS.shut (hR.sel 4 [0,1,3] rfl rfl)
end
section
variable {P:Program}{w0 w:World}{R:List aC}{v x:Value}{xs ys:List Value}
theorem aee (t ty e:TypeId) (i:TypeInfo) (z:Value) (ht:P.underlying t=some (.slice e)) (hi:P.info? e=some i) (hz:i.zero=some z)
  (hs:i.size=1) (hzs:z.cells.size=1) (b n cap:Nat) (hl:xs.length=n) (hcap:cap≤n) (hold:bK 1 (.slice (some ⟨b,0,none⟩) n cap) xs w)
  (h:Sat w0 w R) (hx:bK 1 x ys w) (hy0:ys≠[]) (h63:xs.length+ys.length≤maxLen) (hby:(xs.length+ys.length) * i.bytes≤140737488355328) :
  ∃ b' n' c' w',(Builtin.append_ #[t,t] ty #[.slice (some ⟨b,0,none⟩) n cap,x]).run P w = .ok (.slice (some ⟨b',0,none⟩) n' c') w'∧Sat w0 w' (aF e 1 (.slice (some ⟨b',0,none⟩) n' c') (xs++ys)::R):=by
 obtain ⟨xa,m,c,rfl,hyl,BZ⟩:=hx
 obtain ⟨b1,n1,c1,he1,hol,hoc⟩:=hold
 cases he1
 rw [Nat.mul_one]at hyl
 have hm:0<m:=by
  rw [← hyl]
  exact List.length_pos_iff.2 hy0
 obtain ⟨ad,rfl⟩:∃ ad,xa=some ad:=by
  obtain ⟨y,hy⟩:∃ y,ys[0]?=some y:=by
   cases ys with
   |nil=>exact absurd rfl hy0
   |cons y _=>exact ⟨y,rfl⟩
  obtain ⟨b,hb,_⟩:=BZ 0 y hy
  exact ⟨b,hb⟩
 have hnews:∀ j u,ys[j]?=some u→w.cell? (ad.add j)=some u:=fun j u hj=>by
  obtain ⟨b,hb,hx⟩:=BZ j u hj
  cases hb;exact hx
 have holds:∀ j u,xs[j]?=some u→w.cell? ((⟨b,0,none⟩:Addr).add j)=some u:=fun j u hj=>by
  obtain ⟨b',hb,hx⟩:=hoc j u hj
  cases hb;exact hx
 have h63':maxLen=9223372036854775807:=rfl
 have hr:=run_append_grow (P:=P) w t ty e i z ht hi hz ⟨b,0,none⟩ n cap xs (by rw [hs];omega) holds ad m c ys (by rw [hs];omega) hnews oQ oQ (growslice_fits oQ (by rw [← hl,← hyl];exact hby))
 refine ⟨_,_,_,_,hr,?_⟩
 have hge:=grownCap_ge w (n+m) cap e
 have hcm:=grownCap_le_maxLen w (n+m) cap e oQ
 have:=(h.drew).alloc (.cells (xs.toArray++ys.toArray++Builtin.zeroCells z.cells (grownCap w (n+m) cap e - (n+m))) e)
 refine Sat.jV this ?_ hge ?_ hcm ?_
 ·rw [List.length_append,hl,hyl,Nat.mul_one]
 ·simp only [Array.size_append,List.size_toArray,size_zeroCells,hzs]
  omega
 ·simp only [Array.toList_append,List.append_assoc]
  rw [← List.append_assoc]
  have e1:(n+m) * 1=(xs++ys).length:=by rw [List.length_append,hl,hyl,Nat.mul_one]
  rw [e1]
  exact List.take_left
theorem afH {ops:Array Oper}{o:Oper}{a:Act}{K:Act→World→Prop}{Q:Exit→Act→World→Prop}{E:Prop} (hgd:o.guard=none) (s y:Operand) (t:TypeId)
  (ho:o.op = .call { callee:= .builtin .append,args:=#[s,y],argTypes:=#[t,t] })
  (e:TypeId) (i:TypeInfo) (z:Value) (ht:P.underlying t=some (.slice e)) (hi:P.info? e=some i) (hz:i.zero=some z)
  (hs:i.size=1) (hzs:z.cells.size=1) {b n cap:Nat} (hl:xs.length=n) (hcap:cap≤n) (hold:bK 1 (.slice (some ⟨b,0,none⟩) n cap) xs w)
  (h:Sat w0 w R) (hv:a.eval s = .slice (some ⟨b,0,none⟩) n cap) (hxv:a.eval y=x) (hx:bK 1 x ys w) (hy0:ys≠[]) (h63:xs.length+ys.length≤maxLen) (hby:(xs.length+ys.length) * i.bytes≤140737488355328)
  (hK:∀ b' n' c' w',Sat w0 w' (aF e 1 (.slice (some ⟨b',0,none⟩) n' c') (xs++ys)::R)→K (a.put o.dst (.slice (some ⟨b',0,none⟩) n' c')) w') :
  if Region.wanted o (yielded ops a.tmps)=true then Oper.wp P o a w K Q else E:=by
 have hw:Region.wanted o (yielded ops a.tmps)=true:=by simp [Region.wanted,hgd]
 rw [if_pos hw]
 obtain ⟨b',n',c',w',hr,h2⟩:=aee (P:=P) t o.type e i z ht hi hz hs hzs b n cap hl hcap hold h hx hy0 h63 hby
 unfold Oper.wp execOp
 simp only [ho,resolve,invoke,builtin,Sem.run_bind,Sem.run_pure,Result.andThen_ok,List.map_toArray,List.map_cons,List.map_nil,hv,hxv,hr]
 exact hK _ _ _ w' h2
end
section
variable {w0 w:World}{F:List aC}{v bv dv x lv:Value}{q p m K:Nat}{L:Seg.Log}{M:aB}
theorem sN (h:Sat w0 w (lI p m L lv::F)) :
  Calls Tryz.prog 96 #[ptr p] w (aI fun v w'=>v = .bool true∧w=w'):=by
 have c0:=h.cellAt 0 _ rfl
 go_enter Tryz.func96,Tryz.ntmps96
 go_wp2
 go_ret
 exact ⟨_,rfl,rfl,rfl⟩
theorem acg (hl:L.l=[]) (h:Sat w0 w (lI p m L lv::aF 159 2 lv (dV L.l)::F)) :
  Calls Tryz.prog 179 #[ptr p] w (aI fun v w'=>v = .int .i64 0∧w=w'):=by
 have hok:=sN h
 have c2:=h.cellAt 2 _ rfl
 have hlv:∃ a c,lv = .slice a 0 c:=by
  obtain ⟨a,n,c,rfl,hn,_⟩:=Sat.rd h.aP
  refine ⟨a,c,?_⟩
  rw [hl]at hn
  have:n=0:=by simp [dV]at hn;omega
  rw [this]
 obtain ⟨la,lc,rfl⟩:=hlv
 go_enter Tryz.func179,Tryz.ntmps179
 go_wp2_with (go_at_call 96;refine hok.mono ?_;rintro e w1 ⟨v,rfl,rfl,rfl⟩)
 go_ret
 exact ⟨_,rfl,rfl,rfl⟩
theorem afe (hon:L.on=false) (h:Sat w0 w (lI p m L lv::F)) :
  Calls Tryz.prog 178 #[ptr p] w (aI fun v w'=>v=errno 0∧w=w'):=by
 have c3:=h.cellAt 3 _ rfl
 rw [hon]at c3
 go_enter Tryz.func178,Tryz.ntmps178
 go_wp2
 go_ret
 exact ⟨_,rfl,rfl,rfl⟩
end
section
variable {P:Program}{w0 w:World}{R:List aC}{b:Nat}
def eG (cs:Array Value):Nat→List Value→Array Value
 |_,[]=>cs
 |o,v::r=>eG (cs.setIfInBounds o v) (o+1) r
theorem kZ:∀ (vs:List Value) (cs:Array Value) (o:Nat),(eG cs o vs).size=cs.size
 |[],_,_=>rfl
 |v::r,cs,o=>by rw [eG,kZ r,Array.size_setIfInBounds]
theorem Sat.sets:∀ (vs:List Value){cs:Array Value}{T:TypeId}{w:World} (o:Nat),Sat w0 w (pt b (.cells cs T (0,0))::R)→Sat w0 (w.setCells b o vs) (pt b (.cells (eG cs o vs) T (0,0))::R)
 |[],_,_,_,_,h=>h
 |v::r,_,_,_,o,h=>Sat.sets r (o+1) (h.set o v)
theorem Dq {ops:Array Oper}{rest:List Oper}{op:Oper}{a:Act}{Q:Exit→Act→World→Prop}{cs:Array Value}{T:TypeId} (hgd:op.guard=none) (ty:TypeId) (x y:Operand) (ho:op.op = .store ty x y)
  (o:Nat) (v:Value) (hx:a.eval x = .pointer (some ⟨b,o,none⟩)) (hy:a.eval y=v) (hfit:o+v.cells.size≤cs.size)
  (hi:(P.info? ty).map (·.size)=some v.cells.size) (h1:v.cells.all (·.oneCell')=true) (h:Sat w0 w (pt b (.cells cs T (0,0))::R))
  (hK:∀ w',Sat w0 w' (pt b (.cells (eG cs o v.cells.toList) T (0,0))::R)→wpList P ops Q rest (a.put op.dst undef) w'):wpList P ops Q (op::rest) a w:=by
 have hth:w.there b o v.cells.size:=by
  intro j hj
  refine ⟨?_,h.nY _⟩
  rw [h.cellAt (o+j) _ (Array.getElem?_eq_getElem (show o+j<cs.size by omega))]
  rfl
 refine wpList_plain hgd fun _ hK'=>?_
 have hst:=run_storeCells_cells (P:=P) b o v.cells.toList 0 w (fun j hj=>by simpa using (hth j (by simpa using hj)).1) (fun j hj=>by simpa using (hth j (by simpa using hj)).2)
  (fun u hu=>(Array.all_eq_true_iff_forall_mem.1 h1) u (by simpa using hu))
 have hrun:(storeVar ty ⟨b,o,none⟩ v).run P w = .ok () (w.setCells b o v.cells.toList):=by
  cases hq:P.info? ty with
  |none=>simp [hq]at hi
  |some i=>
   have hs:v.cells.size=i.size:=by simp [hq]at hi;omega
   simp only [Nat.add_zero]at hst
   simp [storeVar,sizeOf,typeInfo,hq,hs,hst]
 unfold Oper.wp execOp
 simp only [ho,hx,hy,Instr.storeAt,Instr.sureAddr,Sem.run_bind,Sem.run_pure,Result.andThen_ok,hrun]
 exact hK' _ _ (hK _ (Sat.sets _ _ h))
structure Stop (p:Prop):Prop where
 out:p
theorem agX {ops:Array Oper}{rest:List Oper}{op:Oper}{a:Act}{Q:Exit→Act→World→Prop}{ty:TypeId}{x y:Operand} (ho:op.op = .store ty x y)
  (h:Stop (wpList P ops Q (op::rest) a w)):wpList P ops Q (op::rest) a w:=h.out
end
end Go.Proofs.YtlimfgdbfadohaaGreatDoor
namespace Go.Sl
open Go
def Pick (A:aC) (L R:List aC):Prop:=L.Perm (A::R)
def mW (A B:aC) (L L':List aC):Prop:=∃ R,L.Perm (A::R)∧L'.Perm (B::R)
def Sub (L M:List aC):Prop:=∃ X,L.Perm (M++X)
section
variable {A B A1 A2 A3 A4 A5 A6 A7 A8 A9 A10 A11 A12:aC}{L M R L':List aC}{w0 w:World}
theorem aO (h:Pick A L R):Pick A (B::L) (B::R):=(h.cons B).trans (List.Perm.swap _ _ _)
theorem aH:Pick A (A::R) R:=List.Perm.refl _
theorem aP:Pick A (A1::A::R) (A1::R):=aO aH
theorem dM:Pick A (A1::A2::A::R) (A1::A2::R):=aO aP
theorem iy:Pick A (A1::A2::A3::A::R) (A1::A2::A3::R):=aO dM
theorem ny:Pick A (A1::A2::A3::A4::A::R) (A1::A2::A3::A4::R):=aO iy
theorem EX:Pick A (A1::A2::A3::A4::A5::A::R) (A1::A2::A3::A4::A5::R):=aO ny
theorem J8:Pick A (A1::A2::A3::A4::A5::A6::A::R) (A1::A2::A3::A4::A5::A6::R):=aO EX
theorem EY:Pick A (A1::A2::A3::A4::A5::A6::A7::A::R) (A1::A2::A3::A4::A5::A6::A7::R):=aO J8
theorem acR:Pick A (A1::A2::A3::A4::A5::A6::A7::A8::A::R) (A1::A2::A3::A4::A5::A6::A7::A8::R):=aO EY
theorem fD (h:mW A B L L'):mW A B (A1::L) (A1::L'):=by
 obtain ⟨R,h1,h2⟩:=h
 exact ⟨A1::R,(h1.cons A1).trans (List.Perm.swap _ _ _),(h2.cons A1).trans (List.Perm.swap _ _ _)⟩
theorem bJ:mW A B (A::R) (B::R):=⟨R,List.Perm.refl _,List.Perm.refl _⟩
theorem agC:mW A B (A1::A::R) (A1::B::R):=fD bJ
theorem agD:mW A B (A1::A2::A::R) (A1::A2::B::R):=fD agC
theorem wV:Sub L L:=⟨[],by simp⟩
theorem UN:Sub (A::L) L:=⟨[A],by simpa using (List.perm_append_comm (l₁:=[A]) (l₂:=L))⟩
theorem jv (h:Sub L M):Sub (A::L) M:=by
 obtain ⟨X,h⟩:=h
 exact ⟨A::X,(h.cons A).trans List.perm_middle.symm⟩
theorem Ld (p:Pick A L R) (h:Sub R M):Sub L (A::M):=by
 obtain ⟨X,h⟩:=h
 exact ⟨X,p.trans (h.cons A)⟩
theorem Sat.pick (h:Sat w0 w L) (p:Pick A L R):Sat w0 w (A::R):=h.perm p
theorem Sat.sub (h:Sat w0 w L) (p:Sub L M):Sat w0 w M:=by
 obtain ⟨X,h2⟩:=p
 exact (h.perm h2).OH
theorem Ro.J5 {A:aC}{p:World→Prop} (h:Ro w0 (A::R) p) (k:Pick A L R):Ro w0 L p:=fun w hw=>h w (hw.pick k)
theorem Ro.of_sub {p:World→Prop} (h:Ro w0 M p) (k:Sub L M):Ro w0 L p:=fun w hw=>h w (hw.sub k)
theorem Sat.cellP {b:Nat}{cs:Array Value}{T:TypeId} (h:Sat w0 w L) (p:Pick (pt b (.cells cs T (0,0))) L R) (i:Nat){v:Value} (hv:cs[i]?=some v):w.cell? ⟨b,i,none⟩=some v:=(h.pick p).cellAt i v hv
end
end Go.Sl
namespace Go.Proofs.YtlimfgdbfadohaaGreatDoor
open Go Go.Sl Go.aB Go.MapKept Go.RowKit
section
variable {P:Program}{w0 w:World}{L L' R:List aC}{b:Nat}{ops:Array Oper}{rest:List Oper}{a:Act}{Q:Exit→Act→World→Prop}
variable {dst:Option Tmp}{t ty T:TypeId}{pos:String}{after:Array Edge}{x y:Operand}{cs:Array Value}{v:Value}{o:Nat}
def wP (P:Program) (ty:TypeId):Bool:=match P.underlying ty with
 |some d => !d.isRow
 |none=>false
theorem aez (h1:wP P ty=true) (hc:w.cell? ⟨b,o,none⟩=some v):(loadVar ty ⟨b,o,none⟩).run P w = .ok v w:=by
 unfold wP at h1
 cases hu:P.underlying ty with
 |none=>rw [hu]at h1;cases h1
 |some d=>
  rw [hu]at h1
  have hagg:(isAgg ty).run P w = .ok false w:=by
   unfold isAgg
   rw [Sem.run_bind,run_underlying hu w]
   cases d <;> simp_all [TypeDesc.isRow]
  simp [loadVar,Sem.run_bind,hagg]
  rw [hc]
theorem Uf {ad:Addr} (h1:wP P ty=true) (hc:w.cell? ad=some v):(loadVar ty ad).run P w = .ok v w:=by
 unfold wP at h1
 cases hu:P.underlying ty with
 |none=>rw [hu]at h1;cases h1
 |some d=>
  rw [hu]at h1
  have hagg:(isAgg ty).run P w = .ok false w:=by
   unfold isAgg
   rw [Sem.run_bind,run_underlying hu w]
   cases d <;> simp_all [TypeDesc.isRow]
  simp [loadVar,Sem.run_bind,hagg]
  rw [hc]
theorem O6 (a:Act) (after:Array Edge) (g:Option (Nat×Bool)):execOp a.eval ⟨dst,.call { callee:= .builtin .len,args:=#[x],argTypes:=#[ty] },t,pos,after,g⟩=(do pure (.value (← Builtin.len_ #[ty] t #[a.eval x]))):=by
 rw [BigFrame.execOp_builtin,BigFrame.builtin_len];simp
theorem ZP {i:Nat} (hlt:i+1≤cs.size) (hv:cs.getD i undef=v):cs[i]?=some v:=by
 rw [← hv,Array.getD_eq_getD_getElem?,Array.getElem?_eq_getElem (show i<cs.size by omega)];rfl
theorem gK (hs:Sat w0 w L) (hx:a.eval x = .pointer (some ⟨b,o,none⟩)) (p:Pick (pt b (.cells cs T (0,0))) L R) (hlt:o+1≤cs.size) (hv:cs.getD o undef=v) (h1:wP P ty=true)
  (h:wpList P ops Q rest (a.put dst v) w):wpList P ops Q (⟨dst,.load ty x,t,pos,after,none⟩::rest) a w:=
 wpList_plain rfl fun _ hK=>by
  unfold Oper.wp execOp
  simp only [hx,Instr.loadAt,Instr.sureAddr,Sem.run_bind,Sem.run_pure,Result.andThen_ok,aez h1 (hs.cellP p o (ZP hlt hv))]
  exact hK _ _ h
theorem Vo (ks:List Value) (hs:Sat w0 w L) (hx:a.eval x = .pointer (some ⟨b,o,none⟩)) (p:Pick (pt b (.cells cs T (0,0))) L R) (hv:∀ j v,ks[j]?=some v→cs[o+j]?=some v)
  {d:TypeDesc} (hu:P.underlying ty=some d) (hd:d.isRow=true) (hi:(P.info? ty).map (·.size)=some ks.length)
  (h:wpList P ops Q rest (a.put dst (.agg ks.toArray)) w):wpList P ops Q (⟨dst,.load ty x,t,pos,after,none⟩::rest) a w:=
 wpList_load_mid rfl ty x rfl b o hx ks d (fun j v hj=>hs.cellP p (o+j) (hv j v hj)) hu hd hi h
theorem fB (hs:Sat w0 w L) (hx:a.eval x = .pointer (some ⟨b,0,none⟩)) (p:Pick (pt b (.cells cs T (0,0))) L R){d:TypeDesc} (hu:P.underlying ty=some d) (hd:d.isRow=true) (hi:(P.info? ty).map (·.size)=some cs.size)
  (h:wpList P ops Q rest (a.put dst (.agg cs)) w):wpList P ops Q (⟨dst,.load ty x,t,pos,after,none⟩::rest) a w:=by
 refine wpList_load_row rfl ty x rfl b hx T cs (0,0) d (hs.pick p).at hu ?_ hi h
 cases d <;> simp_all [TypeDesc.isRow]
theorem eX (hs:Sat w0 w L) (hx:a.eval x = .pointer (some ⟨b,o,none⟩)) (hy:a.eval y=v){cs':Array Value} (hcs:eG cs o v.cells.toList=cs') (u:mW (pt b (.cells cs T (0,0))) (pt b (.cells cs' T (0,0))) L L') (hfit:o+v.cells.size≤cs.size)
  (hi:(P.info? ty).map (·.size)=some v.cells.size) (h1:v.cells.toList.all (·.oneCell')=true)
  (hK:∀ w',Sat w0 w' L'→wpList P ops Q rest (a.put dst undef) w'):wpList P ops Q (⟨dst,.store ty x y,t,pos,after,none⟩::rest) a w:=by
 subst hcs
 obtain ⟨R',h2,h3⟩:=u
 exact Dq rfl ty x y rfl o v hx hy hfit hi (by rw [← Array.all_toList];exact h1) (hs.perm h2) fun w' hS=>hK w' (hS.perm h3.symm)
theorem fO (hs:Sat w0 w L) (hy:a.eval y=v) (hcs:v.cells=cs)
  (hK:∀ b w',Sat w0 w' (pt b (.cells cs ty (0,0))::L)→wpList P ops Q rest (a.put dst (.pointer (some ⟨b,0,none⟩))) w'):wpList P ops Q (⟨dst,.box ty y,t,pos,after,none⟩::rest) a w:=by
 subst hcs
 refine wpList_plain rfl fun _ hK'=>?_
 have hS:=hs.alloc (.cells v.cells ty)
 unfold Oper.wp execOp
 have hrun:(Instr.box ty v).run P w = .ok (.pointer (some ⟨w.heap.size,0,none⟩)) (w.alloc (.cells v.cells ty)):=by
  simp [Instr.box,newVar,newRow,go_sem]
 simp only [hy,Sem.run_bind,Sem.run_pure,hrun,Result.andThen_ok]
 exact hK' _ _ (hK _ _ hS)
def iH (P:Program) (ty:TypeId):Option Value:=(P.info? ty).bind (·.zero)
theorem Fq (hz:iH P ty=some v) (w:World):(zeroValue ty).run P w = .ok v w:=by
 unfold iH at hz
 cases hq:P.info? ty with
 |none=>simp [hq]at hz
 |some i=>
  rw [hq]at hz
  have hz':i.zero=some v:=hz
  simp [zeroValue,typeInfo,hq,hz']
theorem dS (hz:iH P ty=some v) (hs:Sat w0 w L) (hcs:v.cells=cs)
  (hK:∀ b w',Sat w0 w' (pt b (.cells cs ty (0,0))::L)→wpList P ops Q rest (a.put dst (.pointer (some ⟨b,0,none⟩))) w'):wpList P ops Q (⟨dst,.alloc ty,t,pos,after,none⟩::rest) a w:=by
 subst hcs
 refine wpList_plain rfl fun _ hK'=>?_
 have hS:=hs.alloc (.cells v.cells ty)
 unfold Oper.wp execOp
 have hrun:(Instr.alloc ty true (.tuple #[])).run P w = .ok (.pointer (some ⟨w.heap.size,0,none⟩)) (w.alloc (.cells v.cells ty)):=by
  simp [Instr.alloc,Fq hz w,newVar,newRow,go_sem,Result.andThen]
 simp only [Sem.run_bind,Sem.run_pure,hrun,Result.andThen_ok]
 exact hK' _ _ (hK _ _ hS)
theorem kC {fn:Func}{p u:Tmp}{tmps:Array Value}{d:TypeDesc} (hf:fn.results=#[.cell p ty,.tmp u]) (hs:Sat w0 w L) (hp:tmps.getD p undef = .pointer (some ⟨b,0,none⟩)) (k:Pick (pt b (.cells cs T (0,0))) L R)
  (hu:P.underlying ty=some d) (hd:d.isRow=true) (hi:(P.info? ty).map (·.size)=some cs.size) :
  (results fn tmps).run P w = .ok (.tuple #[.agg cs,tmps.getD u undef]) w:=by
 rw [results_cell_tmp hf tmps P w,hp]
 have hl:=run_loadVar_row (P:=P) w b T ty cs (0,0) d (hs.pick k).at hu (by cases d <;> simp_all [TypeDesc.isRow]) hi
 simp [asAddr,hl,Result.andThen]
theorem aS.shut2 {p m:Nat}{L:Seg.Log}{lv:Value}{F:List aC} (h:Sat w0 w (lI p m L lv::aF 159 2 lv (dV L.l)::F)):Sat w0 w (aS p m L::F):=aS.shut h
theorem aS.qH {p m:Nat}{L:Seg.Log}{F:List aC} (h:Sat w0 w (aS p m L::F)):∃ lv,Sat w0 w (lI p m L lv::aF 159 2 lv (dV L.l)::F):=aS.open h
theorem lW:∀ (ys:List Value) (cs:Array Value) (o:Nat),o+ys.length≤cs.size→(eG cs o ys).toList=cs.toList.take o++ys++cs.toList.drop (o+ys.length)
 |[],cs,o,h=>by simp [eG]
 |y::ys,cs,o,h=>by
  simp only [List.length_cons]at h
  rw [eG,lW ys _ (o+1) (by rw [Array.size_setIfInBounds];omega),Array.toList_setIfInBounds]
  have hlt:o<cs.toList.length:=by simp;omega
  rw [List.set_eq_take_append_cons_drop,if_pos hlt]
  have h1:(cs.toList.take o).length=o:=by rw [List.length_take];omega
  rw [List.take_append,h1,List.take_of_length_le oQ,show o+1 - o=1 by omega,List.take_succ_cons,List.take_zero]
  rw [List.drop_append,h1,List.drop_of_length_le (l:=cs.toList.take o) oQ,List.nil_append,show o+1+ys.length - o=ys.length+1 by omega,List.drop_succ_cons,List.drop_drop]
  simp only [List.length_cons,List.append_assoc,List.cons_append,List.nil_append]
  rw [show o+1+ys.length=o+(ys.length+1) by omega]
theorem bI (h:Stop (wpList P ops Q (⟨dst,.load ty x,t,pos,after,none⟩::rest) a w)):wpList P ops Q (⟨dst,.load ty x,t,pos,after,none⟩::rest) a w:=h.out
theorem bU (h:Stop (wpList P ops Q (⟨dst,.store ty x y,t,pos,after,none⟩::rest) a w)):wpList P ops Q (⟨dst,.store ty x y,t,pos,after,none⟩::rest) a w:=h.out
theorem fH (h:Stop (wpList P ops Q (⟨dst,.box ty y,t,pos,after,none⟩::rest) a w)):wpList P ops Q (⟨dst,.box ty y,t,pos,after,none⟩::rest) a w:=h.out
theorem dY (h:Stop (wpList P ops Q (⟨dst,.alloc ty,t,pos,after,none⟩::rest) a w)):wpList P ops Q (⟨dst,.alloc ty,t,pos,after,none⟩::rest) a w:=h.out
theorem kU {ix:Nat}{k:Nat} (h:Stop (wpList P ops Q (⟨dst,.buildSlice ty k #[(ix,x)],t,pos,after,none⟩::rest) a w)):wpList P ops Q (⟨dst,.buildSlice ty k #[(ix,x)],t,pos,after,none⟩::rest) a w:=h.out
theorem jf {s z:Operand}{ta tb:TypeId} (h:Stop (wpList P ops Q (⟨dst,.call { callee:= .builtin .append,args:=#[s,z],argTypes:=#[ta,tb] },t,pos,after,none⟩::rest) a w)):wpList P ops Q (⟨dst,.call { callee:= .builtin .append,args:=#[s,z],argTypes:=#[ta,tb] },t,pos,after,none⟩::rest) a w:=h.out
section
variable {vx vy:Value}{ad:Addr}{fl:Nat}{bo:BinOp}{uo:UnOp}{tz:TypeId}{G:World→Prop}
theorem kR (o:Oper) (h:o.guard=none):Region.wanted o (yielded ops a.tmps)=true:=by simp [Region.wanted,h]
theorem ag9 (hx:a.eval x=v):Yields P ops ⟨dst,.move x,t,pos,after,none⟩ v a:=
 .inl ⟨kR _ rfl,fun w=>by simp only [execOp,hx];rfl⟩
theorem ag6 (hx:a.eval x=v):Yields P ops ⟨dst,.assign x,t,pos,after,none⟩ v a:=
 .inl ⟨kR _ rfl,fun w=>by simp only [execOp,hx];rfl⟩
theorem aha (hx:a.eval x = .pointer (some ad)):Yields P ops ⟨dst,.nilCheck x,t,pos,after,none⟩ (.pointer (some ad)) a:=
 .inl ⟨kR _ rfl,fun w=>by simp only [execOp,hx];rfl⟩
theorem ag7 (hx:a.eval x=vx) (hr:∀ w,(Instr.fieldAt ty vx fl).run P w = .ok v w):Yields P ops ⟨dst,.fieldAddr ty x fl,t,pos,after,none⟩ v a:=
 .inl ⟨kR _ rfl,fun w=>by simp only [execOp,hx,Sem.run_bind,hr,Result.andThen_ok,Sem.run_pure]⟩
theorem ag8 (hx:a.eval x=vx) (hy:a.eval y=vy) (hr:∀ w,(Instr.indexAt ty vx vy).run P w = .ok v w):Yields P ops ⟨dst,.indexAddr ty x y,t,pos,after,none⟩ v a:=
 .inl ⟨kR _ rfl,fun w=>by simp only [execOp,hx,hy,Sem.run_bind,hr,Result.andThen_ok,Sem.run_pure]⟩
theorem VD (hx:a.eval x=vx) (hy:a.eval y=vy) (hr:∀ w,((do eqGuard bo ty x y vx vy;binOp bo ty vx vy):Sem Value).run P w = .ok v w):Yields P ops ⟨dst,.binOp bo ty x y tz,t,pos,after,none⟩ v a:=
 .inl ⟨kR _ rfl,fun w=>by simp only [execOp,hx,hy,Sem.run_bind (x:=(do eqGuard bo ty x y vx vy;binOp bo ty vx vy)),hr,Result.andThen_ok,Sem.run_pure]⟩
theorem ahc (hx:a.eval x=vx) (hr:∀ w,(Op.unary uo vx).run P w = .ok v w):Yields P ops ⟨dst,.unOp uo ty x,t,pos,after,none⟩ v a:=
 .inl ⟨kR _ rfl,fun w=>by simp only [execOp,hx,Sem.run_bind,hr,Result.andThen_ok,Sem.run_pure]⟩
theorem VE (hx:a.eval x=vx) (hr:∀ w,(convert ty tz vx).run P w = .ok v w):Yields P ops ⟨dst,.convert ty tz x,t,pos,after,none⟩ v a:=
 .inl ⟨kR _ rfl,fun w=>by simp only [execOp,hx,Sem.run_bind,hr,Result.andThen_ok,Sem.run_pure]⟩
theorem fC (hx:a.eval x=vx) (hr:∀ w,(Instr.extract vx fl).run P w = .ok v w):Yields P ops ⟨dst,.extract x fl,t,pos,after,none⟩ v a:=
 .inl ⟨kR _ rfl,fun w=>by simp only [execOp,hx,Sem.run_bind,hr,Result.andThen_ok,Sem.run_pure]⟩
theorem nG (hx:a.eval x=vx) (hr:∀ w,(Builtin.len_ #[ty] t #[vx]).run P w = .ok v w):Yields P ops ⟨dst,.call { callee:= .builtin .len,args:=#[x],argTypes:=#[ty] },t,pos,after,none⟩ v a:=
 .inl ⟨kR _ rfl,fun w=>by
  rw [O6,hx]
  simp only [Sem.run_bind,hr,Result.andThen_ok,Sem.run_pure]⟩
theorem uK (hx:a.eval x = .pointer (some ad)) (h1:wP P ty=true) (hG:∀ w,G w→w.cell? ad=some v):YieldsIf P ops G ⟨dst,.load ty x,t,pos,after,none⟩ v a:=
 .inl ⟨kR _ rfl,fun w hw=>by
  obtain ⟨b,o,el⟩:=ad
  have hc:=hG w hw
  simp only [execOp,hx,Instr.loadAt,Instr.sureAddr,Sem.run_bind,Sem.run_pure,Result.andThen_ok,Uf h1 hc]⟩
def goB (P:Program) (f:FuncId):Bool:=match P.funcs[f]? with
 |some fn => !(fn.name == "runtime.NumGoroutine") && fn.body.isSome
 |none=>false
theorem aew {f:FuncId} (h:goB P f=true) (args:Array Value) (w:World):(callFunc f args).run P w = .ok (.enter f args) w:=by
 unfold goB at h
 cases hf:P.funcs[f]? with
 |none=>rw [hf]at h;cases h
 |some fn=>
  rw [hf]at h
  simp only [Bool.and_eq_true,Bool.not_eq_true']at h
  obtain ⟨h1,h2⟩:=h
  obtain ⟨c,hc⟩:=Option.isSome_iff_exists.1 h2
  have h1':fn.name ≠ "runtime.NumGoroutine" := by simpa using h1
  simp [callFunc,hf,h1',hc]
def Upon (K:Act→World→Prop) (Q:Exit→Act→World→Prop) (a:Act) (dst:Option Tmp) (e:Ending) (w:World):Prop:=
 match e with
 |.returned v=>K (a.put dst v) w
 |.panicked chain=>Q (.panic chain) a w
 |.outgrown=>LetsOut Q
theorem zu {f:FuncId}{xs:Array Operand}{ts:Array TypeId}{K:Act→World→Prop}{E:Prop} (vs:List Value) (hf:goB P f=true) (hv:xs.toList.map a.eval=vs)
  (h:Calls P f vs.toArray w (Upon K Q a dst)):if Region.wanted ⟨dst,.call { callee:= .value (.func f),args:=xs,argTypes:=ts },t,pos,after,none⟩ (yielded ops a.tmps)=true then
   Oper.wp P ⟨dst,.call { callee:= .value (.func f),args:=xs,argTypes:=ts },t,pos,after,none⟩ a w K Q else E:=by
 rw [if_pos (kR _ rfl)]
 unfold Oper.wp
 have e1:(#[]++xs.map a.eval++#[]:Array Value)=vs.toArray:=by
  rw [← hv];cases xs;simp
 rw [execOp_call_go,e1,aew hf,Oper.upon_enter]
 exact h.mono fun e w' he=>by cases e <;> exact he
theorem vT {f:FuncId}{x1:Operand}{v1:Value}{ts:Array TypeId}{K:Act→World→Prop}{E:Prop} (hf:goB P f=true) (h1:a.eval x1=v1)
  (h:Calls P f #[v1] w (Upon K Q a dst)):if Region.wanted ⟨dst,.call { callee:= .value (.func f),args:=#[x1],argTypes:=ts },t,pos,after,none⟩ (yielded ops a.tmps)=true then
   Oper.wp P ⟨dst,.call { callee:= .value (.func f),args:=#[x1],argTypes:=ts },t,pos,after,none⟩ a w K Q else E:=
 zu [v1] hf (by simp [h1]) h
theorem eU {f:FuncId}{x1 x2:Operand}{v1 v2:Value}{ts:Array TypeId}{K:Act→World→Prop}{E:Prop} (hf:goB P f=true) (h1:a.eval x1=v1) (h2:a.eval x2=v2)
  (h:Calls P f #[v1,v2] w (Upon K Q a dst)):if Region.wanted ⟨dst,.call { callee:= .value (.func f),args:=#[x1,x2],argTypes:=ts },t,pos,after,none⟩ (yielded ops a.tmps)=true then
   Oper.wp P ⟨dst,.call { callee:= .value (.func f),args:=#[x1,x2],argTypes:=ts },t,pos,after,none⟩ a w K Q else E:=
 zu [v1,v2] hf (by simp [h1,h2]) h
theorem vU {f:FuncId}{x1 x2 x3:Operand}{v1 v2 v3:Value}{ts:Array TypeId}{K:Act→World→Prop}{E:Prop} (hf:goB P f=true) (h1:a.eval x1=v1) (h2:a.eval x2=v2) (h3:a.eval x3=v3)
  (h:Calls P f #[v1,v2,v3] w (Upon K Q a dst)):if Region.wanted ⟨dst,.call { callee:= .value (.func f),args:=#[x1,x2,x3],argTypes:=ts },t,pos,after,none⟩ (yielded ops a.tmps)=true then
   Oper.wp P ⟨dst,.call { callee:= .value (.func f),args:=#[x1,x2,x3],argTypes:=ts },t,pos,after,none⟩ a w K Q else E:=
 zu [v1,v2,v3] hf (by simp [h1,h2,h3]) h
theorem Y3 {f:FuncId}{x1 x2 x3 x4:Operand}{v1 v2 v3 v4:Value}{ts:Array TypeId}{K:Act→World→Prop}{E:Prop} (hf:goB P f=true) (h1:a.eval x1=v1) (h2:a.eval x2=v2) (h3:a.eval x3=v3) (h4:a.eval x4=v4)
  (h:Calls P f #[v1,v2,v3,v4] w (Upon K Q a dst)):if Region.wanted ⟨dst,.call { callee:= .value (.func f),args:=#[x1,x2,x3,x4],argTypes:=ts },t,pos,after,none⟩ (yielded ops a.tmps)=true then
   Oper.wp P ⟨dst,.call { callee:= .value (.func f),args:=#[x1,x2,x3,x4],argTypes:=ts },t,pos,after,none⟩ a w K Q else E:=
 zu [v1,v2,v3,v4] hf (by simp [h1,h2,h3,h4]) h
variable {late:List Nat}{i n:Nat}{oi:Oper}{l:Array Bool}
theorem KD (i:Nat) (hi:ops.toList[i]?=some oi) (hc:(Region.noSelect ops && Region.free .any ops l i && (Region.ready .any ops l).contains i && sW ops l)=true)
  (hQ:∀ c a w,Q (.panic c) (a.put oi.dst v) w→Q (.panic c) a w) (hy:Yields P ops oi v a) {a':Act} (ha:a.put oi.dst v=a')
  (h:iK P ops Q late G n (l.setIfInBounds i true) a' w):iK P ops Q late G (n+1) l a w:=
 fP (by rw [← Array.getElem?_toList];exact hi) hc hQ hy (by rw [ha];exact h)
theorem dK (i:Nat) (hi:ops.toList[i]?=some oi) (hc:(Region.noSelect ops && Region.free .any ops l i && (Region.ready .any ops l).contains i && Jv ops late i && sW ops l)=true)
  (hQ:∀ c a w,Q (.panic c) (a.put oi.dst v) w→Q (.panic c) a w) (hy:YieldsIf P ops G oi v a) (hG:G w) {a':Act} (ha:a.put oi.dst v=a')
  (h:iK P ops Q late G n (l.setIfInBounds i true) a' w):iK P ops Q late G (n+1) l a w:=
 qc (by rw [← Array.getElem?_toList];exact hi) hc hQ hy hG (by rw [ha];exact h)
theorem bG (i:Nat) (hi:ops.toList[i]?=some oi) (hr:Region.ready .any ops l=[i])
  (h:∀ K:Act→World→Prop,(∀ a' w',keeps late G i w w'→iK P ops Q late G n (l.setIfInBounds i true) a' w'→K a' w') →
   if Region.wanted oi (yielded ops a.tmps)=true then Oper.wp P oi a w K Q else K (a.put oi.dst undef) w):iK P ops Q late G (n+1) l a w:=
 ou (by rw [← Array.getElem?_toList];exact hi) hr h
end
section
variable {e:TypeId}{sz dX n c:Nat}{xs ys:List Value}{s:Operand}
def oU (P:Program) (t e:TypeId) (sz dX:Nat):Bool:=
 (match P.underlying t with|some (.slice e')=>e'==e|_=>false) &&
 (match P.info? e with
  |some i=>i.size==sz && i.bytes==dX && (match i.zero with|some z=>z.cells.size==sz|none=>false) && decide (0<sz)
  |none=>false)
theorem vJ (h:oU P t e sz dX=true):P.underlying t=some (.slice e)∧∃ i z,P.info? e=some i∧i.zero=some z∧i.size=sz∧i.bytes=dX∧z.cells.size=sz∧0<sz:=by
 unfold oU at h
 rw [Bool.and_eq_true]at h
 obtain ⟨h1,h2⟩:=h
 constructor
 ·split at h1
  ·rename_i e' he;rw [he];congr 2;simpa using h1
  ·cases h1
 ·split at h2
  ·rename_i i hi
   simp only [Bool.and_eq_true,beq_iff_eq,decide_eq_true_eq]at h2
   obtain ⟨⟨⟨a1,a2⟩,a3⟩,a4⟩:=h2
   split at a3
   ·rename_i z hz
    exact ⟨i,z,hi,hz,a1,a2,by simpa using a3,a4⟩
   ·cases a3
  ·cases h2
theorem Zo (cs zs:Array Value) (h:zs.size=cs.size):cs.zipIdx.foldl (fun acc (x:Value×Nat)=>acc.setIfInBounds (0+x.2) x.1) zs=cs:=by
 have key:∀ (k:Nat) (l:List Value) (acc:Array Value),acc.size=k+l.length→(∀ j,j<k→acc[j]?=cs[j]?)→(∀ j,l[j]?=cs[k+j]?)→k+l.length=cs.size →
   (l.zipIdx k).foldl (fun acc (x:Value×Nat)=>acc.setIfInBounds (0+x.2) x.1) acc=cs:=by
  intro k l
  induction l generalizing k with
  |nil=>
   intro acc h1 h2 _ h4
   simp only [List.zipIdx_nil,List.foldl_nil]
   simp only [List.length_nil,Nat.add_zero]at h1 h4
   apply Array.ext_getElem?
   intro j
   by_cases hj:j<k
   ·exact h2 j hj
   ·rw [Array.getElem?_eq_none oQ,Array.getElem?_eq_none oQ]
  |cons v l ih=>
   intro acc h1 h2 h3 h4
   simp only [List.zipIdx_cons,List.foldl_cons]
   simp only [List.length_cons]at h1 h4
   rw [Nat.zero_add k]
   refine ih (k+1) (acc.setIfInBounds k v) (by rw [Array.size_setIfInBounds];omega) ?_ ?_ oQ
   ·intro j hj
    by_cases hjk:j=k
    ·subst hjk
     have:=h3 0
     simp only [List.getElem?_cons_zero,Nat.add_zero]at this
     rw [← this,Array.getElem?_setIfInBounds_self_of_lt oQ]
    ·rw [Array.getElem?_setIfInBounds_ne oQ]
     exact h2 j oQ
   ·intro j
    have:=h3 (j+1)
    rw [List.getElem?_cons_succ]at this
    rw [this]
    congr 1
    omega
 have:=key 0 cs.toList zs (by simpa using h) (fun j hj=>absurd hj (Nat.not_lt_zero j)) (fun j=>by simp) (by simp)
 conv=>rhs;rw [← this]
 rw [← Array.foldl_toList,Array.toList_zipIdx]
theorem Ua (hb:oU P t e sz dX=true) (hsz:v.cells.size=sz) (hle:sz≤16777216) (w:World) :
  (Instr.buildSlice t 1 #[(0,v)]).run P w = .ok (.slice (some ⟨w.heap.size,0,none⟩) 1 1) (w.alloc (.cells v.cells e)):=by
 obtain ⟨hu,i,z,hi,hz,h1,h2,h3,h4⟩:=vJ hb
 subst h1
 have hzv:(zeroValue e).run P w = .ok z w:=by simp [zeroValue,typeInfo,hi,hz]
 have hsz':(sizeOf e).run P w = .ok i.size w:=by simp [sizeOf,typeInfo,hi]
 have hnz:¬ (1 * i.size=0):=by omega
 have hle':¬ (1 * i.size>2^24):=by omega
 unfold Instr.buildSlice
 simp only [Sem.run_bind,run_underlying hu,Result.andThen_ok,hsz',if_neg hle',if_neg hnz,hzv,Sem.run_pure]
 have hf:Instr.fill (fun i'=>some (i' * i.size,i.size)) ((Array.range (1 * i.size)).map (z.cells[· % z.cells.size]!)) [(0,v)]=some v.cells:=by
  have hs1:((Array.range (1 * i.size)).map (z.cells[· % z.cells.size]!)).size=v.cells.size:=by simp [hsz]
  unfold Instr.fill
  simp only [Nat.zero_mul]
  have hc:¬ ((v.cells.size≠i.size || 0+v.cells.size>((Array.range (1 * i.size)).map (z.cells[· % z.cells.size]!)).size)=true):=by
   rw [hs1];simp [hsz]
  simp only [if_neg hc]
  unfold Instr.fill
  congr 1
  exact Zo _ _ hs1
 simp only [hf]
 simp [newRow,go_sem]
theorem lu (hb:oU P ty e sz dX=true) (hs:Sat w0 w L) (hy:a.eval x=v) (hcs:v.cells=cs) (hsz:cs.size=sz) (hle:sz≤16777216)
  (hK:∀ b w',Sat w0 w' (pt b (.cells cs e (0,0))::L)→wpList P ops Q rest (a.put dst (.slice (some ⟨b,0,none⟩) 1 1)) w'):wpList P ops Q (⟨dst,.buildSlice ty 1 #[(0,x)],t,pos,after,none⟩::rest) a w:=by
 subst hcs
 refine wpList_plain rfl fun _ hK'=>?_
 have hS:=hs.alloc (.cells v.cells e)
 unfold Oper.wp execOp
 simp only [hy,List.map_toArray,List.map_cons,List.map_nil,Sem.run_bind,Sem.run_pure,Ua hb hsz hle w,Result.andThen_ok]
 exact hK' _ _ (hK _ _ hS)
theorem agM (e:TypeId) (sz dX:Nat) (hb:oU P ty e sz dX=true) (hs:Sat w0 w L) (hv:a.eval s=v) (hy:a.eval y = .slice (some ⟨b,0,none⟩) n c){R2:List aC} (p:Pick (aF e sz v xs) L R) (p2:Pick (pt b (.cells cs T (0,0))) R R2)
  (hn:cs.size=n * sz) (h0:0<n) (h1:cs.toList.all (·.oneCell')=true) (h63:xs.length+cs.size≤maxLen) (hby:(xs.length+cs.size) * dX≤140737488355328)
  (hK:∀ b' n' c' w',Sat w0 w' (aF e sz (.slice (some ⟨b',0,none⟩) n' c') (xs++cs.toList)::R2)→wpList P ops Q rest (a.put dst (.slice (some ⟨b',0,none⟩) n' c')) w') :
  wpList P ops Q (⟨dst,.call { callee:= .builtin .append,args:=#[s,y],argTypes:=#[ty,ty] },t,pos,after,none⟩::rest) a w:=by
 obtain ⟨hu,i,z,hi,hz,e1,e2,e3,e4⟩:=vJ hb
 subst e2
 have hne:xs++cs.toList≠[]:=by
  intro h
  have:=congrArg List.length h
  simp only [List.length_append,Array.length_toList,List.length_nil]at this
  have:0<n * sz:=Nat.mul_pos h0 e4
  omega
 have hrd:bK sz (.slice (some ⟨b,0,none⟩) n c) cs.toList w:=⟨_,n,c,rfl,by simpa using hn,fun j x hj=>⟨_,rfl,by
  rw [pG]
  exact ((hs.pick p).pick (aO p2)).cellAt j x (by simpa using hj)⟩⟩
 refine yN (w0:=w0) rfl s y ty rfl e i z hu hi hz e1 e3 e4 hv hy (fun u hu=>(List.all_eq_true.1 h1) u hu) (hs.pick p) hrd (by simpa using h63) (by simpa using hby) ?_
 intro v' w' hS hv'
 obtain ⟨b',n',c',rfl⟩:=hv' hne
 exact hK b' n' c' w' (hS.pick (aO p2)).drop
theorem lq (e:TypeId) (sz dX:Nat) (hb:oU P ty e sz dX=true) (hs:Sat w0 w L) (hv:a.eval s=v) (hy:a.eval y = .slice (some ⟨b,0,none⟩) n c){R2:List aC} (p:Pick (aF e sz v xs) L R) (p2:Pick (pt b (.cells cs T (0,0))) R R2)
  (hn:cs.size=n * sz) (h0:1≤n) (h1:cs.toList.all (·.oneCell')=true) (h63:xs.length≤2147483648) (h64:cs.size≤65536) (hby:dX≤65000) (hys:cs.toList=ys)
  (hK:∀ b' n' c' w',Sat w0 w' (aF e sz (.slice (some ⟨b',0,none⟩) n' c') (xs++ys)::R2)→wpList P ops Q rest (a.put dst (.slice (some ⟨b',0,none⟩) n' c')) w') :
  wpList P ops Q (⟨dst,.call { callee:= .builtin .append,args:=#[s,y],argTypes:=#[ty,ty] },t,pos,after,none⟩::rest) a w:=by
 subst hys
 refine agM e sz dX hb hs hv hy p p2 hn h0 h1 (by unfold maxLen;omega) ?_ hK
 calc (xs.length+cs.size) * dX≤(2147483648+65536) * 65000:=Nat.mul_le_mul oQ hby
  _≤140737488355328:=by decide
end
end
end Go.Proofs.YtlimfgdbfadohaaGreatDoor
namespace Go.Sl
open Go
section
variable {w0 w:World}{A:aC}{L M R:List aC}
theorem aY (p:Pick A L R:=by first|((repeat (first|with_reducible apply aH|with_reducible apply aO));done)|((repeat (first|apply aH|apply aO));done)|fail):Pick A L R:=p
theorem iJ (p:Sub L M:=by repeat (first|(with_reducible apply wV)|((with_reducible apply Ld);(· first|((repeat (first|with_reducible apply aH|with_reducible apply aO));done)|((repeat (first|apply aH|apply aO));done)|fail))|(with_reducible apply jv))):Sub L M:=p
theorem Sat.pk (h:Sat w0 w L) (p:Pick A L R:=by first|((repeat (first|with_reducible apply aH|with_reducible apply aO));done)|((repeat (first|apply aH|apply aO));done)|fail):Sat w0 w (A::R):=h.pick p
theorem Sat.sb (h:Sat w0 w L) (p:Sub L M:=by repeat (first|(with_reducible apply wV)|((with_reducible apply Ld);(· first|((repeat (first|with_reducible apply aH|with_reducible apply aO));done)|((repeat (first|apply aH|apply aO));done)|fail))|(with_reducible apply jv))):Sat w0 w M:=h.sub p
theorem Ro.op {p:World→Prop} (h:Ro w0 (A::R) p) (k:Pick A L R:=by first|((repeat (first|with_reducible apply aH|with_reducible apply aO));done)|((repeat (first|apply aH|apply aO));done)|fail):Ro w0 L p:=h.J5 k
theorem Ro.os {p:World→Prop} (h:Ro w0 M p) (k:Sub L M:=by repeat (first|(with_reducible apply wV)|((with_reducible apply Ld);(· first|((repeat (first|with_reducible apply aH|with_reducible apply aO));done)|((repeat (first|apply aH|apply aO));done)|fail))|(with_reducible apply jv))):Ro w0 L p:=h.of_sub k
end
end Go.Sl
namespace Go.Proofs.YtlimfgdbfadohaaGreatDoor
open Go Go.Sl Go.aB Go.MapKept Go.RowKit
section
variable {P:Program}{ops:Array Oper}{late:List Nat}{G:World→Prop}{n:Nat}{l:Array Bool}{a:Act}{w:World}{oi:Oper}{v:Value}{Q:Exit→Act→World→Prop}
theorem rp (i:Nat) (hi:ops.toList[i]?=some oi:=by conv=>lhs;whnf) (hc:(Region.noSelect ops && Region.free .any ops l i && (Region.ready .any ops l).contains i && sW ops l)=true:=by kernel_rfl)
  (hQ:∀ c a w,Q (.panic c) (a.put oi.dst v) w→Q (.panic c) a w:=by intro _ _ _ h;exact h) (hy:Yields P ops oi v a) {a':Act} (ha:a.put oi.dst v=a':=by go_frame;first|done|rfl)
  (h:iK P ops Q late G n (l.setIfInBounds i true) a' w):iK P ops Q late G (n+1) l a w:=KD i hi hc hQ hy ha h
theorem rt (i:Nat) (hi:ops.toList[i]?=some oi:=by conv=>lhs;whnf) (hc:(Region.noSelect ops && Region.free .any ops l i && (Region.ready .any ops l).contains i && Jv ops late i && sW ops l)=true:=by kernel_rfl)
  (hQ:∀ c a w,Q (.panic c) (a.put oi.dst v) w→Q (.panic c) a w:=by intro _ _ _ h;exact h) (hy:YieldsIf P ops G oi v a:=by first|exact uK (by conv=>lhs;whnf) au (by intro wq hq;first|exact hq|exact hq.1|exact hq.2|exact hq.2.1|exact hq.2.2|exact hq.2.2.1|exact hq.2.2.2|exact hq.2.2.2.1|exact hq.2.2.2.2)|(refine Or.inl ⟨by rfl,?_⟩;(intro wq hq;go_split_ands;go_simp);first|done|(with_reducible rfl))) (hG:G w:=by assumption) {a':Act} (ha:a.put oi.dst v=a':=by go_frame;first|done|rfl)
  (h:iK P ops Q late G n (l.setIfInBounds i true) a' w):iK P ops Q late G (n+1) l a w:=dK i hi hc hQ hy hG ha h
end
end Go.Proofs.YtlimfgdbfadohaaGreatDoor
namespace Go.Sl
open Go
theorem eP {A B:aC}{L M:List aC} (p:mW A B L M:=by first|((repeat (first|with_reducible apply bJ|with_reducible apply fD));done)|((repeat (first|apply bJ|apply fD));done)|fail):mW A B L M:=p
theorem aj {α:Sort _}{a b:α} (h:a=b:=by conv=>lhs;whnf):a=b:=h
theorem bT {α:Type}{P:Program}{s:Sem α}{v:α} (h:∀ w,s.run P w = .ok v w:=by ((intro wq;go_simp);first|done|(with_reducible rfl))):∀ w,s.run P w = .ok v w:=h
end Go.Sl
namespace Go.Proofs.YtlimfgdbfadohaaGreatDoor
open Go Go.Sl Go.aB Go.MapKept Go.RowKit
section
variable {P:Program}{ops:Array Oper}{a:Act}{dst:Option Tmp}{t ty:TypeId}{pos:String}{after:Array Edge}{x y:Operand}{v vx vy:Value}{ad:Addr}{fl:Nat}{bo:BinOp}{tz:TypeId}{g:Option (Nat×Bool)}
theorem aG (hx:a.eval x=v:=by conv=>lhs;whnf):Yields P ops ⟨dst,.move x,t,pos,after,none⟩ v a:=ag9 hx
theorem cO (hx:a.eval x=vx:=by conv=>lhs;whnf) (hr:∀ w,(Instr.fieldAt ty vx fl).run P w = .ok v w:=by ((intro wq;go_simp);first|done|(with_reducible rfl))):Yields P ops ⟨dst,.fieldAddr ty x fl,t,pos,after,none⟩ v a:=ag7 hx hr
theorem dL (hx:a.eval x = .pointer (some ad):=by conv=>lhs;whnf):Yields P ops ⟨dst,.nilCheck x,t,pos,after,none⟩ (.pointer (some ad)) a:=aha hx
theorem dZ (hx:a.eval x=vx:=by conv=>lhs;whnf) (hy:a.eval y=vy:=by conv=>lhs;whnf) (hr:∀ w,(Instr.indexAt ty vx vy).run P w = .ok v w:=by ((intro wq;go_simp);first|done|(with_reducible rfl))):Yields P ops ⟨dst,.indexAddr ty x y,t,pos,after,none⟩ v a:=ag8 hx hy hr
theorem dN (hx:a.eval x=v:=by conv=>lhs;whnf):Yields P ops ⟨dst,.assign x,t,pos,after,none⟩ v a:=ag6 hx
theorem dB (hx:a.eval x=vx:=by conv=>lhs;whnf) (hy:a.eval y=vy:=by conv=>lhs;whnf) (hr:∀ w,((do eqGuard bo ty x y vx vy;binOp bo ty vx vy):Sem Value).run P w = .ok v w:=by ((intro wq;go_simp);first|done|(with_reducible rfl))):Yields P ops ⟨dst,.binOp bo ty x y tz,t,pos,after,none⟩ v a:=VD hx hy hr
end
section
variable {P:Program}{ops:Array Oper}{late:List Nat}{G:World→Prop}{n:Nat}{l:Array Bool}{a a':Act}{w:World}{oi:Oper}{v:Value}{Q:Exit→Act→World→Prop}
theorem rP (i:Nat) (h:iK P ops Q late G n (l.setIfInBounds i true) a' w) (hi:ops.toList[i]?=some oi:=by conv=>lhs;whnf) (hc:(Region.noSelect ops && Region.free .any ops l i && (Region.ready .any ops l).contains i && sW ops l)=true:=by kernel_rfl) (hQ:∀ c a w,Q (.panic c) (a.put oi.dst v) w→Q (.panic c) a w:=by intro _ _ _ h;exact h) (y:Yields P ops oi v a) (ha:a.put oi.dst v=a':=by go_frame;first|done|rfl):iK P ops Q late G (n+1) l a w:=KD i hi hc hQ y ha h
end
section
variable {P:Program}{w0 w:World}{L L' R:List aC}{b:Nat}{ops:Array Oper}{rest:List Oper}{a:Act}{Q:Exit→Act→World→Prop}{dst:Option Tmp}{t ty T:TypeId}{pos:String}{after:Array Edge}{x y:Operand}{cs:Array Value}{v:Value}{o:Nat}
theorem ldQ (h:wpList P ops Q rest (a.put dst v) w) (hs:Sat w0 w L:=by assumption) (hx:a.eval x = .pointer (some ⟨b,o,none⟩):=by rfl) (p:Pick (pt b (.cells cs T (0,0))) L R:=by exact aY) (hlt:o+1≤cs.size:=by exact bQ) (hv:cs.getD o undef=v:=by exact aj) (h1:wP P ty=true:=by kernel_rfl):wpList P ops Q (⟨dst,.load ty x,t,pos,after,none⟩::rest) a w:=gK hs hx p hlt hv h1 h
theorem stQ (hK:∀ w',Sat w0 w' L'→wpList P ops Q rest (a.put dst undef) w') (hs:Sat w0 w L:=by assumption) (hx:a.eval x = .pointer (some ⟨b,o,none⟩):=by rfl) (hy:a.eval y=v:=by exact aj){cs':Array Value} (hcs:eG cs o v.cells.toList=cs':=by first|(simp only [eG,Value.cells];(try go_frame);first|done|rfl)|rfl) (u:mW (pt b (.cells cs T (0,0))) (pt b (.cells cs' T (0,0))) L L':=by exact eP) (hfit:o+v.cells.size≤cs.size:=by exact bQ) (hi:(P.info? ty).map (·.size)=some v.cells.size:=by kernel_rfl) (h1:v.cells.toList.all (·.oneCell')=true:=by rfl):wpList P ops Q (⟨dst,.store ty x y,t,pos,after,none⟩::rest) a w:=eX hs hx hy hcs u hfit hi h1 hK
end
section
variable {P:Program}{w0 w:World}{L L' R F:List aC}{b:Nat}{ops:Array Oper}{rest:List Oper}{a:Act}{Q:Exit→Act→World→Prop}
variable {dst:Option Tmp}{t ty T e:TypeId}{pos:String}{after:Array Edge}{x y s:Operand}{cs:Array Value}{v:Value}{o n c sz dX:Nat}{xs ys:List Value}{K:Act→World→Prop}{E:Prop}
theorem xR {op:Oper} (hg:op.guard=none) (h:Oper.wp P op a w K Q):if Region.wanted op (yielded ops a.tmps)=true then Oper.wp P op a w K Q else E:=by
 rw [if_pos (kR _ hg)];exact h
theorem OM (hb:oU P ty e sz dX=true) (hs:Sat w0 w L) (hy:a.eval x=v) (hcs:v.cells=cs) (hsz:cs.size=sz) (hle:sz≤16777216)
  (hK:∀ b w',Sat w0 w' (pt b (.cells cs e (0,0))::L)→K (a.put dst (.slice (some ⟨b,0,none⟩) 1 1)) w') :
  if Region.wanted ⟨dst,.buildSlice ty 1 #[(0,x)],t,pos,after,none⟩ (yielded ops a.tmps)=true then Oper.wp P ⟨dst,.buildSlice ty 1 #[(0,x)],t,pos,after,none⟩ a w K Q else E:=by
 subst hcs
 refine xR rfl ?_
 have hS:=hs.alloc (.cells v.cells e)
 unfold Oper.wp execOp
 simp only [hy,List.map_toArray,List.map_cons,List.map_nil,Sem.run_bind,Sem.run_pure,Ua hb hsz hle w,Result.andThen_ok]
 exact hK _ _ hS
theorem OJ (e:TypeId) (sz dX:Nat) (hb:oU P ty e sz dX=true) (hs:Sat w0 w L) (hv:a.eval s=v) (hy:a.eval y = .slice (some ⟨b,0,none⟩) n c){R2:List aC} (p:Pick (aF e sz v xs) L R) (p2:Pick (pt b (.cells cs T (0,0))) R R2)
  (hn:cs.size=n * sz) (h0:1≤n) (h1:cs.toList.all (·.oneCell')=true) (h63:xs.length≤2147483648) (h64:cs.size≤65536) (hby:dX≤65000) (hys:cs.toList=ys)
  (hK:∀ b' n' c' w',Sat w0 w' (aF e sz (.slice (some ⟨b',0,none⟩) n' c') (xs++ys)::R2)→K (a.put dst (.slice (some ⟨b',0,none⟩) n' c')) w') :
  if Region.wanted ⟨dst,.call { callee:= .builtin .append,args:=#[s,y],argTypes:=#[ty,ty] },t,pos,after,none⟩ (yielded ops a.tmps)=true then
   Oper.wp P ⟨dst,.call { callee:= .builtin .append,args:=#[s,y],argTypes:=#[ty,ty] },t,pos,after,none⟩ a w K Q else E:=by
 refine xR rfl ?_
 subst hys
 obtain ⟨hu,i,z,hi,hz,e1,e2,e3,e4⟩:=vJ hb
 subst e2
 have hne:xs++cs.toList≠[]:=by
  intro h
  have:=congrArg List.length h
  simp only [List.length_append,Array.length_toList,List.length_nil]at this
  have:0<n * sz:=Nat.mul_pos h0 e4
  omega
 have hrd:bK sz (.slice (some ⟨b,0,none⟩) n c) cs.toList w:=⟨_,n,c,rfl,by simpa using hn,fun j x hj=>⟨_,rfl,by
  rw [pG]
  exact ((hs.pick p).pick (aO p2)).cellAt j x (by simpa using hj)⟩⟩
 have hcl:cs.toList.length=cs.size:=Array.length_toList
 have h63':xs.length+cs.toList.length≤maxLen:=by rw [hcl];unfold maxLen;omega
 have Ey:(xs.length+cs.toList.length) * i.bytes≤140737488355328:=by
  rw [hcl]
  exact Nat.le_trans (Nat.mul_le_mul (show xs.length+cs.size≤2147483648+65536 by omega) hby) aJ
 refine LG (w0:=w0) s y ty rfl e i z hu hi hz e1 e3 e4 hv hy (fun u hu=>(List.all_eq_true.1 h1) u hu) (hs.pick p) hrd h63' Ey ?_
 intro v' w' hS hv'
 obtain ⟨b',n',c',rfl⟩:=hv' hne
 exact hK b' n' c' w' (hS.pick (aO p2)).drop
def qJ (P:Program) (t:TypeId):Option (List (Nat×Nat)):=match P.underlying t with
 |some (.struct fields)=>fields.toList.mapM fun f=>(P.info? f.type).map fun i=>(f.offset,i.size)
 |_=>none
theorem run_places (fields:List Field):∀ (pl:List (Nat×Nat)),(fields.mapM fun f=>(P.info? f.type).map fun i=>(f.offset,i.size))=some pl →
  ((fields.mapM fun f=>do pure (f.offset,← sizeOf f.type)):Sem (List (Nat×Nat))).run P w = .ok pl w:=by
 induction fields with
 |nil=>intro pl h;cases h;rfl
 |cons f fields ih=>
  intro pl h
  rw [List.mapM_cons]at h ⊢
  cases hi:P.info? f.type with
  |none=>simp [hi]at h
  |some i=>
   rw [hi]at h
   simp only [Option.map_some,Option.bind_eq_bind,Option.bind_some,Option.bind_eq_some_iff,Option.pure_def,Option.some.injEq]at h
   obtain ⟨pl',h1,rfl⟩:=h
   have hs:(sizeOf f.type).run P w = .ok i.size w:=by simp [sizeOf,typeInfo,hi]
   simp only [Sem.run_bind,hs,Result.andThen_ok,Sem.run_pure,ih pl' h1]
def CP (pl:List (Nat×Nat)):Array Value→List (Nat×Value)→Array Value
 |cs,[]=>cs
 |cs,(i,v)::r=>CP pl (eG cs (pl.getD i (0,0)).1 v.cells.toList) r
theorem PK:∀ (vs:List Value) (k:Nat) (off:Nat) (cs:Array Value),(vs.zipIdx k).foldl (fun cs (x:Value×Nat)=>cs.setIfInBounds (off+x.2) x.1) cs=eG cs (off+k) vs
 |[],_,_,_=>rfl
 |v::vs,k,off,cs=>by
  rw [List.zipIdx_cons,List.foldl_cons,PK vs (k+1) off];rfl
theorem O9 (pl:List (Nat×Nat)):∀ (parts:List (Nat×Value)) (cs:Array Value),(∀ p∈parts,∃ off,pl[p.1]?=some (off,p.2.cells.size)∧off+p.2.cells.size≤cs.size) →
  Instr.fill (pl.toArray[·]?) cs parts=some (CP pl cs parts)
 |[],_,_=>rfl
 |(i,v)::r,cs,h=>by
  obtain ⟨off,h1,h2⟩:=h _ (.head _)
  unfold Instr.fill
  have hp:pl.toArray[i]?=some (off,v.cells.size):=by simpa using h1
  simp only [hp]
  have hc:¬ ((v.cells.size≠v.cells.size || off+v.cells.size>cs.size)=true):=by simp;omega
  rw [if_neg hc]
  have hf:v.cells.zipIdx.foldl (fun cs (c,j)=>cs.setIfInBounds (off+j) c) cs=eG cs off v.cells.toList:=by
   rw [← Array.foldl_toList,Array.toList_zipIdx]
   exact PK _ 0 off cs
  rw [hf,O9 pl r _ (fun p hp=>by
   obtain ⟨o,q1,q2⟩:=h p (.tail _ hp)
   exact ⟨o,q1,by rw [kZ];exact q2⟩)]
  have hg:(pl.getD i (0,0)).1=off:=by rw [List.getD_eq_getElem?_getD,h1];rfl
  simp only [CP,hg]
theorem run_build {z:Value}{pl:List (Nat×Nat)} (parts:List (Nat×Value)) (hp:qJ P t=some pl) (hz:iH P t=some z)
  (hfit:∀ p∈parts,∃ off,pl[p.1]?=some (off,p.2.cells.size)∧off+p.2.cells.size≤z.cells.size) (w:World) :
  (Instr.build t parts.toArray).run P w = .ok (.agg (CP pl z.cells parts)) w:=by
 unfold qJ at hp
 split at hp
 ·rename_i fields hu
  have hm:((fields.mapM fun f=>do pure (f.offset,← sizeOf f.type)):Sem (Array (Nat×Nat))).run P w = .ok pl.toArray w:=by
   rw [Array.mapM_eq_mapM_toList]
   rw [map_eq_pure_bind,Sem.run_bind,run_places fields.toList pl hp]
   rfl
  unfold Instr.build
  simp only [Sem.run_bind,Fq hz w,Result.andThen_ok,run_underlying hu,hm,O9 pl parts z.cells hfit,Sem.run_pure]
 ·cases hp
theorem F5 {i1 i2 i3:Nat}{x1 x2 x3:Operand}{v1 v2 v3:Value} (h1:a.eval x1=v1) (h2:a.eval x2=v2) (h3:a.eval x3=v3) (hr:∀ w,(Instr.build ty #[(i1,v1),(i2,v2),(i3,v3)]).run P w = .ok v w) :
  Yields P ops ⟨dst,.build ty #[(i1,x1),(i2,x2),(i3,x3)],t,pos,after,none⟩ v a:=
 .inl ⟨kR _ rfl,fun w=>by
  simp only [execOp,List.map_toArray,List.map_cons,List.map_nil,h1,h2,h3,Sem.run_bind,hr,Result.andThen_ok,Sem.run_pure]⟩
theorem gu {G:World→Prop}{o:Nat} (ks:List Value) (hx:a.eval x = .pointer (some ⟨b,o,none⟩)){d:TypeDesc} (hu:P.underlying ty=some d) (hd:d.isRow=true) (hi:(P.info? ty).map (·.size)=some ks.length) (hG:∀ w,G w→w.rangeAt b o ks) :
  YieldsIf P ops G ⟨dst,.load ty x,t,pos,after,none⟩ (.agg ks.toArray) a:=
 yieldsIf_load_mid (kR _ rfl) ty x rfl b o hx ks d hG hu hd hi
end
section
variable {w0 w:World}{F:List aC}{v lv dv:Value}{sz:Nat}
theorem iU {a:Option Addr}{n c:Nat}{xs:List Value} (h:bK sz (.slice a n c) xs w){i:Nat}{x:Value} (hi:xs[i]?=some x) :
  ∃ bk off,a=some ⟨bk,off,none⟩∧∀ j y,xs[j]?=some y→w.cell? ⟨bk,off+j,none⟩=some y:=by
 obtain ⟨a',n',c',he,hl,hx⟩:=h
 cases he
 obtain ⟨b,rfl,hc⟩:=hx i x hi
 have hlt:i<xs.length:=(List.getElem?_eq_some_iff.1 hi).1
 obtain ⟨y,hy⟩:∃ y,xs[0]?=some y:=⟨xs[0]'oQ,List.getElem?_eq_getElem _⟩
 obtain ⟨b',hb',hc0⟩:=hx 0 y hy
 cases hb'
 obtain ⟨bk,off,spot⟩:=b
 have hs:spot=none:=by simpa [Addr.add] using World.cell?_spot hc0
 subst hs
 refine ⟨bk,off,rfl,fun j y hj=>?_⟩
 obtain ⟨b'',aah,hcj⟩:=hx j y hj
 cases aah
 rw [Addr.add_mid]at hcj
 exact hcj
def Zg (es:List (ak.aX×Value)):List Value:=es.flatMap fun p=>kW p.1 p.2
theorem O4 (x:ak.aX) (dv:Value) (hk:x.key.length=32):(kW x dv).length=34:=by simp [kW,ay,hk]
theorem Zf (x:ak.aX) (dv:Value){j:Nat}{y:Value} (h:(ay x.key)[j]?=some y):(kW x dv)[1+j]?=some y:=by
 unfold kW
 rw [Nat.add_comm,List.getElem?_cons_succ,List.getElem?_append_left (List.getElem?_eq_some_iff.1 h).1];exact h
theorem Ze (x:ak.aX) (dv:Value) (hk:x.key.length=32):(kW x dv)[33]?=some dv:=by
 unfold kW
 rw [List.getElem?_cons_succ,List.getElem?_append_right (by rw [aU];omega),aU,hk];rfl
theorem EZ:qJ Tryz.prog 137=some [(0,1),(1,32),(33,1)]:=by kernel_rfl
def uP:Value:= .agg (dI ak.zeroE (.slice none 0 0))
theorem yP:iH Tryz.prog 137=some uP:=by kernel_rfl
theorem ada (cs:Array Value) (hs:cs.size=34) (u dv:Value) (kl:List Value) (hk:kl.length=32):(eG (eG (eG cs 0 [u]) 1 kl) 33 [dv]).toList=u::(kl++[dv]):=by
 have hcl:cs.toList.length=34:=by simpa using hs
 rw [lW _ _ _ (by rw [kZ,kZ];simp;omega),lW _ _ _ (by rw [kZ];omega),lW _ _ _ (by simp;omega)]
 simp only [List.take_zero,List.nil_append,List.length_singleton,Nat.zero_add]
 rw [List.singleton_append,List.take_succ_cons,List.take_zero,hk,show 1+32=32+1 by omega,List.drop_succ_cons,List.drop_drop]
 have h1:([u]++kl++cs.toList.drop (1+32)).length=34:=by simp [hk,hcl]
 rw [List.take_append_of_le_length (by simp [hk]),List.take_of_length_le (by simp [hk]),List.drop_of_length_le oQ]
 simp
theorem rH {cs ds:Array Value} (h:cs.toList=ds.toList):cs=ds:=Array.toList_inj.1 h
set_option maxRecDepth 20000 in
theorem aej (e:ak.aX) (hk:e.key.length=32) (da:Option Addr) (dn dc:Nat) (w:World) :
  (Instr.build 137 #[(0,.int .i64 e.tag),(1,.agg (ay e.key).toArray),(2,.slice da dn dc)]).run Tryz.prog w = .ok (.agg (dI e (.slice da dn dc))) w:=by
 have hz:(dI ak.zeroE (.slice none 0 0)).size=34:=kV _ _ rfl
 have hks:(ay e.key).toArray.size=32:=by simp [ay,hk]
 have h:=run_build (P:=Tryz.prog) [(0,.int .i64 e.tag),(1,.agg (ay e.key).toArray),(2,.slice da dn dc)] EZ yP (by
  intro p hp
  simp only [List.mem_cons,List.not_mem_nil,or_false]at hp
  have hzz:uP.cells.size=34:=hz
  rw [hzz]
  rcases hp with rfl|rfl|rfl
  ·exact ⟨0,rfl,by show 0+1≤34;omega⟩
  ·refine ⟨1,?_,?_⟩
   ·show some (1,32)=some (1,(ay e.key).toArray.size);rw [hks]
   ·show 1+(ay e.key).toArray.size≤34;rw [hks];omega
  ·exact ⟨33,rfl,by show 33+1≤34;omega⟩) w
 refine h.trans ?_
 congr 2
 apply rH
 exact ada _ hz _ _ _ (show (ay e.key).toArray.toList.length=32 by rw [List.toList_toArray,aU,hk])
theorem adh (cs:Array Value) (vs:List Value) (h:vs.length=cs.size):eG cs 0 vs=vs.toArray:=by
 apply rH
 rw [lW _ _ _ oQ,List.take_zero,List.nil_append,List.drop_of_length_le (by simp;omega),List.append_nil,List.toList_toArray]
end
section
variable {w0 w:World}{L L' R:List aC}{b:Nat}{ops:Array Oper}{rest:List Oper}{a:Act}{Q:Exit→Act→World→Prop}
variable {dst:Option Tmp}{t T:TypeId}{pos:String}{after:Array Edge}{x y:Operand}{cs:Array Value}{v:Value}{e:ak.aX}{da:Option Addr}{dn dc:Nat}
theorem Zd (e:ak.aX) (a:Option Addr) (n c:Nat):(dI e (.slice a n c)).all (·.oneCell')=true:=by
 rw [← Array.all_toList]
 unfold dI kW
 rw [List.toList_toArray,List.all_cons,List.all_append]
 have:(ay e.key).all (·.oneCell')=true:=List.all_eq_true.2 (jU _)
 rw [this];rfl
theorem Cc:(Tryz.prog.info? 137).map (·.size)=some 34:=by kernel_rfl
theorem jy (hs:Sat w0 w L) (hx:a.eval x = .pointer (some ⟨b,0,none⟩)) (hy:a.eval y = .agg (dI e (.slice da dn dc))) (hk:e.key.length=32) (u:mW (pt b (.cells cs T (0,0))) (pt b (.cells (dI e (.slice da dn dc)) T (0,0))) L L') (hcs:cs.size=34)
  (hK:∀ w',Sat w0 w' L'→wpList Tryz.prog ops Q rest (a.put dst undef) w'):wpList Tryz.prog ops Q (⟨dst,.store 137 x y,t,pos,after,none⟩::rest) a w:=by
 obtain ⟨R',h2,h3⟩:=u
 have hz:=kV e (.slice da dn dc) hk
 refine Dq (w0:=w0) rfl 137 x y rfl 0 (.agg (dI e (.slice da dn dc))) hx hy (show 0+(dI e (.slice da dn dc)).size≤cs.size by omega) (show _=some (dI e (.slice da dn dc)).size by rw [hz];exact Cc) (Zd _ _ _ _) (hs.perm h2) fun w' hS=>hK w' ?_
 have he:eG cs 0 (Value.agg (dI e (.slice da dn dc))).cells.toList=dI e (.slice da dn dc):=by
  show eG cs 0 (dI e (.slice da dn dc)).toList=_
  rw [adh _ _ (by simp;omega)]
 rw [he]at hS
 exact hS.perm h3.symm
theorem Dn (hs:Sat w0 w L) (hx:a.eval x = .pointer (some ⟨b,0,none⟩)) (p:Pick (pt b (.cells (dI e (.slice da dn dc)) T (0,0))) L R) (hk:e.key.length=32)
  (h:wpList Tryz.prog ops Q rest (a.put dst (.agg (dI e (.slice da dn dc)))) w):wpList Tryz.prog ops Q (⟨dst,.load 137 x,t,pos,after,none⟩::rest) a w:=
 fB hs hx p Tryz.underlying137 rfl (by rw [kV e _ hk];exact Cc) h
theorem oV (h:Stop (wpList Tryz.prog ops Q (⟨dst,.store 137 x y,t,pos,after,none⟩::rest) a w)):wpList Tryz.prog ops Q (⟨dst,.store 137 x y,t,pos,after,none⟩::rest) a w:=h.out
theorem AX (h:Stop (wpList Tryz.prog ops Q (⟨dst,.load 137 x,t,pos,after,none⟩::rest) a w)):wpList Tryz.prog ops Q (⟨dst,.load 137 x,t,pos,after,none⟩::rest) a w:=h.out
theorem aeR (w:World):(Instr.build 137 #[]).run Tryz.prog w = .ok uP w:=run_build (P:=Tryz.prog) [] EZ yP (by simp) w
theorem rV (hs:Sat w0 w L) (hK:∀ b w',Sat w0 w' (pt b (.cells (dI ak.zeroE (.slice none 0 0)) 137 (0,0))::L)→wpList Tryz.prog ops Q rest (a.put dst (.pointer (some ⟨b,0,none⟩))) w') :
  wpList Tryz.prog ops Q (⟨dst,.alloc 137,t,pos,after,none⟩::rest) a w:=dS yP hs rfl hK
theorem qY (h:Stop (wpList Tryz.prog ops Q (⟨dst,.alloc 137,t,pos,after,none⟩::rest) a w)):wpList Tryz.prog ops Q (⟨dst,.alloc 137,t,pos,after,none⟩::rest) a w:=h.out
theorem CV {fn:Func}{p u:Tmp}{tmps:Array Value} (hf:fn.results=#[.cell p 137,.tmp u]) (hs:Sat w0 w L) (hp:tmps.getD p undef = .pointer (some ⟨b,0,none⟩)) (k:Pick (pt b (.cells (dI e (.slice da dn dc)) T (0,0))) L R) (hk:e.key.length=32) :
  (results fn tmps).run Tryz.prog w = .ok (.tuple #[.agg (dI e (.slice da dn dc)),tmps.getD u undef]) w:=
 kC hf hs hp k Tryz.underlying137 rfl (by rw [kV e _ hk];exact Cc)
end
section
variable {P:Program}{w0 w:World}{L L' R:List aC}{b:Nat}{ops:Array Oper}{rest:List Oper}{a:Act}{Q:Exit→Act→World→Prop}
variable {dst:Option Tmp}{t ty T:TypeId}{pos:String}{after:Array Edge}{x y z:Operand}{cs:Array Value}{v:Value}{o:Nat}
variable {vx vy:Value}{ad:Addr}{fl:Nat}{bo:BinOp}{uo:UnOp}{tz:TypeId}{G:World→Prop}
theorem fV {g:Option (Nat×Bool)} (hw:Region.wanted ⟨dst,.move x,t,pos,after,g⟩ (yielded ops a.tmps)=true) (hx:a.eval x=v):Yields P ops ⟨dst,.move x,t,pos,after,g⟩ v a:=
 .inl ⟨hw,fun w=>by simp only [execOp,hx];rfl⟩
theorem xg {g:Option (Nat×Bool)} (hw:Region.wanted ⟨dst,.nilCheck x,t,pos,after,g⟩ (yielded ops a.tmps)=true) (hx:a.eval x = .pointer (some ad)):Yields P ops ⟨dst,.nilCheck x,t,pos,after,g⟩ (.pointer (some ad)) a:=
 .inl ⟨hw,fun w=>by simp only [execOp,hx];rfl⟩
theorem uN {g:Option (Nat×Bool)} (hw:Region.wanted ⟨dst,.fieldAddr ty x fl,t,pos,after,g⟩ (yielded ops a.tmps)=true) (hx:a.eval x=vx) (hr:∀ w,(Instr.fieldAt ty vx fl).run P w = .ok v w):Yields P ops ⟨dst,.fieldAddr ty x fl,t,pos,after,g⟩ v a:=
 .inl ⟨hw,fun w=>by simp only [execOp,hx,Sem.run_bind,hr,Result.andThen_ok,Sem.run_pure]⟩
theorem uO {g:Option (Nat×Bool)} (hw:Region.wanted ⟨dst,.indexAddr ty x y,t,pos,after,g⟩ (yielded ops a.tmps)=true) (hx:a.eval x=vx) (hy:a.eval y=vy) (hr:∀ w,(Instr.indexAt ty vx vy).run P w = .ok v w):Yields P ops ⟨dst,.indexAddr ty x y,t,pos,after,g⟩ v a:=
 .inl ⟨hw,fun w=>by simp only [execOp,hx,hy,Sem.run_bind,hr,Result.andThen_ok,Sem.run_pure]⟩
theorem jJ {g:Option (Nat×Bool)} (hw:Region.wanted ⟨dst,.binOp bo ty x y tz,t,pos,after,g⟩ (yielded ops a.tmps)=true) (hx:a.eval x=vx) (hy:a.eval y=vy) (hr:∀ w,((do eqGuard bo ty x y vx vy;binOp bo ty vx vy):Sem Value).run P w = .ok v w):Yields P ops ⟨dst,.binOp bo ty x y tz,t,pos,after,g⟩ v a:=
 .inl ⟨hw,fun w=>by simp only [execOp,hx,hy,Sem.run_bind (x:=(do eqGuard bo ty x y vx vy;binOp bo ty vx vy)),hr,Result.andThen_ok,Sem.run_pure]⟩
theorem VB {g:Option (Nat×Bool)} (hw:Region.wanted ⟨dst,.unOp uo ty x,t,pos,after,g⟩ (yielded ops a.tmps)=true) (hx:a.eval x=vx) (hr:∀ w,(Op.unary uo vx).run P w = .ok v w):Yields P ops ⟨dst,.unOp uo ty x,t,pos,after,g⟩ v a:=
 .inl ⟨hw,fun w=>by simp only [execOp,hx,Sem.run_bind,hr,Result.andThen_ok,Sem.run_pure]⟩
theorem FZ {g:Option (Nat×Bool)} (hw:Region.wanted ⟨dst,.call { callee:= .builtin .len,args:=#[x],argTypes:=#[ty] },t,pos,after,g⟩ (yielded ops a.tmps)=true) (hx:a.eval x=vx) (hr:∀ w,(Builtin.len_ #[ty] t #[vx]).run P w = .ok v w):Yields P ops ⟨dst,.call { callee:= .builtin .len,args:=#[x],argTypes:=#[ty] },t,pos,after,g⟩ v a:=
 .inl ⟨hw,fun w=>by
  rw [O6,hx]
  simp only [Sem.run_bind,hr,Result.andThen_ok,Sem.run_pure]⟩
theorem nC {g:Option (Nat×Bool)} (hw:Region.wanted ⟨dst,.load ty x,t,pos,after,g⟩ (yielded ops a.tmps)=true) (hx:a.eval x = .pointer (some ad)) (h1:wP P ty=true) (hG:∀ w,G w→w.cell? ad=some v):YieldsIf P ops G ⟨dst,.load ty x,t,pos,after,g⟩ v a:=
 .inl ⟨hw,fun w hw=>by
  obtain ⟨b,o,el⟩:=ad
  have hc:=hG w hw
  simp only [execOp,hx,Instr.loadAt,Instr.sureAddr,Sem.run_bind,Sem.run_pure,Result.andThen_ok,Uf h1 hc]⟩
theorem jK {g:Option (Nat×Bool)}{c:Bool} (hw:Region.wanted ⟨dst,.pick x y z,t,pos,after,g⟩ (yielded ops a.tmps)=true) (hx:a.eval x = .bool c) (hv:(if c then a.eval y else a.eval z)=v):Yields P ops ⟨dst,.pick x y z,t,pos,after,g⟩ v a:=
 .inl ⟨hw,fun w=>by
  subst hv
  simp only [execOp,hx]
  cases c <;> rfl⟩
theorem FN {g:Option (Nat×Bool)} (ks:List Value) (hw:Region.wanted ⟨dst,.load ty x,t,pos,after,g⟩ (yielded ops a.tmps)=true) (hx:a.eval x = .pointer (some ⟨b,o,none⟩)){d:TypeDesc} (hu:P.underlying ty=some d) (hd:d.isRow=true) (hi:(P.info? ty).map (·.size)=some ks.length) (hG:∀ w,G w→w.rangeAt b o ks) :
  YieldsIf P ops G ⟨dst,.load ty x,t,pos,after,g⟩ (.agg ks.toArray) a:=
 yieldsIf_load_mid hw ty x rfl b o hx ks d hG hu hd hi
theorem OQ {op:Oper}{K:Act→World→Prop}{E:Prop} (hw:Region.wanted op (yielded ops a.tmps)=true) (h:Oper.wp P op a w K Q):if Region.wanted op (yielded ops a.tmps)=true then Oper.wp P op a w K Q else E:=by
 rw [if_pos hw];exact h
theorem zx {g:Option (Nat×Bool)}{f:FuncId}{xs:Array Operand}{ts:Array TypeId}{K:Act→World→Prop}{E:Prop} (vs:List Value) (hw:Region.wanted ⟨dst,.call { callee:= .value (.func f),args:=xs,argTypes:=ts },t,pos,after,g⟩ (yielded ops a.tmps)=true) (hf:goB P f=true) (hv:xs.toList.map a.eval=vs)
  (h:Calls P f vs.toArray w (Upon K Q a dst)):if Region.wanted ⟨dst,.call { callee:= .value (.func f),args:=xs,argTypes:=ts },t,pos,after,g⟩ (yielded ops a.tmps)=true then
   Oper.wp P ⟨dst,.call { callee:= .value (.func f),args:=xs,argTypes:=ts },t,pos,after,g⟩ a w K Q else E:=by
 rw [if_pos hw]
 have h0:=zu (P:=P) (ops:=ops) (a:=a) (w:=w) (Q:=Q) (dst:=dst) (t:=t) (pos:=pos) (after:=after) (K:=K) (E:=False) (xs:=xs) (ts:=ts) vs hf hv h
 rw [if_pos (kR _ rfl)]at h0
 exact h0
theorem dF {l:Array Bool}{n:Nat}{late:List Nat}{oi:Oper} (i:Nat) (hi:ops.toList[i]?=some oi) (hc:(Region.noSelect ops && Region.free .any ops l i && (Region.ready .any ops l).contains i && sW ops l)=true)
  (hQ:∀ c a w,Q (.panic c) (a.put oi.dst undef) w→Q (.panic c) a w) (hw:Region.wanted oi (yielded ops a.tmps)=false) {a':Act} (ha:a.put oi.dst undef=a')
  (h:iK P ops Q late G n (l.setIfInBounds i true) a' w):iK P ops Q late G (n+1) l a w:=
 KD i hi hc hQ (.inr ⟨hw,rfl⟩) ha h
end
end Go.Proofs.YtlimfgdbfadohaaGreatDoor
namespace Go.aB
def aB.which (D:aB) (s:ByteArray):Int:=match dD D.now s with
 |none=> -1
 |some i=>(i:Int)
end Go.aB
namespace Go.Proofs.YtlimfgdbfadohaaGreatDoor
open Go Go.Sl Go.aB Go.MapKept Go.RowKit
abbrev Ah:=List (Value×Names)
structure RF where
 f:bD
 fv:Value
 nv:Value
 wv:Value
 ws:List (iF×Value)
section
variable {w0 w:World}{b o:Nat}{ops:Array Oper}{rest:List Oper}{a:Act}{Q:Exit→Act→World→Prop}{dst:Option Tmp}{t ty:TypeId}{pos:String}{after:Array Edge}{x:Operand}{P:Program}
end
section
variable {w0 w:World}{F R:List aC}{d:Nat}{D:aB}{Ep fv nv wv v:Value}{xs:List RF}{g:Ah}{K:Nat}
end
section
variable {P:Program}{w0 w:World}{L L':List aC}{b o:Nat}{ops:Array Oper}{a:Act}{Q:Exit→Act→World→Prop}{dst:Option Tmp}{t ty T:TypeId}{pos:String}{after:Array Edge}{x y:Operand}{cs:Array Value}{v:Value}{K:Act→World→Prop}{E:Prop}
theorem jD (hs:Sat w0 w L) (hx:a.eval x = .pointer (some ⟨b,o,none⟩)) (hy:a.eval y=v){cs':Array Value} (hcs:eG cs o v.cells.toList=cs') (u:mW (pt b (.cells cs T (0,0))) (pt b (.cells cs' T (0,0))) L L') (hfit:o+v.cells.size≤cs.size)
  (hi:(P.info? ty).map (·.size)=some v.cells.size) (h1:v.cells.toList.all (·.oneCell')=true)
  (hK:∀ w',Sat w0 w' L'→K (a.put dst undef) w') :
  if Region.wanted ⟨dst,.store ty x y,t,pos,after,none⟩ (yielded ops a.tmps)=true then Oper.wp P ⟨dst,.store ty x y,t,pos,after,none⟩ a w K Q else E:=by
 subst hcs
 obtain ⟨R',h2,h3⟩:=u
 refine xR rfl ?_
 have h:=hs.perm h2
 have hth:w.there b o v.cells.size:=by
  intro j hj
  refine ⟨?_,h.nY _⟩
  rw [h.cellAt (o+j) _ (Array.getElem?_eq_getElem (show o+j<cs.size by omega))]
  rfl
 have hst:=run_storeCells_cells (P:=P) b o v.cells.toList 0 w (fun j hj=>by simpa using (hth j (by simpa using hj)).1) (fun j hj=>by simpa using (hth j (by simpa using hj)).2)
  (fun u hu=>(List.all_eq_true.1 h1) u hu)
 have hrun:(storeVar ty ⟨b,o,none⟩ v).run P w = .ok () (w.setCells b o v.cells.toList):=by
  cases hq:P.info? ty with
  |none=>simp [hq]at hi
  |some i=>
   have hs:v.cells.size=i.size:=by simp [hq]at hi;omega
   simp only [Nat.add_zero]at hst
   simp [storeVar,sizeOf,typeInfo,hq,hs,hst]
 unfold Oper.wp execOp
 simp only [hx,hy,Instr.storeAt,Instr.sureAddr,Sem.run_bind,Sem.run_pure,Result.andThen_ok,hrun]
 exact hK _ ((Sat.sets _ _ h).perm h3.symm)
end
def RF.zero:RF:=⟨bD.new,.slice none 0 0,.slice none 0 0,.slice none 0 0,[]⟩
section
variable {w0 w:World}{F R:List aC}{d:Nat}{D:aB}{Ep fv nv wv v lv:Value}{xs:List RF}{g:Ah}{K:Nat}
end
end Go.Proofs.YtlimfgdbfadohaaGreatDoor
namespace Go.aB
theorem LK (l:Bs) (i:Nat) (y:UInt8):(iL l i y).length=l.length:=by unfold iL;simp
def Alike (c d:iF):Prop:=d.cut=c.cut∧d.n=c.n∧d.b.length=c.b.length
theorem acC {c d:iF} (h:Alike c d){l l':Bs} (hl:l'.length=l.length):(d.on l').length=(c.on l).length:=by
 obtain ⟨h1,h2,h3⟩:=h
 unfold iF.on
 rw [h1]
 split
 ·simp [h2,hl]
 ·simp [h3,hl]
theorem at_len {f g:bD} (h0:g.fast.length=f.fast.length) (hw:g.waits.length=f.waits.length)
  (hc:∀ (k:Nat) (c d:iF),f.waits[k]?=some c→g.waits[k]?=some d→Alike c d):∀ k,k≤f.waits.length→(g.at k).length=(f.at k).length:=by
 intro k
 induction k with
 |zero=>intro _;exact h0
 |succ k ih=>
  intro hk
  have h1:f.waits[k]?=some (f.waits[k]'oQ):=List.getElem?_eq_getElem _
  have h2:g.waits[k]?=some (g.waits[k]'oQ):=List.getElem?_eq_getElem _
  rw [f.xK k _ h1,g.xK k _ h2]
  exact acC (hc k _ _ h1 h2) (ih oQ)
theorem ag3 {l:Bs}{i:Nat} (y:UInt8) (b:Bs) (h:i<l.length):iL (l++b) i y=iL l i y++b:=by
 unfold iL
 rw [List.set_append_left _ _ h,List.getD_eq_getElem?_getD,List.getElem?_append_left h,List.getD_eq_getElem?_getD]
theorem ag4 {l:Bs}{i:Nat} (y:UInt8) (b:Bs) (h:l.length≤i):iL (l++b) i y=l++iL b (i - l.length) y:=by
 unfold iL
 rw [List.set_append_right _ _ h,List.getD_eq_getElem?_getD,List.getElem?_append_right h,List.getD_eq_getElem?_getD]
theorem ag5 (l:Bs) (i n:Nat) (y:UInt8):(iL l i y).take n=iL (l.take n) i y:=by
 unfold iL
 rw [List.take_set]
 by_cases h:i<n
 ·rw [List.getD_eq_getElem?_getD,List.getD_eq_getElem?_getD,List.getElem?_take_of_lt h]
 ·rw [List.set_eq_of_length_le (by simp;omega),List.set_eq_of_length_le (by simp;omega)]
theorem acD (c:iF) (l:Bs) (i:Nat) (y:UInt8) (h:c.cut=true∨i<l.length):c.on (iL l i y)=iL (c.on l) i y:=by
 unfold iF.on
 cases hc:c.cut
 ·simp only [Bool.false_eq_true,if_false]
  rcases h with h|h
  ·rw [hc]at h;cases h
  ·exact (ag3 y c.b h).symm
 ·simp only [if_true];exact ag5 l i c.n y
def Past (f:bD) (i k n:Nat):Prop:=∀ (j:Nat) (c:iF),k≤j→j<n→f.waits[j]?=some c→c.cut=true∨i<(f.at j).length
theorem NH {f g:bD}{i k:Nat}{y:UInt8} (h0:g.at k=iL (f.at k) i y) (hw:∀ j,k≤j→g.waits[j]?=f.waits[j]?) (hp:Past f i k f.waits.length) :
  ∀ j,k≤j→j≤f.waits.length→g.at j=iL (f.at j) i y:=by
 intro j hj
 induction hj with
 |refl=>intro _;exact h0
 |@step j hk ih=>
  intro hl
  have h1:f.waits[j]?=some (f.waits[j]'oQ):=List.getElem?_eq_getElem _
  have h2:g.waits[j]?=some (f.waits[j]'oQ):=by rw [hw j hk];exact h1
  rw [f.xK j _ h1,g.xK j _ h2,ih oQ]
  exact acD _ _ _ _ (hp j _ hk oQ h1)
theorem TR (f:bD) (i:Nat) (y:UInt8):∀ n,n≤f.waits.length →
  (wR f i y n=none∧Past f i 0 n) ∨
  ∃ (k:Nat) (c:iF),k<n∧f.waits[k]?=some c∧c.cut=false∧(f.at k).length≤i∧wR f i y n=some (f.waits.set k { c with b:=iL c.b (i - (f.at k).length) y })∧Past f i (k+1) n
 |0,_=> .inl ⟨rfl,fun j c _ h=>by omega⟩
 |n+1,hn=>by
  have h1:f.waits[n]?=some (f.waits[n]'oQ):=List.getElem?_eq_getElem _
  generalize f.waits[n]'oQ=c at h1
  have step:(c.cut=true∨i<(f.at n).length)→wR f i y (n+1)=wR f i y n:=by
   intro h
   show (match f.waits[n]? with|none=>_|some c=>_)=_
   rw [h1]
   simp only
   rcases h with h|h
   ·rw [if_pos h]
   ·split
    ·rfl
    ·rw [if_neg oQ]
  have past:∀ k,(c.cut=true∨i<(f.at n).length)→Past f i k n→Past f i k (n+1):=by
   intro k h hp j d hk hj hd
   rcases Nat.lt_or_ge j n with hlt|hge
   ·exact hp j d hk hlt hd
   ·obtain rfl:j=n:=by omega
    rw [h1]at hd;cases hd;exact h
  by_cases h:c.cut=true∨i<(f.at n).length
  ·rcases TR f i y n oQ with ⟨h2,h3⟩|⟨k,d,h2,h3,h4,h5,h6,h7⟩
   ·exact .inl ⟨(step h).trans h2,past 0 h h3⟩
   ·exact .inr ⟨k,d,by omega,h3,h4,h5,(step h).trans h6,past _ h h7⟩
  ·have hc:c.cut=false:=by cases hcc:c.cut;rfl;exact absurd (.inl hcc) h
   have hl:(f.at n).length≤i:=Nat.le_of_not_lt fun h'=>h (.inr h')
   refine .inr ⟨n,c,by omega,h1,hc,hl,?_,fun j d hk hj=>by omega⟩
   show (match f.waits[n]? with|none=>_|some c=>_)=_
   rw [h1]
   simp only [hc,Bool.false_eq_true,if_false]
   rw [if_pos hl]
theorem TS {f g:bD}{K:Nat} (h:f.Ok K) (h0:g.fast.length=f.fast.length) (hw:g.waits.length=f.waits.length)
  (hc:∀ (k:Nat) (c d:iF),f.waits[k]?=some c→g.waits[k]?=some d→Alike c d) (hn:g.now=g.at f.waits.length):g.Ok K:=by
 have hl:=at_len h0 hw hc
 refine ⟨by rw [hw];exact hn,?_,?_,by rw [hw];exact h.budget⟩
 ·intro k d hk hd
  have hlt:k<g.waits.length:=(List.getElem?_eq_some_iff.1 hk).1
  obtain ⟨c,hcc⟩:∃ c,f.waits[k]?=some c:=⟨f.waits[k]'oQ,List.getElem?_eq_getElem _⟩
  obtain ⟨a1,a2,a3⟩:=hc k c d hcc hk
  rw [hl k oQ,a2]
  exact h.cuts k c hcc (by rw [← a1];exact hd)
 ·intro k hk
  rw [hl k oQ]
  exact h.size k oQ
theorem bD.Ok.lX {f:bD}{K:Nat} (h:f.Ok K) (i:Nat) (y:UInt8):(f.lX i y).Ok K∧(f.lX i y).now=iL f.now i y:=by
 rcases TR f i y f.waits.length (Nat.le_refl _) with ⟨h1,h2⟩|⟨k,c,hk,hc,hcut,hlen,h1,h2⟩
 ·have e:f.lX i y={ f with now:=iL f.now i y,fast:=iL f.fast i y }:=by unfold bD.lX;rw [h1]
  rw [e]
  refine ⟨TS h (LK _ _ _) rfl (fun k c d h3 h4=>?_) ?_,rfl⟩
  ·rw [h3]at h4;cases h4;exact ⟨rfl,rfl,rfl⟩
  ·have:=NH (f:=f) (g:={ f with now:=iL f.now i y,fast:=iL f.fast i y }) (i:=i) (k:=0) (y:=y) rfl (fun j _=>rfl) h2 f.waits.length (Nat.zero_le _) (Nat.le_refl _)
   rw [this,← h.now]
 ·have e:f.lX i y={ f with now:=iL f.now i y,waits:=f.waits.set k { c with b:=iL c.b (i - (f.at k).length) y } }:=by unfold bD.lX;rw [h1]
  rw [e]
  have hset:(f.waits.set k { c with b:=iL c.b (i - (f.at k).length) y })[k]?=some { c with b:=iL c.b (i - (f.at k).length) y }:=by rw [List.getElem?_set_self hk]
  refine ⟨TS h rfl (by simp) (fun j c' d h3 h4=>?_) ?_,rfl⟩
  ·simp only at h4
   by_cases hj:k=j
   ·subst hj
    rw [hset]at h4
    rw [hc]at h3
    cases h3;cases h4
    exact ⟨rfl,rfl,LK _ _ _⟩
   ·rw [List.getElem?_set_ne hj,h3]at h4
    cases h4;exact ⟨rfl,rfl,rfl⟩
  ·generalize hg:({ f with now:=iL f.now i y,waits:=f.waits.set k { c with b:=iL c.b (i - (f.at k).length) y } }:bD)=g
   have hgw:g.waits=f.waits.set k { c with b:=iL c.b (i - (f.at k).length) y }:=by rw [← hg]
   have hgf:g.fast=f.fast:=by rw [← hg]
   have hgn:g.now=iL f.now i y:=by rw [← hg]
   have hk0:g.at k=f.at k:=by unfold bD.at;rw [hgw,hgf,List.take_set_of_le (Nat.le_refl _)]
   have hk1:g.at (k+1)=iL (f.at (k+1)) i y:=by
    rw [g.xK k _ (by rw [hgw];exact hset),hk0,f.xK k c hc]
    unfold iF.on
    simp only [hcut,Bool.false_eq_true,if_false]
    rw [ag4 y c.b hlen]
   have:=NH hk1 (fun j hj=>by rw [hgw,List.getElem?_set_ne oQ]) h2 f.waits.length hk (Nat.le_refl _)
   rw [this,hgn,← h.now]
structure Cal where
 kind:Int
 name:ByteArray
 to:ByteArray
 n:Int
 m:Int
 b:Bs
 l:List Int
def yB (m:Int):UInt8:=UInt8.ofNat (m%256).toNat
def aB.does (M:aB) (x:Cal):aB×(Bs×Int×Bool):=
 if x.kind=0 then ((M.create x.name).1,[],(M.create x.name).2,false)
 else if x.kind=1 then ((M.append x.name x.b).1,[],(M.append x.name x.b).2,false)
 else if x.kind=2 then ((M.truncate x.name x.n).1,[],(M.truncate x.name x.n).2,false)
 else if x.kind=3 then ((M.rename x.name x.to).1,[],(M.rename x.name x.to).2,false)
 else if x.kind=4 then ((M.remove x.name).1,[],(M.remove x.name).2,false)
 else if x.kind=5 then ((M.sync x.name).1,[],(M.sync x.name).2,false)
 else if x.kind=6 then (M.jG.1,[],M.jG.2,false)
 else if x.kind=7 then ((M.arm x.n).1,[],(M.arm x.n).2,false)
 else if x.kind=8 then (M.crash x.l,[],0,false)
 else if x.kind=9 then ((M.zZ x.n).1,[],(M.zZ x.n).2,false)
 else if x.kind=10 then ((M.lX x.name x.n (yB x.m)).1,[],0,(M.lX x.name x.n (yB x.m)).2)
 else (M,(M.read x.name x.n x.m).1,(M.read x.name x.n x.m).2,false)
theorem aB.YV {P:aB×Bs×Int×Bool→Prop}{M:aB}{x:Cal}
  (h0:x.kind=0→P ((M.create x.name).1,[],(M.create x.name).2,false))
  (h1:x.kind=1→P ((M.append x.name x.b).1,[],(M.append x.name x.b).2,false))
  (h2:x.kind=2→P ((M.truncate x.name x.n).1,[],(M.truncate x.name x.n).2,false))
  (h3:x.kind=3→P ((M.rename x.name x.to).1,[],(M.rename x.name x.to).2,false))
  (h4:x.kind=4→P ((M.remove x.name).1,[],(M.remove x.name).2,false))
  (h5:x.kind=5→P ((M.sync x.name).1,[],(M.sync x.name).2,false))
  (h6:x.kind=6→P (M.jG.1,[],M.jG.2,false))
  (h7:x.kind=7→P ((M.arm x.n).1,[],(M.arm x.n).2,false))
  (h8:x.kind=8→P (M.crash x.l,[],0,false))
  (h9:x.kind=9→P ((M.zZ x.n).1,[],(M.zZ x.n).2,false))
  (h10:x.kind=10→P ((M.lX x.name x.n (yB x.m)).1,[],0,(M.lX x.name x.n (yB x.m)).2))
  (hz:x.kind≠0∧x.kind≠1∧x.kind≠2∧x.kind≠3∧x.kind≠4∧x.kind≠5∧x.kind≠6∧x.kind≠7∧x.kind≠8∧x.kind≠9∧x.kind≠10→P (M,(M.read x.name x.n x.m).1,(M.read x.name x.n x.m).2,false)):P (M.does x):=by
 unfold aB.does
 by_cases c0:x.kind=0;· rw [if_pos c0];exact h0 c0
 rw [if_neg c0]
 by_cases c1:x.kind=1;· rw [if_pos c1];exact h1 c1
 rw [if_neg c1]
 by_cases c2:x.kind=2;· rw [if_pos c2];exact h2 c2
 rw [if_neg c2]
 by_cases c3:x.kind=3;· rw [if_pos c3];exact h3 c3
 rw [if_neg c3]
 by_cases c4:x.kind=4;· rw [if_pos c4];exact h4 c4
 rw [if_neg c4]
 by_cases c5:x.kind=5;· rw [if_pos c5];exact h5 c5
 rw [if_neg c5]
 by_cases c6:x.kind=6;· rw [if_pos c6];exact h6 c6
 rw [if_neg c6]
 by_cases c7:x.kind=7;· rw [if_pos c7];exact h7 c7
 rw [if_neg c7]
 by_cases c8:x.kind=8;· rw [if_pos c8];exact h8 c8
 rw [if_neg c8]
 by_cases c9:x.kind=9;· rw [if_pos c9];exact h9 c9
 rw [if_neg c9]
 by_cases c10:x.kind=10;· rw [if_pos c10];exact h10 c10
 rw [if_neg c10]
 exact hz ⟨c0,c1,c2,c3,c4,c5,c6,c7,c8,c9,c10⟩
structure Quiet (M:aB):Prop where
 armed:M.armed=false
 off:M.off=false
 left:M.left=0
theorem Quiet.new (r:Nat):Quiet (new r):=⟨rfl,rfl,rfl⟩
theorem Quiet.step {M:aB} (h:Quiet M):M.step=(M,true):=by simp [aB.step,h.armed]
theorem Quiet.link {M:aB} (h:Quiet M) (x:iW):Quiet (M.link x):=⟨h.armed,h.off,h.left⟩
theorem Quiet.ig {M:aB} (h:Quiet M) (i:Nat) (f:bD):Quiet (M.ig i f):=⟨h.armed,h.off,h.left⟩
theorem Quiet.create {M:aB} (h:Quiet M) (s:ByteArray):Quiet (M.create s).1:=by
 unfold aB.create
 rw [h.step]
 split;· exact h
 split;· exact h
 split;· exact h
 split;· exact h
 split;· exact h
 exact ⟨h.armed,h.off,h.left⟩
theorem Quiet.append {M:aB} (h:Quiet M) (s:ByteArray) (b:Bs):Quiet (M.append s b).1:=by
 unfold aB.append
 rw [h.step]
 split;· exact h
 split;· exact h
 split;· exact h
 split;· exact h
 exact h.ig _ _
theorem Quiet.remove {M:aB} (h:Quiet M) (s:ByteArray):Quiet (M.remove s).1:=by
 unfold aB.remove
 rw [h.step]
 split;· exact h
 split;· exact h
 split;· exact h
 exact h.link _
theorem Quiet.sync {M:aB} (h:Quiet M) (s:ByteArray):Quiet (M.sync s).1:=by
 unfold aB.sync
 rw [h.step]
 split;· exact h
 split;· exact h
 split;· exact h
 exact h.ig _ _
theorem Quiet.UW {M:aB} (h:Quiet M){s:ByteArray}{i:Nat} (hs:dD M.now s=some i):M.sync s=(M.ig i (M.file i).sync,0):=by
 unfold aB.sync
 rw [h.step,h.off,hs]
 rfl
theorem Bj {M:aB}{i:Nat}{f:bD} (hi:i<M.files.length) (j:Nat):(M.ig i f).file j=if j=i then f else M.file j:=by
 unfold aB.ig aB.file
 simp only [List.getD_eq_getElem?_getD]
 split
 ·rename_i h;subst h;rw [List.getElem?_set_self hi];rfl
 ·rename_i h;rw [List.getElem?_set_ne (Ne.symm h)]
theorem Quiet.list {M:aB} (h:Quiet M):M.list=M.now.map (·.1):=by unfold aB.list;rw [h.off];rfl
def qg (M:aB):Prop:=(M.now.map (·.2)).Nodup
theorem Ll {M:aB} (hs:mV M.now) (hd:qg M){s:ByteArray}{i:Nat} (h:dD M.now s=some i) :
  (∀ p∈gI M.now s,p.2≠i)∧∀ g:Nat→Nat,(M.now.map fun p=>g p.2).sum=g i+((gI M.now s).map fun p=>g p.2).sum:=by
 have hp:=RY hs.keys (kX h)
 constructor
 ·have hd':(M.now.map fun p:ByteArray×Nat=>p.2).Nodup:=hd
  have:=(hp.map (fun p:ByteArray×Nat=>p.2)).nodup_iff.1 hd'
  simp only [List.map_cons,List.nodup_cons]at this
  intro p hp e
  exact this.1 (List.mem_map.2 ⟨p,hp,e⟩)
 ·intro g
  have:=(hp.map fun p=>g p.2).sum_nat
  simpa using this
theorem FI {l:Names}{g h:Nat→Nat} (e:∀ p∈l,g p.2=h p.2):(l.map fun p=>g p.2).sum=(l.map fun p=>h p.2).sum:=by
 rw [List.map_congr_left e]
theorem Vd {M:aB}{K:Nat} (ok:M.Ok K) (hd:qg M){s:ByteArray}{i:Nat} (h:dD M.now s=some i) (f:bD) :
  (M.ig i f).used+(M.file i).now.length=M.used+f.now.length:=by
 obtain ⟨h1,h2⟩:=Ll ok.iO.qM hd h
 have hi:i<M.files.length:=ok.iO.ids _ (kX h)
 have e1:=h2 fun j=>(M.file j).now.length
 have e2:=h2 fun j=>((M.ig i f).file j).now.length
 have e3:((gI M.now s).map fun p=>((M.ig i f).file p.2).now.length).sum=((gI M.now s).map fun p=>(M.file p.2).now.length).sum:=
  FI (g:=fun j=>((M.ig i f).file j).now.length) (h:=fun j=>(M.file j).now.length) fun p hp=>by rw [Bj hi,if_neg (h1 p hp)]
 have e4:(M.ig i f).file i=f:=by rw [Bj hi,if_pos rfl]
 simp only [e4,e3]at e2
 show (M.now.map fun p=>((M.ig i f).file p.2).now.length).sum+_=(M.now.map fun p=>(M.file p.2).now.length).sum+_
 rw [e1,e2]
 omega
theorem UQ (l:Names) (s:ByteArray) (g:Nat→Nat):((gI l s).map fun p=>g p.2).sum≤(l.map fun p=>g p.2).sum:=by
 induction l with
 |nil=>exact Nat.le_refl _
 |cons p l ih=>
  unfold gI at ih ⊢
  rw [List.filter_cons]
  split
  ·simp only [List.map_cons,List.sum_cons];omega
  ·simp only [List.map_cons,List.sum_cons];omega
theorem FK (l:Names) (s:ByteArray) (i:Nat) (g:Nat→Nat):((kY l s i).map fun p=>g p.2).sum=g i+((gI l s).map fun p=>g p.2).sum:=by
 have:=((wO l s i).map fun p=>g p.2).sum_nat
 simpa using this
theorem Sz {l:Names}{s:ByteArray}{i:Nat} (h:(l.map (·.2)).Nodup) (hi:∀ p∈l,p.2≠i):((kY l s i).map (·.2)).Nodup:=by
 refine ((wO l s i).map (·.2)).nodup_iff.2 ?_
 simp only [List.map_cons,List.nodup_cons]
 refine ⟨fun hm=>?_,h.sublist (List.filter_sublist.map _)⟩
 obtain ⟨p,hp,e⟩:=List.mem_map.1 hm
 exact hi p (List.mem_filter.1 hp).1 e
structure Fits (M M':aB):Prop where
 room:M'.room=M.room
 dst:qg M'
 used:M'.used≤M'.room
theorem afG (M:aB):M.step.1.room=M.room∧M.step.1.now=M.now∧M.step.1.files=M.files:=⟨M.jW.1,M.jW.2.2.1,M.jW.2.2.2.1⟩
theorem Fits.self {M:aB} (hd:qg M) (hu:M.used≤M.room):Fits M M:=⟨rfl,hd,hu⟩
theorem Vb {M M':aB} (h1:M'.now=M.now) (h2:M'.files=M.files):M'.used=M.used:=by unfold aB.used aB.file;rw [h1,h2]
theorem Fits.alike {M M':aB} (hd:qg M) (hu:M.used≤M.room) (hr:M'.room=M.room) (h1:M'.now=M.now) (h2:M'.files=M.files):Fits M M':=
 ⟨hr,by unfold qg;rw [h1];exact hd,by rw [Vb h1 h2,hr];exact hu⟩
theorem Fits.set {M M':aB}{K:Nat} (ok:M.Ok K) (hd:qg M) (hu:M.used≤M.room) (hr:M'.room=M.room) (h1:M'.now=M.now) (h2:M'.files=M.files){s:ByteArray}{i:Nat} (h:dD M.now s=some i) (f:bD)
  (hf:M.used+f.now.length≤M.room+(M.file i).now.length):Fits M (M'.ig i f):=by
 have e:(M'.ig i f).used=(M.ig i f).used:=Vb (by exact h1) (by show M'.files.set i f=M.files.set i f;rw [h2])
 have:=Vd ok hd h f
 refine ⟨hr,by show (M'.now.map (·.2)).Nodup;rw [h1];exact hd,?_⟩
 rw [e]
 show _≤M'.room
 rw [hr]
 omega
theorem Fits.does {M:aB}{K:Nat} (ok:M.Ok K) (hd:qg M) (hu:M.used≤M.room) (x:Cal) (h8:x.kind≠8) (h9:x.kind≠9) :
  Fits M (M.does x).1∧((M.does x).2.2.1=11→x.kind=1∧M.room<M.rU+x.b.length):=by
 have r:=Fits.self hd hu
 obtain ⟨s1,s2,s3⟩:=afG M
 have rs:Fits M M.step.1:=Fits.alike hd hu s1 s2 s3
 refine aB.YV (P:=fun q=>Fits M q.1∧(q.2.2.1=11→x.kind=1∧M.room<M.rU+x.b.length)) ?_ ?_ ?_ ?_ ?_ ?_ ?_ ?_ ?_ ?_ ?_ ?_
 ·intro _
  show Fits M (M.create x.name).1∧((M.create x.name).2=11→_)
  unfold aB.create
  split;· exact ⟨r,by simp⟩
  split;· exact ⟨r,by simp⟩
  rename_i hg
  split;· exact ⟨r,by simp⟩
  rename_i hn
  split;· exact ⟨r,by simp⟩
  split;· exact ⟨rs,by simp⟩
  refine ⟨?_,by simp⟩
  have hnn:dD M.now x.name=none:=by simpa using hn
  have hlt:=ok.iO.ids
  have hne:x.name≠ByteArray.empty:=vW (by simpa using hg)
  have vV:(({ M.step.1 with files:=M.files++[bD.new] }:aB).link ⟨ByteArray.empty,x.name,M.files.length⟩).now=kY M.now x.name M.files.length:=by
   show iW.on _ M.step.1.now=_
   rw [s2]
   unfold iW.on
   simp only [if_true,if_neg hne]
  have hdel:=yC hnn
  refine ⟨s1,?_,?_⟩
  ·unfold qg
   rw [vV]
   exact Sz hd fun p hp e=>by have:=hlt p hp;omega
  ·have:(({ M.step.1 with files:=M.files++[bD.new] }:aB).link ⟨ByteArray.empty,x.name,M.files.length⟩).used=M.used:=by
    show ((aB.now _).map fun p=>(aB.file _ p.2).now.length).sum=_
    rw [vV,FK _ _ _ (fun j=>(aB.file _ j).now.length),hdel]
    have e0:((({ M.step.1 with files:=M.files++[bD.new] }:aB).link ⟨ByteArray.empty,x.name,M.files.length⟩).file M.files.length).now.length=0:=by
     simp [aB.file,aB.link,bD.new]
    rw [e0,Nat.zero_add]
    refine FI (g:=fun j=>(aB.file _ j).now.length) (h:=fun j=>(M.file j).now.length) fun p hp=>?_
    have:=hlt p hp
    simp only [aB.file,aB.link,List.getD_eq_getElem?_getD]
    rw [List.getElem?_append_left this]
   rw [this]
   show _≤M.step.1.room
   rw [s1];exact hu
 ·intro hk1
  show Fits M (M.append x.name x.b).1∧((M.append x.name x.b).2=11→_)
  unfold aB.append
  split;· exact ⟨r,by simp⟩
  rename_i hoff
  split;· exact ⟨r,by simp⟩
  rename_i i hi
  split
  ·rename_i hfull
   refine ⟨r,fun _=>⟨hk1,?_⟩⟩
   have:M.rU=M.used:=by unfold aB.rU;rw [if_neg hoff]
   rw [this];omega
  rename_i hfull
  split;· exact ⟨rs,by simp⟩
  refine ⟨Fits.set ok hd hu s1 s2 s3 hi _ ?_,by simp⟩
  simp only [bD.do,iF.on,Bool.false_eq_true,if_false,List.length_append]
  omega
 ·intro _
  show Fits M (M.truncate x.name x.n).1∧((M.truncate x.name x.n).2=11→_)
  unfold aB.truncate
  split;· exact ⟨r,by simp⟩
  split;· exact ⟨r,by simp⟩
  rename_i i hi
  split;· exact ⟨r,by simp⟩
  split;· exact ⟨rs,by simp⟩
  refine ⟨Fits.set ok hd hu s1 s2 s3 hi _ ?_,by simp⟩
  simp only [bD.do,iF.on,if_true,List.length_take]
  omega
 ·intro _
  show Fits M (M.rename x.name x.to).1∧((M.rename x.name x.to).2=11→_)
  unfold aB.rename
  split;· exact ⟨r,by simp⟩
  split;· exact ⟨r,by simp⟩
  rename_i i hi
  split;· exact ⟨r,by simp⟩
  rename_i hg
  split;· exact ⟨rs,by simp⟩
  refine ⟨?_,by simp⟩
  have hne:x.to≠ByteArray.empty:=vW (by simpa using hg)
  have hs:x.name≠ByteArray.empty:=ok.iO.ne _ (kX hi)
  obtain ⟨h1,h2⟩:=Ll ok.iO.qM hd hi
  have vV:(M.step.1.link ⟨x.name,x.to,i⟩).now=kY (gI M.now x.name) x.to i:=by
   show iW.on _ M.step.1.now=_
   rw [s2]
   unfold iW.on
   simp only [if_neg hs,if_neg hne]
  refine ⟨s1,?_,?_⟩
  ·unfold qg
   rw [vV]
   exact Sz (hd.sublist (List.filter_sublist.map _)) h1
  ·have e1:=h2 fun j=>(M.file j).now.length
   have e2:=UQ (gI M.now x.name) x.to fun j=>(M.file j).now.length
   have:(M.step.1.link ⟨x.name,x.to,i⟩).used=((kY (gI M.now x.name) x.to i).map fun p=>(M.file p.2).now.length).sum:=by
    show ((aB.now _).map fun p=>(aB.file _ p.2).now.length).sum=_
    rw [vV]
    unfold aB.file aB.link
    simp only [s3]
   rw [this,FK _ _ _ (fun j=>(M.file j).now.length)]
   show _≤M.step.1.room
   rw [s1]
   unfold aB.used at hu
   omega
 ·intro _
  show Fits M (M.remove x.name).1∧((M.remove x.name).2=11→_)
  unfold aB.remove
  split;· exact ⟨r,by simp⟩
  split;· exact ⟨r,by simp⟩
  rename_i i hi
  split;· exact ⟨rs,by simp⟩
  refine ⟨?_,by simp⟩
  have hs:x.name≠ByteArray.empty:=ok.iO.ne _ (kX hi)
  have vV:(M.step.1.link ⟨x.name,ByteArray.empty,0⟩).now=gI M.now x.name:=by
   show iW.on ⟨x.name,ByteArray.empty,0⟩ M.step.1.now=_
   rw [s2]
   unfold iW.on
   simp only [if_neg hs,if_true]
  refine ⟨s1,?_,?_⟩
  ·unfold qg
   rw [vV]
   exact hd.sublist (List.filter_sublist.map _)
  ·have e2:=UQ M.now x.name fun j=>(M.file j).now.length
   have:(M.step.1.link ⟨x.name,ByteArray.empty,0⟩).used=((gI M.now x.name).map fun p=>(M.file p.2).now.length).sum:=by
    show ((aB.now _).map fun p=>(aB.file _ p.2).now.length).sum=_
    rw [vV]
    unfold aB.file aB.link
    simp only [s3]
   rw [this]
   show _≤M.step.1.room
   rw [s1]
   unfold aB.used at hu
   omega
 ·intro _
  show Fits M (M.sync x.name).1∧((M.sync x.name).2=11→_)
  unfold aB.sync
  split;· exact ⟨r,by simp⟩
  split;· exact ⟨r,by simp⟩
  rename_i i hi
  split;· exact ⟨rs,by simp⟩
  refine ⟨Fits.set ok hd hu s1 s2 s3 hi _ ?_,by simp⟩
  simp only [bD.sync]
  omega
 ·intro _
  show Fits M M.jG.1∧(M.jG.2=11→_)
  unfold aB.jG
  split;· exact ⟨r,by simp⟩
  split;· exact ⟨rs,by simp⟩
  exact ⟨Fits.alike hd hu s1 s2 s3,by simp⟩
 ·intro _
  show Fits M (M.arm x.n).1∧((M.arm x.n).2=11→_)
  unfold aB.arm
  split;· exact ⟨r,by simp⟩
  split;· exact ⟨r,by simp⟩
  exact ⟨Fits.alike hd hu rfl rfl rfl,by simp⟩
 ·exact fun h=>absurd h h8
 ·exact fun h=>absurd h h9
 ·intro _
  refine ⟨?_,fun h=>by simp at h⟩
  show Fits M (M.lX x.name x.n (yB x.m)).1
  unfold aB.lX
  split;· exact r
  rename_i i hi
  split;· exact r
  refine Fits.set ok hd hu rfl rfl rfl hi _ ?_
  rw [((ok.file i).lX _ _).2,LK]
  omega
 ·intro _
  refine ⟨r,fun h=>?_⟩
  exfalso
  have h':(M.read x.name x.n x.m).2=11:=h
  unfold aB.read at h'
  revert h'
  split
  ·simp
  split
  ·simp
  simp only
  split
  ·simp
  split
  ·simp
  ·simp
def aB.Fe (m:aB) (s t:ByteArray) (gone:Bool):aB×Int:=
 if m.off then (m,12)
 else match dD m.now s with
 |none=>(m,9)
 |some i=>
  if gone=false∧good t=false then (m,7)
  else if m.step.2=false then (m.step.1,12)
  else (m.step.1.link ⟨s,if gone then ByteArray.empty else t,i⟩,0)
def aB.adA (D:aB) (l:List Int) (i:Nat) (p:ByteArray×Nat):bD:=(D.file p.2).crash (num l (2 * i+1)) (num l (2 * i+2))
def aB.adk (D:aB) (l:List Int):aB:=
 let ns:=D.mF (Eb (num l 0) D.waits.length)
 { D with fast:=ns.mapIdx fun i p=>(p.1,i),now:=ns.mapIdx fun i p=>(p.1,i),waits:=[],files:=ns.mapIdx (D.adA l),off:=false,armed:=false,left:=0 }
def aB.told (D:aB) (x:Cal):aB×(Bs×Int×Bool):=
 if x.kind=0 then ((D.create x.name).1,[],(D.create x.name).2,false)
 else if x.kind=1 then ((D.append x.name x.b).1,[],(D.append x.name x.b).2,false)
 else if x.kind=2 then ((D.truncate x.name x.n).1,[],(D.truncate x.name x.n).2,false)
 else if x.kind=3 then ((D.Fe x.name x.to false).1,[],(D.Fe x.name x.to false).2,false)
 else if x.kind=4 then ((D.Fe x.name ByteArray.empty true).1,[],(D.Fe x.name ByteArray.empty true).2,false)
 else if x.kind=5 then ((D.sync x.name).1,[],(D.sync x.name).2,false)
 else if x.kind=6 then (D.jG.1,[],D.jG.2,false)
 else if x.kind=7 then ((D.arm x.n).1,[],(D.arm x.n).2,false)
 else if x.kind=8 then (D.adk x.l,[],0,false)
 else if x.kind=9 then ((D.zZ x.n).1,[],(D.zZ x.n).2,false)
 else if x.kind=10 then ((D.lX x.name x.n (yB x.m)).1,[],0,(D.lX x.name x.n (yB x.m)).2)
 else (D,(D.read x.name x.n x.m).1,(D.read x.name x.n x.m).2,false)
def ren (φ:Nat→Nat) (l:Names):Names:=l.map fun p=>(p.1,φ p.2)
structure Side (φ:Nat→Nat) (L:Nat→Prop) (M D:aB):Prop where
 room:D.room=M.room
 armed:D.armed=M.armed
 left:D.left=M.left
 off:D.off=M.off
 wl:D.waits.length=M.waits.length
 now:D.now=ren φ M.now
 names:∀ k,k≤M.waits.length→D.mF k=ren φ (M.mF k)
 live:∀ k,k≤M.waits.length→∀ p∈M.mF k,L p.2
 once:∀ k,k≤M.waits.length→((M.mF k).map (·.2)).Nodup
 inj:∀ i j,L i→L j→φ i=φ j→i=j
 file:∀ i,L i→D.file (φ i)=M.file i
 lt:∀ i,L i→φ i<D.files.length
 ml:∀ i,L i→i<M.files.length
section
variable {φ:Nat→Nat}{L:Nat→Prop}{M D:aB}{K:Nat}
end
section
variable {φ:Nat→Nat}{L:Nat→Prop}{M D:aB}{K:Nat}
def Both (r q:aB×Int):Prop:=r.2=q.2∧∃ φ L,Side φ L r.1 q.1
end
def bD.Small (f:bD):Prop:=∀ c∈f.waits,c.b.length≤16777216
def aB.Small (m:aB):Prop:=∀ f∈m.files,f.Small
end Go.aB
namespace Go.ak
theorem J3 (l:Bs) (c:UInt8):num (l++[c])=num l+c.toNat * 256^l.length:=by
 induction l with
 |nil=>show c.toNat+256 * 0=0+c.toNat * 1;omega
 |cons d l ih=>
  show d.toNat+256 * num (l++[c])=d.toNat+256 * num l+c.toNat * 256^(l.length+1)
  rw [ih,Nat.pow_succ,Nat.mul_add,← Nat.mul_assoc,Nat.mul_comm 256 (c.toNat),Nat.mul_assoc,Nat.mul_comm 256 (256^l.length),← Nat.add_assoc]
end Go.ak
namespace Go.Proofs.YtlimfgdbfadohaaGreatDoor
open Go Go.Sl Go.aB Go.MapKept Go.RowKit
section
variable {w0 w:World}{F R:List aC}{v bv dv x lv:Value}
theorem EU (l:Bs) (c:UInt8) (k:Nat) (hl:l.length=k) (hk:k<7):bits .or .u64 ((ak.num l:Nat):Int) ((c.toNat:Int) * ((256^k:Nat):Int))=((ak.num (l++[c]):Nat):Int):=by
 subst hl
 have h1:=ak.sJ l
 have h2:=c.toNat_lt
 have h3:256^l.length≤256^6:=Nat.pow_le_pow_right aJ oQ
 have h4:c.toNat * 256^l.length≤255 * 256^6:=Nat.mul_le_mul oQ h3
 have h5:(256:Nat)^6=281474976710656:=by decide
 have e:(c.toNat:Int) * ((256^l.length:Nat):Int)=((c.toNat * 256^l.length:Nat):Int):=by rw [Int.natCast_mul]
 rw [e,u64_or_nat _ _ oQ oQ,ak.J3]
 congr 1
 have hp:(256:Nat)^l.length=2^(8 * l.length):=by rw [Nat.pow_mul]
 rw [hp]at h1 ⊢
 have:=Nat.two_pow_add_eq_or_of_lt h1 c.toNat
 rw [Nat.or_comm,Nat.mul_comm c.toNat,← this,Nat.add_comm]
theorem Kw {k:Nat}{l:Bs}{a:Option Addr}{n c:Nat} (h:bK 1 (.slice a n c) (ay l) w):bK 1 (.slice a (min n k) c) (ay (l.take k)) w:=by
 obtain ⟨a',n',c',he,hl,hx⟩:=h
 cases he
 rw [aU,Nat.mul_one]at hl
 refine ⟨a,_,c,rfl,by rw [aU,List.length_take];omega,fun j y hj=>?_⟩
 have hj':(ay l)[j]?=some y:=by
  unfold ay at hj ⊢
  rw [List.map_take,List.getElem?_take]at hj
  split at hj
  ·exact hj
  ·cases hj
 exact hx j y hj'
set_option maxRecDepth 20000 in
theorem ZN (c0 c1 c2 c3:UInt8) (a:Option Addr) (c:Nat) (h:bK 1 (.slice a 4 c) (ay [c0,c1,c2,c3]) w) :
  Calls Tryz.prog 101 #[.slice a 4 c] w (aI fun v w'=>v = .tuple #[.int .u64 (ak.num [c0,c1,c2,c3]:Nat),.bool true]∧w=w'):=by
 obtain ⟨bk,off,rfl,hc⟩:=iU h (i:=0) rfl
 have e0:w.cell? ⟨bk,off,none⟩=some (.int .u8 c0.toNat):=hc 0 _ rfl
 have e1:w.cell? ⟨bk,off+1,none⟩=some (.int .u8 c1.toNat):=hc 1 _ rfl
 have e2:w.cell? ⟨bk,off+2,none⟩=some (.int .u8 c2.toNat):=hc 2 _ rfl
 have e3:w.cell? ⟨bk,off+3,none⟩=some (.int .u8 c3.toNat):=hc 3 _ rfl
 have b0:=c0.toNat_lt;have b1:=c1.toNat_lt;have b2:=c2.toNat_lt;have b3:=c3.toNat_lt
 clear hc h
 go_enter Tryz.func101,Tryz.ntmps101
 go_wp2_with fail
 go_loopg [17,4] 4 (fun g iq xq wr=>∃ i:Nat,g=4 - i∧i≤4∧iq = .int .i64 i∧xq = .int .u64 (ak.num ([c0,c1,c2,c3].take i):Nat)∧wr=w)
 case atStart=>exact ⟨0,rfl,by omega,rfl,rfl,rfl⟩
 case round=>
  obtain ⟨i,rfl,hi,rfl,rfl,rfl⟩:=hrel
  by_cases h4:i<4
  ·have h0:i=0∨i=1∨i=2∨i=3:=by omega
   clear hi h4
   rcases h0 with rfl|rfl|rfl|rfl
   ·have hq:bits .or .u64 ((ak.num []:Nat):Int) (c0.toNat:Int)=((ak.num [c0]:Nat):Int):=by
     have:=EU [] c0 0 rfl aJ
     simpa using this
    go_wp2_with fail
    go_roundg (4 - 1)
    case measure=>decide
    case rel=>exact ⟨1,rfl,by decide,by first|rfl|go_num,rfl,rfl⟩
   ·have hq:bits .or .u64 ((ak.num [c0]:Nat):Int) ((c1.toNat:Int) * 256)=((ak.num [c0,c1]:Nat):Int):=EU [c0] c1 1 rfl aJ
    go_wp2_with fail
    go_roundg (4 - 2)
    case measure=>decide
    case rel=>exact ⟨2,rfl,by decide,by first|rfl|go_num,rfl,rfl⟩
   ·have hq:bits .or .u64 ((ak.num [c0,c1]:Nat):Int) ((c2.toNat:Int) * 65536)=((ak.num [c0,c1,c2]:Nat):Int):=EU [c0,c1] c2 2 rfl aJ
    go_wp2_with fail
    go_roundg (4 - 3)
    case measure=>decide
    case rel=>exact ⟨3,rfl,by decide,by first|rfl|go_num,rfl,rfl⟩
   ·have hq:bits .or .u64 ((ak.num [c0,c1,c2]:Nat):Int) ((c3.toNat:Int) * 16777216)=((ak.num [c0,c1,c2,c3]:Nat):Int):=EU [c0,c1,c2] c3 3 rfl aJ
    go_wp2_with fail
    go_roundg (4 - 4)
    case measure=>decide
    case rel=>exact ⟨4,rfl,by decide,by first|rfl|go_num,rfl,rfl⟩
  ·obtain rfl:i=4:=by omega
   go_wp2
   go_ret2
   exact ⟨_,rfl,rfl,rfl⟩
theorem four {l:Bs} (h:l.length=4):∃ c0 c1 c2 c3,l=[c0,c1,c2,c3]:=by
 match l,h with
 |[c0,c1,c2,c3],_=>exact ⟨c0,c1,c2,c3,rfl⟩
theorem PX (l:Bs) (hl:l.length=4) (a:Option Addr) (c:Nat) (h:bK 1 (.slice a 4 c) (ay l) w) :
  Calls Tryz.prog 101 #[.slice a 4 c] w (aI fun v w'=>v = .tuple #[.int .u64 (ak.num l:Nat),.bool true]∧w=w'):=by
 obtain ⟨c0,c1,c2,c3,rfl⟩:=four hl
 exact ZN c0 c1 c2 c3 a c h
theorem SE (l:Bs) (hl:4≤l.length) (a:Option Addr) (n c:Nat) (hn:n≤c) (hc:c≤9223372036854775807) (h:bK 1 (.slice a n c) (ay l) w) :
  Calls Tryz.prog 144 #[.slice a n c] w (aI fun v w'=>v = .int .u32 (ak.num (l.take 4):Nat)∧w=w'):=by
 have hln:n=l.length:=by
  obtain ⟨_,_,_,he,hl',_⟩:=h
  cases he
  rw [aU,Nat.mul_one]at hl';exact hl'.symm
 have h4:=Kw (k:=4) h
 rw [show min n 4=4 by omega]at h4
 have hg:=PX (l.take 4) (by rw [List.length_take];omega) a c h4
 have hlt:=ak.sJ (l.take 4)
 rw [List.length_take,Nat.min_eq_left hl]at hlt
 have hb:(ak.num (l.take 4):Int)<4294967296:=by omega
 have hc4:(4:Int)≤(c:Int):=by omega
 generalize ak.num (l.take 4)=N at *
 clear hlt hln h4 h hl
 have hw:IntKind.u32.wrap (N:Int)=(N:Int):=by rw [IntKind.wrap_u32];omega
 go_enter Tryz.func144,Tryz.ntmps144
 go_wp2_with (go_at_call 101;refine hg.mono ?_;rintro e w1 ⟨v,rfl,rfl,rfl⟩)
 go_ret
 exact ⟨_,rfl,rfl,rfl⟩
theorem Zx (t:UInt8) (n:Nat) (hn:n<4294967296) (w:World) :
  Calls Tryz.prog 145 #[.int .u8 t.toNat,.int .i64 n] w (aI fun v w'=>v = .bool (ak.fits t n)∧w=w'):=by
 have htl:=t.toNat_lt
 by_cases h0:t=0
 ·subst h0
  by_cases h1:41≤n
  ·by_cases h2:n≤16425
   ·have Hf:=uQ (show ak.fits 0 n=true by unfold ak.fits;rw [if_pos rfl];exact decide_eq_true ⟨h1,h2⟩)
    have c1:(41:Int)≤(n:Int):=by omega
    have c2:(n:Int)≤16425:=by omega
    clear h1 h2
    go_enter Tryz.func145,Tryz.ntmps145
    go_wp2
    go_ret
    rw [Hf.out]
    exact ⟨_,rfl,rfl,rfl⟩
   ·have Hf:=uQ (show ak.fits 0 n=false by unfold ak.fits;rw [if_pos rfl];exact decide_eq_false oQ)
    have c1:(41:Int)≤(n:Int):=by omega
    have c2:decide ((n:Int)≤16425)=false:=decide_eq_false oQ
    clear h1 h2
    go_enter Tryz.func145,Tryz.ntmps145
    go_wp2
    go_ret
    rw [Hf.out]
    exact ⟨_,rfl,rfl,rfl⟩
  ·have Hf:=uQ (show ak.fits 0 n=false by unfold ak.fits;rw [if_pos rfl];exact decide_eq_false oQ)
   have c1:decide ((41:Int)≤(n:Int))=false:=decide_eq_false oQ
   clear h1
   go_enter Tryz.func145,Tryz.ntmps145
   go_wp2
   go_ret
   rw [Hf.out]
   exact ⟨_,rfl,rfl,rfl⟩
 by_cases h1:t=1
 ·subst h1
  have Hf:=uQ (show ak.fits 1 n=decide (n=41) by unfold ak.fits;rw [if_neg aJ,if_pos rfl])
  have He:=uQ (show ((n:Int)==41)=decide (n=41) by rw [Bool.eq_iff_iff,beq_iff_eq,decide_eq_true_eq];omega)
  go_enter Tryz.func145,Tryz.ntmps145
  go_wp2
  go_ret
  rw [Hf.out,← He.out]
  exact ⟨_,rfl,rfl,rfl⟩
 by_cases h2:t=2
 ·subst h2
  have Hf:=uQ (show ak.fits 2 n=decide (n=9) by unfold ak.fits;rw [if_neg aJ,if_neg aJ,if_pos rfl])
  have He:=uQ (show ((n:Int)==9)=decide (n=9) by rw [Bool.eq_iff_iff,beq_iff_eq,decide_eq_true_eq];omega)
  go_enter Tryz.func145,Tryz.ntmps145
  go_wp2
  go_ret
  rw [Hf.out,← He.out]
  exact ⟨_,rfl,rfl,rfl⟩
 ·have Hf:=uQ (show ak.fits t n=false by unfold ak.fits;rw [if_neg h0,if_neg h1,if_neg h2])
  have g0:((t.toNat:Int)==0)=false:=by rw [beq_eq_false_iff_ne];intro h;exact h0 (UInt8.toNat_inj.1 (by rw [show (0:UInt8).toNat=0 from rfl];omega))
  have g1:((t.toNat:Int)==1)=false:=by rw [beq_eq_false_iff_ne];intro h;exact h1 (UInt8.toNat_inj.1 (by rw [show (1:UInt8).toNat=1 from rfl];omega))
  have g2:((t.toNat:Int)==2)=false:=by rw [beq_eq_false_iff_ne];intro h;exact h2 (UInt8.toNat_inj.1 (by rw [show (2:UInt8).toNat=2 from rfl];omega))
  clear h0 h1 h2
  generalize t.toNat=T at *
  go_enter Tryz.func145,Tryz.ntmps145
  go_wp2
  go_ret
  rw [Hf.out]
  exact ⟨_,rfl,rfl,rfl⟩
end
end Go.Proofs.YtlimfgdbfadohaaGreatDoor
namespace Go.ak
def Ov (long:Nat) (x:aX):aX:=⟨x.tag,x.key,x.data.take long⟩
def few (l:List aX) (n long:Nat):List aX:=(l.take n).map (Ov long)
end Go.ak
namespace Go.Proofs.YtlimfgdbfadohaaGreatDoor
open Go Go.Sl Go.aB Go.MapKept Go.RowKit
section
variable {w0 w:World}{F R:List aC}{v bv dv x lv:Value}
theorem O1 (e:ak.aX) (a:Option Addr) (n c:Nat):(dI e (.slice a n c)).toList.all (·.oneCell')=true:=by
 unfold dI kW
 rw [List.toList_toArray,List.all_cons,List.all_append]
 have:(ay e.key).all (·.oneCell')=true:=List.all_eq_true.2 (jU _)
 rw [this];rfl
end
end Go.Proofs.YtlimfgdbfadohaaGreatDoor
namespace Go.Seg
def Log.next (L:Log):Int:=match L.l.getLast? with
 |none=>0
 |some s=>s.1+1
end Go.Seg
namespace Go.Proofs.YtlimfgdbfadohaaGreatDoor
open Go Go.Sl Go.aB Go.MapKept Go.RowKit
section
variable {w0 w:World}{F:List aC}{v bv dv x lv:Value}{q p m K:Nat}{L:Seg.Log}{M:aB}
theorem Fv (l:List (Int×Int)) (i:Nat) (s:Int×Int) (h:l[i]?=some s):(dV l)[2 * i]?=some (.int .i64 s.1)∧(dV l)[2 * i+1]?=some (.int .i64 s.2):=by
 induction l generalizing i with
 |nil=>simp at h
 |cons a l ih=>
  cases i with
  |zero=>
   obtain rfl:a=s:=by simpa using h
   exact ⟨rfl,rfl⟩
  |succ i=>
   have e1:dV (a::l) = .int .i64 a.1 :: .int .i64 a.2::dV l:=rfl
   have h':l[i]?=some s:=by simpa using h
   rw [e1,show 2 * (i+1)=2 * i+1+1 by omega]
   exact ih i h'
theorem abk {s:Int×Int} (hl:L.l.getLast?=some s) (h:Sat w0 w (lI p m L lv::aF 159 2 lv (dV L.l)::F)) :
  ∃ bk n c,lv = .slice (some ⟨bk,0,none⟩) (n+1) c∧L.l.length=n+1∧w.cell? ⟨bk,2 * n,none⟩=some (.int .i64 s.1)∧w.cell? ⟨bk,2 * n+1,none⟩=some (.int .i64 s.2):=by
 rw [List.getLast?_eq_getElem?]at hl
 have hlt:=(List.getElem?_eq_some_iff.1 hl).1
 obtain ⟨n,hn⟩:∃ n,L.l.length=n+1:=⟨L.l.length - 1,by omega⟩
 rw [hn,Nat.add_sub_cancel]at hl
 obtain ⟨h1,h2⟩:=Fv _ _ _ hl
 have hS:Sat w0 w (aF 159 2 lv (dV L.l)::lI p m L lv::F):=h.aP
 rcases hS.jR with ⟨rfl,hx,_⟩|⟨b,n',cap,cs,rfl,hll,hn',hc,hcm,htk,hp⟩
 ·rw [hx]at h1;simp at h1
 ·rw [kD,hn]at hll
  obtain rfl:n'=n+1:=by omega
  exact ⟨b,n,cap,rfl,hn,hp.cellAt _ _ (pY htk h1),hp.cellAt _ _ (pY htk h2)⟩
theorem afq (hlen:L.l.length≤1048576) (hb:∀ s∈L.l,0≤s.1∧s.1<1048576) (h:Sat w0 w (lI p m L lv::aF 159 2 lv (dV L.l)::F)) :
  Calls Tryz.prog 179 #[ptr p] w (aI fun v w'=>v = .int .i64 L.next∧Sat w0 w' (lI p m L lv::aF 159 2 lv (dV L.l)::F)):=by
 cases hl:L.l.getLast? with
 |none=>
  have hnil:=List.getLast?_eq_none_iff.1 hl
  refine (acg hnil h).mono ?_
  rintro e w1 ⟨v,rfl,rfl,rfl⟩
  exact ⟨_,rfl,by unfold Seg.Log.next;rw [hl],h⟩
 |some s=>
  have bV:=uQ (show L.next=s.1+1 by unfold Seg.Log.next;rw [hl])
  have hs:=hb s (List.mem_of_getLast? hl)
  obtain ⟨bk,n,c,rfl,hn,c1,c2'⟩:=abk hl h
  have hok:=sN h
  have c2:=h.cellAt 2 _ rfl
  have hS:=h.drew
  have c1':w.drew.cell? ⟨bk,n * 2,none⟩=some (.int .i64 s.1):=by rw [Nat.mul_comm];exact c1
  have hwn:IntKind.i64.wrap (n:Int)=(n:Int):=by rw [IntKind.wrap_i64];omega
  have hn0:(n:Int)<(n:Int)+1:=by omega
  have cd:w.drew.cell? ⟨p,2,none⟩=some (.slice (some ⟨bk,0,none⟩) (n+1) c):=c2
  have hw1:IntKind.i64.wrap (s.1+1)=s.1+1:=by rw [IntKind.wrap_i64];omega
  have Hs:=uQ hs;have Hn:=uQ hn
  clear hs hn hb hlen hl c2'
  go_enter Tryz.func179,Tryz.ntmps179
  go_wp2_with (go_at_call 96;refine hok.mono ?_;rintro e w1 ⟨v,rfl,rfl,rfl⟩)
  go_region
  go_wp2
  go_ret
  exact ⟨_,rfl,by rw [bV.out];rfl,hS⟩
end
end Go.Proofs.YtlimfgdbfadohaaGreatDoor
namespace Go.Seg
open Go.aB
structure bF where
 seg:Int
 at_:Int
 size:Int
def bF.zero:bF:=⟨0,0,0⟩
def mag:Bs:=[72,79,65,82,68,83,69,71]
def Log.grow (L:Log) (M:aB) (b:Bs):(Log×aB)×bF×Int:=
 match L.l.getLast? with
 |none=>((L,M),bF.zero,0)
 |some s=>
  if (M.append (name s.1) b).2=0 then (({ L with l:=L.l.dropLast++[(s.1,s.2+(b.length:Int))] },(M.append (name s.1) b).1),⟨s.1,s.2,b.length⟩,0)
  else ((L,(M.append (name s.1) b).1),bF.zero,(M.append (name s.1) b).2)
def Log.shut (L:Log) (M:aB):(Log×aB)×Int:=
 match L.l.getLast? with
 |none=>((L,M),0)
 |some s=>
  if L.on=true then
   if (M.sync (name s.1)).2=0 then (({ L with on:=false },(M.sync (name s.1)).1),0)
   else ((L,(M.sync (name s.1)).1),(M.sync (name s.1)).2)
  else ((L,M),0)
def Log.jY (L:Log) (M:aB) (b:Bs):(Log×aB)×bF×Int:=
 if 1048576≤L.next then ((L,M),bF.zero,16)
 else if (M.create (name L.next)).2≠0 then ((L,(M.create (name L.next)).1),bF.zero,(M.create (name L.next)).2)
 else if ((M.create (name L.next)).1.append (name L.next) (mag++b)).2=0 then
  (({ L with l:=L.l++[(L.next,8+(b.length:Int))],on:=true,fresh:=L.fresh+1 },((M.create (name L.next)).1.append (name L.next) (mag++b)).1),⟨L.next,8,b.length⟩,0)
 else if ((M.create (name L.next)).1.append (name L.next) (mag++b)).2=11 then
  ((L,(((M.create (name L.next)).1.append (name L.next) (mag++b)).1.remove (name L.next)).1),bF.zero,
   if (((M.create (name L.next)).1.append (name L.next) (mag++b)).1.remove (name L.next)).2=0 then 11 else (((M.create (name L.next)).1.append (name L.next) (mag++b)).1.remove (name L.next)).2)
 else ((L,((M.create (name L.next)).1.append (name L.next) (mag++b)).1),bF.zero,((M.create (name L.next)).1.append (name L.next) (mag++b)).2)
def Log.begin (L:Log) (M:aB) (b:Bs):(Log×aB)×bF×Int:=
 if (L.shut M).2=0 then (L.shut M).1.1.jY (L.shut M).1.2 b else ((L.shut M).1,bF.zero,(L.shut M).2)
def Log.fits (L:Log) (n:Nat):Bool:=L.on && decide ((L.l.getLast?.map (·.2)).getD 0+n≤L.limit)
def Log.append (L:Log) (M:aB) (x:ak.aX):(Log×aB)×bF×Int:=
 if (ak.encode x).2≠0 then ((L,M),bF.zero,(ak.encode x).2)
 else if L.fits (ak.encode x).1.length=true then L.grow M (ak.encode x).1 else L.begin M (ak.encode x).1
def kM:ak.aX:=⟨2,ak.zero32,[]⟩
def Log.commit (L:Log) (M:aB):(Log×aB)×Int×Int:=
 if (L.append M kM).2.2≠0 then ((L.append M kM).1,0,(L.append M kM).2.2)
 else if ((L.append M kM).1.2.sync (name (L.append M kM).2.1.seg)).2≠0 then (((L.append M kM).1.1,((L.append M kM).1.2.sync (name (L.append M kM).2.1.seg)).1),0,((L.append M kM).1.2.sync (name (L.append M kM).2.1.seg)).2)
 else if (((L.append M kM).1.2.sync (name (L.append M kM).2.1.seg)).1.jG).2≠0 then (((L.append M kM).1.1,(((L.append M kM).1.2.sync (name (L.append M kM).2.1.seg)).1.jG).1),0,(((L.append M kM).1.2.sync (name (L.append M kM).2.1.seg)).1.jG).2)
 else (({ (L.append M kM).1.1 with on:=false,fresh:=0 },(((L.append M kM).1.2.sync (name (L.append M kM).2.1.seg)).1.jG).1),(L.append M kM).2.1.seg,0)
def Log.at (L:Log) (n:Int):Option Nat:=L.l.findIdx? (fun s=>s.1==n)
def Log.find (L:Log) (n:Int):Int:=match L.at n with
 |some i=>i
 |none=> -1
def Log.without (L:Log) (i:Nat):Log:=
 ⟨L.limit,L.l.eraseIdx i,if i+1=L.l.length then false else L.on,if (L.l.length:Int) - L.fresh≤i then L.fresh - 1 else L.fresh⟩
def Log.remove (L:Log) (M:aB) (n:Int):(Log×aB)×Int:=
 match L.at n with
 |none=>((L,M),9)
 |some i=>if (M.remove (name n)).2=0 then ((L.without i,(M.remove (name n)).1),0) else ((L,(M.remove (name n)).1),(M.remove (name n)).2)
def Log.size (L:Log) (n:Int):Int:=match L.at n with
 |none=>0
 |some i=>(L.l.getD i (0,0)).2
def Log.bytes (L:Log) (M:aB) (n:Int):Bs×Int:=match L.at n with
 |none=>([],9)
 |some _=>M.all (name n)
structure Log.Ok (L:Log):Prop where
 limit:128≤L.limit∧L.limit≤1048576
 rise:(L.l.map (·.1)).Pairwise (· < ·)
 nums:∀ s∈L.l,0≤s.1∧s.1<1048576
 sizes:∀ s∈L.l,0≤s.2∧s.2≤33554432
 fresh:0≤L.fresh∧L.fresh≤L.l.length
 on:L.on=true→L.l≠[]
theorem TM:∀ (l:List Int) (a:Int),l.Pairwise (· < ·)→(∀ x∈l,a≤x)→(∀ x∈l,x<1048576)→a≤1048576→(l.length:Int)≤1048576 - a
 |[],a,_,_,_,h=>by simp;omega
 |x::l,a,hp,h1,h2,h3=>by
  obtain ⟨hx,hp'⟩:=List.pairwise_cons.1 hp
  have e1:=h1 x (.head _)
  have e2:=h2 x (.head _)
  have:=TM l (x+1) hp' (fun y hy=>by have:=hx y hy;omega) (fun y hy=>h2 y (.tail _ hy)) oQ
  rw [List.length_cons];omega
theorem Log.Ok.len {L:Log} (h:L.Ok):L.l.length≤1048576:=by
 have:=TM (L.l.map (·.1)) 0 h.rise (by intro x hx;obtain ⟨s,hs,rfl⟩:=List.mem_map.1 hx;exact (h.nums s hs).1) (by intro x hx;obtain ⟨s,hs,rfl⟩:=List.mem_map.1 hx;exact (h.nums s hs).2) oQ
 rw [List.length_map]at this
 omega
theorem Log.Ok.shut {L:Log} (h:L.Ok) (M:aB):(L.shut M).1.1.Ok:=by
 unfold Log.shut
 split;· exact h
 split
 ·split
  ·exact ⟨h.limit,h.rise,h.nums,h.sizes,h.fresh,fun hh=>by cases hh⟩
  ·exact h
 ·exact h
theorem Cj {L:Log}{s:Int×Int} (h:L.l.getLast?=some s):L.l=L.l.dropLast++[s]:=by
 have hne:L.l≠[]:=by intro e;rw [e]at h;cases h
 have h2:=List.dropLast_concat_getLast hne
 rw [List.getLast?_eq_some_getLast hne]at h
 cases h
 exact h2.symm
theorem Ju {L:Log}{s:Int×Int} (h:L.l.getLast?=some s):L.l.length=L.l.dropLast.length+1:=by
 have:=congrArg List.length (Cj h)
 rw [List.length_append,List.length_singleton]at this
 exact this
theorem Log.Ok.next {L:Log} (h:L.Ok):0≤L.next∧L.next≤1048576∧∀ s∈L.l,s.1<L.next:=by
 unfold Log.next
 cases hl:L.l.getLast? with
 |none=>
  have:=List.getLast?_eq_none_iff.1 hl
  simp [this]
 |some s=>
  have hs:=h.nums s (List.mem_of_getLast? hl)
  refine ⟨by simp only;omega,by simp only;omega,?_⟩
  have e:=Cj hl
  have hr:=h.rise
  rw [e,List.map_append,List.pairwise_append]at hr
  intro t ht
  rw [e]at ht
  rcases List.mem_append.1 ht with ht|ht
  ·have:=hr.2.2 t.1 (List.mem_map.2 ⟨t,ht,rfl⟩) s.1 (by simp)
   simp only;omega
  ·rw [List.mem_singleton.1 ht];simp only;omega
theorem Log.Ok.snoc {L:Log} (h:L.Ok) (hn:L.next<1048576) (z:Nat) (hz:z≤16777216):({ L with l:=L.l++[(L.next,8+(z:Int))],on:=true,fresh:=L.fresh+1 }:Log).Ok:=by
 obtain ⟨n1,n2,n3⟩:=h.next
 have hf:=h.fresh
 refine ⟨h.limit,?_,?_,?_,⟨by simp only;omega,by simp only [List.length_append,List.length_singleton];omega⟩,fun _=>by simp⟩
 ·simp only
  rw [List.map_append,List.pairwise_append]
  refine ⟨h.rise,by simp,?_⟩
  intro a ha b hb
  obtain ⟨s,hs,rfl⟩:=List.mem_map.1 ha
  simp only [List.map_cons,List.map_nil,List.mem_singleton]at hb
  subst hb
  exact n3 s hs
 ·intro s hs
  rcases List.mem_append.1 hs with hs|hs
  ·exact h.nums s hs
  ·rw [List.mem_singleton.1 hs];exact ⟨n1,hn⟩
 ·intro s hs
  rcases List.mem_append.1 hs with hs|hs
  ·exact h.sizes s hs
  ·rw [List.mem_singleton.1 hs];exact ⟨by simp only;omega,by simp only;omega⟩
theorem Log.Ok.jY {L:Log} (h:L.Ok) (M:aB) (b:Bs) (hb:b.length≤16777216):(L.jY M b).1.1.Ok:=by
 unfold Log.jY
 split;· exact h
 rename_i hn
 split;· exact h
 split;· exact h.snoc oQ _ hb
 split;· exact h
 exact h
theorem Log.Ok.grow {L:Log} (h:L.Ok) (M:aB) (b:Bs) (hf:L.fits b.length=true):(L.grow M b).1.1.Ok:=by
 unfold Log.grow
 split;· exact h
 rename_i s hl
 split
 ·have e:=Cj hl
  have hr:=h.rise
  have hlen:L.l.length=L.l.dropLast.length+1:=Ju hl
  unfold Log.fits at hf
  rw [Bool.and_eq_true,decide_eq_true_eq,hl]at hf
  have hlim:=h.limit
  refine ⟨h.limit,?_,?_,?_,?_,fun _=>by simp⟩
  ·rw [e]at hr;simpa using hr
  ·intro t ht
   rcases List.mem_append.1 ht with ht|ht
   ·exact h.nums t (by rw [e];exact List.mem_append_left _ ht)
   ·rw [List.mem_singleton.1 ht]
    exact h.nums s (List.mem_of_getLast? hl)
  ·intro t ht
   rcases List.mem_append.1 ht with ht|ht
   ·exact h.sizes t (by rw [e];exact List.mem_append_left _ ht)
   ·rw [List.mem_singleton.1 ht]
    have:=h.sizes s (List.mem_of_getLast? hl)
    have h2:s.2+(b.length:Int)≤L.limit:=hf.2
    simp only;omega
  ·have:=h.fresh
   simp only [List.length_append,List.length_singleton]
   omega
 ·exact h
theorem encode_len (x:ak.aX) (hk:x.key.length=32):(ak.encode x).1.length≤16425:=by
 unfold ak.encode
 split;· simp
 rename_i hc
 have hd:x.data.length≤16384:=by
  unfold ak.check at hc
  repeat' split at hc
  all_goals first|omega|simp at hc
 unfold ak.body
 simp only [List.length_append,ak.gW,List.length_singleton]
 split
 ·simp;omega
 ·omega
theorem Log.Ok.without {L:Log} (h:L.Ok) (i:Nat) (hi:i<L.l.length):(L.without i).Ok:=by
 have hsub:(L.l.eraseIdx i).Sublist L.l:=List.eraseIdx_sublist _ _
 have hlen:(L.l.eraseIdx i).length=L.l.length - 1:=List.length_eraseIdx_of_lt hi
 have hf:=h.fresh
 refine ⟨h.limit,h.rise.sublist (hsub.map _),fun s hs=>h.nums s (hsub.mem hs),fun s hs=>h.sizes s (hsub.mem hs),?_,?_⟩
 ·unfold Log.without
  simp only [hlen]
  split <;> omega
 ·unfold Log.without
  simp only
  split
  ·intro hh;cases hh
  ·intro _ e
   have:=congrArg List.length e
   rw [hlen]at this
   simp at this
   omega
theorem Log.qx {L:Log}{n:Int}{i:Nat} (h:L.at n=some i):i<L.l.length∧∃ s,L.l[i]?=some s∧s.1=n:=by
 unfold Log.at at h
 rw [List.findIdx?_eq_some_iff_getElem]at h
 obtain ⟨h1,h2,_⟩:=h
 exact ⟨h1,_,List.getElem?_eq_getElem h1,by simpa using h2⟩
theorem Log.Ok.remove {L:Log} (h:L.Ok) (M:aB) (n:Int):(L.remove M n).1.1.Ok:=by
 unfold Log.remove
 split;· exact h
 rename_i i hi
 split
 ·exact h.without i (Log.qx hi).1
 ·exact h
theorem Log.Ok.X0 {L:Log} (h:L.Ok){s:Int×Int} (hl:L.l.getLast?=some s):L.at s.1=some (L.l.length - 1):=by
 have e:=Cj hl
 have hlen:L.l.length=L.l.dropLast.length+1:=Ju hl
 have hr:=h.rise
 rw [e,List.map_append,List.pairwise_append]at hr
 unfold Log.at
 rw [List.findIdx?_eq_some_iff_getElem]
 refine ⟨by omega,?_,?_⟩
 ·have:L.l[L.l.length - 1]?=some s:=by rw [← List.getLast?_eq_getElem?];exact hl
  obtain ⟨h1,h2⟩:=List.getElem?_eq_some_iff.1 this
  rw [h2];simp
 ·intro j hj
  have hj':j<L.l.dropLast.length:=by omega
  have hx:L.l[j]'oQ=L.l.dropLast[j]:=by rw [List.getElem_dropLast]
  have h3:(L.l.dropLast[j]).1<s.1:=hr.2.2 (L.l.dropLast[j]).1 (List.mem_map.2 ⟨_,List.getElem_mem hj',rfl⟩) s.1 (by simp)
  rw [hx]
  rw [Bool.not_eq_true,beq_eq_false_iff_ne]
  omega
def Log.back:Nat→Log→aB→(Log×aB)×Int
 |0,L,M=>(({ L with on:=false },M),0)
 |k+1,L,M=>
  match L.l.getLast? with
  |none=>(({ L with on:=false },M),0)
  |some s=>if (L.remove M s.1).2=0 then Log.back k (L.remove M s.1).1.1 (L.remove M s.1).1.2 else L.remove M s.1
end Go.Seg
