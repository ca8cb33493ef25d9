import Derived.Test.YtlimfgdbfadohaaGreatDoorJ2
import Derived.Lib.SlBytesConst
import Derived.Laws.IdiomStrings
import Derived.Deep.MidRow
import Derived.Laws.ResultCell
set_option linter.unusedVariables false
set_option maxHeartbeats 128000000
namespace Go.Proofs.YtlimfgdbfadohaaGreatDoor
open Go Go.Sl Go.Med Go.MapKept Go.RowKit
section
variable {w0 w:World}{F:List HProp}{v bv dv x:Value}{q:Nat}
def mrow (q:Nat) (l:Bs):HProp:=pt q (.cells (bys l).toArray 5 (l.length,l.length+1))
theorem mrow_set {l:Bs} (h:Sat w0 w (mrow q l::F)){i:Nat} (hi:i<l.length) (x:UInt8) :
  w.cell? ⟨q,i,none⟩=some (.int .u8 (l[i]'hi).toNat)∧w.frozen? ⟨q,i,none⟩=false∧Sat w0 (w.setCell ⟨q,i,none⟩ (.int .u8 x.toNat)) (mrow q (l.set i x)::F):=by
 have hb:=h.at
 refine ⟨?_,?_,?_⟩
 ·simp only [World.cell?,hb]
  rw [List.getElem?_toArray]
  unfold bys
  rw [List.getElem?_map,List.getElem?_eq_getElem hi];rfl
 ·simp only [World.frozen?,hb]
  simp;omega
 ·refine h.turn rfl rfl rfl (by simp) ?_ ?_
  ·simp only [World.setCell,Array.getElem?_modify,if_true,hb]
   simp only [Option.map_some,Option.some.injEq]
   rw [List.length_set]
   congr 1
   unfold bys
   rw [List.setIfInBounds_toArray,List.map_set,if_neg (by simp)]
  ·intro j hj _
   simp only [World.setCell,Array.getElem?_modify]
   rw [if_neg (Ne.symm hj)]
theorem mrow_text {l:Bs} (h:Sat w0 w (mrow q l::F)) (c:Nat):(convert 27 9 (.slice (some ⟨q,0,none⟩) l.length c)).run Tryz.prog w = .ok (.string ⟨l.toArray⟩) w:=by
 refine run_convert_bytes_back (P:=Tryz.prog) w _ _ 5 _ c l Tryz.underlying27 Tryz.underlying5 Tryz.underlying9 (fun j hj=>?_)
 rw [add_zero_lit]
 exact (mrow_set h hj 0).1
set_option maxRecDepth 20000 in
theorem sname_c (n:Int) (h:Sat w0 w F) :
  Calls Tryz.prog 99 #[.int .i64 n] w (Rtn fun v w'=>v = .string (Seg.name n)∧Sat w0 w' F):=by
 by_cases h1:n<0
 ·have Hf:=uQ (show Seg.name n=ByteArray.empty by unfold Seg.name;rw [if_pos (.inl h1)])
  go_enter Tryz.func99,Tryz.ntmps99
  go_wp2
  go_ret
  exact ⟨_,rfl,by rw [Hf.out];rfl,h⟩
 have h1d:decide (n<0)=false:=decide_eq_false h1
 by_cases h2:1048576≤n
 ·have Hf:=uQ (show Seg.name n=ByteArray.empty by unfold Seg.name;rw [if_pos (.inr h2)])
  go_enter Tryz.func99,Tryz.ntmps99
  go_wp2
  go_ret
  exact ⟨_,rfl,by rw [Hf.out];rfl,h⟩
 have h2d:decide (1048576≤n)=false:=decide_eq_false h2
 obtain ⟨m0,rfl⟩:=Int.eq_ofNat_of_zero_le (show 0≤n by omega)
 have Hf:=uQ (show Seg.name (m0:Int)=⟨(Seg.lead++Seg.digs m0 8).toArray⟩ by unfold Seg.name;rw [if_neg oQ];rfl)
 have hm0:m0<10^8:=by omega
 have Hm:=uQ hm0
 have hcv:=Lib.run_convert_bytes_const (P:=Tryz.prog) w 27 5 #[.int .u8 115,.int .u8 101,.int .u8 103,.int .u8 46,.int .u8 48,.int .u8 48,.int .u8 48,.int .u8 48,.int .u8 48,.int .u8 48,.int .u8 48,.int .u8 48] 12 12 Tryz.underlying27 Tryz.underlying5
 have hB:Sat w0 (w.alloc (.cells #[.int .u8 115,.int .u8 101,.int .u8 103,.int .u8 46,.int .u8 48,.int .u8 48,.int .u8 48,.int .u8 48,.int .u8 48,.int .u8 48,.int .u8 48,.int .u8 48] 5 (12,13))) (mrow w.heap.size (Seg.lead++List.replicate 8 48)::F):=h.alloc _
 simp only [List.size_toArray,List.length_cons,List.length_nil,Nat.zero_add,Nat.reduceAdd]at hcv
 clear hm0
 go_enter Tryz.func99,Tryz.ntmps99
 go_wp2_with fail
 clear h1 h2 h1d h2d
 generalize w.heap.size=q at *
 go_loopg [0,4] 8 (fun g nv iq wr=>∃ (k m:Nat) (tail:Bs),g=k∧k≤8∧nv = .int .i64 m∧iq = .int .i64 ((k:Int)+3)∧m<10^k∧Seg.lead++Seg.digs m0 8=Seg.lead++Seg.digs m k++tail∧tail.length=8 - k ∧
  Sat w0 wr (mrow q (Seg.lead++List.replicate k 48++tail)::F))
 case atStart=>exact ⟨8,m0,[],rfl,Nat.le_refl _,rfl,rfl,Hm.out,by simp,rfl,by simpa using hB⟩
 case round=>
  obtain ⟨k,m,tail,hgk,hk,rfl,rfl,hm,hfin,htl,hS⟩:=hrel
  have hgk':=hgk.symm
  subst hgk'
  have Hfin:=uQ hfin;have Htl:=uQ htl
  clear hB hfin htl
  by_cases hp:0<m
  ·obtain ⟨k',rfl⟩:∃ k',k=k'+1:=by
    cases k with
    |zero=>simp at hm;omega
    |succ k'=>exact ⟨k',rfl⟩
   have hlen:(Seg.lead++List.replicate (k'+1) 48++tail).length=12:=by
    have:=Htl.out
    simp [Seg.lead];omega
   have hidx:k'+4<(Seg.lead++List.replicate (k'+1) 48++tail).length:=by omega
   obtain ⟨e0,e1,hS5⟩:=mrow_set hS hidx (UInt8.ofNat (48+m%10))
   generalize (Seg.lead++List.replicate (k'+1) 48++tail)[k'+4]'hidx=old at e0
   have hpi:(0:Int)<(m:Int):=by omega
   have hki:(k':Int)+4<12:=by omega
   have hdg:48+(m:Int)%10=((UInt8.ofNat (48+m%10)).toNat:Int):=by rw [UInt8.toNat_ofNat'];omega
   have hm2:m<10 * 10^k':=by rw [Nat.pow_succ]at hm;omega
   have hbig:10^(k'+1)≤10^8:=Nat.pow_le_pow_right dCz hk
   have hw1:IntKind.i64.wrap ((m:Int) / 10)=(m:Int) / 10:=by rw [IntKind.wrap_i64];omega
   have Hm2:=uQ hm2
   have Hdg:=uQ (show Seg.digs m (k'+1)=Seg.digs (m / 10) k'++[UInt8.ofNat (48+m%10)] by rfl)
   have hc3:((k'+1:Nat):Int)+3=(k':Int)+4:=by omega
   rw [hc3]
   clear hm hm2 hlen hidx hbig
   generalize UInt8.ofNat (48+m%10)=dg at *
   go_wp2_with fail
   go_roundg k'
   case rel=>
    refine ⟨k',m / 10,dg::tail,rfl,by omega,?_,?_,?_,?_,?_,?_⟩
    ·congr 1
    ·congr 1;omega
    ·have:=Hm2.out;omega
    ·rw [Hfin.out,Hdg.out];simp
    ·have:=Htl.out;simp;omega
    ·have e:(Seg.lead++List.replicate (k'+1) 48++tail).set (k'+4) dg=Seg.lead++List.replicate k' 48++dg::tail:=by
      have hl:(Seg.lead++List.replicate k' (48:UInt8)).length=k'+4:=by simp only [Seg.lead,List.length_append,List.length_replicate,List.length_cons,List.length_nil];omega
      rw [List.replicate_succ',← List.append_assoc,List.append_assoc (Seg.lead++List.replicate k' 48),List.set_append_right _ _ oQ,hl,Nat.sub_self]
      rfl
     rw [← e];exact hS5
   case measure=>omega
  ·have hm0:m=0:=by omega
   subst hm0
   have htx:=mrow_text hS 12
   have hlen:(Seg.lead++List.replicate k 48++tail).length=12:=by
    have:=Htl.out
    simp [Seg.lead];omega
   rw [hlen]at htx
   clear hm
   go_wp2
   go_ret
   refine ⟨_,rfl,?_,hS.drop⟩
   rw [Hf.out,Hfin.out,Seg.digs_zero];simp
end
section
variable {w0 w:World}{F:List HProp}{v bv dv x:Value}{q:Nat}
theorem ba_take (s:ByteArray):(s.extract 0 4).toList=s.data.toList.take 4:=by
 rw [Go.Lib.extract_toList];simp
theorem ba_drop (s:ByteArray) (h:s.size=12):(s.extract 4 12).data.toList=s.data.toList.drop 4:=by
 rw [Go.Lib.extract_data]
 refine List.take_of_length_le ?_
 have:s.data.toList.length=12:=by rw [Array.length_toList];exact h
 rw [List.length_drop];omega
set_option maxRecDepth 20000 in
theorem snumber_c (s:ByteArray) (h:Sat w0 w F) :
  Calls Tryz.prog 73 #[.string s] w (Rtn fun v w'=>v = .tuple #[.int .i64 (Seg.number s).1,.bool (Seg.number s).2]∧Sat w0 w' F):=by
 by_cases h1:s.size=12
 ·have hs:((s.size:Int)=12):=by omega
  have h1d:decide ((s.size:Int)=12)=true:=decide_eq_true hs
  by_cases h2:s.data.toList.take 4=Seg.lead
  ·have h2d:((s.extract 0 4).toList==[115,101,103,46])=true:=by rw [ba_take s,h2];rfl
   have hN:=uQ (show Seg.number s=if (s.data.toList.drop 4).all Seg.isDig=true∧Seg.val (s.data.toList.drop 4)<1048576 then ((Seg.val (s.data.toList.drop 4):Int),true) else (0,false) by
    unfold Seg.number
    simp only [Array.length_toList,show s.data.size=12 from h1,h2,true_and])
   have Hb:=uQ (ba_drop s h1)
   have hcv:=run_bytes_of_string (P:=Tryz.prog) w 9 27 5 (s.extract 4 12) Tryz.underlying9 Tryz.underlying27 Tryz.underlying5
   have hz:(s.extract 4 12).size=8:=by simp [ByteArray.size_extract,h1]
   have hcell:∀ (i:Nat) (hi:i<8),((w.alloc (.cells (bytesRow (s.extract 4 12) (grownCap w (s.extract 4 12).size 0 5)) 5 ((bytesRow (s.extract 4 12) (grownCap w (s.extract 4 12).size 0 5)).size,(bytesRow (s.extract 4 12) (grownCap w (s.extract 4 12).size 0 5)).size+1))).drew).cell? ⟨w.heap.size,0+i,none⟩=some (.int .u8 ((s.extract 4 12).data[i]'(by have:(s.extract 4 12).data.size=8:=hz;omega)).toNat):=by
    intro i hi
    rw [Nat.zero_add]
    exact (World.cell?_alloc_mark w.drew _ _ _ _).trans (bytesRow_at _ _ _ _)
   have hB:Sat w0 ((w.alloc (.cells (bytesRow (s.extract 4 12) (grownCap w (s.extract 4 12).size 0 5)) 5 ((bytesRow (s.extract 4 12) (grownCap w (s.extract 4 12).size 0 5)).size,(bytesRow (s.extract 4 12) (grownCap w (s.extract 4 12).size 0 5)).size+1))).drew) F:=(h.drew.alloc _).drop
   rw [hz]at hcv hcell hB
   have Hlen:=uQ (show (s.data.toList.drop 4).length=8 by rw [List.length_drop,Array.length_toList,show s.data.size=12 from h1])
   have hcell':∀ (i:Nat) (hi:i<(s.data.toList.drop 4).length),((w.alloc (.cells (bytesRow (s.extract 4 12) (grownCap w 8 0 5)) 5 ((bytesRow (s.extract 4 12) (grownCap w 8 0 5)).size,(bytesRow (s.extract 4 12) (grownCap w 8 0 5)).size+1))).drew).cell? ⟨w.heap.size,0+i,none⟩=some (.int .u8 ((s.data.toList.drop 4)[i]'hi).toNat):=by
    intro i hi
    rw [hcell i (by rw [← Hlen.out];exact hi)]
    congr 4
    have:=Hb.out
    rw [← Array.getElem_toList]
    exact getElem_congr this rfl _
   clear hcell
   generalize grownCap w 8 0 5=cap at *
   generalize s.data.toList.drop 4=l at *
   go_enter Tryz.func73,Tryz.ntmps73
   go_wp2_with fail
   clear hcv h1d h2d hs h1 h2
   generalize World.drew _=wb at *
   generalize w.heap.size=q at *
   go_loopg [4,19] 8 (fun g nv iq wr=>∃ i:Nat,g=8 - i∧i≤8∧nv = .int .i64 (Seg.val (l.take i))∧iq = .int .i64 i∧(l.take i).all Seg.isDig=true∧wr=wb)
   case atStart=>exact ⟨0,rfl,by omega,rfl,rfl,rfl,rfl⟩
   case round=>
    obtain ⟨i,rfl,hi,rfl,rfl,hall,rfl⟩:=hrel
    have Hall:=uQ hall
    clear hall
    by_cases hi':i<8
    ·have hil:i<l.length:=by have:=Hlen.out;omega
     have hc:=hcell' i hil
     rw [Nat.zero_add]at hc
     have Hc:=uQ (List.getElem_mem hil)
     have hii:(i:Int)<8:=by omega
     have Hn:=uQ (show Seg.val (l.take (i+1))=10 * Seg.val (l.take i)+(l[i].toNat - 48) by rw [List.take_succ_eq_append_getElem hil,Seg.val_snoc])
     have Hd:=uQ (show (l.take (i+1)).all Seg.isDig=Seg.isDig l[i] by rw [List.take_succ_eq_append_getElem hil,List.all_append,Hall.out,Bool.true_and];simp)
     have Hv:=uQ (Seg.val_lt _ Hall.out)
     generalize l[i]=c at *
     by_cases hd:Seg.isDig c=true
     ·have hd':=hd
      unfold Seg.isDig at hd'
      rw [Bool.and_eq_true,decide_eq_true_eq,decide_eq_true_eq]at hd'
      have b1:¬ c.toNat<48:=by omega
      have b2:¬ 57<c.toNat:=by omega
      have b3:(c.toNat:Int) - 48=((c.toNat - 48:Nat):Int):=by omega
      have hv10:Seg.val (l.take i)<100000000:=by
       have:=Hv.out
       rw [List.length_take]at this
       exact Nat.lt_of_lt_of_le this (Nat.pow_le_pow_right dCz oQ:_≤10^8)
      have Hdd:=uQ hd'
      have b4:IntKind.i64.wrap (10 * (Seg.val (l.take i):Int))=10 * (Seg.val (l.take i):Int):=by rw [IntKind.wrap_i64];omega
      have b5:IntKind.i64.wrap (10 * (Seg.val (l.take i):Int)+((c.toNat - 48:Nat):Int))=10 * (Seg.val (l.take i):Int)+((c.toNat - 48:Nat):Int):=by rw [IntKind.wrap_i64];omega
      have b6:IntKind.i64.wrap ((i:Int)+1)=(i:Int)+1:=by rw [IntKind.wrap_i64];omega
      clear hv10 hd' hcell'
      generalize c.toNat - 48=d at *
      go_wp2_with fail
      go_roundg (8 - (i+1))
      case measure=>omega
      case rel=>
       refine ⟨i+1,rfl,by omega,?_,rfl,by rw [Hd.out,hd],rfl⟩
       rw [Hn.out];rfl
     ·have hno:¬ (l.all Seg.isDig=true∧Seg.val l<1048576):=fun hh=>hd (List.all_eq_true.1 hh.1 _ Hc.out)
      have hN2:=uQ (hN.out.trans (if_neg hno))
      have hd':=hd
      unfold Seg.isDig at hd'
      rw [Bool.and_eq_true,decide_eq_true_eq,decide_eq_true_eq]at hd'
      clear hcell' hno Hn Hd
      by_cases b1:c.toNat<48
      ·clear hd'
       go_wp2
       go_ret2
       exact ⟨_,rfl,by rw [hN2.out];rfl,hB⟩
      ·have b2:57<c.toNat:=by omega
       clear hd'
       go_wp2
       go_ret2
       exact ⟨_,rfl,by rw [hN2.out];rfl,hB⟩
    ·obtain rfl:i=8:=by omega
     have hc8:((8:Nat):Int)=8:=rfl
     rw [hc8]
     clear hc8 hi
     have htk:=uQ (show l.take 8=l from List.take_of_length_le (by have:=Hlen.out;omega))
     have hN3:=uQ (show Seg.number s=if Seg.val l<1048576 then ((Seg.val l:Int),true) else (0,false) by
      have:=Hall.out
      rw [htk.out]at this
      rw [hN.out];simp only [this,true_and])
     rw [htk.out]
     clear hcell' hi'
     obtain ⟨V,hV⟩:∃ V:Int,V=(Seg.val l:Int):=⟨_,rfl⟩
     have HV:=uQ hV
     rw [← hV]
     by_cases hv:1048576≤V
     ·have hvd:decide (1048576≤V)=true:=decide_eq_true hv
      have Hv:=uQ hv
      clear hv hV
      go_wp2
      go_ret2
      exact ⟨_,rfl,by rw [hN3.out,if_neg (by have:=Hv.out;have:=HV.out;omega)];rfl,hB⟩
     ·have hvd:decide (1048576≤V)=false:=decide_eq_false hv
      have Hv:=uQ hv
      clear hv hV
      go_wp2
      go_ret2
      exact ⟨_,rfl,by rw [hN3.out,if_pos (by have:=Hv.out;have:=HV.out;omega),← HV.out];rfl,hB⟩
  ·have h2d:((s.extract 0 4).toList==[115,101,103,46])=false:=by rw [ba_take s];exact beq_false_of_ne h2
   have hN:=uQ (show Seg.number s=(0,false) by
    unfold Seg.number
    simp only [h2,false_and,and_false,if_false])
   go_enter Tryz.func73,Tryz.ntmps73
   go_wp2
   go_ret2
   exact ⟨_,rfl,by rw [hN.out];rfl,h⟩
 ·have hs:¬ ((s.size:Int)=12):=by omega
  have h1d:decide ((s.size:Int)=12)=false:=decide_eq_false hs
  have hN:=uQ (show Seg.number s=(0,false) by
    unfold Seg.number
    simp only [Array.length_toList,show ¬ s.data.size=12 from h1,false_and,if_false])
  go_enter Tryz.func73,Tryz.ntmps73
  go_wp2
  go_ret2
  exact ⟨_,rfl,by rw [hN.out];rfl,h⟩
end
section
variable {w0 w:World}{F:List HProp}{v bv dv x:Value}{q:Nat}
theorem dig_ext:∀ d:Nat,d<10→(ByteArray.mk #[48,49,50,51,52,53,54,55,56,57]).extract d (d+1)=⟨#[UInt8.ofNat (48+d)]⟩:=by
 intro d hd
 rcases d with _|_|_|_|_|_|_|_|_|_|d
 all_goals first|rfl|omega
theorem ba_cons (c:UInt8) (l:Seg.Bs):(ByteArray.mk #[c])++⟨l.toArray⟩=⟨(c::l).toArray⟩:=by
 apply ByteArray.ext
 simp
theorem ba_lead (l:Seg.Bs):(ByteArray.mk #[115,101,103,46])++⟨l.toArray⟩=⟨(Seg.lead++l).toArray⟩:=by
 apply ByteArray.ext
 simp [Seg.lead]
set_option maxRecDepth 20000 in
theorem rname_c (n:Int) (w:World) :
  Calls Tryz.prog 9 #[.int .i64 n] w (Rtn fun v w'=>v = .string (Seg.name n)∧w=w'):=by
 by_cases h1:n<0
 ·have Hf:=uQ (show Seg.name n=ByteArray.empty by unfold Seg.name;rw [if_pos (.inl h1)])
  go_enter Tryz.func9,Tryz.ntmps9
  go_wp2
  go_ret
  exact ⟨_,rfl,by rw [Hf.out];rfl,rfl⟩
 have h1d:decide (n<0)=false:=decide_eq_false h1
 by_cases h2:1048576≤n
 ·have Hf:=uQ (show Seg.name n=ByteArray.empty by unfold Seg.name;rw [if_pos (.inr h2)])
  go_enter Tryz.func9,Tryz.ntmps9
  go_wp2
  go_ret
  exact ⟨_,rfl,by rw [Hf.out];rfl,rfl⟩
 have h2d:decide (1048576≤n)=false:=decide_eq_false h2
 obtain ⟨m0,rfl⟩:=Int.eq_ofNat_of_zero_le (show 0≤n by omega)
 have Hf:=uQ (show Seg.name (m0:Int)=⟨(Seg.lead++Seg.digs m0 8).toArray⟩ by unfold Seg.name;rw [if_neg oQ];rfl)
 have hm0:m0<1048576:=by omega
 have Hm:=uQ hm0
 clear hm0
 go_enter Tryz.func9,Tryz.ntmps9
 go_wp2_with fail
 clear h1 h2 h1d h2d
 go_loopg [0,3,4] 8 (fun g nv sv iv wr=>∃ (i m:Nat) (tail:Bs),g=8 - i∧i≤8∧nv = .int .i64 m∧sv = .string ⟨tail.toArray⟩∧iv = .int .i64 i∧m<1048576∧Seg.digs m0 8=Seg.digs m (8 - i)++tail∧wr=w)
 case atStart=>exact ⟨0,m0,[],rfl,by omega,rfl,rfl,rfl,Hm.out,by simp,rfl⟩
 case round=>
  obtain ⟨i,m,tail,rfl,hi,rfl,rfl,rfl,hm,hfin,rfl⟩:=hrel
  have Hfin:=uQ hfin;have Hm1:=uQ hm
  clear hfin hm
  by_cases hi':i<8
  ·have hii:(i:Int)<8:=by omega
   have hx:=dig_ext (m%10) (Nat.mod_lt _ oQ)
   have hcc:=ba_cons (UInt8.ofNat (48+m%10)) tail
   have hnx:Seg.digs m (8 - i)=Seg.digs (m / 10) (8 - (i+1))++[UInt8.ofNat (48+m%10)]:=by
    rw [show 8 - i=(8 - (i+1))+1 by omega];rfl
   have Hnx:=uQ hnx
   have htl:tail.length=i:=by
    have:=congrArg List.length Hfin.out
    rw [List.length_append,Seg.digs_len,Seg.digs_len]at this
    omega
   have hsz:¬ 9223372036854775807<1+tail.length:=by omega
   have hq:IntKind.i64.wrap ((m:Int) / 10)=(m:Int) / 10:=by rw [IntKind.wrap_i64];have:=Hm1.out;omega
   clear htl hnx
   have Hx:=uQ hx;have Hcc:=uQ hcc
   clear hx hcc
   go_wp2_with fail
   go_roundg (8 - (i+1))
   case measure=>omega
   case rel=>
    refine ⟨i+1,m / 10,UInt8.ofNat (48+m%10)::tail,rfl,by omega,rfl,by rw [Hx.out,Hcc.out],rfl,by have:=Hm1.out;omega,?_,rfl⟩
    rw [Hfin.out,Hnx.out];simp
  ·obtain rfl:i=8:=by omega
   have hc8:((8:Nat):Int)=8:=rfl
   rw [hc8]
   clear hc8 hi' hi
   have hcc:=ba_lead tail
   have htl:tail.length=8:=by
    have:=congrArg List.length Hfin.out
    rw [List.length_append,Seg.digs_len,Seg.digs_len]at this
    omega
   go_wp2
   go_ret
   refine ⟨_,rfl,?_,rfl⟩
   rw [Hf.out,Hfin.out];rfl
end
end Go.Proofs.YtlimfgdbfadohaaGreatDoor
namespace Go.Seg
open Go.Med
structure Log where
 limit:Int
 l:List (Int×Int)
 on:Bool
 fresh:Int
def alive (M:Med):Int:=if (M.size ByteArray.empty).2=9 then 0 else (M.size ByteArray.empty).2
def found (M:Med) (l:List ByteArray):List (Int×Int):=l.filterMap fun s=>if (number s).2=true then some ((number s).1,(M.size s).1) else none
def fresh (M:Med) (limit:Int):Log:=⟨limit,found M M.list,false,0⟩
theorem found_snoc (M:Med) (l:List ByteArray) (s:ByteArray):found M (l++[s])=found M l++(if (number s).2=true then [((number s).1,(M.size s).1)] else []):=by
 unfold found
 rw [List.filterMap_append]
 congr 1
 by_cases h:(number s).2=true <;> simp [h]
theorem found_len (M:Med) (l:List ByteArray):(found M l).length≤l.length:=List.length_filterMap_le _ _
end Go.Seg
namespace Go.Proofs.YtlimfgdbfadohaaGreatDoor
open Go Go.Sl Go.Med Go.MapKept Go.RowKit
def segw (l:List (Int×Int)):List Value:=l.flatMap fun s=>[.int .i64 s.1,.int .i64 s.2]
abbrev logPt (p m:Nat) (L:Seg.Log) (lv:Value):HProp:=pt p (.cells #[ptr m,.int .i64 L.limit,lv,.bool L.on,.int .i64 L.fresh] 151 (0,0))
def LogRaw (p m:Nat) (L:Seg.Log) (lv:Value):List HProp:=[logPt p m L lv,osl 159 2 lv (segw L.l)]
def LogRep (p m:Nat) (L:Seg.Log):HProp:=fun h=>∃ lv,stars (LogRaw p m L lv) h
theorem infoSeg:(Tryz.prog.info? 159).map (fun i=>(i.zero,i.size,i.bytes))=some (some (.agg #[.int .i64 0,.int .i64 0]),2,16):=by kernel_rfl
section
variable {w0 w:World}{F:List HProp}{v bv dv x lv:Value}{q p m K:Nat}{L:Seg.Log}{M:Med}
theorem LogRep.open (h:Sat w0 w (LogRep p m L::F)):∃ lv,Sat w0 w (LogRaw p m L lv++F):=by
 obtain ⟨ha,x,hx,p,q,d,rfl,⟨lv,hp⟩,hq⟩:=h
 refine ⟨lv,ha,_,hx,?_⟩
 rw [stars_append]
 exact ⟨p,q,d,rfl,hp,hq⟩
theorem LogRep.shut (h:Sat w0 w (LogRaw p m L lv++F)):Sat w0 w (LogRep p m L::F):=
 h.join fun _ hx=>⟨lv,hx⟩
theorem segw_len (l:List (Int×Int)):(segw l).length=2 * l.length:=by
 unfold segw
 induction l with
 |nil=>rfl
 |cons a l ih=>rw [List.flatMap_cons,List.length_append,ih];simp;omega
theorem segw_app (l k:List (Int×Int)):segw (l++k)=segw l++segw k:=by unfold segw;rw [List.flatMap_append]
theorem alive_c (hM:M.Ok K) (h:Sat w0 w (MedRep m M::F)) :
  Calls Tryz.prog 71 #[ptr m] w (Rtn fun v w'=>v=errno (Seg.alive M)∧w=w'):=by
 have hs:=size_c hM h ByteArray.empty
 have Hal:=uQ (show Seg.alive M=if (M.size ByteArray.empty).2=9 then 0 else (M.size ByteArray.empty).2 from rfl)
 generalize (M.size ByteArray.empty).2=e at *
 generalize (M.size ByteArray.empty).1=n at *
 by_cases he:e=9
 ·subst he
  go_enter Tryz.func71,Tryz.ntmps71
  go_wp2_with fail
  refine hs.mono ?_
  rintro e w1 ⟨v,rfl,rfl,rfl⟩
  clear hs
  go_wp2
  go_ret
  exact ⟨_,rfl,by rw [Hal.out];rfl,rfl⟩
 ·have hed:(e==9)=false:=beq_false_of_ne he
  have He:=uQ he
  clear he
  go_enter Tryz.func71,Tryz.ntmps71
  go_wp2_with fail
  refine hs.mono ?_
  rintro e w1 ⟨v,rfl,rfl,rfl⟩
  clear hs
  go_wp2
  go_ret
  exact ⟨_,rfl,by rw [Hal.out,if_neg He.out];rfl,rfl⟩
set_option maxRecDepth 20000 in
theorem open_c (hM:M.Ok K) (limit:Int) (h:Sat w0 w (MedRep m M::F)) (ha:Seg.alive M=0) (h1:128≤limit) (h2:limit≤1048576) :
  Calls Tryz.prog 43 #[ptr m,.int .i64 limit] w (Rtn fun v w'=>∃ p,v = .tuple #[ptr p,errno 0]∧Sat w0 w' (LogRep p m (Seg.fresh M limit)::MedRep m M::F)):=by
 have hal:=alive_c hM h
 rw [ha]at hal
 have hd1:decide (limit<128)=false:=decide_eq_false oQ
 have hd2:decide (1048576<limit)=false:=decide_eq_false oQ
 obtain ⟨i,hi,hz0,hz1,hz2⟩:=info_parts infoSeg
 have hll:=uQ (show M.list.length≤500 by
  unfold Med.list
  split
  ·simp
  ·rw [List.length_map];exact hM.nowOk.len)
 clear h1 h2 ha
 go_enter Tryz.func43,Tryz.ntmps43
 go_wp2_with fail
 refine hal.mono ?_
 rintro e w1 ⟨v,rfl,rfl,rfl⟩
 clear hal
 have hB:=h.alloc (.cells #[ptr m,.int .i64 limit,.slice none 0 0,.bool false,.int .i64 0] 151)
 have hL:=list_c hM hB.pick1
 go_wp2_with fail
 refine hL.mono ?_
 rintro e w2 ⟨v,rfl,hS,ba,bn,bc,rfl⟩
 have hlen:bn=M.list.length:=by
  obtain ⟨a',n',c',he,hl,_⟩:=Sat.rd hS
  cases he
  rw [strs_len,Nat.mul_one]at hl
  exact hl.symm
 clear hL hB
 subst hlen
 generalize w.heap.size=q at *
 go_wp2_with fail
 go_loopg [32] M.list.length (fun g iq wr=>∃ (i:Nat) (lv:Value),g=M.list.length - i∧i≤M.list.length∧iq = .int .i64 i∧Sat w0 wr (LogRaw q m ⟨limit,Seg.found M (M.list.take i),false,0⟩ lv++osl 9 1 (.slice ba M.list.length bc) (strs M.list)::MedRep m M::F))
 case atStart=>exact ⟨0,.slice none 0 0,rfl,Nat.zero_le _,rfl,by
  have:=Sat.osl_nil (T:=159) (sz:=2) |>.2 hS
  exact this.sel 4 [3,0,1,2] rfl rfl⟩
 case round=>
  obtain ⟨j,lv,rfl,hj,rfl,hR⟩:=hrel
  clear hS
  by_cases hj':j<M.list.length
  ·have hx:M.list[j]?=some (M.list[j]'hj'):=List.getElem?_eq_getElem hj'
   have hcx:=Sat.rd (hR.sel 3 [2] rfl rfl)
   obtain ⟨bk,off,hba,c1⟩:=rdsl_cell hcx (strs_at hx)
   have Hfs:=uQ (show Seg.found M (M.list.take (j+1))=Seg.found M (M.list.take j)++(if (Seg.number M.list[j]).2=true then [((Seg.number M.list[j]).1,(M.size M.list[j]).1)] else []) by
    rw [List.take_succ_eq_append_getElem hj',Seg.found_snoc])
   have hnum:=snumber_c M.list[j] hR
   have Hfl:=uQ (Seg.found_len M (M.list.take j))
   generalize M.list[j]=s at *
   have hic:(j:Int)<(M.list.length:Int):=by omega
   have hjl:=uQ hj'
   clear hx hcx hj'
   subst hba
   go_wp2_with fail
   refine hnum.mono ?_
   rintro e w3 ⟨v,rfl,rfl,hR3⟩
   clear hnum
   have hwi:IntKind.i64.wrap ((j:Int)+1)=(j:Int)+1:=IntWalk.i64_in _ (by have:=hll.out;have:=hjl.out;omega)
   cases hb:(Seg.number s).2
   ·have Hb:=uQ hb
    clear hb
    go_wp2
    go_roundg (M.list.length - (j+1))
    case measure=>have:=hjl.out;omega
    case rel=>
     refine ⟨j+1,lv,rfl,Nat.succ_le_of_lt hjl.out,by first|rfl|go_num,?_⟩
     rw [Hfs.out,Hb.out,if_neg dCz,List.append_nil]
     exact hR3
   ·have Hb:=uQ hb
    clear hb
    have hsz:=size_c hM (hR3.sel 4 [3,0,1,2] rfl rfl) s
    go_wp2_with fail
    refine hsz.mono ?_
    rintro e w4 ⟨v,rfl,rfl,rfl⟩
    clear hsz
    have c2:=hR3.cellAt 2 _ rfl
    generalize (M.size s).1=sz at *
    generalize (M.size s).2=se at *
    generalize (Seg.number s).1=nu at *
    have h7:=hR3.alloc (.cells #[.int .i64 nu,.int .i64 sz] 159)
    have hoc:∀ u∈(#[.int .i64 nu,.int .i64 sz]:Array Value).toList,u.oneCell'=true:=by
     intro u hu
     simp only [List.mem_cons,List.not_mem_nil,or_false]at hu
     rcases hu with rfl|rfl <;> rfl
    have hlen:(segw (Seg.found M (M.list.take j))).length≤2 * 500:=by
     rw [segw_len];have:=Hfl.out;have:=hll.out;rw [List.length_take]at *;omega
    have h63:(segw (Seg.found M (M.list.take j))).length+2≤maxLen:=by unfold maxLen;omega
    have hby:((segw (Seg.found M (M.list.take j))).length+2) * i.bytes≤140737488355328:=by rw [hz2];omega
    have h8:Sat w0 _ (osl 159 2 lv (segw (Seg.found M (M.list.take j)))::logPt q m ⟨limit,Seg.found M (M.list.take j),false,0⟩ lv::osl 9 1 (.slice (some ⟨bk,off,none⟩) M.list.length bc) (strs M.list)::MedRep m M::F):=h7.sel 5 [2,1,3,4] rfl rfl
    clear hlen
    go_wp2_with (at_builtin;go_must (refine wpList_append (w0:=w0) rFz _ _ _ rFz _ i _ Tryz.underlying149 hi hz0 hz1 rFz oQ rFz rFz hoc h8 (rdsl_new _ _ _ 2 1 1 rFz) h63 hby ?_);intro v2 w5 hS5 hne;obtain ⟨ab,an,ac,rfl⟩:=hne (by simp);have e2:=hS5.pick1.cellAt 2 _ rfl;have g2:=hS5.pick1.freeAt 2)
    have hS6:=hS5.pick1.set 2 (.slice (some ⟨ab,0,none⟩) an ac)
    generalize w5.setCell _ _=w6 at *
    go_roundg (M.list.length - (j+1))
    case measure=>have:=hjl.out;omega
    case rel=>
     refine ⟨j+1,.slice (some ⟨ab,0,none⟩) an ac,rfl,Nat.succ_le_of_lt hjl.out,by first|rfl|go_num,?_⟩
     rw [Hfs.out,Hb.out,if_pos rfl]
     unfold LogRaw
     rw [segw_app]
     exact hS6
  ·obtain rfl:j=M.list.length:=by omega
   have hic:¬ (M.list.length:Int)<(M.list.length:Int):=by omega
   rw [List.take_length]at hR
   clear hj hj'
   go_wp2
   go_ret2
   refine ⟨_,rfl,q,rfl,?_⟩
   exact LogRep.shut (hR.sel 4 [0,1,3] rfl rfl)
end
section
variable {P:Program}{w0 w:World}{R:List HProp}{v x:Value}{xs ys:List Value}
theorem run_append_fresh (t ty e:TypeId) (i:TypeInfo) (z:Value) (ht:P.underlying t=some (.slice e)) (hi:P.info? e=some i) (hz:i.zero=some z)
  (hs:i.size=1) (hzs:z.cells.size=1) (b n cap:Nat) (hl:xs.length=n) (hcap:cap≤n) (hold:rdsl 1 (.slice (some ⟨b,0,none⟩) n cap) xs w)
  (h:Sat w0 w R) (hx:rdsl 1 x ys w) (hy0:ys≠[]) (h63:xs.length+ys.length≤maxLen) (hby:(xs.length+ys.length) * i.bytes≤140737488355328) :
  ∃ b' n' c' w',(Builtin.append_ #[t,t] ty #[.slice (some ⟨b,0,none⟩) n cap,x]).run P w = .ok (.slice (some ⟨b',0,none⟩) n' c') w'∧Sat w0 w' (osl e 1 (.slice (some ⟨b',0,none⟩) n' c') (xs++ys)::R):=by
 obtain ⟨xa,m,c,rfl,hyl,hyc⟩:=hx
 obtain ⟨b1,n1,c1,he1,hol,hoc⟩:=hold
 cases he1
 rw [Nat.mul_one]at hyl
 have hm:0<m:=by
  rw [← hyl]
  exact List.length_pos_iff.2 hy0
 obtain ⟨ad,rfl⟩:∃ ad,xa=some ad:=by
  obtain ⟨y,hy⟩:∃ y,ys[0]?=some y:=by
   cases ys with
   |nil=>exact absurd rfl hy0
   |cons y _=>exact ⟨y,rfl⟩
  obtain ⟨b,hb,_⟩:=hyc 0 y hy
  exact ⟨b,hb⟩
 have hnews:∀ j u,ys[j]?=some u→w.cell? (ad.add j)=some u:=fun j u hj=>by
  obtain ⟨b,hb,hx⟩:=hyc j u hj
  cases hb;exact hx
 have holds:∀ j u,xs[j]?=some u→w.cell? ((⟨b,0,none⟩:Addr).add j)=some u:=fun j u hj=>by
  obtain ⟨b',hb,hx⟩:=hoc j u hj
  cases hb;exact hx
 have h63':maxLen=9223372036854775807:=rfl
 have hr:=run_append_grow (P:=P) w t ty e i z ht hi hz ⟨b,0,none⟩ n cap xs (by rw [hs];omega) holds ad m c ys (by rw [hs];omega) hnews oQ oQ (growslice_fits oQ (by rw [← hl,← hyl];exact hby))
 refine ⟨_,_,_,_,hr,?_⟩
 have hge:=grownCap_ge w (n+m) cap e
 have hcm:=grownCap_le_maxLen w (n+m) cap e oQ
 have:=(h.drew).alloc (.cells (xs.toArray++ys.toArray++Builtin.zeroCells z.cells (grownCap w (n+m) cap e - (n+m))) e)
 refine Sat.osl_of_pt this ?_ hge ?_ hcm ?_
 ·rw [List.length_append,hl,hyl,Nat.mul_one]
 ·simp only [Array.size_append,List.size_toArray,size_zeroCells,hzs]
  omega
 ·simp only [Array.toList_append,List.append_assoc]
  rw [← List.append_assoc]
  have e1:(n+m) * 1=(xs++ys).length:=by rw [List.length_append,hl,hyl,Nat.mul_one]
  rw [e1]
  exact List.take_left
theorem step_append_fresh {ops:Array Oper}{o:Oper}{a:Act}{K:Act→World→Prop}{Q:Exit→Act→World→Prop}{E:Prop} (hgd:o.guard=none) (s y:Operand) (t:TypeId)
  (ho:o.op = .call { callee:= .builtin .append,args:=#[s,y],argTypes:=#[t,t] })
  (e:TypeId) (i:TypeInfo) (z:Value) (ht:P.underlying t=some (.slice e)) (hi:P.info? e=some i) (hz:i.zero=some z)
  (hs:i.size=1) (hzs:z.cells.size=1) {b n cap:Nat} (hl:xs.length=n) (hcap:cap≤n) (hold:rdsl 1 (.slice (some ⟨b,0,none⟩) n cap) xs w)
  (h:Sat w0 w R) (hv:a.eval s = .slice (some ⟨b,0,none⟩) n cap) (hxv:a.eval y=x) (hx:rdsl 1 x ys w) (hy0:ys≠[]) (h63:xs.length+ys.length≤maxLen) (hby:(xs.length+ys.length) * i.bytes≤140737488355328)
  (hK:∀ b' n' c' w',Sat w0 w' (osl e 1 (.slice (some ⟨b',0,none⟩) n' c') (xs++ys)::R)→K (a.put o.dst (.slice (some ⟨b',0,none⟩) n' c')) w') :
  if Region.wanted o (yielded ops a.tmps)=true then Oper.wp P o a w K Q else E:=by
 have hw:Region.wanted o (yielded ops a.tmps)=true:=by simp [Region.wanted,hgd]
 rw [if_pos hw]
 obtain ⟨b',n',c',w',hr,h2⟩:=run_append_fresh (P:=P) t o.type e i z ht hi hz hs hzs b n cap hl hcap hold h hx hy0 h63 hby
 unfold Oper.wp execOp
 simp only [ho,resolve,invoke,builtin,Sem.run_bind,Sem.run_pure,Result.andThen_ok,List.map_toArray,List.map_cons,List.map_nil,hv,hxv,hr]
 exact hK _ _ _ w' h2
end
section
variable {w0 w:World}{F:List HProp}{v bv dv x lv:Value}{q p m K:Nat}{L:Seg.Log}{M:Med}
theorem ok_c (h:Sat w0 w (logPt p m L lv::F)) :
  Calls Tryz.prog 96 #[ptr p] w (Rtn fun v w'=>v = .bool true∧w=w'):=by
 have c0:=h.cellAt 0 _ rfl
 go_enter Tryz.func96,Tryz.ntmps96
 go_wp2
 go_ret
 exact ⟨_,rfl,rfl,rfl⟩
theorem next0_c (hl:L.l=[]) (h:Sat w0 w (logPt p m L lv::osl 159 2 lv (segw L.l)::F)) :
  Calls Tryz.prog 179 #[ptr p] w (Rtn fun v w'=>v = .int .i64 0∧w=w'):=by
 have hok:=ok_c h
 have c2:=h.cellAt 2 _ rfl
 have hlv:∃ a c,lv = .slice a 0 c:=by
  obtain ⟨a,n,c,rfl,hn,_⟩:=Sat.rd h.pick1
  refine ⟨a,c,?_⟩
  rw [hl]at hn
  have:n=0:=by simp [segw]at hn;omega
  rw [this]
 obtain ⟨la,lc,rfl⟩:=hlv
 go_enter Tryz.func179,Tryz.ntmps179
 go_wp2_with (go_at_call 96;refine hok.mono ?_;rintro e w1 ⟨v,rfl,rfl,rfl⟩)
 go_ret
 exact ⟨_,rfl,rfl,rfl⟩
theorem shut0_c (hon:L.on=false) (h:Sat w0 w (logPt p m L lv::F)) :
  Calls Tryz.prog 178 #[ptr p] w (Rtn fun v w'=>v=errno 0∧w=w'):=by
 have c3:=h.cellAt 3 _ rfl
 rw [hon]at c3
 go_enter Tryz.func178,Tryz.ntmps178
 go_wp2
 go_ret
 exact ⟨_,rfl,rfl,rfl⟩
end
section
variable {P:Program}{w0 w:World}{R:List HProp}{b:Nat}
def putsAt (cs:Array Value):Nat→List Value→Array Value
 |_,[]=>cs
 |o,v::r=>putsAt (cs.setIfInBounds o v) (o+1) r
theorem putsAt_size:∀ (vs:List Value) (cs:Array Value) (o:Nat),(putsAt cs o vs).size=cs.size
 |[],_,_=>rfl
 |v::r,cs,o=>by rw [putsAt,putsAt_size r,Array.size_setIfInBounds]
theorem Sat.sets:∀ (vs:List Value){cs:Array Value}{T:TypeId}{w:World} (o:Nat),Sat w0 w (pt b (.cells cs T (0,0))::R)→Sat w0 (w.setCells b o vs) (pt b (.cells (putsAt cs o vs) T (0,0))::R)
 |[],_,_,_,_,h=>h
 |v::r,_,_,_,o,h=>Sat.sets r (o+1) (h.set o v)
theorem wpList_store_sat {ops:Array Oper}{rest:List Oper}{op:Oper}{a:Act}{Q:Exit→Act→World→Prop}{cs:Array Value}{T:TypeId} (hgd:op.guard=none) (ty:TypeId) (x y:Operand) (ho:op.op = .store ty x y)
  (o:Nat) (v:Value) (hx:a.eval x = .pointer (some ⟨b,o,none⟩)) (hy:a.eval y=v) (hfit:o+v.cells.size≤cs.size)
  (hi:(P.info? ty).map (·.size)=some v.cells.size) (h1:v.cells.all (·.oneCell')=true) (h:Sat w0 w (pt b (.cells cs T (0,0))::R))
  (hK:∀ w',Sat w0 w' (pt b (.cells (putsAt cs o v.cells.toList) T (0,0))::R)→wpList P ops Q rest (a.put op.dst undef) w'):wpList P ops Q (op::rest) a w:=by
 have hth:w.there b o v.cells.size:=by
  intro j hj
  refine ⟨?_,h.freeAt _⟩
  rw [h.cellAt (o+j) _ (Array.getElem?_eq_getElem (show o+j<cs.size by omega))]
  rfl
 refine wpList_plain hgd fun _ hK'=>?_
 have hst:=run_storeCells_cells (P:=P) b o v.cells.toList 0 w (fun j hj=>by simpa using (hth j (by simpa using hj)).1) (fun j hj=>by simpa using (hth j (by simpa using hj)).2)
  (fun u hu=>(Array.all_eq_true_iff_forall_mem.1 h1) u (by simpa using hu))
 have hrun:(storeVar ty ⟨b,o,none⟩ v).run P w = .ok () (w.setCells b o v.cells.toList):=by
  cases hq:P.info? ty with
  |none=>simp [hq]at hi
  |some i=>
   have hs:v.cells.size=i.size:=by simp [hq]at hi;omega
   simp only [Nat.add_zero]at hst
   simp [storeVar,sizeOf,typeInfo,hq,hs,hst]
 unfold Oper.wp execOp
 simp only [ho,hx,hy,Instr.storeAt,Instr.sureAddr,Sem.run_bind,Sem.run_pure,Result.andThen_ok,hrun]
 exact hK' _ _ (hK _ (Sat.sets _ _ h))
structure Stop (p:Prop):Prop where
 out:p
theorem wpList_stop {ops:Array Oper}{rest:List Oper}{op:Oper}{a:Act}{Q:Exit→Act→World→Prop}{ty:TypeId}{x y:Operand} (ho:op.op = .store ty x y)
  (h:Stop (wpList P ops Q (op::rest) a w)):wpList P ops Q (op::rest) a w:=h.out
end
end Go.Proofs.YtlimfgdbfadohaaGreatDoor
namespace Go.Sl
open Go
def Pick (A:HProp) (L R:List HProp):Prop:=L.Perm (A::R)
def Upd (A B:HProp) (L L':List HProp):Prop:=∃ R,L.Perm (A::R)∧L'.Perm (B::R)
def Sub (L M:List HProp):Prop:=∃ X,L.Perm (M++X)
section
variable {A B A1 A2 A3 A4 A5 A6 A7 A8 A9 A10 A11 A12:HProp}{L M R L':List HProp}{w0 w:World}
theorem pick_there (h:Pick A L R):Pick A (B::L) (B::R):=(h.cons B).trans (List.Perm.swap _ _ _)
theorem pick0:Pick A (A::R) R:=List.Perm.refl _
theorem pick1:Pick A (A1::A::R) (A1::R):=pick_there pick0
theorem pick2:Pick A (A1::A2::A::R) (A1::A2::R):=pick_there pick1
theorem pick3:Pick A (A1::A2::A3::A::R) (A1::A2::A3::R):=pick_there pick2
theorem pick4:Pick A (A1::A2::A3::A4::A::R) (A1::A2::A3::A4::R):=pick_there pick3
theorem pick5:Pick A (A1::A2::A3::A4::A5::A::R) (A1::A2::A3::A4::A5::R):=pick_there pick4
theorem pick6:Pick A (A1::A2::A3::A4::A5::A6::A::R) (A1::A2::A3::A4::A5::A6::R):=pick_there pick5
theorem pick7:Pick A (A1::A2::A3::A4::A5::A6::A7::A::R) (A1::A2::A3::A4::A5::A6::A7::R):=pick_there pick6
theorem pick8:Pick A (A1::A2::A3::A4::A5::A6::A7::A8::A::R) (A1::A2::A3::A4::A5::A6::A7::A8::R):=pick_there pick7
theorem upd_there (h:Upd A B L L'):Upd A B (A1::L) (A1::L'):=by
 obtain ⟨R,h1,h2⟩:=h
 exact ⟨A1::R,(h1.cons A1).trans (List.Perm.swap _ _ _),(h2.cons A1).trans (List.Perm.swap _ _ _)⟩
theorem upd0:Upd A B (A::R) (B::R):=⟨R,List.Perm.refl _,List.Perm.refl _⟩
theorem upd1:Upd A B (A1::A::R) (A1::B::R):=upd_there upd0
theorem upd2:Upd A B (A1::A2::A::R) (A1::A2::B::R):=upd_there upd1
theorem sub_refl:Sub L L:=⟨[],by simp⟩
theorem sub_drop1:Sub (A::L) L:=⟨[A],by simpa using (List.perm_append_comm (l₁:=[A]) (l₂:=L))⟩
theorem sub_drop (h:Sub L M):Sub (A::L) M:=by
 obtain ⟨X,h⟩:=h
 exact ⟨A::X,(h.cons A).trans List.perm_middle.symm⟩
theorem sub_take (p:Pick A L R) (h:Sub R M):Sub L (A::M):=by
 obtain ⟨X,h⟩:=h
 exact ⟨X,p.trans (h.cons A)⟩
theorem Sat.pick (h:Sat w0 w L) (p:Pick A L R):Sat w0 w (A::R):=h.perm p
theorem Sat.sub (h:Sat w0 w L) (p:Sub L M):Sat w0 w M:=by
 obtain ⟨X,h2⟩:=p
 exact (h.perm h2).dropR
theorem Ro.of_pick {A:HProp}{p:World→Prop} (h:Ro w0 (A::R) p) (k:Pick A L R):Ro w0 L p:=fun w hw=>h w (hw.pick k)
theorem Ro.of_sub {p:World→Prop} (h:Ro w0 M p) (k:Sub L M):Ro w0 L p:=fun w hw=>h w (hw.sub k)
theorem Sat.cellP {b:Nat}{cs:Array Value}{T:TypeId} (h:Sat w0 w L) (p:Pick (pt b (.cells cs T (0,0))) L R) (i:Nat){v:Value} (hv:cs[i]?=some v):w.cell? ⟨b,i,none⟩=some v:=(h.pick p).cellAt i v hv
end
end Go.Sl
namespace Go.Proofs.YtlimfgdbfadohaaGreatDoor
open Go Go.Sl Go.Med Go.MapKept Go.RowKit
section
variable {P:Program}{w0 w:World}{L L' R:List HProp}{b:Nat}{ops:Array Oper}{rest:List Oper}{a:Act}{Q:Exit→Act→World→Prop}
variable {dst:Option Tmp}{t ty T:TypeId}{pos:String}{after:Array Edge}{x y:Operand}{cs:Array Value}{v:Value}{o:Nat}
def oneB (P:Program) (ty:TypeId):Bool:=match P.underlying ty with
 |some d => !d.isRow
 |none=>false
theorem run_load1 (h1:oneB P ty=true) (hc:w.cell? ⟨b,o,none⟩=some v):(loadVar ty ⟨b,o,none⟩).run P w = .ok v w:=by
 unfold oneB at h1
 cases hu:P.underlying ty with
 |none=>rw [hu]at h1;cases h1
 |some d=>
  rw [hu]at h1
  have hagg:(isAgg ty).run P w = .ok false w:=by
   unfold isAgg
   rw [Sem.run_bind,run_underlying hu w]
   cases d <;> simp_all [TypeDesc.isRow]
  simp [loadVar,Sem.run_bind,hagg]
  rw [hc]
theorem run_load1A {ad:Addr} (h1:oneB P ty=true) (hc:w.cell? ad=some v):(loadVar ty ad).run P w = .ok v w:=by
 unfold oneB at h1
 cases hu:P.underlying ty with
 |none=>rw [hu]at h1;cases h1
 |some d=>
  rw [hu]at h1
  have hagg:(isAgg ty).run P w = .ok false w:=by
   unfold isAgg
   rw [Sem.run_bind,run_underlying hu w]
   cases d <;> simp_all [TypeDesc.isRow]
  simp [loadVar,Sem.run_bind,hagg]
  rw [hc]
theorem execOp_builtin_len (a:Act) (after:Array Edge) (g:Option (Nat×Bool)):execOp a.eval ⟨dst,.call { callee:= .builtin .len,args:=#[x],argTypes:=#[ty] },t,pos,after,g⟩=(do pure (.value (← Builtin.len_ #[ty] t #[a.eval x]))):=by
 rw [BigFrame.execOp_builtin,BigFrame.builtin_len];simp
theorem getD_get {i:Nat} (hlt:i+1≤cs.size) (hv:cs.getD i undef=v):cs[i]?=some v:=by
 rw [← hv,Array.getD_eq_getD_getElem?,Array.getElem?_eq_getElem (show i<cs.size by omega)];rfl
theorem wl_load1 (hs:Sat w0 w L) (hx:a.eval x = .pointer (some ⟨b,o,none⟩)) (p:Pick (pt b (.cells cs T (0,0))) L R) (hlt:o+1≤cs.size) (hv:cs.getD o undef=v) (h1:oneB P ty=true)
  (h:wpList P ops Q rest (a.put dst v) w):wpList P ops Q (⟨dst,.load ty x,t,pos,after,none⟩::rest) a w:=
 wpList_plain rfl fun _ hK=>by
  unfold Oper.wp execOp
  simp only [hx,Instr.loadAt,Instr.sureAddr,Sem.run_bind,Sem.run_pure,Result.andThen_ok,run_load1 h1 (hs.cellP p o (getD_get hlt hv))]
  exact hK _ _ h
theorem wl_loadN (ks:List Value) (hs:Sat w0 w L) (hx:a.eval x = .pointer (some ⟨b,o,none⟩)) (p:Pick (pt b (.cells cs T (0,0))) L R) (hv:∀ j v,ks[j]?=some v→cs[o+j]?=some v)
  {d:TypeDesc} (hu:P.underlying ty=some d) (hd:d.isRow=true) (hi:(P.info? ty).map (·.size)=some ks.length)
  (h:wpList P ops Q rest (a.put dst (.agg ks.toArray)) w):wpList P ops Q (⟨dst,.load ty x,t,pos,after,none⟩::rest) a w:=
 wpList_load_mid rfl ty x rfl b o hx ks d (fun j v hj=>hs.cellP p (o+j) (hv j v hj)) hu hd hi h
theorem wl_loadA (hs:Sat w0 w L) (hx:a.eval x = .pointer (some ⟨b,0,none⟩)) (p:Pick (pt b (.cells cs T (0,0))) L R){d:TypeDesc} (hu:P.underlying ty=some d) (hd:d.isRow=true) (hi:(P.info? ty).map (·.size)=some cs.size)
  (h:wpList P ops Q rest (a.put dst (.agg cs)) w):wpList P ops Q (⟨dst,.load ty x,t,pos,after,none⟩::rest) a w:=by
 refine wpList_load_row rfl ty x rfl b hx T cs (0,0) d (hs.pick p).at hu ?_ hi h
 cases d <;> simp_all [TypeDesc.isRow]
theorem wl_store (hs:Sat w0 w L) (hx:a.eval x = .pointer (some ⟨b,o,none⟩)) (hy:a.eval y=v){cs':Array Value} (hcs:putsAt cs o v.cells.toList=cs') (u:Upd (pt b (.cells cs T (0,0))) (pt b (.cells cs' T (0,0))) L L') (hfit:o+v.cells.size≤cs.size)
  (hi:(P.info? ty).map (·.size)=some v.cells.size) (h1:v.cells.toList.all (·.oneCell')=true)
  (hK:∀ w',Sat w0 w' L'→wpList P ops Q rest (a.put dst undef) w'):wpList P ops Q (⟨dst,.store ty x y,t,pos,after,none⟩::rest) a w:=by
 subst hcs
 obtain ⟨R',h2,h3⟩:=u
 exact wpList_store_sat rfl ty x y rfl o v hx hy hfit hi (by rw [← Array.all_toList];exact h1) (hs.perm h2) fun w' hS=>hK w' (hS.perm h3.symm)
theorem wl_box (hs:Sat w0 w L) (hy:a.eval y=v) (hcs:v.cells=cs)
  (hK:∀ b w',Sat w0 w' (pt b (.cells cs ty (0,0))::L)→wpList P ops Q rest (a.put dst (.pointer (some ⟨b,0,none⟩))) w'):wpList P ops Q (⟨dst,.box ty y,t,pos,after,none⟩::rest) a w:=by
 subst hcs
 refine wpList_plain rfl fun _ hK'=>?_
 have hS:=hs.alloc (.cells v.cells ty)
 unfold Oper.wp execOp
 have hrun:(Instr.box ty v).run P w = .ok (.pointer (some ⟨w.heap.size,0,none⟩)) (w.alloc (.cells v.cells ty)):=by
  simp [Instr.box,newVar,newRow,go_sem]
 simp only [hy,Sem.run_bind,Sem.run_pure,hrun,Result.andThen_ok]
 exact hK' _ _ (hK _ _ hS)
def zeroB (P:Program) (ty:TypeId):Option Value:=(P.info? ty).bind (·.zero)
theorem run_zeroB (hz:zeroB P ty=some v) (w:World):(zeroValue ty).run P w = .ok v w:=by
 unfold zeroB at hz
 cases hq:P.info? ty with
 |none=>simp [hq]at hz
 |some i=>
  rw [hq]at hz
  have hz':i.zero=some v:=hz
  simp [zeroValue,typeInfo,hq,hz']
theorem wl_alloc (hz:zeroB P ty=some v) (hs:Sat w0 w L) (hcs:v.cells=cs)
  (hK:∀ b w',Sat w0 w' (pt b (.cells cs ty (0,0))::L)→wpList P ops Q rest (a.put dst (.pointer (some ⟨b,0,none⟩))) w'):wpList P ops Q (⟨dst,.alloc ty,t,pos,after,none⟩::rest) a w:=by
 subst hcs
 refine wpList_plain rfl fun _ hK'=>?_
 have hS:=hs.alloc (.cells v.cells ty)
 unfold Oper.wp execOp
 have hrun:(Instr.alloc ty true (.tuple #[])).run P w = .ok (.pointer (some ⟨w.heap.size,0,none⟩)) (w.alloc (.cells v.cells ty)):=by
  simp [Instr.alloc,run_zeroB hz w,newVar,newRow,go_sem,Result.andThen]
 simp only [Sem.run_bind,Sem.run_pure,hrun,Result.andThen_ok]
 exact hK' _ _ (hK _ _ hS)
theorem res_cell_tmp {fn:Func}{p u:Tmp}{tmps:Array Value}{d:TypeDesc} (hf:fn.results=#[.cell p ty,.tmp u]) (hs:Sat w0 w L) (hp:tmps.getD p undef = .pointer (some ⟨b,0,none⟩)) (k:Pick (pt b (.cells cs T (0,0))) L R)
  (hu:P.underlying ty=some d) (hd:d.isRow=true) (hi:(P.info? ty).map (·.size)=some cs.size) :
  (results fn tmps).run P w = .ok (.tuple #[.agg cs,tmps.getD u undef]) w:=by
 rw [results_cell_tmp hf tmps P w,hp]
 have hl:=run_loadVar_row (P:=P) w b T ty cs (0,0) d (hs.pick k).at hu (by cases d <;> simp_all [TypeDesc.isRow]) hi
 simp [asAddr,hl,Result.andThen]
theorem LogRep.shut2 {p m:Nat}{L:Seg.Log}{lv:Value}{F:List HProp} (h:Sat w0 w (logPt p m L lv::osl 159 2 lv (segw L.l)::F)):Sat w0 w (LogRep p m L::F):=LogRep.shut h
theorem LogRep.open2 {p m:Nat}{L:Seg.Log}{F:List HProp} (h:Sat w0 w (LogRep p m L::F)):∃ lv,Sat w0 w (logPt p m L lv::osl 159 2 lv (segw L.l)::F):=LogRep.open h
theorem putsAt_list:∀ (ys:List Value) (cs:Array Value) (o:Nat),o+ys.length≤cs.size→(putsAt cs o ys).toList=cs.toList.take o++ys++cs.toList.drop (o+ys.length)
 |[],cs,o,h=>by simp [putsAt]
 |y::ys,cs,o,h=>by
  simp only [List.length_cons]at h
  rw [putsAt,putsAt_list ys _ (o+1) (by rw [Array.size_setIfInBounds];omega),Array.toList_setIfInBounds]
  have hlt:o<cs.toList.length:=by simp;omega
  rw [List.set_eq_take_append_cons_drop,if_pos hlt]
  have h1:(cs.toList.take o).length=o:=by rw [List.length_take];omega
  rw [List.take_append,h1,List.take_of_length_le oQ,show o+1 - o=1 by omega,List.take_succ_cons,List.take_zero]
  rw [List.drop_append,h1,List.drop_of_length_le (l:=cs.toList.take o) oQ,List.nil_append,show o+1+ys.length - o=ys.length+1 by omega,List.drop_succ_cons,List.drop_drop]
  simp only [List.length_cons,List.append_assoc,List.cons_append,List.nil_append]
  rw [show o+1+ys.length=o+(ys.length+1) by omega]
theorem at_load (h:Stop (wpList P ops Q (⟨dst,.load ty x,t,pos,after,none⟩::rest) a w)):wpList P ops Q (⟨dst,.load ty x,t,pos,after,none⟩::rest) a w:=h.out
theorem at_store (h:Stop (wpList P ops Q (⟨dst,.store ty x y,t,pos,after,none⟩::rest) a w)):wpList P ops Q (⟨dst,.store ty x y,t,pos,after,none⟩::rest) a w:=h.out
theorem at_box (h:Stop (wpList P ops Q (⟨dst,.box ty y,t,pos,after,none⟩::rest) a w)):wpList P ops Q (⟨dst,.box ty y,t,pos,after,none⟩::rest) a w:=h.out
theorem at_alloc (h:Stop (wpList P ops Q (⟨dst,.alloc ty,t,pos,after,none⟩::rest) a w)):wpList P ops Q (⟨dst,.alloc ty,t,pos,after,none⟩::rest) a w:=h.out
theorem at_build1 {ix:Nat}{k:Nat} (h:Stop (wpList P ops Q (⟨dst,.buildSlice ty k #[(ix,x)],t,pos,after,none⟩::rest) a w)):wpList P ops Q (⟨dst,.buildSlice ty k #[(ix,x)],t,pos,after,none⟩::rest) a w:=h.out
theorem at_append {s z:Operand}{ta tb:TypeId} (h:Stop (wpList P ops Q (⟨dst,.call { callee:= .builtin .append,args:=#[s,z],argTypes:=#[ta,tb] },t,pos,after,none⟩::rest) a w)):wpList P ops Q (⟨dst,.call { callee:= .builtin .append,args:=#[s,z],argTypes:=#[ta,tb] },t,pos,after,none⟩::rest) a w:=h.out
section
variable {vx vy:Value}{ad:Addr}{fl:Nat}{bo:BinOp}{uo:UnOp}{tz:TypeId}{G:World→Prop}
theorem want_none (o:Oper) (h:o.guard=none):Region.wanted o (yielded ops a.tmps)=true:=by simp [Region.wanted,h]
theorem yl_move (hx:a.eval x=v):Yields P ops ⟨dst,.move x,t,pos,after,none⟩ v a:=
 .inl ⟨want_none _ rfl,fun w=>by simp only [execOp,hx];rfl⟩
theorem yl_assign (hx:a.eval x=v):Yields P ops ⟨dst,.assign x,t,pos,after,none⟩ v a:=
 .inl ⟨want_none _ rfl,fun w=>by simp only [execOp,hx];rfl⟩
theorem yl_nil (hx:a.eval x = .pointer (some ad)):Yields P ops ⟨dst,.nilCheck x,t,pos,after,none⟩ (.pointer (some ad)) a:=
 .inl ⟨want_none _ rfl,fun w=>by simp only [execOp,hx];rfl⟩
theorem yl_field (hx:a.eval x=vx) (hr:∀ w,(Instr.fieldAt ty vx fl).run P w = .ok v w):Yields P ops ⟨dst,.fieldAddr ty x fl,t,pos,after,none⟩ v a:=
 .inl ⟨want_none _ rfl,fun w=>by simp only [execOp,hx,Sem.run_bind,hr,Result.andThen_ok,Sem.run_pure]⟩
theorem yl_index (hx:a.eval x=vx) (hy:a.eval y=vy) (hr:∀ w,(Instr.indexAt ty vx vy).run P w = .ok v w):Yields P ops ⟨dst,.indexAddr ty x y,t,pos,after,none⟩ v a:=
 .inl ⟨want_none _ rfl,fun w=>by simp only [execOp,hx,hy,Sem.run_bind,hr,Result.andThen_ok,Sem.run_pure]⟩
theorem yl_bin (hx:a.eval x=vx) (hy:a.eval y=vy) (hr:∀ w,((do eqGuard bo ty x y vx vy;binOp bo ty vx vy):Sem Value).run P w = .ok v w):Yields P ops ⟨dst,.binOp bo ty x y tz,t,pos,after,none⟩ v a:=
 .inl ⟨want_none _ rfl,fun w=>by simp only [execOp,hx,hy,Sem.run_bind (x:=(do eqGuard bo ty x y vx vy;binOp bo ty vx vy)),hr,Result.andThen_ok,Sem.run_pure]⟩
theorem yl_un (hx:a.eval x=vx) (hr:∀ w,(Op.unary uo vx).run P w = .ok v w):Yields P ops ⟨dst,.unOp uo ty x,t,pos,after,none⟩ v a:=
 .inl ⟨want_none _ rfl,fun w=>by simp only [execOp,hx,Sem.run_bind,hr,Result.andThen_ok,Sem.run_pure]⟩
theorem yl_conv (hx:a.eval x=vx) (hr:∀ w,(convert ty tz vx).run P w = .ok v w):Yields P ops ⟨dst,.convert ty tz x,t,pos,after,none⟩ v a:=
 .inl ⟨want_none _ rfl,fun w=>by simp only [execOp,hx,Sem.run_bind,hr,Result.andThen_ok,Sem.run_pure]⟩
theorem yl_extract (hx:a.eval x=vx) (hr:∀ w,(Instr.extract vx fl).run P w = .ok v w):Yields P ops ⟨dst,.extract x fl,t,pos,after,none⟩ v a:=
 .inl ⟨want_none _ rfl,fun w=>by simp only [execOp,hx,Sem.run_bind,hr,Result.andThen_ok,Sem.run_pure]⟩
theorem yl_len (hx:a.eval x=vx) (hr:∀ w,(Builtin.len_ #[ty] t #[vx]).run P w = .ok v w):Yields P ops ⟨dst,.call { callee:= .builtin .len,args:=#[x],argTypes:=#[ty] },t,pos,after,none⟩ v a:=
 .inl ⟨want_none _ rfl,fun w=>by
  rw [execOp_builtin_len,hx]
  simp only [Sem.run_bind,hr,Result.andThen_ok,Sem.run_pure]⟩
theorem tk_load (hx:a.eval x = .pointer (some ad)) (h1:oneB P ty=true) (hG:∀ w,G w→w.cell? ad=some v):YieldsIf P ops G ⟨dst,.load ty x,t,pos,after,none⟩ v a:=
 .inl ⟨want_none _ rfl,fun w hw=>by
  obtain ⟨b,o,el⟩:=ad
  have hc:=hG w hw
  simp only [execOp,hx,Instr.loadAt,Instr.sureAddr,Sem.run_bind,Sem.run_pure,Result.andThen_ok,run_load1A h1 hc]⟩
def goB (P:Program) (f:FuncId):Bool:=match P.funcs[f]? with
 |some fn => !(fn.name == "runtime.NumGoroutine") && fn.body.isSome
 |none=>false
theorem run_goB {f:FuncId} (h:goB P f=true) (args:Array Value) (w:World):(callFunc f args).run P w = .ok (.enter f args) w:=by
 unfold goB at h
 cases hf:P.funcs[f]? with
 |none=>rw [hf]at h;cases h
 |some fn=>
  rw [hf]at h
  simp only [Bool.and_eq_true,Bool.not_eq_true']at h
  obtain ⟨h1,h2⟩:=h
  obtain ⟨c,hc⟩:=Option.isSome_iff_exists.1 h2
  have h1':fn.name ≠ "runtime.NumGoroutine" := by simpa using h1
  simp [callFunc,hf,h1',hc]
def Upon (K:Act→World→Prop) (Q:Exit→Act→World→Prop) (a:Act) (dst:Option Tmp) (e:Ending) (w:World):Prop:=
 match e with
 |.returned v=>K (a.put dst v) w
 |.panicked chain=>Q (.panic chain) a w
 |.outgrown=>LetsOut Q
theorem eff_call {f:FuncId}{xs:Array Operand}{ts:Array TypeId}{K:Act→World→Prop}{E:Prop} (vs:List Value) (hf:goB P f=true) (hv:xs.toList.map a.eval=vs)
  (h:Calls P f vs.toArray w (Upon K Q a dst)):if Region.wanted ⟨dst,.call { callee:= .value (.func f),args:=xs,argTypes:=ts },t,pos,after,none⟩ (yielded ops a.tmps)=true then
   Oper.wp P ⟨dst,.call { callee:= .value (.func f),args:=xs,argTypes:=ts },t,pos,after,none⟩ a w K Q else E:=by
 rw [if_pos (want_none _ rfl)]
 unfold Oper.wp
 have e1:(#[]++xs.map a.eval++#[]:Array Value)=vs.toArray:=by
  rw [← hv];cases xs;simp
 rw [execOp_call_go,e1,run_goB hf,Oper.upon_enter]
 exact h.mono fun e w' he=>by cases e <;> exact he
theorem eff_call1 {f:FuncId}{x1:Operand}{v1:Value}{ts:Array TypeId}{K:Act→World→Prop}{E:Prop} (hf:goB P f=true) (h1:a.eval x1=v1)
  (h:Calls P f #[v1] w (Upon K Q a dst)):if Region.wanted ⟨dst,.call { callee:= .value (.func f),args:=#[x1],argTypes:=ts },t,pos,after,none⟩ (yielded ops a.tmps)=true then
   Oper.wp P ⟨dst,.call { callee:= .value (.func f),args:=#[x1],argTypes:=ts },t,pos,after,none⟩ a w K Q else E:=
 eff_call [v1] hf (by simp [h1]) h
theorem eff_call2 {f:FuncId}{x1 x2:Operand}{v1 v2:Value}{ts:Array TypeId}{K:Act→World→Prop}{E:Prop} (hf:goB P f=true) (h1:a.eval x1=v1) (h2:a.eval x2=v2)
  (h:Calls P f #[v1,v2] w (Upon K Q a dst)):if Region.wanted ⟨dst,.call { callee:= .value (.func f),args:=#[x1,x2],argTypes:=ts },t,pos,after,none⟩ (yielded ops a.tmps)=true then
   Oper.wp P ⟨dst,.call { callee:= .value (.func f),args:=#[x1,x2],argTypes:=ts },t,pos,after,none⟩ a w K Q else E:=
 eff_call [v1,v2] hf (by simp [h1,h2]) h
theorem eff_call3 {f:FuncId}{x1 x2 x3:Operand}{v1 v2 v3:Value}{ts:Array TypeId}{K:Act→World→Prop}{E:Prop} (hf:goB P f=true) (h1:a.eval x1=v1) (h2:a.eval x2=v2) (h3:a.eval x3=v3)
  (h:Calls P f #[v1,v2,v3] w (Upon K Q a dst)):if Region.wanted ⟨dst,.call { callee:= .value (.func f),args:=#[x1,x2,x3],argTypes:=ts },t,pos,after,none⟩ (yielded ops a.tmps)=true then
   Oper.wp P ⟨dst,.call { callee:= .value (.func f),args:=#[x1,x2,x3],argTypes:=ts },t,pos,after,none⟩ a w K Q else E:=
 eff_call [v1,v2,v3] hf (by simp [h1,h2,h3]) h
theorem eff_call4 {f:FuncId}{x1 x2 x3 x4:Operand}{v1 v2 v3 v4:Value}{ts:Array TypeId}{K:Act→World→Prop}{E:Prop} (hf:goB P f=true) (h1:a.eval x1=v1) (h2:a.eval x2=v2) (h3:a.eval x3=v3) (h4:a.eval x4=v4)
  (h:Calls P f #[v1,v2,v3,v4] w (Upon K Q a dst)):if Region.wanted ⟨dst,.call { callee:= .value (.func f),args:=#[x1,x2,x3,x4],argTypes:=ts },t,pos,after,none⟩ (yielded ops a.tmps)=true then
   Oper.wp P ⟨dst,.call { callee:= .value (.func f),args:=#[x1,x2,x3,x4],argTypes:=ts },t,pos,after,none⟩ a w K Q else E:=
 eff_call [v1,v2,v3,v4] hf (by simp [h1,h2,h3,h4]) h
variable {late:List Nat}{i n:Nat}{oi:Oper}{l:Array Bool}
theorem rg_pure (i:Nat) (hi:ops.toList[i]?=some oi) (hc:(Region.noSelect ops && Region.free .any ops l i && (Region.ready .any ops l).contains i && shutB ops l)=true)
  (hQ:∀ c a w,Q (.panic c) (a.put oi.dst v) w→Q (.panic c) a w) (hy:Yields P ops oi v a) {a':Act} (ha:a.put oi.dst v=a')
  (h:wpL P ops Q late G n (l.setIfInBounds i true) a' w):wpL P ops Q late G (n+1) l a w:=
 wpL_pure (by rw [← Array.getElem?_toList];exact hi) hc hQ hy (by rw [ha];exact h)
theorem rg_take (i:Nat) (hi:ops.toList[i]?=some oi) (hc:(Region.noSelect ops && Region.free .any ops l i && (Region.ready .any ops l).contains i && lateOk ops late i && shutB ops l)=true)
  (hQ:∀ c a w,Q (.panic c) (a.put oi.dst v) w→Q (.panic c) a w) (hy:YieldsIf P ops G oi v a) (hG:G w) {a':Act} (ha:a.put oi.dst v=a')
  (h:wpL P ops Q late G n (l.setIfInBounds i true) a' w):wpL P ops Q late G (n+1) l a w:=
 wpL_take (by rw [← Array.getElem?_toList];exact hi) hc hQ hy hG (by rw [ha];exact h)
theorem rg_eff (i:Nat) (hi:ops.toList[i]?=some oi) (hr:Region.ready .any ops l=[i])
  (h:∀ K:Act→World→Prop,(∀ a' w',keeps late G i w w'→wpL P ops Q late G n (l.setIfInBounds i true) a' w'→K a' w') →
   if Region.wanted oi (yielded ops a.tmps)=true then Oper.wp P oi a w K Q else K (a.put oi.dst undef) w):wpL P ops Q late G (n+1) l a w:=
 wpL_eff (by rw [← Array.getElem?_toList];exact hi) hr h
end
section
variable {e:TypeId}{sz by' n c:Nat}{xs ys:List Value}{s:Operand}
def appB (P:Program) (t e:TypeId) (sz by':Nat):Bool:=
 (match P.underlying t with|some (.slice e')=>e'==e|_=>false) &&
 (match P.info? e with
  |some i=>i.size==sz && i.bytes==by' && (match i.zero with|some z=>z.cells.size==sz|none=>false) && decide (0<sz)
  |none=>false)
theorem appB_spec (h:appB P t e sz by'=true):P.underlying t=some (.slice e)∧∃ i z,P.info? e=some i∧i.zero=some z∧i.size=sz∧i.bytes=by'∧z.cells.size=sz∧0<sz:=by
 unfold appB at h
 rw [Bool.and_eq_true]at h
 obtain ⟨h1,h2⟩:=h
 constructor
 ·split at h1
  ·rename_i e' he;rw [he];congr 2;simpa using h1
  ·cases h1
 ·split at h2
  ·rename_i i hi
   simp only [Bool.and_eq_true,beq_iff_eq,decide_eq_true_eq]at h2
   obtain ⟨⟨⟨a1,a2⟩,a3⟩,a4⟩:=h2
   split at a3
   ·rename_i z hz
    exact ⟨i,z,hi,hz,a1,a2,by simpa using a3,a4⟩
   ·cases a3
  ·cases h2
theorem fill_all (cs zs:Array Value) (h:zs.size=cs.size):cs.zipIdx.foldl (fun acc (x:Value×Nat)=>acc.setIfInBounds (0+x.2) x.1) zs=cs:=by
 have key:∀ (k:Nat) (l:List Value) (acc:Array Value),acc.size=k+l.length→(∀ j,j<k→acc[j]?=cs[j]?)→(∀ j,l[j]?=cs[k+j]?)→k+l.length=cs.size →
   (l.zipIdx k).foldl (fun acc (x:Value×Nat)=>acc.setIfInBounds (0+x.2) x.1) acc=cs:=by
  intro k l
  induction l generalizing k with
  |nil=>
   intro acc h1 h2 _ h4
   simp only [List.zipIdx_nil,List.foldl_nil]
   simp only [List.length_nil,Nat.add_zero]at h1 h4
   apply Array.ext_getElem?
   intro j
   by_cases hj:j<k
   ·exact h2 j hj
   ·rw [Array.getElem?_eq_none oQ,Array.getElem?_eq_none oQ]
  |cons v l ih=>
   intro acc h1 h2 h3 h4
   simp only [List.zipIdx_cons,List.foldl_cons]
   simp only [List.length_cons]at h1 h4
   rw [Nat.zero_add k]
   refine ih (k+1) (acc.setIfInBounds k v) (by rw [Array.size_setIfInBounds];omega) ?_ ?_ oQ
   ·intro j hj
    by_cases hjk:j=k
    ·subst hjk
     have:=h3 0
     simp only [List.getElem?_cons_zero,Nat.add_zero]at this
     rw [← this,Array.getElem?_setIfInBounds_self_of_lt oQ]
    ·rw [Array.getElem?_setIfInBounds_ne oQ]
     exact h2 j oQ
   ·intro j
    have:=h3 (j+1)
    rw [List.getElem?_cons_succ]at this
    rw [this]
    congr 1
    omega
 have:=key 0 cs.toList zs (by simpa using h) (fun j hj=>absurd hj (Nat.not_lt_zero j)) (fun j=>by simp) (by simp)
 conv=>rhs;rw [← this]
 rw [← Array.foldl_toList,Array.toList_zipIdx]
theorem run_build1 (hb:appB P t e sz by'=true) (hsz:v.cells.size=sz) (hle:sz≤16777216) (w:World) :
  (Instr.buildSlice t 1 #[(0,v)]).run P w = .ok (.slice (some ⟨w.heap.size,0,none⟩) 1 1) (w.alloc (.cells v.cells e)):=by
 obtain ⟨hu,i,z,hi,hz,h1,h2,h3,h4⟩:=appB_spec hb
 subst h1
 have hzv:(zeroValue e).run P w = .ok z w:=by simp [zeroValue,typeInfo,hi,hz]
 have hsz':(sizeOf e).run P w = .ok i.size w:=by simp [sizeOf,typeInfo,hi]
 have hnz:¬ (1 * i.size=0):=by omega
 have hle':¬ (1 * i.size>2^24):=by omega
 unfold Instr.buildSlice
 simp only [Sem.run_bind,run_underlying hu,Result.andThen_ok,hsz',if_neg hle',if_neg hnz,hzv,Sem.run_pure]
 have hf:Instr.fill (fun i'=>some (i' * i.size,i.size)) ((Array.range (1 * i.size)).map (z.cells[· % z.cells.size]!)) [(0,v)]=some v.cells:=by
  have hs1:((Array.range (1 * i.size)).map (z.cells[· % z.cells.size]!)).size=v.cells.size:=by simp [hsz]
  unfold Instr.fill
  simp only [Nat.zero_mul]
  have hc:¬ ((v.cells.size≠i.size || 0+v.cells.size>((Array.range (1 * i.size)).map (z.cells[· % z.cells.size]!)).size)=true):=by
   rw [hs1];simp [hsz]
  simp only [if_neg hc]
  unfold Instr.fill
  congr 1
  exact fill_all _ _ hs1
 simp only [hf]
 simp [newRow,go_sem]
theorem wl_build1 (hb:appB P ty e sz by'=true) (hs:Sat w0 w L) (hy:a.eval x=v) (hcs:v.cells=cs) (hsz:cs.size=sz) (hle:sz≤16777216)
  (hK:∀ b w',Sat w0 w' (pt b (.cells cs e (0,0))::L)→wpList P ops Q rest (a.put dst (.slice (some ⟨b,0,none⟩) 1 1)) w'):wpList P ops Q (⟨dst,.buildSlice ty 1 #[(0,x)],t,pos,after,none⟩::rest) a w:=by
 subst hcs
 refine wpList_plain rfl fun _ hK'=>?_
 have hS:=hs.alloc (.cells v.cells e)
 unfold Oper.wp execOp
 simp only [hy,List.map_toArray,List.map_cons,List.map_nil,Sem.run_bind,Sem.run_pure,run_build1 hb hsz hle w,Result.andThen_ok]
 exact hK' _ _ (hK _ _ hS)
theorem wl_append (e:TypeId) (sz by':Nat) (hb:appB P ty e sz by'=true) (hs:Sat w0 w L) (hv:a.eval s=v) (hy:a.eval y = .slice (some ⟨b,0,none⟩) n c){R2:List HProp} (p:Pick (osl e sz v xs) L R) (p2:Pick (pt b (.cells cs T (0,0))) R R2)
  (hn:cs.size=n * sz) (h0:0<n) (h1:cs.toList.all (·.oneCell')=true) (h63:xs.length+cs.size≤maxLen) (hby:(xs.length+cs.size) * by'≤140737488355328)
  (hK:∀ b' n' c' w',Sat w0 w' (osl e sz (.slice (some ⟨b',0,none⟩) n' c') (xs++cs.toList)::R2)→wpList P ops Q rest (a.put dst (.slice (some ⟨b',0,none⟩) n' c')) w') :
  wpList P ops Q (⟨dst,.call { callee:= .builtin .append,args:=#[s,y],argTypes:=#[ty,ty] },t,pos,after,none⟩::rest) a w:=by
 obtain ⟨hu,i,z,hi,hz,e1,e2,e3,e4⟩:=appB_spec hb
 subst e2
 have hne:xs++cs.toList≠[]:=by
  intro h
  have:=congrArg List.length h
  simp only [List.length_append,Array.length_toList,List.length_nil]at this
  have:0<n * sz:=Nat.mul_pos h0 e4
  omega
 have hrd:rdsl sz (.slice (some ⟨b,0,none⟩) n c) cs.toList w:=⟨_,n,c,rfl,by simpa using hn,fun j x hj=>⟨_,rfl,by
  rw [add_zero_lit]
  exact ((hs.pick p).pick (pick_there p2)).cellAt j x (by simpa using hj)⟩⟩
 refine wpList_append (w0:=w0) rfl s y ty rfl e i z hu hi hz e1 e3 e4 hv hy (fun u hu=>(List.all_eq_true.1 h1) u hu) (hs.pick p) hrd (by simpa using h63) (by simpa using hby) ?_
 intro v' w' hS hv'
 obtain ⟨b',n',c',rfl⟩:=hv' hne
 exact hK b' n' c' w' (hS.pick (pick_there p2)).drop
theorem wl_app (e:TypeId) (sz by':Nat) (hb:appB P ty e sz by'=true) (hs:Sat w0 w L) (hv:a.eval s=v) (hy:a.eval y = .slice (some ⟨b,0,none⟩) n c){R2:List HProp} (p:Pick (osl e sz v xs) L R) (p2:Pick (pt b (.cells cs T (0,0))) R R2)
  (hn:cs.size=n * sz) (h0:1≤n) (h1:cs.toList.all (·.oneCell')=true) (h63:xs.length≤2147483648) (h64:cs.size≤65536) (hby:by'≤65000) (hys:cs.toList=ys)
  (hK:∀ b' n' c' w',Sat w0 w' (osl e sz (.slice (some ⟨b',0,none⟩) n' c') (xs++ys)::R2)→wpList P ops Q rest (a.put dst (.slice (some ⟨b',0,none⟩) n' c')) w') :
  wpList P ops Q (⟨dst,.call { callee:= .builtin .append,args:=#[s,y],argTypes:=#[ty,ty] },t,pos,after,none⟩::rest) a w:=by
 subst hys
 refine wl_append e sz by' hb hs hv hy p p2 hn h0 h1 (by unfold maxLen;omega) ?_ hK
 calc (xs.length+cs.size) * by'≤(2147483648+65536) * 65000:=Nat.mul_le_mul oQ hby
  _≤140737488355328:=by decide
end
end
end Go.Proofs.YtlimfgdbfadohaaGreatDoor
namespace Go.Sl
open Go
section
variable {w0 w:World}{A:HProp}{L M R:List HProp}
theorem pkD (p:Pick A L R:=by first|((repeat (first|with_reducible apply pick0|with_reducible apply pick_there));done)|((repeat (first|apply pick0|apply pick_there));done)|fail):Pick A L R:=p
theorem sbD (p:Sub L M:=by repeat (first|(with_reducible apply sub_refl)|((with_reducible apply sub_take);(· first|((repeat (first|with_reducible apply pick0|with_reducible apply pick_there));done)|((repeat (first|apply pick0|apply pick_there));done)|fail))|(with_reducible apply sub_drop))):Sub L M:=p
theorem Sat.pk (h:Sat w0 w L) (p:Pick A L R:=by first|((repeat (first|with_reducible apply pick0|with_reducible apply pick_there));done)|((repeat (first|apply pick0|apply pick_there));done)|fail):Sat w0 w (A::R):=h.pick p
theorem Sat.sb (h:Sat w0 w L) (p:Sub L M:=by repeat (first|(with_reducible apply sub_refl)|((with_reducible apply sub_take);(· first|((repeat (first|with_reducible apply pick0|with_reducible apply pick_there));done)|((repeat (first|apply pick0|apply pick_there));done)|fail))|(with_reducible apply sub_drop))):Sat w0 w M:=h.sub p
theorem Ro.op {p:World→Prop} (h:Ro w0 (A::R) p) (k:Pick A L R:=by first|((repeat (first|with_reducible apply pick0|with_reducible apply pick_there));done)|((repeat (first|apply pick0|apply pick_there));done)|fail):Ro w0 L p:=h.of_pick k
theorem Ro.os {p:World→Prop} (h:Ro w0 M p) (k:Sub L M:=by repeat (first|(with_reducible apply sub_refl)|((with_reducible apply sub_take);(· first|((repeat (first|with_reducible apply pick0|with_reducible apply pick_there));done)|((repeat (first|apply pick0|apply pick_there));done)|fail))|(with_reducible apply sub_drop))):Ro w0 L p:=h.of_sub k
end
end Go.Sl
namespace Go.Proofs.YtlimfgdbfadohaaGreatDoor
open Go Go.Sl Go.Med Go.MapKept Go.RowKit
section
variable {P:Program}{ops:Array Oper}{late:List Nat}{G:World→Prop}{n:Nat}{l:Array Bool}{a:Act}{w:World}{oi:Oper}{v:Value}{Q:Exit→Act→World→Prop}
theorem rp (i:Nat) (hi:ops.toList[i]?=some oi:=by conv=>lhs;whnf) (hc:(Region.noSelect ops && Region.free .any ops l i && (Region.ready .any ops l).contains i && shutB ops l)=true:=by kernel_rfl)
  (hQ:∀ c a w,Q (.panic c) (a.put oi.dst v) w→Q (.panic c) a w:=by intro _ _ _ h;exact h) (hy:Yields P ops oi v a) {a':Act} (ha:a.put oi.dst v=a':=by go_frame;first|done|rfl)
  (h:wpL P ops Q late G n (l.setIfInBounds i true) a' w):wpL P ops Q late G (n+1) l a w:=rg_pure i hi hc hQ hy ha h
theorem rt (i:Nat) (hi:ops.toList[i]?=some oi:=by conv=>lhs;whnf) (hc:(Region.noSelect ops && Region.free .any ops l i && (Region.ready .any ops l).contains i && lateOk ops late i && shutB ops l)=true:=by kernel_rfl)
  (hQ:∀ c a w,Q (.panic c) (a.put oi.dst v) w→Q (.panic c) a w:=by intro _ _ _ h;exact h) (hy:YieldsIf P ops G oi v a:=by first|exact tk_load (by conv=>lhs;whnf) kRz (by intro wq hq;first|exact hq|exact hq.1|exact hq.2|exact hq.2.1|exact hq.2.2|exact hq.2.2.1|exact hq.2.2.2|exact hq.2.2.2.1|exact hq.2.2.2.2)|(refine Or.inl ⟨by rfl,?_⟩;(intro wq hq;go_split_ands;go_simp);first|done|(with_reducible rfl))) (hG:G w:=by assumption) {a':Act} (ha:a.put oi.dst v=a':=by go_frame;first|done|rfl)
  (h:wpL P ops Q late G n (l.setIfInBounds i true) a' w):wpL P ops Q late G (n+1) l a w:=rg_take i hi hc hQ hy hG ha h
end
end Go.Proofs.YtlimfgdbfadohaaGreatDoor
namespace Go.Sl
open Go
theorem upD {A B:HProp}{L M:List HProp} (p:Upd A B L M:=by first|((repeat (first|with_reducible apply upd0|with_reducible apply upd_there));done)|((repeat (first|apply upd0|apply upd_there));done)|fail):Upd A B L M:=p
theorem evD {α:Sort _}{a b:α} (h:a=b:=by conv=>lhs;whnf):a=b:=h
theorem rnD {α:Type}{P:Program}{s:Sem α}{v:α} (h:∀ w,s.run P w = .ok v w:=by ((intro wq;go_simp);first|done|(with_reducible rfl))):∀ w,s.run P w = .ok v w:=h
end Go.Sl
namespace Go.Proofs.YtlimfgdbfadohaaGreatDoor
open Go Go.Sl Go.Med Go.MapKept Go.RowKit
section
variable {P:Program}{ops:Array Oper}{a:Act}{dst:Option Tmp}{t ty:TypeId}{pos:String}{after:Array Edge}{x y:Operand}{v vx vy:Value}{ad:Addr}{fl:Nat}{bo:BinOp}{tz:TypeId}{g:Option (Nat×Bool)}
theorem mvQ (hx:a.eval x=v:=by conv=>lhs;whnf):Yields P ops ⟨dst,.move x,t,pos,after,none⟩ v a:=yl_move hx
theorem flQ (hx:a.eval x=vx:=by conv=>lhs;whnf) (hr:∀ w,(Instr.fieldAt ty vx fl).run P w = .ok v w:=by ((intro wq;go_simp);first|done|(with_reducible rfl))):Yields P ops ⟨dst,.fieldAddr ty x fl,t,pos,after,none⟩ v a:=yl_field hx hr
theorem nlQ (hx:a.eval x = .pointer (some ad):=by conv=>lhs;whnf):Yields P ops ⟨dst,.nilCheck x,t,pos,after,none⟩ (.pointer (some ad)) a:=yl_nil hx
theorem ixQ (hx:a.eval x=vx:=by conv=>lhs;whnf) (hy:a.eval y=vy:=by conv=>lhs;whnf) (hr:∀ w,(Instr.indexAt ty vx vy).run P w = .ok v w:=by ((intro wq;go_simp);first|done|(with_reducible rfl))):Yields P ops ⟨dst,.indexAddr ty x y,t,pos,after,none⟩ v a:=yl_index hx hy hr
theorem asQ (hx:a.eval x=v:=by conv=>lhs;whnf):Yields P ops ⟨dst,.assign x,t,pos,after,none⟩ v a:=yl_assign hx
theorem bnQ (hx:a.eval x=vx:=by conv=>lhs;whnf) (hy:a.eval y=vy:=by conv=>lhs;whnf) (hr:∀ w,((do eqGuard bo ty x y vx vy;binOp bo ty vx vy):Sem Value).run P w = .ok v w:=by ((intro wq;go_simp);first|done|(with_reducible rfl))):Yields P ops ⟨dst,.binOp bo ty x y tz,t,pos,after,none⟩ v a:=yl_bin hx hy hr
end
section
variable {P:Program}{ops:Array Oper}{late:List Nat}{G:World→Prop}{n:Nat}{l:Array Bool}{a a':Act}{w:World}{oi:Oper}{v:Value}{Q:Exit→Act→World→Prop}
theorem rP (i:Nat) (h:wpL P ops Q late G n (l.setIfInBounds i true) a' w) (hi:ops.toList[i]?=some oi:=by conv=>lhs;whnf) (hc:(Region.noSelect ops && Region.free .any ops l i && (Region.ready .any ops l).contains i && shutB ops l)=true:=by kernel_rfl) (hQ:∀ c a w,Q (.panic c) (a.put oi.dst v) w→Q (.panic c) a w:=by intro _ _ _ h;exact h) (y:Yields P ops oi v a) (ha:a.put oi.dst v=a':=by go_frame;first|done|rfl):wpL P ops Q late G (n+1) l a w:=rg_pure i hi hc hQ y ha h
end
section
variable {P:Program}{w0 w:World}{L L' R:List HProp}{b:Nat}{ops:Array Oper}{rest:List Oper}{a:Act}{Q:Exit→Act→World→Prop}{dst:Option Tmp}{t ty T:TypeId}{pos:String}{after:Array Edge}{x y:Operand}{cs:Array Value}{v:Value}{o:Nat}
theorem ldQ (h:wpList P ops Q rest (a.put dst v) w) (hs:Sat w0 w L:=by assumption) (hx:a.eval x = .pointer (some ⟨b,o,none⟩):=by rfl) (p:Pick (pt b (.cells cs T (0,0))) L R:=by exact pkD) (hlt:o+1≤cs.size:=by exact bQ) (hv:cs.getD o undef=v:=by exact evD) (h1:oneB P ty=true:=by kernel_rfl):wpList P ops Q (⟨dst,.load ty x,t,pos,after,none⟩::rest) a w:=wl_load1 hs hx p hlt hv h1 h
theorem stQ (hK:∀ w',Sat w0 w' L'→wpList P ops Q rest (a.put dst undef) w') (hs:Sat w0 w L:=by assumption) (hx:a.eval x = .pointer (some ⟨b,o,none⟩):=by rfl) (hy:a.eval y=v:=by exact evD){cs':Array Value} (hcs:putsAt cs o v.cells.toList=cs':=by first|(simp only [putsAt,Value.cells];(try go_frame);first|done|rfl)|rfl) (u:Upd (pt b (.cells cs T (0,0))) (pt b (.cells cs' T (0,0))) L L':=by exact upD) (hfit:o+v.cells.size≤cs.size:=by exact bQ) (hi:(P.info? ty).map (·.size)=some v.cells.size:=by kernel_rfl) (h1:v.cells.toList.all (·.oneCell')=true:=by rfl):wpList P ops Q (⟨dst,.store ty x y,t,pos,after,none⟩::rest) a w:=wl_store hs hx hy hcs u hfit hi h1 hK
end
section
variable {P:Program}{w0 w:World}{L L' R F:List HProp}{b:Nat}{ops:Array Oper}{rest:List Oper}{a:Act}{Q:Exit→Act→World→Prop}
variable {dst:Option Tmp}{t ty T e:TypeId}{pos:String}{after:Array Edge}{x y s:Operand}{cs:Array Value}{v:Value}{o n c sz by':Nat}{xs ys:List Value}{K:Act→World→Prop}{E:Prop}
theorem eff_of {op:Oper} (hg:op.guard=none) (h:Oper.wp P op a w K Q):if Region.wanted op (yielded ops a.tmps)=true then Oper.wp P op a w K Q else E:=by
 rw [if_pos (want_none _ hg)];exact h
theorem eff_build1 (hb:appB P ty e sz by'=true) (hs:Sat w0 w L) (hy:a.eval x=v) (hcs:v.cells=cs) (hsz:cs.size=sz) (hle:sz≤16777216)
  (hK:∀ b w',Sat w0 w' (pt b (.cells cs e (0,0))::L)→K (a.put dst (.slice (some ⟨b,0,none⟩) 1 1)) w') :
  if Region.wanted ⟨dst,.buildSlice ty 1 #[(0,x)],t,pos,after,none⟩ (yielded ops a.tmps)=true then Oper.wp P ⟨dst,.buildSlice ty 1 #[(0,x)],t,pos,after,none⟩ a w K Q else E:=by
 subst hcs
 refine eff_of rfl ?_
 have hS:=hs.alloc (.cells v.cells e)
 unfold Oper.wp execOp
 simp only [hy,List.map_toArray,List.map_cons,List.map_nil,Sem.run_bind,Sem.run_pure,run_build1 hb hsz hle w,Result.andThen_ok]
 exact hK _ _ hS
theorem eff_app (e:TypeId) (sz by':Nat) (hb:appB P ty e sz by'=true) (hs:Sat w0 w L) (hv:a.eval s=v) (hy:a.eval y = .slice (some ⟨b,0,none⟩) n c){R2:List HProp} (p:Pick (osl e sz v xs) L R) (p2:Pick (pt b (.cells cs T (0,0))) R R2)
  (hn:cs.size=n * sz) (h0:1≤n) (h1:cs.toList.all (·.oneCell')=true) (h63:xs.length≤2147483648) (h64:cs.size≤65536) (hby:by'≤65000) (hys:cs.toList=ys)
  (hK:∀ b' n' c' w',Sat w0 w' (osl e sz (.slice (some ⟨b',0,none⟩) n' c') (xs++ys)::R2)→K (a.put dst (.slice (some ⟨b',0,none⟩) n' c')) w') :
  if Region.wanted ⟨dst,.call { callee:= .builtin .append,args:=#[s,y],argTypes:=#[ty,ty] },t,pos,after,none⟩ (yielded ops a.tmps)=true then
   Oper.wp P ⟨dst,.call { callee:= .builtin .append,args:=#[s,y],argTypes:=#[ty,ty] },t,pos,after,none⟩ a w K Q else E:=by
 refine eff_of rfl ?_
 subst hys
 obtain ⟨hu,i,z,hi,hz,e1,e2,e3,e4⟩:=appB_spec hb
 subst e2
 have hne:xs++cs.toList≠[]:=by
  intro h
  have:=congrArg List.length h
  simp only [List.length_append,Array.length_toList,List.length_nil]at this
  have:0<n * sz:=Nat.mul_pos h0 e4
  omega
 have hrd:rdsl sz (.slice (some ⟨b,0,none⟩) n c) cs.toList w:=⟨_,n,c,rfl,by simpa using hn,fun j x hj=>⟨_,rfl,by
  rw [add_zero_lit]
  exact ((hs.pick p).pick (pick_there p2)).cellAt j x (by simpa using hj)⟩⟩
 have hcl:cs.toList.length=cs.size:=Array.length_toList
 have h63':xs.length+cs.toList.length≤maxLen:=by rw [hcl];unfold maxLen;omega
 have hby':(xs.length+cs.toList.length) * i.bytes≤140737488355328:=by
  rw [hcl]
  exact Nat.le_trans (Nat.mul_le_mul (show xs.length+cs.size≤2147483648+65536 by omega) hby) dCz
 refine wp_append (w0:=w0) s y ty rfl e i z hu hi hz e1 e3 e4 hv hy (fun u hu=>(List.all_eq_true.1 h1) u hu) (hs.pick p) hrd h63' hby' ?_
 intro v' w' hS hv'
 obtain ⟨b',n',c',rfl⟩:=hv' hne
 exact hK b' n' c' w' (hS.pick (pick_there p2)).drop
def placesB (P:Program) (t:TypeId):Option (List (Nat×Nat)):=match P.underlying t with
 |some (.struct fields)=>fields.toList.mapM fun f=>(P.info? f.type).map fun i=>(f.offset,i.size)
 |_=>none
theorem run_places (fields:List Field):∀ (pl:List (Nat×Nat)),(fields.mapM fun f=>(P.info? f.type).map fun i=>(f.offset,i.size))=some pl →
  ((fields.mapM fun f=>do pure (f.offset,← sizeOf f.type)):Sem (List (Nat×Nat))).run P w = .ok pl w:=by
 induction fields with
 |nil=>intro pl h;cases h;rfl
 |cons f fields ih=>
  intro pl h
  rw [List.mapM_cons]at h ⊢
  cases hi:P.info? f.type with
  |none=>simp [hi]at h
  |some i=>
   rw [hi]at h
   simp only [Option.map_some,Option.bind_eq_bind,Option.bind_some,Option.bind_eq_some_iff,Option.pure_def,Option.some.injEq]at h
   obtain ⟨pl',h1,rfl⟩:=h
   have hs:(sizeOf f.type).run P w = .ok i.size w:=by simp [sizeOf,typeInfo,hi]
   simp only [Sem.run_bind,hs,Result.andThen_ok,Sem.run_pure,ih pl' h1]
def putParts (pl:List (Nat×Nat)):Array Value→List (Nat×Value)→Array Value
 |cs,[]=>cs
 |cs,(i,v)::r=>putParts pl (putsAt cs (pl.getD i (0,0)).1 v.cells.toList) r
theorem foldl_puts:∀ (vs:List Value) (k:Nat) (off:Nat) (cs:Array Value),(vs.zipIdx k).foldl (fun cs (x:Value×Nat)=>cs.setIfInBounds (off+x.2) x.1) cs=putsAt cs (off+k) vs
 |[],_,_,_=>rfl
 |v::vs,k,off,cs=>by
  rw [List.zipIdx_cons,List.foldl_cons,foldl_puts vs (k+1) off];rfl
theorem fill_parts (pl:List (Nat×Nat)):∀ (parts:List (Nat×Value)) (cs:Array Value),(∀ p∈parts,∃ off,pl[p.1]?=some (off,p.2.cells.size)∧off+p.2.cells.size≤cs.size) →
  Instr.fill (pl.toArray[·]?) cs parts=some (putParts pl cs parts)
 |[],_,_=>rfl
 |(i,v)::r,cs,h=>by
  obtain ⟨off,h1,h2⟩:=h _ (.head _)
  unfold Instr.fill
  have hp:pl.toArray[i]?=some (off,v.cells.size):=by simpa using h1
  simp only [hp]
  have hc:¬ ((v.cells.size≠v.cells.size || off+v.cells.size>cs.size)=true):=by simp;omega
  rw [if_neg hc]
  have hf:v.cells.zipIdx.foldl (fun cs (c,j)=>cs.setIfInBounds (off+j) c) cs=putsAt cs off v.cells.toList:=by
   rw [← Array.foldl_toList,Array.toList_zipIdx]
   exact foldl_puts _ 0 off cs
  rw [hf,fill_parts pl r _ (fun p hp=>by
   obtain ⟨o,q1,q2⟩:=h p (.tail _ hp)
   exact ⟨o,q1,by rw [putsAt_size];exact q2⟩)]
  have hg:(pl.getD i (0,0)).1=off:=by rw [List.getD_eq_getElem?_getD,h1];rfl
  simp only [putParts,hg]
theorem run_build {z:Value}{pl:List (Nat×Nat)} (parts:List (Nat×Value)) (hp:placesB P t=some pl) (hz:zeroB P t=some z)
  (hfit:∀ p∈parts,∃ off,pl[p.1]?=some (off,p.2.cells.size)∧off+p.2.cells.size≤z.cells.size) (w:World) :
  (Instr.build t parts.toArray).run P w = .ok (.agg (putParts pl z.cells parts)) w:=by
 unfold placesB at hp
 split at hp
 ·rename_i fields hu
  have hm:((fields.mapM fun f=>do pure (f.offset,← sizeOf f.type)):Sem (Array (Nat×Nat))).run P w = .ok pl.toArray w:=by
   rw [Array.mapM_eq_mapM_toList]
   rw [map_eq_pure_bind,Sem.run_bind,run_places fields.toList pl hp]
   rfl
  unfold Instr.build
  simp only [Sem.run_bind,run_zeroB hz w,Result.andThen_ok,run_underlying hu,hm,fill_parts pl parts z.cells hfit,Sem.run_pure]
 ·cases hp
theorem yl_build3 {i1 i2 i3:Nat}{x1 x2 x3:Operand}{v1 v2 v3:Value} (h1:a.eval x1=v1) (h2:a.eval x2=v2) (h3:a.eval x3=v3) (hr:∀ w,(Instr.build ty #[(i1,v1),(i2,v2),(i3,v3)]).run P w = .ok v w) :
  Yields P ops ⟨dst,.build ty #[(i1,x1),(i2,x2),(i3,x3)],t,pos,after,none⟩ v a:=
 .inl ⟨want_none _ rfl,fun w=>by
  simp only [execOp,List.map_toArray,List.map_cons,List.map_nil,h1,h2,h3,Sem.run_bind,hr,Result.andThen_ok,Sem.run_pure]⟩
theorem tk_loadN {G:World→Prop}{o:Nat} (ks:List Value) (hx:a.eval x = .pointer (some ⟨b,o,none⟩)){d:TypeDesc} (hu:P.underlying ty=some d) (hd:d.isRow=true) (hi:(P.info? ty).map (·.size)=some ks.length) (hG:∀ w,G w→w.rangeAt b o ks) :
  YieldsIf P ops G ⟨dst,.load ty x,t,pos,after,none⟩ (.agg ks.toArray) a:=
 yieldsIf_load_mid (want_none _ rfl) ty x rfl b o hx ks d hG hu hd hi
end
section
variable {w0 w:World}{F:List HProp}{v lv dv:Value}{sz:Nat}
theorem rdsl_cells {a:Option Addr}{n c:Nat}{xs:List Value} (h:rdsl sz (.slice a n c) xs w){i:Nat}{x:Value} (hi:xs[i]?=some x) :
  ∃ bk off,a=some ⟨bk,off,none⟩∧∀ j y,xs[j]?=some y→w.cell? ⟨bk,off+j,none⟩=some y:=by
 obtain ⟨a',n',c',he,hl,hx⟩:=h
 cases he
 obtain ⟨b,rfl,hc⟩:=hx i x hi
 have hlt:i<xs.length:=(List.getElem?_eq_some_iff.1 hi).1
 obtain ⟨y,hy⟩:∃ y,xs[0]?=some y:=⟨xs[0]'oQ,List.getElem?_eq_getElem _⟩
 obtain ⟨b',hb',hc0⟩:=hx 0 y hy
 cases hb'
 obtain ⟨bk,off,spot⟩:=b
 have hs:spot=none:=by simpa [Addr.add] using World.cell?_spot hc0
 subst hs
 refine ⟨bk,off,rfl,fun j y hj=>?_⟩
 obtain ⟨b'',hb'',hcj⟩:=hx j y hj
 cases hb''
 rw [Addr.add_mid]at hcj
 exact hcj
def entsL (es:List (Frm.Ent×Value)):List Value:=es.flatMap fun p=>entL p.1 p.2
theorem entL_len (x:Frm.Ent) (dv:Value) (hk:x.key.length=32):(entL x dv).length=34:=by simp [entL,bys,hk]
theorem entL_key (x:Frm.Ent) (dv:Value){j:Nat}{y:Value} (h:(bys x.key)[j]?=some y):(entL x dv)[1+j]?=some y:=by
 unfold entL
 rw [Nat.add_comm,List.getElem?_cons_succ,List.getElem?_append_left (List.getElem?_eq_some_iff.1 h).1];exact h
theorem entL_at33 (x:Frm.Ent) (dv:Value) (hk:x.key.length=32):(entL x dv)[33]?=some dv:=by
 unfold entL
 rw [List.getElem?_cons_succ,List.getElem?_append_right (by rw [bys_len];omega),bys_len,hk];rfl
theorem plEnt:placesB Tryz.prog 137=some [(0,1),(1,32),(33,1)]:=by kernel_rfl
def zeroEntV:Value:= .agg (entA Frm.zeroE (.slice none 0 0))
theorem zEnt:zeroB Tryz.prog 137=some zeroEntV:=by kernel_rfl
theorem puts3 (cs:Array Value) (hs:cs.size=34) (u dv:Value) (kl:List Value) (hk:kl.length=32):(putsAt (putsAt (putsAt cs 0 [u]) 1 kl) 33 [dv]).toList=u::(kl++[dv]):=by
 have hcl:cs.toList.length=34:=by simpa using hs
 rw [putsAt_list _ _ _ (by rw [putsAt_size,putsAt_size];simp;omega),putsAt_list _ _ _ (by rw [putsAt_size];omega),putsAt_list _ _ _ (by simp;omega)]
 simp only [List.take_zero,List.nil_append,List.length_singleton,Nat.zero_add]
 rw [List.singleton_append,List.take_succ_cons,List.take_zero,hk,show 1+32=32+1 by omega,List.drop_succ_cons,List.drop_drop]
 have h1:([u]++kl++cs.toList.drop (1+32)).length=34:=by simp [hk,hcl]
 rw [List.take_append_of_le_length (by simp [hk]),List.take_of_length_le (by simp [hk]),List.drop_of_length_le oQ]
 simp
theorem putsAt_eq {cs ds:Array Value} (h:cs.toList=ds.toList):cs=ds:=Array.toList_inj.1 h
set_option maxRecDepth 20000 in
theorem run_buildEnt (e:Frm.Ent) (hk:e.key.length=32) (da:Option Addr) (dn dc:Nat) (w:World) :
  (Instr.build 137 #[(0,.int .i64 e.tag),(1,.agg (bys e.key).toArray),(2,.slice da dn dc)]).run Tryz.prog w = .ok (.agg (entA e (.slice da dn dc))) w:=by
 have hz:(entA Frm.zeroE (.slice none 0 0)).size=34:=entA_size _ _ rfl
 have hks:(bys e.key).toArray.size=32:=by simp [bys,hk]
 have h:=run_build (P:=Tryz.prog) [(0,.int .i64 e.tag),(1,.agg (bys e.key).toArray),(2,.slice da dn dc)] plEnt zEnt (by
  intro p hp
  simp only [List.mem_cons,List.not_mem_nil,or_false]at hp
  have hzz:zeroEntV.cells.size=34:=hz
  rw [hzz]
  rcases hp with rfl|rfl|rfl
  ·exact ⟨0,rfl,by show 0+1≤34;omega⟩
  ·refine ⟨1,?_,?_⟩
   ·show some (1,32)=some (1,(bys e.key).toArray.size);rw [hks]
   ·show 1+(bys e.key).toArray.size≤34;rw [hks];omega
  ·exact ⟨33,rfl,by show 33+1≤34;omega⟩) w
 refine h.trans ?_
 congr 2
 apply putsAt_eq
 exact puts3 _ hz _ _ _ (show (bys e.key).toArray.toList.length=32 by rw [List.toList_toArray,bys_len,hk])
theorem puts_whole (cs:Array Value) (vs:List Value) (h:vs.length=cs.size):putsAt cs 0 vs=vs.toArray:=by
 apply putsAt_eq
 rw [putsAt_list _ _ _ oQ,List.take_zero,List.nil_append,List.drop_of_length_le (by simp;omega),List.append_nil,List.toList_toArray]
end
section
variable {w0 w:World}{L L' R:List HProp}{b:Nat}{ops:Array Oper}{rest:List Oper}{a:Act}{Q:Exit→Act→World→Prop}
variable {dst:Option Tmp}{t T:TypeId}{pos:String}{after:Array Edge}{x y:Operand}{cs:Array Value}{v:Value}{e:Frm.Ent}{da:Option Addr}{dn dc:Nat}
theorem entA_ones (e:Frm.Ent) (a:Option Addr) (n c:Nat):(entA e (.slice a n c)).all (·.oneCell')=true:=by
 rw [← Array.all_toList]
 unfold entA entL
 rw [List.toList_toArray,List.all_cons,List.all_append]
 have:(bys e.key).all (·.oneCell')=true:=List.all_eq_true.2 (bys_one _)
 rw [this];rfl
theorem infoEntSize:(Tryz.prog.info? 137).map (·.size)=some 34:=by kernel_rfl
theorem wl_storeE (hs:Sat w0 w L) (hx:a.eval x = .pointer (some ⟨b,0,none⟩)) (hy:a.eval y = .agg (entA e (.slice da dn dc))) (hk:e.key.length=32) (u:Upd (pt b (.cells cs T (0,0))) (pt b (.cells (entA e (.slice da dn dc)) T (0,0))) L L') (hcs:cs.size=34)
  (hK:∀ w',Sat w0 w' L'→wpList Tryz.prog ops Q rest (a.put dst undef) w'):wpList Tryz.prog ops Q (⟨dst,.store 137 x y,t,pos,after,none⟩::rest) a w:=by
 obtain ⟨R',h2,h3⟩:=u
 have hz:=entA_size e (.slice da dn dc) hk
 refine wpList_store_sat (w0:=w0) rfl 137 x y rfl 0 (.agg (entA e (.slice da dn dc))) hx hy (show 0+(entA e (.slice da dn dc)).size≤cs.size by omega) (show _=some (entA e (.slice da dn dc)).size by rw [hz];exact infoEntSize) (entA_ones _ _ _ _) (hs.perm h2) fun w' hS=>hK w' ?_
 have he:putsAt cs 0 (Value.agg (entA e (.slice da dn dc))).cells.toList=entA e (.slice da dn dc):=by
  show putsAt cs 0 (entA e (.slice da dn dc)).toList=_
  rw [puts_whole _ _ (by simp;omega)]
 rw [he]at hS
 exact hS.perm h3.symm
theorem wl_loadE (hs:Sat w0 w L) (hx:a.eval x = .pointer (some ⟨b,0,none⟩)) (p:Pick (pt b (.cells (entA e (.slice da dn dc)) T (0,0))) L R) (hk:e.key.length=32)
  (h:wpList Tryz.prog ops Q rest (a.put dst (.agg (entA e (.slice da dn dc)))) w):wpList Tryz.prog ops Q (⟨dst,.load 137 x,t,pos,after,none⟩::rest) a w:=
 wl_loadA hs hx p Tryz.underlying137 rfl (by rw [entA_size e _ hk];exact infoEntSize) h
theorem at_storeE (h:Stop (wpList Tryz.prog ops Q (⟨dst,.store 137 x y,t,pos,after,none⟩::rest) a w)):wpList Tryz.prog ops Q (⟨dst,.store 137 x y,t,pos,after,none⟩::rest) a w:=h.out
theorem at_loadE (h:Stop (wpList Tryz.prog ops Q (⟨dst,.load 137 x,t,pos,after,none⟩::rest) a w)):wpList Tryz.prog ops Q (⟨dst,.load 137 x,t,pos,after,none⟩::rest) a w:=h.out
theorem run_zeroEnt (w:World):(Instr.build 137 #[]).run Tryz.prog w = .ok zeroEntV w:=run_build (P:=Tryz.prog) [] plEnt zEnt (by simp) w
theorem wl_allocE (hs:Sat w0 w L) (hK:∀ b w',Sat w0 w' (pt b (.cells (entA Frm.zeroE (.slice none 0 0)) 137 (0,0))::L)→wpList Tryz.prog ops Q rest (a.put dst (.pointer (some ⟨b,0,none⟩))) w') :
  wpList Tryz.prog ops Q (⟨dst,.alloc 137,t,pos,after,none⟩::rest) a w:=wl_alloc zEnt hs rfl hK
theorem at_allocE (h:Stop (wpList Tryz.prog ops Q (⟨dst,.alloc 137,t,pos,after,none⟩::rest) a w)):wpList Tryz.prog ops Q (⟨dst,.alloc 137,t,pos,after,none⟩::rest) a w:=h.out
theorem res_entE {fn:Func}{p u:Tmp}{tmps:Array Value} (hf:fn.results=#[.cell p 137,.tmp u]) (hs:Sat w0 w L) (hp:tmps.getD p undef = .pointer (some ⟨b,0,none⟩)) (k:Pick (pt b (.cells (entA e (.slice da dn dc)) T (0,0))) L R) (hk:e.key.length=32) :
  (results fn tmps).run Tryz.prog w = .ok (.tuple #[.agg (entA e (.slice da dn dc)),tmps.getD u undef]) w:=
 res_cell_tmp hf hs hp k Tryz.underlying137 rfl (by rw [entA_size e _ hk];exact infoEntSize)
end
section
variable {P:Program}{w0 w:World}{L L' R:List HProp}{b:Nat}{ops:Array Oper}{rest:List Oper}{a:Act}{Q:Exit→Act→World→Prop}
variable {dst:Option Tmp}{t ty T:TypeId}{pos:String}{after:Array Edge}{x y z:Operand}{cs:Array Value}{v:Value}{o:Nat}
variable {vx vy:Value}{ad:Addr}{fl:Nat}{bo:BinOp}{uo:UnOp}{tz:TypeId}{G:World→Prop}
theorem yg_move {g:Option (Nat×Bool)} (hw:Region.wanted ⟨dst,.move x,t,pos,after,g⟩ (yielded ops a.tmps)=true) (hx:a.eval x=v):Yields P ops ⟨dst,.move x,t,pos,after,g⟩ v a:=
 .inl ⟨hw,fun w=>by simp only [execOp,hx];rfl⟩
theorem yg_index {g:Option (Nat×Bool)} (hw:Region.wanted ⟨dst,.indexAddr ty x y,t,pos,after,g⟩ (yielded ops a.tmps)=true) (hx:a.eval x=vx) (hy:a.eval y=vy) (hr:∀ w,(Instr.indexAt ty vx vy).run P w = .ok v w):Yields P ops ⟨dst,.indexAddr ty x y,t,pos,after,g⟩ v a:=
 .inl ⟨hw,fun w=>by simp only [execOp,hx,hy,Sem.run_bind,hr,Result.andThen_ok,Sem.run_pure]⟩
theorem yg_bin {g:Option (Nat×Bool)} (hw:Region.wanted ⟨dst,.binOp bo ty x y tz,t,pos,after,g⟩ (yielded ops a.tmps)=true) (hx:a.eval x=vx) (hy:a.eval y=vy) (hr:∀ w,((do eqGuard bo ty x y vx vy;binOp bo ty vx vy):Sem Value).run P w = .ok v w):Yields P ops ⟨dst,.binOp bo ty x y tz,t,pos,after,g⟩ v a:=
 .inl ⟨hw,fun w=>by simp only [execOp,hx,hy,Sem.run_bind (x:=(do eqGuard bo ty x y vx vy;binOp bo ty vx vy)),hr,Result.andThen_ok,Sem.run_pure]⟩
theorem yg_un {g:Option (Nat×Bool)} (hw:Region.wanted ⟨dst,.unOp uo ty x,t,pos,after,g⟩ (yielded ops a.tmps)=true) (hx:a.eval x=vx) (hr:∀ w,(Op.unary uo vx).run P w = .ok v w):Yields P ops ⟨dst,.unOp uo ty x,t,pos,after,g⟩ v a:=
 .inl ⟨hw,fun w=>by simp only [execOp,hx,Sem.run_bind,hr,Result.andThen_ok,Sem.run_pure]⟩
theorem tg_load {g:Option (Nat×Bool)} (hw:Region.wanted ⟨dst,.load ty x,t,pos,after,g⟩ (yielded ops a.tmps)=true) (hx:a.eval x = .pointer (some ad)) (h1:oneB P ty=true) (hG:∀ w,G w→w.cell? ad=some v):YieldsIf P ops G ⟨dst,.load ty x,t,pos,after,g⟩ v a:=
 .inl ⟨hw,fun w hw=>by
  obtain ⟨b,o,el⟩:=ad
  have hc:=hG w hw
  simp only [execOp,hx,Instr.loadAt,Instr.sureAddr,Sem.run_bind,Sem.run_pure,Result.andThen_ok,run_load1A h1 hc]⟩
theorem yg_pick {g:Option (Nat×Bool)}{c:Bool} (hw:Region.wanted ⟨dst,.pick x y z,t,pos,after,g⟩ (yielded ops a.tmps)=true) (hx:a.eval x = .bool c) (hv:(if c then a.eval y else a.eval z)=v):Yields P ops ⟨dst,.pick x y z,t,pos,after,g⟩ v a:=
 .inl ⟨hw,fun w=>by
  subst hv
  simp only [execOp,hx]
  cases c <;> rfl⟩
theorem tg_loadN {g:Option (Nat×Bool)} (ks:List Value) (hw:Region.wanted ⟨dst,.load ty x,t,pos,after,g⟩ (yielded ops a.tmps)=true) (hx:a.eval x = .pointer (some ⟨b,o,none⟩)){d:TypeDesc} (hu:P.underlying ty=some d) (hd:d.isRow=true) (hi:(P.info? ty).map (·.size)=some ks.length) (hG:∀ w,G w→w.rangeAt b o ks) :
  YieldsIf P ops G ⟨dst,.load ty x,t,pos,after,g⟩ (.agg ks.toArray) a:=
 yieldsIf_load_mid hw ty x rfl b o hx ks d hG hu hd hi
theorem eg_of {op:Oper}{K:Act→World→Prop}{E:Prop} (hw:Region.wanted op (yielded ops a.tmps)=true) (h:Oper.wp P op a w K Q):if Region.wanted op (yielded ops a.tmps)=true then Oper.wp P op a w K Q else E:=by
 rw [if_pos hw];exact h
theorem eg_call {g:Option (Nat×Bool)}{f:FuncId}{xs:Array Operand}{ts:Array TypeId}{K:Act→World→Prop}{E:Prop} (vs:List Value) (hw:Region.wanted ⟨dst,.call { callee:= .value (.func f),args:=xs,argTypes:=ts },t,pos,after,g⟩ (yielded ops a.tmps)=true) (hf:goB P f=true) (hv:xs.toList.map a.eval=vs)
  (h:Calls P f vs.toArray w (Upon K Q a dst)):if Region.wanted ⟨dst,.call { callee:= .value (.func f),args:=xs,argTypes:=ts },t,pos,after,g⟩ (yielded ops a.tmps)=true then
   Oper.wp P ⟨dst,.call { callee:= .value (.func f),args:=xs,argTypes:=ts },t,pos,after,g⟩ a w K Q else E:=by
 rw [if_pos hw]
 have h0:=eff_call (P:=P) (ops:=ops) (a:=a) (w:=w) (Q:=Q) (dst:=dst) (t:=t) (pos:=pos) (after:=after) (K:=K) (E:=False) (xs:=xs) (ts:=ts) vs hf hv h
 rw [if_pos (want_none _ rfl)]at h0
 exact h0
theorem rg_skip {l:Array Bool}{n:Nat}{late:List Nat}{oi:Oper} (i:Nat) (hi:ops.toList[i]?=some oi) (hc:(Region.noSelect ops && Region.free .any ops l i && (Region.ready .any ops l).contains i && shutB ops l)=true)
  (hQ:∀ c a w,Q (.panic c) (a.put oi.dst undef) w→Q (.panic c) a w) (hw:Region.wanted oi (yielded ops a.tmps)=false) {a':Act} (ha:a.put oi.dst undef=a')
  (h:wpL P ops Q late G n (l.setIfInBounds i true) a' w):wpL P ops Q late G (n+1) l a w:=
 rg_pure i hi hc hQ (.inr ⟨hw,rfl⟩) ha h
end
end Go.Proofs.YtlimfgdbfadohaaGreatDoor
namespace Go.Med
def Med.which (D:Med) (s:ByteArray):Int:=match nget D.now s with
 |none=> -1
 |some i=>(i:Int)
end Go.Med
namespace Go.Proofs.YtlimfgdbfadohaaGreatDoor
open Go Go.Sl Go.Med Go.MapKept Go.RowKit
abbrev Bag:=List (Value×Names)
structure RF where
 f:Fil
 fv:Value
 nv:Value
 wv:Value
 ws:List (Chg×Value)
section
variable {w0 w:World}{b o:Nat}{ops:Array Oper}{rest:List Oper}{a:Act}{Q:Exit→Act→World→Prop}{dst:Option Tmp}{t ty:TypeId}{pos:String}{after:Array Edge}{x:Operand}{P:Program}
end
section
variable {w0 w:World}{F R:List HProp}{d:Nat}{D:Med}{fsv fv nv wv v:Value}{xs:List RF}{g:Bag}{K:Nat}
end
section
variable {P:Program}{w0 w:World}{L L':List HProp}{b o:Nat}{ops:Array Oper}{a:Act}{Q:Exit→Act→World→Prop}{dst:Option Tmp}{t ty T:TypeId}{pos:String}{after:Array Edge}{x y:Operand}{cs:Array Value}{v:Value}{K:Act→World→Prop}{E:Prop}
theorem eff_store (hs:Sat w0 w L) (hx:a.eval x = .pointer (some ⟨b,o,none⟩)) (hy:a.eval y=v){cs':Array Value} (hcs:putsAt cs o v.cells.toList=cs') (u:Upd (pt b (.cells cs T (0,0))) (pt b (.cells cs' T (0,0))) L L') (hfit:o+v.cells.size≤cs.size)
  (hi:(P.info? ty).map (·.size)=some v.cells.size) (h1:v.cells.toList.all (·.oneCell')=true)
  (hK:∀ w',Sat w0 w' L'→K (a.put dst undef) w') :
  if Region.wanted ⟨dst,.store ty x y,t,pos,after,none⟩ (yielded ops a.tmps)=true then Oper.wp P ⟨dst,.store ty x y,t,pos,after,none⟩ a w K Q else E:=by
 subst hcs
 obtain ⟨R',h2,h3⟩:=u
 refine eff_of rfl ?_
 have h:=hs.perm h2
 have hth:w.there b o v.cells.size:=by
  intro j hj
  refine ⟨?_,h.freeAt _⟩
  rw [h.cellAt (o+j) _ (Array.getElem?_eq_getElem (show o+j<cs.size by omega))]
  rfl
 have hst:=run_storeCells_cells (P:=P) b o v.cells.toList 0 w (fun j hj=>by simpa using (hth j (by simpa using hj)).1) (fun j hj=>by simpa using (hth j (by simpa using hj)).2)
  (fun u hu=>(List.all_eq_true.1 h1) u hu)
 have hrun:(storeVar ty ⟨b,o,none⟩ v).run P w = .ok () (w.setCells b o v.cells.toList):=by
  cases hq:P.info? ty with
  |none=>simp [hq]at hi
  |some i=>
   have hs:v.cells.size=i.size:=by simp [hq]at hi;omega
   simp only [Nat.add_zero]at hst
   simp [storeVar,sizeOf,typeInfo,hq,hs,hst]
 unfold Oper.wp execOp
 simp only [hx,hy,Instr.storeAt,Instr.sureAddr,Sem.run_bind,Sem.run_pure,Result.andThen_ok,hrun]
 exact hK _ ((Sat.sets _ _ h).perm h3.symm)
end
def RF.zero:RF:=⟨Fil.new,.slice none 0 0,.slice none 0 0,.slice none 0 0,[]⟩
section
variable {w0 w:World}{F R:List HProp}{d:Nat}{D:Med}{fsv fv nv wv v lv:Value}{xs:List RF}{g:Bag}{K:Nat}
end
end Go.Proofs.YtlimfgdbfadohaaGreatDoor
namespace Go.Med
theorem xorAt_len (l:Bs) (i:Nat) (y:UInt8):(xorAt l i y).length=l.length:=by unfold xorAt;simp
def Alike (c d:Chg):Prop:=d.cut=c.cut∧d.n=c.n∧d.b.length=c.b.length
theorem on_len {c d:Chg} (h:Alike c d){l l':Bs} (hl:l'.length=l.length):(d.on l').length=(c.on l).length:=by
 obtain ⟨h1,h2,h3⟩:=h
 unfold Chg.on
 rw [h1]
 split
 ·simp [h2,hl]
 ·simp [h3,hl]
theorem at_len {f g:Fil} (h0:g.fast.length=f.fast.length) (hw:g.waits.length=f.waits.length)
  (hc:∀ (k:Nat) (c d:Chg),f.waits[k]?=some c→g.waits[k]?=some d→Alike c d):∀ k,k≤f.waits.length→(g.at k).length=(f.at k).length:=by
 intro k
 induction k with
 |zero=>intro _;exact h0
 |succ k ih=>
  intro hk
  have h1:f.waits[k]?=some (f.waits[k]'oQ):=List.getElem?_eq_getElem _
  have h2:g.waits[k]?=some (g.waits[k]'oQ):=List.getElem?_eq_getElem _
  rw [f.at_succ k _ h1,g.at_succ k _ h2]
  exact on_len (hc k _ _ h1 h2) (ih oQ)
theorem xorAt_left {l:Bs}{i:Nat} (y:UInt8) (b:Bs) (h:i<l.length):xorAt (l++b) i y=xorAt l i y++b:=by
 unfold xorAt
 rw [List.set_append_left _ _ h,List.getD_eq_getElem?_getD,List.getElem?_append_left h,List.getD_eq_getElem?_getD]
theorem xorAt_right {l:Bs}{i:Nat} (y:UInt8) (b:Bs) (h:l.length≤i):xorAt (l++b) i y=l++xorAt b (i - l.length) y:=by
 unfold xorAt
 rw [List.set_append_right _ _ h,List.getD_eq_getElem?_getD,List.getElem?_append_right h,List.getD_eq_getElem?_getD]
theorem xorAt_take (l:Bs) (i n:Nat) (y:UInt8):(xorAt l i y).take n=xorAt (l.take n) i y:=by
 unfold xorAt
 rw [List.take_set]
 by_cases h:i<n
 ·rw [List.getD_eq_getElem?_getD,List.getD_eq_getElem?_getD,List.getElem?_take_of_lt h]
 ·rw [List.set_eq_of_length_le (by simp;omega),List.set_eq_of_length_le (by simp;omega)]
theorem on_xor (c:Chg) (l:Bs) (i:Nat) (y:UInt8) (h:c.cut=true∨i<l.length):c.on (xorAt l i y)=xorAt (c.on l) i y:=by
 unfold Chg.on
 cases hc:c.cut
 ·simp only [Bool.false_eq_true,if_false]
  rcases h with h|h
  ·rw [hc]at h;cases h
  ·exact (xorAt_left y c.b h).symm
 ·simp only [if_true];exact xorAt_take l i c.n y
def Past (f:Fil) (i k n:Nat):Prop:=∀ (j:Nat) (c:Chg),k≤j→j<n→f.waits[j]?=some c→c.cut=true∨i<(f.at j).length
theorem at_xor {f g:Fil}{i k:Nat}{y:UInt8} (h0:g.at k=xorAt (f.at k) i y) (hw:∀ j,k≤j→g.waits[j]?=f.waits[j]?) (hp:Past f i k f.waits.length) :
  ∀ j,k≤j→j≤f.waits.length→g.at j=xorAt (f.at j) i y:=by
 intro j hj
 induction hj with
 |refl=>intro _;exact h0
 |@step j hk ih=>
  intro hl
  have h1:f.waits[j]?=some (f.waits[j]'oQ):=List.getElem?_eq_getElem _
  have h2:g.waits[j]?=some (f.waits[j]'oQ):=by rw [hw j hk];exact h1
  rw [f.at_succ j _ h1,g.at_succ j _ h2,ih oQ]
  exact on_xor _ _ _ _ (hp j _ hk oQ h1)
theorem rotWaits_spec (f:Fil) (i:Nat) (y:UInt8):∀ n,n≤f.waits.length →
  (rotWaits f i y n=none∧Past f i 0 n) ∨
  ∃ (k:Nat) (c:Chg),k<n∧f.waits[k]?=some c∧c.cut=false∧(f.at k).length≤i∧rotWaits f i y n=some (f.waits.set k { c with b:=xorAt c.b (i - (f.at k).length) y })∧Past f i (k+1) n
 |0,_=> .inl ⟨rfl,fun j c _ h=>by omega⟩
 |n+1,hn=>by
  have h1:f.waits[n]?=some (f.waits[n]'oQ):=List.getElem?_eq_getElem _
  generalize f.waits[n]'oQ=c at h1
  have step:(c.cut=true∨i<(f.at n).length)→rotWaits f i y (n+1)=rotWaits f i y n:=by
   intro h
   show (match f.waits[n]? with|none=>_|some c=>_)=_
   rw [h1]
   simp only
   rcases h with h|h
   ·rw [if_pos h]
   ·split
    ·rfl
    ·rw [if_neg oQ]
  have past:∀ k,(c.cut=true∨i<(f.at n).length)→Past f i k n→Past f i k (n+1):=by
   intro k h hp j d hk hj hd
   rcases Nat.lt_or_ge j n with hlt|hge
   ·exact hp j d hk hlt hd
   ·obtain rfl:j=n:=by omega
    rw [h1]at hd;cases hd;exact h
  by_cases h:c.cut=true∨i<(f.at n).length
  ·rcases rotWaits_spec f i y n oQ with ⟨h2,h3⟩|⟨k,d,h2,h3,h4,h5,h6,h7⟩
   ·exact .inl ⟨(step h).trans h2,past 0 h h3⟩
   ·exact .inr ⟨k,d,by omega,h3,h4,h5,(step h).trans h6,past _ h h7⟩
  ·have hc:c.cut=false:=by cases hcc:c.cut;rfl;exact absurd (.inl hcc) h
   have hl:(f.at n).length≤i:=Nat.le_of_not_lt fun h'=>h (.inr h')
   refine .inr ⟨n,c,by omega,h1,hc,hl,?_,fun j d hk hj=>by omega⟩
   show (match f.waits[n]? with|none=>_|some c=>_)=_
   rw [h1]
   simp only [hc,Bool.false_eq_true,if_false]
   rw [if_pos hl]
theorem rot_ok_of {f g:Fil}{K:Nat} (h:f.Ok K) (h0:g.fast.length=f.fast.length) (hw:g.waits.length=f.waits.length)
  (hc:∀ (k:Nat) (c d:Chg),f.waits[k]?=some c→g.waits[k]?=some d→Alike c d) (hn:g.now=g.at f.waits.length):g.Ok K:=by
 have hl:=at_len h0 hw hc
 refine ⟨by rw [hw];exact hn,?_,?_,by rw [hw];exact h.budget⟩
 ·intro k d hk hd
  have hlt:k<g.waits.length:=(List.getElem?_eq_some_iff.1 hk).1
  obtain ⟨c,hcc⟩:∃ c,f.waits[k]?=some c:=⟨f.waits[k]'oQ,List.getElem?_eq_getElem _⟩
  obtain ⟨a1,a2,a3⟩:=hc k c d hcc hk
  rw [hl k oQ,a2]
  exact h.cuts k c hcc (by rw [← a1];exact hd)
 ·intro k hk
  rw [hl k oQ]
  exact h.size k oQ
theorem Fil.Ok.rot {f:Fil}{K:Nat} (h:f.Ok K) (i:Nat) (y:UInt8):(f.rot i y).Ok K∧(f.rot i y).now=xorAt f.now i y:=by
 rcases rotWaits_spec f i y f.waits.length (Nat.le_refl _) with ⟨h1,h2⟩|⟨k,c,hk,hc,hcut,hlen,h1,h2⟩
 ·have e:f.rot i y={ f with now:=xorAt f.now i y,fast:=xorAt f.fast i y }:=by unfold Fil.rot;rw [h1]
  rw [e]
  refine ⟨rot_ok_of h (xorAt_len _ _ _) rfl (fun k c d h3 h4=>?_) ?_,rfl⟩
  ·rw [h3]at h4;cases h4;exact ⟨rfl,rfl,rfl⟩
  ·have:=at_xor (f:=f) (g:={ f with now:=xorAt f.now i y,fast:=xorAt f.fast i y }) (i:=i) (k:=0) (y:=y) rfl (fun j _=>rfl) h2 f.waits.length (Nat.zero_le _) (Nat.le_refl _)
   rw [this,← h.now]
 ·have e:f.rot i y={ f with now:=xorAt f.now i y,waits:=f.waits.set k { c with b:=xorAt c.b (i - (f.at k).length) y } }:=by unfold Fil.rot;rw [h1]
  rw [e]
  have hset:(f.waits.set k { c with b:=xorAt c.b (i - (f.at k).length) y })[k]?=some { c with b:=xorAt c.b (i - (f.at k).length) y }:=by rw [List.getElem?_set_self hk]
  refine ⟨rot_ok_of h rfl (by simp) (fun j c' d h3 h4=>?_) ?_,rfl⟩
  ·simp only at h4
   by_cases hj:k=j
   ·subst hj
    rw [hset]at h4
    rw [hc]at h3
    cases h3;cases h4
    exact ⟨rfl,rfl,xorAt_len _ _ _⟩
   ·rw [List.getElem?_set_ne hj,h3]at h4
    cases h4;exact ⟨rfl,rfl,rfl⟩
  ·generalize hg:({ f with now:=xorAt f.now i y,waits:=f.waits.set k { c with b:=xorAt c.b (i - (f.at k).length) y } }:Fil)=g
   have hgw:g.waits=f.waits.set k { c with b:=xorAt c.b (i - (f.at k).length) y }:=by rw [← hg]
   have hgf:g.fast=f.fast:=by rw [← hg]
   have hgn:g.now=xorAt f.now i y:=by rw [← hg]
   have hk0:g.at k=f.at k:=by unfold Fil.at;rw [hgw,hgf,List.take_set_of_le (Nat.le_refl _)]
   have hk1:g.at (k+1)=xorAt (f.at (k+1)) i y:=by
    rw [g.at_succ k _ (by rw [hgw];exact hset),hk0,f.at_succ k c hc]
    unfold Chg.on
    simp only [hcut,Bool.false_eq_true,if_false]
    rw [xorAt_right y c.b hlen]
   have:=at_xor hk1 (fun j hj=>by rw [hgw,List.getElem?_set_ne oQ]) h2 f.waits.length hk (Nat.le_refl _)
   rw [this,hgn,← h.now]
theorem Med.Ok.rot {M:Med}{K:Nat} (h:M.Ok K) (s:ByteArray) (i:Int) (y:UInt8):(M.rot s i y).1.Ok (K+1):=by
 unfold Med.rot
 split
 ·exact h.mono (Nat.le_succ _)
 ·split
  ·exact h.mono (Nat.le_succ _)
  ·exact h.setFile _ _ (((h.file _).rot _ _).1.mono (Nat.le_succ _))
structure Cal where
 kind:Int
 name:ByteArray
 to:ByteArray
 n:Int
 m:Int
 b:Bs
 l:List Int
def lowByte (m:Int):UInt8:=UInt8.ofNat (m%256).toNat
def Med.does (M:Med) (x:Cal):Med×(Bs×Int×Bool):=
 if x.kind=0 then ((M.create x.name).1,[],(M.create x.name).2,false)
 else if x.kind=1 then ((M.append x.name x.b).1,[],(M.append x.name x.b).2,false)
 else if x.kind=2 then ((M.truncate x.name x.n).1,[],(M.truncate x.name x.n).2,false)
 else if x.kind=3 then ((M.rename x.name x.to).1,[],(M.rename x.name x.to).2,false)
 else if x.kind=4 then ((M.remove x.name).1,[],(M.remove x.name).2,false)
 else if x.kind=5 then ((M.sync x.name).1,[],(M.sync x.name).2,false)
 else if x.kind=6 then (M.syncDir.1,[],M.syncDir.2,false)
 else if x.kind=7 then ((M.arm x.n).1,[],(M.arm x.n).2,false)
 else if x.kind=8 then (M.crash x.l,[],0,false)
 else if x.kind=9 then ((M.setRoom x.n).1,[],(M.setRoom x.n).2,false)
 else if x.kind=10 then ((M.rot x.name x.n (lowByte x.m)).1,[],0,(M.rot x.name x.n (lowByte x.m)).2)
 else (M,(M.read x.name x.n x.m).1,(M.read x.name x.n x.m).2,false)
theorem Med.does_ind {P:Med×Bs×Int×Bool→Prop}{M:Med}{x:Cal}
  (h0:x.kind=0→P ((M.create x.name).1,[],(M.create x.name).2,false))
  (h1:x.kind=1→P ((M.append x.name x.b).1,[],(M.append x.name x.b).2,false))
  (h2:x.kind=2→P ((M.truncate x.name x.n).1,[],(M.truncate x.name x.n).2,false))
  (h3:x.kind=3→P ((M.rename x.name x.to).1,[],(M.rename x.name x.to).2,false))
  (h4:x.kind=4→P ((M.remove x.name).1,[],(M.remove x.name).2,false))
  (h5:x.kind=5→P ((M.sync x.name).1,[],(M.sync x.name).2,false))
  (h6:x.kind=6→P (M.syncDir.1,[],M.syncDir.2,false))
  (h7:x.kind=7→P ((M.arm x.n).1,[],(M.arm x.n).2,false))
  (h8:x.kind=8→P (M.crash x.l,[],0,false))
  (h9:x.kind=9→P ((M.setRoom x.n).1,[],(M.setRoom x.n).2,false))
  (h10:x.kind=10→P ((M.rot x.name x.n (lowByte x.m)).1,[],0,(M.rot x.name x.n (lowByte x.m)).2))
  (hz:x.kind≠0∧x.kind≠1∧x.kind≠2∧x.kind≠3∧x.kind≠4∧x.kind≠5∧x.kind≠6∧x.kind≠7∧x.kind≠8∧x.kind≠9∧x.kind≠10→P (M,(M.read x.name x.n x.m).1,(M.read x.name x.n x.m).2,false)):P (M.does x):=by
 unfold Med.does
 by_cases c0:x.kind=0;· rw [if_pos c0];exact h0 c0
 rw [if_neg c0]
 by_cases c1:x.kind=1;· rw [if_pos c1];exact h1 c1
 rw [if_neg c1]
 by_cases c2:x.kind=2;· rw [if_pos c2];exact h2 c2
 rw [if_neg c2]
 by_cases c3:x.kind=3;· rw [if_pos c3];exact h3 c3
 rw [if_neg c3]
 by_cases c4:x.kind=4;· rw [if_pos c4];exact h4 c4
 rw [if_neg c4]
 by_cases c5:x.kind=5;· rw [if_pos c5];exact h5 c5
 rw [if_neg c5]
 by_cases c6:x.kind=6;· rw [if_pos c6];exact h6 c6
 rw [if_neg c6]
 by_cases c7:x.kind=7;· rw [if_pos c7];exact h7 c7
 rw [if_neg c7]
 by_cases c8:x.kind=8;· rw [if_pos c8];exact h8 c8
 rw [if_neg c8]
 by_cases c9:x.kind=9;· rw [if_pos c9];exact h9 c9
 rw [if_neg c9]
 by_cases c10:x.kind=10;· rw [if_pos c10];exact h10 c10
 rw [if_neg c10]
 exact hz ⟨c0,c1,c2,c3,c4,c5,c6,c7,c8,c9,c10⟩
structure Quiet (M:Med):Prop where
 armed:M.armed=false
 off:M.off=false
 left:M.left=0
theorem Quiet.new (r:Nat):Quiet (new r):=⟨rfl,rfl,rfl⟩
theorem Quiet.step {M:Med} (h:Quiet M):M.step=(M,true):=by simp [Med.step,h.armed]
theorem Quiet.link {M:Med} (h:Quiet M) (x:Lnk):Quiet (M.link x):=⟨h.armed,h.off,h.left⟩
theorem Quiet.setFile {M:Med} (h:Quiet M) (i:Nat) (f:Fil):Quiet (M.setFile i f):=⟨h.armed,h.off,h.left⟩
theorem Quiet.create {M:Med} (h:Quiet M) (s:ByteArray):Quiet (M.create s).1:=by
 unfold Med.create
 rw [h.step]
 split;· exact h
 split;· exact h
 split;· exact h
 split;· exact h
 split;· exact h
 exact ⟨h.armed,h.off,h.left⟩
theorem Quiet.append {M:Med} (h:Quiet M) (s:ByteArray) (b:Bs):Quiet (M.append s b).1:=by
 unfold Med.append
 rw [h.step]
 split;· exact h
 split;· exact h
 split;· exact h
 split;· exact h
 exact h.setFile _ _
theorem Quiet.remove {M:Med} (h:Quiet M) (s:ByteArray):Quiet (M.remove s).1:=by
 unfold Med.remove
 rw [h.step]
 split;· exact h
 split;· exact h
 split;· exact h
 exact h.link _
theorem Quiet.sync {M:Med} (h:Quiet M) (s:ByteArray):Quiet (M.sync s).1:=by
 unfold Med.sync
 rw [h.step]
 split;· exact h
 split;· exact h
 split;· exact h
 exact h.setFile _ _
theorem Quiet.rot {M:Med} (h:Quiet M) (s:ByteArray) (i:Int) (y:UInt8):Quiet (M.rot s i y).1:=by
 unfold Med.rot
 split;· exact h
 split;· exact h
 exact h.setFile _ _
theorem Quiet.sync_eq {M:Med} (h:Quiet M){s:ByteArray}{i:Nat} (hs:nget M.now s=some i):M.sync s=(M.setFile i (M.file i).sync,0):=by
 unfold Med.sync
 rw [h.step,h.off,hs]
 rfl
theorem file_set {M:Med}{i:Nat}{f:Fil} (hi:i<M.files.length) (j:Nat):(M.setFile i f).file j=if j=i then f else M.file j:=by
 unfold Med.setFile Med.file
 simp only [List.getD_eq_getElem?_getD]
 split
 ·rename_i h;subst h;rw [List.getElem?_set_self hi];rfl
 ·rename_i h;rw [List.getElem?_set_ne (Ne.symm h)]
theorem Quiet.list {M:Med} (h:Quiet M):M.list=M.now.map (·.1):=by unfold Med.list;rw [h.off];rfl
def Dst (M:Med):Prop:=(M.now.map (·.2)).Nodup
theorem used_split {M:Med} (hs:Srt M.now) (hd:Dst M){s:ByteArray}{i:Nat} (h:nget M.now s=some i) :
  (∀ p∈ndel M.now s,p.2≠i)∧∀ g:Nat→Nat,(M.now.map fun p=>g p.2).sum=g i+((ndel M.now s).map fun p=>g p.2).sum:=by
 have hp:=ndel_perm hs.keys (nget_mem h)
 constructor
 ·have hd':(M.now.map fun p:ByteArray×Nat=>p.2).Nodup:=hd
  have:=(hp.map (fun p:ByteArray×Nat=>p.2)).nodup_iff.1 hd'
  simp only [List.map_cons,List.nodup_cons]at this
  intro p hp e
  exact this.1 (List.mem_map.2 ⟨p,hp,e⟩)
 ·intro g
  have:=(hp.map fun p=>g p.2).sum_nat
  simpa using this
theorem sum_congr {l:Names}{g h:Nat→Nat} (e:∀ p∈l,g p.2=h p.2):(l.map fun p=>g p.2).sum=(l.map fun p=>h p.2).sum:=by
 rw [List.map_congr_left e]
theorem used_set {M:Med}{K:Nat} (ok:M.Ok K) (hd:Dst M){s:ByteArray}{i:Nat} (h:nget M.now s=some i) (f:Fil) :
  (M.setFile i f).used+(M.file i).now.length=M.used+f.now.length:=by
 obtain ⟨h1,h2⟩:=used_split ok.nowOk.srt hd h
 have hi:i<M.files.length:=ok.nowOk.ids _ (nget_mem h)
 have e1:=h2 fun j=>(M.file j).now.length
 have e2:=h2 fun j=>((M.setFile i f).file j).now.length
 have e3:((ndel M.now s).map fun p=>((M.setFile i f).file p.2).now.length).sum=((ndel M.now s).map fun p=>(M.file p.2).now.length).sum:=
  sum_congr (g:=fun j=>((M.setFile i f).file j).now.length) (h:=fun j=>(M.file j).now.length) fun p hp=>by rw [file_set hi,if_neg (h1 p hp)]
 have e4:(M.setFile i f).file i=f:=by rw [file_set hi,if_pos rfl]
 simp only [e4,e3]at e2
 show (M.now.map fun p=>((M.setFile i f).file p.2).now.length).sum+_=(M.now.map fun p=>(M.file p.2).now.length).sum+_
 rw [e1,e2]
 omega
theorem sum_del_le (l:Names) (s:ByteArray) (g:Nat→Nat):((ndel l s).map fun p=>g p.2).sum≤(l.map fun p=>g p.2).sum:=by
 induction l with
 |nil=>exact Nat.le_refl _
 |cons p l ih=>
  unfold ndel at ih ⊢
  rw [List.filter_cons]
  split
  ·simp only [List.map_cons,List.sum_cons];omega
  ·simp only [List.map_cons,List.sum_cons];omega
theorem sum_put (l:Names) (s:ByteArray) (i:Nat) (g:Nat→Nat):((nput l s i).map fun p=>g p.2).sum=g i+((ndel l s).map fun p=>g p.2).sum:=by
 have:=((nput_perm l s i).map fun p=>g p.2).sum_nat
 simpa using this
theorem nodup_put {l:Names}{s:ByteArray}{i:Nat} (h:(l.map (·.2)).Nodup) (hi:∀ p∈l,p.2≠i):((nput l s i).map (·.2)).Nodup:=by
 refine ((nput_perm l s i).map (·.2)).nodup_iff.2 ?_
 simp only [List.map_cons,List.nodup_cons]
 refine ⟨fun hm=>?_,h.sublist (List.filter_sublist.map _)⟩
 obtain ⟨p,hp,e⟩:=List.mem_map.1 hm
 exact hi p (List.mem_filter.1 hp).1 e
structure Fits (M M':Med):Prop where
 room:M'.room=M.room
 dst:Dst M'
 used:M'.used≤M'.room
theorem step_alike (M:Med):M.step.1.room=M.room∧M.step.1.now=M.now∧M.step.1.files=M.files:=⟨M.step_same.1,M.step_same.2.2.1,M.step_same.2.2.2.1⟩
theorem Fits.self {M:Med} (hd:Dst M) (hu:M.used≤M.room):Fits M M:=⟨rfl,hd,hu⟩
theorem used_of {M M':Med} (h1:M'.now=M.now) (h2:M'.files=M.files):M'.used=M.used:=by unfold Med.used Med.file;rw [h1,h2]
theorem Fits.alike {M M':Med} (hd:Dst M) (hu:M.used≤M.room) (hr:M'.room=M.room) (h1:M'.now=M.now) (h2:M'.files=M.files):Fits M M':=
 ⟨hr,by unfold Dst;rw [h1];exact hd,by rw [used_of h1 h2,hr];exact hu⟩
theorem Fits.set {M M':Med}{K:Nat} (ok:M.Ok K) (hd:Dst M) (hu:M.used≤M.room) (hr:M'.room=M.room) (h1:M'.now=M.now) (h2:M'.files=M.files){s:ByteArray}{i:Nat} (h:nget M.now s=some i) (f:Fil)
  (hf:M.used+f.now.length≤M.room+(M.file i).now.length):Fits M (M'.setFile i f):=by
 have e:(M'.setFile i f).used=(M.setFile i f).used:=used_of (by exact h1) (by show M'.files.set i f=M.files.set i f;rw [h2])
 have:=used_set ok hd h f
 refine ⟨hr,by show (M'.now.map (·.2)).Nodup;rw [h1];exact hd,?_⟩
 rw [e]
 show _≤M'.room
 rw [hr]
 omega
theorem Fits.does {M:Med}{K:Nat} (ok:M.Ok K) (hd:Dst M) (hu:M.used≤M.room) (x:Cal) (h8:x.kind≠8) (h9:x.kind≠9) :
  Fits M (M.does x).1∧((M.does x).2.2.1=11→x.kind=1∧M.room<M.usedTold+x.b.length):=by
 have r:=Fits.self hd hu
 obtain ⟨s1,s2,s3⟩:=step_alike M
 have rs:Fits M M.step.1:=Fits.alike hd hu s1 s2 s3
 refine Med.does_ind (P:=fun q=>Fits M q.1∧(q.2.2.1=11→x.kind=1∧M.room<M.usedTold+x.b.length)) ?_ ?_ ?_ ?_ ?_ ?_ ?_ ?_ ?_ ?_ ?_ ?_
 ·intro _
  show Fits M (M.create x.name).1∧((M.create x.name).2=11→_)
  unfold Med.create
  split;· exact ⟨r,by simp⟩
  split;· exact ⟨r,by simp⟩
  rename_i hg
  split;· exact ⟨r,by simp⟩
  rename_i hn
  split;· exact ⟨r,by simp⟩
  split;· exact ⟨rs,by simp⟩
  refine ⟨?_,by simp⟩
  have hnn:nget M.now x.name=none:=by simpa using hn
  have hlt:=ok.nowOk.ids
  have hne:x.name≠ByteArray.empty:=good_ne (by simpa using hg)
  have enow:(({ M.step.1 with files:=M.files++[Fil.new] }:Med).link ⟨ByteArray.empty,x.name,M.files.length⟩).now=nput M.now x.name M.files.length:=by
   show Lnk.on _ M.step.1.now=_
   rw [s2]
   unfold Lnk.on
   simp only [if_true,if_neg hne]
  have hdel:=ndel_none hnn
  refine ⟨s1,?_,?_⟩
  ·unfold Dst
   rw [enow]
   exact nodup_put hd fun p hp e=>by have:=hlt p hp;omega
  ·have:(({ M.step.1 with files:=M.files++[Fil.new] }:Med).link ⟨ByteArray.empty,x.name,M.files.length⟩).used=M.used:=by
    show ((Med.now _).map fun p=>(Med.file _ p.2).now.length).sum=_
    rw [enow,sum_put _ _ _ (fun j=>(Med.file _ j).now.length),hdel]
    have e0:((({ M.step.1 with files:=M.files++[Fil.new] }:Med).link ⟨ByteArray.empty,x.name,M.files.length⟩).file M.files.length).now.length=0:=by
     simp [Med.file,Med.link,Fil.new]
    rw [e0,Nat.zero_add]
    refine sum_congr (g:=fun j=>(Med.file _ j).now.length) (h:=fun j=>(M.file j).now.length) fun p hp=>?_
    have:=hlt p hp
    simp only [Med.file,Med.link,List.getD_eq_getElem?_getD]
    rw [List.getElem?_append_left this]
   rw [this]
   show _≤M.step.1.room
   rw [s1];exact hu
 ·intro hk1
  show Fits M (M.append x.name x.b).1∧((M.append x.name x.b).2=11→_)
  unfold Med.append
  split;· exact ⟨r,by simp⟩
  rename_i hoff
  split;· exact ⟨r,by simp⟩
  rename_i i hi
  split
  ·rename_i hfull
   refine ⟨r,fun _=>⟨hk1,?_⟩⟩
   have:M.usedTold=M.used:=by unfold Med.usedTold;rw [if_neg hoff]
   rw [this];omega
  rename_i hfull
  split;· exact ⟨rs,by simp⟩
  refine ⟨Fits.set ok hd hu s1 s2 s3 hi _ ?_,by simp⟩
  simp only [Fil.do,Chg.on,Bool.false_eq_true,if_false,List.length_append]
  omega
 ·intro _
  show Fits M (M.truncate x.name x.n).1∧((M.truncate x.name x.n).2=11→_)
  unfold Med.truncate
  split;· exact ⟨r,by simp⟩
  split;· exact ⟨r,by simp⟩
  rename_i i hi
  split;· exact ⟨r,by simp⟩
  split;· exact ⟨rs,by simp⟩
  refine ⟨Fits.set ok hd hu s1 s2 s3 hi _ ?_,by simp⟩
  simp only [Fil.do,Chg.on,if_true,List.length_take]
  omega
 ·intro _
  show Fits M (M.rename x.name x.to).1∧((M.rename x.name x.to).2=11→_)
  unfold Med.rename
  split;· exact ⟨r,by simp⟩
  split;· exact ⟨r,by simp⟩
  rename_i i hi
  split;· exact ⟨r,by simp⟩
  rename_i hg
  split;· exact ⟨rs,by simp⟩
  refine ⟨?_,by simp⟩
  have hne:x.to≠ByteArray.empty:=good_ne (by simpa using hg)
  have hs:x.name≠ByteArray.empty:=ok.nowOk.ne _ (nget_mem hi)
  obtain ⟨h1,h2⟩:=used_split ok.nowOk.srt hd hi
  have enow:(M.step.1.link ⟨x.name,x.to,i⟩).now=nput (ndel M.now x.name) x.to i:=by
   show Lnk.on _ M.step.1.now=_
   rw [s2]
   unfold Lnk.on
   simp only [if_neg hs,if_neg hne]
  refine ⟨s1,?_,?_⟩
  ·unfold Dst
   rw [enow]
   exact nodup_put (hd.sublist (List.filter_sublist.map _)) h1
  ·have e1:=h2 fun j=>(M.file j).now.length
   have e2:=sum_del_le (ndel M.now x.name) x.to fun j=>(M.file j).now.length
   have:(M.step.1.link ⟨x.name,x.to,i⟩).used=((nput (ndel M.now x.name) x.to i).map fun p=>(M.file p.2).now.length).sum:=by
    show ((Med.now _).map fun p=>(Med.file _ p.2).now.length).sum=_
    rw [enow]
    unfold Med.file Med.link
    simp only [s3]
   rw [this,sum_put _ _ _ (fun j=>(M.file j).now.length)]
   show _≤M.step.1.room
   rw [s1]
   unfold Med.used at hu
   omega
 ·intro _
  show Fits M (M.remove x.name).1∧((M.remove x.name).2=11→_)
  unfold Med.remove
  split;· exact ⟨r,by simp⟩
  split;· exact ⟨r,by simp⟩
  rename_i i hi
  split;· exact ⟨rs,by simp⟩
  refine ⟨?_,by simp⟩
  have hs:x.name≠ByteArray.empty:=ok.nowOk.ne _ (nget_mem hi)
  have enow:(M.step.1.link ⟨x.name,ByteArray.empty,0⟩).now=ndel M.now x.name:=by
   show Lnk.on ⟨x.name,ByteArray.empty,0⟩ M.step.1.now=_
   rw [s2]
   unfold Lnk.on
   simp only [if_neg hs,if_true]
  refine ⟨s1,?_,?_⟩
  ·unfold Dst
   rw [enow]
   exact hd.sublist (List.filter_sublist.map _)
  ·have e2:=sum_del_le M.now x.name fun j=>(M.file j).now.length
   have:(M.step.1.link ⟨x.name,ByteArray.empty,0⟩).used=((ndel M.now x.name).map fun p=>(M.file p.2).now.length).sum:=by
    show ((Med.now _).map fun p=>(Med.file _ p.2).now.length).sum=_
    rw [enow]
    unfold Med.file Med.link
    simp only [s3]
   rw [this]
   show _≤M.step.1.room
   rw [s1]
   unfold Med.used at hu
   omega
 ·intro _
  show Fits M (M.sync x.name).1∧((M.sync x.name).2=11→_)
  unfold Med.sync
  split;· exact ⟨r,by simp⟩
  split;· exact ⟨r,by simp⟩
  rename_i i hi
  split;· exact ⟨rs,by simp⟩
  refine ⟨Fits.set ok hd hu s1 s2 s3 hi _ ?_,by simp⟩
  simp only [Fil.sync]
  omega
 ·intro _
  show Fits M M.syncDir.1∧(M.syncDir.2=11→_)
  unfold Med.syncDir
  split;· exact ⟨r,by simp⟩
  split;· exact ⟨rs,by simp⟩
  exact ⟨Fits.alike hd hu s1 s2 s3,by simp⟩
 ·intro _
  show Fits M (M.arm x.n).1∧((M.arm x.n).2=11→_)
  unfold Med.arm
  split;· exact ⟨r,by simp⟩
  split;· exact ⟨r,by simp⟩
  exact ⟨Fits.alike hd hu rfl rfl rfl,by simp⟩
 ·exact fun h=>absurd h h8
 ·exact fun h=>absurd h h9
 ·intro _
  refine ⟨?_,fun h=>by simp at h⟩
  show Fits M (M.rot x.name x.n (lowByte x.m)).1
  unfold Med.rot
  split;· exact r
  rename_i i hi
  split;· exact r
  refine Fits.set ok hd hu rfl rfl rfl hi _ ?_
  rw [((ok.file i).rot _ _).2,xorAt_len]
  omega
 ·intro _
  refine ⟨r,fun h=>?_⟩
  exfalso
  have h':(M.read x.name x.n x.m).2=11:=h
  unfold Med.read at h'
  revert h'
  split
  ·simp
  split
  ·simp
  simp only
  split
  ·simp
  split
  ·simp
  ·simp
def Med.rmove (m:Med) (s t:ByteArray) (gone:Bool):Med×Int:=
 if m.off then (m,12)
 else match nget m.now s with
 |none=>(m,9)
 |some i=>
  if gone=false∧good t=false then (m,7)
  else if m.step.2=false then (m.step.1,12)
  else (m.step.1.link ⟨s,if gone then ByteArray.empty else t,i⟩,0)
def Med.rfile (D:Med) (l:List Int) (i:Nat) (p:ByteArray×Nat):Fil:=(D.file p.2).crash (num l (2 * i+1)) (num l (2 * i+2))
def Med.rcrash (D:Med) (l:List Int):Med:=
 let ns:=D.lastNames (clampN (num l 0) D.waits.length)
 { D with fast:=ns.mapIdx fun i p=>(p.1,i),now:=ns.mapIdx fun i p=>(p.1,i),waits:=[],files:=ns.mapIdx (D.rfile l),off:=false,armed:=false,left:=0 }
def Med.told (D:Med) (x:Cal):Med×(Bs×Int×Bool):=
 if x.kind=0 then ((D.create x.name).1,[],(D.create x.name).2,false)
 else if x.kind=1 then ((D.append x.name x.b).1,[],(D.append x.name x.b).2,false)
 else if x.kind=2 then ((D.truncate x.name x.n).1,[],(D.truncate x.name x.n).2,false)
 else if x.kind=3 then ((D.rmove x.name x.to false).1,[],(D.rmove x.name x.to false).2,false)
 else if x.kind=4 then ((D.rmove x.name ByteArray.empty true).1,[],(D.rmove x.name ByteArray.empty true).2,false)
 else if x.kind=5 then ((D.sync x.name).1,[],(D.sync x.name).2,false)
 else if x.kind=6 then (D.syncDir.1,[],D.syncDir.2,false)
 else if x.kind=7 then ((D.arm x.n).1,[],(D.arm x.n).2,false)
 else if x.kind=8 then (D.rcrash x.l,[],0,false)
 else if x.kind=9 then ((D.setRoom x.n).1,[],(D.setRoom x.n).2,false)
 else if x.kind=10 then ((D.rot x.name x.n (lowByte x.m)).1,[],0,(D.rot x.name x.n (lowByte x.m)).2)
 else (D,(D.read x.name x.n x.m).1,(D.read x.name x.n x.m).2,false)
def ren (φ:Nat→Nat) (l:Names):Names:=l.map fun p=>(p.1,φ p.2)
structure Side (φ:Nat→Nat) (L:Nat→Prop) (M D:Med):Prop where
 room:D.room=M.room
 armed:D.armed=M.armed
 left:D.left=M.left
 off:D.off=M.off
 wl:D.waits.length=M.waits.length
 now:D.now=ren φ M.now
 names:∀ k,k≤M.waits.length→D.lastNames k=ren φ (M.lastNames k)
 live:∀ k,k≤M.waits.length→∀ p∈M.lastNames k,L p.2
 once:∀ k,k≤M.waits.length→((M.lastNames k).map (·.2)).Nodup
 inj:∀ i j,L i→L j→φ i=φ j→i=j
 file:∀ i,L i→D.file (φ i)=M.file i
 lt:∀ i,L i→φ i<D.files.length
 ml:∀ i,L i→i<M.files.length
section
variable {φ:Nat→Nat}{L:Nat→Prop}{M D:Med}{K:Nat}
end
section
variable {φ:Nat→Nat}{L:Nat→Prop}{M D:Med}{K:Nat}
def Both (r q:Med×Int):Prop:=r.2=q.2∧∃ φ L,Side φ L r.1 q.1
end
def Fil.Small (f:Fil):Prop:=∀ c∈f.waits,c.b.length≤16777216
def Med.Small (m:Med):Prop:=∀ f∈m.files,f.Small
end Go.Med
namespace Go.Frm
theorem num_snoc (l:Bs) (c:UInt8):num (l++[c])=num l+c.toNat * 256^l.length:=by
 induction l with
 |nil=>show c.toNat+256 * 0=0+c.toNat * 1;omega
 |cons d l ih=>
  show d.toNat+256 * num (l++[c])=d.toNat+256 * num l+c.toNat * 256^(l.length+1)
  rw [ih,Nat.pow_succ,Nat.mul_add,← Nat.mul_assoc,Nat.mul_comm 256 (c.toNat),Nat.mul_assoc,Nat.mul_comm 256 (256^l.length),← Nat.add_assoc]
end Go.Frm
namespace Go.Proofs.YtlimfgdbfadohaaGreatDoor
open Go Go.Sl Go.Med Go.MapKept Go.RowKit
section
variable {w0 w:World}{F R:List HProp}{v bv dv x lv:Value}
theorem or_num (l:Bs) (c:UInt8) (k:Nat) (hl:l.length=k) (hk:k<7):bits .or .u64 ((Frm.num l:Nat):Int) ((c.toNat:Int) * ((256^k:Nat):Int))=((Frm.num (l++[c]):Nat):Int):=by
 subst hl
 have h1:=Frm.num_lt l
 have h2:=c.toNat_lt
 have h3:256^l.length≤256^6:=Nat.pow_le_pow_right dCz oQ
 have h4:c.toNat * 256^l.length≤255 * 256^6:=Nat.mul_le_mul oQ h3
 have h5:(256:Nat)^6=281474976710656:=by decide
 have e:(c.toNat:Int) * ((256^l.length:Nat):Int)=((c.toNat * 256^l.length:Nat):Int):=by rw [Int.natCast_mul]
 rw [e,u64_or_nat _ _ oQ oQ,Frm.num_snoc]
 congr 1
 have hp:(256:Nat)^l.length=2^(8 * l.length):=by rw [Nat.pow_mul]
 rw [hp]at h1 ⊢
 have:=Nat.two_pow_add_eq_or_of_lt h1 c.toNat
 rw [Nat.or_comm,Nat.mul_comm c.toNat,← this,Nat.add_comm]
theorem rdsl_cut4 {k:Nat}{l:Bs}{a:Option Addr}{n c:Nat} (h:rdsl 1 (.slice a n c) (bys l) w):rdsl 1 (.slice a (min n k) c) (bys (l.take k)) w:=by
 obtain ⟨a',n',c',he,hl,hx⟩:=h
 cases he
 rw [bys_len,Nat.mul_one]at hl
 refine ⟨a,_,c,rfl,by rw [bys_len,List.length_take];omega,fun j y hj=>?_⟩
 have hj':(bys l)[j]?=some y:=by
  unfold bys at hj ⊢
  rw [List.map_take,List.getElem?_take]at hj
  split at hj
  ·exact hj
  ·cases hj
 exact hx j y hj'
set_option maxRecDepth 20000 in
theorem get4_c (c0 c1 c2 c3:UInt8) (a:Option Addr) (c:Nat) (h:rdsl 1 (.slice a 4 c) (bys [c0,c1,c2,c3]) w) :
  Calls Tryz.prog 101 #[.slice a 4 c] w (Rtn fun v w'=>v = .tuple #[.int .u64 (Frm.num [c0,c1,c2,c3]:Nat),.bool true]∧w=w'):=by
 obtain ⟨bk,off,rfl,hc⟩:=rdsl_cells h (i:=0) rfl
 have e0:w.cell? ⟨bk,off,none⟩=some (.int .u8 c0.toNat):=hc 0 _ rfl
 have e1:w.cell? ⟨bk,off+1,none⟩=some (.int .u8 c1.toNat):=hc 1 _ rfl
 have e2:w.cell? ⟨bk,off+2,none⟩=some (.int .u8 c2.toNat):=hc 2 _ rfl
 have e3:w.cell? ⟨bk,off+3,none⟩=some (.int .u8 c3.toNat):=hc 3 _ rfl
 have b0:=c0.toNat_lt;have b1:=c1.toNat_lt;have b2:=c2.toNat_lt;have b3:=c3.toNat_lt
 clear hc h
 go_enter Tryz.func101,Tryz.ntmps101
 go_wp2_with fail
 go_loopg [17,4] 4 (fun g iq xq wr=>∃ i:Nat,g=4 - i∧i≤4∧iq = .int .i64 i∧xq = .int .u64 (Frm.num ([c0,c1,c2,c3].take i):Nat)∧wr=w)
 case atStart=>exact ⟨0,rfl,by omega,rfl,rfl,rfl⟩
 case round=>
  obtain ⟨i,rfl,hi,rfl,rfl,rfl⟩:=hrel
  by_cases h4:i<4
  ·have h0:i=0∨i=1∨i=2∨i=3:=by omega
   clear hi h4
   rcases h0 with rfl|rfl|rfl|rfl
   ·have hq:bits .or .u64 ((Frm.num []:Nat):Int) (c0.toNat:Int)=((Frm.num [c0]:Nat):Int):=by
     have:=or_num [] c0 0 rfl dCz
     simpa using this
    go_wp2_with fail
    go_roundg (4 - 1)
    case measure=>decide
    case rel=>exact ⟨1,rfl,by decide,by first|rfl|go_num,rfl,rfl⟩
   ·have hq:bits .or .u64 ((Frm.num [c0]:Nat):Int) ((c1.toNat:Int) * 256)=((Frm.num [c0,c1]:Nat):Int):=or_num [c0] c1 1 rfl dCz
    go_wp2_with fail
    go_roundg (4 - 2)
    case measure=>decide
    case rel=>exact ⟨2,rfl,by decide,by first|rfl|go_num,rfl,rfl⟩
   ·have hq:bits .or .u64 ((Frm.num [c0,c1]:Nat):Int) ((c2.toNat:Int) * 65536)=((Frm.num [c0,c1,c2]:Nat):Int):=or_num [c0,c1] c2 2 rfl dCz
    go_wp2_with fail
    go_roundg (4 - 3)
    case measure=>decide
    case rel=>exact ⟨3,rfl,by decide,by first|rfl|go_num,rfl,rfl⟩
   ·have hq:bits .or .u64 ((Frm.num [c0,c1,c2]:Nat):Int) ((c3.toNat:Int) * 16777216)=((Frm.num [c0,c1,c2,c3]:Nat):Int):=or_num [c0,c1,c2] c3 3 rfl dCz
    go_wp2_with fail
    go_roundg (4 - 4)
    case measure=>decide
    case rel=>exact ⟨4,rfl,by decide,by first|rfl|go_num,rfl,rfl⟩
  ·obtain rfl:i=4:=by omega
   go_wp2
   go_ret2
   exact ⟨_,rfl,rfl,rfl⟩
theorem four {l:Bs} (h:l.length=4):∃ c0 c1 c2 c3,l=[c0,c1,c2,c3]:=by
 match l,h with
 |[c0,c1,c2,c3],_=>exact ⟨c0,c1,c2,c3,rfl⟩
theorem get4_l (l:Bs) (hl:l.length=4) (a:Option Addr) (c:Nat) (h:rdsl 1 (.slice a 4 c) (bys l) w) :
  Calls Tryz.prog 101 #[.slice a 4 c] w (Rtn fun v w'=>v = .tuple #[.int .u64 (Frm.num l:Nat),.bool true]∧w=w'):=by
 obtain ⟨c0,c1,c2,c3,rfl⟩:=four hl
 exact get4_c c0 c1 c2 c3 a c h
theorem number_c (l:Bs) (hl:4≤l.length) (a:Option Addr) (n c:Nat) (hn:n≤c) (hc:c≤9223372036854775807) (h:rdsl 1 (.slice a n c) (bys l) w) :
  Calls Tryz.prog 144 #[.slice a n c] w (Rtn fun v w'=>v = .int .u32 (Frm.num (l.take 4):Nat)∧w=w'):=by
 have hln:n=l.length:=by
  obtain ⟨_,_,_,he,hl',_⟩:=h
  cases he
  rw [bys_len,Nat.mul_one]at hl';exact hl'.symm
 have h4:=rdsl_cut4 (k:=4) h
 rw [show min n 4=4 by omega]at h4
 have hg:=get4_l (l.take 4) (by rw [List.length_take];omega) a c h4
 have hlt:=Frm.num_lt (l.take 4)
 rw [List.length_take,Nat.min_eq_left hl]at hlt
 have hb:(Frm.num (l.take 4):Int)<4294967296:=by omega
 have hc4:(4:Int)≤(c:Int):=by omega
 generalize Frm.num (l.take 4)=N at *
 clear hlt hln h4 h hl
 have hw:IntKind.u32.wrap (N:Int)=(N:Int):=by rw [IntKind.wrap_u32];omega
 go_enter Tryz.func144,Tryz.ntmps144
 go_wp2_with (go_at_call 101;refine hg.mono ?_;rintro e w1 ⟨v,rfl,rfl,rfl⟩)
 go_ret
 exact ⟨_,rfl,rfl,rfl⟩
theorem fits_c (t:UInt8) (n:Nat) (hn:n<4294967296) (w:World) :
  Calls Tryz.prog 145 #[.int .u8 t.toNat,.int .i64 n] w (Rtn fun v w'=>v = .bool (Frm.fits t n)∧w=w'):=by
 have htl:=t.toNat_lt
 by_cases h0:t=0
 ·subst h0
  by_cases h1:41≤n
  ·by_cases h2:n≤16425
   ·have Hf:=uQ (show Frm.fits 0 n=true by unfold Frm.fits;rw [if_pos rfl];exact decide_eq_true ⟨h1,h2⟩)
    have c1:(41:Int)≤(n:Int):=by omega
    have c2:(n:Int)≤16425:=by omega
    clear h1 h2
    go_enter Tryz.func145,Tryz.ntmps145
    go_wp2
    go_ret
    rw [Hf.out]
    exact ⟨_,rfl,rfl,rfl⟩
   ·have Hf:=uQ (show Frm.fits 0 n=false by unfold Frm.fits;rw [if_pos rfl];exact decide_eq_false oQ)
    have c1:(41:Int)≤(n:Int):=by omega
    have c2:decide ((n:Int)≤16425)=false:=decide_eq_false oQ
    clear h1 h2
    go_enter Tryz.func145,Tryz.ntmps145
    go_wp2
    go_ret
    rw [Hf.out]
    exact ⟨_,rfl,rfl,rfl⟩
  ·have Hf:=uQ (show Frm.fits 0 n=false by unfold Frm.fits;rw [if_pos rfl];exact decide_eq_false oQ)
   have c1:decide ((41:Int)≤(n:Int))=false:=decide_eq_false oQ
   clear h1
   go_enter Tryz.func145,Tryz.ntmps145
   go_wp2
   go_ret
   rw [Hf.out]
   exact ⟨_,rfl,rfl,rfl⟩
 by_cases h1:t=1
 ·subst h1
  have Hf:=uQ (show Frm.fits 1 n=decide (n=41) by unfold Frm.fits;rw [if_neg dCz,if_pos rfl])
  have He:=uQ (show ((n:Int)==41)=decide (n=41) by rw [Bool.eq_iff_iff,beq_iff_eq,decide_eq_true_eq];omega)
  go_enter Tryz.func145,Tryz.ntmps145
  go_wp2
  go_ret
  rw [Hf.out,← He.out]
  exact ⟨_,rfl,rfl,rfl⟩
 by_cases h2:t=2
 ·subst h2
  have Hf:=uQ (show Frm.fits 2 n=decide (n=9) by unfold Frm.fits;rw [if_neg dCz,if_neg dCz,if_pos rfl])
  have He:=uQ (show ((n:Int)==9)=decide (n=9) by rw [Bool.eq_iff_iff,beq_iff_eq,decide_eq_true_eq];omega)
  go_enter Tryz.func145,Tryz.ntmps145
  go_wp2
  go_ret
  rw [Hf.out,← He.out]
  exact ⟨_,rfl,rfl,rfl⟩
 ·have Hf:=uQ (show Frm.fits t n=false by unfold Frm.fits;rw [if_neg h0,if_neg h1,if_neg h2])
  have g0:((t.toNat:Int)==0)=false:=by rw [beq_eq_false_iff_ne];intro h;exact h0 (UInt8.toNat_inj.1 (by rw [show (0:UInt8).toNat=0 from rfl];omega))
  have g1:((t.toNat:Int)==1)=false:=by rw [beq_eq_false_iff_ne];intro h;exact h1 (UInt8.toNat_inj.1 (by rw [show (1:UInt8).toNat=1 from rfl];omega))
  have g2:((t.toNat:Int)==2)=false:=by rw [beq_eq_false_iff_ne];intro h;exact h2 (UInt8.toNat_inj.1 (by rw [show (2:UInt8).toNat=2 from rfl];omega))
  clear h0 h1 h2
  generalize t.toNat=T at *
  go_enter Tryz.func145,Tryz.ntmps145
  go_wp2
  go_ret
  rw [Hf.out]
  exact ⟨_,rfl,rfl,rfl⟩
end
end Go.Proofs.YtlimfgdbfadohaaGreatDoor
namespace Go.Frm
def cutE (long:Nat) (x:Ent):Ent:=⟨x.tag,x.key,x.data.take long⟩
def few (l:List Ent) (n long:Nat):List Ent:=(l.take n).map (cutE long)
end Go.Frm
namespace Go.Proofs.YtlimfgdbfadohaaGreatDoor
open Go Go.Sl Go.Med Go.MapKept Go.RowKit
section
variable {w0 w:World}{F R:List HProp}{v bv dv x lv:Value}
theorem entA_one (e:Frm.Ent) (a:Option Addr) (n c:Nat):(entA e (.slice a n c)).toList.all (·.oneCell')=true:=by
 unfold entA entL
 rw [List.toList_toArray,List.all_cons,List.all_append]
 have:(bys e.key).all (·.oneCell')=true:=List.all_eq_true.2 (bys_one _)
 rw [this];rfl
end
end Go.Proofs.YtlimfgdbfadohaaGreatDoor
namespace Go.Seg
def Log.next (L:Log):Int:=match L.l.getLast? with
 |none=>0
 |some s=>s.1+1
end Go.Seg
namespace Go.Proofs.YtlimfgdbfadohaaGreatDoor
open Go Go.Sl Go.Med Go.MapKept Go.RowKit
section
variable {w0 w:World}{F:List HProp}{v bv dv x lv:Value}{q p m K:Nat}{L:Seg.Log}{M:Med}
theorem segw_at (l:List (Int×Int)) (i:Nat) (s:Int×Int) (h:l[i]?=some s):(segw l)[2 * i]?=some (.int .i64 s.1)∧(segw l)[2 * i+1]?=some (.int .i64 s.2):=by
 induction l generalizing i with
 |nil=>simp at h
 |cons a l ih=>
  cases i with
  |zero=>
   obtain rfl:a=s:=by simpa using h
   exact ⟨rfl,rfl⟩
  |succ i=>
   have e1:segw (a::l) = .int .i64 a.1 :: .int .i64 a.2::segw l:=rfl
   have h':l[i]?=some s:=by simpa using h
   rw [e1,show 2 * (i+1)=2 * i+1+1 by omega]
   exact ih i h'
theorem last_cells {s:Int×Int} (hl:L.l.getLast?=some s) (h:Sat w0 w (logPt p m L lv::osl 159 2 lv (segw L.l)::F)) :
  ∃ bk n c,lv = .slice (some ⟨bk,0,none⟩) (n+1) c∧L.l.length=n+1∧w.cell? ⟨bk,2 * n,none⟩=some (.int .i64 s.1)∧w.cell? ⟨bk,2 * n+1,none⟩=some (.int .i64 s.2):=by
 rw [List.getLast?_eq_getElem?]at hl
 have hlt:=(List.getElem?_eq_some_iff.1 hl).1
 obtain ⟨n,hn⟩:∃ n,L.l.length=n+1:=⟨L.l.length - 1,by omega⟩
 rw [hn,Nat.add_sub_cancel]at hl
 obtain ⟨h1,h2⟩:=segw_at _ _ _ hl
 have hS:Sat w0 w (osl 159 2 lv (segw L.l)::logPt p m L lv::F):=h.pick1
 rcases hS.osl_cases with ⟨rfl,hx,_⟩|⟨b,n',cap,cs,rfl,hll,hn',hc,hcm,htk,hp⟩
 ·rw [hx]at h1;simp at h1
 ·rw [segw_len,hn]at hll
  obtain rfl:n'=n+1:=by omega
  exact ⟨b,n,cap,rfl,hn,hp.cellAt _ _ (take_get htk h1),hp.cellAt _ _ (take_get htk h2)⟩
theorem snext_c (hlen:L.l.length≤1048576) (hb:∀ s∈L.l,0≤s.1∧s.1<1048576) (h:Sat w0 w (logPt p m L lv::osl 159 2 lv (segw L.l)::F)) :
  Calls Tryz.prog 179 #[ptr p] w (Rtn fun v w'=>v = .int .i64 L.next∧Sat w0 w' (logPt p m L lv::osl 159 2 lv (segw L.l)::F)):=by
 cases hl:L.l.getLast? with
 |none=>
  have hnil:=List.getLast?_eq_none_iff.1 hl
  refine (next0_c hnil h).mono ?_
  rintro e w1 ⟨v,rfl,rfl,rfl⟩
  exact ⟨_,rfl,by unfold Seg.Log.next;rw [hl],h⟩
 |some s=>
  have Hfin:=uQ (show L.next=s.1+1 by unfold Seg.Log.next;rw [hl])
  have hs:=hb s (List.mem_of_getLast? hl)
  obtain ⟨bk,n,c,rfl,hn,c1,c2'⟩:=last_cells hl h
  have hok:=ok_c h
  have c2:=h.cellAt 2 _ rfl
  have hS:=h.drew
  have c1':w.drew.cell? ⟨bk,n * 2,none⟩=some (.int .i64 s.1):=by rw [Nat.mul_comm];exact c1
  have hwn:IntKind.i64.wrap (n:Int)=(n:Int):=by rw [IntKind.wrap_i64];omega
  have hn0:(n:Int)<(n:Int)+1:=by omega
  have cd:w.drew.cell? ⟨p,2,none⟩=some (.slice (some ⟨bk,0,none⟩) (n+1) c):=c2
  have hw1:IntKind.i64.wrap (s.1+1)=s.1+1:=by rw [IntKind.wrap_i64];omega
  have Hs:=uQ hs;have Hn:=uQ hn
  clear hs hn hb hlen hl c2'
  go_enter Tryz.func179,Tryz.ntmps179
  go_wp2_with (go_at_call 96;refine hok.mono ?_;rintro e w1 ⟨v,rfl,rfl,rfl⟩)
  go_region
  go_wp2
  go_ret
  exact ⟨_,rfl,by rw [Hfin.out];rfl,hS⟩
end
end Go.Proofs.YtlimfgdbfadohaaGreatDoor
