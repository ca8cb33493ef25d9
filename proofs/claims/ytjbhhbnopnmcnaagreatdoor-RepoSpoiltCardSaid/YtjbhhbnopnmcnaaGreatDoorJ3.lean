import Derived.Test.YtjbhhbnopnmcnaaGreatDoorJ2
import Derived.Deep.MidRow
import Derived.Laws.ResultCell
import Derived.Laws.IdiomStrings
import Derived.Lib.BufferRead
set_option linter.unusedVariables false
set_option maxHeartbeats 128000000
namespace Go.Seg
open Go.Med
structure Log where
 limit:Int
 l:List (Int×Int)
 on:Bool
 fresh:Int
def alive (M:Med):Int:=if (M.size ByteArray.empty).2=9 then 0 else (M.size ByteArray.empty).2
def found (M:Med) (l:List ByteArray):List (Int×Int):=l.filterMap fun s=>if (number s).2=true then some ((number s).1,(M.size s).1) else none
def fresh (M:Med) (limit:Int):Log:=⟨limit,found M M.list,false,0⟩
theorem found_snoc (M:Med) (l:List ByteArray) (s:ByteArray):found M (l++[s])=found M l++(if (number s).2=true then [((number s).1,(M.size s).1)] else []):=by
 unfold found
 rw [List.filterMap_append]
 congr 1
 by_cases h:(number s).2=true <;> simp [h]
theorem found_len (M:Med) (l:List ByteArray):(found M l).length≤l.length:=List.length_filterMap_le _ _
end Go.Seg
namespace Go.Proofs.YtjbhhbnopnmcnaaGreatDoor
open Go Go.Sl Go.Med Go.MapKept Go.RowKit
def segw (l:List (Int×Int)):List Value:=l.flatMap fun s=>[.int .i64 s.1,.int .i64 s.2]
abbrev logPt (p m:Nat) (L:Seg.Log) (lv:Value):HProp:=pt p (.cells #[ptr m,.int .i64 L.limit,lv,.bool L.on,.int .i64 L.fresh] 121 (0,0))
def LogRaw (p m:Nat) (L:Seg.Log) (lv:Value):List HProp:=[logPt p m L lv,osl 123 2 lv (segw L.l)]
def LogRep (p m:Nat) (L:Seg.Log):HProp:=fun h=>∃ lv,stars (LogRaw p m L lv) h
theorem infoSeg:(Tryz.prog.info? 123).map (fun i=>(i.zero,i.size,i.bytes))=some (some (.agg #[.int .i64 0,.int .i64 0]),2,16):=by kernel_rfl
section
variable {w0 w:World}{F:List HProp}{v bv dv x lv:Value}{q p m K:Nat}{L:Seg.Log}{M:Med}
theorem LogRep.open (h:Sat w0 w (LogRep p m L::F)):∃ lv,Sat w0 w (LogRaw p m L lv++F):=by
 obtain ⟨ha,x,hx,p,q,d,rfl,⟨lv,hp⟩,hq⟩:=h
 refine ⟨lv,ha,_,hx,?_⟩
 rw [stars_append]
 exact ⟨p,q,d,rfl,hp,hq⟩
theorem LogRep.shut (h:Sat w0 w (LogRaw p m L lv++F)):Sat w0 w (LogRep p m L::F):=
 h.join fun _ hx=>⟨lv,hx⟩
theorem segw_len (l:List (Int×Int)):(segw l).length=2 * l.length:=by
 unfold segw
 induction l with
 |nil=>rfl
 |cons a l ih=>rw [List.flatMap_cons,List.length_append,ih];simp;omega
theorem segw_app (l k:List (Int×Int)):segw (l++k)=segw l++segw k:=by unfold segw;rw [List.flatMap_append]
theorem alive_c (hM:M.Ok K) (h:Sat w0 w (MedRep m M::F)) :
  Calls Tryz.prog 56 #[ptr m] w (Rtn fun v w'=>v=errno (Seg.alive M)∧w=w'):=by
 have hs:=size_c hM h ByteArray.empty
 have Hal:=uQ (show Seg.alive M=if (M.size ByteArray.empty).2=9 then 0 else (M.size ByteArray.empty).2 from rfl)
 generalize (M.size ByteArray.empty).2=e at *
 generalize (M.size ByteArray.empty).1=n at *
 by_cases he:e=9
 ·subst he
  go_enter Tryz.func56,Tryz.ntmps56
  go_wp2_with fail
  refine hs.mono ?_
  rintro e w1 ⟨v,rfl,rfl,rfl⟩
  clear hs
  go_wp2
  go_ret
  exact ⟨_,rfl,by rw [Hal.out];rfl,rfl⟩
 ·have hed:(e==9)=false:=beq_false_of_ne he
  have He:=uQ he
  clear he
  go_enter Tryz.func56,Tryz.ntmps56
  go_wp2_with fail
  refine hs.mono ?_
  rintro e w1 ⟨v,rfl,rfl,rfl⟩
  clear hs
  go_wp2
  go_ret
  exact ⟨_,rfl,by rw [Hal.out,if_neg He.out];rfl,rfl⟩
set_option maxRecDepth 20000 in
theorem open_c (hM:M.Ok K) (limit:Int) (h:Sat w0 w (MedRep m M::F)) (ha:Seg.alive M=0) (h1:128≤limit) (h2:limit≤1048576) :
  Calls Tryz.prog 32 #[ptr m,.int .i64 limit] w (Rtn fun v w'=>∃ p,v = .tuple #[ptr p,errno 0]∧Sat w0 w' (LogRep p m (Seg.fresh M limit)::MedRep m M::F)):=by
 have hal:=alive_c hM h
 rw [ha]at hal
 have hd1:decide (limit<128)=false:=decide_eq_false oQ
 have hd2:decide (1048576<limit)=false:=decide_eq_false oQ
 obtain ⟨i,hi,hz0,hz1,hz2⟩:=info_parts infoSeg
 have hll:=uQ (show M.list.length≤500 by
  unfold Med.list
  split
  ·simp
  ·rw [List.length_map];exact hM.nowOk.len)
 clear h1 h2 ha
 go_enter Tryz.func32,Tryz.ntmps32
 go_wp2_with fail
 refine hal.mono ?_
 rintro e w1 ⟨v,rfl,rfl,rfl⟩
 clear hal
 have hB:=h.alloc (.cells #[ptr m,.int .i64 limit,.slice none 0 0,.bool false,.int .i64 0] 121)
 have hL:=list_c hM hB.pick1
 go_wp2_with fail
 refine hL.mono ?_
 rintro e w2 ⟨v,rfl,hS,ba,bn,bc,rfl⟩
 have hlen:bn=M.list.length:=by
  obtain ⟨a',n',c',he,hl,_⟩:=Sat.rd hS
  cases he
  rw [strs_len,Nat.mul_one]at hl
  exact hl.symm
 clear hL hB
 subst hlen
 generalize w.heap.size=q at *
 go_wp2_with fail
 go_loopg [32] M.list.length (fun g iq wr=>∃ (i:Nat) (lv:Value),g=M.list.length - i∧i≤M.list.length∧iq = .int .i64 i∧Sat w0 wr (LogRaw q m ⟨limit,Seg.found M (M.list.take i),false,0⟩ lv++osl 9 1 (.slice ba M.list.length bc) (strs M.list)::MedRep m M::F))
 case atStart=>exact ⟨0,.slice none 0 0,rfl,Nat.zero_le _,rfl,by
  have:=Sat.osl_nil (T:=123) (sz:=2) |>.2 hS
  exact this.sel 4 [3,0,1,2] rfl rfl⟩
 case round=>
  obtain ⟨j,lv,rfl,hj,rfl,hR⟩:=hrel
  clear hS
  by_cases hj':j<M.list.length
  ·have hx:M.list[j]?=some (M.list[j]'hj'):=List.getElem?_eq_getElem hj'
   have hcx:=Sat.rd (hR.sel 3 [2] rfl rfl)
   obtain ⟨bk,off,hba,c1⟩:=rdsl_cell hcx (strs_at hx)
   have Hfs:=uQ (show Seg.found M (M.list.take (j+1))=Seg.found M (M.list.take j)++(if (Seg.number M.list[j]).2=true then [((Seg.number M.list[j]).1,(M.size M.list[j]).1)] else []) by
    rw [List.take_succ_eq_append_getElem hj',Seg.found_snoc])
   have hnum:=snumber_c M.list[j] hR
   have Hfl:=uQ (Seg.found_len M (M.list.take j))
   generalize M.list[j]=s at *
   have hic:(j:Int)<(M.list.length:Int):=by omega
   have hjl:=uQ hj'
   clear hx hcx hj'
   subst hba
   go_wp2_with fail
   refine hnum.mono ?_
   rintro e w3 ⟨v,rfl,rfl,hR3⟩
   clear hnum
   have hwi:IntKind.i64.wrap ((j:Int)+1)=(j:Int)+1:=IntWalk.i64_in _ (by have:=hll.out;have:=hjl.out;omega)
   cases hb:(Seg.number s).2
   ·have Hb:=uQ hb
    clear hb
    go_wp2
    go_roundg (M.list.length - (j+1))
    case measure=>have:=hjl.out;omega
    case rel=>
     refine ⟨j+1,lv,rfl,Nat.succ_le_of_lt hjl.out,by first|rfl|go_num,?_⟩
     rw [Hfs.out,Hb.out,if_neg dCz,List.append_nil]
     exact hR3
   ·have Hb:=uQ hb
    clear hb
    have hsz:=size_c hM (hR3.sel 4 [3,0,1,2] rfl rfl) s
    go_wp2_with fail
    refine hsz.mono ?_
    rintro e w4 ⟨v,rfl,rfl,rfl⟩
    clear hsz
    have c2:=hR3.cellAt 2 _ rfl
    generalize (M.size s).1=sz at *
    generalize (M.size s).2=se at *
    generalize (Seg.number s).1=nu at *
    have h7:=hR3.alloc (.cells #[.int .i64 nu,.int .i64 sz] 123)
    have hoc:∀ u∈(#[.int .i64 nu,.int .i64 sz]:Array Value).toList,u.oneCell'=true:=by
     intro u hu
     simp only [List.mem_cons,List.not_mem_nil,or_false]at hu
     rcases hu with rfl|rfl <;> rfl
    have hlen:(segw (Seg.found M (M.list.take j))).length≤2 * 500:=by
     rw [segw_len];have:=Hfl.out;have:=hll.out;rw [List.length_take]at *;omega
    have h63:(segw (Seg.found M (M.list.take j))).length+2≤maxLen:=by unfold maxLen;omega
    have hby:((segw (Seg.found M (M.list.take j))).length+2) * i.bytes≤140737488355328:=by rw [hz2];omega
    have h8:Sat w0 _ (osl 123 2 lv (segw (Seg.found M (M.list.take j)))::logPt q m ⟨limit,Seg.found M (M.list.take j),false,0⟩ lv::osl 9 1 (.slice (some ⟨bk,off,none⟩) M.list.length bc) (strs M.list)::MedRep m M::F):=h7.sel 5 [2,1,3,4] rfl rfl
    clear hlen
    go_wp2_with (at_builtin;go_must (refine wpList_append (w0:=w0) rFz _ _ _ rFz _ i _ Tryz.underlying119 hi hz0 hz1 rFz oQ rFz rFz hoc h8 (rdsl_new _ _ _ 2 1 1 rFz) h63 hby ?_);intro v2 w5 hS5 hne;obtain ⟨ab,an,ac,rfl⟩:=hne (by simp);have e2:=hS5.pick1.cellAt 2 _ rfl;have g2:=hS5.pick1.freeAt 2)
    have hS6:=hS5.pick1.set 2 (.slice (some ⟨ab,0,none⟩) an ac)
    generalize w5.setCell _ _=w6 at *
    go_roundg (M.list.length - (j+1))
    case measure=>have:=hjl.out;omega
    case rel=>
     refine ⟨j+1,.slice (some ⟨ab,0,none⟩) an ac,rfl,Nat.succ_le_of_lt hjl.out,by first|rfl|go_num,?_⟩
     rw [Hfs.out,Hb.out,if_pos rfl]
     unfold LogRaw
     rw [segw_app]
     exact hS6
  ·obtain rfl:j=M.list.length:=by omega
   have hic:¬ (M.list.length:Int)<(M.list.length:Int):=by omega
   rw [List.take_length]at hR
   clear hj hj'
   go_wp2
   go_ret2
   refine ⟨_,rfl,q,rfl,?_⟩
   exact LogRep.shut (hR.sel 4 [0,1,3] rfl rfl)
end
section
variable {P:Program}{w0 w:World}{R:List HProp}{v x:Value}{xs ys:List Value}
theorem run_append_fresh (t ty e:TypeId) (i:TypeInfo) (z:Value) (ht:P.underlying t=some (.slice e)) (hi:P.info? e=some i) (hz:i.zero=some z)
  (hs:i.size=1) (hzs:z.cells.size=1) (b n cap:Nat) (hl:xs.length=n) (hcap:cap≤n) (hold:rdsl 1 (.slice (some ⟨b,0,none⟩) n cap) xs w)
  (h:Sat w0 w R) (hx:rdsl 1 x ys w) (hy0:ys≠[]) (h63:xs.length+ys.length≤maxLen) (hby:(xs.length+ys.length) * i.bytes≤140737488355328) :
  ∃ b' n' c' w',(Builtin.append_ #[t,t] ty #[.slice (some ⟨b,0,none⟩) n cap,x]).run P w = .ok (.slice (some ⟨b',0,none⟩) n' c') w'∧Sat w0 w' (osl e 1 (.slice (some ⟨b',0,none⟩) n' c') (xs++ys)::R):=by
 obtain ⟨xa,m,c,rfl,hyl,hyc⟩:=hx
 obtain ⟨b1,n1,c1,he1,hol,hoc⟩:=hold
 cases he1
 rw [Nat.mul_one]at hyl
 have hm:0<m:=by
  rw [← hyl]
  exact List.length_pos_iff.2 hy0
 obtain ⟨ad,rfl⟩:∃ ad,xa=some ad:=by
  obtain ⟨y,hy⟩:∃ y,ys[0]?=some y:=by
   cases ys with
   |nil=>exact absurd rfl hy0
   |cons y _=>exact ⟨y,rfl⟩
  obtain ⟨b,hb,_⟩:=hyc 0 y hy
  exact ⟨b,hb⟩
 have hnews:∀ j u,ys[j]?=some u→w.cell? (ad.add j)=some u:=fun j u hj=>by
  obtain ⟨b,hb,hx⟩:=hyc j u hj
  cases hb;exact hx
 have holds:∀ j u,xs[j]?=some u→w.cell? ((⟨b,0,none⟩:Addr).add j)=some u:=fun j u hj=>by
  obtain ⟨b',hb,hx⟩:=hoc j u hj
  cases hb;exact hx
 have h63':maxLen=9223372036854775807:=rfl
 have hr:=run_append_grow (P:=P) w t ty e i z ht hi hz ⟨b,0,none⟩ n cap xs (by rw [hs];omega) holds ad m c ys (by rw [hs];omega) hnews oQ oQ (growslice_fits oQ (by rw [← hl,← hyl];exact hby))
 refine ⟨_,_,_,_,hr,?_⟩
 have hge:=grownCap_ge w (n+m) cap e
 have hcm:=grownCap_le_maxLen w (n+m) cap e oQ
 have:=(h.drew).alloc (.cells (xs.toArray++ys.toArray++Builtin.zeroCells z.cells (grownCap w (n+m) cap e - (n+m))) e)
 refine Sat.osl_of_pt this ?_ hge ?_ hcm ?_
 ·rw [List.length_append,hl,hyl,Nat.mul_one]
 ·simp only [Array.size_append,List.size_toArray,size_zeroCells,hzs]
  omega
 ·simp only [Array.toList_append,List.append_assoc]
  rw [← List.append_assoc]
  have e1:(n+m) * 1=(xs++ys).length:=by rw [List.length_append,hl,hyl,Nat.mul_one]
  rw [e1]
  exact List.take_left
theorem step_append_fresh {ops:Array Oper}{o:Oper}{a:Act}{K:Act→World→Prop}{Q:Exit→Act→World→Prop}{E:Prop} (hgd:o.guard=none) (s y:Operand) (t:TypeId)
  (ho:o.op = .call { callee:= .builtin .append,args:=#[s,y],argTypes:=#[t,t] })
  (e:TypeId) (i:TypeInfo) (z:Value) (ht:P.underlying t=some (.slice e)) (hi:P.info? e=some i) (hz:i.zero=some z)
  (hs:i.size=1) (hzs:z.cells.size=1) {b n cap:Nat} (hl:xs.length=n) (hcap:cap≤n) (hold:rdsl 1 (.slice (some ⟨b,0,none⟩) n cap) xs w)
  (h:Sat w0 w R) (hv:a.eval s = .slice (some ⟨b,0,none⟩) n cap) (hxv:a.eval y=x) (hx:rdsl 1 x ys w) (hy0:ys≠[]) (h63:xs.length+ys.length≤maxLen) (hby:(xs.length+ys.length) * i.bytes≤140737488355328)
  (hK:∀ b' n' c' w',Sat w0 w' (osl e 1 (.slice (some ⟨b',0,none⟩) n' c') (xs++ys)::R)→K (a.put o.dst (.slice (some ⟨b',0,none⟩) n' c')) w') :
  if Region.wanted o (yielded ops a.tmps)=true then Oper.wp P o a w K Q else E:=by
 have hw:Region.wanted o (yielded ops a.tmps)=true:=by simp [Region.wanted,hgd]
 rw [if_pos hw]
 obtain ⟨b',n',c',w',hr,h2⟩:=run_append_fresh (P:=P) t o.type e i z ht hi hz hs hzs b n cap hl hcap hold h hx hy0 h63 hby
 unfold Oper.wp execOp
 simp only [ho,resolve,invoke,builtin,Sem.run_bind,Sem.run_pure,Result.andThen_ok,List.map_toArray,List.map_cons,List.map_nil,hv,hxv,hr]
 exact hK _ _ _ w' h2
end
section
variable {w0 w:World}{F:List HProp}{v bv dv x lv:Value}{q p m K:Nat}{L:Seg.Log}{M:Med}
theorem ok_c (h:Sat w0 w (logPt p m L lv::F)) :
  Calls Tryz.prog 71 #[ptr p] w (Rtn fun v w'=>v = .bool true∧w=w'):=by
 have c0:=h.cellAt 0 _ rfl
 go_enter Tryz.func71,Tryz.ntmps71
 go_wp2
 go_ret
 exact ⟨_,rfl,rfl,rfl⟩
theorem next0_c (hl:L.l=[]) (h:Sat w0 w (logPt p m L lv::osl 123 2 lv (segw L.l)::F)) :
  Calls Tryz.prog 118 #[ptr p] w (Rtn fun v w'=>v = .int .i64 0∧w=w'):=by
 have hok:=ok_c h
 have c2:=h.cellAt 2 _ rfl
 have hlv:∃ a c,lv = .slice a 0 c:=by
  obtain ⟨a,n,c,rfl,hn,_⟩:=Sat.rd h.pick1
  refine ⟨a,c,?_⟩
  rw [hl]at hn
  have:n=0:=by simp [segw]at hn;omega
  rw [this]
 obtain ⟨la,lc,rfl⟩:=hlv
 go_enter Tryz.func118,Tryz.ntmps118
 go_wp2_with (go_at_call 71;refine hok.mono ?_;rintro e w1 ⟨v,rfl,rfl,rfl⟩)
 go_ret
 exact ⟨_,rfl,rfl,rfl⟩
theorem shut0_c (hon:L.on=false) (h:Sat w0 w (logPt p m L lv::F)) :
  Calls Tryz.prog 117 #[ptr p] w (Rtn fun v w'=>v=errno 0∧w=w'):=by
 have c3:=h.cellAt 3 _ rfl
 rw [hon]at c3
 go_enter Tryz.func117,Tryz.ntmps117
 go_wp2
 go_ret
 exact ⟨_,rfl,rfl,rfl⟩
end
section
variable {P:Program}{w0 w:World}{R:List HProp}{b:Nat}
def putsAt (cs:Array Value):Nat→List Value→Array Value
 |_,[]=>cs
 |o,v::r=>putsAt (cs.setIfInBounds o v) (o+1) r
theorem putsAt_size:∀ (vs:List Value) (cs:Array Value) (o:Nat),(putsAt cs o vs).size=cs.size
 |[],_,_=>rfl
 |v::r,cs,o=>by rw [putsAt,putsAt_size r,Array.size_setIfInBounds]
theorem Sat.sets:∀ (vs:List Value){cs:Array Value}{T:TypeId}{w:World} (o:Nat),Sat w0 w (pt b (.cells cs T (0,0))::R)→Sat w0 (w.setCells b o vs) (pt b (.cells (putsAt cs o vs) T (0,0))::R)
 |[],_,_,_,_,h=>h
 |v::r,_,_,_,o,h=>Sat.sets r (o+1) (h.set o v)
theorem wpList_store_sat {ops:Array Oper}{rest:List Oper}{op:Oper}{a:Act}{Q:Exit→Act→World→Prop}{cs:Array Value}{T:TypeId} (hgd:op.guard=none) (ty:TypeId) (x y:Operand) (ho:op.op = .store ty x y)
  (o:Nat) (v:Value) (hx:a.eval x = .pointer (some ⟨b,o,none⟩)) (hy:a.eval y=v) (hfit:o+v.cells.size≤cs.size)
  (hi:(P.info? ty).map (·.size)=some v.cells.size) (h1:v.cells.all (·.oneCell')=true) (h:Sat w0 w (pt b (.cells cs T (0,0))::R))
  (hK:∀ w',Sat w0 w' (pt b (.cells (putsAt cs o v.cells.toList) T (0,0))::R)→wpList P ops Q rest (a.put op.dst undef) w'):wpList P ops Q (op::rest) a w:=by
 have hth:w.there b o v.cells.size:=by
  intro j hj
  refine ⟨?_,h.freeAt _⟩
  rw [h.cellAt (o+j) _ (Array.getElem?_eq_getElem (show o+j<cs.size by omega))]
  rfl
 refine wpList_plain hgd fun _ hK'=>?_
 have hst:=run_storeCells_cells (P:=P) b o v.cells.toList 0 w (fun j hj=>by simpa using (hth j (by simpa using hj)).1) (fun j hj=>by simpa using (hth j (by simpa using hj)).2)
  (fun u hu=>(Array.all_eq_true_iff_forall_mem.1 h1) u (by simpa using hu))
 have hrun:(storeVar ty ⟨b,o,none⟩ v).run P w = .ok () (w.setCells b o v.cells.toList):=by
  cases hq:P.info? ty with
  |none=>simp [hq]at hi
  |some i=>
   have hs:v.cells.size=i.size:=by simp [hq]at hi;omega
   simp only [Nat.add_zero]at hst
   simp [storeVar,sizeOf,typeInfo,hq,hs,hst]
 unfold Oper.wp execOp
 simp only [ho,hx,hy,Instr.storeAt,Instr.sureAddr,Sem.run_bind,Sem.run_pure,Result.andThen_ok,hrun]
 exact hK' _ _ (hK _ (Sat.sets _ _ h))
structure Stop (p:Prop):Prop where
 out:p
theorem wpList_stop {ops:Array Oper}{rest:List Oper}{op:Oper}{a:Act}{Q:Exit→Act→World→Prop}{ty:TypeId}{x y:Operand} (ho:op.op = .store ty x y)
  (h:Stop (wpList P ops Q (op::rest) a w)):wpList P ops Q (op::rest) a w:=h.out
end
end Go.Proofs.YtjbhhbnopnmcnaaGreatDoor
namespace Go.Sl
open Go
def Pick (A:HProp) (L R:List HProp):Prop:=L.Perm (A::R)
def Upd (A B:HProp) (L L':List HProp):Prop:=∃ R,L.Perm (A::R)∧L'.Perm (B::R)
def Sub (L M:List HProp):Prop:=∃ X,L.Perm (M++X)
section
variable {A B A1 A2 A3 A4 A5 A6 A7 A8 A9 A10 A11 A12:HProp}{L M R L':List HProp}{w0 w:World}
theorem pick_there (h:Pick A L R):Pick A (B::L) (B::R):=(h.cons B).trans (List.Perm.swap _ _ _)
theorem pick0:Pick A (A::R) R:=List.Perm.refl _
theorem pick1:Pick A (A1::A::R) (A1::R):=pick_there pick0
theorem pick2:Pick A (A1::A2::A::R) (A1::A2::R):=pick_there pick1
theorem pick3:Pick A (A1::A2::A3::A::R) (A1::A2::A3::R):=pick_there pick2
theorem pick4:Pick A (A1::A2::A3::A4::A::R) (A1::A2::A3::A4::R):=pick_there pick3
theorem pick5:Pick A (A1::A2::A3::A4::A5::A::R) (A1::A2::A3::A4::A5::R):=pick_there pick4
theorem pick6:Pick A (A1::A2::A3::A4::A5::A6::A::R) (A1::A2::A3::A4::A5::A6::R):=pick_there pick5
theorem pick7:Pick A (A1::A2::A3::A4::A5::A6::A7::A::R) (A1::A2::A3::A4::A5::A6::A7::R):=pick_there pick6
theorem upd_there (h:Upd A B L L'):Upd A B (A1::L) (A1::L'):=by
 obtain ⟨R,h1,h2⟩:=h
 exact ⟨A1::R,(h1.cons A1).trans (List.Perm.swap _ _ _),(h2.cons A1).trans (List.Perm.swap _ _ _)⟩
theorem upd0:Upd A B (A::R) (B::R):=⟨R,List.Perm.refl _,List.Perm.refl _⟩
theorem upd1:Upd A B (A1::A::R) (A1::B::R):=upd_there upd0
theorem upd2:Upd A B (A1::A2::A::R) (A1::A2::B::R):=upd_there upd1
theorem sub_refl:Sub L L:=⟨[],by simp⟩
theorem sub_drop (h:Sub L M):Sub (A::L) M:=by
 obtain ⟨X,h⟩:=h
 exact ⟨A::X,(h.cons A).trans List.perm_middle.symm⟩
theorem sub_take (p:Pick A L R) (h:Sub R M):Sub L (A::M):=by
 obtain ⟨X,h⟩:=h
 exact ⟨X,p.trans (h.cons A)⟩
theorem Sat.pick (h:Sat w0 w L) (p:Pick A L R):Sat w0 w (A::R):=h.perm p
theorem Sat.sub (h:Sat w0 w L) (p:Sub L M):Sat w0 w M:=by
 obtain ⟨X,h2⟩:=p
 exact (h.perm h2).dropR
theorem Ro.of_pick {A:HProp}{p:World→Prop} (h:Ro w0 (A::R) p) (k:Pick A L R):Ro w0 L p:=fun w hw=>h w (hw.pick k)
theorem Ro.of_sub {p:World→Prop} (h:Ro w0 M p) (k:Sub L M):Ro w0 L p:=fun w hw=>h w (hw.sub k)
theorem Sat.cellP {b:Nat}{cs:Array Value}{T:TypeId} (h:Sat w0 w L) (p:Pick (pt b (.cells cs T (0,0))) L R) (i:Nat){v:Value} (hv:cs[i]?=some v):w.cell? ⟨b,i,none⟩=some v:=(h.pick p).cellAt i v hv
end
end Go.Sl
namespace Go.Proofs.YtjbhhbnopnmcnaaGreatDoor
open Go Go.Sl Go.Med Go.MapKept Go.RowKit
section
variable {P:Program}{w0 w:World}{L L' R:List HProp}{b:Nat}{ops:Array Oper}{rest:List Oper}{a:Act}{Q:Exit→Act→World→Prop}
variable {dst:Option Tmp}{t ty T:TypeId}{pos:String}{after:Array Edge}{x y:Operand}{cs:Array Value}{v:Value}{o:Nat}
def oneB (P:Program) (ty:TypeId):Bool:=match P.underlying ty with
 |some d => !d.isRow
 |none=>false
theorem run_load1 (h1:oneB P ty=true) (hc:w.cell? ⟨b,o,none⟩=some v):(loadVar ty ⟨b,o,none⟩).run P w = .ok v w:=by
 unfold oneB at h1
 cases hu:P.underlying ty with
 |none=>rw [hu]at h1;cases h1
 |some d=>
  rw [hu]at h1
  have hagg:(isAgg ty).run P w = .ok false w:=by
   unfold isAgg
   rw [Sem.run_bind,run_underlying hu w]
   cases d <;> simp_all [TypeDesc.isRow]
  simp [loadVar,Sem.run_bind,hagg]
  rw [hc]
theorem run_load1A {ad:Addr} (h1:oneB P ty=true) (hc:w.cell? ad=some v):(loadVar ty ad).run P w = .ok v w:=by
 unfold oneB at h1
 cases hu:P.underlying ty with
 |none=>rw [hu]at h1;cases h1
 |some d=>
  rw [hu]at h1
  have hagg:(isAgg ty).run P w = .ok false w:=by
   unfold isAgg
   rw [Sem.run_bind,run_underlying hu w]
   cases d <;> simp_all [TypeDesc.isRow]
  simp [loadVar,Sem.run_bind,hagg]
  rw [hc]
theorem execOp_builtin_len (a:Act) (after:Array Edge) (g:Option (Nat×Bool)):execOp a.eval ⟨dst,.call { callee:= .builtin .len,args:=#[x],argTypes:=#[ty] },t,pos,after,g⟩=(do pure (.value (← Builtin.len_ #[ty] t #[a.eval x]))):=by
 rw [BigFrame.execOp_builtin,BigFrame.builtin_len];simp
theorem getD_get {i:Nat} (hlt:i+1≤cs.size) (hv:cs.getD i undef=v):cs[i]?=some v:=by
 rw [← hv,Array.getD_eq_getD_getElem?,Array.getElem?_eq_getElem (show i<cs.size by omega)];rfl
theorem wl_load1 (hs:Sat w0 w L) (hx:a.eval x = .pointer (some ⟨b,o,none⟩)) (p:Pick (pt b (.cells cs T (0,0))) L R) (hlt:o+1≤cs.size) (hv:cs.getD o undef=v) (h1:oneB P ty=true)
  (h:wpList P ops Q rest (a.put dst v) w):wpList P ops Q (⟨dst,.load ty x,t,pos,after,none⟩::rest) a w:=
 wpList_plain rfl fun _ hK=>by
  unfold Oper.wp execOp
  simp only [hx,Instr.loadAt,Instr.sureAddr,Sem.run_bind,Sem.run_pure,Result.andThen_ok,run_load1 h1 (hs.cellP p o (getD_get hlt hv))]
  exact hK _ _ h
theorem wl_loadN (ks:List Value) (hs:Sat w0 w L) (hx:a.eval x = .pointer (some ⟨b,o,none⟩)) (p:Pick (pt b (.cells cs T (0,0))) L R) (hv:∀ j v,ks[j]?=some v→cs[o+j]?=some v)
  {d:TypeDesc} (hu:P.underlying ty=some d) (hd:d.isRow=true) (hi:(P.info? ty).map (·.size)=some ks.length)
  (h:wpList P ops Q rest (a.put dst (.agg ks.toArray)) w):wpList P ops Q (⟨dst,.load ty x,t,pos,after,none⟩::rest) a w:=
 wpList_load_mid rfl ty x rfl b o hx ks d (fun j v hj=>hs.cellP p (o+j) (hv j v hj)) hu hd hi h
theorem wl_loadA (hs:Sat w0 w L) (hx:a.eval x = .pointer (some ⟨b,0,none⟩)) (p:Pick (pt b (.cells cs T (0,0))) L R){d:TypeDesc} (hu:P.underlying ty=some d) (hd:d.isRow=true) (hi:(P.info? ty).map (·.size)=some cs.size)
  (h:wpList P ops Q rest (a.put dst (.agg cs)) w):wpList P ops Q (⟨dst,.load ty x,t,pos,after,none⟩::rest) a w:=by
 refine wpList_load_row rfl ty x rfl b hx T cs (0,0) d (hs.pick p).at hu ?_ hi h
 cases d <;> simp_all [TypeDesc.isRow]
theorem wl_store (hs:Sat w0 w L) (hx:a.eval x = .pointer (some ⟨b,o,none⟩)) (hy:a.eval y=v){cs':Array Value} (hcs:putsAt cs o v.cells.toList=cs') (u:Upd (pt b (.cells cs T (0,0))) (pt b (.cells cs' T (0,0))) L L') (hfit:o+v.cells.size≤cs.size)
  (hi:(P.info? ty).map (·.size)=some v.cells.size) (h1:v.cells.toList.all (·.oneCell')=true)
  (hK:∀ w',Sat w0 w' L'→wpList P ops Q rest (a.put dst undef) w'):wpList P ops Q (⟨dst,.store ty x y,t,pos,after,none⟩::rest) a w:=by
 subst hcs
 obtain ⟨R',h2,h3⟩:=u
 exact wpList_store_sat rfl ty x y rfl o v hx hy hfit hi (by rw [← Array.all_toList];exact h1) (hs.perm h2) fun w' hS=>hK w' (hS.perm h3.symm)
theorem wl_box (hs:Sat w0 w L) (hy:a.eval y=v) (hcs:v.cells=cs)
  (hK:∀ b w',Sat w0 w' (pt b (.cells cs ty (0,0))::L)→wpList P ops Q rest (a.put dst (.pointer (some ⟨b,0,none⟩))) w'):wpList P ops Q (⟨dst,.box ty y,t,pos,after,none⟩::rest) a w:=by
 subst hcs
 refine wpList_plain rfl fun _ hK'=>?_
 have hS:=hs.alloc (.cells v.cells ty)
 unfold Oper.wp execOp
 have hrun:(Instr.box ty v).run P w = .ok (.pointer (some ⟨w.heap.size,0,none⟩)) (w.alloc (.cells v.cells ty)):=by
  simp [Instr.box,newVar,newRow,go_sem]
 simp only [hy,Sem.run_bind,Sem.run_pure,hrun,Result.andThen_ok]
 exact hK' _ _ (hK _ _ hS)
def zeroB (P:Program) (ty:TypeId):Option Value:=(P.info? ty).bind (·.zero)
theorem run_zeroB (hz:zeroB P ty=some v) (w:World):(zeroValue ty).run P w = .ok v w:=by
 unfold zeroB at hz
 cases hq:P.info? ty with
 |none=>simp [hq]at hz
 |some i=>
  rw [hq]at hz
  have hz':i.zero=some v:=hz
  simp [zeroValue,typeInfo,hq,hz']
theorem wl_alloc (hz:zeroB P ty=some v) (hs:Sat w0 w L) (hcs:v.cells=cs)
  (hK:∀ b w',Sat w0 w' (pt b (.cells cs ty (0,0))::L)→wpList P ops Q rest (a.put dst (.pointer (some ⟨b,0,none⟩))) w'):wpList P ops Q (⟨dst,.alloc ty,t,pos,after,none⟩::rest) a w:=by
 subst hcs
 refine wpList_plain rfl fun _ hK'=>?_
 have hS:=hs.alloc (.cells v.cells ty)
 unfold Oper.wp execOp
 have hrun:(Instr.alloc ty true (.tuple #[])).run P w = .ok (.pointer (some ⟨w.heap.size,0,none⟩)) (w.alloc (.cells v.cells ty)):=by
  simp [Instr.alloc,run_zeroB hz w,newVar,newRow,go_sem,Result.andThen]
 simp only [Sem.run_bind,Sem.run_pure,hrun,Result.andThen_ok]
 exact hK' _ _ (hK _ _ hS)
theorem res_cell_tmp {fn:Func}{p u:Tmp}{tmps:Array Value}{d:TypeDesc} (hf:fn.results=#[.cell p ty,.tmp u]) (hs:Sat w0 w L) (hp:tmps.getD p undef = .pointer (some ⟨b,0,none⟩)) (k:Pick (pt b (.cells cs T (0,0))) L R)
  (hu:P.underlying ty=some d) (hd:d.isRow=true) (hi:(P.info? ty).map (·.size)=some cs.size) :
  (results fn tmps).run P w = .ok (.tuple #[.agg cs,tmps.getD u undef]) w:=by
 rw [results_cell_tmp hf tmps P w,hp]
 have hl:=run_loadVar_row (P:=P) w b T ty cs (0,0) d (hs.pick k).at hu (by cases d <;> simp_all [TypeDesc.isRow]) hi
 simp [asAddr,hl,Result.andThen]
theorem LogRep.shut2 {p m:Nat}{L:Seg.Log}{lv:Value}{F:List HProp} (h:Sat w0 w (logPt p m L lv::osl 123 2 lv (segw L.l)::F)):Sat w0 w (LogRep p m L::F):=LogRep.shut h
theorem LogRep.open2 {p m:Nat}{L:Seg.Log}{F:List HProp} (h:Sat w0 w (LogRep p m L::F)):∃ lv,Sat w0 w (logPt p m L lv::osl 123 2 lv (segw L.l)::F):=LogRep.open h
theorem putsAt_list:∀ (ys:List Value) (cs:Array Value) (o:Nat),o+ys.length≤cs.size→(putsAt cs o ys).toList=cs.toList.take o++ys++cs.toList.drop (o+ys.length)
 |[],cs,o,h=>by simp [putsAt]
 |y::ys,cs,o,h=>by
  simp only [List.length_cons]at h
  rw [putsAt,putsAt_list ys _ (o+1) (by rw [Array.size_setIfInBounds];omega),Array.toList_setIfInBounds]
  have hlt:o<cs.toList.length:=by simp;omega
  rw [List.set_eq_take_append_cons_drop,if_pos hlt]
  have h1:(cs.toList.take o).length=o:=by rw [List.length_take];omega
  rw [List.take_append,h1,List.take_of_length_le oQ,show o+1 - o=1 by omega,List.take_succ_cons,List.take_zero]
  rw [List.drop_append,h1,List.drop_of_length_le (l:=cs.toList.take o) oQ,List.nil_append,show o+1+ys.length - o=ys.length+1 by omega,List.drop_succ_cons,List.drop_drop]
  simp only [List.length_cons,List.append_assoc,List.cons_append,List.nil_append]
  rw [show o+1+ys.length=o+(ys.length+1) by omega]
theorem at_load (h:Stop (wpList P ops Q (⟨dst,.load ty x,t,pos,after,none⟩::rest) a w)):wpList P ops Q (⟨dst,.load ty x,t,pos,after,none⟩::rest) a w:=h.out
theorem at_store (h:Stop (wpList P ops Q (⟨dst,.store ty x y,t,pos,after,none⟩::rest) a w)):wpList P ops Q (⟨dst,.store ty x y,t,pos,after,none⟩::rest) a w:=h.out
theorem at_box (h:Stop (wpList P ops Q (⟨dst,.box ty y,t,pos,after,none⟩::rest) a w)):wpList P ops Q (⟨dst,.box ty y,t,pos,after,none⟩::rest) a w:=h.out
theorem at_alloc (h:Stop (wpList P ops Q (⟨dst,.alloc ty,t,pos,after,none⟩::rest) a w)):wpList P ops Q (⟨dst,.alloc ty,t,pos,after,none⟩::rest) a w:=h.out
theorem at_build1 {ix:Nat}{k:Nat} (h:Stop (wpList P ops Q (⟨dst,.buildSlice ty k #[(ix,x)],t,pos,after,none⟩::rest) a w)):wpList P ops Q (⟨dst,.buildSlice ty k #[(ix,x)],t,pos,after,none⟩::rest) a w:=h.out
theorem at_append {s z:Operand}{ta tb:TypeId} (h:Stop (wpList P ops Q (⟨dst,.call { callee:= .builtin .append,args:=#[s,z],argTypes:=#[ta,tb] },t,pos,after,none⟩::rest) a w)):wpList P ops Q (⟨dst,.call { callee:= .builtin .append,args:=#[s,z],argTypes:=#[ta,tb] },t,pos,after,none⟩::rest) a w:=h.out
section
variable {vx vy:Value}{ad:Addr}{fl:Nat}{bo:BinOp}{uo:UnOp}{tz:TypeId}{G:World→Prop}
theorem want_none (o:Oper) (h:o.guard=none):Region.wanted o (yielded ops a.tmps)=true:=by simp [Region.wanted,h]
theorem yl_move (hx:a.eval x=v):Yields P ops ⟨dst,.move x,t,pos,after,none⟩ v a:=
 .inl ⟨want_none _ rfl,fun w=>by simp only [execOp,hx];rfl⟩
theorem yl_assign (hx:a.eval x=v):Yields P ops ⟨dst,.assign x,t,pos,after,none⟩ v a:=
 .inl ⟨want_none _ rfl,fun w=>by simp only [execOp,hx];rfl⟩
theorem yl_nil (hx:a.eval x = .pointer (some ad)):Yields P ops ⟨dst,.nilCheck x,t,pos,after,none⟩ (.pointer (some ad)) a:=
 .inl ⟨want_none _ rfl,fun w=>by simp only [execOp,hx];rfl⟩
theorem yl_field (hx:a.eval x=vx) (hr:∀ w,(Instr.fieldAt ty vx fl).run P w = .ok v w):Yields P ops ⟨dst,.fieldAddr ty x fl,t,pos,after,none⟩ v a:=
 .inl ⟨want_none _ rfl,fun w=>by simp only [execOp,hx,Sem.run_bind,hr,Result.andThen_ok,Sem.run_pure]⟩
theorem yl_index (hx:a.eval x=vx) (hy:a.eval y=vy) (hr:∀ w,(Instr.indexAt ty vx vy).run P w = .ok v w):Yields P ops ⟨dst,.indexAddr ty x y,t,pos,after,none⟩ v a:=
 .inl ⟨want_none _ rfl,fun w=>by simp only [execOp,hx,hy,Sem.run_bind,hr,Result.andThen_ok,Sem.run_pure]⟩
theorem yl_bin (hx:a.eval x=vx) (hy:a.eval y=vy) (hr:∀ w,((do eqGuard bo ty x y vx vy;binOp bo ty vx vy):Sem Value).run P w = .ok v w):Yields P ops ⟨dst,.binOp bo ty x y tz,t,pos,after,none⟩ v a:=
 .inl ⟨want_none _ rfl,fun w=>by simp only [execOp,hx,hy,Sem.run_bind (x:=(do eqGuard bo ty x y vx vy;binOp bo ty vx vy)),hr,Result.andThen_ok,Sem.run_pure]⟩
theorem yl_un (hx:a.eval x=vx) (hr:∀ w,(Op.unary uo vx).run P w = .ok v w):Yields P ops ⟨dst,.unOp uo ty x,t,pos,after,none⟩ v a:=
 .inl ⟨want_none _ rfl,fun w=>by simp only [execOp,hx,Sem.run_bind,hr,Result.andThen_ok,Sem.run_pure]⟩
theorem yl_conv (hx:a.eval x=vx) (hr:∀ w,(convert ty tz vx).run P w = .ok v w):Yields P ops ⟨dst,.convert ty tz x,t,pos,after,none⟩ v a:=
 .inl ⟨want_none _ rfl,fun w=>by simp only [execOp,hx,Sem.run_bind,hr,Result.andThen_ok,Sem.run_pure]⟩
theorem yl_extract (hx:a.eval x=vx) (hr:∀ w,(Instr.extract vx fl).run P w = .ok v w):Yields P ops ⟨dst,.extract x fl,t,pos,after,none⟩ v a:=
 .inl ⟨want_none _ rfl,fun w=>by simp only [execOp,hx,Sem.run_bind,hr,Result.andThen_ok,Sem.run_pure]⟩
theorem yl_len (hx:a.eval x=vx) (hr:∀ w,(Builtin.len_ #[ty] t #[vx]).run P w = .ok v w):Yields P ops ⟨dst,.call { callee:= .builtin .len,args:=#[x],argTypes:=#[ty] },t,pos,after,none⟩ v a:=
 .inl ⟨want_none _ rfl,fun w=>by
  rw [execOp_builtin_len,hx]
  simp only [Sem.run_bind,hr,Result.andThen_ok,Sem.run_pure]⟩
theorem tk_load (hx:a.eval x = .pointer (some ad)) (h1:oneB P ty=true) (hG:∀ w,G w→w.cell? ad=some v):YieldsIf P ops G ⟨dst,.load ty x,t,pos,after,none⟩ v a:=
 .inl ⟨want_none _ rfl,fun w hw=>by
  obtain ⟨b,o,el⟩:=ad
  have hc:=hG w hw
  simp only [execOp,hx,Instr.loadAt,Instr.sureAddr,Sem.run_bind,Sem.run_pure,Result.andThen_ok,run_load1A h1 hc]⟩
def goB (P:Program) (f:FuncId):Bool:=match P.funcs[f]? with
 |some fn => !(fn.name == "runtime.NumGoroutine") && fn.body.isSome
 |none=>false
theorem run_goB {f:FuncId} (h:goB P f=true) (args:Array Value) (w:World):(callFunc f args).run P w = .ok (.enter f args) w:=by
 unfold goB at h
 cases hf:P.funcs[f]? with
 |none=>rw [hf]at h;cases h
 |some fn=>
  rw [hf]at h
  simp only [Bool.and_eq_true,Bool.not_eq_true']at h
  obtain ⟨h1,h2⟩:=h
  obtain ⟨c,hc⟩:=Option.isSome_iff_exists.1 h2
  have h1':fn.name ≠ "runtime.NumGoroutine" := by simpa using h1
  simp [callFunc,hf,h1',hc]
def Upon (K:Act→World→Prop) (Q:Exit→Act→World→Prop) (a:Act) (dst:Option Tmp) (e:Ending) (w:World):Prop:=
 match e with
 |.returned v=>K (a.put dst v) w
 |.panicked chain=>Q (.panic chain) a w
 |.outgrown=>LetsOut Q
theorem eff_call {f:FuncId}{xs:Array Operand}{ts:Array TypeId}{K:Act→World→Prop}{E:Prop} (vs:List Value) (hf:goB P f=true) (hv:xs.toList.map a.eval=vs)
  (h:Calls P f vs.toArray w (Upon K Q a dst)):if Region.wanted ⟨dst,.call { callee:= .value (.func f),args:=xs,argTypes:=ts },t,pos,after,none⟩ (yielded ops a.tmps)=true then
   Oper.wp P ⟨dst,.call { callee:= .value (.func f),args:=xs,argTypes:=ts },t,pos,after,none⟩ a w K Q else E:=by
 rw [if_pos (want_none _ rfl)]
 unfold Oper.wp
 have e1:(#[]++xs.map a.eval++#[]:Array Value)=vs.toArray:=by
  rw [← hv];cases xs;simp
 rw [execOp_call_go,e1,run_goB hf,Oper.upon_enter]
 exact h.mono fun e w' he=>by cases e <;> exact he
theorem eff_call1 {f:FuncId}{x1:Operand}{v1:Value}{ts:Array TypeId}{K:Act→World→Prop}{E:Prop} (hf:goB P f=true) (h1:a.eval x1=v1)
  (h:Calls P f #[v1] w (Upon K Q a dst)):if Region.wanted ⟨dst,.call { callee:= .value (.func f),args:=#[x1],argTypes:=ts },t,pos,after,none⟩ (yielded ops a.tmps)=true then
   Oper.wp P ⟨dst,.call { callee:= .value (.func f),args:=#[x1],argTypes:=ts },t,pos,after,none⟩ a w K Q else E:=
 eff_call [v1] hf (by simp [h1]) h
theorem eff_call2 {f:FuncId}{x1 x2:Operand}{v1 v2:Value}{ts:Array TypeId}{K:Act→World→Prop}{E:Prop} (hf:goB P f=true) (h1:a.eval x1=v1) (h2:a.eval x2=v2)
  (h:Calls P f #[v1,v2] w (Upon K Q a dst)):if Region.wanted ⟨dst,.call { callee:= .value (.func f),args:=#[x1,x2],argTypes:=ts },t,pos,after,none⟩ (yielded ops a.tmps)=true then
   Oper.wp P ⟨dst,.call { callee:= .value (.func f),args:=#[x1,x2],argTypes:=ts },t,pos,after,none⟩ a w K Q else E:=
 eff_call [v1,v2] hf (by simp [h1,h2]) h
theorem eff_call3 {f:FuncId}{x1 x2 x3:Operand}{v1 v2 v3:Value}{ts:Array TypeId}{K:Act→World→Prop}{E:Prop} (hf:goB P f=true) (h1:a.eval x1=v1) (h2:a.eval x2=v2) (h3:a.eval x3=v3)
  (h:Calls P f #[v1,v2,v3] w (Upon K Q a dst)):if Region.wanted ⟨dst,.call { callee:= .value (.func f),args:=#[x1,x2,x3],argTypes:=ts },t,pos,after,none⟩ (yielded ops a.tmps)=true then
   Oper.wp P ⟨dst,.call { callee:= .value (.func f),args:=#[x1,x2,x3],argTypes:=ts },t,pos,after,none⟩ a w K Q else E:=
 eff_call [v1,v2,v3] hf (by simp [h1,h2,h3]) h
theorem eff_call4 {f:FuncId}{x1 x2 x3 x4:Operand}{v1 v2 v3 v4:Value}{ts:Array TypeId}{K:Act→World→Prop}{E:Prop} (hf:goB P f=true) (h1:a.eval x1=v1) (h2:a.eval x2=v2) (h3:a.eval x3=v3) (h4:a.eval x4=v4)
  (h:Calls P f #[v1,v2,v3,v4] w (Upon K Q a dst)):if Region.wanted ⟨dst,.call { callee:= .value (.func f),args:=#[x1,x2,x3,x4],argTypes:=ts },t,pos,after,none⟩ (yielded ops a.tmps)=true then
   Oper.wp P ⟨dst,.call { callee:= .value (.func f),args:=#[x1,x2,x3,x4],argTypes:=ts },t,pos,after,none⟩ a w K Q else E:=
 eff_call [v1,v2,v3,v4] hf (by simp [h1,h2,h3,h4]) h
variable {late:List Nat}{i n:Nat}{oi:Oper}{l:Array Bool}
theorem rg_pure (i:Nat) (hi:ops.toList[i]?=some oi) (hc:(Region.noSelect ops && Region.free .any ops l i && (Region.ready .any ops l).contains i && shutB ops l)=true)
  (hQ:∀ c a w,Q (.panic c) (a.put oi.dst v) w→Q (.panic c) a w) (hy:Yields P ops oi v a) {a':Act} (ha:a.put oi.dst v=a')
  (h:wpL P ops Q late G n (l.setIfInBounds i true) a' w):wpL P ops Q late G (n+1) l a w:=
 wpL_pure (by rw [← Array.getElem?_toList];exact hi) hc hQ hy (by rw [ha];exact h)
theorem rg_take (i:Nat) (hi:ops.toList[i]?=some oi) (hc:(Region.noSelect ops && Region.free .any ops l i && (Region.ready .any ops l).contains i && lateOk ops late i && shutB ops l)=true)
  (hQ:∀ c a w,Q (.panic c) (a.put oi.dst v) w→Q (.panic c) a w) (hy:YieldsIf P ops G oi v a) (hG:G w) {a':Act} (ha:a.put oi.dst v=a')
  (h:wpL P ops Q late G n (l.setIfInBounds i true) a' w):wpL P ops Q late G (n+1) l a w:=
 wpL_take (by rw [← Array.getElem?_toList];exact hi) hc hQ hy hG (by rw [ha];exact h)
theorem rg_eff (i:Nat) (hi:ops.toList[i]?=some oi) (hr:Region.ready .any ops l=[i])
  (h:∀ K:Act→World→Prop,(∀ a' w',keeps late G i w w'→wpL P ops Q late G n (l.setIfInBounds i true) a' w'→K a' w') →
   if Region.wanted oi (yielded ops a.tmps)=true then Oper.wp P oi a w K Q else K (a.put oi.dst undef) w):wpL P ops Q late G (n+1) l a w:=
 wpL_eff (by rw [← Array.getElem?_toList];exact hi) hr h
end
section
variable {e:TypeId}{sz by' n c:Nat}{xs ys:List Value}{s:Operand}
def appB (P:Program) (t e:TypeId) (sz by':Nat):Bool:=
 (match P.underlying t with|some (.slice e')=>e'==e|_=>false) &&
 (match P.info? e with
  |some i=>i.size==sz && i.bytes==by' && (match i.zero with|some z=>z.cells.size==sz|none=>false) && decide (0<sz)
  |none=>false)
theorem appB_spec (h:appB P t e sz by'=true):P.underlying t=some (.slice e)∧∃ i z,P.info? e=some i∧i.zero=some z∧i.size=sz∧i.bytes=by'∧z.cells.size=sz∧0<sz:=by
 unfold appB at h
 rw [Bool.and_eq_true]at h
 obtain ⟨h1,h2⟩:=h
 constructor
 ·split at h1
  ·rename_i e' he;rw [he];congr 2;simpa using h1
  ·cases h1
 ·split at h2
  ·rename_i i hi
   simp only [Bool.and_eq_true,beq_iff_eq,decide_eq_true_eq]at h2
   obtain ⟨⟨⟨a1,a2⟩,a3⟩,a4⟩:=h2
   split at a3
   ·rename_i z hz
    exact ⟨i,z,hi,hz,a1,a2,by simpa using a3,a4⟩
   ·cases a3
  ·cases h2
theorem fill_all (cs zs:Array Value) (h:zs.size=cs.size):cs.zipIdx.foldl (fun acc (x:Value×Nat)=>acc.setIfInBounds (0+x.2) x.1) zs=cs:=by
 have key:∀ (k:Nat) (l:List Value) (acc:Array Value),acc.size=k+l.length→(∀ j,j<k→acc[j]?=cs[j]?)→(∀ j,l[j]?=cs[k+j]?)→k+l.length=cs.size →
   (l.zipIdx k).foldl (fun acc (x:Value×Nat)=>acc.setIfInBounds (0+x.2) x.1) acc=cs:=by
  intro k l
  induction l generalizing k with
  |nil=>
   intro acc h1 h2 _ h4
   simp only [List.zipIdx_nil,List.foldl_nil]
   simp only [List.length_nil,Nat.add_zero]at h1 h4
   apply Array.ext_getElem?
   intro j
   by_cases hj:j<k
   ·exact h2 j hj
   ·rw [Array.getElem?_eq_none oQ,Array.getElem?_eq_none oQ]
  |cons v l ih=>
   intro acc h1 h2 h3 h4
   simp only [List.zipIdx_cons,List.foldl_cons]
   simp only [List.length_cons]at h1 h4
   rw [Nat.zero_add k]
   refine ih (k+1) (acc.setIfInBounds k v) (by rw [Array.size_setIfInBounds];omega) ?_ ?_ oQ
   ·intro j hj
    by_cases hjk:j=k
    ·subst hjk
     have:=h3 0
     simp only [List.getElem?_cons_zero,Nat.add_zero]at this
     rw [← this,Array.getElem?_setIfInBounds_self_of_lt oQ]
    ·rw [Array.getElem?_setIfInBounds_ne oQ]
     exact h2 j oQ
   ·intro j
    have:=h3 (j+1)
    rw [List.getElem?_cons_succ]at this
    rw [this]
    congr 1
    omega
 have:=key 0 cs.toList zs (by simpa using h) (fun j hj=>absurd hj (Nat.not_lt_zero j)) (fun j=>by simp) (by simp)
 conv=>rhs;rw [← this]
 rw [← Array.foldl_toList,Array.toList_zipIdx]
theorem run_build1 (hb:appB P t e sz by'=true) (hsz:v.cells.size=sz) (hle:sz≤16777216) (w:World) :
  (Instr.buildSlice t 1 #[(0,v)]).run P w = .ok (.slice (some ⟨w.heap.size,0,none⟩) 1 1) (w.alloc (.cells v.cells e)):=by
 obtain ⟨hu,i,z,hi,hz,h1,h2,h3,h4⟩:=appB_spec hb
 subst h1
 have hzv:(zeroValue e).run P w = .ok z w:=by simp [zeroValue,typeInfo,hi,hz]
 have hsz':(sizeOf e).run P w = .ok i.size w:=by simp [sizeOf,typeInfo,hi]
 have hnz:¬ (1 * i.size=0):=by omega
 have hle':¬ (1 * i.size>2^24):=by omega
 unfold Instr.buildSlice
 simp only [Sem.run_bind,run_underlying hu,Result.andThen_ok,hsz',if_neg hle',if_neg hnz,hzv,Sem.run_pure]
 have hf:Instr.fill (fun i'=>some (i' * i.size,i.size)) ((Array.range (1 * i.size)).map (z.cells[· % z.cells.size]!)) [(0,v)]=some v.cells:=by
  have hs1:((Array.range (1 * i.size)).map (z.cells[· % z.cells.size]!)).size=v.cells.size:=by simp [hsz]
  unfold Instr.fill
  simp only [Nat.zero_mul]
  have hc:¬ ((v.cells.size≠i.size || 0+v.cells.size>((Array.range (1 * i.size)).map (z.cells[· % z.cells.size]!)).size)=true):=by
   rw [hs1];simp [hsz]
  simp only [if_neg hc]
  unfold Instr.fill
  congr 1
  exact fill_all _ _ hs1
 simp only [hf]
 simp [newRow,go_sem]
theorem wl_build1 (hb:appB P ty e sz by'=true) (hs:Sat w0 w L) (hy:a.eval x=v) (hcs:v.cells=cs) (hsz:cs.size=sz) (hle:sz≤16777216)
  (hK:∀ b w',Sat w0 w' (pt b (.cells cs e (0,0))::L)→wpList P ops Q rest (a.put dst (.slice (some ⟨b,0,none⟩) 1 1)) w'):wpList P ops Q (⟨dst,.buildSlice ty 1 #[(0,x)],t,pos,after,none⟩::rest) a w:=by
 subst hcs
 refine wpList_plain rfl fun _ hK'=>?_
 have hS:=hs.alloc (.cells v.cells e)
 unfold Oper.wp execOp
 simp only [hy,List.map_toArray,List.map_cons,List.map_nil,Sem.run_bind,Sem.run_pure,run_build1 hb hsz hle w,Result.andThen_ok]
 exact hK' _ _ (hK _ _ hS)
theorem wl_append (e:TypeId) (sz by':Nat) (hb:appB P ty e sz by'=true) (hs:Sat w0 w L) (hv:a.eval s=v) (hy:a.eval y = .slice (some ⟨b,0,none⟩) n c){R2:List HProp} (p:Pick (osl e sz v xs) L R) (p2:Pick (pt b (.cells cs T (0,0))) R R2)
  (hn:cs.size=n * sz) (h0:0<n) (h1:cs.toList.all (·.oneCell')=true) (h63:xs.length+cs.size≤maxLen) (hby:(xs.length+cs.size) * by'≤140737488355328)
  (hK:∀ b' n' c' w',Sat w0 w' (osl e sz (.slice (some ⟨b',0,none⟩) n' c') (xs++cs.toList)::R2)→wpList P ops Q rest (a.put dst (.slice (some ⟨b',0,none⟩) n' c')) w') :
  wpList P ops Q (⟨dst,.call { callee:= .builtin .append,args:=#[s,y],argTypes:=#[ty,ty] },t,pos,after,none⟩::rest) a w:=by
 obtain ⟨hu,i,z,hi,hz,e1,e2,e3,e4⟩:=appB_spec hb
 subst e2
 have hne:xs++cs.toList≠[]:=by
  intro h
  have:=congrArg List.length h
  simp only [List.length_append,Array.length_toList,List.length_nil]at this
  have:0<n * sz:=Nat.mul_pos h0 e4
  omega
 have hrd:rdsl sz (.slice (some ⟨b,0,none⟩) n c) cs.toList w:=⟨_,n,c,rfl,by simpa using hn,fun j x hj=>⟨_,rfl,by
  rw [add_zero_lit]
  exact ((hs.pick p).pick (pick_there p2)).cellAt j x (by simpa using hj)⟩⟩
 refine wpList_append (w0:=w0) rfl s y ty rfl e i z hu hi hz e1 e3 e4 hv hy (fun u hu=>(List.all_eq_true.1 h1) u hu) (hs.pick p) hrd (by simpa using h63) (by simpa using hby) ?_
 intro v' w' hS hv'
 obtain ⟨b',n',c',rfl⟩:=hv' hne
 exact hK b' n' c' w' (hS.pick (pick_there p2)).drop
theorem wl_app (e:TypeId) (sz by':Nat) (hb:appB P ty e sz by'=true) (hs:Sat w0 w L) (hv:a.eval s=v) (hy:a.eval y = .slice (some ⟨b,0,none⟩) n c){R2:List HProp} (p:Pick (osl e sz v xs) L R) (p2:Pick (pt b (.cells cs T (0,0))) R R2)
  (hn:cs.size=n * sz) (h0:1≤n) (h1:cs.toList.all (·.oneCell')=true) (h63:xs.length≤2147483648) (h64:cs.size≤65536) (hby:by'≤65000) (hys:cs.toList=ys)
  (hK:∀ b' n' c' w',Sat w0 w' (osl e sz (.slice (some ⟨b',0,none⟩) n' c') (xs++ys)::R2)→wpList P ops Q rest (a.put dst (.slice (some ⟨b',0,none⟩) n' c')) w') :
  wpList P ops Q (⟨dst,.call { callee:= .builtin .append,args:=#[s,y],argTypes:=#[ty,ty] },t,pos,after,none⟩::rest) a w:=by
 subst hys
 refine wl_append e sz by' hb hs hv hy p p2 hn h0 h1 (by unfold maxLen;omega) ?_ hK
 calc (xs.length+cs.size) * by'≤(2147483648+65536) * 65000:=Nat.mul_le_mul oQ hby
  _≤140737488355328:=by decide
end
end
end Go.Proofs.YtjbhhbnopnmcnaaGreatDoor
namespace Go.Sl
open Go
section
variable {w0 w:World}{A:HProp}{L M R:List HProp}
theorem pkD (p:Pick A L R:=by first|((repeat (first|with_reducible apply pick0|with_reducible apply pick_there));done)|((repeat (first|apply pick0|apply pick_there));done)|fail):Pick A L R:=p
theorem sbD (p:Sub L M:=by repeat (first|(with_reducible apply sub_refl)|((with_reducible apply sub_take);(· first|((repeat (first|with_reducible apply pick0|with_reducible apply pick_there));done)|((repeat (first|apply pick0|apply pick_there));done)|fail))|(with_reducible apply sub_drop))):Sub L M:=p
theorem Sat.pk (h:Sat w0 w L) (p:Pick A L R:=by first|((repeat (first|with_reducible apply pick0|with_reducible apply pick_there));done)|((repeat (first|apply pick0|apply pick_there));done)|fail):Sat w0 w (A::R):=h.pick p
theorem Sat.sb (h:Sat w0 w L) (p:Sub L M:=by repeat (first|(with_reducible apply sub_refl)|((with_reducible apply sub_take);(· first|((repeat (first|with_reducible apply pick0|with_reducible apply pick_there));done)|((repeat (first|apply pick0|apply pick_there));done)|fail))|(with_reducible apply sub_drop))):Sat w0 w M:=h.sub p
theorem Ro.op {p:World→Prop} (h:Ro w0 (A::R) p) (k:Pick A L R:=by first|((repeat (first|with_reducible apply pick0|with_reducible apply pick_there));done)|((repeat (first|apply pick0|apply pick_there));done)|fail):Ro w0 L p:=h.of_pick k
theorem Ro.os {p:World→Prop} (h:Ro w0 M p) (k:Sub L M:=by repeat (first|(with_reducible apply sub_refl)|((with_reducible apply sub_take);(· first|((repeat (first|with_reducible apply pick0|with_reducible apply pick_there));done)|((repeat (first|apply pick0|apply pick_there));done)|fail))|(with_reducible apply sub_drop))):Ro w0 L p:=h.of_sub k
end
end Go.Sl
namespace Go.Proofs.YtjbhhbnopnmcnaaGreatDoor
open Go Go.Sl Go.Med Go.MapKept Go.RowKit
section
variable {P:Program}{ops:Array Oper}{late:List Nat}{G:World→Prop}{n:Nat}{l:Array Bool}{a:Act}{w:World}{oi:Oper}{v:Value}{Q:Exit→Act→World→Prop}
theorem rp (i:Nat) (hi:ops.toList[i]?=some oi:=by conv=>lhs;whnf) (hc:(Region.noSelect ops && Region.free .any ops l i && (Region.ready .any ops l).contains i && shutB ops l)=true:=by kernel_rfl)
  (hQ:∀ c a w,Q (.panic c) (a.put oi.dst v) w→Q (.panic c) a w:=by intro _ _ _ h;exact h) (hy:Yields P ops oi v a) {a':Act} (ha:a.put oi.dst v=a':=by go_frame;first|done|rfl)
  (h:wpL P ops Q late G n (l.setIfInBounds i true) a' w):wpL P ops Q late G (n+1) l a w:=rg_pure i hi hc hQ hy ha h
theorem rt (i:Nat) (hi:ops.toList[i]?=some oi:=by conv=>lhs;whnf) (hc:(Region.noSelect ops && Region.free .any ops l i && (Region.ready .any ops l).contains i && lateOk ops late i && shutB ops l)=true:=by kernel_rfl)
  (hQ:∀ c a w,Q (.panic c) (a.put oi.dst v) w→Q (.panic c) a w:=by intro _ _ _ h;exact h) (hy:YieldsIf P ops G oi v a:=by first|exact tk_load (by conv=>lhs;whnf) kRz (by intro wq hq;first|exact hq|exact hq.1|exact hq.2|exact hq.2.1|exact hq.2.2|exact hq.2.2.1|exact hq.2.2.2|exact hq.2.2.2.1|exact hq.2.2.2.2)|(refine Or.inl ⟨by rfl,?_⟩;(intro wq hq;go_split_ands;go_simp);first|done|(with_reducible rfl))) (hG:G w:=by assumption) {a':Act} (ha:a.put oi.dst v=a':=by go_frame;first|done|rfl)
  (h:wpL P ops Q late G n (l.setIfInBounds i true) a' w):wpL P ops Q late G (n+1) l a w:=rg_take i hi hc hQ hy hG ha h
end
end Go.Proofs.YtjbhhbnopnmcnaaGreatDoor
namespace Go.Sl
open Go
theorem upD {A B:HProp}{L M:List HProp} (p:Upd A B L M:=by first|((repeat (first|with_reducible apply upd0|with_reducible apply upd_there));done)|((repeat (first|apply upd0|apply upd_there));done)|fail):Upd A B L M:=p
theorem evD {α:Sort _}{a b:α} (h:a=b:=by conv=>lhs;whnf):a=b:=h
theorem rnD {α:Type}{P:Program}{s:Sem α}{v:α} (h:∀ w,s.run P w = .ok v w:=by ((intro wq;go_simp);first|done|(with_reducible rfl))):∀ w,s.run P w = .ok v w:=h
end Go.Sl
namespace Go.Proofs.YtjbhhbnopnmcnaaGreatDoor
open Go Go.Sl Go.Med Go.MapKept Go.RowKit
section
variable {P:Program}{ops:Array Oper}{a:Act}{dst:Option Tmp}{t ty:TypeId}{pos:String}{after:Array Edge}{x y:Operand}{v vx vy:Value}{ad:Addr}{fl:Nat}{bo:BinOp}{tz:TypeId}{g:Option (Nat×Bool)}
theorem mvQ (hx:a.eval x=v:=by conv=>lhs;whnf):Yields P ops ⟨dst,.move x,t,pos,after,none⟩ v a:=yl_move hx
theorem flQ (hx:a.eval x=vx:=by conv=>lhs;whnf) (hr:∀ w,(Instr.fieldAt ty vx fl).run P w = .ok v w:=by ((intro wq;go_simp);first|done|(with_reducible rfl))):Yields P ops ⟨dst,.fieldAddr ty x fl,t,pos,after,none⟩ v a:=yl_field hx hr
theorem nlQ (hx:a.eval x = .pointer (some ad):=by conv=>lhs;whnf):Yields P ops ⟨dst,.nilCheck x,t,pos,after,none⟩ (.pointer (some ad)) a:=yl_nil hx
theorem ixQ (hx:a.eval x=vx:=by conv=>lhs;whnf) (hy:a.eval y=vy:=by conv=>lhs;whnf) (hr:∀ w,(Instr.indexAt ty vx vy).run P w = .ok v w:=by ((intro wq;go_simp);first|done|(with_reducible rfl))):Yields P ops ⟨dst,.indexAddr ty x y,t,pos,after,none⟩ v a:=yl_index hx hy hr
theorem asQ (hx:a.eval x=v:=by conv=>lhs;whnf):Yields P ops ⟨dst,.assign x,t,pos,after,none⟩ v a:=yl_assign hx
theorem bnQ (hx:a.eval x=vx:=by conv=>lhs;whnf) (hy:a.eval y=vy:=by conv=>lhs;whnf) (hr:∀ w,((do eqGuard bo ty x y vx vy;binOp bo ty vx vy):Sem Value).run P w = .ok v w:=by ((intro wq;go_simp);first|done|(with_reducible rfl))):Yields P ops ⟨dst,.binOp bo ty x y tz,t,pos,after,none⟩ v a:=yl_bin hx hy hr
end
section
variable {P:Program}{ops:Array Oper}{late:List Nat}{G:World→Prop}{n:Nat}{l:Array Bool}{a a':Act}{w:World}{oi:Oper}{v:Value}{Q:Exit→Act→World→Prop}
theorem rP (i:Nat) (h:wpL P ops Q late G n (l.setIfInBounds i true) a' w) (hi:ops.toList[i]?=some oi:=by conv=>lhs;whnf) (hc:(Region.noSelect ops && Region.free .any ops l i && (Region.ready .any ops l).contains i && shutB ops l)=true:=by kernel_rfl) (hQ:∀ c a w,Q (.panic c) (a.put oi.dst v) w→Q (.panic c) a w:=by intro _ _ _ h;exact h) (y:Yields P ops oi v a) (ha:a.put oi.dst v=a':=by go_frame;first|done|rfl):wpL P ops Q late G (n+1) l a w:=rg_pure i hi hc hQ y ha h
end
section
variable {P:Program}{w0 w:World}{L L' R:List HProp}{b:Nat}{ops:Array Oper}{rest:List Oper}{a:Act}{Q:Exit→Act→World→Prop}{dst:Option Tmp}{t ty T:TypeId}{pos:String}{after:Array Edge}{x y:Operand}{cs:Array Value}{v:Value}{o:Nat}
theorem ldQ (h:wpList P ops Q rest (a.put dst v) w) (hs:Sat w0 w L:=by assumption) (hx:a.eval x = .pointer (some ⟨b,o,none⟩):=by rfl) (p:Pick (pt b (.cells cs T (0,0))) L R:=by exact pkD) (hlt:o+1≤cs.size:=by exact bQ) (hv:cs.getD o undef=v:=by exact evD) (h1:oneB P ty=true:=by kernel_rfl):wpList P ops Q (⟨dst,.load ty x,t,pos,after,none⟩::rest) a w:=wl_load1 hs hx p hlt hv h1 h
theorem stQ (hK:∀ w',Sat w0 w' L'→wpList P ops Q rest (a.put dst undef) w') (hs:Sat w0 w L:=by assumption) (hx:a.eval x = .pointer (some ⟨b,o,none⟩):=by rfl) (hy:a.eval y=v:=by exact evD){cs':Array Value} (hcs:putsAt cs o v.cells.toList=cs':=by first|(simp only [putsAt,Value.cells];(try go_frame);first|done|rfl)|rfl) (u:Upd (pt b (.cells cs T (0,0))) (pt b (.cells cs' T (0,0))) L L':=by exact upD) (hfit:o+v.cells.size≤cs.size:=by exact bQ) (hi:(P.info? ty).map (·.size)=some v.cells.size:=by kernel_rfl) (h1:v.cells.toList.all (·.oneCell')=true:=by rfl):wpList P ops Q (⟨dst,.store ty x y,t,pos,after,none⟩::rest) a w:=wl_store hs hx hy hcs u hfit hi h1 hK
end
section
variable {P:Program}{w0 w:World}{L L' R F:List HProp}{b:Nat}{ops:Array Oper}{rest:List Oper}{a:Act}{Q:Exit→Act→World→Prop}
variable {dst:Option Tmp}{t ty T e:TypeId}{pos:String}{after:Array Edge}{x y s:Operand}{cs:Array Value}{v:Value}{o n c sz by':Nat}{xs ys:List Value}{K:Act→World→Prop}{E:Prop}
theorem eff_of {op:Oper} (hg:op.guard=none) (h:Oper.wp P op a w K Q):if Region.wanted op (yielded ops a.tmps)=true then Oper.wp P op a w K Q else E:=by
 rw [if_pos (want_none _ hg)];exact h
def placesB (P:Program) (t:TypeId):Option (List (Nat×Nat)):=match P.underlying t with
 |some (.struct fields)=>fields.toList.mapM fun f=>(P.info? f.type).map fun i=>(f.offset,i.size)
 |_=>none
theorem run_places (fields:List Field):∀ (pl:List (Nat×Nat)),(fields.mapM fun f=>(P.info? f.type).map fun i=>(f.offset,i.size))=some pl →
  ((fields.mapM fun f=>do pure (f.offset,← sizeOf f.type)):Sem (List (Nat×Nat))).run P w = .ok pl w:=by
 induction fields with
 |nil=>intro pl h;cases h;rfl
 |cons f fields ih=>
  intro pl h
  rw [List.mapM_cons]at h ⊢
  cases hi:P.info? f.type with
  |none=>simp [hi]at h
  |some i=>
   rw [hi]at h
   simp only [Option.map_some,Option.bind_eq_bind,Option.bind_some,Option.bind_eq_some_iff,Option.pure_def,Option.some.injEq]at h
   obtain ⟨pl',h1,rfl⟩:=h
   have hs:(sizeOf f.type).run P w = .ok i.size w:=by simp [sizeOf,typeInfo,hi]
   simp only [Sem.run_bind,hs,Result.andThen_ok,Sem.run_pure,ih pl' h1]
def putParts (pl:List (Nat×Nat)):Array Value→List (Nat×Value)→Array Value
 |cs,[]=>cs
 |cs,(i,v)::r=>putParts pl (putsAt cs (pl.getD i (0,0)).1 v.cells.toList) r
theorem foldl_puts:∀ (vs:List Value) (k:Nat) (off:Nat) (cs:Array Value),(vs.zipIdx k).foldl (fun cs (x:Value×Nat)=>cs.setIfInBounds (off+x.2) x.1) cs=putsAt cs (off+k) vs
 |[],_,_,_=>rfl
 |v::vs,k,off,cs=>by
  rw [List.zipIdx_cons,List.foldl_cons,foldl_puts vs (k+1) off];rfl
theorem fill_parts (pl:List (Nat×Nat)):∀ (parts:List (Nat×Value)) (cs:Array Value),(∀ p∈parts,∃ off,pl[p.1]?=some (off,p.2.cells.size)∧off+p.2.cells.size≤cs.size) →
  Instr.fill (pl.toArray[·]?) cs parts=some (putParts pl cs parts)
 |[],_,_=>rfl
 |(i,v)::r,cs,h=>by
  obtain ⟨off,h1,h2⟩:=h _ (.head _)
  unfold Instr.fill
  have hp:pl.toArray[i]?=some (off,v.cells.size):=by simpa using h1
  simp only [hp]
  have hc:¬ ((v.cells.size≠v.cells.size || off+v.cells.size>cs.size)=true):=by simp;omega
  rw [if_neg hc]
  have hf:v.cells.zipIdx.foldl (fun cs (c,j)=>cs.setIfInBounds (off+j) c) cs=putsAt cs off v.cells.toList:=by
   rw [← Array.foldl_toList,Array.toList_zipIdx]
   exact foldl_puts _ 0 off cs
  rw [hf,fill_parts pl r _ (fun p hp=>by
   obtain ⟨o,q1,q2⟩:=h p (.tail _ hp)
   exact ⟨o,q1,by rw [putsAt_size];exact q2⟩)]
  have hg:(pl.getD i (0,0)).1=off:=by rw [List.getD_eq_getElem?_getD,h1];rfl
  simp only [putParts,hg]
theorem run_build {z:Value}{pl:List (Nat×Nat)} (parts:List (Nat×Value)) (hp:placesB P t=some pl) (hz:zeroB P t=some z)
  (hfit:∀ p∈parts,∃ off,pl[p.1]?=some (off,p.2.cells.size)∧off+p.2.cells.size≤z.cells.size) (w:World) :
  (Instr.build t parts.toArray).run P w = .ok (.agg (putParts pl z.cells parts)) w:=by
 unfold placesB at hp
 split at hp
 ·rename_i fields hu
  have hm:((fields.mapM fun f=>do pure (f.offset,← sizeOf f.type)):Sem (Array (Nat×Nat))).run P w = .ok pl.toArray w:=by
   rw [Array.mapM_eq_mapM_toList]
   rw [map_eq_pure_bind,Sem.run_bind,run_places fields.toList pl hp]
   rfl
  unfold Instr.build
  simp only [Sem.run_bind,run_zeroB hz w,Result.andThen_ok,run_underlying hu,hm,fill_parts pl parts z.cells hfit,Sem.run_pure]
 ·cases hp
theorem yl_build3 {i1 i2 i3:Nat}{x1 x2 x3:Operand}{v1 v2 v3:Value} (h1:a.eval x1=v1) (h2:a.eval x2=v2) (h3:a.eval x3=v3) (hr:∀ w,(Instr.build ty #[(i1,v1),(i2,v2),(i3,v3)]).run P w = .ok v w) :
  Yields P ops ⟨dst,.build ty #[(i1,x1),(i2,x2),(i3,x3)],t,pos,after,none⟩ v a:=
 .inl ⟨want_none _ rfl,fun w=>by
  simp only [execOp,List.map_toArray,List.map_cons,List.map_nil,h1,h2,h3,Sem.run_bind,hr,Result.andThen_ok,Sem.run_pure]⟩
theorem tk_loadN {G:World→Prop}{o:Nat} (ks:List Value) (hx:a.eval x = .pointer (some ⟨b,o,none⟩)){d:TypeDesc} (hu:P.underlying ty=some d) (hd:d.isRow=true) (hi:(P.info? ty).map (·.size)=some ks.length) (hG:∀ w,G w→w.rangeAt b o ks) :
  YieldsIf P ops G ⟨dst,.load ty x,t,pos,after,none⟩ (.agg ks.toArray) a:=
 yieldsIf_load_mid (want_none _ rfl) ty x rfl b o hx ks d hG hu hd hi
end
section
variable {w0 w:World}{F:List HProp}{v lv dv:Value}{sz:Nat}
theorem rdsl_cells {a:Option Addr}{n c:Nat}{xs:List Value} (h:rdsl sz (.slice a n c) xs w){i:Nat}{x:Value} (hi:xs[i]?=some x) :
  ∃ bk off,a=some ⟨bk,off,none⟩∧∀ j y,xs[j]?=some y→w.cell? ⟨bk,off+j,none⟩=some y:=by
 obtain ⟨a',n',c',he,hl,hx⟩:=h
 cases he
 obtain ⟨b,rfl,hc⟩:=hx i x hi
 have hlt:i<xs.length:=(List.getElem?_eq_some_iff.1 hi).1
 obtain ⟨y,hy⟩:∃ y,xs[0]?=some y:=⟨xs[0]'oQ,List.getElem?_eq_getElem _⟩
 obtain ⟨b',hb',hc0⟩:=hx 0 y hy
 cases hb'
 obtain ⟨bk,off,spot⟩:=b
 have hs:spot=none:=by simpa [Addr.add] using World.cell?_spot hc0
 subst hs
 refine ⟨bk,off,rfl,fun j y hj=>?_⟩
 obtain ⟨b'',hb'',hcj⟩:=hx j y hj
 cases hb''
 rw [Addr.add_mid]at hcj
 exact hcj
def entsL (es:List (Frm.Ent×Value)):List Value:=es.flatMap fun p=>entL p.1 p.2
theorem entL_len (x:Frm.Ent) (dv:Value) (hk:x.key.length=32):(entL x dv).length=34:=by simp [entL,bys,hk]
theorem entL_key (x:Frm.Ent) (dv:Value){j:Nat}{y:Value} (h:(bys x.key)[j]?=some y):(entL x dv)[1+j]?=some y:=by
 unfold entL
 rw [Nat.add_comm,List.getElem?_cons_succ,List.getElem?_append_left (List.getElem?_eq_some_iff.1 h).1];exact h
theorem entL_at33 (x:Frm.Ent) (dv:Value) (hk:x.key.length=32):(entL x dv)[33]?=some dv:=by
 unfold entL
 rw [List.getElem?_cons_succ,List.getElem?_append_right (by rw [bys_len];omega),bys_len,hk];rfl
theorem plEnt:placesB Tryz.prog 101=some [(0,1),(1,32),(33,1)]:=by kernel_rfl
def zeroEntV:Value:= .agg (entA Frm.zeroE (.slice none 0 0))
theorem zEnt:zeroB Tryz.prog 101=some zeroEntV:=by kernel_rfl
theorem puts3 (cs:Array Value) (hs:cs.size=34) (u dv:Value) (kl:List Value) (hk:kl.length=32):(putsAt (putsAt (putsAt cs 0 [u]) 1 kl) 33 [dv]).toList=u::(kl++[dv]):=by
 have hcl:cs.toList.length=34:=by simpa using hs
 rw [putsAt_list _ _ _ (by rw [putsAt_size,putsAt_size];simp;omega),putsAt_list _ _ _ (by rw [putsAt_size];omega),putsAt_list _ _ _ (by simp;omega)]
 simp only [List.take_zero,List.nil_append,List.length_singleton,Nat.zero_add]
 rw [List.singleton_append,List.take_succ_cons,List.take_zero,hk,show 1+32=32+1 by omega,List.drop_succ_cons,List.drop_drop]
 have h1:([u]++kl++cs.toList.drop (1+32)).length=34:=by simp [hk,hcl]
 rw [List.take_append_of_le_length (by simp [hk]),List.take_of_length_le (by simp [hk]),List.drop_of_length_le oQ]
 simp
theorem putsAt_eq {cs ds:Array Value} (h:cs.toList=ds.toList):cs=ds:=Array.toList_inj.1 h
set_option maxRecDepth 20000 in
theorem run_buildEnt (e:Frm.Ent) (hk:e.key.length=32) (da:Option Addr) (dn dc:Nat) (w:World) :
  (Instr.build 101 #[(0,.int .i64 e.tag),(1,.agg (bys e.key).toArray),(2,.slice da dn dc)]).run Tryz.prog w = .ok (.agg (entA e (.slice da dn dc))) w:=by
 have hz:(entA Frm.zeroE (.slice none 0 0)).size=34:=entA_size _ _ rfl
 have hks:(bys e.key).toArray.size=32:=by simp [bys,hk]
 have h:=run_build (P:=Tryz.prog) [(0,.int .i64 e.tag),(1,.agg (bys e.key).toArray),(2,.slice da dn dc)] plEnt zEnt (by
  intro p hp
  simp only [List.mem_cons,List.not_mem_nil,or_false]at hp
  have hzz:zeroEntV.cells.size=34:=hz
  rw [hzz]
  rcases hp with rfl|rfl|rfl
  ·exact ⟨0,rfl,by show 0+1≤34;omega⟩
  ·refine ⟨1,?_,?_⟩
   ·show some (1,32)=some (1,(bys e.key).toArray.size);rw [hks]
   ·show 1+(bys e.key).toArray.size≤34;rw [hks];omega
  ·exact ⟨33,rfl,by show 33+1≤34;omega⟩) w
 refine h.trans ?_
 congr 2
 apply putsAt_eq
 exact puts3 _ hz _ _ _ (show (bys e.key).toArray.toList.length=32 by rw [List.toList_toArray,bys_len,hk])
theorem puts_whole (cs:Array Value) (vs:List Value) (h:vs.length=cs.size):putsAt cs 0 vs=vs.toArray:=by
 apply putsAt_eq
 rw [putsAt_list _ _ _ oQ,List.take_zero,List.nil_append,List.drop_of_length_le (by simp;omega),List.append_nil,List.toList_toArray]
end
section
variable {w0 w:World}{L L' R:List HProp}{b:Nat}{ops:Array Oper}{rest:List Oper}{a:Act}{Q:Exit→Act→World→Prop}
variable {dst:Option Tmp}{t T:TypeId}{pos:String}{after:Array Edge}{x y:Operand}{cs:Array Value}{v:Value}{e:Frm.Ent}{da:Option Addr}{dn dc:Nat}
theorem entA_ones (e:Frm.Ent) (a:Option Addr) (n c:Nat):(entA e (.slice a n c)).all (·.oneCell')=true:=by
 rw [← Array.all_toList]
 unfold entA entL
 rw [List.toList_toArray,List.all_cons,List.all_append]
 have:(bys e.key).all (·.oneCell')=true:=List.all_eq_true.2 (bys_one _)
 rw [this];rfl
theorem infoEntSize:(Tryz.prog.info? 101).map (·.size)=some 34:=by kernel_rfl
theorem wl_storeE (hs:Sat w0 w L) (hx:a.eval x = .pointer (some ⟨b,0,none⟩)) (hy:a.eval y = .agg (entA e (.slice da dn dc))) (hk:e.key.length=32) (u:Upd (pt b (.cells cs T (0,0))) (pt b (.cells (entA e (.slice da dn dc)) T (0,0))) L L') (hcs:cs.size=34)
  (hK:∀ w',Sat w0 w' L'→wpList Tryz.prog ops Q rest (a.put dst undef) w'):wpList Tryz.prog ops Q (⟨dst,.store 101 x y,t,pos,after,none⟩::rest) a w:=by
 obtain ⟨R',h2,h3⟩:=u
 have hz:=entA_size e (.slice da dn dc) hk
 refine wpList_store_sat (w0:=w0) rfl 101 x y rfl 0 (.agg (entA e (.slice da dn dc))) hx hy (show 0+(entA e (.slice da dn dc)).size≤cs.size by omega) (show _=some (entA e (.slice da dn dc)).size by rw [hz];exact infoEntSize) (entA_ones _ _ _ _) (hs.perm h2) fun w' hS=>hK w' ?_
 have he:putsAt cs 0 (Value.agg (entA e (.slice da dn dc))).cells.toList=entA e (.slice da dn dc):=by
  show putsAt cs 0 (entA e (.slice da dn dc)).toList=_
  rw [puts_whole _ _ (by simp;omega)]
 rw [he]at hS
 exact hS.perm h3.symm
theorem wl_loadE (hs:Sat w0 w L) (hx:a.eval x = .pointer (some ⟨b,0,none⟩)) (p:Pick (pt b (.cells (entA e (.slice da dn dc)) T (0,0))) L R) (hk:e.key.length=32)
  (h:wpList Tryz.prog ops Q rest (a.put dst (.agg (entA e (.slice da dn dc)))) w):wpList Tryz.prog ops Q (⟨dst,.load 101 x,t,pos,after,none⟩::rest) a w:=
 wl_loadA hs hx p Tryz.underlying101 rfl (by rw [entA_size e _ hk];exact infoEntSize) h
theorem at_storeE (h:Stop (wpList Tryz.prog ops Q (⟨dst,.store 101 x y,t,pos,after,none⟩::rest) a w)):wpList Tryz.prog ops Q (⟨dst,.store 101 x y,t,pos,after,none⟩::rest) a w:=h.out
theorem at_loadE (h:Stop (wpList Tryz.prog ops Q (⟨dst,.load 101 x,t,pos,after,none⟩::rest) a w)):wpList Tryz.prog ops Q (⟨dst,.load 101 x,t,pos,after,none⟩::rest) a w:=h.out
theorem run_zeroEnt (w:World):(Instr.build 101 #[]).run Tryz.prog w = .ok zeroEntV w:=run_build (P:=Tryz.prog) [] plEnt zEnt (by simp) w
theorem wl_allocE (hs:Sat w0 w L) (hK:∀ b w',Sat w0 w' (pt b (.cells (entA Frm.zeroE (.slice none 0 0)) 101 (0,0))::L)→wpList Tryz.prog ops Q rest (a.put dst (.pointer (some ⟨b,0,none⟩))) w') :
  wpList Tryz.prog ops Q (⟨dst,.alloc 101,t,pos,after,none⟩::rest) a w:=wl_alloc zEnt hs rfl hK
theorem at_allocE (h:Stop (wpList Tryz.prog ops Q (⟨dst,.alloc 101,t,pos,after,none⟩::rest) a w)):wpList Tryz.prog ops Q (⟨dst,.alloc 101,t,pos,after,none⟩::rest) a w:=h.out
theorem res_entE {fn:Func}{p u:Tmp}{tmps:Array Value} (hf:fn.results=#[.cell p 101,.tmp u]) (hs:Sat w0 w L) (hp:tmps.getD p undef = .pointer (some ⟨b,0,none⟩)) (k:Pick (pt b (.cells (entA e (.slice da dn dc)) T (0,0))) L R) (hk:e.key.length=32) :
  (results fn tmps).run Tryz.prog w = .ok (.tuple #[.agg (entA e (.slice da dn dc)),tmps.getD u undef]) w:=
 res_cell_tmp hf hs hp k Tryz.underlying101 rfl (by rw [entA_size e _ hk];exact infoEntSize)
end
section
variable {P:Program}{w0 w:World}{L:List HProp}{ops:Array Oper}{rest:List Oper}{a:Act}{Q:Exit→Act→World→Prop}{dst:Option Tmp}{t ty e:TypeId}{pos:String}{after:Array Edge}{x y:Operand}{g:Nat×Bool}{op:Op}{sz by' n:Nat}{v:Value}{zs:List Value}
theorem ug_op (hw:Region.wanted ⟨dst,op,t,pos,after,some g⟩ (yielded ops a.tmps)=true) (h:wpList P ops Q (⟨dst,op,t,pos,after,none⟩::rest) a w):wpList P ops Q (⟨dst,op,t,pos,after,some g⟩::rest) a w:=by
 unfold wpList at h ⊢
 rw [if_pos hw]
 rw [if_pos (want_none _ rfl)]at h
 exact h
theorem ug_build {xs:Array (Nat×Operand)} (h:Stop (wpList P ops Q (⟨dst,.build ty xs,t,pos,after,some g⟩::rest) a w)):wpList P ops Q (⟨dst,.build ty xs,t,pos,after,some g⟩::rest) a w:=h.out
theorem ug_load (h:Stop (wpList P ops Q (⟨dst,.load ty x,t,pos,after,some g⟩::rest) a w)):wpList P ops Q (⟨dst,.load ty x,t,pos,after,some g⟩::rest) a w:=h.out
theorem ug_at_build {xs:Array (Nat×Operand)} (h:Stop (wpList P ops Q (⟨dst,.build ty xs,t,pos,after,none⟩::rest) a w)):wpList P ops Q (⟨dst,.build ty xs,t,pos,after,none⟩::rest) a w:=h.out
theorem wl_bld {xs:Array (Nat×Operand)}{ps:Array (Nat×Value)} (h1:xs.map (fun p=>(p.1,a.eval p.2))=ps) (hr:∀ w,(Instr.build ty ps).run P w = .ok v w) (h:wpList P ops Q rest (a.put dst v) w) :
  wpList P ops Q (⟨dst,.build ty xs,t,pos,after,none⟩::rest) a w:=
 wpList_plain rfl fun _ hK=>by
  unfold Oper.wp execOp
  simp only [h1,Sem.run_bind,hr,Result.andThen_ok,Sem.run_pure]
  exact hK _ _ h
end
end Go.Proofs.YtjbhhbnopnmcnaaGreatDoor
namespace Go.Tab
open Go.Frm (Bs num)
structure Slot (V:Type) where
 st:Nat
 key:Bs
 val:V
def home (k:Bs) (c:Nat):Nat:=num (k.take 4)%c
def pos (k:Bs) (c d:Nat):Nat:=(home k c+d)%c
section
variable {V:Type}{s s':List (Slot V)}{x y:Slot V}{k l:Bs}{v u:V}{d e i j c:Nat}
def Slot.stop (x:Slot V) (k:Bs):Prop:=x.st=0∨(x.st=1∧x.key=k)
instance (x:Slot V) (k:Bs):Decidable (x.stop k):=by unfold Slot.stop;infer_instance
def stopAt (s:List (Slot V)) (k:Bs) (i:Nat):Prop:=∃ x,s[i]?=some x∧x.stop k
structure Ends (s:List (Slot V)) (k:Bs) (d:Nat):Prop where
 lt:d<s.length
 here:stopAt s k (pos k s.length d)
 no:∀ e,e<d→¬ stopAt s k (pos k s.length e)
structure Good (s:List (Slot V)):Prop where
 pow:∃ j,s.length=2^j∧3≤j
 st:∀ x∈s,x.st≤2
 key:∀ x∈s,x.key.length=32
 reach:∀ i x,s[i]?=some x→x.st=1→∃ d,d<s.length∧pos x.key s.length d=i∧∀ e,e<d→¬ stopAt s x.key (pos x.key s.length e)
def Has (s:List (Slot V)) (k:Bs) (v:V):Prop:=∃ (i:Nat) (x:Slot V),s[i]?=some x∧x.st=1∧x.key=k∧x.val=v
theorem Good.pos_len (h:Good s):0<s.length:=by
 obtain ⟨j,h1,_⟩:=h.pow
 rw [h1];exact Nat.two_pow_pos j
theorem pos_lt (h:0<c):pos k c d<c:=Nat.mod_lt _ h
theorem home_lt (h:0<c):home k c<c:=Nat.mod_lt _ h
theorem pos_next (h:0<c):(pos k c d+1)%c=pos k c (d+1):=by
 unfold pos
 rw [Nat.mod_add_mod,Nat.add_assoc]
theorem pos_zero (h:0<c):pos k c 0=home k c:=by
 unfold pos
 rw [Nat.add_zero];exact Nat.mod_eq_of_lt (home_lt h)
theorem pos_all (h:i<c):∃ d,d<c∧pos k c d=i:=by
 have hc:0<c:=by omega
 have hh:home k c<c:=home_lt hc
 by_cases hi:home k c≤i
 ·refine ⟨i - home k c,by omega,?_⟩
  unfold pos
  rw [show home k c+(i - home k c)=i by omega]
  exact Nat.mod_eq_of_lt h
 ·refine ⟨i+c - home k c,by omega,?_⟩
  unfold pos
  rw [show home k c+(i+c - home k c)=i+c by omega,Nat.add_mod_right]
  exact Nat.mod_eq_of_lt h
theorem pos_inj (hd:d<c) (he:e<c) (h:pos k c d=pos k c e):d=e:=by
 have hc:0<c:=by omega
 have hh:home k c<c:=home_lt hc
 unfold pos at h
 have f:∀ d,d<c→(home k c+d)%c=if home k c+d<c then home k c+d else home k c+d - c:=fun d hd=>by
  split
  ·exact Nat.mod_eq_of_lt ‹_›
  ·rw [Nat.mod_eq_sub_mod oQ];exact Nat.mod_eq_of_lt oQ
 rw [f d hd,f e he]at h
 split at h <;> split at h <;> omega
theorem least {p:Nat→Prop}:∀ (n:Nat),(∃ d,d<n∧p d)→∃ d,d<n∧p d∧∀ e,e<d→¬ p e
 |0,h=>by obtain ⟨d,hd,_⟩:=h;omega
 |n+1,h=>by
  by_cases h1:∃ d,d<n∧p d
  ·obtain ⟨d,h2,h3,h4⟩:=least n h1
   exact ⟨d,by omega,h3,h4⟩
  ·obtain ⟨d,h2,h3⟩:=h
   refine ⟨d,h2,h3,fun e he h5=>h1 ⟨e,by omega,h5⟩⟩
theorem ends_of (h:Good s) (hf:∃ x∈s,x.st=0):∃ d,Ends s k d:=by
 obtain ⟨x,hx,h0⟩:=hf
 obtain ⟨i,hi,he⟩:=List.getElem_of_mem hx
 obtain ⟨d,h1,h2⟩:=pos_all (k:=k) hi
 obtain ⟨d',a,b,c⟩:=least (p:=fun d=>stopAt s k (pos k s.length d)) s.length ⟨d,h1,by rw [h2];exact ⟨x,by rw [List.getElem?_eq_getElem hi,he],.inl h0⟩⟩
 exact ⟨d',a,b,c⟩
theorem Ends.unique (h:Ends s k d) (h':Ends s k e):d=e:=by
 rcases Nat.lt_trichotomy d e with q|q|q
 ·exact absurd h.here (h'.no d q)
 ·exact q
 ·exact absurd h'.here (h.no e q)
theorem Good.ends (h:Good s) (hi:s[i]?=some x) (hf:x.st=1):∃ d,Ends s x.key d∧pos x.key s.length d=i:=by
 obtain ⟨d,h1,h2,h3⟩:=h.reach i x hi hf
 exact ⟨d,⟨h1,⟨x,by rw [h2];exact hi,.inr ⟨hf,rfl⟩⟩,h3⟩,h2⟩
theorem Ends.slot (h:Ends s k d):∃ x,s[pos k s.length d]?=some x∧x.stop k:=h.here
theorem ends_full (he:Ends s k d) (hx:s[pos k s.length d]?=some x) (hf:x.st=1):x.key=k∧Has s k x.val:=by
 obtain ⟨y,hy,hs⟩:=he.here
 rw [hx]at hy;cases hy
 rcases hs with h|⟨_,h⟩
 ·omega
 ·exact ⟨h,_,x,hx,hf,h,rfl⟩
theorem ends_empty (g:Good s) (he:Ends s k d) (hx:s[pos k s.length d]?=some x) (hf:x.st≠1):x.st=0∧∀ v,¬ Has s k v:=by
 obtain ⟨y,hy,hs⟩:=he.here
 rw [hx]at hy;cases hy
 refine ⟨?_,fun v hv=>?_⟩
 ·rcases hs with h|⟨h,_⟩
  ·exact h
  ·exact absurd h hf
 ·obtain ⟨i,z,hz,h1,rfl,_⟩:=hv
  obtain ⟨d',h2,h3⟩:=g.ends hz h1
  obtain rfl:=he.unique h2
  rw [h3,hz]at hx;cases hx
  exact hf h1
theorem Good.one (g:Good s) (hx:s[i]?=some x) (hy:s[j]?=some y) (h1:x.st=1) (h2:y.st=1) (hk:x.key=y.key):i=j:=by
 obtain ⟨d,a,b⟩:=g.ends hx h1
 obtain ⟨e,a',b'⟩:=g.ends hy h2
 rw [← hk]at a' b'
 obtain rfl:=a.unique a'
 rw [← b,← b']
theorem set_at (hi:i<s.length):(s.set i x)[i]?=some x:=by rw [List.getElem?_set_self hi]
theorem set_ne (h:i≠j):(s.set i x)[j]?=s[j]?:=List.getElem?_set_ne h
theorem put_found (g:Good s) (he:Ends s k d) (hx:s[pos k s.length d]?=some x) (hf:x.st=1) (v:V) :
  Good (s.set (pos k s.length d) ⟨x.st,x.key,v⟩)∧∀ k' v',Has (s.set (pos k s.length d) ⟨x.st,x.key,v⟩) k' v'↔if k'=k then v'=v else Has s k' v':=by
 obtain ⟨hk,_⟩:=ends_full he hx hf
 have hlt:pos k s.length d<s.length:=pos_lt g.pos_len
 generalize hp:pos k s.length d=p at *
 have hst:∀ q l,stopAt (s.set p ⟨x.st,x.key,v⟩) l q↔stopAt s l q:=fun q l=>by
  unfold stopAt
  by_cases h:p=q
  ·subst h
   rw [set_at hlt,hx]
   constructor
   ·rintro ⟨y,hy,hs⟩;cases hy;exact ⟨x,rfl,hs⟩
   ·rintro ⟨y,hy,hs⟩;cases hy;exact ⟨_,rfl,hs⟩
  ·rw [set_ne h]
 have hmem:x∈s:=List.mem_of_getElem? hx
 refine ⟨⟨by rw [List.length_set];exact g.pow,fun y hy=>?_,fun y hy=>?_,fun q y hq hy=>?_⟩,fun k' v'=>?_⟩
 ·rcases List.mem_or_eq_of_mem_set hy with h|rfl
  ·exact g.st y h
  ·exact g.st x hmem
 ·rcases List.mem_or_eq_of_mem_set hy with h|rfl
  ·exact g.key y h
  ·exact g.key x hmem
 ·rw [List.length_set]
  by_cases h:p=q
  ·subst h
   rw [set_at hlt]at hq;cases hq
   obtain ⟨d',a,b,c⟩:=g.reach p x hx hf
   exact ⟨d',a,b,fun e h hh=>c e h ((hst _ _).1 hh)⟩
  ·rw [set_ne h]at hq
   obtain ⟨d',a,b,c⟩:=g.reach q y hq hy
   exact ⟨d',a,b,fun e h hh=>c e h ((hst _ _).1 hh)⟩
 ·constructor
  ·rintro ⟨q,y,hq,h1,h2,h3⟩
   by_cases h:p=q
   ·subst h
    rw [set_at hlt]at hq;cases hq
    rw [if_pos (h2.symm.trans hk)];exact h3.symm
   ·rw [set_ne h]at hq
    rw [if_neg fun hkk:k'=k=>h (g.one hx hq hf h1 (hk.trans (hkk.symm.trans h2.symm)))]
    exact ⟨q,y,hq,h1,h2,h3⟩
  ·intro h
   split at h
   ·rename_i hkk
    exact ⟨p,_,set_at hlt,hf,hk.trans hkk.symm,h.symm⟩
   ·rename_i hkk
    obtain ⟨q,y,hq,h1,h2,h3⟩:=h
    have:p≠q:=fun h=>by subst h;rw [hx]at hq;cases hq;exact hkk (h2.symm.trans hk)
    exact ⟨q,y,by rw [set_ne this];exact hq,h1,h2,h3⟩
theorem put_new (g:Good s) (he:Ends s k d) (hx:s[pos k s.length d]?=some x) (hf:x.st≠1) (hk:k.length=32) (v:V) :
  Good (s.set (pos k s.length d) ⟨1,k,v⟩)∧∀ k' v',Has (s.set (pos k s.length d) ⟨1,k,v⟩) k' v'↔if k'=k then v'=v else Has s k' v':=by
 obtain ⟨h0,hno⟩:=ends_empty g he hx hf
 have hlt:pos k s.length d<s.length:=pos_lt g.pos_len
 have hst:∀ q l,q≠pos k s.length d→(stopAt (s.set (pos k s.length d) ⟨1,k,v⟩) l q↔stopAt s l q):=fun q l h=>by
  unfold stopAt
  rw [set_ne (Ne.symm h)]
 have hp0:∀ l,stopAt s l (pos k s.length d):=fun l=>⟨x,hx,.inl h0⟩
 refine ⟨⟨by rw [List.length_set];exact g.pow,fun y hy=>?_,fun y hy=>?_,fun q y hq hy=>?_⟩,fun k' v'=>?_⟩
 ·rcases List.mem_or_eq_of_mem_set hy with h|rfl
  ·exact g.st y h
  ·exact (by decide:1≤2)
 ·rcases List.mem_or_eq_of_mem_set hy with h|rfl
  ·exact g.key y h
  ·exact hk
 ·rw [List.length_set]
  by_cases h:pos k s.length d=q
  ·subst h
   rw [set_at hlt]at hq;cases hq
   refine ⟨d,he.lt,rfl,fun e h=>?_⟩
   have hne:pos k s.length e≠pos k s.length d:=fun hh=>by have:=pos_inj (Nat.lt_trans h he.lt) he.lt hh;omega
   exact fun hh=>he.no e h ((hst _ _ hne).1 hh)
  ·rw [set_ne h]at hq
   obtain ⟨d',a,b,c⟩:=g.reach q y hq hy
   refine ⟨d',a,b,fun e h=>?_⟩
   have hne:pos y.key s.length e≠pos k s.length d:=fun hh=>c e h (by rw [hh];exact hp0 _)
   exact fun hh=>c e h ((hst _ _ hne).1 hh)
 ·constructor
  ·rintro ⟨q,y,hq,h1,h2,h3⟩
   by_cases h:pos k s.length d=q
   ·subst h
    rw [set_at hlt]at hq;cases hq
    rw [if_pos h2.symm];exact h3.symm
   ·rw [set_ne h]at hq
    rw [if_neg fun hkk:k'=k=>hno v' ⟨q,y,hq,h1,h2.trans hkk,h3⟩]
    exact ⟨q,y,hq,h1,h2,h3⟩
  ·intro h
   split at h
   ·rename_i hkk
    exact ⟨_,_,set_at hlt,rfl,hkk.symm,h.symm⟩
   ·obtain ⟨q,y,hq,h1,h2,h3⟩:=h
    have:pos k s.length d≠q:=fun h=>by subst h;rw [hx]at hq;cases hq;exact hf h1
    exact ⟨q,y,by rw [set_ne this];exact hq,h1,h2,h3⟩
def fulls (s:List (Slot V)):Nat:=s.countP fun x=>x.st==1
def used (s:List (Slot V)):Nat:=s.countP fun x=>x.st != 0
theorem set_count (p:Slot V→Bool):∀ (s:List (Slot V)) (i:Nat) (x y:Slot V),s[i]?=some x→(s.set i y).countP p+(if p x=true then 1 else 0)=s.countP p+(if p y=true then 1 else 0)
 |[],_,_,_,h=>by simp at h
 |a::s,0,x,y,h=>by
  obtain rfl:a=x:=by simpa using h
  rw [List.set_cons_zero,List.countP_cons,List.countP_cons];omega
 |a::s,i+1,x,y,h=>by
  rw [List.set_cons_succ,List.countP_cons,List.countP_cons]
  have:=set_count p s i x y (by simpa using h)
  omega
theorem free_of (h:used s<s.length):∃ x∈s,x.st=0:=by
 apply Classical.byContradiction
 intro hn
 have:used s=s.length:=by
  unfold used
  rw [List.countP_eq_length]
  intro x hx
  have:x.st≠0:=fun h0=>hn ⟨x,hx,h0⟩
  simpa using this
 omega
structure Tb (V:Type) where
 slots:List (Slot V)
 n:Nat
 gone:Nat
structure Tb.Ok (t:Tb V):Prop where
 good:Good t.slots
 n:t.n=fulls t.slots
 gone:t.n+t.gone=used t.slots
 load:4 * (t.n+t.gone)≤3 * t.slots.length
 size:t.slots.length≤8+4 * (t.n+t.gone)
theorem Tb.Ok.free {t:Tb V} (h:t.Ok):∃ x∈t.slots,x.st=0:=free_of (by have:=h.gone;have:=h.load;have:=h.good.pos_len;omega)
theorem Tb.Ok.ends {t:Tb V} (h:t.Ok) (k:Bs):∃ d,Ends t.slots k d:=ends_of h.good h.free
def Tb.Is (t:Tb V) (m:Bs→Option V):Prop:=∀ k v,Has t.slots k v↔m k=some v
def put (m:Bs→Option V) (k:Bs) (v:V):Bs→Option V:=fun l=>if l=k then some v else m l
theorem is_put {t:Tb V}{m:Bs→Option V} (hm:t.Is m) (h:∀ k' v',Has s' k' v'↔if k'=k then v'=v else Has t.slots k' v') (n g:Nat):(⟨s',n,g⟩:Tb V).Is (put m k v):=fun k' v'=>by
 rw [show (⟨s',n,g⟩:Tb V).slots=s' from rfl,h]
 unfold put
 split
 ·exact ⟨fun e=>by rw [e],fun e=>(Option.some.inj e).symm⟩
 ·exact hm k' v'
theorem put_old_ok {t:Tb V} (h:t.Ok) (he:Ends t.slots k d) (hx:t.slots[pos k t.slots.length d]?=some x) (hf:x.st=1) (v:V) :
  (⟨t.slots.set (pos k t.slots.length d) ⟨x.st,x.key,v⟩,t.n,t.gone⟩:Tb V).Ok:=by
 have h1:=set_count (fun x=>x.st==1) t.slots _ x ⟨x.st,x.key,v⟩ hx
 have h2:=set_count (fun x=>x.st != 0) t.slots _ x ⟨x.st,x.key,v⟩ hx
 refine ⟨(put_found h.good he hx hf v).1,?_,?_,by simp only [List.length_set];exact h.load,by simp only [List.length_set];exact h.size⟩
 ·have:=h.n;unfold fulls at *;simp only at *;omega
 ·have:=h.gone;unfold used at *;simp only at *;omega
theorem put_new_ok {t:Tb V} (h:t.Ok) (hl:4 * (t.n+t.gone+1)≤3 * t.slots.length) (he:Ends t.slots k d) (hx:t.slots[pos k t.slots.length d]?=some x) (hf:x.st≠1) (hk:k.length=32) (v:V) :
  (⟨t.slots.set (pos k t.slots.length d) ⟨1,k,v⟩,t.n+1,t.gone⟩:Tb V).Ok:=by
 have h0:=(ends_empty h.good he hx hf).1
 have h1:=set_count (fun x=>x.st==1) t.slots _ x ⟨1,k,v⟩ hx
 have h2:=set_count (fun x=>x.st != 0) t.slots _ x ⟨1,k,v⟩ hx
 refine ⟨(put_new h.good he hx hf hk v).1,?_,?_,?_,?_⟩
 ·have:=h.n;unfold fulls at *;simp [h0]at h1 ⊢;omega
 ·have:=h.gone;unfold used at *;simp [h0]at h2 ⊢;omega
 ·simp only [List.length_set];omega
 ·have:=h.size;simp only [List.length_set];omega
structure Half (old cur:List (Slot V)) (j:Nat):Prop where
 good:Good cur
 has:∀ k v,Has cur k v↔Has (old.take j) k v
 nf:fulls cur=fulls (old.take j)
 nu:used cur=fulls (old.take j)
theorem take_has (h:s[j]?=some x):Has (s.take (j+1)) k v↔Has (s.take j) k v∨(x.st=1∧x.key=k∧x.val=v):=by
 have hj:j<s.length:=(List.getElem?_eq_some_iff.1 h).1
 have e:s.take (j+1)=s.take j++[x]:=by rw [List.take_add_one,h];rfl
 rw [e]
 unfold Has
 constructor
 ·rintro ⟨i,y,hy,a,b,c⟩
  by_cases hi:i<(s.take j).length
  ·rw [List.getElem?_append_left hi]at hy;exact .inl ⟨i,y,hy,a,b,c⟩
  ·rw [List.getElem?_append_right oQ]at hy
   cases hz:i - (s.take j).length with
   |zero=>rw [hz]at hy;cases hy;exact .inr ⟨a,b,c⟩
   |succ z=>rw [hz]at hy;simp at hy
 ·rintro (⟨i,y,hy,a,b,c⟩|⟨a,b,c⟩)
  ·exact ⟨i,y,by rw [List.getElem?_append_left (List.getElem?_eq_some_iff.1 hy).1];exact hy,a,b,c⟩
  ·exact ⟨(s.take j).length,x,by simp,a,b,c⟩
theorem take_fulls (h:s[j]?=some x):fulls (s.take (j+1))=fulls (s.take j)+(if x.st=1 then 1 else 0):=by
 unfold fulls
 rw [List.take_add_one,h,List.countP_append]
 simp [List.countP_cons]
theorem fulls_take_le (s:List (Slot V)) (j:Nat):fulls (s.take j)≤fulls s:=by
 unfold fulls
 exact (List.take_sublist j s).countP_le
theorem Half.skip {old cur:List (Slot V)} (h:Half old cur j) (hx:old[j]?=some x) (hf:x.st≠1):Half old cur (j+1):=
 ⟨h.good,fun k v=>by rw [take_has hx,h.has];exact ⟨.inl,fun q=>q.elim id fun q=>absurd q.1 hf⟩,by rw [take_fulls hx,if_neg hf];exact h.nf,by rw [take_fulls hx,if_neg hf];exact h.nu⟩
theorem Half.fresh {old cur:List (Slot V)} (go:Good old) (h:Half old cur j) (hx:old[j]?=some x) (hf:x.st=1) (u:V):¬ Has cur x.key u:=by
 rw [h.has]
 rintro ⟨i,y,hy,a,b,c⟩
 have hi:i<(old.take j).length:=(List.getElem?_eq_some_iff.1 hy).1
 have hij:i<j:=by rw [List.length_take]at hi;omega
 have hy':old[i]?=some y:=by rw [List.getElem?_take_of_lt hij]at hy;exact hy
 have:=go.one hy' hx a hf b
 omega
theorem Half.step {old cur:List (Slot V)} (go:Good old) (h:Half old cur j) (hx:old[j]?=some x) (hf:x.st=1) (he:Ends cur x.key d) :
  Half old (cur.set (pos x.key cur.length d) x) (j+1):=by
 obtain ⟨y,hy,hs⟩:=he.slot
 have hyf:y.st≠1:=fun h1=>h.fresh go hx hf y.val (ends_full he hy h1).2
 obtain ⟨h0,_⟩:=ends_empty h.good he hy hyf
 obtain ⟨st,key,val⟩:=x
 obtain rfl:st=1:=hf
 obtain ⟨g,hh⟩:=put_new h.good he hy hyf (go.key _ (List.mem_of_getElem? hx)) val
 have h1:=set_count (fun x=>x.st==1) cur _ y ⟨1,key,val⟩ hy
 have h2:=set_count (fun x=>x.st != 0) cur _ y ⟨1,key,val⟩ hy
 refine ⟨g,fun k v=>?_,?_,?_⟩
 ·rw [hh,take_has hx]
  split
  ·rename_i hk
   subst hk
   constructor
   ·intro e;exact .inr ⟨rfl,rfl,e.symm⟩
   ·rintro (q|⟨_,_,e⟩)
    ·exact absurd ((h.has _ _).2 q) (h.fresh go hx rfl v)
    ·exact e.symm
  ·rename_i hk
   rw [h.has]
   exact ⟨.inl,fun q=>q.elim id fun q=>absurd q.2.1.symm hk⟩
 ·rw [take_fulls hx,if_pos rfl,← h.nf]
  unfold fulls at *;simp [h0]at h1 ⊢;omega
 ·rw [take_fulls hx,if_pos rfl,← h.nu]
  unfold used at *;simp [h0]at h2 ⊢;omega
theorem Half.done {old cur:List (Slot V)} (h:Half old cur old.length):Good cur∧(∀ k v,Has cur k v↔Has old k v)∧fulls cur=fulls old∧used cur=fulls old:=by
 have h1:=h.has;have h2:=h.nf;have h3:=h.nu
 rw [List.take_length]at h1 h2 h3
 exact ⟨h.good,h1,h2,h3⟩
end
end Go.Tab
namespace Go.Frm
theorem num_snoc (l:Bs) (c:UInt8):num (l++[c])=num l+c.toNat * 256^l.length:=by
 induction l with
 |nil=>show c.toNat+256 * 0=0+c.toNat * 1;omega
 |cons d l ih=>
  show d.toNat+256 * num (l++[c])=d.toNat+256 * num l+c.toNat * 256^(l.length+1)
  rw [ih,Nat.pow_succ,Nat.mul_add,← Nat.mul_assoc,Nat.mul_comm 256 (c.toNat),Nat.mul_assoc,Nat.mul_comm 256 (256^l.length),← Nat.add_assoc]
end Go.Frm
namespace Go.Proofs.YtjbhhbnopnmcnaaGreatDoor
open Go Go.Sl Go.Med Go.MapKept Go.RowKit
section
variable {w0 w:World}{F R:List HProp}{v bv dv x lv:Value}
theorem or_num (l:Bs) (c:UInt8) (k:Nat) (hl:l.length=k) (hk:k<7):bits .or .u64 ((Frm.num l:Nat):Int) ((c.toNat:Int) * ((256^k:Nat):Int))=((Frm.num (l++[c]):Nat):Int):=by
 subst hl
 have h1:=Frm.num_lt l
 have h2:=c.toNat_lt
 have h3:256^l.length≤256^6:=Nat.pow_le_pow_right dCz oQ
 have h4:c.toNat * 256^l.length≤255 * 256^6:=Nat.mul_le_mul oQ h3
 have h5:(256:Nat)^6=281474976710656:=by decide
 have e:(c.toNat:Int) * ((256^l.length:Nat):Int)=((c.toNat * 256^l.length:Nat):Int):=by rw [Int.natCast_mul]
 rw [e,u64_or_nat _ _ oQ oQ,Frm.num_snoc]
 congr 1
 have hp:(256:Nat)^l.length=2^(8 * l.length):=by rw [Nat.pow_mul]
 rw [hp]at h1 ⊢
 have:=Nat.two_pow_add_eq_or_of_lt h1 c.toNat
 rw [Nat.or_comm,Nat.mul_comm c.toNat,← this,Nat.add_comm]
theorem rdsl_cut4 {k:Nat}{l:Bs}{a:Option Addr}{n c:Nat} (h:rdsl 1 (.slice a n c) (bys l) w):rdsl 1 (.slice a (min n k) c) (bys (l.take k)) w:=by
 obtain ⟨a',n',c',he,hl,hx⟩:=h
 cases he
 rw [bys_len,Nat.mul_one]at hl
 refine ⟨a,_,c,rfl,by rw [bys_len,List.length_take];omega,fun j y hj=>?_⟩
 have hj':(bys l)[j]?=some y:=by
  unfold bys at hj ⊢
  rw [List.map_take,List.getElem?_take]at hj
  split at hj
  ·exact hj
  ·cases hj
 exact hx j y hj'
set_option maxRecDepth 20000 in
theorem get4_c (c0 c1 c2 c3:UInt8) (a:Option Addr) (c:Nat) (h:rdsl 1 (.slice a 4 c) (bys [c0,c1,c2,c3]) w) :
  Calls Tryz.prog 162 #[.slice a 4 c] w (Rtn fun v w'=>v = .tuple #[.int .u64 (Frm.num [c0,c1,c2,c3]:Nat),.bool true]∧w=w'):=by
 obtain ⟨bk,off,rfl,hc⟩:=rdsl_cells h (i:=0) rfl
 have e0:w.cell? ⟨bk,off,none⟩=some (.int .u8 c0.toNat):=hc 0 _ rfl
 have e1:w.cell? ⟨bk,off+1,none⟩=some (.int .u8 c1.toNat):=hc 1 _ rfl
 have e2:w.cell? ⟨bk,off+2,none⟩=some (.int .u8 c2.toNat):=hc 2 _ rfl
 have e3:w.cell? ⟨bk,off+3,none⟩=some (.int .u8 c3.toNat):=hc 3 _ rfl
 have b0:=c0.toNat_lt;have b1:=c1.toNat_lt;have b2:=c2.toNat_lt;have b3:=c3.toNat_lt
 clear hc h
 go_enter Tryz.func162,Tryz.ntmps162
 go_wp2_with fail
 go_loopg [17,4] 4 (fun g iq xq wr=>∃ i:Nat,g=4 - i∧i≤4∧iq = .int .i64 i∧xq = .int .u64 (Frm.num ([c0,c1,c2,c3].take i):Nat)∧wr=w)
 case atStart=>exact ⟨0,rfl,by omega,rfl,rfl,rfl⟩
 case round=>
  obtain ⟨i,rfl,hi,rfl,rfl,rfl⟩:=hrel
  by_cases h4:i<4
  ·have h0:i=0∨i=1∨i=2∨i=3:=by omega
   clear hi h4
   rcases h0 with rfl|rfl|rfl|rfl
   ·have hq:bits .or .u64 ((Frm.num []:Nat):Int) (c0.toNat:Int)=((Frm.num [c0]:Nat):Int):=by
     have:=or_num [] c0 0 rfl dCz
     simpa using this
    go_wp2_with fail
    go_roundg (4 - 1)
    case measure=>decide
    case rel=>exact ⟨1,rfl,by decide,by first|rfl|go_num,rfl,rfl⟩
   ·have hq:bits .or .u64 ((Frm.num [c0]:Nat):Int) ((c1.toNat:Int) * 256)=((Frm.num [c0,c1]:Nat):Int):=or_num [c0] c1 1 rfl dCz
    go_wp2_with fail
    go_roundg (4 - 2)
    case measure=>decide
    case rel=>exact ⟨2,rfl,by decide,by first|rfl|go_num,rfl,rfl⟩
   ·have hq:bits .or .u64 ((Frm.num [c0,c1]:Nat):Int) ((c2.toNat:Int) * 65536)=((Frm.num [c0,c1,c2]:Nat):Int):=or_num [c0,c1] c2 2 rfl dCz
    go_wp2_with fail
    go_roundg (4 - 3)
    case measure=>decide
    case rel=>exact ⟨3,rfl,by decide,by first|rfl|go_num,rfl,rfl⟩
   ·have hq:bits .or .u64 ((Frm.num [c0,c1,c2]:Nat):Int) ((c3.toNat:Int) * 16777216)=((Frm.num [c0,c1,c2,c3]:Nat):Int):=or_num [c0,c1,c2] c3 3 rfl dCz
    go_wp2_with fail
    go_roundg (4 - 4)
    case measure=>decide
    case rel=>exact ⟨4,rfl,by decide,by first|rfl|go_num,rfl,rfl⟩
  ·obtain rfl:i=4:=by omega
   go_wp2
   go_ret2
   exact ⟨_,rfl,rfl,rfl⟩
theorem four {l:Bs} (h:l.length=4):∃ c0 c1 c2 c3,l=[c0,c1,c2,c3]:=by
 match l,h with
 |[c0,c1,c2,c3],_=>exact ⟨c0,c1,c2,c3,rfl⟩
theorem get4_l (l:Bs) (hl:l.length=4) (a:Option Addr) (c:Nat) (h:rdsl 1 (.slice a 4 c) (bys l) w) :
  Calls Tryz.prog 162 #[.slice a 4 c] w (Rtn fun v w'=>v = .tuple #[.int .u64 (Frm.num l:Nat),.bool true]∧w=w'):=by
 obtain ⟨c0,c1,c2,c3,rfl⟩:=four hl
 exact get4_c c0 c1 c2 c3 a c h
theorem number_c (l:Bs) (hl:4≤l.length) (a:Option Addr) (n c:Nat) (hn:n≤c) (hc:c≤9223372036854775807) (h:rdsl 1 (.slice a n c) (bys l) w) :
  Calls Tryz.prog 127 #[.slice a n c] w (Rtn fun v w'=>v = .int .u32 (Frm.num (l.take 4):Nat)∧w=w'):=by
 have hln:n=l.length:=by
  obtain ⟨_,_,_,he,hl',_⟩:=h
  cases he
  rw [bys_len,Nat.mul_one]at hl';exact hl'.symm
 have h4:=rdsl_cut4 (k:=4) h
 rw [show min n 4=4 by omega]at h4
 have hg:=get4_l (l.take 4) (by rw [List.length_take];omega) a c h4
 have hlt:=Frm.num_lt (l.take 4)
 rw [List.length_take,Nat.min_eq_left hl]at hlt
 have hb:(Frm.num (l.take 4):Int)<4294967296:=by omega
 have hc4:(4:Int)≤(c:Int):=by omega
 generalize Frm.num (l.take 4)=N at *
 clear hlt hln h4 h hl
 have hw:IntKind.u32.wrap (N:Int)=(N:Int):=by rw [IntKind.wrap_u32];omega
 go_enter Tryz.func127,Tryz.ntmps127
 go_wp2_with (go_at_call 162;refine hg.mono ?_;rintro e w1 ⟨v,rfl,rfl,rfl⟩)
 go_ret
 exact ⟨_,rfl,rfl,rfl⟩
theorem fits_c (t:UInt8) (n:Nat) (hn:n<4294967296) (w:World) :
  Calls Tryz.prog 128 #[.int .u8 t.toNat,.int .i64 n] w (Rtn fun v w'=>v = .bool (Frm.fits t n)∧w=w'):=by
 have htl:=t.toNat_lt
 by_cases h0:t=0
 ·subst h0
  by_cases h1:41≤n
  ·by_cases h2:n≤16425
   ·have Hf:=uQ (show Frm.fits 0 n=true by unfold Frm.fits;rw [if_pos rfl];exact decide_eq_true ⟨h1,h2⟩)
    have c1:(41:Int)≤(n:Int):=by omega
    have c2:(n:Int)≤16425:=by omega
    clear h1 h2
    go_enter Tryz.func128,Tryz.ntmps128
    go_wp2
    go_ret
    rw [Hf.out]
    exact ⟨_,rfl,rfl,rfl⟩
   ·have Hf:=uQ (show Frm.fits 0 n=false by unfold Frm.fits;rw [if_pos rfl];exact decide_eq_false oQ)
    have c1:(41:Int)≤(n:Int):=by omega
    have c2:decide ((n:Int)≤16425)=false:=decide_eq_false oQ
    clear h1 h2
    go_enter Tryz.func128,Tryz.ntmps128
    go_wp2
    go_ret
    rw [Hf.out]
    exact ⟨_,rfl,rfl,rfl⟩
  ·have Hf:=uQ (show Frm.fits 0 n=false by unfold Frm.fits;rw [if_pos rfl];exact decide_eq_false oQ)
   have c1:decide ((41:Int)≤(n:Int))=false:=decide_eq_false oQ
   clear h1
   go_enter Tryz.func128,Tryz.ntmps128
   go_wp2
   go_ret
   rw [Hf.out]
   exact ⟨_,rfl,rfl,rfl⟩
 by_cases h1:t=1
 ·subst h1
  have Hf:=uQ (show Frm.fits 1 n=decide (n=41) by unfold Frm.fits;rw [if_neg dCz,if_pos rfl])
  have He:=uQ (show ((n:Int)==41)=decide (n=41) by rw [Bool.eq_iff_iff,beq_iff_eq,decide_eq_true_eq];omega)
  go_enter Tryz.func128,Tryz.ntmps128
  go_wp2
  go_ret
  rw [Hf.out,← He.out]
  exact ⟨_,rfl,rfl,rfl⟩
 by_cases h2:t=2
 ·subst h2
  have Hf:=uQ (show Frm.fits 2 n=decide (n=9) by unfold Frm.fits;rw [if_neg dCz,if_neg dCz,if_pos rfl])
  have He:=uQ (show ((n:Int)==9)=decide (n=9) by rw [Bool.eq_iff_iff,beq_iff_eq,decide_eq_true_eq];omega)
  go_enter Tryz.func128,Tryz.ntmps128
  go_wp2
  go_ret
  rw [Hf.out,← He.out]
  exact ⟨_,rfl,rfl,rfl⟩
 ·have Hf:=uQ (show Frm.fits t n=false by unfold Frm.fits;rw [if_neg h0,if_neg h1,if_neg h2])
  have g0:((t.toNat:Int)==0)=false:=by rw [beq_eq_false_iff_ne];intro h;exact h0 (UInt8.toNat_inj.1 (by rw [show (0:UInt8).toNat=0 from rfl];omega))
  have g1:((t.toNat:Int)==1)=false:=by rw [beq_eq_false_iff_ne];intro h;exact h1 (UInt8.toNat_inj.1 (by rw [show (1:UInt8).toNat=1 from rfl];omega))
  have g2:((t.toNat:Int)==2)=false:=by rw [beq_eq_false_iff_ne];intro h;exact h2 (UInt8.toNat_inj.1 (by rw [show (2:UInt8).toNat=2 from rfl];omega))
  clear h0 h1 h2
  generalize t.toNat=T at *
  go_enter Tryz.func128,Tryz.ntmps128
  go_wp2
  go_ret
  rw [Hf.out]
  exact ⟨_,rfl,rfl,rfl⟩
end
section
variable {w0 w:World}{L L' R:List HProp}{b:Nat}{ops:Array Oper}{rest:List Oper}{a:Act}{Q:Exit→Act→World→Prop}
variable {dst:Option Tmp}{t T:TypeId}{pos:String}{after:Array Edge}{x y:Operand}{cs:Array Value}{v:Value}{e:Frm.Ent}{da:Option Addr}{dn dc:Nat}
theorem run_buildTag (tag:Int) (w:World):(Instr.build 101 #[(0,.int .i64 tag)]).run Tryz.prog w = .ok (.agg (entA ⟨tag,Frm.zero32,[]⟩ (.slice none 0 0))) w:=by
 have hz:(entA Frm.zeroE (.slice none 0 0)).size=34:=entA_size _ _ rfl
 have h:=run_build (P:=Tryz.prog) [(0,.int .i64 tag)] plEnt zEnt (by
  intro p hp
  rw [List.mem_singleton]at hp
  subst hp
  have hzz:zeroEntV.cells.size=34:=hz
  rw [hzz]
  exact ⟨0,rfl,by show 0+1≤34;omega⟩) w
 exact h
theorem wl_buildTag {tag:Int} (hx:a.eval x = .int .i64 tag) (h:wpList Tryz.prog ops Q rest (a.put dst (.agg (entA ⟨tag,Frm.zero32,[]⟩ (.slice none 0 0)))) w):wpList Tryz.prog ops Q (⟨dst,.build 101 #[(0,x)],t,pos,after,none⟩::rest) a w:=
 wpList_plain rfl fun _ hK=>by
  unfold Oper.wp execOp
  simp only [List.map_toArray,List.map_cons,List.map_nil,hx,Sem.run_bind,run_buildTag,Result.andThen_ok,Sem.run_pure]
  exact hK _ _ h
theorem wl_buildZ (h:wpList Tryz.prog ops Q rest (a.put dst (.agg (entA Frm.zeroE (.slice none 0 0)))) w):wpList Tryz.prog ops Q (⟨dst,.build 101 #[],t,pos,after,none⟩::rest) a w:=
 wpList_plain rfl fun _ hK=>by
  unfold Oper.wp execOp
  simp only [List.map_toArray,List.map_nil,Sem.run_bind,run_zeroEnt,Result.andThen_ok,Sem.run_pure]
  exact hK _ _ h
theorem at_buildTag (h:Stop (wpList Tryz.prog ops Q (⟨dst,.build 101 #[(0,x)],t,pos,after,none⟩::rest) a w)):wpList Tryz.prog ops Q (⟨dst,.build 101 #[(0,x)],t,pos,after,none⟩::rest) a w:=h.out
theorem at_buildZ (h:Stop (wpList Tryz.prog ops Q (⟨dst,.build 101 #[],t,pos,after,none⟩::rest) a w)):wpList Tryz.prog ops Q (⟨dst,.build 101 #[],t,pos,after,none⟩::rest) a w:=h.out
theorem wl_slice2 {P:Program}{ty:TypeId}{z:Operand}{vx vy vz:Value} (hx:a.eval x=vx) (hy:a.eval y=vy) (hz:a.eval z=vz) (hr:∀ w,(Instr.sliceAt ty vx (some vy) (some vz) none).run P w = .ok v w)
  (h:wpList P ops Q rest (a.put dst v) w):wpList P ops Q (⟨dst,.slice ty x (some y) (some z) none,t,pos,after,none⟩::rest) a w:=
 wpList_plain rfl fun _ hK=>by
  unfold Oper.wp execOp
  simp only [hx,hy,hz,Option.map_some,Option.map_none,Sem.run_bind,hr,Result.andThen_ok,Sem.run_pure]
  exact hK _ _ h
theorem at_slice2 {P:Program}{ty:TypeId}{z:Operand} (h:Stop (wpList P ops Q (⟨dst,.slice ty x (some y) (some z) none,t,pos,after,none⟩::rest) a w)):wpList P ops Q (⟨dst,.slice ty x (some y) (some z) none,t,pos,after,none⟩::rest) a w:=h.out
theorem run_arrKey (ad:Addr) (c:Nat) (w:World):(Instr.arrayAt 31 (.slice (some ad) 32 c)).run Tryz.prog w = .ok (.pointer (some ad)) w:=by
 simp [Instr.arrayAt,run_underlying (P:=Tryz.prog) Tryz.underlying31]
theorem puts_key {e:Frm.Ent}{dv:Value} (hk:e.key.length=32) (key:Bs) (hk2:key.length=32):putsAt (entA e dv) 1 (bys key)=entA ⟨e.tag,key,e.data⟩ dv:=by
 apply putsAt_eq
 have hz:=entA_size e dv hk
 have h1:(bys key).length=32:=by rw [bys_len,hk2]
 have h2:(bys e.key).length=32:=by rw [bys_len,hk]
 rw [putsAt_list _ _ _ oQ]
 unfold entA entL
 rw [List.toList_toArray,List.toList_toArray,h1,show 1+32=32+1 by omega,List.drop_succ_cons,List.take_succ_cons,List.take_zero,List.drop_append_of_le_length oQ,List.drop_of_length_le oQ]
 simp
theorem puts_data {e:Frm.Ent}{dv:Value} (hk:e.key.length=32) (data:Bs) (dv2:Value):putsAt (entA e dv) 33 [dv2]=entA ⟨e.tag,e.key,data⟩ dv2:=by
 apply putsAt_eq
 have hz:=entA_size e dv hk
 have h2:(bys e.key).length=32:=by rw [bys_len,hk]
 rw [putsAt_list _ _ _ (by simp;omega)]
 unfold entA entL
 rw [List.toList_toArray,List.toList_toArray,List.length_singleton,show 33+1=33+1 from rfl,List.drop_succ_cons,List.take_succ_cons,List.take_append_of_le_length oQ,List.take_of_length_le oQ,List.drop_of_length_le (by simp;omega)]
 simp
theorem infoKey:(Tryz.prog.info? 31).map (·.size)=some 32:=by kernel_rfl
theorem infoSl:(Tryz.prog.info? 38).map (·.size)=some 1:=by kernel_rfl
theorem wl_storeK {dv:Value}{key:Bs} (hs:Sat w0 w L) (hx:a.eval x = .pointer (some ⟨b,1,none⟩)) (hy:a.eval y = .agg (bys key).toArray) (hk:e.key.length=32) (hk2:key.length=32) (u:Upd (pt b (.cells (entA e dv) T (0,0))) (pt b (.cells (entA ⟨e.tag,key,e.data⟩ dv) T (0,0))) L L')
  (hK:∀ w',Sat w0 w' L'→wpList Tryz.prog ops Q rest (a.put dst undef) w'):wpList Tryz.prog ops Q (⟨dst,.store 31 x y,t,pos,after,none⟩::rest) a w:=by
 obtain ⟨R',h2,h3⟩:=u
 have hz:=entA_size e dv hk
 have hb:(bys key).toArray.size=32:=by simp [bys,hk2]
 refine wpList_store_sat (w0:=w0) rfl 31 x y rfl 1 (.agg (bys key).toArray) hx hy (show 1+(bys key).toArray.size≤(entA e dv).size by omega) (show _=some (bys key).toArray.size by rw [hb];exact infoKey) ?_ (hs.perm h2) fun w' hS=>hK w' ?_
 ·show (bys key).toArray.all _=true
  rw [← Array.all_toList]
  exact List.all_eq_true.2 (bys_one _)
 ·have he:putsAt (entA e dv) 1 (Value.agg (bys key).toArray).cells.toList=entA ⟨e.tag,key,e.data⟩ dv:=puts_key hk key hk2
  rw [he]at hS
  exact hS.perm h3.symm
theorem wl_storeD {dv:Value}{data:Bs} (hs:Sat w0 w L) (hx:a.eval x = .pointer (some ⟨b,33,none⟩)) (hy:a.eval y = .slice da dn dc) (hk:e.key.length=32) (u:Upd (pt b (.cells (entA e dv) T (0,0))) (pt b (.cells (entA ⟨e.tag,e.key,data⟩ (.slice da dn dc)) T (0,0))) L L')
  (hK:∀ w',Sat w0 w' L'→wpList Tryz.prog ops Q rest (a.put dst undef) w'):wpList Tryz.prog ops Q (⟨dst,.store 38 x y,t,pos,after,none⟩::rest) a w:=by
 obtain ⟨R',h2,h3⟩:=u
 have hz:=entA_size e dv hk
 refine wpList_store_sat (w0:=w0) rfl 38 x y rfl 33 (.slice da dn dc) hx hy (show 33+1≤(entA e dv).size by omega) infoSl (by simp [Value.cells,Value.oneCell']) (hs.perm h2) fun w' hS=>hK w' ?_
 have he:putsAt (entA e dv) 33 (Value.slice da dn dc).cells.toList=entA ⟨e.tag,e.key,data⟩ (.slice da dn dc):=puts_data hk data _
 rw [he]at hS
 exact hS.perm h3.symm
theorem res_entE3 {fn:Func}{p u q:Tmp}{tmps:Array Value} (hf:fn.results=#[.cell p 101,.tmp u,.tmp q]) (hs:Sat w0 w L) (hp:tmps.getD p undef = .pointer (some ⟨b,0,none⟩)) (k:Pick (pt b (.cells (entA e (.slice da dn dc)) T (0,0))) L R) (hk:e.key.length=32) :
  (results fn tmps).run Tryz.prog w = .ok (.tuple #[.agg (entA e (.slice da dn dc)),tmps.getD u undef,tmps.getD q undef]) w:=by
 have hl:=run_loadVar_row (P:=Tryz.prog) w b T 101 (entA e (.slice da dn dc)) (0,0) _ (hs.pick k).at Tryz.underlying101 rFz (by rw [entA_size e _ hk];exact infoEntSize)
 have hp':tmps[p]?.getD undef = .pointer (some ⟨b,0,none⟩):=by simpa using hp
 simp [results,hf,hp',asAddr,hl,Result.andThen]
end
section
variable {w0 w:World}{F R:List HProp}{v bv dv x lv:Value}
theorem rdsl_sub {l:Bs}{bk off n c:Nat} (h:rdsl 1 (.slice (some ⟨bk,off,none⟩) n c) (bys l) w) (i j c':Nat) (hij:i≤j) (hj:j≤l.length):rdsl 1 (.slice (some ⟨bk,off+i,none⟩) (j - i) c') (bys ((l.take j).drop i)) w:=by
 obtain ⟨a',n',c'',he,hl,hx⟩:=h
 cases he
 refine ⟨_,_,_,rfl,by rw [bys_len,List.length_drop,List.length_take];omega,fun k y hk=>⟨_,rfl,?_⟩⟩
 have hk':(bys l)[i+k]?=some y:=by
  unfold bys at hk ⊢
  rw [List.map_drop,List.map_take,List.getElem?_drop,List.getElem?_take]at hk
  split at hk
  ·exact hk
  ·cases hk
 obtain ⟨b',hb',hc⟩:=hx _ _ hk'
 cases hb'
 rw [Addr.add_mid]at hc ⊢
 rw [Nat.add_assoc];exact hc
end
section
variable {w0 w:World}{F R:List HProp}{v bv dv x lv:Value}
set_option maxRecDepth 20000 in
theorem fread_c (l:Bs) (hr:Ro w0 F (rdsl 1 bv (bys l))) (hcap:capOk bv) (hH:Ro w0 F Half) (hl:l.length≤1099511627776) (h:Sat w0 w F) :
  Calls Tryz.prog 84 #[bv] w (Rtn fun v w'=>∃ da dc,v = .tuple #[.agg (entA (Frm.read l).1 (.slice da (Frm.read l).1.data.length dc)),.int .i64 (Frm.read l).2.1,errno (Frm.read l).2.2]∧Sat w0 w' (bsl (.slice da (Frm.read l).1.data.length dc) (Frm.read l).1.data::F)):=by
 obtain ⟨ba,bn,bc,rfl,hbn,hbc⟩:=hcap
 have hln:bn=l.length:=by
  obtain ⟨_,_,_,he,hl',_⟩:=hr w h
  cases he
  rw [bys_len,Nat.mul_one]at hl';exact hl'.symm
 subst hln
 by_cases h9:l.length<9
 ·have Hf:=uQ (show Frm.read l=(Frm.zeroE,0,3) by unfold Frm.read;rw [if_pos h9])
  have c1:(l.length:Int)<9:=by omega
  clear hr hH h9 hl
  go_enter Tryz.func84,Tryz.ntmps84
  go_wp2_with (first|((with_reducible refine at_allocE ⟨?_⟩);refine wl_allocE aQ ?_;intro bE wE hE)|((with_reducible refine at_buildZ ⟨?_⟩);refine wl_buildZ ?_)|((with_reducible refine at_storeE ⟨?_⟩);first|(refine wl_storeE aQ rFz rFz (by first|rfl|assumption|exact Hid.out aQ) upD (by first|assumption|exact entA_size _ _ rfl|exact entA_size _ _ aQ|exact entA_size _ _ (Hid.out aQ)) ?_;intro wS hS)|(refine wl_storeE (e:=Frm.zeroE) (da:=none) (dn:=0) (dc:=0) aQ rFz rFz rfl upD (by first|assumption|exact entA_size _ _ rfl|exact entA_size _ _ aQ|exact entA_size _ _ (Hid.out aQ)) ?_;intro wS hS)))
  rw [Hf.out]
  refine ⟨rfl,_,res_entE3 rfl aQ rFz pkD rfl,_,rfl,none,0,rfl,Sat.osl_nil.2 (Sat.sb hS)⟩
 obtain ⟨bk,off,rfl,hcell⟩:∃ bk off,ba=some ⟨bk,off,none⟩∧True:=by
  have hx:(bys l)[0]?=some (.int .u8 (l[0]'oQ).toNat):=by
   unfold bys;rw [List.getElem?_map,List.getElem?_eq_getElem oQ];rfl
  obtain ⟨bk,off,hb,_⟩:=rdsl_cells (hr w h) hx
  exact ⟨bk,off,hb,trivial⟩
 clear hcell
 have hrd:=hr w h
 have Hsub:=uQ (show ∀ (i j:Nat),i≤j→j≤l.length→∀ w,Sat w0 w F→rdsl 1 (.slice (some ⟨bk,off+i,none⟩) (j - i) (bc - i)) (bys ((l.take j).drop i)) w from fun i j h1 h2 w hw=>rdsl_sub (hr w hw) i j (bc - i) h1 h2)
 have Hnum:=uQ (show ∀ w,Sat w0 w F→Calls Tryz.prog 127 #[.slice (some ⟨bk,off+4,none⟩) (l.length - 4) (bc - 4)] w (Rtn fun v w'=>v = .int .u32 (Frm.num ((l.drop 4).take 4):Nat)∧w=w') from fun w hw=>number_c (l.drop 4) (by rw [List.length_drop];omega) _ (l.length - 4) (bc - 4) oQ oQ (by
  have:=Hsub.out 4 l.length oQ (Nat.le_refl _) w hw
  rw [List.take_length]at this
  exact this))
 have Hnum0:=uQ (show ∀ w,Sat w0 w F→Calls Tryz.prog 127 #[.slice (some ⟨bk,off,none⟩) l.length bc] w (Rtn fun v w'=>v = .int .u32 (Frm.num (l.take 4):Nat)∧w=w') from fun w hw=>number_c l oQ _ l.length bc hbn hbc (hr w hw))
 have Hread:=uQ (show Frm.read l=if Frm.fits (l.getD 8 0) (Frm.num ((l.drop 4).take 4))=false then (Frm.zeroE,0,4)
  else if l.length<Frm.num ((l.drop 4).take 4) then (Frm.zeroE,0,3)
  else if Frm.crc ((l.take (Frm.num ((l.drop 4).take 4))).drop 4)≠Frm.num (l.take 4) then (Frm.zeroE,0,13)
  else if 41≤Frm.num ((l.drop 4).take 4) then (⟨(l.getD 8 0).toNat,(l.drop 9).take 32,(l.take (Frm.num ((l.drop 4).take 4))).drop 41⟩,Frm.num ((l.drop 4).take 4),0)
  else (⟨(l.getD 8 0).toNat,Frm.zero32,[]⟩,Frm.num ((l.drop 4).take 4),0) by unfold Frm.read;rw [if_neg h9])
 have hN:Frm.num ((l.drop 4).take 4)<4294967296:=by
  have:=Frm.num_lt ((l.drop 4).take 4)
  rw [List.length_take,List.length_drop]at this
  have h4:min 4 (l.length - 4)=4:=by omega
  rw [h4]at this
  omega
 generalize hNN:Frm.num ((l.drop 4).take 4)=N at *
 have hfits:=fun w=>fits_c (l.getD 8 0) N hN w
 have hfg:Frm.fits (l.getD 8 0) N=true→9≤N:=by
  unfold Frm.fits
  intro hh
  split at hh
  ·have:=of_decide_eq_true hh;omega
  ·split at hh
   ·have:=of_decide_eq_true hh;omega
   ·split at hh
    ·have:=of_decide_eq_true hh;omega
    ·cases hh
 have hc8:∀ w,Sat w0 w F→w.cell? ⟨bk,off+8,none⟩=some (.int .u8 (l.getD 8 0).toNat):=fun w hw=>by
  have hx:(bys l)[8]?=some (.int .u8 (l.getD 8 0).toNat):=by
   unfold bys;rw [List.getElem?_map,List.getD_eq_getElem?_getD,List.getElem?_eq_getElem oQ];rfl
  obtain ⟨bk',off',hb,hc⟩:=rdsl_cells (hr w hw) hx
  cases hb
  exact hc _ _ hx
 have Hc8:=uQ hc8;have Hr:=uQ hr;have HH:=uQ hH;have Hl:=uQ hl;have Hfg:=uQ hfg;have Hfits:=uQ hfits
 have c1:¬ (l.length:Int)<9:=by omega
 have c2:¬ bc=4:=by omega
 have c3:(4:Int)≤(l.length:Int):=by omega
 have c4:(l.length:Int)≤(bc:Int):=by omega
 have c5:(8:Int)<(l.length:Int):=by omega
 have Hbn:=uQ (show l.length≤bc∧bc≤9223372036854775807∧9≤l.length∧N<4294967296 from ⟨hbn,hbc,by omega,hN⟩)
 have hcv:IntKind.i64.wrap (N:Int)=(N:Int):=by rw [IntKind.wrap_i64];omega
 clear hrd hNN hc8 hr hH hl h9 hbn hbc hfg hfits hN
 generalize l.getD 8 0=tg at *
 have htg:=tg.toNat_lt
 have hct:IntKind.i64.wrap (tg.toNat:Int)=(tg.toNat:Int):=by rw [IntKind.wrap_i64];omega
 have htb:(tg.toNat:Int)<256:=by omega
 go_enter Tryz.func84,Tryz.ntmps84
 go_wp2_with ((with_reducible refine at_allocE ⟨?_⟩);refine wl_allocE aQ ?_;intro bE wE hE)
 refine (Hnum.out _ hE.drop).mono ?_
 rintro ee w2 ⟨v,rfl,rfl,rfl⟩
 have e8:=Hc8.out _ hE.drop
 go_wp2_with fail
 refine (Hfits.out _).mono ?_
 rintro ee w2 ⟨v,rfl,rfl,rfl⟩
 cases hft:Frm.fits tg N
 ·have Hf:=uQ (Hread.out.trans (if_pos hft))
  clear hft
  go_wp2_with (first|((with_reducible refine at_buildZ ⟨?_⟩);refine wl_buildZ ?_)|((with_reducible refine at_storeE ⟨?_⟩);first|(refine wl_storeE aQ rFz rFz (by first|rfl|assumption|exact Hid.out aQ) upD (by first|assumption|exact entA_size _ _ rfl|exact entA_size _ _ aQ|exact entA_size _ _ (Hid.out aQ)) ?_;intro wS hS)|(refine wl_storeE (e:=Frm.zeroE) (da:=none) (dn:=0) (dc:=0) aQ rFz rFz rfl upD (by first|assumption|exact entA_size _ _ rfl|exact entA_size _ _ aQ|exact entA_size _ _ (Hid.out aQ)) ?_;intro wS hS)))
  rw [Hf.out]
  refine ⟨rfl,_,res_entE3 rfl aQ rFz pkD rfl,_,rfl,none,0,rfl,Sat.osl_nil.2 (Sat.sb hS)⟩
 have Hf:=uQ (Hread.out.trans (if_neg (by rw [hft];decide)))
 have hN9:=Hfg.out hft
 clear hft
 by_cases hlN:l.length<N
 ·have Hf2:=uQ (Hf.out.trans (if_pos hlN))
  have c6:(l.length:Int)<(N:Int):=by omega
  clear hlN hN9
  go_wp2_with (first|((with_reducible refine at_buildZ ⟨?_⟩);refine wl_buildZ ?_)|((with_reducible refine at_storeE ⟨?_⟩);first|(refine wl_storeE aQ rFz rFz (by first|rfl|assumption|exact Hid.out aQ) upD (by first|assumption|exact entA_size _ _ rfl|exact entA_size _ _ aQ|exact entA_size _ _ (Hid.out aQ)) ?_;intro wS hS)|(refine wl_storeE (e:=Frm.zeroE) (da:=none) (dn:=0) (dc:=0) aQ rFz rFz rfl upD (by first|assumption|exact entA_size _ _ rfl|exact entA_size _ _ aQ|exact entA_size _ _ (Hid.out aQ)) ?_;intro wS hS)))
  rw [Hf2.out]
  refine ⟨rfl,_,res_entE3 rfl aQ rFz pkD rfl,_,rfl,none,0,rfl,Sat.osl_nil.2 (Sat.sb hS)⟩
 have Hf2:=uQ (Hf.out.trans (if_neg hlN))
 clear Hf Hread
 have c6:¬ (l.length:Int)<(N:Int):=by omega
 have c7:(4:Int)≤(N:Int):=by omega
 have c8:(N:Int)≤(bc:Int):=by omega
 have HlN:=uQ (show N≤l.length∧9≤N by omega)
 clear hlN hN9
 go_wp2_with fail
 refine (crc_c ((l.take N).drop 4) (Ro.os HH.out) (fun w hw=>Hsub.out 4 N (by have:=HlN.out;omega) HlN.out.1 w (hw.sb)) hE (by rw [List.length_drop,List.length_take];have:=Hl.out;omega)).mono ?_
 rintro ee w2 ⟨v,rfl,rfl,rfl⟩
 go_wp2_with fail
 refine (Hnum0.out _ hE.drop).mono ?_
 rintro ee w2 ⟨v,rfl,rfl,rfl⟩
 generalize Frm.crc ((l.take N).drop 4)=A at *
 generalize Frm.num (l.take 4)=B at *
 by_cases hAB:A=B
 rotate_left
 ·have Hf3:=uQ (Hf2.out.trans (if_pos hAB))
  have c9:((A:Int)==(B:Int))=false:=by rw [beq_eq_false_iff_ne];omega
  clear hAB
  go_wp2_with (first|((with_reducible refine at_buildZ ⟨?_⟩);refine wl_buildZ ?_)|((with_reducible refine at_storeE ⟨?_⟩);first|(refine wl_storeE aQ rFz rFz (by first|rfl|assumption|exact Hid.out aQ) upD (by first|assumption|exact entA_size _ _ rfl|exact entA_size _ _ aQ|exact entA_size _ _ (Hid.out aQ)) ?_;intro wS hS)|(refine wl_storeE (e:=Frm.zeroE) (da:=none) (dn:=0) (dc:=0) aQ rFz rFz rfl upD (by first|assumption|exact entA_size _ _ rfl|exact entA_size _ _ aQ|exact entA_size _ _ (Hid.out aQ)) ?_;intro wS hS)))
  rw [Hf3.out]
  refine ⟨rfl,_,res_entE3 rfl aQ rFz pkD rfl,_,rfl,none,0,rfl,Sat.osl_nil.2 (Sat.sb hS)⟩
 subst hAB
 have Hf3:=uQ (Hf2.out.trans (if_neg (fun h=>h rfl)))
 clear Hf2
 by_cases h41:41≤N
 rotate_left
 ·have Hf4:=uQ (Hf3.out.trans (if_neg h41))
  have c9:¬ (41:Int)≤(N:Int):=by omega
  clear h41
  go_wp2_with (first|((with_reducible refine at_buildTag ⟨?_⟩);refine wl_buildTag rFz ?_)|((with_reducible refine at_allocE ⟨?_⟩);refine wl_allocE aQ ?_;intro bE wE hE)|((with_reducible refine at_storeE ⟨?_⟩);first|(refine wl_storeE aQ rFz rFz (by first|rfl|assumption|exact Hid.out aQ) upD (by first|assumption|exact entA_size _ _ rfl|exact entA_size _ _ aQ|exact entA_size _ _ (Hid.out aQ)) ?_;intro wS hS)|(refine wl_storeE (e:=Frm.zeroE) (da:=none) (dn:=0) (dc:=0) aQ rFz rFz rfl upD (by first|assumption|exact entA_size _ _ rfl|exact entA_size _ _ aQ|exact entA_size _ _ (Hid.out aQ)) ?_;intro wS hS))|((with_reducible refine at_loadE ⟨?_⟩);refine wl_loadE aQ rFz pkD (by first|rfl|assumption|exact Hid.out aQ) ?_))
  rw [Hf4.out]
  simp only [List.length_nil]
  refine ⟨rfl,_,res_entE3 rfl aQ rFz pkD rfl,_,rfl,none,0,rfl,Sat.osl_nil.2 (Sat.sb hS)⟩
 have Hf4:=uQ (Hf3.out.trans (if_pos h41))
 have Hkl:=uQ (show ((l.drop 9).take 32).length=32 by rw [List.length_take,List.length_drop];have:=HlN.out;omega)
 have Hkb:=uQ (show (bys ((l.drop 9).take 32)).length=32 by rw [bys_len];exact Hkl.out)
 have Hrange:=uQ (show ∀ w,Sat w0 w F→w.rangeAt bk (off+9) (bys ((l.drop 9).take 32)) from fun w hw=>by
  intro j y hj
  have hsb:=Hsub.out 9 41 dCz (by have:=HlN.out;omega) w hw
  have e:(l.take 41).drop 9=(l.drop 9).take 32:=by rw [List.drop_take]
  rw [e]at hsb
  obtain ⟨b',o',hb,hc⟩:=rdsl_cells hsb hj
  cases hb
  exact hc _ _ hj)
 have c9:(41:Int)≤(N:Int):=by omega
 have c10:¬ bc=9:=by have:=HlN.out;have:=Hbn.out;omega
 have c11:(41:Int)≤(bc:Int):=by omega
 obtain ⟨ad,had,hsl⟩:∃ ad:Addr,(41<N→ad=⟨bk,off+41,none⟩)∧∀ w,(Instr.sliceAt 38 (.slice (some ⟨bk,off,none⟩) l.length bc) (some (.int .i64 41)) (some (.int .i64 N)) none).run Tryz.prog w = .ok (.slice (some ad) (N - 41) (bc - 41)) w:=by
  by_cases hce:bc=41
  ·refine ⟨⟨bk,off,none⟩,fun hh=>by have:=HlN.out;have:=Hbn.out;omega,fun w=>?_⟩
   have c12:(N:Int)≤41:=by omega
   have c13:¬ (41:Int)<(N:Int):=by omega
   go_simp
  ·refine ⟨⟨bk,off+41,none⟩,fun _=>rfl,fun w=>?_⟩
   go_simp
 have Had:=uQ had
 have Hdat:=uQ (show ∀ w,Sat w0 w F→rdsl 1 (.slice (some ad) (N - 41) (bc - 41)) (bys ((l.take N).drop 41)) w from fun w hw=>by
  by_cases h2:41<N
  ·rw [Had.out h2];exact Hsub.out 41 N oQ HlN.out.1 w hw
  ·have:(l.take N).drop 41=[]:=List.drop_of_length_le (by rw [List.length_take];omega)
   rw [this,show N - 41=0 by omega]
   exact ⟨_,0,_,rfl,rfl,by simp [bys]⟩)
 clear h41 had
 have hat:=fun w=>run_arrKey ⟨bk,off+9,none⟩ (bc - 9) w
 go_wp2_with (first
  |((with_reducible refine at_buildTag ⟨?_⟩);refine wl_buildTag rFz ?_)|((with_reducible refine at_allocE ⟨?_⟩);refine wl_allocE aQ ?_;intro bE wE hE)|((with_reducible refine at_storeE ⟨?_⟩);first|(refine wl_storeE aQ rFz rFz (by first|rfl|assumption|exact Hid.out aQ) upD (by first|assumption|exact entA_size _ _ rfl|exact entA_size _ _ aQ|exact entA_size _ _ (Hid.out aQ)) ?_;intro wS hS)|(refine wl_storeE (e:=Frm.zeroE) (da:=none) (dn:=0) (dc:=0) aQ rFz rFz rfl upD (by first|assumption|exact entA_size _ _ rfl|exact entA_size _ _ aQ|exact entA_size _ _ (Hid.out aQ)) ?_;intro wS hS))
  |((with_reducible refine at_load ⟨?_⟩);refine wpList_load_mid rFz 31 _ rFz bk (off+9) rFz (bys ((l.drop 9).take 32)) _ (Hrange.out _ (Sat.sb aQ)) Tryz.underlying31 rfl (by rw [Hkb.out];kernel_rfl) ?_)
  |((with_reducible refine at_store ⟨?_⟩);refine wl_storeK (key:=(l.drop 9).take 32) aQ rFz rFz rfl Hkl.out upD ?_;intro wK hK)
  |((with_reducible refine at_slice2 ⟨?_⟩);refine wl_slice2 rFz rFz rFz hsl ?_))
 refine (clone_c hK (Hdat.out _ (hK.sb)) (by rw [List.length_drop,List.length_take];have:=Hl.out;omega)).mono ?_
 rintro ee w3 ⟨v,rfl,hS3,ca,cn,cc,rfl⟩
 have hcn:cn=((l.take N).drop 41).length:=by
  obtain ⟨_,_,_,he,hl',_⟩:=Sat.rd hS3
  cases he
  rw [bys_len,Nat.mul_one]at hl';exact hl'.symm
 subst hcn
 have Hkl2:=Hkl.out
 generalize (l.drop 9).take 32=key at *
 generalize (l.take N).drop 41=data at *
 go_wp2_with (first
  |((with_reducible refine at_store ⟨?_⟩);refine wl_storeD (e:=⟨(tg.toNat:Int),key,[]⟩) (data:=data) aQ rFz rFz Hkl2 upD ?_;intro wD hD)
  |((with_reducible refine at_loadE ⟨?_⟩);refine wl_loadE aQ rFz pkD (by first|rfl|assumption|exact Hid.out aQ) ?_)|((with_reducible refine at_storeE ⟨?_⟩);first|(refine wl_storeE aQ rFz rFz (by first|rfl|assumption|exact Hid.out aQ) upD (by first|assumption|exact entA_size _ _ rfl|exact entA_size _ _ aQ|exact entA_size _ _ (Hid.out aQ)) ?_;intro wS hS)|(refine wl_storeE (e:=Frm.zeroE) (da:=none) (dn:=0) (dc:=0) aQ rFz rFz rfl upD (by first|assumption|exact entA_size _ _ rfl|exact entA_size _ _ aQ|exact entA_size _ _ (Hid.out aQ)) ?_;intro wS hS)))
 rw [Hf4.out]
 simp only
 refine ⟨rfl,_,res_entE3 rfl aQ rFz pkD Hkl2,_,rfl,ca,cc,rfl,Sat.sb hS⟩
end
end Go.Proofs.YtjbhhbnopnmcnaaGreatDoor
namespace Go.Frm
structure Fnd where
 e:Ent
 at_:Nat
 size:Nat
def scanL:Nat→Bs→Nat→List Fnd×Nat×Int
 |0,_,at_=>([],at_,0)
 |k+1,b,at_=>
  if b=[] then ([],at_,0)
  else if (read b).2.2≠0 then ([],at_,(read b).2.2)
  else (⟨(read b).1,at_,(read b).2.1⟩::(scanL k (b.drop (read b).2.1) (at_+(read b).2.1)).1,(scanL k (b.drop (read b).2.1) (at_+(read b).2.1)).2)
def magicB:Bs:=[72,79,65,82,68,83,69,71]
def scan (b:Bs):List Fnd×Nat×Int:=if b.take 8=magicB then scanL b.length (b.drop 8) 8 else ([],0,4)
end Go.Frm
namespace Go.Proofs.YtjbhhbnopnmcnaaGreatDoor
open Go Go.Sl Go.Med Go.MapKept Go.RowKit
section
variable {w0 w:World}{F R:List HProp}{v bv dv x lv av:Value}
theorem rdsl_text {l:Bs} (h:rdsl 1 v (bys l) w):(convert 38 9 v).run Tryz.prog w = .ok (.string ⟨l.toArray⟩) w:=by
 obtain ⟨a,n,c,rfl,hl,hx⟩:=h
 rw [bys_len,Nat.mul_one]at hl
 subst hl
 cases a with
 |none=>
  obtain rfl:l=[]:=by
   cases l with
   |nil=>rfl
   |cons d l=>obtain ⟨b,hb,_⟩:=hx 0 _ rfl;cases hb
  exact Lib.run_convert_nil_bytes (P:=Tryz.prog) w _ _ 5 c Tryz.underlying38 Tryz.underlying5 Tryz.underlying9
 |some ad=>
  refine run_convert_bytes_back (P:=Tryz.prog) w _ _ 5 ad c l Tryz.underlying38 Tryz.underlying5 Tryz.underlying9 (fun j hj=>?_)
  have hy:(bys l)[j]?=some (.int .u8 (l[j]'hj).toNat):=by unfold bys;rw [List.getElem?_map,List.getElem?_eq_getElem hj];rfl
  obtain ⟨b,hb,hc⟩:=hx _ _ hy
  cases hb
  simpa using hc
theorem bequal_c (la lb:Bs) (ha:rdsl 1 av (bys la) w) (hb:rdsl 1 bv (bys lb) w) :
  Calls Tryz.prog 171 #[av,bv] w (Rtn fun v w'=>v = .bool (decide (la=lb))∧w=w'):=by
 have h1:=rdsl_text ha
 have h2:=rdsl_text hb
 have He:=uQ (show ((la.toArray.toList:List UInt8)==lb.toArray.toList)=decide (la=lb) by
  rw [Bool.eq_iff_iff,beq_iff_eq,decide_eq_true_eq])
 clear ha hb
 go_enter Tryz.func171,Tryz.ntmps171
 go_wp2
 go_ret
 rw [← He.out]
 exact ⟨_,rfl,rfl,rfl⟩
theorem hasPrefix_c (l lp:Bs) (a:Option Addr) (n c:Nat) (hn:n≤c) (hc:c≤9223372036854775807) (ha:rdsl 1 (.slice a n c) (bys l) w) (pa:Option Addr) (pn pc:Nat) (hp:rdsl 1 (.slice pa pn pc) (bys lp) w) :
  Calls Tryz.prog 139 #[.slice a n c,.slice pa pn pc] w (Rtn fun v w'=>v = .bool (decide (l.take lp.length=lp))∧w=w'):=by
 have hln:n=l.length:=by
  obtain ⟨_,_,_,he,hl',_⟩:=ha
  cases he
  rw [bys_len,Nat.mul_one]at hl';exact hl'.symm
 have hpn:pn=lp.length:=by
  obtain ⟨_,_,_,he,hl',_⟩:=hp
  cases he
  rw [bys_len,Nat.mul_one]at hl';exact hl'.symm
 subst hln hpn
 by_cases hle:lp.length≤l.length
 ·have h4:=rdsl_cut4 (k:=lp.length) ha
  rw [show min l.length lp.length=lp.length by omega]at h4
  have hq:=bequal_c _ _ h4 hp
  have c1:(lp.length:Int)≤(l.length:Int):=by omega
  have c2:(lp.length:Int)≤(c:Int):=by omega
  have c3:lp.length≤l.length:=hle
  clear h4 ha hp
  go_enter Tryz.func139,Tryz.ntmps139
  go_wp2_with (go_at_call 171;refine hq.mono ?_;rintro e w1 ⟨v,rfl,rfl,rfl⟩)
  go_ret
  exact ⟨_,rfl,rfl,rfl⟩
 ·have c1:¬ lp.length≤l.length:=hle
  have c2:decide ((lp.length:Int)≤(l.length:Int))=false:=decide_eq_false oQ
  have He:=uQ (show decide (l.take lp.length=lp)=false by
   apply decide_eq_false
   intro hh
   have:=congrArg List.length hh
   rw [List.length_take]at this
   omega)
  clear ha hp
  go_enter Tryz.func139,Tryz.ntmps139
  go_wp2
  go_ret
  rw [He.out]
  exact ⟨_,rfl,rfl,rfl⟩
end
end Go.Proofs.YtjbhhbnopnmcnaaGreatDoor
namespace Go.Frm
def cutE (long:Nat) (x:Ent):Ent:=⟨x.tag,x.key,x.data.take long⟩
def few (l:List Ent) (n long:Nat):List Ent:=(l.take n).map (cutE long)
end Go.Frm
namespace Go.Proofs.YtjbhhbnopnmcnaaGreatDoor
open Go Go.Sl Go.Med Go.MapKept Go.RowKit
section
variable {w0 w:World}{F R:List HProp}{v bv dv x lv:Value}
theorem rdsl_cut {k:Nat}{l:Bs}{a:Option Addr}{n c:Nat} (h:rdsl 1 (.slice a n c) (bys l) w):rdsl 1 (.slice a (min n k) c) (bys (l.take k)) w:=by
 obtain ⟨a',n',c',he,hl,hx⟩:=h
 cases he
 rw [bys_len,Nat.mul_one]at hl
 refine ⟨a,_,c,rfl,by rw [bys_len,List.length_take];omega,fun j y hj=>?_⟩
 have hj':(bys l)[j]?=some y:=by
  unfold bys at hj ⊢
  rw [List.map_take,List.getElem?_take]at hj
  split at hj
  ·exact hj
  ·cases hj
 exact hx j y hj'
theorem entA_one (e:Frm.Ent) (a:Option Addr) (n c:Nat):(entA e (.slice a n c)).toList.all (·.oneCell')=true:=by
 unfold entA entL
 rw [List.toList_toArray,List.all_cons,List.all_append]
 have:(bys e.key).all (·.oneCell')=true:=List.all_eq_true.2 (bys_one _)
 rw [this];rfl
end
end Go.Proofs.YtjbhhbnopnmcnaaGreatDoor
namespace Go.Frm
theorem read_ok {b:Bs} (h:(read b).2.2=0):9≤(read b).2.1∧(read b).2.1≤b.length∧(read b).1.key.length=32:=by
 unfold read at *
 dsimp only at *
 split at h
 ·simp at h
 rename_i h9
 rw [if_neg h9]
 split at h
 ·simp at h
 rename_i hf
 rw [if_neg hf]
 split at h
 ·simp at h
 rename_i hl
 rw [if_neg hl]
 split at h
 ·simp at h
 rename_i hc
 rw [if_neg hc]
 have hfit:fits (b.getD 8 0) (num ((b.drop 4).take 4))=true:=by
  cases hh:fits (b.getD 8 0) (num ((b.drop 4).take 4)) with
  |true=>rfl
  |false=>exact absurd hh hf
 have h9':9≤num ((b.drop 4).take 4):=by
  unfold fits at hfit
  split at hfit
  ·have:=of_decide_eq_true hfit;omega
  ·split at hfit
   ·have:=of_decide_eq_true hfit;omega
   ·split at hfit
    ·have:=of_decide_eq_true hfit;omega
    ·cases hfit
 split
 ·rename_i h41
  refine ⟨h9',Nat.not_lt.1 hl,?_⟩
  simp only [List.length_take,List.length_drop]
  omega
 ·exact ⟨h9',Nat.not_lt.1 hl,rfl⟩
theorem read_key (b:Bs):(read b).1.key.length=32:=by
 unfold read
 dsimp only
 split
 ·rfl
 split
 ·rfl
 split
 ·rfl
 split
 ·rfl
 rename_i h9 hf hl hc
 split
 ·rename_i h41
  simp only [List.length_take,List.length_drop]
  omega
 ·rfl
end Go.Frm
namespace Go.Proofs.YtjbhhbnopnmcnaaGreatDoor
open Go Go.Sl Go.Med Go.MapKept Go.RowKit
def fndL (f:Frm.Fnd) (dv:Value):List Value:=entL f.e dv++[.int .i64 f.at_,.int .i64 f.size]
def fndA (f:Frm.Fnd) (dv:Value):Array Value:=(fndL f dv).toArray
def fndsL (fs:List (Frm.Fnd×Value)):List Value:=fs.flatMap fun p=>fndL p.1 p.2
def dataF (fs:List (Frm.Fnd×Value)):HProp:=stars (fs.map fun p=>bsl p.2 p.1.e.data)
theorem fndL_len (f:Frm.Fnd) (dv:Value) (hk:f.e.key.length=32):(fndL f dv).length=36:=by unfold fndL;rw [List.length_append,entL_len _ _ hk];rfl
theorem fndA_size (f:Frm.Fnd) (dv:Value) (hk:f.e.key.length=32):(fndA f dv).size=36:=by unfold fndA;rw [List.size_toArray,fndL_len _ _ hk]
theorem fndsL_len {fs:List (Frm.Fnd×Value)} (hk:∀ p∈fs,p.1.e.key.length=32):(fndsL fs).length=36 * fs.length:=by
 unfold fndsL
 induction fs with
 |nil=>rfl
 |cons p fs ih=>
  rw [List.flatMap_cons,List.length_append,ih (fun q hq=>hk q (.tail _ hq)),fndL_len _ _ (hk p (.head _)),List.length_cons];omega
theorem fndsL_app (es fs:List (Frm.Fnd×Value)):fndsL (es++fs)=fndsL es++fndsL fs:=by unfold fndsL;rw [List.flatMap_append]
theorem dataF_snoc (es:List (Frm.Fnd×Value)) (x:Frm.Fnd) (dv:Value):dataF (es++[(x,dv)])=star (bsl dv x.e.data) (dataF es):=by
 unfold dataF
 rw [List.map_append,stars_append,star_comm]
 show star (stars [bsl dv x.e.data]) _=_
 rw [stars_one]
theorem plFnd:placesB Tryz.prog 180=some [(0,34),(34,1),(35,1)]:=by kernel_rfl
def zeroF:Frm.Fnd:=⟨Frm.zeroE,0,0⟩
theorem zFnd:zeroB Tryz.prog 180=some (.agg (fndA zeroF (.slice none 0 0))):=by kernel_rfl
theorem puts3f (cs:Array Value) (hs:cs.size=36) (el:List Value) (u v:Value) (hk:el.length=34):(putsAt (putsAt (putsAt cs 0 el) 34 [u]) 35 [v]).toList=el++[u,v]:=by
 have hcl:cs.toList.length=36:=by simpa using hs
 have e1:(putsAt cs 0 el).toList=el++cs.toList.drop 34:=by
  rw [putsAt_list _ _ _ oQ,List.take_zero,List.nil_append,Nat.zero_add,hk]
 have e2:(putsAt (putsAt cs 0 el) 34 [u]).toList=el++[u]++cs.toList.drop 35:=by
  rw [putsAt_list _ _ _ (by rw [putsAt_size];simp;omega),e1,List.take_append_of_le_length oQ,List.take_of_length_le oQ,List.length_singleton,List.drop_append,hk,List.drop_of_length_le (l:=el) oQ,List.nil_append,List.drop_drop]
 have h3:(el++[u]).length=35:=by simp [hk]
 rw [putsAt_list _ _ _ (by rw [putsAt_size,putsAt_size];simp;omega),e2,List.take_append_of_le_length oQ,List.take_of_length_le oQ,List.length_singleton,List.drop_of_length_le (by rw [List.length_append,h3,List.length_drop];omega)]
 simp
set_option maxRecDepth 20000 in
theorem run_buildFnd (e:Frm.Ent) (hk:e.key.length=32) (da:Option Addr) (dn dc:Nat) (at_ n:Nat) (w:World) :
  (Instr.build 180 #[(0,.agg (entA e (.slice da dn dc))),(1,.int .i64 at_),(2,.int .i64 n)]).run Tryz.prog w = .ok (.agg (fndA ⟨e,at_,n⟩ (.slice da dn dc))) w:=by
 have hz:(fndA zeroF (.slice none 0 0)).size=36:=fndA_size _ _ rfl
 have he:(entA e (.slice da dn dc)).size=34:=entA_size _ _ hk
 have h:=run_build (P:=Tryz.prog) [(0,.agg (entA e (.slice da dn dc))),(1,.int .i64 at_),(2,.int .i64 n)] plFnd zFnd (by
  intro p hp
  simp only [List.mem_cons,List.not_mem_nil,or_false]at hp
  have hzz:(Value.agg (fndA zeroF (.slice none 0 0))).cells.size=36:=hz
  rw [hzz]
  rcases hp with rfl|rfl|rfl
  ·refine ⟨0,?_,?_⟩
   ·show some (0,34)=some (0,(entA e (.slice da dn dc)).size);rw [he]
   ·show 0+(entA e (.slice da dn dc)).size≤36;omega
  ·exact ⟨34,rfl,by show 34+1≤36;omega⟩
  ·exact ⟨35,rfl,by show 35+1≤36;omega⟩) w
 refine h.trans ?_
 congr 2
 apply putsAt_eq
 exact puts3f _ hz _ _ _ (show (entA e (.slice da dn dc)).toList.length=34 by rw [Array.length_toList,he])
section
variable {w0 w:World}{L L' R:List HProp}{b:Nat}{ops:Array Oper}{rest:List Oper}{a:Act}{Q:Exit→Act→World→Prop}
variable {dst:Option Tmp}{t T ty:TypeId}{pos:String}{after:Array Edge}{x y z:Operand}{cs:Array Value}{v v1 v2 v3:Value}{i1 i2 i3:Nat}{P:Program}
theorem wl_build3 (h1:a.eval x=v1) (h2:a.eval y=v2) (h3:a.eval z=v3) (hr:∀ w,(Instr.build ty #[(i1,v1),(i2,v2),(i3,v3)]).run P w = .ok v w) (h:wpList P ops Q rest (a.put dst v) w) :
  wpList P ops Q (⟨dst,.build ty #[(i1,x),(i2,y),(i3,z)],t,pos,after,none⟩::rest) a w:=
 wpList_plain rfl fun _ hK=>by
  unfold Oper.wp execOp
  simp only [List.map_toArray,List.map_cons,List.map_nil,h1,h2,h3,Sem.run_bind,hr,Result.andThen_ok,Sem.run_pure]
  exact hK _ _ h
theorem at_build3 (h:Stop (wpList P ops Q (⟨dst,.build ty #[(i1,x),(i2,y),(i3,z)],t,pos,after,none⟩::rest) a w)):wpList P ops Q (⟨dst,.build ty #[(i1,x),(i2,y),(i3,z)],t,pos,after,none⟩::rest) a w:=h.out
theorem fndA_ones (f:Frm.Fnd) (a:Option Addr) (n c:Nat):(fndA f (.slice a n c)).toList.all (·.oneCell')=true:=by
 unfold fndA fndL
 rw [List.toList_toArray,List.all_append]
 have h1:(entL f.e (.slice a n c)).all (·.oneCell')=true:=by
  have:=entA_one f.e a n c
  unfold entA at this
  rwa [List.toList_toArray]at this
 rw [h1];rfl
end
end Go.Proofs.YtjbhhbnopnmcnaaGreatDoor
namespace Go.Seg
def Log.next (L:Log):Int:=match L.l.getLast? with
 |none=>0
 |some s=>s.1+1
end Go.Seg
namespace Go.Proofs.YtjbhhbnopnmcnaaGreatDoor
open Go Go.Sl Go.Med Go.MapKept Go.RowKit
section
variable {w0 w:World}{F:List HProp}{v bv dv x lv:Value}{q p m K:Nat}{L:Seg.Log}{M:Med}
theorem segw_at (l:List (Int×Int)) (i:Nat) (s:Int×Int) (h:l[i]?=some s):(segw l)[2 * i]?=some (.int .i64 s.1)∧(segw l)[2 * i+1]?=some (.int .i64 s.2):=by
 induction l generalizing i with
 |nil=>simp at h
 |cons a l ih=>
  cases i with
  |zero=>
   obtain rfl:a=s:=by simpa using h
   exact ⟨rfl,rfl⟩
  |succ i=>
   have e1:segw (a::l) = .int .i64 a.1 :: .int .i64 a.2::segw l:=rfl
   have h':l[i]?=some s:=by simpa using h
   rw [e1,show 2 * (i+1)=2 * i+1+1 by omega]
   exact ih i h'
theorem last_cells {s:Int×Int} (hl:L.l.getLast?=some s) (h:Sat w0 w (logPt p m L lv::osl 123 2 lv (segw L.l)::F)) :
  ∃ bk n c,lv = .slice (some ⟨bk,0,none⟩) (n+1) c∧L.l.length=n+1∧w.cell? ⟨bk,2 * n,none⟩=some (.int .i64 s.1)∧w.cell? ⟨bk,2 * n+1,none⟩=some (.int .i64 s.2):=by
 rw [List.getLast?_eq_getElem?]at hl
 have hlt:=(List.getElem?_eq_some_iff.1 hl).1
 obtain ⟨n,hn⟩:∃ n,L.l.length=n+1:=⟨L.l.length - 1,by omega⟩
 rw [hn,Nat.add_sub_cancel]at hl
 obtain ⟨h1,h2⟩:=segw_at _ _ _ hl
 have hS:Sat w0 w (osl 123 2 lv (segw L.l)::logPt p m L lv::F):=h.pick1
 rcases hS.osl_cases with ⟨rfl,hx,_⟩|⟨b,n',cap,cs,rfl,hll,hn',hc,hcm,htk,hp⟩
 ·rw [hx]at h1;simp at h1
 ·rw [segw_len,hn]at hll
  obtain rfl:n'=n+1:=by omega
  exact ⟨b,n,cap,rfl,hn,hp.cellAt _ _ (take_get htk h1),hp.cellAt _ _ (take_get htk h2)⟩
theorem snext_c (hlen:L.l.length≤1048576) (hb:∀ s∈L.l,0≤s.1∧s.1<1048576) (h:Sat w0 w (logPt p m L lv::osl 123 2 lv (segw L.l)::F)) :
  Calls Tryz.prog 118 #[ptr p] w (Rtn fun v w'=>v = .int .i64 L.next∧Sat w0 w' (logPt p m L lv::osl 123 2 lv (segw L.l)::F)):=by
 cases hl:L.l.getLast? with
 |none=>
  have hnil:=List.getLast?_eq_none_iff.1 hl
  refine (next0_c hnil h).mono ?_
  rintro e w1 ⟨v,rfl,rfl,rfl⟩
  exact ⟨_,rfl,by unfold Seg.Log.next;rw [hl],h⟩
 |some s=>
  have Hfin:=uQ (show L.next=s.1+1 by unfold Seg.Log.next;rw [hl])
  have hs:=hb s (List.mem_of_getLast? hl)
  obtain ⟨bk,n,c,rfl,hn,c1,c2'⟩:=last_cells hl h
  have hok:=ok_c h
  have c2:=h.cellAt 2 _ rfl
  have hS:=h.drew
  have c1':w.drew.cell? ⟨bk,n * 2,none⟩=some (.int .i64 s.1):=by rw [Nat.mul_comm];exact c1
  have hwn:IntKind.i64.wrap (n:Int)=(n:Int):=by rw [IntKind.wrap_i64];omega
  have hn0:(n:Int)<(n:Int)+1:=by omega
  have cd:w.drew.cell? ⟨p,2,none⟩=some (.slice (some ⟨bk,0,none⟩) (n+1) c):=c2
  have hw1:IntKind.i64.wrap (s.1+1)=s.1+1:=by rw [IntKind.wrap_i64];omega
  have Hs:=uQ hs;have Hn:=uQ hn
  clear hs hn hb hlen hl c2'
  go_enter Tryz.func118,Tryz.ntmps118
  go_wp2_with (go_at_call 71;refine hok.mono ?_;rintro e w1 ⟨v,rfl,rfl,rfl⟩)
  go_region
  go_wp2
  go_ret
  exact ⟨_,rfl,by rw [Hfin.out];rfl,hS⟩
end
end Go.Proofs.YtjbhhbnopnmcnaaGreatDoor
namespace Go.Seg
open Go.Med
structure Plc where
 seg:Int
 at_:Int
 size:Int
def Plc.zero:Plc:=⟨0,0,0⟩
def mag:Bs:=[72,79,65,82,68,83,69,71]
def Log.grow (L:Log) (M:Med) (b:Bs):(Log×Med)×Plc×Int:=
 match L.l.getLast? with
 |none=>((L,M),Plc.zero,0)
 |some s=>
  if (M.append (name s.1) b).2=0 then (({ L with l:=L.l.dropLast++[(s.1,s.2+(b.length:Int))] },(M.append (name s.1) b).1),⟨s.1,s.2,b.length⟩,0)
  else ((L,(M.append (name s.1) b).1),Plc.zero,(M.append (name s.1) b).2)
def Log.shut (L:Log) (M:Med):(Log×Med)×Int:=
 match L.l.getLast? with
 |none=>((L,M),0)
 |some s=>
  if L.on=true then
   if (M.sync (name s.1)).2=0 then (({ L with on:=false },(M.sync (name s.1)).1),0)
   else ((L,(M.sync (name s.1)).1),(M.sync (name s.1)).2)
  else ((L,M),0)
def Log.begin1 (L:Log) (M:Med) (b:Bs):(Log×Med)×Plc×Int:=
 if 1048576≤L.next then ((L,M),Plc.zero,16)
 else if (M.create (name L.next)).2≠0 then ((L,(M.create (name L.next)).1),Plc.zero,(M.create (name L.next)).2)
 else if ((M.create (name L.next)).1.append (name L.next) (mag++b)).2=0 then
  (({ L with l:=L.l++[(L.next,8+(b.length:Int))],on:=true,fresh:=L.fresh+1 },((M.create (name L.next)).1.append (name L.next) (mag++b)).1),⟨L.next,8,b.length⟩,0)
 else if ((M.create (name L.next)).1.append (name L.next) (mag++b)).2=11 then
  ((L,(((M.create (name L.next)).1.append (name L.next) (mag++b)).1.remove (name L.next)).1),Plc.zero,
   if (((M.create (name L.next)).1.append (name L.next) (mag++b)).1.remove (name L.next)).2=0 then 11 else (((M.create (name L.next)).1.append (name L.next) (mag++b)).1.remove (name L.next)).2)
 else ((L,((M.create (name L.next)).1.append (name L.next) (mag++b)).1),Plc.zero,((M.create (name L.next)).1.append (name L.next) (mag++b)).2)
def Log.begin (L:Log) (M:Med) (b:Bs):(Log×Med)×Plc×Int:=
 if (L.shut M).2=0 then (L.shut M).1.1.begin1 (L.shut M).1.2 b else ((L.shut M).1,Plc.zero,(L.shut M).2)
def Log.fits (L:Log) (n:Nat):Bool:=L.on && decide ((L.l.getLast?.map (·.2)).getD 0+n≤L.limit)
def Log.append (L:Log) (M:Med) (x:Frm.Ent):(Log×Med)×Plc×Int:=
 if (Frm.encode x).2≠0 then ((L,M),Plc.zero,(Frm.encode x).2)
 else if L.fits (Frm.encode x).1.length=true then L.grow M (Frm.encode x).1 else L.begin M (Frm.encode x).1
def comEnt:Frm.Ent:=⟨2,Frm.zero32,[]⟩
def Log.commit (L:Log) (M:Med):(Log×Med)×Int×Int:=
 if (L.append M comEnt).2.2≠0 then ((L.append M comEnt).1,0,(L.append M comEnt).2.2)
 else if ((L.append M comEnt).1.2.sync (name (L.append M comEnt).2.1.seg)).2≠0 then (((L.append M comEnt).1.1,((L.append M comEnt).1.2.sync (name (L.append M comEnt).2.1.seg)).1),0,((L.append M comEnt).1.2.sync (name (L.append M comEnt).2.1.seg)).2)
 else if (((L.append M comEnt).1.2.sync (name (L.append M comEnt).2.1.seg)).1.syncDir).2≠0 then (((L.append M comEnt).1.1,(((L.append M comEnt).1.2.sync (name (L.append M comEnt).2.1.seg)).1.syncDir).1),0,(((L.append M comEnt).1.2.sync (name (L.append M comEnt).2.1.seg)).1.syncDir).2)
 else (({ (L.append M comEnt).1.1 with on:=false,fresh:=0 },(((L.append M comEnt).1.2.sync (name (L.append M comEnt).2.1.seg)).1.syncDir).1),(L.append M comEnt).2.1.seg,0)
def Log.at (L:Log) (n:Int):Option Nat:=L.l.findIdx? (fun s=>s.1==n)
def Log.find (L:Log) (n:Int):Int:=match L.at n with
 |some i=>i
 |none=> -1
def Log.without (L:Log) (i:Nat):Log:=
 ⟨L.limit,L.l.eraseIdx i,if i+1=L.l.length then false else L.on,if (L.l.length:Int) - L.fresh≤i then L.fresh - 1 else L.fresh⟩
def Log.remove (L:Log) (M:Med) (n:Int):(Log×Med)×Int:=
 match L.at n with
 |none=>((L,M),9)
 |some i=>if (M.remove (name n)).2=0 then ((L.without i,(M.remove (name n)).1),0) else ((L,(M.remove (name n)).1),(M.remove (name n)).2)
def Log.size (L:Log) (n:Int):Int:=match L.at n with
 |none=>0
 |some i=>(L.l.getD i (0,0)).2
def Log.bytes (L:Log) (M:Med) (n:Int):Bs×Int:=match L.at n with
 |none=>([],9)
 |some _=>M.all (name n)
structure Log.Ok (L:Log):Prop where
 limit:128≤L.limit∧L.limit≤1048576
 rise:(L.l.map (·.1)).Pairwise (· < ·)
 nums:∀ s∈L.l,0≤s.1∧s.1<1048576
 sizes:∀ s∈L.l,0≤s.2∧s.2≤33554432
 fresh:0≤L.fresh∧L.fresh≤L.l.length
 on:L.on=true→L.l≠[]
theorem rise_len:∀ (l:List Int) (a:Int),l.Pairwise (· < ·)→(∀ x∈l,a≤x)→(∀ x∈l,x<1048576)→a≤1048576→(l.length:Int)≤1048576 - a
 |[],a,_,_,_,h=>by simp;omega
 |x::l,a,hp,h1,h2,h3=>by
  obtain ⟨hx,hp'⟩:=List.pairwise_cons.1 hp
  have e1:=h1 x (.head _)
  have e2:=h2 x (.head _)
  have:=rise_len l (x+1) hp' (fun y hy=>by have:=hx y hy;omega) (fun y hy=>h2 y (.tail _ hy)) oQ
  rw [List.length_cons];omega
theorem Log.Ok.len {L:Log} (h:L.Ok):L.l.length≤1048576:=by
 have:=rise_len (L.l.map (·.1)) 0 h.rise (by intro x hx;obtain ⟨s,hs,rfl⟩:=List.mem_map.1 hx;exact (h.nums s hs).1) (by intro x hx;obtain ⟨s,hs,rfl⟩:=List.mem_map.1 hx;exact (h.nums s hs).2) oQ
 rw [List.length_map]at this
 omega
theorem Log.Ok.shut {L:Log} (h:L.Ok) (M:Med):(L.shut M).1.1.Ok:=by
 unfold Log.shut
 split;· exact h
 split
 ·split
  ·exact ⟨h.limit,h.rise,h.nums,h.sizes,h.fresh,fun hh=>by cases hh⟩
  ·exact h
 ·exact h
theorem last_split {L:Log}{s:Int×Int} (h:L.l.getLast?=some s):L.l=L.l.dropLast++[s]:=by
 have hne:L.l≠[]:=by intro e;rw [e]at h;cases h
 have h2:=List.dropLast_concat_getLast hne
 rw [List.getLast?_eq_some_getLast hne]at h
 cases h
 exact h2.symm
theorem last_len {L:Log}{s:Int×Int} (h:L.l.getLast?=some s):L.l.length=L.l.dropLast.length+1:=by
 have:=congrArg List.length (last_split h)
 rw [List.length_append,List.length_singleton]at this
 exact this
theorem Log.Ok.next {L:Log} (h:L.Ok):0≤L.next∧L.next≤1048576∧∀ s∈L.l,s.1<L.next:=by
 unfold Log.next
 cases hl:L.l.getLast? with
 |none=>
  have:=List.getLast?_eq_none_iff.1 hl
  simp [this]
 |some s=>
  have hs:=h.nums s (List.mem_of_getLast? hl)
  refine ⟨by simp only;omega,by simp only;omega,?_⟩
  have e:=last_split hl
  have hr:=h.rise
  rw [e,List.map_append,List.pairwise_append]at hr
  intro t ht
  rw [e]at ht
  rcases List.mem_append.1 ht with ht|ht
  ·have:=hr.2.2 t.1 (List.mem_map.2 ⟨t,ht,rfl⟩) s.1 (by simp)
   simp only;omega
  ·rw [List.mem_singleton.1 ht];simp only;omega
theorem Log.Ok.snoc {L:Log} (h:L.Ok) (hn:L.next<1048576) (z:Nat) (hz:z≤16777216):({ L with l:=L.l++[(L.next,8+(z:Int))],on:=true,fresh:=L.fresh+1 }:Log).Ok:=by
 obtain ⟨n1,n2,n3⟩:=h.next
 have hf:=h.fresh
 refine ⟨h.limit,?_,?_,?_,⟨by simp only;omega,by simp only [List.length_append,List.length_singleton];omega⟩,fun _=>by simp⟩
 ·simp only
  rw [List.map_append,List.pairwise_append]
  refine ⟨h.rise,by simp,?_⟩
  intro a ha b hb
  obtain ⟨s,hs,rfl⟩:=List.mem_map.1 ha
  simp only [List.map_cons,List.map_nil,List.mem_singleton]at hb
  subst hb
  exact n3 s hs
 ·intro s hs
  rcases List.mem_append.1 hs with hs|hs
  ·exact h.nums s hs
  ·rw [List.mem_singleton.1 hs];exact ⟨n1,hn⟩
 ·intro s hs
  rcases List.mem_append.1 hs with hs|hs
  ·exact h.sizes s hs
  ·rw [List.mem_singleton.1 hs];exact ⟨by simp only;omega,by simp only;omega⟩
theorem Log.Ok.begin1 {L:Log} (h:L.Ok) (M:Med) (b:Bs) (hb:b.length≤16777216):(L.begin1 M b).1.1.Ok:=by
 unfold Log.begin1
 split;· exact h
 rename_i hn
 split;· exact h
 split;· exact h.snoc oQ _ hb
 split;· exact h
 exact h
theorem Log.Ok.begin {L:Log} (h:L.Ok) (M:Med) (b:Bs) (hb:b.length≤16777216):(L.begin M b).1.1.Ok:=by
 unfold Log.begin
 split
 ·exact (h.shut M).begin1 _ _ hb
 ·exact h.shut M
theorem Log.Ok.grow {L:Log} (h:L.Ok) (M:Med) (b:Bs) (hf:L.fits b.length=true):(L.grow M b).1.1.Ok:=by
 unfold Log.grow
 split;· exact h
 rename_i s hl
 split
 ·have e:=last_split hl
  have hr:=h.rise
  have hlen:L.l.length=L.l.dropLast.length+1:=last_len hl
  unfold Log.fits at hf
  rw [Bool.and_eq_true,decide_eq_true_eq,hl]at hf
  have hlim:=h.limit
  refine ⟨h.limit,?_,?_,?_,?_,fun _=>by simp⟩
  ·rw [e]at hr;simpa using hr
  ·intro t ht
   rcases List.mem_append.1 ht with ht|ht
   ·exact h.nums t (by rw [e];exact List.mem_append_left _ ht)
   ·rw [List.mem_singleton.1 ht]
    exact h.nums s (List.mem_of_getLast? hl)
  ·intro t ht
   rcases List.mem_append.1 ht with ht|ht
   ·exact h.sizes t (by rw [e];exact List.mem_append_left _ ht)
   ·rw [List.mem_singleton.1 ht]
    have:=h.sizes s (List.mem_of_getLast? hl)
    have h2:s.2+(b.length:Int)≤L.limit:=hf.2
    simp only;omega
  ·have:=h.fresh
   simp only [List.length_append,List.length_singleton]
   omega
 ·exact h
theorem encode_len (x:Frm.Ent) (hk:x.key.length=32):(Frm.encode x).1.length≤16425:=by
 unfold Frm.encode
 split;· simp
 rename_i hc
 have hd:x.data.length≤16384:=by
  unfold Frm.check at hc
  repeat' split at hc
  all_goals first|omega|simp at hc
 unfold Frm.body
 simp only [List.length_append,Frm.le_len,List.length_singleton]
 split
 ·simp;omega
 ·omega
theorem Log.Ok.append {L:Log} (h:L.Ok) (M:Med) (x:Frm.Ent) (hk:x.key.length=32):(L.append M x).1.1.Ok:=by
 have hl:=encode_len x hk
 unfold Log.append
 split;· exact h
 split
 ·rename_i hf;exact h.grow M _ hf
 ·exact h.begin M _ oQ
theorem Log.Ok.commit {L:Log} (h:L.Ok) (M:Med):(L.commit M).1.1.Ok:=by
 have h1:=h.append M comEnt rfl
 unfold Log.commit
 split;· exact h1
 split;· exact h1
 split;· exact h1
 exact ⟨h1.limit,h1.rise,h1.nums,h1.sizes,⟨Int.le_refl _,by simp⟩,fun hh=>by cases hh⟩
theorem Log.Ok.without {L:Log} (h:L.Ok) (i:Nat) (hi:i<L.l.length):(L.without i).Ok:=by
 have hsub:(L.l.eraseIdx i).Sublist L.l:=List.eraseIdx_sublist _ _
 have hlen:(L.l.eraseIdx i).length=L.l.length - 1:=List.length_eraseIdx_of_lt hi
 have hf:=h.fresh
 refine ⟨h.limit,h.rise.sublist (hsub.map _),fun s hs=>h.nums s (hsub.mem hs),fun s hs=>h.sizes s (hsub.mem hs),?_,?_⟩
 ·unfold Log.without
  simp only [hlen]
  split <;> omega
 ·unfold Log.without
  simp only
  split
  ·intro hh;cases hh
  ·intro _ e
   have:=congrArg List.length e
   rw [hlen]at this
   simp at this
   omega
theorem Log.at_lt {L:Log}{n:Int}{i:Nat} (h:L.at n=some i):i<L.l.length∧∃ s,L.l[i]?=some s∧s.1=n:=by
 unfold Log.at at h
 rw [List.findIdx?_eq_some_iff_getElem]at h
 obtain ⟨h1,h2,_⟩:=h
 exact ⟨h1,_,List.getElem?_eq_getElem h1,by simpa using h2⟩
theorem Log.Ok.remove {L:Log} (h:L.Ok) (M:Med) (n:Int):(L.remove M n).1.1.Ok:=by
 unfold Log.remove
 split;· exact h
 rename_i i hi
 split
 ·exact h.without i (Log.at_lt hi).1
 ·exact h
theorem Log.Ok.at_last {L:Log} (h:L.Ok){s:Int×Int} (hl:L.l.getLast?=some s):L.at s.1=some (L.l.length - 1):=by
 have e:=last_split hl
 have hlen:L.l.length=L.l.dropLast.length+1:=last_len hl
 have hr:=h.rise
 rw [e,List.map_append,List.pairwise_append]at hr
 unfold Log.at
 rw [List.findIdx?_eq_some_iff_getElem]
 refine ⟨by omega,?_,?_⟩
 ·have:L.l[L.l.length - 1]?=some s:=by rw [← List.getLast?_eq_getElem?];exact hl
  obtain ⟨h1,h2⟩:=List.getElem?_eq_some_iff.1 this
  rw [h2];simp
 ·intro j hj
  have hj':j<L.l.dropLast.length:=by omega
  have hx:L.l[j]'oQ=L.l.dropLast[j]:=by rw [List.getElem_dropLast]
  have h3:(L.l.dropLast[j]).1<s.1:=hr.2.2 (L.l.dropLast[j]).1 (List.mem_map.2 ⟨_,List.getElem_mem hj',rfl⟩) s.1 (by simp)
  rw [hx]
  rw [Bool.not_eq_true,beq_eq_false_iff_ne]
  omega
def Log.back:Nat→Log→Med→(Log×Med)×Int
 |0,L,M=>(({ L with on:=false },M),0)
 |k+1,L,M=>
  match L.l.getLast? with
  |none=>(({ L with on:=false },M),0)
  |some s=>if (L.remove M s.1).2=0 then Log.back k (L.remove M s.1).1.1 (L.remove M s.1).1.2 else L.remove M s.1
def Log.rollback (L:Log) (M:Med):(Log×Med)×Int:=L.back L.fresh.toNat M
theorem Log.Ok.shutOff {L:Log} (h:L.Ok):({ L with on:=false }:Log).Ok:=⟨h.limit,h.rise,h.nums,h.sizes,h.fresh,fun hh=>by cases hh⟩
end Go.Seg
