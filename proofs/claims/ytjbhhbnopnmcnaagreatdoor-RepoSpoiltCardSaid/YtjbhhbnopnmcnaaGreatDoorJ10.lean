import Derived.Test.YtjbhhbnopnmcnaaGreatDoorJ9
import Derived.Test.YtjbhhbnopnmcnaaGreatDoorShelf
import Derived.Laws.StructEq
set_option linter.unusedVariables false
set_option maxHeartbeats 128000000
namespace Go.Proofs.YtjbhhbnopnmcnaaGreatDoor
open Go Go.Sl Go.Med Go.MapKept Go.RowKit
def outK (b:Nat) (xs:List (Frm.Bs×Seg.Plc)):HProp:=Sl.ex fun ov:Value=>star (pt b (.cells #[ov] 158 (0,0))) (osl 166 35 ov (xs.flatMap kvL))
theorem res_t1 {fn:Func}{t:Tmp} (h:fn.results=#[.tmp t]) (tmps:Array Value) (P:Program) (w:World):(results fn tmps).run P w = .ok (tmps.getD t undef) w:=by
 simp only [results,h]
 simp
theorem endsM_ret {P:Program}{w0 w:World}{F:List HProp}{fn:Func}{a:Act}{K:Ending→World→Prop}{D:Nat}{v:Value} (ha:a.defers=[{ target:= .collected D,args:=#[] }]) (h:Sat w0 w (pt D (.deferred (some []))::F)) (hv:∀ w,(results fn a.tmps).run P w = .ok v w)
  (hK:∀ w',Sat w0 w' F→K (.returned v) w'):endsM P fn K .ret a w:=by
 show LeavesInM Fence.wide 0 P fn a.tmps K a.defers .returning w
 rw [ha]
 exact leaves_mark h hv hK
section
variable {w0 w:World}{F:List HProp}{p B b:Nat}{m:Frm.Bs→Option Seg.Plc}{kv xs:List (Frm.Bs×Seg.Plc)}
theorem outK_open (h:Sat w0 w (outK b xs::F)):∃ ov,Sat w0 w (pt b (.cells #[ov] 158 (0,0))::osl 166 35 ov (xs.flatMap kvL)::F):=by
 obtain ⟨ov,h1⟩:=Sat.ex.1 h
 exact ⟨ov,Sat.star.1 h1⟩
theorem outK_shut {ov:Value} (h:Sat w0 w (pt b (.cells #[ov] 158 (0,0))::osl 166 35 ov (xs.flatMap kvL)::F)):Sat w0 w (outK b xs::F):=Sat.ex.2 ⟨ov,Sat.star.2 h⟩
theorem zKeyed0:zeroB Tryz.prog 158=some (.slice none 0 0):=by kernel_rfl
set_option maxRecDepth 20000 in
theorem hrows_c (hl:Tab.Lists m kv) (hB:B≤13000000) (hkl:kv.length≤13000000) (hks:∀ q∈kv,q.1.length=32) (h:Sat w0 w (TabML p m B::F)) :
  Calls Tryz.prog 107 #[ptr p] w (Rtn fun v w'=>Sat w0 w' (osl 166 35 v (kv.flatMap kvL)::TabML p m B::F)):=by
 have Hl:=uQ hl;have HB:=uQ hB;have Hkl:=uQ hkl;have Hks:=uQ hks
 clear hl hB hkl hks
 refine calls_of_wp_marks Tryz.func107 rfl ?_
 simp only [Tryz.ntmps107,List.size_toArray,List.length_cons,List.length_nil,Nat.reduceAdd,Nat.reduceSub,Array.replicate_succ,Array.replicate_zero,List.push_toArray,List.append_toArray,List.nil_append,List.cons_append]
 go_wp2_with (with_reducible apply at_alloc)
 refine ⟨wl_alloc zKeyed0 h rfl ?_⟩
 intro b3 w3 h3
 go_wp2_with fail
 refine (allL_c h3).mono ?_
 rintro ee w4 ⟨v,rfl,bA,rfl,h4⟩
 go_wp2_with fail
 have h5:Sat w0 w4 (TabML p m B::pt bA (.cells #[ptr p] 57 (0,0))::outK b3 (kv.take 0)::F):=by
  have h6:Sat w0 w4 (pt b3 (.cells #[.slice none 0 0] 158 (0,0))::TabML p m B::pt bA (.cells #[ptr p] 57 (0,0))::F):=h4.sb
  exact (outK_shut (xs:=[]) ((Sat.osl_nil.2 h6).sb:Sat w0 w4 (pt b3 (.cells #[.slice none 0 0] 158 (0,0))::osl 166 35 (.slice none 0 0) []::TabML p m B::pt bA (.cells #[ptr p] 57 (0,0))::F))).sb
 clear h h3 h4
 refine wp_rangeFunc_sat (gf:=177) (lb:=#[ptr bA]) rFz (fun args w=>by kernel_rfl) (allL1_c HB.out Hl.out) ?_ (fun pre=>outK b3 (kv.take pre.length)::F) h5 ?_ ?_
 ·intro x hx
  obtain ⟨p,_,rfl⟩:=List.mem_map.1 hx
  rfl
 ·clear h5
  intro l pre x post U W hkv hS T hT
  obtain ⟨i,hi⟩:∃ i,i=pre.length:=⟨_,rfl⟩
  have hlt:i<kv.length:=by
   have:=congrArg List.length hkv
   rw [List.length_map,List.length_append,List.length_cons]at this
   omega
  obtain ⟨⟨k,y⟩,hy⟩:∃ p,kv[i]?=some p:=⟨_,List.getElem?_eq_getElem hlt⟩
  obtain rfl:x=abL (k,y):=by
   have e1:(kv.map abL)[i]?=some (abL (k,y)):=by rw [List.getElem?_map,hy];rfl
   rw [hkv,hi,List.getElem?_append_right (Nat.le_refl _),Nat.sub_self,List.getElem?_cons_zero]at e1
   exact Option.some.inj e1
  have hk32:=Hks.out _ (List.mem_of_getElem? hy)
  have htk:kv.take (i+1)=kv.take i++[(k,y)]:=by rw [List.take_add_one,hy,Option.toList_some]
  have hil:(pre++[abL (k,y)]).length=i+1:=by rw [List.length_append,hi];rfl
  have Htk:=uQ htk;have Hil:=uQ hil;have Hk32:=uQ (show k.length=32 from hk32)
  have Hln:=uQ (show ((kv.take i).flatMap kvL).length≤2147483648 from by
   rw [rows_len (k:=35) fun q hq=>kvL_len q (Hks.out q (List.mem_of_mem_take hq)),List.length_take]
   have:=Hkl.out
   omega)
  have hS0:Sat w0 W (outK b3 (kv.take i)::(F++U)):=by rw [hi];exact hS
  clear hkv hS hi hlt hy hk32 htk hil
  simp [abL]at hT
  subst hT
  refine wpIn_seq_k fun K hK=>?_
  refine region_in_lit rFz fun K2 hK2=>?_
  go_wp2_with (with_reducible apply at_alloc)
  refine ⟨wl_alloc zKey hS0 rfl ?_⟩
  intro b5 w5 h5
  go_wp2_with ((with_reducible refine at_store ⟨?_⟩);refine wl_storeA (bys k).toArray h5 rFz rFz (by rw [List.size_toArray,bys_len,Hk32.out];rfl) upd0 (by rw [List.size_toArray,bys_len,Hk32.out];kernel_rfl) (by rw [List.toList_toArray];exact bys_ones _) ?_;intro w6 h6)
  refine region_in_lit rFz fun K3 hK3=>?_
  go_wp2_with (with_reducible apply at_alloc)
  refine ⟨wl_alloc zValL h6 rfl ?_⟩
  intro b6 w7 h7
  go_wp2_with ((with_reducible refine at_store ⟨?_⟩);refine wl_storeA (penc y).toArray h7 rFz rFz rFz upd0 kRz rFz ?_;intro w8 h8)
  refine ⟨pt b6 (.cells (penc y).toArray 87 (0,0))::pt b5 (.cells (bys k).toArray 31 (0,0))::outK b3 (kv.take i)::F,h8,?_⟩
  clear h8 h7 h6 h5 hS0
  intro U' w9 h9
  have h10:Sat w0 w9 (pt b6 (.cells (penc y).toArray 87 (0,0))::pt b5 (.cells (bys k).toArray 31 (0,0))::outK b3 (kv.take i)::(F++U')):=h9
  clear h9
  obtain ⟨ov,h11⟩:=outK_open (h10.sb:Sat w0 w9 (outK b3 (kv.take i)::pt b6 (.cells (penc y).toArray 87 (0,0))::pt b5 (.cells (bys k).toArray 31 (0,0))::(F++U')))
  clear h10
  obtain ⟨oa,on,oc,rfl,_,_⟩:=Sat.rd (h11.pick pick1)
  refine wpIn_block (region_in_lit rFz fun K6 hK6=>?_)
  go_wp2_with (first
   |((with_reducible refine at_load ⟨?_⟩);first
    |refine wl_loadA h11 rFz pick2 Tryz.underlying87 rfl kRz ?_
    |refine wl_loadA h11 rFz pick3 Tryz.underlying31 rfl (by rw [List.size_toArray,bys_len,Hk32.out];kernel_rfl) ?_
    |refine wl_load1 h11 rFz pick0 nLz evD kRz ?_)
   |((with_reducible refine at_build2 ⟨?_⟩);refine wl_build2 rFz rFz (fun w=>run_kv k Hk32.out y w) ?_)
   |((with_reducible refine at_build1 ⟨?_⟩);refine wl_build1 (e:=166) (sz:=35) (by':=56) (cs:=(kvL (k,y)).toArray) kRz h11 rFz rfl (by rw [List.size_toArray,kvL_len _ Hk32.out]) nLz ?_;intro bN wN hN)
   |(with_reducible apply at_append))
  refine ⟨wl_app (cs:=(kvL (k,y)).toArray) 166 35 56 kRz hN rFz rFz pick2 pick0 (by rw [List.size_toArray,kvL_len _ Hk32.out]) nLz (by rw [List.toList_toArray];exact kvL_ones (k,y)) Hln.out (by rw [List.size_toArray,kvL_len _ Hk32.out];decide) nLz rfl ?_⟩
  intro b' n' c' w12 h12
  clear h11 hN
  go_wp2_with (with_reducible apply at_store)
  refine ⟨wl_store (cs':=#[.slice (some ⟨b',0,none⟩) n' c']) (h12.sb:Sat w0 w12 (pt b3 (.cells #[.slice oa on oc] 158 (0,0))::osl 166 35 (.slice (some ⟨b',0,none⟩) n' c') ((kv.take i).flatMap kvL++kvL (k,y))::(F++U'))) rFz rFz rFz upd0 nLz kRz rFz ?_⟩
  intro w13 h13
  go_wp2_with fail
  refine ⟨trivial,?_⟩
  rw [Hil.out,Htk.out]
  have h14:=outK_shut (xs:=kv.take i++[(k,y)]) (by rw [List.flatMap_append,List.flatMap_cons,List.flatMap_nil,List.append_nil];exact h13)
  exact h14
 ·intro D w8 h8
  have h9:Sat w0 w8 (TabML p m B::pt bA (.cells #[ptr p] 57 (0,0))::outK b3 kv::(F++[pt D (.deferred (some []))])):=by
   have q:=h8
   rw [List.length_map,List.take_length]at q
   exact q
  have hA:Sat w0 w8 (pt D (.deferred (some []))::TabML p m B::pt bA (.cells #[ptr p] 57 (0,0))::outK b3 kv::F):=
   Sat.appc (L:=TabML p m B::pt bA (.cells #[ptr p] 57 (0,0))::outK b3 kv::F) (R:=[pt D (.deferred (some []))]) h9
  clear h5 h8 h9
  obtain ⟨ov,hB2⟩:=outK_open (hA.sb:Sat w0 w8 (outK b3 kv::pt D (.deferred (some []))::TabML p m B::F))
  clear hA
  obtain ⟨oa,on,oc,rfl,_,_⟩:=Sat.rd (hB2.pick pick1)
  go_wp2_with ((with_reducible refine at_load ⟨?_⟩);refine wl_load1 hB2 rFz pick0 nLz evD kRz ?_)
  refine endsM_ret rfl (hB2.sb:Sat w0 w8 (pt D (.deferred (some []))::osl 166 35 (.slice oa on oc) (kv.flatMap kvL)::TabML p m B::F)) (fun w=>res_t1 (t:=2) rFz _ _ w) ?_
  intro w9 h9
  exact ⟨_,rfl,h9⟩
end
end Go.Proofs.YtjbhhbnopnmcnaaGreatDoor
namespace Go.Hin
open Go.Med
def name (lead:ByteArray) (n:Int):ByteArray:=if Seg.name n=ByteArray.empty then ByteArray.empty else lead++(Seg.name n).extract 4 12
def idx:ByteArray:=⟨#[105,100,120,46]⟩
def use:ByteArray:=⟨#[117,115,101,46]⟩
theorem seg_name (n:Int):Seg.name n=ByteArray.empty∨(Seg.name n).size=12∧(Seg.name n).data.toList.take 4=Seg.lead:=by
 unfold Seg.name
 split
 ·exact .inl rfl
 ·right
  refine ⟨?_,rfl⟩
  show (Seg.lead++Seg.digs n.toNat 8).toArray.size=12
  rw [List.size_toArray,List.length_append,Seg.digs_len];rfl
end Go.Hin
namespace Go.Proofs.YtjbhhbnopnmcnaaGreatDoor
open Go Go.Sl Go.Med Go.MapKept Go.RowKit
section
variable {w0 w:World}{F:List HProp}{v bv dv x:Value}{q m:Nat}
theorem hasPfx_c (s:ByteArray) (h1:s.size=12) (h2:s.data.toList.take 4=Seg.lead) (w:World) :
  Calls Tryz.prog 159 #[.string s,.string ⟨#[115,101,103,46]⟩] w (Rtn fun v w'=>v = .bool true∧w=w'):=by
 have h2d:((s.extract 0 4).toList==[115,101,103,46])=true:=by rw [ba_take s,h2];rfl
 have hle:(4:Int)≤(s.size:Int):=oQ
 clear h2
 go_enter Tryz.func159,Tryz.ntmps159
 go_wp2
 go_ret
 exact ⟨_,rfl,rfl,rfl⟩
theorem trimL_c (s:ByteArray) (h1:s.size=12) (h2:s.data.toList.take 4=Seg.lead) (w:World) :
  Calls Tryz.prog 192 #[.string s,.string ⟨#[115,101,103,46]⟩] w (Rtn fun v w'=>v = .string (s.extract 4 12)∧w=w'):=by
 have hp:=hasPfx_c s h1 h2 w
 go_enter Tryz.func192,Tryz.ntmps192
 go_wp2_with fail
 refine hp.mono ?_
 rintro e w1 ⟨v,rfl,rfl,rfl⟩
 clear hp
 go_wp2
 go_ret
 exact ⟨_,rfl,rfl,rfl⟩
theorem trim_c (s:ByteArray) (h1:s.size=12) (h2:s.data.toList.take 4=Seg.lead) (w:World) :
  Calls Tryz.prog 163 #[.string s,.string ⟨#[115,101,103,46]⟩] w (Rtn fun v w'=>v = .string (s.extract 4 12)∧w=w'):=by
 have hp:=trimL_c s h1 h2 w
 go_enter Tryz.func163,Tryz.ntmps163
 go_wp2_with fail
 refine hp.mono ?_
 rintro e w1 ⟨v,rfl,rfl,rfl⟩
 clear hp
 go_wp2
 go_ret
 exact ⟨_,rfl,rfl,rfl⟩
theorem hname_c (lead:ByteArray) (hl:lead.size=4) (n:Int) (h:Sat w0 w F) :
  Calls Tryz.prog 130 #[.string lead,.int .i64 n] w (Rtn fun v w'=>v = .string (Hin.name lead n)∧Sat w0 w' F):=by
 have hn:=sname_c n h
 have Hf:=uQ (show Hin.name lead n=if Seg.name n=ByteArray.empty then ByteArray.empty else lead++(Seg.name n).extract 4 12 from rfl)
 have Hc:=uQ (Hin.seg_name n)
 generalize Seg.name n=s at *
 go_enter Tryz.func130,Tryz.ntmps130
 go_wp2_with fail
 refine hn.mono ?_
 rintro e w1 ⟨v,rfl,rfl,hS⟩
 clear hn
 rcases Hc.out with rfl|⟨h1,h2⟩
 ·clear hl h
  go_wp2
  go_ret
  exact ⟨_,rfl,by rw [Hf.out];rfl,hS⟩
 ·have hne:s≠ByteArray.empty:=fun e=>by rw [e]at h1;cases h1
  have hne2:(s.toList==[])=false:=by
   rw [beq_eq_false_iff_ne,ByteArray.toList_eq]
   intro e
   have:=congrArg List.length e
   rw [Array.length_toList]at this
   have h1':s.data.size=12:=h1
   rw [h1']at this;cases this
  have hsz:¬ 9223372036854775807<lead.size+(s.extract 4 12).size:=by rw [hl,ByteArray.size_extract];omega
  have Hne:=uQ hne
  have ht:=trim_c s h1 h2
  clear hne h1 h2 hl h
  go_wp2_with fail
  refine (ht _).mono ?_
  rintro e w2 ⟨v,rfl,rfl,rfl⟩
  clear ht
  go_wp2
  go_ret
  exact ⟨_,rfl,by rw [Hf.out,if_neg Hne.out];rfl,hS⟩
theorem iname_c (n:Int) (h:Sat w0 w F):Calls Tryz.prog 88 #[.int .i64 n] w (Rtn fun v w'=>v = .string (Hin.name Hin.idx n)∧Sat w0 w' F):=by
 have hn:=hname_c Hin.idx rfl n h
 go_enter Tryz.func88,Tryz.ntmps88
 go_wp2_with fail
 refine hn.mono ?_
 rintro e w1 ⟨v,rfl,rfl,hS⟩
 clear hn
 go_wp2
 go_ret
 exact ⟨_,rfl,rfl,hS⟩
theorem uname_c (n:Int) (h:Sat w0 w F):Calls Tryz.prog 89 #[.int .i64 n] w (Rtn fun v w'=>v = .string (Hin.name Hin.use n)∧Sat w0 w' F):=by
 have hn:=hname_c Hin.use rfl n h
 go_enter Tryz.func89,Tryz.ntmps89
 go_wp2_with fail
 refine hn.mono ?_
 rintro e w1 ⟨v,rfl,rfl,hS⟩
 clear hn
 go_wp2
 go_ret
 exact ⟨_,rfl,rfl,hS⟩
def hM:Med:=Med.new 100
end
end Go.Proofs.YtjbhhbnopnmcnaaGreatDoor
namespace Go.Hin
open Go.Med
def number (s:ByteArray):Int×Bool:=
 if s.data.toList.take 4=[105,100,120,46]∨s.data.toList.take 4=[117,115,101,46] then Seg.number ⟨(Seg.lead++s.data.toList.drop 4).toArray⟩ else (0,false)
def newestL:List ByteArray→Int→Int
 |[],m=>m
 |f::l,m=>newestL l (if (number f).2=true then max m (number f).1 else m)
def newest (M:Med):Int:=newestL M.list (-1)
end Go.Hin
namespace Go.Proofs.YtjbhhbnopnmcnaaGreatDoor
open Go Go.Sl Go.Med Go.MapKept Go.RowKit
section
variable {P:Program}{w0 w:World}{L:List HProp}{ops:Array Oper}{rest:List Oper}{a:Act}{Q:Exit→Act→World→Prop}{dst:Option Tmp}{t ty e:TypeId}{pos:String}{after:Array Edge}{x y:Operand}{v1 v2:Value}{cs1 cs2:Array Value}{g:Nat×Bool}{op:Op}{sz by':Nat}
theorem run_slice2 (hb:appB P t e sz by'=true) (h1:v1.cells.size=sz) (h2:v2.cells.size=sz) (hle:2 * sz≤16777216) (w:World) :
  (Instr.buildSlice t 2 #[(0,v1),(1,v2)]).run P w = .ok (.slice (some ⟨w.heap.size,0,none⟩) 2 2) (w.alloc (.cells (v1.cells++v2.cells) e)):=by
 obtain ⟨hu,i,z,hi,hz,e1,e2,e3,e4⟩:=appB_spec hb
 subst e1
 have hzv:(zeroValue e).run P w = .ok z w:=by simp [zeroValue,typeInfo,hi,hz]
 have hsz':(sizeOf e).run P w = .ok i.size w:=by simp [sizeOf,typeInfo,hi]
 have hnz:¬ (2 * i.size=0):=oQ
 have hle':¬ (2 * i.size>2^24):=oQ
 unfold Instr.buildSlice
 simp only [Sem.run_bind,run_underlying hu,Result.andThen_ok,hsz',if_neg hle',if_neg hnz,hzv,Sem.run_pure]
 have hf:Instr.fill (fun i'=>some (i' * i.size,i.size)) ((Array.range (2 * i.size)).map (z.cells[· % z.cells.size]!)) [(0,v1),(1,v2)]=some (v1.cells++v2.cells):=by
  generalize hz0:(Array.range (2 * i.size)).map (z.cells[· % z.cells.size]!)=z0
  have hs1:z0.size=2 * i.size:=by rw [← hz0];simp
  have hf1:∀ (v:Value) (off:Nat) (cs:Array Value),v.cells.zipIdx.foldl (fun cs (c,j)=>cs.setIfInBounds (off+j) c) cs=putsAt cs off v.cells.toList:=fun v off cs=>by
   have:=foldl_puts v.cells.toList 0 off cs
   rw [Nat.add_zero]at this
   rw [← this,← Array.foldl_toList,Array.toList_zipIdx]
  unfold Instr.fill
  simp only [Nat.zero_mul]
  have hc:¬ ((v1.cells.size≠i.size || 0+v1.cells.size>z0.size)=true):=by
   rw [hs1];simp [h1];omega
  simp only [if_neg hc]
  rw [hf1]
  unfold Instr.fill
  simp only [Nat.one_mul]
  have hc2:¬ ((v2.cells.size≠i.size || i.size+v2.cells.size>(putsAt z0 0 v1.cells.toList).size)=true):=by
   rw [putsAt_size,hs1];simp [h2];omega
  simp only [if_neg hc2]
  rw [hf1]
  unfold Instr.fill
  congr 1
  apply Array.toList_inj.1
  have hl1:v1.cells.toList.length=i.size:=by rw [Array.length_toList];exact h1
  have hl2:v2.cells.toList.length=i.size:=by rw [Array.length_toList];exact h2
  have hz1:z0.toList.length=2 * i.size:=by rw [Array.length_toList];exact hs1
  rw [putsAt_list _ _ _ (by rw [putsAt_size,hs1,hl2];omega),putsAt_list _ _ _ (by rw [hs1,hl1];omega),Array.toList_append]
  rw [List.take_zero,List.nil_append,Nat.zero_add,List.take_append_of_le_length oQ,List.take_of_length_le oQ,List.drop_of_length_le (by rw [List.length_append,List.length_drop,hl1,hl2,hz1];omega),List.append_nil]
 simp only [hf]
 simp [newRow,go_sem]
theorem wl_two (hb:appB P ty e sz by'=true) (hs:Sat w0 w L) (hx:a.eval x=v1) (hy:a.eval y=v2) (hc1:v1.cells=cs1) (hc2:v2.cells=cs2) (h1:cs1.size=sz) (h2:cs2.size=sz) (hle:2 * sz≤16777216)
  (hK:∀ b w',Sat w0 w' (pt b (.cells (cs1++cs2) e (0,0))::L)→wpList P ops Q rest (a.put dst (.slice (some ⟨b,0,none⟩) 2 2)) w'):wpList P ops Q (⟨dst,.buildSlice ty 2 #[(0,x),(1,y)],t,pos,after,none⟩::rest) a w:=by
 subst hc1;subst hc2
 refine wpList_plain rfl fun _ hK'=>?_
 have hS:=hs.alloc (.cells (v1.cells++v2.cells) e)
 unfold Oper.wp execOp
 simp only [hx,hy,List.map_toArray,List.map_cons,List.map_nil,Sem.run_bind,Sem.run_pure,run_slice2 hb h1 h2 hle w,Result.andThen_ok]
 exact hK' _ _ (hK _ _ hS)
end
end Go.Proofs.YtjbhhbnopnmcnaaGreatDoor
namespace Go.Hin
open Go.Frm (Bs)
theorem pre_take (l p:List UInt8):Lib.hasPrefix l p=decide (l.take p.length=p):=by
 rw [Bool.eq_iff_iff,decide_eq_true_iff]
 unfold Lib.hasPrefix
 rw [List.isPrefixOf_iff_prefix,List.prefix_iff_eq_take]
 exact eq_comm
theorem cut_yes {l p:List UInt8} (h:l.take p.length=p):Lib.trimPrefix l p=l.drop p.length:=by
 unfold Lib.trimPrefix
 rw [if_pos (by rw [pre_take,decide_eq_true_iff];exact h)]
theorem num_yes {s:ByteArray} (h:s.data.toList.take 4=[105,100,120,46]∨s.data.toList.take 4=[117,115,101,46]):number s=Seg.number ⟨(Seg.lead++s.data.toList.drop 4).toArray⟩:=by unfold number;rw [if_pos h]
theorem num_no {s:ByteArray} (h:¬ (s.data.toList.take 4=[105,100,120,46]∨s.data.toList.take 4=[117,115,101,46])):number s=(0,false):=by unfold number;rw [if_neg h]
end Go.Hin
namespace Go.Proofs.YtjbhhbnopnmcnaaGreatDoor
open Go Go.Sl Go.Med Go.MapKept Go.RowKit
section
variable {P:Program}{w:World}{ops:Array Oper}{rest:List Oper}{a:Act}{Q:Exit→Act→World→Prop}{dst:Option Tmp}{t ty:TypeId}{pos:String}{after:Array Edge}{x y:Operand}
theorem at_two (h:Stop (wpList P ops Q (⟨dst,.buildSlice ty 2 #[(0,x),(1,y)],t,pos,after,none⟩::rest) a w)):wpList P ops Q (⟨dst,.buildSlice ty 2 #[(0,x),(1,y)],t,pos,after,none⟩::rest) a w:=h.out
end
section
variable {w0 w:World}{F:List HProp}{m K:Nat}{M:Med}
theorem cutpre_c (s p:ByteArray) (w:World):Calls Tryz.prog 79 #[.string s,.string p] w (Rtn fun v w'=>v = .tuple #[.string ⟨(Lib.trimPrefix s.data.toList p.data.toList).toArray⟩,.bool (Lib.hasPrefix s.data.toList p.data.toList)]∧w=w'):=
 (Tryz.strings_CutPrefix s p w).mono fun e w' ⟨he,hw⟩=>⟨_,he,rfl,hw.symm⟩
theorem cutyes_c (s p:ByteArray) (k:Nat) (hk:p.data.toList.length=k) (h:s.data.toList.take k=p.data.toList) (w:World):Calls Tryz.prog 79 #[.string s,.string p] w (Rtn fun v w'=>v = .tuple #[.string ⟨(s.data.toList.drop k).toArray⟩,.bool true]∧w=w'):=by
 subst hk
 have hc:=cutpre_c s p w
 rw [Hin.cut_yes h,Hin.pre_take,decide_eq_true h]at hc
 exact hc
theorem cutno_c (s p:ByteArray) (k:Nat) (hk:p.data.toList.length=k) (h:¬ s.data.toList.take k=p.data.toList) (w:World):Calls Tryz.prog 79 #[.string s,.string p] w (Rtn fun v w'=>(∃ r:ByteArray,v = .tuple #[.string r,.bool false])∧w=w'):=by
 subst hk
 have hc:=cutpre_c s p w
 rw [Hin.pre_take,decide_eq_false h]at hc
 exact hc.mono fun e w' ⟨v,he,hv,hw⟩=>⟨v,he,⟨_,hv⟩,hw⟩
theorem lead_add (r:List UInt8):(⟨#[115,101,103,46]⟩:ByteArray)++(⟨r.toArray⟩:ByteArray)=⟨(Seg.lead++r).toArray⟩:=by
 apply ByteArray.ext
 rw [ByteArray.data_append]
 apply Array.toList_inj.1
 simp [Seg.lead]
set_option maxRecDepth 20000 in
theorem hnumber_c (s:ByteArray) (hs:s.size≤4000000000) (h:Sat w0 w F) :
  Calls Tryz.prog 49 #[.string s] w (Rtn fun v w'=>v = .tuple #[.int .i64 (Hin.number s).1,.bool (Hin.number s).2]∧Sat w0 w' F):=by
 have Hs:=uQ hs
 have hsz:∀ r:List UInt8,r.length≤4000000000→¬ 9223372036854775807<(⟨#[115,101,103,46]⟩:ByteArray).size+(⟨r.toArray⟩:ByteArray).size:=fun r hr=>by
  have:(⟨r.toArray⟩:ByteArray).size=r.length:=by show r.toArray.size=_;exact List.size_toArray ..
  have h4:(⟨#[115,101,103,46]⟩:ByteArray).size=4:=rfl
  omega
 have Hsz:=uQ hsz
 have Hl:=uQ (show s.data.toList.length≤4000000000 from by rw [Array.length_toList];exact hs)
 clear hs hsz
 go_enter Tryz.func49,Tryz.ntmps49
 go_wp2_with ((with_reducible refine at_two ⟨?_⟩);refine wl_two (e:=9) (sz:=1) (by':=16) (cs1:=#[.string ⟨#[105,100,120,46]⟩]) (cs2:=#[.string ⟨#[117,115,101,46]⟩]) kRz h rFz rFz rfl rfl rfl rfl nLz ?_;intro b w1 h1)
 replace h1:Sat w0 w1 (pt b (.cells #[.string ⟨#[105,100,120,46]⟩,.string ⟨#[117,115,101,46]⟩] 9 (0,0))::F):=h1
 go_loopg [10] 3 (fun g iq wr=>∃ i:Nat,g=3 - i∧i≤2∧iq = .int .i64 i∧wr=w1∧(1≤i→¬ s.data.toList.take 4=[105,100,120,46])∧(2≤i→¬ s.data.toList.take 4=[117,115,101,46]))
 case atStart=>exact ⟨0,rfl,by omega,rfl,rfl,fun h=>by omega,fun h=>by omega⟩
 case round=>
  obtain ⟨i,rfl,hi,rfl,rfl,hn1,hn2⟩:=hrel
  have h01:i=0∨i=1∨i=2:=oQ
  clear hi h
  have c0:=h1.cellAt 0 (.string ⟨#[105,100,120,46]⟩) rfl
  have c1:=h1.cellAt 1 (.string ⟨#[117,115,101,46]⟩) rfl
  rcases h01 with rfl|rfl|rfl
  ·clear hn1 hn2 c1
   go_wp2_with fail
   by_cases ht:s.data.toList.take 4=[105,100,120,46]
   ·refine (cutyes_c s ⟨#[105,100,120,46]⟩ 4 rfl ht _).mono ?_
    rintro e w2 ⟨v,rfl,rfl,rfl⟩
    have hz:=Hsz.out (s.data.toList.drop 4) (by rw [List.length_drop];have:=Hl.out;omega)
    have Hy:=uQ (Hin.num_yes (s:=s) (.inl ht))
    clear ht Hsz
    go_wp2_with fail
    rw [show (⟨#[115,101,103,46]⟩:ByteArray)++(⟨(s.data.toList.drop 4).toArray⟩:ByteArray)=⟨(Seg.lead++s.data.toList.drop 4).toArray⟩ from lead_add _]
    refine (snumber_c _ h1).mono ?_
    rintro e w3 ⟨v,rfl,rfl,h3⟩
    go_wp2_with fail
    go_ret2
    exact ⟨_,rfl,by rw [Hy.out];rfl,h3.drop⟩
   ·refine (cutno_c s ⟨#[105,100,120,46]⟩ 4 rfl ht _).mono ?_
    rintro e w2 ⟨v,rfl,⟨r,rfl⟩,rfl⟩
    clear c0
    go_wp2_with fail
    go_roundg 2
    case measure=>omega
    case rel=>exact ⟨1,rfl,by omega,rfl,rfl,fun _=>ht,fun h=>by omega⟩
  ·have ht1:=hn1 oQ
   clear hn1 hn2 c0
   go_wp2_with fail
   by_cases ht:s.data.toList.take 4=[117,115,101,46]
   ·refine (cutyes_c s ⟨#[117,115,101,46]⟩ 4 rfl ht _).mono ?_
    rintro e w2 ⟨v,rfl,rfl,rfl⟩
    have hz:=Hsz.out (s.data.toList.drop 4) (by rw [List.length_drop];have:=Hl.out;omega)
    have Hy:=uQ (Hin.num_yes (s:=s) (.inr ht))
    clear ht ht1 Hsz
    go_wp2_with fail
    rw [show (⟨#[115,101,103,46]⟩:ByteArray)++(⟨(s.data.toList.drop 4).toArray⟩:ByteArray)=⟨(Seg.lead++s.data.toList.drop 4).toArray⟩ from lead_add _]
    refine (snumber_c _ h1).mono ?_
    rintro e w3 ⟨v,rfl,rfl,h3⟩
    go_wp2_with fail
    go_ret2
    exact ⟨_,rfl,by rw [Hy.out];rfl,h3.drop⟩
   ·refine (cutno_c s ⟨#[117,115,101,46]⟩ 4 rfl ht _).mono ?_
    rintro e w2 ⟨v,rfl,⟨r,rfl⟩,rfl⟩
    clear c1
    go_wp2_with fail
    go_roundg 1
    case measure=>omega
    case rel=>exact ⟨2,rfl,by omega,rfl,rfl,fun _=>ht1,fun _=>ht⟩
  ·have Hy:=uQ (Hin.num_no (s:=s) (fun h=>h.elim (hn1 oQ) (hn2 oQ)))
   clear hn1 hn2 c0 c1
   go_wp2_with fail
   go_ret2
   exact ⟨_,rfl,by rw [Hy.out];rfl,h1.drop⟩
end
section
variable {w0 w:World}{F:List HProp}{m K:Nat}{M:Med}
theorem nm_sl {v:Value}{l:List ByteArray} (h:rdsl 1 v (strs l) w):∃ a c,v = .slice a l.length c:=by
 obtain ⟨a,n,c,rfl,hl,hx⟩:=h
 unfold strs at hl
 rw [List.length_map,Nat.mul_one]at hl
 exact ⟨a,c,by rw [hl]⟩
theorem nm_cell {l:List ByteArray}{i:Nat}{s:ByteArray}{a:Option Addr}{n c:Nat} (h:rdsl 1 (.slice a n c) (strs l) w) (hi:l[i]?=some s):∃ bk off,a=some ⟨bk,off,none⟩∧w.cell? ⟨bk,off+i,none⟩=some (.string s):=by
 have hx:(strs l)[i]?=some (.string s):=by unfold strs;rw [List.getElem?_map,hi];rfl
 obtain ⟨bk,off,rfl,hc⟩:=rdsl_cells h hx
 exact ⟨bk,off,rfl,hc _ _ hx⟩
theorem list_len (ok:M.Ok K):M.list.length≤500:=by
 unfold Med.list
 split
 ·exact Nat.zero_le _
 ·rw [List.length_map];exact ok.nowOk.len
end
end Go.Proofs.YtjbhhbnopnmcnaaGreatDoor
namespace Go.Hin
open Go.Med
def tmp:ByteArray:=⟨#[116,109,112]⟩
def there (M:Med) (s:ByteArray):Bool:=decide ((M.size s).2=0)
def remTmp (M:Med):Med×Int:=if there M tmp=true then M.remove tmp else (M,0)
def fill (M:Med) (s:ByteArray) (b:Bs):Med×Int:=
 if (M.append tmp b).2=0 then
  (if ((M.append tmp b).1.sync tmp).2=0 then ((M.append tmp b).1.sync tmp).1.rename tmp s else (M.append tmp b).1.sync tmp)
 else if (M.append tmp b).2=11 then
  (if ((M.append tmp b).1.remove tmp).2=0 then (((M.append tmp b).1.remove tmp).1,11) else (M.append tmp b).1.remove tmp)
 else M.append tmp b
def write (M:Med) (s:ByteArray) (b:Bs):Med×Int:=
 if (remTmp M).2=0 then (if ((remTmp M).1.create tmp).2=0 then fill ((remTmp M).1.create tmp).1 s b else (remTmp M).1.create tmp) else remTmp M
def sweep (p:ByteArray→Bool):List ByteArray→Med→Med×Int
 |[],M=>(M,0)
 |f::l,M=>if p f=true then (if (M.remove f).2=0 then sweep p l (M.remove f).1 else M.remove f) else sweep p l M
def other (n:Int) (s:ByteArray):Bool:=(number s).2 && (number s).1 != n
def save2 (M:Med) (n:Int):Med×Int:=if M.syncDir.2=0 then sweep (other n) M.syncDir.1.list M.syncDir.1 else M.syncDir
def save1 (M:Med) (n:Int) (bu:Bs):Med×Int:=if (write M (name use n) bu).2=0 then save2 (write M (name use n) bu).1 n else write M (name use n) bu
def save (M:Med) (n:Int) (bi bu:Bs):Med×Int:=if (write M (name idx n) bi).2=0 then save1 (write M (name idx n) bi).1 n bu else write M (name idx n) bi
abbrev Kept:Type:=List (ByteArray×Nat×Fil)
section
variable {T:Kept}{s1 s2 s:ByteArray}{b1 b2 b:Bs}{K j:Nat}{M M':Med}{l:Names}{fs fs':Nat→Fil}
theorem tmp_ne:tmp≠ByteArray.empty:=by decide
end
end Go.Hin
namespace Go.Proofs.YtjbhhbnopnmcnaaGreatDoor
open Go Go.Sl Go.Med Go.MapKept Go.RowKit
section
variable {w0 w:World}{F:List HProp}{m fb nb b r:Nat}{M:Med}{bs:List Nat}{wv v bv:Value}{s:ByteArray}{l:Names}{fs:List Fil}{K:Nat}
theorem rename_c (hM:M.Ok K) (hK:K≤1099511627776) (h:Sat w0 w (MedRep m M::F)) (s t:ByteArray) (ht:t.size≤9223372036854775807) :
  Calls Tryz.prog 151 #[ptr m,.string s,.string t] w (Rtn fun v w'=>v=errno (M.rename s t).2∧Sat w0 w' (MedRep m (M.rename s t).1::F)):=by
 obtain ⟨bs,fb,nb,wv,hl,hR⟩:=MedRep.open h
 have hg:=good_c t w ht
 cases ho:M.off
 ·cases hn:nget M.now s with
  |none=>
   have hf:=find_none (s:=s) hR ho hn
   have Hfin:Hid (M.rename s t=(M,9)):=by show _=_;simp [Med.rename,ho,hn]
   clear ho hn
   go_enter Tryz.func151,Tryz.ntmps151
   go_wp2_with (first|(go_at_call 77;refine hf.mono ?_;rintro e w1 ⟨v,rfl,rfl,rfl⟩))
   go_ret
   exact ⟨errno 9,rfl,by rw [Hfin.out],by rw [Hfin.out];exact h⟩
  |some i=>
   have hf:=find_some (s:=s) hR ho hn
   cases hgs:good t
   ·rw [hgs]at hg
    have Hfin:Hid (M.rename s t=(M,7)):=by show _=_;simp [Med.rename,ho,hn,hgs]
    clear ho hn hgs
    go_enter Tryz.func151,Tryz.ntmps151
    go_wp2_with (first|(go_at_call 77;refine hf.mono ?_;rintro e w1 ⟨v,rfl,rfl,rfl⟩)|(go_at_call 157;refine hg.mono ?_;rintro e w1 ⟨v,rfl,rfl,rfl⟩))
    go_ret
    exact ⟨errno 7,rfl,by rw [Hfin.out],by rw [Hfin.out];exact h⟩
   rw [hgs]at hg
   have hst:=step_c hR hM.left
   cases hstep:M.step.2
   ·rw [hstep]at hst
    have Hfin:Hid (M.rename s t=(M.step.1,12)):=by show _=_;simp [Med.rename,ho,hn,hgs,hstep]
    clear ho hn hstep hgs
    go_enter Tryz.func151,Tryz.ntmps151
    go_wp2_with (first|(go_at_call 77;refine hf.mono ?_;rintro e w1 ⟨v,rfl,rfl,rfl⟩)|(go_at_call 157;refine hg.mono ?_;rintro e w1 ⟨v,rfl,rfl,rfl⟩)|(go_at_call 121;refine hst.mono ?_;rintro e w1 ⟨v,rfl,rfl,hS1⟩))
    go_ret
    refine ⟨errno 12,rfl,by rw [Hfin.out],?_⟩
    rw [Hfin.out]
    exact MedRep.shut (bs:=bs) (fb:=fb) (nb:=nb) (wv:=wv) (by rw [M.step_same.2.2.2.1];exact hl) (raw_step hS1)
   ·rw [hstep]at hst
    have Hfin:Hid (M.rename s t=(M.step.1.link ⟨s,t,i⟩,0)):=by show _=_;simp [Med.rename,ho,hn,hgs,hstep]
    have hne:=good_ne hgs
    have hl':bs.length=M.step.1.files.length:=by rw [M.step_same.2.2.2.1];exact hl
    have hlp:lnkPtr bs ⟨s,t,i⟩=ptr (bs.getD i 0):=by unfold lnkPtr;rw [if_neg hne]
    have Hl':=uQ hl';have Hlp:=uQ hlp
    clear ho hn hstep hgs hne hl' hlp
    generalize hq:bs.getD i 0=q at hf
    have Hq:=uQ hq;clear hq
    go_enter Tryz.func151,Tryz.ntmps151
    go_wp2_with (first|(go_at_call 77;refine hf.mono ?_;rintro e w1 ⟨v,rfl,rfl,rfl⟩)|(go_at_call 157;refine hg.mono ?_;rintro e w1 ⟨v,rfl,rfl,rfl⟩)|(go_at_call 121;fail))
    refine hst.mono ?_
    rintro e w1 ⟨v,rfl,rfl,hS1⟩
    have hlk:=link_rep hM.step hK Hl'.out ⟨s,t,i⟩ (raw_step hS1)
    rw [Hlp.out,Hq.out]at hlk
    go_wp2_with (go_at_call 122;go_must (refine hlk.mono ?_);rintro e w2 ⟨v2,rfl,hS2⟩)
    go_ret
    refine ⟨errno 0,rfl,by rw [Hfin.out],?_⟩
    rw [Hfin.out]
    exact hS2
 ·have hf:=find_off (s:=s) hR ho
  have Hfin:Hid (M.rename s t=(M,12)):=by show _=_;simp [Med.rename,ho]
  clear ho
  go_enter Tryz.func151,Tryz.ntmps151
  go_wp2_with (first|(go_at_call 77;refine hf.mono ?_;rintro e w1 ⟨v,rfl,rfl,rfl⟩))
  go_ret
  exact ⟨errno 12,rfl,by rw [Hfin.out],by rw [Hfin.out];exact h⟩
end
section
variable {w0 w:World}{F:List HProp}{v bv:Value}{q m K:Nat}{M:Med}
theorem hthere_c (hM:M.Ok K) (s:ByteArray) (h:Sat w0 w (MedRep m M::F)):Calls Tryz.prog 87 #[ptr m,.string s] w (Rtn fun v w'=>v = .bool (Hin.there M s)∧w=w'):=by
 have hs:=size_c hM h s
 have Hf:=uQ (show Hin.there M s=decide ((M.size s).2=0) from rfl)
 generalize M.size s=r at *
 obtain ⟨n,e⟩:=r
 dsimp only at hs
 have hb:(e==0)=decide (e=0):=by rw [Bool.eq_iff_iff,beq_iff_eq,decide_eq_true_eq]
 go_enter Tryz.func87,Tryz.ntmps87
 go_wp2_with fail
 refine hs.mono ?_
 rintro ee w1 ⟨v,rfl,rfl,rfl⟩
 clear hs
 go_wp2
 go_ret
 rw [Hf.out]
 exact ⟨_,rfl,by first|rfl|(rw [← hb];rfl)|simp,rfl⟩
set_option maxRecDepth 20000 in
theorem hwrite_c (hM:M.Ok K) (hK:K+4≤1099511627776) (s:ByteArray) (hs:s.size≤9223372036854775807) (b:Bs) (hr:Ro w0 F (rdsl 1 bv (bys b))) (hbv:∃ a n c,bv = .slice a n c) (h:Sat w0 w (MedRep m M::F)) :
  Calls Tryz.prog 109 #[ptr m,.string s,bv] w (Rtn fun v w'=>v=errno (Hin.write M s b).2∧Sat w0 w' (MedRep m (Hin.write M s b).1::F)):=by
 obtain ⟨ba,bn,bc,rfl⟩:=hbv
 have Hr:=uQ hr;have Hs:=uQ hs
 have hth:=hthere_c hM Hin.tmp h
 clear hr hs
 cases ht:Hin.there M Hin.tmp with
 |false=>
  have HX:=uQ (show Hin.write M s b=(if (M.create Hin.tmp).2=0 then Hin.fill (M.create Hin.tmp).1 s b else M.create Hin.tmp) by unfold Hin.write Hin.remTmp;rw [ht];rfl)
  rw [ht]at hth
  clear ht
  go_enter Tryz.func109,Tryz.ntmps109
  go_wp2_with fail
  refine hth.mono ?_
  rintro ee w1 ⟨v,rfl,rfl,rfl⟩
  clear hth
  have hcr:=create_c hM oQ h Hin.tmp dCz
  have ok1:=hM.create Hin.tmp
  generalize M.create Hin.tmp=r1 at *
  obtain ⟨M1,e1⟩:=r1
  dsimp only at hcr ok1
  clear h
  go_wp2_with fail
  refine hcr.mono ?_
  rintro ee w3 ⟨v,rfl,rfl,h3⟩
  clear hcr
  by_cases c1:e1=0
  rotate_left
  ·have hb1:(e1 != 0)=true:=bne_iff_ne.2 c1
   have HF:=uQ (show Hin.write M s b=(M1,e1) from HX.out.trans (if_neg c1))
   clear c1
   go_wp2
   go_ret
   rw [HF.out]
   exact ⟨_,rfl,rfl,h3⟩
  subst c1
  have HY:=uQ (show Hin.write M s b=Hin.fill M1 s b from HX.out.trans (if_pos rfl))
  clear HX
  have hap:=append_c ok1 oQ h3 Hin.tmp b Hr.out
  have ok2:=ok1.append Hin.tmp b
  have HE:=uQ (show Hin.fill M1 s b=(if (M1.append Hin.tmp b).2=0 then
    (if ((M1.append Hin.tmp b).1.sync Hin.tmp).2=0 then ((M1.append Hin.tmp b).1.sync Hin.tmp).1.rename Hin.tmp s else (M1.append Hin.tmp b).1.sync Hin.tmp)
   else if (M1.append Hin.tmp b).2=11 then
    (if ((M1.append Hin.tmp b).1.remove Hin.tmp).2=0 then (((M1.append Hin.tmp b).1.remove Hin.tmp).1,11) else (M1.append Hin.tmp b).1.remove Hin.tmp)
   else M1.append Hin.tmp b) from rfl)
  generalize M1.append Hin.tmp b=r2 at *
  obtain ⟨M2,e2⟩:=r2
  dsimp only at hap ok2
  clear h3
  go_wp2_with fail
  refine hap.mono ?_
  rintro ee w4 ⟨v,rfl,rfl,h4⟩
  clear hap
  by_cases c2:e2=0
  rotate_left
  ·have hb2:(e2 != 0)=true:=bne_iff_ne.2 c2
   by_cases c3:e2=11
   ·subst c3
    have hrm:=remove_c ok2 oQ h4 Hin.tmp
    have HG:=uQ (show Hin.write M s b=(if (M2.remove Hin.tmp).2=0 then ((M2.remove Hin.tmp).1,11) else M2.remove Hin.tmp) from HY.out.trans (HE.out.trans ((if_neg c2).trans (if_pos rfl))))
    generalize M2.remove Hin.tmp=r3 at *
    obtain ⟨M3,e3⟩:=r3
    dsimp only at hrm
    clear h4 c2 HY HE
    go_wp2_with fail
    refine hrm.mono ?_
    rintro ee w5 ⟨v,rfl,rfl,h5⟩
    clear hrm
    by_cases c4:e3=0
    ·have hb3:(e3 != 0)=false:=by rw [c4];rfl
     have HF:=uQ (HG.out.trans (if_pos c4))
     clear c4
     go_wp2
     go_ret
     rw [HF.out]
     exact ⟨_,rfl,rfl,h5⟩
    ·have hb3:(e3 != 0)=true:=bne_iff_ne.2 c4
     have HF:=uQ (HG.out.trans (if_neg c4))
     clear c4
     go_wp2
     go_ret
     rw [HF.out]
     exact ⟨_,rfl,rfl,h5⟩
   ·have hb3:(e2==11)=false:=beq_eq_false_iff_ne.2 c3
    have HF:=uQ (show Hin.write M s b=(M2,e2) from HY.out.trans (HE.out.trans ((if_neg c2).trans (if_neg c3))))
    clear c2 c3
    go_wp2
    go_ret
    rw [HF.out]
    exact ⟨_,rfl,rfl,h4⟩
  subst c2
  have hsy:=sync_c ok2 h4 Hin.tmp
  have ok3:=ok2.sync Hin.tmp
  have HG:=uQ (show Hin.write M s b=(if (M2.sync Hin.tmp).2=0 then (M2.sync Hin.tmp).1.rename Hin.tmp s else M2.sync Hin.tmp) from HY.out.trans (HE.out.trans (if_pos rfl)))
  generalize M2.sync Hin.tmp=r3 at *
  obtain ⟨M3,e3⟩:=r3
  dsimp only at hsy ok3
  clear h4 HY HE
  go_wp2_with fail
  refine hsy.mono ?_
  rintro ee w5 ⟨v,rfl,rfl,h5⟩
  clear hsy
  by_cases c4:e3=0
  rotate_left
  ·have hb3:(e3 != 0)=true:=bne_iff_ne.2 c4
   have HF:=uQ (show Hin.write M s b=(M3,e3) from HG.out.trans (if_neg c4))
   clear c4
   go_wp2
   go_ret
   rw [HF.out]
   exact ⟨_,rfl,rfl,h5⟩
  subst c4
  have hre:=rename_c ok3 oQ h5 Hin.tmp s Hs.out
  have HF:=uQ (show Hin.write M s b=M3.rename Hin.tmp s from HG.out.trans (if_pos rfl))
  generalize M3.rename Hin.tmp s=r4 at *
  obtain ⟨M4,e4⟩:=r4
  dsimp only at hre
  clear h5
  go_wp2_with fail
  refine hre.mono ?_
  rintro ee w6 ⟨v,rfl,rfl,h6⟩
  clear hre
  go_wp2
  go_ret
  rw [HF.out]
  exact ⟨_,rfl,rfl,h6⟩
 |true=>
  rw [ht]at hth
  have hrm:=remove_c hM oQ h Hin.tmp
  have okR:=hM.remove Hin.tmp
  have HR:=uQ (show Hin.write M s b=(if (M.remove Hin.tmp).2=0 then (if ((M.remove Hin.tmp).1.create Hin.tmp).2=0 then Hin.fill ((M.remove Hin.tmp).1.create Hin.tmp).1 s b else (M.remove Hin.tmp).1.create Hin.tmp) else M.remove Hin.tmp) by unfold Hin.write Hin.remTmp;rw [ht];rfl)
  generalize M.remove Hin.tmp=r0 at *
  obtain ⟨M0,e0⟩:=r0
  dsimp only at hrm okR
  clear ht
  go_enter Tryz.func109,Tryz.ntmps109
  go_wp2_with fail
  refine hth.mono ?_
  rintro ee w1 ⟨v,rfl,rfl,rfl⟩
  clear hth
  go_wp2_with fail
  refine hrm.mono ?_
  rintro ee w2 ⟨v,rfl,rfl,h2⟩
  clear hrm h
  by_cases c0:e0=0
  rotate_left
  ·have hb0:(e0 != 0)=true:=bne_iff_ne.2 c0
   have HF:=uQ (show Hin.write M s b=(M0,e0) from HR.out.trans (if_neg c0))
   clear c0
   go_wp2
   go_ret
   rw [HF.out]
   exact ⟨_,rfl,rfl,h2⟩
  subst c0
  have HX:=uQ (show Hin.write M s b=(if (M0.create Hin.tmp).2=0 then Hin.fill (M0.create Hin.tmp).1 s b else M0.create Hin.tmp) from HR.out.trans (if_pos rfl))
  clear HR
  have hcr:=create_c okR oQ h2 Hin.tmp dCz
  have ok1:=okR.create Hin.tmp
  generalize M0.create Hin.tmp=r1 at *
  obtain ⟨M1,e1⟩:=r1
  dsimp only at hcr ok1
  clear h2
  go_wp2_with fail
  refine hcr.mono ?_
  rintro ee w3 ⟨v,rfl,rfl,h3⟩
  clear hcr
  by_cases c1:e1=0
  rotate_left
  ·have hb1:(e1 != 0)=true:=bne_iff_ne.2 c1
   have HF:=uQ (show Hin.write M s b=(M1,e1) from HX.out.trans (if_neg c1))
   clear c1
   go_wp2
   go_ret
   rw [HF.out]
   exact ⟨_,rfl,rfl,h3⟩
  subst c1
  have HY:=uQ (show Hin.write M s b=Hin.fill M1 s b from HX.out.trans (if_pos rfl))
  clear HX
  have hap:=append_c ok1 oQ h3 Hin.tmp b Hr.out
  have ok2:=ok1.append Hin.tmp b
  have HE:=uQ (show Hin.fill M1 s b=(if (M1.append Hin.tmp b).2=0 then
    (if ((M1.append Hin.tmp b).1.sync Hin.tmp).2=0 then ((M1.append Hin.tmp b).1.sync Hin.tmp).1.rename Hin.tmp s else (M1.append Hin.tmp b).1.sync Hin.tmp)
   else if (M1.append Hin.tmp b).2=11 then
    (if ((M1.append Hin.tmp b).1.remove Hin.tmp).2=0 then (((M1.append Hin.tmp b).1.remove Hin.tmp).1,11) else (M1.append Hin.tmp b).1.remove Hin.tmp)
   else M1.append Hin.tmp b) from rfl)
  generalize M1.append Hin.tmp b=r2 at *
  obtain ⟨M2,e2⟩:=r2
  dsimp only at hap ok2
  clear h3
  go_wp2_with fail
  refine hap.mono ?_
  rintro ee w4 ⟨v,rfl,rfl,h4⟩
  clear hap
  by_cases c2:e2=0
  rotate_left
  ·have hb2:(e2 != 0)=true:=bne_iff_ne.2 c2
   by_cases c3:e2=11
   ·subst c3
    have hrm:=remove_c ok2 oQ h4 Hin.tmp
    have HG:=uQ (show Hin.write M s b=(if (M2.remove Hin.tmp).2=0 then ((M2.remove Hin.tmp).1,11) else M2.remove Hin.tmp) from HY.out.trans (HE.out.trans ((if_neg c2).trans (if_pos rfl))))
    generalize M2.remove Hin.tmp=r3 at *
    obtain ⟨M3,e3⟩:=r3
    dsimp only at hrm
    clear h4 c2 HY HE
    go_wp2_with fail
    refine hrm.mono ?_
    rintro ee w5 ⟨v,rfl,rfl,h5⟩
    clear hrm
    by_cases c4:e3=0
    ·have hb3:(e3 != 0)=false:=by rw [c4];rfl
     have HF:=uQ (HG.out.trans (if_pos c4))
     clear c4
     go_wp2
     go_ret
     rw [HF.out]
     exact ⟨_,rfl,rfl,h5⟩
    ·have hb3:(e3 != 0)=true:=bne_iff_ne.2 c4
     have HF:=uQ (HG.out.trans (if_neg c4))
     clear c4
     go_wp2
     go_ret
     rw [HF.out]
     exact ⟨_,rfl,rfl,h5⟩
   ·have hb3:(e2==11)=false:=beq_eq_false_iff_ne.2 c3
    have HF:=uQ (show Hin.write M s b=(M2,e2) from HY.out.trans (HE.out.trans ((if_neg c2).trans (if_neg c3))))
    clear c2 c3
    go_wp2
    go_ret
    rw [HF.out]
    exact ⟨_,rfl,rfl,h4⟩
  subst c2
  have hsy:=sync_c ok2 h4 Hin.tmp
  have ok3:=ok2.sync Hin.tmp
  have HG:=uQ (show Hin.write M s b=(if (M2.sync Hin.tmp).2=0 then (M2.sync Hin.tmp).1.rename Hin.tmp s else M2.sync Hin.tmp) from HY.out.trans (HE.out.trans (if_pos rfl)))
  generalize M2.sync Hin.tmp=r3 at *
  obtain ⟨M3,e3⟩:=r3
  dsimp only at hsy ok3
  clear h4 HY HE
  go_wp2_with fail
  refine hsy.mono ?_
  rintro ee w5 ⟨v,rfl,rfl,h5⟩
  clear hsy
  by_cases c4:e3=0
  rotate_left
  ·have hb3:(e3 != 0)=true:=bne_iff_ne.2 c4
   have HF:=uQ (show Hin.write M s b=(M3,e3) from HG.out.trans (if_neg c4))
   clear c4
   go_wp2
   go_ret
   rw [HF.out]
   exact ⟨_,rfl,rfl,h5⟩
  subst c4
  have hre:=rename_c ok3 oQ h5 Hin.tmp s Hs.out
  have HF:=uQ (show Hin.write M s b=M3.rename Hin.tmp s from HG.out.trans (if_pos rfl))
  generalize M3.rename Hin.tmp s=r4 at *
  obtain ⟨M4,e4⟩:=r4
  dsimp only at hre
  clear h5
  go_wp2_with fail
  refine hre.mono ?_
  rintro ee w6 ⟨v,rfl,rfl,h6⟩
  clear hre
  go_wp2
  go_ret
  rw [HF.out]
  exact ⟨_,rfl,rfl,h6⟩
end
end Go.Proofs.YtjbhhbnopnmcnaaGreatDoor
namespace Go.Hin
open Go.Med
section
variable {s:ByteArray}{b b1 b2:Bs}{K r:Nat}{M:Med}
theorem _root_.Go.Seg.Calm.rename (h:Seg.Calm K r M) (s t:ByteArray):Seg.Calm (K+1) r (M.rename s t).1:=by
 have f:=(Fits.does h.ok h.dst h.used ⟨3,s,t,0,0,[],[]⟩ (show (3:Int)≠8 by decide) (show (3:Int)≠9 by decide)).1
 exact ⟨h.ok.rename s t,h.quiet.rename s t,f.dst,f.used,f.room.trans h.room⟩
theorem good_tmp:good tmp=true:=by decide +kernel
theorem size_none (q:Quiet M) (h:nget M.now s=none):M.size s=(0,9):=by unfold Med.size;rw [q.off,h];rfl
theorem there_none (q:Quiet M) (h:nget M.now s=none):there M s=false:=by unfold there;rw [size_none q h];rfl
theorem nput_le (l:Names) (s:ByteArray) (i:Nat):(nput l s i).length≤l.length+1:=by rw [nput_len];have:=ndel_len l s;omega
theorem name_eq (ld:ByteArray) (n:Int) (h1:0≤n) (h2:n<1048576):(name ld n).data.toList=ld.data.toList++Seg.digs n.toNat 8:=by
 have hs:=Seg.good_name n h1 h2
 have hne:=good_ne hs
 unfold name
 rw [if_neg hne]
 have e:Seg.name n=⟨(Seg.lead++Seg.digs n.toNat 8).toArray⟩:=by unfold Seg.name;rw [if_neg oQ]
 rw [e]
 rw [ByteArray.data_append,Array.toList_append,ByteArray.data_extract,Array.toList_extract]
 show _++(List.extract (Seg.lead++Seg.digs n.toNat 8) 4 12)=_
 congr 1
theorem digs_goodC (n k:Nat):(Seg.digs n k).all goodC=true:=by
 rw [List.all_eq_true]
 intro c hc
 have:=(List.all_eq_true.1 (Seg.digs_dig k n)) c hc
 unfold Seg.isDig at this
 rw [Bool.and_eq_true,decide_eq_true_eq,decide_eq_true_eq]at this
 unfold goodC
 have e1:(48:UInt8)≤c:=UInt8.le_iff_toNat_le.2 this.1
 have e2:c≤57:=UInt8.le_iff_toNat_le.2 this.2
 simp [e1,e2]
theorem name_good {ld:ByteArray} (hl:ld.data.toList.length=4) (hg:ld.data.toList.all goodC=true) (n:Int) (h1:0≤n) (h2:n<1048576):good (name ld n)=true:=by
 have e:=name_eq ld n h1 h2
 have hs:(name ld n).size=12:=by
  show (name ld n).data.size=12
  rw [← Array.length_toList,e,List.length_append,hl,Seg.digs_len]
 unfold good
 rw [hs,e,List.all_append,hg,digs_goodC]
 rfl
theorem number_of {ld:ByteArray} (hl:ld.data.toList=[105,100,120,46]∨ld.data.toList=[117,115,101,46]) (n:Int) (h1:0≤n) (h2:n<1048576):number (name ld n)=(n,true):=by
 have e:=name_eq ld n h1 h2
 have hs:=Seg.number_name n h1 h2
 have e2:Seg.name n=⟨(Seg.lead++Seg.digs n.toNat 8).toArray⟩:=by unfold Seg.name;rw [if_neg oQ]
 rw [e2]at hs
 unfold number
 rw [e]
 rcases hl with hl|hl
 ·rw [hl,if_pos (.inl rfl)];exact hs
 ·rw [hl,if_pos (.inr rfl)];exact hs
theorem number_seg (n:Int):number (Seg.name n)=(0,false):=by
 unfold number
 rcases seg_name n with h|⟨_,h⟩
 ·rw [h,if_neg dCz]
 ·rw [h,if_neg dCz]
theorem number_tmp:number tmp=(0,false):=by
 unfold number
 rw [if_neg dCz]
theorem other_no {n:Int}{s:ByteArray} (h:(number s).2=false):other n s=false:=by unfold other;rw [h];rfl
theorem other_self {n:Int}{s:ByteArray} (h:number s=(n,true)):other n s=false:=by unfold other;rw [h];simp
theorem idx_l:idx.data.toList=[105,100,120,46]:=rfl
theorem use_l:use.data.toList=[117,115,101,46]:=rfl
theorem name_ne (n:Int) (h1:0≤n) (h2:n<1048576):name idx n≠name use n:=fun e=>by
 have a:=name_eq idx n h1 h2
 rw [e,name_eq use n h1 h2,idx_l,use_l]at a
 simp at a
theorem seg_ne_idx (m n:Int) (h1:0≤n) (h2:n<1048576):Seg.name m≠name idx n:=fun e=>by
 have a:=number_of (.inl idx_l) n h1 h2
 rw [← e,number_seg]at a
 simp at a
theorem seg_ne_use (m n:Int) (h1:0≤n) (h2:n<1048576):Seg.name m≠name use n:=fun e=>by
 have a:=number_of (.inr use_l) n h1 h2
 rw [← e,number_seg]at a
 simp at a
theorem idx_ne_tmp (n:Int) (h1:0≤n) (h2:n<1048576):name idx n≠tmp:=fun e=>by
 have a:=number_of (.inl idx_l) n h1 h2
 rw [e,number_tmp]at a
 simp at a
theorem use_ne_tmp (n:Int) (h1:0≤n) (h2:n<1048576):name use n≠tmp:=fun e=>by
 have a:=number_of (.inr use_l) n h1 h2
 rw [e,number_tmp]at a
 simp at a
end
end Go.Hin
namespace Go.Proofs.YtjbhhbnopnmcnaaGreatDoor
open Go Go.Sl Go.Med Go.MapKept Go.RowKit
abbrev capPt (b ps:Nat):HProp:=pt b (.cells #[ptr ps] 61 (0,0))
section
variable {w0 w:World}{F:List HProp}{m K b3 ps pi B:Nat}{M:Med}{n:Int}{uv tv:Value}{mp:Frm.Bs→Option Seg.Plc}
theorem hsave1_c (f:ByteArray) (hf:f.size≤4000000000) (h:Sat w0 w (capPt b3 ps::stPt ps n pi uv tv::F)) :
  Calls Tryz.prog 110 #[.string f,ptr b3] w (Rtn fun v w'=>v = .bool (Hin.other n f)∧Sat w0 w' (capPt b3 ps::stPt ps n pi uv tv::F)):=by
 have Ho:=uQ (show Hin.other n f=((Hin.number f).2 && (Hin.number f).1 != n) from rfl)
 have hn:=hnumber_c f hf h
 generalize Hin.number f=q at *
 obtain ⟨x,t⟩:=q
 dsimp only at hn
 clear h
 go_enter Tryz.func110,Tryz.ntmps110
 go_wp2_with fail
 refine hn.mono ?_
 rintro ee w1 ⟨v,rfl,rfl,h1⟩
 clear hn
 cases t with
 |false=>
  go_wp2_with fail
  go_ret
  exact ⟨_,rfl,by rw [Ho.out];rfl,h1⟩
 |true=>
  have e1:w1.cell? ⟨b3,0,none⟩=some (.pointer (some ⟨ps,0,none⟩)):=h1.cellP pick0 0 rfl
  have e2:w1.cell? ⟨ps,0,none⟩=some (.int .i64 n):=h1.cellP pick1 0 rfl
  go_wp2_with fail
  go_ret
  exact ⟨_,rfl,by rw [Ho.out];rfl,h1⟩
theorem ok_fill (hM:M.Ok K) (s:ByteArray) (b:Frm.Bs):(Hin.fill M s b).1.Ok (K+3):=by
 unfold Hin.fill
 split
 ·split
  ·exact ((hM.append _ _).sync _).rename _ _
  ·exact ((hM.append _ _).sync _).mono oQ
 ·split
  ·split
   ·exact ((hM.append _ _).remove _).mono oQ
   ·exact ((hM.append _ _).remove _).mono oQ
  ·exact (hM.append _ _).mono oQ
theorem ok_write (hM:M.Ok K) (s:ByteArray) (b:Frm.Bs):(Hin.write M s b).1.Ok (K+5):=by
 have hr:(Hin.remTmp M).1.Ok (K+1):=by
  unfold Hin.remTmp
  split
  ·exact hM.remove _
  ·exact hM.mono oQ
 unfold Hin.write
 split
 ·split
  ·exact ok_fill (hr.create _) _ _
  ·exact (hr.create _).mono oQ
 ·exact hr.mono oQ
theorem name_size {ld:ByteArray} (hl:ld.data.toList.length=4) (hg:ld.data.toList.all goodC=true) (h1:0≤n) (h2:n<1048576):(Hin.name ld n).size≤24∧((Hin.name ld n).toList==[])=false:=by
 have h:=Hin.name_good hl hg n h1 h2
 unfold good at h
 simp only [Bool.and_eq_true,decide_eq_true_eq]at h
 refine ⟨h.1.2,?_⟩
 rw [beq_eq_false_iff_ne,ByteArray.toList_eq]
 intro e
 have:=congrArg List.length e
 rw [Array.length_toList]at this
 have h3:(Hin.name ld n).size=0:=this
 omega
end
section
variable {w0 w:World}{F:List HProp}{m K b3 ps pi B:Nat}{M:Med}{n:Int}{uv tv:Value}{mp:Frm.Bs→Option Seg.Plc}
set_option maxRecDepth 20000 in
theorem sweepG_c (hM:M.Ok K) (hK:K+500≤1099511627776) (hno:∀ f∈M.list,f.size≤4000000000) (h:Sat w0 w (MedRep m M::capPt b3 ps::stPt ps n pi uv tv::F)) :
  Calls Tryz.prog 47 #[ptr m,.func (.func 110) #[] #[ptr b3]] w (Rtn fun v w'=>v=errno (Hin.sweep (Hin.other n) M.list M).2∧Sat w0 w' (MedRep m (Hin.sweep (Hin.other n) M.list M).1::capPt b3 ps::stPt ps n pi uv tv::F)):=by
 have hls:=list_c hM h
 have Hlen:=uQ (list_len hM)
 have Hn:=uQ hno;have HK:=uQ hK;have HM:=uQ hM
 clear hno hM hK
 generalize M.list=l at *
 obtain ⟨R,hR⟩:∃ R,Hin.sweep (Hin.other n) l M=R:=⟨_,rfl⟩
 have HR:=uQ hR
 rw [hR]
 clear hR
 go_enter Tryz.func47,Tryz.ntmps47
 go_wp2_with fail
 refine hls.mono ?_
 rintro e w1 ⟨v,rfl,hS,_⟩
 clear hls h
 obtain ⟨a,c,rfl⟩:=nm_sl (Sat.rd hS)
 go_wp2_with fail
 go_loopg [11] l.length (fun g iq wr=>∃ (i:Nat) (M2:Med),g=l.length - i∧i≤l.length∧iq = .int .i64 i∧(Hin.sweep (Hin.other n) (l.drop i) M2=R∧M2.Ok (K+i))∧Sat w0 wr (osl 9 1 (.slice a l.length c) (strs l)::MedRep m M2::capPt b3 ps::stPt ps n pi uv tv::F))
 case atStart=>exact ⟨0,M,rfl,Nat.zero_le _,rfl,⟨by rw [List.drop_zero];exact HR.out,HM.out⟩,hS⟩
 case round=>
  obtain ⟨i,M2,rfl,hi,rfl,⟨hsw,hok⟩,hS2⟩:=hrel
  clear hS
  by_cases hlt:i<l.length
  ·have c1:(i:Int)<(l.length:Int):=by omega
   have hwi:IntKind.i64.wrap ((i:Int)+1)=(i:Int)+1:=IntWalk.i64_in _ (by have:=Hlen.out;omega)
   obtain ⟨s,hs⟩:∃ s,l[i]?=some s:=⟨_,List.getElem?_eq_getElem hlt⟩
   obtain ⟨bk,off,rfl,hc⟩:=nm_cell (Sat.rd hS2) hs
   have hsz:=Hn.out s (List.mem_of_getElem? hs)
   have hd:l.drop i=s::l.drop (i+1):=by
    rw [List.drop_eq_getElem_cons hlt]
    rw [List.getElem?_eq_getElem hlt]at hs
    cases hs;rfl
   rw [hd]at hsw
   have Hlt:=uQ hlt;have Hok:=uQ hok
   have hcl:=hsave1_c s hsz (hS2.sb:Sat w0 wr (capPt b3 ps::stPt ps n pi uv tv::osl 9 1 (.slice (some ⟨bk,off,none⟩) l.length c) (strs l)::MedRep m M2::F))
   cases hso:Hin.other n s with
   |false=>
    have Hsw:=uQ (show Hin.sweep (Hin.other n) (l.drop (i+1)) M2=R by unfold Hin.sweep at hsw;rwa [if_neg (by rw [hso];decide)]at hsw)
    rw [hso]at hcl
    clear hs hlt hi hso hsw hd hok
    go_wp2_with fail
    refine hcl.mono ?_
    rintro e w2 ⟨v,rfl,rfl,hS3⟩
    clear hS2 hc hcl
    go_wp2_with fail
    go_roundg (l.length - (i+1))
    case measure=>have:=Hlt.out;omega
    case rel=>exact ⟨i+1,M2,rfl,Nat.succ_le_of_lt Hlt.out,by first|rfl|go_num,⟨Hsw.out,Hok.out.mono oQ⟩,hS3.sb⟩
   |true=>
    have Hsw:=uQ (show (if (M2.remove s).2=0 then Hin.sweep (Hin.other n) (l.drop (i+1)) (M2.remove s).1 else M2.remove s)=R by unfold Hin.sweep at hsw;rwa [if_pos hso]at hsw)
    rw [hso]at hcl
    have Hrm:=uQ (fun (w':World) (hw:Sat w0 w' (MedRep m M2::capPt b3 ps::stPt ps n pi uv tv::osl 9 1 (.slice (some ⟨bk,off,none⟩) l.length c) (strs l)::F))=>remove_c hok (by have:=HK.out;have:=Hlen.out;omega) hw s)
    have Hok2:=uQ (hok.remove s)
    generalize M2.remove s=q at *
    obtain ⟨M3,q3⟩:=q
    dsimp only at Hrm Hok2 Hsw
    clear hlt hi hso hsw hd hok
    go_wp2_with fail
    refine hcl.mono ?_
    rintro e w2 ⟨v,rfl,rfl,hS3⟩
    clear hS2 hcl
    have hS4:Sat w0 w2 (osl 9 1 (.slice (some ⟨bk,off,none⟩) l.length c) (strs l)::MedRep m M2::capPt b3 ps::stPt ps n pi uv tv::F):=hS3.sb
    obtain ⟨bk',off',hbo,hc'⟩:=nm_cell (Sat.rd hS4) hs
    cases hbo
    by_cases c3:q3=0
    ·have hb1:(q3 != 0)=false:=by rw [c3];rfl
     have Hs2:=uQ (show Hin.sweep (Hin.other n) (l.drop (i+1)) M3=R from (if_pos c3).symm.trans Hsw.out)
     clear c3 hc hs Hsw
     go_wp2_with fail
     refine (Hrm.out _ (hS3.sb)).mono ?_
     rintro e w3 ⟨v,rfl,rfl,hS5⟩
     clear hS3 hS4 hc'
     go_wp2_with fail
     go_roundg (l.length - (i+1))
     case measure=>have:=Hlt.out;omega
     case rel=>exact ⟨i+1,M3,rfl,Nat.succ_le_of_lt Hlt.out,by first|rfl|go_num,⟨Hs2.out,Hok2.out⟩,hS5.sb⟩
    ·have hb1:(q3 != 0)=true:=bne_iff_ne.2 c3
     have Hs2:=uQ (show (M3,q3)=R from (if_neg c3).symm.trans Hsw.out)
     clear c3 hc hs Hsw
     go_wp2_with fail
     refine (Hrm.out _ (hS3.sb)).mono ?_
     rintro e w3 ⟨v,rfl,rfl,hS5⟩
     clear hS3 hS4 hc'
     go_wp2_with fail
     go_ret
     exact ⟨_,rfl,by rw [← Hs2.out];rfl,by rw [← Hs2.out];exact hS5.sb⟩
  ·have c1:¬ (i:Int)<(l.length:Int):=by omega
   obtain rfl:i=l.length:=by omega
   have Hs2:=uQ (show (M2,0)=R by rw [List.drop_length]at hsw;exact hsw)
   clear hlt hi hsw hok
   go_wp2_with fail
   go_ret
   exact ⟨_,rfl,by rw [← Hs2.out];rfl,by rw [← Hs2.out];exact hS2.drop⟩
set_option maxRecDepth 20000 in
theorem hsaveG_c (hM:M.Ok K) (hK:K+600≤1099511627776) (hn0:0≤n) (hn1:n<1048576) (kv:List (Frm.Bs×Seg.Plc)) (hl:Tab.Lists mp kv) (hB:B≤13000000) (hk:∀ q∈kv,q.1.length=32) (us:List Rep.Use) (hoi:Bok.Ok 3 true (kv.map Rep.idxRw)) (hou:Bok.Ok 3 false (us.map Rep.useRw))
  (bi bu:Frm.Bs) (hbi:bi=Bok.book Xx.sum Bok.mgIdx true (kv.map Rep.idxRw)) (hbu:bu=Bok.book Xx.sum Bok.mgUse false (us.map Rep.useRw))
  (hno:∀ f∈(Hin.write (Hin.write M (Hin.name Hin.idx n) bi).1 (Hin.name Hin.use n) bu).1.syncDir.1.list,f.size≤4000000000)
  (h:Sat w0 w (stPt ps n pi uv tv::TabML pi mp B::osl 113 3 uv (us.flatMap uenc)::MedRep m M::F)) :
  Calls Tryz.prog 68 #[ptr m,ptr ps] w (Rtn fun v w'=>v=errno (Hin.save M n bi bu).2∧Sat w0 w' (stPt ps n pi uv tv::TabML pi mp B::osl 113 3 uv (us.flatMap uenc)::MedRep m (Hin.save M n bi bu).1::F)):=by
 obtain ⟨z1,z2⟩:=name_size (ld:=Hin.idx) rfl dCz hn0 hn1
 obtain ⟨z3,_⟩:=name_size (ld:=Hin.use) rfl dCz hn0 hn1
 have hkl:kv.length≤13000000:=by have:=hoi.len;rw [List.length_map]at this;omega
 have HM:=uQ hM;have HK:=uQ hK;have Hl:=uQ hl;have HB:=uQ hB;have Hk:=uQ hk;have Hoi:=uQ hoi;have Hou:=uQ hou;have Hno:=uQ hno;have Hkl:=uQ hkl
 have Hbi:=uQ hbi;have Hbu:=uQ hbu;have Hz1:=uQ z1;have Hz3:=uQ z3
 have Hnm:=uQ (fun (w':World) (R:List HProp) (hw:Sat w0 w' R)=>iname_c n hw)
 have Hum:=uQ (fun (w':World) (R:List HProp) (hw:Sat w0 w' R)=>uname_c n hw)
 have HS:=uQ (show Hin.save M n bi bu=if (Hin.write M (Hin.name Hin.idx n) bi).2=0 then Hin.save1 (Hin.write M (Hin.name Hin.idx n) bi).1 n bu else Hin.write M (Hin.name Hin.idx n) bi from rfl)
 clear hM hK hl hB hk hoi hou hno hbi hbu hkl z1 z3
 generalize hni:Hin.name Hin.idx n=ni at *
 generalize hnu:Hin.name Hin.use n=nu at *
 have Hnu:=uQ hnu
 clear hni hnu
 go_enter Tryz.func68,Tryz.ntmps68
 go_wp2_with (with_reducible apply at_box)
 refine ⟨wl_box h rFz rFz ?_⟩
 intro b3 w3 h3
 replace h3:Sat w0 w3 (capPt b3 ps::stPt ps n pi uv tv::TabML pi mp B::osl 113 3 uv (us.flatMap uenc)::MedRep m M::F):=h3
 clear h
 have e1:w3.cell? ⟨b3,0,none⟩=some (.pointer (some ⟨ps,0,none⟩)):=h3.cellP pick0 0 rfl
 have e2:w3.cell? ⟨ps,1,none⟩=some (.pointer (some ⟨pi,0,none⟩)):=h3.cellP pick1 1 rfl
 have e3:w3.cell? ⟨ps,0,none⟩=some (.int .i64 n):=h3.cellP pick1 0 rfl
 go_wp2_with fail
 refine (Hnm.out _ _ h3).mono ?_
 rintro ee w4 ⟨v,rfl,rfl,h4⟩
 clear h3 e1 e2 e3
 have e1:w4.cell? ⟨b3,0,none⟩=some (.pointer (some ⟨ps,0,none⟩)):=h4.cellP pick0 0 rfl
 have e2:w4.cell? ⟨ps,1,none⟩=some (.pointer (some ⟨pi,0,none⟩)):=h4.cellP pick1 1 rfl
 go_wp2_with fail
 refine (hrows_c Hl.out HB.out Hkl.out Hk.out (h4.sb:Sat w0 w4 (TabML pi mp B::capPt b3 ps::stPt ps n pi uv tv::osl 113 3 uv (us.flatMap uenc)::MedRep m M::F))).mono ?_
 rintro ee w5 ⟨rv,rfl,h5⟩
 clear h4 e1 e2
 go_wp2_with fail
 refine (bindex_c kv Hk.out Hoi.out (fun w hw=>Sat.rd hw) h5).mono ?_
 rintro ee w6 ⟨v,rfl,iv,rfl,h6⟩
 clear h5
 rw [← Hbi.out]at h6
 replace h6:Sat w0 w6 (abl iv bi::capPt b3 ps::stPt ps n pi uv tv::TabML pi mp B::osl 113 3 uv (us.flatMap uenc)::MedRep m M::F):=h6.sb
 have e1:w6.cell? ⟨b3,0,none⟩=some (.pointer (some ⟨ps,0,none⟩)):=h6.cellP pick1 0 rfl
 have e2:w6.cell? ⟨ps,2,none⟩=some uv:=h6.cellP pick2 2 rfl
 go_wp2_with fail
 refine (buses_c us Hou.out (fun w hw=>Sat.rd (hw.sb:Sat w0 w (osl 113 3 uv (us.flatMap uenc)::abl iv bi::capPt b3 ps::stPt ps n pi uv tv::TabML pi mp B::MedRep m M::F))) h6).mono ?_
 rintro ee w7 ⟨v,rfl,uw,rfl,h7⟩
 clear h6 e1 e2
 rw [← Hbu.out]at h7
 have e1:w7.cell? ⟨b3,0,none⟩=some (.pointer (some ⟨ps,0,none⟩)):=h7.cellP pick2 0 rfl
 have e3:w7.cell? ⟨ps,0,none⟩=some (.int .i64 n):=h7.cellP pick3 0 rfl
 go_wp2_with fail
 refine (Hnm.out _ _ h7).mono ?_
 rintro ee w8 ⟨v,rfl,rfl,h8⟩
 clear h7 e1 e3
 replace h8:Sat w0 w8 (MedRep m M::abl uw bu::abl iv bi::capPt b3 ps::stPt ps n pi uv tv::TabML pi mp B::osl 113 3 uv (us.flatMap uenc)::F):=h8.sb
 have hri:=(RS.of_abl (h8.sb:Sat w0 w8 (abl iv bi::MedRep m M::abl uw bu::capPt b3 ps::stPt ps n pi uv tv::TabML pi mp B::osl 113 3 uv (us.flatMap uenc)::F)))
 obtain ⟨ia,il,ic,rfl,_,_⟩:=hri.cap
 have hw1:=hwrite_c HM.out (by have:=HK.out;omega) ni (by have:=Hz1.out;omega) bi (bv:= .slice ia il ic) (fun w hw=>asl_rd (hw.sb:Sat w0 w (abl (.slice ia il ic) bi::abl uw bu::capPt b3 ps::stPt ps n pi uv tv::TabML pi mp B::osl 113 3 uv (us.flatMap uenc)::F))) ⟨_,_,_,rfl⟩ h8
 have ok1:=ok_write HM.out ni bi
 clear hri
 generalize Hin.write M ni bi=r1 at *
 obtain ⟨M1,q1⟩:=r1
 dsimp only at hw1 ok1 HS Hno
 go_wp2_with fail
 refine hw1.mono ?_
 rintro ee w9 ⟨v,rfl,rfl,h9⟩
 clear hw1 h8
 by_cases c1:q1=0
 rotate_left
 ·have hb1:(q1 != 0)=true:=bne_iff_ne.2 c1
  have HF:=uQ (show Hin.save M n bi bu=(M1,q1) from HS.out.trans (if_neg c1))
  clear c1
  go_wp2_with fail
  go_ret
  exact ⟨_,rfl,by rw [HF.out];rfl,by rw [HF.out];exact h9.sb⟩
 ·have HS1:=uQ (show Hin.save M n bi bu=(if (Hin.write M1 (Hin.name Hin.use n) bu).2=0 then Hin.save2 (Hin.write M1 (Hin.name Hin.use n) bu).1 n else Hin.write M1 (Hin.name Hin.use n) bu) from HS.out.trans (if_pos c1))
  rw [Hnu.out]at HS1
  subst c1
  have e1:w9.cell? ⟨b3,0,none⟩=some (.pointer (some ⟨ps,0,none⟩)):=h9.cellP pick3 0 rfl
  have e3:w9.cell? ⟨ps,0,none⟩=some (.int .i64 n):=h9.cellP (pick_there pick3) 0 rfl
  go_wp2_with fail
  refine (Hum.out _ _ h9).mono ?_
  rintro ee w10 ⟨v,rfl,rfl,h10⟩
  clear h9 e1 e3
  replace h10:Sat w0 w10 (MedRep m M1::abl uw bu::capPt b3 ps::stPt ps n pi uv tv::TabML pi mp B::osl 113 3 uv (us.flatMap uenc)::F):=h10.sb
  have hri:=(RS.of_abl (h10.sb:Sat w0 w10 (abl uw bu::MedRep m M1::capPt b3 ps::stPt ps n pi uv tv::TabML pi mp B::osl 113 3 uv (us.flatMap uenc)::F)))
  obtain ⟨ua,ul,uc,rfl,_,_⟩:=hri.cap
  have hw2:=hwrite_c ok1 (by have:=HK.out;omega) nu (by have:=Hz3.out;omega) bu (bv:= .slice ua ul uc) (fun w hw=>asl_rd (hw.sb:Sat w0 w (abl (.slice ua ul uc) bu::capPt b3 ps::stPt ps n pi uv tv::TabML pi mp B::osl 113 3 uv (us.flatMap uenc)::F))) ⟨_,_,_,rfl⟩ h10
  have ok2:=ok_write ok1 nu bu
  clear hri HS
  generalize Hin.write M1 nu bu=r2 at *
  obtain ⟨M2,q2⟩:=r2
  dsimp only at hw2 ok2 HS1 Hno
  go_wp2_with fail
  refine hw2.mono ?_
  rintro ee w11 ⟨v,rfl,rfl,h11⟩
  clear hw2 h10
  by_cases c2:q2=0
  rotate_left
  ·have hb1:(q2 != 0)=true:=bne_iff_ne.2 c2
   have HF:=uQ (show Hin.save M n bi bu=(M2,q2) from HS1.out.trans (if_neg c2))
   clear c2
   go_wp2_with fail
   go_ret
   exact ⟨_,rfl,by rw [HF.out];rfl,by rw [HF.out];exact h11.sb⟩
  ·have HS2:=uQ (show Hin.save M n bi bu=(if M2.syncDir.2=0 then Hin.sweep (Hin.other n) M2.syncDir.1.list M2.syncDir.1 else M2.syncDir) from HS1.out.trans (if_pos c2))
   subst c2
   have hsd:=syncDir_c ok2 h11
   have ok3:=ok2.syncDir
   clear HS1
   generalize M2.syncDir=r3 at *
   obtain ⟨M3,q3⟩:=r3
   dsimp only at hsd ok3 HS2 Hno
   go_wp2_with fail
   refine hsd.mono ?_
   rintro ee w12 ⟨v,rfl,rfl,h12⟩
   clear hsd h11
   by_cases c3:q3=0
   rotate_left
   ·have hb1:(q3 != 0)=true:=bne_iff_ne.2 c3
    have HF:=uQ (show Hin.save M n bi bu=(M3,q3) from HS2.out.trans (if_neg c3))
    clear c3
    go_wp2_with fail
    go_ret
    exact ⟨_,rfl,by rw [HF.out];rfl,by rw [HF.out];exact h12.sb⟩
   ·have HF:=uQ (show Hin.save M n bi bu=Hin.sweep (Hin.other n) M3.list M3 from HS2.out.trans (if_pos c3))
    subst c3
    have hsw:=sweepG_c ok3 (by have:=HK.out;omega) Hno.out (h12.sb:Sat w0 w12 (MedRep m M3::capPt b3 ps::stPt ps n pi uv tv::TabML pi mp B::osl 113 3 uv (us.flatMap uenc)::F))
    generalize Hin.sweep (Hin.other n) M3.list M3=r4 at *
    obtain ⟨M4,q4⟩:=r4
    dsimp only at hsw HF
    go_wp2_with fail
    refine hsw.mono ?_
    rintro ee w13 ⟨v,rfl,rfl,h13⟩
    clear hsw
    go_wp2_with fail
    go_ret
    exact ⟨_,rfl,by rw [HF.out];rfl,by rw [HF.out];exact h13.sb⟩
end
end Go.Proofs.YtjbhhbnopnmcnaaGreatDoor
namespace Go.Rep
open Go.Frm (Bs Fnd Ent fnds encs GoodE)
open Go.Seg (Plc mag)
open Go.Tab
def rowsC:Nat→List (List Ent)→List Row
 |_,[]=>[]
 |k,es::C=>((fnds es 8).map fun f=>((k:Int),f))++rowsC (k+1) C
section
variable {C:List (List Ent)}{bt:Told}{k n:Nat}
theorem rowsC_e:∀ (k:Nat) (C:List (List Ent)),(rowsC k C).map (·.2.e)=C.flatten
 |_,[]=>rfl
 |k,es::C=>by
  unfold rowsC
  rw [List.map_append,List.map_map,rowsC_e (k+1) C,List.flatten_cons]
  congr 1
  exact Frm.fnds_e es 8
theorem rows_is:∀ (C:List (List Ent)) (k:Nat),(∀ j es,C[j]?=some es→bt ((k+j:Nat):Int)=(mag++encs es,0)∧∀ x∈es,GoodE x)→rowsOf bt ((List.range' k C.length).map fun i=>((i:Nat):Int))=rowsC k C
 |[],k,_=>rfl
 |es::C,k,h=>by
  have h0:=h 0 es rfl
  rw [Nat.add_zero]at h0
  have ih:=rows_is C (k+1) fun j fs hj=>by
   have:=h (j+1) fs (by simpa using hj)
   rwa [show k+(j+1)=k+1+j by omega]at this
  rw [List.length_cons,List.range'_succ,List.map_cons]
  show ((Frm.scan (bt (k:Int)).1).1.map fun f=>((k:Int),f))++rowsOf bt ((List.range' (k+1) C.length).map fun i=>((i:Nat):Int))=_
  rw [ih,h0.1,Frm.scan_encs es h0.2]
  rfl
def endsC (es:List Ent):Bool:=match es.getLast? with
 |some x=>x.tag==2
 |none=>false
theorem ended_fnds (es:List Ent) (a:Nat):endedF (fnds es a)=endsC es:=by
 unfold endedF endsC
 have h:(fnds es a).getLast?.map (·.e)=es.getLast?:=by rw [← List.getLast?_map,Frm.fnds_e]
 cases hl:(fnds es a).getLast? with
 |none=>rw [hl]at h;rw [← h];rfl
 |some f=>rw [hl]at h;rw [← h];rfl
theorem split_is {ns:List Int} (hl:ns.length=C.length) (h:∀ j es,C[j]?=some es→bt (ns.getD j 0)=(mag++encs es,0)∧∀ x∈es,GoodE x):∀ i,i≤C.length →
  ∃ n,split bt ns i=(n,0)∧n≤i∧(n≠0→∃ es,C[n - 1]?=some es∧endsC es=true)∧∀ j es,n≤j→j<i→C[j]?=some es→endsC es=false
 |0,_=>⟨0,rfl,Nat.le_refl _,fun h=>absurd rfl h,fun j es h1 h2=>by omega⟩
 |i+1,hi=>by
  obtain ⟨es,he⟩:∃ es,C[i]?=some es:=⟨_,List.getElem?_eq_getElem oQ⟩
  obtain ⟨h1,h2⟩:=h i es he
  have hu:split bt ns (i+1)=if endsC es=true then (i+1,0) else split bt ns i:=by
   rw [split,h1,if_neg (by simp),Frm.scan_encs es h2]
   simp only [ended_fnds,true_and]
  rw [hu]
  cases hc:endsC es with
  |true=>exact ⟨i+1,rfl,Nat.le_refl _,fun _=>⟨es,he,hc⟩,fun j fs a b=>by omega⟩
  |false=>
   obtain ⟨n,a,b,c,d⟩:=split_is hl h i oQ
   refine ⟨n,a,by omega,c,fun j fs p q r=>?_⟩
   by_cases e:j=i
   ·subst e;rw [he]at r;cases r;exact hc
   ·exact d j fs p oQ r
theorem bad_is {ns:List Int} (h:∀ (j:Nat) (s:Int),ns[j]?=some s→∃ es,bt s=(mag++encs es,0)∧∀ x∈es,GoodE x):bad bt ns=none:=by
 induction ns with
 |nil=>rfl
 |cons s ns ih=>
  obtain ⟨es,h1,h2⟩:=h 0 s rfl
  unfold bad
  rw [h1,if_neg (by simp),Frm.scan_encs es h2]
  simp only
  rw [if_neg (by simp)]
  exact ih fun j t hj=>h (j+1) t (by simpa using hj)
def lastE:List Ent→Bs→Option Ent
 |[],_=>none
 |x::l,k=>match lastE l k with
  |some y=>some y
  |none=>if x.tag≠2∧x.key=k then some x else none
theorem newest_e:∀ (l:List Row) (k:Bs),(newest l k).map (·.2.e)=lastE (l.map (·.2.e)) k
 |[],_=>rfl
 |r::l,k=>by
  have ih:=newest_e l k
  unfold newest
  rw [List.map_cons]
  conv=>rhs;unfold lastE
  rw [← ih]
  cases newest l k with
  |some x=>rfl
  |none=>
   simp only [Option.map_none]
   unfold rtag rkey
   split <;> rfl
theorem lastE_app (a b:List Ent) (k:Bs):lastE (a++b) k=match lastE b k with
  |some y=>some y
  |none=>lastE a k:=by
 induction a with
 |nil=>cases h:lastE b k <;> simp [lastE,h]
 |cons x a ih=>
  rw [List.cons_append]
  conv=>lhs;unfold lastE
  rw [ih]
  cases h:lastE b k with
  |some y=>rfl
  |none=>simp only;conv=>rhs;unfold lastE
theorem lastE_snoc (a:List Ent) (x:Ent) (k:Bs):lastE (a++[x]) k=if x.tag≠2∧x.key=k then some x else lastE a k:=by
 rw [lastE_app]
 unfold lastE
 simp only [lastE]
 split
 ·rename_i y h;split at h
  ·rename_i h2;rw [if_pos h2];exact h.symm
  ·cases h
 ·rename_i h;split at h
  ·cases h
  ·rename_i h2;rw [if_neg h2]
theorem rowsC_mem:∀ (C:List (List Ent)) (k:Nat){r:Row},r∈rowsC k C→∃ j es,C[j]?=some es∧r.1=((k+j:Nat):Int)∧r.2∈fnds es 8
 |[],_,r,h=>by cases h
 |es::C,k,r,h=>by
  unfold rowsC at h
  rcases List.mem_append.1 h with h|h
  ·obtain ⟨f,hf,rfl⟩:=List.mem_map.1 h
   exact ⟨0,es,rfl,by simp,hf⟩
  ·obtain ⟨j,fs,h1,h2,h3⟩:=rowsC_mem C (k+1) h
   exact ⟨j+1,fs,by simpa using h1,by rw [h2];congr 1;omega,h3⟩
theorem fnds_mem:∀ (es:List Ent) (a:Nat){f:Fnd},f∈fnds es a→∃ u v,es=u++f.e::v∧f.at_=a+(encs u).length∧f.size=(Frm.encode f.e).1.length
 |[],_,f,h=>by cases h
 |x::es,a,f,h=>by
  unfold fnds at h
  rcases List.mem_cons.1 h with rfl|h
  ·exact ⟨[],es,rfl,rfl,rfl⟩
  ·obtain ⟨u,v,h1,h2,h3⟩:=fnds_mem es _ h
   refine ⟨x::u,v,by rw [h1];rfl,?_,h3⟩
   have e:encs (x::u)=(Frm.encode x).1++encs u:=rfl
   rw [h2,e,List.length_append];omega
end
end Go.Rep
namespace Go.Seg
open Go.Med
open Go.Frm (encs GoodE fnds)
section
variable {n:Nat}{M:Med}{L:Log}{C:List (List Frm.Ent)}
theorem take_nums (n i:Nat):((List.range' 0 n).map fun i=>((i:Nat):Int)).take i=(List.range' 0 (min i n)).map fun i=>((i:Nat):Int):=by
 rw [← List.map_take]
 congr 1
 apply List.ext_getElem?
 intro j
 rw [List.getElem?_take]
 by_cases h1:j<n
 ·by_cases h2:j<i
  ·rw [if_pos h2,List.getElem?_range' h1,List.getElem?_range' oQ]
  ·rw [if_neg h2,List.getElem?_eq_none (by rw [List.length_range'];omega)]
 ·rw [List.getElem?_eq_none (by rw [List.length_range'];omega),List.getElem?_eq_none (by rw [List.length_range'];omega)]
  split <;> rfl
end
structure HG (K r E B n:Nat) (L:Log) (M:Med) (C:List (List Frm.Ent)):Prop where
 keeps:Keeps K r L M
 len:L.l.length=C.length
 at_:∀ (k:Nat) (es:List Frm.Ent),C[k]?=some es→L.l[k]?=some ((k:Int),8+((encs es).length:Int))
 file:∀ (k:Nat) (es:List Frm.Ent),C[k]?=some es→M.all (name k)=(mag++encs es,0)
 good:∀ es∈C,(∀ x∈es,GoodE x)∧es≠[]
 count:C.length≤n
 used:M.used≤n * 400+B
 names:M.now.length≤n+E
 cover:∀ (k i:Nat),k<1048576→nget M.now (name (k:Int))=some i→k<C.length
section
variable {K r E B n:Nat}{L:Log}{M:Med}{C:List (List Frm.Ent)}
theorem HG.mono {K' E' B' n':Nat} (h:HG K r E B n L M C) (h1:K≤K') (h2:E≤E') (h3:B≤B') (h4:n≤n'):HG K' r E' B' n' L M C:=
 ⟨h.keeps.mono h1,h.len,h.at_,h.file,h.good,Nat.le_trans h.count h4,Nat.le_trans h.used (Nat.add_le_add (Nat.mul_le_mul_right 400 h4) h3),Nat.le_trans h.names oQ,h.cover⟩
theorem HG.next (h:HG K r E B n L M C):L.next=C.length:=by
 unfold Log.next
 cases hl:L.l.getLast? with
 |none=>
  have:=List.getLast?_eq_none_iff.1 hl
  have h2:=h.len
  rw [this]at h2
  simp only [List.length_nil]at h2
  simp only;omega
 |some s=>
  rw [List.getLast?_eq_getElem?]at hl
  have hlt:=(List.getElem?_eq_some_iff.1 hl).1
  have h2:=h.len
  have hc:C[L.l.length - 1]?=some (C[L.l.length - 1]'oQ):=List.getElem?_eq_getElem oQ
  have h3:=h.at_ _ _ hc
  rw [hl]at h3
  cases h3
  simp only;omega
theorem HG.segs (h:HG K r E B n L M C):L.segs.length=C.length∧∀ k,k<C.length→L.segs[k]?=some (k:Int):=by
 unfold Log.segs
 refine ⟨by rw [List.length_map];exact h.len,fun k hk=>?_⟩
 rw [List.getElem?_map,h.at_ k _ (List.getElem?_eq_getElem hk)];rfl
theorem HG.at_k (h:HG K r E B n L M C){k:Nat}{es:List Frm.Ent} (hk:C[k]?=some es):L.at (k:Int)=some k:=by
 have h1:=h.at_ k es hk
 cases hat:L.at (k:Int) with
 |none=>
  exfalso
  unfold Log.at at hat
  rw [List.findIdx?_eq_none_iff]at hat
  have:=hat _ (List.mem_of_getElem? h1)
  simp at this
 |some i=>
  obtain ⟨h2,s,h3,h4⟩:=Log.at_lt hat
  have h5:i<C.length:=by rw [← h.len];exact h2
  have h6:=h.at_ i _ (List.getElem?_eq_getElem h5)
  rw [h6]at h3
  cases h3
  simp only at h4
  congr 1
  omega
theorem HG.bytes (h:HG K r E B n L M C){k:Nat}{es:List Frm.Ent} (hk:C[k]?=some es):L.bytes M (k:Int)=(mag++encs es,0):=by
 unfold Log.bytes
 rw [h.at_k hk]
 exact h.file k es hk
theorem HG.size (h:HG K r E B n L M C){k:Nat}{es:List Frm.Ent} (hk:C[k]?=some es):L.size (k:Int)=((mag++encs es).length:Nat):=by
 unfold Log.size
 rw [h.at_k hk]
 have h1:=h.at_ k es hk
 simp only [List.getD_eq_getElem?_getD,h1,Option.getD_some,List.length_append]
 have:mag.length=8:=rfl
 omega
theorem HG.ns (h:HG K r E B n L M C):L.segs=(List.range' 0 C.length).map fun i=>((i:Nat):Int):=by
 obtain ⟨h1,h2⟩:=h.segs
 apply List.ext_getElem?
 intro i
 by_cases hi:i<C.length
 ·rw [h2 i hi,List.getElem?_map,List.getElem?_range' hi];simp
 ·rw [List.getElem?_eq_none oQ,List.getElem?_eq_none (by rw [List.length_map,List.length_range'];omega)]
theorem HG.told (h:HG K r E B n L M C):∀ j es,C[j]?=some es→L.bytes M (L.segs.getD j 0)=(mag++encs es,0)∧∀ x∈es,GoodE x:=fun j es hj=>by
 have hl:=(List.getElem?_eq_some_iff.1 hj).1
 rw [List.getD,h.segs.2 j hl]
 exact ⟨h.bytes hj,(h.good es (List.mem_of_getElem? hj)).1⟩
theorem HG.rows (h:HG K r E B n L M C) (i:Nat):Rep.rowsOf (fun s=>L.bytes M s) (L.segs.take i)=Rep.rowsC 0 (C.take i):=by
 have e:L.segs.take i=(List.range' 0 (C.take i).length).map fun i=>((i:Nat):Int):=by
  rw [h.ns,take_nums,List.length_take]
 rw [e]
 refine Rep.rows_is (C.take i) 0 fun j es hj=>?_
 have hj':C[j]?=some es:=by
  rw [List.getElem?_take]at hj
  split at hj
  ·exact hj
  ·cases hj
 rw [Nat.zero_add]
 exact ⟨h.bytes hj',(h.good es (List.mem_of_getElem? hj')).1⟩
theorem HG.bad (h:HG K r E B n L M C) (i:Nat):Rep.bad (fun s=>L.bytes M s) (L.segs.take i)=none:=by
 refine Rep.bad_is fun j s hs=>?_
 have hs':L.segs[j]?=some s:=by
  rw [List.getElem?_take]at hs
  split at hs
  ·exact hs
  ·cases hs
 have hl:j<C.length:=by rw [← h.segs.1];exact (List.getElem?_eq_some_iff.1 hs').1
 have:=h.segs.2 j hl
 rw [hs']at this
 cases this
 exact ⟨_,h.bytes (List.getElem?_eq_getElem hl),(h.good _ (List.getElem_mem hl)).1⟩
theorem HG.split (h:HG K r E B n L M C):∃ c,Rep.split (fun s=>L.bytes M s) L.segs L.segs.length=(c,0)∧c≤C.length∧(c≠0→∃ es,C[c - 1]?=some es∧Rep.endsC es=true)∧∀ j es,c≤j→C[j]?=some es→Rep.endsC es=false:=by
 rw [h.segs.1]
 obtain ⟨c,h1,h2,h3,h4⟩:=Rep.split_is h.segs.1 h.told C.length (Nat.le_refl _)
 exact ⟨c,h1,h2,h3,fun j es a b=>h4 j es a (List.getElem?_eq_some_iff.1 b).1 b⟩
theorem HG.run (h:HG K r E B n L M C):∃ c,Rep.run (fun s=>L.bytes M s) L.segs = .inr c∧c≤C.length∧(c≠0→∃ es,C[c - 1]?=some es∧Rep.endsC es=true)∧∀ j es,c≤j→C[j]?=some es→Rep.endsC es=false:=by
 obtain ⟨c,h1,h2⟩:=h.split
 refine ⟨c,?_,h2⟩
 unfold Rep.run
 rw [h1,if_neg (by simp)]
 exact Rep.runAt_none (h.bad c)
theorem HG.readRow (h:HG K r E B n L M C){r:Rep.Row} (hr:r∈Rep.rowsC 0 C):L.read M (Rep.rplc r)=(r.2.e,0):=by
 obtain ⟨j,es,h1,h2,h3⟩:=Rep.rowsC_mem C 0 hr
 obtain ⟨u,v,h4,h5,h6⟩:=Rep.fnds_mem es 8 h3
 obtain ⟨s,⟨e,at_,size⟩⟩:=r
 simp only at h2 h3 h4 h5 h6
 rw [Nat.zero_add]at h2
 subst h2;subst h5;subst h6
 have hx:GoodE e:=(h.good es (List.mem_of_getElem? h1)).1 e (by rw [h4];simp)
 have hf:=h.file j es h1
 have hm:mag.length=8:=rfl
 have hes:encs es=encs u++((Frm.encode e).1++encs v):=by rw [h4,encs_app];rfl
 have hrd:=read_all h.keeps.calm.quiet hf (a:=8+(encs u).length) (n:=(Frm.encode e).1.length) (by rw [List.length_append,hes,List.length_append,List.length_append];omega)
 have hd:((mag++encs es).drop (8+(encs u).length)).take (Frm.encode e).1.length=(Frm.encode e).1:=by
  rw [hes,← List.append_assoc,List.drop_append,List.drop_of_length_le (by rw [List.length_append];omega)]
  rw [show 8+(encs u).length - (mag++encs u).length=0 by rw [List.length_append];omega,List.drop_zero,List.nil_append,List.take_append_of_le_length (Nat.le_refl _),List.take_length]
 rw [hd]at hrd
 have hre:=Frm.read_encode hx.1 hx.2 []
 rw [List.append_nil]at hre
 unfold Log.read Rep.rplc
 simp only [h.at_k h1]
 rw [hrd]
 simp only [hre]
 rw [if_neg dCz,if_neg dCz,if_neg (by simp)]
theorem HG.append (h:HG K r E B n L M C) (hn:n<1000) (x:Frm.Ent) (hk:x.key.length=32) (hd:x.data.length≤300) (h0:(Frm.encode x).2=0) (hz:(L.append M x).2.2=0∨M.used+400≤M.room∧M.now.length<500) :
  (L.append M x).2.2=0∧(L.append M x).1.1.on=true∧(L.append M x).1.1.limit=L.limit∧HG (K+4) r E B (n+1) (L.append M x).1.1 (L.append M x).1.2 (put C (L.fits (Frm.encode x).1.length) x) ∧
   (L.append M x).1.1.read (L.append M x).1.2 (L.append M x).2.1=(x,0)∧(L.append M x).2.1.seg=(put C (L.fits (Frm.encode x).1.length) x).length - 1:=by
 have hzz:=enc_small h0 hk hd
 have hK:=(h.keeps.append x hk).1
 have hu:=h.used
 have hroom:=h.keeps.calm.room
 have hcnt:=h.count
 cases hf:L.fits (Frm.encode x).1.length with
 |true=>
  rw [Log.append_grow h0 hf]at hK hz ⊢
  have hf':=hf
  unfold Log.fits at hf'
  rw [Bool.and_eq_true,decide_eq_true_eq]at hf'
  obtain ⟨s,hl⟩:=h.keeps.log.last hf'.1
  rw [hl]at hf'
  have hl':=hl
  rw [List.getLast?_eq_getElem?]at hl'
  have hlt:=(List.getElem?_eq_some_iff.1 hl').1
  have hlen:=h.len
  have hne:C≠[]:=by intro e;rw [e,List.length_nil]at hlen;omega
  obtain ⟨c,hc⟩:∃ c,C.length=c+1:=⟨C.length - 1,by omega⟩
  have hcl:C[c]?=some (C.getLastD []):=by
   conv=>lhs;rw [last_of hne]
   rw [List.getElem?_append_right (by rw [List.length_dropLast];omega),List.length_dropLast,show c - (C.length - 1)=0 by omega];rfl
  generalize hes:C.getLastD []=es at *
  have hat:=h.at_ _ _ hcl
  rw [show L.l.length - 1=c by omega,hat]at hl'
  obtain rfl:((c:Int),8+((encs es).length:Int))=s:=by injection hl'
  obtain ⟨i,hi⟩:=h.keeps.has _ (List.mem_of_getLast? hl)
  simp only at hi
  have hall:=h.file _ _ hcl
  have hrm:M.used+(Frm.encode x).1.length≤M.room:=by
   rcases hz with hz|⟨hz,_⟩
   ·rcases append_cases h.keeps.calm.quiet (name (c:Int)) (Frm.encode x).1 with ⟨q1,_⟩|⟨j,q1,⟨q2,q3⟩|⟨q2,q3⟩⟩
    ·rw [hi]at q1;cases q1
    ·unfold Log.grow at hz
     rw [hl]at hz
     simp only [q3]at hz
     rw [if_neg dCz]at hz
     exact absurd (show (11:Int)=0 from hz) dCz
    ·omega
   ·omega
  obtain ⟨a1,a2,a3,a4,a5⟩:=append_full h.keeps.calm hi (Frm.encode x).1 hrm
  have hmem:es∈C:=List.mem_of_getElem? hcl
  have hE:L.grow M (Frm.encode x).1=(({ L with l:=L.l.dropLast++[((c:Int),8+((encs es).length:Int)+((Frm.encode x).1.length:Int))] },(M.append (name (c:Int)) (Frm.encode x).1).1),⟨(c:Int),8+((encs es).length:Int),(Frm.encode x).1.length⟩,0):=by
   unfold Log.grow;rw [hl];simp only [a1,if_true]
  rw [hE]at hK ⊢
  simp only at hK ⊢
  rw [hall]at a4
  have hsz:(encs (es++[x])).length=(encs es).length+(Frm.encode x).1.length:=by rw [encs_app,encs_one,List.length_append]
  have hput:put C true x=C.dropLast++[es++[x]]:=by unfold put;rw [if_pos rfl,hes]
  rw [hput]
  have hdl:C.dropLast.length=c:=by rw [List.length_dropLast];omega
  have a4':(M.append (name (c:Int)) (Frm.encode x).1).1.all (name (c:Int))=(mag++encs (es++[x]),0):=by rw [a4,encs_app,encs_one];simp
  refine ⟨by first|trivial|rfl,hf'.1,by first|trivial|rfl,⟨hK,?_,?_,?_,?_,?_,?_,?_,?_⟩,?_,?_⟩
  ·simp only [List.length_append,List.length_dropLast,List.length_singleton];omega
  ·intro k fs hk'
   have hcl':C[k]?=some fs∧k<c∨k=c∧fs=es++[x]:=by
    rcases Nat.lt_trichotomy k c with q|q|q
    ·rw [List.getElem?_append_left oQ,List.getElem?_dropLast,if_pos oQ]at hk'
     exact .inl ⟨hk',q⟩
    ·subst q
     rw [List.getElem?_append_right oQ,hdl,Nat.sub_self]at hk'
     simp at hk'
     exact .inr ⟨rfl,hk'.symm⟩
    ·rw [List.getElem?_eq_none (by simp only [List.length_append,List.length_singleton];omega)]at hk';cases hk'
   rcases hcl' with ⟨q1,q2⟩|⟨rfl,rfl⟩
   ·rw [List.getElem?_append_left (by rw [List.length_dropLast];omega),List.getElem?_dropLast,if_pos oQ]
    exact h.at_ _ _ q1
   ·rw [List.getElem?_append_right (by rw [List.length_dropLast];omega),List.length_dropLast,show k - (L.l.length - 1)=0 by omega,hsz]
    simp only [List.getElem?_cons_zero,Option.some.injEq,Prod.mk.injEq,true_and]
    omega
  ·intro k fs hk'
   have hcl':C[k]?=some fs∧k<c∨k=c∧fs=es++[x]:=by
    rcases Nat.lt_trichotomy k c with q|q|q
    ·rw [List.getElem?_append_left oQ,List.getElem?_dropLast,if_pos oQ]at hk'
     exact .inl ⟨hk',q⟩
    ·subst q
     rw [List.getElem?_append_right oQ,hdl,Nat.sub_self]at hk'
     simp at hk'
     exact .inr ⟨rfl,hk'.symm⟩
    ·rw [List.getElem?_eq_none (by simp only [List.length_append,List.length_singleton];omega)]at hk';cases hk'
   rcases hcl' with ⟨q1,q2⟩|⟨rfl,rfl⟩
   ·rw [a5 _ (fun e=>by have:=name_inj oQ oQ oQ oQ e;omega)]
    exact h.file _ _ q1
   ·exact a4'
  ·intro fs hfs
   rcases List.mem_append.1 hfs with hfs|hfs
   ·exact h.good fs ((List.dropLast_subset _ hfs))
   ·rw [List.mem_singleton.1 hfs]
    refine ⟨fun y hy=>?_,by simp⟩
    rcases List.mem_append.1 hy with hy|hy
    ·exact (h.good es hmem).1 y hy
    ·rw [List.mem_singleton.1 hy];exact ⟨h0,hk⟩
  ·simp only [List.length_append,List.length_singleton];omega
  ·rw [a3];omega
  ·rw [a2];have:=h.names;omega
  ·intro k j hkk hj
   rw [a2]at hj
   have:=h.cover k j hkk hj
   simp only [List.length_append,List.length_singleton];omega
  ·exact read_back (s:=((c:Int),8+((encs es).length:Int)+((Frm.encode x).1.length:Int))) hK (by simp) a4' ⟨h0,hk⟩
  ·simp only [List.length_append,List.length_singleton];omega
 |false=>
  rw [Log.append_begin h0 hf]at hK hz ⊢
  obtain ⟨s1,s2,s3,s4,s5⟩:=h.keeps.shut
  have hlim:=Log.shut_limit L M
  have hB:L.begin M (Frm.encode x).1=(L.shut M).1.1.begin1 (L.shut M).1.2 (Frm.encode x).1:=by unfold Log.begin;rw [if_pos s2]
  rw [hB]at hK hz ⊢
  have hnx:(L.shut M).1.1.next=C.length:=by rw [← h.next];unfold Log.next;rw [s3]
  have hall2:=s5.all
  have hnow:=s5.now
  have hused:=s5.used
  have hroom2:=s1.calm.room
  generalize (L.shut M).1.1=L1 at *
  generalize (L.shut M).1.2=M1 at *
  have hnn:nget M1.now (name (C.length:Int))=none:=by
   cases hq:nget M1.now (name (C.length:Int)) with
   |none=>rfl
   |some i=>
    exfalso
    rw [hnow]at hq
    have:=h.cover C.length i oQ hq
    omega
  have hlt5:M1.now.length<500:=by
   rcases hz with hz|⟨_,hz⟩
   ·rcases create_cases s1.calm.quiet (name (C.length:Int)) with ⟨q1,_,_⟩|⟨_,_,q3,_⟩
    ·unfold Log.begin1 at hz
     rw [hnx,if_neg oQ,if_pos q1]at hz
     exact absurd hz q1
    ·exact q3
   ·rw [hnow];exact hz
  obtain ⟨c1,c2,c3,c4,c5⟩:=create_full s1.calm (good_name (C.length:Int) oQ oQ) hnn hlt5
  have hc1:=s1.calm.create (name (C.length:Int))
  have hself:nget (M1.create (name (C.length:Int))).1.now (name (C.length:Int))=some M1.files.length:=by rw [c2];exact nget_put_self s1.calm.ok.nowOk.srt _ _
  have hrm:(M1.create (name (C.length:Int))).1.used+(mag++(Frm.encode x).1).length≤(M1.create (name (C.length:Int))).1.room:=by
   rcases hz with hz|⟨hz,_⟩
   ·rcases append_cases hc1.quiet (name (C.length:Int)) (mag++(Frm.encode x).1) with ⟨q1,_⟩|⟨j,q1,⟨q2,q3⟩|⟨q2,q3⟩⟩
    ·rw [hself]at q1;cases q1
    ·unfold Log.begin1 at hz
     rw [hnx,if_neg oQ,if_neg (fun hh=>hh c1)]at hz
     simp only [q3]at hz
     rw [if_neg dCz]at hz
     simp only [if_true]at hz
     split at hz
     ·exact absurd hz dCz
     ·rename_i g;exact absurd hz g
    ·omega
   ·rw [c3,hused,hc1.room,List.length_append];have:mag.length=8:=rfl;omega
  obtain ⟨a1,a2,a3,a4,a5⟩:=append_full hc1 hself (mag++(Frm.encode x).1) hrm
  have hE:L1.begin1 M1 (Frm.encode x).1=(({ L1 with l:=L1.l++[((C.length:Int),8+((Frm.encode x).1.length:Int))],on:=true,fresh:=L1.fresh+1 },((M1.create (name (C.length:Int))).1.append (name (C.length:Int)) (mag++(Frm.encode x).1)).1),⟨(C.length:Int),8,(Frm.encode x).1.length⟩,0):=by
   unfold Log.begin1
   rw [hnx,if_neg oQ,if_neg (fun hh=>hh c1),if_pos a1]
  rw [hE]at hK ⊢
  simp only at hK ⊢
  rw [c4]at a4
  have a4':((M1.create (name (C.length:Int))).1.append (name (C.length:Int)) (mag++(Frm.encode x).1)).1.all (name (C.length:Int))=(mag++encs ([]++[x]),0):=by rw [a4,encs_app,encs_one];simp [encs]
  have hput:put C false x=C++[[x]]:=by unfold put;rw [if_neg dCz]
  rw [hput]
  have hlen:=h.len
  refine ⟨by first|trivial|rfl,by first|trivial|rfl,hlim,⟨hK,?_,?_,?_,?_,?_,?_,?_,?_⟩,?_,?_⟩
  ·simp only [s3,List.length_append,List.length_singleton];omega
  ·intro k fs hk'
   rcases Nat.lt_trichotomy k C.length with q|q|q
   ·rw [List.getElem?_append_left q]at hk'
    rw [s3,List.getElem?_append_left oQ]
    exact h.at_ _ _ hk'
   ·subst q
    rw [List.getElem?_append_right (Nat.le_refl _),Nat.sub_self]at hk'
    simp at hk'
    subst hk'
    rw [s3,List.getElem?_append_right oQ,hlen,Nat.sub_self,encs_one]
    rfl
   ·rw [List.getElem?_eq_none (by simp only [List.length_append,List.length_singleton];omega)]at hk';cases hk'
  ·intro k fs hk'
   rcases Nat.lt_trichotomy k C.length with q|q|q
   ·rw [List.getElem?_append_left q]at hk'
    have hne:name (k:Int)≠name (C.length:Int):=fun e=>by have:=name_inj oQ oQ oQ oQ e;omega
    rw [a5 _ hne,c5 _ hne,hall2]
    exact h.file _ _ hk'
   ·subst q
    rw [List.getElem?_append_right (Nat.le_refl _),Nat.sub_self]at hk'
    simp at hk'
    subst hk'
    exact a4'
   ·rw [List.getElem?_eq_none (by simp only [List.length_append,List.length_singleton];omega)]at hk';cases hk'
  ·intro fs hfs
   rcases List.mem_append.1 hfs with hfs|hfs
   ·exact h.good fs hfs
   ·rw [List.mem_singleton.1 hfs]
    exact ⟨fun y hy=>by rw [List.mem_singleton.1 hy];exact ⟨h0,hk⟩,by simp⟩
  ·simp only [List.length_append,List.length_singleton];omega
  ·rw [a3,c3,hused,List.length_append];have:mag.length=8:=rfl;omega
  ·rw [a2,c2,nput_len]
   have:=ndel_len M1.now (name (C.length:Int))
   rw [hnow]at this
   have:=h.names
   rw [hnow];omega
  ·intro k j hkk hj
   by_cases e:k=C.length
   ·subst e;simp
   ·rw [a2,c2,nget_put_ne (fun q=>e (by have:=name_inj oQ oQ oQ oQ q;omega)),hnow]at hj
    have:=h.cover k j hkk hj
    simp only [List.length_append,List.length_singleton];omega
  ·exact read_back (s:=((C.length:Int),8+((Frm.encode x).1.length:Int))) (es:=[]) hK (by simp) a4' ⟨h0,hk⟩
  ·simp only [List.length_append,List.length_singleton];omega
theorem HG.commit (h:HG K r E B n L M C) (hn:n<1000) (hz:(L.append M comEnt).2.2=0∨M.used+400≤M.room∧M.now.length<500) :
  (L.commit M).2.2=0∧(L.commit M).1.1.on=false∧(L.commit M).1.1.limit=L.limit∧HG (K+5) r E B (n+1) (L.commit M).1.1 (L.commit M).1.2 (put C (L.fits (Frm.encode comEnt).1.length) comEnt):=by
 obtain ⟨a1,a2,a3,a4,a5,a6⟩:=h.append hn comEnt rfl dCz rFz hz
 obtain ⟨i,hi⟩:=append_place h.keeps comEnt rfl a1
 have hlog:=h.keeps.log.commit M
 have hcalm:=h.keeps.commit
 rw [Log.commit_eq]at hlog hcalm ⊢
 rw [if_neg (fun hh=>hh a1)]at hlog hcalm ⊢
 generalize L.append M comEnt=r at *
 obtain ⟨⟨L1,M1⟩,p1,e1⟩:=r
 simp only at *
 have hs:=sync_alike a4.keeps.calm.ok a4.keeps.calm.quiet (name p1.seg)
 have hsc:=a4.keeps.calm.sync (name p1.seg)
 have es:=a4.keeps.calm.quiet.sync_eq hi
 have es2:(M1.sync (name p1.seg)).2=0:=by rw [es]
 rw [if_neg (fun hh=>hh es2)]at hlog hcalm ⊢
 generalize (M1.sync (name p1.seg)).1=M2 at *
 have ed:=hsc.quiet.syncDir_eq
 have ed2:M2.syncDir.2=0:=by rw [ed]
 rw [if_neg (fun hh=>hh ed2)]at hlog hcalm ⊢
 have had:Alike M2 M2.syncDir.1:=by rw [ed];exact ⟨rfl,rfl,rfl,fun _ _=>rfl⟩
 have ha:=hs.trans had
 refine ⟨rfl,rfl,a3,⟨hcalm,a4.len,a4.at_,fun k es' hk=>by rw [ha.all];exact a4.file k es' hk,a4.good,a4.count,by rw [ha.used];exact a4.used,by rw [ha.now];exact a4.names,by rw [ha.now];exact a4.cover⟩⟩
theorem HG.alike {L':Log}{M':Med} (h:HG K r E B n L M C){K':Nat} (hk:Keeps K' r L' M') (hl:L'.l=L.l) (ha:Alike M M'):HG K' r E B n L' M' C:=
 ⟨hk,by rw [hl];exact h.len,by rw [hl];exact h.at_,fun k es hke=>by rw [ha.all];exact h.file k es hke,h.good,h.count,by rw [ha.used];exact h.used,by rw [ha.now];exact h.names,by rw [ha.now];exact h.cover⟩
theorem HG.append_no (h:HG K r E B n L M C) (x:Frm.Ent) (hk:x.key.length=32) (hz:(L.append M x).2.2≠0):HG (K+4) r E B n (L.append M x).1.1 (L.append M x).1.2 C:=by
 obtain ⟨k1,k2⟩:=h.keeps.append x hk
 obtain ⟨k3,_,k4,_⟩:=k2 hz
 exact h.alike k1 k3 k4
end
end Go.Seg
namespace Go.Seg
open Go.Med
open Go.Frm (encs GoodE fnds Ent)
def toE (d:Ent):Ent:=if d.tag=0 then ⟨0,d.key,d.data⟩ else if d.tag=1 then ⟨1,d.key,[]⟩ else comEnt
def isPut (d:Ent):Prop:=d.tag=0∨d.tag=1
instance (d:Ent):Decidable (isPut d):=by unfold isPut;infer_instance
structure Pl (n:Nat) (ds:List Ent) (L:Log) (M:Med) (C:List (List Ent)):Prop where
 holds:Holds n L M C
 tail:Tail L.on C
 flat:C.flatten=ds.map toE
 small:∀ x∈C.flatten,x.data.length≤300
section
variable {n:Nat}{ds:List Ent}{L:Log}{M:Med}{C C0:List (List Ent)}{d:Ent}
theorem toE_good (hk:d.key.length=32) (hd:d.data.length≤300):(Frm.encode (toE d)).2=0:=by
 have hc:Frm.check (toE d)=0:=by
  unfold toE
  split
  ·unfold Frm.check
   simp only [if_true]
   rw [if_neg oQ]
  split
  ·unfold Frm.check
   simp
  ·decide
 unfold Frm.encode
 rw [if_neg (by simp [hc])]
structure Base (C0:List (List Ent)) (on:Bool) (C:List (List Ent)):Prop where
 pre:C.take C0.length=C0
 gt:on=true→C0.length<C.length
theorem Base.le {on:Bool} (h:Base C0 on C):C0.length≤C.length:=by
 have:=congrArg List.length h.pre
 rw [List.length_take]at this;omega
theorem Base.start (C:List (List Ent)):Base C false C:=⟨List.take_length,fun h=>by cases h⟩
theorem Base.put {on b on':Bool} (h:Base C0 on C) (hb:b=true→on=true) (x:Ent):Base C0 on' (put C b x):=by
 unfold Seg.put
 cases b with
 |true=>
  have hg:=h.gt (hb rfl)
  simp only [if_true]
  refine ⟨?_,fun _=>?_⟩
  ·rw [List.take_append_of_le_length (by rw [List.length_dropLast];omega),List.dropLast_eq_take,List.take_take,Nat.min_eq_left oQ]
   exact h.pre
  ·rw [List.length_append,List.length_dropLast,List.length_singleton];omega
 |false=>
  simp only [Bool.false_eq_true,if_false]
  have:=h.le
  refine ⟨by rw [List.take_append_of_le_length this];exact h.pre,fun _=>by rw [List.length_append,List.length_singleton];omega⟩
end
end Go.Seg
namespace Go.Rep
open Go.Frm (Bs Fnd Ent fnds encs GoodE)
open Go.Seg (Plc mag)
open Go.Tab
def segSum (l:List Row) (s:Int):Int:=(l.map fun r=>if r.1=s then (r.2.size:Int) else 0).sum
theorem segSum_app (a b:List Row) (s:Int):segSum (a++b) s=segSum a s+segSum b s:=by unfold segSum;rw [List.map_append,List.sum_append]
theorem live_seg {l:List Row} (s:Int):∀ i,i≤l.length→0≤live l s i∧live l s i≤segSum (l.take i) s
 |0,_=>⟨Int.le_refl 0,by simp [live,segSum]⟩
 |i+1,hi=>by
  have ih:=live_seg (l:=l) s i oQ
  obtain ⟨r,hr⟩:∃ r,l[i]?=some r:=⟨_,List.getElem?_eq_getElem oQ⟩
  rw [List.take_add_one,hr,Option.toList_some,segSum_app]
  have e:segSum [r] s=if r.1=s then (r.2.size:Int) else 0:=by unfold segSum;simp
  rw [e]
  unfold live
  rw [hr]
  simp only
  by_cases h:r.1=s
  ·rw [if_pos h]
   split <;> omega
  ·rw [if_neg h,if_neg (fun hh=>h hh.2)];omega
theorem fnds_sum:∀ (es:List Ent) (a:Nat),((fnds es a).map fun f=>(f.size:Int)).sum=(encs es).length
 |[],_=>rfl
 |x::es,a=>by
  have e:encs (x::es)=(Frm.encode x).1++encs es:=rfl
  unfold fnds
  rw [List.map_cons,List.sum_cons,fnds_sum es,e,List.length_append];simp
theorem segSum_row (l:List Fnd) (k s:Int):segSum (l.map fun f=>(k,f)) s=if k=s then (l.map fun f=>(f.size:Int)).sum else 0:=by
 unfold segSum
 rw [List.map_map]
 by_cases h:k=s
 ·rw [if_pos h]
  congr 1
  refine List.map_congr_left fun f _=>?_
  simp [h]
 ·rw [if_neg h]
  induction l with
  |nil=>rfl
  |cons f l ih=>rw [List.map_cons,List.sum_cons,ih];simp [h]
theorem segSum_lt:∀ (C:List (List Ent)) (k:Nat) (s:Int),s<k→segSum (rowsC k C) s=0
 |[],_,_,_=>rfl
 |es::C,k,s,h=>by
  unfold rowsC
  rw [segSum_app,segSum_lt C (k+1) s oQ,segSum_row,if_neg oQ];rfl
theorem segSum_is:∀ (C:List (List Ent)) (k j:Nat) (es:List Ent),C[j]?=some es→segSum (rowsC k C) ((k+j:Nat):Int)=(encs es).length
 |[],_,_,_,h=>by simp at h
 |fs::C,k,0,es,h=>by
  obtain rfl:fs=es:=by simpa using h
  unfold rowsC
  rw [segSum_app,segSum_lt C (k+1) _ oQ,segSum_row,if_pos (by simp),fnds_sum];simp
 |fs::C,k,j+1,es,h=>by
  unfold rowsC
  rw [segSum_app,segSum_row,if_neg oQ]
  have:=segSum_is C (k+1) j es (by simpa using h)
  rw [show k+(j+1)=k+1+j by omega,this];simp
end Go.Rep
namespace Go.Seg
open Go.Med
section
variable {i j K:Nat}{M D:Med}
end
section
variable {i n c K:Nat}{L:Log}{M D:Med}
theorem segs_rise (h:L.Ok):L.segs.Pairwise (· < ·):=h.rise
theorem segs_pos (h:L.Ok):∀ s∈L.segs,0≤s:=fun s hs=>by
 unfold Log.segs at hs
 obtain ⟨x,hx,rfl⟩:=List.mem_map.1 hs
 exact (h.nums x hx).1
theorem rows_ok (h:L.Ok) (M:Med) (n:Nat):Rep.Rows (Rep.rowsOf (fun s=>L.bytes M s) (L.segs.take n)):=
 Rep.rowsOf_rows ((segs_rise h).sublist (List.take_sublist _ _)) fun s hs=>segs_pos h s (List.mem_of_mem_take hs)
end
end Go.Seg
namespace Go.Rep
open Go.Frm (Bs Fnd Ent fnds encs GoodE)
open Go.Seg (Plc mag)
open Go.Tab
theorem newest_some:∀ {l:List Row}{k:Bs}{r:Row},newest l k=some r→r∈l∧rtag r≠2∧rkey r=k
 |[],_,_,h=>by cases h
 |x::l,k,r,h=>by
  unfold newest at h
  split at h
  ·rename_i y hy
   cases h
   obtain ⟨h1,h2⟩:=newest_some hy
   exact ⟨.tail _ h1,h2⟩
  ·split at h
   ·rename_i hh
    cases h
    exact ⟨.head _,hh⟩
   ·cases h
end Go.Rep
namespace Go.Seg
open Go.Med
open Go.Frm (Bs Fnd encs GoodE fnds Ent)
open Go.Rep
section
variable {n:Nat}{ds:List Ent}{L:Log}{M:Med}{C:List (List Ent)}{c:Nat}
end
end Go.Seg
namespace Go.Rep
open Go.Frm (Bs Fnd Ent fnds encs GoodE)
open Go.Seg (Plc mag)
open Go.Tab
def nowOf (l:List Row) (k:Bs):Option Plc:=(newest l k).bind fun r=>if rtag r=0 then some (rplc r) else none
def objOf (es:List Ent) (k:Bs):Option Bs:=(lastE es k).bind fun e=>if e.tag=0 then some e.data else none
section
variable {l:List Row}{r:Row}{k:Bs}{es:List Ent}{x:Ent}{C:List (List Ent)}
theorem nowOf_put (h:rtag r=0):nowOf (l++[r])=Tab.put (nowOf l) (rkey r) (rplc r):=by
 funext k
 unfold nowOf Tab.put
 rw [newest_snoc]
 by_cases hk:k=rkey r
 ·rw [if_pos ⟨by rw [h];decide,hk.symm⟩,if_pos hk]
  show (if rtag r=0 then some (rplc r) else none)=_
  rw [if_pos h]
 ·rw [if_neg (fun q=>hk q.2.symm),if_neg hk]
theorem nowOf_del (h:rtag r=1):nowOf (l++[r])=Tab.del (nowOf l) (rkey r):=by
 funext k
 unfold nowOf Tab.del
 rw [newest_snoc]
 by_cases hk:k=rkey r
 ·rw [if_pos ⟨by rw [h];decide,hk.symm⟩,if_pos hk]
  show (if rtag r=0 then some (rplc r) else none)=_
  rw [if_neg (by rw [h];decide)]
 ·rw [if_neg (fun q=>hk q.2.symm),if_neg hk]
theorem nowOf_com (h:rtag r=2):nowOf (l++[r])=nowOf l:=by
 funext k
 unfold nowOf
 rw [newest_snoc,if_neg (fun q=>q.1 h)]
theorem nowOf_obj (l:List Row) (k:Bs):(nowOf l k).isSome=(objOf (l.map (·.2.e)) k).isSome∧∀ r,newest l k=some r→rtag r=0→objOf (l.map (·.2.e)) k=some r.2.e.data:=by
 have e:=newest_e l k
 unfold nowOf objOf
 rw [← e]
 cases hn:newest l k with
 |none=>exact ⟨rfl,fun r hr=>by cases hr⟩
 |some r=>
  refine ⟨?_,fun r' hr h0=>?_⟩
  ·show (if rtag r=0 then some (rplc r) else none).isSome=(if r.2.e.tag=0 then some r.2.e.data else none).isSome
   unfold rtag
   split <;> rfl
  ·cases hr
   show (if r.2.e.tag=0 then some r.2.e.data else none)=_
   rw [if_pos (show r.2.e.tag=0 from h0)]
theorem nowOf_data {p:Plc} (h:nowOf l k=some p):∃ r∈l,rplc r=p∧rtag r=0∧rkey r=k∧objOf (l.map (·.2.e)) k=some r.2.e.data:=by
 have h':=h
 unfold nowOf at h
 obtain ⟨r,h1,h2⟩:=Option.bind_eq_some_iff.1 h
 obtain ⟨h3,h4,h5⟩:=newest_some h1
 split at h2
 ·rename_i h6
  cases h2
  exact ⟨r,h3,rfl,h6,h5,(nowOf_obj l k).2 r h1 h6⟩
 ·cases h2
theorem objOf_put (h:x.tag=0):objOf (es++[x])=Tab.put (objOf es) x.key x.data:=by
 funext k
 unfold objOf Tab.put
 rw [lastE_snoc]
 by_cases hk:k=x.key
 ·rw [if_pos ⟨by rw [h];decide,hk.symm⟩,if_pos hk]
  show (if x.tag=0 then some x.data else none)=_
  rw [if_pos h]
 ·rw [if_neg (fun q=>hk q.2.symm),if_neg hk]
theorem objOf_del (h:x.tag=1):objOf (es++[x])=Tab.del (objOf es) x.key:=by
 funext k
 unfold objOf Tab.del
 rw [lastE_snoc]
 by_cases hk:k=x.key
 ·rw [if_pos ⟨by rw [h];decide,hk.symm⟩,if_pos hk]
  show (if x.tag=0 then some x.data else none)=_
  rw [if_neg (by rw [h];decide)]
 ·rw [if_neg (fun q=>hk q.2.symm),if_neg hk]
theorem objOf_com (h:x.tag=2):objOf (es++[x])=objOf es:=by
 funext k
 unfold objOf
 rw [lastE_snoc,if_neg (fun q=>q.1 h)]
theorem puts_now {kv:List (Bs×Abt)} (h:Tab.Lists (ledger l) kv):Tab.mapOf (puts kv)=nowOf l:=by
 have hl:=Tab.mapOf_lists (puts_rise h.rise)
 funext k
 have key:∀ p,Tab.mapOf (puts kv) k=some p↔nowOf l k=some p:=fun p=>by
  rw [← hl.mem]
  unfold puts nowOf
  rw [List.mem_map,Option.bind_eq_some_iff]
  constructor
  ·rintro ⟨q,hq,e⟩
   obtain ⟨h1,h2⟩:=List.mem_filter.1 hq
   have h3:=(h.mem q.1 q.2).1 h1
   unfold ledger at h3
   obtain ⟨r,h4,h5⟩:=Option.map_eq_some_iff.1 h3
   have e1:q.1=k:=congrArg Prod.fst e
   have e2:q.2.place=p:=congrArg Prod.snd e
   refine ⟨r,by rw [← e1];exact h4,?_⟩
   have ht:q.2.tag=0:=by simpa using h2
   rw [← h5]at ht e2
   simp only at ht e2
   rw [if_pos ht,e2]
  ·rintro ⟨r,h1,h2⟩
   split at h2
   ·rename_i ht
    cases h2
    refine ⟨(k,⟨rtag r,rplc r,first l k⟩),List.mem_filter.2 ⟨(h.mem _ _).2 (by unfold ledger;rw [h1];rfl),by simpa using ht⟩,rfl⟩
   ·cases h2
 cases hn:nowOf l k with
 |some p=>exact (key p).2 hn
 |none=>
  cases hm:Tab.mapOf (puts kv) k with
  |none=>rfl
  |some p=>rw [(key p).1 hm]at hn;cases hn
theorem fnds_snoc:∀ (es:List Ent) (a:Nat) (x:Ent),fnds (es++[x]) a=fnds es a++[⟨x,a+(encs es).length,(Frm.encode x).1.length⟩]
 |[],a,x=>by show [_]=[_];rw [show (encs []).length=0 from rfl,Nat.add_zero]
 |y::es,a,x=>by
  rw [List.cons_append,fnds,fnds,fnds_snoc es _ x,List.cons_append]
  rw [show encs (y::es)=(Frm.encode y).1++encs es from rfl,List.length_append,Nat.add_assoc]
theorem rowsC_app:∀ (C D:List (List Ent)) (k:Nat),rowsC k (C++D)=rowsC k C++rowsC (k+C.length) D
 |[],D,k=>rfl
 |es::C,D,k=>by
  rw [List.cons_append]
  show _++rowsC (k+1) (C++D)=(_++rowsC (k+1) C)++_
  rw [rowsC_app C D (k+1),List.append_assoc,List.length_cons,show k+1+C.length=k+(C.length+1) by omega]
def putRow (C:List (List Ent)) (b:Bool) (x:Ent):Row:=
 if b then (((C.length - 1:Nat):Int),⟨x,8+(encs (C.getLastD [])).length,(Frm.encode x).1.length⟩) else ((C.length:Int),⟨x,8,(Frm.encode x).1.length⟩)
theorem rowsC_put (C:List (List Ent)) (b:Bool) (x:Ent) (hb:b=true→C≠[]):rowsC 0 (Seg.put C b x)=rowsC 0 C++[putRow C b x]:=by
 cases b with
 |true=>
  have hne:=hb rfl
  unfold Seg.put putRow
  simp only [if_true]
  rw [rowsC_app]
  conv=>rhs;rw [Seg.last_of hne,rowsC_app]
  rw [List.append_assoc]
  congr 1
  show _++[]=(_++[])++_
  rw [List.append_nil,List.append_nil,fnds_snoc,List.map_append,List.length_dropLast,Nat.zero_add]
  have hg:(C.dropLast++[C.getLastD []]).getLastD []=C.getLastD []:=by rw [List.getLastD_eq_getLast?,List.getLast?_concat];rfl
  have hlen:(C.dropLast++[C.getLastD []]).length=C.length:=by rw [← Seg.last_of hne]
  rw [hg,hlen]
  rfl
 |false=>
  unfold Seg.put putRow
  simp only [Bool.false_eq_true,if_false]
  rw [rowsC_app]
  congr 1
  show _++[]=_
  rw [List.append_nil,Nat.zero_add]
  rfl
theorem putRow_e (C:List (List Ent)) (b:Bool) (x:Ent):(putRow C b x).2.e=x:=by
 unfold putRow;split <;> rfl
end
end Go.Rep
namespace Go.Seg
open Go.Med
open Go.Frm (Bs Ent encs GoodE)
open Go.Rep
section
variable {K r E B n:Nat}{L:Log}{M:Med}{C:List (List Ent)}{x:Ent}
theorem HG.append_at (h:HG K r E B n L M C) (h0:(Frm.encode x).2=0) (hz:(L.append M x).2.2=0):(L.append M x).2.1=rplc (putRow C (L.fits (Frm.encode x).1.length) x):=by
 cases hf:L.fits (Frm.encode x).1.length with
 |true=>
  rw [Log.append_grow h0 hf]at hz ⊢
  obtain ⟨s,hl⟩:=h.keeps.log.last (fits_on' hf)
  have hl':=hl
  rw [List.getLast?_eq_getElem?]at hl'
  have hlt:=(List.getElem?_eq_some_iff.1 hl').1
  have hlen:=h.len
  have hne:C≠[]:=by intro e;rw [e,List.length_nil]at hlen;omega
  have hcl:C[L.l.length - 1]?=some (C.getLastD []):=by
   conv=>lhs;rw [last_of hne]
   rw [List.getElem?_append_right (by rw [List.length_dropLast];omega),List.length_dropLast,show L.l.length - 1 - (C.length - 1)=0 by omega];rfl
  have hat:=h.at_ _ _ hcl
  rw [hl']at hat
  cases hat
  unfold Log.grow at hz ⊢
  rw [hl]at hz ⊢
  simp only at hz ⊢
  split at hz
  ·rename_i g
   rw [if_pos g]
   unfold putRow rplc
   simp only [if_true]
   rw [hlen]
   rfl
  ·rename_i g
   exact absurd hz g
 |false=>
  rw [Log.append_begin h0 hf]at hz ⊢
  obtain ⟨_,s2,s3,_,_⟩:=h.keeps.shut
  have hnx:(L.shut M).1.1.next=C.length:=by
   have:=h.next
   unfold Log.next at this ⊢
   rw [s3];exact this
  unfold Log.begin at hz ⊢
  rw [if_pos s2]at hz ⊢
  generalize (L.shut M).1.1=L1 at *
  generalize (L.shut M).1.2=M1 at *
  unfold Log.begin1 at hz ⊢
  by_cases g2:1048576≤L1.next
  ·rw [if_pos g2]at hz
   exact absurd (show (16:Int)=0 from hz) dCz
  rw [if_neg g2]at hz ⊢
  by_cases g3:(M1.create (name L1.next)).2=0
  rotate_left
  ·rw [if_pos g3]at hz
   exact absurd hz g3
  rw [if_neg (fun q=>q g3)]at hz ⊢
  by_cases g4:((M1.create (name L1.next)).1.append (name L1.next) (mag++(Frm.encode x).1)).2=0
  ·rw [if_pos g4,hnx]
   rfl
  rw [if_neg g4]at hz
  split at hz
  ·simp only at hz
   split at hz
   ·exact absurd hz dCz
   ·rename_i g5;exact absurd hz g5
  ·exact absurd hz g4
theorem HG.fits_ne (h:HG K r E B n L M C){k:Nat}:L.fits k=true→C≠[]:=fun hf=>by
 have h1:=h.keeps.log.on (fits_on' hf)
 intro e
 have:=h.len
 rw [e,List.length_nil]at this
 exact h1 (List.eq_nil_of_length_eq_zero this)
end
end Go.Seg
namespace Go.Frm
theorem lt_take:∀ {a b:Bs}{i:Nat}{x y:UInt8},a.take i=b.take i→a[i]?=some x→b[i]?=some y→x≠y→(a<b↔x<y)
 |[],_,_,_,_,_,h,_,_=>by simp at h
 |_::_,[],_,_,_,_,_,h,_=>by simp at h
 |c::a,d::b,0,x,y,_,h1,h2,hne=>by
  obtain rfl:c=x:=by simpa using h1
  obtain rfl:d=y:=by simpa using h2
  rw [List.cons_lt_cons_iff]
  exact ⟨fun h=>h.resolve_right fun e=>hne e.1,.inl⟩
 |c::a,d::b,i+1,x,y,ht,h1,h2,hne=>by
  simp only [List.take_succ_cons,List.cons.injEq]at ht
  obtain ⟨rfl,ht⟩:=ht
  rw [List.cons_lt_cons_iff,← lt_take ht (by simpa using h1) (by simpa using h2) hne]
  exact ⟨fun h=>h.elim (fun h=>absurd h (UInt8.lt_irrefl c)) (·.2),fun h=> .inr ⟨rfl,h⟩⟩
end Go.Frm
namespace Go.Proofs.YtjbhhbnopnmcnaaGreatDoor
open Go Go.Sl Go.Med Go.MapKept Go.RowKit
section
variable {w0 w:World}{F:List HProp}{av bv v:Value}
theorem bys_at {l:Bs}{i:Nat}{x:UInt8} (h:l[i]?=some x):(bys l)[i]?=some (.int .u8 x.toNat):=by unfold bys;rw [List.getElem?_map,h];rfl
theorem bys_atA {l:Bs}{i:Nat}{x:UInt8} (h:l[i]?=some x):(bys l).toArray[i]?=some (.int .u8 x.toNat):=by rw [List.getElem?_toArray];exact bys_at h
theorem take_next {α:Type}{a b:List α}{i:Nat}{x:α} (h:a.take i=b.take i) (h1:a[i]?=some x) (h2:b[i]?=some x):a.take (i+1)=b.take (i+1):=by
 rw [List.take_add_one,List.take_add_one,h,h1,h2]
theorem rless_c (a b:Bs) (ha:a.length=32) (hb:b.length=32) (h:Sat w0 w F) :
  Calls Tryz.prog 38 #[.agg (bys a).toArray,.agg (bys b).toArray] w (Rtn fun v w'=>v = .bool (decide (a<b))∧Sat w0 w' F):=by
 have Ha:=uQ ha;have Hb:=uQ hb
 clear ha hb
 go_enter Tryz.func38,Tryz.ntmps38
 go_wp2_with (with_reducible apply at_box)
 refine ⟨wl_box h evD evD ?_⟩
 intro b2 w2 h2
 go_wp2_with (with_reducible apply at_box)
 refine ⟨wl_box h2 evD evD ?_⟩
 intro b3 w3 h3
 clear h h2
 go_wp2_with fail
 go_loopg [5] 32 (fun g iq wr=>∃ i:Nat,g=32 - i∧i≤32∧iq = .int .i64 i∧a.take i=b.take i∧Sat w0 wr (pt b3 (.cells (bys b).toArray 31 (0,0))::pt b2 (.cells (bys a).toArray 31 (0,0))::F))
 case atStart=>exact ⟨0,rfl,Nat.zero_le _,rfl,rfl,h3⟩
 case round=>
  obtain ⟨i,rfl,hi,rfl,htk,hS⟩:=hrel
  clear h3
  by_cases hlt:i<32
  ·have c1:(i:Int)<32:=by omega
   have hwi:=iwQ (i:=i)
   obtain ⟨x,hx⟩:∃ x,a[i]?=some x:=⟨_,List.getElem?_eq_getElem (by have:=Ha.out;omega)⟩
   obtain ⟨y,hy⟩:∃ y,b[i]?=some y:=⟨_,List.getElem?_eq_getElem (by have:=Hb.out;omega)⟩
   have hG0:World.cell? _ ⟨b2,i,none⟩=some (.int .u8 x.toNat)∧World.cell? _ ⟨b3,i,none⟩=some (.int .u8 y.toNat):=⟨hS.drew.cellP pick1 i (bys_atA hx),hS.drew.cellP pick0 i (bys_atA hy)⟩
   have Hx:=uQ hx;have Hy:=uQ hy;have Htk:=uQ htk;have Hlt:=uQ hlt
   clear htk hi hlt hx hy
   have hS1:=hS.drew
   by_cases hxy:x=y
   ·subst hxy
    have Hn:=uQ (take_next Htk.out Hx.out Hy.out)
    generalize (x.toNat:Int)=X at *
    go_wp2_with fail
    refine wpL_begin [6] (fun w'=>w'.cell? ⟨b2,i,none⟩=some (.int .u8 X)∧w'.cell? ⟨b3,i,none⟩=some (.int .u8 X)) kRz ?_
    have hG:=hG0
    clear hG0
    refine rP 0 ?_ (y:=mvQ)
    refine rP 1 ?_ (y:=ixQ)
    refine rt 2 (h:=?_)
    refine rP 3 ?_ (y:=mvQ)
    refine rP 4 ?_ (y:=ixQ)
    refine rt 5 (h:=?_)
    refine rP 6 ?_ (y:=bnQ)
    refine wpL_done kRz ?_
    clear hG
    try simp only [ayQ]
    try go_frame
    go_wp2_with fail
    go_roundg (32 - (i+1))
    case measure=>have:=Hlt.out;omega
    case rel=>exact ⟨i+1,rfl,Hlt.out,by first|rfl|go_num,Hn.out,hS1⟩
   ·have He:=uQ (show decide (a<b)=decide ((x.toNat:Int)<(y.toNat:Int)) by
     rw [decide_eq_decide,Frm.lt_take Htk.out Hx.out Hy.out hxy,UInt8.lt_iff_toNat_lt];omega)
    have hne:((x.toNat:Int)==(y.toNat:Int))=false:=by
     rw [beq_eq_false_iff_ne];intro e;exact hxy (UInt8.toNat_inj.1 oQ)
    have hne2:((x.toNat:Int) != (y.toNat:Int))=true:=by
     rw [bne_iff_ne];intro e;exact hxy (UInt8.toNat_inj.1 oQ)
    clear hxy
    generalize (x.toNat:Int)=X at *
    generalize (y.toNat:Int)=Y at *
    go_wp2_with fail
    refine wpL_begin [6] (fun w'=>w'.cell? ⟨b2,i,none⟩=some (.int .u8 X)∧w'.cell? ⟨b3,i,none⟩=some (.int .u8 Y)) kRz ?_
    have hG:=hG0
    clear hG0
    refine rP 0 ?_ (y:=mvQ)
    refine rP 1 ?_ (y:=ixQ)
    refine rt 2 (h:=?_)
    refine rP 3 ?_ (y:=mvQ)
    refine rP 4 ?_ (y:=ixQ)
    refine rt 5 (h:=?_)
    refine rP 6 ?_ (y:=bnQ)
    refine wpL_done kRz ?_
    try simp only [ayQ]
    try go_frame
    go_wp2_with fail
    have hG2:World.cell? _ ⟨b2,i,none⟩=some (.int .u8 X)∧World.cell? _ ⟨b3,i,none⟩=some (.int .u8 Y):=hG
    have hS2:=hS1.drew
    clear hG
    refine wpL_begin [6,7] (fun w'=>w'.cell? ⟨b2,i,none⟩=some (.int .u8 X)∧w'.cell? ⟨b3,i,none⟩=some (.int .u8 Y)) kRz ?_
    have hG:World.cell? _ ⟨b2,i,none⟩=some (.int .u8 X)∧World.cell? _ ⟨b3,i,none⟩=some (.int .u8 Y):=⟨by first|exact hG2.1|exact hS2.cellP pick1 i (by rw [bys_atA Hx.out];rfl),by first|exact hG2.2|exact hS2.cellP pick0 i (by rw [bys_atA Hy.out];rfl)⟩
    refine rP 0 ?_ (y:=mvQ)
    refine rP 1 ?_ (y:=ixQ)
    refine rt 2 (h:=?_)
    refine rP 3 ?_ (y:=mvQ)
    refine rP 4 ?_ (y:=ixQ)
    refine rt 5 (h:=?_)
    refine rP 6 ?_ (y:=bnQ)
    refine rP 7 ?_ (y:=asQ)
    refine wpL_done kRz ?_
    clear hG hG2
    try simp only [ayQ]
    try go_frame
    go_wp2_with fail
    go_ret
    rw [He.out]
    exact ⟨_,rfl,rfl,hS2.sb⟩
  ·obtain rfl:i=32:=by omega
   have hab:a=b:=by
    rw [List.take_of_length_le (by have:=Ha.out;omega),List.take_of_length_le (by have:=Hb.out;omega)]at htk
    exact htk
   have He:=uQ (show decide (a<b)=false by rw [hab];exact decide_eq_false (List.lt_irrefl b))
   clear htk hlt hi hab
   go_wp2_with fail
   go_ret
   rw [He.out]
   exact ⟨_,rfl,rfl,hS.sb⟩
end
end Go.Proofs.YtjbhhbnopnmcnaaGreatDoor
namespace Go.Rep
open Go.Frm (Bs Fnd)
open Go.Seg (Plc)
open Go.Tab
def hit (k:Bs) (r:Row):Bool:=decide (rtag r<2) && decide (rkey r=k)
section
variable {l:List Row}{k:Bs}{i:Nat}{r:Row}
end
section
variable {V:Type}
variable {l:List (Bs×V)}{x y:Bs×V}{i:Nat}
end
section
variable {l:List Row}{us:List Use}{i k:Nat}{r:Row}{u:Use}
end
end Go.Rep
namespace Go.Proofs.YtjbhhbnopnmcnaaGreatDoor
open Go Go.Sl Go.Med Go.ChangeShapes Go.WideShapes Go.RowKit
section
variable {H:Type}{enc:TypeId×Value→H}{W:World}{base:Nat}{spare:Nat→Bool}{held:Bool}
theorem open_key {t:TypeId}{fuel:Nat}{cs:List Value}{x:DataW H×List MemPlace}{k:Nat} (ht:Tryz.prog.underlying t=some (.array k 5)) (hk:Tryz.prog.cellsOf t=k) (h:DataW.trod enc Tryz.prog W base spare held fuel t cs=some x) :
  ∃ l:Bs,bys l=cs∧l.length=k:=by
 obtain ⟨xs,m,_,_,hl,hxl,hf⟩:=DataW.trod_array ht h
 have e1:Tryz.prog.cellsOf 5=1:=by kernel_rfl
 rw [hk]at hl
 have hz:∀ i,i<k→∃ z:Int,cs[i]?=some (.int .u8 z)∧(Lit.int .u8 z).wf=true:=by
  intro i hi
  have h0:=hf i hi
  rw [List.getElem?_eq_getElem oQ,e1,Nat.mul_one]at h0
  obtain ⟨z,q1,_,q3⟩:=DataW.trod_int Tryz.underlying5 h0
  refine ⟨z,?_,q3⟩
  have:((cs.drop i).take 1)[0]?=some (.int .u8 z):=by rw [q1];rfl
  rw [List.getElem?_take,if_pos dCz,List.getElem?_drop]at this
  exact this
 obtain ⟨zs,z1,z2⟩:=list_of_fun hz
 have hcs:cs=zs.map (.int .u8):=by
  apply List.ext_getElem?
  intro i
  rw [List.getElem?_map]
  by_cases hi:i<k
  ·have:=(z2 i _ (List.getElem?_eq_getElem oQ)).1
   rw [this,List.getElem?_eq_getElem (show i<zs.length by omega)];rfl
  ·rw [List.getElem?_eq_none oQ,List.getElem?_eq_none oQ];rfl
 refine ⟨toBs zs,?_,by unfold toBs;rw [List.length_map];exact z1⟩
 rw [bys_toBs,hcs]
 intro z hz
 obtain ⟨i,hi,rfl⟩:=List.getElem_of_mem hz
 exact (z2 i _ (List.getElem?_eq_getElem hi)).2
structure EntAt (W:World) (p:Frm.Ent×Value):Prop where
 key:p.1.key.length=32
 tag:inI p.1.tag
 rd:rdsl 1 p.2 (bys p.1.data) W
 cap:capOk p.2
end
structure PC where
 n:Int
 es:List (Frm.Ent×Value)
 ev:Value
 rest:Bs
 rv:Value
 bad:Bool
 at_:Int
 plain:Bool
structure PC.At (W:World) (d:PC):Prop where
 n:inI d.n
 rd:rdsl 34 d.ev (entsL d.es) W
 cap:capOk d.ev
 ents:∀ p∈d.es,EntAt W p
 rr:rdsl 1 d.rv (bys d.rest) W
 rc:capOk d.rv
 at_:inI d.at_
section
variable {H:Type}{enc:TypeId×Value→H}{W:World}{base:Nat}{spare:Nat→Bool}{held:Bool}
end
end Go.Proofs.YtjbhhbnopnmcnaaGreatDoor
namespace Go.Seg
open Go.Med
open Go.Frm (encs GoodE fnds Ent)
end Go.Seg
namespace Go.Proofs.YtjbhhbnopnmcnaaGreatDoor
open Go Go.Sl Go.Med Go.MapKept Go.RowKit
section
variable {w0 w:World}{F R:List HProp}{v bv dv x lv:Value}{p m:Nat}{L:Seg.Log}{M:Med}
end
end Go.Proofs.YtjbhhbnopnmcnaaGreatDoor
namespace Go.Seg
open Go.Med
open Go.Frm (Bs Fnd encs GoodE fnds Ent)
open Go.Rep
section
variable {n n2:Nat}{ds ps:List Ent}{L L2:Log}{M M2:Med}{C C0 C2:List (List Ent)}{c c2:Nat}{d:Ent}
structure Same (L L2:Log) (M M2:Med) (c c2:Nat):Prop where
 one:c=L.segs.length
 two:c2=L.segs.length
 segs:L2.segs.take c2=L.segs.take c
 rows:rowsOf (fun s=>L2.bytes M2 s) (L2.segs.take c2)=rowsOf (fun s=>L.bytes M s) (L.segs.take c)
 uses:usesOf (fun s=>L2.bytes M2 s) (L2.segs.take c2)=usesOf (fun s=>L.bytes M s) (L.segs.take c)
 le:L.segs.length≤L2.segs.length
end
end Go.Seg
namespace Go.Hin
open Go.Med
open Go.Rep (Use)
open Go.Seg (Plc)
def fin (n:Int) (us:List Use) (i:Nat):Bool:=decide (i=us.length) && (decide (0<i) && decide ((us.getD (i - 1) ⟨0,0,0⟩).seg=n))
def fitU (sz:Int→Int) (s:Int) (u:Use):Bool:=decide (u.seg=s) && (decide (u.size=sz s) && decide (u.live≤u.size))
def fitsL (sz:Int→Int) (n:Int) (us:List Use):List Int→Nat→Bool
 |[],i=>fin n us i
 |s::ss,i=>if n<s then fin n us i else match us[i]? with
  |none=>false
  |some u=>if fitU sz s u=true then fitsL sz n us ss (i+1) else false
def fits (L:Seg.Log) (us:List Use) (n:Int):Bool:=fitsL L.size n us L.segs 0
def lies (p:Plc) (sz:Int→Int):Bool:=decide (8≤p.at_) && (decide (41≤p.size) && decide (p.size≤sz p.seg - p.at_))
def sizes (us:List Use):Int→Int:=us.foldl (fun f u=>fun s=>if s=u.seg then u.size else f s) fun _=>0
section
variable {T:Kept}{s1 s2 s:ByteArray}{b1 b2 b:Bs}{K:Nat}{M:Med}
end
end Go.Hin
namespace Go.Seg
open Go.Med
open Go.Frm (Bs Fnd encs GoodE fnds Ent)
open Go.Rep
structure HintOk (L:Log) (c:Nat) (us:List Use) (ps:List (Bs×Plc)):Prop where
 segs:us.map (·.seg)=L.segs.take c
 use:∀ u∈us,0≤u.live∧u.live≤u.size∧u.size=L.size u.seg∧u.size≤33554432
 key:∀ q∈ps,q.1.length=32
 rise:ps.Pairwise fun a b=>a.1<b.1
 plc:∀ q∈ps,8≤q.2.at_∧41≤q.2.size∧q.2.at_+q.2.size≤L.size q.2.seg∧q.2.seg∈L.segs.take c
section
variable {K r E B n c:Nat}{L:Log}{M:Med}{C:List (List Ent)}
theorem HG.seg_at (h:HG K r E B n L M C) (hc:c≤C.length):∀ s∈L.segs.take c,∃ (j:Nat) (es:List Ent),s=(j:Int)∧j<c∧C[j]?=some es:=fun s hs=>by
 obtain ⟨j,hj⟩:=List.getElem?_of_mem hs
 rw [List.getElem?_take]at hj
 split at hj
 ·rename_i hjc
  have hl:j<C.length:=oQ
  have:=h.segs.2 j hl
  rw [hj]at this
  cases this
  exact ⟨j,C[j],rfl,hjc,List.getElem?_eq_getElem hl⟩
 ·cases hj
theorem HG.hint (h:HG K r E B n L M C) (hc:c≤C.length){kv:List (Bs×Abt)} (hk:Tab.Lists (ledger (rowsOf (fun s=>L.bytes M s) (L.segs.take c))) kv) (h32:∀ q∈kv,q.1.length=32) :
  HintOk L c ((usesOf (fun s=>L.bytes M s) (L.segs.take c)).map (upd kv)) (puts kv):=by
 have hok:=rows_ok h.keeps.log M c
 rw [h.rows c]at hok hk
 have hseg:=h.seg_at hc
 have hrow:∀ p∈kv,∃ r,r∈Rep.rowsC 0 (C.take c)∧rtag r≠2∧p.2.tag=rtag r∧p.2.place=rplc r:=fun p hp=>by
  have h1:=(hk.mem p.1 p.2).1 hp
  unfold ledger at h1
  obtain ⟨r,h2,h3⟩:=Option.map_eq_some_iff.1 h1
  obtain ⟨h4,h5,_⟩:=newest_some h2
  exact ⟨r,h4,h5,by rw [← h3],by rw [← h3]⟩
 refine ⟨?_,fun u hu=>?_,fun q hq=>?_,Rep.puts_rise hk.rise,fun q hq=>?_⟩
 ·unfold usesOf
  rw [List.map_map,List.map_map]
  conv=>rhs;rw [← List.map_id (L.segs.take c)]
  rfl
 ·obtain ⟨u0,h1,rfl⟩:=List.mem_map.1 hu
  unfold usesOf at h1
  obtain ⟨s,hs,rfl⟩:=List.mem_map.1 h1
  obtain ⟨j,es,rfl,hjc,hj⟩:=hseg s hs
  have hb:=h.bytes hj
  have hz:=h.size hj
  have hlv:=live_eq hok hk (j:Int)
  have hls:=live_seg (l:=Rep.rowsC 0 (C.take c)) (j:Int) _ (Nat.le_refl _)
  have hsm:=segSum_is (C.take c) 0 j es (by rw [List.getElem?_take,if_pos hjc];exact hj)
  rw [List.take_length]at hls
  rw [Nat.zero_add]at hsm
  have hm:mag.length=8:=rfl
  have hsz:=h.keeps.log.sizes _ (List.mem_of_getElem? (h.at_ j es hj))
  unfold upd
  simp only [hb,hz,List.length_append]
  rw [hlv,hsm]at hls
  simp only at hsz
  refine ⟨hls.1,?_,trivial,?_⟩
  ·have:=hls.2;omega
  ·omega
 ·unfold puts at hq
  obtain ⟨p,hp,rfl⟩:=List.mem_map.1 hq
  exact h32 p (List.mem_filter.1 hp).1
 ·unfold puts at hq
  obtain ⟨p,hp,rfl⟩:=List.mem_map.1 hq
  obtain ⟨hp1,hp2⟩:=List.mem_filter.1 hp
  obtain ⟨r,h1,_,h3,h4⟩:=hrow p hp1
  obtain ⟨j,es,h5,h6,h7⟩:=Rep.rowsC_mem (C.take c) 0 h1
  obtain ⟨u,v,h8,h9,h10⟩:=Rep.fnds_mem es 8 h7
  have hjc:j<c:=by
   have:=(List.getElem?_eq_some_iff.1 h5).1
   rw [List.length_take]at this;omega
  have hj:C[j]?=some es:=by rw [List.getElem?_take,if_pos hjc]at h5;exact h5
  have hg:GoodE r.2.e:=(h.good es (List.mem_of_getElem? hj)).1 _ (by rw [h8];simp)
  have hz:=h.size hj
  have ht:r.2.e.tag=0:=by
   have:p.2.tag=0:=by simpa using hp2
   rw [h3]at this;exact this
  have hl:r.2.size=41+r.2.e.data.length:=by
   rw [h10,size_enc hg.1 hg.2]
   unfold Frm.size
   rw [if_neg (by simp [(Frm.encode_zero hg.1).1]),if_neg (by rw [ht];decide)]
  have hes:encs es=encs u++((Frm.encode r.2.e).1++encs v):=by rw [h8,encs_app];rfl
  have hm:mag.length=8:=rfl
  have hr1:r.1=(j:Int):=by rw [h6,Nat.zero_add]
  simp only
  rw [h4]
  show 8≤(r.2.at_:Int)∧41≤(r.2.size:Int)∧(r.2.at_:Int)+(r.2.size:Int)≤L.size r.1∧r.1∈L.segs.take c
  rw [hr1,hz,List.length_append,hes,List.length_append,List.length_append]
  refine ⟨by omega,by omega,by omega,?_⟩
  have hl:j<C.length:=(List.getElem?_eq_some_iff.1 hj).1
  exact List.mem_of_getElem? (i:=j) (by rw [List.getElem?_take,if_pos hjc];exact h.segs.2 j hl)
end
section
variable {n:Nat}{L:Log}{M:Med}{C:List (List Ent)}{c:Cal}
theorem endsC_put (C:List (List Ent)) (b:Bool):∃ es,put C b comEnt≠[]∧(put C b comEnt)[(put C b comEnt).length - 1]?=some es∧Rep.endsC es=true:=by
 unfold put
 cases b with
 |true=>
  simp only [if_true]
  refine ⟨C.getLastD []++[comEnt],by simp,?_,?_⟩
  ·rw [List.length_append,List.length_singleton,Nat.add_sub_cancel,List.getElem?_append_right (Nat.le_refl _),Nat.sub_self];rfl
  ·unfold Rep.endsC;rw [List.getLast?_concat];rfl
 |false=>
  simp only [Bool.false_eq_true,if_false]
  refine ⟨[comEnt],by simp,?_,rfl⟩
  rw [List.length_append,List.length_singleton,Nat.add_sub_cancel,List.getElem?_append_right (Nat.le_refl _),Nat.sub_self];rfl
theorem commit_waits {K r:Nat} (k:Keeps K r L M) (h0:(L.commit M).2.2=0):(L.commit M).1.2.waits=[]∧(L.commit M).1.2.fast=(L.commit M).1.2.now∧(L.commit M).1.1.fresh=0∧(L.commit M).2.1=(L.append M comEnt).2.1.seg:=by
 rw [Log.commit_eq]at h0 ⊢
 split at h0
 ·rename_i g;exact absurd h0 g
 rename_i g1
 rw [if_neg g1]
 split at h0
 ·rename_i g;exact absurd h0 g
 rename_i g2
 rw [if_neg g2]
 split at h0
 ·rename_i g;exact absurd h0 g
 rename_i g3
 rw [if_neg g3]
 have k1:=(k.append comEnt rfl).1
 have hc:=k1.calm.sync (name (L.append M comEnt).2.1.seg)
 have hd:=hc.quiet.syncDir_eq
 refine ⟨?_,?_,rfl,rfl⟩
 ·show ((L.append M comEnt).1.2.sync (name (L.append M comEnt).2.1.seg)).1.syncDir.1.waits=_
  rw [hd]
 ·show ((L.append M comEnt).1.2.sync (name (L.append M comEnt).2.1.seg)).1.syncDir.1.fast=((L.append M comEnt).1.2.sync (name (L.append M comEnt).2.1.seg)).1.syncDir.1.now
  rw [hd]
end
end Go.Seg
namespace Go.Hin
open Go.Med
open Go.Seg (Log Keeps Holds HG HintOk mag)
open Go.Frm (Fnd encs GoodE fnds Ent)
open Go.Rep (Use)
section
variable {n K r E B:Nat}{L:Log}{M:Med}{C:List (List Ent)}{N:Int}{b1 b2:Frm.Bs}
theorem tmp_ne_seg (k:Int):tmp≠Seg.name k:=fun e=>by
 rcases seg_name k with q|⟨q,_⟩
 ·rw [q]at e;exact tmp_ne e
 ·rw [← e]at q;exact absurd q dCz
end
end Go.Hin
namespace Go.Hin
open Go.Med
open Go.Seg (Log Keeps Holds HG HintOk mag Plc)
open Go.Frm (Fnd encs GoodE fnds Ent)
open Go.Rep (Use)
theorem create_now {M:Med}{s:ByteArray}{p:ByteArray×Nat} (h:p∈(M.create s).1.now):p∈M.now∨p.1=s:=by
 obtain ⟨_,e1,e2,e3,e4⟩:=M.step_same
 unfold Med.create at h
 split at h;· exact .inl h
 split at h;· exact .inl h
 rename_i hg
 split at h;· exact .inl h
 split at h;· exact .inl h
 split at h;· rw [e2]at h;exact .inl h
 have h2:p∈Lnk.on ⟨ByteArray.empty,s,M.files.length⟩ M.step.1.now:=h
 rw [e2]at h2
 unfold Lnk.on at h2
 simp only [if_true,if_neg (good_ne (by simpa using hg):s≠ByteArray.empty)]at h2
 rcases List.mem_cons.1 ((nput_perm _ _ _).mem_iff.1 h2) with rfl|h3
 ·exact .inr rfl
 ·exact .inl (List.mem_filter.1 h3).1
theorem append_now (M:Med) (s:ByteArray) (b:Bs):(M.append s b).1.now=M.now:=by
 obtain ⟨_,e1,e2,e3,e4⟩:=M.step_same
 unfold Med.append
 split;· rfl
 split;· rfl
 split;· rfl
 split;· exact e2
 exact e2
theorem sync_now (M:Med) (s:ByteArray):(M.sync s).1.now=M.now:=by
 obtain ⟨_,e1,e2,e3,e4⟩:=M.step_same
 unfold Med.sync
 split;· rfl
 split;· rfl
 split;· exact e2
 exact e2
theorem syncDir_now (M:Med):M.syncDir.1.now=M.now:=by
 obtain ⟨_,e1,e2,e3,e4⟩:=M.step_same
 unfold Med.syncDir
 split;· rfl
 split;· exact e2
 exact e2
theorem remove_now {M:Med}{s:ByteArray}{p:ByteArray×Nat} (h:p∈(M.remove s).1.now):p∈M.now:=by
 obtain ⟨_,e1,e2,e3,e4⟩:=M.step_same
 unfold Med.remove at h
 split at h;· exact h
 split at h;· exact h
 split at h;· rw [e2]at h;exact h
 have h2:p∈Lnk.on ⟨s,ByteArray.empty,0⟩ M.step.1.now:=h
 rw [e2]at h2
 unfold Lnk.on at h2
 simp only [if_true]at h2
 split at h2
 ·exact h2
 ·exact (List.mem_filter.1 h2).1
def Grown (M M':Med):Prop:=∀ p∈M'.now,p∈M.now∨∃ k,p.1=Seg.name k
theorem Grown.refl (M:Med):Grown M M:=fun p hp=> .inl hp
theorem Grown.trans {A B D:Med} (h:Grown A B) (k:Grown B D):Grown A D:=fun p hp=>by
 rcases k p hp with q|q
 ·exact h p q
 ·exact .inr q
theorem Grown.same {A B:Med} (h:B.now=A.now):Grown A B:=fun p hp=> .inl (by rw [← h];exact hp)
theorem shut_grown (L:Log) (M:Med):Grown M (L.shut M).1.2:=by
 unfold Log.shut
 split;· exact Grown.refl M
 split
 ·split <;> exact Grown.same (sync_now M _)
 ·exact Grown.refl M
theorem begin1_grown (L:Log) (M:Med) (b:Bs):Grown M (L.begin1 M b).1.2:=by
 have hc:Grown M (M.create (Seg.name L.next)).1:=fun p hp=>(create_now hp).imp id fun e=>⟨_,e⟩
 have ha:Grown M ((M.create (Seg.name L.next)).1.append (Seg.name L.next) (mag++b)).1:=hc.trans (Grown.same (append_now _ _ _))
 unfold Log.begin1
 split;· exact Grown.refl M
 split;· exact hc
 split;· exact ha
 split
 ·exact ha.trans fun p hp=> .inl (remove_now hp)
 ·exact ha
theorem lappend_grown (L:Log) (M:Med) (x:Ent):Grown M (L.append M x).1.2:=by
 unfold Log.append
 split;· exact Grown.refl M
 split
 ·unfold Log.grow
  split
  ·exact Grown.refl M
  ·split <;> exact Grown.same (append_now _ _ _)
 ·unfold Log.begin
  split
  ·exact (shut_grown L M).trans (begin1_grown _ _ _)
  ·exact shut_grown L M
theorem lcommit_grown (L:Log) (M:Med):Grown M (L.commit M).1.2:=by
 have h:=lappend_grown L M Seg.comEnt
 rw [Seg.Log.commit_eq]
 split;· exact h
 split;· exact h.trans (Grown.same (sync_now _ _))
 split;· exact h.trans ((Grown.same (sync_now _ _)).trans (Grown.same (syncDir_now _)))
 exact h.trans ((Grown.same (sync_now _ _)).trans (Grown.same (syncDir_now _)))
section
variable {n K B c:Nat}{L:Log}{M M':Med}{C:List (List Ent)}{N:Int}{b1 b2:Frm.Bs}{us:List Use}
end
end Go.Hin
namespace Go.Hin
open Go.Med
section
variable {s t:ByteArray}{b b1 b2:Bs}{K r:Nat}{M M':Med}{n:Int}
theorem all_has (q:Quiet M):(M.all t).2=0↔∃ i,nget M.now t=some i:=by
 cases h:nget M.now t with
 |none=>rw [Seg.all_none q h];simp
 |some i=>rw [Seg.all_some q h];simp
structure Wr (s:ByteArray) (b:Bs) (K r:Nat) (M:Med) (R:Med×Int):Prop where
 calm:Seg.Calm K r R.1
 tmp:nget R.1.now Hin.tmp=none
 len:R.1.now.length≤M.now.length+1
 used:R.1.used≤M.used+b.length
 other:∀ t,t≠Hin.tmp→t≠s→R.1.all t=M.all t
 names:∀ p∈R.1.now,p∈M.now∨p.1=s
 done:R.2=0∧R.1.all s=(b,0)∨R.2=11∧R.1.now=M.now∧∀ t,R.1.all t=M.all t
 room:M.used+b.length≤r→R.2=0
theorem write_calm (h:Seg.Calm K r M) (ht:nget M.now tmp=none) (hl:M.now.length<500) (hg:good s=true) (hst:s≠tmp):Wr s b (K+5) r M (write M s b):=by
 have e0:remTmp M=(M,0):=by unfold remTmp;rw [there_none h.quiet ht];rfl
 obtain ⟨c1,c2,c3,c4,c5⟩:=Seg.create_full h good_tmp ht hl
 have hc:=h.create tmp
 have hi:nget (M.create tmp).1.now tmp=some M.files.length:=by rw [c2];exact Seg.nget_put_self h.ok.nowOk.srt _ _
 have hroom:(M.create tmp).1.room=r:=hc.room
 have hw:write M s b=fill (M.create tmp).1 s b:=by
  unfold write
  rw [e0,if_pos rfl]
  show (if (M.create tmp).2=0 then _ else _)=_
  rw [if_pos c1]
 rw [hw]
 have hse:s≠ByteArray.empty:=good_ne hg
 rcases Seg.append_cases hc.quiet tmp b with ⟨a1,_⟩|⟨j,a1,⟨a2,a3⟩|⟨a2,a3⟩⟩
 ·rw [hi]at a1;cases a1
 ·have hr:=Seg.remove_quiet hc.quiet hi
  have hrc:=hc.remove tmp
  have hf:fill (M.create tmp).1 s b=(((M.create tmp).1.remove tmp).1,11):=by
   have f1:((M.create tmp).1.append tmp b).2=11:=by rw [a3]
   have f2:((M.create tmp).1.append tmp b).1=(M.create tmp).1:=by rw [a3]
   unfold fill
   rw [if_neg (by rw [f1];decide),if_pos f1,f2,if_pos (by rw [hr])]
  have ha:Seg.Alike M ((M.create tmp).1.remove tmp).1:=by
   rcases Seg.create_cases h.quiet tmp with ⟨q1,_⟩|⟨_,hn,_,c⟩
   ·exact absurd c1 q1
   rw [hr,c]
   refine ⟨?_,rfl,rfl,fun p hp=>?_⟩
   ·show Lnk.on ⟨tmp,ByteArray.empty,0⟩ (nput M.now tmp M.files.length)=M.now
    unfold Lnk.on
    simp only [if_neg tmp_ne,if_true]
    exact Seg.ndel_put hn
   ·have:=h.ok.nowOk.ids p hp
    simp only [Med.file,Med.link,List.getD_eq_getElem?_getD]
    rw [List.getElem?_append_left this]
  rw [hf]
  refine ⟨hrc.mono oQ,by rw [ha.now];exact ht,by show _≤_;rw [ha.now];omega,by show _≤_;rw [ha.used];omega,fun t _ _=>ha.all t,fun p hp=> .inl (by rw [← ha.now];exact hp),.inr ⟨rfl,ha.now,ha.all⟩,fun hh=>?_⟩
  exfalso
  rw [c3,hroom]at a2
  omega
 ·obtain ⟨b1,b2,b3,b4,b5⟩:=Seg.append_full hc hi b oQ
  have ha:=hc.append tmp b
  have hi2:nget ((M.create tmp).1.append tmp b).1.now tmp=some M.files.length:=by rw [b2];exact hi
  have es:=ha.quiet.sync_eq hi2
  have hsy:=ha.sync tmp
  have hs0:(((M.create tmp).1.append tmp b).1.sync tmp).2=0:=by rw [es]
  have hal:=Seg.sync_alike ha.ok ha.quiet tmp
  have hi3:nget (((M.create tmp).1.append tmp b).1.sync tmp).1.now tmp=some M.files.length:=by rw [hal.now];exact hi2
  have hre:=Seg.Calm.rename hsy tmp s
  have er:(((M.create tmp).1.append tmp b).1.sync tmp).1.rename tmp s=((((M.create tmp).1.append tmp b).1.sync tmp).1.link ⟨tmp,s,M.files.length⟩,0):=by
   unfold Med.rename
   rw [hsy.quiet.off,hsy.quiet.step,hi3,hg]
   simp
  have hf:fill (M.create tmp).1 s b=(((M.create tmp).1.append tmp b).1.sync tmp).1.rename tmp s:=by
   unfold fill
   rw [if_pos b1,if_pos hs0]
  rw [hf]
  have hall:∀ t,(((M.create tmp).1.append tmp b).1.sync tmp).1.all t=((M.create tmp).1.append tmp b).1.all t:=hal.all
  have hnow0:(((M.create tmp).1.append tmp b).1.sync tmp).1.now=nput M.now tmp M.files.length:=by rw [hal.now,b2,c2]
  have hu0:(((M.create tmp).1.append tmp b).1.sync tmp).1.used=M.used+b.length:=by rw [hal.used,b3,c3]
  have hgt:(((M.create tmp).1.append tmp b).1.sync tmp).1.all tmp=(b,0):=by rw [hall,b4,c4];rfl
  have hot:∀ t,t≠tmp→(((M.create tmp).1.append tmp b).1.sync tmp).1.all t=M.all t:=fun t h1=>by rw [hall,b5 t h1,c5 t h1]
  generalize (((M.create tmp).1.append tmp b).1.sync tmp).1=M2 at *
  have hnow:(M2.rename tmp s).1.now=nput (ndel (nput M.now tmp M.files.length) tmp) s M.files.length:=by
   rw [er]
   show Lnk.on _ M2.now=_
   rw [hnow0]
   unfold Lnk.on
   simp only [if_neg tmp_ne,if_neg hse]
  rw [Seg.ndel_put ht]at hnow
  have hfile:(M2.rename tmp s).1.file=M2.file:=by rw [er];rfl
  have hq:=hre.quiet
  refine ⟨hre.mono oQ,?_,?_,?_,fun t h1 h2=>?_,fun p hp=>?_,.inl ⟨by rw [er],?_⟩,fun _=>by rw [er]⟩
  ·rw [hnow,Seg.nget_put_ne (Ne.symm hst)];exact ht
  ·rw [hnow];exact nput_le _ _ _
  ·rw [← hu0]
   show ((M2.rename tmp s).1.now.map fun p=>((M2.rename tmp s).1.file p.2).now.length).sum≤(M2.now.map fun p=>(M2.file p.2).now.length).sum
   rw [hnow,hfile,hnow0]
   rw [sum_put _ _ _ (fun j=>(M2.file j).now.length),sum_put _ _ _ (fun j=>(M2.file j).now.length),ndel_none ht]
   have h2:=sum_del_le M.now s (fun j=>(M2.file j).now.length)
   omega
  ·have e1:nget (M2.rename tmp s).1.now t=nget M.now t:=by rw [hnow,Seg.nget_put_ne h2]
   have e2:nget M2.now t=nget M.now t:=by rw [hnow0,Seg.nget_put_ne h1]
   rw [← hot t h1]
   cases hj:nget M.now t with
   |none=>rw [hj]at e1 e2;rw [Seg.all_none hq e1,Seg.all_none hsy.quiet e2]
   |some j=>rw [hj]at e1 e2;rw [Seg.all_some hq e1,Seg.all_some hsy.quiet e2,hfile]
  ·rw [hnow]at hp
   rcases List.mem_cons.1 ((nput_perm _ _ _).mem_iff.1 hp) with rfl|hp
   ·exact .inr rfl
   ·exact .inl (List.mem_filter.1 hp).1
  ·have e1:nget (M2.rename tmp s).1.now s=some M.files.length:=by rw [hnow];exact Seg.nget_put_self h.ok.nowOk.srt _ _
   rw [Seg.all_some hq e1,hfile]
   rw [Seg.all_some hsy.quiet hi3]at hgt
   exact hgt
theorem remove_all (h:Seg.Calm K r M){i:Nat} (hi:nget M.now s=some i):(M.remove s).2=0∧(M.remove s).1.now=ndel M.now s∧(∀ t,t≠s→(M.remove s).1.all t=M.all t)∧(M.remove s).1.used≤M.used:=by
 have hr:=Seg.remove_quiet h.quiet hi
 have hc:=h.remove s
 have hse:s≠ByteArray.empty:=fun e=>h.ok.nowOk.ne _ (nget_mem hi) e
 have hnow:(M.remove s).1.now=ndel M.now s:=by
  rw [hr]
  show Lnk.on ⟨s,ByteArray.empty,0⟩ M.now=_
  unfold Lnk.on
  simp only [if_neg hse,if_true]
 have hfile:(M.remove s).1.file=M.file:=by rw [hr];rfl
 refine ⟨by rw [hr],hnow,fun t ht=>?_,?_⟩
 ·have e1:nget (M.remove s).1.now t=nget M.now t:=by rw [hnow,Seg.nget_ne ht]
  cases hj:nget M.now t with
  |none=>rw [hj]at e1;rw [Seg.all_none hc.quiet e1,Seg.all_none h.quiet hj]
  |some j=>rw [hj]at e1;rw [Seg.all_some hc.quiet e1,Seg.all_some h.quiet hj,hfile]
 ·show ((M.remove s).1.now.map fun p=>((M.remove s).1.file p.2).now.length).sum≤(M.now.map fun p=>(M.file p.2).now.length).sum
  rw [hnow,hfile]
  exact sum_del_le M.now s (fun j=>(M.file j).now.length)
structure Sw (p:ByteArray→Bool) (K r:Nat) (M:Med) (R:Med×Int):Prop where
 zero:R.2=0
 calm:Seg.Calm K r R.1
 sub:∀ q∈R.1.now,q∈M.now
 len:R.1.now.length≤M.now.length
 used:R.1.used≤M.used
 other:∀ t,p t=false→R.1.all t=M.all t
theorem sweep_calm {p:ByteArray→Bool}:∀ (l:List ByteArray) (K:Nat) (M:Med),Seg.Calm K r M→l.Nodup→(∀ f∈l,∃ i,nget M.now f=some i)→Sw p (K+l.length) r M (sweep p l M)
 |[],K,M,h,_,_=>⟨rfl,h,fun q hq=>hq,Nat.le_refl _,Nat.le_refl _,fun _ _=>rfl⟩
 |f::l,K,M,h,hd,hh=>by
  obtain ⟨d1,d2⟩:=List.nodup_cons.1 hd
  unfold sweep
  split
  ·rename_i hp
   obtain ⟨i,hi⟩:=hh f (.head _)
   obtain ⟨r1,r2,r3,r4⟩:=remove_all h hi
   rw [if_pos r1]
   have hs:=sweep_calm (p:=p) l (K+1) (M.remove f).1 (h.remove f) d2 (fun g hg=>by
    rw [r2,Seg.nget_ne (fun e=>d1 (by rw [← e];exact hg))]
    exact hh g (.tail _ hg))
   refine ⟨hs.zero,hs.calm.mono (by rw [List.length_cons];omega),fun q hq=>?_,Nat.le_trans hs.len (by rw [r2];exact ndel_len M.now f),Nat.le_trans hs.used r4,fun t ht=>?_⟩
   ·have:=hs.sub q hq
    rw [r2]at this
    exact (List.mem_filter.1 this).1
   ·rw [hs.other t ht,r3 t (fun e=>by rw [e,hp]at ht;cases ht)]
  ·have hs:=sweep_calm (p:=p) l K M h d2 (fun g hg=>hh g (.tail _ hg))
   exact ⟨hs.zero,hs.calm.mono (by rw [List.length_cons];omega),hs.sub,hs.len,hs.used,hs.other⟩
theorem now_nodup (h:Seg.Calm K r M):(M.now.map (·.1)).Nodup:=h.ok.nowOk.srt.keys
structure Svd (n:Int) (b1 b2:Bs) (K r:Nat) (M:Med) (R:Med×Int):Prop where
 calm:Seg.Calm K r R.1
 tmp:nget R.1.now Hin.tmp=none
 len:R.1.now.length≤M.now.length+2
 used:R.1.used≤M.used+b1.length+b2.length
 other:∀ t,t≠Hin.tmp→t≠name idx n→t≠name use n→other n t=false→R.1.all t=M.all t
 names:∀ p∈R.1.now,p∈M.now∨p.1=name idx n∨p.1=name use n
 done:R.2=0∧R.1.all (name idx n)=(b1,0)∧R.1.all (name use n)=(b2,0)∨R.2=11
 room:M.used+b1.length+b2.length≤r→R.2=0
theorem save_calm (h:Seg.Calm K r M) (ht:nget M.now tmp=none) (hl:M.now.length≤480) (h1:0≤n) (h2:n<1048576):Svd n b1 b2 (K+600) r M (save M n b1 b2):=by
 have g1:=name_good (ld:=idx) rfl dCz n h1 h2
 have g2:=name_good (ld:=use) rfl dCz n h1 h2
 have n1:=idx_ne_tmp n h1 h2
 have n2:=use_ne_tmp n h1 h2
 have ne:=name_ne n h1 h2
 have o1:other n (name idx n)=false:=other_self (number_of (.inl idx_l) n h1 h2)
 have o2:other n (name use n)=false:=other_self (number_of (.inr use_l) n h1 h2)
 have w1:=write_calm (b:=b1) h ht oQ g1 n1
 unfold save
 by_cases c1:(write M (name idx n) b1).2=0
 rotate_left
 ·rw [if_neg c1]
  have e11:(write M (name idx n) b1).2=11:=by
   rcases w1.done with ⟨e,_⟩|⟨e,_⟩
   ·exact absurd e c1
   ·exact e
  exact ⟨w1.calm.mono oQ,w1.tmp,by have:=w1.len;omega,by have:=w1.used;omega,fun t a b _ _=>w1.other t a b,fun p hp=>(w1.names p hp).imp id .inl,.inr e11,fun hh=>w1.room oQ⟩
 rw [if_pos c1]
 have a1:(write M (name idx n) b1).1.all (name idx n)=(b1,0):=by
  rcases w1.done with ⟨_,e⟩|⟨e,_⟩
  ·exact e
  ·rw [e]at c1;cases c1
 have w2:=write_calm (b:=b2) w1.calm w1.tmp (by have:=w1.len;omega) g2 n2
 unfold save1
 generalize hM1:(write M (name idx n) b1).1=M1 at *
 by_cases c2:(write M1 (name use n) b2).2=0
 rotate_left
 ·rw [if_neg c2]
  have e11:(write M1 (name use n) b2).2=11:=by
   rcases w2.done with ⟨e,_⟩|⟨e,_⟩
   ·exact absurd e c2
   ·exact e
  refine ⟨w2.calm.mono oQ,w2.tmp,?_,?_,fun t a b c _=>?_,fun p hp=>?_,.inr e11,fun hh=>?_⟩
  ·have:=w1.len;have:=w2.len;rw [hM1]at *;omega
  ·have:=w1.used;have:=w2.used;rw [hM1]at *;omega
  ·have:=w1.other t a b;rw [hM1]at this;rw [w2.other t a c,this]
  ·rcases w2.names p hp with q|q
   ·have:=w1.names p (by rw [hM1];exact q);exact this.imp id .inl
   ·exact .inr (.inr q)
  ·have:=w1.used;rw [hM1]at this;exact w2.room oQ
 rw [if_pos c2]
 have a2:(write M1 (name use n) b2).1.all (name use n)=(b2,0):=by
  rcases w2.done with ⟨_,e⟩|⟨e,_⟩
  ·exact e
  ·rw [e]at c2;cases c2
 have a3:(write M1 (name use n) b2).1.all (name idx n)=(b1,0):=by rw [w2.other _ n1 ne,a1]
 generalize hM2:(write M1 (name use n) b2).1=M2 at *
 have k2:Seg.Calm (K+5+5) r M2:=by have:=w2.calm;rw [hM2]at this;exact this
 have hd:=k2.quiet.syncDir_eq
 have hds:=k2.syncDir
 unfold save2
 rw [if_pos (by rw [hd])]
 have hz:M2.syncDir.1.now=M2.now:=by rw [hd]
 have hu:M2.syncDir.1.used=M2.used:=by rw [hd];rfl
 have hall:∀ t,M2.syncDir.1.all t=M2.all t:=fun t=>by rw [hd];rfl
 generalize M2.syncDir.1=M3 at *
 have hli:M3.list=M3.now.map (·.1):=hds.quiet.list
 have hs:=sweep_calm (p:=other n) M3.list (K+5+5) M3 hds (by rw [hli];exact now_nodup hds) (fun f hf=>by
  rw [hli]at hf
  obtain ⟨p,hp,rfl⟩:=List.mem_map.1 hf
  exact ⟨p.2,nget_of_mem hds.ok.nowOk.srt.keys (show (p.1,p.2)∈M3.now from hp)⟩)
 have hlen:M3.list.length≤500:=by rw [hli,List.length_map];exact hds.ok.nowOk.len
 refine ⟨hs.calm.mono oQ,?_,?_,?_,fun t a b c d=>?_,fun p hp=>?_,.inl ⟨hs.zero,?_,?_⟩,fun _=>hs.zero⟩
 ·cases hi:nget (sweep (other n) M3.list M3).1.now tmp with
  |none=>rfl
  |some i=>
   have q:=hs.sub _ (nget_mem hi)
   have:=nget_of_mem hds.ok.nowOk.srt.keys q
   rw [hz]at this
   have e:=w2.tmp
   rw [hM2,this]at e
   cases e
 ·have:=hs.len;have:=w1.len;have:=w2.len;rw [hM1]at *;rw [hM2]at *;rw [hz]at *;omega
 ·have:=hs.used;have:=w1.used;have:=w2.used;rw [hM1]at *;rw [hM2]at *;omega
 ·have e1:=w1.other t a b
  have e2:=w2.other t a c
  rw [hM1]at e1
  rw [hM2]at e2
  rw [hs.other t d,hall,e2,e1]
 ·have q:=hs.sub p hp
  rw [hz]at q
  rcases w2.names p (by rw [hM2];exact q) with q|q
  ·have:=w1.names p (by rw [hM1];exact q);exact this.imp id .inl
  ·exact .inr (.inr q)
 ·rw [hs.other _ o1,hall,a3]
 ·rw [hs.other _ o2,hall,a2]
end
end Go.Hin
