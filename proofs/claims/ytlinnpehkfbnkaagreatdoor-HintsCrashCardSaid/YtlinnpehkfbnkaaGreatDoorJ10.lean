import Derived.Test.YtlinnpehkfbnkaaGreatDoorJ9
import Derived.Test.YtlinnpehkfbnkaaGreatDoorShelf
import Derived.Laws.StructEq
set_option linter.unusedVariables false
set_option maxHeartbeats 128000000
namespace Go.Proofs.YtlinnpehkfbnkaaGreatDoor
open Go Go.Sl Go.Med Go.MapKept Go.RowKit
def outK (b:Nat) (xs:List (Frm.Bs×Seg.Plc)):HProp:=Sl.ex fun ov:Value=>star (pt b (.cells #[ov] 69 (0,0))) (osl 149 35 ov (xs.flatMap kvL))
theorem res_t1 {fn:Func}{t:Tmp} (h:fn.results=#[.tmp t]) (tmps:Array Value) (P:Program) (w:World):(results fn tmps).run P w = .ok (tmps.getD t undef) w:=by
 simp only [results,h]
 simp
theorem endsM_ret {P:Program}{w0 w:World}{F:List HProp}{fn:Func}{a:Act}{K:Ending→World→Prop}{D:Nat}{v:Value} (ha:a.defers=[{ target:= .collected D,args:=#[] }]) (h:Sat w0 w (pt D (.deferred (some []))::F)) (hv:∀ w,(results fn a.tmps).run P w = .ok v w)
  (hK:∀ w',Sat w0 w' F→K (.returned v) w'):endsM P fn K .ret a w:=by
 show LeavesInM Fence.wide 0 P fn a.tmps K a.defers .returning w
 rw [ha]
 exact leaves_mark h hv hK
section
variable {w0 w:World}{F:List HProp}{p B b:Nat}{m:Frm.Bs→Option Seg.Plc}{kv xs:List (Frm.Bs×Seg.Plc)}
theorem outK_open (h:Sat w0 w (outK b xs::F)):∃ ov,Sat w0 w (pt b (.cells #[ov] 69 (0,0))::osl 149 35 ov (xs.flatMap kvL)::F):=by
 obtain ⟨ov,h1⟩:=Sat.ex.1 h
 exact ⟨ov,Sat.star.1 h1⟩
theorem outK_shut {ov:Value} (h:Sat w0 w (pt b (.cells #[ov] 69 (0,0))::osl 149 35 ov (xs.flatMap kvL)::F)):Sat w0 w (outK b xs::F):=Sat.ex.2 ⟨ov,Sat.star.2 h⟩
theorem zKeyed0:zeroB Tryz.prog 69=some (.slice none 0 0):=by kernel_rfl
set_option maxRecDepth 20000 in
theorem hrows_c (hl:Tab.Lists m kv) (hB:B≤13000000) (hkl:kv.length≤13000000) (hks:∀ q∈kv,q.1.length=32) (h:Sat w0 w (TabML p m B::F)) :
  Calls Tryz.prog 62 #[ptr p] w (Rtn fun v w'=>Sat w0 w' (osl 149 35 v (kv.flatMap kvL)::TabML p m B::F)):=by
 have Hl:=uQ hl;have HB:=uQ hB;have Hkl:=uQ hkl;have Hks:=uQ hks
 clear hl hB hkl hks
 refine calls_of_wp_marks Tryz.func62 rfl ?_
 simp only [Tryz.ntmps62,List.size_toArray,List.length_cons,List.length_nil,Nat.reduceAdd,Nat.reduceSub,Array.replicate_succ,Array.replicate_zero,List.push_toArray,List.append_toArray,List.nil_append,List.cons_append]
 go_wp2_with (with_reducible apply at_alloc)
 refine ⟨wl_alloc zKeyed0 h rfl ?_⟩
 intro b3 w3 h3
 go_wp2_with fail
 refine (allL_c h3).mono ?_
 rintro ee w4 ⟨v,rfl,bA,rfl,h4⟩
 go_wp2_with fail
 have h5:Sat w0 w4 (TabML p m B::pt bA (.cells #[ptr p] 48 (0,0))::outK b3 (kv.take 0)::F):=by
  have h6:Sat w0 w4 (pt b3 (.cells #[.slice none 0 0] 69 (0,0))::TabML p m B::pt bA (.cells #[ptr p] 48 (0,0))::F):=h4.sb
  exact (outK_shut (xs:=[]) ((Sat.osl_nil.2 h6).sb:Sat w0 w4 (pt b3 (.cells #[.slice none 0 0] 69 (0,0))::osl 149 35 (.slice none 0 0) []::TabML p m B::pt bA (.cells #[ptr p] 48 (0,0))::F))).sb
 clear h h3 h4
 refine wp_rangeFunc_sat (gf:=181) (lb:=#[ptr bA]) rFz (fun args w=>by kernel_rfl) (allL1_c HB.out Hl.out) ?_ (fun pre=>outK b3 (kv.take pre.length)::F) h5 ?_ ?_
 ·intro x hx
  obtain ⟨p,_,rfl⟩:=List.mem_map.1 hx
  rfl
 ·clear h5
  intro l pre x post U W hkv hS T hT
  obtain ⟨i,hi⟩:∃ i,i=pre.length:=⟨_,rfl⟩
  have hlt:i<kv.length:=by
   have:=congrArg List.length hkv
   rw [List.length_map,List.length_append,List.length_cons]at this
   omega
  obtain ⟨⟨k,y⟩,hy⟩:∃ p,kv[i]?=some p:=⟨_,List.getElem?_eq_getElem hlt⟩
  obtain rfl:x=abL (k,y):=by
   have e1:(kv.map abL)[i]?=some (abL (k,y)):=by rw [List.getElem?_map,hy];rfl
   rw [hkv,hi,List.getElem?_append_right (Nat.le_refl _),Nat.sub_self,List.getElem?_cons_zero]at e1
   exact Option.some.inj e1
  have hk32:=Hks.out _ (List.mem_of_getElem? hy)
  have htk:kv.take (i+1)=kv.take i++[(k,y)]:=by rw [List.take_add_one,hy,Option.toList_some]
  have hil:(pre++[abL (k,y)]).length=i+1:=by rw [List.length_append,hi];rfl
  have Htk:=uQ htk;have Hil:=uQ hil;have Hk32:=uQ (show k.length=32 from hk32)
  have Hln:=uQ (show ((kv.take i).flatMap kvL).length≤2147483648 from by
   rw [rows_len (k:=35) fun q hq=>kvL_len q (Hks.out q (List.mem_of_mem_take hq)),List.length_take]
   have:=Hkl.out
   omega)
  have hS0:Sat w0 W (outK b3 (kv.take i)::(F++U)):=by rw [hi];exact hS
  clear hkv hS hi hlt hy hk32 htk hil
  simp [abL]at hT
  subst hT
  refine wpIn_seq_k fun K hK=>?_
  refine region_in_lit rFz fun K2 hK2=>?_
  go_wp2_with (with_reducible apply at_alloc)
  refine ⟨wl_alloc zKey hS0 rfl ?_⟩
  intro b5 w5 h5
  go_wp2_with ((with_reducible refine at_store ⟨?_⟩);refine wl_storeA (bys k).toArray h5 rFz rFz (by rw [List.size_toArray,bys_len,Hk32.out];rfl) upd0 (by rw [List.size_toArray,bys_len,Hk32.out];kernel_rfl) (by rw [List.toList_toArray];exact bys_ones _) ?_;intro w6 h6)
  refine region_in_lit rFz fun K3 hK3=>?_
  go_wp2_with (with_reducible apply at_alloc)
  refine ⟨wl_alloc zValL h6 rfl ?_⟩
  intro b6 w7 h7
  go_wp2_with ((with_reducible refine at_store ⟨?_⟩);refine wl_storeA (penc y).toArray h7 rFz rFz rFz upd0 kRz rFz ?_;intro w8 h8)
  refine ⟨pt b6 (.cells (penc y).toArray 54 (0,0))::pt b5 (.cells (bys k).toArray 24 (0,0))::outK b3 (kv.take i)::F,h8,?_⟩
  clear h8 h7 h6 h5 hS0
  intro U' w9 h9
  have h10:Sat w0 w9 (pt b6 (.cells (penc y).toArray 54 (0,0))::pt b5 (.cells (bys k).toArray 24 (0,0))::outK b3 (kv.take i)::(F++U')):=h9
  clear h9
  obtain ⟨ov,h11⟩:=outK_open (h10.sb:Sat w0 w9 (outK b3 (kv.take i)::pt b6 (.cells (penc y).toArray 54 (0,0))::pt b5 (.cells (bys k).toArray 24 (0,0))::(F++U')))
  clear h10
  obtain ⟨oa,on,oc,rfl,_,_⟩:=Sat.rd (h11.pick pick1)
  refine wpIn_block (region_in_lit rFz fun K6 hK6=>?_)
  go_wp2_with (first
   |((with_reducible refine at_load ⟨?_⟩);first
    |refine wl_loadA h11 rFz pick2 Tryz.underlying54 rfl kRz ?_
    |refine wl_loadA h11 rFz pick3 Tryz.underlying24 rfl (by rw [List.size_toArray,bys_len,Hk32.out];kernel_rfl) ?_
    |refine wl_load1 h11 rFz pick0 nLz evD kRz ?_)
   |((with_reducible refine at_build2 ⟨?_⟩);refine wl_build2 rFz rFz (fun w=>run_kv k Hk32.out y w) ?_)
   |((with_reducible refine at_build1 ⟨?_⟩);refine wl_build1 (e:=149) (sz:=35) (by':=56) (cs:=(kvL (k,y)).toArray) kRz h11 rFz rfl (by rw [List.size_toArray,kvL_len _ Hk32.out]) nLz ?_;intro bN wN hN)
   |(with_reducible apply at_append))
  refine ⟨wl_app (cs:=(kvL (k,y)).toArray) 149 35 56 kRz hN rFz rFz pick2 pick0 (by rw [List.size_toArray,kvL_len _ Hk32.out]) nLz (by rw [List.toList_toArray];exact kvL_ones (k,y)) Hln.out (by rw [List.size_toArray,kvL_len _ Hk32.out];decide) nLz rfl ?_⟩
  intro b' n' c' w12 h12
  clear h11 hN
  go_wp2_with (with_reducible apply at_store)
  refine ⟨wl_store (cs':=#[.slice (some ⟨b',0,none⟩) n' c']) (h12.sb:Sat w0 w12 (pt b3 (.cells #[.slice oa on oc] 69 (0,0))::osl 149 35 (.slice (some ⟨b',0,none⟩) n' c') ((kv.take i).flatMap kvL++kvL (k,y))::(F++U'))) rFz rFz rFz upd0 nLz kRz rFz ?_⟩
  intro w13 h13
  go_wp2_with fail
  refine ⟨trivial,?_⟩
  rw [Hil.out,Htk.out]
  have h14:=outK_shut (xs:=kv.take i++[(k,y)]) (by rw [List.flatMap_append,List.flatMap_cons,List.flatMap_nil,List.append_nil];exact h13)
  exact h14
 ·intro D w8 h8
  have h9:Sat w0 w8 (TabML p m B::pt bA (.cells #[ptr p] 48 (0,0))::outK b3 kv::(F++[pt D (.deferred (some []))])):=by
   have q:=h8
   rw [List.length_map,List.take_length]at q
   exact q
  have hA:Sat w0 w8 (pt D (.deferred (some []))::TabML p m B::pt bA (.cells #[ptr p] 48 (0,0))::outK b3 kv::F):=
   Sat.appc (L:=TabML p m B::pt bA (.cells #[ptr p] 48 (0,0))::outK b3 kv::F) (R:=[pt D (.deferred (some []))]) h9
  clear h5 h8 h9
  obtain ⟨ov,hB2⟩:=outK_open (hA.sb:Sat w0 w8 (outK b3 kv::pt D (.deferred (some []))::TabML p m B::F))
  clear hA
  obtain ⟨oa,on,oc,rfl,_,_⟩:=Sat.rd (hB2.pick pick1)
  go_wp2_with ((with_reducible refine at_load ⟨?_⟩);refine wl_load1 hB2 rFz pick0 nLz evD kRz ?_)
  refine endsM_ret rfl (hB2.sb:Sat w0 w8 (pt D (.deferred (some []))::osl 149 35 (.slice oa on oc) (kv.flatMap kvL)::TabML p m B::F)) (fun w=>res_t1 (t:=2) rFz _ _ w) ?_
  intro w9 h9
  exact ⟨_,rfl,h9⟩
end
end Go.Proofs.YtlinnpehkfbnkaaGreatDoor
namespace Go.Hin
open Go.Med
def name (lead:ByteArray) (n:Int):ByteArray:=if Seg.name n=ByteArray.empty then ByteArray.empty else lead++(Seg.name n).extract 4 12
def idx:ByteArray:=⟨#[105,100,120,46]⟩
def use:ByteArray:=⟨#[117,115,101,46]⟩
theorem seg_name (n:Int):Seg.name n=ByteArray.empty∨(Seg.name n).size=12∧(Seg.name n).data.toList.take 4=Seg.lead:=by
 unfold Seg.name
 split
 ·exact .inl rfl
 ·right
  refine ⟨?_,rfl⟩
  show (Seg.lead++Seg.digs n.toNat 8).toArray.size=12
  rw [List.size_toArray,List.length_append,Seg.digs_len];rfl
end Go.Hin
namespace Go.Proofs.YtlinnpehkfbnkaaGreatDoor
open Go Go.Sl Go.Med Go.MapKept Go.RowKit
section
variable {w0 w:World}{F:List HProp}{v bv dv x:Value}{q m:Nat}
theorem hasPfx_c (s:ByteArray) (h1:s.size=12) (h2:s.data.toList.take 4=Seg.lead) (w:World) :
  Calls Tryz.prog 208 #[.string s,.string ⟨#[115,101,103,46]⟩] w (Rtn fun v w'=>v = .bool true∧w=w'):=by
 have h2d:((s.extract 0 4).toList==[115,101,103,46])=true:=by rw [ba_take s,h2];rfl
 have hle:(4:Int)≤(s.size:Int):=oQ
 clear h2
 go_enter Tryz.func208,Tryz.ntmps208
 go_wp2
 go_ret
 exact ⟨_,rfl,rfl,rfl⟩
theorem trimL_c (s:ByteArray) (h1:s.size=12) (h2:s.data.toList.take 4=Seg.lead) (w:World) :
  Calls Tryz.prog 203 #[.string s,.string ⟨#[115,101,103,46]⟩] w (Rtn fun v w'=>v = .string (s.extract 4 12)∧w=w'):=by
 have hp:=hasPfx_c s h1 h2 w
 go_enter Tryz.func203,Tryz.ntmps203
 go_wp2_with fail
 refine hp.mono ?_
 rintro e w1 ⟨v,rfl,rfl,rfl⟩
 clear hp
 go_wp2
 go_ret
 exact ⟨_,rfl,rfl,rfl⟩
theorem trim_c (s:ByteArray) (h1:s.size=12) (h2:s.data.toList.take 4=Seg.lead) (w:World) :
  Calls Tryz.prog 178 #[.string s,.string ⟨#[115,101,103,46]⟩] w (Rtn fun v w'=>v = .string (s.extract 4 12)∧w=w'):=by
 have hp:=trimL_c s h1 h2 w
 go_enter Tryz.func178,Tryz.ntmps178
 go_wp2_with fail
 refine hp.mono ?_
 rintro e w1 ⟨v,rfl,rfl,rfl⟩
 clear hp
 go_wp2
 go_ret
 exact ⟨_,rfl,rfl,rfl⟩
theorem hname_c (lead:ByteArray) (hl:lead.size=4) (n:Int) (h:Sat w0 w F) :
  Calls Tryz.prog 121 #[.string lead,.int .i64 n] w (Rtn fun v w'=>v = .string (Hin.name lead n)∧Sat w0 w' F):=by
 have hn:=sname_c n h
 have Hf:=uQ (show Hin.name lead n=if Seg.name n=ByteArray.empty then ByteArray.empty else lead++(Seg.name n).extract 4 12 from rfl)
 have Hc:=uQ (Hin.seg_name n)
 generalize Seg.name n=s at *
 go_enter Tryz.func121,Tryz.ntmps121
 go_wp2_with fail
 refine hn.mono ?_
 rintro e w1 ⟨v,rfl,rfl,hS⟩
 clear hn
 rcases Hc.out with rfl|⟨h1,h2⟩
 ·clear hl h
  go_wp2
  go_ret
  exact ⟨_,rfl,by rw [Hf.out];rfl,hS⟩
 ·have hne:s≠ByteArray.empty:=fun e=>by rw [e]at h1;cases h1
  have hne2:(s.toList==[])=false:=by
   rw [beq_eq_false_iff_ne,ByteArray.toList_eq]
   intro e
   have:=congrArg List.length e
   rw [Array.length_toList]at this
   have h1':s.data.size=12:=h1
   rw [h1']at this;cases this
  have hsz:¬ 9223372036854775807<lead.size+(s.extract 4 12).size:=by rw [hl,ByteArray.size_extract];omega
  have Hne:=uQ hne
  have ht:=trim_c s h1 h2
  clear hne h1 h2 hl h
  go_wp2_with fail
  refine (ht _).mono ?_
  rintro e w2 ⟨v,rfl,rfl,rfl⟩
  clear ht
  go_wp2
  go_ret
  exact ⟨_,rfl,by rw [Hf.out,if_neg Hne.out];rfl,hS⟩
theorem iname_c (n:Int) (h:Sat w0 w F):Calls Tryz.prog 60 #[.int .i64 n] w (Rtn fun v w'=>v = .string (Hin.name Hin.idx n)∧Sat w0 w' F):=by
 have hn:=hname_c Hin.idx rfl n h
 go_enter Tryz.func60,Tryz.ntmps60
 go_wp2_with fail
 refine hn.mono ?_
 rintro e w1 ⟨v,rfl,rfl,hS⟩
 clear hn
 go_wp2
 go_ret
 exact ⟨_,rfl,rfl,hS⟩
theorem uname_c (n:Int) (h:Sat w0 w F):Calls Tryz.prog 65 #[.int .i64 n] w (Rtn fun v w'=>v = .string (Hin.name Hin.use n)∧Sat w0 w' F):=by
 have hn:=hname_c Hin.use rfl n h
 go_enter Tryz.func65,Tryz.ntmps65
 go_wp2_with fail
 refine hn.mono ?_
 rintro e w1 ⟨v,rfl,rfl,hS⟩
 clear hn
 go_wp2
 go_ret
 exact ⟨_,rfl,rfl,hS⟩
def hM:Med:=Med.new 100
theorem hM_ok:hM.Ok 20:=Med.Ok.new 20 100 dCz
theorem hM_size (s:ByteArray):hM.size s=(0,9):=rfl
theorem hM_list:hM.list=[]:=rfl
theorem there_c (s:ByteArray) (h:Sat w0 w (MedRep m hM::F)):Calls Tryz.prog 76 #[ptr m,.string s] w (Rtn fun v w'=>v = .bool false∧w=w'):=by
 have hs:=size_c hM_ok h s
 rw [hM_size]at hs
 go_enter Tryz.func76,Tryz.ntmps76
 go_wp2_with fail
 refine hs.mono ?_
 rintro e w1 ⟨v,rfl,rfl,rfl⟩
 clear hs
 go_wp2
 go_ret
 exact ⟨_,rfl,rfl,rfl⟩
theorem load0_c (p:Nat) (n:Int) (h:Sat w0 w (MedRep m hM::F)):Calls Tryz.prog 16 #[ptr p,ptr m,.int .i64 n] w (Rtn fun v w'=>v = .tuple #[.pointer none,errno 9]∧Sat w0 w' (MedRep m hM::F)):=by
 have hs:=size_c hM_ok h ByteArray.empty
 rw [hM_size]at hs
 have hi:=iname_c n h
 go_enter Tryz.func16,Tryz.ntmps16
 go_wp2_with fail
 refine hs.mono ?_
 rintro e w1 ⟨v,rfl,rfl,rfl⟩
 clear hs
 go_wp2_with fail
 refine hi.mono ?_
 rintro e w2 ⟨v,rfl,rfl,hS⟩
 clear hi
 have ht:=there_c (Hin.name Hin.idx n) hS
 go_wp2_with fail
 refine ht.mono ?_
 rintro e w3 ⟨v,rfl,rfl,rfl⟩
 clear ht
 go_wp2
 go_ret2
 exact ⟨_,rfl,rfl,hS⟩
theorem newest0_c (h:Sat w0 w (MedRep m hM::F)):Calls Tryz.prog 20 #[ptr m] w (Rtn fun v w'=>v = .int .i64 (-1)∧Sat w0 w' (MedRep m hM::F)):=by
 have hls:=list_c hM_ok h
 go_enter Tryz.func20,Tryz.ntmps20
 go_wp2_with fail
 refine hls.mono ?_
 rintro e w1 ⟨v,rfl,hS,a,n,c,rfl⟩
 clear hls
 have hn:n=0:=by
  obtain ⟨_,_,_,he,hl,_⟩:=Sat.rd hS
  cases he
  rw [hM_list]at hl
  simpa [strs] using hl.symm
 subst hn
 go_wp2_with fail
 go_loopg [3,11] 0 (fun g lv iq wr=>lv = .int .i64 (-1)∧iq = .int .i64 0∧wr=w1)
 case atStart=>exact ⟨rfl,rfl,rfl⟩
 case round=>
  obtain ⟨rfl,rfl,rfl⟩:=hrel
  go_wp2
  go_ret
  exact ⟨_,rfl,rfl,hS.drop⟩
theorem idx7:Hin.name Hin.idx 7=⟨#[105,100,120,46,48,48,48,48,48,48,48,55]⟩:=by decide +kernel
theorem hM_alive:Seg.alive hM=0:=by decide +kernel
theorem hlives_c (h:Sat w0 w F):Calls Tryz.prog 17 #[] w (Rtn fun v w'=>v = .bool true∧Sat w0 w' F):=by
 have hnew:Calls Tryz.prog 46 #[.int .i64 100] w (Rtn fun v w'=>∃ m,v = .tuple #[ptr m,errno 0]∧Sat w0 w' (MedRep m (Med.new 100)::F)):=new_yes 100 dCz h
 go_enter Tryz.func17,Tryz.ntmps17
 go_wp2_with fail
 refine hnew.mono ?_
 rintro e w1 ⟨v,rfl,m,rfl,hS⟩
 clear hnew h
 have hop:=open_c (K:=20) hM_ok 128 hS hM_alive dCz dCz
 go_wp2_with fail
 refine hop.mono ?_
 rintro e w2 ⟨v,rfl,p,rfl,hS2⟩
 clear hop
 have hld:=load0_c p 0 (hS2.pick1)
 go_wp2_with fail
 refine hld.mono ?_
 rintro e w3 ⟨v,rfl,rfl,hS3⟩
 clear hld
 have hi:=iname_c 7 hS3
 rw [idx7]at hi
 go_wp2_with fail
 refine hi.mono ?_
 rintro e w4 ⟨v,rfl,rfl,hS4⟩
 clear hi
 have hne:=newest0_c hS4
 go_wp2_with fail
 refine hne.mono ?_
 rintro e w5 ⟨v,rfl,rfl,hS5⟩
 clear hne
 go_wp2
 go_ret
 exact ⟨_,rfl,rfl,hS5.drop.drop⟩
end
end Go.Proofs.YtlinnpehkfbnkaaGreatDoor
namespace Go.Hin
open Go.Med
def number (s:ByteArray):Int×Bool:=
 if s.data.toList.take 4=[105,100,120,46]∨s.data.toList.take 4=[117,115,101,46] then Seg.number ⟨(Seg.lead++s.data.toList.drop 4).toArray⟩ else (0,false)
def newestL:List ByteArray→Int→Int
 |[],m=>m
 |f::l,m=>newestL l (if (number f).2=true then max m (number f).1 else m)
def newest (M:Med):Int:=newestL M.list (-1)
end Go.Hin
namespace Go.Proofs.YtlinnpehkfbnkaaGreatDoor
open Go Go.Sl Go.Med Go.MapKept Go.RowKit
section
variable {P:Program}{w0 w:World}{L:List HProp}{ops:Array Oper}{rest:List Oper}{a:Act}{Q:Exit→Act→World→Prop}{dst:Option Tmp}{t ty e:TypeId}{pos:String}{after:Array Edge}{x y:Operand}{v1 v2:Value}{cs1 cs2:Array Value}{g:Nat×Bool}{op:Op}{sz by':Nat}
theorem run_slice2 (hb:appB P t e sz by'=true) (h1:v1.cells.size=sz) (h2:v2.cells.size=sz) (hle:2 * sz≤16777216) (w:World) :
  (Instr.buildSlice t 2 #[(0,v1),(1,v2)]).run P w = .ok (.slice (some ⟨w.heap.size,0,none⟩) 2 2) (w.alloc (.cells (v1.cells++v2.cells) e)):=by
 obtain ⟨hu,i,z,hi,hz,e1,e2,e3,e4⟩:=appB_spec hb
 subst e1
 have hzv:(zeroValue e).run P w = .ok z w:=by simp [zeroValue,typeInfo,hi,hz]
 have hsz':(sizeOf e).run P w = .ok i.size w:=by simp [sizeOf,typeInfo,hi]
 have hnz:¬ (2 * i.size=0):=oQ
 have hle':¬ (2 * i.size>2^24):=oQ
 unfold Instr.buildSlice
 simp only [Sem.run_bind,run_underlying hu,Result.andThen_ok,hsz',if_neg hle',if_neg hnz,hzv,Sem.run_pure]
 have hf:Instr.fill (fun i'=>some (i' * i.size,i.size)) ((Array.range (2 * i.size)).map (z.cells[· % z.cells.size]!)) [(0,v1),(1,v2)]=some (v1.cells++v2.cells):=by
  generalize hz0:(Array.range (2 * i.size)).map (z.cells[· % z.cells.size]!)=z0
  have hs1:z0.size=2 * i.size:=by rw [← hz0];simp
  have hf1:∀ (v:Value) (off:Nat) (cs:Array Value),v.cells.zipIdx.foldl (fun cs (c,j)=>cs.setIfInBounds (off+j) c) cs=putsAt cs off v.cells.toList:=fun v off cs=>by
   have:=foldl_puts v.cells.toList 0 off cs
   rw [Nat.add_zero]at this
   rw [← this,← Array.foldl_toList,Array.toList_zipIdx]
  unfold Instr.fill
  simp only [Nat.zero_mul]
  have hc:¬ ((v1.cells.size≠i.size || 0+v1.cells.size>z0.size)=true):=by
   rw [hs1];simp [h1];omega
  simp only [if_neg hc]
  rw [hf1]
  unfold Instr.fill
  simp only [Nat.one_mul]
  have hc2:¬ ((v2.cells.size≠i.size || i.size+v2.cells.size>(putsAt z0 0 v1.cells.toList).size)=true):=by
   rw [putsAt_size,hs1];simp [h2];omega
  simp only [if_neg hc2]
  rw [hf1]
  unfold Instr.fill
  congr 1
  apply Array.toList_inj.1
  have hl1:v1.cells.toList.length=i.size:=by rw [Array.length_toList];exact h1
  have hl2:v2.cells.toList.length=i.size:=by rw [Array.length_toList];exact h2
  have hz1:z0.toList.length=2 * i.size:=by rw [Array.length_toList];exact hs1
  rw [putsAt_list _ _ _ (by rw [putsAt_size,hs1,hl2];omega),putsAt_list _ _ _ (by rw [hs1,hl1];omega),Array.toList_append]
  rw [List.take_zero,List.nil_append,Nat.zero_add,List.take_append_of_le_length oQ,List.take_of_length_le oQ,List.drop_of_length_le (by rw [List.length_append,List.length_drop,hl1,hl2,hz1];omega),List.append_nil]
 simp only [hf]
 simp [newRow,go_sem]
theorem wl_two (hb:appB P ty e sz by'=true) (hs:Sat w0 w L) (hx:a.eval x=v1) (hy:a.eval y=v2) (hc1:v1.cells=cs1) (hc2:v2.cells=cs2) (h1:cs1.size=sz) (h2:cs2.size=sz) (hle:2 * sz≤16777216)
  (hK:∀ b w',Sat w0 w' (pt b (.cells (cs1++cs2) e (0,0))::L)→wpList P ops Q rest (a.put dst (.slice (some ⟨b,0,none⟩) 2 2)) w'):wpList P ops Q (⟨dst,.buildSlice ty 2 #[(0,x),(1,y)],t,pos,after,none⟩::rest) a w:=by
 subst hc1;subst hc2
 refine wpList_plain rfl fun _ hK'=>?_
 have hS:=hs.alloc (.cells (v1.cells++v2.cells) e)
 unfold Oper.wp execOp
 simp only [hx,hy,List.map_toArray,List.map_cons,List.map_nil,Sem.run_bind,Sem.run_pure,run_slice2 hb h1 h2 hle w,Result.andThen_ok]
 exact hK' _ _ (hK _ _ hS)
end
end Go.Proofs.YtlinnpehkfbnkaaGreatDoor
namespace Go.Hin
open Go.Frm (Bs)
theorem pre_take (l p:List UInt8):Lib.hasPrefix l p=decide (l.take p.length=p):=by
 rw [Bool.eq_iff_iff,decide_eq_true_iff]
 unfold Lib.hasPrefix
 rw [List.isPrefixOf_iff_prefix,List.prefix_iff_eq_take]
 exact eq_comm
theorem cut_yes {l p:List UInt8} (h:l.take p.length=p):Lib.trimPrefix l p=l.drop p.length:=by
 unfold Lib.trimPrefix
 rw [if_pos (by rw [pre_take,decide_eq_true_iff];exact h)]
theorem num_yes {s:ByteArray} (h:s.data.toList.take 4=[105,100,120,46]∨s.data.toList.take 4=[117,115,101,46]):number s=Seg.number ⟨(Seg.lead++s.data.toList.drop 4).toArray⟩:=by unfold number;rw [if_pos h]
theorem num_no {s:ByteArray} (h:¬ (s.data.toList.take 4=[105,100,120,46]∨s.data.toList.take 4=[117,115,101,46])):number s=(0,false):=by unfold number;rw [if_neg h]
end Go.Hin
namespace Go.Proofs.YtlinnpehkfbnkaaGreatDoor
open Go Go.Sl Go.Med Go.MapKept Go.RowKit
section
variable {P:Program}{w:World}{ops:Array Oper}{rest:List Oper}{a:Act}{Q:Exit→Act→World→Prop}{dst:Option Tmp}{t ty:TypeId}{pos:String}{after:Array Edge}{x y:Operand}
theorem at_two (h:Stop (wpList P ops Q (⟨dst,.buildSlice ty 2 #[(0,x),(1,y)],t,pos,after,none⟩::rest) a w)):wpList P ops Q (⟨dst,.buildSlice ty 2 #[(0,x),(1,y)],t,pos,after,none⟩::rest) a w:=h.out
end
section
variable {w0 w:World}{F:List HProp}{m K:Nat}{M:Med}
theorem cutpre_c (s p:ByteArray) (w:World):Calls Tryz.prog 133 #[.string s,.string p] w (Rtn fun v w'=>v = .tuple #[.string ⟨(Lib.trimPrefix s.data.toList p.data.toList).toArray⟩,.bool (Lib.hasPrefix s.data.toList p.data.toList)]∧w=w'):=
 (Tryz.strings_CutPrefix s p w).mono fun e w' ⟨he,hw⟩=>⟨_,he,rfl,hw.symm⟩
theorem cutyes_c (s p:ByteArray) (k:Nat) (hk:p.data.toList.length=k) (h:s.data.toList.take k=p.data.toList) (w:World):Calls Tryz.prog 133 #[.string s,.string p] w (Rtn fun v w'=>v = .tuple #[.string ⟨(s.data.toList.drop k).toArray⟩,.bool true]∧w=w'):=by
 subst hk
 have hc:=cutpre_c s p w
 rw [Hin.cut_yes h,Hin.pre_take,decide_eq_true h]at hc
 exact hc
theorem cutno_c (s p:ByteArray) (k:Nat) (hk:p.data.toList.length=k) (h:¬ s.data.toList.take k=p.data.toList) (w:World):Calls Tryz.prog 133 #[.string s,.string p] w (Rtn fun v w'=>(∃ r:ByteArray,v = .tuple #[.string r,.bool false])∧w=w'):=by
 subst hk
 have hc:=cutpre_c s p w
 rw [Hin.pre_take,decide_eq_false h]at hc
 exact hc.mono fun e w' ⟨v,he,hv,hw⟩=>⟨v,he,⟨_,hv⟩,hw⟩
theorem lead_add (r:List UInt8):(⟨#[115,101,103,46]⟩:ByteArray)++(⟨r.toArray⟩:ByteArray)=⟨(Seg.lead++r).toArray⟩:=by
 apply ByteArray.ext
 rw [ByteArray.data_append]
 apply Array.toList_inj.1
 simp [Seg.lead]
set_option maxRecDepth 20000 in
theorem hnumber_c (s:ByteArray) (hs:s.size≤4000000000) (h:Sat w0 w F) :
  Calls Tryz.prog 69 #[.string s] w (Rtn fun v w'=>v = .tuple #[.int .i64 (Hin.number s).1,.bool (Hin.number s).2]∧Sat w0 w' F):=by
 have Hs:=uQ hs
 have hsz:∀ r:List UInt8,r.length≤4000000000→¬ 9223372036854775807<(⟨#[115,101,103,46]⟩:ByteArray).size+(⟨r.toArray⟩:ByteArray).size:=fun r hr=>by
  have:(⟨r.toArray⟩:ByteArray).size=r.length:=by show r.toArray.size=_;exact List.size_toArray ..
  have h4:(⟨#[115,101,103,46]⟩:ByteArray).size=4:=rfl
  omega
 have Hsz:=uQ hsz
 have Hl:=uQ (show s.data.toList.length≤4000000000 from by rw [Array.length_toList];exact hs)
 clear hs hsz
 go_enter Tryz.func69,Tryz.ntmps69
 go_wp2_with ((with_reducible refine at_two ⟨?_⟩);refine wl_two (e:=9) (sz:=1) (by':=16) (cs1:=#[.string ⟨#[105,100,120,46]⟩]) (cs2:=#[.string ⟨#[117,115,101,46]⟩]) kRz h rFz rFz rfl rfl rfl rfl nLz ?_;intro b w1 h1)
 replace h1:Sat w0 w1 (pt b (.cells #[.string ⟨#[105,100,120,46]⟩,.string ⟨#[117,115,101,46]⟩] 9 (0,0))::F):=h1
 go_loopg [10] 3 (fun g iq wr=>∃ i:Nat,g=3 - i∧i≤2∧iq = .int .i64 i∧wr=w1∧(1≤i→¬ s.data.toList.take 4=[105,100,120,46])∧(2≤i→¬ s.data.toList.take 4=[117,115,101,46]))
 case atStart=>exact ⟨0,rfl,by omega,rfl,rfl,fun h=>by omega,fun h=>by omega⟩
 case round=>
  obtain ⟨i,rfl,hi,rfl,rfl,hn1,hn2⟩:=hrel
  have h01:i=0∨i=1∨i=2:=oQ
  clear hi h
  have c0:=h1.cellAt 0 (.string ⟨#[105,100,120,46]⟩) rfl
  have c1:=h1.cellAt 1 (.string ⟨#[117,115,101,46]⟩) rfl
  rcases h01 with rfl|rfl|rfl
  ·clear hn1 hn2 c1
   go_wp2_with fail
   by_cases ht:s.data.toList.take 4=[105,100,120,46]
   ·refine (cutyes_c s ⟨#[105,100,120,46]⟩ 4 rfl ht _).mono ?_
    rintro e w2 ⟨v,rfl,rfl,rfl⟩
    have hz:=Hsz.out (s.data.toList.drop 4) (by rw [List.length_drop];have:=Hl.out;omega)
    have Hy:=uQ (Hin.num_yes (s:=s) (.inl ht))
    clear ht Hsz
    go_wp2_with fail
    rw [show (⟨#[115,101,103,46]⟩:ByteArray)++(⟨(s.data.toList.drop 4).toArray⟩:ByteArray)=⟨(Seg.lead++s.data.toList.drop 4).toArray⟩ from lead_add _]
    refine (snumber_c _ h1).mono ?_
    rintro e w3 ⟨v,rfl,rfl,h3⟩
    go_wp2_with fail
    go_ret2
    exact ⟨_,rfl,by rw [Hy.out];rfl,h3.drop⟩
   ·refine (cutno_c s ⟨#[105,100,120,46]⟩ 4 rfl ht _).mono ?_
    rintro e w2 ⟨v,rfl,⟨r,rfl⟩,rfl⟩
    clear c0
    go_wp2_with fail
    go_roundg 2
    case measure=>omega
    case rel=>exact ⟨1,rfl,by omega,rfl,rfl,fun _=>ht,fun h=>by omega⟩
  ·have ht1:=hn1 oQ
   clear hn1 hn2 c0
   go_wp2_with fail
   by_cases ht:s.data.toList.take 4=[117,115,101,46]
   ·refine (cutyes_c s ⟨#[117,115,101,46]⟩ 4 rfl ht _).mono ?_
    rintro e w2 ⟨v,rfl,rfl,rfl⟩
    have hz:=Hsz.out (s.data.toList.drop 4) (by rw [List.length_drop];have:=Hl.out;omega)
    have Hy:=uQ (Hin.num_yes (s:=s) (.inr ht))
    clear ht ht1 Hsz
    go_wp2_with fail
    rw [show (⟨#[115,101,103,46]⟩:ByteArray)++(⟨(s.data.toList.drop 4).toArray⟩:ByteArray)=⟨(Seg.lead++s.data.toList.drop 4).toArray⟩ from lead_add _]
    refine (snumber_c _ h1).mono ?_
    rintro e w3 ⟨v,rfl,rfl,h3⟩
    go_wp2_with fail
    go_ret2
    exact ⟨_,rfl,by rw [Hy.out];rfl,h3.drop⟩
   ·refine (cutno_c s ⟨#[117,115,101,46]⟩ 4 rfl ht _).mono ?_
    rintro e w2 ⟨v,rfl,⟨r,rfl⟩,rfl⟩
    clear c1
    go_wp2_with fail
    go_roundg 1
    case measure=>omega
    case rel=>exact ⟨2,rfl,by omega,rfl,rfl,fun _=>ht1,fun _=>ht⟩
  ·have Hy:=uQ (Hin.num_no (s:=s) (fun h=>h.elim (hn1 oQ) (hn2 oQ)))
   clear hn1 hn2 c0 c1
   go_wp2_with fail
   go_ret2
   exact ⟨_,rfl,by rw [Hy.out];rfl,h1.drop⟩
end
section
variable {w0 w:World}{F:List HProp}{m K:Nat}{M:Med}
theorem nm_sl {v:Value}{l:List ByteArray} (h:rdsl 1 v (strs l) w):∃ a c,v = .slice a l.length c:=by
 obtain ⟨a,n,c,rfl,hl,hx⟩:=h
 unfold strs at hl
 rw [List.length_map,Nat.mul_one]at hl
 exact ⟨a,c,by rw [hl]⟩
theorem nm_cell {l:List ByteArray}{i:Nat}{s:ByteArray}{a:Option Addr}{n c:Nat} (h:rdsl 1 (.slice a n c) (strs l) w) (hi:l[i]?=some s):∃ bk off,a=some ⟨bk,off,none⟩∧w.cell? ⟨bk,off+i,none⟩=some (.string s):=by
 have hx:(strs l)[i]?=some (.string s):=by unfold strs;rw [List.getElem?_map,hi];rfl
 obtain ⟨bk,off,rfl,hc⟩:=rdsl_cells h hx
 exact ⟨bk,off,rfl,hc _ _ hx⟩
theorem list_len (ok:M.Ok K):M.list.length≤500:=by
 unfold Med.list
 split
 ·exact Nat.zero_le _
 ·rw [List.length_map];exact ok.nowOk.len
end
end Go.Proofs.YtlinnpehkfbnkaaGreatDoor
namespace Go.Seg
open Go.Med
open Go.Frm (encs GoodE)
section
variable {K:Nat}{M M':Med}{L:Log}{s t:ByteArray}{i:Nat}
theorem on_ne {x:Lnk}{l:Names} (h1:x.fr≠s) (h2:x.to≠s):nget (x.on l) s=nget l s:=by
 have e1:s≠x.fr:=fun e=>h1 e.symm
 have e2:s≠x.to:=fun e=>h2 e.symm
 unfold Lnk.on
 simp only
 by_cases a:x.fr=ByteArray.empty
 ·by_cases b:x.to=ByteArray.empty
  ·rw [if_pos a,if_pos b]
  ·rw [if_pos a,if_neg b,nget_put_ne e2]
 ·by_cases b:x.to=ByteArray.empty
  ·rw [if_neg a,if_pos b,nget_ne e1]
  ·rw [if_neg a,if_neg b,nget_put_ne e2,nget_ne e1]
theorem file_snoc (M:Med) (j:Nat):(M.files++[Fil.new]).getD j Fil.new=M.file j:=by
 unfold Med.file
 rw [List.getD_eq_getElem?_getD,List.getD_eq_getElem?_getD]
 rcases Nat.lt_trichotomy j M.files.length with q|q|q
 ·rw [List.getElem?_append_left q]
 ·subst q;simp
 ·rw [List.getElem?_eq_none (by simp;omega),List.getElem?_eq_none oQ]
theorem create_good (ok:M.Ok K) (h:(M.create t).2=0):nget M.now t=none∧nget (M.create t).1.now t=some M.files.length∧((M.create t).1.file M.files.length).now=[]∧good t=true:=by
 obtain ⟨_,sf,sn,sfi,sw⟩:=M.step_same
 unfold Med.create at h ⊢
 split at h
 ·cases h
 rename_i e
 rw [if_neg e]
 split at h
 ·cases h
 rename_i hg
 rw [if_neg hg]
 split at h
 ·cases h
 rename_i hn
 rw [if_neg hn]
 split at h
 ·cases h
 rename_i e1
 rw [if_neg e1]
 split at h
 ·cases h
 rename_i e2
 rw [if_neg e2]
 have hgt:good t=true:=by simpa using hg
 refine ⟨by simpa using hn,?_,?_,hgt⟩
 ·show nget (Lnk.on _ M.step.1.now) t=_
  rw [sn];unfold Lnk.on;simp only [if_true,if_neg (good_ne hgt)]
  exact nget_put_self ok.nowOk.srt _ _
 ·show ((M.files++[Fil.new]).getD M.files.length Fil.new).now=[]
  simp [Fil.new]
end
section
variable {K:Nat}{M M':Med}{L:Log}{s t:ByteArray}{i:Nat}
def nf (L:Log):List Int:=(L.l.map (·.1)).take (L.l.length - L.fresh.toNat)
variable {sure opn:List (Plc×Frm.Ent)}
end
section
variable {K K':Nat}{M M':Med}{L:Log}{s t:ByteArray}{i:Nat}{sure opn:List (Plc×Frm.Ent)}
theorem syncDir_same (M:Med):M.syncDir.1.now=M.now∧M.syncDir.1.files=M.files:=by
 obtain ⟨_,sf,sn,sfi,sw⟩:=M.step_same
 unfold Med.syncDir
 split;· exact ⟨rfl,rfl⟩
 split
 ·exact ⟨sn,sfi⟩
 ·exact ⟨sn,sfi⟩
end
end Go.Seg
namespace Go.Seg
open Go.Med
section
variable {K K':Nat}{M M':Med}{L:Log}{s t:ByteArray}{i:Nat}{sure opn:List (Plc×Frm.Ent)}
theorem app_lt:∀ (x y u v:Bs),x.length=y.length→x<y→x++u<y++v
 |[],[],_,_,_,h=>absurd h (List.not_lt_nil [])
 |[],_::_,_,_,h,_=>by simp at h
 |_::_,[],_,_,h,_=>by simp at h
 |a::x,b::y,u,v,hl,h=>by
  rw [List.cons_append,List.cons_append,List.cons_lt_cons_iff]
  rcases List.cons_lt_cons_iff.1 h with h1|⟨e,h1⟩
  ·exact .inl h1
  ·exact .inr ⟨e,app_lt x y u v (by simpa using hl) h1⟩
theorem app_lt_r:∀ (x u v:Bs),u<v→x++u<x++v
 |[],_,_,h=>h
 |a::x,u,v,h=>by
  rw [List.cons_append,List.cons_append,List.cons_lt_cons_iff]
  exact .inr ⟨rfl,app_lt_r x u v h⟩
theorem digs_lt:∀ (k a b:Nat),a<b→b<10^k→digs a k<digs b k
 |0,a,b,h,hb=>by simp at hb;omega
 |k+1,a,b,h,hb=>by
  show digs (a / 10) k++[UInt8.ofNat (48+a%10)]<digs (b / 10) k++[UInt8.ofNat (48+b%10)]
  have hb':b / 10<10^k:=by rw [Nat.div_lt_iff_lt_mul oQ];rw [Nat.pow_succ]at hb;exact hb
  rcases Nat.lt_or_ge (a / 10) (b / 10) with q|q
  ·exact app_lt _ _ _ _ (by rw [digs_len,digs_len]) (digs_lt k _ _ q hb')
  ·have e:a / 10=b / 10:=by omega
   rw [e]
   refine app_lt_r _ _ _ ?_
   rw [List.cons_lt_cons_iff]
   left
   rw [UInt8.lt_iff_toNat_lt,UInt8.toNat_ofNat',UInt8.toNat_ofNat']
   omega
theorem name_lt {a b:Int} (h1:0≤a) (h2:a<b) (h3:b<1048576):lt (name a) (name b)=true:=by
 unfold name
 rw [if_neg oQ,if_neg oQ]
 unfold lt
 rw [decide_eq_true_eq]
 show lead++digs a.toNat 8<lead++digs b.toNat 8
 exact app_lt_r _ _ _ (digs_lt 8 _ _ oQ oQ)
theorem number_is {s:ByteArray} (h:(number s).2=true):0≤(number s).1∧(number s).1<1048576∧name (number s).1=s:=by
 unfold number at h ⊢
 dsimp only at h ⊢
 split at h
 ·rename_i hc
  rw [if_pos hc]
  obtain ⟨c1,c2,c3,c4⟩:=hc
  refine ⟨by simp only;omega,by simp only;omega,?_⟩
  simp only
  unfold name
  rw [if_neg oQ]
  have hl:(s.data.toList.drop 4).length=8:=by
   have:s.data.toList.length=12:=by first|exact c1|(rw [Array.length_toList];exact c1)
   rw [List.length_drop,this]
  have hd:=digs_val (s.data.toList.drop 4) c3
  rw [hl]at hd
  have e:lead++digs (Int.toNat ((val (s.data.toList.drop 4):Nat):Int)) 8=s.data.toList:=by
   rw [Int.toNat_natCast,hd,← c2,List.take_append_drop]
  rw [e]
 ·cases h
theorem found_mem {l:List ByteArray}{x:Int×Int} (h:x∈found M l):∃ t∈l,(number t).2=true∧x=((number t).1,(M.size t).1):=by
 unfold found at h
 obtain ⟨t,ht,he⟩:=List.mem_filterMap.1 h
 split at he
 ·rename_i hn;exact ⟨t,ht,hn,(Option.some.inj he).symm⟩
 ·cases he
theorem list_now (h:t∈M.list):∃ i,nget M.now t=some i:=by
 unfold Med.list at h
 split at h
 ·cases h
 ·obtain ⟨p,hp,rfl⟩:=List.mem_map.1 h
  cases hg:nget M.now p.1 with
  |none=>exact absurd rfl (nget_none hg p hp)
  |some i=>exact ⟨i,rfl⟩
theorem found_rise:∀ (l:List ByteArray),l.Pairwise (fun a b=>lt a b=true)→((found M l).map (·.1)).Pairwise (· < ·)
 |[],_=>List.Pairwise.nil
 |t::l,h=>by
  obtain ⟨h1,h2⟩:=List.pairwise_cons.1 h
  have ih:=found_rise l h2
  by_cases hn:(number t).2=true
  ·have e:found M (t::l)=((number t).1,(M.size t).1)::found M l:=by unfold found;rw [List.filterMap_cons];simp [hn]
   rw [e,List.map_cons,List.pairwise_cons]
   refine ⟨fun x hx=>?_,ih⟩
   obtain ⟨y,hy,rfl⟩:=List.mem_map.1 hx
   obtain ⟨u,hu,hun,rfl⟩:=found_mem hy
   have hlt:=h1 u hu
   obtain ⟨a1,a2,a3⟩:=number_is hn
   obtain ⟨b1,b2,b3⟩:=number_is hun
   rcases Int.lt_or_le (number t).1 (number u).1 with q|q
   ·exact q
   ·exfalso
    rcases Int.lt_or_eq_of_le q with q|q
    ·have h3:=name_lt b1 q a2
     rw [a3,b3]at h3
     have:=lt_trans hlt h3
     rw [lt_irrefl]at this;cases this
    ·rw [← a3,← q,b3,lt_irrefl]at hlt;cases hlt
  ·have e:found M (t::l)=found M l:=by unfold found;rw [List.filterMap_cons];simp [hn]
   rw [e];exact ih
theorem fresh_ok (ok:M.Ok K) (limit:Int) (h1:128≤limit) (h2:limit≤1048576):(fresh M limit).Ok:=by
 refine ⟨⟨h1,h2⟩,?_,fun x hx=>?_,fun x hx=>?_,⟨Int.le_refl _,by simp [fresh]⟩,fun hh=>by cases hh⟩
 ·refine found_rise M.list ?_
  unfold Med.list
  split
  ·exact List.Pairwise.nil
  ·rw [List.pairwise_map];exact ok.nowOk.srt
 ·obtain ⟨t,_,hn,rfl⟩:=found_mem hx
  have:=number_is hn
  exact ⟨this.1,this.2.1⟩
 ·obtain ⟨t,_,hn,rfl⟩:=found_mem hx
  unfold Med.size
  split
  ·simp
  split
  ·simp
  ·have:=(ok.file ‹Nat›).now_len
   simp only
   omega
end
end Go.Seg
namespace Go.Seg
open Go.Med
open Go.Frm (encs GoodE)
section
variable {K K':Nat}{M M':Med}{L:Log}{s t:ByteArray}{i:Nat}{sure opn:List (Plc×Frm.Ent)}
theorem fresh_mem {n lim:Int} (hoff:M.off=false) (h1:0≤n) (h2:n<1048576) (hi:nget M.now (name n)=some i):n∈nf (fresh M lim):=by
 have hl:name n∈M.list:=by
  unfold Med.list
  rw [hoff]
  exact List.mem_map.2 ⟨_,nget_mem hi,rfl⟩
 unfold nf fresh
 simp only
 rw [List.take_of_length_le (by rw [List.length_map];simp)]
 refine List.mem_map.2 ⟨(n,(M.size (name n)).1),?_,rfl⟩
 unfold found
 refine List.mem_filterMap.2 ⟨name n,hl,?_⟩
 rw [number_name n h1 h2]
 rfl
theorem at_mem (hL:L.Ok){n:Int} (h:n∈L.l.map (·.1)):∃ k,L.at n=some k:=by
 obtain ⟨s,hs,rfl⟩:=List.mem_map.1 h
 cases hat:L.at s.1 with
 |some k=>exact ⟨k,rfl⟩
 |none=>
  exfalso
  unfold Log.at at hat
  rw [List.findIdx?_eq_none_iff]at hat
  have:=hat s hs
  simp at this
end
end Go.Seg
namespace Go.Hin
open Go.Med
def tmp:ByteArray:=⟨#[116,109,112]⟩
def there (M:Med) (s:ByteArray):Bool:=decide ((M.size s).2=0)
def remTmp (M:Med):Med×Int:=if there M tmp=true then M.remove tmp else (M,0)
def fill (M:Med) (s:ByteArray) (b:Bs):Med×Int:=
 if (M.append tmp b).2=0 then
  (if ((M.append tmp b).1.sync tmp).2=0 then ((M.append tmp b).1.sync tmp).1.rename tmp s else (M.append tmp b).1.sync tmp)
 else if (M.append tmp b).2=11 then
  (if ((M.append tmp b).1.remove tmp).2=0 then (((M.append tmp b).1.remove tmp).1,11) else (M.append tmp b).1.remove tmp)
 else M.append tmp b
def write (M:Med) (s:ByteArray) (b:Bs):Med×Int:=
 if (remTmp M).2=0 then (if ((remTmp M).1.create tmp).2=0 then fill ((remTmp M).1.create tmp).1 s b else (remTmp M).1.create tmp) else remTmp M
def sweep (p:ByteArray→Bool):List ByteArray→Med→Med×Int
 |[],M=>(M,0)
 |f::l,M=>if p f=true then (if (M.remove f).2=0 then sweep p l (M.remove f).1 else M.remove f) else sweep p l M
def other (n:Int) (s:ByteArray):Bool:=(number s).2 && (number s).1 != n
def save2 (M:Med) (n:Int):Med×Int:=if M.syncDir.2=0 then sweep (other n) M.syncDir.1.list M.syncDir.1 else M.syncDir
def save1 (M:Med) (n:Int) (bu:Bs):Med×Int:=if (write M (name use n) bu).2=0 then save2 (write M (name use n) bu).1 n else write M (name use n) bu
def save (M:Med) (n:Int) (bi bu:Bs):Med×Int:=if (write M (name idx n) bi).2=0 then save1 (write M (name idx n) bi).1 n bu else write M (name idx n) bi
abbrev Kept:Type:=List (ByteArray×Nat×Fil)
structure Nm (T:Kept) (s1:ByteArray) (b1:Bs) (s2:ByteArray) (b2:Bs) (fs:Nat→Fil) (l:Names):Prop where
 seg:∀ t∈T,nget l t.1=some t.2.1
 one:∀ i,nget l s1=some i→fs i=⟨b1,b1,[]⟩
 two:∀ i,nget l s2=some i→fs i=⟨b2,b2,[]⟩
 only:∀ p∈l,(∃ t∈T,p.1=t.1)∨p.1=tmp∨p.1=s1∨p.1=s2
structure Cf (T:Kept) (s1 s2:ByteArray):Prop where
 ne:s1≠s2
 t1:s1≠tmp
 t2:s2≠tmp
 e1:s1≠ByteArray.empty
 e2:s2≠ByteArray.empty
 seg:∀ t∈T,t.1≠tmp∧t.1≠s1∧t.1≠s2∧t.1≠ByteArray.empty
structure Sv (T:Kept) (s1:ByteArray) (b1:Bs) (s2:ByteArray) (b2:Bs) (K:Nat) (M:Med):Prop where
 ok:M.Ok K
 nm:∀ k,k≤M.waits.length→Nm T s1 b1 s2 b2 M.file (M.lastNames k)
 fil:∀ t∈T,M.file t.2.1=t.2.2
def Lone (j:Nat) (M:Med):Prop:=∀ k,k≤M.waits.length→∀ s,s≠tmp→nget (M.lastNames k) s≠some j
section
variable {T:Kept}{s1 s2 s:ByteArray}{b1 b2 b:Bs}{K j:Nat}{M M':Med}{l:Names}{fs fs':Nat→Fil}
theorem tmp_ne:tmp≠ByteArray.empty:=by decide
theorem lastNames_congr (e1:M'.fast=M.fast) (e2:M'.waits=M.waits) (k:Nat):M'.lastNames k=M.lastNames k:=by unfold Med.lastNames;rw [e1,e2]
theorem file_congr (e:M'.files=M.files):M'.file=M.file:=by funext i;unfold Med.file;rw [e]
theorem Nm.files (h:Nm T s1 b1 s2 b2 fs l) (h1:∀ i,nget l s1=some i→fs' i=fs i) (h2:∀ i,nget l s2=some i→fs' i=fs i):Nm T s1 b1 s2 b2 fs' l:=
 ⟨h.seg,fun i hi=>(h1 i hi).trans (h.one i hi),fun i hi=>(h2 i hi).trans (h.two i hi),h.only⟩
theorem Sv.now (h:Sv T s1 b1 s2 b2 K M):Nm T s1 b1 s2 b2 M.file M.now:=by rw [h.ok.now];exact h.nm _ (Nat.le_refl _)
theorem Sv.mono {K':Nat} (h:Sv T s1 b1 s2 b2 K M) (hk:K≤K'):Sv T s1 b1 s2 b2 K' M:=⟨h.ok.mono hk,h.nm,h.fil⟩
theorem Sv.like (h:Sv T s1 b1 s2 b2 K M) (ok:M'.Ok K) (e1:M'.fast=M.fast) (e2:M'.waits=M.waits) (e3:M'.files=M.files):Sv T s1 b1 s2 b2 K M':=by
 refine ⟨ok,fun k hk=>?_,fun t ht=>?_⟩
 ·rw [lastNames_congr e1 e2,file_congr e3];rw [e2]at hk;exact h.nm k hk
 ·rw [file_congr e3];exact h.fil t ht
theorem Lone.like (h:Lone j M) (e1:M'.fast=M.fast) (e2:M'.waits=M.waits):Lone j M':=fun k hk s hs=>by
 rw [lastNames_congr e1 e2];rw [e2]at hk;exact h k hk s hs
theorem Sv.step (h:Sv T s1 b1 s2 b2 K M):Sv T s1 b1 s2 b2 K M.step.1:=by
 obtain ⟨_,e1,e2,e3,e4⟩:=M.step_same
 exact h.like h.ok.step e1 e4 e3
theorem Lone.step (h:Lone j M):Lone j M.step.1:=by
 obtain ⟨_,e1,e2,e3,e4⟩:=M.step_same
 exact h.like e1 e4
theorem Sv.link (h:Sv T s1 b1 s2 b2 K M) (x:Lnk) (ok:(M.link x).Ok (K+1)) (hx:Nm T s1 b1 s2 b2 M.file (x.on M.now)):Sv T s1 b1 s2 b2 (K+1) (M.link x):=by
 have hf:(M.link x).file=M.file:=file_congr rfl
 refine ⟨ok,fun k hk=>?_,fun t ht=>?_⟩
 ·have hw:(M.link x).waits.length=M.waits.length+1:=by simp [Med.link]
  rw [hw]at hk
  rw [hf]
  rcases Nat.lt_or_ge k (M.waits.length+1) with q|q
  ·rw [M.lastNames_link x k oQ];exact h.nm k oQ
  ·obtain rfl:k=M.waits.length+1:=by omega
   rw [M.lastNames_last x h.ok.now];exact hx
 ·rw [hf];exact h.fil t ht
theorem Lone.link (h:Lone j M) (ok:M.Ok K) (x:Lnk) (hx:∀ s,s≠tmp→nget (x.on M.now) s≠some j):Lone j (M.link x):=fun k hk s hs=>by
 have hw:(M.link x).waits.length=M.waits.length+1:=by simp [Med.link]
 rw [hw]at hk
 rcases Nat.lt_or_ge k (M.waits.length+1) with q|q
 ·rw [M.lastNames_link x k oQ];exact h k oQ s hs
 ·obtain rfl:k=M.waits.length+1:=by omega
  rw [M.lastNames_last x ok.now];exact hx s hs
theorem Nm.draft (c:Cf T s1 s2) (h:Nm T s1 b1 s2 b2 fs l) (x:Lnk) (h1:x.fr=tmp∨x.fr=ByteArray.empty) (h2:x.to=tmp∨x.to=ByteArray.empty):Nm T s1 b1 s2 b2 fs (x.on l):=by
 have ne:∀ {s:ByteArray},s≠tmp→s≠ByteArray.empty→nget (x.on l) s=nget l s:=fun {s} a b=>
  Seg.on_ne (fun e=>by rcases h1 with q|q <;> rw [q]at e <;> first|exact a e.symm|exact b e.symm) (fun e=>by rcases h2 with q|q <;> rw [q]at e <;> first|exact a e.symm|exact b e.symm)
 refine ⟨fun t ht=>?_,fun i hi=>?_,fun i hi=>?_,fun p hp=>?_⟩
 ·obtain ⟨a,_,_,d⟩:=c.seg t ht
  rw [ne a d];exact h.seg t ht
 ·rw [ne c.t1 c.e1]at hi;exact h.one i hi
 ·rw [ne c.t2 c.e2]at hi;exact h.two i hi
 ·by_cases hpt:p.1=tmp
  ·exact .inr (.inl hpt)
  ·refine h.only p ?_
   unfold Lnk.on at hp
   simp only at hp
   have hd:∀ {q:ByteArray×Nat} {l:Names} {u:ByteArray},q∈ndel l u→q∈l:=fun hq=>(List.mem_filter.1 hq).1
   have hpu:∀ {l:Names},p∈(if x.to=ByteArray.empty then l else nput l x.to x.f)→p∈l:=fun {l} hq=>by
    split at hq
    ·exact hq
    ·rename_i hto
     rcases List.mem_cons.1 ((nput_perm l x.to x.f).mem_iff.1 hq) with rfl|hq
     ·exact absurd (h2.resolve_right hto) hpt
     ·exact hd hq
   have hp:=hpu hp
   split at hp
   ·exact hp
   ·exact hd hp
theorem Sv.remove (c:Cf T s1 s2) (h:Sv T s1 b1 s2 b2 K M):Sv T s1 b1 s2 b2 (K+1) (M.remove tmp).1:=by
 have ok:=h.ok.remove tmp
 unfold Med.remove at ok ⊢
 split;· exact h.mono (Nat.le_succ K)
 rename_i ho
 rw [if_neg ho]at ok
 cases hn:nget M.now tmp with
 |none=>exact h.mono (Nat.le_succ K)
 |some i=>
  rw [hn]at ok
  simp only at ok ⊢
  split
  ·exact h.step.mono (Nat.le_succ K)
  ·rename_i hs
   rw [if_neg hs]at ok
   refine h.step.link _ ok ?_
   exact h.step.now.draft c _ (.inl rfl) (.inr rfl)
theorem Sv.remTmp (c:Cf T s1 s2) (h:Sv T s1 b1 s2 b2 K M):Sv T s1 b1 s2 b2 (K+1) (remTmp M).1:=by
 unfold Hin.remTmp
 split
 ·exact h.remove c
 ·exact h.mono (Nat.le_succ K)
theorem Sv.newFile (h:Sv T s1 b1 s2 b2 K M):Sv T s1 b1 s2 b2 K { M with files:=M.files++[Fil.new] }∧Lone M.files.length { M with files:=M.files++[Fil.new] }:=by
 have hf:∀ i,({ M with files:=M.files++[Fil.new] }:Med).file i=M.file i:=fun i=>Seg.file_snoc M i
 have hl:∀ k,({ M with files:=M.files++[Fil.new] }:Med).lastNames k=M.lastNames k:=fun k=>lastNames_congr rfl rfl k
 refine ⟨⟨h.ok.newFile,fun k hk=>?_,fun t ht=>?_⟩,fun k hk s hs e=>?_⟩
 ·rw [hl];exact (h.nm k hk).files (fun i _=>hf i) (fun i _=>hf i)
 ·rw [hf];exact h.fil t ht
 ·rw [hl]at e
  have:=(h.ok.names k hk).ids _ (nget_mem e)
  simp at this
theorem Sv.create (c:Cf T s1 s2) (h:Sv T s1 b1 s2 b2 K M):Sv T s1 b1 s2 b2 (K+1) (M.create tmp).1 ∧
  ((M.create tmp).2=0→∃ j,nget (M.create tmp).1.now tmp=some j∧Lone j (M.create tmp).1∧(M.create tmp).1.file j=Fil.new):=by
 have ok:=h.ok.create tmp
 have hk:=h.mono (Nat.le_succ K)
 unfold Med.create at ok ⊢
 split;· exact ⟨hk,fun e=>by cases e⟩
 rename_i c0;rw [if_neg c0]at ok
 split;· exact ⟨hk,fun e=>by cases e⟩
 rename_i c1;rw [if_neg c1]at ok
 split;· exact ⟨hk,fun e=>by cases e⟩
 rename_i c2;rw [if_neg c2]at ok
 split;· exact ⟨hk,fun e=>by cases e⟩
 rename_i c3;rw [if_neg c3]at ok
 split;· exact ⟨h.step.mono (Nat.le_succ K),fun e=>by cases e⟩
 rename_i c4;rw [if_neg c4]at ok
 obtain ⟨_,e1,e2,e3,e4⟩:=M.step_same
 obtain ⟨n1,n2⟩:=h.step.newFile
 rw [e3]at n1 n2
 have hnow:({ M.step.1 with files:=M.files++[Fil.new] }:Med).now=M.now:=e2
 have hon:∀ k,nget (Lnk.on ⟨ByteArray.empty,tmp,k⟩ M.now) tmp=some k:=fun k=>by
  unfold Lnk.on;simp only [if_true,if_neg tmp_ne]
  exact Seg.nget_put_self h.ok.nowOk.srt _ _
 refine ⟨n1.link _ ok (by rw [hnow];have:=h.now.draft c ⟨ByteArray.empty,tmp,M.files.length⟩ (.inr rfl) (.inl rfl);exact this.files (fun i hi=>Seg.file_snoc M i) (fun i hi=>Seg.file_snoc M i)),fun _=>⟨M.files.length,?_,?_,?_⟩⟩
 ·show nget (Lnk.on ⟨ByteArray.empty,tmp,M.files.length⟩ M.step.1.now) tmp=_
  rw [e2];exact hon _
 ·refine n2.link n1.ok _ fun s hs e=>?_
  rw [hnow]at e
  have h2:nget M.now s=some M.files.length:=by
   rw [← e]
   exact (Seg.on_ne (fun q=>by
    have:=ok.nowOk.ne (s,M.files.length) (nget_mem (show nget (Lnk.on ⟨ByteArray.empty,tmp,M.files.length⟩ M.step.1.now) s=_ by rw [e2];exact e))
    exact this q.symm) (fun q=>hs q.symm)).symm
  have:=h.ok.nowOk.ids _ (nget_mem h2)
  simp at this
 ·show (M.files++[Fil.new]).getD M.files.length Fil.new=_
  simp
theorem Sv.setFile (c:Cf T s1 s2) (h:Sv T s1 b1 s2 b2 K M) (hl:Lone j M) (hj:j<M.files.length) (f:Fil) (ok:(M.setFile j f).Ok (K+1)):Sv T s1 b1 s2 b2 (K+1) (M.setFile j f)∧Lone j (M.setFile j f):=by
 have hn:∀ k,(M.setFile j f).lastNames k=M.lastNames k:=fun k=>lastNames_congr rfl rfl k
 have hf:∀ i,i≠j→(M.setFile j f).file i=M.file i:=fun i hi=>by rw [file_set hj,if_neg hi]
 refine ⟨⟨ok,fun k hk=>?_,fun t ht=>?_⟩,hl.like rfl rfl⟩
 ·rw [hn]
  exact (h.nm k hk).files (fun i hi=>hf i fun e=>hl k hk s1 c.t1 (by rw [← e];exact hi)) (fun i hi=>hf i fun e=>hl k hk s2 c.t2 (by rw [← e];exact hi))
 ·rw [hf _ fun e=>hl M.waits.length (Nat.le_refl _) t.1 (c.seg t ht).1 (by rw [← e];exact (h.nm _ (Nat.le_refl _)).seg t ht)]
  exact h.fil t ht
theorem Sv.append (c:Cf T s1 s2) (h:Sv T s1 b1 s2 b2 K M) (hl:Lone j M) (hj:nget M.now tmp=some j) (b:Bs) :
  Sv T s1 b1 s2 b2 (K+1) (M.append tmp b).1∧Lone j (M.append tmp b).1∧nget (M.append tmp b).1.now tmp=some j∧((M.append tmp b).2=0→(M.append tmp b).1.file j=(M.file j).do ⟨false,0,b⟩):=by
 have ok:=h.ok.append tmp b
 have hk:=h.mono (Nat.le_succ K)
 obtain ⟨_,e1,e2,e3,e4⟩:=M.step_same
 unfold Med.append at ok ⊢
 split;· exact ⟨hk,hl,hj,fun e=>by cases e⟩
 rename_i c0;rw [if_neg c0]at ok
 rw [hj]at ok ⊢
 simp only at ok ⊢
 split;· exact ⟨hk,hl,hj,fun e=>by cases e⟩
 rename_i c1;rw [if_neg c1]at ok
 split;· exact ⟨h.step.mono (Nat.le_succ K),hl.step,by rw [e2];exact hj,fun e=>by cases e⟩
 rename_i c2;rw [if_neg c2]at ok
 have hlt:j<M.step.1.files.length:=by rw [e3];exact h.ok.nowOk.ids _ (nget_mem hj)
 obtain ⟨q1,q2⟩:=h.step.setFile c hl.step hlt _ ok
 exact ⟨q1,q2,by show nget M.step.1.now tmp=_;rw [e2];exact hj,fun _=>by rw [file_set hlt,if_pos rfl]⟩
theorem Sv.sync (c:Cf T s1 s2) (h:Sv T s1 b1 s2 b2 K M) (hl:Lone j M) (hj:nget M.now tmp=some j) :
  Sv T s1 b1 s2 b2 (K+1) (M.sync tmp).1∧Lone j (M.sync tmp).1∧nget (M.sync tmp).1.now tmp=some j∧((M.sync tmp).2=0→(M.sync tmp).1.file j=(M.file j).sync):=by
 have ok:=h.ok.sync tmp
 have hk:=h.mono (Nat.le_succ K)
 obtain ⟨_,e1,e2,e3,e4⟩:=M.step_same
 unfold Med.sync at ok ⊢
 split;· exact ⟨hk,hl,hj,fun e=>by cases e⟩
 rename_i c0;rw [if_neg c0]at ok
 rw [hj]at ok ⊢
 simp only at ok ⊢
 split;· exact ⟨h.step.mono (Nat.le_succ K),hl.step,by rw [e2];exact hj,fun e=>by cases e⟩
 rename_i c2;rw [if_neg c2]at ok
 have hlt:j<M.step.1.files.length:=by rw [e3];exact h.ok.nowOk.ids _ (nget_mem hj)
 obtain ⟨q1,q2⟩:=h.step.setFile c hl.step hlt _ ok
 exact ⟨q1,q2,by show nget M.step.1.now tmp=_;rw [e2];exact hj,fun _=>by rw [file_set hlt,if_pos rfl]⟩
theorem Sv.rename (c:Cf T s1 s2) (h:Sv T s1 b1 s2 b2 K M) (hl:Lone j M) (hj:nget M.now tmp=some j) (hs:s=s1∧M.file j=⟨b1,b1,[]⟩∨s=s2∧M.file j=⟨b2,b2,[]⟩) :
  Sv T s1 b1 s2 b2 (K+1) (M.rename tmp s).1∧((M.rename tmp s).2=0→nget (M.rename tmp s).1.now s=some j)∧(∀ t,t≠tmp→t≠s→t≠ByteArray.empty→nget (M.rename tmp s).1.now t=nget M.now t):=by
 have ok:=h.ok.rename tmp s
 have hk:=h.mono (Nat.le_succ K)
 obtain ⟨_,e1,e2,e3,e4⟩:=M.step_same
 have hse:s≠ByteArray.empty:=by rcases hs with ⟨rfl,_⟩|⟨rfl,_⟩;exact c.e1;exact c.e2
 unfold Med.rename at ok ⊢
 split;· exact ⟨hk,fun e=>(by cases e),fun _ _ _ _=>rfl⟩
 rename_i c0;rw [if_neg c0]at ok
 rw [hj]at ok ⊢
 simp only at ok ⊢
 split;· exact ⟨hk,fun e=>(by cases e),fun _ _ _ _=>rfl⟩
 rename_i c1;rw [if_neg c1]at ok
 split;· exact ⟨h.step.mono (Nat.le_succ K),fun e=>(by cases e),fun _ _ _ _=>by rw [e2]⟩
 rename_i c2;rw [if_neg c2]at ok
 have hself:nget (Lnk.on ⟨tmp,s,j⟩ M.now) s=some j:=by
  unfold Lnk.on
  simp only [if_neg tmp_ne,if_neg hse]
  exact Seg.nget_put_self (h.ok.nowOk.srt.del tmp) _ _
 have ne:∀ {t:ByteArray},t≠tmp→t≠s→nget (Lnk.on ⟨tmp,s,j⟩ M.now) t=nget M.now t:=fun a b=>Seg.on_ne (fun e=>a e.symm) (fun e=>b e.symm)
 have hnm:Nm T s1 b1 s2 b2 M.file (Lnk.on ⟨tmp,s,j⟩ M.now):=by
  have hw:=h.now
  refine ⟨fun t ht=>?_,fun i hi=>?_,fun i hi=>?_,fun p hp=>?_⟩
  ·obtain ⟨a,b,d,_⟩:=c.seg t ht
   rw [ne a (by rcases hs with ⟨rfl,_⟩|⟨rfl,_⟩;exact b;exact d)];exact hw.seg t ht
  ·rcases hs with ⟨rfl,hb⟩|⟨rfl,hb⟩
   ·rw [hself]at hi;cases hi;exact hb
   ·rw [ne c.t1 c.ne]at hi;exact hw.one i hi
  ·rcases hs with ⟨rfl,hb⟩|⟨rfl,hb⟩
   ·rw [ne c.t2 c.ne.symm]at hi;exact hw.two i hi
   ·rw [hself]at hi;cases hi;exact hb
  ·unfold Lnk.on at hp
   simp only [if_neg tmp_ne,if_neg hse]at hp
   rcases List.mem_cons.1 ((nput_perm _ s j).mem_iff.1 hp) with rfl|hp
   ·rcases hs with ⟨rfl,_⟩|⟨rfl,_⟩
    ·exact .inr (.inr (.inl rfl))
    ·exact .inr (.inr (.inr rfl))
   ·exact hw.only p (List.mem_filter.1 (List.mem_filter.1 hp).1).1
 refine ⟨h.step.link _ ok (by rw [e2,file_congr e3];exact hnm),fun _=>?_,fun t a b _=>?_⟩
 ·show nget (Lnk.on _ M.step.1.now) s=_
  rw [e2];exact hself
 ·show nget (Lnk.on _ M.step.1.now) t=_
  rw [e2];exact ne a b
theorem Sv.syncDir (h:Sv T s1 b1 s2 b2 K M):Sv T s1 b1 s2 b2 K M.syncDir.1∧M.syncDir.1.now=M.now∧(M.syncDir.2=0→M.syncDir.1.waits=[]):=by
 have ok:=h.ok.syncDir
 obtain ⟨_,e1,e2,e3,e4⟩:=M.step_same
 unfold Med.syncDir at ok ⊢
 split;· exact ⟨h,rfl,fun e=>by cases e⟩
 rename_i c0;rw [if_neg c0]at ok
 split;· exact ⟨h.step,e2,fun e=>by cases e⟩
 rename_i c1;rw [if_neg c1]at ok
 have hf:({ M.step.1 with fast:=M.now,waits:=[] }:Med).file=M.file:=file_congr e3
 refine ⟨⟨ok,fun k hk=>?_,fun t ht=>by rw [hf];exact h.fil t ht⟩,e2,fun _=>rfl⟩
 have h0:({ M.step.1 with fast:=M.now,waits:=[] }:Med).lastNames k=M.now:=by unfold Med.lastNames;simp
 rw [h0,hf];exact h.now
theorem Sv.fill (c:Cf T s1 s2) (h:Sv T s1 b1 s2 b2 K M) (hl:Lone j M) (hj:nget M.now tmp=some j) (hnew:M.file j=Fil.new) (hs:s=s1∧b=b1∨s=s2∧b=b2) :
  Sv T s1 b1 s2 b2 (K+3) (fill M s b).1∧((fill M s b).2=0→nget (fill M s b).1.now s=some j∧∀ t,t≠tmp→t≠s→t≠ByteArray.empty→nget (fill M s b).1.now t=nget M.now t):=by
 have hnowA:(M.append tmp b).1.now=M.now:=by
  obtain ⟨_,e1,e2,e3,e4⟩:=M.step_same
  unfold Med.append
  split;· rfl
  split;· rfl
  split;· rfl
  split;· exact e2
  exact e2
 obtain ⟨a1,a2,a3,a4⟩:=h.append c hl hj b
 unfold Hin.fill
 split
 ·rename_i g1
  have hA:=a4 g1
  rw [hnew]at hA
  have hnowS:((M.append tmp b).1.sync tmp).1.now=(M.append tmp b).1.now:=by
   generalize (M.append tmp b).1=M2
   obtain ⟨_,e1,e2,e3,e4⟩:=M2.step_same
   unfold Med.sync
   split;· rfl
   split;· rfl
   split;· exact e2
   exact e2
  obtain ⟨q1,q2,q3,q4⟩:=a1.sync c a2 a3
  split
  ·rename_i g2
   have hS:=q4 g2
   rw [hA]at hS
   have hfile:((M.append tmp b).1.sync tmp).1.file j=⟨b,b,[]⟩:=hS
   obtain ⟨r1,r2,r3⟩:=q1.rename c q2 q3 (s:=s) (by
    rcases hs with ⟨rfl,rfl⟩|⟨rfl,rfl⟩
    ·exact .inl ⟨rfl,hfile⟩
    ·exact .inr ⟨rfl,hfile⟩)
   exact ⟨r1,fun e=>⟨r2 e,fun t x y z=>by rw [r3 t x y z,hnowS,hnowA]⟩⟩
  ·rename_i g2
   exact ⟨q1.mono oQ,fun e=>absurd e g2⟩
 ·rename_i g1
  split
  ·split
   ·exact ⟨(a1.remove c).mono oQ,fun e=>by cases e⟩
   ·rename_i g2;exact ⟨(a1.remove c).mono oQ,fun e=>absurd e g2⟩
  ·exact ⟨a1.mono oQ,fun e=>absurd e g1⟩
theorem Sv.write (c:Cf T s1 s2) (h:Sv T s1 b1 s2 b2 K M) (hs:s=s1∧b=b1∨s=s2∧b=b2) :
  Sv T s1 b1 s2 b2 (K+5) (write M s b).1∧((write M s b).2=0→(∃ j,nget (write M s b).1.now s=some j)∧∀ t,t≠tmp→t≠s→t≠ByteArray.empty→nget (write M s b).1.now t=nget M.now t):=by
 have hnowR:∀ t,t≠tmp→t≠ByteArray.empty→nget (Hin.remTmp M).1.now t=nget M.now t:=fun t ht hte=>by
  unfold Hin.remTmp
  split
  ·obtain ⟨_,e1,e2,e3,e4⟩:=M.step_same
   unfold Med.remove
   split;· rfl
   split;· rfl
   split;· rw [e2]
   show nget (Lnk.on ⟨tmp,ByteArray.empty,0⟩ M.step.1.now) t=_
   rw [e2]
   exact Seg.on_ne (fun e=>ht e.symm) (fun e=>hte e.symm)
  ·rfl
 have r:=h.remTmp c
 unfold Hin.write
 split
 ·rename_i g1
  obtain ⟨a1,a2⟩:=r.create c
  split
  ·rename_i g2
   obtain ⟨j,j1,j2,j3⟩:=a2 g2
   obtain ⟨f1,f2⟩:=a1.fill c j2 j1 j3 hs
   refine ⟨f1,fun e=>?_⟩
   obtain ⟨k1,k2⟩:=f2 e
   refine ⟨⟨j,k1⟩,fun t x y z=>?_⟩
   rw [k2 t x y z,← hnowR t x z]
   have hg:=Seg.create_good r.ok g2
   generalize (Hin.remTmp M).1=M2 at *
   obtain ⟨_,e1,e2,e3,e4⟩:=M2.step_same
   unfold Med.create
   split;· rfl
   split;· rfl
   split;· rfl
   split;· rfl
   split;· rw [e2]
   show nget (Lnk.on ⟨ByteArray.empty,tmp,M2.files.length⟩ M2.step.1.now) t=_
   rw [e2]
   exact Seg.on_ne (fun e=>z e.symm) (fun e=>x e.symm)
  ·rename_i g2;exact ⟨a1.mono oQ,fun e=>absurd e g2⟩
 ·rename_i g1;exact ⟨r.mono oQ,fun e=>absurd e g1⟩
theorem sweep_none (p:ByteArray→Bool):∀ (l:List ByteArray) (M:Med),(∀ f∈l,p f=false)→sweep p l M=(M,0)
 |[],M,h=>rfl
 |f::l,M,h=>by
  unfold sweep
  rw [if_neg (by rw [h f (.head _)];decide)]
  exact sweep_none p l M fun x hx=>h x (.tail _ hx)
theorem Sv.sweep {n:Int} (h:Sv T s1 b1 s2 b2 K M) (hp:∀ p∈M.now,other n p.1=false):sweep (other n) M.list M=(M,0):=
 sweep_none _ _ _ fun f hf=>by
  unfold Med.list at hf
  split at hf
  ·cases hf
  ·obtain ⟨p,hp2,rfl⟩:=List.mem_map.1 hf;exact hp p hp2
theorem Sv.save {n:Int} (hs1:s1=name idx n) (hs2:s2=name use n) (c:Cf T s1 s2) (ho:∀ s,((∃ t∈T,s=t.1)∨s=tmp∨s=s1∨s=s2)→other n s=false) (h:Sv T s1 b1 s2 b2 K M) :
  Sv T s1 b1 s2 b2 (K+10) (save M n b1 b2).1∧((save M n b1 b2).2=0→(∃ i,nget (save M n b1 b2).1.now s1=some i)∧(∃ i,nget (save M n b1 b2).1.now s2=some i)∧(save M n b1 b2).1.waits=[]):=by
 obtain ⟨w1,w2⟩:=h.write c (.inl ⟨rfl,rfl⟩)
 unfold Hin.save
 rw [← hs1]
 split
 ·rename_i g1
  obtain ⟨⟨j1,k1⟩,_⟩:=w2 g1
  obtain ⟨v1,v2⟩:=w1.write c (.inr ⟨rfl,rfl⟩)
  unfold Hin.save1
  rw [← hs2]
  split
  ·rename_i g2
   obtain ⟨⟨j2,k2⟩,k3⟩:=v2 g2
   obtain ⟨d1,d2,d3⟩:=v1.syncDir
   have hsw:=d1.sweep (n:=n) fun p hp=>ho p.1 (d1.now.only p hp)
   unfold Hin.save2
   split
   ·rename_i g3
    rw [hsw]
    refine ⟨d1.mono oQ,fun _=>⟨⟨j1,?_⟩,⟨j2,?_⟩,d3 g3⟩⟩
    ·show nget _ s1=_
     rw [d2,k3 s1 c.t1 c.ne c.e1];exact k1
    ·show nget _ s2=_
     rw [d2];exact k2
   ·rename_i g3;exact ⟨d1.mono oQ,fun e=>absurd e g3⟩
  ·rename_i g2;exact ⟨v1.mono oQ,fun e=>absurd e g2⟩
 ·rename_i g1;exact ⟨w1.mono oQ,fun e=>absurd e g1⟩
end
end Go.Hin
namespace Go.Proofs.YtlinnpehkfbnkaaGreatDoor
open Go Go.Sl Go.Med Go.MapKept Go.RowKit
section
variable {w0 w:World}{F:List HProp}{m fb nb b r:Nat}{M:Med}{bs:List Nat}{wv v bv:Value}{s:ByteArray}{l:Names}{fs:List Fil}{K:Nat}
theorem rename_c (hM:M.Ok K) (hK:K≤1099511627776) (h:Sat w0 w (MedRep m M::F)) (s t:ByteArray) (ht:t.size≤9223372036854775807) :
  Calls Tryz.prog 131 #[ptr m,.string s,.string t] w (Rtn fun v w'=>v=errno (M.rename s t).2∧Sat w0 w' (MedRep m (M.rename s t).1::F)):=by
 obtain ⟨bs,fb,nb,wv,hl,hR⟩:=MedRep.open h
 have hg:=good_c t w ht
 cases ho:M.off
 ·cases hn:nget M.now s with
  |none=>
   have hf:=find_none (s:=s) hR ho hn
   have Hfin:Hid (M.rename s t=(M,9)):=by show _=_;simp [Med.rename,ho,hn]
   clear ho hn
   go_enter Tryz.func131,Tryz.ntmps131
   go_wp2_with (first|(go_at_call 136;refine hf.mono ?_;rintro e w1 ⟨v,rfl,rfl,rfl⟩))
   go_ret
   exact ⟨errno 9,rfl,by rw [Hfin.out],by rw [Hfin.out];exact h⟩
  |some i=>
   have hf:=find_some (s:=s) hR ho hn
   cases hgs:good t
   ·rw [hgs]at hg
    have Hfin:Hid (M.rename s t=(M,7)):=by show _=_;simp [Med.rename,ho,hn,hgs]
    clear ho hn hgs
    go_enter Tryz.func131,Tryz.ntmps131
    go_wp2_with (first|(go_at_call 136;refine hf.mono ?_;rintro e w1 ⟨v,rfl,rfl,rfl⟩)|(go_at_call 169;refine hg.mono ?_;rintro e w1 ⟨v,rfl,rfl,rfl⟩))
    go_ret
    exact ⟨errno 7,rfl,by rw [Hfin.out],by rw [Hfin.out];exact h⟩
   rw [hgs]at hg
   have hst:=step_c hR hM.left
   cases hstep:M.step.2
   ·rw [hstep]at hst
    have Hfin:Hid (M.rename s t=(M.step.1,12)):=by show _=_;simp [Med.rename,ho,hn,hgs,hstep]
    clear ho hn hstep hgs
    go_enter Tryz.func131,Tryz.ntmps131
    go_wp2_with (first|(go_at_call 136;refine hf.mono ?_;rintro e w1 ⟨v,rfl,rfl,rfl⟩)|(go_at_call 169;refine hg.mono ?_;rintro e w1 ⟨v,rfl,rfl,rfl⟩)|(go_at_call 132;refine hst.mono ?_;rintro e w1 ⟨v,rfl,rfl,hS1⟩))
    go_ret
    refine ⟨errno 12,rfl,by rw [Hfin.out],?_⟩
    rw [Hfin.out]
    exact MedRep.shut (bs:=bs) (fb:=fb) (nb:=nb) (wv:=wv) (by rw [M.step_same.2.2.2.1];exact hl) (raw_step hS1)
   ·rw [hstep]at hst
    have Hfin:Hid (M.rename s t=(M.step.1.link ⟨s,t,i⟩,0)):=by show _=_;simp [Med.rename,ho,hn,hgs,hstep]
    have hne:=good_ne hgs
    have hl':bs.length=M.step.1.files.length:=by rw [M.step_same.2.2.2.1];exact hl
    have hlp:lnkPtr bs ⟨s,t,i⟩=ptr (bs.getD i 0):=by unfold lnkPtr;rw [if_neg hne]
    have Hl':=uQ hl';have Hlp:=uQ hlp
    clear ho hn hstep hgs hne hl' hlp
    generalize hq:bs.getD i 0=q at hf
    have Hq:=uQ hq;clear hq
    go_enter Tryz.func131,Tryz.ntmps131
    go_wp2_with (first|(go_at_call 136;refine hf.mono ?_;rintro e w1 ⟨v,rfl,rfl,rfl⟩)|(go_at_call 169;refine hg.mono ?_;rintro e w1 ⟨v,rfl,rfl,rfl⟩)|(go_at_call 132;fail))
    refine hst.mono ?_
    rintro e w1 ⟨v,rfl,rfl,hS1⟩
    have hlk:=link_rep hM.step hK Hl'.out ⟨s,t,i⟩ (raw_step hS1)
    rw [Hlp.out,Hq.out]at hlk
    go_wp2_with (go_at_call 137;go_must (refine hlk.mono ?_);rintro e w2 ⟨v2,rfl,hS2⟩)
    go_ret
    refine ⟨errno 0,rfl,by rw [Hfin.out],?_⟩
    rw [Hfin.out]
    exact hS2
 ·have hf:=find_off (s:=s) hR ho
  have Hfin:Hid (M.rename s t=(M,12)):=by show _=_;simp [Med.rename,ho]
  clear ho
  go_enter Tryz.func131,Tryz.ntmps131
  go_wp2_with (first|(go_at_call 136;refine hf.mono ?_;rintro e w1 ⟨v,rfl,rfl,rfl⟩))
  go_ret
  exact ⟨errno 12,rfl,by rw [Hfin.out],by rw [Hfin.out];exact h⟩
end
section
variable {w0 w:World}{F:List HProp}{v bv:Value}{q m K:Nat}{M:Med}
theorem hthere_c (hM:M.Ok K) (s:ByteArray) (h:Sat w0 w (MedRep m M::F)):Calls Tryz.prog 76 #[ptr m,.string s] w (Rtn fun v w'=>v = .bool (Hin.there M s)∧w=w'):=by
 have hs:=size_c hM h s
 have Hf:=uQ (show Hin.there M s=decide ((M.size s).2=0) from rfl)
 generalize M.size s=r at *
 obtain ⟨n,e⟩:=r
 dsimp only at hs
 have hb:(e==0)=decide (e=0):=by rw [Bool.eq_iff_iff,beq_iff_eq,decide_eq_true_eq]
 go_enter Tryz.func76,Tryz.ntmps76
 go_wp2_with fail
 refine hs.mono ?_
 rintro ee w1 ⟨v,rfl,rfl,rfl⟩
 clear hs
 go_wp2
 go_ret
 rw [Hf.out]
 exact ⟨_,rfl,by first|rfl|(rw [← hb];rfl)|simp,rfl⟩
set_option maxRecDepth 20000 in
theorem hwrite_c (hM:M.Ok K) (hK:K+4≤1099511627776) (s:ByteArray) (hs:s.size≤9223372036854775807) (b:Bs) (hr:Ro w0 F (rdsl 1 bv (bys b))) (hbv:∃ a n c,bv = .slice a n c) (h:Sat w0 w (MedRep m M::F)) :
  Calls Tryz.prog 64 #[ptr m,.string s,bv] w (Rtn fun v w'=>v=errno (Hin.write M s b).2∧Sat w0 w' (MedRep m (Hin.write M s b).1::F)):=by
 obtain ⟨ba,bn,bc,rfl⟩:=hbv
 have Hr:=uQ hr;have Hs:=uQ hs
 have hth:=hthere_c hM Hin.tmp h
 clear hr hs
 cases ht:Hin.there M Hin.tmp with
 |false=>
  have HX:=uQ (show Hin.write M s b=(if (M.create Hin.tmp).2=0 then Hin.fill (M.create Hin.tmp).1 s b else M.create Hin.tmp) by unfold Hin.write Hin.remTmp;rw [ht];rfl)
  rw [ht]at hth
  clear ht
  go_enter Tryz.func64,Tryz.ntmps64
  go_wp2_with fail
  refine hth.mono ?_
  rintro ee w1 ⟨v,rfl,rfl,rfl⟩
  clear hth
  have hcr:=create_c hM oQ h Hin.tmp dCz
  have ok1:=hM.create Hin.tmp
  generalize M.create Hin.tmp=r1 at *
  obtain ⟨M1,e1⟩:=r1
  dsimp only at hcr ok1
  clear h
  go_wp2_with fail
  refine hcr.mono ?_
  rintro ee w3 ⟨v,rfl,rfl,h3⟩
  clear hcr
  by_cases c1:e1=0
  rotate_left
  ·have hb1:(e1 != 0)=true:=bne_iff_ne.2 c1
   have HF:=uQ (show Hin.write M s b=(M1,e1) from HX.out.trans (if_neg c1))
   clear c1
   go_wp2
   go_ret
   rw [HF.out]
   exact ⟨_,rfl,rfl,h3⟩
  subst c1
  have HY:=uQ (show Hin.write M s b=Hin.fill M1 s b from HX.out.trans (if_pos rfl))
  clear HX
  have hap:=append_c ok1 oQ h3 Hin.tmp b Hr.out
  have ok2:=ok1.append Hin.tmp b
  have HE:=uQ (show Hin.fill M1 s b=(if (M1.append Hin.tmp b).2=0 then
    (if ((M1.append Hin.tmp b).1.sync Hin.tmp).2=0 then ((M1.append Hin.tmp b).1.sync Hin.tmp).1.rename Hin.tmp s else (M1.append Hin.tmp b).1.sync Hin.tmp)
   else if (M1.append Hin.tmp b).2=11 then
    (if ((M1.append Hin.tmp b).1.remove Hin.tmp).2=0 then (((M1.append Hin.tmp b).1.remove Hin.tmp).1,11) else (M1.append Hin.tmp b).1.remove Hin.tmp)
   else M1.append Hin.tmp b) from rfl)
  generalize M1.append Hin.tmp b=r2 at *
  obtain ⟨M2,e2⟩:=r2
  dsimp only at hap ok2
  clear h3
  go_wp2_with fail
  refine hap.mono ?_
  rintro ee w4 ⟨v,rfl,rfl,h4⟩
  clear hap
  by_cases c2:e2=0
  rotate_left
  ·have hb2:(e2 != 0)=true:=bne_iff_ne.2 c2
   by_cases c3:e2=11
   ·subst c3
    have hrm:=remove_c ok2 oQ h4 Hin.tmp
    have HG:=uQ (show Hin.write M s b=(if (M2.remove Hin.tmp).2=0 then ((M2.remove Hin.tmp).1,11) else M2.remove Hin.tmp) from HY.out.trans (HE.out.trans ((if_neg c2).trans (if_pos rfl))))
    generalize M2.remove Hin.tmp=r3 at *
    obtain ⟨M3,e3⟩:=r3
    dsimp only at hrm
    clear h4 c2 HY HE
    go_wp2_with fail
    refine hrm.mono ?_
    rintro ee w5 ⟨v,rfl,rfl,h5⟩
    clear hrm
    by_cases c4:e3=0
    ·have hb3:(e3 != 0)=false:=by rw [c4];rfl
     have HF:=uQ (HG.out.trans (if_pos c4))
     clear c4
     go_wp2
     go_ret
     rw [HF.out]
     exact ⟨_,rfl,rfl,h5⟩
    ·have hb3:(e3 != 0)=true:=bne_iff_ne.2 c4
     have HF:=uQ (HG.out.trans (if_neg c4))
     clear c4
     go_wp2
     go_ret
     rw [HF.out]
     exact ⟨_,rfl,rfl,h5⟩
   ·have hb3:(e2==11)=false:=beq_eq_false_iff_ne.2 c3
    have HF:=uQ (show Hin.write M s b=(M2,e2) from HY.out.trans (HE.out.trans ((if_neg c2).trans (if_neg c3))))
    clear c2 c3
    go_wp2
    go_ret
    rw [HF.out]
    exact ⟨_,rfl,rfl,h4⟩
  subst c2
  have hsy:=sync_c ok2 h4 Hin.tmp
  have ok3:=ok2.sync Hin.tmp
  have HG:=uQ (show Hin.write M s b=(if (M2.sync Hin.tmp).2=0 then (M2.sync Hin.tmp).1.rename Hin.tmp s else M2.sync Hin.tmp) from HY.out.trans (HE.out.trans (if_pos rfl)))
  generalize M2.sync Hin.tmp=r3 at *
  obtain ⟨M3,e3⟩:=r3
  dsimp only at hsy ok3
  clear h4 HY HE
  go_wp2_with fail
  refine hsy.mono ?_
  rintro ee w5 ⟨v,rfl,rfl,h5⟩
  clear hsy
  by_cases c4:e3=0
  rotate_left
  ·have hb3:(e3 != 0)=true:=bne_iff_ne.2 c4
   have HF:=uQ (show Hin.write M s b=(M3,e3) from HG.out.trans (if_neg c4))
   clear c4
   go_wp2
   go_ret
   rw [HF.out]
   exact ⟨_,rfl,rfl,h5⟩
  subst c4
  have hre:=rename_c ok3 oQ h5 Hin.tmp s Hs.out
  have HF:=uQ (show Hin.write M s b=M3.rename Hin.tmp s from HG.out.trans (if_pos rfl))
  generalize M3.rename Hin.tmp s=r4 at *
  obtain ⟨M4,e4⟩:=r4
  dsimp only at hre
  clear h5
  go_wp2_with fail
  refine hre.mono ?_
  rintro ee w6 ⟨v,rfl,rfl,h6⟩
  clear hre
  go_wp2
  go_ret
  rw [HF.out]
  exact ⟨_,rfl,rfl,h6⟩
 |true=>
  rw [ht]at hth
  have hrm:=remove_c hM oQ h Hin.tmp
  have okR:=hM.remove Hin.tmp
  have HR:=uQ (show Hin.write M s b=(if (M.remove Hin.tmp).2=0 then (if ((M.remove Hin.tmp).1.create Hin.tmp).2=0 then Hin.fill ((M.remove Hin.tmp).1.create Hin.tmp).1 s b else (M.remove Hin.tmp).1.create Hin.tmp) else M.remove Hin.tmp) by unfold Hin.write Hin.remTmp;rw [ht];rfl)
  generalize M.remove Hin.tmp=r0 at *
  obtain ⟨M0,e0⟩:=r0
  dsimp only at hrm okR
  clear ht
  go_enter Tryz.func64,Tryz.ntmps64
  go_wp2_with fail
  refine hth.mono ?_
  rintro ee w1 ⟨v,rfl,rfl,rfl⟩
  clear hth
  go_wp2_with fail
  refine hrm.mono ?_
  rintro ee w2 ⟨v,rfl,rfl,h2⟩
  clear hrm h
  by_cases c0:e0=0
  rotate_left
  ·have hb0:(e0 != 0)=true:=bne_iff_ne.2 c0
   have HF:=uQ (show Hin.write M s b=(M0,e0) from HR.out.trans (if_neg c0))
   clear c0
   go_wp2
   go_ret
   rw [HF.out]
   exact ⟨_,rfl,rfl,h2⟩
  subst c0
  have HX:=uQ (show Hin.write M s b=(if (M0.create Hin.tmp).2=0 then Hin.fill (M0.create Hin.tmp).1 s b else M0.create Hin.tmp) from HR.out.trans (if_pos rfl))
  clear HR
  have hcr:=create_c okR oQ h2 Hin.tmp dCz
  have ok1:=okR.create Hin.tmp
  generalize M0.create Hin.tmp=r1 at *
  obtain ⟨M1,e1⟩:=r1
  dsimp only at hcr ok1
  clear h2
  go_wp2_with fail
  refine hcr.mono ?_
  rintro ee w3 ⟨v,rfl,rfl,h3⟩
  clear hcr
  by_cases c1:e1=0
  rotate_left
  ·have hb1:(e1 != 0)=true:=bne_iff_ne.2 c1
   have HF:=uQ (show Hin.write M s b=(M1,e1) from HX.out.trans (if_neg c1))
   clear c1
   go_wp2
   go_ret
   rw [HF.out]
   exact ⟨_,rfl,rfl,h3⟩
  subst c1
  have HY:=uQ (show Hin.write M s b=Hin.fill M1 s b from HX.out.trans (if_pos rfl))
  clear HX
  have hap:=append_c ok1 oQ h3 Hin.tmp b Hr.out
  have ok2:=ok1.append Hin.tmp b
  have HE:=uQ (show Hin.fill M1 s b=(if (M1.append Hin.tmp b).2=0 then
    (if ((M1.append Hin.tmp b).1.sync Hin.tmp).2=0 then ((M1.append Hin.tmp b).1.sync Hin.tmp).1.rename Hin.tmp s else (M1.append Hin.tmp b).1.sync Hin.tmp)
   else if (M1.append Hin.tmp b).2=11 then
    (if ((M1.append Hin.tmp b).1.remove Hin.tmp).2=0 then (((M1.append Hin.tmp b).1.remove Hin.tmp).1,11) else (M1.append Hin.tmp b).1.remove Hin.tmp)
   else M1.append Hin.tmp b) from rfl)
  generalize M1.append Hin.tmp b=r2 at *
  obtain ⟨M2,e2⟩:=r2
  dsimp only at hap ok2
  clear h3
  go_wp2_with fail
  refine hap.mono ?_
  rintro ee w4 ⟨v,rfl,rfl,h4⟩
  clear hap
  by_cases c2:e2=0
  rotate_left
  ·have hb2:(e2 != 0)=true:=bne_iff_ne.2 c2
   by_cases c3:e2=11
   ·subst c3
    have hrm:=remove_c ok2 oQ h4 Hin.tmp
    have HG:=uQ (show Hin.write M s b=(if (M2.remove Hin.tmp).2=0 then ((M2.remove Hin.tmp).1,11) else M2.remove Hin.tmp) from HY.out.trans (HE.out.trans ((if_neg c2).trans (if_pos rfl))))
    generalize M2.remove Hin.tmp=r3 at *
    obtain ⟨M3,e3⟩:=r3
    dsimp only at hrm
    clear h4 c2 HY HE
    go_wp2_with fail
    refine hrm.mono ?_
    rintro ee w5 ⟨v,rfl,rfl,h5⟩
    clear hrm
    by_cases c4:e3=0
    ·have hb3:(e3 != 0)=false:=by rw [c4];rfl
     have HF:=uQ (HG.out.trans (if_pos c4))
     clear c4
     go_wp2
     go_ret
     rw [HF.out]
     exact ⟨_,rfl,rfl,h5⟩
    ·have hb3:(e3 != 0)=true:=bne_iff_ne.2 c4
     have HF:=uQ (HG.out.trans (if_neg c4))
     clear c4
     go_wp2
     go_ret
     rw [HF.out]
     exact ⟨_,rfl,rfl,h5⟩
   ·have hb3:(e2==11)=false:=beq_eq_false_iff_ne.2 c3
    have HF:=uQ (show Hin.write M s b=(M2,e2) from HY.out.trans (HE.out.trans ((if_neg c2).trans (if_neg c3))))
    clear c2 c3
    go_wp2
    go_ret
    rw [HF.out]
    exact ⟨_,rfl,rfl,h4⟩
  subst c2
  have hsy:=sync_c ok2 h4 Hin.tmp
  have ok3:=ok2.sync Hin.tmp
  have HG:=uQ (show Hin.write M s b=(if (M2.sync Hin.tmp).2=0 then (M2.sync Hin.tmp).1.rename Hin.tmp s else M2.sync Hin.tmp) from HY.out.trans (HE.out.trans (if_pos rfl)))
  generalize M2.sync Hin.tmp=r3 at *
  obtain ⟨M3,e3⟩:=r3
  dsimp only at hsy ok3
  clear h4 HY HE
  go_wp2_with fail
  refine hsy.mono ?_
  rintro ee w5 ⟨v,rfl,rfl,h5⟩
  clear hsy
  by_cases c4:e3=0
  rotate_left
  ·have hb3:(e3 != 0)=true:=bne_iff_ne.2 c4
   have HF:=uQ (show Hin.write M s b=(M3,e3) from HG.out.trans (if_neg c4))
   clear c4
   go_wp2
   go_ret
   rw [HF.out]
   exact ⟨_,rfl,rfl,h5⟩
  subst c4
  have hre:=rename_c ok3 oQ h5 Hin.tmp s Hs.out
  have HF:=uQ (show Hin.write M s b=M3.rename Hin.tmp s from HG.out.trans (if_pos rfl))
  generalize M3.rename Hin.tmp s=r4 at *
  obtain ⟨M4,e4⟩:=r4
  dsimp only at hre
  clear h5
  go_wp2_with fail
  refine hre.mono ?_
  rintro ee w6 ⟨v,rfl,rfl,h6⟩
  clear hre
  go_wp2
  go_ret
  rw [HF.out]
  exact ⟨_,rfl,rfl,h6⟩
end
end Go.Proofs.YtlinnpehkfbnkaaGreatDoor
namespace Go.Hin
open Go.Med
section
variable {s:ByteArray}{b b1 b2:Bs}{K r:Nat}{M:Med}
theorem _root_.Go.Seg.Calm.rename (h:Seg.Calm K r M) (s t:ByteArray):Seg.Calm (K+1) r (M.rename s t).1:=by
 have f:=(Fits.does h.ok h.dst h.used ⟨3,s,t,0,0,[],[]⟩ (show (3:Int)≠8 by decide) (show (3:Int)≠9 by decide)).1
 exact ⟨h.ok.rename s t,h.quiet.rename s t,f.dst,f.used,f.room.trans h.room⟩
theorem good_tmp:good tmp=true:=by decide +kernel
theorem size_none (q:Quiet M) (h:nget M.now s=none):M.size s=(0,9):=by unfold Med.size;rw [q.off,h];rfl
theorem size_some (q:Quiet M){i:Nat} (h:nget M.now s=some i):M.size s=((((M.file i).now.length:Nat):Int),0):=by unfold Med.size;rw [q.off,h];rfl
theorem there_none (q:Quiet M) (h:nget M.now s=none):there M s=false:=by unfold there;rw [size_none q h];rfl
theorem there_some (q:Quiet M){i:Nat} (h:nget M.now s=some i):there M s=true:=by unfold there;rw [size_some q h];rfl
theorem nput_le (l:Names) (s:ByteArray) (i:Nat):(nput l s i).length≤l.length+1:=by rw [nput_len];have:=ndel_len l s;omega
theorem write_zero (h:Seg.Calm K r M) (ht:nget M.now tmp=none) (hl:M.now.length<500) (hr:M.used+b.length≤r) (hg:good s=true) (hst:s≠tmp) :
  (write M s b).2=0∧Seg.Calm (K+5) r (write M s b).1∧nget (write M s b).1.now tmp=none∧(write M s b).1.now.length≤M.now.length+1∧(write M s b).1.used≤M.used+b.length ∧
   (∀ p∈(write M s b).1.now,p∈M.now∨p.1=s):=by
 have e0:remTmp M=(M,0):=by unfold remTmp;rw [there_none h.quiet ht];rfl
 obtain ⟨c1,c2,c3,c4,c5⟩:=Seg.create_full h good_tmp ht hl
 have hc:=h.create tmp
 have hi:nget (M.create tmp).1.now tmp=some M.files.length:=by rw [c2];exact Seg.nget_put_self h.ok.nowOk.srt _ _
 have hroom:(M.create tmp).1.room=r:=hc.room
 obtain ⟨a1,a2,a3,_,_⟩:=Seg.append_full hc hi b (by rw [c3,hroom];exact hr)
 have ha:=hc.append tmp b
 have hi2:nget ((M.create tmp).1.append tmp b).1.now tmp=some M.files.length:=by rw [a2];exact hi
 have es:=ha.quiet.sync_eq hi2
 have hsy:=ha.sync tmp
 have hs0:(((M.create tmp).1.append tmp b).1.sync tmp).2=0:=by rw [es]
 have hal:=Seg.sync_alike ha.ok ha.quiet tmp
 have hi3:nget (((M.create tmp).1.append tmp b).1.sync tmp).1.now tmp=some M.files.length:=by rw [hal.now];exact hi2
 have hre:=Seg.Calm.rename hsy tmp s
 have er:(((M.create tmp).1.append tmp b).1.sync tmp).1.rename tmp s=((((M.create tmp).1.append tmp b).1.sync tmp).1.link ⟨tmp,s,M.files.length⟩,0):=by
  unfold Med.rename
  rw [hsy.quiet.off,hsy.quiet.step,hi3,hg]
  simp
 have hw:write M s b=(((M.create tmp).1.append tmp b).1.sync tmp).1.rename tmp s:=by
  unfold write
  rw [e0,if_pos rfl]
  show (if (M.create tmp).2=0 then _ else _)=_
  rw [if_pos c1]
  unfold fill
  rw [if_pos a1,if_pos hs0]
 have hse:s≠ByteArray.empty:=good_ne hg
 have hnow:(write M s b).1.now=nput (ndel (nput M.now tmp M.files.length) tmp) s M.files.length:=by
  rw [hw,er]
  show Lnk.on _ _=_
  rw [hal.now,a2,c2]
  unfold Lnk.on
  simp only [if_neg tmp_ne,if_neg hse]
 rw [Seg.ndel_put ht]at hnow
 refine ⟨by rw [hw,er],by rw [hw];exact hre.mono oQ,?_,?_,?_,?_⟩
 ·rw [hnow,Seg.nget_put_ne (Ne.symm hst)];exact ht
 ·rw [hnow];exact nput_le _ _ _
 ·have hu:(((M.create tmp).1.append tmp b).1.sync tmp).1.used=M.used+b.length:=by rw [hal.used,a3,c3]
  rw [← hu,hw,er]
  generalize (((M.create tmp).1.append tmp b).1.sync tmp).1=M2 at *
  show ((Lnk.on _ M2.now).map fun p=>(M2.file p.2).now.length).sum≤(M2.now.map fun p=>(M2.file p.2).now.length).sum
  unfold Lnk.on
  simp only [if_neg tmp_ne,if_neg hse]
  rw [sum_put _ _ _ (fun j=>(M2.file j).now.length)]
  have h1:=(used_split hsy.ok.nowOk.srt hsy.dst hi3).2 (fun j=>(M2.file j).now.length)
  have h2:=sum_del_le (ndel M2.now tmp) s (fun j=>(M2.file j).now.length)
  rw [h1];omega
 ·intro p hp
  rw [hnow]at hp
  rcases List.mem_cons.1 ((nput_perm _ _ _).mem_iff.1 hp) with rfl|hp
  ·exact .inr rfl
  ·exact .inl (List.mem_filter.1 hp).1
theorem save_zero {n:Int} (h:Seg.Calm K r M) (ht:nget M.now tmp=none) (hl:M.now.length≤490) (hr:M.used+b1.length+b2.length≤r) (hg1:good (name idx n)=true) (hg2:good (name use n)=true)
  (n1:name idx n≠tmp) (n2:name use n≠tmp) (ho:∀ p∈M.now,other n p.1=false) (o1:other n (name idx n)=false) (o2:other n (name use n)=false):(save M n b1 b2).2=0∧Seg.Calm (K+10) r (save M n b1 b2).1∧(save M n b1 b2).1.used≤M.used+b1.length+b2.length∧(save M n b1 b2).1.now.length≤M.now.length+2 ∧
   (∀ p∈(save M n b1 b2).1.now,p∈M.now∨p.1=name idx n∨p.1=name use n):=by
 obtain ⟨a1,a2,a3,a4,a5,a6⟩:=write_zero (b:=b1) h ht oQ oQ hg1 n1
 obtain ⟨c1,c2,c3,c4,c5,c6⟩:=write_zero (b:=b2) a2 a3 oQ oQ hg2 n2
 have hd:=c2.quiet.syncDir_eq
 have hds:=c2.syncDir
 have hno:(write (write M (name idx n) b1).1 (name use n) b2).1.syncDir.1.now=(write (write M (name idx n) b1).1 (name use n) b2).1.now:=by rw [hd]
 have hsw:sweep (other n) (write (write M (name idx n) b1).1 (name use n) b2).1.syncDir.1.list (write (write M (name idx n) b1).1 (name use n) b2).1.syncDir.1=((write (write M (name idx n) b1).1 (name use n) b2).1.syncDir.1,0):=sweep_none _ _ _ fun f hf=>by
  rw [hds.quiet.list,hno]at hf
  obtain ⟨p,hp,rfl⟩:=List.mem_map.1 hf
  rcases c6 p hp with h1|h1
  ·rcases a6 p h1 with h2|h2
   ·exact ho p h2
   ·rw [h2];exact o1
  ·rw [h1];exact o2
 unfold save
 rw [if_pos a1]
 unfold save1
 rw [if_pos c1]
 unfold save2
 rw [if_pos (by rw [hd]),hsw]
 have hu:(write (write M (name idx n) b1).1 (name use n) b2).1.syncDir.1.used=(write (write M (name idx n) b1).1 (name use n) b2).1.used:=by rw [hd];rfl
 refine ⟨rfl,hds.mono oQ,?_,?_,fun p hp=>?_⟩
 ·show (write (write M (name idx n) b1).1 (name use n) b2).1.syncDir.1.used≤_
  rw [hu];omega
 ·show (write (write M (name idx n) b1).1 (name use n) b2).1.syncDir.1.now.length≤_
  rw [hno];omega
 ·have hp':p∈(write (write M (name idx n) b1).1 (name use n) b2).1.now:=by rw [← hno];exact hp
  rcases c6 p hp' with h1|h1
  ·rcases a6 p h1 with h2|h2
   ·exact .inl h2
   ·exact .inr (.inl h2)
  ·exact .inr (.inr h1)
theorem name_eq (ld:ByteArray) (n:Int) (h1:0≤n) (h2:n<1048576):(name ld n).data.toList=ld.data.toList++Seg.digs n.toNat 8:=by
 have hs:=Seg.good_name n h1 h2
 have hne:=good_ne hs
 unfold name
 rw [if_neg hne]
 have e:Seg.name n=⟨(Seg.lead++Seg.digs n.toNat 8).toArray⟩:=by unfold Seg.name;rw [if_neg oQ]
 rw [e]
 rw [ByteArray.data_append,Array.toList_append,ByteArray.data_extract,Array.toList_extract]
 show _++(List.extract (Seg.lead++Seg.digs n.toNat 8) 4 12)=_
 congr 1
theorem digs_goodC (n k:Nat):(Seg.digs n k).all goodC=true:=by
 rw [List.all_eq_true]
 intro c hc
 have:=(List.all_eq_true.1 (Seg.digs_dig k n)) c hc
 unfold Seg.isDig at this
 rw [Bool.and_eq_true,decide_eq_true_eq,decide_eq_true_eq]at this
 unfold goodC
 have e1:(48:UInt8)≤c:=UInt8.le_iff_toNat_le.2 this.1
 have e2:c≤57:=UInt8.le_iff_toNat_le.2 this.2
 simp [e1,e2]
theorem name_good {ld:ByteArray} (hl:ld.data.toList.length=4) (hg:ld.data.toList.all goodC=true) (n:Int) (h1:0≤n) (h2:n<1048576):good (name ld n)=true:=by
 have e:=name_eq ld n h1 h2
 have hs:(name ld n).size=12:=by
  show (name ld n).data.size=12
  rw [← Array.length_toList,e,List.length_append,hl,Seg.digs_len]
 unfold good
 rw [hs,e,List.all_append,hg,digs_goodC]
 rfl
theorem number_of {ld:ByteArray} (hl:ld.data.toList=[105,100,120,46]∨ld.data.toList=[117,115,101,46]) (n:Int) (h1:0≤n) (h2:n<1048576):number (name ld n)=(n,true):=by
 have e:=name_eq ld n h1 h2
 have hs:=Seg.number_name n h1 h2
 have e2:Seg.name n=⟨(Seg.lead++Seg.digs n.toNat 8).toArray⟩:=by unfold Seg.name;rw [if_neg oQ]
 rw [e2]at hs
 unfold number
 rw [e]
 rcases hl with hl|hl
 ·rw [hl,if_pos (.inl rfl)];exact hs
 ·rw [hl,if_pos (.inr rfl)];exact hs
theorem number_seg (n:Int):number (Seg.name n)=(0,false):=by
 unfold number
 rcases seg_name n with h|⟨_,h⟩
 ·rw [h,if_neg dCz]
 ·rw [h,if_neg dCz]
theorem number_tmp:number tmp=(0,false):=by
 unfold number
 rw [if_neg dCz]
theorem other_no {n:Int}{s:ByteArray} (h:(number s).2=false):other n s=false:=by unfold other;rw [h];rfl
theorem other_self {n:Int}{s:ByteArray} (h:number s=(n,true)):other n s=false:=by unfold other;rw [h];simp
theorem idx_l:idx.data.toList=[105,100,120,46]:=rfl
theorem use_l:use.data.toList=[117,115,101,46]:=rfl
theorem name_ne (n:Int) (h1:0≤n) (h2:n<1048576):name idx n≠name use n:=fun e=>by
 have a:=name_eq idx n h1 h2
 rw [e,name_eq use n h1 h2,idx_l,use_l]at a
 simp at a
theorem seg_ne_idx (m n:Int) (h1:0≤n) (h2:n<1048576):Seg.name m≠name idx n:=fun e=>by
 have a:=number_of (.inl idx_l) n h1 h2
 rw [← e,number_seg]at a
 simp at a
theorem seg_ne_use (m n:Int) (h1:0≤n) (h2:n<1048576):Seg.name m≠name use n:=fun e=>by
 have a:=number_of (.inr use_l) n h1 h2
 rw [← e,number_seg]at a
 simp at a
theorem idx_ne_tmp (n:Int) (h1:0≤n) (h2:n<1048576):name idx n≠tmp:=fun e=>by
 have a:=number_of (.inl idx_l) n h1 h2
 rw [e,number_tmp]at a
 simp at a
theorem use_ne_tmp (n:Int) (h1:0≤n) (h2:n<1048576):name use n≠tmp:=fun e=>by
 have a:=number_of (.inr use_l) n h1 h2
 rw [e,number_tmp]at a
 simp at a
end
end Go.Hin
namespace Go.Proofs.YtlinnpehkfbnkaaGreatDoor
open Go Go.Sl Go.Med Go.MapKept Go.RowKit
abbrev capPt (b ps:Nat):HProp:=pt b (.cells #[ptr ps] 35 (0,0))
section
variable {w0 w:World}{F:List HProp}{m K b3 ps pi B:Nat}{M:Med}{n:Int}{uv tv:Value}{mp:Frm.Bs→Option Seg.Plc}
theorem hsave1_c (f:ByteArray) (hf:f.size≤4000000000) (h:Sat w0 w (capPt b3 ps::stPt ps n pi uv tv::F)) :
  Calls Tryz.prog 68 #[.string f,ptr b3] w (Rtn fun v w'=>v = .bool (Hin.other n f)∧Sat w0 w' (capPt b3 ps::stPt ps n pi uv tv::F)):=by
 have Ho:=uQ (show Hin.other n f=((Hin.number f).2 && (Hin.number f).1 != n) from rfl)
 have hn:=hnumber_c f hf h
 generalize Hin.number f=q at *
 obtain ⟨x,t⟩:=q
 dsimp only at hn
 clear h
 go_enter Tryz.func68,Tryz.ntmps68
 go_wp2_with fail
 refine hn.mono ?_
 rintro ee w1 ⟨v,rfl,rfl,h1⟩
 clear hn
 cases t with
 |false=>
  go_wp2_with fail
  go_ret
  exact ⟨_,rfl,by rw [Ho.out];rfl,h1⟩
 |true=>
  have e1:w1.cell? ⟨b3,0,none⟩=some (.pointer (some ⟨ps,0,none⟩)):=h1.cellP pick0 0 rfl
  have e2:w1.cell? ⟨ps,0,none⟩=some (.int .i64 n):=h1.cellP pick1 0 rfl
  go_wp2_with fail
  go_ret
  exact ⟨_,rfl,by rw [Ho.out];rfl,h1⟩
set_option maxRecDepth 20000 in
theorem sweepS_c (hM:M.Ok K) (hno:∀ f∈M.list,Hin.other n f=false∧f.size≤4000000000) (h:Sat w0 w (MedRep m M::capPt b3 ps::stPt ps n pi uv tv::F)) :
  Calls Tryz.prog 67 #[ptr m,.func (.func 68) #[] #[ptr b3]] w (Rtn fun v w'=>v=errno 0∧Sat w0 w' (MedRep m M::capPt b3 ps::stPt ps n pi uv tv::F)):=by
 have hls:=list_c hM h
 have Hlen:=uQ (list_len hM)
 have Hn:=uQ hno
 clear hno hM
 generalize M.list=l at *
 go_enter Tryz.func67,Tryz.ntmps67
 go_wp2_with fail
 refine hls.mono ?_
 rintro e w1 ⟨v,rfl,hS,_⟩
 clear hls h
 obtain ⟨a,c,rfl⟩:=nm_sl (Sat.rd hS)
 go_wp2_with fail
 go_loopg [11] l.length (fun g iq wr=>∃ i:Nat,g=l.length - i∧i≤l.length∧iq = .int .i64 i∧Sat w0 wr (osl 9 1 (.slice a l.length c) (strs l)::MedRep m M::capPt b3 ps::stPt ps n pi uv tv::F))
 case atStart=>exact ⟨0,rfl,Nat.zero_le _,rfl,hS⟩
 case round=>
  obtain ⟨i,rfl,hi,rfl,hS2⟩:=hrel
  clear hS
  by_cases hlt:i<l.length
  ·have c1:(i:Int)<(l.length:Int):=by omega
   have hwi:IntKind.i64.wrap ((i:Int)+1)=(i:Int)+1:=IntWalk.i64_in _ (by have:=Hlen.out;omega)
   obtain ⟨s,hs⟩:∃ s,l[i]?=some s:=⟨_,List.getElem?_eq_getElem hlt⟩
   obtain ⟨bk,off,rfl,hc⟩:=nm_cell (Sat.rd hS2) hs
   obtain ⟨hso,hsz⟩:=Hn.out s (List.mem_of_getElem? hs)
   have Hlt:=uQ hlt
   have hcl:=hsave1_c s hsz (hS2.sb:Sat w0 wr (capPt b3 ps::stPt ps n pi uv tv::osl 9 1 (.slice (some ⟨bk,off,none⟩) l.length c) (strs l)::MedRep m M::F))
   rw [hso]at hcl
   clear hs hlt hi hso
   go_wp2_with fail
   refine hcl.mono ?_
   rintro e w2 ⟨v,rfl,rfl,hS3⟩
   clear hS2 hc hcl
   go_wp2_with fail
   go_roundg (l.length - (i+1))
   case measure=>have:=Hlt.out;omega
   case rel=>exact ⟨i+1,rfl,Nat.succ_le_of_lt Hlt.out,by first|rfl|go_num,hS3.sb⟩
  ·have c1:¬ (i:Int)<(l.length:Int):=by omega
   clear hlt hi
   go_wp2_with fail
   go_ret
   exact ⟨_,rfl,rfl,hS2.drop⟩
theorem ok_fill (hM:M.Ok K) (s:ByteArray) (b:Frm.Bs):(Hin.fill M s b).1.Ok (K+3):=by
 unfold Hin.fill
 split
 ·split
  ·exact ((hM.append _ _).sync _).rename _ _
  ·exact ((hM.append _ _).sync _).mono oQ
 ·split
  ·split
   ·exact ((hM.append _ _).remove _).mono oQ
   ·exact ((hM.append _ _).remove _).mono oQ
  ·exact (hM.append _ _).mono oQ
theorem ok_write (hM:M.Ok K) (s:ByteArray) (b:Frm.Bs):(Hin.write M s b).1.Ok (K+5):=by
 have hr:(Hin.remTmp M).1.Ok (K+1):=by
  unfold Hin.remTmp
  split
  ·exact hM.remove _
  ·exact hM.mono oQ
 unfold Hin.write
 split
 ·split
  ·exact ok_fill (hr.create _) _ _
  ·exact (hr.create _).mono oQ
 ·exact hr.mono oQ
theorem name_size {ld:ByteArray} (hl:ld.data.toList.length=4) (hg:ld.data.toList.all goodC=true) (h1:0≤n) (h2:n<1048576):(Hin.name ld n).size≤24∧((Hin.name ld n).toList==[])=false:=by
 have h:=Hin.name_good hl hg n h1 h2
 unfold good at h
 simp only [Bool.and_eq_true,decide_eq_true_eq]at h
 refine ⟨h.1.2,?_⟩
 rw [beq_eq_false_iff_ne,ByteArray.toList_eq]
 intro e
 have:=congrArg List.length e
 rw [Array.length_toList]at this
 have h3:(Hin.name ld n).size=0:=this
 omega
set_option maxRecDepth 20000 in
theorem hsave_c (hM:M.Ok K) (hK:K+20≤1099511627776) (hn0:0≤n) (hn1:n<1048576) (kv:List (Frm.Bs×Seg.Plc)) (hl:Tab.Lists mp kv) (hB:B≤13000000) (hk:∀ q∈kv,q.1.length=32) (us:List Rep.Use) (hoi:Bok.Ok 3 true (kv.map Rep.idxRw)) (hou:Bok.Ok 3 false (us.map Rep.useRw))
  (bi bu:Frm.Bs) (hbi:bi=Bok.book Xx.sum Bok.mgIdx true (kv.map Rep.idxRw)) (hbu:bu=Bok.book Xx.sum Bok.mgUse false (us.map Rep.useRw))
  (hno:∀ f∈(Hin.write (Hin.write M (Hin.name Hin.idx n) bi).1 (Hin.name Hin.use n) bu).1.syncDir.1.list,Hin.other n f=false∧f.size≤4000000000)
  (h:Sat w0 w (stPt ps n pi uv tv::TabML pi mp B::osl 121 3 uv (us.flatMap uenc)::MedRep m M::F)) :
  Calls Tryz.prog 12 #[ptr m,ptr ps] w (Rtn fun v w'=>v=errno (Hin.save M n bi bu).2∧Sat w0 w' (stPt ps n pi uv tv::TabML pi mp B::osl 121 3 uv (us.flatMap uenc)::MedRep m (Hin.save M n bi bu).1::F)):=by
 obtain ⟨z1,z2⟩:=name_size (ld:=Hin.idx) rfl dCz hn0 hn1
 obtain ⟨z3,_⟩:=name_size (ld:=Hin.use) rfl dCz hn0 hn1
 have hkl:kv.length≤13000000:=by have:=hoi.len;rw [List.length_map]at this;omega
 have HM:=uQ hM;have HK:=uQ hK;have Hl:=uQ hl;have HB:=uQ hB;have Hk:=uQ hk;have Hoi:=uQ hoi;have Hou:=uQ hou;have Hno:=uQ hno;have Hkl:=uQ hkl
 have Hbi:=uQ hbi;have Hbu:=uQ hbu;have Hz1:=uQ z1;have Hz3:=uQ z3
 have Hnm:=uQ (fun (w':World) (R:List HProp) (hw:Sat w0 w' R)=>iname_c n hw)
 have Hum:=uQ (fun (w':World) (R:List HProp) (hw:Sat w0 w' R)=>uname_c n hw)
 have HS:=uQ (show Hin.save M n bi bu=if (Hin.write M (Hin.name Hin.idx n) bi).2=0 then Hin.save1 (Hin.write M (Hin.name Hin.idx n) bi).1 n bu else Hin.write M (Hin.name Hin.idx n) bi from rfl)
 clear hM hK hl hB hk hoi hou hno hbi hbu hkl z1 z3
 generalize hni:Hin.name Hin.idx n=ni at *
 generalize hnu:Hin.name Hin.use n=nu at *
 have Hnu:=uQ hnu
 clear hni hnu
 go_enter Tryz.func12,Tryz.ntmps12
 go_wp2_with (with_reducible apply at_box)
 refine ⟨wl_box h rFz rFz ?_⟩
 intro b3 w3 h3
 replace h3:Sat w0 w3 (capPt b3 ps::stPt ps n pi uv tv::TabML pi mp B::osl 121 3 uv (us.flatMap uenc)::MedRep m M::F):=h3
 clear h
 have e1:w3.cell? ⟨b3,0,none⟩=some (.pointer (some ⟨ps,0,none⟩)):=h3.cellP pick0 0 rfl
 have e2:w3.cell? ⟨ps,1,none⟩=some (.pointer (some ⟨pi,0,none⟩)):=h3.cellP pick1 1 rfl
 have e3:w3.cell? ⟨ps,0,none⟩=some (.int .i64 n):=h3.cellP pick1 0 rfl
 go_wp2_with fail
 refine (Hnm.out _ _ h3).mono ?_
 rintro ee w4 ⟨v,rfl,rfl,h4⟩
 clear h3 e1 e2 e3
 have e1:w4.cell? ⟨b3,0,none⟩=some (.pointer (some ⟨ps,0,none⟩)):=h4.cellP pick0 0 rfl
 have e2:w4.cell? ⟨ps,1,none⟩=some (.pointer (some ⟨pi,0,none⟩)):=h4.cellP pick1 1 rfl
 go_wp2_with fail
 refine (hrows_c Hl.out HB.out Hkl.out Hk.out (h4.sb:Sat w0 w4 (TabML pi mp B::capPt b3 ps::stPt ps n pi uv tv::osl 121 3 uv (us.flatMap uenc)::MedRep m M::F))).mono ?_
 rintro ee w5 ⟨rv,rfl,h5⟩
 clear h4 e1 e2
 go_wp2_with fail
 refine (bindex_c kv Hk.out Hoi.out (fun w hw=>Sat.rd hw) h5).mono ?_
 rintro ee w6 ⟨v,rfl,iv,rfl,h6⟩
 clear h5
 rw [← Hbi.out]at h6
 replace h6:Sat w0 w6 (abl iv bi::capPt b3 ps::stPt ps n pi uv tv::TabML pi mp B::osl 121 3 uv (us.flatMap uenc)::MedRep m M::F):=h6.sb
 have e1:w6.cell? ⟨b3,0,none⟩=some (.pointer (some ⟨ps,0,none⟩)):=h6.cellP pick1 0 rfl
 have e2:w6.cell? ⟨ps,2,none⟩=some uv:=h6.cellP pick2 2 rfl
 go_wp2_with fail
 refine (buses_c us Hou.out (fun w hw=>Sat.rd (hw.sb:Sat w0 w (osl 121 3 uv (us.flatMap uenc)::abl iv bi::capPt b3 ps::stPt ps n pi uv tv::TabML pi mp B::MedRep m M::F))) h6).mono ?_
 rintro ee w7 ⟨v,rfl,uw,rfl,h7⟩
 clear h6 e1 e2
 rw [← Hbu.out]at h7
 have e1:w7.cell? ⟨b3,0,none⟩=some (.pointer (some ⟨ps,0,none⟩)):=h7.cellP pick2 0 rfl
 have e3:w7.cell? ⟨ps,0,none⟩=some (.int .i64 n):=h7.cellP pick3 0 rfl
 go_wp2_with fail
 refine (Hnm.out _ _ h7).mono ?_
 rintro ee w8 ⟨v,rfl,rfl,h8⟩
 clear h7 e1 e3
 replace h8:Sat w0 w8 (MedRep m M::abl uw bu::abl iv bi::capPt b3 ps::stPt ps n pi uv tv::TabML pi mp B::osl 121 3 uv (us.flatMap uenc)::F):=h8.sb
 have hri:=(RS.of_abl (h8.sb:Sat w0 w8 (abl iv bi::MedRep m M::abl uw bu::capPt b3 ps::stPt ps n pi uv tv::TabML pi mp B::osl 121 3 uv (us.flatMap uenc)::F)))
 obtain ⟨ia,il,ic,rfl,_,_⟩:=hri.cap
 have hw1:=hwrite_c HM.out (by have:=HK.out;omega) ni (by have:=Hz1.out;omega) bi (bv:= .slice ia il ic) (fun w hw=>asl_rd (hw.sb:Sat w0 w (abl (.slice ia il ic) bi::abl uw bu::capPt b3 ps::stPt ps n pi uv tv::TabML pi mp B::osl 121 3 uv (us.flatMap uenc)::F))) ⟨_,_,_,rfl⟩ h8
 have ok1:=ok_write HM.out ni bi
 clear hri
 generalize Hin.write M ni bi=r1 at *
 obtain ⟨M1,q1⟩:=r1
 dsimp only at hw1 ok1 HS Hno
 go_wp2_with fail
 refine hw1.mono ?_
 rintro ee w9 ⟨v,rfl,rfl,h9⟩
 clear hw1 h8
 by_cases c1:q1=0
 rotate_left
 ·have hb1:(q1 != 0)=true:=bne_iff_ne.2 c1
  have HF:=uQ (show Hin.save M n bi bu=(M1,q1) from HS.out.trans (if_neg c1))
  clear c1
  go_wp2_with fail
  go_ret
  exact ⟨_,rfl,by rw [HF.out];rfl,by rw [HF.out];exact h9.sb⟩
 ·have HS1:=uQ (show Hin.save M n bi bu=(if (Hin.write M1 (Hin.name Hin.use n) bu).2=0 then Hin.save2 (Hin.write M1 (Hin.name Hin.use n) bu).1 n else Hin.write M1 (Hin.name Hin.use n) bu) from HS.out.trans (if_pos c1))
  rw [Hnu.out]at HS1
  subst c1
  have e1:w9.cell? ⟨b3,0,none⟩=some (.pointer (some ⟨ps,0,none⟩)):=h9.cellP pick3 0 rfl
  have e3:w9.cell? ⟨ps,0,none⟩=some (.int .i64 n):=h9.cellP (pick_there pick3) 0 rfl
  go_wp2_with fail
  refine (Hum.out _ _ h9).mono ?_
  rintro ee w10 ⟨v,rfl,rfl,h10⟩
  clear h9 e1 e3
  replace h10:Sat w0 w10 (MedRep m M1::abl uw bu::capPt b3 ps::stPt ps n pi uv tv::TabML pi mp B::osl 121 3 uv (us.flatMap uenc)::F):=h10.sb
  have hri:=(RS.of_abl (h10.sb:Sat w0 w10 (abl uw bu::MedRep m M1::capPt b3 ps::stPt ps n pi uv tv::TabML pi mp B::osl 121 3 uv (us.flatMap uenc)::F)))
  obtain ⟨ua,ul,uc,rfl,_,_⟩:=hri.cap
  have hw2:=hwrite_c ok1 (by have:=HK.out;omega) nu (by have:=Hz3.out;omega) bu (bv:= .slice ua ul uc) (fun w hw=>asl_rd (hw.sb:Sat w0 w (abl (.slice ua ul uc) bu::capPt b3 ps::stPt ps n pi uv tv::TabML pi mp B::osl 121 3 uv (us.flatMap uenc)::F))) ⟨_,_,_,rfl⟩ h10
  have ok2:=ok_write ok1 nu bu
  clear hri HS
  generalize Hin.write M1 nu bu=r2 at *
  obtain ⟨M2,q2⟩:=r2
  dsimp only at hw2 ok2 HS1 Hno
  go_wp2_with fail
  refine hw2.mono ?_
  rintro ee w11 ⟨v,rfl,rfl,h11⟩
  clear hw2 h10
  by_cases c2:q2=0
  rotate_left
  ·have hb1:(q2 != 0)=true:=bne_iff_ne.2 c2
   have HF:=uQ (show Hin.save M n bi bu=(M2,q2) from HS1.out.trans (if_neg c2))
   clear c2
   go_wp2_with fail
   go_ret
   exact ⟨_,rfl,by rw [HF.out];rfl,by rw [HF.out];exact h11.sb⟩
  ·have HS2:=uQ (show Hin.save M n bi bu=(if M2.syncDir.2=0 then Hin.sweep (Hin.other n) M2.syncDir.1.list M2.syncDir.1 else M2.syncDir) from HS1.out.trans (if_pos c2))
   subst c2
   have hsd:=syncDir_c ok2 h11
   have ok3:=ok2.syncDir
   clear HS1
   generalize M2.syncDir=r3 at *
   obtain ⟨M3,q3⟩:=r3
   dsimp only at hsd ok3 HS2 Hno
   go_wp2_with fail
   refine hsd.mono ?_
   rintro ee w12 ⟨v,rfl,rfl,h12⟩
   clear hsd h11
   by_cases c3:q3=0
   rotate_left
   ·have hb1:(q3 != 0)=true:=bne_iff_ne.2 c3
    have HF:=uQ (show Hin.save M n bi bu=(M3,q3) from HS2.out.trans (if_neg c3))
    clear c3
    go_wp2_with fail
    go_ret
    exact ⟨_,rfl,by rw [HF.out];rfl,by rw [HF.out];exact h12.sb⟩
   ·have HF:=uQ (show Hin.save M n bi bu=(M3,0) from HS2.out.trans ((if_pos c3).trans (Hin.sweep_none _ _ _ fun f hf=>(Hno.out f hf).1)))
    subst c3
    have hsw:=sweepS_c ok3 Hno.out (h12.sb:Sat w0 w12 (MedRep m M3::capPt b3 ps::stPt ps n pi uv tv::TabML pi mp B::osl 121 3 uv (us.flatMap uenc)::F))
    go_wp2_with fail
    refine hsw.mono ?_
    rintro ee w13 ⟨v,rfl,rfl,h13⟩
    go_wp2_with fail
    go_ret
    exact ⟨_,rfl,by rw [HF.out];rfl,by rw [HF.out];exact h13.sb⟩
end
end Go.Proofs.YtlinnpehkfbnkaaGreatDoor
namespace Go.Frm
theorem read_tag {b:Bs} (h:(read b).2.2=0):(read b).1.tag=0∨(read b).1.tag=1∨(read b).1.tag=2:=by
 unfold read at *
 dsimp only at *
 split at h
 ·simp at h
 rename_i h9
 rw [if_neg h9]
 split at h
 ·simp at h
 rename_i hf
 rw [if_neg hf]
 split at h
 ·simp at h
 rename_i hl
 rw [if_neg hl]
 split at h
 ·simp at h
 rename_i hc
 rw [if_neg hc]
 have ht:b.getD 8 0=0∨b.getD 8 0=1∨b.getD 8 0=2:=by
  unfold fits at hf
  split at hf
  ·exact .inl aQ
  split at hf
  ·exact .inr (.inl aQ)
  split at hf
  ·exact .inr (.inr aQ)
  ·exact absurd rfl hf
 split
 all_goals
  dsimp only
  rcases ht with e|e|e <;> rw [e]
  ·exact .inl rfl
  ·exact .inr (.inl rfl)
  ·exact .inr (.inr rfl)
theorem scanL_ok:∀ (k:Nat) (b:Bs) (at_:Nat),∀ f∈(scanL k b at_).1,(f.e.tag=0∨f.e.tag=1∨f.e.tag=2)∧f.e.key.length=32∧9≤f.size∧f.size≤b.length
 |0,_,_,f,hf=>by cases hf
 |k+1,b,at_,f,hf=>by
  unfold scanL at hf
  split at hf
  ·cases hf
  split at hf
  ·cases hf
  rename_i he
  have he:(read b).2.2=0:=by simpa using he
  have h1:=read_ok he
  simp only at hf
  rcases List.mem_cons.1 hf with rfl|hf
  ·exact ⟨read_tag he,h1.2.2,h1.1,h1.2.1⟩
  ·have h2:=scanL_ok k _ _ f hf
   refine ⟨h2.1,h2.2.1,h2.2.2.1,Nat.le_trans h2.2.2.2 ?_⟩
   rw [List.length_drop];omega
theorem scan_ok (b:Bs):∀ f∈(scan b).1,(f.e.tag=0∨f.e.tag=1∨f.e.tag=2)∧f.e.key.length=32∧9≤f.size∧f.size≤b.length:=fun f hf=>by
 unfold scan at hf
 split at hf
 ·have h:=scanL_ok _ _ _ f hf
  refine ⟨h.1,h.2.1,h.2.2.1,Nat.le_trans h.2.2.2 ?_⟩
  rw [List.length_drop];omega
 ·cases hf
end Go.Frm
namespace Go.Rep
open Go.Frm (Bs Fnd)
open Go.Seg (Plc)
open Go.Tab
theorem rowsOf_mem {bt:Told}{ns:List Int}{r:Row} (h:r∈rowsOf bt ns):r.1∈ns∧r.2∈(Frm.scan (bt r.1).1).1:=by
 unfold rowsOf at h
 obtain ⟨s,hs,h⟩:=List.mem_flatMap.1 h
 obtain ⟨f,hf,rfl⟩:=List.mem_map.1 h
 exact ⟨hs,hf⟩
theorem rowsOf_rows {bt:Told}{ns:List Int} (hr:ns.Pairwise (· < ·)) (h0:∀ s∈ns,0≤s):Rows (rowsOf bt ns):=by
 refine ⟨fun r h=>(Frm.scan_ok _ _ (rowsOf_mem h).2).1,fun r h=>h0 _ (rowsOf_mem h).1,?_⟩
 unfold rowsOf
 rw [List.pairwise_flatMap]
 refine ⟨fun s _=>?_,hr.imp fun {a b} hab x hx y hy=>?_⟩
 ·rw [List.pairwise_map]
  exact List.pairwise_of_forall fun _ _=>Int.le_refl s
 ·obtain ⟨_,_,rfl⟩:=List.mem_map.1 hx
  obtain ⟨_,_,rfl⟩:=List.mem_map.1 hy
  exact Int.le_of_lt hab
end Go.Rep
namespace Go.Rep
open Go.Frm (Bs Fnd Ent fnds encs GoodE)
open Go.Seg (Plc mag)
open Go.Tab
def rowsC:Nat→List (List Ent)→List Row
 |_,[]=>[]
 |k,es::C=>((fnds es 8).map fun f=>((k:Int),f))++rowsC (k+1) C
section
variable {C:List (List Ent)}{bt:Told}{k n:Nat}
theorem rowsC_e:∀ (k:Nat) (C:List (List Ent)),(rowsC k C).map (·.2.e)=C.flatten
 |_,[]=>rfl
 |k,es::C=>by
  unfold rowsC
  rw [List.map_append,List.map_map,rowsC_e (k+1) C,List.flatten_cons]
  congr 1
  exact Frm.fnds_e es 8
theorem rows_is:∀ (C:List (List Ent)) (k:Nat),(∀ j es,C[j]?=some es→bt ((k+j:Nat):Int)=(mag++encs es,0)∧∀ x∈es,GoodE x)→rowsOf bt ((List.range' k C.length).map fun i=>((i:Nat):Int))=rowsC k C
 |[],k,_=>rfl
 |es::C,k,h=>by
  have h0:=h 0 es rfl
  rw [Nat.add_zero]at h0
  have ih:=rows_is C (k+1) fun j fs hj=>by
   have:=h (j+1) fs (by simpa using hj)
   rwa [show k+(j+1)=k+1+j by omega]at this
  rw [List.length_cons,List.range'_succ,List.map_cons]
  show ((Frm.scan (bt (k:Int)).1).1.map fun f=>((k:Int),f))++rowsOf bt ((List.range' (k+1) C.length).map fun i=>((i:Nat):Int))=_
  rw [ih,h0.1,Frm.scan_encs es h0.2]
  rfl
def endsC (es:List Ent):Bool:=match es.getLast? with
 |some x=>x.tag==2
 |none=>false
theorem ended_fnds (es:List Ent) (a:Nat):endedF (fnds es a)=endsC es:=by
 unfold endedF endsC
 have h:(fnds es a).getLast?.map (·.e)=es.getLast?:=by rw [← List.getLast?_map,Frm.fnds_e]
 cases hl:(fnds es a).getLast? with
 |none=>rw [hl]at h;rw [← h];rfl
 |some f=>rw [hl]at h;rw [← h];rfl
theorem split_is {ns:List Int} (hl:ns.length=C.length) (h:∀ j es,C[j]?=some es→bt (ns.getD j 0)=(mag++encs es,0)∧∀ x∈es,GoodE x):∀ i,i≤C.length →
  ∃ n,split bt ns i=(n,0)∧n≤i∧(n≠0→∃ es,C[n - 1]?=some es∧endsC es=true)∧∀ j es,n≤j→j<i→C[j]?=some es→endsC es=false
 |0,_=>⟨0,rfl,Nat.le_refl _,fun h=>absurd rfl h,fun j es h1 h2=>by omega⟩
 |i+1,hi=>by
  obtain ⟨es,he⟩:∃ es,C[i]?=some es:=⟨_,List.getElem?_eq_getElem oQ⟩
  obtain ⟨h1,h2⟩:=h i es he
  have hu:split bt ns (i+1)=if endsC es=true then (i+1,0) else split bt ns i:=by
   rw [split,h1,if_neg (by simp),Frm.scan_encs es h2]
   simp only [ended_fnds,true_and]
  rw [hu]
  cases hc:endsC es with
  |true=>exact ⟨i+1,rfl,Nat.le_refl _,fun _=>⟨es,he,hc⟩,fun j fs a b=>by omega⟩
  |false=>
   obtain ⟨n,a,b,c,d⟩:=split_is hl h i oQ
   refine ⟨n,a,by omega,c,fun j fs p q r=>?_⟩
   by_cases e:j=i
   ·subst e;rw [he]at r;cases r;exact hc
   ·exact d j fs p oQ r
theorem bad_is {ns:List Int} (h:∀ (j:Nat) (s:Int),ns[j]?=some s→∃ es,bt s=(mag++encs es,0)∧∀ x∈es,GoodE x):bad bt ns=none:=by
 induction ns with
 |nil=>rfl
 |cons s ns ih=>
  obtain ⟨es,h1,h2⟩:=h 0 s rfl
  unfold bad
  rw [h1,if_neg (by simp),Frm.scan_encs es h2]
  simp only
  rw [if_neg (by simp)]
  exact ih fun j t hj=>h (j+1) t (by simpa using hj)
theorem rowsC_mem:∀ (C:List (List Ent)) (k:Nat){r:Row},r∈rowsC k C→∃ j es,C[j]?=some es∧r.1=((k+j:Nat):Int)∧r.2∈fnds es 8
 |[],_,r,h=>by cases h
 |es::C,k,r,h=>by
  unfold rowsC at h
  rcases List.mem_append.1 h with h|h
  ·obtain ⟨f,hf,rfl⟩:=List.mem_map.1 h
   exact ⟨0,es,rfl,by simp,hf⟩
  ·obtain ⟨j,fs,h1,h2,h3⟩:=rowsC_mem C (k+1) h
   exact ⟨j+1,fs,by simpa using h1,by rw [h2];congr 1;omega,h3⟩
theorem fnds_mem:∀ (es:List Ent) (a:Nat){f:Fnd},f∈fnds es a→∃ u v,es=u++f.e::v∧f.at_=a+(encs u).length∧f.size=(Frm.encode f.e).1.length
 |[],_,f,h=>by cases h
 |x::es,a,f,h=>by
  unfold fnds at h
  rcases List.mem_cons.1 h with rfl|h
  ·exact ⟨[],es,rfl,rfl,rfl⟩
  ·obtain ⟨u,v,h1,h2,h3⟩:=fnds_mem es _ h
   refine ⟨x::u,v,by rw [h1];rfl,?_,h3⟩
   have e:encs (x::u)=(Frm.encode x).1++encs u:=rfl
   rw [h2,e,List.length_append];omega
end
end Go.Rep
namespace Go.Seg
open Go.Med
open Go.Frm (encs GoodE fnds)
section
variable {n:Nat}{M:Med}{L:Log}{C:List (List Frm.Ent)}
theorem Holds.ns (h:Holds n L M C):L.segs=(List.range' 0 C.length).map fun i=>((i:Nat):Int):=by
 obtain ⟨h1,h2⟩:=h.segs
 apply List.ext_getElem?
 intro i
 by_cases hi:i<C.length
 ·rw [h2 i hi,List.getElem?_map,List.getElem?_range' hi];simp
 ·rw [List.getElem?_eq_none oQ,List.getElem?_eq_none (by rw [List.length_map,List.length_range'];omega)]
theorem Holds.told (h:Holds n L M C):∀ j es,C[j]?=some es→L.bytes M (L.segs.getD j 0)=(mag++encs es,0)∧∀ x∈es,GoodE x:=fun j es hj=>by
 have hl:=(List.getElem?_eq_some_iff.1 hj).1
 rw [List.getD,h.segs.2 j hl]
 exact ⟨h.bytes hj,(h.good es (List.mem_of_getElem? hj)).1⟩
theorem take_nums (n i:Nat):((List.range' 0 n).map fun i=>((i:Nat):Int)).take i=(List.range' 0 (min i n)).map fun i=>((i:Nat):Int):=by
 rw [← List.map_take]
 congr 1
 apply List.ext_getElem?
 intro j
 rw [List.getElem?_take]
 by_cases h1:j<n
 ·by_cases h2:j<i
  ·rw [if_pos h2,List.getElem?_range' h1,List.getElem?_range' oQ]
  ·rw [if_neg h2,List.getElem?_eq_none (by rw [List.length_range'];omega)]
 ·rw [List.getElem?_eq_none (by rw [List.length_range'];omega),List.getElem?_eq_none (by rw [List.length_range'];omega)]
  split <;> rfl
theorem Holds.rows (h:Holds n L M C) (i:Nat):Rep.rowsOf (fun s=>L.bytes M s) (L.segs.take i)=Rep.rowsC 0 (C.take i):=by
 have e:L.segs.take i=(List.range' 0 (C.take i).length).map fun i=>((i:Nat):Int):=by
  rw [h.ns,take_nums,List.length_take]
 rw [e]
 refine Rep.rows_is (C.take i) 0 fun j es hj=>?_
 have hj':C[j]?=some es:=by
  rw [List.getElem?_take]at hj
  split at hj
  ·exact hj
  ·cases hj
 rw [Nat.zero_add]
 exact ⟨h.bytes hj',(h.good es (List.mem_of_getElem? hj')).1⟩
theorem Holds.bad (h:Holds n L M C) (i:Nat):Rep.bad (fun s=>L.bytes M s) (L.segs.take i)=none:=by
 refine Rep.bad_is fun j s hs=>?_
 have hs':L.segs[j]?=some s:=by
  rw [List.getElem?_take]at hs
  split at hs
  ·exact hs
  ·cases hs
 have hl:j<C.length:=by rw [← h.segs.1];exact (List.getElem?_eq_some_iff.1 hs').1
 have:=h.segs.2 j hl
 rw [hs']at this
 cases this
 exact ⟨_,h.bytes (List.getElem?_eq_getElem hl),(h.good _ (List.getElem_mem hl)).1⟩
theorem Holds.split (h:Holds n L M C):∃ c,Rep.split (fun s=>L.bytes M s) L.segs L.segs.length=(c,0)∧c≤C.length∧(c≠0→∃ es,C[c - 1]?=some es∧Rep.endsC es=true)∧∀ j es,c≤j→C[j]?=some es→Rep.endsC es=false:=by
 rw [h.segs.1]
 obtain ⟨c,h1,h2,h3,h4⟩:=Rep.split_is h.segs.1 h.told C.length (Nat.le_refl _)
 exact ⟨c,h1,h2,h3,fun j es a b=>h4 j es a (List.getElem?_eq_some_iff.1 b).1 b⟩
theorem Holds.run (h:Holds n L M C):∃ c,Rep.run (fun s=>L.bytes M s) L.segs = .inr c∧c≤C.length∧(c≠0→∃ es,C[c - 1]?=some es∧Rep.endsC es=true)∧∀ j es,c≤j→C[j]?=some es→Rep.endsC es=false:=by
 obtain ⟨c,h1,h2⟩:=h.split
 refine ⟨c,?_,h2⟩
 unfold Rep.run
 rw [h1,if_neg (by simp)]
 exact Rep.runAt_none (h.bad c)
end
end Go.Seg
namespace Go.Seg
open Go.Med
open Go.Frm (encs GoodE fnds Ent)
def toE (d:Ent):Ent:=if d.tag=0 then ⟨0,d.key,d.data⟩ else if d.tag=1 then ⟨1,d.key,[]⟩ else comEnt
def isPut (d:Ent):Prop:=d.tag=0∨d.tag=1
instance (d:Ent):Decidable (isPut d):=by unfold isPut;infer_instance
structure Pl (n:Nat) (ds:List Ent) (L:Log) (M:Med) (C:List (List Ent)):Prop where
 holds:Holds n L M C
 tail:Tail L.on C
 flat:C.flatten=ds.map toE
 small:∀ x∈C.flatten,x.data.length≤300
section
variable {n:Nat}{ds:List Ent}{L:Log}{M:Med}{C C0:List (List Ent)}{d:Ent}
end
end Go.Seg
namespace Go.Proofs.YtlinnpehkfbnkaaGreatDoor
open Go Go.Sl Go.Med Go.MapKept Go.RowKit
section
variable {P:Program}{d:Nat}{xs:Array Value}
theorem eqF_self:∀ (fs:List Field),(∀ f∈fs,∃ a,(∀ w,(part f.type xs f.offset).run P w = .ok a w)∧∀ w,(Op.equalIn d f.type a a).run P w = .ok true w)→∀ w,(Op.eqFields d xs xs fs).run P w = .ok true w
 |[],_,w=>by simp [Op.eqFields]
 |f::fs,h,w=>by
  obtain ⟨a,h1,h2⟩:=h f (.head _)
  have ih:=eqF_self fs (fun g hg=>h g (.tail _ hg)) w
  unfold Op.eqFields
  split
  ·simp only [Sem.run_bind,h1,h2,Result.andThen_ok,Bool.not_true,Bool.false_eq_true,if_false,ih]
  ·exact ih
theorem eqS_self (T:TypeId) (l:List (TypeId×Nat)) (ht:P.underlying T=some (.struct (P.fieldsOf T))) (hp:P.stoodInHeld T=false) (hl:((P.fieldsOf T).toList.map fun f=>(f.type,f.offset))=l)
  (h:∀ q∈l,∃ a,(∀ w,(part q.1 xs q.2).run P w = .ok a w)∧∀ w,(Op.equalIn d q.1 a a).run P w = .ok true w) (w:World):(Op.equalIn (d+1) T (.agg xs) (.agg xs)).run P w = .ok true w:=by
 rw [run_equalIn_struct w d T xs xs ht hp]
 refine eqF_self _ (fun f hf=>?_) w
 exact h (f.type,f.offset) (by rw [← hl];exact List.mem_map.2 ⟨f,hf,rfl⟩)
theorem part_int {e:TypeId}{k:IntKind} (he:P.underlying e=some (.int k)) (i:Nat) (z:Int) (hv:xs[i]?=some (.int k z)):∃ a,(∀ w,(part e xs i).run P w = .ok a w)∧∀ w,(Op.equalIn (d+1) e a a).run P w = .ok true w:=
 ⟨_,fun w=>run_part_int he xs i _ hv w,fun w=>by rw [run_equalIn_int w d e k k z z he];simp⟩
theorem part_row {e:TypeId}{i:TypeInfo}{dd:TypeDesc} (he:P.underlying e=some dd) (hd:(match dd with | .struct _ | .array _ _=>true|_=>false)=true) (hi:P.info? e=some i) (off:Nat) (w:World):(part e xs off).run P w = .ok (.agg (xs.extract off (off+i.size))) w:=by
 have hc:P.cellsOf e=i.size:=by unfold Program.cellsOf;simp [hi]
 unfold part isAgg
 cases dd <;> simp_all [Sem.run_bind,run_underlying he,run_sizeOf w hi]
end
set_option maxRecDepth 20000 in
theorem eqIn_keyD (d:Nat) (k:Frm.Bs) (hk:k.length=32) (w:World):(Op.equalIn (d+2) 24 (.agg (bys k).toArray) (.agg (bys k).toArray)).run Tryz.prog w = .ok true w:=by
 obtain ⟨i,hi,_⟩:=info8p
 have h:=run_equalIn_array (P:=Tryz.prog) w (d+1) (bys k).toArray (bys k).toArray (t:=24) Tryz.underlying24 hi
 rw [bys_ints,show Tryz.prog.cellsOf 5=1 from by kernel_rfl,run_eqItems_int d (P:=Tryz.prog) Tryz.underlying5 _ _ (List.range 32) (fun i hi=>by have:=List.mem_range.1 hi;simp;omega)]at h
 rw [bys_ints,h]
 simp
theorem info_id:∃ i:TypeInfo,Tryz.prog.info? 24=some i∧i.size=32:=by
 have h:(Tryz.prog.info? 24).map (·.size)=some 32:=by kernel_rfl
 cases hq:Tryz.prog.info? 24 with
 |none=>rw [hq]at h;cases h
 |some i=>rw [hq]at h;exact ⟨i,rfl,by simpa using h⟩
theorem info_plc:∃ i:TypeInfo,Tryz.prog.info? 54=some i∧i.size=3:=by
 have h:(Tryz.prog.info? 54).map (·.size)=some 3:=by kernel_rfl
 cases hq:Tryz.prog.info? 54 with
 |none=>rw [hq]at h;cases h
 |some i=>rw [hq]at h;exact ⟨i,rfl,by simpa using h⟩
theorem part_key {xs:Array Value}{d:Nat} (off:Nat) (k:Frm.Bs) (hk:k.length=32) (hx:xs.extract off (off+32)=(bys k).toArray):∃ a,(∀ w,(part 24 xs off).run Tryz.prog w = .ok a w)∧∀ w,(Op.equalIn (d+2) 24 a a).run Tryz.prog w = .ok true w:=by
 obtain ⟨i,hi,hs⟩:=info_id
 exact ⟨.agg (bys k).toArray,fun w=>by rw [part_row Tryz.underlying24 rfl hi off w,hs,hx],fun w=>eqIn_keyD d k hk w⟩
theorem eqIn_use (a b c:Int) (w:World):(Op.equalIn 10000 121 (.agg #[.int .i64 a,.int .i64 b,.int .i64 c]) (.agg #[.int .i64 a,.int .i64 b,.int .i64 c])).run Tryz.prog w = .ok true w:=by
 refine eqS_self (d:=9999) 121 [(3,0),(3,1),(3,2)] kRz kRz kRz (fun q hq=>?_) w
 simp only [List.mem_cons,List.not_mem_nil,or_false]at hq
 rcases hq with rfl|rfl|rfl
 ·exact part_int Tryz.underlying3 0 a rfl
 ·exact part_int Tryz.underlying3 1 b rfl
 ·exact part_int Tryz.underlying3 2 c rfl
theorem eqIn_plc (d:Nat) (q:Seg.Plc) (w:World):(Op.equalIn (d+2) 54 (.agg (penc q).toArray) (.agg (penc q).toArray)).run Tryz.prog w = .ok true w:=by
 refine eqS_self (d:=d+1) 54 [(3,0),(3,1),(3,2)] kRz kRz kRz (fun q hq=>?_) w
 simp only [List.mem_cons,List.not_mem_nil,or_false]at hq
 rcases hq with rfl|rfl|rfl
 ·exact part_int Tryz.underlying3 0 _ rfl
 ·exact part_int Tryz.underlying3 1 _ rfl
 ·exact part_int Tryz.underlying3 2 _ rfl
theorem kv_key (q:Frm.Bs×Seg.Plc) (hk:q.1.length=32):(kvL q).toArray.extract 0 (0+32)=(bys q.1).toArray:=by
 apply Array.toList_inj.1
 rw [Array.toList_extract,List.toList_toArray,List.toList_toArray]
 unfold kvL
 simp only [List.extract,List.drop_zero,Nat.zero_add,Nat.sub_zero]
 rw [List.take_append_of_le_length (by rw [bys_len];omega),List.take_of_length_le (by rw [bys_len];omega)]
theorem kv_plc (q:Frm.Bs×Seg.Plc) (hk:q.1.length=32):(kvL q).toArray.extract 32 (32+3)=(penc q.2).toArray:=by
 apply Array.toList_inj.1
 rw [Array.toList_extract,List.toList_toArray,List.toList_toArray]
 unfold kvL
 simp only [List.extract]
 rw [List.drop_append,List.drop_of_length_le (by rw [bys_len];omega),bys_len,hk,List.nil_append]
 rfl
theorem eqIn_kv (q:Frm.Bs×Seg.Plc) (hk:q.1.length=32) (w:World):(Op.equalIn 10000 149 (.agg (kvL q).toArray) (.agg (kvL q).toArray)).run Tryz.prog w = .ok true w:=by
 refine eqS_self (d:=9999) 149 [(24,0),(54,32)] kRz kRz kRz (fun x hx=>?_) w
 simp only [List.mem_cons,List.not_mem_nil,or_false]at hx
 rcases hx with rfl|rfl
 ·exact part_key 0 q.1 hk (kv_key q hk)
 ·obtain ⟨i,hi,hs⟩:=info_plc
  exact ⟨.agg (penc q.2).toArray,fun w=>by rw [part_row Tryz.underlying54 rfl hi 32 w,hs,kv_plc q hk],fun w=>eqIn_plc 9997 q.2 w⟩
section
variable {P:Program}{T:TypeId}{cs:Array Value}
theorem neq_self (h:∀ w,(Op.equalIn 10000 T (.agg cs) (.agg cs)).run P w = .ok true w) (w:World):(binOp .neq T (.agg cs) (.agg cs)).run P w = .ok (.bool false) w:=by
 rw [run_neq_struct,h];rfl
end
end Go.Proofs.YtlinnpehkfbnkaaGreatDoor
namespace Go.Frm
end Go.Frm
namespace Go.Proofs.YtlinnpehkfbnkaaGreatDoor
open Go Go.Sl Go.Med Go.MapKept Go.RowKit
section
variable {w0 w:World}{F:List HProp}{av bv v:Value}
set_option maxRecDepth 20000 in
theorem sameIndex_c (l:List (Bs×Seg.Plc)) (hk:∀ q∈l,q.1.length=32) (ha:Ro w0 F (rdsl 35 av (l.flatMap kvL))) (hb:Ro w0 F (rdsl 35 bv (l.flatMap kvL))) (h:Sat w0 w F) (hlen:l.length≤1073741824) :
  Calls Tryz.prog 25 #[av,bv] w (Rtn fun v w'=>v = .bool true∧Sat w0 w' F):=by
 have Hkl:=uQ (show ∀ q∈l,(kvL q).length=35 from fun q hq=>kvL_len q (hk q hq))
 obtain ⟨aa,ac,rfl⟩:=osl_rows Hkl.out (ha w h) dCz
 obtain ⟨ba,bc,rfl⟩:=osl_rows Hkl.out (hb w h) dCz
 have Ha:=uQ ha;have Hb:=uQ hb;have Hk:=uQ hk;have Hlen:=uQ hlen
 clear ha hb hk hlen
 go_enter Tryz.func25,Tryz.ntmps25
 go_wp2_with fail
 go_loopg [5] l.length (fun g iq wr=>∃ i:Nat,g=l.length - i∧i≤l.length∧iq = .int .i64 i∧Sat w0 wr F)
 case atStart=>exact ⟨0,rfl,Nat.zero_le _,rfl,h⟩
 case round=>
  obtain ⟨i,rfl,hiN,rfl,hS⟩:=hrel
  clear h
  by_cases hi:i<l.length
  ·have hic:(i:Int)<(l.length:Int):=by omega
   have hwi:IntKind.i64.wrap ((i:Int)+1)=(i:Int)+1:=IntWalk.i64_in _ (by have:=Hlen.out;omega)
   obtain ⟨q,hq⟩:∃ q,l[i]?=some q:=⟨_,List.getElem?_eq_getElem hi⟩
   have hS1:=hS.drew
   obtain ⟨bk,off,c',e1,d1⟩:=osl_row Hkl.out (Ha.out _ hS1) hq dCz
   obtain ⟨bk2,off2,c2',e2,d2⟩:=osl_row Hkl.out (Hb.out _ hS1) hq dCz
   cases e1;cases e2
   have Hqk:=uQ (Hk.out q (List.mem_of_getElem? hq))
   have Hql:=uQ (Hkl.out q (List.mem_of_getElem? hq))
   have Hi:=uQ hi
   clear hq hi hiN
   go_wp2_with fail
   refine wpL_begin [8] (fun w'=>w'.rangeAt bk (off+i * 35) (kvL q)∧w'.rangeAt bk2 (off2+i * 35) (kvL q)) kRz ?_
   have hG:World.rangeAt _ bk (off+i * 35) (kvL q)∧World.rangeAt _ bk2 (off2+i * 35) (kvL q):=And.intro d1 d2
   refine rP 0 ?_ (y:=mvQ)
   refine rP 1 ?_ (y:=mvQ)
   refine rP 2 ?_ (y:=ixQ)
   refine rg_take 3 evD kRz i3z (tk_loadN (b:=bk) (o:=off+i * 35) (kvL q) rFz Tryz.underlying149 rfl (by rw [Hql.out];kernel_rfl) (fun w hw=>hw.1)) aQ gQ ?_
   refine rP 4 ?_ (y:=mvQ)
   refine rP 5 ?_ (y:=mvQ)
   refine rP 6 ?_ (y:=ixQ)
   refine rg_take 7 evD kRz i3z (tk_loadN (b:=bk2) (o:=off2+i * 35) (kvL q) rFz Tryz.underlying149 rfl (by rw [Hql.out];kernel_rfl) (fun w hw=>hw.2)) aQ gQ ?_
   clear hG d1 d2
   refine rg_pure 8 evD kRz i3z (yl_bin evD evD (fun w=>by
    have:=neq_self (eqIn_kv q Hqk.out) w
    simp [eqGuard,Sem.run_bind,this];rfl)) gQ ?_
   refine wpL_done kRz ?_
   try simp only [ayQ]
   try go_frame
   go_wp2_with fail
   go_roundg (l.length - (i+1))
   case measure=>have:=Hi.out;omega
   case rel=>exact ⟨i+1,rfl,Nat.succ_le_of_lt Hi.out,by first|rfl|go_num,hS1⟩
  ·obtain rfl:i=l.length:=by omega
   have hic:¬ (l.length:Int)<(l.length:Int):=oQ
   clear hi hiN
   go_wp2_with fail
   go_ret
   exact ⟨.bool true,rfl,rfl,hS⟩
set_option maxRecDepth 20000 in
theorem sameUses_c (l:List Rep.Use) (ha:Ro w0 F (rdsl 3 av (l.flatMap uenc))) (hb:Ro w0 F (rdsl 3 bv (l.flatMap uenc))) (h:Sat w0 w F) (hlen:l.length≤1073741824) :
  Calls Tryz.prog 27 #[av,bv] w (Rtn fun v w'=>v = .bool true∧Sat w0 w' F):=by
 have Hkl:=uQ (show ∀ q∈l,(uenc q).length=3 from fun q hq=>uenc_len q)
 obtain ⟨aa,ac,rfl⟩:=osl_rows Hkl.out (ha w h) dCz
 obtain ⟨ba,bc,rfl⟩:=osl_rows Hkl.out (hb w h) dCz
 have Ha:=uQ ha;have Hb:=uQ hb;have Hlen:=uQ hlen
 clear ha hb hlen
 go_enter Tryz.func27,Tryz.ntmps27
 go_wp2_with fail
 go_loopg [5] l.length (fun g iq wr=>∃ i:Nat,g=l.length - i∧i≤l.length∧iq = .int .i64 i∧Sat w0 wr F)
 case atStart=>exact ⟨0,rfl,Nat.zero_le _,rfl,h⟩
 case round=>
  obtain ⟨i,rfl,hiN,rfl,hS⟩:=hrel
  clear h
  by_cases hi:i<l.length
  ·have hic:(i:Int)<(l.length:Int):=by omega
   have hwi:IntKind.i64.wrap ((i:Int)+1)=(i:Int)+1:=IntWalk.i64_in _ (by have:=Hlen.out;omega)
   obtain ⟨q,hq⟩:∃ q,l[i]?=some q:=⟨_,List.getElem?_eq_getElem hi⟩
   have hS1:=hS.drew
   obtain ⟨bk,off,c',e1,d1⟩:=osl_row Hkl.out (Ha.out _ hS1) hq dCz
   obtain ⟨bk2,off2,c2',e2,d2⟩:=osl_row Hkl.out (Hb.out _ hS1) hq dCz
   cases e1;cases e2
   have Hi:=uQ hi
   clear hq hi hiN
   go_wp2_with fail
   refine wpL_begin [8] (fun w'=>w'.rangeAt bk (off+i * 3) (uenc q)∧w'.rangeAt bk2 (off2+i * 3) (uenc q)) kRz ?_
   have hG:World.rangeAt _ bk (off+i * 3) (uenc q)∧World.rangeAt _ bk2 (off2+i * 3) (uenc q):=And.intro d1 d2
   refine rP 0 ?_ (y:=mvQ)
   refine rP 1 ?_ (y:=mvQ)
   refine rP 2 ?_ (y:=ixQ)
   refine rg_take 3 evD kRz i3z (tk_loadN (b:=bk) (o:=off+i * 3) (uenc q) rFz Tryz.underlying121 rfl kRz (fun w hw=>hw.1)) aQ gQ ?_
   refine rP 4 ?_ (y:=mvQ)
   refine rP 5 ?_ (y:=mvQ)
   refine rP 6 ?_ (y:=ixQ)
   refine rg_take 7 evD kRz i3z (tk_loadN (b:=bk2) (o:=off2+i * 3) (uenc q) rFz Tryz.underlying121 rfl kRz (fun w hw=>hw.2)) aQ gQ ?_
   clear hG d1 d2
   refine rg_pure 8 evD kRz i3z (yl_bin evD evD (fun w=>by
    have:=neq_self (eqIn_use q.seg q.size q.live) w
    unfold uenc
    simp [eqGuard,Sem.run_bind,this];rfl)) gQ ?_
   refine wpL_done kRz ?_
   try simp only [ayQ]
   try go_frame
   go_wp2_with fail
   go_roundg (l.length - (i+1))
   case measure=>have:=Hi.out;omega
   case rel=>exact ⟨i+1,rfl,Nat.succ_le_of_lt Hi.out,by first|rfl|go_num,hS1⟩
  ·obtain rfl:i=l.length:=by omega
   have hic:¬ (l.length:Int)<(l.length:Int):=oQ
   clear hi hiN
   go_wp2_with fail
   go_ret
   exact ⟨.bool true,rfl,rfl,hS⟩
end
end Go.Proofs.YtlinnpehkfbnkaaGreatDoor
namespace Go.Rep
open Go.Frm (Bs Fnd)
open Go.Seg (Plc)
open Go.Tab
def hit (k:Bs) (r:Row):Bool:=decide (rtag r<2) && decide (rkey r=k)
section
variable {l:List Row}{k:Bs}{i:Nat}{r:Row}
end
section
variable {V:Type}
variable {l:List (Bs×V)}{x y:Bs×V}{i:Nat}
end
section
variable {l:List Row}{us:List Use}{i k:Nat}{r:Row}{u:Use}
end
end Go.Rep
namespace Go.Seg
open Go.Med
structure Fit (K:Nat) (D:Med):Prop where
 ok:D.Ok K
 small:D.Small
 files:D.files.length≤500+K
section
variable {φ:Nat→Nat}{V:Nat→Prop}{M D:Med}{K:Nat}{L:Log}
end
end Go.Seg
namespace Go.Proofs.YtlinnpehkfbnkaaGreatDoor
open Go Go.Sl Go.Med Go.MapKept Go.RowKit
section
variable {P:Program}{w0 w:World}{L L':List HProp}{b o:Nat}{ops:Array Oper}{a:Act}{Q:Exit→Act→World→Prop}{dst:Option Tmp}{t ty T:TypeId}{pos:String}{after:Array Edge}{x y:Operand}{cs:Array Value}{v:Value}{K:Act→World→Prop}{E:Prop}
end
section
variable {w0 w:World}{F R:List HProp}{d i:Nat}{D:Med}{fsv fv nv wv v lv bv:Value}{xs:List RF}{x:RF}{g:Bag}{K:Nat}
section
variable {P:Program}{b o:Nat}{ops:Array Oper}{rest:List Oper}{a:Act}{Q:Exit→Act→World→Prop}{dst:Option Tmp}{t ty:Nat}{pos:String}{after:Array Edge}{y:Operand}
theorem wl_loadC (hx:a.eval y = .pointer (some ⟨b,o,none⟩)) (h1:oneB P ty=true) (hc:w.cell? ⟨b,o,none⟩=some v)
  (h:wpList P ops Q rest (a.put dst v) w):wpList P ops Q (⟨dst,.load ty y,t,pos,after,none⟩::rest) a w:=
 wpList_plain rfl fun _ hK=>by
  unfold Oper.wp execOp
  simp only [hx,Instr.loadAt,Instr.sureAddr,Sem.run_bind,Sem.run_pure,Result.andThen_ok,run_load1 h1 hc]
  exact hK _ _ h
end
end
end Go.Proofs.YtlinnpehkfbnkaaGreatDoor
namespace Go.Seg
open Go.Med
section
variable {φ:Nat→Nat}{V:Nat→Prop}{M D:Med}{K:Nat}{L:Log}
end
structure Two (i:Nat) (L:Log) (M D:Med):Prop where
 log:L.Ok
 ok:M.Ok (i * 2000)
 fit:Fit (i * 2000) D
 side:∃ φ V,Side φ V M D
 fresh:L.fresh≤i
section
variable {i:Nat}{M D:Med}{L:Log}
end
def Log.drop (t:List Int):Nat→Log→Med→(Log×Med)×Int
 |0,L,M=>if t=[] then ((L,M),0) else ((L,M.syncDir.1),M.syncDir.2)
 |k+1,L,M=>if (L.remove M (t.getD k 0)).2=0 then Log.drop t k (L.remove M (t.getD k 0)).1.1 (L.remove M (t.getD k 0)).1.2 else L.remove M (t.getD k 0)
section
variable {t:List Int}{L:Log}{M D:Med}{K i:Nat}
end
section
variable {i j K:Nat}{M D:Med}
end
section
variable {i n c K:Nat}{L:Log}{M D:Med}
theorem segs_rise (h:L.Ok):L.segs.Pairwise (· < ·):=h.rise
theorem segs_pos (h:L.Ok):∀ s∈L.segs,0≤s:=fun s hs=>by
 unfold Log.segs at hs
 obtain ⟨x,hx,rfl⟩:=List.mem_map.1 hs
 exact (h.nums x hx).1
theorem rows_ok (h:L.Ok) (M:Med) (n:Nat):Rep.Rows (Rep.rowsOf (fun s=>L.bytes M s) (L.segs.take n)):=
 Rep.rowsOf_rows ((segs_rise h).sublist (List.take_sublist _ _)) fun s hs=>segs_pos h s (List.mem_of_mem_take hs)
end
end Go.Seg
namespace Go.Proofs.YtlinnpehkfbnkaaGreatDoor
open Go Go.Sl Go.Med Go.ChangeShapes Go.WideShapes Go.RowKit
section
variable {H:Type}{enc:TypeId×Value→H}{W:World}{base:Nat}{spare:Nat→Bool}{held:Bool}
theorem open_key {t:TypeId}{fuel:Nat}{cs:List Value}{x:DataW H×List MemPlace}{k:Nat} (ht:Tryz.prog.underlying t=some (.array k 5)) (hk:Tryz.prog.cellsOf t=k) (h:DataW.trod enc Tryz.prog W base spare held fuel t cs=some x) :
  ∃ l:Bs,bys l=cs∧l.length=k:=by
 obtain ⟨xs,m,_,_,hl,hxl,hf⟩:=DataW.trod_array ht h
 have e1:Tryz.prog.cellsOf 5=1:=by kernel_rfl
 rw [hk]at hl
 have hz:∀ i,i<k→∃ z:Int,cs[i]?=some (.int .u8 z)∧(Lit.int .u8 z).wf=true:=by
  intro i hi
  have h0:=hf i hi
  rw [List.getElem?_eq_getElem oQ,e1,Nat.mul_one]at h0
  obtain ⟨z,q1,_,q3⟩:=DataW.trod_int Tryz.underlying5 h0
  refine ⟨z,?_,q3⟩
  have:((cs.drop i).take 1)[0]?=some (.int .u8 z):=by rw [q1];rfl
  rw [List.getElem?_take,if_pos dCz,List.getElem?_drop]at this
  exact this
 obtain ⟨zs,z1,z2⟩:=list_of_fun hz
 have hcs:cs=zs.map (.int .u8):=by
  apply List.ext_getElem?
  intro i
  rw [List.getElem?_map]
  by_cases hi:i<k
  ·have:=(z2 i _ (List.getElem?_eq_getElem oQ)).1
   rw [this,List.getElem?_eq_getElem (show i<zs.length by omega)];rfl
  ·rw [List.getElem?_eq_none oQ,List.getElem?_eq_none oQ];rfl
 refine ⟨toBs zs,?_,by unfold toBs;rw [List.length_map];exact z1⟩
 rw [bys_toBs,hcs]
 intro z hz
 obtain ⟨i,hi,rfl⟩:=List.getElem_of_mem hz
 exact (z2 i _ (List.getElem?_eq_getElem hi)).2
structure EntAt (W:World) (p:Frm.Ent×Value):Prop where
 key:p.1.key.length=32
 tag:inI p.1.tag
 rd:rdsl 1 p.2 (bys p.1.data) W
 cap:capOk p.2
set_option maxRecDepth 100000 in
theorem open_ent {fuel:Nat}{cs:List Value}{x:DataW H×List MemPlace} (h:DataW.trod enc Tryz.prog W base spare held fuel 27 cs=some x):∃ p:Frm.Ent×Value,entL p.1 p.2=cs∧EntAt W p:=by
 obtain ⟨hl,hf⟩:=open_fields Tryz.underlying27 h
 have e34:Tryz.prog.cellsOf 27=34:=by kernel_rfl
 have e1:Tryz.prog.cellsOf 3=1:=by kernel_rfl
 have e2:Tryz.prog.cellsOf 24=32:=by kernel_rfl
 have e3:Tryz.prog.cellsOf 25=1:=by kernel_rfl
 have e5:Tryz.prog.cellsOf 5=1:=by kernel_rfl
 rw [e34]at hl
 obtain ⟨n0,y0,h0⟩:=hf 0 _ rfl
 obtain ⟨n1,y1,h1⟩:=hf 1 _ rfl
 obtain ⟨n2,y2,h2⟩:=hf 2 _ rfl
 simp only [List.getElem_toArray,List.getElem_cons_zero,List.getElem_cons_succ,e1,e2,e3,List.drop_zero]at h0 h1 h2
 obtain ⟨z0,q0,_,w0⟩:=DataW.trod_int Tryz.underlying3 h0
 obtain ⟨kl,k1,k2⟩:=open_key Tryz.underlying24 e2 h1
 have hd:∃ v,(cs.drop 33).take 1=[v]:=by
  have:((cs.drop 33).take 1).length=1:=by rw [List.length_take,List.length_drop];omega
  exact List.length_eq_one_iff.1 this
 obtain ⟨dv,hdv⟩:=hd
 rw [hdv]at h2
 obtain ⟨l5,r5,c5⟩:=in_bys Tryz.underlying25 Tryz.underlying5 e5 h2
 refine ⟨(⟨z0,kl,l5⟩,dv),?_,k2,bounds_i64 w0,r5,c5⟩
 show Value.int .i64 z0::(bys kl++[dv])=cs
 have s1:cs=cs.take 1++((cs.drop 1).take 32++(cs.drop 33).take 1):=by
  have a1:cs=cs.take 1++cs.drop 1:=(List.take_append_drop 1 cs).symm
  have a2:cs.drop 1=(cs.drop 1).take 32++(cs.drop 1).drop 32:=(List.take_append_drop 32 _).symm
  have a3:(cs.drop 1).drop 32=(cs.drop 33).take 1:=by rw [List.drop_drop,List.take_of_length_le (by rw [List.length_drop];omega)]
  rw [a3]at a2
  rw [← a2];exact a1
 rw [s1,q0,← k1,hdv];rfl
set_option maxRecDepth 100000 in
theorem open_plc {fuel:Nat}{cs:List Value}{x:DataW H×List MemPlace} (h:DataW.trod enc Tryz.prog W base spare held fuel 54 cs=some x):∃ a b c:Int,cs=[.int .i64 a,.int .i64 b,.int .i64 c]∧inI a∧inI b∧inI c:=by
 obtain ⟨hl,hf⟩:=open_fields Tryz.underlying54 h
 have e3:Tryz.prog.cellsOf 54=3:=by kernel_rfl
 have e1:Tryz.prog.cellsOf 3=1:=by kernel_rfl
 rw [e3]at hl
 match cs,hl with
 |[v0,v1,v2],_=>
  obtain ⟨n0,y0,h0⟩:=hf 0 _ rfl
  obtain ⟨n1,y1,h1⟩:=hf 1 _ rfl
  obtain ⟨n2,y2,h2⟩:=hf 2 _ rfl
  simp only [List.getElem_toArray,List.getElem_cons_zero,List.getElem_cons_succ,e1,List.drop_zero,List.drop_succ_cons,List.take_succ_cons,List.take_zero]at h0 h1 h2
  obtain ⟨z0,q0,_,w0⟩:=DataW.trod_int Tryz.underlying3 h0
  obtain ⟨z1,q1,_,w1⟩:=DataW.trod_int Tryz.underlying3 h1
  obtain ⟨z2,q2,_,w2⟩:=DataW.trod_int Tryz.underlying3 h2
  simp only [List.cons.injEq,and_true]at q0 q1 q2
  subst q0;subst q1;subst q2
  exact ⟨z0,z1,z2,rfl,bounds_i64 w0,bounds_i64 w1,bounds_i64 w2⟩
end
structure PC where
 n:Int
 es:List (Frm.Ent×Value)
 ev:Value
 rest:Bs
 rv:Value
 bad:Bool
 at_:Int
 plain:Bool
structure PC.At (W:World) (d:PC):Prop where
 n:inI d.n
 rd:rdsl 34 d.ev (entsL d.es) W
 cap:capOk d.ev
 ents:∀ p∈d.es,EntAt W p
 rr:rdsl 1 d.rv (bys d.rest) W
 rc:capOk d.rv
 at_:inI d.at_
section
variable {H:Type}{enc:TypeId×Value→H}{W:World}{base:Nat}{spare:Nat→Bool}{held:Bool}
end
end Go.Proofs.YtlinnpehkfbnkaaGreatDoor
namespace Go.Rep
open Go.Frm (Bs Fnd Ent fnds encs GoodE)
open Go.Seg (Plc mag)
open Go.Tab
def segSum (l:List Row) (s:Int):Int:=(l.map fun r=>if r.1=s then (r.2.size:Int) else 0).sum
theorem segSum_app (a b:List Row) (s:Int):segSum (a++b) s=segSum a s+segSum b s:=by unfold segSum;rw [List.map_append,List.sum_append]
theorem live_seg {l:List Row} (s:Int):∀ i,i≤l.length→0≤live l s i∧live l s i≤segSum (l.take i) s
 |0,_=>⟨Int.le_refl 0,by simp [live,segSum]⟩
 |i+1,hi=>by
  have ih:=live_seg (l:=l) s i oQ
  obtain ⟨r,hr⟩:∃ r,l[i]?=some r:=⟨_,List.getElem?_eq_getElem oQ⟩
  rw [List.take_add_one,hr,Option.toList_some,segSum_app]
  have e:segSum [r] s=if r.1=s then (r.2.size:Int) else 0:=by unfold segSum;simp
  rw [e]
  unfold live
  rw [hr]
  simp only
  by_cases h:r.1=s
  ·rw [if_pos h]
   split <;> omega
  ·rw [if_neg h,if_neg (fun hh=>h hh.2)];omega
theorem fnds_sum:∀ (es:List Ent) (a:Nat),((fnds es a).map fun f=>(f.size:Int)).sum=(encs es).length
 |[],_=>rfl
 |x::es,a=>by
  have e:encs (x::es)=(Frm.encode x).1++encs es:=rfl
  unfold fnds
  rw [List.map_cons,List.sum_cons,fnds_sum es,e,List.length_append];simp
theorem segSum_row (l:List Fnd) (k s:Int):segSum (l.map fun f=>(k,f)) s=if k=s then (l.map fun f=>(f.size:Int)).sum else 0:=by
 unfold segSum
 rw [List.map_map]
 by_cases h:k=s
 ·rw [if_pos h]
  congr 1
  refine List.map_congr_left fun f _=>?_
  simp [h]
 ·rw [if_neg h]
  induction l with
  |nil=>rfl
  |cons f l ih=>rw [List.map_cons,List.sum_cons,ih];simp [h]
theorem segSum_lt:∀ (C:List (List Ent)) (k:Nat) (s:Int),s<k→segSum (rowsC k C) s=0
 |[],_,_,_=>rfl
 |es::C,k,s,h=>by
  unfold rowsC
  rw [segSum_app,segSum_lt C (k+1) s oQ,segSum_row,if_neg oQ];rfl
theorem segSum_is:∀ (C:List (List Ent)) (k j:Nat) (es:List Ent),C[j]?=some es→segSum (rowsC k C) ((k+j:Nat):Int)=(encs es).length
 |[],_,_,_,h=>by simp at h
 |fs::C,k,0,es,h=>by
  obtain rfl:fs=es:=by simpa using h
  unfold rowsC
  rw [segSum_app,segSum_lt C (k+1) _ oQ,segSum_row,if_pos (by simp),fnds_sum];simp
 |fs::C,k,j+1,es,h=>by
  unfold rowsC
  rw [segSum_app,segSum_row,if_neg oQ]
  have:=segSum_is C (k+1) j es (by simpa using h)
  rw [show k+(j+1)=k+1+j by omega,this];simp
theorem newest_some:∀ {l:List Row}{k:Bs}{r:Row},newest l k=some r→r∈l∧rtag r≠2∧rkey r=k
 |[],_,_,h=>by cases h
 |x::l,k,r,h=>by
  unfold newest at h
  split at h
  ·rename_i y hy
   cases h
   obtain ⟨h1,h2⟩:=newest_some hy
   exact ⟨.tail _ h1,h2⟩
  ·split at h
   ·rename_i hh
    cases h
    exact ⟨.head _,hh⟩
   ·cases h
end Go.Rep
namespace Go.Seg
open Go.Med
open Go.Frm (Bs Fnd encs GoodE fnds Ent)
open Go.Rep
section
variable {n:Nat}{ds:List Ent}{L:Log}{M:Med}{C:List (List Ent)}{c:Nat}
end
section
variable {n n2:Nat}{ds ps:List Ent}{L L2:Log}{M M2:Med}{C C0 C2:List (List Ent)}{c c2:Nat}{d:Ent}
structure Same (L L2:Log) (M M2:Med) (c c2:Nat):Prop where
 one:c=L.segs.length
 two:c2=L.segs.length
 segs:L2.segs.take c2=L.segs.take c
 rows:rowsOf (fun s=>L2.bytes M2 s) (L2.segs.take c2)=rowsOf (fun s=>L.bytes M s) (L.segs.take c)
 uses:usesOf (fun s=>L2.bytes M2 s) (L2.segs.take c2)=usesOf (fun s=>L.bytes M s) (L.segs.take c)
 le:L.segs.length≤L2.segs.length
end
end Go.Seg
namespace Go.Seg
open Go.Med
open Go.Frm (encs GoodE fnds Ent)
def AllBut (o:Option ByteArray) (M:Med):Prop:=∀ p∈M.now,FFlat (M.file p.2)∨some p.1=o
section
variable {o:Option ByteArray}{M:Med}{L:Log}{s:ByteArray}{i K r:Nat}
theorem AllBut.more (h:AllBut none M) (o:Option ByteArray):AllBut o M:=fun p hp=> .inl ((h p hp).resolve_right (by simp))
theorem AllBut.append (h:AllBut (some s) M) (c:Calm K r M) (b:Bs):AllBut (some s) (M.append s b).1:=by
 rcases append_cases c.quiet s b with ⟨_,e⟩|⟨j,hj,⟨_,e⟩|⟨_,e⟩⟩
 ·rw [e];exact h
 ·rw [e];exact h
 ·rw [e]
  intro p hp
  have hp':p∈M.now:=hp
  by_cases hps:p.1=s
  ·exact .inr (by rw [hps])
  ·refine .inl ?_
   have hlt:j<M.files.length:=c.ok.nowOk.ids _ (nget_mem hj)
   show FFlat ((M.setFile j _).file p.2)
   rw [file_set hlt,if_neg (fun e=>hps (dst_inj c hj (by
    have:nget M.now p.1=some p.2:=nget_of_mem c.ok.nowOk.srt.keys hp'
    rw [this,e])))]
   exact (h p hp').resolve_right (fun e=>hps (Option.some.inj e))
theorem AllBut.sync (h:AllBut (some s) M) (c:Calm K r M) (hi:nget M.now s=some i):AllBut none (M.sync s).1:=by
 rw [c.quiet.sync_eq hi]
 intro p hp
 have hp':p∈M.now:=hp
 have hlt:i<M.files.length:=c.ok.nowOk.ids _ (nget_mem hi)
 refine .inl ?_
 show FFlat ((M.setFile i _).file p.2)
 rw [file_set hlt]
 split
 ·exact ⟨rfl,rfl⟩
 ·rename_i hne
  refine (h p hp').resolve_right fun e=>hne ?_
  have:nget M.now p.1=some p.2:=nget_of_mem c.ok.nowOk.srt.keys hp'
  rw [Option.some.inj e,hi]at this
  exact (Option.some.inj this).symm
theorem AllBut.create (h:AllBut none M) (c:Calm K r M) (s:ByteArray):AllBut none (M.create s).1:=by
 rcases create_cases c.quiet s with ⟨_,_,e⟩|⟨_,_,_,e⟩
 ·rw [e];exact h
 ·rw [e]
  intro p hp
  refine .inl ?_
  have hp':p∈nput M.now s M.files.length:=hp
  have hp2:=(nput_perm M.now s M.files.length).mem_iff.1 hp'
  show FFlat ((M.files++[Fil.new]).getD p.2 Fil.new)
  rcases List.mem_cons.1 hp2 with rfl|hp2
  ·simp [FFlat,Fil.new]
  ·have hm:p∈M.now:=(List.mem_filter.1 hp2).1
   have hlt:=c.ok.nowOk.ids p hm
   rw [List.getD_eq_getElem?_getD,List.getElem?_append_left hlt]
   have:=(h p hm).resolve_right (by simp)
   unfold Med.file at this
   rwa [List.getD_eq_getElem?_getD]at this
theorem AllBut.syncDir (h:AllBut o M):AllBut o M.syncDir.1:=fun p hp=>by
 rw [(syncDir_same M).1]at hp
 have:=h p hp
 unfold Med.file at this ⊢
 rwa [(syncDir_same M).2]
def ShutL (L:Log) (M:Med):Prop:=AllBut (if L.on=true then L.l.getLast?.map fun s=>name s.1 else none) M
theorem ShutL.off (h:ShutL L M) (ho:L.on=false):AllBut none M:=by unfold ShutL at h;rwa [ho,if_neg dCz]at h
theorem ShutL.of_off (h:AllBut none M) (ho:L.on=false):ShutL L M:=by unfold ShutL;rwa [ho,if_neg dCz]
theorem ShutL.last (h:ShutL L M){s:Int×Int} (hs:L.l.getLast?=some s):AllBut (some (name s.1)) M:=by
 unfold ShutL at h
 split at h
 ·rw [hs]at h;exact h
 ·exact h.more _
theorem ShutL.append (h:ShutL L M) (k:Keeps K r L M) (x:Ent) (h0:(L.append M x).2.2=0) :
  (L.append M x).1.1.on=true∧AllBut (some (name (L.append M x).2.1.seg)) (L.append M x).1.2∧∃ s,(L.append M x).1.1.l.getLast?=some s∧s.1=(L.append M x).2.1.seg:=by
 unfold Log.append at h0 ⊢
 split at h0
 ·rename_i hn;exact absurd h0 hn
 rename_i hn
 rw [if_neg hn]
 split at h0
 ·rename_i hf
  rw [if_pos hf]
  have hon:=fits_on' hf
  obtain ⟨s,hs⟩:=k.log.last hon
  unfold Log.grow at h0 ⊢
  rw [hs]at h0 ⊢
  simp only at h0 ⊢
  split at h0
  ·rename_i ha
   rw [if_pos ha]
   exact ⟨hon,(h.last hs).append k.calm _,(s.1,s.2+((Frm.encode x).1.length:Int)),by simp,rfl⟩
  ·rename_i ha;exact absurd h0 ha
 ·rename_i hf
  rw [if_neg hf]
  obtain ⟨k1,e1,e2,e3,e4⟩:=k.shut
  unfold Log.begin at h0 ⊢
  rw [if_pos e1]at h0 ⊢
  have hall:AllBut none (L.shut M).1.2:=by
   unfold Log.shut
   cases hl:L.l.getLast? with
   |none=>
    unfold ShutL at h
    rw [hl]at h
    intro p hp
    refine .inl ((h p hp).resolve_right ?_)
    split <;> simp
   |some s=>
    simp only
    split
    ·rename_i hon
     obtain ⟨i,hi⟩:=k.has s (List.mem_of_getLast? hl)
     split <;> exact (h.last hl).sync k.calm hi
    ·rename_i hon
     exact h.off (by simpa using hon)
  generalize (L.shut M).1=LM at *
  obtain ⟨L1,M1⟩:=LM
  simp only at *
  unfold Log.begin1 at h0 ⊢
  split at h0
  ·cases h0
  rename_i g1
  rw [if_neg g1]
  split at h0
  ·rename_i g2;exact absurd h0 g2
  rename_i g2
  rw [if_neg g2]
  split at h0
  ·rename_i g3
   rw [if_pos g3]
   exact ⟨rfl,((hall.create k1.calm _).more _).append (k1.calm.create _) _,(L1.next,8+((Frm.encode x).1.length:Int)),by simp,rfl⟩
  ·rename_i g3
   split at h0
   ·rename_i g4
    simp only at h0
    split at h0
    ·cases h0
    ·rename_i g5;exact absurd h0 g5
   ·exact absurd h0 g3
theorem ShutL.put (h:ShutL L M) (k:Keeps K r L M) (x:Ent) (h0:(L.append M x).2.2=0):ShutL (L.append M x).1.1 (L.append M x).1.2:=by
 obtain ⟨h1,h2,s,h3,h4⟩:=h.append k x h0
 unfold ShutL
 rw [h1,if_pos rfl,h3,Option.map_some,h4]
 exact h2
theorem ShutL.commit (h:ShutL L M) (k:Keeps K r L M) (h0:(L.commit M).2.2=0):ShutL (L.commit M).1.1 (L.commit M).1.2:=by
 unfold Log.commit at h0 ⊢
 split at h0
 ·rename_i g;exact absurd h0 g
 rename_i g
 rw [if_neg g]
 have hz:(L.append M comEnt).2.2=0:=by simpa using g
 obtain ⟨h1,h2,s,h3,h4⟩:=h.append k comEnt hz
 obtain ⟨i,hi⟩:=append_place k comEnt rfl hz
 have k2:=(k.append comEnt rfl).1
 split at h0
 ·rename_i g2;exact absurd h0 g2
 rename_i g2
 rw [if_neg g2]
 split at h0
 ·rename_i g3;exact absurd h0 g3
 rename_i g3
 rw [if_neg g3]
 exact ShutL.of_off ((h2.sync k2.calm hi).syncDir) rfl
end
end Go.Seg
namespace Go.Seg
open Go.Med
open Go.Frm (Bs Fnd encs GoodE fnds Ent)
open Go.Rep
theorem int_ext:∀ {l l':List Int},l.Pairwise (· < ·)→l'.Pairwise (· < ·)→(∀ p,p∈l↔p∈l')→l=l'
 |[],[],_,_,_=>rfl
 |[],b::l',_,_,h=>by have:=(h b).2 (.head _);cases this
 |a::l,[],_,_,h=>by have:=(h a).1 (.head _);cases this
 |a::l,b::l',h1,h2,h=>by
  obtain ⟨a1,a2⟩:=List.pairwise_cons.1 h1
  obtain ⟨b1,b2⟩:=List.pairwise_cons.1 h2
  have hab:a=b:=by
   rcases List.mem_cons.1 ((h a).1 (.head _)) with e|h3
   ·exact e
   ·rcases List.mem_cons.1 ((h b).2 (.head _)) with e|h4
    ·exact e.symm
    ·have:=b1 a h3;have:=a1 b h4;omega
  subst hab
  congr 1
  refine int_ext a2 b2 fun p=>?_
  have:=h p
  rw [List.mem_cons,List.mem_cons]at this
  constructor
  ·intro hp
   rcases this.1 (.inr hp) with e|h3
   ·subst e;have:=a1 p hp;omega
   ·exact h3
  ·intro hp
   rcases this.2 (.inr hp) with e|h3
   ·subst e;have:=b1 p hp;omega
   ·exact h3
section
variable {n:Nat}{ds:List Ent}{L:Log}{M:Med}{C C0:List (List Ent)}{c:Nat}{d x:Ent}{xe:Ent}
end
end Go.Seg
