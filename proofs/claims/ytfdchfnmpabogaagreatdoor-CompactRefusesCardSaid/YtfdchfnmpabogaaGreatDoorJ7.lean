import Derived.Test.YtfdchfnmpabogaaGreatDoorJ6
import Derived.Laws.StructEq
import Derived.Lib.ConvBytes
import Derived.ArgAppend
set_option linter.unusedVariables false
set_option maxHeartbeats 128000000
namespace Go.Rep
def lastOf (bt:Told) (ns:List Int):Int×Int:=
 if (split bt ns ns.length).2≠0 then (0,(split bt ns ns.length).2) else if (split bt ns ns.length).1=0 then (-1,0) else (ns.getD ((split bt ns ns.length).1 - 1) 0,0)
end Go.Rep
namespace Go.Proofs.YtfdchfnmpabogaaGreatDoor
open Go Go.Sl Go.Med Go.MapKept Go.RowKit
section
variable {w0 w:World}{F:List HProp}{p m K:Nat}{L:Seg.Log}{M:Med}{sv:Value}
theorem ints_cell {sv:Value}{l:List Int}{i:Nat}{s:Int} (h:rdsl 1 sv (ints l) w) (hs:l[i]?=some s):∃ bk off c,sv = .slice (some ⟨bk,off,none⟩) l.length c∧w.cell? ⟨bk,off+i,none⟩=some (.int .i64 s):=by
 obtain ⟨bk,off,cc,hsv,hcell⟩:=osl_row (f:=fun i:Int=>[Value.int .i64 i]) (k:=1) (l:=l) (fun u _=>rfl) (by rw [show ints l=l.flatMap fun i=>[Value.int .i64 i] from by unfold ints;exact List.map_eq_flatMap]at h;exact h) hs dCz
 have f0:=hcell 0 _ rfl
 rw [Nat.mul_one,Nat.add_zero]at f0
 exact ⟨bk,off,cc,hsv,f0⟩
theorem ints_sl {sv:Value}{l:List Int} (h:rdsl 1 sv (ints l) w):∃ a c,sv = .slice a l.length c:=by
 obtain ⟨a,n,c,rfl,hl,_⟩:=h
 refine ⟨a,c,?_⟩
 rw [show (ints l).length=l.length from List.length_map ..,Nat.mul_one]at hl
 rw [hl]
set_option maxRecDepth 20000 in
theorem last_c (hL:L.Ok) (hM:M.Ok K) (hH:Ro w0 F Half) (h:Sat w0 w (LogRep p m L::MedRep m M::F)) :
  Calls Tryz.prog 69 #[ptr p] w (Rtn fun v w'=>v = .tuple #[.int .i64 (Rep.lastOf (lbt L M) L.segs).1,errno (Rep.lastOf (lbt L M) L.segs).2]∧Sat w0 w' (LogRep p m L::MedRep m M::F)):=by
 have Hlen:=uQ (show L.segs.length≤1073741824 from by unfold Seg.Log.segs;rw [List.length_map];have:=hL.len;omega)
 have hse:=lsegs_c hL h
 have HL:=uQ hL;have HM:=uQ hM;have HH:=uQ hH
 clear hL hM hH h
 go_enter Tryz.func69,Tryz.ntmps69
 go_wp2_with fail
 refine hse.mono ?_
 rintro ee w1 ⟨v,rfl,hS⟩
 clear hse
 have hsp:=split_c HL.out HM.out HH.out hS
 go_wp2_with fail
 refine hsp.mono ?_
 rintro ee w2 ⟨v',rfl,rfl,hS2⟩
 clear hsp hS
 have Hle:=uQ (Rep.split_le (lbt L M) L.segs L.segs.length)
 have HS:=uQ (hS2.sb:Sat w0 w2 (LogRep p m L::MedRep m M::F))
 have hrd:=Sat.rd hS2
 clear hS2
 by_cases h0:(Rep.split (lbt L M) L.segs L.segs.length).2=0
 ·have hb:((Rep.split (lbt L M) L.segs L.segs.length).2 != 0)=false:=by rw [h0];rfl
  by_cases h1:(Rep.split (lbt L M) L.segs L.segs.length).1=0
  ·have Hf:=uQ (show Rep.lastOf (lbt L M) L.segs=(-1,0) by unfold Rep.lastOf;rw [if_neg (fun h=>h h0),if_pos h1])
   have hb1:(((Rep.split (lbt L M) L.segs L.segs.length).1:Int)==0)=true:=by rw [h1];rfl
   clear hrd h0 h1
   go_wp2_with fail
   go_ret2
   rw [Hf.out]
   exact ⟨_,rfl,rfl,HS.out⟩
  ·have Hf:=uQ (show Rep.lastOf (lbt L M) L.segs=(L.segs.getD ((Rep.split (lbt L M) L.segs L.segs.length).1 - 1) 0,0) by unfold Rep.lastOf;rw [if_neg (fun h=>h h0),if_neg h1])
   have hle:=Hle.out
   generalize (Rep.split (lbt L M) L.segs L.segs.length).1=n at *
   have hb1:((n:Int)==0)=false:=by rw [beq_eq_false_iff_ne];omega
   have w1:IntKind.i64.wrap ((n:Int) - 1)=((n - 1:Nat):Int):=by rw [IntWalk.i64_in _ (by have:=Hlen.out;omega)];omega
   have hlt:n - 1<L.segs.length:=oQ
   have hs:L.segs[n - 1]?=some (L.segs.getD (n - 1) 0):=by rw [List.getD,List.getElem?_eq_getElem hlt];rfl
   generalize L.segs.getD (n - 1) 0=s at *
   generalize n - 1=j at *
   obtain ⟨bk,off,c,rfl,f0⟩:=ints_cell hrd hs
   have c1:(0:Int)≤(j:Int):=oQ
   have c2:(j:Int)<(L.segs.length:Int):=oQ
   clear hrd h0 h1 hs hlt hle
   go_wp2_with fail
   go_ret2
   rw [Hf.out]
   exact ⟨_,rfl,rfl,HS.out⟩
 ·have hb:((Rep.split (lbt L M) L.segs L.segs.length).2 != 0)=true:=by rw [bne_iff_ne];exact h0
  have Hf:=uQ (show Rep.lastOf (lbt L M) L.segs=(0,(Rep.split (lbt L M) L.segs L.segs.length).2) by unfold Rep.lastOf;rw [if_pos h0])
  clear hrd h0
  go_wp2_with fail
  go_ret2
  rw [Hf.out]
  exact ⟨_,rfl,rfl,HS.out⟩
end
section
variable {P:Program}{w0 w:World}{ops:Array Oper}{rest:List Oper}{a:Act}{Q:Exit→Act→World→Prop}{dst:Option Tmp}{t ty:TypeId}{pos:String}{after:Array Edge}{x y:Operand}{v v1 v2:Value}{i1 i2:Nat}
theorem wl_build2 (h1:a.eval x=v1) (h2:a.eval y=v2) (hr:∀ w,(Instr.build ty #[(i1,v1),(i2,v2)]).run P w = .ok v w) (h:wpList P ops Q rest (a.put dst v) w) :
  wpList P ops Q (⟨dst,.build ty #[(i1,x),(i2,y)],t,pos,after,none⟩::rest) a w:=
 wpList_plain rfl fun _ hK=>by
  unfold Oper.wp execOp
  simp only [List.map_toArray,List.map_cons,List.map_nil,h1,h2,Sem.run_bind,hr,Result.andThen_ok,Sem.run_pure]
  exact hK _ _ h
theorem wl_build0 (hr:∀ w,(Instr.build ty #[]).run P w = .ok v w) (h:wpList P ops Q rest (a.put dst v) w):wpList P ops Q (⟨dst,.build ty #[],t,pos,after,none⟩::rest) a w:=
 wpList_plain rfl fun _ hK=>by
  unfold Oper.wp execOp
  simp only [List.map_toArray,List.map_nil,Sem.run_bind,hr,Result.andThen_ok,Sem.run_pure]
  exact hK _ _ h
theorem res_tct {L R:List HProp}{b:Nat}{T:TypeId}{cs:Array Value}{fn:Func}{t p u:Tmp}{tmps:Array Value}{d:TypeDesc} (hf:fn.results=#[.tmp t,.cell p ty,.tmp u]) (hs:Sat w0 w L) (hp:tmps.getD p undef = .pointer (some ⟨b,0,none⟩)) (k:Pick (pt b (.cells cs T (0,0))) L R)
  (hu:P.underlying ty=some d) (hd:d.isRow=true) (hi:(P.info? ty).map (·.size)=some cs.size):(results fn tmps).run P w = .ok (.tuple #[tmps.getD t undef,.agg cs,tmps.getD u undef]) w:=by
 have hl:=run_loadVar_row (P:=P) w b T ty cs (0,0) d (hs.pick k).at hu (by cases d <;> simp_all [TypeDesc.isRow]) hi
 have e:(results fn tmps).run P w=((asAddr (tmps.getD p undef)).run P w).andThen fun a w₁=>((loadVar ty a).run P w₁).andThen fun v w₂=> .ok (.tuple #[tmps.getD t undef,v,tmps.getD u undef]) w₂:=by
  simp only [results,hf]
  simp [Sem.run_bind,Result.andThen]
 rw [e,hp]
 simp [asAddr,hl,Result.andThen]
theorem at_build2 (h:Stop (wpList P ops Q (⟨dst,.build ty #[(i1,x),(i2,y)],t,pos,after,none⟩::rest) a w)):wpList P ops Q (⟨dst,.build ty #[(i1,x),(i2,y)],t,pos,after,none⟩::rest) a w:=h.out
theorem at_build0 (h:Stop (wpList P ops Q (⟨dst,.build ty #[],t,pos,after,none⟩::rest) a w)):wpList P ops Q (⟨dst,.build ty #[],t,pos,after,none⟩::rest) a w:=h.out
end
section
variable {w0 w:World}{F:List HProp}
theorem plFlt:placesB Tryz.prog 52=some [(0,1),(1,1),(2,1),(3,32),(35,1)]:=by kernel_rfl
theorem run_flt2 (x y:Int) (w:World):(Instr.build 52 #[(0,.int .i64 x),(1,.int .i64 y)]).run Tryz.prog w = .ok (.agg (fltA ⟨x,y,0⟩)) w:=by
 have h:=run_build (P:=Tryz.prog) [(0,.int .i64 x),(1,.int .i64 y)] plFlt zFlt (by
  intro p hp
  have hzz:(Value.agg (fltA Rep.Flt.zero)).cells.size=36:=by rfl
  rw [hzz]
  rcases List.mem_cons.1 hp with rfl|hp
  ·exact ⟨0,rfl,by show 0+1≤36;omega⟩
  ·rw [List.mem_singleton.1 hp]
   exact ⟨1,rfl,by show 1+1≤36;omega⟩) w
 exact h
theorem run_flt3 (x y z:Int) (w:World):(Instr.build 52 #[(0,.int .i64 x),(1,.int .i64 y),(2,.int .i64 z)]).run Tryz.prog w = .ok (.agg (fltA ⟨x,y,z⟩)) w:=by
 have h:=run_build (P:=Tryz.prog) [(0,.int .i64 x),(1,.int .i64 y),(2,.int .i64 z)] plFlt zFlt (by
  intro p hp
  have hzz:(Value.agg (fltA Rep.Flt.zero)).cells.size=36:=by rfl
  rw [hzz]
  rcases List.mem_cons.1 hp with rfl|hp
  ·exact ⟨0,rfl,by show 0+1≤36;omega⟩
  rcases List.mem_cons.1 hp with rfl|hp
  ·exact ⟨1,rfl,by show 1+1≤36;omega⟩
  ·rw [List.mem_singleton.1 hp]
   exact ⟨2,rfl,by show 2+1≤36;omega⟩) w
 exact h
theorem run_flt0 (w:World):(Instr.build 52 #[]).run Tryz.prog w = .ok (.agg (fltA Rep.Flt.zero)) w:=run_build (P:=Tryz.prog) [] plFlt zFlt (by simp) w
set_option maxRecDepth 20000 in
theorem fault_c (s:Int) (at_:Nat) (h:Sat w0 w F):Calls Tryz.prog 115 #[.int .i64 s,.int .i64 at_] w (Rtn fun v w'=>v = .agg (fltA (Rep.fault s at_))∧Sat w0 w' F):=by
 have hone:∀ f,(fltA f).size=36:=fun f=>rfl
 by_cases h0:at_=0
 ·have hb:((at_:Int)==0)=true:=by rw [h0];rfl
  have e:=uQ (show Rep.fault s at_=⟨1,s,0⟩ from if_pos h0)
  clear h0
  go_enter Tryz.func115,Tryz.ntmps115
  go_wp2_with (with_reducible apply at_alloc)
  refine ⟨wl_alloc zFlt h rfl ?_⟩
  intro b4 w4 h4
  go_wp2_with (first
   |((with_reducible refine at_build2 ⟨?_⟩);refine wl_build2 rFz rFz (fun w=>run_flt2 1 s w) ?_)
   |((with_reducible refine at_store ⟨?_⟩);refine wl_storeA (fltA ⟨1,s,0⟩) h4 rFz rFz rFz upd0 kRz rFz ?_;intro w9 h9))
  refine ⟨rfl,_,res_cell rfl h9 rFz pkD Tryz.underlying52 rfl kRz,?_⟩
  exact ⟨_,rfl,by rw [e.out],h9.drop⟩
 ·have hb:((at_:Int)==0)=false:=by rw [beq_eq_false_iff_ne];omega
  have e:=uQ (show Rep.fault s at_=⟨2,s,at_⟩ from if_neg h0)
  clear h0
  go_enter Tryz.func115,Tryz.ntmps115
  go_wp2_with (with_reducible apply at_alloc)
  refine ⟨wl_alloc zFlt h rfl ?_⟩
  intro b4 w4 h4
  go_wp2_with (first
   |((with_reducible refine at_build3 ⟨?_⟩);refine wl_build3 rFz rFz rFz (fun w=>run_flt3 2 s at_ w) ?_)
   |((with_reducible refine at_store ⟨?_⟩);refine wl_storeA (fltA ⟨2,s,at_⟩) h4 rFz rFz rFz upd0 kRz rFz ?_;intro w9 h9))
  refine ⟨rfl,_,res_cell rfl h9 rFz pkD Tryz.underlying52 rfl kRz,?_⟩
  exact ⟨_,rfl,by rw [e.out],h9.drop⟩
end
end Go.Proofs.YtfdchfnmpabogaaGreatDoor
namespace Go.Rep
open Go.Frm (Bs)
def runAt (bt:Told) (ns:List Int) (n:Nat):(Flt×Int) ⊕ Nat:=match bad bt (ns.take n) with
 |some x=> .inl x
 |none=> .inr n
def run (bt:Told) (ns:List Int):(Flt×Int) ⊕ Nat:=
 if (split bt ns ns.length).2≠0 then .inl (Flt.zero,(split bt ns ns.length).2) else runAt bt ns (split bt ns ns.length).1
theorem runAt_bad {bt:Told}{ns:List Int}{n:Nat}{x:Flt×Int} (h:bad bt (ns.take n)=some x):runAt bt ns n = .inl x:=by unfold runAt;rw [h]
theorem runAt_none {bt:Told}{ns:List Int}{n:Nat} (h:bad bt (ns.take n)=none):runAt bt ns n = .inr n:=by unfold runAt;rw [h]
def lastOfL (l:List Int):Int:=match l.getLast? with
 |some s=>s
 |none=> -1
theorem newest_mem:∀ {l:List Row}{k:Bs}{r:Row},newest l k=some r→r∈l
 |[],_,_,h=>by cases h
 |x::l,k,r,h=>by
  unfold newest at h
  split at h
  ·rename_i y hy
   cases h
   exact .tail _ (newest_mem hy)
  ·split at h
   ·cases h;exact .head _
   ·cases h
theorem ledger_place {l:List Row}{k:Bs}{a:Abt} (h:ledger l k=some a):∃ r∈l,a.place=rplc r:=by
 unfold ledger at h
 cases hn:newest l k with
 |none=>rw [hn]at h;cases h
 |some r=>rw [hn]at h;cases h;exact ⟨r,newest_mem hn,rfl⟩
theorem rowsOf_take (bt:Told) (ns:List Int) (n:Nat):∀ r∈rowsOf bt (ns.take n),r∈rowsOf bt ns:=fun r hr=>by
 unfold rowsOf at hr ⊢
 obtain ⟨s,hs,h⟩:=List.mem_flatMap.1 hr
 exact List.mem_flatMap.2 ⟨s,List.mem_of_mem_take hs,h⟩
theorem rowsOf_le (bt:Told) (ns:List Int) (n:Nat):(rowsOf bt (ns.take n)).length≤(rowsOf bt ns).length:=by
 have e:rowsOf bt ns=rowsOf bt (ns.take n)++rowsOf bt (ns.drop n):=by
  unfold rowsOf;rw [← List.flatMap_append,List.take_append_drop]
 rw [e,List.length_append];omega
theorem lastOfL_snoc (l:List Int) (s:Int):lastOfL (l++[s])=s:=by unfold lastOfL;rw [List.getLast?_append];rfl
end Go.Rep
namespace Go.Proofs.YtfdchfnmpabogaaGreatDoor
open Go Go.Sl Go.Med Go.MapKept Go.RowKit
section
variable {P:Program}{w0 w:World}{L R:List HProp}{b:Nat}{ops:Array Oper}{a:Act}{Q:Exit→Act→World→Prop}{K:Act→World→Prop}{E:Prop}{dst:Option Tmp}{t ty:TypeId}{pos:String}{after:Array Edge}{y:Operand}{v:Value}{cs:Array Value}
theorem eff_box (hs:Sat w0 w L) (hy:a.eval y=v) (hcs:v.cells=cs)
  (hK:∀ b w',Sat w0 w' (pt b (.cells cs ty (0,0))::L)→K (a.put dst (.pointer (some ⟨b,0,none⟩))) w') :
  if Region.wanted ⟨dst,.box ty y,t,pos,after,none⟩ (yielded ops a.tmps)=true then Oper.wp P ⟨dst,.box ty y,t,pos,after,none⟩ a w K Q else E:=by
 subst hcs
 refine eff_of rfl ?_
 have hS:=hs.alloc (.cells v.cells ty)
 unfold Oper.wp execOp
 have hrun:(Instr.box ty v).run P w = .ok (.pointer (some ⟨w.heap.size,0,none⟩)) (w.alloc (.cells v.cells ty)):=by
  simp [Instr.box,newVar,newRow,go_sem]
 simp only [hy,Sem.run_bind,Sem.run_pure,hrun,Result.andThen_ok]
 exact hK _ _ hS
end
section
variable {w0 w:World}{F R:List HProp}{sv:Value}
theorem tail_c {l:List Int}{n:Nat} (hn:n≤l.length) (h:Sat w0 w (osl 3 1 sv (ints l)::R)) :
  ∃ tv,(∀ w,(Instr.sliceAt 25 sv (some (.int .i64 n)) none none).run Tryz.prog w = .ok tv w)∧(∃ a' c',tv = .slice a' (l.length - n) c')∧∀ W,rdsl 1 sv (ints l) W→rdsl 1 tv (ints (l.drop n)) W:=by
 rcases h.osl_cases with ⟨rfl,he,h'⟩|⟨g,k,cap,cs,rfl,hl,hk,hc,hcm,htk,hp⟩
 ·obtain rfl:l=[]:=by simpa [ints] using he
  obtain rfl:n=0:=by simpa using hn
  refine ⟨.slice none 0 0,fun w=>by go_simp,⟨none,0,rfl⟩,fun W hW=>by simpa using hW⟩
 ·obtain rfl:k=l.length:=by simpa [ints] using hl.symm
  by_cases hce:cap=n
  ·have hd:l.drop n=[]:=List.drop_eq_nil_of_le oQ
   have e0:l.length - n=0:=oQ
   rw [hd,e0]
   have h1:n≤cap:=oQ
   have h2:l.length=n:=oQ
   refine ⟨.slice (some ⟨g,0,none⟩) 0 0,fun w=>?_,⟨_,_,rfl⟩,fun W hW=>⟨_,_,_,rfl,rfl,fun j x hj=>by cases hj⟩⟩
   have h4:(0:Int)≤(n:Int):=oQ
   have h5:(n:Int).toNat=n:=oQ
   subst hce
   go_simp
  ·refine ⟨.slice (some ⟨g,n,none⟩) (l.length - n) (cap - n),fun w=>?_,⟨_,_,rfl⟩,fun W hW=>?_⟩
   ·have h4:(0:Int)≤(n:Int):=by omega
    have h5:(n:Int).toNat=n:=oQ
    have h6:n≤cap:=oQ
    go_simp
   ·obtain ⟨a,n',c,he,hl',hx⟩:=hW
    cases he
    refine ⟨_,_,_,rfl,by unfold ints;rw [List.length_map,List.length_drop,Nat.mul_one],fun j x hj=>⟨_,rfl,?_⟩⟩
    have hj2:(ints l)[n+j]?=some x:=by
     unfold ints at hj ⊢
     rw [List.map_drop,List.getElem?_drop]at hj
     exact hj
    obtain ⟨ad,e,hc'⟩:=hx (n+j) x hj2
    cases e
    rw [adr_add,Nat.zero_add]at hc'
    rw [adr_add]
    exact hc'
theorem head_c {l:List Int}{n:Nat} (hn:n≤l.length) (h:Sat w0 w (osl 3 1 sv (ints l)::R)) :
  ∃ a' c',(∀ w,(Instr.sliceAt 25 sv none (some (.int .i64 n)) none).run Tryz.prog w = .ok (.slice a' n c') w)∧∀ W,rdsl 1 sv (ints l) W→rdsl 1 (.slice a' n c') (ints (l.take n)) W:=by
 rcases h.osl_cases with ⟨rfl,he,h'⟩|⟨g,k,cap,cs,rfl,hl,hk,hc,hcm,htk,hp⟩
 ·obtain rfl:l=[]:=by simpa [ints] using he
  obtain rfl:n=0:=by simpa using hn
  refine ⟨none,0,fun w=>by go_simp,fun W hW=>by simpa using hW⟩
 ·obtain rfl:k=l.length:=by simpa [ints] using hl.symm
  refine ⟨some ⟨g,0,none⟩,cap,fun w=>?_,fun W hW=>?_⟩
  ·have h4:(0:Int)≤(n:Int):=by omega
   have h5:(n:Int).toNat=n:=oQ
   have h6:n≤cap:=oQ
   go_simp
  ·obtain ⟨a,n',c,he,hl',hx⟩:=hW
   cases he
   refine ⟨_,_,_,rfl,by unfold ints;rw [List.length_map,List.length_take,Nat.mul_one];omega,fun j x hj=>?_⟩
   refine hx j x ?_
   unfold ints at hj ⊢
   rw [List.map_take,List.getElem?_take]at hj
   split at hj
   ·exact hj
   ·cases hj
theorem TabMA.lists {p B:Nat}{m:Frm.Bs→Option Rep.Abt} (h:Sat w0 w (TabMA p m B::R)):∃ kv,Tab.Lists m kv∧(∀ q∈kv,q.1.length=32)∧kv.length≤B:=by
 obtain ⟨t,sv',⟨ok,is,hb⟩,hS⟩:=TabMA.open h
 have hp:=List.mergeSort_perm (t.slots.filter fun x=>decide (x.st=1)) (fun a b:Tab.Slot Rep.Abt=>decide (¬ b.key<a.key))
 have hw:=List.pairwise_mergeSort (le:=fun a b:Tab.Slot Rep.Abt=>decide (¬ b.key<a.key)) (fun a b c h1 h2=>by
   rw [decide_eq_true_eq]at h1 h2 ⊢
   intro h3
   rcases Tab.bs_tri a.key b.key with q|q|q
   ·exact h2 (List.lt_trans h3 q)
   ·exact h2 (q ▸ h3)
   ·exact h1 q) (fun a b=>by
   rw [Bool.or_eq_true,decide_eq_true_eq,decide_eq_true_eq]
   by_cases q:b.key<a.key
   ·exact .inr fun q2=>List.lt_irrefl _ (List.lt_trans q q2)
   ·exact .inl q) (t.slots.filter fun x=>decide (x.st=1))
 obtain ⟨h1,h2⟩:=Tab.lists_of ok.good is hp (hw.imp fun {a b} q=>by rwa [decide_eq_true_eq]at q)
 refine ⟨_,h1,fun q hq=>?_,?_⟩
 ·obtain ⟨x,hx,rfl⟩:=List.mem_map.1 hq
  exact (h2 x hx).2
 ·rw [List.length_map,hp.length_eq,← List.countP_eq_length_filter]
  have e:t.slots.countP (fun x=>decide (x.st=1))=Tab.fulls t.slots:=by
   unfold Tab.fulls
   refine List.countP_congr fun x _=>?_
   simp
  have:=ok.n;omega
end
end Go.Proofs.YtfdchfnmpabogaaGreatDoor
namespace Go.Frm
theorem read_tag {b:Bs} (h:(read b).2.2=0):(read b).1.tag=0∨(read b).1.tag=1∨(read b).1.tag=2:=by
 unfold read at *
 dsimp only at *
 split at h
 ·simp at h
 rename_i h9
 rw [if_neg h9]
 split at h
 ·simp at h
 rename_i hf
 rw [if_neg hf]
 split at h
 ·simp at h
 rename_i hl
 rw [if_neg hl]
 split at h
 ·simp at h
 rename_i hc
 rw [if_neg hc]
 have ht:b.getD 8 0=0∨b.getD 8 0=1∨b.getD 8 0=2:=by
  unfold fits at hf
  split at hf
  ·exact .inl aQ
  split at hf
  ·exact .inr (.inl aQ)
  split at hf
  ·exact .inr (.inr aQ)
  ·exact absurd rfl hf
 split
 all_goals
  dsimp only
  rcases ht with e|e|e <;> rw [e]
  ·exact .inl rfl
  ·exact .inr (.inl rfl)
  ·exact .inr (.inr rfl)
theorem scanL_ok:∀ (k:Nat) (b:Bs) (at_:Nat),∀ f∈(scanL k b at_).1,(f.e.tag=0∨f.e.tag=1∨f.e.tag=2)∧f.e.key.length=32∧9≤f.size∧f.size≤b.length
 |0,_,_,f,hf=>by cases hf
 |k+1,b,at_,f,hf=>by
  unfold scanL at hf
  split at hf
  ·cases hf
  split at hf
  ·cases hf
  rename_i he
  have he:(read b).2.2=0:=by simpa using he
  have h1:=read_ok he
  simp only at hf
  rcases List.mem_cons.1 hf with rfl|hf
  ·exact ⟨read_tag he,h1.2.2,h1.1,h1.2.1⟩
  ·have h2:=scanL_ok k _ _ f hf
   refine ⟨h2.1,h2.2.1,h2.2.2.1,Nat.le_trans h2.2.2.2 ?_⟩
   rw [List.length_drop];omega
theorem scan_ok (b:Bs):∀ f∈(scan b).1,(f.e.tag=0∨f.e.tag=1∨f.e.tag=2)∧f.e.key.length=32∧9≤f.size∧f.size≤b.length:=fun f hf=>by
 unfold scan at hf
 split at hf
 ·have h:=scanL_ok _ _ _ f hf
  refine ⟨h.1,h.2.1,h.2.2.1,Nat.le_trans h.2.2.2 ?_⟩
  rw [List.length_drop];omega
 ·cases hf
end Go.Frm
namespace Go.Rep
open Go.Frm (Bs Fnd)
open Go.Seg (Plc)
open Go.Tab
theorem rowsOf_mem {bt:Told}{ns:List Int}{r:Row} (h:r∈rowsOf bt ns):r.1∈ns∧r.2∈(Frm.scan (bt r.1).1).1:=by
 unfold rowsOf at h
 obtain ⟨s,hs,h⟩:=List.mem_flatMap.1 h
 obtain ⟨f,hf,rfl⟩:=List.mem_map.1 h
 exact ⟨hs,hf⟩
theorem rowsOf_rows {bt:Told}{ns:List Int} (hr:ns.Pairwise (· < ·)) (h0:∀ s∈ns,0≤s):Rows (rowsOf bt ns):=by
 refine ⟨fun r h=>(Frm.scan_ok _ _ (rowsOf_mem h).2).1,fun r h=>h0 _ (rowsOf_mem h).1,?_⟩
 unfold rowsOf
 rw [List.pairwise_flatMap]
 refine ⟨fun s _=>?_,hr.imp fun {a b} hab x hx y hy=>?_⟩
 ·rw [List.pairwise_map]
  exact List.pairwise_of_forall fun _ _=>Int.le_refl s
 ·obtain ⟨_,_,rfl⟩:=List.mem_map.1 hx
  obtain ⟨_,_,rfl⟩:=List.mem_map.1 hy
  exact Int.le_of_lt hab
end Go.Rep
namespace Go.Rep
open Go.Frm (Bs Fnd Ent fnds encs GoodE)
open Go.Seg (Plc mag)
open Go.Tab
def rowsC:Nat→List (List Ent)→List Row
 |_,[]=>[]
 |k,es::C=>((fnds es 8).map fun f=>((k:Int),f))++rowsC (k+1) C
section
variable {C:List (List Ent)}{bt:Told}{k n:Nat}
theorem rowsC_e:∀ (k:Nat) (C:List (List Ent)),(rowsC k C).map (·.2.e)=C.flatten
 |_,[]=>rfl
 |k,es::C=>by
  unfold rowsC
  rw [List.map_append,List.map_map,rowsC_e (k+1) C,List.flatten_cons]
  congr 1
  exact Frm.fnds_e es 8
theorem rows_is:∀ (C:List (List Ent)) (k:Nat),(∀ j es,C[j]?=some es→bt ((k+j:Nat):Int)=(mag++encs es,0)∧∀ x∈es,GoodE x)→rowsOf bt ((List.range' k C.length).map fun i=>((i:Nat):Int))=rowsC k C
 |[],k,_=>rfl
 |es::C,k,h=>by
  have h0:=h 0 es rfl
  rw [Nat.add_zero]at h0
  have ih:=rows_is C (k+1) fun j fs hj=>by
   have:=h (j+1) fs (by simpa using hj)
   rwa [show k+(j+1)=k+1+j by omega]at this
  rw [List.length_cons,List.range'_succ,List.map_cons]
  show ((Frm.scan (bt (k:Int)).1).1.map fun f=>((k:Int),f))++rowsOf bt ((List.range' (k+1) C.length).map fun i=>((i:Nat):Int))=_
  rw [ih,h0.1,Frm.scan_encs es h0.2]
  rfl
def endsC (es:List Ent):Bool:=match es.getLast? with
 |some x=>x.tag==2
 |none=>false
theorem ended_fnds (es:List Ent) (a:Nat):endedF (fnds es a)=endsC es:=by
 unfold endedF endsC
 have h:(fnds es a).getLast?.map (·.e)=es.getLast?:=by rw [← List.getLast?_map,Frm.fnds_e]
 cases hl:(fnds es a).getLast? with
 |none=>rw [hl]at h;rw [← h];rfl
 |some f=>rw [hl]at h;rw [← h];rfl
theorem split_is {ns:List Int} (hl:ns.length=C.length) (h:∀ j es,C[j]?=some es→bt (ns.getD j 0)=(mag++encs es,0)∧∀ x∈es,GoodE x):∀ i,i≤C.length →
  ∃ n,split bt ns i=(n,0)∧n≤i∧(n≠0→∃ es,C[n - 1]?=some es∧endsC es=true)∧∀ j es,n≤j→j<i→C[j]?=some es→endsC es=false
 |0,_=>⟨0,rfl,Nat.le_refl _,fun h=>absurd rfl h,fun j es h1 h2=>by omega⟩
 |i+1,hi=>by
  obtain ⟨es,he⟩:∃ es,C[i]?=some es:=⟨_,List.getElem?_eq_getElem oQ⟩
  obtain ⟨h1,h2⟩:=h i es he
  have hu:split bt ns (i+1)=if endsC es=true then (i+1,0) else split bt ns i:=by
   rw [split,h1,if_neg (by simp),Frm.scan_encs es h2]
   simp only [ended_fnds,true_and]
  rw [hu]
  cases hc:endsC es with
  |true=>exact ⟨i+1,rfl,Nat.le_refl _,fun _=>⟨es,he,hc⟩,fun j fs a b=>by omega⟩
  |false=>
   obtain ⟨n,a,b,c,d⟩:=split_is hl h i oQ
   refine ⟨n,a,by omega,c,fun j fs p q r=>?_⟩
   by_cases e:j=i
   ·subst e;rw [he]at r;cases r;exact hc
   ·exact d j fs p oQ r
theorem bad_is {ns:List Int} (h:∀ (j:Nat) (s:Int),ns[j]?=some s→∃ es,bt s=(mag++encs es,0)∧∀ x∈es,GoodE x):bad bt ns=none:=by
 induction ns with
 |nil=>rfl
 |cons s ns ih=>
  obtain ⟨es,h1,h2⟩:=h 0 s rfl
  unfold bad
  rw [h1,if_neg (by simp),Frm.scan_encs es h2]
  simp only
  rw [if_neg (by simp)]
  exact ih fun j t hj=>h (j+1) t (by simpa using hj)
theorem rowsC_mem:∀ (C:List (List Ent)) (k:Nat){r:Row},r∈rowsC k C→∃ j es,C[j]?=some es∧r.1=((k+j:Nat):Int)∧r.2∈fnds es 8
 |[],_,r,h=>by cases h
 |es::C,k,r,h=>by
  unfold rowsC at h
  rcases List.mem_append.1 h with h|h
  ·obtain ⟨f,hf,rfl⟩:=List.mem_map.1 h
   exact ⟨0,es,rfl,by simp,hf⟩
  ·obtain ⟨j,fs,h1,h2,h3⟩:=rowsC_mem C (k+1) h
   exact ⟨j+1,fs,by simpa using h1,by rw [h2];congr 1;omega,h3⟩
theorem fnds_mem:∀ (es:List Ent) (a:Nat){f:Fnd},f∈fnds es a→∃ u v,es=u++f.e::v∧f.at_=a+(encs u).length∧f.size=(Frm.encode f.e).1.length
 |[],_,f,h=>by cases h
 |x::es,a,f,h=>by
  unfold fnds at h
  rcases List.mem_cons.1 h with rfl|h
  ·exact ⟨[],es,rfl,rfl,rfl⟩
  ·obtain ⟨u,v,h1,h2,h3⟩:=fnds_mem es _ h
   refine ⟨x::u,v,by rw [h1];rfl,?_,h3⟩
   have e:encs (x::u)=(Frm.encode x).1++encs u:=rfl
   rw [h2,e,List.length_append];omega
end
end Go.Rep
namespace Go.Seg
open Go.Med
open Go.Frm (encs GoodE fnds)
section
variable {n:Nat}{M:Med}{L:Log}{C:List (List Frm.Ent)}
theorem take_nums (n i:Nat):((List.range' 0 n).map fun i=>((i:Nat):Int)).take i=(List.range' 0 (min i n)).map fun i=>((i:Nat):Int):=by
 rw [← List.map_take]
 congr 1
 apply List.ext_getElem?
 intro j
 rw [List.getElem?_take]
 by_cases h1:j<n
 ·by_cases h2:j<i
  ·rw [if_pos h2,List.getElem?_range' h1,List.getElem?_range' oQ]
  ·rw [if_neg h2,List.getElem?_eq_none (by rw [List.length_range'];omega)]
 ·rw [List.getElem?_eq_none (by rw [List.length_range'];omega),List.getElem?_eq_none (by rw [List.length_range'];omega)]
  split <;> rfl
end
end Go.Seg
namespace Go.Seg
open Go.Med
open Go.Frm (encs GoodE)
section
variable {K:Nat}{M M':Med}{L:Log}{s t:ByteArray}{i:Nat}
def nf (L:Log):List Int:=(L.l.map (·.1)).take (L.l.length - L.fresh.toNat)
variable {sure opn:List (Plc×Frm.Ent)}
end
end Go.Seg
namespace Go.Seg
open Go.Med
section
variable {K K':Nat}{M M':Med}{L:Log}{s t:ByteArray}{i:Nat}{sure opn:List (Plc×Frm.Ent)}
theorem app_lt:∀ (x y u v:Bs),x.length=y.length→x<y→x++u<y++v
 |[],[],_,_,_,h=>absurd h (List.not_lt_nil [])
 |[],_::_,_,_,h,_=>by simp at h
 |_::_,[],_,_,h,_=>by simp at h
 |a::x,b::y,u,v,hl,h=>by
  rw [List.cons_append,List.cons_append,List.cons_lt_cons_iff]
  rcases List.cons_lt_cons_iff.1 h with h1|⟨e,h1⟩
  ·exact .inl h1
  ·exact .inr ⟨e,app_lt x y u v (by simpa using hl) h1⟩
theorem app_lt_r:∀ (x u v:Bs),u<v→x++u<x++v
 |[],_,_,h=>h
 |a::x,u,v,h=>by
  rw [List.cons_append,List.cons_append,List.cons_lt_cons_iff]
  exact .inr ⟨rfl,app_lt_r x u v h⟩
theorem digs_lt:∀ (k a b:Nat),a<b→b<10^k→digs a k<digs b k
 |0,a,b,h,hb=>by simp at hb;omega
 |k+1,a,b,h,hb=>by
  show digs (a / 10) k++[UInt8.ofNat (48+a%10)]<digs (b / 10) k++[UInt8.ofNat (48+b%10)]
  have hb':b / 10<10^k:=by rw [Nat.div_lt_iff_lt_mul oQ];rw [Nat.pow_succ]at hb;exact hb
  rcases Nat.lt_or_ge (a / 10) (b / 10) with q|q
  ·exact app_lt _ _ _ _ (by rw [digs_len,digs_len]) (digs_lt k _ _ q hb')
  ·have e:a / 10=b / 10:=by omega
   rw [e]
   refine app_lt_r _ _ _ ?_
   rw [List.cons_lt_cons_iff]
   left
   rw [UInt8.lt_iff_toNat_lt,UInt8.toNat_ofNat',UInt8.toNat_ofNat']
   omega
theorem name_lt {a b:Int} (h1:0≤a) (h2:a<b) (h3:b<1048576):lt (name a) (name b)=true:=by
 unfold name
 rw [if_neg oQ,if_neg oQ]
 unfold lt
 rw [decide_eq_true_eq]
 show lead++digs a.toNat 8<lead++digs b.toNat 8
 exact app_lt_r _ _ _ (digs_lt 8 _ _ oQ oQ)
theorem number_is {s:ByteArray} (h:(number s).2=true):0≤(number s).1∧(number s).1<1048576∧name (number s).1=s:=by
 unfold number at h ⊢
 dsimp only at h ⊢
 split at h
 ·rename_i hc
  rw [if_pos hc]
  obtain ⟨c1,c2,c3,c4⟩:=hc
  refine ⟨by simp only;omega,by simp only;omega,?_⟩
  simp only
  unfold name
  rw [if_neg oQ]
  have hl:(s.data.toList.drop 4).length=8:=by
   have:s.data.toList.length=12:=by first|exact c1|(rw [Array.length_toList];exact c1)
   rw [List.length_drop,this]
  have hd:=digs_val (s.data.toList.drop 4) c3
  rw [hl]at hd
  have e:lead++digs (Int.toNat ((val (s.data.toList.drop 4):Nat):Int)) 8=s.data.toList:=by
   rw [Int.toNat_natCast,hd,← c2,List.take_append_drop]
  rw [e]
 ·cases h
theorem found_mem {l:List ByteArray}{x:Int×Int} (h:x∈found M l):∃ t∈l,(number t).2=true∧x=((number t).1,(M.size t).1):=by
 unfold found at h
 obtain ⟨t,ht,he⟩:=List.mem_filterMap.1 h
 split at he
 ·rename_i hn;exact ⟨t,ht,hn,(Option.some.inj he).symm⟩
 ·cases he
theorem found_rise:∀ (l:List ByteArray),l.Pairwise (fun a b=>lt a b=true)→((found M l).map (·.1)).Pairwise (· < ·)
 |[],_=>List.Pairwise.nil
 |t::l,h=>by
  obtain ⟨h1,h2⟩:=List.pairwise_cons.1 h
  have ih:=found_rise l h2
  by_cases hn:(number t).2=true
  ·have e:found M (t::l)=((number t).1,(M.size t).1)::found M l:=by unfold found;rw [List.filterMap_cons];simp [hn]
   rw [e,List.map_cons,List.pairwise_cons]
   refine ⟨fun x hx=>?_,ih⟩
   obtain ⟨y,hy,rfl⟩:=List.mem_map.1 hx
   obtain ⟨u,hu,hun,rfl⟩:=found_mem hy
   have hlt:=h1 u hu
   obtain ⟨a1,a2,a3⟩:=number_is hn
   obtain ⟨b1,b2,b3⟩:=number_is hun
   rcases Int.lt_or_le (number t).1 (number u).1 with q|q
   ·exact q
   ·exfalso
    rcases Int.lt_or_eq_of_le q with q|q
    ·have h3:=name_lt b1 q a2
     rw [a3,b3]at h3
     have:=lt_trans hlt h3
     rw [lt_irrefl]at this;cases this
    ·rw [← a3,← q,b3,lt_irrefl]at hlt;cases hlt
  ·have e:found M (t::l)=found M l:=by unfold found;rw [List.filterMap_cons];simp [hn]
   rw [e];exact ih
theorem fresh_ok (ok:M.Ok K) (limit:Int) (h1:128≤limit) (h2:limit≤1048576):(fresh M limit).Ok:=by
 refine ⟨⟨h1,h2⟩,?_,fun x hx=>?_,fun x hx=>?_,⟨Int.le_refl _,by simp [fresh]⟩,fun hh=>by cases hh⟩
 ·refine found_rise M.list ?_
  unfold Med.list
  split
  ·exact List.Pairwise.nil
  ·rw [List.pairwise_map];exact ok.nowOk.srt
 ·obtain ⟨t,_,hn,rfl⟩:=found_mem hx
  have:=number_is hn
  exact ⟨this.1,this.2.1⟩
 ·obtain ⟨t,_,hn,rfl⟩:=found_mem hx
  unfold Med.size
  split
  ·simp
  split
  ·simp
  ·have:=(ok.file ‹Nat›).now_len
   simp only
   omega
end
end Go.Seg
namespace Go.Hin
open Go.Med
def name (lead:ByteArray) (n:Int):ByteArray:=if Seg.name n=ByteArray.empty then ByteArray.empty else lead++(Seg.name n).extract 4 12
def idx:ByteArray:=⟨#[105,100,120,46]⟩
def use:ByteArray:=⟨#[117,115,101,46]⟩
theorem seg_name (n:Int):Seg.name n=ByteArray.empty∨(Seg.name n).size=12∧(Seg.name n).data.toList.take 4=Seg.lead:=by
 unfold Seg.name
 split
 ·exact .inl rfl
 ·right
  refine ⟨?_,rfl⟩
  show (Seg.lead++Seg.digs n.toNat 8).toArray.size=12
  rw [List.size_toArray,List.length_append,Seg.digs_len];rfl
end Go.Hin
namespace Go.Proofs.YtfdchfnmpabogaaGreatDoor
open Go Go.Sl Go.Med Go.MapKept Go.RowKit
section
variable {w0 w:World}{F:List HProp}{v bv dv x:Value}{q m:Nat}
theorem hasPfx_c (s:ByteArray) (h1:s.size=12) (h2:s.data.toList.take 4=Seg.lead) (w:World) :
  Calls Tryz.prog 168 #[.string s,.string ⟨#[115,101,103,46]⟩] w (Rtn fun v w'=>v = .bool true∧w=w'):=by
 have h2d:((s.extract 0 4).toList==[115,101,103,46])=true:=by rw [ba_take s,h2];rfl
 have hle:(4:Int)≤(s.size:Int):=oQ
 clear h2
 go_enter Tryz.func168,Tryz.ntmps168
 go_wp2
 go_ret
 exact ⟨_,rfl,rfl,rfl⟩
theorem trimL_c (s:ByteArray) (h1:s.size=12) (h2:s.data.toList.take 4=Seg.lead) (w:World) :
  Calls Tryz.prog 160 #[.string s,.string ⟨#[115,101,103,46]⟩] w (Rtn fun v w'=>v = .string (s.extract 4 12)∧w=w'):=by
 have hp:=hasPfx_c s h1 h2 w
 go_enter Tryz.func160,Tryz.ntmps160
 go_wp2_with fail
 refine hp.mono ?_
 rintro e w1 ⟨v,rfl,rfl,rfl⟩
 clear hp
 go_wp2
 go_ret
 exact ⟨_,rfl,rfl,rfl⟩
theorem trim_c (s:ByteArray) (h1:s.size=12) (h2:s.data.toList.take 4=Seg.lead) (w:World) :
  Calls Tryz.prog 137 #[.string s,.string ⟨#[115,101,103,46]⟩] w (Rtn fun v w'=>v = .string (s.extract 4 12)∧w=w'):=by
 have hp:=trimL_c s h1 h2 w
 go_enter Tryz.func137,Tryz.ntmps137
 go_wp2_with fail
 refine hp.mono ?_
 rintro e w1 ⟨v,rfl,rfl,rfl⟩
 clear hp
 go_wp2
 go_ret
 exact ⟨_,rfl,rfl,rfl⟩
theorem hname_c (lead:ByteArray) (hl:lead.size=4) (n:Int) (h:Sat w0 w F) :
  Calls Tryz.prog 99 #[.string lead,.int .i64 n] w (Rtn fun v w'=>v = .string (Hin.name lead n)∧Sat w0 w' F):=by
 have hn:=sname_c n h
 have Hf:=uQ (show Hin.name lead n=if Seg.name n=ByteArray.empty then ByteArray.empty else lead++(Seg.name n).extract 4 12 from rfl)
 have Hc:=uQ (Hin.seg_name n)
 generalize Seg.name n=s at *
 go_enter Tryz.func99,Tryz.ntmps99
 go_wp2_with fail
 refine hn.mono ?_
 rintro e w1 ⟨v,rfl,rfl,hS⟩
 clear hn
 rcases Hc.out with rfl|⟨h1,h2⟩
 ·clear hl h
  go_wp2
  go_ret
  exact ⟨_,rfl,by rw [Hf.out];rfl,hS⟩
 ·have hne:s≠ByteArray.empty:=fun e=>by rw [e]at h1;cases h1
  have hne2:(s.toList==[])=false:=by
   rw [beq_eq_false_iff_ne,ByteArray.toList_eq]
   intro e
   have:=congrArg List.length e
   rw [Array.length_toList]at this
   have h1':s.data.size=12:=h1
   rw [h1']at this;cases this
  have hsz:¬ 9223372036854775807<lead.size+(s.extract 4 12).size:=by rw [hl,ByteArray.size_extract];omega
  have Hne:=uQ hne
  have ht:=trim_c s h1 h2
  clear hne h1 h2 hl h
  go_wp2_with fail
  refine (ht _).mono ?_
  rintro e w2 ⟨v,rfl,rfl,rfl⟩
  clear ht
  go_wp2
  go_ret
  exact ⟨_,rfl,by rw [Hf.out,if_neg Hne.out];rfl,hS⟩
theorem iname_c (n:Int) (h:Sat w0 w F):Calls Tryz.prog 54 #[.int .i64 n] w (Rtn fun v w'=>v = .string (Hin.name Hin.idx n)∧Sat w0 w' F):=by
 have hn:=hname_c Hin.idx rfl n h
 go_enter Tryz.func54,Tryz.ntmps54
 go_wp2_with fail
 refine hn.mono ?_
 rintro e w1 ⟨v,rfl,rfl,hS⟩
 clear hn
 go_wp2
 go_ret
 exact ⟨_,rfl,rfl,hS⟩
theorem uname_c (n:Int) (h:Sat w0 w F):Calls Tryz.prog 59 #[.int .i64 n] w (Rtn fun v w'=>v = .string (Hin.name Hin.use n)∧Sat w0 w' F):=by
 have hn:=hname_c Hin.use rfl n h
 go_enter Tryz.func59,Tryz.ntmps59
 go_wp2_with fail
 refine hn.mono ?_
 rintro e w1 ⟨v,rfl,rfl,hS⟩
 clear hn
 go_wp2
 go_ret
 exact ⟨_,rfl,rfl,hS⟩
def hM:Med:=Med.new 100
end
end Go.Proofs.YtfdchfnmpabogaaGreatDoor
namespace Go.Hin
open Go.Med
def number (s:ByteArray):Int×Bool:=
 if s.data.toList.take 4=[105,100,120,46]∨s.data.toList.take 4=[117,115,101,46] then Seg.number ⟨(Seg.lead++s.data.toList.drop 4).toArray⟩ else (0,false)
def newestL:List ByteArray→Int→Int
 |[],m=>m
 |f::l,m=>newestL l (if (number f).2=true then max m (number f).1 else m)
def newest (M:Med):Int:=newestL M.list (-1)
def tmp:ByteArray:=⟨#[116,109,112]⟩
def there (M:Med) (s:ByteArray):Bool:=decide ((M.size s).2=0)
def remTmp (M:Med):Med×Int:=if there M tmp=true then M.remove tmp else (M,0)
def fill (M:Med) (s:ByteArray) (b:Bs):Med×Int:=
 if (M.append tmp b).2=0 then
  (if ((M.append tmp b).1.sync tmp).2=0 then ((M.append tmp b).1.sync tmp).1.rename tmp s else (M.append tmp b).1.sync tmp)
 else if (M.append tmp b).2=11 then
  (if ((M.append tmp b).1.remove tmp).2=0 then (((M.append tmp b).1.remove tmp).1,11) else (M.append tmp b).1.remove tmp)
 else M.append tmp b
def write (M:Med) (s:ByteArray) (b:Bs):Med×Int:=
 if (remTmp M).2=0 then (if ((remTmp M).1.create tmp).2=0 then fill ((remTmp M).1.create tmp).1 s b else (remTmp M).1.create tmp) else remTmp M
def sweep (p:ByteArray→Bool):List ByteArray→Med→Med×Int
 |[],M=>(M,0)
 |f::l,M=>if p f=true then (if (M.remove f).2=0 then sweep p l (M.remove f).1 else M.remove f) else sweep p l M
def other (n:Int) (s:ByteArray):Bool:=(number s).2 && (number s).1 != n
def save2 (M:Med) (n:Int):Med×Int:=if M.syncDir.2=0 then sweep (other n) M.syncDir.1.list M.syncDir.1 else M.syncDir
def save1 (M:Med) (n:Int) (bu:Bs):Med×Int:=if (write M (name use n) bu).2=0 then save2 (write M (name use n) bu).1 n else write M (name use n) bu
def save (M:Med) (n:Int) (bi bu:Bs):Med×Int:=if (write M (name idx n) bi).2=0 then save1 (write M (name idx n) bi).1 n bu else write M (name idx n) bi
abbrev Kept:Type:=List (ByteArray×Nat×Fil)
section
variable {T:Kept}{s1 s2 s:ByteArray}{b1 b2 b:Bs}{K j:Nat}{M M':Med}{l:Names}{fs fs':Nat→Fil}
theorem tmp_ne:tmp≠ByteArray.empty:=by decide
end
section
variable {s:ByteArray}{b b1 b2:Bs}{K r:Nat}{M:Med}
theorem _root_.Go.Seg.Calm.rename (h:Seg.Calm K r M) (s t:ByteArray):Seg.Calm (K+1) r (M.rename s t).1:=by
 have f:=(Fits.does h.ok h.dst h.used ⟨3,s,t,0,0,[],[]⟩ (show (3:Int)≠8 by decide) (show (3:Int)≠9 by decide)).1
 exact ⟨h.ok.rename s t,h.quiet.rename s t,f.dst,f.used,f.room.trans h.room⟩
theorem good_tmp:good tmp=true:=by decide +kernel
theorem size_none (q:Quiet M) (h:nget M.now s=none):M.size s=(0,9):=by unfold Med.size;rw [q.off,h];rfl
theorem there_none (q:Quiet M) (h:nget M.now s=none):there M s=false:=by unfold there;rw [size_none q h];rfl
theorem nput_le (l:Names) (s:ByteArray) (i:Nat):(nput l s i).length≤l.length+1:=by rw [nput_len];have:=ndel_len l s;omega
theorem name_eq (ld:ByteArray) (n:Int) (h1:0≤n) (h2:n<1048576):(name ld n).data.toList=ld.data.toList++Seg.digs n.toNat 8:=by
 have hs:=Seg.good_name n h1 h2
 have hne:=good_ne hs
 unfold name
 rw [if_neg hne]
 have e:Seg.name n=⟨(Seg.lead++Seg.digs n.toNat 8).toArray⟩:=by unfold Seg.name;rw [if_neg oQ]
 rw [e]
 rw [ByteArray.data_append,Array.toList_append,ByteArray.data_extract,Array.toList_extract]
 show _++(List.extract (Seg.lead++Seg.digs n.toNat 8) 4 12)=_
 congr 1
theorem digs_goodC (n k:Nat):(Seg.digs n k).all goodC=true:=by
 rw [List.all_eq_true]
 intro c hc
 have:=(List.all_eq_true.1 (Seg.digs_dig k n)) c hc
 unfold Seg.isDig at this
 rw [Bool.and_eq_true,decide_eq_true_eq,decide_eq_true_eq]at this
 unfold goodC
 have e1:(48:UInt8)≤c:=UInt8.le_iff_toNat_le.2 this.1
 have e2:c≤57:=UInt8.le_iff_toNat_le.2 this.2
 simp [e1,e2]
theorem name_good {ld:ByteArray} (hl:ld.data.toList.length=4) (hg:ld.data.toList.all goodC=true) (n:Int) (h1:0≤n) (h2:n<1048576):good (name ld n)=true:=by
 have e:=name_eq ld n h1 h2
 have hs:(name ld n).size=12:=by
  show (name ld n).data.size=12
  rw [← Array.length_toList,e,List.length_append,hl,Seg.digs_len]
 unfold good
 rw [hs,e,List.all_append,hg,digs_goodC]
 rfl
theorem number_of {ld:ByteArray} (hl:ld.data.toList=[105,100,120,46]∨ld.data.toList=[117,115,101,46]) (n:Int) (h1:0≤n) (h2:n<1048576):number (name ld n)=(n,true):=by
 have e:=name_eq ld n h1 h2
 have hs:=Seg.number_name n h1 h2
 have e2:Seg.name n=⟨(Seg.lead++Seg.digs n.toNat 8).toArray⟩:=by unfold Seg.name;rw [if_neg oQ]
 rw [e2]at hs
 unfold number
 rw [e]
 rcases hl with hl|hl
 ·rw [hl,if_pos (.inl rfl)];exact hs
 ·rw [hl,if_pos (.inr rfl)];exact hs
theorem number_seg (n:Int):number (Seg.name n)=(0,false):=by
 unfold number
 rcases seg_name n with h|⟨_,h⟩
 ·rw [h,if_neg dCz]
 ·rw [h,if_neg dCz]
theorem number_tmp:number tmp=(0,false):=by
 unfold number
 rw [if_neg dCz]
theorem other_no {n:Int}{s:ByteArray} (h:(number s).2=false):other n s=false:=by unfold other;rw [h];rfl
theorem other_self {n:Int}{s:ByteArray} (h:number s=(n,true)):other n s=false:=by unfold other;rw [h];simp
theorem idx_l:idx.data.toList=[105,100,120,46]:=rfl
theorem use_l:use.data.toList=[117,115,101,46]:=rfl
theorem name_ne (n:Int) (h1:0≤n) (h2:n<1048576):name idx n≠name use n:=fun e=>by
 have a:=name_eq idx n h1 h2
 rw [e,name_eq use n h1 h2,idx_l,use_l]at a
 simp at a
theorem seg_ne_idx (m n:Int) (h1:0≤n) (h2:n<1048576):Seg.name m≠name idx n:=fun e=>by
 have a:=number_of (.inl idx_l) n h1 h2
 rw [← e,number_seg]at a
 simp at a
theorem seg_ne_use (m n:Int) (h1:0≤n) (h2:n<1048576):Seg.name m≠name use n:=fun e=>by
 have a:=number_of (.inr use_l) n h1 h2
 rw [← e,number_seg]at a
 simp at a
theorem idx_ne_tmp (n:Int) (h1:0≤n) (h2:n<1048576):name idx n≠tmp:=fun e=>by
 have a:=number_of (.inl idx_l) n h1 h2
 rw [e,number_tmp]at a
 simp at a
theorem use_ne_tmp (n:Int) (h1:0≤n) (h2:n<1048576):name use n≠tmp:=fun e=>by
 have a:=number_of (.inr use_l) n h1 h2
 rw [e,number_tmp]at a
 simp at a
end
end Go.Hin
namespace Go.Seg
open Go.Med
open Go.Frm (encs GoodE fnds)
structure HG (K r E B n:Nat) (L:Log) (M:Med) (C:List (List Frm.Ent)):Prop where
 keeps:Keeps K r L M
 len:L.l.length=C.length
 at_:∀ (k:Nat) (es:List Frm.Ent),C[k]?=some es→L.l[k]?=some ((k:Int),8+((encs es).length:Int))
 file:∀ (k:Nat) (es:List Frm.Ent),C[k]?=some es→M.all (name k)=(mag++encs es,0)
 good:∀ es∈C,(∀ x∈es,GoodE x)∧es≠[]
 count:C.length≤n
 used:M.used≤n * 400+B
 names:M.now.length≤n+E
 cover:∀ (k i:Nat),k<1048576→nget M.now (name (k:Int))=some i→k<C.length
section
variable {K r E B n:Nat}{L:Log}{M:Med}{C:List (List Frm.Ent)}
theorem HG.mono {K' E' B' n':Nat} (h:HG K r E B n L M C) (h1:K≤K') (h2:E≤E') (h3:B≤B') (h4:n≤n'):HG K' r E' B' n' L M C:=
 ⟨h.keeps.mono h1,h.len,h.at_,h.file,h.good,Nat.le_trans h.count h4,Nat.le_trans h.used (Nat.add_le_add (Nat.mul_le_mul_right 400 h4) h3),Nat.le_trans h.names oQ,h.cover⟩
theorem HG.next (h:HG K r E B n L M C):L.next=C.length:=by
 unfold Log.next
 cases hl:L.l.getLast? with
 |none=>
  have:=List.getLast?_eq_none_iff.1 hl
  have h2:=h.len
  rw [this]at h2
  simp only [List.length_nil]at h2
  simp only;omega
 |some s=>
  rw [List.getLast?_eq_getElem?]at hl
  have hlt:=(List.getElem?_eq_some_iff.1 hl).1
  have h2:=h.len
  have hc:C[L.l.length - 1]?=some (C[L.l.length - 1]'oQ):=List.getElem?_eq_getElem oQ
  have h3:=h.at_ _ _ hc
  rw [hl]at h3
  cases h3
  simp only;omega
theorem HG.segs (h:HG K r E B n L M C):L.segs.length=C.length∧∀ k,k<C.length→L.segs[k]?=some (k:Int):=by
 unfold Log.segs
 refine ⟨by rw [List.length_map];exact h.len,fun k hk=>?_⟩
 rw [List.getElem?_map,h.at_ k _ (List.getElem?_eq_getElem hk)];rfl
theorem HG.at_k (h:HG K r E B n L M C){k:Nat}{es:List Frm.Ent} (hk:C[k]?=some es):L.at (k:Int)=some k:=by
 have h1:=h.at_ k es hk
 cases hat:L.at (k:Int) with
 |none=>
  exfalso
  unfold Log.at at hat
  rw [List.findIdx?_eq_none_iff]at hat
  have:=hat _ (List.mem_of_getElem? h1)
  simp at this
 |some i=>
  obtain ⟨h2,s,h3,h4⟩:=Log.at_lt hat
  have h5:i<C.length:=by rw [← h.len];exact h2
  have h6:=h.at_ i _ (List.getElem?_eq_getElem h5)
  rw [h6]at h3
  cases h3
  simp only at h4
  congr 1
  omega
theorem HG.bytes (h:HG K r E B n L M C){k:Nat}{es:List Frm.Ent} (hk:C[k]?=some es):L.bytes M (k:Int)=(mag++encs es,0):=by
 unfold Log.bytes
 rw [h.at_k hk]
 exact h.file k es hk
theorem HG.size (h:HG K r E B n L M C){k:Nat}{es:List Frm.Ent} (hk:C[k]?=some es):L.size (k:Int)=((mag++encs es).length:Nat):=by
 unfold Log.size
 rw [h.at_k hk]
 have h1:=h.at_ k es hk
 simp only [List.getD_eq_getElem?_getD,h1,Option.getD_some,List.length_append]
 have:mag.length=8:=rfl
 omega
theorem HG.ns (h:HG K r E B n L M C):L.segs=(List.range' 0 C.length).map fun i=>((i:Nat):Int):=by
 obtain ⟨h1,h2⟩:=h.segs
 apply List.ext_getElem?
 intro i
 by_cases hi:i<C.length
 ·rw [h2 i hi,List.getElem?_map,List.getElem?_range' hi];simp
 ·rw [List.getElem?_eq_none oQ,List.getElem?_eq_none (by rw [List.length_map,List.length_range'];omega)]
theorem HG.told (h:HG K r E B n L M C):∀ j es,C[j]?=some es→L.bytes M (L.segs.getD j 0)=(mag++encs es,0)∧∀ x∈es,GoodE x:=fun j es hj=>by
 have hl:=(List.getElem?_eq_some_iff.1 hj).1
 rw [List.getD,h.segs.2 j hl]
 exact ⟨h.bytes hj,(h.good es (List.mem_of_getElem? hj)).1⟩
theorem HG.rows (h:HG K r E B n L M C) (i:Nat):Rep.rowsOf (fun s=>L.bytes M s) (L.segs.take i)=Rep.rowsC 0 (C.take i):=by
 have e:L.segs.take i=(List.range' 0 (C.take i).length).map fun i=>((i:Nat):Int):=by
  rw [h.ns,take_nums,List.length_take]
 rw [e]
 refine Rep.rows_is (C.take i) 0 fun j es hj=>?_
 have hj':C[j]?=some es:=by
  rw [List.getElem?_take]at hj
  split at hj
  ·exact hj
  ·cases hj
 rw [Nat.zero_add]
 exact ⟨h.bytes hj',(h.good es (List.mem_of_getElem? hj')).1⟩
theorem HG.bad (h:HG K r E B n L M C) (i:Nat):Rep.bad (fun s=>L.bytes M s) (L.segs.take i)=none:=by
 refine Rep.bad_is fun j s hs=>?_
 have hs':L.segs[j]?=some s:=by
  rw [List.getElem?_take]at hs
  split at hs
  ·exact hs
  ·cases hs
 have hl:j<C.length:=by rw [← h.segs.1];exact (List.getElem?_eq_some_iff.1 hs').1
 have:=h.segs.2 j hl
 rw [hs']at this
 cases this
 exact ⟨_,h.bytes (List.getElem?_eq_getElem hl),(h.good _ (List.getElem_mem hl)).1⟩
theorem HG.split (h:HG K r E B n L M C):∃ c,Rep.split (fun s=>L.bytes M s) L.segs L.segs.length=(c,0)∧c≤C.length∧(c≠0→∃ es,C[c - 1]?=some es∧Rep.endsC es=true)∧∀ j es,c≤j→C[j]?=some es→Rep.endsC es=false:=by
 rw [h.segs.1]
 obtain ⟨c,h1,h2,h3,h4⟩:=Rep.split_is h.segs.1 h.told C.length (Nat.le_refl _)
 exact ⟨c,h1,h2,h3,fun j es a b=>h4 j es a (List.getElem?_eq_some_iff.1 b).1 b⟩
theorem HG.run (h:HG K r E B n L M C):∃ c,Rep.run (fun s=>L.bytes M s) L.segs = .inr c∧c≤C.length∧(c≠0→∃ es,C[c - 1]?=some es∧Rep.endsC es=true)∧∀ j es,c≤j→C[j]?=some es→Rep.endsC es=false:=by
 obtain ⟨c,h1,h2⟩:=h.split
 refine ⟨c,?_,h2⟩
 unfold Rep.run
 rw [h1,if_neg (by simp)]
 exact Rep.runAt_none (h.bad c)
theorem HG.readRow (h:HG K r E B n L M C){r:Rep.Row} (hr:r∈Rep.rowsC 0 C):L.read M (Rep.rplc r)=(r.2.e,0):=by
 obtain ⟨j,es,h1,h2,h3⟩:=Rep.rowsC_mem C 0 hr
 obtain ⟨u,v,h4,h5,h6⟩:=Rep.fnds_mem es 8 h3
 obtain ⟨s,⟨e,at_,size⟩⟩:=r
 simp only at h2 h3 h4 h5 h6
 rw [Nat.zero_add]at h2
 subst h2;subst h5;subst h6
 have hx:GoodE e:=(h.good es (List.mem_of_getElem? h1)).1 e (by rw [h4];simp)
 have hf:=h.file j es h1
 have hm:mag.length=8:=rfl
 have hes:encs es=encs u++((Frm.encode e).1++encs v):=by rw [h4,encs_app];rfl
 have hrd:=read_all h.keeps.calm.quiet hf (a:=8+(encs u).length) (n:=(Frm.encode e).1.length) (by rw [List.length_append,hes,List.length_append,List.length_append];omega)
 have hd:((mag++encs es).drop (8+(encs u).length)).take (Frm.encode e).1.length=(Frm.encode e).1:=by
  rw [hes,← List.append_assoc,List.drop_append,List.drop_of_length_le (by rw [List.length_append];omega)]
  rw [show 8+(encs u).length - (mag++encs u).length=0 by rw [List.length_append];omega,List.drop_zero,List.nil_append,List.take_append_of_le_length (Nat.le_refl _),List.take_length]
 rw [hd]at hrd
 have hre:=Frm.read_encode hx.1 hx.2 []
 rw [List.append_nil]at hre
 unfold Log.read Rep.rplc
 simp only [h.at_k h1]
 rw [hrd]
 simp only [hre]
 rw [if_neg dCz,if_neg dCz,if_neg (by simp)]
theorem HG.append (h:HG K r E B n L M C) (hn:n<1000) (x:Frm.Ent) (hk:x.key.length=32) (hd:x.data.length≤300) (h0:(Frm.encode x).2=0) (hz:(L.append M x).2.2=0∨M.used+400≤M.room∧M.now.length<500) :
  (L.append M x).2.2=0∧(L.append M x).1.1.on=true∧(L.append M x).1.1.limit=L.limit∧HG (K+4) r E B (n+1) (L.append M x).1.1 (L.append M x).1.2 (put C (L.fits (Frm.encode x).1.length) x) ∧
   (L.append M x).1.1.read (L.append M x).1.2 (L.append M x).2.1=(x,0)∧(L.append M x).2.1.seg=(put C (L.fits (Frm.encode x).1.length) x).length - 1:=by
 have hzz:=enc_small h0 hk hd
 have hK:=(h.keeps.append x hk).1
 have hu:=h.used
 have hroom:=h.keeps.calm.room
 have hcnt:=h.count
 cases hf:L.fits (Frm.encode x).1.length with
 |true=>
  rw [Log.append_grow h0 hf]at hK hz ⊢
  have hf':=hf
  unfold Log.fits at hf'
  rw [Bool.and_eq_true,decide_eq_true_eq]at hf'
  obtain ⟨s,hl⟩:=h.keeps.log.last hf'.1
  rw [hl]at hf'
  have hl':=hl
  rw [List.getLast?_eq_getElem?]at hl'
  have hlt:=(List.getElem?_eq_some_iff.1 hl').1
  have hlen:=h.len
  have hne:C≠[]:=by intro e;rw [e,List.length_nil]at hlen;omega
  obtain ⟨c,hc⟩:∃ c,C.length=c+1:=⟨C.length - 1,by omega⟩
  have hcl:C[c]?=some (C.getLastD []):=by
   conv=>lhs;rw [last_of hne]
   rw [List.getElem?_append_right (by rw [List.length_dropLast];omega),List.length_dropLast,show c - (C.length - 1)=0 by omega];rfl
  generalize hes:C.getLastD []=es at *
  have hat:=h.at_ _ _ hcl
  rw [show L.l.length - 1=c by omega,hat]at hl'
  obtain rfl:((c:Int),8+((encs es).length:Int))=s:=by injection hl'
  obtain ⟨i,hi⟩:=h.keeps.has _ (List.mem_of_getLast? hl)
  simp only at hi
  have hall:=h.file _ _ hcl
  have hrm:M.used+(Frm.encode x).1.length≤M.room:=by
   rcases hz with hz|⟨hz,_⟩
   ·rcases append_cases h.keeps.calm.quiet (name (c:Int)) (Frm.encode x).1 with ⟨q1,_⟩|⟨j,q1,⟨q2,q3⟩|⟨q2,q3⟩⟩
    ·rw [hi]at q1;cases q1
    ·unfold Log.grow at hz
     rw [hl]at hz
     simp only [q3]at hz
     rw [if_neg dCz]at hz
     exact absurd (show (11:Int)=0 from hz) dCz
    ·omega
   ·omega
  obtain ⟨a1,a2,a3,a4,a5⟩:=append_full h.keeps.calm hi (Frm.encode x).1 hrm
  have hmem:es∈C:=List.mem_of_getElem? hcl
  have hE:L.grow M (Frm.encode x).1=(({ L with l:=L.l.dropLast++[((c:Int),8+((encs es).length:Int)+((Frm.encode x).1.length:Int))] },(M.append (name (c:Int)) (Frm.encode x).1).1),⟨(c:Int),8+((encs es).length:Int),(Frm.encode x).1.length⟩,0):=by
   unfold Log.grow;rw [hl];simp only [a1,if_true]
  rw [hE]at hK ⊢
  simp only at hK ⊢
  rw [hall]at a4
  have hsz:(encs (es++[x])).length=(encs es).length+(Frm.encode x).1.length:=by rw [encs_app,encs_one,List.length_append]
  have hput:put C true x=C.dropLast++[es++[x]]:=by unfold put;rw [if_pos rfl,hes]
  rw [hput]
  have hdl:C.dropLast.length=c:=by rw [List.length_dropLast];omega
  have a4':(M.append (name (c:Int)) (Frm.encode x).1).1.all (name (c:Int))=(mag++encs (es++[x]),0):=by rw [a4,encs_app,encs_one];simp
  refine ⟨by first|trivial|rfl,hf'.1,by first|trivial|rfl,⟨hK,?_,?_,?_,?_,?_,?_,?_,?_⟩,?_,?_⟩
  ·simp only [List.length_append,List.length_dropLast,List.length_singleton];omega
  ·intro k fs hk'
   have hcl':C[k]?=some fs∧k<c∨k=c∧fs=es++[x]:=by
    rcases Nat.lt_trichotomy k c with q|q|q
    ·rw [List.getElem?_append_left oQ,List.getElem?_dropLast,if_pos oQ]at hk'
     exact .inl ⟨hk',q⟩
    ·subst q
     rw [List.getElem?_append_right oQ,hdl,Nat.sub_self]at hk'
     simp at hk'
     exact .inr ⟨rfl,hk'.symm⟩
    ·rw [List.getElem?_eq_none (by simp only [List.length_append,List.length_singleton];omega)]at hk';cases hk'
   rcases hcl' with ⟨q1,q2⟩|⟨rfl,rfl⟩
   ·rw [List.getElem?_append_left (by rw [List.length_dropLast];omega),List.getElem?_dropLast,if_pos oQ]
    exact h.at_ _ _ q1
   ·rw [List.getElem?_append_right (by rw [List.length_dropLast];omega),List.length_dropLast,show k - (L.l.length - 1)=0 by omega,hsz]
    simp only [List.getElem?_cons_zero,Option.some.injEq,Prod.mk.injEq,true_and]
    omega
  ·intro k fs hk'
   have hcl':C[k]?=some fs∧k<c∨k=c∧fs=es++[x]:=by
    rcases Nat.lt_trichotomy k c with q|q|q
    ·rw [List.getElem?_append_left oQ,List.getElem?_dropLast,if_pos oQ]at hk'
     exact .inl ⟨hk',q⟩
    ·subst q
     rw [List.getElem?_append_right oQ,hdl,Nat.sub_self]at hk'
     simp at hk'
     exact .inr ⟨rfl,hk'.symm⟩
    ·rw [List.getElem?_eq_none (by simp only [List.length_append,List.length_singleton];omega)]at hk';cases hk'
   rcases hcl' with ⟨q1,q2⟩|⟨rfl,rfl⟩
   ·rw [a5 _ (fun e=>by have:=name_inj oQ oQ oQ oQ e;omega)]
    exact h.file _ _ q1
   ·exact a4'
  ·intro fs hfs
   rcases List.mem_append.1 hfs with hfs|hfs
   ·exact h.good fs ((List.dropLast_subset _ hfs))
   ·rw [List.mem_singleton.1 hfs]
    refine ⟨fun y hy=>?_,by simp⟩
    rcases List.mem_append.1 hy with hy|hy
    ·exact (h.good es hmem).1 y hy
    ·rw [List.mem_singleton.1 hy];exact ⟨h0,hk⟩
  ·simp only [List.length_append,List.length_singleton];omega
  ·rw [a3];omega
  ·rw [a2];have:=h.names;omega
  ·intro k j hkk hj
   rw [a2]at hj
   have:=h.cover k j hkk hj
   simp only [List.length_append,List.length_singleton];omega
  ·exact read_back (s:=((c:Int),8+((encs es).length:Int)+((Frm.encode x).1.length:Int))) hK (by simp) a4' ⟨h0,hk⟩
  ·simp only [List.length_append,List.length_singleton];omega
 |false=>
  rw [Log.append_begin h0 hf]at hK hz ⊢
  obtain ⟨s1,s2,s3,s4,s5⟩:=h.keeps.shut
  have hlim:=Log.shut_limit L M
  have hB:L.begin M (Frm.encode x).1=(L.shut M).1.1.begin1 (L.shut M).1.2 (Frm.encode x).1:=by unfold Log.begin;rw [if_pos s2]
  rw [hB]at hK hz ⊢
  have hnx:(L.shut M).1.1.next=C.length:=by rw [← h.next];unfold Log.next;rw [s3]
  have hall2:=s5.all
  have hnow:=s5.now
  have hused:=s5.used
  have hroom2:=s1.calm.room
  generalize (L.shut M).1.1=L1 at *
  generalize (L.shut M).1.2=M1 at *
  have hnn:nget M1.now (name (C.length:Int))=none:=by
   cases hq:nget M1.now (name (C.length:Int)) with
   |none=>rfl
   |some i=>
    exfalso
    rw [hnow]at hq
    have:=h.cover C.length i oQ hq
    omega
  have hlt5:M1.now.length<500:=by
   rcases hz with hz|⟨_,hz⟩
   ·rcases create_cases s1.calm.quiet (name (C.length:Int)) with ⟨q1,_,_⟩|⟨_,_,q3,_⟩
    ·unfold Log.begin1 at hz
     rw [hnx,if_neg oQ,if_pos q1]at hz
     exact absurd hz q1
    ·exact q3
   ·rw [hnow];exact hz
  obtain ⟨c1,c2,c3,c4,c5⟩:=create_full s1.calm (good_name (C.length:Int) oQ oQ) hnn hlt5
  have hc1:=s1.calm.create (name (C.length:Int))
  have hself:nget (M1.create (name (C.length:Int))).1.now (name (C.length:Int))=some M1.files.length:=by rw [c2];exact nget_put_self s1.calm.ok.nowOk.srt _ _
  have hrm:(M1.create (name (C.length:Int))).1.used+(mag++(Frm.encode x).1).length≤(M1.create (name (C.length:Int))).1.room:=by
   rcases hz with hz|⟨hz,_⟩
   ·rcases append_cases hc1.quiet (name (C.length:Int)) (mag++(Frm.encode x).1) with ⟨q1,_⟩|⟨j,q1,⟨q2,q3⟩|⟨q2,q3⟩⟩
    ·rw [hself]at q1;cases q1
    ·unfold Log.begin1 at hz
     rw [hnx,if_neg oQ,if_neg (fun hh=>hh c1)]at hz
     simp only [q3]at hz
     rw [if_neg dCz]at hz
     simp only [if_true]at hz
     split at hz
     ·exact absurd hz dCz
     ·rename_i g;exact absurd hz g
    ·omega
   ·rw [c3,hused,hc1.room,List.length_append];have:mag.length=8:=rfl;omega
  obtain ⟨a1,a2,a3,a4,a5⟩:=append_full hc1 hself (mag++(Frm.encode x).1) hrm
  have hE:L1.begin1 M1 (Frm.encode x).1=(({ L1 with l:=L1.l++[((C.length:Int),8+((Frm.encode x).1.length:Int))],on:=true,fresh:=L1.fresh+1 },((M1.create (name (C.length:Int))).1.append (name (C.length:Int)) (mag++(Frm.encode x).1)).1),⟨(C.length:Int),8,(Frm.encode x).1.length⟩,0):=by
   unfold Log.begin1
   rw [hnx,if_neg oQ,if_neg (fun hh=>hh c1),if_pos a1]
  rw [hE]at hK ⊢
  simp only at hK ⊢
  rw [c4]at a4
  have a4':((M1.create (name (C.length:Int))).1.append (name (C.length:Int)) (mag++(Frm.encode x).1)).1.all (name (C.length:Int))=(mag++encs ([]++[x]),0):=by rw [a4,encs_app,encs_one];simp [encs]
  have hput:put C false x=C++[[x]]:=by unfold put;rw [if_neg dCz]
  rw [hput]
  have hlen:=h.len
  refine ⟨by first|trivial|rfl,by first|trivial|rfl,hlim,⟨hK,?_,?_,?_,?_,?_,?_,?_,?_⟩,?_,?_⟩
  ·simp only [s3,List.length_append,List.length_singleton];omega
  ·intro k fs hk'
   rcases Nat.lt_trichotomy k C.length with q|q|q
   ·rw [List.getElem?_append_left q]at hk'
    rw [s3,List.getElem?_append_left oQ]
    exact h.at_ _ _ hk'
   ·subst q
    rw [List.getElem?_append_right (Nat.le_refl _),Nat.sub_self]at hk'
    simp at hk'
    subst hk'
    rw [s3,List.getElem?_append_right oQ,hlen,Nat.sub_self,encs_one]
    rfl
   ·rw [List.getElem?_eq_none (by simp only [List.length_append,List.length_singleton];omega)]at hk';cases hk'
  ·intro k fs hk'
   rcases Nat.lt_trichotomy k C.length with q|q|q
   ·rw [List.getElem?_append_left q]at hk'
    have hne:name (k:Int)≠name (C.length:Int):=fun e=>by have:=name_inj oQ oQ oQ oQ e;omega
    rw [a5 _ hne,c5 _ hne,hall2]
    exact h.file _ _ hk'
   ·subst q
    rw [List.getElem?_append_right (Nat.le_refl _),Nat.sub_self]at hk'
    simp at hk'
    subst hk'
    exact a4'
   ·rw [List.getElem?_eq_none (by simp only [List.length_append,List.length_singleton];omega)]at hk';cases hk'
  ·intro fs hfs
   rcases List.mem_append.1 hfs with hfs|hfs
   ·exact h.good fs hfs
   ·rw [List.mem_singleton.1 hfs]
    exact ⟨fun y hy=>by rw [List.mem_singleton.1 hy];exact ⟨h0,hk⟩,by simp⟩
  ·simp only [List.length_append,List.length_singleton];omega
  ·rw [a3,c3,hused,List.length_append];have:mag.length=8:=rfl;omega
  ·rw [a2,c2,nput_len]
   have:=ndel_len M1.now (name (C.length:Int))
   rw [hnow]at this
   have:=h.names
   rw [hnow];omega
  ·intro k j hkk hj
   by_cases e:k=C.length
   ·subst e;simp
   ·rw [a2,c2,nget_put_ne (fun q=>e (by have:=name_inj oQ oQ oQ oQ q;omega)),hnow]at hj
    have:=h.cover k j hkk hj
    simp only [List.length_append,List.length_singleton];omega
  ·exact read_back (s:=((C.length:Int),8+((Frm.encode x).1.length:Int))) (es:=[]) hK (by simp) a4' ⟨h0,hk⟩
  ·simp only [List.length_append,List.length_singleton];omega
theorem HG.commit (h:HG K r E B n L M C) (hn:n<1000) (hz:(L.append M comEnt).2.2=0∨M.used+400≤M.room∧M.now.length<500) :
  (L.commit M).2.2=0∧(L.commit M).1.1.on=false∧(L.commit M).1.1.limit=L.limit∧HG (K+5) r E B (n+1) (L.commit M).1.1 (L.commit M).1.2 (put C (L.fits (Frm.encode comEnt).1.length) comEnt):=by
 obtain ⟨a1,a2,a3,a4,a5,a6⟩:=h.append hn comEnt rfl dCz rFz hz
 obtain ⟨i,hi⟩:=append_place h.keeps comEnt rfl a1
 have hlog:=h.keeps.log.commit M
 have hcalm:=h.keeps.commit
 rw [Log.commit_eq]at hlog hcalm ⊢
 rw [if_neg (fun hh=>hh a1)]at hlog hcalm ⊢
 generalize L.append M comEnt=r at *
 obtain ⟨⟨L1,M1⟩,p1,e1⟩:=r
 simp only at *
 have hs:=sync_alike a4.keeps.calm.ok a4.keeps.calm.quiet (name p1.seg)
 have hsc:=a4.keeps.calm.sync (name p1.seg)
 have es:=a4.keeps.calm.quiet.sync_eq hi
 have es2:(M1.sync (name p1.seg)).2=0:=by rw [es]
 rw [if_neg (fun hh=>hh es2)]at hlog hcalm ⊢
 generalize (M1.sync (name p1.seg)).1=M2 at *
 have ed:=hsc.quiet.syncDir_eq
 have ed2:M2.syncDir.2=0:=by rw [ed]
 rw [if_neg (fun hh=>hh ed2)]at hlog hcalm ⊢
 have had:Alike M2 M2.syncDir.1:=by rw [ed];exact ⟨rfl,rfl,rfl,fun _ _=>rfl⟩
 have ha:=hs.trans had
 refine ⟨rfl,rfl,a3,⟨hcalm,a4.len,a4.at_,fun k es' hk=>by rw [ha.all];exact a4.file k es' hk,a4.good,a4.count,by rw [ha.used];exact a4.used,by rw [ha.now];exact a4.names,by rw [ha.now];exact a4.cover⟩⟩
end
end Go.Seg
namespace Go.Seg
open Go.Med
open Go.Frm (encs GoodE fnds Ent)
def toE (d:Ent):Ent:=if d.tag=0 then ⟨0,d.key,d.data⟩ else if d.tag=1 then ⟨1,d.key,[]⟩ else comEnt
def isPut (d:Ent):Prop:=d.tag=0∨d.tag=1
instance (d:Ent):Decidable (isPut d):=by unfold isPut;infer_instance
structure Pl (n:Nat) (ds:List Ent) (L:Log) (M:Med) (C:List (List Ent)):Prop where
 holds:Holds n L M C
 tail:Tail L.on C
 flat:C.flatten=ds.map toE
 small:∀ x∈C.flatten,x.data.length≤300
section
variable {n:Nat}{ds:List Ent}{L:Log}{M:Med}{C C0:List (List Ent)}{d:Ent}
theorem toE_good (hk:d.key.length=32) (hd:d.data.length≤300):(Frm.encode (toE d)).2=0:=by
 have hc:Frm.check (toE d)=0:=by
  unfold toE
  split
  ·unfold Frm.check
   simp only [if_true]
   rw [if_neg oQ]
  split
  ·unfold Frm.check
   simp
  ·decide
 unfold Frm.encode
 rw [if_neg (by simp [hc])]
end
end Go.Seg
namespace Go.Rep
open Go.Frm (Bs Fnd Ent fnds encs GoodE)
open Go.Seg (Plc mag)
open Go.Tab
def segSum (l:List Row) (s:Int):Int:=(l.map fun r=>if r.1=s then (r.2.size:Int) else 0).sum
theorem segSum_app (a b:List Row) (s:Int):segSum (a++b) s=segSum a s+segSum b s:=by unfold segSum;rw [List.map_append,List.sum_append]
theorem live_seg {l:List Row} (s:Int):∀ i,i≤l.length→0≤live l s i∧live l s i≤segSum (l.take i) s
 |0,_=>⟨Int.le_refl 0,by simp [live,segSum]⟩
 |i+1,hi=>by
  have ih:=live_seg (l:=l) s i oQ
  obtain ⟨r,hr⟩:∃ r,l[i]?=some r:=⟨_,List.getElem?_eq_getElem oQ⟩
  rw [List.take_add_one,hr,Option.toList_some,segSum_app]
  have e:segSum [r] s=if r.1=s then (r.2.size:Int) else 0:=by unfold segSum;simp
  rw [e]
  unfold live
  rw [hr]
  simp only
  by_cases h:r.1=s
  ·rw [if_pos h]
   split <;> omega
  ·rw [if_neg h,if_neg (fun hh=>h hh.2)];omega
theorem fnds_sum:∀ (es:List Ent) (a:Nat),((fnds es a).map fun f=>(f.size:Int)).sum=(encs es).length
 |[],_=>rfl
 |x::es,a=>by
  have e:encs (x::es)=(Frm.encode x).1++encs es:=rfl
  unfold fnds
  rw [List.map_cons,List.sum_cons,fnds_sum es,e,List.length_append];simp
theorem segSum_row (l:List Fnd) (k s:Int):segSum (l.map fun f=>(k,f)) s=if k=s then (l.map fun f=>(f.size:Int)).sum else 0:=by
 unfold segSum
 rw [List.map_map]
 by_cases h:k=s
 ·rw [if_pos h]
  congr 1
  refine List.map_congr_left fun f _=>?_
  simp [h]
 ·rw [if_neg h]
  induction l with
  |nil=>rfl
  |cons f l ih=>rw [List.map_cons,List.sum_cons,ih];simp [h]
theorem segSum_lt:∀ (C:List (List Ent)) (k:Nat) (s:Int),s<k→segSum (rowsC k C) s=0
 |[],_,_,_=>rfl
 |es::C,k,s,h=>by
  unfold rowsC
  rw [segSum_app,segSum_lt C (k+1) s oQ,segSum_row,if_neg oQ];rfl
theorem segSum_is:∀ (C:List (List Ent)) (k j:Nat) (es:List Ent),C[j]?=some es→segSum (rowsC k C) ((k+j:Nat):Int)=(encs es).length
 |[],_,_,_,h=>by simp at h
 |fs::C,k,0,es,h=>by
  obtain rfl:fs=es:=by simpa using h
  unfold rowsC
  rw [segSum_app,segSum_lt C (k+1) _ oQ,segSum_row,if_pos (by simp),fnds_sum];simp
 |fs::C,k,j+1,es,h=>by
  unfold rowsC
  rw [segSum_app,segSum_row,if_neg oQ]
  have:=segSum_is C (k+1) j es (by simpa using h)
  rw [show k+(j+1)=k+1+j by omega,this];simp
end Go.Rep
namespace Go.Proofs.YtfdchfnmpabogaaGreatDoor
open Go Go.Sl Go.Med Go.MapKept Go.RowKit
section
variable {P:Program}{w0 w:World}{L L':List HProp}{b o:Nat}{ops:Array Oper}{a:Act}{Q:Exit→Act→World→Prop}{dst:Option Tmp}{t ty T:TypeId}{pos:String}{after:Array Edge}{x y:Operand}{cs:Array Value}{v:Value}{K:Act→World→Prop}{E:Prop}
theorem eff_alloc (hz:zeroB P ty=some v) (hs:Sat w0 w L) (hcs:v.cells=cs)
  (hK:∀ b w',Sat w0 w' (pt b (.cells cs ty (0,0))::L)→K (a.put dst (.pointer (some ⟨b,0,none⟩))) w') :
  if Region.wanted ⟨dst,.alloc ty,t,pos,after,none⟩ (yielded ops a.tmps)=true then Oper.wp P ⟨dst,.alloc ty,t,pos,after,none⟩ a w K Q else E:=by
 subst hcs
 refine eff_of rfl ?_
 have hS:=hs.alloc (.cells v.cells ty)
 unfold Oper.wp execOp
 have hrun:(Instr.alloc ty true (.tuple #[])).run P w = .ok (.pointer (some ⟨w.heap.size,0,none⟩)) (w.alloc (.cells v.cells ty)):=by
  simp [Instr.alloc,run_zeroB hz w,newVar,newRow,go_sem,Result.andThen]
 simp only [Sem.run_bind,Sem.run_pure,hrun,Result.andThen_ok]
 exact hK _ _ hS
end
section
variable {w0 w:World}{F R:List HProp}{d i:Nat}{D:Med}{fsv fv nv wv v lv bv:Value}{xs:List RF}{x:RF}{g:Bag}{K:Nat}
section
variable {P:Program}{b o:Nat}{ops:Array Oper}{rest:List Oper}{a:Act}{Q:Exit→Act→World→Prop}{dst:Option Tmp}{t ty:Nat}{pos:String}{after:Array Edge}{y:Operand}
end
end
end Go.Proofs.YtfdchfnmpabogaaGreatDoor
namespace Go.Med
section
variable {c c' K:Nat}{f:Fil}{M:Med}
end
end Go.Med
namespace Go.Seg
open Go.Med
section
variable {c c' K n:Nat}{L:Log}{M:Med}
theorem com_len:(Frm.encode comEnt).1.length=9:=(size_enc (x:=comEnt) rFz rFz).trans rFz
end
def Log.drop (t:List Int):Nat→Log→Med→(Log×Med)×Int
 |0,L,M=>if t=[] then ((L,M),0) else ((L,M.syncDir.1),M.syncDir.2)
 |k+1,L,M=>if (L.remove M (t.getD k 0)).2=0 then Log.drop t k (L.remove M (t.getD k 0)).1.1 (L.remove M (t.getD k 0)).1.2 else L.remove M (t.getD k 0)
section
variable {t:List Int}{L:Log}{M D:Med}{K i:Nat}
theorem drop_nil (h:t=[]):Log.drop t 0 L M=((L,M),0):=by unfold Log.drop;rw [if_pos h]
theorem drop_end (h:t≠[]):Log.drop t 0 L M=((L,M.syncDir.1),M.syncDir.2):=by unfold Log.drop;rw [if_neg h]
theorem drop_go {k:Nat} (h:(L.remove M (t.getD k 0)).2=0):Log.drop t (k+1) L M=Log.drop t k (L.remove M (t.getD k 0)).1.1 (L.remove M (t.getD k 0)).1.2:=by
 conv=>lhs;unfold Log.drop
 rw [if_pos h]
theorem drop_no {k:Nat} (h:(L.remove M (t.getD k 0)).2≠0):Log.drop t (k+1) L M=L.remove M (t.getD k 0):=by
 conv=>lhs;unfold Log.drop
 rw [if_neg h]
theorem remove_med (h:M.Ok K) (n:Int):(L.remove M n).1.2.Ok (K+1):=by
 unfold Log.remove
 cases L.at n with
 |none=>exact h.mono (Nat.le_succ K)
 |some i=>simp only;split <;> exact h.remove _
end
end Go.Seg
namespace Go.Proofs.YtfdchfnmpabogaaGreatDoor
open Go Go.Sl Go.Med Go.MapKept Go.RowKit
def RunOut (w0:World) (F:List HProp) (bt:Rep.Told) (ns:List Int) (p m:Nat) (L:Seg.Log) (M:Med) (v:Value) (w':World):Prop:=
 match Rep.run bt ns with
 |.inl (fl,e)=>v = .tuple #[.pointer none,.agg (fltA fl),errno e]∧Sat w0 w' (LogRep p m L::MedRep m M::F)
 |.inr n=>∃ (ps pi:Nat) (uv tv av:Value) (kv:List (Frm.Bs×Rep.Abt)),v = .tuple #[ptr ps,.agg (fltA Rep.Flt.zero),errno 0] ∧
   (Tab.Lists (Rep.ledger (Rep.rowsOf bt (ns.take n))) kv∧(∀ q∈kv,q.1.length=32)∧kv.length≤(Rep.rowsOf bt (ns.take n)).length) ∧
   ((∃ a' c',tv = .slice a' (ns.length - n) c')∧∀ W,rdsl 1 av (ints ns) W→rdsl 1 tv (ints (ns.drop n)) W) ∧
   Sat w0 w' (stPt ps (Rep.lastOfL (ns.take n)) pi uv tv::TabML pi (Tab.mapOf (Rep.puts kv)) kv.length::osl 132 3 uv (((Rep.usesOf bt (ns.take n)).map (Rep.upd kv)).flatMap uenc)::osl 3 1 av (ints ns)::LogRep p m L::MedRep m M::F)
section
variable {w0 w:World}{F:List HProp}{p m K:Nat}{L:Seg.Log}{M:Med}
theorem zLed:zeroB Tryz.prog 202=some (.agg #[.pointer none]):=by kernel_rfl
set_option maxRecDepth 20000 in
theorem run_c (hL:L.Ok) (hM:M.Ok K) (hH:Ro w0 F Half) (hrows:(Rep.rowsOf (lbt L M) L.segs).length≤12000000) (hsz:∀ r∈Rep.rowsOf (lbt L M) L.segs,(r.2.size:Int)≤4294967296) (h:Sat w0 w (LogRep p m L::MedRep m M::F)) :
  Calls Tryz.prog 64 #[ptr p] w (Rtn fun v w'=>RunOut w0 F (lbt L M) L.segs p m L M v w'):=by
 have Hlen:=uQ (show L.segs.length≤1048576 from by unfold Seg.Log.segs;rw [List.length_map];have:=hL.len;omega)
 have hse:=lsegs_c hL h
 have Hnn:=uQ (show ∀ s∈L.segs,0≤s from fun s hs=>by
  unfold Seg.Log.segs at hs
  obtain ⟨x,hx,rfl⟩:=List.mem_map.1 hs
  exact (hL.nums x hx).1)
 have HL:=uQ hL;have HM:=uQ hM;have HH:=uQ hH;have Hrows:=uQ hrows;have Hsz:=uQ hsz
 clear hL hM hH hrows hsz
 go_enter Tryz.func64,Tryz.ntmps64
 go_wp2_with (with_reducible apply at_alloc)
 refine ⟨wl_alloc zFlt h rfl ?_⟩
 intro b3 w3 h3
 clear hse h
 go_wp2_with fail
 refine (lsegs_c HL.out (h3.pick pick1)).mono ?_
 rintro ee w4 ⟨sv,rfl,h4⟩
 have hsp:=split_c HL.out HM.out (Ro.os HH.out) (h4.sb:Sat w0 w4 (osl 3 1 sv (ints L.segs)::LogRep p m L::MedRep m M::pt b3 (.cells (fltA Rep.Flt.zero) 52 (0,0))::F))
 clear h3 h4
 go_wp2_with fail
 refine hsp.mono ?_
 rintro ee w5 ⟨v,rfl,rfl,h5⟩
 clear hsp
 by_cases h0:(Rep.split (lbt L M) L.segs L.segs.length).2=0
 rotate_left
 ·have hb:((Rep.split (lbt L M) L.segs L.segs.length).2 != 0)=true:=by rw [bne_iff_ne];exact h0
  have Hf:=uQ (show Rep.run (lbt L M) L.segs = .inl (Rep.Flt.zero,(Rep.split (lbt L M) L.segs L.segs.length).2) by unfold Rep.run;rw [if_pos h0])
  have h6:Sat w0 w5 (pt b3 (.cells (fltA Rep.Flt.zero) 52 (0,0))::LogRep p m L::MedRep m M::F):=h5.sb
  clear h0 h5
  go_wp2_with (first
   |((with_reducible refine at_build0 ⟨?_⟩);refine wl_build0 (fun w=>run_flt0 w) ?_)
   |((with_reducible refine at_store ⟨?_⟩);refine wl_storeA (fltA Rep.Flt.zero) h6 rFz rFz rFz upd0 kRz rFz ?_;intro w9 h9))
  refine ⟨rfl,_,res_tct rfl h9 rFz pkD Tryz.underlying52 rfl kRz,_,rfl,?_⟩
  unfold RunOut
  rw [Hf.out]
  exact ⟨rfl,h9.drop⟩
 have hb:((Rep.split (lbt L M) L.segs L.segs.length).2 != 0)=false:=by rw [h0];rfl
 have Hle:=uQ (Rep.split_le (lbt L M) L.segs L.segs.length)
 have Hf:=uQ (show Rep.run (lbt L M) L.segs=Rep.runAt (lbt L M) L.segs (Rep.split (lbt L M) L.segs L.segs.length).1 by unfold Rep.run;rw [if_neg (fun h=>h h0)])
 rw [h0]
 generalize (Rep.split (lbt L M) L.segs L.segs.length).1=n at *
 clear h0
 obtain ⟨tv,htl,⟨ta,tc,rfl⟩,htr⟩:=tail_c Hle.out h5
 have Htr:=uQ htr
 clear htr
 go_wp2_with fail
 have hG:True:=trivial
 have h6:=h5.drew
 clear h5
 refine wpL_begin [] (fun w'=>True) kRz ?_
 refine rP 1 ?_ (y:=mvQ)
 refine rP 2 ?_ (y:=mvQ)
 refine rP 3 ?_ (y:=(yl_slice_lo evD evD htl))
 refine rg_eff 0 evD kRz (fun K hK=>?_)
 refine eff_call [] kRz (by simp) ?_
 refine (newL_c h6).mono ?_
 rintro ee w7 ⟨v,rfl,pi,rfl,h7⟩
 refine hK _ _ (.inr (.inl trivial)) ?_
 clear hK h6
 refine rp 4 (hy:=(by (refine Or.inl ⟨by rfl,?_⟩;((intro wq;go_simp);first|done|exact wQ)))) (h:=?_)
 refine rg_eff 5 evD kRz (fun K hK=>?_)
 refine eff_box (cs:=#[.int .i64 (-1),ptr pi,.slice none 0 0,.slice ta (L.segs.length - n) tc]) h7 evD evD ?_
 intro ps w8 h8
 refine hK _ _ (.inr (.inl trivial)) ?_
 clear hK h7
 refine rP 6 ?_ (y:=asQ)
 refine wpL_done kRz ?_
 clear hG
 go_wp2_with fail
 refine (newA_c h8).mono ?_
 rintro ee w9 ⟨v,rfl,pg,rfl,h9⟩
 clear h8
 go_wp2_with (with_reducible apply at_alloc)
 refine ⟨wl_alloc zLed h9 rfl ?_⟩
 intro b9 w10 h10
 clear h9
 obtain ⟨ha,hc,hhl,hhr⟩:=head_c Hle.out (h10.sb:Sat w0 w10 (osl 3 1 sv (ints L.segs)::F))
 go_wp2_with ((with_reducible refine at_store ⟨?_⟩);refine wl_store (cs':=#[ptr pg]) h10 rFz evD rFz upd0 nLz kRz rFz ?_;intro w11 h11)
 have h12:Sat w0 w11 (stPt ps (Rep.lastOfL (L.segs.take 0)) pi (.slice none 0 0) (.slice ta (L.segs.length - n) tc)::osl 132 3 (.slice none 0 0) ((Rep.usesOf (lbt L M) (L.segs.take 0)).flatMap uenc)::TabML pi (fun _=>none) 0::pt b9 (.cells #[ptr pg] 202 (0,0)) ::
  TabMA pg (Rep.ledger (Rep.rowsOf (lbt L M) (L.segs.take 0))) (Rep.rowsOf (lbt L M) (L.segs.take 0)).length::pt b3 (.cells (fltA Rep.Flt.zero) 52 (0,0))::osl 3 1 sv (ints L.segs)::LogRep p m L::MedRep m M::F):=(Sat.osl_nil.2 h11).sb
 clear h10 h11 htl
 go_loopg [45] n (fun g iq wr=>∃ (i:Nat) (uv:Value),g=n - i∧i≤n∧iq = .int .i64 i∧Rep.bad (lbt L M) (L.segs.take i)=none∧Sat w0 wr (stPt ps (Rep.lastOfL (L.segs.take i)) pi uv (.slice ta (L.segs.length - n) tc)::osl 132 3 uv ((Rep.usesOf (lbt L M) (L.segs.take i)).flatMap uenc)::TabML pi (fun _=>none) 0::pt b9 (.cells #[ptr pg] 202 (0,0)) ::
  TabMA pg (Rep.ledger (Rep.rowsOf (lbt L M) (L.segs.take i))) (Rep.rowsOf (lbt L M) (L.segs.take i)).length::pt b3 (.cells (fltA Rep.Flt.zero) 52 (0,0))::osl 3 1 sv (ints L.segs)::LogRep p m L::MedRep m M::F))
 case atStart=>exact ⟨0,.slice none 0 0,rfl,Nat.zero_le _,rfl,rfl,h12⟩
 case round=>
  obtain ⟨i,uv,rfl,hi,rfl,hbad,hS⟩:=hrel
  clear h12
  have Hbad:=uQ hbad
  clear hbad
  by_cases hlt:i<n
  rotate_left
  ·obtain rfl:i=n:=by omega
   have c1:¬ (i:Int)<(i:Int):=oQ
   obtain ⟨kv,k1,k2,k3⟩:=TabMA.lists (hS.pk (A:=TabMA pg (Rep.ledger (Rep.rowsOf (lbt L M) (L.segs.take i))) (Rep.rowsOf (lbt L M) (L.segs.take i)).length))
   have k4:=Nat.le_trans (Rep.rowsOf_le (lbt L M) L.segs i) Hrows.out
   have hks:∀ q∈kv,q.1.length=32∧0≤q.2.place.size∧q.2.place.size≤4294967296:=fun q hq=>by
    obtain ⟨r,hr,e⟩:=Rep.ledger_place ((k1.mem q.1 q.2).1 hq)
    rw [e]
    exact ⟨k2 q hq,Int.natCast_nonneg _,Hsz.out r (Rep.rowsOf_take _ _ _ r hr)⟩
   have hfl:=fill_c (us:=Rep.usesOf (lbt L M) (L.segs.take i)) k1 oQ oQ hks (by unfold Rep.usesOf;rw [List.length_map,List.length_take];have:=Hlen.out;omega)
    (hS.sb:Sat w0 wr (stPt ps (Rep.lastOfL (L.segs.take i)) pi uv (.slice ta (L.segs.length - i) tc)::TabML pi (fun _=>none) 0::TabMA pg (Rep.ledger (Rep.rowsOf (lbt L M) (L.segs.take i))) (Rep.rowsOf (lbt L M) (L.segs.take i)).length ::
     osl 132 3 uv ((Rep.usesOf (lbt L M) (L.segs.take i)).flatMap uenc)::pt b3 (.cells (fltA Rep.Flt.zero) 52 (0,0))::osl 3 1 sv (ints L.segs)::LogRep p m L::MedRep m M::F))
   have K:=uQ (And.intro k1 (And.intro k2 k3))
   have Hg:=uQ (Hf.out.trans (Rep.runAt_none Hbad.out))
   have Htv:=uQ Htr.out
   clear k1 k2 k3 k4 hks hlt hi
   go_wp2_with ((with_reducible refine at_load ⟨?_⟩);refine wl_loadA (cs:=#[ptr pg]) hS rFz (pick_there (pick_there (pick_there pick0))) Tryz.underlying202 rfl kRz ?_)
   refine hfl.mono ?_
   rintro ee w14 ⟨v,rfl,h14⟩
   clear hfl hS
   go_wp2_with (first
    |((with_reducible refine at_build0 ⟨?_⟩);refine wl_build0 (fun w=>run_flt0 w) ?_)
    |((with_reducible refine at_store ⟨?_⟩);refine wl_storeA (fltA Rep.Flt.zero) h14 rFz rFz rFz (upd_there (upd_there (upd_there (upd_there upd0)))) kRz rFz ?_;intro w15 h15))
   refine ⟨rfl,_,res_tct rfl h15 rFz (pick_there (pick_there (pick_there (pick_there pick0)))) Tryz.underlying52 rfl kRz,_,rfl,?_⟩
   unfold RunOut
   rw [Hg.out]
   exact ⟨ps,pi,uv,.slice ta (L.segs.length - i) tc,sv,kv,rfl,K.out,⟨⟨ta,tc,rfl⟩,Htv.out⟩,h15.sb⟩
  have c1:(i:Int)<(n:Int):=oQ
  have hwi:IntKind.i64.wrap ((i:Int)+1)=(i:Int)+1:=IntWalk.i64_in _ (by have:=Hle.out;have:=Hlen.out;omega)
  have hni:(L.segs.take n).length=n:=by rw [List.length_take];have:=Hle.out;omega
  obtain ⟨s,hs⟩:∃ s,(L.segs.take n)[i]?=some s:=⟨_,List.getElem?_eq_getElem oQ⟩
  have hs2:L.segs[i]?=some s:=by rw [List.getElem?_take]at hs;rw [if_pos hlt]at hs;exact hs
  have Htk:=uQ (show L.segs.take (i+1)=L.segs.take i++[s] by rw [List.take_add_one,hs2,Option.toList_some])
  have Hspl:=uQ (show ∃ post,L.segs.take n=L.segs.take i++s::post by
   obtain ⟨h1,e⟩:=List.getElem?_eq_some_iff.1 hs
   refine ⟨(L.segs.take n).drop (i+1),?_⟩
   have e2:L.segs.take i=(L.segs.take n).take i:=by rw [List.take_take,Nat.min_eq_left (Nat.le_of_lt hlt)]
   rw [e2,← e,← List.drop_eq_getElem_cons h1,List.take_append_drop])
  have Hs0:=uQ (Hnn.out s (List.mem_of_getElem? hs2))
  obtain ⟨bk,off,c',hsv,f0⟩:=ints_cell (hhr _ (Sat.rd (hS.pk (A:=osl 3 1 sv (ints L.segs))))) hs
  rw [hni]at hsv
  cases hsv
  have hb:=lbytes_c HL.out HM.out s (hS.sb:Sat w0 wr (LogRep p m L::MedRep m M::stPt ps (Rep.lastOfL (L.segs.take i)) pi uv (.slice ta (L.segs.length - n) tc)::osl 132 3 uv ((Rep.usesOf (lbt L M) (L.segs.take i)).flatMap uenc)::TabML pi (fun _=>none) 0::pt b9 (.cells #[ptr pg] 202 (0,0)) ::
   TabMA pg (Rep.ledger (Rep.rowsOf (lbt L M) (L.segs.take i))) (Rep.rowsOf (lbt L M) (L.segs.take i)).length::pt b3 (.cells (fltA Rep.Flt.zero) 52 (0,0))::osl 3 1 sv (ints L.segs)::F))
  have Hlt:=uQ hlt
  clear hS hs hs2 hni hlt hi
  go_wp2_with fail
  refine hb.mono ?_
  rintro ee w20 ⟨v,rfl,bv,rfl,h20⟩
  clear hb f0
  obtain ⟨hcap,ca,cc,rfl⟩:=bsl_capL h20
  by_cases h0:(L.bytes M s).2=0
  rotate_left
  ·have hb1:((L.bytes M s).2 != 0)=true:=by rw [bne_iff_ne];exact h0
   have Hg:=uQ (show Rep.run (lbt L M) L.segs = .inl (Rep.Flt.zero,(L.bytes M s).2) by
    rw [Hf.out]
    obtain ⟨post,e⟩:=Hspl.out
    exact Rep.runAt_bad (by rw [e];exact Rep.bad_power Hbad.out h0))
   have h21:Sat w0 w20 (pt b3 (.cells (fltA Rep.Flt.zero) 52 (0,0))::LogRep p m L::MedRep m M::F):=h20.sb
   clear h20 h0 hcap
   go_wp2_with (first
    |((with_reducible refine at_build0 ⟨?_⟩);refine wl_build0 (fun w=>run_flt0 w) ?_)
    |((with_reducible refine at_store ⟨?_⟩);refine wl_storeA (fltA Rep.Flt.zero) h21 rFz rFz rFz upd0 kRz rFz ?_;intro w22 h22))
   refine ⟨rfl,_,res_tct rfl h22 rFz pkD Tryz.underlying52 rfl kRz,_,rfl,?_⟩
   unfold RunOut
   rw [Hg.out]
   exact ⟨rfl,h22.drop⟩
  have hb1:((L.bytes M s).2 != 0)=false:=by rw [h0];rfl
  have H0:=uQ h0
  rw [h0]
  clear h0
  have hbl:=Seg.bytes_len (L:=L) HM.out s
  have hsc:=fscan_c (w0:=w0) (w:=w20) (L.bytes M s).1 (Ro.bsl _ _) hcap (Ro.os HH.out) (Nat.le_trans hbl dCz) h20
  clear hcap
  go_wp2_with fail
  refine hsc.mono ?_
  rintro ee w21 ⟨v,rfl,fs,fv,hfs,hfk,rfl,h21⟩
  clear hsc h20
  obtain ⟨fa,fc,rfl⟩:=fnds_sl hfk h21
  by_cases h1:(Frm.scan (L.bytes M s).1).2.2=0
  rotate_left
  ·have hb2:((Frm.scan (L.bytes M s).1).2.2 != 0)=true:=by rw [bne_iff_ne];exact h1
   have Hg:=uQ (show Rep.run (lbt L M) L.segs = .inl (Rep.fault s (Frm.scan (L.bytes M s).1).2.1,13) by
    rw [Hf.out]
    obtain ⟨post,e⟩:=Hspl.out
    exact Rep.runAt_bad (by rw [e];exact Rep.bad_scan Hbad.out H0.out h1))
   have h22:Sat w0 w21 (pt b3 (.cells (fltA Rep.Flt.zero) 52 (0,0))::LogRep p m L::MedRep m M::F):=h21.sb
   clear h21 h1 hfs hfk
   go_wp2_with fail
   refine (fault_c s (Frm.scan (L.bytes M s).1).2.1 h22).mono ?_
   rintro ee w23 ⟨v,rfl,rfl,h23⟩
   clear h22
   go_wp2_with ((with_reducible refine at_store ⟨?_⟩);refine wl_storeA (fltA (Rep.fault s (Frm.scan (L.bytes M s).1).2.1)) h23 rFz rFz rFz upd0 kRz rFz ?_;intro w24 h24)
   refine ⟨rfl,_,res_tct rfl h24 rFz pkD Tryz.underlying52 rfl kRz,_,rfl,?_⟩
   unfold RunOut
   rw [Hg.out]
   exact ⟨rfl,h24.drop⟩
  have hb2:((Frm.scan (L.bytes M s).1).2.2 != 0)=false:=by rw [h1];rfl
  have H1:=uQ h1
  rw [h1]
  clear h1
  have h22:Sat w0 w21 (TabMA pg (Rep.ledger (Rep.rowsOf (lbt L M) (L.segs.take i)++(fs.take 0).map fun q=>(s,q.1))) ((Rep.rowsOf (lbt L M) (L.segs.take i)).length+0)::stPt ps (Rep.lastOfL (L.segs.take i)) pi uv (.slice ta (L.segs.length - n) tc)::osl 132 3 uv ((Rep.usesOf (lbt L M) (L.segs.take i)).flatMap uenc)::TabML pi (fun _=>none) 0::pt b9 (.cells #[ptr pg] 202 (0,0)) ::
   pt b3 (.cells (fltA Rep.Flt.zero) 52 (0,0))::osl 3 1 sv (ints L.segs)::LogRep p m L::MedRep m M::osl 113 36 (.slice fa fs.length fc) (fndsL fs)::dataF fs::F):=by
   have q:Sat w0 w21 (TabMA pg (Rep.ledger (Rep.rowsOf (lbt L M) (L.segs.take i))) (Rep.rowsOf (lbt L M) (L.segs.take i)).length::stPt ps (Rep.lastOfL (L.segs.take i)) pi uv (.slice ta (L.segs.length - n) tc)::osl 132 3 uv ((Rep.usesOf (lbt L M) (L.segs.take i)).flatMap uenc)::TabML pi (fun _=>none) 0::pt b9 (.cells #[ptr pg] 202 (0,0)) ::
   pt b3 (.cells (fltA Rep.Flt.zero) 52 (0,0))::osl 3 1 sv (ints L.segs)::LogRep p m L::MedRep m M::osl 113 36 (.slice fa fs.length fc) (fndsL fs)::dataF fs::F):=h21.sb
   rw [List.take_zero,List.map_nil,List.append_nil,Nat.add_zero]
   exact q
  have Hcnt:=uQ (show (Rep.rowsOf (lbt L M) (L.segs.take i)).length+fs.length≤12000000 by
   have q1:=Rep.rowsOf_le (lbt L M) L.segs (i+1)
   rw [Htk.out,Rep.rowsOf_snoc,List.length_append,List.length_map,show (Frm.scan (lbt L M s).1).1=fs.map (·.1) from hfs.symm,List.length_map]at q1
   exact Nat.le_trans q1 Hrows.out)
  have hfl:fs.length≤16777216:=by
   have:=Frm.scan_count (L.bytes M s).1
   rw [← hfs,List.length_map]at this;omega
  have Hfl:=uQ hfl;have Hfs:=uQ hfs;have Hfk:=uQ hfk
  clear h21 hbl hfs hfk
  go_wp2_with fail
  go_loopg [72] fs.length (fun g jq wr=>∃ j:Nat,g=fs.length - j∧j≤fs.length∧jq = .int .i64 j∧Sat w0 wr (TabMA pg (Rep.ledger (Rep.rowsOf (lbt L M) (L.segs.take i)++(fs.take j).map fun q=>(s,q.1))) ((Rep.rowsOf (lbt L M) (L.segs.take i)).length+j)::stPt ps (Rep.lastOfL (L.segs.take i)) pi uv (.slice ta (L.segs.length - n) tc)::osl 132 3 uv ((Rep.usesOf (lbt L M) (L.segs.take i)).flatMap uenc)::TabML pi (fun _=>none) 0::pt b9 (.cells #[ptr pg] 202 (0,0)) ::
   pt b3 (.cells (fltA Rep.Flt.zero) 52 (0,0))::osl 3 1 sv (ints L.segs)::LogRep p m L::MedRep m M::osl 113 36 (.slice fa fs.length fc) (fndsL fs)::dataF fs::F))
  case atStart=>exact ⟨0,rfl,Nat.zero_le _,rfl,h22⟩
  case round=>
   obtain ⟨j,rfl,hj,rfl,hS⟩:=hrel
   clear h22
   by_cases hjl:j<fs.length
   rotate_left
   ·obtain rfl:j=fs.length:=by omega
    have d1:¬ (fs.length:Int)<(fs.length:Int):=oQ
    rw [List.take_length]at hS
    clear hjl hj
    have hul:((Rep.usesOf (lbt L M) (L.segs.take i)).flatMap uenc).length≤2147483648:=by
     rw [rows_len (k:=3) fun u _=>rfl]
     unfold Rep.usesOf
     rw [List.length_map,List.length_take]
     have:=Hlen.out;omega
    go_wp2_with (first
     |((with_reducible refine at_store ⟨?_⟩);refine wl_store (cs':=#[.int .i64 s,ptr pi,uv,.slice ta (L.segs.length - n) tc]) hS rFz evD rFz (upd_there upd0) nLz kRz rFz ?_;intro w40 h40)
     |((with_reducible refine at_load ⟨?_⟩);refine wl_load1 h40 rFz (pick_there pick0) nLz evD kRz ?_)
     |(with_reducible apply at_build1))
    refine ⟨wl_build1 (e:=132) (sz:=3) (by':=24) kRz h40 rFz (cs:=#[.int .i64 s,.int .i64 ((L.bytes M s).1.length:Nat),.int .i64 0]) rfl rfl dCz ?_⟩
    intro b41 w41 h41
    go_wp2_with (with_reducible apply at_append)
    refine ⟨wl_app 132 3 24 kRz h41 rFz rFz (pick_there (pick_there (pick_there pick0))) pick0 rfl (Nat.le_refl 1) rFz hul (by show 3≤65536;decide) dCz rfl ?_⟩
    intro bA nA cA w42 h42
    go_wp2_with ((with_reducible refine at_store ⟨?_⟩);refine wl_store (cs':=#[.int .i64 s,ptr pi,.slice (some ⟨bA,0,none⟩) nA cA,.slice ta (L.segs.length - n) tc]) h42 rFz evD rFz (upd_there (upd_there upd0)) nLz kRz rFz ?_;intro w43 h43)
    have h44:Sat w0 w43 (stPt ps (Rep.lastOfL (L.segs.take (i+1))) pi (.slice (some ⟨bA,0,none⟩) nA cA) (.slice ta (L.segs.length - n) tc)::osl 132 3 (.slice (some ⟨bA,0,none⟩) nA cA) ((Rep.usesOf (lbt L M) (L.segs.take (i+1))).flatMap uenc)::TabML pi (fun _=>none) 0::pt b9 (.cells #[ptr pg] 202 (0,0)) ::
     TabMA pg (Rep.ledger (Rep.rowsOf (lbt L M) (L.segs.take (i+1)))) (Rep.rowsOf (lbt L M) (L.segs.take (i+1))).length::pt b3 (.cells (fltA Rep.Flt.zero) 52 (0,0))::osl 3 1 sv (ints L.segs)::LogRep p m L::MedRep m M::F):=by
     rw [Htk.out,Rep.lastOfL_snoc,Rep.usesOf_snoc,Rep.rowsOf_snoc,List.length_append,List.length_map,show (Frm.scan (lbt L M s).1).1=fs.map (·.1) from Hfs.out.symm,List.length_map,List.map_map,List.flatMap_append]
     exact h43.sb
    clear h40 h41 h42 h43 hS
    go_roundg (n - (i+1))
    case measure=>have:=Hlt.out;omega
    case rel=>exact ⟨i+1,.slice (some ⟨bA,0,none⟩) nA cA,rfl,Hlt.out,by first|rfl|go_num,by rw [Htk.out];exact Rep.bad_none Hbad.out H0.out H1.out,h44⟩
   have d1:(j:Int)<(fs.length:Int):=oQ
   have hwj:IntKind.i64.wrap ((j:Int)+1)=(j:Int)+1:=IntWalk.i64_in _ oQ
   obtain ⟨⟨f,dv⟩,hq⟩:∃ q,fs[j]?=some q:=⟨_,List.getElem?_eq_getElem hjl⟩
   have hkf:f.e.key.length=32:=Hfk.out _ (List.mem_of_getElem? hq)
   obtain ⟨da,dn,dc,rfl,_,_⟩:=dataF_ro hq wr (hS.pk (A:=dataF fs))
   obtain ⟨bk2,off2,c2,e2,hcell⟩:=osl_row (f:=fun q:Frm.Fnd×Value=>fndL q.1 q.2) (k:=36) (fun q hq=>fndL_len q.1 q.2 (Hfk.out q hq)) (Sat.rd (hS.pk (A:=osl 113 36 (.slice fa fs.length fc) (fndsL fs)))) hq dCz
   cases e2
   have hl36:(fndL f (.slice da dn dc)).length=36:=fndL_len _ _ hkf
   have Htj:=uQ (show (fs.take (j+1)).map (fun q=>(s,q.1))=(fs.take j).map (fun q=>(s,q.1))++[(s,f)] by rw [List.take_add_one,hq,Option.toList_some,List.map_append];rfl)
   have Hjl:=uQ hjl;have Hkf:=uQ hkf
   clear hq hkf hj
   go_wp2_with (first
    |((with_reducible refine at_load ⟨?_⟩);refine wl_loadW (b:=bk2) (o:=off2+j * 36) (fndL f (.slice da dn dc)) rFz hcell Tryz.underlying113 rfl (by rw [hl36];kernel_rfl) ?_)
    |(with_reducible apply at_alloc))
   refine ⟨wl_alloc zFnd hS rfl ?_⟩
   intro b17 w30 h30
   go_wp2_with (first
    |((with_reducible refine at_store ⟨?_⟩);refine wl_storeA (fndA f (.slice da dn dc)) h30 rFz rFz (by rw [fndA_size _ _ Hkf.out];rfl) upd0 (by rw [fndA_size _ _ Hkf.out];kernel_rfl) (fndA_ones _ _ _ _) ?_;intro w31 h31)
    |((with_reducible refine at_load ⟨?_⟩);refine wl_loadA (cs:=fndA f (.slice da dn dc)) h31 rFz pick0 Tryz.underlying113 rfl (by rw [fndA_size _ _ Hkf.out];kernel_rfl) ?_)
    |((with_reducible refine at_load ⟨?_⟩);refine wl_loadA (cs:=#[ptr pg]) h31 rFz (pick_there (pick_there (pick_there (pick_there (pick_there pick0))))) Tryz.underlying202 rfl kRz ?_))
   have hrl:=Rep.rowsOf_le (lbt L M) L.segs i
   refine (take_c (p:=pg) s f Hkf.out (by have:=Hrows.out;have:=Hfl.out;have:=Hjl.out;have:=Hcnt.out;omega) (h31.pick pick1)).mono ?_
   rintro ee w32 ⟨v,rfl,h32⟩
   clear h30 h31 hS hcell
   have hnn:∀ x∈Rep.rowsOf (lbt L M) (L.segs.take i)++(fs.take j).map (fun q=>(s,q.1)),0≤x.1:=fun x hx=>by
    rcases List.mem_append.1 hx with hx|hx
    ·unfold Rep.rowsOf at hx
     obtain ⟨u,hu,hx⟩:=List.mem_flatMap.1 hx
     obtain ⟨g,_,rfl⟩:=List.mem_map.1 hx
     exact Hnn.out u (List.mem_of_mem_take hu)
    ·obtain ⟨g,_,rfl⟩:=List.mem_map.1 hx
     exact Hs0.out
   rw [← Rep.ledger_snoc _ _ hnn,List.append_assoc,← Htj.out]at h32
   clear hnn
   go_wp2_with fail
   go_roundg (fs.length - (j+1))
   case measure=>have:=Hjl.out;omega
   case rel=>exact ⟨j+1,rfl,Hjl.out,by first|rfl|go_num,h32.sb⟩
end
end Go.Proofs.YtfdchfnmpabogaaGreatDoor
namespace Go.Seg
open Go.Med
section
variable {i j K:Nat}{M D:Med}
end
section
variable {i n c K:Nat}{L:Log}{M D:Med}
theorem segs_rise (h:L.Ok):L.segs.Pairwise (· < ·):=h.rise
theorem segs_pos (h:L.Ok):∀ s∈L.segs,0≤s:=fun s hs=>by
 unfold Log.segs at hs
 obtain ⟨x,hx,rfl⟩:=List.mem_map.1 hs
 exact (h.nums x hx).1
theorem rows_ok (h:L.Ok) (M:Med) (n:Nat):Rep.Rows (Rep.rowsOf (fun s=>L.bytes M s) (L.segs.take n)):=
 Rep.rowsOf_rows ((segs_rise h).sublist (List.take_sublist _ _)) fun s hs=>segs_pos h s (List.mem_of_mem_take hs)
end
end Go.Seg
namespace Go.Rep
open Go.Frm (Bs Fnd Ent fnds encs GoodE)
open Go.Seg (Plc mag)
open Go.Tab
theorem newest_some:∀ {l:List Row}{k:Bs}{r:Row},newest l k=some r→r∈l∧rtag r≠2∧rkey r=k
 |[],_,_,h=>by cases h
 |x::l,k,r,h=>by
  unfold newest at h
  split at h
  ·rename_i y hy
   cases h
   obtain ⟨h1,h2⟩:=newest_some hy
   exact ⟨.tail _ h1,h2⟩
  ·split at h
   ·rename_i hh
    cases h
    exact ⟨.head _,hh⟩
   ·cases h
end Go.Rep
namespace Go.Seg
open Go.Med
open Go.Frm (Bs Fnd encs GoodE fnds Ent)
open Go.Rep
section
variable {n:Nat}{ds:List Ent}{L:Log}{M:Med}{C:List (List Ent)}{c:Nat}
end
end Go.Seg
namespace Go.Rep
open Go.Frm (Bs Fnd Ent fnds encs GoodE)
open Go.Seg (Plc mag)
open Go.Tab
def nowOf (l:List Row) (k:Bs):Option Plc:=(newest l k).bind fun r=>if rtag r=0 then some (rplc r) else none
section
variable {l:List Row}{r:Row}{k:Bs}{es:List Ent}{x:Ent}{C:List (List Ent)}
theorem nowOf_put (h:rtag r=0):nowOf (l++[r])=Tab.put (nowOf l) (rkey r) (rplc r):=by
 funext k
 unfold nowOf Tab.put
 rw [newest_snoc]
 by_cases hk:k=rkey r
 ·rw [if_pos ⟨by rw [h];decide,hk.symm⟩,if_pos hk]
  show (if rtag r=0 then some (rplc r) else none)=_
  rw [if_pos h]
 ·rw [if_neg (fun q=>hk q.2.symm),if_neg hk]
theorem nowOf_com (h:rtag r=2):nowOf (l++[r])=nowOf l:=by
 funext k
 unfold nowOf
 rw [newest_snoc,if_neg (fun q=>q.1 h)]
theorem puts_now {kv:List (Bs×Abt)} (h:Tab.Lists (ledger l) kv):Tab.mapOf (puts kv)=nowOf l:=by
 have hl:=Tab.mapOf_lists (puts_rise h.rise)
 funext k
 have key:∀ p,Tab.mapOf (puts kv) k=some p↔nowOf l k=some p:=fun p=>by
  rw [← hl.mem]
  unfold puts nowOf
  rw [List.mem_map,Option.bind_eq_some_iff]
  constructor
  ·rintro ⟨q,hq,e⟩
   obtain ⟨h1,h2⟩:=List.mem_filter.1 hq
   have h3:=(h.mem q.1 q.2).1 h1
   unfold ledger at h3
   obtain ⟨r,h4,h5⟩:=Option.map_eq_some_iff.1 h3
   have e1:q.1=k:=congrArg Prod.fst e
   have e2:q.2.place=p:=congrArg Prod.snd e
   refine ⟨r,by rw [← e1];exact h4,?_⟩
   have ht:q.2.tag=0:=by simpa using h2
   rw [← h5]at ht e2
   simp only at ht e2
   rw [if_pos ht,e2]
  ·rintro ⟨r,h1,h2⟩
   split at h2
   ·rename_i ht
    cases h2
    refine ⟨(k,⟨rtag r,rplc r,first l k⟩),List.mem_filter.2 ⟨(h.mem _ _).2 (by unfold ledger;rw [h1];rfl),by simpa using ht⟩,rfl⟩
   ·cases h2
 cases hn:nowOf l k with
 |some p=>exact (key p).2 hn
 |none=>
  cases hm:Tab.mapOf (puts kv) k with
  |none=>rfl
  |some p=>rw [(key p).1 hm]at hn;cases hn
theorem fnds_snoc:∀ (es:List Ent) (a:Nat) (x:Ent),fnds (es++[x]) a=fnds es a++[⟨x,a+(encs es).length,(Frm.encode x).1.length⟩]
 |[],a,x=>by show [_]=[_];rw [show (encs []).length=0 from rfl,Nat.add_zero]
 |y::es,a,x=>by
  rw [List.cons_append,fnds,fnds,fnds_snoc es _ x,List.cons_append]
  rw [show encs (y::es)=(Frm.encode y).1++encs es from rfl,List.length_append,Nat.add_assoc]
theorem rowsC_app:∀ (C D:List (List Ent)) (k:Nat),rowsC k (C++D)=rowsC k C++rowsC (k+C.length) D
 |[],D,k=>rfl
 |es::C,D,k=>by
  rw [List.cons_append]
  show _++rowsC (k+1) (C++D)=(_++rowsC (k+1) C)++_
  rw [rowsC_app C D (k+1),List.append_assoc,List.length_cons,show k+1+C.length=k+(C.length+1) by omega]
def putRow (C:List (List Ent)) (b:Bool) (x:Ent):Row:=
 if b then (((C.length - 1:Nat):Int),⟨x,8+(encs (C.getLastD [])).length,(Frm.encode x).1.length⟩) else ((C.length:Int),⟨x,8,(Frm.encode x).1.length⟩)
theorem rowsC_put (C:List (List Ent)) (b:Bool) (x:Ent) (hb:b=true→C≠[]):rowsC 0 (Seg.put C b x)=rowsC 0 C++[putRow C b x]:=by
 cases b with
 |true=>
  have hne:=hb rfl
  unfold Seg.put putRow
  simp only [if_true]
  rw [rowsC_app]
  conv=>rhs;rw [Seg.last_of hne,rowsC_app]
  rw [List.append_assoc]
  congr 1
  show _++[]=(_++[])++_
  rw [List.append_nil,List.append_nil,fnds_snoc,List.map_append,List.length_dropLast,Nat.zero_add]
  have hg:(C.dropLast++[C.getLastD []]).getLastD []=C.getLastD []:=by rw [List.getLastD_eq_getLast?,List.getLast?_concat];rfl
  have hlen:(C.dropLast++[C.getLastD []]).length=C.length:=by rw [← Seg.last_of hne]
  rw [hg,hlen]
  rfl
 |false=>
  unfold Seg.put putRow
  simp only [Bool.false_eq_true,if_false]
  rw [rowsC_app]
  congr 1
  show _++[]=_
  rw [List.append_nil,Nat.zero_add]
  rfl
theorem putRow_e (C:List (List Ent)) (b:Bool) (x:Ent):(putRow C b x).2.e=x:=by
 unfold putRow;split <;> rfl
end
end Go.Rep
namespace Go.Seg
open Go.Med
open Go.Frm (Bs Ent encs GoodE)
open Go.Rep
section
variable {K r E B n:Nat}{L:Log}{M:Med}{C:List (List Ent)}{x:Ent}
theorem HG.append_at (h:HG K r E B n L M C) (h0:(Frm.encode x).2=0) (hz:(L.append M x).2.2=0):(L.append M x).2.1=rplc (putRow C (L.fits (Frm.encode x).1.length) x):=by
 cases hf:L.fits (Frm.encode x).1.length with
 |true=>
  rw [Log.append_grow h0 hf]at hz ⊢
  obtain ⟨s,hl⟩:=h.keeps.log.last (fits_on' hf)
  have hl':=hl
  rw [List.getLast?_eq_getElem?]at hl'
  have hlt:=(List.getElem?_eq_some_iff.1 hl').1
  have hlen:=h.len
  have hne:C≠[]:=by intro e;rw [e,List.length_nil]at hlen;omega
  have hcl:C[L.l.length - 1]?=some (C.getLastD []):=by
   conv=>lhs;rw [last_of hne]
   rw [List.getElem?_append_right (by rw [List.length_dropLast];omega),List.length_dropLast,show L.l.length - 1 - (C.length - 1)=0 by omega];rfl
  have hat:=h.at_ _ _ hcl
  rw [hl']at hat
  cases hat
  unfold Log.grow at hz ⊢
  rw [hl]at hz ⊢
  simp only at hz ⊢
  split at hz
  ·rename_i g
   rw [if_pos g]
   unfold putRow rplc
   simp only [if_true]
   rw [hlen]
   rfl
  ·rename_i g
   exact absurd hz g
 |false=>
  rw [Log.append_begin h0 hf]at hz ⊢
  obtain ⟨_,s2,s3,_,_⟩:=h.keeps.shut
  have hnx:(L.shut M).1.1.next=C.length:=by
   have:=h.next
   unfold Log.next at this ⊢
   rw [s3];exact this
  unfold Log.begin at hz ⊢
  rw [if_pos s2]at hz ⊢
  generalize (L.shut M).1.1=L1 at *
  generalize (L.shut M).1.2=M1 at *
  unfold Log.begin1 at hz ⊢
  by_cases g2:1048576≤L1.next
  ·rw [if_pos g2]at hz
   exact absurd (show (16:Int)=0 from hz) dCz
  rw [if_neg g2]at hz ⊢
  by_cases g3:(M1.create (name L1.next)).2=0
  rotate_left
  ·rw [if_pos g3]at hz
   exact absurd hz g3
  rw [if_neg (fun q=>q g3)]at hz ⊢
  by_cases g4:((M1.create (name L1.next)).1.append (name L1.next) (mag++(Frm.encode x).1)).2=0
  ·rw [if_pos g4,hnx]
   rfl
  rw [if_neg g4]at hz
  split at hz
  ·simp only at hz
   split at hz
   ·exact absurd hz dCz
   ·rename_i g5;exact absurd hz g5
  ·exact absurd hz g4
theorem HG.fits_ne (h:HG K r E B n L M C){k:Nat}:L.fits k=true→C≠[]:=fun hf=>by
 have h1:=h.keeps.log.on (fits_on' hf)
 intro e
 have:=h.len
 rw [e,List.length_nil]at this
 exact h1 (List.eq_nil_of_length_eq_zero this)
end
end Go.Seg
namespace Go.Proofs.YtfdchfnmpabogaaGreatDoor
open Go Go.Sl Go.Med Go.MapKept Go.RowKit
def kvL (q:Frm.Bs×Seg.Plc):List Value:=bys q.1++penc q.2
theorem kvL_len (q:Frm.Bs×Seg.Plc) (hk:q.1.length=32):(kvL q).length=35:=by unfold kvL;rw [List.length_append,bys_len,hk];rfl
theorem kvL_ones (q:Frm.Bs×Seg.Plc):(kvL q).all (·.oneCell')=true:=by unfold kvL;rw [List.all_append,bys_ones];rfl
theorem plKv:placesB Tryz.prog 183=some [(0,32),(32,3)]:=by kernel_rfl
theorem zKv:zeroB Tryz.prog 183=some (.agg (kvL (Frm.zero32,Seg.Plc.zero)).toArray):=by kernel_rfl
theorem run_kv (k:Frm.Bs) (hk:k.length=32) (v:Seg.Plc) (w:World):(Instr.build 183 #[(0,.agg (bys k).toArray),(1,.agg (penc v).toArray)]).run Tryz.prog w = .ok (.agg (kvL (k,v)).toArray) w:=by
 have h:=run_build (P:=Tryz.prog) [(0,.agg (bys k).toArray),(1,.agg (penc v).toArray)] plKv zKv (by
  intro p hp
  have hzz:(Value.agg (kvL (Frm.zero32,Seg.Plc.zero)).toArray).cells.size=35:=by rfl
  rw [hzz]
  rcases List.mem_cons.1 hp with rfl|hp
  ·refine ⟨0,?_,?_⟩
   ·show some (0,32)=some (0,(bys k).toArray.size);rw [List.size_toArray,bys_len,hk]
   ·show 0+(bys k).toArray.size≤35
    rw [List.size_toArray,bys_len,hk];decide
  ·rw [List.mem_singleton.1 hp]
   exact ⟨32,rfl,by show 32+3≤35;omega⟩) w
 refine h.trans ?_
 have hz:Frm.zero32.length=32:=rfl
 have hzl:(kvL (Frm.zero32,Seg.Plc.zero)).length=35:=kvL_len _ hz
 have e:putsAt (putsAt (kvL (Frm.zero32,Seg.Plc.zero)).toArray 0 (bys k)) 32 (penc v)=(kvL (k,v)).toArray:=by
  apply putsAt_eq
  rw [puts_putL _ _ _ (by rw [putsAt_size,List.size_toArray,hzl];exact Nat.le_refl 35),puts_putL _ _ _ (by rw [List.size_toArray,hzl,bys_len,hk];decide),List.toList_toArray]
  have e1:putL (kvL (Frm.zero32,Seg.Plc.zero)) 0 (bys k)=bys k++penc Seg.Plc.zero:=by
   unfold kvL
   rw [putL_app2 _ _ _ _ (by rw [bys_len,bys_len,hk,hz];decide),putL_all (by rw [bys_len,bys_len,hk,hz])]
  have h0:=putL_app (bys k) (penc Seg.Plc.zero) (penc v) 0
  rw [bys_len,hk,putL_all (xs:=penc Seg.Plc.zero) (vs:=penc v) rFz]at h0
  rw [e1]
  exact h0
 exact congrArg (fun x=>Result.ok (Value.agg x) w) e
end Go.Proofs.YtfdchfnmpabogaaGreatDoor
namespace Go.Rep
open Go.Frm (Bs Fnd)
open Go.Seg (Plc)
open Go.Tab
def hit (k:Bs) (r:Row):Bool:=decide (rtag r<2) && decide (rkey r=k)
section
variable {l:List Row}{k:Bs}{i:Nat}{r:Row}
end
section
variable {V:Type}
variable {l:List (Bs×V)}{x y:Bs×V}{i:Nat}
end
section
variable {l:List Row}{us:List Use}{i k:Nat}{r:Row}{u:Use}
end
end Go.Rep
namespace Go.Proofs.YtfdchfnmpabogaaGreatDoor
open Go Go.Sl Go.Med Go.ChangeShapes Go.WideShapes Go.RowKit
section
variable {H:Type}{enc:TypeId×Value→H}{W:World}{base:Nat}{spare:Nat→Bool}{held:Bool}
theorem open_key {t:TypeId}{fuel:Nat}{cs:List Value}{x:DataW H×List MemPlace}{k:Nat} (ht:Tryz.prog.underlying t=some (.array k 5)) (hk:Tryz.prog.cellsOf t=k) (h:DataW.trod enc Tryz.prog W base spare held fuel t cs=some x) :
  ∃ l:Bs,bys l=cs∧l.length=k:=by
 obtain ⟨xs,m,_,_,hl,hxl,hf⟩:=DataW.trod_array ht h
 have e1:Tryz.prog.cellsOf 5=1:=by kernel_rfl
 rw [hk]at hl
 have hz:∀ i,i<k→∃ z:Int,cs[i]?=some (.int .u8 z)∧(Lit.int .u8 z).wf=true:=by
  intro i hi
  have h0:=hf i hi
  rw [List.getElem?_eq_getElem oQ,e1,Nat.mul_one]at h0
  obtain ⟨z,q1,_,q3⟩:=DataW.trod_int Tryz.underlying5 h0
  refine ⟨z,?_,q3⟩
  have:((cs.drop i).take 1)[0]?=some (.int .u8 z):=by rw [q1];rfl
  rw [List.getElem?_take,if_pos dCz,List.getElem?_drop]at this
  exact this
 obtain ⟨zs,z1,z2⟩:=list_of_fun hz
 have hcs:cs=zs.map (.int .u8):=by
  apply List.ext_getElem?
  intro i
  rw [List.getElem?_map]
  by_cases hi:i<k
  ·have:=(z2 i _ (List.getElem?_eq_getElem oQ)).1
   rw [this,List.getElem?_eq_getElem (show i<zs.length by omega)];rfl
  ·rw [List.getElem?_eq_none oQ,List.getElem?_eq_none oQ];rfl
 refine ⟨toBs zs,?_,by unfold toBs;rw [List.length_map];exact z1⟩
 rw [bys_toBs,hcs]
 intro z hz
 obtain ⟨i,hi,rfl⟩:=List.getElem_of_mem hz
 exact (z2 i _ (List.getElem?_eq_getElem hi)).2
structure EntAt (W:World) (p:Frm.Ent×Value):Prop where
 key:p.1.key.length=32
 tag:inI p.1.tag
 rd:rdsl 1 p.2 (bys p.1.data) W
 cap:capOk p.2
end
structure PC where
 n:Int
 es:List (Frm.Ent×Value)
 ev:Value
 rest:Bs
 rv:Value
 bad:Bool
 at_:Int
 plain:Bool
structure PC.At (W:World) (d:PC):Prop where
 n:inI d.n
 rd:rdsl 34 d.ev (entsL d.es) W
 cap:capOk d.ev
 ents:∀ p∈d.es,EntAt W p
 rr:rdsl 1 d.rv (bys d.rest) W
 rc:capOk d.rv
 at_:inI d.at_
section
variable {H:Type}{enc:TypeId×Value→H}{W:World}{base:Nat}{spare:Nat→Bool}{held:Bool}
end
end Go.Proofs.YtfdchfnmpabogaaGreatDoor
namespace Go.Seg
open Go.Med
open Go.Frm (Bs Fnd encs GoodE fnds Ent)
open Go.Rep
section
variable {n n2:Nat}{ds ps:List Ent}{L L2:Log}{M M2:Med}{C C0 C2:List (List Ent)}{c c2:Nat}{d:Ent}
structure Same (L L2:Log) (M M2:Med) (c c2:Nat):Prop where
 one:c=L.segs.length
 two:c2=L.segs.length
 segs:L2.segs.take c2=L.segs.take c
 rows:rowsOf (fun s=>L2.bytes M2 s) (L2.segs.take c2)=rowsOf (fun s=>L.bytes M s) (L.segs.take c)
 uses:usesOf (fun s=>L2.bytes M2 s) (L2.segs.take c2)=usesOf (fun s=>L.bytes M s) (L.segs.take c)
 le:L.segs.length≤L2.segs.length
end
end Go.Seg
namespace Go.Hin
open Go.Med
open Go.Rep (Use)
open Go.Seg (Plc)
def fin (n:Int) (us:List Use) (i:Nat):Bool:=decide (i=us.length) && (decide (0<i) && decide ((us.getD (i - 1) ⟨0,0,0⟩).seg=n))
def fitU (sz:Int→Int) (s:Int) (u:Use):Bool:=decide (u.seg=s) && (decide (u.size=sz s) && decide (u.live≤u.size))
def fitsL (sz:Int→Int) (n:Int) (us:List Use):List Int→Nat→Bool
 |[],i=>fin n us i
 |s::ss,i=>if n<s then fin n us i else match us[i]? with
  |none=>false
  |some u=>if fitU sz s u=true then fitsL sz n us ss (i+1) else false
def fits (L:Seg.Log) (us:List Use) (n:Int):Bool:=fitsL L.size n us L.segs 0
def lies (p:Plc) (sz:Int→Int):Bool:=decide (8≤p.at_) && (decide (41≤p.size) && decide (p.size≤sz p.seg - p.at_))
def sizes (us:List Use):Int→Int:=us.foldl (fun f u=>fun s=>if s=u.seg then u.size else f s) fun _=>0
section
variable {T:Kept}{s1 s2 s:ByteArray}{b1 b2 b:Bs}{K:Nat}{M:Med}
end
end Go.Hin
namespace Go.Seg
open Go.Med
open Go.Frm (Bs Fnd encs GoodE fnds Ent)
open Go.Rep
structure HintOk (L:Log) (c:Nat) (us:List Use) (ps:List (Bs×Plc)):Prop where
 segs:us.map (·.seg)=L.segs.take c
 use:∀ u∈us,0≤u.live∧u.live≤u.size∧u.size=L.size u.seg∧u.size≤33554432
 key:∀ q∈ps,q.1.length=32
 rise:ps.Pairwise fun a b=>a.1<b.1
 plc:∀ q∈ps,8≤q.2.at_∧41≤q.2.size∧q.2.at_+q.2.size≤L.size q.2.seg∧q.2.seg∈L.segs.take c
section
variable {K r E B n c:Nat}{L:Log}{M:Med}{C:List (List Ent)}
theorem HG.seg_at (h:HG K r E B n L M C) (hc:c≤C.length):∀ s∈L.segs.take c,∃ (j:Nat) (es:List Ent),s=(j:Int)∧j<c∧C[j]?=some es:=fun s hs=>by
 obtain ⟨j,hj⟩:=List.getElem?_of_mem hs
 rw [List.getElem?_take]at hj
 split at hj
 ·rename_i hjc
  have hl:j<C.length:=oQ
  have:=h.segs.2 j hl
  rw [hj]at this
  cases this
  exact ⟨j,C[j],rfl,hjc,List.getElem?_eq_getElem hl⟩
 ·cases hj
theorem HG.hint (h:HG K r E B n L M C) (hc:c≤C.length){kv:List (Bs×Abt)} (hk:Tab.Lists (ledger (rowsOf (fun s=>L.bytes M s) (L.segs.take c))) kv) (h32:∀ q∈kv,q.1.length=32) :
  HintOk L c ((usesOf (fun s=>L.bytes M s) (L.segs.take c)).map (upd kv)) (puts kv):=by
 have hok:=rows_ok h.keeps.log M c
 rw [h.rows c]at hok hk
 have hseg:=h.seg_at hc
 have hrow:∀ p∈kv,∃ r,r∈Rep.rowsC 0 (C.take c)∧rtag r≠2∧p.2.tag=rtag r∧p.2.place=rplc r:=fun p hp=>by
  have h1:=(hk.mem p.1 p.2).1 hp
  unfold ledger at h1
  obtain ⟨r,h2,h3⟩:=Option.map_eq_some_iff.1 h1
  obtain ⟨h4,h5,_⟩:=newest_some h2
  exact ⟨r,h4,h5,by rw [← h3],by rw [← h3]⟩
 refine ⟨?_,fun u hu=>?_,fun q hq=>?_,Rep.puts_rise hk.rise,fun q hq=>?_⟩
 ·unfold usesOf
  rw [List.map_map,List.map_map]
  conv=>rhs;rw [← List.map_id (L.segs.take c)]
  rfl
 ·obtain ⟨u0,h1,rfl⟩:=List.mem_map.1 hu
  unfold usesOf at h1
  obtain ⟨s,hs,rfl⟩:=List.mem_map.1 h1
  obtain ⟨j,es,rfl,hjc,hj⟩:=hseg s hs
  have hb:=h.bytes hj
  have hz:=h.size hj
  have hlv:=live_eq hok hk (j:Int)
  have hls:=live_seg (l:=Rep.rowsC 0 (C.take c)) (j:Int) _ (Nat.le_refl _)
  have hsm:=segSum_is (C.take c) 0 j es (by rw [List.getElem?_take,if_pos hjc];exact hj)
  rw [List.take_length]at hls
  rw [Nat.zero_add]at hsm
  have hm:mag.length=8:=rfl
  have hsz:=h.keeps.log.sizes _ (List.mem_of_getElem? (h.at_ j es hj))
  unfold upd
  simp only [hb,hz,List.length_append]
  rw [hlv,hsm]at hls
  simp only at hsz
  refine ⟨hls.1,?_,trivial,?_⟩
  ·have:=hls.2;omega
  ·omega
 ·unfold puts at hq
  obtain ⟨p,hp,rfl⟩:=List.mem_map.1 hq
  exact h32 p (List.mem_filter.1 hp).1
 ·unfold puts at hq
  obtain ⟨p,hp,rfl⟩:=List.mem_map.1 hq
  obtain ⟨hp1,hp2⟩:=List.mem_filter.1 hp
  obtain ⟨r,h1,_,h3,h4⟩:=hrow p hp1
  obtain ⟨j,es,h5,h6,h7⟩:=Rep.rowsC_mem (C.take c) 0 h1
  obtain ⟨u,v,h8,h9,h10⟩:=Rep.fnds_mem es 8 h7
  have hjc:j<c:=by
   have:=(List.getElem?_eq_some_iff.1 h5).1
   rw [List.length_take]at this;omega
  have hj:C[j]?=some es:=by rw [List.getElem?_take,if_pos hjc]at h5;exact h5
  have hg:GoodE r.2.e:=(h.good es (List.mem_of_getElem? hj)).1 _ (by rw [h8];simp)
  have hz:=h.size hj
  have ht:r.2.e.tag=0:=by
   have:p.2.tag=0:=by simpa using hp2
   rw [h3]at this;exact this
  have hl:r.2.size=41+r.2.e.data.length:=by
   rw [h10,size_enc hg.1 hg.2]
   unfold Frm.size
   rw [if_neg (by simp [(Frm.encode_zero hg.1).1]),if_neg (by rw [ht];decide)]
  have hes:encs es=encs u++((Frm.encode r.2.e).1++encs v):=by rw [h8,encs_app];rfl
  have hm:mag.length=8:=rfl
  have hr1:r.1=(j:Int):=by rw [h6,Nat.zero_add]
  simp only
  rw [h4]
  show 8≤(r.2.at_:Int)∧41≤(r.2.size:Int)∧(r.2.at_:Int)+(r.2.size:Int)≤L.size r.1∧r.1∈L.segs.take c
  rw [hr1,hz,List.length_append,hes,List.length_append,List.length_append]
  refine ⟨by omega,by omega,by omega,?_⟩
  have hl:j<C.length:=(List.getElem?_eq_some_iff.1 hj).1
  exact List.mem_of_getElem? (i:=j) (by rw [List.getElem?_take,if_pos hjc];exact h.segs.2 j hl)
end
section
variable {n:Nat}{L:Log}{M:Med}{C:List (List Ent)}{c:Cal}
theorem endsC_put (C:List (List Ent)) (b:Bool):∃ es,put C b comEnt≠[]∧(put C b comEnt)[(put C b comEnt).length - 1]?=some es∧Rep.endsC es=true:=by
 unfold put
 cases b with
 |true=>
  simp only [if_true]
  refine ⟨C.getLastD []++[comEnt],by simp,?_,?_⟩
  ·rw [List.length_append,List.length_singleton,Nat.add_sub_cancel,List.getElem?_append_right (Nat.le_refl _),Nat.sub_self];rfl
  ·unfold Rep.endsC;rw [List.getLast?_concat];rfl
 |false=>
  simp only [Bool.false_eq_true,if_false]
  refine ⟨[comEnt],by simp,?_,rfl⟩
  rw [List.length_append,List.length_singleton,Nat.add_sub_cancel,List.getElem?_append_right (Nat.le_refl _),Nat.sub_self];rfl
end
end Go.Seg
namespace Go.Hin
open Go.Med
open Go.Seg (Log Keeps Holds HG HintOk mag)
open Go.Frm (Fnd encs GoodE fnds Ent)
open Go.Rep (Use)
section
variable {n K r E B:Nat}{L:Log}{M:Med}{C:List (List Ent)}{N:Int}{b1 b2:Frm.Bs}
theorem tmp_ne_seg (k:Int):tmp≠Seg.name k:=fun e=>by
 rcases seg_name k with q|⟨q,_⟩
 ·rw [q]at e;exact tmp_ne e
 ·rw [← e]at q;exact absurd q dCz
end
end Go.Hin
namespace Go.Hin
open Go.Med
open Go.Seg (Log Keeps Holds HG HintOk mag Plc)
open Go.Frm (Fnd encs GoodE fnds Ent)
open Go.Rep (Use)
theorem create_now {M:Med}{s:ByteArray}{p:ByteArray×Nat} (h:p∈(M.create s).1.now):p∈M.now∨p.1=s:=by
 obtain ⟨_,e1,e2,e3,e4⟩:=M.step_same
 unfold Med.create at h
 split at h;· exact .inl h
 split at h;· exact .inl h
 rename_i hg
 split at h;· exact .inl h
 split at h;· exact .inl h
 split at h;· rw [e2]at h;exact .inl h
 have h2:p∈Lnk.on ⟨ByteArray.empty,s,M.files.length⟩ M.step.1.now:=h
 rw [e2]at h2
 unfold Lnk.on at h2
 simp only [if_true,if_neg (good_ne (by simpa using hg):s≠ByteArray.empty)]at h2
 rcases List.mem_cons.1 ((nput_perm _ _ _).mem_iff.1 h2) with rfl|h3
 ·exact .inr rfl
 ·exact .inl (List.mem_filter.1 h3).1
theorem append_now (M:Med) (s:ByteArray) (b:Bs):(M.append s b).1.now=M.now:=by
 obtain ⟨_,e1,e2,e3,e4⟩:=M.step_same
 unfold Med.append
 split;· rfl
 split;· rfl
 split;· rfl
 split;· exact e2
 exact e2
theorem sync_now (M:Med) (s:ByteArray):(M.sync s).1.now=M.now:=by
 obtain ⟨_,e1,e2,e3,e4⟩:=M.step_same
 unfold Med.sync
 split;· rfl
 split;· rfl
 split;· exact e2
 exact e2
theorem syncDir_now (M:Med):M.syncDir.1.now=M.now:=by
 obtain ⟨_,e1,e2,e3,e4⟩:=M.step_same
 unfold Med.syncDir
 split;· rfl
 split;· exact e2
 exact e2
theorem remove_now {M:Med}{s:ByteArray}{p:ByteArray×Nat} (h:p∈(M.remove s).1.now):p∈M.now:=by
 obtain ⟨_,e1,e2,e3,e4⟩:=M.step_same
 unfold Med.remove at h
 split at h;· exact h
 split at h;· exact h
 split at h;· rw [e2]at h;exact h
 have h2:p∈Lnk.on ⟨s,ByteArray.empty,0⟩ M.step.1.now:=h
 rw [e2]at h2
 unfold Lnk.on at h2
 simp only [if_true]at h2
 split at h2
 ·exact h2
 ·exact (List.mem_filter.1 h2).1
def Grown (M M':Med):Prop:=∀ p∈M'.now,p∈M.now∨∃ k,p.1=Seg.name k
theorem Grown.refl (M:Med):Grown M M:=fun p hp=> .inl hp
theorem Grown.trans {A B D:Med} (h:Grown A B) (k:Grown B D):Grown A D:=fun p hp=>by
 rcases k p hp with q|q
 ·exact h p q
 ·exact .inr q
theorem Grown.same {A B:Med} (h:B.now=A.now):Grown A B:=fun p hp=> .inl (by rw [← h];exact hp)
theorem shut_grown (L:Log) (M:Med):Grown M (L.shut M).1.2:=by
 unfold Log.shut
 split;· exact Grown.refl M
 split
 ·split <;> exact Grown.same (sync_now M _)
 ·exact Grown.refl M
theorem begin1_grown (L:Log) (M:Med) (b:Bs):Grown M (L.begin1 M b).1.2:=by
 have hc:Grown M (M.create (Seg.name L.next)).1:=fun p hp=>(create_now hp).imp id fun e=>⟨_,e⟩
 have ha:Grown M ((M.create (Seg.name L.next)).1.append (Seg.name L.next) (mag++b)).1:=hc.trans (Grown.same (append_now _ _ _))
 unfold Log.begin1
 split;· exact Grown.refl M
 split;· exact hc
 split;· exact ha
 split
 ·exact ha.trans fun p hp=> .inl (remove_now hp)
 ·exact ha
theorem lappend_grown (L:Log) (M:Med) (x:Ent):Grown M (L.append M x).1.2:=by
 unfold Log.append
 split;· exact Grown.refl M
 split
 ·unfold Log.grow
  split
  ·exact Grown.refl M
  ·split <;> exact Grown.same (append_now _ _ _)
 ·unfold Log.begin
  split
  ·exact (shut_grown L M).trans (begin1_grown _ _ _)
  ·exact shut_grown L M
theorem lcommit_grown (L:Log) (M:Med):Grown M (L.commit M).1.2:=by
 have h:=lappend_grown L M Seg.comEnt
 rw [Seg.Log.commit_eq]
 split;· exact h
 split;· exact h.trans (Grown.same (sync_now _ _))
 split;· exact h.trans ((Grown.same (sync_now _ _)).trans (Grown.same (syncDir_now _)))
 exact h.trans ((Grown.same (sync_now _ _)).trans (Grown.same (syncDir_now _)))
section
variable {n K B c:Nat}{L:Log}{M M':Med}{C:List (List Ent)}{N:Int}{b1 b2:Frm.Bs}{us:List Use}
end
end Go.Hin
namespace Go.Hin
open Go.Med
section
variable {s t:ByteArray}{b b1 b2:Bs}{K r:Nat}{M M':Med}{n:Int}
theorem all_has (q:Quiet M):(M.all t).2=0↔∃ i,nget M.now t=some i:=by
 cases h:nget M.now t with
 |none=>rw [Seg.all_none q h];simp
 |some i=>rw [Seg.all_some q h];simp
structure Wr (s:ByteArray) (b:Bs) (K r:Nat) (M:Med) (R:Med×Int):Prop where
 calm:Seg.Calm K r R.1
 tmp:nget R.1.now Hin.tmp=none
 len:R.1.now.length≤M.now.length+1
 used:R.1.used≤M.used+b.length
 other:∀ t,t≠Hin.tmp→t≠s→R.1.all t=M.all t
 names:∀ p∈R.1.now,p∈M.now∨p.1=s
 done:R.2=0∧R.1.all s=(b,0)∨R.2=11∧R.1.now=M.now∧∀ t,R.1.all t=M.all t
 room:M.used+b.length≤r→R.2=0
theorem write_calm (h:Seg.Calm K r M) (ht:nget M.now tmp=none) (hl:M.now.length<500) (hg:good s=true) (hst:s≠tmp):Wr s b (K+5) r M (write M s b):=by
 have e0:remTmp M=(M,0):=by unfold remTmp;rw [there_none h.quiet ht];rfl
 obtain ⟨c1,c2,c3,c4,c5⟩:=Seg.create_full h good_tmp ht hl
 have hc:=h.create tmp
 have hi:nget (M.create tmp).1.now tmp=some M.files.length:=by rw [c2];exact Seg.nget_put_self h.ok.nowOk.srt _ _
 have hroom:(M.create tmp).1.room=r:=hc.room
 have hw:write M s b=fill (M.create tmp).1 s b:=by
  unfold write
  rw [e0,if_pos rfl]
  show (if (M.create tmp).2=0 then _ else _)=_
  rw [if_pos c1]
 rw [hw]
 have hse:s≠ByteArray.empty:=good_ne hg
 rcases Seg.append_cases hc.quiet tmp b with ⟨a1,_⟩|⟨j,a1,⟨a2,a3⟩|⟨a2,a3⟩⟩
 ·rw [hi]at a1;cases a1
 ·have hr:=Seg.remove_quiet hc.quiet hi
  have hrc:=hc.remove tmp
  have hf:fill (M.create tmp).1 s b=(((M.create tmp).1.remove tmp).1,11):=by
   have f1:((M.create tmp).1.append tmp b).2=11:=by rw [a3]
   have f2:((M.create tmp).1.append tmp b).1=(M.create tmp).1:=by rw [a3]
   unfold fill
   rw [if_neg (by rw [f1];decide),if_pos f1,f2,if_pos (by rw [hr])]
  have ha:Seg.Alike M ((M.create tmp).1.remove tmp).1:=by
   rcases Seg.create_cases h.quiet tmp with ⟨q1,_⟩|⟨_,hn,_,c⟩
   ·exact absurd c1 q1
   rw [hr,c]
   refine ⟨?_,rfl,rfl,fun p hp=>?_⟩
   ·show Lnk.on ⟨tmp,ByteArray.empty,0⟩ (nput M.now tmp M.files.length)=M.now
    unfold Lnk.on
    simp only [if_neg tmp_ne,if_true]
    exact Seg.ndel_put hn
   ·have:=h.ok.nowOk.ids p hp
    simp only [Med.file,Med.link,List.getD_eq_getElem?_getD]
    rw [List.getElem?_append_left this]
  rw [hf]
  refine ⟨hrc.mono oQ,by rw [ha.now];exact ht,by show _≤_;rw [ha.now];omega,by show _≤_;rw [ha.used];omega,fun t _ _=>ha.all t,fun p hp=> .inl (by rw [← ha.now];exact hp),.inr ⟨rfl,ha.now,ha.all⟩,fun hh=>?_⟩
  exfalso
  rw [c3,hroom]at a2
  omega
 ·obtain ⟨b1,b2,b3,b4,b5⟩:=Seg.append_full hc hi b oQ
  have ha:=hc.append tmp b
  have hi2:nget ((M.create tmp).1.append tmp b).1.now tmp=some M.files.length:=by rw [b2];exact hi
  have es:=ha.quiet.sync_eq hi2
  have hsy:=ha.sync tmp
  have hs0:(((M.create tmp).1.append tmp b).1.sync tmp).2=0:=by rw [es]
  have hal:=Seg.sync_alike ha.ok ha.quiet tmp
  have hi3:nget (((M.create tmp).1.append tmp b).1.sync tmp).1.now tmp=some M.files.length:=by rw [hal.now];exact hi2
  have hre:=Seg.Calm.rename hsy tmp s
  have er:(((M.create tmp).1.append tmp b).1.sync tmp).1.rename tmp s=((((M.create tmp).1.append tmp b).1.sync tmp).1.link ⟨tmp,s,M.files.length⟩,0):=by
   unfold Med.rename
   rw [hsy.quiet.off,hsy.quiet.step,hi3,hg]
   simp
  have hf:fill (M.create tmp).1 s b=(((M.create tmp).1.append tmp b).1.sync tmp).1.rename tmp s:=by
   unfold fill
   rw [if_pos b1,if_pos hs0]
  rw [hf]
  have hall:∀ t,(((M.create tmp).1.append tmp b).1.sync tmp).1.all t=((M.create tmp).1.append tmp b).1.all t:=hal.all
  have hnow0:(((M.create tmp).1.append tmp b).1.sync tmp).1.now=nput M.now tmp M.files.length:=by rw [hal.now,b2,c2]
  have hu0:(((M.create tmp).1.append tmp b).1.sync tmp).1.used=M.used+b.length:=by rw [hal.used,b3,c3]
  have hgt:(((M.create tmp).1.append tmp b).1.sync tmp).1.all tmp=(b,0):=by rw [hall,b4,c4];rfl
  have hot:∀ t,t≠tmp→(((M.create tmp).1.append tmp b).1.sync tmp).1.all t=M.all t:=fun t h1=>by rw [hall,b5 t h1,c5 t h1]
  generalize (((M.create tmp).1.append tmp b).1.sync tmp).1=M2 at *
  have hnow:(M2.rename tmp s).1.now=nput (ndel (nput M.now tmp M.files.length) tmp) s M.files.length:=by
   rw [er]
   show Lnk.on _ M2.now=_
   rw [hnow0]
   unfold Lnk.on
   simp only [if_neg tmp_ne,if_neg hse]
  rw [Seg.ndel_put ht]at hnow
  have hfile:(M2.rename tmp s).1.file=M2.file:=by rw [er];rfl
  have hq:=hre.quiet
  refine ⟨hre.mono oQ,?_,?_,?_,fun t h1 h2=>?_,fun p hp=>?_,.inl ⟨by rw [er],?_⟩,fun _=>by rw [er]⟩
  ·rw [hnow,Seg.nget_put_ne (Ne.symm hst)];exact ht
  ·rw [hnow];exact nput_le _ _ _
  ·rw [← hu0]
   show ((M2.rename tmp s).1.now.map fun p=>((M2.rename tmp s).1.file p.2).now.length).sum≤(M2.now.map fun p=>(M2.file p.2).now.length).sum
   rw [hnow,hfile,hnow0]
   rw [sum_put _ _ _ (fun j=>(M2.file j).now.length),sum_put _ _ _ (fun j=>(M2.file j).now.length),ndel_none ht]
   have h2:=sum_del_le M.now s (fun j=>(M2.file j).now.length)
   omega
  ·have e1:nget (M2.rename tmp s).1.now t=nget M.now t:=by rw [hnow,Seg.nget_put_ne h2]
   have e2:nget M2.now t=nget M.now t:=by rw [hnow0,Seg.nget_put_ne h1]
   rw [← hot t h1]
   cases hj:nget M.now t with
   |none=>rw [hj]at e1 e2;rw [Seg.all_none hq e1,Seg.all_none hsy.quiet e2]
   |some j=>rw [hj]at e1 e2;rw [Seg.all_some hq e1,Seg.all_some hsy.quiet e2,hfile]
  ·rw [hnow]at hp
   rcases List.mem_cons.1 ((nput_perm _ _ _).mem_iff.1 hp) with rfl|hp
   ·exact .inr rfl
   ·exact .inl (List.mem_filter.1 hp).1
  ·have e1:nget (M2.rename tmp s).1.now s=some M.files.length:=by rw [hnow];exact Seg.nget_put_self h.ok.nowOk.srt _ _
   rw [Seg.all_some hq e1,hfile]
   rw [Seg.all_some hsy.quiet hi3]at hgt
   exact hgt
theorem remove_all (h:Seg.Calm K r M){i:Nat} (hi:nget M.now s=some i):(M.remove s).2=0∧(M.remove s).1.now=ndel M.now s∧(∀ t,t≠s→(M.remove s).1.all t=M.all t)∧(M.remove s).1.used≤M.used:=by
 have hr:=Seg.remove_quiet h.quiet hi
 have hc:=h.remove s
 have hse:s≠ByteArray.empty:=fun e=>h.ok.nowOk.ne _ (nget_mem hi) e
 have hnow:(M.remove s).1.now=ndel M.now s:=by
  rw [hr]
  show Lnk.on ⟨s,ByteArray.empty,0⟩ M.now=_
  unfold Lnk.on
  simp only [if_neg hse,if_true]
 have hfile:(M.remove s).1.file=M.file:=by rw [hr];rfl
 refine ⟨by rw [hr],hnow,fun t ht=>?_,?_⟩
 ·have e1:nget (M.remove s).1.now t=nget M.now t:=by rw [hnow,Seg.nget_ne ht]
  cases hj:nget M.now t with
  |none=>rw [hj]at e1;rw [Seg.all_none hc.quiet e1,Seg.all_none h.quiet hj]
  |some j=>rw [hj]at e1;rw [Seg.all_some hc.quiet e1,Seg.all_some h.quiet hj,hfile]
 ·show ((M.remove s).1.now.map fun p=>((M.remove s).1.file p.2).now.length).sum≤(M.now.map fun p=>(M.file p.2).now.length).sum
  rw [hnow,hfile]
  exact sum_del_le M.now s (fun j=>(M.file j).now.length)
structure Sw (p:ByteArray→Bool) (K r:Nat) (l:List ByteArray) (M:Med) (R:Med×Int):Prop where
 zero:R.2=0
 calm:Seg.Calm K r R.1
 sub:∀ q∈R.1.now,q∈M.now
 len:R.1.now.length≤M.now.length
 used:R.1.used≤M.used
 other:∀ t,p t=false→R.1.all t=M.all t
 gone:∀ q∈R.1.now,q.1∈l→p q.1=false
theorem sweep_calm {p:ByteArray→Bool}:∀ (l:List ByteArray) (K:Nat) (M:Med),Seg.Calm K r M→l.Nodup→(∀ f∈l,∃ i,nget M.now f=some i)→Sw p (K+l.length) r l M (sweep p l M)
 |[],K,M,h,_,_=>⟨rfl,h,fun q hq=>hq,Nat.le_refl _,Nat.le_refl _,fun _ _=>rfl,fun _ _ hl=>by cases hl⟩
 |f::l,K,M,h,hd,hh=>by
  obtain ⟨d1,d2⟩:=List.nodup_cons.1 hd
  unfold sweep
  split
  ·rename_i hp
   obtain ⟨i,hi⟩:=hh f (.head _)
   obtain ⟨r1,r2,r3,r4⟩:=remove_all h hi
   rw [if_pos r1]
   have hs:=sweep_calm (p:=p) l (K+1) (M.remove f).1 (h.remove f) d2 (fun g hg=>by
    rw [r2,Seg.nget_ne (fun e=>d1 (by rw [← e];exact hg))]
    exact hh g (.tail _ hg))
   refine ⟨hs.zero,hs.calm.mono (by rw [List.length_cons];omega),fun q hq=>?_,Nat.le_trans hs.len (by rw [r2];exact ndel_len M.now f),Nat.le_trans hs.used r4,fun t ht=>?_,fun q hq hl=>?_⟩
   ·have:=hs.sub q hq
    rw [r2]at this
    exact (List.mem_filter.1 this).1
   ·rw [hs.other t ht,r3 t (fun e=>by rw [e,hp]at ht;cases ht)]
   ·rcases List.mem_cons.1 hl with e|hl
    ·have:=hs.sub q hq
     rw [r2]at this
     have:=(List.mem_filter.1 this).2
     rw [e]at this
     simp [bne,beq_ba]at this
    ·exact hs.gone q hq hl
  ·rename_i hp
   have hs:=sweep_calm (p:=p) l K M h d2 (fun g hg=>hh g (.tail _ hg))
   refine ⟨hs.zero,hs.calm.mono (by rw [List.length_cons];omega),hs.sub,hs.len,hs.used,hs.other,fun q hq hl=>?_⟩
   rcases List.mem_cons.1 hl with e|hl
   ·rw [e];simpa using hp
   ·exact hs.gone q hq hl
theorem now_nodup (h:Seg.Calm K r M):(M.now.map (·.1)).Nodup:=h.ok.nowOk.srt.keys
structure Svd (n:Int) (b1 b2:Bs) (K r:Nat) (M:Med) (R:Med×Int):Prop where
 calm:Seg.Calm K r R.1
 tmp:nget R.1.now Hin.tmp=none
 len:R.1.now.length≤M.now.length+2
 used:R.1.used≤M.used+b1.length+b2.length
 other:∀ t,t≠Hin.tmp→t≠name idx n→t≠name use n→other n t=false→R.1.all t=M.all t
 names:∀ p∈R.1.now,p∈M.now∨p.1=name idx n∨p.1=name use n
 done:R.2=0∧R.1.all (name idx n)=(b1,0)∧R.1.all (name use n)=(b2,0)∨R.2=11
 room:M.used+b1.length+b2.length≤r→R.2=0
 gone:R.2=0→∀ p∈R.1.now,Hin.other n p.1=false
theorem save_calm (h:Seg.Calm K r M) (ht:nget M.now tmp=none) (hl:M.now.length≤480) (h1:0≤n) (h2:n<1048576):Svd n b1 b2 (K+600) r M (save M n b1 b2):=by
 have g1:=name_good (ld:=idx) rfl dCz n h1 h2
 have g2:=name_good (ld:=use) rfl dCz n h1 h2
 have n1:=idx_ne_tmp n h1 h2
 have n2:=use_ne_tmp n h1 h2
 have ne:=name_ne n h1 h2
 have o1:other n (name idx n)=false:=other_self (number_of (.inl idx_l) n h1 h2)
 have o2:other n (name use n)=false:=other_self (number_of (.inr use_l) n h1 h2)
 have w1:=write_calm (b:=b1) h ht oQ g1 n1
 unfold save
 by_cases c1:(write M (name idx n) b1).2=0
 rotate_left
 ·rw [if_neg c1]
  have e11:(write M (name idx n) b1).2=11:=by
   rcases w1.done with ⟨e,_⟩|⟨e,_⟩
   ·exact absurd e c1
   ·exact e
  exact ⟨w1.calm.mono oQ,w1.tmp,by have:=w1.len;omega,by have:=w1.used;omega,fun t a b _ _=>w1.other t a b,fun p hp=>(w1.names p hp).imp id .inl,.inr e11,fun hh=>w1.room oQ,fun e=>absurd e c1⟩
 rw [if_pos c1]
 have a1:(write M (name idx n) b1).1.all (name idx n)=(b1,0):=by
  rcases w1.done with ⟨_,e⟩|⟨e,_⟩
  ·exact e
  ·rw [e]at c1;cases c1
 have w2:=write_calm (b:=b2) w1.calm w1.tmp (by have:=w1.len;omega) g2 n2
 unfold save1
 generalize hM1:(write M (name idx n) b1).1=M1 at *
 by_cases c2:(write M1 (name use n) b2).2=0
 rotate_left
 ·rw [if_neg c2]
  have e11:(write M1 (name use n) b2).2=11:=by
   rcases w2.done with ⟨e,_⟩|⟨e,_⟩
   ·exact absurd e c2
   ·exact e
  refine ⟨w2.calm.mono oQ,w2.tmp,?_,?_,fun t a b c _=>?_,fun p hp=>?_,.inr e11,fun hh=>?_,fun e=>absurd e c2⟩
  ·have:=w1.len;have:=w2.len;rw [hM1]at *;omega
  ·have:=w1.used;have:=w2.used;rw [hM1]at *;omega
  ·have:=w1.other t a b;rw [hM1]at this;rw [w2.other t a c,this]
  ·rcases w2.names p hp with q|q
   ·have:=w1.names p (by rw [hM1];exact q);exact this.imp id .inl
   ·exact .inr (.inr q)
  ·have:=w1.used;rw [hM1]at this;exact w2.room oQ
 rw [if_pos c2]
 have a2:(write M1 (name use n) b2).1.all (name use n)=(b2,0):=by
  rcases w2.done with ⟨_,e⟩|⟨e,_⟩
  ·exact e
  ·rw [e]at c2;cases c2
 have a3:(write M1 (name use n) b2).1.all (name idx n)=(b1,0):=by rw [w2.other _ n1 ne,a1]
 generalize hM2:(write M1 (name use n) b2).1=M2 at *
 have k2:Seg.Calm (K+5+5) r M2:=by have:=w2.calm;rw [hM2]at this;exact this
 have hd:=k2.quiet.syncDir_eq
 have hds:=k2.syncDir
 unfold save2
 rw [if_pos (by rw [hd])]
 have hz:M2.syncDir.1.now=M2.now:=by rw [hd]
 have hu:M2.syncDir.1.used=M2.used:=by rw [hd];rfl
 have hall:∀ t,M2.syncDir.1.all t=M2.all t:=fun t=>by rw [hd];rfl
 generalize M2.syncDir.1=M3 at *
 have hli:M3.list=M3.now.map (·.1):=hds.quiet.list
 have hs:=sweep_calm (p:=other n) M3.list (K+5+5) M3 hds (by rw [hli];exact now_nodup hds) (fun f hf=>by
  rw [hli]at hf
  obtain ⟨p,hp,rfl⟩:=List.mem_map.1 hf
  exact ⟨p.2,nget_of_mem hds.ok.nowOk.srt.keys (show (p.1,p.2)∈M3.now from hp)⟩)
 have hlen:M3.list.length≤500:=by rw [hli,List.length_map];exact hds.ok.nowOk.len
 refine ⟨hs.calm.mono oQ,?_,?_,?_,fun t a b c d=>?_,fun p hp=>?_,.inl ⟨hs.zero,?_,?_⟩,fun _=>hs.zero,fun _ p hp=>hs.gone p hp (by rw [hli];exact List.mem_map.2 ⟨p,hs.sub p hp,rfl⟩)⟩
 ·cases hi:nget (sweep (other n) M3.list M3).1.now tmp with
  |none=>rfl
  |some i=>
   have q:=hs.sub _ (nget_mem hi)
   have:=nget_of_mem hds.ok.nowOk.srt.keys q
   rw [hz]at this
   have e:=w2.tmp
   rw [hM2,this]at e
   cases e
 ·have:=hs.len;have:=w1.len;have:=w2.len;rw [hM1]at *;rw [hM2]at *;rw [hz]at *;omega
 ·have:=hs.used;have:=w1.used;have:=w2.used;rw [hM1]at *;rw [hM2]at *;omega
 ·have e1:=w1.other t a b
  have e2:=w2.other t a c
  rw [hM1]at e1
  rw [hM2]at e2
  rw [hs.other t d,hall,e2,e1]
 ·have q:=hs.sub p hp
  rw [hz]at q
  rcases w2.names p (by rw [hM2];exact q) with q|q
  ·have:=w1.names p (by rw [hM1];exact q);exact this.imp id .inl
  ·exact .inr (.inr q)
 ·rw [hs.other _ o1,hall,a3]
 ·rw [hs.other _ o2,hall,a2]
end
end Go.Hin
namespace Go.Bok
open Go.Frm (Bs le num le_len num_le)
structure Rw where
 key:Bs
 nums:List Int
def numsB (ns:List Int):Bs:=ns.flatMap fun n=>le n.toNat 4
def rowB (kd:Bool) (r:Rw):Bs:=(if kd then r.key else [])++numsB r.nums
def rowsB (kd:Bool) (l:List Rw):Bs:=l.flatMap (rowB kd)
def body (mg:Bs) (kd:Bool) (l:List Rw):Bs:=mg++le l.length 4++rowsB kd l
def book (X:Bs→Nat) (mg:Bs) (kd:Bool) (l:List Rw):Bs:=body mg kd l++le (X (body mg kd l)) 8
structure RwOk (k:Nat) (r:Rw):Prop where
 key:r.key.length=32
 len:r.nums.length=k
 num:∀ n∈r.nums,0≤n∧n≤4294967295
def ahead (kd:Bool) (a b:Rw):Prop:=if kd then a.key<b.key else a.nums.getD 0 0<b.nums.getD 0 0
instance (kd:Bool) (a b:Rw):Decidable (ahead kd a b):=by unfold ahead;infer_instance
def Rises (kd:Bool) (l:List Rw):Prop:=∀ i a b,l[i]?=some a→l[i+1]?=some b→ahead kd a b
structure Ok (k:Nat) (kd:Bool) (l:List Rw):Prop where
 len:l.length≤65536
 row:∀ r∈l,RwOk k r
 rise:Rises kd l
section
variable {X:Bs→Nat}{mg:Bs}{kd:Bool}{l:List Rw}{r:Rw}{k i:Nat}{n:Int}{ns:List Int}
theorem numsB_nil:numsB []=[]:=rfl
theorem numsB_cons (n:Int) (ns:List Int):numsB (n::ns)=le n.toNat 4++numsB ns:=rfl
theorem numsB_app (a b:List Int):numsB (a++b)=numsB a++numsB b:=by unfold numsB;rw [List.flatMap_append]
theorem numsB_len (ns:List Int):(numsB ns).length=4 * ns.length:=by
 induction ns with
 |nil=>rfl
 |cons n ns ih=>rw [numsB_cons,List.length_append,le_len,ih,List.length_cons];omega
theorem rowsB_nil:rowsB kd []=[]:=rfl
theorem rowsB_cons (r:Rw) (l:List Rw):rowsB kd (r::l)=rowB kd r++rowsB kd l:=rfl
theorem rowsB_app (a b:List Rw):rowsB kd (a++b)=rowsB kd a++rowsB kd b:=by unfold rowsB;rw [List.flatMap_append]
def rowSz (kd:Bool) (k:Nat):Nat:=4 * k+if kd then 32 else 0
theorem rowB_len (h:RwOk k r):(rowB kd r).length=rowSz kd k:=by
 unfold rowB rowSz
 rw [List.length_append,numsB_len,h.len]
 cases kd
 ·simp
 ·rw [if_pos rfl,if_pos rfl,h.key];omega
theorem rowsB_len:∀ (l:List Rw),(∀ r∈l,RwOk k r)→(rowsB kd l).length=l.length * rowSz kd k
 |[],_=>by simp [rowsB_nil]
 |r::l,h=>by
  rw [rowsB_cons,List.length_append,rowB_len (h r (.head _)),rowsB_len l (fun x hx=>h x (.tail _ hx)),List.length_cons,Nat.add_mul];omega
theorem body_len (hm:mg.length=8) (h:∀ r∈l,RwOk k r):(body mg kd l).length=12+l.length * rowSz kd k:=by
 unfold body
 rw [List.length_append,List.length_append,hm,le_len,rowsB_len l h]
theorem book_len (hm:mg.length=8) (h:∀ r∈l,RwOk k r):(book X mg kd l).length=20+l.length * rowSz kd k:=by
 unfold book
 rw [List.length_append,body_len hm h,le_len];omega
theorem rowSz_le (hk:k≤3):rowSz kd k≤44:=by unfold rowSz;split <;> omega
theorem body_le (hm:mg.length=8) (hk:k≤3) (h:Ok k kd l):(body mg kd l).length≤3000000:=by
 rw [body_len hm h.row]
 have h1:=h.len
 have h2:l.length * rowSz kd k≤65536 * 44:=Nat.mul_le_mul h1 (rowSz_le hk)
 omega
theorem take_get {α:Type}{l:List α}{x:α} (h:l[i]?=some x):l.take (i+1)=l.take i++[x]:=by
 obtain ⟨hi,rfl⟩:=List.getElem?_eq_some_iff.1 h
 exact List.take_succ_eq_append_getElem hi
theorem rowsB_take (h:l[i]?=some r):rowsB kd (l.take (i+1))=rowsB kd (l.take i)++rowB kd r:=by
 rw [take_get h,rowsB_app,rowsB_cons,rowsB_nil,List.append_nil]
theorem numsB_take {j:Nat} (h:ns[j]?=some n):numsB (ns.take (j+1))=numsB (ns.take j)++le n.toNat 4:=by
 rw [take_get h,numsB_app,numsB_cons,numsB_nil,List.append_nil]
def mgIdx:Bs:=[72,79,65,82,68,73,68,88]
def mgUse:Bs:=[72,79,65,82,68,85,83,69]
end
end Go.Bok
namespace Go.Proofs.YtfdchfnmpabogaaGreatDoor
open Go Go.Sl Go.Med Go.MapKept Go.RowKit
def msl (T sz:Nat) (v:Value) (xs:List Value):HProp:=fun h=>
 ∃ b n cap cs m,v = .slice (some ⟨b,0,none⟩) n cap∧xs.length=n * sz∧n≤cap∧cap * sz≤cs.size∧cap≤maxLen∧cs.toList.take (n * sz)=xs∧cs.size≤m∧pt b (.cells cs T (m,m+1)) h
def asl (T sz:Nat) (v:Value) (xs:List Value):HProp:=fun h=>osl T sz v xs h∨msl T sz v xs h
abbrev abl (v:Value) (l:Frm.Bs):HProp:=asl 5 1 v (bys l)
section
variable {P:Program}{w0 w:World}{R:List HProp}{T sz b:Nat}{v x:Value}{xs ys:List Value}{fr:Nat×Nat}
theorem cellAtF {cs:Array Value}{T:TypeId} (h:Sat w0 w (pt b (.cells cs T fr)::R)) (i:Nat) (v:Value) (hv:cs[i]?=some v):w.cell? ⟨b,i,none⟩=some v:=by
 have:=h.at
 simp [World.cell?,this,hv]
theorem freeAtM {cs:Array Value}{T:TypeId}{m:Nat} (h:Sat w0 w (pt b (.cells cs T (m,m+1))::R)) (i:Nat) (hi:i<m):w.frozen? ⟨b,i,none⟩=false:=by
 have:=h.at
 simp [World.frozen?,this]
 omega
theorem setF {cs:Array Value}{T:TypeId} (h:Sat w0 w (pt b (.cells cs T fr)::R)) (i:Nat) (v:Value):Sat w0 (w.setCell ⟨b,i,none⟩ v) (pt b (.cells (cs.setIfInBounds i v) T fr)::R):=by
 have hb:=h.at
 have hlt:=h.lt
 refine h.turn rfl rfl rfl (by simp) ?_ ?_
 ·simp only [World.setCell,Array.getElem?_modify,if_true,hb]
  simp
 ·intro j hj _
  simp only [World.setCell,Array.getElem?_modify]
  rw [if_neg (Ne.symm hj)]
theorem setsF:∀ (vs:List Value){cs:Array Value}{T:TypeId}{w:World} (o:Nat),Sat w0 w (pt b (.cells cs T fr)::R)→Sat w0 (w.setCells b o vs) (pt b (.cells (putsAt cs o vs) T fr)::R)
 |[],_,_,_,_,h=>h
 |v::r,_,_,_,o,h=>setsF r (o+1) (setF h o v)
theorem asl_cases (h:Sat w0 w (asl T sz v xs::R)):Sat w0 w (osl T sz v xs::R)∨∃ b n cap cs m,v = .slice (some ⟨b,0,none⟩) n cap∧xs.length=n * sz∧n≤cap∧cap * sz≤cs.size∧cap≤maxLen∧cs.toList.take (n * sz)=xs∧cs.size≤m∧Sat w0 w (pt b (.cells cs T (m,m+1))::R):=by
 obtain ⟨ha,x,hx,p,q,d,rfl,hp,hq⟩:=h
 rcases hp with hp|⟨b,n,cap,cs,m,h1,h2,h3,h4,h5,h6,h7,h8⟩
 ·exact .inl ⟨ha,_,hx,p,q,d,rfl,hp,hq⟩
 ·exact .inr ⟨b,n,cap,cs,m,h1,h2,h3,h4,h5,h6,h7,ha,_,hx,p,q,d,rfl,h8,hq⟩
theorem asl_of_osl (h:Sat w0 w (osl T sz v xs::R)):Sat w0 w (asl T sz v xs::R):=h.head fun _ hx=> .inl hx
theorem asl_of_pt {n cap m:Nat}{cs:Array Value} (h:Sat w0 w (pt b (.cells cs T (m,m+1))::R)) (h2:xs.length=n * sz) (h3:n≤cap) (h4:cap * sz≤cs.size) (h5:cap≤maxLen) (h6:cs.toList.take (n * sz)=xs) (h7:cs.size≤m):Sat w0 w (asl T sz (.slice (some ⟨b,0,none⟩) n cap) xs::R):=
 h.head fun _ hx=> .inr ⟨b,n,cap,cs,m,rfl,h2,h3,h4,h5,h6,h7,hx⟩
theorem asl_rd (h:Sat w0 w (asl T sz v xs::R)):rdsl sz v xs w:=by
 rcases asl_cases h with h|⟨b,n,cap,cs,m,rfl,hl,hn,hc,hcm,htk,hm,hp⟩
 ·exact Sat.rd h
 ·exact ⟨_,n,cap,rfl,hl,fun j y hj=>⟨_,rfl,by rw [add_zero_lit];exact cellAtF hp j y (take_get htk hj)⟩⟩
theorem asl_text (h:Sat w0 w R) (e:TypeId) (s:ByteArray) (l:Frm.Bs) (hs:s.data.toList=l) (hl:l.length≤1073741824):Sat w0 (Lib.bytesWorld w e s) (asl e 1 (.slice (some ⟨w.heap.size,0,none⟩) s.size (grownCap w s.size 0 e)) (bys l)::R):=by
 have h1:=(h.drew).alloc (.cells (Lib.bytesCells w e s) e)
 have hsz:s.size=l.length:=by rw [← hs];exact Array.length_toList.symm
 have hge:=grownCap_ge w s.size 0 e
 have hcm:=grownCap_le_maxLen w s.size 0 e (by have:maxLen=9223372036854775807:=rfl;omega)
 have hcs:(Lib.bytesCells w e s).size=grownCap w s.size 0 e:=by
  unfold Lib.bytesCells
  rw [Array.size_append,Array.size_map,Array.size_replicate]
  have:s.data.size=s.size:=rfl
  omega
 have h2:Sat w0 (Lib.bytesWorld w e s) (pt w.heap.size (.cells (Lib.bytesCells w e s) e ((Lib.bytesCells w e s).size,(Lib.bytesCells w e s).size+1))::R):=by
  refine h1.turn (w':=Lib.bytesWorld w e s) rfl rfl rfl ?_ (Lib.bytesWorld_at_new w e s) (fun j hj _=>?_)
  ·rw [Lib.bytesWorld_size];exact Nat.le_of_eq (Array.size_push ..)
  ·unfold Lib.bytesWorld World.freeze
   rw [if_neg dCz]
   show (Array.modify _ _ _)[j]?=_
   rw [Array.getElem?_modify]
   exact if_neg (fun e=>hj e.symm)
 refine asl_of_pt h2 ?_ hge (by rw [Nat.mul_one,hcs];exact Nat.le_refl _) hcm ?_ (Nat.le_refl _)
 ·rw [bys_len,hsz,Nat.mul_one]
 ·unfold Lib.bytesCells
  rw [Array.toList_append,Nat.mul_one,List.take_append_of_le_length (by rw [Array.length_toList,Array.size_map];exact Nat.le_refl _),List.take_of_length_le (by rw [Array.length_toList,Array.size_map];exact Nat.le_refl _),Array.toList_map,hs]
  rfl
theorem run_appendA (t ty e:TypeId) (i:TypeInfo) (z:Value) (ht:P.underlying t=some (.slice e)) (hi:P.info? e=some i) (hz:i.zero=some z)
  (hs:i.size=sz) (hzs:z.cells.size=sz) (hsz:0<sz) (h1:∀ u∈ys,u.oneCell'=true) (hy0:ys≠[])
  (h:Sat w0 w (asl e sz v xs::R)) (hx:rdsl sz x ys w) (h63:xs.length+ys.length≤maxLen) (hby:(xs.length+ys.length) * i.bytes≤140737488355328) :
  ∃ v' w',(Builtin.append_ #[t,t] ty #[v,x]).run P w = .ok v' w'∧Sat w0 w' (asl e sz v' (xs++ys)::R):=by
 rcases asl_cases h with h|⟨b,n,cap,cs,mk,rfl,hl,hn,hc,hcm,htk,hmk,hp⟩
 ·obtain ⟨v',w',hr,hS,_⟩:=run_append (P:=P) t ty e i z ht hi hz hs hzs hsz h1 h hx h63 hby
  exact ⟨v',w',hr,asl_of_osl hS⟩
 ·subst hs
  obtain ⟨xa,m,c,rfl,hyl,hyc⟩:=hx
  have hle:∀ {p q:Nat},p=q * i.size→q≤p:=fun {p q} e=>by rw [e];exact Nat.le_mul_of_pos_right _ hsz
  have hm:=hle hyl
  obtain ⟨ad,rfl⟩:∃ ad,xa=some ad:=by
   obtain ⟨y,hy⟩:∃ y,ys[0]?=some y:=by
    cases ys with
    |nil=>exact absurd rfl hy0
    |cons y _=>exact ⟨y,rfl⟩
   obtain ⟨b,hb,_⟩:=hyc 0 y hy
   exact ⟨b,hb⟩
  have hnews:∀ j u,ys[j]?=some u→w.cell? (ad.add j)=some u:=fun j u hj=>by
   obtain ⟨b,hb,hx⟩:=hyc j u hj
   cases hb;exact hx
  have hnx:=hle hl
  have h63':maxLen=9223372036854775807:=rfl
  by_cases hroom:n+m≤cap
  ·have hfit:n * i.size+ys.length≤cs.size:=by
    rw [hyl,← Nat.add_mul];exact Nat.le_trans (Nat.mul_le_mul_right _ hroom) hc
   have hr:=run_append_room_cells (P:=P) w t ty e i ht hi b 0 n cap ad m c ys hyl hnews h1 hroom
    (fun j hj=>by rw [Nat.zero_add,cellAtF hp (n * i.size+j) _ (Array.getElem?_eq_getElem (show n * i.size+j<cs.size by omega))];rfl)
    (fun j hj=>by rw [Nat.zero_add];exact freeAtM hp _ oQ)
   rw [Nat.zero_add]at hr
   refine ⟨_,_,hr,asl_of_pt (setsF ys (n * i.size) hp) ?_ hroom (by rw [putsAt_size];exact hc) hcm ?_ (by rw [putsAt_size];exact hmk)⟩
   ·rw [List.length_append,hl,hyl,Nat.add_mul]
   ·rw [putsAt_list _ _ _ hfit,htk]
    have e1:(n+m) * i.size=(xs++ys).length:=by rw [List.length_append,hl,hyl,Nat.add_mul]
    rw [e1]
    exact List.take_left
  ·have holds:∀ j u,xs[j]?=some u→w.cell? ((⟨b,0,none⟩:Addr).add j)=some u:=fun j u hj=>by
    rw [add_zero_lit];exact cellAtF hp j u (take_get htk hj)
   have hby':(n+m) * i.bytes≤140737488355328:=Nat.le_trans (Nat.mul_le_mul_right _ oQ) hby
   have hr:=run_append_grow (P:=P) w t ty e i z ht hi hz ⟨b,0,none⟩ n cap xs hl holds ad m c ys hyl hnews oQ oQ (growslice_fits oQ hby')
   have hge:=grownCap_ge w (n+m) cap e
   have hcm':=grownCap_le_maxLen w (n+m) cap e oQ
   refine ⟨_,_,hr,asl_of_osl (Sat.osl_of_pt ((hp.drop.drew).alloc (.cells (xs.toArray++ys.toArray++Builtin.zeroCells z.cells (grownCap w (n+m) cap e - (n+m))) e)) ?_ hge ?_ hcm' ?_)⟩
   ·rw [List.length_append,hl,hyl,Nat.add_mul]
   ·simp only [Array.size_append,List.size_toArray,size_zeroCells,hzs]
    rw [hl,hyl,← Nat.add_mul,← Nat.add_mul]
    exact Nat.mul_le_mul_right _ oQ
   ·simp only [Array.toList_append,List.append_assoc]
    rw [← List.append_assoc]
    have e1:(n+m) * i.size=(xs++ys).length:=by rw [List.length_append,hl,hyl,Nat.add_mul]
    rw [e1]
    exact List.take_left
end
end Go.Proofs.YtfdchfnmpabogaaGreatDoor
