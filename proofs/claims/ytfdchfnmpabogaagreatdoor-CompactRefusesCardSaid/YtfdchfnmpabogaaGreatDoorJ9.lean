import Derived.Test.YtfdchfnmpabogaaGreatDoorJ8
import Derived.Test.YtfdchfnmpabogaaGreatDoorShelf
set_option linter.unusedVariables false
set_option maxHeartbeats 128000000
namespace Go.Proofs.YtfdchfnmpabogaaGreatDoor
open Go Go.Sl Go.Med Go.MapKept Go.RowKit
section
variable {P:Program}{w w':World}{ops:Array Oper}{rest:List Oper}{a:Act}{Q:Exit→Act→World→Prop}{dst:Option Tmp}{t ty:TypeId}{pos:String}{after:Array Edge}{n:Nat}{xs:Array (Nat×Operand)}{v:Value}
theorem at_bsl (h:Stop (wpList P ops Q (⟨dst,.buildSlice ty n xs,t,pos,after,none⟩::rest) a w)):wpList P ops Q (⟨dst,.buildSlice ty n xs,t,pos,after,none⟩::rest) a w:=h.out
theorem wl_bsl (parts':Array (Nat×Value)) (he:xs.map (fun p=>(p.1,a.eval p.2))=parts') (hr:(Instr.buildSlice ty n parts').run P w = .ok v w') (h:wpList P ops Q rest (a.put dst v) w'):wpList P ops Q (⟨dst,.buildSlice ty n xs,t,pos,after,none⟩::rest) a w:=
 wpList_plain rfl fun _ hK=>by
  unfold Oper.wp execOp
  simp only [he,Sem.run_bind,hr,Result.andThen_ok,Sem.run_pure]
  exact hK _ _ h
end
section
variable {w0 w:World}{F:List HProp}
set_option maxRecDepth 20000 in
theorem useRow_c (a b c:Int) (h:Sat w0 w F):Calls Tryz.prog 107 #[.agg #[.int .i64 a,.int .i64 b,.int .i64 c]] w
  (Rtn fun v w'=>∃ q,v = .agg (rvL ⟨⟨Frm.zero32,[a,b,c]⟩,.slice (some ⟨q,0,none⟩) 3 3⟩).toArray∧Sat w0 w' (pt q (.cells #[.int .i64 a,.int .i64 b,.int .i64 c] 3 (0,0))::F)):=by
 have hbs:∀ w,(Instr.buildSlice 25 3 #[(0,.int .i64 a),(1,.int .i64 b),(2,.int .i64 c)]).run Tryz.prog w = .ok (.slice (some ⟨w.heap.size,0,none⟩) 3 3) (w.alloc (.cells #[.int .i64 a,.int .i64 b,.int .i64 c] 3)):=fun w=>by kernel_rfl
 have hrow:∀ w q,(Instr.build 185 #[(1,.slice (some ⟨q,0,none⟩) 3 3)]).run Tryz.prog w = .ok (.agg (rvL ⟨⟨Frm.zero32,[a,b,c]⟩,.slice (some ⟨q,0,none⟩) 3 3⟩).toArray) w:=fun w q=>by kernel_rfl
 go_enter Tryz.func107,Tryz.ntmps107
 go_wp2_with (with_reducible apply at_box)
 refine ⟨wl_box h rFz rFz ?_⟩
 intro b1 w1 h1
 go_wp2_with (with_reducible apply at_alloc)
 refine ⟨wl_alloc zBRow h1 rfl ?_⟩
 intro b2 w2 h2
 have hS:=h2.alloc (.cells #[.int .i64 a,.int .i64 b,.int .i64 c] 3)
 generalize hq:w2.heap.size=q at *
 have hq2:=hq
 go_wp2_with (first
  |((with_reducible refine at_load ⟨?_⟩);refine wl_load1 h2 rFz pick1 nLz evD kRz ?_)
  |((with_reducible refine at_store ⟨?_⟩);refine wl_storeA (rvL ⟨⟨Frm.zero32,[a,b,c]⟩,.slice (some ⟨q,0,none⟩) 3 3⟩).toArray hS rFz rFz rFz upd1 kRz rFz ?_;intro w9 h9))
 refine ⟨rfl,_,res_cell rfl h9 rFz pkD Tryz.underlying185 rfl kRz,?_⟩
 exact ⟨_,rfl,q,rfl,h9.sb⟩
theorem plBRow:placesB Tryz.prog 185=some [(0,32),(32,1)]:=by kernel_rfl
theorem run_rowK (k:Frm.Bs) (hk:k.length=32) (x:Bok.Rw) (hx:x.key=k) (nv:Value) (q:Nat) (hnv:nv = .slice (some ⟨q,0,none⟩) 3 3) (w:World):(Instr.build 185 #[(0,.agg (bys k).toArray),(1,nv)]).run Tryz.prog w = .ok (.agg (rvL ⟨x,nv⟩).toArray) w:=by
 subst hnv;subst hx
 have h:=run_build (P:=Tryz.prog) [(0,.agg (bys x.key).toArray),(1,.slice (some ⟨q,0,none⟩) 3 3)] plBRow zBRow (by
  intro p hp
  have hzz:(Value.agg (rvL zeroRV).toArray).cells.size=33:=by rfl
  rw [hzz]
  rcases List.mem_cons.1 hp with rfl|hp
  ·refine ⟨0,?_,?_⟩
   ·show some (0,32)=some (0,(bys x.key).toArray.size);rw [List.size_toArray,bys_len,hk]
   ·show 0+(bys x.key).toArray.size≤33
    rw [List.size_toArray,bys_len,hk];decide
  ·rw [List.mem_singleton.1 hp]
   exact ⟨32,rfl,by show 32+1≤33;omega⟩) w
 refine h.trans ?_
 have hz:Frm.zero32.length=32:=rfl
 have hzl:(rvL zeroRV).length=33:=rvL_len _ hz
 have e:putsAt (putsAt (rvL zeroRV).toArray 0 (bys x.key)) 32 [.slice (some ⟨q,0,none⟩) 3 3]=(rvL ⟨x,.slice (some ⟨q,0,none⟩) 3 3⟩).toArray:=by
  apply putsAt_eq
  rw [puts_putL _ _ _ (by rw [putsAt_size,List.size_toArray,hzl];exact Nat.le_refl 33),puts_putL _ _ _ (by rw [List.size_toArray,hzl,bys_len,hk];decide),List.toList_toArray]
  have e1:putL (rvL zeroRV) 0 (bys x.key)=bys x.key++[.slice none 0 0]:=by
   unfold rvL zeroRV
   rw [putL_app2 _ _ _ _ (by rw [bys_len,bys_len,hk,hz];decide),putL_all (by rw [bys_len,bys_len,hk,hz])]
  have h0:=putL_app (bys x.key) [.slice none 0 0] [.slice (some ⟨q,0,none⟩) 3 3] 0
  rw [bys_len,hk,putL_all (xs:=[Value.slice none 0 0]) (vs:=[Value.slice (some ⟨q,0,none⟩) 3 3]) rFz]at h0
  rw [e1]
  exact h0
 exact congrArg (fun x=>Result.ok (Value.agg x) w) e
set_option maxRecDepth 20000 in
theorem idxRow_c (k:Frm.Bs) (hk:k.length=32) (a b c:Int) (h:Sat w0 w F):Calls Tryz.prog 103 #[.agg (bys k++[Value.int .i64 a,Value.int .i64 b,Value.int .i64 c]).toArray] w
  (Rtn fun v w'=>∃ q,v = .agg (rvL ⟨⟨k,[a,b,c]⟩,.slice (some ⟨q,0,none⟩) 3 3⟩).toArray∧Sat w0 w' (pt q (.cells #[.int .i64 a,.int .i64 b,.int .i64 c] 3 (0,0))::F)):=by
 have hbs:∀ w,(Instr.buildSlice 25 3 #[(0,.int .i64 a),(1,.int .i64 b),(2,.int .i64 c)]).run Tryz.prog w = .ok (.slice (some ⟨w.heap.size,0,none⟩) 3 3) (w.alloc (.cells #[.int .i64 a,.int .i64 b,.int .i64 c] 3)):=fun w=>by kernel_rfl
 have hrow:∀ w q,(Instr.build 185 #[(0,.agg (bys k).toArray),(1,.slice (some ⟨q,0,none⟩) 3 3)]).run Tryz.prog w = .ok (.agg (rvL ⟨⟨k,[a,b,c]⟩,.slice (some ⟨q,0,none⟩) 3 3⟩).toArray) w:=fun w q=>run_rowK k hk ⟨k,[a,b,c]⟩ rfl _ q rfl w
 have hsz:(bys k++[Value.int .i64 a,Value.int .i64 b,Value.int .i64 c]).toArray.size=35:=by rw [List.size_toArray,List.length_append,bys_len,hk];rfl
 have hat:∀ j v,([Value.int .i64 a,Value.int .i64 b,Value.int .i64 c]:List Value)[j]?=some v→(bys k++[Value.int .i64 a,Value.int .i64 b,Value.int .i64 c]).toArray.getD (32+j) undef=v:=fun j v hj=>by
  rw [Array.getD_eq_getD_getElem?,List.getElem?_toArray,List.getElem?_append_right (by rw [bys_len,hk];omega),bys_len,hk,Nat.add_sub_cancel_left,hj];rfl
 have hki:(Tryz.prog.info? 23).map (·.size)=some (bys k).length:=by rw [bys_len,hk];kernel_rfl
 go_enter Tryz.func103,Tryz.ntmps103
 go_wp2_with (with_reducible apply at_box)
 refine ⟨wl_box h rFz rFz ?_⟩
 intro b1 w1 h1
 go_wp2_with (with_reducible apply at_alloc)
 refine ⟨wl_alloc zBRow h1 rfl ?_⟩
 intro b2 w2 h2
 replace h2:Sat w0 w2 (pt b2 (.cells (rvL zeroRV).toArray 185 (0,0))::pt b1 (.cells (bys k++[Value.int .i64 a,Value.int .i64 b,Value.int .i64 c]).toArray 183 (0,0))::F):=h2
 have hS:=h2.alloc (.cells #[.int .i64 a,.int .i64 b,.int .i64 c] 3)
 have hrs:∀ q,(rvL ⟨⟨k,[a,b,c]⟩,.slice (some ⟨q,0,none⟩) 3 3⟩).toArray.size=33:=fun q=>rvS _ hk
 go_wp2_with (first
  |((with_reducible refine at_load ⟨?_⟩);first
   |refine wl_loadN (o:=0) (bys k) h2 rFz pick1 (fun j v hj=>by rw [Nat.zero_add,List.getElem?_toArray,List.getElem?_append_left (List.getElem?_eq_some_iff.1 hj).1];exact hj) Tryz.underlying23 rfl hki ?_
   |refine wl_load1 (o:=32) h2 rFz pick1 (by show 33≤(bys k++_).toArray.size;rw [hsz];decide) (hat 0 _ rfl) kRz ?_
   |refine wl_load1 (o:=33) h2 rFz pick1 (by show 34≤(bys k++_).toArray.size;rw [hsz];decide) (hat 1 _ rfl) kRz ?_
   |refine wl_load1 (o:=34) h2 rFz pick1 (by show 35≤(bys k++_).toArray.size;rw [hsz];decide) (hat 2 _ rfl) kRz ?_)
  |(with_reducible apply at_bsl))
 refine ⟨wl_bsl #[(0,.int .i64 a),(1,.int .i64 b),(2,.int .i64 c)] (by simp only [List.map_toArray,List.map_cons,List.map_nil];rfl) (hbs _) ?_⟩
 generalize hq:w2.heap.size=q at *
 go_wp2_with (with_reducible apply at_buildC)
 refine ⟨wl_buildC #[(0,.agg (bys k).toArray),(1,.slice (some ⟨q,0,none⟩) 3 3)] (by simp only [List.map_toArray,List.map_cons,List.map_nil];rfl) (fun w=>hrow w q) ?_⟩
 go_wp2_with (with_reducible apply at_store)
 refine ⟨wl_storeA (rvL ⟨⟨k,[a,b,c]⟩,.slice (some ⟨q,0,none⟩) 3 3⟩).toArray hS rFz rFz (by rw [hrs q];rfl) upd1 (by rw [hrs q];kernel_rfl) (by unfold rvL;rw [List.toList_toArray,List.all_append,bys_ones];rfl) ?_⟩
 intro w9 h9
 go_wp2_with fail
 refine ⟨rfl,_,res_cell rfl h9 rFz pkD Tryz.underlying185 rfl (by rw [hrs q];kernel_rfl),?_⟩
 exact ⟨_,rfl,_,rfl,h9.sb⟩
end
end Go.Proofs.YtfdchfnmpabogaaGreatDoor
namespace Go.Rep
def useRw (u:Use):Bok.Rw:=⟨Frm.zero32,[u.seg,u.size,u.live]⟩
def idxRw (p:Frm.Bs×Seg.Plc):Bok.Rw:=⟨p.1,[p.2.seg,p.2.at_,p.2.size]⟩
end Go.Rep
namespace Go.Proofs.YtfdchfnmpabogaaGreatDoor
open Go Go.Sl Go.Med Go.MapKept Go.RowKit
def numsS (rs:List RV):HProp:=stars (rs.map fun r=>osl 3 1 r.nv (ints r.x.nums))
section
variable {w0 w:World}{F:List HProp}{lv:Value}{rs:List RV}{r:RV}
theorem numsS_snoc (rs:List RV) (r:RV):numsS (rs++[r])=star (osl 3 1 r.nv (ints r.x.nums)) (numsS rs):=by
 unfold numsS
 rw [List.map_append,stars_append,List.map_cons,List.map_nil,stars_one,star_comm]
theorem numsS_add (h:Sat w0 w (osl 3 1 r.nv (ints r.x.nums)::numsS rs::F)):Sat w0 w (numsS (rs++[r])::F):=by
 rw [numsS_snoc];exact Sat.star.2 h
theorem numsS_ro (hr:r∈rs) (hk:r.x.key.length=32) (hn:0<r.x.nums.length):RVRo w0 (numsS rs::F) r:=by
 refine ⟨hk,fun w hw=>?_,hn⟩
 obtain ⟨G,hG⟩:=stars_mem (rs.map fun r=>osl 3 1 r.nv (ints r.x.nums)) _ (List.mem_map_of_mem hr)
 have h1:Sat w0 w (star (osl 3 1 r.nv (ints r.x.nums)) G::F):=by rw [← hG];exact hw
 exact Sat.rd (Sat.star.1 h1)
theorem nums3 {q:Nat}{a b c:Int} (h:Sat w0 w (pt q (.cells #[.int .i64 a,.int .i64 b,.int .i64 c] 3 (0,0))::F)):Sat w0 w (osl 3 1 (.slice (some ⟨q,0,none⟩) 3 3) (ints [a,b,c])::F):=
 Sat.osl_of_pt h rfl (Nat.le_refl _) (Nat.le_refl _) dCz rfl
theorem rvA_ones {k:Frm.Bs}{ns:List Int}{a:Option Addr}{n c:Nat}:(rvL ⟨⟨k,ns⟩,.slice a n c⟩).toArray.toList.all (·.oneCell')=true:=by
 rw [List.toList_toArray];unfold rvL;rw [List.all_append,bys_ones];rfl
set_option maxRecDepth 20000 in
theorem plainU_c (us:List Rep.Use) (hl:us.length≤65536) (hr:Ro w0 F (rdsl 3 lv (us.flatMap uenc))) (h:Sat w0 w F) :
  Calls Tryz.prog 106 #[lv,.func (.func 107) #[] #[]] w (Rtn fun v w'=>∃ rs:List RV,rs.map (·.x)=us.map Rep.useRw∧Sat w0 w' (osl 185 33 v (rs.flatMap rvL)::numsS rs::F)):=by
 obtain ⟨la,lc,rfl⟩:=osl_rows (fun u _=>uenc_len u) (hr w h) dCz
 have Hr:=uQ hr;have Hl:=uQ hl
 clear hr hl
 go_enter Tryz.func106,Tryz.ntmps106
 go_wp2_with fail
 go_loopg [5,10] us.length (fun g ov iq wr=>∃ (i:Nat) (rs:List RV) (o2:Value),g=us.length - i∧i≤us.length∧o2=ov∧iq = .int .i64 i∧(rs.map (·.x)=(us.take i).map Rep.useRw∧∀ r∈rs,r.x.key.length=32)∧Sat w0 wr (osl 185 33 o2 (rs.flatMap rvL)::numsS rs::F))
 case atStart=>exact ⟨0,[],_,rfl,Nat.zero_le _,rfl,rfl,⟨rfl,fun r hr=>by cases hr⟩,Sat.osl_nil.2 (Sat.emp.2 h)⟩
 case round=>
  obtain ⟨i,rs,ov,rfl,hi,rfl,rfl,hrs,hS⟩:=hrel
  clear h
  by_cases hlt:i<us.length
  ·as_aux_lemma=>
    have c3:(i:Int)<(us.length:Int):=oQ
    have hwi:IntKind.i64.wrap ((i:Int)+1)=(i:Int)+1:=IntWalk.i64_in _ (by have:=Hl.out;omega)
    obtain ⟨u,hx⟩:∃ u,us[i]?=some u:=⟨_,List.getElem?_eq_getElem hlt⟩
    obtain ⟨bk,off,c',hsv,hcell⟩:=osl_row (f:=uenc) (k:=3) (fun u _=>uenc_len u) (Hr.out _ hS.drop.drop) hx dCz
    cases hsv
    have Hlt:=uQ hlt;have Hrs:=uQ hrs
    have Htk:=uQ (show us.take (i+1)=us.take i++[u] from Bok.take_get hx)
    have Hln:=uQ (show (rs.flatMap rvL).length≤2147483648 from by
     rw [rows_len fun r hr=>rvL_len r (hrs.2 r hr)]
     have:=congrArg List.length hrs.1
     rw [List.length_map,List.length_map,List.length_take]at this
     have:=Hl.out
     omega)
    clear hx hlt hi hrs
    go_wp2_with (first
     |((with_reducible refine at_load ⟨?_⟩);refine wl_loadW (b:=bk) (o:=off+i * 3) (uenc u) rFz hcell Tryz.underlying132 rfl kRz ?_)
     |(with_reducible apply at_alloc))
    refine ⟨wl_alloc zUse hS rfl ?_⟩
    intro b8 w8 h8
    clear hS hcell
    go_wp2_with (with_reducible apply at_store)
    refine ⟨wl_storeA (uenc u).toArray h8 rFz rFz rFz upd0 kRz rFz ?_⟩
    intro w9 h9
    clear h8
    go_wp2_with ((with_reducible refine at_load ⟨?_⟩);refine wl_loadA h9 rFz pick0 Tryz.underlying132 rfl kRz ?_)
    refine (useRow_c u.seg u.size u.live h9).mono ?_
    rintro ee w10 ⟨v,rfl,q,rfl,h10⟩
    clear h9
    have h11:=nums3 h10
    clear h10
    go_wp2_with (first
     |((with_reducible refine at_build1 ⟨?_⟩);refine wl_build1 (e:=185) (sz:=33) (by':=56) (cs:=(rvL ⟨Rep.useRw u,.slice (some ⟨q,0,none⟩) 3 3⟩).toArray) kRz h11 rFz rfl (rvS ⟨Rep.useRw u,.slice (some ⟨q,0,none⟩) 3 3⟩ rfl) nLz ?_;intro bN wN hN)
     |(with_reducible apply at_append))
    refine ⟨wl_app (cs:=(rvL ⟨Rep.useRw u,.slice (some ⟨q,0,none⟩) 3 3⟩).toArray) 185 33 56 kRz hN rFz rFz (pick_there (pick_there (pick_there pick0))) pick0 (rvS ⟨Rep.useRw u,.slice (some ⟨q,0,none⟩) 3 3⟩ rfl) nLz rvA_ones Hln.out (by rw [rvS ⟨Rep.useRw u,.slice (some ⟨q,0,none⟩) 3 3⟩ rfl];decide) nLz rfl ?_⟩
    intro b' n' c2 w14 h14
    go_wp2_with fail
    go_roundg (us.length - (i+1))
    case measure=>have:=Hlt.out;omega
    case rel=>
     refine ⟨i+1,rs++[⟨Rep.useRw u,.slice (some ⟨q,0,none⟩) 3 3⟩],_,rfl,Nat.succ_le_of_lt Hlt.out,rfl,by first|rfl|go_num,⟨?_,?_⟩,?_⟩
     ·rw [List.map_append,Htk.out,List.map_append,Hrs.out.1];rfl
     ·intro r hr
      rcases List.mem_append.1 hr with hr|hr
      ·exact Hrs.out.2 r hr
      ·rw [List.mem_singleton.1 hr];exact rfl
     ·rw [List.flatMap_append,List.flatMap_cons,List.flatMap_nil,List.append_nil]
      have h15:Sat w0 w14 (osl 3 1 (.slice (some ⟨q,0,none⟩) 3 3) (ints (Rep.useRw u).nums)::numsS rs::osl 185 33 (.slice (some ⟨b',0,none⟩) n' c2) (rs.flatMap rvL++rvL ⟨Rep.useRw u,.slice (some ⟨q,0,none⟩) 3 3⟩)::F):=h14.sb
      exact (numsS_add (r:=⟨Rep.useRw u,.slice (some ⟨q,0,none⟩) 3 3⟩) h15).sb
  ·have c3:¬ (i:Int)<(us.length:Int):=by omega
   have hi2:i=us.length:=oQ
   subst hi2
   rw [List.take_length]at hrs
   clear hi hlt
   go_wp2_with fail
   go_ret
   exact ⟨_,rfl,rs,hrs.1,hS⟩
set_option maxRecDepth 20000 in
theorem plainI_c (us:List (Frm.Bs×Seg.Plc)) (hl:us.length≤65536) (hk:∀ q∈us,q.1.length=32) (hr:Ro w0 F (rdsl 35 lv (us.flatMap kvL))) (h:Sat w0 w F) :
  Calls Tryz.prog 102 #[lv,.func (.func 103) #[] #[]] w (Rtn fun v w'=>∃ rs:List RV,rs.map (·.x)=us.map Rep.idxRw∧Sat w0 w' (osl 185 33 v (rs.flatMap rvL)::numsS rs::F)):=by
 have Hk:=uQ hk
 clear hk
 obtain ⟨la,lc,rfl⟩:=osl_rows (fun u hu=>kvL_len u (Hk.out u hu)) (hr w h) dCz
 have Hr:=uQ hr;have Hl:=uQ hl
 clear hr hl
 go_enter Tryz.func102,Tryz.ntmps102
 go_wp2_with fail
 go_loopg [5,10] us.length (fun g ov iq wr=>∃ (i:Nat) (rs:List RV) (o2:Value),g=us.length - i∧i≤us.length∧o2=ov∧iq = .int .i64 i∧(rs.map (·.x)=(us.take i).map Rep.idxRw∧∀ r∈rs,r.x.key.length=32)∧Sat w0 wr (osl 185 33 o2 (rs.flatMap rvL)::numsS rs::F))
 case atStart=>exact ⟨0,[],_,rfl,Nat.zero_le _,rfl,rfl,⟨rfl,fun r hr=>by cases hr⟩,Sat.osl_nil.2 (Sat.emp.2 h)⟩
 case round=>
  obtain ⟨i,rs,ov,rfl,hi,rfl,rfl,hrs,hS⟩:=hrel
  clear h
  by_cases hlt:i<us.length
  ·as_aux_lemma=>
    have c3:(i:Int)<(us.length:Int):=oQ
    have hwi:IntKind.i64.wrap ((i:Int)+1)=(i:Int)+1:=IntWalk.i64_in _ (by have:=Hl.out;omega)
    obtain ⟨u,hx⟩:∃ u,us[i]?=some u:=⟨_,List.getElem?_eq_getElem hlt⟩
    obtain ⟨bk,off,c',hsv,hcell⟩:=osl_row (f:=kvL) (k:=35) (fun u hu=>kvL_len u (Hk.out u hu)) (Hr.out _ hS.drop.drop) hx dCz
    cases hsv
    have Hlt:=uQ hlt;have Hrs:=uQ hrs
    have Htk:=uQ (show us.take (i+1)=us.take i++[u] from Bok.take_get hx)
    have Hln:=uQ (show (rs.flatMap rvL).length≤2147483648 from by
     rw [rows_len fun r hr=>rvL_len r (hrs.2 r hr)]
     have:=congrArg List.length hrs.1
     rw [List.length_map,List.length_map,List.length_take]at this
     have:=Hl.out
     omega)
    have Hku:=uQ (Hk.out u (List.mem_of_getElem? hx))
    clear hx hlt hi hrs
    go_wp2_with (first
     |((with_reducible refine at_load ⟨?_⟩);refine wl_loadW (b:=bk) (o:=off+i * 35) (kvL u) rFz hcell Tryz.underlying183 rfl (by rw [kvL_len _ Hku.out];kernel_rfl) ?_)
     |(with_reducible apply at_alloc))
    refine ⟨wl_alloc zKv hS rfl ?_⟩
    intro b8 w8 h8
    clear hS hcell
    go_wp2_with (with_reducible apply at_store)
    refine ⟨wl_storeA (kvL u).toArray h8 rFz rFz (by rw [List.size_toArray,kvL_len _ Hku.out];rfl) upd0 (by rw [List.size_toArray,kvL_len _ Hku.out];kernel_rfl) (by rw [List.toList_toArray];exact kvL_ones u) ?_⟩
    intro w9 h9
    clear h8
    go_wp2_with ((with_reducible refine at_load ⟨?_⟩);refine wl_loadA h9 rFz pick0 Tryz.underlying183 rfl (by rw [List.size_toArray,kvL_len _ Hku.out];kernel_rfl) ?_)
    refine (idxRow_c u.1 Hku.out u.2.seg u.2.at_ u.2.size h9).mono ?_
    rintro ee w10 ⟨v,rfl,q,rfl,h10⟩
    clear h9
    have h11:=nums3 h10
    clear h10
    go_wp2_with (first
     |((with_reducible refine at_build1 ⟨?_⟩);refine wl_build1 (e:=185) (sz:=33) (by':=56) (cs:=(rvL ⟨Rep.idxRw u,.slice (some ⟨q,0,none⟩) 3 3⟩).toArray) kRz h11 rFz rfl (rvS ⟨Rep.idxRw u,.slice (some ⟨q,0,none⟩) 3 3⟩ Hku.out) nLz ?_;intro bN wN hN)
     |(with_reducible apply at_append))
    refine ⟨wl_app (cs:=(rvL ⟨Rep.idxRw u,.slice (some ⟨q,0,none⟩) 3 3⟩).toArray) 185 33 56 kRz hN rFz rFz (pick_there (pick_there (pick_there pick0))) pick0 (rvS ⟨Rep.idxRw u,.slice (some ⟨q,0,none⟩) 3 3⟩ Hku.out) nLz rvA_ones Hln.out (by rw [rvS ⟨Rep.idxRw u,.slice (some ⟨q,0,none⟩) 3 3⟩ Hku.out];decide) nLz rfl ?_⟩
    intro b' n' c2 w14 h14
    go_wp2_with fail
    go_roundg (us.length - (i+1))
    case measure=>have:=Hlt.out;omega
    case rel=>
     refine ⟨i+1,rs++[⟨Rep.idxRw u,.slice (some ⟨q,0,none⟩) 3 3⟩],_,rfl,Nat.succ_le_of_lt Hlt.out,rfl,by first|rfl|go_num,⟨?_,?_⟩,?_⟩
     ·rw [List.map_append,Htk.out,List.map_append,Hrs.out.1];rfl
     ·intro r hr
      rcases List.mem_append.1 hr with hr|hr
      ·exact Hrs.out.2 r hr
      ·rw [List.mem_singleton.1 hr];exact Hku.out
     ·rw [List.flatMap_append,List.flatMap_cons,List.flatMap_nil,List.append_nil]
      have h15:Sat w0 w14 (osl 3 1 (.slice (some ⟨q,0,none⟩) 3 3) (ints (Rep.idxRw u).nums)::numsS rs::osl 185 33 (.slice (some ⟨b',0,none⟩) n' c2) (rs.flatMap rvL++rvL ⟨Rep.idxRw u,.slice (some ⟨q,0,none⟩) 3 3⟩)::F):=h14.sb
      exact (numsS_add (r:=⟨Rep.idxRw u,.slice (some ⟨q,0,none⟩) 3 3⟩) h15).sb
  ·have c3:¬ (i:Int)<(us.length:Int):=by omega
   have hi2:i=us.length:=oQ
   subst hi2
   rw [List.take_length]at hrs
   clear hi hlt
   go_wp2_with fail
   go_ret
   exact ⟨_,rfl,rs,hrs.1,hS⟩
end
end Go.Proofs.YtfdchfnmpabogaaGreatDoor
namespace Go.Hin
open Go.Med
open Go.Seg (Log Keeps Holds HG HintOk mag Plc)
open Go.Frm (Fnd encs GoodE fnds Ent)
open Go.Rep (Use)
section
variable {n K r E B c:Nat}{L:Log}{M:Med}{C:List (List Ent)}{N:Int}{us:List Use}{ps:List (Bs×Plc)}
theorem HintOk.size (h:HintOk L c us ps){s:Int} (hs:s∈L.segs.take c):L.size s≤33554432:=by
 rw [← h.segs]at hs
 obtain ⟨u,hu,rfl⟩:=List.mem_map.1 hs
 obtain ⟨_,_,h3,h4⟩:=h.use u hu
 omega
theorem HintOk.idx (h:HintOk L c us ps) (hL:L.Ok) (hl:ps.length≤65536):Bok.Ok 3 true (ps.map Rep.idxRw):=by
 refine ⟨by rw [List.length_map];exact hl,fun r hr=>?_,fun i a b ha hb=>?_⟩
 ·obtain ⟨q,hq,rfl⟩:=List.mem_map.1 hr
  obtain ⟨p1,p2,p3,p4⟩:=h.plc q hq
  have hz:=HintOk.size h p4
  have hsg:=List.mem_of_mem_take p4
  obtain ⟨x,hx,hxe⟩:=List.mem_map.1 hsg
  have hnm:=hL.nums x hx
  refine ⟨h.key q hq,rfl,fun m hm=>?_⟩
  simp only [Rep.idxRw,List.mem_cons,List.not_mem_nil,or_false]at hm
  rcases hm with rfl|rfl|rfl <;> omega
 ·rw [List.getElem?_map]at ha hb
  obtain ⟨x,hx,rfl⟩:=Option.map_eq_some_iff.1 ha
  obtain ⟨y,hy,rfl⟩:=Option.map_eq_some_iff.1 hb
  obtain ⟨i1,rfl⟩:=List.getElem?_eq_some_iff.1 hx
  obtain ⟨i2,rfl⟩:=List.getElem?_eq_some_iff.1 hy
  unfold Bok.ahead
  rw [if_pos rfl]
  exact List.pairwise_iff_getElem.1 h.rise i (i+1) i1 i2 oQ
theorem HintOk.uses (h:HintOk L c us ps) (hL:L.Ok) (hl:us.length≤65536):Bok.Ok 3 false (us.map Rep.useRw):=by
 have hri:(us.map (·.seg)).Pairwise (· < ·):=by
  rw [h.segs];exact (Seg.segs_rise hL).sublist (List.take_sublist _ _)
 refine ⟨by rw [List.length_map];exact hl,fun r hr=>?_,fun i a b ha hb=>?_⟩
 ·obtain ⟨u,hu,rfl⟩:=List.mem_map.1 hr
  obtain ⟨p1,p2,p3,p4⟩:=h.use u hu
  have hsg:u.seg∈L.segs:=List.mem_of_mem_take (by rw [← h.segs];exact List.mem_map.2 ⟨u,hu,rfl⟩)
  obtain ⟨x,hx,hxe⟩:=List.mem_map.1 hsg
  have hnm:=hL.nums x hx
  refine ⟨rfl,rfl,fun m hm=>?_⟩
  simp only [Rep.useRw,List.mem_cons,List.not_mem_nil,or_false]at hm
  rcases hm with rfl|rfl|rfl <;> omega
 ·rw [List.getElem?_map]at ha hb
  obtain ⟨x,hx,rfl⟩:=Option.map_eq_some_iff.1 ha
  obtain ⟨y,hy,rfl⟩:=Option.map_eq_some_iff.1 hb
  obtain ⟨i1,rfl⟩:=List.getElem?_eq_some_iff.1 hx
  obtain ⟨i2,rfl⟩:=List.getElem?_eq_some_iff.1 hy
  unfold Bok.ahead
  rw [if_neg dCz]
  have:=List.pairwise_iff_getElem.1 hri i (i+1) (by rw [List.length_map];exact i1) (by rw [List.length_map];exact i2) oQ
  rw [List.getElem_map,List.getElem_map]at this
  exact this
end
structure Hd (T:Kept) (P:ByteArray→Prop) (K:Nat) (M:Med):Prop where
 ok:M.Ok K
 nm:∀ k,k≤M.waits.length→(∀ t∈T,nget (M.lastNames k) t.1=some t.2.1)∧∀ p∈M.lastNames k,(∃ t∈T,p.1=t.1)∨P p.1
 fil:∀ t∈T,M.file t.2.1=t.2.2
section
variable {T:Kept}{P:ByteArray→Prop}{K K' r:Nat}{M:Med}{s:ByteArray}{L:Log}{N:Int}
end
section
variable {T:Kept}{P:ByteArray→Prop}{n K K' E B c:Nat}{L:Log}{M M':Med}{C:List (List Ent)}{N:Int}{b1 b2:Frm.Bs}{us:List Use}
end
end Go.Hin
namespace Go.Proofs.YtfdchfnmpabogaaGreatDoor
open Go Go.Sl Go.Med Go.MapKept Go.RowKit
section
variable {P:Program}{w0 w:World}{L:List HProp}{ops:Array Oper}{rest:List Oper}{a:Act}{Q:Exit→Act→World→Prop}{dst:Option Tmp}{t ty e:TypeId}{pos:String}{after:Array Edge}{x y:Operand}{v1 v2:Value}{cs1 cs2:Array Value}{g:Nat×Bool}{op:Op}{sz by':Nat}
theorem run_slice2 (hb:appB P t e sz by'=true) (h1:v1.cells.size=sz) (h2:v2.cells.size=sz) (hle:2 * sz≤16777216) (w:World) :
  (Instr.buildSlice t 2 #[(0,v1),(1,v2)]).run P w = .ok (.slice (some ⟨w.heap.size,0,none⟩) 2 2) (w.alloc (.cells (v1.cells++v2.cells) e)):=by
 obtain ⟨hu,i,z,hi,hz,e1,e2,e3,e4⟩:=appB_spec hb
 subst e1
 have hzv:(zeroValue e).run P w = .ok z w:=by simp [zeroValue,typeInfo,hi,hz]
 have hsz':(sizeOf e).run P w = .ok i.size w:=by simp [sizeOf,typeInfo,hi]
 have hnz:¬ (2 * i.size=0):=oQ
 have hle':¬ (2 * i.size>2^24):=oQ
 unfold Instr.buildSlice
 simp only [Sem.run_bind,run_underlying hu,Result.andThen_ok,hsz',if_neg hle',if_neg hnz,hzv,Sem.run_pure]
 have hf:Instr.fill (fun i'=>some (i' * i.size,i.size)) ((Array.range (2 * i.size)).map (z.cells[· % z.cells.size]!)) [(0,v1),(1,v2)]=some (v1.cells++v2.cells):=by
  generalize hz0:(Array.range (2 * i.size)).map (z.cells[· % z.cells.size]!)=z0
  have hs1:z0.size=2 * i.size:=by rw [← hz0];simp
  have hf1:∀ (v:Value) (off:Nat) (cs:Array Value),v.cells.zipIdx.foldl (fun cs (c,j)=>cs.setIfInBounds (off+j) c) cs=putsAt cs off v.cells.toList:=fun v off cs=>by
   have:=foldl_puts v.cells.toList 0 off cs
   rw [Nat.add_zero]at this
   rw [← this,← Array.foldl_toList,Array.toList_zipIdx]
  unfold Instr.fill
  simp only [Nat.zero_mul]
  have hc:¬ ((v1.cells.size≠i.size || 0+v1.cells.size>z0.size)=true):=by
   rw [hs1];simp [h1];omega
  simp only [if_neg hc]
  rw [hf1]
  unfold Instr.fill
  simp only [Nat.one_mul]
  have hc2:¬ ((v2.cells.size≠i.size || i.size+v2.cells.size>(putsAt z0 0 v1.cells.toList).size)=true):=by
   rw [putsAt_size,hs1];simp [h2];omega
  simp only [if_neg hc2]
  rw [hf1]
  unfold Instr.fill
  congr 1
  apply Array.toList_inj.1
  have hl1:v1.cells.toList.length=i.size:=by rw [Array.length_toList];exact h1
  have hl2:v2.cells.toList.length=i.size:=by rw [Array.length_toList];exact h2
  have hz1:z0.toList.length=2 * i.size:=by rw [Array.length_toList];exact hs1
  rw [putsAt_list _ _ _ (by rw [putsAt_size,hs1,hl2];omega),putsAt_list _ _ _ (by rw [hs1,hl1];omega),Array.toList_append]
  rw [List.take_zero,List.nil_append,Nat.zero_add,List.take_append_of_le_length oQ,List.take_of_length_le oQ,List.drop_of_length_le (by rw [List.length_append,List.length_drop,hl1,hl2,hz1];omega),List.append_nil]
 simp only [hf]
 simp [newRow,go_sem]
theorem wl_two (hb:appB P ty e sz by'=true) (hs:Sat w0 w L) (hx:a.eval x=v1) (hy:a.eval y=v2) (hc1:v1.cells=cs1) (hc2:v2.cells=cs2) (h1:cs1.size=sz) (h2:cs2.size=sz) (hle:2 * sz≤16777216)
  (hK:∀ b w',Sat w0 w' (pt b (.cells (cs1++cs2) e (0,0))::L)→wpList P ops Q rest (a.put dst (.slice (some ⟨b,0,none⟩) 2 2)) w'):wpList P ops Q (⟨dst,.buildSlice ty 2 #[(0,x),(1,y)],t,pos,after,none⟩::rest) a w:=by
 subst hc1;subst hc2
 refine wpList_plain rfl fun _ hK'=>?_
 have hS:=hs.alloc (.cells (v1.cells++v2.cells) e)
 unfold Oper.wp execOp
 simp only [hx,hy,List.map_toArray,List.map_cons,List.map_nil,Sem.run_bind,Sem.run_pure,run_slice2 hb h1 h2 hle w,Result.andThen_ok]
 exact hK' _ _ (hK _ _ hS)
end
end Go.Proofs.YtfdchfnmpabogaaGreatDoor
namespace Go.Hin
open Go.Frm (Bs)
theorem pre_take (l p:List UInt8):Lib.hasPrefix l p=decide (l.take p.length=p):=by
 rw [Bool.eq_iff_iff,decide_eq_true_iff]
 unfold Lib.hasPrefix
 rw [List.isPrefixOf_iff_prefix,List.prefix_iff_eq_take]
 exact eq_comm
theorem cut_yes {l p:List UInt8} (h:l.take p.length=p):Lib.trimPrefix l p=l.drop p.length:=by
 unfold Lib.trimPrefix
 rw [if_pos (by rw [pre_take,decide_eq_true_iff];exact h)]
theorem num_yes {s:ByteArray} (h:s.data.toList.take 4=[105,100,120,46]∨s.data.toList.take 4=[117,115,101,46]):number s=Seg.number ⟨(Seg.lead++s.data.toList.drop 4).toArray⟩:=by unfold number;rw [if_pos h]
theorem num_no {s:ByteArray} (h:¬ (s.data.toList.take 4=[105,100,120,46]∨s.data.toList.take 4=[117,115,101,46])):number s=(0,false):=by unfold number;rw [if_neg h]
end Go.Hin
namespace Go.Proofs.YtfdchfnmpabogaaGreatDoor
open Go Go.Sl Go.Med Go.MapKept Go.RowKit
section
variable {P:Program}{w:World}{ops:Array Oper}{rest:List Oper}{a:Act}{Q:Exit→Act→World→Prop}{dst:Option Tmp}{t ty:TypeId}{pos:String}{after:Array Edge}{x y:Operand}
theorem at_two (h:Stop (wpList P ops Q (⟨dst,.buildSlice ty 2 #[(0,x),(1,y)],t,pos,after,none⟩::rest) a w)):wpList P ops Q (⟨dst,.buildSlice ty 2 #[(0,x),(1,y)],t,pos,after,none⟩::rest) a w:=h.out
end
section
variable {w0 w:World}{F:List HProp}{m K:Nat}{M:Med}
theorem cutpre_c (s p:ByteArray) (w:World):Calls Tryz.prog 110 #[.string s,.string p] w (Rtn fun v w'=>v = .tuple #[.string ⟨(Lib.trimPrefix s.data.toList p.data.toList).toArray⟩,.bool (Lib.hasPrefix s.data.toList p.data.toList)]∧w=w'):=
 (Tryz.strings_CutPrefix s p w).mono fun e w' ⟨he,hw⟩=>⟨_,he,rfl,hw.symm⟩
theorem cutyes_c (s p:ByteArray) (k:Nat) (hk:p.data.toList.length=k) (h:s.data.toList.take k=p.data.toList) (w:World):Calls Tryz.prog 110 #[.string s,.string p] w (Rtn fun v w'=>v = .tuple #[.string ⟨(s.data.toList.drop k).toArray⟩,.bool true]∧w=w'):=by
 subst hk
 have hc:=cutpre_c s p w
 rw [Hin.cut_yes h,Hin.pre_take,decide_eq_true h]at hc
 exact hc
theorem cutno_c (s p:ByteArray) (k:Nat) (hk:p.data.toList.length=k) (h:¬ s.data.toList.take k=p.data.toList) (w:World):Calls Tryz.prog 110 #[.string s,.string p] w (Rtn fun v w'=>(∃ r:ByteArray,v = .tuple #[.string r,.bool false])∧w=w'):=by
 subst hk
 have hc:=cutpre_c s p w
 rw [Hin.pre_take,decide_eq_false h]at hc
 exact hc.mono fun e w' ⟨v,he,hv,hw⟩=>⟨v,he,⟨_,hv⟩,hw⟩
theorem lead_add (r:List UInt8):(⟨#[115,101,103,46]⟩:ByteArray)++(⟨r.toArray⟩:ByteArray)=⟨(Seg.lead++r).toArray⟩:=by
 apply ByteArray.ext
 rw [ByteArray.data_append]
 apply Array.toList_inj.1
 simp [Seg.lead]
set_option maxRecDepth 20000 in
theorem hnumber_c (s:ByteArray) (hs:s.size≤4000000000) (h:Sat w0 w F) :
  Calls Tryz.prog 62 #[.string s] w (Rtn fun v w'=>v = .tuple #[.int .i64 (Hin.number s).1,.bool (Hin.number s).2]∧Sat w0 w' F):=by
 have Hs:=uQ hs
 have hsz:∀ r:List UInt8,r.length≤4000000000→¬ 9223372036854775807<(⟨#[115,101,103,46]⟩:ByteArray).size+(⟨r.toArray⟩:ByteArray).size:=fun r hr=>by
  have:(⟨r.toArray⟩:ByteArray).size=r.length:=by show r.toArray.size=_;exact List.size_toArray ..
  have h4:(⟨#[115,101,103,46]⟩:ByteArray).size=4:=rfl
  omega
 have Hsz:=uQ hsz
 have Hl:=uQ (show s.data.toList.length≤4000000000 from by rw [Array.length_toList];exact hs)
 clear hs hsz
 go_enter Tryz.func62,Tryz.ntmps62
 go_wp2_with ((with_reducible refine at_two ⟨?_⟩);refine wl_two (e:=9) (sz:=1) (by':=16) (cs1:=#[.string ⟨#[105,100,120,46]⟩]) (cs2:=#[.string ⟨#[117,115,101,46]⟩]) kRz h rFz rFz rfl rfl rfl rfl nLz ?_;intro b w1 h1)
 replace h1:Sat w0 w1 (pt b (.cells #[.string ⟨#[105,100,120,46]⟩,.string ⟨#[117,115,101,46]⟩] 9 (0,0))::F):=h1
 go_loopg [10] 3 (fun g iq wr=>∃ i:Nat,g=3 - i∧i≤2∧iq = .int .i64 i∧wr=w1∧(1≤i→¬ s.data.toList.take 4=[105,100,120,46])∧(2≤i→¬ s.data.toList.take 4=[117,115,101,46]))
 case atStart=>exact ⟨0,rfl,by omega,rfl,rfl,fun h=>by omega,fun h=>by omega⟩
 case round=>
  obtain ⟨i,rfl,hi,rfl,rfl,hn1,hn2⟩:=hrel
  have h01:i=0∨i=1∨i=2:=oQ
  clear hi h
  have c0:=h1.cellAt 0 (.string ⟨#[105,100,120,46]⟩) rfl
  have c1:=h1.cellAt 1 (.string ⟨#[117,115,101,46]⟩) rfl
  rcases h01 with rfl|rfl|rfl
  ·clear hn1 hn2 c1
   go_wp2_with fail
   by_cases ht:s.data.toList.take 4=[105,100,120,46]
   ·refine (cutyes_c s ⟨#[105,100,120,46]⟩ 4 rfl ht _).mono ?_
    rintro e w2 ⟨v,rfl,rfl,rfl⟩
    have hz:=Hsz.out (s.data.toList.drop 4) (by rw [List.length_drop];have:=Hl.out;omega)
    have Hy:=uQ (Hin.num_yes (s:=s) (.inl ht))
    clear ht Hsz
    go_wp2_with fail
    rw [show (⟨#[115,101,103,46]⟩:ByteArray)++(⟨(s.data.toList.drop 4).toArray⟩:ByteArray)=⟨(Seg.lead++s.data.toList.drop 4).toArray⟩ from lead_add _]
    refine (snumber_c _ h1).mono ?_
    rintro e w3 ⟨v,rfl,rfl,h3⟩
    go_wp2_with fail
    go_ret2
    exact ⟨_,rfl,by rw [Hy.out];rfl,h3.drop⟩
   ·refine (cutno_c s ⟨#[105,100,120,46]⟩ 4 rfl ht _).mono ?_
    rintro e w2 ⟨v,rfl,⟨r,rfl⟩,rfl⟩
    clear c0
    go_wp2_with fail
    go_roundg 2
    case measure=>omega
    case rel=>exact ⟨1,rfl,by omega,rfl,rfl,fun _=>ht,fun h=>by omega⟩
  ·have ht1:=hn1 oQ
   clear hn1 hn2 c0
   go_wp2_with fail
   by_cases ht:s.data.toList.take 4=[117,115,101,46]
   ·refine (cutyes_c s ⟨#[117,115,101,46]⟩ 4 rfl ht _).mono ?_
    rintro e w2 ⟨v,rfl,rfl,rfl⟩
    have hz:=Hsz.out (s.data.toList.drop 4) (by rw [List.length_drop];have:=Hl.out;omega)
    have Hy:=uQ (Hin.num_yes (s:=s) (.inr ht))
    clear ht ht1 Hsz
    go_wp2_with fail
    rw [show (⟨#[115,101,103,46]⟩:ByteArray)++(⟨(s.data.toList.drop 4).toArray⟩:ByteArray)=⟨(Seg.lead++s.data.toList.drop 4).toArray⟩ from lead_add _]
    refine (snumber_c _ h1).mono ?_
    rintro e w3 ⟨v,rfl,rfl,h3⟩
    go_wp2_with fail
    go_ret2
    exact ⟨_,rfl,by rw [Hy.out];rfl,h3.drop⟩
   ·refine (cutno_c s ⟨#[117,115,101,46]⟩ 4 rfl ht _).mono ?_
    rintro e w2 ⟨v,rfl,⟨r,rfl⟩,rfl⟩
    clear c1
    go_wp2_with fail
    go_roundg 1
    case measure=>omega
    case rel=>exact ⟨2,rfl,by omega,rfl,rfl,fun _=>ht1,fun _=>ht⟩
  ·have Hy:=uQ (Hin.num_no (s:=s) (fun h=>h.elim (hn1 oQ) (hn2 oQ)))
   clear hn1 hn2 c0 c1
   go_wp2_with fail
   go_ret2
   exact ⟨_,rfl,by rw [Hy.out];rfl,h1.drop⟩
end
section
variable {w0 w:World}{F:List HProp}{m K:Nat}{M:Med}
theorem nm_sl {v:Value}{l:List ByteArray} (h:rdsl 1 v (strs l) w):∃ a c,v = .slice a l.length c:=by
 obtain ⟨a,n,c,rfl,hl,hx⟩:=h
 unfold strs at hl
 rw [List.length_map,Nat.mul_one]at hl
 exact ⟨a,c,by rw [hl]⟩
theorem nm_cell {l:List ByteArray}{i:Nat}{s:ByteArray}{a:Option Addr}{n c:Nat} (h:rdsl 1 (.slice a n c) (strs l) w) (hi:l[i]?=some s):∃ bk off,a=some ⟨bk,off,none⟩∧w.cell? ⟨bk,off+i,none⟩=some (.string s):=by
 have hx:(strs l)[i]?=some (.string s):=by unfold strs;rw [List.getElem?_map,hi];rfl
 obtain ⟨bk,off,rfl,hc⟩:=rdsl_cells h hx
 exact ⟨bk,off,rfl,hc _ _ hx⟩
theorem list_len (ok:M.Ok K):M.list.length≤500:=by
 unfold Med.list
 split
 ·exact Nat.zero_le _
 ·rw [List.length_map];exact ok.nowOk.len
end
end Go.Proofs.YtfdchfnmpabogaaGreatDoor
namespace Go.Seg
open Go.Med
open Go.Frm (Bs Ent encs GoodE)
open Go.Rep
structure Rp (K r E B n:Nat) (L:Log) (M:Med) (C:List (List Ent)):Prop where
 hg:HG K r E B n L M C
 tmp:nget M.now Hin.tmp=none
 few:C.flatten.length≤n
 small:∀ p∈M.now,p.1.size≤24
section
variable {K r E B n:Nat}{L:Log}{M M':Med}{C:List (List Ent)}{x:Ent}
theorem name_24 (k:Int):(name k).size≤24:=by
 rcases Hin.seg_name k with z|⟨z,_⟩
 ·rw [z];decide
 ·rw [z];decide
theorem HG.apart {K' E' B':Nat} (h:HG K r E B n L M C) (c:Calm K' r M') (ha:∀ k:Int,M'.all (name k)=M.all (name k)) (hu:M'.used≤n * 400+B') (hn:M'.now.length≤n+E'):HG K' r E' B' n L M' C:=by
 have has:∀ k:Int,(∃ i,nget M'.now (name k)=some i)↔∃ i,nget M.now (name k)=some i:=fun k=>by
  rw [← Hin.all_has c.quiet,← Hin.all_has h.keeps.calm.quiet,ha]
 exact ⟨⟨h.keeps.log,c,fun s hs=>(has s.1).2 (h.keeps.has s hs)⟩,h.len,h.at_,fun k es hk=>by rw [ha];exact h.file k es hk,h.good,h.count,hu,hn,fun k i hk hi=>by
  obtain ⟨j,hj⟩:=(has k).1 ⟨i,hi⟩
  exact h.cover k j hk hj⟩
theorem Rp.grown (h:Rp K r E B n L M C){K' n':Nat}{L':Log}{C':List (List Ent)} (hg:HG K' r E B n' L' M' C') (hr:Hin.Grown M M') (hf:C'.flatten.length≤n'):Rp K' r E B n' L' M' C':=by
 refine ⟨hg,?_,hf,fun p hp=>?_⟩
 ·cases hi:nget M'.now Hin.tmp with
  |none=>rfl
  |some i=>
   rcases hr _ (nget_mem hi) with q|⟨k,q⟩
   ·have:=nget_of_mem h.hg.keeps.calm.ok.nowOk.srt.keys (show (Hin.tmp,i)∈M.now from q)
    rw [h.tmp]at this;cases this
   ·exact absurd q (Hin.tmp_ne_seg k)
 ·rcases hr p hp with q|⟨k,q⟩
  ·exact h.small p q
  ·rw [q];exact name_24 k
theorem Rp.mono (h:Rp K r E B n L M C){K' E' B' n':Nat} (h1:K≤K') (h2:E≤E') (h3:B≤B') (h4:n≤n'):Rp K' r E' B' n' L M C:=⟨h.hg.mono h1 h2 h3 h4,h.tmp,Nat.le_trans h.few h4,h.small⟩
theorem Rp.yes (h:Rp K r E B n L M C) (hn:n<1000) (hk:x.key.length=32) (hd:x.data.length≤300) (h0:(Frm.encode x).2=0) (hz:(L.append M x).2.2=0) :
  ∃ C',Rp (K+4) r E B (n+1) (L.append M x).1.1 (L.append M x).1.2 C'∧C'=put C (L.fits (Frm.encode x).1.length) x∧C'.flatten=C.flatten++[x]∧∃ row,rowsC 0 C'=rowsC 0 C++[row]∧row.2.e=x∧rplc row=(L.append M x).2.1:=by
 obtain ⟨_,_,_,a4,_,_⟩:=h.hg.append hn x hk hd h0 (.inl hz)
 have hfl:=put_flat C (L.fits (Frm.encode x).1.length) x h.hg.fits_ne
 refine ⟨_,h.grown a4 (Hin.lappend_grown L M x) ?_,rfl,hfl,_,rowsC_put C _ x h.hg.fits_ne,putRow_e C _ x,(h.hg.append_at h0 hz).symm⟩
 rw [hfl,List.length_append,List.length_singleton];have:=h.few;omega
theorem Rp.commit (h:Rp K r E B n L M C) (hn:n<1000) (hz:(L.append M comEnt).2.2=0) :
  (L.commit M).2.2=0∧(L.commit M).1.1.on=false∧∃ C',Rp (K+5) r E B (n+1) (L.commit M).1.1 (L.commit M).1.2 C'∧(∃ row,rowsC 0 C'=rowsC 0 C++[row]∧row.2.e=comEnt)∧C'.flatten=C.flatten++[comEnt]∧(∃ es,C'≠[]∧C'[C'.length - 1]?=some es∧endsC es=true):=by
 obtain ⟨a1,a2,_,a4⟩:=h.hg.commit hn (.inl hz)
 have hfl:=put_flat C (L.fits (Frm.encode comEnt).1.length) comEnt h.hg.fits_ne
 refine ⟨a1,a2,_,h.grown a4 (Hin.lcommit_grown L M) ?_,⟨_,rowsC_put C _ comEnt h.hg.fits_ne,putRow_e C _ comEnt⟩,hfl,endsC_put C _⟩
 rw [hfl,List.length_append,List.length_singleton];have:=h.few;omega
theorem Rp.run (h:Rp K r E B n L M C) (hl:∃ es,C≠[]∧C[C.length - 1]?=some es∧endsC es=true):Rep.run (fun s=>L.bytes M s) L.segs = .inr C.length∧L.segs.length=C.length∧0<C.length∧L.segs.take C.length=L.segs∧lastOfL L.segs=(C.length:Int) - 1:=by
 obtain ⟨es,hne,he,hen⟩:=hl
 have hp:0<C.length:=List.length_pos_iff.2 hne
 obtain ⟨c,h1,h2,h3,h4⟩:=h.hg.run
 have e1:c=C.length:=by
  by_cases hh:c=C.length
  ·exact hh
  ·have:=h4 (C.length - 1) es oQ he
   rw [hen]at this;cases this
 obtain ⟨s1,s2⟩:=h.hg.segs
 refine ⟨by rw [← e1];exact h1,s1,hp,by rw [← s1];exact List.take_length,?_⟩
 have e:L.segs.getLast?=some ((C.length:Int) - 1):=by
  rw [List.getLast?_eq_getElem?,s1,s2 _ oQ]
  congr 1;omega
 unfold lastOfL
 rw [e]
theorem Rp.rows (h:Rp K r E B n L M C):rowsOf (fun s=>L.bytes M s) L.segs=rowsC 0 C:=by
 have e:=h.hg.rows C.length
 rw [← h.hg.segs.1,List.take_length,h.hg.segs.1,List.take_length]at e
 exact e
theorem Rp.rows_len (h:Rp K r E B n L M C):(rowsOf (fun s=>L.bytes M s) L.segs).length≤n:=by
 rw [h.rows,← List.length_map (f:=fun r:Row=>r.2.e),rowsC_e]
 exact h.few
theorem Rp.row (h:Rp K r E B n L M C){q:Row} (hq:q∈rowsC 0 C):L.read M (rplc q)=(q.2.e,0)∧GoodE q.2.e∧(q.2.size:Int)≤4294967296∧(q.2.at_:Int)≤4294967296:=by
 refine ⟨h.hg.readRow hq,?_⟩
 obtain ⟨j,es,h5,h6,h7⟩:=rowsC_mem C 0 hq
 obtain ⟨u,v,h8,h9,h10⟩:=fnds_mem es 8 h7
 have hat:=List.mem_of_getElem? (h.hg.at_ j es h5)
 have hsz:=h.hg.keeps.log.sizes _ hat
 have he:(encs es).length=(encs u).length+((Frm.encode q.2.e).1.length+(encs v).length):=by
  conv=>lhs;rw [h8]
  rw [encs_app,List.length_append]
  congr 1
  exact List.length_append
 simp only at hsz
 exact ⟨(h.hg.good es (List.mem_of_getElem? h5)).1 _ (by rw [h8];simp),by omega,by omega⟩
theorem Rp.rows_size (h:Rp K r E B n L M C):∀ q∈rowsOf (fun s=>L.bytes M s) L.segs,(q.2.size:Int)≤4294967296:=fun q hq=>by
 rw [h.rows]at hq
 exact (h.row hq).2.2.1
theorem Rp.hint (h:Rp K r E B n L M C){kv:List (Bs×Abt)} (hk:Tab.Lists (ledger (rowsOf (fun s=>L.bytes M s) L.segs)) kv) (h32:∀ q∈kv,q.1.length=32) :
  HintOk L C.length ((usesOf (fun s=>L.bytes M s) L.segs).map (upd kv)) (puts kv):=by
 have e:L.segs.take C.length=L.segs:=by rw [← h.hg.segs.1];exact List.take_length
 have:=h.hg.hint (Nat.le_refl _) (kv:=kv) (by rw [e];exact hk) h32
 rw [e]at this
 exact this
theorem Rp.save (h:Rp K r E B n L M C) (hn:n+E≤480){N:Int} (h1:0≤N) (h2:N<1048576) (b1 b2:Bs) :
  Rp (K+600) r (E+2) (B+b1.length+b2.length) n L (Hin.save M N b1 b2).1 C∧((Hin.save M N b1 b2).2=0∨(Hin.save M N b1 b2).2=11) ∧
   (∀ f∈(Hin.write (Hin.write M (Hin.name Hin.idx N) b1).1 (Hin.name Hin.use N) b2).1.syncDir.1.list,f.size≤4000000000):=by
 have hnm:=h.hg.names
 have s:=Hin.save_calm (b1:=b1) (b2:=b2) h.hg.keeps.calm h.tmp oQ h1 h2
 have g1:=Hin.name_good (ld:=Hin.idx) rfl dCz N h1 h2
 have g2:=Hin.name_good (ld:=Hin.use) rfl dCz N h1 h2
 have hsz:∀ ld:ByteArray,ld.data.toList.length=4→(Hin.name ld N).size≤24:=fun ld hl=>by
  show (Hin.name ld N).data.size≤24
  rw [← Array.length_toList,Hin.name_eq ld N h1 h2,List.length_append,hl,digs_len];omega
 refine ⟨⟨h.hg.apart s.calm (fun k=>?_) (by have:=s.used;have:=h.hg.used;omega) (by have:=s.len;omega),s.tmp,h.few,fun p hp=>?_⟩,s.done.imp (·.1) id,fun f hf=>?_⟩
 ·by_cases hk:0≤k∧k<1048576
  ·exact s.other _ (Hin.tmp_ne_seg k).symm (Hin.seg_ne_idx k N h1 h2) (Hin.seg_ne_use k N h1 h2) (Hin.other_no (by rw [Hin.number_seg]))
  ·exact s.other _ (Hin.tmp_ne_seg k).symm (Hin.seg_ne_idx k N h1 h2) (Hin.seg_ne_use k N h1 h2) (Hin.other_no (by rw [Hin.number_seg]))
 ·rcases s.names p hp with q|q|q
  ·exact h.small p q
  ·rw [q];exact hsz _ rfl
  ·rw [q];exact hsz _ rfl
 ·have w1:=Hin.write_calm (b:=b1) h.hg.keeps.calm h.tmp oQ g1 (Hin.idx_ne_tmp N h1 h2)
  have w2:=Hin.write_calm (b:=b2) w1.calm w1.tmp (by have:=w1.len;omega) g2 (Hin.use_ne_tmp N h1 h2)
  rw [w2.calm.syncDir.quiet.list,Hin.syncDir_now]at hf
  obtain ⟨p,hp,rfl⟩:=List.mem_map.1 hf
  refine Nat.le_trans (m:=24) ?_ dCz
  rcases w2.names p hp with q|q
  ·rcases w1.names p q with q|q
   ·exact h.small p q
   ·rw [q];exact hsz _ rfl
  ·rw [q];exact hsz _ rfl
end
end Go.Seg
namespace Go.Tab
open Go.Frm (Bs)
section
variable {α V:Type}{m:Bs→Option V}{k:Bs}{v:V}
end
end Go.Tab
namespace Go.Seg
open Go.Med
open Go.Frm (Bs Ent encs GoodE)
section
variable {K r:Nat}{L:Log}{M:Med}
end
end Go.Seg
namespace Go.Rep
open Go.Frm (Bs Ent GoodE)
open Go.Seg (Plc)
open Go.Tab
end Go.Rep
namespace Go.Seg
open Go.Med
open Go.Frm (Bs Ent encs GoodE)
open Go.Rep
section
variable {K r E B n:Nat}{L:Log}{M:Med}{C:List (List Ent)}{k:Bs}{pl:Plc}
theorem good_put (hk:k.length=32) (d:Bs) (hd:d.length≤300):(Frm.encode ⟨0,k,d⟩).2=0:=toE_good (d:=⟨0,k,d⟩) hk hd
end
section
variable {K r E B n:Nat}{L:Log}{M M' M2:Med}{C C0:List (List Ent)}{x:Ent}
end
structure HF (M:Med) (N:Int) (pl:List (Bs×Plc)) (us:List Use):Prop where
 one:M.all (Hin.name Hin.idx N)=(Bok.book Xx.sum Bok.mgIdx true (pl.map idxRw),0)
 two:M.all (Hin.name Hin.use N)=(Bok.book Xx.sum Bok.mgUse false (us.map useRw),0)
 num:∀ p∈M.now,(Hin.number p.1).2=true→(Hin.number p.1).1=N
def usC (C:List (List Ent)):List Use:=(List.range' 0 C.length).map fun j:Nat=>⟨(j:Int),((mag++encs (C.getD j [])).length:Int),0⟩
structure St0 (C0:List (List Ent)) (N:Int) (us:List Use) (pl:List (Bs×Plc)):Prop where
 last:N=(C0.length:Int) - 1
 kv:∃ kv,Tab.Lists (ledger (rowsC 0 C0)) kv∧(∀ q∈kv,q.1.length=32)∧us=(usC C0).map (upd kv)∧pl=puts kv
 ends:C0=[]∨∃ es,C0[C0.length - 1]?=some es∧endsC es=true
section
variable {K r E B n r0 B0:Nat}{L:Log}{M M':Med}{C C0:List (List Ent)}{N:Int}{us:List Use}{pl:List (Bs×Plc)}
theorem HG.uses (h:HG K r E B n L M C):usesOf (fun s=>L.bytes M s) L.segs=usC C:=by
 rw [h.ns]
 unfold usesOf usC
 rw [List.map_map]
 refine List.map_congr_left fun j hj=>?_
 have hl:j<C.length:=by have:=List.mem_range'.1 hj;omega
 have e:=h.bytes (List.getElem?_eq_getElem hl)
 simp only [Function.comp_apply,e]
 rw [List.getD_eq_getElem?_getD,List.getElem?_eq_getElem hl]
 rfl
end
end Go.Seg
namespace Go.Cpt
open Go.Frm (Bs Fnd Ent fnds encs GoodE)
open Go.Seg (Plc)
open Go.Rep
def pay:List Fnd→Int
 |[]=>0
 |f::l=>(if f.e.tag=2 then 0 else (f.size:Int))+pay l
theorem pay_snoc:∀ (l:List Fnd) (f:Fnd),pay (l++[f])=pay l+(if f.e.tag=2 then 0 else (f.size:Int))
 |[],f=>by simp [pay]
 |g::l,f=>by
  have:=pay_snoc l f
  rw [List.cons_append]
  unfold pay
  omega
abbrev Kv:=List Int×Plc
def kv0 (m:Bs→Option Kv) (k:Bs):Kv:=(m k).getD ([],Plc.zero)
def kseg (c:List Int) (s t:Int):List Int:=if t=0∧c.getLast?≠some s then c++[s] else c
def takeK (m:Bs→Option Kv) (r:Row):Bs→Option Kv:=Tab.put m (rkey r) (kseg (kv0 m (rkey r)).1 r.1 (rtag r),rplc r)
def takeR (m:Bs→Option Kv) (r:Row):Bs→Option Kv:=if rtag r=2 then m else takeK m r
structure Plan where
 last:Int
 segs:List (Int×List Fnd)
 keys:Bs→Option Kv
 index:Bs→Option Plc
def plcEq (a b:Plc):Bool:=a.seg==b.seg && (a.at_==b.at_ && a.size==b.size)
def counts (P:Plan) (gs:List Int) (s:Int) (f:Fnd):Bool:=
 if f.e.tag=2 then false
 else if f.e.tag=0 then match P.index f.e.key with
  |some p=>plcEq p ⟨s,f.at_,f.size⟩
  |none=>false
 else plcEq (kv0 P.keys f.e.key).2 ⟨s,f.at_,f.size⟩ && (kv0 P.keys f.e.key).1.any fun t=>decide (t<s) && !gs.contains t
def liveS (P:Plan) (gs:List Int) (s:Int):List Fnd→Int
 |[]=>0
 |f::l=>(if counts P gs s f=true then (f.size:Int) else 0)+liveS P gs s l
theorem liveS_snoc (P:Plan) (gs:List Int) (s:Int):∀ (l:List Fnd) (f:Fnd),liveS P gs s (l++[f])=liveS P gs s l+(if counts P gs s f=true then (f.size:Int) else 0)
 |[],f=>by simp [liveS]
 |g::l,f=>by
  have:=liveS_snoc P gs s l f
  rw [List.cons_append]
  unfold liveS
  omega
def sparse (P:Plan) (gs:List Int) (pc:Int) (x:Int×List Fnd):Bool:=
 if pay x.2=0 then decide (0<pc) && (decide (x.1≠P.last) || decide (0<gs.length)) else decide (100 * liveS P gs x.1 x.2<pc * pay x.2)
def nextL (P:Plan) (gs:List Int) (pc:Int) (l:List (Int×List Fnd)):List Int:=(l.filter fun x => !gs.contains x.1 && sparse P gs pc x).map (·.1)
theorem nextL_snoc (P:Plan) (gs:List Int) (pc:Int) (l:List (Int×List Fnd)) (x:Int×List Fnd):nextL P gs pc (l++[x])=nextL P gs pc l++(if (!gs.contains x.1 && sparse P gs pc x)=true then [x.1] else []):=by
 unfold nextL
 rw [List.filter_append,List.map_append]
 congr 1
 rw [List.filter_cons]
 split <;> rfl
def choose (P:Plan) (pc:Int):Nat→List Int→List Int
 |0,gs=>gs
 |n+1,gs=>if nextL P gs pc P.segs=[] then gs else choose P pc n (gs++nextL P gs pc P.segs)
def goneL (gs:List Int) (l:List (Int×List Fnd)):List Int:=(l.filter fun x=>gs.contains x.1).map (·.1)
theorem goneL_snoc (gs:List Int) (l:List (Int×List Fnd)) (x:Int×List Fnd):goneL gs (l++[x])=goneL gs l++(if gs.contains x.1=true then [x.1] else []):=by
 unfold goneL
 rw [List.filter_append,List.map_append]
 congr 1
 rw [List.filter_cons]
 split <;> rfl
end Go.Cpt
namespace Go.Rep
structure Kpv where
 a:Option Addr
 n:Nat
 c:Nat
 last:Seg.Plc
end Go.Rep
namespace Go.Proofs.YtfdchfnmpabogaaGreatDoor
open Go Go.Sl Go.Med Go.MapKept Go.RowKit
def kenc (a:Rep.Kpv):List Value:=[.slice a.a a.n a.c,.int .i64 a.last.seg,.int .i64 a.last.at_,.int .i64 a.last.size]
abbrev zwK:Rep.Kpv:=⟨none,0,0,Seg.Plc.zero⟩
theorem kenc_len (a:Rep.Kpv):(kenc a).length=4:=rfl
theorem kenc_ones (a:Rep.Kpv):(kenc a).all (·.oneCell')=true:=rfl
theorem zSlotK:zeroB Tryz.prog 230=some (.agg (slotL kenc ⟨0,Frm.zero32,zwK⟩).toArray):=by kernel_rfl
theorem plSlotK:placesB Tryz.prog 230=some [(0,1),(1,32),(33,4)]:=by kernel_rfl
section
variable {w0 w:World}{F R:List HProp}{p n gn d c:Nat}{sv v:Value}{k:Frm.Bs}{s:List (Tab.Slot (Rep.Kpv))}{a:Option Addr}
theorem okK_c (hl:0<s.length) (h:Sat w0 w (tbPt p 223 (.slice a s.length c) n gn::F)) :
  Calls Tryz.prog 133 #[ptr p] w (Rtn fun v w'=>v = .bool true∧w=w'):=by
 have e0:w.cell? ⟨p,0,none⟩=some (.slice a s.length c):=h.cellAt 0 _ rfl
 have c1:(0:Int)<(s.length:Int):=oQ
 go_enter Tryz.func133,Tryz.ntmps133
 go_wp2
 go_ret
 exact ⟨_,rfl,rfl,rfl⟩
set_option maxRecDepth 20000 in
theorem findK_c (g:Tab.Good s) (hc:s.length≤1073741824) (hk:k.length=32) (he:Tab.Ends s k d) (h:Sat w0 w (tbPt p 223 sv n gn::osl 230 37 sv (s.flatMap (slotL kenc))::F)) :
  Calls Tryz.prog 134 #[ptr p,.agg (bys k).toArray] w (Rtn fun v w'=>∃ x,s[Tab.pos k s.length d]?=some x∧v = .tuple #[.int .i64 (Tab.pos k s.length d:Nat),.int .i64 ((d:Int)+1),.bool (decide (x.st=1))] ∧
   Sat w0 w' (tbPt p 223 sv n gn::osl 230 37 sv (s.flatMap (slotL kenc))::F)):=by
 have Hk:=uQ hk;have HG:=uQ g;have HE:=uQ he;have Hc:=uQ hc
 have Hlen:=uQ (show ∀ x∈s,(slotL kenc x).length=37 from fun x hx=>slotL_len kenc x (g.key x hx) 4 (kenc_len _))
 obtain ⟨la,lc,rfl⟩:=osl_rows Hlen.out (Sat.rd (h.pick pick1)) dCz
 obtain ⟨j,hj,_⟩:=g.pow
 have hj40:j<40:=by
  rcases Nat.lt_or_ge j 40 with q|q
  ·exact q
  ·have:2^40≤2^j:=Nat.pow_le_pow_right dCz q
   have h40:(2:Nat)^40=1099511627776:=by decide
   omega
 have Hj:=uQ hj;have Hj40:=uQ hj40
 have Hd:=uQ (show d<s.length from he.lt)
 have hp0:0<s.length:=g.pos_len
 have Hp0:=uQ hp0
 have Hpz:=uQ (Tab.pos_zero (k:=k) hp0)
 clear hj hj40 hk g he hc hp0
 go_enter Tryz.func134,Tryz.ntmps134
 go_wp2_with ((with_reducible refine at_box ⟨?_⟩);refine wl_box aQ evD evD ?_;intro bB wB hB)
 have hB1:=hB.drew
 clear hB
 refine wpL_begin [6,7] (fun w'=>w'.rangeAt bB 0 (bys k)∧w'.cell? ⟨p,0,none⟩=some (.slice la s.length lc)) kRz ?_
 have hG:World.rangeAt _ bB 0 (bys k)∧World.cell? _ ⟨p,0,none⟩=some (.slice la s.length lc):=⟨pt_rangeL (hB1.pk (A:=pt bB (.cells (bys k).toArray 23 (0,0)))),hB1.cellP pkD 0 rfl⟩
 refine rg_take 0 evD kRz i3z (tk_loadN (b:=bB) (o:=0) (bys k) rFz Tryz.underlying23 rfl (by rw [bys_len,Hk.out];kernel_rfl) (fun w hw=>hw.1)) aQ gQ ?_
 refine rP 1 ?_ (y:=mvQ)
 refine rP 2 ?_ (y:=nlQ)
 refine rP 3 ?_ (y:=flQ)
 refine rt 4 (h:=?_)
 refine rP 5 ?_ (y:=(yl_len evD rnD))
 clear hG
 have hh:=home_c k Hk.out j Hj40.out hB1
 rw [← Hj.out]at hh
 refine rg_eff 6 evD kRz (fun K hK=>?_)
 (refine eff_call2 kRz evD evD ?_)
 refine hh.mono ?_
 rintro ee w2 ⟨v,rfl,rfl,hS2⟩
 refine hK _ _ (.inl rfl) ?_
 clear hK hh hB1
 refine rP 7 ?_ (y:=asQ)
 refine wpL_done kRz ?_
 try simp only [ayQ]
 try go_frame
 rw [← Hpz.out]
 go_wp2_with fail
 go_loopg [7,8] d (fun g aq sq wr=>∃ e:Nat,g=d - e∧e≤d∧aq = .int .i64 (Tab.pos k s.length e:Nat)∧sq = .int .i64 ((e:Int)+1) ∧
  Sat w0 wr (pt bB (.cells (bys k).toArray 23 (0,0))::tbPt p 223 (.slice la s.length lc) n gn::osl 230 37 (.slice la s.length lc) (s.flatMap (slotL kenc))::F))
 case atStart=>exact ⟨0,rfl,Nat.zero_le _,rfl,rfl,hS2.sb⟩
 case round=>
  obtain ⟨e,rfl,hed,rfl,rfl,hS⟩:=hrel
  clear hS2
  have hlt:=Tab.pos_lt (k:=k) (d:=e) Hp0.out
  have hdl:=Hd.out
  have hcl:=Hc.out
  obtain ⟨x,hx⟩:∃ x,s[Tab.pos k s.length e]?=some x:=⟨_,List.getElem?_eq_getElem hlt⟩
  have hxm:=List.mem_of_getElem? hx
  have hst:=HG.out.st x hxm
  have Hxk:=uQ (HG.out.key x hxm)
  obtain ⟨bk,off,c',hsv,hcell⟩:=osl_row Hlen.out (Sat.rd (hS.pick pick2)) hx dCz
  have Hnext:=uQ (Tab.pos_next (k:=k) (d:=e) Hp0.out)
  have Hmask:=uQ (and_mask (Tab.pos k s.length e+1) j oQ (by have:=Hj40.out;omega))
  have Hstop:=uQ (show e=d↔x.stop k from ⟨fun h=>by
    subst h
    obtain ⟨y,hy,hs⟩:=HE.out.here
    rw [hx]at hy;cases hy;exact hs,fun h=>by
    rcases Nat.lt_or_ge e d with q|q
    ·exact absurd ⟨x,hx,h⟩ (HE.out.no e q)
    ·omega⟩)
  have Hx:=uQ hx
  cases hsv
  have c0:(0:Int)≤((Tab.pos k s.length e:Nat):Int):=oQ
  have c1:((Tab.pos k s.length e:Nat):Int)<(s.length:Int):=oQ
  have c2:Tab.pos k s.length e<s.length:=hlt
  have e0:wr.cell? ⟨p,0,none⟩=some (.slice (some ⟨bk,off,none⟩) s.length lc):=hS.cellP pkD 0 rfl
  have hl38:=Hlen.out x hxm
  clear hx hxm
  have hq:bits .and .i64 (((Tab.pos k s.length e:Nat):Int)+1) ((s.length:Int) - 1)=((Tab.pos k s.length (e+1):Nat):Int):=by
   have h1:=Hmask.out
   rw [← Hj.out,Hnext.out]at h1
   rw [← h1]
   congr 1
   have:=Hp0.out
   omega
  have hw1:IntKind.i64.wrap (((Tab.pos k s.length e:Nat):Int)+1)=((Tab.pos k s.length e:Nat):Int)+1:=IntWalk.i64_in _ oQ
  have hw2:IntKind.i64.wrap ((s.length:Int) - 1)=(s.length:Int) - 1:=IntWalk.i64_in _ oQ
  have hw3:IntKind.i64.wrap ((e:Int)+1+1)=(e:Int)+1+1:=IntWalk.i64_in _ oQ
  clear hdl hcl
  generalize hP1:Tab.pos k s.length (e+1)=P1 at hq
  have HP1:=uQ hP1
  generalize hP:Tab.pos k s.length e=P0 at *
  have HP:=uQ hP
  clear hP1 hP hlt Hmask Hnext
  have Hed:=uQ hed
  clear hed
  go_wp2_with (with_reducible apply at_load)
  refine ⟨wl_load1 hS rFz pkD nLz evD kRz ?_⟩
  go_wp2_with (with_reducible apply at_load)
  refine ⟨wl_loadW (b:=bk) (o:=off+P0 * 37) (slotL kenc x) rFz hcell Tryz.underlying230 rfl (by rw [hl38];kernel_rfl) ?_⟩
  go_wp2_with (with_reducible apply at_alloc)
  refine ⟨wl_alloc zSlotK hS rfl ?_⟩
  intro b9 w9 hS9
  go_wp2_with (first|((with_reducible refine at_store ⟨?_⟩);refine wl_storeA (slotL kenc x).toArray hS9 rFz rFz (by rw [List.size_toArray,hl38];rfl) upd0 (by rw [List.size_toArray,hl38];kernel_rfl) (by rw [List.toList_toArray];exact slotL_ones kenc x (kenc_ones _)) ?_;intro w10 hS10)|(with_reducible apply at_load))
  refine ⟨?_⟩
  clear hS hS9 hcell e0
  have f0:w10.cell? ⟨b9,0,none⟩=some (.int .i64 x.st):=hS10.cellP pick0 0 (by rw [List.getElem?_toArray];rfl)
  have f1:w10.rangeAt b9 1 (bys x.key):=slot_key (hS10.pick pick0)
  have f2:w10.cell? ⟨p,0,none⟩=some (.slice (some ⟨bk,off,none⟩) s.length lc):=hS10.cellP pkD 0 rfl
  have hend:Sat w0 w10 (pt bB (.cells (bys k).toArray 23 (0,0))::tbPt p 223 (.slice (some ⟨bk,off,none⟩) s.length lc) n gn::osl 230 37 (.slice (some ⟨bk,off,none⟩) s.length lc) (s.flatMap (slotL kenc))::F):=hS10.sb
  have h3:x.st=0∨x.st=1∨x.st=2:=oQ
  rcases h3 with h3|h3|h3
  ·have h4:e=d:=Hstop.out.2 (.inl h3)
   rw [h3]at f0
   have Hdx:=uQ (show decide (x.st=1)=false by rw [h3];rfl)
   have Hst:=uQ (show (x.st:Int)=0 by rw [h3];rfl)
   clear Hstop hst h3 f1 f2 hq hw1 hw2 hw3 c0 c1 c2
   subst h4
   go_wp2_with fail
   have hS11:=hS10.drew
   clear hS10
   refine wpL_begin [4,7] (fun w'=>w'.cell? ⟨b9,0,none⟩=some (.int .i64 0)) kRz ?_
   have hG:World.cell? _ ⟨b9,0,none⟩=some (.int .i64 0):=hS11.cellP pick0 0 (by rw [List.getElem?_toArray,← Hst.out];rfl)
   clear f0
   refine rP 0 ?_ (y:=mvQ)
   refine rP 1 ?_ (y:=mvQ)
   refine rP 2 ?_ (y:=flQ)
   refine rt 3 (h:=?_)
   refine rP 4 ?_ (y:=bnQ)
   refine rP 5 ?_ (y:=asQ)
   refine rP 6 ?_ (y:=asQ)
   refine rP 7 ?_ (y:=asQ)
   refine wpL_done kRz ?_
   clear hG
   try simp only [ayQ]
   try go_frame
   go_wp2_with fail
   go_ret3
   exact ⟨_,rfl,x,by rw [HP.out];exact Hx.out,by rw [HP.out,Hdx.out];rfl,hS11.sb⟩
  ·have f3:w10.rangeAt bB 0 (bys k):=pt_rangeL (hS10.pk (A:=pt bB (.cells (bys k).toArray 23 (0,0))))
   have hkk:=eqIn_key x.key k Hxk.out Hk.out
   rw [h3]at f0
   by_cases hxk:x.key=k
   ·have h4:e=d:=Hstop.out.2 (.inr ⟨h3,hxk⟩)
    have Hdx:=uQ (show decide (x.st=1)=true by rw [h3];rfl)
    have Hst:=uQ (show (x.st:Int)=1 by rw [h3];rfl)
    rw [decide_eq_true hxk]at hkk
    clear Hstop hst h3 hxk hq hw1 hw2 hw3 c0 c1 c2 f2
    subst h4
    go_wp2_with (first
     |((with_reducible refine at_loadG ⟨?_⟩);refine wl_loadGm (o:=1) rFz rFz (bys x.key) _ f1 Tryz.underlying23 rfl (by rw [bys_len,Hxk.out];kernel_rfl) ?_)
     |((with_reducible refine at_loadG ⟨?_⟩);refine wl_loadGm (o:=0) rFz rFz (bys k) _ f3 Tryz.underlying23 rfl (by rw [bys_len,Hk.out];kernel_rfl) ?_))
    clear hkk f1 f3
    have hS11:=hS10.drew
    clear hS10
    refine wpL_begin [4,7] (fun w'=>w'.cell? ⟨b9,0,none⟩=some (.int .i64 1)) kRz ?_
    have hG:World.cell? _ ⟨b9,0,none⟩=some (.int .i64 1):=hS11.cellP pick0 0 (by rw [List.getElem?_toArray,← Hst.out];rfl)
    clear f0
    refine rP 0 ?_ (y:=mvQ)
    refine rP 1 ?_ (y:=mvQ)
    refine rP 2 ?_ (y:=flQ)
    refine rt 3 (h:=?_)
    refine rP 4 ?_ (y:=bnQ)
    refine rP 5 ?_ (y:=asQ)
    refine rP 6 ?_ (y:=asQ)
    refine rP 7 ?_ (y:=asQ)
    refine wpL_done kRz ?_
    clear hG
    try simp only [ayQ]
    try go_frame
    go_wp2_with fail
    go_ret3
    exact ⟨_,rfl,x,by rw [HP.out];exact Hx.out,by rw [HP.out,Hdx.out];rfl,hS11.sb⟩
   ·have h4:e<d:=by
     have:=Hed.out
     rcases Nat.lt_or_ge e d with q|q
     ·exact q
     ·exact absurd (Hstop.out.1 oQ) (fun h=>h.elim (fun h=>by omega) fun h=>hxk h.2)
    rw [decide_eq_false hxk]at hkk
    have H4:=uQ h4
    clear Hstop hst h3 hxk h4
    go_wp2_with (first
     |((with_reducible refine at_loadG ⟨?_⟩);refine wl_loadGm (o:=1) rFz rFz (bys x.key) _ f1 Tryz.underlying23 rfl (by rw [bys_len,Hxk.out];kernel_rfl) ?_)
     |((with_reducible refine at_loadG ⟨?_⟩);refine wl_loadGm (o:=0) rFz rFz (bys k) _ f3 Tryz.underlying23 rfl (by rw [bys_len,Hk.out];kernel_rfl) ?_))
    go_roundg (d - (e+1))
    case measure=>have:=H4.out;omega
    case rel=>exact ⟨e+1,rfl,H4.out,by rw [HP1.out],by first|rfl|go_num,hS10.sb⟩
  ·have h4:e<d:=by
    have:=Hed.out
    rcases Nat.lt_or_ge e d with q|q
    ·exact q
    ·exact absurd (Hstop.out.1 oQ) (fun h=>h.elim (fun h=>by omega) fun h=>by omega)
   rw [h3]at f0
   have H4:=uQ h4
   clear Hstop hst h3 f1 h4
   go_wp2_with fail
   go_roundg (d - (e+1))
   case measure=>have:=H4.out;omega
   case rel=>exact ⟨e+1,rfl,H4.out,by rw [HP1.out],by first|rfl|go_num,hS10.sb⟩
end
def TabMK (p:Nat) (m:Frm.Bs→Option (Rep.Kpv)) (B:Nat):HProp:=fun h=>∃ (t:Tab.Tb (Rep.Kpv)) (sv:Value),(t.Ok∧t.Is m∧t.n+t.gone≤B)∧stars [tbPt p 223 sv t.n t.gone,osl 230 37 sv (t.slots.flatMap (slotL kenc))] h
theorem zValK:zeroB Tryz.prog 154=some (.agg (kenc ⟨none,0,0,Seg.Plc.zero⟩).toArray):=by kernel_rfl
section
variable {w0 w:World}{F R:List HProp}{p B:Nat}{sv v:Value}{k:Frm.Bs}{m:Frm.Bs→Option (Rep.Kpv)}{t:Tab.Tb (Rep.Kpv)}
theorem TabMK.open (h:Sat w0 w (TabMK p m B::F)):∃ (t:Tab.Tb (Rep.Kpv)) (sv:Value),(t.Ok∧t.Is m∧t.n+t.gone≤B)∧Sat w0 w (tbPt p 223 sv t.n t.gone::osl 230 37 sv (t.slots.flatMap (slotL kenc))::F):=by
 obtain ⟨ha,x,hx,q,r,dd,rfl,⟨t,sv,hin,hp⟩,hq⟩:=h
 refine ⟨t,sv,hin,ha,_,hx,?_⟩
 show stars ([tbPt p 223 sv t.n t.gone,osl 230 37 sv (t.slots.flatMap (slotL kenc))]++F) _
 rw [stars_append]
 exact ⟨q,r,dd,rfl,hp,hq⟩
theorem TabMK.shut (h1:t.Ok) (h2:t.Is m) (h3:t.n+t.gone≤B) (h:Sat w0 w (tbPt p 223 sv t.n t.gone::osl 230 37 sv (t.slots.flatMap (slotL kenc))::F)):Sat w0 w (TabMK p m B::F):=
 Sat.join (M:=[tbPt p 223 sv t.n t.gone,osl 230 37 sv (t.slots.flatMap (slotL kenc))]) h fun _ hx=>⟨t,sv,⟨h1,h2,h3⟩,hx⟩
theorem newK_c (h:Sat w0 w F):Calls Tryz.prog 82 #[] w (Rtn fun v w'=>∃ p,v=ptr p∧Sat w0 w' (TabMK p (fun _=>none) 0::F)):=by
 go_enter Tryz.func82,Tryz.ntmps82
 go_wp2_with (first
  |((with_reducible refine at_make ⟨?_⟩);refine wl_makeN (e:=230) (sz:=37) (by':=88) (n:=8) kRz zSlotK h rFz rFz dCz dCz ?_;intro bM wM hM)
  |((with_reducible refine at_box ⟨?_⟩);refine wl_box hM evD evD ?_;intro bB wB hB))
 go_ret
 refine ⟨_,rfl,bB,rfl,?_⟩
 have e:(List.replicate 8 (slotL kenc ⟨0,Frm.zero32,zwK⟩)).flatten=(List.replicate 8 (⟨0,Frm.zero32,zwK⟩:Tab.Slot (Rep.Kpv))).flatMap (slotL kenc):=(rows_rep 8 _).symm
 rw [e]at hB
 exact TabMK.shut (t:=⟨List.replicate 8 ⟨0,Frm.zero32,zwK⟩,0,0⟩) (Tab.new_ok dCz rfl) (Tab.new_is rfl 0 0) (Nat.le_refl 0) hB
set_option maxRecDepth 20000 in
theorem getK_c (hB:B≤268435000) (hk:k.length=32) (h:Sat w0 w (TabMK p m B::F)) :
  Calls Tryz.prog 88 #[ptr p,.agg (bys k).toArray] w (Rtn fun v w'=>v = .tuple #[.agg (kenc ((m k).getD ⟨none,0,0,Seg.Plc.zero⟩)).toArray,.bool (m k).isSome]∧Sat w0 w' (TabMK p m B::F)):=by
 obtain ⟨t,sv,⟨ok,is,hb⟩,hR⟩:=TabMK.open h
 obtain ⟨d,he⟩:=ok.ends k
 have hsz:t.slots.length≤1073741824:=by have:=ok.size;omega
 have Hlen:=uQ (show ∀ x∈t.slots,(slotL kenc x).length=37 from fun x hx=>slotL_len kenc x (ok.good.key x hx) 4 (kenc_len _))
 obtain ⟨la,lc,rfl⟩:=osl_rows Hlen.out (Sat.rd (hR.pick pick1)) dCz
 have Hk:=uQ hk;have Hok:=uQ ok;have His:=uQ is;have Hb:=uQ hb;have He:=uQ he;have Hsz:=uQ hsz
 have Hp0:=uQ ok.good.pos_len
 clear h hk ok is hb he hsz hB
 go_enter Tryz.func88,Tryz.ntmps88
 go_wp2_with (first|((with_reducible refine at_box ⟨?_⟩);refine wl_box aQ evD evD ?_;intro bB wB hB)|(with_reducible apply at_alloc))
 refine ⟨wl_alloc zValK hB rfl ?_⟩
 intro b4 w4 hS4
 go_wp2_with (with_reducible apply at_alloc)
 refine ⟨wl_alloc zValK hS4 rfl ?_⟩
 intro b6 w6 hS6
 have hR6:Sat w0 w6 (tbPt p 223 (.slice la t.slots.length lc) t.n t.gone::pt b6 (.cells (kenc zwK).toArray 154 (0,0))::pt b4 (.cells (kenc zwK).toArray 154 (0,0))::pt bB (.cells (bys k).toArray 23 (0,0))::osl 230 37 (.slice la t.slots.length lc) (t.slots.flatMap (slotL kenc))::F):=hS6.sb
 clear hB hS4 hS6 hR
 go_wp2_with fail
 refine (okK_c Hp0.out hR6).mono ?_
 rintro ee w7 ⟨v,rfl,rfl,rfl⟩
 go_wp2_with ((with_reducible refine at_load ⟨?_⟩);refine wl_loadA hR6 rFz (pick_there (pick_there (pick_there pick0))) Tryz.underlying23 rfl (by rw [List.size_toArray,bys_len,Hk.out];kernel_rfl) ?_)
 have hf:=findK_c Hok.out.good Hsz.out Hk.out He.out (hR6.sb:Sat w0 w6 (tbPt p 223 (.slice la t.slots.length lc) t.n t.gone::osl 230 37 (.slice la t.slots.length lc) (t.slots.flatMap (slotL kenc))::pt b6 (.cells (kenc zwK).toArray 154 (0,0))::pt b4 (.cells (kenc zwK).toArray 154 (0,0))::F))
 clear hR6
 refine hf.mono ?_
 rintro ee w8 ⟨v,rfl,x,hx,rfl,hS8⟩
 clear hf
 obtain ⟨m1,m2⟩:=His.out.some Hok.out He.out hx
 have hxm:=List.mem_of_getElem? hx
 have hxk:=Hok.out.good.key x hxm
 obtain ⟨bk,off,c',hsv,hcell⟩:=osl_row Hlen.out (Sat.rd (hS8.pick pick1)) hx dCz
 cases hsv
 have hlt:=Tab.pos_lt (k:=k) (d:=d) Hp0.out
 have hval:∀ j v,(kenc x.val)[j]?=some v→w8.cell? ⟨bk,off+Tab.pos k t.slots.length d * 37+33+j,none⟩=some v:=fun j v hj=>by
  rw [Nat.add_assoc _ 33 j]
  exact hcell (33+j) v (slotL_val kenc x hxk hj)
 clear hcell hx hxm
 generalize Tab.pos k t.slots.length d=P0 at *
 have c0:(0:Int)≤(P0:Int):=oQ
 have c1:(P0:Int)<(t.slots.length:Int):=oQ
 have e0:w8.cell? ⟨p,0,none⟩=some (.slice (some ⟨bk,off,none⟩) t.slots.length lc):=hS8.cellP pkD 0 rfl
 by_cases h1:x.st=1
 ·have hd:decide (x.st=1)=true:=decide_eq_true h1
  have Hm:=uQ (m1 h1)
  clear m1 m2 h1
  go_wp2_with (first
   |((with_reducible refine at_load ⟨?_⟩);refine wl_load1 hS8 rFz pkD nLz evD kRz ?_)
   |((with_reducible refine at_load ⟨?_⟩);refine wl_loadW (b:=bk) (o:=off+P0 * 37+33) (kenc x.val) rFz hval Tryz.underlying154 rfl kRz ?_)
   |((with_reducible refine at_store ⟨?_⟩);refine wl_storeA (kenc x.val).toArray hS8 rFz rFz rFz (upd_there (upd_there (upd_there upd0))) kRz rFz ?_;intro w10 hS10))
  refine ⟨rfl,_,res_cell_tmp rfl hS10 rFz pkD Tryz.underlying154 rfl kRz,_,rfl,?_,TabMK.shut Hok.out His.out Hb.out (hS10.sb)⟩
  rw [Hm.out];rfl
 ·have hd:decide (x.st=1)=false:=decide_eq_false h1
  have Hm:=uQ (m2 h1)
  clear m1 m2 h1
  go_wp2_with (first
   |((with_reducible refine at_load ⟨?_⟩);refine wl_loadA hS8 rFz (pick_there (pick_there (pick0 (A:=pt b6 (.cells (kenc zwK).toArray 154 (0,0)))))) Tryz.underlying154 rfl kRz ?_)
   |((with_reducible refine at_store ⟨?_⟩);refine wl_storeA (kenc zwK).toArray hS8 rFz rFz rFz (upd_there (upd_there (upd_there upd0))) kRz rFz ?_;intro w10 hS10))
  refine ⟨rfl,_,res_cell_tmp rfl hS10 rFz (pick_there (pick_there (pick_there pick0))) Tryz.underlying154 rfl kRz,_,rfl,?_,TabMK.shut Hok.out His.out Hb.out (hS10.sb)⟩
  rw [Hm.out];rfl
end
section
variable {w0 w:World}{F R:List HProp}{p B N:Nat}{sv v:Value}{k:Frm.Bs}{m:Frm.Bs→Option (Rep.Kpv)}{t:Tab.Tb (Rep.Kpv)}
set_option maxRecDepth 20000 in
theorem renewK_c (ok:t.Ok) (hN:t.n≤N) (hNb:N≤134217728) (hlen31:t.slots.length≤1073741824) (h:Sat w0 w (tbPt p 223 sv t.n t.gone::osl 230 37 sv (t.slots.flatMap (slotL kenc))::F)) :
  Calls Tryz.prog 159 #[ptr p,.int .i64 N] w (Rtn fun _ w'=>∃ s' sv',Tab.Renewed t s' N∧Sat w0 w' (tbPt p 223 sv' t.n 0::osl 230 37 sv' (s'.flatMap (slotL kenc))::F)):=by
 have Hok:=uQ ok;have HN:=uQ hN;have HNb:=uQ hNb
 have Hlen:=uQ (show ∀ x∈t.slots,(slotL kenc x).length=37 from fun x hx=>slotL_len kenc x (ok.good.key x hx) 4 (kenc_len _))
 obtain ⟨la,lc,rfl⟩:=osl_rows Hlen.out (Sat.rd (h.pick pick1)) dCz
 have hw0:IntKind.i64.wrap (2 * (N:Int))=2 * (N:Int):=IntWalk.i64_in _ oQ
 have hw0b:wrap64 (2 * (N:Int))=2 * (N:Int):=IntWalk.wrap64_in _ oQ
 clear ok hN
 go_enter Tryz.func159,Tryz.ntmps159
 go_wp2_with fail
 go_loopg [4] (4 * N) (fun g cq wr=>∃ c:Nat,g=4 * N+8 - c∧cq = .int .i64 c∧(∃ j,c=2^j∧3≤j)∧8≤c∧(c=8∨c<4 * N)∧wr=w)
 case atStart=>exact ⟨8,by omega,rfl,⟨3,rfl,Nat.le_refl 3⟩,Nat.le_refl 8,.inl rfl,rfl⟩
 case round=>
  obtain ⟨c,rfl,rfl,⟨j,hj,hj3⟩,hc8,hc,rfl⟩:=hrel
  by_cases hlt:c<2 * N
  ·have c1:(c:Int)<2 * (N:Int):=by omega
   have hw1:IntKind.i64.wrap ((c:Int) * 2)=(c:Int) * 2:=IntWalk.i64_in _ oQ
   have hw1b:wrap64 ((c:Int) * 2)=(c:Int) * 2:=IntWalk.wrap64_in _ oQ
   have Hj:=uQ hj;have Hj3:=uQ hj3;have Hlt:=uQ hlt;have Hc8:=uQ hc8
   clear hj hj3 hlt hc hc8
   go_wp2_with fail
   go_roundg (4 * N+8 - c * 2)
   case measure=>have:=Hlt.out;have:=Hc8.out;omega
   case rel=>exact ⟨c * 2,rfl,by first|rfl|go_num,⟨j+1,by rw [Nat.pow_succ,Hj.out],by have:=Hj3.out;omega⟩,by have:=Hc8.out;omega,.inr (by have:=Hlt.out;omega),rfl⟩
  ·have c1:¬ (c:Int)<2 * (N:Int):=by omega
   have HC:=uQ (show (∃ j,c=2^j∧3≤j)∧2 * N≤c∧8≤c∧(c=8∨c<4 * N) from ⟨⟨j,hj,hj3⟩,by omega,hc8,hc⟩)
   have hcb:c≤1073741824:=oQ
   have Hcb:=uQ hcb
   clear hj hj3 hlt hc hc8 hw0 hcb hNb
   go_wp2_with (first
    |((with_reducible refine at_load ⟨?_⟩);refine wl_load1 h rFz pkD nLz evD kRz ?_)
    |((with_reducible refine at_make ⟨?_⟩);refine wl_makeN (e:=230) (sz:=37) (by':=88) (n:=c) kRz zSlotK h rFz rFz (by have:=Hcb.out;omega) (by have:=Hcb.out;omega) ?_;intro bM wM hM)
    |((with_reducible refine at_store ⟨?_⟩);refine wl_store aQ rFz evD pQ upD nLz kRz rFz ?_;intro wS hS))
   have e8:(List.replicate c (slotL kenc ⟨0,Frm.zero32,zwK⟩)).flatten=(List.replicate c (⟨0,Frm.zero32,zwK⟩:Tab.Slot (Rep.Kpv))).flatMap (slotL kenc):=(rows_rep c _).symm
   rw [e8]at hS
   have hS0:Sat w0 _ (tbPt p 223 (.slice (some ⟨bM,0,none⟩) c c) t.n 0::osl 230 37 (.slice (some ⟨bM,0,none⟩) c c) ((List.replicate c (⟨0,Frm.zero32,zwK⟩:Tab.Slot (Rep.Kpv))).flatMap (slotL kenc))::osl 230 37 (.slice la t.slots.length lc) (t.slots.flatMap (slotL kenc))::F):=hS.sb
   clear hS hM h e8 c1
   go_wp2_with fail
   go_loopg [31] t.slots.length (fun g iq wr=>∃ (i:Nat) (cur:List (Tab.Slot (Rep.Kpv))),g=t.slots.length - i∧i≤t.slots.length∧iq = .int .i64 i∧Tab.Half t.slots cur i∧cur.length=c ∧
    Sat w0 wr (tbPt p 223 (.slice (some ⟨bM,0,none⟩) c c) t.n 0::osl 230 37 (.slice (some ⟨bM,0,none⟩) c c) (cur.flatMap (slotL kenc))::osl 230 37 (.slice la t.slots.length lc) (t.slots.flatMap (slotL kenc))::F))
   case atStart=>exact ⟨0,_,rfl,Nat.zero_le _,rfl,Tab.half_start HC.out.1 dCz rfl,List.length_replicate,hS0⟩
   case round=>
    obtain ⟨i,cur,rfl,hi,rfl,hH,hcl,hS⟩:=hrel
    clear hS0
    have HH:=uQ hH;have Hcl:=uQ hcl
    by_cases hlt:i<t.slots.length
    rotate_left
    ·obtain rfl:i=t.slots.length:=by omega
     have c1:¬ (t.slots.length:Int)<(t.slots.length:Int):=oQ
     clear hlt hH hi
     go_wp2_with fail
     go_end0
     obtain ⟨q1,q2,q3,q4⟩:=HH.out.done
     exact ⟨_,rfl,cur,⟨q1,q2,q3.trans Hok.out.n.symm,q4.trans Hok.out.n.symm,by rw [Hcl.out];exact HC.out.2.1,by rw [Hcl.out];exact HC.out.2.2.1,by rw [Hcl.out];exact HC.out.2.2.2⟩,_,hS.sb⟩
    have c1:(i:Int)<(t.slots.length:Int):=oQ
    have hwi:=iwQ (i:=i)
    obtain ⟨x,hx⟩:∃ x,t.slots[i]?=some x:=⟨_,List.getElem?_eq_getElem hlt⟩
    have hxm:=List.mem_of_getElem? hx
    have hst:=Hok.out.good.st x hxm
    have Hxk:=uQ (Hok.out.good.key x hxm)
    obtain ⟨bk,off,c',hsv,hcell⟩:=osl_row Hlen.out (Sat.rd (hS.pick pick2)) hx dCz
    cases hsv
    have hl38:=Hlen.out x hxm
    have Hx:=uQ hx;have Hlt:=uQ hlt
    clear hx hxm hlt hH hi
    go_wp2_with (first
     |((with_reducible refine at_load ⟨?_⟩);refine wl_loadW (b:=bk) (o:=off+i * 37) (slotL kenc x) rFz hcell Tryz.underlying230 rfl (by rw [hl38];kernel_rfl) ?_)
     |(with_reducible apply at_alloc))
    refine ⟨wl_alloc zSlotK hS rfl ?_⟩
    intro b7 w7 hS7
    go_wp2_with (first|((with_reducible refine at_store ⟨?_⟩);refine wl_storeA (slotL kenc x).toArray hS7 rFz rFz (by rw [List.size_toArray,hl38];rfl) upd0 (by rw [List.size_toArray,hl38];kernel_rfl) (by rw [List.toList_toArray];exact slotL_ones kenc x (kenc_ones _)) ?_;intro w10 hS10)|(with_reducible apply at_load))
    refine ⟨?_⟩
    clear hS hS7 hcell
    have f0:w10.cell? ⟨b7,0,none⟩=some (.int .i64 x.st):=hS10.cellP pick0 0 (by rw [List.getElem?_toArray];rfl)
    have f1:w10.rangeAt b7 1 (bys x.key):=slot_key (hS10.pick pick0)
    by_cases h1:x.st=1
    rotate_left
    ·have hst1:((x.st:Int)==1)=false:=by rw [beq_eq_false_iff_ne];omega
     have H1:=uQ h1
     clear h1 f1
     go_wp2_with fail
     go_roundg (t.slots.length - (i+1))
     case measure=>have:=Hlt.out;omega
     case rel=>exact ⟨i+1,cur,rfl,Hlt.out,by first|rfl|go_num,HH.out.skip Hx.out H1.out,Hcl.out,hS10.sb⟩
    ·have hus:Tab.used cur<cur.length:=by
      have h2:=HH.out.nu
      have h3:=Tab.fulls_take_le t.slots i
      have h4:=Hok.out.n
      have h5:=HN.out
      have h6:=HC.out
      rw [Hcl.out];omega
     obtain ⟨dd,hdd⟩:=Tab.ends_of (k:=x.key) HH.out.good (Tab.free_of hus)
     have H1:=uQ h1;have Hdd:=uQ hdd
     have hst1:((x.st:Int)==1)=true:=by rw [h1];rfl
     have Hcl38:=uQ (show ∀ y∈cur,(slotL kenc y).length=37 from fun y hy=>slotL_len kenc y (HH.out.good.key y hy) 4 (kenc_len _))
     clear h1 hus hdd
     go_wp2_with ((with_reducible refine at_load ⟨?_⟩);refine wl_loadW (b:=b7) (o:=1) (bys x.key) rFz f1 Tryz.underlying23 rfl (by rw [bys_len,Hxk.out];kernel_rfl) ?_)
     have hf:=findK_c HH.out.good (by rw [Hcl.out];exact Hcb.out) Hxk.out Hdd.out (hS10.sb:Sat w0 w10 (tbPt p 223 (.slice (some ⟨bM,0,none⟩) c c) t.n 0::osl 230 37 (.slice (some ⟨bM,0,none⟩) c c) (cur.flatMap (slotL kenc))::pt b7 (.cells (slotL kenc x).toArray 230 (0,0))::osl 230 37 (.slice (some ⟨bk,off,none⟩) t.slots.length lc) (t.slots.flatMap (slotL kenc))::F))
     clear hS10 f0 f1
     refine hf.mono ?_
     rintro ee w11 ⟨v,rfl,y,hy,rfl,hS11⟩
     clear hf hy
     have hlt2:=Tab.pos_lt (k:=x.key) (d:=dd) HH.out.good.pos_len
     rw [Hcl.out]at hlt2
     have Hset:=uQ (rows_set (f:=slotL kenc) (k:=37) (i:=Tab.pos x.key cur.length dd) (x:=x) Hcl38.out hl38 (Tab.pos_lt HH.out.good.pos_len))
     have Hst2:=uQ (HH.out.step Hok.out.good Hx.out H1.out Hdd.out)
     rw [Hcl.out]at Hset Hst2
     rw [Hcl.out]
     have hrl:(cur.flatMap (slotL kenc)).length=37 * c:=by rw [rows_len Hcl38.out,Hcl.out]
     generalize Tab.pos x.key c dd=P0 at *
     have c2:(0:Int)≤(P0:Int):=oQ
     have c3:(P0:Int)<(c:Int):=oQ
     go_wp2_with fail
     have hSd:=hS11.drew
     clear hS11
     refine wpL_begin [6,7] (fun w'=>w'.cell? ⟨p,0,none⟩=some (.slice (some ⟨bM,0,none⟩) c c)∧w'.rangeAt b7 0 (slotL kenc x)) kRz ?_
     have hG:World.cell? _ ⟨p,0,none⟩=some (.slice (some ⟨bM,0,none⟩) c c)∧World.rangeAt _ b7 0 (slotL kenc x):=⟨hSd.cellP pkD 0 rfl,pt_rangeL (hSd.pk (A:=pt b7 (.cells (slotL kenc x).toArray 230 (0,0))))⟩
     refine rP 0 ?_ (y:=mvQ)
     refine rP 1 ?_ (y:=nlQ)
     refine rP 2 ?_ (y:=flQ)
     refine rt 3 (h:=?_)
     refine rP 4 ?_ (y:=mvQ)
     refine rg_take 5 evD kRz i3z (tk_loadN (b:=b7) (o:=0) (slotL kenc x) rFz Tryz.underlying230 rfl (by rw [hl38];kernel_rfl) (fun w hw=>hw.2)) aQ gQ ?_
     refine rP 6 ?_ (y:=ixQ)
     clear hG
     refine rg_eff 7 evD kRz (fun K hK=>?_)
     refine eff_storeSN (vs:=slotL kenc x) (P0 * 37) hSd evD evD rfl (upd_there upd0) (by rw [hl38,hrl];omega) (by rw [hl38];kernel_rfl) (slotL_ones kenc x (kenc_ones _)) ?_
     intro w12 hS12
     refine hK _ _ (.inl rfl) ?_
     clear hK hSd
     refine wpL_done kRz ?_
     try simp only [ayQ]
     try go_frame
     rw [← Hset.out]at hS12
     go_wp2_with fail
     go_roundg (t.slots.length - (i+1))
     case measure=>have:=Hlt.out;omega
     case rel=>exact ⟨i+1,_,rfl,Hlt.out,by first|rfl|go_num,Hst2.out,by rw [List.length_set];exact Hcl.out,hS12.sb⟩
end
theorem run_slotK (k:Frm.Bs) (hk:k.length=32) (v:Rep.Kpv) (w:World) :
  (Instr.build 230 #[(0,.int .i64 1),(1,.agg (bys k).toArray),(2,.agg (kenc v).toArray)]).run Tryz.prog w = .ok (.agg (slotL kenc ⟨1,k,v⟩).toArray) w:=by
 have hbk:(bys k).toArray.size=32:=by rw [List.size_toArray,bys_len,hk]
 refine (run_build (P:=Tryz.prog) [(0,.int .i64 1),(1,.agg (bys k).toArray),(2,.agg (kenc v).toArray)] plSlotK zSlotK (by
  intro p' hp
  simp only [List.mem_cons,List.not_mem_nil,or_false]at hp
  have hzz:(Value.agg (slotL kenc (⟨0,Frm.zero32,zwK⟩:Tab.Slot (Rep.Kpv))).toArray).cells.size=37:=by
   show (slotL kenc (⟨0,Frm.zero32,zwK⟩:Tab.Slot (Rep.Kpv))).toArray.size=37
   rw [List.size_toArray,slotL_len kenc _ dCz 4 rfl]
  rw [hzz]
  rcases hp with rfl|rfl|rfl
  ·exact ⟨0,rfl,by show 0+1≤37;omega⟩
  ·refine ⟨1,?_,?_⟩
   ·show some (1,32)=some (1,(bys k).toArray.size);rw [hbk]
   ·show 1+(bys k).toArray.size≤37;omega
  ·exact ⟨33,rfl,by show 33+4≤37;omega⟩) w).trans ?_
 rw [show (Value.agg (slotL kenc (⟨0,Frm.zero32,zwK⟩:Tab.Slot (Rep.Kpv))).toArray).cells=(slotL kenc (⟨0,Frm.zero32,zwK⟩:Tab.Slot (Rep.Kpv))).toArray from rfl,put_slot kenc ⟨0,Frm.zero32,zwK⟩ k v dCz hk rfl 4 rfl]
section
variable {w0 w:World}{F R:List HProp}{p B:Nat}{sv:Value}{k:Frm.Bs}{m:Frm.Bs→Option (Rep.Kpv)}
set_option maxRecDepth 20000 in
theorem putK_c (hB:B≤134217000) (hk:k.length=32) (v:Rep.Kpv) (h:Sat w0 w (TabMK p m B::F)) :
  Calls Tryz.prog 132 #[ptr p,.agg (bys k).toArray,.agg (kenc v).toArray] w (Rtn fun _ w'=>Sat w0 w' (TabMK p (Tab.put m k v) (B+1)::F)):=by
 obtain ⟨t,sv,⟨ok,is,hb⟩,hR⟩:=TabMK.open h
 obtain ⟨d,he⟩:=ok.ends k
 have hsz:t.slots.length≤1073741824:=by have:=ok.size;omega
 have Hlen:=uQ (show ∀ x∈t.slots,(slotL kenc x).length=37 from fun x hx=>slotL_len kenc x (ok.good.key x hx) 4 (kenc_len _))
 obtain ⟨la,lc,rfl⟩:=osl_rows Hlen.out (Sat.rd (hR.pick pick1)) dCz
 have hrl:0<(t.slots.flatMap (slotL kenc)).length:=by rw [rows_len Hlen.out];have:=ok.good.pos_len;omega
 obtain ⟨bk,rfl⟩:=osl_zero (hR.pick pick1) hrl
 have Hk:=uQ hk;have Hok:=uQ ok;have His:=uQ is;have Hb:=uQ hb;have He:=uQ he;have Hsz:=uQ hsz;have HB:=uQ hB
 have Hp0:=uQ ok.good.pos_len
 have Hbs:=uQ (show (bys k).length=32 by rw [bys_len,hk])
 clear h hk ok is hb he hsz hB hrl
 go_enter Tryz.func132,Tryz.ntmps132
 go_wp2_with (with_reducible apply at_box)
 refine ⟨wl_box hR evD evD ?_⟩
 intro b4 w4 hS4
 go_wp2_with (with_reducible apply at_box)
 refine ⟨wl_box hS4 evD evD ?_⟩
 intro b5 w5 hS5
 have hA:Sat w0 w5 (tbPt p 223 (.slice (some ⟨bk,0,none⟩) t.slots.length lc) t.n t.gone::osl 230 37 (.slice (some ⟨bk,0,none⟩) t.slots.length lc) (t.slots.flatMap (slotL kenc))::pt b4 (.cells (bys k).toArray 23 (0,0))::pt b5 (.cells (kenc v).toArray 154 (0,0))::F):=hS5.sb
 clear hR hS4 hS5
 go_wp2_with fail
 refine (okK_c Hp0.out hA).mono ?_
 rintro ee w7 ⟨v',rfl,rfl,rfl⟩
 go_wp2_with ((with_reducible refine at_load ⟨?_⟩);refine wl_loadA hA rFz (pick_there (pick_there (pick0 (A:=pt b4 (.cells (bys k).toArray 23 (0,0)))))) Tryz.underlying23 rfl (by rw [List.size_toArray,Hbs.out];kernel_rfl) ?_)
 have hf:=findK_c Hok.out.good Hsz.out Hk.out He.out hA
 clear hA
 refine hf.mono ?_
 rintro ee w8 ⟨v',rfl,x,hx,rfl,hS8⟩
 clear hf
 have hlt:=Tab.pos_lt (k:=k) (d:=d) Hp0.out
 by_cases h1:x.st=1
 ·have hd:decide (x.st=1)=true:=decide_eq_true h1
  have hxm:=List.mem_of_getElem? hx
  have Hrow:=uQ (rows_part (f:=slotL kenc) (k:=37) (o:=33) (x':=⟨x.st,x.key,v⟩) (vs:=kenc v) Hlen.out hx (slotL_setv kenc x v (Hok.out.good.key x hxm) rfl) (by show 33+4≤37;decide))
  have Hok2:=uQ (Tab.put_old_ok Hok.out He.out hx h1 v)
  have His2:=uQ (Tab.is_put His.out (Tab.put_found Hok.out.good He.out hx h1 v).2 t.n t.gone)
  have hrl:(t.slots.flatMap (slotL kenc)).length=37 * t.slots.length:=rows_len Hlen.out
  clear hx hxm h1
  generalize Tab.pos k t.slots.length d=P0 at *
  have c0:(0:Int)≤(P0:Int):=oQ
  have c1:(P0:Int)<(t.slots.length:Int):=oQ
  go_wp2_with fail
  have hSd:=hS8.drew
  clear hS8
  refine wpL_begin [6,7,8] (fun w'=>w'.cell? ⟨p,0,none⟩=some (.slice (some ⟨bk,0,none⟩) t.slots.length lc)∧w'.rangeAt b5 0 (kenc v)) kRz ?_
  have hG:World.cell? _ ⟨p,0,none⟩=some (.slice (some ⟨bk,0,none⟩) t.slots.length lc)∧World.rangeAt _ b5 0 (kenc v):=⟨hSd.cellP pkD 0 rfl,pt_rangeL (hSd.pk (A:=pt b5 (.cells (kenc v).toArray 154 (0,0))))⟩
  refine rP 0 ?_ (y:=mvQ)
  refine rP 1 ?_ (y:=nlQ)
  refine rP 2 ?_ (y:=flQ)
  refine rt 3 (h:=?_)
  refine rP 4 ?_ (y:=mvQ)
  refine rg_take 5 evD kRz i3z (tk_loadN (b:=b5) (o:=0) (kenc v) rFz Tryz.underlying154 rfl kRz (fun w hw=>hw.2)) aQ gQ ?_
  refine rP 6 ?_ (y:=ixQ)
  refine rP 7 ?_ (y:=flQ)
  clear hG
  refine rg_eff 8 evD kRz (fun K hK=>?_)
  refine eff_storeSN (vs:=kenc v) (P0 * 37+33) hSd evD evD rfl (upd_there upd0) (by rw [hrl];show P0 * 37+33+4≤_;omega) kRz rFz ?_
  intro w12 hS12
  refine hK _ _ (.inl rfl) ?_
  clear hK hSd
  refine wpL_done kRz ?_
  try simp only [ayQ]
  try go_frame
  rw [← Hrow.out]at hS12
  go_wp2_with fail
  go_end0
  exact ⟨_,rfl,TabMK.shut (sv:= .slice (some ⟨bk,0,none⟩) t.slots.length lc) Hok2.out His2.out (Nat.le_succ_of_le Hb.out) (hS12.sb)⟩
 have hd:decide (x.st=1)=false:=decide_eq_false h1
 have hb4:=Hb.out
 have hB4:=HB.out
 have hsz4:=Hsz.out
 obtain ⟨hA1,hA2,hA3,hA4,hA1b,hA2b,hA3b,hA4b,hA5⟩:=wraps4 t.n t.gone t.slots.length oQ hsz4
 have Hx:=uQ hx;have H1:=uQ h1
 clear hx h1 hb4 hB4 hsz4
 go_wp2_with fail
 have hSd:=hS8.drew
 clear hS8
 have e0:World.cell? _ ⟨p,0,none⟩=some (.slice (some ⟨bk,0,none⟩) t.slots.length lc):=hSd.cellP pkD 0 rfl
 have e1:World.cell? _ ⟨p,1,none⟩=some (.int .i64 t.n):=hSd.cellP pkD 1 rfl
 have e2:World.cell? _ ⟨p,2,none⟩=some (.int .i64 t.gone):=hSd.cellP pkD 2 rfl
 go_region
 have hcmp:3 * t.slots.length<4 * (t.n+t.gone+1)∨4 * (t.n+t.gone+1)≤3 * t.slots.length:=oQ
 rcases hcmp with hcmp|hcmp
 focus
  have hci:(3:Int) * (t.slots.length:Int)<4 * ((t.n:Int)+(t.gone:Int)+1):=oQ
  have hrn:=renewK_c (N:=t.n+1) Hok.out (Nat.le_succ _) (by have:=Hb.out;have:=HB.out;omega) Hsz.out hSd
  rw [show (((t.n+1:Nat)):Int)=(t.n:Int)+1 by omega]at hrn
  clear hSd e0 e2
  go_wp2_with fail
  refine hrn.mono ?_
  rintro ee w9 ⟨v',rfl,s',sv',hren,hS9⟩
  clear hrn e1 hci hcmp
  have hok1:=hren.ok
  have his1:=hren.is His.out t.n 0
  have hld1:4 * ((⟨s',t.n,0⟩:Tab.Tb (Rep.Kpv)).n+(⟨s',t.n,0⟩:Tab.Tb (Rep.Kpv)).gone+1)≤3 * (⟨s',t.n,0⟩:Tab.Tb (Rep.Kpv)).slots.length:=by have:=hren.lo;simp only;omega
  have hb1:(⟨s',t.n,0⟩:Tab.Tb (Rep.Kpv)).n+(⟨s',t.n,0⟩:Tab.Tb (Rep.Kpv)).gone≤B:=by have:=Hb.out;simp only;omega
  have hS10:Sat w0 w9 (tbPt p 223 sv' (⟨s',t.n,0⟩:Tab.Tb (Rep.Kpv)).n (⟨s',t.n,0⟩:Tab.Tb (Rep.Kpv)).gone::osl 230 37 sv' ((⟨s',t.n,0⟩:Tab.Tb (Rep.Kpv)).slots.flatMap (slotL kenc))::pt b4 (.cells (bys k).toArray 23 (0,0))::pt b5 (.cells (kenc v).toArray 154 (0,0))::F):=hS9
  clear hS9 hren hA1 hA2 hA3 hA4 hA1b hA2b hA3b hA4b hA5
  generalize (⟨s',t.n,0⟩:Tab.Tb (Rep.Kpv))=t1 at hok1 his1 hld1 hb1 hS10
  have Hlen1:=uQ (show ∀ x∈t1.slots,(slotL kenc x).length=37 from fun x hx=>slotL_len kenc x (hok1.good.key x hx) 4 (kenc_len _))
  obtain ⟨la1,lc1,rfl⟩:=osl_rows Hlen1.out (Sat.rd (hS10.pick pick1)) dCz
  have Hok1:=uQ hok1;have His1:=uQ his1;have Hld1:=uQ hld1;have Hb1:=uQ hb1
  obtain ⟨d1,he1⟩:=hok1.ends k
  have He1:=uQ he1
  have hno:m k=none:=by
   obtain ⟨_,q2⟩:=His.out.some Hok.out He.out Hx.out
   exact q2 H1.out
  have hsz1:t1.slots.length≤1073741824:=by have:=hok1.size;have:=HB.out;omega
  clear hok1 his1 hld1 hb1 he1
  go_wp2_with ((with_reducible refine at_load ⟨?_⟩);refine wl_loadA hS10 rFz (pick_there (pick_there (pick0 (A:=pt b4 (.cells (bys k).toArray 23 (0,0)))))) Tryz.underlying23 rfl (by rw [List.size_toArray,Hbs.out];kernel_rfl) ?_)
  have hf:=findK_c Hok1.out.good hsz1 Hk.out He1.out hS10
  clear hS10 hsz1
  refine hf.mono ?_
  rintro ee w8b ⟨v',rfl,x1,hx1,rfl,hT⟩
  have Hx1:=uQ hx1
  have H1f:=uQ (show x1.st≠1 from fun h=>by
   have:=(His1.out.some Hok1.out He1.out hx1).1 h
   rw [hno]at this;cases this)
  clear hf hx1 hno Hx H1 He Hok His Hlen Hp0 Hb Hsz hlt hd
  go_wp2_with fail
 rotate_left
 focus
  have hci:¬ (3:Int) * (t.slots.length:Int)<4 * ((t.n:Int)+(t.gone:Int)+1):=oQ
  have Hld1:=uQ hcmp
  clear e0 e1 e2 hcmp
  go_wp2_with fail
  clear hci hA1 hA2 hA3 hA4 hA1b hA2b hA3b hA4b hA5 hlt hd Hp0 Hsz
  obtain ⟨t1,rfl⟩:∃ y,y=t:=⟨t,rfl⟩
  obtain ⟨x1,rfl⟩:∃ y,y=x:=⟨x,rfl⟩
  obtain ⟨d1,rfl⟩:∃ y,y=d:=⟨d,rfl⟩
  obtain ⟨la1,hla1⟩:∃ y:Option Addr,y=some ⟨bk,0,none⟩:=⟨_,rfl⟩
  obtain ⟨lc1,rfl⟩:∃ y,y=lc:=⟨lc,rfl⟩
  rw [← hla1]at hSd
  have hT:=hSd
  have Hok1:=uQ Hok.out;have His1:=uQ His.out;have Hb1:=uQ Hb.out;have He1:=uQ He.out;have Hx1:=uQ Hx.out;have H1f:=uQ H1.out;have Hlen1:=uQ Hlen.out
  clear hSd Hok His Hb He Hx H1 Hlen hla1
 all_goals
  have hrl:(t1.slots.flatMap (slotL kenc)).length=37 * t1.slots.length:=rows_len Hlen1.out
  obtain ⟨bk1,rfl⟩:=osl_zero (hT.pick pick1) (by rw [hrl];have:=Hok1.out.good.pos_len;omega)
  have Hrow:=uQ (rows_set (f:=slotL kenc) (k:=37) (i:=Tab.pos k t1.slots.length d1) (x:=⟨1,k,v⟩) Hlen1.out (slotL_len kenc _ Hk.out 4 rfl) (Tab.pos_lt Hok1.out.good.pos_len))
  have Hok2:=uQ (Tab.put_new_ok Hok1.out Hld1.out He1.out Hx1.out H1f.out Hk.out v)
  have His2:=uQ (Tab.is_put His1.out (Tab.put_new Hok1.out.good He1.out Hx1.out H1f.out Hk.out v).2 (t1.n+1) t1.gone)
  have hlt1:=Tab.pos_lt (k:=k) (d:=d1) Hok1.out.good.pos_len
  have hls:=slotL_len kenc (⟨1,k,v⟩:Tab.Slot (Rep.Kpv)) Hk.out 4 rfl
  have hwn:IntKind.i64.wrap ((t1.n:Int)+1)=(t1.n:Int)+1:=IntWalk.i64_in _ (by have:=Hb1.out;have:=HB.out;omega)
  clear Hx1 H1f He1 Hok1 His1 Hld1
  generalize Tab.pos k t1.slots.length d1=P1 at *
  have c0:(0:Int)≤(P1:Int):=oQ
  have c1:(P1:Int)<(t1.slots.length:Int):=oQ
  have hSd:=hT.drew
  clear hT
  refine wpL_begin [8,9] (fun w'=>w'.cell? ⟨p,0,none⟩=some (.slice (some ⟨bk1,0,none⟩) t1.slots.length lc1)∧w'.rangeAt b4 0 (bys k)∧w'.rangeAt b5 0 (kenc v)) kRz ?_
  have hG:World.cell? _ ⟨p,0,none⟩=some (.slice (some ⟨bk1,0,none⟩) t1.slots.length lc1)∧World.rangeAt _ b4 0 (bys k)∧World.rangeAt _ b5 0 (kenc v):=⟨hSd.cellP pkD 0 rfl,pt_rangeL (hSd.pk (A:=pt b4 (.cells (bys k).toArray 23 (0,0)))),pt_rangeL (hSd.pk (A:=pt b5 (.cells (kenc v).toArray 154 (0,0))))⟩
  refine rP 0 ?_ (y:=mvQ)
  refine rP 1 ?_ (y:=nlQ)
  refine rP 2 ?_ (y:=flQ)
  refine rt 3 (h:=?_)
  refine rP 4 ?_ (y:=mvQ)
  refine rg_take 5 evD kRz i3z (tk_loadN (b:=b4) (o:=0) (bys k) rFz Tryz.underlying23 rfl (by rw [Hbs.out];kernel_rfl) (fun w hw=>hw.2.1)) aQ gQ ?_
  refine rg_take 6 evD kRz i3z (tk_loadN (b:=b5) (o:=0) (kenc v) rFz Tryz.underlying154 rfl kRz (fun w hw=>hw.2.2)) aQ gQ ?_
  refine rP 7 ?_ (y:=(yl_build3 evD evD evD (fun w=>run_slotK k Hk.out v w)))
  refine rP 8 ?_ (y:=ixQ)
  clear hG
  refine rg_eff 9 evD kRz (fun K hK=>?_)
  refine eff_storeSN (vs:=slotL kenc ⟨1,k,v⟩) (P1 * 37) hSd evD evD rfl (upd_there upd0) (by rw [hrl,hls];omega) (by rw [hls];kernel_rfl) (slotL_ones kenc _ rFz) ?_
  intro w12 hS12
  refine hK _ _ (.inl rfl) ?_
  clear hK hSd
  refine wpL_done kRz ?_
  try simp only [ayQ]
  try go_frame
  rw [← Hrow.out]at hS12
  go_wp2_with (first
   |((with_reducible refine at_load ⟨?_⟩);refine wl_load1 hS12 rFz pkD nLz evD kRz ?_)
   |((with_reducible refine at_store ⟨?_⟩);refine wl_store aQ rFz evD pQ upD nLz kRz rFz ?_;intro wS hS))
  go_end0
  exact ⟨_,rfl,TabMK.shut (sv:= .slice (some ⟨bk1,0,none⟩) t1.slots.length lc1) Hok2.out His2.out (by have:=Hb1.out;simp only;omega) (hS.sb)⟩
end
section
variable {P:Program}{w0 w:World}{L R:List HProp}{ops:Array Oper}{rest:List Oper}{a:Act}{Q:Exit→Act→World→Prop}{dst:Option Tmp}{t ty e:TypeId}{pos:String}{after:Array Edge}{x y s:Operand}{sz by':Nat}{v v1:Value}
theorem run_slice0 (hb:appB P t e sz by'=true) (w:World):(Instr.buildSlice t 0 #[]).run P w = .ok (.slice (some ⟨w.heap.size,0,none⟩) 0 0) (w.alloc (.cells #[] e)):=by
 obtain ⟨hu,i,z,hi,hz,e1,e2,e3,e4⟩:=appB_spec hb
 have hsz':(sizeOf e).run P w = .ok i.size w:=by simp [sizeOf,typeInfo,hi]
 have hf:Instr.fill (fun i'=>some (i' * i.size,i.size)) ((Array.range 0).map ((#[]:Array Value)[· % (#[]:Array Value).size]!)) []=some #[]:=by unfold Instr.fill;simp
 unfold Instr.buildSlice
 simp only [Sem.run_bind,run_underlying hu,Result.andThen_ok,hsz',Nat.zero_mul,if_neg (show ¬ (0>2^24) by omega),if_pos (show (0:Nat)=0 from rfl),Sem.run_pure,hf]
 simp [newRow,go_sem]
theorem at_slice0 (h:Stop (wpList P ops Q (⟨dst,.buildSlice ty 0 #[],t,pos,after,none⟩::rest) a w)):wpList P ops Q (⟨dst,.buildSlice ty 0 #[],t,pos,after,none⟩::rest) a w:=h.out
theorem wl_slice0 (hb:appB P ty e sz by'=true) (hs:Sat w0 w L)
  (hK:∀ b w',Sat w0 w' (osl e sz (.slice (some ⟨b,0,none⟩) 0 0) []::L)→wpList P ops Q rest (a.put dst (.slice (some ⟨b,0,none⟩) 0 0)) w'):wpList P ops Q (⟨dst,.buildSlice ty 0 #[],t,pos,after,none⟩::rest) a w:=by
 refine wpList_plain rfl fun _ hK'=>?_
 have hS:=hs.alloc (.cells #[] e)
 unfold Oper.wp execOp
 simp only [List.map_toArray,List.map_nil,Sem.run_bind,Sem.run_pure,run_slice0 hb w,Result.andThen_ok]
 exact hK' _ _ (hK _ _ (Sat.osl_of_pt hS (by simp) (Nat.le_refl _) (by simp) dCz (by simp)))
theorem wl_appD (e:TypeId) (sz by':Nat){xs ys:List Value} (hb:appB P ty e sz by'=true) (hs:Sat w0 w L) (hv:a.eval s=v) (hy:a.eval y=v1) (p:Pick (osl e sz v xs) L R) (hrd:rdsl sz v1 ys w) (h1:∀ u∈ys,u.oneCell'=true)
  (h63:xs.length+ys.length≤2147483648) (hby:by'≤65000)
  (hK:∀ v' w',Sat w0 w' (osl e sz v' (xs++ys)::R)→wpList P ops Q rest (a.put dst v') w') :
  wpList P ops Q (⟨dst,.call { callee:= .builtin .append,args:=#[s,y],argTypes:=#[ty,ty] },t,pos,after,none⟩::rest) a w:=by
 obtain ⟨hu,i,z,hi,hz,e1,e2,e3,e4⟩:=appB_spec hb
 subst e2
 refine wpList_append (w0:=w0) rfl s y ty rfl e i z hu hi hz e1 e3 e4 hv hy h1 (hs.pick p) hrd (by unfold maxLen;omega) ?_ fun v' w' hS _=>hK v' w' hS
 calc (xs.length+ys.length) * i.bytes≤2147483648 * 65000:=Nat.mul_le_mul h63 hby
  _≤140737488355328:=by decide
end
section
variable {w0 w:World}{F:List HProp}{p b n c B:Nat}{m:Frm.Bs→Option Seg.Plc}{xs:List Value}
set_option maxRecDepth 20000 in
theorem cloneL_c (h1:∀ u∈xs,u.oneCell'=true) (hl:xs.length≤2147483648) (h:Sat w0 w (osl 98 36 (.slice (some ⟨b,0,none⟩) n c) xs::F)) :
  Calls Tryz.prog 72 #[.slice (some ⟨b,0,none⟩) n c] w (Rtn fun v w'=>Sat w0 w' (osl 98 36 v xs::osl 98 36 (.slice (some ⟨b,0,none⟩) n c) xs::F)):=by
 have H1:=uQ h1;have Hl:=uQ hl
 have he:∀ w,(binOp .eql 99 (.slice (some ⟨b,0,none⟩) n c) (.slice none 0 0)).run Tryz.prog w = .ok (.bool false) w:=fun w=>by first|kernel_rfl|rfl
 clear h1 hl
 go_enter Tryz.func72,Tryz.ntmps72
 go_wp2_with (first
  |((with_reducible refine at_slice0 ⟨?_⟩);refine wl_slice0 (e:=98) (sz:=36) (by':=64) kRz h ?_;intro bN wN hN)
  |(with_reducible apply at_append))
 refine ⟨wl_appD 98 36 64 kRz hN rFz rFz pick0 (Sat.rd hN.drop) H1.out (by have:=Hl.out;simp only [List.length_nil];omega) dCz ?_⟩
 intro v' w' hS
 rw [List.nil_append]at hS
 go_wp2_with fail
 go_ret
 exact ⟨_,rfl,hS⟩
theorem slots_one (s:List (Tab.Slot Seg.Plc)):∀ u∈s.flatMap (slotL penc),u.oneCell'=true:=fun u hu=>by
 obtain ⟨x,_,hx⟩:=List.mem_flatMap.1 hu
 have:=(List.all_eq_true.1 (slotL_ones penc x (penc_ones _))) u hx
 exact this
set_option maxRecDepth 20000 in
theorem copyL_c (hB:B≤14000000) (h:Sat w0 w (TabML p m B::F)) :
  Calls Tryz.prog 37 #[ptr p] w (Rtn fun v w'=>∃ q,v=ptr q∧Sat w0 w' (TabML q m B::TabML p m B::F)):=by
 obtain ⟨t,sv,⟨ok,is,hb⟩,hR⟩:=TabML.open h
 have hsz:t.slots.length≤56000008:=by have:=ok.size;omega
 have Hlen:=uQ (show ∀ x∈t.slots,(slotL penc x).length=36 from fun x hx=>slotL_len penc x (ok.good.key x hx) 3 (penc_len _))
 have Hp0:=uQ ok.good.pos_len
 have Hxl:=uQ (show (t.slots.flatMap (slotL penc)).length=t.slots.length * 36 from (rows_len Hlen.out).trans (Nat.mul_comm _ _))
 obtain ⟨la,lc,rfl⟩:=osl_rows Hlen.out (Sat.rd (hR.pick pick1)) dCz
 obtain ⟨bs,rfl⟩:∃ bs,la=some ⟨bs,0,none⟩:=by
  rcases Sat.osl_cases (hR.pick pick1) with ⟨_,he,_⟩|⟨b,n,cap,cs,he,_⟩
  ·have:=congrArg List.length he
   have:=Hxl.out
   have:=Hp0.out
   simp only [List.length_nil]at *;omega
  ·cases he;exact ⟨b,rfl⟩
 have hok:=okL_c Hp0.out hR
 have Hok:=uQ ok;have His:=uQ is;have Hb:=uQ hb;have Hsz:=uQ hsz
 clear h ok is hb hsz hB
 go_enter Tryz.func37,Tryz.ntmps37
 go_wp2_with fail
 refine hok.mono ?_
 rintro ee w1 ⟨v,rfl,rfl,rfl⟩
 clear hok
 go_wp2_with fail
 have hR1:=hR.drew
 clear hR
 refine wpL_begin [13,14,15] (fun w'=>w'.cell? ⟨p,0,none⟩=some (.slice (some ⟨bs,0,none⟩) t.slots.length lc)∧w'.cell? ⟨p,1,none⟩=some (.int .i64 t.n)∧w'.cell? ⟨p,2,none⟩=some (.int .i64 t.gone)) kRz ?_
 have hG:World.cell? _ ⟨p,0,none⟩=some (.slice (some ⟨bs,0,none⟩) t.slots.length lc)∧World.cell? _ ⟨p,1,none⟩=some (.int .i64 t.n)∧World.cell? _ ⟨p,2,none⟩=some (.int .i64 t.gone):=⟨hR1.cellAt 0 _ rfl,hR1.cellAt 1 _ rfl,hR1.cellAt 2 _ rfl⟩
 refine rP 0 ?_ (y:=mvQ)
 refine rP 1 ?_ (y:=nlQ)
 refine rP 2 ?_ (y:=flQ)
 refine rt 3 (h:=?_)
 refine rP 5 ?_ (y:=mvQ)
 refine rP 6 ?_ (y:=nlQ)
 refine rP 7 ?_ (y:=flQ)
 refine rt 8 (h:=?_)
 refine rP 9 ?_ (y:=mvQ)
 refine rP 10 ?_ (y:=nlQ)
 refine rP 11 ?_ (y:=flQ)
 refine rt 12 (h:=?_)
 clear hG
 refine rg_eff 4 evD kRz (fun K hK=>?_)
 (refine eff_call1 kRz evD ?_)
 refine (cloneL_c (slots_one _) (by rw [Hxl.out];have:=Hsz.out;omega) (hR1.sb:Sat w0 _ (osl 98 36 (.slice (some ⟨bs,0,none⟩) t.slots.length lc) (t.slots.flatMap (slotL penc))::tbPt p 101 (.slice (some ⟨bs,0,none⟩) t.slots.length lc) t.n t.gone::F))).mono ?_
 rintro ee w2 ⟨v,rfl,h2⟩
 refine hK _ _ (.inr (.inl ⟨h2.cellP pick2 0 rfl,h2.cellP pick2 1 rfl,h2.cellP pick2 2 rfl⟩)) ?_
 clear hK hR1
 obtain ⟨a2,c2,rfl⟩:=osl_rows Hlen.out (Sat.rd h2) dCz
 refine rp 13 (hy:=(by (refine Or.inl ⟨by rfl,?_⟩;((intro wq;go_simp);first|done|exact wQ)))) (h:=?_)
 refine rg_eff 14 evD kRz (fun K hK=>?_)
 refine eff_box (cs:=#[.slice a2 t.slots.length c2,.int .i64 t.n,.int .i64 t.gone]) h2 evD evD ?_
 intro q w3 h3
 refine hK _ _ (.inl rfl) ?_
 clear hK h2
 refine rP 15 ?_ (y:=asQ)
 refine wpL_done kRz ?_
 try simp only [ayQ]
 try go_frame
 go_wp2_with fail
 go_ret
 have h4:=TabML.shut Hok.out His.out Hb.out (h3.sb:Sat w0 w3 (tbPt p 101 (.slice (some ⟨bs,0,none⟩) t.slots.length lc) t.n t.gone::osl 98 36 (.slice (some ⟨bs,0,none⟩) t.slots.length lc) (t.slots.flatMap (slotL penc))::tbPt q 101 (.slice a2 t.slots.length c2) t.n t.gone::osl 98 36 (.slice a2 t.slots.length c2) (t.slots.flatMap (slotL penc))::F))
 exact ⟨_,rfl,q,rfl,TabML.shut Hok.out His.out Hb.out (h4.sb)⟩
theorem lenL_c (h:Sat w0 w (TabML p m B::F)) :
  Calls Tryz.prog 32 #[ptr p] w (Rtn fun v w'=>∃ t:Tab.Tb Seg.Plc,(t.Ok∧t.Is m)∧v = .int .i64 t.n∧w=w'):=by
 obtain ⟨t,sv,⟨ok,is,hb⟩,hR⟩:=TabML.open h
 have Hlen:=uQ (show ∀ x∈t.slots,(slotL penc x).length=36 from fun x hx=>slotL_len penc x (ok.good.key x hx) 3 (penc_len _))
 obtain ⟨la,lc,rfl⟩:=osl_rows Hlen.out (Sat.rd (hR.pick pick1)) dCz
 have hok:=okL_c ok.good.pos_len hR
 have e1:w.cell? ⟨p,1,none⟩=some (.int .i64 t.n):=hR.cellAt 1 _ rfl
 have H:=uQ (And.intro ok is)
 clear h ok is hb hR
 go_enter Tryz.func32,Tryz.ntmps32
 go_wp2_with fail
 refine hok.mono ?_
 rintro ee w1 ⟨v,rfl,rfl,rfl⟩
 clear hok
 go_wp2_with fail
 go_ret
 exact ⟨_,rfl,t,H.out,rfl,rfl⟩
end
section
variable {P:Program}{w0 w:World}{F:List HProp}{ops:Array Oper}{rest:List Oper}{a:Act}{Q:Exit→Act→World→Prop}{dst:Option Tmp}{t ty:TypeId}{pos:String}{after:Array Edge}{x:Operand}{v vy:Value}
end
section
variable {w0 w:World}{F:List HProp}{rv lv bv:Value}{p:Nat}
abbrev rowPt (b:Nat) (k:Frm.Bs) (ns:List Int) (nv:Value):HProp:=pt b (.cells (rvL ⟨⟨k,ns⟩,nv⟩).toArray 185 (0,0))
abbrev kndPt (b:Nat) (mg:ByteArray) (kd:Bool) (k:Nat):HProp:=pt b (.cells (kndA mg kd k) 177 (0,0))
end
end Go.Proofs.YtfdchfnmpabogaaGreatDoor
namespace Go.Bok
open Go.Frm (Bs le num le_len num_le)
variable {X:Bs→Nat}{mg:Bs}{kd:Bool}{l:List Rw}{k:Nat}
end Go.Bok
namespace Go.Proofs.YtfdchfnmpabogaaGreatDoor
open Go Go.Sl Go.Med Go.MapKept Go.RowKit
section
variable {P:Program}{w:World}{ops:Array Oper}{a:Act}{dst:Option Tmp}{t ty:TypeId}{pos:String}{after:Array Edge}{x y:Operand}{v vx vy:Value}
end
section
variable {w0 w:World}{F:List HProp}{rv lv bv:Value}{p:Nat}
theorem buses_c (us:List Rep.Use) (hok:Bok.Ok 3 false (us.map Rep.useRw)) (hr:Ro w0 F (rdsl 3 lv (us.flatMap uenc))) (h:Sat w0 w F) :
  Calls Tryz.prog 57 #[lv] w (Rtn fun v w'=>∃ bv,v = .tuple #[bv,errno 0]∧Sat w0 w' (abl bv (Bok.book Xx.sum Bok.mgUse false (us.map Rep.useRw))::F)):=by
 have hn:us.length≤65536:=by have:=hok.len;rwa [List.length_map]at this
 skip
 obtain ⟨la,lc,rfl⟩:=osl_rows (fun u _=>uenc_len u) (hr w h) dCz
 have c1:¬ (65536:Int)<(us.length:Int):=oQ
 have Hr:=uQ hr;have Hok:=uQ hok;have Hn:=uQ hn
 clear hr hok hn
 go_enter Tryz.func57,Tryz.ntmps57
 go_wp2_with fail
 refine (uses_c h).mono ?_
 rintro ee w1 ⟨v,rfl,rfl,h1⟩
 clear h
 go_wp2_with fail
 refine (plainU_c us Hn.out Hr.out h1).mono ?_
 rintro ee w2 ⟨ov,rfl,rs,hrs,h2⟩
 clear h1
 have Hrs:=uQ hrs
 have hkey:∀ r∈rs,r.x.key.length=32∧0<r.x.nums.length:=fun r hr=>by
  have h1:r.x∈us.map Rep.useRw:=by rw [← hrs];exact List.mem_map_of_mem hr
  have:=Hok.out.row r.x h1
  exact ⟨this.key,by rw [this.len];decide⟩
 have Hkey:=uQ hkey
 clear hrs hkey
 go_wp2_with fail
 refine (bwrite_c ⟨#[72,79,65,82,68,85,83,69]⟩ Bok.mgUse rfl rfl false 3 dCz rs (by rw [Hrs.out];exact Hok.out) (fun w hw=>Sat.rd hw) (fun r hr=>(numsS_ro hr (Hkey.out r hr).1 (Hkey.out r hr).2).sub sbD) h2).mono ?_
 rintro ee w3 ⟨v,rfl,bv,rfl,h3⟩
 rw [Hrs.out]at h3
 clear h2
 go_wp2_with fail
 go_ret2
 exact ⟨_,rfl,bv,rfl,h3.sb⟩
theorem bindex_c (us:List (Frm.Bs×Seg.Plc)) (hk:∀ q∈us,q.1.length=32) (hok:Bok.Ok 3 true (us.map Rep.idxRw)) (hr:Ro w0 F (rdsl 35 lv (us.flatMap kvL))) (h:Sat w0 w F) :
  Calls Tryz.prog 55 #[lv] w (Rtn fun v w'=>∃ bv,v = .tuple #[bv,errno 0]∧Sat w0 w' (abl bv (Bok.book Xx.sum Bok.mgIdx true (us.map Rep.idxRw))::F)):=by
 have hn:us.length≤65536:=by have:=hok.len;rwa [List.length_map]at this
 have Hk:=uQ hk
 obtain ⟨la,lc,rfl⟩:=osl_rows (fun u hu=>kvL_len u (Hk.out u hu)) (hr w h) dCz
 have c1:¬ (65536:Int)<(us.length:Int):=oQ
 have Hr:=uQ hr;have Hok:=uQ hok;have Hn:=uQ hn
 clear hr hok hn
 go_enter Tryz.func55,Tryz.ntmps55
 go_wp2_with fail
 refine (index_c h).mono ?_
 rintro ee w1 ⟨v,rfl,rfl,h1⟩
 clear h
 go_wp2_with fail
 refine (plainI_c us Hn.out Hk.out Hr.out h1).mono ?_
 rintro ee w2 ⟨ov,rfl,rs,hrs,h2⟩
 clear h1
 have Hrs:=uQ hrs
 have hkey:∀ r∈rs,r.x.key.length=32∧0<r.x.nums.length:=fun r hr=>by
  have h1:r.x∈us.map Rep.idxRw:=by rw [← hrs];exact List.mem_map_of_mem hr
  have:=Hok.out.row r.x h1
  exact ⟨this.key,by rw [this.len];decide⟩
 have Hkey:=uQ hkey
 clear hrs hkey
 go_wp2_with fail
 refine (bwrite_c ⟨#[72,79,65,82,68,73,68,88]⟩ Bok.mgIdx rfl rfl true 3 dCz rs (by rw [Hrs.out];exact Hok.out) (fun w hw=>Sat.rd hw) (fun r hr=>(numsS_ro hr (Hkey.out r hr).1 (Hkey.out r hr).2).sub sbD) h2).mono ?_
 rintro ee w3 ⟨v,rfl,bv,rfl,h3⟩
 rw [Hrs.out]at h3
 clear h2
 go_wp2_with fail
 go_ret2
 exact ⟨_,rfl,bv,rfl,h3.sb⟩
end
section
variable {w0 w:World}{F:List HProp}{rv lv bv nv:Value}{p:Nat}
theorem run_plc3 (a b c:Int) (w:World):(Instr.build 57 #[(0,.int .i64 a),(1,.int .i64 b),(2,.int .i64 c)]).run Tryz.prog w = .ok (.agg (penc ⟨a,b,c⟩).toArray) w:=by kernel_rfl
end
def bagS (bg:List (Value×List Int)):HProp:=stars (bg.map fun p=>osl 3 1 p.1 (ints p.2))
abbrev planPt (p:Nat) (N:Int) (lv:Value) (kp ip gb:Nat):HProp:=pt p (.cells #[.int .i64 N,lv,ptr kp,ptr ip,.map (some gb)] 108 (0,0))
def KeyOk (mm:Frm.Bs→Option Rep.Kpv) (mk:Frm.Bs→Option Cpt.Kv) (bg:List (Value×List Int)):Prop:=
 ∀ k,∃ a n c,(mm k).getD zwK=⟨a,n,c,(Cpt.kv0 mk k).2⟩∧((.slice a n c,(Cpt.kv0 mk k).1)∈bg∨(Cpt.kv0 mk k).1=[]∧a=none∧n=0∧c=0)
theorem at_reg {P:Program}{ops:Array Oper}{Q:Exit→Act→World→Prop}{a:Act}{w:World}{b:Bool} (id:Nat) (h:Stop ((Code.region id ops b).wp P Q a w)):(Code.region id ops b).wp P Q a w:=h.out
theorem wl_bld3 {P:Program}{ops:Array Oper}{Q:Exit→Act→World→Prop}{rest:List Oper}{a:Act}{w:World}{dst:Option Nat}{ty t:TypeId}{pos:String}{after:Array Edge}{x y z:Operand}{vx vy vz v:Value} (hx:a.eval x=vx) (hy:a.eval y=vy) (hz:a.eval z=vz) (hr:∀ w,(Instr.build ty #[(0,vx),(1,vy),(2,vz)]).run P w = .ok v w) (h:wpList P ops Q rest (a.put dst v) w) :
  wpList P ops Q (⟨dst,.build ty #[(0,x),(1,y),(2,z)],t,pos,after,none⟩::rest) a w:=
 wl_bld (by simp only [List.map_toArray,List.map_cons,List.map_nil,hx,hy,hz]) hr h
section
variable {w0 w:World}{F:List HProp}{bg:List (Value×List Int)}{q:Value×List Int}{mm:Frm.Bs→Option Rep.Kpv}{mk:Frm.Bs→Option Cpt.Kv}{xs:List Value}{iv:Value}
theorem bagS_add (h:Sat w0 w (osl 3 1 q.1 (ints q.2)::bagS bg::F)):Sat w0 w (bagS (q::bg)::F):=Sat.star.2 h
theorem bag_rd (hq:q∈bg) (h:Sat w0 w (bagS bg::F)):rdsl 1 q.1 (ints q.2) w:=by
 obtain ⟨G,hG⟩:=stars_mem (bg.map fun p=>osl 3 1 p.1 (ints p.2)) _ (List.mem_map.2 ⟨q,hq,rfl⟩)
 unfold bagS at h
 rw [hG]at h
 exact Sat.rd (Sat.star.1 h)
theorem KeyOk.new:KeyOk (fun _=>none) (fun _=>none) bg:=fun k=>⟨none,0,0,rfl,.inr ⟨rfl,rfl,rfl,rfl⟩⟩
theorem KeyOk.put {k:Frm.Bs}{a:Option Addr}{n c:Nat}{l:List Int}{pl:Seg.Plc} (h:KeyOk mm mk bg) (hs:(Value.slice a n c,l)∈bg∨l=[]∧a=none∧n=0∧c=0):KeyOk (Tab.put mm k ⟨a,n,c,pl⟩) (Tab.put mk k (l,pl)) bg:=fun j=>by
 unfold Tab.put Cpt.kv0
 by_cases hj:j=k
 ·simp only [if_pos hj,Option.getD_some]
  exact ⟨a,n,c,rfl,hs⟩
 ·simp only [if_neg hj]
  exact h j
theorem KeyOk.more (h:KeyOk mm mk bg):KeyOk mm mk (q::bg):=fun k=>by
 obtain ⟨a,n,c,h1,h2⟩:=h k
 exact ⟨a,n,c,h1,h2.imp (.tail _) id⟩
theorem cloneI_c (h1:∀ u∈xs,u.oneCell'=true) (hl:xs.length≤2147483648) (hr:Ro w0 F (rdsl 1 iv xs)) (h:Sat w0 w F) :
  Calls Tryz.prog 131 #[iv] w (Rtn fun v w'=>Sat w0 w' (osl 3 1 v xs::F)):=by
 have H1:=uQ h1;have Hl:=uQ hl
 obtain ⟨a,n,c,rfl,hn,hcs⟩:=hr w h
 have Hr:=uQ hr
 clear h1 hl hr
 cases a with
 |none=>
  have hx:xs=[]:=by
   cases xs with
   |nil=>rfl
   |cons x xs=>obtain ⟨_,e,_⟩:=hcs 0 x rfl;cases e
  subst hx
  obtain rfl:n=0:=by simp only [List.length_nil]at hn;omega
  have he:∀ w,(binOp .eql 25 (.slice none 0 c) (.slice none 0 0)).run Tryz.prog w = .ok (.bool true) w:=fun w=>by first|kernel_rfl|rfl
  go_enter Tryz.func131,Tryz.ntmps131
  go_wp2_with fail
  go_ret
  exact ⟨_,rfl,Sat.osl_nil.2 h⟩
 |some ad=>
  clear hn hcs
  have he:∀ w,(binOp .eql 25 (.slice (some ad) n c) (.slice none 0 0)).run Tryz.prog w = .ok (.bool false) w:=fun w=>by first|kernel_rfl|rfl
  go_enter Tryz.func131,Tryz.ntmps131
  go_wp2_with (first
   |((with_reducible refine at_slice0 ⟨?_⟩);refine wl_slice0 (e:=3) (sz:=1) (by':=8) kRz h ?_;intro bN wN hN)
   |(with_reducible apply at_append))
  refine ⟨wl_appD 3 1 8 kRz hN rFz rFz pick0 (Hr.out _ hN.drop) H1.out (by have:=Hl.out;simp only [List.length_nil];omega) dCz ?_⟩
  intro v' w' hS
  rw [List.nil_append]at hS
  go_wp2_with fail
  go_ret
  exact ⟨_,rfl,hS.sb⟩
set_option maxRecDepth 20000 in
theorem ctake_c {p kp ip gb B:Nat}{N s:Int}{lv:Value}{f:Frm.Fnd}{da:Option Addr}{dn dc:Nat} (hk:f.e.key.length=32) (hB:B≤13000000) (hko:KeyOk mm mk bg) (hln:∀ k,(Cpt.kv0 mk k).1.length≤1048576)
  (h:Sat w0 w (planPt p N lv kp ip gb::TabMK kp mm B::bagS bg::F)) :
  Calls Tryz.prog 85 #[ptr p,.int .i64 s,.agg (fndA f (.slice da dn dc))] w (Rtn fun _ w'=>∃ mm' bg',KeyOk mm' (Cpt.takeK mk (s,f)) bg'∧Sat w0 w' (planPt p N lv kp ip gb::TabMK kp mm' (B+1)::bagS bg'::F)):=by
 have Hk:=uQ hk;have Hks:=uQ (show (bys f.e.key).length=32 by rw [bys_len,hk]);have HB:=uQ hB
 obtain ⟨ka,kn,kc,hk1,hk2⟩:=hko f.e.key
 have HT:=uQ (fun (w':World) (R:List HProp) (hw:Sat w0 w' (TabMK kp mm B::R))=>getK_c (k:=f.e.key) (Nat.le_trans hB dCz) hk hw)
 rw [hk1]at HT
 have Hkey:=uQ hko
 have Hln:=uQ (hln f.e.key)
 have Hq:=uQ hk2
 generalize (mm f.e.key).isSome=ok at *
 have e0:(fndA f (.slice da dn dc))[0]?=some (.int .i64 f.e.tag):=rfl
 obtain ⟨e34,e35,ekey⟩:=fnd_cell f (.slice da dn dc) hk
 clear hk hB hko hln hk1 hk2
 go_enter Tryz.func85,Tryz.ntmps85
 go_wp2_with (with_reducible apply at_box)
 refine ⟨wl_box h evD evD ?_⟩
 intro b5 w5 h5
 clear h
 have h6:Sat w0 w5.drew (pt b5 (.cells (fndA f (.slice da dn dc)) 113 (0,0))::planPt p N lv kp ip gb::TabMK kp mm B::bagS bg::F):=h5.drew
 clear h5
 go_wp2_with fail
 refine wpL_begin [7,8,9,10,12,13] (fun w'=>w'.cell? ⟨p,2,none⟩=some (.pointer (some ⟨kp,0,none⟩))∧w'.rangeAt b5 1 (bys f.e.key)) kRz ?_
 have hG:World.cell? _ ⟨p,2,none⟩=some (.pointer (some ⟨kp,0,none⟩))∧World.rangeAt _ b5 1 (bys f.e.key):=⟨h6.cellP pick1 2 rfl,fun j v hj=>h6.cellP pick0 (1+j) (ekey j v hj)⟩
 refine rP 0 ?_ (y:=mvQ)
 refine rP 1 ?_ (y:=nlQ)
 refine rP 2 ?_ (y:=flQ)
 refine rt 3 (h:=?_)
 refine rP 4 ?_ (y:=flQ)
 refine rP 5 ?_ (y:=flQ)
 refine rg_take 6 evD kRz i3z (tk_loadN (b:=b5) (o:=1) (bys f.e.key) rFz Tryz.underlying23 rfl (by rw [Hks.out];kernel_rfl) (fun w hw=>hw.2)) aQ gQ ?_
 clear hG
 refine rg_eff2 7 11 evD evD kRz (fun K hK=>?_) (fun K hK=>?_)
 focus
  (refine eff_call2 kRz evD evD ?_)
  refine (HT.out _ _ (h6.sb:Sat w0 _ (TabMK kp mm B::pt b5 (.cells (fndA f (.slice da dn dc)) 113 (0,0))::planPt p N lv kp ip gb::bagS bg::F))).mono ?_
  rintro ee w7 ⟨v,rfl,rfl,h7⟩
  refine hK _ _ (.inl rfl) ?_
  clear hK h6
  refine rP 8 ?_ (y:=mvQ)
  refine rP 9 ?_ (y:=(yl_extract evD rnD))
  refine rP 10 ?_ (y:=(yl_extract evD rnD))
  refine rg_eff 11 evD kRz (fun K hK=>?_)
  refine eff_alloc (zValK) h7 rfl ?_
  intro b6 w8 h8
  refine hK _ _ (.inr (.inl ⟨h8.cellP pick3 2 rfl,fun j v hj=>h8.cellP pick2 (1+j) (ekey j v hj)⟩)) ?_
  clear hK h7
 rotate_left
 focus
  refine eff_alloc (zValK) h6 rfl ?_
  intro b6 w7 h7
  refine hK _ _ (.inr (.inl ⟨h7.cellP pick2 2 rfl,fun j v hj=>h7.cellP pick1 (1+j) (ekey j v hj)⟩)) ?_
  clear hK h6
  refine rg_eff 7 evD kRz (fun K hK=>?_)
  (refine eff_call2 kRz evD evD ?_)
  refine (HT.out _ _ (h7.sb:Sat w0 _ (TabMK kp mm B::pt b6 (.cells (kenc zwK).toArray 154 (0,0))::pt b5 (.cells (fndA f (.slice da dn dc)) 113 (0,0))::planPt p N lv kp ip gb::bagS bg::F))).mono ?_
  rintro ee w8 ⟨v,rfl,rfl,h8'⟩
  refine hK _ _ (.inl rfl) ?_
  clear hK h7
  have h8:Sat w0 w8 (pt b6 (.cells (kenc zwK).toArray 154 (0,0))::TabMK kp mm B::pt b5 (.cells (fndA f (.slice da dn dc)) 113 (0,0))::planPt p N lv kp ip gb::bagS bg::F):=h8'.sb
  clear h8'
  refine rP 8 ?_ (y:=mvQ)
  refine rP 9 ?_ (y:=(yl_extract evD rnD))
  refine rP 10 ?_ (y:=(yl_extract evD rnD))
 all_goals
  refine rg_eff 12 evD kRz (fun K hK=>?_)
  refine eff_store (cs':=(kenc ⟨ka,kn,kc,(Cpt.kv0 mk f.e.key).2⟩).toArray) h8 evD evD rFz upd0 nLz kRz rFz ?_
  intro w9 h9
  refine hK _ _ (.inl rfl) ?_
  clear hK h8
  refine rP 13 ?_ (y:=asQ)
  refine wpL_done kRz ?_
  try simp only [ayQ]
  try go_frame
  have f0:w9.cell? ⟨b5,0,none⟩=some (.int .i64 f.e.tag):=h9.cellP pick2 0 e0
  have f1:w9.cell? ⟨b6,0,none⟩=some (.slice ka kn kc):=h9.cellP pick0 0 rfl
  have f34:w9.cell? ⟨b5,34,none⟩=some (.int .i64 f.at_):=h9.cellP pick2 34 e34
  have f35:w9.cell? ⟨b5,35,none⟩=some (.int .i64 f.size):=h9.cellP pick2 35 e35
  obtain ⟨c,hc⟩:∃ c,(Cpt.kv0 mk f.e.key).1=c:=⟨_,rfl⟩
  rw [hc]at Hq Hln
  have Hc:=uQ hc
  generalize (Cpt.kv0 mk f.e.key).2=pl0 at *
  clear hc HT
  by_cases ht:f.e.tag=0
  rotate_left
  focus
   have hb:(f.e.tag==0)=false:=by rw [beq_eq_false_iff_ne];exact ht
   have hD:=uQ (show ∃ ra rn rc bg2,(KeyOk mm mk bg2∧((Value.slice ra rn rc,Cpt.kseg (Cpt.kv0 mk f.e.key).1 s f.e.tag)∈bg2∨Cpt.kseg (Cpt.kv0 mk f.e.key).1 s f.e.tag=[]∧ra=none∧rn=0∧rc=0))∧Sat w0 _ (pt b6 (.cells (kenc ⟨ra,rn,rc,pl0⟩).toArray 154 (0,0))::TabMK kp mm B::pt b5 (.cells (fndA f (.slice da dn dc)) 113 (0,0))::planPt p N lv kp ip gb::bagS bg2::F) from ⟨ka,kn,kc,bg,⟨Hkey.out,by rw [Hc.out,show Cpt.kseg c s f.e.tag=c from if_neg (fun q=>ht q.1)];exact Hq.out⟩,h9⟩)
   clear ht h9
   repeat (first|go_skip|(with_reducible apply at_reg 4)|go_values|go_guarded|go_step|go_upon)
  rotate_left
  focus
   have hb:(f.e.tag==0)=true:=beq_iff_eq.2 ht
   have Hro:=uQ (show ∀ (w':World) (R:List HProp),Sat w0 w' (bagS bg::R)→rdsl 1 (.slice ka kn kc) (ints c) w' from fun w' R hw=>by
    rcases Hq.out with q|⟨q1,q2,q3,q4⟩
    ·exact bag_rd q hw
    ·rw [q1,q2,q3,q4];exact rdsl_nil 1 0 w')
   have hrd:=Hro.out _ _ (h9.sb:Sat w0 w9 (bagS bg::F))
   by_cases hs:c.getLast?=some s
   focus
    have hD:=uQ (show ∃ ra rn rc bg2,(KeyOk mm mk bg2∧((Value.slice ra rn rc,Cpt.kseg (Cpt.kv0 mk f.e.key).1 s f.e.tag)∈bg2∨Cpt.kseg (Cpt.kv0 mk f.e.key).1 s f.e.tag=[]∧ra=none∧rn=0∧rc=0))∧Sat w0 _ (pt b6 (.cells (kenc ⟨ra,rn,rc,pl0⟩).toArray 154 (0,0))::TabMK kp mm B::pt b5 (.cells (fndA f (.slice da dn dc)) 113 (0,0))::planPt p N lv kp ip gb::bagS bg2::F) from ⟨ka,kn,kc,bg,⟨Hkey.out,by rw [Hc.out,show Cpt.kseg c s f.e.tag=c from if_neg (fun q=>q.2 hs)];exact Hq.out⟩,h9⟩)
    have hpos:0<c.length:=List.length_pos_iff.2 (by intro e;rw [e]at hs;cases hs)
    obtain ⟨bk,off,cc,e,hcell⟩:=ints_cell hrd (show c[c.length - 1]?=some s by rw [← List.getLast?_eq_getElem?];exact hs)
    cases e
    have hne:((c.length:Int)==0)=false:=by rw [beq_eq_false_iff_ne];omega
    have hnq:(s != s)=false:=bne_self_eq_false ..
    have hwl:IntKind.i64.wrap ((c.length:Int) - 1)=((c.length - 1:Nat):Int):=by rw [IntWalk.i64_in _ (by have:=Hln.out;omega)];omega
    have hi0:(0:Int)≤((c.length - 1:Nat):Int):=oQ
    have hi1:((c.length - 1:Nat):Int)<(c.length:Int):=oQ
    have hi2:c.length - 1<c.length:=oQ
    clear ht h9 hrd hs hpos
    repeat (first|go_skip|(with_reducible apply at_reg 4)|go_values|go_guarded|go_step|go_upon)
   rotate_left
   focus
    have Hseg:=uQ (show Cpt.kseg c s f.e.tag=c++[s] from if_pos ⟨ht,hs⟩)
    have Hb6:=uQ h9
    rcases c with _|⟨x,xs⟩
    focus
     obtain ⟨aa,nn,cc,e1,e2,e3⟩:=hrd
     cases e1
     obtain rfl:kn=0:=by unfold ints at e2;rw [List.map_nil,List.length_nil]at e2;omega
     clear ht h9 hs e2 e3
     repeat (first|go_skip|(with_reducible apply at_reg 3)|go_values|go_guarded|go_step|go_upon)
    rotate_left
    focus
     obtain ⟨y,hy⟩:∃ y,(x::xs)[(x::xs).length - 1]?=some y:=⟨_,List.getElem?_eq_getElem (by simp)⟩
     have hys:(y != s)=true:=by
      rw [bne_iff_ne]
      intro e
      rw [e,← List.getLast?_eq_getElem?]at hy
      exact hs hy
     obtain ⟨bk,off,cc,e,hcell⟩:=ints_cell hrd hy
     cases e
     have hpos:0<(x::xs).length:=Nat.succ_pos _
     generalize x::xs=c at *
     have hne:((c.length:Int)==0)=false:=by rw [beq_eq_false_iff_ne];omega
     have hwl:IntKind.i64.wrap ((c.length:Int) - 1)=((c.length - 1:Nat):Int):=by rw [IntWalk.i64_in _ (by have:=Hln.out;omega)];omega
     have hi0:(0:Int)≤((c.length - 1:Nat):Int):=oQ
     have hi1:((c.length - 1:Nat):Int)<(c.length:Int):=oQ
     have hi2:c.length - 1<c.length:=oQ
     clear ht h9 hrd hs hpos hy
     repeat (first|go_skip|(with_reducible apply at_reg 3)|go_values|go_guarded|go_step|go_upon)
    all_goals
     refine ⟨?_⟩
     obtain ⟨c,ka,kn,kc,Hc,Hln,Hseg,Hro,g1,h9⟩:∃ (c:List Int) (ka:Option Addr) (kn kc:Nat),Hid ((Cpt.kv0 mk f.e.key).1=c)∧Hid (c.length≤1048576)∧Hid (Cpt.kseg c s f.e.tag=c++[s])∧Hid (∀ (w':World) (R:List HProp),Sat w0 w' (bagS bg::R)→rdsl 1 (.slice ka kn kc) (ints c) w')∧World.cell? _ ⟨b6,0,none⟩=some (.slice ka kn kc)∧Sat w0 _ (pt b6 (.cells (kenc ⟨ka,kn,kc,pl0⟩).toArray 154 (0,0))::TabMK kp mm B::pt b5 (.cells (fndA f (.slice da dn dc)) 113 (0,0))::planPt p N lv kp ip gb::bagS bg::F):=⟨_,_,_,_,Hc,Hln,Hseg,Hro,f1,Hb6.out⟩
     have Hcl:=uQ (fun (w':World) (G:List HProp) (hw:Sat w0 w' (bagS bg::G))=>cloneI_c (xs:=ints c) (iv:= .slice ka kn kc) (fun u hu=>by unfold ints at hu;obtain ⟨z,_,rfl⟩:=List.mem_map.1 hu;rfl) (by unfold ints;rw [List.length_map];exact Nat.le_trans Hln.out dCz) (fun w2 h2=>Hro.out w2 G h2) hw)
     have Hil:=uQ (show (ints c).length≤2147483648 by unfold ints;rw [List.length_map];exact Nat.le_trans Hln.out dCz)
     clear Hb6 Hro f1
     repeat (first|go_skip|fail|go_values|go_guarded|go_step|go_upon)
     refine (Hcl.out _ _ (h9.sb:Sat w0 _ (bagS bg::pt b6 (.cells (kenc ⟨ka,kn,kc,pl0⟩).toArray 154 (0,0))::TabMK kp mm B::pt b5 (.cells (fndA f (.slice da dn dc)) 113 (0,0))::planPt p N lv kp ip gb::F))).mono ?_
     rintro ee wA ⟨v,rfl,hA⟩
     clear g1 h9
     dsimp only
     repeat (first|go_skip|(with_reducible apply at_build1)|go_values|go_guarded|go_step|go_upon)
     refine ⟨wl_build1 (e:=3) (sz:=1) (by':=8) kRz hA (v:= .int .i64 s) rfl (cs:=#[.int .i64 s]) rfl rfl nLz ?_⟩
     intro bN wN hN
     clear hA
     repeat (first|go_skip|(with_reducible apply at_append)|go_values|go_guarded|go_step|go_upon)
     refine ⟨wl_app 3 1 8 kRz hN rFz rFz pick1 pick0 rfl (Nat.le_refl 1) rfl Hil.out nLz nLz (ys:=ints [s]) rfl ?_⟩
     intro bA nA cA wB hB
     clear hN
     repeat (first|go_skip|(with_reducible apply at_store)|go_values|go_guarded|go_step|go_upon)
     refine ⟨wl_store (cs':=(kenc ⟨some ⟨bA,0,none⟩,nA,cA,pl0⟩).toArray) hB rFz evD rFz (upd_there (upd_there upd0)) nLz kRz rFz ?_⟩
     intro wE hE
     clear hB
     have hD:=uQ (show ∃ ra rn rc bg2,(KeyOk mm mk bg2∧((Value.slice ra rn rc,Cpt.kseg (Cpt.kv0 mk f.e.key).1 s f.e.tag)∈bg2∨Cpt.kseg (Cpt.kv0 mk f.e.key).1 s f.e.tag=[]∧ra=none∧rn=0∧rc=0))∧Sat w0 _ (pt b6 (.cells (kenc ⟨ra,rn,rc,pl0⟩).toArray 154 (0,0))::TabMK kp mm B::pt b5 (.cells (fndA f (.slice da dn dc)) 113 (0,0))::planPt p N lv kp ip gb::bagS bg2::F) from ⟨_,_,_,(Value.slice (some ⟨bA,0,none⟩) nA cA,c++[s])::bg,⟨Hkey.out.more,.inl (by rw [Hc.out,Hseg.out];exact List.mem_cons_self ..)⟩,by
      have h1:Sat w0 wE (osl 3 1 (.slice (some ⟨bA,0,none⟩) nA cA) (ints (c++[s]))::bagS bg::pt b6 (.cells (kenc ⟨some ⟨bA,0,none⟩,nA,cA,pl0⟩).toArray 154 (0,0))::TabMK kp mm B::pt b5 (.cells (fndA f (.slice da dn dc)) 113 (0,0))::planPt p N lv kp ip gb::F):=by
       have e:ints c++ints [s]=ints (c++[s]):=by unfold ints;rw [List.map_append]
       rw [← e]
       exact hE.sb
      exact (bagS_add (q:=(Value.slice (some ⟨bA,0,none⟩) nA cA,c++[s])) h1).sb⟩)
     clear hE
     repeat (first|go_skip|(with_reducible apply at_reg 4)|go_values|go_guarded|go_step|go_upon)
  all_goals
   refine ⟨?_⟩
   obtain ⟨ra,rn,rc,bg2,hq2,hS⟩:=hD.out
   have Hq2:=uQ hq2
   have g34:=hS.cellP pick2 34 e34
   have g35:=hS.cellP pick2 35 e35
   clear hD hq2
   repeat (first|go_skip|(with_reducible apply ug_at_build)|go_values|go_guarded|go_step|go_upon)
   refine ⟨wl_bld3 evD evD evD (fun w=>run_plc3 s f.at_ f.size w) ?_⟩
   repeat (first|go_skip|(with_reducible apply at_store)|go_values|go_guarded|go_step|go_upon)
   refine ⟨wl_store (cs':=(kenc ⟨ra,rn,rc,⟨s,f.at_,f.size⟩⟩).toArray) hS rFz evD rFz upd0 nLz kRz rFz ?_⟩
   intro wS hT
   clear hS g34 g35
   repeat (first|go_skip|(with_reducible apply at_reg 5)|go_values|go_guarded|go_step|go_upon)
   refine ⟨?_⟩
   have hG:World.cell? _ ⟨p,2,none⟩=some (.pointer (some ⟨kp,0,none⟩))∧World.rangeAt _ b5 1 (bys f.e.key)∧World.rangeAt _ b6 0 (kenc ⟨ra,rn,rc,⟨s,f.at_,f.size⟩⟩):=⟨hT.cellP pick3 2 rfl,fun j v hj=>hT.cellP pick2 (1+j) (ekey j v hj),fun j v hj=>hT.cellP pick0 (0+j) (by rw [Nat.zero_add,List.getElem?_toArray];exact hj)⟩
   refine wpL_begin [8] (fun w'=>w'.cell? ⟨p,2,none⟩=some (.pointer (some ⟨kp,0,none⟩))∧w'.rangeAt b5 1 (bys f.e.key)∧w'.rangeAt b6 0 (kenc ⟨ra,rn,rc,⟨s,f.at_,f.size⟩⟩)) kRz ?_
   refine rP 0 ?_ (y:=mvQ)
   refine rP 1 ?_ (y:=nlQ)
   refine rP 2 ?_ (y:=flQ)
   refine rt 3 (h:=?_)
   refine rP 4 ?_ (y:=flQ)
   refine rP 5 ?_ (y:=flQ)
   refine rg_take 6 evD kRz i3z (tk_loadN (b:=b5) (o:=1) (bys f.e.key) rFz Tryz.underlying23 rfl (by rw [Hks.out];kernel_rfl) (fun w hw=>hw.2.1)) aQ gQ ?_
   refine rg_take 7 evD kRz i3z (tk_loadN (b:=b6) (o:=0) (kenc ⟨ra,rn,rc,⟨s,f.at_,f.size⟩⟩) rFz Tryz.underlying154 rfl kRz (fun w hw=>hw.2.2)) aQ gQ ?_
   clear hG
   refine rg_eff 8 evD kRz (fun K hK=>?_)
   (refine eff_call3 kRz evD evD evD ?_)
   refine (putK_c (Nat.le_trans HB.out dCz) Hk.out ⟨ra,rn,rc,⟨s,f.at_,f.size⟩⟩ (hT.drew.sb:Sat w0 _ (TabMK kp mm B::pt b6 (.cells (kenc ⟨ra,rn,rc,⟨s,f.at_,f.size⟩⟩).toArray 154 (0,0))::pt b5 (.cells (fndA f (.slice da dn dc)) 113 (0,0))::planPt p N lv kp ip gb::bagS bg2::F))).mono ?_
   rintro ee wU ⟨v,rfl,hU⟩
   refine hK _ _ (.inl rfl) ?_
   clear hK hT
   refine wpL_done kRz ?_
   go_wp2_with fail
   (try simp only [Exit.inBlock,Exit.then]);refine bodyPost_ret (results_none rfl _ _ _) rfl ?_
   refine ⟨_,rfl,_,_,?_,hU.sb⟩
   have h1:=KeyOk.put (k:=f.e.key) (pl:=⟨s,f.at_,f.size⟩) Hq2.out.1 Hq2.out.2
   exact h1
end
def NR (w0:World) (F:List HProp) (rv:Value):Prop:=rv = .pointer none∨∃ b,rv=ptr b∧∀ w,Sat w0 w F→w.cell? ⟨b,2,none⟩=some (.pointer none)
section
variable {w0 w:World}{F:List HProp}{rv bv:Value}{k:Frm.Bs}{A:HProp}
theorem NR.now (hn:NR w0 F rv) (h:Sat w0 w F):rv = .pointer none∨∃ b,rv=ptr b∧w.cell? ⟨b,2,none⟩=some (.pointer none):=hn.imp id fun ⟨b,e,hc⟩=>⟨b,e,hc w h⟩
theorem rok_c (hn:rv = .pointer none∨∃ b,rv=ptr b∧w.cell? ⟨b,2,none⟩=some (.pointer none)):Calls Tryz.prog 18 #[rv] w (Rtn fun v w'=>v = .bool false∧w=w'):=by
 rcases hn with rfl|⟨b,rfl,e2⟩
 ·go_enter Tryz.func18,Tryz.ntmps18
  go_wp2
  go_ret
  exact ⟨_,rfl,rfl,rfl⟩
 ·go_enter Tryz.func18,Tryz.ntmps18
  go_wp2
  go_ret
  exact ⟨_,rfl,rfl,rfl⟩
theorem nlog_c (hn:NR w0 F rv) (h:Sat w0 w F):Calls Tryz.prog 23 #[rv] w (Rtn fun v w'=>v = .pointer none∧w=w'):=by
 go_enter Tryz.func23,Tryz.ntmps23
 go_wp2_with fail
 refine (rok_c (hn.now h)).mono ?_
 rintro e w2 ⟨v,rfl,rfl,rfl⟩
 go_wp2
 go_ret
 exact ⟨_,rfl,rfl,rfl⟩
end
section
variable {w0 w:World}{F:List HProp}{p q m d K i:Nat}{L:Seg.Log}{M D:Med}{tv:Value}
set_option maxRecDepth 20000 in
theorem drop_c (t:List Int) (htl:t.length≤1048576) (hL:L.Ok) (hM:M.Ok K) (hK:K≤1048576) (hr:Ro w0 F (rdsl 1 tv (ints t))) (h:Sat w0 w (LogRep p m L::MedRep m M::F)) :
  Calls Tryz.prog 36 #[ptr p,tv] w (Rtn fun v w'=>v=errno (Seg.Log.drop t t.length L M).2∧Sat w0 w' (LogRep p m (Seg.Log.drop t t.length L M).1.1::MedRep m (Seg.Log.drop t t.length L M).1.2::F)):=by
 obtain ⟨ta,tc,rfl⟩:=ints_sl (hr w h.drop.drop)
 have Hr:=uQ hr;have Htl:=uQ htl;have HK:=uQ hK
 have w1:IntKind.i64.wrap ((t.length:Int) - 1)=(t.length:Int) - 1:=IntWalk.i64_in _ oQ
 have H0:=uQ (show L.Ok∧M.Ok K from ⟨hL,hM⟩)
 clear hr htl hK hL hM
 go_enter Tryz.func36,Tryz.ntmps36
 go_wp2_with fail
 go_loopg [5] t.length (fun g iq wr=>∃ (k:Nat) (L':Seg.Log) (M':Med),g=0+k∧k≤t.length∧iq = .int .i64 ((k:Int) - 1)∧Seg.Log.drop t t.length L M=Seg.Log.drop t k L' M'∧L'.Ok∧M'.Ok (K+(t.length - k))∧Sat w0 wr (LogRep p m L'::MedRep m M'::F))
 case atStart=>exact ⟨t.length,L,M,(Nat.zero_add _).symm,Nat.le_refl _,rfl,rfl,H0.out.1,H0.out.2.mono (Nat.le_add_right _ _),h⟩
 case round=>
  obtain ⟨k,L',M',rfl,hk,rfl,he,hL,hM,hS⟩:=hrel
  clear h
  cases k with
  |zero=>
   have c1:¬ (((0:Nat):Int) - 1)≥0:=by decide
   have He:=uQ he;have HM:=uQ hM;have HL:=uQ hL
   clear he hL hM hk
   by_cases ht:t=[]
   ·have hb:((t.length:Int)==0)=true:=by rw [ht];rfl
    have Hf:=uQ (Seg.drop_nil (L:=L') (M:=M') ht)
    clear ht
    go_wp2_with fail
    go_ret
    rw [He.out,Hf.out]
    exact ⟨_,rfl,rfl,hS⟩
   ·have hb:((t.length:Int)==0)=false:=by
     rw [beq_eq_false_iff_ne]
     intro e
     exact ht (List.eq_nil_of_length_eq_zero oQ)
    have Hf:=uQ (Seg.drop_end (L:=L') (M:=M') ht)
    clear ht
    go_wp2_with fail
    refine (lsync_c HM.out hS).mono ?_
    rintro ee w2 ⟨v,rfl,rfl,hS2⟩
    clear hS
    go_wp2_with fail
    go_ret
    rw [He.out,Hf.out]
    exact ⟨_,rfl,rfl,hS2⟩
  |succ k=>
   have e1:((k+1:Nat):Int) - 1=(k:Int):=oQ
   rw [e1]
   have c1:(k:Int)≥0:=oQ
   have c2:(k:Int)<(t.length:Int):=oQ
   have w2:IntKind.i64.wrap ((k:Int) - 1)=(k:Int) - 1:=IntWalk.i64_in _ (by have:=Htl.out;omega)
   obtain ⟨s,hs⟩:∃ s,t[k]?=some s:=⟨_,List.getElem?_eq_getElem oQ⟩
   have hgd:t.getD k 0=s:=by rw [List.getD,hs];rfl
   obtain ⟨bk,off,cc,e2,c0⟩:=ints_cell (Hr.out _ hS.drop.drop) hs
   cases e2
   have hrm:=lremove_c hL hM (by have:=HK.out;have:=Htl.out;omega) s hS
   have He:=uQ he;have Hk:=uQ hk
   have hlog:=hL.remove M' s
   have hmed:=Seg.remove_med (L:=L') hM s
   have Hgo:=uQ (fun (h0:(L'.remove M' s).2=0)=>Seg.drop_go (t:=t) (L:=L') (M:=M') (k:=k) (by rw [hgd];exact h0))
   have Hno:=uQ (fun (h0:(L'.remove M' s).2≠0)=>Seg.drop_no (t:=t) (L:=L') (M:=M') (k:=k) (by rw [hgd];exact h0))
   rw [hgd]at Hgo Hno
   clear he hk hs hgd hL hM hS
   generalize L'.remove M' s=r at *
   obtain ⟨⟨L2,M2⟩,e⟩:=r
   dsimp only at hrm hlog hmed Hgo Hno
   have Hlog:=uQ hlog;have Hmed:=uQ hmed
   clear hlog hmed
   go_wp2_with fail
   refine hrm.mono ?_
   rintro ee w3 ⟨v,rfl,rfl,hS3⟩
   clear hrm c0
   by_cases h0:e=0
   ·subst h0
    have Hf:=uQ (Hgo.out rfl)
    go_wp2_with fail
    go_roundg (0+k)
    case measure=>omega
    case rel=>exact ⟨k,L2,M2,rfl,Nat.le_of_succ_le Hk.out,by first|rfl|go_num,He.out.trans Hf.out,Hlog.out,Hmed.out.mono (by have:=Hk.out;omega),hS3⟩
   ·have hb:(e != 0)=true:=by rw [bne_iff_ne];exact h0
    have hb2:(e==0)=false:=by rw [beq_eq_false_iff_ne];exact h0
    have Hf:=uQ (Hno.out h0)
    clear h0
    go_wp2_with fail
    go_ret
    rw [He.out,Hf.out]
    exact ⟨_,rfl,rfl,hS3⟩
end
end Go.Proofs.YtfdchfnmpabogaaGreatDoor
