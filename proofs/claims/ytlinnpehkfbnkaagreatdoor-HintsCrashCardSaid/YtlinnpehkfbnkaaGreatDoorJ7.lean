import Derived.Test.YtlinnpehkfbnkaaGreatDoorJ6
import Derived.Test.YtlinnpehkfbnkaaGreatDoorSort
set_option linter.unusedVariables false
set_option maxHeartbeats 128000000
namespace Go.Proofs.YtlinnpehkfbnkaaGreatDoor
open Go Go.Sl Go.Med Go.MapKept Go.RowKit
abbrev rwA (x:Bok.Rw) (nv:Value):Array Value:=(bys x.key++[nv]).toArray
section
variable {w0 w:World}{F:List HProp}{na nb:Value}
theorem rw_key {x:Bok.Rw}{nv:Value}{j:Nat}{v:Value} (h:(bys x.key)[j]?=some v):(rwA x nv)[j]?=some v:=by
 have hj:j<(bys x.key).length:=by
  rcases Nat.lt_or_ge j (bys x.key).length with k|k
  ·exact k
  ·rw [List.getElem?_eq_none k]at h;cases h
 rw [List.getElem?_toArray,List.getElem?_append_left hj];exact h
theorem rw_nums {x:Bok.Rw}{nv:Value} (hk:x.key.length=32):(rwA x nv)[32]?=some nv:=by
 rw [List.getElem?_toArray,List.getElem?_append_right (by rw [bys_len,hk];exact Nat.le_refl 32),bys_len,hk];rfl
set_option maxRecDepth 20000 in
theorem tless_c (a b:Frm.Bs) (ha:a.length=32) (hb:b.length=32) (h:Sat w0 w F) :
  Calls Tryz.prog 230 #[.agg (bys a).toArray,.agg (bys b).toArray] w (Rtn fun v w'=>v = .bool (decide (a<b))∧Sat w0 w' F):=by
 have He:=uQ (show decide (Lib.compareBytes a b<0)=decide (a<b) from decide_eq_decide.2 (Tab.cmpB_lt a b))
 go_enter Tryz.func230,Tryz.ntmps230
 go_wp2_with (with_reducible apply at_box)
 refine ⟨wl_box h evD evD ?_⟩
 intro b2 w2 h2
 go_wp2_with (with_reducible apply at_box)
 refine ⟨wl_box h2 evD evD ?_⟩
 intro b3 w3 h3
 have hS:=h3.drew
 have r1:rdsl 1 (.slice (some ⟨b2,0,none⟩) 32 32) (bys a) w3.drew:=⟨_,_,_,rfl,by rw [bys_len,ha],fun j z hj=>⟨_,rfl,by rw [adr_add,Nat.zero_add];exact hS.cellP pick1 j (by rw [List.getElem?_toArray];exact hj)⟩⟩
 have r2:rdsl 1 (.slice (some ⟨b3,0,none⟩) 32 32) (bys b) w3.drew:=⟨_,_,_,rfl,by rw [bys_len,hb],fun j z hj=>⟨_,rfl,by rw [adr_add,Nat.zero_add];exact hS.cellP pick0 j (by rw [List.getElem?_toArray];exact hj)⟩⟩
 have hbc:=bcmp_c a b r1 r2
 generalize Lib.compareBytes a b=r at *
 clear h h2 h3 r1 r2 ha hb
 go_wp2_with fail
 have hG:True:=trivial
 refine wpL_begin [] (fun w'=>True) kRz ?_
 refine rp 0 (hy:=(by (refine Or.inl ⟨by rfl,?_⟩;((intro wq;go_simp);first|done|exact wQ)))) (h:=?_)
 refine rp 1 (hy:=(by (refine Or.inl ⟨by rfl,?_⟩;((intro wq;go_simp);first|done|exact wQ)))) (h:=?_)
 refine rg_eff 2 evD kRz (fun K hK=>?_)
 (refine eff_call2 kRz evD evD ?_)
 refine hbc.mono ?_
 rintro e w' ⟨rfl,rfl⟩
 refine hK _ _ (.inr (.inr rfl)) ?_
 clear hK hbc
 refine rP 3 ?_ (y:=bnQ)
 refine rP 4 ?_ (y:=asQ)
 refine wpL_done kRz ?_
 clear hG
 go_wp2_with fail
 go_ret
 exact ⟨_,rfl,by rw [← He.out];rfl,hS.drop.drop⟩
set_option maxRecDepth 20000 in
theorem aheadK_c (mg:ByteArray) (k:Nat) (a b:Bok.Rw) (ha:a.key.length=32) (hb:b.key.length=32) (h:Sat w0 w F) :
  Calls Tryz.prog 204 #[.agg (kndA mg true k),.agg (rwA a na),.agg (rwA b nb)] w (Rtn fun v w'=>v = .bool (decide (Bok.ahead true a b))∧Sat w0 w' F):=by
 have He:=uQ (show decide (Bok.ahead true a b)=decide (a.key<b.key) from decide_eq_decide.2 Iff.rfl)
 have hia:(Tryz.prog.info? 24).map (·.size)=some (bys a.key).length:=by rw [bys_len,ha];kernel_rfl
 have hib:(Tryz.prog.info? 24).map (·.size)=some (bys b.key).length:=by rw [bys_len,hb];kernel_rfl
 have Hl:=uQ (fun (w':World) (R:List HProp) (hw:Sat w0 w' R)=>tless_c a.key b.key ha hb hw)
 clear ha hb
 go_enter Tryz.func204,Tryz.ntmps204
 go_wp2_with (with_reducible apply at_box)
 refine ⟨wl_box h evD evD ?_⟩
 intro b1 w1 h1
 go_wp2_with (with_reducible apply at_box)
 refine ⟨wl_box h1 evD evD ?_⟩
 intro b2 w2 h2
 go_wp2_with (with_reducible apply at_box)
 refine ⟨wl_box h2 evD evD ?_⟩
 intro b3 w3 h3
 clear h h1 h2
 go_wp2_with (first
  |((with_reducible refine at_load ⟨?_⟩);first
   |refine wl_load1 h3 rFz (pick_there pick1) nLz evD kRz ?_
   |refine wl_loadN (o:=0) (bys a.key) h3 rFz pick1 (fun j v hj=>by rw [Nat.zero_add];exact rw_key hj) Tryz.underlying24 rfl hia ?_
   |refine wl_loadN (o:=0) (bys b.key) h3 rFz pick0 (fun j v hj=>by rw [Nat.zero_add];exact rw_key hj) Tryz.underlying24 rfl hib ?_))
 refine (Hl.out _ _ h3).mono ?_
 rintro e w4 ⟨v,rfl,rfl,h4⟩
 clear Hl h3
 go_wp2
 go_ret
 exact ⟨_,rfl,by rw [He.out];rfl,h4.drop.drop.drop⟩
end
structure RV where
 x:Bok.Rw
 nv:Value
def rvL (r:RV):List Value:=bys r.x.key++[r.nv]
structure RVRo (w0:World) (F:List HProp) (r:RV):Prop where
 key:r.x.key.length=32
 rd:Ro w0 F (rdsl 1 r.nv (ints r.x.nums))
 ne:0<r.x.nums.length
section
variable {w0 w:World}{F:List HProp}{lv:Value}
theorem rvL_len (r:RV) (h:r.x.key.length=32):(rvL r).length=33:=by unfold rvL;rw [List.length_append,bys_len,h];rfl
theorem RVRo.sub {r:RV}{G:List HProp} (h:RVRo w0 F r) (k:Sub G F):RVRo w0 G r:=⟨h.key,Ro.of_sub h.rd k,h.ne⟩
theorem nums_cell {nv:Value}{l:List Int} (h:rdsl 1 nv (ints l) w) (hl:0<l.length):∃ bk off c,nv = .slice (some ⟨bk,off,none⟩) l.length c∧w.cell? ⟨bk,off,none⟩=some (.int .i64 (l.getD 0 0)):=by
 have h0:l[0]?=some (l.getD 0 0):=by rw [List.getD_eq_getElem?_getD,List.getElem?_eq_getElem hl];rfl
 obtain ⟨bk,off,cc,hsv,hcell⟩:=osl_row (f:=fun i:Int=>[Value.int .i64 i]) (k:=1) (l:=l) (fun u _=>rfl) (by rw [show ints l=l.flatMap fun i=>[Value.int .i64 i] from by unfold ints;exact List.map_eq_flatMap]at h;exact h) h0 dCz
 have f0:=hcell 0 _ rfl
 rw [Nat.mul_one,Nat.add_zero]at f0
 exact ⟨bk,off,cc,hsv,f0⟩
set_option maxRecDepth 20000 in
theorem aheadU_c (mg:ByteArray) (k:Nat) (a b:RV) (ha:RVRo w0 F a) (hb:RVRo w0 F b) (h:Sat w0 w F) :
  Calls Tryz.prog 204 #[.agg (kndA mg false k),.agg (rwA a.x a.nv),.agg (rwA b.x b.nv)] w (Rtn fun v w'=>v = .bool (decide (Bok.ahead false a.x b.x))∧Sat w0 w' F):=by
 obtain ⟨a,na⟩:=a
 obtain ⟨b,nb⟩:=b
 have He:=uQ (show decide (Bok.ahead false a b)=decide (a.nums.getD 0 0<b.nums.getD 0 0) from decide_eq_decide.2 Iff.rfl)
 have Ha:=uQ ha;have Hb:=uQ hb
 clear ha hb
 go_enter Tryz.func204,Tryz.ntmps204
 go_wp2_with (with_reducible apply at_box)
 refine ⟨wl_box h evD evD ?_⟩
 intro b1 w1 h1
 go_wp2_with (with_reducible apply at_box)
 refine ⟨wl_box h1 evD evD ?_⟩
 intro b2 w2 h2
 go_wp2_with (with_reducible apply at_box)
 refine ⟨wl_box h2 evD evD ?_⟩
 intro b3 w3 h3
 clear h h1 h2
 have hS:=h3.drew
 obtain ⟨ka,oa,ca,e1,f1⟩:=nums_cell (Ha.out.rd _ hS.drop.drop.drop) Ha.out.ne
 obtain ⟨kb,ob,cb,e2,f2⟩:=nums_cell (Hb.out.rd _ hS.drop.drop.drop) Hb.out.ne
 dsimp only at e1 e2 f1 f2
 subst e1 e2
 have hG0:=And.intro (hS.cellP pick1 32 (rw_nums Ha.out.key)) (And.intro f1 (And.intro (hS.cellP pick0 32 (rw_nums Hb.out.key)) f2))
 have Hpa:=uQ Ha.out.ne;have Hpb:=uQ Hb.out.ne
 dsimp only at Hpa Hpb
 clear f1 f2
 generalize a.nums.getD 0 0=X at *
 generalize b.nums.getD 0 0=Y at *
 have q1:(0:Int)<(a.nums.length:Int):=by have:=Hpa.out;omega
 have q2:(0:Int)<(b.nums.length:Int):=by have:=Hpb.out;omega
 have q3:0<a.nums.length:=Hpa.out
 have q4:0<b.nums.length:=Hpb.out
 go_wp2_with ((with_reducible refine at_load ⟨?_⟩);refine wl_load1 h3 rFz (pick_there pick1) nLz evD kRz ?_)
 clear h3
 refine wpL_begin [8,9] (fun w'=>w'.cell? ⟨b2,32,none⟩=some (.slice (some ⟨ka,oa,none⟩) a.nums.length ca)∧w'.cell? ⟨ka,oa,none⟩=some (.int .i64 X)∧w'.cell? ⟨b3,32,none⟩=some (.slice (some ⟨kb,ob,none⟩) b.nums.length cb)∧w'.cell? ⟨kb,ob,none⟩=some (.int .i64 Y)) kRz ?_
 have hG:=hG0
 clear hG0
 refine rP 0 ?_ (y:=flQ)
 refine rt 1 (h:=?_)
 refine rP 2 ?_ (y:=ixQ)
 refine rt 3 (h:=?_)
 refine rP 4 ?_ (y:=flQ)
 refine rt 5 (h:=?_)
 refine rP 6 ?_ (y:=ixQ)
 refine rt 7 (h:=?_)
 clear hG
 refine rP 8 ?_ (y:=bnQ)
 refine rP 9 ?_ (y:=asQ)
 refine wpL_done kRz ?_
 go_wp2_with fail
 go_ret
 exact ⟨_,rfl,by rw [He.out];rfl,hS.drop.drop.drop⟩
theorem ahead_c (mg:ByteArray) (kd:Bool) (k:Nat) (a b:RV) (ha:RVRo w0 F a) (hb:RVRo w0 F b) (h:Sat w0 w F) :
  Calls Tryz.prog 204 #[.agg (kndA mg kd k),.agg (rwA a.x a.nv),.agg (rwA b.x b.nv)] w (Rtn fun v w'=>v = .bool (decide (Bok.ahead kd a.x b.x))∧Sat w0 w' F):=by
 cases kd
 ·exact aheadU_c mg k a b ha hb h
 ·exact aheadK_c mg k a.x b.x ha.key hb.key h
set_option maxRecDepth 20000 in
theorem rises_c (mg:ByteArray) (kd:Bool) (k:Nat) (rs:List RV) (hn:rs.length≤1073741824) (hr:Ro w0 F (rdsl 33 lv (rs.flatMap rvL))) (he:∀ r∈rs,RVRo w0 F r) (h:Sat w0 w F) :
  Calls Tryz.prog 179 #[.agg (kndA mg kd k),lv] w (Rtn fun v w'=>∃ t:Bool,v = .bool t∧(t=true↔Bok.Rises kd (rs.map (·.x)))∧Sat w0 w' F):=by
 obtain ⟨la,lc,rfl⟩:=osl_rows (fun r hr=>rvL_len r (he r hr).key) (hr w h) dCz
 have Hr:=uQ hr;have He:=uQ he;have Hn:=uQ hn
 clear hr he hn
 go_enter Tryz.func179,Tryz.ntmps179
 go_wp2_with (with_reducible apply at_box)
 refine ⟨wl_box h evD evD ?_⟩
 intro b2 w2 h2
 clear h
 go_wp2_with fail
 go_loopg [5] rs.length (fun g iq wr=>∃ m:Nat,g=rs.length - m∧iq = .int .i64 ((m:Int)+1)∧(∀ i a b,i<m→(rs.map (·.x))[i]?=some a→(rs.map (·.x))[i+1]?=some b→Bok.ahead kd a b)∧m≤rs.length∧Sat w0 wr (pt b2 (.cells (kndA mg kd k) 196 (0,0))::F))
 case atStart=>exact ⟨0,rfl,rfl,fun i a b hi=>absurd hi (Nat.not_lt_zero _),Nat.zero_le _,h2⟩
 case round=>
  obtain ⟨m,rfl,rfl,hal,hm,hS⟩:=hrel
  clear h2
  have Hal:=uQ hal
  clear hal
  by_cases hlt:m+1<rs.length
  ·have c1:(m:Int)+1<(rs.length:Int):=by omega
   have c0:(m:Int)<(rs.length:Int):=oQ
   have c2:(0:Int)≤(m:Int)+1:=oQ
   have hw0:IntKind.i64.wrap (m:Int)=(m:Int):=IntWalk.i64_in _ (by have:=Hn.out;omega)
   have hw1:IntKind.i64.wrap ((m:Int)+1 - 1)=(m:Int):=by rw [Int.add_sub_cancel];exact hw0
   have hw2:IntKind.i64.wrap ((m:Int)+1+1)=(m:Int)+1+1:=IntWalk.i64_in _ (by have:=Hn.out;omega)
   obtain ⟨r1,hx1⟩:∃ q,rs[m]?=some q:=⟨_,List.getElem?_eq_getElem oQ⟩
   obtain ⟨r2,hx2⟩:∃ q,rs[m+1]?=some q:=⟨_,List.getElem?_eq_getElem hlt⟩
   have Hx1:=uQ hx1;have Hx2:=uQ hx2
   have H1:=uQ (He.out r1 (List.mem_of_getElem? hx1));have H2:=uQ (He.out r2 (List.mem_of_getElem? hx2))
   have hS1:=hS.drew
   obtain ⟨bk,off,c',hsv,hc1⟩:=osl_row (f:=rvL) (k:=33) (fun r hr=>rvL_len r (He.out r hr).key) (Hr.out _ hS1.drop) hx1 dCz
   cases hsv
   obtain ⟨bk',off',c2',e2,hc2⟩:=osl_row (f:=rvL) (k:=33) (fun r hr=>rvL_len r (He.out r hr).key) (Hr.out _ hS1.drop) hx2 dCz
   cases e2
   have hG0:World.rangeAt _ b2 0 [.string mg,.bool kd,.int .i64 k]∧World.rangeAt _ bk (off+m * 33) (rvL r1)∧World.rangeAt _ bk (off+(m+1) * 33) (rvL r2):=⟨pt_rangeL (l:=[.string mg,.bool kd,.int .i64 k]) hS1,hc1,hc2⟩
   have hah:=ahead_c mg kd k r1 r2 (H1.out.sub sbD) (H2.out.sub sbD) hS1
   have Hlt:=uQ hlt
   clear hx1 hx2 hc1 hc2 hlt hm hS
   by_cases hab:Bok.ahead kd r1.x r2.x
   ·rw [decide_eq_true hab]at hah
    have Hab:=uQ hab
    clear hab
    go_wp2_with fail
    refine wpL_begin [10,11] (fun w'=>w'.rangeAt b2 0 [.string mg,.bool kd,.int .i64 k]∧w'.rangeAt bk (off+m * 33) (rvL r1)∧w'.rangeAt bk (off+(m+1) * 33) (rvL r2)) kRz ?_
    have hG:=hG0
    clear hG0
    refine rg_take 0 evD kRz i3z (tk_loadN (b:=b2) (o:=0) [.string mg,.bool kd,.int .i64 k] rFz Tryz.underlying196 rfl kRz (fun w hw=>hw.1)) aQ gQ ?_
    refine rP 1 ?_ (y:=mvQ)
    refine rP 2 ?_ (y:=mvQ)
    refine rP 3 ?_ (y:=bnQ)
    refine rP 4 ?_ (y:=ixQ)
    refine rg_take 5 evD kRz i3z (tk_loadN (b:=bk) (o:=off+m * 33) (rvL r1) rFz Tryz.underlying202 rfl (by rw [rvL_len _ H1.out.key];kernel_rfl) (fun w hw=>hw.2.1)) aQ gQ ?_
    refine rP 6 ?_ (y:=mvQ)
    refine rP 7 ?_ (y:=mvQ)
    refine rP 8 ?_ (y:=ixQ)
    refine rg_take 9 evD kRz i3z (tk_loadN (b:=bk) (o:=off+(m+1) * 33) (rvL r2) rFz Tryz.underlying202 rfl (by rw [rvL_len _ H2.out.key];kernel_rfl) (fun w hw=>hw.2.2)) aQ gQ ?_
    clear hG
    refine rg_eff 10 evD kRz (fun K hK=>?_)
    (refine eff_call3 kRz evD evD evD ?_)
    refine hah.mono ?_
    rintro ee w9 ⟨v,rfl,rfl,h9⟩
    refine hK _ _ (.inl rfl) ?_
    clear hK hah hS1
    refine rP 11 ?_ (y:=(yl_un evD rnD))
    refine wpL_done kRz ?_
    go_wp2_with fail
    go_roundg (rs.length - (m+1))
    case measure=>have:=Hlt.out;omega
    case rel=>
     refine ⟨m+1,rfl,by first|rfl|go_num,fun i a b hi ha hb=>?_,Nat.le_of_lt Hlt.out,h9⟩
     rcases Nat.lt_succ_iff_lt_or_eq.1 hi with hi|rfl
     ·exact Hal.out i a b hi ha hb
     ·rw [List.getElem?_map,Hx1.out]at ha
      rw [List.getElem?_map,Hx2.out]at hb
      cases ha;cases hb
      exact Hab.out
   ·rw [decide_eq_false hab]at hah
    have Hab:=uQ hab
    clear hab
    go_wp2_with fail
    refine wpL_begin [10,11] (fun w'=>w'.rangeAt b2 0 [.string mg,.bool kd,.int .i64 k]∧w'.rangeAt bk (off+m * 33) (rvL r1)∧w'.rangeAt bk (off+(m+1) * 33) (rvL r2)) kRz ?_
    have hG:=hG0
    clear hG0
    refine rg_take 0 evD kRz i3z (tk_loadN (b:=b2) (o:=0) [.string mg,.bool kd,.int .i64 k] rFz Tryz.underlying196 rfl kRz (fun w hw=>hw.1)) aQ gQ ?_
    refine rP 1 ?_ (y:=mvQ)
    refine rP 2 ?_ (y:=mvQ)
    refine rP 3 ?_ (y:=bnQ)
    refine rP 4 ?_ (y:=ixQ)
    refine rg_take 5 evD kRz i3z (tk_loadN (b:=bk) (o:=off+m * 33) (rvL r1) rFz Tryz.underlying202 rfl (by rw [rvL_len _ H1.out.key];kernel_rfl) (fun w hw=>hw.2.1)) aQ gQ ?_
    refine rP 6 ?_ (y:=mvQ)
    refine rP 7 ?_ (y:=mvQ)
    refine rP 8 ?_ (y:=ixQ)
    refine rg_take 9 evD kRz i3z (tk_loadN (b:=bk) (o:=off+(m+1) * 33) (rvL r2) rFz Tryz.underlying202 rfl (by rw [rvL_len _ H2.out.key];kernel_rfl) (fun w hw=>hw.2.2)) aQ gQ ?_
    clear hG
    refine rg_eff 10 evD kRz (fun K hK=>?_)
    (refine eff_call3 kRz evD evD evD ?_)
    refine hah.mono ?_
    rintro ee w9 ⟨v,rfl,rfl,h9⟩
    refine hK _ _ (.inl rfl) ?_
    clear hK hah hS1
    refine rP 11 ?_ (y:=(yl_un evD rnD))
    refine wpL_done kRz ?_
    go_wp2_with fail
    go_ret
    refine ⟨_,rfl,false,rfl,⟨fun k=>(by cases k),fun k=>absurd (k m r1.x r2.x ?_ ?_) Hab.out⟩,h9.drop⟩
    ·rw [List.getElem?_map,Hx1.out];rfl
    ·rw [List.getElem?_map,Hx2.out];rfl
  ·have c1:¬ (m:Int)+1<(rs.length:Int):=by omega
   have Hlt:=uQ hlt
   clear hlt hm
   go_wp2
   go_ret
   refine ⟨_,rfl,.inr ⟨rfl,fun i a b ha hb=>?_,hS.drop⟩⟩
   have hi:=(List.getElem?_eq_some_iff.1 hb).1
   rw [List.length_map]at hi
   exact Hal.out i a b (by have:=Hlt.out;omega) ha hb
end
section
variable {P:Program}{w0 w:World}{L F:List HProp}{ops:Array Oper}{rest:List Oper}{a:Act}{Q:Exit→Act→World→Prop}{dst:Option Tmp}{t ty:TypeId}{pos:String}{after:Array Edge}{x y s:Operand}{v vx vy:Value}{l m:Bs}
theorem yl_slF (hx:a.eval x=vx) (hy:a.eval y=vy) (hr:∀ w,(Instr.sliceAt ty vx (some vy) none none).run P w = .ok v w):Yields P ops ⟨dst,.slice ty x (some y) none none,t,pos,after,none⟩ v a:=
 .inl ⟨want_none _ rfl,fun w=>by simp only [execOp,hx,hy,Option.map_some,Option.map_none,Sem.run_bind,hr,Result.andThen_ok,Sem.run_pure]⟩
theorem wl_mkB (l c:Nat) (h1:l≤c) (h2:c≤1099511627776) (hs:Sat w0 w L) (hx:a.eval x = .int .i64 l) (hy:a.eval y = .int .i64 c)
  (hK:∀ b w',Sat w0 w' (bsl (.slice (some ⟨b,0,none⟩) l c) (List.replicate l 0)::L)→wpList Tryz.prog ops Q rest (a.put dst (.slice (some ⟨b,0,none⟩) l c)) w') :
  wpList Tryz.prog ops Q (⟨dst,.makeSlice 25 x y,t,pos,after,none⟩::rest) a w:=by
 have hS:=hs.alloc (.cells (madeCells #[.int .u8 0] c) 5)
 refine wpList_plain rfl fun _ hK'=>?_
 unfold Oper.wp execOp
 simp only [hx,hy,make_u8 l c h1 h2,Sem.run_bind,Sem.run_pure,Result.andThen_ok]
 exact hK' _ _ (hK _ _ (made_bsl h1 h2 hS))
theorem at_mkB (h:Stop (wpList P ops Q (⟨dst,.makeSlice ty x y,t,pos,after,none⟩::rest) a w)):wpList P ops Q (⟨dst,.makeSlice ty x y,t,pos,after,none⟩::rest) a w:=h.out
theorem wl_apB (hs:Sat w0 w (bsl v l::F)) (hv:a.eval s=v) (hy:a.eval y=vy) (hx:rdsl 1 vy (bys m) w) (hlen:l.length+m.length≤1099511627776)
  (hK:∀ v' w',Sat w0 w' (bsl v' (l++m)::F)→wpList Tryz.prog ops Q rest (a.put dst v') w') :
  wpList Tryz.prog ops Q (⟨dst,.call { callee:= .builtin .append,args:=#[s,y],argTypes:=#[25,25] },25,pos,after,none⟩::rest) a w:=by
 obtain ⟨i,hi,hz0,hz1,hz2⟩:=info8p
 have h63:(bys l).length+(bys m).length≤maxLen:=by rw [bys_len,bys_len];unfold maxLen;omega
 have hby:((bys l).length+(bys m).length) * i.bytes≤140737488355328:=by rw [bys_len,bys_len,hz2];omega
 refine wpList_append (w0:=w0) rfl s y 25 rfl _ i _ Tryz.underlying25 hi hz0 hz1 rFz oQ hv hy (bys_one _) hs hx h63 hby ?_
 intro v' w' hS hn
 rw [← bys_append]at hS
 exact hK v' w' hS
end
section
variable {w0 w:World}{F:List HProp}{v bv rv:Value}{p n:Nat}{l:Bs}
theorem start5 (n:Nat):∃ x:Nat,IntKind.u64.wrap ((2870177450012600261:Int)+(n:Int))=(x:Int)∧x<18446744073709551616∧(2870177450012600261+n)%18446744073709551616=x:=by
 obtain ⟨x,a,b,c⟩:=start_ex 2870177450012600261 n
 unfold Xx.W at c
 exact ⟨x,(congrArg (fun z=>IntKind.u64.wrap (z+(n:Int))) (show (2870177450012600261:Int)=((2870177450012600261:Nat):Int) from rfl)).trans a,b,c⟩
set_option maxRecDepth 20000 in
theorem hshw_c (hl0:l≠[]) (hl:l.length≤1073741824) (hr:RS w0 F bv l) (h:Sat w0 w (hshPt p Xx.Ln.zero (.slice none 0 0) 0::F)) :
  Calls Tryz.prog 206 #[ptr p,bv] w (Rtn fun _ w'=>∃ rv bA cA,Sat w0 w' (hshPt p (Xx.goL l.length Xx.Ln.zero l).1 rv l.length::bsl (.slice (some ⟨bA,0,none⟩) l.length cA) l::F)∧RS w0 (bsl (.slice (some ⟨bA,0,none⟩) l.length cA) l::F) rv (Xx.goL l.length Xx.Ln.zero l).2):=by
 obtain ⟨ba,bc,rfl,hb1,hb2⟩:=(hr.more (G:=hshPt p Xx.Ln.zero (.slice none 0 0) 0::F) sbD).len h
 have Hr:=uQ hr;have Hl:=uQ hl;have Hl0:=uQ hl0
 have c0:w.cell? ⟨p,0,none⟩=some (.bool true):=h.cellAt 0 _ rfl
 have n1:IntKind.u64.wrap (l.length:Int)=(l.length:Int):=by rw [IntKind.wrap_u64];omega
 have n2:(l.length:Int)%18446744073709551616=(l.length:Int):=oQ
 have n3:IntKind.i64.wrap (l.length:Int)=(l.length:Int):=IntWalk.i64_in _ oQ
 clear hr hl hb1 hb2 hl0
 go_enter Tryz.func206,Tryz.ntmps206
 go_wp2_with (first
  |((with_reducible refine at_load ⟨?_⟩);refine wl_load1 h rFz pick0 nLz evD kRz ?_)
  |(with_reducible apply at_store))
 refine ⟨wl_store (v:= .int .u64 l.length) h rFz rFz rFz upd0 (by exact Nat.le_refl 8) kRz rFz ?_⟩
 intro w1 h1
 have h2:Sat w0 w1 (hshPt p Xx.Ln.zero (.slice none 0 0) l.length::F):=h1
 clear h h1 c0
 go_wp2_with (first
  |((with_reducible refine at_load ⟨?_⟩);refine wl_load1 h2 rFz pick0 nLz evD kRz ?_)
  |(with_reducible apply at_mkB))
 refine ⟨wl_mkB 0 l.length (Nat.zero_le _) (by have:=Hl.out;omega) h2 rFz rFz ?_⟩
 intro bM w3 h3
 go_wp2_with (first
  |((with_reducible refine at_load ⟨?_⟩);refine wl_load1 h3 rFz pick1 nLz evD kRz ?_)
  |(with_reducible apply at_append))
 refine ⟨wl_apB (m:=[]) h3 rFz rFz (rdsl_nil 1 0 _) (by simp) ?_⟩
 intro v4 w4 h4
 go_wp2_with (with_reducible apply at_append)
 refine ⟨wl_apB (m:=l) h4 rFz rFz (Hr.out.rd _ h4.drop.drop) (by simp only [List.replicate,List.append_nil,List.length_nil];have:=Hl.out;omega) ?_⟩
 intro v5 w5 h5
 have h6:Sat w0 w5 (bsl v5 l::hshPt p Xx.Ln.zero (.slice none 0 0) l.length::F):=h5
 clear h2 h3 h4 h5
 obtain ⟨bA,cA,rfl⟩:∃ bA cA,v5 = .slice (some ⟨bA,0,none⟩) l.length cA:=by
  rcases Sat.osl_cases h6 with ⟨_,he,_⟩|⟨b,n,cap,cs,he,k1,_⟩
  ·exfalso
   apply Hl0.out
   have:=congrArg List.length he
   rw [bys_len]at this
   exact List.eq_nil_of_length_eq_zero (by simpa using this)
  ·rw [bys_len,Nat.mul_one]at k1
   subst k1
   exact ⟨b,cap,he⟩
 have h7:Sat w0 w5 (hshPt p Xx.Ln.zero (.slice none 0 0) l.length::bsl (.slice (some ⟨bA,0,none⟩) l.length cA) l::F):=h6.sb
 have Hall:=uQ (show RS w0 (bsl (.slice (some ⟨bA,0,none⟩) l.length cA) l::F) (.slice (some ⟨bA,0,none⟩) l.length cA) l from RS.of_bsl h7.drop)
 clear h6
 go_wp2_with fail
 go_loopg [4] l.length (fun g aq wr=>∃ (ln:Xx.Ln) (m:Bs),g=m.length∧m.length≤l.length∧ln.lt∧RS w0 (bsl (.slice (some ⟨bA,0,none⟩) l.length cA) l::F) aq m∧Xx.goL l.length Xx.Ln.zero l=Xx.goL m.length ln m ∧
  Sat w0 wr (hshPt p ln (.slice none 0 0) l.length::bsl (.slice (some ⟨bA,0,none⟩) l.length cA) l::F))
 case atStart=>exact ⟨Xx.Ln.zero,l,rfl,Nat.le_refl _,Xx.zero_lt,Hall.out,rfl,h7⟩
 case round=>
  obtain ⟨⟨la,lb,lc,ld⟩,m,rfl,hml,hlt,hRS,heq,hS⟩:=hrel
  clear h7 Hall
  by_cases h32:32≤m.length
  ·obtain ⟨a,c,a4,c4,rfl,k1,k2,hrun4,rs4⟩:=cut_from hRS hS.drop h32
   obtain ⟨_,_,a0,c0,he,_,_,run0,rs0⟩:=cut_from hRS hS.drop (k:=0) oQ
   cases he
   obtain ⟨_,_,a1,c1,he,_,_,run1,rs1⟩:=cut_from hRS hS.drop (k:=8) oQ
   cases he
   obtain ⟨_,_,a2,c2,he,_,_,run2,rs2⟩:=cut_from hRS hS.drop (k:=16) oQ
   cases he
   obtain ⟨_,_,a3,c3,he,_,_,run3,rs3⟩:=cut_from hRS hS.drop (k:=24) oQ
   cases he
   have hst:Xx.goL m.length ⟨la,lb,lc,ld⟩ m=Xx.goL (m.drop 32).length (Xx.strip ⟨la,lb,lc,ld⟩ m) (m.drop 32):=by rw [Xx.goL_step h32 (Nat.le_refl _),List.length_drop]
   have hsl:=Xx.strip_lt ⟨la,lb,lc,ld⟩ m
   have hsp:Xx.strip ⟨la,lb,lc,ld⟩ m=⟨Xx.lane la (Frm.num ((m.drop 0).take 8)),Xx.lane lb (Frm.num ((m.drop 8).take 8)),Xx.lane lc (Frm.num ((m.drop 16).take 8)),Xx.lane ld (Frm.num ((m.drop 24).take 8))⟩:=rfl
   obtain ⟨N0,Hn0⟩:∃ N,Hid (Frm.num ((m.drop 0).take 8)=N):=⟨_,uQ rfl⟩
   obtain ⟨N1,Hn1⟩:∃ N,Hid (Frm.num ((m.drop 8).take 8)=N):=⟨_,uQ rfl⟩
   obtain ⟨N2,Hn2⟩:∃ N,Hid (Frm.num ((m.drop 16).take 8)=N):=⟨_,uQ rfl⟩
   obtain ⟨N3,Hn3⟩:∃ N,Hid (Frm.num ((m.drop 24).take 8)=N):=⟨_,uQ rfl⟩
   rw [Hn0.out,Hn1.out,Hn2.out,Hn3.out]at hsp
   obtain ⟨n0,Hl0'⟩:∃ N,Hid (Xx.lane la N0=N):=⟨_,uQ rfl⟩
   obtain ⟨n1',Hl1'⟩:∃ N,Hid (Xx.lane lb N1=N):=⟨_,uQ rfl⟩
   obtain ⟨n2',Hl2'⟩:∃ N,Hid (Xx.lane lc N2=N):=⟨_,uQ rfl⟩
   obtain ⟨n3',Hl3'⟩:∃ N,Hid (Xx.lane ld N3=N):=⟨_,uQ rfl⟩
   rw [Hl0'.out,Hl1'.out,Hl2'.out,Hl3'.out]at hsp
   rw [hsp]at hst hsl
   have Hst:=uQ (heq.trans hst);have Hsl:=uQ hsl;have Hrs4:=uQ rs4;have H32:=uQ h32
   have Hll:=uQ (show (m.drop 32).length<m.length∧(m.drop 32).length≤l.length by rw [List.length_drop];omega)
   replace rs0:=uQ rs0
   replace rs1:=uQ rs1
   replace rs2:=uQ rs2
   replace rs3:=uQ rs3
   replace run0:=uQ run0
   replace run1:=uQ run1
   replace run2:=uQ run2
   replace run3:=uQ run3
   have Hrun4:=uQ hrun4
   have cc:(32:Int)≤(m.length:Int):=oQ
   clear hst hsl hsp heq hRS rs4 hlt hml k1 k2 h32 hrun4
   go_wp2_with fail
   go_loopg [45] 4 (fun g iq wr=>∃ (i:Nat),g=4 - i∧i≤4∧iq = .int .i64 i∧Sat w0 wr ((match i with|0=>hshPt p ⟨la,lb,lc,ld⟩ (.slice none 0 0) l.length|1=>hshPt p ⟨n0,lb,lc,ld⟩ (.slice none 0 0) l.length|2=>hshPt p ⟨n0,n1',lc,ld⟩ (.slice none 0 0) l.length|3=>hshPt p ⟨n0,n1',n2',ld⟩ (.slice none 0 0) l.length|_=>hshPt p ⟨n0,n1',n2',n3'⟩ (.slice none 0 0) l.length)::bsl (.slice (some ⟨bA,0,none⟩) l.length cA) l::F))
   case atStart=>exact ⟨0,rfl,by omega,rfl,hS⟩
   case round=>
    obtain ⟨i,rfl,hi,rfl,hSi⟩:=hrel
    clear hS
    obtain rfl|rfl|rfl|rfl|rfl:i=0∨i=1∨i=2∨i=3∨i=4:=by omega
    ·have hw1:(8:Int) * 0=0:=by decide
     have hw2:IntKind.i64.wrap (0:Int)=(0:Int):=by decide
     have HG:=uQ (fun (w:World) (R:List HProp) (hS:Sat w0 w (hshPt p ⟨la,lb,lc,ld⟩ (.slice none 0 0) l.length::R))=>show w.cell? ⟨p,2,none⟩=some (.int .u64 la) from hS.cellAt 2 _ rfl)
     go_wp2_with fail
     have hS1:=hSi.drew
     clear hSi
     refine wpL_begin [13,16,17] (fun w'=>w'.cell? ⟨p,2,none⟩=some (.int .u64 la)) kRz ?_
     have hG:=HG.out _ _ hS1
     refine rP 0 ?_ (y:=mvQ)
     refine rP 1 ?_ (y:=mvQ)
     refine rP 2 ?_ (y:=mvQ)
     refine rP 3 ?_ (y:=mvQ)
     refine rP 4 ?_ (y:=nlQ)
     refine rP 5 ?_ (y:=flQ)
     refine rP 6 ?_ (y:=ixQ)
     refine rt 7 (h:=?_)
     refine rP 8 ?_ (y:=mvQ)
     refine rP 9 ?_ (y:=mvQ)
     refine rP 10 ?_ (y:=bnQ)
     refine rP 11 ?_ (y:=(yl_slF evD (by go_simp;first|done|rfl) run0.out))
     refine rP 14 ?_ (y:=nlQ)
     refine rP 15 ?_ (y:=flQ)
     clear hG
     refine rg_eff 12 evD kRz (fun K hK=>?_)
     (refine eff_call1 kRz evD ?_)
     refine (word_c (m.drop 0) (by rw [List.length_drop];have:=H32.out;omega) (rs0.out.more sbD) hS1).mono ?_
     rintro ee w12 ⟨v,rfl,rfl,rfl⟩
     refine hK _ _ (.inr (.inr rfl)) ?_
     clear hK
     rw [Hn0.out]
     refine rg_eff 13 evD kRz (fun K hK=>?_)
     (refine eff_call2 kRz evD evD ?_)
     refine (lane_c la N0 hS1).mono ?_
     rintro ee w13 ⟨v,rfl,rfl,h13⟩
     refine hK _ _ (.inl rfl) ?_
     clear hK hS1
     rw [Hl0'.out]
     refine rP 16 ?_ (y:=ixQ)
     refine rg_eff 17 evD kRz (fun K hK=>?_)
     refine eff_store (v:= .int .u64 n0) h13 evD evD rFz upd0 (by exact (by decide:3≤8)) kRz rFz ?_
     intro w17 h17
     refine hK _ _ (.inl rfl) ?_
     clear hK h13
     refine wpL_done kRz ?_
     try simp only [ayQ]
     try go_frame
     have h18:Sat w0 w17 (hshPt p ⟨n0,lb,lc,ld⟩ (.slice none 0 0) l.length::bsl (.slice (some ⟨bA,0,none⟩) l.length cA) l::F):=h17
     clear h17
     go_wp2_with fail
     go_roundg 3
     case measure=>omega
     case rel=>exact ⟨1,rfl,by omega,rfl,h18⟩
    ·have hw1:(8:Int) * 1=8:=by decide
     have hw2:IntKind.i64.wrap (8:Int)=(8:Int):=by decide
     have HG:=uQ (fun (w:World) (R:List HProp) (hS:Sat w0 w (hshPt p ⟨n0,lb,lc,ld⟩ (.slice none 0 0) l.length::R))=>show w.cell? ⟨p,3,none⟩=some (.int .u64 lb) from hS.cellAt 3 _ rfl)
     go_wp2_with fail
     have hS1:=hSi.drew
     clear hSi
     refine wpL_begin [13,16,17] (fun w'=>w'.cell? ⟨p,3,none⟩=some (.int .u64 lb)) kRz ?_
     have hG:=HG.out _ _ hS1
     refine rP 0 ?_ (y:=mvQ)
     refine rP 1 ?_ (y:=mvQ)
     refine rP 2 ?_ (y:=mvQ)
     refine rP 3 ?_ (y:=mvQ)
     refine rP 4 ?_ (y:=nlQ)
     refine rP 5 ?_ (y:=flQ)
     refine rP 6 ?_ (y:=ixQ)
     refine rt 7 (h:=?_)
     refine rP 8 ?_ (y:=mvQ)
     refine rP 9 ?_ (y:=mvQ)
     refine rP 10 ?_ (y:=bnQ)
     refine rP 11 ?_ (y:=(yl_slF evD (by go_simp;first|done|rfl) run1.out))
     refine rP 14 ?_ (y:=nlQ)
     refine rP 15 ?_ (y:=flQ)
     clear hG
     refine rg_eff 12 evD kRz (fun K hK=>?_)
     (refine eff_call1 kRz evD ?_)
     refine (word_c (m.drop 8) (by rw [List.length_drop];have:=H32.out;omega) (rs1.out.more sbD) hS1).mono ?_
     rintro ee w12 ⟨v,rfl,rfl,rfl⟩
     refine hK _ _ (.inr (.inr rfl)) ?_
     clear hK
     rw [Hn1.out]
     refine rg_eff 13 evD kRz (fun K hK=>?_)
     (refine eff_call2 kRz evD evD ?_)
     refine (lane_c lb N1 hS1).mono ?_
     rintro ee w13 ⟨v,rfl,rfl,h13⟩
     refine hK _ _ (.inl rfl) ?_
     clear hK hS1
     rw [Hl1'.out]
     refine rP 16 ?_ (y:=ixQ)
     refine rg_eff 17 evD kRz (fun K hK=>?_)
     refine eff_store (v:= .int .u64 n1') h13 evD evD rFz upd0 (by exact (by decide:4≤8)) kRz rFz ?_
     intro w17 h17
     refine hK _ _ (.inl rfl) ?_
     clear hK h13
     refine wpL_done kRz ?_
     try simp only [ayQ]
     try go_frame
     have h18:Sat w0 w17 (hshPt p ⟨n0,n1',lc,ld⟩ (.slice none 0 0) l.length::bsl (.slice (some ⟨bA,0,none⟩) l.length cA) l::F):=h17
     clear h17
     go_wp2_with fail
     go_roundg 2
     case measure=>omega
     case rel=>exact ⟨2,rfl,by omega,rfl,h18⟩
    ·have hw1:(8:Int) * 2=16:=by decide
     have hw2:IntKind.i64.wrap (16:Int)=(16:Int):=by decide
     have HG:=uQ (fun (w:World) (R:List HProp) (hS:Sat w0 w (hshPt p ⟨n0,n1',lc,ld⟩ (.slice none 0 0) l.length::R))=>show w.cell? ⟨p,4,none⟩=some (.int .u64 lc) from hS.cellAt 4 _ rfl)
     go_wp2_with fail
     have hS1:=hSi.drew
     clear hSi
     refine wpL_begin [13,16,17] (fun w'=>w'.cell? ⟨p,4,none⟩=some (.int .u64 lc)) kRz ?_
     have hG:=HG.out _ _ hS1
     refine rP 0 ?_ (y:=mvQ)
     refine rP 1 ?_ (y:=mvQ)
     refine rP 2 ?_ (y:=mvQ)
     refine rP 3 ?_ (y:=mvQ)
     refine rP 4 ?_ (y:=nlQ)
     refine rP 5 ?_ (y:=flQ)
     refine rP 6 ?_ (y:=ixQ)
     refine rt 7 (h:=?_)
     refine rP 8 ?_ (y:=mvQ)
     refine rP 9 ?_ (y:=mvQ)
     refine rP 10 ?_ (y:=bnQ)
     refine rP 11 ?_ (y:=(yl_slF evD (by go_simp;first|done|rfl) run2.out))
     refine rP 14 ?_ (y:=nlQ)
     refine rP 15 ?_ (y:=flQ)
     clear hG
     refine rg_eff 12 evD kRz (fun K hK=>?_)
     (refine eff_call1 kRz evD ?_)
     refine (word_c (m.drop 16) (by rw [List.length_drop];have:=H32.out;omega) (rs2.out.more sbD) hS1).mono ?_
     rintro ee w12 ⟨v,rfl,rfl,rfl⟩
     refine hK _ _ (.inr (.inr rfl)) ?_
     clear hK
     rw [Hn2.out]
     refine rg_eff 13 evD kRz (fun K hK=>?_)
     (refine eff_call2 kRz evD evD ?_)
     refine (lane_c lc N2 hS1).mono ?_
     rintro ee w13 ⟨v,rfl,rfl,h13⟩
     refine hK _ _ (.inl rfl) ?_
     clear hK hS1
     rw [Hl2'.out]
     refine rP 16 ?_ (y:=ixQ)
     refine rg_eff 17 evD kRz (fun K hK=>?_)
     refine eff_store (v:= .int .u64 n2') h13 evD evD rFz upd0 (by exact (by decide:5≤8)) kRz rFz ?_
     intro w17 h17
     refine hK _ _ (.inl rfl) ?_
     clear hK h13
     refine wpL_done kRz ?_
     try simp only [ayQ]
     try go_frame
     have h18:Sat w0 w17 (hshPt p ⟨n0,n1',n2',ld⟩ (.slice none 0 0) l.length::bsl (.slice (some ⟨bA,0,none⟩) l.length cA) l::F):=h17
     clear h17
     go_wp2_with fail
     go_roundg 1
     case measure=>omega
     case rel=>exact ⟨3,rfl,by omega,rfl,h18⟩
    ·have hw1:(8:Int) * 3=24:=by decide
     have hw2:IntKind.i64.wrap (24:Int)=(24:Int):=by decide
     have HG:=uQ (fun (w:World) (R:List HProp) (hS:Sat w0 w (hshPt p ⟨n0,n1',n2',ld⟩ (.slice none 0 0) l.length::R))=>show w.cell? ⟨p,5,none⟩=some (.int .u64 ld) from hS.cellAt 5 _ rfl)
     go_wp2_with fail
     have hS1:=hSi.drew
     clear hSi
     refine wpL_begin [13,16,17] (fun w'=>w'.cell? ⟨p,5,none⟩=some (.int .u64 ld)) kRz ?_
     have hG:=HG.out _ _ hS1
     refine rP 0 ?_ (y:=mvQ)
     refine rP 1 ?_ (y:=mvQ)
     refine rP 2 ?_ (y:=mvQ)
     refine rP 3 ?_ (y:=mvQ)
     refine rP 4 ?_ (y:=nlQ)
     refine rP 5 ?_ (y:=flQ)
     refine rP 6 ?_ (y:=ixQ)
     refine rt 7 (h:=?_)
     refine rP 8 ?_ (y:=mvQ)
     refine rP 9 ?_ (y:=mvQ)
     refine rP 10 ?_ (y:=bnQ)
     refine rP 11 ?_ (y:=(yl_slF evD (by go_simp;first|done|rfl) run3.out))
     refine rP 14 ?_ (y:=nlQ)
     refine rP 15 ?_ (y:=flQ)
     clear hG
     refine rg_eff 12 evD kRz (fun K hK=>?_)
     (refine eff_call1 kRz evD ?_)
     refine (word_c (m.drop 24) (by rw [List.length_drop];have:=H32.out;omega) (rs3.out.more sbD) hS1).mono ?_
     rintro ee w12 ⟨v,rfl,rfl,rfl⟩
     refine hK _ _ (.inr (.inr rfl)) ?_
     clear hK
     rw [Hn3.out]
     refine rg_eff 13 evD kRz (fun K hK=>?_)
     (refine eff_call2 kRz evD evD ?_)
     refine (lane_c ld N3 hS1).mono ?_
     rintro ee w13 ⟨v,rfl,rfl,h13⟩
     refine hK _ _ (.inl rfl) ?_
     clear hK hS1
     rw [Hl3'.out]
     refine rP 16 ?_ (y:=ixQ)
     refine rg_eff 17 evD kRz (fun K hK=>?_)
     refine eff_store (v:= .int .u64 n3') h13 evD evD rFz upd0 (by exact (by decide:6≤8)) kRz rFz ?_
     intro w17 h17
     refine hK _ _ (.inl rfl) ?_
     clear hK h13
     refine wpL_done kRz ?_
     try simp only [ayQ]
     try go_frame
     have h18:Sat w0 w17 (hshPt p ⟨n0,n1',n2',n3'⟩ (.slice none 0 0) l.length::bsl (.slice (some ⟨bA,0,none⟩) l.length cA) l::F):=h17
     clear h17
     go_wp2_with fail
     go_roundg 0
     case measure=>omega
     case rel=>exact ⟨4,rfl,by omega,rfl,h18⟩
    ·have hS4:Sat w0 wr (hshPt p ⟨n0,n1',n2',n3'⟩ (.slice none 0 0) l.length::bsl (.slice (some ⟨bA,0,none⟩) l.length cA) l::F):=hSi
     clear hSi
     go_wp2_with ((with_reducible refine at_slF ⟨?_⟩);refine wl_slF rFz rFz Hrun4.out ?_)
     go_roundg (m.drop 32).length
     case measure=>exact Hll.out.1
     case rel=>exact ⟨⟨n0,n1',n2',n3'⟩,m.drop 32,rfl,Hll.out.2,Hsl.out,by have k:=Hrs4.out;rw [List.length_drop]at k;exact k,Hst.out,hS4⟩
  ·have hst:=uQ (show Xx.goL l.length Xx.Ln.zero l=(⟨la,lb,lc,ld⟩,m) from heq.trans (Xx.goL_stop h32))
   have HRS:=uQ hRS
   obtain ⟨a,c,rfl,k1,k2⟩:=hRS.len hS.drop
   have cc:¬ (32:Int)≤(m.length:Int):=oQ
   clear heq hlt hml h32 hRS k1 k2
   go_wp2_with ((with_reducible refine at_store ⟨?_⟩);refine wl_store (v:= .slice a m.length c) hS rFz rFz rFz upd0 (by exact Nat.le_succ 7) kRz rFz ?_;intro w9 h9)
   go_end0
   exact ⟨_,rfl,.slice a m.length c,bA,cA,by rw [hst.out];exact h9,by rw [hst.out];exact HRS.out⟩
set_option maxRecDepth 20000 in
theorem hshs_c {ln:Xx.Ln}{m:Bs} (hln:ln.lt) (hn:n≤1073741824) (hm:m.length≤1073741824) (hr:RS w0 F rv m) (h:Sat w0 w (hshPt p ln rv n::F)):Calls Tryz.prog 207 #[ptr p] w (Rtn fun v w'=>v = .int .u64 (Xx.f3 (Xx.f2 (Xx.f1 (Xx.tail (((if 32≤n then Xx.joined ln else 2870177450012600261)+n)%18446744073709551616) m))):Nat)∧Sat w0 w' (hshPt p ln rv n::F)):=by
 obtain ⟨ra,rc,rfl,k1,k2⟩:=(hr.more (G:=hshPt p ln rv n::F) sbD).len h
 have Hr:=uQ (fun (w:World) (x:Nat) (hx:x<18446744073709551616) (hS:Sat w0 w (hshPt p ln (.slice ra m.length rc) n::F))=>xtail_c x hx m hm (hr.more sbD) hS)
 have c0:w.cell? ⟨p,0,none⟩=some (.bool true):=h.cellAt 0 _ rfl
 have Hj:=uQ (fun (w:World) (hS:Sat w0 w (hshPt p ln (.slice ra m.length rc) n::F))=>joined_c hln hS)
 have hHG:=uQ (fun (w:World) (hS:Sat w0 w (hshPt p ln (.slice ra m.length rc) n::F))=>show w.cell? ⟨p,7,none⟩=some (.int .u64 n)∧w.cell? ⟨p,6,none⟩=some (.slice ra m.length rc) from ⟨hS.cellAt 7 _ rfl,hS.cellAt 6 _ rfl⟩)
 have Hn:=uQ hn
 clear hr hm k1 k2 hn
 by_cases h32:32≤n
 ·rw [if_pos h32]
  generalize Xx.joined ln=J at *
  obtain ⟨x,e1,hx,e2⟩:=start_ex J n
  change (J+n)%18446744073709551616=x at e2
  rw [e2]
  have htl:Xx.tail x m<18446744073709551616:=Xx.tail_lt x m (show x<Xx.W from hx)
  have Htl:=uQ (fun (w:World) (hS:Sat w0 w (hshPt p ln (.slice ra m.length rc) n::F))=>Hr.out w x hx hS)
  generalize Xx.tail x m=y at *
  obtain ⟨t1,t2,t3,t4,t5,f1,f2,f3,f4,f5,f6⟩:=fin_ex htl
  have Hf6:=uQ f6;have He1:=uQ e1;have Hf:=uQ (And.intro f1 (And.intro f2 (And.intro f3 (And.intro f4 f5))))
  have ci:(32:Int)≤(n:Int):=oQ
  clear hx htl f6 e1 e2 f1 f2 f3 f4 f5 Hr h32 hln
  go_enter Tryz.func207,Tryz.ntmps207
  go_wp2_with ((with_reducible refine at_load ⟨?_⟩);refine wl_load1 h rFz pick0 nLz evD kRz ?_)
  refine (Hj.out _ h).mono ?_
  rintro ee w1 ⟨v,rfl,rfl,h1⟩
  clear h c0 Hj
  go_wp2_with fail
  have hS:=h1.drew
  clear h1
  refine wpL_begin [10,11] (fun w'=>w'.cell? ⟨p,7,none⟩=some (.int .u64 n)∧w'.cell? ⟨p,6,none⟩=some (.slice ra m.length rc)) kRz ?_
  have hG:=hHG.out _ hS
  refine rP 0 ?_ (y:=mvQ)
  refine rP 1 ?_ (y:=mvQ)
  refine rP 2 ?_ (y:=nlQ)
  refine rP 3 ?_ (y:=flQ)
  refine rt 4 (h:=?_)
  refine rp 5 (hy:=(yl_bin evD evD (by intro wq;have e1:=He1.out;(go_simp);first|done|exact wQ))) (h:=?_)
  refine rP 6 ?_ (y:=mvQ)
  refine rP 7 ?_ (y:=nlQ)
  refine rP 8 ?_ (y:=flQ)
  refine rt 9 (h:=?_)
  clear hG
  refine rg_eff 10 evD kRz (fun K hK=>?_)
  (refine eff_call2 kRz evD evD ?_)
  refine (Htl.out _ hS).mono ?_
  rintro ee w2 ⟨v,rfl,rfl,h2⟩
  refine hK _ _ (.inl rfl) ?_
  clear hK hS Htl
  refine rP 11 ?_ (y:=asQ)
  refine wpL_done kRz ?_
  try simp only [ayQ]
  try go_frame
  obtain ⟨f1,f2,f3,f4,f5⟩:=Hf.out
  go_wp2
  go_ret
  exact ⟨_,rfl,by rw [Hf6.out];rfl,h2⟩
 ·rw [if_neg h32]
  obtain ⟨x,e1,hx,e2⟩:=start5 n
  rw [e2]
  have htl:Xx.tail x m<18446744073709551616:=Xx.tail_lt x m (show x<Xx.W from hx)
  have Htl:=uQ (fun (w:World) (hS:Sat w0 w (hshPt p ln (.slice ra m.length rc) n::F))=>Hr.out w x hx hS)
  generalize Xx.tail x m=y at *
  obtain ⟨t1,t2,t3,t4,t5,f1,f2,f3,f4,f5,f6⟩:=fin_ex htl
  have Hf6:=uQ f6;have He1:=uQ e1;have Hf:=uQ (And.intro f1 (And.intro f2 (And.intro f3 (And.intro f4 f5))))
  have ci:¬ (32:Int)≤(n:Int):=oQ
  clear hx htl f6 e1 e2 f1 f2 f3 f4 f5 Hr h32 hln Hj
  go_enter Tryz.func207,Tryz.ntmps207
  go_wp2_with ((with_reducible refine at_load ⟨?_⟩);refine wl_load1 h rFz pick0 nLz evD kRz ?_)
  have h1:=h
  clear h c0
  go_wp2_with fail
  have hS:=h1.drew
  clear h1
  refine wpL_begin [10,11] (fun w'=>w'.cell? ⟨p,7,none⟩=some (.int .u64 n)∧w'.cell? ⟨p,6,none⟩=some (.slice ra m.length rc)) kRz ?_
  have hG:=hHG.out _ hS
  refine rP 0 ?_ (y:=mvQ)
  refine rP 1 ?_ (y:=mvQ)
  refine rP 2 ?_ (y:=nlQ)
  refine rP 3 ?_ (y:=flQ)
  refine rt 4 (h:=?_)
  refine rp 5 (hy:=(yl_bin evD evD (by intro wq;have e1:=He1.out;(go_simp);first|done|exact wQ))) (h:=?_)
  refine rP 6 ?_ (y:=mvQ)
  refine rP 7 ?_ (y:=nlQ)
  refine rP 8 ?_ (y:=flQ)
  refine rt 9 (h:=?_)
  clear hG
  refine rg_eff 10 evD kRz (fun K hK=>?_)
  (refine eff_call2 kRz evD evD ?_)
  refine (Htl.out _ hS).mono ?_
  rintro ee w2 ⟨v,rfl,rfl,h2⟩
  refine hK _ _ (.inl rfl) ?_
  clear hK hS Htl
  refine rP 11 ?_ (y:=asQ)
  refine wpL_done kRz ?_
  try simp only [ayQ]
  try go_frame
  obtain ⟨f1,f2,f3,f4,f5⟩:=Hf.out
  go_wp2
  go_ret
  exact ⟨_,rfl,by rw [Hf6.out];rfl,h2⟩
theorem xsum_c (hl0:l≠[]) (hl:l.length≤1073741824) (hr:RS w0 F bv l) (h:Sat w0 w F):Calls Tryz.prog 180 #[bv,.int .u64 0] w (Rtn fun v w'=>v = .int .u64 (Xx.sum l:Nat)∧Sat w0 w' F):=by
 obtain ⟨ba,bc,rfl,_,_⟩:=hr.len h
 have Hr:=uQ hr;have Hl:=uQ hl;have Hl0:=uQ hl0
 have Hz:=uQ (show Xx.sum l=Xx.f3 (Xx.f2 (Xx.f1 (Xx.tail (((if 32≤l.length then Xx.joined (Xx.goL l.length Xx.Ln.zero l).1 else 2870177450012600261)+l.length)%18446744073709551616) (Xx.goL l.length Xx.Ln.zero l).2))) from rfl)
 clear hr hl hl0
 go_enter Tryz.func180,Tryz.ntmps180
 go_wp2_with fail
 refine (newh_c h).mono ?_
 rintro ee w1 ⟨v,rfl,p,rfl,h1⟩
 go_wp2_with fail
 refine (hshw_c Hl0.out Hl.out Hr.out h1).mono ?_
 rintro ee w2 ⟨v,rfl,rv,bA,cA,h2,hrs⟩
 have hgl:=Xx.goL_lt l.length Xx.Ln.zero l Xx.zero_lt
 have hlen:(Xx.goL l.length Xx.Ln.zero l).2.length≤1073741824:=Nat.le_trans (Xx.goL_len2 l.length Xx.Ln.zero l) Hl.out
 have hs:=hshs_c hgl Hl.out hlen hrs h2
 rw [← Hz.out]at hs
 clear hgl hlen hrs h h1 h2 Hz
 go_wp2_with fail
 refine hs.mono ?_
 rintro ee w3 ⟨v,rfl,rfl,h3⟩
 clear hs
 go_wp2
 go_ret
 exact ⟨_,rfl,rfl,h3.drop.drop⟩
end
end Go.Proofs.YtlinnpehkfbnkaaGreatDoor
namespace Go.Sl
open Go
section
variable {P:Program}{ops:Array Oper}{Q:Exit→Act→World→Prop}{late:List Nat}{G:World→Prop}{n:Nat}{l:Array Bool}{a:Act}{w:World}{oi oj:Oper}
theorem rg_eff2 (i j:Nat) (hi:ops.toList[i]?=some oi) (hj:ops.toList[j]?=some oj) (hr:Region.ready .any ops l=[i,j])
  (h1:∀ K:Act→World→Prop,(∀ a' w',keeps late G i w w'→wpL P ops Q late G n (l.setIfInBounds i true) a' w'→K a' w') →
   if Region.wanted oi (yielded ops a.tmps)=true then Oper.wp P oi a w K Q else K (a.put oi.dst undef) w)
  (h2:∀ K:Act→World→Prop,(∀ a' w',keeps late G j w w'→wpL P ops Q late G n (l.setIfInBounds j true) a' w'→K a' w') →
   if Region.wanted oj (yielded ops a.tmps)=true then Oper.wp P oj a w K Q else K (a.put oj.dst undef) w):wpL P ops Q late G (n+1) l a w:=by
 rw [Array.getElem?_toList]at hi hj
 refine ⟨(fun h0=>by rw [hr]at h0;cases h0),fun k hk=>?_⟩
 rw [hr]at hk
 have hk2:k=i∨k=j:=by simpa using hk
 rcases hk2 with rfl|rfl
 ·have:=h1 _ (fun a' w' h1 h2=>And.intro h1 h2)
  unfold wpOp
  rw [hi]
  show if Region.wanted oi (yielded ops a.tmps)=true then _ else _
  split
  ·rename_i hw;rw [if_pos hw]at this;exact .inl this
  ·rename_i hw;rw [if_neg hw]at this;exact this
 ·have:=h2 _ (fun a' w' h1 h2=>And.intro h1 h2)
  unfold wpOp
  rw [hj]
  show if Region.wanted oj (yielded ops a.tmps)=true then _ else _
  split
  ·rename_i hw;rw [if_pos hw]at this;exact .inl this
  ·rename_i hw;rw [if_neg hw]at this;exact this
end
end Go.Sl
namespace Go.Proofs.YtlinnpehkfbnkaaGreatDoor
open Go Go.Sl Go.Med Go.MapKept Go.RowKit
section
variable {P:Program}{w0 w:World}{L F:List HProp}{ops:Array Oper}{rest:List Oper}{a:Act}{Q:Exit→Act→World→Prop}{K:Act→World→Prop}{E:Prop}{dst:Option Tmp}{t ty:TypeId}{pos:String}{after:Array Edge}{x y s:Operand}{v vy:Value}{l m:Bs}
theorem wp_appA (hs:Sat w0 w (abl v l::F)) (hv:a.eval s=v) (hy:a.eval y=vy) (hx:rdsl 1 vy (bys m) w) (hm:m≠[]) (hlen:l.length+m.length≤1099511627776) (hK:∀ v' w',Sat w0 w' (abl v' (l++m)::F)→K (a.put dst v') w') :
  Oper.wp Tryz.prog ⟨dst,.call { callee:= .builtin .append,args:=#[s,y],argTypes:=#[25,25] },25,pos,after,none⟩ a w K Q:=by
 obtain ⟨i,hi,hz0,hz1,hz2⟩:=info8p
 have h63:(bys l).length+(bys m).length≤maxLen:=by rw [bys_len,bys_len];unfold maxLen;omega
 have hby:((bys l).length+(bys m).length) * i.bytes≤140737488355328:=by rw [bys_len,bys_len,hz2];omega
 obtain ⟨v',w',hr,hS⟩:=run_appendA (P:=Tryz.prog) 25 25 5 i _ Tryz.underlying25 hi hz0 hz1 rFz oQ (bys_one _) (fun e=>hm (by cases m with|nil=>rfl|cons z r=>cases e)) hs hx h63 hby
 rw [← bys_append]at hS
 unfold Oper.wp execOp
 simp only [resolve,invoke,builtin,Sem.run_bind,Sem.run_pure,Result.andThen_ok,List.map_toArray,List.map_cons,List.map_nil,hv,hy,hr]
 exact hK _ _ hS
theorem eff_appA (hs:Sat w0 w (abl v l::F)) (hv:a.eval s=v) (hy:a.eval y=vy) (hx:rdsl 1 vy (bys m) w) (hm:m≠[]) (hlen:l.length+m.length≤1099511627776) (hK:∀ v' w',Sat w0 w' (abl v' (l++m)::F)→K (a.put dst v') w') :
  if Region.wanted ⟨dst,.call { callee:= .builtin .append,args:=#[s,y],argTypes:=#[25,25] },25,pos,after,none⟩ (yielded ops a.tmps)=true then
   Oper.wp Tryz.prog ⟨dst,.call { callee:= .builtin .append,args:=#[s,y],argTypes:=#[25,25] },25,pos,after,none⟩ a w K Q else E:=eff_of rfl (wp_appA hs hv hy hx hm hlen hK)
theorem wl_appA (hs:Sat w0 w (abl v l::F)) (hv:a.eval s=v) (hy:a.eval y=vy) (hx:rdsl 1 vy (bys m) w) (hm:m≠[]) (hlen:l.length+m.length≤1099511627776) (hK:∀ v' w',Sat w0 w' (abl v' (l++m)::F)→wpList Tryz.prog ops Q rest (a.put dst v') w') :
  wpList Tryz.prog ops Q (⟨dst,.call { callee:= .builtin .append,args:=#[s,y],argTypes:=#[25,25] },25,pos,after,none⟩::rest) a w:=
 wpList_plain rfl fun _ hK'=>wp_appA hs hv hy hx hm hlen fun v' w' h=>hK' _ _ (hK v' w' h)
theorem abl_eq (h:Sat w0 w (abl v l::F)) (e:l=m):Sat w0 w (abl v m::F):=e ▸ h
theorem abl_nil (h:Sat w0 w (abl v l::F)):Sat w0 w (abl v (l++[])::F):=by rw [List.append_nil];exact h
theorem at_sl0 (h:Stop (wpList P ops Q (⟨dst,.slice ty x none none none,t,pos,after,none⟩::rest) a w)):wpList P ops Q (⟨dst,.slice ty x none none none,t,pos,after,none⟩::rest) a w:=h.out
theorem wl_sl0 (hx:a.eval x=v) (hr:∀ w,(Instr.sliceAt ty v none none none).run P w = .ok vy w) (h:wpList P ops Q rest (a.put dst vy) w):wpList P ops Q (⟨dst,.slice ty x none none none,t,pos,after,none⟩::rest) a w:=
 wpList_plain rfl fun _ hK=>by
  unfold Oper.wp execOp
  simp only [hx,Option.map_none,Sem.run_bind,hr,Result.andThen_ok,Sem.run_pure]
  exact hK _ _ h
theorem at_appA (h:Stop (wpList P ops Q (⟨dst,.call { callee:= .builtin .append,args:=#[s,y],argTypes:=#[25,25] },t,pos,after,none⟩::rest) a w)):wpList P ops Q (⟨dst,.call { callee:= .builtin .append,args:=#[s,y],argTypes:=#[25,25] },t,pos,after,none⟩::rest) a w:=h.out
set_option maxRecDepth 20000 in
theorem eff_text (sb:ByteArray) (hl:sb.data.toList=l) (hle:l.length≤1073741824) (hs:Sat w0 w F) (hx:a.eval x = .string sb) (hK:∀ v' w',Sat w0 w' (abl v' l::F)→K (a.put dst v') w') :
  if Region.wanted ⟨dst,.convert 9 25 x,t,pos,after,none⟩ (yielded ops a.tmps)=true then Oper.wp Tryz.prog ⟨dst,.convert 9 25 x,t,pos,after,none⟩ a w K Q else E:=by
 refine eff_of rfl ?_
 have hr:=Lib.run_convert_string_bytes (P:=Tryz.prog) w 9 25 5 sb Tryz.underlying9 Tryz.underlying25 Tryz.underlying5
 unfold Oper.wp execOp
 simp only [hx,Sem.run_bind,hr,Result.andThen_ok,Sem.run_pure]
 exact hK _ _ (asl_text hs 5 sb l hl hle)
theorem RS.of_abl (h:Sat w0 w (abl v l::F)):RS w0 (abl v l::F) v l:=by
 refine ⟨fun w hw=>asl_rd hw,?_⟩
 rcases asl_cases h with h|⟨b,n,cap,cs,m,rfl,hl,hn,hc,hcm,htk,hmk,hp⟩
 ·obtain ⟨a,n,c,e,h1,h2,h3⟩:=bsl_cap' h
  exact ⟨a,n,c,e,h1,h2⟩
 ·exact ⟨_,n,cap,rfl,hn,hcm⟩
end
section
variable {w0 w:World}{F:List HProp}{lv:Value}
theorem rvS (r:RV) (h:r.x.key.length=32):(rvL r).toArray.size=33:=by rw [List.size_toArray];exact rvL_len r h
theorem rvG (r:RV) (h:r.x.key.length=32):(rvL r).toArray.getD 32 undef=r.nv:=by
 rw [Array.getD_eq_getD_getElem?,show (rvL r).toArray[32]?=some r.nv from rw_nums (x:=r.x) (nv:=r.nv) h];rfl
theorem rvOnes {w:World}{r:RV} (h:rdsl 1 r.nv (ints r.x.nums) w):(rvL r).toArray.toList.all (·.oneCell')=true:=by
 obtain ⟨a,n,c,e,_⟩:=h
 unfold rvL
 rw [e]
 rw [List.toList_toArray,List.all_append,bys_ones];rfl
def zeroRV:RV:=⟨⟨Frm.zero32,[]⟩,.slice none 0 0⟩
theorem zBRow:zeroB Tryz.prog 202=some (.agg (rvL zeroRV).toArray):=by kernel_rfl
theorem ints_cellB {w:World}{sv:Value}{l:List Int}{i:Nat}{s:Int} (h:rdsl 1 sv (ints l) w) (hs:l[i]?=some s):∃ bk off c,sv = .slice (some ⟨bk,off,none⟩) l.length c∧w.cell? ⟨bk,off+i,none⟩=some (.int .i64 s):=by
 obtain ⟨bk,off,cc,hsv,hcell⟩:=osl_row (f:=fun i:Int=>[Value.int .i64 i]) (k:=1) (l:=l) (fun u _=>rfl) (by rw [show ints l=l.flatMap fun i=>[Value.int .i64 i] from by unfold ints;exact List.map_eq_flatMap]at h;exact h) hs dCz
 have f0:=hcell 0 _ rfl
 rw [Nat.mul_one,Nat.add_zero]at f0
 exact ⟨bk,off,cc,hsv,f0⟩
theorem ints_slB {w:World}{sv:Value}{l:List Int} (h:rdsl 1 sv (ints l) w):∃ a c,sv = .slice a l.length c:=
 osl_rows (f:=fun i:Int=>[Value.int .i64 i]) (k:=1) (l:=l) (fun u _=>rfl) (by rw [show ints l=l.flatMap fun i=>[Value.int .i64 i] from by unfold ints;exact List.map_eq_flatMap]at h;exact h) dCz
set_option maxRecDepth 20000 in
theorem bwrite_c (mgb:ByteArray) (mg:Bs) (hmb:mgb.data.toList=mg) (hm8:mg.length=8) (kd:Bool) (k:Nat) (hk:k≤3) (rs:List RV) (hok:Bok.Ok k kd (rs.map (·.x))) (hr:Ro w0 F (rdsl 33 lv (rs.flatMap rvL))) (he:∀ r∈rs,RVRo w0 F r) (h:Sat w0 w F) :
  Calls Tryz.prog 123 #[.agg (kndA mgb kd k),lv] w (Rtn fun v w'=>∃ bv,v = .tuple #[bv,errno 0]∧Sat w0 w' (abl bv (Bok.book Xx.sum mg kd (rs.map (·.x)))::F)):=by
 obtain ⟨la,lc,rfl⟩:=osl_rows (fun r hr=>rvL_len r (he r hr).key) (hr w h) dCz
 have hn:rs.length≤65536:=by have:=hok.len;rwa [List.length_map]at this
 have Hr:=uQ hr;have He:=uQ he;have Hn:=uQ hn;have Hok:=uQ hok;have Hmb:=uQ hmb;have Hm8:=uQ hm8
 have c1:¬ (65536:Int)<(rs.length:Int):=oQ
 have c2:IntKind.u64.wrap (rs.length:Int)=(rs.length:Int):=by rw [IntKind.wrap_u64];omega
 clear hr he hn hok hmb hm8
 go_enter Tryz.func123,Tryz.ntmps123
 go_wp2_with (with_reducible apply at_box)
 refine ⟨wl_box h evD evD ?_⟩
 intro b2 w2 hS0
 replace hS0:Sat w0 w2 (pt b2 (.cells (kndA mgb kd k) 196 (0,0))::F):=hS0
 clear h
 go_wp2_with fail
 have hS1:=hS0.drew
 clear hS0
 have hG0:=hS1.cellAt 0 (.string mgb) rfl
 refine wpL_begin [2,7,8] (fun w'=>w'.cell? ⟨b2,0,none⟩=some (.string mgb)) kRz ?_
 have hG:=hG0
 refine rP 0 ?_ (y:=flQ)
 refine rt 1 (h:=?_)
 clear hG
 refine rP 3 ?_ (y:=mvQ)
 refine rP 4 ?_ (y:=(yl_len evD rnD))
 refine rP 5 ?_ (y:=(yl_conv evD rnD))
 refine rg_eff2 2 6 evD evD kRz (fun K hK=>?_) (fun K hK=>?_)
 ·refine eff_text mgb Hmb.out (by rw [Hm8.out];decide) hS1 evD ?_
  intro v16 w3 h3
  refine hK _ _ (.inl rfl) ?_
  clear hK hS1 hG0
  refine rg_eff 6 evD kRz (fun K hK=>?_)
  (refine eff_call2 kRz evD evD ?_)
  refine (put4_c rs.length (by have:=Hn.out;omega) h3).mono ?_
  rintro ee w4 ⟨v,rfl,h4,_⟩
  refine hK _ _ (.inr (.inl ((h4.drop.drop).cellAt 0 (.string mgb) rfl))) ?_
  clear hK h3
  refine rg_eff 7 evD kRz (fun K hK=>?_)
  refine eff_appA (h4.sb:Sat w0 _ (abl v16 mg::bsl v (Frm.le rs.length 4)::pt b2 (.cells (kndA mgb kd k) 196 (0,0))::F)) evD evD (Sat.rd h4) (fun e=>by cases e) (by rw [Hm8.out,Frm.le_len];decide) ?_
  intro v6 w5 h5
  refine hK _ _ (.inl rfl) ?_
  clear hK h4
  refine rP 8 ?_ (y:=asQ)
  refine wpL_done kRz ?_
  try simp only [ayQ]
  try go_frame
  have hB:Sat w0 w5 (abl v6 (mg++Frm.le rs.length 4)::pt b2 (.cells (kndA mgb kd k) 196 (0,0))::F):=h5.sb
  clear h5
  as_aux_lemma=>
   have hX0:=uQ hB
   go_wp2_with fail
   go_loopg [6,24] rs.length (fun g bq iq wr=>∃ (i:Nat) (bv:Value),g=rs.length - i∧i≤rs.length∧bv=bq∧iq = .int .i64 i∧Sat w0 wr (abl bv (mg++Frm.le rs.length 4++Bok.rowsB kd ((rs.map (·.x)).take i))::pt b2 (.cells (kndA mgb kd k) 196 (0,0))::F))
   case atStart=>exact ⟨0,_,rfl,Nat.zero_le _,rfl,rfl,by rw [List.take_zero,Bok.rowsB_nil,List.append_nil];exact hB⟩
   case round=>
    obtain ⟨i,bv,rfl,hi,rfl,rfl,hS⟩:=hrel
    clear hB hX0
    by_cases hlt:i<rs.length
    ·as_aux_lemma=>
     have c3:(i:Int)<(rs.length:Int):=oQ
     have hwi:IntKind.i64.wrap ((i:Int)+1)=(i:Int)+1:=IntWalk.i64_in _ (by have:=Hn.out;omega)
     obtain ⟨r,hx⟩:∃ q,rs[i]?=some q:=⟨_,List.getElem?_eq_getElem hlt⟩
     have H1:=uQ (He.out r (List.mem_of_getElem? hx))
     have Hro:=uQ (Hok.out.row r.x (List.mem_map_of_mem (List.mem_of_getElem? hx)))
     have htk:=Bok.rowsB_take (kd:=kd) (show (rs.map (·.x))[i]?=some r.x by rw [List.getElem?_map,hx];rfl)
     have hXl:(mg++Frm.le rs.length 4++Bok.rowsB kd ((rs.map (·.x)).take i)).length≤3000000:=by
      rw [List.length_append,List.length_append,Hm8.out,Frm.le_len,Bok.rowsB_len _ (fun q hq=>Hok.out.row q (List.mem_of_mem_take hq)),List.length_take,List.length_map]
      have h1:=Hn.out
      have h2:min i rs.length * Bok.rowSz kd k≤65536 * 44:=Nat.mul_le_mul oQ (Bok.rowSz_le hk)
      omega
     obtain ⟨bk,off,c',hsv,hcell⟩:=osl_row (f:=rvL) (k:=33) (fun r hr=>rvL_len r (He.out r hr).key) (Hr.out _ hS.drop.drop) hx dCz
     cases hsv
     have htk2:mg++Frm.le rs.length 4++Bok.rowsB kd ((rs.map (·.x)).take (i+1))=(mg++Frm.le rs.length 4++Bok.rowsB kd ((rs.map (·.x)).take i))++(if kd then r.x.key else [])++Bok.numsB r.x.nums:=by
      rw [htk];unfold Bok.rowB;simp only [List.append_assoc]
     generalize mg++Frm.le rs.length 4++Bok.rowsB kd ((rs.map (·.x)).take i)=X at *
     have Htk0:=uQ htk2;have HX:=uQ hXl;have Hlt:=uQ hlt
     clear hx htk htk2 hXl hlt hi
     go_wp2_with (first
      |((with_reducible refine at_load ⟨?_⟩);refine wl_loadW (b:=bk) (o:=off+i * 33) (rvL r) rFz hcell Tryz.underlying202 rfl (by rw [rvL_len _ H1.out.key];kernel_rfl) ?_)
      |(with_reducible apply at_alloc))
     refine ⟨wl_alloc zBRow hS rfl ?_⟩
     intro b8 w8 h8
     clear hS hcell
     go_wp2_with (with_reducible apply at_store)
     refine ⟨wl_storeA (rvL r).toArray h8 rFz rFz (by rw [rvS _ H1.out.key];rfl) upd0 (by rw [rvS _ H1.out.key];kernel_rfl) (rvOnes (H1.out.rd _ h8.drop.drop.drop)) ?_⟩
     intro w9 h9
     clear h8
     have hgd:(rvL r).toArray.getD 32 undef=r.nv:=rvG _ H1.out.key
     cases kd
     ·have hQ:=abl_nil (h9.pick pick1)
      have Htk:=uQ (show mg++Frm.le rs.length 4++Bok.rowsB false ((rs.map (·.x)).take (i+1))=X++[]++Bok.numsB r.x.nums from Htk0.out)
      have HY:=uQ (show (X++([]:Bs)).length≤3000100 by rw [List.append_nil];have:=HX.out;omega)
      generalize X++([]:Bs)=Y at *
      clear h9 Htk0 HX
      obtain ⟨na,nc,hnv⟩:=ints_slB (H1.out.rd _ (hQ.drop.drop.drop))
      rw [hnv]at hgd
      have Hnv:=uQ hnv
      go_wp2_with ((with_reducible refine at_load ⟨?_⟩);first|refine wl_load1 (o:=32) hQ rFz pick1 (by rw [rvS _ H1.out.key];decide) hgd kRz ?_|refine wl_load1 hQ rFz (pick_there pick1) nLz evD kRz ?_)
      clear hgd
      go_loopg [6,37] r.x.nums.length (fun g bq jq wr=>∃ (j:Nat) (cv:Value),g=r.x.nums.length - j∧j≤r.x.nums.length∧cv=bq∧jq = .int .i64 j∧Sat w0 wr (abl cv (Y++Bok.numsB (r.x.nums.take j))::pt b8 (.cells (rvL r).toArray 202 (0,0))::pt b2 (.cells (kndA mgb false k) 196 (0,0))::F))
      case atStart=>exact ⟨0,_,rfl,Nat.zero_le _,rfl,rfl,by rw [List.take_zero,Bok.numsB_nil,List.append_nil];exact hQ⟩
      case round=>
       obtain ⟨j,cv,rfl,hj,rfl,rfl,hSj⟩:=hrel
       clear hQ
       by_cases hjl:j<r.x.nums.length
       ·obtain ⟨n,hn⟩:∃ n,r.x.nums[j]?=some n:=⟨_,List.getElem?_eq_getElem hjl⟩
        have hnb:=Hro.out.num n (List.mem_of_getElem? hn)
        obtain ⟨bk2,of2,cc2,e2,hcj⟩:=ints_cellB (H1.out.rd _ (hSj.drop.drop.drop)) hn
        rw [Hnv.out]at e2
        cases e2
        have Hnk:=uQ (Bok.numsB_take hn)
        obtain ⟨x,rfl⟩:∃ x:Nat,n=(x:Int):=⟨n.toNat,by omega⟩
        have d1:decide ((x:Int)<0)=false:=by rw [decide_eq_false_iff_not];omega
        have d2:decide ((4294967295:Int)<(x:Int))=false:=by rw [decide_eq_false_iff_not];omega
        have d3:¬ (x:Int)<0:=oQ
        have d4:¬ (4294967295:Int)<(x:Int):=oQ
        have d5:IntKind.u64.wrap (x:Int)=(x:Int):=by rw [IntKind.wrap_u64];omega
        have c4:(j:Int)<(r.x.nums.length:Int):=oQ
        have hwj:IntKind.i64.wrap ((j:Int)+1)=(j:Int)+1:=IntWalk.i64_in _ (by have:=Hro.out.len;omega)
        have Hpu:=uQ (fun (w':World) (R:List HProp) (hw:Sat w0 w' R)=>put4_c x oQ hw)
        have hyl:(Y++Bok.numsB (r.x.nums.take j)).length≤4000000:=by rw [List.length_append,Bok.numsB_len,List.length_take];have:=Hro.out.len;have:=HY.out;omega
        have Hyl:=uQ hyl;have Hjl:=uQ hjl
        clear hn hnb hjl hj hyl
        go_wp2_with fail
        refine (Hpu.out _ _ hSj).mono ?_
        rintro ee w5 ⟨v,rfl,h5,_⟩
        clear Hpu hcj hSj
        go_wp2_with (with_reducible apply at_appA)
        refine ⟨wl_appA (m:=Frm.le x 4) (h5.pick pick1) rFz rFz (Sat.rd h5) (fun e=>by cases e) (by rw [Frm.le_len];have:=Hyl.out;omega) ?_⟩
        intro v6 w6 h6
        go_wp2_with fail
        go_roundg (r.x.nums.length - (j+1))
        case measure=>have:=Hjl.out;omega
        case rel=>exact ⟨j+1,_,rfl,Nat.succ_le_of_lt Hjl.out,rfl,by first|rfl|go_num,by rw [Hnk.out,← List.append_assoc];exact h6.sb⟩
       ·have c4:¬ (j:Int)<(r.x.nums.length:Int):=by omega
        obtain rfl:j=r.x.nums.length:=by omega
        rw [List.take_length]at hSj
        clear hj hjl
        go_wp2_with fail
        go_roundg (rs.length - (i+1))
        case measure=>have:=Hlt.out;omega
        case rel=>exact ⟨i+1,_,rfl,Nat.succ_le_of_lt Hlt.out,rfl,by first|rfl|go_num,by rw [Htk.out];exact hSj.sb⟩
     ·have hrd:rdsl 1 (.slice (some ⟨b8,0,none⟩) 32 32) (bys r.x.key) w9:=⟨_,_,_,rfl,by rw [bys_len,H1.out.key],fun j z hj=>⟨_,rfl,by rw [adr_add,Nat.zero_add];exact h9.cellP pick0 j (rw_key hj)⟩⟩
      have Htk:=uQ (show mg++Frm.le rs.length 4++Bok.rowsB true ((rs.map (·.x)).take (i+1))=X++r.x.key++Bok.numsB r.x.nums from Htk0.out)
      have HY:=uQ (show (X++r.x.key).length≤3000100 by rw [List.length_append,H1.out.key];have:=HX.out;omega)
      have hsl:∀ w,(Instr.sliceAt 24 (.pointer (some ⟨b8,0,none⟩)) none none none).run Tryz.prog w = .ok (.slice (some ⟨b8,0,none⟩) 32 32) w:=fun w=>by kernel_rfl
      go_wp2_with (first
       |((with_reducible refine at_load ⟨?_⟩);refine wl_load1 h9 rFz (pick_there pick1) nLz evD kRz ?_)
       |(with_reducible apply at_sl0))
      refine ⟨wl_sl0 rFz hsl ?_⟩
      refine wl_appA (m:=r.x.key) (h9.pick pick1) rFz rFz hrd (fun e=>by have:=H1.out.key;rw [e]at this;cases this) (by rw [H1.out.key];have:=HX.out;omega) ?_
      intro v33 w10 hQ
      generalize X++r.x.key=Y at *
      clear h9 Htk0 HX hrd
      obtain ⟨na,nc,hnv⟩:=ints_slB (H1.out.rd _ (hQ.drop.drop.drop))
      rw [hnv]at hgd
      have Hnv:=uQ hnv
      go_wp2_with ((with_reducible refine at_load ⟨?_⟩);first|refine wl_load1 (o:=32) hQ rFz pick1 (by rw [rvS _ H1.out.key];decide) hgd kRz ?_|refine wl_load1 hQ rFz (pick_there pick1) nLz evD kRz ?_)
      clear hgd
      go_loopg [6,37] r.x.nums.length (fun g bq jq wr=>∃ (j:Nat) (cv:Value),g=r.x.nums.length - j∧j≤r.x.nums.length∧cv=bq∧jq = .int .i64 j∧Sat w0 wr (abl cv (Y++Bok.numsB (r.x.nums.take j))::pt b8 (.cells (rvL r).toArray 202 (0,0))::pt b2 (.cells (kndA mgb true k) 196 (0,0))::F))
      case atStart=>exact ⟨0,_,rfl,Nat.zero_le _,rfl,rfl,by rw [List.take_zero,Bok.numsB_nil,List.append_nil];exact hQ⟩
      case round=>
       obtain ⟨j,cv,rfl,hj,rfl,rfl,hSj⟩:=hrel
       clear hQ
       by_cases hjl:j<r.x.nums.length
       ·obtain ⟨n,hn⟩:∃ n,r.x.nums[j]?=some n:=⟨_,List.getElem?_eq_getElem hjl⟩
        have hnb:=Hro.out.num n (List.mem_of_getElem? hn)
        obtain ⟨bk2,of2,cc2,e2,hcj⟩:=ints_cellB (H1.out.rd _ (hSj.drop.drop.drop)) hn
        rw [Hnv.out]at e2
        cases e2
        have Hnk:=uQ (Bok.numsB_take hn)
        obtain ⟨x,rfl⟩:∃ x:Nat,n=(x:Int):=⟨n.toNat,by omega⟩
        have d1:decide ((x:Int)<0)=false:=by rw [decide_eq_false_iff_not];omega
        have d2:decide ((4294967295:Int)<(x:Int))=false:=by rw [decide_eq_false_iff_not];omega
        have d3:¬ (x:Int)<0:=oQ
        have d4:¬ (4294967295:Int)<(x:Int):=oQ
        have d5:IntKind.u64.wrap (x:Int)=(x:Int):=by rw [IntKind.wrap_u64];omega
        have c4:(j:Int)<(r.x.nums.length:Int):=oQ
        have hwj:IntKind.i64.wrap ((j:Int)+1)=(j:Int)+1:=IntWalk.i64_in _ (by have:=Hro.out.len;omega)
        have Hpu:=uQ (fun (w':World) (R:List HProp) (hw:Sat w0 w' R)=>put4_c x oQ hw)
        have hyl:(Y++Bok.numsB (r.x.nums.take j)).length≤4000000:=by rw [List.length_append,Bok.numsB_len,List.length_take];have:=Hro.out.len;have:=HY.out;omega
        have Hyl:=uQ hyl;have Hjl:=uQ hjl
        clear hn hnb hjl hj hyl
        go_wp2_with fail
        refine (Hpu.out _ _ hSj).mono ?_
        rintro ee w5 ⟨v,rfl,h5,_⟩
        clear Hpu hcj hSj
        go_wp2_with (with_reducible apply at_appA)
        refine ⟨wl_appA (m:=Frm.le x 4) (h5.pick pick1) rFz rFz (Sat.rd h5) (fun e=>by cases e) (by rw [Frm.le_len];have:=Hyl.out;omega) ?_⟩
        intro v6 w6 h6
        go_wp2_with fail
        go_roundg (r.x.nums.length - (j+1))
        case measure=>have:=Hjl.out;omega
        case rel=>exact ⟨j+1,_,rfl,Nat.succ_le_of_lt Hjl.out,rfl,by first|rfl|go_num,by rw [Hnk.out,← List.append_assoc];exact h6.sb⟩
       ·have c4:¬ (j:Int)<(r.x.nums.length:Int):=by omega
        obtain rfl:j=r.x.nums.length:=by omega
        rw [List.take_length]at hSj
        clear hj hjl
        go_wp2_with fail
        go_roundg (rs.length - (i+1))
        case measure=>have:=Hlt.out;omega
        case rel=>exact ⟨i+1,_,rfl,Nat.succ_le_of_lt Hlt.out,rfl,by first|rfl|go_num,by rw [Htk.out];exact hSj.sb⟩
    ·as_aux_lemma=>
     have c3:¬ (i:Int)<(rs.length:Int):=oQ
     obtain rfl:i=rs.length:=by omega
     have eb:mg++Frm.le rs.length 4++Bok.rowsB kd ((rs.map (·.x)).take rs.length)=Bok.body mg kd (rs.map (·.x)):=by
      unfold Bok.body
      rw [List.take_of_length_le (by rw [List.length_map];exact Nat.le_refl _),List.length_map]
     have hSb:=abl_eq hS eb
     have Hbl:=uQ (Bok.body_le (mg:=mg) Hm8.out hk Hok.out)
     have Hne:=uQ (show Bok.body mg kd (rs.map (·.x))≠[] from fun e=>by
      have:=Bok.body_len (mg:=mg) (kd:=kd) Hm8.out Hok.out.row
      rw [e]at this
      simp only [List.length_nil]at this
      omega)
     have hri:=rises_c mgb kd k rs (by have:=Hn.out;omega) (Ro.os Hr.out) (fun r hr=>(He.out r hr).sub sbD) hSb
     clear hS hi hlt eb
     go_wp2_with ((with_reducible refine at_load ⟨?_⟩);refine wl_loadA hSb rFz pick1 Tryz.underlying196 rfl kRz ?_)
     refine hri.mono ?_
     rintro ee w5 ⟨v,rfl,t,rfl,ht,h5⟩
     obtain rfl:t=true:=ht.2 Hok.out.rise
     clear hri hSb ht
     go_wp2_with fail
     have hxs:=xsum_c Hne.out (by have:=Hbl.out;omega) (RS.of_abl h5) h5
     obtain ⟨S,HS⟩:∃ S,Hid (Xx.sum (Bok.body mg kd (rs.map (·.x)))=S):=⟨_,uQ rfl⟩
     have HSl:=uQ (show S<Xx.W by rw [← HS.out];exact Xx.sum_lt _)
     rw [HS.out]at hxs
     refine hxs.mono ?_
     rintro ee w6 ⟨v,rfl,rfl,h6⟩
     clear h5 hxs
     go_wp2_with fail
     refine (put8_c S HSl.out h6).mono ?_
     rintro ee w7 ⟨v,rfl,h7,_⟩
     clear h6
     go_wp2_with (with_reducible apply at_appA)
     refine ⟨wl_appA (m:=Frm.le S 8) (h7.pick pick1) rFz rFz (Sat.rd h7) (fun e=>by have k:=congrArg List.length e;rw [Frm.le_len]at k;cases k) (by rw [Frm.le_len];have:=Hbl.out;omega) ?_⟩
     intro v8 w8 h8
     have h9:Sat w0 w8 (abl v8 (Bok.book Xx.sum mg kd (rs.map (·.x)))::F):=by unfold Bok.book;rw [HS.out];exact h8.sb
     clear h7 h8
     go_wp2_with fail
     go_ret2
     exact ⟨_,rfl,v8,rfl,h9⟩
 ·(refine eff_call2 kRz evD evD ?_)
  refine (put4_c rs.length (by have:=Hn.out;omega) hS1).mono ?_
  rintro ee w4 ⟨v,rfl,h4,_⟩
  refine hK _ _ (.inr (.inl ((h4.drop).cellAt 0 (.string mgb) rfl))) ?_
  clear hK hS1 hG0
  refine rg_eff 2 evD kRz (fun K hK=>?_)
  refine eff_text mgb Hmb.out (by rw [Hm8.out];decide) h4 evD ?_
  intro v16 w3 h3
  refine hK _ _ (.inl rfl) ?_
  clear hK h4
  refine rg_eff 7 evD kRz (fun K hK=>?_)
  refine eff_appA (h3.sb:Sat w0 _ (abl v16 mg::bsl v (Frm.le rs.length 4)::pt b2 (.cells (kndA mgb kd k) 196 (0,0))::F)) evD evD (Sat.rd h3.drop) (fun e=>by cases e) (by rw [Hm8.out,Frm.le_len];decide) ?_
  intro v6 w5 h5
  refine hK _ _ (.inl rfl) ?_
  clear hK h3
  refine rP 8 ?_ (y:=asQ)
  refine wpL_done kRz ?_
  try simp only [ayQ]
  try go_frame
  have hB:Sat w0 w5 (abl v6 (mg++Frm.le rs.length 4)::pt b2 (.cells (kndA mgb kd k) 196 (0,0))::F):=h5.sb
  clear h5
  as_aux_lemma=>
   have hX0:=uQ hB
   go_wp2_with fail
   go_loopg [6,24] rs.length (fun g bq iq wr=>∃ (i:Nat) (bv:Value),g=rs.length - i∧i≤rs.length∧bv=bq∧iq = .int .i64 i∧Sat w0 wr (abl bv (mg++Frm.le rs.length 4++Bok.rowsB kd ((rs.map (·.x)).take i))::pt b2 (.cells (kndA mgb kd k) 196 (0,0))::F))
   case atStart=>exact ⟨0,_,rfl,Nat.zero_le _,rfl,rfl,by rw [List.take_zero,Bok.rowsB_nil,List.append_nil];exact hB⟩
   case round=>
    obtain ⟨i,bv,rfl,hi,rfl,rfl,hS⟩:=hrel
    clear hB hX0
    by_cases hlt:i<rs.length
    ·as_aux_lemma=>
     have c3:(i:Int)<(rs.length:Int):=oQ
     have hwi:IntKind.i64.wrap ((i:Int)+1)=(i:Int)+1:=IntWalk.i64_in _ (by have:=Hn.out;omega)
     obtain ⟨r,hx⟩:∃ q,rs[i]?=some q:=⟨_,List.getElem?_eq_getElem hlt⟩
     have H1:=uQ (He.out r (List.mem_of_getElem? hx))
     have Hro:=uQ (Hok.out.row r.x (List.mem_map_of_mem (List.mem_of_getElem? hx)))
     have htk:=Bok.rowsB_take (kd:=kd) (show (rs.map (·.x))[i]?=some r.x by rw [List.getElem?_map,hx];rfl)
     have hXl:(mg++Frm.le rs.length 4++Bok.rowsB kd ((rs.map (·.x)).take i)).length≤3000000:=by
      rw [List.length_append,List.length_append,Hm8.out,Frm.le_len,Bok.rowsB_len _ (fun q hq=>Hok.out.row q (List.mem_of_mem_take hq)),List.length_take,List.length_map]
      have h1:=Hn.out
      have h2:min i rs.length * Bok.rowSz kd k≤65536 * 44:=Nat.mul_le_mul oQ (Bok.rowSz_le hk)
      omega
     obtain ⟨bk,off,c',hsv,hcell⟩:=osl_row (f:=rvL) (k:=33) (fun r hr=>rvL_len r (He.out r hr).key) (Hr.out _ hS.drop.drop) hx dCz
     cases hsv
     have htk2:mg++Frm.le rs.length 4++Bok.rowsB kd ((rs.map (·.x)).take (i+1))=(mg++Frm.le rs.length 4++Bok.rowsB kd ((rs.map (·.x)).take i))++(if kd then r.x.key else [])++Bok.numsB r.x.nums:=by
      rw [htk];unfold Bok.rowB;simp only [List.append_assoc]
     generalize mg++Frm.le rs.length 4++Bok.rowsB kd ((rs.map (·.x)).take i)=X at *
     have Htk0:=uQ htk2;have HX:=uQ hXl;have Hlt:=uQ hlt
     clear hx htk htk2 hXl hlt hi
     go_wp2_with (first
      |((with_reducible refine at_load ⟨?_⟩);refine wl_loadW (b:=bk) (o:=off+i * 33) (rvL r) rFz hcell Tryz.underlying202 rfl (by rw [rvL_len _ H1.out.key];kernel_rfl) ?_)
      |(with_reducible apply at_alloc))
     refine ⟨wl_alloc zBRow hS rfl ?_⟩
     intro b8 w8 h8
     clear hS hcell
     go_wp2_with (with_reducible apply at_store)
     refine ⟨wl_storeA (rvL r).toArray h8 rFz rFz (by rw [rvS _ H1.out.key];rfl) upd0 (by rw [rvS _ H1.out.key];kernel_rfl) (rvOnes (H1.out.rd _ h8.drop.drop.drop)) ?_⟩
     intro w9 h9
     clear h8
     have hgd:(rvL r).toArray.getD 32 undef=r.nv:=rvG _ H1.out.key
     cases kd
     ·have hQ:=abl_nil (h9.pick pick1)
      have Htk:=uQ (show mg++Frm.le rs.length 4++Bok.rowsB false ((rs.map (·.x)).take (i+1))=X++[]++Bok.numsB r.x.nums from Htk0.out)
      have HY:=uQ (show (X++([]:Bs)).length≤3000100 by rw [List.append_nil];have:=HX.out;omega)
      generalize X++([]:Bs)=Y at *
      clear h9 Htk0 HX
      obtain ⟨na,nc,hnv⟩:=ints_slB (H1.out.rd _ (hQ.drop.drop.drop))
      rw [hnv]at hgd
      have Hnv:=uQ hnv
      go_wp2_with ((with_reducible refine at_load ⟨?_⟩);first|refine wl_load1 (o:=32) hQ rFz pick1 (by rw [rvS _ H1.out.key];decide) hgd kRz ?_|refine wl_load1 hQ rFz (pick_there pick1) nLz evD kRz ?_)
      clear hgd
      go_loopg [6,37] r.x.nums.length (fun g bq jq wr=>∃ (j:Nat) (cv:Value),g=r.x.nums.length - j∧j≤r.x.nums.length∧cv=bq∧jq = .int .i64 j∧Sat w0 wr (abl cv (Y++Bok.numsB (r.x.nums.take j))::pt b8 (.cells (rvL r).toArray 202 (0,0))::pt b2 (.cells (kndA mgb false k) 196 (0,0))::F))
      case atStart=>exact ⟨0,_,rfl,Nat.zero_le _,rfl,rfl,by rw [List.take_zero,Bok.numsB_nil,List.append_nil];exact hQ⟩
      case round=>
       obtain ⟨j,cv,rfl,hj,rfl,rfl,hSj⟩:=hrel
       clear hQ
       by_cases hjl:j<r.x.nums.length
       ·obtain ⟨n,hn⟩:∃ n,r.x.nums[j]?=some n:=⟨_,List.getElem?_eq_getElem hjl⟩
        have hnb:=Hro.out.num n (List.mem_of_getElem? hn)
        obtain ⟨bk2,of2,cc2,e2,hcj⟩:=ints_cellB (H1.out.rd _ (hSj.drop.drop.drop)) hn
        rw [Hnv.out]at e2
        cases e2
        have Hnk:=uQ (Bok.numsB_take hn)
        obtain ⟨x,rfl⟩:∃ x:Nat,n=(x:Int):=⟨n.toNat,by omega⟩
        have d1:decide ((x:Int)<0)=false:=by rw [decide_eq_false_iff_not];omega
        have d2:decide ((4294967295:Int)<(x:Int))=false:=by rw [decide_eq_false_iff_not];omega
        have d3:¬ (x:Int)<0:=oQ
        have d4:¬ (4294967295:Int)<(x:Int):=oQ
        have d5:IntKind.u64.wrap (x:Int)=(x:Int):=by rw [IntKind.wrap_u64];omega
        have c4:(j:Int)<(r.x.nums.length:Int):=oQ
        have hwj:IntKind.i64.wrap ((j:Int)+1)=(j:Int)+1:=IntWalk.i64_in _ (by have:=Hro.out.len;omega)
        have Hpu:=uQ (fun (w':World) (R:List HProp) (hw:Sat w0 w' R)=>put4_c x oQ hw)
        have hyl:(Y++Bok.numsB (r.x.nums.take j)).length≤4000000:=by rw [List.length_append,Bok.numsB_len,List.length_take];have:=Hro.out.len;have:=HY.out;omega
        have Hyl:=uQ hyl;have Hjl:=uQ hjl
        clear hn hnb hjl hj hyl
        go_wp2_with fail
        refine (Hpu.out _ _ hSj).mono ?_
        rintro ee w5 ⟨v,rfl,h5,_⟩
        clear Hpu hcj hSj
        go_wp2_with (with_reducible apply at_appA)
        refine ⟨wl_appA (m:=Frm.le x 4) (h5.pick pick1) rFz rFz (Sat.rd h5) (fun e=>by cases e) (by rw [Frm.le_len];have:=Hyl.out;omega) ?_⟩
        intro v6 w6 h6
        go_wp2_with fail
        go_roundg (r.x.nums.length - (j+1))
        case measure=>have:=Hjl.out;omega
        case rel=>exact ⟨j+1,_,rfl,Nat.succ_le_of_lt Hjl.out,rfl,by first|rfl|go_num,by rw [Hnk.out,← List.append_assoc];exact h6.sb⟩
       ·have c4:¬ (j:Int)<(r.x.nums.length:Int):=by omega
        obtain rfl:j=r.x.nums.length:=by omega
        rw [List.take_length]at hSj
        clear hj hjl
        go_wp2_with fail
        go_roundg (rs.length - (i+1))
        case measure=>have:=Hlt.out;omega
        case rel=>exact ⟨i+1,_,rfl,Nat.succ_le_of_lt Hlt.out,rfl,by first|rfl|go_num,by rw [Htk.out];exact hSj.sb⟩
     ·have hrd:rdsl 1 (.slice (some ⟨b8,0,none⟩) 32 32) (bys r.x.key) w9:=⟨_,_,_,rfl,by rw [bys_len,H1.out.key],fun j z hj=>⟨_,rfl,by rw [adr_add,Nat.zero_add];exact h9.cellP pick0 j (rw_key hj)⟩⟩
      have Htk:=uQ (show mg++Frm.le rs.length 4++Bok.rowsB true ((rs.map (·.x)).take (i+1))=X++r.x.key++Bok.numsB r.x.nums from Htk0.out)
      have HY:=uQ (show (X++r.x.key).length≤3000100 by rw [List.length_append,H1.out.key];have:=HX.out;omega)
      have hsl:∀ w,(Instr.sliceAt 24 (.pointer (some ⟨b8,0,none⟩)) none none none).run Tryz.prog w = .ok (.slice (some ⟨b8,0,none⟩) 32 32) w:=fun w=>by kernel_rfl
      go_wp2_with (first
       |((with_reducible refine at_load ⟨?_⟩);refine wl_load1 h9 rFz (pick_there pick1) nLz evD kRz ?_)
       |(with_reducible apply at_sl0))
      refine ⟨wl_sl0 rFz hsl ?_⟩
      refine wl_appA (m:=r.x.key) (h9.pick pick1) rFz rFz hrd (fun e=>by have:=H1.out.key;rw [e]at this;cases this) (by rw [H1.out.key];have:=HX.out;omega) ?_
      intro v33 w10 hQ
      generalize X++r.x.key=Y at *
      clear h9 Htk0 HX hrd
      obtain ⟨na,nc,hnv⟩:=ints_slB (H1.out.rd _ (hQ.drop.drop.drop))
      rw [hnv]at hgd
      have Hnv:=uQ hnv
      go_wp2_with ((with_reducible refine at_load ⟨?_⟩);first|refine wl_load1 (o:=32) hQ rFz pick1 (by rw [rvS _ H1.out.key];decide) hgd kRz ?_|refine wl_load1 hQ rFz (pick_there pick1) nLz evD kRz ?_)
      clear hgd
      go_loopg [6,37] r.x.nums.length (fun g bq jq wr=>∃ (j:Nat) (cv:Value),g=r.x.nums.length - j∧j≤r.x.nums.length∧cv=bq∧jq = .int .i64 j∧Sat w0 wr (abl cv (Y++Bok.numsB (r.x.nums.take j))::pt b8 (.cells (rvL r).toArray 202 (0,0))::pt b2 (.cells (kndA mgb true k) 196 (0,0))::F))
      case atStart=>exact ⟨0,_,rfl,Nat.zero_le _,rfl,rfl,by rw [List.take_zero,Bok.numsB_nil,List.append_nil];exact hQ⟩
      case round=>
       obtain ⟨j,cv,rfl,hj,rfl,rfl,hSj⟩:=hrel
       clear hQ
       by_cases hjl:j<r.x.nums.length
       ·obtain ⟨n,hn⟩:∃ n,r.x.nums[j]?=some n:=⟨_,List.getElem?_eq_getElem hjl⟩
        have hnb:=Hro.out.num n (List.mem_of_getElem? hn)
        obtain ⟨bk2,of2,cc2,e2,hcj⟩:=ints_cellB (H1.out.rd _ (hSj.drop.drop.drop)) hn
        rw [Hnv.out]at e2
        cases e2
        have Hnk:=uQ (Bok.numsB_take hn)
        obtain ⟨x,rfl⟩:∃ x:Nat,n=(x:Int):=⟨n.toNat,by omega⟩
        have d1:decide ((x:Int)<0)=false:=by rw [decide_eq_false_iff_not];omega
        have d2:decide ((4294967295:Int)<(x:Int))=false:=by rw [decide_eq_false_iff_not];omega
        have d3:¬ (x:Int)<0:=oQ
        have d4:¬ (4294967295:Int)<(x:Int):=oQ
        have d5:IntKind.u64.wrap (x:Int)=(x:Int):=by rw [IntKind.wrap_u64];omega
        have c4:(j:Int)<(r.x.nums.length:Int):=oQ
        have hwj:IntKind.i64.wrap ((j:Int)+1)=(j:Int)+1:=IntWalk.i64_in _ (by have:=Hro.out.len;omega)
        have Hpu:=uQ (fun (w':World) (R:List HProp) (hw:Sat w0 w' R)=>put4_c x oQ hw)
        have hyl:(Y++Bok.numsB (r.x.nums.take j)).length≤4000000:=by rw [List.length_append,Bok.numsB_len,List.length_take];have:=Hro.out.len;have:=HY.out;omega
        have Hyl:=uQ hyl;have Hjl:=uQ hjl
        clear hn hnb hjl hj hyl
        go_wp2_with fail
        refine (Hpu.out _ _ hSj).mono ?_
        rintro ee w5 ⟨v,rfl,h5,_⟩
        clear Hpu hcj hSj
        go_wp2_with (with_reducible apply at_appA)
        refine ⟨wl_appA (m:=Frm.le x 4) (h5.pick pick1) rFz rFz (Sat.rd h5) (fun e=>by cases e) (by rw [Frm.le_len];have:=Hyl.out;omega) ?_⟩
        intro v6 w6 h6
        go_wp2_with fail
        go_roundg (r.x.nums.length - (j+1))
        case measure=>have:=Hjl.out;omega
        case rel=>exact ⟨j+1,_,rfl,Nat.succ_le_of_lt Hjl.out,rfl,by first|rfl|go_num,by rw [Hnk.out,← List.append_assoc];exact h6.sb⟩
       ·have c4:¬ (j:Int)<(r.x.nums.length:Int):=by omega
        obtain rfl:j=r.x.nums.length:=by omega
        rw [List.take_length]at hSj
        clear hj hjl
        go_wp2_with fail
        go_roundg (rs.length - (i+1))
        case measure=>have:=Hlt.out;omega
        case rel=>exact ⟨i+1,_,rfl,Nat.succ_le_of_lt Hlt.out,rfl,by first|rfl|go_num,by rw [Htk.out];exact hSj.sb⟩
    ·as_aux_lemma=>
     have c3:¬ (i:Int)<(rs.length:Int):=oQ
     obtain rfl:i=rs.length:=by omega
     have eb:mg++Frm.le rs.length 4++Bok.rowsB kd ((rs.map (·.x)).take rs.length)=Bok.body mg kd (rs.map (·.x)):=by
      unfold Bok.body
      rw [List.take_of_length_le (by rw [List.length_map];exact Nat.le_refl _),List.length_map]
     have hSb:=abl_eq hS eb
     have Hbl:=uQ (Bok.body_le (mg:=mg) Hm8.out hk Hok.out)
     have Hne:=uQ (show Bok.body mg kd (rs.map (·.x))≠[] from fun e=>by
      have:=Bok.body_len (mg:=mg) (kd:=kd) Hm8.out Hok.out.row
      rw [e]at this
      simp only [List.length_nil]at this
      omega)
     have hri:=rises_c mgb kd k rs (by have:=Hn.out;omega) (Ro.os Hr.out) (fun r hr=>(He.out r hr).sub sbD) hSb
     clear hS hi hlt eb
     go_wp2_with ((with_reducible refine at_load ⟨?_⟩);refine wl_loadA hSb rFz pick1 Tryz.underlying196 rfl kRz ?_)
     refine hri.mono ?_
     rintro ee w5 ⟨v,rfl,t,rfl,ht,h5⟩
     obtain rfl:t=true:=ht.2 Hok.out.rise
     clear hri hSb ht
     go_wp2_with fail
     have hxs:=xsum_c Hne.out (by have:=Hbl.out;omega) (RS.of_abl h5) h5
     obtain ⟨S,HS⟩:∃ S,Hid (Xx.sum (Bok.body mg kd (rs.map (·.x)))=S):=⟨_,uQ rfl⟩
     have HSl:=uQ (show S<Xx.W by rw [← HS.out];exact Xx.sum_lt _)
     rw [HS.out]at hxs
     refine hxs.mono ?_
     rintro ee w6 ⟨v,rfl,rfl,h6⟩
     clear h5 hxs
     go_wp2_with fail
     refine (put8_c S HSl.out h6).mono ?_
     rintro ee w7 ⟨v,rfl,h7,_⟩
     clear h6
     go_wp2_with (with_reducible apply at_appA)
     refine ⟨wl_appA (m:=Frm.le S 8) (h7.pick pick1) rFz rFz (Sat.rd h7) (fun e=>by have k:=congrArg List.length e;rw [Frm.le_len]at k;cases k) (by rw [Frm.le_len];have:=Hbl.out;omega) ?_⟩
     intro v8 w8 h8
     have h9:Sat w0 w8 (abl v8 (Bok.book Xx.sum mg kd (rs.map (·.x)))::F):=by unfold Bok.book;rw [HS.out];exact h8.sb
     clear h7 h8
     go_wp2_with fail
     go_ret2
     exact ⟨_,rfl,v8,rfl,h9⟩
end
section
variable {P:Program}{w w':World}{ops:Array Oper}{rest:List Oper}{a:Act}{Q:Exit→Act→World→Prop}{dst:Option Tmp}{t ty:TypeId}{pos:String}{after:Array Edge}{n:Nat}{xs:Array (Nat×Operand)}{v:Value}
theorem at_bsl (h:Stop (wpList P ops Q (⟨dst,.buildSlice ty n xs,t,pos,after,none⟩::rest) a w)):wpList P ops Q (⟨dst,.buildSlice ty n xs,t,pos,after,none⟩::rest) a w:=h.out
theorem wl_bsl (parts':Array (Nat×Value)) (he:xs.map (fun p=>(p.1,a.eval p.2))=parts') (hr:(Instr.buildSlice ty n parts').run P w = .ok v w') (h:wpList P ops Q rest (a.put dst v) w'):wpList P ops Q (⟨dst,.buildSlice ty n xs,t,pos,after,none⟩::rest) a w:=
 wpList_plain rfl fun _ hK=>by
  unfold Oper.wp execOp
  simp only [he,Sem.run_bind,hr,Result.andThen_ok,Sem.run_pure]
  exact hK _ _ h
end
section
variable {w0 w:World}{F:List HProp}
set_option maxRecDepth 20000 in
theorem useRow_c (a b c:Int) (h:Sat w0 w F):Calls Tryz.prog 129 #[.agg #[.int .i64 a,.int .i64 b,.int .i64 c]] w
  (Rtn fun v w'=>∃ q,v = .agg (rvL ⟨⟨Frm.zero32,[a,b,c]⟩,.slice (some ⟨q,0,none⟩) 3 3⟩).toArray∧Sat w0 w' (pt q (.cells #[.int .i64 a,.int .i64 b,.int .i64 c] 3 (0,0))::F)):=by
 have hbs:∀ w,(Instr.buildSlice 42 3 #[(0,.int .i64 a),(1,.int .i64 b),(2,.int .i64 c)]).run Tryz.prog w = .ok (.slice (some ⟨w.heap.size,0,none⟩) 3 3) (w.alloc (.cells #[.int .i64 a,.int .i64 b,.int .i64 c] 3)):=fun w=>by kernel_rfl
 have hrow:∀ w q,(Instr.build 202 #[(1,.slice (some ⟨q,0,none⟩) 3 3)]).run Tryz.prog w = .ok (.agg (rvL ⟨⟨Frm.zero32,[a,b,c]⟩,.slice (some ⟨q,0,none⟩) 3 3⟩).toArray) w:=fun w q=>by kernel_rfl
 go_enter Tryz.func129,Tryz.ntmps129
 go_wp2_with (with_reducible apply at_box)
 refine ⟨wl_box h rFz rFz ?_⟩
 intro b1 w1 h1
 go_wp2_with (with_reducible apply at_alloc)
 refine ⟨wl_alloc zBRow h1 rfl ?_⟩
 intro b2 w2 h2
 have hS:=h2.alloc (.cells #[.int .i64 a,.int .i64 b,.int .i64 c] 3)
 generalize hq:w2.heap.size=q at *
 have hq2:=hq
 go_wp2_with (first
  |((with_reducible refine at_load ⟨?_⟩);refine wl_load1 h2 rFz pick1 nLz evD kRz ?_)
  |((with_reducible refine at_store ⟨?_⟩);refine wl_storeA (rvL ⟨⟨Frm.zero32,[a,b,c]⟩,.slice (some ⟨q,0,none⟩) 3 3⟩).toArray hS rFz rFz rFz upd1 kRz rFz ?_;intro w9 h9))
 refine ⟨rfl,_,res_cell rfl h9 rFz pkD Tryz.underlying202 rfl kRz,?_⟩
 exact ⟨_,rfl,q,rfl,h9.sb⟩
theorem plBRow:placesB Tryz.prog 202=some [(0,32),(32,1)]:=by kernel_rfl
theorem run_rowK (k:Frm.Bs) (hk:k.length=32) (x:Bok.Rw) (hx:x.key=k) (nv:Value) (q:Nat) (hnv:nv = .slice (some ⟨q,0,none⟩) 3 3) (w:World):(Instr.build 202 #[(0,.agg (bys k).toArray),(1,nv)]).run Tryz.prog w = .ok (.agg (rvL ⟨x,nv⟩).toArray) w:=by
 subst hnv;subst hx
 have h:=run_build (P:=Tryz.prog) [(0,.agg (bys x.key).toArray),(1,.slice (some ⟨q,0,none⟩) 3 3)] plBRow zBRow (by
  intro p hp
  have hzz:(Value.agg (rvL zeroRV).toArray).cells.size=33:=by rfl
  rw [hzz]
  rcases List.mem_cons.1 hp with rfl|hp
  ·refine ⟨0,?_,?_⟩
   ·show some (0,32)=some (0,(bys x.key).toArray.size);rw [List.size_toArray,bys_len,hk]
   ·show 0+(bys x.key).toArray.size≤33
    rw [List.size_toArray,bys_len,hk];decide
  ·rw [List.mem_singleton.1 hp]
   exact ⟨32,rfl,by show 32+1≤33;omega⟩) w
 refine h.trans ?_
 have hz:Frm.zero32.length=32:=rfl
 have hzl:(rvL zeroRV).length=33:=rvL_len _ hz
 have e:putsAt (putsAt (rvL zeroRV).toArray 0 (bys x.key)) 32 [.slice (some ⟨q,0,none⟩) 3 3]=(rvL ⟨x,.slice (some ⟨q,0,none⟩) 3 3⟩).toArray:=by
  apply putsAt_eq
  rw [puts_putL _ _ _ (by rw [putsAt_size,List.size_toArray,hzl];exact Nat.le_refl 33),puts_putL _ _ _ (by rw [List.size_toArray,hzl,bys_len,hk];decide),List.toList_toArray]
  have e1:putL (rvL zeroRV) 0 (bys x.key)=bys x.key++[.slice none 0 0]:=by
   unfold rvL zeroRV
   rw [putL_app2 _ _ _ _ (by rw [bys_len,bys_len,hk,hz];decide),putL_all (by rw [bys_len,bys_len,hk,hz])]
  have h0:=putL_app (bys x.key) [.slice none 0 0] [.slice (some ⟨q,0,none⟩) 3 3] 0
  rw [bys_len,hk,putL_all (xs:=[Value.slice none 0 0]) (vs:=[Value.slice (some ⟨q,0,none⟩) 3 3]) rFz]at h0
  rw [e1]
  exact h0
 exact congrArg (fun x=>Result.ok (Value.agg x) w) e
set_option maxRecDepth 20000 in
theorem idxRow_c (k:Frm.Bs) (hk:k.length=32) (a b c:Int) (h:Sat w0 w F):Calls Tryz.prog 125 #[.agg (bys k++[Value.int .i64 a,Value.int .i64 b,Value.int .i64 c]).toArray] w
  (Rtn fun v w'=>∃ q,v = .agg (rvL ⟨⟨k,[a,b,c]⟩,.slice (some ⟨q,0,none⟩) 3 3⟩).toArray∧Sat w0 w' (pt q (.cells #[.int .i64 a,.int .i64 b,.int .i64 c] 3 (0,0))::F)):=by
 have hbs:∀ w,(Instr.buildSlice 42 3 #[(0,.int .i64 a),(1,.int .i64 b),(2,.int .i64 c)]).run Tryz.prog w = .ok (.slice (some ⟨w.heap.size,0,none⟩) 3 3) (w.alloc (.cells #[.int .i64 a,.int .i64 b,.int .i64 c] 3)):=fun w=>by kernel_rfl
 have hrow:∀ w q,(Instr.build 202 #[(0,.agg (bys k).toArray),(1,.slice (some ⟨q,0,none⟩) 3 3)]).run Tryz.prog w = .ok (.agg (rvL ⟨⟨k,[a,b,c]⟩,.slice (some ⟨q,0,none⟩) 3 3⟩).toArray) w:=fun w q=>run_rowK k hk ⟨k,[a,b,c]⟩ rfl _ q rfl w
 have hsz:(bys k++[Value.int .i64 a,Value.int .i64 b,Value.int .i64 c]).toArray.size=35:=by rw [List.size_toArray,List.length_append,bys_len,hk];rfl
 have hat:∀ j v,([Value.int .i64 a,Value.int .i64 b,Value.int .i64 c]:List Value)[j]?=some v→(bys k++[Value.int .i64 a,Value.int .i64 b,Value.int .i64 c]).toArray.getD (32+j) undef=v:=fun j v hj=>by
  rw [Array.getD_eq_getD_getElem?,List.getElem?_toArray,List.getElem?_append_right (by rw [bys_len,hk];omega),bys_len,hk,Nat.add_sub_cancel_left,hj];rfl
 have hki:(Tryz.prog.info? 24).map (·.size)=some (bys k).length:=by rw [bys_len,hk];kernel_rfl
 go_enter Tryz.func125,Tryz.ntmps125
 go_wp2_with (with_reducible apply at_box)
 refine ⟨wl_box h rFz rFz ?_⟩
 intro b1 w1 h1
 go_wp2_with (with_reducible apply at_alloc)
 refine ⟨wl_alloc zBRow h1 rfl ?_⟩
 intro b2 w2 h2
 replace h2:Sat w0 w2 (pt b2 (.cells (rvL zeroRV).toArray 202 (0,0))::pt b1 (.cells (bys k++[Value.int .i64 a,Value.int .i64 b,Value.int .i64 c]).toArray 149 (0,0))::F):=h2
 have hS:=h2.alloc (.cells #[.int .i64 a,.int .i64 b,.int .i64 c] 3)
 have hrs:∀ q,(rvL ⟨⟨k,[a,b,c]⟩,.slice (some ⟨q,0,none⟩) 3 3⟩).toArray.size=33:=fun q=>rvS _ hk
 go_wp2_with (first
  |((with_reducible refine at_load ⟨?_⟩);first
   |refine wl_loadN (o:=0) (bys k) h2 rFz pick1 (fun j v hj=>by rw [Nat.zero_add,List.getElem?_toArray,List.getElem?_append_left (List.getElem?_eq_some_iff.1 hj).1];exact hj) Tryz.underlying24 rfl hki ?_
   |refine wl_load1 (o:=32) h2 rFz pick1 (by show 33≤(bys k++_).toArray.size;rw [hsz];decide) (hat 0 _ rfl) kRz ?_
   |refine wl_load1 (o:=33) h2 rFz pick1 (by show 34≤(bys k++_).toArray.size;rw [hsz];decide) (hat 1 _ rfl) kRz ?_
   |refine wl_load1 (o:=34) h2 rFz pick1 (by show 35≤(bys k++_).toArray.size;rw [hsz];decide) (hat 2 _ rfl) kRz ?_)
  |(with_reducible apply at_bsl))
 refine ⟨wl_bsl #[(0,.int .i64 a),(1,.int .i64 b),(2,.int .i64 c)] (by simp only [List.map_toArray,List.map_cons,List.map_nil];rfl) (hbs _) ?_⟩
 generalize hq:w2.heap.size=q at *
 go_wp2_with (with_reducible apply at_buildC)
 refine ⟨wl_buildC #[(0,.agg (bys k).toArray),(1,.slice (some ⟨q,0,none⟩) 3 3)] (by simp only [List.map_toArray,List.map_cons,List.map_nil];rfl) (fun w=>hrow w q) ?_⟩
 go_wp2_with (with_reducible apply at_store)
 refine ⟨wl_storeA (rvL ⟨⟨k,[a,b,c]⟩,.slice (some ⟨q,0,none⟩) 3 3⟩).toArray hS rFz rFz (by rw [hrs q];rfl) upd1 (by rw [hrs q];kernel_rfl) (by unfold rvL;rw [List.toList_toArray,List.all_append,bys_ones];rfl) ?_⟩
 intro w9 h9
 go_wp2_with fail
 refine ⟨rfl,_,res_cell rfl h9 rFz pkD Tryz.underlying202 rfl (by rw [hrs q];kernel_rfl),?_⟩
 exact ⟨_,rfl,_,rfl,h9.sb⟩
end
def TabMA (p:Nat) (m:Frm.Bs→Option (Rep.Abt)) (B:Nat):HProp:=fun h=>∃ (t:Tab.Tb (Rep.Abt)) (sv:Value),(t.Ok∧t.Is m∧t.n+t.gone≤B)∧stars [tbPt p 184 sv t.n t.gone,osl 256 38 sv (t.slots.flatMap (slotL aenc))] h
theorem zValA:zeroB Tryz.prog 109=some (.agg (aenc ⟨0,Seg.Plc.zero,0⟩).toArray):=by kernel_rfl
section
variable {w0 w:World}{F R:List HProp}{p B:Nat}{sv v:Value}{k:Frm.Bs}{m:Frm.Bs→Option (Rep.Abt)}{t:Tab.Tb (Rep.Abt)}
theorem TabMA.open (h:Sat w0 w (TabMA p m B::F)):∃ (t:Tab.Tb (Rep.Abt)) (sv:Value),(t.Ok∧t.Is m∧t.n+t.gone≤B)∧Sat w0 w (tbPt p 184 sv t.n t.gone::osl 256 38 sv (t.slots.flatMap (slotL aenc))::F):=by
 obtain ⟨ha,x,hx,q,r,dd,rfl,⟨t,sv,hin,hp⟩,hq⟩:=h
 refine ⟨t,sv,hin,ha,_,hx,?_⟩
 show stars ([tbPt p 184 sv t.n t.gone,osl 256 38 sv (t.slots.flatMap (slotL aenc))]++F) _
 rw [stars_append]
 exact ⟨q,r,dd,rfl,hp,hq⟩
theorem TabMA.shut (h1:t.Ok) (h2:t.Is m) (h3:t.n+t.gone≤B) (h:Sat w0 w (tbPt p 184 sv t.n t.gone::osl 256 38 sv (t.slots.flatMap (slotL aenc))::F)):Sat w0 w (TabMA p m B::F):=
 Sat.join (M:=[tbPt p 184 sv t.n t.gone,osl 256 38 sv (t.slots.flatMap (slotL aenc))]) h fun _ hx=>⟨t,sv,⟨h1,h2,h3⟩,hx⟩
theorem newA_c (h:Sat w0 w F):Calls Tryz.prog 54 #[] w (Rtn fun v w'=>∃ p,v=ptr p∧Sat w0 w' (TabMA p (fun _=>none) 0::F)):=by
 go_enter Tryz.func54,Tryz.ntmps54
 go_wp2_with (first
  |((with_reducible refine at_make ⟨?_⟩);refine wl_makeN (e:=256) (sz:=38) (by':=80) (n:=8) kRz zSlotA h rFz rFz dCz dCz ?_;intro bM wM hM)
  |((with_reducible refine at_box ⟨?_⟩);refine wl_box hM evD evD ?_;intro bB wB hB))
 go_ret
 refine ⟨_,rfl,bB,rfl,?_⟩
 have e:(List.replicate 8 (slotL aenc ⟨0,Frm.zero32,⟨0,Seg.Plc.zero,0⟩⟩)).flatten=(List.replicate 8 (⟨0,Frm.zero32,⟨0,Seg.Plc.zero,0⟩⟩:Tab.Slot (Rep.Abt))).flatMap (slotL aenc):=(rows_rep 8 _).symm
 rw [e]at hB
 exact TabMA.shut (t:=⟨List.replicate 8 ⟨0,Frm.zero32,⟨0,Seg.Plc.zero,0⟩⟩,0,0⟩) (Tab.new_ok dCz rfl) (Tab.new_is rfl 0 0) (Nat.le_refl 0) hB
set_option maxRecDepth 20000 in
theorem getA_c (hB:B≤268435000) (hk:k.length=32) (h:Sat w0 w (TabMA p m B::F)) :
  Calls Tryz.prog 117 #[ptr p,.agg (bys k).toArray] w (Rtn fun v w'=>v = .tuple #[.agg (aenc ((m k).getD ⟨0,Seg.Plc.zero,0⟩)).toArray,.bool (m k).isSome]∧Sat w0 w' (TabMA p m B::F)):=by
 obtain ⟨t,sv,⟨ok,is,hb⟩,hR⟩:=TabMA.open h
 obtain ⟨d,he⟩:=ok.ends k
 have hsz:t.slots.length≤1073741824:=by have:=ok.size;omega
 have Hlen:=uQ (show ∀ x∈t.slots,(slotL aenc x).length=38 from fun x hx=>slotL_len aenc x (ok.good.key x hx) 5 (aenc_len _))
 obtain ⟨la,lc,rfl⟩:=osl_rows Hlen.out (Sat.rd (hR.pick pick1)) dCz
 have Hk:=uQ hk;have Hok:=uQ ok;have His:=uQ is;have Hb:=uQ hb;have He:=uQ he;have Hsz:=uQ hsz
 have Hp0:=uQ ok.good.pos_len
 clear h hk ok is hb he hsz hB
 go_enter Tryz.func117,Tryz.ntmps117
 go_wp2_with (first|((with_reducible refine at_box ⟨?_⟩);refine wl_box aQ evD evD ?_;intro bB wB hB)|(with_reducible apply at_alloc))
 refine ⟨wl_alloc zValA hB rfl ?_⟩
 intro b4 w4 hS4
 go_wp2_with (with_reducible apply at_alloc)
 refine ⟨wl_alloc zValA hS4 rfl ?_⟩
 intro b6 w6 hS6
 have hR6:Sat w0 w6 (tbPt p 184 (.slice la t.slots.length lc) t.n t.gone::pt b6 (.cells (aenc ⟨0,Seg.Plc.zero,0⟩).toArray 109 (0,0))::pt b4 (.cells (aenc ⟨0,Seg.Plc.zero,0⟩).toArray 109 (0,0))::pt bB (.cells (bys k).toArray 24 (0,0))::osl 256 38 (.slice la t.slots.length lc) (t.slots.flatMap (slotL aenc))::F):=hS6.sb
 clear hB hS4 hS6 hR
 go_wp2_with fail
 refine (okA_c Hp0.out hR6).mono ?_
 rintro ee w7 ⟨v,rfl,rfl,rfl⟩
 go_wp2_with ((with_reducible refine at_load ⟨?_⟩);refine wl_loadA hR6 rFz (pick_there (pick_there (pick_there pick0))) Tryz.underlying24 rfl (by rw [List.size_toArray,bys_len,Hk.out];kernel_rfl) ?_)
 have hf:=findA_c Hok.out.good Hsz.out Hk.out He.out (hR6.sb:Sat w0 w6 (tbPt p 184 (.slice la t.slots.length lc) t.n t.gone::osl 256 38 (.slice la t.slots.length lc) (t.slots.flatMap (slotL aenc))::pt b6 (.cells (aenc ⟨0,Seg.Plc.zero,0⟩).toArray 109 (0,0))::pt b4 (.cells (aenc ⟨0,Seg.Plc.zero,0⟩).toArray 109 (0,0))::F))
 clear hR6
 refine hf.mono ?_
 rintro ee w8 ⟨v,rfl,x,hx,rfl,hS8⟩
 clear hf
 obtain ⟨m1,m2⟩:=His.out.some Hok.out He.out hx
 have hxm:=List.mem_of_getElem? hx
 have hxk:=Hok.out.good.key x hxm
 obtain ⟨bk,off,c',hsv,hcell⟩:=osl_row Hlen.out (Sat.rd (hS8.pick pick1)) hx dCz
 cases hsv
 have hlt:=Tab.pos_lt (k:=k) (d:=d) Hp0.out
 have hval:∀ j v,(aenc x.val)[j]?=some v→w8.cell? ⟨bk,off+Tab.pos k t.slots.length d * 38+33+j,none⟩=some v:=fun j v hj=>by
  rw [Nat.add_assoc _ 33 j]
  exact hcell (33+j) v (slotL_val aenc x hxk hj)
 clear hcell hx hxm
 generalize Tab.pos k t.slots.length d=P0 at *
 have c0:(0:Int)≤(P0:Int):=oQ
 have c1:(P0:Int)<(t.slots.length:Int):=oQ
 have e0:w8.cell? ⟨p,0,none⟩=some (.slice (some ⟨bk,off,none⟩) t.slots.length lc):=hS8.cellP pkD 0 rfl
 by_cases h1:x.st=1
 ·have hd:decide (x.st=1)=true:=decide_eq_true h1
  have Hm:=uQ (m1 h1)
  clear m1 m2 h1
  go_wp2_with (first
   |((with_reducible refine at_load ⟨?_⟩);refine wl_load1 hS8 rFz pkD nLz evD kRz ?_)
   |((with_reducible refine at_load ⟨?_⟩);refine wl_loadW (b:=bk) (o:=off+P0 * 38+33) (aenc x.val) rFz hval Tryz.underlying109 rfl kRz ?_)
   |((with_reducible refine at_store ⟨?_⟩);refine wl_storeA (aenc x.val).toArray hS8 rFz rFz rFz (upd_there (upd_there (upd_there upd0))) kRz rFz ?_;intro w10 hS10))
  refine ⟨rfl,_,res_cell_tmp rfl hS10 rFz pkD Tryz.underlying109 rfl kRz,_,rfl,?_,TabMA.shut Hok.out His.out Hb.out (hS10.sb)⟩
  rw [Hm.out];rfl
 ·have hd:decide (x.st=1)=false:=decide_eq_false h1
  have Hm:=uQ (m2 h1)
  clear m1 m2 h1
  go_wp2_with (first
   |((with_reducible refine at_load ⟨?_⟩);refine wl_loadA hS8 rFz (pick_there (pick_there (pick0 (A:=pt b6 (.cells (aenc ⟨0,Seg.Plc.zero,0⟩).toArray 109 (0,0)))))) Tryz.underlying109 rfl kRz ?_)
   |((with_reducible refine at_store ⟨?_⟩);refine wl_storeA (aenc ⟨0,Seg.Plc.zero,0⟩).toArray hS8 rFz rFz rFz (upd_there (upd_there (upd_there upd0))) kRz rFz ?_;intro w10 hS10))
  refine ⟨rfl,_,res_cell_tmp rfl hS10 rFz (pick_there (pick_there (pick_there pick0))) Tryz.underlying109 rfl kRz,_,rfl,?_,TabMA.shut Hok.out His.out Hb.out (hS10.sb)⟩
  rw [Hm.out];rfl
end
section
variable {w0 w:World}{F R:List HProp}{p B N:Nat}{sv v:Value}{k:Frm.Bs}{m:Frm.Bs→Option (Rep.Abt)}{t:Tab.Tb (Rep.Abt)}
set_option maxRecDepth 20000 in
theorem renewA_c (ok:t.Ok) (hN:t.n≤N) (hNb:N≤134217728) (hlen31:t.slots.length≤1073741824) (h:Sat w0 w (tbPt p 184 sv t.n t.gone::osl 256 38 sv (t.slots.flatMap (slotL aenc))::F)) :
  Calls Tryz.prog 175 #[ptr p,.int .i64 N] w (Rtn fun _ w'=>∃ s' sv',Tab.Renewed t s' N∧Sat w0 w' (tbPt p 184 sv' t.n 0::osl 256 38 sv' (s'.flatMap (slotL aenc))::F)):=by
 have Hok:=uQ ok;have HN:=uQ hN;have HNb:=uQ hNb
 have Hlen:=uQ (show ∀ x∈t.slots,(slotL aenc x).length=38 from fun x hx=>slotL_len aenc x (ok.good.key x hx) 5 (aenc_len _))
 obtain ⟨la,lc,rfl⟩:=osl_rows Hlen.out (Sat.rd (h.pick pick1)) dCz
 have hw0:IntKind.i64.wrap (2 * (N:Int))=2 * (N:Int):=IntWalk.i64_in _ oQ
 have hw0b:wrap64 (2 * (N:Int))=2 * (N:Int):=IntWalk.wrap64_in _ oQ
 clear ok hN
 go_enter Tryz.func175,Tryz.ntmps175
 go_wp2_with fail
 go_loopg [4] (4 * N) (fun g cq wr=>∃ c:Nat,g=4 * N+8 - c∧cq = .int .i64 c∧(∃ j,c=2^j∧3≤j)∧8≤c∧(c=8∨c<4 * N)∧wr=w)
 case atStart=>exact ⟨8,by omega,rfl,⟨3,rfl,Nat.le_refl 3⟩,Nat.le_refl 8,.inl rfl,rfl⟩
 case round=>
  obtain ⟨c,rfl,rfl,⟨j,hj,hj3⟩,hc8,hc,rfl⟩:=hrel
  by_cases hlt:c<2 * N
  ·have c1:(c:Int)<2 * (N:Int):=by omega
   have hw1:IntKind.i64.wrap ((c:Int) * 2)=(c:Int) * 2:=IntWalk.i64_in _ oQ
   have hw1b:wrap64 ((c:Int) * 2)=(c:Int) * 2:=IntWalk.wrap64_in _ oQ
   have Hj:=uQ hj;have Hj3:=uQ hj3;have Hlt:=uQ hlt;have Hc8:=uQ hc8
   clear hj hj3 hlt hc hc8
   go_wp2_with fail
   go_roundg (4 * N+8 - c * 2)
   case measure=>have:=Hlt.out;have:=Hc8.out;omega
   case rel=>exact ⟨c * 2,rfl,by first|rfl|go_num,⟨j+1,by rw [Nat.pow_succ,Hj.out],by have:=Hj3.out;omega⟩,by have:=Hc8.out;omega,.inr (by have:=Hlt.out;omega),rfl⟩
  ·have c1:¬ (c:Int)<2 * (N:Int):=by omega
   have HC:=uQ (show (∃ j,c=2^j∧3≤j)∧2 * N≤c∧8≤c∧(c=8∨c<4 * N) from ⟨⟨j,hj,hj3⟩,by omega,hc8,hc⟩)
   have hcb:c≤1073741824:=oQ
   have Hcb:=uQ hcb
   clear hj hj3 hlt hc hc8 hw0 hcb hNb
   go_wp2_with (first
    |((with_reducible refine at_load ⟨?_⟩);refine wl_load1 h rFz pkD nLz evD kRz ?_)
    |((with_reducible refine at_make ⟨?_⟩);refine wl_makeN (e:=256) (sz:=38) (by':=80) (n:=c) kRz zSlotA h rFz rFz (by have:=Hcb.out;omega) (by have:=Hcb.out;omega) ?_;intro bM wM hM)
    |((with_reducible refine at_store ⟨?_⟩);refine wl_store aQ rFz evD pQ upD nLz kRz rFz ?_;intro wS hS))
   have e8:(List.replicate c (slotL aenc ⟨0,Frm.zero32,⟨0,Seg.Plc.zero,0⟩⟩)).flatten=(List.replicate c (⟨0,Frm.zero32,⟨0,Seg.Plc.zero,0⟩⟩:Tab.Slot (Rep.Abt))).flatMap (slotL aenc):=(rows_rep c _).symm
   rw [e8]at hS
   have hS0:Sat w0 _ (tbPt p 184 (.slice (some ⟨bM,0,none⟩) c c) t.n 0::osl 256 38 (.slice (some ⟨bM,0,none⟩) c c) ((List.replicate c (⟨0,Frm.zero32,⟨0,Seg.Plc.zero,0⟩⟩:Tab.Slot (Rep.Abt))).flatMap (slotL aenc))::osl 256 38 (.slice la t.slots.length lc) (t.slots.flatMap (slotL aenc))::F):=hS.sb
   clear hS hM h e8 c1
   go_wp2_with fail
   go_loopg [31] t.slots.length (fun g iq wr=>∃ (i:Nat) (cur:List (Tab.Slot (Rep.Abt))),g=t.slots.length - i∧i≤t.slots.length∧iq = .int .i64 i∧Tab.Half t.slots cur i∧cur.length=c ∧
    Sat w0 wr (tbPt p 184 (.slice (some ⟨bM,0,none⟩) c c) t.n 0::osl 256 38 (.slice (some ⟨bM,0,none⟩) c c) (cur.flatMap (slotL aenc))::osl 256 38 (.slice la t.slots.length lc) (t.slots.flatMap (slotL aenc))::F))
   case atStart=>exact ⟨0,_,rfl,Nat.zero_le _,rfl,Tab.half_start HC.out.1 dCz rfl,List.length_replicate,hS0⟩
   case round=>
    obtain ⟨i,cur,rfl,hi,rfl,hH,hcl,hS⟩:=hrel
    clear hS0
    have HH:=uQ hH;have Hcl:=uQ hcl
    by_cases hlt:i<t.slots.length
    rotate_left
    ·obtain rfl:i=t.slots.length:=by omega
     have c1:¬ (t.slots.length:Int)<(t.slots.length:Int):=oQ
     clear hlt hH hi
     go_wp2_with fail
     go_end0
     obtain ⟨q1,q2,q3,q4⟩:=HH.out.done
     exact ⟨_,rfl,cur,⟨q1,q2,q3.trans Hok.out.n.symm,q4.trans Hok.out.n.symm,by rw [Hcl.out];exact HC.out.2.1,by rw [Hcl.out];exact HC.out.2.2.1,by rw [Hcl.out];exact HC.out.2.2.2⟩,_,hS.sb⟩
    have c1:(i:Int)<(t.slots.length:Int):=oQ
    have hwi:=iwQ (i:=i)
    obtain ⟨x,hx⟩:∃ x,t.slots[i]?=some x:=⟨_,List.getElem?_eq_getElem hlt⟩
    have hxm:=List.mem_of_getElem? hx
    have hst:=Hok.out.good.st x hxm
    have Hxk:=uQ (Hok.out.good.key x hxm)
    obtain ⟨bk,off,c',hsv,hcell⟩:=osl_row Hlen.out (Sat.rd (hS.pick pick2)) hx dCz
    cases hsv
    have hl38:=Hlen.out x hxm
    have Hx:=uQ hx;have Hlt:=uQ hlt
    clear hx hxm hlt hH hi
    go_wp2_with (first
     |((with_reducible refine at_load ⟨?_⟩);refine wl_loadW (b:=bk) (o:=off+i * 38) (slotL aenc x) rFz hcell Tryz.underlying256 rfl (by rw [hl38];kernel_rfl) ?_)
     |(with_reducible apply at_alloc))
    refine ⟨wl_alloc zSlotA hS rfl ?_⟩
    intro b7 w7 hS7
    go_wp2_with (first|((with_reducible refine at_store ⟨?_⟩);refine wl_storeA (slotL aenc x).toArray hS7 rFz rFz (by rw [List.size_toArray,hl38];rfl) upd0 (by rw [List.size_toArray,hl38];kernel_rfl) (by rw [List.toList_toArray];exact slotL_ones aenc x (aenc_ones _)) ?_;intro w10 hS10)|(with_reducible apply at_load))
    refine ⟨?_⟩
    clear hS hS7 hcell
    have f0:w10.cell? ⟨b7,0,none⟩=some (.int .i64 x.st):=hS10.cellP pick0 0 (by rw [List.getElem?_toArray];rfl)
    have f1:w10.rangeAt b7 1 (bys x.key):=slot_key (hS10.pick pick0)
    by_cases h1:x.st=1
    rotate_left
    ·have hst1:((x.st:Int)==1)=false:=by rw [beq_eq_false_iff_ne];omega
     have H1:=uQ h1
     clear h1 f1
     go_wp2_with fail
     go_roundg (t.slots.length - (i+1))
     case measure=>have:=Hlt.out;omega
     case rel=>exact ⟨i+1,cur,rfl,Hlt.out,by first|rfl|go_num,HH.out.skip Hx.out H1.out,Hcl.out,hS10.sb⟩
    ·have hus:Tab.used cur<cur.length:=by
      have h2:=HH.out.nu
      have h3:=Tab.fulls_take_le t.slots i
      have h4:=Hok.out.n
      have h5:=HN.out
      have h6:=HC.out
      rw [Hcl.out];omega
     obtain ⟨dd,hdd⟩:=Tab.ends_of (k:=x.key) HH.out.good (Tab.free_of hus)
     have H1:=uQ h1;have Hdd:=uQ hdd
     have hst1:((x.st:Int)==1)=true:=by rw [h1];rfl
     have Hcl38:=uQ (show ∀ y∈cur,(slotL aenc y).length=38 from fun y hy=>slotL_len aenc y (HH.out.good.key y hy) 5 (aenc_len _))
     clear h1 hus hdd
     go_wp2_with ((with_reducible refine at_load ⟨?_⟩);refine wl_loadW (b:=b7) (o:=1) (bys x.key) rFz f1 Tryz.underlying24 rfl (by rw [bys_len,Hxk.out];kernel_rfl) ?_)
     have hf:=findA_c HH.out.good (by rw [Hcl.out];exact Hcb.out) Hxk.out Hdd.out (hS10.sb:Sat w0 w10 (tbPt p 184 (.slice (some ⟨bM,0,none⟩) c c) t.n 0::osl 256 38 (.slice (some ⟨bM,0,none⟩) c c) (cur.flatMap (slotL aenc))::pt b7 (.cells (slotL aenc x).toArray 256 (0,0))::osl 256 38 (.slice (some ⟨bk,off,none⟩) t.slots.length lc) (t.slots.flatMap (slotL aenc))::F))
     clear hS10 f0 f1
     refine hf.mono ?_
     rintro ee w11 ⟨v,rfl,y,hy,rfl,hS11⟩
     clear hf hy
     have hlt2:=Tab.pos_lt (k:=x.key) (d:=dd) HH.out.good.pos_len
     rw [Hcl.out]at hlt2
     have Hset:=uQ (rows_set (f:=slotL aenc) (k:=38) (i:=Tab.pos x.key cur.length dd) (x:=x) Hcl38.out hl38 (Tab.pos_lt HH.out.good.pos_len))
     have Hst2:=uQ (HH.out.step Hok.out.good Hx.out H1.out Hdd.out)
     rw [Hcl.out]at Hset Hst2
     rw [Hcl.out]
     have hrl:(cur.flatMap (slotL aenc)).length=38 * c:=by rw [rows_len Hcl38.out,Hcl.out]
     generalize Tab.pos x.key c dd=P0 at *
     have c2:(0:Int)≤(P0:Int):=oQ
     have c3:(P0:Int)<(c:Int):=oQ
     go_wp2_with fail
     have hSd:=hS11.drew
     clear hS11
     refine wpL_begin [6,7] (fun w'=>w'.cell? ⟨p,0,none⟩=some (.slice (some ⟨bM,0,none⟩) c c)∧w'.rangeAt b7 0 (slotL aenc x)) kRz ?_
     have hG:World.cell? _ ⟨p,0,none⟩=some (.slice (some ⟨bM,0,none⟩) c c)∧World.rangeAt _ b7 0 (slotL aenc x):=⟨hSd.cellP pkD 0 rfl,pt_rangeL (hSd.pk (A:=pt b7 (.cells (slotL aenc x).toArray 256 (0,0))))⟩
     refine rP 0 ?_ (y:=mvQ)
     refine rP 1 ?_ (y:=nlQ)
     refine rP 2 ?_ (y:=flQ)
     refine rt 3 (h:=?_)
     refine rP 4 ?_ (y:=mvQ)
     refine rg_take 5 evD kRz i3z (tk_loadN (b:=b7) (o:=0) (slotL aenc x) rFz Tryz.underlying256 rfl (by rw [hl38];kernel_rfl) (fun w hw=>hw.2)) aQ gQ ?_
     refine rP 6 ?_ (y:=ixQ)
     clear hG
     refine rg_eff 7 evD kRz (fun K hK=>?_)
     refine eff_storeSN (vs:=slotL aenc x) (P0 * 38) hSd evD evD rfl (upd_there upd0) (by rw [hl38,hrl];omega) (by rw [hl38];kernel_rfl) (slotL_ones aenc x (aenc_ones _)) ?_
     intro w12 hS12
     refine hK _ _ (.inl rfl) ?_
     clear hK hSd
     refine wpL_done kRz ?_
     try simp only [ayQ]
     try go_frame
     rw [← Hset.out]at hS12
     go_wp2_with fail
     go_roundg (t.slots.length - (i+1))
     case measure=>have:=Hlt.out;omega
     case rel=>exact ⟨i+1,_,rfl,Hlt.out,by first|rfl|go_num,Hst2.out,by rw [List.length_set];exact Hcl.out,hS12.sb⟩
end
theorem run_slotA (k:Frm.Bs) (hk:k.length=32) (v:Rep.Abt) (w:World) :
  (Instr.build 256 #[(0,.int .i64 1),(1,.agg (bys k).toArray),(2,.agg (aenc v).toArray)]).run Tryz.prog w = .ok (.agg (slotL aenc ⟨1,k,v⟩).toArray) w:=by
 have hbk:(bys k).toArray.size=32:=by rw [List.size_toArray,bys_len,hk]
 refine (run_build (P:=Tryz.prog) [(0,.int .i64 1),(1,.agg (bys k).toArray),(2,.agg (aenc v).toArray)] plSlotA zSlotA (by
  intro p' hp
  simp only [List.mem_cons,List.not_mem_nil,or_false]at hp
  have hzz:(Value.agg (slotL aenc (⟨0,Frm.zero32,⟨0,Seg.Plc.zero,0⟩⟩:Tab.Slot (Rep.Abt))).toArray).cells.size=38:=by
   show (slotL aenc (⟨0,Frm.zero32,⟨0,Seg.Plc.zero,0⟩⟩:Tab.Slot (Rep.Abt))).toArray.size=38
   rw [List.size_toArray,slotL_len aenc _ dCz 5 rfl]
  rw [hzz]
  rcases hp with rfl|rfl|rfl
  ·exact ⟨0,rfl,by show 0+1≤38;omega⟩
  ·refine ⟨1,?_,?_⟩
   ·show some (1,32)=some (1,(bys k).toArray.size);rw [hbk]
   ·show 1+(bys k).toArray.size≤38;omega
  ·exact ⟨33,rfl,by show 33+5≤38;omega⟩) w).trans ?_
 rw [show (Value.agg (slotL aenc (⟨0,Frm.zero32,⟨0,Seg.Plc.zero,0⟩⟩:Tab.Slot (Rep.Abt))).toArray).cells=(slotL aenc (⟨0,Frm.zero32,⟨0,Seg.Plc.zero,0⟩⟩:Tab.Slot (Rep.Abt))).toArray from rfl,put_slot aenc ⟨0,Frm.zero32,⟨0,Seg.Plc.zero,0⟩⟩ k v dCz hk rfl 5 rfl]
section
variable {w0 w:World}{F R:List HProp}{p B:Nat}{sv:Value}{k:Frm.Bs}{m:Frm.Bs→Option (Rep.Abt)}
set_option maxRecDepth 20000 in
theorem putA_c (hB:B≤134217000) (hk:k.length=32) (v:Rep.Abt) (h:Sat w0 w (TabMA p m B::F)) :
  Calls Tryz.prog 118 #[ptr p,.agg (bys k).toArray,.agg (aenc v).toArray] w (Rtn fun _ w'=>Sat w0 w' (TabMA p (Tab.put m k v) (B+1)::F)):=by
 obtain ⟨t,sv,⟨ok,is,hb⟩,hR⟩:=TabMA.open h
 obtain ⟨d,he⟩:=ok.ends k
 have hsz:t.slots.length≤1073741824:=by have:=ok.size;omega
 have Hlen:=uQ (show ∀ x∈t.slots,(slotL aenc x).length=38 from fun x hx=>slotL_len aenc x (ok.good.key x hx) 5 (aenc_len _))
 obtain ⟨la,lc,rfl⟩:=osl_rows Hlen.out (Sat.rd (hR.pick pick1)) dCz
 have hrl:0<(t.slots.flatMap (slotL aenc)).length:=by rw [rows_len Hlen.out];have:=ok.good.pos_len;omega
 obtain ⟨bk,rfl⟩:=osl_zero (hR.pick pick1) hrl
 have Hk:=uQ hk;have Hok:=uQ ok;have His:=uQ is;have Hb:=uQ hb;have He:=uQ he;have Hsz:=uQ hsz;have HB:=uQ hB
 have Hp0:=uQ ok.good.pos_len
 have Hbs:=uQ (show (bys k).length=32 by rw [bys_len,hk])
 clear h hk ok is hb he hsz hB hrl
 go_enter Tryz.func118,Tryz.ntmps118
 go_wp2_with (with_reducible apply at_box)
 refine ⟨wl_box hR evD evD ?_⟩
 intro b4 w4 hS4
 go_wp2_with (with_reducible apply at_box)
 refine ⟨wl_box hS4 evD evD ?_⟩
 intro b5 w5 hS5
 have hA:Sat w0 w5 (tbPt p 184 (.slice (some ⟨bk,0,none⟩) t.slots.length lc) t.n t.gone::osl 256 38 (.slice (some ⟨bk,0,none⟩) t.slots.length lc) (t.slots.flatMap (slotL aenc))::pt b4 (.cells (bys k).toArray 24 (0,0))::pt b5 (.cells (aenc v).toArray 109 (0,0))::F):=hS5.sb
 clear hR hS4 hS5
 go_wp2_with fail
 refine (okA_c Hp0.out hA).mono ?_
 rintro ee w7 ⟨v',rfl,rfl,rfl⟩
 go_wp2_with ((with_reducible refine at_load ⟨?_⟩);refine wl_loadA hA rFz (pick_there (pick_there (pick0 (A:=pt b4 (.cells (bys k).toArray 24 (0,0)))))) Tryz.underlying24 rfl (by rw [List.size_toArray,Hbs.out];kernel_rfl) ?_)
 have hf:=findA_c Hok.out.good Hsz.out Hk.out He.out hA
 clear hA
 refine hf.mono ?_
 rintro ee w8 ⟨v',rfl,x,hx,rfl,hS8⟩
 clear hf
 have hlt:=Tab.pos_lt (k:=k) (d:=d) Hp0.out
 by_cases h1:x.st=1
 ·have hd:decide (x.st=1)=true:=decide_eq_true h1
  have hxm:=List.mem_of_getElem? hx
  have Hrow:=uQ (rows_part (f:=slotL aenc) (k:=38) (o:=33) (x':=⟨x.st,x.key,v⟩) (vs:=aenc v) Hlen.out hx (slotL_setv aenc x v (Hok.out.good.key x hxm) rfl) (by show 33+5≤38;decide))
  have Hok2:=uQ (Tab.put_old_ok Hok.out He.out hx h1 v)
  have His2:=uQ (Tab.is_put His.out (Tab.put_found Hok.out.good He.out hx h1 v).2 t.n t.gone)
  have hrl:(t.slots.flatMap (slotL aenc)).length=38 * t.slots.length:=rows_len Hlen.out
  clear hx hxm h1
  generalize Tab.pos k t.slots.length d=P0 at *
  have c0:(0:Int)≤(P0:Int):=oQ
  have c1:(P0:Int)<(t.slots.length:Int):=oQ
  go_wp2_with fail
  have hSd:=hS8.drew
  clear hS8
  refine wpL_begin [6,7,8] (fun w'=>w'.cell? ⟨p,0,none⟩=some (.slice (some ⟨bk,0,none⟩) t.slots.length lc)∧w'.rangeAt b5 0 (aenc v)) kRz ?_
  have hG:World.cell? _ ⟨p,0,none⟩=some (.slice (some ⟨bk,0,none⟩) t.slots.length lc)∧World.rangeAt _ b5 0 (aenc v):=⟨hSd.cellP pkD 0 rfl,pt_rangeL (hSd.pk (A:=pt b5 (.cells (aenc v).toArray 109 (0,0))))⟩
  refine rP 0 ?_ (y:=mvQ)
  refine rP 1 ?_ (y:=nlQ)
  refine rP 2 ?_ (y:=flQ)
  refine rt 3 (h:=?_)
  refine rP 4 ?_ (y:=mvQ)
  refine rg_take 5 evD kRz i3z (tk_loadN (b:=b5) (o:=0) (aenc v) rFz Tryz.underlying109 rfl kRz (fun w hw=>hw.2)) aQ gQ ?_
  refine rP 6 ?_ (y:=ixQ)
  refine rP 7 ?_ (y:=flQ)
  clear hG
  refine rg_eff 8 evD kRz (fun K hK=>?_)
  refine eff_storeSN (vs:=aenc v) (P0 * 38+33) hSd evD evD rfl (upd_there upd0) (by rw [hrl];show P0 * 38+33+5≤_;omega) kRz rFz ?_
  intro w12 hS12
  refine hK _ _ (.inl rfl) ?_
  clear hK hSd
  refine wpL_done kRz ?_
  try simp only [ayQ]
  try go_frame
  rw [← Hrow.out]at hS12
  go_wp2_with fail
  go_end0
  exact ⟨_,rfl,TabMA.shut (sv:= .slice (some ⟨bk,0,none⟩) t.slots.length lc) Hok2.out His2.out (Nat.le_succ_of_le Hb.out) (hS12.sb)⟩
 have hd:decide (x.st=1)=false:=decide_eq_false h1
 have hb4:=Hb.out
 have hB4:=HB.out
 have hsz4:=Hsz.out
 obtain ⟨hA1,hA2,hA3,hA4,hA1b,hA2b,hA3b,hA4b,hA5⟩:=wraps4 t.n t.gone t.slots.length oQ hsz4
 have Hx:=uQ hx;have H1:=uQ h1
 clear hx h1 hb4 hB4 hsz4
 go_wp2_with fail
 have hSd:=hS8.drew
 clear hS8
 have e0:World.cell? _ ⟨p,0,none⟩=some (.slice (some ⟨bk,0,none⟩) t.slots.length lc):=hSd.cellP pkD 0 rfl
 have e1:World.cell? _ ⟨p,1,none⟩=some (.int .i64 t.n):=hSd.cellP pkD 1 rfl
 have e2:World.cell? _ ⟨p,2,none⟩=some (.int .i64 t.gone):=hSd.cellP pkD 2 rfl
 go_region
 have hcmp:3 * t.slots.length<4 * (t.n+t.gone+1)∨4 * (t.n+t.gone+1)≤3 * t.slots.length:=oQ
 rcases hcmp with hcmp|hcmp
 focus
  have hci:(3:Int) * (t.slots.length:Int)<4 * ((t.n:Int)+(t.gone:Int)+1):=oQ
  have hrn:=renewA_c (N:=t.n+1) Hok.out (Nat.le_succ _) (by have:=Hb.out;have:=HB.out;omega) Hsz.out hSd
  rw [show (((t.n+1:Nat)):Int)=(t.n:Int)+1 by omega]at hrn
  clear hSd e0 e2
  go_wp2_with fail
  refine hrn.mono ?_
  rintro ee w9 ⟨v',rfl,s',sv',hren,hS9⟩
  clear hrn e1 hci hcmp
  have hok1:=hren.ok
  have his1:=hren.is His.out t.n 0
  have hld1:4 * ((⟨s',t.n,0⟩:Tab.Tb (Rep.Abt)).n+(⟨s',t.n,0⟩:Tab.Tb (Rep.Abt)).gone+1)≤3 * (⟨s',t.n,0⟩:Tab.Tb (Rep.Abt)).slots.length:=by have:=hren.lo;simp only;omega
  have hb1:(⟨s',t.n,0⟩:Tab.Tb (Rep.Abt)).n+(⟨s',t.n,0⟩:Tab.Tb (Rep.Abt)).gone≤B:=by have:=Hb.out;simp only;omega
  have hS10:Sat w0 w9 (tbPt p 184 sv' (⟨s',t.n,0⟩:Tab.Tb (Rep.Abt)).n (⟨s',t.n,0⟩:Tab.Tb (Rep.Abt)).gone::osl 256 38 sv' ((⟨s',t.n,0⟩:Tab.Tb (Rep.Abt)).slots.flatMap (slotL aenc))::pt b4 (.cells (bys k).toArray 24 (0,0))::pt b5 (.cells (aenc v).toArray 109 (0,0))::F):=hS9
  clear hS9 hren hA1 hA2 hA3 hA4 hA1b hA2b hA3b hA4b hA5
  generalize (⟨s',t.n,0⟩:Tab.Tb (Rep.Abt))=t1 at hok1 his1 hld1 hb1 hS10
  have Hlen1:=uQ (show ∀ x∈t1.slots,(slotL aenc x).length=38 from fun x hx=>slotL_len aenc x (hok1.good.key x hx) 5 (aenc_len _))
  obtain ⟨la1,lc1,rfl⟩:=osl_rows Hlen1.out (Sat.rd (hS10.pick pick1)) dCz
  have Hok1:=uQ hok1;have His1:=uQ his1;have Hld1:=uQ hld1;have Hb1:=uQ hb1
  obtain ⟨d1,he1⟩:=hok1.ends k
  have He1:=uQ he1
  have hno:m k=none:=by
   obtain ⟨_,q2⟩:=His.out.some Hok.out He.out Hx.out
   exact q2 H1.out
  have hsz1:t1.slots.length≤1073741824:=by have:=hok1.size;have:=HB.out;omega
  clear hok1 his1 hld1 hb1 he1
  go_wp2_with ((with_reducible refine at_load ⟨?_⟩);refine wl_loadA hS10 rFz (pick_there (pick_there (pick0 (A:=pt b4 (.cells (bys k).toArray 24 (0,0)))))) Tryz.underlying24 rfl (by rw [List.size_toArray,Hbs.out];kernel_rfl) ?_)
  have hf:=findA_c Hok1.out.good hsz1 Hk.out He1.out hS10
  clear hS10 hsz1
  refine hf.mono ?_
  rintro ee w8b ⟨v',rfl,x1,hx1,rfl,hT⟩
  have Hx1:=uQ hx1
  have H1f:=uQ (show x1.st≠1 from fun h=>by
   have:=(His1.out.some Hok1.out He1.out hx1).1 h
   rw [hno]at this;cases this)
  clear hf hx1 hno Hx H1 He Hok His Hlen Hp0 Hb Hsz hlt hd
  go_wp2_with fail
 rotate_left
 focus
  have hci:¬ (3:Int) * (t.slots.length:Int)<4 * ((t.n:Int)+(t.gone:Int)+1):=oQ
  have Hld1:=uQ hcmp
  clear e0 e1 e2 hcmp
  go_wp2_with fail
  clear hci hA1 hA2 hA3 hA4 hA1b hA2b hA3b hA4b hA5 hlt hd Hp0 Hsz
  obtain ⟨t1,rfl⟩:∃ y,y=t:=⟨t,rfl⟩
  obtain ⟨x1,rfl⟩:∃ y,y=x:=⟨x,rfl⟩
  obtain ⟨d1,rfl⟩:∃ y,y=d:=⟨d,rfl⟩
  obtain ⟨la1,hla1⟩:∃ y:Option Addr,y=some ⟨bk,0,none⟩:=⟨_,rfl⟩
  obtain ⟨lc1,rfl⟩:∃ y,y=lc:=⟨lc,rfl⟩
  rw [← hla1]at hSd
  have hT:=hSd
  have Hok1:=uQ Hok.out;have His1:=uQ His.out;have Hb1:=uQ Hb.out;have He1:=uQ He.out;have Hx1:=uQ Hx.out;have H1f:=uQ H1.out;have Hlen1:=uQ Hlen.out
  clear hSd Hok His Hb He Hx H1 Hlen hla1
 all_goals
  have hrl:(t1.slots.flatMap (slotL aenc)).length=38 * t1.slots.length:=rows_len Hlen1.out
  obtain ⟨bk1,rfl⟩:=osl_zero (hT.pick pick1) (by rw [hrl];have:=Hok1.out.good.pos_len;omega)
  have Hrow:=uQ (rows_set (f:=slotL aenc) (k:=38) (i:=Tab.pos k t1.slots.length d1) (x:=⟨1,k,v⟩) Hlen1.out (slotL_len aenc _ Hk.out 5 rfl) (Tab.pos_lt Hok1.out.good.pos_len))
  have Hok2:=uQ (Tab.put_new_ok Hok1.out Hld1.out He1.out Hx1.out H1f.out Hk.out v)
  have His2:=uQ (Tab.is_put His1.out (Tab.put_new Hok1.out.good He1.out Hx1.out H1f.out Hk.out v).2 (t1.n+1) t1.gone)
  have hlt1:=Tab.pos_lt (k:=k) (d:=d1) Hok1.out.good.pos_len
  have hls:=slotL_len aenc (⟨1,k,v⟩:Tab.Slot (Rep.Abt)) Hk.out 5 rfl
  have hwn:IntKind.i64.wrap ((t1.n:Int)+1)=(t1.n:Int)+1:=IntWalk.i64_in _ (by have:=Hb1.out;have:=HB.out;omega)
  clear Hx1 H1f He1 Hok1 His1 Hld1
  generalize Tab.pos k t1.slots.length d1=P1 at *
  have c0:(0:Int)≤(P1:Int):=oQ
  have c1:(P1:Int)<(t1.slots.length:Int):=oQ
  have hSd:=hT.drew
  clear hT
  refine wpL_begin [8,9] (fun w'=>w'.cell? ⟨p,0,none⟩=some (.slice (some ⟨bk1,0,none⟩) t1.slots.length lc1)∧w'.rangeAt b4 0 (bys k)∧w'.rangeAt b5 0 (aenc v)) kRz ?_
  have hG:World.cell? _ ⟨p,0,none⟩=some (.slice (some ⟨bk1,0,none⟩) t1.slots.length lc1)∧World.rangeAt _ b4 0 (bys k)∧World.rangeAt _ b5 0 (aenc v):=⟨hSd.cellP pkD 0 rfl,pt_rangeL (hSd.pk (A:=pt b4 (.cells (bys k).toArray 24 (0,0)))),pt_rangeL (hSd.pk (A:=pt b5 (.cells (aenc v).toArray 109 (0,0))))⟩
  refine rP 0 ?_ (y:=mvQ)
  refine rP 1 ?_ (y:=nlQ)
  refine rP 2 ?_ (y:=flQ)
  refine rt 3 (h:=?_)
  refine rP 4 ?_ (y:=mvQ)
  refine rg_take 5 evD kRz i3z (tk_loadN (b:=b4) (o:=0) (bys k) rFz Tryz.underlying24 rfl (by rw [Hbs.out];kernel_rfl) (fun w hw=>hw.2.1)) aQ gQ ?_
  refine rg_take 6 evD kRz i3z (tk_loadN (b:=b5) (o:=0) (aenc v) rFz Tryz.underlying109 rfl kRz (fun w hw=>hw.2.2)) aQ gQ ?_
  refine rP 7 ?_ (y:=(yl_build3 evD evD evD (fun w=>run_slotA k Hk.out v w)))
  refine rP 8 ?_ (y:=ixQ)
  clear hG
  refine rg_eff 9 evD kRz (fun K hK=>?_)
  refine eff_storeSN (vs:=slotL aenc ⟨1,k,v⟩) (P1 * 38) hSd evD evD rfl (upd_there upd0) (by rw [hrl,hls];omega) (by rw [hls];kernel_rfl) (slotL_ones aenc _ rFz) ?_
  intro w12 hS12
  refine hK _ _ (.inl rfl) ?_
  clear hK hSd
  refine wpL_done kRz ?_
  try simp only [ayQ]
  try go_frame
  rw [← Hrow.out]at hS12
  go_wp2_with (first
   |((with_reducible refine at_load ⟨?_⟩);refine wl_load1 hS12 rFz pkD nLz evD kRz ?_)
   |((with_reducible refine at_store ⟨?_⟩);refine wl_store aQ rFz evD pQ upD nLz kRz rFz ?_;intro wS hS))
  go_end0
  exact ⟨_,rfl,TabMA.shut (sv:= .slice (some ⟨bk1,0,none⟩) t1.slots.length lc1) Hok2.out His2.out (by have:=Hb1.out;simp only;omega) (hS.sb)⟩
end
set_option maxRecDepth 20000 in
theorem cmpA_c (x y:Tab.Slot (Rep.Abt)) (hx:x.key.length=32) (hy:y.key.length=32) (W:World) :
  Calls Tryz.prog 202 #[.agg (slotL aenc x).toArray,.agg (slotL aenc y).toArray] W fun e w'=>e = .returned (.int .i64 (Lib.compareBytes x.key y.key))∧∃ q os',w'=Sort.grow (W.drewN q) os':=by
 have h0:=Sat.start W
 have h1:=h0.alloc (.cells (slotL aenc x).toArray 256)
 have h2:=(h1.alloc (.cells (slotL aenc y).toArray 256)).drew
 have hsz:(W.alloc (.cells (slotL aenc x).toArray 256)).heap.size=W.heap.size+1:=Array.size_push ..
 rw [hsz]at h2
 have r1:rdsl 1 (.slice (some ⟨W.heap.size,1,none⟩) 32 32) (bys x.key) ((W.alloc (.cells (slotL aenc x).toArray 256)).alloc (.cells (slotL aenc y).toArray 256)).drew:=
  ⟨_,_,_,rfl,by rw [bys_len,hx],fun j z hj=>⟨_,rfl,by rw [adr_add];exact slot_key (h2.pick pick1) j z hj⟩⟩
 have r2:rdsl 1 (.slice (some ⟨W.heap.size+1,1,none⟩) 32 32) (bys y.key) ((W.alloc (.cells (slotL aenc x).toArray 256)).alloc (.cells (slotL aenc y).toArray 256)).drew:=
  ⟨_,_,_,rfl,by rw [bys_len,hy],fun j z hj=>⟨_,rfl,by rw [adr_add];exact slot_key (h2.pick pick0) j z hj⟩⟩
 have hb:=bcmp_c x.key y.key r1 r2
 clear h0 h1 h2 r1 r2 hsz
 generalize Lib.compareBytes x.key y.key=r at *
 go_enter Tryz.func202,Tryz.ntmps202
 go_wp2_with fail
 have hG:True:=trivial
 refine wpL_begin [] (fun w'=>True) kRz ?_
 refine rP 0 ?_ (y:=flQ)
 refine rp 1 (hy:=(by (refine Or.inl ⟨by rfl,?_⟩;((intro wq;go_simp);first|done|exact wQ)))) (h:=?_)
 refine rP 2 ?_ (y:=flQ)
 refine rp 3 (hy:=(by (refine Or.inl ⟨by rfl,?_⟩;((intro wq;go_simp);first|done|exact wQ)))) (h:=?_)
 refine rg_eff 4 evD kRz (fun K hK=>?_)
 (refine eff_call2 kRz evD evD ?_)
 refine hb.mono ?_
 rintro e w' ⟨rfl,rfl⟩
 refine hK _ _ (.inr (.inr rfl)) ?_
 clear hK hb
 refine rP 5 ?_ (y:=asQ)
 refine wpL_done kRz ?_
 clear hG
 go_wp2_with fail
 go_ret
 exact ⟨rfl,1,#[.cells (slotL aenc x).toArray 256,.cells (slotL aenc y).toArray 256],by rw [Sort.alloc_eq_grow,Sort.alloc_eq_grow,Sort.grow_grow,Sort.drew_grow];rfl⟩
open Go.Sort
abbrev SlKA:Type:={ x:Tab.Slot (Rep.Abt) // x.key.length=32 }
instance:Inhabited SlKA:=⟨⟨⟨0,Frm.zero32,⟨0,Seg.Plc.zero,0⟩⟩,rfl⟩⟩
section
variable {w0 w:World}{F:List HProp}{v:Value}
theorem sortA_c (l:List (Tab.Slot (Rep.Abt))) (hk:∀ x∈l,x.key.length=32) (hn:l.length≤1073741824) (h:Sat w0 w (osl 256 38 v (l.flatMap (slotL aenc))::F)) :
  Calls Tryz.prog 201 #[v,.func (.func 202) #[] #[]] w (Rtn fun _ w'=>∃ l':List (Tab.Slot (Rep.Abt)),(l'.Perm l∧l'.Pairwise fun a b=>¬ b.key<a.key)∧Sat w0 w' (osl 256 38 v (l'.flatMap (slotL aenc))::F)):=by
 have hlen:∀ x∈l,(slotL aenc x).length=38:=fun x hx=>slotL_len aenc x (hk x hx) 5 (aenc_len _)
 rcases h.osl_cases with ⟨rfl,hn',h'⟩|⟨g,n,cap,cs,rfl,hl,hn',hc,hcm,htk,hp⟩
 ·obtain rfl:l=[]:=by
   cases l with
   |nil=>rfl
   |cons x l=>rw [List.flatMap_cons]at hn';have:=congrArg List.length hn';rw [List.length_append,hlen x (.head _)]at this;simp at this
  refine (AnyF.slices_SortFunc_none Tryz.sortA none 0 (.func (.func 202) #[] #[]) w).mono ?_
  rintro e w1 ⟨rfl,rfl⟩
  exact ⟨_,rfl,[],⟨.refl _,.nil⟩,h⟩
 ·rw [rows_len hlen,Nat.mul_comm]at hl
  obtain rfl:n=l.length:=(Nat.eq_of_mul_eq_mul_right dCz hl).symm
  let d:Array SlKA:=(l.attach.map fun x=>(⟨x.1,hk x.1 x.2⟩:SlKA)).toArray
  have hd:d.toList.map (·.1)=l:=by
   show (l.attach.map fun x=>(⟨x.1,hk x.1 x.2⟩:SlKA)).map (·.1)=l
   rw [List.map_map]
   exact List.attach_map_subtype_val l
  have hds:d.size=l.length:=by rw [← hd,List.length_map,Array.length_toList]
  have hke:∀ x:SlKA,((fun x:SlKA=>slotL aenc x.1) x).length=38:=fun x=>slotL_len aenc x.1 x.2 5 (aenc_len _)
  have hfl:∀ d:Array SlKA,(flatK (fun x:SlKA=>slotL aenc x.1) 38 d).toList=(d.toList.map (·.1)).flatMap (slotL aenc):=fun d=>by
   rw [flatK_list hke dCz,List.flatMap_map]
  have hH:HoldsK (fun x:SlKA=>slotL aenc x.1) 38 w g 0 d:=holds_blockV hp.at (by rw [size_flatK,hds,hfl,hd];exact htk)
  refine (AnyQ.slices_SortFunc Tryz.sortA 38 Tryz.isAgg256 Tryz.sizeOf256 (fun x:SlKA=>slotL aenc x.1) hke (fun x v hv=>List.all_eq_true.1 (slotL_ones aenc x.1 (aenc_ones _)) v hv) (fun x y=>Lib.compareBytes x.1.key y.1.key) (Tab.swo_key fun x:SlKA=>x.1.key) 202 #[] g 0 cap d w (fun args w=>by kernel_rfl) (fun m os dk _ x y=>cmpA_c x.1 y.1 x.2 y.2 _) hH hp.lt oQ |> fun q=>(by rw [hds]at q;exact q:Calls Tryz.prog 201 #[.slice (some ⟨g,0,none⟩) l.length cap,.func (.func 202) #[] #[]] w _)).mono ?_
  rintro e w1 ⟨rfl,d',n',os,hpm,hst,rfl⟩
  obtain ⟨q1,q2⟩:=Tab.sorted_list (key:=fun x:SlKA=>x.1.key) (by rw [hds];exact hpm) (by rw [hds];exact hst)
  have hl':d'.toList.length=l.length:=by rw [q1.length_eq,Array.length_toList,hds]
  have hS:=sat_sorted (n:=n') (os:=os) hp (flatK (fun x:SlKA=>slotL aenc x.1) 38 d')
  have hsz':(flatK (fun x:SlKA=>slotL aenc x.1) 38 d').size=l.length * 38:=by rw [size_flatK,← Array.length_toList,hl']
  refine ⟨_,rfl,d'.toList.map (·.1),⟨by rw [← hd];exact q1.map _,List.pairwise_map.2 q2⟩,?_⟩
  refine hS.osl_of_pt ?_ hn' (by simpa [Sort.putCells] using hc) hcm ?_
  ·rw [← hfl,Array.length_toList,hsz']
  ·rw [← hfl,← hsz']
   refine take_putCellsV _ ?_
   have:l.length * 38≤cap * 38:=Nat.mul_le_mul_right _ hn'
   omega
end
end Go.Proofs.YtlinnpehkfbnkaaGreatDoor
namespace Go.Proofs.YtlinnpehkfbnkaaGreatDoor
open Go Go.Sl Go.Med Go.MapKept Go.RowKit
section
variable {w0 w:World}{F R:List HProp}{p B:Nat}{sv v:Value}{k:Frm.Bs}{m:Frm.Bs→Option (Rep.Abt)}{t:Tab.Tb (Rep.Abt)}
set_option maxRecDepth 20000 in
theorem risingA_c (hB:B≤13000000) (h:Sat w0 w (TabMA p m B::F)) :
  Calls Tryz.prog 177 #[ptr p] w (Rtn fun v w'=>∃ l:List (Tab.Slot (Rep.Abt)),(Tab.Lists m (l.map fun x=>(x.key,x.val))∧(∀ x∈l,x.st=1∧x.key.length=32)∧l.length≤B)∧Sat w0 w' (osl 256 38 v (l.flatMap (slotL aenc))::TabMA p m B::F)):=by
 obtain ⟨t,sv,⟨ok,is,hb⟩,hR⟩:=TabMA.open h
 have hsz:t.slots.length≤56000000:=by have:=ok.size;omega
 have Hlen:=uQ (show ∀ x∈t.slots,(slotL aenc x).length=38 from fun x hx=>slotL_len aenc x (ok.good.key x hx) 5 (aenc_len _))
 obtain ⟨la,lc,rfl⟩:=osl_rows Hlen.out (Sat.rd (hR.pick pick1)) dCz
 have Hok:=uQ ok;have His:=uQ is;have Hb:=uQ hb;have Hsz:=uQ hsz;have Hp0:=uQ ok.good.pos_len
 clear h ok is hb hB
 have hS0:Sat w0 w (osl 256 38 (.slice none 0 0) []::tbPt p 184 (.slice la t.slots.length lc) t.n t.gone::osl 256 38 (.slice la t.slots.length lc) (t.slots.flatMap (slotL aenc))::F):=Sat.osl_nil.2 hR
 clear hR
 go_enter Tryz.func177,Tryz.ntmps177
 go_wp2_with fail
 refine (okA_c Hp0.out (hS0.pick pick1)).mono ?_
 rintro ee w7 ⟨v,rfl,rfl,rfl⟩
 go_wp2_with ((with_reducible refine at_load ⟨?_⟩);refine wl_load1 hS0 rFz pkD nLz evD kRz ?_)
 go_loopg [3,14] t.slots.length (fun g oq iq wr=>∃ (i:Nat),g=t.slots.length - i∧i≤t.slots.length∧iq = .int .i64 i ∧
  Sat w0 wr (osl 256 38 oq (((t.slots.take i).filter fun x=>decide (x.st=1)).flatMap (slotL aenc))::tbPt p 184 (.slice la t.slots.length lc) t.n t.gone::osl 256 38 (.slice la t.slots.length lc) (t.slots.flatMap (slotL aenc))::F))
 case atStart=>exact ⟨0,rfl,Nat.zero_le _,rfl,hS0⟩
 case round=>
  obtain ⟨i,rfl,hi,rfl,hS⟩:=hrel
  clear hS0
  by_cases hlt:i<t.slots.length
  rotate_left
  ·obtain rfl:i=t.slots.length:=by omega
   have c1:¬ (t.slots.length:Int)<(t.slots.length:Int):=oQ
   rw [List.take_length]at hS
   have hfk:∀ x∈t.slots.filter fun x=>decide (x.st=1),x.key.length=32:=fun x hx=>Hok.out.good.key x (List.mem_filter.1 hx).1
   have hs:=sortA_c (t.slots.filter fun x=>decide (x.st=1)) hfk (Nat.le_trans (List.length_filter_le _ _) (Nat.le_trans hsz dCz)) hS
   clear hlt hi hS hfk
   go_wp2_with fail
   refine hs.mono ?_
   rintro ee w8 ⟨v,rfl,l,⟨h1,h2⟩,hS8⟩
   clear hs
   have Hl:=uQ (Tab.lists_of Hok.out.good His.out h1 h2)
   have Hll:=uQ (show l.length≤B from by
    rw [h1.length_eq,← List.countP_eq_length_filter]
    have e:t.slots.countP (fun x=>decide (x.st=1))=Tab.fulls t.slots:=by
     unfold Tab.fulls
     refine List.countP_congr fun x _=>?_
     simp
    have:=Hok.out.n;have:=Hb.out;omega)
   clear h1 h2
   go_wp2_with fail
   go_ret
   exact ⟨_,rfl,l,⟨Hl.out.1,Hl.out.2,Hll.out⟩,Sat.put1 (TabMA.shut Hok.out His.out Hb.out (hS8.sb))⟩
  have c1:(i:Int)<(t.slots.length:Int):=oQ
  have hwi:=iwQ (i:=i)
  obtain ⟨x,hx⟩:∃ x,t.slots[i]?=some x:=⟨_,List.getElem?_eq_getElem hlt⟩
  have hxm:=List.mem_of_getElem? hx
  have hst:=Hok.out.good.st x hxm
  have Hxk:=uQ (Hok.out.good.key x hxm)
  obtain ⟨bk,off,c',hsv,hcell⟩:=osl_row Hlen.out (Sat.rd (hS.pick pick2)) hx dCz
  cases hsv
  have hl38:=Hlen.out x hxm
  have htk:(t.slots.take (i+1)).filter (fun x=>decide (x.st=1))=(t.slots.take i).filter (fun x=>decide (x.st=1))++[x].filter fun x=>decide (x.st=1):=by
   rw [List.take_add_one,hx,Option.toList_some,List.filter_append]
  have Htk:=uQ htk
  have Hlt:=uQ hlt
  have hle5:(((t.slots.take i).filter fun x=>decide (x.st=1)).flatMap (slotL aenc)).length≤2147483648:=by
   rw [rows_len fun y hy=>Hlen.out y (List.mem_of_mem_take (List.mem_filter.1 hy).1)]
   have h1:=List.length_filter_le (fun x=>decide (x.st=1)) (t.slots.take i)
   have h2:=List.length_take_le' i t.slots
   have h3:=Hsz.out
   omega
  clear hx hxm hlt hi htk
  go_wp2_with (first
   |((with_reducible refine at_load ⟨?_⟩);refine wl_loadW (b:=bk) (o:=off+i * 38) (slotL aenc x) rFz hcell Tryz.underlying256 rfl (by rw [hl38];kernel_rfl) ?_)
   |(with_reducible apply at_alloc))
  refine ⟨wl_alloc zSlotA hS rfl ?_⟩
  intro b7 w7 hS7
  go_wp2_with (first|((with_reducible refine at_store ⟨?_⟩);refine wl_storeA (slotL aenc x).toArray hS7 rFz rFz (by rw [List.size_toArray,hl38];rfl) upd0 (by rw [List.size_toArray,hl38];kernel_rfl) (by rw [List.toList_toArray];exact slotL_ones aenc x (aenc_ones _)) ?_;intro w10 hS10)|(with_reducible apply at_load))
  refine ⟨?_⟩
  clear hS hS7 hcell
  have f0:w10.cell? ⟨b7,0,none⟩=some (.int .i64 x.st):=hS10.cellP pick0 0 (by rw [List.getElem?_toArray];rfl)
  by_cases h1:x.st=1
  rotate_left
  ·have hst1:((x.st:Int)==1)=false:=by rw [beq_eq_false_iff_ne];omega
   have e9:(t.slots.take (i+1)).filter (fun x=>decide (x.st=1))=(t.slots.take i).filter (fun x=>decide (x.st=1)):=by
    rw [Htk.out,List.filter_cons_of_neg (by rw [decide_eq_false h1];decide),List.filter_nil,List.append_nil]
   have E9:=uQ e9
   clear h1 e9
   go_wp2_with fail
   go_roundg (t.slots.length - (i+1))
   case measure=>have:=Hlt.out;omega
   case rel=>exact ⟨i+1,rfl,Hlt.out,by first|rfl|go_num,by rw [E9.out];exact hS10.sb⟩
  ·have hst1:((x.st:Int)==1)=true:=by rw [h1];rfl
   have e9:((t.slots.take (i+1)).filter (fun x=>decide (x.st=1))).flatMap (slotL aenc)=((t.slots.take i).filter (fun x=>decide (x.st=1))).flatMap (slotL aenc)++slotL aenc x:=by
    rw [Htk.out,List.filter_cons_of_pos (by rw [decide_eq_true h1]),List.filter_nil,List.flatMap_append,List.flatMap_cons,List.flatMap_nil,List.append_nil]
   have E9:=uQ e9
   clear h1 e9
   go_wp2_with (first
    |((with_reducible refine at_load ⟨?_⟩);refine wl_loadA hS10 rFz pkD Tryz.underlying256 rfl (by rw [List.size_toArray,hl38];kernel_rfl) ?_)
    |(with_reducible apply at_build1))
   refine ⟨wl_build1 (e:=256) (sz:=38) (by':=80) kRz hS10 rFz (cs:=(slotL aenc x).toArray) rfl (by rw [List.size_toArray,hl38]) dCz ?_⟩
   intro bN wN hN
   go_wp2_with (with_reducible apply at_append)
   refine ⟨wl_app 256 38 80 kRz hN rFz rFz pkD pick0 (by rw [List.size_toArray,hl38]) (Nat.le_refl 1) (by rw [List.toList_toArray];exact slotL_ones aenc x (aenc_ones _)) hle5 (by rw [List.size_toArray,hl38];decide) dCz (by rw [List.toList_toArray]) ?_⟩
   intro bA nA cA wA hA
   go_wp2_with fail
   rw [← E9.out]at hA
   go_roundg (t.slots.length - (i+1))
   case measure=>have:=Hlt.out;omega
   case rel=>exact ⟨i+1,rfl,Hlt.out,by first|rfl|go_num,hA.sb⟩
end
end Go.Proofs.YtlinnpehkfbnkaaGreatDoor
