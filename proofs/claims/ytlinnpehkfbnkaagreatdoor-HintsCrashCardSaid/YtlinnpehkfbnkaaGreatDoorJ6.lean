import Derived.Test.YtlinnpehkfbnkaaGreatDoorJ5
import Derived.Test.YtlinnpehkfbnkaaGreatDoorSort
import Derived.RangeFuncNested
import Derived.RangeFuncLeaves
import Derived.TacticsIn
import Derived.OrdersIn
import Derived.Lib.ConvBytes
import Derived.ArgAppend
import Derived.Laws.BitsAllLaws
set_option linter.unusedVariables false
set_option maxHeartbeats 128000000
namespace Go.Proofs.YtlinnpehkfbnkaaGreatDoor
open Go Go.Sl Go.Med Go.MapKept Go.RowKit
theorem run_slotL (k:Frm.Bs) (hk:k.length=32) (v:Seg.Plc) (w:World) :
  (Instr.build 230 #[(0,.int .i64 1),(1,.agg (bys k).toArray),(2,.agg (penc v).toArray)]).run Tryz.prog w = .ok (.agg (slotL penc ⟨1,k,v⟩).toArray) w:=by
 have hbk:(bys k).toArray.size=32:=by rw [List.size_toArray,bys_len,hk]
 refine (run_build (P:=Tryz.prog) [(0,.int .i64 1),(1,.agg (bys k).toArray),(2,.agg (penc v).toArray)] plSlotL zSlotL (by
  intro p' hp
  simp only [List.mem_cons,List.not_mem_nil,or_false]at hp
  have hzz:(Value.agg (slotL penc (⟨0,Frm.zero32,Seg.Plc.zero⟩:Tab.Slot (Seg.Plc))).toArray).cells.size=36:=by
   show (slotL penc (⟨0,Frm.zero32,Seg.Plc.zero⟩:Tab.Slot (Seg.Plc))).toArray.size=36
   rw [List.size_toArray,slotL_len penc _ dCz 3 rfl]
  rw [hzz]
  rcases hp with rfl|rfl|rfl
  ·exact ⟨0,rfl,by show 0+1≤36;omega⟩
  ·refine ⟨1,?_,?_⟩
   ·show some (1,32)=some (1,(bys k).toArray.size);rw [hbk]
   ·show 1+(bys k).toArray.size≤36;omega
  ·exact ⟨33,rfl,by show 33+3≤36;omega⟩) w).trans ?_
 rw [show (Value.agg (slotL penc (⟨0,Frm.zero32,Seg.Plc.zero⟩:Tab.Slot (Seg.Plc))).toArray).cells=(slotL penc (⟨0,Frm.zero32,Seg.Plc.zero⟩:Tab.Slot (Seg.Plc))).toArray from rfl,put_slot penc ⟨0,Frm.zero32,Seg.Plc.zero⟩ k v dCz hk rfl 3 rfl]
section
variable {w0 w:World}{F R:List HProp}{p B:Nat}{sv:Value}{k:Frm.Bs}{m:Frm.Bs→Option (Seg.Plc)}
set_option maxRecDepth 20000 in
theorem putL_c (hB:B≤134217000) (hk:k.length=32) (v:Seg.Plc) (h:Sat w0 w (TabML p m B::F)) :
  Calls Tryz.prog 82 #[ptr p,.agg (bys k).toArray,.agg (penc v).toArray] w (Rtn fun _ w'=>Sat w0 w' (TabML p (Tab.put m k v) (B+1)::F)):=by
 obtain ⟨t,sv,⟨ok,is,hb⟩,hR⟩:=TabML.open h
 obtain ⟨d,he⟩:=ok.ends k
 have hsz:t.slots.length≤1073741824:=by have:=ok.size;omega
 have Hlen:=uQ (show ∀ x∈t.slots,(slotL penc x).length=36 from fun x hx=>slotL_len penc x (ok.good.key x hx) 3 (penc_len _))
 obtain ⟨la,lc,rfl⟩:=osl_rows Hlen.out (Sat.rd (hR.pick pick1)) dCz
 have hrl:0<(t.slots.flatMap (slotL penc)).length:=by rw [rows_len Hlen.out];have:=ok.good.pos_len;omega
 obtain ⟨bk,rfl⟩:=osl_zero (hR.pick pick1) hrl
 have Hk:=uQ hk;have Hok:=uQ ok;have His:=uQ is;have Hb:=uQ hb;have He:=uQ he;have Hsz:=uQ hsz;have HB:=uQ hB
 have Hp0:=uQ ok.good.pos_len
 have Hbs:=uQ (show (bys k).length=32 by rw [bys_len,hk])
 clear h hk ok is hb he hsz hB hrl
 go_enter Tryz.func82,Tryz.ntmps82
 go_wp2_with (with_reducible apply at_box)
 refine ⟨wl_box hR evD evD ?_⟩
 intro b4 w4 hS4
 go_wp2_with (with_reducible apply at_box)
 refine ⟨wl_box hS4 evD evD ?_⟩
 intro b5 w5 hS5
 have hA:Sat w0 w5 (tbPt p 181 (.slice (some ⟨bk,0,none⟩) t.slots.length lc) t.n t.gone::osl 230 36 (.slice (some ⟨bk,0,none⟩) t.slots.length lc) (t.slots.flatMap (slotL penc))::pt b4 (.cells (bys k).toArray 24 (0,0))::pt b5 (.cells (penc v).toArray 54 (0,0))::F):=hS5.sb
 clear hR hS4 hS5
 go_wp2_with fail
 refine (okL_c Hp0.out hA).mono ?_
 rintro ee w7 ⟨v',rfl,rfl,rfl⟩
 go_wp2_with ((with_reducible refine at_load ⟨?_⟩);refine wl_loadA hA rFz (pick_there (pick_there (pick0 (A:=pt b4 (.cells (bys k).toArray 24 (0,0)))))) Tryz.underlying24 rfl (by rw [List.size_toArray,Hbs.out];kernel_rfl) ?_)
 have hf:=findL_c Hok.out.good Hsz.out Hk.out He.out hA
 clear hA
 refine hf.mono ?_
 rintro ee w8 ⟨v',rfl,x,hx,rfl,hS8⟩
 clear hf
 have hlt:=Tab.pos_lt (k:=k) (d:=d) Hp0.out
 by_cases h1:x.st=1
 ·have hd:decide (x.st=1)=true:=decide_eq_true h1
  have hxm:=List.mem_of_getElem? hx
  have Hrow:=uQ (rows_part (f:=slotL penc) (k:=36) (o:=33) (x':=⟨x.st,x.key,v⟩) (vs:=penc v) Hlen.out hx (slotL_setv penc x v (Hok.out.good.key x hxm) rfl) (by show 33+3≤36;decide))
  have Hok2:=uQ (Tab.put_old_ok Hok.out He.out hx h1 v)
  have His2:=uQ (Tab.is_put His.out (Tab.put_found Hok.out.good He.out hx h1 v).2 t.n t.gone)
  have hrl:(t.slots.flatMap (slotL penc)).length=36 * t.slots.length:=rows_len Hlen.out
  clear hx hxm h1
  generalize Tab.pos k t.slots.length d=P0 at *
  have c0:(0:Int)≤(P0:Int):=oQ
  have c1:(P0:Int)<(t.slots.length:Int):=oQ
  go_wp2_with fail
  have hSd:=hS8.drew
  clear hS8
  refine wpL_begin [6,7,8] (fun w'=>w'.cell? ⟨p,0,none⟩=some (.slice (some ⟨bk,0,none⟩) t.slots.length lc)∧w'.rangeAt b5 0 (penc v)) kRz ?_
  have hG:World.cell? _ ⟨p,0,none⟩=some (.slice (some ⟨bk,0,none⟩) t.slots.length lc)∧World.rangeAt _ b5 0 (penc v):=⟨hSd.cellP pkD 0 rfl,pt_rangeL (hSd.pk (A:=pt b5 (.cells (penc v).toArray 54 (0,0))))⟩
  refine rP 0 ?_ (y:=mvQ)
  refine rP 1 ?_ (y:=nlQ)
  refine rP 2 ?_ (y:=flQ)
  refine rt 3 (h:=?_)
  refine rP 4 ?_ (y:=mvQ)
  refine rg_take 5 evD kRz i3z (tk_loadN (b:=b5) (o:=0) (penc v) rFz Tryz.underlying54 rfl kRz (fun w hw=>hw.2)) aQ gQ ?_
  refine rP 6 ?_ (y:=ixQ)
  refine rP 7 ?_ (y:=flQ)
  clear hG
  refine rg_eff 8 evD kRz (fun K hK=>?_)
  refine eff_storeSN (vs:=penc v) (P0 * 36+33) hSd evD evD rfl (upd_there upd0) (by rw [hrl];show P0 * 36+33+3≤_;omega) kRz rFz ?_
  intro w12 hS12
  refine hK _ _ (.inl rfl) ?_
  clear hK hSd
  refine wpL_done kRz ?_
  try simp only [ayQ]
  try go_frame
  rw [← Hrow.out]at hS12
  go_wp2_with fail
  go_end0
  exact ⟨_,rfl,TabML.shut (sv:= .slice (some ⟨bk,0,none⟩) t.slots.length lc) Hok2.out His2.out (Nat.le_succ_of_le Hb.out) (hS12.sb)⟩
 have hd:decide (x.st=1)=false:=decide_eq_false h1
 have hb4:=Hb.out
 have hB4:=HB.out
 have hsz4:=Hsz.out
 obtain ⟨hA1,hA2,hA3,hA4,hA1b,hA2b,hA3b,hA4b,hA5⟩:=wraps4 t.n t.gone t.slots.length oQ hsz4
 have Hx:=uQ hx;have H1:=uQ h1
 clear hx h1 hb4 hB4 hsz4
 go_wp2_with fail
 have hSd:=hS8.drew
 clear hS8
 have e0:World.cell? _ ⟨p,0,none⟩=some (.slice (some ⟨bk,0,none⟩) t.slots.length lc):=hSd.cellP pkD 0 rfl
 have e1:World.cell? _ ⟨p,1,none⟩=some (.int .i64 t.n):=hSd.cellP pkD 1 rfl
 have e2:World.cell? _ ⟨p,2,none⟩=some (.int .i64 t.gone):=hSd.cellP pkD 2 rfl
 go_region
 have hcmp:3 * t.slots.length<4 * (t.n+t.gone+1)∨4 * (t.n+t.gone+1)≤3 * t.slots.length:=oQ
 rcases hcmp with hcmp|hcmp
 focus
  have hci:(3:Int) * (t.slots.length:Int)<4 * ((t.n:Int)+(t.gone:Int)+1):=oQ
  have hrn:=renewL_c (N:=t.n+1) Hok.out (Nat.le_succ _) (by have:=Hb.out;have:=HB.out;omega) Hsz.out hSd
  rw [show (((t.n+1:Nat)):Int)=(t.n:Int)+1 by omega]at hrn
  clear hSd e0 e2
  go_wp2_with fail
  refine hrn.mono ?_
  rintro ee w9 ⟨v',rfl,s',sv',hren,hS9⟩
  clear hrn e1 hci hcmp
  have hok1:=hren.ok
  have his1:=hren.is His.out t.n 0
  have hld1:4 * ((⟨s',t.n,0⟩:Tab.Tb (Seg.Plc)).n+(⟨s',t.n,0⟩:Tab.Tb (Seg.Plc)).gone+1)≤3 * (⟨s',t.n,0⟩:Tab.Tb (Seg.Plc)).slots.length:=by have:=hren.lo;simp only;omega
  have hb1:(⟨s',t.n,0⟩:Tab.Tb (Seg.Plc)).n+(⟨s',t.n,0⟩:Tab.Tb (Seg.Plc)).gone≤B:=by have:=Hb.out;simp only;omega
  have hS10:Sat w0 w9 (tbPt p 181 sv' (⟨s',t.n,0⟩:Tab.Tb (Seg.Plc)).n (⟨s',t.n,0⟩:Tab.Tb (Seg.Plc)).gone::osl 230 36 sv' ((⟨s',t.n,0⟩:Tab.Tb (Seg.Plc)).slots.flatMap (slotL penc))::pt b4 (.cells (bys k).toArray 24 (0,0))::pt b5 (.cells (penc v).toArray 54 (0,0))::F):=hS9
  clear hS9 hren hA1 hA2 hA3 hA4 hA1b hA2b hA3b hA4b hA5
  generalize (⟨s',t.n,0⟩:Tab.Tb (Seg.Plc))=t1 at hok1 his1 hld1 hb1 hS10
  have Hlen1:=uQ (show ∀ x∈t1.slots,(slotL penc x).length=36 from fun x hx=>slotL_len penc x (hok1.good.key x hx) 3 (penc_len _))
  obtain ⟨la1,lc1,rfl⟩:=osl_rows Hlen1.out (Sat.rd (hS10.pick pick1)) dCz
  have Hok1:=uQ hok1;have His1:=uQ his1;have Hld1:=uQ hld1;have Hb1:=uQ hb1
  obtain ⟨d1,he1⟩:=hok1.ends k
  have He1:=uQ he1
  have hno:m k=none:=by
   obtain ⟨_,q2⟩:=His.out.some Hok.out He.out Hx.out
   exact q2 H1.out
  have hsz1:t1.slots.length≤1073741824:=by have:=hok1.size;have:=HB.out;omega
  clear hok1 his1 hld1 hb1 he1
  go_wp2_with ((with_reducible refine at_load ⟨?_⟩);refine wl_loadA hS10 rFz (pick_there (pick_there (pick0 (A:=pt b4 (.cells (bys k).toArray 24 (0,0)))))) Tryz.underlying24 rfl (by rw [List.size_toArray,Hbs.out];kernel_rfl) ?_)
  have hf:=findL_c Hok1.out.good hsz1 Hk.out He1.out hS10
  clear hS10 hsz1
  refine hf.mono ?_
  rintro ee w8b ⟨v',rfl,x1,hx1,rfl,hT⟩
  have Hx1:=uQ hx1
  have H1f:=uQ (show x1.st≠1 from fun h=>by
   have:=(His1.out.some Hok1.out He1.out hx1).1 h
   rw [hno]at this;cases this)
  clear hf hx1 hno Hx H1 He Hok His Hlen Hp0 Hb Hsz hlt hd
  go_wp2_with fail
 rotate_left
 focus
  have hci:¬ (3:Int) * (t.slots.length:Int)<4 * ((t.n:Int)+(t.gone:Int)+1):=oQ
  have Hld1:=uQ hcmp
  clear e0 e1 e2 hcmp
  go_wp2_with fail
  clear hci hA1 hA2 hA3 hA4 hA1b hA2b hA3b hA4b hA5 hlt hd Hp0 Hsz
  obtain ⟨t1,rfl⟩:∃ y,y=t:=⟨t,rfl⟩
  obtain ⟨x1,rfl⟩:∃ y,y=x:=⟨x,rfl⟩
  obtain ⟨d1,rfl⟩:∃ y,y=d:=⟨d,rfl⟩
  obtain ⟨la1,hla1⟩:∃ y:Option Addr,y=some ⟨bk,0,none⟩:=⟨_,rfl⟩
  obtain ⟨lc1,rfl⟩:∃ y,y=lc:=⟨lc,rfl⟩
  rw [← hla1]at hSd
  have hT:=hSd
  have Hok1:=uQ Hok.out;have His1:=uQ His.out;have Hb1:=uQ Hb.out;have He1:=uQ He.out;have Hx1:=uQ Hx.out;have H1f:=uQ H1.out;have Hlen1:=uQ Hlen.out
  clear hSd Hok His Hb He Hx H1 Hlen hla1
 all_goals
  have hrl:(t1.slots.flatMap (slotL penc)).length=36 * t1.slots.length:=rows_len Hlen1.out
  obtain ⟨bk1,rfl⟩:=osl_zero (hT.pick pick1) (by rw [hrl];have:=Hok1.out.good.pos_len;omega)
  have Hrow:=uQ (rows_set (f:=slotL penc) (k:=36) (i:=Tab.pos k t1.slots.length d1) (x:=⟨1,k,v⟩) Hlen1.out (slotL_len penc _ Hk.out 3 rfl) (Tab.pos_lt Hok1.out.good.pos_len))
  have Hok2:=uQ (Tab.put_new_ok Hok1.out Hld1.out He1.out Hx1.out H1f.out Hk.out v)
  have His2:=uQ (Tab.is_put His1.out (Tab.put_new Hok1.out.good He1.out Hx1.out H1f.out Hk.out v).2 (t1.n+1) t1.gone)
  have hlt1:=Tab.pos_lt (k:=k) (d:=d1) Hok1.out.good.pos_len
  have hls:=slotL_len penc (⟨1,k,v⟩:Tab.Slot (Seg.Plc)) Hk.out 3 rfl
  have hwn:IntKind.i64.wrap ((t1.n:Int)+1)=(t1.n:Int)+1:=IntWalk.i64_in _ (by have:=Hb1.out;have:=HB.out;omega)
  clear Hx1 H1f He1 Hok1 His1 Hld1
  generalize Tab.pos k t1.slots.length d1=P1 at *
  have c0:(0:Int)≤(P1:Int):=oQ
  have c1:(P1:Int)<(t1.slots.length:Int):=oQ
  have hSd:=hT.drew
  clear hT
  refine wpL_begin [8,9] (fun w'=>w'.cell? ⟨p,0,none⟩=some (.slice (some ⟨bk1,0,none⟩) t1.slots.length lc1)∧w'.rangeAt b4 0 (bys k)∧w'.rangeAt b5 0 (penc v)) kRz ?_
  have hG:World.cell? _ ⟨p,0,none⟩=some (.slice (some ⟨bk1,0,none⟩) t1.slots.length lc1)∧World.rangeAt _ b4 0 (bys k)∧World.rangeAt _ b5 0 (penc v):=⟨hSd.cellP pkD 0 rfl,pt_rangeL (hSd.pk (A:=pt b4 (.cells (bys k).toArray 24 (0,0)))),pt_rangeL (hSd.pk (A:=pt b5 (.cells (penc v).toArray 54 (0,0))))⟩
  refine rP 0 ?_ (y:=mvQ)
  refine rP 1 ?_ (y:=nlQ)
  refine rP 2 ?_ (y:=flQ)
  refine rt 3 (h:=?_)
  refine rP 4 ?_ (y:=mvQ)
  refine rg_take 5 evD kRz i3z (tk_loadN (b:=b4) (o:=0) (bys k) rFz Tryz.underlying24 rfl (by rw [Hbs.out];kernel_rfl) (fun w hw=>hw.2.1)) aQ gQ ?_
  refine rg_take 6 evD kRz i3z (tk_loadN (b:=b5) (o:=0) (penc v) rFz Tryz.underlying54 rfl kRz (fun w hw=>hw.2.2)) aQ gQ ?_
  refine rP 7 ?_ (y:=(yl_build3 evD evD evD (fun w=>run_slotL k Hk.out v w)))
  refine rP 8 ?_ (y:=ixQ)
  clear hG
  refine rg_eff 9 evD kRz (fun K hK=>?_)
  refine eff_storeSN (vs:=slotL penc ⟨1,k,v⟩) (P1 * 36) hSd evD evD rfl (upd_there upd0) (by rw [hrl,hls];omega) (by rw [hls];kernel_rfl) (slotL_ones penc _ rFz) ?_
  intro w12 hS12
  refine hK _ _ (.inl rfl) ?_
  clear hK hSd
  refine wpL_done kRz ?_
  try simp only [ayQ]
  try go_frame
  rw [← Hrow.out]at hS12
  go_wp2_with (first
   |((with_reducible refine at_load ⟨?_⟩);refine wl_load1 hS12 rFz pkD nLz evD kRz ?_)
   |((with_reducible refine at_store ⟨?_⟩);refine wl_store aQ rFz evD pQ upD nLz kRz rFz ?_;intro wS hS))
  go_end0
  exact ⟨_,rfl,TabML.shut (sv:= .slice (some ⟨bk1,0,none⟩) t1.slots.length lc1) Hok2.out His2.out (by have:=Hb1.out;simp only;omega) (hS.sb)⟩
end
set_option maxRecDepth 20000 in
theorem cmpL_c (x y:Tab.Slot (Seg.Plc)) (hx:x.key.length=32) (hy:y.key.length=32) (W:World) :
  Calls Tryz.prog 195 #[.agg (slotL penc x).toArray,.agg (slotL penc y).toArray] W fun e w'=>e = .returned (.int .i64 (Lib.compareBytes x.key y.key))∧∃ q os',w'=Sort.grow (W.drewN q) os':=by
 have h0:=Sat.start W
 have h1:=h0.alloc (.cells (slotL penc x).toArray 230)
 have h2:=(h1.alloc (.cells (slotL penc y).toArray 230)).drew
 have hsz:(W.alloc (.cells (slotL penc x).toArray 230)).heap.size=W.heap.size+1:=Array.size_push ..
 rw [hsz]at h2
 have r1:rdsl 1 (.slice (some ⟨W.heap.size,1,none⟩) 32 32) (bys x.key) ((W.alloc (.cells (slotL penc x).toArray 230)).alloc (.cells (slotL penc y).toArray 230)).drew:=
  ⟨_,_,_,rfl,by rw [bys_len,hx],fun j z hj=>⟨_,rfl,by rw [adr_add];exact slot_key (h2.pick pick1) j z hj⟩⟩
 have r2:rdsl 1 (.slice (some ⟨W.heap.size+1,1,none⟩) 32 32) (bys y.key) ((W.alloc (.cells (slotL penc x).toArray 230)).alloc (.cells (slotL penc y).toArray 230)).drew:=
  ⟨_,_,_,rfl,by rw [bys_len,hy],fun j z hj=>⟨_,rfl,by rw [adr_add];exact slot_key (h2.pick pick0) j z hj⟩⟩
 have hb:=bcmp_c x.key y.key r1 r2
 clear h0 h1 h2 r1 r2 hsz
 generalize Lib.compareBytes x.key y.key=r at *
 go_enter Tryz.func195,Tryz.ntmps195
 go_wp2_with fail
 have hG:True:=trivial
 refine wpL_begin [] (fun w'=>True) kRz ?_
 refine rP 0 ?_ (y:=flQ)
 refine rp 1 (hy:=(by (refine Or.inl ⟨by rfl,?_⟩;((intro wq;go_simp);first|done|exact wQ)))) (h:=?_)
 refine rP 2 ?_ (y:=flQ)
 refine rp 3 (hy:=(by (refine Or.inl ⟨by rfl,?_⟩;((intro wq;go_simp);first|done|exact wQ)))) (h:=?_)
 refine rg_eff 4 evD kRz (fun K hK=>?_)
 (refine eff_call2 kRz evD evD ?_)
 refine hb.mono ?_
 rintro e w' ⟨rfl,rfl⟩
 refine hK _ _ (.inr (.inr rfl)) ?_
 clear hK hb
 refine rP 5 ?_ (y:=asQ)
 refine wpL_done kRz ?_
 clear hG
 go_wp2_with fail
 go_ret
 exact ⟨rfl,1,#[.cells (slotL penc x).toArray 230,.cells (slotL penc y).toArray 230],by rw [Sort.alloc_eq_grow,Sort.alloc_eq_grow,Sort.grow_grow,Sort.drew_grow];rfl⟩
open Go.Sort
abbrev SlKL:Type:={ x:Tab.Slot (Seg.Plc) // x.key.length=32 }
instance:Inhabited SlKL:=⟨⟨⟨0,Frm.zero32,Seg.Plc.zero⟩,rfl⟩⟩
section
variable {w0 w:World}{F:List HProp}{v:Value}
theorem sortL_c (l:List (Tab.Slot (Seg.Plc))) (hk:∀ x∈l,x.key.length=32) (hn:l.length≤1073741824) (h:Sat w0 w (osl 230 36 v (l.flatMap (slotL penc))::F)) :
  Calls Tryz.prog 194 #[v,.func (.func 195) #[] #[]] w (Rtn fun _ w'=>∃ l':List (Tab.Slot (Seg.Plc)),(l'.Perm l∧l'.Pairwise fun a b=>¬ b.key<a.key)∧Sat w0 w' (osl 230 36 v (l'.flatMap (slotL penc))::F)):=by
 have hlen:∀ x∈l,(slotL penc x).length=36:=fun x hx=>slotL_len penc x (hk x hx) 3 (penc_len _)
 rcases h.osl_cases with ⟨rfl,hn',h'⟩|⟨g,n,cap,cs,rfl,hl,hn',hc,hcm,htk,hp⟩
 ·obtain rfl:l=[]:=by
   cases l with
   |nil=>rfl
   |cons x l=>rw [List.flatMap_cons]at hn';have:=congrArg List.length hn';rw [List.length_append,hlen x (.head _)]at this;simp at this
  refine (AnyF.slices_SortFunc_none Tryz.sortL none 0 (.func (.func 195) #[] #[]) w).mono ?_
  rintro e w1 ⟨rfl,rfl⟩
  exact ⟨_,rfl,[],⟨.refl _,.nil⟩,h⟩
 ·rw [rows_len hlen,Nat.mul_comm]at hl
  obtain rfl:n=l.length:=(Nat.eq_of_mul_eq_mul_right dCz hl).symm
  let d:Array SlKL:=(l.attach.map fun x=>(⟨x.1,hk x.1 x.2⟩:SlKL)).toArray
  have hd:d.toList.map (·.1)=l:=by
   show (l.attach.map fun x=>(⟨x.1,hk x.1 x.2⟩:SlKL)).map (·.1)=l
   rw [List.map_map]
   exact List.attach_map_subtype_val l
  have hds:d.size=l.length:=by rw [← hd,List.length_map,Array.length_toList]
  have hke:∀ x:SlKL,((fun x:SlKL=>slotL penc x.1) x).length=36:=fun x=>slotL_len penc x.1 x.2 3 (penc_len _)
  have hfl:∀ d:Array SlKL,(flatK (fun x:SlKL=>slotL penc x.1) 36 d).toList=(d.toList.map (·.1)).flatMap (slotL penc):=fun d=>by
   rw [flatK_list hke dCz,List.flatMap_map]
  have hH:HoldsK (fun x:SlKL=>slotL penc x.1) 36 w g 0 d:=holds_blockV hp.at (by rw [size_flatK,hds,hfl,hd];exact htk)
  refine (AnyQ.slices_SortFunc Tryz.sortL 36 Tryz.isAgg230 Tryz.sizeOf230 (fun x:SlKL=>slotL penc x.1) hke (fun x v hv=>List.all_eq_true.1 (slotL_ones penc x.1 (penc_ones _)) v hv) (fun x y=>Lib.compareBytes x.1.key y.1.key) (Tab.swo_key fun x:SlKL=>x.1.key) 195 #[] g 0 cap d w (fun args w=>by kernel_rfl) (fun m os dk _ x y=>cmpL_c x.1 y.1 x.2 y.2 _) hH hp.lt oQ |> fun q=>(by rw [hds]at q;exact q:Calls Tryz.prog 194 #[.slice (some ⟨g,0,none⟩) l.length cap,.func (.func 195) #[] #[]] w _)).mono ?_
  rintro e w1 ⟨rfl,d',n',os,hpm,hst,rfl⟩
  obtain ⟨q1,q2⟩:=Tab.sorted_list (key:=fun x:SlKL=>x.1.key) (by rw [hds];exact hpm) (by rw [hds];exact hst)
  have hl':d'.toList.length=l.length:=by rw [q1.length_eq,Array.length_toList,hds]
  have hS:=sat_sorted (n:=n') (os:=os) hp (flatK (fun x:SlKL=>slotL penc x.1) 36 d')
  have hsz':(flatK (fun x:SlKL=>slotL penc x.1) 36 d').size=l.length * 36:=by rw [size_flatK,← Array.length_toList,hl']
  refine ⟨_,rfl,d'.toList.map (·.1),⟨by rw [← hd];exact q1.map _,List.pairwise_map.2 q2⟩,?_⟩
  refine hS.osl_of_pt ?_ hn' (by simpa [Sort.putCells] using hc) hcm ?_
  ·rw [← hfl,Array.length_toList,hsz']
  ·rw [← hfl,← hsz']
   refine take_putCellsV _ ?_
   have:l.length * 36≤cap * 36:=Nat.mul_le_mul_right _ hn'
   omega
end
end Go.Proofs.YtlinnpehkfbnkaaGreatDoor
namespace Go.Proofs.YtlinnpehkfbnkaaGreatDoor
open Go Go.Sl Go.Med Go.MapKept Go.RowKit
section
variable {w0 w:World}{F R:List HProp}{p B:Nat}{sv v:Value}{k:Frm.Bs}{m:Frm.Bs→Option (Seg.Plc)}{t:Tab.Tb (Seg.Plc)}
set_option maxRecDepth 20000 in
theorem risingL_c (hB:B≤13000000) (h:Sat w0 w (TabML p m B::F)) :
  Calls Tryz.prog 155 #[ptr p] w (Rtn fun v w'=>∃ l:List (Tab.Slot (Seg.Plc)),(Tab.Lists m (l.map fun x=>(x.key,x.val))∧(∀ x∈l,x.st=1∧x.key.length=32)∧l.length≤B)∧Sat w0 w' (osl 230 36 v (l.flatMap (slotL penc))::TabML p m B::F)):=by
 obtain ⟨t,sv,⟨ok,is,hb⟩,hR⟩:=TabML.open h
 have hsz:t.slots.length≤56000000:=by have:=ok.size;omega
 have Hlen:=uQ (show ∀ x∈t.slots,(slotL penc x).length=36 from fun x hx=>slotL_len penc x (ok.good.key x hx) 3 (penc_len _))
 obtain ⟨la,lc,rfl⟩:=osl_rows Hlen.out (Sat.rd (hR.pick pick1)) dCz
 have Hok:=uQ ok;have His:=uQ is;have Hb:=uQ hb;have Hsz:=uQ hsz;have Hp0:=uQ ok.good.pos_len
 clear h ok is hb hB
 have hS0:Sat w0 w (osl 230 36 (.slice none 0 0) []::tbPt p 181 (.slice la t.slots.length lc) t.n t.gone::osl 230 36 (.slice la t.slots.length lc) (t.slots.flatMap (slotL penc))::F):=Sat.osl_nil.2 hR
 clear hR
 go_enter Tryz.func155,Tryz.ntmps155
 go_wp2_with fail
 refine (okL_c Hp0.out (hS0.pick pick1)).mono ?_
 rintro ee w7 ⟨v,rfl,rfl,rfl⟩
 go_wp2_with ((with_reducible refine at_load ⟨?_⟩);refine wl_load1 hS0 rFz pkD nLz evD kRz ?_)
 go_loopg [3,14] t.slots.length (fun g oq iq wr=>∃ (i:Nat),g=t.slots.length - i∧i≤t.slots.length∧iq = .int .i64 i ∧
  Sat w0 wr (osl 230 36 oq (((t.slots.take i).filter fun x=>decide (x.st=1)).flatMap (slotL penc))::tbPt p 181 (.slice la t.slots.length lc) t.n t.gone::osl 230 36 (.slice la t.slots.length lc) (t.slots.flatMap (slotL penc))::F))
 case atStart=>exact ⟨0,rfl,Nat.zero_le _,rfl,hS0⟩
 case round=>
  obtain ⟨i,rfl,hi,rfl,hS⟩:=hrel
  clear hS0
  by_cases hlt:i<t.slots.length
  rotate_left
  ·obtain rfl:i=t.slots.length:=by omega
   have c1:¬ (t.slots.length:Int)<(t.slots.length:Int):=oQ
   rw [List.take_length]at hS
   have hfk:∀ x∈t.slots.filter fun x=>decide (x.st=1),x.key.length=32:=fun x hx=>Hok.out.good.key x (List.mem_filter.1 hx).1
   have hs:=sortL_c (t.slots.filter fun x=>decide (x.st=1)) hfk (Nat.le_trans (List.length_filter_le _ _) (Nat.le_trans hsz dCz)) hS
   clear hlt hi hS hfk
   go_wp2_with fail
   refine hs.mono ?_
   rintro ee w8 ⟨v,rfl,l,⟨h1,h2⟩,hS8⟩
   clear hs
   have Hl:=uQ (Tab.lists_of Hok.out.good His.out h1 h2)
   have Hll:=uQ (show l.length≤B from by
    rw [h1.length_eq,← List.countP_eq_length_filter]
    have e:t.slots.countP (fun x=>decide (x.st=1))=Tab.fulls t.slots:=by
     unfold Tab.fulls
     refine List.countP_congr fun x _=>?_
     simp
    have:=Hok.out.n;have:=Hb.out;omega)
   clear h1 h2
   go_wp2_with fail
   go_ret
   exact ⟨_,rfl,l,⟨Hl.out.1,Hl.out.2,Hll.out⟩,Sat.put1 (TabML.shut Hok.out His.out Hb.out (hS8.sb))⟩
  have c1:(i:Int)<(t.slots.length:Int):=oQ
  have hwi:=iwQ (i:=i)
  obtain ⟨x,hx⟩:∃ x,t.slots[i]?=some x:=⟨_,List.getElem?_eq_getElem hlt⟩
  have hxm:=List.mem_of_getElem? hx
  have hst:=Hok.out.good.st x hxm
  have Hxk:=uQ (Hok.out.good.key x hxm)
  obtain ⟨bk,off,c',hsv,hcell⟩:=osl_row Hlen.out (Sat.rd (hS.pick pick2)) hx dCz
  cases hsv
  have hl38:=Hlen.out x hxm
  have htk:(t.slots.take (i+1)).filter (fun x=>decide (x.st=1))=(t.slots.take i).filter (fun x=>decide (x.st=1))++[x].filter fun x=>decide (x.st=1):=by
   rw [List.take_add_one,hx,Option.toList_some,List.filter_append]
  have Htk:=uQ htk
  have Hlt:=uQ hlt
  have hle5:(((t.slots.take i).filter fun x=>decide (x.st=1)).flatMap (slotL penc)).length≤2147483648:=by
   rw [rows_len fun y hy=>Hlen.out y (List.mem_of_mem_take (List.mem_filter.1 hy).1)]
   have h1:=List.length_filter_le (fun x=>decide (x.st=1)) (t.slots.take i)
   have h2:=List.length_take_le' i t.slots
   have h3:=Hsz.out
   omega
  clear hx hxm hlt hi htk
  go_wp2_with (first
   |((with_reducible refine at_load ⟨?_⟩);refine wl_loadW (b:=bk) (o:=off+i * 36) (slotL penc x) rFz hcell Tryz.underlying230 rfl (by rw [hl38];kernel_rfl) ?_)
   |(with_reducible apply at_alloc))
  refine ⟨wl_alloc zSlotL hS rfl ?_⟩
  intro b7 w7 hS7
  go_wp2_with (first|((with_reducible refine at_store ⟨?_⟩);refine wl_storeA (slotL penc x).toArray hS7 rFz rFz (by rw [List.size_toArray,hl38];rfl) upd0 (by rw [List.size_toArray,hl38];kernel_rfl) (by rw [List.toList_toArray];exact slotL_ones penc x (penc_ones _)) ?_;intro w10 hS10)|(with_reducible apply at_load))
  refine ⟨?_⟩
  clear hS hS7 hcell
  have f0:w10.cell? ⟨b7,0,none⟩=some (.int .i64 x.st):=hS10.cellP pick0 0 (by rw [List.getElem?_toArray];rfl)
  by_cases h1:x.st=1
  rotate_left
  ·have hst1:((x.st:Int)==1)=false:=by rw [beq_eq_false_iff_ne];omega
   have e9:(t.slots.take (i+1)).filter (fun x=>decide (x.st=1))=(t.slots.take i).filter (fun x=>decide (x.st=1)):=by
    rw [Htk.out,List.filter_cons_of_neg (by rw [decide_eq_false h1];decide),List.filter_nil,List.append_nil]
   have E9:=uQ e9
   clear h1 e9
   go_wp2_with fail
   go_roundg (t.slots.length - (i+1))
   case measure=>have:=Hlt.out;omega
   case rel=>exact ⟨i+1,rfl,Hlt.out,by first|rfl|go_num,by rw [E9.out];exact hS10.sb⟩
  ·have hst1:((x.st:Int)==1)=true:=by rw [h1];rfl
   have e9:((t.slots.take (i+1)).filter (fun x=>decide (x.st=1))).flatMap (slotL penc)=((t.slots.take i).filter (fun x=>decide (x.st=1))).flatMap (slotL penc)++slotL penc x:=by
    rw [Htk.out,List.filter_cons_of_pos (by rw [decide_eq_true h1]),List.filter_nil,List.flatMap_append,List.flatMap_cons,List.flatMap_nil,List.append_nil]
   have E9:=uQ e9
   clear h1 e9
   go_wp2_with (first
    |((with_reducible refine at_load ⟨?_⟩);refine wl_loadA hS10 rFz pkD Tryz.underlying230 rfl (by rw [List.size_toArray,hl38];kernel_rfl) ?_)
    |(with_reducible apply at_build1))
   refine ⟨wl_build1 (e:=230) (sz:=36) (by':=64) kRz hS10 rFz (cs:=(slotL penc x).toArray) rfl (by rw [List.size_toArray,hl38]) dCz ?_⟩
   intro bN wN hN
   go_wp2_with (with_reducible apply at_append)
   refine ⟨wl_app 230 36 64 kRz hN rFz rFz pkD pick0 (by rw [List.size_toArray,hl38]) (Nat.le_refl 1) (by rw [List.toList_toArray];exact slotL_ones penc x (penc_ones _)) hle5 (by rw [List.size_toArray,hl38];decide) dCz (by rw [List.toList_toArray]) ?_⟩
   intro bA nA cA wA hA
   go_wp2_with fail
   rw [← E9.out]at hA
   go_roundg (t.slots.length - (i+1))
   case measure=>have:=Hlt.out;omega
   case rel=>exact ⟨i+1,rfl,Hlt.out,by first|rfl|go_num,hA.sb⟩
end
end Go.Proofs.YtlinnpehkfbnkaaGreatDoor
namespace Go
open Go.Sl
variable {P:Program}{ops:Array Oper}{Q:Exit→Act→World→Prop}{K:Act→World→Prop}{l:Option Nat}{n:Nat}
abbrev rf (l:Option Nat):Fence:={ Fence.wide with round:=l }
abbrev calm (K:Act→World→Prop):Exit→Act→World→Prop:=Exit.then K fun _ _ _=>False
theorem calm_out:¬ LetsOut (calm K):=fun ⟨_,_,h⟩=>h
theorem rowsIn_rf {row:String}{args:Array Value}{w:World}{R:Value→World→Prop} (h:Rows P row args w R):RowsIn (rf l) n P row args w R:=fun c cs _=>by
 obtain ⟨v,w',r,s⟩:=h c cs
 exact ⟨v,w',r,stepsIn_wide.2 s⟩
theorem op_in {o:Oper}{a:Act}{w:World}{N N':Act→World→Prop} (ho:∀ c,o.op ≠ .defer c) (hN:∀ a w,N a w→N' a w) (h:o.wp P a w N (calm K)):o.wpIn (rf l) n P a w N' Q:=by
 refine ⟨fun _ _=>trivial,?_⟩
 rw [Oper.semAt_eq _ _ _ ho]
 unfold Oper.wp at h
 generalize (execOp a.eval o).run P w=r at h ⊢
 cases r with
 |ok x w'=>
  cases x with
  |value v=>exact hN _ _ h
  |skip=>exact hN _ _ h
  |defer d=>exact hN _ _ h
  |enter f args=>
   refine ⟨(fun hd=>by cases hd),?_⟩
   refine CallsIn.mono (callsIn_wide.2 h) fun e w'' he=>?_
   cases e with
   |returned v=>exact hN _ _ he
   |panicked c=>exact False.elim he
   |outgrown=>exact (calm_out he).elim
  |row row args=>exact ⟨(fun hd=>by cases hd),(rowsIn_rf h).mono fun v w'' he=>hN _ _ he⟩
  |round l' f tmps assign body=>exact h.elim
  |_=>exact h.elim
 |halt x w'=>
  cases x with
  |panic v=>exact False.elim h
  |_=>exact h.elim
theorem list_in {rest2:List Oper} (hK:∀ a w,K a w→wpListIn (rf l) n P ops Q rest2 a w):∀ (rest:List Oper) (a:Act) (w:World),(∀ o∈rest,∀ c,o.op ≠ .defer c)→wpList P ops (calm K) rest a w→wpListIn (rf l) n P ops Q (rest++rest2) a w
 |[],a,w,_,h=>hK _ _ h
 |o::rest,a,w,hd,h=>by
  have ih:=list_in (rest2:=rest2) hK rest
  show if Region.wanted o (yielded ops a.tmps)=true then o.wpIn (rf l) n P a w (wpListIn (rf l) n P ops Q (rest++rest2)) Q else (∀ f,o.about P w a.eval=some f→(rf l).fn f)∧wpListIn (rf l) n P ops Q (rest++rest2) (a.put o.dst undef) w
  have h':if Region.wanted o (yielded ops a.tmps)=true then o.wp P a w (wpList P ops (calm K) rest) (calm K)∨(o.asks P a w∧LetsOut (calm K)) else wpList P ops (calm K) rest (a.put o.dst undef) w:=h
  split at h'
  ·rename_i hw
   rw [if_pos hw]
   rcases h' with h'|h'
   ·exact op_in (hd o (.head _)) (fun a w h=>ih a w (fun o ho=>hd o (.tail _ ho)) h) h'
   ·exact (calm_out h'.2).elim
  ·rename_i hw
   rw [if_neg hw]
   exact ⟨fun _ _=>trivial,ih _ _ (fun o ho=>hd o (.tail _ ho)) h'⟩
abbrev noDefer (ops:Array Oper):Bool:=ops.toList.all fun o=>match o.op with | .defer _=>false|_=>true
theorem noDefer_of (hd:noDefer ops=true):∀ o∈ops.toList,∀ c,o.op ≠ .defer c:=fun o ho c e=>by
 have:=(List.all_eq_true.1 hd) o ho
 rw [e]at this;cases this
theorem list_in' {rest:List Oper}{a:Act}{w:World} (hd:∀ o∈rest,∀ c,o.op ≠ .defer c) (h:wpList P ops (calm (Q .normal)) rest a w):wpListIn (rf l) n P ops Q rest a w:=by
 have:=list_in (l:=l) (n:=n) (rest2:=[]) (Q:=Q) (fun _ _ h=>h) rest a w hd h
 rw [List.append_nil]at this
 exact this
theorem region_in {id:Nat}{a:Act}{w:World} (hd:noDefer ops=true) (h:wpList P ops (calm (Q .normal)) ops.toList a w):(Code.region id ops false).wpIn (rf l) n P Q a w:=
 wpIn_region_list (list_in' (noDefer_of hd) h)
theorem any_in (hd:∀ o∈ops.toList,∀ c,o.op ≠ .defer c):∀ (k:Nat) (ls:Array Bool) (a:Act) (w:World),wpAny P .any ops (calm (Q .normal)) k ls a w→wpAnyIn (rf l) n P .any ops Q k ls a w
 |0,_,_,_,h=>h
 |k+1,ls,a,w,h=>by
  refine ⟨h.1,fun i hi=>?_⟩
  have h':=h.2 i hi
  unfold wpOp at h'
  unfold wpOpIn
  split at h'
  ·rename_i he;simp only [he];exact any_in hd k _ _ _ h'
  ·rename_i o he
   simp only [he]
   split at h'
   ·rename_i hw
    rw [if_pos hw]
    rcases h' with h'|h'
    ·refine op_in (hd o ?_) (fun a w h=>any_in hd k _ a w h) h'
     rw [← Array.getElem?_toList]at he
     exact List.mem_of_getElem? he
    ·exact (calm_out h'.2).elim
   ·rename_i hw
    rw [if_neg hw]
    exact ⟨fun _ _=>trivial,any_in hd k _ _ _ h'⟩
theorem region_in_any {id:Nat}{a:Act}{w:World} (late:List Nat) (G:World→Prop) (hd:noDefer ops=true) (hm:P.follows .mixedOrders=true)
  (h:wpL P ops (calm (Q .normal)) late G ops.size (Array.replicate ops.size false) a w.drew):(Code.region id ops true).wpIn (rf l) n P Q a w:=
 wpIn_region_any hm (any_in (noDefer_of hd) _ _ _ _ (wpAny_of_L _ _ _ _ h))
theorem region_in_lit {id:Nat}{rest:List Oper}{a:Act}{w:World} (hd:noDefer rest.toArray=true) (h:∀ K:Act→World→Prop,(∀ a w,Q .normal a w→K a w)→wpList P rest.toArray (Exit.then K fun _ _ _=>False) rest a w):(Code.region id rest.toArray false).wpIn (rf l) n P Q a w:=
 region_in hd (by simpa using h _ fun _ _ h=>h)
theorem region_in_anyK {id:Nat}{a:Act}{w:World} (late:List Nat) (G:World→Prop) (hd:noDefer ops=true) (hm:P.follows .mixedOrders=true)
  (h:∀ K:Act→World→Prop,(∀ a w,Q .normal a w→K a w)→wpL P ops (Exit.then K fun _ _ _=>False) late G ops.size (Array.replicate ops.size false) a w.drew):(Code.region id ops true).wpIn (rf l) n P Q a w:=
 region_in_any late G hd hm (h _ fun _ _ h=>h)
theorem region_yield {id:Nat}{a:Act}{w:World} (pre:List Oper) (o:Oper) (post:List Oper) (he:ops.toList=pre++o::post) (hd:noDefer ops=true)
  (h:wpList P ops (calm fun a w=>Region.wanted o (yielded ops a.tmps)=true∧∃ (l':Nat) (f:FuncId) (tmps:Array Value) (assign body:Code),(execOp a.eval o).run P w = .ok (.round l' f tmps assign body) w ∧
   RoundIn Fence.wide 0 P l' f tmps assign body w (fun e w'=>∃ v,e = .returned v∧wpList P ops (calm (Q .normal)) post (a.put o.dst v) w')) pre a w) :
  (Code.region id ops false).wp P Q a w:=by
 refine wpIn_wide (n:=0).1 (wpIn_region_list ?_)
 have hd':=noDefer_of hd
 rw [he]at hd' ⊢
 refine list_in (l:=none) (n:=0) (K:=_) (fun a w hk=>?_) pre a w (fun o ho=>hd' o (List.mem_append_left _ ho)) h
 obtain ⟨hw,l',f,tmps,assign,body,hx,hF,hc⟩:=hk
 show if Region.wanted o (yielded ops a.tmps)=true then o.wpIn (rf none) 0 P a w (wpListIn (rf none) 0 P ops Q post) Q else _
 rw [if_pos hw]
 refine ⟨fun _ _=>trivial,?_⟩
 rw [Oper.semAt_eq _ _ _ (hd' o (by simp)),hx]
 refine ⟨(fun hd=>by cases hd),hF,fun c cs hro=>?_⟩
 obtain ⟨e,w',⟨v,rfl,hv⟩,hs⟩:=hc c cs hro
 exact ⟨.returned v,w',list_in' (l:=none) (n:=0) (fun o ho=>hd' o (List.mem_append_right _ (.tail _ ho))) hv,hs⟩
theorem region_yield6 {a:Act}{w:World}{id:Nat}{o0 o1 o2 o3 o4 o o6:Oper}{c:Code} (hd:noDefer #[o0,o1,o2,o3,o4,o,o6]=true)
  (h:∀ K:Act→World→Prop,(∀ a w,c.wp P Q a w→K a w)→wpList P #[o0,o1,o2,o3,o4,o,o6] (calm fun a w=>Region.wanted o (yielded #[o0,o1,o2,o3,o4,o,o6] a.tmps)=true∧∃ (l':Nat) (f:FuncId) (tmps:Array Value) (assign body:Code),(execOp a.eval o).run P w = .ok (.round l' f tmps assign body) w ∧
   RoundIn Fence.wide 0 P l' f tmps assign body w (fun e w'=>∃ v,e = .returned v∧wpList P #[o0,o1,o2,o3,o4,o,o6] (Exit.then K fun _ _ _=>False) [o6] (a.put o.dst v) w')) [o0,o1,o2,o3,o4] a w) :
  (Code.seq (Code.region id #[o0,o1,o2,o3,o4,o,o6] false) c).wp P Q a w:=
 wp_seq (region_yield [o0,o1,o2,o3,o4] o [o6] rfl hd (h _ fun _ _ h=>h))
end Go
namespace Go
open Go.Sl Go.RowKit
section
variable {P:Program}{w0 w:World}{F R L:List HProp}{b:Nat}{o o':Obj}{kv:List (Array Value)}{A A':List HProp}
theorem Sl.Sat.putObj (o':Obj) (h:Sat w0 w (pt b o::R)):Sat w0 (w.putObj b o') (pt b o'::R):=
 h.turn rfl rfl rfl (by rw [World.putObj_size];exact Nat.le_refl _) (World.putObj_heap_same h.lt) fun i hi _=>World.putObj_heap_other hi
theorem Sl.Sat.appc (h:Sat w0 w (L++R)):Sat w0 w (R++L):=h.perm List.perm_append_comm
def Iter (P:Program) (gf:Nat) (lb:Array Value) (kv:List (Array Value)) (w0:World) (A A':List HProp):Prop:=
 ∀ (l:Nat) (R:List (Array Value)→List HProp),
  (∀ pre x post W U,kv=pre++x::post→Sat w0 W (R pre++U)→∃ f tmps assign body,(Instr.yield l x).run P W = .ok (.round l f tmps assign body) W ∧
   RoundIn Fence.wide 0 P l f tmps assign body W (fun e W'=>e = .returned (.bool true)∧Sat w0 W' (R (pre++[x])++U))) →
  ∀ W,Sat w0 W (A++R [])→Calls P gf (#[.func (.yield l) #[] #[]]++lb) W (Rtn fun v W'=>Sat w0 W' (A'++R kv))
theorem wp_rangeFunc_sat {g:Operand}{ps:Array Tmp}{assign body:Code}{Q:Exit→Act→World→Prop}{a:Act}{gf:Nat}{lb:Array Value}
  (hg:a.eval g = .func (.func gf) #[] lb) (eg:∀ args w,(callFunc gf args).run P w = .ok (.enter gf args) w)
  (hit:Iter P gf lb kv w0 A A') (hps:∀ x∈kv,x.size=ps.size) (R:List (Array Value)→List HProp) (h:Sat w0 w (A++R []))
  (hround:∀ (l:Nat) (pre:List (Array Value)) (x:Array Value) (post:List (Array Value)) (U:List HProp) (W:World),kv=pre++x::post→Sat w0 W (R pre++U) →
   ∀ T,T=(ps.zip x).foldl (fun t (p,v)=>t.setIfInBounds p v) a.tmps→assign.wpIn (rf (some l)) 0 P (Exit.then (fun a₁ w₁=>∃ M:List HProp,Sat w0 w₁ (M++U)∧∀ U' w₂,Sat w0 w₂ (M++U')→body.wpIn (rf (some l)) 0 P (fun e _ w₃=>e = .normal∧Sat w0 w₃ (R (pre++[x])++U')) a₁ w₂) (fun _ _ _=>False))
    { tmps:=T,defers:=[] } W)
  (hdone:∀ D w',Sat w0 w' (A'++(R kv++[pt D (.deferred (some []))]))→Q .normal { a with defers:={ target:= .collected D,args:=#[] }::a.defers } w') :
  (Code.rangeFunc g ps assign body).wp P Q a w:=by
 refine (wpIn_wide (n:=0)).1 (wpIn_rangeFunc ?_)
 intro fn hfn
 obtain ⟨rec,hrec⟩:∃ rec:LoopState→Option Code→Loop,rec=fun st pe=>{ state:=st,pending:=pe,fn,tmps:=a.tmps,params:=ps,assign,body,defers:=w.heap.size }:=⟨_,rfl⟩
 obtain ⟨D,hD⟩:∃ D,D=w.heap.size:=⟨_,rfl⟩
 obtain ⟨l,hl⟩:∃ l,l=D+1:=⟨_,rfl⟩
 obtain ⟨W1,hW1⟩:∃ W1,W1=(w.alloc (.deferred (some []))).alloc (.loop (rec .ready none)):=⟨_,rfl⟩
 have hS1:Sat w0 W1 (pt l (.loop (rec .ready none))::pt D (.deferred (some []))::(A++R [])):=by
  have:=(h.alloc (.deferred (some []))).alloc (.loop (rec .ready none))
  rw [World.size_alloc,← hW1,← hD,← hl]at this
  exact this
 refine ⟨l,[{ target:= .collected D,args:=#[] }],W1,{ target:= .fn (.func gf) lb,args:=#[.func (.yield l) #[] #[]] },W1,gf,#[.func (.yield l) #[] #[]]++lb,W1,?_,?_,?_,?_,(fun h=>by cases h),?_⟩
 ·rw [hW1,hl,hD,hrec];exact run_enterLoop_outer _ _ _ _ _
 ·simp only [resolve,hg]
  simp [go_sem]
 ·intro f' _;trivial
 ·simp [invoke,go_sem,eg]
 ·refine callsIn_wide.2 ((hit l (fun pre=>R pre++[pt l (.loop (rec .ready none)),pt D (.deferred (some []))]) ?_ W1 ?_).mono ?_)
  ·intro pre x post W U hkv hS
   have hS':Sat w0 W (pt l (.loop (rec .ready none))::(R pre++(pt D (.deferred (some []))::U))):=by
    rw [List.append_assoc]at hS
    exact hS.perm List.perm_middle
   have hat:=hS'.at
   have hy:=run_yield (P:=P) (args:=x) hat (by rw [hrec];exact hps x (by rw [hkv];simp))
   refine ⟨_,_,_,_,hy,roundIn_of_wpIn trivial ?_⟩
   have hr:=hround l pre x post (pt D (.deferred (some []))::U++[pt l (.loop (rec .ready none))]) W hkv (hS'.perm (by
    rw [← List.cons_append,← List.append_assoc]
    exact (List.perm_append_comm (l₁:=[pt l (.loop (rec .ready none))]) (l₂:=R pre++(pt D (.deferred (some []))::U))))) _ rfl
   have e1:((rec .ready none).params.zip x).foldl (fun tmps (t,a)=>tmps.setIfInBounds t a) (rec .ready none).tmps=(ps.zip x).foldl (fun t (p,v)=>t.setIfInBounds p v) a.tmps:=by rw [hrec]
   rw [e1]
   have e2:(rec .ready none).assign=assign:=by rw [hrec]
   have e3:(rec .ready none).body=body:=by rw [hrec]
   rw [e2,e3]
   refine wpIn_mono hr ?_
   intro e a1 w1 he
   cases e with
   |normal=>
    obtain ⟨M,hM,hb⟩:=he
    have hM':Sat w0 w1 (pt l (.loop (rec .ready none))::(M++(pt D (.deferred (some []))::U))):=hM.perm (by
     rw [← List.append_assoc]
     exact List.perm_append_comm (l₁:=M++(pt D (.deferred (some []))::U)) (l₂:=[pt l (.loop (rec .ready none))]))
    have hM2:=hM'.putObj (.loop { rec .ready none with state:= .busy })
    refine ⟨_,run_beginRound hM'.at (by rw [hrec]),?_⟩
    refine wpIn_mono (hb (pt D (.deferred (some []))::U++[pt l (.loop { rec .ready none with state:= .busy })]) _ (hM2.perm (by
     rw [← List.cons_append,← List.append_assoc]
     exact (List.perm_append_comm (l₁:=[pt l (.loop { rec .ready none with state:= .busy })]) (l₂:=M++(pt D (.deferred (some []))::U)))))) ?_
    rintro e2 a2 w2 ⟨rfl,hS2⟩
    have hS3:Sat w0 w2 (pt l (.loop { rec .ready none with state:= .busy })::(R (pre++[x])++(pt D (.deferred (some []))::U))):=hS2.perm (by
     rw [← List.append_assoc]
     exact List.perm_append_comm (l₁:=R (pre++[x])++(pt D (.deferred (some []))::U)) (l₂:=[pt l (.loop { rec .ready none with state:= .busy })]))
    refine ⟨_,_,run_endRound none hS3.at,rfl,?_⟩
    have hS4:=hS3.putObj (.loop (rec .ready none))
    have e4:(Obj.loop { { rec .ready none with state:= .busy } with state:=if (none:Option Code).isNone then .ready else .done,pending:=none }) = .loop (rec .ready none):=by rw [hrec];rfl
    rw [e4]
    refine hS4.perm ?_
    rw [List.append_assoc]
    exact List.perm_middle.symm
   |exit id=>exact he.elim
   |goto t=>exact he.elim
   |ret=>exact he.elim
   |panic c=>exact he.elim
   |outgrown=>exact he.elim
  ·refine hS1.perm ?_
   rw [← List.append_assoc]
   exact (List.perm_append_comm (l₁:=[pt l (.loop (rec .ready none)),pt D (.deferred (some []))]) (l₂:=A++R []))
  ·rintro e W2 ⟨v,rfl,hS⟩
   have hS':Sat w0 W2 (pt l (.loop (rec .ready none))::(A'++(R kv++[pt D (.deferred (some []))]))):=hS.perm (by
    rw [← List.append_assoc,← List.append_assoc]
    exact List.perm_middle)
   refine ⟨none,_,by have:=run_endLoop (P:=P) hS'.at (by rw [hrec];simp);rw [show (rec .ready none).pending=none by rw [hrec]]at this;exact this,?_⟩
   exact hdone D _ (hS'.putObj _).drop
theorem leaves_mark {fn:Func}{tmps:Array Value}{K:Ending→World→Prop}{D:Nat}{v:Value} (h:Sat w0 w (pt D (.deferred (some []))::F)) (hv:∀ w,(results fn tmps).run P w = .ok v w) (hK:∀ w',Sat w0 w' F→K (.returned v) w') :
  LeavesInM Fence.wide 0 P fn tmps K [{ target:= .collected D,args:=#[] }] .returning w:=
 ⟨by simp,.inl ⟨_,_,rfl,run_takeDeferred h.at,⟨_,hv _,hK _ ((h.putObj (.deferred none)).drop)⟩⟩⟩
def endsM (P:Program) (fn:Func) (K:Ending→World→Prop):Exit→Act→World→Prop
 |.normal,a,w | .ret,a,w=>LeavesInM Fence.wide 0 P fn a.tmps K a.defers .returning w
 |_,_,_=>False
theorem calls_of_wp_marks {f:FuncId}{fn:Func}{c:Code}{args:Array Value}{K:Ending→World→Prop} (hf:P.funcs[f]?=some fn) (hb:fn.body=some c)
  (h:c.wp P (endsM P fn K) { tmps:=args++Array.replicate (fn.ntmps - args.size) undef,defers:=[] } w):Calls P f args w K:=
 (callsIn_wide (n:=0)).1 (callsIn_of_wp_marks hf hb trivial (wpIn_wide.2 (wp_mono h fun e a w he=>by
  cases e with
  |normal=>exact he
  |ret=>exact he
  |_=>exact he.elim)) rfl)
theorem endsM_end {fn:Func}{a:Act}{K:Ending→World→Prop}{D:Nat}{v:Value} (ha:a.defers=[{ target:= .collected D,args:=#[] }]) (h:Sat w0 w (pt D (.deferred (some []))::F)) (hv:∀ w,(results fn a.tmps).run P w = .ok v w)
  (hK:∀ w',Sat w0 w' F→K (.returned v) w'):endsM P fn K .normal a w:=by
 show LeavesInM Fence.wide 0 P fn a.tmps K a.defers .returning w
 rw [ha]
 exact leaves_mark h hv hK
end
end Go
namespace Go.Proofs.YtlinnpehkfbnkaaGreatDoor
open Go Go.Sl Go.Med Go.MapKept Go.RowKit
def abL (x:Frm.Bs×Seg.Plc):Array Value:=#[.agg (bys x.1).toArray,.agg (penc x.2).toArray]
section
variable {w0 w:World}{F:List HProp}{p B:Nat}{m:Frm.Bs→Option (Seg.Plc)}
theorem allL_c (h:Sat w0 w F):Calls Tryz.prog 126 #[ptr p] w
  (Rtn fun v w'=>∃ b,v = .func (.func 181) #[] #[ptr b]∧Sat w0 w' (pt b (.cells #[ptr p] 48 (0,0))::F)):=by
 go_enter Tryz.func126,Tryz.ntmps126
 go_wp2_with (first|((with_reducible refine at_box ⟨?_⟩);refine wl_box aQ evD evD ?_;intro bB wB hB)|(with_reducible apply at_alloc))
 go_ret
 exact ⟨_,rfl,bB,rfl,hB⟩
set_option maxRecDepth 20000 in
theorem allL1_c {b:Nat}{l:List (Frm.Bs×Seg.Plc)} (hB:B≤13000000) (hl:Tab.Lists m l) :
  Iter Tryz.prog 181 #[ptr b] (l.map abL) w0 [TabML p m B,pt b (.cells #[ptr p] 48 (0,0))] [TabML p m B,pt b (.cells #[ptr p] 48 (0,0))]:=by
 intro ly R hY W hW
 have Hl:=uQ hl
 have hW0:Sat w0 W (TabML p m B::pt b (.cells #[ptr p] 48 (0,0))::R []):=hW
 clear hW hl
 show Calls Tryz.prog 181 #[.func (.yield ly) #[] #[],ptr b] W _
 go_enter Tryz.func181,Tryz.ntmps181
 have hr:=risingL_c hB hW0
 go_wp2_with ((with_reducible refine at_load ⟨?_⟩);refine wl_load1 hW0 rFz pkD nLz evD kRz ?_)
 clear hW0
 refine hr.mono ?_
 rintro ee w1 ⟨sv,rfl,s,⟨hs1,hs2,hs3⟩,hS1⟩
 clear hr
 have e0:l=s.map fun x=>(x.key,x.val):=Hl.out.unique hs1
 clear hs1 Hl
 subst e0
 have Hs2:=uQ hs2;have Hs3:=uQ hs3
 have Hlen:=uQ (show ∀ x∈s,(slotL penc x).length=36 from fun x hx=>slotL_len penc x (hs2 x hx).2 3 (penc_len _))
 obtain ⟨la,lc,rfl⟩:=osl_rows Hlen.out (Sat.rd hS1) dCz
 have hsb:s.length≤13000000:=Nat.le_trans hs3 hB
 clear hs2 hs3 hB
 go_wp2_with fail
 go_loopg [8] s.length (fun g iq wr=>∃ (i:Nat),g=s.length - i∧i≤s.length∧iq = .int .i64 i ∧
  Sat w0 wr (osl 230 36 (.slice la s.length lc) (s.flatMap (slotL penc))::TabML p m B::pt b (.cells #[ptr p] 48 (0,0))::R (((s.take i).map fun x=>(x.key,x.val)).map abL)))
 case atStart=>exact ⟨0,rfl,Nat.zero_le _,rfl,hS1⟩
 case round=>
  obtain ⟨i,rfl,hi,rfl,hS⟩:=hrel
  clear hS1
  by_cases hlt:i<s.length
  rotate_left
  ·obtain rfl:i=s.length:=by omega
   have c1:¬ (s.length:Int)<(s.length:Int):=oQ
   rw [List.take_length]at hS
   clear hlt hi
   go_wp2_with fail
   go_end0
   exact ⟨_,rfl,by rw [← List.map_map];exact hS.drop⟩
  have c1:(i:Int)<(s.length:Int):=oQ
  have hwi:=iwQ (i:=i)
  obtain ⟨x,hx⟩:∃ x,s[i]?=some x:=⟨_,List.getElem?_eq_getElem hlt⟩
  have hxm:=List.mem_of_getElem? hx
  have Hxk:=uQ (Hs2.out x hxm).2
  obtain ⟨bk,off,c',hsv,hcell⟩:=osl_row Hlen.out (Sat.rd (hS.pick pick0)) hx dCz
  cases hsv
  have hl36:=Hlen.out x hxm
  have Htk:=uQ (show s.take (i+1)=s.take i++[x] by rw [List.take_add_one,hx,Option.toList_some])
  have Hlt:=uQ hlt
  have Hspl:=uQ (show (s.map fun x=>(x.key,x.val)).map abL=((s.take i).map fun x=>(x.key,x.val)).map abL++abL (x.key,x.val)::((s.drop (i+1)).map fun x=>(x.key,x.val)).map abL by
   have e:s=s.take i++x::s.drop (i+1):=by
    obtain ⟨h1,rfl⟩:=List.getElem?_eq_some_iff.1 hx
    rw [← List.drop_eq_getElem_cons h1,List.take_append_drop]
   conv=>lhs;rw [e]
   simp only [List.map_append,List.map_cons])
  clear hx hxm hlt hi
  go_wp2_with (first
   |((with_reducible refine at_load ⟨?_⟩);refine wl_loadW (b:=bk) (o:=off+i * 36) (slotL penc x) rFz hcell Tryz.underlying230 rfl (by rw [hl36];kernel_rfl) ?_)
   |(with_reducible apply at_alloc))
  refine ⟨wl_alloc zSlotL hS rfl ?_⟩
  intro b7 w7 hS7
  go_wp2_with ((with_reducible apply at_store))
  refine ⟨wl_storeA (slotL penc x).toArray hS7 rFz rFz (by rw [List.size_toArray,hl36];rfl) upd0 (by rw [List.size_toArray,hl36];kernel_rfl) (by rw [List.toList_toArray];exact slotL_ones penc x (penc_ones _)) ?_⟩
  intro w10 hS10
  clear hS hS7 hcell
  have f1:w10.rangeAt b7 1 (bys x.key):=slot_key (hS10.pick pick0)
  have f2:w10.rangeAt b7 33 (penc x.val):=slot_val Hxk.out (hS10.pick pick0)
  have e1:=Tryz.underlying24
  have hS11:Sat w0 w10 (R (((s.take i).map fun x=>(x.key,x.val)).map abL)++[osl 230 36 (.slice (some ⟨bk,off,none⟩) s.length lc) (s.flatMap (slotL penc)),TabML p m B,pt b (.cells #[ptr p] 48 (0,0))]):=
   (hS10.drop:Sat w0 w10 ([osl 230 36 (.slice (some ⟨bk,off,none⟩) s.length lc) (s.flatMap (slotL penc)),TabML p m B,pt b (.cells #[ptr p] 48 (0,0))]++R (((s.take i).map fun x=>(x.key,x.val)).map abL))).appc
  obtain ⟨yf,yt,ya,yb,hy,hr⟩:=hY _ _ _ w10 _ Hspl.out hS11
  clear hS11 hS10 hY
  go_step
  go_step
  go_step
  refine region_yield6 rFz ?_
  intro K hK
  go_wp2_with (first
   |((with_reducible refine at_load ⟨?_⟩);refine wl_loadW (b:=b7) (o:=1) (bys x.key) rFz f1 e1 rfl (by rw [bys_len,Hxk.out];kernel_rfl) ?_)
   |((with_reducible refine at_load ⟨?_⟩);refine wl_loadW (b:=b7) (o:=33) (penc x.val) rFz f2 Tryz.underlying54 rfl kRz ?_))
  refine ⟨_,yf,yt,ya,yb,hy,hr.mono ?_⟩
  rintro ee w12 ⟨rfl,hS12⟩
  refine ⟨_,rfl,?_⟩
  have hS13:Sat w0 w12 (osl 230 36 (.slice (some ⟨bk,off,none⟩) s.length lc) (s.flatMap (slotL penc))::TabML p m B::pt b (.cells #[ptr p] 48 (0,0))::R (((s.take (i+1)).map fun x=>(x.key,x.val)).map abL)):=by
   have:=hS12.appc
   rw [Htk.out,List.map_append,List.map_append]
   exact this
  clear hS12 hr hy f1 f2
  go_wp2_with fail
  go_roundg (s.length - (i+1))
  case measure=>have:=Hlt.out;omega
  case rel=>exact ⟨i+1,rfl,Hlt.out,by first|rfl|go_num,hS13⟩
end
def msl (T sz:Nat) (v:Value) (xs:List Value):HProp:=fun h=>
 ∃ b n cap cs m,v = .slice (some ⟨b,0,none⟩) n cap∧xs.length=n * sz∧n≤cap∧cap * sz≤cs.size∧cap≤maxLen∧cs.toList.take (n * sz)=xs∧cs.size≤m∧pt b (.cells cs T (m,m+1)) h
def asl (T sz:Nat) (v:Value) (xs:List Value):HProp:=fun h=>osl T sz v xs h∨msl T sz v xs h
abbrev abl (v:Value) (l:Frm.Bs):HProp:=asl 5 1 v (bys l)
section
variable {P:Program}{w0 w:World}{R:List HProp}{T sz b:Nat}{v x:Value}{xs ys:List Value}{fr:Nat×Nat}
theorem cellAtF {cs:Array Value}{T:TypeId} (h:Sat w0 w (pt b (.cells cs T fr)::R)) (i:Nat) (v:Value) (hv:cs[i]?=some v):w.cell? ⟨b,i,none⟩=some v:=by
 have:=h.at
 simp [World.cell?,this,hv]
theorem freeAtM {cs:Array Value}{T:TypeId}{m:Nat} (h:Sat w0 w (pt b (.cells cs T (m,m+1))::R)) (i:Nat) (hi:i<m):w.frozen? ⟨b,i,none⟩=false:=by
 have:=h.at
 simp [World.frozen?,this]
 omega
theorem setF {cs:Array Value}{T:TypeId} (h:Sat w0 w (pt b (.cells cs T fr)::R)) (i:Nat) (v:Value):Sat w0 (w.setCell ⟨b,i,none⟩ v) (pt b (.cells (cs.setIfInBounds i v) T fr)::R):=by
 have hb:=h.at
 have hlt:=h.lt
 refine h.turn rfl rfl rfl (by simp) ?_ ?_
 ·simp only [World.setCell,Array.getElem?_modify,if_true,hb]
  simp
 ·intro j hj _
  simp only [World.setCell,Array.getElem?_modify]
  rw [if_neg (Ne.symm hj)]
theorem setsF:∀ (vs:List Value){cs:Array Value}{T:TypeId}{w:World} (o:Nat),Sat w0 w (pt b (.cells cs T fr)::R)→Sat w0 (w.setCells b o vs) (pt b (.cells (putsAt cs o vs) T fr)::R)
 |[],_,_,_,_,h=>h
 |v::r,_,_,_,o,h=>setsF r (o+1) (setF h o v)
theorem asl_cases (h:Sat w0 w (asl T sz v xs::R)):Sat w0 w (osl T sz v xs::R)∨∃ b n cap cs m,v = .slice (some ⟨b,0,none⟩) n cap∧xs.length=n * sz∧n≤cap∧cap * sz≤cs.size∧cap≤maxLen∧cs.toList.take (n * sz)=xs∧cs.size≤m∧Sat w0 w (pt b (.cells cs T (m,m+1))::R):=by
 obtain ⟨ha,x,hx,p,q,d,rfl,hp,hq⟩:=h
 rcases hp with hp|⟨b,n,cap,cs,m,h1,h2,h3,h4,h5,h6,h7,h8⟩
 ·exact .inl ⟨ha,_,hx,p,q,d,rfl,hp,hq⟩
 ·exact .inr ⟨b,n,cap,cs,m,h1,h2,h3,h4,h5,h6,h7,ha,_,hx,p,q,d,rfl,h8,hq⟩
theorem asl_of_osl (h:Sat w0 w (osl T sz v xs::R)):Sat w0 w (asl T sz v xs::R):=h.head fun _ hx=> .inl hx
theorem asl_of_pt {n cap m:Nat}{cs:Array Value} (h:Sat w0 w (pt b (.cells cs T (m,m+1))::R)) (h2:xs.length=n * sz) (h3:n≤cap) (h4:cap * sz≤cs.size) (h5:cap≤maxLen) (h6:cs.toList.take (n * sz)=xs) (h7:cs.size≤m):Sat w0 w (asl T sz (.slice (some ⟨b,0,none⟩) n cap) xs::R):=
 h.head fun _ hx=> .inr ⟨b,n,cap,cs,m,rfl,h2,h3,h4,h5,h6,h7,hx⟩
theorem asl_rd (h:Sat w0 w (asl T sz v xs::R)):rdsl sz v xs w:=by
 rcases asl_cases h with h|⟨b,n,cap,cs,m,rfl,hl,hn,hc,hcm,htk,hm,hp⟩
 ·exact Sat.rd h
 ·exact ⟨_,n,cap,rfl,hl,fun j y hj=>⟨_,rfl,by rw [add_zero_lit];exact cellAtF hp j y (take_get htk hj)⟩⟩
theorem asl_text (h:Sat w0 w R) (e:TypeId) (s:ByteArray) (l:Frm.Bs) (hs:s.data.toList=l) (hl:l.length≤1073741824):Sat w0 (Lib.bytesWorld w e s) (asl e 1 (.slice (some ⟨w.heap.size,0,none⟩) s.size (grownCap w s.size 0 e)) (bys l)::R):=by
 have h1:=(h.drew).alloc (.cells (Lib.bytesCells w e s) e)
 have hsz:s.size=l.length:=by rw [← hs];exact Array.length_toList.symm
 have hge:=grownCap_ge w s.size 0 e
 have hcm:=grownCap_le_maxLen w s.size 0 e (by have:maxLen=9223372036854775807:=rfl;omega)
 have hcs:(Lib.bytesCells w e s).size=grownCap w s.size 0 e:=by
  unfold Lib.bytesCells
  rw [Array.size_append,Array.size_map,Array.size_replicate]
  have:s.data.size=s.size:=rfl
  omega
 have h2:Sat w0 (Lib.bytesWorld w e s) (pt w.heap.size (.cells (Lib.bytesCells w e s) e ((Lib.bytesCells w e s).size,(Lib.bytesCells w e s).size+1))::R):=by
  refine h1.turn (w':=Lib.bytesWorld w e s) rfl rfl rfl ?_ (Lib.bytesWorld_at_new w e s) (fun j hj _=>?_)
  ·rw [Lib.bytesWorld_size];exact Nat.le_of_eq (Array.size_push ..)
  ·unfold Lib.bytesWorld World.freeze
   rw [if_neg dCz]
   show (Array.modify _ _ _)[j]?=_
   rw [Array.getElem?_modify]
   exact if_neg (fun e=>hj e.symm)
 refine asl_of_pt h2 ?_ hge (by rw [Nat.mul_one,hcs];exact Nat.le_refl _) hcm ?_ (Nat.le_refl _)
 ·rw [bys_len,hsz,Nat.mul_one]
 ·unfold Lib.bytesCells
  rw [Array.toList_append,Nat.mul_one,List.take_append_of_le_length (by rw [Array.length_toList,Array.size_map];exact Nat.le_refl _),List.take_of_length_le (by rw [Array.length_toList,Array.size_map];exact Nat.le_refl _),Array.toList_map,hs]
  rfl
theorem run_appendA (t ty e:TypeId) (i:TypeInfo) (z:Value) (ht:P.underlying t=some (.slice e)) (hi:P.info? e=some i) (hz:i.zero=some z)
  (hs:i.size=sz) (hzs:z.cells.size=sz) (hsz:0<sz) (h1:∀ u∈ys,u.oneCell'=true) (hy0:ys≠[])
  (h:Sat w0 w (asl e sz v xs::R)) (hx:rdsl sz x ys w) (h63:xs.length+ys.length≤maxLen) (hby:(xs.length+ys.length) * i.bytes≤140737488355328) :
  ∃ v' w',(Builtin.append_ #[t,t] ty #[v,x]).run P w = .ok v' w'∧Sat w0 w' (asl e sz v' (xs++ys)::R):=by
 rcases asl_cases h with h|⟨b,n,cap,cs,mk,rfl,hl,hn,hc,hcm,htk,hmk,hp⟩
 ·obtain ⟨v',w',hr,hS,_⟩:=run_append (P:=P) t ty e i z ht hi hz hs hzs hsz h1 h hx h63 hby
  exact ⟨v',w',hr,asl_of_osl hS⟩
 ·subst hs
  obtain ⟨xa,m,c,rfl,hyl,hyc⟩:=hx
  have hle:∀ {p q:Nat},p=q * i.size→q≤p:=fun {p q} e=>by rw [e];exact Nat.le_mul_of_pos_right _ hsz
  have hm:=hle hyl
  obtain ⟨ad,rfl⟩:∃ ad,xa=some ad:=by
   obtain ⟨y,hy⟩:∃ y,ys[0]?=some y:=by
    cases ys with
    |nil=>exact absurd rfl hy0
    |cons y _=>exact ⟨y,rfl⟩
   obtain ⟨b,hb,_⟩:=hyc 0 y hy
   exact ⟨b,hb⟩
  have hnews:∀ j u,ys[j]?=some u→w.cell? (ad.add j)=some u:=fun j u hj=>by
   obtain ⟨b,hb,hx⟩:=hyc j u hj
   cases hb;exact hx
  have hnx:=hle hl
  have h63':maxLen=9223372036854775807:=rfl
  by_cases hroom:n+m≤cap
  ·have hfit:n * i.size+ys.length≤cs.size:=by
    rw [hyl,← Nat.add_mul];exact Nat.le_trans (Nat.mul_le_mul_right _ hroom) hc
   have hr:=run_append_room_cells (P:=P) w t ty e i ht hi b 0 n cap ad m c ys hyl hnews h1 hroom
    (fun j hj=>by rw [Nat.zero_add,cellAtF hp (n * i.size+j) _ (Array.getElem?_eq_getElem (show n * i.size+j<cs.size by omega))];rfl)
    (fun j hj=>by rw [Nat.zero_add];exact freeAtM hp _ oQ)
   rw [Nat.zero_add]at hr
   refine ⟨_,_,hr,asl_of_pt (setsF ys (n * i.size) hp) ?_ hroom (by rw [putsAt_size];exact hc) hcm ?_ (by rw [putsAt_size];exact hmk)⟩
   ·rw [List.length_append,hl,hyl,Nat.add_mul]
   ·rw [putsAt_list _ _ _ hfit,htk]
    have e1:(n+m) * i.size=(xs++ys).length:=by rw [List.length_append,hl,hyl,Nat.add_mul]
    rw [e1]
    exact List.take_left
  ·have holds:∀ j u,xs[j]?=some u→w.cell? ((⟨b,0,none⟩:Addr).add j)=some u:=fun j u hj=>by
    rw [add_zero_lit];exact cellAtF hp j u (take_get htk hj)
   have hby':(n+m) * i.bytes≤140737488355328:=Nat.le_trans (Nat.mul_le_mul_right _ oQ) hby
   have hr:=run_append_grow (P:=P) w t ty e i z ht hi hz ⟨b,0,none⟩ n cap xs hl holds ad m c ys hyl hnews oQ oQ (growslice_fits oQ hby')
   have hge:=grownCap_ge w (n+m) cap e
   have hcm':=grownCap_le_maxLen w (n+m) cap e oQ
   refine ⟨_,_,hr,asl_of_osl (Sat.osl_of_pt ((hp.drop.drew).alloc (.cells (xs.toArray++ys.toArray++Builtin.zeroCells z.cells (grownCap w (n+m) cap e - (n+m))) e)) ?_ hge ?_ hcm' ?_)⟩
   ·rw [List.length_append,hl,hyl,Nat.add_mul]
   ·simp only [Array.size_append,List.size_toArray,size_zeroCells,hzs]
    rw [hl,hyl,← Nat.add_mul,← Nat.add_mul]
    exact Nat.mul_le_mul_right _ oQ
   ·simp only [Array.toList_append,List.append_assoc]
    rw [← List.append_assoc]
    have e1:(n+m) * i.size=(xs++ys).length:=by rw [List.length_append,hl,hyl,Nat.add_mul]
    rw [e1]
    exact List.take_left
end
end Go.Proofs.YtlinnpehkfbnkaaGreatDoor
namespace Go.Xx
open Go.Frm (Bs num le num_lt)
def W:Nat:=18446744073709551616
def p1:Nat:=11400714785074694791
def p2:Nat:=14029467366897019727
def p3:Nat:=1609587929392839161
def p4:Nat:=9650029242287828579
def p5:Nat:=2870177450012600261
def turn (x k:Nat):Nat:=(x * 2^k%W) ||| (x / 2^(64 - k))
def lane (a w:Nat):Nat:=turn ((a+w * p2%W)%W) 31 * p1%W
structure Ln where
 a:Nat
 b:Nat
 c:Nat
 d:Nat
def Ln.zero:Ln:=⟨(p1+p2)%W,p2,0,W - p1⟩
def Ln.lt (l:Ln):Prop:=l.a<W∧l.b<W∧l.c<W∧l.d<W
def strip (l:Ln) (b:Bs):Ln:=⟨lane l.a (num (b.take 8)),lane l.b (num ((b.drop 8).take 8)),lane l.c (num ((b.drop 16).take 8)),lane l.d (num ((b.drop 24).take 8))⟩
def goL:Nat→Ln→Bs→Ln×Bs
 |0,l,b=>(l,b)
 |n+1,l,b=>if 32≤b.length then goL n (strip l b) (b.drop 32) else (l,b)
def mix (x a:Nat):Nat:=((x ^^^ lane 0 a) * p1%W+p4)%W
def joined (l:Ln):Nat:=mix (mix (mix (mix ((((turn l.a 1+turn l.b 7)%W+turn l.c 12)%W+turn l.d 18)%W) l.a) l.b) l.c) l.d
def t8 (x w:Nat):Nat:=(turn (x ^^^ lane 0 w) 27 * p1%W+p4)%W
def t4 (x w:Nat):Nat:=(turn (x ^^^ (w * p1%W)) 23 * p2%W+p3)%W
def t1 (x:Nat) (c:UInt8):Nat:=turn (x ^^^ (c.toNat * p5%W)) 11 * p1%W
def tail8:Nat→Nat→Bs→Nat×Bs
 |0,x,b=>(x,b)
 |n+1,x,b=>if 8≤b.length then tail8 n (t8 x (num (b.take 8))) (b.drop 8) else (x,b)
def tail4 (x:Nat) (b:Bs):Nat×Bs:=if 4≤b.length then (t4 x (num (b.take 4)),b.drop 4) else (x,b)
def tail (x:Nat) (b:Bs):Nat:=(tail4 (tail8 b.length x b).1 (tail8 b.length x b).2).2.foldl t1 (tail4 (tail8 b.length x b).1 (tail8 b.length x b).2).1
def f1 (x:Nat):Nat:=(x ^^^ (x / 8589934592)) * p2%W
def f2 (x:Nat):Nat:=(x ^^^ (x / 536870912)) * p3%W
def f3 (x:Nat):Nat:=x ^^^ (x / 4294967296)
def sum (b:Bs):Nat:=f3 (f2 (f1 (tail (((if 32≤b.length then joined (goL b.length Ln.zero b).1 else p5)+b.length)%W) (goL b.length Ln.zero b).2)))
theorem W_pos:0<W:=by decide
theorem mod_lt (x:Nat):x%W<W:=Nat.mod_lt _ W_pos
theorem W64:W=2^64:=by decide
theorem xor_lt {a b:Nat} (ha:a<W) (hb:b<W):a ^^^ b<W:=by rw [W64]at *;exact Nat.xor_lt_two_pow ha hb
theorem div_lt {x:Nat} (k:Nat) (h:x<W):x / k<W:=Nat.lt_of_le_of_lt (Nat.div_le_self _ _) h
theorem lane_lt (a w:Nat):lane a w<W:=mod_lt _
theorem zero_lt:Ln.zero.lt:=⟨mod_lt _,by decide,by decide,by decide⟩
theorem strip_lt (l:Ln) (b:Bs):(strip l b).lt:=⟨lane_lt _ _,lane_lt _ _,lane_lt _ _,lane_lt _ _⟩
theorem goL_lt:∀ (n:Nat) (l:Ln) (b:Bs),l.lt→(goL n l b).1.lt
 |0,l,b,h=>h
 |n+1,l,b,h=>by
  unfold goL
  split
  ·exact goL_lt n _ _ (strip_lt l b)
  ·exact h
theorem t8_lt (x w:Nat):t8 x w<W:=mod_lt _
theorem t4_lt (x w:Nat):t4 x w<W:=mod_lt _
theorem t1_lt (x:Nat) (c:UInt8):t1 x c<W:=mod_lt _
theorem tail8_lt:∀ (n x:Nat) (b:Bs),x<W→(tail8 n x b).1<W
 |0,x,b,h=>h
 |n+1,x,b,h=>by
  unfold tail8
  split
  ·exact tail8_lt n _ _ (t8_lt _ _)
  ·exact h
theorem tail4_lt (x:Nat) (b:Bs) (h:x<W):(tail4 x b).1<W:=by
 unfold tail4
 split
 ·exact t4_lt _ _
 ·exact h
theorem fold_lt:∀ (b:Bs) (x:Nat),x<W→b.foldl t1 x<W
 |[],x,h=>h
 |c::b,x,h=>fold_lt b _ (t1_lt _ _)
theorem tail_lt (x:Nat) (b:Bs) (h:x<W):tail x b<W:=fold_lt _ _ (tail4_lt _ _ (tail8_lt _ _ _ h))
theorem f2_lt (x:Nat):f2 x<W:=mod_lt _
theorem f3_lt {x:Nat} (h:x<W):f3 x<W:=xor_lt h (div_lt _ h)
theorem sum_lt (b:Bs):sum b<W:=f3_lt (f2_lt _)
theorem goL_len2:∀ (n:Nat) (l:Ln) (b:Bs),(goL n l b).2.length≤b.length
 |0,l,b=>Nat.le_refl _
 |n+1,l,b=>by
  unfold goL
  split
  ·exact Nat.le_trans (goL_len2 n _ _) (by rw [List.length_drop];omega)
  ·exact Nat.le_refl _
theorem goL_step {n:Nat}{l:Ln}{b:Bs} (hb:32≤b.length) (hn:b.length≤n):goL n l b=goL (n - 32) (strip l b) (b.drop 32):=by
 obtain ⟨m,rfl⟩:∃ m,n=m+1:=⟨n - 1,by omega⟩
 have h:goL (m+1) l b=goL m (strip l b) (b.drop 32):=by
  conv=>lhs;unfold goL
  rw [if_pos hb]
 rw [h]
 exact goL_fuel m (m+1 - 32) (strip l b) (b.drop 32) (by rw [List.length_drop];omega) (by rw [List.length_drop];omega)
where
 goL_fuel:∀ (n m:Nat) (l:Ln) (b:Bs),b.length≤n→b.length≤m→goL n l b=goL m l b
 |0,0,l,b,_,_=>rfl
 |0,m+1,l,b,h,_=>by
  have:¬ 32≤b.length:=oQ
  unfold goL;rw [if_neg this]
 |n+1,0,l,b,_,h=>by
  have:¬ 32≤b.length:=oQ
  unfold goL;rw [if_neg this]
 |n+1,m+1,l,b,h1,h2=>by
  unfold goL
  split
  ·exact goL_fuel n m _ _ (by rw [List.length_drop];omega) (by rw [List.length_drop];omega)
  ·rfl
theorem goL_stop {n:Nat}{l:Ln}{b:Bs} (hb:¬ 32≤b.length):goL n l b=(l,b):=by
 cases n with
 |zero=>rfl
 |succ n=>unfold goL;rw [if_neg hb]
theorem tail8_step {n x:Nat}{b:Bs} (hb:8≤b.length) (hn:b.length≤n):tail8 n x b=tail8 (n - 8) (t8 x (num (b.take 8))) (b.drop 8):=by
 obtain ⟨m,rfl⟩:∃ m,n=m+1:=⟨n - 1,by omega⟩
 have h:tail8 (m+1) x b=tail8 m (t8 x (num (b.take 8))) (b.drop 8):=by
  conv=>lhs;unfold tail8
  rw [if_pos hb]
 rw [h]
 exact fuel m (m+1 - 8) _ (b.drop 8) (by rw [List.length_drop];omega) (by rw [List.length_drop];omega)
where
 fuel:∀ (n m x:Nat) (b:Bs),b.length≤n→b.length≤m→tail8 n x b=tail8 m x b
 |0,0,x,b,_,_=>rfl
 |0,m+1,x,b,h,_=>by
  have:¬ 8≤b.length:=oQ
  unfold tail8;rw [if_neg this]
 |n+1,0,x,b,_,h=>by
  have:¬ 8≤b.length:=oQ
  unfold tail8;rw [if_neg this]
 |n+1,m+1,x,b,h1,h2=>by
  unfold tail8
  split
  ·exact fuel n m _ _ (by rw [List.length_drop];omega) (by rw [List.length_drop];omega)
  ·rfl
theorem tail8_stop {n x:Nat}{b:Bs} (hb:¬ 8≤b.length):tail8 n x b=(x,b):=by
 cases n with
 |zero=>rfl
 |succ n=>unfold tail8;rw [if_neg hb]
end Go.Xx
namespace Go.Proofs.YtlinnpehkfbnkaaGreatDoor
open Go Go.Sl Go.Med Go.MapKept Go.RowKit
section
variable {x y z a n c:Nat}
theorem wrapN (x:Nat):IntKind.u64.wrap (x:Int)=((x%18446744073709551616:Nat):Int):=by rw [IntKind.wrap_u64];rfl
theorem mulN (x c:Nat):IntKind.u64.wrap ((x:Int) * (c:Int))=((x * c%18446744073709551616:Nat):Int):=by rw [← Int.natCast_mul,wrapN]
theorem addN (x c:Nat):IntKind.u64.wrap ((x:Int)+(c:Int))=(((x+c)%18446744073709551616:Nat):Int):=by rw [← Int.natCast_add,wrapN]
theorem orN (x y:Nat) (hx:x<18446744073709551616) (hy:y<18446744073709551616):bits .or .u64 (x:Int) (y:Int)=((x ||| y:Nat):Int):=u64_or_nat x y hx hy
theorem xorN (x y:Nat) (hx:x<18446744073709551616) (hy:y<18446744073709551616):bits .xor .u64 (x:Int) (y:Int)=((x ^^^ y:Nat):Int):=u64_xor_nat x y hx hy
theorem modW (x:Nat):x%18446744073709551616<18446744073709551616:=Nat.mod_lt _ dCz
theorem xorW (hx:x<18446744073709551616) (hy:y<18446744073709551616):x ^^^ y<18446744073709551616:=Xx.xor_lt (show x<Xx.W from hx) (show y<Xx.W from hy)
theorem laneW (a w:Nat):Xx.lane a w<18446744073709551616:=Xx.lane_lt a w
theorem lane_ex (a x:Nat):∃ y z u:Nat,IntKind.u64.wrap ((x:Int) * 14029467366897019727)=(y:Int)∧IntKind.u64.wrap ((a:Int)+(y:Int))=(z:Int)∧z<18446744073709551616∧IntKind.u64.wrap ((Xx.turn z 31:Nat) * (11400714785074694791:Int))=(u:Int)∧Xx.lane a x=u:=
 ⟨x * Xx.p2%18446744073709551616,(a+x * Xx.p2%18446744073709551616)%18446744073709551616,Xx.turn ((a+x * Xx.p2%18446744073709551616)%18446744073709551616) 31 * Xx.p1%18446744073709551616,mulN x Xx.p2,addN _ _,modW _,mulN _ Xx.p1,rfl⟩
theorem mix_ex (hx:x<18446744073709551616) (a:Nat):∃ y z u:Nat,bits .xor .u64 (x:Int) ((Xx.lane 0 a:Nat):Int)=(y:Int)∧IntKind.u64.wrap ((y:Int) * 11400714785074694791)=(z:Int)∧IntKind.u64.wrap ((z:Int)+9650029242287828579)=(u:Int)∧u<18446744073709551616∧Xx.mix x a=u:=
 ⟨x ^^^ Xx.lane 0 a,(x ^^^ Xx.lane 0 a) * Xx.p1%18446744073709551616,((x ^^^ Xx.lane 0 a) * Xx.p1%18446744073709551616+Xx.p4)%18446744073709551616,xorN x _ hx (laneW 0 a),mulN _ Xx.p1,addN _ Xx.p4,modW _,rfl⟩
theorem t8_ex (hx:x<18446744073709551616) (n:Nat):∃ r z u:Nat,bits .xor .u64 (x:Int) ((Xx.lane 0 n:Nat):Int)=(r:Int)∧r<18446744073709551616∧IntKind.u64.wrap ((Xx.turn r 27:Nat) * (11400714785074694791:Int))=(z:Int)∧IntKind.u64.wrap ((z:Int)+9650029242287828579)=(u:Int)∧u<18446744073709551616∧Xx.t8 x n=u:=
 ⟨x ^^^ Xx.lane 0 n,Xx.turn (x ^^^ Xx.lane 0 n) 27 * Xx.p1%18446744073709551616,(Xx.turn (x ^^^ Xx.lane 0 n) 27 * Xx.p1%18446744073709551616+Xx.p4)%18446744073709551616,xorN x _ hx (laneW 0 n),xorW hx (laneW 0 n),mulN _ Xx.p1,addN _ Xx.p4,modW _,rfl⟩
theorem t4_ex (hx:x<18446744073709551616) (n:Nat):∃ t r z u:Nat,IntKind.u64.wrap ((n:Int) * 11400714785074694791)=(t:Int)∧bits .xor .u64 (x:Int) (t:Int)=(r:Int)∧r<18446744073709551616∧IntKind.u64.wrap ((Xx.turn r 23:Nat) * (14029467366897019727:Int))=(z:Int)∧IntKind.u64.wrap ((z:Int)+1609587929392839161)=(u:Int)∧u<18446744073709551616∧Xx.t4 x n=u:=
 ⟨n * Xx.p1%18446744073709551616,x ^^^ (n * Xx.p1%18446744073709551616),Xx.turn (x ^^^ (n * Xx.p1%18446744073709551616)) 23 * Xx.p2%18446744073709551616,(Xx.turn (x ^^^ (n * Xx.p1%18446744073709551616)) 23 * Xx.p2%18446744073709551616+Xx.p3)%18446744073709551616,mulN n Xx.p1,xorN x _ hx (modW _),xorW hx (modW _),mulN _ Xx.p2,addN _ Xx.p3,modW _,rfl⟩
theorem t1_ex (hx:x<18446744073709551616) (c:UInt8):∃ q r u:Nat,IntKind.u64.wrap ((c.toNat:Int) * 2870177450012600261)=(q:Int)∧bits .xor .u64 (x:Int) (q:Int)=(r:Int)∧r<18446744073709551616∧IntKind.u64.wrap ((Xx.turn r 11:Nat) * (11400714785074694791:Int))=(u:Int)∧u<18446744073709551616∧Xx.t1 x c=u:=
 ⟨c.toNat * Xx.p5%18446744073709551616,x ^^^ (c.toNat * Xx.p5%18446744073709551616),Xx.turn (x ^^^ (c.toNat * Xx.p5%18446744073709551616)) 11 * Xx.p1%18446744073709551616,mulN _ Xx.p5,xorN x _ hx (modW _),xorW hx (modW _),mulN _ Xx.p1,modW _,rfl⟩
theorem join_ex (l:Xx.Ln):∃ s1 s2 x0:Nat,IntKind.u64.wrap ((Xx.turn l.a 1:Nat)+((Xx.turn l.b 7:Nat):Int))=(s1:Int)∧IntKind.u64.wrap ((s1:Int)+((Xx.turn l.c 12:Nat):Int))=(s2:Int)∧IntKind.u64.wrap ((s2:Int)+((Xx.turn l.d 18:Nat):Int))=(x0:Int)∧x0<18446744073709551616∧Xx.joined l=Xx.mix (Xx.mix (Xx.mix (Xx.mix x0 l.a) l.b) l.c) l.d:=
 ⟨_,_,_,addN _ _,addN _ _,addN _ _,modW _,rfl⟩
theorem fin_ex (hx:x<18446744073709551616):∃ t1 t2 t3 t4 t5:Nat,bits .xor .u64 (x:Int) ((x:Int) / 8589934592)=(t1:Int)∧IntKind.u64.wrap ((t1:Int) * 14029467366897019727)=(t2:Int)∧bits .xor .u64 (t2:Int) ((t2:Int) / 536870912)=(t3:Int)∧IntKind.u64.wrap ((t3:Int) * 1609587929392839161)=(t4:Int)∧bits .xor .u64 (t4:Int) ((t4:Int) / 4294967296)=(t5:Int)∧Xx.f3 (Xx.f2 (Xx.f1 x))=t5:=by
 have d:∀ (y k:Nat),y<18446744073709551616→y / k<18446744073709551616:=fun y k h=>Nat.lt_of_le_of_lt (Nat.div_le_self _ _) h
 exact ⟨x ^^^ (x / 8589934592),(x ^^^ (x / 8589934592)) * Xx.p2%18446744073709551616,Xx.f1 x ^^^ (Xx.f1 x / 536870912),(Xx.f1 x ^^^ (Xx.f1 x / 536870912)) * Xx.p3%18446744073709551616,Xx.f2 (Xx.f1 x) ^^^ (Xx.f2 (Xx.f1 x) / 4294967296),xorN x _ hx (d _ _ hx),mulN _ Xx.p2,xorN (Xx.f1 x) _ (modW _) (d _ _ (modW _)),mulN _ Xx.p3,xorN (Xx.f2 (Xx.f1 x)) _ (modW _) (d _ _ (modW _)),rfl⟩
theorem start_ex (j n:Nat):∃ x:Nat,IntKind.u64.wrap ((j:Int)+(n:Int))=(x:Int)∧x<18446744073709551616∧(j+n)%Xx.W=x:=⟨(j+n)%18446744073709551616,addN j n,modW _,rfl⟩
end
section
variable {w0 w:World}{F:List HProp}{v bv:Value}
theorem turn1_c (x:Nat) (hx:x<18446744073709551616) (h:Sat w0 w F):Calls Tryz.prog 259 #[.int .u64 x,.int .i64 1] w (Rtn fun v w'=>v = .int .u64 (Xx.turn x 1:Nat)∧Sat w0 w' F):=by
 have hf:=uQ (show Xx.turn x 1=(x * 2%18446744073709551616) ||| (x / 9223372036854775808) from rfl)
 have e1:IntKind.u64.wrap ((x:Int) * 2)=((x * 2%18446744073709551616:Nat):Int):=by rw [IntKind.wrap_u64];omega
 have e2:(x:Int) / 9223372036854775808=((x / 9223372036854775808:Nat):Int):=rfl
 have ha:x * 2%18446744073709551616<18446744073709551616:=Nat.mod_lt _ dCz
 have hb:x / 9223372036854775808<18446744073709551616:=Nat.lt_of_le_of_lt (Nat.div_le_self _ _) hx
 generalize x * 2%18446744073709551616=a at *
 generalize x / 9223372036854775808=b at *
 have e3:=orN a b ha hb
 have hS:=h.drew
 have e0:bits .and .i64 (1:Int) 63=1:=by decide
 have e00:wrap64 (64 - 1:Int)=63:=by rw [IntWalk.wrap64_in _ dCz];rfl
 clear ha hb h
 go_enter Tryz.func259,Tryz.ntmps259
 go_wp2_with fail
 go_region
 go_wp2
 go_ret
 exact ⟨_,rfl,by rw [hf.out];rfl,hS⟩
theorem turn7_c (x:Nat) (hx:x<18446744073709551616) (h:Sat w0 w F):Calls Tryz.prog 259 #[.int .u64 x,.int .i64 7] w (Rtn fun v w'=>v = .int .u64 (Xx.turn x 7:Nat)∧Sat w0 w' F):=by
 have hf:=uQ (show Xx.turn x 7=(x * 128%18446744073709551616) ||| (x / 144115188075855872) from rfl)
 have e1:IntKind.u64.wrap ((x:Int) * 128)=((x * 128%18446744073709551616:Nat):Int):=by rw [IntKind.wrap_u64];omega
 have e2:(x:Int) / 144115188075855872=((x / 144115188075855872:Nat):Int):=rfl
 have ha:x * 128%18446744073709551616<18446744073709551616:=Nat.mod_lt _ dCz
 have hb:x / 144115188075855872<18446744073709551616:=Nat.lt_of_le_of_lt (Nat.div_le_self _ _) hx
 generalize x * 128%18446744073709551616=a at *
 generalize x / 144115188075855872=b at *
 have e3:=orN a b ha hb
 have hS:=h.drew
 have e0:bits .and .i64 (7:Int) 63=7:=by decide
 have e00:wrap64 (64 - 7:Int)=57:=by rw [IntWalk.wrap64_in _ dCz];rfl
 clear ha hb h
 go_enter Tryz.func259,Tryz.ntmps259
 go_wp2_with fail
 go_region
 go_wp2
 go_ret
 exact ⟨_,rfl,by rw [hf.out];rfl,hS⟩
theorem turn11_c (x:Nat) (hx:x<18446744073709551616) (h:Sat w0 w F):Calls Tryz.prog 259 #[.int .u64 x,.int .i64 11] w (Rtn fun v w'=>v = .int .u64 (Xx.turn x 11:Nat)∧Sat w0 w' F):=by
 have hf:=uQ (show Xx.turn x 11=(x * 2048%18446744073709551616) ||| (x / 9007199254740992) from rfl)
 have e1:IntKind.u64.wrap ((x:Int) * 2048)=((x * 2048%18446744073709551616:Nat):Int):=by rw [IntKind.wrap_u64];omega
 have e2:(x:Int) / 9007199254740992=((x / 9007199254740992:Nat):Int):=rfl
 have ha:x * 2048%18446744073709551616<18446744073709551616:=Nat.mod_lt _ dCz
 have hb:x / 9007199254740992<18446744073709551616:=Nat.lt_of_le_of_lt (Nat.div_le_self _ _) hx
 generalize x * 2048%18446744073709551616=a at *
 generalize x / 9007199254740992=b at *
 have e3:=orN a b ha hb
 have hS:=h.drew
 have e0:bits .and .i64 (11:Int) 63=11:=by decide
 have e00:wrap64 (64 - 11:Int)=53:=by rw [IntWalk.wrap64_in _ dCz];rfl
 clear ha hb h
 go_enter Tryz.func259,Tryz.ntmps259
 go_wp2_with fail
 go_region
 go_wp2
 go_ret
 exact ⟨_,rfl,by rw [hf.out];rfl,hS⟩
theorem turn12_c (x:Nat) (hx:x<18446744073709551616) (h:Sat w0 w F):Calls Tryz.prog 259 #[.int .u64 x,.int .i64 12] w (Rtn fun v w'=>v = .int .u64 (Xx.turn x 12:Nat)∧Sat w0 w' F):=by
 have hf:=uQ (show Xx.turn x 12=(x * 4096%18446744073709551616) ||| (x / 4503599627370496) from rfl)
 have e1:IntKind.u64.wrap ((x:Int) * 4096)=((x * 4096%18446744073709551616:Nat):Int):=by rw [IntKind.wrap_u64];omega
 have e2:(x:Int) / 4503599627370496=((x / 4503599627370496:Nat):Int):=rfl
 have ha:x * 4096%18446744073709551616<18446744073709551616:=Nat.mod_lt _ dCz
 have hb:x / 4503599627370496<18446744073709551616:=Nat.lt_of_le_of_lt (Nat.div_le_self _ _) hx
 generalize x * 4096%18446744073709551616=a at *
 generalize x / 4503599627370496=b at *
 have e3:=orN a b ha hb
 have hS:=h.drew
 have e0:bits .and .i64 (12:Int) 63=12:=by decide
 have e00:wrap64 (64 - 12:Int)=52:=by rw [IntWalk.wrap64_in _ dCz];rfl
 clear ha hb h
 go_enter Tryz.func259,Tryz.ntmps259
 go_wp2_with fail
 go_region
 go_wp2
 go_ret
 exact ⟨_,rfl,by rw [hf.out];rfl,hS⟩
theorem turn18_c (x:Nat) (hx:x<18446744073709551616) (h:Sat w0 w F):Calls Tryz.prog 259 #[.int .u64 x,.int .i64 18] w (Rtn fun v w'=>v = .int .u64 (Xx.turn x 18:Nat)∧Sat w0 w' F):=by
 have hf:=uQ (show Xx.turn x 18=(x * 262144%18446744073709551616) ||| (x / 70368744177664) from rfl)
 have e1:IntKind.u64.wrap ((x:Int) * 262144)=((x * 262144%18446744073709551616:Nat):Int):=by rw [IntKind.wrap_u64];omega
 have e2:(x:Int) / 70368744177664=((x / 70368744177664:Nat):Int):=rfl
 have ha:x * 262144%18446744073709551616<18446744073709551616:=Nat.mod_lt _ dCz
 have hb:x / 70368744177664<18446744073709551616:=Nat.lt_of_le_of_lt (Nat.div_le_self _ _) hx
 generalize x * 262144%18446744073709551616=a at *
 generalize x / 70368744177664=b at *
 have e3:=orN a b ha hb
 have hS:=h.drew
 have e0:bits .and .i64 (18:Int) 63=18:=by decide
 have e00:wrap64 (64 - 18:Int)=46:=by rw [IntWalk.wrap64_in _ dCz];rfl
 clear ha hb h
 go_enter Tryz.func259,Tryz.ntmps259
 go_wp2_with fail
 go_region
 go_wp2
 go_ret
 exact ⟨_,rfl,by rw [hf.out];rfl,hS⟩
theorem turn23_c (x:Nat) (hx:x<18446744073709551616) (h:Sat w0 w F):Calls Tryz.prog 259 #[.int .u64 x,.int .i64 23] w (Rtn fun v w'=>v = .int .u64 (Xx.turn x 23:Nat)∧Sat w0 w' F):=by
 have hf:=uQ (show Xx.turn x 23=(x * 8388608%18446744073709551616) ||| (x / 2199023255552) from rfl)
 have e1:IntKind.u64.wrap ((x:Int) * 8388608)=((x * 8388608%18446744073709551616:Nat):Int):=by rw [IntKind.wrap_u64];omega
 have e2:(x:Int) / 2199023255552=((x / 2199023255552:Nat):Int):=rfl
 have ha:x * 8388608%18446744073709551616<18446744073709551616:=Nat.mod_lt _ dCz
 have hb:x / 2199023255552<18446744073709551616:=Nat.lt_of_le_of_lt (Nat.div_le_self _ _) hx
 generalize x * 8388608%18446744073709551616=a at *
 generalize x / 2199023255552=b at *
 have e3:=orN a b ha hb
 have hS:=h.drew
 have e0:bits .and .i64 (23:Int) 63=23:=by decide
 have e00:wrap64 (64 - 23:Int)=41:=by rw [IntWalk.wrap64_in _ dCz];rfl
 clear ha hb h
 go_enter Tryz.func259,Tryz.ntmps259
 go_wp2_with fail
 go_region
 go_wp2
 go_ret
 exact ⟨_,rfl,by rw [hf.out];rfl,hS⟩
theorem turn27_c (x:Nat) (hx:x<18446744073709551616) (h:Sat w0 w F):Calls Tryz.prog 259 #[.int .u64 x,.int .i64 27] w (Rtn fun v w'=>v = .int .u64 (Xx.turn x 27:Nat)∧Sat w0 w' F):=by
 have hf:=uQ (show Xx.turn x 27=(x * 134217728%18446744073709551616) ||| (x / 137438953472) from rfl)
 have e1:IntKind.u64.wrap ((x:Int) * 134217728)=((x * 134217728%18446744073709551616:Nat):Int):=by rw [IntKind.wrap_u64];omega
 have e2:(x:Int) / 137438953472=((x / 137438953472:Nat):Int):=rfl
 have ha:x * 134217728%18446744073709551616<18446744073709551616:=Nat.mod_lt _ dCz
 have hb:x / 137438953472<18446744073709551616:=Nat.lt_of_le_of_lt (Nat.div_le_self _ _) hx
 generalize x * 134217728%18446744073709551616=a at *
 generalize x / 137438953472=b at *
 have e3:=orN a b ha hb
 have hS:=h.drew
 have e0:bits .and .i64 (27:Int) 63=27:=by decide
 have e00:wrap64 (64 - 27:Int)=37:=by rw [IntWalk.wrap64_in _ dCz];rfl
 clear ha hb h
 go_enter Tryz.func259,Tryz.ntmps259
 go_wp2_with fail
 go_region
 go_wp2
 go_ret
 exact ⟨_,rfl,by rw [hf.out];rfl,hS⟩
theorem turn31_c (x:Nat) (hx:x<18446744073709551616) (h:Sat w0 w F):Calls Tryz.prog 259 #[.int .u64 x,.int .i64 31] w (Rtn fun v w'=>v = .int .u64 (Xx.turn x 31:Nat)∧Sat w0 w' F):=by
 have hf:=uQ (show Xx.turn x 31=(x * 2147483648%18446744073709551616) ||| (x / 8589934592) from rfl)
 have e1:IntKind.u64.wrap ((x:Int) * 2147483648)=((x * 2147483648%18446744073709551616:Nat):Int):=by rw [IntKind.wrap_u64];omega
 have e2:(x:Int) / 8589934592=((x / 8589934592:Nat):Int):=rfl
 have ha:x * 2147483648%18446744073709551616<18446744073709551616:=Nat.mod_lt _ dCz
 have hb:x / 8589934592<18446744073709551616:=Nat.lt_of_le_of_lt (Nat.div_le_self _ _) hx
 generalize x * 2147483648%18446744073709551616=a at *
 generalize x / 8589934592=b at *
 have e3:=orN a b ha hb
 have hS:=h.drew
 have e0:bits .and .i64 (31:Int) 63=31:=by decide
 have e00:wrap64 (64 - 31:Int)=33:=by rw [IntWalk.wrap64_in _ dCz];rfl
 clear ha hb h
 go_enter Tryz.func259,Tryz.ntmps259
 go_wp2_with fail
 go_region
 go_wp2
 go_ret
 exact ⟨_,rfl,by rw [hf.out];rfl,hS⟩
theorem lane_c (a x:Nat) (h:Sat w0 w F):Calls Tryz.prog 231 #[.int .u64 a,.int .u64 x] w (Rtn fun v w'=>v = .int .u64 (Xx.lane a x:Nat)∧Sat w0 w' F):=by
 obtain ⟨y,z,u,e1,e2,hz,e3,e4⟩:=lane_ex a x
 rw [e4]
 have ht:=turn31_c z hz h
 clear hz e4 h
 generalize Xx.turn z 31=t at *
 go_enter Tryz.func231,Tryz.ntmps231
 go_wp2_with fail
 refine ht.mono ?_
 rintro ee w1 ⟨v,rfl,rfl,hS⟩
 clear ht
 go_wp2
 go_ret
 exact ⟨_,rfl,rfl,hS⟩
end
structure RS (w0:World) (F:List HProp) (v:Value) (l:Bs):Prop where
 rd:Ro w0 F (rdsl 1 v (bys l))
 cap:capOk v
section
variable {w0 w:World}{F:List HProp}{v:Value}{l:Bs}{a:Option Addr}{n c k:Nat}
theorem sizeU8 (w:World):(sizeOf 5).run Tryz.prog w = .ok 1 w:=by kernel_rfl
theorem elemU8:Tryz.prog.elem 25=5:=by kernel_rfl
theorem undU8:Tryz.prog.underlying 25=some (.slice (Tryz.prog.elem 25)):=by rw [elemU8];exact Tryz.underlying25
theorem run_slF (hk:k≤n) (w:World):(Instr.sliceAt 25 (.slice a n c) (some (.int .i64 k)) none none).run Tryz.prog w = .ok (sliced a k n c 1) w:=by
 rw [run_sliceAt_slice _ _ _ _ _ _ undU8,run_slice_l _ _ _ _ _ undU8 .i64 (k:Int) oQ oQ,elemU8,sizeU8]
 simp [Result.andThen]
theorem run_slT (hk:k≤c) (w:World):(Instr.sliceAt 25 (.slice a n c) none (some (.int .i64 k)) none).run Tryz.prog w = .ok (sliced a 0 k c 1) w:=by
 rw [run_sliceAt_slice _ _ _ _ _ _ undU8,run_slice_h _ _ _ _ _ undU8 .i64 (k:Int) oQ oQ,elemU8,sizeU8]
 simp [Result.andThen]
theorem run_slM (hk:k≤c) (w:World):(Instr.sliceAt 25 (.slice a n c) none (some (.int .i64 k)) (some (.int .i64 k))).run Tryz.prog w = .ok (sliced a 0 k k 1) w:=by
 rw [run_sliceAt_slice _ _ _ _ _ _ undU8,run_slice_hm _ _ _ _ _ undU8 .i64 .i64 (k:Int) (k:Int) oQ oQ oQ,elemU8,sizeU8]
 simp [Result.andThen]
theorem RS.len (h:RS w0 F v l) (hS:Sat w0 w F):∃ a c,v = .slice a l.length c∧l.length≤c∧c≤9223372036854775807:=by
 obtain ⟨a,n,c,rfl,h1,h2⟩:=h.cap
 obtain ⟨_,_,_,he,hl,_⟩:=h.rd w hS
 cases he
 rw [bys_len,Nat.mul_one]at hl
 subst hl
 exact ⟨a,c,rfl,h1,h2⟩
theorem bys_get {l:Bs}{j:Nat}{y:Value}:(bys l)[j]?=some y↔∃ u,l[j]?=some u∧y = .int .u8 u.toNat:=by
 unfold bys
 rw [List.getElem?_map,Option.map_eq_some_iff]
 constructor
 ·rintro ⟨u,h1,h2⟩;exact ⟨u,h1,h2.symm⟩
 ·rintro ⟨u,h1,h2⟩;exact ⟨u,h1,h2.symm⟩
theorem RS.from (h:RS w0 F (.slice a l.length c) l) (hk:k≤l.length):RS w0 F (sliced a k l.length c 1) (l.drop k):=by
 obtain ⟨a',n',c',he,h1,h2⟩:=h.cap
 cases he
 refine ⟨fun w hw=>?_,⟨_,_,_,rfl,by omega,by omega⟩⟩
 refine ⟨_,_,_,rfl,by rw [bys_len,List.length_drop,Nat.mul_one],fun j y hj=>?_⟩
 obtain ⟨u,hu,rfl⟩:=bys_get.1 hj
 rw [List.getElem?_drop]at hu
 have hlt:=(List.getElem?_eq_some_iff.1 hu).1
 obtain ⟨bk,off,rfl,hc⟩:=rdsl_cells (h.rd w hw) (bys_get.2 ⟨u,hu,rfl⟩)
 rw [if_neg oQ]
 refine ⟨_,rfl,?_⟩
 have:=hc (k+j) _ (bys_get.2 ⟨u,hu,rfl⟩)
 show w.cell? (((⟨bk,off,none⟩:Addr).add (k * 1)).add j)=_
 rw [Addr.add_mid,Addr.add_mid,Nat.mul_one,Nat.add_assoc];exact this
theorem RS.to (h:RS w0 F (.slice a l.length c) l) (hk:k≤l.length) (m:Nat) (hm:k≤m) (hmc:m≤c):RS w0 F (sliced a 0 k m 1) (l.take k):=by
 obtain ⟨a',n',c',he,h1,h2⟩:=h.cap
 cases he
 refine ⟨fun w hw=>?_,⟨_,_,_,rfl,by omega,by omega⟩⟩
 refine ⟨_,_,_,rfl,by rw [bys_len,List.length_take,Nat.mul_one];omega,fun j y hj=>?_⟩
 obtain ⟨u,hu,rfl⟩:=bys_get.1 hj
 rw [List.getElem?_take]at hu
 split at hu
 ·rename_i hjk
  obtain ⟨bk,off,rfl,hc⟩:=rdsl_cells (h.rd w hw) (bys_get.2 ⟨u,hu,rfl⟩)
  rw [if_neg oQ]
  refine ⟨_,rfl,?_⟩
  have:=hc j _ (bys_get.2 ⟨u,hu,rfl⟩)
  show w.cell? (((⟨bk,off,none⟩:Addr).add (0 * 1)).add j)=_
  rw [Addr.add_mid,Addr.add_mid,Nat.zero_mul,Nat.add_zero];exact this
 ·cases hu
theorem RS.of_bsl (h:Sat w0 w (bsl v l::F)):RS w0 (bsl v l::F) v l:=by
 obtain ⟨a,n,c,e,h1,h2,h3⟩:=bsl_cap' h
 exact ⟨Ro.bsl _ _,⟨a,n,c,e,h1,h2⟩⟩
theorem RS.more (h:RS w0 F v l){G:List HProp} (k:Sub G F):RS w0 G v l:=⟨Ro.of_sub h.rd k,h.cap⟩
end
section
variable {P:Program}{w:World}{ops:Array Oper}{rest:List Oper}{a:Act}{Q:Exit→Act→World→Prop}{dst:Option Tmp}{t ty:TypeId}{pos:String}{after:Array Edge}{x y z:Operand}{v vx vy vz:Value}
theorem wl_slF (hx:a.eval x=vx) (hy:a.eval y=vy) (hr:∀ w,(Instr.sliceAt ty vx (some vy) none none).run P w = .ok v w) (h:wpList P ops Q rest (a.put dst v) w):wpList P ops Q (⟨dst,.slice ty x (some y) none none,t,pos,after,none⟩::rest) a w:=
 wpList_plain rfl fun _ hK=>by
  unfold Oper.wp execOp
  simp only [hx,hy,Option.map_some,Option.map_none,Sem.run_bind,hr,Result.andThen_ok,Sem.run_pure]
  exact hK _ _ h
theorem wl_slT (hx:a.eval x=vx) (hy:a.eval y=vy) (hr:∀ w,(Instr.sliceAt ty vx none (some vy) none).run P w = .ok v w) (h:wpList P ops Q rest (a.put dst v) w):wpList P ops Q (⟨dst,.slice ty x none (some y) none,t,pos,after,none⟩::rest) a w:=
 wpList_plain rfl fun _ hK=>by
  unfold Oper.wp execOp
  simp only [hx,hy,Option.map_some,Option.map_none,Sem.run_bind,hr,Result.andThen_ok,Sem.run_pure]
  exact hK _ _ h
theorem wl_slM (hx:a.eval x=vx) (hy:a.eval y=vy) (hz:a.eval z=vz) (hr:∀ w,(Instr.sliceAt ty vx none (some vy) (some vz)).run P w = .ok v w) (h:wpList P ops Q rest (a.put dst v) w):wpList P ops Q (⟨dst,.slice ty x none (some y) (some z),t,pos,after,none⟩::rest) a w:=
 wpList_plain rfl fun _ hK=>by
  unfold Oper.wp execOp
  simp only [hx,hy,hz,Option.map_some,Option.map_none,Sem.run_bind,hr,Result.andThen_ok,Sem.run_pure]
  exact hK _ _ h
theorem at_slF (h:Stop (wpList P ops Q (⟨dst,.slice ty x (some y) none none,t,pos,after,none⟩::rest) a w)):wpList P ops Q (⟨dst,.slice ty x (some y) none none,t,pos,after,none⟩::rest) a w:=h.out
theorem at_slT (h:Stop (wpList P ops Q (⟨dst,.slice ty x none (some y) none,t,pos,after,none⟩::rest) a w)):wpList P ops Q (⟨dst,.slice ty x none (some y) none,t,pos,after,none⟩::rest) a w:=h.out
theorem at_slM (h:Stop (wpList P ops Q (⟨dst,.slice ty x none (some y) (some z),t,pos,after,none⟩::rest) a w)):wpList P ops Q (⟨dst,.slice ty x none (some y) (some z),t,pos,after,none⟩::rest) a w:=h.out
end
section
variable {w0 w:World}{F:List HProp}{v bv:Value}
theorem or_num8 (l:Bs) (c:UInt8) (k:Nat) (hl:l.length=k) (hk:k<8):bits .or .u64 ((Frm.num l:Nat):Int) ((c.toNat:Int) * ((256^k:Nat):Int))=((Frm.num (l++[c]):Nat):Int):=by
 subst hl
 have h1:=Frm.num_lt l
 have h2:=c.toNat_lt
 have h3:256^l.length≤256^7:=Nat.pow_le_pow_right dCz oQ
 have h4:c.toNat * 256^l.length≤255 * 256^7:=Nat.mul_le_mul oQ h3
 have h5:(256:Nat)^7=72057594037927936:=by decide
 have e:(c.toNat:Int) * ((256^l.length:Nat):Int)=((c.toNat * 256^l.length:Nat):Int):=by rw [Int.natCast_mul]
 rw [e,u64_or_nat _ _ oQ oQ,Frm.num_snoc]
 congr 1
 have hp:(256:Nat)^l.length=2^(8 * l.length):=by rw [Nat.pow_mul]
 rw [hp]at h1 ⊢
 have:=Nat.two_pow_add_eq_or_of_lt h1 c.toNat
 rw [Nat.or_comm,Nat.mul_comm c.toNat,← this,Nat.add_comm]
set_option maxRecDepth 20000 in
theorem get8_c (c0 c1 c2 c3 c4 c5 c6 c7:UInt8) (a:Option Addr) (c:Nat) (h:rdsl 1 (.slice a 8 c) (bys [c0,c1,c2,c3,c4,c5,c6,c7]) w) :
  Calls Tryz.prog 200 #[.slice a 8 c] w (Rtn fun v w'=>v = .tuple #[.int .u64 (Frm.num [c0,c1,c2,c3,c4,c5,c6,c7]:Nat),.bool true]∧w=w'):=by
 obtain ⟨bk,off,rfl,hc⟩:=rdsl_cells h (i:=0) rfl
 have e0:w.cell? ⟨bk,off,none⟩=some (.int .u8 c0.toNat):=hc 0 _ rfl
 have t0:=c0.toNat_lt
 have e1:w.cell? ⟨bk,off+1,none⟩=some (.int .u8 c1.toNat):=hc 1 _ rfl
 have t1:=c1.toNat_lt
 have e2:w.cell? ⟨bk,off+2,none⟩=some (.int .u8 c2.toNat):=hc 2 _ rfl
 have t2:=c2.toNat_lt
 have e3:w.cell? ⟨bk,off+3,none⟩=some (.int .u8 c3.toNat):=hc 3 _ rfl
 have t3:=c3.toNat_lt
 have e4:w.cell? ⟨bk,off+4,none⟩=some (.int .u8 c4.toNat):=hc 4 _ rfl
 have t4:=c4.toNat_lt
 have e5:w.cell? ⟨bk,off+5,none⟩=some (.int .u8 c5.toNat):=hc 5 _ rfl
 have t5:=c5.toNat_lt
 have e6:w.cell? ⟨bk,off+6,none⟩=some (.int .u8 c6.toNat):=hc 6 _ rfl
 have t6:=c6.toNat_lt
 have e7:w.cell? ⟨bk,off+7,none⟩=some (.int .u8 c7.toNat):=hc 7 _ rfl
 have t7:=c7.toNat_lt
 clear hc h
 go_enter Tryz.func200,Tryz.ntmps200
 go_wp2_with fail
 go_loopg [17,4] 8 (fun g iq xq wr=>∃ i:Nat,g=8 - i∧i≤8∧iq = .int .i64 i∧xq = .int .u64 (Frm.num ([c0,c1,c2,c3,c4,c5,c6,c7].take i):Nat)∧wr=w)
 case atStart=>exact ⟨0,rfl,by omega,rfl,rfl,rfl⟩
 case round=>
  obtain ⟨i,rfl,hi,rfl,rfl,rfl⟩:=hrel
  by_cases h4:i<8
  ·have h0:i=0∨i=1∨i=2∨i=3∨i=4∨i=5∨i=6∨i=7:=by omega
   clear hi h4
   rcases h0 with rfl|rfl|rfl|rfl|rfl|rfl|rfl|rfl
   ·have hq:bits .or .u64 ((Frm.num []:Nat):Int) (c0.toNat:Int)=((Frm.num [c0]:Nat):Int):=by
     have:=or_num8 [] c0 0 rfl dCz
     simpa using this
    go_wp2_with fail
    go_roundg (8 - 1)
    case measure=>decide
    case rel=>exact ⟨1,rfl,by decide,by first|rfl|go_num,rfl,rfl⟩
   ·have hq:bits .or .u64 ((Frm.num [c0]:Nat):Int) ((c1.toNat:Int) * 256)=((Frm.num [c0,c1]:Nat):Int):=or_num8 [c0] c1 1 rfl dCz
    go_wp2_with fail
    go_roundg (8 - 2)
    case measure=>decide
    case rel=>exact ⟨2,rfl,by decide,by first|rfl|go_num,rfl,rfl⟩
   ·have hq:bits .or .u64 ((Frm.num [c0,c1]:Nat):Int) ((c2.toNat:Int) * 65536)=((Frm.num [c0,c1,c2]:Nat):Int):=or_num8 [c0,c1] c2 2 rfl dCz
    go_wp2_with fail
    go_roundg (8 - 3)
    case measure=>decide
    case rel=>exact ⟨3,rfl,by decide,by first|rfl|go_num,rfl,rfl⟩
   ·have hq:bits .or .u64 ((Frm.num [c0,c1,c2]:Nat):Int) ((c3.toNat:Int) * 16777216)=((Frm.num [c0,c1,c2,c3]:Nat):Int):=or_num8 [c0,c1,c2] c3 3 rfl dCz
    go_wp2_with fail
    go_roundg (8 - 4)
    case measure=>decide
    case rel=>exact ⟨4,rfl,by decide,by first|rfl|go_num,rfl,rfl⟩
   ·have hq:bits .or .u64 ((Frm.num [c0,c1,c2,c3]:Nat):Int) ((c4.toNat:Int) * 4294967296)=((Frm.num [c0,c1,c2,c3,c4]:Nat):Int):=or_num8 [c0,c1,c2,c3] c4 4 rfl dCz
    go_wp2_with fail
    go_roundg (8 - 5)
    case measure=>decide
    case rel=>exact ⟨5,rfl,by decide,by first|rfl|go_num,rfl,rfl⟩
   ·have hq:bits .or .u64 ((Frm.num [c0,c1,c2,c3,c4]:Nat):Int) ((c5.toNat:Int) * 1099511627776)=((Frm.num [c0,c1,c2,c3,c4,c5]:Nat):Int):=or_num8 [c0,c1,c2,c3,c4] c5 5 rfl dCz
    go_wp2_with fail
    go_roundg (8 - 6)
    case measure=>decide
    case rel=>exact ⟨6,rfl,by decide,by first|rfl|go_num,rfl,rfl⟩
   ·have hq:bits .or .u64 ((Frm.num [c0,c1,c2,c3,c4,c5]:Nat):Int) ((c6.toNat:Int) * 281474976710656)=((Frm.num [c0,c1,c2,c3,c4,c5,c6]:Nat):Int):=or_num8 [c0,c1,c2,c3,c4,c5] c6 6 rfl dCz
    go_wp2_with fail
    go_roundg (8 - 7)
    case measure=>decide
    case rel=>exact ⟨7,rfl,by decide,by first|rfl|go_num,rfl,rfl⟩
   ·have hq:bits .or .u64 ((Frm.num [c0,c1,c2,c3,c4,c5,c6]:Nat):Int) ((c7.toNat:Int) * 72057594037927936)=((Frm.num [c0,c1,c2,c3,c4,c5,c6,c7]:Nat):Int):=or_num8 [c0,c1,c2,c3,c4,c5,c6] c7 7 rfl dCz
    go_wp2_with fail
    go_roundg (8 - 8)
    case measure=>decide
    case rel=>exact ⟨8,rfl,by decide,by first|rfl|go_num,rfl,rfl⟩
  ·obtain rfl:i=8:=by omega
   go_wp2
   go_ret2
   exact ⟨_,rfl,rfl,rfl⟩
theorem eight {l:Bs} (h:l.length=8):∃ c0 c1 c2 c3 c4 c5 c6 c7,l=[c0,c1,c2,c3,c4,c5,c6,c7]:=by
 match l,h with
 |[c0,c1,c2,c3,c4,c5,c6,c7],_=>exact ⟨c0,c1,c2,c3,c4,c5,c6,c7,rfl⟩
theorem get8_l (l:Bs) (hl:l.length=8) (a:Option Addr) (c:Nat) (h:rdsl 1 (.slice a 8 c) (bys l) w) :
  Calls Tryz.prog 200 #[.slice a 8 c] w (Rtn fun v w'=>v = .tuple #[.int .u64 (Frm.num l:Nat),.bool true]∧w=w'):=by
 obtain ⟨c0,c1,c2,c3,c4,c5,c6,c7,rfl⟩:=eight hl
 exact get8_c c0 c1 c2 c3 c4 c5 c6 c7 a c h
theorem word_c (l:Bs) (hl:8≤l.length) (hr:RS w0 F bv l) (h:Sat w0 w F) :
  Calls Tryz.prog 232 #[bv] w (Rtn fun v w'=>v = .int .u64 (Frm.num (l.take 8):Nat)∧w=w'):=by
 obtain ⟨a,c,rfl,h1,h2⟩:=hr.len h
 have ht:=(hr.to hl c oQ (Nat.le_refl c)).rd w h
 have hs:sliced a 0 8 c 1 = .slice (if c=0 then a else a.map (·.add (0 * 1))) 8 c:=rfl
 rw [hs]at ht
 have hg:=get8_l (l.take 8) (by rw [List.length_take];omega) _ c ht
 have hrun:∀ w,(Instr.sliceAt 25 (.slice a l.length c) none (some (.int .i64 8)) none).run Tryz.prog w = .ok (.slice (if c=0 then a else a.map (·.add (0 * 1))) 8 c) w:=fun w=>run_slT (k:=8) oQ w
 generalize (if c=0 then a else a.map (·.add (0 * 1)))=a2 at *
 generalize Frm.num (l.take 8)=N at *
 clear ht hs
 go_enter Tryz.func232,Tryz.ntmps232
 go_wp2_with ((with_reducible refine at_slT ⟨?_⟩);refine wl_slT rFz rFz hrun ?_)
 refine hg.mono ?_
 rintro e w1 ⟨v,rfl,rfl,rfl⟩
 go_wp2
 go_ret
 exact ⟨_,rfl,rfl,rfl⟩
set_option maxRecDepth 20000 in
theorem put8_c (x:Nat) (hx:x<18446744073709551616) (h:Sat w0 w F) :
  Calls Tryz.prog 149 #[.int .u64 x,.int .i64 8] w (Rtn fun v w'=>Sat w0 w' (bsl v (Frm.le x 8)::F)∧∃ a,v = .slice a 8 8):=by
 have Hx:=uQ hx
 clear hx
 have hmk:∀ w,(Instr.makeSlice 25 (.int .i64 8) (.int .i64 8)).run Tryz.prog w = .ok (.slice (some ⟨w.heap.size,0,none⟩) 8 8) (w.alloc (.cells #[.int .u8 0,.int .u8 0,.int .u8 0,.int .u8 0,.int .u8 0,.int .u8 0,.int .u8 0,.int .u8 0] 5)):=fun w=>by kernel_rfl
 go_enter Tryz.func149,Tryz.ntmps149
 go_wp2_with fail
 have hA:=h.alloc (.cells #[.int .u8 0,.int .u8 0,.int .u8 0,.int .u8 0,.int .u8 0,.int .u8 0,.int .u8 0,.int .u8 0] 5)
 have hB:Sat w0 (w.alloc (.cells #[.int .u8 0,.int .u8 0,.int .u8 0,.int .u8 0,.int .u8 0,.int .u8 0,.int .u8 0,.int .u8 0] 5)) (bsl (.slice (some ⟨w.heap.size,0,none⟩) 8 8) [0,0,0,0,0,0,0,0]::F):=Sat.osl_of_pt hA rfl (Nat.le_refl _) (Nat.le_refl _) (by unfold maxLen;omega) rfl
 obtain ⟨b0,b1,b2,b3,b4,b5,b6,b7,hb0,hb1,hb2,hb3,hb4,hb5,hb6,hb7,hle⟩:∃ b0 b1 b2 b3 b4 b5 b6 b7:UInt8,(x:Int)%256=b0.toNat∧(x:Int) / 256%256=b1.toNat∧(x:Int) / 65536%256=b2.toNat∧(x:Int) / 16777216%256=b3.toNat∧(x:Int) / 4294967296%256=b4.toNat∧(x:Int) / 1099511627776%256=b5.toNat∧(x:Int) / 281474976710656%256=b6.toNat∧(x:Int) / 72057594037927936%256=b7.toNat∧Frm.le x 8=[b0,b1,b2,b3,b4,b5,b6,b7]:=by
  refine ⟨_,_,_,_,_,_,_,_,?_,?_,?_,?_,?_,?_,?_,?_,rfl⟩
  all_goals (rw [UInt8.toNat_ofNat'];omega)
 have Hle:=uQ hle
 clear hle hmk hA
 generalize w.heap.size=q at *
 go_loopg [17] 8 (fun g iq wr=>∃ (i:Nat) (l':Bs),g=8 - i∧i≤8∧iq = .int .i64 i∧l'=(match i with|0=>[0,0,0,0,0,0,0,0]|1=>[b0,0,0,0,0,0,0,0]|2=>[b0,b1,0,0,0,0,0,0]|3=>[b0,b1,b2,0,0,0,0,0]|4=>[b0,b1,b2,b3,0,0,0,0]|5=>[b0,b1,b2,b3,b4,0,0,0]|6=>[b0,b1,b2,b3,b4,b5,0,0]|7=>[b0,b1,b2,b3,b4,b5,b6,0]|_=>[b0,b1,b2,b3,b4,b5,b6,b7])∧Sat w0 wr (bsl (.slice (some ⟨q,0,none⟩) 8 8) l'::F))
 case atStart=>exact ⟨0,_,rfl,by omega,rfl,rfl,hB⟩
 case round=>
  obtain ⟨i,l',rfl,hi,rfl,hl',hS⟩:=hrel
  clear hB
  obtain rfl|rfl|rfl|rfl|rfl|rfl|rfl|rfl|rfl:i=0∨i=1∨i=2∨i=3∨i=4∨i=5∨i=6∨i=7∨i=8:=by omega
  ·obtain rfl:l'=[0,0,0,0,0,0,0,0]:=hl'
   obtain ⟨g,he,e0,e1,hS5⟩:=bsl_set (i:=0) hS (by simp) b0
   cases he
   go_wp2_with fail
   go_roundg 7
   case measure=>omega
   case rel=>exact ⟨1,[b0,0,0,0,0,0,0,0],rfl,by omega,rfl,rfl,hS5⟩
  ·obtain rfl:l'=[b0,0,0,0,0,0,0,0]:=hl'
   obtain ⟨g,he,e0,e1,hS5⟩:=bsl_set (i:=1) hS (by simp) b1
   cases he
   go_wp2_with fail
   go_roundg 6
   case measure=>omega
   case rel=>exact ⟨2,[b0,b1,0,0,0,0,0,0],rfl,by omega,rfl,rfl,hS5⟩
  ·obtain rfl:l'=[b0,b1,0,0,0,0,0,0]:=hl'
   obtain ⟨g,he,e0,e1,hS5⟩:=bsl_set (i:=2) hS (by simp) b2
   cases he
   go_wp2_with fail
   go_roundg 5
   case measure=>omega
   case rel=>exact ⟨3,[b0,b1,b2,0,0,0,0,0],rfl,by omega,rfl,rfl,hS5⟩
  ·obtain rfl:l'=[b0,b1,b2,0,0,0,0,0]:=hl'
   obtain ⟨g,he,e0,e1,hS5⟩:=bsl_set (i:=3) hS (by simp) b3
   cases he
   go_wp2_with fail
   go_roundg 4
   case measure=>omega
   case rel=>exact ⟨4,[b0,b1,b2,b3,0,0,0,0],rfl,by omega,rfl,rfl,hS5⟩
  ·obtain rfl:l'=[b0,b1,b2,b3,0,0,0,0]:=hl'
   obtain ⟨g,he,e0,e1,hS5⟩:=bsl_set (i:=4) hS (by simp) b4
   cases he
   go_wp2_with fail
   go_roundg 3
   case measure=>omega
   case rel=>exact ⟨5,[b0,b1,b2,b3,b4,0,0,0],rfl,by omega,rfl,rfl,hS5⟩
  ·obtain rfl:l'=[b0,b1,b2,b3,b4,0,0,0]:=hl'
   obtain ⟨g,he,e0,e1,hS5⟩:=bsl_set (i:=5) hS (by simp) b5
   cases he
   go_wp2_with fail
   go_roundg 2
   case measure=>omega
   case rel=>exact ⟨6,[b0,b1,b2,b3,b4,b5,0,0],rfl,by omega,rfl,rfl,hS5⟩
  ·obtain rfl:l'=[b0,b1,b2,b3,b4,b5,0,0]:=hl'
   obtain ⟨g,he,e0,e1,hS5⟩:=bsl_set (i:=6) hS (by simp) b6
   cases he
   go_wp2_with fail
   go_roundg 1
   case measure=>omega
   case rel=>exact ⟨7,[b0,b1,b2,b3,b4,b5,b6,0],rfl,by omega,rfl,rfl,hS5⟩
  ·obtain rfl:l'=[b0,b1,b2,b3,b4,b5,b6,0]:=hl'
   obtain ⟨g,he,e0,e1,hS5⟩:=bsl_set (i:=7) hS (by simp) b7
   cases he
   go_wp2_with fail
   go_roundg 0
   case measure=>omega
   case rel=>exact ⟨8,[b0,b1,b2,b3,b4,b5,b6,b7],rfl,by omega,rfl,rfl,hS5⟩
  ·obtain rfl:l'=[b0,b1,b2,b3,b4,b5,b6,b7]:=hl'
   go_wp2
   go_ret
   exact ⟨_,rfl,by rw [Hle.out];exact hS,_,rfl⟩
end
section
variable {P:Program}{w0 w:World}{L:List HProp}{ops:Array Oper}{rest:List Oper}{a:Act}{Q:Exit→Act→World→Prop}{dst:Option Tmp}{t ty e:TypeId}{pos:String}{after:Array Edge}{x y:Operand}{g:Nat×Bool}{op:Op}{sz by' n:Nat}{v:Value}{zs:List Value}
theorem wl_bld {xs:Array (Nat×Operand)}{ps:Array (Nat×Value)} (h1:xs.map (fun p=>(p.1,a.eval p.2))=ps) (hr:∀ w,(Instr.build ty ps).run P w = .ok v w) (h:wpList P ops Q rest (a.put dst v) w) :
  wpList P ops Q (⟨dst,.build ty xs,t,pos,after,none⟩::rest) a w:=
 wpList_plain rfl fun _ hK=>by
  unfold Oper.wp execOp
  simp only [h1,Sem.run_bind,hr,Result.andThen_ok,Sem.run_pure]
  exact hK _ _ h
end
abbrev hshPt (p:Nat) (l:Xx.Ln) (rv:Value) (n:Nat):HProp:=pt p (.cells #[.bool true,.int .u64 0,.int .u64 l.a,.int .u64 l.b,.int .u64 l.c,.int .u64 l.d,rv,.int .u64 n] 316 (0,0))
section
variable {w0 w:World}{F:List HProp}{v bv rv:Value}{p n:Nat}{l:Xx.Ln}
theorem zArr4:zeroB Tryz.prog 314=some (.agg #[.int .u64 0,.int .u64 0,.int .u64 0,.int .u64 0]):=by kernel_rfl
theorem newh_c (h:Sat w0 w F):Calls Tryz.prog 205 #[.int .u64 0] w (Rtn fun v w'=>∃ p,v=ptr p∧Sat w0 w' (hshPt p Xx.Ln.zero (.slice none 0 0) 0::F)):=by
 have hb1:∀ w,(Instr.build 316 #[(0,.bool true),(1,.int .u64 0)]).run Tryz.prog w = .ok (.agg #[.bool true,.int .u64 0,.int .u64 0,.int .u64 0,.int .u64 0,.int .u64 0,.slice none 0 0,.int .u64 0]) w:=fun w=>by kernel_rfl
 have hb2:∀ w,(Instr.build 314 #[(0,.int .u64 6983438078262162902),(1,.int .u64 14029467366897019727),(2,.int .u64 0),(3,.int .u64 7046029288634856825)]).run Tryz.prog w = .ok (.agg #[.int .u64 6983438078262162902,.int .u64 14029467366897019727,.int .u64 0,.int .u64 7046029288634856825]) w:=fun w=>by kernel_rfl
 go_enter Tryz.func205,Tryz.ntmps205
 go_wp2_with (first
  |((with_reducible refine at_box ⟨?_⟩);refine wl_box h rFz rFz ?_;intro bB wB hB)
  |((with_reducible refine at_store ⟨?_⟩);refine wl_store (v:= .agg #[.int .u64 6983438078262162902,.int .u64 14029467366897019727,.int .u64 0,.int .u64 7046029288634856825]) hB rFz rFz rFz upd0 dCz kRz rFz ?_;intro wS hS))
 go_ret
 exact ⟨_,rfl,bB,rfl,hS⟩
set_option maxRecDepth 20000 in
theorem joined_c (hl:l.lt) (h:Sat w0 w (hshPt p l rv n::F)):Calls Tryz.prog 233 #[ptr p] w (Rtn fun v w'=>v = .int .u64 (Xx.joined l:Nat)∧Sat w0 w' (hshPt p l rv n::F)):=by
 obtain ⟨la,lb,lc,ld⟩:=l
 obtain ⟨l1,l2,l3,l4⟩:=hl
 simp only at l1 l2 l3 l4
 obtain ⟨s1,s2,x0,f1,f2,f3,q5,hJ⟩:=join_ex ⟨la,lb,lc,ld⟩
 simp only at f1 f2 f3 hJ
 have HJ:=uQ hJ
 have Ht1:=uQ (fun (w:World) (R:List HProp) (hS:Sat w0 w R)=>turn1_c la l1 hS)
 have Ht2:=uQ (fun (w:World) (R:List HProp) (hS:Sat w0 w R)=>turn7_c lb l2 hS)
 have Ht3:=uQ (fun (w:World) (R:List HProp) (hS:Sat w0 w R)=>turn12_c lc l3 hS)
 have Ht4:=uQ (fun (w:World) (R:List HProp) (hS:Sat w0 w R)=>turn18_c ld l4 hS)
 generalize Xx.turn la 1=ta at *
 generalize Xx.turn lb 7=tb at *
 generalize Xx.turn lc 12=tc at *
 generalize Xx.turn ld 18=td at *
 have Hq:=uQ q5
 have Hf:=uQ (And.intro f1 (And.intro f2 f3))
 clear l1 l2 l3 l4 q5 f1 f2 f3 hJ
 go_enter Tryz.func233,Tryz.ntmps233
 go_wp2_with (first
  |((with_reducible refine at_load ⟨?_⟩);refine wl_loadN (b:=p) (o:=2) [.int .u64 la,.int .u64 lb,.int .u64 lc,.int .u64 ld] h rFz pick0 (fun j v hj=>by
    rcases j with _|_|_|_|j
    ·cases hj;rfl
    ·cases hj;rfl
    ·cases hj;rfl
    ·cases hj;rfl
    ·simp at hj) Tryz.underlying314 rfl kRz ?_)
  |((with_reducible refine at_alloc ⟨?_⟩);refine wl_alloc zArr4 h rfl ?_;intro b3 w3 h3)
  |((with_reducible refine at_store ⟨?_⟩);refine wl_storeA #[.int .u64 la,.int .u64 lb,.int .u64 lc,.int .u64 ld] h3 rFz rFz rFz upd0 kRz rFz ?_;intro w4 h4))
 have hS:=h4.drew
 clear h h3 h4
 refine wpL_begin [13,14,15] (fun w'=>w'.cell? ⟨b3,0,none⟩=some (.int .u64 la)∧w'.cell? ⟨b3,1,none⟩=some (.int .u64 lb)∧w'.cell? ⟨b3,2,none⟩=some (.int .u64 lc)∧w'.cell? ⟨b3,3,none⟩=some (.int .u64 ld)) kRz ?_
 have HG:=uQ (fun (w:World) (R:List HProp) (hS:Sat w0 w (pt b3 (.cells #[.int .u64 la,.int .u64 lb,.int .u64 lc,.int .u64 ld] 314 (0,0))::R))=>show w.cell? ⟨b3,0,none⟩=some (.int .u64 la)∧w.cell? ⟨b3,1,none⟩=some (.int .u64 lb)∧w.cell? ⟨b3,2,none⟩=some (.int .u64 lc)∧w.cell? ⟨b3,3,none⟩=some (.int .u64 ld) from ⟨hS.cellAt 0 _ rfl,hS.cellAt 1 _ rfl,hS.cellAt 2 _ rfl,hS.cellAt 3 _ rfl⟩)
 have hG:=HG.out _ _ hS
 refine rP 0 ?_ (y:=ixQ)
 refine rt 1 (h:=?_)
 refine rP 3 ?_ (y:=ixQ)
 refine rt 4 (h:=?_)
 refine rP 7 ?_ (y:=ixQ)
 refine rt 8 (h:=?_)
 refine rP 11 ?_ (y:=ixQ)
 refine rt 12 (h:=?_)
 clear hG
 refine rg_eff 2 evD kRz (fun K hK=>?_)
 (refine eff_call2 kRz evD evD ?_)
 refine (Ht1.out _ _ hS).mono ?_
 rintro ee w5 ⟨v,rfl,rfl,h5⟩
 refine hK _ _ (.inr (.inl (HG.out _ _ h5))) ?_
 clear hK hS
 refine rg_eff 5 evD kRz (fun K hK=>?_)
 (refine eff_call2 kRz evD evD ?_)
 refine (Ht2.out _ _ h5).mono ?_
 rintro ee w6 ⟨v,rfl,rfl,h6⟩
 refine hK _ _ (.inr (.inl (HG.out _ _ h6))) ?_
 clear hK h5
 refine rp 6 (hy:=(yl_bin evD evD (by intro wq;have f1:=Hf.out.1;(go_simp);first|done|exact wQ))) (h:=?_)
 refine rg_eff 9 evD kRz (fun K hK=>?_)
 (refine eff_call2 kRz evD evD ?_)
 refine (Ht3.out _ _ h6).mono ?_
 rintro ee w7 ⟨v,rfl,rfl,h7⟩
 refine hK _ _ (.inr (.inl (HG.out _ _ h7))) ?_
 clear hK h6
 refine rp 10 (hy:=(yl_bin evD evD (by intro wq;have f2:=Hf.out.2.1;(go_simp);first|done|exact wQ))) (h:=?_)
 refine rg_eff 13 evD kRz (fun K hK=>?_)
 (refine eff_call2 kRz evD evD ?_)
 refine (Ht4.out _ _ h7).mono ?_
 rintro ee w8 ⟨v,rfl,rfl,h8⟩
 refine hK _ _ (.inl rfl) ?_
 clear hK h7
 refine rp 14 (hy:=(yl_bin evD evD (by intro wq;have f3:=Hf.out.2.2;(go_simp);first|done|exact wQ))) (h:=?_)
 refine rP 15 ?_ (y:=asQ)
 refine wpL_done kRz ?_
 try simp only [ayQ]
 try go_frame
 clear Ht1 Ht2 Ht3 Ht4 HG Hf
 as_aux_lemma=>
  go_wp2_with ((with_reducible refine at_load ⟨?_⟩);refine wl_loadA h8 rFz pick0 Tryz.underlying314 rfl kRz ?_)
  go_loopg [27,4] 4 (fun g iq xq wr=>∃ (i x:Nat),g=4 - i∧i≤4∧iq = .int .i64 i∧xq = .int .u64 (x:Nat)∧x<18446744073709551616∧((i=0→x=x0)∧(i=1→x=Xx.mix x0 la)∧(i=2→x=Xx.mix (Xx.mix x0 la) lb)∧(i=3→x=Xx.mix (Xx.mix (Xx.mix x0 la) lb) lc)∧(i=4→x=Xx.mix (Xx.mix (Xx.mix (Xx.mix x0 la) lb) lc) ld))∧Sat w0 wr (pt b3 (.cells #[.int .u64 la,.int .u64 lb,.int .u64 lc,.int .u64 ld] 314 (0,0))::hshPt p ⟨la,lb,lc,ld⟩ rv n::F))
  case atStart=>exact ⟨0,x0,rfl,by decide,rfl,rfl,Hq.out,⟨fun _=>rfl,fun h=>absurd h dCz,fun h=>absurd h dCz,fun h=>absurd h dCz,fun h=>absurd h dCz⟩,h8⟩
  case round=>
   obtain ⟨i,x,rfl,hi,rfl,rfl,hx,hxe,hS⟩:=hrel
   clear h8
   obtain rfl|rfl|rfl|rfl|rfl:i=0∨i=1∨i=2∨i=3∨i=4:=by omega
   ·as_aux_lemma=>
    have hlc:Calls Tryz.prog 231 #[.int .u64 0,.int .u64 la] wr (Rtn fun v w'=>v = .int .u64 (Xx.lane 0 la:Nat)∧Sat w0 w' _):=lane_c 0 la hS
    have hix:∀ w,(Instr.index 314 (.agg #[.int .u64 la,.int .u64 lb,.int .u64 lc,.int .u64 ld]) (.int .i64 0)).run Tryz.prog w = .ok (.int .u64 la) w:=fun w=>by kernel_rfl
    obtain ⟨y,z,u,g1,g2,g3,hu,hm⟩:=mix_ex hx la
    generalize Xx.lane 0 la=t at *
    have Hu:=uQ hu;have Hmm:=uQ hm;have Hxe:=uQ (hxe.1 rfl)
    clear hx hm hu hxe hS
    go_wp2_with fail
    refine hlc.mono ?_
    rintro ee w9 ⟨v,rfl,rfl,h9⟩
    clear hlc
    go_wp2
    go_roundg 3
    case measure=>omega
    case rel=>exact ⟨1,u,rfl,by decide,rfl,rfl,Hu.out,⟨fun h=>absurd h dCz,fun _=>by rw [← Hmm.out,Hxe.out],fun h=>absurd h dCz,fun h=>absurd h dCz,fun h=>absurd h dCz⟩,h9⟩
   ·as_aux_lemma=>
    have hlc:Calls Tryz.prog 231 #[.int .u64 0,.int .u64 lb] wr (Rtn fun v w'=>v = .int .u64 (Xx.lane 0 lb:Nat)∧Sat w0 w' _):=lane_c 0 lb hS
    have hix:∀ w,(Instr.index 314 (.agg #[.int .u64 la,.int .u64 lb,.int .u64 lc,.int .u64 ld]) (.int .i64 1)).run Tryz.prog w = .ok (.int .u64 lb) w:=fun w=>by kernel_rfl
    obtain ⟨y,z,u,g1,g2,g3,hu,hm⟩:=mix_ex hx lb
    generalize Xx.lane 0 lb=t at *
    have Hu:=uQ hu;have Hmm:=uQ hm;have Hxe:=uQ (hxe.2.1 rfl)
    clear hx hm hu hxe hS
    go_wp2_with fail
    refine hlc.mono ?_
    rintro ee w9 ⟨v,rfl,rfl,h9⟩
    clear hlc
    go_wp2
    go_roundg 2
    case measure=>omega
    case rel=>exact ⟨2,u,rfl,by decide,rfl,rfl,Hu.out,⟨fun h=>absurd h dCz,fun h=>absurd h dCz,fun _=>by rw [← Hmm.out,Hxe.out],fun h=>absurd h dCz,fun h=>absurd h dCz⟩,h9⟩
   ·as_aux_lemma=>
    have hlc:Calls Tryz.prog 231 #[.int .u64 0,.int .u64 lc] wr (Rtn fun v w'=>v = .int .u64 (Xx.lane 0 lc:Nat)∧Sat w0 w' _):=lane_c 0 lc hS
    have hix:∀ w,(Instr.index 314 (.agg #[.int .u64 la,.int .u64 lb,.int .u64 lc,.int .u64 ld]) (.int .i64 2)).run Tryz.prog w = .ok (.int .u64 lc) w:=fun w=>by kernel_rfl
    obtain ⟨y,z,u,g1,g2,g3,hu,hm⟩:=mix_ex hx lc
    generalize Xx.lane 0 lc=t at *
    have Hu:=uQ hu;have Hmm:=uQ hm;have Hxe:=uQ (hxe.2.2.1 rfl)
    clear hx hm hu hxe hS
    go_wp2_with fail
    refine hlc.mono ?_
    rintro ee w9 ⟨v,rfl,rfl,h9⟩
    clear hlc
    go_wp2
    go_roundg 1
    case measure=>omega
    case rel=>exact ⟨3,u,rfl,by decide,rfl,rfl,Hu.out,⟨fun h=>absurd h dCz,fun h=>absurd h dCz,fun h=>absurd h dCz,fun _=>by rw [← Hmm.out,Hxe.out],fun h=>absurd h dCz⟩,h9⟩
   ·as_aux_lemma=>
    have hlc:Calls Tryz.prog 231 #[.int .u64 0,.int .u64 ld] wr (Rtn fun v w'=>v = .int .u64 (Xx.lane 0 ld:Nat)∧Sat w0 w' _):=lane_c 0 ld hS
    have hix:∀ w,(Instr.index 314 (.agg #[.int .u64 la,.int .u64 lb,.int .u64 lc,.int .u64 ld]) (.int .i64 3)).run Tryz.prog w = .ok (.int .u64 ld) w:=fun w=>by kernel_rfl
    obtain ⟨y,z,u,g1,g2,g3,hu,hm⟩:=mix_ex hx ld
    generalize Xx.lane 0 ld=t at *
    have Hu:=uQ hu;have Hmm:=uQ hm;have Hxe:=uQ (hxe.2.2.2.1 rfl)
    clear hx hm hu hxe hS
    go_wp2_with fail
    refine hlc.mono ?_
    rintro ee w9 ⟨v,rfl,rfl,h9⟩
    clear hlc
    go_wp2
    go_roundg 0
    case measure=>omega
    case rel=>exact ⟨4,u,rfl,by decide,rfl,rfl,Hu.out,⟨fun h=>absurd h dCz,fun h=>absurd h dCz,fun h=>absurd h dCz,fun h=>absurd h dCz,fun _=>by rw [← Hmm.out,Hxe.out]⟩,h9⟩
   ·have Hx:=uQ (show x=Xx.joined ⟨la,lb,lc,ld⟩ by rw [HJ.out];exact hxe.2.2.2.2 rfl)
    clear hxe hx
    go_wp2
    go_ret
    exact ⟨_,rfl,by rw [Hx.out];rfl,hS.drop⟩
end
section
variable {w0 w:World}{F:List HProp}{v bv rv:Value}{p n:Nat}{l:Bs}
theorem get4_r (l:Bs) (hl:l.length=4) (a:Option Addr) (c:Nat) (h:rdsl 1 (.slice a 4 c) (bys l) w) :
  Calls Tryz.prog 200 #[.slice a 4 c] w (Rtn fun v w'=>v = .tuple #[.int .u64 (Frm.num l:Nat),.bool true]∧w=w'):=get4_l l hl a c h
theorem lane0_c (x:Nat) (h:Sat w0 w F):Calls Tryz.prog 231 #[.int .u64 0,.int .u64 x] w (Rtn fun v w'=>v = .int .u64 (Xx.lane 0 x:Nat)∧Sat w0 w' F):=lane_c 0 x h
theorem cut_from (hr:RS w0 F bv l) (h:Sat w0 w F){k:Nat} (hk:k≤l.length):∃ a c a2 c2,bv = .slice a l.length c∧l.length≤c∧c≤9223372036854775807∧(∀ w,(Instr.sliceAt 25 (.slice a l.length c) (some (.int .i64 k)) none none).run Tryz.prog w = .ok (.slice a2 (l.drop k).length c2) w)∧RS w0 F (.slice a2 (l.drop k).length c2) (l.drop k):=by
 obtain ⟨a,c,rfl,h1,h2⟩:=hr.len h
 have hs:=hr.from hk
 obtain ⟨a2,c2,he,h3,h4⟩:=hs.len h
 refine ⟨a,c,a2,c2,rfl,h1,h2,fun w=>?_,by rw [← he];exact hs⟩
 rw [← he];exact run_slF hk w
theorem cut_to (hr:RS w0 F bv l) (h:Sat w0 w F){k:Nat} (hk:k≤l.length):∃ a c a2 c2,bv = .slice a l.length c∧l.length≤c∧c≤9223372036854775807∧(∀ w,(Instr.sliceAt 25 (.slice a l.length c) none (some (.int .i64 k)) none).run Tryz.prog w = .ok (.slice a2 k c2) w)∧RS w0 F (.slice a2 k c2) (l.take k):=by
 obtain ⟨a,c,rfl,h1,h2⟩:=hr.len h
 have hs:=hr.to hk c oQ (Nat.le_refl c)
 obtain ⟨a2,c2,he,h3,h4⟩:=hs.len h
 have e:(l.take k).length=k:=by rw [List.length_take];omega
 rw [e]at he
 refine ⟨a,c,a2,c2,rfl,h1,h2,fun w=>?_,by rw [← he];exact hs⟩
 rw [← he];exact run_slT oQ w
set_option maxRecDepth 20000 in
theorem xtail_c (x:Nat) (hx:x<18446744073709551616) (l:Bs) (hl:l.length≤1073741824) (hr:RS w0 F bv l) (h:Sat w0 w F):Calls Tryz.prog 234 #[.int .u64 x,bv] w (Rtn fun v w'=>v = .int .u64 (Xx.tail x l:Nat)∧Sat w0 w' F):=by
 obtain ⟨ba,bc,rfl,hb1,hb2⟩:=hr.len h
 have Hr:=uQ hr;have Hx:=uQ hx;have Hl:=uQ hl
 clear hr hx hl hb1 hb2
 go_enter Tryz.func234,Tryz.ntmps234
 go_wp2_with fail
 go_loopg [0,1] l.length (fun g xq bq wr=>∃ (y:Nat) (m:Bs),g=m.length∧m.length≤l.length∧xq = .int .u64 (y:Nat)∧y<18446744073709551616∧RS w0 F bq m∧Xx.tail8 l.length x l=Xx.tail8 m.length y m∧Sat w0 wr F)
 case atStart=>exact ⟨x,l,rfl,Nat.le_refl _,rfl,Hx.out,Hr.out,rfl,h⟩
 case round=>
  obtain ⟨y,m,rfl,hml,rfl,hy,hRS,heq,hS⟩:=hrel
  clear h
  by_cases h8:8≤m.length
  ·as_aux_lemma=>
   obtain ⟨a,c,a2,c2,rfl,k1,k2,hrun,hRS2⟩:=cut_from hRS hS h8
   have hwd:=word_c m h8 hRS hS
   have hst:Xx.tail8 m.length y m=Xx.tail8 (m.drop 8).length (Xx.t8 y (Frm.num (m.take 8))) (m.drop 8):=by rw [Xx.tail8_step h8 (Nat.le_refl _),List.length_drop]
   generalize Frm.num (m.take 8)=N at *
   have hln:=uQ (fun (w:World) (hS:Sat w0 w F)=>lane0_c N hS)
   obtain ⟨r,z,u,g1,hr1,g3,g4,hu,ht8⟩:=t8_ex hy N
   generalize Xx.lane 0 N=t at *
   have htu:=uQ (fun (w:World) (hS:Sat w0 w F)=>turn27_c r hr1 hS)
   generalize Xx.turn r 27=s at *
   rw [ht8]at hst
   have hlt8:(m.drop 8).length<m.length:=by rw [List.length_drop];omega
   generalize m.drop 8=m2 at *
   have c1:(8:Int)≤(m.length:Int):=oQ
   have Hu:=uQ hu;have Hst:=uQ (heq.trans hst);have HR:=uQ hRS2;have Hlt:=uQ (And.intro hlt8 hml)
   clear hu hr1 hst ht8 heq hRS2 hRS hlt8 hml hy k1 k2 h8
   go_wp2_with fail
   refine hwd.mono ?_
   rintro ee w2 ⟨v,rfl,rfl,rfl⟩
   clear hwd
   go_wp2_with fail
   refine (hln.out _ hS).mono ?_
   rintro ee w3 ⟨v,rfl,rfl,h3⟩
   clear hln hS
   go_wp2_with fail
   refine (htu.out _ h3).mono ?_
   rintro ee w4 ⟨v,rfl,rfl,h4⟩
   clear htu h3
   go_wp2_with ((with_reducible refine at_slF ⟨?_⟩);refine wl_slF rFz rFz hrun ?_)
   go_roundg m2.length
   case measure=>exact Hlt.out.1
   case rel=>exact ⟨u,m2,rfl,by have:=Hlt.out;omega,rfl,Hu.out,HR.out,Hst.out,h4⟩
  ·have hst:Xx.tail8 l.length x l=(y,m):=heq.trans (Xx.tail8_stop h8)
   have hT:Xx.tail x l=(Xx.tail4 y m).2.foldl Xx.t1 (Xx.tail4 y m).1:=by unfold Xx.tail;rw [hst]
   have hl2:m.length≤1073741824:=Nat.le_trans hml Hl.out
   have c1:¬ (8:Int)≤(m.length:Int):=oQ
   clear heq hst h8 hml
   by_cases h4:4≤m.length
   ·have e4:Xx.tail4 y m=(Xx.t4 y (Frm.num (m.take 4)),m.drop 4):=by unfold Xx.tail4;rw [if_pos h4]
    rw [e4]at hT
    obtain ⟨a,c,a2,c2,rfl,k1,k2,hrunT,hRST⟩:=cut_to hRS hS h4
    obtain ⟨a',c',a3,c3,he,_,_,hrunF,hRSF⟩:=cut_from hRS hS h4
    cases he
    have hgt:=get4_r (m.take 4) (by rw [List.length_take];omega) a2 c2 (hRST.rd _ hS)
    obtain ⟨t,r,z,u,g0,g1,hr1,g3,g4,hu,ht4⟩:=t4_ex hy (Frm.num (m.take 4))
    rw [ht4]at hT
    generalize Frm.num (m.take 4)=N at *
    have htu:=turn23_c r hr1 hS
    generalize Xx.turn r 23=s at *
    have hl4:(m.drop 4).length≤1073741824:=by rw [List.length_drop];omega
    have c2i:(4:Int)≤(m.length:Int):=oQ
    dsimp only at hT
    generalize m.drop 4=m2 at *
    have Hu:=uQ hu;have HT:=uQ hT;have HR:=uQ hRSF
    clear hu hr1 hT ht4 hRS hRST hRSF hy k1 k2 h4 e4 hl2
    go_wp2_with (first
     |((with_reducible refine at_slT ⟨?_⟩);refine wl_slT rFz rFz hrunT ?_))
    refine hgt.mono ?_
    rintro ee w2 ⟨v,rfl,rfl,rfl⟩
    clear hgt
    go_wp2_with fail
    refine htu.mono ?_
    rintro ee w3 ⟨v,rfl,rfl,h3⟩
    clear htu hS
    go_wp2_with ((with_reducible refine at_slF ⟨?_⟩);refine wl_slF rFz rFz hrunF ?_)
    clear c1 c2i g0 g1 g3 g4 hrunT hrunF
    have Hm:=uQ (show m2.length≤1073741824 from by omega)
    have HRS:=uQ HR.out;have HE:=uQ HT.out;have Hy:=uQ Hu.out
    go_wp2_with fail
    go_loopg [0,42] m2.length (fun g xq iq wr=>∃ (i z:Nat),g=m2.length - i∧i≤m2.length∧xq = .int .u64 (z:Nat)∧iq = .int .i64 i∧z<18446744073709551616∧z=(m2.take i).foldl Xx.t1 u∧Sat w0 wr F)
    case atStart=>exact ⟨0,u,rfl,Nat.zero_le _,rfl,rfl,Hy.out,rfl,h3⟩
    case round=>
     obtain ⟨i,z,rfl,hi,rfl,rfl,hz,hze,hS9⟩:=hrel
     by_cases hi':i<m2.length
     ·as_aux_lemma=>
      have hb:(bys m2)[i]?=some (.int .u8 (m2[i]'hi').toNat):=by unfold bys;simp [hi']
      obtain ⟨bk,off,rfl,c1⟩:=rdsl_cell (HRS.out.rd _ hS9) hb
      have hic:(i:Int)<(m2.length:Int):=oQ
      have hwi:IntKind.i64.wrap ((i:Int)+1)=(i:Int)+1:=IntWalk.i64_in _ (by have:=Hm.out;omega)
      have hnx:(m2.take (i+1)).foldl Xx.t1 u=Xx.t1 z (m2[i]'hi'):=by rw [List.take_succ_eq_append_getElem hi',List.foldl_append,← hze,List.foldl_cons,List.foldl_nil]
      have hcb:=(m2[i]'hi').toNat_lt
      obtain ⟨q,r,u,g1,g2,hr,g3,hu,htq⟩:=t1_ex hz (m2[i]'hi')
      rw [htq]at hnx
      have ht1:=hnx
      clear hnx hb htq
      generalize (m2[i]'hi').toNat=cb at *
      have htu:=turn11_c r hr hS9
      generalize Xx.turn r 11=s at *
      have hcm:IntKind.u64.wrap (cb:Int)=(cb:Int):=by rw [IntKind.wrap_u64];omega
      have Hu:=uQ hu;have Hze:=uQ ht1;have Hi:=uQ hi'
      clear hu hr ht1 hze hz hcb hi hi'
      go_wp2_with fail
      refine htu.mono ?_
      rintro ee w9 ⟨v,rfl,rfl,h9⟩
      clear htu hS9
      go_wp2
      go_roundg (m2.length - (i+1))
      case measure=>have:=Hi.out;omega
      case rel=>exact ⟨i+1,u,rfl,Nat.succ_le_of_lt Hi.out,rfl,by first|rfl|go_num,Hu.out,Hze.out.symm,h9⟩
     ·as_aux_lemma=>
      obtain rfl:i=m2.length:=by omega
      have hic:¬ (m2.length:Int)<(m2.length:Int):=oQ
      rw [List.take_length]at hze
      have Hf:=uQ (show Xx.tail x l=z by rw [HE.out,hze])
      clear hze hz hi hi'
      go_wp2
      go_ret
      exact ⟨_,rfl,by first|(rw [Hf.out];rfl)|(rw [← HE.out,Hf.out];rfl),hS9⟩
   ·have e4:Xx.tail4 y m=(y,m):=by unfold Xx.tail4;rw [if_neg h4]
    rw [e4]at hT
    dsimp only at hT
    obtain ⟨a,c,rfl,k1,k2⟩:=hRS.len hS
    have c2i:¬ (4:Int)≤(m.length:Int):=oQ
    have HT:=uQ hT
    clear e4 h4 k1 k2 hT
    have Hm:=uQ (show m.length≤1073741824 from by omega)
    have HRS:=uQ hRS;have HE:=uQ HT.out;have Hy:=uQ hy
    go_wp2_with fail
    go_loopg [0,42] m.length (fun g xq iq wr=>∃ (i z:Nat),g=m.length - i∧i≤m.length∧xq = .int .u64 (z:Nat)∧iq = .int .i64 i∧z<18446744073709551616∧z=(m.take i).foldl Xx.t1 y∧Sat w0 wr F)
    case atStart=>exact ⟨0,y,rfl,Nat.zero_le _,rfl,rfl,Hy.out,rfl,hS⟩
    case round=>
     obtain ⟨i,z,rfl,hi,rfl,rfl,hz,hze,hS9⟩:=hrel
     by_cases hi':i<m.length
     ·as_aux_lemma=>
      have hb:(bys m)[i]?=some (.int .u8 (m[i]'hi').toNat):=by unfold bys;simp [hi']
      obtain ⟨bk,off,rfl,c1⟩:=rdsl_cell (HRS.out.rd _ hS9) hb
      have hic:(i:Int)<(m.length:Int):=oQ
      have hwi:IntKind.i64.wrap ((i:Int)+1)=(i:Int)+1:=IntWalk.i64_in _ (by have:=Hm.out;omega)
      have hnx:(m.take (i+1)).foldl Xx.t1 y=Xx.t1 z (m[i]'hi'):=by rw [List.take_succ_eq_append_getElem hi',List.foldl_append,← hze,List.foldl_cons,List.foldl_nil]
      have hcb:=(m[i]'hi').toNat_lt
      obtain ⟨q,r,u,g1,g2,hr,g3,hu,htq⟩:=t1_ex hz (m[i]'hi')
      rw [htq]at hnx
      have ht1:=hnx
      clear hnx hb htq
      generalize (m[i]'hi').toNat=cb at *
      have htu:=turn11_c r hr hS9
      generalize Xx.turn r 11=s at *
      have hcm:IntKind.u64.wrap (cb:Int)=(cb:Int):=by rw [IntKind.wrap_u64];omega
      have Hu:=uQ hu;have Hze:=uQ ht1;have Hi:=uQ hi'
      clear hu hr ht1 hze hz hcb hi hi'
      go_wp2_with fail
      refine htu.mono ?_
      rintro ee w9 ⟨v,rfl,rfl,h9⟩
      clear htu hS9
      go_wp2
      go_roundg (m.length - (i+1))
      case measure=>have:=Hi.out;omega
      case rel=>exact ⟨i+1,u,rfl,Nat.succ_le_of_lt Hi.out,rfl,by first|rfl|go_num,Hu.out,Hze.out.symm,h9⟩
     ·as_aux_lemma=>
      obtain rfl:i=m.length:=by omega
      have hic:¬ (m.length:Int)<(m.length:Int):=oQ
      rw [List.take_length]at hze
      have Hf:=uQ (show Xx.tail x l=z by rw [HE.out,hze])
      clear hze hz hi hi'
      go_wp2
      go_ret
      exact ⟨_,rfl,by first|(rw [Hf.out];rfl)|(rw [← HE.out,Hf.out];rfl),hS9⟩
end
abbrev rdrPt (p:Nat) (rv:Value):HProp:=pt p (.cells #[rv,errno 0,.bool true] 291 (0,0))
section
variable {w0 w:World}{F:List HProp}{v bv rv:Value}{p n k:Nat}{l m:Bs}
theorem ropen1_c (hl:l.length≤140737488355328) (hr:RS w0 F bv l) (h:Sat w0 w F):Calls Tryz.prog 185 #[bv] w (Rtn fun v w'=>∃ p rv,v=ptr p∧Sat w0 w' (rdrPt p rv::bsl rv l::F)∧RS w0 (bsl rv l::F) rv l):=by
 obtain ⟨ba,bc,rfl,_,_⟩:=hr.len h
 have hc:=clone_c h (hr.rd w h) hl
 clear hr
 go_enter Tryz.func185,Tryz.ntmps185
 go_wp2_with fail
 refine hc.mono ?_
 rintro ee w1 ⟨v,rfl,h1,a1,n1,c1,rfl⟩
 clear hc h
 have hb1:∀ w,(Instr.build 291 #[(0,.slice a1 n1 c1),(2,.bool true)]).run Tryz.prog w = .ok (.agg #[.slice a1 n1 c1,.int .i64 0,.bool true]) w:=fun w=>by kernel_rfl
 go_wp2_with ((with_reducible refine at_box ⟨?_⟩);refine wl_box h1 rFz rFz ?_;intro bB wB hB)
 go_ret
 exact ⟨_,rfl,bB,_,rfl,hB,RS.of_bsl hB.drop⟩
theorem rerr_c (h:Sat w0 w (rdrPt p rv::F)):Calls Tryz.prog 210 #[ptr p] w (Rtn fun v w'=>v=errno 0∧w=w'):=by
 have c1:w.cell? ⟨p,1,none⟩=some (errno 0):=h.cellAt 1 _ rfl
 have c2:w.cell? ⟨p,2,none⟩=some (.bool true):=h.cellAt 2 _ rfl
 go_enter Tryz.func210,Tryz.ntmps210
 go_wp2
 go_ret
 exact ⟨_,rfl,rfl,rfl⟩
set_option maxRecDepth 20000 in
theorem rtake_c (hk:k≤m.length) (hr:RS w0 F rv m) (h:Sat w0 w (rdrPt p rv::F)):Calls Tryz.prog 209 #[ptr p,.int .i64 k] w (Rtn fun v w'=>∃ ta tc ra rc,v = .tuple #[.slice ta k tc,.bool true]∧RS w0 F (.slice ta k tc) (m.take k)∧(∀ F0,RS w0 F0 rv m→RS w0 F0 (.slice ra (m.drop k).length rc) (m.drop k))∧Sat w0 w' (rdrPt p (.slice ra (m.drop k).length rc)::F)):=by
 obtain ⟨ba,bc,ra,rc,rfl,h1,h2,hrunF,_⟩:=cut_from hr h.drop hk
 have hrs2:∀ F0,RS w0 F0 (.slice ba m.length bc) m→RS w0 F0 (.slice ra (m.drop k).length rc) (m.drop k):=fun F0 h0=>by
  have e:=(run_slF (a:=ba) (c:=bc) hk w).symm.trans (hrunF w)
  have e2:sliced ba k m.length bc 1 = .slice ra (m.drop k).length rc:=by injection e
  rw [← e2];exact h0.from hk
 have hrsT:=hr.to hk k (Nat.le_refl k) oQ
 obtain ⟨ta,tc,he,_,_⟩:=hrsT.len h.drop
 rw [show (m.take k).length=k by rw [List.length_take];omega]at he
 have hrunT:∀ w,(Instr.sliceAt 25 (.slice ba m.length bc) none (some (.int .i64 k)) (some (.int .i64 k))).run Tryz.prog w = .ok (.slice ta k tc) w:=fun w=>by rw [← he];exact run_slM oQ w
 rw [he]at hrsT
 have her:=rerr_c h
 have c0:¬ (k:Int)<0:=oQ
 have c0d:decide ((k:Int)<0)=false:=decide_eq_false c0
 have c1:¬ (m.length:Int)<(k:Int):=oQ
 have c1d:decide ((m.length:Int)<(k:Int))=false:=decide_eq_false c1
 have HT:=uQ hrsT;have HF:=uQ hrs2
 clear hr hrsT hrs2 he h1 h2 hk
 generalize (m.drop k).length=q at *
 go_enter Tryz.func209,Tryz.ntmps209
 go_wp2_with fail
 refine her.mono ?_
 rintro ee w1 ⟨v,rfl,rfl,rfl⟩
 clear her
 go_wp2_with (first
  |((with_reducible refine at_load ⟨?_⟩);refine wl_load1 h rFz pick0 nLz evD kRz ?_)
  |((with_reducible refine at_slM ⟨?_⟩);refine wl_slM rFz rFz rFz hrunT ?_)
  |((with_reducible refine at_slF ⟨?_⟩);refine wl_slF rFz rFz hrunF ?_)
  |((with_reducible refine at_store ⟨?_⟩);refine wl_store (v:= .slice ra q rc) h rFz rFz rFz upd0 (by exact Nat.le_of_ble_eq_true rFz) kRz rFz ?_;intro w2 h2))
 go_ret2
 exact ⟨_,rfl,ta,tc,ra,rc,rfl,HT.out,HF.out,h2⟩
set_option maxRecDepth 20000 in
theorem rnum4_c (hk:4≤m.length) (hr:RS w0 F rv m) (h:Sat w0 w (rdrPt p rv::F)):Calls Tryz.prog 187 #[ptr p,.int .i64 4] w (Rtn fun v w'=>∃ rv',v = .int .u64 (Frm.num (m.take 4):Nat)∧(∀ F0,RS w0 F0 rv m→RS w0 F0 rv' (m.drop 4))∧Sat w0 w' (rdrPt p rv'::F)):=by
 have her:=rerr_c h
 have htk:=rtake_c (k:=4) hk hr h
 have Hl:=uQ (show (m.take 4).length=4 by rw [List.length_take];omega)
 clear hr hk
 go_enter Tryz.func187,Tryz.ntmps187
 go_wp2_with fail
 refine her.mono ?_
 rintro ee w1 ⟨v,rfl,rfl,rfl⟩
 clear her
 go_wp2_with fail
 refine htk.mono ?_
 rintro ee w2 ⟨v,rfl,ta,tc,ra,rc,rfl,hT,hF,h2⟩
 have hg:=get4_r (m.take 4) Hl.out ta tc (hT.rd w2 h2.drop)
 have HF:=uQ hF
 obtain ⟨N,hN⟩:∃ N,Hid (Frm.num (m.take 4)=N):=⟨_,uQ rfl⟩
 rw [hN.out]at hg
 clear htk h hT hF Hl
 go_wp2_with fail
 refine hg.mono ?_
 rintro ee w3 ⟨v,rfl,rfl,rfl⟩
 clear hg
 go_wp2
 go_ret
 exact ⟨_,rfl,_,by rw [hN.out];rfl,HF.out,h2⟩
set_option maxRecDepth 20000 in
theorem rnum8_c (hk:8≤m.length) (hr:RS w0 F rv m) (h:Sat w0 w (rdrPt p rv::F)):Calls Tryz.prog 187 #[ptr p,.int .i64 8] w (Rtn fun v w'=>∃ rv',v = .int .u64 (Frm.num (m.take 8):Nat)∧(∀ F0,RS w0 F0 rv m→RS w0 F0 rv' (m.drop 8))∧Sat w0 w' (rdrPt p rv'::F)):=by
 have her:=rerr_c h
 have htk:=rtake_c (k:=8) hk hr h
 have Hl:=uQ (show (m.take 8).length=8 by rw [List.length_take];omega)
 clear hr hk
 go_enter Tryz.func187,Tryz.ntmps187
 go_wp2_with fail
 refine her.mono ?_
 rintro ee w1 ⟨v,rfl,rfl,rfl⟩
 clear her
 go_wp2_with fail
 refine htk.mono ?_
 rintro ee w2 ⟨v,rfl,ta,tc,ra,rc,rfl,hT,hF,h2⟩
 have hg:=get8_l (m.take 8) Hl.out ta tc (hT.rd w2 h2.drop)
 have HF:=uQ hF
 obtain ⟨N,hN⟩:∃ N,Hid (Frm.num (m.take 8)=N):=⟨_,uQ rfl⟩
 rw [hN.out]at hg
 clear htk h hT hF Hl
 go_wp2_with fail
 refine hg.mono ?_
 rintro ee w3 ⟨v,rfl,rfl,rfl⟩
 clear hg
 go_wp2
 go_ret
 exact ⟨_,rfl,_,by rw [hN.out];rfl,HF.out,h2⟩
theorem rbytes_c1 (hk:32≤m.length) (hr:RS w0 F rv m) (h:Sat w0 w (rdrPt p rv::F)):Calls Tryz.prog 211 #[ptr p,.int .i64 32] w (Rtn fun v w'=>∃ rv',(∀ F0,RS w0 F0 rv m→RS w0 F0 rv' (m.drop 32))∧(∃ a n c,v = .slice a n c)∧Sat w0 w' (bsl v (m.take 32)::rdrPt p rv'::F)):=by
 have htk:=rtake_c (k:=32) hk hr h
 have Hl:=uQ (show (m.take 32).length≤140737488355328 by rw [List.length_take];omega)
 clear hr hk
 go_enter Tryz.func211,Tryz.ntmps211
 go_wp2_with fail
 refine htk.mono ?_
 rintro ee w2 ⟨v,rfl,ta,tc,ra,rc,rfl,hT,hF,h2⟩
 have hc:=clone_c h2 (hT.rd w2 h2.drop) Hl.out
 have HF:=uQ hF
 clear htk h hT hF
 go_wp2_with fail
 refine hc.mono ?_
 rintro ee w3 ⟨v,rfl,h3,a3,n3,c3,rfl⟩
 clear hc
 go_wp2
 go_ret
 exact ⟨_,rfl,_,HF.out,⟨_,_,_,rfl⟩,h3⟩
theorem run_str (hr:RS w0 F bv m) (h:Sat w0 w F) (hm:0<m.length):(convert 25 9 bv).run Tryz.prog w = .ok (.string ⟨m.toArray⟩) w:=by
 obtain ⟨a,c,rfl,_,_⟩:=hr.len h
 obtain ⟨bk,off,rfl,hc⟩:=rdsl_cells (hr.rd w h) (i:=0) (bys_get.2 ⟨m[0],List.getElem?_eq_getElem hm,rfl⟩)
 refine run_convert_bytes_back (P:=Tryz.prog) w _ _ 5 _ c m Tryz.underlying25 Tryz.underlying5 Tryz.underlying9 (fun j hj=>?_)
 have:=hc j _ (bys_get.2 ⟨m[j],List.getElem?_eq_getElem hj,rfl⟩)
 rw [Addr.add_mid];exact this
theorem rtext_c (hk:8≤m.length) (hr:RS w0 F rv m) (h:Sat w0 w (rdrPt p rv::F)):Calls Tryz.prog 186 #[ptr p,.int .i64 8] w (Rtn fun v w'=>∃ rv',v = .string ⟨(m.take 8).toArray⟩∧(∀ F0,RS w0 F0 rv m→RS w0 F0 rv' (m.drop 8))∧Sat w0 w' (rdrPt p rv'::F)):=by
 have htk:=rtake_c (k:=8) hk hr h
 have Hl:=uQ (show 0<(m.take 8).length by rw [List.length_take];omega)
 clear hr hk
 go_enter Tryz.func186,Tryz.ntmps186
 go_wp2_with fail
 refine htk.mono ?_
 rintro ee w2 ⟨v,rfl,ta,tc,ra,rc,rfl,hT,hF,h2⟩
 have hcv:=run_str hT h2.drop Hl.out
 have HF:=uQ hF
 clear htk h hT hF
 go_wp2
 go_ret
 exact ⟨_,rfl,_,rfl,HF.out,h2⟩
end
end Go.Proofs.YtlinnpehkfbnkaaGreatDoor
namespace Go.Bok
open Go.Frm (Bs le num le_len num_le)
structure Rw where
 key:Bs
 nums:List Int
def numsB (ns:List Int):Bs:=ns.flatMap fun n=>le n.toNat 4
def rowB (kd:Bool) (r:Rw):Bs:=(if kd then r.key else [])++numsB r.nums
def rowsB (kd:Bool) (l:List Rw):Bs:=l.flatMap (rowB kd)
def body (mg:Bs) (kd:Bool) (l:List Rw):Bs:=mg++le l.length 4++rowsB kd l
def book (X:Bs→Nat) (mg:Bs) (kd:Bool) (l:List Rw):Bs:=body mg kd l++le (X (body mg kd l)) 8
structure RwOk (k:Nat) (r:Rw):Prop where
 key:r.key.length=32
 len:r.nums.length=k
 num:∀ n∈r.nums,0≤n∧n≤4294967295
def ahead (kd:Bool) (a b:Rw):Prop:=if kd then a.key<b.key else a.nums.getD 0 0<b.nums.getD 0 0
instance (kd:Bool) (a b:Rw):Decidable (ahead kd a b):=by unfold ahead;infer_instance
def Rises (kd:Bool) (l:List Rw):Prop:=∀ i a b,l[i]?=some a→l[i+1]?=some b→ahead kd a b
structure Ok (k:Nat) (kd:Bool) (l:List Rw):Prop where
 len:l.length≤65536
 row:∀ r∈l,RwOk k r
 rise:Rises kd l
section
variable {X:Bs→Nat}{mg:Bs}{kd:Bool}{l:List Rw}{r:Rw}{k i:Nat}{n:Int}{ns:List Int}
theorem numsB_nil:numsB []=[]:=rfl
theorem numsB_cons (n:Int) (ns:List Int):numsB (n::ns)=le n.toNat 4++numsB ns:=rfl
theorem numsB_app (a b:List Int):numsB (a++b)=numsB a++numsB b:=by unfold numsB;rw [List.flatMap_append]
theorem numsB_len (ns:List Int):(numsB ns).length=4 * ns.length:=by
 induction ns with
 |nil=>rfl
 |cons n ns ih=>rw [numsB_cons,List.length_append,le_len,ih,List.length_cons];omega
theorem rowsB_nil:rowsB kd []=[]:=rfl
theorem rowsB_cons (r:Rw) (l:List Rw):rowsB kd (r::l)=rowB kd r++rowsB kd l:=rfl
theorem rowsB_app (a b:List Rw):rowsB kd (a++b)=rowsB kd a++rowsB kd b:=by unfold rowsB;rw [List.flatMap_append]
def rowSz (kd:Bool) (k:Nat):Nat:=4 * k+if kd then 32 else 0
theorem rowB_len (h:RwOk k r):(rowB kd r).length=rowSz kd k:=by
 unfold rowB rowSz
 rw [List.length_append,numsB_len,h.len]
 cases kd
 ·simp
 ·rw [if_pos rfl,if_pos rfl,h.key];omega
theorem rowsB_len:∀ (l:List Rw),(∀ r∈l,RwOk k r)→(rowsB kd l).length=l.length * rowSz kd k
 |[],_=>by simp [rowsB_nil]
 |r::l,h=>by
  rw [rowsB_cons,List.length_append,rowB_len (h r (.head _)),rowsB_len l (fun x hx=>h x (.tail _ hx)),List.length_cons,Nat.add_mul];omega
theorem body_len (hm:mg.length=8) (h:∀ r∈l,RwOk k r):(body mg kd l).length=12+l.length * rowSz kd k:=by
 unfold body
 rw [List.length_append,List.length_append,hm,le_len,rowsB_len l h]
theorem book_len (hm:mg.length=8) (h:∀ r∈l,RwOk k r):(book X mg kd l).length=20+l.length * rowSz kd k:=by
 unfold book
 rw [List.length_append,body_len hm h,le_len];omega
theorem rowSz_le (hk:k≤3):rowSz kd k≤44:=by unfold rowSz;split <;> omega
theorem body_le (hm:mg.length=8) (hk:k≤3) (h:Ok k kd l):(body mg kd l).length≤3000000:=by
 rw [body_len hm h.row]
 have h1:=h.len
 have h2:l.length * rowSz kd k≤65536 * 44:=Nat.mul_le_mul h1 (rowSz_le hk)
 omega
theorem num_back (h:0≤n∧n≤4294967295):num (le n.toNat 4)=n.toNat:=by
 refine num_le 4 _ ?_
 have:(256:Nat)^4=4294967296:=by decide
 rw [this];omega
theorem take_le (x:Nat) (t:Bs):(le x 4++t).take 4=le x 4:=by rw [List.take_append_of_le_length (by rw [le_len];omega),List.take_of_length_le (by rw [le_len];omega)]
theorem drop_le (x:Nat) (t:Bs):(le x 4++t).drop 4=t:=by
 rw [List.drop_append,le_len,List.drop_of_length_le (by rw [le_len];omega),Nat.sub_self,List.drop_zero,List.nil_append]
theorem drop_get {α:Type}{l:List α}{x:α} (h:l[i]?=some x):l.drop i=x::l.drop (i+1):=by
 obtain ⟨hi,rfl⟩:=List.getElem?_eq_some_iff.1 h
 exact List.drop_eq_getElem_cons hi
theorem take_get {α:Type}{l:List α}{x:α} (h:l[i]?=some x):l.take (i+1)=l.take i++[x]:=by
 obtain ⟨hi,rfl⟩:=List.getElem?_eq_some_iff.1 h
 exact List.take_succ_eq_append_getElem hi
theorem rowsB_take (h:l[i]?=some r):rowsB kd (l.take (i+1))=rowsB kd (l.take i)++rowB kd r:=by
 rw [take_get h,rowsB_app,rowsB_cons,rowsB_nil,List.append_nil]
theorem numsB_take {j:Nat} (h:ns[j]?=some n):numsB (ns.take (j+1))=numsB (ns.take j)++le n.toNat 4:=by
 rw [take_get h,numsB_app,numsB_cons,numsB_nil,List.append_nil]
theorem rowsB_drop (h:l[i]?=some r):rowsB kd (l.drop i)=rowB kd r++rowsB kd (l.drop (i+1)):=by rw [drop_get h,rowsB_cons]
theorem numsB_drop {j:Nat} (h:ns[j]?=some n):numsB (ns.drop j)=le n.toNat 4++numsB (ns.drop (j+1)):=by rw [drop_get h,numsB_cons]
def mgIdx:Bs:=[72,79,65,82,68,73,68,88]
def mgUse:Bs:=[72,79,65,82,68,85,83,69]
end
end Go.Bok
namespace Go.Proofs.YtlinnpehkfbnkaaGreatDoor
open Go Go.Sl Go.Med Go.MapKept Go.RowKit
section
variable {P:Program}{w0 w:World}{t ty:TypeId}
theorem res_cell {L R:List HProp}{b:Nat}{T:TypeId}{cs:Array Value}{fn:Func}{p:Tmp}{tmps:Array Value}{d:TypeDesc} (hf:fn.results=#[.cell p ty]) (hs:Sat w0 w L) (hp:tmps.getD p undef = .pointer (some ⟨b,0,none⟩)) (k:Pick (pt b (.cells cs T (0,0))) L R)
  (hu:P.underlying ty=some d) (hd:d.isRow=true) (hi:(P.info? ty).map (·.size)=some cs.size):(results fn tmps).run P w = .ok (.agg cs) w:=by
 have hl:=run_loadVar_row (P:=P) w b T ty cs (0,0) d (hs.pick k).at hu (by cases d <;> simp_all [TypeDesc.isRow]) hi
 have e:(results fn tmps).run P w=((asAddr (tmps.getD p undef)).run P w).andThen fun a w₁=>(loadVar ty a).run P w₁:=by
  simp only [results,hf]
  simp [Sem.run_bind,Result.andThen]
 rw [e,hp]
 simp [asAddr,hl,Result.andThen]
end
section
variable {P:Program}{w0 w:World}{ops:Array Oper}{rest:List Oper}{a:Act}{Q:Exit→Act→World→Prop}{dst:Option Tmp}{t ty:TypeId}{pos:String}{after:Array Edge}{v:Value}{parts:Array (Nat×Operand)}
theorem wl_buildC (parts':Array (Nat×Value)) (he:parts.map (fun p=>(p.1,a.eval p.2))=parts') (hr:∀ w,(Instr.build ty parts').run P w = .ok v w) (h:wpList P ops Q rest (a.put dst v) w):wpList P ops Q (⟨dst,.build ty parts,t,pos,after,none⟩::rest) a w:=
 wpList_plain rfl fun _ hK=>by
  unfold Oper.wp execOp
  simp only [he,Sem.run_bind,hr,Result.andThen_ok,Sem.run_pure]
  exact hK _ _ h
theorem at_buildC (h:Stop (wpList P ops Q (⟨dst,.build ty parts,t,pos,after,none⟩::rest) a w)):wpList P ops Q (⟨dst,.build ty parts,t,pos,after,none⟩::rest) a w:=h.out
end
section
variable {w0 w:World}{F:List HProp}
abbrev kndA (mg:ByteArray) (kd:Bool) (k:Nat):Array Value:=#[.string mg,.bool kd,.int .i64 k]
abbrev idxK:Array Value:=kndA ⟨#[72,79,65,82,68,73,68,88]⟩ true 3
abbrev useK:Array Value:=kndA ⟨#[72,79,65,82,68,85,83,69]⟩ false 3
theorem zKnd:zeroB Tryz.prog 196=some (.agg #[.string ⟨#[]⟩,.bool false,.int .i64 0]):=by kernel_rfl
theorem run_idx (w:World):(Instr.build 196 #[(0,.string ⟨#[72,79,65,82,68,73,68,88]⟩),(1,.bool true),(2,.int .i64 3)]).run Tryz.prog w = .ok (.agg idxK) w:=by kernel_rfl
theorem run_use (w:World):(Instr.build 196 #[(0,.string ⟨#[72,79,65,82,68,85,83,69]⟩),(1,.bool false),(2,.int .i64 3)]).run Tryz.prog w = .ok (.agg useK) w:=by kernel_rfl
theorem index_c (h:Sat w0 w F):Calls Tryz.prog 122 #[] w (Rtn fun v w'=>v = .agg idxK∧Sat w0 w' F):=by
 go_enter Tryz.func122,Tryz.ntmps122
 go_wp2_with (with_reducible apply at_alloc)
 refine ⟨wl_alloc zKnd h rfl ?_⟩
 intro b4 w4 h4
 have hb:=run_idx
 go_wp2_with (first
  |((with_reducible refine at_store ⟨?_⟩);refine wl_storeA idxK h4 rFz rFz rFz upd0 kRz rFz ?_;intro w9 h9))
 refine ⟨rfl,_,res_cell rfl h9 rFz pkD Tryz.underlying196 rfl kRz,?_⟩
 exact ⟨_,rfl,rfl,h9.drop⟩
theorem uses_c (h:Sat w0 w F):Calls Tryz.prog 127 #[] w (Rtn fun v w'=>v = .agg useK∧Sat w0 w' F):=by
 go_enter Tryz.func127,Tryz.ntmps127
 go_wp2_with (with_reducible apply at_alloc)
 refine ⟨wl_alloc zKnd h rfl ?_⟩
 intro b4 w4 h4
 have hb:=run_use
 go_wp2_with (first
  |((with_reducible refine at_store ⟨?_⟩);refine wl_storeA useK h4 rFz rFz rFz upd0 kRz rFz ?_;intro w9 h9))
 refine ⟨rfl,_,res_cell rfl h9 rFz pkD Tryz.underlying196 rfl kRz,?_⟩
 exact ⟨_,rfl,rfl,h9.drop⟩
theorem ksize_c (mg:ByteArray) (kd:Bool) (k:Nat) (hk:k≤1000) (h:Sat w0 w F):Calls Tryz.prog 188 #[.agg (kndA mg kd k)] w (Rtn fun v w'=>v = .int .i64 (Bok.rowSz kd k:Nat)∧Sat w0 w' F):=by
 have e1:IntKind.i64.wrap (4 * (k:Int))=4 * (k:Int):=IntWalk.i64_in _ oQ
 have e2:IntKind.i64.wrap (4 * (k:Int)+32)=4 * (k:Int)+32:=IntWalk.i64_in _ oQ
 cases kd
 ·have e:=uQ (show ((Bok.rowSz false k:Nat):Int)=4 * (k:Int) by unfold Bok.rowSz;simp)
  go_enter Tryz.func188,Tryz.ntmps188
  go_wp2_with (with_reducible apply at_box)
  refine ⟨wl_box h rFz rFz ?_⟩
  intro b w1 h1
  go_wp2_with ((with_reducible refine at_load ⟨?_⟩);refine wl_load1 h1 rFz pick0 nLz evD kRz ?_)
  go_ret
  exact ⟨_,rfl,by rw [e.out];rfl,h1.drop⟩
 ·have e:=uQ (show ((Bok.rowSz true k:Nat):Int)=4 * (k:Int)+32 by unfold Bok.rowSz;simp)
  go_enter Tryz.func188,Tryz.ntmps188
  go_wp2_with (with_reducible apply at_box)
  refine ⟨wl_box h rFz rFz ?_⟩
  intro b w1 h1
  go_wp2_with ((with_reducible refine at_load ⟨?_⟩);refine wl_load1 h1 rFz pick0 nLz evD kRz ?_)
  go_ret
  exact ⟨_,rfl,by rw [e.out];rfl,h1.drop⟩
end
end Go.Proofs.YtlinnpehkfbnkaaGreatDoor
