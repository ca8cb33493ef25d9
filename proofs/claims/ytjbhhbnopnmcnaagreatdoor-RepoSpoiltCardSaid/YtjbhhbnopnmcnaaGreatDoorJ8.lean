import Derived.Test.YtjbhhbnopnmcnaaGreatDoorJ7
import Derived.Lib.ConvBytes
import Derived.ArgAppend
import Derived.Laws.BitsAllLaws
set_option linter.unusedVariables false
set_option maxHeartbeats 128000000
namespace Go.Tab
open Go.Frm (Bs num)
section
variable {V:Type}{s:List (Slot V)}{x z:Slot V}{k:Bs}{v:V}{d:Nat}
def del (m:Bs→Option V) (k:Bs):Bs→Option V:=fun l=>if l=k then none else m l
theorem del_found (g:Good s) (he:Ends s k d) (hx:s[pos k s.length d]?=some x) (hf:x.st=1) (hz:z.st=2) (hzk:z.key.length=32) :
  Good (s.set (pos k s.length d) z)∧∀ k' v',Has (s.set (pos k s.length d) z) k' v'↔k'≠k∧Has s k' v':=by
 obtain ⟨hk,_⟩:=ends_full he hx hf
 have hlt:pos k s.length d<s.length:=pos_lt g.pos_len
 generalize hp:pos k s.length d=p at *
 have hst:∀ q l,stopAt (s.set p z) l q→stopAt s l q:=fun q l=>by
  unfold stopAt
  by_cases h:p=q
  ·subst h
   rw [set_at hlt]
   rintro ⟨y,hy,h1⟩
   cases hy
   rcases h1 with h1|⟨h1,_⟩ <;> omega
  ·rw [set_ne h];exact id
 refine ⟨⟨by rw [List.length_set];exact g.pow,fun y hy=>?_,fun y hy=>?_,fun q y hq hy=>?_⟩,fun k' v'=>?_⟩
 ·rcases List.mem_or_eq_of_mem_set hy with h|rfl
  ·exact g.st y h
  ·omega
 ·rcases List.mem_or_eq_of_mem_set hy with h|rfl
  ·exact g.key y h
  ·exact hzk
 ·rw [List.length_set]
  by_cases h:p=q
  ·subst h
   rw [set_at hlt]at hq
   cases hq
   omega
  ·rw [set_ne h]at hq
   obtain ⟨d',a,b,c⟩:=g.reach q y hq hy
   exact ⟨d',a,b,fun e h hh=>c e h (hst _ _ hh)⟩
 ·constructor
  ·rintro ⟨q,y,hq,h1,h2,h3⟩
   by_cases h:p=q
   ·subst h
    rw [set_at hlt]at hq
    cases hq
    omega
   ·rw [set_ne h]at hq
    refine ⟨fun e=>?_,q,y,hq,h1,h2,h3⟩
    exact h (g.one hx hq hf h1 (hk.trans (e.symm.trans h2.symm)))
  ·rintro ⟨hne,q,y,hq,h1,h2,h3⟩
   have:p≠q:=fun h=>by
    subst h
    rw [hx]at hq
    cases hq
    exact hne (h2.symm.trans hk)
   exact ⟨q,y,by rw [set_ne this];exact hq,h1,h2,h3⟩
theorem is_del {t:Tb V}{m:Bs→Option V}{s':List (Slot V)} (hm:t.Is m) (h:∀ k' v',Has s' k' v'↔k'≠k∧Has t.slots k' v') (n g:Nat):(⟨s',n,g⟩:Tb V).Is (del m k):=fun k' v'=>by
 rw [show (⟨s',n,g⟩:Tb V).slots=s' from rfl,h]
 unfold del
 split
 ·rename_i e
  exact ⟨fun q=>absurd e q.1,fun q=>by cases q⟩
 ·rename_i e
  rw [hm]
  exact ⟨fun q=>q.2,fun q=>⟨e,q⟩⟩
theorem del_ok {t:Tb V} (h:t.Ok) (he:Ends t.slots k d) (hx:t.slots[pos k t.slots.length d]?=some x) (hf:x.st=1) (hz:z.st=2) (hzk:z.key.length=32) :
  0<t.n∧(⟨t.slots.set (pos k t.slots.length d) z,t.n - 1,t.gone+1⟩:Tb V).Ok:=by
 have h1:=set_count (fun x=>x.st==1) t.slots _ x z hx
 have h2:=set_count (fun x=>x.st != 0) t.slots _ x z hx
 have hn:0<fulls t.slots:=by
  unfold fulls
  exact List.countP_pos_iff.2 ⟨x,List.mem_of_getElem? hx,by simp [hf]⟩
 have hn2:=h.n
 refine ⟨by omega,(del_found h.good he hx hf hz hzk).1,?_,?_,?_,?_⟩
 ·unfold fulls at *;simp [hf,hz]at h1 ⊢;omega
 ·have:=h.gone;unfold used at *;simp [hf,hz]at h2 ⊢;omega
 ·have:=h.load;simp only [List.length_set];omega
 ·have:=h.size;simp only [List.length_set];omega
theorem Renewed.ok0 {t:Tb V}{s':List (Slot V)} (h:Renewed t s' t.n):(⟨s',t.n,0⟩:Tb V).Ok:=
 ⟨h.good,h.nf.symm,by rw [h.nu];rfl,by have:=h.lo;have:=h.lo8;have:=h.hi;simp only;omega,by have:=h.hi;simp only;omega⟩
end
end Go.Tab
namespace Go.Proofs.YtjbhhbnopnmcnaaGreatDoor
open Go Go.Sl Go.Med Go.MapKept Go.RowKit
def deadL:Tab.Slot Seg.Plc:=⟨2,Frm.zero32,Seg.Plc.zero⟩
theorem run_slotD (w:World):(Instr.build 131 #[(0,.int .i64 2)]).run Tryz.prog w = .ok (.agg (slotL penc deadL).toArray) w:=by
 refine (run_build (P:=Tryz.prog) [(0,.int .i64 2)] plSlotL zSlotL (by
  intro p' hp
  simp only [List.mem_cons,List.not_mem_nil,or_false]at hp
  have hzz:(Value.agg (slotL penc (⟨0,Frm.zero32,Seg.Plc.zero⟩:Tab.Slot (Seg.Plc))).toArray).cells.size=36:=by
   show (slotL penc (⟨0,Frm.zero32,Seg.Plc.zero⟩:Tab.Slot (Seg.Plc))).toArray.size=36
   rw [List.size_toArray,slotL_len penc _ dCz 3 rfl]
  rw [hzz]
  rcases hp with rfl
  exact ⟨0,rfl,by show 0+1≤36;omega⟩) w).trans ?_
 rfl
section
variable {w0 w:World}{F R:List HProp}{p B:Nat}{sv:Value}{k:Frm.Bs}{m:Frm.Bs→Option (Seg.Plc)}
set_option maxRecDepth 20000 in
theorem delL_c (hB:B≤134217000) (hk:k.length=32) (h:Sat w0 w (TabML p m B::F)) :
  Calls Tryz.prog 66 #[ptr p,.agg (bys k).toArray] w (Rtn fun v w'=>v = .bool (m k).isSome∧Sat w0 w' (TabML p (Tab.del m k) B::F)):=by
 obtain ⟨t,sv,⟨ok,is,hb⟩,hR⟩:=TabML.open h
 obtain ⟨d,he⟩:=ok.ends k
 have hsz:t.slots.length≤536872000:=by have:=ok.size;omega
 have Hlen:=uQ (show ∀ x∈t.slots,(slotL penc x).length=36 from fun x hx=>slotL_len penc x (ok.good.key x hx) 3 (penc_len _))
 obtain ⟨la,lc,rfl⟩:=osl_rows Hlen.out (Sat.rd (hR.pick pick1)) dCz
 have hrl:0<(t.slots.flatMap (slotL penc)).length:=by rw [rows_len Hlen.out];have:=ok.good.pos_len;omega
 obtain ⟨bk,rfl⟩:=osl_zero (hR.pick pick1) hrl
 have Hk:=uQ hk;have Hok:=uQ ok;have His:=uQ is;have Hb:=uQ hb;have He:=uQ he;have Hsz:=uQ hsz;have HB:=uQ hB
 have Hp0:=uQ ok.good.pos_len
 have Hbs:=uQ (show (bys k).length=32 by rw [bys_len,hk])
 clear h hk ok is hb he hsz hB hrl
 go_enter Tryz.func66,Tryz.ntmps66
 go_wp2_with (with_reducible apply at_box)
 refine ⟨wl_box hR evD evD ?_⟩
 intro b4 w4 hS4
 have hA:Sat w0 w4 (tbPt p 133 (.slice (some ⟨bk,0,none⟩) t.slots.length lc) t.n t.gone::osl 131 36 (.slice (some ⟨bk,0,none⟩) t.slots.length lc) (t.slots.flatMap (slotL penc))::pt b4 (.cells (bys k).toArray 31 (0,0))::F):=hS4.sb
 clear hR hS4
 go_wp2_with fail
 refine (okL_c Hp0.out hA).mono ?_
 rintro ee w7 ⟨v',rfl,rfl,rfl⟩
 go_wp2_with ((with_reducible refine at_load ⟨?_⟩);refine wl_loadA hA rFz (pick_there (pick_there (pick0 (A:=pt b4 (.cells (bys k).toArray 31 (0,0)))))) Tryz.underlying31 rfl (by rw [List.size_toArray,Hbs.out];kernel_rfl) ?_)
 have hf:=findL_c Hok.out.good (Nat.le_trans Hsz.out dCz) Hk.out He.out hA
 clear hA
 refine hf.mono ?_
 rintro ee w8 ⟨v',rfl,x,hx,rfl,hS8⟩
 clear hf
 have hlt:=Tab.pos_lt (k:=k) (d:=d) Hp0.out
 by_cases h1:x.st=1
 rotate_left
 ·have hd:decide (x.st=1)=false:=decide_eq_false h1
  have hno:m k=none:=by
   obtain ⟨_,q2⟩:=His.out.some Hok.out He.out hx
   exact q2 h1
  have Hno:=uQ hno
  have Hdel:=uQ (show Tab.del m k=m from by
   funext l
   unfold Tab.del
   split
   ·rename_i e;rw [e,hno]
   ·rfl)
  clear h1 hx hno hlt
  go_wp2_with fail
  go_ret
  exact ⟨_,rfl,by rw [Hno.out];rfl,by rw [Hdel.out];exact TabML.shut Hok.out His.out Hb.out (hS8.sb)⟩
 ·have hd:decide (x.st=1)=true:=decide_eq_true h1
  have Hso:=uQ (show (m k).isSome=true from by rw [(His.out.some Hok.out He.out hx).1 h1];rfl)
  have Hrow:=uQ (rows_set (f:=slotL penc) (k:=36) (i:=Tab.pos k t.slots.length d) (x:=deadL) Hlen.out (slotL_len penc _ rfl 3 rfl) hlt)
  obtain ⟨hn0,hok2⟩:=Tab.del_ok Hok.out He.out hx h1 (z:=deadL) rfl rfl
  have His2:=uQ (fun n g=>Tab.is_del His.out (Tab.del_found Hok.out.good He.out hx h1 (z:=deadL) rfl rfl).2 n g)
  have hrl:(t.slots.flatMap (slotL penc)).length=36 * t.slots.length:=rows_len Hlen.out
  have hls:=slotL_len penc deadL rfl 3 rfl
  have hwn:IntKind.i64.wrap ((t.n:Int) - 1)=((t.n - 1:Nat):Int):=by rw [IntWalk.i64_in _ (by have:=Hb.out;have:=HB.out;omega)];omega
  have hwg:IntKind.i64.wrap ((t.gone:Int)+1)=((t.gone+1:Nat):Int):=by rw [IntWalk.i64_in _ (by have:=Hb.out;have:=HB.out;omega)];omega
  have hle:(t.slots.set (Tab.pos k t.slots.length d) deadL).length=t.slots.length:=List.length_set
  have Hb2:=uQ (show (t.n - 1)+(t.gone+1)≤B by have:=Hb.out;omega)
  have Hok2:=uQ hok2
  generalize hns:t.slots.set (Tab.pos k t.slots.length d) deadL=ns at *
  clear hns hok2
  clear h1 hx
  generalize Tab.pos k t.slots.length d=P0 at *
  have c0:(0:Int)≤(P0:Int):=oQ
  have c1:(P0:Int)<(t.slots.length:Int):=oQ
  go_wp2_with (first
   |((with_reducible refine at_load ⟨?_⟩);refine wl_load1 hS8 rFz pkD nLz evD kRz ?_)
   |((with_reducible apply ug_at_build);refine ⟨?_⟩;refine wl_bld rFz (fun w=>run_slotD w) ?_)
   |(with_reducible apply at_store))
  refine ⟨wl_storeSN (vs:=slotL penc deadL) (P0 * 36) hS8 rFz rFz rfl (upd_there upd0) (by rw [hrl,hls];omega) (by rw [hls];kernel_rfl) (slotL_ones penc _ rFz) ?_⟩
  intro w12 hS12
  rw [← Hrow.out]at hS12
  clear hS8
  go_wp2_with (first
   |((with_reducible refine at_load ⟨?_⟩);refine wl_load1 hS12 rFz pkD nLz evD kRz ?_)
   |(with_reducible apply at_store))
  refine ⟨wl_store (cs':=#[.slice (some ⟨bk,0,none⟩) t.slots.length lc,.int .i64 ((t.n - 1:Nat):Int),.int .i64 t.gone]) hS12 rFz rFz rFz upd0 nLz kRz rFz ?_⟩
  intro w13 hS13
  clear hS12
  go_wp2_with (first
   |((with_reducible refine at_load ⟨?_⟩);refine wl_load1 hS13 rFz pkD nLz evD kRz ?_)
   |(with_reducible apply at_store))
  refine ⟨wl_store (cs':=#[.slice (some ⟨bk,0,none⟩) t.slots.length lc,.int .i64 ((t.n - 1:Nat):Int),.int .i64 ((t.gone+1:Nat):Int)]) hS13 rFz rFz rFz upd0 nLz kRz rFz ?_⟩
  intro w14 hS14
  clear hS13 hwn hwg
  go_wp2_with fail
  have hSd:=hS14.drew
  clear hS14
  have hw8:IntKind.i64.wrap (8 * ((t.n - 1:Nat):Int))=8 * ((t.n - 1:Nat):Int):=IntWalk.i64_in _ (by have:=Hb.out;have:=HB.out;omega)
  have hw8b:wrap64 (8 * ((t.n - 1:Nat):Int))=8 * ((t.n - 1:Nat):Int):=IntWalk.wrap64_in _ (by have:=Hb.out;have:=HB.out;omega)
  have Hn1:=uQ (show t.n - 1≤134217728 by have:=Hb.out;have:=HB.out;omega)
  clear hn0
  generalize t.n - 1=n1 at *
  generalize t.gone+1=g1 at *
  by_cases c8:8<t.slots.length
  ·have c8i:(8:Int)<(t.slots.length:Int):=by omega
   have c8d:decide ((8:Int)<(t.slots.length:Int))=true:=decide_eq_true c8i
   by_cases c9:8 * n1<t.slots.length
   ·have c9i:8 * (n1:Int)<(t.slots.length:Int):=by omega
    have c9d:decide (8 * (n1:Int)<(t.slots.length:Int))=true:=decide_eq_true c9i
    refine wpL_begin [] (fun w'=>w'.cell? ⟨p,0,none⟩=some (.slice (some ⟨bk,0,none⟩) t.slots.length lc)∧w'.cell? ⟨p,1,none⟩=some (.int .i64 n1)) kRz ?_
    have hG:World.cell? _ ⟨p,0,none⟩=some (.slice (some ⟨bk,0,none⟩) t.slots.length lc)∧World.cell? _ ⟨p,1,none⟩=some (.int .i64 n1):=⟨hSd.cellP pkD 0 rfl,hSd.cellP pkD 1 rfl⟩
    refine rP 0 ?_ (y:=mvQ)
    refine rP 1 ?_ (y:=nlQ)
    refine rP 2 ?_ (y:=flQ)
    refine rt 3 (h:=?_)
    refine rP 4 ?_ (y:=(yl_len evD rnD))
    refine rP 5 ?_ (y:=bnQ)
    refine rP 6 ?_ (y:=mvQ)
    refine rP 7 ?_ (y:=(yg_move rFz evD))
    refine rP 8 ?_ (y:=(yg_nil rFz evD))
    refine rP 9 ?_ (y:=(yg_field rFz evD rnD))
    refine rg_take 10 evD kRz i3z (tg_load rFz evD kRz (by intro wq hq;first|exact hq|exact hq.1|exact hq.2|exact hq.2.1|exact hq.2.2|exact hq.2.2.1|exact hq.2.2.2|exact hq.2.2.2.1|exact hq.2.2.2.2)) aQ gQ ?_
    refine rP 11 ?_ (y:=(yg_len rFz evD rnD))
    refine rP 12 ?_ (y:=(yg_move rFz evD))
    refine rP 13 ?_ (y:=(yg_nil rFz evD))
    refine rP 14 ?_ (y:=(yg_field rFz evD rnD))
    refine rg_take 15 evD kRz i3z (tg_load rFz evD kRz (by intro wq hq;first|exact hq|exact hq.1|exact hq.2|exact hq.2.1|exact hq.2.2|exact hq.2.2.1|exact hq.2.2.2|exact hq.2.2.2.1|exact hq.2.2.2.2)) aQ gQ ?_
    refine rP 16 ?_ (y:=(yg_bin rFz evD evD rnD))
    refine rP 17 ?_ (y:=(yg_bin rFz evD evD rnD))
    refine rP 18 ?_ (y:=(yg_pick rFz evD evD))
    clear hG
    refine wpL_done kRz ?_
    try simp only [ayQ]
    try go_frame
    have hrn:=renewL_c (t:=⟨ns,n1,g1⟩) (N:=n1) Hok2.out (Nat.le_refl _) Hn1.out (by show ns.length≤_;have:=Hsz.out;omega) (hSd.sb:Sat w0 _ (tbPt p 133 (.slice (some ⟨bk,0,none⟩) t.slots.length lc) n1 g1::osl 131 36 (.slice (some ⟨bk,0,none⟩) t.slots.length lc) (ns.flatMap (slotL penc))::pt b4 (.cells (bys k).toArray 31 (0,0))::F))
    have e1:World.cell? _ ⟨p,1,none⟩=some (.int .i64 n1):=hSd.cellP pkD 1 rfl
    clear hSd
    go_wp2_with fail
    refine hrn.mono ?_
    rintro ee w15 ⟨v',rfl,s',sv',hren,hS15⟩
    clear hrn
    have Hre:=uQ hren
    clear hren e1
    go_wp2_with fail
    go_ret
    exact ⟨_,rfl,by rw [Hso.out];rfl,TabML.shut (t:=⟨s',n1,0⟩) Hre.out.ok0 (Hre.out.is (His2.out n1 g1) n1 0) (by have:=Hb2.out;simp only;omega) (hS15.sb)⟩
   ·have c9i:¬ 8 * (n1:Int)<(t.slots.length:Int):=by omega
    have c9d:decide (8 * (n1:Int)<(t.slots.length:Int))=false:=decide_eq_false c9i
    refine wpL_begin [] (fun w'=>w'.cell? ⟨p,0,none⟩=some (.slice (some ⟨bk,0,none⟩) t.slots.length lc)∧w'.cell? ⟨p,1,none⟩=some (.int .i64 n1)) kRz ?_
    have hG:World.cell? _ ⟨p,0,none⟩=some (.slice (some ⟨bk,0,none⟩) t.slots.length lc)∧World.cell? _ ⟨p,1,none⟩=some (.int .i64 n1):=⟨hSd.cellP pkD 0 rfl,hSd.cellP pkD 1 rfl⟩
    refine rP 0 ?_ (y:=mvQ)
    refine rP 1 ?_ (y:=nlQ)
    refine rP 2 ?_ (y:=flQ)
    refine rt 3 (h:=?_)
    refine rP 4 ?_ (y:=(yl_len evD rnD))
    refine rP 5 ?_ (y:=bnQ)
    refine rP 6 ?_ (y:=mvQ)
    refine rP 7 ?_ (y:=(yg_move rFz evD))
    refine rP 8 ?_ (y:=(yg_nil rFz evD))
    refine rP 9 ?_ (y:=(yg_field rFz evD rnD))
    refine rg_take 10 evD kRz i3z (tg_load rFz evD kRz (by intro wq hq;first|exact hq|exact hq.1|exact hq.2|exact hq.2.1|exact hq.2.2|exact hq.2.2.1|exact hq.2.2.2|exact hq.2.2.2.1|exact hq.2.2.2.2)) aQ gQ ?_
    refine rP 11 ?_ (y:=(yg_len rFz evD rnD))
    refine rP 12 ?_ (y:=(yg_move rFz evD))
    refine rP 13 ?_ (y:=(yg_nil rFz evD))
    refine rP 14 ?_ (y:=(yg_field rFz evD rnD))
    refine rg_take 15 evD kRz i3z (tg_load rFz evD kRz (by intro wq hq;first|exact hq|exact hq.1|exact hq.2|exact hq.2.1|exact hq.2.2|exact hq.2.2.1|exact hq.2.2.2|exact hq.2.2.2.1|exact hq.2.2.2.2)) aQ gQ ?_
    refine rP 16 ?_ (y:=(yg_bin rFz evD evD rnD))
    refine rP 17 ?_ (y:=(yg_bin rFz evD evD rnD))
    refine rP 18 ?_ (y:=(yg_pick rFz evD evD))
    clear hG
    refine wpL_done kRz ?_
    try simp only [ayQ]
    try go_frame
    go_wp2_with fail
    go_ret
    exact ⟨_,rfl,by rw [Hso.out];rfl,TabML.shut (t:=⟨ns,n1,g1⟩) Hok2.out (His2.out n1 g1) Hb2.out (hSd.sb)⟩
  ·have c8i:¬ (8:Int)<(t.slots.length:Int):=by omega
   have c8d:decide ((8:Int)<(t.slots.length:Int))=false:=decide_eq_false c8i
   refine wpL_begin [] (fun w'=>w'.cell? ⟨p,0,none⟩=some (.slice (some ⟨bk,0,none⟩) t.slots.length lc)∧w'.cell? ⟨p,1,none⟩=some (.int .i64 n1)) kRz ?_
   have hG:World.cell? _ ⟨p,0,none⟩=some (.slice (some ⟨bk,0,none⟩) t.slots.length lc)∧World.cell? _ ⟨p,1,none⟩=some (.int .i64 n1):=⟨hSd.cellP pkD 0 rfl,hSd.cellP pkD 1 rfl⟩
   refine rP 0 ?_ (y:=mvQ)
   refine rP 1 ?_ (y:=nlQ)
   refine rP 2 ?_ (y:=flQ)
   refine rt 3 (h:=?_)
   refine rP 4 ?_ (y:=(yl_len evD rnD))
   refine rP 5 ?_ (y:=bnQ)
   refine rP 6 ?_ (y:=mvQ)
   refine rg_skip 7 evD kRz i3z rFz gQ ?_
   refine rg_skip 8 evD kRz i3z rFz gQ ?_
   refine rg_skip 9 evD kRz i3z rFz gQ ?_
   refine rg_skip 10 evD kRz i3z rFz gQ ?_
   refine rg_skip 11 evD kRz i3z rFz gQ ?_
   refine rg_skip 12 evD kRz i3z rFz gQ ?_
   refine rg_skip 13 evD kRz i3z rFz gQ ?_
   refine rg_skip 14 evD kRz i3z rFz gQ ?_
   refine rg_skip 15 evD kRz i3z rFz gQ ?_
   refine rg_skip 16 evD kRz i3z rFz gQ ?_
   refine rg_skip 17 evD kRz i3z rFz gQ ?_
   refine rP 18 ?_ (y:=(yg_pick rFz evD evD))
   clear hG
   refine wpL_done kRz ?_
   try simp only [ayQ]
   try go_frame
   go_wp2_with fail
   go_ret
   exact ⟨_,rfl,by rw [Hso.out];rfl,TabML.shut (t:=⟨ns,n1,g1⟩) Hok2.out (His2.out n1 g1) Hb2.out (hSd.sb)⟩
end
section
variable {w0 w:World}{F:List HProp}{p B:Nat}{m:Frm.Bs→Option (Seg.Plc)}
set_option maxRecDepth 20000 in
theorem keysL_c (hB:B≤13000000) (h:Sat w0 w (TabML p m B::F)) :
  Calls Tryz.prog 69 #[ptr p] w (Rtn fun v w'=>∃ kv:List (Frm.Bs×Seg.Plc),(Tab.Lists m kv∧(∀ q∈kv,q.1.length=32)∧kv.length≤B)∧Sat w0 w' (osl 31 32 v (kv.flatMap fun q=>bys q.1)::TabML p m B::F)):=by
 have hr:=risingL_c hB h
 clear h
 go_enter Tryz.func69,Tryz.ntmps69
 go_wp2_with fail
 refine hr.mono ?_
 rintro ee w1 ⟨sv,rfl,s,⟨hs1,hs2,hs3⟩,hS1⟩
 clear hr
 have Hs1:=uQ hs1;have Hs2:=uQ hs2;have Hs3:=uQ hs3
 have Hkk:=uQ (show ∀ q∈s.map fun x=>(x.key,x.val),q.1.length=32 from fun q hq=>by
  obtain ⟨x,hx,rfl⟩:=List.mem_map.1 hq
  exact (hs2 x hx).2)
 have Hlen:=uQ (show ∀ x∈s,(slotL penc x).length=36 from fun x hx=>slotL_len penc x (hs2 x hx).2 3 (penc_len _))
 obtain ⟨la,lc,rfl⟩:=osl_rows Hlen.out (Sat.rd hS1) dCz
 have hsb:s.length≤13000000:=Nat.le_trans hs3 hB
 have hS2:Sat w0 w1 (osl 31 32 (.slice none 0 0) (((s.take 0).map fun x=>(x.key,x.val)).flatMap fun q=>bys q.1)::osl 131 36 (.slice la s.length lc) (s.flatMap (slotL penc))::TabML p m B::F):=Sat.osl_nil.2 hS1
 clear hs1 hs2 hs3 hB hS1
 go_wp2_with fail
 go_loopg [3,9] s.length (fun g oq iq wr=>∃ (i:Nat),g=s.length - i∧i≤s.length∧iq = .int .i64 i ∧
  Sat w0 wr (osl 31 32 oq (((s.take i).map fun x=>(x.key,x.val)).flatMap fun q=>bys q.1)::osl 131 36 (.slice la s.length lc) (s.flatMap (slotL penc))::TabML p m B::F))
 case atStart=>exact ⟨0,rfl,Nat.zero_le _,rfl,hS2⟩
 case round=>
  obtain ⟨i,rfl,hi,rfl,hS⟩:=hrel
  clear hS2
  by_cases hlt:i<s.length
  rotate_left
  ·obtain rfl:i=s.length:=by omega
   have c1:¬ (s.length:Int)<(s.length:Int):=oQ
   rw [List.take_length]at hS
   clear hlt hi
   go_wp2_with fail
   go_ret
   refine ⟨_,rfl,s.map fun x=>(x.key,x.val),⟨Hs1.out,by intros;exact Hkk.out (_,_) aQ,by rw [List.length_map];exact Hs3.out⟩,hS.sb⟩
  have c1:(i:Int)<(s.length:Int):=oQ
  have hwi:=iwQ (i:=i)
  obtain ⟨x,hx⟩:∃ x,s[i]?=some x:=⟨_,List.getElem?_eq_getElem hlt⟩
  have hxm:=List.mem_of_getElem? hx
  have Hxk:=uQ (Hs2.out x hxm).2
  obtain ⟨bk,off,c',hsv,hcell⟩:=osl_row Hlen.out (Sat.rd (hS.pick pick1)) hx dCz
  cases hsv
  have hl36:=Hlen.out x hxm
  have Htk:=uQ (show ((s.take (i+1)).map fun x=>(x.key,x.val)).flatMap (fun q=>bys q.1)=((s.take i).map fun x=>(x.key,x.val)).flatMap (fun q=>bys q.1)++bys x.key by
   rw [List.take_add_one,hx,Option.toList_some,List.map_append,List.flatMap_append];simp)
  have Hlt:=uQ hlt
  have hle5:(((s.take i).map fun x=>(x.key,x.val)).flatMap fun q=>bys q.1).length≤2147483648:=by
   rw [rows_len (k:=32) fun q hq=>by
    obtain ⟨y,hy,rfl⟩:=List.mem_map.1 hq
    rw [bys_len];exact (Hs2.out y (List.mem_of_mem_take hy)).2]
   rw [List.length_map]
   have:=List.length_take_le' i s
   omega
  clear hx hxm hlt hi
  go_wp2_with (first
   |((with_reducible refine at_load ⟨?_⟩);refine wl_loadW (b:=bk) (o:=off+i * 36) (slotL penc x) rFz hcell Tryz.underlying131 rfl (by rw [hl36];kernel_rfl) ?_)
   |(with_reducible apply at_alloc))
  refine ⟨wl_alloc zSlotL hS rfl ?_⟩
  intro b7 w7 hS7
  go_wp2_with (first
   |((with_reducible refine at_store ⟨?_⟩);refine wl_storeA (slotL penc x).toArray hS7 rFz rFz (by rw [List.size_toArray,hl36];rfl) upd0 (by rw [List.size_toArray,hl36];kernel_rfl) (by rw [List.toList_toArray];exact slotL_ones penc x (penc_ones _)) ?_;intro w10 hS10)
   |(with_reducible apply at_load))
  refine ⟨?_⟩
  clear hS hS7 hcell
  have f1:w10.rangeAt b7 1 (bys x.key):=slot_key (hS10.pick pick0)
  go_wp2_with (first
   |((with_reducible refine at_load ⟨?_⟩);refine wl_loadW (b:=b7) (o:=1) (bys x.key) rFz f1 Tryz.underlying31 rfl (by rw [bys_len,Hxk.out];kernel_rfl) ?_)
   |(with_reducible apply at_build1))
  refine ⟨wl_build1 (e:=31) (sz:=32) (by':=32) kRz hS10 rFz (cs:=(bys x.key).toArray) rfl (by rw [List.size_toArray,bys_len,Hxk.out]) dCz ?_⟩
  intro bN wN hN
  go_wp2_with (with_reducible apply at_append)
  refine ⟨wl_app 31 32 32 kRz hN rFz rFz (pick_there (pick_there pick0)) pick0 (by rw [List.size_toArray,bys_len,Hxk.out]) (Nat.le_refl 1) (by rw [List.toList_toArray];exact bys_ones _) hle5 (by rw [List.size_toArray,bys_len,Hxk.out];decide) dCz (by rw [List.toList_toArray]) ?_⟩
  intro bA nA cA wA hA
  go_wp2_with fail
  rw [← Htk.out]at hA
  go_roundg (s.length - (i+1))
  case measure=>have:=Hlt.out;omega
  case rel=>exact ⟨i+1,rfl,Hlt.out,by first|rfl|go_num,hA.sb⟩
end
section
variable {w0 w:World}{F:List HProp}{p m K r ps pn B:Nat}{L:Seg.Log}{M:Med}{seg:Int}{d:Bool}{k:Frm.Bs}{mp:Frm.Bs→Option Seg.Plc}
set_option maxRecDepth 20000 in
theorem rpplace_c (hB:B≤268435000) (hk:k.length=32) (h:Sat w0 w (rpPt r m seg p ps pn d::TabML pn mp B::F)) :
  Calls Tryz.prog 104 #[ptr r,.agg (bys k).toArray] w (Rtn fun v w'=>v = .tuple #[.agg (penc ((mp k).getD Seg.Plc.zero)).toArray,.bool (mp k).isSome]∧Sat w0 w' (rpPt r m seg p ps pn d::TabML pn mp B::F)):=by
 have Hk:=uQ hk;have Hks:=uQ (show (bys k).length=32 by rw [bys_len,hk]);have HB:=uQ hB
 clear hk hB
 go_enter Tryz.func104,Tryz.ntmps104
 go_wp2_with (with_reducible apply at_box)
 refine ⟨wl_box h evD evD ?_⟩
 intro b3 w3 h3
 go_wp2_with (with_reducible apply at_alloc)
 refine ⟨wl_alloc zValL h3 rfl ?_⟩
 intro b4 w4 h4
 replace h4:Sat w0 w4 (rpPt r m seg p ps pn d::pt b4 (.cells (penc Seg.Plc.zero).toArray 87 (0,0))::pt b3 (.cells (bys k).toArray 31 (0,0))::TabML pn mp B::F):=h4.sb
 clear h h3
 go_wp2_with fail
 refine (rokY_c h4).mono ?_
 rintro ee w5 ⟨v,rfl,rfl,rfl⟩
 go_wp2_with fail
 have h5:=h4.drew
 clear h4
 refine wpL_begin [5,6,7,8,9] (fun w'=>w'.cell? ⟨r,4,none⟩=some (.pointer (some ⟨pn,0,none⟩))∧w'.rangeAt b3 0 (bys k)) kRz ?_
 have hG:World.cell? _ ⟨r,4,none⟩=some (.pointer (some ⟨pn,0,none⟩))∧World.rangeAt _ b3 0 (bys k):=⟨h5.cellP pick0 4 rfl,fun j z hj=>by rw [Nat.zero_add];exact h5.cellP pick2 j (by rw [List.getElem?_toArray];exact hj)⟩
 refine rP 0 ?_ (y:=mvQ)
 refine rP 1 ?_ (y:=nlQ)
 refine rP 2 ?_ (y:=flQ)
 refine rt 3 (h:=?_)
 refine rg_take 4 evD kRz i3z (tk_loadN (b:=b3) (o:=0) (bys k) rFz Tryz.underlying31 rfl (by rw [Hks.out];kernel_rfl) (fun w hw=>hw.2)) aQ gQ ?_
 clear hG
 refine rg_eff 5 evD kRz (fun K hK=>?_)
 (refine eff_call2 kRz evD evD ?_)
 refine (getL_c HB.out Hk.out (h5.sb:Sat w0 _ (TabML pn mp B::pt b4 (.cells (penc Seg.Plc.zero).toArray 87 (0,0))::rpPt r m seg p ps pn d::pt b3 (.cells (bys k).toArray 31 (0,0))::F))).mono ?_
 rintro ee w6 ⟨v,rfl,rfl,h6⟩
 refine hK _ _ (.inl rfl) ?_
 clear hK h5
 generalize hpc:(mp k).getD Seg.Plc.zero=pc at *
 have Hpc:=uQ hpc
 clear hpc
 refine rP 6 ?_ (y:=(yl_extract evD rnD))
 refine rP 7 ?_ (y:=(yl_extract evD rnD))
 have h7:Sat w0 w6 (pt b4 (.cells (penc Seg.Plc.zero).toArray 87 (0,0))::rpPt r m seg p ps pn d::pt b3 (.cells (bys k).toArray 31 (0,0))::TabML pn mp B::F):=h6.sb
 clear h6
 refine rg_eff 8 evD kRz (fun K hK=>?_)
 refine eff_store (cs':=(penc pc).toArray) h7 evD evD rFz upd0 nLz kRz rFz ?_
 intro w9 h9
 refine hK _ _ (.inl rfl) ?_
 clear hK h7
 refine rP 9 ?_ (y:=asQ)
 refine wpL_done kRz ?_
 go_wp2_with fail
 refine ⟨rfl,_,res_cell_tmp rfl h9 rFz pick0 Tryz.underlying87 rfl kRz,_,rfl,?_,h9.sb⟩
 rw [Hpc.out];rfl
set_option maxRecDepth 20000 in
theorem rphas_c (hB:B≤268435000) (hk:k.length=32) (h:Sat w0 w (rpPt r m seg p ps pn d::TabML pn mp B::F)) :
  Calls Tryz.prog 65 #[ptr r,.agg (bys k).toArray] w (Rtn fun v w'=>v = .bool (mp k).isSome∧Sat w0 w' (rpPt r m seg p ps pn d::TabML pn mp B::F)):=by
 have Hk:=uQ hk;have Hks:=uQ (show (bys k).length=32 by rw [bys_len,hk]);have HB:=uQ hB
 clear hk hB
 go_enter Tryz.func65,Tryz.ntmps65
 go_wp2_with (with_reducible apply at_box)
 refine ⟨wl_box h evD evD ?_⟩
 intro b3 w3 h3
 replace h3:Sat w0 w3 (pt b3 (.cells (bys k).toArray 31 (0,0))::rpPt r m seg p ps pn d::TabML pn mp B::F):=h3
 clear h
 go_wp2_with ((with_reducible refine at_load ⟨?_⟩);refine wl_loadA h3 rFz pick0 Tryz.underlying31 rfl (by rw [List.size_toArray,Hks.out];kernel_rfl) ?_)
 refine (rpplace_c HB.out Hk.out (h3.sb:Sat w0 w3 (rpPt r m seg p ps pn d::TabML pn mp B::pt b3 (.cells (bys k).toArray 31 (0,0))::F))).mono ?_
 rintro ee w4 ⟨v,rfl,rfl,h4⟩
 clear h3
 generalize (mp k).getD Seg.Plc.zero=pc at *
 go_wp2_with (with_reducible apply at_alloc)
 refine ⟨wl_alloc zValL h4 rfl ?_⟩
 intro b5 w5 h5
 go_wp2_with (with_reducible apply at_store)
 refine ⟨wl_storeA (penc pc).toArray h5 rFz rFz rFz upd0 kRz rFz ?_⟩
 intro w6 h6
 go_wp2_with fail
 go_ret
 exact ⟨_,rfl,rfl,h6.sb⟩
theorem rpdirty_c (h:Sat w0 w (rpPt r m seg p ps pn d::F)) :
  Calls Tryz.prog 21 #[ptr r] w (Rtn fun v w'=>v = .bool d∧w=w'):=by
 have e5:w.cell? ⟨r,5,none⟩=some (.bool d):=h.cellAt 5 _ rfl
 have hok:=rokY_c h
 clear h
 go_enter Tryz.func21,Tryz.ntmps21
 go_wp2_with fail
 refine hok.mono ?_
 rintro ee w1 ⟨v,rfl,rfl,rfl⟩
 go_wp2
 go_ret
 exact ⟨_,rfl,rfl,rfl⟩
set_option maxRecDepth 20000 in
theorem rpkeys_c (hB:B≤13000000) (h:Sat w0 w (rpPt r m seg p ps pn d::TabML pn mp B::F)) :
  Calls Tryz.prog 39 #[ptr r] w (Rtn fun v w'=>∃ kv:List (Frm.Bs×Seg.Plc),(Tab.Lists mp kv∧(∀ q∈kv,q.1.length=32)∧kv.length≤B)∧Sat w0 w' (osl 31 32 v (kv.flatMap fun q=>bys q.1)::rpPt r m seg p ps pn d::TabML pn mp B::F)):=by
 have e4:w.cell? ⟨r,4,none⟩=some (.pointer (some ⟨pn,0,none⟩)):=h.cellAt 4 _ rfl
 have hok:=rokY_c h
 have hks:=keysL_c hB (h.sb:Sat w0 w (TabML pn mp B::rpPt r m seg p ps pn d::F))
 clear h
 go_enter Tryz.func39,Tryz.ntmps39
 go_wp2_with fail
 refine hok.mono ?_
 rintro ee w1 ⟨v,rfl,rfl,rfl⟩
 go_wp2_with fail
 refine hks.mono ?_
 rintro ee w2 ⟨v,rfl,kv,hkv,h2⟩
 have Hkv:=uQ hkv
 clear hkv
 go_wp2_with fail
 go_ret
 exact ⟨_,rfl,kv,⟨Hkv.out.1,by intros;exact Hkv.out.2.1 (_,_) aQ,Hkv.out.2.2⟩,h2.sb⟩
end
section
variable {w0 w:World}{F:List HProp}{p m K r ps pn B:Nat}{L:Seg.Log}{M:Med}{seg:Int}{d:Bool}{k:Frm.Bs}{mp:Frm.Bs→Option Seg.Plc}
theorem putsAt_all {a b:Array Value} (h:a.size=b.size):putsAt a 0 b.toList=b:=by
 apply putsAt_eq
 rw [putsAt_list _ _ _ (by rw [Array.length_toList];omega),List.take_zero,List.nil_append,Nat.zero_add,List.drop_of_length_le (by rw [Array.length_toList,Array.length_toList];omega),List.append_nil]
set_option maxRecDepth 20000 in
theorem rpgetY_c (hB:B≤268435000) (hk:k.length=32) (pl:Seg.Plc) (hm:mp k=some pl) (hH:Ro w0 F Half) (hL:L.Ok) (hM:M.Ok K) (h1 : -9223372036854775808≤pl.at_∧pl.at_≤9223372036854775807) (h2 : -9223372036854775808≤pl.size∧pl.size≤9223372036854775807) (data:Frm.Bs) (hdl:data.length≤140737488355328) (hr:L.read M pl=(⟨0,k,data⟩,0)) (h:Sat w0 w (rpPt r m seg p ps pn d::TabML pn mp B::LogRep p m L::MedRep m M::F)) :
  Calls Tryz.prog 28 #[ptr r,.agg (bys k).toArray] w (Rtn fun v w'=>∃ bv a n c,v = .tuple #[bv,errno 0]∧bv = .slice a n c∧Sat w0 w' (bsl bv data::rpPt r m seg p ps pn d::TabML pn mp B::LogRep p m L::MedRep m M::F)):=by
 have Hk:=uQ hk;have Hks:=uQ (show (bys k).length=32 by rw [bys_len,hk])
 have HT:=uQ (fun (w':World) (R:List HProp) (hw:Sat w0 w' (TabML pn mp B::R))=>getL_c hB hk hw)
 rw [hm,Option.getD_some,Option.isSome_some]at HT
 have HH:=uQ hH
 have HR:=uQ (fun (w':World) (R:List HProp) (hh:Ro w0 R Half) (hw:Sat w0 w' (LogRep p m L::MedRep m M::R))=>lread_c hh hL hM pl h1 h2 hw)
 rw [hr]at HR
 have Hdl:=uQ hdl
 clear hk hB hm hH hL hM h1 h2 hr hdl
 go_enter Tryz.func28,Tryz.ntmps28
 go_wp2_with (with_reducible apply at_box)
 refine ⟨wl_box h evD evD ?_⟩
 intro b3 w3 h3
 have h4:Sat w0 w3 (rpPt r m seg p ps pn d::pt b3 (.cells (bys k).toArray 31 (0,0))::TabML pn mp B::LogRep p m L::MedRep m M::F):=h3.sb
 clear h h3
 go_wp2_with fail
 refine (rokY_c h4).mono ?_
 rintro ee w5 ⟨v,rfl,rfl,rfl⟩
 go_wp2_with fail
 have h5:=h4.drew
 clear h4
 refine wpL_begin [5,6,7,8,10,11] (fun w'=>w'.cell? ⟨r,4,none⟩=some (.pointer (some ⟨pn,0,none⟩))∧w'.rangeAt b3 0 (bys k)) kRz ?_
 have hGf:∀ (w':World) (R:List HProp),Sat w0 w' (rpPt r m seg p ps pn d::pt b3 (.cells (bys k).toArray 31 (0,0))::R)→w'.cell? ⟨r,4,none⟩=some (.pointer (some ⟨pn,0,none⟩))∧w'.rangeAt b3 0 (bys k):=fun w' R hw=>⟨hw.cellP pick0 4 rfl,fun j z hj=>by rw [Nat.zero_add];exact hw.cellP pick1 j (by rw [List.getElem?_toArray];exact hj)⟩
 have HGf:=uQ hGf
 have hG:=hGf _ _ h5
 clear hGf
 refine rP 0 ?_ (y:=mvQ)
 refine rP 1 ?_ (y:=nlQ)
 refine rP 2 ?_ (y:=flQ)
 refine rt 3 (h:=?_)
 refine rg_take 4 evD kRz i3z (tk_loadN (b:=b3) (o:=0) (bys k) rFz Tryz.underlying31 rfl (by rw [Hks.out];kernel_rfl) (fun w hw=>hw.2)) aQ gQ ?_
 clear hG
 refine rg_eff2 5 9 evD evD kRz (fun K hK=>?_) (fun K hK=>?_)
 ·(refine eff_call2 kRz evD evD ?_)
  refine (HT.out _ _ (h5.sb:Sat w0 _ (TabML pn mp B::rpPt r m seg p ps pn d::pt b3 (.cells (bys k).toArray 31 (0,0))::LogRep p m L::MedRep m M::F))).mono ?_
  rintro ee w6 ⟨v,rfl,rfl,h6⟩
  refine hK _ _ (.inl rfl) ?_
  clear hK h5
  refine rP 6 ?_ (y:=mvQ)
  refine rP 7 ?_ (y:=(yl_extract evD rnD))
  refine rP 8 ?_ (y:=(yl_extract evD rnD))
  refine rg_eff 9 evD kRz (fun K hK=>?_)
  refine eff_alloc (zValL) h6 rfl ?_
  intro b6 w7 h7
  refine hK _ _ (.inr (.inl (HGf.out _ _ (h7.sb:Sat w0 w7 (rpPt r m seg p ps pn d::pt b3 (.cells (bys k).toArray 31 (0,0))::pt b6 (.cells (penc Seg.Plc.zero).toArray 87 (0,0))::TabML pn mp B::LogRep p m L::MedRep m M::F))))) ?_
  clear hK h6
  have h8:Sat w0 w7 (pt b6 (.cells (penc Seg.Plc.zero).toArray 87 (0,0))::rpPt r m seg p ps pn d::pt b3 (.cells (bys k).toArray 31 (0,0))::TabML pn mp B::LogRep p m L::MedRep m M::F):=h7.sb
  clear h7
  refine rg_eff 10 evD kRz (fun K hK=>?_)
  refine eff_store (cs':=(penc pl).toArray) h8 evD evD rFz upd0 nLz kRz rFz ?_
  intro w9 h9
  refine hK _ _ (.inl rfl) ?_
  clear hK h8
  refine rP 11 ?_ (y:=asQ)
  refine wpL_done kRz ?_
  go_wp2_with fail
  have h10:=h9.drew
  clear h9 HGf
  refine wpL_begin [5,6,7,8,10,11] (fun w'=>w'.cell? ⟨r,2,none⟩=some (.pointer (some ⟨p,0,none⟩))∧w'.rangeAt b6 0 (penc pl)) kRz ?_
  have hGf:∀ (w':World) (R:List HProp),Sat w0 w' (pt b6 (.cells (penc pl).toArray 87 (0,0))::rpPt r m seg p ps pn d::R)→w'.cell? ⟨r,2,none⟩=some (.pointer (some ⟨p,0,none⟩))∧w'.rangeAt b6 0 (penc pl):=fun w' R hw=>⟨hw.cellP pick1 2 rfl,fun j z hj=>by rw [Nat.zero_add];exact hw.cellP pick0 j (by rw [List.getElem?_toArray];exact hj)⟩
  have HGf:=uQ hGf
  have hG:=hGf _ _ h10
  clear hGf
  refine rP 0 ?_ (y:=mvQ)
  refine rP 1 ?_ (y:=nlQ)
  refine rP 2 ?_ (y:=flQ)
  refine rt 3 (h:=?_)
  refine rg_take 4 evD kRz i3z (tk_loadN (b:=b6) (o:=0) (penc pl) rFz Tryz.underlying87 rfl kRz (fun w hw=>hw.2)) aQ gQ ?_
  clear hG
  refine rg_eff2 5 9 evD evD kRz (fun K hK=>?_) (fun K hK=>?_)
  ·(refine eff_call2 kRz evD evD ?_)
   refine (HR.out _ _ (Ro.os HH.out) (h10.sb:Sat w0 _ (LogRep p m L::MedRep m M::pt b6 (.cells (penc pl).toArray 87 (0,0))::rpPt r m seg p ps pn d::pt b3 (.cells (bys k).toArray 31 (0,0))::TabML pn mp B::F))).mono ?_
   rintro ee w11 ⟨v,rfl,da,dc,rfl,h11⟩
   refine hK _ _ (.inl rfl) ?_
   clear hK h10
   refine rP 6 ?_ (y:=mvQ)
   refine rP 7 ?_ (y:=(yl_extract evD rnD))
   refine rP 8 ?_ (y:=(yl_extract evD rnD))
   refine rg_eff 9 evD kRz (fun K hK=>?_)
   refine eff_alloc (zEnt) h11 rfl ?_
   intro b8 w12 h12
   refine hK _ _ (.inr (.inl (HGf.out _ _ (h12.sb:Sat w0 w12 (pt b6 (.cells (penc pl).toArray 87 (0,0))::rpPt r m seg p ps pn d::pt b8 (.cells zeroEntV.cells 101 (0,0))::bsl (.slice da data.length dc) data::LogRep p m L::MedRep m M::pt b3 (.cells (bys k).toArray 31 (0,0))::TabML pn mp B::F))))) ?_
   clear hK h11
   refine rg_eff 10 evD kRz (fun K hK=>?_)
   refine eff_store (cs':=entA ⟨0,k,data⟩ (.slice da data.length dc)) (v:= .agg (entA ⟨0,k,data⟩ (.slice da data.length dc))) h12 evD evD (by exact putsAt_all (show (entA Frm.zeroE (.slice none 0 0)).size=(entA ⟨0,k,data⟩ (.slice da data.length dc)).size by rw [entA_size _ _ (show (⟨0,k,data⟩:Frm.Ent).key.length=32 from Hk.out)];rfl)) upd0 (show 0+(entA ⟨0,k,data⟩ (.slice da data.length dc)).size≤(entA Frm.zeroE (.slice none 0 0)).size by rw [entA_size _ _ (show (⟨0,k,data⟩:Frm.Ent).key.length=32 from Hk.out)];exact Nat.le_refl _) (show _=some (entA ⟨0,k,data⟩ (.slice da data.length dc)).size by rw [entA_size _ _ (show (⟨0,k,data⟩:Frm.Ent).key.length=32 from Hk.out)];exact infoEntSize) (entA_one _ _ _ _) ?_
   intro w13 h13
   refine hK _ _ (.inl rfl) ?_
   clear hK h12
   refine rP 11 ?_ (y:=asQ)
   refine wpL_done kRz ?_
   have e0:w13.cell? ⟨b8,0,none⟩=some (.int .i64 0):=h13.cellP pick0 0 (by unfold entA;rw [List.getElem?_toArray];rfl)
   have f1:w13.rangeAt b8 1 (bys k):=fun j z hj=>h13.cellP pick0 (1+j) (by unfold entA;rw [List.getElem?_toArray];exact entL_key (⟨0,k,data⟩:Frm.Ent) _ hj)
   have f2:w13.rangeAt b3 0 (bys k):=fun j z hj=>by rw [Nat.zero_add];exact (h13.pk (A:=pt b3 (.cells (bys k).toArray 31 (0,0)))).cellAt j z (by rw [List.getElem?_toArray];exact hj)
   have e33:w13.cell? ⟨b8,33,none⟩=some (.slice da data.length dc):=h13.cellP pick0 33 (by unfold entA;rw [List.getElem?_toArray];exact entL_at33 (⟨0,k,data⟩:Frm.Ent) _ Hk.out)
   have hnk:∀ w,(binOp .neq 31 (.agg (bys k).toArray) (.agg (bys k).toArray)).run Tryz.prog w = .ok (.bool false) w:=fun w=>by rw [neq_key k k Hk.out Hk.out w];simp
   have hcl:=clone_c h13 (Sat.rd (h13.sb:Sat w0 w13 (bsl (.slice da data.length dc) data::F))) Hdl.out
   clear HGf HH HR HT
   go_wp2_with (first
    |((with_reducible refine at_load ⟨?_⟩);first
     |refine wl_loadW (b:=b8) (o:=1) (bys k) rFz f1 Tryz.underlying31 rfl (by rw [Hks.out];kernel_rfl) ?_
     |refine wl_loadW (b:=b3) (o:=0) (bys k) rFz f2 Tryz.underlying31 rfl (by rw [Hks.out];kernel_rfl) ?_)
    |((with_reducible apply ug_load);refine ⟨?_⟩;refine ug_op (by first|rfl|kernel_rfl) ?_))
   refine hcl.mono ?_
   rintro ee w14 ⟨v,rfl,h14,a,n,c,rfl⟩
   clear hcl
   go_wp2_with fail
   go_ret2
   exact ⟨_,rfl,_,a,n,c,rfl,rfl,h14.sb⟩
  ·refine eff_alloc (zEnt) h10 rfl ?_
   intro b8 w11 h11
   refine hK _ _ (.inr (.inl (HGf.out _ _ (h11.sb:Sat w0 w11 (pt b6 (.cells (penc pl).toArray 87 (0,0))::rpPt r m seg p ps pn d::pt b8 (.cells zeroEntV.cells 101 (0,0))::pt b3 (.cells (bys k).toArray 31 (0,0))::TabML pn mp B::LogRep p m L::MedRep m M::F))))) ?_
   clear hK h10
   refine rg_eff 5 evD kRz (fun K hK=>?_)
   (refine eff_call2 kRz evD evD ?_)
   refine (HR.out _ _ (Ro.os HH.out) (h11.sb:Sat w0 _ (LogRep p m L::MedRep m M::pt b8 (.cells zeroEntV.cells 101 (0,0))::pt b6 (.cells (penc pl).toArray 87 (0,0))::rpPt r m seg p ps pn d::pt b3 (.cells (bys k).toArray 31 (0,0))::TabML pn mp B::F))).mono ?_
   rintro ee w12 ⟨v,rfl,da,dc,rfl,h12⟩
   refine hK _ _ (.inl rfl) ?_
   clear hK h11
   refine rP 6 ?_ (y:=mvQ)
   refine rP 7 ?_ (y:=(yl_extract evD rnD))
   refine rP 8 ?_ (y:=(yl_extract evD rnD))
   replace h12:Sat w0 w12 (pt b8 (.cells zeroEntV.cells 101 (0,0))::bsl (.slice da data.length dc) data::LogRep p m L::MedRep m M::pt b6 (.cells (penc pl).toArray 87 (0,0))::rpPt r m seg p ps pn d::pt b3 (.cells (bys k).toArray 31 (0,0))::TabML pn mp B::F):=h12.sb
   refine rg_eff 10 evD kRz (fun K hK=>?_)
   refine eff_store (cs':=entA ⟨0,k,data⟩ (.slice da data.length dc)) (v:= .agg (entA ⟨0,k,data⟩ (.slice da data.length dc))) h12 evD evD (by exact putsAt_all (show (entA Frm.zeroE (.slice none 0 0)).size=(entA ⟨0,k,data⟩ (.slice da data.length dc)).size by rw [entA_size _ _ (show (⟨0,k,data⟩:Frm.Ent).key.length=32 from Hk.out)];rfl)) upd0 (show 0+(entA ⟨0,k,data⟩ (.slice da data.length dc)).size≤(entA Frm.zeroE (.slice none 0 0)).size by rw [entA_size _ _ (show (⟨0,k,data⟩:Frm.Ent).key.length=32 from Hk.out)];exact Nat.le_refl _) (show _=some (entA ⟨0,k,data⟩ (.slice da data.length dc)).size by rw [entA_size _ _ (show (⟨0,k,data⟩:Frm.Ent).key.length=32 from Hk.out)];exact infoEntSize) (entA_one _ _ _ _) ?_
   intro w13 h13
   refine hK _ _ (.inl rfl) ?_
   clear hK h12
   refine rP 11 ?_ (y:=asQ)
   refine wpL_done kRz ?_
   have e0:w13.cell? ⟨b8,0,none⟩=some (.int .i64 0):=h13.cellP pick0 0 (by unfold entA;rw [List.getElem?_toArray];rfl)
   have f1:w13.rangeAt b8 1 (bys k):=fun j z hj=>h13.cellP pick0 (1+j) (by unfold entA;rw [List.getElem?_toArray];exact entL_key (⟨0,k,data⟩:Frm.Ent) _ hj)
   have f2:w13.rangeAt b3 0 (bys k):=fun j z hj=>by rw [Nat.zero_add];exact (h13.pk (A:=pt b3 (.cells (bys k).toArray 31 (0,0)))).cellAt j z (by rw [List.getElem?_toArray];exact hj)
   have e33:w13.cell? ⟨b8,33,none⟩=some (.slice da data.length dc):=h13.cellP pick0 33 (by unfold entA;rw [List.getElem?_toArray];exact entL_at33 (⟨0,k,data⟩:Frm.Ent) _ Hk.out)
   have hnk:∀ w,(binOp .neq 31 (.agg (bys k).toArray) (.agg (bys k).toArray)).run Tryz.prog w = .ok (.bool false) w:=fun w=>by rw [neq_key k k Hk.out Hk.out w];simp
   have hcl:=clone_c h13 (Sat.rd (h13.sb:Sat w0 w13 (bsl (.slice da data.length dc) data::F))) Hdl.out
   clear HGf HH HR HT
   go_wp2_with (first
    |((with_reducible refine at_load ⟨?_⟩);first
     |refine wl_loadW (b:=b8) (o:=1) (bys k) rFz f1 Tryz.underlying31 rfl (by rw [Hks.out];kernel_rfl) ?_
     |refine wl_loadW (b:=b3) (o:=0) (bys k) rFz f2 Tryz.underlying31 rfl (by rw [Hks.out];kernel_rfl) ?_)
    |((with_reducible apply ug_load);refine ⟨?_⟩;refine ug_op (by first|rfl|kernel_rfl) ?_))
   refine hcl.mono ?_
   rintro ee w14 ⟨v,rfl,h14,a,n,c,rfl⟩
   clear hcl
   go_wp2_with fail
   go_ret2
   exact ⟨_,rfl,_,a,n,c,rfl,rfl,h14.sb⟩
 ·refine eff_alloc (zValL) h5 rfl ?_
  intro b6 w6 h6
  refine hK _ _ (.inr (.inl (HGf.out _ _ (h6.sb:Sat w0 w6 (rpPt r m seg p ps pn d::pt b3 (.cells (bys k).toArray 31 (0,0))::pt b6 (.cells (penc Seg.Plc.zero).toArray 87 (0,0))::TabML pn mp B::LogRep p m L::MedRep m M::F))))) ?_
  clear hK h5
  refine rg_eff 5 evD kRz (fun K hK=>?_)
  (refine eff_call2 kRz evD evD ?_)
  refine (HT.out _ _ (h6.sb:Sat w0 _ (TabML pn mp B::pt b6 (.cells (penc Seg.Plc.zero).toArray 87 (0,0))::rpPt r m seg p ps pn d::pt b3 (.cells (bys k).toArray 31 (0,0))::LogRep p m L::MedRep m M::F))).mono ?_
  rintro ee w7 ⟨v,rfl,rfl,h7⟩
  refine hK _ _ (.inl rfl) ?_
  clear hK h6
  refine rP 6 ?_ (y:=mvQ)
  refine rP 7 ?_ (y:=(yl_extract evD rnD))
  refine rP 8 ?_ (y:=(yl_extract evD rnD))
  have h8:Sat w0 w7 (pt b6 (.cells (penc Seg.Plc.zero).toArray 87 (0,0))::rpPt r m seg p ps pn d::pt b3 (.cells (bys k).toArray 31 (0,0))::TabML pn mp B::LogRep p m L::MedRep m M::F):=h7.sb
  clear h7
  refine rg_eff 10 evD kRz (fun K hK=>?_)
  refine eff_store (cs':=(penc pl).toArray) h8 evD evD rFz upd0 nLz kRz rFz ?_
  intro w9 h9
  refine hK _ _ (.inl rfl) ?_
  clear hK h8
  refine rP 11 ?_ (y:=asQ)
  refine wpL_done kRz ?_
  go_wp2_with fail
  have h10:=h9.drew
  clear h9 HGf
  refine wpL_begin [5,6,7,8,10,11] (fun w'=>w'.cell? ⟨r,2,none⟩=some (.pointer (some ⟨p,0,none⟩))∧w'.rangeAt b6 0 (penc pl)) kRz ?_
  have hGf:∀ (w':World) (R:List HProp),Sat w0 w' (pt b6 (.cells (penc pl).toArray 87 (0,0))::rpPt r m seg p ps pn d::R)→w'.cell? ⟨r,2,none⟩=some (.pointer (some ⟨p,0,none⟩))∧w'.rangeAt b6 0 (penc pl):=fun w' R hw=>⟨hw.cellP pick1 2 rfl,fun j z hj=>by rw [Nat.zero_add];exact hw.cellP pick0 j (by rw [List.getElem?_toArray];exact hj)⟩
  have HGf:=uQ hGf
  have hG:=hGf _ _ h10
  clear hGf
  refine rP 0 ?_ (y:=mvQ)
  refine rP 1 ?_ (y:=nlQ)
  refine rP 2 ?_ (y:=flQ)
  refine rt 3 (h:=?_)
  refine rg_take 4 evD kRz i3z (tk_loadN (b:=b6) (o:=0) (penc pl) rFz Tryz.underlying87 rfl kRz (fun w hw=>hw.2)) aQ gQ ?_
  clear hG
  refine rg_eff2 5 9 evD evD kRz (fun K hK=>?_) (fun K hK=>?_)
  ·(refine eff_call2 kRz evD evD ?_)
   refine (HR.out _ _ (Ro.os HH.out) (h10.sb:Sat w0 _ (LogRep p m L::MedRep m M::pt b6 (.cells (penc pl).toArray 87 (0,0))::rpPt r m seg p ps pn d::pt b3 (.cells (bys k).toArray 31 (0,0))::TabML pn mp B::F))).mono ?_
   rintro ee w11 ⟨v,rfl,da,dc,rfl,h11⟩
   refine hK _ _ (.inl rfl) ?_
   clear hK h10
   refine rP 6 ?_ (y:=mvQ)
   refine rP 7 ?_ (y:=(yl_extract evD rnD))
   refine rP 8 ?_ (y:=(yl_extract evD rnD))
   refine rg_eff 9 evD kRz (fun K hK=>?_)
   refine eff_alloc (zEnt) h11 rfl ?_
   intro b8 w12 h12
   refine hK _ _ (.inr (.inl (HGf.out _ _ (h12.sb:Sat w0 w12 (pt b6 (.cells (penc pl).toArray 87 (0,0))::rpPt r m seg p ps pn d::pt b8 (.cells zeroEntV.cells 101 (0,0))::bsl (.slice da data.length dc) data::LogRep p m L::MedRep m M::pt b3 (.cells (bys k).toArray 31 (0,0))::TabML pn mp B::F))))) ?_
   clear hK h11
   refine rg_eff 10 evD kRz (fun K hK=>?_)
   refine eff_store (cs':=entA ⟨0,k,data⟩ (.slice da data.length dc)) (v:= .agg (entA ⟨0,k,data⟩ (.slice da data.length dc))) h12 evD evD (by exact putsAt_all (show (entA Frm.zeroE (.slice none 0 0)).size=(entA ⟨0,k,data⟩ (.slice da data.length dc)).size by rw [entA_size _ _ (show (⟨0,k,data⟩:Frm.Ent).key.length=32 from Hk.out)];rfl)) upd0 (show 0+(entA ⟨0,k,data⟩ (.slice da data.length dc)).size≤(entA Frm.zeroE (.slice none 0 0)).size by rw [entA_size _ _ (show (⟨0,k,data⟩:Frm.Ent).key.length=32 from Hk.out)];exact Nat.le_refl _) (show _=some (entA ⟨0,k,data⟩ (.slice da data.length dc)).size by rw [entA_size _ _ (show (⟨0,k,data⟩:Frm.Ent).key.length=32 from Hk.out)];exact infoEntSize) (entA_one _ _ _ _) ?_
   intro w13 h13
   refine hK _ _ (.inl rfl) ?_
   clear hK h12
   refine rP 11 ?_ (y:=asQ)
   refine wpL_done kRz ?_
   have e0:w13.cell? ⟨b8,0,none⟩=some (.int .i64 0):=h13.cellP pick0 0 (by unfold entA;rw [List.getElem?_toArray];rfl)
   have f1:w13.rangeAt b8 1 (bys k):=fun j z hj=>h13.cellP pick0 (1+j) (by unfold entA;rw [List.getElem?_toArray];exact entL_key (⟨0,k,data⟩:Frm.Ent) _ hj)
   have f2:w13.rangeAt b3 0 (bys k):=fun j z hj=>by rw [Nat.zero_add];exact (h13.pk (A:=pt b3 (.cells (bys k).toArray 31 (0,0)))).cellAt j z (by rw [List.getElem?_toArray];exact hj)
   have e33:w13.cell? ⟨b8,33,none⟩=some (.slice da data.length dc):=h13.cellP pick0 33 (by unfold entA;rw [List.getElem?_toArray];exact entL_at33 (⟨0,k,data⟩:Frm.Ent) _ Hk.out)
   have hnk:∀ w,(binOp .neq 31 (.agg (bys k).toArray) (.agg (bys k).toArray)).run Tryz.prog w = .ok (.bool false) w:=fun w=>by rw [neq_key k k Hk.out Hk.out w];simp
   have hcl:=clone_c h13 (Sat.rd (h13.sb:Sat w0 w13 (bsl (.slice da data.length dc) data::F))) Hdl.out
   clear HGf HH HR HT
   go_wp2_with (first
    |((with_reducible refine at_load ⟨?_⟩);first
     |refine wl_loadW (b:=b8) (o:=1) (bys k) rFz f1 Tryz.underlying31 rfl (by rw [Hks.out];kernel_rfl) ?_
     |refine wl_loadW (b:=b3) (o:=0) (bys k) rFz f2 Tryz.underlying31 rfl (by rw [Hks.out];kernel_rfl) ?_)
    |((with_reducible apply ug_load);refine ⟨?_⟩;refine ug_op (by first|rfl|kernel_rfl) ?_))
   refine hcl.mono ?_
   rintro ee w14 ⟨v,rfl,h14,a,n,c,rfl⟩
   clear hcl
   go_wp2_with fail
   go_ret2
   exact ⟨_,rfl,_,a,n,c,rfl,rfl,h14.sb⟩
  ·refine eff_alloc (zEnt) h10 rfl ?_
   intro b8 w11 h11
   refine hK _ _ (.inr (.inl (HGf.out _ _ (h11.sb:Sat w0 w11 (pt b6 (.cells (penc pl).toArray 87 (0,0))::rpPt r m seg p ps pn d::pt b8 (.cells zeroEntV.cells 101 (0,0))::pt b3 (.cells (bys k).toArray 31 (0,0))::TabML pn mp B::LogRep p m L::MedRep m M::F))))) ?_
   clear hK h10
   refine rg_eff 5 evD kRz (fun K hK=>?_)
   (refine eff_call2 kRz evD evD ?_)
   refine (HR.out _ _ (Ro.os HH.out) (h11.sb:Sat w0 _ (LogRep p m L::MedRep m M::pt b8 (.cells zeroEntV.cells 101 (0,0))::pt b6 (.cells (penc pl).toArray 87 (0,0))::rpPt r m seg p ps pn d::pt b3 (.cells (bys k).toArray 31 (0,0))::TabML pn mp B::F))).mono ?_
   rintro ee w12 ⟨v,rfl,da,dc,rfl,h12⟩
   refine hK _ _ (.inl rfl) ?_
   clear hK h11
   refine rP 6 ?_ (y:=mvQ)
   refine rP 7 ?_ (y:=(yl_extract evD rnD))
   refine rP 8 ?_ (y:=(yl_extract evD rnD))
   replace h12:Sat w0 w12 (pt b8 (.cells zeroEntV.cells 101 (0,0))::bsl (.slice da data.length dc) data::LogRep p m L::MedRep m M::pt b6 (.cells (penc pl).toArray 87 (0,0))::rpPt r m seg p ps pn d::pt b3 (.cells (bys k).toArray 31 (0,0))::TabML pn mp B::F):=h12.sb
   refine rg_eff 10 evD kRz (fun K hK=>?_)
   refine eff_store (cs':=entA ⟨0,k,data⟩ (.slice da data.length dc)) (v:= .agg (entA ⟨0,k,data⟩ (.slice da data.length dc))) h12 evD evD (by exact putsAt_all (show (entA Frm.zeroE (.slice none 0 0)).size=(entA ⟨0,k,data⟩ (.slice da data.length dc)).size by rw [entA_size _ _ (show (⟨0,k,data⟩:Frm.Ent).key.length=32 from Hk.out)];rfl)) upd0 (show 0+(entA ⟨0,k,data⟩ (.slice da data.length dc)).size≤(entA Frm.zeroE (.slice none 0 0)).size by rw [entA_size _ _ (show (⟨0,k,data⟩:Frm.Ent).key.length=32 from Hk.out)];exact Nat.le_refl _) (show _=some (entA ⟨0,k,data⟩ (.slice da data.length dc)).size by rw [entA_size _ _ (show (⟨0,k,data⟩:Frm.Ent).key.length=32 from Hk.out)];exact infoEntSize) (entA_one _ _ _ _) ?_
   intro w13 h13
   refine hK _ _ (.inl rfl) ?_
   clear hK h12
   refine rP 11 ?_ (y:=asQ)
   refine wpL_done kRz ?_
   have e0:w13.cell? ⟨b8,0,none⟩=some (.int .i64 0):=h13.cellP pick0 0 (by unfold entA;rw [List.getElem?_toArray];rfl)
   have f1:w13.rangeAt b8 1 (bys k):=fun j z hj=>h13.cellP pick0 (1+j) (by unfold entA;rw [List.getElem?_toArray];exact entL_key (⟨0,k,data⟩:Frm.Ent) _ hj)
   have f2:w13.rangeAt b3 0 (bys k):=fun j z hj=>by rw [Nat.zero_add];exact (h13.pk (A:=pt b3 (.cells (bys k).toArray 31 (0,0)))).cellAt j z (by rw [List.getElem?_toArray];exact hj)
   have e33:w13.cell? ⟨b8,33,none⟩=some (.slice da data.length dc):=h13.cellP pick0 33 (by unfold entA;rw [List.getElem?_toArray];exact entL_at33 (⟨0,k,data⟩:Frm.Ent) _ Hk.out)
   have hnk:∀ w,(binOp .neq 31 (.agg (bys k).toArray) (.agg (bys k).toArray)).run Tryz.prog w = .ok (.bool false) w:=fun w=>by rw [neq_key k k Hk.out Hk.out w];simp
   have hcl:=clone_c h13 (Sat.rd (h13.sb:Sat w0 w13 (bsl (.slice da data.length dc) data::F))) Hdl.out
   clear HGf HH HR HT
   go_wp2_with (first
    |((with_reducible refine at_load ⟨?_⟩);first
     |refine wl_loadW (b:=b8) (o:=1) (bys k) rFz f1 Tryz.underlying31 rfl (by rw [Hks.out];kernel_rfl) ?_
     |refine wl_loadW (b:=b3) (o:=0) (bys k) rFz f2 Tryz.underlying31 rfl (by rw [Hks.out];kernel_rfl) ?_)
    |((with_reducible apply ug_load);refine ⟨?_⟩;refine ug_op (by first|rfl|kernel_rfl) ?_))
   refine hcl.mono ?_
   rintro ee w14 ⟨v,rfl,h14,a,n,c,rfl⟩
   clear hcl
   go_wp2_with fail
   go_ret2
   exact ⟨_,rfl,_,a,n,c,rfl,rfl,h14.sb⟩
end
section
variable {w0 w:World}{F:List HProp}{p m K r ps pn B:Nat}{L:Seg.Log}{M:Med}{seg:Int}{d:Bool}{k:Frm.Bs}{mp:Frm.Bs→Option Seg.Plc}
set_option maxRecDepth 20000 in
theorem rpputE_c (hB:B≤134217000) (hk:k.length=32) (data:Frm.Bs) (da:Option Addr) (dc:Nat) (hd:Ro w0 F (rdsl 1 (.slice da data.length dc) (bys data))) (hLd:data.length≤1099511627) (hL:L.Ok) (hM:M.Ok K) (hKK:K+4≤1099511627776) (hH:Ro w0 F Half)
  (h0:(L.append M ⟨0,k,data⟩).2.2≠0) (h:Sat w0 w (rpPt r m seg p ps pn d::TabML pn mp B::LogRep p m L::MedRep m M::F)) :
  Calls Tryz.prog 19 #[ptr r,.agg (bys k).toArray,.slice da data.length dc] w (Rtn fun v w'=>v=errno (L.append M ⟨0,k,data⟩).2.2∧Sat w0 w' (rpPt r m seg p ps pn d::TabML pn mp B::LogRep p m (L.append M ⟨0,k,data⟩).1.1::MedRep m (L.append M ⟨0,k,data⟩).1.2::F)):=by
 have hks:(bys k).length=32:=by rw [bys_len,hk]
 have hap:=uQ (fun (w':World) (R:List HProp) (hh:Ro w0 R Half) (hr:Ro w0 R (rdsl 1 (.slice da data.length dc) (bys data))) (hw:Sat w0 w' (LogRep p m L::MedRep m M::R))=>lappend_c ⟨0,k,data⟩ hk da dc hr hh hLd hL hM hKK hw)
 generalize L.append M ⟨0,k,data⟩=q at *
 obtain ⟨⟨L2,M2⟩,pc,e2⟩:=q
 dsimp only at h0 hap ⊢
 have hb:(e2 != 0)=true:=bne_iff_ne.2 h0
 have HB:=uQ hB;have Hkey:=uQ hk;have Hks:=uQ hks;have Hd:=uQ hd;have HH:=uQ hH
 clear hB hk hks hd hLd hL hM hKK hH
 go_enter Tryz.func19,Tryz.ntmps19
 go_wp2_with (with_reducible apply at_box)
 refine ⟨wl_box h evD evD ?_⟩
 intro b4 w4 h4
 replace h4:Sat w0 w4 (pt b4 (.cells (bys k).toArray 31 (0,0))::rpPt r m seg p ps pn d::TabML pn mp B::LogRep p m L::MedRep m M::F):=h4
 clear h
 go_wp2_with fail
 refine (rokY_c (h4.sb:Sat w0 w4 (rpPt r m seg p ps pn d::pt b4 (.cells (bys k).toArray 31 (0,0))::TabML pn mp B::LogRep p m L::MedRep m M::F))).mono ?_
 rintro ee w5 ⟨v,rfl,rfl,rfl⟩
 go_wp2_with fail
 have h5:=h4.drew
 clear h4
 refine wpL_begin [7,8,9,10,12,13] (fun w'=>w'.cell? ⟨r,2,none⟩=some (.pointer (some ⟨p,0,none⟩))∧w'.rangeAt b4 0 (bys k)) kRz ?_
 have hGf:∀ (w':World) (R:List HProp) (dd:Bool),Sat w0 w' (pt b4 (.cells (bys k).toArray 31 (0,0))::rpPt r m seg p ps pn dd::R)→w'.cell? ⟨r,2,none⟩=some (.pointer (some ⟨p,0,none⟩))∧w'.rangeAt b4 0 (bys k):=fun w' R dd hw=>⟨hw.cellP pick1 2 rfl,fun j z hj=>by rw [Nat.zero_add];exact hw.cellP pick0 j (by rw [List.getElem?_toArray];exact hj)⟩
 have HGf:=uQ hGf
 have hG:=hGf _ _ _ h5
 clear hGf
 refine rP 0 ?_ (y:=mvQ)
 refine rP 1 ?_ (y:=nlQ)
 refine rP 2 ?_ (y:=flQ)
 refine rt 3 (h:=?_)
 refine rg_take 4 evD kRz i3z (tk_loadN (b:=b4) (o:=0) (bys k) rFz Tryz.underlying31 rfl (by rw [Hks.out];kernel_rfl) (fun w hw=>hw.2)) aQ gQ ?_
 clear hG
 refine rP 5 ?_ (y:=mvQ)
 refine rP 6 ?_ (y:=(yl_build3 evD evD evD (fun w=>run_buildEnt ⟨0,k,data⟩ Hkey.out da data.length dc w)))
 refine rg_eff2 7 11 evD evD kRz (fun K hK=>?_) (fun K hK=>?_)
 ·(refine eff_call2 kRz evD evD ?_)
  refine (hap.out _ _ (Ro.os HH.out) (Ro.os Hd.out) (h5.sb:Sat w0 _ (LogRep p m L::MedRep m M::pt b4 (.cells (bys k).toArray 31 (0,0))::rpPt r m seg p ps pn d::TabML pn mp B::F))).mono ?_
  rintro ee w6 ⟨v,rfl,rfl,h6⟩
  refine hK _ _ (.inl rfl) ?_
  clear hK hap h5
  refine rP 8 ?_ (y:=mvQ)
  refine rP 9 ?_ (y:=(yl_extract evD rnD))
  refine rP 10 ?_ (y:=(yl_extract evD rnD))
  refine rg_eff 11 evD kRz (fun K hK=>?_)
  refine eff_alloc (zValL) h6 rfl ?_
  intro b7 w7 h7
  refine hK _ _ (.inr (.inl (HGf.out _ _ _ (h7.sb:Sat w0 w7 (pt b4 (.cells (bys k).toArray 31 (0,0))::rpPt r m seg p ps pn d::TabML pn mp B::pt b7 (.cells (penc Seg.Plc.zero).toArray 87 (0,0))::LogRep p m L2::MedRep m M2::F))))) ?_
  clear hK h6
  have h8:Sat w0 w7 (pt b7 (.cells (penc Seg.Plc.zero).toArray 87 (0,0))::pt b4 (.cells (bys k).toArray 31 (0,0))::rpPt r m seg p ps pn d::TabML pn mp B::LogRep p m L2::MedRep m M2::F):=h7.sb
  clear h7
  refine rg_eff 12 evD kRz (fun K hK=>?_)
  refine eff_store (cs':=(penc pc).toArray) h8 evD evD rFz upd0 nLz kRz rFz ?_
  intro w9 h9
  refine hK _ _ (.inl rfl) ?_
  clear hK h8
  refine rP 13 ?_ (y:=asQ)
  refine wpL_done kRz ?_
  go_wp2_with fail
  go_ret
  exact ⟨_,rfl,rfl,h9.sb⟩
 ·refine eff_alloc (zValL) h5 rfl ?_
  intro b7 w6 h6
  refine hK _ _ (.inr (.inl (HGf.out _ _ _ (h6.sb:Sat w0 w6 (pt b4 (.cells (bys k).toArray 31 (0,0))::rpPt r m seg p ps pn d::pt b7 (.cells (penc Seg.Plc.zero).toArray 87 (0,0))::TabML pn mp B::LogRep p m L::MedRep m M::F))))) ?_
  clear hK h5
  refine rg_eff 7 evD kRz (fun K hK=>?_)
  (refine eff_call2 kRz evD evD ?_)
  refine (hap.out _ _ (Ro.os HH.out) (Ro.os Hd.out) (h6.sb:Sat w0 _ (LogRep p m L::MedRep m M::pt b7 (.cells (penc Seg.Plc.zero).toArray 87 (0,0))::pt b4 (.cells (bys k).toArray 31 (0,0))::rpPt r m seg p ps pn d::TabML pn mp B::F))).mono ?_
  rintro ee w7 ⟨v,rfl,rfl,h7⟩
  refine hK _ _ (.inl rfl) ?_
  clear hK hap h6
  refine rP 8 ?_ (y:=mvQ)
  refine rP 9 ?_ (y:=(yl_extract evD rnD))
  refine rP 10 ?_ (y:=(yl_extract evD rnD))
  have h8:Sat w0 w7 (pt b7 (.cells (penc Seg.Plc.zero).toArray 87 (0,0))::pt b4 (.cells (bys k).toArray 31 (0,0))::rpPt r m seg p ps pn d::TabML pn mp B::LogRep p m L2::MedRep m M2::F):=h7.sb
  clear h7
  refine rg_eff 12 evD kRz (fun K hK=>?_)
  refine eff_store (cs':=(penc pc).toArray) h8 evD evD rFz upd0 nLz kRz rFz ?_
  intro w9 h9
  refine hK _ _ (.inl rfl) ?_
  clear hK h8
  refine rP 13 ?_ (y:=asQ)
  refine wpL_done kRz ?_
  go_wp2_with fail
  go_ret
  exact ⟨_,rfl,rfl,h9.sb⟩
end
def kvL (q:Frm.Bs×Seg.Plc):List Value:=bys q.1++penc q.2
theorem kvL_len (q:Frm.Bs×Seg.Plc) (hk:q.1.length=32):(kvL q).length=35:=by unfold kvL;rw [List.length_append,bys_len,hk];rfl
theorem kvL_ones (q:Frm.Bs×Seg.Plc):(kvL q).all (·.oneCell')=true:=by unfold kvL;rw [List.all_append,bys_ones];rfl
theorem plKv:placesB Tryz.prog 166=some [(0,32),(32,3)]:=by kernel_rfl
theorem zKv:zeroB Tryz.prog 166=some (.agg (kvL (Frm.zero32,Seg.Plc.zero)).toArray):=by kernel_rfl
theorem run_kv (k:Frm.Bs) (hk:k.length=32) (v:Seg.Plc) (w:World):(Instr.build 166 #[(0,.agg (bys k).toArray),(1,.agg (penc v).toArray)]).run Tryz.prog w = .ok (.agg (kvL (k,v)).toArray) w:=by
 have h:=run_build (P:=Tryz.prog) [(0,.agg (bys k).toArray),(1,.agg (penc v).toArray)] plKv zKv (by
  intro p hp
  have hzz:(Value.agg (kvL (Frm.zero32,Seg.Plc.zero)).toArray).cells.size=35:=by rfl
  rw [hzz]
  rcases List.mem_cons.1 hp with rfl|hp
  ·refine ⟨0,?_,?_⟩
   ·show some (0,32)=some (0,(bys k).toArray.size);rw [List.size_toArray,bys_len,hk]
   ·show 0+(bys k).toArray.size≤35
    rw [List.size_toArray,bys_len,hk];decide
  ·rw [List.mem_singleton.1 hp]
   exact ⟨32,rfl,by show 32+3≤35;omega⟩) w
 refine h.trans ?_
 have hz:Frm.zero32.length=32:=rfl
 have hzl:(kvL (Frm.zero32,Seg.Plc.zero)).length=35:=kvL_len _ hz
 have e:putsAt (putsAt (kvL (Frm.zero32,Seg.Plc.zero)).toArray 0 (bys k)) 32 (penc v)=(kvL (k,v)).toArray:=by
  apply putsAt_eq
  rw [puts_putL _ _ _ (by rw [putsAt_size,List.size_toArray,hzl];exact Nat.le_refl 35),puts_putL _ _ _ (by rw [List.size_toArray,hzl,bys_len,hk];decide),List.toList_toArray]
  have e1:putL (kvL (Frm.zero32,Seg.Plc.zero)) 0 (bys k)=bys k++penc Seg.Plc.zero:=by
   unfold kvL
   rw [putL_app2 _ _ _ _ (by rw [bys_len,bys_len,hk,hz];decide),putL_all (by rw [bys_len,bys_len,hk,hz])]
  have h0:=putL_app (bys k) (penc Seg.Plc.zero) (penc v) 0
  rw [bys_len,hk,putL_all (xs:=penc Seg.Plc.zero) (vs:=penc v) rFz]at h0
  rw [e1]
  exact h0
 exact congrArg (fun x=>Result.ok (Value.agg x) w) e
section
variable {P:Program}{ops:Array Oper}{a:Act}{dst:Option Tmp}{t ty:TypeId}{pos:String}{after:Array Edge}{x y:Operand}{v v1 v2:Value}{i1 i2:Nat}
theorem yl_build2 (hx:a.eval x=v1) (hy:a.eval y=v2) (hr:∀ w,(Instr.build ty #[(i1,v1),(i2,v2)]).run P w = .ok v w):Yields P ops ⟨dst,.build ty #[(i1,x),(i2,y)],t,pos,after,none⟩ v a:=
 .inl ⟨want_none _ rfl,fun w=>by simp only [execOp,List.map_toArray,List.map_cons,List.map_nil,hx,hy,Sem.run_bind,hr,Result.andThen_ok,Sem.run_pure]⟩
end
section
variable {w0 w:World}{F:List HProp}{p B:Nat}{m:Frm.Bs→Option (Seg.Plc)}
end
section
variable {w0 w:World}{F:List HProp}{p m K r ps pn B:Nat}{L:Seg.Log}{M:Med}{seg:Int}{d:Bool}{k:Frm.Bs}{mp:Frm.Bs→Option Seg.Plc}
theorem puts2 (cs:Array Value) (hs:cs.size=34) (u:Value) (kl:List Value) (hk:kl.length=32):(putsAt (putsAt cs 0 [u]) 1 kl).toList=u::(kl++cs.toList.drop 33):=by
 have hcl:cs.toList.length=34:=by simpa using hs
 rw [putsAt_list _ _ _ (by rw [putsAt_size];omega),putsAt_list _ _ _ (by simp;omega)]
 simp only [List.take_zero,List.nil_append,List.length_singleton,Nat.zero_add]
 rw [List.singleton_append,List.take_succ_cons,List.take_zero,hk,show 1+32=32+1 by omega,List.drop_succ_cons,List.drop_drop]
 simp
set_option maxRecDepth 20000 in
theorem run_buildDel (k:Frm.Bs) (hk:k.length=32) (w:World) :
  (Instr.build 101 #[(0,.int .i64 1),(1,.agg (bys k).toArray)]).run Tryz.prog w = .ok (.agg (entA ⟨1,k,[]⟩ (.slice none 0 0))) w:=by
 have hz:(entA Frm.zeroE (.slice none 0 0)).size=34:=entA_size _ _ rfl
 have hks:(bys k).toArray.size=32:=by simp [bys,hk]
 have h:=run_build (P:=Tryz.prog) [(0,.int .i64 1),(1,.agg (bys k).toArray)] plEnt zEnt (by
  intro p hp
  simp only [List.mem_cons,List.not_mem_nil,or_false]at hp
  have hzz:zeroEntV.cells.size=34:=hz
  rw [hzz]
  rcases hp with rfl|rfl
  ·exact ⟨0,rfl,by show 0+1≤34;omega⟩
  ·refine ⟨1,?_,?_⟩
   ·show some (1,32)=some (1,(bys k).toArray.size);rw [hks]
   ·show 1+(bys k).toArray.size≤34;rw [hks];omega) w
 refine h.trans ?_
 congr 2
 apply putsAt_eq
 refine (puts2 _ hz _ _ (show (bys k).toArray.toList.length=32 by rw [List.toList_toArray,bys_len,hk])).trans ?_
 rfl
set_option maxRecDepth 20000 in
theorem rpdelN_c (hB:B≤134217000) (hk:k.length=32) (hm:mp k=none) (h:Sat w0 w (rpPt r m seg p ps pn d::TabML pn mp B::LogRep p m L::MedRep m M::F)) :
  Calls Tryz.prog 36 #[ptr r,.agg (bys k).toArray] w (Rtn fun v w'=>v=errno 9∧Sat w0 w' (rpPt r m seg p ps pn d::TabML pn mp B::LogRep p m L::MedRep m M::F)):=by
 have Hk:=uQ hk;have Hks:=uQ (show (bys k).length=32 by rw [bys_len,hk]);have HB:=uQ hB
 have HX:=uQ (fun (w':World) (R:List HProp) (hw:Sat w0 w' (rpPt r m seg p ps pn d::TabML pn mp B::R))=>rphas_c (Nat.le_trans hB dCz) hk hw)
 rw [hm,Option.isSome_none]at HX
 clear hk hB hm
 go_enter Tryz.func36,Tryz.ntmps36
 go_wp2_with (with_reducible apply at_box)
 refine ⟨wl_box h evD evD ?_⟩
 intro b3 w3 h3
 have h4:Sat w0 w3 (rpPt r m seg p ps pn d::TabML pn mp B::pt b3 (.cells (bys k).toArray 31 (0,0))::LogRep p m L::MedRep m M::F):=h3.sb
 clear h h3
 go_wp2_with fail
 refine (rokY_c h4).mono ?_
 rintro ee w5 ⟨v,rfl,rfl,rfl⟩
 go_wp2_with ((with_reducible refine at_load ⟨?_⟩);refine wl_loadA h4 rFz pick2 Tryz.underlying31 rfl (by rw [List.size_toArray,Hks.out];kernel_rfl) ?_)
 refine (HX.out _ _ h4).mono ?_
 rintro ee w6 ⟨v,rfl,rfl,h6⟩
 clear h4
 go_wp2_with fail
 go_ret
 exact ⟨_,rfl,rfl,h6.sb⟩
set_option maxRecDepth 20000 in
theorem rpdelE_c (hB:B≤134217000) (hk:k.length=32) (pl:Seg.Plc) (hm:mp k=some pl) (hL:L.Ok) (hM:M.Ok K) (hKK:K+4≤1099511627776) (hH:Ro w0 F Half) (h0:(L.append M ⟨1,k,[]⟩).2.2≠0) (h:Sat w0 w (rpPt r m seg p ps pn d::TabML pn mp B::LogRep p m L::MedRep m M::F)) :
  Calls Tryz.prog 36 #[ptr r,.agg (bys k).toArray] w (Rtn fun v w'=>v=errno (L.append M ⟨1,k,[]⟩).2.2∧Sat w0 w' (rpPt r m seg p ps pn d::TabML pn mp B::LogRep p m (L.append M ⟨1,k,[]⟩).1.1::MedRep m (L.append M ⟨1,k,[]⟩).1.2::F)):=by
 have Hk:=uQ hk;have Hks:=uQ (show (bys k).length=32 by rw [bys_len,hk]);have HB:=uQ hB
 have HX:=uQ (fun (w':World) (R:List HProp) (hw:Sat w0 w' (rpPt r m seg p ps pn d::TabML pn mp B::R))=>rphas_c (Nat.le_trans hB dCz) hk hw)
 rw [hm,Option.isSome_some]at HX
 have hap:=uQ (fun (w':World) (R:List HProp) (hh:Ro w0 R Half) (hw:Sat w0 w' (LogRep p m L::MedRep m M::R))=>lappend_c ⟨1,k,[]⟩ hk none 0 (fun w _=>rdsl_nil 1 0 w) hh (Nat.zero_le _) hL hM hKK hw)
 generalize L.append M ⟨1,k,[]⟩=q at *
 obtain ⟨⟨L2,M2⟩,pc,e2⟩:=q
 dsimp only at h0 hap ⊢
 have HH:=uQ hH
 have hb:(e2 != 0)=true:=bne_iff_ne.2 h0
 clear hk hB hm hL hM hKK hH h0
 go_enter Tryz.func36,Tryz.ntmps36
 go_wp2_with (with_reducible apply at_box)
 refine ⟨wl_box h evD evD ?_⟩
 intro b3 w3 h3
 have h4:Sat w0 w3 (rpPt r m seg p ps pn d::TabML pn mp B::pt b3 (.cells (bys k).toArray 31 (0,0))::LogRep p m L::MedRep m M::F):=h3.sb
 clear h h3
 go_wp2_with fail
 refine (rokY_c h4).mono ?_
 rintro ee w5 ⟨v,rfl,rfl,rfl⟩
 go_wp2_with ((with_reducible refine at_load ⟨?_⟩);refine wl_loadA h4 rFz pick2 Tryz.underlying31 rfl (by rw [List.size_toArray,Hks.out];kernel_rfl) ?_)
 refine (HX.out _ _ h4).mono ?_
 rintro ee w6 ⟨v,rfl,rfl,h6⟩
 clear h4
 go_wp2_with fail
 have h5:Sat w0 _ (pt b3 (.cells (bys k).toArray 31 (0,0))::rpPt r m seg p ps pn d::TabML pn mp B::LogRep p m L::MedRep m M::F):=(h6.drew).sb
 clear h6
 refine wpL_begin [6,7,8,9,11,12] (fun w'=>w'.cell? ⟨r,2,none⟩=some (.pointer (some ⟨p,0,none⟩))∧w'.rangeAt b3 0 (bys k)) kRz ?_
 have hGf:∀ (w':World) (R:List HProp),Sat w0 w' (pt b3 (.cells (bys k).toArray 31 (0,0))::rpPt r m seg p ps pn d::R)→w'.cell? ⟨r,2,none⟩=some (.pointer (some ⟨p,0,none⟩))∧w'.rangeAt b3 0 (bys k):=fun w' R hw=>⟨hw.cellP pick1 2 rfl,fun j z hj=>by rw [Nat.zero_add];exact hw.cellP pick0 j (by rw [List.getElem?_toArray];exact hj)⟩
 have HGf:=uQ hGf
 have hG:=hGf _ _ h5
 clear hGf
 refine rP 0 ?_ (y:=mvQ)
 refine rP 1 ?_ (y:=nlQ)
 refine rP 2 ?_ (y:=flQ)
 refine rt 3 (h:=?_)
 refine rg_take 4 evD kRz i3z (tk_loadN (b:=b3) (o:=0) (bys k) rFz Tryz.underlying31 rfl (by rw [Hks.out];kernel_rfl) (fun w hw=>hw.2)) aQ gQ ?_
 clear hG
 refine rP 5 ?_ (y:=(yl_build2 evD evD (fun w=>run_buildDel k Hk.out w)))
 refine rg_eff2 6 10 evD evD kRz (fun K hK=>?_) (fun K hK=>?_)
 ·(refine eff_call2 kRz evD evD ?_)
  refine (hap.out _ _ (Ro.os HH.out) (h5.sb:Sat w0 _ (LogRep p m L::MedRep m M::pt b3 (.cells (bys k).toArray 31 (0,0))::rpPt r m seg p ps pn d::TabML pn mp B::F))).mono ?_
  rintro ee w6 ⟨v,rfl,rfl,h6⟩
  refine hK _ _ (.inl rfl) ?_
  clear hK hap h5
  refine rP 7 ?_ (y:=mvQ)
  refine rP 8 ?_ (y:=(yl_extract evD rnD))
  refine rP 9 ?_ (y:=(yl_extract evD rnD))
  refine rg_eff 10 evD kRz (fun K hK=>?_)
  refine eff_alloc (zValL) h6 rfl ?_
  intro b7 w7 h7
  refine hK _ _ (.inr (.inl (HGf.out _ _ (h7.sb:Sat w0 w7 (pt b3 (.cells (bys k).toArray 31 (0,0))::rpPt r m seg p ps pn d::TabML pn mp B::pt b7 (.cells (penc Seg.Plc.zero).toArray 87 (0,0))::LogRep p m L2::MedRep m M2::F))))) ?_
  clear hK h6
  have h8:Sat w0 w7 (pt b7 (.cells (penc Seg.Plc.zero).toArray 87 (0,0))::pt b3 (.cells (bys k).toArray 31 (0,0))::rpPt r m seg p ps pn d::TabML pn mp B::LogRep p m L2::MedRep m M2::F):=h7.sb
  clear h7
  refine rg_eff 11 evD kRz (fun K hK=>?_)
  refine eff_store (cs':=(penc pc).toArray) h8 evD evD rFz upd0 nLz kRz rFz ?_
  intro w9 h9
  refine hK _ _ (.inl rfl) ?_
  clear hK h8
  refine rP 12 ?_ (y:=asQ)
  refine wpL_done kRz ?_
  go_wp2_with fail
  go_ret
  exact ⟨_,rfl,rfl,h9.sb⟩
 ·refine eff_alloc (zValL) h5 rfl ?_
  intro b7 w6 h6
  refine hK _ _ (.inr (.inl (HGf.out _ _ (h6.sb:Sat w0 w6 (pt b3 (.cells (bys k).toArray 31 (0,0))::rpPt r m seg p ps pn d::pt b7 (.cells (penc Seg.Plc.zero).toArray 87 (0,0))::TabML pn mp B::LogRep p m L::MedRep m M::F))))) ?_
  clear hK h5
  refine rg_eff 6 evD kRz (fun K hK=>?_)
  (refine eff_call2 kRz evD evD ?_)
  refine (hap.out _ _ (Ro.os HH.out) (h6.sb:Sat w0 _ (LogRep p m L::MedRep m M::pt b7 (.cells (penc Seg.Plc.zero).toArray 87 (0,0))::pt b3 (.cells (bys k).toArray 31 (0,0))::rpPt r m seg p ps pn d::TabML pn mp B::F))).mono ?_
  rintro ee w7 ⟨v,rfl,rfl,h7⟩
  refine hK _ _ (.inl rfl) ?_
  clear hK hap h6
  refine rP 7 ?_ (y:=mvQ)
  refine rP 8 ?_ (y:=(yl_extract evD rnD))
  refine rP 9 ?_ (y:=(yl_extract evD rnD))
  have h8:Sat w0 w7 (pt b7 (.cells (penc Seg.Plc.zero).toArray 87 (0,0))::pt b3 (.cells (bys k).toArray 31 (0,0))::rpPt r m seg p ps pn d::TabML pn mp B::LogRep p m L2::MedRep m M2::F):=h7.sb
  clear h7
  refine rg_eff 11 evD kRz (fun K hK=>?_)
  refine eff_store (cs':=(penc pc).toArray) h8 evD evD rFz upd0 nLz kRz rFz ?_
  intro w9 h9
  refine hK _ _ (.inl rfl) ?_
  clear hK h8
  refine rP 12 ?_ (y:=asQ)
  refine wpL_done kRz ?_
  go_wp2_with fail
  go_ret
  exact ⟨_,rfl,rfl,h9.sb⟩
set_option maxRecDepth 20000 in
theorem rpdelY_c (hB:B≤134217000) (hk:k.length=32) (pl:Seg.Plc) (hm:mp k=some pl) (hL:L.Ok) (hM:M.Ok K) (hKK:K+4≤1099511627776) (hH:Ro w0 F Half) (h0:(L.append M ⟨1,k,[]⟩).2.2=0) (h:Sat w0 w (rpPt r m seg p ps pn d::TabML pn mp B::LogRep p m L::MedRep m M::F)) :
  Calls Tryz.prog 36 #[ptr r,.agg (bys k).toArray] w (Rtn fun v w'=>v=errno 0∧Sat w0 w' (rpPt r m seg p ps pn true::TabML pn (Tab.del mp k) B::LogRep p m (L.append M ⟨1,k,[]⟩).1.1::MedRep m (L.append M ⟨1,k,[]⟩).1.2::F)):=by
 have Hk:=uQ hk;have Hks:=uQ (show (bys k).length=32 by rw [bys_len,hk]);have HB:=uQ hB
 have HX:=uQ (fun (w':World) (R:List HProp) (hw:Sat w0 w' (rpPt r m seg p ps pn d::TabML pn mp B::R))=>rphas_c (Nat.le_trans hB dCz) hk hw)
 rw [hm,Option.isSome_some]at HX
 have hap:=uQ (fun (w':World) (R:List HProp) (hh:Ro w0 R Half) (hw:Sat w0 w' (LogRep p m L::MedRep m M::R))=>lappend_c ⟨1,k,[]⟩ hk none 0 (fun w _=>rdsl_nil 1 0 w) hh (Nat.zero_le _) hL hM hKK hw)
 generalize L.append M ⟨1,k,[]⟩=q at *
 obtain ⟨⟨L2,M2⟩,pc,e2⟩:=q
 dsimp only at h0 hap ⊢
 have HH:=uQ hH
 subst h0
 clear hk hB hm hL hM hKK hH
 go_enter Tryz.func36,Tryz.ntmps36
 go_wp2_with (with_reducible apply at_box)
 refine ⟨wl_box h evD evD ?_⟩
 intro b3 w3 h3
 have h4:Sat w0 w3 (rpPt r m seg p ps pn d::TabML pn mp B::pt b3 (.cells (bys k).toArray 31 (0,0))::LogRep p m L::MedRep m M::F):=h3.sb
 clear h h3
 go_wp2_with fail
 refine (rokY_c h4).mono ?_
 rintro ee w5 ⟨v,rfl,rfl,rfl⟩
 go_wp2_with ((with_reducible refine at_load ⟨?_⟩);refine wl_loadA h4 rFz pick2 Tryz.underlying31 rfl (by rw [List.size_toArray,Hks.out];kernel_rfl) ?_)
 refine (HX.out _ _ h4).mono ?_
 rintro ee w6 ⟨v,rfl,rfl,h6⟩
 clear h4
 go_wp2_with fail
 have h5:Sat w0 _ (pt b3 (.cells (bys k).toArray 31 (0,0))::rpPt r m seg p ps pn d::TabML pn mp B::LogRep p m L::MedRep m M::F):=(h6.drew).sb
 clear h6
 refine wpL_begin [6,7,8,9,11,12] (fun w'=>w'.cell? ⟨r,2,none⟩=some (.pointer (some ⟨p,0,none⟩))∧w'.rangeAt b3 0 (bys k)) kRz ?_
 have hGf:∀ (w':World) (R:List HProp),Sat w0 w' (pt b3 (.cells (bys k).toArray 31 (0,0))::rpPt r m seg p ps pn d::R)→w'.cell? ⟨r,2,none⟩=some (.pointer (some ⟨p,0,none⟩))∧w'.rangeAt b3 0 (bys k):=fun w' R hw=>⟨hw.cellP pick1 2 rfl,fun j z hj=>by rw [Nat.zero_add];exact hw.cellP pick0 j (by rw [List.getElem?_toArray];exact hj)⟩
 have HGf:=uQ hGf
 have hG:=hGf _ _ h5
 clear hGf
 refine rP 0 ?_ (y:=mvQ)
 refine rP 1 ?_ (y:=nlQ)
 refine rP 2 ?_ (y:=flQ)
 refine rt 3 (h:=?_)
 refine rg_take 4 evD kRz i3z (tk_loadN (b:=b3) (o:=0) (bys k) rFz Tryz.underlying31 rfl (by rw [Hks.out];kernel_rfl) (fun w hw=>hw.2)) aQ gQ ?_
 clear hG
 refine rP 5 ?_ (y:=(yl_build2 evD evD (fun w=>run_buildDel k Hk.out w)))
 refine rg_eff2 6 10 evD evD kRz (fun K hK=>?_) (fun K hK=>?_)
 ·(refine eff_call2 kRz evD evD ?_)
  refine (hap.out _ _ (Ro.os HH.out) (h5.sb:Sat w0 _ (LogRep p m L::MedRep m M::pt b3 (.cells (bys k).toArray 31 (0,0))::rpPt r m seg p ps pn d::TabML pn mp B::F))).mono ?_
  rintro ee w6 ⟨v,rfl,rfl,h6⟩
  refine hK _ _ (.inl rfl) ?_
  clear hK hap h5
  refine rP 7 ?_ (y:=mvQ)
  refine rP 8 ?_ (y:=(yl_extract evD rnD))
  refine rP 9 ?_ (y:=(yl_extract evD rnD))
  refine rg_eff 10 evD kRz (fun K hK=>?_)
  refine eff_alloc (zValL) h6 rfl ?_
  intro b7 w7 h7
  refine hK _ _ (.inr (.inl (HGf.out _ _ (h7.sb:Sat w0 w7 (pt b3 (.cells (bys k).toArray 31 (0,0))::rpPt r m seg p ps pn d::TabML pn mp B::pt b7 (.cells (penc Seg.Plc.zero).toArray 87 (0,0))::LogRep p m L2::MedRep m M2::F))))) ?_
  clear hK h6
  have h8:Sat w0 w7 (pt b7 (.cells (penc Seg.Plc.zero).toArray 87 (0,0))::pt b3 (.cells (bys k).toArray 31 (0,0))::rpPt r m seg p ps pn d::TabML pn mp B::LogRep p m L2::MedRep m M2::F):=h7.sb
  clear h7
  refine rg_eff 11 evD kRz (fun K hK=>?_)
  refine eff_store (cs':=(penc pc).toArray) h8 evD evD rFz upd0 nLz kRz rFz ?_
  intro w9 h9
  refine hK _ _ (.inl rfl) ?_
  clear hK h8
  refine rP 12 ?_ (y:=asQ)
  refine wpL_done kRz ?_
  go_wp2_with fail
  have h10:Sat w0 _ (pt b3 (.cells (bys k).toArray 31 (0,0))::rpPt r m seg p ps pn d::TabML pn mp B::pt b7 (.cells (penc pc).toArray 87 (0,0))::LogRep p m L2::MedRep m M2::F):=(h9.drew).sb
  clear h9 HGf
  refine wpL_begin [5] (fun w'=>w'.cell? ⟨r,4,none⟩=some (.pointer (some ⟨pn,0,none⟩))∧w'.rangeAt b3 0 (bys k)) kRz ?_
  have hG:World.cell? _ ⟨r,4,none⟩=some (.pointer (some ⟨pn,0,none⟩))∧World.rangeAt _ b3 0 (bys k):=⟨h10.cellP pick1 4 rfl,fun j z hj=>by rw [Nat.zero_add];exact h10.cellP pick0 j (by rw [List.getElem?_toArray];exact hj)⟩
  refine rP 0 ?_ (y:=mvQ)
  refine rP 1 ?_ (y:=nlQ)
  refine rP 2 ?_ (y:=flQ)
  refine rt 3 (h:=?_)
  refine rg_take 4 evD kRz i3z (tk_loadN (b:=b3) (o:=0) (bys k) rFz Tryz.underlying31 rfl (by rw [Hks.out];kernel_rfl) (fun w hw=>hw.2)) aQ gQ ?_
  clear hG
  refine rg_eff 5 evD kRz (fun K hK=>?_)
  (refine eff_call2 kRz evD evD ?_)
  refine (delL_c HB.out Hk.out (h10.sb:Sat w0 _ (TabML pn mp B::pt b3 (.cells (bys k).toArray 31 (0,0))::rpPt r m seg p ps pn d::pt b7 (.cells (penc pc).toArray 87 (0,0))::LogRep p m L2::MedRep m M2::F))).mono ?_
  rintro ee w11 ⟨v,rfl,rfl,h11⟩
  refine hK _ _ (.inl rfl) ?_
  clear hK h10
  refine wpL_done kRz ?_
  go_wp2_with (with_reducible apply at_store)
  refine ⟨wl_store (cs':=#[ptr m,.int .i64 seg,ptr p,ptr ps,ptr pn,.bool true]) (h11.sb:Sat w0 w11 (rpPt r m seg p ps pn d::TabML pn (Tab.del mp k) B::pt b3 (.cells (bys k).toArray 31 (0,0))::pt b7 (.cells (penc pc).toArray 87 (0,0))::LogRep p m L2::MedRep m M2::F)) rFz rFz rFz upd0 nLz kRz rFz ?_⟩
  intro w12 h12
  go_wp2_with fail
  go_ret
  exact ⟨_,rfl,rfl,h12.sb⟩
 ·refine eff_alloc (zValL) h5 rfl ?_
  intro b7 w6 h6
  refine hK _ _ (.inr (.inl (HGf.out _ _ (h6.sb:Sat w0 w6 (pt b3 (.cells (bys k).toArray 31 (0,0))::rpPt r m seg p ps pn d::pt b7 (.cells (penc Seg.Plc.zero).toArray 87 (0,0))::TabML pn mp B::LogRep p m L::MedRep m M::F))))) ?_
  clear hK h5
  refine rg_eff 6 evD kRz (fun K hK=>?_)
  (refine eff_call2 kRz evD evD ?_)
  refine (hap.out _ _ (Ro.os HH.out) (h6.sb:Sat w0 _ (LogRep p m L::MedRep m M::pt b7 (.cells (penc Seg.Plc.zero).toArray 87 (0,0))::pt b3 (.cells (bys k).toArray 31 (0,0))::rpPt r m seg p ps pn d::TabML pn mp B::F))).mono ?_
  rintro ee w7 ⟨v,rfl,rfl,h7⟩
  refine hK _ _ (.inl rfl) ?_
  clear hK hap h6
  refine rP 7 ?_ (y:=mvQ)
  refine rP 8 ?_ (y:=(yl_extract evD rnD))
  refine rP 9 ?_ (y:=(yl_extract evD rnD))
  have h8:Sat w0 w7 (pt b7 (.cells (penc Seg.Plc.zero).toArray 87 (0,0))::pt b3 (.cells (bys k).toArray 31 (0,0))::rpPt r m seg p ps pn d::TabML pn mp B::LogRep p m L2::MedRep m M2::F):=h7.sb
  clear h7
  refine rg_eff 11 evD kRz (fun K hK=>?_)
  refine eff_store (cs':=(penc pc).toArray) h8 evD evD rFz upd0 nLz kRz rFz ?_
  intro w9 h9
  refine hK _ _ (.inl rfl) ?_
  clear hK h8
  refine rP 12 ?_ (y:=asQ)
  refine wpL_done kRz ?_
  go_wp2_with fail
  have h10:Sat w0 _ (pt b3 (.cells (bys k).toArray 31 (0,0))::rpPt r m seg p ps pn d::TabML pn mp B::pt b7 (.cells (penc pc).toArray 87 (0,0))::LogRep p m L2::MedRep m M2::F):=(h9.drew).sb
  clear h9 HGf
  refine wpL_begin [5] (fun w'=>w'.cell? ⟨r,4,none⟩=some (.pointer (some ⟨pn,0,none⟩))∧w'.rangeAt b3 0 (bys k)) kRz ?_
  have hG:World.cell? _ ⟨r,4,none⟩=some (.pointer (some ⟨pn,0,none⟩))∧World.rangeAt _ b3 0 (bys k):=⟨h10.cellP pick1 4 rfl,fun j z hj=>by rw [Nat.zero_add];exact h10.cellP pick0 j (by rw [List.getElem?_toArray];exact hj)⟩
  refine rP 0 ?_ (y:=mvQ)
  refine rP 1 ?_ (y:=nlQ)
  refine rP 2 ?_ (y:=flQ)
  refine rt 3 (h:=?_)
  refine rg_take 4 evD kRz i3z (tk_loadN (b:=b3) (o:=0) (bys k) rFz Tryz.underlying31 rfl (by rw [Hks.out];kernel_rfl) (fun w hw=>hw.2)) aQ gQ ?_
  clear hG
  refine rg_eff 5 evD kRz (fun K hK=>?_)
  (refine eff_call2 kRz evD evD ?_)
  refine (delL_c HB.out Hk.out (h10.sb:Sat w0 _ (TabML pn mp B::pt b3 (.cells (bys k).toArray 31 (0,0))::rpPt r m seg p ps pn d::pt b7 (.cells (penc pc).toArray 87 (0,0))::LogRep p m L2::MedRep m M2::F))).mono ?_
  rintro ee w11 ⟨v,rfl,rfl,h11⟩
  refine hK _ _ (.inl rfl) ?_
  clear hK h10
  refine wpL_done kRz ?_
  go_wp2_with (with_reducible apply at_store)
  refine ⟨wl_store (cs':=#[ptr m,.int .i64 seg,ptr p,ptr ps,ptr pn,.bool true]) (h11.sb:Sat w0 w11 (rpPt r m seg p ps pn d::TabML pn (Tab.del mp k) B::pt b3 (.cells (bys k).toArray 31 (0,0))::pt b7 (.cells (penc pc).toArray 87 (0,0))::LogRep p m L2::MedRep m M2::F)) rFz rFz rFz upd0 nLz kRz rFz ?_⟩
  intro w12 h12
  go_wp2_with fail
  go_ret
  exact ⟨_,rfl,rfl,h12.sb⟩
end
def abL (x:Frm.Bs×Seg.Plc):Array Value:=#[.agg (bys x.1).toArray,.agg (penc x.2).toArray]
section
variable {w0 w:World}{F:List HProp}{p B:Nat}{m:Frm.Bs→Option (Seg.Plc)}
theorem allL_c (h:Sat w0 w F):Calls Tryz.prog 148 #[ptr p] w
  (Rtn fun v w'=>∃ b,v = .func (.func 177) #[] #[ptr b]∧Sat w0 w' (pt b (.cells #[ptr p] 57 (0,0))::F)):=by
 go_enter Tryz.func148,Tryz.ntmps148
 go_wp2_with (first|((with_reducible refine at_box ⟨?_⟩);refine wl_box aQ evD evD ?_;intro bB wB hB)|(with_reducible apply at_alloc))
 go_ret
 exact ⟨_,rfl,bB,rfl,hB⟩
set_option maxRecDepth 20000 in
theorem allL1_c {b:Nat}{l:List (Frm.Bs×Seg.Plc)} (hB:B≤13000000) (hl:Tab.Lists m l) :
  Iter Tryz.prog 177 #[ptr b] (l.map abL) w0 [TabML p m B,pt b (.cells #[ptr p] 57 (0,0))] [TabML p m B,pt b (.cells #[ptr p] 57 (0,0))]:=by
 intro ly R hY W hW
 have Hl:=uQ hl
 have hW0:Sat w0 W (TabML p m B::pt b (.cells #[ptr p] 57 (0,0))::R []):=hW
 clear hW hl
 show Calls Tryz.prog 177 #[.func (.yield ly) #[] #[],ptr b] W _
 go_enter Tryz.func177,Tryz.ntmps177
 have hr:=risingL_c hB hW0
 go_wp2_with ((with_reducible refine at_load ⟨?_⟩);refine wl_load1 hW0 rFz pkD nLz evD kRz ?_)
 clear hW0
 refine hr.mono ?_
 rintro ee w1 ⟨sv,rfl,s,⟨hs1,hs2,hs3⟩,hS1⟩
 clear hr
 have e0:l=s.map fun x=>(x.key,x.val):=Hl.out.unique hs1
 clear hs1 Hl
 subst e0
 have Hs2:=uQ hs2;have Hs3:=uQ hs3
 have Hlen:=uQ (show ∀ x∈s,(slotL penc x).length=36 from fun x hx=>slotL_len penc x (hs2 x hx).2 3 (penc_len _))
 obtain ⟨la,lc,rfl⟩:=osl_rows Hlen.out (Sat.rd hS1) dCz
 have hsb:s.length≤13000000:=Nat.le_trans hs3 hB
 clear hs2 hs3 hB
 go_wp2_with fail
 go_loopg [8] s.length (fun g iq wr=>∃ (i:Nat),g=s.length - i∧i≤s.length∧iq = .int .i64 i ∧
  Sat w0 wr (osl 131 36 (.slice la s.length lc) (s.flatMap (slotL penc))::TabML p m B::pt b (.cells #[ptr p] 57 (0,0))::R (((s.take i).map fun x=>(x.key,x.val)).map abL)))
 case atStart=>exact ⟨0,rfl,Nat.zero_le _,rfl,hS1⟩
 case round=>
  obtain ⟨i,rfl,hi,rfl,hS⟩:=hrel
  clear hS1
  by_cases hlt:i<s.length
  rotate_left
  ·obtain rfl:i=s.length:=by omega
   have c1:¬ (s.length:Int)<(s.length:Int):=oQ
   rw [List.take_length]at hS
   clear hlt hi
   go_wp2_with fail
   go_end0
   exact ⟨_,rfl,by rw [← List.map_map];exact hS.drop⟩
  have c1:(i:Int)<(s.length:Int):=oQ
  have hwi:=iwQ (i:=i)
  obtain ⟨x,hx⟩:∃ x,s[i]?=some x:=⟨_,List.getElem?_eq_getElem hlt⟩
  have hxm:=List.mem_of_getElem? hx
  have Hxk:=uQ (Hs2.out x hxm).2
  obtain ⟨bk,off,c',hsv,hcell⟩:=osl_row Hlen.out (Sat.rd (hS.pick pick0)) hx dCz
  cases hsv
  have hl36:=Hlen.out x hxm
  have Htk:=uQ (show s.take (i+1)=s.take i++[x] by rw [List.take_add_one,hx,Option.toList_some])
  have Hlt:=uQ hlt
  have Hspl:=uQ (show (s.map fun x=>(x.key,x.val)).map abL=((s.take i).map fun x=>(x.key,x.val)).map abL++abL (x.key,x.val)::((s.drop (i+1)).map fun x=>(x.key,x.val)).map abL by
   have e:s=s.take i++x::s.drop (i+1):=by
    obtain ⟨h1,rfl⟩:=List.getElem?_eq_some_iff.1 hx
    rw [← List.drop_eq_getElem_cons h1,List.take_append_drop]
   conv=>lhs;rw [e]
   simp only [List.map_append,List.map_cons])
  clear hx hxm hlt hi
  go_wp2_with (first
   |((with_reducible refine at_load ⟨?_⟩);refine wl_loadW (b:=bk) (o:=off+i * 36) (slotL penc x) rFz hcell Tryz.underlying131 rfl (by rw [hl36];kernel_rfl) ?_)
   |(with_reducible apply at_alloc))
  refine ⟨wl_alloc zSlotL hS rfl ?_⟩
  intro b7 w7 hS7
  go_wp2_with ((with_reducible apply at_store))
  refine ⟨wl_storeA (slotL penc x).toArray hS7 rFz rFz (by rw [List.size_toArray,hl36];rfl) upd0 (by rw [List.size_toArray,hl36];kernel_rfl) (by rw [List.toList_toArray];exact slotL_ones penc x (penc_ones _)) ?_⟩
  intro w10 hS10
  clear hS hS7 hcell
  have f1:w10.rangeAt b7 1 (bys x.key):=slot_key (hS10.pick pick0)
  have f2:w10.rangeAt b7 33 (penc x.val):=slot_val Hxk.out (hS10.pick pick0)
  have e1:=Tryz.underlying31
  have hS11:Sat w0 w10 (R (((s.take i).map fun x=>(x.key,x.val)).map abL)++[osl 131 36 (.slice (some ⟨bk,off,none⟩) s.length lc) (s.flatMap (slotL penc)),TabML p m B,pt b (.cells #[ptr p] 57 (0,0))]):=
   (hS10.drop:Sat w0 w10 ([osl 131 36 (.slice (some ⟨bk,off,none⟩) s.length lc) (s.flatMap (slotL penc)),TabML p m B,pt b (.cells #[ptr p] 57 (0,0))]++R (((s.take i).map fun x=>(x.key,x.val)).map abL))).appc
  obtain ⟨yf,yt,ya,yb,hy,hr⟩:=hY _ _ _ w10 _ Hspl.out hS11
  clear hS11 hS10 hY
  go_step
  go_step
  go_step
  refine region_yield6 rFz ?_
  intro K hK
  go_wp2_with (first
   |((with_reducible refine at_load ⟨?_⟩);refine wl_loadW (b:=b7) (o:=1) (bys x.key) rFz f1 e1 rfl (by rw [bys_len,Hxk.out];kernel_rfl) ?_)
   |((with_reducible refine at_load ⟨?_⟩);refine wl_loadW (b:=b7) (o:=33) (penc x.val) rFz f2 Tryz.underlying87 rfl kRz ?_))
  refine ⟨_,yf,yt,ya,yb,hy,hr.mono ?_⟩
  rintro ee w12 ⟨rfl,hS12⟩
  refine ⟨_,rfl,?_⟩
  have hS13:Sat w0 w12 (osl 131 36 (.slice (some ⟨bk,off,none⟩) s.length lc) (s.flatMap (slotL penc))::TabML p m B::pt b (.cells #[ptr p] 57 (0,0))::R (((s.take (i+1)).map fun x=>(x.key,x.val)).map abL)):=by
   have:=hS12.appc
   rw [Htk.out,List.map_append,List.map_append]
   exact this
  clear hS12 hr hy f1 f2
  go_wp2_with fail
  go_roundg (s.length - (i+1))
  case measure=>have:=Hlt.out;omega
  case rel=>exact ⟨i+1,rfl,Hlt.out,by first|rfl|go_num,hS13⟩
end
def msl (T sz:Nat) (v:Value) (xs:List Value):HProp:=fun h=>
 ∃ b n cap cs m,v = .slice (some ⟨b,0,none⟩) n cap∧xs.length=n * sz∧n≤cap∧cap * sz≤cs.size∧cap≤maxLen∧cs.toList.take (n * sz)=xs∧cs.size≤m∧pt b (.cells cs T (m,m+1)) h
def asl (T sz:Nat) (v:Value) (xs:List Value):HProp:=fun h=>osl T sz v xs h∨msl T sz v xs h
abbrev abl (v:Value) (l:Frm.Bs):HProp:=asl 5 1 v (bys l)
section
variable {P:Program}{w0 w:World}{R:List HProp}{T sz b:Nat}{v x:Value}{xs ys:List Value}{fr:Nat×Nat}
theorem cellAtF {cs:Array Value}{T:TypeId} (h:Sat w0 w (pt b (.cells cs T fr)::R)) (i:Nat) (v:Value) (hv:cs[i]?=some v):w.cell? ⟨b,i,none⟩=some v:=by
 have:=h.at
 simp [World.cell?,this,hv]
theorem freeAtM {cs:Array Value}{T:TypeId}{m:Nat} (h:Sat w0 w (pt b (.cells cs T (m,m+1))::R)) (i:Nat) (hi:i<m):w.frozen? ⟨b,i,none⟩=false:=by
 have:=h.at
 simp [World.frozen?,this]
 omega
theorem setF {cs:Array Value}{T:TypeId} (h:Sat w0 w (pt b (.cells cs T fr)::R)) (i:Nat) (v:Value):Sat w0 (w.setCell ⟨b,i,none⟩ v) (pt b (.cells (cs.setIfInBounds i v) T fr)::R):=by
 have hb:=h.at
 have hlt:=h.lt
 refine h.turn rfl rfl rfl (by simp) ?_ ?_
 ·simp only [World.setCell,Array.getElem?_modify,if_true,hb]
  simp
 ·intro j hj _
  simp only [World.setCell,Array.getElem?_modify]
  rw [if_neg (Ne.symm hj)]
theorem setsF:∀ (vs:List Value){cs:Array Value}{T:TypeId}{w:World} (o:Nat),Sat w0 w (pt b (.cells cs T fr)::R)→Sat w0 (w.setCells b o vs) (pt b (.cells (putsAt cs o vs) T fr)::R)
 |[],_,_,_,_,h=>h
 |v::r,_,_,_,o,h=>setsF r (o+1) (setF h o v)
theorem asl_cases (h:Sat w0 w (asl T sz v xs::R)):Sat w0 w (osl T sz v xs::R)∨∃ b n cap cs m,v = .slice (some ⟨b,0,none⟩) n cap∧xs.length=n * sz∧n≤cap∧cap * sz≤cs.size∧cap≤maxLen∧cs.toList.take (n * sz)=xs∧cs.size≤m∧Sat w0 w (pt b (.cells cs T (m,m+1))::R):=by
 obtain ⟨ha,x,hx,p,q,d,rfl,hp,hq⟩:=h
 rcases hp with hp|⟨b,n,cap,cs,m,h1,h2,h3,h4,h5,h6,h7,h8⟩
 ·exact .inl ⟨ha,_,hx,p,q,d,rfl,hp,hq⟩
 ·exact .inr ⟨b,n,cap,cs,m,h1,h2,h3,h4,h5,h6,h7,ha,_,hx,p,q,d,rfl,h8,hq⟩
theorem asl_of_osl (h:Sat w0 w (osl T sz v xs::R)):Sat w0 w (asl T sz v xs::R):=h.head fun _ hx=> .inl hx
theorem asl_of_pt {n cap m:Nat}{cs:Array Value} (h:Sat w0 w (pt b (.cells cs T (m,m+1))::R)) (h2:xs.length=n * sz) (h3:n≤cap) (h4:cap * sz≤cs.size) (h5:cap≤maxLen) (h6:cs.toList.take (n * sz)=xs) (h7:cs.size≤m):Sat w0 w (asl T sz (.slice (some ⟨b,0,none⟩) n cap) xs::R):=
 h.head fun _ hx=> .inr ⟨b,n,cap,cs,m,rfl,h2,h3,h4,h5,h6,h7,hx⟩
theorem asl_rd (h:Sat w0 w (asl T sz v xs::R)):rdsl sz v xs w:=by
 rcases asl_cases h with h|⟨b,n,cap,cs,m,rfl,hl,hn,hc,hcm,htk,hm,hp⟩
 ·exact Sat.rd h
 ·exact ⟨_,n,cap,rfl,hl,fun j y hj=>⟨_,rfl,by rw [add_zero_lit];exact cellAtF hp j y (take_get htk hj)⟩⟩
theorem asl_text (h:Sat w0 w R) (e:TypeId) (s:ByteArray) (l:Frm.Bs) (hs:s.data.toList=l) (hl:l.length≤1073741824):Sat w0 (Lib.bytesWorld w e s) (asl e 1 (.slice (some ⟨w.heap.size,0,none⟩) s.size (grownCap w s.size 0 e)) (bys l)::R):=by
 have h1:=(h.drew).alloc (.cells (Lib.bytesCells w e s) e)
 have hsz:s.size=l.length:=by rw [← hs];exact Array.length_toList.symm
 have hge:=grownCap_ge w s.size 0 e
 have hcm:=grownCap_le_maxLen w s.size 0 e (by have:maxLen=9223372036854775807:=rfl;omega)
 have hcs:(Lib.bytesCells w e s).size=grownCap w s.size 0 e:=by
  unfold Lib.bytesCells
  rw [Array.size_append,Array.size_map,Array.size_replicate]
  have:s.data.size=s.size:=rfl
  omega
 have h2:Sat w0 (Lib.bytesWorld w e s) (pt w.heap.size (.cells (Lib.bytesCells w e s) e ((Lib.bytesCells w e s).size,(Lib.bytesCells w e s).size+1))::R):=by
  refine h1.turn (w':=Lib.bytesWorld w e s) rfl rfl rfl ?_ (Lib.bytesWorld_at_new w e s) (fun j hj _=>?_)
  ·rw [Lib.bytesWorld_size];exact Nat.le_of_eq (Array.size_push ..)
  ·unfold Lib.bytesWorld World.freeze
   rw [if_neg dCz]
   show (Array.modify _ _ _)[j]?=_
   rw [Array.getElem?_modify]
   exact if_neg (fun e=>hj e.symm)
 refine asl_of_pt h2 ?_ hge (by rw [Nat.mul_one,hcs];exact Nat.le_refl _) hcm ?_ (Nat.le_refl _)
 ·rw [bys_len,hsz,Nat.mul_one]
 ·unfold Lib.bytesCells
  rw [Array.toList_append,Nat.mul_one,List.take_append_of_le_length (by rw [Array.length_toList,Array.size_map];exact Nat.le_refl _),List.take_of_length_le (by rw [Array.length_toList,Array.size_map];exact Nat.le_refl _),Array.toList_map,hs]
  rfl
theorem run_appendA (t ty e:TypeId) (i:TypeInfo) (z:Value) (ht:P.underlying t=some (.slice e)) (hi:P.info? e=some i) (hz:i.zero=some z)
  (hs:i.size=sz) (hzs:z.cells.size=sz) (hsz:0<sz) (h1:∀ u∈ys,u.oneCell'=true) (hy0:ys≠[])
  (h:Sat w0 w (asl e sz v xs::R)) (hx:rdsl sz x ys w) (h63:xs.length+ys.length≤maxLen) (hby:(xs.length+ys.length) * i.bytes≤140737488355328) :
  ∃ v' w',(Builtin.append_ #[t,t] ty #[v,x]).run P w = .ok v' w'∧Sat w0 w' (asl e sz v' (xs++ys)::R):=by
 rcases asl_cases h with h|⟨b,n,cap,cs,mk,rfl,hl,hn,hc,hcm,htk,hmk,hp⟩
 ·obtain ⟨v',w',hr,hS,_⟩:=run_append (P:=P) t ty e i z ht hi hz hs hzs hsz h1 h hx h63 hby
  exact ⟨v',w',hr,asl_of_osl hS⟩
 ·subst hs
  obtain ⟨xa,m,c,rfl,hyl,hyc⟩:=hx
  have hle:∀ {p q:Nat},p=q * i.size→q≤p:=fun {p q} e=>by rw [e];exact Nat.le_mul_of_pos_right _ hsz
  have hm:=hle hyl
  obtain ⟨ad,rfl⟩:∃ ad,xa=some ad:=by
   obtain ⟨y,hy⟩:∃ y,ys[0]?=some y:=by
    cases ys with
    |nil=>exact absurd rfl hy0
    |cons y _=>exact ⟨y,rfl⟩
   obtain ⟨b,hb,_⟩:=hyc 0 y hy
   exact ⟨b,hb⟩
  have hnews:∀ j u,ys[j]?=some u→w.cell? (ad.add j)=some u:=fun j u hj=>by
   obtain ⟨b,hb,hx⟩:=hyc j u hj
   cases hb;exact hx
  have hnx:=hle hl
  have h63':maxLen=9223372036854775807:=rfl
  by_cases hroom:n+m≤cap
  ·have hfit:n * i.size+ys.length≤cs.size:=by
    rw [hyl,← Nat.add_mul];exact Nat.le_trans (Nat.mul_le_mul_right _ hroom) hc
   have hr:=run_append_room_cells (P:=P) w t ty e i ht hi b 0 n cap ad m c ys hyl hnews h1 hroom
    (fun j hj=>by rw [Nat.zero_add,cellAtF hp (n * i.size+j) _ (Array.getElem?_eq_getElem (show n * i.size+j<cs.size by omega))];rfl)
    (fun j hj=>by rw [Nat.zero_add];exact freeAtM hp _ oQ)
   rw [Nat.zero_add]at hr
   refine ⟨_,_,hr,asl_of_pt (setsF ys (n * i.size) hp) ?_ hroom (by rw [putsAt_size];exact hc) hcm ?_ (by rw [putsAt_size];exact hmk)⟩
   ·rw [List.length_append,hl,hyl,Nat.add_mul]
   ·rw [putsAt_list _ _ _ hfit,htk]
    have e1:(n+m) * i.size=(xs++ys).length:=by rw [List.length_append,hl,hyl,Nat.add_mul]
    rw [e1]
    exact List.take_left
  ·have holds:∀ j u,xs[j]?=some u→w.cell? ((⟨b,0,none⟩:Addr).add j)=some u:=fun j u hj=>by
    rw [add_zero_lit];exact cellAtF hp j u (take_get htk hj)
   have hby':(n+m) * i.bytes≤140737488355328:=Nat.le_trans (Nat.mul_le_mul_right _ oQ) hby
   have hr:=run_append_grow (P:=P) w t ty e i z ht hi hz ⟨b,0,none⟩ n cap xs hl holds ad m c ys hyl hnews oQ oQ (growslice_fits oQ hby')
   have hge:=grownCap_ge w (n+m) cap e
   have hcm':=grownCap_le_maxLen w (n+m) cap e oQ
   refine ⟨_,_,hr,asl_of_osl (Sat.osl_of_pt ((hp.drop.drew).alloc (.cells (xs.toArray++ys.toArray++Builtin.zeroCells z.cells (grownCap w (n+m) cap e - (n+m))) e)) ?_ hge ?_ hcm' ?_)⟩
   ·rw [List.length_append,hl,hyl,Nat.add_mul]
   ·simp only [Array.size_append,List.size_toArray,size_zeroCells,hzs]
    rw [hl,hyl,← Nat.add_mul,← Nat.add_mul]
    exact Nat.mul_le_mul_right _ oQ
   ·simp only [Array.toList_append,List.append_assoc]
    rw [← List.append_assoc]
    have e1:(n+m) * i.size=(xs++ys).length:=by rw [List.length_append,hl,hyl,Nat.add_mul]
    rw [e1]
    exact List.take_left
end
end Go.Proofs.YtjbhhbnopnmcnaaGreatDoor
namespace Go.Xx
open Go.Frm (Bs num le num_lt)
def W:Nat:=18446744073709551616
def p1:Nat:=11400714785074694791
def p2:Nat:=14029467366897019727
def p3:Nat:=1609587929392839161
def p4:Nat:=9650029242287828579
def p5:Nat:=2870177450012600261
def turn (x k:Nat):Nat:=(x * 2^k%W) ||| (x / 2^(64 - k))
def lane (a w:Nat):Nat:=turn ((a+w * p2%W)%W) 31 * p1%W
structure Ln where
 a:Nat
 b:Nat
 c:Nat
 d:Nat
def Ln.zero:Ln:=⟨(p1+p2)%W,p2,0,W - p1⟩
def Ln.lt (l:Ln):Prop:=l.a<W∧l.b<W∧l.c<W∧l.d<W
def strip (l:Ln) (b:Bs):Ln:=⟨lane l.a (num (b.take 8)),lane l.b (num ((b.drop 8).take 8)),lane l.c (num ((b.drop 16).take 8)),lane l.d (num ((b.drop 24).take 8))⟩
def goL:Nat→Ln→Bs→Ln×Bs
 |0,l,b=>(l,b)
 |n+1,l,b=>if 32≤b.length then goL n (strip l b) (b.drop 32) else (l,b)
def mix (x a:Nat):Nat:=((x ^^^ lane 0 a) * p1%W+p4)%W
def joined (l:Ln):Nat:=mix (mix (mix (mix ((((turn l.a 1+turn l.b 7)%W+turn l.c 12)%W+turn l.d 18)%W) l.a) l.b) l.c) l.d
def t8 (x w:Nat):Nat:=(turn (x ^^^ lane 0 w) 27 * p1%W+p4)%W
def t4 (x w:Nat):Nat:=(turn (x ^^^ (w * p1%W)) 23 * p2%W+p3)%W
def t1 (x:Nat) (c:UInt8):Nat:=turn (x ^^^ (c.toNat * p5%W)) 11 * p1%W
def tail8:Nat→Nat→Bs→Nat×Bs
 |0,x,b=>(x,b)
 |n+1,x,b=>if 8≤b.length then tail8 n (t8 x (num (b.take 8))) (b.drop 8) else (x,b)
def tail4 (x:Nat) (b:Bs):Nat×Bs:=if 4≤b.length then (t4 x (num (b.take 4)),b.drop 4) else (x,b)
def tail (x:Nat) (b:Bs):Nat:=(tail4 (tail8 b.length x b).1 (tail8 b.length x b).2).2.foldl t1 (tail4 (tail8 b.length x b).1 (tail8 b.length x b).2).1
def f1 (x:Nat):Nat:=(x ^^^ (x / 8589934592)) * p2%W
def f2 (x:Nat):Nat:=(x ^^^ (x / 536870912)) * p3%W
def f3 (x:Nat):Nat:=x ^^^ (x / 4294967296)
def sum (b:Bs):Nat:=f3 (f2 (f1 (tail (((if 32≤b.length then joined (goL b.length Ln.zero b).1 else p5)+b.length)%W) (goL b.length Ln.zero b).2)))
theorem W_pos:0<W:=by decide
theorem mod_lt (x:Nat):x%W<W:=Nat.mod_lt _ W_pos
theorem W64:W=2^64:=by decide
theorem xor_lt {a b:Nat} (ha:a<W) (hb:b<W):a ^^^ b<W:=by rw [W64]at *;exact Nat.xor_lt_two_pow ha hb
theorem div_lt {x:Nat} (k:Nat) (h:x<W):x / k<W:=Nat.lt_of_le_of_lt (Nat.div_le_self _ _) h
theorem lane_lt (a w:Nat):lane a w<W:=mod_lt _
theorem zero_lt:Ln.zero.lt:=⟨mod_lt _,by decide,by decide,by decide⟩
theorem strip_lt (l:Ln) (b:Bs):(strip l b).lt:=⟨lane_lt _ _,lane_lt _ _,lane_lt _ _,lane_lt _ _⟩
theorem goL_lt:∀ (n:Nat) (l:Ln) (b:Bs),l.lt→(goL n l b).1.lt
 |0,l,b,h=>h
 |n+1,l,b,h=>by
  unfold goL
  split
  ·exact goL_lt n _ _ (strip_lt l b)
  ·exact h
theorem t8_lt (x w:Nat):t8 x w<W:=mod_lt _
theorem t4_lt (x w:Nat):t4 x w<W:=mod_lt _
theorem t1_lt (x:Nat) (c:UInt8):t1 x c<W:=mod_lt _
theorem tail8_lt:∀ (n x:Nat) (b:Bs),x<W→(tail8 n x b).1<W
 |0,x,b,h=>h
 |n+1,x,b,h=>by
  unfold tail8
  split
  ·exact tail8_lt n _ _ (t8_lt _ _)
  ·exact h
theorem tail4_lt (x:Nat) (b:Bs) (h:x<W):(tail4 x b).1<W:=by
 unfold tail4
 split
 ·exact t4_lt _ _
 ·exact h
theorem fold_lt:∀ (b:Bs) (x:Nat),x<W→b.foldl t1 x<W
 |[],x,h=>h
 |c::b,x,h=>fold_lt b _ (t1_lt _ _)
theorem tail_lt (x:Nat) (b:Bs) (h:x<W):tail x b<W:=fold_lt _ _ (tail4_lt _ _ (tail8_lt _ _ _ h))
theorem f2_lt (x:Nat):f2 x<W:=mod_lt _
theorem f3_lt {x:Nat} (h:x<W):f3 x<W:=xor_lt h (div_lt _ h)
theorem sum_lt (b:Bs):sum b<W:=f3_lt (f2_lt _)
theorem goL_len2:∀ (n:Nat) (l:Ln) (b:Bs),(goL n l b).2.length≤b.length
 |0,l,b=>Nat.le_refl _
 |n+1,l,b=>by
  unfold goL
  split
  ·exact Nat.le_trans (goL_len2 n _ _) (by rw [List.length_drop];omega)
  ·exact Nat.le_refl _
theorem goL_step {n:Nat}{l:Ln}{b:Bs} (hb:32≤b.length) (hn:b.length≤n):goL n l b=goL (n - 32) (strip l b) (b.drop 32):=by
 obtain ⟨m,rfl⟩:∃ m,n=m+1:=⟨n - 1,by omega⟩
 have h:goL (m+1) l b=goL m (strip l b) (b.drop 32):=by
  conv=>lhs;unfold goL
  rw [if_pos hb]
 rw [h]
 exact goL_fuel m (m+1 - 32) (strip l b) (b.drop 32) (by rw [List.length_drop];omega) (by rw [List.length_drop];omega)
where
 goL_fuel:∀ (n m:Nat) (l:Ln) (b:Bs),b.length≤n→b.length≤m→goL n l b=goL m l b
 |0,0,l,b,_,_=>rfl
 |0,m+1,l,b,h,_=>by
  have:¬ 32≤b.length:=oQ
  unfold goL;rw [if_neg this]
 |n+1,0,l,b,_,h=>by
  have:¬ 32≤b.length:=oQ
  unfold goL;rw [if_neg this]
 |n+1,m+1,l,b,h1,h2=>by
  unfold goL
  split
  ·exact goL_fuel n m _ _ (by rw [List.length_drop];omega) (by rw [List.length_drop];omega)
  ·rfl
theorem goL_stop {n:Nat}{l:Ln}{b:Bs} (hb:¬ 32≤b.length):goL n l b=(l,b):=by
 cases n with
 |zero=>rfl
 |succ n=>unfold goL;rw [if_neg hb]
theorem tail8_step {n x:Nat}{b:Bs} (hb:8≤b.length) (hn:b.length≤n):tail8 n x b=tail8 (n - 8) (t8 x (num (b.take 8))) (b.drop 8):=by
 obtain ⟨m,rfl⟩:∃ m,n=m+1:=⟨n - 1,by omega⟩
 have h:tail8 (m+1) x b=tail8 m (t8 x (num (b.take 8))) (b.drop 8):=by
  conv=>lhs;unfold tail8
  rw [if_pos hb]
 rw [h]
 exact fuel m (m+1 - 8) _ (b.drop 8) (by rw [List.length_drop];omega) (by rw [List.length_drop];omega)
where
 fuel:∀ (n m x:Nat) (b:Bs),b.length≤n→b.length≤m→tail8 n x b=tail8 m x b
 |0,0,x,b,_,_=>rfl
 |0,m+1,x,b,h,_=>by
  have:¬ 8≤b.length:=oQ
  unfold tail8;rw [if_neg this]
 |n+1,0,x,b,_,h=>by
  have:¬ 8≤b.length:=oQ
  unfold tail8;rw [if_neg this]
 |n+1,m+1,x,b,h1,h2=>by
  unfold tail8
  split
  ·exact fuel n m _ _ (by rw [List.length_drop];omega) (by rw [List.length_drop];omega)
  ·rfl
theorem tail8_stop {n x:Nat}{b:Bs} (hb:¬ 8≤b.length):tail8 n x b=(x,b):=by
 cases n with
 |zero=>rfl
 |succ n=>unfold tail8;rw [if_neg hb]
end Go.Xx
namespace Go.Proofs.YtjbhhbnopnmcnaaGreatDoor
open Go Go.Sl Go.Med Go.MapKept Go.RowKit
section
variable {x y z a n c:Nat}
theorem wrapN (x:Nat):IntKind.u64.wrap (x:Int)=((x%18446744073709551616:Nat):Int):=by rw [IntKind.wrap_u64];rfl
theorem mulN (x c:Nat):IntKind.u64.wrap ((x:Int) * (c:Int))=((x * c%18446744073709551616:Nat):Int):=by rw [← Int.natCast_mul,wrapN]
theorem addN (x c:Nat):IntKind.u64.wrap ((x:Int)+(c:Int))=(((x+c)%18446744073709551616:Nat):Int):=by rw [← Int.natCast_add,wrapN]
theorem orN (x y:Nat) (hx:x<18446744073709551616) (hy:y<18446744073709551616):bits .or .u64 (x:Int) (y:Int)=((x ||| y:Nat):Int):=u64_or_nat x y hx hy
theorem xorN (x y:Nat) (hx:x<18446744073709551616) (hy:y<18446744073709551616):bits .xor .u64 (x:Int) (y:Int)=((x ^^^ y:Nat):Int):=u64_xor_nat x y hx hy
theorem modW (x:Nat):x%18446744073709551616<18446744073709551616:=Nat.mod_lt _ dCz
theorem xorW (hx:x<18446744073709551616) (hy:y<18446744073709551616):x ^^^ y<18446744073709551616:=Xx.xor_lt (show x<Xx.W from hx) (show y<Xx.W from hy)
theorem laneW (a w:Nat):Xx.lane a w<18446744073709551616:=Xx.lane_lt a w
theorem lane_ex (a x:Nat):∃ y z u:Nat,IntKind.u64.wrap ((x:Int) * 14029467366897019727)=(y:Int)∧IntKind.u64.wrap ((a:Int)+(y:Int))=(z:Int)∧z<18446744073709551616∧IntKind.u64.wrap ((Xx.turn z 31:Nat) * (11400714785074694791:Int))=(u:Int)∧Xx.lane a x=u:=
 ⟨x * Xx.p2%18446744073709551616,(a+x * Xx.p2%18446744073709551616)%18446744073709551616,Xx.turn ((a+x * Xx.p2%18446744073709551616)%18446744073709551616) 31 * Xx.p1%18446744073709551616,mulN x Xx.p2,addN _ _,modW _,mulN _ Xx.p1,rfl⟩
theorem mix_ex (hx:x<18446744073709551616) (a:Nat):∃ y z u:Nat,bits .xor .u64 (x:Int) ((Xx.lane 0 a:Nat):Int)=(y:Int)∧IntKind.u64.wrap ((y:Int) * 11400714785074694791)=(z:Int)∧IntKind.u64.wrap ((z:Int)+9650029242287828579)=(u:Int)∧u<18446744073709551616∧Xx.mix x a=u:=
 ⟨x ^^^ Xx.lane 0 a,(x ^^^ Xx.lane 0 a) * Xx.p1%18446744073709551616,((x ^^^ Xx.lane 0 a) * Xx.p1%18446744073709551616+Xx.p4)%18446744073709551616,xorN x _ hx (laneW 0 a),mulN _ Xx.p1,addN _ Xx.p4,modW _,rfl⟩
theorem t8_ex (hx:x<18446744073709551616) (n:Nat):∃ r z u:Nat,bits .xor .u64 (x:Int) ((Xx.lane 0 n:Nat):Int)=(r:Int)∧r<18446744073709551616∧IntKind.u64.wrap ((Xx.turn r 27:Nat) * (11400714785074694791:Int))=(z:Int)∧IntKind.u64.wrap ((z:Int)+9650029242287828579)=(u:Int)∧u<18446744073709551616∧Xx.t8 x n=u:=
 ⟨x ^^^ Xx.lane 0 n,Xx.turn (x ^^^ Xx.lane 0 n) 27 * Xx.p1%18446744073709551616,(Xx.turn (x ^^^ Xx.lane 0 n) 27 * Xx.p1%18446744073709551616+Xx.p4)%18446744073709551616,xorN x _ hx (laneW 0 n),xorW hx (laneW 0 n),mulN _ Xx.p1,addN _ Xx.p4,modW _,rfl⟩
theorem t4_ex (hx:x<18446744073709551616) (n:Nat):∃ t r z u:Nat,IntKind.u64.wrap ((n:Int) * 11400714785074694791)=(t:Int)∧bits .xor .u64 (x:Int) (t:Int)=(r:Int)∧r<18446744073709551616∧IntKind.u64.wrap ((Xx.turn r 23:Nat) * (14029467366897019727:Int))=(z:Int)∧IntKind.u64.wrap ((z:Int)+1609587929392839161)=(u:Int)∧u<18446744073709551616∧Xx.t4 x n=u:=
 ⟨n * Xx.p1%18446744073709551616,x ^^^ (n * Xx.p1%18446744073709551616),Xx.turn (x ^^^ (n * Xx.p1%18446744073709551616)) 23 * Xx.p2%18446744073709551616,(Xx.turn (x ^^^ (n * Xx.p1%18446744073709551616)) 23 * Xx.p2%18446744073709551616+Xx.p3)%18446744073709551616,mulN n Xx.p1,xorN x _ hx (modW _),xorW hx (modW _),mulN _ Xx.p2,addN _ Xx.p3,modW _,rfl⟩
theorem t1_ex (hx:x<18446744073709551616) (c:UInt8):∃ q r u:Nat,IntKind.u64.wrap ((c.toNat:Int) * 2870177450012600261)=(q:Int)∧bits .xor .u64 (x:Int) (q:Int)=(r:Int)∧r<18446744073709551616∧IntKind.u64.wrap ((Xx.turn r 11:Nat) * (11400714785074694791:Int))=(u:Int)∧u<18446744073709551616∧Xx.t1 x c=u:=
 ⟨c.toNat * Xx.p5%18446744073709551616,x ^^^ (c.toNat * Xx.p5%18446744073709551616),Xx.turn (x ^^^ (c.toNat * Xx.p5%18446744073709551616)) 11 * Xx.p1%18446744073709551616,mulN _ Xx.p5,xorN x _ hx (modW _),xorW hx (modW _),mulN _ Xx.p1,modW _,rfl⟩
theorem join_ex (l:Xx.Ln):∃ s1 s2 x0:Nat,IntKind.u64.wrap ((Xx.turn l.a 1:Nat)+((Xx.turn l.b 7:Nat):Int))=(s1:Int)∧IntKind.u64.wrap ((s1:Int)+((Xx.turn l.c 12:Nat):Int))=(s2:Int)∧IntKind.u64.wrap ((s2:Int)+((Xx.turn l.d 18:Nat):Int))=(x0:Int)∧x0<18446744073709551616∧Xx.joined l=Xx.mix (Xx.mix (Xx.mix (Xx.mix x0 l.a) l.b) l.c) l.d:=
 ⟨_,_,_,addN _ _,addN _ _,addN _ _,modW _,rfl⟩
theorem fin_ex (hx:x<18446744073709551616):∃ t1 t2 t3 t4 t5:Nat,bits .xor .u64 (x:Int) ((x:Int) / 8589934592)=(t1:Int)∧IntKind.u64.wrap ((t1:Int) * 14029467366897019727)=(t2:Int)∧bits .xor .u64 (t2:Int) ((t2:Int) / 536870912)=(t3:Int)∧IntKind.u64.wrap ((t3:Int) * 1609587929392839161)=(t4:Int)∧bits .xor .u64 (t4:Int) ((t4:Int) / 4294967296)=(t5:Int)∧Xx.f3 (Xx.f2 (Xx.f1 x))=t5:=by
 have d:∀ (y k:Nat),y<18446744073709551616→y / k<18446744073709551616:=fun y k h=>Nat.lt_of_le_of_lt (Nat.div_le_self _ _) h
 exact ⟨x ^^^ (x / 8589934592),(x ^^^ (x / 8589934592)) * Xx.p2%18446744073709551616,Xx.f1 x ^^^ (Xx.f1 x / 536870912),(Xx.f1 x ^^^ (Xx.f1 x / 536870912)) * Xx.p3%18446744073709551616,Xx.f2 (Xx.f1 x) ^^^ (Xx.f2 (Xx.f1 x) / 4294967296),xorN x _ hx (d _ _ hx),mulN _ Xx.p2,xorN (Xx.f1 x) _ (modW _) (d _ _ (modW _)),mulN _ Xx.p3,xorN (Xx.f2 (Xx.f1 x)) _ (modW _) (d _ _ (modW _)),rfl⟩
theorem start_ex (j n:Nat):∃ x:Nat,IntKind.u64.wrap ((j:Int)+(n:Int))=(x:Int)∧x<18446744073709551616∧(j+n)%Xx.W=x:=⟨(j+n)%18446744073709551616,addN j n,modW _,rfl⟩
end
section
variable {w0 w:World}{F:List HProp}{v bv:Value}
theorem turn1_c (x:Nat) (hx:x<18446744073709551616) (h:Sat w0 w F):Calls Tryz.prog 226 #[.int .u64 x,.int .i64 1] w (Rtn fun v w'=>v = .int .u64 (Xx.turn x 1:Nat)∧Sat w0 w' F):=by
 have hf:=uQ (show Xx.turn x 1=(x * 2%18446744073709551616) ||| (x / 9223372036854775808) from rfl)
 have e1:IntKind.u64.wrap ((x:Int) * 2)=((x * 2%18446744073709551616:Nat):Int):=by rw [IntKind.wrap_u64];omega
 have e2:(x:Int) / 9223372036854775808=((x / 9223372036854775808:Nat):Int):=rfl
 have ha:x * 2%18446744073709551616<18446744073709551616:=Nat.mod_lt _ dCz
 have hb:x / 9223372036854775808<18446744073709551616:=Nat.lt_of_le_of_lt (Nat.div_le_self _ _) hx
 generalize x * 2%18446744073709551616=a at *
 generalize x / 9223372036854775808=b at *
 have e3:=orN a b ha hb
 have hS:=h.drew
 have e0:bits .and .i64 (1:Int) 63=1:=by decide
 have e00:wrap64 (64 - 1:Int)=63:=by rw [IntWalk.wrap64_in _ dCz];rfl
 clear ha hb h
 go_enter Tryz.func226,Tryz.ntmps226
 go_wp2_with fail
 go_region
 go_wp2
 go_ret
 exact ⟨_,rfl,by rw [hf.out];rfl,hS⟩
theorem turn7_c (x:Nat) (hx:x<18446744073709551616) (h:Sat w0 w F):Calls Tryz.prog 226 #[.int .u64 x,.int .i64 7] w (Rtn fun v w'=>v = .int .u64 (Xx.turn x 7:Nat)∧Sat w0 w' F):=by
 have hf:=uQ (show Xx.turn x 7=(x * 128%18446744073709551616) ||| (x / 144115188075855872) from rfl)
 have e1:IntKind.u64.wrap ((x:Int) * 128)=((x * 128%18446744073709551616:Nat):Int):=by rw [IntKind.wrap_u64];omega
 have e2:(x:Int) / 144115188075855872=((x / 144115188075855872:Nat):Int):=rfl
 have ha:x * 128%18446744073709551616<18446744073709551616:=Nat.mod_lt _ dCz
 have hb:x / 144115188075855872<18446744073709551616:=Nat.lt_of_le_of_lt (Nat.div_le_self _ _) hx
 generalize x * 128%18446744073709551616=a at *
 generalize x / 144115188075855872=b at *
 have e3:=orN a b ha hb
 have hS:=h.drew
 have e0:bits .and .i64 (7:Int) 63=7:=by decide
 have e00:wrap64 (64 - 7:Int)=57:=by rw [IntWalk.wrap64_in _ dCz];rfl
 clear ha hb h
 go_enter Tryz.func226,Tryz.ntmps226
 go_wp2_with fail
 go_region
 go_wp2
 go_ret
 exact ⟨_,rfl,by rw [hf.out];rfl,hS⟩
theorem turn11_c (x:Nat) (hx:x<18446744073709551616) (h:Sat w0 w F):Calls Tryz.prog 226 #[.int .u64 x,.int .i64 11] w (Rtn fun v w'=>v = .int .u64 (Xx.turn x 11:Nat)∧Sat w0 w' F):=by
 have hf:=uQ (show Xx.turn x 11=(x * 2048%18446744073709551616) ||| (x / 9007199254740992) from rfl)
 have e1:IntKind.u64.wrap ((x:Int) * 2048)=((x * 2048%18446744073709551616:Nat):Int):=by rw [IntKind.wrap_u64];omega
 have e2:(x:Int) / 9007199254740992=((x / 9007199254740992:Nat):Int):=rfl
 have ha:x * 2048%18446744073709551616<18446744073709551616:=Nat.mod_lt _ dCz
 have hb:x / 9007199254740992<18446744073709551616:=Nat.lt_of_le_of_lt (Nat.div_le_self _ _) hx
 generalize x * 2048%18446744073709551616=a at *
 generalize x / 9007199254740992=b at *
 have e3:=orN a b ha hb
 have hS:=h.drew
 have e0:bits .and .i64 (11:Int) 63=11:=by decide
 have e00:wrap64 (64 - 11:Int)=53:=by rw [IntWalk.wrap64_in _ dCz];rfl
 clear ha hb h
 go_enter Tryz.func226,Tryz.ntmps226
 go_wp2_with fail
 go_region
 go_wp2
 go_ret
 exact ⟨_,rfl,by rw [hf.out];rfl,hS⟩
theorem turn12_c (x:Nat) (hx:x<18446744073709551616) (h:Sat w0 w F):Calls Tryz.prog 226 #[.int .u64 x,.int .i64 12] w (Rtn fun v w'=>v = .int .u64 (Xx.turn x 12:Nat)∧Sat w0 w' F):=by
 have hf:=uQ (show Xx.turn x 12=(x * 4096%18446744073709551616) ||| (x / 4503599627370496) from rfl)
 have e1:IntKind.u64.wrap ((x:Int) * 4096)=((x * 4096%18446744073709551616:Nat):Int):=by rw [IntKind.wrap_u64];omega
 have e2:(x:Int) / 4503599627370496=((x / 4503599627370496:Nat):Int):=rfl
 have ha:x * 4096%18446744073709551616<18446744073709551616:=Nat.mod_lt _ dCz
 have hb:x / 4503599627370496<18446744073709551616:=Nat.lt_of_le_of_lt (Nat.div_le_self _ _) hx
 generalize x * 4096%18446744073709551616=a at *
 generalize x / 4503599627370496=b at *
 have e3:=orN a b ha hb
 have hS:=h.drew
 have e0:bits .and .i64 (12:Int) 63=12:=by decide
 have e00:wrap64 (64 - 12:Int)=52:=by rw [IntWalk.wrap64_in _ dCz];rfl
 clear ha hb h
 go_enter Tryz.func226,Tryz.ntmps226
 go_wp2_with fail
 go_region
 go_wp2
 go_ret
 exact ⟨_,rfl,by rw [hf.out];rfl,hS⟩
theorem turn18_c (x:Nat) (hx:x<18446744073709551616) (h:Sat w0 w F):Calls Tryz.prog 226 #[.int .u64 x,.int .i64 18] w (Rtn fun v w'=>v = .int .u64 (Xx.turn x 18:Nat)∧Sat w0 w' F):=by
 have hf:=uQ (show Xx.turn x 18=(x * 262144%18446744073709551616) ||| (x / 70368744177664) from rfl)
 have e1:IntKind.u64.wrap ((x:Int) * 262144)=((x * 262144%18446744073709551616:Nat):Int):=by rw [IntKind.wrap_u64];omega
 have e2:(x:Int) / 70368744177664=((x / 70368744177664:Nat):Int):=rfl
 have ha:x * 262144%18446744073709551616<18446744073709551616:=Nat.mod_lt _ dCz
 have hb:x / 70368744177664<18446744073709551616:=Nat.lt_of_le_of_lt (Nat.div_le_self _ _) hx
 generalize x * 262144%18446744073709551616=a at *
 generalize x / 70368744177664=b at *
 have e3:=orN a b ha hb
 have hS:=h.drew
 have e0:bits .and .i64 (18:Int) 63=18:=by decide
 have e00:wrap64 (64 - 18:Int)=46:=by rw [IntWalk.wrap64_in _ dCz];rfl
 clear ha hb h
 go_enter Tryz.func226,Tryz.ntmps226
 go_wp2_with fail
 go_region
 go_wp2
 go_ret
 exact ⟨_,rfl,by rw [hf.out];rfl,hS⟩
theorem turn23_c (x:Nat) (hx:x<18446744073709551616) (h:Sat w0 w F):Calls Tryz.prog 226 #[.int .u64 x,.int .i64 23] w (Rtn fun v w'=>v = .int .u64 (Xx.turn x 23:Nat)∧Sat w0 w' F):=by
 have hf:=uQ (show Xx.turn x 23=(x * 8388608%18446744073709551616) ||| (x / 2199023255552) from rfl)
 have e1:IntKind.u64.wrap ((x:Int) * 8388608)=((x * 8388608%18446744073709551616:Nat):Int):=by rw [IntKind.wrap_u64];omega
 have e2:(x:Int) / 2199023255552=((x / 2199023255552:Nat):Int):=rfl
 have ha:x * 8388608%18446744073709551616<18446744073709551616:=Nat.mod_lt _ dCz
 have hb:x / 2199023255552<18446744073709551616:=Nat.lt_of_le_of_lt (Nat.div_le_self _ _) hx
 generalize x * 8388608%18446744073709551616=a at *
 generalize x / 2199023255552=b at *
 have e3:=orN a b ha hb
 have hS:=h.drew
 have e0:bits .and .i64 (23:Int) 63=23:=by decide
 have e00:wrap64 (64 - 23:Int)=41:=by rw [IntWalk.wrap64_in _ dCz];rfl
 clear ha hb h
 go_enter Tryz.func226,Tryz.ntmps226
 go_wp2_with fail
 go_region
 go_wp2
 go_ret
 exact ⟨_,rfl,by rw [hf.out];rfl,hS⟩
theorem turn27_c (x:Nat) (hx:x<18446744073709551616) (h:Sat w0 w F):Calls Tryz.prog 226 #[.int .u64 x,.int .i64 27] w (Rtn fun v w'=>v = .int .u64 (Xx.turn x 27:Nat)∧Sat w0 w' F):=by
 have hf:=uQ (show Xx.turn x 27=(x * 134217728%18446744073709551616) ||| (x / 137438953472) from rfl)
 have e1:IntKind.u64.wrap ((x:Int) * 134217728)=((x * 134217728%18446744073709551616:Nat):Int):=by rw [IntKind.wrap_u64];omega
 have e2:(x:Int) / 137438953472=((x / 137438953472:Nat):Int):=rfl
 have ha:x * 134217728%18446744073709551616<18446744073709551616:=Nat.mod_lt _ dCz
 have hb:x / 137438953472<18446744073709551616:=Nat.lt_of_le_of_lt (Nat.div_le_self _ _) hx
 generalize x * 134217728%18446744073709551616=a at *
 generalize x / 137438953472=b at *
 have e3:=orN a b ha hb
 have hS:=h.drew
 have e0:bits .and .i64 (27:Int) 63=27:=by decide
 have e00:wrap64 (64 - 27:Int)=37:=by rw [IntWalk.wrap64_in _ dCz];rfl
 clear ha hb h
 go_enter Tryz.func226,Tryz.ntmps226
 go_wp2_with fail
 go_region
 go_wp2
 go_ret
 exact ⟨_,rfl,by rw [hf.out];rfl,hS⟩
theorem turn31_c (x:Nat) (hx:x<18446744073709551616) (h:Sat w0 w F):Calls Tryz.prog 226 #[.int .u64 x,.int .i64 31] w (Rtn fun v w'=>v = .int .u64 (Xx.turn x 31:Nat)∧Sat w0 w' F):=by
 have hf:=uQ (show Xx.turn x 31=(x * 2147483648%18446744073709551616) ||| (x / 8589934592) from rfl)
 have e1:IntKind.u64.wrap ((x:Int) * 2147483648)=((x * 2147483648%18446744073709551616:Nat):Int):=by rw [IntKind.wrap_u64];omega
 have e2:(x:Int) / 8589934592=((x / 8589934592:Nat):Int):=rfl
 have ha:x * 2147483648%18446744073709551616<18446744073709551616:=Nat.mod_lt _ dCz
 have hb:x / 8589934592<18446744073709551616:=Nat.lt_of_le_of_lt (Nat.div_le_self _ _) hx
 generalize x * 2147483648%18446744073709551616=a at *
 generalize x / 8589934592=b at *
 have e3:=orN a b ha hb
 have hS:=h.drew
 have e0:bits .and .i64 (31:Int) 63=31:=by decide
 have e00:wrap64 (64 - 31:Int)=33:=by rw [IntWalk.wrap64_in _ dCz];rfl
 clear ha hb h
 go_enter Tryz.func226,Tryz.ntmps226
 go_wp2_with fail
 go_region
 go_wp2
 go_ret
 exact ⟨_,rfl,by rw [hf.out];rfl,hS⟩
theorem lane_c (a x:Nat) (h:Sat w0 w F):Calls Tryz.prog 216 #[.int .u64 a,.int .u64 x] w (Rtn fun v w'=>v = .int .u64 (Xx.lane a x:Nat)∧Sat w0 w' F):=by
 obtain ⟨y,z,u,e1,e2,hz,e3,e4⟩:=lane_ex a x
 rw [e4]
 have ht:=turn31_c z hz h
 clear hz e4 h
 generalize Xx.turn z 31=t at *
 go_enter Tryz.func216,Tryz.ntmps216
 go_wp2_with fail
 refine ht.mono ?_
 rintro ee w1 ⟨v,rfl,rfl,hS⟩
 clear ht
 go_wp2
 go_ret
 exact ⟨_,rfl,rfl,hS⟩
end
structure RS (w0:World) (F:List HProp) (v:Value) (l:Bs):Prop where
 rd:Ro w0 F (rdsl 1 v (bys l))
 cap:capOk v
section
variable {w0 w:World}{F:List HProp}{v:Value}{l:Bs}{a:Option Addr}{n c k:Nat}
theorem sizeU8 (w:World):(sizeOf 5).run Tryz.prog w = .ok 1 w:=by kernel_rfl
theorem elemU8:Tryz.prog.elem 38=5:=by kernel_rfl
theorem undU8:Tryz.prog.underlying 38=some (.slice (Tryz.prog.elem 38)):=by rw [elemU8];exact Tryz.underlying38
theorem run_slF (hk:k≤n) (w:World):(Instr.sliceAt 38 (.slice a n c) (some (.int .i64 k)) none none).run Tryz.prog w = .ok (sliced a k n c 1) w:=by
 rw [run_sliceAt_slice _ _ _ _ _ _ undU8,run_slice_l _ _ _ _ _ undU8 .i64 (k:Int) oQ oQ,elemU8,sizeU8]
 simp [Result.andThen]
theorem run_slT (hk:k≤c) (w:World):(Instr.sliceAt 38 (.slice a n c) none (some (.int .i64 k)) none).run Tryz.prog w = .ok (sliced a 0 k c 1) w:=by
 rw [run_sliceAt_slice _ _ _ _ _ _ undU8,run_slice_h _ _ _ _ _ undU8 .i64 (k:Int) oQ oQ,elemU8,sizeU8]
 simp [Result.andThen]
theorem RS.len (h:RS w0 F v l) (hS:Sat w0 w F):∃ a c,v = .slice a l.length c∧l.length≤c∧c≤9223372036854775807:=by
 obtain ⟨a,n,c,rfl,h1,h2⟩:=h.cap
 obtain ⟨_,_,_,he,hl,_⟩:=h.rd w hS
 cases he
 rw [bys_len,Nat.mul_one]at hl
 subst hl
 exact ⟨a,c,rfl,h1,h2⟩
theorem bys_get {l:Bs}{j:Nat}{y:Value}:(bys l)[j]?=some y↔∃ u,l[j]?=some u∧y = .int .u8 u.toNat:=by
 unfold bys
 rw [List.getElem?_map,Option.map_eq_some_iff]
 constructor
 ·rintro ⟨u,h1,h2⟩;exact ⟨u,h1,h2.symm⟩
 ·rintro ⟨u,h1,h2⟩;exact ⟨u,h1,h2.symm⟩
theorem RS.from (h:RS w0 F (.slice a l.length c) l) (hk:k≤l.length):RS w0 F (sliced a k l.length c 1) (l.drop k):=by
 obtain ⟨a',n',c',he,h1,h2⟩:=h.cap
 cases he
 refine ⟨fun w hw=>?_,⟨_,_,_,rfl,by omega,by omega⟩⟩
 refine ⟨_,_,_,rfl,by rw [bys_len,List.length_drop,Nat.mul_one],fun j y hj=>?_⟩
 obtain ⟨u,hu,rfl⟩:=bys_get.1 hj
 rw [List.getElem?_drop]at hu
 have hlt:=(List.getElem?_eq_some_iff.1 hu).1
 obtain ⟨bk,off,rfl,hc⟩:=rdsl_cells (h.rd w hw) (bys_get.2 ⟨u,hu,rfl⟩)
 rw [if_neg oQ]
 refine ⟨_,rfl,?_⟩
 have:=hc (k+j) _ (bys_get.2 ⟨u,hu,rfl⟩)
 show w.cell? (((⟨bk,off,none⟩:Addr).add (k * 1)).add j)=_
 rw [Addr.add_mid,Addr.add_mid,Nat.mul_one,Nat.add_assoc];exact this
theorem RS.to (h:RS w0 F (.slice a l.length c) l) (hk:k≤l.length) (m:Nat) (hm:k≤m) (hmc:m≤c):RS w0 F (sliced a 0 k m 1) (l.take k):=by
 obtain ⟨a',n',c',he,h1,h2⟩:=h.cap
 cases he
 refine ⟨fun w hw=>?_,⟨_,_,_,rfl,by omega,by omega⟩⟩
 refine ⟨_,_,_,rfl,by rw [bys_len,List.length_take,Nat.mul_one];omega,fun j y hj=>?_⟩
 obtain ⟨u,hu,rfl⟩:=bys_get.1 hj
 rw [List.getElem?_take]at hu
 split at hu
 ·rename_i hjk
  obtain ⟨bk,off,rfl,hc⟩:=rdsl_cells (h.rd w hw) (bys_get.2 ⟨u,hu,rfl⟩)
  rw [if_neg oQ]
  refine ⟨_,rfl,?_⟩
  have:=hc j _ (bys_get.2 ⟨u,hu,rfl⟩)
  show w.cell? (((⟨bk,off,none⟩:Addr).add (0 * 1)).add j)=_
  rw [Addr.add_mid,Addr.add_mid,Nat.zero_mul,Nat.add_zero];exact this
 ·cases hu
theorem RS.of_bsl (h:Sat w0 w (bsl v l::F)):RS w0 (bsl v l::F) v l:=by
 obtain ⟨a,n,c,e,h1,h2,h3⟩:=bsl_cap' h
 exact ⟨Ro.bsl _ _,⟨a,n,c,e,h1,h2⟩⟩
theorem RS.more (h:RS w0 F v l){G:List HProp} (k:Sub G F):RS w0 G v l:=⟨Ro.of_sub h.rd k,h.cap⟩
end
section
variable {P:Program}{w:World}{ops:Array Oper}{rest:List Oper}{a:Act}{Q:Exit→Act→World→Prop}{dst:Option Tmp}{t ty:TypeId}{pos:String}{after:Array Edge}{x y z:Operand}{v vx vy vz:Value}
theorem wl_slF (hx:a.eval x=vx) (hy:a.eval y=vy) (hr:∀ w,(Instr.sliceAt ty vx (some vy) none none).run P w = .ok v w) (h:wpList P ops Q rest (a.put dst v) w):wpList P ops Q (⟨dst,.slice ty x (some y) none none,t,pos,after,none⟩::rest) a w:=
 wpList_plain rfl fun _ hK=>by
  unfold Oper.wp execOp
  simp only [hx,hy,Option.map_some,Option.map_none,Sem.run_bind,hr,Result.andThen_ok,Sem.run_pure]
  exact hK _ _ h
theorem wl_slT (hx:a.eval x=vx) (hy:a.eval y=vy) (hr:∀ w,(Instr.sliceAt ty vx none (some vy) none).run P w = .ok v w) (h:wpList P ops Q rest (a.put dst v) w):wpList P ops Q (⟨dst,.slice ty x none (some y) none,t,pos,after,none⟩::rest) a w:=
 wpList_plain rfl fun _ hK=>by
  unfold Oper.wp execOp
  simp only [hx,hy,Option.map_some,Option.map_none,Sem.run_bind,hr,Result.andThen_ok,Sem.run_pure]
  exact hK _ _ h
theorem at_slF (h:Stop (wpList P ops Q (⟨dst,.slice ty x (some y) none none,t,pos,after,none⟩::rest) a w)):wpList P ops Q (⟨dst,.slice ty x (some y) none none,t,pos,after,none⟩::rest) a w:=h.out
theorem at_slT (h:Stop (wpList P ops Q (⟨dst,.slice ty x none (some y) none,t,pos,after,none⟩::rest) a w)):wpList P ops Q (⟨dst,.slice ty x none (some y) none,t,pos,after,none⟩::rest) a w:=h.out
end
section
variable {w0 w:World}{F:List HProp}{v bv:Value}
theorem or_num8 (l:Bs) (c:UInt8) (k:Nat) (hl:l.length=k) (hk:k<8):bits .or .u64 ((Frm.num l:Nat):Int) ((c.toNat:Int) * ((256^k:Nat):Int))=((Frm.num (l++[c]):Nat):Int):=by
 subst hl
 have h1:=Frm.num_lt l
 have h2:=c.toNat_lt
 have h3:256^l.length≤256^7:=Nat.pow_le_pow_right dCz oQ
 have h4:c.toNat * 256^l.length≤255 * 256^7:=Nat.mul_le_mul oQ h3
 have h5:(256:Nat)^7=72057594037927936:=by decide
 have e:(c.toNat:Int) * ((256^l.length:Nat):Int)=((c.toNat * 256^l.length:Nat):Int):=by rw [Int.natCast_mul]
 rw [e,u64_or_nat _ _ oQ oQ,Frm.num_snoc]
 congr 1
 have hp:(256:Nat)^l.length=2^(8 * l.length):=by rw [Nat.pow_mul]
 rw [hp]at h1 ⊢
 have:=Nat.two_pow_add_eq_or_of_lt h1 c.toNat
 rw [Nat.or_comm,Nat.mul_comm c.toNat,← this,Nat.add_comm]
set_option maxRecDepth 20000 in
theorem get8_c (c0 c1 c2 c3 c4 c5 c6 c7:UInt8) (a:Option Addr) (c:Nat) (h:rdsl 1 (.slice a 8 c) (bys [c0,c1,c2,c3,c4,c5,c6,c7]) w) :
  Calls Tryz.prog 162 #[.slice a 8 c] w (Rtn fun v w'=>v = .tuple #[.int .u64 (Frm.num [c0,c1,c2,c3,c4,c5,c6,c7]:Nat),.bool true]∧w=w'):=by
 obtain ⟨bk,off,rfl,hc⟩:=rdsl_cells h (i:=0) rfl
 have e0:w.cell? ⟨bk,off,none⟩=some (.int .u8 c0.toNat):=hc 0 _ rfl
 have t0:=c0.toNat_lt
 have e1:w.cell? ⟨bk,off+1,none⟩=some (.int .u8 c1.toNat):=hc 1 _ rfl
 have t1:=c1.toNat_lt
 have e2:w.cell? ⟨bk,off+2,none⟩=some (.int .u8 c2.toNat):=hc 2 _ rfl
 have t2:=c2.toNat_lt
 have e3:w.cell? ⟨bk,off+3,none⟩=some (.int .u8 c3.toNat):=hc 3 _ rfl
 have t3:=c3.toNat_lt
 have e4:w.cell? ⟨bk,off+4,none⟩=some (.int .u8 c4.toNat):=hc 4 _ rfl
 have t4:=c4.toNat_lt
 have e5:w.cell? ⟨bk,off+5,none⟩=some (.int .u8 c5.toNat):=hc 5 _ rfl
 have t5:=c5.toNat_lt
 have e6:w.cell? ⟨bk,off+6,none⟩=some (.int .u8 c6.toNat):=hc 6 _ rfl
 have t6:=c6.toNat_lt
 have e7:w.cell? ⟨bk,off+7,none⟩=some (.int .u8 c7.toNat):=hc 7 _ rfl
 have t7:=c7.toNat_lt
 clear hc h
 go_enter Tryz.func162,Tryz.ntmps162
 go_wp2_with fail
 go_loopg [17,4] 8 (fun g iq xq wr=>∃ i:Nat,g=8 - i∧i≤8∧iq = .int .i64 i∧xq = .int .u64 (Frm.num ([c0,c1,c2,c3,c4,c5,c6,c7].take i):Nat)∧wr=w)
 case atStart=>exact ⟨0,rfl,by omega,rfl,rfl,rfl⟩
 case round=>
  obtain ⟨i,rfl,hi,rfl,rfl,rfl⟩:=hrel
  by_cases h4:i<8
  ·have h0:i=0∨i=1∨i=2∨i=3∨i=4∨i=5∨i=6∨i=7:=by omega
   clear hi h4
   rcases h0 with rfl|rfl|rfl|rfl|rfl|rfl|rfl|rfl
   ·have hq:bits .or .u64 ((Frm.num []:Nat):Int) (c0.toNat:Int)=((Frm.num [c0]:Nat):Int):=by
     have:=or_num8 [] c0 0 rfl dCz
     simpa using this
    go_wp2_with fail
    go_roundg (8 - 1)
    case measure=>decide
    case rel=>exact ⟨1,rfl,by decide,by first|rfl|go_num,rfl,rfl⟩
   ·have hq:bits .or .u64 ((Frm.num [c0]:Nat):Int) ((c1.toNat:Int) * 256)=((Frm.num [c0,c1]:Nat):Int):=or_num8 [c0] c1 1 rfl dCz
    go_wp2_with fail
    go_roundg (8 - 2)
    case measure=>decide
    case rel=>exact ⟨2,rfl,by decide,by first|rfl|go_num,rfl,rfl⟩
   ·have hq:bits .or .u64 ((Frm.num [c0,c1]:Nat):Int) ((c2.toNat:Int) * 65536)=((Frm.num [c0,c1,c2]:Nat):Int):=or_num8 [c0,c1] c2 2 rfl dCz
    go_wp2_with fail
    go_roundg (8 - 3)
    case measure=>decide
    case rel=>exact ⟨3,rfl,by decide,by first|rfl|go_num,rfl,rfl⟩
   ·have hq:bits .or .u64 ((Frm.num [c0,c1,c2]:Nat):Int) ((c3.toNat:Int) * 16777216)=((Frm.num [c0,c1,c2,c3]:Nat):Int):=or_num8 [c0,c1,c2] c3 3 rfl dCz
    go_wp2_with fail
    go_roundg (8 - 4)
    case measure=>decide
    case rel=>exact ⟨4,rfl,by decide,by first|rfl|go_num,rfl,rfl⟩
   ·have hq:bits .or .u64 ((Frm.num [c0,c1,c2,c3]:Nat):Int) ((c4.toNat:Int) * 4294967296)=((Frm.num [c0,c1,c2,c3,c4]:Nat):Int):=or_num8 [c0,c1,c2,c3] c4 4 rfl dCz
    go_wp2_with fail
    go_roundg (8 - 5)
    case measure=>decide
    case rel=>exact ⟨5,rfl,by decide,by first|rfl|go_num,rfl,rfl⟩
   ·have hq:bits .or .u64 ((Frm.num [c0,c1,c2,c3,c4]:Nat):Int) ((c5.toNat:Int) * 1099511627776)=((Frm.num [c0,c1,c2,c3,c4,c5]:Nat):Int):=or_num8 [c0,c1,c2,c3,c4] c5 5 rfl dCz
    go_wp2_with fail
    go_roundg (8 - 6)
    case measure=>decide
    case rel=>exact ⟨6,rfl,by decide,by first|rfl|go_num,rfl,rfl⟩
   ·have hq:bits .or .u64 ((Frm.num [c0,c1,c2,c3,c4,c5]:Nat):Int) ((c6.toNat:Int) * 281474976710656)=((Frm.num [c0,c1,c2,c3,c4,c5,c6]:Nat):Int):=or_num8 [c0,c1,c2,c3,c4,c5] c6 6 rfl dCz
    go_wp2_with fail
    go_roundg (8 - 7)
    case measure=>decide
    case rel=>exact ⟨7,rfl,by decide,by first|rfl|go_num,rfl,rfl⟩
   ·have hq:bits .or .u64 ((Frm.num [c0,c1,c2,c3,c4,c5,c6]:Nat):Int) ((c7.toNat:Int) * 72057594037927936)=((Frm.num [c0,c1,c2,c3,c4,c5,c6,c7]:Nat):Int):=or_num8 [c0,c1,c2,c3,c4,c5,c6] c7 7 rfl dCz
    go_wp2_with fail
    go_roundg (8 - 8)
    case measure=>decide
    case rel=>exact ⟨8,rfl,by decide,by first|rfl|go_num,rfl,rfl⟩
  ·obtain rfl:i=8:=by omega
   go_wp2
   go_ret2
   exact ⟨_,rfl,rfl,rfl⟩
theorem eight {l:Bs} (h:l.length=8):∃ c0 c1 c2 c3 c4 c5 c6 c7,l=[c0,c1,c2,c3,c4,c5,c6,c7]:=by
 match l,h with
 |[c0,c1,c2,c3,c4,c5,c6,c7],_=>exact ⟨c0,c1,c2,c3,c4,c5,c6,c7,rfl⟩
theorem get8_l (l:Bs) (hl:l.length=8) (a:Option Addr) (c:Nat) (h:rdsl 1 (.slice a 8 c) (bys l) w) :
  Calls Tryz.prog 162 #[.slice a 8 c] w (Rtn fun v w'=>v = .tuple #[.int .u64 (Frm.num l:Nat),.bool true]∧w=w'):=by
 obtain ⟨c0,c1,c2,c3,c4,c5,c6,c7,rfl⟩:=eight hl
 exact get8_c c0 c1 c2 c3 c4 c5 c6 c7 a c h
theorem word_c (l:Bs) (hl:8≤l.length) (hr:RS w0 F bv l) (h:Sat w0 w F) :
  Calls Tryz.prog 217 #[bv] w (Rtn fun v w'=>v = .int .u64 (Frm.num (l.take 8):Nat)∧w=w'):=by
 obtain ⟨a,c,rfl,h1,h2⟩:=hr.len h
 have ht:=(hr.to hl c oQ (Nat.le_refl c)).rd w h
 have hs:sliced a 0 8 c 1 = .slice (if c=0 then a else a.map (·.add (0 * 1))) 8 c:=rfl
 rw [hs]at ht
 have hg:=get8_l (l.take 8) (by rw [List.length_take];omega) _ c ht
 have hrun:∀ w,(Instr.sliceAt 38 (.slice a l.length c) none (some (.int .i64 8)) none).run Tryz.prog w = .ok (.slice (if c=0 then a else a.map (·.add (0 * 1))) 8 c) w:=fun w=>run_slT (k:=8) oQ w
 generalize (if c=0 then a else a.map (·.add (0 * 1)))=a2 at *
 generalize Frm.num (l.take 8)=N at *
 clear ht hs
 go_enter Tryz.func217,Tryz.ntmps217
 go_wp2_with ((with_reducible refine at_slT ⟨?_⟩);refine wl_slT rFz rFz hrun ?_)
 refine hg.mono ?_
 rintro e w1 ⟨v,rfl,rfl,rfl⟩
 go_wp2
 go_ret
 exact ⟨_,rfl,rfl,rfl⟩
set_option maxRecDepth 20000 in
theorem put8_c (x:Nat) (hx:x<18446744073709551616) (h:Sat w0 w F) :
  Calls Tryz.prog 114 #[.int .u64 x,.int .i64 8] w (Rtn fun v w'=>Sat w0 w' (bsl v (Frm.le x 8)::F)∧∃ a,v = .slice a 8 8):=by
 have Hx:=uQ hx
 clear hx
 have hmk:∀ w,(Instr.makeSlice 38 (.int .i64 8) (.int .i64 8)).run Tryz.prog w = .ok (.slice (some ⟨w.heap.size,0,none⟩) 8 8) (w.alloc (.cells #[.int .u8 0,.int .u8 0,.int .u8 0,.int .u8 0,.int .u8 0,.int .u8 0,.int .u8 0,.int .u8 0] 5)):=fun w=>by kernel_rfl
 go_enter Tryz.func114,Tryz.ntmps114
 go_wp2_with fail
 have hA:=h.alloc (.cells #[.int .u8 0,.int .u8 0,.int .u8 0,.int .u8 0,.int .u8 0,.int .u8 0,.int .u8 0,.int .u8 0] 5)
 have hB:Sat w0 (w.alloc (.cells #[.int .u8 0,.int .u8 0,.int .u8 0,.int .u8 0,.int .u8 0,.int .u8 0,.int .u8 0,.int .u8 0] 5)) (bsl (.slice (some ⟨w.heap.size,0,none⟩) 8 8) [0,0,0,0,0,0,0,0]::F):=Sat.osl_of_pt hA rfl (Nat.le_refl _) (Nat.le_refl _) (by unfold maxLen;omega) rfl
 obtain ⟨b0,b1,b2,b3,b4,b5,b6,b7,hb0,hb1,hb2,hb3,hb4,hb5,hb6,hb7,hle⟩:∃ b0 b1 b2 b3 b4 b5 b6 b7:UInt8,(x:Int)%256=b0.toNat∧(x:Int) / 256%256=b1.toNat∧(x:Int) / 65536%256=b2.toNat∧(x:Int) / 16777216%256=b3.toNat∧(x:Int) / 4294967296%256=b4.toNat∧(x:Int) / 1099511627776%256=b5.toNat∧(x:Int) / 281474976710656%256=b6.toNat∧(x:Int) / 72057594037927936%256=b7.toNat∧Frm.le x 8=[b0,b1,b2,b3,b4,b5,b6,b7]:=by
  refine ⟨_,_,_,_,_,_,_,_,?_,?_,?_,?_,?_,?_,?_,?_,rfl⟩
  all_goals (rw [UInt8.toNat_ofNat'];omega)
 have Hle:=uQ hle
 clear hle hmk hA
 generalize w.heap.size=q at *
 go_loopg [17] 8 (fun g iq wr=>∃ (i:Nat) (l':Bs),g=8 - i∧i≤8∧iq = .int .i64 i∧l'=(match i with|0=>[0,0,0,0,0,0,0,0]|1=>[b0,0,0,0,0,0,0,0]|2=>[b0,b1,0,0,0,0,0,0]|3=>[b0,b1,b2,0,0,0,0,0]|4=>[b0,b1,b2,b3,0,0,0,0]|5=>[b0,b1,b2,b3,b4,0,0,0]|6=>[b0,b1,b2,b3,b4,b5,0,0]|7=>[b0,b1,b2,b3,b4,b5,b6,0]|_=>[b0,b1,b2,b3,b4,b5,b6,b7])∧Sat w0 wr (bsl (.slice (some ⟨q,0,none⟩) 8 8) l'::F))
 case atStart=>exact ⟨0,_,rfl,by omega,rfl,rfl,hB⟩
 case round=>
  obtain ⟨i,l',rfl,hi,rfl,hl',hS⟩:=hrel
  clear hB
  obtain rfl|rfl|rfl|rfl|rfl|rfl|rfl|rfl|rfl:i=0∨i=1∨i=2∨i=3∨i=4∨i=5∨i=6∨i=7∨i=8:=by omega
  ·obtain rfl:l'=[0,0,0,0,0,0,0,0]:=hl'
   obtain ⟨g,he,e0,e1,hS5⟩:=bsl_set (i:=0) hS (by simp) b0
   cases he
   go_wp2_with fail
   go_roundg 7
   case measure=>omega
   case rel=>exact ⟨1,[b0,0,0,0,0,0,0,0],rfl,by omega,rfl,rfl,hS5⟩
  ·obtain rfl:l'=[b0,0,0,0,0,0,0,0]:=hl'
   obtain ⟨g,he,e0,e1,hS5⟩:=bsl_set (i:=1) hS (by simp) b1
   cases he
   go_wp2_with fail
   go_roundg 6
   case measure=>omega
   case rel=>exact ⟨2,[b0,b1,0,0,0,0,0,0],rfl,by omega,rfl,rfl,hS5⟩
  ·obtain rfl:l'=[b0,b1,0,0,0,0,0,0]:=hl'
   obtain ⟨g,he,e0,e1,hS5⟩:=bsl_set (i:=2) hS (by simp) b2
   cases he
   go_wp2_with fail
   go_roundg 5
   case measure=>omega
   case rel=>exact ⟨3,[b0,b1,b2,0,0,0,0,0],rfl,by omega,rfl,rfl,hS5⟩
  ·obtain rfl:l'=[b0,b1,b2,0,0,0,0,0]:=hl'
   obtain ⟨g,he,e0,e1,hS5⟩:=bsl_set (i:=3) hS (by simp) b3
   cases he
   go_wp2_with fail
   go_roundg 4
   case measure=>omega
   case rel=>exact ⟨4,[b0,b1,b2,b3,0,0,0,0],rfl,by omega,rfl,rfl,hS5⟩
  ·obtain rfl:l'=[b0,b1,b2,b3,0,0,0,0]:=hl'
   obtain ⟨g,he,e0,e1,hS5⟩:=bsl_set (i:=4) hS (by simp) b4
   cases he
   go_wp2_with fail
   go_roundg 3
   case measure=>omega
   case rel=>exact ⟨5,[b0,b1,b2,b3,b4,0,0,0],rfl,by omega,rfl,rfl,hS5⟩
  ·obtain rfl:l'=[b0,b1,b2,b3,b4,0,0,0]:=hl'
   obtain ⟨g,he,e0,e1,hS5⟩:=bsl_set (i:=5) hS (by simp) b5
   cases he
   go_wp2_with fail
   go_roundg 2
   case measure=>omega
   case rel=>exact ⟨6,[b0,b1,b2,b3,b4,b5,0,0],rfl,by omega,rfl,rfl,hS5⟩
  ·obtain rfl:l'=[b0,b1,b2,b3,b4,b5,0,0]:=hl'
   obtain ⟨g,he,e0,e1,hS5⟩:=bsl_set (i:=6) hS (by simp) b6
   cases he
   go_wp2_with fail
   go_roundg 1
   case measure=>omega
   case rel=>exact ⟨7,[b0,b1,b2,b3,b4,b5,b6,0],rfl,by omega,rfl,rfl,hS5⟩
  ·obtain rfl:l'=[b0,b1,b2,b3,b4,b5,b6,0]:=hl'
   obtain ⟨g,he,e0,e1,hS5⟩:=bsl_set (i:=7) hS (by simp) b7
   cases he
   go_wp2_with fail
   go_roundg 0
   case measure=>omega
   case rel=>exact ⟨8,[b0,b1,b2,b3,b4,b5,b6,b7],rfl,by omega,rfl,rfl,hS5⟩
  ·obtain rfl:l'=[b0,b1,b2,b3,b4,b5,b6,b7]:=hl'
   go_wp2
   go_ret
   exact ⟨_,rfl,by rw [Hle.out];exact hS,_,rfl⟩
end
end Go.Proofs.YtjbhhbnopnmcnaaGreatDoor
