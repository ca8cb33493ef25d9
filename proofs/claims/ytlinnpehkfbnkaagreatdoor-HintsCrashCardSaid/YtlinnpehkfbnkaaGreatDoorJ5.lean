import Derived.Test.YtlinnpehkfbnkaaGreatDoorJ4
import Derived.Lib.Bytealg
import Derived.Lib.BytesEntry
import Derived.Sort.Grow
import Derived.Sort.OwnSorted
import Derived.Shelf.SlSortCmp.WholeK
import Derived.Shelf.SlSortCmp.NoneTotal
namespace Go.Proofs.YtlinnpehkfbnkaaGreatDoor
open Go Go.Sl Go.Med Go.MapKept Go.RowKit
section
variable {P : Program} {ops : Array Oper} {a : Act} {dst : Option Tmp} {t ty : TypeId} {pos : String} {after : Array Edge} {x y : Operand} {v vx vy : Value} {ad : Addr} {fl : Nat} {bo : BinOp} {tz : TypeId} {g : Option (Nat × Bool)}
theorem gfQ (hw : Region.wanted ⟨dst, .fieldAddr ty x fl, t, pos, after, g⟩ (yielded ops a.tmps) = true := by rfl) (hx : a.eval x = vx := by conv => lhs; whnf) (hr : ∀ w, (Instr.fieldAt ty vx fl).run P w = .ok v w := by ((intro wq; go_simp); first | done | (with_reducible rfl))) : Yields P ops ⟨dst, .fieldAddr ty x fl, t, pos, after, g⟩ v a := yg_field hw hx hr
theorem gmQ (hw : Region.wanted ⟨dst, .move x, t, pos, after, g⟩ (yielded ops a.tmps) = true := by rfl) (hx : a.eval x = v := by conv => lhs; whnf) : Yields P ops ⟨dst, .move x, t, pos, after, g⟩ v a := yg_move hw hx
end
end Go.Proofs.YtlinnpehkfbnkaaGreatDoor
set_option linter.unusedVariables false
set_option maxHeartbeats 128000000
namespace Go.Seg
open Go.Med
theorem Log.shut_med {L:Log}{M:Med}{K:Nat} (h:M.Ok K):(L.shut M).1.2.Ok (K+1):=by
 unfold Log.shut
 split;· exact h.mono (Nat.le_succ K)
 split
 ·split <;> exact h.sync _
 ·exact h.mono (Nat.le_succ K)
theorem Log.begin_eq (L:Log) (M:Med) (b:Bs):L.begin M b=if (L.shut M).2=0 then (L.shut M).1.1.begin1 (L.shut M).1.2 b else ((L.shut M).1,Plc.zero,(L.shut M).2):=rfl
theorem name_size (n:Int):(name n).size≤9223372036854775807:=by
 unfold name
 split
 ·decide
 ·show (lead++digs n.toNat 8).toArray.size≤_
  rw [List.size_toArray,List.length_append,digs_len];decide
end Go.Seg
namespace Go.Proofs.YtlinnpehkfbnkaaGreatDoor
open Go Go.Sl Go.Med Go.MapKept Go.RowKit
section
variable {w0 w:World}{F R:List HProp}{v bv dv x lv:Value}{q p m K:Nat}{L:Seg.Log}{M:Med}{s:Int×Int}
theorem lnext_c (hL:L.Ok) (h:Sat w0 w (LogRep p m L::F)) :
  Calls Tryz.prog 152 #[ptr p] w (Rtn fun v w'=>v = .int .i64 L.next∧Sat w0 w' (LogRep p m L::F)):=by
 obtain ⟨lv,hR⟩:=LogRep.open h
 refine (snext_c hL.len hL.nums hR).mono ?_
 rintro e w1 ⟨v,rfl,rfl,hS⟩
 exact ⟨_,rfl,rfl,LogRep.shut2 hS⟩
theorem segw_snoc (l:List (Int×Int)) (n z:Int):segw l++[.int .i64 n,.int .i64 z]=segw (l++[(n,z)]):=by rw [segw_app];rfl
set_option maxRecDepth 20000 in
theorem begin_c (hL:L.Ok) (hM:M.Ok K) (hKK:K+4≤1099511627776) (b:Bs) (hb0:b≠[]) (hbl:b.length≤16777216) (hr:Ro w0 F (rdsl 1 bv (bys b)))
  (h:Sat w0 w (LogRep p m L::MedRep m M::F)) :
  Calls Tryz.prog 85 #[ptr p,bv] w (Rtn fun v w'=>v = .tuple #[plcA (L.begin M b).2.1,errno (L.begin M b).2.2] ∧
   Sat w0 w' (LogRep p m (L.begin M b).1.1::MedRep m (L.begin M b).1.2::F)):=by
 obtain ⟨ba,bn,bc,rfl,hbn⟩:=ro_len hr (A:=emp) (Sat.emp.2 (h.sel 2 [] rfl rfl))
 subst hbn
 obtain ⟨i,hi,hz0,hz1,hz2⟩:=info8p
 have Hg:=uQ (Seg.Log.begin_eq L M b)
 have HM:=uQ (Seg.Log.shut_med (L:=L) hM)
 have HL:=uQ (hL.shut M)
 have Hr:=uQ hr;have Hb0:=uQ hb0;have Hbl:=uQ hbl
 clear hr hb0 hbl
 go_enter Tryz.func85,Tryz.ntmps85
 go_wp2_with (refine wl_alloc zPlace aQ rfl ?_;intro q w1 hS1)
 refine (shut_c hL hM (Sat.sb aQ)).mono ?_
 rintro e w2 ⟨v,rfl,rfl,hS2⟩
 clear hS1 h hL hM
 generalize L.shut M=S at *
 obtain ⟨⟨L1,M1⟩,e1⟩:=S
 by_cases he:e1=0
 rotate_left
 ·have heb:(e1==0)=false:=beq_false_of_ne he
  have hfin:=uQ (Hg.out.trans (if_neg he))
  clear he
  go_wp2_with ((with_reducible refine at_store ⟨?_⟩);refine wl_store aQ rFz evD pQ upD nLz kRz rFz ?_;intro wS hS)
  refine ⟨rfl,_,res_cell_tmp rfl aQ rFz pkD Tryz.underlying54 rfl kRz,_,rfl,?_,?_⟩
  ·rw [hfin.out];rfl
  ·rw [hfin.out];exact Sat.sb hS
 subst he
 have H1:=uQ (Hg.out.trans (if_pos rfl))
 clear Hg
 go_wp2_with fail
 refine (lnext_c HL.out (Sat.pk aQ)).mono ?_
 rintro e w3 ⟨v,rfl,rfl,hS3⟩
 clear hS2
 have hs1:=uQ HL.out.next
 have hfr:=uQ HL.out.fresh
 have hln:=uQ HL.out.len
 unfold Seg.Log.begin1 at H1
 have Hnm:=uQ (Seg.name_size L1.next)
 by_cases hn:1048576≤L1.next
 ·have hfin:=uQ (H1.out.trans (if_pos hn))
  generalize L1.next=n at *
  go_wp2_with ((with_reducible refine at_store ⟨?_⟩);refine wl_store aQ rFz evD pQ upD nLz kRz rFz ?_;intro wS hS)
  refine ⟨rfl,_,res_cell_tmp rfl aQ rFz pkD Tryz.underlying54 rfl kRz,_,rfl,?_,?_⟩
  ·rw [hfin.out];rfl
  ·rw [hfin.out];exact Sat.sb hS
 have H2:=uQ (H1.out.trans (if_neg hn))
 clear H1
 have Hn:=uQ hn
 have hnd:¬ 1048576≤L1.next:=hn
 clear hn
 have hnm:=sname_c L1.next hS3
 generalize hnn:L1.next=n at *
 have Hnn:=uQ hnn
 clear hnn
 go_wp2_with fail
 refine hnm.mono ?_
 rintro e w4 ⟨v,rfl,rfl,hS4⟩
 clear hnm hS3 hnd
 generalize Seg.name n=nm at *
 obtain ⟨lv,hR⟩:=LogRep.open2 (Sat.pk aQ)
 have e0:w4.cell? ⟨p,0,none⟩=some (ptr m):=hR.cellP pkD 0 rfl
 go_wp2_with fail
 refine (create_c HM.out oQ (Sat.pk aQ) nm Hnm.out).mono ?_
 rintro e w5 ⟨v,rfl,rfl,hS5⟩
 have HM2:=uQ (HM.out.create nm)
 clear hS4 hR e0
 generalize M1.create nm=C at *
 obtain ⟨M2,e2⟩:=C
 by_cases he:e2=0
 rotate_left
 ·have heb:(e2==0)=false:=beq_false_of_ne he
  have hfin:=uQ (H2.out.trans (if_pos he))
  clear he
  go_wp2_with ((with_reducible refine at_store ⟨?_⟩);refine wl_store aQ rFz evD pQ upD nLz kRz rFz ?_;intro wS hS)
  refine ⟨rfl,_,res_cell_tmp rfl aQ rFz pkD Tryz.underlying54 rfl kRz,_,rfl,?_,?_⟩
  ·rw [hfin.out];rfl
  ·rw [hfin.out];exact LogRep.shut2 (lv:=lv) (Sat.sb hS)
 subst he
 have H3:=uQ (H2.out.trans (if_neg (fun h=>h rfl)))
 clear H2
 go_wp2_with fail
 refine wpL_begin [9,10] (fun w'=>w'.cell? ⟨p,0,none⟩=some (ptr m)) kRz ?_
 have hG:w5.drew.cell? ⟨p,0,none⟩=some (ptr m):=hS5.drew.cellP pkD 0 rfl
 refine rP 0 ?_ (y:=mvQ)
 refine rP 1 ?_ (y:=nlQ)
 refine rP 2 ?_ (y:=flQ)
 refine rt 3 (h:=?_)
 refine rP 4 ?_ (y:=mvQ)
 refine rP 7 ?_ (y:=mvQ)
 refine rg_eff 5 evD kRz (fun K hK=>?_)
 go_simp
 have hB1:=hS5.drew.alloc (.cells #[.int .u8 72,.int .u8 79,.int .u8 65,.int .u8 82,.int .u8 68,.int .u8 83,.int .u8 69,.int .u8 71] 5)
 refine hK _ _ (.inr (.inl (hB1.cellP pkD 0 rfl))) ?_
 clear hK K hG hB1
 refine rg_eff 6 evD kRz (fun K hK=>?_)
 have hcv:(convert 25 25 (.slice (some ⟨w5.heap.size,0,none⟩) 8 8)).run Tryz.prog ((w5.alloc (.cells #[.int .u8 72,.int .u8 79,.int .u8 65,.int .u8 82,.int .u8 68,.int .u8 83,.int .u8 69,.int .u8 71] 5)).drew) = .ok (.slice (some ⟨w5.heap.size,0,none⟩) 8 8) ((w5.alloc (.cells #[.int .u8 72,.int .u8 79,.int .u8 65,.int .u8 82,.int .u8 68,.int .u8 83,.int .u8 69,.int .u8 71] 5 (8,9))).drew):=
  Lib.run_convert_bytes_const (P:=Tryz.prog) w5.drew 25 5 #[.int .u8 72,.int .u8 79,.int .u8 65,.int .u8 82,.int .u8 68,.int .u8 83,.int .u8 69,.int .u8 71] 8 8 Tryz.underlying25 Tryz.underlying5
 have hB:=(hS5.alloc (.cells #[.int .u8 72,.int .u8 79,.int .u8 65,.int .u8 82,.int .u8 68,.int .u8 83,.int .u8 69,.int .u8 71] 5 (8,9))).drew
 go_simp
 refine hK _ _ (.inr (.inl (hB.cellP pkD 0 rfl))) ?_
 clear hK K
 have hrd:=Hr.out _ (hB.sb)
 have hold:rdsl 1 (.slice (some ⟨w5.heap.size,0,none⟩) 8 8) (bys Seg.mag) ((w5.alloc (.cells #[.int .u8 72,.int .u8 79,.int .u8 65,.int .u8 82,.int .u8 68,.int .u8 83,.int .u8 69,.int .u8 71] 5 (8,9))).drew):=by
  refine ⟨_,8,8,rfl,rfl,fun j x hj=>⟨_,rfl,?_⟩⟩
  rw [add_zero_lit]
  have hjl:j<Seg.mag.length:=by
   have:=(List.getElem?_eq_some_iff.1 hj).1
   rw [bys_len]at this;exact this
  have hx:=(mrow_set (l:=Seg.mag) hB hjl 0).1
  unfold bys at hj
  rw [List.getElem?_map,List.getElem?_eq_getElem hjl]at hj
  cases hj
  exact hx
 have hy0:bys b≠[]:=by
  intro h
  apply Hb0.out
  unfold bys at h
  exact List.map_eq_nil_iff.1 h
 have h63:(bys Seg.mag).length+(bys b).length≤maxLen:=by rw [bys_len,bys_len];have:=Hbl.out;unfold maxLen Seg.mag;simp;omega
 have hby:((bys Seg.mag).length+(bys b).length) * i.bytes≤140737488355328:=by rw [bys_len,bys_len,hz2];have:=Hbl.out;unfold Seg.mag;simp;omega
 refine rg_eff 8 evD kRz (fun K hK=>?_)
 refine step_append_fresh (w0:=w0) (xs:=bys Seg.mag) (b:=w5.heap.size) (n:=8) (cap:=8) rFz _ _ _ rFz _ i _ Tryz.underlying25 hi hz0 hz1 rFz rfl (Nat.le_refl _) hold hB.drop rFz rFz hrd hy0 h63 hby ?_
 intro b4 n4 k4 w6 hS6
 clear hcv hrd hold hy0 h63 hby hB
 have hS6:Sat w0 w6 (bsl (.slice (some ⟨b4,0,none⟩) n4 k4) (Seg.mag++b)::MedRep m M2::pt q (.cells #[.int .i64 0,.int .i64 0,.int .i64 0] 54)::logPt p m L1 lv::osl 135 2 lv (segw L1.l)::F):=by
  have e:bys Seg.mag++bys b=bys (Seg.mag++b):=by unfold bys;rw [List.map_append]
  rw [e]at hS6
  exact Sat.sb hS6
 refine hK _ _ (.inr (.inl (hS6.cellP pkD 0 rfl))) ?_
 clear hK K hS5
 refine rg_eff 9 evD kRz (fun K hK=>?_)
 (refine eff_call3 kRz evD evD evD ?_)
 refine (append_c HM2.out oQ (Sat.pk aQ) nm (Seg.mag++b) (by first|assumption|exact Ro.op (Ro.bsl _ _)|exact Ro.os aQ)).mono ?_
 rintro e w7 ⟨v,rfl,rfl,hS7⟩
 refine hK _ _ (.inl rfl) ?_
 clear hK K
 refine rP 10 ?_ (y:=asQ)
 refine wpL_done kRz ?_
 clear hS6
 have HM3:=uQ (HM2.out.append nm (Seg.mag++b))
 generalize M2.append nm (Seg.mag++b)=D at *
 obtain ⟨M3,e3⟩:=D
 by_cases he:e3=0
 ·subst he
  have hfin:=uQ (H3.out.trans (if_pos rfl))
  have c2:w7.cell? ⟨p,2,none⟩=some lv:=hS7.cellP pkD 2 rfl
  have hwl:IntKind.i64.wrap (8+(b.length:Int))=8+(b.length:Int):=by rw [IntKind.wrap_i64];have:=Hbl.out;omega
  obtain ⟨ii,hii,hy0,hy1,hy2⟩:=info_parts infoSeg
  have h7:=hS7.alloc (.cells #[.int .i64 n,.int .i64 (8+(b.length:Int))] 135)
  have hoc:∀ u∈(#[.int .i64 n,.int .i64 (8+(b.length:Int))]:Array Value).toList,u.oneCell'=true:=by
   intro u hu
   simp only [List.mem_cons,List.not_mem_nil,or_false]at hu
   rcases hu with rfl|rfl <;> rfl
  have h63:(segw L1.l).length+2≤maxLen:=by rw [segw_len];have:=hln.out;unfold maxLen;omega
  have hby:((segw L1.l).length+2) * ii.bytes≤140737488355328:=by rw [segw_len,hy2];have:=hln.out;omega
  have h8:Sat w0 _ (osl 135 2 lv (segw L1.l)::logPt p m L1 lv::pt q (.cells #[.int .i64 0,.int .i64 0,.int .i64 0] 54)::MedRep m M3::F):=h7.sb
  have hwf:IntKind.i64.wrap (L1.fresh+1)=L1.fresh+1:=by rw [IntKind.wrap_i64];have:=hfr.out;have:=hln.out;omega
  go_wp2_with (first
   |(at_builtin;refine wpList_append (w0:=w0) rFz _ _ _ rFz _ ii _ Tryz.underlying131 hii hy0 hy1 rFz oQ rFz rFz hoc h8 (rdsl_new _ _ _ 2 1 1 rFz) h63 hby ?_;intro v2 w8 hS8 hne;obtain ⟨ab,an,ac,rfl⟩:=hne (by simp);clear h8 h7 hS7 c2 hoc h63 hby hne)
   |((with_reducible refine at_load ⟨?_⟩);refine wl_load1 aQ rFz pkD nLz evD kRz ?_)|((with_reducible refine at_store ⟨?_⟩);refine wl_store aQ rFz evD pQ upD nLz kRz rFz ?_;intro wS hS))
  refine ⟨rfl,_,res_cell_tmp rfl aQ rFz pkD Tryz.underlying54 rfl kRz,_,rfl,?_,?_⟩
  ·rw [hfin.out];rfl
  ·rw [hfin.out]
   have e:segw L1.l++[.int .i64 n,.int .i64 (8+(b.length:Int))]=segw (L1.l++[(n,8+(b.length:Int))]):=segw_snoc _ _ _
   rw [e]at hS
   exact LogRep.shut2 (lv:= .slice (some ⟨ab,0,none⟩) an ac) (Sat.sb hS)
 have H4:=uQ (H3.out.trans (if_neg he))
 have heb:(e3==0)=false:=beq_false_of_ne he
 clear he H3
 by_cases he:e3=11
 ·subst he
  have H5:=uQ (H4.out.trans (if_pos rfl))
  have e0:w7.cell? ⟨p,0,none⟩=some (ptr m):=hS7.cellP pkD 0 rfl
  go_wp2_with fail
  refine (remove_c HM3.out oQ (Sat.pk aQ) nm).mono ?_
  rintro e w8 ⟨v,rfl,rfl,hS8⟩
  clear hS7 e0
  generalize M3.remove nm=E at *
  obtain ⟨M4,e4⟩:=E
  by_cases he:e4=0
  ·subst he
   go_wp2_with ((with_reducible refine at_store ⟨?_⟩);refine wl_store aQ rFz evD pQ upD nLz kRz rFz ?_;intro wS hS)
   refine ⟨rfl,_,res_cell_tmp rfl aQ rFz pkD Tryz.underlying54 rfl kRz,_,rfl,?_,?_⟩
   ·rw [H5.out];rfl
   ·rw [H5.out];exact LogRep.shut2 (lv:=lv) (Sat.sb hS)
  ·have heb:(e4==0)=false:=beq_false_of_ne he
   have H6:=uQ (H5.out.trans (by rw [if_neg he]))
   clear he
   go_wp2_with ((with_reducible refine at_store ⟨?_⟩);refine wl_store aQ rFz evD pQ upD nLz kRz rFz ?_;intro wS hS)
   refine ⟨rfl,_,res_cell_tmp rfl aQ rFz pkD Tryz.underlying54 rfl kRz,_,rfl,?_,?_⟩
   ·rw [H6.out];rfl
   ·rw [H6.out];exact LogRep.shut2 (lv:=lv) (Sat.sb hS)
 ·have hfin:=uQ (H4.out.trans (if_neg he))
  have heb2:(e3==11)=false:=beq_false_of_ne he
  clear he H4
  go_wp2_with ((with_reducible refine at_store ⟨?_⟩);refine wl_store aQ rFz evD pQ upD nLz kRz rFz ?_;intro wS hS)
  refine ⟨rfl,_,res_cell_tmp rfl aQ rFz pkD Tryz.underlying54 rfl kRz,_,rfl,?_,?_⟩
  ·rw [hfin.out];rfl
  ·rw [hfin.out];exact LogRep.shut2 (lv:=lv) (Sat.sb hS)
end
end Go.Proofs.YtlinnpehkfbnkaaGreatDoor
namespace Go.Seg
open Go.Med
theorem encode_ne (x:Frm.Ent) (h:(Frm.encode x).2=0):(Frm.encode x).1≠[]:=by
 unfold Frm.encode at *
 split at h
 ·rename_i hc;exact absurd h hc
 ·rename_i hc
  rw [if_neg hc]
  intro e
  have:=congrArg List.length e
  simp [Frm.le_len]at this
theorem Log.append_bad {L:Log}{M:Med}{x:Frm.Ent} (h:(Frm.encode x).2≠0):L.append M x=((L,M),Plc.zero,(Frm.encode x).2):=by
 unfold Log.append;rw [if_pos h]
theorem Log.append_grow {L:Log}{M:Med}{x:Frm.Ent} (h:(Frm.encode x).2=0) (hf:L.fits (Frm.encode x).1.length=true):L.append M x=L.grow M (Frm.encode x).1:=by
 unfold Log.append;rw [if_neg (fun hh=>hh h),if_pos hf]
theorem Log.append_begin {L:Log}{M:Med}{x:Frm.Ent} (h:(Frm.encode x).2=0) (hf:L.fits (Frm.encode x).1.length=false):L.append M x=L.begin M (Frm.encode x).1:=by
 unfold Log.append;rw [if_neg (fun hh=>hh h),if_neg (by rw [hf];decide)]
theorem Log.fits_off {L:Log} (n:Nat) (h:L.on=false):L.fits n=false:=by unfold Log.fits;rw [h];rfl
theorem Log.fits_on {L:Log}{s:Int×Int} (n:Nat) (h:L.on=true) (hl:L.l.getLast?=some s):L.fits n=decide (s.2+n≤L.limit):=by
 unfold Log.fits;rw [h,hl];rfl
end Go.Seg
namespace Go.Proofs.YtlinnpehkfbnkaaGreatDoor
open Go Go.Sl Go.Med Go.MapKept Go.RowKit
section
variable {w0 w:World}{F R:List HProp}{v bv dv x lv:Value}{q p m K:Nat}{L:Seg.Log}{M:Med}{s:Int×Int}
theorem seg_block2 (hl:L.l.getLast?=some s) (h:Sat w0 w (logPt p m L lv::osl 135 2 lv (segw L.l)::F)) :
  ∃ bk n cap cs,lv = .slice (some ⟨bk,0,none⟩) (n+1) cap∧SegBlk L.l n cap cs∧cs[n * 2]?=some (.int .i64 s.1)∧cs[n * 2+1]?=some (.int .i64 s.2) ∧
   Sat w0 w (logPt p m L (.slice (some ⟨bk,0,none⟩) (n+1) cap)::pt bk (.cells cs 135 (0,0))::F):=seg_block hl h
set_option maxRecDepth 20000 in
theorem lappend_c (e:Frm.Ent) (hk:e.key.length=32) (da:Option Addr) (dc:Nat) (hd:Ro w0 F (rdsl 1 (.slice da e.data.length dc) (bys e.data))) (hH:Ro w0 F Half) (hLd:e.data.length≤1099511627)
  (hL:L.Ok) (hM:M.Ok K) (hKK:K+4≤1099511627776) (h:Sat w0 w (LogRep p m L::MedRep m M::F)) :
  Calls Tryz.prog 18 #[ptr p,.agg (entA e (.slice da e.data.length dc))] w (Rtn fun v w'=>v = .tuple #[plcA (L.append M e).2.1,errno (L.append M e).2.2] ∧
   Sat w0 w' (LogRep p m (L.append M e).1.1::MedRep m (L.append M e).1.2::F)):=by
 obtain ⟨lv,hR⟩:=LogRep.open2 h
 clear h
 have hsz:=entA_size e (.slice da e.data.length dc) hk
 have Hsz:=uQ hsz
 have Hd:=uQ hd;have HH:=uQ hH;have Hk:=uQ hk;have HLd:=uQ hLd
 have HL:=uQ hL;have HM:=uQ hM
 have Hln:=uQ hL.len
 have Hel:=uQ (show (Frm.encode e).1.length≤16425 from Seg.encode_len e hk)
 have Hne:=uQ (Seg.encode_ne e)
 have A0:=uQ (Seg.Log.append_bad (L:=L) (M:=M) (x:=e))
 have A1:=uQ (Seg.Log.append_grow (L:=L) (M:=M) (x:=e))
 have A2:=uQ (Seg.Log.append_begin (L:=L) (M:=M) (x:=e))
 clear hsz hd hH hk hLd hL hM
 go_enter Tryz.func18,Tryz.ntmps18
 go_wp2_with (first
  |((with_reducible refine at_box ⟨?_⟩);refine wl_box aQ rFz (cs:=entA e (.slice da e.data.length dc)) rfl ?_;intro q3 w1 hS1)
  |(refine wl_alloc zPlace aQ rfl ?_;intro q w2 hS2))
 refine (ok_c (Sat.pk aQ)).mono ?_
 rintro ee w3 ⟨v,rfl,rfl,rfl⟩
 clear hS1 hR
 go_wp2_with ((with_reducible refine at_load ⟨?_⟩);refine wl_loadA aQ rFz pkD Tryz.underlying27 rFz (by rw [Hsz.out];kernel_rfl) ?_)
 refine (encode_c e Hk.out da dc (by first|assumption|exact Ro.op (Ro.bsl _ _)|exact Ro.os aQ) (by first|assumption|exact Ro.op (Ro.bsl _ _)|exact Ro.os aQ) hS2 HLd.out).mono ?_
 rintro ee w3 ⟨v,rfl,bv,rfl,⟨ba,bn,bc,rfl⟩,hS3⟩
 clear hS2
 generalize hE:Frm.encode e=E at *
 have HE:=uQ hE
 clear hE
 obtain ⟨b,e1⟩:=E
 have Hel2:Hid (b.length≤16425):=Hel
 by_cases he:e1=0
 rotate_left
 ·have heb:(e1==0)=false:=beq_false_of_ne he
  have hfin:=uQ (A0.out he)
  clear he
  go_wp2_with ((with_reducible refine at_store ⟨?_⟩);refine wl_store aQ rFz evD pQ upD nLz kRz rFz ?_;intro wS hS)
  refine ⟨rfl,_,res_cell_tmp rfl aQ rFz pkD Tryz.underlying54 rfl kRz,_,rfl,?_,?_⟩
  ·rw [hfin.out];rfl
  ·rw [hfin.out];exact LogRep.shut2 (lv:=lv) (Sat.sb hS)
 subst he
 have hbn:bn=b.length:=by
  obtain ⟨a',n',c',he,hl,_⟩:=Sat.rd hS3
  cases he
  rw [bys_len,Nat.mul_one]at hl
  exact hl.symm
 subst hbn
 have Hb0:=uQ (Hne.out rfl)
 clear A0 Hne
 cases hon:L.on
 ·have hf:=Seg.Log.fits_off b.length hon
  have hfin:=uQ (A2.out rfl hf)
  have c3:w3.cell? ⟨p,3,none⟩=some (.bool false):=hS3.cellP pkD 3 (by rw [← hon];rfl)
  clear hf A1 A2 hon
  go_wp2_with fail
  have hS4:=hS3.drew
  have c3':w3.drew.cell? ⟨p,3,none⟩=some (.bool false):=c3
  go_region
  clear c3 c3'
  have hS5:Sat w0 _ (LogRep p m L::MedRep m M::_):=LogRep.shut2 (lv:=lv) (hS4.sb)
  go_wp2_with fail
  refine (begin_c HL.out HM.out hKK b Hb0.out (by have:=Hel2.out;omega) (by first|assumption|exact Ro.op (Ro.bsl _ _)|exact Ro.os aQ) hS5).mono ?_
  rintro ee w5 ⟨v,rfl,rfl,hS6⟩
  clear hS4 hS5 hS3
  go_wp2_with ((with_reducible refine at_store ⟨?_⟩);refine wl_store aQ rFz evD pQ upD nLz kRz rFz ?_;intro wS hS)
  refine ⟨rfl,_,res_cell_tmp rfl aQ rFz pkD Tryz.underlying54 rfl kRz,_,rfl,?_,?_⟩
  ·rw [hfin.out];rfl
  ·rw [hfin.out];exact Sat.sb hS
 ·obtain ⟨s,hl⟩:=HL.out.last hon
  obtain ⟨bk,n,cap,cs,rfl,hb,c0,c1,hB⟩:=seg_block2 hl (hS3.sb)
  have hf:=Seg.Log.fits_on b.length hon hl
  have hs:=HL.out.sizes s (List.mem_of_getLast? hl)
  have hlim:=HL.out.limit
  have hn:=hb.len
  have hln:=Hln.out
  have hn0:(n:Int)<(n:Int)+1:=oQ
  have hwn:IntKind.i64.wrap (n:Int)=(n:Int):=by rw [IntKind.wrap_i64];omega
  have hwz:IntKind.i64.wrap (s.2+(b.length:Int))=s.2+(b.length:Int):=by rw [IntKind.wrap_i64];have:=Hel2.out;omega
  have g1:w3.drew.cell? ⟨p,1,none⟩=some (.int .i64 L.limit):=hB.drew.cellP pkD 1 rfl
  have g2:w3.drew.cell? ⟨p,2,none⟩=some (.slice (some ⟨bk,0,none⟩) (n+1) cap):=hB.drew.cellP pkD 2 rfl
  have g3:w3.drew.cell? ⟨p,3,none⟩=some (.bool true):=hB.drew.cellP pkD 3 (by rw [← hon];rfl)
  have g4:w3.drew.cell? ⟨bk,n * 2+1,none⟩=some (.int .i64 s.2):=hB.drew.cellP pkD _ c1
  have Hl:=uQ hl;have Hb:=uQ hb;have Hs:=uQ hs
  clear hs hlim hn hln hl hb c0 c1 hon hB
  by_cases hfit:s.2+(b.length:Int)≤L.limit
  ·have hfd:decide (s.2+(b.length:Int)≤L.limit)=true:=decide_eq_true hfit
   have hfin:=uQ (A1.out rfl (hf.trans hfd))
   clear hf hfd A1 A2
   go_wp2_with fail
   have hS4:=hS3.drew
   go_region
   clear g1 g2 g3 g4
   have hS5:Sat w0 _ (LogRep p m L::MedRep m M::_):=LogRep.shut2 (lv:= .slice (some ⟨bk,0,none⟩) (n+1) cap) (hS4.sb)
   go_wp2_with fail
   refine (grow_c Hl.out Hs.out HM.out oQ Hln.out b (by have:=Hel2.out;omega) (by first|assumption|exact Ro.op (Ro.bsl _ _)|exact Ro.os aQ) hS5).mono ?_
   rintro ee w5 ⟨v,rfl,rfl,hS6⟩
   clear hS4 hS5 hS3
   go_wp2_with ((with_reducible refine at_store ⟨?_⟩);refine wl_store aQ rFz evD pQ upD nLz kRz rFz ?_;intro wS hS)
   refine ⟨rfl,_,res_cell_tmp rfl aQ rFz pkD Tryz.underlying54 rfl kRz,_,rfl,?_,?_⟩
   ·rw [hfin.out];rfl
   ·rw [hfin.out];exact Sat.sb hS
  ·have hfd:decide (s.2+(b.length:Int)≤L.limit)=false:=decide_eq_false hfit
   have hfin:=uQ (A2.out rfl (hf.trans hfd))
   clear hf hfd A1 A2
   go_wp2_with fail
   have hS4:=hS3.drew
   go_region
   clear g1 g2 g3 g4
   have hS5:Sat w0 _ (LogRep p m L::MedRep m M::_):=LogRep.shut2 (lv:= .slice (some ⟨bk,0,none⟩) (n+1) cap) (hS4.sb)
   go_wp2_with fail
   refine (begin_c HL.out HM.out hKK b Hb0.out (by have:=Hel2.out;omega) (by first|assumption|exact Ro.op (Ro.bsl _ _)|exact Ro.os aQ) hS5).mono ?_
   rintro ee w5 ⟨v,rfl,rfl,hS6⟩
   clear hS4 hS5 hS3
   go_wp2_with ((with_reducible refine at_store ⟨?_⟩);refine wl_store aQ rFz evD pQ upD nLz kRz rFz ?_;intro wS hS)
   refine ⟨rfl,_,res_cell_tmp rfl aQ rFz pkD Tryz.underlying54 rfl kRz,_,rfl,?_,?_⟩
   ·rw [hfin.out];rfl
   ·rw [hfin.out];exact Sat.sb hS
end
end Go.Proofs.YtlinnpehkfbnkaaGreatDoor
namespace Go.Seg
open Go.Med
theorem Log.grow_med {L:Log}{M:Med}{K:Nat} (h:M.Ok K) (b:Bs):(L.grow M b).1.2.Ok (K+1):=by
 unfold Log.grow
 split;· exact h.mono (Nat.le_succ K)
 split <;> exact h.append _ _
theorem Log.begin1_med {L:Log}{M:Med}{K:Nat} (h:M.Ok K) (b:Bs):(L.begin1 M b).1.2.Ok (K+3):=by
 have h1:=h.create (name L.next)
 have h2:=h1.append (name L.next) (mag++b)
 have h3:=h2.remove (name L.next)
 unfold Log.begin1
 split;· exact h.mono oQ
 split;· exact h1.mono oQ
 split;· exact h2.mono oQ
 split;· exact h3
 exact h2.mono oQ
theorem Log.append_med {L:Log}{M:Med}{K:Nat} (h:M.Ok K) (x:Frm.Ent):(L.append M x).1.2.Ok (K+4):=by
 unfold Log.append
 split;· exact h.mono oQ
 split;· exact (Log.grow_med h _).mono oQ
 unfold Log.begin
 split
 ·exact Log.begin1_med (Log.shut_med h) _
 ·exact (Log.shut_med h).mono oQ
theorem Log.commit_eq (L:Log) (M:Med):L.commit M=if (L.append M comEnt).2.2≠0 then ((L.append M comEnt).1,0,(L.append M comEnt).2.2)
 else if ((L.append M comEnt).1.2.sync (name (L.append M comEnt).2.1.seg)).2≠0 then (((L.append M comEnt).1.1,((L.append M comEnt).1.2.sync (name (L.append M comEnt).2.1.seg)).1),0,((L.append M comEnt).1.2.sync (name (L.append M comEnt).2.1.seg)).2)
 else if (((L.append M comEnt).1.2.sync (name (L.append M comEnt).2.1.seg)).1.syncDir).2≠0 then (((L.append M comEnt).1.1,(((L.append M comEnt).1.2.sync (name (L.append M comEnt).2.1.seg)).1.syncDir).1),0,(((L.append M comEnt).1.2.sync (name (L.append M comEnt).2.1.seg)).1.syncDir).2)
 else (({ (L.append M comEnt).1.1 with on:=false,fresh:=0 },(((L.append M comEnt).1.2.sync (name (L.append M comEnt).2.1.seg)).1.syncDir).1),(L.append M comEnt).2.1.seg,0):=rfl
end Go.Seg
namespace Go.Proofs.YtlinnpehkfbnkaaGreatDoor
open Go Go.Sl Go.Med Go.MapKept Go.RowKit
section
variable {w0 w:World}{F R:List HProp}{v bv dv x lv:Value}{q p m K:Nat}{L:Seg.Log}{M:Med}{s:Int×Int}
set_option maxRecDepth 20000 in
theorem lcommit_c (hH:Ro w0 F Half) (hL:L.Ok) (hM:M.Ok K) (hKK:K+6≤1099511627776) (h:Sat w0 w (LogRep p m L::MedRep m M::F)) :
  Calls Tryz.prog 19 #[ptr p] w (Rtn fun v w'=>v = .tuple #[.int .i64 (L.commit M).2.1,errno (L.commit M).2.2] ∧
   Sat w0 w' (LogRep p m (L.commit M).1.1::MedRep m (L.commit M).1.2::F)):=by
 have hap:=lappend_c Seg.comEnt rfl none 0 (fun w _=>rdsl_nil 1 0 w) hH dCz hL hM oQ h
 have Hg:=uQ (Seg.Log.commit_eq L M)
 have HL:=uQ (hL.append M Seg.comEnt rfl)
 have HM:=uQ (Seg.Log.append_med (L:=L) hM Seg.comEnt)
 have HH:=uQ hH
 clear hL hM h hH
 generalize L.append M Seg.comEnt=A at *
 obtain ⟨⟨L1,M1⟩,pl,e1⟩:=A
 go_enter Tryz.func19,Tryz.ntmps19
 go_wp2_with fail
 refine hap.mono ?_
 rintro e w1 ⟨v,rfl,rfl,hS1⟩
 clear hap
 by_cases he:e1=0
 rotate_left
 ·have heb:(e1==0)=false:=beq_false_of_ne he
  have hfin:=uQ (Hg.out.trans (if_pos he))
  clear he
  go_wp2_with (first|(refine wl_alloc zPlace aQ rfl ?_;intro q w2 hS2)|((with_reducible refine at_store ⟨?_⟩);refine wl_store aQ rFz evD pQ upD nLz kRz rFz ?_;intro wS hS))
  go_ret2
  refine ⟨.tuple #[.int .i64 0,errno e1],rfl,?_,?_⟩
  ·rw [hfin.out]
  ·rw [hfin.out];exact Sat.sb hS
 subst he
 have H1:=uQ (Hg.out.trans (if_neg (fun h=>h rfl)))
 clear Hg
 go_wp2_with (first|(refine wl_alloc zPlace aQ rfl ?_;intro q w2 hS2)|((with_reducible refine at_store ⟨?_⟩);refine wl_store aQ rFz evD pQ upD nLz kRz rFz ?_;intro wS hS))
 have hS1:=hS
 clear hS hS2
 obtain ⟨lv,hR⟩:=LogRep.open2 (Sat.pk aQ)
 clear hS1
 go_wp2_with fail
 refine wpL_begin [7,8] (fun w'=>w'.cell? ⟨p,0,none⟩=some (ptr m)∧w'.cell? ⟨q,0,none⟩=some (.int .i64 pl.seg)) kRz ?_
 have hG:(World.drew _).cell? ⟨p,0,none⟩=some (ptr m)∧(World.drew _).cell? ⟨q,0,none⟩=some (.int .i64 pl.seg):=⟨hR.drew.cellP pkD 0 rfl,hR.drew.cellP pkD 0 rfl⟩
 refine rP 0 ?_ (y:=mvQ)
 refine rP 1 ?_ (y:=nlQ)
 refine rP 2 ?_ (y:=flQ)
 refine rt 3 (h:=?_)
 refine rP 4 ?_ (y:=flQ)
 refine rt 5 (h:=?_)
 clear hG
 refine rg_eff 6 evD kRz (fun K hK=>?_)
 (refine eff_call1 kRz evD ?_)
 refine (sname_c pl.seg hR.drew).mono ?_
 rintro e w3 ⟨v,rfl,rfl,hS3⟩
 refine hK _ _ (.inr (.inl ⟨hS3.cellP pkD 0 rfl,hS3.cellP pkD 0 rfl⟩)) ?_
 clear hK K
 refine rg_eff 7 evD kRz (fun K hK=>?_)
 (refine eff_call2 kRz evD evD ?_)
 refine (sync_c HM.out (Sat.pk aQ) _).mono ?_
 rintro e w4 ⟨v,rfl,rfl,hS4⟩
 refine hK _ _ (.inl rfl) ?_
 clear hK K hS3 hR
 refine rP 8 ?_ (y:=asQ)
 refine wpL_done kRz ?_
 have HM2:=uQ (HM.out.sync (Seg.name pl.seg))
 generalize M1.sync (Seg.name pl.seg)=B at *
 obtain ⟨M2,e2⟩:=B
 by_cases he:e2=0
 rotate_left
 ·have heb:(e2==0)=false:=beq_false_of_ne he
  have hfin:=uQ (H1.out.trans (if_pos he))
  clear he
  go_wp2_with fail
  go_ret2
  refine ⟨.tuple #[.int .i64 0,errno e2],rfl,?_,?_⟩
  ·rw [hfin.out]
  ·rw [hfin.out];exact LogRep.shut2 (lv:=lv) (Sat.sb hS4)
 subst he
 have H2:=uQ (H1.out.trans (if_neg (fun h=>h rfl)))
 clear H1
 have e0:w4.cell? ⟨p,0,none⟩=some (ptr m):=hS4.cellP pkD 0 rfl
 go_wp2_with fail
 refine (syncDir_c HM2.out (Sat.pk aQ)).mono ?_
 rintro e w5 ⟨v,rfl,rfl,hS5⟩
 clear hS4 e0
 generalize M2.syncDir=C at *
 obtain ⟨M3,e3⟩:=C
 by_cases he:e3=0
 rotate_left
 ·have heb:(e3==0)=false:=beq_false_of_ne he
  have hfin:=uQ (H2.out.trans (if_pos he))
  clear he
  go_wp2_with fail
  go_ret2
  refine ⟨.tuple #[.int .i64 0,errno e3],rfl,?_,?_⟩
  ·rw [hfin.out]
  ·rw [hfin.out];exact LogRep.shut2 (lv:=lv) (Sat.sb hS5)
 subst he
 have hfin:=uQ (H2.out.trans (if_neg (fun h=>h rfl)))
 clear H2
 go_wp2_with (first|((with_reducible refine at_load ⟨?_⟩);refine wl_load1 aQ rFz pkD nLz evD kRz ?_)|((with_reducible refine at_store ⟨?_⟩);refine wl_store aQ rFz evD pQ upD nLz kRz rFz ?_;intro wS hS))
 go_ret2
 refine ⟨.tuple #[.int .i64 pl.seg,errno 0],rfl,?_,?_⟩
 ·rw [hfin.out]
 ·rw [hfin.out];exact LogRep.shut2 (lv:=lv) (Sat.sb hS)
end
end Go.Proofs.YtlinnpehkfbnkaaGreatDoor
namespace Go.Seg
def idx (l:List (Int×Int)) (n:Int):Int:=match l.findIdx? (fun s=>s.1==n) with
 |some i=>i
 |none=> -1
theorem find_idx (L:Log) (n:Int):L.find n=idx L.l n:=rfl
theorem idx_at {l:List (Int×Int)}{n:Int}{i:Nat}{s:Int×Int} (hs:l[i]?=some s) (hn:s.1=n) (hp:∀ (j:Nat) (t:Int×Int),j<i→l[j]?=some t→t.1≠n):idx l n=i:=by
 unfold idx
 have:l.findIdx? (fun s=>s.1==n)=some i:=by
  rw [List.findIdx?_eq_some_iff_getElem]
  obtain ⟨h1,h2⟩:=List.getElem?_eq_some_iff.1 hs
  refine ⟨h1,by rw [h2];simpa using hn,fun j hj=>?_⟩
  have:=hp j _ hj (List.getElem?_eq_getElem oQ)
  simpa using this
 rw [this]
theorem idx_no {l:List (Int×Int)}{n:Int} (hp:∀ (j:Nat) (t:Int×Int),j<l.length→l[j]?=some t→t.1≠n):idx l n = -1:=by
 unfold idx
 have:l.findIdx? (fun s=>s.1==n)=none:=by
  rw [List.findIdx?_eq_none_iff]
  intro t ht
  obtain ⟨j,hj,rfl⟩:=List.getElem_of_mem ht
  have:=hp j _ hj (List.getElem?_eq_getElem hj)
  simpa using this
 rw [this]
end Go.Seg
namespace Go.Proofs.YtlinnpehkfbnkaaGreatDoor
open Go Go.Sl Go.Med Go.MapKept Go.RowKit
section
variable {w0 w:World}{F R:List HProp}{v bv dv x lv:Value}{q p m K:Nat}{L:Seg.Log}{M:Med}{s:Int×Int}
theorem find1_c (s:Int×Int) (n:Int) (h:Sat w0 w F) (hq:Ro w0 F fun w=>w.cell? ⟨q,0,none⟩=some (.int .i64 n)) :
  Calls Tryz.prog 135 #[.agg #[.int .i64 s.1,.int .i64 s.2],ptr q] w (Rtn fun v w'=>v = .bool (s.1==n)∧Sat w0 w' F):=by
 go_enter Tryz.func135,Tryz.ntmps135
 go_wp2_with (first|(((with_reducible refine at_box ⟨?_⟩);refine wl_box aQ evD evD ?_;intro bB wB hB);have c0:wB.cell? ⟨q,0,none⟩=some (.int .i64 n):=hq _ hB.drop)|((with_reducible refine at_load ⟨?_⟩);refine wl_load1 aQ rFz pkD nLz evD kRz ?_))
 go_ret
 exact ⟨_,rfl,rfl,hB.drop⟩
theorem idxf_c (l:List (Int×Int)) (n:Int) (hln:l.length≤1048576) (h:Sat w0 w (osl 135 2 lv (segw l)::F)) (hq:Ro w0 F fun w=>w.cell? ⟨q,0,none⟩=some (.int .i64 n)) :
  Calls Tryz.prog 134 #[lv,.func (.func 135) #[] #[ptr q]] w (Rtn fun v w'=>v = .int .i64 (Seg.idx l n)∧Sat w0 w' (osl 135 2 lv (segw l)::F)):=by
 rcases h.osl_cases with ⟨rfl,hx,hF⟩|⟨b,n',cap,cs,rfl,hll,hn',hc,hcm,htk,hp⟩
 ·have hl:l=[]:=by
   cases l with
   |nil=>rfl
   |cons a l=>simp [segw]at hx
  subst hl
  go_enter Tryz.func134,Tryz.ntmps134
  go_wp2_with fail
  go_loopg [8] 0 (fun g iq wr=>iq = .int .i64 0∧wr=w)
  case atStart=>exact ⟨rfl,rfl⟩
  case round=>
   obtain ⟨rfl,rfl⟩:=hrel
   go_wp2
   go_ret
   exact ⟨_,rfl,rfl,h⟩
 ·rw [segw_len]at hll
  obtain rfl:n'=l.length:=by omega
  have hcl:∀ (i:Nat) (s:Int×Int),l[i]?=some s→cs[i * 2]?=some (.int .i64 s.1)∧cs[i * 2+1]?=some (.int .i64 s.2):=by
   intro i s hs
   obtain ⟨h1,h2⟩:=segw_at _ _ _ hs
   rw [Nat.mul_comm i 2]
   exact ⟨take_get htk h1,take_get htk h2⟩
  have Hcl:=uQ hcl
  have Hend:=uQ (show ∀ wr,Sat w0 wr (pt b (.cells cs 135 (0,0))::F)→Sat w0 wr (osl 135 2 (.slice (some ⟨b,0,none⟩) l.length cap) (segw l)::F) from fun wr hS=>Sat.osl_of_pt hS (by rw [segw_len];omega) hn' hc hcm htk)
  have Hq:=uQ hq
  clear hcl hn' hc hcm htk h hq hll
  go_enter Tryz.func134,Tryz.ntmps134
  go_wp2_with fail
  go_loopg [8] l.length (fun g iq wr=>∃ i:Nat,g=l.length - i∧i≤l.length∧iq = .int .i64 i∧Sat w0 wr (pt b (.cells cs 135 (0,0))::F)∧Hid (∀ (j:Nat) (t:Int×Int),j<i→l[j]?=some t→t.1≠n))
  case atStart=>exact ⟨0,rfl,Nat.zero_le _,rfl,hp,uQ fun j t hj=>absurd hj (Nat.not_lt_zero j)⟩
  case round=>
   obtain ⟨i,rfl,hi,rfl,hS,Hp⟩:=hrel
   clear hp
   by_cases hlt:i<l.length
   ·obtain ⟨s,hs⟩:∃ s,l[i]?=some s:=⟨_,List.getElem?_eq_getElem hlt⟩
    obtain ⟨d0,d1⟩:=Hcl.out i s hs
    have Hs:=uQ hs;have Hd0:=uQ d0;have Hd1:=uQ d1;have Hlt:=uQ hlt
    have hic:(i:Int)<(l.length:Int):=oQ
    have hwi:=iwQ (i:=i)
    clear hs d0 d1 hlt
    have hfn:=find1_c (q:=q) s n hS (Ro.os Hq.out)
    go_wp2_with ((with_reducible refine at_load ⟨?_⟩);refine wl_loadN (b:=b) (o:=i * 2) [.int .i64 s.1,.int .i64 s.2] aQ rFz pkD (fun j v hj=>by
     rcases j with _|_|j
     ·cases hj;exact Hd0.out
     ·cases hj;exact Hd1.out
     ·simp at hj) Tryz.underlying135 rfl kRz ?_)
    refine hfn.mono ?_
    rintro e w2 ⟨v,rfl,rfl,hS2⟩
    clear hfn hS
    by_cases hsn:s.1=n
    ·have hsb:(s.1==n)=true:=by simpa using hsn
     have Hfin:=uQ (Seg.idx_at Hs.out hsn Hp.out)
     clear hsn
     go_wp2
     go_ret
     exact ⟨.int .i64 i,rfl,by rw [Hfin.out],Hend.out _ hS2⟩
    ·have hsb:(s.1==n)=false:=by simpa using hsn
     have Hp2:=uQ (show ∀ (j:Nat) (t:Int×Int),j<i+1→l[j]?=some t→t.1≠n by
      intro j t hj ht
      by_cases hji:j<i
      ·exact Hp.out j t hji ht
      ·obtain rfl:j=i:=by omega
       rw [Hs.out]at ht;cases ht;exact hsn)
     clear hsn Hp
     go_wp2
     go_roundg (l.length - (i+1))
     case measure=>have:=Hlt.out;omega
     case rel=>exact ⟨i+1,rfl,Nat.succ_le_of_lt Hlt.out,by first|rfl|go_num,hS2,Hp2⟩
   ·obtain rfl:i=l.length:=by omega
    have hic:¬ (l.length:Int)<(l.length:Int):=oQ
    have Hfin:=uQ (Seg.idx_no Hp.out)
    clear hi hlt Hp
    go_wp2
    go_ret
    exact ⟨.int .i64 (-1),rfl,by rw [Hfin.out],Hend.out _ hS⟩
theorem lfind_c (hL:L.Ok) (n:Int) (h:Sat w0 w (LogRep p m L::F)) :
  Calls Tryz.prog 71 #[ptr p,.int .i64 n] w (Rtn fun v w'=>v = .int .i64 (L.find n)∧Sat w0 w' (LogRep p m L::F)):=by
 obtain ⟨lv,hR⟩:=LogRep.open2 h
 clear h
 have Hln:=uQ hL.len
 rw [Seg.find_idx]
 clear hL
 go_enter Tryz.func71,Tryz.ntmps71
 go_wp2_with ((with_reducible refine at_box ⟨?_⟩);refine wl_box aQ evD evD ?_;intro bB wB hB)
 refine (ok_c (Sat.pk aQ)).mono ?_
 rintro e w2 ⟨v,rfl,rfl,rfl⟩
 clear hR
 go_wp2_with ((with_reducible refine at_load ⟨?_⟩);refine wl_load1 aQ rFz pkD nLz evD kRz ?_)
 refine (idxf_c (q:=bB) (lv:=lv) L.l n Hln.out (Sat.pk aQ) (fun w hw=>hw.cellP pkD 0 rfl)).mono ?_
 rintro e w3 ⟨v,rfl,rfl,hS3⟩
 clear hB
 go_wp2
 go_ret
 exact ⟨_,rfl,rfl,LogRep.shut2 (lv:=lv) (Sat.sb hS3)⟩
theorem find_neg (n:Int):(L.at n=none∧L.find n = -1)∨∃ i,L.at n=some i∧L.find n=i:=by
 unfold Seg.Log.find
 cases L.at n with
 |none=>exact .inl ⟨rfl,rfl⟩
 |some i=>exact .inr ⟨i,rfl,rfl⟩
theorem lsize_c (hL:L.Ok) (n:Int) (h:Sat w0 w (LogRep p m L::F)) :
  Calls Tryz.prog 143 #[ptr p,.int .i64 n] w (Rtn fun v w'=>v = .int .i64 (L.size n)∧Sat w0 w' (LogRep p m L::F)):=by
 have hf:=lfind_c hL n h
 have Hln:=uQ hL.len
 rcases find_neg (L:=L) n with ⟨ha,hb⟩|⟨i,ha,hb⟩
 ·have Hfin:=uQ (show L.size n=0 by unfold Seg.Log.size;rw [ha])
  rw [hb]at hf
  clear ha hb hL h
  go_enter Tryz.func143,Tryz.ntmps143
  go_wp2_with fail
  refine hf.mono ?_
  rintro e w2 ⟨v,rfl,rfl,hS2⟩
  clear hf
  go_wp2
  go_ret
  rw [Hfin.out]
  exact ⟨_,rfl,rfl,hS2⟩
 ·rw [hb]at hf
  obtain ⟨hlt,s,hs,hsn⟩:=Seg.Log.at_lt ha
  have Hfin:=uQ (show L.size n=s.2 by unfold Seg.Log.size;rw [ha];simp only;rw [List.getD_eq_getElem?_getD,hs];rfl)
  have Hs:=uQ hs
  have hi0:(0:Int)≤(i:Int):=oQ
  have hil:(i:Int)<(L.l.length:Int):=oQ
  have hd:decide ((i:Int)<0)=false:=decide_eq_false oQ
  clear ha hb hL h hs hsn hlt
  go_enter Tryz.func143,Tryz.ntmps143
  go_wp2_with fail
  refine hf.mono ?_
  rintro e w2 ⟨v,rfl,rfl,hS2⟩
  clear hf
  obtain ⟨lv,hR⟩:=LogRep.open2 hS2
  rcases (hR.pk).osl_cases with ⟨hl,hx,hF⟩|⟨b,n',cap,cs,rfl,hll,hn',hc,hcm,htk,hp⟩
  ·exfalso
   have:=(segw_at _ _ _ Hs.out).1
   rw [hx]at this;simp at this
  ·rw [segw_len]at hll
   obtain rfl:n'=L.l.length:=by omega
   have e2:w2.cell? ⟨b,i * 2+1,none⟩=some (.int .i64 s.2):=by
    have:=take_get htk (segw_at _ _ _ Hs.out).2
    rw [Nat.mul_comm 2 i]at this
    exact hp.cellP pkD _ this
   clear hp htk hc hn' hll hcm
   go_wp2_with ((with_reducible refine at_load ⟨?_⟩);refine wl_load1 aQ rFz pkD nLz evD kRz ?_)
   go_ret
   rw [Hfin.out]
   exact ⟨_,rfl,rfl,hS2⟩
set_option maxRecDepth 20000 in
theorem lbytes_c (hL:L.Ok) (hM:M.Ok K) (n:Int) (h:Sat w0 w (LogRep p m L::MedRep m M::F)) :
  Calls Tryz.prog 55 #[ptr p,.int .i64 n] w (Rtn fun v w'=>∃ bv,v = .tuple #[bv,errno (L.bytes M n).2]∧Sat w0 w' (bsl bv (L.bytes M n).1::LogRep p m L::MedRep m M::F)):=by
 obtain ⟨lv,hR⟩:=LogRep.open2 h
 have hok:=ok_c hR
 have hf:=lfind_c hL n h
 rcases find_neg (L:=L) n with ⟨ha,hb⟩|⟨i,ha,hb⟩
 ·have Hfin:=uQ (show L.bytes M n=([],9) by unfold Seg.Log.bytes;rw [ha])
  rw [hb]at hf
  clear ha hb hL h hR
  go_enter Tryz.func55,Tryz.ntmps55
  go_wp2_with fail
  refine hok.mono ?_
  rintro e w2 ⟨v,rfl,rfl,rfl⟩
  clear hok
  go_wp2_with fail
  refine hf.mono ?_
  rintro e w2 ⟨v,rfl,rfl,hS2⟩
  clear hf
  go_wp2
  go_ret2
  rw [Hfin.out]
  exact ⟨_,rfl,.slice none 0 0,rfl,Sat.osl_nil.2 hS2⟩
 ·rw [hb]at hf
  have Hfin:=uQ (show L.bytes M n=M.all (Seg.name n) by unfold Seg.Log.bytes;rw [ha])
  have hi0:(0:Int)≤(i:Int):=oQ
  have hd:decide ((i:Int)<0)=false:=decide_eq_false oQ
  clear ha hb hL h hR lv
  go_enter Tryz.func55,Tryz.ntmps55
  go_wp2_with fail
  refine hok.mono ?_
  rintro e w2 ⟨v,rfl,rfl,rfl⟩
  clear hok
  go_wp2_with fail
  refine hf.mono ?_
  rintro e w2 ⟨v,rfl,rfl,hS2⟩
  clear hf
  obtain ⟨lv,hR⟩:=LogRep.open2 hS2
  clear hS2
  go_wp2_with fail
  refine wpL_begin [6,7,8,9,10] (fun w'=>w'.cell? ⟨p,0,none⟩=some (ptr m)) kRz ?_
  have hG:w2.drew.cell? ⟨p,0,none⟩=some (ptr m):=hR.drew.cellP pkD 0 rfl
  refine rP 0 ?_ (y:=mvQ)
  refine rP 1 ?_ (y:=nlQ)
  refine rP 2 ?_ (y:=flQ)
  refine rt 3 (h:=?_)
  refine rP 4 ?_ (y:=mvQ)
  clear hG
  refine rg_eff 5 evD kRz (fun K hK=>?_)
  (refine eff_call1 kRz evD ?_)
  refine (sname_c n hR.drew).mono ?_
  rintro e w3 ⟨v,rfl,rfl,hS3⟩
  refine hK _ _ (.inr (.inl (hS3.cellP pkD 0 rfl))) ?_
  clear hK K hR
  refine rg_eff 6 evD kRz (fun K hK=>?_)
  (refine eff_call2 kRz evD evD ?_)
  refine (all_c hM (Sat.pk aQ) _).mono ?_
  rintro e w4 ⟨v,rfl,bv,rfl,hS4⟩
  refine hK _ _ (.inl rfl) ?_
  clear hK K hS3
  refine rP 7 ?_ (y:=(yl_extract evD rnD))
  refine rP 8 ?_ (y:=(yl_extract evD rnD))
  refine rP 9 ?_ (y:=asQ)
  refine rP 10 ?_ (y:=asQ)
  refine wpL_done kRz ?_
  go_wp2
  go_ret2
  rw [Hfin.out]
  exact ⟨_,rfl,bv,rfl,Sat.sub (LogRep.shut2 (lv:=lv) (hS4.sb)) sbD⟩
end
end Go.Proofs.YtlinnpehkfbnkaaGreatDoor
namespace Go.Seg
def Log.segs (L:Log):List Int:=L.l.map (·.1)
end Go.Seg
namespace Go.Proofs.YtlinnpehkfbnkaaGreatDoor
open Go Go.Sl Go.Med Go.MapKept Go.RowKit
theorem zSeg:zeroB Tryz.prog 135=some (.agg #[.int .i64 0,.int .i64 0]):=by kernel_rfl
section
variable {w0 w:World}{F R:List HProp}{v bv dv x lv:Value}{q p m K:Nat}{L:Seg.Log}{M:Med}{s:Int×Int}
theorem ints_app (l k:List Int):ints (l++k)=ints l++ints k:=by unfold ints;rw [List.map_append]
theorem ints_length (l:List Int):(ints l).length=l.length:=by unfold ints;rw [List.length_map]
theorem segs_open (hln:L.l.length≤1048576) (h:Sat w0 w (logPt p m L lv::osl 135 2 lv (segw L.l)::F)) :
  (L.l=[]∧lv = .slice none 0 0)∨∃ b cap cs,lv = .slice (some ⟨b,0,none⟩) L.l.length cap∧(∀ (i:Nat) (s:Int×Int),L.l[i]?=some s→cs[i * 2]?=some (.int .i64 s.1)∧cs[i * 2+1]?=some (.int .i64 s.2)) ∧
   Sat w0 w (pt b (.cells cs 135 (0,0))::logPt p m L lv::F)∧∀ w1 G,Sat w0 w1 (pt b (.cells cs 135 (0,0))::G)→Sat w0 w1 (osl 135 2 lv (segw L.l)::G):=by
 have h':=h.pick1
 rcases h'.osl_cases with ⟨rfl,hx,hF⟩|⟨b,n',cap,cs,rfl,hll,hn',hc,hcm,htk,hp⟩
 ·left
  refine ⟨?_,rfl⟩
  cases hl:L.l with
  |nil=>rfl
  |cons a l=>rw [hl]at hx;simp [segw]at hx
 ·right
  rw [segw_len]at hll
  obtain rfl:n'=L.l.length:=by omega
  refine ⟨b,cap,cs,rfl,?_,hp,fun w1 G hS=>Sat.osl_of_pt hS (by rw [segw_len];omega) hn' hc hcm htk⟩
  intro i s hs
  obtain ⟨h1,h2⟩:=segw_at _ _ _ hs
  rw [Nat.mul_comm i 2]
  exact ⟨take_get htk h1,take_get htk h2⟩
set_option maxRecDepth 20000 in
theorem lsegs_c (hL:L.Ok) (h:Sat w0 w (LogRep p m L::F)) :
  Calls Tryz.prog 13 #[ptr p] w (Rtn fun v w'=>Sat w0 w' (osl 3 1 v (ints L.segs)::LogRep p m L::F)):=by
 obtain ⟨lv,hR⟩:=LogRep.open2 h
 clear h
 have hok:=ok_c hR
 rcases segs_open hL.len hR with ⟨hnil,rfl⟩|⟨b,cap,cs,rfl,hcl,hp,hend⟩
 ·have Hfin:=uQ (show L.segs=[] by unfold Seg.Log.segs;rw [hnil];rfl)
  clear hnil hL
  go_enter Tryz.func13,Tryz.ntmps13
  go_wp2_with fail
  refine hok.mono ?_
  rintro e w2 ⟨v,rfl,rfl,rfl⟩
  clear hok
  go_wp2_with ((with_reducible refine at_load ⟨?_⟩);refine wl_load1 aQ rFz pkD nLz evD kRz ?_)
  go_loopg [14,3] 0 (fun g iq ov wr=>iq = .int .i64 0∧ov = .slice none 0 0∧wr=w)
  case atStart=>exact ⟨rfl,rfl,rfl⟩
  case round=>
   obtain ⟨rfl,rfl,rfl⟩:=hrel
   go_wp2
   go_ret
   rw [Hfin.out]
   exact ⟨_,rfl,Sat.osl_nil.2 (LogRep.shut2 hR)⟩
 ·have Hcl:=uQ hcl
  have Hend:=uQ hend
  have Hln:=uQ hL.len
  clear hcl hend hL hR
  go_enter Tryz.func13,Tryz.ntmps13
  go_wp2_with fail
  refine hok.mono ?_
  rintro e w2 ⟨v,rfl,rfl,rfl⟩
  clear hok
  go_wp2_with ((with_reducible refine at_load ⟨?_⟩);refine wl_load1 aQ rFz pkD nLz evD kRz ?_)
  go_loopg [14,3] L.l.length (fun g iq ov wr=>∃ i:Nat,g=L.l.length - i∧i≤L.l.length∧iq = .int .i64 i ∧
   Sat w0 wr (osl 3 1 ov (ints ((L.l.take i).map (·.1)))::pt b (.cells cs 135 (0,0))::logPt p m L (.slice (some ⟨b,0,none⟩) L.l.length cap)::F))
  case atStart=>exact ⟨0,rfl,Nat.zero_le _,rfl,Sat.osl_nil.2 hp⟩
  case round=>
   obtain ⟨i,rfl,hi,rfl,hS⟩:=hrel
   clear hp
   by_cases hlt:i<L.l.length
   ·obtain ⟨s,hs⟩:∃ s,L.l[i]?=some s:=⟨_,List.getElem?_eq_getElem hlt⟩
    have Htk:=uQ (show ints ((L.l.take i).map (·.1))++[.int .i64 s.1]=ints ((L.l.take (i+1)).map (·.1)) by
     rw [List.take_add_one,hs,List.map_append,ints_app];rfl)
    have hlen:(ints ((L.l.take i).map (·.1))).length≤2147483648:=by
     rw [ints_length,List.length_map,List.length_take];have:=Hln.out;omega
    obtain ⟨d0,d1⟩:=Hcl.out i s hs
    have Hd0:=uQ d0;have Hd1:=uQ d1;have Hlt:=uQ hlt
    have hic:(i:Int)<(L.l.length:Int):=oQ
    have hwi:IntKind.i64.wrap ((i:Int)+1)=(i:Int)+1:=IntWalk.i64_in _ (by have:=Hln.out;omega)
    clear hs d0 d1 hlt
    go_wp2_with (first
     |((with_reducible refine at_load ⟨?_⟩);refine wl_loadN (b:=b) (o:=i * 2) [.int .i64 s.1,.int .i64 s.2] aQ rFz pkD (fun j v hj=>by
       rcases j with _|_|j
       ·cases hj;exact Hd0.out
       ·cases hj;exact Hd1.out
       ·simp at hj) Tryz.underlying135 rfl kRz ?_)
     |(refine wl_alloc zSeg aQ rfl ?_;intro q3 w3 hS3)
     |((with_reducible refine at_store ⟨?_⟩);refine wl_store aQ rFz evD pQ upD nLz kRz rFz ?_;intro wS hS)|((with_reducible refine at_load ⟨?_⟩);refine wl_load1 aQ rFz pkD nLz evD kRz ?_)|((with_reducible refine at_build1 ⟨?_⟩);refine wl_build1 (e:=3) (sz:=1) (by':=8) kRz aQ evD evD rFz nLz ?_;intro bN wN hN)|((with_reducible refine at_append ⟨?_⟩);refine wl_app 3 1 8 kRz aQ rFz rFz pkD pkD rFz nLz rFz aQ nLz nLz evD ?_;intro bA nA cA wA hA))
    go_roundg (L.l.length - (i+1))
    case measure=>have:=Hlt.out;omega
    case rel=>
     refine ⟨i+1,rfl,Nat.succ_le_of_lt Hlt.out,by first|rfl|go_num,?_⟩
     rw [Htk.out]at hA
     exact Sat.sb hA
   ·obtain rfl:i=L.l.length:=by omega
    have hic:¬ (L.l.length:Int)<(L.l.length:Int):=oQ
    rw [List.take_length]at hS
    clear hi hlt
    go_wp2
    go_ret
    refine ⟨_,rfl,?_⟩
    have h7:=Hend.out _ _ (hS.pk)
    exact Sat.sub (LogRep.shut2 (lv:= .slice (some ⟨b,0,none⟩) L.l.length cap) (Sat.sb h7)) sbD
end
section
variable {w0 w:World}{F:List HProp}{av bv v:Value}
theorem sameInts_c (la:List Int) (ha:Ro w0 F (rdsl 1 av (ints la))) (hb:Ro w0 F (rdsl 1 bv (ints la))) (h:Sat w0 w F) (hlen:la.length≤9223372036854775807) :
  Calls Tryz.prog 87 #[av,bv] w (Rtn fun v w'=>v = .bool true∧Sat w0 w' F):=by
 obtain ⟨aa,an,ac,rfl,hal,_⟩:=id (ha w h)
 obtain ⟨ba,bn,bc,rfl,hbl,_⟩:=id (hb w h)
 rw [show (ints la).length=la.length from List.length_map ..,Nat.mul_one]at hal hbl
 subst hal
 obtain rfl:=hbl.symm
 have Ha:=uQ ha;have Hb:=uQ hb
 clear ha hb
 go_enter Tryz.func87,Tryz.ntmps87
 go_wp2
 go_loopg [5] la.length (fun g iq wr=>∃ i:Nat,g=la.length - i∧i≤la.length∧iq = .int .i64 i∧Sat w0 wr F)
 case atStart=>exact ⟨0,rfl,Nat.zero_le _,rfl,h⟩
 case round=>
  obtain ⟨i,rfl,hiN,rfl,hS⟩:=hrel
  by_cases hi:i<la.length
  ·have hx:(ints la)[i]?=some (.int .i64 (la[i]'hi)):=by unfold ints;simp [hi]
   obtain ⟨bk,off,rfl,c1⟩:=rdsl_cell (Ha.out _ hS) hx
   obtain ⟨bk2,off2,rfl,c2⟩:=rdsl_cell (Hb.out _ hS) hx
   generalize (la[i]'hi)=X at c1 c2
   clear hx
   have hic:(i:Int)<(la.length:Int):=oQ
   have hS1:=hS.drew
   go_wp2
   refine wpL_begin [8] (fun w'=>w'.cell? ⟨bk,off+i,none⟩=some (.int .i64 X)∧w'.cell? ⟨bk2,off2+i,none⟩=some (.int .i64 X)) kRz ?_
   have hG:_∧_:=And.intro c1 c2
   refine rp 0 (hy:=(by first|((with_reducible apply gd_move);refine ⟨?_⟩;exact yl_move evD)|((with_reducible apply gd_assign);refine ⟨?_⟩;exact yl_assign evD)|((with_reducible apply gd_nil);refine ⟨?_⟩;exact yl_nil evD)|((with_reducible apply gd_field);refine ⟨?_⟩;exact yl_field evD rnD)|((with_reducible apply gd_len);refine ⟨?_⟩;exact yl_len evD rnD)|((with_reducible apply gd_bin);refine ⟨?_⟩;exact yl_bin evD evD rnD)|((with_reducible apply gd_index);refine ⟨?_⟩;exact yl_index evD evD rnD)|((with_reducible apply gd_extract);refine ⟨?_⟩;exact yl_extract evD rnD)|((with_reducible apply gd_un);refine ⟨?_⟩;exact yl_un evD rnD)|((with_reducible apply gd_conv);refine ⟨?_⟩;exact yl_conv evD rnD)|(refine Or.inl ⟨by rfl,?_⟩;((intro wq;go_simp);first|done|exact wQ)))) (h:=?_)
   refine rp 1 (hy:=(by first|((with_reducible apply gd_move);refine ⟨?_⟩;exact yl_move evD)|((with_reducible apply gd_assign);refine ⟨?_⟩;exact yl_assign evD)|((with_reducible apply gd_nil);refine ⟨?_⟩;exact yl_nil evD)|((with_reducible apply gd_field);refine ⟨?_⟩;exact yl_field evD rnD)|((with_reducible apply gd_len);refine ⟨?_⟩;exact yl_len evD rnD)|((with_reducible apply gd_bin);refine ⟨?_⟩;exact yl_bin evD evD rnD)|((with_reducible apply gd_index);refine ⟨?_⟩;exact yl_index evD evD rnD)|((with_reducible apply gd_extract);refine ⟨?_⟩;exact yl_extract evD rnD)|((with_reducible apply gd_un);refine ⟨?_⟩;exact yl_un evD rnD)|((with_reducible apply gd_conv);refine ⟨?_⟩;exact yl_conv evD rnD)|(refine Or.inl ⟨by rfl,?_⟩;((intro wq;go_simp);first|done|exact wQ)))) (h:=?_)
   refine rp 2 (hy:=(by first|((with_reducible apply gd_move);refine ⟨?_⟩;exact yl_move evD)|((with_reducible apply gd_assign);refine ⟨?_⟩;exact yl_assign evD)|((with_reducible apply gd_nil);refine ⟨?_⟩;exact yl_nil evD)|((with_reducible apply gd_field);refine ⟨?_⟩;exact yl_field evD rnD)|((with_reducible apply gd_len);refine ⟨?_⟩;exact yl_len evD rnD)|((with_reducible apply gd_bin);refine ⟨?_⟩;exact yl_bin evD evD rnD)|((with_reducible apply gd_index);refine ⟨?_⟩;exact yl_index evD evD rnD)|((with_reducible apply gd_extract);refine ⟨?_⟩;exact yl_extract evD rnD)|((with_reducible apply gd_un);refine ⟨?_⟩;exact yl_un evD rnD)|((with_reducible apply gd_conv);refine ⟨?_⟩;exact yl_conv evD rnD)|(refine Or.inl ⟨by rfl,?_⟩;((intro wq;go_simp);first|done|exact wQ)))) (h:=?_)
   refine rt 3 (h:=?_)
   refine rp 4 (hy:=(by first|((with_reducible apply gd_move);refine ⟨?_⟩;exact yl_move evD)|((with_reducible apply gd_assign);refine ⟨?_⟩;exact yl_assign evD)|((with_reducible apply gd_nil);refine ⟨?_⟩;exact yl_nil evD)|((with_reducible apply gd_field);refine ⟨?_⟩;exact yl_field evD rnD)|((with_reducible apply gd_len);refine ⟨?_⟩;exact yl_len evD rnD)|((with_reducible apply gd_bin);refine ⟨?_⟩;exact yl_bin evD evD rnD)|((with_reducible apply gd_index);refine ⟨?_⟩;exact yl_index evD evD rnD)|((with_reducible apply gd_extract);refine ⟨?_⟩;exact yl_extract evD rnD)|((with_reducible apply gd_un);refine ⟨?_⟩;exact yl_un evD rnD)|((with_reducible apply gd_conv);refine ⟨?_⟩;exact yl_conv evD rnD)|(refine Or.inl ⟨by rfl,?_⟩;((intro wq;go_simp);first|done|exact wQ)))) (h:=?_)
   refine rp 5 (hy:=(by first|((with_reducible apply gd_move);refine ⟨?_⟩;exact yl_move evD)|((with_reducible apply gd_assign);refine ⟨?_⟩;exact yl_assign evD)|((with_reducible apply gd_nil);refine ⟨?_⟩;exact yl_nil evD)|((with_reducible apply gd_field);refine ⟨?_⟩;exact yl_field evD rnD)|((with_reducible apply gd_len);refine ⟨?_⟩;exact yl_len evD rnD)|((with_reducible apply gd_bin);refine ⟨?_⟩;exact yl_bin evD evD rnD)|((with_reducible apply gd_index);refine ⟨?_⟩;exact yl_index evD evD rnD)|((with_reducible apply gd_extract);refine ⟨?_⟩;exact yl_extract evD rnD)|((with_reducible apply gd_un);refine ⟨?_⟩;exact yl_un evD rnD)|((with_reducible apply gd_conv);refine ⟨?_⟩;exact yl_conv evD rnD)|(refine Or.inl ⟨by rfl,?_⟩;((intro wq;go_simp);first|done|exact wQ)))) (h:=?_)
   refine rp 6 (hy:=(by first|((with_reducible apply gd_move);refine ⟨?_⟩;exact yl_move evD)|((with_reducible apply gd_assign);refine ⟨?_⟩;exact yl_assign evD)|((with_reducible apply gd_nil);refine ⟨?_⟩;exact yl_nil evD)|((with_reducible apply gd_field);refine ⟨?_⟩;exact yl_field evD rnD)|((with_reducible apply gd_len);refine ⟨?_⟩;exact yl_len evD rnD)|((with_reducible apply gd_bin);refine ⟨?_⟩;exact yl_bin evD evD rnD)|((with_reducible apply gd_index);refine ⟨?_⟩;exact yl_index evD evD rnD)|((with_reducible apply gd_extract);refine ⟨?_⟩;exact yl_extract evD rnD)|((with_reducible apply gd_un);refine ⟨?_⟩;exact yl_un evD rnD)|((with_reducible apply gd_conv);refine ⟨?_⟩;exact yl_conv evD rnD)|(refine Or.inl ⟨by rfl,?_⟩;((intro wq;go_simp);first|done|exact wQ)))) (h:=?_)
   refine rt 7 (h:=?_)
   refine rp 8 (hy:=(by first|((with_reducible apply gd_move);refine ⟨?_⟩;exact yl_move evD)|((with_reducible apply gd_assign);refine ⟨?_⟩;exact yl_assign evD)|((with_reducible apply gd_nil);refine ⟨?_⟩;exact yl_nil evD)|((with_reducible apply gd_field);refine ⟨?_⟩;exact yl_field evD rnD)|((with_reducible apply gd_len);refine ⟨?_⟩;exact yl_len evD rnD)|((with_reducible apply gd_bin);refine ⟨?_⟩;exact yl_bin evD evD rnD)|((with_reducible apply gd_index);refine ⟨?_⟩;exact yl_index evD evD rnD)|((with_reducible apply gd_extract);refine ⟨?_⟩;exact yl_extract evD rnD)|((with_reducible apply gd_un);refine ⟨?_⟩;exact yl_un evD rnD)|((with_reducible apply gd_conv);refine ⟨?_⟩;exact yl_conv evD rnD)|(refine Or.inl ⟨by rfl,?_⟩;((intro wq;go_simp);first|done|exact wQ)))) (h:=?_)
   refine wpL_done kRz ?_
   clear hG
   try go_frame
   go_wp2
   go_roundg (la.length - (i+1))
   case measure=>omega
   case rel=>exact ⟨i+1,rfl,by omega,by go_num,hS1⟩
  ·obtain rfl:i=la.length:=by omega
   have hic:¬ (la.length:Int)<(la.length:Int):=oQ
   go_wp2
   go_ret
   exact ⟨.bool true,rfl,rfl,hS⟩
section
variable {L R:List HProp}{b o:Nat}{ops:Array Oper}{rest:List Oper}{a:Act}{Q:Exit→Act→World→Prop}{dst:Option Tmp}{t ty T:TypeId}{pos:String}{after:Array Edge}{P:Program}{x:Operand}{cs:Array Value}{g:Nat×Bool}
theorem at_loadG (h:Stop (wpList P ops Q (⟨dst,.load ty x,t,pos,after,some g⟩::rest) a w)):wpList P ops Q (⟨dst,.load ty x,t,pos,after,some g⟩::rest) a w:=h.out
theorem wl_loadGm (hw:Region.wanted ⟨dst,.load ty x,t,pos,after,some g⟩ (yielded ops a.tmps)=true) (hx:a.eval x = .pointer (some ⟨b,o,none⟩)) (cl:List Value) (d:TypeDesc) (hc:w.rangeAt b o cl)
  (hu:P.underlying ty=some d) (hd:d.isRow=true) (hi:(P.info? ty).map (·.size)=some cl.length)
  (h:wpList P ops Q rest (a.put dst (.agg cl.toArray)) w):wpList P ops Q (⟨dst,.load ty x,t,pos,after,some g⟩::rest) a w:=
 wpList_step fun _ hK=>by
  rw [if_pos hw]
  exact wp_load_mid ty x rfl b o hx cl d hc hu hd hi (hK _ _ h)
end
end
def penc (p:Seg.Plc):List Value:=[.int .i64 p.seg,.int .i64 p.at_,.int .i64 p.size]
def aenc (a:Rep.Abt):List Value:=[.int .i64 a.tag,.int .i64 a.place.seg,.int .i64 a.place.at_,.int .i64 a.place.size,.int .i64 a.first]
theorem penc_len (p:Seg.Plc):(penc p).length=3:=rfl
theorem aenc_len (a:Rep.Abt):(aenc a).length=5:=rfl
theorem penc_ones (p:Seg.Plc):(penc p).all (·.oneCell')=true:=rfl
theorem aenc_ones (a:Rep.Abt):(aenc a).all (·.oneCell')=true:=rfl
def slotL {V:Type} (enc:V→List Value) (x:Tab.Slot V):List Value:= .int .i64 x.st::(bys x.key++enc x.val)
abbrev tbPt (p:Nat) (T:TypeId) (sv:Value) (n g:Nat):HProp:=pt p (.cells #[sv,.int .i64 n,.int .i64 g] T (0,0))
theorem slotL_len {V:Type} (enc:V→List Value) (x:Tab.Slot V) (hk:x.key.length=32) (m:Nat) (he:(enc x.val).length=m):(slotL enc x).length=33+m:=by
 unfold slotL
 rw [List.length_cons,List.length_append,bys_len,hk,he];omega
theorem bys_ones (b:Frm.Bs):(bys b).all (·.oneCell')=true:=by
 rw [List.all_eq_true]
 intro v hv
 unfold bys at hv
 obtain ⟨c,_,rfl⟩:=List.mem_map.1 hv
 rfl
theorem slotL_ones {V:Type} (enc:V→List Value) (x:Tab.Slot V) (he:(enc x.val).all (·.oneCell')=true):(slotL enc x).all (·.oneCell')=true:=by
 unfold slotL
 rw [List.all_cons,List.all_append,bys_ones,he];rfl
theorem slotL_key {V:Type} (enc:V→List Value) (x:Tab.Slot V){j:Nat}{v:Value} (h:(bys x.key)[j]?=some v):(slotL enc x)[1+j]?=some v:=by
 unfold slotL
 rw [Nat.add_comm,List.getElem?_cons_succ,List.getElem?_append_left (List.getElem?_eq_some_iff.1 h).1];exact h
theorem slotL_val {V:Type} (enc:V→List Value) (x:Tab.Slot V) (hk:x.key.length=32){j:Nat}{v:Value} (h:(enc x.val)[j]?=some v):(slotL enc x)[33+j]?=some v:=by
 unfold slotL
 rw [show 33+j=32+j+1 by omega,List.getElem?_cons_succ,List.getElem?_append_right (by rw [bys_len,hk];omega),bys_len,hk,Nat.add_sub_cancel_left];exact h
theorem zSlotA:zeroB Tryz.prog 256=some (.agg (slotL aenc ⟨0,Frm.zero32,⟨0,Seg.Plc.zero,0⟩⟩).toArray):=by kernel_rfl
theorem zSlotL:zeroB Tryz.prog 230=some (.agg (slotL penc ⟨0,Frm.zero32,Seg.Plc.zero⟩).toArray):=by kernel_rfl
section
variable {w0 w:World}{L R:List HProp}{b:Nat}{T:TypeId}{V:Type}{enc:V→List Value}{x:Tab.Slot V}{l:List Value}
theorem pt_rangeL (h:Sat w0 w (pt b (.cells l.toArray T (0,0))::R)):w.rangeAt b 0 l:=fun j v hj=>by
 have:=h.cellP pick0 j (by rw [List.getElem?_toArray];exact hj)
 rw [Nat.zero_add];exact this
theorem slot_key (h:Sat w0 w (pt b (.cells (slotL enc x).toArray T (0,0))::R)):w.rangeAt b 1 (bys x.key):=fun j v hj=>
 h.cellP pick0 (1+j) (by rw [List.getElem?_toArray];exact slotL_key enc x hj)
theorem slot_val (hk:x.key.length=32) (h:Sat w0 w (pt b (.cells (slotL enc x).toArray T (0,0))::R)):w.rangeAt b 33 (enc x.val):=fun j v hj=>
 h.cellP pick0 (33+j) (by rw [List.getElem?_toArray];exact slotL_val enc x hk hj)
end
end Go.Proofs.YtlinnpehkfbnkaaGreatDoor
namespace Go.Tab
open Go.Frm (Bs)
section
variable {V:Type}{x:Slot V}{c:Nat}
theorem good_empty (hc:∃ j,c=2^j∧3≤j) (hk:x.key.length=32) (hx:x.st=0):Good (List.replicate c x):=
 ⟨by rw [List.length_replicate];exact hc,(fun y hy=>by rw [List.eq_of_mem_replicate hy,hx];decide),(fun y hy=>by rw [List.eq_of_mem_replicate hy];exact hk),fun i y hy h1=>by
  rw [List.eq_of_mem_replicate (List.mem_of_getElem? hy),hx]at h1;cases h1⟩
theorem empty_has (hx:x.st=0) (k:Bs) (v:V):¬ Has (List.replicate c x) k v:=by
 rintro ⟨i,y,hy,h1,_⟩
 rw [List.eq_of_mem_replicate (List.mem_of_getElem? hy),hx]at h1;cases h1
theorem empty_fulls (hx:x.st=0):fulls (List.replicate c x)=0:=by unfold fulls;rw [List.countP_replicate,if_neg (by rw [hx];decide)]
theorem empty_used (hx:x.st=0):used (List.replicate c x)=0:=by unfold used;rw [List.countP_replicate,if_neg (by rw [hx];decide)]
theorem new_ok (hk:x.key.length=32) (hx:x.st=0):(⟨List.replicate 8 x,0,0⟩:Tb V).Ok:=
 ⟨good_empty ⟨3,rfl,Nat.le_refl 3⟩ hk hx,(empty_fulls hx).symm,(empty_used hx).symm,by simp,by simp⟩
theorem new_is (hx:x.st=0) (n g:Nat):(⟨List.replicate 8 x,n,g⟩:Tb V).Is (fun _=>none):=fun k v=>⟨fun h=>absurd h (empty_has hx k v),fun h=>by cases h⟩
theorem Tb.Is.some {t:Tb V}{m:Bs→Option V} (hm:t.Is m) (ho:t.Ok){k:Bs}{d:Nat} (he:Ends t.slots k d){y:Slot V} (hy:t.slots[pos k t.slots.length d]?=some y):(y.st=1→m k=some y.val)∧(y.st≠1→m k=none):=by
 refine ⟨fun h1=>(hm k _).1 (ends_full he hy h1).2,fun h1=>?_⟩
 cases hmk:m k with
 |none=>rfl
 |some v=>exact absurd ((hm k v).2 hmk) ((ends_empty ho.good he hy h1).2 v)
end
end Go.Tab
namespace Go.Proofs.YtlinnpehkfbnkaaGreatDoor
open Go Go.Sl Go.Med Go.MapKept Go.RowKit
theorem made_rows (z:Array Value) (h:0<z.size):∀ n,(madeCells z (n * z.size)).toList=(List.replicate n z.toList).flatten
 |0=>by simp [madeCells]
 |n+1=>by
  have ih:=made_rows z h n
  have hl:(madeCells z ((n+1) * z.size)).toList=(List.range ((n+1) * z.size)).map (z[· % z.size]!):=by unfold madeCells;simp
  have hl0:(madeCells z (n * z.size)).toList=(List.range (n * z.size)).map (z[· % z.size]!):=by unfold madeCells;simp
  rw [hl0]at ih
  rw [hl,Nat.succ_mul,List.range_add,List.map_append,ih,List.replicate_succ',List.flatten_append]
  congr 1
  rw [List.map_map]
  simp only [List.flatten_cons,List.flatten_nil,List.append_nil]
  refine List.ext_getElem (by simp) fun i h1 h2=>?_
  have hi:i<z.size:=by simpa using h1
  simp only [List.getElem_map,List.getElem_range,Function.comp]
  rw [Nat.mul_comm n,Nat.mul_add_mod,Nat.mod_eq_of_lt hi,getElem!_pos z i hi,Array.getElem_toList]
section
variable {P:Program}{w0 w:World}{L L' R:List HProp}{b o:Nat}{ops:Array Oper}{rest:List Oper}{a:Act}{Q:Exit→Act→World→Prop}{dst:Option Tmp}{t ty T e sz by' n c:Nat}{pos:String}{after:Array Edge}{x y:Operand}{v:Value}{zs:List Value}
theorem at_make (h:Stop (wpList P ops Q (⟨dst,.makeSlice ty x y,t,pos,after,none⟩::rest) a w)):wpList P ops Q (⟨dst,.makeSlice ty x y,t,pos,after,none⟩::rest) a w:=h.out
theorem wl_makeN (hb:appB P ty e sz by'=true) (hz:zeroB P e=some (.agg zs.toArray)) (hs:Sat w0 w L) (hx:a.eval x = .int .i64 n) (hy:a.eval y = .int .i64 n) (hle:by' * n≤281474976710656) (hm:n≤9223372036854775807)
  (hK:∀ b w',Sat w0 w' (osl e sz (.slice (some ⟨b,0,none⟩) n n) (List.replicate n zs).flatten::L)→wpList P ops Q rest (a.put dst (.slice (some ⟨b,0,none⟩) n n)) w') :
  wpList P ops Q (⟨dst,.makeSlice ty x y,t,pos,after,none⟩::rest) a w:=by
 obtain ⟨hu,i,z,hi,hz1,h1,h2,h3,h4⟩:=appB_spec hb
 have hzz:z = .agg zs.toArray:=by
  unfold zeroB at hz
  rw [hi]at hz
  simp only [Option.bind_some]at hz
  rw [hz1]at hz
  exact Option.some.inj hz
 subst hzz
 have hzl:zs.length=sz:=by rw [← List.size_toArray];exact h3
 have hr:=run_make (P:=P) w ty e i (.agg zs.toArray) hu hi hz1 .i64 .i64 n n oQ (Int.le_refl _) (by rw [h2,← Int.natCast_mul];omega) oQ
 simp only [Int.toNat_natCast]at hr
 have hS:=hs.alloc (.cells (madeCells (Value.agg zs.toArray).cells (n * i.size)) e)
 refine wpList_plain rfl fun _ hK'=>?_
 unfold Oper.wp execOp
 simp only [hx,hy,hr,Sem.run_bind,Sem.run_pure,Result.andThen_ok]
 refine hK' _ _ (hK _ _ ?_)
 have hm:=made_rows zs.toArray (by rw [List.size_toArray];omega) n
 rw [List.size_toArray,hzl]at hm
 refine Sat.osl_of_pt hS (by rw [List.length_flatten,List.map_replicate,List.sum_replicate_nat,hzl]) (Nat.le_refl _) (by rw [size_madeCells,h1];exact Nat.le_refl _) (by unfold maxLen;omega) ?_
 rw [h1]
 show (madeCells zs.toArray (n * sz)).toList.take (n * sz)=_
 rw [hm,List.take_of_length_le (by rw [List.length_flatten,List.map_replicate,List.sum_replicate_nat,hzl];exact Nat.le_refl _)]
end
end Go.Proofs.YtlinnpehkfbnkaaGreatDoor
namespace Go.Tab
open Go.Frm (Bs)
structure Renewed {V:Type} (t:Tb V) (s':List (Slot V)) (N:Nat):Prop where
 good:Good s'
 has:∀ k v,Has s' k v↔Has t.slots k v
 nf:fulls s'=t.n
 nu:used s'=t.n
 lo:2 * N≤s'.length
 lo8:8≤s'.length
 hi:s'.length=8∨s'.length<4 * N
theorem Renewed.ok {V:Type}{t:Tb V}{s':List (Slot V)} (h:Renewed t s' (t.n+1)):(⟨s',t.n,0⟩:Tb V).Ok:=
 ⟨h.good,h.nf.symm,by rw [h.nu];rfl,by have:=h.lo;simp only;omega,by have:=h.hi;simp only;omega⟩
theorem Renewed.is {V:Type}{t:Tb V}{s':List (Slot V)}{N:Nat} (h:Renewed t s' N){m:Bs→Option V} (hm:t.Is m) (n g:Nat):(⟨s',n,g⟩:Tb V).Is m:=fun k v=>(h.has k v).trans (hm k v)
theorem half_start {V:Type}{old:List (Slot V)}{x:Slot V}{c:Nat} (hc:∃ j,c=2^j∧3≤j) (hk:x.key.length=32) (hx:x.st=0):Half old (List.replicate c x) 0:=
 ⟨good_empty hc hk hx,fun k v=>⟨fun h=>absurd h (empty_has hx k v),fun h=>by obtain ⟨i,y,hy,_⟩:=h;simp at hy⟩,by rw [empty_fulls hx];rfl,by rw [empty_used hx];rfl⟩
end Go.Tab
namespace Go.Proofs.YtlinnpehkfbnkaaGreatDoor
open Go Go.Sl Go.Med Go.MapKept Go.RowKit
theorem putL_app2 (A B vs:List Value) (i:Nat) (h:i+vs.length≤A.length):putL (A++B) i vs=putL A i vs++B:=by
 unfold putL
 rw [List.take_append_of_le_length oQ,List.drop_append_of_le_length oQ]
 simp only [List.append_assoc]
theorem rows_part {α:Type}{f:α→List Value}{k:Nat}:∀ {l:List α}{i o:Nat}{x x':α}{vs:List Value},(∀ x∈l,(f x).length=k)→l[i]?=some x→f x'=putL (f x) o vs→o+vs.length≤k→(l.set i x').flatMap f=putL (l.flatMap f) (i * k+o) vs
 |[],_,_,_,_,_,_,h,_,_=>by cases h
 |y::l,0,o,x,x',vs,hk,h,hx,ho=>by
  obtain rfl:y=x:=by simpa using h
  rw [List.set_cons_zero,List.flatMap_cons,List.flatMap_cons,Nat.zero_mul,Nat.zero_add,hx,putL_app2 _ _ _ _ (by rw [hk y (.head _)];exact ho)]
 |y::l,i+1,o,x,x',vs,hk,h,hx,ho=>by
  have h0:=hk y (.head _)
  rw [List.set_cons_succ,List.flatMap_cons,List.flatMap_cons,rows_part (fun z hz=>hk z (.tail _ hz)) (by simpa using h) hx ho,show (i+1) * k+o=(f y).length+(i * k+o) by rw [h0,Nat.succ_mul];omega,putL_app]
theorem slotL_setv {V:Type} (enc:V→List Value) (x:Tab.Slot V) (v:V) (hk:x.key.length=32) (he:(enc v).length=(enc x.val).length):slotL enc ⟨x.st,x.key,v⟩=putL (slotL enc x) 33 (enc v):=by
 have e:slotL enc x=(.int .i64 x.st::bys x.key)++enc x.val:=rfl
 have hl:(Value.int .i64 x.st::bys x.key).length=33:=by rw [List.length_cons,bys_len,hk]
 rw [e,show 33=(Value.int .i64 x.st::bys x.key).length+0 by rw [hl],putL_app]
 unfold putL
 rw [List.take_zero,List.nil_append,Nat.zero_add,he,List.drop_length,List.append_nil];rfl
section
variable {w0 w:World}{R:List HProp}{T sz n c:Nat}{a:Option Addr}{xs:List Value}
theorem osl_zero (h:Sat w0 w (osl T sz (.slice a n c) xs::R)) (hx:0<xs.length):∃ b,a=some ⟨b,0,none⟩:=by
 rcases Sat.osl_cases h with ⟨_,rfl,_⟩|⟨b,n',cap',cs,he,_⟩
 ·simp at hx
 ·cases he;exact ⟨b,rfl⟩
end
theorem wraps4 (n g l:Nat) (h:n+g≤134217728) (hl:l≤1073741824) :
  IntKind.i64.wrap ((n:Int)+(g:Int))=(n:Int)+(g:Int)∧IntKind.i64.wrap ((n:Int)+(g:Int)+1)=(n:Int)+(g:Int)+1∧IntKind.i64.wrap (4 * ((n:Int)+(g:Int)+1))=4 * ((n:Int)+(g:Int)+1)∧IntKind.i64.wrap (3 * (l:Int))=3 * (l:Int) ∧
  wrap64 ((n:Int)+(g:Int))=(n:Int)+(g:Int)∧wrap64 ((n:Int)+(g:Int)+1)=(n:Int)+(g:Int)+1∧wrap64 (4 * ((n:Int)+(g:Int)+1))=4 * ((n:Int)+(g:Int)+1)∧wrap64 (3 * (l:Int))=3 * (l:Int)∧IntKind.i64.wrap ((n:Int)+1)=(n:Int)+1:=
 ⟨IntWalk.i64_in _ oQ,IntWalk.i64_in _ oQ,IntWalk.i64_in _ oQ,IntWalk.i64_in _ oQ,IntWalk.wrap64_in _ oQ,IntWalk.wrap64_in _ oQ,IntWalk.wrap64_in _ oQ,IntWalk.wrap64_in _ oQ,IntWalk.i64_in _ oQ⟩
theorem plSlotA:placesB Tryz.prog 256=some [(0,1),(1,32),(33,5)]:=by kernel_rfl
theorem plSlotL:placesB Tryz.prog 230=some [(0,1),(1,32),(33,3)]:=by kernel_rfl
theorem putL_all {xs vs:List Value} (h:vs.length=xs.length):putL xs 0 vs=vs:=by
 unfold putL
 rw [List.take_zero,List.nil_append,Nat.zero_add,h,List.drop_length,List.append_nil]
theorem puts_putL (cs:Array Value) (o:Nat) (vs:List Value) (h:o+vs.length≤cs.size):(putsAt cs o vs).toList=putL cs.toList o vs:=by
 rw [putsAt_list _ _ _ h,List.append_assoc];rfl
theorem put_slot {V:Type} (enc:V→List Value) (z:Tab.Slot V) (k:Frm.Bs) (v:V) (hz:z.key.length=32) (hk:k.length=32) (he:(enc v).length=(enc z.val).length) (n:Nat) (hn:(enc z.val).length=n) :
  putParts [(0,1),(1,32),(33,n)] (slotL enc z).toArray [(0,.int .i64 1),(1,.agg (bys k).toArray),(2,.agg (enc v).toArray)]=(slotL enc ⟨1,k,v⟩).toArray:=by
 have hzl:(slotL enc z).length=33+n:=by rw [slotL_len enc z hz _ hn]
 show putsAt (putsAt (putsAt (slotL enc z).toArray 0 [.int .i64 1]) 1 (bys k)) 33 (enc v)=_
 apply putsAt_eq
 rw [puts_putL _ _ _ (by rw [putsAt_size,putsAt_size,List.size_toArray,hzl];omega),puts_putL _ _ _ (by rw [putsAt_size,List.size_toArray,hzl,bys_len,hk];omega),puts_putL _ _ _ (by rw [List.size_toArray,hzl,List.length_singleton];omega)]
 have e:slotL enc z=[.int .i64 z.st]++(bys z.key++enc z.val):=rfl
 have e1:putL (slotL enc z) 0 [.int .i64 1]=[.int .i64 1]++(bys z.key++enc z.val):=by
  rw [e,putL_app2 _ _ _ _ (Nat.le_refl 1)];rfl
 have e2:putL ([Value.int .i64 1]++(bys z.key++enc z.val)) 1 (bys k)=[Value.int .i64 1]++(bys k++enc z.val):=by
  have h0:=putL_app [Value.int .i64 1] (bys z.key++enc z.val) (bys k) 0
  have h1:putL (bys z.key++enc z.val) 0 (bys k)=bys k++enc z.val:=by
   rw [putL_app2 _ _ _ _ (by rw [bys_len,bys_len,hk,hz];omega),putL_all (by rw [bys_len,bys_len,hk,hz])]
  rw [h1]at h0
  exact h0
 have e3:putL ([Value.int .i64 1]++(bys k++enc z.val)) 33 (enc v)=[Value.int .i64 1]++(bys k++enc v):=by
  have h0:=putL_app ([Value.int .i64 1]++bys k) (enc z.val) (enc v) 0
  rw [putL_all he]at h0
  have hl:([Value.int .i64 1]++bys k).length+0=33:=by rw [List.length_append,bys_len,hk];rfl
  rw [hl,List.append_assoc,List.append_assoc]at h0
  exact h0
 simp only []
 rw [e1,e2,e3];rfl
end Go.Proofs.YtlinnpehkfbnkaaGreatDoor
namespace Go.Tab
open Go.Frm (Bs)
theorem bs_tri (a b:Bs):a<b∨a=b∨b<a:=by
 by_cases h1:a<b
 ·exact .inl h1
 ·rcases List.le_iff_lt_or_eq.1 (List.not_lt.1 h1) with h2|h2
  ·exact .inr (.inr h2)
  ·exact .inr (.inl h2.symm)
structure Lists {V:Type} (m:Bs→Option V) (l:List (Bs×V)):Prop where
 rise:l.Pairwise fun a b=>a.1<b.1
 mem:∀ k v,(k,v)∈l↔m k=some v
theorem rise_ext {V:Type}:∀ {l l':List (Bs×V)},l.Pairwise (fun a b=>a.1<b.1)→l'.Pairwise (fun a b=>a.1<b.1)→(∀ p,p∈l↔p∈l')→l=l'
 |[],[],_,_,_=>rfl
 |[],b::l',_,_,h=>by have:=(h b).2 (.head _);cases this
 |a::l,[],_,_,h=>by have:=(h a).1 (.head _);cases this
 |a::l,b::l',h1,h2,h=>by
  obtain ⟨a1,a2⟩:=List.pairwise_cons.1 h1
  obtain ⟨b1,b2⟩:=List.pairwise_cons.1 h2
  have hab:a=b:=by
   rcases List.mem_cons.1 ((h a).1 (.head _)) with e|h3
   ·exact e
   ·rcases List.mem_cons.1 ((h b).2 (.head _)) with e|h4
    ·exact e.symm
    ·exact absurd (List.lt_trans (b1 a h3) (a1 b h4)) (List.lt_irrefl _)
  subst hab
  congr 1
  refine rise_ext a2 b2 fun p=>?_
  have:=h p
  rw [List.mem_cons,List.mem_cons]at this
  constructor
  ·intro hp
   rcases this.1 (.inr hp) with e|h3
   ·subst e;exact absurd (a1 p hp) (List.lt_irrefl _)
   ·exact h3
  ·intro hp
   rcases this.2 (.inr hp) with e|h3
   ·subst e;exact absurd (b1 p hp) (List.lt_irrefl _)
   ·exact h3
theorem Lists.unique {V:Type}{m:Bs→Option V}{l l':List (Bs×V)} (h:Lists m l) (h':Lists m l'):l=l':=
 rise_ext h.rise h'.rise fun p=>by rw [h.mem p.1 p.2,h'.mem p.1 p.2]
theorem Lists.keys {V:Type}{m:Bs→Option V}{l:List (Bs×V)} (h:Lists m l):(l.map (·.1)).Nodup:=by
 rw [List.nodup_iff_pairwise_ne,List.pairwise_map]
 exact h.rise.imp fun {a b} hab e=>by rw [e]at hab;exact List.lt_irrefl _ hab
def ins {V:Type}:List (Bs×V)→Bs×V→List (Bs×V)
 |[],x=>[x]
 |y::l,x=>if x.1<y.1 then x::y::l else y::ins l x
end Go.Tab
namespace Go.Rep
open Go.Frm (Bs Fnd)
open Go.Seg (Plc)
open Go.Tab
def idx (l:List Row):Nat→List (Bs×Plc)
 |0=>[]
 |i+1=>match l[i]? with
  |none=>idx l i
  |some r=>if cnt l i=true∧rtag r=0 then ins (idx l i) (rkey r,rplc r) else idx l i
def live (l:List Row) (s:Int):Nat→Int
 |0=>0
 |i+1=>match l[i]? with
  |none=>live l s i
  |some r=>if cnt l i=true∧r.1=s then live l s i+r.2.size else live l s i
def liveL (s:Int):List (Bs×Abt)→Int
 |[]=>0
 |p::l=>(if counts p.2=true∧p.2.place.seg=s then p.2.place.size else 0)+liveL s l
def puts (kv:List (Bs×Abt)):List (Bs×Plc):=(kv.filter fun p=>decide (p.2.tag=0)).map fun p=>(p.1,p.2.place)
theorem new_one {l:List Row}{i j:Nat}{r x:Row} (hi:l[i]?=some r) (hj:l[j]?=some x) (h1:isNew l i=true) (h2:isNew l j=true) (hk:rkey r=rkey x):i=j:=by
 have aux:∀ {i j:Nat} {r x:Row},l[i]?=some r→l[j]?=some x→isNew l i=true→isNew l j=true→rkey r=rkey x→¬ i<j:=by
  intro i j r x hi hj h1 h2 hk hlt
  unfold isNew at h1 h2
  rw [hi]at h1;rw [hj]at h2
  simp only [Bool.and_eq_true,decide_eq_true_eq,List.all_eq_true]at h1 h2
  have hm:x∈l.drop (i+1):=by
   refine List.mem_of_getElem? (i:=j - (i+1)) ?_
   rw [List.getElem?_drop,show i+1+(j - (i+1))=j by omega];exact hj
  have:=h1.2 x hm
  simp [h2.1,hk]at this
 rcases Nat.lt_trichotomy i j with q|q|q
 ·exact absurd q (aux hi hj h1 h2 hk)
 ·exact q
 ·exact absurd q (aux hj hi h2 h1 hk.symm)
def newKeys (l:List Row):Nat→List Bs
 |0=>[]
 |i+1=>match l[i]? with
  |none=>newKeys l i
  |some r=>if isNew l i=true then rkey r::newKeys l i else newKeys l i
theorem newKeys_mem {l:List Row}:∀ {n:Nat}{k:Bs},k∈newKeys l n↔∃ i r,i<n∧l[i]?=some r∧isNew l i=true∧rkey r=k
 |0,k=>by simp [newKeys]
 |n+1,k=>by
  have ih:=@newKeys_mem l n k
  unfold newKeys
  constructor
  ·intro h
   split at h
   ·obtain ⟨i,r,a,b⟩:=ih.1 h;exact ⟨i,r,by omega,b⟩
   ·rename_i r hr
    split at h
    ·rename_i hc
     rcases List.mem_cons.1 h with e|h
     ·exact ⟨n,r,by omega,hr,hc,e.symm⟩
     ·obtain ⟨i,r,a,b⟩:=ih.1 h;exact ⟨i,r,by omega,b⟩
    ·obtain ⟨i,r,a,b⟩:=ih.1 h;exact ⟨i,r,by omega,b⟩
  ·rintro ⟨i,r,hi,hr,hc,rfl⟩
   by_cases hin:i<n
   ·have:=ih.2 ⟨i,r,hin,hr,hc,rfl⟩
    split
    ·exact this
    ·split
     ·exact .tail _ this
     ·exact this
   ·obtain rfl:i=n:=by omega
    rw [hr]
    simp only
    rw [if_pos hc]
    exact .head _
theorem newKeys_nodup {l:List Row}:∀ n,(newKeys l n).Nodup
 |0=>List.nodup_nil
 |n+1=>by
  unfold newKeys
  split
  ·exact newKeys_nodup n
  ·rename_i r hr
   split
   ·rename_i hc
    refine List.nodup_cons.2 ⟨fun h=>?_,newKeys_nodup n⟩
    obtain ⟨i,x,a,b,c,d⟩:=newKeys_mem.1 h
    have:=new_one b hr c hc d
    omega
   ·exact newKeys_nodup n
def adds (l:List Row) (s:Int) (k:Bs):Int:=match ledger l k with
 |some a=>if counts a=true∧a.place.seg=s then a.place.size else 0
 |none=>0
theorem sum_perm {f:Bs→Int}{l l':List Bs} (h:l.Perm l'):(l.map f).sum=(l'.map f).sum:=by
 induction h with
 |nil=>rfl
 |cons x _ ih=>simp only [List.map_cons,List.sum_cons,ih]
 |swap x y l=>simp only [List.map_cons,List.sum_cons];omega
 |trans _ _ h1 h2=>rw [h1,h2]
theorem live_new {l:List Row} (hl:Rows l) (s:Int):∀ n,live l s n=((newKeys l n).map (adds l s)).sum
 |0=>rfl
 |n+1=>by
  have ih:=live_new hl s n
  unfold live newKeys
  split
  ·rename_i hr;rw [ih]
  ·rename_i r hr
   by_cases hn:isNew l n=true
   ·obtain ⟨a,h1,h2,h3,h4⟩:=cnt_eq hl hr hn
    rw [if_pos hn,List.map_cons,List.sum_cons,ih]
    unfold adds
    rw [h1]
    simp only
    rw [h4,h3,show (rplc r).seg=r.1 from rfl,show (rplc r).size=(r.2.size:Int) from rfl]
    split
    ·exact Int.add_comm _ _
    ·exact (Int.zero_add _).symm
   ·rw [if_neg hn,if_neg (fun h=>hn (cnt_new h.1)),ih]
theorem liveL_sum {l:List Row} (s:Int):∀ (kv:List (Bs×Abt)),(∀ p∈kv,ledger l p.1=some p.2)→liveL s kv=((kv.map (·.1)).map (adds l s)).sum
 |[],_=>rfl
 |p::kv,h=>by
  rw [List.map_cons,List.map_cons,List.sum_cons,← liveL_sum s kv fun q hq=>h q (.tail _ hq)]
  unfold adds
  rw [h p (.head _)]
  rfl
theorem live_eq {l:List Row} (hl:Rows l){kv:List (Bs×Abt)} (hk:Lists (ledger l) kv) (s:Int):live l s l.length=liveL s kv:=by
 rw [live_new hl,liveL_sum s kv fun p hp=>(hk.mem p.1 p.2).1 hp]
 refine sum_perm ((List.perm_ext_iff_of_nodup (newKeys_nodup _) hk.keys).2 fun k=>?_)
 rw [newKeys_mem,List.mem_map]
 constructor
 ·rintro ⟨i,r,_,hr,hn,rfl⟩
  obtain ⟨a,h1,_⟩:=cnt_eq hl hr hn
  exact ⟨(rkey r,a),(hk.mem _ _).2 h1,rfl⟩
 ·rintro ⟨⟨k',a⟩,hp,rfl⟩
  have h3:=(hk.mem _ _).1 hp
  unfold ledger at h3
  cases hn:newest l k' with
  |none=>rw [hn]at h3;cases h3
  |some r=>
   obtain ⟨i,a,b,c,_⟩:=newest_is hl.tag hn
   exact ⟨i,r,(List.getElem?_eq_some_iff.1 a).1,a,b,c⟩
end Go.Rep
namespace Go.Tab
open Go.Frm (Bs)
theorem cmpB_lt:∀ (a b:Bs),Lib.compareBytes a b<0↔a<b
 |[],[]=>by simp [Lib.compareBytes]
 |[],b::bs=>by simp [Lib.compareBytes]
 |a::l,[]=>by simp [Lib.compareBytes]
 |a::l,b::bs=>by
  rw [List.cons_lt_cons_iff,← cmpB_lt l bs]
  rw [show Lib.compareBytes (a::l) (b::bs)=if a<b then -1 else if b<a then 1 else Lib.compareBytes l bs from rfl]
  by_cases h1:a<b
  ·simp [h1]
  ·rw [if_neg h1]
   by_cases h2:b<a
   ·rw [if_pos h2]
    constructor
    ·intro h;exact absurd h dCz
    ·rintro (h|⟨rfl,_⟩)
     ·exact absurd h h1
     ·exact absurd h2 h1
   ·rw [if_neg h2]
    have:a=b:=by
     have h3:¬ a.toNat<b.toNat:=fun h=>h1 (UInt8.lt_iff_toNat_lt.2 h)
     have h4:¬ b.toNat<a.toNat:=fun h=>h2 (UInt8.lt_iff_toNat_lt.2 h)
     exact UInt8.toNat_inj.1 oQ
    subst this
    constructor
    ·intro h;exact .inr ⟨rfl,h⟩
    ·rintro (h|⟨_,h⟩)
     ·exact absurd h h1
     ·exact h
end Go.Tab
namespace Go.Proofs.YtlinnpehkfbnkaaGreatDoor
open Go Go.Sl Go.Med Go.MapKept Go.RowKit
theorem adr_add (b o j:Nat):(⟨b,o,none⟩:Addr).add j=⟨b,o+j,none⟩:=by unfold Addr.add;split <;> simp_all
section
variable {w0 w:World}{F R:List HProp}{v bv av:Value}
theorem run_bytesOf {l:Frm.Bs} (h:rdsl 1 v (bys l) w):(Extern.Bytes.bytesOf v).run Tryz.prog w = .ok ⟨l.toArray⟩ w:=by
 obtain ⟨a,n,c,rfl,hl,hx⟩:=h
 rw [bys_len,Nat.mul_one]at hl
 subst hl
 cases a with
 |none=>
  obtain rfl:l=[]:=by
   cases l with
   |nil=>rfl
   |cons d l=>obtain ⟨b,hb,_⟩:=hx 0 _ rfl;cases hb
  rfl
 |some ad=>
  have:=Lib.run_loadBytesX (P:=Tryz.prog) w (l.map fun c=>(c.toNat:Int)) ad .empty (fun j x hj=>by
   rw [List.getElem?_map]at hj
   obtain ⟨c',hc',rfl⟩:=Option.map_eq_some_iff.1 hj
   have hy:(bys l)[j]?=some (.int .u8 c'.toNat):=by unfold bys;rw [List.getElem?_map,hc'];rfl
   obtain ⟨b,hb,hc⟩:=hx _ _ hy
   cases hb
   exact hc)
  rw [List.length_map]at this
  simp only [Extern.Bytes.bytesOf,this]
  have e:Lib.bytesOf (l.map fun c=>(c.toNat:Int))=l:=by
   unfold Lib.bytesOf
   rw [List.map_map]
   conv=>rhs;rw [← List.map_id l]
   exact List.map_congr_left fun c _=>by simp
  rw [e]
  show Result.ok ({ data:=(#[]:Array UInt8)++l.toArray }:ByteArray) w=_
  rw [Array.empty_append]
theorem run_bcmp {x y:Frm.Bs} (h1:rdsl 1 av (bys x) w) (h2:rdsl 1 bv (bys y) w):(Extern.BytealgCompare.compare #[av,bv]).run Tryz.prog w = .ok (.int .i64 (Lib.compareBytes x y)) w:=by
 change Sem.run Tryz.prog (do pure (goInt (Extern.BytealgCompare.cmp (← Extern.Bytes.bytesOf av) (← Extern.Bytes.bytesOf bv)))) w=_
 simp only [Sem.run_bind,Sem.run_pure,run_bytesOf h1,run_bytesOf h2,Result.andThen]
 rw [Lib.cmp_eq]
 rfl
set_option maxRecDepth 100000 in
theorem bcmp_c (x y:Frm.Bs) (h1:rdsl 1 av (bys x) w) (h2:rdsl 1 bv (bys y) w) :
  Calls Tryz.prog 196 #[av,bv] w fun e w'=>e = .returned (.int .i64 (Lib.compareBytes x y))∧w'=w:=by
 have hr:=run_bcmp h1 h2
 generalize Lib.compareBytes x y=r at *
 clear h1 h2
 go_enter Tryz.func196,Tryz.ntmps196
 go_wp2
 rw [run_callFunc_extern Tryz.func224 kRz kRz kRz (e:=Extern.BytealgCompare.compare) kRz,hr]
 simp only [Result.andThen]
 rw [Oper.upon_value]
 go_wp2
 go_ret
 exact ⟨rfl,rfl⟩
end
end Go.Proofs.YtlinnpehkfbnkaaGreatDoor
namespace Go.Proofs.YtlinnpehkfbnkaaGreatDoor
open Go Go.Sl Go.Med Go.MapKept Go.RowKit Go.Sort
section
variable {α:Type} [Inhabited α] {enc:α→List Value}{k:Nat}
theorem flatK_list (hk:∀ x,(enc x).length=k) (h0:0<k) (d:Array α):(flatK enc k d).toList=d.toList.flatMap enc:=by
 have hl:(d.toList.flatMap enc).length=k * d.toList.length:=rows_len fun x _=>hk x
 refine List.ext_getElem (by rw [hl,Array.length_toList,size_flatK,Array.length_toList,Nat.mul_comm]) fun t h1 h2=>?_
 have ht:t<d.size * k:=by rw [Array.length_toList,size_flatK]at h1;exact h1
 have hi:t / k<d.size:=Nat.div_lt_of_lt_mul (by rw [Nat.mul_comm];exact ht)
 have hx:d.toList[t / k]?=some d[t / k]! := by
  rw [Array.getElem?_toList,Array.getElem?_eq_getElem hi,getElem!_pos d _ hi]
 have hm:t%k<(enc d[t / k]!).length:=by rw [hk];exact Nat.mod_lt _ h0
 have hr:=rows_at (l:=d.toList) (f:=enc) (k:=k) (fun x _=>hk x) hx (List.getElem?_eq_getElem hm)
 rw [show t / k * k+t%k=t by rw [Nat.mul_comm];exact Nat.div_add_mod t k,List.getElem?_eq_getElem h2]at hr
 rw [Option.some.inj hr,Array.getElem_toList,← getElem!_pos (flatK enc k d) t (by rw [size_flatK];exact ht),get_flatK _ _ _ _ ht]
 exact getElem!_pos (enc d[t / k]!) (t%k) hm
end
section
variable {w0 w:World}{R:List HProp}{g n m:Nat}{T:TypeId}{cs:Array Value}{os:Array Obj}
theorem heap_sortedV {fr:Nat×Nat} (d:Array Value) (hb:w.heap[g]?=some (.cells cs T fr)):(grow (putRow id (Sort.ahead w n) g 0 d) os).heap[g]?=some (.cells (putCells id 0 d cs) T fr):=by
 have hg:g<w.heap.size:=(Array.getElem?_eq_some_iff.1 hb).1
 rw [heap_grow_old _ _ (by simpa using hg)]
 simp [putRow,mapBlock,Sort.ahead,Array.getElem?_modify,hb,onCells]
theorem grownBy_sortedV (d:Array Value):w.grownBy (grow (putRow id (Sort.ahead w n) g 0 d) os) (some g):=by
 refine ⟨rfl,rfl,rfl,by simp,fun k hk hne=>?_⟩
 rw [heap_grow_old _ _ (by simpa using hk)]
 have:g≠k:=fun e=>hne (by rw [e])
 simp [putRow,mapBlock,Sort.ahead,Array.getElem?_modify,this]
theorem take_putCellsV (d:Array Value) (h:d.size≤cs.size):(putCells id 0 d cs).toList.take d.size=d.toList:=by
 apply List.ext_getElem?
 intro j
 by_cases hj:j<d.size
 ·rw [List.getElem?_take_of_lt hj,Array.getElem?_toList]
  simp [putCells,hj,show j<cs.size by omega]
 ·rw [List.getElem?_take_eq_none oQ,List.getElem?_eq_none (by simp;omega)]
theorem sat_sorted (hp:Sat w0 w (pt g (.cells cs T (0,0))::R)) (d:Array Value):Sat w0 (grow (putRow id (Sort.ahead w n) g 0 d) os) (pt g (.cells (putCells id 0 d cs) T (0,0))::R):=by
 have hg:=grownBy_sortedV (w:=w) (g:=g) (n:=n) (os:=os) d
 exact hp.turn hg.os hg.tape hg.output hg.size (heap_sortedV (n:=n) (os:=os) d hp.at) (fun i hi hlt=>hg.block i hlt (by simpa using hi))
theorem holds_blockV {d:Array Value} (hb:w.heap[g]?=some (.cells cs T (0,0))) (ht:cs.toList.take d.size=d.toList):Holds id w g 0 d:=by
 intro j hj
 refine ⟨?_,by simp [World.frozen?,hb]⟩
 have h1:(cs.toList.take d.size)[j]?=d.toList[j]?:=by rw [ht]
 rw [List.getElem?_take_of_lt hj]at h1
 simp only [World.cell?,hb,Nat.zero_add]
 simp only [Option.isSome_none,Bool.false_eq_true,if_false]
 rw [← Array.getElem?_toList,h1,Array.getElem?_toList,Array.getElem?_eq_getElem hj,getElem!_pos d j hj]
 rfl
end
end Go.Proofs.YtlinnpehkfbnkaaGreatDoor
namespace Go.Tab
open Go.Frm (Bs)
open Go.Sort
theorem swo_key {V:Type} (key:V→Bs):SWO (Go.Proofs.ltOf fun x y=>Lib.compareBytes (key x) (key y)):=by
 have e:∀ x y,Go.Proofs.ltOf (fun x y=>Lib.compareBytes (key x) (key y)) x y=decide (key x<key y):=fun x y=>by
  unfold Go.Proofs.ltOf
  rw [Bool.eq_iff_iff,decide_eq_true_eq,decide_eq_true_eq]
  exact cmpB_lt _ _
 refine ⟨fun x=>?_,fun x y z=>?_,fun x y z=>?_⟩
 ·rw [e,decide_eq_false_iff_not];exact List.lt_irrefl _
 ·rw [e,e,e,decide_eq_true_eq,decide_eq_true_eq,decide_eq_true_eq];exact List.lt_trans
 ·rw [e,e,e,decide_eq_false_iff_not,decide_eq_false_iff_not,decide_eq_false_iff_not]
  intro h1 h2 h3
  rcases bs_tri (key x) (key y) with q|q|q
  ·exact h1 q
  ·exact h2 (q ▸ h3)
  ·rcases bs_tri (key y) (key z) with p|p|p
   ·exact h2 p
   ·exact List.lt_irrefl _ (List.lt_trans q (p ▸ h3))
   ·exact List.lt_irrefl _ (List.lt_trans (List.lt_trans h3 p) q)
theorem sorted_list {V:Type} [Inhabited V] {key:V→Bs}{d d':Array V} (hp:PermIn 0 d.size d d') (hs:SortedIn (Go.Proofs.ltOf fun x y=>Lib.compareBytes (key x) (key y)) 0 d.size d') :
  d'.toList.Perm d.toList∧d'.toList.Pairwise fun a b=>¬ key b<key a:=by
 obtain ⟨h1,_,h3⟩:=hp
 constructor
 ·have e:∀ a:Array V,a.extract 0 a.size=a:=fun a=>by simp
  have h3':=h3
  rw [e d,← h1,e d']at h3'
  exact h3'
 ·rw [List.pairwise_iff_getElem]
  intro i j hi hj hij
  rw [Array.length_toList]at hi hj
  have:=hs i j (Nat.zero_le _) hij oQ
  rw [getElem!_pos d' i hi,getElem!_pos d' j hj]at this
  unfold Go.Proofs.ltOf at this
  rw [decide_eq_false_iff_not,cmpB_lt]at this
  simpa using this
theorem lists_of {V:Type}{s l:List (Slot V)}{m:Bs→Option V} (g:Good s) (hm:∀ k v,Has s k v↔m k=some v) (hp:l.Perm (s.filter fun x=>decide (x.st=1))) (hs:l.Pairwise fun a b=>¬ b.key<a.key) :
  Lists m (l.map fun x=>(x.key,x.val))∧∀ x∈l,x.st=1∧x.key.length=32:=by
 have hmem:∀ x,x∈l↔x∈s∧x.st=1:=fun x=>by rw [hp.mem_iff,List.mem_filter,decide_eq_true_eq]
 have hnd:l.Pairwise fun a b=>a.key≠b.key:=by
  have h0:(s.filter fun x=>decide (x.st=1)).Pairwise fun a b=>a.key≠b.key:=by
   rw [List.pairwise_filter,List.pairwise_iff_getElem]
   intro i j hi hj hij h1 h2 h3
   have:=g.one (List.getElem?_eq_getElem hi) (List.getElem?_eq_getElem hj) (by simpa using h1) (by simpa using h2) h3
   omega
  exact (hp.pairwise_iff (fun {a b} h=>Ne.symm h)).2 h0
 refine ⟨⟨?_,fun k v=>?_⟩,fun x hx=>⟨((hmem x).1 hx).2,g.key x ((hmem x).1 hx).1⟩⟩
 ·rw [List.pairwise_map]
  refine (hs.and hnd).imp fun {a b} h=>?_
  rcases bs_tri a.key b.key with q|q|q
  ·exact q
  ·exact absurd q h.2
  ·exact absurd q h.1
 ·rw [← hm,List.mem_map]
  constructor
  ·rintro ⟨x,hx,e⟩
   obtain ⟨a,b⟩:=(hmem x).1 hx
   obtain ⟨i,hi,he⟩:=List.getElem_of_mem a
   cases e
   exact ⟨i,x,by rw [List.getElem?_eq_getElem hi,he],b,rfl,rfl⟩
  ·rintro ⟨i,x,hi,a,rfl,rfl⟩
   exact ⟨x,(hmem x).2 ⟨List.mem_of_getElem? hi,a⟩,rfl⟩
end Go.Tab
namespace Go.Proofs.YtlinnpehkfbnkaaGreatDoor
open Go Go.Sl Go.Med Go.MapKept Go.RowKit
section
variable {w0 w:World}{F R:List HProp}{p n gn d c:Nat}{sv v:Value}{k:Frm.Bs}{s:List (Tab.Slot (Rep.Abt))}{a:Option Addr}
theorem okA_c (hl:0<s.length) (h:Sat w0 w (tbPt p 184 (.slice a s.length c) n gn::F)) :
  Calls Tryz.prog 173 #[ptr p] w (Rtn fun v w'=>v = .bool true∧w=w'):=by
 have e0:w.cell? ⟨p,0,none⟩=some (.slice a s.length c):=h.cellAt 0 _ rfl
 have c1:(0:Int)<(s.length:Int):=oQ
 go_enter Tryz.func173,Tryz.ntmps173
 go_wp2
 go_ret
 exact ⟨_,rfl,rfl,rfl⟩
set_option maxRecDepth 20000 in
theorem findA_c (g:Tab.Good s) (hc:s.length≤1073741824) (hk:k.length=32) (he:Tab.Ends s k d) (h:Sat w0 w (tbPt p 184 sv n gn::osl 256 38 sv (s.flatMap (slotL aenc))::F)) :
  Calls Tryz.prog 174 #[ptr p,.agg (bys k).toArray] w (Rtn fun v w'=>∃ x,s[Tab.pos k s.length d]?=some x∧v = .tuple #[.int .i64 (Tab.pos k s.length d:Nat),.int .i64 ((d:Int)+1),.bool (decide (x.st=1))] ∧
   Sat w0 w' (tbPt p 184 sv n gn::osl 256 38 sv (s.flatMap (slotL aenc))::F)):=by
 have Hk:=uQ hk;have HG:=uQ g;have HE:=uQ he;have Hc:=uQ hc
 have Hlen:=uQ (show ∀ x∈s,(slotL aenc x).length=38 from fun x hx=>slotL_len aenc x (g.key x hx) 5 (aenc_len _))
 obtain ⟨la,lc,rfl⟩:=osl_rows Hlen.out (Sat.rd (h.pick pick1)) dCz
 obtain ⟨j,hj,_⟩:=g.pow
 have hj40:j<40:=by
  rcases Nat.lt_or_ge j 40 with q|q
  ·exact q
  ·have:2^40≤2^j:=Nat.pow_le_pow_right dCz q
   have h40:(2:Nat)^40=1099511627776:=by decide
   omega
 have Hj:=uQ hj;have Hj40:=uQ hj40
 have Hd:=uQ (show d<s.length from he.lt)
 have hp0:0<s.length:=g.pos_len
 have Hp0:=uQ hp0
 have Hpz:=uQ (Tab.pos_zero (k:=k) hp0)
 clear hj hj40 hk g he hc hp0
 go_enter Tryz.func174,Tryz.ntmps174
 go_wp2_with ((with_reducible refine at_box ⟨?_⟩);refine wl_box aQ evD evD ?_;intro bB wB hB)
 have hB1:=hB.drew
 clear hB
 refine wpL_begin [6,7] (fun w'=>w'.rangeAt bB 0 (bys k)∧w'.cell? ⟨p,0,none⟩=some (.slice la s.length lc)) kRz ?_
 have hG:World.rangeAt _ bB 0 (bys k)∧World.cell? _ ⟨p,0,none⟩=some (.slice la s.length lc):=⟨pt_rangeL (hB1.pk (A:=pt bB (.cells (bys k).toArray 24 (0,0)))),hB1.cellP pkD 0 rfl⟩
 refine rg_take 0 evD kRz i3z (tk_loadN (b:=bB) (o:=0) (bys k) rFz Tryz.underlying24 rfl (by rw [bys_len,Hk.out];kernel_rfl) (fun w hw=>hw.1)) aQ gQ ?_
 refine rP 1 ?_ (y:=mvQ)
 refine rP 2 ?_ (y:=nlQ)
 refine rP 3 ?_ (y:=flQ)
 refine rt 4 (h:=?_)
 refine rP 5 ?_ (y:=(yl_len evD rnD))
 clear hG
 have hh:=home_c k Hk.out j Hj40.out hB1
 rw [← Hj.out]at hh
 refine rg_eff 6 evD kRz (fun K hK=>?_)
 (refine eff_call2 kRz evD evD ?_)
 refine hh.mono ?_
 rintro ee w2 ⟨v,rfl,rfl,hS2⟩
 refine hK _ _ (.inl rfl) ?_
 clear hK hh hB1
 refine rP 7 ?_ (y:=asQ)
 refine wpL_done kRz ?_
 try simp only [ayQ]
 try go_frame
 rw [← Hpz.out]
 go_wp2_with fail
 go_loopg [7,8] d (fun g aq sq wr=>∃ e:Nat,g=d - e∧e≤d∧aq = .int .i64 (Tab.pos k s.length e:Nat)∧sq = .int .i64 ((e:Int)+1) ∧
  Sat w0 wr (pt bB (.cells (bys k).toArray 24 (0,0))::tbPt p 184 (.slice la s.length lc) n gn::osl 256 38 (.slice la s.length lc) (s.flatMap (slotL aenc))::F))
 case atStart=>exact ⟨0,rfl,Nat.zero_le _,rfl,rfl,hS2.sb⟩
 case round=>
  obtain ⟨e,rfl,hed,rfl,rfl,hS⟩:=hrel
  clear hS2
  have hlt:=Tab.pos_lt (k:=k) (d:=e) Hp0.out
  have hdl:=Hd.out
  have hcl:=Hc.out
  obtain ⟨x,hx⟩:∃ x,s[Tab.pos k s.length e]?=some x:=⟨_,List.getElem?_eq_getElem hlt⟩
  have hxm:=List.mem_of_getElem? hx
  have hst:=HG.out.st x hxm
  have Hxk:=uQ (HG.out.key x hxm)
  obtain ⟨bk,off,c',hsv,hcell⟩:=osl_row Hlen.out (Sat.rd (hS.pick pick2)) hx dCz
  have Hnext:=uQ (Tab.pos_next (k:=k) (d:=e) Hp0.out)
  have Hmask:=uQ (and_mask (Tab.pos k s.length e+1) j oQ (by have:=Hj40.out;omega))
  have Hstop:=uQ (show e=d↔x.stop k from ⟨fun h=>by
    subst h
    obtain ⟨y,hy,hs⟩:=HE.out.here
    rw [hx]at hy;cases hy;exact hs,fun h=>by
    rcases Nat.lt_or_ge e d with q|q
    ·exact absurd ⟨x,hx,h⟩ (HE.out.no e q)
    ·omega⟩)
  have Hx:=uQ hx
  cases hsv
  have c0:(0:Int)≤((Tab.pos k s.length e:Nat):Int):=oQ
  have c1:((Tab.pos k s.length e:Nat):Int)<(s.length:Int):=oQ
  have c2:Tab.pos k s.length e<s.length:=hlt
  have e0:wr.cell? ⟨p,0,none⟩=some (.slice (some ⟨bk,off,none⟩) s.length lc):=hS.cellP pkD 0 rfl
  have hl38:=Hlen.out x hxm
  clear hx hxm
  have hq:bits .and .i64 (((Tab.pos k s.length e:Nat):Int)+1) ((s.length:Int) - 1)=((Tab.pos k s.length (e+1):Nat):Int):=by
   have h1:=Hmask.out
   rw [← Hj.out,Hnext.out]at h1
   rw [← h1]
   congr 1
   have:=Hp0.out
   omega
  have hw1:IntKind.i64.wrap (((Tab.pos k s.length e:Nat):Int)+1)=((Tab.pos k s.length e:Nat):Int)+1:=IntWalk.i64_in _ oQ
  have hw2:IntKind.i64.wrap ((s.length:Int) - 1)=(s.length:Int) - 1:=IntWalk.i64_in _ oQ
  have hw3:IntKind.i64.wrap ((e:Int)+1+1)=(e:Int)+1+1:=IntWalk.i64_in _ oQ
  clear hdl hcl
  generalize hP1:Tab.pos k s.length (e+1)=P1 at hq
  have HP1:=uQ hP1
  generalize hP:Tab.pos k s.length e=P0 at *
  have HP:=uQ hP
  clear hP1 hP hlt Hmask Hnext
  have Hed:=uQ hed
  clear hed
  go_wp2_with (with_reducible apply at_load)
  refine ⟨wl_load1 hS rFz pkD nLz evD kRz ?_⟩
  go_wp2_with (with_reducible apply at_load)
  refine ⟨wl_loadW (b:=bk) (o:=off+P0 * 38) (slotL aenc x) rFz hcell Tryz.underlying256 rfl (by rw [hl38];kernel_rfl) ?_⟩
  go_wp2_with (with_reducible apply at_alloc)
  refine ⟨wl_alloc zSlotA hS rfl ?_⟩
  intro b9 w9 hS9
  go_wp2_with (first|((with_reducible refine at_store ⟨?_⟩);refine wl_storeA (slotL aenc x).toArray hS9 rFz rFz (by rw [List.size_toArray,hl38];rfl) upd0 (by rw [List.size_toArray,hl38];kernel_rfl) (by rw [List.toList_toArray];exact slotL_ones aenc x (aenc_ones _)) ?_;intro w10 hS10)|(with_reducible apply at_load))
  refine ⟨?_⟩
  clear hS hS9 hcell e0
  have f0:w10.cell? ⟨b9,0,none⟩=some (.int .i64 x.st):=hS10.cellP pick0 0 (by rw [List.getElem?_toArray];rfl)
  have f1:w10.rangeAt b9 1 (bys x.key):=slot_key (hS10.pick pick0)
  have f2:w10.cell? ⟨p,0,none⟩=some (.slice (some ⟨bk,off,none⟩) s.length lc):=hS10.cellP pkD 0 rfl
  have hend:Sat w0 w10 (pt bB (.cells (bys k).toArray 24 (0,0))::tbPt p 184 (.slice (some ⟨bk,off,none⟩) s.length lc) n gn::osl 256 38 (.slice (some ⟨bk,off,none⟩) s.length lc) (s.flatMap (slotL aenc))::F):=hS10.sb
  have h3:x.st=0∨x.st=1∨x.st=2:=oQ
  rcases h3 with h3|h3|h3
  ·have h4:e=d:=Hstop.out.2 (.inl h3)
   rw [h3]at f0
   have Hdx:=uQ (show decide (x.st=1)=false by rw [h3];rfl)
   have Hst:=uQ (show (x.st:Int)=0 by rw [h3];rfl)
   clear Hstop hst h3 f1 f2 hq hw1 hw2 hw3 c0 c1 c2
   subst h4
   go_wp2_with fail
   have hS11:=hS10.drew
   clear hS10
   refine wpL_begin [4,7] (fun w'=>w'.cell? ⟨b9,0,none⟩=some (.int .i64 0)) kRz ?_
   have hG:World.cell? _ ⟨b9,0,none⟩=some (.int .i64 0):=hS11.cellP pick0 0 (by rw [List.getElem?_toArray,← Hst.out];rfl)
   clear f0
   refine rP 0 ?_ (y:=mvQ)
   refine rP 1 ?_ (y:=mvQ)
   refine rP 2 ?_ (y:=flQ)
   refine rt 3 (h:=?_)
   refine rP 4 ?_ (y:=bnQ)
   refine rP 5 ?_ (y:=asQ)
   refine rP 6 ?_ (y:=asQ)
   refine rP 7 ?_ (y:=asQ)
   refine wpL_done kRz ?_
   clear hG
   try simp only [ayQ]
   try go_frame
   go_wp2_with fail
   go_ret3
   exact ⟨_,rfl,x,by rw [HP.out];exact Hx.out,by rw [HP.out,Hdx.out];rfl,hS11.sb⟩
  ·have f3:w10.rangeAt bB 0 (bys k):=pt_rangeL (hS10.pk (A:=pt bB (.cells (bys k).toArray 24 (0,0))))
   have hkk:=eqIn_key x.key k Hxk.out Hk.out
   rw [h3]at f0
   by_cases hxk:x.key=k
   ·have h4:e=d:=Hstop.out.2 (.inr ⟨h3,hxk⟩)
    have Hdx:=uQ (show decide (x.st=1)=true by rw [h3];rfl)
    have Hst:=uQ (show (x.st:Int)=1 by rw [h3];rfl)
    rw [decide_eq_true hxk]at hkk
    clear Hstop hst h3 hxk hq hw1 hw2 hw3 c0 c1 c2 f2
    subst h4
    go_wp2_with (first
     |((with_reducible refine at_loadG ⟨?_⟩);refine wl_loadGm (o:=1) rFz rFz (bys x.key) _ f1 Tryz.underlying24 rfl (by rw [bys_len,Hxk.out];kernel_rfl) ?_)
     |((with_reducible refine at_loadG ⟨?_⟩);refine wl_loadGm (o:=0) rFz rFz (bys k) _ f3 Tryz.underlying24 rfl (by rw [bys_len,Hk.out];kernel_rfl) ?_))
    clear hkk f1 f3
    have hS11:=hS10.drew
    clear hS10
    refine wpL_begin [4,7] (fun w'=>w'.cell? ⟨b9,0,none⟩=some (.int .i64 1)) kRz ?_
    have hG:World.cell? _ ⟨b9,0,none⟩=some (.int .i64 1):=hS11.cellP pick0 0 (by rw [List.getElem?_toArray,← Hst.out];rfl)
    clear f0
    refine rP 0 ?_ (y:=mvQ)
    refine rP 1 ?_ (y:=mvQ)
    refine rP 2 ?_ (y:=flQ)
    refine rt 3 (h:=?_)
    refine rP 4 ?_ (y:=bnQ)
    refine rP 5 ?_ (y:=asQ)
    refine rP 6 ?_ (y:=asQ)
    refine rP 7 ?_ (y:=asQ)
    refine wpL_done kRz ?_
    clear hG
    try simp only [ayQ]
    try go_frame
    go_wp2_with fail
    go_ret3
    exact ⟨_,rfl,x,by rw [HP.out];exact Hx.out,by rw [HP.out,Hdx.out];rfl,hS11.sb⟩
   ·have h4:e<d:=by
     have:=Hed.out
     rcases Nat.lt_or_ge e d with q|q
     ·exact q
     ·exact absurd (Hstop.out.1 oQ) (fun h=>h.elim (fun h=>by omega) fun h=>hxk h.2)
    rw [decide_eq_false hxk]at hkk
    have H4:=uQ h4
    clear Hstop hst h3 hxk h4
    go_wp2_with (first
     |((with_reducible refine at_loadG ⟨?_⟩);refine wl_loadGm (o:=1) rFz rFz (bys x.key) _ f1 Tryz.underlying24 rfl (by rw [bys_len,Hxk.out];kernel_rfl) ?_)
     |((with_reducible refine at_loadG ⟨?_⟩);refine wl_loadGm (o:=0) rFz rFz (bys k) _ f3 Tryz.underlying24 rfl (by rw [bys_len,Hk.out];kernel_rfl) ?_))
    go_roundg (d - (e+1))
    case measure=>have:=H4.out;omega
    case rel=>exact ⟨e+1,rfl,H4.out,by rw [HP1.out],by first|rfl|go_num,hS10.sb⟩
  ·have h4:e<d:=by
    have:=Hed.out
    rcases Nat.lt_or_ge e d with q|q
    ·exact q
    ·exact absurd (Hstop.out.1 oQ) (fun h=>h.elim (fun h=>by omega) fun h=>by omega)
   rw [h3]at f0
   have H4:=uQ h4
   clear Hstop hst h3 f1 h4
   go_wp2_with fail
   go_roundg (d - (e+1))
   case measure=>have:=H4.out;omega
   case rel=>exact ⟨e+1,rfl,H4.out,by rw [HP1.out],by first|rfl|go_num,hS10.sb⟩
end
section
variable {w0 w:World}{F R:List HProp}{p n gn d c:Nat}{sv v:Value}{k:Frm.Bs}{s:List (Tab.Slot (Seg.Plc))}{a:Option Addr}
theorem okL_c (hl:0<s.length) (h:Sat w0 w (tbPt p 181 (.slice a s.length c) n gn::F)) :
  Calls Tryz.prog 144 #[ptr p] w (Rtn fun v w'=>v = .bool true∧w=w'):=by
 have e0:w.cell? ⟨p,0,none⟩=some (.slice a s.length c):=h.cellAt 0 _ rfl
 have c1:(0:Int)<(s.length:Int):=oQ
 go_enter Tryz.func144,Tryz.ntmps144
 go_wp2
 go_ret
 exact ⟨_,rfl,rfl,rfl⟩
set_option maxRecDepth 20000 in
theorem findL_c (g:Tab.Good s) (hc:s.length≤1073741824) (hk:k.length=32) (he:Tab.Ends s k d) (h:Sat w0 w (tbPt p 181 sv n gn::osl 230 36 sv (s.flatMap (slotL penc))::F)) :
  Calls Tryz.prog 145 #[ptr p,.agg (bys k).toArray] w (Rtn fun v w'=>∃ x,s[Tab.pos k s.length d]?=some x∧v = .tuple #[.int .i64 (Tab.pos k s.length d:Nat),.int .i64 ((d:Int)+1),.bool (decide (x.st=1))] ∧
   Sat w0 w' (tbPt p 181 sv n gn::osl 230 36 sv (s.flatMap (slotL penc))::F)):=by
 have Hk:=uQ hk;have HG:=uQ g;have HE:=uQ he;have Hc:=uQ hc
 have Hlen:=uQ (show ∀ x∈s,(slotL penc x).length=36 from fun x hx=>slotL_len penc x (g.key x hx) 3 (penc_len _))
 obtain ⟨la,lc,rfl⟩:=osl_rows Hlen.out (Sat.rd (h.pick pick1)) dCz
 obtain ⟨j,hj,_⟩:=g.pow
 have hj40:j<40:=by
  rcases Nat.lt_or_ge j 40 with q|q
  ·exact q
  ·have:2^40≤2^j:=Nat.pow_le_pow_right dCz q
   have h40:(2:Nat)^40=1099511627776:=by decide
   omega
 have Hj:=uQ hj;have Hj40:=uQ hj40
 have Hd:=uQ (show d<s.length from he.lt)
 have hp0:0<s.length:=g.pos_len
 have Hp0:=uQ hp0
 have Hpz:=uQ (Tab.pos_zero (k:=k) hp0)
 clear hj hj40 hk g he hc hp0
 go_enter Tryz.func145,Tryz.ntmps145
 go_wp2_with ((with_reducible refine at_box ⟨?_⟩);refine wl_box aQ evD evD ?_;intro bB wB hB)
 have hB1:=hB.drew
 clear hB
 refine wpL_begin [6,7] (fun w'=>w'.rangeAt bB 0 (bys k)∧w'.cell? ⟨p,0,none⟩=some (.slice la s.length lc)) kRz ?_
 have hG:World.rangeAt _ bB 0 (bys k)∧World.cell? _ ⟨p,0,none⟩=some (.slice la s.length lc):=⟨pt_rangeL (hB1.pk (A:=pt bB (.cells (bys k).toArray 24 (0,0)))),hB1.cellP pkD 0 rfl⟩
 refine rg_take 0 evD kRz i3z (tk_loadN (b:=bB) (o:=0) (bys k) rFz Tryz.underlying24 rfl (by rw [bys_len,Hk.out];kernel_rfl) (fun w hw=>hw.1)) aQ gQ ?_
 refine rP 1 ?_ (y:=mvQ)
 refine rP 2 ?_ (y:=nlQ)
 refine rP 3 ?_ (y:=flQ)
 refine rt 4 (h:=?_)
 refine rP 5 ?_ (y:=(yl_len evD rnD))
 clear hG
 have hh:=home_c k Hk.out j Hj40.out hB1
 rw [← Hj.out]at hh
 refine rg_eff 6 evD kRz (fun K hK=>?_)
 (refine eff_call2 kRz evD evD ?_)
 refine hh.mono ?_
 rintro ee w2 ⟨v,rfl,rfl,hS2⟩
 refine hK _ _ (.inl rfl) ?_
 clear hK hh hB1
 refine rP 7 ?_ (y:=asQ)
 refine wpL_done kRz ?_
 try simp only [ayQ]
 try go_frame
 rw [← Hpz.out]
 go_wp2_with fail
 go_loopg [7,8] d (fun g aq sq wr=>∃ e:Nat,g=d - e∧e≤d∧aq = .int .i64 (Tab.pos k s.length e:Nat)∧sq = .int .i64 ((e:Int)+1) ∧
  Sat w0 wr (pt bB (.cells (bys k).toArray 24 (0,0))::tbPt p 181 (.slice la s.length lc) n gn::osl 230 36 (.slice la s.length lc) (s.flatMap (slotL penc))::F))
 case atStart=>exact ⟨0,rfl,Nat.zero_le _,rfl,rfl,hS2.sb⟩
 case round=>
  obtain ⟨e,rfl,hed,rfl,rfl,hS⟩:=hrel
  clear hS2
  have hlt:=Tab.pos_lt (k:=k) (d:=e) Hp0.out
  have hdl:=Hd.out
  have hcl:=Hc.out
  obtain ⟨x,hx⟩:∃ x,s[Tab.pos k s.length e]?=some x:=⟨_,List.getElem?_eq_getElem hlt⟩
  have hxm:=List.mem_of_getElem? hx
  have hst:=HG.out.st x hxm
  have Hxk:=uQ (HG.out.key x hxm)
  obtain ⟨bk,off,c',hsv,hcell⟩:=osl_row Hlen.out (Sat.rd (hS.pick pick2)) hx dCz
  have Hnext:=uQ (Tab.pos_next (k:=k) (d:=e) Hp0.out)
  have Hmask:=uQ (and_mask (Tab.pos k s.length e+1) j oQ (by have:=Hj40.out;omega))
  have Hstop:=uQ (show e=d↔x.stop k from ⟨fun h=>by
    subst h
    obtain ⟨y,hy,hs⟩:=HE.out.here
    rw [hx]at hy;cases hy;exact hs,fun h=>by
    rcases Nat.lt_or_ge e d with q|q
    ·exact absurd ⟨x,hx,h⟩ (HE.out.no e q)
    ·omega⟩)
  have Hx:=uQ hx
  cases hsv
  have c0:(0:Int)≤((Tab.pos k s.length e:Nat):Int):=oQ
  have c1:((Tab.pos k s.length e:Nat):Int)<(s.length:Int):=oQ
  have c2:Tab.pos k s.length e<s.length:=hlt
  have e0:wr.cell? ⟨p,0,none⟩=some (.slice (some ⟨bk,off,none⟩) s.length lc):=hS.cellP pkD 0 rfl
  have hl38:=Hlen.out x hxm
  clear hx hxm
  have hq:bits .and .i64 (((Tab.pos k s.length e:Nat):Int)+1) ((s.length:Int) - 1)=((Tab.pos k s.length (e+1):Nat):Int):=by
   have h1:=Hmask.out
   rw [← Hj.out,Hnext.out]at h1
   rw [← h1]
   congr 1
   have:=Hp0.out
   omega
  have hw1:IntKind.i64.wrap (((Tab.pos k s.length e:Nat):Int)+1)=((Tab.pos k s.length e:Nat):Int)+1:=IntWalk.i64_in _ oQ
  have hw2:IntKind.i64.wrap ((s.length:Int) - 1)=(s.length:Int) - 1:=IntWalk.i64_in _ oQ
  have hw3:IntKind.i64.wrap ((e:Int)+1+1)=(e:Int)+1+1:=IntWalk.i64_in _ oQ
  clear hdl hcl
  generalize hP1:Tab.pos k s.length (e+1)=P1 at hq
  have HP1:=uQ hP1
  generalize hP:Tab.pos k s.length e=P0 at *
  have HP:=uQ hP
  clear hP1 hP hlt Hmask Hnext
  have Hed:=uQ hed
  clear hed
  go_wp2_with (with_reducible apply at_load)
  refine ⟨wl_load1 hS rFz pkD nLz evD kRz ?_⟩
  go_wp2_with (with_reducible apply at_load)
  refine ⟨wl_loadW (b:=bk) (o:=off+P0 * 36) (slotL penc x) rFz hcell Tryz.underlying230 rfl (by rw [hl38];kernel_rfl) ?_⟩
  go_wp2_with (with_reducible apply at_alloc)
  refine ⟨wl_alloc zSlotL hS rfl ?_⟩
  intro b9 w9 hS9
  go_wp2_with (first|((with_reducible refine at_store ⟨?_⟩);refine wl_storeA (slotL penc x).toArray hS9 rFz rFz (by rw [List.size_toArray,hl38];rfl) upd0 (by rw [List.size_toArray,hl38];kernel_rfl) (by rw [List.toList_toArray];exact slotL_ones penc x (penc_ones _)) ?_;intro w10 hS10)|(with_reducible apply at_load))
  refine ⟨?_⟩
  clear hS hS9 hcell e0
  have f0:w10.cell? ⟨b9,0,none⟩=some (.int .i64 x.st):=hS10.cellP pick0 0 (by rw [List.getElem?_toArray];rfl)
  have f1:w10.rangeAt b9 1 (bys x.key):=slot_key (hS10.pick pick0)
  have f2:w10.cell? ⟨p,0,none⟩=some (.slice (some ⟨bk,off,none⟩) s.length lc):=hS10.cellP pkD 0 rfl
  have hend:Sat w0 w10 (pt bB (.cells (bys k).toArray 24 (0,0))::tbPt p 181 (.slice (some ⟨bk,off,none⟩) s.length lc) n gn::osl 230 36 (.slice (some ⟨bk,off,none⟩) s.length lc) (s.flatMap (slotL penc))::F):=hS10.sb
  have h3:x.st=0∨x.st=1∨x.st=2:=oQ
  rcases h3 with h3|h3|h3
  ·have h4:e=d:=Hstop.out.2 (.inl h3)
   rw [h3]at f0
   have Hdx:=uQ (show decide (x.st=1)=false by rw [h3];rfl)
   have Hst:=uQ (show (x.st:Int)=0 by rw [h3];rfl)
   clear Hstop hst h3 f1 f2 hq hw1 hw2 hw3 c0 c1 c2
   subst h4
   go_wp2_with fail
   have hS11:=hS10.drew
   clear hS10
   refine wpL_begin [4,7] (fun w'=>w'.cell? ⟨b9,0,none⟩=some (.int .i64 0)) kRz ?_
   have hG:World.cell? _ ⟨b9,0,none⟩=some (.int .i64 0):=hS11.cellP pick0 0 (by rw [List.getElem?_toArray,← Hst.out];rfl)
   clear f0
   refine rP 0 ?_ (y:=mvQ)
   refine rP 1 ?_ (y:=mvQ)
   refine rP 2 ?_ (y:=flQ)
   refine rt 3 (h:=?_)
   refine rP 4 ?_ (y:=bnQ)
   refine rP 5 ?_ (y:=asQ)
   refine rP 6 ?_ (y:=asQ)
   refine rP 7 ?_ (y:=asQ)
   refine wpL_done kRz ?_
   clear hG
   try simp only [ayQ]
   try go_frame
   go_wp2_with fail
   go_ret3
   exact ⟨_,rfl,x,by rw [HP.out];exact Hx.out,by rw [HP.out,Hdx.out];rfl,hS11.sb⟩
  ·have f3:w10.rangeAt bB 0 (bys k):=pt_rangeL (hS10.pk (A:=pt bB (.cells (bys k).toArray 24 (0,0))))
   have hkk:=eqIn_key x.key k Hxk.out Hk.out
   rw [h3]at f0
   by_cases hxk:x.key=k
   ·have h4:e=d:=Hstop.out.2 (.inr ⟨h3,hxk⟩)
    have Hdx:=uQ (show decide (x.st=1)=true by rw [h3];rfl)
    have Hst:=uQ (show (x.st:Int)=1 by rw [h3];rfl)
    rw [decide_eq_true hxk]at hkk
    clear Hstop hst h3 hxk hq hw1 hw2 hw3 c0 c1 c2 f2
    subst h4
    go_wp2_with (first
     |((with_reducible refine at_loadG ⟨?_⟩);refine wl_loadGm (o:=1) rFz rFz (bys x.key) _ f1 Tryz.underlying24 rfl (by rw [bys_len,Hxk.out];kernel_rfl) ?_)
     |((with_reducible refine at_loadG ⟨?_⟩);refine wl_loadGm (o:=0) rFz rFz (bys k) _ f3 Tryz.underlying24 rfl (by rw [bys_len,Hk.out];kernel_rfl) ?_))
    clear hkk f1 f3
    have hS11:=hS10.drew
    clear hS10
    refine wpL_begin [4,7] (fun w'=>w'.cell? ⟨b9,0,none⟩=some (.int .i64 1)) kRz ?_
    have hG:World.cell? _ ⟨b9,0,none⟩=some (.int .i64 1):=hS11.cellP pick0 0 (by rw [List.getElem?_toArray,← Hst.out];rfl)
    clear f0
    refine rP 0 ?_ (y:=mvQ)
    refine rP 1 ?_ (y:=mvQ)
    refine rP 2 ?_ (y:=flQ)
    refine rt 3 (h:=?_)
    refine rP 4 ?_ (y:=bnQ)
    refine rP 5 ?_ (y:=asQ)
    refine rP 6 ?_ (y:=asQ)
    refine rP 7 ?_ (y:=asQ)
    refine wpL_done kRz ?_
    clear hG
    try simp only [ayQ]
    try go_frame
    go_wp2_with fail
    go_ret3
    exact ⟨_,rfl,x,by rw [HP.out];exact Hx.out,by rw [HP.out,Hdx.out];rfl,hS11.sb⟩
   ·have h4:e<d:=by
     have:=Hed.out
     rcases Nat.lt_or_ge e d with q|q
     ·exact q
     ·exact absurd (Hstop.out.1 oQ) (fun h=>h.elim (fun h=>by omega) fun h=>hxk h.2)
    rw [decide_eq_false hxk]at hkk
    have H4:=uQ h4
    clear Hstop hst h3 hxk h4
    go_wp2_with (first
     |((with_reducible refine at_loadG ⟨?_⟩);refine wl_loadGm (o:=1) rFz rFz (bys x.key) _ f1 Tryz.underlying24 rfl (by rw [bys_len,Hxk.out];kernel_rfl) ?_)
     |((with_reducible refine at_loadG ⟨?_⟩);refine wl_loadGm (o:=0) rFz rFz (bys k) _ f3 Tryz.underlying24 rfl (by rw [bys_len,Hk.out];kernel_rfl) ?_))
    go_roundg (d - (e+1))
    case measure=>have:=H4.out;omega
    case rel=>exact ⟨e+1,rfl,H4.out,by rw [HP1.out],by first|rfl|go_num,hS10.sb⟩
  ·have h4:e<d:=by
    have:=Hed.out
    rcases Nat.lt_or_ge e d with q|q
    ·exact q
    ·exact absurd (Hstop.out.1 oQ) (fun h=>h.elim (fun h=>by omega) fun h=>by omega)
   rw [h3]at f0
   have H4:=uQ h4
   clear Hstop hst h3 f1 h4
   go_wp2_with fail
   go_roundg (d - (e+1))
   case measure=>have:=H4.out;omega
   case rel=>exact ⟨e+1,rfl,H4.out,by rw [HP1.out],by first|rfl|go_num,hS10.sb⟩
end
def TabML (p:Nat) (m:Frm.Bs→Option (Seg.Plc)) (B:Nat):HProp:=fun h=>∃ (t:Tab.Tb (Seg.Plc)) (sv:Value),(t.Ok∧t.Is m∧t.n+t.gone≤B)∧stars [tbPt p 181 sv t.n t.gone,osl 230 36 sv (t.slots.flatMap (slotL penc))] h
theorem zValL:zeroB Tryz.prog 54=some (.agg (penc Seg.Plc.zero).toArray):=by kernel_rfl
section
variable {w0 w:World}{F R:List HProp}{p B:Nat}{sv v:Value}{k:Frm.Bs}{m:Frm.Bs→Option (Seg.Plc)}{t:Tab.Tb (Seg.Plc)}
theorem TabML.open (h:Sat w0 w (TabML p m B::F)):∃ (t:Tab.Tb (Seg.Plc)) (sv:Value),(t.Ok∧t.Is m∧t.n+t.gone≤B)∧Sat w0 w (tbPt p 181 sv t.n t.gone::osl 230 36 sv (t.slots.flatMap (slotL penc))::F):=by
 obtain ⟨ha,x,hx,q,r,dd,rfl,⟨t,sv,hin,hp⟩,hq⟩:=h
 refine ⟨t,sv,hin,ha,_,hx,?_⟩
 show stars ([tbPt p 181 sv t.n t.gone,osl 230 36 sv (t.slots.flatMap (slotL penc))]++F) _
 rw [stars_append]
 exact ⟨q,r,dd,rfl,hp,hq⟩
theorem TabML.shut (h1:t.Ok) (h2:t.Is m) (h3:t.n+t.gone≤B) (h:Sat w0 w (tbPt p 181 sv t.n t.gone::osl 230 36 sv (t.slots.flatMap (slotL penc))::F)):Sat w0 w (TabML p m B::F):=
 Sat.join (M:=[tbPt p 181 sv t.n t.gone,osl 230 36 sv (t.slots.flatMap (slotL penc))]) h fun _ hx=>⟨t,sv,⟨h1,h2,h3⟩,hx⟩
theorem newL_c (h:Sat w0 w F):Calls Tryz.prog 53 #[] w (Rtn fun v w'=>∃ p,v=ptr p∧Sat w0 w' (TabML p (fun _=>none) 0::F)):=by
 go_enter Tryz.func53,Tryz.ntmps53
 go_wp2_with (first
  |((with_reducible refine at_make ⟨?_⟩);refine wl_makeN (e:=230) (sz:=36) (by':=64) (n:=8) kRz zSlotL h rFz rFz dCz dCz ?_;intro bM wM hM)
  |((with_reducible refine at_box ⟨?_⟩);refine wl_box hM evD evD ?_;intro bB wB hB))
 go_ret
 refine ⟨_,rfl,bB,rfl,?_⟩
 have e:(List.replicate 8 (slotL penc ⟨0,Frm.zero32,Seg.Plc.zero⟩)).flatten=(List.replicate 8 (⟨0,Frm.zero32,Seg.Plc.zero⟩:Tab.Slot (Seg.Plc))).flatMap (slotL penc):=(rows_rep 8 _).symm
 rw [e]at hB
 exact TabML.shut (t:=⟨List.replicate 8 ⟨0,Frm.zero32,Seg.Plc.zero⟩,0,0⟩) (Tab.new_ok dCz rfl) (Tab.new_is rfl 0 0) (Nat.le_refl 0) hB
set_option maxRecDepth 20000 in
theorem getL_c (hB:B≤268435000) (hk:k.length=32) (h:Sat w0 w (TabML p m B::F)) :
  Calls Tryz.prog 96 #[ptr p,.agg (bys k).toArray] w (Rtn fun v w'=>v = .tuple #[.agg (penc ((m k).getD Seg.Plc.zero)).toArray,.bool (m k).isSome]∧Sat w0 w' (TabML p m B::F)):=by
 obtain ⟨t,sv,⟨ok,is,hb⟩,hR⟩:=TabML.open h
 obtain ⟨d,he⟩:=ok.ends k
 have hsz:t.slots.length≤1073741824:=by have:=ok.size;omega
 have Hlen:=uQ (show ∀ x∈t.slots,(slotL penc x).length=36 from fun x hx=>slotL_len penc x (ok.good.key x hx) 3 (penc_len _))
 obtain ⟨la,lc,rfl⟩:=osl_rows Hlen.out (Sat.rd (hR.pick pick1)) dCz
 have Hk:=uQ hk;have Hok:=uQ ok;have His:=uQ is;have Hb:=uQ hb;have He:=uQ he;have Hsz:=uQ hsz
 have Hp0:=uQ ok.good.pos_len
 clear h hk ok is hb he hsz hB
 go_enter Tryz.func96,Tryz.ntmps96
 go_wp2_with (first|((with_reducible refine at_box ⟨?_⟩);refine wl_box aQ evD evD ?_;intro bB wB hB)|(with_reducible apply at_alloc))
 refine ⟨wl_alloc zValL hB rfl ?_⟩
 intro b4 w4 hS4
 go_wp2_with (with_reducible apply at_alloc)
 refine ⟨wl_alloc zValL hS4 rfl ?_⟩
 intro b6 w6 hS6
 have hR6:Sat w0 w6 (tbPt p 181 (.slice la t.slots.length lc) t.n t.gone::pt b6 (.cells (penc Seg.Plc.zero).toArray 54 (0,0))::pt b4 (.cells (penc Seg.Plc.zero).toArray 54 (0,0))::pt bB (.cells (bys k).toArray 24 (0,0))::osl 230 36 (.slice la t.slots.length lc) (t.slots.flatMap (slotL penc))::F):=hS6.sb
 clear hB hS4 hS6 hR
 go_wp2_with fail
 refine (okL_c Hp0.out hR6).mono ?_
 rintro ee w7 ⟨v,rfl,rfl,rfl⟩
 go_wp2_with ((with_reducible refine at_load ⟨?_⟩);refine wl_loadA hR6 rFz (pick_there (pick_there (pick_there pick0))) Tryz.underlying24 rfl (by rw [List.size_toArray,bys_len,Hk.out];kernel_rfl) ?_)
 have hf:=findL_c Hok.out.good Hsz.out Hk.out He.out (hR6.sb:Sat w0 w6 (tbPt p 181 (.slice la t.slots.length lc) t.n t.gone::osl 230 36 (.slice la t.slots.length lc) (t.slots.flatMap (slotL penc))::pt b6 (.cells (penc Seg.Plc.zero).toArray 54 (0,0))::pt b4 (.cells (penc Seg.Plc.zero).toArray 54 (0,0))::F))
 clear hR6
 refine hf.mono ?_
 rintro ee w8 ⟨v,rfl,x,hx,rfl,hS8⟩
 clear hf
 obtain ⟨m1,m2⟩:=His.out.some Hok.out He.out hx
 have hxm:=List.mem_of_getElem? hx
 have hxk:=Hok.out.good.key x hxm
 obtain ⟨bk,off,c',hsv,hcell⟩:=osl_row Hlen.out (Sat.rd (hS8.pick pick1)) hx dCz
 cases hsv
 have hlt:=Tab.pos_lt (k:=k) (d:=d) Hp0.out
 have hval:∀ j v,(penc x.val)[j]?=some v→w8.cell? ⟨bk,off+Tab.pos k t.slots.length d * 36+33+j,none⟩=some v:=fun j v hj=>by
  rw [Nat.add_assoc _ 33 j]
  exact hcell (33+j) v (slotL_val penc x hxk hj)
 clear hcell hx hxm
 generalize Tab.pos k t.slots.length d=P0 at *
 have c0:(0:Int)≤(P0:Int):=oQ
 have c1:(P0:Int)<(t.slots.length:Int):=oQ
 have e0:w8.cell? ⟨p,0,none⟩=some (.slice (some ⟨bk,off,none⟩) t.slots.length lc):=hS8.cellP pkD 0 rfl
 by_cases h1:x.st=1
 ·have hd:decide (x.st=1)=true:=decide_eq_true h1
  have Hm:=uQ (m1 h1)
  clear m1 m2 h1
  go_wp2_with (first
   |((with_reducible refine at_load ⟨?_⟩);refine wl_load1 hS8 rFz pkD nLz evD kRz ?_)
   |((with_reducible refine at_load ⟨?_⟩);refine wl_loadW (b:=bk) (o:=off+P0 * 36+33) (penc x.val) rFz hval Tryz.underlying54 rfl kRz ?_)
   |((with_reducible refine at_store ⟨?_⟩);refine wl_storeA (penc x.val).toArray hS8 rFz rFz rFz (upd_there (upd_there (upd_there upd0))) kRz rFz ?_;intro w10 hS10))
  refine ⟨rfl,_,res_cell_tmp rfl hS10 rFz pkD Tryz.underlying54 rfl kRz,_,rfl,?_,TabML.shut Hok.out His.out Hb.out (hS10.sb)⟩
  rw [Hm.out];rfl
 ·have hd:decide (x.st=1)=false:=decide_eq_false h1
  have Hm:=uQ (m2 h1)
  clear m1 m2 h1
  go_wp2_with (first
   |((with_reducible refine at_load ⟨?_⟩);refine wl_loadA hS8 rFz (pick_there (pick_there (pick0 (A:=pt b6 (.cells (penc Seg.Plc.zero).toArray 54 (0,0)))))) Tryz.underlying54 rfl kRz ?_)
   |((with_reducible refine at_store ⟨?_⟩);refine wl_storeA (penc Seg.Plc.zero).toArray hS8 rFz rFz rFz (upd_there (upd_there (upd_there upd0))) kRz rFz ?_;intro w10 hS10))
  refine ⟨rfl,_,res_cell_tmp rfl hS10 rFz (pick_there (pick_there (pick_there pick0))) Tryz.underlying54 rfl kRz,_,rfl,?_,TabML.shut Hok.out His.out Hb.out (hS10.sb)⟩
  rw [Hm.out];rfl
end
section
variable {w0 w:World}{F R:List HProp}{p B N:Nat}{sv v:Value}{k:Frm.Bs}{m:Frm.Bs→Option (Seg.Plc)}{t:Tab.Tb (Seg.Plc)}
set_option maxRecDepth 20000 in
theorem renewL_c (ok:t.Ok) (hN:t.n≤N) (hNb:N≤134217728) (hlen31:t.slots.length≤1073741824) (h:Sat w0 w (tbPt p 181 sv t.n t.gone::osl 230 36 sv (t.slots.flatMap (slotL penc))::F)) :
  Calls Tryz.prog 146 #[ptr p,.int .i64 N] w (Rtn fun _ w'=>∃ s' sv',Tab.Renewed t s' N∧Sat w0 w' (tbPt p 181 sv' t.n 0::osl 230 36 sv' (s'.flatMap (slotL penc))::F)):=by
 have Hok:=uQ ok;have HN:=uQ hN;have HNb:=uQ hNb
 have Hlen:=uQ (show ∀ x∈t.slots,(slotL penc x).length=36 from fun x hx=>slotL_len penc x (ok.good.key x hx) 3 (penc_len _))
 obtain ⟨la,lc,rfl⟩:=osl_rows Hlen.out (Sat.rd (h.pick pick1)) dCz
 have hw0:IntKind.i64.wrap (2 * (N:Int))=2 * (N:Int):=IntWalk.i64_in _ oQ
 have hw0b:wrap64 (2 * (N:Int))=2 * (N:Int):=IntWalk.wrap64_in _ oQ
 clear ok hN
 go_enter Tryz.func146,Tryz.ntmps146
 go_wp2_with fail
 go_loopg [4] (4 * N) (fun g cq wr=>∃ c:Nat,g=4 * N+8 - c∧cq = .int .i64 c∧(∃ j,c=2^j∧3≤j)∧8≤c∧(c=8∨c<4 * N)∧wr=w)
 case atStart=>exact ⟨8,by omega,rfl,⟨3,rfl,Nat.le_refl 3⟩,Nat.le_refl 8,.inl rfl,rfl⟩
 case round=>
  obtain ⟨c,rfl,rfl,⟨j,hj,hj3⟩,hc8,hc,rfl⟩:=hrel
  by_cases hlt:c<2 * N
  ·have c1:(c:Int)<2 * (N:Int):=by omega
   have hw1:IntKind.i64.wrap ((c:Int) * 2)=(c:Int) * 2:=IntWalk.i64_in _ oQ
   have hw1b:wrap64 ((c:Int) * 2)=(c:Int) * 2:=IntWalk.wrap64_in _ oQ
   have Hj:=uQ hj;have Hj3:=uQ hj3;have Hlt:=uQ hlt;have Hc8:=uQ hc8
   clear hj hj3 hlt hc hc8
   go_wp2_with fail
   go_roundg (4 * N+8 - c * 2)
   case measure=>have:=Hlt.out;have:=Hc8.out;omega
   case rel=>exact ⟨c * 2,rfl,by first|rfl|go_num,⟨j+1,by rw [Nat.pow_succ,Hj.out],by have:=Hj3.out;omega⟩,by have:=Hc8.out;omega,.inr (by have:=Hlt.out;omega),rfl⟩
  ·have c1:¬ (c:Int)<2 * (N:Int):=by omega
   have HC:=uQ (show (∃ j,c=2^j∧3≤j)∧2 * N≤c∧8≤c∧(c=8∨c<4 * N) from ⟨⟨j,hj,hj3⟩,by omega,hc8,hc⟩)
   have hcb:c≤1073741824:=oQ
   have Hcb:=uQ hcb
   clear hj hj3 hlt hc hc8 hw0 hcb hNb
   go_wp2_with (first
    |((with_reducible refine at_load ⟨?_⟩);refine wl_load1 h rFz pkD nLz evD kRz ?_)
    |((with_reducible refine at_make ⟨?_⟩);refine wl_makeN (e:=230) (sz:=36) (by':=64) (n:=c) kRz zSlotL h rFz rFz (by have:=Hcb.out;omega) (by have:=Hcb.out;omega) ?_;intro bM wM hM)
    |((with_reducible refine at_store ⟨?_⟩);refine wl_store aQ rFz evD pQ upD nLz kRz rFz ?_;intro wS hS))
   have e8:(List.replicate c (slotL penc ⟨0,Frm.zero32,Seg.Plc.zero⟩)).flatten=(List.replicate c (⟨0,Frm.zero32,Seg.Plc.zero⟩:Tab.Slot (Seg.Plc))).flatMap (slotL penc):=(rows_rep c _).symm
   rw [e8]at hS
   have hS0:Sat w0 _ (tbPt p 181 (.slice (some ⟨bM,0,none⟩) c c) t.n 0::osl 230 36 (.slice (some ⟨bM,0,none⟩) c c) ((List.replicate c (⟨0,Frm.zero32,Seg.Plc.zero⟩:Tab.Slot (Seg.Plc))).flatMap (slotL penc))::osl 230 36 (.slice la t.slots.length lc) (t.slots.flatMap (slotL penc))::F):=hS.sb
   clear hS hM h e8 c1
   go_wp2_with fail
   go_loopg [31] t.slots.length (fun g iq wr=>∃ (i:Nat) (cur:List (Tab.Slot (Seg.Plc))),g=t.slots.length - i∧i≤t.slots.length∧iq = .int .i64 i∧Tab.Half t.slots cur i∧cur.length=c ∧
    Sat w0 wr (tbPt p 181 (.slice (some ⟨bM,0,none⟩) c c) t.n 0::osl 230 36 (.slice (some ⟨bM,0,none⟩) c c) (cur.flatMap (slotL penc))::osl 230 36 (.slice la t.slots.length lc) (t.slots.flatMap (slotL penc))::F))
   case atStart=>exact ⟨0,_,rfl,Nat.zero_le _,rfl,Tab.half_start HC.out.1 dCz rfl,List.length_replicate,hS0⟩
   case round=>
    obtain ⟨i,cur,rfl,hi,rfl,hH,hcl,hS⟩:=hrel
    clear hS0
    have HH:=uQ hH;have Hcl:=uQ hcl
    by_cases hlt:i<t.slots.length
    rotate_left
    ·obtain rfl:i=t.slots.length:=by omega
     have c1:¬ (t.slots.length:Int)<(t.slots.length:Int):=oQ
     clear hlt hH hi
     go_wp2_with fail
     go_end0
     obtain ⟨q1,q2,q3,q4⟩:=HH.out.done
     exact ⟨_,rfl,cur,⟨q1,q2,q3.trans Hok.out.n.symm,q4.trans Hok.out.n.symm,by rw [Hcl.out];exact HC.out.2.1,by rw [Hcl.out];exact HC.out.2.2.1,by rw [Hcl.out];exact HC.out.2.2.2⟩,_,hS.sb⟩
    have c1:(i:Int)<(t.slots.length:Int):=oQ
    have hwi:=iwQ (i:=i)
    obtain ⟨x,hx⟩:∃ x,t.slots[i]?=some x:=⟨_,List.getElem?_eq_getElem hlt⟩
    have hxm:=List.mem_of_getElem? hx
    have hst:=Hok.out.good.st x hxm
    have Hxk:=uQ (Hok.out.good.key x hxm)
    obtain ⟨bk,off,c',hsv,hcell⟩:=osl_row Hlen.out (Sat.rd (hS.pick pick2)) hx dCz
    cases hsv
    have hl38:=Hlen.out x hxm
    have Hx:=uQ hx;have Hlt:=uQ hlt
    clear hx hxm hlt hH hi
    go_wp2_with (first
     |((with_reducible refine at_load ⟨?_⟩);refine wl_loadW (b:=bk) (o:=off+i * 36) (slotL penc x) rFz hcell Tryz.underlying230 rfl (by rw [hl38];kernel_rfl) ?_)
     |(with_reducible apply at_alloc))
    refine ⟨wl_alloc zSlotL hS rfl ?_⟩
    intro b7 w7 hS7
    go_wp2_with (first|((with_reducible refine at_store ⟨?_⟩);refine wl_storeA (slotL penc x).toArray hS7 rFz rFz (by rw [List.size_toArray,hl38];rfl) upd0 (by rw [List.size_toArray,hl38];kernel_rfl) (by rw [List.toList_toArray];exact slotL_ones penc x (penc_ones _)) ?_;intro w10 hS10)|(with_reducible apply at_load))
    refine ⟨?_⟩
    clear hS hS7 hcell
    have f0:w10.cell? ⟨b7,0,none⟩=some (.int .i64 x.st):=hS10.cellP pick0 0 (by rw [List.getElem?_toArray];rfl)
    have f1:w10.rangeAt b7 1 (bys x.key):=slot_key (hS10.pick pick0)
    by_cases h1:x.st=1
    rotate_left
    ·have hst1:((x.st:Int)==1)=false:=by rw [beq_eq_false_iff_ne];omega
     have H1:=uQ h1
     clear h1 f1
     go_wp2_with fail
     go_roundg (t.slots.length - (i+1))
     case measure=>have:=Hlt.out;omega
     case rel=>exact ⟨i+1,cur,rfl,Hlt.out,by first|rfl|go_num,HH.out.skip Hx.out H1.out,Hcl.out,hS10.sb⟩
    ·have hus:Tab.used cur<cur.length:=by
      have h2:=HH.out.nu
      have h3:=Tab.fulls_take_le t.slots i
      have h4:=Hok.out.n
      have h5:=HN.out
      have h6:=HC.out
      rw [Hcl.out];omega
     obtain ⟨dd,hdd⟩:=Tab.ends_of (k:=x.key) HH.out.good (Tab.free_of hus)
     have H1:=uQ h1;have Hdd:=uQ hdd
     have hst1:((x.st:Int)==1)=true:=by rw [h1];rfl
     have Hcl38:=uQ (show ∀ y∈cur,(slotL penc y).length=36 from fun y hy=>slotL_len penc y (HH.out.good.key y hy) 3 (penc_len _))
     clear h1 hus hdd
     go_wp2_with ((with_reducible refine at_load ⟨?_⟩);refine wl_loadW (b:=b7) (o:=1) (bys x.key) rFz f1 Tryz.underlying24 rfl (by rw [bys_len,Hxk.out];kernel_rfl) ?_)
     have hf:=findL_c HH.out.good (by rw [Hcl.out];exact Hcb.out) Hxk.out Hdd.out (hS10.sb:Sat w0 w10 (tbPt p 181 (.slice (some ⟨bM,0,none⟩) c c) t.n 0::osl 230 36 (.slice (some ⟨bM,0,none⟩) c c) (cur.flatMap (slotL penc))::pt b7 (.cells (slotL penc x).toArray 230 (0,0))::osl 230 36 (.slice (some ⟨bk,off,none⟩) t.slots.length lc) (t.slots.flatMap (slotL penc))::F))
     clear hS10 f0 f1
     refine hf.mono ?_
     rintro ee w11 ⟨v,rfl,y,hy,rfl,hS11⟩
     clear hf hy
     have hlt2:=Tab.pos_lt (k:=x.key) (d:=dd) HH.out.good.pos_len
     rw [Hcl.out]at hlt2
     have Hset:=uQ (rows_set (f:=slotL penc) (k:=36) (i:=Tab.pos x.key cur.length dd) (x:=x) Hcl38.out hl38 (Tab.pos_lt HH.out.good.pos_len))
     have Hst2:=uQ (HH.out.step Hok.out.good Hx.out H1.out Hdd.out)
     rw [Hcl.out]at Hset Hst2
     rw [Hcl.out]
     have hrl:(cur.flatMap (slotL penc)).length=36 * c:=by rw [rows_len Hcl38.out,Hcl.out]
     generalize Tab.pos x.key c dd=P0 at *
     have c2:(0:Int)≤(P0:Int):=oQ
     have c3:(P0:Int)<(c:Int):=oQ
     go_wp2_with fail
     have hSd:=hS11.drew
     clear hS11
     refine wpL_begin [6,7] (fun w'=>w'.cell? ⟨p,0,none⟩=some (.slice (some ⟨bM,0,none⟩) c c)∧w'.rangeAt b7 0 (slotL penc x)) kRz ?_
     have hG:World.cell? _ ⟨p,0,none⟩=some (.slice (some ⟨bM,0,none⟩) c c)∧World.rangeAt _ b7 0 (slotL penc x):=⟨hSd.cellP pkD 0 rfl,pt_rangeL (hSd.pk (A:=pt b7 (.cells (slotL penc x).toArray 230 (0,0))))⟩
     refine rP 0 ?_ (y:=mvQ)
     refine rP 1 ?_ (y:=nlQ)
     refine rP 2 ?_ (y:=flQ)
     refine rt 3 (h:=?_)
     refine rP 4 ?_ (y:=mvQ)
     refine rg_take 5 evD kRz i3z (tk_loadN (b:=b7) (o:=0) (slotL penc x) rFz Tryz.underlying230 rfl (by rw [hl38];kernel_rfl) (fun w hw=>hw.2)) aQ gQ ?_
     refine rP 6 ?_ (y:=ixQ)
     clear hG
     refine rg_eff 7 evD kRz (fun K hK=>?_)
     refine eff_storeSN (vs:=slotL penc x) (P0 * 36) hSd evD evD rfl (upd_there upd0) (by rw [hl38,hrl];omega) (by rw [hl38];kernel_rfl) (slotL_ones penc x (penc_ones _)) ?_
     intro w12 hS12
     refine hK _ _ (.inl rfl) ?_
     clear hK hSd
     refine wpL_done kRz ?_
     try simp only [ayQ]
     try go_frame
     rw [← Hset.out]at hS12
     go_wp2_with fail
     go_roundg (t.slots.length - (i+1))
     case measure=>have:=Hlt.out;omega
     case rel=>exact ⟨i+1,_,rfl,Hlt.out,by first|rfl|go_num,Hst2.out,by rw [List.length_set];exact Hcl.out,hS12.sb⟩
end
end Go.Proofs.YtlinnpehkfbnkaaGreatDoor
