import Derived.Test.YtfdchfnmpabogaaGreatDoorJ10
import Derived.Test.YtfdchfnmpabogaaGreatDoorRows
import Derived.Test.YtfdchfnmpabogaaGreatDoorCards
import Derived.Test.YtfdchfnmpabogaaGreatDoorTie
import Derived.ProofKit
import Derived.LaidMore
import Derived.OpenShut
import Derived.ShutString
import Derived.SevenTiedAt
set_option linter.unusedVariables false
set_option maxHeartbeats 128000000
namespace Go.Proofs.YtfdchfnmpabogaaGreatDoor
open Go Go.Sl Go.Med Go.MapKept Go.RowKit
section
variable {w0 w:World}{F:List HProp}{gb q kp ip B Bi:Nat}{gs:List Int}{mm:Frm.Bs→Option Rep.Kpv}{bg:List (Value×List Int)}{mi:Frm.Bs→Option Seg.Plc}{N s:Int}{lv:Value}{f:Frm.Fnd}{da:Option Addr}{dn dc:Nat}{P:Cpt.Plan}
set_option maxRecDepth 20000 in
theorem ccounts_c (hk:f.e.key.length=32) (hB:B≤13000000) (hBi:Bi≤13000000) (hko:KeyOk mm P.keys bg) (hln:∀ k,(Cpt.kv0 P.keys k).1.length≤1048576) (hmi:mi=P.index)
  (h:Sat w0 w (goM gb gs::planPt q N lv kp ip gb::TabMK kp mm B::bagS bg::TabML ip mi Bi::F)) :
  Calls Tryz.prog 47 #[ptr q,.int .i64 s,.agg (fndA f (.slice da dn dc))] w (Rtn fun v w'=>v = .bool (Cpt.counts P gs s f)∧Sat w0 w' (goM gb gs::planPt q N lv kp ip gb::TabMK kp mm B::bagS bg::TabML ip mi Bi::F)):=by
 subst hmi
 have Hk:=uQ hk;have Hks:=uQ (show (bys f.e.key).length=32 by rw [bys_len,hk]);have HB:=uQ hB;have HBi:=uQ hBi
 have Hln:=uQ (hln f.e.key)
 obtain ⟨ka,kn,kc,hk1,hk2⟩:=hko f.e.key
 have Hq:=uQ hk2
 have e0:(fndA f (.slice da dn dc))[0]?=some (.int .i64 f.e.tag):=rfl
 obtain ⟨e34,e35,ekey⟩:=fnd_cell f (.slice da dn dc) hk
 have Hk1:=uQ hk1
 obtain ⟨x,hx⟩:∃ x:Bool,Cpt.counts P gs s f=x:=⟨_,rfl⟩
 have Hx:=uQ hx
 rw [hx]
 clear hx hk1 hk2 hk hB hBi hko hln
 go_enter Tryz.func47,Tryz.ntmps47
 go_wp2_with (with_reducible apply at_box)
 refine ⟨wl_box h evD evD ?_⟩
 intro b3 w3 h3
 go_wp2_with (with_reducible apply at_box)
 refine ⟨wl_box h3 evD evD ?_⟩
 intro b4 w4 h4
 go_wp2_with (with_reducible apply at_box)
 refine ⟨wl_box h4 evD evD ?_⟩
 intro b5 w5 h5
 clear h h3 h4
 repeat (first|go_skip|(with_reducible apply at_reg 1)|go_values|go_guarded|go_step|go_upon)
 refine ⟨?_⟩
 have h6:Sat w0 w5 (pt b5 (.cells (fndA f (.slice da dn dc)) 113 (0,0))::pt b4 (.cells #[.int .i64 s] 3 (0,0))::pt b3 (.cells #[ptr q] 63 (0,0))::goM gb gs::planPt q N lv kp ip gb::TabMK kp mm B::bagS bg::TabML ip P.index Bi::F):=h5
 clear h5
 have f0:w5.cell? ⟨b5,0,none⟩=some (.int .i64 f.e.tag):=h6.cellP pick0 0 e0
 by_cases h2:f.e.tag=2
 focus
  have hb:(f.e.tag==2)=true:=beq_iff_eq.2 h2
  have hxv:x=false:=by rw [← Hx.out];unfold Cpt.counts;rw [if_pos h2]
  subst hxv
  clear h2
  go_wp2_with fail
  go_ret
  exact ⟨_,rfl,rfl,h6.sb⟩
 have hb:(f.e.tag==2)=false:=by rw [beq_eq_false_iff_ne];exact h2
 have H2:=uQ h2
 have f34:w5.cell? ⟨b5,34,none⟩=some (.int .i64 (f.at_:Int)):=h6.cellP pick0 34 e34
 have f35:w5.cell? ⟨b5,35,none⟩=some (.int .i64 (f.size:Int)):=h6.cellP pick0 35 e35
 have e4:w5.cell? ⟨b4,0,none⟩=some (.int .i64 s):=h6.cellP pick1 0 rfl
 clear h2
 repeat (first|go_skip|(with_reducible apply ug_at_build)|go_values|go_guarded|go_step|go_upon)
 refine ⟨wl_bld3 evD evD evD (fun w=>run_plc3 s f.at_ f.size w) ?_⟩
 repeat (first|go_skip|(with_reducible apply at_alloc)|go_values|go_guarded|go_step|go_upon)
 refine ⟨wl_alloc zValL h6 rfl ?_⟩
 intro b7 w7 h7
 clear f0 f34 f35 e4 h6
 repeat (first|go_skip|(with_reducible apply at_store)|go_values|go_guarded|go_step|go_upon)
 refine ⟨wl_storeA (penc ⟨s,f.at_,f.size⟩).toArray h7 rFz rFz rFz upd0 kRz rFz ?_⟩
 intro w8 h8
 clear h7
 repeat (first|go_skip|(with_reducible apply at_reg 4)|go_values|go_guarded|go_step|go_upon)
 refine ⟨?_⟩
 have f0:w8.cell? ⟨b5,0,none⟩=some (.int .i64 f.e.tag):=h8.cellP pick1 0 e0
 by_cases ht:f.e.tag=0
 focus
  have hb0:(f.e.tag==0)=true:=beq_iff_eq.2 ht
  have Ht0:=uQ ht
  clear ht
  repeat (first|go_skip|(with_reducible apply at_reg 5)|go_values|go_guarded|go_step|go_upon)
  refine ⟨?_⟩
  have HT:=uQ (fun (w':World) (R:List HProp) (hw:Sat w0 w' (TabML ip P.index Bi::R))=>getL_c (k:=f.e.key) (Nat.le_trans HBi.out dCz) Hk.out hw)
  obtain ⟨pl,hpl⟩:∃ pl,(P.index f.e.key).getD Seg.Plc.zero=pl:=⟨_,rfl⟩
  obtain ⟨ok,hok⟩:∃ ok,(P.index f.e.key).isSome=ok:=⟨_,rfl⟩
  have Hpl:=uQ hpl;have Hok:=uQ hok
  rw [hpl,hok]at HT
  clear hpl hok f0
  have h9:=h8.drew
  have hG:World.cell? _ ⟨b3,0,none⟩=some (ptr q)∧World.cell? _ ⟨q,3,none⟩=some (ptr ip)∧World.rangeAt _ b5 1 (bys f.e.key):=⟨h9.cellP pick3 0 rfl,h9.cellP (pick_there (pick_there (pick_there (pick_there (pick_there pick0))))) 3 rfl,fun j v hj=>h9.cellP pick1 (1+j) (ekey j v hj)⟩
  clear h8
  refine wpL_begin [7,8,9,10,12,13] (fun w'=>w'.cell? ⟨b3,0,none⟩=some (ptr q)∧w'.cell? ⟨q,3,none⟩=some (ptr ip)∧w'.rangeAt b5 1 (bys f.e.key)) kRz ?_
  refine rt 0 (h:=?_)
  refine rP 1 ?_ (y:=nlQ)
  refine rP 2 ?_ (y:=flQ)
  refine rt 3 (h:=?_)
  refine rP 4 ?_ (y:=flQ)
  refine rP 5 ?_ (y:=flQ)
  refine rg_take 6 evD kRz i3z (tk_loadN (b:=b5) (o:=1) (bys f.e.key) rFz Tryz.underlying23 rfl (by rw [Hks.out];kernel_rfl) (fun w hw=>hw.2.2)) aQ gQ ?_
  clear hG
  refine rg_eff2 7 11 evD evD kRz (fun K hK=>?_) (fun K hK=>?_)
  focus
   (refine eff_call2 kRz evD evD ?_)
   refine (HT.out _ _ (h9.sb:Sat w0 _ (TabML ip P.index Bi::pt b7 (.cells (penc ⟨s,f.at_,f.size⟩).toArray 57 (0,0))::pt b5 (.cells (fndA f (.slice da dn dc)) 113 (0,0))::pt b4 (.cells #[.int .i64 s] 3 (0,0))::pt b3 (.cells #[ptr q] 63 (0,0))::goM gb gs::planPt q N lv kp ip gb::TabMK kp mm B::bagS bg::F))).mono ?_
   rintro ee w10 ⟨v,rfl,rfl,h10⟩
   refine hK _ _ (.inl rfl) ?_
   clear hK h9
   refine rP 8 ?_ (y:=mvQ)
   refine rP 9 ?_ (y:=(yl_extract evD rnD))
   refine rP 10 ?_ (y:=(yl_extract evD rnD))
   refine rg_eff 11 evD kRz (fun K hK=>?_)
   refine eff_alloc (zValL) h10 rfl ?_
   intro b8 w11 h11
   refine hK _ _ (.inr (.inl ⟨h11.cellP (pick_there (pick_there (pick_there (pick_there (pick_there pick0))))) 0 rfl,h11.cellP (pick_there (pick_there (pick_there (pick_there (pick_there (pick_there (pick_there pick0))))))) 3 rfl,fun j v hj=>h11.cellP pick3 (1+j) (ekey j v hj)⟩)) ?_
   clear hK h10
  rotate_left
  focus
   refine eff_alloc (zValL) h9 rfl ?_
   intro b8 w10 h10
   refine hK _ _ (.inr (.inl ⟨h10.cellP pick4 0 rfl,h10.cellP (pick_there (pick_there (pick_there (pick_there (pick_there (pick_there pick0)))))) 3 rfl,fun j v hj=>h10.cellP pick2 (1+j) (ekey j v hj)⟩)) ?_
   clear hK h9
   refine rg_eff 7 evD kRz (fun K hK=>?_)
   (refine eff_call2 kRz evD evD ?_)
   refine (HT.out _ _ (h10.sb:Sat w0 _ (TabML ip P.index Bi::pt b8 (.cells (penc Seg.Plc.zero).toArray 57 (0,0))::pt b7 (.cells (penc ⟨s,f.at_,f.size⟩).toArray 57 (0,0))::pt b5 (.cells (fndA f (.slice da dn dc)) 113 (0,0))::pt b4 (.cells #[.int .i64 s] 3 (0,0))::pt b3 (.cells #[ptr q] 63 (0,0))::goM gb gs::planPt q N lv kp ip gb::TabMK kp mm B::bagS bg::F))).mono ?_
   rintro ee w11 ⟨v,rfl,rfl,h11'⟩
   refine hK _ _ (.inl rfl) ?_
   clear hK h10
   have h11:Sat w0 w11 (pt b8 (.cells (penc Seg.Plc.zero).toArray 57 (0,0))::TabML ip P.index Bi::pt b7 (.cells (penc ⟨s,f.at_,f.size⟩).toArray 57 (0,0))::pt b5 (.cells (fndA f (.slice da dn dc)) 113 (0,0))::pt b4 (.cells #[.int .i64 s] 3 (0,0))::pt b3 (.cells #[ptr q] 63 (0,0))::goM gb gs::planPt q N lv kp ip gb::TabMK kp mm B::bagS bg::F):=h11'.sb
   clear h11'
   refine rP 8 ?_ (y:=mvQ)
   refine rP 9 ?_ (y:=(yl_extract evD rnD))
   refine rP 10 ?_ (y:=(yl_extract evD rnD))
  all_goals
   refine rg_eff 12 evD kRz (fun K hK=>?_)
   refine eff_store (cs':=(penc pl).toArray) h11 evD evD rFz upd0 nLz kRz rFz ?_
   intro w12 h12
   refine hK _ _ (.inl rfl) ?_
   clear hK h11
   refine rP 13 ?_ (y:=asQ)
   refine wpL_done kRz ?_
   have Hsh:=uQ (h12.sb:Sat w0 w12 (goM gb gs::planPt q N lv kp ip gb::TabMK kp mm B::bagS bg::TabML ip P.index Bi::F))
   have Hxx:=uQ (show x=(ok && Cpt.plcEq pl ⟨s,f.at_,f.size⟩) by
    rw [← Hx.out,← Hpl.out,← Hok.out]
    unfold Cpt.counts
    rw [if_neg H2.out,if_pos Ht0.out]
    cases P.index f.e.key <;> rfl)
   have heq:=eq_plc pl ⟨s,f.at_,f.size⟩
   generalize Cpt.plcEq pl ⟨s,f.at_,f.size⟩=y at *
   clear Hpl Hok HT e0 e34 e35 ekey
   rcases ok with _|_
   focus
    obtain rfl:x=false:=Hxx.out
    clear h12 heq
    go_wp2_with fail
    go_ret
    exact ⟨_,rfl,rfl,Hsh.out⟩
   obtain rfl:x=y:=by rw [Hxx.out];rfl
   go_wp2_with (first
    |((with_reducible apply ug_load);refine ⟨?_⟩;refine ug_op (by first|rfl|kernel_rfl) ?_)
    |((with_reducible refine at_load ⟨?_⟩);refine wl_loadA (cs:=(penc pl).toArray) h12 rFz pick0 Tryz.underlying57 rfl kRz ?_)
    |((with_reducible refine at_load ⟨?_⟩);refine wl_loadA (cs:=(penc ⟨s,f.at_,f.size⟩).toArray) h12 rFz pick2 Tryz.underlying57 rfl kRz ?_))
   go_ret
   exact ⟨_,rfl,rfl,Hsh.out⟩
 have hb0:(f.e.tag==0)=false:=by rw [beq_eq_false_iff_ne];exact ht
 have Ht0:=uQ ht
 clear ht
 repeat (first|go_skip|(with_reducible apply at_reg 7)|go_values|go_guarded|go_step|go_upon)
 refine ⟨?_⟩
 have HT:=uQ (fun (w':World) (R:List HProp) (hw:Sat w0 w' (TabMK kp mm B::R))=>getK_c (k:=f.e.key) (Nat.le_trans HB.out dCz) Hk.out hw)
 rw [Hk1.out]at HT
 obtain ⟨c,hc⟩:∃ c,(Cpt.kv0 P.keys f.e.key).1=c:=⟨_,rfl⟩
 obtain ⟨pl,hpl⟩:∃ pl,(Cpt.kv0 P.keys f.e.key).2=pl:=⟨_,rfl⟩
 have Hxx:=uQ (show x=(Cpt.plcEq pl ⟨s,f.at_,f.size⟩ && c.any fun t=>decide (t<s) && !gs.contains t) by
  rw [← Hx.out,← hc,← hpl]
  unfold Cpt.counts
  rw [if_neg H2.out,if_neg Ht0.out])
 rw [hpl]at HT
 rw [hc]at Hq Hln
 generalize (mm f.e.key).isSome=ok at *
 clear hpl hc f0 Hk1 Hx
 have h9:=h8.drew
 have hG:World.cell? _ ⟨b3,0,none⟩=some (ptr q)∧World.cell? _ ⟨q,2,none⟩=some (ptr kp)∧World.rangeAt _ b5 1 (bys f.e.key):=⟨h9.cellP pick3 0 rfl,h9.cellP (pick_there (pick_there (pick_there (pick_there (pick_there pick0))))) 2 rfl,fun j v hj=>h9.cellP pick1 (1+j) (ekey j v hj)⟩
 clear h8
 refine wpL_begin [7,8,9,10,12,13] (fun w'=>w'.cell? ⟨b3,0,none⟩=some (ptr q)∧w'.cell? ⟨q,2,none⟩=some (ptr kp)∧w'.rangeAt b5 1 (bys f.e.key)) kRz ?_
 refine rt 0 (h:=?_)
 refine rP 1 ?_ (y:=nlQ)
 refine rP 2 ?_ (y:=flQ)
 refine rt 3 (h:=?_)
 refine rP 4 ?_ (y:=flQ)
 refine rP 5 ?_ (y:=flQ)
 refine rg_take 6 evD kRz i3z (tk_loadN (b:=b5) (o:=1) (bys f.e.key) rFz Tryz.underlying23 rfl (by rw [Hks.out];kernel_rfl) (fun w hw=>hw.2.2)) aQ gQ ?_
 clear hG
 refine rg_eff2 7 11 evD evD kRz (fun K hK=>?_) (fun K hK=>?_)
 focus
  (refine eff_call2 kRz evD evD ?_)
  refine (HT.out _ _ (h9.sb:Sat w0 _ (TabMK kp mm B::pt b7 (.cells (penc ⟨s,f.at_,f.size⟩).toArray 57 (0,0))::pt b5 (.cells (fndA f (.slice da dn dc)) 113 (0,0))::pt b4 (.cells #[.int .i64 s] 3 (0,0))::pt b3 (.cells #[ptr q] 63 (0,0))::goM gb gs::planPt q N lv kp ip gb::bagS bg::TabML ip P.index Bi::F))).mono ?_
  rintro ee w10 ⟨v,rfl,rfl,h10⟩
  refine hK _ _ (.inl rfl) ?_
  clear hK h9
  refine rP 8 ?_ (y:=mvQ)
  refine rP 9 ?_ (y:=(yl_extract evD rnD))
  refine rP 10 ?_ (y:=(yl_extract evD rnD))
  refine rg_eff 11 evD kRz (fun K hK=>?_)
  refine eff_alloc (zValK) h10 rfl ?_
  intro b8 w11 h11
  refine hK _ _ (.inr (.inl ⟨h11.cellP (pick_there (pick_there (pick_there (pick_there (pick_there pick0))))) 0 rfl,h11.cellP (pick_there (pick_there (pick_there (pick_there (pick_there (pick_there (pick_there pick0))))))) 2 rfl,fun j v hj=>h11.cellP pick3 (1+j) (ekey j v hj)⟩)) ?_
  clear hK h10
 rotate_left
 focus
  refine eff_alloc (zValK) h9 rfl ?_
  intro b8 w10 h10
  refine hK _ _ (.inr (.inl ⟨h10.cellP pick4 0 rfl,h10.cellP (pick_there (pick_there (pick_there (pick_there (pick_there (pick_there pick0)))))) 2 rfl,fun j v hj=>h10.cellP pick2 (1+j) (ekey j v hj)⟩)) ?_
  clear hK h9
  refine rg_eff 7 evD kRz (fun K hK=>?_)
  (refine eff_call2 kRz evD evD ?_)
  refine (HT.out _ _ (h10.sb:Sat w0 _ (TabMK kp mm B::pt b8 (.cells (kenc zwK).toArray 154 (0,0))::pt b7 (.cells (penc ⟨s,f.at_,f.size⟩).toArray 57 (0,0))::pt b5 (.cells (fndA f (.slice da dn dc)) 113 (0,0))::pt b4 (.cells #[.int .i64 s] 3 (0,0))::pt b3 (.cells #[ptr q] 63 (0,0))::goM gb gs::planPt q N lv kp ip gb::bagS bg::TabML ip P.index Bi::F))).mono ?_
  rintro ee w11 ⟨v,rfl,rfl,h11'⟩
  refine hK _ _ (.inl rfl) ?_
  clear hK h10
  have h11:Sat w0 w11 (pt b8 (.cells (kenc zwK).toArray 154 (0,0))::TabMK kp mm B::pt b7 (.cells (penc ⟨s,f.at_,f.size⟩).toArray 57 (0,0))::pt b5 (.cells (fndA f (.slice da dn dc)) 113 (0,0))::pt b4 (.cells #[.int .i64 s] 3 (0,0))::pt b3 (.cells #[ptr q] 63 (0,0))::goM gb gs::planPt q N lv kp ip gb::bagS bg::TabML ip P.index Bi::F):=h11'.sb
  clear h11'
  refine rP 8 ?_ (y:=mvQ)
  refine rP 9 ?_ (y:=(yl_extract evD rnD))
  refine rP 10 ?_ (y:=(yl_extract evD rnD))
 all_goals
  refine rg_eff 12 evD kRz (fun K hK=>?_)
  refine eff_store (cs':=(kenc ⟨ka,kn,kc,pl⟩).toArray) h11 evD evD rFz upd0 nLz kRz rFz ?_
  intro w12 h12
  refine hK _ _ (.inl rfl) ?_
  clear hK h11
  refine rP 13 ?_ (y:=asQ)
  refine wpL_done kRz ?_
  have Hsh:=uQ (h12.sb:Sat w0 w12 (goM gb gs::planPt q N lv kp ip gb::TabMK kp mm B::bagS bg::TabML ip P.index Bi::F))
  have hany:=cany_c (w:=w12) (b3:=b3) (b4:=b4) (P:=fun t=>decide (t<s) && !gs.contains t) (c:=c) (sv:= .slice ka kn kc) Hln.out (by
   rcases Hq.out with z|⟨z1,z2,z3,z4⟩
   ·exact bag_rd z (h12.sb:Sat w0 w12 (bagS bg::F))
   ·rw [z1,z2,z3,z4];exact rdsl_nil 1 0 w12) (fun t=>ctest_c (h12.sb:Sat w0 w12 (goM gb gs::planPt q N lv kp ip gb::pt b3 (.cells #[ptr q] 63 (0,0))::pt b4 (.cells #[.int .i64 s] 3 (0,0))::F)))
  obtain ⟨z,hz⟩:∃ z:Bool,(c.any fun t=>decide (t<s) && !gs.contains t)=z:=⟨_,rfl⟩
  rw [hz]at hany Hxx
  clear hz
  have hrg:w12.rangeAt b8 1 (penc pl):=fun j v hj=>h12.cellP pick0 (1+j) (by rw [List.getElem?_toArray,Nat.add_comm];exact hj)
  have f8:w12.cell? ⟨b8,0,none⟩=some (.slice ka kn kc):=h12.cellP pick0 0 rfl
  have heq:=eq_plc pl ⟨s,f.at_,f.size⟩
  generalize Cpt.plcEq pl ⟨s,f.at_,f.size⟩=y at *
  have Hany:=uQ hany
  clear HT e0 e34 e35 ekey hany
  rcases y with _|_
  focus
   obtain rfl:x=false:=Hxx.out
   go_wp2_with (first
    |((with_reducible refine at_load ⟨?_⟩);refine wl_loadW (b:=b8) (o:=1) (penc pl) rFz hrg Tryz.underlying57 rfl kRz ?_)
    |((with_reducible refine at_load ⟨?_⟩);refine wl_loadA (cs:=(penc ⟨s,f.at_,f.size⟩).toArray) h12 rFz pick2 Tryz.underlying57 rfl kRz ?_))
   go_ret
   exact ⟨_,rfl,rfl,Hsh.out⟩
  go_wp2_with (first
   |((with_reducible apply ug_load);refine ⟨?_⟩;refine ug_op (by first|rfl|kernel_rfl) ?_)
   |((with_reducible refine at_load ⟨?_⟩);refine wl_loadW (b:=b8) (o:=1) (penc pl) rFz hrg Tryz.underlying57 rfl kRz ?_)
   |((with_reducible refine at_load ⟨?_⟩);refine wl_loadA (cs:=(penc ⟨s,f.at_,f.size⟩).toArray) h12 rFz pick2 Tryz.underlying57 rfl kRz ?_))
  refine Hany.out.mono ?_
  rintro ee w13 ⟨v,rfl,rfl,rfl⟩
  have hxx:=Hxx.out
  rw [Bool.true_and]at hxx
  subst hxx
  clear Hany heq hrg f8 h12
  go_wp2_with fail
  go_ret
  exact ⟨_,rfl,rfl,Hsh.out⟩
end
end Go.Proofs.YtfdchfnmpabogaaGreatDoor
namespace Go.Cpt
open Go.Frm (Bs Fnd Ent fnds encs GoodE)
open Go.Seg (Plc)
open Go.Rep
section
variable {P:Plan}{gs:List Int}{s pc:Int}
theorem live_le:∀ l:List Fnd,0≤liveS P gs s l∧liveS P gs s l≤pay l
 |[]=>⟨Int.le_refl _,Int.le_refl _⟩
 |f::l=>by
  have ih:=live_le l
  have hc:counts P gs s f=true→f.e.tag≠2:=fun h e=>by
   unfold counts at h
   rw [if_pos e]at h
   cases h
  unfold liveS pay
  by_cases h2:f.e.tag=2
  ·rw [if_pos h2,if_neg fun h=>hc h h2];omega
  ·rw [if_neg h2];split <;> omega
theorem pay_app:∀ a b:List Fnd,pay (a++b)=pay a+pay b
 |[],b=>by simp [pay]
 |f::a,b=>by
  have ih:=pay_app a b
  have e1:pay (f::(a++b))=(if f.e.tag=2 then 0 else (f.size:Int))+pay (a++b):=rfl
  have e2:pay (f::a)=(if f.e.tag=2 then 0 else (f.size:Int))+pay a:=rfl
  rw [List.cons_append,e1,e2,ih]
  omega
theorem pay_le (l:List Fnd) (j:Nat):pay (l.take j)≤pay l:=by
 have h1:=pay_app (l.take j) (l.drop j)
 rw [List.take_append_drop]at h1
 have h2:=live_le (P:=⟨0,[],fun _=>none,fun _=>none⟩) (gs:=[]) (s:=0) (l.drop j)
 omega
def leftN (P:Plan) (gs:List Int):Nat:=P.segs.countP fun x => !gs.contains x.1
theorem countP_lt {α:Type}{p q:α→Bool}:∀ l:List α,(∀ x∈l,p x=true→q x=true)→(∃ x∈l,q x=true∧p x=false)→l.countP p<l.countP q
 |[],_,h=>by obtain ⟨x,hx,_⟩:=h;cases hx
 |y::l,h1,h=>by
  have hm:=List.countP_mono_left (l:=l) fun x hx=>h1 x (List.mem_cons_of_mem _ hx)
  rw [List.countP_cons,List.countP_cons]
  by_cases hy:q y=true∧p y=false
  ·rw [if_pos hy.1,hy.2,if_neg dCz];omega
  ·obtain ⟨x,hx,hq⟩:=h
   rcases List.mem_cons.1 hx with e|hx
   ·rw [e]at hq;exact absurd hq hy
   have ih:=countP_lt l (fun x hx=>h1 x (List.mem_cons_of_mem _ hx)) ⟨x,hx,hq⟩
   have h2:=h1 y (List.mem_cons_self ..)
   cases hp:p y with
   |true=>rw [h2 hp];omega
   |false=>rw [if_neg dCz];omega
theorem left_lt (h:nextL P gs pc P.segs≠[]):leftN P (gs++nextL P gs pc P.segs)<leftN P gs:=by
 obtain ⟨t,ht⟩:=List.exists_mem_of_ne_nil _ h
 obtain ⟨x,hx,rfl⟩:=List.mem_map.1 ht
 have hx2:=List.mem_filter.1 hx
 rw [Bool.and_eq_true]at hx2
 refine countP_lt _ (fun y hy hp=>?_) ⟨x,hx2.1,hx2.2.1,?_⟩
 ·rw [Bool.not_eq_true',← Bool.not_eq_true,List.contains_iff_mem]at hp ⊢
  exact fun hm=>hp (List.mem_append_left _ hm)
 ·rw [Bool.not_eq_false',List.contains_iff_mem]
  exact List.mem_append_right _ ht
theorem next_new (hnd:(P.segs.map (·.1)).Nodup):(nextL P gs pc P.segs).Nodup∧∀ t∈nextL P gs pc P.segs,t∉gs:=by
 refine ⟨hnd.sublist (List.filter_sublist.map _),fun t ht hm=>?_⟩
 obtain ⟨x,hx,rfl⟩:=List.mem_map.1 ht
 have hx2:=(List.mem_filter.1 hx).2
 rw [Bool.and_eq_true,List.contains_iff_mem.2 hm]at hx2
 cases hx2.1
def chosen (P:Plan) (pc:Int):List Int:=choose P pc (P.segs.length+1) []
theorem left_le:leftN P gs≤P.segs.length:=List.countP_le_length
theorem choose_end {n:Nat} (h:nextL P gs pc P.segs=[]):choose P pc (n+1) gs=gs:=by
 unfold choose
 rw [if_pos h]
theorem choose_more {n:Nat} (h:nextL P gs pc P.segs≠[]):choose P pc (n+1) gs=choose P pc n (gs++nextL P gs pc P.segs):=by
 rw [choose,if_neg h]
end
end Go.Cpt
namespace Go.Proofs.YtfdchfnmpabogaaGreatDoor
open Go Go.Sl Go.Med Go.MapKept Go.RowKit
structure PlanOk (P:Cpt.Plan) (N:Int) (mm:Frm.Bs→Option Rep.Kpv) (mi:Frm.Bs→Option Seg.Plc) (bg:List (Value×List Int)) (B Bi:Nat):Prop where
 last:P.last=N
 idx:mi=P.index
 key:KeyOk mm P.keys bg
 len:∀ k,(Cpt.kv0 P.keys k).1.length≤1048576
 b1:B≤13000000
 b2:Bi≤13000000
structure SgFit (y:Sg):Prop where
 key:∀ q∈y.2.1,q.1.e.key.length=32
 pay:Cpt.pay (fnL y)≤16777216
 len:y.2.1.length≤16777216
section
variable {w0 w:World}{F:List HProp}{gb q kp ip B Bi:Nat}{gs:List Int}{mm:Frm.Bs→Option Rep.Kpv}{bg:List (Value×List Int)}{mi:Frm.Bs→Option Seg.Plc}{N pc:Int}{lv:Value}{P:Cpt.Plan}{zs:List Sg}{y:Sg}
theorem goM_len (h:Sat w0 w (goM gb gs::F)):(Builtin.len_ #[106] 3 #[.map (some gb)]).run Tryz.prog w = .ok (.int .i64 gs.length) w:=by
 rw [run_maplen Tryz.underlying106 3 h,List.length_map]
set_option maxRecDepth 20000 in
theorem csparse_c {fa:Option Addr}{fc:Nat} (hy:y∈zs) (hyl:y.2.2 = .slice fa y.2.1.length fc) (hf:SgFit y) (hpc:0≤pc∧pc≤100) (hP:PlanOk P N mm mi bg B Bi)
  (h:Sat w0 w (goM gb gs::planPt q N lv kp ip gb::TabMK kp mm B::bagS bg::TabML ip mi Bi::bagF zs::F)) :
  Calls Tryz.prog 86 #[ptr q,.agg #[.int .i64 y.1,y.2.2,.int .i64 (Cpt.pay (fnL y))],.int .i64 pc] w (Rtn fun v w'=>v = .bool (Cpt.sparse P gs pc (y.1,fnL y))∧Sat w0 w' (goM gb gs::planPt q N lv kp ip gb::TabMK kp mm B::bagS bg::TabML ip mi Bi::bagF zs::F)):=by
 obtain ⟨s,fs,sv⟩:=y
 dsimp only at hyl hf ⊢
 subst hyl
 have Hy:=uQ hy;have Hf:=uQ hf;have Hpc:=uQ hpc;have HP:=uQ hP
 obtain ⟨x,hx⟩:∃ x:Bool,Cpt.sparse P gs pc (s,fnL (s,fs,.slice fa fs.length fc))=x:=⟨_,rfl⟩
 rw [hx]
 have Hx:=uQ hx
 obtain ⟨py,hpy⟩:∃ py,Cpt.pay (fnL (s,fs,.slice fa fs.length fc))=py:=⟨_,rfl⟩
 have hp0:0≤py∧py≤16777216:=by
  have:=Cpt.live_le (P:=P) (gs:=gs) (s:=s) (fnL (s,fs,.slice fa fs.length fc))
  have:=hf.pay
  omega
 rw [hpy]
 have Hpy:=uQ hpy;have Hp0:=uQ hp0
 clear hx hpy hp0 hy hf hP
 go_enter Tryz.func86,Tryz.ntmps86
 go_wp2_with (with_reducible apply at_box)
 refine ⟨wl_box h evD evD ?_⟩
 intro b4 w4 h4
 replace h4:Sat w0 w4 (pt b4 (.cells #[.int .i64 s,.slice fa fs.length fc,.int .i64 py] 111 (0,0))::goM gb gs::planPt q N lv kp ip gb::TabMK kp mm B::bagS bg::TabML ip mi Bi::bagF zs::F):=h4
 clear h
 have e2:w4.cell? ⟨b4,2,none⟩=some (.int .i64 py):=h4.cellP pick0 2 rfl
 by_cases h0:py=0
 focus
  have hb:(py==0)=true:=beq_iff_eq.2 h0
  have Hxx:=uQ (show x=(decide (0<pc) && (decide (s≠N) || decide (0<gs.length))) by
   rw [← Hx.out]
   unfold Cpt.sparse
   simp only
   rw [Hpy.out,if_pos h0,HP.out.last])
  clear h0 Hx
  repeat (first|go_skip|(with_reducible apply at_reg 2)|go_values|go_guarded|go_step|go_upon)
  refine ⟨?_⟩
  have h5:=h4.drew
  clear e2 h4
  have e0:World.cell? _ ⟨b4,0,none⟩=some (.int .i64 s):=h5.cellP pick0 0 rfl
  have eN:World.cell? _ ⟨q,0,none⟩=some (.int .i64 N):=h5.cellP pick2 0 rfl
  have eg:World.cell? _ ⟨q,4,none⟩=some (.map (some gb)):=h5.cellP pick2 4 rfl
  have el:=goM_len (h5.sb:Sat w0 _ (goM gb gs::pt b4 (.cells #[.int .i64 s,.slice fa fs.length fc,.int .i64 py] 111 (0,0))::planPt q N lv kp ip gb::TabMK kp mm B::bagS bg::TabML ip mi Bi::bagF zs::F))
  have Hsh:=uQ (h5.drop)
  clear h5
  by_cases h1:0<pc
  rotate_left
  focus
   have c1:decide (pc>0)=false:=decide_eq_false h1
   have c1':¬ 0<pc:=h1
   obtain rfl:x=false:=by rw [Hxx.out,decide_eq_false h1];rfl
   clear h1
   go_region
   go_wp2_with fail
   go_ret
   exact ⟨_,rfl,rfl,Hsh.out⟩
  have c1:decide (pc>0)=true:=decide_eq_true h1
  have c1':0<pc:=h1
  by_cases h2:s=N
  rotate_left
  focus
   have c2:(s != N)=true:=bne_iff_ne.2 h2
   obtain rfl:x=true:=by rw [Hxx.out,decide_eq_true h1,decide_eq_true h2];rfl
   clear h1 h2
   go_region
   go_wp2_with fail
   go_ret
   exact ⟨_,rfl,rfl,Hsh.out⟩
  have c2:(s != N)=false:=by rw [h2];exact bne_self_eq_false _
  by_cases h3:0<gs.length
  focus
   have c3:decide ((gs.length:Int)>0)=true:=decide_eq_true oQ
   have c3':0<gs.length:=h3
   obtain rfl:x=true:=by rw [Hxx.out,decide_eq_true h1,decide_eq_true h3,Bool.or_true];rfl
   clear h1 h2 h3
   go_region
   go_wp2_with fail
   go_ret
   exact ⟨_,rfl,rfl,Hsh.out⟩
  have c3:decide ((gs.length:Int)>0)=false:=decide_eq_false oQ
  have c3':¬ 0<gs.length:=h3
  obtain rfl:x=false:=by rw [Hxx.out,decide_eq_true h1,decide_eq_false h3,decide_eq_false (fun e=>e h2)];rfl
  clear h1 h2 h3
  go_region
  go_wp2_with fail
  go_ret
  exact ⟨_,rfl,rfl,Hsh.out⟩
 have hb:(py==0)=false:=by rw [beq_eq_false_iff_ne];exact h0
 have Hxx:=uQ (show x=decide (100 * Cpt.liveS P gs s (fs.map (·.1))<pc * py) by
  rw [← Hx.out]
  unfold Cpt.sparse
  simp only
  rw [Hpy.out,if_neg h0];rfl)
 clear h0 Hx
 have Hlen:=uQ Hf.out.len
 have e1:w4.cell? ⟨b4,1,none⟩=some (.slice fa fs.length fc):=h4.cellP pick0 1 rfl
 go_wp2_with fail
 clear e1 e2 hb
 go_loopg [7,35] fs.length (fun g lq iq wr=>∃ i:Nat,g=fs.length - i∧i≤fs.length∧lq = .int .i64 (Cpt.liveS P gs s ((fs.take i).map (·.1)))∧iq = .int .i64 i∧Sat w0 wr (pt b4 (.cells #[.int .i64 s,.slice fa fs.length fc,.int .i64 py] 111 (0,0))::goM gb gs::planPt q N lv kp ip gb::TabMK kp mm B::bagS bg::TabML ip mi Bi::bagF zs::F))
 case atStart=>exact ⟨0,rfl,Nat.zero_le _,rfl,rfl,h4⟩
 case round=>
  obtain ⟨i,rfl,hi,rfl,rfl,hS⟩:=hrel
  clear h4
  obtain ⟨lz,hlz⟩:∃ lz,Cpt.liveS P gs s ((fs.take i).map (·.1))=lz:=⟨_,rfl⟩
  have hl0:0≤lz∧lz≤16777216:=by
   have h1:=Cpt.live_le (P:=P) (gs:=gs) (s:=s) ((fs.take i).map (·.1))
   have h2:=Cpt.pay_le (fs.map (·.1)) i
   rw [← List.map_take]at h2
   have h3:Cpt.pay (fs.map (·.1))≤16777216:=Hf.out.pay
   omega
  rw [hlz]
  have Hlz:=uQ hlz
  clear hlz
  by_cases hlt:i<fs.length
  rotate_left
  focus
   obtain rfl:i=fs.length:=by omega
   have c1:¬ (fs.length:Int)<(fs.length:Int):=oQ
   have hw1:IntKind.i64.wrap (100 * lz)=100 * lz:=IntWalk.i64_in _ oQ
   have hw2:IntKind.i64.wrap (pc * py)=pc * py:=IntWalk.i64_in _ (by
    have h1:=Hpc.out;have h2:=Hp0.out
    have h3:0≤pc * py:=Int.mul_nonneg h1.1 h2.1
    have h4:pc * py≤100 * 16777216:=Int.mul_le_mul h1.2 h2.2 h2.1 dCz
    omega)
   have e2:wr.cell? ⟨b4,2,none⟩=some (.int .i64 py):=hS.cellP pick0 2 rfl
   have Hfin:=uQ (show x=decide (100 * lz<pc * py) by rw [Hxx.out,← Hlz.out,List.take_length])
   have Hsh:=uQ hS.drop
   obtain ⟨pp,hpp⟩:∃ pp,pc * py=pp:=⟨_,rfl⟩
   rw [hpp]at hw2 Hfin
   clear hS hi hlt hl0 Hxx Hlz
   go_wp2_with fail
   go_ret
   rw [Hfin.out]
   exact ⟨_,rfl,rfl,Hsh.out⟩
  have c1:(i:Int)<(fs.length:Int):=oQ
  have hwi:IntKind.i64.wrap ((i:Int)+1)=(i:Int)+1:=IntWalk.i64_in _ (by have:=Hlen.out;omega)
  obtain ⟨⟨f,dv⟩,hq⟩:∃ q,fs[i]?=some q:=⟨_,List.getElem?_eq_getElem hlt⟩
  have hkf:f.e.key.length=32:=Hf.out.key _ (List.mem_of_getElem? hq)
  obtain ⟨da,dn,dc,rfl,hdn,_⟩:=bagF_data Hy.out (List.mem_of_getElem? hq) (hS.pk (A:=bagF zs))
  obtain ⟨bk,off,c2,e2,hcell⟩:=osl_row (f:=fun q:Frm.Fnd×Value=>fndL q.1 q.2) (k:=36) (fun q hq=>fndL_len q.1 q.2 (Hf.out.key q hq)) (bagF_rd Hy.out (hS.pk (A:=bagF zs))) hq dCz
  cases e2
  have hl36:(fndL f (.slice da dn dc)).length=36:=fndL_len _ _ hkf
  have Hti:=uQ (show Cpt.liveS P gs s ((fs.take (i+1)).map (·.1))=lz+(if Cpt.counts P gs s f=true then (f.size:Int) else 0) by
   rw [List.take_add_one,hq,Option.toList_some,List.map_append,List.map_cons,List.map_nil,Cpt.liveS_snoc,Hlz.out])
  have hl1:lz+(if Cpt.counts P gs s f=true then (f.size:Int) else 0)≤16777216:=by
   rw [← Hti.out]
   have h1:=Cpt.live_le (P:=P) (gs:=gs) (s:=s) ((fs.take (i+1)).map (·.1))
   have h2:=Cpt.pay_le (fs.map (·.1)) (i+1)
   rw [← List.map_take]at h2
   have h3:Cpt.pay (fs.map (·.1))≤16777216:=Hf.out.pay
   omega
  have Hl1:=uQ hl1;have Hl0:=uQ hl0
  have Hlt:=uQ hlt;have Hkf:=uQ hkf
  clear hq hkf hi hlt hl1 hl0 hdn
  go_wp2_with (first
   |((with_reducible refine at_load ⟨?_⟩);refine wl_loadW (b:=bk) (o:=off+i * 36) (fndL f (.slice da dn dc)) rFz hcell Tryz.underlying113 rfl (by rw [hl36];kernel_rfl) ?_)
   |(with_reducible apply at_alloc))
  refine ⟨wl_alloc zFnd hS rfl ?_⟩
  intro b9 w9 h9
  clear hcell hS
  go_wp2_with (with_reducible apply at_store)
  refine ⟨wl_storeA (fndA f (.slice da dn dc)) h9 rFz rFz (by rw [fndA_size _ _ Hkf.out];rfl) upd0 (by rw [fndA_size _ _ Hkf.out];kernel_rfl) (fndA_ones _ _ _ _) ?_⟩
  intro w10 h10
  clear h9
  have e0:w10.cell? ⟨b4,0,none⟩=some (.int .i64 s):=h10.cellP pick1 0 rfl
  go_wp2_with ((with_reducible refine at_load ⟨?_⟩);refine wl_loadA (cs:=fndA f (.slice da dn dc)) h10 rFz pick0 Tryz.underlying113 rfl (by rw [fndA_size _ _ Hkf.out];kernel_rfl) ?_)
  refine (ccounts_c (s:=s) (f:=f) Hkf.out HP.out.b1 HP.out.b2 HP.out.key HP.out.len HP.out.idx (h10.sb:Sat w0 w10 (goM gb gs::planPt q N lv kp ip gb::TabMK kp mm B::bagS bg::TabML ip mi Bi::pt b9 (.cells (fndA f (.slice da dn dc)) 113 (0,0))::pt b4 (.cells #[.int .i64 s,.slice (some ⟨bk,off,none⟩) fs.length fc,.int .i64 py] 111 (0,0))::bagF zs::F))).mono ?_
  rintro ee w11 ⟨v,rfl,rfl,h11⟩
  clear h10 e0
  obtain ⟨e34,e35,ekey⟩:=fnd_cell f (.slice da dn dc) Hkf.out
  have f35:w11.cell? ⟨b9,35,none⟩=some (.int .i64 (f.size:Int)):=h11.cellP (pick_there (pick_there (pick_there (pick_there (pick_there pick0))))) 35 e35
  have Hsh:=uQ (h11.sb:Sat w0 w11 (pt b4 (.cells #[.int .i64 s,.slice (some ⟨bk,off,none⟩) fs.length fc,.int .i64 py] 111 (0,0))::goM gb gs::planPt q N lv kp ip gb::TabMK kp mm B::bagS bg::TabML ip mi Bi::bagF zs::F))
  clear h11 e34 ekey
  obtain ⟨z,hz⟩:∃ z,Cpt.counts P gs s f=z:=⟨_,rfl⟩
  rw [hz]at Hti Hl1 ⊢
  clear hz
  rcases z with _|_
  focus
   go_wp2_with fail
   go_roundg (fs.length - (i+1))
   case measure=>have:=Hlt.out;omega
   case rel=>exact ⟨i+1,rfl,Nat.succ_le_of_lt Hlt.out,by rw [Hti.out];simp,by first|rfl|go_num,Hsh.out⟩
  have hwl:IntKind.i64.wrap (lz+(f.size:Int))=lz+(f.size:Int):=IntWalk.i64_in _ (by have h1:=Hl1.out;have h2:=Hl0.out;simp at h1;omega)
  go_wp2_with fail
  go_roundg (fs.length - (i+1))
  case measure=>have:=Hlt.out;omega
  case rel=>exact ⟨i+1,rfl,Nat.succ_le_of_lt Hlt.out,by rw [Hti.out];simp,by first|rfl|go_num,Hsh.out⟩
end
section
variable {w0 w:World}{F:List HProp}{gb q kp ip B Bi:Nat}{gs:List Int}{mm:Frm.Bs→Option Rep.Kpv}{bg:List (Value×List Int)}{mi:Frm.Bs→Option Seg.Plc}{N pc:Int}{lv:Value}{P:Cpt.Plan}{zs ys:List Sg}{y:Sg}
theorem goM_put {t:Int} (h:Sat w0 w (omap (.int .i64) gb ((.int .i64 t,.int .i64 1)::gs.map fun g=>(.int .i64 g,.int .i64 1))::F)):Sat w0 w (goM gb (gs++[t])::F):=by
 unfold goM
 rw [List.map_append]
 exact h.omap_perm (List.perm_append_comm (l₁:=[(Value.int .i64 t,Value.int .i64 1)]))
theorem goM_side {t:Int} (ht:t∉gs):(gs.map fun g=>(Value.int .i64 g,Value.int .i64 1)).Perm (gs.map fun g=>(Value.int .i64 g,Value.int .i64 1))∧∀ p∈gs.map fun g=>(Value.int .i64 g,Value.int .i64 1),p.1 ≠ .int .i64 t:=
 ⟨.refl _,fun p hp e=>by
  obtain ⟨g,hg,rfl⟩:=List.mem_map.1 hp
  cases e
  exact ht hg⟩
structure SegsOk (P:Cpt.Plan) (ys zs:List Sg):Prop where
 segs:P.segs=ys.map fun y=>(y.1,fnL y)
 nodup:(P.segs.map (·.1)).Nodup
 mem:∀ y∈ys,y∈zs
 ok:SgOk ys
 fit:∀ y∈ys,SgFit y
 len:ys.length≤1000000
theorem SegsOk.take (h:SegsOk P ys zs){i:Nat} (hy:ys[i]?=some y):P.segs.take (i+1)=P.segs.take i++[(y.1,fnL y)]:=by
 rw [h.segs,List.take_add_one,List.getElem?_map,hy];rfl
set_option maxRecDepth 20000 in
theorem cchoose_c (hpc:0≤pc∧pc≤100) (hP:PlanOk P N mm mi bg B Bi) (hS:SegsOk P ys zs)
  (h:Sat w0 w (goM gb []::planPt q N lv kp ip gb::osl 111 3 lv (ys.flatMap sgL)::TabMK kp mm B::bagS bg::TabML ip mi Bi::bagF zs::F)) :
  Calls Tryz.prog 46 #[ptr q,.int .i64 pc] w (Rtn fun v w'=>Sat w0 w' (goM gb (Cpt.chosen P pc)::planPt q N lv kp ip gb::osl 111 3 lv (ys.flatMap sgL)::TabMK kp mm B::bagS bg::TabML ip mi Bi::bagF zs::F)):=by
 have Hpc:=uQ hpc;have HP:=uQ hP;have HS:=uQ hS
 obtain ⟨R,hR⟩:∃ R,Cpt.chosen P pc=R:=⟨_,rfl⟩
 rw [hR]
 have HR:=uQ hR
 obtain ⟨la,lc,rfl⟩:=osl_rows (f:=sgL) (k:=3) (l:=ys) (fun y _=>sgL_len y) (Sat.rd (h.pk (A:=osl 111 3 lv (ys.flatMap sgL)))) dCz
 clear hpc hP hS hR
 go_enter Tryz.func46,Tryz.ntmps46
 go_wp2_with fail
 go_loopg [4] (ys.length+2) (fun g mv wr=>(∃ (n:Nat) (gs:List Int),g=n+1∧mv = .bool true∧Cpt.leftN P gs<n∧Cpt.choose P pc n gs=R∧Sat w0 wr (goM gb gs::planPt q N (.slice la ys.length lc) kp ip gb::osl 111 3 (.slice la ys.length lc) (ys.flatMap sgL)::TabMK kp mm B::bagS bg::TabML ip mi Bi::bagF zs::F))∨g=0∧mv = .bool false∧Sat w0 wr (goM gb R::planPt q N (.slice la ys.length lc) kp ip gb::osl 111 3 (.slice la ys.length lc) (ys.flatMap sgL)::TabMK kp mm B::bagS bg::TabML ip mi Bi::bagF zs::F))
 case atStart=>
  refine .inl ⟨ys.length+1,[],rfl,rfl,?_,?_,h⟩
  ·have h1:=Cpt.left_le (P:=P) (gs:=[])
   have h2:=congrArg List.length HS.out.segs
   rw [List.length_map]at h2
   omega
  ·have h2:=congrArg List.length HS.out.segs
   rw [List.length_map]at h2
   rw [← h2]
   exact HR.out
 case round=>
  clear h
  rcases hrel with ⟨n,gs,rfl,rfl,hlt,hch,hS⟩|⟨rfl,rfl,hS⟩
  rotate_left
  focus
   go_wp2_with fail
   go_end0
   exact ⟨_,rfl,hS⟩
  have Hch:=uQ hch;have Hlt:=uQ hlt
  obtain ⟨nx,hnx⟩:∃ nx,Cpt.nextL P gs pc P.segs=nx:=⟨_,rfl⟩
  have Hnx:=uQ hnx
  have Hlen:=uQ HS.out.len
  have e1:wr.cell? ⟨q,1,none⟩=some (.slice la ys.length lc):=hS.cellP pick1 1 rfl
  have h1:Sat w0 wr (osl 3 1 (.slice none 0 0) (ints (Cpt.nextL P gs pc (P.segs.take 0)))::goM gb gs::planPt q N (.slice la ys.length lc) kp ip gb::osl 111 3 (.slice la ys.length lc) (ys.flatMap sgL)::TabMK kp mm B::bagS bg::TabML ip mi Bi::bagF zs::F):=by
   rw [List.take_zero]
   exact Sat.osl_nil.2 hS
  clear hS hnx hch hlt
  go_wp2_with fail
  clear e1
  go_loopg [5,16] ys.length (fun g nq iq wr=>∃ (i:Nat) (nv:Value),nv=nq∧g=ys.length - i∧i≤ys.length∧iq = .int .i64 i∧Sat w0 wr (osl 3 1 nv (ints (Cpt.nextL P gs pc (P.segs.take i)))::goM gb gs::planPt q N (.slice la ys.length lc) kp ip gb::osl 111 3 (.slice la ys.length lc) (ys.flatMap sgL)::TabMK kp mm B::bagS bg::TabML ip mi Bi::bagF zs::F))
  case atStart=>exact ⟨0,_,rfl,rfl,Nat.zero_le _,rfl,h1⟩
  case round=>
   obtain ⟨i,nv,rfl,rfl,hi,rfl,hS⟩:=hrel
   clear h1
   by_cases hil:i<ys.length
   rotate_left
   focus
    obtain rfl:i=ys.length:=by omega
    have c1:¬ (ys.length:Int)<(ys.length:Int):=oQ
    have hal:P.segs.take ys.length=P.segs:=by rw [HS.out.segs,← List.length_map (f:=fun y:Sg=>(y.1,fnL y)),List.take_length]
    rw [hal,Hnx.out]at hS
    clear hi hil hal
    obtain ⟨na,nc,rfl⟩:=ints_sl (Sat.rd hS)
    have Hnd:=uQ (Cpt.next_new (gs:=gs) (pc:=pc) HS.out.nodup)
    rw [Hnx.out]at Hnd
    have Hnl:=uQ (show nx.length≤1000000 by
     have h1:=congrArg List.length Hnx.out
     unfold Cpt.nextL at h1
     rw [List.length_map]at h1
     have h2:=List.length_filter_le (fun x => !gs.contains x.1 && Cpt.sparse P gs pc x) P.segs
     have h3:=congrArg List.length HS.out.segs
     rw [List.length_map]at h3
     have:=Hlen.out
     omega)
    have h2:Sat w0 wr (goM gb (gs++nx.take 0)::osl 3 1 (.slice na nx.length nc) (ints nx)::planPt q N (.slice la ys.length lc) kp ip gb::osl 111 3 (.slice la ys.length lc) (ys.flatMap sgL)::TabMK kp mm B::bagS bg::TabML ip mi Bi::bagF zs::F):=by
     rw [List.take_zero,List.append_nil]
     exact hS.sb
    clear hS
    go_wp2_with fail
    go_loopg [4,42] nx.length (fun g mv iq wr=>∃ i:Nat,g=nx.length - i∧i≤nx.length∧mv = .bool (decide (0<i))∧iq = .int .i64 i∧Sat w0 wr (goM gb (gs++nx.take i)::osl 3 1 (.slice na nx.length nc) (ints nx)::planPt q N (.slice la ys.length lc) kp ip gb::osl 111 3 (.slice la ys.length lc) (ys.flatMap sgL)::TabMK kp mm B::bagS bg::TabML ip mi Bi::bagF zs::F))
    case atStart=>exact ⟨0,rfl,Nat.zero_le _,rfl,rfl,h2⟩
    case round=>
     obtain ⟨j,rfl,hj,rfl,rfl,hS⟩:=hrel
     clear h2
     by_cases hjl:j<nx.length
     rotate_left
     focus
      obtain rfl:j=nx.length:=by omega
      have c2:¬ (nx.length:Int)<(nx.length:Int):=oQ
      rw [List.take_length]at hS
      clear hj hjl
      obtain ⟨n',rfl⟩:∃ n',n=n'+1:=⟨n - 1,by have:=Hlt.out;omega⟩
      by_cases hne:nx=[]
      focus
       have hRg:R=gs:=by
        rw [← Hch.out,Cpt.choose_end]
        rw [Hnx.out];exact hne
       have hmv:decide (0<nx.length)=false:=by rw [hne];rfl
       rw [hmv]
       have Hsh:=uQ (show Sat w0 wr (goM gb R::planPt q N (.slice la ys.length lc) kp ip gb::osl 111 3 (.slice la ys.length lc) (ys.flatMap sgL)::TabMK kp mm B::bagS bg::TabML ip mi Bi::bagF zs::F) by
        rw [hne,List.append_nil]at hS
        rw [hRg]
        exact hS.sb)
       clear hS hmv hne hRg
       go_wp2_with fail
       go_roundg 0
       case measure=>omega
       case rel=>exact .inr ⟨rfl,rfl,Hsh.out⟩
      have hmv:decide (0<nx.length)=true:=decide_eq_true (List.length_pos_iff.2 hne)
      rw [hmv]
      have Hne:=uQ hne
      have Hsh:=uQ (hS.sb:Sat w0 wr (goM gb (gs++nx)::planPt q N (.slice la ys.length lc) kp ip gb::osl 111 3 (.slice la ys.length lc) (ys.flatMap sgL)::TabMK kp mm B::bagS bg::TabML ip mi Bi::bagF zs::F))
      clear hS hmv hne
      go_wp2_with fail
      go_roundg (n'+1)
      case measure=>omega
      case rel=>
       have hne2:Cpt.nextL P gs pc P.segs≠[]:=by rw [Hnx.out];exact Hne.out
       refine .inl ⟨n',gs++nx,rfl,rfl,?_,?_,Hsh.out⟩
       ·have h1:=Cpt.left_lt hne2
        rw [Hnx.out]at h1
        have:=Hlt.out
        omega
       ·rw [← Hch.out,Cpt.choose_more hne2,Hnx.out]
     have c2:(j:Int)<(nx.length:Int):=oQ
     have hwj:IntKind.i64.wrap ((j:Int)+1)=(j:Int)+1:=IntWalk.i64_in _ (by have:=Hnl.out;omega)
     obtain ⟨t,ht⟩:∃ t,nx[j]?=some t:=⟨_,List.getElem?_eq_getElem hjl⟩
     obtain ⟨bk,off,cc,e,hcell⟩:=ints_cell (Sat.rd (hS.pk (A:=osl 3 1 (.slice na nx.length nc) (ints nx)))) ht
     cases e
     have Hside:=uQ (goM_side (gs:=gs++nx.take j) (t:=t) (by
      intro hm
      rcases List.mem_append.1 hm with hm|hm
      ·exact Hnd.out.2 t (List.mem_of_getElem? ht) hm
      ·obtain ⟨u,hu⟩:=List.getElem?_of_mem hm
       have hul:u<j:=by
        have h1:=(List.getElem?_eq_some_iff.1 hu).1
        rw [List.length_take]at h1
        omega
       rw [List.getElem?_take_of_lt hul]at hu
       have:=(List.getElem?_inj oQ Hnd.out.1).1 (hu.trans ht.symm)
       omega))
     have Htj:=uQ (show nx.take (j+1)=nx.take j++[t] by rw [List.take_add_one,ht];rfl)
     have Hjl:=uQ hjl
     have eg:wr.cell? ⟨q,4,none⟩=some (.map (some gb)):=hS.cellP pick2 4 rfl
     clear ht hj hjl
     go_wp2_with (at_mapUpdate;go_must (refine wpList_store (key:= .int .i64 t) rFz _ _ _ rFz Tryz.underlying106 Tryz.underlying3 rFz rFz rFz rfl hS _ (.inl Hside.out) ?_);intro w2 hS2)
     have h3:=goM_put hS2
     rw [List.append_assoc,← Htj.out]at h3
     clear hS hS2 eg hcell
     go_wp2_with fail
     go_roundg (nx.length - (j+1))
     case measure=>have:=Hjl.out;omega
     case rel=>exact ⟨j+1,rfl,Nat.succ_le_of_lt Hjl.out,by rw [decide_eq_true (Nat.succ_pos j)],by first|rfl|go_num,h3⟩
   have c1:(i:Int)<(ys.length:Int):=oQ
   have hwi:IntKind.i64.wrap ((i:Int)+1)=(i:Int)+1:=IntWalk.i64_in _ (by have:=Hlen.out;omega)
   obtain ⟨y,hy⟩:∃ y,ys[i]?=some y:=⟨_,List.getElem?_eq_getElem hil⟩
   have hym:=List.mem_of_getElem? hy
   obtain ⟨_,fa,fc,hyl⟩:=HS.out.ok y hym
   have Hyf:=uQ (HS.out.fit y hym);have Hyz:=uQ (HS.out.mem y hym)
   have Htk:=uQ (HS.out.take hy)
   obtain ⟨bk,off,c2,e2,hcell⟩:=osl_row (f:=sgL) (k:=3) (fun y _=>sgL_len y) (Sat.rd (hS.pk (A:=osl 111 3 (.slice la ys.length lc) (ys.flatMap sgL)))) hy dCz
   cases e2
   have Hyl:=uQ hyl
   have Hil:=uQ hil
   obtain ⟨s,fs,sv⟩:=y
   dsimp only at hyl
   subst hyl
   obtain ⟨cu,hcu⟩:∃ cu,Cpt.nextL P gs pc (P.segs.take i)=cu:=⟨_,rfl⟩
   rw [hcu]at hS
   have Hcu:=uQ hcu
   clear hy hym hi hil hcu
   have hcell:wr.rangeAt bk (off+i * 3) [.int .i64 s,.slice fa fs.length fc,.int .i64 (Cpt.pay (fnL (s,fs,.slice fa fs.length fc)))]:=hcell
   obtain ⟨py,hpy⟩:∃ py,Cpt.pay (fnL (s,fs,.slice fa fs.length fc))=py:=⟨_,rfl⟩
   rw [hpy]at hcell
   have Hpy:=uQ hpy
   clear hpy
   go_wp2_with (first
    |((with_reducible refine at_load ⟨?_⟩);refine wl_loadW (b:=bk) (o:=off+i * 3) [.int .i64 s,.slice fa fs.length fc,.int .i64 py] rFz hcell Tryz.underlying111 rfl kRz ?_)
    |(with_reducible apply at_alloc))
   refine ⟨wl_alloc zSgm hS rfl ?_⟩
   intro b7 w7 h7
   clear hcell hS
   go_wp2_with ((with_reducible refine at_store ⟨?_⟩);refine wl_storeA #[.int .i64 s,.slice fa fs.length fc,.int .i64 py] h7 rFz rFz rFz upd0 kRz rFz ?_;intro w8 h8)
   have h9:=h8.drew
   clear h7 h8
   have hlk:=goM_look s (h9.sb:Sat w0 _ (goM gb gs::pt b7 (.cells #[.int .i64 s,.slice fa fs.length fc,.int .i64 py] 111 (0,0))::osl 3 1 nv (ints cu)::planPt q N (.slice (some ⟨bk,off,none⟩) ys.length lc) kp ip gb::osl 111 3 (.slice (some ⟨bk,off,none⟩) ys.length lc) (ys.flatMap sgL)::TabMK kp mm B::bagS bg::TabML ip mi Bi::bagF zs::F))
   by_cases hc:gs.contains s=true
   focus
    rw [if_pos hc]at hlk
    have Hn2:=uQ (show Cpt.nextL P gs pc (P.segs.take (i+1))=cu by
     rw [Htk.out,Cpt.nextL_snoc,hc,Bool.not_true,Bool.false_and,if_neg dCz,List.append_nil,Hcu.out])
    have hG:World.cell? _ ⟨q,4,none⟩=some (.map (some gb))∧World.cell? _ ⟨b7,0,none⟩=some (.int .i64 s)∧(Instr.lookup 106 (.map (some gb)) (.int .i64 s) false).run Tryz.prog _ = .ok (.int .i64 1) _:=⟨h9.cellP pick3 4 rfl,h9.cellP pick0 0 rfl,hlk⟩
    clear hlk
    refine wpL_begin [12,13] (fun w'=>w'.cell? ⟨q,4,none⟩=some (.map (some gb))∧w'.cell? ⟨b7,0,none⟩=some (.int .i64 s)∧(Instr.lookup 106 (.map (some gb)) (.int .i64 s) false).run Tryz.prog w' = .ok (.int .i64 1) w') kRz ?_
    refine rP 0 ?_ (y:=mvQ)
    refine rP 1 ?_ (y:=nlQ)
    refine rP 2 ?_ (y:=flQ)
    refine rt 3 (h:=?_)
    refine rP 4 ?_ (y:=flQ)
    refine rt 5 (h:=?_)
    refine rt 6 (h:=?_)
    refine rP 7 ?_ (y:=bnQ)
    refine rP 8 ?_ (y:=mvQ)
    clear hG
    refine rg_skip 9 evD kRz i3z rFz gQ ?_
    refine rg_skip 10 evD kRz i3z rFz gQ ?_
    refine rg_skip 11 evD kRz i3z rFz gQ ?_
    refine rg_skip 12 evD kRz i3z rFz gQ ?_
    refine rP 13 ?_ (y:=(yg_pick rFz evD evD))
    refine wpL_done kRz ?_
    go_wp2_with fail
    go_roundg (ys.length - (i+1))
    case measure=>have:=Hil.out;omega
    case rel=>exact ⟨i+1,_,rfl,rfl,Nat.succ_le_of_lt Hil.out,by first|rfl|go_num,by rw [Hn2.out];exact h9.drop⟩
   rw [if_neg hc]at hlk
   obtain ⟨z,hz⟩:∃ z,Cpt.sparse P gs pc (s,fnL (s,fs,.slice fa fs.length fc))=z:=⟨_,rfl⟩
   have Hn2:=uQ (show Cpt.nextL P gs pc (P.segs.take (i+1))=cu++(if z=true then [s] else []) by
    rw [Htk.out,Cpt.nextL_snoc,Bool.eq_false_iff.2 hc,Bool.not_false,Bool.true_and,Hcu.out,hz])
   have Hz:=uQ hz
   have hG:World.cell? _ ⟨q,4,none⟩=some (.map (some gb))∧World.rangeAt _ b7 0 [.int .i64 s,.slice fa fs.length fc,.int .i64 py]∧World.cell? _ ⟨b7,0,none⟩=some (.int .i64 s)∧(Instr.lookup 106 (.map (some gb)) (.int .i64 s) false).run Tryz.prog _ = .ok (.int .i64 0) _:=⟨h9.cellP pick3 4 rfl,fun k v hk=>h9.cellP pick0 (0+k) (by rw [Nat.zero_add,List.getElem?_toArray];exact hk),h9.cellP pick0 0 rfl,hlk⟩
   clear hlk hz hc
   refine wpL_begin [12,13] (fun w'=>w'.cell? ⟨q,4,none⟩=some (.map (some gb))∧w'.rangeAt b7 0 [.int .i64 s,.slice fa fs.length fc,.int .i64 py]∧w'.cell? ⟨b7,0,none⟩=some (.int .i64 s)∧(Instr.lookup 106 (.map (some gb)) (.int .i64 s) false).run Tryz.prog w' = .ok (.int .i64 0) w') kRz ?_
   refine rP 0 ?_ (y:=mvQ)
   refine rP 1 ?_ (y:=nlQ)
   refine rP 2 ?_ (y:=flQ)
   refine rt 3 (h:=?_)
   refine rP 4 ?_ (y:=flQ)
   refine rt 5 (h:=?_)
   refine rt 6 (h:=?_)
   refine rP 7 ?_ (y:=bnQ)
   refine rP 8 ?_ (y:=mvQ)
   refine rP 9 ?_ (y:=(yg_move rFz evD))
   refine rg_take 10 evD kRz i3z (tg_loadN (b:=b7) (o:=0) [.int .i64 s,.slice fa fs.length fc,.int .i64 py] rFz rFz Tryz.underlying111 rfl kRz (fun w hw=>hw.2.1)) aQ gQ ?_
   refine rP 11 ?_ (y:=(yg_move rFz evD))
   clear hG
   refine rg_eff 12 evD kRz (fun K hK=>?_)
   refine eg_call [ptr q,.agg #[.int .i64 s,.slice fa fs.length fc,.int .i64 py],.int .i64 pc] rFz kRz rFz ?_
   have hsp:=csparse_c (y:=(s,fs,.slice fa fs.length fc)) (pc:=pc) Hyz.out rfl Hyf.out Hpc.out HP.out (h9.sb:Sat w0 _ (goM gb gs::planPt q N (.slice (some ⟨bk,off,none⟩) ys.length lc) kp ip gb::TabMK kp mm B::bagS bg::TabML ip mi Bi::bagF zs::pt b7 (.cells #[.int .i64 s,.slice fa fs.length fc,.int .i64 py] 111 (0,0))::osl 3 1 nv (ints cu)::osl 111 3 (.slice (some ⟨bk,off,none⟩) ys.length lc) (ys.flatMap sgL)::F))
   dsimp only at hsp
   rw [Hpy.out,Hz.out]at hsp
   refine hsp.mono ?_
   clear hsp
   rintro ee w10 ⟨v,rfl,rfl,h10⟩
   refine hK _ _ (.inl rfl) ?_
   clear hK h9
   refine rP 13 ?_ (y:=(yg_pick rFz evD evD))
   refine wpL_done kRz ?_
   rcases z with _|_
   focus
    have Hsh:=uQ (h10.sb:Sat w0 w10 (osl 3 1 nv (ints cu)::goM gb gs::planPt q N (.slice (some ⟨bk,off,none⟩) ys.length lc) kp ip gb::osl 111 3 (.slice (some ⟨bk,off,none⟩) ys.length lc) (ys.flatMap sgL)::TabMK kp mm B::bagS bg::TabML ip mi Bi::bagF zs::F))
    clear h10
    go_wp2_with fail
    go_roundg (ys.length - (i+1))
    case measure=>have:=Hil.out;omega
    case rel=>exact ⟨i+1,_,rfl,rfl,Nat.succ_le_of_lt Hil.out,by first|rfl|go_num,by rw [Hn2.out];simp only [if_false,Bool.false_eq_true,List.append_nil];exact Hsh.out⟩
   have e0:w10.cell? ⟨b7,0,none⟩=some (.int .i64 s):=h10.cellP (pick_there (pick_there (pick_there (pick_there (pick_there (pick_there pick0)))))) 0 rfl
   have hcl:(ints cu).length≤2147483648:=by
    rw [ints_length,← Hcu.out]
    unfold Cpt.nextL
    rw [List.length_map]
    have h2:=List.length_filter_le (fun x => !gs.contains x.1 && Cpt.sparse P gs pc x) (P.segs.take i)
    have h3:=congrArg List.length HS.out.segs
    rw [List.length_map]at h3
    rw [List.length_take]at h2
    have:=Hlen.out
    omega
   have h11:Sat w0 w10 (osl 3 1 nv (ints cu)::goM gb gs::planPt q N (.slice (some ⟨bk,off,none⟩) ys.length lc) kp ip gb::osl 111 3 (.slice (some ⟨bk,off,none⟩) ys.length lc) (ys.flatMap sgL)::TabMK kp mm B::bagS bg::TabML ip mi Bi::bagF zs::pt b7 (.cells #[.int .i64 s,.slice fa fs.length fc,.int .i64 py] 111 (0,0))::F):=h10.sb
   clear h10
   have Hcl:=uQ hcl
   clear hcl
   go_wp2_with (first
    |((with_reducible refine at_build1 ⟨?_⟩);refine wl_build1 (e:=3) (sz:=1) (by':=8) kRz h11 rFz (cs:=#[.int .i64 s]) rfl rfl nLz ?_;intro bN wN hN)
    |((with_reducible refine at_append ⟨?_⟩);refine wl_app 3 1 8 kRz hN rFz rFz pick1 pick0 rFz (Nat.le_refl 1) rFz Hcl.out (by show 1≤65536;decide) dCz (ys:=ints [s]) rfl ?_;intro bA nA cA wA hA))
   rw [← ints_app]at hA
   have Hsh:=uQ (hA.sb:Sat w0 wA (osl 3 1 (.slice (some ⟨bA,0,none⟩) nA cA) (ints (cu++[s]))::goM gb gs::planPt q N (.slice (some ⟨bk,off,none⟩) ys.length lc) kp ip gb::osl 111 3 (.slice (some ⟨bk,off,none⟩) ys.length lc) (ys.flatMap sgL)::TabMK kp mm B::bagS bg::TabML ip mi Bi::bagF zs::F))
   clear h11 hN hA e0
   go_wp2_with fail
   go_roundg (ys.length - (i+1))
   case measure=>have:=Hil.out;omega
   case rel=>exact ⟨i+1,_,rfl,rfl,Nat.succ_le_of_lt Hil.out,by first|rfl|go_num,by rw [Hn2.out];simp only [if_true];exact Hsh.out⟩
end
end Go.Proofs.YtfdchfnmpabogaaGreatDoor
namespace Go.Cpt
open Go.Frm (Bs Fnd Ent fnds encs GoodE)
open Go.Seg (Plc)
open Go.Rep
open Go.Med
theorem pay_encs:∀ (es:List Ent) (a:Nat),pay (fnds es a)≤((encs es).length:Int)
 |[],a=>Int.le_refl _
 |e::es,a=>by
  have ih:=pay_encs es (a+(Frm.encode e).1.length)
  have e1:(encs (e::es)).length=(Frm.encode e).1.length+(encs es).length:=by
   show ((Frm.encode e).1++encs es).length=_
   rw [List.length_append]
  have e2:pay (fnds (e::es) a)=(if e.tag=2 then 0 else ((Frm.encode e).1.length:Int))+pay (fnds es (a+(Frm.encode e).1.length)):=rfl
  rw [e1,e2]
  split <;> omega
theorem segsC_nodup (C:List (List Ent)):((segsC C).map (·.1)).Nodup:=by
 unfold segsC
 rw [List.map_map]
 refine List.Pairwise.map _ (fun a b h=>?_) List.nodup_range'
 show (a:Int)≠b
 omega
theorem segsC_fit {K r E B n:Nat}{L:Seg.Log}{M:Med}{C:List (List Ent)} (h:Seg.Rp K r E B n L M C){x:Int×List Fnd} (hx:x∈segsC C):pay x.2≤16777216∧x.2.length≤n:=by
 obtain ⟨j,hj⟩:=List.getElem?_of_mem hx
 have hl:j<C.length:=by rw [← segsC_len (C:=C)];exact (List.getElem?_eq_some_iff.1 hj).1
 have hc:C[j]?=some C[j]:=List.getElem?_eq_getElem hl
 rw [segsC_get hc]at hj
 cases hj
 constructor
 ·have h1:=Seg.bytes_len (L:=L) h.hg.keeps.calm.ok (j:Int)
  rw [h.hg.bytes hc]at h1
  have h2:=pay_encs C[j] 8
  have h3:(Seg.mag++encs C[j]).length≤16777216:=h1
  rw [List.length_append]at h3
  show pay (fnds C[j] 8)≤_
  omega
 ·show (fnds C[j] 8).length≤n
  rw [← List.length_map (f:=fun f:Fnd=>f.e),Frm.fnds_e]
  have h1:=h.few
  have h2:C[j].length≤C.flatten.length:=(List.sublist_flatten_of_mem (List.getElem_mem hl)).length_le
  omega
end Go.Cpt
namespace Go.Proofs.YtfdchfnmpabogaaGreatDoor
open Go Go.Sl Go.Med Go.MapKept Go.RowKit
section
variable {w0 w:World}{F:List HProp}{gb q kp ip B Bi:Nat}{gs:List Int}{mm:Frm.Bs→Option Rep.Kpv}{bg:List (Value×List Int)}{mi:Frm.Bs→Option Seg.Plc}{N pc:Int}{lv:Value}{P:Cpt.Plan}{zs ys:List Sg}{y:Sg}
set_option maxRecDepth 20000 in
theorem cgone_c (hS:SegsOk P ys zs) (h:Sat w0 w (goM gb gs::planPt q N lv kp ip gb::osl 111 3 lv (ys.flatMap sgL)::F)) :
  Calls Tryz.prog 22 #[ptr q] w (Rtn fun v w'=>Sat w0 w' (osl 3 1 v (ints (Cpt.goneL gs P.segs))::goM gb gs::planPt q N lv kp ip gb::osl 111 3 lv (ys.flatMap sgL)::F)):=by
 have HS:=uQ hS
 obtain ⟨la,lc,rfl⟩:=osl_rows (f:=sgL) (k:=3) (l:=ys) (fun y _=>sgL_len y) (Sat.rd (h.pk (A:=osl 111 3 lv (ys.flatMap sgL)))) dCz
 have Hlen:=uQ hS.len
 have e1:w.cell? ⟨q,1,none⟩=some (.slice la ys.length lc):=h.cellP pick1 1 rfl
 have h1:Sat w0 w (osl 3 1 (.slice none 0 0) (ints (Cpt.goneL gs (P.segs.take 0)))::goM gb gs::planPt q N (.slice la ys.length lc) kp ip gb::osl 111 3 (.slice la ys.length lc) (ys.flatMap sgL)::F):=by
  rw [List.take_zero]
  exact Sat.osl_nil.2 h
 clear h hS
 go_enter Tryz.func22,Tryz.ntmps22
 go_wp2_with fail
 clear e1
 go_loopg [3,11] ys.length (fun g nq iq wr=>∃ (i:Nat) (nv:Value),nv=nq∧g=ys.length - i∧i≤ys.length∧iq = .int .i64 i∧Sat w0 wr (osl 3 1 nv (ints (Cpt.goneL gs (P.segs.take i)))::goM gb gs::planPt q N (.slice la ys.length lc) kp ip gb::osl 111 3 (.slice la ys.length lc) (ys.flatMap sgL)::F))
 case atStart=>exact ⟨0,_,rfl,rfl,Nat.zero_le _,rfl,h1⟩
 case round=>
  obtain ⟨i,nv,rfl,rfl,hi,rfl,hS⟩:=hrel
  clear h1
  by_cases hil:i<ys.length
  rotate_left
  focus
   obtain rfl:i=ys.length:=by omega
   have c1:¬ (ys.length:Int)<(ys.length:Int):=oQ
   have hal:P.segs.take ys.length=P.segs:=by rw [HS.out.segs,← List.length_map (f:=fun y:Sg=>(y.1,fnL y)),List.take_length]
   rw [hal]at hS
   clear hi hil hal
   go_wp2_with fail
   go_ret
   exact ⟨_,rfl,hS⟩
  have c1:(i:Int)<(ys.length:Int):=oQ
  have hwi:IntKind.i64.wrap ((i:Int)+1)=(i:Int)+1:=IntWalk.i64_in _ (by have:=Hlen.out;omega)
  obtain ⟨y,hy⟩:∃ y,ys[i]?=some y:=⟨_,List.getElem?_eq_getElem hil⟩
  have hym:=List.mem_of_getElem? hy
  obtain ⟨_,fa,fc,hyl⟩:=HS.out.ok y hym
  have Htk:=uQ (HS.out.take hy)
  obtain ⟨bk,off,c2,e2,hcell⟩:=osl_row (f:=sgL) (k:=3) (fun y _=>sgL_len y) (Sat.rd (hS.pk (A:=osl 111 3 (.slice la ys.length lc) (ys.flatMap sgL)))) hy dCz
  cases e2
  have Hil:=uQ hil
  obtain ⟨s,fs,sv⟩:=y
  dsimp only at hyl
  subst hyl
  have hcl:(ints (Cpt.goneL gs (P.segs.take i))).length≤2147483648:=by
   rw [ints_length]
   unfold Cpt.goneL
   rw [List.length_map]
   have h2:=List.length_filter_le (fun x=>gs.contains x.1) (P.segs.take i)
   have h3:=congrArg List.length HS.out.segs
   rw [List.length_map]at h3
   rw [List.length_take]at h2
   have:=Hlen.out
   omega
  obtain ⟨cu,hcu⟩:∃ cu,Cpt.goneL gs (P.segs.take i)=cu:=⟨_,rfl⟩
  rw [hcu]at hS hcl
  have Hcu:=uQ hcu;have Hcl:=uQ hcl
  have hcell:wr.rangeAt bk (off+i * 3) [.int .i64 s,.slice fa fs.length fc,.int .i64 (Cpt.pay (fnL (s,fs,.slice fa fs.length fc)))]:=hcell
  generalize Cpt.pay (fnL (s,fs,.slice fa fs.length fc))=py at hcell
  clear hy hym hi hil hcu hcl
  go_wp2_with (first
   |((with_reducible refine at_load ⟨?_⟩);refine wl_loadW (b:=bk) (o:=off+i * 3) [.int .i64 s,.slice fa fs.length fc,.int .i64 py] rFz hcell Tryz.underlying111 rfl kRz ?_)
   |(with_reducible apply at_alloc))
  refine ⟨wl_alloc zSgm hS rfl ?_⟩
  intro b7 w7 h7
  clear hcell hS
  go_wp2_with ((with_reducible refine at_store ⟨?_⟩);refine wl_storeA #[.int .i64 s,.slice fa fs.length fc,.int .i64 py] h7 rFz rFz rFz upd0 kRz rFz ?_;intro w8 h8)
  have h9:=h8.drew
  clear h7 h8
  have hlk:=goM_look s (h9.sb:Sat w0 _ (goM gb gs::pt b7 (.cells #[.int .i64 s,.slice fa fs.length fc,.int .i64 py] 111 (0,0))::osl 3 1 nv (ints cu)::planPt q N (.slice (some ⟨bk,off,none⟩) ys.length lc) kp ip gb::osl 111 3 (.slice (some ⟨bk,off,none⟩) ys.length lc) (ys.flatMap sgL)::F))
  have e4:World.cell? _ ⟨q,4,none⟩=some (.map (some gb)):=h9.cellP pick3 4 rfl
  have e0:World.cell? _ ⟨b7,0,none⟩=some (.int .i64 s):=h9.cellP pick0 0 rfl
  by_cases hc:gs.contains s=true
  rotate_left
  focus
   rw [if_neg hc]at hlk
   have Hn2:=uQ (show Cpt.goneL gs (P.segs.take (i+1))=cu by
    rw [Htk.out,Cpt.goneL_snoc,if_neg hc,List.append_nil,Hcu.out])
   clear hc
   have hG:World.cell? _ ⟨q,4,none⟩=some (.map (some gb))∧World.cell? _ ⟨b7,0,none⟩=some (.int .i64 s)∧(Instr.lookup 106 (.map (some gb)) (.int .i64 s) false).run Tryz.prog _ = .ok (.int .i64 0) _:=⟨e4,e0,hlk⟩
   refine wpL_begin [7] (fun w'=>w'.cell? ⟨q,4,none⟩=some (.map (some gb))∧w'.cell? ⟨b7,0,none⟩=some (.int .i64 s)∧(Instr.lookup 106 (.map (some gb)) (.int .i64 s) false).run Tryz.prog w' = .ok (.int .i64 0) w') kRz ?_
   refine rP 0 ?_ (y:=mvQ)
   refine rP 1 ?_ (y:=nlQ)
   refine rP 2 ?_ (y:=flQ)
   refine rt 3 (h:=?_)
   refine rP 4 ?_ (y:=flQ)
   refine rt 5 (h:=?_)
   refine rt 6 (h:=?_)
   clear hG
   refine rP 7 ?_ (y:=bnQ)
   refine wpL_done kRz ?_
   go_wp2_with fail
   go_roundg (ys.length - (i+1))
   case measure=>have:=Hil.out;omega
   case rel=>exact ⟨i+1,_,rfl,rfl,Nat.succ_le_of_lt Hil.out,by first|rfl|go_num,by rw [Hn2.out];exact h9.drop⟩
  rw [if_pos hc]at hlk
  have Hn2:=uQ (show Cpt.goneL gs (P.segs.take (i+1))=cu++[s] by
   rw [Htk.out,Cpt.goneL_snoc,if_pos hc,Hcu.out])
  clear hc
  have hG:World.cell? _ ⟨q,4,none⟩=some (.map (some gb))∧World.cell? _ ⟨b7,0,none⟩=some (.int .i64 s)∧(Instr.lookup 106 (.map (some gb)) (.int .i64 s) false).run Tryz.prog _ = .ok (.int .i64 1) _:=⟨e4,e0,hlk⟩
  refine wpL_begin [7] (fun w'=>w'.cell? ⟨q,4,none⟩=some (.map (some gb))∧w'.cell? ⟨b7,0,none⟩=some (.int .i64 s)∧(Instr.lookup 106 (.map (some gb)) (.int .i64 s) false).run Tryz.prog w' = .ok (.int .i64 1) w') kRz ?_
  refine rP 0 ?_ (y:=mvQ)
  refine rP 1 ?_ (y:=nlQ)
  refine rP 2 ?_ (y:=flQ)
  refine rt 3 (h:=?_)
  refine rP 4 ?_ (y:=flQ)
  refine rt 5 (h:=?_)
  refine rt 6 (h:=?_)
  clear hG
  refine rP 7 ?_ (y:=bnQ)
  refine wpL_done kRz ?_
  have h11:=(h9.sb:Sat w0 _ (osl 3 1 nv (ints cu)::pt b7 (.cells #[.int .i64 s,.slice fa fs.length fc,.int .i64 py] 111 (0,0))::goM gb gs::planPt q N (.slice (some ⟨bk,off,none⟩) ys.length lc) kp ip gb::osl 111 3 (.slice (some ⟨bk,off,none⟩) ys.length lc) (ys.flatMap sgL)::F))
  clear h9 hlk e4
  go_wp2_with (first
   |((with_reducible refine at_build1 ⟨?_⟩);refine wl_build1 (e:=3) (sz:=1) (by':=8) kRz h11 rFz (cs:=#[.int .i64 s]) rfl rfl nLz ?_;intro bN wN hN)
   |((with_reducible refine at_append ⟨?_⟩);refine wl_app 3 1 8 kRz hN rFz rFz pick1 pick0 rFz (Nat.le_refl 1) rFz Hcl.out (by show 1≤65536;decide) dCz (ys:=ints [s]) rfl ?_;intro bA nA cA wA hA))
  rw [← ints_app]at hA
  have Hsh:=uQ (hA.sb:Sat w0 wA (osl 3 1 (.slice (some ⟨bA,0,none⟩) nA cA) (ints (cu++[s]))::goM gb gs::planPt q N (.slice (some ⟨bk,off,none⟩) ys.length lc) kp ip gb::osl 111 3 (.slice (some ⟨bk,off,none⟩) ys.length lc) (ys.flatMap sgL)::F))
  clear h11 hN hA e0
  go_wp2_with fail
  go_roundg (ys.length - (i+1))
  case measure=>have:=Hil.out;omega
  case rel=>exact ⟨i+1,_,rfl,rfl,Nat.succ_le_of_lt Hil.out,by first|rfl|go_num,by rw [Hn2.out];exact Hsh.out⟩
variable {r m p ps pn pi K r0 E n:Nat}{seg:Int}{d:Bool}{uv tv:Value}{us:List Rep.Use}{L:Seg.Log}{M:Med}{C:List (List Frm.Ent)}
theorem cplanN_c {rv:Value} (hN:NR w0 F rv) (h:Sat w0 w F):Calls Tryz.prog 21 #[rv,.int .i64 pc] w (Rtn fun v w'=>v = .tuple #[.pointer none,errno 1]∧w=w'):=by
 have hl:=nlog_c hN h
 clear hN
 go_enter Tryz.func21,Tryz.ntmps21
 go_wp2_with fail
 refine hl.mono ?_
 rintro ee w1 ⟨v,rfl,rfl,rfl⟩
 go_wp2_with fail
 go_ret2
 exact ⟨_,rfl,rfl,rfl⟩
theorem cplanA_c (hpc:pc<0∨100<pc) (h:Sat w0 w (rpPt r m seg p ps pn d::F)):Calls Tryz.prog 21 #[ptr r,.int .i64 pc] w (Rtn fun v w'=>v = .tuple #[.pointer none,errno 2]∧w=w'):=by
 have hl:=rplog_c h
 clear h
 rcases hpc with h1|h1
 ·have c1:decide (pc<0)=true:=decide_eq_true h1
  go_enter Tryz.func21,Tryz.ntmps21
  go_wp2_with fail
  refine hl.mono ?_
  rintro ee w1 ⟨v,rfl,rfl,rfl⟩
  go_wp2_with fail
  go_ret2
  exact ⟨_,rfl,rfl,rfl⟩
 ·have c1:decide (pc<0)=false:=decide_eq_false oQ
  have c1':¬ pc<0:=oQ
  have c2:decide (pc>100)=true:=decide_eq_true h1
  have c2':100<pc:=h1
  go_enter Tryz.func21,Tryz.ntmps21
  go_wp2_with fail
  refine hl.mono ?_
  rintro ee w1 ⟨v,rfl,rfl,rfl⟩
  go_wp2_with fail
  go_ret2
  exact ⟨_,rfl,rfl,rfl⟩
theorem cplanD_c (hpc:0≤pc∧pc≤100) (h:Sat w0 w (rpPt r m seg p ps pn true::F)):Calls Tryz.prog 21 #[ptr r,.int .i64 pc] w (Rtn fun v w'=>v = .tuple #[.pointer none,errno 14]∧w=w'):=by
 have hl:=rplog_c h
 have hd:=rpdirty_c h
 clear h
 have c1:decide (pc<0)=false:=decide_eq_false oQ
 have c1':¬ pc<0:=oQ
 have c2:decide (pc>100)=false:=decide_eq_false oQ
 have c2':¬ 100<pc:=oQ
 go_enter Tryz.func21,Tryz.ntmps21
 go_wp2_with fail
 refine hl.mono ?_
 rintro ee w1 ⟨v,rfl,rfl,rfl⟩
 go_wp2_with fail
 refine hd.mono ?_
 rintro ee w1 ⟨v,rfl,rfl,rfl⟩
 go_wp2_with fail
 go_ret2
 exact ⟨_,rfl,rfl,rfl⟩
def planC (N:Int) (mi:Frm.Bs→Option Seg.Plc) (C:List (List Frm.Ent)):Cpt.Plan:=⟨N,Cpt.segsC C,Cpt.keysR (Cpt.rowsS (Cpt.segsC C)),mi⟩
def PlanOut (w0:World) (N pc:Int) (Bi n:Nat) (mi:Frm.Bs→Option Seg.Plc) (C:List (List Frm.Ent)) (R:List HProp) (v:Value) (w':World):Prop:=
 ∃ (b kp ip gb Bk:Nat) (lv:Value) (mm:Frm.Bs→Option Rep.Kpv) (bg:List (Value×List Int)) (ys zs:List Sg),v = .tuple #[ptr b,errno 0]∧PlanOk (planC N mi C) N mm mi bg Bk Bi∧SegsOk (planC N mi C) ys zs∧Sat w0 w' (goM gb (Cpt.chosen (planC N mi C) pc)::planPt b N lv kp ip gb::osl 111 3 lv (ys.flatMap sgL)::TabMK kp mm Bk::bagS bg::TabML ip mi Bi::bagF zs::R)
theorem planC_ok {ys zs:List Sg}{Bk:Nat} (hR:Seg.Rp K r0 E B n L M C) (hn:n≤1000) (hBi:Bi≤13000000) (hys:(ys.map fun y=>(y.1,fnL y))=Cpt.segsC C) (hok:SgOk ys) (hyz:∀ y∈ys,y∈zs) (hko:KeyOk mm (Cpt.keysR (Cpt.rowsS (Cpt.segsC C))) bg) (hBk:Bk≤n) :
  PlanOk (planC N mi C) N mm mi bg Bk Bi∧SegsOk (planC N mi C) ys zs:=by
 refine ⟨⟨rfl,rfl,hko,fun k=>?_,by omega,hBi⟩,hys.symm,Cpt.segsC_nodup C,hyz,hok,fun y hy=>?_,?_⟩
 ·have h1:=Cpt.keysR_len (Cpt.rowsS (Cpt.segsC C)) k
  rw [Cpt.rowsS_all]at h1
  have:=hR.few
  show (Cpt.kv0 (Cpt.keysR (Cpt.rowsS (Cpt.segsC C))) k).1.length≤_
  omega
 ·have hx:(y.1,fnL y)∈Cpt.segsC C:=by rw [← hys];exact List.mem_map.2 ⟨y,hy,rfl⟩
  obtain ⟨h1,h2⟩:=Cpt.segsC_fit hR hx
  refine ⟨(hok y hy).1,h1,?_⟩
  have h3:(fnL y).length≤n:=h2
  unfold fnL at h3
  rw [List.length_map]at h3
  omega
 ·have h1:=congrArg List.length hys
  rw [List.length_map,Cpt.segsC_len]at h1
  have:=hR.hg.count
  omega
theorem cplanY_c (hpc:0≤pc∧pc≤100) (hR:Seg.Rp K r0 E B n L M C) (hn:n≤1000) (hu:us.length=C.length) (hus:∀ (j:Nat) (u:Rep.Use),us[j]?=some u→u.seg=j) (hBi:Bi≤13000000) (hH:Ro w0 F Half)
  (h:Sat w0 w (rpPt r m seg p ps pn false::stPt ps N pi uv tv::TabML pi mi Bi::osl 132 3 uv (us.flatMap uenc)::LogRep p m L::MedRep m M::F)) :
  Calls Tryz.prog 21 #[ptr r,.int .i64 pc] w (Rtn fun v w'=>PlanOut w0 N pc Bi n mi C (rpPt r m seg p ps pn false::stPt ps N pi uv tv::TabML pi mi Bi::osl 132 3 uv (us.flatMap uenc)::LogRep p m L::MedRep m M::F) v w'):=by
 have hl:=rplog_c h
 have hd:=rpdirty_c h
 have hrd:=cread_c hR hn hu hus (Nat.le_trans hBi dCz) hH h
 have HR:=uQ hR;have Hn:=uQ hn;have HBi:=uQ hBi;have Hpc:=uQ hpc
 clear h hR hn hu hus hBi hH
 have c1:decide (pc<0)=false:=decide_eq_false oQ
 have c1':¬ pc<0:=oQ
 have c2:decide (pc>100)=false:=decide_eq_false oQ
 have c2':¬ 100<pc:=oQ
 clear hpc
 go_enter Tryz.func21,Tryz.ntmps21
 go_wp2_with fail
 refine hl.mono ?_
 rintro ee w1 ⟨v,rfl,rfl,rfl⟩
 go_wp2_with fail
 refine hd.mono ?_
 rintro ee w1 ⟨v,rfl,rfl,rfl⟩
 go_wp2_with fail
 refine hrd.mono ?_
 rintro ee w2 ⟨v,rfl,b,kp,ip,gb,Bk,lv,mm,bg,ys,zs,rfl,k1,k2,k3,k4,k5,h2⟩
 obtain ⟨hP,hS⟩:=planC_ok (N:=N) (mi:=mi) HR.out Hn.out HBi.out k1 k2 k3 k4 k5
 clear hl hd hrd k1 k2 k3 k4 k5
 go_wp2_with fail
 refine (cchoose_c Hpc.out hP hS (h2.sb:Sat w0 w2 (goM gb []::planPt b N lv kp ip gb::osl 111 3 lv (ys.flatMap sgL)::TabMK kp mm Bk::bagS bg::TabML ip mi Bi::bagF zs::rpPt r m seg p ps pn false::stPt ps N pi uv tv::TabML pi mi Bi::osl 132 3 uv (us.flatMap uenc)::LogRep p m L::MedRep m M::F))).mono ?_
 rintro ee w3 ⟨v,rfl,h3⟩
 have Hsh:=uQ (And.intro hP (And.intro hS h3))
 clear h2 h3 hP hS
 go_wp2_with fail
 go_ret2
 obtain ⟨k1,k2,k3⟩:=Hsh.out
 exact ⟨_,rfl,b,kp,ip,gb,Bk,lv,mm,bg,ys,zs,rfl,k1,k2,k3⟩
theorem csparE_c {rv:Value}{e:Int}{Q:World→Prop} (he:e≠0) (hp:Calls Tryz.prog 21 #[rv,.int .i64 pc] w (Rtn fun v w'=>v = .tuple #[.pointer none,errno e]∧Q w')):Calls Tryz.prog 7 #[rv,.int .i64 pc] w (Rtn fun v w'=>v = .tuple #[.slice none 0 0,errno e]∧Q w'):=by
 have hb:(e != 0)=true:=bne_iff_ne.2 he
 clear he
 go_enter Tryz.func7,Tryz.ntmps7
 go_wp2_with fail
 refine hp.mono ?_
 rintro ee w1 ⟨v,rfl,rfl,hq⟩
 clear hp
 have Hq:=uQ hq
 clear hq
 go_wp2_with fail
 go_ret2
 exact ⟨_,rfl,rfl,Hq.out⟩
theorem crunE_c {rv:Value}{e:Int}{Q:World→Prop} (he:e≠0) (hp:Calls Tryz.prog 21 #[rv,.int .i64 pc] w (Rtn fun v w'=>v = .tuple #[.pointer none,errno e]∧Q w')):Calls Tryz.prog 8 #[rv,.int .i64 pc] w (Rtn fun v w'=>v = .tuple #[.slice none 0 0,errno e]∧Q w'):=by
 have hb:(e != 0)=true:=bne_iff_ne.2 he
 clear he
 go_enter Tryz.func8,Tryz.ntmps8
 go_wp2_with fail
 refine hp.mono ?_
 rintro ee w1 ⟨v,rfl,rfl,hq⟩
 clear hp
 have Hq:=uQ hq
 clear hq
 go_wp2_with fail
 go_ret2
 exact ⟨_,rfl,rfl,Hq.out⟩
theorem csparY_c (hpc:0≤pc∧pc≤100) (hR:Seg.Rp K r0 E B n L M C) (hn:n≤1000) (hu:us.length=C.length) (hus:∀ (j:Nat) (u:Rep.Use),us[j]?=some u→u.seg=j) (hBi:Bi≤13000000) (hH:Ro w0 F Half)
  (h:Sat w0 w (rpPt r m seg p ps pn false::stPt ps N pi uv tv::TabML pi mi Bi::osl 132 3 uv (us.flatMap uenc)::LogRep p m L::MedRep m M::F)) :
  Calls Tryz.prog 7 #[ptr r,.int .i64 pc] w (Rtn fun v w'=>∃ sv,v = .tuple #[sv,errno 0]∧Sat w0 w' (osl 3 1 sv (ints (Cpt.goneL (Cpt.chosen (planC N mi C) pc) (Cpt.segsC C)))::rpPt r m seg p ps pn false::stPt ps N pi uv tv::TabML pi mi Bi::osl 132 3 uv (us.flatMap uenc)::LogRep p m L::MedRep m M::F)):=by
 have hp:=cplanY_c hpc hR hn hu hus hBi hH h
 clear h hR hn hu hus hBi hH hpc
 go_enter Tryz.func7,Tryz.ntmps7
 go_wp2_with fail
 refine hp.mono ?_
 rintro ee w2 ⟨v,rfl,b,kp,ip,gb,Bk,lv,mm,bg,ys,zs,rfl,k1,k2,h2⟩
 clear hp k1
 go_wp2_with fail
 refine (cgone_c k2 (h2.sb:Sat w0 w2 (goM gb (Cpt.chosen (planC N mi C) pc)::planPt b N lv kp ip gb::osl 111 3 lv (ys.flatMap sgL)::TabMK kp mm Bk::bagS bg::TabML ip mi Bi::bagF zs::rpPt r m seg p ps pn false::stPt ps N pi uv tv::TabML pi mi Bi::osl 132 3 uv (us.flatMap uenc)::LogRep p m L::MedRep m M::F))).mono ?_
 rintro ee w3 ⟨v,rfl,h3⟩
 clear h2 k2
 have Hsh:=uQ (h3.sb:Sat w0 w3 (osl 3 1 v (ints (Cpt.goneL (Cpt.chosen (planC N mi C) pc) (planC N mi C).segs))::rpPt r m seg p ps pn false::stPt ps N pi uv tv::TabML pi mi Bi::osl 132 3 uv (us.flatMap uenc)::LogRep p m L::MedRep m M::F))
 clear h3
 go_wp2_with fail
 go_ret2
 exact ⟨_,rfl,_,rfl,Hsh.out⟩
end
end Go.Proofs.YtfdchfnmpabogaaGreatDoor
namespace Go.Seg
open Go.Med
open Go.Frm (Bs Ent encs GoodE fnds)
open Go.Rep
section
variable {K r E B n:Nat}{L:Log}{M:Med}{C:List (List Ent)}{x y:Ent}
theorem HG.len_eq {K' r' E' B' n':Nat}{M':Med}{C':List (List Ent)} (h:HG K r E B n L M C) (h':HG K' r' E' B' n' L M' C'):C.length=C'.length:=h.len.symm.trans h'.len
theorem put_len9 (h0:(Frm.encode x).2=0) (hk:x.key.length=32) (ht:x.tag=0):(Frm.encode x).1.length=41+x.data.length:=by
 rw [size_enc h0 hk]
 unfold Frm.size
 have hc:Frm.check x=0:=by
  unfold Frm.encode at h0
  split at h0
  ·exact h0
  ·rename_i h;exact Decidable.not_not.1 h
 rw [if_neg (by rw [hc];decide),if_neg (by rw [ht];decide)]
theorem HG.pair_fits (h:HG K r E B n L M (C++[[x]])) (h0:(Frm.encode x).2=0) (hk:x.key.length=32) (hd:x.data.length≤1) (ht:x.tag=0) (hon:L.on=true) (hlim:L.limit=200):L.fits (Frm.encode comEnt).1.length=true:=by
 have hl:L.l.getLast?=some ((C.length:Int),8+((encs [x]).length:Int)):=by
  rw [List.getLast?_eq_getElem?,h.len,List.length_append,List.length_singleton,Nat.add_sub_cancel]
  exact h.at_ _ _ (by rw [List.getElem?_append_right (Nat.le_refl _),Nat.sub_self];rfl)
 unfold Log.fits
 rw [hl,hon,hlim,encs_one,put_len9 h0 hk ht,com_len]
 simp only [Option.map_some,Option.getD_some,Bool.true_and]
 exact decide_eq_true oQ
theorem put_new:put C false x=C++[[x]]:=rfl
theorem put_on:put (C++[[x]]) true y=C++[[x,y]]:=by
 unfold put
 rw [if_pos rfl,List.dropLast_concat,List.getLastD_eq_getLast?,List.getLast?_concat]
 rfl
theorem fnds_n (s:List Ent) (a:Nat) (k:Int):(fnds s a).map (fun _=>k)=s.map fun _=>k:=by
 conv=>rhs;rw [← Frm.fnds_e s a]
 rw [List.map_map];rfl
theorem rowsC_n (k:Nat) (s t:List Ent):(rowsC k [s,t]).map (·.1)=(s.map fun _=>(k:Int))++t.map fun _=>((k+1:Nat):Int):=by
 show (((fnds s 8).map fun f=>((k:Int),f))++(((fnds t 8).map fun f=>(((k+1:Nat):Int),f))++[])).map (fun r:Row=>r.1)=_
 rw [List.append_nil,List.map_append,List.map_map,List.map_map]
 exact congr (congrArg _ (fnds_n s 8 k)) (fnds_n t 8 _)
theorem one_seg {C2:List (List Ent)} (hf:C2.flatten=[x,y]) (hl:C2.length=1):C2=[[x,y]]:=by
 match C2,hl with
 |[s],_=>
  rw [List.flatten_cons,List.flatten_nil,List.append_nil]at hf
  rw [hf]
theorem two_segs {C2:List (List Ent)}{a b:Ent}{row:Row} (hf:C2.flatten=[a,b,x,y]) (hl:C2.length=2) (hr:rowsC 0 C2=rowsC 0 [[a,b],[x]]++[row]):C2=[[a,b],[x,y]]:=by
 match C2,hl with
 |[s,t],_=>
  rw [List.flatten_cons,List.flatten_cons,List.flatten_nil,List.append_nil]at hf
  have h1:=congrArg (fun l:List Row=>l.map (·.1)) hr
  simp only [List.map_append,rowsC_n]at h1
  rcases s with _|⟨s0,_|⟨s1,_|⟨s2,s⟩⟩⟩
  ·simp only [List.nil_append]at hf
   rw [hf]at h1
   simp at h1
  ·simp only [List.cons_append,List.nil_append,List.cons.injEq]at hf
   rw [hf.2]at h1
   simp at h1
  ·simp only [List.cons_append,List.nil_append,List.cons.injEq]at hf
   rw [hf.1,hf.2.1,hf.2.2]
  ·simp at h1
theorem Rp.put_first (h:Rp K r E B n L M C) (hn:n<400) (hE:n+E<500) (hon:L.on=false) (hk:x.key.length=32) (hd:x.data.length≤300) (h0:(Frm.encode x).2=0) (hr:n * 400+B+400≤r) :
  (L.append M x).2.2=0∧(L.append M x).1.1.on=true∧(L.append M x).1.1.limit=L.limit∧Rp (K+4) r E B (n+1) (L.append M x).1.1 (L.append M x).1.2 (C++[[x]])∧∃ row,rowsC 0 (C++[[x]])=rowsC 0 C++[row]∧row.2.e=x∧rplc row=(L.append M x).2.1:=by
 have hf:L.fits (Frm.encode x).1.length=false:=by unfold Log.fits;rw [hon];rfl
 have hu:=h.hg.used
 have hrm:=h.hg.keeps.calm.room
 have hnm:=h.hg.names
 obtain ⟨a1,a2,a3,_⟩:=h.hg.append oQ x hk hd h0 (.inr ⟨by omega,by omega⟩)
 obtain ⟨C',b1,b2,_,row,b4,b5,b6⟩:=h.yes oQ hk hd h0 a1
 rw [hf,put_new]at b2
 subst b2
 exact ⟨a1,a2,a3,b1,row,b4,b5,b6⟩
theorem Rp.com_next (h:Rp K r E B n L M (C++[[x]])) (hn:n<400) (hE:n+E<500) (hk:x.key.length=32) (hd:x.data.length≤1) (ht:x.tag=0) (h0:(Frm.encode x).2=0) (hon:L.on=true) (hlim:L.limit=200) (hr:n * 400+B+400≤r) :
  (L.append M comEnt).2.2=0∧(L.commit M).1.1.on=false∧(L.commit M).1.1.limit=200∧∀ {K' r' E' B' n':Nat} {M3:Med} {C2:List (List Ent)},HG K' r' E' B' n' (L.commit M).1.1 M3 C2→C2.length=C.length+1:=by
 have hu:=h.hg.used
 have hrm:=h.hg.keeps.calm.room
 have hnm:=h.hg.names
 obtain ⟨a1,_⟩:=h.hg.append oQ comEnt rfl dCz rFz (.inr ⟨by omega,by omega⟩)
 obtain ⟨_,b2,b3,b4⟩:=h.hg.commit oQ (.inl a1)
 rw [h.hg.pair_fits h0 hk hd ht hon hlim,put_on]at b4
 refine ⟨a1,b2,b3.trans hlim,fun h'=>?_⟩
 rw [← b4.len_eq h',List.length_append,List.length_singleton]
theorem usC_seg {kv:List (Bs×Abt)}{j:Nat}{u:Use} (hj:((usC C).map (upd kv))[j]?=some u):u.seg=j:=by
 unfold usC at hj
 rw [List.map_map,List.getElem?_map]at hj
 obtain ⟨i,hi,rfl⟩:=Option.map_eq_some_iff.1 hj
 rw [List.getElem?_range' (by have:=(List.getElem?_eq_some_iff.1 hi).1;rw [List.length_range']at this;exact this)]at hi
 cases hi
 show ((0+1 * j:Nat):Int)=j
 omega
theorem St0.uses {N:Int}{us:List Use}{pl:List (Bs×Plc)} (h:St0 C N us pl):us.length=C.length∧∀ (j:Nat) (u:Use),us[j]?=some u→u.seg=j:=by
 obtain ⟨kv,_,_,rfl,_⟩:=h.kv
 refine ⟨by rw [List.length_map];unfold usC;rw [List.length_map,List.length_range'],fun j u hj=>usC_seg hj⟩
end
end Go.Seg
namespace Go.Cpt
open Go.Frm (Bs Fnd Ent fnds encs GoodE)
open Go.Seg (Plc comEnt)
open Go.Rep
theorem sparse18 {x y:Ent} (hx:x.tag=0) (hy:y.tag=0) (hk:x.key=y.key) (h0:0<(Frm.encode x).1.length) (h1:0<(Frm.encode y).1.length) (N:Int):goneL (chosen ⟨N,segsC [[x,comEnt],[y,comEnt]],keysR (rowsS (segsC [[x,comEnt],[y,comEnt]])),nowOf (rowsC 0 [[x,comEnt],[y,comEnt]])⟩ 100) (segsC [[x,comEnt],[y,comEnt]])=[0]:=by
 generalize hQ:keysR (rowsS (segsC [[x,comEnt],[y,comEnt]]))=Q
 have hi:nowOf (rowsC 0 [[x,comEnt],[y,comEnt]]) y.key=some ⟨1,8,((Frm.encode y).1.length:Int)⟩:=by
  have e:rowsC 0 [[x,comEnt],[y,comEnt]]=(rowsC 0 [[x,comEnt]]++[((1:Int),⟨y,8,(Frm.encode y).1.length⟩)])++[((1:Int),⟨comEnt,8+(Frm.encode y).1.length,(Frm.encode comEnt).1.length⟩)]:=rfl
  rw [e,nowOf_com rFz,nowOf_put (by exact hy)]
  unfold Tab.put
  exact if_pos rfl
 generalize nowOf (rowsC 0 [[x,comEnt],[y,comEnt]])=I at hi ⊢
 have es:segsC [[x,comEnt],[y,comEnt]]=[((0:Int),[⟨x,8,(Frm.encode x).1.length⟩,⟨comEnt,8+(Frm.encode x).1.length,(Frm.encode comEnt).1.length⟩]),((1:Int),[⟨y,8,(Frm.encode y).1.length⟩,⟨comEnt,8+(Frm.encode y).1.length,(Frm.encode comEnt).1.length⟩])]:=rfl
 rw [es]
 generalize (Frm.encode x).1.length=a at *
 generalize (Frm.encode y).1.length=b at *
 generalize (Frm.encode comEnt).1.length=c at *
 clear hQ es
 obtain ⟨P,hP⟩:∃ P,P=Plan.mk N [((0:Int),[⟨x,8,a⟩,⟨comEnt,8+a,c⟩]),((1:Int),[⟨y,8,b⟩,⟨comEnt,8+b,c⟩])] Q I:=⟨_,rfl⟩
 rw [← hP]
 have hI:P.index=I:=by rw [hP]
 have hS:P.segs=[((0:Int),[⟨x,8,a⟩,⟨comEnt,8+a,c⟩]),((1:Int),[⟨y,8,b⟩,⟨comEnt,8+b,c⟩])]:=by rw [hP]
 clear hP
 have cc:∀ (gs:List Int) (s:Int) (z:Nat),counts P gs s ⟨comEnt,z,c⟩=false:=fun gs s z=>by unfold counts;exact if_pos rfl
 have c0:∀ gs:List Int,counts P gs 0 ⟨x,8,a⟩=false:=fun gs=>by
  unfold counts
  rw [if_neg (by show ¬ x.tag=2;rw [hx];decide),if_pos (show x.tag=0 from hx)]
  show (match P.index x.key with|some p=>plcEq p ⟨0,((8:Nat):Int),(a:Int)⟩|none=>false)=false
  rw [hI,hk,hi]
  rfl
 have c1:∀ gs:List Int,counts P gs 1 ⟨y,8,b⟩=true:=fun gs=>by
  unfold counts
  rw [if_neg (by show ¬ y.tag=2;rw [hy];decide),if_pos (show y.tag=0 from hy)]
  show (match P.index y.key with|some p=>plcEq p ⟨1,((8:Nat):Int),(b:Int)⟩|none=>false)=true
  rw [hI,hi]
  show ((1:Int)==1 && ((8:Int)==((8:Nat):Int) && (b:Int)==(b:Int)))=true
  rw [beq_self_eq_true (b:Int)]
  rfl
 have p0:∀ (e:Ent) (a z:Nat),e.tag=0→pay [⟨e,8,a⟩,⟨comEnt,z,c⟩]=(a:Int):=fun e a z he=>by
  unfold pay pay pay
  rw [if_neg (by show ¬ e.tag=2;rw [he];decide),if_pos (show comEnt.tag=2 from rfl)]
  show (a:Int)+0=a
  exact Int.add_zero _
 have s0:sparse P [] 100 ((0:Int),[⟨x,8,a⟩,⟨comEnt,8+a,c⟩])=true:=by
  unfold sparse
  simp only
  rw [p0 x a _ hx,if_neg oQ]
  unfold liveS liveS liveS
  rw [c0,cc,if_neg dCz,if_neg dCz]
  exact decide_eq_true oQ
 have s1:∀ gs:List Int,sparse P gs 100 ((1:Int),[⟨y,8,b⟩,⟨comEnt,8+b,c⟩])=false∨b=0:=fun gs=>by
  by_cases hb:b=0
  ·exact .inr hb
  refine .inl ?_
  unfold sparse
  simp only
  rw [p0 y b _ hy,if_neg oQ]
  unfold liveS liveS liveS
  rw [c1,cc,if_pos rfl,if_neg dCz]
  exact decide_eq_false (by show ¬ (100 * ((b:Int)+(0+0))<100 * (b:Int));omega)
 have s1:∀ gs:List Int,sparse P gs 100 ((1:Int),[⟨y,8,b⟩,⟨comEnt,8+b,c⟩])=false:=fun gs=>(s1 gs).resolve_right oQ
 have n1:nextL P [] 100 P.segs=[0]:=by
  unfold nextL
  rw [hS,List.filter_cons_of_pos (by rw [s0];rfl),List.filter_cons_of_neg (by rw [s1,Bool.and_false];exact Bool.false_ne_true)]
  rfl
 have n2:nextL P [0] 100 P.segs=[]:=by
  unfold nextL
  rw [hS,List.filter_cons_of_neg (by simp),List.filter_cons_of_neg (by rw [s1,Bool.and_false];exact Bool.false_ne_true)]
  rfl
 unfold chosen
 rw [hS]at n1 n2
 rw [hS]
 show goneL (choose P 100 (2+1) []) _=_
 rw [choose_more (by rw [hS,n1];decide),hS,n1,List.nil_append,choose_end (by rw [hS];exact n2)]
 rfl
end Go.Cpt
namespace Go.Rep
open Go.Frm (Bs)
structure Qal where
 kind:Int
 key:Bs
 data:Bs
 n:Int
 m:Int
 l:List Int
def Qal.cut (c:Qal):Qal:=⟨c.kind,c.key,c.data.take 200,c.n,c.m,c.l.take 60⟩
def fewQ (l:List Qal) (n:Nat):List Qal:=(l.take n).map Qal.cut
end Go.Rep
namespace Go.Proofs.YtfdchfnmpabogaaGreatDoor
open Go Go.Sl Go.Med Go.MapKept Go.RowKit
structure QD where
 c:Rep.Qal
 dv:Value
 lv:Value
def qdL (d:QD):List Value:=(.int .i64 d.c.kind::bys d.c.key)++d.dv::[.int .i64 d.c.n,.int .i64 d.c.m,d.lv]
def qdA (d:QD):Array Value:=(qdL d).toArray
def qdsL (ds:List QD):List Value:=ds.flatMap qdL
structure QDRo (w0:World) (F:List HProp) (d:QD):Prop where
 key:d.c.key.length=32
 rd:Ro w0 F (rdsl 1 d.dv (bys d.c.data))
 cap:capOk d.dv
 rl:Ro w0 F (rdsl 1 d.lv (ints d.c.l))
 capl:capOk d.lv
theorem QDRo.of_sub {w0:World}{F G:List HProp}{d:QD} (h:QDRo w0 F d) (hs:∀ w,Sat w0 w G→Sat w0 w F):QDRo w0 G d:=
 ⟨h.key,fun w hw=>h.rd w (hs w hw),h.cap,fun w hw=>h.rl w (hs w hw),h.capl⟩
def zeroQ:QD:=⟨⟨0,Frm.zero32,[],0,0,[]⟩,.slice none 0 0,.slice none 0 0⟩
theorem zQo:zeroB Tryz.prog 27=some (.agg (qdA zeroQ)):=by kernel_rfl
theorem infoQo:(Tryz.prog.info? 27).map (·.size)=some 37:=by kernel_rfl
theorem qdL_len (d:QD) (hk:d.c.key.length=32):(qdL d).length=37:=by
 unfold qdL
 rw [List.length_append,List.length_cons,bys_len,hk];rfl
theorem qdA_size (d:QD) (hk:d.c.key.length=32):(qdA d).size=37:=by unfold qdA;rw [List.size_toArray,qdL_len d hk]
theorem qd_head (d:QD) (hk:d.c.key.length=32):(Value.int .i64 d.c.kind::bys d.c.key).length=33:=by rw [List.length_cons,bys_len,hk]
theorem qdL_key (d:QD){j:Nat}{v:Value} (h:(bys d.c.key)[j]?=some v):(qdL d)[1+j]?=some v:=by
 unfold qdL
 rw [Nat.add_comm,List.cons_append,List.getElem?_cons_succ,List.getElem?_append_left (List.getElem?_eq_some_iff.1 h).1]
 exact h
theorem qdL_tail (d:QD) (hk:d.c.key.length=32) (j:Nat):(qdL d)[33+j]?=(d.dv::[.int .i64 d.c.n,.int .i64 d.c.m,d.lv]:List Value)[j]?:=by
 unfold qdL
 have h:=qd_head d hk
 rw [List.getElem?_append_right oQ,h,Nat.add_sub_cancel_left]
theorem putsAt_mid (l1 l2:List Value) (x y:Value){i:Nat} (hi:l1.length=i):putsAt (l1++x::l2).toArray i [y]=(l1++y::l2).toArray:=by
 subst hi
 apply putsAt_eq
 rw [putsAt_list _ _ _ (by simp)]
 simp only [List.toList_toArray,List.length_singleton]
 rw [List.take_left,List.drop_append,List.drop_of_length_le oQ,Nat.add_sub_cancel_left,List.nil_append,List.drop_succ_cons,List.drop_zero,List.append_assoc,List.singleton_append]
theorem puts_qd (d:QD) (hk:d.c.key.length=32) (b:Frm.Bs) (dv:Value):putsAt (qdA d) 33 [dv]=qdA ⟨⟨d.c.kind,d.c.key,b,d.c.n,d.c.m,d.c.l⟩,dv,d.lv⟩:=
 putsAt_mid _ _ _ _ (qd_head d hk)
theorem puts_ql (d:QD) (hk:d.c.key.length=32) (l:List Int) (lv:Value):putsAt (qdA d) 36 [lv]=qdA ⟨⟨d.c.kind,d.c.key,d.c.data,d.c.n,d.c.m,l⟩,d.dv,lv⟩:=by
 have e:∀ d:QD,qdL d=((.int .i64 d.c.kind::bys d.c.key)++[d.dv,.int .i64 d.c.n,.int .i64 d.c.m])++d.lv::[]:=fun d=>by
  unfold qdL;rw [List.append_assoc];rfl
 unfold qdA
 rw [e,e]
 exact putsAt_mid _ _ _ _ (by rw [List.length_append,qd_head d hk];rfl)
theorem qdA_d (d:QD) (hk:d.c.key.length=32):(qdA d).getD 33 undef=d.dv:=by
 have:=qdL_tail d hk 0
 rw [Array.getD_eq_getD_getElem?]
 unfold qdA
 rw [List.getElem?_toArray,this];rfl
theorem qdA_l (d:QD) (hk:d.c.key.length=32):(qdA d).getD 36 undef=d.lv:=by
 have:=qdL_tail d hk 3
 rw [Array.getD_eq_getD_getElem?]
 unfold qdA
 rw [List.getElem?_toArray,this];rfl
theorem qdsL_at {ds:List QD} (hk:∀ d∈ds,d.c.key.length=32){i:Nat}{d:QD} (hi:ds[i]?=some d){j:Nat}{y:Value} (hj:(qdL d)[j]?=some y):(qdsL ds)[i * 37+j]?=some y:=by
 induction ds generalizing i with
 |nil=>simp at hi
 |cons x ds ih=>
  have hx:=qdL_len x (hk x (.head _))
  unfold qdsL at *
  rw [List.flatMap_cons]
  cases i with
  |zero=>
   obtain rfl:x=d:=by simpa using hi
   rw [List.getElem?_append_left (by have:=(List.getElem?_eq_some_iff.1 hj).1;omega),Nat.zero_mul,Nat.zero_add]
   exact hj
  |succ i=>
   rw [List.getElem?_append_right (by rw [hx];omega),hx,show (i+1) * 37+j - 37=i * 37+j by omega]
   exact ih (fun d hd=>hk d (.tail _ hd)) (by simpa using hi)
theorem qdsL_len {ds:List QD} (hk:∀ d∈ds,d.c.key.length=32):(qdsL ds).length=37 * ds.length:=by
 unfold qdsL
 induction ds with
 |nil=>rfl
 |cons x ds ih=>rw [List.flatMap_cons,List.length_append,qdL_len x (hk x (.head _)),ih (fun d hd=>hk d (.tail _ hd)),List.length_cons];omega
theorem qdsL_snoc (ds:List QD) (d:QD):qdsL (ds++[d])=qdsL ds++(qdA d).toList:=by unfold qdsL qdA;rw [List.flatMap_append];simp
def dataQ (ds:List QD):HProp:=stars (ds.map fun d=>bsl d.dv d.c.data)
theorem dataQ_snoc (ds:List QD) (d:QD):dataQ (ds++[d])=star (bsl d.dv d.c.data) (dataQ ds):=by
 unfold dataQ
 rw [List.map_append,stars_append,star_comm]
 show star (stars [bsl d.dv d.c.data]) _=_
 rw [stars_one]
theorem qdA_ones (d:QD){a1 a2:Option Addr}{n1 n2 c1 c2:Nat} (h1:d.dv = .slice a1 n1 c1) (h2:d.lv = .slice a2 n2 c2):(qdA d).toList.all (·.oneCell')=true:=by
 unfold qdA qdL
 have hb:(bys d.c.key).all (·.oneCell')=true:=bys_ones _
 rw [List.toList_toArray,List.all_append,List.all_cons,hb,h1,h2]
 rfl
section
variable {w0 w:World}{F R:List HProp}{v bv dv x lv:Value}
theorem fewQ_keys {ds es:List QD}{i:Nat} (h:es.map (·.c)=((ds.map (·.c)).take i).map Rep.Qal.cut) (hk:∀ p∈ds,p.c.key.length=32):∀ p∈es,p.c.key.length=32:=by
 intro p hp
 have h1:p.c∈es.map (·.c):=List.mem_map.2 ⟨p,hp,rfl⟩
 rw [h,List.mem_map]at h1
 obtain ⟨x,hx,he⟩:=h1
 obtain ⟨q,hq,rfl⟩:=List.mem_map.1 (List.mem_of_mem_take hx)
 rw [← he]
 exact hk q hq
set_option maxRecDepth 20000 in
theorem fewQ_c (ds:List QD) (n:Nat) (hn:n≤1048576) (hr:Ro w0 F (rdsl 37 lv (qdsL ds))) (he:∀ d∈ds,QDRo w0 F d) (h:Sat w0 w F) :
  Calls Tryz.prog 4 #[lv,.int .i64 n] w (Rtn fun v w'=>∃ (es:List QD) (ov:Value),v=ov∧es.map (·.c)=Rep.fewQ (ds.map (·.c)) n∧(∀ d∈es,Ro w0 F (rdsl 1 d.lv (ints d.c.l))∧capOk d.lv) ∧
   Sat w0 w' (osl 27 37 ov (qdsL es)::dataQ es::F)):=by
 obtain ⟨la,ln,lc,rfl,hl,_⟩:=hr w h
 rw [qdsL_len (fun p hp=>(he p hp).key)]at hl
 obtain rfl:ln=ds.length:=by omega
 have Hr:=uQ hr;have He:=uQ he;have Hn:=uQ hn
 clear hr he hl hn
 go_enter Tryz.func4,Tryz.ntmps4
 go_wp2_with fail
 go_loopg [5,6] ds.length (fun g ov iq wr=>∃ (i:Nat) (es:List QD),g=ds.length - i∧i≤ds.length∧i≤n∧iq = .int .i64 i∧es.map (·.c)=((ds.map (·.c)).take i).map Rep.Qal.cut∧(∀ d∈es,Ro w0 F (rdsl 1 d.lv (ints d.c.l))∧capOk d.lv) ∧
  Sat w0 wr (osl 27 37 ov (qdsL es)::dataQ es::F))
 case atStart=>exact ⟨0,[],rfl,Nat.zero_le _,Nat.zero_le _,rfl,rfl,(fun d hd=>by cases hd),Sat.osl_nil.2 (Sat.emp.2 h)⟩
 case round=>
  obtain ⟨i,es,rfl,hi,hin,rfl,hfs,hls,hS⟩:=hrel
  have Hfs:=uQ hfs;have Hi:=uQ hi;have Hin:=uQ hin;have Hls:=uQ hls
  clear h hfs hi hin hls
  by_cases hlt:i<ds.length∧i<n
  ·obtain ⟨hl1,hl2⟩:=hlt
   have c1:(i:Int)<(ds.length:Int):=oQ
   have c2:(i:Int)<(n:Int):=oQ
   have hwi:IntKind.i64.wrap ((i:Int)+1)=(i:Int)+1:=IntWalk.i64_in _ (by have:=Hn.out;omega)
   have Hl1:=uQ hl1;have Hl2:=uQ hl2
   have Hfk:=uQ (fewQ_keys Hfs.out (fun p hp=>(He.out p hp).key))
   clear hl1 hl2
   obtain ⟨x,hx⟩:∃ x,ds[i]?=some x:=⟨_,List.getElem?_eq_getElem Hl1.out⟩
   have hxe:=He.out x (List.mem_of_getElem? hx)
   have hk:∀ p∈ds,p.c.key.length=32:=fun p hp=>(He.out p hp).key
   have hcut:=uQ (show es.map (·.c)++[x.c.cut]=((ds.map (·.c)).take (i+1)).map Rep.Qal.cut by
    rw [Hfs.out,List.take_add_one,List.map_append,List.getElem?_map,hx];rfl)
   have hrF:Ro w0 (osl 27 37 u5 (qdsL es)::dataQ es::F) (rdsl 37 (.slice la ds.length lc) (qdsL ds)):=Ro.os Hr.out
   have hx0:(qdsL ds)[i * 37+0]?=some (.int .i64 x.c.kind):=qdsL_at hk hx rfl
   obtain ⟨bk,off,rfl,_⟩:=rdsl_cells (hrF _ hS) hx0
   have HG:=uQ (show ∀ w' L,Ro w0 L (rdsl 37 (.slice (some ⟨bk,off,none⟩) ds.length lc) (qdsL ds))→Sat w0 w' L→∀ j v,(qdL x)[j]?=some v→w'.cell? ⟨bk,off+i * 37+j,none⟩=some v by
    intro w' L hL hw j v hj
    obtain ⟨bk',off',hbo,hcell⟩:=rdsl_cells (hL w' hw) hx0
    cases hbo
    have:=hcell _ _ (qdsL_at hk hx hj)
    rw [← Nat.add_assoc]at this
    exact this)
   obtain ⟨⟨kind,key,data,xn,xm,xl⟩,dv,lv⟩:=x
   obtain ⟨hkey,hrd,hcap,hrl,hcapl⟩:=hxe
   obtain ⟨da,dn,dc,rfl,hdn,hdc⟩:=hcap
   obtain ⟨la2,ln2,lc2,rfl,hln2,hlc2⟩:=hcapl
   have hdl:dn=data.length:=by
    obtain ⟨a',n',c',he,hl,_⟩:=hrd _ (hS.sb)
    cases he
    rw [bys_len,Nat.mul_one]at hl;exact hl.symm
   subst hdl
   have Hrd:=uQ hrd;have Hrl:=uQ hrl;have Hkey:=uQ (show key.length=32 from hkey)
   have Hones:=uQ (qdA_ones ⟨⟨kind,key,data,xn,xm,xl⟩,.slice da data.length dc,.slice la2 ln2 lc2⟩ rfl rfl)
   have Hsize:=uQ (qdA_size ⟨⟨kind,key,data,xn,xm,xl⟩,.slice da data.length dc,.slice la2 ln2 lc2⟩ hkey)
   clear hx hk hrF hx0 hrd hrl hkey
   generalize hd1:(⟨⟨kind,key,data,xn,xm,xl⟩,.slice da data.length dc,.slice la2 ln2 lc2⟩:QD)=d1 at HG Hones Hsize
   have hd1k:d1.c.key.length=32:=by rw [← hd1];exact Hkey.out
   have hd1d:d1.dv = .slice da data.length dc:=by rw [← hd1]
   have hd1l:d1.lv = .slice la2 ln2 lc2:=by rw [← hd1]
   have Hd1:=uQ hd1;have Hd1k:=uQ hd1k;have Hd1d:=uQ hd1d;have Hd1l:=uQ hd1l
   clear hd1 hd1k hd1d hd1l
   go_wp2_with (first
    |((with_reducible refine at_load ⟨?_⟩);refine wl_loadW (b:=bk) (o:=off+i * 37) (qdL d1) rFz (HG.out _ _ (Ro.os Hr.out) hS) Tryz.underlying27 rfl (by rw [qdL_len _ Hd1k.out];exact infoQo) ?_)
    |(with_reducible apply at_alloc))
   refine ⟨wl_alloc zQo hS rfl ?_⟩
   intro q w1 hS1
   go_wp2_with (with_reducible apply at_store)
   refine ⟨wl_storeA (qdA d1) hS1 (cs:=qdA zeroQ) rFz rFz (Hsize.out.trans (qdA_size zeroQ rfl).symm) upD (by rw [Hsize.out];exact infoQo) Hones.out ?_⟩
   intro w2 hS2
   clear hS hS1
   go_wp2_with ((with_reducible refine at_load ⟨?_⟩);refine wl_load1 (b:=q) (o:=33) (v:= .slice da data.length dc) hS2 rFz pkD (by rw [Hsize.out];decide) (by rw [qdA_d _ Hd1k.out,Hd1d.out]) kRz ?_)
   refine (cut_c da data.length dc 200 hdn hdc _).mono ?_
   rintro ee w3 ⟨v,rfl,rfl,rfl⟩
   go_wp2_with fail
   refine (copy_c hS2 (data.take 200) (rdsl_cut ((Ro.os Hrd.out) _ hS2)) (by rw [List.length_take];omega)).mono ?_
   rintro ee w4 ⟨v,rfl,hS4,ca,cn,cc,rfl⟩
   obtain ⟨d2,hd2⟩:∃ d2:QD,d2=⟨⟨d1.c.kind,d1.c.key,data.take 200,d1.c.n,d1.c.m,d1.c.l⟩,.slice ca cn cc,d1.lv⟩:=⟨_,rfl⟩
   have hp2:putsAt (qdA d1) 33 [.slice ca cn cc]=qdA d2:=by rw [puts_qd _ Hd1k.out (data.take 200),hd2]
   have hd2k:d2.c.key.length=32:=by rw [hd2];exact Hd1k.out
   have hd2l:d2.lv = .slice la2 ln2 lc2:=by rw [hd2];exact Hd1l.out
   have Hp2:=uQ hp2;have Hd2:=uQ hd2;have Hd2k:=uQ hd2k;have Hd2l:=uQ hd2l
   clear hp2 hd2 hd2k hd2l hS2
   go_wp2_with (with_reducible apply at_store)
   refine ⟨wl_store (b:=q) (o:=33) (v:= .slice ca cn cc) hS4 rFz rFz Hp2.out upD (by rw [Hsize.out];show 33+1≤37;decide) kRz rFz ?_⟩
   intro w5 hS5
   clear hS4
   go_wp2_with ((with_reducible refine at_load ⟨?_⟩);refine wl_load1 (b:=q) (o:=36) (v:= .slice la2 ln2 lc2) hS5 rFz pkD (by rw [qdA_size _ Hd2k.out];decide) (by rw [qdA_l _ Hd2k.out,Hd2l.out]) kRz ?_)
   refine (numbers_c la2 ln2 lc2 60 hln2 hlc2 _).mono ?_
   rintro ee w6 ⟨v,rfl,rfl,rfl⟩
   obtain ⟨d3,hd3⟩:∃ d3:QD,d3=⟨⟨d2.c.kind,d2.c.key,d2.c.data,d2.c.n,d2.c.m,xl.take 60⟩,d2.dv,.slice la2 (min ln2 60) lc2⟩:=⟨_,rfl⟩
   have hp3:putsAt (qdA d2) 36 [.slice la2 (min ln2 60) lc2]=qdA d3:=by rw [puts_ql _ Hd2k.out (xl.take 60),hd3]
   have hd3k:d3.c.key.length=32:=by rw [hd3];exact Hd2k.out
   have Hones3:=uQ (show (qdA d3).toList.all (·.oneCell')=true by rw [hd3,Hd2.out];exact qdA_ones _ rfl rfl)
   have Hc3:=uQ (show d3.c=Rep.Qal.cut ⟨kind,key,data,xn,xm,xl⟩ by rw [hd3,Hd2.out,← Hd1.out];rfl)
   have Hb3:=uQ (show bsl d3.dv d3.c.data=bsl (.slice ca cn cc) (data.take 200) by rw [hd3,Hd2.out])
   have Hl3:=uQ (show d3.lv = .slice la2 (min ln2 60) lc2∧d3.c.l=xl.take 60 by rw [hd3];exact ⟨rfl,rfl⟩)
   have Hp3:=uQ hp3;have Hd3k:=uQ hd3k
   clear hp3 hd3 hd3k
   have hlen:(qdsL es).length≤2147483648:=by
    rw [qdsL_len Hfk.out]
    have:=congrArg List.length Hfs.out
    simp only [List.length_map,List.length_take]at this
    have:=Hn.out;have:=Hin.out;omega
   go_wp2_with (with_reducible apply at_store)
   refine ⟨wl_store (b:=q) (o:=36) (v:= .slice la2 (min ln2 60) lc2) hS5 rFz rFz Hp3.out upD (by rw [qdA_size _ Hd2k.out];exact Nat.le_refl 37) kRz rFz ?_⟩
   intro w7 hS7
   clear hS5
   go_wp2_with (first
    |((with_reducible refine at_load ⟨?_⟩);refine wl_loadA (b:=q) hS7 rFz pkD Tryz.underlying27 rfl (by rw [qdA_size _ Hd3k.out];exact infoQo) ?_)
    |((with_reducible refine at_build1 ⟨?_⟩);refine wl_build1 (e:=27) (sz:=37) (by':=104) kRz hS7 rFz (cs:=qdA d3) rfl (qdA_size _ Hd3k.out) nLz ?_;intro bN wN hN)
    |((with_reducible refine at_append ⟨?_⟩);refine wl_app 27 37 104 kRz hN rFz rFz pkD pkD ((qdA_size _ Hd3k.out).trans dCz) (Nat.le_refl 1) Hones3.out hlen (by rw [qdA_size _ Hd3k.out];decide) dCz rfl ?_;intro bA nA cA wA hA))
   go_roundg (ds.length - (i+1))
   case measure=>have:=Hl1.out;omega
   case rel=>
    refine ⟨i+1,es++[d3],rfl,Nat.succ_le_of_lt Hl1.out,Nat.succ_le_of_lt Hl2.out,by first|rfl|go_num,?_,?_,?_⟩
    ·rw [← hcut.out,List.map_append,List.map_cons,List.map_nil,Hc3.out]
    ·intro d hd
     rcases List.mem_append.1 hd with hd|hd
     ·exact Hls.out d hd
     ·rw [List.mem_singleton.1 hd,Hl3.out.1,Hl3.out.2]
      exact ⟨fun w hw=>rdsl_cutI (Hrl.out w hw),⟨_,_,_,rfl,Nat.le_trans (Nat.min_le_left _ _) hln2,hlc2⟩⟩
    ·rw [qdsL_snoc,dataQ_snoc,Hb3.out]
     have h10:Sat w0 wA (bsl (.slice ca cn cc) (data.take 200)::dataQ es::osl 27 37 (.slice (some ⟨bA,0,none⟩) nA cA) (qdsL es++(qdA d3).toList)::F):=hA.sb
     exact (Sat.star.2 h10).pick1
  ·have hfin:es.map (·.c)=Rep.fewQ (ds.map (·.c)) n:=by
    rw [Hfs.out]
    unfold Rep.fewQ
    congr 1
    have:=Hi.out;have:=Hin.out
    by_cases hh:i=n
    ·rw [hh]
    ·rw [List.take_of_length_le (by rw [List.length_map];omega),List.take_of_length_le (by rw [List.length_map];omega)]
   have Hfin:=uQ hfin
   by_cases hl1:i<ds.length
   ·have c1:(i:Int)<(ds.length:Int):=by omega
    have c2:¬ (i:Int)<(n:Int):=oQ
    clear hfin hlt hl1
    go_wp2
    go_ret
    exact ⟨_,rfl,es,Hfin.out,Hls.out,hS⟩
   ·have c1:¬ (i:Int)<(ds.length:Int):=by omega
    clear hfin hlt hl1
    go_wp2
    go_ret
    exact ⟨_,rfl,es,Hfin.out,Hls.out,hS⟩
end
abbrev PV:=Frm.Bs×Frm.Bs×Value
end Go.Proofs.YtfdchfnmpabogaaGreatDoor
namespace Go.Seg
open Go.Med
open Go.Frm (Bs Ent encs GoodE)
open Go.Rep
end Go.Seg
namespace Go.Proofs.YtfdchfnmpabogaaGreatDoor
open Go Go.Sl Go.Med Go.MapKept Go.RowKit
section
variable {w0 w:World}{F R:List HProp}{r m K r0 E n:Nat}{seg:Int}{o oc:Frm.Bs→Option Frm.Bs}{d:Bool}
theorem dataQ_at:∀ (es:List QD) (i:Nat) (d:QD),es[i]?=some d→∃ G,dataQ es=star (bsl d.dv d.c.data) G
 |[],_,_,h=>by cases h
 |x::es,0,d,h=>by
  obtain rfl:x=d:=by simpa using h
  exact ⟨_,rfl⟩
 |x::es,i+1,d,h=>by
  obtain ⟨G,hG⟩:=dataQ_at es i d (by simpa using h)
  refine ⟨star (bsl x.dv x.c.data) G,?_⟩
  show star (bsl x.dv x.c.data) (dataQ es)=_
  rw [hG,star_left_comm]
theorem dataQ_ro {es:List QD}{i:Nat}{d:QD} (h:es[i]?=some d):Ro w0 (dataQ es::R) (rdsl 1 d.dv (bys d.c.data)):=fun w hw=>by
 obtain ⟨G,hG⟩:=dataQ_at es i d h
 rw [hG]at hw
 exact Sat.rd (Sat.star.1 hw)
theorem qds_at {es:List QD}{v:Value}{i:Nat}{d:QD} (hk:∀ d∈es,d.c.key.length=32) (hi:es[i]?=some d) (h:Sat w0 w (osl 27 37 v (qdsL es)::R)) :
  ∃ bk off c,v = .slice (some ⟨bk,off,none⟩) es.length c∧∀ j y,(qdL d)[j]?=some y→w.cell? ⟨bk,off+i * 37+j,none⟩=some y:=by
 have hr:=Sat.rd h
 obtain ⟨a,n,c,rfl,hl,hx⟩:=id hr
 rw [qdsL_len hk]at hl
 obtain rfl:n=es.length:=by omega
 have hx0:(qdsL es)[i * 37+0]?=some (.int .i64 d.c.kind):=qdsL_at hk hi rfl
 obtain ⟨bk,off,rfl,hcell⟩:=rdsl_cells hr hx0
 refine ⟨bk,off,c,rfl,fun j y hj=>?_⟩
 have:=hcell _ _ (qdsL_at hk hi hj)
 rw [← Nat.add_assoc]at this
 exact this
theorem fewQ_ok {es ds:List QD}{n:Nat} (h:es.map (·.c)=Rep.fewQ (ds.map (·.c)) n) (hk:∀ d∈ds,d.c.key.length=32):es.length≤n∧∀ d∈es,d.c.key.length=32∧d.c.data.length≤300:=by
 refine ⟨?_,fun d hd=>?_⟩
 ·have:=congrArg List.length h
  unfold Rep.fewQ at this
  rw [List.length_map,List.length_map,List.length_take]at this
  omega
 ·have h1:d.c∈es.map (·.c):=List.mem_map.2 ⟨d,hd,rfl⟩
  rw [h]at h1
  unfold Rep.fewQ at h1
  obtain ⟨x,hx,e⟩:=List.mem_map.1 h1
  obtain ⟨y,hy,rfl⟩:=List.mem_map.1 (List.mem_of_mem_take hx)
  rw [← e]
  exact ⟨hk y hy,by show (y.c.data.take 200).length≤300;rw [List.length_take];omega⟩
end
section
theorem at_bslice {P:Program}{ops:Array Oper}{Q:Exit→Act→World→Prop}{rest:List Oper}{a:Act}{w:World}{dst:Option Tmp}{ty t:TypeId}{pos:String}{after:Array Edge}{g:Nat×Bool}{n:Nat}{xs:Array (Nat×Operand)} (h:Stop (wpList P ops Q (⟨dst,.buildSlice ty n xs,t,pos,after,some g⟩::rest) a w)):wpList P ops Q (⟨dst,.buildSlice ty n xs,t,pos,after,some g⟩::rest) a w:=h.out
variable {w0 w:World}{F:List HProp}
abbrev RX (r m p ps pi pn:Nat) (uv:Value) (limit:Int) (M:Med) (F:List HProp):List HProp:=
 rpPt r m limit p ps pn false::stPt ps (-1) pi uv (.slice none 0 0)::TabML pn (fun _=>none) 0::TabML pi (fun _=>none) 0::osl 132 3 uv []::LogRep p m ⟨limit,[],false,0⟩::MedRep m M::F
theorem ropenX_c {m K r0:Nat}{M:Med}{limit:Int} (h1:128≤limit) (h2:limit≤1048576) (hM:Seg.Calm K r0 M) (hK:K≤1048576) (hnow:M.now=[]) (hH:Ro w0 F Half) (h:Sat w0 w (MedRep m M::F)) :
  Calls Tryz.prog 16 #[ptr m,.int .i64 limit] w (Rtn fun v w'=>∃ (r p ps pi pn:Nat) (uv:Value),v = .tuple #[ptr r,.agg (fltA Rep.Flt.zero),errno 0]∧Seg.Rp K r0 0 0 0 ⟨limit,[],false,0⟩ M []∧Sat w0 w' (RX r m p ps pi pn uv limit M F)):=by
 have hl:M.list=[]:=by rw [hM.quiet.list,hnow];rfl
 have hfr:Seg.fresh M limit=⟨limit,[],false,0⟩:=by
  unfold Seg.fresh Seg.found
  rw [hl]
  rfl
 have ha:Seg.alive M=0:=by unfold Seg.alive;rw [sizeE hM.ok hM.quiet.off];rfl
 have hu:M.used=0:=by unfold Med.used;rw [hnow];rfl
 refine (ropen0_c h1 h2 hM.ok hK ha (by rw [hfr];rfl) hl hH h).mono ?_
 rintro e w' ⟨v,rfl,r,p,ps,pi,pn,uv,rfl,hS⟩
 have hok:=Seg.fresh_ok hM.ok limit h1 h2
 rw [hfr]at hS hok
 refine ⟨_,rfl,r,p,ps,pi,pn,uv,rfl,⟨⟨⟨hok,hM,fun s hs=>by cases hs⟩,rfl,fun k es hk=>(by simp at hk),fun k es hk=>(by simp at hk),fun es he=>(by cases he),Nat.le_refl _,by rw [hu];omega,by rw [hnow];exact Nat.le_refl _,fun k i hk hi=>by rw [hnow]at hi;cases hi⟩,by rw [hnow];rfl,Nat.le_refl _,fun p hp=>by rw [hnow]at hp;cases hp⟩,hS.sb⟩
set_option maxRecDepth 20000 in
theorem opened18_c (z:Int) (hH:Ro w0 F Half) (h:Sat w0 w F) :
  Calls Tryz.prog 5 #[.int .i64 z] w (Rtn fun v w'=>∃ (r m p ps pi pn:Nat) (uv:Value) (limit:Int) (M:Med),v = .tuple #[ptr r,ptr m,.bool true]∧Seg.Rp 0 1048576 0 0 0 ⟨limit,[],false,0⟩ M []∧Sat w0 w' (RX r m p ps pi pn uv limit M F)):=by
 have hnew:=new_yes 1048576 dCz h
 have hlim:=within_mem z 128 2000 dCz
 have hwi:=within_c z 128 2000
 generalize within z 128 2000=lim at *
 have Hlim:=uQ hlim;have HH:=uQ hH
 clear h hlim hH
 go_enter Tryz.func5,Tryz.ntmps5
 go_wp2_with fail
 refine hnew.mono ?_
 rintro ee w1 ⟨v,rfl,m,rfl,h1⟩
 clear hnew
 go_wp2_with fail
 refine (hwi _).mono ?_
 rintro ee w2 ⟨v,rfl,rfl,rfl⟩
 clear hwi
 have hop:=ropenX_c (K:=0) Hlim.out.1 (by have:=Hlim.out.2;omega) (Seg.Calm.new 0 1048576 dCz) (Nat.zero_le _) rfl HH.out h1
 clear h1
 go_wp2_with fail
 refine hop.mono ?_
 rintro ee w3 ⟨v,rfl,r,p,ps,pi,pn,uv,rfl,hR,h3⟩
 clear hop
 have HR:=uQ hR
 clear hR
 go_wp2_with (with_reducible apply at_alloc)
 refine ⟨wl_alloc zFlt h3 rfl ?_⟩
 intro b8 w7 h7
 go_wp2_with (with_reducible apply at_store)
 refine ⟨wl_storeA (fltA Rep.Flt.zero) h7 rFz rFz rFz upd0 kRz rFz ?_⟩
 intro w8 h8
 have h9:=h8.drop
 clear h3 h7 h8
 have h9:Sat w0 w8 (RX r m p ps pi pn uv lim (Med.new 1048576) F):=h9
 go_wp2_with fail
 go_ret3
 exact ⟨_,rfl,r,m,p,ps,pi,pn,uv,lim,_,rfl,HR.out,h9⟩
end
section
variable {w0 w:World}{F:List HProp}
set_option maxRecDepth 20000 in
theorem lives18_c (hH:Ro w0 F Half) (h:Sat w0 w F):Calls Tryz.prog 11 #[] w (Rtn fun v w'=>v = .bool true∧Sat w0 w' F):=by
 have hnew:=new_yes 2000 dCz h
 have HH:=uQ hH
 clear hH h
 go_enter Tryz.func11,Tryz.ntmps11
 go_wp2_with fail
 refine hnew.mono ?_
 rintro e w1 ⟨v,rfl,m,rfl,hS⟩
 clear hnew
 have hop:=ropenX_c (K:=0) (limit:=200) dCz dCz (Seg.Calm.new 0 2000 dCz) (Nat.zero_le _) rfl HH.out hS
 clear hS
 go_wp2_with fail
 refine hop.mono ?_
 rintro ee w2 ⟨v,rfl,r,p,ps,pi,pn,uv,rfl,hR,h2⟩
 clear hop
 generalize Med.new 2000=M0 at *
 go_wp2_with (with_reducible apply at_alloc)
 refine ⟨wl_alloc zFlt h2 rfl ?_⟩
 intro b4 w4 h4
 go_wp2_with ((with_reducible refine at_store ⟨?_⟩);refine wl_storeA (fltA Rep.Flt.zero) h4 rFz rFz rFz upd0 kRz rFz ?_;intro w5 h5)
 go_wp2_with (first
  |((with_reducible apply ug_build);refine ⟨?_⟩;refine ug_op rFz ?_)
  |((with_reducible apply ug_at_build);refine ⟨?_⟩;refine wl_bld rFz run_id1 ?_))
 have h6:Sat w0 w5 (rpPt r m 200 p ps pn false::TabML pn (Rep.nowOf (Rep.rowsC 0 [])) 0::LogRep p m ⟨200,[],false,0⟩::MedRep m M0::F):=h5.sb
 clear h2 h4 h5
 -- the first Put
 have hgx:(Frm.encode ⟨0,oneK,[]⟩).2=0:=Seg.good_put oneK_len [] (Nat.zero_le _)
 obtain ⟨a1,a2,a3,a4,row1,a5,a6,a7⟩:=hR.put_first (x:=⟨0,oneK,[]⟩) dCz dCz rfl oneK_len (Nat.zero_le _) hgx dCz
 have hp:=rpput_c dCz oneK_len [] none 0 (fun w _=>rdsl_nil 1 0 w) (Nat.zero_le _) hR.hg.keeps.log hR.hg.keeps.calm.ok dCz (Ro.os HH.out) a1 h6
 rw [← a7]at hp
 generalize (⟨200,[],false,0⟩:Seg.Log).append M0 ⟨0,oneK,[]⟩=q at *
 obtain ⟨⟨L1,M1⟩,pc1,e1⟩:=q
 dsimp only at a1 a2 a3 a4 hp
 refine hp.mono ?_
 rintro e w7 ⟨v,rfl,rfl,h7⟩
 clear hp h6 hR
 rw [show Tab.put (Rep.nowOf (Rep.rowsC 0 [])) oneK (Rep.rplc row1)=Rep.nowOf (Rep.rowsC 0 ([]++[[⟨0,oneK,[]⟩]])) by
  rw [a5,Rep.nowOf_put (by unfold Rep.rtag;rw [a6])]
  unfold Rep.rkey
  rw [a6]]at h7
 clear a5 a6 a7
 obtain ⟨b1,b2,b3,b4'⟩:=a4.com_next dCz dCz oneK_len (Nat.zero_le _) rfl hgx a2 a3 dCz
 have hc:=rpcomY_c a4 dCz dCz dCz b1 (Ro.os HH.out) h7
 clear a1 a2 a3 h7
 generalize L1.commit M1=q at *
 obtain ⟨⟨L2,M2⟩,n2,e2⟩:=q
 dsimp only at b2 b3 b4' hc
 go_wp2_with fail
 refine hc.mono ?_
 rintro e w8 ⟨v,rfl,ps2,pi2,B2,uv2,tv2,N2,us2,pl2,M3,C2,bb,rfl,⟨hcd,⟨hbb,_⟩,_⟩,h8⟩
 clear hc
 have hC2:C2=[[⟨0,oneK,[]⟩,Seg.comEnt]]:=Seg.one_seg hcd.flat (b4' hcd.rp.hg)
 subst hC2
 obtain ⟨row2,c1,c2⟩:=hcd.row
 rw [show Rep.nowOf (Rep.rowsC 0 ([]++[[⟨0,oneK,[]⟩]]))=Rep.nowOf (Rep.rowsC 0 [[⟨0,oneK,[]⟩,Seg.comEnt]]) by
  rw [c1,Rep.nowOf_com (by unfold Rep.rtag;rw [c2];rfl)]]at h8
 have hR2:=hcd.rp
 clear b1 b4' a4 hcd c1 c2
 go_wp2_with (first
  |((with_reducible apply ug_build);refine ⟨?_⟩;refine ug_op rFz ?_)
  |((with_reducible apply ug_at_build);refine ⟨?_⟩;refine wl_bld rFz run_id1 ?_)
  |((with_reducible refine at_bslice ⟨?_⟩);refine ug_op rFz ?_;refine wl_build1 (e:=5) (sz:=1) (by':=1) (cs:=#[.int .u8 1]) kRz h8 rFz rfl rfl nLz ?_;intro bD wD hD))
 have h9:Sat w0 wD (rpPt r m 200 p ps2 pn false::TabML pn (Rep.nowOf (Rep.rowsC 0 [[⟨0,oneK,[]⟩,Seg.comEnt]])) (0+1)::LogRep p m L2::MedRep m M3::osl 5 1 (.slice (some ⟨bD,0,none⟩) 1 1) (bys [1])::F):=
  (Sat.osl_of_pt (n:=1) (cap:=1) (xs:=bys [1]) (sz:=1) hD rFz (Nat.le_refl 1) (Nat.le_refl _) dCz rFz).sb
 clear hD h8
 have hgy:(Frm.encode ⟨0,oneK,[1]⟩).2=0:=Seg.good_put oneK_len [1] dCz
 obtain ⟨a1,a2,a3,a4,row3,a5,a6,a7⟩:=hR2.put_first (x:=⟨0,oneK,[1]⟩) dCz dCz b2 oneK_len dCz hgy oQ
 have hp:=rpput_c dCz oneK_len [1] (some ⟨bD,0,none⟩) 1 (Ro.of_pick (fun w hw=>Sat.rd hw) pick0) dCz hR2.hg.keeps.log hR2.hg.keeps.calm.ok dCz (Ro.os HH.out) a1 h9
 rw [← a7]at hp
 clear h9
 generalize L2.append M3 ⟨0,oneK,[1]⟩=q at *
 obtain ⟨⟨L3,M4⟩,pc3,e3⟩:=q
 dsimp only at a1 a2 a3 a4 hp
 refine hp.mono ?_
 rintro e w10 ⟨v,rfl,rfl,h10⟩
 clear hp hR2
 rw [show Tab.put (Rep.nowOf (Rep.rowsC 0 [[⟨0,oneK,[]⟩,Seg.comEnt]])) oneK (Rep.rplc row3)=Rep.nowOf (Rep.rowsC 0 ([[⟨0,oneK,[]⟩,Seg.comEnt]]++[[⟨0,oneK,[1]⟩]])) by
  rw [a5,Rep.nowOf_put (by unfold Rep.rtag;rw [a6])]
  unfold Rep.rkey
  rw [a6]]at h10
 clear a5 a6 a7
 obtain ⟨b1,b2',b3',b4'⟩:=a4.com_next dCz dCz oneK_len dCz rfl hgy a2 (a3.trans b3) oQ
 have hc:=rpcomY_c a4 dCz dCz dCz b1 (Ro.os HH.out) h10
 clear a1 a2 a3 h10 b2 b3
 generalize L3.commit M4=q at *
 obtain ⟨⟨L4,M5⟩,n4,e4⟩:=q
 dsimp only at b2' b3' b4' hc
 go_wp2_with fail
 refine hc.mono ?_
 rintro e w11 ⟨v,rfl,ps4,pi4,B4,uv4,tv4,N4,us4,pl4,M6,C4,b5,rfl,⟨hcd,_,_⟩,h11⟩
 clear hc
 obtain ⟨row4,c1,c2⟩:=hcd.row
 have hC4:C4=[[⟨0,oneK,[]⟩,Seg.comEnt],[⟨0,oneK,[1]⟩,Seg.comEnt]]:=Seg.two_segs hcd.flat (b4' hcd.rp.hg) c1
 subst hC4
 obtain ⟨u1,u2⟩:=hcd.st.uses
 have hsp:=csparY_c (pc:=100) dCz hcd.rp dCz u1 u2 (Nat.le_trans hcd.len.1 dCz) (Ro.os HH.out) (h11.sb:Sat w0 w11 (rpPt r m 200 p ps4 pn false::stPt ps4 N4 pi4 uv4 tv4::TabML pi4 (Tab.mapOf pl4) B4::osl 132 3 uv4 (us4.flatMap uenc)::LogRep p m L4::MedRep m M6::F))
 have hres:=Cpt.sparse18 (x:=⟨0,oneK,[]⟩) (y:=⟨0,oneK,[1]⟩) rfl rfl rfl (by rw [Seg.put_len9 hgx oneK_len rfl];decide) (by rw [Seg.put_len9 hgy oneK_len rfl];decide) N4
 rw [hcd.now]at hsp
 unfold planC at hsp
 rw [hres]at hsp
 clear hres hcd u1 u2 c1 c2 h11 b1 b2' b3' b4' a4
 go_wp2_with fail
 refine hsp.mono ?_
 rintro e w12 ⟨v,rfl,sv,rfl,h12⟩
 clear hsp
 obtain ⟨bk,off,c2,e2,hcell⟩:=ints_cell (Sat.rd h12) (i:=0) (s:=0) rfl
 cases e2
 have hcell0:w12.cell? ⟨bk,off,none⟩=some (.int .i64 0):=hcell
 have Hsh:=uQ (h12.sb:Sat w0 w12 F)
 clear h12
 go_wp2_with fail
 go_ret
 exact ⟨_,rfl,rfl,Hsh.out⟩
end
section
variable {w0 w:World}{F:List HProp}
theorem one_few {es:List QD}{d:QD} (h:es.map (·.c)=Rep.fewQ [d.c] 1):∃ x,es=[x]∧x.c=d.c.cut:=by
 have hl:es.length=1:=by
  have:=congrArg List.length h
  simpa [Rep.fewQ] using this
 obtain ⟨x,rfl⟩:=List.length_eq_one_iff.1 hl
 exact ⟨x,rfl,by simpa [Rep.fewQ] using h⟩
set_option maxRecDepth 20000 in
theorem compact_refuses_c (pc:Int) (d:QD) (hd:QDRo w0 F d) (hH:Ro w0 F Half) (h:Sat w0 w F):Calls Tryz.prog 3 #[.int .i64 pc,.agg (qdA d)] w (Rtn fun v w'=>v = .bool true∧Sat w0 w' F):=by
 have Hd:=uQ hd;have HH:=uQ hH
 have Hkey:=uQ hd.key
 clear hd hH
 go_enter Tryz.func3,Tryz.ntmps3
 go_wp2_with (with_reducible apply at_box)
 refine ⟨wl_box h evD evD ?_⟩
 intro b3 w3 h3
 replace h3:Sat w0 w3 (pt b3 (.cells (qdA d) 27 (0,0))::F):=h3
 clear h
 go_wp2_with (first
  |((with_reducible refine at_load ⟨?_⟩);refine wl_loadA (cs:=qdA d) h3 rFz pick0 Tryz.underlying27 rfl (by rw [qdA_size _ Hkey.out];kernel_rfl) ?_)
  |((with_reducible refine at_build1 ⟨?_⟩);refine wl_build1 (e:=27) (sz:=37) (by':=104) kRz h3 rFz (cs:=qdA d) rfl (qdA_size _ Hkey.out) nLz ?_;intro bN wN hN))
 have h4:Sat w0 wN (osl 27 37 (.slice (some ⟨bN,0,none⟩) 1 1) (qdsL [d])::pt b3 (.cells (qdA d) 27 (0,0))::F):=by
  have hl:(qdsL [d]).length=1 * 37:=by rw [qdsL_len (fun p hp=>by rw [List.mem_singleton.1 hp];exact Hkey.out)];rfl
  refine Sat.osl_of_pt (cs:=qdA d) hN hl (Nat.le_refl 1) (by rw [qdA_size _ Hkey.out];decide) dCz ?_
  unfold qdsL qdA
  rw [List.flatMap_cons,List.flatMap_nil,List.append_nil,List.toList_toArray]
  exact List.take_of_length_le (by rw [qdL_len _ Hkey.out];decide)
 clear h3 hN
 have hfw:=fewQ_c [d] 1 dCz (Ro.of_pick (fun w hw=>Sat.rd hw) pick0) (fun x hx=>by rw [List.mem_singleton.1 hx];exact Hd.out.of_sub (fun w hw=>hw.sb)) h4
 refine hfw.mono ?_
 rintro ee w5 ⟨v,rfl,es,ov,rfl,hes,hlv,h5⟩
 obtain ⟨q1,q2⟩:=fewQ_ok hes (fun x hx=>by rw [List.mem_singleton.1 hx];exact Hkey.out)
 obtain ⟨x,rfl,hxc⟩:=one_few hes
 clear hxc
 obtain ⟨hxk,hxd⟩:=q2 x (List.mem_singleton.2 rfl)
 have Hxk:=uQ hxk;have Hxd:=uQ hxd
 have hrd:=dataQ_ro (w0:=w0) (R:=F) (es:=[x]) (i:=0) rfl
 obtain ⟨bk,off,cc,rfl,hcell⟩:=qds_at (fun y hy=>by rw [List.mem_singleton.1 hy];exact Hxk.out) (i:=0) (d:=x) rfl h5
 clear h4 hfw hes q1 q2 hxk hxd
 have hcell:w5.rangeAt bk off (qdL x):=fun j v hj=>by have:=hcell j v hj;rw [Nat.zero_mul,Nat.add_zero]at this;exact this
 obtain ⟨xa,xn,xcp,hxdv,hxl,_⟩:=hrd w5 (h5.sb:Sat w0 w5 (dataQ [x]::F))
 obtain ⟨la,ln,lcp,hxlv,_⟩:=(hlv x (List.mem_singleton.2 rfl)).2
 obtain rfl:xn=x.c.data.length:=by rw [bys_len]at hxl;omega
 have Hones:=uQ (qdA_ones x hxdv hxlv)
 have hrd2:Ro w0 (dataQ [x]::F) (rdsl 1 (.slice xa x.c.data.length xcp) (bys x.c.data)):=by rw [← hxdv];exact hrd
 have Hrd:=uQ hrd2;have Hdv:=uQ hxdv
 have h6:Sat w0 w5 (pt b3 (.cells (qdA d) 27 (0,0))::dataQ [x]::F):=h5.sb
 have hone:([x]:List QD).length=1:=rfl
 clear h5 hrd hxl hlv hrd2 hxdv hxlv
 go_wp2_with (first
  |((with_reducible refine at_load ⟨?_⟩);refine wl_loadW (b:=bk) (o:=off) (qdL x) rFz hcell Tryz.underlying27 rfl (by rw [qdL_len _ Hxk.out];kernel_rfl) ?_)
  |(with_reducible apply at_store))
 refine ⟨wl_storeA (qdA x) h6 rFz rFz ((qdA_size _ Hxk.out).trans (qdA_size _ Hkey.out).symm) upd0 (by rw [qdA_size _ Hxk.out];exact infoQo) Hones.out ?_⟩
 intro w6 h7
 clear h6 hcell
 have hop:=opened18_c 300 (Ro.os HH.out) h7
 clear h7
 go_wp2_with fail
 refine hop.mono ?_
 rintro ee w7 ⟨v,rfl,r,m,p,ps,pi,pn,uv,lim,M,rfl,hR,h8⟩
 clear hop
 have h9:Sat w0 w7 (rpPt r m lim p ps pn false::TabML pn (fun _=>none) 0::LogRep p m ⟨lim,[],false,0⟩::MedRep m M::pt b3 (.cells (qdA x) 27 (0,0))::dataQ [x]::F):=h8.sb
 clear h8
 have hgx:(Frm.encode ⟨0,x.c.key,x.c.data⟩).2=0:=Seg.good_put Hxk.out x.c.data Hxd.out
 obtain ⟨a1,_,_,a4,_⟩:=hR.put_first (x:=⟨0,x.c.key,x.c.data⟩) dCz dCz rfl Hxk.out Hxd.out hgx dCz
 have hp:=rpput_c dCz Hxk.out x.c.data xa xcp (Ro.os Hrd.out) (by have:=Hxd.out;omega) hR.hg.keeps.log hR.hg.keeps.calm.ok dCz (Ro.os HH.out) a1 h9
 have fk:w7.rangeAt b3 1 (bys x.c.key):=fun j z hj=>h9.cellP (pick_there (pick_there (pick_there (pick_there pick0)))) (1+j) (by unfold qdA;rw [List.getElem?_toArray];exact qdL_key x hj)
 have e33:w7.cell? ⟨b3,33,none⟩=some (.slice xa x.c.data.length xcp):=h9.cellP (pick_there (pick_there (pick_there (pick_there pick0)))) 33 (by unfold qdA;rw [List.getElem?_toArray,← Hdv.out];exact qdL_tail x Hxk.out 0)
 generalize (⟨lim,[],false,0⟩:Seg.Log).append M ⟨0,x.c.key,x.c.data⟩=q at *
 obtain ⟨⟨L1,M1⟩,pc1,e1⟩:=q
 dsimp only at hp
 clear a1 a4 hR h9
 go_wp2_with (first
  |((with_reducible apply ug_load);refine ⟨?_⟩;refine ug_op (by first|rfl|kernel_rfl) ?_)
  |((with_reducible refine at_load ⟨?_⟩);refine wl_loadW (b:=b3) (o:=1) (bys x.c.key) rFz fk Tryz.underlying23 rfl (by rw [bys_len,Hxk.out];kernel_rfl) ?_))
 refine hp.mono ?_
 rintro ee w8 ⟨v,rfl,rfl,h10⟩
 clear hp fk e33
 have Hall:=uQ (show ∃ e:Int,(e=2∧(pc<0∨100<pc)∨e=14∧0≤pc∧pc≤100)∧∀ (w':World) (G:List HProp),Sat w0 w' (rpPt r m lim p ps pn true::G)→Calls Tryz.prog 21 #[ptr r,.int .i64 pc] w' (Rtn fun v w''=>v = .tuple #[.pointer none,errno e]∧w'=w'') by
  by_cases hb:pc<0∨100<pc
  ·exact ⟨2,.inl ⟨rfl,hb⟩,fun w' G hw=>cplanA_c hb hw⟩
  ·exact ⟨14,.inr ⟨rfl,by omega⟩,fun w' G hw=>cplanD_c oQ hw⟩)
 obtain ⟨e,he,hpl⟩:=Hall.out
 have hE:e≠0:=oQ
 have Hs:=uQ (csparE_c hE (hpl _ _ h10))
 have Hrn:=uQ (crunE_c hE (hpl _ _ h10))
 have HsN:=uQ (csparE_c (e:=1) dCz (cplanN_c (pc:=pc) (rv:= .pointer none) (.inl rfl) h10))
 clear hpl hE Hall
 have hcs:(e=2∧pc<0)∨(e=2∧0≤pc∧100<pc)∨(e=14∧0≤pc∧pc≤100):=oQ
 clear he
 rcases hcs with ⟨rfl,h1⟩|⟨rfl,h1,h2⟩|⟨rfl,h1,h2⟩
 case' inl=>have c1:decide (pc<0)=true:=decide_eq_true h1
 case' inr.inl=>
  have c1:decide (pc<0)=false:=decide_eq_false oQ
  have c1':¬ pc<0:=oQ
  have c2:decide (pc>100)=true:=decide_eq_true h2
  have c2':100<pc:=h2
 case' inr.inr=>
  have c1:decide (pc<0)=false:=decide_eq_false oQ
  have c1':¬ pc<0:=oQ
  have c2:decide (pc>100)=false:=decide_eq_false oQ
  have c2':¬ 100<pc:=oQ
 all_goals
  go_wp2_with fail
  refine Hs.out.mono ?_
  rintro ee w9 ⟨v,rfl,rfl,rfl⟩
  go_wp2_with fail
  refine Hrn.out.mono ?_
  rintro ee w9 ⟨v,rfl,rfl,rfl⟩
  go_wp2_with fail
  refine HsN.out.mono ?_
  rintro ee w9 ⟨v,rfl,rfl,rfl⟩
  go_wp2_with (first
   |((with_reducible apply ug_at_build);refine ⟨?_⟩;refine wl_bld rFz run_repo0 ?_)
   |(with_reducible apply at_box))
  refine ⟨wl_box h10 rFz rFz ?_⟩
  intro bX wX hX
  have hrE:=crunE_c (e:=1) dCz (cplanN_c (pc:=pc) (rv:=ptr bX) (.inr ⟨bX,rfl,fun w hw=>hw.cellP pick0 2 rfl⟩) hX)
  have h11:Sat w0 wX (rpPt r m lim p ps pn true::TabML pn (Tab.put (fun _=>none) x.c.key pc1) (0+1)::F):=hX.sb
  have Hdy:=uQ (rpdirty_c h11);have Hln:=uQ (rlen_c h11);have Hlv:=uQ (lives18_c (Ro.os HH.out) h11)
  clear Hs Hrn HsN h10 hX h11
  go_wp2_with fail
  refine hrE.mono ?_
  rintro ee w9 ⟨v,rfl,rfl,rfl⟩
  clear hrE
  go_wp2_with fail
  refine Hdy.out.mono ?_
  rintro ee w9 ⟨v,rfl,rfl,rfl⟩
  go_wp2_with fail
  refine Hln.out.mono ?_
  rintro ee w9 ⟨v,rfl,tb,⟨ok,is⟩,rfl,rfl⟩
  rw [Tab.one_len ok is]
  go_wp2_with fail
  refine Hlv.out.mono ?_
  rintro ee w9 ⟨v,rfl,rfl,h12⟩
  have Hsh:=uQ (h12.sb:Sat w0 w9 F)
  clear h12
  go_wp2_with fail
  go_ret
  exact ⟨_,rfl,rfl,Hsh.out⟩
end
end Go.Proofs.YtfdchfnmpabogaaGreatDoor
namespace Go.Proofs.YtfdchfnmpabogaaGreatDoor
open Go Go.Sl Go.Med Go.ChangeShapes Go.WideShapes Go.RowKit
structure QD.At (W:World) (d:QD):Prop where
 kind:inI d.c.kind
 key:d.c.key.length=32
 rd:rdsl 1 d.dv (bys d.c.data) W
 cap:capOk d.dv
 n:inI d.c.n
 m:inI d.c.m
 rl:rdsl 1 d.lv (ints d.c.l) W
 capl:capOk d.lv
 ins:∀ i∈d.c.l,inI i
section
variable {H:Type}{enc:TypeId×Value→H}{W:World}{base:Nat}{spare:Nat→Bool}{held:Bool}
set_option maxRecDepth 100000 in
theorem open_qd {fuel:Nat}{cs:List Value}{x:DataW H×List MemPlace} (h:DataW.trod enc Tryz.prog W base spare held fuel 27 cs=some x):∃ d:QD,qdL d=cs∧d.At W:=by
 obtain ⟨hl,hf⟩:=open_fields Tryz.underlying27 h
 have e37:Tryz.prog.cellsOf 27=37:=by kernel_rfl
 have e1:Tryz.prog.cellsOf 3=1:=by kernel_rfl
 have e2:Tryz.prog.cellsOf 23=32:=by kernel_rfl
 have e3:Tryz.prog.cellsOf 24=1:=by kernel_rfl
 have e5:Tryz.prog.cellsOf 5=1:=by kernel_rfl
 have e4:Tryz.prog.cellsOf 25=1:=by kernel_rfl
 rw [e37]at hl
 obtain ⟨n0,y0,h0⟩:=hf 0 _ rfl
 obtain ⟨n1,y1,h1⟩:=hf 1 _ rfl
 obtain ⟨n2,y2,h2⟩:=hf 2 _ rfl
 obtain ⟨n3,y3,h3⟩:=hf 3 _ rfl
 obtain ⟨n4,y4,h4⟩:=hf 4 _ rfl
 obtain ⟨n5,y5,h5⟩:=hf 5 _ rfl
 simp only [List.getElem_toArray,List.getElem_cons_zero,List.getElem_cons_succ,e1,e2,e3,e4,List.drop_zero]at h0 h1 h2 h3 h4 h5
 obtain ⟨z0,q0,_,w0⟩:=DataW.trod_int Tryz.underlying3 h0
 obtain ⟨kl,k1,k2⟩:=open_key Tryz.underlying23 e2 h1
 have hd:∃ v,(cs.drop 33).take 1=[v]:=by
  have:((cs.drop 33).take 1).length=1:=by rw [List.length_take,List.length_drop];omega
  exact List.length_eq_one_iff.1 this
 obtain ⟨dv,hdv⟩:=hd
 rw [hdv]at h2
 obtain ⟨l2,r2,c2⟩:=in_bys Tryz.underlying24 Tryz.underlying5 e5 h2
 obtain ⟨z3,q3,_,w3⟩:=DataW.trod_int Tryz.underlying3 h3
 obtain ⟨z4,q4,_,w4⟩:=DataW.trod_int Tryz.underlying3 h4
 have hd:∃ v,(cs.drop 36).take 1=[v]:=by
  have:((cs.drop 36).take 1).length=1:=by rw [List.length_take,List.length_drop];omega
  exact List.length_eq_one_iff.1 this
 obtain ⟨lv,hlv⟩:=hd
 rw [hlv]at h5
 obtain ⟨l6,r6,c6,i6⟩:=in_nums Tryz.underlying25 Tryz.underlying3 e1 h5
 refine ⟨⟨⟨z0,kl,l2,z3,z4,l6⟩,dv,lv⟩,?_,bounds_i64 w0,k2,r2,c2,bounds_i64 w3,bounds_i64 w4,r6,c6,i6⟩
 show (Value.int .i64 z0::bys kl)++dv::[.int .i64 z3,.int .i64 z4,lv]=cs
 have s1:cs=cs.take 1++((cs.drop 1).take 32++((cs.drop 33).take 1++((cs.drop 34).take 1++((cs.drop 35).take 1++(cs.drop 36).take 1)))):=by
  have a4:(cs.drop 36).take 1=cs.drop 36:=List.take_of_length_le (by rw [List.length_drop];omega)
  have a3:(cs.drop 35).take 1++cs.drop 36=cs.drop 35:=by
   rw [show cs.drop 36=(cs.drop 35).drop 1 by rw [List.drop_drop]];exact List.take_append_drop 1 _
  have a2:(cs.drop 34).take 1++cs.drop 35=cs.drop 34:=by
   rw [show cs.drop 35=(cs.drop 34).drop 1 by rw [List.drop_drop]];exact List.take_append_drop 1 _
  have a1:(cs.drop 33).take 1++cs.drop 34=cs.drop 33:=by
   rw [show cs.drop 34=(cs.drop 33).drop 1 by rw [List.drop_drop]];exact List.take_append_drop 1 _
  have a0:(cs.drop 1).take 32++cs.drop 33=cs.drop 1:=by
   rw [show cs.drop 33=(cs.drop 1).drop 32 by rw [List.drop_drop]];exact List.take_append_drop 32 _
  rw [a4,a3,a2,a1,a0]
  exact (List.take_append_drop 1 cs).symm
 rw [s1,q0,← k1,hdv,q3,q4,hlv];rfl
theorem QD.At.ro {d:QD} (h:d.At W):QDRo W [Sl.old W] d:=⟨h.key,rd_old h.rd,h.cap,rd_old h.rl,h.capl⟩
end
end Go.Proofs.YtfdchfnmpabogaaGreatDoor
namespace Go.Proofs.YtfdchfnmpabogaaGreatDoor.card
open Go.ChangeShapes Go.WideShapes Go.ChangeAt Go.RowKit
open Go Go.Sl Go.Med
theorem gHalf:Tryz.prog.globalNamed "hoard/crc.half" = some 0:=by kernel_rfl
theorem tHalf:((Tryz.prog.globals[0]?).map (·.type))=some 255:=by kernel_rfl
theorem door_met (os:Os) (args:Array Value):laidMetH Tryz.prog [("hoard/crc.half",Rows.laid_hoard_crc_half)] ((World.doorLaid Tryz.prog 400 os).forCall (fun _ _=>0) ⟨#[],args,[]⟩).memory:=
 laidMetH_of_parts3 (fuel:=8) (laidMet_of_run' 8 kRz kRz) kRz kRz
theorem of_laid {W:World} (h:laidMetH Tryz.prog [("hoard/crc.half",Rows.laid_hoard_crc_half)] W):0<W.heap.size∧Half W:=by
 rw [MakeChecks.laidMetH_plain _ _ _ kRz]at h
 obtain ⟨ps,⟨g0,t0,cs0,f0,p0,q0,hg0,ht0,hv0,hd0,hrest⟩,hrest2⟩:=h
 obtain rfl:=Option.some.inj (gHalf.symm.trans hg0)
 obtain rfl:=Option.some.inj (tHalf.symm.trans ht0)
 obtain ⟨xs,m1,rfl,hx1,hlen,hn3,hel⟩:=DataW.trod_array Tryz.underlying255 hd0
 have c3:Tryz.prog.cellsOf 147=1:=by kernel_rfl
 simp only [Prod.mk.injEq,Rows.laid_hoard_crc_half,DataW.agg.injEq]at hx1
 have hH:Half W:=by
  intro i hi
  have h0:=hel i hi
  have hxi:xs[i]?=some (xs[i]'oQ):=List.getElem?_eq_getElem oQ
  rw [hxi]at h0
  obtain ⟨k,e1,e2,_⟩:=DataW.trod_int Tryz.underlying147 h0
  rw [c3,Nat.mul_one]at e1
  have hc:cs0.toList[i]?=some (.int .u32 k):=by
   have:((cs0.toList.drop i).take 1)[0]?=some (.int .u32 k):=by rw [e1];rfl
   rw [List.getElem?_take,if_pos dCz,List.getElem?_drop]at this
   exact this
  have hL:=congrArg (fun l=>l[i]?) hx1.1
  rw [List.getElem?_map,hxi]at hL
  have hk:k=((Frm.half.getD i 0:Nat):Int):=by
   rw [e2]at hL
   rcases i with _|_|_|_|_|_|_|_|_|_|_|_|_|_|_|_|i
   all_goals first|omega|(simp at hL;rw [← hL];rfl)
  subst hk
  have:=World.var?_cell hg0 hv0 i
  rw [this,← Array.getElem?_toList]
  exact hc
 refine ⟨?_,hH⟩
 by_cases hz:0<W.heap.size
 ·exact hz
 ·have h0:=hH 0 dCz
  have e:W.heap[0]?=none:=Array.getElem?_eq_none oQ
  simp [World.cell?,e]at h0
end Go.Proofs.YtfdchfnmpabogaaGreatDoor.card
