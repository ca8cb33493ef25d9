import Derived.Test.YtmjldaedhmipkaaGreatDoorJ7
import Derived.Laws.Slices
import Derived.Laws.StructEq
set_option maxHeartbeats 128000000
set_option linter.unusedVariables false
namespace Go.Proofs.YtmjldaedhmipkaaGreatDoor
open Go Go.Sl Go.Med Go.MapKept Go.RowKit
section
variable {w0 w:World}{F R:List HProp}{p B B':Nat}{m:Frm.Bs→Option Rep.Abt}
theorem TabMA.mono (hB:B≤B') (h:Sat w0 w (TabMA p m B::R)):Sat w0 w (TabMA p m B'::R):=by
 obtain ⟨t,sv,⟨ok,is,hb⟩,hS⟩:=TabMA.open h
 exact TabMA.shut ok is (Nat.le_trans hb hB) hS
variable {da:Option Addr}{dn dc:Nat}
theorem fnd_cell (f:Frm.Fnd) (dv:Value) (hk:f.e.key.length=32):(fndA f dv)[34]?=some (.int .i64 f.at_)∧(fndA f dv)[35]?=some (.int .i64 f.size)∧∀ j v,(bys f.e.key)[j]?=some v→(fndA f dv)[1+j]?=some v:=by
 have hl:(entL f.e dv).length=34:=entL_len _ _ hk
 refine ⟨?_,?_,fun j v hj=>?_⟩
 ·show (entL f.e dv++_).toArray[34]?=_
  rw [List.getElem?_toArray,List.getElem?_append_right oQ,hl];rfl
 ·show (entL f.e dv++_).toArray[35]?=_
  rw [List.getElem?_toArray,List.getElem?_append_right oQ,hl];rfl
 ·have hj1:=(List.getElem?_eq_some_iff.1 hj).1
  have hj2:=hj1
  rw [bys_len,hk]at hj2
  show (entL f.e dv++_).toArray[1+j]?=_
  rw [List.getElem?_toArray,List.getElem?_append_left oQ,Nat.add_comm]
  show (bys f.e.key++[dv])[j]?=_
  rw [List.getElem?_append_left hj1];exact hj
set_option maxRecDepth 20000 in
theorem take_c (s:Int) (f:Frm.Fnd) (hk:f.e.key.length=32) (hB:B≤13000000) (h:Sat w0 w (TabMA p m B::F)) :
  Calls Tryz.prog 115 #[.agg #[ptr p],.int .i64 s,.agg (fndA f (.slice da dn dc))] w (Rtn fun _ w'=>Sat w0 w' (TabMA p (Rep.takeOne m (s,f)) (B+1)::F)):=by
 have Hk:=uQ hk;have HB:=uQ hB
 have e0:(fndA f (.slice da dn dc))[0]?=some (.int .i64 f.e.tag):=rfl
 obtain ⟨e34,e35,ekey⟩:=fnd_cell f (.slice da dn dc) hk
 clear hk hB
 go_enter Tryz.func115,Tryz.ntmps115
 go_wp2_with (with_reducible apply at_box)
 refine ⟨wl_box h evD evD ?_⟩
 intro b3 w3 h3
 go_wp2_with (with_reducible apply at_box)
 refine ⟨wl_box h3 evD evD ?_⟩
 intro b5 w5 h5
 clear h h3
 have h6:Sat w0 w5 (pt b5 (.cells (fndA f (.slice da dn dc)) 203 (0,0))::pt b3 (.cells #[ptr p] 197 (0,0))::TabMA p m B::F):=h5
 clear h5
 have f0:w5.cell? ⟨b5,0,none⟩=some (.int .i64 f.e.tag):=h6.cellP pick0 0 e0
 by_cases h2:f.e.tag=2
 ·have hb:(f.e.tag==2)=true:=beq_iff_eq.2 h2
  have Hone:=uQ (show Rep.takeOne m (s,f)=m from if_pos h2)
  have h7:=uQ (TabMA.mono (Nat.le_succ B) (h6.sb:Sat w0 w5 (TabMA p m B::F)))
  clear h2 h6
  go_wp2_with fail
  (try simp only [Exit.inBlock,Exit.then]);refine bodyPost_ret (results_none rfl _ _ _) rfl ?_
  exact ⟨_,rfl,by rw [Hone.out];exact h7.out⟩
 have hb:(f.e.tag==2)=false:=by rw [beq_eq_false_iff_ne];exact h2
 have Hone:=uQ (show Rep.takeOne m (s,f)=Tab.put m f.e.key ⟨f.e.tag,⟨s,f.at_,f.size⟩,Rep.first1 m (s,f)⟩ from if_neg h2)
 clear h2
 have hkr:w5.rangeAt b5 1 (bys f.e.key):=fun j v hj=>h6.cellP pick0 (1+j) (ekey j v hj)
 go_wp2_with (first
  |((with_reducible refine at_load ⟨?_⟩);refine wl_load1 h6 rQ pkD bQ evD kQ ?_)
  |((with_reducible refine at_load ⟨?_⟩);refine wl_loadW (b:=b5) (o:=1) (bys f.e.key) rQ hkr Tryz.underlying41 rfl (by rw [bys_len,Hk.out];kernel_rfl) ?_))
 refine (getA_c (by have:=HB.out;omega) Hk.out (h6.sb:Sat w0 w5 (TabMA p m B::pt b5 (.cells (fndA f (.slice da dn dc)) 203 (0,0))::pt b3 (.cells #[ptr p] 197 (0,0))::F))).mono ?_
 rintro ee w7 ⟨v,rfl,hv,h7⟩
 clear h6 hkr f0
 cases hm:m f.e.key with
 |some a=>
  rw [hm,Option.getD_some,Option.isSome_some]at hv
  subst hv
  have hf0:Rep.first0 m (s,f)=a.first:=by unfold Rep.first0;show (match m f.e.key with|some a=>a.first|none=> -1)=a.first;rw [hm]
  obtain ⟨at0,⟨ap1,ap2,ap3⟩,af⟩:=a
  have h7':=h7
  clear h7 hm
  have h7:=h7'
  clear h7'
  go_wp2_with (with_reducible apply at_alloc)
  refine ⟨wl_alloc zValA h7 rfl ?_⟩
  intro b6 w8 h8
  go_wp2_with (first|((with_reducible refine at_store ⟨?_⟩);refine wl_storeA (aenc ⟨at0,⟨ap1,ap2,ap3⟩,af⟩).toArray h8 rQ rQ rQ upd0 kQ rQ ?_;intro w9 h9)|(with_reducible apply at_load))
  refine ⟨?_⟩
  have f1:w9.cell? ⟨b5,0,none⟩=some (.int .i64 f.e.tag):=h9.cellP (pick_there (pick_there pick0)) 0 e0
  have f2:w9.cell? ⟨b6,4,none⟩=some (.int .i64 af):=h9.cellP pick0 4 rfl
  clear h7 h8
  by_cases hz:f.e.tag=0
  ·have hb0:(f.e.tag==0)=true:=beq_iff_eq.2 hz
   by_cases hf:af<0
   ·have hE:=uQ (show Rep.first1 m (s,f)=s by unfold Rep.first1;rw [hf0];exact if_pos ⟨hz,hf⟩)
    clear hz hf0
    go_wp2_with ((with_reducible refine at_store ⟨?_⟩);refine wl_store (cs':=#[.int .i64 at0,.int .i64 ap1,.int .i64 ap2,.int .i64 ap3,.int .i64 s]) h9 rQ evD rQ upd0 (by show 4+1≤5;decide) kQ rQ ?_;intro wA hA)
    clear h9 f1 f2
    have hS9:Sat w0 wA.drew (pt b6 (.cells #[.int .i64 at0,.int .i64 ap1,.int .i64 ap2,.int .i64 ap3,.int .i64 s] 195 (0,0))::TabMA p m B::pt b5 (.cells (fndA f (.slice da dn dc)) 203 (0,0))::pt b3 (.cells #[ptr p] 197 (0,0))::F):=(hA).drew
    clear hA
    have hG:=And.intro (hS9.cellP (pick_there (pick_there pick0)) 0 e0) (And.intro (hS9.cellP (pick_there (pick_there pick0)) 34 e34) (hS9.cellP (pick_there (pick_there pick0)) 35 e35))
    refine wpL_begin [11,12] (fun w'=>w'.cell? ⟨b5,0,none⟩=some (.int .i64 f.e.tag)∧w'.cell? ⟨b5,34,none⟩=some (.int .i64 f.at_)∧w'.cell? ⟨b5,35,none⟩=some (.int .i64 f.size)) kQ ?_
    refine rP 0 ?_ (y:=flQ)
    refine rP 1 ?_ (y:=flQ)
    refine rt 2 (h:=?_)
    refine rP 3 ?_ (y:=mvQ)
    refine rP 4 ?_ (y:=flQ)
    refine rt 5 (h:=?_)
    refine rP 6 ?_ (y:=flQ)
    refine rt 7 (h:=?_)
    refine rp 8 (hy:=(by (refine Or.inl ⟨by rfl,?_⟩;((intro wq;go_simp);first|done|exact wQ)))) (h:=?_)
    refine rP 9 ?_ (y:=flQ)
    refine rg_eff 10 evD kQ (fun K hK=>?_)
    refine eff_store (cs':=#[.int .i64 f.e.tag,.int .i64 ap1,.int .i64 ap2,.int .i64 ap3,.int .i64 s]) hS9 evD evD rQ upd0 (by show 0+1≤5;decide) kQ rQ ?_
    intro w10 hS10
    have hG2:=And.intro (hS10.cellP (pick_there (pick_there pick0)) 0 e0) (And.intro (hS10.cellP (pick_there (pick_there pick0)) 34 e34) (hS10.cellP (pick_there (pick_there pick0)) 35 e35))
    refine hK _ _ (.inr (.inl hG2)) ?_
    clear hK hS9 hG hG2
    refine rP 11 ?_ (y:=flQ)
    refine rg_eff 12 evD kQ (fun K hK=>?_)
    refine eff_store (cs':=#[.int .i64 f.e.tag,.int .i64 s,.int .i64 f.at_,.int .i64 f.size,.int .i64 s]) hS10 evD evD rQ upd0 (by show 1+3≤5;decide) kQ rQ ?_
    intro w12 hS12
    refine hK _ _ (.inl rfl) ?_
    clear hK hS10
    refine wdQ ?_
    have hS13:Sat w0 w12 (pt b6 (.cells (aenc ⟨f.e.tag,⟨s,f.at_,f.size⟩,Rep.first1 m (s,f)⟩).toArray 195 (0,0))::TabMA p m B::pt b5 (.cells (fndA f (.slice da dn dc)) 203 (0,0))::pt b3 (.cells #[ptr p] 197 (0,0))::F):=by
     have:=hS12
     rw [hE.out]
     exact this
    clear hS12
    have hkr:w12.rangeAt b5 1 (bys f.e.key):=fun j v hj=>hS13.cellP (pick_there (pick_there pick0)) (1+j) (ekey j v hj)
    go_wp2_with (first
     |((with_reducible refine at_load ⟨?_⟩);refine wl_loadW (b:=b5) (o:=1) (bys f.e.key) rQ hkr Tryz.underlying41 rfl (by rw [bys_len,Hk.out];kernel_rfl) ?_)
     |((with_reducible refine at_load ⟨?_⟩);refine wl_loadA hS13 rQ (pick0 (A:=pt b6 (.cells (aenc ⟨f.e.tag,⟨s,f.at_,f.size⟩,Rep.first1 m (s,f)⟩).toArray 195 (0,0)))) Tryz.underlying195 rfl kQ ?_)
     |((with_reducible refine at_load ⟨?_⟩);refine wl_load1 hS13 rQ pkD bQ evD kQ ?_))
    refine (putA_c (p:=p) (by have:=HB.out;omega) Hk.out ⟨f.e.tag,⟨s,f.at_,f.size⟩,Rep.first1 m (s,f)⟩ (hS13.sb:Sat w0 w12 (TabMA p m B::F))).mono ?_
    rintro ee w14 ⟨v,rfl,hS14⟩
    go_wp2_with fail
    go_end0
    exact ⟨_,rfl,by rw [Hone.out];exact hS14⟩
   ·have hE:=uQ (show Rep.first1 m (s,f)=af by unfold Rep.first1;rw [hf0];exact if_neg (fun h=>hf h.2))
    clear hz hf0
    go_wp2_with fail
    clear f1 f2
    have hS9:Sat w0 w9.drew (pt b6 (.cells #[.int .i64 at0,.int .i64 ap1,.int .i64 ap2,.int .i64 ap3,.int .i64 af] 195 (0,0))::TabMA p m B::pt b5 (.cells (fndA f (.slice da dn dc)) 203 (0,0))::pt b3 (.cells #[ptr p] 197 (0,0))::F):=(h9).drew
    clear h9
    have hG:=And.intro (hS9.cellP (pick_there (pick_there pick0)) 0 e0) (And.intro (hS9.cellP (pick_there (pick_there pick0)) 34 e34) (hS9.cellP (pick_there (pick_there pick0)) 35 e35))
    refine wpL_begin [11,12] (fun w'=>w'.cell? ⟨b5,0,none⟩=some (.int .i64 f.e.tag)∧w'.cell? ⟨b5,34,none⟩=some (.int .i64 f.at_)∧w'.cell? ⟨b5,35,none⟩=some (.int .i64 f.size)) kQ ?_
    refine rP 0 ?_ (y:=flQ)
    refine rP 1 ?_ (y:=flQ)
    refine rt 2 (h:=?_)
    refine rP 3 ?_ (y:=mvQ)
    refine rP 4 ?_ (y:=flQ)
    refine rt 5 (h:=?_)
    refine rP 6 ?_ (y:=flQ)
    refine rt 7 (h:=?_)
    refine rp 8 (hy:=(by (refine Or.inl ⟨by rfl,?_⟩;((intro wq;go_simp);first|done|exact wQ)))) (h:=?_)
    refine rP 9 ?_ (y:=flQ)
    refine rg_eff 10 evD kQ (fun K hK=>?_)
    refine eff_store (cs':=#[.int .i64 f.e.tag,.int .i64 ap1,.int .i64 ap2,.int .i64 ap3,.int .i64 af]) hS9 evD evD rQ upd0 (by show 0+1≤5;decide) kQ rQ ?_
    intro w10 hS10
    have hG2:=And.intro (hS10.cellP (pick_there (pick_there pick0)) 0 e0) (And.intro (hS10.cellP (pick_there (pick_there pick0)) 34 e34) (hS10.cellP (pick_there (pick_there pick0)) 35 e35))
    refine hK _ _ (.inr (.inl hG2)) ?_
    clear hK hS9 hG hG2
    refine rP 11 ?_ (y:=flQ)
    refine rg_eff 12 evD kQ (fun K hK=>?_)
    refine eff_store (cs':=#[.int .i64 f.e.tag,.int .i64 s,.int .i64 f.at_,.int .i64 f.size,.int .i64 af]) hS10 evD evD rQ upd0 (by show 1+3≤5;decide) kQ rQ ?_
    intro w12 hS12
    refine hK _ _ (.inl rfl) ?_
    clear hK hS10
    refine wdQ ?_
    have hS13:Sat w0 w12 (pt b6 (.cells (aenc ⟨f.e.tag,⟨s,f.at_,f.size⟩,Rep.first1 m (s,f)⟩).toArray 195 (0,0))::TabMA p m B::pt b5 (.cells (fndA f (.slice da dn dc)) 203 (0,0))::pt b3 (.cells #[ptr p] 197 (0,0))::F):=by
     have:=hS12
     rw [hE.out]
     exact this
    clear hS12
    have hkr:w12.rangeAt b5 1 (bys f.e.key):=fun j v hj=>hS13.cellP (pick_there (pick_there pick0)) (1+j) (ekey j v hj)
    go_wp2_with (first
     |((with_reducible refine at_load ⟨?_⟩);refine wl_loadW (b:=b5) (o:=1) (bys f.e.key) rQ hkr Tryz.underlying41 rfl (by rw [bys_len,Hk.out];kernel_rfl) ?_)
     |((with_reducible refine at_load ⟨?_⟩);refine wl_loadA hS13 rQ (pick0 (A:=pt b6 (.cells (aenc ⟨f.e.tag,⟨s,f.at_,f.size⟩,Rep.first1 m (s,f)⟩).toArray 195 (0,0)))) Tryz.underlying195 rfl kQ ?_)
     |((with_reducible refine at_load ⟨?_⟩);refine wl_load1 hS13 rQ pkD bQ evD kQ ?_))
    refine (putA_c (p:=p) (by have:=HB.out;omega) Hk.out ⟨f.e.tag,⟨s,f.at_,f.size⟩,Rep.first1 m (s,f)⟩ (hS13.sb:Sat w0 w12 (TabMA p m B::F))).mono ?_
    rintro ee w14 ⟨v,rfl,hS14⟩
    go_wp2_with fail
    go_end0
    exact ⟨_,rfl,by rw [Hone.out];exact hS14⟩
  ·have hb0:(f.e.tag==0)=false:=by rw [beq_eq_false_iff_ne];exact hz
   have hE:=uQ (show Rep.first1 m (s,f)=af by unfold Rep.first1;rw [hf0];exact if_neg (fun h=>hz h.1))
   clear hz hf0
   go_wp2_with fail
   clear f1 f2
   have hS9:Sat w0 w9.drew (pt b6 (.cells #[.int .i64 at0,.int .i64 ap1,.int .i64 ap2,.int .i64 ap3,.int .i64 af] 195 (0,0))::TabMA p m B::pt b5 (.cells (fndA f (.slice da dn dc)) 203 (0,0))::pt b3 (.cells #[ptr p] 197 (0,0))::F):=(h9).drew
   clear h9
   have hG:=And.intro (hS9.cellP (pick_there (pick_there pick0)) 0 e0) (And.intro (hS9.cellP (pick_there (pick_there pick0)) 34 e34) (hS9.cellP (pick_there (pick_there pick0)) 35 e35))
   refine wpL_begin [11,12] (fun w'=>w'.cell? ⟨b5,0,none⟩=some (.int .i64 f.e.tag)∧w'.cell? ⟨b5,34,none⟩=some (.int .i64 f.at_)∧w'.cell? ⟨b5,35,none⟩=some (.int .i64 f.size)) kQ ?_
   refine rP 0 ?_ (y:=flQ)
   refine rP 1 ?_ (y:=flQ)
   refine rt 2 (h:=?_)
   refine rP 3 ?_ (y:=mvQ)
   refine rP 4 ?_ (y:=flQ)
   refine rt 5 (h:=?_)
   refine rP 6 ?_ (y:=flQ)
   refine rt 7 (h:=?_)
   refine rp 8 (hy:=(by (refine Or.inl ⟨by rfl,?_⟩;((intro wq;go_simp);first|done|exact wQ)))) (h:=?_)
   refine rP 9 ?_ (y:=flQ)
   refine rg_eff 10 evD kQ (fun K hK=>?_)
   refine eff_store (cs':=#[.int .i64 f.e.tag,.int .i64 ap1,.int .i64 ap2,.int .i64 ap3,.int .i64 af]) hS9 evD evD rQ upd0 (by show 0+1≤5;decide) kQ rQ ?_
   intro w10 hS10
   have hG2:=And.intro (hS10.cellP (pick_there (pick_there pick0)) 0 e0) (And.intro (hS10.cellP (pick_there (pick_there pick0)) 34 e34) (hS10.cellP (pick_there (pick_there pick0)) 35 e35))
   refine hK _ _ (.inr (.inl hG2)) ?_
   clear hK hS9 hG hG2
   refine rP 11 ?_ (y:=flQ)
   refine rg_eff 12 evD kQ (fun K hK=>?_)
   refine eff_store (cs':=#[.int .i64 f.e.tag,.int .i64 s,.int .i64 f.at_,.int .i64 f.size,.int .i64 af]) hS10 evD evD rQ upd0 (by show 1+3≤5;decide) kQ rQ ?_
   intro w12 hS12
   refine hK _ _ (.inl rfl) ?_
   clear hK hS10
   refine wdQ ?_
   have hS13:Sat w0 w12 (pt b6 (.cells (aenc ⟨f.e.tag,⟨s,f.at_,f.size⟩,Rep.first1 m (s,f)⟩).toArray 195 (0,0))::TabMA p m B::pt b5 (.cells (fndA f (.slice da dn dc)) 203 (0,0))::pt b3 (.cells #[ptr p] 197 (0,0))::F):=by
    have:=hS12
    rw [hE.out]
    exact this
   clear hS12
   have hkr:w12.rangeAt b5 1 (bys f.e.key):=fun j v hj=>hS13.cellP (pick_there (pick_there pick0)) (1+j) (ekey j v hj)
   go_wp2_with (first
    |((with_reducible refine at_load ⟨?_⟩);refine wl_loadW (b:=b5) (o:=1) (bys f.e.key) rQ hkr Tryz.underlying41 rfl (by rw [bys_len,Hk.out];kernel_rfl) ?_)
    |((with_reducible refine at_load ⟨?_⟩);refine wl_loadA hS13 rQ (pick0 (A:=pt b6 (.cells (aenc ⟨f.e.tag,⟨s,f.at_,f.size⟩,Rep.first1 m (s,f)⟩).toArray 195 (0,0)))) Tryz.underlying195 rfl kQ ?_)
    |((with_reducible refine at_load ⟨?_⟩);refine wl_load1 hS13 rQ pkD bQ evD kQ ?_))
   refine (putA_c (p:=p) (by have:=HB.out;omega) Hk.out ⟨f.e.tag,⟨s,f.at_,f.size⟩,Rep.first1 m (s,f)⟩ (hS13.sb:Sat w0 w12 (TabMA p m B::F))).mono ?_
   rintro ee w14 ⟨v,rfl,hS14⟩
   go_wp2_with fail
   go_end0
   exact ⟨_,rfl,by rw [Hone.out];exact hS14⟩
 |none=>
  rw [hm,Option.getD_none,Option.isSome_none]at hv
  subst hv
  have hf0:Rep.first0 m (s,f) = -1:=by unfold Rep.first0;show (match m f.e.key with|some a=>a.first|none=> -1) = -1;rw [hm]
  clear hm
  go_wp2_with (with_reducible apply at_alloc)
  refine ⟨wl_alloc zValA h7 rfl ?_⟩
  intro b6 w8 h8
  go_wp2_with (first|((with_reducible refine at_store ⟨?_⟩);refine wl_storeA (aenc ⟨0,Seg.Plc.zero,0⟩).toArray h8 rQ rQ rQ upd0 kQ rQ ?_;intro w9 h9)|((with_reducible refine at_store ⟨?_⟩);refine wl_store (cs':=#[.int .i64 0,.int .i64 0,.int .i64 0,.int .i64 0,.int .i64 (-1)]) h9 rQ evD rQ upd0 (by show 4+1≤5;decide) kQ rQ ?_;intro wB hB)|(with_reducible apply at_load))
  refine ⟨?_⟩
  have f1:wB.cell? ⟨b5,0,none⟩=some (.int .i64 f.e.tag):=hB.cellP (pick_there (pick_there pick0)) 0 e0
  have f2:wB.cell? ⟨b6,4,none⟩=some (.int .i64 (-1)):=hB.cellP pick0 4 rfl
  clear h7 h8 h9
  by_cases hz:f.e.tag=0
  ·have hb0:(f.e.tag==0)=true:=beq_iff_eq.2 hz
   have hE:=uQ (show Rep.first1 m (s,f)=s by unfold Rep.first1;rw [hf0];exact if_pos ⟨hz,by decide⟩)
   clear hz hf0
   go_wp2_with ((with_reducible refine at_store ⟨?_⟩);refine wl_store (cs':=#[.int .i64 0,.int .i64 0,.int .i64 0,.int .i64 0,.int .i64 s]) hB rQ evD rQ upd0 (by show 4+1≤5;decide) kQ rQ ?_;intro wA hA)
   clear hB f1 f2
   have hS9:Sat w0 wA.drew (pt b6 (.cells #[.int .i64 0,.int .i64 0,.int .i64 0,.int .i64 0,.int .i64 s] 195 (0,0))::TabMA p m B::pt b5 (.cells (fndA f (.slice da dn dc)) 203 (0,0))::pt b3 (.cells #[ptr p] 197 (0,0))::F):=(hA).drew
   clear hA
   have hG:=And.intro (hS9.cellP (pick_there (pick_there pick0)) 0 e0) (And.intro (hS9.cellP (pick_there (pick_there pick0)) 34 e34) (hS9.cellP (pick_there (pick_there pick0)) 35 e35))
   refine wpL_begin [11,12] (fun w'=>w'.cell? ⟨b5,0,none⟩=some (.int .i64 f.e.tag)∧w'.cell? ⟨b5,34,none⟩=some (.int .i64 f.at_)∧w'.cell? ⟨b5,35,none⟩=some (.int .i64 f.size)) kQ ?_
   refine rP 0 ?_ (y:=flQ)
   refine rP 1 ?_ (y:=flQ)
   refine rt 2 (h:=?_)
   refine rP 3 ?_ (y:=mvQ)
   refine rP 4 ?_ (y:=flQ)
   refine rt 5 (h:=?_)
   refine rP 6 ?_ (y:=flQ)
   refine rt 7 (h:=?_)
   refine rp 8 (hy:=(by (refine Or.inl ⟨by rfl,?_⟩;((intro wq;go_simp);first|done|exact wQ)))) (h:=?_)
   refine rP 9 ?_ (y:=flQ)
   refine rg_eff 10 evD kQ (fun K hK=>?_)
   refine eff_store (cs':=#[.int .i64 f.e.tag,.int .i64 0,.int .i64 0,.int .i64 0,.int .i64 s]) hS9 evD evD rQ upd0 (by show 0+1≤5;decide) kQ rQ ?_
   intro w10 hS10
   have hG2:=And.intro (hS10.cellP (pick_there (pick_there pick0)) 0 e0) (And.intro (hS10.cellP (pick_there (pick_there pick0)) 34 e34) (hS10.cellP (pick_there (pick_there pick0)) 35 e35))
   refine hK _ _ (.inr (.inl hG2)) ?_
   clear hK hS9 hG hG2
   refine rP 11 ?_ (y:=flQ)
   refine rg_eff 12 evD kQ (fun K hK=>?_)
   refine eff_store (cs':=#[.int .i64 f.e.tag,.int .i64 s,.int .i64 f.at_,.int .i64 f.size,.int .i64 s]) hS10 evD evD rQ upd0 (by show 1+3≤5;decide) kQ rQ ?_
   intro w12 hS12
   refine hK _ _ (.inl rfl) ?_
   clear hK hS10
   refine wdQ ?_
   have hS13:Sat w0 w12 (pt b6 (.cells (aenc ⟨f.e.tag,⟨s,f.at_,f.size⟩,Rep.first1 m (s,f)⟩).toArray 195 (0,0))::TabMA p m B::pt b5 (.cells (fndA f (.slice da dn dc)) 203 (0,0))::pt b3 (.cells #[ptr p] 197 (0,0))::F):=by
    have:=hS12
    rw [hE.out]
    exact this
   clear hS12
   have hkr:w12.rangeAt b5 1 (bys f.e.key):=fun j v hj=>hS13.cellP (pick_there (pick_there pick0)) (1+j) (ekey j v hj)
   go_wp2_with (first
    |((with_reducible refine at_load ⟨?_⟩);refine wl_loadW (b:=b5) (o:=1) (bys f.e.key) rQ hkr Tryz.underlying41 rfl (by rw [bys_len,Hk.out];kernel_rfl) ?_)
    |((with_reducible refine at_load ⟨?_⟩);refine wl_loadA hS13 rQ (pick0 (A:=pt b6 (.cells (aenc ⟨f.e.tag,⟨s,f.at_,f.size⟩,Rep.first1 m (s,f)⟩).toArray 195 (0,0)))) Tryz.underlying195 rfl kQ ?_)
    |((with_reducible refine at_load ⟨?_⟩);refine wl_load1 hS13 rQ pkD bQ evD kQ ?_))
   refine (putA_c (p:=p) (by have:=HB.out;omega) Hk.out ⟨f.e.tag,⟨s,f.at_,f.size⟩,Rep.first1 m (s,f)⟩ (hS13.sb:Sat w0 w12 (TabMA p m B::F))).mono ?_
   rintro ee w14 ⟨v,rfl,hS14⟩
   go_wp2_with fail
   go_end0
   exact ⟨_,rfl,by rw [Hone.out];exact hS14⟩
  ·have hb0:(f.e.tag==0)=false:=by rw [beq_eq_false_iff_ne];exact hz
   have hE:=uQ (show Rep.first1 m (s,f) = -1 by unfold Rep.first1;rw [hf0];exact if_neg (fun h=>hz h.1))
   clear hz hf0
   go_wp2_with fail
   clear f1 f2
   have hS9:Sat w0 wB.drew (pt b6 (.cells #[.int .i64 0,.int .i64 0,.int .i64 0,.int .i64 0,.int .i64 (-1)] 195 (0,0))::TabMA p m B::pt b5 (.cells (fndA f (.slice da dn dc)) 203 (0,0))::pt b3 (.cells #[ptr p] 197 (0,0))::F):=(hB).drew
   clear hB
   have hG:=And.intro (hS9.cellP (pick_there (pick_there pick0)) 0 e0) (And.intro (hS9.cellP (pick_there (pick_there pick0)) 34 e34) (hS9.cellP (pick_there (pick_there pick0)) 35 e35))
   refine wpL_begin [11,12] (fun w'=>w'.cell? ⟨b5,0,none⟩=some (.int .i64 f.e.tag)∧w'.cell? ⟨b5,34,none⟩=some (.int .i64 f.at_)∧w'.cell? ⟨b5,35,none⟩=some (.int .i64 f.size)) kQ ?_
   refine rP 0 ?_ (y:=flQ)
   refine rP 1 ?_ (y:=flQ)
   refine rt 2 (h:=?_)
   refine rP 3 ?_ (y:=mvQ)
   refine rP 4 ?_ (y:=flQ)
   refine rt 5 (h:=?_)
   refine rP 6 ?_ (y:=flQ)
   refine rt 7 (h:=?_)
   refine rp 8 (hy:=(by (refine Or.inl ⟨by rfl,?_⟩;((intro wq;go_simp);first|done|exact wQ)))) (h:=?_)
   refine rP 9 ?_ (y:=flQ)
   refine rg_eff 10 evD kQ (fun K hK=>?_)
   refine eff_store (cs':=#[.int .i64 f.e.tag,.int .i64 0,.int .i64 0,.int .i64 0,.int .i64 (-1)]) hS9 evD evD rQ upd0 (by show 0+1≤5;decide) kQ rQ ?_
   intro w10 hS10
   have hG2:=And.intro (hS10.cellP (pick_there (pick_there pick0)) 0 e0) (And.intro (hS10.cellP (pick_there (pick_there pick0)) 34 e34) (hS10.cellP (pick_there (pick_there pick0)) 35 e35))
   refine hK _ _ (.inr (.inl hG2)) ?_
   clear hK hS9 hG hG2
   refine rP 11 ?_ (y:=flQ)
   refine rg_eff 12 evD kQ (fun K hK=>?_)
   refine eff_store (cs':=#[.int .i64 f.e.tag,.int .i64 s,.int .i64 f.at_,.int .i64 f.size,.int .i64 (-1)]) hS10 evD evD rQ upd0 (by show 1+3≤5;decide) kQ rQ ?_
   intro w12 hS12
   refine hK _ _ (.inl rfl) ?_
   clear hK hS10
   refine wdQ ?_
   have hS13:Sat w0 w12 (pt b6 (.cells (aenc ⟨f.e.tag,⟨s,f.at_,f.size⟩,Rep.first1 m (s,f)⟩).toArray 195 (0,0))::TabMA p m B::pt b5 (.cells (fndA f (.slice da dn dc)) 203 (0,0))::pt b3 (.cells #[ptr p] 197 (0,0))::F):=by
    have:=hS12
    rw [hE.out]
    exact this
   clear hS12
   have hkr:w12.rangeAt b5 1 (bys f.e.key):=fun j v hj=>hS13.cellP (pick_there (pick_there pick0)) (1+j) (ekey j v hj)
   go_wp2_with (first
    |((with_reducible refine at_load ⟨?_⟩);refine wl_loadW (b:=b5) (o:=1) (bys f.e.key) rQ hkr Tryz.underlying41 rfl (by rw [bys_len,Hk.out];kernel_rfl) ?_)
    |((with_reducible refine at_load ⟨?_⟩);refine wl_loadA hS13 rQ (pick0 (A:=pt b6 (.cells (aenc ⟨f.e.tag,⟨s,f.at_,f.size⟩,Rep.first1 m (s,f)⟩).toArray 195 (0,0)))) Tryz.underlying195 rfl kQ ?_)
    |((with_reducible refine at_load ⟨?_⟩);refine wl_load1 hS13 rQ pkD bQ evD kQ ?_))
   refine (putA_c (p:=p) (by have:=HB.out;omega) Hk.out ⟨f.e.tag,⟨s,f.at_,f.size⟩,Rep.first1 m (s,f)⟩ (hS13.sb:Sat w0 w12 (TabMA p m B::F))).mono ?_
   rintro ee w14 ⟨v,rfl,hS14⟩
   go_wp2_with fail
   go_end0
   exact ⟨_,rfl,by rw [Hone.out];exact hS14⟩
end
section
variable {P:Program}{w0 w:World}{F R L:List HProp}{b:Nat}{ops:Array Oper}{rest:List Oper}{a:Act}{Q:Exit→Act→World→Prop}
variable {dst:Option Tmp}{t ty T e:TypeId}{pos:String}{after:Array Edge}{x y:Operand}{cs:Array Value}{v:Value}{o n c k cap sz by':Nat}{ad:Addr}{ys:List Value}
theorem eff_app_in (sz by':Nat){K:Act→World→Prop}{E:Prop} (hb:appB P ty e sz by'=true) (hv:a.eval x = .slice (some ⟨b,0,none⟩) k cap) (hy:a.eval y = .slice (some ad) n c)
  (h:Sat w0 w (pt b (.cells cs T (0,0))::F)) (hl:ys.length=n * sz) (hnews:∀ j u,ys[j]?=some u→w.cell? (ad.add j)=some u) (h1:∀ u∈ys,u.oneCell'=true) (hroom:k+n≤cap) (hc:cap * sz≤cs.size)
  (hK:∀ w',Sat w0 w' (pt b (.cells (putsAt cs (k * sz) ys) T (0,0))::F)→K (a.put dst (.slice (some ⟨b,0,none⟩) (k+n) cap)) w') :
  if Region.wanted ⟨dst,.call { callee:= .builtin .append,args:=#[x,y],argTypes:=#[ty,ty] },t,pos,after,none⟩ (yielded ops a.tmps)=true then
   Oper.wp P ⟨dst,.call { callee:= .builtin .append,args:=#[x,y],argTypes:=#[ty,ty] },t,pos,after,none⟩ a w K Q else E:=by
 rw [if_pos (want_none _ rfl)]
 obtain ⟨hu,i,z,hi,hz,e1,e2,e3,e4⟩:=appB_spec hb
 subst e1
 have hle:(k+n) * i.size≤cs.size:=Nat.le_trans (Nat.mul_le_mul_right _ hroom) hc
 rw [Nat.add_mul]at hle
 have hr:=run_append_room_cells (P:=P) (w:=w) ty t e i hu hi b 0 k cap ad n c ys hl hnews h1 hroom (fun j hj=>by
   rw [Nat.zero_add,h.cellAt (k * i.size+j) _ (Array.getElem?_eq_getElem (show k * i.size+j<cs.size by omega))];rfl) (fun j hj=>h.freeAt _)
 rw [Nat.zero_add]at hr
 unfold Oper.wp execOp
 simp only [resolve,invoke,builtin,Sem.run_bind,Sem.run_pure,Result.andThen_ok,List.map_toArray,List.map_cons,List.map_nil,hv,hy,hr]
 exact hK _ (Sat.sets ys (k * i.size) h)
theorem yl_slice_lo {vx vy:Value} (hx:a.eval x=vx) (hy:a.eval y=vy) (hr:∀ w,(Instr.sliceAt ty vx (some vy) none none).run P w = .ok v w):Yields P ops ⟨dst,.slice ty x (some y) none none,t,pos,after,none⟩ v a:=
 .inl ⟨want_none _ rfl,fun w=>by simp only [execOp,hx,hy,Option.map_some,Option.map_none,Sem.run_bind,hr,Result.andThen_ok,Sem.run_pure]⟩
theorem run_clear1 (sz:Nat){z:Value} (hu:P.underlying ty=some (.slice e)) (hz:zeroB P e=some z) (hzs:z.cells.size=sz) (h1:z.cells.toList.all (·.oneCell')=true){o:Nat} (hfit:o+sz≤cs.size)
  (h:Sat w0 w (pt b (.cells cs T (0,0))::F)) :
  ∃ w',(Builtin.clear_ #[ty] t #[.slice (some ⟨b,o,none⟩) 1 c]).run P w = .ok (.tuple #[]) w'∧Sat w0 w' (pt b (.cells (putsAt cs o z.cells.toList) T (0,0))::F):=by
 refine ⟨w.setCells b o z.cells.toList,?_,Sat.sets _ _ h⟩
 have hzc:(Builtin.zeroCells z.cells 1).toList=z.cells.toList:=by
  unfold Builtin.zeroCells
  simp only [Array.toList_map,Array.toList_range,Nat.one_mul]
  apply List.ext_getElem (by simp)
  intro i q1 q2
  have hi:i<z.cells.size:=by simpa using q2
  simp [Nat.mod_eq_of_lt hi,hi]
 have hst:=run_storeCells_cells (P:=P) b o z.cells.toList 0 w (fun j hj=>by
   rw [Nat.add_zero,h.cellAt (o+j) _ (Array.getElem?_eq_getElem (show o+j<cs.size by simp at hj;omega))];rfl) (fun j hj=>h.freeAt _) (fun u hu=>(List.all_eq_true.1 h1) u hu)
 simp only [Nat.add_zero]at hst
 simp [Builtin.clear_,run_underlying hu,run_zeroB hz w,hzc,hst]
theorem wl_clear1 (sz:Nat){z:Value} (hu:P.underlying ty=some (.slice e)) (hz:zeroB P e=some z) (hzs:z.cells.size=sz) (h1:z.cells.toList.all (·.oneCell')=true) (hx:a.eval x = .slice (some ⟨b,o,none⟩) 1 c) (hfit:o+sz≤cs.size)
  (h:Sat w0 w (pt b (.cells cs T (0,0))::F)) (hK:∀ w',Sat w0 w' (pt b (.cells (putsAt cs o z.cells.toList) T (0,0))::F)→wpList P ops Q rest (a.put dst (.tuple #[])) w') :
  wpList P ops Q (⟨dst,.call { callee:= .builtin .clear,args:=#[x],argTypes:=#[ty] },t,pos,after,none⟩::rest) a w:=by
 refine wpList_plain rfl fun _ hK'=>?_
 obtain ⟨w',hr,hS⟩:=run_clear1 (P:=P) (t:=t) (c:=c) sz hu hz hzs h1 hfit h
 unfold Oper.wp execOp
 simp only [resolve,invoke,builtin,Sem.run_bind,Sem.run_pure,Result.andThen_ok,List.map_toArray,List.map_cons,List.map_nil,hx,hr]
 exact hK' _ _ (hK w' hS)
theorem at_clear (h:Stop (wpList P ops Q (⟨dst,.call { callee:= .builtin .clear,args:=#[x],argTypes:=#[ty] },t,pos,after,none⟩::rest) a w)):wpList P ops Q (⟨dst,.call { callee:= .builtin .clear,args:=#[x],argTypes:=#[ty] },t,pos,after,none⟩::rest) a w:=h.out
end
section
variable {w0 w:World}{F R:List HProp}{v bv dv x lv:Value}{q p m K:Nat}
theorem del_cells {l:List (Int×Int)}{i cap:Nat}{cs:Array Value} (hi:i<l.length) (hn:l.length≤cap) (hc:cap * 2≤cs.size) (htk:cs.toList.take (l.length * 2)=segw l) (z:List Value) (hz:z.length=2) :
  (putsAt (putsAt cs (i * 2) (segw (l.drop (i+1)))) ((l.length - 1) * 2) z).toList.take ((l.length - 1) * 2)=segw (l.eraseIdx i):=by
 have hys:(segw (l.drop (i+1))).length=(l.length - (i+1)) * 2:=by rw [segw_len,List.length_drop,Nat.mul_comm]
 have hcl:cs.toList.length=cs.size:=by simp
 rw [putsAt_list _ _ _ (by rw [putsAt_size];omega),List.append_assoc,List.take_append,List.take_take,Nat.min_self]
 have hp2:(putsAt cs (i * 2) (segw (l.drop (i+1)))).toList.length=cs.size:=(Array.length_toList).trans (putsAt_size _ _ _)
 have h1:((putsAt cs (i * 2) (segw (l.drop (i+1)))).toList.take ((l.length - 1) * 2)).length=(l.length - 1) * 2:=by
  rw [List.length_take,hp2];omega
 rw [h1,Nat.sub_self,List.take_zero,List.append_nil,putsAt_list _ _ _ oQ,List.append_assoc]
 rw [List.take_append,List.length_take,hcl,Nat.min_eq_left oQ,List.take_of_length_le (l:=cs.toList.take (i * 2)) (by rw [List.length_take];omega)]
 rw [List.take_append,hys,List.take_of_length_le (l:=segw (l.drop (i+1))) oQ,show (l.length - 1) * 2 - i * 2 - (l.length - (i+1)) * 2=0 by omega,List.take_zero,List.append_nil]
 have h2:cs.toList.take (i * 2)=segw (l.take i):=by
  have:=congrArg (List.take (i * 2)) htk
  rw [List.take_take,Nat.min_eq_left oQ]at this
  rw [this]
  conv=>lhs;rw [← List.take_append_drop i l,segw_app]
  rw [List.take_append_of_le_length (by rw [segw_len,List.length_take];omega),List.take_of_length_le (by rw [segw_len,List.length_take];omega)]
 rw [h2,← segw_app,List.eraseIdx_eq_take_drop_succ]
theorem segw_drop (l:List (Int×Int)) (i:Nat):segw (l.drop i)=(segw l).drop (i * 2):=by
 rcases Nat.lt_or_ge i l.length with h|h
 ·have h1:segw l=segw (l.take i)++segw (l.drop i):=by rw [← segw_app,List.take_append_drop]
  have h2:(segw (l.take i)).length=i * 2:=by rw [segw_len,List.length_take];omega
  rw [h1,← h2,List.drop_left]
 ·rw [List.drop_of_length_le h,List.drop_of_length_le (by rw [segw_len];omega)];rfl
theorem segw_one (l:List (Int×Int)):∀ u∈segw l,u.oneCell'=true:=by
 intro u hu
 unfold segw at hu
 rw [List.mem_flatMap]at hu
 obtain ⟨s,_,hs⟩:=hu
 simp only [List.mem_cons,List.not_mem_nil,or_false]at hs
 rcases hs with rfl|rfl <;> rfl
set_option maxRecDepth 20000 in
theorem sdelete_c (l:List (Int×Int)) (i:Nat) (hi:i<l.length) (hln:l.length≤1048576) (h:Sat w0 w (osl 145 2 lv (segw l)::F)) :
  Calls Tryz.prog 81 #[lv,.int .i64 i,.int .i64 ((i:Int)+1)] w (Rtn fun v w'=>∃ a n c,v = .slice a n c∧Sat w0 w' (osl 145 2 v (segw (l.eraseIdx i))::F)):=by
 rcases h.osl_cases with ⟨rfl,hx,hF⟩|⟨b,n',cap,cs,rfl,hll,hn',hc,hcm,htk,hp⟩
 ·exfalso
  have:=congrArg List.length hx
  rw [segw_len]at this;simp at this;omega
 rw [segw_len]at hll
 obtain rfl:n'=l.length:=by omega
 have hcm':cap≤9223372036854775807:=hcm
 have Hdel:=uQ (del_cells hi hn' hc htk [.int .i64 0,.int .i64 0] rfl)
 have h0:(0:Int)≤(i:Int):=oQ
 have h1:(i:Int)≤(i:Int)+1:=oQ
 have h2:(i:Int)+1≤(l.length:Int):=oQ
 have h3:(l.length:Int)≤(cap:Int):=oQ
 have hne:((i:Int)==(i:Int)+1)=false:=by rw [beq_eq_false_iff_ne];omega
 have Hp:=uQ hp;have Hcm:=uQ hcm;have Hc:=uQ hc;have Hn:=uQ hn';have Htk:=uQ htk;have Hi:=uQ hi;have Hln:=uQ hln
 clear hn' hc hcm htk hi h hll hln
 go_enter Tryz.func81,Tryz.ntmps81
 go_wp2_with fail
 obtain ⟨ad,had,hsl⟩:∃ ad:Addr,(i+1<l.length→ad=⟨b,(i+1) * 2,none⟩)∧∀ w,(Instr.sliceAt 138 (.slice (some ⟨b,0,none⟩) l.length cap) (some (.int .i64 ((i:Int)+1))) none none).run Tryz.prog w = .ok (.slice (some ad) (l.length - (i+1)) (cap - (i+1))) w:=by
  by_cases hce:cap=i+1
  ·refine ⟨⟨b,0,none⟩,fun hh=>by have:=Hn.out;omega,fun w=>?_⟩
   have h4:(0:Int)≤(i:Int)+1:=oQ
   have h5:((i:Int)+1).toNat=i+1:=oQ
   go_simp
  ·refine ⟨⟨b,(i+1) * 2,none⟩,fun _=>rfl,fun w=>?_⟩
   have h4:(0:Int)≤(i:Int)+1:=oQ
   have h5:((i:Int)+1).toNat=i+1:=oQ
   go_simp
 have hic:i≤cap:=oQ
 refine wpL_begin [] (fun _=>True) kQ ?_
 refine rP 0 ?_ (y:=mvQ)
 refine rP 1 ?_ (y:=mvQ)
 refine rp 2 (hy:=(by (refine Or.inl ⟨by rfl,?_⟩;((intro wq;go_simp);first|done|exact wQ)))) (h:=?_)
 refine rP 3 ?_ (y:=mvQ)
 refine rP 4 ?_ (y:=mvQ)
 refine rP 5 ?_ (y:=(yl_slice_lo evD evD hsl))
 refine rg_eff 6 evD kQ (fun K hK=>?_)
 refine eff_app_in (e:=145) (w0:=w0) (b:=b) (cs:=cs) (k:=i) (ys:=segw (l.drop (i+1))) 2 16 kQ rQ rQ Hp.out.drew (by rw [segw_len,List.length_drop,Nat.mul_comm]) ?_ (segw_one _) (by have:=Hn.out;have:=Hi.out;omega) Hc.out ?_
 ·intro j u hj
  have hjl:=(List.getElem?_eq_some_iff.1 hj).1
  rw [segw_len,List.length_drop]at hjl
  rw [had oQ,Addr.add_mid]
  rw [segw_drop,List.getElem?_drop]at hj
  exact Hp.out.drew.cellAt _ _ (take_get Htk.out hj)
 intro w2 hS2
 refine hK _ _ (.inr (.inl trivial)) ?_
 clear hK K
 rw [show i+(l.length - (i+1))=l.length - 1 by have:=Hi.out;omega]
 have hj0:(0:Int)≤((l.length - 1:Nat):Int):=oQ
 have hj1:((l.length - 1:Nat):Int)≤(l.length:Int):=oQ
 have hj2:¬ cap=l.length - 1:=by have:=Hn.out;have:=Hi.out;omega
 have hj3:l.length - (l.length - 1)=1:=by have:=Hi.out;omega
 have hfit:=uQ (show (l.length - 1) * 2+2≤(putsAt cs (i * 2) (segw (l.drop (i+1)))).size by rw [putsAt_size];have:=Hc.out;have:=Hn.out;have:=Hi.out;omega)
 have Hk:=uQ (show (segw (l.eraseIdx i)).length=(l.length - 1) * 2 by rw [segw_len,List.length_eraseIdx_of_lt Hi.out,Nat.mul_comm])
 generalize (l.length - 1)=N at *
 refine rP 7 ?_ (y:=asQ)
 refine wdQ ?_
 clear hp hsl had
 go_wp2_with ((with_reducible refine at_clear ⟨?_⟩);refine wl_clear1 (o:=N * 2) 2 Tryz.underlying138 zSeg rQ rQ rQ hfit.out hS2 ?_;intro w3 hS3)
 go_ret
 refine ⟨_,rfl,_,_,_,rfl,?_⟩
 exact Sat.osl_of_pt hS3 Hk.out (by have:=Hn.out;omega) (by rw [putsAt_size,putsAt_size];exact Hc.out) Hcm.out Hdel.out
end
section
variable {w0 w:World}{F R:List HProp}{v bv dv x lv:Value}{q p m K:Nat}{L:Seg.Log}{M:Med}{s:Int×Int}
set_option maxRecDepth 20000 in
theorem lremove_c (hL:L.Ok) (hM:M.Ok K) (hKK:K≤1099511627776) (n:Int) (h:Sat w0 w (LogRep p m L::MedRep m M::F)) :
  Calls Tryz.prog 23 #[ptr p,.int .i64 n] w (Rtn fun v w'=>v=errno (L.remove M n).2∧Sat w0 w' (LogRep p m (L.remove M n).1.1::MedRep m (L.remove M n).1.2::F)):=by
 obtain ⟨lv,hR⟩:=LogRep.open2 h
 have hok:=ok_c hR
 have hf:=lfind_c hL n h
 clear hR lv
 rcases find_neg (L:=L) n with ⟨ha,hb⟩|⟨i,ha,hb⟩
 ·have Hfin:=uQ (show L.remove M n=((L,M),9) by unfold Seg.Log.remove;rw [ha])
  rw [hb]at hf
  clear ha hb hL h
  go_enter Tryz.func23,Tryz.ntmps23
  go_wp2_with fail
  refine hok.mono ?_
  rintro e w2 ⟨v,rfl,rfl,rfl⟩
  clear hok
  go_wp2_with fail
  refine hf.mono ?_
  rintro e w2 ⟨v,rfl,rfl,hS2⟩
  clear hf
  go_wp2
  go_ret
  rw [Hfin.out]
  exact ⟨_,rfl,rfl,hS2⟩
 ·rw [hb]at hf
  have hlt:=(Seg.Log.at_lt ha).1
  have Hg:=uQ (show L.remove M n=if (M.remove (Seg.name n)).2=0 then ((L.without i,(M.remove (Seg.name n)).1),0) else ((L,(M.remove (Seg.name n)).1),(M.remove (Seg.name n)).2) by unfold Seg.Log.remove;rw [ha])
  have hi0:(0:Int)≤(i:Int):=oQ
  have hd:decide ((i:Int)<0)=false:=decide_eq_false oQ
  have Hlt:=uQ hlt;have Hln:=uQ hL.len;have Hfr:=uQ hL.fresh
  clear ha hb hL h hlt
  go_enter Tryz.func23,Tryz.ntmps23
  go_wp2_with fail
  refine hok.mono ?_
  rintro e w2 ⟨v,rfl,rfl,rfl⟩
  clear hok
  go_wp2_with fail
  refine hf.mono ?_
  rintro e w2 ⟨v,rfl,rfl,hS2⟩
  clear hf
  obtain ⟨lv,hR⟩:=LogRep.open2 hS2
  clear hS2
  go_wp2_with fail
  refine wpL_begin [6,7] (fun w'=>w'.cell? ⟨p,0,none⟩=some (ptr m)) kQ ?_
  have hG:w2.drew.cell? ⟨p,0,none⟩=some (ptr m):=hR.drew.cellP pkD 0 rfl
  refine rP 0 ?_ (y:=mvQ)
  refine rP 1 ?_ (y:=nlQ)
  refine rP 2 ?_ (y:=flQ)
  refine rt 3 (h:=?_)
  refine rP 4 ?_ (y:=mvQ)
  clear hG
  refine rg_eff 5 evD kQ (fun K hK=>?_)
  (refine eff_call1 kQ evD ?_)
  refine (sname_c n hR.drew).mono ?_
  rintro e w3 ⟨v,rfl,rfl,hS3⟩
  refine hK _ _ (.inr (.inl (hS3.cellP pkD 0 rfl))) ?_
  clear hK hR
  refine rg_eff 6 evD kQ (fun K hK=>?_)
  (refine eff_call2 kQ evD evD ?_)
  refine (remove_c hM hKK (Sat.pk aQ) _).mono ?_
  rintro e w4 ⟨v,rfl,rfl,hS4⟩
  refine hK _ _ (.inl rfl) ?_
  clear hK hS3
  refine rP 7 ?_ (y:=asQ)
  refine wdQ ?_
  clear hM
  generalize M.remove (Seg.name n)=B at *
  obtain ⟨M2,e2⟩:=B
  by_cases he:e2=0
  rotate_left
  ·have heb:(e2==0)=false:=beq_false_of_ne he
   have hfin:=uQ (Hg.out.trans (if_neg he))
   clear he
   go_wp2_with fail
   go_ret
   rw [hfin.out]
   exact ⟨_,rfl,rfl,LogRep.shut2 (lv:=lv) (Sat.sb hS4)⟩
  subst he
  have hfin:=uQ (Hg.out.trans (if_pos rfl))
  clear Hg
  obtain ⟨la,lc,rfl⟩:∃ la lc,lv = .slice la L.l.length lc:=by
   obtain ⟨a,n',c,rfl,hn,_⟩:=Sat.rd (hS4.pk (A:=osl 145 2 lv (segw L.l)))
   rw [segw_len]at hn
   exact ⟨a,c,by rw [show n'=L.l.length by omega]⟩
  have hw1:IntKind.i64.wrap ((L.l.length:Int) - 1)=(L.l.length:Int) - 1:=by rw [IntKind.wrap_i64];have:=Hln.out;omega
  have hw2:IntKind.i64.wrap ((L.l.length:Int) - L.fresh)=(L.l.length:Int) - L.fresh:=by rw [IntKind.wrap_i64];have:=Hln.out;have:=Hfr.out;omega
  have hw3:IntKind.i64.wrap (L.fresh - 1)=L.fresh - 1:=by rw [IntKind.wrap_i64];have:=Hln.out;have:=Hfr.out;omega
  have hw4:IntKind.i64.wrap ((i:Int)+1)=(i:Int)+1:=by rw [IntKind.wrap_i64];have:=Hln.out;have:=Hlt.out;omega
  have Hon:=uQ (show (L.without i).on=if ((i:Int)==(L.l.length:Int) - 1)=true then false else L.on by
   unfold Seg.Log.without
   simp only [beq_iff_eq]
   have:=Hlt.out
   by_cases hh:i+1=L.l.length
   ·rw [if_pos hh,if_pos oQ]
   ·rw [if_neg hh,if_neg oQ])
  have Hfs:=uQ (show (L.without i).fresh=if decide ((L.l.length:Int) - L.fresh≤(i:Int))=true then L.fresh - 1 else L.fresh by
   unfold Seg.Log.without
   simp only [decide_eq_true_eq])
  have Hll:=uQ (show (L.without i).l=L.l.eraseIdx i∧(L.without i).limit=L.limit from ⟨rfl,rfl⟩)
  generalize L.without i=LW at *
  obtain ⟨Wlim,Wl,Won,Wfr⟩:=LW
  obtain ⟨rfl,rfl⟩:=Hll.out
  obtain rfl:=Hon.out
  obtain rfl:=Hfs.out
  clear Hon Hfs Hll
  cases hb1:((i:Int)==(L.l.length:Int) - 1) <;> cases hb2:(decide ((L.l.length:Int) - L.fresh≤(i:Int)))
  all_goals
   go_wp2_with (first|((with_reducible refine at_load ⟨?_⟩);refine ldQ ?_)|((with_reducible refine at_store ⟨?_⟩);refine stQ ?_;intro wS hS))
   try have hS4:=hS
   have hG:(World.drew _).cell? ⟨p,2,none⟩=some (.slice la L.l.length lc)∧(World.drew _).cell? ⟨p,4,none⟩=some (.int .i64 L.fresh):=⟨hS4.drew.cellP pkD 2 rfl,hS4.drew.cellP pkD 4 rfl⟩
   refine wpL_begin [10,11] (fun w'=>w'.cell? ⟨p,2,none⟩=some (.slice la L.l.length lc)∧w'.cell? ⟨p,4,none⟩=some (.int .i64 L.fresh)) kQ ?_
   refine rP 0 ?_ (y:=mvQ)
   refine rP 1 ?_ (y:=mvQ)
   refine rP 2 ?_ (y:=nlQ)
   refine rP 3 ?_ (y:=flQ)
   refine rt 4 (h:=?_)
   refine rP 5 ?_ (y:=(yl_len evD rnD))
   refine rP 6 ?_ (y:=mvQ)
   refine rP 7 ?_ (y:=nlQ)
   refine rP 8 ?_ (y:=flQ)
   refine rt 9 (h:=?_)
   refine rP 10 ?_ (y:=bnQ)
   refine rP 11 ?_ (y:=bnQ)
   refine wdQ ?_
   clear hG
   have hS5:=hS4.drew
   clear hS4
   go_wp2_with (first|((with_reducible refine at_load ⟨?_⟩);refine ldQ ?_)|((with_reducible refine at_store ⟨?_⟩);refine stQ ?_;intro wS hS))
   refine (sdelete_c (lv:= .slice la L.l.length lc) L.l i Hlt.out Hln.out (Sat.pk aQ)).mono ?_
   rintro e w6 ⟨v,rfl,da,dn,dc,rfl,hS6⟩
   go_wp2_with ((with_reducible refine at_store ⟨?_⟩);refine stQ ?_;intro wS hS)
   go_ret
   rw [hfin.out,hb1,hb2]
   simp only [if_true,if_false,Bool.false_eq_true]
   exact ⟨_,rfl,rfl,LogRep.shut2 (lv:= .slice da dn dc) (Sat.sb hS)⟩
theorem remove_med {L:Seg.Log}{M:Med} (h:M.Ok K) (n:Int):(L.remove M n).1.2.Ok (K+1):=by
 unfold Seg.Log.remove
 split;· exact h.mono (Nat.le_succ K)
 split <;> exact h.remove _
theorem back_last {L:Seg.Log}{M:Med} (hl:L.l.getLast?=some s) (hf:0<L.fresh):L.rollback M=if (L.remove M s.1).2=0 then Seg.Log.back (L.fresh.toNat - 1) (L.remove M s.1).1.1 (L.remove M s.1).1.2 else L.remove M s.1:=by
 unfold Seg.Log.rollback
 obtain ⟨k,hk⟩:∃ k,L.fresh.toNat=k+1:=⟨L.fresh.toNat - 1,by omega⟩
 rw [hk]
 show (match L.l.getLast? with|none=>_|some s=>_)=_
 rw [hl];rfl
theorem remove_fresh {L:Seg.Log}{M:Med} (hL:L.Ok) (hl:L.l.getLast?=some s) (hf:0<L.fresh) (h:(L.remove M s.1).2=0):(L.remove M s.1).1.1.fresh=L.fresh - 1:=by
 have ha:=hL.at_last hl
 unfold Seg.Log.remove at *
 rw [ha]at h ⊢
 simp only at h ⊢
 split
 ·unfold Seg.Log.without
  have:=hL.fresh
  simp only
  rw [if_pos oQ]
 ·rename_i hh;rw [if_neg hh]at h;exact absurd h hh
set_option maxRecDepth 20000 in
theorem lrollback_c (hL:L.Ok) (hM:M.Ok K) (hKK:K+1048576≤1099511627776) (h:Sat w0 w (LogRep p m L::MedRep m M::F)) :
  Calls Tryz.prog 21 #[ptr p] w (Rtn fun v w'=>v=errno (L.rollback M).2∧Sat w0 w' (LogRep p m (L.rollback M).1.1::MedRep m (L.rollback M).1.2::F)):=by
 have hok:Calls Tryz.prog 68 #[ptr p] w (Rtn fun v w'=>v = .bool true∧w=w'):=by
  obtain ⟨lv,hR⟩:=LogRep.open2 h
  exact ok_c hR
 have Hres:=uQ (rfl:L.rollback M=L.rollback M)
 generalize hres:L.rollback M=RES at Hres ⊢
 have Hq:=uQ (show L.rollback M=RES from hres)
 have hfl:L.fresh.toNat≤1048576:=by have:=hL.fresh;have:=hL.len;omega
 have hinit:Hid (∃ (L':Seg.Log) (M':Med) (K':Nat),L'.Ok∧M'.Ok K'∧K'+L'.fresh.toNat≤1099511627776∧L'.rollback M'=RES∧L'.fresh.toNat=L.fresh.toNat∧Sat w0 w (LogRep p m L'::MedRep m M'::F)):=uQ ⟨L,M,K,hL,hM,by omega,hres,rfl,h⟩
 clear hres Hres hL hM h Hq hfl
 go_enter Tryz.func21,Tryz.ntmps21
 go_wp2_with fail
 refine hok.mono ?_
 rintro e w2 ⟨v,rfl,rfl,rfl⟩
 clear hok
 go_wp2_with fail
 go_loopg [] L.fresh.toNat (fun g wr=>∃ (L':Seg.Log) (M':Med) (K':Nat),L'.Ok∧M'.Ok K'∧K'+L'.fresh.toNat≤1099511627776∧L'.rollback M'=RES∧L'.fresh.toNat=g∧Sat w0 wr (LogRep p m L'::MedRep m M'::F))
 case atStart=>exact hinit.out
 case round=>
  obtain ⟨L1,M1,K1,hL,hM,hKK1,hres,rfl,hS⟩:=hrel
  clear hinit
  by_cases hf:0<L1.fresh
  ·have hne:L1.l≠[]:=by intro e;have:=hL.fresh;rw [e]at this;simp at this;omega
   obtain ⟨s,hl⟩:∃ s,L1.l.getLast?=some s:=⟨_,List.getLast?_eq_some_getLast hne⟩
   have hbl:=back_last (M:=M1) hl hf
   rw [hres]at hbl
   have Hbl:=uQ hbl
   have Hrf:=uQ (remove_fresh (M:=M1) hL hl hf)
   have HL2:=uQ (hL.remove M1 s.1)
   have HM2:=uQ (remove_med (L:=L1) hM s.1)
   have hrm:=lremove_c hL hM oQ s.1 hS.drew
   obtain ⟨lv,hR⟩:=LogRep.open2 hS
   have hlen:=hL.len
   obtain ⟨bk,n,cap,cs,rfl,hb,c0,c1,hB⟩:=seg_block2 hl hR
   have hn:=hb.len
   have hn0:(n:Int)<(n:Int)+1:=oQ
   have hwn:IntKind.i64.wrap (n:Int)=(n:Int):=by rw [IntKind.wrap_i64];omega
   have e4:wr.cell? ⟨p,4,none⟩=some (.int .i64 L1.fresh):=hB.cellP pkD 4 rfl
   have hG:wr.drew.cell? ⟨p,2,none⟩=some (.slice (some ⟨bk,0,none⟩) (n+1) cap)∧wr.drew.cell? ⟨bk,n * 2,none⟩=some (.int .i64 s.1):=⟨hB.drew.cellP pkD 2 rfl,hB.drew.cellP pkD _ c0⟩
   have Hf:=uQ (show 0<L1.fresh∧K1+L1.fresh.toNat≤1099511627776 from ⟨hf,hKK1⟩)
   clear hbl hne hl hb c0 c1 hB hR hlen hn hres hL hM hKK1
   go_wp2_with fail
   refine wpL_begin [14,15] (fun w'=>w'.cell? ⟨p,2,none⟩=some (.slice (some ⟨bk,0,none⟩) (n+1) cap)∧w'.cell? ⟨bk,n * 2,none⟩=some (.int .i64 s.1)) kQ ?_
   refine rP 0 ?_ (y:=mvQ)
   refine rP 1 ?_ (y:=mvQ)
   refine rP 2 ?_ (y:=nlQ)
   refine rP 3 ?_ (y:=flQ)
   refine rt 4 (h:=?_)
   refine rP 5 ?_ (y:=mvQ)
   refine rP 6 ?_ (y:=nlQ)
   refine rP 7 ?_ (y:=flQ)
   refine rt 8 (h:=?_)
   refine rP 9 ?_ (y:=(yl_len evD rnD))
   refine rP 10 ?_ (y:=bnQ)
   refine rP 11 ?_ (y:=ixQ)
   refine rP 12 ?_ (y:=flQ)
   refine rt 13 (h:=?_)
   clear hG e4
   refine rg_eff 14 evD kQ (fun K hK=>?_)
   (refine eff_call2 kQ evD evD ?_)
   refine hrm.mono ?_
   rintro e w3 ⟨v,rfl,rfl,hS3⟩
   refine hK _ _ (.inl rfl) ?_
   clear hK hS hrm
   refine rP 15 ?_ (y:=asQ)
   refine wdQ ?_
   generalize L1.remove M1 s.1=A at *
   obtain ⟨⟨L2,M2⟩,e2⟩:=A
   by_cases he:e2=0
   ·subst he
    have H1:=uQ (Hbl.out.trans (if_pos rfl))
    have H2:=uQ (show L2.fresh=L1.fresh - 1 from Hrf.out rfl)
    go_wp2_with fail
    go_roundg L2.fresh.toNat
    case measure=>have:=H2.out;have:=Hf.out;omega
    case rel=>
     refine ⟨L2,M2,K1+1,HL2.out,HM2.out,?_,?_,rfl,hS3⟩
     ·have:=H2.out;have:=Hf.out;omega
     ·rw [H1.out]
      unfold Seg.Log.rollback
      congr 1
      have:=H2.out;have:=Hf.out;omega
   ·have heb:(e2==0)=false:=beq_false_of_ne he
    have H1:=uQ (Hbl.out.trans (if_neg he))
    clear he
    go_wp2_with fail
    go_ret
    rw [H1.out]
    exact ⟨_,rfl,rfl,hS3⟩
  ·have hz:L1.fresh.toNat=0:=by omega
   have H1:=uQ (show RES=(({ L1 with on:=false },M1),0) by
    rw [← hres];unfold Seg.Log.rollback;rw [hz];rfl)
   obtain ⟨lv,hR⟩:=LogRep.open2 hS
   have hle:L1.fresh≤0:=oQ
   clear hres hL hM hKK1 hz hS
   go_wp2_with (first|((with_reducible refine at_load ⟨?_⟩);refine ldQ ?_)|((with_reducible refine at_store ⟨?_⟩);refine stQ ?_;intro wS hS))
   go_ret
   rw [H1.out]
   exact ⟨_,rfl,rfl,LogRep.shut2 (lv:=lv) (Sat.sb hS)⟩
end
end Go.Proofs.YtmjldaedhmipkaaGreatDoor
namespace Go.Seg
open Go.Med
def Log.read (L:Log) (M:Med) (q:Plc):Frm.Ent×Int:=
 match L.at q.seg with
 |none=>(Frm.zeroE,9)
 |some _=>
  if (M.read (name q.seg) q.at_ q.size).2≠0 then (Frm.zeroE,(M.read (name q.seg) q.at_ q.size).2)
  else if (Frm.read (M.read (name q.seg) q.at_ q.size).1).2.2≠0 then (Frm.zeroE,(Frm.read (M.read (name q.seg) q.at_ q.size).1).2.2)
  else if (Frm.read (M.read (name q.seg) q.at_ q.size).1).2.1≠(M.read (name q.seg) q.at_ q.size).1.length then (Frm.zeroE,4)
  else ((Frm.read (M.read (name q.seg) q.at_ q.size).1).1,0)
end Go.Seg
namespace Go.Proofs.YtmjldaedhmipkaaGreatDoor
open Go Go.Sl Go.Med Go.MapKept Go.RowKit
section
variable {w0 w:World}{F R:List HProp}{v bv dv x lv:Value}{q p m K:Nat}{L:Seg.Log}{M:Med}{s:Int×Int}
end
end Go.Proofs.YtmjldaedhmipkaaGreatDoor
namespace Go.Seg
open Go.Med
structure Alike (M M':Med):Prop where
 now:M'.now=M.now
 room:M'.room=M.room
 off:M'.off=M.off
 bytes:∀ p∈M.now,(M'.file p.2).now=(M.file p.2).now
structure Calm (K room:Nat) (M:Med):Prop where
 ok:M.Ok K
 quiet:Quiet M
 dst:Dst M
 used:M.used≤M.room
 room:M.room=room
section
variable {K r:Nat}{M:Med}{L:Log}
theorem Calm.new (K r:Nat) (h:r≤16777216):Calm K r (new r):=⟨Med.Ok.new K r h,Quiet.new r,List.nodup_nil,Nat.zero_le _,rfl⟩
def Has (L:Log) (M:Med):Prop:=∀ s∈L.l,∃ i,nget M.now (name s.1)=some i
structure Keeps (K r:Nat) (L:Log) (M:Med):Prop where
 log:L.Ok
 calm:Calm K r M
 has:Has L M
theorem size_enc {x:Frm.Ent} (h:(Frm.encode x).2=0) (hk:x.key.length=32):(Frm.encode x).1.length=Frm.size x:=by
 unfold Frm.encode at *
 split at h
 ·rename_i hc;exact absurd h hc
 ·rename_i hc
  rw [if_neg hc]
  unfold Frm.body Frm.size
  simp only [List.length_append,Frm.le_len,List.length_singleton,if_neg hc]
  split
  ·rename_i ht
   have:x.data.length=0:=by
    simp only [Decidable.not_not]at hc
    unfold Frm.check at hc
    rw [ht]at hc
    simp only [show ¬ ((2:Int)=0) by decide,if_false,if_true]at hc
    split at hc
    ·cases hc
    split at hc
    ·cases hc
    omega
   simp;omega
  ·omega
end
end Go.Seg
namespace Go.Proofs.YtmjldaedhmipkaaGreatDoor
open Go Go.Sl Go.Med Go.MapKept Go.RowKit
section
variable {w0 w:World}{F:List HProp}{v bv dv x lv:Value}{q p m K:Nat}{L:Seg.Log}{M M1 M2:Med}{nm:ByteArray}
end
section
variable {w0 w:World}{F:List HProp}{v bv dv x lv:Value}{q p m K:Nat}{lim fr:Int}{M M1 M2:Med}{nm:ByteArray}{b:Bs}
end
def comE:Frm.Ent:=⟨2,Frm.zero32,[]⟩
def comB:Bs:=(Frm.encode comE).1
def liveM:Med:=Med.new 1000
theorem live_alive:Seg.alive liveM=0:=by kernel_rfl
theorem live_fresh:Seg.fresh liveM 200=⟨200,[],false,0⟩:=by kernel_rfl
section
variable {w0 w:World}{F:List HProp}
end
end Go.Proofs.YtmjldaedhmipkaaGreatDoor
namespace Go.Seg
end Go.Seg
namespace Go.Proofs.YtmjldaedhmipkaaGreatDoor
open Go Go.Sl Go.Med Go.MapKept Go.RowKit
section
variable {w0 w:World}{F:List HProp}
end
end Go.Proofs.YtmjldaedhmipkaaGreatDoor
namespace Go.Frm
def encs (l:List Ent):Bs:=l.flatMap fun x=>(encode x).1
def GoodE (x:Ent):Prop:=(encode x).2=0∧x.key.length=32
end Go.Frm
namespace Go.Seg
open Go.Med
open Go.Frm (encs GoodE)
section
variable {K r:Nat}{M:Med}{L:Log}
structure Holds (n:Nat) (L:Log) (M:Med) (C:List (List Frm.Ent)):Prop where
 keeps:Keeps (n * 5) 1048576 L M
 len:L.l.length=C.length
 at_:∀ (k:Nat) (es:List Frm.Ent),C[k]?=some es→L.l[k]?=some ((k:Int),8+((encs es).length:Int))
 file:∀ (k:Nat) (es:List Frm.Ent),C[k]?=some es→M.all (name k)=(mag++encs es,0)
 good:∀ es∈C,(∀ x∈es,GoodE x)∧es≠[]
 fit:∀ es∈C,8+((encs es).length:Int)≤L.limit∨es.length=1
 count:C.length≤n
 used:M.used≤n * 400
 names:M.now.length≤n
 only:∀ (s:ByteArray) (i:Nat),nget M.now s=some i→∃ k:Nat,k<C.length∧s=name k
def put (C:List (List Frm.Ent)) (on:Bool) (x:Frm.Ent):List (List Frm.Ent):=if on then C.dropLast++[C.getLastD []++[x]] else C++[[x]]
variable {n:Nat}{C:List (List Frm.Ent)}
theorem enc_small {x:Frm.Ent} (h0:(Frm.encode x).2=0) (hk:x.key.length=32) (hd:x.data.length≤300):(Frm.encode x).1.length≤341:=by
 rw [size_enc h0 hk]
 unfold Frm.size
 split
 ·omega
 ·split <;> omega
end
end Go.Seg
namespace Go.Seg
structure Cal where
 kind:Int
 e:Frm.Ent
 n:Int
 p:Plc
 l:List Int
def Cal.cut (c:Cal):Cal:=⟨c.kind,Frm.cutE 300 c.e,c.n,c.p,c.l.take 60⟩
end Go.Seg
namespace Go.Proofs.YtmjldaedhmipkaaGreatDoor
open Go Go.Sl Go.Med Go.MapKept Go.RowKit
structure SD where
 c:Seg.Cal
 dv:Value
 lv:Value
def sdL (d:SD):List Value:= .int .i64 d.c.kind::(entL d.c.e d.dv++[.int .i64 d.c.n,.int .i64 d.c.p.seg,.int .i64 d.c.p.at_,.int .i64 d.c.p.size,d.lv])
def sdsL (ds:List SD):List Value:=ds.flatMap sdL
structure SDRo (w0:World) (F:List HProp) (d:SD):Prop where
 key:d.c.e.key.length=32
 rd:Ro w0 F (rdsl 1 d.dv (bys d.c.e.data))
 cap:capOk d.dv
 rl:Ro w0 F (rdsl 1 d.lv (ints d.c.l))
 capl:capOk d.lv
theorem sdL_len (d:SD) (hk:d.c.e.key.length=32):(sdL d).length=40:=by
 unfold sdL
 rw [List.length_cons,List.length_append,entL_len _ _ hk];rfl
theorem sdL_ent (d:SD) (hk:d.c.e.key.length=32){j:Nat}{v:Value} (h:(entL d.c.e d.dv)[j]?=some v):(sdL d)[1+j]?=some v:=by
 unfold sdL
 rw [Nat.add_comm,List.getElem?_cons_succ,List.getElem?_append_left (List.getElem?_eq_some_iff.1 h).1]
 exact h
theorem sdL_tail (d:SD) (hk:d.c.e.key.length=32) (j:Nat):(sdL d)[35+j]?=([.int .i64 d.c.n,.int .i64 d.c.p.seg,.int .i64 d.c.p.at_,.int .i64 d.c.p.size,d.lv]:List Value)[j]?:=by
 unfold sdL
 rw [show 35+j=34+j+1 by omega,List.getElem?_cons_succ,List.getElem?_append_right (by rw [entL_len _ _ hk];omega),entL_len _ _ hk,Nat.add_sub_cancel_left]
theorem sdsL_at {ds:List SD} (hk:∀ d∈ds,d.c.e.key.length=32){i:Nat}{d:SD} (hi:ds[i]?=some d){j:Nat}{y:Value} (hj:(sdL d)[j]?=some y):(sdsL ds)[i * 40+j]?=some y:=by
 induction ds generalizing i with
 |nil=>simp at hi
 |cons x ds ih=>
  have hx:=sdL_len x (hk x (.head _))
  unfold sdsL at *
  rw [List.flatMap_cons]
  cases i with
  |zero=>
   obtain rfl:x=d:=by simpa using hi
   rw [List.getElem?_append_left (by have:=(List.getElem?_eq_some_iff.1 hj).1;omega),Nat.zero_mul,Nat.zero_add]
   exact hj
  |succ i=>
   rw [List.getElem?_append_right (by rw [hx];omega),hx,show (i+1) * 40+j - 40=i * 40+j by omega]
   exact ih (fun d hd=>hk d (.tail _ hd)) (by simpa using hi)
theorem sdsL_len {ds:List SD} (hk:∀ d∈ds,d.c.e.key.length=32):(sdsL ds).length=40 * ds.length:=by
 unfold sdsL
 induction ds with
 |nil=>rfl
 |cons x ds ih=>rw [List.flatMap_cons,List.length_append,sdL_len x (hk x (.head _)),ih (fun d hd=>hk d (.tail _ hd)),List.length_cons];omega
section
variable {w0 w:World}{F R:List HProp}{v bv dv x lv:Value}
theorem rdsl_cutI {k:Nat}{l:List Int}{a:Option Addr}{n c:Nat} (h:rdsl 1 (.slice a n c) (ints l) w):rdsl 1 (.slice a (min n k) c) (ints (l.take k)) w:=by
 obtain ⟨a',n',c',he,hl,hx⟩:=h
 cases he
 have hil:∀ l:List Int,(ints l).length=l.length:=fun l=>List.length_map ..
 rw [hil,Nat.mul_one]at hl
 refine ⟨a,_,c,rfl,by rw [hil,List.length_take];omega,fun j y hj=>?_⟩
 have hj':(ints l)[j]?=some y:=by
  unfold ints at hj ⊢
  rw [List.map_take,List.getElem?_take]at hj
  split at hj
  ·exact hj
  ·cases hj
 exact hx j y hj'
end
section
variable {w0 w:World}{F R:List HProp}{v bv dv x lv:Value}
theorem within_mem (x lo hi:Int) (h:lo≤hi):lo≤within x lo hi∧within x lo hi≤hi:=by
 unfold within
 split
 ·exact ⟨Int.le_refl _,h⟩
 ·split <;> omega
end
end Go.Proofs.YtmjldaedhmipkaaGreatDoor
namespace Go.Seg
open Go.Med
theorem bytes_len {K:Nat}{L:Log}{M:Med} (h:M.Ok K) (n:Int):(L.bytes M n).1.length≤16777216:=by
 unfold Log.bytes
 split
 ·simp
 ·unfold Med.all
  split
  ·simp
  split
  ·simp
  ·exact (h.file _).now_len
end Go.Seg
namespace Go.Seg
open Go.Med
open Go.Frm (encs GoodE)
section
variable {n:Nat}{M:Med}{L:Log}{C:List (List Frm.Ent)}
def noCom (es:List Frm.Ent):Prop:=∀ x∈es,x.tag≠2
end
end Go.Seg
namespace Go.Proofs.YtmjldaedhmipkaaGreatDoor
open Go Go.Sl Go.Med Go.MapKept Go.RowKit
section
variable {w0 w:World}{F R:List HProp}{v bv dv x lv:Value}
end
end Go.Proofs.YtmjldaedhmipkaaGreatDoor
namespace Go.Seg
open Go.Med
end Go.Seg
namespace Go.Proofs.YtmjldaedhmipkaaGreatDoor
open Go Go.Sl Go.Med Go.MapKept Go.RowKit
section
variable {w0 w:World}{F R:List HProp}{v bv dv x lv:Value}
end
section
variable {w0 w:World}{F R:List HProp}{v bv dv x lv:Value}
theorem fndsL_at {fs:List (Frm.Fnd×Value)} (hk:∀ p∈fs,p.1.e.key.length=32){i:Nat}{p:Frm.Fnd×Value} (hi:fs[i]?=some p){j:Nat}{y:Value} (hj:(fndL p.1 p.2)[j]?=some y):(fndsL fs)[i * 36+j]?=some y:=by
 induction fs generalizing i with
 |nil=>simp at hi
 |cons x fs ih=>
  have hx:=fndL_len x.1 x.2 (hk x (.head _))
  unfold fndsL at *
  rw [List.flatMap_cons]
  cases i with
  |zero=>
   obtain rfl:x=p:=by simpa using hi
   rw [List.getElem?_append_left (by have:=(List.getElem?_eq_some_iff.1 hj).1;omega),Nat.zero_mul,Nat.zero_add]
   exact hj
  |succ i=>
   rw [List.getElem?_append_right (by rw [hx];omega),hx,show (i+1) * 36+j - 36=i * 36+j by omega]
   exact ih (fun d hd=>hk d (.tail _ hd)) (by simpa using hi)
theorem fndL_ent (f:Frm.Fnd) (dv:Value){j:Nat}{y:Value} (h:(entL f.e dv)[j]?=some y):(fndL f dv)[j]?=some y:=by
 unfold fndL
 rw [List.getElem?_append_left (List.getElem?_eq_some_iff.1 h).1]
 exact h
theorem fnds_at {fs:List (Frm.Fnd×Value)}{v:Value}{i:Nat}{p:Frm.Fnd×Value} (hk:∀ p∈fs,p.1.e.key.length=32) (hi:fs[i]?=some p) (h:Sat w0 w (osl 203 36 v (fndsL fs)::R)) :
  ∃ bk off c,v = .slice (some ⟨bk,off,none⟩) fs.length c∧∀ j y,(entL p.1.e p.2)[j]?=some y→w.cell? ⟨bk,off+i * 36+j,none⟩=some y:=by
 have hr:=Sat.rd h
 obtain ⟨a,n,c,rfl,hl,hx⟩:=id hr
 rw [fndsL_len hk]at hl
 obtain rfl:n=fs.length:=by omega
 have hx0:(fndsL fs)[i * 36+0]?=some (.int .i64 p.1.e.tag):=fndsL_at hk hi (fndL_ent _ _ rfl)
 obtain ⟨bk,off,rfl,hcell⟩:=rdsl_cells hr hx0
 refine ⟨bk,off,c,rfl,fun j y hj=>?_⟩
 have:=hcell _ _ (fndsL_at hk hi (fndL_ent _ _ hj))
 rw [← Nat.add_assoc]at this
 exact this
theorem fnds_sl {fs:List (Frm.Fnd×Value)}{v:Value} (hk:∀ p∈fs,p.1.e.key.length=32) (h:Sat w0 w (osl 203 36 v (fndsL fs)::R)):∃ a c,v = .slice a fs.length c:=by
 obtain ⟨a,n,c,rfl,hl,hx⟩:=Sat.rd h
 rw [fndsL_len hk]at hl
 obtain rfl:n=fs.length:=by omega
 exact ⟨a,c,rfl⟩
theorem dataF_at:∀ (fs:List (Frm.Fnd×Value)) (i:Nat) (p:Frm.Fnd×Value),fs[i]?=some p→∃ G,dataF fs=star (bsl p.2 p.1.e.data) G
 |[],_,_,h=>by cases h
 |x::fs,0,p,h=>by
  obtain rfl:x=p:=by simpa using h
  exact ⟨_,rfl⟩
 |x::fs,i+1,p,h=>by
  obtain ⟨G,hG⟩:=dataF_at fs i p (by simpa using h)
  refine ⟨star (bsl x.2 x.1.e.data) G,?_⟩
  show star (bsl x.2 x.1.e.data) (dataF fs)=_
  rw [hG,star_left_comm]
theorem dataF_ro {fs:List (Frm.Fnd×Value)}{i:Nat}{p:Frm.Fnd×Value} (h:fs[i]?=some p):Ro w0 (dataF fs::R) (rdsl 1 p.2 (bys p.1.e.data)):=fun w hw=>by
 obtain ⟨G,hG⟩:=dataF_at fs i p h
 rw [hG]at hw
 exact Sat.rd (Sat.star.1 hw)
theorem bsl_capL {l:Bs} (h:Sat w0 w (bsl v l::R)):capOk v∧∃ a c,v = .slice a l.length c:=by
 refine ⟨bsl_cap h,?_⟩
 obtain ⟨a,n,c,rfl,_,_,rfl⟩:=bsl_cap' h
 exact ⟨a,c,rfl⟩
end
section
variable {w0 w:World}{F R:List HProp}{v bv dv x lv:Value}
end
end Go.Proofs.YtmjldaedhmipkaaGreatDoor
namespace Go.Frm
theorem scanL_count:∀ (k:Nat) (b:Bs) (at_:Nat),(scanL k b at_).1.length≤k
 |0,_,_=>Nat.le_refl 0
 |k+1,b,at_=>by
  unfold scanL
  split
  ·exact Nat.zero_le _
  split
  ·exact Nat.zero_le _
  ·simp only [List.length_cons]
   have:=scanL_count k
   exact Nat.succ_le_succ (this _ _)
theorem scan_count (b:Bs):(scan b).1.length≤b.length:=by
 unfold scan
 split
 ·exact scanL_count _ _ _
 ·exact Nat.zero_le _
end Go.Frm
namespace Go.Proofs.YtmjldaedhmipkaaGreatDoor
open Go Go.Sl Go.Med Go.MapKept Go.RowKit
abbrev lbt (L:Seg.Log) (M:Med):Rep.Told:=fun n=>L.bytes M n
section
variable {w0 w:World}{F:List HProp}{p m K:Nat}{L:Seg.Log}{M:Med}{sv:Value}
set_option maxRecDepth 20000 in
theorem split_c (hL:L.Ok) (hM:M.Ok K) (hH:Ro w0 F Half) (h:Sat w0 w (osl 3 1 sv (ints L.segs)::LogRep p m L::MedRep m M::F)) :
  Calls Tryz.prog 110 #[ptr p,sv] w (Rtn fun v w'=>v = .tuple #[.int .i64 (Rep.split (lbt L M) L.segs L.segs.length).1,errno (Rep.split (lbt L M) L.segs L.segs.length).2] ∧
   Sat w0 w' (osl 3 1 sv (ints L.segs)::LogRep p m L::MedRep m M::F)):=by
 have HL:=uQ hL;have HM:=uQ hM;have HH:=uQ hH
 have Hlen:=uQ (show L.segs.length≤1073741824 from by unfold Seg.Log.segs;rw [List.length_map];have:=hL.len;omega)
 obtain ⟨sa,sc,rfl⟩:∃ a c,sv = .slice a L.segs.length c:=by
  obtain ⟨a,n,c,rfl,hl,_⟩:=Sat.rd h
  refine ⟨a,c,?_⟩
  rw [show (ints L.segs).length=L.segs.length from List.length_map ..,Nat.mul_one]at hl
  rw [hl]
 have w1:IntKind.i64.wrap ((L.segs.length:Int) - 1)=(L.segs.length:Int) - 1:=IntWalk.i64_in _ (by have:=Hlen.out;omega)
 clear hL hM hH
 go_enter Tryz.func110,Tryz.ntmps110
 go_wp2_with fail
 go_loopg [6] L.segs.length (fun g iq wr=>∃ k:Nat,g=0+k∧k≤L.segs.length∧iq = .int .i64 ((k:Int) - 1)∧Rep.split (lbt L M) L.segs L.segs.length=Rep.split (lbt L M) L.segs k ∧
  Sat w0 wr (osl 3 1 (.slice sa L.segs.length sc) (ints L.segs)::LogRep p m L::MedRep m M::F))
 case atStart=>exact ⟨L.segs.length,(Nat.zero_add _).symm,Nat.le_refl _,rfl,rfl,h⟩
 case round=>
  obtain ⟨k,rfl,hk,rfl,he,hS⟩:=hrel
  clear h
  cases k with
  |zero=>
   have c1:¬ (((0:Nat):Int) - 1)≥0:=by decide
   have He:=uQ he
   clear he
   go_wp2_with fail
   go_ret2
   rw [He.out]
   exact ⟨_,rfl,rfl,hS⟩
  |succ k=>
   have e1:((k+1:Nat):Int) - 1=(k:Int):=oQ
   rw [e1]
   have c1:(k:Int)≥0:=oQ
   have c2:(k:Int)<(L.segs.length:Int):=oQ
   have w2:IntKind.i64.wrap ((k:Int) - 1)=(k:Int) - 1:=IntWalk.i64_in _ (by have:=Hlen.out;omega)
   have w3:IntKind.i64.wrap ((k:Int)+1)=((k+1:Nat):Int):=by rw [IntWalk.i64_in _ (by have:=Hlen.out;omega)];omega
   obtain ⟨s,hs⟩:∃ s,L.segs[k]?=some s:=⟨_,List.getElem?_eq_getElem oQ⟩
   have hgd:L.segs.getD k 0=s:=by rw [List.getD,hs];rfl
   have Hu:=uQ (show Rep.split (lbt L M) L.segs (k+1)=if (L.bytes M s).2≠0 then (0,(L.bytes M s).2) else if (Frm.scan (L.bytes M s).1).2.2=0∧Rep.endedF (Frm.scan (L.bytes M s).1).1=true then (k+1,0) else Rep.split (lbt L M) L.segs k by
    rw [Rep.split,hgd])
   obtain ⟨bk,off,cc,hsv,hcell⟩:=osl_row (f:=fun i:Int=>[Value.int .i64 i]) (k:=1) (l:=L.segs) (fun u _=>rfl) (by have:=Sat.rd hS;rw [show ints L.segs=L.segs.flatMap fun i=>[Value.int .i64 i] from by unfold ints;exact List.map_eq_flatMap]at this;exact this) hs dQ
   cases hsv
   have f0:=hcell 0 _ rfl
   rw [Nat.mul_one,Nat.add_zero]at f0
   have He:=uQ he
   have hb:=lbytes_c HL.out HM.out s (hS.sb:Sat w0 wr (LogRep p m L::MedRep m M::osl 3 1 (.slice (some ⟨bk,off,none⟩) L.segs.length sc) (ints L.segs)::F))
   have hk':=uQ hk
   clear hcell hs hgd he hS hk
   go_wp2_with fail
   refine hb.mono ?_
   rintro ee w3 ⟨v,rfl,bv,rfl,hS3⟩
   clear hb
   obtain ⟨hcap,ca,cc,rfl⟩:=bsl_capL hS3
   by_cases h0:(L.bytes M s).2=0
   rotate_left
   ·have hb:((L.bytes M s).2 != 0)=true:=by rw [bne_iff_ne];exact h0
    have Hf:=uQ (show Rep.split (lbt L M) L.segs (k+1)=(0,(L.bytes M s).2) by rw [Hu.out,if_pos h0])
    clear h0
    go_wp2_with fail
    go_ret2
    rw [He.out,Hf.out]
    exact ⟨_,rfl,rfl,hS3.sb⟩
   have hb:((L.bytes M s).2 != 0)=false:=by rw [h0];rfl
   have H0:=uQ h0
   rw [h0]
   clear h0
   have hbl:=Seg.bytes_len (L:=L) HM.out s
   have hsc:=fscan_c (w0:=w0) (w:=w3) (L.bytes M s).1 (Ro.bsl _ _) hcap (Ro.os HH.out) (Nat.le_trans hbl dQ) hS3
   have Hbl:=uQ hbl
   clear hcap hbl
   go_wp2_with fail
   refine hsc.mono ?_
   rintro ee w4 ⟨v,rfl,fs,fv,hfs,hfk,rfl,hS4⟩
   clear hsc hS3
   obtain ⟨fa,fc,rfl⟩:=fnds_sl hfk hS4
   have hS5:Sat w0 w4 (osl 3 1 (.slice (some ⟨bk,off,none⟩) L.segs.length sc) (ints L.segs)::LogRep p m L::MedRep m M::F):=hS4.sb
   by_cases h1:(Frm.scan (L.bytes M s).1).2.2=0
   rotate_left
   ·have hb1:((Frm.scan (L.bytes M s).1).2.2==0)=false:=by rw [beq_eq_false_iff_ne];exact h1
    have Hf:=uQ (show Rep.split (lbt L M) L.segs (k+1)=Rep.split (lbt L M) L.segs k by rw [Hu.out,if_neg (fun h=>h H0.out),if_neg (fun h=>h1 h.1)])
    clear h1 hS4 hfs hfk
    go_wp2_with fail
    go_roundg (0+k)
    case measure=>omega
    case rel=>exact ⟨k,rfl,Nat.le_of_succ_le hk'.out,by first|rfl|go_num,He.out.trans Hf.out,hS5⟩
   have hb1:((Frm.scan (L.bytes M s).1).2.2==0)=true:=beq_iff_eq.2 h1
   have hen:=ended_c (w:=w4) fs hfk (by
    have:=Frm.scan_count (L.bytes M s).1
    rw [← hfs,List.length_map]at this
    have:=Hbl.out;omega) (Sat.rd hS4)
   rw [hfs]at hen
   clear hS4 hfs hfk
   by_cases h2:Rep.endedF (Frm.scan (L.bytes M s).1).1=true
   ·have Hf:=uQ (show Rep.split (lbt L M) L.segs (k+1)=(k+1,0) by rw [Hu.out,if_neg (fun h=>h H0.out),if_pos ⟨h1,h2⟩])
    rw [h2]at hen
    clear h1 h2
    go_wp2_with fail
    refine hen.mono ?_
    rintro ee w5 ⟨v,rfl,rfl,rfl⟩
    clear hen
    go_wp2_with fail
    go_ret2
    rw [He.out,Hf.out]
    exact ⟨_,rfl,rfl,hS5⟩
   ·have Hf:=uQ (show Rep.split (lbt L M) L.segs (k+1)=Rep.split (lbt L M) L.segs k by rw [Hu.out,if_neg (fun h=>h H0.out),if_neg (fun h=>h2 h.2)])
    rw [Bool.not_eq_true]at h2
    rw [h2]at hen
    clear h1 h2
    go_wp2_with fail
    refine hen.mono ?_
    rintro ee w5 ⟨v,rfl,rfl,rfl⟩
    clear hen
    go_wp2_with fail
    go_roundg (0+k)
    case measure=>omega
    case rel=>exact ⟨k,rfl,Nat.le_of_succ_le hk'.out,by first|rfl|go_num,He.out.trans Hf.out,hS5⟩
end
end Go.Proofs.YtmjldaedhmipkaaGreatDoor
namespace Go.Rep
end Go.Rep
namespace Go.Proofs.YtmjldaedhmipkaaGreatDoor
open Go Go.Sl Go.Med Go.MapKept Go.RowKit
section
variable {w0 w:World}{F:List HProp}{p m K:Nat}{L:Seg.Log}{M:Med}{sv:Value}
theorem ints_cell {sv:Value}{l:List Int}{i:Nat}{s:Int} (h:rdsl 1 sv (ints l) w) (hs:l[i]?=some s):∃ bk off c,sv = .slice (some ⟨bk,off,none⟩) l.length c∧w.cell? ⟨bk,off+i,none⟩=some (.int .i64 s):=by
 obtain ⟨bk,off,cc,hsv,hcell⟩:=osl_row (f:=fun i:Int=>[Value.int .i64 i]) (k:=1) (l:=l) (fun u _=>rfl) (by rw [show ints l=l.flatMap fun i=>[Value.int .i64 i] from by unfold ints;exact List.map_eq_flatMap]at h;exact h) hs dQ
 have f0:=hcell 0 _ rfl
 rw [Nat.mul_one,Nat.add_zero]at f0
 exact ⟨bk,off,cc,hsv,f0⟩
end
section
variable {P:Program}{w0 w:World}{ops:Array Oper}{rest:List Oper}{a:Act}{Q:Exit→Act→World→Prop}{dst:Option Tmp}{t ty:TypeId}{pos:String}{after:Array Edge}{x y:Operand}{v v1 v2:Value}{i1 i2:Nat}
theorem wl_build2 (h1:a.eval x=v1) (h2:a.eval y=v2) (hr:∀ w,(Instr.build ty #[(i1,v1),(i2,v2)]).run P w = .ok v w) (h:wpList P ops Q rest (a.put dst v) w) :
  wpList P ops Q (⟨dst,.build ty #[(i1,x),(i2,y)],t,pos,after,none⟩::rest) a w:=
 wpList_plain rfl fun _ hK=>by
  unfold Oper.wp execOp
  simp only [List.map_toArray,List.map_cons,List.map_nil,h1,h2,Sem.run_bind,hr,Result.andThen_ok,Sem.run_pure]
  exact hK _ _ h
theorem wl_build0 (hr:∀ w,(Instr.build ty #[]).run P w = .ok v w) (h:wpList P ops Q rest (a.put dst v) w):wpList P ops Q (⟨dst,.build ty #[],t,pos,after,none⟩::rest) a w:=
 wpList_plain rfl fun _ hK=>by
  unfold Oper.wp execOp
  simp only [List.map_toArray,List.map_nil,Sem.run_bind,hr,Result.andThen_ok,Sem.run_pure]
  exact hK _ _ h
theorem res_cell {L R:List HProp}{b:Nat}{T:TypeId}{cs:Array Value}{fn:Func}{p:Tmp}{tmps:Array Value}{d:TypeDesc} (hf:fn.results=#[.cell p ty]) (hs:Sat w0 w L) (hp:tmps.getD p undef = .pointer (some ⟨b,0,none⟩)) (k:Pick (pt b (.cells cs T (0,0))) L R)
  (hu:P.underlying ty=some d) (hd:d.isRow=true) (hi:(P.info? ty).map (·.size)=some cs.size):(results fn tmps).run P w = .ok (.agg cs) w:=by
 have hl:=run_loadVar_row (P:=P) w b T ty cs (0,0) d (hs.pick k).at hu (by cases d <;> simp_all [TypeDesc.isRow]) hi
 have e:(results fn tmps).run P w=((asAddr (tmps.getD p undef)).run P w).andThen fun a w₁=>(loadVar ty a).run P w₁:=by
  simp only [results,hf]
  simp [Sem.run_bind,Result.andThen]
 rw [e,hp]
 simp [asAddr,hl,Result.andThen]
theorem res_tct {L R:List HProp}{b:Nat}{T:TypeId}{cs:Array Value}{fn:Func}{t p u:Tmp}{tmps:Array Value}{d:TypeDesc} (hf:fn.results=#[.tmp t,.cell p ty,.tmp u]) (hs:Sat w0 w L) (hp:tmps.getD p undef = .pointer (some ⟨b,0,none⟩)) (k:Pick (pt b (.cells cs T (0,0))) L R)
  (hu:P.underlying ty=some d) (hd:d.isRow=true) (hi:(P.info? ty).map (·.size)=some cs.size):(results fn tmps).run P w = .ok (.tuple #[tmps.getD t undef,.agg cs,tmps.getD u undef]) w:=by
 have hl:=run_loadVar_row (P:=P) w b T ty cs (0,0) d (hs.pick k).at hu (by cases d <;> simp_all [TypeDesc.isRow]) hi
 have e:(results fn tmps).run P w=((asAddr (tmps.getD p undef)).run P w).andThen fun a w₁=>((loadVar ty a).run P w₁).andThen fun v w₂=> .ok (.tuple #[tmps.getD t undef,v,tmps.getD u undef]) w₂:=by
  simp only [results,hf]
  simp [Sem.run_bind,Result.andThen]
 rw [e,hp]
 simp [asAddr,hl,Result.andThen]
theorem at_build2 (h:Stop (wpList P ops Q (⟨dst,.build ty #[(i1,x),(i2,y)],t,pos,after,none⟩::rest) a w)):wpList P ops Q (⟨dst,.build ty #[(i1,x),(i2,y)],t,pos,after,none⟩::rest) a w:=h.out
theorem at_build0 (h:Stop (wpList P ops Q (⟨dst,.build ty #[],t,pos,after,none⟩::rest) a w)):wpList P ops Q (⟨dst,.build ty #[],t,pos,after,none⟩::rest) a w:=h.out
end
section
variable {w0 w:World}{F:List HProp}
theorem plFlt:placesB Tryz.prog 75=some [(0,1),(1,1),(2,1),(3,32),(35,1)]:=by kernel_rfl
theorem run_flt2 (x y:Int) (w:World):(Instr.build 75 #[(0,.int .i64 x),(1,.int .i64 y)]).run Tryz.prog w = .ok (.agg (fltA ⟨x,y,0⟩)) w:=by
 have h:=run_build (P:=Tryz.prog) [(0,.int .i64 x),(1,.int .i64 y)] plFlt zFlt (by
  intro p hp
  have hzz:(Value.agg (fltA Rep.Flt.zero)).cells.size=36:=by rfl
  rw [hzz]
  rcases List.mem_cons.1 hp with rfl|hp
  ·exact ⟨0,rfl,by show 0+1≤36;omega⟩
  ·rw [List.mem_singleton.1 hp]
   exact ⟨1,rfl,by show 1+1≤36;omega⟩) w
 exact h
theorem run_flt3 (x y z:Int) (w:World):(Instr.build 75 #[(0,.int .i64 x),(1,.int .i64 y),(2,.int .i64 z)]).run Tryz.prog w = .ok (.agg (fltA ⟨x,y,z⟩)) w:=by
 have h:=run_build (P:=Tryz.prog) [(0,.int .i64 x),(1,.int .i64 y),(2,.int .i64 z)] plFlt zFlt (by
  intro p hp
  have hzz:(Value.agg (fltA Rep.Flt.zero)).cells.size=36:=by rfl
  rw [hzz]
  rcases List.mem_cons.1 hp with rfl|hp
  ·exact ⟨0,rfl,by show 0+1≤36;omega⟩
  rcases List.mem_cons.1 hp with rfl|hp
  ·exact ⟨1,rfl,by show 1+1≤36;omega⟩
  ·rw [List.mem_singleton.1 hp]
   exact ⟨2,rfl,by show 2+1≤36;omega⟩) w
 exact h
theorem run_flt0 (w:World):(Instr.build 75 #[]).run Tryz.prog w = .ok (.agg (fltA Rep.Flt.zero)) w:=run_build (P:=Tryz.prog) [] plFlt zFlt (by simp) w
set_option maxRecDepth 20000 in
theorem fault_c (s:Int) (at_:Nat) (h:Sat w0 w F):Calls Tryz.prog 114 #[.int .i64 s,.int .i64 at_] w (Rtn fun v w'=>v = .agg (fltA (Rep.fault s at_))∧Sat w0 w' F):=by
 have hone:∀ f,(fltA f).size=36:=fun f=>rfl
 by_cases h0:at_=0
 ·have hb:((at_:Int)==0)=true:=by rw [h0];rfl
  have e:=uQ (show Rep.fault s at_=⟨1,s,0⟩ from if_pos h0)
  clear h0
  go_enter Tryz.func114,Tryz.ntmps114
  go_wp2_with (with_reducible apply at_alloc)
  refine ⟨wl_alloc zFlt h rfl ?_⟩
  intro b4 w4 h4
  go_wp2_with (first
   |((with_reducible refine at_build2 ⟨?_⟩);refine wl_build2 rQ rQ (fun w=>run_flt2 1 s w) ?_)
   |((with_reducible refine at_store ⟨?_⟩);refine wl_storeA (fltA ⟨1,s,0⟩) h4 rQ rQ rQ upd0 kQ rQ ?_;intro w9 h9))
  refine ⟨rfl,_,res_cell rfl h9 rQ pkD Tryz.underlying75 rfl kQ,?_⟩
  exact ⟨_,rfl,by rw [e.out],h9.drop⟩
 ·have hb:((at_:Int)==0)=false:=by rw [beq_eq_false_iff_ne];omega
  have e:=uQ (show Rep.fault s at_=⟨2,s,at_⟩ from if_neg h0)
  clear h0
  go_enter Tryz.func114,Tryz.ntmps114
  go_wp2_with (with_reducible apply at_alloc)
  refine ⟨wl_alloc zFlt h rfl ?_⟩
  intro b4 w4 h4
  go_wp2_with (first
   |((with_reducible refine at_build3 ⟨?_⟩);refine wl_build3 rQ rQ rQ (fun w=>run_flt3 2 s at_ w) ?_)
   |((with_reducible refine at_store ⟨?_⟩);refine wl_storeA (fltA ⟨2,s,at_⟩) h4 rQ rQ rQ upd0 kQ rQ ?_;intro w9 h9))
  refine ⟨rfl,_,res_cell rfl h9 rQ pkD Tryz.underlying75 rfl kQ,?_⟩
  exact ⟨_,rfl,by rw [e.out],h9.drop⟩
end
end Go.Proofs.YtmjldaedhmipkaaGreatDoor
namespace Go.Rep
open Go.Frm (Bs)
def runAt (bt:Told) (ns:List Int) (n:Nat):(Flt×Int) ⊕ Nat:=match bad bt (ns.take n) with
 |some x=> .inl x
 |none=> .inr n
def run (bt:Told) (ns:List Int):(Flt×Int) ⊕ Nat:=
 if (split bt ns ns.length).2≠0 then .inl (Flt.zero,(split bt ns ns.length).2) else runAt bt ns (split bt ns ns.length).1
theorem runAt_bad {bt:Told}{ns:List Int}{n:Nat}{x:Flt×Int} (h:bad bt (ns.take n)=some x):runAt bt ns n = .inl x:=by unfold runAt;rw [h]
theorem runAt_none {bt:Told}{ns:List Int}{n:Nat} (h:bad bt (ns.take n)=none):runAt bt ns n = .inr n:=by unfold runAt;rw [h]
def lastOfL (l:List Int):Int:=match l.getLast? with
 |some s=>s
 |none=> -1
theorem newest_mem:∀ {l:List Row}{k:Bs}{r:Row},newest l k=some r→r∈l
 |[],_,_,h=>by cases h
 |x::l,k,r,h=>by
  unfold newest at h
  split at h
  ·rename_i y hy
   cases h
   exact .tail _ (newest_mem hy)
  ·split at h
   ·cases h;exact .head _
   ·cases h
theorem ledger_place {l:List Row}{k:Bs}{a:Abt} (h:ledger l k=some a):∃ r∈l,a.place=rplc r:=by
 unfold ledger at h
 cases hn:newest l k with
 |none=>rw [hn]at h;cases h
 |some r=>rw [hn]at h;cases h;exact ⟨r,newest_mem hn,rfl⟩
theorem rowsOf_take (bt:Told) (ns:List Int) (n:Nat):∀ r∈rowsOf bt (ns.take n),r∈rowsOf bt ns:=fun r hr=>by
 unfold rowsOf at hr ⊢
 obtain ⟨s,hs,h⟩:=List.mem_flatMap.1 hr
 exact List.mem_flatMap.2 ⟨s,List.mem_of_mem_take hs,h⟩
theorem rowsOf_le (bt:Told) (ns:List Int) (n:Nat):(rowsOf bt (ns.take n)).length≤(rowsOf bt ns).length:=by
 have e:rowsOf bt ns=rowsOf bt (ns.take n)++rowsOf bt (ns.drop n):=by
  unfold rowsOf;rw [← List.flatMap_append,List.take_append_drop]
 rw [e,List.length_append];omega
theorem lastOfL_snoc (l:List Int) (s:Int):lastOfL (l++[s])=s:=by unfold lastOfL;rw [List.getLast?_append];rfl
end Go.Rep
namespace Go.Proofs.YtmjldaedhmipkaaGreatDoor
open Go Go.Sl Go.Med Go.MapKept Go.RowKit
section
variable {P:Program}{w0 w:World}{L R:List HProp}{b:Nat}{ops:Array Oper}{a:Act}{Q:Exit→Act→World→Prop}{K:Act→World→Prop}{E:Prop}{dst:Option Tmp}{t ty:TypeId}{pos:String}{after:Array Edge}{y:Operand}{v:Value}{cs:Array Value}
theorem eff_box (hs:Sat w0 w L) (hy:a.eval y=v) (hcs:v.cells=cs)
  (hK:∀ b w',Sat w0 w' (pt b (.cells cs ty (0,0))::L)→K (a.put dst (.pointer (some ⟨b,0,none⟩))) w') :
  if Region.wanted ⟨dst,.box ty y,t,pos,after,none⟩ (yielded ops a.tmps)=true then Oper.wp P ⟨dst,.box ty y,t,pos,after,none⟩ a w K Q else E:=by
 subst hcs
 refine eff_of rfl ?_
 have hS:=hs.alloc (.cells v.cells ty)
 unfold Oper.wp execOp
 have hrun:(Instr.box ty v).run P w = .ok (.pointer (some ⟨w.heap.size,0,none⟩)) (w.alloc (.cells v.cells ty)):=by
  simp [Instr.box,newVar,newRow,go_sem]
 simp only [hy,Sem.run_bind,Sem.run_pure,hrun,Result.andThen_ok]
 exact hK _ _ hS
end
section
variable {w0 w:World}{F R:List HProp}{sv:Value}
theorem tail_c {l:List Int}{n:Nat} (hn:n≤l.length) (h:Sat w0 w (osl 3 1 sv (ints l)::R)) :
  ∃ tv,(∀ w,(Instr.sliceAt 45 sv (some (.int .i64 n)) none none).run Tryz.prog w = .ok tv w)∧(∃ a' c',tv = .slice a' (l.length - n) c')∧∀ W,rdsl 1 sv (ints l) W→rdsl 1 tv (ints (l.drop n)) W:=by
 rcases h.osl_cases with ⟨rfl,he,h'⟩|⟨g,k,cap,cs,rfl,hl,hk,hc,hcm,htk,hp⟩
 ·obtain rfl:l=[]:=by simpa [ints] using he
  obtain rfl:n=0:=by simpa using hn
  refine ⟨.slice none 0 0,fun w=>by go_simp,⟨none,0,rfl⟩,fun W hW=>by simpa using hW⟩
 ·obtain rfl:k=l.length:=by simpa [ints] using hl.symm
  by_cases hce:cap=n
  ·have hd:l.drop n=[]:=List.drop_eq_nil_of_le oQ
   have e0:l.length - n=0:=oQ
   rw [hd,e0]
   have h1:n≤cap:=oQ
   have h2:l.length=n:=oQ
   refine ⟨.slice (some ⟨g,0,none⟩) 0 0,fun w=>?_,⟨_,_,rfl⟩,fun W hW=>⟨_,_,_,rfl,rfl,fun j x hj=>by cases hj⟩⟩
   have h4:(0:Int)≤(n:Int):=oQ
   have h5:(n:Int).toNat=n:=oQ
   subst hce
   go_simp
  ·refine ⟨.slice (some ⟨g,n,none⟩) (l.length - n) (cap - n),fun w=>?_,⟨_,_,rfl⟩,fun W hW=>?_⟩
   ·have h4:(0:Int)≤(n:Int):=by omega
    have h5:(n:Int).toNat=n:=oQ
    have h6:n≤cap:=oQ
    go_simp
   ·obtain ⟨a,n',c,he,hl',hx⟩:=hW
    cases he
    refine ⟨_,_,_,rfl,by unfold ints;rw [List.length_map,List.length_drop,Nat.mul_one],fun j x hj=>⟨_,rfl,?_⟩⟩
    have hj2:(ints l)[n+j]?=some x:=by
     unfold ints at hj ⊢
     rw [List.map_drop,List.getElem?_drop]at hj
     exact hj
    obtain ⟨ad,e,hc'⟩:=hx (n+j) x hj2
    cases e
    rw [adr_add,Nat.zero_add]at hc'
    rw [adr_add]
    exact hc'
theorem head_c {l:List Int}{n:Nat} (hn:n≤l.length) (h:Sat w0 w (osl 3 1 sv (ints l)::R)) :
  ∃ a' c',(∀ w,(Instr.sliceAt 45 sv none (some (.int .i64 n)) none).run Tryz.prog w = .ok (.slice a' n c') w)∧∀ W,rdsl 1 sv (ints l) W→rdsl 1 (.slice a' n c') (ints (l.take n)) W:=by
 rcases h.osl_cases with ⟨rfl,he,h'⟩|⟨g,k,cap,cs,rfl,hl,hk,hc,hcm,htk,hp⟩
 ·obtain rfl:l=[]:=by simpa [ints] using he
  obtain rfl:n=0:=by simpa using hn
  refine ⟨none,0,fun w=>by go_simp,fun W hW=>by simpa using hW⟩
 ·obtain rfl:k=l.length:=by simpa [ints] using hl.symm
  refine ⟨some ⟨g,0,none⟩,cap,fun w=>?_,fun W hW=>?_⟩
  ·have h4:(0:Int)≤(n:Int):=by omega
   have h5:(n:Int).toNat=n:=oQ
   have h6:n≤cap:=oQ
   go_simp
  ·obtain ⟨a,n',c,he,hl',hx⟩:=hW
   cases he
   refine ⟨_,_,_,rfl,by unfold ints;rw [List.length_map,List.length_take,Nat.mul_one];omega,fun j x hj=>?_⟩
   refine hx j x ?_
   unfold ints at hj ⊢
   rw [List.map_take,List.getElem?_take]at hj
   split at hj
   ·exact hj
   ·cases hj
theorem TabMA.lists {p B:Nat}{m:Frm.Bs→Option Rep.Abt} (h:Sat w0 w (TabMA p m B::R)):∃ kv,Tab.Lists m kv∧(∀ q∈kv,q.1.length=32)∧kv.length≤B:=by
 obtain ⟨t,sv',⟨ok,is,hb⟩,hS⟩:=TabMA.open h
 have hp:=List.mergeSort_perm (t.slots.filter fun x=>decide (x.st=1)) (fun a b:Tab.Slot Rep.Abt=>decide (¬ b.key<a.key))
 have hw:=List.pairwise_mergeSort (le:=fun a b:Tab.Slot Rep.Abt=>decide (¬ b.key<a.key)) (fun a b c h1 h2=>by
   rw [decide_eq_true_eq]at h1 h2 ⊢
   intro h3
   rcases Tab.bs_tri a.key b.key with q|q|q
   ·exact h2 (List.lt_trans h3 q)
   ·exact h2 (q ▸ h3)
   ·exact h1 q) (fun a b=>by
   rw [Bool.or_eq_true,decide_eq_true_eq,decide_eq_true_eq]
   by_cases q:b.key<a.key
   ·exact .inr fun q2=>List.lt_irrefl _ (List.lt_trans q q2)
   ·exact .inl q) (t.slots.filter fun x=>decide (x.st=1))
 obtain ⟨h1,h2⟩:=Tab.lists_of ok.good is hp (hw.imp fun {a b} q=>by rwa [decide_eq_true_eq]at q)
 refine ⟨_,h1,fun q hq=>?_,?_⟩
 ·obtain ⟨x,hx,rfl⟩:=List.mem_map.1 hq
  exact (h2 x hx).2
 ·rw [List.length_map,hp.length_eq,← List.countP_eq_length_filter]
  have e:t.slots.countP (fun x=>decide (x.st=1))=Tab.fulls t.slots:=by
   unfold Tab.fulls
   refine List.countP_congr fun x _=>?_
   simp
  have:=ok.n;omega
end
def RunOut (w0:World) (F:List HProp) (bt:Rep.Told) (ns:List Int) (p m:Nat) (L:Seg.Log) (M:Med) (v:Value) (w':World):Prop:=
 match Rep.run bt ns with
 |.inl (fl,e)=>v = .tuple #[.pointer none,.agg (fltA fl),errno e]∧Sat w0 w' (LogRep p m L::MedRep m M::F)
 |.inr n=>∃ (ps pi:Nat) (uv tv av:Value) (kv:List (Frm.Bs×Rep.Abt)),v = .tuple #[ptr ps,.agg (fltA Rep.Flt.zero),errno 0] ∧
   (Tab.Lists (Rep.ledger (Rep.rowsOf bt (ns.take n))) kv∧(∀ q∈kv,q.1.length=32)∧kv.length≤(Rep.rowsOf bt (ns.take n)).length) ∧
   ((∃ a' c',tv = .slice a' (ns.length - n) c')∧∀ W,rdsl 1 av (ints ns) W→rdsl 1 tv (ints (ns.drop n)) W) ∧
   Sat w0 w' (stPt ps (Rep.lastOfL (ns.take n)) pi uv tv::TabML pi (Tab.mapOf (Rep.puts kv)) kv.length::osl 115 3 uv (((Rep.usesOf bt (ns.take n)).map (Rep.upd kv)).flatMap uenc)::osl 3 1 av (ints ns)::LogRep p m L::MedRep m M::F)
section
variable {w0 w:World}{F:List HProp}{p m K:Nat}{L:Seg.Log}{M:Med}
theorem zLed:zeroB Tryz.prog 197=some (.agg #[.pointer none]):=by kernel_rfl
set_option maxRecDepth 20000 in
theorem run_c (hL:L.Ok) (hM:M.Ok K) (hH:Ro w0 F Half) (hrows:(Rep.rowsOf (lbt L M) L.segs).length≤12000000) (hsz:∀ r∈Rep.rowsOf (lbt L M) L.segs,(r.2.size:Int)≤4294967296) (h:Sat w0 w (LogRep p m L::MedRep m M::F)) :
  Calls Tryz.prog 37 #[ptr p] w (Rtn fun v w'=>RunOut w0 F (lbt L M) L.segs p m L M v w'):=by
 have Hlen:=uQ (show L.segs.length≤1048576 from by unfold Seg.Log.segs;rw [List.length_map];have:=hL.len;omega)
 have hse:=lsegs_c hL h
 have Hnn:=uQ (show ∀ s∈L.segs,0≤s from fun s hs=>by
  unfold Seg.Log.segs at hs
  obtain ⟨x,hx,rfl⟩:=List.mem_map.1 hs
  exact (hL.nums x hx).1)
 have HL:=uQ hL;have HM:=uQ hM;have HH:=uQ hH;have Hrows:=uQ hrows;have Hsz:=uQ hsz
 clear hL hM hH hrows hsz
 go_enter Tryz.func37,Tryz.ntmps37
 go_wp2_with (with_reducible apply at_alloc)
 refine ⟨wl_alloc zFlt h rfl ?_⟩
 intro b3 w3 h3
 clear hse h
 go_wp2_with fail
 refine (lsegs_c HL.out (h3.pick pick1)).mono ?_
 rintro ee w4 ⟨sv,rfl,h4⟩
 have hsp:=split_c HL.out HM.out (Ro.os HH.out) (h4.sb:Sat w0 w4 (osl 3 1 sv (ints L.segs)::LogRep p m L::MedRep m M::pt b3 (.cells (fltA Rep.Flt.zero) 75 (0,0))::F))
 clear h3 h4
 go_wp2_with fail
 refine hsp.mono ?_
 rintro ee w5 ⟨v,rfl,rfl,h5⟩
 clear hsp
 by_cases h0:(Rep.split (lbt L M) L.segs L.segs.length).2=0
 rotate_left
 ·have hb:((Rep.split (lbt L M) L.segs L.segs.length).2 != 0)=true:=by rw [bne_iff_ne];exact h0
  have Hf:=uQ (show Rep.run (lbt L M) L.segs = .inl (Rep.Flt.zero,(Rep.split (lbt L M) L.segs L.segs.length).2) by unfold Rep.run;rw [if_pos h0])
  have h6:Sat w0 w5 (pt b3 (.cells (fltA Rep.Flt.zero) 75 (0,0))::LogRep p m L::MedRep m M::F):=h5.sb
  clear h0 h5
  go_wp2_with (first
   |((with_reducible refine at_build0 ⟨?_⟩);refine wl_build0 (fun w=>run_flt0 w) ?_)
   |((with_reducible refine at_store ⟨?_⟩);refine wl_storeA (fltA Rep.Flt.zero) h6 rQ rQ rQ upd0 kQ rQ ?_;intro w9 h9))
  refine ⟨rfl,_,res_tct rfl h9 rQ pkD Tryz.underlying75 rfl kQ,_,rfl,?_⟩
  unfold RunOut
  rw [Hf.out]
  exact ⟨rfl,h9.drop⟩
 have hb:((Rep.split (lbt L M) L.segs L.segs.length).2 != 0)=false:=by rw [h0];rfl
 have Hle:=uQ (Rep.split_le (lbt L M) L.segs L.segs.length)
 have Hf:=uQ (show Rep.run (lbt L M) L.segs=Rep.runAt (lbt L M) L.segs (Rep.split (lbt L M) L.segs L.segs.length).1 by unfold Rep.run;rw [if_neg (fun h=>h h0)])
 rw [h0]
 generalize (Rep.split (lbt L M) L.segs L.segs.length).1=n at *
 clear h0
 obtain ⟨tv,htl,⟨ta,tc,rfl⟩,htr⟩:=tail_c Hle.out h5
 have Htr:=uQ htr
 clear htr
 go_wp2_with fail
 have hG:True:=trivial
 have h6:=h5.drew
 clear h5
 refine wpL_begin [] (fun w'=>True) kQ ?_
 refine rP 1 ?_ (y:=mvQ)
 refine rP 2 ?_ (y:=mvQ)
 refine rP 3 ?_ (y:=(yl_slice_lo evD evD htl))
 refine rg_eff 0 evD kQ (fun K hK=>?_)
 refine eff_call [] kQ (by simp) ?_
 refine (newL_c h6).mono ?_
 rintro ee w7 ⟨v,rfl,pi,rfl,h7⟩
 refine hK _ _ (.inr (.inl trivial)) ?_
 clear hK h6
 refine rp 4 (hy:=(by (refine Or.inl ⟨by rfl,?_⟩;((intro wq;go_simp);first|done|exact wQ)))) (h:=?_)
 refine rg_eff 5 evD kQ (fun K hK=>?_)
 refine eff_box (cs:=#[.int .i64 (-1),ptr pi,.slice none 0 0,.slice ta (L.segs.length - n) tc]) h7 evD evD ?_
 intro ps w8 h8
 refine hK _ _ (.inr (.inl trivial)) ?_
 clear hK h7
 refine rP 6 ?_ (y:=asQ)
 refine wdQ ?_
 clear hG
 go_wp2_with fail
 refine (newA_c h8).mono ?_
 rintro ee w9 ⟨v,rfl,pg,rfl,h9⟩
 clear h8
 go_wp2_with (with_reducible apply at_alloc)
 refine ⟨wl_alloc zLed h9 rfl ?_⟩
 intro b9 w10 h10
 clear h9
 obtain ⟨ha,hc,hhl,hhr⟩:=head_c Hle.out (h10.sb:Sat w0 w10 (osl 3 1 sv (ints L.segs)::F))
 go_wp2_with ((with_reducible refine at_store ⟨?_⟩);refine wl_store (cs':=#[ptr pg]) h10 rQ evD rQ upd0 bQ kQ rQ ?_;intro w11 h11)
 have h12:Sat w0 w11 (stPt ps (Rep.lastOfL (L.segs.take 0)) pi (.slice none 0 0) (.slice ta (L.segs.length - n) tc)::osl 115 3 (.slice none 0 0) ((Rep.usesOf (lbt L M) (L.segs.take 0)).flatMap uenc)::TabML pi (fun _=>none) 0::pt b9 (.cells #[ptr pg] 197 (0,0)) ::
  TabMA pg (Rep.ledger (Rep.rowsOf (lbt L M) (L.segs.take 0))) (Rep.rowsOf (lbt L M) (L.segs.take 0)).length::pt b3 (.cells (fltA Rep.Flt.zero) 75 (0,0))::osl 3 1 sv (ints L.segs)::LogRep p m L::MedRep m M::F):=(Sat.osl_nil.2 h11).sb
 clear h10 h11 htl
 go_loopg [45] n (fun g iq wr=>∃ (i:Nat) (uv:Value),g=n - i∧i≤n∧iq = .int .i64 i∧Rep.bad (lbt L M) (L.segs.take i)=none∧Sat w0 wr (stPt ps (Rep.lastOfL (L.segs.take i)) pi uv (.slice ta (L.segs.length - n) tc)::osl 115 3 uv ((Rep.usesOf (lbt L M) (L.segs.take i)).flatMap uenc)::TabML pi (fun _=>none) 0::pt b9 (.cells #[ptr pg] 197 (0,0)) ::
  TabMA pg (Rep.ledger (Rep.rowsOf (lbt L M) (L.segs.take i))) (Rep.rowsOf (lbt L M) (L.segs.take i)).length::pt b3 (.cells (fltA Rep.Flt.zero) 75 (0,0))::osl 3 1 sv (ints L.segs)::LogRep p m L::MedRep m M::F))
 case atStart=>exact ⟨0,.slice none 0 0,rfl,Nat.zero_le _,rfl,rfl,h12⟩
 case round=>
  obtain ⟨i,uv,rfl,hi,rfl,hbad,hS⟩:=hrel
  clear h12
  have Hbad:=uQ hbad
  clear hbad
  by_cases hlt:i<n
  rotate_left
  ·obtain rfl:i=n:=by omega
   have c1:¬ (i:Int)<(i:Int):=oQ
   obtain ⟨kv,k1,k2,k3⟩:=TabMA.lists (hS.pk (A:=TabMA pg (Rep.ledger (Rep.rowsOf (lbt L M) (L.segs.take i))) (Rep.rowsOf (lbt L M) (L.segs.take i)).length))
   have k4:=Nat.le_trans (Rep.rowsOf_le (lbt L M) L.segs i) Hrows.out
   have hks:∀ q∈kv,q.1.length=32∧0≤q.2.place.size∧q.2.place.size≤4294967296:=fun q hq=>by
    obtain ⟨r,hr,e⟩:=Rep.ledger_place ((k1.mem q.1 q.2).1 hq)
    rw [e]
    exact ⟨k2 q hq,Int.natCast_nonneg _,Hsz.out r (Rep.rowsOf_take _ _ _ r hr)⟩
   have hfl:=fill_c (us:=Rep.usesOf (lbt L M) (L.segs.take i)) k1 oQ oQ hks (by unfold Rep.usesOf;rw [List.length_map,List.length_take];have:=Hlen.out;omega)
    (hS.sb:Sat w0 wr (stPt ps (Rep.lastOfL (L.segs.take i)) pi uv (.slice ta (L.segs.length - i) tc)::TabML pi (fun _=>none) 0::TabMA pg (Rep.ledger (Rep.rowsOf (lbt L M) (L.segs.take i))) (Rep.rowsOf (lbt L M) (L.segs.take i)).length ::
     osl 115 3 uv ((Rep.usesOf (lbt L M) (L.segs.take i)).flatMap uenc)::pt b3 (.cells (fltA Rep.Flt.zero) 75 (0,0))::osl 3 1 sv (ints L.segs)::LogRep p m L::MedRep m M::F))
   have K:=uQ (And.intro k1 (And.intro k2 k3))
   have Hg:=uQ (Hf.out.trans (Rep.runAt_none Hbad.out))
   have Htv:=uQ Htr.out
   clear k1 k2 k3 k4 hks hlt hi
   go_wp2_with ((with_reducible refine at_load ⟨?_⟩);refine wl_loadA (cs:=#[ptr pg]) hS rQ (pick_there (pick_there (pick_there pick0))) Tryz.underlying197 rfl kQ ?_)
   refine hfl.mono ?_
   rintro ee w14 ⟨v,rfl,h14⟩
   clear hfl hS
   go_wp2_with (first
    |((with_reducible refine at_build0 ⟨?_⟩);refine wl_build0 (fun w=>run_flt0 w) ?_)
    |((with_reducible refine at_store ⟨?_⟩);refine wl_storeA (fltA Rep.Flt.zero) h14 rQ rQ rQ (upd_there (upd_there (upd_there (upd_there upd0)))) kQ rQ ?_;intro w15 h15))
   refine ⟨rfl,_,res_tct rfl h15 rQ (pick_there (pick_there (pick_there (pick_there pick0)))) Tryz.underlying75 rfl kQ,_,rfl,?_⟩
   unfold RunOut
   rw [Hg.out]
   exact ⟨ps,pi,uv,.slice ta (L.segs.length - i) tc,sv,kv,rfl,K.out,⟨⟨ta,tc,rfl⟩,Htv.out⟩,h15.sb⟩
  have c1:(i:Int)<(n:Int):=oQ
  have hwi:IntKind.i64.wrap ((i:Int)+1)=(i:Int)+1:=IntWalk.i64_in _ (by have:=Hle.out;have:=Hlen.out;omega)
  have hni:(L.segs.take n).length=n:=by rw [List.length_take];have:=Hle.out;omega
  obtain ⟨s,hs⟩:∃ s,(L.segs.take n)[i]?=some s:=⟨_,List.getElem?_eq_getElem oQ⟩
  have hs2:L.segs[i]?=some s:=by rw [List.getElem?_take]at hs;rw [if_pos hlt]at hs;exact hs
  have Htk:=uQ (show L.segs.take (i+1)=L.segs.take i++[s] by rw [List.take_add_one,hs2,Option.toList_some])
  have Hspl:=uQ (show ∃ post,L.segs.take n=L.segs.take i++s::post by
   obtain ⟨h1,e⟩:=List.getElem?_eq_some_iff.1 hs
   refine ⟨(L.segs.take n).drop (i+1),?_⟩
   have e2:L.segs.take i=(L.segs.take n).take i:=by rw [List.take_take,Nat.min_eq_left (Nat.le_of_lt hlt)]
   rw [e2,← e,← List.drop_eq_getElem_cons h1,List.take_append_drop])
  have Hs0:=uQ (Hnn.out s (List.mem_of_getElem? hs2))
  obtain ⟨bk,off,c',hsv,f0⟩:=ints_cell (hhr _ (Sat.rd (hS.pk (A:=osl 3 1 sv (ints L.segs))))) hs
  rw [hni]at hsv
  cases hsv
  have hb:=lbytes_c HL.out HM.out s (hS.sb:Sat w0 wr (LogRep p m L::MedRep m M::stPt ps (Rep.lastOfL (L.segs.take i)) pi uv (.slice ta (L.segs.length - n) tc)::osl 115 3 uv ((Rep.usesOf (lbt L M) (L.segs.take i)).flatMap uenc)::TabML pi (fun _=>none) 0::pt b9 (.cells #[ptr pg] 197 (0,0)) ::
   TabMA pg (Rep.ledger (Rep.rowsOf (lbt L M) (L.segs.take i))) (Rep.rowsOf (lbt L M) (L.segs.take i)).length::pt b3 (.cells (fltA Rep.Flt.zero) 75 (0,0))::osl 3 1 sv (ints L.segs)::F))
  have Hlt:=uQ hlt
  clear hS hs hs2 hni hlt hi
  go_wp2_with fail
  refine hb.mono ?_
  rintro ee w20 ⟨v,rfl,bv,rfl,h20⟩
  clear hb f0
  obtain ⟨hcap,ca,cc,rfl⟩:=bsl_capL h20
  by_cases h0:(L.bytes M s).2=0
  rotate_left
  ·have hb1:((L.bytes M s).2 != 0)=true:=by rw [bne_iff_ne];exact h0
   have Hg:=uQ (show Rep.run (lbt L M) L.segs = .inl (Rep.Flt.zero,(L.bytes M s).2) by
    rw [Hf.out]
    obtain ⟨post,e⟩:=Hspl.out
    exact Rep.runAt_bad (by rw [e];exact Rep.bad_power Hbad.out h0))
   have h21:Sat w0 w20 (pt b3 (.cells (fltA Rep.Flt.zero) 75 (0,0))::LogRep p m L::MedRep m M::F):=h20.sb
   clear h20 h0 hcap
   go_wp2_with (first
    |((with_reducible refine at_build0 ⟨?_⟩);refine wl_build0 (fun w=>run_flt0 w) ?_)
    |((with_reducible refine at_store ⟨?_⟩);refine wl_storeA (fltA Rep.Flt.zero) h21 rQ rQ rQ upd0 kQ rQ ?_;intro w22 h22))
   refine ⟨rfl,_,res_tct rfl h22 rQ pkD Tryz.underlying75 rfl kQ,_,rfl,?_⟩
   unfold RunOut
   rw [Hg.out]
   exact ⟨rfl,h22.drop⟩
  have hb1:((L.bytes M s).2 != 0)=false:=by rw [h0];rfl
  have H0:=uQ h0
  rw [h0]
  clear h0
  have hbl:=Seg.bytes_len (L:=L) HM.out s
  have hsc:=fscan_c (w0:=w0) (w:=w20) (L.bytes M s).1 (Ro.bsl _ _) hcap (Ro.os HH.out) (Nat.le_trans hbl dQ) h20
  clear hcap
  go_wp2_with fail
  refine hsc.mono ?_
  rintro ee w21 ⟨v,rfl,fs,fv,hfs,hfk,rfl,h21⟩
  clear hsc h20
  obtain ⟨fa,fc,rfl⟩:=fnds_sl hfk h21
  by_cases h1:(Frm.scan (L.bytes M s).1).2.2=0
  rotate_left
  ·have hb2:((Frm.scan (L.bytes M s).1).2.2 != 0)=true:=by rw [bne_iff_ne];exact h1
   have Hg:=uQ (show Rep.run (lbt L M) L.segs = .inl (Rep.fault s (Frm.scan (L.bytes M s).1).2.1,13) by
    rw [Hf.out]
    obtain ⟨post,e⟩:=Hspl.out
    exact Rep.runAt_bad (by rw [e];exact Rep.bad_scan Hbad.out H0.out h1))
   have h22:Sat w0 w21 (pt b3 (.cells (fltA Rep.Flt.zero) 75 (0,0))::LogRep p m L::MedRep m M::F):=h21.sb
   clear h21 h1 hfs hfk
   go_wp2_with fail
   refine (fault_c s (Frm.scan (L.bytes M s).1).2.1 h22).mono ?_
   rintro ee w23 ⟨v,rfl,rfl,h23⟩
   clear h22
   go_wp2_with ((with_reducible refine at_store ⟨?_⟩);refine wl_storeA (fltA (Rep.fault s (Frm.scan (L.bytes M s).1).2.1)) h23 rQ rQ rQ upd0 kQ rQ ?_;intro w24 h24)
   refine ⟨rfl,_,res_tct rfl h24 rQ pkD Tryz.underlying75 rfl kQ,_,rfl,?_⟩
   unfold RunOut
   rw [Hg.out]
   exact ⟨rfl,h24.drop⟩
  have hb2:((Frm.scan (L.bytes M s).1).2.2 != 0)=false:=by rw [h1];rfl
  have H1:=uQ h1
  rw [h1]
  clear h1
  have h22:Sat w0 w21 (TabMA pg (Rep.ledger (Rep.rowsOf (lbt L M) (L.segs.take i)++(fs.take 0).map fun q=>(s,q.1))) ((Rep.rowsOf (lbt L M) (L.segs.take i)).length+0)::stPt ps (Rep.lastOfL (L.segs.take i)) pi uv (.slice ta (L.segs.length - n) tc)::osl 115 3 uv ((Rep.usesOf (lbt L M) (L.segs.take i)).flatMap uenc)::TabML pi (fun _=>none) 0::pt b9 (.cells #[ptr pg] 197 (0,0)) ::
   pt b3 (.cells (fltA Rep.Flt.zero) 75 (0,0))::osl 3 1 sv (ints L.segs)::LogRep p m L::MedRep m M::osl 203 36 (.slice fa fs.length fc) (fndsL fs)::dataF fs::F):=by
   have q:Sat w0 w21 (TabMA pg (Rep.ledger (Rep.rowsOf (lbt L M) (L.segs.take i))) (Rep.rowsOf (lbt L M) (L.segs.take i)).length::stPt ps (Rep.lastOfL (L.segs.take i)) pi uv (.slice ta (L.segs.length - n) tc)::osl 115 3 uv ((Rep.usesOf (lbt L M) (L.segs.take i)).flatMap uenc)::TabML pi (fun _=>none) 0::pt b9 (.cells #[ptr pg] 197 (0,0)) ::
   pt b3 (.cells (fltA Rep.Flt.zero) 75 (0,0))::osl 3 1 sv (ints L.segs)::LogRep p m L::MedRep m M::osl 203 36 (.slice fa fs.length fc) (fndsL fs)::dataF fs::F):=h21.sb
   rw [List.take_zero,List.map_nil,List.append_nil,Nat.add_zero]
   exact q
  have Hcnt:=uQ (show (Rep.rowsOf (lbt L M) (L.segs.take i)).length+fs.length≤12000000 by
   have q1:=Rep.rowsOf_le (lbt L M) L.segs (i+1)
   rw [Htk.out,Rep.rowsOf_snoc,List.length_append,List.length_map,show (Frm.scan (lbt L M s).1).1=fs.map (·.1) from hfs.symm,List.length_map]at q1
   exact Nat.le_trans q1 Hrows.out)
  have hfl:fs.length≤16777216:=by
   have:=Frm.scan_count (L.bytes M s).1
   rw [← hfs,List.length_map]at this;omega
  have Hfl:=uQ hfl;have Hfs:=uQ hfs;have Hfk:=uQ hfk
  clear h21 hbl hfs hfk
  go_wp2_with fail
  go_loopg [72] fs.length (fun g jq wr=>∃ j:Nat,g=fs.length - j∧j≤fs.length∧jq = .int .i64 j∧Sat w0 wr (TabMA pg (Rep.ledger (Rep.rowsOf (lbt L M) (L.segs.take i)++(fs.take j).map fun q=>(s,q.1))) ((Rep.rowsOf (lbt L M) (L.segs.take i)).length+j)::stPt ps (Rep.lastOfL (L.segs.take i)) pi uv (.slice ta (L.segs.length - n) tc)::osl 115 3 uv ((Rep.usesOf (lbt L M) (L.segs.take i)).flatMap uenc)::TabML pi (fun _=>none) 0::pt b9 (.cells #[ptr pg] 197 (0,0)) ::
   pt b3 (.cells (fltA Rep.Flt.zero) 75 (0,0))::osl 3 1 sv (ints L.segs)::LogRep p m L::MedRep m M::osl 203 36 (.slice fa fs.length fc) (fndsL fs)::dataF fs::F))
  case atStart=>exact ⟨0,rfl,Nat.zero_le _,rfl,h22⟩
  case round=>
   obtain ⟨j,rfl,hj,rfl,hS⟩:=hrel
   clear h22
   by_cases hjl:j<fs.length
   rotate_left
   ·obtain rfl:j=fs.length:=by omega
    have d1:¬ (fs.length:Int)<(fs.length:Int):=oQ
    rw [List.take_length]at hS
    clear hjl hj
    have hul:((Rep.usesOf (lbt L M) (L.segs.take i)).flatMap uenc).length≤2147483648:=by
     rw [rows_len (k:=3) fun u _=>rfl]
     unfold Rep.usesOf
     rw [List.length_map,List.length_take]
     have:=Hlen.out;omega
    go_wp2_with (first
     |((with_reducible refine at_store ⟨?_⟩);refine wl_store (cs':=#[.int .i64 s,ptr pi,uv,.slice ta (L.segs.length - n) tc]) hS rQ evD rQ (upd_there upd0) bQ kQ rQ ?_;intro w40 h40)
     |((with_reducible refine at_load ⟨?_⟩);refine wl_load1 h40 rQ (pick_there pick0) bQ evD kQ ?_)
     |(with_reducible apply at_build1))
    refine ⟨wl_build1 (e:=115) (sz:=3) (by':=24) kQ h40 rQ (cs:=#[.int .i64 s,.int .i64 ((L.bytes M s).1.length:Nat),.int .i64 0]) rfl rfl dQ ?_⟩
    intro b41 w41 h41
    go_wp2_with (with_reducible apply at_append)
    refine ⟨wl_app 115 3 24 kQ h41 rQ rQ (pick_there (pick_there (pick_there pick0))) pick0 rfl (Nat.le_refl 1) rQ hul (by show 3≤65536;decide) dQ rfl ?_⟩
    intro bA nA cA w42 h42
    go_wp2_with ((with_reducible refine at_store ⟨?_⟩);refine wl_store (cs':=#[.int .i64 s,ptr pi,.slice (some ⟨bA,0,none⟩) nA cA,.slice ta (L.segs.length - n) tc]) h42 rQ evD rQ (upd_there (upd_there upd0)) bQ kQ rQ ?_;intro w43 h43)
    have h44:Sat w0 w43 (stPt ps (Rep.lastOfL (L.segs.take (i+1))) pi (.slice (some ⟨bA,0,none⟩) nA cA) (.slice ta (L.segs.length - n) tc)::osl 115 3 (.slice (some ⟨bA,0,none⟩) nA cA) ((Rep.usesOf (lbt L M) (L.segs.take (i+1))).flatMap uenc)::TabML pi (fun _=>none) 0::pt b9 (.cells #[ptr pg] 197 (0,0)) ::
     TabMA pg (Rep.ledger (Rep.rowsOf (lbt L M) (L.segs.take (i+1)))) (Rep.rowsOf (lbt L M) (L.segs.take (i+1))).length::pt b3 (.cells (fltA Rep.Flt.zero) 75 (0,0))::osl 3 1 sv (ints L.segs)::LogRep p m L::MedRep m M::F):=by
     rw [Htk.out,Rep.lastOfL_snoc,Rep.usesOf_snoc,Rep.rowsOf_snoc,List.length_append,List.length_map,show (Frm.scan (lbt L M s).1).1=fs.map (·.1) from Hfs.out.symm,List.length_map,List.map_map,List.flatMap_append]
     exact h43.sb
    clear h40 h41 h42 h43 hS
    go_roundg (n - (i+1))
    case measure=>have:=Hlt.out;omega
    case rel=>exact ⟨i+1,.slice (some ⟨bA,0,none⟩) nA cA,rfl,Hlt.out,by first|rfl|go_num,by rw [Htk.out];exact Rep.bad_none Hbad.out H0.out H1.out,h44⟩
   have d1:(j:Int)<(fs.length:Int):=oQ
   have hwj:IntKind.i64.wrap ((j:Int)+1)=(j:Int)+1:=IntWalk.i64_in _ oQ
   obtain ⟨⟨f,dv⟩,hq⟩:∃ q,fs[j]?=some q:=⟨_,List.getElem?_eq_getElem hjl⟩
   have hkf:f.e.key.length=32:=Hfk.out _ (List.mem_of_getElem? hq)
   obtain ⟨da,dn,dc,rfl,_,_⟩:=dataF_ro hq wr (hS.pk (A:=dataF fs))
   obtain ⟨bk2,off2,c2,e2,hcell⟩:=osl_row (f:=fun q:Frm.Fnd×Value=>fndL q.1 q.2) (k:=36) (fun q hq=>fndL_len q.1 q.2 (Hfk.out q hq)) (Sat.rd (hS.pk (A:=osl 203 36 (.slice fa fs.length fc) (fndsL fs)))) hq dQ
   cases e2
   have hl36:(fndL f (.slice da dn dc)).length=36:=fndL_len _ _ hkf
   have Htj:=uQ (show (fs.take (j+1)).map (fun q=>(s,q.1))=(fs.take j).map (fun q=>(s,q.1))++[(s,f)] by rw [List.take_add_one,hq,Option.toList_some,List.map_append];rfl)
   have Hjl:=uQ hjl;have Hkf:=uQ hkf
   clear hq hkf hj
   go_wp2_with (first
    |((with_reducible refine at_load ⟨?_⟩);refine wl_loadW (b:=bk2) (o:=off2+j * 36) (fndL f (.slice da dn dc)) rQ hcell Tryz.underlying203 rfl (by rw [hl36];kernel_rfl) ?_)
    |(with_reducible apply at_alloc))
   refine ⟨wl_alloc zFnd hS rfl ?_⟩
   intro b17 w30 h30
   go_wp2_with (first
    |((with_reducible refine at_store ⟨?_⟩);refine wl_storeA (fndA f (.slice da dn dc)) h30 rQ rQ (by rw [fndA_size _ _ Hkf.out];rfl) upd0 (by rw [fndA_size _ _ Hkf.out];kernel_rfl) (fndA_ones _ _ _ _) ?_;intro w31 h31)
    |((with_reducible refine at_load ⟨?_⟩);refine wl_loadA (cs:=fndA f (.slice da dn dc)) h31 rQ pick0 Tryz.underlying203 rfl (by rw [fndA_size _ _ Hkf.out];kernel_rfl) ?_)
    |((with_reducible refine at_load ⟨?_⟩);refine wl_loadA (cs:=#[ptr pg]) h31 rQ (pick_there (pick_there (pick_there (pick_there (pick_there pick0))))) Tryz.underlying197 rfl kQ ?_))
   have hrl:=Rep.rowsOf_le (lbt L M) L.segs i
   refine (take_c (p:=pg) s f Hkf.out (by have:=Hrows.out;have:=Hfl.out;have:=Hjl.out;have:=Hcnt.out;omega) (h31.pick pick1)).mono ?_
   rintro ee w32 ⟨v,rfl,h32⟩
   clear h30 h31 hS hcell
   have hnn:∀ x∈Rep.rowsOf (lbt L M) (L.segs.take i)++(fs.take j).map (fun q=>(s,q.1)),0≤x.1:=fun x hx=>by
    rcases List.mem_append.1 hx with hx|hx
    ·unfold Rep.rowsOf at hx
     obtain ⟨u,hu,hx⟩:=List.mem_flatMap.1 hx
     obtain ⟨g,_,rfl⟩:=List.mem_map.1 hx
     exact Hnn.out u (List.mem_of_mem_take hu)
    ·obtain ⟨g,_,rfl⟩:=List.mem_map.1 hx
     exact Hs0.out
   rw [← Rep.ledger_snoc _ _ hnn,List.append_assoc,← Htj.out]at h32
   clear hnn
   go_wp2_with fail
   go_roundg (fs.length - (j+1))
   case measure=>have:=Hjl.out;omega
   case rel=>exact ⟨j+1,rfl,Hjl.out,by first|rfl|go_num,h32.sb⟩
end
section
variable {w0 w:World}{F:List HProp}{p B:Nat}{m:Frm.Bs→Option (Seg.Plc)}
set_option maxRecDepth 20000 in
theorem keysL_c (hB:B≤13000000) (h:Sat w0 w (TabML p m B::F)) :
  Calls Tryz.prog 120 #[ptr p] w (Rtn fun v w'=>∃ kv:List (Frm.Bs×Seg.Plc),(Tab.Lists m kv∧(∀ q∈kv,q.1.length=32)∧kv.length≤B)∧Sat w0 w' (osl 41 32 v (kv.flatMap fun q=>bys q.1)::TabML p m B::F)):=by
 have hr:=risingL_c hB h
 clear h
 go_enter Tryz.func120,Tryz.ntmps120
 go_wp2_with fail
 refine hr.mono ?_
 rintro ee w1 ⟨sv,rfl,s,⟨hs1,hs2,hs3⟩,hS1⟩
 clear hr
 have Hs1:=uQ hs1;have Hs2:=uQ hs2;have Hs3:=uQ hs3
 have Hkk:=uQ (show ∀ q∈s.map fun x=>(x.key,x.val),q.1.length=32 from fun q hq=>by
  obtain ⟨x,hx,rfl⟩:=List.mem_map.1 hq
  exact (hs2 x hx).2)
 have Hlen:=uQ (show ∀ x∈s,(slotL penc x).length=36 from fun x hx=>slotL_len penc x (hs2 x hx).2 3 (penc_len _))
 obtain ⟨la,lc,rfl⟩:=osl_rows Hlen.out (Sat.rd hS1) dQ
 have hsb:s.length≤13000000:=Nat.le_trans hs3 hB
 have hS2:Sat w0 w1 (osl 41 32 (.slice none 0 0) (((s.take 0).map fun x=>(x.key,x.val)).flatMap fun q=>bys q.1)::osl 220 36 (.slice la s.length lc) (s.flatMap (slotL penc))::TabML p m B::F):=Sat.osl_nil.2 hS1
 clear hs1 hs2 hs3 hB hS1
 go_wp2_with fail
 go_loopg [3,9] s.length (fun g oq iq wr=>∃ (i:Nat),g=s.length - i∧i≤s.length∧iq = .int .i64 i ∧
  Sat w0 wr (osl 41 32 oq (((s.take i).map fun x=>(x.key,x.val)).flatMap fun q=>bys q.1)::osl 220 36 (.slice la s.length lc) (s.flatMap (slotL penc))::TabML p m B::F))
 case atStart=>exact ⟨0,rfl,Nat.zero_le _,rfl,hS2⟩
 case round=>
  obtain ⟨i,rfl,hi,rfl,hS⟩:=hrel
  clear hS2
  by_cases hlt:i<s.length
  rotate_left
  ·obtain rfl:i=s.length:=by omega
   have c1:¬ (s.length:Int)<(s.length:Int):=oQ
   rw [List.take_length]at hS
   clear hlt hi
   go_wp2_with fail
   go_ret
   refine ⟨_,rfl,s.map fun x=>(x.key,x.val),⟨Hs1.out,by intros;exact Hkk.out (_,_) aQ,by rw [List.length_map];exact Hs3.out⟩,hS.sb⟩
  have c1:(i:Int)<(s.length:Int):=oQ
  have hwi:=iwQ (i:=i)
  obtain ⟨x,hx⟩:∃ x,s[i]?=some x:=⟨_,List.getElem?_eq_getElem hlt⟩
  have hxm:=List.mem_of_getElem? hx
  have Hxk:=uQ (Hs2.out x hxm).2
  obtain ⟨bk,off,c',hsv,hcell⟩:=osl_row Hlen.out (Sat.rd (hS.pick pick1)) hx dQ
  cases hsv
  have hl36:=Hlen.out x hxm
  have Htk:=uQ (show ((s.take (i+1)).map fun x=>(x.key,x.val)).flatMap (fun q=>bys q.1)=((s.take i).map fun x=>(x.key,x.val)).flatMap (fun q=>bys q.1)++bys x.key by
   rw [List.take_add_one,hx,Option.toList_some,List.map_append,List.flatMap_append];simp)
  have Hlt:=uQ hlt
  have hle5:(((s.take i).map fun x=>(x.key,x.val)).flatMap fun q=>bys q.1).length≤2147483648:=by
   rw [rows_len (k:=32) fun q hq=>by
    obtain ⟨y,hy,rfl⟩:=List.mem_map.1 hq
    rw [bys_len];exact (Hs2.out y (List.mem_of_mem_take hy)).2]
   rw [List.length_map]
   have:=List.length_take_le' i s
   omega
  clear hx hxm hlt hi
  go_wp2_with (first
   |((with_reducible refine at_load ⟨?_⟩);refine wl_loadW (b:=bk) (o:=off+i * 36) (slotL penc x) rQ hcell Tryz.underlying220 rfl (by rw [hl36];kernel_rfl) ?_)
   |(with_reducible apply at_alloc))
  refine ⟨wl_alloc zSlotL hS rfl ?_⟩
  intro b7 w7 hS7
  go_wp2_with (first
   |((with_reducible refine at_store ⟨?_⟩);refine wl_storeA (slotL penc x).toArray hS7 rQ rQ (by rw [List.size_toArray,hl36];rfl) upd0 (by rw [List.size_toArray,hl36];kernel_rfl) (by rw [List.toList_toArray];exact slotL_ones penc x (penc_ones _)) ?_;intro w10 hS10)
   |(with_reducible apply at_load))
  refine ⟨?_⟩
  clear hS hS7 hcell
  have f1:w10.rangeAt b7 1 (bys x.key):=slot_key (hS10.pick pick0)
  go_wp2_with (first
   |((with_reducible refine at_load ⟨?_⟩);refine wl_loadW (b:=b7) (o:=1) (bys x.key) rQ f1 Tryz.underlying41 rfl (by rw [bys_len,Hxk.out];kernel_rfl) ?_)
   |(with_reducible apply at_build1))
  refine ⟨wl_build1 (e:=41) (sz:=32) (by':=32) kQ hS10 rQ (cs:=(bys x.key).toArray) rfl (by rw [List.size_toArray,bys_len,Hxk.out]) dQ ?_⟩
  intro bN wN hN
  go_wp2_with (with_reducible apply at_append)
  refine ⟨wl_app 41 32 32 kQ hN rQ rQ (pick_there (pick_there pick0)) pick0 (by rw [List.size_toArray,bys_len,Hxk.out]) (Nat.le_refl 1) (by rw [List.toList_toArray];exact bys_ones _) hle5 (by rw [List.size_toArray,bys_len,Hxk.out];decide) dQ (by rw [List.toList_toArray]) ?_⟩
  intro bA nA cA wA hA
  go_wp2_with fail
  rw [← Htk.out]at hA
  go_roundg (s.length - (i+1))
  case measure=>have:=Hlt.out;omega
  case rel=>exact ⟨i+1,rfl,Hlt.out,by first|rfl|go_num,hA.sb⟩
end
def kvL (q:Frm.Bs×Seg.Plc):List Value:=bys q.1++penc q.2
theorem kvL_len (q:Frm.Bs×Seg.Plc) (hk:q.1.length=32):(kvL q).length=35:=by unfold kvL;rw [List.length_append,bys_len,hk];rfl
theorem kvL_ones (q:Frm.Bs×Seg.Plc):(kvL q).all (·.oneCell')=true:=by unfold kvL;rw [List.all_append,bys_ones];rfl
theorem zPlc39:zeroB Tryz.prog 39=some (.agg (penc Seg.Plc.zero).toArray):=by kernel_rfl
theorem plKv:placesB Tryz.prog 117=some [(0,32),(32,3)]:=by kernel_rfl
theorem zKv:zeroB Tryz.prog 117=some (.agg (kvL (Frm.zero32,Seg.Plc.zero)).toArray):=by kernel_rfl
theorem run_kv (k:Frm.Bs) (hk:k.length=32) (v:Seg.Plc) (w:World):(Instr.build 117 #[(0,.agg (bys k).toArray),(1,.agg (penc v).toArray)]).run Tryz.prog w = .ok (.agg (kvL (k,v)).toArray) w:=by
 have h:=run_build (P:=Tryz.prog) [(0,.agg (bys k).toArray),(1,.agg (penc v).toArray)] plKv zKv (by
  intro p hp
  have hzz:(Value.agg (kvL (Frm.zero32,Seg.Plc.zero)).toArray).cells.size=35:=by rfl
  rw [hzz]
  rcases List.mem_cons.1 hp with rfl|hp
  ·refine ⟨0,?_,?_⟩
   ·show some (0,32)=some (0,(bys k).toArray.size);rw [List.size_toArray,bys_len,hk]
   ·show 0+(bys k).toArray.size≤35
    rw [List.size_toArray,bys_len,hk];decide
  ·rw [List.mem_singleton.1 hp]
   exact ⟨32,rfl,by show 32+3≤35;omega⟩) w
 refine h.trans ?_
 have hz:Frm.zero32.length=32:=rfl
 have hzl:(kvL (Frm.zero32,Seg.Plc.zero)).length=35:=kvL_len _ hz
 have e:putsAt (putsAt (kvL (Frm.zero32,Seg.Plc.zero)).toArray 0 (bys k)) 32 (penc v)=(kvL (k,v)).toArray:=by
  apply putsAt_eq
  rw [puts_putL _ _ _ (by rw [putsAt_size,List.size_toArray,hzl];exact Nat.le_refl 35),puts_putL _ _ _ (by rw [List.size_toArray,hzl,bys_len,hk];decide),List.toList_toArray]
  have e1:putL (kvL (Frm.zero32,Seg.Plc.zero)) 0 (bys k)=bys k++penc Seg.Plc.zero:=by
   unfold kvL
   rw [putL_app2 _ _ _ _ (by rw [bys_len,bys_len,hk,hz];decide),putL_all (by rw [bys_len,bys_len,hk,hz])]
  have h0:=putL_app (bys k) (penc Seg.Plc.zero) (penc v) 0
  rw [bys_len,hk,putL_all (xs:=penc Seg.Plc.zero) (vs:=penc v) rQ]at h0
  rw [e1]
  exact h0
 exact congrArg (fun x=>Result.ok (Value.agg x) w) e
section
variable {P:Program}{d:Nat}{xs:Array Value}
theorem eqF_self:∀ (fs:List Field),(∀ f∈fs,∃ a,(∀ w,(part f.type xs f.offset).run P w = .ok a w)∧∀ w,(Op.equalIn d f.type a a).run P w = .ok true w)→∀ w,(Op.eqFields d xs xs fs).run P w = .ok true w
 |[],_,w=>by simp [Op.eqFields]
 |f::fs,h,w=>by
  obtain ⟨a,h1,h2⟩:=h f (.head _)
  have ih:=eqF_self fs (fun g hg=>h g (.tail _ hg)) w
  unfold Op.eqFields
  split
  ·simp only [Sem.run_bind,h1,h2,Result.andThen_ok,Bool.not_true,Bool.false_eq_true,if_false,ih]
  ·exact ih
theorem eqS_self (T:TypeId) (l:List (TypeId×Nat)) (ht:P.underlying T=some (.struct (P.fieldsOf T))) (hp:P.stoodInHeld T=false) (hl:((P.fieldsOf T).toList.map fun f=>(f.type,f.offset))=l)
  (h:∀ q∈l,∃ a,(∀ w,(part q.1 xs q.2).run P w = .ok a w)∧∀ w,(Op.equalIn d q.1 a a).run P w = .ok true w) (w:World):(Op.equalIn (d+1) T (.agg xs) (.agg xs)).run P w = .ok true w:=by
 rw [run_equalIn_struct w d T xs xs ht hp]
 refine eqF_self _ (fun f hf=>?_) w
 exact h (f.type,f.offset) (by rw [← hl];exact List.mem_map.2 ⟨f,hf,rfl⟩)
theorem part_int {e:TypeId}{k:IntKind} (he:P.underlying e=some (.int k)) (i:Nat) (z:Int) (hv:xs[i]?=some (.int k z)):∃ a,(∀ w,(part e xs i).run P w = .ok a w)∧∀ w,(Op.equalIn (d+1) e a a).run P w = .ok true w:=
 ⟨_,fun w=>run_part_int he xs i _ hv w,fun w=>by rw [run_equalIn_int w d e k k z z he];simp⟩
theorem part_string {e:TypeId} (he:P.underlying e=some .string) (i:Nat) (z:ByteArray) (hv:xs[i]?=some (.string z)):∃ a,(∀ w,(part e xs i).run P w = .ok a w)∧∀ w,(Op.equalIn (d+1) e a a).run P w = .ok true w:=
 ⟨.string z,fun w=>by unfold part isAgg;simp [Sem.run_bind,run_underlying he,hv],fun w=>by rw [run_equalIn_string w d e z z he];simp⟩
theorem part_row {e:TypeId}{i:TypeInfo}{dd:TypeDesc} (he:P.underlying e=some dd) (hd:(match dd with | .struct _ | .array _ _=>true|_=>false)=true) (hi:P.info? e=some i) (off:Nat) (w:World):(part e xs off).run P w = .ok (.agg (xs.extract off (off+i.size))) w:=by
 have hc:P.cellsOf e=i.size:=by unfold Program.cellsOf;simp [hi]
 unfold part isAgg
 cases dd <;> simp_all [Sem.run_bind,run_underlying he,run_sizeOf w hi]
end
set_option maxRecDepth 20000 in
theorem eqIn_keyD (d:Nat) (k:Frm.Bs) (hk:k.length=32) (w:World):(Op.equalIn (d+2) 41 (.agg (bys k).toArray) (.agg (bys k).toArray)).run Tryz.prog w = .ok true w:=by
 obtain ⟨i,hi,_⟩:=info8p
 have h:=run_equalIn_array (P:=Tryz.prog) w (d+1) (bys k).toArray (bys k).toArray (t:=41) Tryz.underlying41 hi
 rw [bys_ints,show Tryz.prog.cellsOf 5=1 from by kernel_rfl,run_eqItems_int d (P:=Tryz.prog) Tryz.underlying5 _ _ (List.range 32) (fun i hi=>by have:=List.mem_range.1 hi;simp;omega)]at h
 rw [bys_ints,h]
 simp
theorem info_id:∃ i:TypeInfo,Tryz.prog.info? 41=some i∧i.size=32:=by
 have h:(Tryz.prog.info? 41).map (·.size)=some 32:=by kernel_rfl
 cases hq:Tryz.prog.info? 41 with
 |none=>rw [hq]at h;cases h
 |some i=>rw [hq]at h;exact ⟨i,rfl,by simpa using h⟩
theorem info_plc:∃ i:TypeInfo,Tryz.prog.info? 39=some i∧i.size=3:=by
 have h:(Tryz.prog.info? 39).map (·.size)=some 3:=by kernel_rfl
 cases hq:Tryz.prog.info? 39 with
 |none=>rw [hq]at h;cases h
 |some i=>rw [hq]at h;exact ⟨i,rfl,by simpa using h⟩
theorem part_key {xs:Array Value}{d:Nat} (off:Nat) (k:Frm.Bs) (hk:k.length=32) (hx:xs.extract off (off+32)=(bys k).toArray):∃ a,(∀ w,(part 41 xs off).run Tryz.prog w = .ok a w)∧∀ w,(Op.equalIn (d+2) 41 a a).run Tryz.prog w = .ok true w:=by
 obtain ⟨i,hi,hs⟩:=info_id
 exact ⟨.agg (bys k).toArray,fun w=>by rw [part_row Tryz.underlying41 rfl hi off w,hs,hx],fun w=>eqIn_keyD d k hk w⟩
theorem eqIn_use (a b c:Int) (w:World):(Op.equalIn 10000 115 (.agg #[.int .i64 a,.int .i64 b,.int .i64 c]) (.agg #[.int .i64 a,.int .i64 b,.int .i64 c])).run Tryz.prog w = .ok true w:=by
 refine eqS_self (d:=9999) 115 [(3,0),(3,1),(3,2)] kQ kQ kQ (fun q hq=>?_) w
 simp only [List.mem_cons,List.not_mem_nil,or_false]at hq
 rcases hq with rfl|rfl|rfl
 ·exact part_int Tryz.underlying3 0 a rfl
 ·exact part_int Tryz.underlying3 1 b rfl
 ·exact part_int Tryz.underlying3 2 c rfl
theorem eqIn_plc (d:Nat) (q:Seg.Plc) (w:World):(Op.equalIn (d+2) 39 (.agg (penc q).toArray) (.agg (penc q).toArray)).run Tryz.prog w = .ok true w:=by
 refine eqS_self (d:=d+1) 39 [(3,0),(3,1),(3,2)] kQ kQ kQ (fun q hq=>?_) w
 simp only [List.mem_cons,List.not_mem_nil,or_false]at hq
 rcases hq with rfl|rfl|rfl
 ·exact part_int Tryz.underlying3 0 _ rfl
 ·exact part_int Tryz.underlying3 1 _ rfl
 ·exact part_int Tryz.underlying3 2 _ rfl
theorem kv_key (q:Frm.Bs×Seg.Plc) (hk:q.1.length=32):(kvL q).toArray.extract 0 (0+32)=(bys q.1).toArray:=by
 apply Array.toList_inj.1
 rw [Array.toList_extract,List.toList_toArray,List.toList_toArray]
 unfold kvL
 simp only [List.extract,List.drop_zero,Nat.zero_add,Nat.sub_zero]
 rw [List.take_append_of_le_length (by rw [bys_len];omega),List.take_of_length_le (by rw [bys_len];omega)]
theorem kv_plc (q:Frm.Bs×Seg.Plc) (hk:q.1.length=32):(kvL q).toArray.extract 32 (32+3)=(penc q.2).toArray:=by
 apply Array.toList_inj.1
 rw [Array.toList_extract,List.toList_toArray,List.toList_toArray]
 unfold kvL
 simp only [List.extract]
 rw [List.drop_append,List.drop_of_length_le (by rw [bys_len];omega),bys_len,hk,List.nil_append]
 rfl
theorem eqIn_kv (q:Frm.Bs×Seg.Plc) (hk:q.1.length=32) (w:World):(Op.equalIn 10000 117 (.agg (kvL q).toArray) (.agg (kvL q).toArray)).run Tryz.prog w = .ok true w:=by
 refine eqS_self (d:=9999) 117 [(41,0),(39,32)] kQ kQ kQ (fun x hx=>?_) w
 simp only [List.mem_cons,List.not_mem_nil,or_false]at hx
 rcases hx with rfl|rfl
 ·exact part_key 0 q.1 hk (kv_key q hk)
 ·obtain ⟨i,hi,hs⟩:=info_plc
  exact ⟨.agg (penc q.2).toArray,fun w=>by rw [part_row Tryz.underlying39 rfl hi 32 w,hs,kv_plc q hk],fun w=>eqIn_plc 9997 q.2 w⟩
theorem flt_key (f:Rep.Flt):(fltA f).extract 3 (3+32)=(bys Frm.zero32).toArray:=by kernel_rfl
theorem eqIn_flt (f:Rep.Flt) (w:World):(Op.equalIn 10000 75 (.agg (fltA f)) (.agg (fltA f))).run Tryz.prog w = .ok true w:=by
 refine eqS_self (d:=9999) 75 [(3,0),(3,1),(3,2),(41,3),(9,35)] kQ kQ kQ (fun x hx=>?_) w
 simp only [List.mem_cons,List.not_mem_nil,or_false]at hx
 rcases hx with rfl|rfl|rfl|rfl|rfl
 ·exact part_int Tryz.underlying3 0 _ rfl
 ·exact part_int Tryz.underlying3 1 _ rfl
 ·exact part_int Tryz.underlying3 2 _ rfl
 ·exact part_key 3 Frm.zero32 rfl (flt_key f)
 ·exact part_string Tryz.underlying9 35 ByteArray.empty rfl
section
variable {P:Program}{T:TypeId}{cs:Array Value}
theorem neq_self (h:∀ w,(Op.equalIn 10000 T (.agg cs) (.agg cs)).run P w = .ok true w) (w:World):(binOp .neq T (.agg cs) (.agg cs)).run P w = .ok (.bool false) w:=by
 rw [run_neq_struct,h];rfl
end
end Go.Proofs.YtmjldaedhmipkaaGreatDoor
