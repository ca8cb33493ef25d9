import Derived.Test.YtlinnpehkfbnkaaGreatDoorJ10
set_option linter.unusedVariables false
set_option maxHeartbeats 128000000
namespace Go.Hin
open Go.Med
open Go.Rep (Use)
open Go.Seg (Plc)
def fin (n:Int) (us:List Use) (i:Nat):Bool:=decide (i=us.length) && (decide (0<i) && decide ((us.getD (i - 1) ⟨0,0,0⟩).seg=n))
def fitU (sz:Int→Int) (s:Int) (u:Use):Bool:=decide (u.seg=s) && (decide (u.size=sz s) && decide (u.live≤u.size))
def fitsL (sz:Int→Int) (n:Int) (us:List Use):List Int→Nat→Bool
 |[],i=>fin n us i
 |s::ss,i=>if n<s then fin n us i else match us[i]? with
  |none=>false
  |some u=>if fitU sz s u=true then fitsL sz n us ss (i+1) else false
def fits (L:Seg.Log) (us:List Use) (n:Int):Bool:=fitsL L.size n us L.segs 0
theorem fits_yes {sz:Int→Int}{n:Int}{us:List Use} (hu:∀ u∈us,u.seg≤n∧u.size=sz u.seg∧u.live≤u.size) (hl:us.getLast?.map (·.seg)=some n) :
  ∀ (ss:List Int) (i:Nat) (rest:List Int),ss=(us.drop i).map (·.seg)++rest→(∀ s∈rest,n<s)→i≤us.length→fitsL sz n us ss i=true:=by
 have hfin:fin n us us.length=true:=by
  cases us with
  |nil=>cases hl
  |cons u us=>
   unfold fin
   have e:(u::us).getLast?=some ((u::us).getD ((u::us).length - 1) ⟨0,0,0⟩):=by
    rw [List.getLast?_eq_getElem?,List.getD_eq_getElem?_getD]
    rw [List.getElem?_eq_getElem (by simp)];rfl
   rw [e]at hl
   simp only [Option.map_some,Option.some.injEq]at hl
   rw [hl]
   simp
 intro ss
 induction ss with
 |nil=>
  intro i rest hs hr hi
  have:=congrArg List.length hs
  simp only [List.length_nil,List.length_append,List.length_map,List.length_drop]at this
  obtain rfl:i=us.length:=by omega
  exact hfin
 |cons s ss ih=>
  intro i rest hs hr hi
  by_cases hlt:i<us.length
  ·have hd:us.drop i=us[i]::us.drop (i+1):=List.drop_eq_getElem_cons hlt
   rw [hd,List.map_cons,List.cons_append]at hs
   obtain ⟨h1,h2⟩:=List.cons.inj hs
   obtain ⟨u1,u2,u3⟩:=hu us[i] (List.getElem_mem hlt)
   unfold fitsL
   rw [if_neg oQ,List.getElem?_eq_getElem hlt]
   simp only
   rw [if_pos (by unfold fitU;rw [h1,u2];simp;omega)]
   exact ih (i+1) rest h2 hr hlt
  ·obtain rfl:i=us.length:=by omega
   rw [List.drop_length,List.map_nil,List.nil_append]at hs
   have:=hr s (by rw [← hs];exact List.mem_cons_self)
   unfold fitsL
   rw [if_pos this]
   exact hfin
def lies (p:Plc) (sz:Int→Int):Bool:=decide (8≤p.at_) && (decide (41≤p.size) && decide (p.size≤sz p.seg - p.at_))
def sizes (us:List Use):Int→Int:=us.foldl (fun f u=>fun s=>if s=u.seg then u.size else f s) fun _=>0
theorem sizes_snoc (us:List Use) (u:Use):sizes (us++[u])=fun s=>if s=u.seg then u.size else sizes us s:=by unfold sizes;rw [List.foldl_append];rfl
theorem sizes_at {us:List Use} (h:(us.map (·.seg)).Nodup){u:Use} (hu:u∈us):sizes us u.seg=u.size:=by
 rw [← List.reverse_reverse us]at h hu ⊢
 generalize us.reverse=r at *
 induction r with
 |nil=>cases hu
 |cons v r ih=>
  rw [List.reverse_cons]at h hu ⊢
  rw [sizes_snoc]
  rw [List.map_append,List.nodup_append]at h
  rcases List.mem_append.1 hu with hu|hu
  ·have hne:u.seg≠v.seg:=h.2.2 _ (List.mem_map.2 ⟨u,hu,rfl⟩) _ (by simp)
   simp only
   rw [if_neg hne]
   exact ih h.1 hu
  ·rw [List.mem_singleton.1 hu];simp
theorem crashFiles_keep (l:List Int){i:Nat}{f:Fil} (hf:FFlat f):∀ (ns:Names) (j:Nat) (fs:List Fil),fs.getD i Fil.new=f→(crashFiles l ns j fs).getD i Fil.new=f
 |[],j,fs,h=>h
 |p::ns,j,fs,h=>by
  unfold crashFiles
  refine crashFiles_keep l hf ns (j+2) _ ?_
  rw [List.getD_eq_getElem?_getD,List.getElem?_set]
  split
  ·rename_i e
   subst e
   split
   ·rw [h];exact hf.crash _ _
   ·rename_i hlt
    rw [List.getD_eq_getElem?_getD,List.getElem?_eq_none oQ]at h
    exact h
  ·rw [List.getD_eq_getElem?_getD]at h;exact h
theorem crash_keep {M:Med} (l:List Int){i:Nat} (hf:FFlat (M.file i)):(M.crash l).file i=M.file i:=crashFiles_keep l hf _ _ _ rfl
theorem crash_now (M:Med) (l:List Int):∃ k,k≤M.waits.length∧(M.crash l).now=M.lastNames k:=⟨_,Med.clampN_le _ _,rfl⟩
section
variable {T:Kept}{s1 s2 s:ByteArray}{b1 b2 b:Bs}{K:Nat}{M:Med}
theorem Sv.crash (h:Sv T s1 b1 s2 b2 K M) (hT:∀ t∈T,FFlat t.2.2) (l:List Int):Sv T s1 b1 s2 b2 K (M.crash l)∧(M.crash l).waits=[]:=by
 obtain ⟨k,hk,hn⟩:=crash_now M l
 have hm:=h.nm k hk
 refine ⟨⟨h.ok.crash l,fun j hj=>?_,fun t ht=>?_⟩,rfl⟩
 ·have e:(M.crash l).lastNames j=M.lastNames k:=by
   obtain rfl:j=0:=Nat.le_zero.1 hj
   have:=(h.ok.crash l).now
   rw [hn]at this
   exact this.symm
  rw [e]
  exact hm.files (fun i hi=>crash_keep l (by rw [hm.one i hi];exact ⟨rfl,rfl⟩)) (fun i hi=>crash_keep l (by rw [hm.two i hi];exact ⟨rfl,rfl⟩))
 ·rw [crash_keep l (by rw [h.fil t ht];exact hT t ht)]
  exact h.fil t ht
theorem crash_has (l:List Int) (hw:M.waits=[]) (ok:M.Ok K){s:ByteArray}{i:Nat} (hi:nget M.now s=some i):nget (M.crash l).now s=some i:=by
 obtain ⟨k,hk,hn⟩:=crash_now M l
 rw [hw]at hk
 obtain rfl:k=0:=Nat.le_zero.1 hk
 rw [hn]
 have:=ok.now
 rw [hw]at this
 rw [← show M.now=M.lastNames 0 from this]
 exact hi
end
theorem fresh_iff {M:Med}{lim:Int} (hoff:M.off=false) (s:Int):s∈(Seg.fresh M lim).segs↔(0≤s∧s<1048576)∧∃ i,nget M.now (Seg.name s)=some i:=by
 constructor
 ·intro hs
  unfold Seg.Log.segs at hs
  obtain ⟨x,hx,rfl⟩:=List.mem_map.1 hs
  obtain ⟨t,ht,hn,rfl⟩:=Seg.found_mem hx
  obtain ⟨a,b,c⟩:=Seg.number_is hn
  refine ⟨⟨a,b⟩,?_⟩
  simp only
  rw [c]
  exact Seg.list_now ht
 ·rintro ⟨⟨a,b⟩,i,hi⟩
  have:=Seg.fresh_mem (lim:=lim) hoff a b hi
  unfold Seg.nf at this
  exact List.mem_of_mem_take this
theorem fresh_size {M:Med}{K:Nat}{lim:Int} (q:M.off=false) (hL:(Seg.fresh M lim).Ok){s:Int}{i:Nat} (h:s∈(Seg.fresh M lim).segs) (hi:nget M.now (Seg.name s)=some i):(Seg.fresh M lim).size s=((M.file i).now.length:Int):=by
 obtain ⟨k,hk⟩:=Seg.at_mem hL h
 obtain ⟨h2,x,h3,h4⟩:=Seg.Log.at_lt hk
 unfold Seg.Log.size
 rw [hk]
 simp only [List.getD_eq_getElem?_getD,h3,Option.getD_some]
 obtain ⟨t,ht,hn,hx⟩:=Seg.found_mem (List.mem_of_getElem? h3)
 obtain ⟨a,b,c⟩:=Seg.number_is hn
 have h5:(Seg.number t).1=s:=by rw [← h4,hx]
 rw [hx]
 simp only
 rw [h5]at c
 rw [← c]
 unfold Med.size
 rw [q,hi]
 rfl
end Go.Hin
namespace Go.Proofs.YtlinnpehkfbnkaaGreatDoor
open Go Go.Sl Go.Med Go.MapKept Go.RowKit
section
variable {w0 w:World}{F:List HProp}{m K p bm:Nat}{M:Med}{L:Seg.Log}{n:Int}{lv:Value}{f:Int→Int}
theorem hlies_c (q:Seg.Plc) (hb:IntKind.i64.wrap (f q.seg - q.at_)=f q.seg - q.at_) (h:Sat w0 w (imap bm f::F)) :
  Calls Tryz.prog 81 #[.agg (penc q).toArray,.map (some bm)] w (Rtn fun v w'=>v = .bool (Hin.lies q f)∧Sat w0 w' (imap bm f::F)):=by
 have Hf:=uQ (show Hin.lies q f=(decide (8≤q.at_) && (decide (41≤q.size) && decide (q.size≤f q.seg - q.at_))) from rfl)
 go_enter Tryz.func81,Tryz.ntmps81
 go_wp2_with (with_reducible apply at_box)
 refine ⟨wl_box h rFz rFz ?_⟩
 intro b2 w2 h2
 clear h
 have e0:w2.cell? ⟨b2,0,none⟩=some (.int .i64 q.seg):=h2.cellP pick0 0 rfl
 have e1:w2.cell? ⟨b2,1,none⟩=some (.int .i64 q.at_):=h2.cellP pick0 1 rfl
 have e2:w2.cell? ⟨b2,2,none⟩=some (.int .i64 q.size):=h2.cellP pick0 2 rfl
 have hlk:=imap_look q.seg (h2.pick pick1)
 by_cases c1:8≤q.at_
 ·by_cases c2:41≤q.size
  ·by_cases c3:q.size≤f q.seg - q.at_
   ·have Hr:=uQ (Hf.out.trans (by rw [decide_eq_true c1,decide_eq_true c2,decide_eq_true c3];rfl:_=true))
    go_wp2_with fail
    go_ret
    exact ⟨_,rfl,by rw [Hr.out];rfl,h2.drop⟩
   ·have Hr:=uQ (Hf.out.trans (by rw [decide_eq_true c1,decide_eq_true c2,decide_eq_false c3];rfl:_=false))
    go_wp2_with fail
    go_ret
    exact ⟨_,rfl,by rw [Hr.out];rfl,h2.drop⟩
  ·have Hr:=uQ (Hf.out.trans (by rw [decide_eq_true c1,decide_eq_false c2];rfl:_=false))
   clear e0 hlk
   go_wp2_with fail
   go_ret
   exact ⟨_,rfl,by rw [Hr.out];rfl,h2.drop⟩
 ·have Hr:=uQ (Hf.out.trans (by rw [decide_eq_false c1];rfl:_=false))
  clear e0 e2 hlk
  go_wp2_with fail
  go_ret
  exact ⟨_,rfl,by rw [Hr.out];rfl,h2.drop⟩
theorem hfits_step {sz:Int→Int}{us:List Rep.Use}{ss:List Int}{i:Nat}{s:Int} (h:ss[i]?=some s):Hin.fitsL sz n us (ss.drop i) i=(if n<s then Hin.fin n us i else match us[i]? with
  |none=>false
  |some u=>if Hin.fitU sz s u=true then Hin.fitsL sz n us (ss.drop (i+1)) (i+1) else false):=by
 obtain ⟨hi,rfl⟩:=List.getElem?_eq_some_iff.1 h
 rw [List.drop_eq_getElem_cons hi]
 rfl
set_option maxRecDepth 20000 in
theorem hfits_c (us:List Rep.Use) (hul:us.length≤1073741824) (hL:L.Ok) (hr:Ro w0 F (rdsl 3 lv (us.flatMap uenc))) (h:Sat w0 w (LogRep p m L::F)) :
  Calls Tryz.prog 80 #[ptr p,lv,.int .i64 n] w (Rtn fun v w'=>v = .bool (Hin.fits L us n)∧Sat w0 w' (LogRep p m L::F)):=by
 obtain ⟨la,lc,rfl⟩:=osl_rows (fun u _=>uenc_len u) (hr w h.drop) dCz
 have hse:=lsegs_c hL h
 have Hsl:=uQ (show L.segs.length≤1073741824 from by unfold Seg.Log.segs;rw [List.length_map];have:=hL.len;omega)
 have HLs:=uQ (fun (w':World) (R:List HProp) (hw:Sat w0 w' (LogRep p m L::R))=>fun (s:Int)=>lsize_c hL s hw)
 have Hr:=uQ hr;have Hul:=uQ hul
 have HW0:=uQ (show Hin.fitsL L.size n us (L.segs.drop 0) 0=Hin.fits L us n from rfl)
 generalize Hin.fits L us n=W at *
 clear hr hul hL
 go_enter Tryz.func80,Tryz.ntmps80
 go_wp2_with fail
 refine hse.mono ?_
 rintro ee w1 ⟨v,rfl,h1⟩
 clear hse h
 obtain ⟨sa,sc,rfl⟩:=ints_sl (Sat.rd h1)
 go_wp2_with fail
 go_loopg [7,13] L.segs.length (fun g kq iq wr=>∃ i:Nat,g=L.segs.length - i∧i≤L.segs.length∧kq = .int .i64 i∧iq = .int .i64 i∧Hin.fitsL L.size n us (L.segs.drop i) i=W∧Sat w0 wr (osl 3 1 (.slice sa L.segs.length sc) (ints L.segs)::LogRep p m L::F))
 case atStart=>exact ⟨0,rfl,Nat.zero_le _,rfl,rfl,HW0.out,h1⟩
 case round=>
  obtain ⟨i,rfl,hi,rfl,rfl,hW,hS⟩:=hrel
  clear h1 HW0
  by_cases hlt:i<L.segs.length
  rotate_left
  ·as_aux_lemma=>
   have c1:¬ (i:Int)<(L.segs.length:Int):=oQ
   have HW:=uQ (show W=Hin.fin n us i from by rw [List.drop_of_length_le oQ]at hW;exact hW.symm)
   clear hW hlt hi
   by_cases e1:i=us.length
   rotate_left
   ·have hb:((i:Int)==(us.length:Int))=false:=by rw [beq_eq_false_iff_ne];omega
    have Hr:=uQ (HW.out.trans (by unfold Hin.fin;rw [decide_eq_false e1];rfl:_=false))
    clear e1
    go_wp2_with fail
    go_ret
    exact ⟨_,rfl,by rw [Hr.out];rfl,hS.drop⟩
   ·rcases i with _|k
    ·have hb:((0:Int)==(us.length:Int))=true:=by rw [beq_iff_eq];omega
     have hbz:¬ (0:Int)<0:=by decide
     (try have hsc0:=(show wr.cell? ⟨sb,so,none⟩=some (.int .i64 s) from hsc))
     (try have c10:(0:Int)<(L.segs.length:Int):=c1)
     have Hr:=uQ (HW.out.trans (by unfold Hin.fin;rw [decide_eq_true e1];rfl:_=false))
     clear e1
     go_wp2_with fail
     go_ret
     exact ⟨_,rfl,by rw [Hr.out];rfl,hS.drop⟩
    ·have hb:((k:Int)+1==(us.length:Int))=true:=by rw [beq_iff_eq];omega
     have ck:k<us.length:=oQ
     have hck:(k:Int)<(us.length:Int):=oQ
     have hc0:(0:Int)<(k:Int)+1:=oQ
     have hwk:IntKind.i64.wrap ((k:Int)+1 - 1)=(k:Int):=by rw [Int.add_sub_cancel];exact IntWalk.i64_in _ (by have:=Hul.out;omega)
     have hwk2:IntKind.i64.wrap (k:Int)=(k:Int):=IntWalk.i64_in _ (by have:=Hul.out;omega)
     obtain ⟨u,hu⟩:∃ u,us[k]?=some u:=⟨_,List.getElem?_eq_getElem ck⟩
     have hgd:us.getD k ⟨0,0,0⟩=u:=by rw [List.getD_eq_getElem?_getD,hu];rfl
     obtain ⟨bk,off,c',hsv,hcell⟩:=osl_row (f:=uenc) (k:=3) (fun u _=>rfl) (Hr.out _ hS.drop.drop) hu dCz
     cases hsv
     have e0:=hcell 0 _ rfl
     rw [Nat.add_zero]at e0
     by_cases c2:u.seg=n
     ·have Hr2:=uQ (HW.out.trans (by unfold Hin.fin;rw [decide_eq_true e1,Nat.add_sub_cancel,hgd,decide_eq_true c2,decide_eq_true (Nat.succ_pos k)];rfl:_=true))
      have hb2:(u.seg==n)=true:=beq_iff_eq.2 c2
      clear e1 c2 hgd hu hcell ck
      go_wp2_with fail
      go_ret
      exact ⟨_,rfl,by rw [Hr2.out];rfl,hS.drop⟩
     ·have Hr2:=uQ (HW.out.trans (by unfold Hin.fin;rw [decide_eq_true e1,Nat.add_sub_cancel,hgd,decide_eq_false c2,decide_eq_true (Nat.succ_pos k)];rfl:_=false))
      have hb2:(u.seg==n)=false:=beq_eq_false_iff_ne.2 c2
      clear e1 c2 hgd hu hcell ck
      go_wp2_with fail
      go_ret
      exact ⟨_,rfl,by rw [Hr2.out];rfl,hS.drop⟩
  have c1:(i:Int)<(L.segs.length:Int):=oQ
  have hwi:IntKind.i64.wrap ((i:Int)+1)=(i:Int)+1:=IntWalk.i64_in _ (by have:=Hsl.out;omega)
  obtain ⟨s,hs⟩:∃ s,L.segs[i]?=some s:=⟨_,List.getElem?_eq_getElem hlt⟩
  obtain ⟨sb,so,scc,hsv,hsc⟩:=ints_cell (Sat.rd hS) hs
  cases hsv
  have hstep:=hfits_step (n:=n) (sz:=L.size) (us:=us) hs
  rw [hW]at hstep
  have Hlt:=uQ hlt
  clear hW hs hlt hi
  by_cases cn:n<s
  ·as_aux_lemma=>
   have HW:=uQ (show W=Hin.fin n us i from by rw [if_pos cn]at hstep;exact hstep)
   clear hstep
   by_cases e1:i=us.length
   rotate_left
   ·have hb:((i:Int)==(us.length:Int))=false:=by rw [beq_eq_false_iff_ne];omega
    have Hr:=uQ (HW.out.trans (by unfold Hin.fin;rw [decide_eq_false e1];rfl:_=false))
    clear e1
    go_wp2_with fail
    go_ret
    exact ⟨_,rfl,by rw [Hr.out];rfl,hS.drop⟩
   ·rcases i with _|k
    ·have hb:((0:Int)==(us.length:Int))=true:=by rw [beq_iff_eq];omega
     have hbz:¬ (0:Int)<0:=by decide
     (try have hsc0:=(show wr.cell? ⟨sb,so,none⟩=some (.int .i64 s) from hsc))
     (try have c10:(0:Int)<(L.segs.length:Int):=c1)
     have Hr:=uQ (HW.out.trans (by unfold Hin.fin;rw [decide_eq_true e1];rfl:_=false))
     clear e1
     go_wp2_with fail
     go_ret
     exact ⟨_,rfl,by rw [Hr.out];rfl,hS.drop⟩
    ·have hb:((k:Int)+1==(us.length:Int))=true:=by rw [beq_iff_eq];omega
     have ck:k<us.length:=oQ
     have hck:(k:Int)<(us.length:Int):=oQ
     have hc0:(0:Int)<(k:Int)+1:=oQ
     have hwk:IntKind.i64.wrap ((k:Int)+1 - 1)=(k:Int):=by rw [Int.add_sub_cancel];exact IntWalk.i64_in _ (by have:=Hul.out;omega)
     have hwk2:IntKind.i64.wrap (k:Int)=(k:Int):=IntWalk.i64_in _ (by have:=Hul.out;omega)
     obtain ⟨u,hu⟩:∃ u,us[k]?=some u:=⟨_,List.getElem?_eq_getElem ck⟩
     have hgd:us.getD k ⟨0,0,0⟩=u:=by rw [List.getD_eq_getElem?_getD,hu];rfl
     obtain ⟨bk,off,c',hsv,hcell⟩:=osl_row (f:=uenc) (k:=3) (fun u _=>rfl) (Hr.out _ hS.drop.drop) hu dCz
     cases hsv
     have e0:=hcell 0 _ rfl
     rw [Nat.add_zero]at e0
     by_cases c2:u.seg=n
     ·have Hr2:=uQ (HW.out.trans (by unfold Hin.fin;rw [decide_eq_true e1,Nat.add_sub_cancel,hgd,decide_eq_true c2,decide_eq_true (Nat.succ_pos k)];rfl:_=true))
      have hb2:(u.seg==n)=true:=beq_iff_eq.2 c2
      clear e1 c2 hgd hu hcell ck
      go_wp2_with fail
      go_ret
      exact ⟨_,rfl,by rw [Hr2.out];rfl,hS.drop⟩
     ·have Hr2:=uQ (HW.out.trans (by unfold Hin.fin;rw [decide_eq_true e1,Nat.add_sub_cancel,hgd,decide_eq_false c2,decide_eq_true (Nat.succ_pos k)];rfl:_=false))
      have hb2:(u.seg==n)=false:=beq_eq_false_iff_ne.2 c2
      clear e1 c2 hgd hu hcell ck
      go_wp2_with fail
      go_ret
      exact ⟨_,rfl,by rw [Hr2.out];rfl,hS.drop⟩
  rw [if_neg cn]at hstep
  by_cases hu:i<us.length
  rotate_left
  ·as_aux_lemma=>
   have Hr2:=uQ (show W=false from by rw [List.getElem?_eq_none oQ]at hstep;exact hstep)
   have cu:(us.length:Int)≤(i:Int):=oQ
   have cuN:us.length≤i:=oQ
   clear hstep hu
   go_wp2_with fail
   have hSd:=hS.drew
   have hG:True:=trivial
   refine wpL_begin [35,36] (fun w'=>True) kRz ?_
   refine rP 0 ?_ (y:=mvQ)
   refine rP 1 ?_ (y:=mvQ)
   refine rP 2 ?_ (y:=(yl_len evD rnD))
   refine rP 3 ?_ (y:=bnQ)
   refine rP 4 ?_ (y:=mvQ)
   refine rg_skip 5 evD kRz i3z rFz gQ ?_
   refine rg_skip 6 evD kRz i3z rFz gQ ?_
   refine rg_skip 7 evD kRz i3z rFz gQ ?_
   refine rg_skip 8 evD kRz i3z rFz gQ ?_
   refine rg_skip 9 evD kRz i3z rFz gQ ?_
   refine rg_skip 10 evD kRz i3z rFz gQ ?_
   refine rg_skip 11 evD kRz i3z rFz gQ ?_
   refine rP 12 ?_ (y:=(yg_pick rFz evD evD))
   refine rP 13 ?_ (y:=mvQ)
   refine rg_skip 14 evD kRz i3z rFz gQ ?_
   refine rg_skip 15 evD kRz i3z rFz gQ ?_
   refine rg_skip 16 evD kRz i3z rFz gQ ?_
   refine rg_skip 17 evD kRz i3z rFz gQ ?_
   refine rg_skip 18 evD kRz i3z rFz gQ ?_
   refine rg_skip 19 evD kRz i3z rFz gQ ?_
   refine rg_skip 20 evD kRz i3z rFz gQ ?_
   refine rg_skip 21 evD kRz i3z rFz gQ ?_
   refine rg_skip 22 evD kRz i3z rFz gQ ?_
   refine rP 23 ?_ (y:=(yg_pick rFz evD evD))
   refine rP 24 ?_ (y:=mvQ)
   refine rg_skip 25 evD kRz i3z rFz gQ ?_
   refine rg_skip 26 evD kRz i3z rFz gQ ?_
   refine rg_skip 27 evD kRz i3z rFz gQ ?_
   refine rg_skip 28 evD kRz i3z rFz gQ ?_
   refine rg_skip 29 evD kRz i3z rFz gQ ?_
   refine rg_skip 30 evD kRz i3z rFz gQ ?_
   refine rg_skip 31 evD kRz i3z rFz gQ ?_
   refine rg_skip 32 evD kRz i3z rFz gQ ?_
   refine rg_skip 33 evD kRz i3z rFz gQ ?_
   refine rg_skip 34 evD kRz i3z rFz gQ ?_
   refine rg_skip 35 evD kRz i3z rFz gQ ?_
   refine rP 36 ?_ (y:=(yg_pick rFz evD evD))
   refine wpL_done kRz ?_
   try simp only [ayQ]
   try go_frame
   go_wp2_with fail
   go_ret
   exact ⟨_,rfl,by rw [Hr2.out];rfl,hSd.drop⟩
  have cu:¬ (us.length:Int)≤(i:Int):=oQ
  have cuN:¬ us.length≤i:=oQ
  have cuD:decide (us.length≤i)=false:=decide_eq_false cuN
  have cuD2:decide ((us.length:Int)≤(i:Int))=false:=decide_eq_false cu
  have cu2:(i:Int)<(us.length:Int):=oQ
  obtain ⟨u,hx⟩:∃ u,us[i]?=some u:=⟨_,List.getElem?_eq_getElem hu⟩
  rw [hx]at hstep
  dsimp only at hstep
  obtain ⟨bk,off,c',hlv,hcell⟩:=osl_row (f:=uenc) (k:=3) (fun u _=>rfl) (Hr.out _ hS.drop.drop) hx dCz
  cases hlv
  have HG:=uQ (fun (w':World) (hw:Sat w0 w' (osl 3 1 (.slice (some ⟨sb,so,none⟩) L.segs.length sc) (ints L.segs)::LogRep p m L::F))=>show w'.cell? ⟨bk,off+i * 3,none⟩=some (.int .i64 u.seg)∧w'.cell? ⟨bk,off+i * 3+1,none⟩=some (.int .i64 u.size)∧w'.cell? ⟨bk,off+i * 3+2,none⟩=some (.int .i64 u.live) from by
   obtain ⟨_,_,_,e,hc⟩:=osl_row (f:=uenc) (k:=3) (fun u _=>rfl) (Hr.out _ hw.drop.drop) hx dCz
   cases e
   exact ⟨hc 0 _ rfl,hc 1 _ rfl,hc 2 _ rfl⟩)
  have hfu:Hin.fitU L.size s u=(decide (u.seg=s) && (decide (u.size=L.size s) && decide (u.live≤u.size))):=rfl
  clear hcell hx hu
  by_cases c2:u.seg=s
  rotate_left
  ·as_aux_lemma=>
   have Hr2:=uQ (show W=false from by rw [hfu,decide_eq_false c2]at hstep;exact hstep)
   have hb:(u.seg != s)=true:=bne_iff_ne.2 c2
   clear hstep hfu c2
   go_wp2_with fail
   have hSd:=hS.drew
   refine wpL_begin [35,36] (fun w'=>w'.cell? ⟨bk,off+i * 3,none⟩=some (.int .i64 u.seg)∧w'.cell? ⟨bk,off+i * 3+1,none⟩=some (.int .i64 u.size)∧w'.cell? ⟨bk,off+i * 3+2,none⟩=some (.int .i64 u.live)) kRz ?_
   have hG:=HG.out _ hSd
   refine rP 0 ?_ (y:=mvQ)
   refine rP 1 ?_ (y:=mvQ)
   refine rP 2 ?_ (y:=(yl_len evD rnD))
   refine rP 3 ?_ (y:=bnQ)
   refine rP 4 ?_ (y:=mvQ)
   refine rP 5 ?_ (y:=(yg_move rFz evD))
   refine rP 6 ?_ (y:=(yg_move rFz evD))
   refine rP 7 ?_ (y:=(yg_index rFz evD evD rnD))
   refine rP 8 ?_ (y:=(yg_field rFz evD rnD))
   refine rg_take 9 evD kRz i3z (tg_load rFz evD kRz (by intro wq hq;first|exact hq|exact hq.1|exact hq.2|exact hq.2.1|exact hq.2.2|exact hq.2.2.1|exact hq.2.2.2|exact hq.2.2.2.1|exact hq.2.2.2.2)) aQ gQ ?_
   refine rP 10 ?_ (y:=(yg_move rFz evD))
   refine rP 11 ?_ (y:=(yg_bin rFz evD evD rnD))
   refine rP 12 ?_ (y:=(yg_pick rFz evD evD))
   refine rP 13 ?_ (y:=mvQ)
   refine rg_skip 14 evD kRz i3z rFz gQ ?_
   refine rg_skip 15 evD kRz i3z rFz gQ ?_
   refine rg_skip 16 evD kRz i3z rFz gQ ?_
   refine rg_skip 17 evD kRz i3z rFz gQ ?_
   refine rg_skip 18 evD kRz i3z rFz gQ ?_
   refine rg_skip 19 evD kRz i3z rFz gQ ?_
   refine rg_skip 20 evD kRz i3z rFz gQ ?_
   refine rg_skip 21 evD kRz i3z rFz gQ ?_
   refine rg_skip 22 evD kRz i3z rFz gQ ?_
   refine rP 23 ?_ (y:=(yg_pick rFz evD evD))
   refine rP 24 ?_ (y:=mvQ)
   refine rg_skip 25 evD kRz i3z rFz gQ ?_
   refine rg_skip 26 evD kRz i3z rFz gQ ?_
   refine rg_skip 27 evD kRz i3z rFz gQ ?_
   refine rg_skip 28 evD kRz i3z rFz gQ ?_
   refine rg_skip 29 evD kRz i3z rFz gQ ?_
   refine rg_skip 30 evD kRz i3z rFz gQ ?_
   refine rg_skip 31 evD kRz i3z rFz gQ ?_
   refine rg_skip 32 evD kRz i3z rFz gQ ?_
   refine rg_skip 33 evD kRz i3z rFz gQ ?_
   refine rg_skip 34 evD kRz i3z rFz gQ ?_
   refine rg_skip 35 evD kRz i3z rFz gQ ?_
   clear hG
   refine rP 36 ?_ (y:=(yg_pick rFz evD evD))
   refine wpL_done kRz ?_
   try simp only [ayQ]
   try go_frame
   go_wp2_with fail
   go_ret
   exact ⟨_,rfl,by rw [Hr2.out];rfl,hSd.drop⟩
  have hb1:(u.seg != s)=false:=by rw [c2];exact bne_self_eq_false ..
  rw [decide_eq_true c2,Bool.true_and]at hfu
  clear c2
  by_cases c3:u.size=L.size s
  rotate_left
  ·as_aux_lemma=>
   have Hr2:=uQ (show W=false from by rw [hfu,decide_eq_false c3]at hstep;exact hstep)
   have hb:(u.size != L.size s)=true:=bne_iff_ne.2 c3
   clear hstep hfu c3
   go_wp2_with fail
   have hSd:=hS.drew
   refine wpL_begin [35,36] (fun w'=>w'.cell? ⟨bk,off+i * 3,none⟩=some (.int .i64 u.seg)∧w'.cell? ⟨bk,off+i * 3+1,none⟩=some (.int .i64 u.size)∧w'.cell? ⟨bk,off+i * 3+2,none⟩=some (.int .i64 u.live)) kRz ?_
   have hG:=HG.out _ hSd
   refine rP 0 ?_ (y:=mvQ)
   refine rP 1 ?_ (y:=mvQ)
   refine rP 2 ?_ (y:=(yl_len evD rnD))
   refine rP 3 ?_ (y:=bnQ)
   refine rP 4 ?_ (y:=mvQ)
   refine rP 5 ?_ (y:=(yg_move rFz evD))
   refine rP 6 ?_ (y:=(yg_move rFz evD))
   refine rP 7 ?_ (y:=(yg_index rFz evD evD rnD))
   refine rP 8 ?_ (y:=(yg_field rFz evD rnD))
   refine rg_take 9 evD kRz i3z (tg_load rFz evD kRz (by intro wq hq;first|exact hq|exact hq.1|exact hq.2|exact hq.2.1|exact hq.2.2|exact hq.2.2.1|exact hq.2.2.2|exact hq.2.2.2.1|exact hq.2.2.2.2)) aQ gQ ?_
   refine rP 10 ?_ (y:=(yg_move rFz evD))
   refine rP 11 ?_ (y:=(yg_bin rFz evD evD rnD))
   refine rP 12 ?_ (y:=(yg_pick rFz evD evD))
   refine rP 13 ?_ (y:=mvQ)
   refine rP 14 ?_ (y:=(yg_move rFz evD))
   refine rP 15 ?_ (y:=(yg_move rFz evD))
   refine rP 16 ?_ (y:=(yg_index rFz evD evD rnD))
   refine rP 17 ?_ (y:=(yg_field rFz evD rnD))
   refine rg_take 18 evD kRz i3z (tg_load rFz evD kRz (by intro wq hq;first|exact hq|exact hq.1|exact hq.2|exact hq.2.1|exact hq.2.2|exact hq.2.2.1|exact hq.2.2.2|exact hq.2.2.2.1|exact hq.2.2.2.2)) aQ gQ ?_
   refine rP 19 ?_ (y:=(yg_move rFz evD))
   refine rP 20 ?_ (y:=(yg_move rFz evD))
   refine rg_eff 21 evD kRz (fun K hK=>?_)
   refine eg_call [ptr p,.int .i64 s] rFz kRz rFz ?_
   refine (HLs.out _ _ (hSd.sb:Sat w0 _ (LogRep p m L::osl 3 1 (.slice (some ⟨sb,so,none⟩) L.segs.length sc) (ints L.segs)::F)) s).mono ?_
   rintro e w22 ⟨v,rfl,rfl,h22⟩
   have h23:Sat w0 w22 (osl 3 1 (.slice (some ⟨sb,so,none⟩) L.segs.length sc) (ints L.segs)::LogRep p m L::F):=h22.sb
   refine hK _ _ (.inr (.inl (HG.out _ h23))) ?_
   clear hK hSd
   generalize L.size s=z at *
   refine rP 22 ?_ (y:=(yg_bin rFz evD evD rnD))
   refine rP 23 ?_ (y:=(yg_pick rFz evD evD))
   refine rP 24 ?_ (y:=mvQ)
   refine rg_skip 25 evD kRz i3z rFz gQ ?_
   refine rg_skip 26 evD kRz i3z rFz gQ ?_
   refine rg_skip 27 evD kRz i3z rFz gQ ?_
   refine rg_skip 28 evD kRz i3z rFz gQ ?_
   refine rg_skip 29 evD kRz i3z rFz gQ ?_
   refine rg_skip 30 evD kRz i3z rFz gQ ?_
   refine rg_skip 31 evD kRz i3z rFz gQ ?_
   refine rg_skip 32 evD kRz i3z rFz gQ ?_
   refine rg_skip 33 evD kRz i3z rFz gQ ?_
   refine rg_skip 34 evD kRz i3z rFz gQ ?_
   refine rg_skip 35 evD kRz i3z rFz gQ ?_
   refine rP 36 ?_ (y:=(yg_pick rFz evD evD))
   refine wpL_done kRz ?_
   try simp only [ayQ]
   try go_frame
   go_wp2_with fail
   go_ret
   exact ⟨_,rfl,by rw [Hr2.out];rfl,h23.drop⟩
  have hb2:(u.size != L.size s)=false:=by rw [c3];exact bne_self_eq_false ..
  rw [decide_eq_true c3,Bool.true_and]at hfu
  by_cases c4:u.live≤u.size
  rotate_left
  ·as_aux_lemma=>
   have Hr2:=uQ (show W=false from by rw [hfu,decide_eq_false c4]at hstep;exact hstep)
   have c5:u.size<u.live:=oQ
   clear hstep hfu c3 c4
   go_wp2_with fail
   have hSd:=hS.drew
   refine wpL_begin [35,36] (fun w'=>w'.cell? ⟨bk,off+i * 3,none⟩=some (.int .i64 u.seg)∧w'.cell? ⟨bk,off+i * 3+1,none⟩=some (.int .i64 u.size)∧w'.cell? ⟨bk,off+i * 3+2,none⟩=some (.int .i64 u.live)) kRz ?_
   have hG:=HG.out _ hSd
   refine rP 0 ?_ (y:=mvQ)
   refine rP 1 ?_ (y:=mvQ)
   refine rP 2 ?_ (y:=(yl_len evD rnD))
   refine rP 3 ?_ (y:=bnQ)
   refine rP 4 ?_ (y:=mvQ)
   refine rP 5 ?_ (y:=(yg_move rFz evD))
   refine rP 6 ?_ (y:=(yg_move rFz evD))
   refine rP 7 ?_ (y:=(yg_index rFz evD evD rnD))
   refine rP 8 ?_ (y:=(yg_field rFz evD rnD))
   refine rg_take 9 evD kRz i3z (tg_load rFz evD kRz (by intro wq hq;first|exact hq|exact hq.1|exact hq.2|exact hq.2.1|exact hq.2.2|exact hq.2.2.1|exact hq.2.2.2|exact hq.2.2.2.1|exact hq.2.2.2.2)) aQ gQ ?_
   refine rP 10 ?_ (y:=(yg_move rFz evD))
   refine rP 11 ?_ (y:=(yg_bin rFz evD evD rnD))
   refine rP 12 ?_ (y:=(yg_pick rFz evD evD))
   refine rP 13 ?_ (y:=mvQ)
   refine rP 14 ?_ (y:=(yg_move rFz evD))
   refine rP 15 ?_ (y:=(yg_move rFz evD))
   refine rP 16 ?_ (y:=(yg_index rFz evD evD rnD))
   refine rP 17 ?_ (y:=(yg_field rFz evD rnD))
   refine rg_take 18 evD kRz i3z (tg_load rFz evD kRz (by intro wq hq;first|exact hq|exact hq.1|exact hq.2|exact hq.2.1|exact hq.2.2|exact hq.2.2.1|exact hq.2.2.2|exact hq.2.2.2.1|exact hq.2.2.2.2)) aQ gQ ?_
   refine rP 19 ?_ (y:=(yg_move rFz evD))
   refine rP 20 ?_ (y:=(yg_move rFz evD))
   refine rg_eff 21 evD kRz (fun K hK=>?_)
   refine eg_call [ptr p,.int .i64 s] rFz kRz rFz ?_
   refine (HLs.out _ _ (hSd.sb:Sat w0 _ (LogRep p m L::osl 3 1 (.slice (some ⟨sb,so,none⟩) L.segs.length sc) (ints L.segs)::F)) s).mono ?_
   rintro e w22 ⟨v,rfl,rfl,h22⟩
   have h23:Sat w0 w22 (osl 3 1 (.slice (some ⟨sb,so,none⟩) L.segs.length sc) (ints L.segs)::LogRep p m L::F):=h22.sb
   refine hK _ _ (.inr (.inl (HG.out _ h23))) ?_
   clear hK hSd
   generalize L.size s=z at *
   have hG2:=HG.out _ h23
   refine rP 22 ?_ (y:=(yg_bin rFz evD evD rnD))
   refine rP 23 ?_ (y:=(yg_pick rFz evD evD))
   refine rP 24 ?_ (y:=mvQ)
   refine rP 25 ?_ (y:=(yg_move rFz evD))
   refine rP 26 ?_ (y:=(yg_move rFz evD))
   refine rP 27 ?_ (y:=(yg_index rFz evD evD rnD))
   refine rP 28 ?_ (y:=(yg_field rFz evD rnD))
   refine rg_take 29 evD kRz i3z (tg_load rFz evD kRz (by intro wq hq;first|exact hq|exact hq.1|exact hq.2|exact hq.2.1|exact hq.2.2|exact hq.2.2.1|exact hq.2.2.2|exact hq.2.2.2.1|exact hq.2.2.2.2)) aQ gQ ?_
   refine rP 30 ?_ (y:=(yg_move rFz evD))
   refine rP 31 ?_ (y:=(yg_move rFz evD))
   refine rP 32 ?_ (y:=(yg_index rFz evD evD rnD))
   refine rP 33 ?_ (y:=(yg_field rFz evD rnD))
   refine rg_take 34 evD kRz i3z (tg_load rFz evD kRz (by intro wq hq;first|exact hq|exact hq.1|exact hq.2|exact hq.2.1|exact hq.2.2|exact hq.2.2.1|exact hq.2.2.2|exact hq.2.2.2.1|exact hq.2.2.2.2)) aQ gQ ?_
   clear hG hG2
   refine rP 35 ?_ (y:=(yg_bin rFz evD evD rnD))
   refine rP 36 ?_ (y:=(yg_pick rFz evD evD))
   refine wpL_done kRz ?_
   try simp only [ayQ]
   try go_frame
   go_wp2_with fail
   go_ret
   exact ⟨_,rfl,by rw [Hr2.out];rfl,h23.drop⟩
  ·as_aux_lemma=>
   have HW:=uQ (show Hin.fitsL L.size n us (L.segs.drop (i+1)) (i+1)=W from by rw [hfu,decide_eq_true c4]at hstep;exact hstep.symm)
   have c5:¬ u.size<u.live:=oQ
   clear hstep hfu c3 c4
   go_wp2_with fail
   have hSd:=hS.drew
   refine wpL_begin [35,36] (fun w'=>w'.cell? ⟨bk,off+i * 3,none⟩=some (.int .i64 u.seg)∧w'.cell? ⟨bk,off+i * 3+1,none⟩=some (.int .i64 u.size)∧w'.cell? ⟨bk,off+i * 3+2,none⟩=some (.int .i64 u.live)) kRz ?_
   have hG:=HG.out _ hSd
   refine rP 0 ?_ (y:=mvQ)
   refine rP 1 ?_ (y:=mvQ)
   refine rP 2 ?_ (y:=(yl_len evD rnD))
   refine rP 3 ?_ (y:=bnQ)
   refine rP 4 ?_ (y:=mvQ)
   refine rP 5 ?_ (y:=(yg_move rFz evD))
   refine rP 6 ?_ (y:=(yg_move rFz evD))
   refine rP 7 ?_ (y:=(yg_index rFz evD evD rnD))
   refine rP 8 ?_ (y:=(yg_field rFz evD rnD))
   refine rg_take 9 evD kRz i3z (tg_load rFz evD kRz (by intro wq hq;first|exact hq|exact hq.1|exact hq.2|exact hq.2.1|exact hq.2.2|exact hq.2.2.1|exact hq.2.2.2|exact hq.2.2.2.1|exact hq.2.2.2.2)) aQ gQ ?_
   refine rP 10 ?_ (y:=(yg_move rFz evD))
   refine rP 11 ?_ (y:=(yg_bin rFz evD evD rnD))
   refine rP 12 ?_ (y:=(yg_pick rFz evD evD))
   refine rP 13 ?_ (y:=mvQ)
   refine rP 14 ?_ (y:=(yg_move rFz evD))
   refine rP 15 ?_ (y:=(yg_move rFz evD))
   refine rP 16 ?_ (y:=(yg_index rFz evD evD rnD))
   refine rP 17 ?_ (y:=(yg_field rFz evD rnD))
   refine rg_take 18 evD kRz i3z (tg_load rFz evD kRz (by intro wq hq;first|exact hq|exact hq.1|exact hq.2|exact hq.2.1|exact hq.2.2|exact hq.2.2.1|exact hq.2.2.2|exact hq.2.2.2.1|exact hq.2.2.2.2)) aQ gQ ?_
   refine rP 19 ?_ (y:=(yg_move rFz evD))
   refine rP 20 ?_ (y:=(yg_move rFz evD))
   refine rg_eff 21 evD kRz (fun K hK=>?_)
   refine eg_call [ptr p,.int .i64 s] rFz kRz rFz ?_
   refine (HLs.out _ _ (hSd.sb:Sat w0 _ (LogRep p m L::osl 3 1 (.slice (some ⟨sb,so,none⟩) L.segs.length sc) (ints L.segs)::F)) s).mono ?_
   rintro e w22 ⟨v,rfl,rfl,h22⟩
   have h23:Sat w0 w22 (osl 3 1 (.slice (some ⟨sb,so,none⟩) L.segs.length sc) (ints L.segs)::LogRep p m L::F):=h22.sb
   refine hK _ _ (.inr (.inl (HG.out _ h23))) ?_
   clear hK hSd
   have hG2:=HG.out _ h23
   refine rP 22 ?_ (y:=(yg_bin rFz evD evD rnD))
   refine rP 23 ?_ (y:=(yg_pick rFz evD evD))
   refine rP 24 ?_ (y:=mvQ)
   refine rP 25 ?_ (y:=(yg_move rFz evD))
   refine rP 26 ?_ (y:=(yg_move rFz evD))
   refine rP 27 ?_ (y:=(yg_index rFz evD evD rnD))
   refine rP 28 ?_ (y:=(yg_field rFz evD rnD))
   refine rg_take 29 evD kRz i3z (tg_load rFz evD kRz (by intro wq hq;first|exact hq|exact hq.1|exact hq.2|exact hq.2.1|exact hq.2.2|exact hq.2.2.1|exact hq.2.2.2|exact hq.2.2.2.1|exact hq.2.2.2.2)) aQ gQ ?_
   refine rP 30 ?_ (y:=(yg_move rFz evD))
   refine rP 31 ?_ (y:=(yg_move rFz evD))
   refine rP 32 ?_ (y:=(yg_index rFz evD evD rnD))
   refine rP 33 ?_ (y:=(yg_field rFz evD rnD))
   refine rg_take 34 evD kRz i3z (tg_load rFz evD kRz (by intro wq hq;first|exact hq|exact hq.1|exact hq.2|exact hq.2.1|exact hq.2.2|exact hq.2.2.1|exact hq.2.2.2|exact hq.2.2.2.1|exact hq.2.2.2.2)) aQ gQ ?_
   clear hG hG2
   refine rP 35 ?_ (y:=(yg_bin rFz evD evD rnD))
   refine rP 36 ?_ (y:=(yg_pick rFz evD evD))
   refine wpL_done kRz ?_
   try simp only [ayQ]
   try go_frame
   go_wp2_with fail
   go_roundg (L.segs.length - (i+1))
   case measure=>have:=Hlt.out;omega
   case rel=>exact ⟨i+1,rfl,Nat.succ_le_of_lt Hlt.out,by first|rfl|go_num,by first|rfl|go_num,HW.out,h23⟩
end
section
variable {w0 w:World}{F:List HProp}{m K p:Nat}{M:Med}{L:Seg.Log}{n:Int}
set_option maxRecDepth 20000 in
theorem hloadN_c (hM:M.Ok K) (hz:M.size ByteArray.empty=(0,9)) (ht:Hin.there M (Hin.name Hin.idx n)=false∨Hin.there M (Hin.name Hin.use n)=false) (h:Sat w0 w (MedRep m M::F)) :
  Calls Tryz.prog 16 #[ptr p,ptr m,.int .i64 n] w (Rtn fun v w'=>v = .tuple #[.pointer none,errno 9]∧Sat w0 w' (MedRep m M::F)):=by
 have hsz:=size_c hM h ByteArray.empty
 rw [hz]at hsz
 have HM:=uQ hM;have Ht:=uQ ht
 clear hM hz ht
 go_enter Tryz.func16,Tryz.ntmps16
 go_wp2_with fail
 refine hsz.mono ?_
 rintro e w1 ⟨v,rfl,rfl,rfl⟩
 clear hsz
 go_wp2_with fail
 refine (iname_c n h).mono ?_
 rintro e w2 ⟨v,rfl,rfl,h2⟩
 clear h
 have hth:=hthere_c HM.out (Hin.name Hin.idx n) h2
 cases ht:Hin.there M (Hin.name Hin.idx n) with
 |false=>
  rw [ht]at hth
  clear ht
  go_wp2_with fail
  refine hth.mono ?_
  rintro e w3 ⟨v,rfl,rfl,rfl⟩
  clear hth
  go_wp2_with fail
  go_ret2
  exact ⟨_,rfl,rfl,h2⟩
 |true=>
  rw [ht]at hth
  have Ht2:=uQ (Ht.out.resolve_left (by rw [ht];decide))
  clear ht
  go_wp2_with fail
  refine hth.mono ?_
  rintro e w3 ⟨v,rfl,rfl,rfl⟩
  clear hth
  go_wp2_with fail
  refine (uname_c n h2).mono ?_
  rintro e w4 ⟨v,rfl,rfl,h4⟩
  have hth2:=hthere_c HM.out (Hin.name Hin.use n) h4
  rw [Ht2.out]at hth2
  go_wp2_with fail
  refine hth2.mono ?_
  rintro e w5 ⟨v,rfl,rfl,rfl⟩
  go_wp2_with fail
  go_ret2
  exact ⟨_,rfl,rfl,h4⟩
end
end Go.Proofs.YtlinnpehkfbnkaaGreatDoor
namespace Go.Seg
open Go.Med
open Go.Frm (encs GoodE fnds)
structure HG (K r E B n:Nat) (L:Log) (M:Med) (C:List (List Frm.Ent)):Prop where
 keeps:Keeps K r L M
 len:L.l.length=C.length
 at_:∀ (k:Nat) (es:List Frm.Ent),C[k]?=some es→L.l[k]?=some ((k:Int),8+((encs es).length:Int))
 file:∀ (k:Nat) (es:List Frm.Ent),C[k]?=some es→M.all (name k)=(mag++encs es,0)
 good:∀ es∈C,(∀ x∈es,GoodE x)∧es≠[]
 count:C.length≤n
 used:M.used≤n * 400+B
 names:M.now.length≤n+E
 cover:∀ (k i:Nat),k<1048576→nget M.now (name (k:Int))=some i→k<C.length
section
variable {K r E B n:Nat}{L:Log}{M:Med}{C:List (List Frm.Ent)}
theorem Holds.hg (h:Holds n L M C) (hn:n≤1000):HG (n * 5) 1048576 0 0 n L M C:=
 ⟨h.keeps,h.len,h.at_,h.file,h.good,h.count,by rw [Nat.add_zero];exact h.used,h.names,fun k i hk hi=>by
  obtain ⟨j,h1,h2⟩:=h.only _ _ hi
  have:=h.count
  have:=name_inj oQ oQ oQ oQ h2
  omega⟩
theorem HG.segs (h:HG K r E B n L M C):L.segs.length=C.length∧∀ k,k<C.length→L.segs[k]?=some (k:Int):=by
 unfold Log.segs
 refine ⟨by rw [List.length_map];exact h.len,fun k hk=>?_⟩
 rw [List.getElem?_map,h.at_ k _ (List.getElem?_eq_getElem hk)];rfl
theorem HG.at_k (h:HG K r E B n L M C){k:Nat}{es:List Frm.Ent} (hk:C[k]?=some es):L.at (k:Int)=some k:=by
 have h1:=h.at_ k es hk
 cases hat:L.at (k:Int) with
 |none=>
  exfalso
  unfold Log.at at hat
  rw [List.findIdx?_eq_none_iff]at hat
  have:=hat _ (List.mem_of_getElem? h1)
  simp at this
 |some i=>
  obtain ⟨h2,s,h3,h4⟩:=Log.at_lt hat
  have h5:i<C.length:=by rw [← h.len];exact h2
  have h6:=h.at_ i _ (List.getElem?_eq_getElem h5)
  rw [h6]at h3
  cases h3
  simp only at h4
  congr 1
  omega
theorem HG.bytes (h:HG K r E B n L M C){k:Nat}{es:List Frm.Ent} (hk:C[k]?=some es):L.bytes M (k:Int)=(mag++encs es,0):=by
 unfold Log.bytes
 rw [h.at_k hk]
 exact h.file k es hk
theorem HG.size (h:HG K r E B n L M C){k:Nat}{es:List Frm.Ent} (hk:C[k]?=some es):L.size (k:Int)=((mag++encs es).length:Nat):=by
 unfold Log.size
 rw [h.at_k hk]
 have h1:=h.at_ k es hk
 simp only [List.getD_eq_getElem?_getD,h1,Option.getD_some,List.length_append]
 have:mag.length=8:=rfl
 omega
theorem HG.ns (h:HG K r E B n L M C):L.segs=(List.range' 0 C.length).map fun i=>((i:Nat):Int):=by
 obtain ⟨h1,h2⟩:=h.segs
 apply List.ext_getElem?
 intro i
 by_cases hi:i<C.length
 ·rw [h2 i hi,List.getElem?_map,List.getElem?_range' hi];simp
 ·rw [List.getElem?_eq_none oQ,List.getElem?_eq_none (by rw [List.length_map,List.length_range'];omega)]
theorem HG.rows (h:HG K r E B n L M C) (i:Nat):Rep.rowsOf (fun s=>L.bytes M s) (L.segs.take i)=Rep.rowsC 0 (C.take i):=by
 have e:L.segs.take i=(List.range' 0 (C.take i).length).map fun i=>((i:Nat):Int):=by
  rw [h.ns,take_nums,List.length_take]
 rw [e]
 refine Rep.rows_is (C.take i) 0 fun j es hj=>?_
 have hj':C[j]?=some es:=by
  rw [List.getElem?_take]at hj
  split at hj
  ·exact hj
  ·cases hj
 rw [Nat.zero_add]
 exact ⟨h.bytes hj',(h.good es (List.mem_of_getElem? hj')).1⟩
end
end Go.Seg
namespace Go.Seg
open Go.Med
open Go.Frm (Bs Fnd encs GoodE fnds Ent)
open Go.Rep
structure HintOk (L:Log) (c:Nat) (us:List Use) (ps:List (Bs×Plc)):Prop where
 segs:us.map (·.seg)=L.segs.take c
 use:∀ u∈us,0≤u.live∧u.live≤u.size∧u.size=L.size u.seg∧u.size≤33554432
 key:∀ q∈ps,q.1.length=32
 rise:ps.Pairwise fun a b=>a.1<b.1
 plc:∀ q∈ps,8≤q.2.at_∧41≤q.2.size∧q.2.at_+q.2.size≤L.size q.2.seg∧q.2.seg∈L.segs.take c
section
variable {K r E B n c:Nat}{L:Log}{M:Med}{C:List (List Ent)}
theorem HG.seg_at (h:HG K r E B n L M C) (hc:c≤C.length):∀ s∈L.segs.take c,∃ (j:Nat) (es:List Ent),s=(j:Int)∧j<c∧C[j]?=some es:=fun s hs=>by
 obtain ⟨j,hj⟩:=List.getElem?_of_mem hs
 rw [List.getElem?_take]at hj
 split at hj
 ·rename_i hjc
  have hl:j<C.length:=oQ
  have:=h.segs.2 j hl
  rw [hj]at this
  cases this
  exact ⟨j,C[j],rfl,hjc,List.getElem?_eq_getElem hl⟩
 ·cases hj
theorem HG.hint (h:HG K r E B n L M C) (hc:c≤C.length){kv:List (Bs×Abt)} (hk:Tab.Lists (ledger (rowsOf (fun s=>L.bytes M s) (L.segs.take c))) kv) (h32:∀ q∈kv,q.1.length=32) :
  HintOk L c ((usesOf (fun s=>L.bytes M s) (L.segs.take c)).map (upd kv)) (puts kv):=by
 have hok:=rows_ok h.keeps.log M c
 rw [h.rows c]at hok hk
 have hseg:=h.seg_at hc
 have hrow:∀ p∈kv,∃ r,r∈Rep.rowsC 0 (C.take c)∧rtag r≠2∧p.2.tag=rtag r∧p.2.place=rplc r:=fun p hp=>by
  have h1:=(hk.mem p.1 p.2).1 hp
  unfold ledger at h1
  obtain ⟨r,h2,h3⟩:=Option.map_eq_some_iff.1 h1
  obtain ⟨h4,h5,_⟩:=newest_some h2
  exact ⟨r,h4,h5,by rw [← h3],by rw [← h3]⟩
 refine ⟨?_,fun u hu=>?_,fun q hq=>?_,Rep.puts_rise hk.rise,fun q hq=>?_⟩
 ·unfold usesOf
  rw [List.map_map,List.map_map]
  conv=>rhs;rw [← List.map_id (L.segs.take c)]
  rfl
 ·obtain ⟨u0,h1,rfl⟩:=List.mem_map.1 hu
  unfold usesOf at h1
  obtain ⟨s,hs,rfl⟩:=List.mem_map.1 h1
  obtain ⟨j,es,rfl,hjc,hj⟩:=hseg s hs
  have hb:=h.bytes hj
  have hz:=h.size hj
  have hlv:=live_eq hok hk (j:Int)
  have hls:=live_seg (l:=Rep.rowsC 0 (C.take c)) (j:Int) _ (Nat.le_refl _)
  have hsm:=segSum_is (C.take c) 0 j es (by rw [List.getElem?_take,if_pos hjc];exact hj)
  rw [List.take_length]at hls
  rw [Nat.zero_add]at hsm
  have hm:mag.length=8:=rfl
  have hsz:=h.keeps.log.sizes _ (List.mem_of_getElem? (h.at_ j es hj))
  unfold upd
  simp only [hb,hz,List.length_append]
  rw [hlv,hsm]at hls
  simp only at hsz
  refine ⟨hls.1,?_,trivial,?_⟩
  ·have:=hls.2;omega
  ·omega
 ·unfold puts at hq
  obtain ⟨p,hp,rfl⟩:=List.mem_map.1 hq
  exact h32 p (List.mem_filter.1 hp).1
 ·unfold puts at hq
  obtain ⟨p,hp,rfl⟩:=List.mem_map.1 hq
  obtain ⟨hp1,hp2⟩:=List.mem_filter.1 hp
  obtain ⟨r,h1,_,h3,h4⟩:=hrow p hp1
  obtain ⟨j,es,h5,h6,h7⟩:=Rep.rowsC_mem (C.take c) 0 h1
  obtain ⟨u,v,h8,h9,h10⟩:=Rep.fnds_mem es 8 h7
  have hjc:j<c:=by
   have:=(List.getElem?_eq_some_iff.1 h5).1
   rw [List.length_take]at this;omega
  have hj:C[j]?=some es:=by rw [List.getElem?_take,if_pos hjc]at h5;exact h5
  have hg:GoodE r.2.e:=(h.good es (List.mem_of_getElem? hj)).1 _ (by rw [h8];simp)
  have hz:=h.size hj
  have ht:r.2.e.tag=0:=by
   have:p.2.tag=0:=by simpa using hp2
   rw [h3]at this;exact this
  have hl:r.2.size=41+r.2.e.data.length:=by
   rw [h10,size_enc hg.1 hg.2]
   unfold Frm.size
   rw [if_neg (by simp [(Frm.encode_zero hg.1).1]),if_neg (by rw [ht];decide)]
  have hes:encs es=encs u++((Frm.encode r.2.e).1++encs v):=by rw [h8,encs_app];rfl
  have hm:mag.length=8:=rfl
  have hr1:r.1=(j:Int):=by rw [h6,Nat.zero_add]
  simp only
  rw [h4]
  show 8≤(r.2.at_:Int)∧41≤(r.2.size:Int)∧(r.2.at_:Int)+(r.2.size:Int)≤L.size r.1∧r.1∈L.segs.take c
  rw [hr1,hz,List.length_append,hes,List.length_append,List.length_append]
  refine ⟨by omega,by omega,by omega,?_⟩
  have hl:j<C.length:=(List.getElem?_eq_some_iff.1 hj).1
  exact List.mem_of_getElem? (i:=j) (by rw [List.getElem?_take,if_pos hjc];exact h.segs.2 j hl)
end
def Log.stepH (L:Log) (M:Med) (c:Cal):Log×Med:=if c.kind=1 then (L.commit M).1 else (L.append M c.e).1
def Log.playH:List Cal→Log→Med→Log×Med
 |[],L,M=>(L,M)
 |c::cs,L,M=>Log.playH cs (L.stepH M c).1 (L.stepH M c).2
theorem playH_snoc (cs:List Cal) (c:Cal):∀ (L:Log) (M:Med),Log.playH (cs++[c]) L M=(Log.playH cs L M).1.stepH (Log.playH cs L M).2 c:=by
 induction cs with
 |nil=>intro L M;rfl
 |cons d cs ih=>intro L M;exact ih _ _
structure PlH (n:Nat) (L:Log) (M:Med) (C:List (List Ent)):Prop where
 holds:Holds n L M C
 shut:ShutL L M
 few:C.flatten.length≤n
structure DoneH (n:Nat) (L:Log) (M:Med) (C:List (List Ent)):Prop where
 holds:Holds n L M C
 off:L.on=false
 fresh:L.fresh=0
 flat:Flat M
 last:∃ es,C≠[]∧C[C.length - 1]?=some es∧Rep.endsC es=true
 few:C.flatten.length≤n
section
variable {n:Nat}{L:Log}{M:Med}{C:List (List Ent)}{c:Cal}
theorem Holds.on_ne (h:Holds n L M C){k:Nat}:L.fits k=true→C≠[]:=fun hf=>by
 have h1:=h.keeps.log.on (fits_on' hf)
 intro e
 have:=h.len
 rw [e,List.length_nil]at this
 exact h1 (List.eq_nil_of_length_eq_zero this)
theorem Holds.put_few (h:Holds n L M C) (hf:C.flatten.length≤n) (x:Ent):(put C (L.fits (Frm.encode x).1.length) x).flatten.length≤n+1:=by
 rw [put_flat C _ _ h.on_ne,List.length_append,List.length_singleton];omega
theorem PlH.step (h:PlH n L M C) (hn:n<100) (hk:c.e.key.length=32) (hd:c.e.data.length≤300):∃ C',PlH (n+1) (L.stepH M c).1 (L.stepH M c).2 C'∧(L.stepH M c).1.limit=L.limit:=by
 unfold Log.stepH
 split
 ·obtain ⟨a1,a2,a3,a4⟩:=h.holds.commit hn
  exact ⟨_,⟨a4,h.shut.commit h.holds.keeps a1,h.holds.put_few h.few _⟩,a3⟩
 ·by_cases h0:(Frm.encode c.e).2=0
  ·obtain ⟨a1,a2,a3,a4,_,_⟩:=h.holds.append hn c.e hk hd h0
   exact ⟨_,⟨a4,h.shut.put h.holds.keeps c.e a1,h.holds.put_few h.few _⟩,a3⟩
  ·rw [Log.append_bad h0]
   exact ⟨C,⟨h.holds.mono1,h.shut,Nat.le_succ_of_le h.few⟩,rfl⟩
theorem PlH.start (lim:Int) (h1:128≤lim) (h2:lim≤1048576):PlH 0 ⟨lim,[],false,0⟩ (new 1048576) []:=
 ⟨Holds.start lim h1 h2,(fun p hp=>by cases hp),Nat.le_refl _⟩
theorem PlH.play:∀ (cs:List Cal) (n:Nat) (L:Log) (M:Med) (C:List (List Ent)),PlH n L M C→(∀ c∈cs,c.e.key.length=32∧c.e.data.length≤300)→n+cs.length≤100 →
  ∃ C',PlH (n+cs.length) (Log.playH cs L M).1 (Log.playH cs L M).2 C'∧(Log.playH cs L M).1.limit=L.limit
 |[],n,L,M,C,h,_,_=>⟨C,h,rfl⟩
 |c::cs,n,L,M,C,h,hd,hn=>by
  rw [List.length_cons]at hn
  obtain ⟨C1,h1,h2⟩:=h.step (c:=c) oQ (hd c (.head _)).1 (hd c (.head _)).2
  obtain ⟨C2,h3,h4⟩:=PlH.play cs (n+1) _ _ C1 h1 (fun x hx=>hd x (.tail _ hx)) oQ
  refine ⟨C2,?_,h4.trans h2⟩
  rw [List.length_cons,show n+(cs.length+1)=n+1+cs.length by omega]
  exact h3
theorem endsC_put (C:List (List Ent)) (b:Bool):∃ es,put C b comEnt≠[]∧(put C b comEnt)[(put C b comEnt).length - 1]?=some es∧Rep.endsC es=true:=by
 unfold put
 cases b with
 |true=>
  simp only [if_true]
  refine ⟨C.getLastD []++[comEnt],by simp,?_,?_⟩
  ·rw [List.length_append,List.length_singleton,Nat.add_sub_cancel,List.getElem?_append_right (Nat.le_refl _),Nat.sub_self];rfl
  ·unfold Rep.endsC;rw [List.getLast?_concat];rfl
 |false=>
  simp only [Bool.false_eq_true,if_false]
  refine ⟨[comEnt],by simp,?_,rfl⟩
  rw [List.length_append,List.length_singleton,Nat.add_sub_cancel,List.getElem?_append_right (Nat.le_refl _),Nat.sub_self];rfl
theorem commit_waits {K r:Nat} (k:Keeps K r L M) (h0:(L.commit M).2.2=0):(L.commit M).1.2.waits=[]∧(L.commit M).1.2.fast=(L.commit M).1.2.now∧(L.commit M).1.1.fresh=0∧(L.commit M).2.1=(L.append M comEnt).2.1.seg:=by
 rw [Log.commit_eq]at h0 ⊢
 split at h0
 ·rename_i g;exact absurd h0 g
 rename_i g1
 rw [if_neg g1]
 split at h0
 ·rename_i g;exact absurd h0 g
 rename_i g2
 rw [if_neg g2]
 split at h0
 ·rename_i g;exact absurd h0 g
 rename_i g3
 rw [if_neg g3]
 have k1:=(k.append comEnt rfl).1
 have hc:=k1.calm.sync (name (L.append M comEnt).2.1.seg)
 have hd:=hc.quiet.syncDir_eq
 refine ⟨?_,?_,rfl,rfl⟩
 ·show ((L.append M comEnt).1.2.sync (name (L.append M comEnt).2.1.seg)).1.syncDir.1.waits=_
  rw [hd]
 ·show ((L.append M comEnt).1.2.sync (name (L.append M comEnt).2.1.seg)).1.syncDir.1.fast=((L.append M comEnt).1.2.sync (name (L.append M comEnt).2.1.seg)).1.syncDir.1.now
  rw [hd]
theorem PlH.done (h:PlH n L M C) (hn:n<100):(L.commit M).2.2=0∧(L.commit M).1.1.limit=L.limit∧∃ C',DoneH (n+1) (L.commit M).1.1 (L.commit M).1.2 C'∧C'.length≤n+1:=by
 obtain ⟨a1,a2,a3,a4⟩:=h.holds.commit hn
 obtain ⟨w1,w2,w3,_⟩:=commit_waits h.holds.keeps a1
 have hs:=(h.shut.commit h.holds.keeps a1).off a2
 exact ⟨a1,a3,_,⟨a4,a2,w3,⟨a4.keeps.calm.quiet,w2,w1,fun p hp=>(hs p hp).resolve_right (by simp)⟩,endsC_put C _,h.holds.put_few h.few _⟩,a4.count⟩
theorem DoneH.run (h:DoneH n L M C):Rep.run (fun s=>L.bytes M s) L.segs = .inr C.length∧L.segs.length=C.length∧0<C.length:=by
 obtain ⟨es,hne,he,hen⟩:=h.last
 have hl:0<C.length:=List.length_pos_iff.2 hne
 obtain ⟨c,h1,h2,h3,h4⟩:=h.holds.run
 have e1:c=C.length:=by
  by_cases hh:c=C.length
  ·exact hh
  ·have:=h4 (C.length - 1) es oQ he
   rw [hen]at this;cases this
 rw [← e1]
 exact ⟨h1,by rw [e1];exact h.holds.segs.1,by omega⟩
end
end Go.Seg
namespace Go.Hin
open Go.Med
open Go.Seg (Log Keeps Holds HG DoneH HintOk mag)
open Go.Frm (Fnd encs GoodE fnds Ent)
open Go.Rep (Use)
def keptOf (L:Log) (M:Med):Kept:=L.l.map fun s=>(Seg.name s.1,(nget M.now (Seg.name s.1)).getD 0,M.file ((nget M.now (Seg.name s.1)).getD 0))
section
variable {n K r E B:Nat}{L:Log}{M:Med}{C:List (List Ent)}{N:Int}{b1 b2:Frm.Bs}
theorem kept_mem {t:ByteArray×Nat×Fil} (ht:t∈keptOf L M) (hh:Seg.Has L M):∃ s∈L.l,∃ i,nget M.now (Seg.name s.1)=some i∧t=(Seg.name s.1,i,M.file i):=by
 obtain ⟨s,hs,rfl⟩:=List.mem_map.1 ht
 obtain ⟨i,hi⟩:=hh s hs
 exact ⟨s,hs,i,hi,by rw [hi];rfl⟩
theorem mem_kept {s:Int×Int} (hs:s∈L.l){i:Nat} (hi:nget M.now (Seg.name s.1)=some i):(Seg.name s.1,i,M.file i)∈keptOf L M:=by
 refine List.mem_map.2 ⟨s,hs,?_⟩
 rw [hi];rfl
theorem kept_cf (hh:Seg.Has L M) (hne:∀ p∈M.now,p.1≠ByteArray.empty) (h1:0≤N) (h2:N<1048576):Cf (keptOf L M) (name idx N) (name use N):=by
 refine ⟨name_ne N h1 h2,idx_ne_tmp N h1 h2,use_ne_tmp N h1 h2,good_ne (name_good rfl dCz N h1 h2),good_ne (name_good rfl dCz N h1 h2),fun t ht=>?_⟩
 obtain ⟨s,hs,i,hi,rfl⟩:=kept_mem ht hh
 refine ⟨fun e=>?_,seg_ne_idx _ _ h1 h2,seg_ne_use _ _ h1 h2,hne _ (nget_mem hi)⟩
 have hb:=list_num e
 exact hb
where
 list_num {s:Int×Int} (e:Seg.name s.1=tmp):False:=by
  have h:=seg_name s.1
  rw [e]at h
  rcases h with h|⟨h,_⟩
  ·exact tmp_ne h
  ·exact absurd h dCz
theorem kept_other (hh:Seg.Has L M) (h1:0≤N) (h2:N<1048576):∀ s,((∃ t∈keptOf L M,s=t.1)∨s=tmp∨s=name idx N∨s=name use N)→other N s=false:=by
 rintro s (⟨t,ht,rfl⟩|rfl|rfl|rfl)
 ·obtain ⟨x,hx,i,hi,rfl⟩:=kept_mem ht hh
  exact other_no (by rw [number_seg])
 ·exact other_no (by rw [number_tmp])
 ·exact other_self (number_of (.inl idx_l) N h1 h2)
 ·exact other_self (number_of (.inr use_l) N h1 h2)
theorem DoneH.none (h:DoneH n L M C) (hn:n≤1000){s:ByteArray} (hs:∀ k:Nat,s≠Seg.name (k:Int)):nget M.now s=none:=by
 cases hi:nget M.now s with
 |none=>rfl
 |some i=>
  obtain ⟨k,_,hk⟩:=h.holds.only _ _ hi
  exact absurd hk (hs k)
theorem tmp_ne_seg (k:Int):tmp≠Seg.name k:=fun e=>by
 rcases seg_name k with q|⟨q,_⟩
 ·rw [q]at e;exact tmp_ne e
 ·rw [← e]at q;exact absurd q dCz
theorem DoneH.sv (h:DoneH n L M C) (hn:n≤1000) (h1:0≤N) (h2:N<1048576) (b1 b2:Frm.Bs) :
  Sv (keptOf L M) (name idx N) b1 (name use N) b2 (n * 5) M∧∀ t∈keptOf L M,FFlat t.2.2:=by
 have hh:=h.holds.keeps.has
 have hw:=h.flat.waits
 refine ⟨⟨h.holds.keeps.calm.ok,fun k hk=>?_,fun t ht=>?_⟩,fun t ht=>?_⟩
 ·rw [hw]at hk
  obtain rfl:k=0:=Nat.le_zero.1 hk
  have e:M.lastNames 0=M.now:=by unfold Med.lastNames;simp [h.flat.fast]
  rw [e]
  refine ⟨fun t ht=>?_,fun i hi=>?_,fun i hi=>?_,fun p hp=>?_⟩
  ·obtain ⟨s,hs,i,hi,rfl⟩:=kept_mem ht hh
   exact hi
  ·rw [DoneH.none h hn (fun k e=>seg_ne_idx k N h1 h2 e.symm)]at hi;cases hi
  ·rw [DoneH.none h hn (fun k e=>seg_ne_use k N h1 h2 e.symm)]at hi;cases hi
  ·have hi:=nget_of_mem h.holds.keeps.calm.ok.nowOk.srt.keys (show (p.1,p.2)∈M.now from hp)
   obtain ⟨k,k1,k2⟩:=h.holds.only _ _ hi
   left
   have hat:=h.holds.at_ k _ (List.getElem?_eq_getElem k1)
   rw [k2]at hi
   exact ⟨_,mem_kept (List.mem_of_getElem? hat) hi,k2⟩
 ·obtain ⟨s,hs,i,hi,rfl⟩:=kept_mem ht hh
  rfl
 ·obtain ⟨s,hs,i,hi,rfl⟩:=kept_mem ht hh
  exact h.flat.files _ (nget_mem hi)
structure Saved (N:Int) (b1 b2:Frm.Bs) (K:Nat) (L:Log) (M M':Med):Prop where
 zero:(save M N b1 b2).2=0
 med:(save M N b1 b2).1=M'
 calm:Seg.Calm K 1048576 M'
 sv:Sv (keptOf L M) (name idx N) b1 (name use N) b2 K M'
 one:∃ i,nget M'.now (name idx N)=some i
 two:∃ i,nget M'.now (name use N)=some i
 waits:M'.waits=[]
 used:M'.used≤M.used+b1.length+b2.length
 len:M'.now.length≤M.now.length+2
 names:∀ p∈M'.now,p∈M.now∨p.1=name idx N∨p.1=name use N
theorem DoneH.saved (h:DoneH n L M C) (hn:n≤100) (h1:0≤N) (h2:N<1048576) (hb:b1.length+b2.length≤100000):Saved N b1 b2 (n * 5+10) L M (save M N b1 b2).1:=by
 obtain ⟨sv,hfl⟩:=DoneH.sv h oQ h1 h2 b1 b2
 have hh:=h.holds.keeps.has
 have hc:=kept_cf (N:=N) hh h.holds.keeps.calm.ok.nowOk.ne h1 h2
 have ho:=kept_other (N:=N) hh h1 h2
 have hu:=h.holds.used
 have hnm:=h.holds.names
 obtain ⟨z1,z2,z3,z4,z5⟩:=save_zero (n:=N) (b1:=b1) (b2:=b2) h.holds.keeps.calm (DoneH.none h oQ fun k=>tmp_ne_seg k) oQ oQ (name_good rfl dCz N h1 h2) (name_good rfl dCz N h1 h2) hc.t1 hc.t2
  (fun p hp=>ho p.1 (sv.now.only p hp)) (ho _ (.inr (.inr (.inl rfl)))) (ho _ (.inr (.inr (.inr rfl))))
 obtain ⟨s1,s2⟩:=sv.save rfl rfl hc ho
 obtain ⟨t1,t2,t3⟩:=s2 z1
 exact ⟨z1,rfl,z2,s1,t1,t2,t3,z3,z4,z5⟩
end
end Go.Hin
namespace Go.Hin
open Go.Med
open Go.Seg (Log Keeps Holds HG DoneH HintOk mag Plc)
open Go.Frm (Fnd encs GoodE fnds Ent)
open Go.Rep (Use)
section
variable {n K B c:Nat}{L:Log}{M M':Med}{C:List (List Ent)}{N:Int}{b1 b2:Frm.Bs}{us:List Use}
theorem split_le:∀ {l:List Int},l.Pairwise (· < ·)→∀ N:Int,l=l.filter (fun s=>decide (s≤N))++l.filter (fun s=>decide (N<s))
 |[],_,N=>rfl
 |a::l,h,N=>by
  obtain ⟨h1,h2⟩:=List.pairwise_cons.1 h
  have ih:=split_le h2 N
  by_cases ha:a≤N
  ·rw [List.filter_cons,if_pos (by simpa using ha),List.filter_cons,if_neg (by simp;omega),List.cons_append,← ih]
  ·have hn:l.filter (fun s=>decide (s≤N))=[]:=by
    rw [List.filter_eq_nil_iff]
    intro x hx
    have:=h1 x hx
    simp;omega
   rw [hn,List.nil_append]at ih
   rw [List.filter_cons,if_neg (by simpa using ha),hn,List.nil_append,List.filter_cons,if_pos (by simp;omega),← ih]
structure Anew (L:Log) (N:Int) (M4:Med):Prop where
 off:M4.off=false
 old:∀ s∈L.l,∃ i,nget M4.now (Seg.name s.1)=some i∧((M4.file i).now.length:Int)=s.2
 new:∀ (s:Int) (i:Nat),0≤s→s<1048576→nget M4.now (Seg.name s)=some i→s∈L.segs∨N<s
theorem Anew.fits {M4:Med} (a:Anew L N M4) (ok:M4.Ok K) (hL:L.Ok) (lim:Int) (l1:128≤lim) (l2:lim≤1048576){ps:List (Frm.Bs×Plc)} (ho:HintOk L c us ps) (hc:L.segs.take c=L.segs) (hN:L.segs.getLast?=some N) :
  fits (Seg.fresh M4 lim) us N=true∧(∀ s∈L.segs,(Seg.fresh M4 lim).size s=L.size s)∧∃ rest,(Seg.fresh M4 lim).segs=L.segs++rest∧∀ s∈rest,N<s:=by
 have hF:=Seg.fresh_ok ok lim l1 l2
 have hle:∀ s∈L.segs,s≤N:=fun s hs=>by
  obtain ⟨l',hl'⟩:=List.getLast?_eq_some_iff.1 hN
  have hr:=Seg.segs_rise hL
  rw [hl']at hs hr
  rcases List.mem_append.1 hs with hs|hs
  ·have:=(List.pairwise_append.1 hr).2.2 s hs N (by simp)
   omega
  ·rw [List.mem_singleton.1 hs];exact Int.le_refl _
 have hsz:∀ s∈L.segs,(Seg.fresh M4 lim).size s=L.size s:=fun s hs=>by
  obtain ⟨x,hx,rfl⟩:=List.mem_map.1 hs
  obtain ⟨i,hi,hl⟩:=a.old x hx
  have hm:x.1∈(Seg.fresh M4 lim).segs:=(fresh_iff a.off x.1).2 ⟨hL.nums x hx,i,hi⟩
  rw [fresh_size (K:=K) a.off hF hm hi,hl]
  obtain ⟨k,hk⟩:=Seg.at_mem hL hs
  obtain ⟨h2,y,h3,h4⟩:=Seg.Log.at_lt hk
  unfold Seg.Log.size
  rw [hk]
  simp only [List.getD_eq_getElem?_getD,h3,Option.getD_some]
  obtain ⟨q,hq,hq2⟩:=List.getElem_of_mem hx
  have hq3:L.l[q]?=some x:=by rw [List.getElem?_eq_getElem hq,hq2]
  have hr:=hL.rise
  have:k=q:=by
   rcases Nat.lt_trichotomy k q with e|e|e
   ·have:=List.pairwise_iff_getElem.1 hr k q (by rw [List.length_map];omega) (by rw [List.length_map];omega) e
    rw [List.getElem_map,List.getElem_map]at this
    have e1:=(List.getElem?_eq_some_iff.1 h3).2
    rw [e1,hq2]at this
    omega
   ·exact e
   ·have:=List.pairwise_iff_getElem.1 hr q k (by rw [List.length_map];omega) (by rw [List.length_map];omega) e
    rw [List.getElem_map,List.getElem_map]at this
    have e1:=(List.getElem?_eq_some_iff.1 h3).2
    rw [e1,hq2]at this
    omega
  subst this
  rw [h3]at hq3
  cases hq3;rfl
 have hrest:(Seg.fresh M4 lim).segs=L.segs++(Seg.fresh M4 lim).segs.filter (fun s=>decide (N<s)):=by
  have e:=split_le (Seg.segs_rise hF) N
  have e2:(Seg.fresh M4 lim).segs.filter (fun s=>decide (s≤N))=L.segs:=by
   refine Seg.int_ext ((Seg.segs_rise hF).filter _) (Seg.segs_rise hL) fun s=>?_
   rw [List.mem_filter]
   constructor
   ·rintro ⟨q1,q2⟩
    obtain ⟨⟨q3,q4⟩,i,hi⟩:=(fresh_iff a.off s).1 q1
    rcases a.new s i q3 q4 hi with q|q
    ·exact q
    ·simp at q2;omega
   ·intro hs
    refine ⟨?_,by simpa using hle s hs⟩
    obtain ⟨x,hx,rfl⟩:=List.mem_map.1 hs
    obtain ⟨i,hi,_⟩:=a.old x hx
    exact (fresh_iff a.off x.1).2 ⟨hL.nums x hx,i,hi⟩
  rw [e2]at e
  exact e
 have hmem:∀ s∈(Seg.fresh M4 lim).segs.filter (fun s=>decide (N<s)),N<s:=fun s hs=>by simpa using (List.mem_filter.1 hs).2
 refine ⟨?_,hsz,_,hrest,hmem⟩
 have hsegs:us.map (·.seg)=L.segs:=by rw [ho.segs,hc]
 unfold Hin.fits
 rw [hrest]
 refine fits_yes (fun u hu=>?_) ?_ _ 0 _ (by rw [List.drop_zero,hsegs]) hmem (Nat.zero_le _)
 ·have hm:u.seg∈L.segs:=by rw [← hsegs];exact List.mem_map.2 ⟨u,hu,rfl⟩
  obtain ⟨_,u2,u3,_⟩:=ho.use u hu
  exact ⟨hle _ hm,by rw [hsz _ hm];exact u3,u2⟩
 ·rw [← List.getLast?_map,hsegs];exact hN
end
structure Hd (T:Kept) (P:ByteArray→Prop) (K:Nat) (M:Med):Prop where
 ok:M.Ok K
 nm:∀ k,k≤M.waits.length→(∀ t∈T,nget (M.lastNames k) t.1=some t.2.1)∧∀ p∈M.lastNames k,(∃ t∈T,p.1=t.1)∨P p.1
 fil:∀ t∈T,M.file t.2.1=t.2.2
section
variable {T:Kept}{P:ByteArray→Prop}{K K' r:Nat}{M:Med}{s:ByteArray}{L:Log}{N:Int}
end
section
variable {T:Kept}{P:ByteArray→Prop}{n K K' E B c:Nat}{L:Log}{M M':Med}{C:List (List Ent)}{N:Int}{b1 b2:Frm.Bs}{us:List Use}
theorem kept_len {n:Nat} (h:Holds n L M C){s:Int×Int} (hs:s∈L.l){i:Nat} (hi:nget M.now (Seg.name s.1)=some i):((M.file i).now.length:Int)=s.2:=by
 obtain ⟨q,hq⟩:=List.getElem?_of_mem hs
 have hql:=(List.getElem?_eq_some_iff.1 hq).1
 have hc:=List.getElem?_eq_getElem (show q<C.length by rw [← h.len];exact hql)
 have hat:=h.at_ q _ hc
 have hf:=h.file q _ hc
 rw [hq]at hat
 cases hat
 rw [Seg.all_some h.keeps.calm.quiet hi]at hf
 have:=congrArg (fun z=>z.1.length) hf
 simp only [List.length_append]at this
 rw [this]
 have:mag.length=8:=rfl
 simp only
 omega
theorem Sv.anew (h:DoneH n L M C) (hn:n≤1000) (sv:Sv (keptOf L M) (name idx N) b1 (name use N) b2 K M') (h1:0≤N) (h2:N<1048576) (l:List Int):Anew L N (M'.crash l)∧(∀ s∈(Seg.fresh (M'.crash l) 128).segs,s∈L.segs):=by
 obtain ⟨_,hfl⟩:=DoneH.sv h hn h1 h2 b1 b2
 obtain ⟨sc,_⟩:=sv.crash hfl l
 have key:∀ (s:Int) (i:Nat),0≤s→s<1048576→nget (M'.crash l).now (Seg.name s)=some i→s∈L.segs:=fun s i s1 s2 hi=>by
  rcases sc.now.only _ (nget_mem hi) with ⟨t,ht,e⟩|e|e|e
  ·obtain ⟨x,hx,j,hj,rfl⟩:=kept_mem ht h.holds.keeps.has
   have hxn:=h.holds.keeps.log.nums x hx
   simp only at e
   rw [Seg.name_inj s1 s2 hxn.1 hxn.2 e]
   exact List.mem_map.2 ⟨x,hx,rfl⟩
  ·exact absurd e.symm (tmp_ne_seg s)
  ·exact absurd e (seg_ne_idx _ _ h1 h2)
  ·exact absurd e (seg_ne_use _ _ h1 h2)
 refine ⟨⟨rfl,fun s hs=>?_,fun s i s1 s2 hi=> .inl (key s i s1 s2 hi)⟩,fun s hs=>?_⟩
 ·obtain ⟨i,hi⟩:=h.holds.keeps.has s hs
  have hm:=mem_kept hs hi
  exact ⟨i,sc.now.seg _ hm,by rw [sc.fil _ hm];exact kept_len h.holds hs hi⟩
 ·obtain ⟨⟨q1,q2⟩,i,hi⟩:=(fresh_iff rfl s).1 hs
  exact key s i q1 q2 hi
end
end Go.Hin
namespace Go.Seg
def Cal.cutH (c:Cal):Cal:=⟨c.kind,Frm.cutE 120 c.e,c.n,c.p,c.l.take 40⟩
def fewCH (l:List Cal) (n:Nat):List Cal:=(l.take n).map Cal.cutH
end Go.Seg
namespace Go.Proofs.YtlinnpehkfbnkaaGreatDoor
open Go Go.Sl Go.Med Go.MapKept Go.RowKit
section
variable {w0 w:World}{F R:List HProp}{v bv dv x lv:Value}
theorem fewH_keys {ds es:List SD}{i:Nat} (h:es.map (·.c)=((ds.map (·.c)).take i).map Seg.Cal.cutH) (hk:∀ p∈ds,p.c.e.key.length=32):∀ p∈es,p.c.e.key.length=32:=by
 intro p hp
 have h1:p.c∈es.map (·.c):=List.mem_map.2 ⟨p,hp,rfl⟩
 rw [h,List.mem_map]at h1
 obtain ⟨x,hx,he⟩:=h1
 obtain ⟨q,hq,rfl⟩:=List.mem_map.1 (List.mem_of_mem_take hx)
 rw [← he]
 exact hk q hq
set_option maxRecDepth 20000 in
theorem fewH_c (ds:List SD) (n:Nat) (hn:n≤1048576) (hr:Ro w0 F (rdsl 40 lv (sdsL ds))) (he:∀ d∈ds,SDRo w0 F d) (h:Sat w0 w F) :
  Calls Tryz.prog 9 #[lv,.int .i64 n] w (Rtn fun v w'=>∃ (es:List SD) (ov:Value),v=ov∧es.map (·.c)=Seg.fewCH (ds.map (·.c)) n∧(∀ d∈es,Ro w0 F (rdsl 1 d.lv (ints d.c.l))∧capOk d.lv) ∧
   Sat w0 w' (osl 63 40 ov (sdsL es)::dataD es::F)):=by
 obtain ⟨la,ln,lc,rfl,hl,_⟩:=hr w h
 rw [sdsL_len (fun p hp=>(he p hp).key)]at hl
 obtain rfl:ln=ds.length:=by omega
 have Hr:=uQ hr;have He:=uQ he;have Hn:=uQ hn
 clear hr he hl hn
 go_enter Tryz.func9,Tryz.ntmps9
 go_wp2_with fail
 go_loopg [5,6] ds.length (fun g ov iq wr=>∃ (i:Nat) (es:List SD),g=ds.length - i∧i≤ds.length∧i≤n∧iq = .int .i64 i∧es.map (·.c)=((ds.map (·.c)).take i).map Seg.Cal.cutH∧(∀ d∈es,Ro w0 F (rdsl 1 d.lv (ints d.c.l))∧capOk d.lv) ∧
  Sat w0 wr (osl 63 40 ov (sdsL es)::dataD es::F))
 case atStart=>exact ⟨0,[],rfl,Nat.zero_le _,Nat.zero_le _,rfl,rfl,(fun d hd=>by cases hd),Sat.osl_nil.2 (Sat.emp.2 h)⟩
 case round=>
  obtain ⟨i,es,rfl,hi,hin,rfl,hfs,hls,hS⟩:=hrel
  have Hfs:=uQ hfs;have Hi:=uQ hi;have Hin:=uQ hin;have Hls:=uQ hls
  clear h hfs hi hin hls
  by_cases hlt:i<ds.length∧i<n
  ·obtain ⟨hl1,hl2⟩:=hlt
   have c1:(i:Int)<(ds.length:Int):=oQ
   have c2:(i:Int)<(n:Int):=oQ
   have hwi:IntKind.i64.wrap ((i:Int)+1)=(i:Int)+1:=IntWalk.i64_in _ (by have:=Hn.out;omega)
   have Hl1:=uQ hl1;have Hl2:=uQ hl2
   have Hfk:=uQ (fewH_keys Hfs.out (fun p hp=>(He.out p hp).key))
   clear hl1 hl2
   obtain ⟨x,hx⟩:∃ x,ds[i]?=some x:=⟨_,List.getElem?_eq_getElem Hl1.out⟩
   have hxe:=He.out x (List.mem_of_getElem? hx)
   have hk:∀ p∈ds,p.c.e.key.length=32:=fun p hp=>(He.out p hp).key
   have hcut:=uQ (show es.map (·.c)++[x.c.cutH]=((ds.map (·.c)).take (i+1)).map Seg.Cal.cutH by
    rw [Hfs.out,List.take_add_one,List.map_append,List.getElem?_map,hx];rfl)
   have hrF:Ro w0 (osl 63 40 u5 (sdsL es)::dataD es::F) (rdsl 40 (.slice la ds.length lc) (sdsL ds)):=Ro.os Hr.out
   have hx0:(sdsL ds)[i * 40+0]?=some (.int .i64 x.c.kind):=sdsL_at hk hx rfl
   obtain ⟨bk,off,rfl,_⟩:=rdsl_cells (hrF _ hS) hx0
   have HG:=uQ (show ∀ w' L,Ro w0 L (rdsl 40 (.slice (some ⟨bk,off,none⟩) ds.length lc) (sdsL ds))→Sat w0 w' L→∀ j v,(sdL x)[j]?=some v→w'.cell? ⟨bk,off+i * 40+j,none⟩=some v by
    intro w' L hL hw j v hj
    obtain ⟨bk',off',hbo,hcell⟩:=rdsl_cells (hL w' hw) hx0
    cases hbo
    have:=hcell _ _ (sdsL_at hk hx hj)
    rw [← Nat.add_assoc]at this
    exact this)
   obtain ⟨⟨kind,e,xn,xp,xl⟩,dv,lv⟩:=x
   obtain ⟨hkey,hrd,hcap,hrl,hcapl⟩:=hxe
   obtain ⟨da,dn,dc,rfl,hdn,hdc⟩:=hcap
   obtain ⟨la2,ln2,lc2,rfl,hln2,hlc2⟩:=hcapl
   have hdl:dn=e.data.length:=by
    obtain ⟨a',n',c',he,hl,_⟩:=hrd _ (hS.sb)
    cases he
    rw [bys_len,Nat.mul_one]at hl;exact hl.symm
   subst hdl
   have Hrd:=uQ hrd;have Hrl:=uQ hrl;have Hkey:=uQ hkey
   have Hones:=uQ (sdA_ones ⟨⟨kind,e,xn,xp,xl⟩,.slice da e.data.length dc,.slice la2 ln2 lc2⟩ rfl rfl)
   have Hsize:=uQ (sdA_size ⟨⟨kind,e,xn,xp,xl⟩,.slice da e.data.length dc,.slice la2 ln2 lc2⟩ hkey)
   clear hx hk hrF hx0 hrd hrl hkey
   go_wp2_with (first
    |((with_reducible refine at_load ⟨?_⟩);refine wl_loadW (b:=bk) (o:=off+i * 40) (sdL ⟨⟨kind,e,xn,xp,xl⟩,.slice da e.data.length dc,.slice la2 ln2 lc2⟩) rFz (HG.out _ _ (Ro.os Hr.out) hS) Tryz.underlying63 rfl (by rw [sdL_len _ Hkey.out];exact infoDo) ?_)
    |((with_reducible refine at_alloc ⟨?_⟩);refine wl_alloc zDo aQ rfl ?_;intro q w1 hS1)
    |((with_reducible refine at_store ⟨?_⟩);refine wl_storeA (sdA ⟨⟨kind,e,xn,xp,xl⟩,.slice da e.data.length dc,.slice la2 ln2 lc2⟩) hS1 (cs:=sdA zeroD) rFz rFz (Hsize.out.trans (sdA_size zeroD rfl).symm) upD (by rw [Hsize.out];exact infoDo) Hones.out ?_;intro w2 hS2)
    |((with_reducible refine at_load ⟨?_⟩);refine wl_loadN (b:=q) (o:=1) (entL e (.slice da e.data.length dc)) hS2 rFz pkD (sdA_ent _ Hkey.out) Tryz.underlying27 rfl (by rw [entL_len e _ Hkey.out];exact infoEntSize) ?_)
    |((with_reducible refine at_buildE ⟨?_⟩);refine wl_buildE hS2 rFz Hkey.out ?_;intro bN wN hN))
   refine (few_c (lv:= .slice (some ⟨bN,0,none⟩) 1 1) [(e,.slice da e.data.length dc)] 1 120 dCz dCz (ro_one Hkey.out) (fun p hp=>by
    rw [List.mem_singleton]at hp
    subst hp
    exact ⟨Hkey.out,Ro.os Hrd.out,⟨_,_,_,rfl,hdn,hdc⟩⟩) hN).mono ?_
   rintro ee w3 ⟨v,rfl,fs,hfs,hS3⟩
   obtain ⟨dv2,rfl⟩:=few_one hfs
   have hk2:(Frm.cutE 120 e).key.length=32:=Hkey.out
   obtain ⟨b2,c2,cs2,da2,dc2,rfl,rfl,hcs,hS4⟩:=few_open hk2 hS3
   have Hk2:=uQ hk2
   have Hcut2:=uQ (show (⟨kind,Frm.cutE 120 e,xn,xp,xl.take 40⟩:Seg.Cal)=Seg.Cal.cutH ⟨kind,e,xn,xp,xl⟩ from rfl)
   generalize Frm.cutE 120 e=f at *
   have Hcs:=uQ hcs
   have Hones2:=uQ (sdA_ones ⟨⟨kind,f,xn,xp,xl⟩,.slice da2 f.data.length dc2,.slice la2 ln2 lc2⟩ rfl rfl)
   clear hcs hS3 hfs hN hS2 hS1 hS hk2 Hones
   go_wp2_with (first
    |((with_reducible refine at_load ⟨?_⟩);refine wl_loadEs (b:=b2) (o:=0) aQ rFz pkD Hk2.out Hcs.out ?_)
    |((with_reducible refine at_store ⟨?_⟩);refine wl_store (b:=q) (o:=1) (v:= .agg (entA f (.slice da2 f.data.length dc2))) aQ rFz rFz (puts_ent _ Hkey.out f (.slice da2 f.data.length dc2) Hk2.out) upD (by rw [Hsize.out];show 1+(entA f _).size≤40;rw [entA_size _ _ Hk2.out];decide) (by show _=some (entA f _).size;rw [entA_size _ _ Hk2.out];exact infoEntSize) (entA_one _ _ _ _) ?_;intro w5 hS5)
    |(with_reducible apply at_load))
   generalize hd2:(⟨⟨kind,f,xn,xp,xl⟩,.slice da2 f.data.length dc2,.slice la2 ln2 lc2⟩:SD)=d2 at hS5
   have hd2k:d2.c.e.key.length=32:=by rw [← hd2];exact Hk2.out
   have hd2l:d2.lv = .slice la2 ln2 lc2:=by rw [← hd2]
   have Hd2k:=uQ hd2k
   refine ⟨wl_load1 (b:=q) (o:=39) (v:= .slice la2 ln2 lc2) hS5 rFz pkD (by rw [sdA_size _ hd2k];decide) (by rw [sdA_l _ hd2k,hd2l]) kRz ?_⟩
   go_wp2_with fail
   have hnu:=numbers_c la2 ln2 lc2 40 hln2 hlc2
   refine (hnu _).mono ?_
   rintro ee w6 ⟨v,rfl,rfl,rfl⟩
   clear hnu
   generalize hd3:(⟨⟨kind,f,xn,xp,xl.take 40⟩,.slice da2 f.data.length dc2,.slice la2 (min ln2 40) lc2⟩:SD)=d3
   have hput:putsAt (sdA d2) 39 [.slice la2 (min ln2 40) lc2]=sdA d3:=by rw [puts_l _ hd2k (xl.take 40),← hd2,← hd3]
   have hd3k:d3.c.e.key.length=32:=by rw [← hd3];exact Hk2.out
   have Hd3k:=uQ hd3k
   have Hones3:=uQ (show (sdA d3).toList.all (·.oneCell')=true by rw [← hd3];exact sdA_ones _ rfl rfl)
   have hlen:(sdsL es).length≤2147483648:=by
    rw [sdsL_len Hfk.out]
    have:=congrArg List.length Hfs.out
    simp only [List.length_map,List.length_take]at this
    have:=Hn.out;have:=Hin.out;omega
   have Hput:=uQ hput
   clear hput hd2l
   go_wp2_with (first
    |((with_reducible refine at_store ⟨?_⟩);refine wl_store (b:=q) (o:=39) (v:= .slice la2 (min ln2 40) lc2) hS5 rFz rFz Hput.out upD (by rw [sdA_size _ Hd2k.out];exact Nat.le_refl 40) kRz rFz ?_;intro w7 hS7)
    |((with_reducible refine at_load ⟨?_⟩);refine wl_loadA (b:=q) hS7 rFz pkD Tryz.underlying63 rfl (by rw [sdA_size _ Hd3k.out];exact infoDo) ?_)
    |((with_reducible refine at_build1 ⟨?_⟩);refine wl_build1 (e:=63) (sz:=40) (by':=128) kRz hS7 rFz (cs:=sdA d3) rfl (sdA_size _ Hd3k.out) nLz ?_;intro bN wN hN)
    |((with_reducible refine at_append ⟨?_⟩);refine wl_app 63 40 128 kRz hN rFz rFz pkD pkD ((sdA_size _ Hd3k.out).trans dCz) (Nat.le_refl 1) Hones3.out hlen (by rw [sdA_size _ Hd3k.out];decide) dCz rfl ?_;intro bA nA cA wA hA))
   go_roundg (ds.length - (i+1))
   case measure=>have:=Hl1.out;omega
   case rel=>
    refine ⟨i+1,es++[d3],rfl,Nat.succ_le_of_lt Hl1.out,Nat.succ_le_of_lt Hl2.out,by first|rfl|go_num,?_,?_,?_⟩
    ·rw [← hcut.out,List.map_append,← Hcut2.out,← hd3];rfl
    ·intro d hd
     rcases List.mem_append.1 hd with hd|hd
     ·exact Hls.out d hd
     ·rw [List.mem_singleton.1 hd,← hd3]
      exact ⟨fun w hw=>rdsl_cutI (Hrl.out w hw),⟨_,_,_,rfl,Nat.le_trans (Nat.min_le_left _ _) hln2,hlc2⟩⟩
    ·rw [sdsL_snoc,dataD_snoc]
     have e4:bsl d3.dv d3.c.e.data=bsl (.slice da2 f.data.length dc2) f.data:=by rw [← hd3]
     rw [e4]
     have h10:Sat w0 wA (bsl (.slice da2 f.data.length dc2) f.data::dataD es::osl 63 40 (.slice (some ⟨bA,0,none⟩) nA cA) (sdsL es++(sdA d3).toList)::F):=hA.sb
     exact (Sat.star.2 h10).pick1
  ·have hfin:es.map (·.c)=Seg.fewCH (ds.map (·.c)) n:=by
    rw [Hfs.out]
    unfold Seg.fewCH
    congr 1
    have:=Hi.out;have:=Hin.out
    by_cases hh:i=n
    ·rw [hh]
    ·rw [List.take_of_length_le (by rw [List.length_map];omega),List.take_of_length_le (by rw [List.length_map];omega)]
   have Hfin:=uQ hfin
   by_cases hl1:i<ds.length
   ·have c1:(i:Int)<(ds.length:Int):=by omega
    have c2:¬ (i:Int)<(n:Int):=oQ
    clear hfin hlt hl1
    go_wp2
    go_ret
    exact ⟨_,rfl,es,Hfin.out,Hls.out,hS⟩
   ·have c1:¬ (i:Int)<(ds.length:Int):=by omega
    clear hfin hlt hl1
    go_wp2
    go_ret
    exact ⟨_,rfl,es,Hfin.out,Hls.out,hS⟩
end
theorem res3H {fn:Func}{t u v:Tmp} (h:fn.results=#[.tmp t,.tmp u,.tmp v]) (tmps:Array Value) (P:Program) (w:World) :
  (results fn tmps).run P w = .ok (.tuple #[tmps.getD t undef,tmps.getD u undef,tmps.getD v undef]) w:=by
 simp [results,h]
section
variable {w0 w:World}{F:List HProp}{lv:Value}
set_option maxRecDepth 20000 in
theorem played16_c (z:Int) (ds:List SD) (hr:Ro w0 F (rdsl 40 lv (sdsL ds))) (he:∀ d∈ds,d.c.e.key.length=32∧Ro w0 F (rdsl 1 d.dv (bys d.c.e.data))) (hn:ds.length≤30) (hd:∀ d∈ds,d.c.e.data.length≤300) (hH:Ro w0 F Half) (h:Sat w0 w F) :
  Calls Tryz.prog 8 #[.int .i64 z,lv] w (Rtn fun v w'=>∃ (p m:Nat) (L:Seg.Log) (M:Med) (C:List (List Frm.Ent)),v = .tuple #[ptr p,ptr m,.bool true]∧(Seg.DoneH (ds.length+1) L M C∧C.length≤ds.length+1∧L.limit=within z 128 2000)∧Sat w0 w' (LogRep p m L::MedRep m M::F)):=by
 obtain ⟨la,ln,lc,rfl,hl,_⟩:=hr w h
 rw [sdsL_len (fun p hp=>(he p hp).1)]at hl
 obtain rfl:ln=ds.length:=by omega
 have HH:=uQ hH;have Hr:=uQ hr;have He:=uQ he;have Hn:=uQ hn;have Hd:=uQ hd
 have hlim:=within_mem z 128 2000 dCz
 have hwi:=within_c z 128 2000
 generalize within z 128 2000=lim at *
 have Hlim:=uQ (show 128≤lim∧lim≤1048576 by omega)
 have P0:=uQ (Seg.PlH.start lim Hlim.out.1 Hlim.out.2)
 clear hr he hn hd hH hlim hl
 go_enter Tryz.func8,Tryz.ntmps8
 have hnew:Calls Tryz.prog 46 #[.int .i64 1048576] w (Rtn fun v w'=>∃ m,v = .tuple #[ptr m,errno 0]∧Sat w0 w' (MedRep m (Med.new 1048576)::F)):=new_yes 1048576 dCz h
 go_wp2_with fail
 refine hnew.mono ?_
 rintro ee w2 ⟨v,rfl,m,rfl,h2⟩
 clear hnew h
 go_wp2_with fail
 refine (hwi _).mono ?_
 rintro ee w1 ⟨v,rfl,rfl,rfl⟩
 clear hwi
 have hop:=open_c (K:=0) (Med.Ok.new 0 1048576 dCz) lim h2 rFz Hlim.out.1 Hlim.out.2
 rw [show Seg.fresh (Med.new 1048576) lim=⟨lim,[],false,0⟩ from rfl]at hop
 go_wp2_with fail
 refine hop.mono ?_
 rintro ee w4 ⟨v,rfl,p,rfl,h4⟩
 clear hop h2
 have Hl0:=uQ (show (⟨lim,[],false,0⟩:Seg.Log).limit=lim from rfl)
 generalize (⟨lim,[],false,0⟩:Seg.Log)=L0 at *
 generalize Med.new 1048576=M0 at *
 go_wp2_with fail
 go_loopg [11] ds.length (fun g iq wr=>∃ (i:Nat) (cs:List Seg.Cal),g=ds.length - i∧i≤ds.length∧iq = .int .i64 i∧cs=(ds.map (·.c)).take i ∧
  Sat w0 wr (LogRep p m (Seg.Log.playH cs L0 M0).1::MedRep m (Seg.Log.playH cs L0 M0).2::F))
 case atStart=>exact ⟨0,[],rfl,Nat.zero_le _,rfl,rfl,h4⟩
 case round=>
  obtain ⟨i,cs,rfl,hi,rfl,hcs,hS⟩:=hrel
  clear h4
  have hcl:cs.length=i:=by rw [hcs,List.length_take,List.length_map];omega
  have hpl:=Seg.PlH.play cs 0 L0 M0 [] P0.out (fun c hc=>by
   rw [hcs]at hc
   obtain ⟨d,hd,rfl⟩:=List.mem_map.1 (List.mem_of_mem_take hc)
   exact ⟨(He.out d hd).1,Hd.out d hd⟩) (by rw [hcl];have:=Hn.out;omega)
  rw [hcl,Nat.zero_add]at hpl
  obtain ⟨C,hpl,hlim⟩:=hpl
  have Hpl:=uQ hpl;have Hlm:=uQ (hlim.trans Hl0.out)
  have Hcs:=uQ hcs
  clear hpl hlim hcl hcs
  by_cases hlt:i<ds.length
  rotate_left
  ·as_aux_lemma=>
    have c1:¬ (i:Int)<(ds.length:Int):=oQ
    obtain rfl:i=ds.length:=by omega
    clear hlt hi
    generalize Seg.Log.playH cs L0 M0=q at *
    obtain ⟨L,M⟩:=q
    have hdn:=Hpl.out.done (by have:=Hn.out;omega)
    have hcm:=lcommit_c (Ro.os HH.out) Hpl.out.holds.keeps.log Hpl.out.holds.keeps.calm.ok (by have:=Hn.out;omega) hS
    obtain ⟨d1,d2,C',d3,d4⟩:=hdn
    have Hdn:=uQ (And.intro d3 (And.intro d4 (d2.trans Hlm.out)))
    generalize L.commit M=r at *
    obtain ⟨⟨L2,M2⟩,n2,e2⟩:=r
    dsimp only at d1 hcm Hdn
    subst d1
    clear hS d2 d3 d4 Hpl Hlm
    go_wp2_with fail
    refine hcm.mono ?_
    rintro ee w5 ⟨v,rfl,rfl,h5⟩
    clear hcm
    go_wp2_with fail
    refine ⟨rfl,_,res3H rfl _ _ _,?_⟩
    exact ⟨_,rfl,p,m,L2,M2,C',rfl,Hdn.out,h5⟩
  have c1:(i:Int)<(ds.length:Int):=oQ
  have hwi:IntKind.i64.wrap ((i:Int)+1)=(i:Int)+1:=IntWalk.i64_in _ (by have:=Hn.out;omega)
  have Hlt:=uQ hlt
  clear hlt hi
  obtain ⟨x,hx⟩:∃ x,ds[i]?=some x:=⟨_,List.getElem?_eq_getElem Hlt.out⟩
  have hxe:=He.out x (List.mem_of_getElem? hx)
  have hk:∀ p∈ds,p.c.e.key.length=32:=fun p hp=>(He.out p hp).1
  have Hsn:=uQ (show cs++[x.c]=(ds.map (·.c)).take (i+1) by rw [Hcs.out,List.take_add_one,List.getElem?_map,hx];rfl)
  have Hps:=uQ (Seg.playH_snoc cs x.c L0 M0)
  have hx0:(sdsL ds)[i * 40+0]?=some (.int .i64 x.c.kind):=sdsL_at hk hx rfl
  obtain ⟨bk,off,rfl,_⟩:=rdsl_cells ((Ro.os Hr.out) _ hS) hx0
  have HG:=uQ (show ∀ w' L,Ro w0 L (rdsl 40 (.slice (some ⟨bk,off,none⟩) ds.length lc) (sdsL ds))→Sat w0 w' L→∀ j v,(sdL x)[j]?=some v→w'.cell? ⟨bk,off+i * 40+j,none⟩=some v by
   intro w' L hL hw j v hj
   obtain ⟨bk',off',hbo,hcell⟩:=rdsl_cells (hL w' hw) hx0
   cases hbo
   have:=hcell _ _ (sdsL_at hk hx hj)
   rw [← Nat.add_assoc]at this
   exact this)
  obtain ⟨⟨kind,e,xn,xp,xl⟩,dv,lv⟩:=x
  obtain ⟨hkey,hrd⟩:=hxe
  obtain ⟨da,dn,dc,rfl,hdl,_⟩:=hrd _ (hS.sb)
  rw [bys_len,Nat.mul_one]at hdl
  obtain rfl:dn=e.data.length:=hdl.symm
  clear hdl
  have Hrd:=uQ hrd;have Hkey:=uQ (show e.key.length=32 from hkey)
  have Hde:=uQ (show e.data.length≤300 from Hd.out _ (List.mem_of_getElem? hx))
  have e0:wr.cell? ⟨bk,off+i * 40,none⟩=some (.int .i64 kind):=HG.out wr _ (Ro.os Hr.out:Ro w0 (LogRep p m (Seg.Log.playH cs L0 M0).1::MedRep m (Seg.Log.playH cs L0 M0).2::F) _) hS 0 _ rfl
  have HCE:=uQ (show ∀ j v,(entL e (.slice da e.data.length dc))[j]?=some v→wr.cell? ⟨bk,off+i * 40+1+j,none⟩=some v from fun j v hj=>by
   have:=HG.out wr _ (Ro.os Hr.out:Ro w0 (LogRep p m (Seg.Log.playH cs L0 M0).1::MedRep m (Seg.Log.playH cs L0 M0).2::F) _) hS (1+j) v (sdL_ent ⟨⟨kind,e,xn,xp,xl⟩,.slice da e.data.length dc,lv⟩ Hkey.out hj)
   rw [← Nat.add_assoc]at this;exact this)
  clear hx hk hx0 hrd hkey
  have hok:=Hpl.out.holds.keeps.log
  have hmo:=Hpl.out.holds.keeps.calm.ok
  have hnb:i * 5≤1000:=by have:=Hn.out;have:=Hlt.out;omega
  clear Hpl
  by_cases hkd:kind=1
  ·as_aux_lemma=>
    subst hkd
    have hb:((1:Int)==1)=true:=rfl
    have hap:=lcommit_c (Ro.os HH.out) hok hmo oQ hS
    have Hst:=uQ (show (Seg.Log.playH cs L0 M0).1.stepH (Seg.Log.playH cs L0 M0).2 ⟨1,e,xn,xp,xl⟩=((Seg.Log.playH cs L0 M0).1.commit (Seg.Log.playH cs L0 M0).2).1 from by unfold Seg.Log.stepH;rw [if_pos rfl])
    rw [Hst.out]at Hps
    generalize Seg.Log.playH cs L0 M0=lm at *
    generalize lm.1.commit lm.2=r at *
    obtain ⟨⟨L2,M2⟩,n2,e2⟩:=r
    dsimp only at hap
    clear hok hmo hnb hS HCE HG Hst
    go_wp2_with fail
    refine hap.mono ?_
    rintro ee w5 ⟨v,rfl,rfl,h5⟩
    clear hap
    go_wp2_with fail
    go_roundg (ds.length - (i+1))
    case measure=>have:=Hlt.out;omega
    case rel=>exact ⟨i+1,_,rfl,Nat.succ_le_of_lt Hlt.out,by first|rfl|go_num,Hsn.out,by rw [Hps.out];exact h5⟩
  ·as_aux_lemma=>
    have hb:(kind==1)=false:=by rw [beq_eq_false_iff_ne];exact hkd
    have hap:=lappend_c e Hkey.out da dc (Ro.os Hrd.out) (Ro.os HH.out) (Nat.le_trans Hde.out dCz) hok hmo oQ hS
    have Hst:=uQ (show (Seg.Log.playH cs L0 M0).1.stepH (Seg.Log.playH cs L0 M0).2 ⟨kind,e,xn,xp,xl⟩=((Seg.Log.playH cs L0 M0).1.append (Seg.Log.playH cs L0 M0).2 e).1 from by unfold Seg.Log.stepH;rw [if_neg hkd])
    rw [Hst.out]at Hps
    generalize Seg.Log.playH cs L0 M0=lm at *
    generalize lm.1.append lm.2 e=r at *
    obtain ⟨⟨L2,M2⟩,n2,e2⟩:=r
    dsimp only at hap
    clear hok hmo hnb hS HG Hst hkd
    go_wp2_with ((with_reducible refine at_load ⟨?_⟩);first
     |refine wl_loadW (b:=bk) (o:=off+i * 40+1) (entL e (.slice da e.data.length dc)) rFz HCE.out Tryz.underlying27 rfl (by rw [entL_len _ _ Hkey.out];exact infoEntSize) ?_
     |refine wl_loadC (b:=bk) (o:=off+i * 40) rFz kRz e0 ?_)
    refine hap.mono ?_
    rintro ee w5 ⟨v,rfl,rfl,h5⟩
    clear hap
    go_wp2_with fail
    go_roundg (ds.length - (i+1))
    case measure=>have:=Hlt.out;omega
    case rel=>exact ⟨i+1,_,rfl,Nat.succ_le_of_lt Hlt.out,by first|rfl|go_num,Hsn.out,by rw [Hps.out];exact h5⟩
end
end Go.Proofs.YtlinnpehkfbnkaaGreatDoor
namespace Go.Hin
open Go.Med
open Go.Seg (Log Keeps Holds HG DoneH HintOk mag Plc)
open Go.Frm (Fnd encs GoodE fnds Ent)
open Go.Rep (Use)
section
variable {n K r E B c:Nat}{L:Log}{M:Med}{C:List (List Ent)}{N:Int}{us:List Use}{ps:List (Bs×Plc)}
theorem DoneH.taken (h:DoneH n L M C):L.segs.take C.length=L.segs:=by
 rw [← h.holds.segs.1];exact List.take_length
theorem DoneH.rowsC (h:DoneH n L M C):Rep.rowsOf (fun s=>L.bytes M s) L.segs=Rep.rowsC 0 C:=by
 have e:=h.holds.rows C.length
 rw [DoneH.taken h,List.take_length]at e
 exact e
theorem DoneH.rows_len (h:DoneH n L M C):(Rep.rowsOf (fun s=>L.bytes M s) L.segs).length≤n:=by
 rw [DoneH.rowsC h,← List.length_map (f:=fun r:Rep.Row=>r.2.e),Rep.rowsC_e]
 exact h.few
theorem DoneH.rows_size (h:DoneH n L M C):∀ r∈Rep.rowsOf (fun s=>L.bytes M s) L.segs,(r.2.size:Int)≤4294967296:=fun r hr=>by
 rw [DoneH.rowsC h]at hr
 obtain ⟨j,es,h5,h6,h7⟩:=Rep.rowsC_mem C 0 hr
 obtain ⟨u,v,h8,h9,h10⟩:=Rep.fnds_mem es 8 h7
 have hat:=List.mem_of_getElem? (h.holds.at_ j es h5)
 have hsz:=h.holds.keeps.log.sizes _ hat
 have he:(encs es).length=(encs u).length+((Frm.encode r.2.e).1.length+(encs v).length):=by
  conv=>lhs;rw [h8]
  rw [Seg.encs_app,List.length_append]
  congr 1
  exact List.length_append
 simp only at hsz
 omega
theorem DoneH.lastOf (h:DoneH n L M C):Rep.lastOfL L.segs=(C.length:Int) - 1∧L.segs.getLast?=some ((C.length:Int) - 1):=by
 obtain ⟨h1,h2⟩:=h.holds.segs
 have h3:=DoneH.run h
 have e:L.segs.getLast?=some ((C.length:Int) - 1):=by
  rw [List.getLast?_eq_getElem?,h1,h2 _ oQ]
  congr 1;omega
 refine ⟨?_,e⟩
 unfold Rep.lastOfL
 rw [e]
theorem DoneH.hint (h:DoneH n L M C) (hn:n≤1000){kv:List (Bs×Rep.Abt)} (hk:Tab.Lists (Rep.ledger (Rep.rowsOf (fun s=>L.bytes M s) L.segs)) kv) (h32:∀ q∈kv,q.1.length=32) :
  HintOk L C.length ((Rep.usesOf (fun s=>L.bytes M s) L.segs).map (Rep.upd kv)) (Rep.puts kv):=by
 have e:=DoneH.taken h
 have:=(h.holds.hg hn).hint (Nat.le_refl _) (kv:=kv) (by rw [e];exact hk) h32
 rw [e]at this
 exact this
theorem HintOk.size (h:HintOk L c us ps){s:Int} (hs:s∈L.segs.take c):L.size s≤33554432:=by
 rw [← h.segs]at hs
 obtain ⟨u,hu,rfl⟩:=List.mem_map.1 hs
 obtain ⟨_,_,h3,h4⟩:=h.use u hu
 omega
theorem HintOk.idx (h:HintOk L c us ps) (hL:L.Ok) (hl:ps.length≤65536):Bok.Ok 3 true (ps.map Rep.idxRw):=by
 refine ⟨by rw [List.length_map];exact hl,fun r hr=>?_,fun i a b ha hb=>?_⟩
 ·obtain ⟨q,hq,rfl⟩:=List.mem_map.1 hr
  obtain ⟨p1,p2,p3,p4⟩:=h.plc q hq
  have hz:=HintOk.size h p4
  have hsg:=List.mem_of_mem_take p4
  obtain ⟨x,hx,hxe⟩:=List.mem_map.1 hsg
  have hnm:=hL.nums x hx
  refine ⟨h.key q hq,rfl,fun m hm=>?_⟩
  simp only [Rep.idxRw,List.mem_cons,List.not_mem_nil,or_false]at hm
  rcases hm with rfl|rfl|rfl <;> omega
 ·rw [List.getElem?_map]at ha hb
  obtain ⟨x,hx,rfl⟩:=Option.map_eq_some_iff.1 ha
  obtain ⟨y,hy,rfl⟩:=Option.map_eq_some_iff.1 hb
  obtain ⟨i1,rfl⟩:=List.getElem?_eq_some_iff.1 hx
  obtain ⟨i2,rfl⟩:=List.getElem?_eq_some_iff.1 hy
  unfold Bok.ahead
  rw [if_pos rfl]
  exact List.pairwise_iff_getElem.1 h.rise i (i+1) i1 i2 oQ
theorem HintOk.uses (h:HintOk L c us ps) (hL:L.Ok) (hl:us.length≤65536):Bok.Ok 3 false (us.map Rep.useRw):=by
 have hri:(us.map (·.seg)).Pairwise (· < ·):=by
  rw [h.segs];exact (Seg.segs_rise hL).sublist (List.take_sublist _ _)
 refine ⟨by rw [List.length_map];exact hl,fun r hr=>?_,fun i a b ha hb=>?_⟩
 ·obtain ⟨u,hu,rfl⟩:=List.mem_map.1 hr
  obtain ⟨p1,p2,p3,p4⟩:=h.use u hu
  have hsg:u.seg∈L.segs:=List.mem_of_mem_take (by rw [← h.segs];exact List.mem_map.2 ⟨u,hu,rfl⟩)
  obtain ⟨x,hx,hxe⟩:=List.mem_map.1 hsg
  have hnm:=hL.nums x hx
  refine ⟨rfl,rfl,fun m hm=>?_⟩
  simp only [Rep.useRw,List.mem_cons,List.not_mem_nil,or_false]at hm
  rcases hm with rfl|rfl|rfl <;> omega
 ·rw [List.getElem?_map]at ha hb
  obtain ⟨x,hx,rfl⟩:=Option.map_eq_some_iff.1 ha
  obtain ⟨y,hy,rfl⟩:=Option.map_eq_some_iff.1 hb
  obtain ⟨i1,rfl⟩:=List.getElem?_eq_some_iff.1 hx
  obtain ⟨i2,rfl⟩:=List.getElem?_eq_some_iff.1 hy
  unfold Bok.ahead
  rw [if_neg dCz]
  have:=List.pairwise_iff_getElem.1 hri i (i+1) (by rw [List.length_map];exact i1) (by rw [List.length_map];exact i2) oQ
  rw [List.getElem_map,List.getElem_map]at this
  exact this
theorem books_len {X:Bs→Nat} (hi:Bok.Ok 3 true (ps.map Rep.idxRw)) (hu:Bok.Ok 3 false (us.map Rep.useRw)) (h1:ps.length≤1000) (h2:us.length≤1000) :
  (Bok.book X Bok.mgIdx true (ps.map Rep.idxRw)).length+(Bok.book X Bok.mgUse false (us.map Rep.useRw)).length≤100000:=by
 rw [Bok.book_len (k:=3) rfl hi.row,Bok.book_len (k:=3) rfl hu.row,List.length_map,List.length_map,show Bok.rowSz true 3=44 from rfl,show Bok.rowSz false 3=12 from rfl]
 omega
end
end Go.Hin
namespace Go.Proofs.YtlinnpehkfbnkaaGreatDoor
open Go Go.Sl Go.Med Go.MapKept Go.RowKit
section
variable {w0 w:World}{F:List HProp}{lv:Value}
theorem few_played {ds es:List SD}{ov:Value}{n:Nat} (hes:es.map (·.c)=Seg.fewCH (ds.map (·.c)) n) (hk:∀ d∈ds,d.c.e.key.length=32) :
  (∀ d∈es,d.c.e.key.length=32)∧es.length≤n∧(∀ d∈es,d.c.e.data.length≤300)∧Ro w0 (osl 63 40 ov (sdsL es)::dataD es::F) (rdsl 40 ov (sdsL es)) ∧
   (∀ d∈es,d.c.e.key.length=32∧Ro w0 (osl 63 40 ov (sdsL es)::dataD es::F) (rdsl 1 d.dv (bys d.c.e.data))):=by
 have hm:∀ d∈es,∃ x∈ds,d.c=x.c.cutH:=fun d hd=>by
  have h1:d.c∈es.map (·.c):=List.mem_map.2 ⟨d,hd,rfl⟩
  rw [hes]at h1
  unfold Seg.fewCH at h1
  obtain ⟨c,hc,he⟩:=List.mem_map.1 h1
  obtain ⟨x,hx,rfl⟩:=List.mem_map.1 (List.mem_of_mem_take hc)
  exact ⟨x,hx,he.symm⟩
 have hkey:∀ d∈es,d.c.e.key.length=32:=fun d hd=>by
  obtain ⟨x,hx,e⟩:=hm d hd
  rw [e];exact hk x hx
 refine ⟨hkey,?_,fun d hd=>?_,fun w hw=>Sat.rd hw,fun d hd=>⟨hkey d hd,fun w hw=>?_⟩⟩
 ·have:=congrArg List.length hes
  unfold Seg.fewCH at this
  rw [List.length_map,List.length_map,List.length_take]at this
  omega
 ·obtain ⟨x,hx,e⟩:=hm d hd
  rw [e]
  show (x.c.e.data.take 120).length≤300
  rw [List.length_take];omega
 ·obtain ⟨i,hi⟩:=List.getElem?_of_mem hd
  exact dataD_ro (R:=F) hi w (hw.sb)
theorem size_empty {K:Nat}{M:Med} (h:M.Ok K) (ho:M.off=false):M.size ByteArray.empty=(0,9):=by
 have hn:nget M.now ByteArray.empty=none:=by
  cases hi:nget M.now ByteArray.empty with
  |none=>rfl
  |some i=>exact absurd rfl (h.nowOk.ne _ (nget_mem hi))
 unfold Med.size
 rw [ho,hn];rfl
end
section
variable {w0 w:World}{F:List HProp}{p B:Nat}{m:Frm.Bs→Option (Seg.Plc)}
set_option maxRecDepth 20000 in
theorem rows16_c (hB:B≤13000000) (h:Sat w0 w (TabML p m B::F)) :
  Calls Tryz.prog 26 #[ptr p] w (Rtn fun v w'=>∃ kv:List (Frm.Bs×Seg.Plc),(Tab.Lists m kv∧(∀ q∈kv,q.1.length=32)∧kv.length≤B)∧Sat w0 w' (osl 149 35 v (kv.flatMap kvL)::TabML p m B::F)):=by
 have hr:=keysL_c hB h
 clear h
 go_enter Tryz.func26,Tryz.ntmps26
 go_wp2_with fail
 refine hr.mono ?_
 rintro ee w1 ⟨sv,rfl,kv,hk,hS1⟩
 clear hr
 have Hk:=uQ hk
 have Hlen:=uQ (show ∀ q∈kv,(bys q.1).length=32 from fun q hq=>by rw [bys_len];exact hk.2.1 q hq)
 obtain ⟨la,lc,rfl⟩:=osl_rows Hlen.out (Sat.rd hS1) dCz
 have hsb:kv.length≤13000000:=Nat.le_trans hk.2.2 hB
 have hB2:B≤268435000:=oQ
 have HB:=uQ hB2
 have hS2:Sat w0 w1 (osl 149 35 (.slice none 0 0) ((kv.take 0).flatMap kvL)::osl 24 32 (.slice la kv.length lc) (kv.flatMap fun q=>bys q.1)::TabML p m B::F):=Sat.osl_nil.2 hS1
 clear hk hB hS1 hB2
 go_wp2_with fail
 go_loopg [3,5] kv.length (fun g oq iq wr=>∃ (i:Nat),g=kv.length - i∧i≤kv.length∧iq = .int .i64 i ∧
  Sat w0 wr (osl 149 35 oq ((kv.take i).flatMap kvL)::osl 24 32 (.slice la kv.length lc) (kv.flatMap fun q=>bys q.1)::TabML p m B::F))
 case atStart=>exact ⟨0,rfl,Nat.zero_le _,rfl,hS2⟩
 case round=>
  obtain ⟨i,rfl,hi,rfl,hS⟩:=hrel
  clear hS2
  by_cases hlt:i<kv.length
  rotate_left
  ·obtain rfl:i=kv.length:=by omega
   have c1:¬ (kv.length:Int)<(kv.length:Int):=oQ
   rw [List.take_length]at hS
   clear hlt hi
   go_wp2_with fail
   go_ret
   exact ⟨_,rfl,kv,⟨Hk.out.1,by intros;exact Hk.out.2.1 (_,_) aQ,Hk.out.2.2⟩,hS.sb⟩
  have c1:(i:Int)<(kv.length:Int):=oQ
  have hwi:=iwQ (i:=i)
  obtain ⟨⟨k,pl⟩,hx⟩:∃ q,kv[i]?=some q:=⟨_,List.getElem?_eq_getElem hlt⟩
  have Hx:=uQ hx
  have hxm:=List.mem_of_getElem? hx
  have Hxk:=uQ (Hk.out.2.1 _ hxm)
  have hmk:m k=some pl:=(Hk.out.1.mem k pl).1 hxm
  obtain ⟨bk,off,c',hsv,hcell⟩:=osl_row (f:=fun q:Frm.Bs×Seg.Plc=>bys q.1) (k:=32) Hlen.out (Sat.rd (hS.pick pick1)) hx dCz
  cases hsv
  have Htk:=uQ (show (kv.take (i+1)).flatMap kvL=(kv.take i).flatMap kvL++kvL (k,pl) by rw [List.take_add_one,hx,Option.toList_some,List.flatMap_append];simp)
  have Hlt:=uQ hlt
  have hg:=getL_c HB.out Hxk.out (hS.sb:Sat w0 wr (TabML p m B::osl 149 35 u3 ((kv.take i).flatMap kvL)::osl 24 32 (.slice (some ⟨bk,off,none⟩) kv.length lc) (kv.flatMap fun q=>bys q.1)::F))
  rw [hmk,Option.getD_some,Option.isSome_some]at hg
  clear hx hxm hlt hi hmk hS
  go_wp2_with ((with_reducible refine at_load ⟨?_⟩);refine wl_loadW (b:=bk) (o:=off+i * 32) (bys k) rFz hcell Tryz.underlying24 rfl (by rw [bys_len,Hxk.out];kernel_rfl) ?_)
  refine hg.mono ?_
  rintro ee w5 ⟨v,rfl,rfl,hS5⟩
  clear hg hcell
  go_wp2_with (with_reducible apply at_alloc)
  refine ⟨wl_alloc zPlc39 hS5 rfl ?_⟩
  intro b6 w6 h6
  go_wp2_with ((with_reducible refine at_store ⟨?_⟩);refine wl_storeA (penc pl).toArray h6 rFz rFz rFz upd0 kRz rFz ?_;intro w7 h7)
  have h8:=h7.drew
  obtain ⟨bk2,off2,c2,e2,hcell⟩:=osl_row (f:=fun q:Frm.Bs×Seg.Plc=>bys q.1) (k:=32) Hlen.out (Sat.rd (h8.pick (pick_there (pick_there (pick_there pick0))))) Hx.out dCz
  cases e2
  have hG:(w7.drew).rangeAt bk (off+i * 32) (bys k)∧(w7.drew).rangeAt b6 0 (penc pl):=⟨hcell,pt_rangeL (h8.pick pick0)⟩
  clear h7 h6 hS5 hcell
  have hle:((kv.take i).flatMap kvL).length≤2147483648:=by
   rw [rows_len (k:=35) fun q hq=>kvL_len q (Hk.out.2.1 q (List.mem_of_mem_take hq)),List.length_take];omega
  refine wpL_begin [6,7,8,9] (fun w'=>w'.rangeAt bk (off+i * 32) (bys k)∧w'.rangeAt b6 0 (penc pl)) kRz ?_
  refine rP 0 ?_ (y:=mvQ)
  refine rP 1 ?_ (y:=mvQ)
  refine rP 2 ?_ (y:=mvQ)
  refine rP 3 ?_ (y:=ixQ)
  refine rg_take 4 evD kRz i3z (tk_loadN (b:=bk) (o:=off+i * 32) (bys k) rFz Tryz.underlying24 rfl (by rw [bys_len,Hxk.out];kernel_rfl) (fun w hw=>hw.1)) aQ gQ ?_
  refine rg_take 5 evD kRz i3z (tk_loadN (b:=b6) (o:=0) (penc pl) rFz Tryz.underlying54 rfl kRz (fun w hw=>hw.2)) aQ gQ ?_
  clear hG
  refine rP 6 ?_ (y:=(yl_build2 evD evD (fun w=>run_kv k Hxk.out pl w)))
  refine rg_eff 7 evD kRz (fun K hK=>?_)
  refine eff_build1 (e:=149) (sz:=35) (by':=56) kRz h8 evD (cs:=(kvL (k,pl)).toArray) rfl (by rw [List.size_toArray,kvL_len _ Hxk.out]) dCz ?_
  intro bN wN hN
  refine hK _ _ (.inl rfl) ?_
  clear hK h8
  refine rg_eff 8 evD kRz (fun K hK=>?_)
  refine eff_app 149 35 56 kRz hN evD evD (pick_there (pick_there (pick_there pick0))) pick0 (by rw [List.size_toArray,kvL_len _ Hxk.out]) (Nat.le_refl 1) (by rw [List.toList_toArray];exact kvL_ones _) hle (by rw [List.size_toArray,kvL_len _ Hxk.out];decide) dCz (by rw [List.toList_toArray]) ?_
  intro bA nA cA wA hA
  refine hK _ _ (.inl rfl) ?_
  clear hK hN
  refine rP 9 ?_ (y:=asQ)
  refine wpL_done kRz ?_
  rw [← Htk.out]at hA
  go_wp2_with fail
  go_roundg (kv.length - (i+1))
  case measure=>have:=Hlt.out;omega
  case rel=>exact ⟨i+1,rfl,Hlt.out,by first|rfl|go_num,hA.sb⟩
end
section
variable {w0 w:World}{F:List HProp}{m K p:Nat}{M:Med}{L:Seg.Log}{n:Int}
set_option maxRecDepth 20000 in
theorem hloadY_c (hL:L.Ok) (hM:M.Ok K) (hz:M.size ByteArray.empty=(0,9)) (ht1:Hin.there M (Hin.name Hin.idx n)=true) (ht2:Hin.there M (Hin.name Hin.use n)=true)
  (kv:List (Frm.Bs×Seg.Plc)) (hk:∀ q∈kv,q.1.length=32) (us:List Rep.Use) (hoi:Bok.Ok 3 true (kv.map Rep.idxRw)) (hou:Bok.Ok 3 false (us.map Rep.useRw))
  (ha1:M.all (Hin.name Hin.idx n)=(Bok.book Xx.sum Bok.mgIdx true (kv.map Rep.idxRw),0)) (ha2:M.all (Hin.name Hin.use n)=(Bok.book Xx.sum Bok.mgUse false (us.map Rep.useRw),0))
  (hf:Hin.fits L us n=true) (hli:∀ q∈kv,Hin.lies q.2 (Hin.sizes us)=true∧IntKind.i64.wrap (Hin.sizes us q.2.seg - q.2.at_)=Hin.sizes us q.2.seg - q.2.at_) (h:Sat w0 w (LogRep p m L::MedRep m M::F)) :
  Calls Tryz.prog 16 #[ptr p,ptr m,.int .i64 n] w (Rtn fun v w'=>∃ (ps pi:Nat) (uv tv:Value),v = .tuple #[ptr ps,errno 0]∧Sat w0 w' (stPt ps n pi uv tv::TabML pi (Tab.mapOf kv) kv.length::osl 121 3 uv (us.flatMap uenc)::osl 3 1 tv (ints (L.segs.filter fun s=>decide (n<s)))::LogRep p m L::MedRep m M::F)):=by
 have h0:Sat w0 w (MedRep m M::LogRep p m L::F):=h.sb
 have hsz:=size_c hM h0 ByteArray.empty
 rw [hz]at hsz
 have hul:us.length≤1073741824:=by have:=hou.len;rw [List.length_map]at this;omega
 have HM:=uQ hM;have Ht1:=uQ ht1;have Ht2:=uQ ht2;have HL:=uQ hL;have Hk:=uQ hk;have Hoi:=uQ hoi;have Hou:=uQ hou;have Ha1:=uQ ha1;have Ha2:=uQ ha2;have Hf:=uQ hf;have Hli:=uQ hli;have Hkl:=uQ (show kv.length≤65536 by have:=hoi.len;rwa [List.length_map]at this);have Hul:=uQ hul
 clear hM hz ht1 ht2 hL hk hoi hou ha1 ha2 hf hul hli h
 go_enter Tryz.func16,Tryz.ntmps16
 go_wp2_with fail
 refine hsz.mono ?_
 rintro e w1 ⟨v,rfl,rfl,rfl⟩
 clear hsz
 go_wp2_with fail
 refine (iname_c n h0).mono ?_
 rintro e w2 ⟨v,rfl,rfl,h2⟩
 clear h0
 have hth:=hthere_c HM.out (Hin.name Hin.idx n) h2
 rw [Ht1.out]at hth
 go_wp2_with fail
 refine hth.mono ?_
 rintro e w3 ⟨v,rfl,rfl,rfl⟩
 clear hth
 go_wp2_with fail
 refine (uname_c n h2).mono ?_
 rintro e w4 ⟨v,rfl,rfl,h4⟩
 clear h2
 have hth2:=hthere_c HM.out (Hin.name Hin.use n) h4
 rw [Ht2.out]at hth2
 go_wp2_with fail
 refine hth2.mono ?_
 rintro e w5 ⟨v,rfl,rfl,rfl⟩
 clear hth2
 go_wp2_with fail
 refine (iname_c n h4).mono ?_
 rintro e w6 ⟨v,rfl,rfl,h6⟩
 clear h4
 have ha:=all_c HM.out h6 (Hin.name Hin.idx n)
 rw [Ha1.out]at ha
 go_wp2_with fail
 refine ha.mono ?_
 rintro e w7 ⟨v,rfl,bv,rfl,h7⟩
 clear ha h6
 go_wp2_with fail
 refine (uname_c n h7).mono ?_
 rintro e w8 ⟨v,rfl,rfl,h8⟩
 clear h7
 have h8':Sat w0 w8 (MedRep m M::bsl bv (Bok.book Xx.sum Bok.mgIdx true (kv.map Rep.idxRw))::LogRep p m L::F):=h8.sb
 have hb:=all_c HM.out h8' (Hin.name Hin.use n)
 rw [Ha2.out]at hb
 clear h8
 go_wp2_with fail
 refine hb.mono ?_
 rintro e w9 ⟨v,rfl,cv,rfl,h9⟩
 clear hb h8'
 have h9':Sat w0 w9 (bsl bv (Bok.book Xx.sum Bok.mgIdx true (kv.map Rep.idxRw))::bsl cv (Bok.book Xx.sum Bok.mgUse false (us.map Rep.useRw))::MedRep m M::LogRep p m L::F):=h9.sb
 clear h9
 have hri:=RS.of_bsl h9'
 obtain ⟨ba,bn,bc,rfl,_,_⟩:=hri.cap
 go_wp2_with fail
 refine (breadI_c kv Hk.out Hoi.out hri h9').mono ?_
 rintro e w10 ⟨v,rfl,iv,rfl,h10⟩
 clear h9' hri
 have h10':Sat w0 w10 (bsl cv (Bok.book Xx.sum Bok.mgUse false (us.map Rep.useRw))::osl 149 35 iv (kv.flatMap kvL)::MedRep m M::LogRep p m L::F):=h10.sb
 clear h10
 have hru:=RS.of_bsl h10'
 obtain ⟨ca,cn,cc,rfl,_,_⟩:=hru.cap
 go_wp2_with fail
 refine (breadU_c us Hou.out hru h10').mono ?_
 rintro e w11 ⟨v,rfl,uv,rfl,h11⟩
 clear h10' hru
 have h12:Sat w0 w11 (LogRep p m L::osl 121 3 uv (us.flatMap uenc)::osl 149 35 iv (kv.flatMap kvL)::MedRep m M::F):=h11.sb
 clear h11
 go_wp2_with fail
 have hft:=hfits_c (n:=n) us Hul.out HL.out (fun w hw=>Sat.rd hw) h12
 rw [Hf.out]at hft
 refine hft.mono ?_
 rintro e w13 ⟨v,rfl,rfl,h13⟩
 clear hft h12
 obtain ⟨ua,uc,rfl⟩:=osl_rows (fun u _=>uenc_len u) (Sat.rd (h13.pick (A:=osl 121 3 uv (us.flatMap uenc)) pick1)) dCz
 obtain ⟨ia,ic,rfl⟩:=osl_rows (fun q hq=>kvL_len q (Hk.out q hq)) (Sat.rd (h13.pick (A:=osl 149 35 iv (kv.flatMap kvL)) pick2)) dCz
 have HsU:=uQ (show ∀ i u,us[i]?=some u→Hin.sizes (us.take (i+1))=fun s=>if s=u.seg then u.size else Hin.sizes (us.take i) s from fun i u hu=>by rw [List.take_add_one,hu,Option.toList_some,Hin.sizes_snoc])
 have hmm:=@run_makeMap Tryz.prog
 go_wp2_with fail
 refine (newL_c h13).mono ?_
 rintro ee w14 ⟨v,rfl,pi,rfl,h14⟩
 clear h13
 go_wp2_with (with_reducible apply at_box)
 refine ⟨wl_box (cs:=#[.int .i64 n,ptr pi,.slice ua us.length uc,.slice none 0 0]) h14 rFz rFz ?_⟩
 intro ps w15 h15
 clear h14
 have h16:=imap_new h15
 go_wp2_with fail
 have hx:Sat w0 (w15.alloc (.map #[] 0)) (imap w15.heap.size (Hin.sizes (us.take 0))::stPt ps n pi (.slice ua us.length uc) (.slice none 0 0)::TabML pi (fun _=>none) 0::LogRep p m L::osl 121 3 (.slice ua us.length uc) (us.flatMap uenc)::osl 149 35 (.slice ia kv.length ic) (kv.flatMap kvL)::MedRep m M::F):=h16
 clear h15 h16 hmm
 generalize w15.heap.size=bm at *
 go_loopg [98] us.length (fun g iq wr=>∃ i:Nat,g=us.length - i∧i≤us.length∧iq = .int .i64 i ∧
  Sat w0 wr (imap bm (Hin.sizes (us.take i))::stPt ps n pi (.slice ua us.length uc) (.slice none 0 0)::TabML pi (fun _=>none) 0::LogRep p m L::osl 121 3 (.slice ua us.length uc) (us.flatMap uenc)::osl 149 35 (.slice ia kv.length ic) (kv.flatMap kvL)::MedRep m M::F))
 case atStart=>exact ⟨0,rfl,Nat.zero_le _,rfl,hx⟩
 case round=>
  obtain ⟨i,rfl,hi,rfl,hS⟩:=hrel
  clear hx
  by_cases hlt:i<us.length
  ·have c1:(i:Int)<(us.length:Int):=by omega
   have hwi:IntKind.i64.wrap ((i:Int)+1)=(i:Int)+1:=IntWalk.i64_in _ (by have:=Hul.out;omega)
   obtain ⟨u,hu⟩:∃ u,us[i]?=some u:=⟨_,List.getElem?_eq_getElem hlt⟩
   have Hlt:=uQ hlt;have Hsz:=uQ (HsU.out i u hu)
   obtain ⟨bk,off,c',hsv,hcell⟩:=osl_row (fun u _=>uenc_len u) (Sat.rd (hS.pk (A:=osl 121 3 (.slice ua us.length uc) (us.flatMap uenc)))) hu dCz
   cases hsv
   clear hi hlt hu
   go_wp2_with (first
    |((with_reducible refine at_load ⟨?_⟩);refine wl_loadW (b:=bk) (o:=off+i * 3) (uenc u) rFz hcell Tryz.underlying121 rfl kRz ?_)
    |(with_reducible apply at_alloc))
   refine ⟨wl_alloc zUse hS rfl ?_⟩
   intro b18 w18 h18
   go_wp2_with (with_reducible apply at_store)
   refine ⟨wl_storeA (uenc u).toArray h18 rFz rFz rFz upd0 kRz rFz ?_⟩
   intro w19 h19
   clear h18 hS hcell
   obtain ⟨w20,hup,h20⟩:=imap_store u.seg u.size (h19.pick (pick_there pick0))
   have f0:w19.cell? ⟨b18,0,none⟩=some (.int .i64 u.seg):=h19.cellP pick0 0 rfl
   have f1:w19.cell? ⟨b18,1,none⟩=some (.int .i64 u.size):=h19.cellP pick0 1 rfl
   rw [← Hsz.out]at h20
   go_wp2_with fail
   go_roundg (us.length - (i+1))
   case measure=>have:=Hlt.out;omega
   case rel=>exact ⟨i+1,rfl,Nat.succ_le_of_lt Hlt.out,by first|rfl|go_num,h20.sb⟩
  ·have c1:¬ (i:Int)<(us.length:Int):=by omega
   obtain rfl:i=us.length:=by omega
   rw [List.take_length]at hS
   clear hlt hi HsU
   have hy:Sat w0 wr (imap bm (Hin.sizes us)::stPt ps n pi (.slice ua us.length uc) (.slice none 0 0)::TabML pi (Tab.mapOf (kv.take 0)) 0::LogRep p m L::osl 121 3 (.slice ua us.length uc) (us.flatMap uenc)::osl 149 35 (.slice ia kv.length ic) (kv.flatMap kvL)::MedRep m M::F):=hS
   clear hS
   go_wp2_with fail
   go_loopg [110] kv.length (fun g iq wr=>∃ i:Nat,g=kv.length - i∧i≤kv.length∧iq = .int .i64 i ∧
    Sat w0 wr (imap bm (Hin.sizes us)::stPt ps n pi (.slice ua us.length uc) (.slice none 0 0)::TabML pi (Tab.mapOf (kv.take i)) i::LogRep p m L::osl 121 3 (.slice ua us.length uc) (us.flatMap uenc)::osl 149 35 (.slice ia kv.length ic) (kv.flatMap kvL)::MedRep m M::F))
   case atStart=>exact ⟨0,rfl,Nat.zero_le _,rfl,hy⟩
   case round=>
    obtain ⟨i,rfl,hi,rfl,hS⟩:=hrel
    clear hy
    by_cases hlt:i<kv.length
    ·have c1:(i:Int)<(kv.length:Int):=by omega
     have hwi:IntKind.i64.wrap ((i:Int)+1)=(i:Int)+1:=IntWalk.i64_in _ (by have:=Hkl.out;omega)
     obtain ⟨q,hq⟩:∃ q,kv[i]?=some q:=⟨_,List.getElem?_eq_getElem hlt⟩
     have hqm:=List.mem_of_getElem? hq
     have Hlt:=uQ hlt
     have Hput:=uQ (show Tab.mapOf (kv.take (i+1))=Tab.put (Tab.mapOf (kv.take i)) q.1 q.2 by rw [List.take_add_one,hq,Option.toList_some,Tab.mapOf_snoc])
     obtain ⟨bk,off,c',hsv,hcell⟩:=osl_row (fun q hq=>kvL_len q (Hk.out q hq)) (Sat.rd (hS.pk (A:=osl 149 35 (.slice ia kv.length ic) (kv.flatMap kvL)))) hq dCz
     cases hsv
     have Hq:=uQ (Hk.out q hqm)
     have hly:=Hli.out q hqm
     have Hly:=uQ hly
     have Hkq:=uQ (kvL_len q Hq.out)
     clear hi hlt hq hqm hly
     go_wp2_with (first
      |((with_reducible refine at_load ⟨?_⟩);refine wl_loadW (b:=bk) (o:=off+i * 35) (kvL q) rFz hcell Tryz.underlying149 rfl (by rw [Hkq.out];kernel_rfl) ?_)
      |(with_reducible apply at_alloc))
     refine ⟨wl_alloc zKv hS rfl ?_⟩
     intro b20 w20 h20
     go_wp2_with (with_reducible apply at_store)
     refine ⟨wl_storeA (kvL q).toArray h20 rFz rFz (by rw [List.size_toArray,Hkq.out];rfl) upd0 (by rw [List.size_toArray,Hkq.out];kernel_rfl) (by rw [List.toList_toArray];exact kvL_ones _) ?_⟩
     intro w21 h21
     clear h20 hS hcell
     have hra:w21.rangeAt b20 0 (bys q.1):=fun j v hj=>by
      refine h21.cellP pick0 (0+j) ?_
      rw [List.getElem?_toArray,Nat.zero_add]
      unfold kvL
      rw [List.getElem?_append_left (List.getElem?_eq_some_iff.1 hj).1];exact hj
     have hrp:w21.rangeAt b20 32 (penc q.2):=fun j v hj=>by
      refine h21.cellP pick0 (32+j) ?_
      rw [List.getElem?_toArray]
      unfold kvL
      rw [List.getElem?_append_right (by rw [bys_len,Hq.out];omega),bys_len,Hq.out,Nat.add_sub_cancel_left];exact hj
     go_wp2_with ((with_reducible refine at_load ⟨?_⟩);refine wl_loadW (b:=b20) (o:=32) (penc q.2) rFz hrp Tryz.underlying54 rfl kRz ?_)
     refine (hlies_c q.2 Hly.out.2 (h21.pk (A:=imap bm (Hin.sizes us)))).mono ?_
     rintro ee w22 ⟨v,rfl,rfl,h22⟩
     rw [Hly.out.1]
     clear hra hrp h21
     have h23:=h22.drew
     clear h22
     have hG:w22.drew.cell? ⟨ps,1,none⟩=some (ptr pi)∧w22.drew.rangeAt b20 0 (bys q.1)∧w22.drew.rangeAt b20 32 (penc q.2):=by
      refine ⟨h23.cellP (pick_there pick1) 1 rfl,fun j v hj=>?_,fun j v hj=>?_⟩
      ·refine h23.cellP pick1 (0+j) ?_
       rw [List.getElem?_toArray,Nat.zero_add]
       unfold kvL
       rw [List.getElem?_append_left (List.getElem?_eq_some_iff.1 hj).1];exact hj
      ·refine h23.cellP pick1 (32+j) ?_
       rw [List.getElem?_toArray]
       unfold kvL
       rw [List.getElem?_append_right (by rw [bys_len,Hq.out];omega),bys_len,Hq.out,Nat.add_sub_cancel_left];exact hj
     go_wp2_with fail
     refine wpL_begin [8] (fun w'=>w'.cell? ⟨ps,1,none⟩=some (ptr pi)∧w'.rangeAt b20 0 (bys q.1)∧w'.rangeAt b20 32 (penc q.2)) kRz ?_
     refine rP 0 ?_ (y:=mvQ)
     refine rP 1 ?_ (y:=nlQ)
     refine rP 2 ?_ (y:=flQ)
     refine rt 3 (h:=?_)
     refine rP 4 ?_ (y:=flQ)
     refine rg_take 5 evD kRz i3z (tk_loadN (b:=b20) (o:=0) (bys q.1) rFz Tryz.underlying24 rfl (by rw [bys_len,Hq.out];kernel_rfl) (fun w hw=>hw.2.1)) aQ gQ ?_
     refine rP 6 ?_ (y:=flQ)
     refine rg_take 7 evD kRz i3z (tk_loadN (b:=b20) (o:=32) (penc q.2) rFz Tryz.underlying54 rfl kRz (fun w hw=>hw.2.2)) aQ gQ ?_
     clear hG
     have hp:=putL_c (B:=i) (p:=pi) (by have:=Hlt.out;have:=Hkl.out;omega) Hq.out q.2 (h23.pk (A:=TabML pi (Tab.mapOf (kv.take i)) i))
     clear h23
     refine rg_eff 8 evD kRz (fun K' hK'=>?_)
     (refine eff_call3 kRz evD evD evD ?_)
     refine hp.mono ?_
     rintro ee w24 ⟨v,rfl,h24⟩
     refine hK' _ _ (.inl rfl) ?_
     clear hK' hp
     refine wpL_done kRz ?_
     rw [← Hput.out]at h24
     go_wp2_with fail
     go_roundg (kv.length - (i+1))
     case measure=>have:=Hlt.out;omega
     case rel=>exact ⟨i+1,rfl,Nat.succ_le_of_lt Hlt.out,by first|rfl|go_num,h24.sb⟩
    ·have c1:¬ (i:Int)<(kv.length:Int):=by omega
     obtain rfl:i=kv.length:=by omega
     rw [List.take_length]at hS
     clear hlt hi
     have hsl:L.segs.length≤1073741824:=by unfold Seg.Log.segs;rw [List.length_map];have:=HL.out.len;omega
     have Hsl:=uQ hsl
     clear hsl
     go_wp2_with fail
     refine (lsegs_c HL.out (hS.pk (A:=LogRep p m L))).mono ?_
     rintro ee w30 ⟨v,rfl,h30⟩
     obtain ⟨sa,sn,sc,rfl,hl9,_⟩:=Sat.rd h30
     have hlen9:sn=L.segs.length:=by
      rw [show (ints L.segs).length=L.segs.length from List.length_map ..]at hl9;omega
     subst hlen9
     clear hl9 hS
     have h31:Sat w0 w30 (stPt ps n pi (.slice ua us.length uc) (.slice none 0 0)::osl 3 1 (.slice none 0 0) (ints ((L.segs.take 0).filter fun s=>decide (n<s)))::TabML pi (Tab.mapOf kv) kv.length::osl 3 1 (.slice sa L.segs.length sc) (ints L.segs)::LogRep p m L::osl 121 3 (.slice ua us.length uc) (us.flatMap uenc)::MedRep m M::F):=
      (Sat.osl_nil.2 h30).sb
     clear h30
     go_wp2_with fail
     go_loopg [132] L.segs.length (fun g iq wr=>∃ (i:Nat) (tv:Value),g=L.segs.length - i∧i≤L.segs.length∧iq = .int .i64 i ∧
      Sat w0 wr (stPt ps n pi (.slice ua us.length uc) tv::osl 3 1 tv (ints ((L.segs.take i).filter fun s=>decide (n<s)))::TabML pi (Tab.mapOf kv) kv.length::osl 3 1 (.slice sa L.segs.length sc) (ints L.segs)::LogRep p m L::osl 121 3 (.slice ua us.length uc) (us.flatMap uenc)::MedRep m M::F))
     case atStart=>exact ⟨0,_,rfl,Nat.zero_le _,rfl,h31⟩
     case round=>
      obtain ⟨i,tv,rfl,hi,rfl,hS⟩:=hrel
      clear h31
      by_cases hlt:i<L.segs.length
      ·have c1:(i:Int)<(L.segs.length:Int):=by omega
       have hwi:IntKind.i64.wrap ((i:Int)+1)=(i:Int)+1:=IntWalk.i64_in _ (by have:=Hsl.out;omega)
       obtain ⟨s,hs⟩:∃ s,L.segs[i]?=some s:=⟨_,List.getElem?_eq_getElem hlt⟩
       have Hlt:=uQ hlt
       have Htk:=uQ (show L.segs.take (i+1)=L.segs.take i++[s] by rw [List.take_add_one,hs];rfl)
       obtain ⟨bk,off,cc,hsv,f0⟩:=ints_cell (Sat.rd (hS.pk (A:=osl 3 1 (.slice sa L.segs.length sc) (ints L.segs)))) hs
       cases hsv
       clear hi hlt hs
       by_cases hgt:n<s
       ·have Hfl:=uQ (show ints ((L.segs.take (i+1)).filter fun s=>decide (n<s))=ints ((L.segs.take i).filter fun s=>decide (n<s))++[.int .i64 s] by
         rw [Htk.out,List.filter_append]
         unfold ints
         rw [List.map_append]
         simp [hgt])
        have hil:(ints ((L.segs.take i).filter fun s=>decide (n<s))).length≤2147483648:=by
         unfold ints
         rw [List.length_map]
         have h1:=List.length_filter_le (fun s=>decide (n<s)) (L.segs.take i)
         have h2:=List.length_take_le' i L.segs
         have:=Hsl.out
         omega
        have e3:wr.cell? ⟨ps,3,none⟩=some tv:=hS.cellP pick0 3 rfl
        go_wp2_with (with_reducible apply at_build1)
        refine ⟨wl_build1 (e:=3) (sz:=1) (by':=8) kRz hS evD (cs:=#[.int .i64 s]) rfl rfl dCz ?_⟩
        intro b41 w41 h41
        go_wp2_with (with_reducible apply at_append)
        refine ⟨wl_app 3 1 8 kRz h41 rFz rFz (pick_there (pick_there pick0)) pick0 rfl (Nat.le_refl 1) rFz hil (by show 1≤65536;decide) dCz rfl ?_⟩
        intro bA nA cA w42 h42
        clear e3 hil
        go_wp2_with (with_reducible apply at_store)
        refine ⟨wl_store (cs':=#[.int .i64 n,ptr pi,.slice ua us.length uc,.slice (some ⟨bA,0,none⟩) nA cA]) h42 rFz evD rFz (upd_there upd0) nLz kRz rFz ?_⟩
        intro w43 h43
        have h44:Sat w0 w43 (stPt ps n pi (.slice ua us.length uc) (.slice (some ⟨bA,0,none⟩) nA cA)::osl 3 1 (.slice (some ⟨bA,0,none⟩) nA cA) (ints ((L.segs.take (i+1)).filter fun s=>decide (n<s)))::TabML pi (Tab.mapOf kv) kv.length::osl 3 1 (.slice (some ⟨bk,off,none⟩) L.segs.length sc) (ints L.segs)::LogRep p m L::osl 121 3 (.slice ua us.length uc) (us.flatMap uenc)::MedRep m M::F):=by
         rw [Hfl.out]
         exact h43.sb
        clear h41 h42 h43 hS f0
        go_wp2_with fail
        go_roundg (L.segs.length - (i+1))
        case measure=>have:=Hlt.out;omega
        case rel=>exact ⟨i+1,_,rfl,Nat.succ_le_of_lt Hlt.out,by first|rfl|go_num,h44⟩
       ·have Hfl:=uQ (show ints ((L.segs.take (i+1)).filter fun s=>decide (n<s))=ints ((L.segs.take i).filter fun s=>decide (n<s)) by
         rw [Htk.out,List.filter_append]
         simp [hgt])
        have hgt':¬ s>n:=hgt
        go_wp2_with fail
        go_roundg (L.segs.length - (i+1))
        case measure=>have:=Hlt.out;omega
        case rel=>exact ⟨i+1,tv,rfl,Nat.succ_le_of_lt Hlt.out,by first|rfl|go_num,by rw [Hfl.out];exact hS⟩
      ·have c1:¬ (i:Int)<(L.segs.length:Int):=by omega
       obtain rfl:i=L.segs.length:=by omega
       rw [List.take_length]at hS
       clear hlt hi
       go_wp2_with fail
       go_ret2
       exact ⟨_,rfl,ps,rfl,pi,_,tv,hS.sb⟩
end
def twoS (s1 p1 s2 p2:Nat) (n:Int) (uv1 tv1 uv2 tv2:Value) (kv:List (Frm.Bs×Seg.Plc)) (us:List Rep.Use) (B1 B2:Nat) (F:List HProp):List HProp:=
 stPt s1 n p1 uv1 tv1::TabML p1 (Tab.mapOf kv) B1::osl 121 3 uv1 (us.flatMap uenc)::stPt s2 n p2 uv2 tv2::TabML p2 (Tab.mapOf kv) B2::osl 121 3 uv2 (us.flatMap uenc)::F
section
variable {w0 w:World}{F:List HProp}{s1 p1 s2 p2 B1 B2:Nat}{n:Int}{uv1 tv1 uv2 tv2:Value}{kv:List (Frm.Bs×Seg.Plc)}{us:List Rep.Use}
set_option maxRecDepth 20000 in
theorem same16_c (hri:kv.Pairwise fun a b=>a.1<b.1) (hk:∀ q∈kv,q.1.length=32) (hkl:kv.length≤1073741824) (hul:us.length≤1073741824) (hB1:B1≤13000000) (hB2:B2≤13000000) (ts:List Int) (htl:ts.length≤9223372036854775807)
  (ht1:Ro w0 (twoS s1 p1 s2 p2 n uv1 tv1 uv2 tv2 kv us B1 B2 F) (rdsl 1 tv1 (ints ts))) (ht2:Ro w0 (twoS s1 p1 s2 p2 n uv1 tv1 uv2 tv2 kv us B1 B2 F) (rdsl 1 tv2 (ints ts)))
  (h:Sat w0 w (twoS s1 p1 s2 p2 n uv1 tv1 uv2 tv2 kv us B1 B2 F)) :
  Calls Tryz.prog 21 #[ptr s1,ptr s2] w (Rtn fun v w'=>v = .bool true∧Sat w0 w' (twoS s1 p1 s2 p2 n uv1 tv1 uv2 tv2 kv us B1 B2 F)):=by
 have HG:=uQ (fun (w':World) (hw:Sat w0 w' (twoS s1 p1 s2 p2 n uv1 tv1 uv2 tv2 kv us B1 B2 F))=>show w'.cell? ⟨s1,0,none⟩=some (.int .i64 n)∧w'.cell? ⟨s1,1,none⟩=some (ptr p1)∧w'.cell? ⟨s1,2,none⟩=some uv1∧w'.cell? ⟨s1,3,none⟩=some tv1 ∧
   w'.cell? ⟨s2,0,none⟩=some (.int .i64 n)∧w'.cell? ⟨s2,1,none⟩=some (ptr p2)∧w'.cell? ⟨s2,2,none⟩=some uv2∧w'.cell? ⟨s2,3,none⟩=some tv2 from
  have h1:Sat w0 w' (stPt s1 n p1 uv1 tv1::TabML p1 (Tab.mapOf kv) B1::osl 121 3 uv1 (us.flatMap uenc)::stPt s2 n p2 uv2 tv2::TabML p2 (Tab.mapOf kv) B2::osl 121 3 uv2 (us.flatMap uenc)::F):=hw
  ⟨h1.cellP pick0 0 rfl,h1.cellP pick0 1 rfl,h1.cellP pick0 2 rfl,h1.cellP pick0 3 rfl,h1.cellP (pick_there (pick_there (pick_there pick0))) 0 rfl,h1.cellP (pick_there (pick_there (pick_there pick0))) 1 rfl,h1.cellP (pick_there (pick_there (pick_there pick0))) 2 rfl,h1.cellP (pick_there (pick_there (pick_there pick0))) 3 rfl⟩)
 have HL:=uQ (Tab.mapOf_lists hri)
 have HR1:=uQ (fun (w':World) (hw:Sat w0 w' (twoS s1 p1 s2 p2 n uv1 tv1 uv2 tv2 kv us B1 B2 F))=>show Calls Tryz.prog 26 #[ptr p1] w' (Rtn fun v w''=>Sat w0 w'' (osl 149 35 v (kv.flatMap kvL)::twoS s1 p1 s2 p2 n uv1 tv1 uv2 tv2 kv us B1 B2 F)) from by
  unfold twoS at hw ⊢
  refine (rows16_c hB1 (hw.sb:Sat w0 w' (TabML p1 (Tab.mapOf kv) B1::stPt s1 n p1 uv1 tv1::osl 121 3 uv1 (us.flatMap uenc)::stPt s2 n p2 uv2 tv2::TabML p2 (Tab.mapOf kv) B2::osl 121 3 uv2 (us.flatMap uenc)::F))).mono ?_
  rintro e w'' ⟨v,rfl,kv',⟨hl,_,_⟩,hS⟩
  rw [Tab.Lists.unique hl (Tab.mapOf_lists hri)]at hS
  exact ⟨v,rfl,hS.sb⟩)
 have HR2:=uQ (fun (w':World) (G:List HProp) (hw:Sat w0 w' (G++twoS s1 p1 s2 p2 n uv1 tv1 uv2 tv2 kv us B1 B2 F))=>True.intro)
 clear HR2
 have HR2:=uQ (fun (w':World) (G:HProp) (hw:Sat w0 w' (G::twoS s1 p1 s2 p2 n uv1 tv1 uv2 tv2 kv us B1 B2 F))=>show Calls Tryz.prog 26 #[ptr p2] w' (Rtn fun v w''=>Sat w0 w'' (osl 149 35 v (kv.flatMap kvL)::G::twoS s1 p1 s2 p2 n uv1 tv1 uv2 tv2 kv us B1 B2 F)) from by
  unfold twoS at hw ⊢
  refine (rows16_c hB2 (hw.sb:Sat w0 w' (TabML p2 (Tab.mapOf kv) B2::G::stPt s1 n p1 uv1 tv1::TabML p1 (Tab.mapOf kv) B1::osl 121 3 uv1 (us.flatMap uenc)::stPt s2 n p2 uv2 tv2::osl 121 3 uv2 (us.flatMap uenc)::F))).mono ?_
  rintro e w'' ⟨v,rfl,kv',⟨hl,_,_⟩,hS⟩
  rw [Tab.Lists.unique hl (Tab.mapOf_lists hri)]at hS
  exact ⟨v,rfl,hS.sb⟩)
 have HU:=uQ (fun (w':World) (hw:Sat w0 w' (twoS s1 p1 s2 p2 n uv1 tv1 uv2 tv2 kv us B1 B2 F))=>show Calls Tryz.prog 27 #[uv1,uv2] w' (Rtn fun v w''=>v = .bool true∧Sat w0 w'' (twoS s1 p1 s2 p2 n uv1 tv1 uv2 tv2 kv us B1 B2 F)) from
  sameUses_c us (fun w hw=>Sat.rd (show Sat w0 w (osl 121 3 uv1 (us.flatMap uenc)::F) by unfold twoS at hw;exact hw.sb)) (fun w hw=>Sat.rd (show Sat w0 w (osl 121 3 uv2 (us.flatMap uenc)::F) by unfold twoS at hw;exact hw.sb)) hw hul)
 have HI:=uQ (fun (w':World) (hw:Sat w0 w' (twoS s1 p1 s2 p2 n uv1 tv1 uv2 tv2 kv us B1 B2 F))=>sameInts_c ts ht1 ht2 hw htl)
 have Hk:=uQ hk;have Hkl:=uQ hkl
 clear hri hk hkl hul hB1 hB2 ht1 ht2 htl HL
 generalize twoS s1 p1 s2 p2 n uv1 tv1 uv2 tv2 kv us B1 B2 F=T at *
 go_enter Tryz.func21,Tryz.ntmps21
 go_wp2_with fail
 have hSd:=h.drew
 have hG:=HG.out _ hSd
 refine wpL_begin [42,43,44] (fun w'=>w'.cell? ⟨s1,0,none⟩=some (.int .i64 n)∧w'.cell? ⟨s1,1,none⟩=some (ptr p1)∧w'.cell? ⟨s1,2,none⟩=some uv1∧w'.cell? ⟨s1,3,none⟩=some tv1∧w'.cell? ⟨s2,0,none⟩=some (.int .i64 n)∧w'.cell? ⟨s2,1,none⟩=some (ptr p2)∧w'.cell? ⟨s2,2,none⟩=some uv2∧w'.cell? ⟨s2,3,none⟩=some tv2) kRz ?_
 refine rP 0 ?_ (y:=mvQ)
 refine rP 1 ?_ (y:=nlQ)
 refine rP 2 ?_ (y:=flQ)
 refine rt 3 (h:=?_)
 refine rP 4 ?_ (y:=mvQ)
 refine rP 5 ?_ (y:=nlQ)
 refine rP 6 ?_ (y:=flQ)
 refine rt 7 (h:=?_)
 refine rP 8 ?_ (y:=bnQ)
 refine rP 9 ?_ (y:=mvQ)
 refine rP 10 ?_ (y:=(yg_move rFz evD))
 refine rP 11 ?_ (y:=(yg_nil rFz evD))
 refine rP 12 ?_ (y:=(yg_field rFz evD rnD))
 refine rg_take 13 evD kRz i3z (tg_load rFz evD kRz (by intro wq hq;first|exact hq|exact hq.1|exact hq.2|exact hq.2.1|exact hq.2.2|exact hq.2.2.1|exact hq.2.2.2|exact hq.2.2.2.1|exact hq.2.2.2.2)) aQ gQ ?_
 refine rP 15 ?_ (y:=(yg_move rFz evD))
 refine rP 16 ?_ (y:=(yg_nil rFz evD))
 refine rP 17 ?_ (y:=(yg_field rFz evD rnD))
 refine rg_take 18 evD kRz i3z (tg_load rFz evD kRz (fun wq hq=>hq.2.2.2.2.2.1)) aQ gQ ?_
 clear hG
 refine rg_eff 14 evD kRz (fun K hK=>?_)
 refine eg_call [ptr p1] rFz kRz rFz ?_
 refine (HR1.out _ hSd).mono ?_
 rintro e w14 ⟨v,rfl,h14⟩
 refine hK _ _ (.inr (.inl (HG.out _ h14.drop))) ?_
 clear hK hSd
 have hG:=HG.out _ h14.drop
 clear hG
 refine rg_eff 19 evD kRz (fun K hK=>?_)
 refine eg_call [ptr p2] rFz kRz rFz ?_
 refine (HR2.out _ _ h14).mono ?_
 rintro e w19 ⟨v2,rfl,h19⟩
 refine hK _ _ (.inr (.inl (HG.out _ h19.drop.drop))) ?_
 clear hK h14
 refine rg_eff 20 evD kRz (fun K hK=>?_)
 refine eg_call [v,v2] rFz kRz rFz ?_
 refine (sameIndex_c kv Hk.out (fun w hw=>Sat.rd hw.drop) (fun w hw=>Sat.rd hw) h19 Hkl.out).mono ?_
 rintro e w20 ⟨v3,rfl,rfl,h20⟩
 have h21:=h20.drop.drop
 clear h19 h20
 refine hK _ _ (.inr (.inl (HG.out _ h21))) ?_
 clear hK
 have hG:=HG.out _ h21
 refine rP 21 ?_ (y:=(yg_pick rFz evD evD))
 refine rP 22 ?_ (y:=mvQ)
 refine rP 23 ?_ (y:=(yg_move rFz evD))
 refine rP 24 ?_ (y:=(yg_nil rFz evD))
 refine rP 25 ?_ (y:=(yg_field rFz evD rnD))
 refine rg_take 26 evD kRz i3z (tg_load rFz evD kRz (fun wq hq=>hq.2.2.1)) aQ gQ ?_
 refine rP 27 ?_ (y:=(yg_move rFz evD))
 refine rP 28 ?_ (y:=(yg_nil rFz evD))
 refine rP 29 ?_ (y:=(yg_field rFz evD rnD))
 refine rg_take 30 evD kRz i3z (tg_load rFz evD kRz (fun wq hq=>hq.2.2.2.2.2.2.1)) aQ gQ ?_
 clear hG
 refine rg_eff 31 evD kRz (fun K hK=>?_)
 refine eg_call [uv1,uv2] rFz kRz rFz ?_
 refine (HU.out _ h21).mono ?_
 rintro e w31 ⟨v4,rfl,rfl,h31⟩
 clear h21
 refine hK _ _ (.inr (.inl (HG.out _ h31))) ?_
 clear hK
 have hG:=HG.out _ h31
 refine rP 32 ?_ (y:=(yg_pick rFz evD evD))
 refine rP 33 ?_ (y:=mvQ)
 refine rP 34 ?_ (y:=(yg_move rFz evD))
 refine rP 35 ?_ (y:=(yg_nil rFz evD))
 refine rP 36 ?_ (y:=(yg_field rFz evD rnD))
 refine rg_take 37 evD kRz i3z (tg_load rFz evD kRz (fun wq hq=>hq.2.2.2.1)) aQ gQ ?_
 refine rP 38 ?_ (y:=(yg_move rFz evD))
 refine rP 39 ?_ (y:=(yg_nil rFz evD))
 refine rP 40 ?_ (y:=(yg_field rFz evD rnD))
 refine rg_take 41 evD kRz i3z (tg_load rFz evD kRz (fun wq hq=>hq.2.2.2.2.2.2.2)) aQ gQ ?_
 clear hG
 refine rg_eff 42 evD kRz (fun K hK=>?_)
 refine eg_call [tv1,tv2] rFz kRz rFz ?_
 refine (HI.out _ h31).mono ?_
 rintro e w42 ⟨v5,rfl,rfl,h42⟩
 clear h31
 refine hK _ _ (.inl rfl) ?_
 clear hK
 refine rP 43 ?_ (y:=(yg_pick rFz evD evD))
 refine rP 44 ?_ (y:=asQ)
 refine wpL_done kRz ?_
 try simp only [ayQ]
 try go_frame
 go_wp2_with fail
 go_ret
 exact ⟨_,rfl,rfl,h42⟩
end
end Go.Proofs.YtlinnpehkfbnkaaGreatDoor
namespace Go.Hin
open Go.Med
open Go.Seg (Log Keeps Holds HG DoneH HintOk mag Plc)
open Go.Frm (Fnd encs GoodE fnds Ent)
open Go.Rep (Use)
section
variable {n K r E B c:Nat}{L:Log}{M M':Med}{C:List (List Ent)}{N:Int}{us:List Use}{ps:List (Bs×Plc)}{b1 b2:Frm.Bs}
theorem HintOk.lies (h:HintOk L c us ps) (hL:L.Ok):∀ q∈ps,Hin.lies q.2 (Hin.sizes us)=true∧IntKind.i64.wrap (Hin.sizes us q.2.seg - q.2.at_)=Hin.sizes us q.2.seg - q.2.at_:=fun q hq=>by
 obtain ⟨p1,p2,p3,p4⟩:=h.plc q hq
 have hz:=HintOk.size h p4
 have hnd:(us.map (·.seg)).Nodup:=by
  rw [h.segs]
  exact (((Seg.segs_rise hL).sublist (List.take_sublist _ _)).imp fun {a b} hab=>by omega)
 have hm:q.2.seg∈us.map (·.seg):=by rw [h.segs];exact p4
 obtain ⟨u,hu,he⟩:=List.mem_map.1 hm
 obtain ⟨_,_,u3,_⟩:=h.use u hu
 have hs:Hin.sizes us q.2.seg=L.size q.2.seg:=by rw [← he,sizes_at hnd hu,u3]
 rw [hs]
 refine ⟨?_,IntWalk.i64_in _ oQ⟩
 unfold Hin.lies
 rw [decide_eq_true p1,decide_eq_true p2,hs,decide_eq_true (by omega:q.2.size≤L.size q.2.seg - q.2.at_)]
 rfl
end
section
variable {n K r E B c:Nat}{L:Log}{M M':Med}{C:List (List Ent)}{N:Int}{us:List Use}{ps:List (Bs×Plc)}{b1 b2:Frm.Bs}
theorem DoneH.le (h:DoneH n L M C) (hN:N=(C.length:Int) - 1):∀ s∈L.segs,s≤N:=fun s hs=>by
 obtain ⟨h1,h2⟩:=h.holds.segs
 obtain ⟨j,hj⟩:=List.getElem?_of_mem hs
 have hjl:j<C.length:=by rw [← h1];exact (List.getElem?_eq_some_iff.1 hj).1
 have hj2:=h2 j hjl
 rw [hj]at hj2
 cases hj2
 omega
end
section
variable {n K:Nat}{T:Kept}{s1 s2:ByteArray}{L:Log}{M M':Med}{C:List (List Ent)}{N:Int}{us:List Use}{ps:List (Bs×Plc)}{b1 b2:Frm.Bs}
theorem sv_arm (h:Sv T s1 b1 s2 b2 K M) (a:Int) (ha:a≤9223372036854775807):Sv T s1 b1 s2 b2 K (M.arm a).1:=by
 have e:(M.arm a).1.fast=M.fast∧(M.arm a).1.waits=M.waits∧(M.arm a).1.files=M.files:=by
  unfold Med.arm
  split;· exact ⟨rfl,rfl,rfl⟩
  split <;> exact ⟨rfl,rfl,rfl⟩
 exact h.like (h.ok.arm a ha) e.1 e.2.1 e.2.2
theorem arm_zero (ho:M.off=false){a:Int} (ha:0≤a):(M.arm a).2=0:=by
 unfold Med.arm
 rw [ho,if_neg dCz,if_neg oQ]
theorem sv_others (h:DoneH n L M C) (sv:Sv (keptOf L M) (name idx N) b1 (name use N) b2 K M') (h1:0≤N) (h2:N<1048576) :
  ∀ f∈(write (write M' (name idx N) b1).1 (name use N) b2).1.syncDir.1.list,other N f=false∧f.size≤4000000000:=by
 have hh:=h.holds.keeps.has
 have hc:=kept_cf (N:=N) hh h.holds.keeps.calm.ok.nowOk.ne h1 h2
 have ho:=kept_other (N:=N) hh h1 h2
 have hsz:∀ ld:ByteArray,ld.data.toList.length=4→(name ld N).size=12:=fun ld hl=>by
  show (name ld N).data.size=12
  rw [← Array.length_toList,name_eq ld N h1 h2,List.length_append,hl,Seg.digs_len]
 obtain ⟨w1,_⟩:=sv.write hc (.inl ⟨rfl,rfl⟩)
 obtain ⟨w2,_⟩:=w1.write hc (.inr ⟨rfl,rfl⟩)
 obtain ⟨d1,_,_⟩:=w2.syncDir
 intro f hf
 have hf2:∃ p∈(write (write M' (name idx N) b1).1 (name use N) b2).1.syncDir.1.now,p.1=f:=by
  unfold Med.list at hf
  split at hf
  ·cases hf
  ·obtain ⟨p,hp,rfl⟩:=List.mem_map.1 hf
   exact ⟨p,hp,rfl⟩
 obtain ⟨p,hp,rfl⟩:=hf2
 have hon:=d1.now.only p hp
 refine ⟨ho p.1 hon,?_⟩
 rcases hon with ⟨t,ht,e⟩|e|e|e
 ·obtain ⟨x,hx,i,hi,rfl⟩:=kept_mem ht hh
  simp only at e
  rw [e]
  rcases seg_name x.1 with z|⟨z,_⟩
  ·rw [z];decide
  ·rw [z];decide
 ·rw [e];decide
 ·rw [e,hsz idx rfl];decide
 ·rw [e,hsz use rfl];decide
theorem sv_loads (h:DoneH n L M C) (hn:n≤100) (sv:Sv (keptOf L M) (name idx N) b1 (name use N) b2 K M') (h1:0≤N) (h2:N<1048576) (hN:N=(C.length:Int) - 1) (ho:HintOk L C.length us ps)
  (lim:Int) (l1:128≤lim) (l2:lim≤1048576) (cr:List Int) :
  (save M' N b1 b2).1.Ok (K+10)∧((save M' N b1 b2).1.crash cr).Ok (K+10)∧((save M' N b1 b2).1.crash cr).off=false∧fits (Seg.fresh ((save M' N b1 b2).1.crash cr) lim) us N=true∧((Seg.fresh ((save M' N b1 b2).1.crash cr) lim).segs.filter fun s=>decide (N<s))=[] ∧
   ((there ((save M' N b1 b2).1.crash cr) (name idx N)=true∧there ((save M' N b1 b2).1.crash cr) (name use N)=true∧((save M' N b1 b2).1.crash cr).all (name idx N)=(b1,0)∧((save M' N b1 b2).1.crash cr).all (name use N)=(b2,0)) ∨
    ((there ((save M' N b1 b2).1.crash cr) (name idx N)=false∨there ((save M' N b1 b2).1.crash cr) (name use N)=false)∧(save M' N b1 b2).2≠0)):=by
 have hh:=h.holds.keeps.has
 have hc:=kept_cf (N:=N) hh h.holds.keeps.calm.ok.nowOk.ne h1 h2
 have hko:=kept_other (N:=N) hh h1 h2
 obtain ⟨_,hfl⟩:=DoneH.sv h oQ h1 h2 b1 b2
 obtain ⟨s1,s2⟩:=sv.save rfl rfl hc hko
 generalize (save M' N b1 b2).1=M3 at *
 generalize (save M' N b1 b2).2=e3 at *
 obtain ⟨a1,a2⟩:=Sv.anew h oQ s1 h1 h2 cr
 obtain ⟨c1,c2⟩:=s1.crash hfl cr
 have hok:=s1.ok.crash cr
 obtain ⟨f1,_,_⟩:=Anew.fits a1 hok h.holds.keeps.log lim l1 l2 ho (DoneH.taken h) (by rw [hN];exact (DoneH.lastOf h).2)
 refine ⟨s1.ok,hok,a1.off,f1,?_,?_⟩
 ·rw [List.filter_eq_nil_iff]
  intro s hs
  have:=DoneH.le h hN s (a2 s hs)
  simp;omega
 ·have q:Quiet (M3.crash cr):=Quiet.crash M3 cr
  cases hi:nget (M3.crash cr).now (name idx N) with
  |none=>
   refine .inr ⟨.inl (there_none q hi),fun e=>?_⟩
   obtain ⟨⟨i,hi2⟩,_,hw⟩:=s2 e
   rw [crash_has cr hw s1.ok hi2]at hi
   cases hi
  |some i=>
   cases hj:nget (M3.crash cr).now (name use N) with
   |none=>
    refine .inr ⟨.inr (there_none q hj),fun e=>?_⟩
    obtain ⟨_,⟨j,hj2⟩,hw⟩:=s2 e
    rw [crash_has cr hw s1.ok hj2]at hj
    cases hj
   |some j=>
    refine .inl ⟨there_some q hi,there_some q hj,?_,?_⟩
    ·rw [Seg.all_some q hi,c1.now.one i hi]
    ·rw [Seg.all_some q hj,c1.now.two j hj]
theorem DoneH.ahead (h:DoneH n L M C) (hn:n≤100) (h1:0≤N) (h2:N<1048576) (hb:b1.length+b2.length≤100000) :
  (Sv (keptOf L M) (name idx N) b1 (name use N) b2 (n * 5) M∧M.off=false)∧Sv (keptOf L M) (name idx N) b1 (name use N) b2 (n * 5+10) (save M N b1 b2).1∧(save M N b1 b2).1.off=false∧(save M N b1 b2).2=0:=by
 have s:=DoneH.saved h hn h1 h2 hb
 exact ⟨⟨(DoneH.sv h oQ h1 h2 b1 b2).1,h.holds.keeps.calm.quiet.off⟩,s.sv,s.calm.quiet.off,s.zero⟩
end
end Go.Hin
