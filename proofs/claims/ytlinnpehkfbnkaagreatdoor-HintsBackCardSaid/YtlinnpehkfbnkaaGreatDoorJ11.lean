import Derived.Test.YtlinnpehkfbnkaaGreatDoorJ10
set_option linter.unusedVariables false
set_option maxHeartbeats 128000000
namespace Go.Seg
open Go.Med
open Go.Frm (encs GoodE fnds Ent)
def AllBut (o:Option ByteArray) (M:Med):Prop:=∀ p∈M.now,FFlat (M.file p.2)∨some p.1=o
section
variable {o:Option ByteArray}{M:Med}{L:Log}{s:ByteArray}{i K r:Nat}
theorem AllBut.more (h:AllBut none M) (o:Option ByteArray):AllBut o M:=fun p hp=> .inl ((h p hp).resolve_right (by simp))
theorem AllBut.append (h:AllBut (some s) M) (c:Calm K r M) (b:Bs):AllBut (some s) (M.append s b).1:=by
 rcases append_cases c.quiet s b with ⟨_,e⟩|⟨j,hj,⟨_,e⟩|⟨_,e⟩⟩
 ·rw [e];exact h
 ·rw [e];exact h
 ·rw [e]
  intro p hp
  have hp':p∈M.now:=hp
  by_cases hps:p.1=s
  ·exact .inr (by rw [hps])
  ·refine .inl ?_
   have hlt:j<M.files.length:=c.ok.nowOk.ids _ (nget_mem hj)
   show FFlat ((M.setFile j _).file p.2)
   rw [file_set hlt,if_neg (fun e=>hps (dst_inj c hj (by
    have:nget M.now p.1=some p.2:=nget_of_mem c.ok.nowOk.srt.keys hp'
    rw [this,e])))]
   exact (h p hp').resolve_right (fun e=>hps (Option.some.inj e))
theorem AllBut.sync (h:AllBut (some s) M) (c:Calm K r M) (hi:nget M.now s=some i):AllBut none (M.sync s).1:=by
 rw [c.quiet.sync_eq hi]
 intro p hp
 have hp':p∈M.now:=hp
 have hlt:i<M.files.length:=c.ok.nowOk.ids _ (nget_mem hi)
 refine .inl ?_
 show FFlat ((M.setFile i _).file p.2)
 rw [file_set hlt]
 split
 ·exact ⟨rfl,rfl⟩
 ·rename_i hne
  refine (h p hp').resolve_right fun e=>hne ?_
  have:nget M.now p.1=some p.2:=nget_of_mem c.ok.nowOk.srt.keys hp'
  rw [Option.some.inj e,hi]at this
  exact (Option.some.inj this).symm
theorem AllBut.create (h:AllBut none M) (c:Calm K r M) (s:ByteArray):AllBut none (M.create s).1:=by
 rcases create_cases c.quiet s with ⟨_,_,e⟩|⟨_,_,_,e⟩
 ·rw [e];exact h
 ·rw [e]
  intro p hp
  refine .inl ?_
  have hp':p∈nput M.now s M.files.length:=hp
  have hp2:=(nput_perm M.now s M.files.length).mem_iff.1 hp'
  show FFlat ((M.files++[Fil.new]).getD p.2 Fil.new)
  rcases List.mem_cons.1 hp2 with rfl|hp2
  ·simp [FFlat,Fil.new]
  ·have hm:p∈M.now:=(List.mem_filter.1 hp2).1
   have hlt:=c.ok.nowOk.ids p hm
   rw [List.getD_eq_getElem?_getD,List.getElem?_append_left hlt]
   have:=(h p hm).resolve_right (by simp)
   unfold Med.file at this
   rwa [List.getD_eq_getElem?_getD]at this
theorem AllBut.syncDir (h:AllBut o M):AllBut o M.syncDir.1:=fun p hp=>by
 rw [(syncDir_same M).1]at hp
 have:=h p hp
 unfold Med.file at this ⊢
 rwa [(syncDir_same M).2]
def ShutL (L:Log) (M:Med):Prop:=AllBut (if L.on=true then L.l.getLast?.map fun s=>name s.1 else none) M
theorem ShutL.off (h:ShutL L M) (ho:L.on=false):AllBut none M:=by unfold ShutL at h;rwa [ho,if_neg dCz]at h
theorem ShutL.of_off (h:AllBut none M) (ho:L.on=false):ShutL L M:=by unfold ShutL;rwa [ho,if_neg dCz]
theorem ShutL.last (h:ShutL L M){s:Int×Int} (hs:L.l.getLast?=some s):AllBut (some (name s.1)) M:=by
 unfold ShutL at h
 split at h
 ·rw [hs]at h;exact h
 ·exact h.more _
theorem ShutL.append (h:ShutL L M) (k:Keeps K r L M) (x:Ent) (h0:(L.append M x).2.2=0) :
  (L.append M x).1.1.on=true∧AllBut (some (name (L.append M x).2.1.seg)) (L.append M x).1.2∧∃ s,(L.append M x).1.1.l.getLast?=some s∧s.1=(L.append M x).2.1.seg:=by
 unfold Log.append at h0 ⊢
 split at h0
 ·rename_i hn;exact absurd h0 hn
 rename_i hn
 rw [if_neg hn]
 split at h0
 ·rename_i hf
  rw [if_pos hf]
  have hon:=fits_on' hf
  obtain ⟨s,hs⟩:=k.log.last hon
  unfold Log.grow at h0 ⊢
  rw [hs]at h0 ⊢
  simp only at h0 ⊢
  split at h0
  ·rename_i ha
   rw [if_pos ha]
   exact ⟨hon,(h.last hs).append k.calm _,(s.1,s.2+((Frm.encode x).1.length:Int)),by simp,rfl⟩
  ·rename_i ha;exact absurd h0 ha
 ·rename_i hf
  rw [if_neg hf]
  obtain ⟨k1,e1,e2,e3,e4⟩:=k.shut
  unfold Log.begin at h0 ⊢
  rw [if_pos e1]at h0 ⊢
  have hall:AllBut none (L.shut M).1.2:=by
   unfold Log.shut
   cases hl:L.l.getLast? with
   |none=>
    unfold ShutL at h
    rw [hl]at h
    intro p hp
    refine .inl ((h p hp).resolve_right ?_)
    split <;> simp
   |some s=>
    simp only
    split
    ·rename_i hon
     obtain ⟨i,hi⟩:=k.has s (List.mem_of_getLast? hl)
     split <;> exact (h.last hl).sync k.calm hi
    ·rename_i hon
     exact h.off (by simpa using hon)
  generalize (L.shut M).1=LM at *
  obtain ⟨L1,M1⟩:=LM
  simp only at *
  unfold Log.begin1 at h0 ⊢
  split at h0
  ·cases h0
  rename_i g1
  rw [if_neg g1]
  split at h0
  ·rename_i g2;exact absurd h0 g2
  rename_i g2
  rw [if_neg g2]
  split at h0
  ·rename_i g3
   rw [if_pos g3]
   exact ⟨rfl,((hall.create k1.calm _).more _).append (k1.calm.create _) _,(L1.next,8+((Frm.encode x).1.length:Int)),by simp,rfl⟩
  ·rename_i g3
   split at h0
   ·rename_i g4
    simp only at h0
    split at h0
    ·cases h0
    ·rename_i g5;exact absurd h0 g5
   ·exact absurd h0 g3
theorem ShutL.put (h:ShutL L M) (k:Keeps K r L M) (x:Ent) (h0:(L.append M x).2.2=0):ShutL (L.append M x).1.1 (L.append M x).1.2:=by
 obtain ⟨h1,h2,s,h3,h4⟩:=h.append k x h0
 unfold ShutL
 rw [h1,if_pos rfl,h3,Option.map_some,h4]
 exact h2
theorem ShutL.commit (h:ShutL L M) (k:Keeps K r L M) (h0:(L.commit M).2.2=0):ShutL (L.commit M).1.1 (L.commit M).1.2:=by
 unfold Log.commit at h0 ⊢
 split at h0
 ·rename_i g;exact absurd h0 g
 rename_i g
 rw [if_neg g]
 have hz:(L.append M comEnt).2.2=0:=by simpa using g
 obtain ⟨h1,h2,s,h3,h4⟩:=h.append k comEnt hz
 obtain ⟨i,hi⟩:=append_place k comEnt rfl hz
 have k2:=(k.append comEnt rfl).1
 split at h0
 ·rename_i g2;exact absurd h0 g2
 rename_i g2
 rw [if_neg g2]
 split at h0
 ·rename_i g3;exact absurd h0 g3
 rename_i g3
 rw [if_neg g3]
 exact ShutL.of_off ((h2.sync k2.calm hi).syncDir) rfl
end
end Go.Seg
namespace Go.Seg
open Go.Med
open Go.Frm (Bs Fnd encs GoodE fnds Ent)
open Go.Rep
theorem int_ext:∀ {l l':List Int},l.Pairwise (· < ·)→l'.Pairwise (· < ·)→(∀ p,p∈l↔p∈l')→l=l'
 |[],[],_,_,_=>rfl
 |[],b::l',_,_,h=>by have:=(h b).2 (.head _);cases this
 |a::l,[],_,_,h=>by have:=(h a).1 (.head _);cases this
 |a::l,b::l',h1,h2,h=>by
  obtain ⟨a1,a2⟩:=List.pairwise_cons.1 h1
  obtain ⟨b1,b2⟩:=List.pairwise_cons.1 h2
  have hab:a=b:=by
   rcases List.mem_cons.1 ((h a).1 (.head _)) with e|h3
   ·exact e
   ·rcases List.mem_cons.1 ((h b).2 (.head _)) with e|h4
    ·exact e.symm
    ·have:=b1 a h3;have:=a1 b h4;omega
  subst hab
  congr 1
  refine int_ext a2 b2 fun p=>?_
  have:=h p
  rw [List.mem_cons,List.mem_cons]at this
  constructor
  ·intro hp
   rcases this.1 (.inr hp) with e|h3
   ·subst e;have:=a1 p hp;omega
   ·exact h3
  ·intro hp
   rcases this.2 (.inr hp) with e|h3
   ·subst e;have:=b1 p hp;omega
   ·exact h3
section
variable {n:Nat}{ds:List Ent}{L:Log}{M:Med}{C C0:List (List Ent)}{c:Nat}{d x:Ent}{xe:Ent}
end
end Go.Seg
namespace Go.Hin
open Go.Med
open Go.Rep (Use)
open Go.Seg (Plc)
def fin (n:Int) (us:List Use) (i:Nat):Bool:=decide (i=us.length) && (decide (0<i) && decide ((us.getD (i - 1) ⟨0,0,0⟩).seg=n))
def fitU (sz:Int→Int) (s:Int) (u:Use):Bool:=decide (u.seg=s) && (decide (u.size=sz s) && decide (u.live≤u.size))
def fitsL (sz:Int→Int) (n:Int) (us:List Use):List Int→Nat→Bool
 |[],i=>fin n us i
 |s::ss,i=>if n<s then fin n us i else match us[i]? with
  |none=>false
  |some u=>if fitU sz s u=true then fitsL sz n us ss (i+1) else false
def fits (L:Seg.Log) (us:List Use) (n:Int):Bool:=fitsL L.size n us L.segs 0
theorem fits_yes {sz:Int→Int}{n:Int}{us:List Use} (hu:∀ u∈us,u.seg≤n∧u.size=sz u.seg∧u.live≤u.size) (hl:us.getLast?.map (·.seg)=some n) :
  ∀ (ss:List Int) (i:Nat) (rest:List Int),ss=(us.drop i).map (·.seg)++rest→(∀ s∈rest,n<s)→i≤us.length→fitsL sz n us ss i=true:=by
 have hfin:fin n us us.length=true:=by
  cases us with
  |nil=>cases hl
  |cons u us=>
   unfold fin
   have e:(u::us).getLast?=some ((u::us).getD ((u::us).length - 1) ⟨0,0,0⟩):=by
    rw [List.getLast?_eq_getElem?,List.getD_eq_getElem?_getD]
    rw [List.getElem?_eq_getElem (by simp)];rfl
   rw [e]at hl
   simp only [Option.map_some,Option.some.injEq]at hl
   rw [hl]
   simp
 intro ss
 induction ss with
 |nil=>
  intro i rest hs hr hi
  have:=congrArg List.length hs
  simp only [List.length_nil,List.length_append,List.length_map,List.length_drop]at this
  obtain rfl:i=us.length:=by omega
  exact hfin
 |cons s ss ih=>
  intro i rest hs hr hi
  by_cases hlt:i<us.length
  ·have hd:us.drop i=us[i]::us.drop (i+1):=List.drop_eq_getElem_cons hlt
   rw [hd,List.map_cons,List.cons_append]at hs
   obtain ⟨h1,h2⟩:=List.cons.inj hs
   obtain ⟨u1,u2,u3⟩:=hu us[i] (List.getElem_mem hlt)
   unfold fitsL
   rw [if_neg oQ,List.getElem?_eq_getElem hlt]
   simp only
   rw [if_pos (by unfold fitU;rw [h1,u2];simp;omega)]
   exact ih (i+1) rest h2 hr hlt
  ·obtain rfl:i=us.length:=by omega
   rw [List.drop_length,List.map_nil,List.nil_append]at hs
   have:=hr s (by rw [← hs];exact List.mem_cons_self)
   unfold fitsL
   rw [if_pos this]
   exact hfin
def lies (p:Plc) (sz:Int→Int):Bool:=decide (8≤p.at_) && (decide (41≤p.size) && decide (p.size≤sz p.seg - p.at_))
def sizes (us:List Use):Int→Int:=us.foldl (fun f u=>fun s=>if s=u.seg then u.size else f s) fun _=>0
theorem sizes_snoc (us:List Use) (u:Use):sizes (us++[u])=fun s=>if s=u.seg then u.size else sizes us s:=by unfold sizes;rw [List.foldl_append];rfl
theorem sizes_at {us:List Use} (h:(us.map (·.seg)).Nodup){u:Use} (hu:u∈us):sizes us u.seg=u.size:=by
 rw [← List.reverse_reverse us]at h hu ⊢
 generalize us.reverse=r at *
 induction r with
 |nil=>cases hu
 |cons v r ih=>
  rw [List.reverse_cons]at h hu ⊢
  rw [sizes_snoc]
  rw [List.map_append,List.nodup_append]at h
  rcases List.mem_append.1 hu with hu|hu
  ·have hne:u.seg≠v.seg:=h.2.2 _ (List.mem_map.2 ⟨u,hu,rfl⟩) _ (by simp)
   simp only
   rw [if_neg hne]
   exact ih h.1 hu
  ·rw [List.mem_singleton.1 hu];simp
theorem crashFiles_keep (l:List Int){i:Nat}{f:Fil} (hf:FFlat f):∀ (ns:Names) (j:Nat) (fs:List Fil),fs.getD i Fil.new=f→(crashFiles l ns j fs).getD i Fil.new=f
 |[],j,fs,h=>h
 |p::ns,j,fs,h=>by
  unfold crashFiles
  refine crashFiles_keep l hf ns (j+2) _ ?_
  rw [List.getD_eq_getElem?_getD,List.getElem?_set]
  split
  ·rename_i e
   subst e
   split
   ·rw [h];exact hf.crash _ _
   ·rename_i hlt
    rw [List.getD_eq_getElem?_getD,List.getElem?_eq_none oQ]at h
    exact h
  ·rw [List.getD_eq_getElem?_getD]at h;exact h
theorem crash_keep {M:Med} (l:List Int){i:Nat} (hf:FFlat (M.file i)):(M.crash l).file i=M.file i:=crashFiles_keep l hf _ _ _ rfl
theorem crash_now (M:Med) (l:List Int):∃ k,k≤M.waits.length∧(M.crash l).now=M.lastNames k:=⟨_,Med.clampN_le _ _,rfl⟩
section
variable {T:Kept}{s1 s2 s:ByteArray}{b1 b2 b:Bs}{K:Nat}{M:Med}
end
theorem fresh_iff {M:Med}{lim:Int} (hoff:M.off=false) (s:Int):s∈(Seg.fresh M lim).segs↔(0≤s∧s<1048576)∧∃ i,nget M.now (Seg.name s)=some i:=by
 constructor
 ·intro hs
  unfold Seg.Log.segs at hs
  obtain ⟨x,hx,rfl⟩:=List.mem_map.1 hs
  obtain ⟨t,ht,hn,rfl⟩:=Seg.found_mem hx
  obtain ⟨a,b,c⟩:=Seg.number_is hn
  refine ⟨⟨a,b⟩,?_⟩
  simp only
  rw [c]
  exact Seg.list_now ht
 ·rintro ⟨⟨a,b⟩,i,hi⟩
  have:=Seg.fresh_mem (lim:=lim) hoff a b hi
  unfold Seg.nf at this
  exact List.mem_of_mem_take this
theorem fresh_size {M:Med}{K:Nat}{lim:Int} (q:M.off=false) (hL:(Seg.fresh M lim).Ok){s:Int}{i:Nat} (h:s∈(Seg.fresh M lim).segs) (hi:nget M.now (Seg.name s)=some i):(Seg.fresh M lim).size s=((M.file i).now.length:Int):=by
 obtain ⟨k,hk⟩:=Seg.at_mem hL h
 obtain ⟨h2,x,h3,h4⟩:=Seg.Log.at_lt hk
 unfold Seg.Log.size
 rw [hk]
 simp only [List.getD_eq_getElem?_getD,h3,Option.getD_some]
 obtain ⟨t,ht,hn,hx⟩:=Seg.found_mem (List.mem_of_getElem? h3)
 obtain ⟨a,b,c⟩:=Seg.number_is hn
 have h5:(Seg.number t).1=s:=by rw [← h4,hx]
 rw [hx]
 simp only
 rw [h5]at c
 rw [← c]
 unfold Med.size
 rw [q,hi]
 rfl
end Go.Hin
namespace Go.Proofs.YtlinnpehkfbnkaaGreatDoor
open Go Go.Sl Go.Med Go.MapKept Go.RowKit
section
variable {w0 w:World}{F:List HProp}{m K p bm:Nat}{M:Med}{L:Seg.Log}{n:Int}{lv:Value}{f:Int→Int}
theorem hlies_c (q:Seg.Plc) (hb:IntKind.i64.wrap (f q.seg - q.at_)=f q.seg - q.at_) (h:Sat w0 w (imap bm f::F)) :
  Calls Tryz.prog 81 #[.agg (penc q).toArray,.map (some bm)] w (Rtn fun v w'=>v = .bool (Hin.lies q f)∧Sat w0 w' (imap bm f::F)):=by
 have Hf:=uQ (show Hin.lies q f=(decide (8≤q.at_) && (decide (41≤q.size) && decide (q.size≤f q.seg - q.at_))) from rfl)
 go_enter Tryz.func81,Tryz.ntmps81
 go_wp2_with (with_reducible apply at_box)
 refine ⟨wl_box h rFz rFz ?_⟩
 intro b2 w2 h2
 clear h
 have e0:w2.cell? ⟨b2,0,none⟩=some (.int .i64 q.seg):=h2.cellP pick0 0 rfl
 have e1:w2.cell? ⟨b2,1,none⟩=some (.int .i64 q.at_):=h2.cellP pick0 1 rfl
 have e2:w2.cell? ⟨b2,2,none⟩=some (.int .i64 q.size):=h2.cellP pick0 2 rfl
 have hlk:=imap_look q.seg (h2.pick pick1)
 by_cases c1:8≤q.at_
 ·by_cases c2:41≤q.size
  ·by_cases c3:q.size≤f q.seg - q.at_
   ·have Hr:=uQ (Hf.out.trans (by rw [decide_eq_true c1,decide_eq_true c2,decide_eq_true c3];rfl:_=true))
    go_wp2_with fail
    go_ret
    exact ⟨_,rfl,by rw [Hr.out];rfl,h2.drop⟩
   ·have Hr:=uQ (Hf.out.trans (by rw [decide_eq_true c1,decide_eq_true c2,decide_eq_false c3];rfl:_=false))
    go_wp2_with fail
    go_ret
    exact ⟨_,rfl,by rw [Hr.out];rfl,h2.drop⟩
  ·have Hr:=uQ (Hf.out.trans (by rw [decide_eq_true c1,decide_eq_false c2];rfl:_=false))
   clear e0 hlk
   go_wp2_with fail
   go_ret
   exact ⟨_,rfl,by rw [Hr.out];rfl,h2.drop⟩
 ·have Hr:=uQ (Hf.out.trans (by rw [decide_eq_false c1];rfl:_=false))
  clear e0 e2 hlk
  go_wp2_with fail
  go_ret
  exact ⟨_,rfl,by rw [Hr.out];rfl,h2.drop⟩
theorem hfits_step {sz:Int→Int}{us:List Rep.Use}{ss:List Int}{i:Nat}{s:Int} (h:ss[i]?=some s):Hin.fitsL sz n us (ss.drop i) i=(if n<s then Hin.fin n us i else match us[i]? with
  |none=>false
  |some u=>if Hin.fitU sz s u=true then Hin.fitsL sz n us (ss.drop (i+1)) (i+1) else false):=by
 obtain ⟨hi,rfl⟩:=List.getElem?_eq_some_iff.1 h
 rw [List.drop_eq_getElem_cons hi]
 rfl
set_option maxRecDepth 20000 in
theorem hfits_c (us:List Rep.Use) (hul:us.length≤1073741824) (hL:L.Ok) (hr:Ro w0 F (rdsl 3 lv (us.flatMap uenc))) (h:Sat w0 w (LogRep p m L::F)) :
  Calls Tryz.prog 80 #[ptr p,lv,.int .i64 n] w (Rtn fun v w'=>v = .bool (Hin.fits L us n)∧Sat w0 w' (LogRep p m L::F)):=by
 obtain ⟨la,lc,rfl⟩:=osl_rows (fun u _=>uenc_len u) (hr w h.drop) dCz
 have hse:=lsegs_c hL h
 have Hsl:=uQ (show L.segs.length≤1073741824 from by unfold Seg.Log.segs;rw [List.length_map];have:=hL.len;omega)
 have HLs:=uQ (fun (w':World) (R:List HProp) (hw:Sat w0 w' (LogRep p m L::R))=>fun (s:Int)=>lsize_c hL s hw)
 have Hr:=uQ hr;have Hul:=uQ hul
 have HW0:=uQ (show Hin.fitsL L.size n us (L.segs.drop 0) 0=Hin.fits L us n from rfl)
 generalize Hin.fits L us n=W at *
 clear hr hul hL
 go_enter Tryz.func80,Tryz.ntmps80
 go_wp2_with fail
 refine hse.mono ?_
 rintro ee w1 ⟨v,rfl,h1⟩
 clear hse h
 obtain ⟨sa,sc,rfl⟩:=ints_sl (Sat.rd h1)
 go_wp2_with fail
 go_loopg [7,13] L.segs.length (fun g kq iq wr=>∃ i:Nat,g=L.segs.length - i∧i≤L.segs.length∧kq = .int .i64 i∧iq = .int .i64 i∧Hin.fitsL L.size n us (L.segs.drop i) i=W∧Sat w0 wr (osl 3 1 (.slice sa L.segs.length sc) (ints L.segs)::LogRep p m L::F))
 case atStart=>exact ⟨0,rfl,Nat.zero_le _,rfl,rfl,HW0.out,h1⟩
 case round=>
  obtain ⟨i,rfl,hi,rfl,rfl,hW,hS⟩:=hrel
  clear h1 HW0
  by_cases hlt:i<L.segs.length
  rotate_left
  ·as_aux_lemma=>
   have c1:¬ (i:Int)<(L.segs.length:Int):=oQ
   have HW:=uQ (show W=Hin.fin n us i from by rw [List.drop_of_length_le oQ]at hW;exact hW.symm)
   clear hW hlt hi
   by_cases e1:i=us.length
   rotate_left
   ·have hb:((i:Int)==(us.length:Int))=false:=by rw [beq_eq_false_iff_ne];omega
    have Hr:=uQ (HW.out.trans (by unfold Hin.fin;rw [decide_eq_false e1];rfl:_=false))
    clear e1
    go_wp2_with fail
    go_ret
    exact ⟨_,rfl,by rw [Hr.out];rfl,hS.drop⟩
   ·rcases i with _|k
    ·have hb:((0:Int)==(us.length:Int))=true:=by rw [beq_iff_eq];omega
     have hbz:¬ (0:Int)<0:=by decide
     (try have hsc0:=(show wr.cell? ⟨sb,so,none⟩=some (.int .i64 s) from hsc))
     (try have c10:(0:Int)<(L.segs.length:Int):=c1)
     have Hr:=uQ (HW.out.trans (by unfold Hin.fin;rw [decide_eq_true e1];rfl:_=false))
     clear e1
     go_wp2_with fail
     go_ret
     exact ⟨_,rfl,by rw [Hr.out];rfl,hS.drop⟩
    ·have hb:((k:Int)+1==(us.length:Int))=true:=by rw [beq_iff_eq];omega
     have ck:k<us.length:=oQ
     have hck:(k:Int)<(us.length:Int):=oQ
     have hc0:(0:Int)<(k:Int)+1:=oQ
     have hwk:IntKind.i64.wrap ((k:Int)+1 - 1)=(k:Int):=by rw [Int.add_sub_cancel];exact IntWalk.i64_in _ (by have:=Hul.out;omega)
     have hwk2:IntKind.i64.wrap (k:Int)=(k:Int):=IntWalk.i64_in _ (by have:=Hul.out;omega)
     obtain ⟨u,hu⟩:∃ u,us[k]?=some u:=⟨_,List.getElem?_eq_getElem ck⟩
     have hgd:us.getD k ⟨0,0,0⟩=u:=by rw [List.getD_eq_getElem?_getD,hu];rfl
     obtain ⟨bk,off,c',hsv,hcell⟩:=osl_row (f:=uenc) (k:=3) (fun u _=>rfl) (Hr.out _ hS.drop.drop) hu dCz
     cases hsv
     have e0:=hcell 0 _ rfl
     rw [Nat.add_zero]at e0
     by_cases c2:u.seg=n
     ·have Hr2:=uQ (HW.out.trans (by unfold Hin.fin;rw [decide_eq_true e1,Nat.add_sub_cancel,hgd,decide_eq_true c2,decide_eq_true (Nat.succ_pos k)];rfl:_=true))
      have hb2:(u.seg==n)=true:=beq_iff_eq.2 c2
      clear e1 c2 hgd hu hcell ck
      go_wp2_with fail
      go_ret
      exact ⟨_,rfl,by rw [Hr2.out];rfl,hS.drop⟩
     ·have Hr2:=uQ (HW.out.trans (by unfold Hin.fin;rw [decide_eq_true e1,Nat.add_sub_cancel,hgd,decide_eq_false c2,decide_eq_true (Nat.succ_pos k)];rfl:_=false))
      have hb2:(u.seg==n)=false:=beq_eq_false_iff_ne.2 c2
      clear e1 c2 hgd hu hcell ck
      go_wp2_with fail
      go_ret
      exact ⟨_,rfl,by rw [Hr2.out];rfl,hS.drop⟩
  have c1:(i:Int)<(L.segs.length:Int):=oQ
  have hwi:IntKind.i64.wrap ((i:Int)+1)=(i:Int)+1:=IntWalk.i64_in _ (by have:=Hsl.out;omega)
  obtain ⟨s,hs⟩:∃ s,L.segs[i]?=some s:=⟨_,List.getElem?_eq_getElem hlt⟩
  obtain ⟨sb,so,scc,hsv,hsc⟩:=ints_cell (Sat.rd hS) hs
  cases hsv
  have hstep:=hfits_step (n:=n) (sz:=L.size) (us:=us) hs
  rw [hW]at hstep
  have Hlt:=uQ hlt
  clear hW hs hlt hi
  by_cases cn:n<s
  ·as_aux_lemma=>
   have HW:=uQ (show W=Hin.fin n us i from by rw [if_pos cn]at hstep;exact hstep)
   clear hstep
   by_cases e1:i=us.length
   rotate_left
   ·have hb:((i:Int)==(us.length:Int))=false:=by rw [beq_eq_false_iff_ne];omega
    have Hr:=uQ (HW.out.trans (by unfold Hin.fin;rw [decide_eq_false e1];rfl:_=false))
    clear e1
    go_wp2_with fail
    go_ret
    exact ⟨_,rfl,by rw [Hr.out];rfl,hS.drop⟩
   ·rcases i with _|k
    ·have hb:((0:Int)==(us.length:Int))=true:=by rw [beq_iff_eq];omega
     have hbz:¬ (0:Int)<0:=by decide
     (try have hsc0:=(show wr.cell? ⟨sb,so,none⟩=some (.int .i64 s) from hsc))
     (try have c10:(0:Int)<(L.segs.length:Int):=c1)
     have Hr:=uQ (HW.out.trans (by unfold Hin.fin;rw [decide_eq_true e1];rfl:_=false))
     clear e1
     go_wp2_with fail
     go_ret
     exact ⟨_,rfl,by rw [Hr.out];rfl,hS.drop⟩
    ·have hb:((k:Int)+1==(us.length:Int))=true:=by rw [beq_iff_eq];omega
     have ck:k<us.length:=oQ
     have hck:(k:Int)<(us.length:Int):=oQ
     have hc0:(0:Int)<(k:Int)+1:=oQ
     have hwk:IntKind.i64.wrap ((k:Int)+1 - 1)=(k:Int):=by rw [Int.add_sub_cancel];exact IntWalk.i64_in _ (by have:=Hul.out;omega)
     have hwk2:IntKind.i64.wrap (k:Int)=(k:Int):=IntWalk.i64_in _ (by have:=Hul.out;omega)
     obtain ⟨u,hu⟩:∃ u,us[k]?=some u:=⟨_,List.getElem?_eq_getElem ck⟩
     have hgd:us.getD k ⟨0,0,0⟩=u:=by rw [List.getD_eq_getElem?_getD,hu];rfl
     obtain ⟨bk,off,c',hsv,hcell⟩:=osl_row (f:=uenc) (k:=3) (fun u _=>rfl) (Hr.out _ hS.drop.drop) hu dCz
     cases hsv
     have e0:=hcell 0 _ rfl
     rw [Nat.add_zero]at e0
     by_cases c2:u.seg=n
     ·have Hr2:=uQ (HW.out.trans (by unfold Hin.fin;rw [decide_eq_true e1,Nat.add_sub_cancel,hgd,decide_eq_true c2,decide_eq_true (Nat.succ_pos k)];rfl:_=true))
      have hb2:(u.seg==n)=true:=beq_iff_eq.2 c2
      clear e1 c2 hgd hu hcell ck
      go_wp2_with fail
      go_ret
      exact ⟨_,rfl,by rw [Hr2.out];rfl,hS.drop⟩
     ·have Hr2:=uQ (HW.out.trans (by unfold Hin.fin;rw [decide_eq_true e1,Nat.add_sub_cancel,hgd,decide_eq_false c2,decide_eq_true (Nat.succ_pos k)];rfl:_=false))
      have hb2:(u.seg==n)=false:=beq_eq_false_iff_ne.2 c2
      clear e1 c2 hgd hu hcell ck
      go_wp2_with fail
      go_ret
      exact ⟨_,rfl,by rw [Hr2.out];rfl,hS.drop⟩
  rw [if_neg cn]at hstep
  by_cases hu:i<us.length
  rotate_left
  ·as_aux_lemma=>
   have Hr2:=uQ (show W=false from by rw [List.getElem?_eq_none oQ]at hstep;exact hstep)
   have cu:(us.length:Int)≤(i:Int):=oQ
   have cuN:us.length≤i:=oQ
   clear hstep hu
   go_wp2_with fail
   have hSd:=hS.drew
   have hG:True:=trivial
   refine wpL_begin [35,36] (fun w'=>True) kRz ?_
   refine rP 0 ?_ (y:=mvQ)
   refine rP 1 ?_ (y:=mvQ)
   refine rP 2 ?_ (y:=(yl_len evD rnD))
   refine rP 3 ?_ (y:=bnQ)
   refine rP 4 ?_ (y:=mvQ)
   refine rg_skip 5 evD kRz i3z rFz gQ ?_
   refine rg_skip 6 evD kRz i3z rFz gQ ?_
   refine rg_skip 7 evD kRz i3z rFz gQ ?_
   refine rg_skip 8 evD kRz i3z rFz gQ ?_
   refine rg_skip 9 evD kRz i3z rFz gQ ?_
   refine rg_skip 10 evD kRz i3z rFz gQ ?_
   refine rg_skip 11 evD kRz i3z rFz gQ ?_
   refine rP 12 ?_ (y:=(yg_pick rFz evD evD))
   refine rP 13 ?_ (y:=mvQ)
   refine rg_skip 14 evD kRz i3z rFz gQ ?_
   refine rg_skip 15 evD kRz i3z rFz gQ ?_
   refine rg_skip 16 evD kRz i3z rFz gQ ?_
   refine rg_skip 17 evD kRz i3z rFz gQ ?_
   refine rg_skip 18 evD kRz i3z rFz gQ ?_
   refine rg_skip 19 evD kRz i3z rFz gQ ?_
   refine rg_skip 20 evD kRz i3z rFz gQ ?_
   refine rg_skip 21 evD kRz i3z rFz gQ ?_
   refine rg_skip 22 evD kRz i3z rFz gQ ?_
   refine rP 23 ?_ (y:=(yg_pick rFz evD evD))
   refine rP 24 ?_ (y:=mvQ)
   refine rg_skip 25 evD kRz i3z rFz gQ ?_
   refine rg_skip 26 evD kRz i3z rFz gQ ?_
   refine rg_skip 27 evD kRz i3z rFz gQ ?_
   refine rg_skip 28 evD kRz i3z rFz gQ ?_
   refine rg_skip 29 evD kRz i3z rFz gQ ?_
   refine rg_skip 30 evD kRz i3z rFz gQ ?_
   refine rg_skip 31 evD kRz i3z rFz gQ ?_
   refine rg_skip 32 evD kRz i3z rFz gQ ?_
   refine rg_skip 33 evD kRz i3z rFz gQ ?_
   refine rg_skip 34 evD kRz i3z rFz gQ ?_
   refine rg_skip 35 evD kRz i3z rFz gQ ?_
   refine rP 36 ?_ (y:=(yg_pick rFz evD evD))
   refine wpL_done kRz ?_
   try simp only [ayQ]
   try go_frame
   go_wp2_with fail
   go_ret
   exact ⟨_,rfl,by rw [Hr2.out];rfl,hSd.drop⟩
  have cu:¬ (us.length:Int)≤(i:Int):=oQ
  have cuN:¬ us.length≤i:=oQ
  have cuD:decide (us.length≤i)=false:=decide_eq_false cuN
  have cuD2:decide ((us.length:Int)≤(i:Int))=false:=decide_eq_false cu
  have cu2:(i:Int)<(us.length:Int):=oQ
  obtain ⟨u,hx⟩:∃ u,us[i]?=some u:=⟨_,List.getElem?_eq_getElem hu⟩
  rw [hx]at hstep
  dsimp only at hstep
  obtain ⟨bk,off,c',hlv,hcell⟩:=osl_row (f:=uenc) (k:=3) (fun u _=>rfl) (Hr.out _ hS.drop.drop) hx dCz
  cases hlv
  have HG:=uQ (fun (w':World) (hw:Sat w0 w' (osl 3 1 (.slice (some ⟨sb,so,none⟩) L.segs.length sc) (ints L.segs)::LogRep p m L::F))=>show w'.cell? ⟨bk,off+i * 3,none⟩=some (.int .i64 u.seg)∧w'.cell? ⟨bk,off+i * 3+1,none⟩=some (.int .i64 u.size)∧w'.cell? ⟨bk,off+i * 3+2,none⟩=some (.int .i64 u.live) from by
   obtain ⟨_,_,_,e,hc⟩:=osl_row (f:=uenc) (k:=3) (fun u _=>rfl) (Hr.out _ hw.drop.drop) hx dCz
   cases e
   exact ⟨hc 0 _ rfl,hc 1 _ rfl,hc 2 _ rfl⟩)
  have hfu:Hin.fitU L.size s u=(decide (u.seg=s) && (decide (u.size=L.size s) && decide (u.live≤u.size))):=rfl
  clear hcell hx hu
  by_cases c2:u.seg=s
  rotate_left
  ·as_aux_lemma=>
   have Hr2:=uQ (show W=false from by rw [hfu,decide_eq_false c2]at hstep;exact hstep)
   have hb:(u.seg != s)=true:=bne_iff_ne.2 c2
   clear hstep hfu c2
   go_wp2_with fail
   have hSd:=hS.drew
   refine wpL_begin [35,36] (fun w'=>w'.cell? ⟨bk,off+i * 3,none⟩=some (.int .i64 u.seg)∧w'.cell? ⟨bk,off+i * 3+1,none⟩=some (.int .i64 u.size)∧w'.cell? ⟨bk,off+i * 3+2,none⟩=some (.int .i64 u.live)) kRz ?_
   have hG:=HG.out _ hSd
   refine rP 0 ?_ (y:=mvQ)
   refine rP 1 ?_ (y:=mvQ)
   refine rP 2 ?_ (y:=(yl_len evD rnD))
   refine rP 3 ?_ (y:=bnQ)
   refine rP 4 ?_ (y:=mvQ)
   refine rP 5 ?_ (y:=(yg_move rFz evD))
   refine rP 6 ?_ (y:=(yg_move rFz evD))
   refine rP 7 ?_ (y:=(yg_index rFz evD evD rnD))
   refine rP 8 ?_ (y:=(yg_field rFz evD rnD))
   refine rg_take 9 evD kRz i3z (tg_load rFz evD kRz (by intro wq hq;first|exact hq|exact hq.1|exact hq.2|exact hq.2.1|exact hq.2.2|exact hq.2.2.1|exact hq.2.2.2|exact hq.2.2.2.1|exact hq.2.2.2.2)) aQ gQ ?_
   refine rP 10 ?_ (y:=(yg_move rFz evD))
   refine rP 11 ?_ (y:=(yg_bin rFz evD evD rnD))
   refine rP 12 ?_ (y:=(yg_pick rFz evD evD))
   refine rP 13 ?_ (y:=mvQ)
   refine rg_skip 14 evD kRz i3z rFz gQ ?_
   refine rg_skip 15 evD kRz i3z rFz gQ ?_
   refine rg_skip 16 evD kRz i3z rFz gQ ?_
   refine rg_skip 17 evD kRz i3z rFz gQ ?_
   refine rg_skip 18 evD kRz i3z rFz gQ ?_
   refine rg_skip 19 evD kRz i3z rFz gQ ?_
   refine rg_skip 20 evD kRz i3z rFz gQ ?_
   refine rg_skip 21 evD kRz i3z rFz gQ ?_
   refine rg_skip 22 evD kRz i3z rFz gQ ?_
   refine rP 23 ?_ (y:=(yg_pick rFz evD evD))
   refine rP 24 ?_ (y:=mvQ)
   refine rg_skip 25 evD kRz i3z rFz gQ ?_
   refine rg_skip 26 evD kRz i3z rFz gQ ?_
   refine rg_skip 27 evD kRz i3z rFz gQ ?_
   refine rg_skip 28 evD kRz i3z rFz gQ ?_
   refine rg_skip 29 evD kRz i3z rFz gQ ?_
   refine rg_skip 30 evD kRz i3z rFz gQ ?_
   refine rg_skip 31 evD kRz i3z rFz gQ ?_
   refine rg_skip 32 evD kRz i3z rFz gQ ?_
   refine rg_skip 33 evD kRz i3z rFz gQ ?_
   refine rg_skip 34 evD kRz i3z rFz gQ ?_
   refine rg_skip 35 evD kRz i3z rFz gQ ?_
   clear hG
   refine rP 36 ?_ (y:=(yg_pick rFz evD evD))
   refine wpL_done kRz ?_
   try simp only [ayQ]
   try go_frame
   go_wp2_with fail
   go_ret
   exact ⟨_,rfl,by rw [Hr2.out];rfl,hSd.drop⟩
  have hb1:(u.seg != s)=false:=by rw [c2];exact bne_self_eq_false ..
  rw [decide_eq_true c2,Bool.true_and]at hfu
  clear c2
  by_cases c3:u.size=L.size s
  rotate_left
  ·as_aux_lemma=>
   have Hr2:=uQ (show W=false from by rw [hfu,decide_eq_false c3]at hstep;exact hstep)
   have hb:(u.size != L.size s)=true:=bne_iff_ne.2 c3
   clear hstep hfu c3
   go_wp2_with fail
   have hSd:=hS.drew
   refine wpL_begin [35,36] (fun w'=>w'.cell? ⟨bk,off+i * 3,none⟩=some (.int .i64 u.seg)∧w'.cell? ⟨bk,off+i * 3+1,none⟩=some (.int .i64 u.size)∧w'.cell? ⟨bk,off+i * 3+2,none⟩=some (.int .i64 u.live)) kRz ?_
   have hG:=HG.out _ hSd
   refine rP 0 ?_ (y:=mvQ)
   refine rP 1 ?_ (y:=mvQ)
   refine rP 2 ?_ (y:=(yl_len evD rnD))
   refine rP 3 ?_ (y:=bnQ)
   refine rP 4 ?_ (y:=mvQ)
   refine rP 5 ?_ (y:=(yg_move rFz evD))
   refine rP 6 ?_ (y:=(yg_move rFz evD))
   refine rP 7 ?_ (y:=(yg_index rFz evD evD rnD))
   refine rP 8 ?_ (y:=(yg_field rFz evD rnD))
   refine rg_take 9 evD kRz i3z (tg_load rFz evD kRz (by intro wq hq;first|exact hq|exact hq.1|exact hq.2|exact hq.2.1|exact hq.2.2|exact hq.2.2.1|exact hq.2.2.2|exact hq.2.2.2.1|exact hq.2.2.2.2)) aQ gQ ?_
   refine rP 10 ?_ (y:=(yg_move rFz evD))
   refine rP 11 ?_ (y:=(yg_bin rFz evD evD rnD))
   refine rP 12 ?_ (y:=(yg_pick rFz evD evD))
   refine rP 13 ?_ (y:=mvQ)
   refine rP 14 ?_ (y:=(yg_move rFz evD))
   refine rP 15 ?_ (y:=(yg_move rFz evD))
   refine rP 16 ?_ (y:=(yg_index rFz evD evD rnD))
   refine rP 17 ?_ (y:=(yg_field rFz evD rnD))
   refine rg_take 18 evD kRz i3z (tg_load rFz evD kRz (by intro wq hq;first|exact hq|exact hq.1|exact hq.2|exact hq.2.1|exact hq.2.2|exact hq.2.2.1|exact hq.2.2.2|exact hq.2.2.2.1|exact hq.2.2.2.2)) aQ gQ ?_
   refine rP 19 ?_ (y:=(yg_move rFz evD))
   refine rP 20 ?_ (y:=(yg_move rFz evD))
   refine rg_eff 21 evD kRz (fun K hK=>?_)
   refine eg_call [ptr p,.int .i64 s] rFz kRz rFz ?_
   refine (HLs.out _ _ (hSd.sb:Sat w0 _ (LogRep p m L::osl 3 1 (.slice (some ⟨sb,so,none⟩) L.segs.length sc) (ints L.segs)::F)) s).mono ?_
   rintro e w22 ⟨v,rfl,rfl,h22⟩
   have h23:Sat w0 w22 (osl 3 1 (.slice (some ⟨sb,so,none⟩) L.segs.length sc) (ints L.segs)::LogRep p m L::F):=h22.sb
   refine hK _ _ (.inr (.inl (HG.out _ h23))) ?_
   clear hK hSd
   generalize L.size s=z at *
   refine rP 22 ?_ (y:=(yg_bin rFz evD evD rnD))
   refine rP 23 ?_ (y:=(yg_pick rFz evD evD))
   refine rP 24 ?_ (y:=mvQ)
   refine rg_skip 25 evD kRz i3z rFz gQ ?_
   refine rg_skip 26 evD kRz i3z rFz gQ ?_
   refine rg_skip 27 evD kRz i3z rFz gQ ?_
   refine rg_skip 28 evD kRz i3z rFz gQ ?_
   refine rg_skip 29 evD kRz i3z rFz gQ ?_
   refine rg_skip 30 evD kRz i3z rFz gQ ?_
   refine rg_skip 31 evD kRz i3z rFz gQ ?_
   refine rg_skip 32 evD kRz i3z rFz gQ ?_
   refine rg_skip 33 evD kRz i3z rFz gQ ?_
   refine rg_skip 34 evD kRz i3z rFz gQ ?_
   refine rg_skip 35 evD kRz i3z rFz gQ ?_
   refine rP 36 ?_ (y:=(yg_pick rFz evD evD))
   refine wpL_done kRz ?_
   try simp only [ayQ]
   try go_frame
   go_wp2_with fail
   go_ret
   exact ⟨_,rfl,by rw [Hr2.out];rfl,h23.drop⟩
  have hb2:(u.size != L.size s)=false:=by rw [c3];exact bne_self_eq_false ..
  rw [decide_eq_true c3,Bool.true_and]at hfu
  by_cases c4:u.live≤u.size
  rotate_left
  ·as_aux_lemma=>
   have Hr2:=uQ (show W=false from by rw [hfu,decide_eq_false c4]at hstep;exact hstep)
   have c5:u.size<u.live:=oQ
   clear hstep hfu c3 c4
   go_wp2_with fail
   have hSd:=hS.drew
   refine wpL_begin [35,36] (fun w'=>w'.cell? ⟨bk,off+i * 3,none⟩=some (.int .i64 u.seg)∧w'.cell? ⟨bk,off+i * 3+1,none⟩=some (.int .i64 u.size)∧w'.cell? ⟨bk,off+i * 3+2,none⟩=some (.int .i64 u.live)) kRz ?_
   have hG:=HG.out _ hSd
   refine rP 0 ?_ (y:=mvQ)
   refine rP 1 ?_ (y:=mvQ)
   refine rP 2 ?_ (y:=(yl_len evD rnD))
   refine rP 3 ?_ (y:=bnQ)
   refine rP 4 ?_ (y:=mvQ)
   refine rP 5 ?_ (y:=(yg_move rFz evD))
   refine rP 6 ?_ (y:=(yg_move rFz evD))
   refine rP 7 ?_ (y:=(yg_index rFz evD evD rnD))
   refine rP 8 ?_ (y:=(yg_field rFz evD rnD))
   refine rg_take 9 evD kRz i3z (tg_load rFz evD kRz (by intro wq hq;first|exact hq|exact hq.1|exact hq.2|exact hq.2.1|exact hq.2.2|exact hq.2.2.1|exact hq.2.2.2|exact hq.2.2.2.1|exact hq.2.2.2.2)) aQ gQ ?_
   refine rP 10 ?_ (y:=(yg_move rFz evD))
   refine rP 11 ?_ (y:=(yg_bin rFz evD evD rnD))
   refine rP 12 ?_ (y:=(yg_pick rFz evD evD))
   refine rP 13 ?_ (y:=mvQ)
   refine rP 14 ?_ (y:=(yg_move rFz evD))
   refine rP 15 ?_ (y:=(yg_move rFz evD))
   refine rP 16 ?_ (y:=(yg_index rFz evD evD rnD))
   refine rP 17 ?_ (y:=(yg_field rFz evD rnD))
   refine rg_take 18 evD kRz i3z (tg_load rFz evD kRz (by intro wq hq;first|exact hq|exact hq.1|exact hq.2|exact hq.2.1|exact hq.2.2|exact hq.2.2.1|exact hq.2.2.2|exact hq.2.2.2.1|exact hq.2.2.2.2)) aQ gQ ?_
   refine rP 19 ?_ (y:=(yg_move rFz evD))
   refine rP 20 ?_ (y:=(yg_move rFz evD))
   refine rg_eff 21 evD kRz (fun K hK=>?_)
   refine eg_call [ptr p,.int .i64 s] rFz kRz rFz ?_
   refine (HLs.out _ _ (hSd.sb:Sat w0 _ (LogRep p m L::osl 3 1 (.slice (some ⟨sb,so,none⟩) L.segs.length sc) (ints L.segs)::F)) s).mono ?_
   rintro e w22 ⟨v,rfl,rfl,h22⟩
   have h23:Sat w0 w22 (osl 3 1 (.slice (some ⟨sb,so,none⟩) L.segs.length sc) (ints L.segs)::LogRep p m L::F):=h22.sb
   refine hK _ _ (.inr (.inl (HG.out _ h23))) ?_
   clear hK hSd
   generalize L.size s=z at *
   have hG2:=HG.out _ h23
   refine rP 22 ?_ (y:=(yg_bin rFz evD evD rnD))
   refine rP 23 ?_ (y:=(yg_pick rFz evD evD))
   refine rP 24 ?_ (y:=mvQ)
   refine rP 25 ?_ (y:=(yg_move rFz evD))
   refine rP 26 ?_ (y:=(yg_move rFz evD))
   refine rP 27 ?_ (y:=(yg_index rFz evD evD rnD))
   refine rP 28 ?_ (y:=(yg_field rFz evD rnD))
   refine rg_take 29 evD kRz i3z (tg_load rFz evD kRz (by intro wq hq;first|exact hq|exact hq.1|exact hq.2|exact hq.2.1|exact hq.2.2|exact hq.2.2.1|exact hq.2.2.2|exact hq.2.2.2.1|exact hq.2.2.2.2)) aQ gQ ?_
   refine rP 30 ?_ (y:=(yg_move rFz evD))
   refine rP 31 ?_ (y:=(yg_move rFz evD))
   refine rP 32 ?_ (y:=(yg_index rFz evD evD rnD))
   refine rP 33 ?_ (y:=(yg_field rFz evD rnD))
   refine rg_take 34 evD kRz i3z (tg_load rFz evD kRz (by intro wq hq;first|exact hq|exact hq.1|exact hq.2|exact hq.2.1|exact hq.2.2|exact hq.2.2.1|exact hq.2.2.2|exact hq.2.2.2.1|exact hq.2.2.2.2)) aQ gQ ?_
   clear hG hG2
   refine rP 35 ?_ (y:=(yg_bin rFz evD evD rnD))
   refine rP 36 ?_ (y:=(yg_pick rFz evD evD))
   refine wpL_done kRz ?_
   try simp only [ayQ]
   try go_frame
   go_wp2_with fail
   go_ret
   exact ⟨_,rfl,by rw [Hr2.out];rfl,h23.drop⟩
  ·as_aux_lemma=>
   have HW:=uQ (show Hin.fitsL L.size n us (L.segs.drop (i+1)) (i+1)=W from by rw [hfu,decide_eq_true c4]at hstep;exact hstep.symm)
   have c5:¬ u.size<u.live:=oQ
   clear hstep hfu c3 c4
   go_wp2_with fail
   have hSd:=hS.drew
   refine wpL_begin [35,36] (fun w'=>w'.cell? ⟨bk,off+i * 3,none⟩=some (.int .i64 u.seg)∧w'.cell? ⟨bk,off+i * 3+1,none⟩=some (.int .i64 u.size)∧w'.cell? ⟨bk,off+i * 3+2,none⟩=some (.int .i64 u.live)) kRz ?_
   have hG:=HG.out _ hSd
   refine rP 0 ?_ (y:=mvQ)
   refine rP 1 ?_ (y:=mvQ)
   refine rP 2 ?_ (y:=(yl_len evD rnD))
   refine rP 3 ?_ (y:=bnQ)
   refine rP 4 ?_ (y:=mvQ)
   refine rP 5 ?_ (y:=(yg_move rFz evD))
   refine rP 6 ?_ (y:=(yg_move rFz evD))
   refine rP 7 ?_ (y:=(yg_index rFz evD evD rnD))
   refine rP 8 ?_ (y:=(yg_field rFz evD rnD))
   refine rg_take 9 evD kRz i3z (tg_load rFz evD kRz (by intro wq hq;first|exact hq|exact hq.1|exact hq.2|exact hq.2.1|exact hq.2.2|exact hq.2.2.1|exact hq.2.2.2|exact hq.2.2.2.1|exact hq.2.2.2.2)) aQ gQ ?_
   refine rP 10 ?_ (y:=(yg_move rFz evD))
   refine rP 11 ?_ (y:=(yg_bin rFz evD evD rnD))
   refine rP 12 ?_ (y:=(yg_pick rFz evD evD))
   refine rP 13 ?_ (y:=mvQ)
   refine rP 14 ?_ (y:=(yg_move rFz evD))
   refine rP 15 ?_ (y:=(yg_move rFz evD))
   refine rP 16 ?_ (y:=(yg_index rFz evD evD rnD))
   refine rP 17 ?_ (y:=(yg_field rFz evD rnD))
   refine rg_take 18 evD kRz i3z (tg_load rFz evD kRz (by intro wq hq;first|exact hq|exact hq.1|exact hq.2|exact hq.2.1|exact hq.2.2|exact hq.2.2.1|exact hq.2.2.2|exact hq.2.2.2.1|exact hq.2.2.2.2)) aQ gQ ?_
   refine rP 19 ?_ (y:=(yg_move rFz evD))
   refine rP 20 ?_ (y:=(yg_move rFz evD))
   refine rg_eff 21 evD kRz (fun K hK=>?_)
   refine eg_call [ptr p,.int .i64 s] rFz kRz rFz ?_
   refine (HLs.out _ _ (hSd.sb:Sat w0 _ (LogRep p m L::osl 3 1 (.slice (some ⟨sb,so,none⟩) L.segs.length sc) (ints L.segs)::F)) s).mono ?_
   rintro e w22 ⟨v,rfl,rfl,h22⟩
   have h23:Sat w0 w22 (osl 3 1 (.slice (some ⟨sb,so,none⟩) L.segs.length sc) (ints L.segs)::LogRep p m L::F):=h22.sb
   refine hK _ _ (.inr (.inl (HG.out _ h23))) ?_
   clear hK hSd
   have hG2:=HG.out _ h23
   refine rP 22 ?_ (y:=(yg_bin rFz evD evD rnD))
   refine rP 23 ?_ (y:=(yg_pick rFz evD evD))
   refine rP 24 ?_ (y:=mvQ)
   refine rP 25 ?_ (y:=(yg_move rFz evD))
   refine rP 26 ?_ (y:=(yg_move rFz evD))
   refine rP 27 ?_ (y:=(yg_index rFz evD evD rnD))
   refine rP 28 ?_ (y:=(yg_field rFz evD rnD))
   refine rg_take 29 evD kRz i3z (tg_load rFz evD kRz (by intro wq hq;first|exact hq|exact hq.1|exact hq.2|exact hq.2.1|exact hq.2.2|exact hq.2.2.1|exact hq.2.2.2|exact hq.2.2.2.1|exact hq.2.2.2.2)) aQ gQ ?_
   refine rP 30 ?_ (y:=(yg_move rFz evD))
   refine rP 31 ?_ (y:=(yg_move rFz evD))
   refine rP 32 ?_ (y:=(yg_index rFz evD evD rnD))
   refine rP 33 ?_ (y:=(yg_field rFz evD rnD))
   refine rg_take 34 evD kRz i3z (tg_load rFz evD kRz (by intro wq hq;first|exact hq|exact hq.1|exact hq.2|exact hq.2.1|exact hq.2.2|exact hq.2.2.1|exact hq.2.2.2|exact hq.2.2.2.1|exact hq.2.2.2.2)) aQ gQ ?_
   clear hG hG2
   refine rP 35 ?_ (y:=(yg_bin rFz evD evD rnD))
   refine rP 36 ?_ (y:=(yg_pick rFz evD evD))
   refine wpL_done kRz ?_
   try simp only [ayQ]
   try go_frame
   go_wp2_with fail
   go_roundg (L.segs.length - (i+1))
   case measure=>have:=Hlt.out;omega
   case rel=>exact ⟨i+1,rfl,Nat.succ_le_of_lt Hlt.out,by first|rfl|go_num,by first|rfl|go_num,HW.out,h23⟩
end
end Go.Proofs.YtlinnpehkfbnkaaGreatDoor
namespace Go.Seg
open Go.Med
open Go.Frm (encs GoodE fnds)
structure HG (K r E B n:Nat) (L:Log) (M:Med) (C:List (List Frm.Ent)):Prop where
 keeps:Keeps K r L M
 len:L.l.length=C.length
 at_:∀ (k:Nat) (es:List Frm.Ent),C[k]?=some es→L.l[k]?=some ((k:Int),8+((encs es).length:Int))
 file:∀ (k:Nat) (es:List Frm.Ent),C[k]?=some es→M.all (name k)=(mag++encs es,0)
 good:∀ es∈C,(∀ x∈es,GoodE x)∧es≠[]
 count:C.length≤n
 used:M.used≤n * 400+B
 names:M.now.length≤n+E
 cover:∀ (k i:Nat),k<1048576→nget M.now (name (k:Int))=some i→k<C.length
section
variable {K r E B n:Nat}{L:Log}{M:Med}{C:List (List Frm.Ent)}
theorem Holds.hg (h:Holds n L M C) (hn:n≤1000):HG (n * 5) 1048576 0 0 n L M C:=
 ⟨h.keeps,h.len,h.at_,h.file,h.good,h.count,by rw [Nat.add_zero];exact h.used,h.names,fun k i hk hi=>by
  obtain ⟨j,h1,h2⟩:=h.only _ _ hi
  have:=h.count
  have:=name_inj oQ oQ oQ oQ h2
  omega⟩
theorem HG.mono {K' E' B' n':Nat} (h:HG K r E B n L M C) (h1:K≤K') (h2:E≤E') (h3:B≤B') (h4:n≤n'):HG K' r E' B' n' L M C:=
 ⟨h.keeps.mono h1,h.len,h.at_,h.file,h.good,Nat.le_trans h.count h4,Nat.le_trans h.used (Nat.add_le_add (Nat.mul_le_mul_right 400 h4) h3),Nat.le_trans h.names oQ,h.cover⟩
theorem HG.next (h:HG K r E B n L M C):L.next=C.length:=by
 unfold Log.next
 cases hl:L.l.getLast? with
 |none=>
  have:=List.getLast?_eq_none_iff.1 hl
  have h2:=h.len
  rw [this]at h2
  simp only [List.length_nil]at h2
  simp only;omega
 |some s=>
  rw [List.getLast?_eq_getElem?]at hl
  have hlt:=(List.getElem?_eq_some_iff.1 hl).1
  have h2:=h.len
  have hc:C[L.l.length - 1]?=some (C[L.l.length - 1]'oQ):=List.getElem?_eq_getElem oQ
  have h3:=h.at_ _ _ hc
  rw [hl]at h3
  cases h3
  simp only;omega
theorem HG.segs (h:HG K r E B n L M C):L.segs.length=C.length∧∀ k,k<C.length→L.segs[k]?=some (k:Int):=by
 unfold Log.segs
 refine ⟨by rw [List.length_map];exact h.len,fun k hk=>?_⟩
 rw [List.getElem?_map,h.at_ k _ (List.getElem?_eq_getElem hk)];rfl
theorem HG.at_k (h:HG K r E B n L M C){k:Nat}{es:List Frm.Ent} (hk:C[k]?=some es):L.at (k:Int)=some k:=by
 have h1:=h.at_ k es hk
 cases hat:L.at (k:Int) with
 |none=>
  exfalso
  unfold Log.at at hat
  rw [List.findIdx?_eq_none_iff]at hat
  have:=hat _ (List.mem_of_getElem? h1)
  simp at this
 |some i=>
  obtain ⟨h2,s,h3,h4⟩:=Log.at_lt hat
  have h5:i<C.length:=by rw [← h.len];exact h2
  have h6:=h.at_ i _ (List.getElem?_eq_getElem h5)
  rw [h6]at h3
  cases h3
  simp only at h4
  congr 1
  omega
theorem HG.bytes (h:HG K r E B n L M C){k:Nat}{es:List Frm.Ent} (hk:C[k]?=some es):L.bytes M (k:Int)=(mag++encs es,0):=by
 unfold Log.bytes
 rw [h.at_k hk]
 exact h.file k es hk
theorem HG.size (h:HG K r E B n L M C){k:Nat}{es:List Frm.Ent} (hk:C[k]?=some es):L.size (k:Int)=((mag++encs es).length:Nat):=by
 unfold Log.size
 rw [h.at_k hk]
 have h1:=h.at_ k es hk
 simp only [List.getD_eq_getElem?_getD,h1,Option.getD_some,List.length_append]
 have:mag.length=8:=rfl
 omega
theorem HG.ns (h:HG K r E B n L M C):L.segs=(List.range' 0 C.length).map fun i=>((i:Nat):Int):=by
 obtain ⟨h1,h2⟩:=h.segs
 apply List.ext_getElem?
 intro i
 by_cases hi:i<C.length
 ·rw [h2 i hi,List.getElem?_map,List.getElem?_range' hi];simp
 ·rw [List.getElem?_eq_none oQ,List.getElem?_eq_none (by rw [List.length_map,List.length_range'];omega)]
theorem HG.rows (h:HG K r E B n L M C) (i:Nat):Rep.rowsOf (fun s=>L.bytes M s) (L.segs.take i)=Rep.rowsC 0 (C.take i):=by
 have e:L.segs.take i=(List.range' 0 (C.take i).length).map fun i=>((i:Nat):Int):=by
  rw [h.ns,take_nums,List.length_take]
 rw [e]
 refine Rep.rows_is (C.take i) 0 fun j es hj=>?_
 have hj':C[j]?=some es:=by
  rw [List.getElem?_take]at hj
  split at hj
  ·exact hj
  ·cases hj
 rw [Nat.zero_add]
 exact ⟨h.bytes hj',(h.good es (List.mem_of_getElem? hj')).1⟩
theorem HG.append (h:HG K r E B n L M C) (hn:n<1000) (x:Frm.Ent) (hk:x.key.length=32) (hd:x.data.length≤300) (h0:(Frm.encode x).2=0) (hz:(L.append M x).2.2=0∨M.used+400≤M.room∧M.now.length<500) :
  (L.append M x).2.2=0∧(L.append M x).1.1.on=true∧(L.append M x).1.1.limit=L.limit∧HG (K+4) r E B (n+1) (L.append M x).1.1 (L.append M x).1.2 (put C (L.fits (Frm.encode x).1.length) x) ∧
   (L.append M x).1.1.read (L.append M x).1.2 (L.append M x).2.1=(x,0)∧(L.append M x).2.1.seg=(put C (L.fits (Frm.encode x).1.length) x).length - 1:=by
 have hzz:=enc_small h0 hk hd
 have hK:=(h.keeps.append x hk).1
 have hu:=h.used
 have hroom:=h.keeps.calm.room
 have hcnt:=h.count
 cases hf:L.fits (Frm.encode x).1.length with
 |true=>
  rw [Log.append_grow h0 hf]at hK hz ⊢
  have hf':=hf
  unfold Log.fits at hf'
  rw [Bool.and_eq_true,decide_eq_true_eq]at hf'
  obtain ⟨s,hl⟩:=h.keeps.log.last hf'.1
  rw [hl]at hf'
  have hl':=hl
  rw [List.getLast?_eq_getElem?]at hl'
  have hlt:=(List.getElem?_eq_some_iff.1 hl').1
  have hlen:=h.len
  have hne:C≠[]:=by intro e;rw [e,List.length_nil]at hlen;omega
  obtain ⟨c,hc⟩:∃ c,C.length=c+1:=⟨C.length - 1,by omega⟩
  have hcl:C[c]?=some (C.getLastD []):=by
   conv=>lhs;rw [last_of hne]
   rw [List.getElem?_append_right (by rw [List.length_dropLast];omega),List.length_dropLast,show c - (C.length - 1)=0 by omega];rfl
  generalize hes:C.getLastD []=es at *
  have hat:=h.at_ _ _ hcl
  rw [show L.l.length - 1=c by omega,hat]at hl'
  obtain rfl:((c:Int),8+((encs es).length:Int))=s:=by injection hl'
  obtain ⟨i,hi⟩:=h.keeps.has _ (List.mem_of_getLast? hl)
  simp only at hi
  have hall:=h.file _ _ hcl
  have hrm:M.used+(Frm.encode x).1.length≤M.room:=by
   rcases hz with hz|⟨hz,_⟩
   ·rcases append_cases h.keeps.calm.quiet (name (c:Int)) (Frm.encode x).1 with ⟨q1,_⟩|⟨j,q1,⟨q2,q3⟩|⟨q2,q3⟩⟩
    ·rw [hi]at q1;cases q1
    ·unfold Log.grow at hz
     rw [hl]at hz
     simp only [q3]at hz
     rw [if_neg dCz]at hz
     exact absurd (show (11:Int)=0 from hz) dCz
    ·omega
   ·omega
  obtain ⟨a1,a2,a3,a4,a5⟩:=append_full h.keeps.calm hi (Frm.encode x).1 hrm
  have hmem:es∈C:=List.mem_of_getElem? hcl
  have hE:L.grow M (Frm.encode x).1=(({ L with l:=L.l.dropLast++[((c:Int),8+((encs es).length:Int)+((Frm.encode x).1.length:Int))] },(M.append (name (c:Int)) (Frm.encode x).1).1),⟨(c:Int),8+((encs es).length:Int),(Frm.encode x).1.length⟩,0):=by
   unfold Log.grow;rw [hl];simp only [a1,if_true]
  rw [hE]at hK ⊢
  simp only at hK ⊢
  rw [hall]at a4
  have hsz:(encs (es++[x])).length=(encs es).length+(Frm.encode x).1.length:=by rw [encs_app,encs_one,List.length_append]
  have hput:put C true x=C.dropLast++[es++[x]]:=by unfold put;rw [if_pos rfl,hes]
  rw [hput]
  have hdl:C.dropLast.length=c:=by rw [List.length_dropLast];omega
  have a4':(M.append (name (c:Int)) (Frm.encode x).1).1.all (name (c:Int))=(mag++encs (es++[x]),0):=by rw [a4,encs_app,encs_one];simp
  refine ⟨by first|trivial|rfl,hf'.1,by first|trivial|rfl,⟨hK,?_,?_,?_,?_,?_,?_,?_,?_⟩,?_,?_⟩
  ·simp only [List.length_append,List.length_dropLast,List.length_singleton];omega
  ·intro k fs hk'
   have hcl':C[k]?=some fs∧k<c∨k=c∧fs=es++[x]:=by
    rcases Nat.lt_trichotomy k c with q|q|q
    ·rw [List.getElem?_append_left oQ,List.getElem?_dropLast,if_pos oQ]at hk'
     exact .inl ⟨hk',q⟩
    ·subst q
     rw [List.getElem?_append_right oQ,hdl,Nat.sub_self]at hk'
     simp at hk'
     exact .inr ⟨rfl,hk'.symm⟩
    ·rw [List.getElem?_eq_none (by simp only [List.length_append,List.length_singleton];omega)]at hk';cases hk'
   rcases hcl' with ⟨q1,q2⟩|⟨rfl,rfl⟩
   ·rw [List.getElem?_append_left (by rw [List.length_dropLast];omega),List.getElem?_dropLast,if_pos oQ]
    exact h.at_ _ _ q1
   ·rw [List.getElem?_append_right (by rw [List.length_dropLast];omega),List.length_dropLast,show k - (L.l.length - 1)=0 by omega,hsz]
    simp only [List.getElem?_cons_zero,Option.some.injEq,Prod.mk.injEq,true_and]
    omega
  ·intro k fs hk'
   have hcl':C[k]?=some fs∧k<c∨k=c∧fs=es++[x]:=by
    rcases Nat.lt_trichotomy k c with q|q|q
    ·rw [List.getElem?_append_left oQ,List.getElem?_dropLast,if_pos oQ]at hk'
     exact .inl ⟨hk',q⟩
    ·subst q
     rw [List.getElem?_append_right oQ,hdl,Nat.sub_self]at hk'
     simp at hk'
     exact .inr ⟨rfl,hk'.symm⟩
    ·rw [List.getElem?_eq_none (by simp only [List.length_append,List.length_singleton];omega)]at hk';cases hk'
   rcases hcl' with ⟨q1,q2⟩|⟨rfl,rfl⟩
   ·rw [a5 _ (fun e=>by have:=name_inj oQ oQ oQ oQ e;omega)]
    exact h.file _ _ q1
   ·exact a4'
  ·intro fs hfs
   rcases List.mem_append.1 hfs with hfs|hfs
   ·exact h.good fs ((List.dropLast_subset _ hfs))
   ·rw [List.mem_singleton.1 hfs]
    refine ⟨fun y hy=>?_,by simp⟩
    rcases List.mem_append.1 hy with hy|hy
    ·exact (h.good es hmem).1 y hy
    ·rw [List.mem_singleton.1 hy];exact ⟨h0,hk⟩
  ·simp only [List.length_append,List.length_singleton];omega
  ·rw [a3];omega
  ·rw [a2];have:=h.names;omega
  ·intro k j hkk hj
   rw [a2]at hj
   have:=h.cover k j hkk hj
   simp only [List.length_append,List.length_singleton];omega
  ·exact read_back (s:=((c:Int),8+((encs es).length:Int)+((Frm.encode x).1.length:Int))) hK (by simp) a4' ⟨h0,hk⟩
  ·simp only [List.length_append,List.length_singleton];omega
 |false=>
  rw [Log.append_begin h0 hf]at hK hz ⊢
  obtain ⟨s1,s2,s3,s4,s5⟩:=h.keeps.shut
  have hlim:=Log.shut_limit L M
  have hB:L.begin M (Frm.encode x).1=(L.shut M).1.1.begin1 (L.shut M).1.2 (Frm.encode x).1:=by unfold Log.begin;rw [if_pos s2]
  rw [hB]at hK hz ⊢
  have hnx:(L.shut M).1.1.next=C.length:=by rw [← h.next];unfold Log.next;rw [s3]
  have hall2:=s5.all
  have hnow:=s5.now
  have hused:=s5.used
  have hroom2:=s1.calm.room
  generalize (L.shut M).1.1=L1 at *
  generalize (L.shut M).1.2=M1 at *
  have hnn:nget M1.now (name (C.length:Int))=none:=by
   cases hq:nget M1.now (name (C.length:Int)) with
   |none=>rfl
   |some i=>
    exfalso
    rw [hnow]at hq
    have:=h.cover C.length i oQ hq
    omega
  have hlt5:M1.now.length<500:=by
   rcases hz with hz|⟨_,hz⟩
   ·rcases create_cases s1.calm.quiet (name (C.length:Int)) with ⟨q1,_,_⟩|⟨_,_,q3,_⟩
    ·unfold Log.begin1 at hz
     rw [hnx,if_neg oQ,if_pos q1]at hz
     exact absurd hz q1
    ·exact q3
   ·rw [hnow];exact hz
  obtain ⟨c1,c2,c3,c4,c5⟩:=create_full s1.calm (good_name (C.length:Int) oQ oQ) hnn hlt5
  have hc1:=s1.calm.create (name (C.length:Int))
  have hself:nget (M1.create (name (C.length:Int))).1.now (name (C.length:Int))=some M1.files.length:=by rw [c2];exact nget_put_self s1.calm.ok.nowOk.srt _ _
  have hrm:(M1.create (name (C.length:Int))).1.used+(mag++(Frm.encode x).1).length≤(M1.create (name (C.length:Int))).1.room:=by
   rcases hz with hz|⟨hz,_⟩
   ·rcases append_cases hc1.quiet (name (C.length:Int)) (mag++(Frm.encode x).1) with ⟨q1,_⟩|⟨j,q1,⟨q2,q3⟩|⟨q2,q3⟩⟩
    ·rw [hself]at q1;cases q1
    ·unfold Log.begin1 at hz
     rw [hnx,if_neg oQ,if_neg (fun hh=>hh c1)]at hz
     simp only [q3]at hz
     rw [if_neg dCz]at hz
     simp only [if_true]at hz
     split at hz
     ·exact absurd hz dCz
     ·rename_i g;exact absurd hz g
    ·omega
   ·rw [c3,hused,hc1.room,List.length_append];have:mag.length=8:=rfl;omega
  obtain ⟨a1,a2,a3,a4,a5⟩:=append_full hc1 hself (mag++(Frm.encode x).1) hrm
  have hE:L1.begin1 M1 (Frm.encode x).1=(({ L1 with l:=L1.l++[((C.length:Int),8+((Frm.encode x).1.length:Int))],on:=true,fresh:=L1.fresh+1 },((M1.create (name (C.length:Int))).1.append (name (C.length:Int)) (mag++(Frm.encode x).1)).1),⟨(C.length:Int),8,(Frm.encode x).1.length⟩,0):=by
   unfold Log.begin1
   rw [hnx,if_neg oQ,if_neg (fun hh=>hh c1),if_pos a1]
  rw [hE]at hK ⊢
  simp only at hK ⊢
  rw [c4]at a4
  have a4':((M1.create (name (C.length:Int))).1.append (name (C.length:Int)) (mag++(Frm.encode x).1)).1.all (name (C.length:Int))=(mag++encs ([]++[x]),0):=by rw [a4,encs_app,encs_one];simp [encs]
  have hput:put C false x=C++[[x]]:=by unfold put;rw [if_neg dCz]
  rw [hput]
  have hlen:=h.len
  refine ⟨by first|trivial|rfl,by first|trivial|rfl,hlim,⟨hK,?_,?_,?_,?_,?_,?_,?_,?_⟩,?_,?_⟩
  ·simp only [s3,List.length_append,List.length_singleton];omega
  ·intro k fs hk'
   rcases Nat.lt_trichotomy k C.length with q|q|q
   ·rw [List.getElem?_append_left q]at hk'
    rw [s3,List.getElem?_append_left oQ]
    exact h.at_ _ _ hk'
   ·subst q
    rw [List.getElem?_append_right (Nat.le_refl _),Nat.sub_self]at hk'
    simp at hk'
    subst hk'
    rw [s3,List.getElem?_append_right oQ,hlen,Nat.sub_self,encs_one]
    rfl
   ·rw [List.getElem?_eq_none (by simp only [List.length_append,List.length_singleton];omega)]at hk';cases hk'
  ·intro k fs hk'
   rcases Nat.lt_trichotomy k C.length with q|q|q
   ·rw [List.getElem?_append_left q]at hk'
    have hne:name (k:Int)≠name (C.length:Int):=fun e=>by have:=name_inj oQ oQ oQ oQ e;omega
    rw [a5 _ hne,c5 _ hne,hall2]
    exact h.file _ _ hk'
   ·subst q
    rw [List.getElem?_append_right (Nat.le_refl _),Nat.sub_self]at hk'
    simp at hk'
    subst hk'
    exact a4'
   ·rw [List.getElem?_eq_none (by simp only [List.length_append,List.length_singleton];omega)]at hk';cases hk'
  ·intro fs hfs
   rcases List.mem_append.1 hfs with hfs|hfs
   ·exact h.good fs hfs
   ·rw [List.mem_singleton.1 hfs]
    exact ⟨fun y hy=>by rw [List.mem_singleton.1 hy];exact ⟨h0,hk⟩,by simp⟩
  ·simp only [List.length_append,List.length_singleton];omega
  ·rw [a3,c3,hused,List.length_append];have:mag.length=8:=rfl;omega
  ·rw [a2,c2,nput_len]
   have:=ndel_len M1.now (name (C.length:Int))
   rw [hnow]at this
   have:=h.names
   rw [hnow];omega
  ·intro k j hkk hj
   by_cases e:k=C.length
   ·subst e;simp
   ·rw [a2,c2,nget_put_ne (fun q=>e (by have:=name_inj oQ oQ oQ oQ q;omega)),hnow]at hj
    have:=h.cover k j hkk hj
    simp only [List.length_append,List.length_singleton];omega
  ·exact read_back (s:=((C.length:Int),8+((Frm.encode x).1.length:Int))) (es:=[]) hK (by simp) a4' ⟨h0,hk⟩
  ·simp only [List.length_append,List.length_singleton];omega
theorem HG.alike {L':Log}{M':Med} (h:HG K r E B n L M C){K':Nat} (hk:Keeps K' r L' M') (hl:L'.l=L.l) (ha:Alike M M'):HG K' r E B n L' M' C:=
 ⟨hk,by rw [hl];exact h.len,by rw [hl];exact h.at_,fun k es hke=>by rw [ha.all];exact h.file k es hke,h.good,h.count,by rw [ha.used];exact h.used,by rw [ha.now];exact h.names,by rw [ha.now];exact h.cover⟩
theorem HG.append_no (h:HG K r E B n L M C) (x:Frm.Ent) (hk:x.key.length=32) (hz:(L.append M x).2.2≠0):HG (K+4) r E B n (L.append M x).1.1 (L.append M x).1.2 C:=by
 obtain ⟨k1,k2⟩:=h.keeps.append x hk
 obtain ⟨k3,_,k4,_⟩:=k2 hz
 exact h.alike k1 k3 k4
end
end Go.Seg
namespace Go.Seg
open Go.Med
open Go.Frm (Bs Fnd encs GoodE fnds Ent)
open Go.Rep
structure HintOk (L:Log) (c:Nat) (us:List Use) (ps:List (Bs×Plc)):Prop where
 segs:us.map (·.seg)=L.segs.take c
 use:∀ u∈us,0≤u.live∧u.live≤u.size∧u.size=L.size u.seg∧u.size≤33554432
 key:∀ q∈ps,q.1.length=32
 rise:ps.Pairwise fun a b=>a.1<b.1
 plc:∀ q∈ps,8≤q.2.at_∧41≤q.2.size∧q.2.at_+q.2.size≤L.size q.2.seg∧q.2.seg∈L.segs.take c
section
variable {K r E B n c:Nat}{L:Log}{M:Med}{C:List (List Ent)}
theorem HG.seg_at (h:HG K r E B n L M C) (hc:c≤C.length):∀ s∈L.segs.take c,∃ (j:Nat) (es:List Ent),s=(j:Int)∧j<c∧C[j]?=some es:=fun s hs=>by
 obtain ⟨j,hj⟩:=List.getElem?_of_mem hs
 rw [List.getElem?_take]at hj
 split at hj
 ·rename_i hjc
  have hl:j<C.length:=oQ
  have:=h.segs.2 j hl
  rw [hj]at this
  cases this
  exact ⟨j,C[j],rfl,hjc,List.getElem?_eq_getElem hl⟩
 ·cases hj
theorem HG.hint (h:HG K r E B n L M C) (hc:c≤C.length){kv:List (Bs×Abt)} (hk:Tab.Lists (ledger (rowsOf (fun s=>L.bytes M s) (L.segs.take c))) kv) (h32:∀ q∈kv,q.1.length=32) :
  HintOk L c ((usesOf (fun s=>L.bytes M s) (L.segs.take c)).map (upd kv)) (puts kv):=by
 have hok:=rows_ok h.keeps.log M c
 rw [h.rows c]at hok hk
 have hseg:=h.seg_at hc
 have hrow:∀ p∈kv,∃ r,r∈Rep.rowsC 0 (C.take c)∧rtag r≠2∧p.2.tag=rtag r∧p.2.place=rplc r:=fun p hp=>by
  have h1:=(hk.mem p.1 p.2).1 hp
  unfold ledger at h1
  obtain ⟨r,h2,h3⟩:=Option.map_eq_some_iff.1 h1
  obtain ⟨h4,h5,_⟩:=newest_some h2
  exact ⟨r,h4,h5,by rw [← h3],by rw [← h3]⟩
 refine ⟨?_,fun u hu=>?_,fun q hq=>?_,Rep.puts_rise hk.rise,fun q hq=>?_⟩
 ·unfold usesOf
  rw [List.map_map,List.map_map]
  conv=>rhs;rw [← List.map_id (L.segs.take c)]
  rfl
 ·obtain ⟨u0,h1,rfl⟩:=List.mem_map.1 hu
  unfold usesOf at h1
  obtain ⟨s,hs,rfl⟩:=List.mem_map.1 h1
  obtain ⟨j,es,rfl,hjc,hj⟩:=hseg s hs
  have hb:=h.bytes hj
  have hz:=h.size hj
  have hlv:=live_eq hok hk (j:Int)
  have hls:=live_seg (l:=Rep.rowsC 0 (C.take c)) (j:Int) _ (Nat.le_refl _)
  have hsm:=segSum_is (C.take c) 0 j es (by rw [List.getElem?_take,if_pos hjc];exact hj)
  rw [List.take_length]at hls
  rw [Nat.zero_add]at hsm
  have hm:mag.length=8:=rfl
  have hsz:=h.keeps.log.sizes _ (List.mem_of_getElem? (h.at_ j es hj))
  unfold upd
  simp only [hb,hz,List.length_append]
  rw [hlv,hsm]at hls
  simp only at hsz
  refine ⟨hls.1,?_,trivial,?_⟩
  ·have:=hls.2;omega
  ·omega
 ·unfold puts at hq
  obtain ⟨p,hp,rfl⟩:=List.mem_map.1 hq
  exact h32 p (List.mem_filter.1 hp).1
 ·unfold puts at hq
  obtain ⟨p,hp,rfl⟩:=List.mem_map.1 hq
  obtain ⟨hp1,hp2⟩:=List.mem_filter.1 hp
  obtain ⟨r,h1,_,h3,h4⟩:=hrow p hp1
  obtain ⟨j,es,h5,h6,h7⟩:=Rep.rowsC_mem (C.take c) 0 h1
  obtain ⟨u,v,h8,h9,h10⟩:=Rep.fnds_mem es 8 h7
  have hjc:j<c:=by
   have:=(List.getElem?_eq_some_iff.1 h5).1
   rw [List.length_take]at this;omega
  have hj:C[j]?=some es:=by rw [List.getElem?_take,if_pos hjc]at h5;exact h5
  have hg:GoodE r.2.e:=(h.good es (List.mem_of_getElem? hj)).1 _ (by rw [h8];simp)
  have hz:=h.size hj
  have ht:r.2.e.tag=0:=by
   have:p.2.tag=0:=by simpa using hp2
   rw [h3]at this;exact this
  have hl:r.2.size=41+r.2.e.data.length:=by
   rw [h10,size_enc hg.1 hg.2]
   unfold Frm.size
   rw [if_neg (by simp [(Frm.encode_zero hg.1).1]),if_neg (by rw [ht];decide)]
  have hes:encs es=encs u++((Frm.encode r.2.e).1++encs v):=by rw [h8,encs_app];rfl
  have hm:mag.length=8:=rfl
  have hr1:r.1=(j:Int):=by rw [h6,Nat.zero_add]
  simp only
  rw [h4]
  show 8≤(r.2.at_:Int)∧41≤(r.2.size:Int)∧(r.2.at_:Int)+(r.2.size:Int)≤L.size r.1∧r.1∈L.segs.take c
  rw [hr1,hz,List.length_append,hes,List.length_append,List.length_append]
  refine ⟨by omega,by omega,by omega,?_⟩
  have hl:j<C.length:=(List.getElem?_eq_some_iff.1 hj).1
  exact List.mem_of_getElem? (i:=j) (by rw [List.getElem?_take,if_pos hjc];exact h.segs.2 j hl)
end
def Log.stepH (L:Log) (M:Med) (c:Cal):Log×Med:=if c.kind=1 then (L.commit M).1 else (L.append M c.e).1
def Log.playH:List Cal→Log→Med→Log×Med
 |[],L,M=>(L,M)
 |c::cs,L,M=>Log.playH cs (L.stepH M c).1 (L.stepH M c).2
theorem playH_snoc (cs:List Cal) (c:Cal):∀ (L:Log) (M:Med),Log.playH (cs++[c]) L M=(Log.playH cs L M).1.stepH (Log.playH cs L M).2 c:=by
 induction cs with
 |nil=>intro L M;rfl
 |cons d cs ih=>intro L M;exact ih _ _
structure PlH (n:Nat) (L:Log) (M:Med) (C:List (List Ent)):Prop where
 holds:Holds n L M C
 shut:ShutL L M
 few:C.flatten.length≤n
structure DoneH (n:Nat) (L:Log) (M:Med) (C:List (List Ent)):Prop where
 holds:Holds n L M C
 off:L.on=false
 fresh:L.fresh=0
 flat:Flat M
 last:∃ es,C≠[]∧C[C.length - 1]?=some es∧Rep.endsC es=true
 few:C.flatten.length≤n
section
variable {n:Nat}{L:Log}{M:Med}{C:List (List Ent)}{c:Cal}
theorem Holds.on_ne (h:Holds n L M C){k:Nat}:L.fits k=true→C≠[]:=fun hf=>by
 have h1:=h.keeps.log.on (fits_on' hf)
 intro e
 have:=h.len
 rw [e,List.length_nil]at this
 exact h1 (List.eq_nil_of_length_eq_zero this)
theorem Holds.put_few (h:Holds n L M C) (hf:C.flatten.length≤n) (x:Ent):(put C (L.fits (Frm.encode x).1.length) x).flatten.length≤n+1:=by
 rw [put_flat C _ _ h.on_ne,List.length_append,List.length_singleton];omega
theorem PlH.step (h:PlH n L M C) (hn:n<100) (hk:c.e.key.length=32) (hd:c.e.data.length≤300):∃ C',PlH (n+1) (L.stepH M c).1 (L.stepH M c).2 C'∧(L.stepH M c).1.limit=L.limit:=by
 unfold Log.stepH
 split
 ·obtain ⟨a1,a2,a3,a4⟩:=h.holds.commit hn
  exact ⟨_,⟨a4,h.shut.commit h.holds.keeps a1,h.holds.put_few h.few _⟩,a3⟩
 ·by_cases h0:(Frm.encode c.e).2=0
  ·obtain ⟨a1,a2,a3,a4,_,_⟩:=h.holds.append hn c.e hk hd h0
   exact ⟨_,⟨a4,h.shut.put h.holds.keeps c.e a1,h.holds.put_few h.few _⟩,a3⟩
  ·rw [Log.append_bad h0]
   exact ⟨C,⟨h.holds.mono1,h.shut,Nat.le_succ_of_le h.few⟩,rfl⟩
theorem PlH.start (lim:Int) (h1:128≤lim) (h2:lim≤1048576):PlH 0 ⟨lim,[],false,0⟩ (new 1048576) []:=
 ⟨Holds.start lim h1 h2,(fun p hp=>by cases hp),Nat.le_refl _⟩
theorem PlH.play:∀ (cs:List Cal) (n:Nat) (L:Log) (M:Med) (C:List (List Ent)),PlH n L M C→(∀ c∈cs,c.e.key.length=32∧c.e.data.length≤300)→n+cs.length≤100 →
  ∃ C',PlH (n+cs.length) (Log.playH cs L M).1 (Log.playH cs L M).2 C'∧(Log.playH cs L M).1.limit=L.limit
 |[],n,L,M,C,h,_,_=>⟨C,h,rfl⟩
 |c::cs,n,L,M,C,h,hd,hn=>by
  rw [List.length_cons]at hn
  obtain ⟨C1,h1,h2⟩:=h.step (c:=c) oQ (hd c (.head _)).1 (hd c (.head _)).2
  obtain ⟨C2,h3,h4⟩:=PlH.play cs (n+1) _ _ C1 h1 (fun x hx=>hd x (.tail _ hx)) oQ
  refine ⟨C2,?_,h4.trans h2⟩
  rw [List.length_cons,show n+(cs.length+1)=n+1+cs.length by omega]
  exact h3
theorem endsC_put (C:List (List Ent)) (b:Bool):∃ es,put C b comEnt≠[]∧(put C b comEnt)[(put C b comEnt).length - 1]?=some es∧Rep.endsC es=true:=by
 unfold put
 cases b with
 |true=>
  simp only [if_true]
  refine ⟨C.getLastD []++[comEnt],by simp,?_,?_⟩
  ·rw [List.length_append,List.length_singleton,Nat.add_sub_cancel,List.getElem?_append_right (Nat.le_refl _),Nat.sub_self];rfl
  ·unfold Rep.endsC;rw [List.getLast?_concat];rfl
 |false=>
  simp only [Bool.false_eq_true,if_false]
  refine ⟨[comEnt],by simp,?_,rfl⟩
  rw [List.length_append,List.length_singleton,Nat.add_sub_cancel,List.getElem?_append_right (Nat.le_refl _),Nat.sub_self];rfl
theorem commit_waits {K r:Nat} (k:Keeps K r L M) (h0:(L.commit M).2.2=0):(L.commit M).1.2.waits=[]∧(L.commit M).1.2.fast=(L.commit M).1.2.now∧(L.commit M).1.1.fresh=0∧(L.commit M).2.1=(L.append M comEnt).2.1.seg:=by
 rw [Log.commit_eq]at h0 ⊢
 split at h0
 ·rename_i g;exact absurd h0 g
 rename_i g1
 rw [if_neg g1]
 split at h0
 ·rename_i g;exact absurd h0 g
 rename_i g2
 rw [if_neg g2]
 split at h0
 ·rename_i g;exact absurd h0 g
 rename_i g3
 rw [if_neg g3]
 have k1:=(k.append comEnt rfl).1
 have hc:=k1.calm.sync (name (L.append M comEnt).2.1.seg)
 have hd:=hc.quiet.syncDir_eq
 refine ⟨?_,?_,rfl,rfl⟩
 ·show ((L.append M comEnt).1.2.sync (name (L.append M comEnt).2.1.seg)).1.syncDir.1.waits=_
  rw [hd]
 ·show ((L.append M comEnt).1.2.sync (name (L.append M comEnt).2.1.seg)).1.syncDir.1.fast=((L.append M comEnt).1.2.sync (name (L.append M comEnt).2.1.seg)).1.syncDir.1.now
  rw [hd]
theorem PlH.done (h:PlH n L M C) (hn:n<100):(L.commit M).2.2=0∧(L.commit M).1.1.limit=L.limit∧∃ C',DoneH (n+1) (L.commit M).1.1 (L.commit M).1.2 C'∧C'.length≤n+1:=by
 obtain ⟨a1,a2,a3,a4⟩:=h.holds.commit hn
 obtain ⟨w1,w2,w3,_⟩:=commit_waits h.holds.keeps a1
 have hs:=(h.shut.commit h.holds.keeps a1).off a2
 exact ⟨a1,a3,_,⟨a4,a2,w3,⟨a4.keeps.calm.quiet,w2,w1,fun p hp=>(hs p hp).resolve_right (by simp)⟩,endsC_put C _,h.holds.put_few h.few _⟩,a4.count⟩
theorem DoneH.run (h:DoneH n L M C):Rep.run (fun s=>L.bytes M s) L.segs = .inr C.length∧L.segs.length=C.length∧0<C.length:=by
 obtain ⟨es,hne,he,hen⟩:=h.last
 have hl:0<C.length:=List.length_pos_iff.2 hne
 obtain ⟨c,h1,h2,h3,h4⟩:=h.holds.run
 have e1:c=C.length:=by
  by_cases hh:c=C.length
  ·exact hh
  ·have:=h4 (C.length - 1) es oQ he
   rw [hen]at this;cases this
 rw [← e1]
 exact ⟨h1,by rw [e1];exact h.holds.segs.1,by omega⟩
end
end Go.Seg
namespace Go.Hin
open Go.Med
open Go.Seg (Log Keeps Holds HG DoneH HintOk mag)
open Go.Frm (Fnd encs GoodE fnds Ent)
open Go.Rep (Use)
def keptOf (L:Log) (M:Med):Kept:=L.l.map fun s=>(Seg.name s.1,(nget M.now (Seg.name s.1)).getD 0,M.file ((nget M.now (Seg.name s.1)).getD 0))
section
variable {n K r E B:Nat}{L:Log}{M:Med}{C:List (List Ent)}{N:Int}{b1 b2:Frm.Bs}
theorem kept_mem {t:ByteArray×Nat×Fil} (ht:t∈keptOf L M) (hh:Seg.Has L M):∃ s∈L.l,∃ i,nget M.now (Seg.name s.1)=some i∧t=(Seg.name s.1,i,M.file i):=by
 obtain ⟨s,hs,rfl⟩:=List.mem_map.1 ht
 obtain ⟨i,hi⟩:=hh s hs
 exact ⟨s,hs,i,hi,by rw [hi];rfl⟩
theorem mem_kept {s:Int×Int} (hs:s∈L.l){i:Nat} (hi:nget M.now (Seg.name s.1)=some i):(Seg.name s.1,i,M.file i)∈keptOf L M:=by
 refine List.mem_map.2 ⟨s,hs,?_⟩
 rw [hi];rfl
theorem kept_cf (hh:Seg.Has L M) (hne:∀ p∈M.now,p.1≠ByteArray.empty) (h1:0≤N) (h2:N<1048576):Cf (keptOf L M) (name idx N) (name use N):=by
 refine ⟨name_ne N h1 h2,idx_ne_tmp N h1 h2,use_ne_tmp N h1 h2,good_ne (name_good rfl dCz N h1 h2),good_ne (name_good rfl dCz N h1 h2),fun t ht=>?_⟩
 obtain ⟨s,hs,i,hi,rfl⟩:=kept_mem ht hh
 refine ⟨fun e=>?_,seg_ne_idx _ _ h1 h2,seg_ne_use _ _ h1 h2,hne _ (nget_mem hi)⟩
 have hb:=list_num e
 exact hb
where
 list_num {s:Int×Int} (e:Seg.name s.1=tmp):False:=by
  have h:=seg_name s.1
  rw [e]at h
  rcases h with h|⟨h,_⟩
  ·exact tmp_ne h
  ·exact absurd h dCz
theorem kept_other (hh:Seg.Has L M) (h1:0≤N) (h2:N<1048576):∀ s,((∃ t∈keptOf L M,s=t.1)∨s=tmp∨s=name idx N∨s=name use N)→other N s=false:=by
 rintro s (⟨t,ht,rfl⟩|rfl|rfl|rfl)
 ·obtain ⟨x,hx,i,hi,rfl⟩:=kept_mem ht hh
  exact other_no (by rw [number_seg])
 ·exact other_no (by rw [number_tmp])
 ·exact other_self (number_of (.inl idx_l) N h1 h2)
 ·exact other_self (number_of (.inr use_l) N h1 h2)
theorem DoneH.none (h:DoneH n L M C) (hn:n≤1000){s:ByteArray} (hs:∀ k:Nat,s≠Seg.name (k:Int)):nget M.now s=none:=by
 cases hi:nget M.now s with
 |none=>rfl
 |some i=>
  obtain ⟨k,_,hk⟩:=h.holds.only _ _ hi
  exact absurd hk (hs k)
theorem tmp_ne_seg (k:Int):tmp≠Seg.name k:=fun e=>by
 rcases seg_name k with q|⟨q,_⟩
 ·rw [q]at e;exact tmp_ne e
 ·rw [← e]at q;exact absurd q dCz
theorem DoneH.sv (h:DoneH n L M C) (hn:n≤1000) (h1:0≤N) (h2:N<1048576) (b1 b2:Frm.Bs) :
  Sv (keptOf L M) (name idx N) b1 (name use N) b2 (n * 5) M∧∀ t∈keptOf L M,FFlat t.2.2:=by
 have hh:=h.holds.keeps.has
 have hw:=h.flat.waits
 refine ⟨⟨h.holds.keeps.calm.ok,fun k hk=>?_,fun t ht=>?_⟩,fun t ht=>?_⟩
 ·rw [hw]at hk
  obtain rfl:k=0:=Nat.le_zero.1 hk
  have e:M.lastNames 0=M.now:=by unfold Med.lastNames;simp [h.flat.fast]
  rw [e]
  refine ⟨fun t ht=>?_,fun i hi=>?_,fun i hi=>?_,fun p hp=>?_⟩
  ·obtain ⟨s,hs,i,hi,rfl⟩:=kept_mem ht hh
   exact hi
  ·rw [DoneH.none h hn (fun k e=>seg_ne_idx k N h1 h2 e.symm)]at hi;cases hi
  ·rw [DoneH.none h hn (fun k e=>seg_ne_use k N h1 h2 e.symm)]at hi;cases hi
  ·have hi:=nget_of_mem h.holds.keeps.calm.ok.nowOk.srt.keys (show (p.1,p.2)∈M.now from hp)
   obtain ⟨k,k1,k2⟩:=h.holds.only _ _ hi
   left
   have hat:=h.holds.at_ k _ (List.getElem?_eq_getElem k1)
   rw [k2]at hi
   exact ⟨_,mem_kept (List.mem_of_getElem? hat) hi,k2⟩
 ·obtain ⟨s,hs,i,hi,rfl⟩:=kept_mem ht hh
  rfl
 ·obtain ⟨s,hs,i,hi,rfl⟩:=kept_mem ht hh
  exact h.flat.files _ (nget_mem hi)
structure Saved (N:Int) (b1 b2:Frm.Bs) (K:Nat) (L:Log) (M M':Med):Prop where
 zero:(save M N b1 b2).2=0
 med:(save M N b1 b2).1=M'
 calm:Seg.Calm K 1048576 M'
 sv:Sv (keptOf L M) (name idx N) b1 (name use N) b2 K M'
 one:∃ i,nget M'.now (name idx N)=some i
 two:∃ i,nget M'.now (name use N)=some i
 waits:M'.waits=[]
 used:M'.used≤M.used+b1.length+b2.length
 len:M'.now.length≤M.now.length+2
 names:∀ p∈M'.now,p∈M.now∨p.1=name idx N∨p.1=name use N
theorem DoneH.saved (h:DoneH n L M C) (hn:n≤100) (h1:0≤N) (h2:N<1048576) (hb:b1.length+b2.length≤100000):Saved N b1 b2 (n * 5+10) L M (save M N b1 b2).1:=by
 obtain ⟨sv,hfl⟩:=DoneH.sv h oQ h1 h2 b1 b2
 have hh:=h.holds.keeps.has
 have hc:=kept_cf (N:=N) hh h.holds.keeps.calm.ok.nowOk.ne h1 h2
 have ho:=kept_other (N:=N) hh h1 h2
 have hu:=h.holds.used
 have hnm:=h.holds.names
 obtain ⟨z1,z2,z3,z4,z5⟩:=save_zero (n:=N) (b1:=b1) (b2:=b2) h.holds.keeps.calm (DoneH.none h oQ fun k=>tmp_ne_seg k) oQ oQ (name_good rfl dCz N h1 h2) (name_good rfl dCz N h1 h2) hc.t1 hc.t2
  (fun p hp=>ho p.1 (sv.now.only p hp)) (ho _ (.inr (.inr (.inl rfl)))) (ho _ (.inr (.inr (.inr rfl))))
 obtain ⟨s1,s2⟩:=sv.save rfl rfl hc ho
 obtain ⟨t1,t2,t3⟩:=s2 z1
 exact ⟨z1,rfl,z2,s1,t1,t2,t3,z3,z4,z5⟩
theorem Saved.hg {M':Med} (s:Saved N b1 b2 K L M M') (h:Holds n L M C) (hn:n≤100) (h1:0≤N) (h2:N<1048576) (hb:b1.length+b2.length≤B):HG K 1048576 2 B n L M' C:=by
 have hfile:∀ x∈L.l,∃ i,nget M'.now (Seg.name x.1)=some i∧nget M.now (Seg.name x.1)=some i∧M'.file i=M.file i:=fun x hx=>by
  obtain ⟨i,hi⟩:=h.keeps.has x hx
  have hm:=mem_kept hx hi
  exact ⟨i,s.sv.now.seg _ hm,hi,s.sv.fil _ hm⟩
 refine ⟨⟨h.keeps.log,s.calm,fun x hx=>(hfile x hx).imp fun i q=>q.1⟩,h.len,h.at_,fun k es hk=>?_,h.good,h.count,by have:=s.used;have:=h.used;omega,by have:=s.len;have:=h.names;omega,fun k i hk hi=>?_⟩
 ·have hat:=List.mem_of_getElem? (h.at_ k es hk)
  obtain ⟨i,q1,q2,q3⟩:=hfile _ hat
  have hf:=h.file k es hk
  rw [Seg.all_some h.keeps.calm.quiet q2]at hf
  rw [Seg.all_some s.calm.quiet q1,q3];exact hf
 ·rcases s.names _ (nget_mem hi) with q|q|q
  ·have hi2:=nget_of_mem h.keeps.calm.ok.nowOk.srt.keys q
   obtain ⟨j,j1,j2⟩:=h.only _ _ hi2
   have:=h.count
   have:=Seg.name_inj oQ oQ oQ oQ j2
   omega
  ·exact absurd q (seg_ne_idx _ _ h1 h2)
  ·exact absurd q (seg_ne_use _ _ h1 h2)
theorem Saved.all {M':Med} (s:Saved N b1 b2 K L M M'):M'.all (name idx N)=(b1,0)∧M'.all (name use N)=(b2,0)∧there M' (name idx N)=true∧there M' (name use N)=true:=by
 obtain ⟨i,hi⟩:=s.one
 obtain ⟨j,hj⟩:=s.two
 refine ⟨?_,?_,there_some s.calm.quiet hi,there_some s.calm.quiet hj⟩
 ·rw [Seg.all_some s.calm.quiet hi,s.sv.now.one i hi]
 ·rw [Seg.all_some s.calm.quiet hj,s.sv.now.two j hj]
end
end Go.Hin
namespace Go.Hin
open Go.Med
open Go.Seg (Log Keeps Holds HG DoneH HintOk mag Plc)
open Go.Frm (Fnd encs GoodE fnds Ent)
open Go.Rep (Use)
section
variable {n K B c:Nat}{L:Log}{M M':Med}{C:List (List Ent)}{N:Int}{b1 b2:Frm.Bs}{us:List Use}
theorem split_le:∀ {l:List Int},l.Pairwise (· < ·)→∀ N:Int,l=l.filter (fun s=>decide (s≤N))++l.filter (fun s=>decide (N<s))
 |[],_,N=>rfl
 |a::l,h,N=>by
  obtain ⟨h1,h2⟩:=List.pairwise_cons.1 h
  have ih:=split_le h2 N
  by_cases ha:a≤N
  ·rw [List.filter_cons,if_pos (by simpa using ha),List.filter_cons,if_neg (by simp;omega),List.cons_append,← ih]
  ·have hn:l.filter (fun s=>decide (s≤N))=[]:=by
    rw [List.filter_eq_nil_iff]
    intro x hx
    have:=h1 x hx
    simp;omega
   rw [hn,List.nil_append]at ih
   rw [List.filter_cons,if_neg (by simpa using ha),hn,List.nil_append,List.filter_cons,if_pos (by simp;omega),← ih]
structure Anew (L:Log) (N:Int) (M4:Med):Prop where
 off:M4.off=false
 old:∀ s∈L.l,∃ i,nget M4.now (Seg.name s.1)=some i∧((M4.file i).now.length:Int)=s.2
 new:∀ (s:Int) (i:Nat),0≤s→s<1048576→nget M4.now (Seg.name s)=some i→s∈L.segs∨N<s
theorem Anew.fits {M4:Med} (a:Anew L N M4) (ok:M4.Ok K) (hL:L.Ok) (lim:Int) (l1:128≤lim) (l2:lim≤1048576){ps:List (Frm.Bs×Plc)} (ho:HintOk L c us ps) (hc:L.segs.take c=L.segs) (hN:L.segs.getLast?=some N) :
  fits (Seg.fresh M4 lim) us N=true∧(∀ s∈L.segs,(Seg.fresh M4 lim).size s=L.size s)∧∃ rest,(Seg.fresh M4 lim).segs=L.segs++rest∧∀ s∈rest,N<s:=by
 have hF:=Seg.fresh_ok ok lim l1 l2
 have hle:∀ s∈L.segs,s≤N:=fun s hs=>by
  obtain ⟨l',hl'⟩:=List.getLast?_eq_some_iff.1 hN
  have hr:=Seg.segs_rise hL
  rw [hl']at hs hr
  rcases List.mem_append.1 hs with hs|hs
  ·have:=(List.pairwise_append.1 hr).2.2 s hs N (by simp)
   omega
  ·rw [List.mem_singleton.1 hs];exact Int.le_refl _
 have hsz:∀ s∈L.segs,(Seg.fresh M4 lim).size s=L.size s:=fun s hs=>by
  obtain ⟨x,hx,rfl⟩:=List.mem_map.1 hs
  obtain ⟨i,hi,hl⟩:=a.old x hx
  have hm:x.1∈(Seg.fresh M4 lim).segs:=(fresh_iff a.off x.1).2 ⟨hL.nums x hx,i,hi⟩
  rw [fresh_size (K:=K) a.off hF hm hi,hl]
  obtain ⟨k,hk⟩:=Seg.at_mem hL hs
  obtain ⟨h2,y,h3,h4⟩:=Seg.Log.at_lt hk
  unfold Seg.Log.size
  rw [hk]
  simp only [List.getD_eq_getElem?_getD,h3,Option.getD_some]
  obtain ⟨q,hq,hq2⟩:=List.getElem_of_mem hx
  have hq3:L.l[q]?=some x:=by rw [List.getElem?_eq_getElem hq,hq2]
  have hr:=hL.rise
  have:k=q:=by
   rcases Nat.lt_trichotomy k q with e|e|e
   ·have:=List.pairwise_iff_getElem.1 hr k q (by rw [List.length_map];omega) (by rw [List.length_map];omega) e
    rw [List.getElem_map,List.getElem_map]at this
    have e1:=(List.getElem?_eq_some_iff.1 h3).2
    rw [e1,hq2]at this
    omega
   ·exact e
   ·have:=List.pairwise_iff_getElem.1 hr q k (by rw [List.length_map];omega) (by rw [List.length_map];omega) e
    rw [List.getElem_map,List.getElem_map]at this
    have e1:=(List.getElem?_eq_some_iff.1 h3).2
    rw [e1,hq2]at this
    omega
  subst this
  rw [h3]at hq3
  cases hq3;rfl
 have hrest:(Seg.fresh M4 lim).segs=L.segs++(Seg.fresh M4 lim).segs.filter (fun s=>decide (N<s)):=by
  have e:=split_le (Seg.segs_rise hF) N
  have e2:(Seg.fresh M4 lim).segs.filter (fun s=>decide (s≤N))=L.segs:=by
   refine Seg.int_ext ((Seg.segs_rise hF).filter _) (Seg.segs_rise hL) fun s=>?_
   rw [List.mem_filter]
   constructor
   ·rintro ⟨q1,q2⟩
    obtain ⟨⟨q3,q4⟩,i,hi⟩:=(fresh_iff a.off s).1 q1
    rcases a.new s i q3 q4 hi with q|q
    ·exact q
    ·simp at q2;omega
   ·intro hs
    refine ⟨?_,by simpa using hle s hs⟩
    obtain ⟨x,hx,rfl⟩:=List.mem_map.1 hs
    obtain ⟨i,hi,_⟩:=a.old x hx
    exact (fresh_iff a.off x.1).2 ⟨hL.nums x hx,i,hi⟩
  rw [e2]at e
  exact e
 have hmem:∀ s∈(Seg.fresh M4 lim).segs.filter (fun s=>decide (N<s)),N<s:=fun s hs=>by simpa using (List.mem_filter.1 hs).2
 refine ⟨?_,hsz,_,hrest,hmem⟩
 have hsegs:us.map (·.seg)=L.segs:=by rw [ho.segs,hc]
 unfold Hin.fits
 rw [hrest]
 refine fits_yes (fun u hu=>?_) ?_ _ 0 _ (by rw [List.drop_zero,hsegs]) hmem (Nat.zero_le _)
 ·have hm:u.seg∈L.segs:=by rw [← hsegs];exact List.mem_map.2 ⟨u,hu,rfl⟩
  obtain ⟨_,u2,u3,_⟩:=ho.use u hu
  exact ⟨hle _ hm,by rw [hsz _ hm];exact u3,u2⟩
 ·rw [← List.getLast?_map,hsegs];exact hN
end
structure Hd (T:Kept) (P:ByteArray→Prop) (K:Nat) (M:Med):Prop where
 ok:M.Ok K
 nm:∀ k,k≤M.waits.length→(∀ t∈T,nget (M.lastNames k) t.1=some t.2.1)∧∀ p∈M.lastNames k,(∃ t∈T,p.1=t.1)∨P p.1
 fil:∀ t∈T,M.file t.2.1=t.2.2
section
variable {T:Kept}{P:ByteArray→Prop}{K K' r:Nat}{M:Med}{s:ByteArray}{L:Log}{N:Int}
theorem Hd.mono (h:Hd T P K M) (hk:K≤K'):Hd T P K' M:=⟨h.ok.mono hk,h.nm,h.fil⟩
theorem Hd.now (h:Hd T P K M):(∀ t∈T,nget M.now t.1=some t.2.1)∧∀ p∈M.now,(∃ t∈T,p.1=t.1)∨P p.1:=by rw [h.ok.now];exact h.nm _ (Nat.le_refl _)
theorem Hd.like {M':Med} (h:Hd T P K M) (ok:M'.Ok K) (e1:M'.fast=M.fast) (e2:M'.waits=M.waits) (e3:M'.files=M.files):Hd T P K M':=by
 refine ⟨ok,fun k hk=>?_,fun t ht=>?_⟩
 ·rw [lastNames_congr e1 e2];rw [e2]at hk;exact h.nm k hk
 ·rw [file_congr e3];exact h.fil t ht
theorem Hd.step (h:Hd T P K M):Hd T P K M.step.1:=by
 obtain ⟨_,e1,e2,e3,e4⟩:=M.step_same
 exact h.like h.ok.step e1 e4 e3
theorem Hd.link (hT:∀ t∈T,¬ P t.1∧t.1≠ByteArray.empty) (h:Hd T P K M) (x:Lnk) (ok:(M.link x).Ok (K+1)) (h1:x.fr=ByteArray.empty∨P x.fr) (h2:x.to=ByteArray.empty∨P x.to):Hd T P (K+1) (M.link x):=by
 have hf:(M.link x).file=M.file:=file_congr rfl
 refine ⟨ok,fun k hk=>?_,fun t ht=>by rw [hf];exact h.fil t ht⟩
 have hw:(M.link x).waits.length=M.waits.length+1:=by simp [Med.link]
 rw [hw]at hk
 rcases Nat.lt_or_ge k (M.waits.length+1) with q|q
 ·rw [M.lastNames_link x k oQ];exact h.nm k oQ
 ·obtain rfl:k=M.waits.length+1:=by omega
  rw [M.lastNames_last x h.ok.now]
  obtain ⟨n1,n2⟩:=h.now
  refine ⟨fun t ht=>?_,fun p hp=>?_⟩
  ·obtain ⟨a,b⟩:=hT t ht
   rw [Seg.on_ne (fun e=>by rcases h1 with q|q <;> rw [e]at q <;> first|exact b q|exact a q) (fun e=>by rcases h2 with q|q <;> rw [e]at q <;> first|exact b q|exact a q)]
   exact n1 t ht
  ·unfold Lnk.on at hp
   simp only at hp
   have hd:∀ {l:Names} {u:ByteArray},p∈ndel l u→p∈l:=fun hq=>(List.mem_filter.1 hq).1
   have key:p∈M.now∨(x.to≠ByteArray.empty∧p.1=x.to):=by
    split at hp
    ·split at hp
     ·exact .inl hp
     ·exact .inl (hd hp)
    ·rename_i hto
     rcases List.mem_cons.1 ((nput_perm _ _ _).mem_iff.1 hp) with rfl|hp
     ·exact .inr ⟨hto,rfl⟩
     ·have hp:=hd hp
      split at hp
      ·exact .inl hp
      ·exact .inl (hd hp)
   rcases key with q|⟨q1,q2⟩
   ·exact n2 p q
   ·right;rw [q2];exact h2.resolve_left q1
theorem Hd.create (hT:∀ t∈T,¬ P t.1∧t.1≠ByteArray.empty) (h:Hd T P K M) (hs:P s):Hd T P (K+1) (M.create s).1:=by
 have ok:=h.ok.create s
 have hk:=h.mono (Nat.le_succ K)
 unfold Med.create at ok ⊢
 split;· exact hk
 rename_i c0;rw [if_neg c0]at ok
 split;· exact hk
 rename_i c1;rw [if_neg c1]at ok
 split;· exact hk
 rename_i c2;rw [if_neg c2]at ok
 split;· exact hk
 rename_i c3;rw [if_neg c3]at ok
 split;· exact h.step.mono (Nat.le_succ K)
 rename_i c4;rw [if_neg c4]at ok
 obtain ⟨_,e1,e2,e3,e4⟩:=M.step_same
 have hnf:Hd T P K { M.step.1 with files:=M.files++[Fil.new] }:=by
  have ok2:=h.step.ok.newFile
  rw [e3]at ok2
  refine ⟨ok2,fun k hk=>?_,fun t ht=>?_⟩
  ·have:({ M.step.1 with files:=M.files++[Fil.new] }:Med).lastNames k=M.step.1.lastNames k:=lastNames_congr rfl rfl k
   rw [this];exact h.step.nm k hk
  ·have:({ M.step.1 with files:=M.files++[Fil.new] }:Med).file t.2.1=M.file t.2.1:=Seg.file_snoc M _
   rw [this];exact h.fil t ht
 exact hnf.link hT _ ok (.inl rfl) (.inr hs)
theorem Hd.remove (hT:∀ t∈T,¬ P t.1∧t.1≠ByteArray.empty) (h:Hd T P K M) (hs:P s):Hd T P (K+1) (M.remove s).1:=by
 have ok:=h.ok.remove s
 unfold Med.remove at ok ⊢
 split;· exact h.mono (Nat.le_succ K)
 rename_i ho
 rw [if_neg ho]at ok
 cases hn:nget M.now s with
 |none=>exact h.mono (Nat.le_succ K)
 |some i=>
  rw [hn]at ok
  simp only at ok ⊢
  split
  ·exact h.step.mono (Nat.le_succ K)
  ·rename_i hst
   rw [if_neg hst]at ok
   exact h.step.link hT _ ok (.inr hs) (.inl rfl)
theorem Hd.setFile (h:Hd T P K M){j:Nat} (hj:j<M.files.length) (hne:∀ t∈T,t.2.1≠j) (f:Fil) (ok:(M.setFile j f).Ok (K+1)):Hd T P (K+1) (M.setFile j f):=by
 refine ⟨ok,fun k hk=>?_,fun t ht=>?_⟩
 ·have:(M.setFile j f).lastNames k=M.lastNames k:=lastNames_congr rfl rfl k
  rw [this];exact h.nm k hk
 ·rw [file_set hj,if_neg (hne t ht)];exact h.fil t ht
theorem Hd.ne (hT:∀ t∈T,¬ P t.1∧t.1≠ByteArray.empty) (h:Hd T P K M) (c:Seg.Calm K' r M) (hs:P s){j:Nat} (hj:nget M.now s=some j):∀ t∈T,t.2.1≠j:=fun t ht e=>by
 have h1:=h.now.1 t ht
 rw [e]at h1
 have:=Seg.dst_inj c h1 hj
 rw [this]at hs
 exact (hT t ht).1 hs
theorem Hd.append (hT:∀ t∈T,¬ P t.1∧t.1≠ByteArray.empty) (h:Hd T P K M) (c:Seg.Calm K' r M) (hs:P s) (b:Frm.Bs):Hd T P (K+1) (M.append s b).1:=by
 have ok:=h.ok.append s b
 have hk:=h.mono (Nat.le_succ K)
 obtain ⟨_,e1,e2,e3,e4⟩:=M.step_same
 unfold Med.append at ok ⊢
 split;· exact hk
 rename_i c0;rw [if_neg c0]at ok
 split;· exact hk
 rename_i j hj
 rw [hj]at ok
 simp only at ok
 split;· exact hk
 rename_i c1;rw [if_neg c1]at ok
 split;· exact h.step.mono (Nat.le_succ K)
 rename_i c2;rw [if_neg c2]at ok
 exact h.step.setFile (by rw [e3];exact h.ok.nowOk.ids _ (nget_mem hj)) (h.ne hT c hs hj) _ ok
theorem Hd.sync (hT:∀ t∈T,¬ P t.1∧t.1≠ByteArray.empty) (h:Hd T P K M) (c:Seg.Calm K' r M) (hs:P s):Hd T P (K+1) (M.sync s).1:=by
 have ok:=h.ok.sync s
 have hk:=h.mono (Nat.le_succ K)
 obtain ⟨_,e1,e2,e3,e4⟩:=M.step_same
 unfold Med.sync at ok ⊢
 split;· exact hk
 rename_i c0;rw [if_neg c0]at ok
 split;· exact hk
 rename_i j hj
 rw [hj]at ok
 simp only at ok
 split;· exact h.step.mono (Nat.le_succ K)
 rename_i c2;rw [if_neg c2]at ok
 exact h.step.setFile (by rw [e3];exact h.ok.nowOk.ids _ (nget_mem hj)) (h.ne hT c hs hj) _ ok
theorem Hd.lappend (hT:∀ t∈T,¬ P t.1∧t.1≠ByteArray.empty) (h:Hd T P K M) (hk:Keeps K' r L M) (hP:∀ m:Int,N<m→P (Seg.name m)) (hon:L.on=true→∀ s,L.l.getLast?=some s→N<s.1) (hnx:N<L.next) (x:Ent) :
  Hd T P (K+4) (L.append M x).1.2:=by
 have hshut:Hd T P (K+1) (L.shut M).1.2:=by
  unfold Log.shut
  split
  ·exact h.mono (Nat.le_succ K)
  ·rename_i q hq
   split
   ·rename_i ho'
    split <;> exact h.sync hT hk.calm (hP _ (hon ho' _ hq))
   ·exact h.mono (Nat.le_succ K)
 unfold Log.append
 split;· exact h.mono oQ
 split
 ·rename_i hf
  unfold Log.grow
  split
  ·exact h.mono oQ
  ·rename_i q hq
   split <;> exact (h.append hT hk.calm (hP _ (hon (Seg.fits_on' hf) _ hq)) _).mono oQ
 ·unfold Log.begin
  obtain ⟨k1,k2,k3,_,_⟩:=hk.shut
  by_cases hsh:(L.shut M).2=0
  ·rw [if_pos hsh]
   have hnx2:N<(L.shut M).1.1.next:=by unfold Log.next at hnx ⊢;rw [k3];exact hnx
   generalize (L.shut M).1.1=L1 at *
   generalize (L.shut M).1.2=M1 at *
   have hp:=hP _ hnx2
   have a1:=hshut.create hT hp
   have a2:=a1.append hT (k1.calm.create _) hp (mag++(Frm.encode x).1)
   unfold Log.begin1
   split;· exact hshut.mono oQ
   split;· exact a1.mono oQ
   split;· exact a2.mono oQ
   split
   ·exact a2.remove hT hp
   ·exact a2.mono oQ
  ·rw [if_neg hsh];exact hshut.mono oQ
end
def appendsL:List Ent→Log→Med→Log×Med
 |[],L,M=>(L,M)
 |x::xs,L,M=>appendsL xs (L.append M x).1.1 (L.append M x).1.2
theorem appendsL_snoc (xs:List Ent) (x:Ent):∀ (L:Log) (M:Med),appendsL (xs++[x]) L M=((appendsL xs L M).1.append (appendsL xs L M).2 x).1:=by
 induction xs with
 |nil=>intro L M;rfl
 |cons d xs ih=>intro L M;exact ih _ _
section
variable {T:Kept}{P:ByteArray→Prop}{n K K' E B c:Nat}{L:Log}{M M':Med}{C:List (List Ent)}{N:Int}{b1 b2:Frm.Bs}{us:List Use}
structure More (T:Kept) (P:ByteArray→Prop) (N:Int) (K E B n:Nat) (L:Log) (M:Med) (C:List (List Ent)):Prop where
 hg:HG K 1048576 E B n L M C
 hd:Hd T P K M
 on:L.on=true→N+1<C.length
 len:N+1≤C.length
theorem More.step (hT:∀ t∈T,¬ P t.1∧t.1≠ByteArray.empty) (hP:∀ m:Int,N<m→P (Seg.name m)) (h:More T P N K E B n L M C) (hn:n<1000) (x:Ent) (hk:x.key.length=32) (hd:x.data.length≤300) :
  ∃ C',More T P N (K+4) E B (n+1) (L.append M x).1.1 (L.append M x).1.2 C':=by
 have hnx:L.next=C.length:=h.hg.next
 have hHd:=h.hd.lappend (N:=N) hT h.hg.keeps hP (fun ho s hs=>by
  have h1:=h.on ho
  rw [List.getLast?_eq_getElem?]at hs
  have hl:=h.hg.len
  have hlt:=(List.getElem?_eq_some_iff.1 hs).1
  have h2:=h.hg.at_ _ _ (List.getElem?_eq_getElem (show L.l.length - 1<C.length by omega))
  rw [h2]at hs
  cases hs
  simp only;omega) (by have:=h.len;omega) x
 by_cases h0:(Frm.encode x).2=0
 ·by_cases hz:(L.append M x).2.2=0
  ·obtain ⟨a1,a2,a3,a4,_⟩:=h.hg.append oQ x hk hd h0 (.inl hz)
   have hlen:C.length≤(Seg.put C (L.fits (Frm.encode x).1.length) x).length∧N+1<(Seg.put C (L.fits (Frm.encode x).1.length) x).length:=by
    unfold Seg.put
    split
    ·rename_i hf
     have:=h.on (Seg.fits_on' hf)
     rw [List.length_append,List.length_dropLast,List.length_singleton];omega
    ·rw [List.length_append,List.length_singleton];have:=h.len;omega
   exact ⟨_,a4,hHd,fun _=>hlen.2,by omega⟩
  ·refine ⟨C,(h.hg.append_no x hk hz).mono (Nat.le_refl _) (Nat.le_refl _) (Nat.le_refl _) (Nat.le_succ n),hHd,fun ho=>?_,h.len⟩
   exact h.on (append_on h0 hz ho)
 ·have e:=Seg.Log.append_bad (L:=L) (M:=M) h0
  rw [e]
  exact ⟨C,h.hg.mono oQ (Nat.le_refl _) (Nat.le_refl _) (Nat.le_succ n),h.hd.mono oQ,h.on,h.len⟩
where
 append_on {L:Log} {M:Med} {x:Ent} (h0:(Frm.encode x).2=0) (hz:(L.append M x).2.2≠0) (ho:(L.append M x).1.1.on=true):L.on=true:=by
  cases hf:L.fits (Frm.encode x).1.length with
  |true=>exact Seg.fits_on' hf
  |false=>
   rw [Seg.Log.append_begin h0 hf]at hz ho
   have hs:(L.shut M).1.1.on=true→L.on=true:=by
    unfold Log.shut
    split
    ·exact fun e=>e
    ·split
     ·rename_i q;exact fun _=>q
     ·exact fun e=>e
   unfold Log.begin at hz ho
   split at ho
   ·rename_i e2
    rw [if_pos e2]at hz
    unfold Log.begin1 at hz ho
    split at ho;· exact hs ho
    rename_i g1;rw [if_neg g1]at hz
    split at ho;· exact hs ho
    rename_i g2;rw [if_neg g2]at hz
    split at ho
    ·rename_i g3;rw [if_pos g3]at hz;exact absurd rfl hz
    split at ho <;> exact hs ho
   ·exact hs ho
theorem More.all (hT:∀ t∈T,¬ P t.1∧t.1≠ByteArray.empty) (hP:∀ m:Int,N<m→P (Seg.name m)):∀ (xs:List Ent) (n K:Nat) (L:Log) (M:Med) (C:List (List Ent)),More T P N K E B n L M C→(∀ x∈xs,x.key.length=32∧x.data.length≤300)→n+xs.length≤900 →
  ∃ C',More T P N (K+4 * xs.length) E B (n+xs.length) (appendsL xs L M).1 (appendsL xs L M).2 C'
 |[],n,K,L,M,C,h,_,_=>⟨C,h⟩
 |x::xs,n,K,L,M,C,h,hx,hn=>by
  rw [List.length_cons]at hn
  obtain ⟨C1,h1⟩:=h.step hT hP oQ x (hx x (.head _)).1 (hx x (.head _)).2
  obtain ⟨C2,h2⟩:=More.all hT hP xs (n+1) (K+4) _ _ C1 h1 (fun y hy=>hx y (.tail _ hy)) oQ
  refine ⟨C2,?_⟩
  rw [List.length_cons,show n+(xs.length+1)=n+1+xs.length by omega,show K+4 * (xs.length+1)=K+4+4 * xs.length by omega]
  exact h2
def keptAll (L:Log) (M:Med) (N:Int) (i1 i2:Nat) (b1 b2:Frm.Bs):Kept:=keptOf L M++[(name idx N,i1,⟨b1,b1,[]⟩),(name use N,i2,⟨b2,b2,[]⟩)]
def newer (N:Int) (s:ByteArray):Prop:=∃ m:Int,N<m∧s=Seg.name m
theorem Saved.more (s:Saved N b1 b2 K L M M') (h:DoneH n L M C) (hn:n≤100) (h1:0≤N) (h2:N<1048576) (hN:N=(C.length:Int) - 1) (hb:b1.length+b2.length≤B) :
  ∃ i1 i2,nget M'.now (name idx N)=some i1∧nget M'.now (name use N)=some i2∧More (keptAll L M N i1 i2 b1 b2) (newer N) N K 2 B n L M' C∧(∀ t∈keptAll L M N i1 i2 b1 b2,¬ newer N t.1∧t.1≠ByteArray.empty)∧∀ t∈keptAll L M N i1 i2 b1 b2,FFlat t.2.2:=by
 obtain ⟨i1,j1⟩:=s.one
 obtain ⟨i2,j2⟩:=s.two
 obtain ⟨_,hfl⟩:=DoneH.sv h oQ h1 h2 b1 b2
 have hh:=h.holds.keeps.has
 have hcnt:=h.holds.count
 refine ⟨i1,i2,j1,j2,⟨Saved.hg s h.holds hn h1 h2 hb,⟨s.sv.ok,fun k hk=>?_,fun t ht=>?_⟩,fun e=>(by rw [h.off]at e;cases e),by omega⟩,fun t ht=>?_,fun t ht=>?_⟩
 ·rw [s.waits]at hk
  obtain rfl:k=0:=Nat.le_zero.1 hk
  have e:M'.lastNames 0=M'.now:=by rw [s.sv.ok.now,s.waits];rfl
  rw [e]
  refine ⟨fun t ht=>?_,fun p hp=>?_⟩
  ·rcases List.mem_append.1 ht with ht|ht
   ·exact s.sv.now.seg t ht
   ·rcases List.mem_cons.1 ht with rfl|ht
    ·exact j1
    ·rw [List.mem_singleton.1 ht];exact j2
  ·left
   rcases s.names p hp with q|q|q
   ·have hi:=nget_of_mem h.holds.keeps.calm.ok.nowOk.srt.keys (show (p.1,p.2)∈M.now from q)
    obtain ⟨k,k1,k2⟩:=h.holds.only _ _ hi
    have hat:=h.holds.at_ k _ (List.getElem?_eq_getElem k1)
    rw [k2]at hi
    exact ⟨_,List.mem_append.2 (.inl (mem_kept (List.mem_of_getElem? hat) hi)),k2⟩
   ·exact ⟨_,List.mem_append.2 (.inr (.head _)),q⟩
   ·exact ⟨_,List.mem_append.2 (.inr (.tail _ (.head _))),q⟩
 ·rcases List.mem_append.1 ht with ht|ht
  ·exact s.sv.fil t ht
  ·rcases List.mem_cons.1 ht with rfl|ht
   ·exact s.sv.now.one _ j1
   ·rw [List.mem_singleton.1 ht];exact s.sv.now.two _ j2
 ·rcases List.mem_append.1 ht with ht|ht
  ·obtain ⟨x,hx,i,hi,rfl⟩:=kept_mem ht hh
   refine ⟨?_,h.holds.keeps.calm.ok.nowOk.ne _ (nget_mem hi)⟩
   rintro ⟨m,m1,m2⟩
   obtain ⟨q,hq⟩:=List.getElem?_of_mem hx
   have hql:=(List.getElem?_eq_some_iff.1 hq).1
   have hat:=h.holds.at_ q _ (List.getElem?_eq_getElem (show q<C.length by rw [← h.holds.len];exact hql))
   rw [hq]at hat
   cases hat
   simp only at m2
   have hqc:q<C.length:=by rw [← h.holds.len];exact hql
   by_cases hm:m<1048576
   ·have:=Seg.name_inj oQ oQ oQ hm m2
    omega
   ·have e:Seg.name m=ByteArray.empty:=by unfold Seg.name;rw [if_pos oQ]
    rw [e]at m2
    exact h.holds.keeps.calm.ok.nowOk.ne _ (nget_mem hi) m2
  ·rcases List.mem_cons.1 ht with rfl|ht
   ·exact ⟨fun ⟨m,_,m2⟩=>seg_ne_idx m N h1 h2 m2.symm,good_ne (name_good rfl dCz N h1 h2)⟩
   ·rw [List.mem_singleton.1 ht]
    exact ⟨fun ⟨m,_,m2⟩=>seg_ne_use m N h1 h2 m2.symm,good_ne (name_good rfl dCz N h1 h2)⟩
 ·rcases List.mem_append.1 ht with ht|ht
  ·exact hfl t ht
  ·rcases List.mem_cons.1 ht with rfl|ht
   ·exact ⟨rfl,rfl⟩
   ·rw [List.mem_singleton.1 ht];exact ⟨rfl,rfl⟩
theorem newer_name:∀ m:Int,N<m→newer N (Seg.name m):=fun m h=>⟨m,h,rfl⟩
theorem kept_len {n:Nat} (h:Holds n L M C){s:Int×Int} (hs:s∈L.l){i:Nat} (hi:nget M.now (Seg.name s.1)=some i):((M.file i).now.length:Int)=s.2:=by
 obtain ⟨q,hq⟩:=List.getElem?_of_mem hs
 have hql:=(List.getElem?_eq_some_iff.1 hq).1
 have hc:=List.getElem?_eq_getElem (show q<C.length by rw [← h.len];exact hql)
 have hat:=h.at_ q _ hc
 have hf:=h.file q _ hc
 rw [hq]at hat
 cases hat
 rw [Seg.all_some h.keeps.calm.quiet hi]at hf
 have:=congrArg (fun z=>z.1.length) hf
 simp only [List.length_append]at this
 rw [this]
 have:mag.length=8:=rfl
 simp only
 omega
theorem Hd.crash {i1 i2:Nat} (h:DoneH n L M C) (hd:Hd (keptAll L M N i1 i2 b1 b2) (newer N) K M') (hfl:∀ t∈keptAll L M N i1 i2 b1 b2,FFlat t.2.2) (h1:0≤N) (h2:N<1048576) (l:List Int) :
  Anew L N (M'.crash l)∧(M'.crash l).all (name idx N)=(b1,0)∧(M'.crash l).all (name use N)=(b2,0)∧there (M'.crash l) (name idx N)=true∧there (M'.crash l) (name use N)=true∧(M'.crash l).Ok K:=by
 obtain ⟨k,hk,hn⟩:=crash_now M' l
 obtain ⟨n1,n2⟩:=hd.nm k hk
 have q:Quiet (M'.crash l):=Quiet.crash M' l
 have m1:(name idx N,i1,(⟨b1,b1,[]⟩:Fil))∈keptAll L M N i1 i2 b1 b2:=List.mem_append.2 (.inr (.head _))
 have m2:(name use N,i2,(⟨b2,b2,[]⟩:Fil))∈keptAll L M N i1 i2 b1 b2:=List.mem_append.2 (.inr (.tail _ (.head _)))
 have hfile:∀ t∈keptAll L M N i1 i2 b1 b2,nget (M'.crash l).now t.1=some t.2.1∧(M'.crash l).file t.2.1=t.2.2:=fun t ht=>
  ⟨by rw [hn];exact n1 t ht,by rw [crash_keep l (by rw [hd.fil t ht];exact hfl t ht)];exact hd.fil t ht⟩
 obtain ⟨a1,a2⟩:=hfile _ m1
 obtain ⟨a3,a4⟩:=hfile _ m2
 refine ⟨⟨rfl,fun s hs=>?_,fun s i s1 s2 hi=>?_⟩,?_,?_,there_some q a1,there_some q a3,hd.ok.crash l⟩
 ·obtain ⟨i,hi⟩:=h.holds.keeps.has s hs
  obtain ⟨c1,c2⟩:=hfile _ (List.mem_append.2 (.inl (mem_kept hs hi)))
  exact ⟨i,c1,by rw [c2];exact kept_len h.holds hs hi⟩
 ·rw [hn]at hi
  rcases n2 _ (nget_mem hi) with ⟨t,ht,e⟩|⟨m,e1,e2⟩
  ·simp only at e
   rcases List.mem_append.1 ht with ht|ht
   ·obtain ⟨x,hx,j,hj,rfl⟩:=kept_mem ht h.holds.keeps.has
    have hxn:=h.holds.keeps.log.nums x hx
    left
    rw [Seg.name_inj s1 s2 hxn.1 hxn.2 e]
    exact List.mem_map.2 ⟨x,hx,rfl⟩
   ·rcases List.mem_cons.1 ht with rfl|ht
    ·exact absurd e (seg_ne_idx _ _ h1 h2)
    ·rw [List.mem_singleton.1 ht]at e
     exact absurd e (seg_ne_use _ _ h1 h2)
  ·right
   simp only at e2
   by_cases hm:m<1048576
   ·rw [Seg.name_inj s1 s2 oQ hm e2];exact e1
   ·have e:Seg.name m=ByteArray.empty:=by unfold Seg.name;rw [if_pos oQ]
    have:=good_ne (Seg.good_name s s1 s2)
    rw [e2,e]at this
    exact absurd rfl this
 ·rw [Seg.all_some q a1,a2]
 ·rw [Seg.all_some q a3,a4]
end
end Go.Hin
namespace Go.Seg
def Cal.cutH (c:Cal):Cal:=⟨c.kind,Frm.cutE 120 c.e,c.n,c.p,c.l.take 40⟩
def fewCH (l:List Cal) (n:Nat):List Cal:=(l.take n).map Cal.cutH
end Go.Seg
namespace Go.Proofs.YtlinnpehkfbnkaaGreatDoor
open Go Go.Sl Go.Med Go.MapKept Go.RowKit
section
variable {w0 w:World}{F R:List HProp}{v bv dv x lv:Value}
theorem fewH_keys {ds es:List SD}{i:Nat} (h:es.map (·.c)=((ds.map (·.c)).take i).map Seg.Cal.cutH) (hk:∀ p∈ds,p.c.e.key.length=32):∀ p∈es,p.c.e.key.length=32:=by
 intro p hp
 have h1:p.c∈es.map (·.c):=List.mem_map.2 ⟨p,hp,rfl⟩
 rw [h,List.mem_map]at h1
 obtain ⟨x,hx,he⟩:=h1
 obtain ⟨q,hq,rfl⟩:=List.mem_map.1 (List.mem_of_mem_take hx)
 rw [← he]
 exact hk q hq
set_option maxRecDepth 20000 in
theorem fewH_c (ds:List SD) (n:Nat) (hn:n≤1048576) (hr:Ro w0 F (rdsl 40 lv (sdsL ds))) (he:∀ d∈ds,SDRo w0 F d) (h:Sat w0 w F) :
  Calls Tryz.prog 9 #[lv,.int .i64 n] w (Rtn fun v w'=>∃ (es:List SD) (ov:Value),v=ov∧es.map (·.c)=Seg.fewCH (ds.map (·.c)) n∧(∀ d∈es,Ro w0 F (rdsl 1 d.lv (ints d.c.l))∧capOk d.lv) ∧
   Sat w0 w' (osl 63 40 ov (sdsL es)::dataD es::F)):=by
 obtain ⟨la,ln,lc,rfl,hl,_⟩:=hr w h
 rw [sdsL_len (fun p hp=>(he p hp).key)]at hl
 obtain rfl:ln=ds.length:=by omega
 have Hr:=uQ hr;have He:=uQ he;have Hn:=uQ hn
 clear hr he hl hn
 go_enter Tryz.func9,Tryz.ntmps9
 go_wp2_with fail
 go_loopg [5,6] ds.length (fun g ov iq wr=>∃ (i:Nat) (es:List SD),g=ds.length - i∧i≤ds.length∧i≤n∧iq = .int .i64 i∧es.map (·.c)=((ds.map (·.c)).take i).map Seg.Cal.cutH∧(∀ d∈es,Ro w0 F (rdsl 1 d.lv (ints d.c.l))∧capOk d.lv) ∧
  Sat w0 wr (osl 63 40 ov (sdsL es)::dataD es::F))
 case atStart=>exact ⟨0,[],rfl,Nat.zero_le _,Nat.zero_le _,rfl,rfl,(fun d hd=>by cases hd),Sat.osl_nil.2 (Sat.emp.2 h)⟩
 case round=>
  obtain ⟨i,es,rfl,hi,hin,rfl,hfs,hls,hS⟩:=hrel
  have Hfs:=uQ hfs;have Hi:=uQ hi;have Hin:=uQ hin;have Hls:=uQ hls
  clear h hfs hi hin hls
  by_cases hlt:i<ds.length∧i<n
  ·obtain ⟨hl1,hl2⟩:=hlt
   have c1:(i:Int)<(ds.length:Int):=oQ
   have c2:(i:Int)<(n:Int):=oQ
   have hwi:IntKind.i64.wrap ((i:Int)+1)=(i:Int)+1:=IntWalk.i64_in _ (by have:=Hn.out;omega)
   have Hl1:=uQ hl1;have Hl2:=uQ hl2
   have Hfk:=uQ (fewH_keys Hfs.out (fun p hp=>(He.out p hp).key))
   clear hl1 hl2
   obtain ⟨x,hx⟩:∃ x,ds[i]?=some x:=⟨_,List.getElem?_eq_getElem Hl1.out⟩
   have hxe:=He.out x (List.mem_of_getElem? hx)
   have hk:∀ p∈ds,p.c.e.key.length=32:=fun p hp=>(He.out p hp).key
   have hcut:=uQ (show es.map (·.c)++[x.c.cutH]=((ds.map (·.c)).take (i+1)).map Seg.Cal.cutH by
    rw [Hfs.out,List.take_add_one,List.map_append,List.getElem?_map,hx];rfl)
   have hrF:Ro w0 (osl 63 40 u5 (sdsL es)::dataD es::F) (rdsl 40 (.slice la ds.length lc) (sdsL ds)):=Ro.os Hr.out
   have hx0:(sdsL ds)[i * 40+0]?=some (.int .i64 x.c.kind):=sdsL_at hk hx rfl
   obtain ⟨bk,off,rfl,_⟩:=rdsl_cells (hrF _ hS) hx0
   have HG:=uQ (show ∀ w' L,Ro w0 L (rdsl 40 (.slice (some ⟨bk,off,none⟩) ds.length lc) (sdsL ds))→Sat w0 w' L→∀ j v,(sdL x)[j]?=some v→w'.cell? ⟨bk,off+i * 40+j,none⟩=some v by
    intro w' L hL hw j v hj
    obtain ⟨bk',off',hbo,hcell⟩:=rdsl_cells (hL w' hw) hx0
    cases hbo
    have:=hcell _ _ (sdsL_at hk hx hj)
    rw [← Nat.add_assoc]at this
    exact this)
   obtain ⟨⟨kind,e,xn,xp,xl⟩,dv,lv⟩:=x
   obtain ⟨hkey,hrd,hcap,hrl,hcapl⟩:=hxe
   obtain ⟨da,dn,dc,rfl,hdn,hdc⟩:=hcap
   obtain ⟨la2,ln2,lc2,rfl,hln2,hlc2⟩:=hcapl
   have hdl:dn=e.data.length:=by
    obtain ⟨a',n',c',he,hl,_⟩:=hrd _ (hS.sb)
    cases he
    rw [bys_len,Nat.mul_one]at hl;exact hl.symm
   subst hdl
   have Hrd:=uQ hrd;have Hrl:=uQ hrl;have Hkey:=uQ hkey
   have Hones:=uQ (sdA_ones ⟨⟨kind,e,xn,xp,xl⟩,.slice da e.data.length dc,.slice la2 ln2 lc2⟩ rfl rfl)
   have Hsize:=uQ (sdA_size ⟨⟨kind,e,xn,xp,xl⟩,.slice da e.data.length dc,.slice la2 ln2 lc2⟩ hkey)
   clear hx hk hrF hx0 hrd hrl hkey
   go_wp2_with (first
    |((with_reducible refine at_load ⟨?_⟩);refine wl_loadW (b:=bk) (o:=off+i * 40) (sdL ⟨⟨kind,e,xn,xp,xl⟩,.slice da e.data.length dc,.slice la2 ln2 lc2⟩) rFz (HG.out _ _ (Ro.os Hr.out) hS) Tryz.underlying63 rfl (by rw [sdL_len _ Hkey.out];exact infoDo) ?_)
    |((with_reducible refine at_alloc ⟨?_⟩);refine wl_alloc zDo aQ rfl ?_;intro q w1 hS1)
    |((with_reducible refine at_store ⟨?_⟩);refine wl_storeA (sdA ⟨⟨kind,e,xn,xp,xl⟩,.slice da e.data.length dc,.slice la2 ln2 lc2⟩) hS1 (cs:=sdA zeroD) rFz rFz (Hsize.out.trans (sdA_size zeroD rfl).symm) upD (by rw [Hsize.out];exact infoDo) Hones.out ?_;intro w2 hS2)
    |((with_reducible refine at_load ⟨?_⟩);refine wl_loadN (b:=q) (o:=1) (entL e (.slice da e.data.length dc)) hS2 rFz pkD (sdA_ent _ Hkey.out) Tryz.underlying27 rfl (by rw [entL_len e _ Hkey.out];exact infoEntSize) ?_)
    |((with_reducible refine at_buildE ⟨?_⟩);refine wl_buildE hS2 rFz Hkey.out ?_;intro bN wN hN))
   refine (few_c (lv:= .slice (some ⟨bN,0,none⟩) 1 1) [(e,.slice da e.data.length dc)] 1 120 dCz dCz (ro_one Hkey.out) (fun p hp=>by
    rw [List.mem_singleton]at hp
    subst hp
    exact ⟨Hkey.out,Ro.os Hrd.out,⟨_,_,_,rfl,hdn,hdc⟩⟩) hN).mono ?_
   rintro ee w3 ⟨v,rfl,fs,hfs,hS3⟩
   obtain ⟨dv2,rfl⟩:=few_one hfs
   have hk2:(Frm.cutE 120 e).key.length=32:=Hkey.out
   obtain ⟨b2,c2,cs2,da2,dc2,rfl,rfl,hcs,hS4⟩:=few_open hk2 hS3
   have Hk2:=uQ hk2
   have Hcut2:=uQ (show (⟨kind,Frm.cutE 120 e,xn,xp,xl.take 40⟩:Seg.Cal)=Seg.Cal.cutH ⟨kind,e,xn,xp,xl⟩ from rfl)
   generalize Frm.cutE 120 e=f at *
   have Hcs:=uQ hcs
   have Hones2:=uQ (sdA_ones ⟨⟨kind,f,xn,xp,xl⟩,.slice da2 f.data.length dc2,.slice la2 ln2 lc2⟩ rfl rfl)
   clear hcs hS3 hfs hN hS2 hS1 hS hk2 Hones
   go_wp2_with (first
    |((with_reducible refine at_load ⟨?_⟩);refine wl_loadEs (b:=b2) (o:=0) aQ rFz pkD Hk2.out Hcs.out ?_)
    |((with_reducible refine at_store ⟨?_⟩);refine wl_store (b:=q) (o:=1) (v:= .agg (entA f (.slice da2 f.data.length dc2))) aQ rFz rFz (puts_ent _ Hkey.out f (.slice da2 f.data.length dc2) Hk2.out) upD (by rw [Hsize.out];show 1+(entA f _).size≤40;rw [entA_size _ _ Hk2.out];decide) (by show _=some (entA f _).size;rw [entA_size _ _ Hk2.out];exact infoEntSize) (entA_one _ _ _ _) ?_;intro w5 hS5)
    |(with_reducible apply at_load))
   generalize hd2:(⟨⟨kind,f,xn,xp,xl⟩,.slice da2 f.data.length dc2,.slice la2 ln2 lc2⟩:SD)=d2 at hS5
   have hd2k:d2.c.e.key.length=32:=by rw [← hd2];exact Hk2.out
   have hd2l:d2.lv = .slice la2 ln2 lc2:=by rw [← hd2]
   have Hd2k:=uQ hd2k
   refine ⟨wl_load1 (b:=q) (o:=39) (v:= .slice la2 ln2 lc2) hS5 rFz pkD (by rw [sdA_size _ hd2k];decide) (by rw [sdA_l _ hd2k,hd2l]) kRz ?_⟩
   go_wp2_with fail
   have hnu:=numbers_c la2 ln2 lc2 40 hln2 hlc2
   refine (hnu _).mono ?_
   rintro ee w6 ⟨v,rfl,rfl,rfl⟩
   clear hnu
   generalize hd3:(⟨⟨kind,f,xn,xp,xl.take 40⟩,.slice da2 f.data.length dc2,.slice la2 (min ln2 40) lc2⟩:SD)=d3
   have hput:putsAt (sdA d2) 39 [.slice la2 (min ln2 40) lc2]=sdA d3:=by rw [puts_l _ hd2k (xl.take 40),← hd2,← hd3]
   have hd3k:d3.c.e.key.length=32:=by rw [← hd3];exact Hk2.out
   have Hd3k:=uQ hd3k
   have Hones3:=uQ (show (sdA d3).toList.all (·.oneCell')=true by rw [← hd3];exact sdA_ones _ rfl rfl)
   have hlen:(sdsL es).length≤2147483648:=by
    rw [sdsL_len Hfk.out]
    have:=congrArg List.length Hfs.out
    simp only [List.length_map,List.length_take]at this
    have:=Hn.out;have:=Hin.out;omega
   have Hput:=uQ hput
   clear hput hd2l
   go_wp2_with (first
    |((with_reducible refine at_store ⟨?_⟩);refine wl_store (b:=q) (o:=39) (v:= .slice la2 (min ln2 40) lc2) hS5 rFz rFz Hput.out upD (by rw [sdA_size _ Hd2k.out];exact Nat.le_refl 40) kRz rFz ?_;intro w7 hS7)
    |((with_reducible refine at_load ⟨?_⟩);refine wl_loadA (b:=q) hS7 rFz pkD Tryz.underlying63 rfl (by rw [sdA_size _ Hd3k.out];exact infoDo) ?_)
    |((with_reducible refine at_build1 ⟨?_⟩);refine wl_build1 (e:=63) (sz:=40) (by':=128) kRz hS7 rFz (cs:=sdA d3) rfl (sdA_size _ Hd3k.out) nLz ?_;intro bN wN hN)
    |((with_reducible refine at_append ⟨?_⟩);refine wl_app 63 40 128 kRz hN rFz rFz pkD pkD ((sdA_size _ Hd3k.out).trans dCz) (Nat.le_refl 1) Hones3.out hlen (by rw [sdA_size _ Hd3k.out];decide) dCz rfl ?_;intro bA nA cA wA hA))
   go_roundg (ds.length - (i+1))
   case measure=>have:=Hl1.out;omega
   case rel=>
    refine ⟨i+1,es++[d3],rfl,Nat.succ_le_of_lt Hl1.out,Nat.succ_le_of_lt Hl2.out,by first|rfl|go_num,?_,?_,?_⟩
    ·rw [← hcut.out,List.map_append,← Hcut2.out,← hd3];rfl
    ·intro d hd
     rcases List.mem_append.1 hd with hd|hd
     ·exact Hls.out d hd
     ·rw [List.mem_singleton.1 hd,← hd3]
      exact ⟨fun w hw=>rdsl_cutI (Hrl.out w hw),⟨_,_,_,rfl,Nat.le_trans (Nat.min_le_left _ _) hln2,hlc2⟩⟩
    ·rw [sdsL_snoc,dataD_snoc]
     have e4:bsl d3.dv d3.c.e.data=bsl (.slice da2 f.data.length dc2) f.data:=by rw [← hd3]
     rw [e4]
     have h10:Sat w0 wA (bsl (.slice da2 f.data.length dc2) f.data::dataD es::osl 63 40 (.slice (some ⟨bA,0,none⟩) nA cA) (sdsL es++(sdA d3).toList)::F):=hA.sb
     exact (Sat.star.2 h10).pick1
  ·have hfin:es.map (·.c)=Seg.fewCH (ds.map (·.c)) n:=by
    rw [Hfs.out]
    unfold Seg.fewCH
    congr 1
    have:=Hi.out;have:=Hin.out
    by_cases hh:i=n
    ·rw [hh]
    ·rw [List.take_of_length_le (by rw [List.length_map];omega),List.take_of_length_le (by rw [List.length_map];omega)]
   have Hfin:=uQ hfin
   by_cases hl1:i<ds.length
   ·have c1:(i:Int)<(ds.length:Int):=by omega
    have c2:¬ (i:Int)<(n:Int):=oQ
    clear hfin hlt hl1
    go_wp2
    go_ret
    exact ⟨_,rfl,es,Hfin.out,Hls.out,hS⟩
   ·have c1:¬ (i:Int)<(ds.length:Int):=by omega
    clear hfin hlt hl1
    go_wp2
    go_ret
    exact ⟨_,rfl,es,Hfin.out,Hls.out,hS⟩
end
theorem res3H {fn:Func}{t u v:Tmp} (h:fn.results=#[.tmp t,.tmp u,.tmp v]) (tmps:Array Value) (P:Program) (w:World) :
  (results fn tmps).run P w = .ok (.tuple #[tmps.getD t undef,tmps.getD u undef,tmps.getD v undef]) w:=by
 simp [results,h]
section
variable {w0 w:World}{F:List HProp}{lv:Value}
set_option maxRecDepth 20000 in
theorem played16_c (z:Int) (ds:List SD) (hr:Ro w0 F (rdsl 40 lv (sdsL ds))) (he:∀ d∈ds,d.c.e.key.length=32∧Ro w0 F (rdsl 1 d.dv (bys d.c.e.data))) (hn:ds.length≤30) (hd:∀ d∈ds,d.c.e.data.length≤300) (hH:Ro w0 F Half) (h:Sat w0 w F) :
  Calls Tryz.prog 8 #[.int .i64 z,lv] w (Rtn fun v w'=>∃ (p m:Nat) (L:Seg.Log) (M:Med) (C:List (List Frm.Ent)),v = .tuple #[ptr p,ptr m,.bool true]∧(Seg.DoneH (ds.length+1) L M C∧C.length≤ds.length+1∧L.limit=within z 128 2000)∧Sat w0 w' (LogRep p m L::MedRep m M::F)):=by
 obtain ⟨la,ln,lc,rfl,hl,_⟩:=hr w h
 rw [sdsL_len (fun p hp=>(he p hp).1)]at hl
 obtain rfl:ln=ds.length:=by omega
 have HH:=uQ hH;have Hr:=uQ hr;have He:=uQ he;have Hn:=uQ hn;have Hd:=uQ hd
 have hlim:=within_mem z 128 2000 dCz
 have hwi:=within_c z 128 2000
 generalize within z 128 2000=lim at *
 have Hlim:=uQ (show 128≤lim∧lim≤1048576 by omega)
 have P0:=uQ (Seg.PlH.start lim Hlim.out.1 Hlim.out.2)
 clear hr he hn hd hH hlim hl
 go_enter Tryz.func8,Tryz.ntmps8
 have hnew:Calls Tryz.prog 46 #[.int .i64 1048576] w (Rtn fun v w'=>∃ m,v = .tuple #[ptr m,errno 0]∧Sat w0 w' (MedRep m (Med.new 1048576)::F)):=new_yes 1048576 dCz h
 go_wp2_with fail
 refine hnew.mono ?_
 rintro ee w2 ⟨v,rfl,m,rfl,h2⟩
 clear hnew h
 go_wp2_with fail
 refine (hwi _).mono ?_
 rintro ee w1 ⟨v,rfl,rfl,rfl⟩
 clear hwi
 have hop:=open_c (K:=0) (Med.Ok.new 0 1048576 dCz) lim h2 rFz Hlim.out.1 Hlim.out.2
 rw [show Seg.fresh (Med.new 1048576) lim=⟨lim,[],false,0⟩ from rfl]at hop
 go_wp2_with fail
 refine hop.mono ?_
 rintro ee w4 ⟨v,rfl,p,rfl,h4⟩
 clear hop h2
 have Hl0:=uQ (show (⟨lim,[],false,0⟩:Seg.Log).limit=lim from rfl)
 generalize (⟨lim,[],false,0⟩:Seg.Log)=L0 at *
 generalize Med.new 1048576=M0 at *
 go_wp2_with fail
 go_loopg [11] ds.length (fun g iq wr=>∃ (i:Nat) (cs:List Seg.Cal),g=ds.length - i∧i≤ds.length∧iq = .int .i64 i∧cs=(ds.map (·.c)).take i ∧
  Sat w0 wr (LogRep p m (Seg.Log.playH cs L0 M0).1::MedRep m (Seg.Log.playH cs L0 M0).2::F))
 case atStart=>exact ⟨0,[],rfl,Nat.zero_le _,rfl,rfl,h4⟩
 case round=>
  obtain ⟨i,cs,rfl,hi,rfl,hcs,hS⟩:=hrel
  clear h4
  have hcl:cs.length=i:=by rw [hcs,List.length_take,List.length_map];omega
  have hpl:=Seg.PlH.play cs 0 L0 M0 [] P0.out (fun c hc=>by
   rw [hcs]at hc
   obtain ⟨d,hd,rfl⟩:=List.mem_map.1 (List.mem_of_mem_take hc)
   exact ⟨(He.out d hd).1,Hd.out d hd⟩) (by rw [hcl];have:=Hn.out;omega)
  rw [hcl,Nat.zero_add]at hpl
  obtain ⟨C,hpl,hlim⟩:=hpl
  have Hpl:=uQ hpl;have Hlm:=uQ (hlim.trans Hl0.out)
  have Hcs:=uQ hcs
  clear hpl hlim hcl hcs
  by_cases hlt:i<ds.length
  rotate_left
  ·as_aux_lemma=>
    have c1:¬ (i:Int)<(ds.length:Int):=oQ
    obtain rfl:i=ds.length:=by omega
    clear hlt hi
    generalize Seg.Log.playH cs L0 M0=q at *
    obtain ⟨L,M⟩:=q
    have hdn:=Hpl.out.done (by have:=Hn.out;omega)
    have hcm:=lcommit_c (Ro.os HH.out) Hpl.out.holds.keeps.log Hpl.out.holds.keeps.calm.ok (by have:=Hn.out;omega) hS
    obtain ⟨d1,d2,C',d3,d4⟩:=hdn
    have Hdn:=uQ (And.intro d3 (And.intro d4 (d2.trans Hlm.out)))
    generalize L.commit M=r at *
    obtain ⟨⟨L2,M2⟩,n2,e2⟩:=r
    dsimp only at d1 hcm Hdn
    subst d1
    clear hS d2 d3 d4 Hpl Hlm
    go_wp2_with fail
    refine hcm.mono ?_
    rintro ee w5 ⟨v,rfl,rfl,h5⟩
    clear hcm
    go_wp2_with fail
    refine ⟨rfl,_,res3H rfl _ _ _,?_⟩
    exact ⟨_,rfl,p,m,L2,M2,C',rfl,Hdn.out,h5⟩
  have c1:(i:Int)<(ds.length:Int):=oQ
  have hwi:IntKind.i64.wrap ((i:Int)+1)=(i:Int)+1:=IntWalk.i64_in _ (by have:=Hn.out;omega)
  have Hlt:=uQ hlt
  clear hlt hi
  obtain ⟨x,hx⟩:∃ x,ds[i]?=some x:=⟨_,List.getElem?_eq_getElem Hlt.out⟩
  have hxe:=He.out x (List.mem_of_getElem? hx)
  have hk:∀ p∈ds,p.c.e.key.length=32:=fun p hp=>(He.out p hp).1
  have Hsn:=uQ (show cs++[x.c]=(ds.map (·.c)).take (i+1) by rw [Hcs.out,List.take_add_one,List.getElem?_map,hx];rfl)
  have Hps:=uQ (Seg.playH_snoc cs x.c L0 M0)
  have hx0:(sdsL ds)[i * 40+0]?=some (.int .i64 x.c.kind):=sdsL_at hk hx rfl
  obtain ⟨bk,off,rfl,_⟩:=rdsl_cells ((Ro.os Hr.out) _ hS) hx0
  have HG:=uQ (show ∀ w' L,Ro w0 L (rdsl 40 (.slice (some ⟨bk,off,none⟩) ds.length lc) (sdsL ds))→Sat w0 w' L→∀ j v,(sdL x)[j]?=some v→w'.cell? ⟨bk,off+i * 40+j,none⟩=some v by
   intro w' L hL hw j v hj
   obtain ⟨bk',off',hbo,hcell⟩:=rdsl_cells (hL w' hw) hx0
   cases hbo
   have:=hcell _ _ (sdsL_at hk hx hj)
   rw [← Nat.add_assoc]at this
   exact this)
  obtain ⟨⟨kind,e,xn,xp,xl⟩,dv,lv⟩:=x
  obtain ⟨hkey,hrd⟩:=hxe
  obtain ⟨da,dn,dc,rfl,hdl,_⟩:=hrd _ (hS.sb)
  rw [bys_len,Nat.mul_one]at hdl
  obtain rfl:dn=e.data.length:=hdl.symm
  clear hdl
  have Hrd:=uQ hrd;have Hkey:=uQ (show e.key.length=32 from hkey)
  have Hde:=uQ (show e.data.length≤300 from Hd.out _ (List.mem_of_getElem? hx))
  have e0:wr.cell? ⟨bk,off+i * 40,none⟩=some (.int .i64 kind):=HG.out wr _ (Ro.os Hr.out:Ro w0 (LogRep p m (Seg.Log.playH cs L0 M0).1::MedRep m (Seg.Log.playH cs L0 M0).2::F) _) hS 0 _ rfl
  have HCE:=uQ (show ∀ j v,(entL e (.slice da e.data.length dc))[j]?=some v→wr.cell? ⟨bk,off+i * 40+1+j,none⟩=some v from fun j v hj=>by
   have:=HG.out wr _ (Ro.os Hr.out:Ro w0 (LogRep p m (Seg.Log.playH cs L0 M0).1::MedRep m (Seg.Log.playH cs L0 M0).2::F) _) hS (1+j) v (sdL_ent ⟨⟨kind,e,xn,xp,xl⟩,.slice da e.data.length dc,lv⟩ Hkey.out hj)
   rw [← Nat.add_assoc]at this;exact this)
  clear hx hk hx0 hrd hkey
  have hok:=Hpl.out.holds.keeps.log
  have hmo:=Hpl.out.holds.keeps.calm.ok
  have hnb:i * 5≤1000:=by have:=Hn.out;have:=Hlt.out;omega
  clear Hpl
  by_cases hkd:kind=1
  ·as_aux_lemma=>
    subst hkd
    have hb:((1:Int)==1)=true:=rfl
    have hap:=lcommit_c (Ro.os HH.out) hok hmo oQ hS
    have Hst:=uQ (show (Seg.Log.playH cs L0 M0).1.stepH (Seg.Log.playH cs L0 M0).2 ⟨1,e,xn,xp,xl⟩=((Seg.Log.playH cs L0 M0).1.commit (Seg.Log.playH cs L0 M0).2).1 from by unfold Seg.Log.stepH;rw [if_pos rfl])
    rw [Hst.out]at Hps
    generalize Seg.Log.playH cs L0 M0=lm at *
    generalize lm.1.commit lm.2=r at *
    obtain ⟨⟨L2,M2⟩,n2,e2⟩:=r
    dsimp only at hap
    clear hok hmo hnb hS HCE HG Hst
    go_wp2_with fail
    refine hap.mono ?_
    rintro ee w5 ⟨v,rfl,rfl,h5⟩
    clear hap
    go_wp2_with fail
    go_roundg (ds.length - (i+1))
    case measure=>have:=Hlt.out;omega
    case rel=>exact ⟨i+1,_,rfl,Nat.succ_le_of_lt Hlt.out,by first|rfl|go_num,Hsn.out,by rw [Hps.out];exact h5⟩
  ·as_aux_lemma=>
    have hb:(kind==1)=false:=by rw [beq_eq_false_iff_ne];exact hkd
    have hap:=lappend_c e Hkey.out da dc (Ro.os Hrd.out) (Ro.os HH.out) (Nat.le_trans Hde.out dCz) hok hmo oQ hS
    have Hst:=uQ (show (Seg.Log.playH cs L0 M0).1.stepH (Seg.Log.playH cs L0 M0).2 ⟨kind,e,xn,xp,xl⟩=((Seg.Log.playH cs L0 M0).1.append (Seg.Log.playH cs L0 M0).2 e).1 from by unfold Seg.Log.stepH;rw [if_neg hkd])
    rw [Hst.out]at Hps
    generalize Seg.Log.playH cs L0 M0=lm at *
    generalize lm.1.append lm.2 e=r at *
    obtain ⟨⟨L2,M2⟩,n2,e2⟩:=r
    dsimp only at hap
    clear hok hmo hnb hS HG Hst hkd
    go_wp2_with ((with_reducible refine at_load ⟨?_⟩);first
     |refine wl_loadW (b:=bk) (o:=off+i * 40+1) (entL e (.slice da e.data.length dc)) rFz HCE.out Tryz.underlying27 rfl (by rw [entL_len _ _ Hkey.out];exact infoEntSize) ?_
     |refine wl_loadC (b:=bk) (o:=off+i * 40) rFz kRz e0 ?_)
    refine hap.mono ?_
    rintro ee w5 ⟨v,rfl,rfl,h5⟩
    clear hap
    go_wp2_with fail
    go_roundg (ds.length - (i+1))
    case measure=>have:=Hlt.out;omega
    case rel=>exact ⟨i+1,_,rfl,Nat.succ_le_of_lt Hlt.out,by first|rfl|go_num,Hsn.out,by rw [Hps.out];exact h5⟩
end
end Go.Proofs.YtlinnpehkfbnkaaGreatDoor
namespace Go.Hin
open Go.Med
open Go.Seg (Log Keeps Holds HG DoneH HintOk mag Plc)
open Go.Frm (Fnd encs GoodE fnds Ent)
open Go.Rep (Use)
section
variable {n K r E B c:Nat}{L:Log}{M:Med}{C:List (List Ent)}{N:Int}{us:List Use}{ps:List (Bs×Plc)}
theorem DoneH.taken (h:DoneH n L M C):L.segs.take C.length=L.segs:=by
 rw [← h.holds.segs.1];exact List.take_length
theorem DoneH.rowsC (h:DoneH n L M C):Rep.rowsOf (fun s=>L.bytes M s) L.segs=Rep.rowsC 0 C:=by
 have e:=h.holds.rows C.length
 rw [DoneH.taken h,List.take_length]at e
 exact e
theorem DoneH.rows_len (h:DoneH n L M C):(Rep.rowsOf (fun s=>L.bytes M s) L.segs).length≤n:=by
 rw [DoneH.rowsC h,← List.length_map (f:=fun r:Rep.Row=>r.2.e),Rep.rowsC_e]
 exact h.few
theorem DoneH.rows_size (h:DoneH n L M C):∀ r∈Rep.rowsOf (fun s=>L.bytes M s) L.segs,(r.2.size:Int)≤4294967296:=fun r hr=>by
 rw [DoneH.rowsC h]at hr
 obtain ⟨j,es,h5,h6,h7⟩:=Rep.rowsC_mem C 0 hr
 obtain ⟨u,v,h8,h9,h10⟩:=Rep.fnds_mem es 8 h7
 have hat:=List.mem_of_getElem? (h.holds.at_ j es h5)
 have hsz:=h.holds.keeps.log.sizes _ hat
 have he:(encs es).length=(encs u).length+((Frm.encode r.2.e).1.length+(encs v).length):=by
  conv=>lhs;rw [h8]
  rw [Seg.encs_app,List.length_append]
  congr 1
  exact List.length_append
 simp only at hsz
 omega
theorem DoneH.lastOf (h:DoneH n L M C):Rep.lastOfL L.segs=(C.length:Int) - 1∧L.segs.getLast?=some ((C.length:Int) - 1):=by
 obtain ⟨h1,h2⟩:=h.holds.segs
 have h3:=DoneH.run h
 have e:L.segs.getLast?=some ((C.length:Int) - 1):=by
  rw [List.getLast?_eq_getElem?,h1,h2 _ oQ]
  congr 1;omega
 refine ⟨?_,e⟩
 unfold Rep.lastOfL
 rw [e]
theorem DoneH.hint (h:DoneH n L M C) (hn:n≤1000){kv:List (Bs×Rep.Abt)} (hk:Tab.Lists (Rep.ledger (Rep.rowsOf (fun s=>L.bytes M s) L.segs)) kv) (h32:∀ q∈kv,q.1.length=32) :
  HintOk L C.length ((Rep.usesOf (fun s=>L.bytes M s) L.segs).map (Rep.upd kv)) (Rep.puts kv):=by
 have e:=DoneH.taken h
 have:=(h.holds.hg hn).hint (Nat.le_refl _) (kv:=kv) (by rw [e];exact hk) h32
 rw [e]at this
 exact this
theorem HintOk.size (h:HintOk L c us ps){s:Int} (hs:s∈L.segs.take c):L.size s≤33554432:=by
 rw [← h.segs]at hs
 obtain ⟨u,hu,rfl⟩:=List.mem_map.1 hs
 obtain ⟨_,_,h3,h4⟩:=h.use u hu
 omega
theorem HintOk.idx (h:HintOk L c us ps) (hL:L.Ok) (hl:ps.length≤65536):Bok.Ok 3 true (ps.map Rep.idxRw):=by
 refine ⟨by rw [List.length_map];exact hl,fun r hr=>?_,fun i a b ha hb=>?_⟩
 ·obtain ⟨q,hq,rfl⟩:=List.mem_map.1 hr
  obtain ⟨p1,p2,p3,p4⟩:=h.plc q hq
  have hz:=HintOk.size h p4
  have hsg:=List.mem_of_mem_take p4
  obtain ⟨x,hx,hxe⟩:=List.mem_map.1 hsg
  have hnm:=hL.nums x hx
  refine ⟨h.key q hq,rfl,fun m hm=>?_⟩
  simp only [Rep.idxRw,List.mem_cons,List.not_mem_nil,or_false]at hm
  rcases hm with rfl|rfl|rfl <;> omega
 ·rw [List.getElem?_map]at ha hb
  obtain ⟨x,hx,rfl⟩:=Option.map_eq_some_iff.1 ha
  obtain ⟨y,hy,rfl⟩:=Option.map_eq_some_iff.1 hb
  obtain ⟨i1,rfl⟩:=List.getElem?_eq_some_iff.1 hx
  obtain ⟨i2,rfl⟩:=List.getElem?_eq_some_iff.1 hy
  unfold Bok.ahead
  rw [if_pos rfl]
  exact List.pairwise_iff_getElem.1 h.rise i (i+1) i1 i2 oQ
theorem HintOk.uses (h:HintOk L c us ps) (hL:L.Ok) (hl:us.length≤65536):Bok.Ok 3 false (us.map Rep.useRw):=by
 have hri:(us.map (·.seg)).Pairwise (· < ·):=by
  rw [h.segs];exact (Seg.segs_rise hL).sublist (List.take_sublist _ _)
 refine ⟨by rw [List.length_map];exact hl,fun r hr=>?_,fun i a b ha hb=>?_⟩
 ·obtain ⟨u,hu,rfl⟩:=List.mem_map.1 hr
  obtain ⟨p1,p2,p3,p4⟩:=h.use u hu
  have hsg:u.seg∈L.segs:=List.mem_of_mem_take (by rw [← h.segs];exact List.mem_map.2 ⟨u,hu,rfl⟩)
  obtain ⟨x,hx,hxe⟩:=List.mem_map.1 hsg
  have hnm:=hL.nums x hx
  refine ⟨rfl,rfl,fun m hm=>?_⟩
  simp only [Rep.useRw,List.mem_cons,List.not_mem_nil,or_false]at hm
  rcases hm with rfl|rfl|rfl <;> omega
 ·rw [List.getElem?_map]at ha hb
  obtain ⟨x,hx,rfl⟩:=Option.map_eq_some_iff.1 ha
  obtain ⟨y,hy,rfl⟩:=Option.map_eq_some_iff.1 hb
  obtain ⟨i1,rfl⟩:=List.getElem?_eq_some_iff.1 hx
  obtain ⟨i2,rfl⟩:=List.getElem?_eq_some_iff.1 hy
  unfold Bok.ahead
  rw [if_neg dCz]
  have:=List.pairwise_iff_getElem.1 hri i (i+1) (by rw [List.length_map];exact i1) (by rw [List.length_map];exact i2) oQ
  rw [List.getElem_map,List.getElem_map]at this
  exact this
theorem books_len {X:Bs→Nat} (hi:Bok.Ok 3 true (ps.map Rep.idxRw)) (hu:Bok.Ok 3 false (us.map Rep.useRw)) (h1:ps.length≤1000) (h2:us.length≤1000) :
  (Bok.book X Bok.mgIdx true (ps.map Rep.idxRw)).length+(Bok.book X Bok.mgUse false (us.map Rep.useRw)).length≤100000:=by
 rw [Bok.book_len (k:=3) rfl hi.row,Bok.book_len (k:=3) rfl hu.row,List.length_map,List.length_map,show Bok.rowSz true 3=44 from rfl,show Bok.rowSz false 3=12 from rfl]
 omega
theorem DoneH.others (h:DoneH n L M C) (hn:n≤100) (h1:0≤N) (h2:N<1048576) (b1 b2:Bs) (hb:b1.length+b2.length≤100000) :
  ∀ f∈(write (write M (name idx N) b1).1 (name use N) b2).1.syncDir.1.list,other N f=false∧f.size≤4000000000:=by
 have hh:=h.holds.keeps.has
 have ho:=kept_other (N:=N) hh h1 h2
 have hu:=h.holds.used
 have hnm:=h.holds.names
 have hc:=kept_cf (N:=N) hh h.holds.keeps.calm.ok.nowOk.ne h1 h2
 obtain ⟨a1,a2,a3,a4,a5,a6⟩:=write_zero (b:=b1) h.holds.keeps.calm (DoneH.none h oQ fun k=>tmp_ne_seg k) oQ oQ (name_good rfl dCz N h1 h2) hc.t1
 obtain ⟨c1,c2,c3,c4,c5,c6⟩:=write_zero (b:=b2) a2 a3 oQ oQ (name_good rfl dCz N h1 h2) hc.t2
 have hd:=c2.quiet.syncDir_eq
 have hds:=c2.syncDir
 have hno:(write (write M (name idx N) b1).1 (name use N) b2).1.syncDir.1.now=(write (write M (name idx N) b1).1 (name use N) b2).1.now:=by rw [hd]
 have hsz:∀ ld:ByteArray,ld.data.toList.length=4→(name ld N).size=12:=fun ld hl=>by
  show (name ld N).data.size=12
  rw [← Array.length_toList,name_eq ld N h1 h2,List.length_append,hl,Seg.digs_len]
 intro f hf
 rw [hds.quiet.list,hno]at hf
 obtain ⟨p,hp,rfl⟩:=List.mem_map.1 hf
 rcases c6 p hp with q|q
 ·rcases a6 p q with q|q
  ·have hi:=nget_of_mem h.holds.keeps.calm.ok.nowOk.srt.keys (show (p.1,p.2)∈M.now from q)
   obtain ⟨k,k1,k2⟩:=h.holds.only _ _ hi
   have hat:=h.holds.at_ k _ (List.getElem?_eq_getElem k1)
   rw [k2]at hi
   refine ⟨ho _ (.inl ⟨_,mem_kept (List.mem_of_getElem? hat) hi,k2⟩),?_⟩
   rw [k2]
   rcases seg_name (k:Int) with z|⟨z,_⟩
   ·rw [z];decide
   ·rw [z];decide
  ·rw [q];exact ⟨ho _ (.inr (.inr (.inl rfl))),by rw [hsz idx rfl];decide⟩
 ·rw [q];exact ⟨ho _ (.inr (.inr (.inr rfl))),by rw [hsz use rfl];decide⟩
end
end Go.Hin
namespace Go.Proofs.YtlinnpehkfbnkaaGreatDoor
open Go Go.Sl Go.Med Go.MapKept Go.RowKit
section
variable {w0 w:World}{F:List HProp}{lv:Value}
theorem SDRo.of_sub {F G:List HProp}{d:SD} (h:SDRo w0 F d) (hs:∀ w,Sat w0 w G→Sat w0 w F):SDRo w0 G d:=
 ⟨h.key,fun w hw=>h.rd w (hs w hw),h.cap,fun w hw=>h.rl w (hs w hw),h.capl⟩
theorem few_played {ds es:List SD}{ov:Value}{n:Nat} (hes:es.map (·.c)=Seg.fewCH (ds.map (·.c)) n) (hk:∀ d∈ds,d.c.e.key.length=32) :
  (∀ d∈es,d.c.e.key.length=32)∧es.length≤n∧(∀ d∈es,d.c.e.data.length≤300)∧Ro w0 (osl 63 40 ov (sdsL es)::dataD es::F) (rdsl 40 ov (sdsL es)) ∧
   (∀ d∈es,d.c.e.key.length=32∧Ro w0 (osl 63 40 ov (sdsL es)::dataD es::F) (rdsl 1 d.dv (bys d.c.e.data))):=by
 have hm:∀ d∈es,∃ x∈ds,d.c=x.c.cutH:=fun d hd=>by
  have h1:d.c∈es.map (·.c):=List.mem_map.2 ⟨d,hd,rfl⟩
  rw [hes]at h1
  unfold Seg.fewCH at h1
  obtain ⟨c,hc,he⟩:=List.mem_map.1 h1
  obtain ⟨x,hx,rfl⟩:=List.mem_map.1 (List.mem_of_mem_take hc)
  exact ⟨x,hx,he.symm⟩
 have hkey:∀ d∈es,d.c.e.key.length=32:=fun d hd=>by
  obtain ⟨x,hx,e⟩:=hm d hd
  rw [e];exact hk x hx
 refine ⟨hkey,?_,fun d hd=>?_,fun w hw=>Sat.rd hw,fun d hd=>⟨hkey d hd,fun w hw=>?_⟩⟩
 ·have:=congrArg List.length hes
  unfold Seg.fewCH at this
  rw [List.length_map,List.length_map,List.length_take]at this
  omega
 ·obtain ⟨x,hx,e⟩:=hm d hd
  rw [e]
  show (x.c.e.data.take 120).length≤300
  rw [List.length_take];omega
 ·obtain ⟨i,hi⟩:=List.getElem?_of_mem hd
  exact dataD_ro (R:=F) hi w (hw.sb)
theorem size_empty {K:Nat}{M:Med} (h:M.Ok K) (ho:M.off=false):M.size ByteArray.empty=(0,9):=by
 have hn:nget M.now ByteArray.empty=none:=by
  cases hi:nget M.now ByteArray.empty with
  |none=>rfl
  |some i=>exact absurd rfl (h.nowOk.ne _ (nget_mem hi))
 unfold Med.size
 rw [ho,hn];rfl
end
section
variable {w0 w:World}{F:List HProp}{p B:Nat}{m:Frm.Bs→Option (Seg.Plc)}
set_option maxRecDepth 20000 in
theorem rows16_c (hB:B≤13000000) (h:Sat w0 w (TabML p m B::F)) :
  Calls Tryz.prog 26 #[ptr p] w (Rtn fun v w'=>∃ kv:List (Frm.Bs×Seg.Plc),(Tab.Lists m kv∧(∀ q∈kv,q.1.length=32)∧kv.length≤B)∧Sat w0 w' (osl 149 35 v (kv.flatMap kvL)::TabML p m B::F)):=by
 have hr:=keysL_c hB h
 clear h
 go_enter Tryz.func26,Tryz.ntmps26
 go_wp2_with fail
 refine hr.mono ?_
 rintro ee w1 ⟨sv,rfl,kv,hk,hS1⟩
 clear hr
 have Hk:=uQ hk
 have Hlen:=uQ (show ∀ q∈kv,(bys q.1).length=32 from fun q hq=>by rw [bys_len];exact hk.2.1 q hq)
 obtain ⟨la,lc,rfl⟩:=osl_rows Hlen.out (Sat.rd hS1) dCz
 have hsb:kv.length≤13000000:=Nat.le_trans hk.2.2 hB
 have hB2:B≤268435000:=oQ
 have HB:=uQ hB2
 have hS2:Sat w0 w1 (osl 149 35 (.slice none 0 0) ((kv.take 0).flatMap kvL)::osl 24 32 (.slice la kv.length lc) (kv.flatMap fun q=>bys q.1)::TabML p m B::F):=Sat.osl_nil.2 hS1
 clear hk hB hS1 hB2
 go_wp2_with fail
 go_loopg [3,5] kv.length (fun g oq iq wr=>∃ (i:Nat),g=kv.length - i∧i≤kv.length∧iq = .int .i64 i ∧
  Sat w0 wr (osl 149 35 oq ((kv.take i).flatMap kvL)::osl 24 32 (.slice la kv.length lc) (kv.flatMap fun q=>bys q.1)::TabML p m B::F))
 case atStart=>exact ⟨0,rfl,Nat.zero_le _,rfl,hS2⟩
 case round=>
  obtain ⟨i,rfl,hi,rfl,hS⟩:=hrel
  clear hS2
  by_cases hlt:i<kv.length
  rotate_left
  ·obtain rfl:i=kv.length:=by omega
   have c1:¬ (kv.length:Int)<(kv.length:Int):=oQ
   rw [List.take_length]at hS
   clear hlt hi
   go_wp2_with fail
   go_ret
   exact ⟨_,rfl,kv,⟨Hk.out.1,by intros;exact Hk.out.2.1 (_,_) aQ,Hk.out.2.2⟩,hS.sb⟩
  have c1:(i:Int)<(kv.length:Int):=oQ
  have hwi:=iwQ (i:=i)
  obtain ⟨⟨k,pl⟩,hx⟩:∃ q,kv[i]?=some q:=⟨_,List.getElem?_eq_getElem hlt⟩
  have Hx:=uQ hx
  have hxm:=List.mem_of_getElem? hx
  have Hxk:=uQ (Hk.out.2.1 _ hxm)
  have hmk:m k=some pl:=(Hk.out.1.mem k pl).1 hxm
  obtain ⟨bk,off,c',hsv,hcell⟩:=osl_row (f:=fun q:Frm.Bs×Seg.Plc=>bys q.1) (k:=32) Hlen.out (Sat.rd (hS.pick pick1)) hx dCz
  cases hsv
  have Htk:=uQ (show (kv.take (i+1)).flatMap kvL=(kv.take i).flatMap kvL++kvL (k,pl) by rw [List.take_add_one,hx,Option.toList_some,List.flatMap_append];simp)
  have Hlt:=uQ hlt
  have hg:=getL_c HB.out Hxk.out (hS.sb:Sat w0 wr (TabML p m B::osl 149 35 u3 ((kv.take i).flatMap kvL)::osl 24 32 (.slice (some ⟨bk,off,none⟩) kv.length lc) (kv.flatMap fun q=>bys q.1)::F))
  rw [hmk,Option.getD_some,Option.isSome_some]at hg
  clear hx hxm hlt hi hmk hS
  go_wp2_with ((with_reducible refine at_load ⟨?_⟩);refine wl_loadW (b:=bk) (o:=off+i * 32) (bys k) rFz hcell Tryz.underlying24 rfl (by rw [bys_len,Hxk.out];kernel_rfl) ?_)
  refine hg.mono ?_
  rintro ee w5 ⟨v,rfl,rfl,hS5⟩
  clear hg hcell
  go_wp2_with (with_reducible apply at_alloc)
  refine ⟨wl_alloc zPlc39 hS5 rfl ?_⟩
  intro b6 w6 h6
  go_wp2_with ((with_reducible refine at_store ⟨?_⟩);refine wl_storeA (penc pl).toArray h6 rFz rFz rFz upd0 kRz rFz ?_;intro w7 h7)
  have h8:=h7.drew
  obtain ⟨bk2,off2,c2,e2,hcell⟩:=osl_row (f:=fun q:Frm.Bs×Seg.Plc=>bys q.1) (k:=32) Hlen.out (Sat.rd (h8.pick (pick_there (pick_there (pick_there pick0))))) Hx.out dCz
  cases e2
  have hG:(w7.drew).rangeAt bk (off+i * 32) (bys k)∧(w7.drew).rangeAt b6 0 (penc pl):=⟨hcell,pt_rangeL (h8.pick pick0)⟩
  clear h7 h6 hS5 hcell
  have hle:((kv.take i).flatMap kvL).length≤2147483648:=by
   rw [rows_len (k:=35) fun q hq=>kvL_len q (Hk.out.2.1 q (List.mem_of_mem_take hq)),List.length_take];omega
  refine wpL_begin [6,7,8,9] (fun w'=>w'.rangeAt bk (off+i * 32) (bys k)∧w'.rangeAt b6 0 (penc pl)) kRz ?_
  refine rP 0 ?_ (y:=mvQ)
  refine rP 1 ?_ (y:=mvQ)
  refine rP 2 ?_ (y:=mvQ)
  refine rP 3 ?_ (y:=ixQ)
  refine rg_take 4 evD kRz i3z (tk_loadN (b:=bk) (o:=off+i * 32) (bys k) rFz Tryz.underlying24 rfl (by rw [bys_len,Hxk.out];kernel_rfl) (fun w hw=>hw.1)) aQ gQ ?_
  refine rg_take 5 evD kRz i3z (tk_loadN (b:=b6) (o:=0) (penc pl) rFz Tryz.underlying54 rfl kRz (fun w hw=>hw.2)) aQ gQ ?_
  clear hG
  refine rP 6 ?_ (y:=(yl_build2 evD evD (fun w=>run_kv k Hxk.out pl w)))
  refine rg_eff 7 evD kRz (fun K hK=>?_)
  refine eff_build1 (e:=149) (sz:=35) (by':=56) kRz h8 evD (cs:=(kvL (k,pl)).toArray) rfl (by rw [List.size_toArray,kvL_len _ Hxk.out]) dCz ?_
  intro bN wN hN
  refine hK _ _ (.inl rfl) ?_
  clear hK h8
  refine rg_eff 8 evD kRz (fun K hK=>?_)
  refine eff_app 149 35 56 kRz hN evD evD (pick_there (pick_there (pick_there pick0))) pick0 (by rw [List.size_toArray,kvL_len _ Hxk.out]) (Nat.le_refl 1) (by rw [List.toList_toArray];exact kvL_ones _) hle (by rw [List.size_toArray,kvL_len _ Hxk.out];decide) dCz (by rw [List.toList_toArray]) ?_
  intro bA nA cA wA hA
  refine hK _ _ (.inl rfl) ?_
  clear hK hN
  refine rP 9 ?_ (y:=asQ)
  refine wpL_done kRz ?_
  rw [← Htk.out]at hA
  go_wp2_with fail
  go_roundg (kv.length - (i+1))
  case measure=>have:=Hlt.out;omega
  case rel=>exact ⟨i+1,rfl,Hlt.out,by first|rfl|go_num,hA.sb⟩
end
end Go.Proofs.YtlinnpehkfbnkaaGreatDoor
