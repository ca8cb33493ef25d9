import Derived.Test.YtlimfgdbfadohaaGreatDoorJ7
set_option linter.unusedVariables false
set_option maxHeartbeats 128000000
namespace Go.Proofs.YtlimfgdbfadohaaGreatDoor
open Go Go.Sl Go.Med Go.MapKept Go.RowKit
abbrev rpPt (r m:Nat) (seg:Int) (p ps pn:Nat) (d:Bool):HProp:=pt r (.cells #[ptr m,.int .i64 seg,ptr p,ptr ps,ptr pn,.bool d] 109 (0,0))
section
variable {w0 w:World}{F:List HProp}{p m K r ps pn:Nat}{L:Seg.Log}{M:Med}{limit:Int}
theorem newestE_c (hM:M.Ok K) (hl:M.list=[]) (h:Sat w0 w (MedRep m M::F)):Calls Tryz.prog 76 #[ptr m] w (Rtn fun v w'=>v = .int .i64 (-1)∧Sat w0 w' (MedRep m M::F)):=by
 have hls:=list_c hM h
 go_enter Tryz.func76,Tryz.ntmps76
 go_wp2_with fail
 refine hls.mono ?_
 rintro e w1 ⟨v,rfl,hS,a,n,c,rfl⟩
 clear hls
 have hn:n=0:=by
  obtain ⟨_,_,_,he,hl2,_⟩:=Sat.rd hS
  cases he
  rw [hl]at hl2
  simpa [strs] using hl2.symm
 subst hn
 go_wp2_with fail
 go_loopg [3,11] 0 (fun g lv iq wr=>lv = .int .i64 (-1)∧iq = .int .i64 0∧wr=w1)
 case atStart=>exact ⟨rfl,rfl,rfl⟩
 case round=>
  obtain ⟨rfl,rfl,rfl⟩:=hrel
  go_wp2
  go_ret
  exact ⟨_,rfl,rfl,hS.drop⟩
theorem runOut0 {bt:Rep.Told}{v:Value} (h:RunOut w0 F bt [] p m L M v w):∃ (ps pi:Nat) (uv tv:Value),v = .tuple #[ptr ps,.agg (fltA Rep.Flt.zero),errno 0]∧(∃ a c,tv = .slice a 0 c) ∧
  Sat w0 w (stPt ps (-1) pi uv tv::TabML pi (fun _=>none) 0::osl 207 3 uv []::LogRep p m L::MedRep m M::F):=by
 have hr:Rep.run bt [] = .inr 0:=rfl
 unfold RunOut at h
 rw [hr]at h
 obtain ⟨ps,pi,uv,tv,av,kv,rfl,⟨_,_,hk⟩,⟨⟨a',c',rfl⟩,_⟩,hS⟩:=h
 obtain rfl:kv=[]:=List.length_eq_zero_iff.1 (Nat.le_zero.1 hk)
 exact ⟨ps,pi,uv,_,rfl,⟨a',c',rfl⟩,hS.sb⟩
set_option maxRecDepth 20000 in
theorem found0_c (hL:L.Ok) (hs:L.segs=[]) (hM:M.Ok K) (hl:M.list=[]) (hH:Ro w0 F Half) (h:Sat w0 w (LogRep p m L::MedRep m M::F)) :
  Calls Tryz.prog 44 #[ptr p,ptr m] w (Rtn fun v w'=>∃ (ps pi:Nat) (uv tv:Value),v = .tuple #[ptr ps,.agg (fltA Rep.Flt.zero),errno 0]∧(∃ a c,tv = .slice a 0 c) ∧
   Sat w0 w' (stPt ps (-1) pi uv tv::TabML pi (fun _=>none) 0::osl 207 3 uv []::LogRep p m L::MedRep m M::F)):=by
 have HL:=uQ hL;have Hs:=uQ hs;have HM:=uQ hM;have Hl:=uQ hl;have HH:=uQ hH
 clear hL hs hM hl hH
 go_enter Tryz.func44,Tryz.ntmps44
 go_wp2_with (with_reducible apply at_alloc)
 refine ⟨wl_alloc zFlt h rfl ?_⟩
 intro b5 w5 h5
 have hla:=last_c (F:=pt b5 (.cells (fltA Rep.Flt.zero) 53 (0,0))::F) HL.out HM.out (Ro.os HH.out) (h5.sb:Sat w0 w5 (LogRep p m L::MedRep m M::pt b5 (.cells (fltA Rep.Flt.zero) 53 (0,0))::F))
 rw [Hs.out,show Rep.lastOf (lbt L M) []=(-1,0) from rfl]at hla
 clear h h5
 go_wp2_with fail
 refine hla.mono ?_
 rintro ee w6 ⟨v,rfl,rfl,h6⟩
 clear hla
 go_wp2_with fail
 refine (newestE_c HM.out Hl.out (h6.sb:Sat w0 w6 (MedRep m M::LogRep p m L::pt b5 (.cells (fltA Rep.Flt.zero) 53 (0,0))::F))).mono ?_
 rintro ee w7 ⟨v,rfl,rfl,h7⟩
 clear h6
 have hru:=run_c (F:=pt b5 (.cells (fltA Rep.Flt.zero) 53 (0,0))::F) HL.out HM.out (Ro.os HH.out) (by rw [Hs.out];exact Nat.zero_le _) (by rw [Hs.out];intro r hr;cases hr) (h7.sb:Sat w0 w7 (LogRep p m L::MedRep m M::pt b5 (.cells (fltA Rep.Flt.zero) 53 (0,0))::F))
 clear h7
 go_wp2_with fail
 refine hru.mono ?_
 rintro ee w8 ⟨v,rfl,h8⟩
 clear hru
 rw [Hs.out]at h8
 obtain ⟨ps,pi,uv,tv,rfl,htv,h9⟩:=runOut0 h8
 clear h8
 have h10:Sat w0 w8 (pt b5 (.cells (fltA Rep.Flt.zero) 53 (0,0))::stPt ps (-1) pi uv tv::TabML pi (fun _=>none) 0::osl 207 3 uv []::LogRep p m L::MedRep m M::F):=h9.sb
 clear h9
 go_wp2_with ((with_reducible refine at_store ⟨?_⟩);refine wl_storeA (fltA Rep.Flt.zero) h10 rFz rFz rFz upd0 kRz rFz ?_;intro w11 h11)
 refine ⟨rfl,_,res_tct rfl h11 rFz pick0 Tryz.underlying53 rfl kRz,_,rfl,ps,pi,uv,tv,rfl,htv,h11.drop⟩
theorem plRepo:placesB Tryz.prog 109=some [(0,1),(1,1),(2,1),(3,1),(4,1),(5,1)]:=by kernel_rfl
theorem zRepo:zeroB Tryz.prog 109=some (.agg #[.pointer none,.int .i64 0,.pointer none,.pointer none,.pointer none,.bool false]):=by kernel_rfl
theorem run_repo5 (seg:Int) (w:World):(Instr.build 109 #[(0,ptr m),(1,.int .i64 seg),(2,ptr p),(3,ptr ps),(4,ptr pn)]).run Tryz.prog w = .ok (.agg #[ptr m,.int .i64 seg,ptr p,ptr ps,ptr pn,.bool false]) w:=
 run_build (P:=Tryz.prog) [(0,ptr m),(1,.int .i64 seg),(2,ptr p),(3,ptr ps),(4,ptr pn)] plRepo zRepo (by
  intro q hq
  simp only [List.mem_cons,List.not_mem_nil,or_false]at hq
  rcases hq with rfl|rfl|rfl|rfl|rfl
  ·exact ⟨0,rfl,by show 0+1≤6;decide⟩
  ·exact ⟨1,rfl,by show 1+1≤6;decide⟩
  ·exact ⟨2,rfl,by show 2+1≤6;decide⟩
  ·exact ⟨3,rfl,by show 3+1≤6;decide⟩
  ·exact ⟨4,rfl,by show 4+1≤6;decide⟩) w
set_option maxRecDepth 20000 in
theorem ropenG_c {ι:Type}{N:Int} (mi:ι→Frm.Bs→Option Seg.Plc) (Bf:ι→Nat) (uf:ι→List Rep.Use) (Q:ι→Prop) (h1:128≤limit) (h2:limit≤1048576) (hM:M.Ok K) (hK:K≤1048576) (ha:Seg.alive M=0) (hB:∀ x,Q x→Bf x≤14000000)
  (hfd:∀ (p b5:Nat) (w':World),Sat w0 w' (LogRep p m (Seg.fresh M limit)::MedRep m M::pt b5 (.cells (fltA Rep.Flt.zero) 53 (0,0))::F)→Calls Tryz.prog 44 #[ptr p,ptr m] w' (Rtn fun v w''=>∃ (ps pi:Nat) (uv tv:Value) (x:ι),v = .tuple #[ptr ps,.agg (fltA Rep.Flt.zero),errno 0]∧(∃ a c,tv = .slice a 0 c)∧Q x ∧
   Sat w0 w'' (stPt ps N pi uv tv::TabML pi (mi x) (Bf x)::osl 207 3 uv ((uf x).flatMap uenc)::LogRep p m (Seg.fresh M limit)::MedRep m M::pt b5 (.cells (fltA Rep.Flt.zero) 53 (0,0))::F)))
  (h:Sat w0 w (MedRep m M::F)) :
  Calls Tryz.prog 18 #[ptr m,.int .i64 limit] w (Rtn fun v w'=>∃ (r p ps pi pn:Nat) (uv:Value) (x:ι),v = .tuple #[ptr r,.agg (fltA Rep.Flt.zero),errno 0]∧Q x ∧
   Sat w0 w' (rpPt r m limit p ps pn false::stPt ps N pi uv (.slice none 0 0)::TabML pn (mi x) (Bf x)::TabML pi (mi x) (Bf x)::osl 207 3 uv ((uf x).flatMap uenc)::LogRep p m (Seg.fresh M limit)::MedRep m M::F)):=by
 have HL:=uQ (Seg.fresh_ok hM limit h1 h2)
 have Hop:=uQ (fun (w':World) (R:List HProp) (hw:Sat w0 w' (MedRep m M::R))=>open_c hM limit hw ha h1 h2)
 generalize Seg.fresh M limit=L at *
 have HM:=uQ hM;have HK:=uQ hK;have HB:=uQ hB;have Hfd:=uQ hfd
 clear h1 h2 hM hK ha hB hfd
 go_enter Tryz.func18,Tryz.ntmps18
 go_wp2_with (with_reducible apply at_alloc)
 refine ⟨wl_alloc zFlt h rfl ?_⟩
 intro b5 w5 h5
 go_wp2_with fail
 refine (Hop.out _ _ (h5.sb:Sat w0 w5 (MedRep m M::pt b5 (.cells (fltA Rep.Flt.zero) 53 (0,0))::F))).mono ?_
 rintro ee w6 ⟨v,rfl,p,rfl,h6⟩
 clear h h5
 go_wp2_with fail
 refine (Hfd.out p b5 _ h6).mono ?_
 rintro ee w7 ⟨v,rfl,ps,pi,uv,tv,x,rfl,⟨ta,tc,rfl⟩,hq,h7⟩
 have Hq:=uQ hq
 have HBx:=uQ (HB.out x hq)
 clear h6 hq
 go_wp2_with (with_reducible apply at_alloc)
 refine ⟨wl_alloc zFlt h7 rfl ?_⟩
 intro b10 w8 h8
 clear h7
 go_wp2_with (with_reducible apply at_store)
 refine ⟨wl_storeA (fltA Rep.Flt.zero) h8 rFz rFz rFz upd0 kRz rFz ?_⟩
 intro w9 h9
 clear h8
 replace h9:Sat w0 w9 (LogRep p m L::MedRep m M::stPt ps N pi uv (.slice ta 0 tc)::TabML pi (mi x) (Bf x)::osl 207 3 uv ((uf x).flatMap uenc)::pt b5 (.cells (fltA Rep.Flt.zero) 53 (0,0))::F):=h9.sb
 go_wp2_with ((with_reducible refine at_load ⟨?_⟩);refine wl_load1 aQ rFz pkD nLz evD kRz ?_)
 have hdr:=drop_c (tv:= .slice ta 0 tc) [] (Nat.zero_le _) HL.out HM.out HK.out (fun w _=>rdsl_nil 1 0 w |> fun _=>⟨ta,0,tc,rfl,rfl,fun j x hj=>by cases hj⟩) h9
 rw [show ([]:List Int).length=0 from rfl,Seg.drop_nil rfl]at hdr
 refine hdr.mono ?_
 rintro ee w10 ⟨v,rfl,rfl,h10⟩
 clear hdr h9
 go_wp2_with (with_reducible apply at_store)
 refine ⟨wl_store (cs':=#[.int .i64 N,ptr pi,uv,.slice none 0 0]) h10 rFz rFz rFz upd2 nLz kRz rFz ?_⟩
 intro w11 h11
 replace h11:Sat w0 w11 (TabML pi (mi x) (Bf x)::stPt ps N pi uv (.slice none 0 0)::LogRep p m L::MedRep m M::osl 207 3 uv ((uf x).flatMap uenc)::pt b5 (.cells (fltA Rep.Flt.zero) 53 (0,0))::F):=h11.sb
 clear h10
 go_wp2_with ((with_reducible refine at_load ⟨?_⟩);refine wl_load1 h11 rFz pick1 nLz evD kRz ?_)
 refine (copyL_c HBx.out h11).mono ?_
 rintro ee w12 ⟨v,rfl,pn,rfl,h12⟩
 clear h11
 go_wp2_with (first
  |((with_reducible apply ug_at_build);refine ⟨?_⟩;first|refine wl_bld rFz (run_repo5 limit) ?_|refine wl_bld rFz run_flt0 ?_)
  |((with_reducible refine at_box ⟨?_⟩);refine wl_box h12 rFz rFz ?_;intro r w13 h13)
  |(with_reducible apply at_store))
 refine ⟨wl_storeA (fltA Rep.Flt.zero) (h13.sb:Sat w0 w13 (pt b5 (.cells (fltA Rep.Flt.zero) 53 (0,0))::rpPt r m limit p ps pn false::stPt ps N pi uv (.slice none 0 0)::TabML pn (mi x) (Bf x)::TabML pi (mi x) (Bf x)::osl 207 3 uv ((uf x).flatMap uenc)::LogRep p m L::MedRep m M::F)) rFz rFz rFz upd0 kRz rFz ?_⟩
 intro w14 h14
 go_wp2_with fail
 refine ⟨rfl,_,res_tct rfl h14 rFz pick0 Tryz.underlying53 rfl kRz,_,rfl,r,p,ps,pi,pn,uv,x,rfl,Hq.out,h14.drop⟩
theorem ropen0_c (h1:128≤limit) (h2:limit≤1048576) (hM:M.Ok K) (hK:K≤1048576) (ha:Seg.alive M=0) (hf:(Seg.fresh M limit).segs=[]) (hl:M.list=[]) (hH:Ro w0 F Half) (h:Sat w0 w (MedRep m M::F)) :
  Calls Tryz.prog 18 #[ptr m,.int .i64 limit] w (Rtn fun v w'=>∃ (r p ps pi pn:Nat) (uv:Value),v = .tuple #[ptr r,.agg (fltA Rep.Flt.zero),errno 0] ∧
   Sat w0 w' (rpPt r m limit p ps pn false::stPt ps (-1) pi uv (.slice none 0 0)::TabML pn (fun _=>none) 0::TabML pi (fun _=>none) 0::osl 207 3 uv []::LogRep p m (Seg.fresh M limit)::MedRep m M::F)):=by
 refine (ropenG_c (ι:=Unit) (N:= -1) (fun _ _=>none) (fun _=>0) (fun _=>[]) (fun _=>True) h1 h2 hM hK ha (fun _ _=>by decide) (fun p b5 w' hw=>?_) h).mono ?_
 ·refine (found0_c (Seg.fresh_ok hM limit h1 h2) hf hM hl (Ro.os hH) hw).mono ?_
  rintro e w' ⟨v,rfl,ps,pi,uv,tv,rfl,htv,hS⟩
  exact ⟨_,rfl,ps,pi,uv,tv,(),rfl,htv,trivial,hS⟩
 ·rintro e w' ⟨v,rfl,r,p,ps,pi,pn,uv,_,rfl,_,hS⟩
  exact ⟨_,rfl,r,p,ps,pi,pn,uv,rfl,hS⟩
theorem rokY_c {seg:Int}{d:Bool} (h:Sat w0 w (rpPt r m seg p ps pn d::F)):Calls Tryz.prog 62 #[ptr r] w (Rtn fun v w'=>v = .bool true∧w=w'):=by
 have e2:w.cell? ⟨r,2,none⟩=some (.pointer (some ⟨p,0,none⟩)):=h.cellAt 2 _ rfl
 go_enter Tryz.func62,Tryz.ntmps62
 go_wp2
 go_ret
 exact ⟨_,rfl,rfl,rfl⟩
end
theorem sizeX {K:Nat}{M:Med} (h:M.Ok K) (ho:M.off=false):M.size ByteArray.empty=(0,9):=by
 have hn:nget M.now ByteArray.empty=none:=by
  cases hi:nget M.now ByteArray.empty with
  |none=>rfl
  |some i=>exact absurd rfl (h.nowOk.ne _ (nget_mem hi))
 unfold Med.size
 rw [ho,hn];rfl
section
variable {w0 w:World}{F:List HProp}
abbrev RX (r m p ps pi pn:Nat) (uv:Value) (limit:Int) (M:Med) (F:List HProp):List HProp:=
 rpPt r m limit p ps pn false::stPt ps (-1) pi uv (.slice none 0 0)::TabML pn (fun _=>none) 0::TabML pi (fun _=>none) 0::osl 207 3 uv []::LogRep p m ⟨limit,[],false,0⟩::MedRep m M::F
theorem ropenX_c {m K r0:Nat}{M:Med}{limit:Int} (h1:128≤limit) (h2:limit≤1048576) (hM:Seg.Calm K r0 M) (hK:K≤1048576) (hnow:M.now=[]) (hH:Ro w0 F Half) (h:Sat w0 w (MedRep m M::F)) :
  Calls Tryz.prog 18 #[ptr m,.int .i64 limit] w (Rtn fun v w'=>∃ (r p ps pi pn:Nat) (uv:Value),v = .tuple #[ptr r,.agg (fltA Rep.Flt.zero),errno 0]∧Seg.Rp K r0 0 0 0 ⟨limit,[],false,0⟩ M []∧Sat w0 w' (RX r m p ps pi pn uv limit M F)):=by
 have hl:M.list=[]:=by rw [hM.quiet.list,hnow];rfl
 have hfr:Seg.fresh M limit=⟨limit,[],false,0⟩:=by
  unfold Seg.fresh Seg.found
  rw [hl]
  rfl
 have ha:Seg.alive M=0:=by unfold Seg.alive;rw [sizeX hM.ok hM.quiet.off];rfl
 have hu:M.used=0:=by unfold Med.used;rw [hnow];rfl
 refine (ropen0_c h1 h2 hM.ok hK ha (by rw [hfr];rfl) hl hH h).mono ?_
 rintro e w' ⟨v,rfl,r,p,ps,pi,pn,uv,rfl,hS⟩
 have hok:=Seg.fresh_ok hM.ok limit h1 h2
 rw [hfr]at hS hok
 refine ⟨_,rfl,r,p,ps,pi,pn,uv,rfl,⟨⟨⟨hok,hM,fun s hs=>by cases hs⟩,rfl,fun k es hk=>(by simp at hk),fun k es hk=>(by simp at hk),fun es he=>(by cases he),Nat.le_refl _,by rw [hu];omega,by rw [hnow];exact Nat.le_refl _,fun k i hk hi=>by rw [hnow]at hi;cases hi⟩,by rw [hnow];rfl,Nat.le_refl _,fun p hp=>by rw [hnow]at hp;cases hp⟩,hS.sb⟩
end
end Go.Proofs.YtlimfgdbfadohaaGreatDoor
namespace Go.Rep
structure Rfc where
 refs:Int
 size:Int
end Go.Rep
namespace Go.Proofs.YtlimfgdbfadohaaGreatDoor
open Go Go.Sl Go.Med Go.MapKept Go.RowKit
def renc (a:Rep.Rfc):List Value:=[.int .i64 a.refs,.int .i64 a.size]
abbrev zwR:Rep.Rfc:=⟨0,0⟩
theorem renc_len (a:Rep.Rfc):(renc a).length=2:=rfl
theorem renc_ones (a:Rep.Rfc):(renc a).all (·.oneCell')=true:=rfl
theorem zSlotR:zeroB Tryz.prog 120=some (.agg (slotL renc ⟨0,Frm.zero32,zwR⟩).toArray):=by kernel_rfl
theorem plSlotR:placesB Tryz.prog 120=some [(0,1),(1,32),(33,2)]:=by kernel_rfl
section
variable {w0 w:World}{F R:List HProp}{p n gn d c:Nat}{sv v:Value}{k:Frm.Bs}{s:List (Tab.Slot (Rep.Rfc))}{a:Option Addr}
theorem okR_c (hl:0<s.length) (h:Sat w0 w (tbPt p 123 (.slice a s.length c) n gn::F)) :
  Calls Tryz.prog 52 #[ptr p] w (Rtn fun v w'=>v = .bool true∧w=w'):=by
 have e0:w.cell? ⟨p,0,none⟩=some (.slice a s.length c):=h.cellAt 0 _ rfl
 have c1:(0:Int)<(s.length:Int):=oQ
 go_enter Tryz.func52,Tryz.ntmps52
 go_wp2
 go_ret
 exact ⟨_,rfl,rfl,rfl⟩
set_option maxRecDepth 20000 in
theorem findR_c (g:Tab.Good s) (hc:s.length≤1073741824) (hk:k.length=32) (he:Tab.Ends s k d) (h:Sat w0 w (tbPt p 123 sv n gn::osl 120 35 sv (s.flatMap (slotL renc))::F)) :
  Calls Tryz.prog 53 #[ptr p,.agg (bys k).toArray] w (Rtn fun v w'=>∃ x,s[Tab.pos k s.length d]?=some x∧v = .tuple #[.int .i64 (Tab.pos k s.length d:Nat),.int .i64 ((d:Int)+1),.bool (decide (x.st=1))] ∧
   Sat w0 w' (tbPt p 123 sv n gn::osl 120 35 sv (s.flatMap (slotL renc))::F)):=by
 have Hk:=uQ hk;have HG:=uQ g;have HE:=uQ he;have Hc:=uQ hc
 have Hlen:=uQ (show ∀ x∈s,(slotL renc x).length=35 from fun x hx=>slotL_len renc x (g.key x hx) 2 (renc_len _))
 obtain ⟨la,lc,rfl⟩:=osl_rows Hlen.out (Sat.rd (h.pick pick1)) dCz
 obtain ⟨j,hj,_⟩:=g.pow
 have hj40:j<40:=by
  rcases Nat.lt_or_ge j 40 with q|q
  ·exact q
  ·have:2^40≤2^j:=Nat.pow_le_pow_right dCz q
   have h40:(2:Nat)^40=1099511627776:=by decide
   omega
 have Hj:=uQ hj;have Hj40:=uQ hj40
 have Hd:=uQ (show d<s.length from he.lt)
 have hp0:0<s.length:=g.pos_len
 have Hp0:=uQ hp0
 have Hpz:=uQ (Tab.pos_zero (k:=k) hp0)
 clear hj hj40 hk g he hc hp0
 go_enter Tryz.func53,Tryz.ntmps53
 go_wp2_with ((with_reducible refine at_box ⟨?_⟩);refine wl_box aQ evD evD ?_;intro bB wB hB)
 have hB1:=hB.drew
 clear hB
 refine wpL_begin [6,7] (fun w'=>w'.rangeAt bB 0 (bys k)∧w'.cell? ⟨p,0,none⟩=some (.slice la s.length lc)) kRz ?_
 have hG:World.rangeAt _ bB 0 (bys k)∧World.cell? _ ⟨p,0,none⟩=some (.slice la s.length lc):=⟨pt_rangeL (hB1.pk (A:=pt bB (.cells (bys k).toArray 30 (0,0)))),hB1.cellP pkD 0 rfl⟩
 refine rg_take 0 evD kRz i3z (tk_loadN (b:=bB) (o:=0) (bys k) rFz Tryz.underlying30 rfl (by rw [bys_len,Hk.out];kernel_rfl) (fun w hw=>hw.1)) aQ gQ ?_
 refine rP 1 ?_ (y:=mvQ)
 refine rP 2 ?_ (y:=nlQ)
 refine rP 3 ?_ (y:=flQ)
 refine rt 4 (h:=?_)
 refine rP 5 ?_ (y:=(yl_len evD rnD))
 clear hG
 have hh:=home_c k Hk.out j Hj40.out hB1
 rw [← Hj.out]at hh
 refine rg_eff 6 evD kRz (fun K hK=>?_)
 (refine eff_call2 kRz evD evD ?_)
 refine hh.mono ?_
 rintro ee w2 ⟨v,rfl,rfl,hS2⟩
 refine hK _ _ (.inl rfl) ?_
 clear hK hh hB1
 refine rP 7 ?_ (y:=asQ)
 refine wpL_done kRz ?_
 try simp only [ayQ]
 try go_frame
 rw [← Hpz.out]
 go_wp2_with fail
 go_loopg [7,8] d (fun g aq sq wr=>∃ e:Nat,g=d - e∧e≤d∧aq = .int .i64 (Tab.pos k s.length e:Nat)∧sq = .int .i64 ((e:Int)+1) ∧
  Sat w0 wr (pt bB (.cells (bys k).toArray 30 (0,0))::tbPt p 123 (.slice la s.length lc) n gn::osl 120 35 (.slice la s.length lc) (s.flatMap (slotL renc))::F))
 case atStart=>exact ⟨0,rfl,Nat.zero_le _,rfl,rfl,hS2.sb⟩
 case round=>
  obtain ⟨e,rfl,hed,rfl,rfl,hS⟩:=hrel
  clear hS2
  have hlt:=Tab.pos_lt (k:=k) (d:=e) Hp0.out
  have hdl:=Hd.out
  have hcl:=Hc.out
  obtain ⟨x,hx⟩:∃ x,s[Tab.pos k s.length e]?=some x:=⟨_,List.getElem?_eq_getElem hlt⟩
  have hxm:=List.mem_of_getElem? hx
  have hst:=HG.out.st x hxm
  have Hxk:=uQ (HG.out.key x hxm)
  obtain ⟨bk,off,c',hsv,hcell⟩:=osl_row Hlen.out (Sat.rd (hS.pick pick2)) hx dCz
  have Hnext:=uQ (Tab.pos_next (k:=k) (d:=e) Hp0.out)
  have Hmask:=uQ (and_mask (Tab.pos k s.length e+1) j oQ (by have:=Hj40.out;omega))
  have Hstop:=uQ (show e=d↔x.stop k from ⟨fun h=>by
    subst h
    obtain ⟨y,hy,hs⟩:=HE.out.here
    rw [hx]at hy;cases hy;exact hs,fun h=>by
    rcases Nat.lt_or_ge e d with q|q
    ·exact absurd ⟨x,hx,h⟩ (HE.out.no e q)
    ·omega⟩)
  have Hx:=uQ hx
  cases hsv
  have c0:(0:Int)≤((Tab.pos k s.length e:Nat):Int):=oQ
  have c1:((Tab.pos k s.length e:Nat):Int)<(s.length:Int):=oQ
  have c2:Tab.pos k s.length e<s.length:=hlt
  have e0:wr.cell? ⟨p,0,none⟩=some (.slice (some ⟨bk,off,none⟩) s.length lc):=hS.cellP pkD 0 rfl
  have hl38:=Hlen.out x hxm
  clear hx hxm
  have hq:bits .and .i64 (((Tab.pos k s.length e:Nat):Int)+1) ((s.length:Int) - 1)=((Tab.pos k s.length (e+1):Nat):Int):=by
   have h1:=Hmask.out
   rw [← Hj.out,Hnext.out]at h1
   rw [← h1]
   congr 1
   have:=Hp0.out
   omega
  have hw1:IntKind.i64.wrap (((Tab.pos k s.length e:Nat):Int)+1)=((Tab.pos k s.length e:Nat):Int)+1:=IntWalk.i64_in _ oQ
  have hw2:IntKind.i64.wrap ((s.length:Int) - 1)=(s.length:Int) - 1:=IntWalk.i64_in _ oQ
  have hw3:IntKind.i64.wrap ((e:Int)+1+1)=(e:Int)+1+1:=IntWalk.i64_in _ oQ
  clear hdl hcl
  generalize hP1:Tab.pos k s.length (e+1)=P1 at hq
  have HP1:=uQ hP1
  generalize hP:Tab.pos k s.length e=P0 at *
  have HP:=uQ hP
  clear hP1 hP hlt Hmask Hnext
  have Hed:=uQ hed
  clear hed
  go_wp2_with (with_reducible apply at_load)
  refine ⟨wl_load1 hS rFz pkD nLz evD kRz ?_⟩
  go_wp2_with (with_reducible apply at_load)
  refine ⟨wl_loadW (b:=bk) (o:=off+P0 * 35) (slotL renc x) rFz hcell Tryz.underlying120 rfl (by rw [hl38];kernel_rfl) ?_⟩
  go_wp2_with (with_reducible apply at_alloc)
  refine ⟨wl_alloc zSlotR hS rfl ?_⟩
  intro b9 w9 hS9
  go_wp2_with (first|((with_reducible refine at_store ⟨?_⟩);refine wl_storeA (slotL renc x).toArray hS9 rFz rFz (by rw [List.size_toArray,hl38];rfl) upd0 (by rw [List.size_toArray,hl38];kernel_rfl) (by rw [List.toList_toArray];exact slotL_ones renc x (renc_ones _)) ?_;intro w10 hS10)|(with_reducible apply at_load))
  refine ⟨?_⟩
  clear hS hS9 hcell e0
  have f0:w10.cell? ⟨b9,0,none⟩=some (.int .i64 x.st):=hS10.cellP pick0 0 (by rw [List.getElem?_toArray];rfl)
  have f1:w10.rangeAt b9 1 (bys x.key):=slot_key (hS10.pick pick0)
  have f2:w10.cell? ⟨p,0,none⟩=some (.slice (some ⟨bk,off,none⟩) s.length lc):=hS10.cellP pkD 0 rfl
  have hend:Sat w0 w10 (pt bB (.cells (bys k).toArray 30 (0,0))::tbPt p 123 (.slice (some ⟨bk,off,none⟩) s.length lc) n gn::osl 120 35 (.slice (some ⟨bk,off,none⟩) s.length lc) (s.flatMap (slotL renc))::F):=hS10.sb
  have h3:x.st=0∨x.st=1∨x.st=2:=oQ
  rcases h3 with h3|h3|h3
  ·have h4:e=d:=Hstop.out.2 (.inl h3)
   rw [h3]at f0
   have Hdx:=uQ (show decide (x.st=1)=false by rw [h3];rfl)
   have Hst:=uQ (show (x.st:Int)=0 by rw [h3];rfl)
   clear Hstop hst h3 f1 f2 hq hw1 hw2 hw3 c0 c1 c2
   subst h4
   go_wp2_with fail
   have hS11:=hS10.drew
   clear hS10
   refine wpL_begin [4,7] (fun w'=>w'.cell? ⟨b9,0,none⟩=some (.int .i64 0)) kRz ?_
   have hG:World.cell? _ ⟨b9,0,none⟩=some (.int .i64 0):=hS11.cellP pick0 0 (by rw [List.getElem?_toArray,← Hst.out];rfl)
   clear f0
   refine rP 0 ?_ (y:=mvQ)
   refine rP 1 ?_ (y:=mvQ)
   refine rP 2 ?_ (y:=flQ)
   refine rt 3 (h:=?_)
   refine rP 4 ?_ (y:=bnQ)
   refine rP 5 ?_ (y:=asQ)
   refine rP 6 ?_ (y:=asQ)
   refine rP 7 ?_ (y:=asQ)
   refine wpL_done kRz ?_
   clear hG
   try simp only [ayQ]
   try go_frame
   go_wp2_with fail
   go_ret3
   exact ⟨_,rfl,x,by rw [HP.out];exact Hx.out,by rw [HP.out,Hdx.out];rfl,hS11.sb⟩
  ·have f3:w10.rangeAt bB 0 (bys k):=pt_rangeL (hS10.pk (A:=pt bB (.cells (bys k).toArray 30 (0,0))))
   have hkk:=eqIn_key x.key k Hxk.out Hk.out
   rw [h3]at f0
   by_cases hxk:x.key=k
   ·have h4:e=d:=Hstop.out.2 (.inr ⟨h3,hxk⟩)
    have Hdx:=uQ (show decide (x.st=1)=true by rw [h3];rfl)
    have Hst:=uQ (show (x.st:Int)=1 by rw [h3];rfl)
    rw [decide_eq_true hxk]at hkk
    clear Hstop hst h3 hxk hq hw1 hw2 hw3 c0 c1 c2 f2
    subst h4
    go_wp2_with (first
     |((with_reducible refine at_loadG ⟨?_⟩);refine wl_loadGm (o:=1) rFz rFz (bys x.key) _ f1 Tryz.underlying30 rfl (by rw [bys_len,Hxk.out];kernel_rfl) ?_)
     |((with_reducible refine at_loadG ⟨?_⟩);refine wl_loadGm (o:=0) rFz rFz (bys k) _ f3 Tryz.underlying30 rfl (by rw [bys_len,Hk.out];kernel_rfl) ?_))
    clear hkk f1 f3
    have hS11:=hS10.drew
    clear hS10
    refine wpL_begin [4,7] (fun w'=>w'.cell? ⟨b9,0,none⟩=some (.int .i64 1)) kRz ?_
    have hG:World.cell? _ ⟨b9,0,none⟩=some (.int .i64 1):=hS11.cellP pick0 0 (by rw [List.getElem?_toArray,← Hst.out];rfl)
    clear f0
    refine rP 0 ?_ (y:=mvQ)
    refine rP 1 ?_ (y:=mvQ)
    refine rP 2 ?_ (y:=flQ)
    refine rt 3 (h:=?_)
    refine rP 4 ?_ (y:=bnQ)
    refine rP 5 ?_ (y:=asQ)
    refine rP 6 ?_ (y:=asQ)
    refine rP 7 ?_ (y:=asQ)
    refine wpL_done kRz ?_
    clear hG
    try simp only [ayQ]
    try go_frame
    go_wp2_with fail
    go_ret3
    exact ⟨_,rfl,x,by rw [HP.out];exact Hx.out,by rw [HP.out,Hdx.out];rfl,hS11.sb⟩
   ·have h4:e<d:=by
     have:=Hed.out
     rcases Nat.lt_or_ge e d with q|q
     ·exact q
     ·exact absurd (Hstop.out.1 oQ) (fun h=>h.elim (fun h=>by omega) fun h=>hxk h.2)
    rw [decide_eq_false hxk]at hkk
    have H4:=uQ h4
    clear Hstop hst h3 hxk h4
    go_wp2_with (first
     |((with_reducible refine at_loadG ⟨?_⟩);refine wl_loadGm (o:=1) rFz rFz (bys x.key) _ f1 Tryz.underlying30 rfl (by rw [bys_len,Hxk.out];kernel_rfl) ?_)
     |((with_reducible refine at_loadG ⟨?_⟩);refine wl_loadGm (o:=0) rFz rFz (bys k) _ f3 Tryz.underlying30 rfl (by rw [bys_len,Hk.out];kernel_rfl) ?_))
    go_roundg (d - (e+1))
    case measure=>have:=H4.out;omega
    case rel=>exact ⟨e+1,rfl,H4.out,by rw [HP1.out],by first|rfl|go_num,hS10.sb⟩
  ·have h4:e<d:=by
    have:=Hed.out
    rcases Nat.lt_or_ge e d with q|q
    ·exact q
    ·exact absurd (Hstop.out.1 oQ) (fun h=>h.elim (fun h=>by omega) fun h=>by omega)
   rw [h3]at f0
   have H4:=uQ h4
   clear Hstop hst h3 f1 h4
   go_wp2_with fail
   go_roundg (d - (e+1))
   case measure=>have:=H4.out;omega
   case rel=>exact ⟨e+1,rfl,H4.out,by rw [HP1.out],by first|rfl|go_num,hS10.sb⟩
end
def TabMR (p:Nat) (m:Frm.Bs→Option (Rep.Rfc)) (B:Nat):HProp:=fun h=>∃ (t:Tab.Tb (Rep.Rfc)) (sv:Value),(t.Ok∧t.Is m∧t.n+t.gone≤B)∧stars [tbPt p 123 sv t.n t.gone,osl 120 35 sv (t.slots.flatMap (slotL renc))] h
theorem zValR:zeroB Tryz.prog 60=some (.agg (renc ⟨0,0⟩).toArray):=by kernel_rfl
section
variable {w0 w:World}{F R:List HProp}{p B:Nat}{sv v:Value}{k:Frm.Bs}{m:Frm.Bs→Option (Rep.Rfc)}{t:Tab.Tb (Rep.Rfc)}
theorem TabMR.open (h:Sat w0 w (TabMR p m B::F)):∃ (t:Tab.Tb (Rep.Rfc)) (sv:Value),(t.Ok∧t.Is m∧t.n+t.gone≤B)∧Sat w0 w (tbPt p 123 sv t.n t.gone::osl 120 35 sv (t.slots.flatMap (slotL renc))::F):=by
 obtain ⟨ha,x,hx,q,r,dd,rfl,⟨t,sv,hin,hp⟩,hq⟩:=h
 refine ⟨t,sv,hin,ha,_,hx,?_⟩
 show stars ([tbPt p 123 sv t.n t.gone,osl 120 35 sv (t.slots.flatMap (slotL renc))]++F) _
 rw [stars_append]
 exact ⟨q,r,dd,rfl,hp,hq⟩
theorem TabMR.shut (h1:t.Ok) (h2:t.Is m) (h3:t.n+t.gone≤B) (h:Sat w0 w (tbPt p 123 sv t.n t.gone::osl 120 35 sv (t.slots.flatMap (slotL renc))::F)):Sat w0 w (TabMR p m B::F):=
 Sat.join (M:=[tbPt p 123 sv t.n t.gone,osl 120 35 sv (t.slots.flatMap (slotL renc))]) h fun _ hx=>⟨t,sv,⟨h1,h2,h3⟩,hx⟩
theorem newR_c (h:Sat w0 w F):Calls Tryz.prog 83 #[] w (Rtn fun v w'=>∃ p,v=ptr p∧Sat w0 w' (TabMR p (fun _=>none) 0::F)):=by
 go_enter Tryz.func83,Tryz.ntmps83
 go_wp2_with (first
  |((with_reducible refine at_make ⟨?_⟩);refine wl_makeN (e:=120) (sz:=35) (by':=56) (n:=8) kRz zSlotR h rFz rFz dCz dCz ?_;intro bM wM hM)
  |((with_reducible refine at_box ⟨?_⟩);refine wl_box hM evD evD ?_;intro bB wB hB))
 go_ret
 refine ⟨_,rfl,bB,rfl,?_⟩
 have e:(List.replicate 8 (slotL renc ⟨0,Frm.zero32,zwR⟩)).flatten=(List.replicate 8 (⟨0,Frm.zero32,zwR⟩:Tab.Slot (Rep.Rfc))).flatMap (slotL renc):=(rows_rep 8 _).symm
 rw [e]at hB
 exact TabMR.shut (t:=⟨List.replicate 8 ⟨0,Frm.zero32,zwR⟩,0,0⟩) (Tab.new_ok dCz rfl) (Tab.new_is rfl 0 0) (Nat.le_refl 0) hB
set_option maxRecDepth 20000 in
theorem getR_c (hB:B≤268435000) (hk:k.length=32) (h:Sat w0 w (TabMR p m B::F)) :
  Calls Tryz.prog 23 #[ptr p,.agg (bys k).toArray] w (Rtn fun v w'=>v = .tuple #[.agg (renc ((m k).getD ⟨0,0⟩)).toArray,.bool (m k).isSome]∧Sat w0 w' (TabMR p m B::F)):=by
 obtain ⟨t,sv,⟨ok,is,hb⟩,hR⟩:=TabMR.open h
 obtain ⟨d,he⟩:=ok.ends k
 have hsz:t.slots.length≤1073741824:=by have:=ok.size;omega
 have Hlen:=uQ (show ∀ x∈t.slots,(slotL renc x).length=35 from fun x hx=>slotL_len renc x (ok.good.key x hx) 2 (renc_len _))
 obtain ⟨la,lc,rfl⟩:=osl_rows Hlen.out (Sat.rd (hR.pick pick1)) dCz
 have Hk:=uQ hk;have Hok:=uQ ok;have His:=uQ is;have Hb:=uQ hb;have He:=uQ he;have Hsz:=uQ hsz
 have Hp0:=uQ ok.good.pos_len
 clear h hk ok is hb he hsz hB
 go_enter Tryz.func23,Tryz.ntmps23
 go_wp2_with (first|((with_reducible refine at_box ⟨?_⟩);refine wl_box aQ evD evD ?_;intro bB wB hB)|(with_reducible apply at_alloc))
 refine ⟨wl_alloc zValR hB rfl ?_⟩
 intro b4 w4 hS4
 go_wp2_with (with_reducible apply at_alloc)
 refine ⟨wl_alloc zValR hS4 rfl ?_⟩
 intro b6 w6 hS6
 have hR6:Sat w0 w6 (tbPt p 123 (.slice la t.slots.length lc) t.n t.gone::pt b6 (.cells (renc zwR).toArray 60 (0,0))::pt b4 (.cells (renc zwR).toArray 60 (0,0))::pt bB (.cells (bys k).toArray 30 (0,0))::osl 120 35 (.slice la t.slots.length lc) (t.slots.flatMap (slotL renc))::F):=hS6.sb
 clear hB hS4 hS6 hR
 go_wp2_with fail
 refine (okR_c Hp0.out hR6).mono ?_
 rintro ee w7 ⟨v,rfl,rfl,rfl⟩
 go_wp2_with ((with_reducible refine at_load ⟨?_⟩);refine wl_loadA hR6 rFz (pick_there (pick_there (pick_there pick0))) Tryz.underlying30 rfl (by rw [List.size_toArray,bys_len,Hk.out];kernel_rfl) ?_)
 have hf:=findR_c Hok.out.good Hsz.out Hk.out He.out (hR6.sb:Sat w0 w6 (tbPt p 123 (.slice la t.slots.length lc) t.n t.gone::osl 120 35 (.slice la t.slots.length lc) (t.slots.flatMap (slotL renc))::pt b6 (.cells (renc zwR).toArray 60 (0,0))::pt b4 (.cells (renc zwR).toArray 60 (0,0))::F))
 clear hR6
 refine hf.mono ?_
 rintro ee w8 ⟨v,rfl,x,hx,rfl,hS8⟩
 clear hf
 obtain ⟨m1,m2⟩:=His.out.some Hok.out He.out hx
 have hxm:=List.mem_of_getElem? hx
 have hxk:=Hok.out.good.key x hxm
 obtain ⟨bk,off,c',hsv,hcell⟩:=osl_row Hlen.out (Sat.rd (hS8.pick pick1)) hx dCz
 cases hsv
 have hlt:=Tab.pos_lt (k:=k) (d:=d) Hp0.out
 have hval:∀ j v,(renc x.val)[j]?=some v→w8.cell? ⟨bk,off+Tab.pos k t.slots.length d * 35+33+j,none⟩=some v:=fun j v hj=>by
  rw [Nat.add_assoc _ 33 j]
  exact hcell (33+j) v (slotL_val renc x hxk hj)
 clear hcell hx hxm
 generalize Tab.pos k t.slots.length d=P0 at *
 have c0:(0:Int)≤(P0:Int):=oQ
 have c1:(P0:Int)<(t.slots.length:Int):=oQ
 have e0:w8.cell? ⟨p,0,none⟩=some (.slice (some ⟨bk,off,none⟩) t.slots.length lc):=hS8.cellP pkD 0 rfl
 by_cases h1:x.st=1
 ·have hd:decide (x.st=1)=true:=decide_eq_true h1
  have Hm:=uQ (m1 h1)
  clear m1 m2 h1
  go_wp2_with (first
   |((with_reducible refine at_load ⟨?_⟩);refine wl_load1 hS8 rFz pkD nLz evD kRz ?_)
   |((with_reducible refine at_load ⟨?_⟩);refine wl_loadW (b:=bk) (o:=off+P0 * 35+33) (renc x.val) rFz hval Tryz.underlying60 rfl kRz ?_)
   |((with_reducible refine at_store ⟨?_⟩);refine wl_storeA (renc x.val).toArray hS8 rFz rFz rFz (upd_there (upd_there (upd_there upd0))) kRz rFz ?_;intro w10 hS10))
  refine ⟨rfl,_,res_cell_tmp rfl hS10 rFz pkD Tryz.underlying60 rfl kRz,_,rfl,?_,TabMR.shut Hok.out His.out Hb.out (hS10.sb)⟩
  rw [Hm.out];rfl
 ·have hd:decide (x.st=1)=false:=decide_eq_false h1
  have Hm:=uQ (m2 h1)
  clear m1 m2 h1
  go_wp2_with (first
   |((with_reducible refine at_load ⟨?_⟩);refine wl_loadA hS8 rFz (pick_there (pick_there (pick0 (A:=pt b6 (.cells (renc zwR).toArray 60 (0,0)))))) Tryz.underlying60 rfl kRz ?_)
   |((with_reducible refine at_store ⟨?_⟩);refine wl_storeA (renc zwR).toArray hS8 rFz rFz rFz (upd_there (upd_there (upd_there upd0))) kRz rFz ?_;intro w10 hS10))
  refine ⟨rfl,_,res_cell_tmp rfl hS10 rFz (pick_there (pick_there (pick_there pick0))) Tryz.underlying60 rfl kRz,_,rfl,?_,TabMR.shut Hok.out His.out Hb.out (hS10.sb)⟩
  rw [Hm.out];rfl
end
section
variable {w0 w:World}{F R:List HProp}{p B N:Nat}{sv v:Value}{k:Frm.Bs}{m:Frm.Bs→Option (Rep.Rfc)}{t:Tab.Tb (Rep.Rfc)}
set_option maxRecDepth 20000 in
theorem renewR_c (ok:t.Ok) (hN:t.n≤N) (hNb:N≤134217728) (hlen31:t.slots.length≤1073741824) (h:Sat w0 w (tbPt p 123 sv t.n t.gone::osl 120 35 sv (t.slots.flatMap (slotL renc))::F)) :
  Calls Tryz.prog 58 #[ptr p,.int .i64 N] w (Rtn fun _ w'=>∃ s' sv',Tab.Renewed t s' N∧Sat w0 w' (tbPt p 123 sv' t.n 0::osl 120 35 sv' (s'.flatMap (slotL renc))::F)):=by
 have Hok:=uQ ok;have HN:=uQ hN;have HNb:=uQ hNb
 have Hlen:=uQ (show ∀ x∈t.slots,(slotL renc x).length=35 from fun x hx=>slotL_len renc x (ok.good.key x hx) 2 (renc_len _))
 obtain ⟨la,lc,rfl⟩:=osl_rows Hlen.out (Sat.rd (h.pick pick1)) dCz
 have hw0:IntKind.i64.wrap (2 * (N:Int))=2 * (N:Int):=IntWalk.i64_in _ oQ
 have hw0b:wrap64 (2 * (N:Int))=2 * (N:Int):=IntWalk.wrap64_in _ oQ
 clear ok hN
 go_enter Tryz.func58,Tryz.ntmps58
 go_wp2_with fail
 go_loopg [4] (4 * N) (fun g cq wr=>∃ c:Nat,g=4 * N+8 - c∧cq = .int .i64 c∧(∃ j,c=2^j∧3≤j)∧8≤c∧(c=8∨c<4 * N)∧wr=w)
 case atStart=>exact ⟨8,by omega,rfl,⟨3,rfl,Nat.le_refl 3⟩,Nat.le_refl 8,.inl rfl,rfl⟩
 case round=>
  obtain ⟨c,rfl,rfl,⟨j,hj,hj3⟩,hc8,hc,rfl⟩:=hrel
  by_cases hlt:c<2 * N
  ·have c1:(c:Int)<2 * (N:Int):=by omega
   have hw1:IntKind.i64.wrap ((c:Int) * 2)=(c:Int) * 2:=IntWalk.i64_in _ oQ
   have hw1b:wrap64 ((c:Int) * 2)=(c:Int) * 2:=IntWalk.wrap64_in _ oQ
   have Hj:=uQ hj;have Hj3:=uQ hj3;have Hlt:=uQ hlt;have Hc8:=uQ hc8
   clear hj hj3 hlt hc hc8
   go_wp2_with fail
   go_roundg (4 * N+8 - c * 2)
   case measure=>have:=Hlt.out;have:=Hc8.out;omega
   case rel=>exact ⟨c * 2,rfl,by first|rfl|go_num,⟨j+1,by rw [Nat.pow_succ,Hj.out],by have:=Hj3.out;omega⟩,by have:=Hc8.out;omega,.inr (by have:=Hlt.out;omega),rfl⟩
  ·have c1:¬ (c:Int)<2 * (N:Int):=by omega
   have HC:=uQ (show (∃ j,c=2^j∧3≤j)∧2 * N≤c∧8≤c∧(c=8∨c<4 * N) from ⟨⟨j,hj,hj3⟩,by omega,hc8,hc⟩)
   have hcb:c≤1073741824:=oQ
   have Hcb:=uQ hcb
   clear hj hj3 hlt hc hc8 hw0 hcb hNb
   go_wp2_with (first
    |((with_reducible refine at_load ⟨?_⟩);refine wl_load1 h rFz pkD nLz evD kRz ?_)
    |((with_reducible refine at_make ⟨?_⟩);refine wl_makeN (e:=120) (sz:=35) (by':=56) (n:=c) kRz zSlotR h rFz rFz (by have:=Hcb.out;omega) (by have:=Hcb.out;omega) ?_;intro bM wM hM)
    |((with_reducible refine at_store ⟨?_⟩);refine wl_store aQ rFz evD pQ upD nLz kRz rFz ?_;intro wS hS))
   have e8:(List.replicate c (slotL renc ⟨0,Frm.zero32,zwR⟩)).flatten=(List.replicate c (⟨0,Frm.zero32,zwR⟩:Tab.Slot (Rep.Rfc))).flatMap (slotL renc):=(rows_rep c _).symm
   rw [e8]at hS
   have hS0:Sat w0 _ (tbPt p 123 (.slice (some ⟨bM,0,none⟩) c c) t.n 0::osl 120 35 (.slice (some ⟨bM,0,none⟩) c c) ((List.replicate c (⟨0,Frm.zero32,zwR⟩:Tab.Slot (Rep.Rfc))).flatMap (slotL renc))::osl 120 35 (.slice la t.slots.length lc) (t.slots.flatMap (slotL renc))::F):=hS.sb
   clear hS hM h e8 c1
   go_wp2_with fail
   go_loopg [31] t.slots.length (fun g iq wr=>∃ (i:Nat) (cur:List (Tab.Slot (Rep.Rfc))),g=t.slots.length - i∧i≤t.slots.length∧iq = .int .i64 i∧Tab.Half t.slots cur i∧cur.length=c ∧
    Sat w0 wr (tbPt p 123 (.slice (some ⟨bM,0,none⟩) c c) t.n 0::osl 120 35 (.slice (some ⟨bM,0,none⟩) c c) (cur.flatMap (slotL renc))::osl 120 35 (.slice la t.slots.length lc) (t.slots.flatMap (slotL renc))::F))
   case atStart=>exact ⟨0,_,rfl,Nat.zero_le _,rfl,Tab.half_start HC.out.1 dCz rfl,List.length_replicate,hS0⟩
   case round=>
    obtain ⟨i,cur,rfl,hi,rfl,hH,hcl,hS⟩:=hrel
    clear hS0
    have HH:=uQ hH;have Hcl:=uQ hcl
    by_cases hlt:i<t.slots.length
    rotate_left
    ·obtain rfl:i=t.slots.length:=by omega
     have c1:¬ (t.slots.length:Int)<(t.slots.length:Int):=oQ
     clear hlt hH hi
     go_wp2_with fail
     go_end0
     obtain ⟨q1,q2,q3,q4⟩:=HH.out.done
     exact ⟨_,rfl,cur,⟨q1,q2,q3.trans Hok.out.n.symm,q4.trans Hok.out.n.symm,by rw [Hcl.out];exact HC.out.2.1,by rw [Hcl.out];exact HC.out.2.2.1,by rw [Hcl.out];exact HC.out.2.2.2⟩,_,hS.sb⟩
    have c1:(i:Int)<(t.slots.length:Int):=oQ
    have hwi:=iwQ (i:=i)
    obtain ⟨x,hx⟩:∃ x,t.slots[i]?=some x:=⟨_,List.getElem?_eq_getElem hlt⟩
    have hxm:=List.mem_of_getElem? hx
    have hst:=Hok.out.good.st x hxm
    have Hxk:=uQ (Hok.out.good.key x hxm)
    obtain ⟨bk,off,c',hsv,hcell⟩:=osl_row Hlen.out (Sat.rd (hS.pick pick2)) hx dCz
    cases hsv
    have hl38:=Hlen.out x hxm
    have Hx:=uQ hx;have Hlt:=uQ hlt
    clear hx hxm hlt hH hi
    go_wp2_with (first
     |((with_reducible refine at_load ⟨?_⟩);refine wl_loadW (b:=bk) (o:=off+i * 35) (slotL renc x) rFz hcell Tryz.underlying120 rfl (by rw [hl38];kernel_rfl) ?_)
     |(with_reducible apply at_alloc))
    refine ⟨wl_alloc zSlotR hS rfl ?_⟩
    intro b7 w7 hS7
    go_wp2_with (first|((with_reducible refine at_store ⟨?_⟩);refine wl_storeA (slotL renc x).toArray hS7 rFz rFz (by rw [List.size_toArray,hl38];rfl) upd0 (by rw [List.size_toArray,hl38];kernel_rfl) (by rw [List.toList_toArray];exact slotL_ones renc x (renc_ones _)) ?_;intro w10 hS10)|(with_reducible apply at_load))
    refine ⟨?_⟩
    clear hS hS7 hcell
    have f0:w10.cell? ⟨b7,0,none⟩=some (.int .i64 x.st):=hS10.cellP pick0 0 (by rw [List.getElem?_toArray];rfl)
    have f1:w10.rangeAt b7 1 (bys x.key):=slot_key (hS10.pick pick0)
    by_cases h1:x.st=1
    rotate_left
    ·have hst1:((x.st:Int)==1)=false:=by rw [beq_eq_false_iff_ne];omega
     have H1:=uQ h1
     clear h1 f1
     go_wp2_with fail
     go_roundg (t.slots.length - (i+1))
     case measure=>have:=Hlt.out;omega
     case rel=>exact ⟨i+1,cur,rfl,Hlt.out,by first|rfl|go_num,HH.out.skip Hx.out H1.out,Hcl.out,hS10.sb⟩
    ·have hus:Tab.used cur<cur.length:=by
      have h2:=HH.out.nu
      have h3:=Tab.fulls_take_le t.slots i
      have h4:=Hok.out.n
      have h5:=HN.out
      have h6:=HC.out
      rw [Hcl.out];omega
     obtain ⟨dd,hdd⟩:=Tab.ends_of (k:=x.key) HH.out.good (Tab.free_of hus)
     have H1:=uQ h1;have Hdd:=uQ hdd
     have hst1:((x.st:Int)==1)=true:=by rw [h1];rfl
     have Hcl38:=uQ (show ∀ y∈cur,(slotL renc y).length=35 from fun y hy=>slotL_len renc y (HH.out.good.key y hy) 2 (renc_len _))
     clear h1 hus hdd
     go_wp2_with ((with_reducible refine at_load ⟨?_⟩);refine wl_loadW (b:=b7) (o:=1) (bys x.key) rFz f1 Tryz.underlying30 rfl (by rw [bys_len,Hxk.out];kernel_rfl) ?_)
     have hf:=findR_c HH.out.good (by rw [Hcl.out];exact Hcb.out) Hxk.out Hdd.out (hS10.sb:Sat w0 w10 (tbPt p 123 (.slice (some ⟨bM,0,none⟩) c c) t.n 0::osl 120 35 (.slice (some ⟨bM,0,none⟩) c c) (cur.flatMap (slotL renc))::pt b7 (.cells (slotL renc x).toArray 120 (0,0))::osl 120 35 (.slice (some ⟨bk,off,none⟩) t.slots.length lc) (t.slots.flatMap (slotL renc))::F))
     clear hS10 f0 f1
     refine hf.mono ?_
     rintro ee w11 ⟨v,rfl,y,hy,rfl,hS11⟩
     clear hf hy
     have hlt2:=Tab.pos_lt (k:=x.key) (d:=dd) HH.out.good.pos_len
     rw [Hcl.out]at hlt2
     have Hset:=uQ (rows_set (f:=slotL renc) (k:=35) (i:=Tab.pos x.key cur.length dd) (x:=x) Hcl38.out hl38 (Tab.pos_lt HH.out.good.pos_len))
     have Hst2:=uQ (HH.out.step Hok.out.good Hx.out H1.out Hdd.out)
     rw [Hcl.out]at Hset Hst2
     rw [Hcl.out]
     have hrl:(cur.flatMap (slotL renc)).length=35 * c:=by rw [rows_len Hcl38.out,Hcl.out]
     generalize Tab.pos x.key c dd=P0 at *
     have c2:(0:Int)≤(P0:Int):=oQ
     have c3:(P0:Int)<(c:Int):=oQ
     go_wp2_with fail
     have hSd:=hS11.drew
     clear hS11
     refine wpL_begin [6,7] (fun w'=>w'.cell? ⟨p,0,none⟩=some (.slice (some ⟨bM,0,none⟩) c c)∧w'.rangeAt b7 0 (slotL renc x)) kRz ?_
     have hG:World.cell? _ ⟨p,0,none⟩=some (.slice (some ⟨bM,0,none⟩) c c)∧World.rangeAt _ b7 0 (slotL renc x):=⟨hSd.cellP pkD 0 rfl,pt_rangeL (hSd.pk (A:=pt b7 (.cells (slotL renc x).toArray 120 (0,0))))⟩
     refine rP 0 ?_ (y:=mvQ)
     refine rP 1 ?_ (y:=nlQ)
     refine rP 2 ?_ (y:=flQ)
     refine rt 3 (h:=?_)
     refine rP 4 ?_ (y:=mvQ)
     refine rg_take 5 evD kRz i3z (tk_loadN (b:=b7) (o:=0) (slotL renc x) rFz Tryz.underlying120 rfl (by rw [hl38];kernel_rfl) (fun w hw=>hw.2)) aQ gQ ?_
     refine rP 6 ?_ (y:=ixQ)
     clear hG
     refine rg_eff 7 evD kRz (fun K hK=>?_)
     refine eff_storeSN (vs:=slotL renc x) (P0 * 35) hSd evD evD rfl (upd_there upd0) (by rw [hl38,hrl];omega) (by rw [hl38];kernel_rfl) (slotL_ones renc x (renc_ones _)) ?_
     intro w12 hS12
     refine hK _ _ (.inl rfl) ?_
     clear hK hSd
     refine wpL_done kRz ?_
     try simp only [ayQ]
     try go_frame
     rw [← Hset.out]at hS12
     go_wp2_with fail
     go_roundg (t.slots.length - (i+1))
     case measure=>have:=Hlt.out;omega
     case rel=>exact ⟨i+1,_,rfl,Hlt.out,by first|rfl|go_num,Hst2.out,by rw [List.length_set];exact Hcl.out,hS12.sb⟩
end
theorem run_slotR (k:Frm.Bs) (hk:k.length=32) (v:Rep.Rfc) (w:World) :
  (Instr.build 120 #[(0,.int .i64 1),(1,.agg (bys k).toArray),(2,.agg (renc v).toArray)]).run Tryz.prog w = .ok (.agg (slotL renc ⟨1,k,v⟩).toArray) w:=by
 have hbk:(bys k).toArray.size=32:=by rw [List.size_toArray,bys_len,hk]
 refine (run_build (P:=Tryz.prog) [(0,.int .i64 1),(1,.agg (bys k).toArray),(2,.agg (renc v).toArray)] plSlotR zSlotR (by
  intro p' hp
  simp only [List.mem_cons,List.not_mem_nil,or_false]at hp
  have hzz:(Value.agg (slotL renc (⟨0,Frm.zero32,zwR⟩:Tab.Slot (Rep.Rfc))).toArray).cells.size=35:=by
   show (slotL renc (⟨0,Frm.zero32,zwR⟩:Tab.Slot (Rep.Rfc))).toArray.size=35
   rw [List.size_toArray,slotL_len renc _ dCz 2 rfl]
  rw [hzz]
  rcases hp with rfl|rfl|rfl
  ·exact ⟨0,rfl,by show 0+1≤35;omega⟩
  ·refine ⟨1,?_,?_⟩
   ·show some (1,32)=some (1,(bys k).toArray.size);rw [hbk]
   ·show 1+(bys k).toArray.size≤35;omega
  ·exact ⟨33,rfl,by show 33+2≤35;omega⟩) w).trans ?_
 rw [show (Value.agg (slotL renc (⟨0,Frm.zero32,zwR⟩:Tab.Slot (Rep.Rfc))).toArray).cells=(slotL renc (⟨0,Frm.zero32,zwR⟩:Tab.Slot (Rep.Rfc))).toArray from rfl,put_slot renc ⟨0,Frm.zero32,zwR⟩ k v dCz hk rfl 2 rfl]
section
variable {w0 w:World}{F R:List HProp}{p B:Nat}{sv:Value}{k:Frm.Bs}{m:Frm.Bs→Option (Rep.Rfc)}
set_option maxRecDepth 20000 in
theorem putR_c (hB:B≤134217000) (hk:k.length=32) (v:Rep.Rfc) (h:Sat w0 w (TabMR p m B::F)) :
  Calls Tryz.prog 25 #[ptr p,.agg (bys k).toArray,.agg (renc v).toArray] w (Rtn fun _ w'=>Sat w0 w' (TabMR p (Tab.put m k v) (B+1)::F)):=by
 obtain ⟨t,sv,⟨ok,is,hb⟩,hR⟩:=TabMR.open h
 obtain ⟨d,he⟩:=ok.ends k
 have hsz:t.slots.length≤1073741824:=by have:=ok.size;omega
 have Hlen:=uQ (show ∀ x∈t.slots,(slotL renc x).length=35 from fun x hx=>slotL_len renc x (ok.good.key x hx) 2 (renc_len _))
 obtain ⟨la,lc,rfl⟩:=osl_rows Hlen.out (Sat.rd (hR.pick pick1)) dCz
 have hrl:0<(t.slots.flatMap (slotL renc)).length:=by rw [rows_len Hlen.out];have:=ok.good.pos_len;omega
 obtain ⟨bk,rfl⟩:=osl_zero (hR.pick pick1) hrl
 have Hk:=uQ hk;have Hok:=uQ ok;have His:=uQ is;have Hb:=uQ hb;have He:=uQ he;have Hsz:=uQ hsz;have HB:=uQ hB
 have Hp0:=uQ ok.good.pos_len
 have Hbs:=uQ (show (bys k).length=32 by rw [bys_len,hk])
 clear h hk ok is hb he hsz hB hrl
 go_enter Tryz.func25,Tryz.ntmps25
 go_wp2_with (with_reducible apply at_box)
 refine ⟨wl_box hR evD evD ?_⟩
 intro b4 w4 hS4
 go_wp2_with (with_reducible apply at_box)
 refine ⟨wl_box hS4 evD evD ?_⟩
 intro b5 w5 hS5
 have hA:Sat w0 w5 (tbPt p 123 (.slice (some ⟨bk,0,none⟩) t.slots.length lc) t.n t.gone::osl 120 35 (.slice (some ⟨bk,0,none⟩) t.slots.length lc) (t.slots.flatMap (slotL renc))::pt b4 (.cells (bys k).toArray 30 (0,0))::pt b5 (.cells (renc v).toArray 60 (0,0))::F):=hS5.sb
 clear hR hS4 hS5
 go_wp2_with fail
 refine (okR_c Hp0.out hA).mono ?_
 rintro ee w7 ⟨v',rfl,rfl,rfl⟩
 go_wp2_with ((with_reducible refine at_load ⟨?_⟩);refine wl_loadA hA rFz (pick_there (pick_there (pick0 (A:=pt b4 (.cells (bys k).toArray 30 (0,0)))))) Tryz.underlying30 rfl (by rw [List.size_toArray,Hbs.out];kernel_rfl) ?_)
 have hf:=findR_c Hok.out.good Hsz.out Hk.out He.out hA
 clear hA
 refine hf.mono ?_
 rintro ee w8 ⟨v',rfl,x,hx,rfl,hS8⟩
 clear hf
 have hlt:=Tab.pos_lt (k:=k) (d:=d) Hp0.out
 by_cases h1:x.st=1
 ·have hd:decide (x.st=1)=true:=decide_eq_true h1
  have hxm:=List.mem_of_getElem? hx
  have Hrow:=uQ (rows_part (f:=slotL renc) (k:=35) (o:=33) (x':=⟨x.st,x.key,v⟩) (vs:=renc v) Hlen.out hx (slotL_setv renc x v (Hok.out.good.key x hxm) rfl) (by show 33+2≤35;decide))
  have Hok2:=uQ (Tab.put_old_ok Hok.out He.out hx h1 v)
  have His2:=uQ (Tab.is_put His.out (Tab.put_found Hok.out.good He.out hx h1 v).2 t.n t.gone)
  have hrl:(t.slots.flatMap (slotL renc)).length=35 * t.slots.length:=rows_len Hlen.out
  clear hx hxm h1
  generalize Tab.pos k t.slots.length d=P0 at *
  have c0:(0:Int)≤(P0:Int):=oQ
  have c1:(P0:Int)<(t.slots.length:Int):=oQ
  go_wp2_with fail
  have hSd:=hS8.drew
  clear hS8
  refine wpL_begin [6,7,8] (fun w'=>w'.cell? ⟨p,0,none⟩=some (.slice (some ⟨bk,0,none⟩) t.slots.length lc)∧w'.rangeAt b5 0 (renc v)) kRz ?_
  have hG:World.cell? _ ⟨p,0,none⟩=some (.slice (some ⟨bk,0,none⟩) t.slots.length lc)∧World.rangeAt _ b5 0 (renc v):=⟨hSd.cellP pkD 0 rfl,pt_rangeL (hSd.pk (A:=pt b5 (.cells (renc v).toArray 60 (0,0))))⟩
  refine rP 0 ?_ (y:=mvQ)
  refine rP 1 ?_ (y:=nlQ)
  refine rP 2 ?_ (y:=flQ)
  refine rt 3 (h:=?_)
  refine rP 4 ?_ (y:=mvQ)
  refine rg_take 5 evD kRz i3z (tk_loadN (b:=b5) (o:=0) (renc v) rFz Tryz.underlying60 rfl kRz (fun w hw=>hw.2)) aQ gQ ?_
  refine rP 6 ?_ (y:=ixQ)
  refine rP 7 ?_ (y:=flQ)
  clear hG
  refine rg_eff 8 evD kRz (fun K hK=>?_)
  refine eff_storeSN (vs:=renc v) (P0 * 35+33) hSd evD evD rfl (upd_there upd0) (by rw [hrl];show P0 * 35+33+2≤_;omega) kRz rFz ?_
  intro w12 hS12
  refine hK _ _ (.inl rfl) ?_
  clear hK hSd
  refine wpL_done kRz ?_
  try simp only [ayQ]
  try go_frame
  rw [← Hrow.out]at hS12
  go_wp2_with fail
  go_end0
  exact ⟨_,rfl,TabMR.shut (sv:= .slice (some ⟨bk,0,none⟩) t.slots.length lc) Hok2.out His2.out (Nat.le_succ_of_le Hb.out) (hS12.sb)⟩
 have hd:decide (x.st=1)=false:=decide_eq_false h1
 have hb4:=Hb.out
 have hB4:=HB.out
 have hsz4:=Hsz.out
 obtain ⟨hA1,hA2,hA3,hA4,hA1b,hA2b,hA3b,hA4b,hA5⟩:=wraps4 t.n t.gone t.slots.length oQ hsz4
 have Hx:=uQ hx;have H1:=uQ h1
 clear hx h1 hb4 hB4 hsz4
 go_wp2_with fail
 have hSd:=hS8.drew
 clear hS8
 have e0:World.cell? _ ⟨p,0,none⟩=some (.slice (some ⟨bk,0,none⟩) t.slots.length lc):=hSd.cellP pkD 0 rfl
 have e1:World.cell? _ ⟨p,1,none⟩=some (.int .i64 t.n):=hSd.cellP pkD 1 rfl
 have e2:World.cell? _ ⟨p,2,none⟩=some (.int .i64 t.gone):=hSd.cellP pkD 2 rfl
 go_region
 have hcmp:3 * t.slots.length<4 * (t.n+t.gone+1)∨4 * (t.n+t.gone+1)≤3 * t.slots.length:=oQ
 rcases hcmp with hcmp|hcmp
 focus
  have hci:(3:Int) * (t.slots.length:Int)<4 * ((t.n:Int)+(t.gone:Int)+1):=oQ
  have hrn:=renewR_c (N:=t.n+1) Hok.out (Nat.le_succ _) (by have:=Hb.out;have:=HB.out;omega) Hsz.out hSd
  rw [show (((t.n+1:Nat)):Int)=(t.n:Int)+1 by omega]at hrn
  clear hSd e0 e2
  go_wp2_with fail
  refine hrn.mono ?_
  rintro ee w9 ⟨v',rfl,s',sv',hren,hS9⟩
  clear hrn e1 hci hcmp
  have hok1:=hren.ok
  have his1:=hren.is His.out t.n 0
  have hld1:4 * ((⟨s',t.n,0⟩:Tab.Tb (Rep.Rfc)).n+(⟨s',t.n,0⟩:Tab.Tb (Rep.Rfc)).gone+1)≤3 * (⟨s',t.n,0⟩:Tab.Tb (Rep.Rfc)).slots.length:=by have:=hren.lo;simp only;omega
  have hb1:(⟨s',t.n,0⟩:Tab.Tb (Rep.Rfc)).n+(⟨s',t.n,0⟩:Tab.Tb (Rep.Rfc)).gone≤B:=by have:=Hb.out;simp only;omega
  have hS10:Sat w0 w9 (tbPt p 123 sv' (⟨s',t.n,0⟩:Tab.Tb (Rep.Rfc)).n (⟨s',t.n,0⟩:Tab.Tb (Rep.Rfc)).gone::osl 120 35 sv' ((⟨s',t.n,0⟩:Tab.Tb (Rep.Rfc)).slots.flatMap (slotL renc))::pt b4 (.cells (bys k).toArray 30 (0,0))::pt b5 (.cells (renc v).toArray 60 (0,0))::F):=hS9
  clear hS9 hren hA1 hA2 hA3 hA4 hA1b hA2b hA3b hA4b hA5
  generalize (⟨s',t.n,0⟩:Tab.Tb (Rep.Rfc))=t1 at hok1 his1 hld1 hb1 hS10
  have Hlen1:=uQ (show ∀ x∈t1.slots,(slotL renc x).length=35 from fun x hx=>slotL_len renc x (hok1.good.key x hx) 2 (renc_len _))
  obtain ⟨la1,lc1,rfl⟩:=osl_rows Hlen1.out (Sat.rd (hS10.pick pick1)) dCz
  have Hok1:=uQ hok1;have His1:=uQ his1;have Hld1:=uQ hld1;have Hb1:=uQ hb1
  obtain ⟨d1,he1⟩:=hok1.ends k
  have He1:=uQ he1
  have hno:m k=none:=by
   obtain ⟨_,q2⟩:=His.out.some Hok.out He.out Hx.out
   exact q2 H1.out
  have hsz1:t1.slots.length≤1073741824:=by have:=hok1.size;have:=HB.out;omega
  clear hok1 his1 hld1 hb1 he1
  go_wp2_with ((with_reducible refine at_load ⟨?_⟩);refine wl_loadA hS10 rFz (pick_there (pick_there (pick0 (A:=pt b4 (.cells (bys k).toArray 30 (0,0)))))) Tryz.underlying30 rfl (by rw [List.size_toArray,Hbs.out];kernel_rfl) ?_)
  have hf:=findR_c Hok1.out.good hsz1 Hk.out He1.out hS10
  clear hS10 hsz1
  refine hf.mono ?_
  rintro ee w8b ⟨v',rfl,x1,hx1,rfl,hT⟩
  have Hx1:=uQ hx1
  have H1f:=uQ (show x1.st≠1 from fun h=>by
   have:=(His1.out.some Hok1.out He1.out hx1).1 h
   rw [hno]at this;cases this)
  clear hf hx1 hno Hx H1 He Hok His Hlen Hp0 Hb Hsz hlt hd
  go_wp2_with fail
 rotate_left
 focus
  have hci:¬ (3:Int) * (t.slots.length:Int)<4 * ((t.n:Int)+(t.gone:Int)+1):=oQ
  have Hld1:=uQ hcmp
  clear e0 e1 e2 hcmp
  go_wp2_with fail
  clear hci hA1 hA2 hA3 hA4 hA1b hA2b hA3b hA4b hA5 hlt hd Hp0 Hsz
  obtain ⟨t1,rfl⟩:∃ y,y=t:=⟨t,rfl⟩
  obtain ⟨x1,rfl⟩:∃ y,y=x:=⟨x,rfl⟩
  obtain ⟨d1,rfl⟩:∃ y,y=d:=⟨d,rfl⟩
  obtain ⟨la1,hla1⟩:∃ y:Option Addr,y=some ⟨bk,0,none⟩:=⟨_,rfl⟩
  obtain ⟨lc1,rfl⟩:∃ y,y=lc:=⟨lc,rfl⟩
  rw [← hla1]at hSd
  have hT:=hSd
  have Hok1:=uQ Hok.out;have His1:=uQ His.out;have Hb1:=uQ Hb.out;have He1:=uQ He.out;have Hx1:=uQ Hx.out;have H1f:=uQ H1.out;have Hlen1:=uQ Hlen.out
  clear hSd Hok His Hb He Hx H1 Hlen hla1
 all_goals
  have hrl:(t1.slots.flatMap (slotL renc)).length=35 * t1.slots.length:=rows_len Hlen1.out
  obtain ⟨bk1,rfl⟩:=osl_zero (hT.pick pick1) (by rw [hrl];have:=Hok1.out.good.pos_len;omega)
  have Hrow:=uQ (rows_set (f:=slotL renc) (k:=35) (i:=Tab.pos k t1.slots.length d1) (x:=⟨1,k,v⟩) Hlen1.out (slotL_len renc _ Hk.out 2 rfl) (Tab.pos_lt Hok1.out.good.pos_len))
  have Hok2:=uQ (Tab.put_new_ok Hok1.out Hld1.out He1.out Hx1.out H1f.out Hk.out v)
  have His2:=uQ (Tab.is_put His1.out (Tab.put_new Hok1.out.good He1.out Hx1.out H1f.out Hk.out v).2 (t1.n+1) t1.gone)
  have hlt1:=Tab.pos_lt (k:=k) (d:=d1) Hok1.out.good.pos_len
  have hls:=slotL_len renc (⟨1,k,v⟩:Tab.Slot (Rep.Rfc)) Hk.out 2 rfl
  have hwn:IntKind.i64.wrap ((t1.n:Int)+1)=(t1.n:Int)+1:=IntWalk.i64_in _ (by have:=Hb1.out;have:=HB.out;omega)
  clear Hx1 H1f He1 Hok1 His1 Hld1
  generalize Tab.pos k t1.slots.length d1=P1 at *
  have c0:(0:Int)≤(P1:Int):=oQ
  have c1:(P1:Int)<(t1.slots.length:Int):=oQ
  have hSd:=hT.drew
  clear hT
  refine wpL_begin [8,9] (fun w'=>w'.cell? ⟨p,0,none⟩=some (.slice (some ⟨bk1,0,none⟩) t1.slots.length lc1)∧w'.rangeAt b4 0 (bys k)∧w'.rangeAt b5 0 (renc v)) kRz ?_
  have hG:World.cell? _ ⟨p,0,none⟩=some (.slice (some ⟨bk1,0,none⟩) t1.slots.length lc1)∧World.rangeAt _ b4 0 (bys k)∧World.rangeAt _ b5 0 (renc v):=⟨hSd.cellP pkD 0 rfl,pt_rangeL (hSd.pk (A:=pt b4 (.cells (bys k).toArray 30 (0,0)))),pt_rangeL (hSd.pk (A:=pt b5 (.cells (renc v).toArray 60 (0,0))))⟩
  refine rP 0 ?_ (y:=mvQ)
  refine rP 1 ?_ (y:=nlQ)
  refine rP 2 ?_ (y:=flQ)
  refine rt 3 (h:=?_)
  refine rP 4 ?_ (y:=mvQ)
  refine rg_take 5 evD kRz i3z (tk_loadN (b:=b4) (o:=0) (bys k) rFz Tryz.underlying30 rfl (by rw [Hbs.out];kernel_rfl) (fun w hw=>hw.2.1)) aQ gQ ?_
  refine rg_take 6 evD kRz i3z (tk_loadN (b:=b5) (o:=0) (renc v) rFz Tryz.underlying60 rfl kRz (fun w hw=>hw.2.2)) aQ gQ ?_
  refine rP 7 ?_ (y:=(yl_build3 evD evD evD (fun w=>run_slotR k Hk.out v w)))
  refine rP 8 ?_ (y:=ixQ)
  clear hG
  refine rg_eff 9 evD kRz (fun K hK=>?_)
  refine eff_storeSN (vs:=slotL renc ⟨1,k,v⟩) (P1 * 35) hSd evD evD rfl (upd_there upd0) (by rw [hrl,hls];omega) (by rw [hls];kernel_rfl) (slotL_ones renc _ rFz) ?_
  intro w12 hS12
  refine hK _ _ (.inl rfl) ?_
  clear hK hSd
  refine wpL_done kRz ?_
  try simp only [ayQ]
  try go_frame
  rw [← Hrow.out]at hS12
  go_wp2_with (first
   |((with_reducible refine at_load ⟨?_⟩);refine wl_load1 hS12 rFz pkD nLz evD kRz ?_)
   |((with_reducible refine at_store ⟨?_⟩);refine wl_store aQ rFz evD pQ upD nLz kRz rFz ?_;intro wS hS))
  go_end0
  exact ⟨_,rfl,TabMR.shut (sv:= .slice (some ⟨bk1,0,none⟩) t1.slots.length lc1) Hok2.out His2.out (by have:=Hb1.out;simp only;omega) (hS.sb)⟩
end
abbrev stoPt (s r t:Nat) (st:Bool):HProp:=pt s (.cells #[ptr r,ptr t,.bool st] 64 (0,0))
section
variable {w0 w:World}{F:List HProp}
theorem rplog22_c {r m p ps pn:Nat}{seg:Int}{d:Bool} (h:Sat w0 w (rpPt r m seg p ps pn d::F)):Calls Tryz.prog 47 #[ptr r] w (Rtn fun v w'=>v=ptr p∧w=w'):=by
 have e2:w.cell? ⟨r,2,none⟩=some (.pointer (some ⟨p,0,none⟩)):=h.cellAt 2 _ rfl
 have hok:=rokY_c h
 clear h
 go_enter Tryz.func47,Tryz.ntmps47
 go_wp2_with fail
 refine hok.mono ?_
 rintro ee w1 ⟨v,rfl,rfl,rfl⟩
 go_wp2_with fail
 go_ret
 exact ⟨_,rfl,rfl,rfl⟩
theorem sok_c {s r t:Nat}{st:Bool} (h:Sat w0 w (stoPt s r t st::F)):Calls Tryz.prog 21 #[ptr s] w (Rtn fun v w'=>v = .bool true∧w=w'):=by
 have e0:w.cell? ⟨s,0,none⟩=some (.pointer (some ⟨r,0,none⟩)):=h.cellAt 0 _ rfl
 go_enter Tryz.func21,Tryz.ntmps21
 go_wp2
 go_ret
 exact ⟨_,rfl,rfl,rfl⟩
theorem filledN_c (h:Sat w0 w F):Calls Tryz.prog 48 #[.slice none 0 0] w (Rtn fun v w'=>∃ t,v = .tuple #[ptr t,errno 0]∧Sat w0 w' (TabMR t (fun _=>none) 0::F)):=by
 have hn:=newR_c h
 clear h
 go_enter Tryz.func48,Tryz.ntmps48
 go_wp2_with fail
 refine hn.mono ?_
 rintro ee w1 ⟨v,rfl,t,rfl,h1⟩
 clear hn
 go_wp2_with fail
 go_loopg [12] 0 (fun g iq wr=>g=0∧iq = .int .i64 0∧Sat w0 wr (TabMR t (fun _=>none) 0::F))
 case atStart=>exact ⟨rfl,rfl,h1⟩
 case round=>
  obtain ⟨rfl,rfl,hS⟩:=hrel
  clear h1
  go_wp2_with fail
  go_loopg [34] 0 (fun g iq wr=>g=0∧iq = .int .i64 0∧Sat w0 wr (TabMR t (fun _=>none) 0::F))
  case atStart=>exact ⟨rfl,rfl,hS⟩
  case round=>
   obtain ⟨rfl,rfl,hT⟩:=hrel
   clear hS
   go_wp2_with fail
   go_ret2
   exact ⟨_,rfl,t,rfl,hT⟩
theorem plSto:placesB Tryz.prog 64=some [(0,1),(1,1),(2,1)]:=by kernel_rfl
theorem zSto:zeroB Tryz.prog 64=some (.agg #[.pointer none,.pointer none,.bool false]):=by kernel_rfl
theorem run_sto (r t:Nat) (st:Bool) (w:World):(Instr.build 64 #[(0,ptr r),(1,ptr t),(2,.bool st)]).run Tryz.prog w = .ok (.agg #[ptr r,ptr t,.bool st]) w:=
 run_build (P:=Tryz.prog) [(0,ptr r),(1,ptr t),(2,.bool st)] plSto zSto (by
  intro q hq
  simp only [List.mem_cons,List.not_mem_nil,or_false]at hq
  rcases hq with rfl|rfl|rfl
  ·exact ⟨0,rfl,by show 0+1≤3;decide⟩
  ·exact ⟨1,rfl,by show 1+1≤3;decide⟩
  ·exact ⟨2,rfl,by show 2+1≤3;decide⟩) w
theorem newN_c {r m p ps pn:Nat}{seg:Int}{d st:Bool} (h:Sat w0 w (rpPt r m seg p ps pn d::F)) :
  Calls Tryz.prog 20 #[ptr r,.slice none 0 0,.bool st] w (Rtn fun v w'=>∃ s t,v = .tuple #[ptr s,errno 0]∧Sat w0 w' (stoPt s r t st::TabMR t (fun _=>none) 0::rpPt r m seg p ps pn d::F)):=by
 have hlog:=rplog22_c h
 have hfil:=filledN_c h
 clear h
 go_enter Tryz.func20,Tryz.ntmps20
 go_wp2_with fail
 refine hlog.mono ?_
 rintro ee w1 ⟨v,rfl,rfl,rfl⟩
 clear hlog
 go_wp2_with fail
 refine hfil.mono ?_
 rintro ee w2 ⟨v,rfl,t,rfl,h2⟩
 clear hfil
 go_wp2_with (first
  |((with_reducible refine at_build3 ⟨?_⟩);refine wl_build3 rFz rFz rFz (run_sto r t st) ?_)
  |((with_reducible refine at_box ⟨?_⟩);refine wl_box h2 rFz rFz ?_;intro s w3 h3))
 go_ret2
 exact ⟨_,rfl,s,t,rfl,h3⟩
abbrev SX (s t r m p ps pi pn:Nat) (uv:Value) (limit:Int) (M:Med) (F:List HProp):List HProp:=
 stoPt s r t false::TabMR t (fun _=>none) 0::RX r m p ps pi pn uv limit M F
set_option maxRecDepth 20000 in
theorem opened22_c (z:Int) (hH:Ro w0 F Half) (h:Sat w0 w F) :
  Calls Tryz.prog 5 #[.int .i64 z] w (Rtn fun v w'=>∃ (s t r m p ps pi pn:Nat) (uv:Value) (limit:Int) (M:Med),v = .tuple #[ptr s,ptr m,.bool true]∧128≤limit∧limit≤3000∧(z=500→limit=500)∧M=Med.new 1048576∧Seg.Rp 0 1048576 0 0 0 ⟨limit,[],false,0⟩ M []∧Sat w0 w' (SX s t r m p ps pi pn uv limit M F)):=by
 have hnew:=new_yes 1048576 dCz h
 have hlim:=within_mem z 128 3000 dCz
 have hwi:=within_c z 128 3000
 have hz:z=500→within z 128 3000=500:=by rintro rfl;decide
 generalize within z 128 3000=lim at *
 have Hlim:=uQ hlim;have HH:=uQ hH;have Hz:=uQ hz
 clear h hlim hH hz
 go_enter Tryz.func5,Tryz.ntmps5
 go_wp2_with fail
 refine hnew.mono ?_
 rintro ee w1 ⟨v,rfl,m,rfl,h1⟩
 clear hnew
 go_wp2_with fail
 refine (hwi _).mono ?_
 rintro ee w2 ⟨v,rfl,rfl,rfl⟩
 clear hwi
 have hop:=ropenX_c (K:=0) Hlim.out.1 (by have:=Hlim.out.2;omega) (Seg.Calm.new 0 1048576 dCz) (Nat.zero_le _) rfl HH.out h1
 clear h1
 go_wp2_with fail
 refine hop.mono ?_
 rintro ee w3 ⟨v,rfl,r,p,ps,pi,pn,uv,rfl,hR,h3⟩
 clear hop
 have HR:=uQ hR
 clear hR
 go_wp2_with (with_reducible apply at_alloc)
 refine ⟨wl_alloc zFlt h3 rfl ?_⟩
 intro b8 w7 h7
 go_wp2_with (with_reducible apply at_store)
 refine ⟨wl_storeA (fltA Rep.Flt.zero) h7 rFz rFz rFz upd0 kRz rFz ?_⟩
 intro w8 h8
 have h9:=h8.drop
 clear h3 h7 h8
 have h9:Sat w0 w8 (RX r m p ps pi pn uv lim (Med.new 1048576) F):=h9
 have hnw:=newN_c (st:=false) h9
 clear h9
 go_wp2_with fail
 refine hnw.mono ?_
 rintro ee w10 ⟨v,rfl,s,t,rfl,h10⟩
 clear hnw
 go_wp2_with fail
 go_ret3
 exact ⟨_,rfl,s,t,r,m,p,ps,pi,pn,uv,lim,_,rfl,Hlim.out.1,Hlim.out.2,Hz.out,rfl,HR.out,h10⟩
end
section
variable {w0 w:World}{F:List HProp}
set_option maxRecDepth 20000 in
theorem scount_c {s r t B:Nat}{st:Bool}{mp:Frm.Bs→Option Rep.Rfc}{k:Frm.Bs} (hB:B≤268435000) (hk:k.length=32) (h:Sat w0 w (stoPt s r t st::TabMR t mp B::F)) :
  Calls Tryz.prog 34 #[ptr s,.agg (bys k).toArray] w (Rtn fun v w'=>v = .agg (renc ((mp k).getD ⟨0,0⟩)).toArray∧Sat w0 w' (stoPt s r t st::TabMR t mp B::F)):=by
 have Hks:=uQ (show (bys k).length=32 by rw [bys_len,hk])
 have HT:=uQ (fun (w':World) (R:List HProp) (hw:Sat w0 w' (TabMR t mp B::R))=>getR_c (k:=k) hB hk hw)
 obtain ⟨x,hx⟩:∃ x,(mp k).getD (⟨0,0⟩:Rep.Rfc)=x:=⟨_,rfl⟩
 obtain ⟨ok,hok⟩:∃ ok,(mp k).isSome=ok:=⟨_,rfl⟩
 rw [hx,hok]at HT
 rw [hx]
 clear hx hok hB hk
 go_enter Tryz.func34,Tryz.ntmps34
 go_wp2_with (with_reducible apply at_box)
 refine ⟨wl_box h evD evD ?_⟩
 intro b3 w3 h3
 replace h3:Sat w0 w3 (pt b3 (.cells (bys k).toArray 30 (0,0))::stoPt s r t st::TabMR t mp B::F):=h3
 clear h
 go_wp2_with (with_reducible apply at_alloc)
 refine ⟨wl_alloc zValR h3 rfl ?_⟩
 intro b4 w4 h4
 clear h3
 have hok:=sok_c (h4.sb:Sat w0 w4 (stoPt s r t st::pt b4 (.cells (renc zwR).toArray 60 (0,0))::pt b3 (.cells (bys k).toArray 30 (0,0))::TabMR t mp B::F))
 go_wp2_with fail
 refine hok.mono ?_
 rintro ee w5 ⟨v,rfl,rfl,rfl⟩
 clear hok
 go_wp2_with fail
 have h9:=h4.drew
 have hG:World.cell? _ ⟨s,1,none⟩=some (ptr t)∧World.rangeAt _ b3 0 (bys k):=⟨h9.cellP pick2 1 rfl,fun j v hj=>h9.cellP pick1 (0+j) (by simpa using hj)⟩
 clear h4
 refine wpL_begin [5,6,7,8,10,11] (fun w'=>w'.cell? ⟨s,1,none⟩=some (ptr t)∧w'.rangeAt b3 0 (bys k)) kRz ?_
 refine rP 0 ?_ (y:=mvQ)
 refine rP 1 ?_ (y:=nlQ)
 refine rP 2 ?_ (y:=flQ)
 refine rt 3 (h:=?_)
 refine rg_take 4 evD kRz i3z (tk_loadN (b:=b3) (o:=0) (bys k) rFz Tryz.underlying30 rfl (by rw [Hks.out];kernel_rfl) (fun w hw=>hw.2)) aQ gQ ?_
 clear hG
 refine rg_eff2 5 9 evD evD kRz (fun K hK=>?_) (fun K hK=>?_)
 focus
  (refine eff_call2 kRz evD evD ?_)
  refine (HT.out _ _ (h9.sb:Sat w0 _ (TabMR t mp B::pt b4 (.cells (renc zwR).toArray 60 (0,0))::pt b3 (.cells (bys k).toArray 30 (0,0))::stoPt s r t st::F))).mono ?_
  rintro ee w10 ⟨v,rfl,rfl,h10⟩
  refine hK _ _ (.inl rfl) ?_
  clear hK h9
  refine rP 6 ?_ (y:=mvQ)
  refine rP 7 ?_ (y:=(yl_extract evD rnD))
  refine rP 8 ?_ (y:=(yl_extract evD rnD))
  refine rg_eff 9 evD kRz (fun K hK=>?_)
  refine eff_alloc (zValR) h10 rfl ?_
  intro b8 w11 h11
  refine hK _ _ (.inr (.inl ⟨h11.cellP pick4 1 rfl,fun j v hj=>h11.cellP pick3 (0+j) (by simpa using hj)⟩)) ?_
  clear hK h10
 rotate_left
 focus
  refine eff_alloc (zValR) h9 rfl ?_
  intro b8 w10 h10
  refine hK _ _ (.inr (.inl ⟨h10.cellP pick3 1 rfl,fun j v hj=>h10.cellP pick2 (0+j) (by simpa using hj)⟩)) ?_
  clear hK h9
  refine rg_eff 5 evD kRz (fun K hK=>?_)
  (refine eff_call2 kRz evD evD ?_)
  refine (HT.out _ _ (h10.sb:Sat w0 _ (TabMR t mp B::pt b8 (.cells (renc zwR).toArray 60 (0,0))::pt b4 (.cells (renc zwR).toArray 60 (0,0))::pt b3 (.cells (bys k).toArray 30 (0,0))::stoPt s r t st::F))).mono ?_
  rintro ee w11 ⟨v,rfl,rfl,h11'⟩
  refine hK _ _ (.inl rfl) ?_
  clear hK h10
  have h11:Sat w0 w11 (pt b8 (.cells (renc zwR).toArray 60 (0,0))::TabMR t mp B::pt b4 (.cells (renc zwR).toArray 60 (0,0))::pt b3 (.cells (bys k).toArray 30 (0,0))::stoPt s r t st::F):=h11'.sb
  clear h11'
  refine rP 6 ?_ (y:=mvQ)
  refine rP 7 ?_ (y:=(yl_extract evD rnD))
  refine rP 8 ?_ (y:=(yl_extract evD rnD))
 all_goals
  refine rg_eff 10 evD kRz (fun K hK=>?_)
  refine eff_store (cs':=(renc x).toArray) h11 evD evD rFz upd0 nLz kRz rFz ?_
  intro w12 h12
  refine hK _ _ (.inl rfl) ?_
  clear hK h11
  refine rP 11 ?_ (y:=asQ)
  refine wpL_done kRz ?_
  go_wp2_with (first
   |((with_reducible refine at_load ⟨?_⟩);refine wl_loadA (cs:=(renc x).toArray) h12 rFz pick0 Tryz.underlying60 rfl kRz ?_)
   |(with_reducible apply at_store))
  refine ⟨wl_storeA (renc x).toArray (h12.sb:Sat w0 w12 (pt b4 (.cells (renc zwR).toArray 60 (0,0))::stoPt s r t st::TabMR t mp B::F)) rFz rFz rFz upd0 kRz rFz ?_⟩
  intro w13 h13
  go_wp2_with fail
  refine ⟨rfl,_,res_cell rfl h13 rFz pick0 Tryz.underlying60 rfl kRz,_,rfl,rfl,h13.drop⟩
end
end Go.Proofs.YtlimfgdbfadohaaGreatDoor
namespace Go.Lz
abbrev Bs:=List UInt8
def wrapS (b:Bs):Bs:=[0]++Frm.le b.length 4++b
theorem wrapS_len (b:Bs):(wrapS b).length=5+b.length:=by
 unfold wrapS
 rw [List.length_append,List.length_append,Frm.le_len];rfl
def ext (n:Nat):Bs:=List.replicate (n / 255) 255++[UInt8.ofNat (n%255)]
def tail4 (n:Nat):Bs:=if 15≤n then ext (n - 15) else []
def seqB (lit:Bs) (d n:Nat):Bs:=
 [UInt8.ofNat (min lit.length 15 * 16+min (n - 4) 15)]++tail4 lit.length++lit++(if n=0 then [] else Frm.le d 2++tail4 (n - 4))
def copyB (out:Bs) (d:Nat):Nat→Bs
 |0=>out
 |n+1=>copyB (out++[out.getD (out.length - d) 0]) d n
abbrev Part:=Bs×Nat×Nat
def tell (acc:Bs):List Part→Bs
 |[]=>acc
 |p::ps=>tell (copyB (acc++p.1) p.2.1 p.2.2) ps
theorem tell_snoc (p:Part):∀ (ps:List Part) (acc:Bs),tell acc (ps++[p])=copyB (tell acc ps++p.1) p.2.1 p.2.2
 |[],acc=>rfl
 |q::ps,acc=>tell_snoc p ps _
structure Part.Ok (acc:Bs) (p:Part):Prop where
 d0:0<p.2.1
 d1:p.2.1≤65535
 d2:p.2.1≤(acc++p.1).length
 n4:4≤p.2.2
def common (b:Bs) (c i e:Nat):Nat→Nat→Nat
 |0,k=>k
 |f+1,k=>if i+k<e∧b.getD (c+k) 0=b.getD (i+k) 0 then common b c i e f (k+1) else k
theorem common_le (b:Bs) (c i e:Nat):∀ f k,k≤common b c i e f k
 |0,k=>Nat.le_refl k
 |f+1,k=>by
  unfold common
  split
  ·exact Nat.le_trans (Nat.le_succ k) (common_le b c i e f (k+1))
  ·exact Nat.le_refl k
theorem common_end (b:Bs) (c i e:Nat):∀ f k,i+k≤e→i+common b c i e f k≤e
 |0,k,h=>h
 |f+1,k,h=>by
  unfold common
  split
  ·rename_i h1;exact common_end b c i e f (k+1) oQ
  ·exact h
theorem common_same (b:Bs) (c i e:Nat):∀ f k j,k≤j→j<common b c i e f k→b.getD (c+j) 0=b.getD (i+j) 0
 |0,k,j,h1,h2=>absurd h2 (by unfold common;omega)
 |f+1,k,j,h1,h2=>by
  unfold common at h2
  split at h2
  ·rename_i h
   rcases Nat.eq_or_lt_of_le h1 with rfl|h3
   ·exact h.2
   ·exact common_same b c i e f (k+1) j h3 h2
  ·omega
theorem take_snoc {b:Bs}{i:Nat} (h:i<b.length):b.take (i+1)=b.take i++[b.getD i 0]:=by
 rw [List.take_add_one,List.getElem?_eq_getElem h,List.getD_eq_getElem?_getD,List.getElem?_eq_getElem h];rfl
theorem copy_take {b:Bs}{c d:Nat} (hd:0<d):∀ (m i:Nat),c+d=i→i+m≤b.length→(∀ j,j<m→b.getD (c+j) 0=b.getD (i+j) 0)→copyB (b.take i) d m=b.take (i+m)
 |0,i,_,_,_=>rfl
 |m+1,i,hi,hl,hs=>by
  have hil:(b.take i).length=i:=by rw [List.length_take];omega
  have h0:(b.take i).getD ((b.take i).length - d) 0=b.getD i 0:=by
   rw [hil,show i - d=c by omega,List.getD_eq_getElem?_getD,List.getElem?_take,if_pos oQ,← List.getD_eq_getElem?_getD]
   exact hs 0 oQ
  show copyB (b.take i++[(b.take i).getD ((b.take i).length - d) 0]) d m=_
  rw [h0,← take_snoc oQ]
  have:=copy_take (b:=b) (c:=c+1) hd m (i+1) oQ oQ (fun j hj=>by
   have:=hs (j+1) oQ
   rw [show c+1+j=c+(j+1) by omega,show i+1+j=i+(j+1) by omega];exact this)
  rw [this,show i+1+m=i+(m+1) by omega]
theorem common_ge (b:Bs) (c i e q:Nat) (he:i+q≤e) (hs:∀ j,j<q→b.getD (c+j) 0=b.getD (i+j) 0):∀ f k,k≤q→q≤k+f→q≤common b c i e f k
 |0,k,h1,h2=>h2
 |f+1,k,h1,h2=>by
  unfold common
  rcases Nat.eq_or_lt_of_le h1 with rfl|h3
  ·split
   ·exact Nat.le_trans (Nat.le_succ k) (common_le b c i e f (k+1))
   ·exact Nat.le_refl k
  ·rw [if_pos ⟨by omega,hs k h3⟩]
   exact common_ge b c i e q he hs f (k+1) h3 oQ
def OkL (acc:Bs):List Part→Prop
 |[]=>True
 |p::ps=>Part.Ok acc p∧OkL (copyB (acc++p.1) p.2.1 p.2.2) ps
theorem OkL.snoc {p:Part}:∀ {ps:List Part}{acc:Bs},OkL acc ps→Part.Ok (tell acc ps) p→OkL acc (ps++[p])
 |[],acc,_,h=>⟨h,trivial⟩
 |q::ps,acc,h,k=>⟨h.1,OkL.snoc h.2 k⟩
def cut (b:Bs) (i j:Nat):Bs:=(b.take j).drop i
theorem take_cut {b:Bs}{i j:Nat} (h:i≤j):b.take i++cut b i j=b.take j:=by
 unfold cut
 rw [show b.take i=(b.take j).take i by rw [List.take_take,Nat.min_eq_left h],List.take_append_drop]
def sqz (b:Bs) (hs:Nat→Nat):Nat→(Nat→Nat)→Nat→Nat→List Part→List Part×Nat
 |0,T,told,i,ps=>(ps,told)
 |f+1,T,told,i,ps=>
  if i+12≤b.length then
   if T (hs i)=0∨65535<i - (T (hs i) - 1)∨cut b (T (hs i) - 1) (T (hs i) - 1+4)≠cut b i (i+4) then sqz b hs f (fun x=>if x=hs i then i+1 else T x) told (i+1) ps
   else sqz b hs f (fun x=>if x=hs i then i+1 else T x) (i+common b (T (hs i) - 1) i (b.length - 5) b.length 0) (i+common b (T (hs i) - 1) i (b.length - 5) b.length 0)
    (ps++[(cut b told i,i - (T (hs i) - 1),common b (T (hs i) - 1) i (b.length - 5) b.length 0)])
  else (ps,told)
theorem cut_get {b:Bs}{i j q:Nat} (h:i+q<j) (hj:j≤b.length):(cut b i j).getD q 0=b.getD (i+q) 0:=by
 unfold cut
 rw [List.getD_eq_getElem?_getD,List.getElem?_drop,List.getElem?_take,if_pos h,← List.getD_eq_getElem?_getD]
structure Inv (b:Bs) (T:Nat→Nat) (told i:Nat) (ps:List Part):Prop where
 le:told≤i
 ib:i≤b.length
 T:∀ x,T x≤i
 tell:tell [] ps=b.take told
 ok:OkL [] ps
theorem Inv.skip {b:Bs}{T:Nat→Nat}{told i:Nat}{ps:List Part} (h:Inv b T told i ps) (hi:i+12≤b.length) (x0:Nat):Inv b (fun x=>if x=x0 then i+1 else T x) told (i+1) ps:=
 ⟨Nat.le_succ_of_le h.le,by omega,fun x=>by
  show (if x=x0 then i+1 else T x)≤i+1
  split
  ·omega
  ·have:=h.T x;omega,h.tell,h.ok⟩
theorem Inv.part {b:Bs}{T:Nat→Nat}{told i:Nat}{ps:List Part} (h:Inv b T told i ps) (hi:i+12≤b.length) (x0:Nat){c:Nat} (hc:c<i) (hd:¬ 65535<i - c) (he:cut b c (c+4)=cut b i (i+4)) :
  Inv b (fun x=>if x=x0 then i+1 else T x) (i+common b c i (b.length - 5) b.length 0) (i+common b c i (b.length - 5) b.length 0) (ps++[(cut b told i,i - c,common b c i (b.length - 5) b.length 0)])∧4≤common b c i (b.length - 5) b.length 0∧i+common b c i (b.length - 5) b.length 0≤b.length - 5:=by
 have hs4:∀ j,j<4→b.getD (c+j) 0=b.getD (i+j) 0:=fun j hj=>by
  rw [← cut_get (b:=b) (i:=c) (j:=c+4) oQ oQ,← cut_get (b:=b) (i:=i) (j:=i+4) oQ oQ,he]
 have hm4:=common_ge b c i (b.length - 5) 4 oQ hs4 b.length 0 oQ oQ
 have hme:=common_end b c i (b.length - 5) b.length 0 oQ
 have hms:=fun j=>common_same b c i (b.length - 5) b.length 0 j (Nat.zero_le j)
 generalize common b c i (b.length - 5) b.length 0=m at *
 have hcp:=copy_take (b:=b) (c:=c) (d:=i - c) oQ m i oQ oQ hms
 have hp:Part.Ok (Lz.tell [] ps) (cut b told i,i - c,m):=⟨by show 0<i - c;omega,by show i - c≤65535;omega,by
  show i - c≤(Lz.tell [] ps++cut b told i).length
  rw [h.tell,take_cut h.le,List.length_take];omega,hm4⟩
 refine ⟨⟨Nat.le_refl _,by omega,fun x=>?_,?_,h.ok.snoc hp⟩,hm4,hme⟩
 ·show (if x=x0 then i+1 else T x)≤i+m
  split
  ·omega
  ·have:=h.T x;omega
 ·rw [tell_snoc,h.tell]
  show copyB (b.take told++cut b told i) (i - c) m=_
  rw [take_cut h.le,hcp]
theorem sqz_inv (b:Bs) (hs:Nat→Nat):∀ f T told i ps,Inv b T told i ps→tell [] (sqz b hs f T told i ps).1=b.take (sqz b hs f T told i ps).2∧OkL [] (sqz b hs f T told i ps).1∧(sqz b hs f T told i ps).2≤b.length
 |0,T,told,i,ps,h=>⟨h.tell,h.ok,Nat.le_trans h.le h.ib⟩
 |f+1,T,told,i,ps,h=>by
  unfold sqz
  split
  ·rename_i hi
   split
   ·exact sqz_inv b hs f _ told (i+1) ps (h.skip hi _)
   ·rename_i hc
    have h0:T (hs i)≠0:=fun e=>hc (.inl e)
    have hTi:=h.T (hs i)
    exact sqz_inv b hs f _ _ _ _ (h.part hi _ oQ (fun e=>hc (.inr (.inl e))) (Decidable.byContradiction fun e=>hc (.inr (.inr e)))).1
  ·exact ⟨h.tell,h.ok,Nat.le_trans h.le h.ib⟩
def parts (b:Bs) (hs:Nat→Nat):List Part×Nat:=sqz b hs (b.length+1) (fun _=>0) 0 0 []
def block (b:Bs) (hs:Nat→Nat):Bs:=((parts b hs).1.flatMap fun p=>seqB p.1 p.2.1 p.2.2)++seqB (b.drop (parts b hs).2) 0 0
theorem parts_tell (b:Bs) (hs:Nat→Nat):tell [] (parts b hs).1++b.drop (parts b hs).2=b∧OkL [] (parts b hs).1∧(parts b hs).2≤b.length:=by
 obtain ⟨h1,h2,h3⟩:=sqz_inv b hs (b.length+1) (fun _=>0) 0 0 [] ⟨Nat.le_refl _,Nat.zero_le _,fun _=>Nat.le_refl _,rfl,trivial⟩
 unfold parts
 exact ⟨by rw [h1,List.take_append_drop],h2,h3⟩
theorem token_hi (a m:Nat):(UInt8.ofNat (min a 15 * 16+min m 15)).toNat / 16=min a 15:=by
 rw [UInt8.toNat_ofNat'];omega
theorem token_lo (a m:Nat):(UInt8.ofNat (min a 15 * 16+min m 15)).toNat%16=min m 15:=by
 rw [UInt8.toNat_ofNat'];omega
theorem ext_small {n:Nat} (h:n<255):ext n=[UInt8.ofNat n]:=by
 unfold ext
 rw [Nat.div_eq_of_lt h,Nat.mod_eq_of_lt h];rfl
theorem tail4_small {n:Nat} (h:n<270):tail4 n=if 15≤n then [UInt8.ofNat (n - 15)] else []:=by
 unfold tail4
 by_cases h1:15≤n
 ·rw [if_pos h1,if_pos h1,ext_small oQ]
 ·rw [if_neg h1,if_neg h1]
theorem tail4_len {n:Nat} (h:n<270):(tail4 n).length≤1:=by
 rw [tail4_small h]
 split
 ·exact Nat.le_refl _
 ·exact Nat.zero_le _
def flat (ps:List Part):Bs:=ps.flatMap fun p=>seqB p.1 p.2.1 p.2.2
theorem flat_snoc (ps:List Part) (p:Part):flat (ps++[p])=flat ps++seqB p.1 p.2.1 p.2.2:=by
 unfold flat
 rw [List.flatMap_append,List.flatMap_cons,List.flatMap_nil,List.append_nil]
theorem seqB_len {lit:Bs}{d n:Nat} (h1:lit.length<270) (h2:n<270):(seqB lit d n).length≤lit.length+5:=by
 have e1:=tail4_len h1
 have e2:=tail4_len (n:=n - 4) oQ
 unfold seqB
 by_cases h:n=0
 ·rw [if_pos h]
  simp only [List.length_append,List.length_singleton,List.length_nil];omega
 ·rw [if_neg h]
  simp only [List.length_append,List.length_singleton,Frm.le_len];omega
def hsh (b:Bs) (i:Nat):Nat:=Frm.num ((b.drop i).take 4) * 2654435761%4294967296 / 1048576
theorem hsh_lt (b:Bs) (i:Nat):hsh b i<4096:=by unfold hsh;omega
def blk (b:Bs):Bs:=block b (hsh b)
def wrapB (b:Bs):Bs:=if (blk b).length<b.length then [1]++Frm.le b.length 4++blk b else wrapS b
theorem wrapB_len (b:Bs):(wrapB b).length≤5+b.length:=by
 unfold wrapB
 split
 ·simp only [List.length_append,List.length_singleton,Frm.le_len];omega
 ·rw [wrapS_len];exact Nat.le_refl _
end Go.Lz
namespace Go.Sha
abbrev Bs:=List UInt8
abbrev W:=4294967296
def rr (n x:Nat):Nat:=(x * 2^(32 - n)%W) ||| (x / 2^n)
def big (b:Bs):Nat:=b.foldl (fun x c=>x * 256+c.toNat) 0
def g0 (x:Nat):Nat:=rr 7 x ^^^ rr 18 x ^^^ (x / 8)
def g1 (x:Nat):Nat:=rr 17 x ^^^ rr 19 x ^^^ (x / 1024)
def first (b:Bs):List Nat:=(List.range' 0 16).map fun i=>big ((b.drop (4 * i)).take 4)
def at_ (l:List Nat) (i:Nat):Nat:=l.getD i 0
def next (l:List Nat):Nat:=(((at_ l (l.length - 16)+g0 (at_ l (l.length - 15)))%W+at_ l (l.length - 7))%W+g1 (at_ l (l.length - 2)))%W
def more:Nat→List Nat→List Nat
 |0,l=>l
 |n+1,l=>more n (l++[next l])
def sched (b:Bs):List Nat:=more 48 (first b)
structure St where
 a:Nat
 b:Nat
 c:Nat
 d:Nat
 e:Nat
 f:Nat
 g:Nat
 h:Nat
def St.l (s:St):List Nat:=[s.a,s.b,s.c,s.d,s.e,s.f,s.g,s.h]
def K:List Nat:=[1116352408,1899447441,3049323471,3921009573,961987163,1508970993,2453635748,2870763221,3624381080,310598401,607225278,1426881987,1925078388,2162078206,2614888103,3248222580,3835390401,4022224774,264347078,604807628,770255983,1249150122,1555081692,1996064986,2554220882,2821834349,2952996808,3210313671,3336571891,3584528711,113926993,338241895,666307205,773529912,1294757372,1396182291,1695183700,1986661051,2177026350,2456956037,2730485921,2820302411,3259730800,3345764771,3516065817,3600352804,4094571909,275423344,430227734,506948616,659060556,883997877,958139571,1322822218,1537002063,1747873779,1955562222,2024104815,2227730452,2361852424,2428436474,2756734187,3204031479,3329325298]
def t1 (s:St) (k w:Nat):Nat:=(((((s.h+(rr 6 s.e ^^^ rr 11 s.e ^^^ rr 25 s.e))%W+((s.e &&& s.f) ^^^ ((W - 1 - s.e) &&& s.g)))%W+k)%W)+w)%W
def t2 (s:St):Nat:=((rr 2 s.a ^^^ rr 13 s.a ^^^ rr 22 s.a)+((s.a &&& s.b) ^^^ (s.a &&& s.c) ^^^ (s.b &&& s.c)))%W
def round (s:St) (k w:Nat):St:=⟨(t1 s k w+t2 s)%W,s.a,s.b,s.c,(s.d+t1 s k w)%W,s.e,s.f,s.g⟩
def rounds (b:Bs) (s:St) (i:Nat):St:=(List.range' 0 i).foldl (fun s i=>round s (at_ K i) (at_ (sched b) i)) s
def add (s v:St):St:=⟨(s.a+v.a)%W,(s.b+v.b)%W,(s.c+v.c)%W,(s.d+v.d)%W,(s.e+v.e)%W,(s.f+v.f)%W,(s.g+v.g)%W,(s.h+v.h)%W⟩
def take (s:St) (b:Bs):St:=add s (rounds b s 64)
def begin:St:=⟨1779033703,3144134277,1013904242,2773480762,1359893119,2600822924,528734635,1541459225⟩
def blocks:Nat→St→Bs→St×Bs
 |0,s,b=>(s,b)
 |n+1,s,b=>if b.length<64 then (s,b) else blocks n (take s (b.take 64)) (b.drop 64)
def bigL (x n:Nat):Bs:=(Frm.le x n).reverse
def pad (r:Bs):Bs:=r++[128]++List.replicate ((119 - r.length%64)%64) 0
def sum (b:Bs):Bs:=
 let p:=blocks (b.length / 64) begin b
 let t:=pad p.2++bigL (8 * b.length) 8
 ((blocks (t.length / 64) p.1 t).1.l).flatMap fun w=>bigL w 4
theorem or_lt {x y:Nat} (hx:x<4294967296) (hy:y<4294967296):x ||| y<4294967296:=Nat.or_lt_two_pow (n:=32) hx hy
theorem xor_lt {x y:Nat} (hx:x<4294967296) (hy:y<4294967296):x ^^^ y<4294967296:=Nat.xor_lt_two_pow (n:=32) hx hy
theorem and_lt {x y:Nat} (hx:x<4294967296):x &&& y<4294967296:=Nat.lt_of_le_of_lt Nat.and_le_left hx
theorem rr_lt (n:Nat){x:Nat} (hx:x<4294967296):rr n x<4294967296:=or_lt (Nat.mod_lt _ dCz) (Nat.lt_of_le_of_lt (Nat.div_le_self _ _) hx)
end Go.Sha
namespace Go.Proofs.YtlimfgdbfadohaaGreatDoor
open Go Go.Sl Go.Med Go.MapKept Go.RowKit
section
variable {w0 w:World}{F:List HProp}
theorem turn32_2_c (x:Nat) (hx:x<4294967296) (h:Sat w0 w F):Calls Tryz.prog 173 #[.int .u32 x,.int .i64 (-2)] w (Rtn fun v w'=>v = .int .u32 (Sha.rr 2 x:Nat)∧Sat w0 w' F):=by
 have hf:=uQ (show Sha.rr 2 x=(x * 1073741824%4294967296) ||| (x / 4) from rfl)
 have e1:IntKind.u32.wrap ((x:Int) * 1073741824)=((x * 1073741824%4294967296:Nat):Int):=by rw [IntKind.wrap_u32];omega
 have e2:(x:Int) / 4=((x / 4:Nat):Int):=rfl
 have ha:x * 1073741824%4294967296<4294967296:=Nat.mod_lt _ dCz
 have hb:x / 4<4294967296:=Nat.lt_of_le_of_lt (Nat.div_le_self _ _) hx
 generalize x * 1073741824%4294967296=a at *
 generalize x / 4=b at *
 have e3:=u32_or_nat a b ha hb
 have hS:=h.drew
 have e0:bits .and .i64 (-2:Int) 31=30:=by decide
 have e00:wrap64 (32 - 30:Int)=2:=by rw [IntWalk.wrap64_in _ dCz];rfl
 clear ha hb h
 go_enter Tryz.func173,Tryz.ntmps173
 go_wp2_with fail
 go_region
 go_wp2
 go_ret
 exact ⟨_,rfl,by rw [hf.out];rfl,hS⟩
theorem right_2_c (x:Nat) (hx:x<4294967296) (h:Sat w0 w F):Calls Tryz.prog 132 #[.int .u32 x,.int .i64 2] w (Rtn fun v w'=>v = .int .u32 (Sha.rr 2 x:Nat)∧Sat w0 w' F):=by
 have e0:IntKind.i64.wrap (-(2:Int)) = -2:=by decide
 have ht:=turn32_2_c x hx h
 go_enter Tryz.func132,Tryz.ntmps132
 go_wp2_with fail
 refine ht.mono ?_
 rintro ee w1 ⟨v,rfl,rfl,h1⟩
 clear ht
 go_wp2_with fail
 go_ret
 exact ⟨_,rfl,rfl,h1⟩
theorem turn32_6_c (x:Nat) (hx:x<4294967296) (h:Sat w0 w F):Calls Tryz.prog 173 #[.int .u32 x,.int .i64 (-6)] w (Rtn fun v w'=>v = .int .u32 (Sha.rr 6 x:Nat)∧Sat w0 w' F):=by
 have hf:=uQ (show Sha.rr 6 x=(x * 67108864%4294967296) ||| (x / 64) from rfl)
 have e1:IntKind.u32.wrap ((x:Int) * 67108864)=((x * 67108864%4294967296:Nat):Int):=by rw [IntKind.wrap_u32];omega
 have e2:(x:Int) / 64=((x / 64:Nat):Int):=rfl
 have ha:x * 67108864%4294967296<4294967296:=Nat.mod_lt _ dCz
 have hb:x / 64<4294967296:=Nat.lt_of_le_of_lt (Nat.div_le_self _ _) hx
 generalize x * 67108864%4294967296=a at *
 generalize x / 64=b at *
 have e3:=u32_or_nat a b ha hb
 have hS:=h.drew
 have e0:bits .and .i64 (-6:Int) 31=26:=by decide
 have e00:wrap64 (32 - 26:Int)=6:=by rw [IntWalk.wrap64_in _ dCz];rfl
 clear ha hb h
 go_enter Tryz.func173,Tryz.ntmps173
 go_wp2_with fail
 go_region
 go_wp2
 go_ret
 exact ⟨_,rfl,by rw [hf.out];rfl,hS⟩
theorem right_6_c (x:Nat) (hx:x<4294967296) (h:Sat w0 w F):Calls Tryz.prog 132 #[.int .u32 x,.int .i64 6] w (Rtn fun v w'=>v = .int .u32 (Sha.rr 6 x:Nat)∧Sat w0 w' F):=by
 have e0:IntKind.i64.wrap (-(6:Int)) = -6:=by decide
 have ht:=turn32_6_c x hx h
 go_enter Tryz.func132,Tryz.ntmps132
 go_wp2_with fail
 refine ht.mono ?_
 rintro ee w1 ⟨v,rfl,rfl,h1⟩
 clear ht
 go_wp2_with fail
 go_ret
 exact ⟨_,rfl,rfl,h1⟩
theorem turn32_7_c (x:Nat) (hx:x<4294967296) (h:Sat w0 w F):Calls Tryz.prog 173 #[.int .u32 x,.int .i64 (-7)] w (Rtn fun v w'=>v = .int .u32 (Sha.rr 7 x:Nat)∧Sat w0 w' F):=by
 have hf:=uQ (show Sha.rr 7 x=(x * 33554432%4294967296) ||| (x / 128) from rfl)
 have e1:IntKind.u32.wrap ((x:Int) * 33554432)=((x * 33554432%4294967296:Nat):Int):=by rw [IntKind.wrap_u32];omega
 have e2:(x:Int) / 128=((x / 128:Nat):Int):=rfl
 have ha:x * 33554432%4294967296<4294967296:=Nat.mod_lt _ dCz
 have hb:x / 128<4294967296:=Nat.lt_of_le_of_lt (Nat.div_le_self _ _) hx
 generalize x * 33554432%4294967296=a at *
 generalize x / 128=b at *
 have e3:=u32_or_nat a b ha hb
 have hS:=h.drew
 have e0:bits .and .i64 (-7:Int) 31=25:=by decide
 have e00:wrap64 (32 - 25:Int)=7:=by rw [IntWalk.wrap64_in _ dCz];rfl
 clear ha hb h
 go_enter Tryz.func173,Tryz.ntmps173
 go_wp2_with fail
 go_region
 go_wp2
 go_ret
 exact ⟨_,rfl,by rw [hf.out];rfl,hS⟩
theorem right_7_c (x:Nat) (hx:x<4294967296) (h:Sat w0 w F):Calls Tryz.prog 132 #[.int .u32 x,.int .i64 7] w (Rtn fun v w'=>v = .int .u32 (Sha.rr 7 x:Nat)∧Sat w0 w' F):=by
 have e0:IntKind.i64.wrap (-(7:Int)) = -7:=by decide
 have ht:=turn32_7_c x hx h
 go_enter Tryz.func132,Tryz.ntmps132
 go_wp2_with fail
 refine ht.mono ?_
 rintro ee w1 ⟨v,rfl,rfl,h1⟩
 clear ht
 go_wp2_with fail
 go_ret
 exact ⟨_,rfl,rfl,h1⟩
theorem turn32_11_c (x:Nat) (hx:x<4294967296) (h:Sat w0 w F):Calls Tryz.prog 173 #[.int .u32 x,.int .i64 (-11)] w (Rtn fun v w'=>v = .int .u32 (Sha.rr 11 x:Nat)∧Sat w0 w' F):=by
 have hf:=uQ (show Sha.rr 11 x=(x * 2097152%4294967296) ||| (x / 2048) from rfl)
 have e1:IntKind.u32.wrap ((x:Int) * 2097152)=((x * 2097152%4294967296:Nat):Int):=by rw [IntKind.wrap_u32];omega
 have e2:(x:Int) / 2048=((x / 2048:Nat):Int):=rfl
 have ha:x * 2097152%4294967296<4294967296:=Nat.mod_lt _ dCz
 have hb:x / 2048<4294967296:=Nat.lt_of_le_of_lt (Nat.div_le_self _ _) hx
 generalize x * 2097152%4294967296=a at *
 generalize x / 2048=b at *
 have e3:=u32_or_nat a b ha hb
 have hS:=h.drew
 have e0:bits .and .i64 (-11:Int) 31=21:=by decide
 have e00:wrap64 (32 - 21:Int)=11:=by rw [IntWalk.wrap64_in _ dCz];rfl
 clear ha hb h
 go_enter Tryz.func173,Tryz.ntmps173
 go_wp2_with fail
 go_region
 go_wp2
 go_ret
 exact ⟨_,rfl,by rw [hf.out];rfl,hS⟩
theorem right_11_c (x:Nat) (hx:x<4294967296) (h:Sat w0 w F):Calls Tryz.prog 132 #[.int .u32 x,.int .i64 11] w (Rtn fun v w'=>v = .int .u32 (Sha.rr 11 x:Nat)∧Sat w0 w' F):=by
 have e0:IntKind.i64.wrap (-(11:Int)) = -11:=by decide
 have ht:=turn32_11_c x hx h
 go_enter Tryz.func132,Tryz.ntmps132
 go_wp2_with fail
 refine ht.mono ?_
 rintro ee w1 ⟨v,rfl,rfl,h1⟩
 clear ht
 go_wp2_with fail
 go_ret
 exact ⟨_,rfl,rfl,h1⟩
theorem turn32_13_c (x:Nat) (hx:x<4294967296) (h:Sat w0 w F):Calls Tryz.prog 173 #[.int .u32 x,.int .i64 (-13)] w (Rtn fun v w'=>v = .int .u32 (Sha.rr 13 x:Nat)∧Sat w0 w' F):=by
 have hf:=uQ (show Sha.rr 13 x=(x * 524288%4294967296) ||| (x / 8192) from rfl)
 have e1:IntKind.u32.wrap ((x:Int) * 524288)=((x * 524288%4294967296:Nat):Int):=by rw [IntKind.wrap_u32];omega
 have e2:(x:Int) / 8192=((x / 8192:Nat):Int):=rfl
 have ha:x * 524288%4294967296<4294967296:=Nat.mod_lt _ dCz
 have hb:x / 8192<4294967296:=Nat.lt_of_le_of_lt (Nat.div_le_self _ _) hx
 generalize x * 524288%4294967296=a at *
 generalize x / 8192=b at *
 have e3:=u32_or_nat a b ha hb
 have hS:=h.drew
 have e0:bits .and .i64 (-13:Int) 31=19:=by decide
 have e00:wrap64 (32 - 19:Int)=13:=by rw [IntWalk.wrap64_in _ dCz];rfl
 clear ha hb h
 go_enter Tryz.func173,Tryz.ntmps173
 go_wp2_with fail
 go_region
 go_wp2
 go_ret
 exact ⟨_,rfl,by rw [hf.out];rfl,hS⟩
theorem right_13_c (x:Nat) (hx:x<4294967296) (h:Sat w0 w F):Calls Tryz.prog 132 #[.int .u32 x,.int .i64 13] w (Rtn fun v w'=>v = .int .u32 (Sha.rr 13 x:Nat)∧Sat w0 w' F):=by
 have e0:IntKind.i64.wrap (-(13:Int)) = -13:=by decide
 have ht:=turn32_13_c x hx h
 go_enter Tryz.func132,Tryz.ntmps132
 go_wp2_with fail
 refine ht.mono ?_
 rintro ee w1 ⟨v,rfl,rfl,h1⟩
 clear ht
 go_wp2_with fail
 go_ret
 exact ⟨_,rfl,rfl,h1⟩
theorem turn32_17_c (x:Nat) (hx:x<4294967296) (h:Sat w0 w F):Calls Tryz.prog 173 #[.int .u32 x,.int .i64 (-17)] w (Rtn fun v w'=>v = .int .u32 (Sha.rr 17 x:Nat)∧Sat w0 w' F):=by
 have hf:=uQ (show Sha.rr 17 x=(x * 32768%4294967296) ||| (x / 131072) from rfl)
 have e1:IntKind.u32.wrap ((x:Int) * 32768)=((x * 32768%4294967296:Nat):Int):=by rw [IntKind.wrap_u32];omega
 have e2:(x:Int) / 131072=((x / 131072:Nat):Int):=rfl
 have ha:x * 32768%4294967296<4294967296:=Nat.mod_lt _ dCz
 have hb:x / 131072<4294967296:=Nat.lt_of_le_of_lt (Nat.div_le_self _ _) hx
 generalize x * 32768%4294967296=a at *
 generalize x / 131072=b at *
 have e3:=u32_or_nat a b ha hb
 have hS:=h.drew
 have e0:bits .and .i64 (-17:Int) 31=15:=by decide
 have e00:wrap64 (32 - 15:Int)=17:=by rw [IntWalk.wrap64_in _ dCz];rfl
 clear ha hb h
 go_enter Tryz.func173,Tryz.ntmps173
 go_wp2_with fail
 go_region
 go_wp2
 go_ret
 exact ⟨_,rfl,by rw [hf.out];rfl,hS⟩
theorem right_17_c (x:Nat) (hx:x<4294967296) (h:Sat w0 w F):Calls Tryz.prog 132 #[.int .u32 x,.int .i64 17] w (Rtn fun v w'=>v = .int .u32 (Sha.rr 17 x:Nat)∧Sat w0 w' F):=by
 have e0:IntKind.i64.wrap (-(17:Int)) = -17:=by decide
 have ht:=turn32_17_c x hx h
 go_enter Tryz.func132,Tryz.ntmps132
 go_wp2_with fail
 refine ht.mono ?_
 rintro ee w1 ⟨v,rfl,rfl,h1⟩
 clear ht
 go_wp2_with fail
 go_ret
 exact ⟨_,rfl,rfl,h1⟩
theorem turn32_18_c (x:Nat) (hx:x<4294967296) (h:Sat w0 w F):Calls Tryz.prog 173 #[.int .u32 x,.int .i64 (-18)] w (Rtn fun v w'=>v = .int .u32 (Sha.rr 18 x:Nat)∧Sat w0 w' F):=by
 have hf:=uQ (show Sha.rr 18 x=(x * 16384%4294967296) ||| (x / 262144) from rfl)
 have e1:IntKind.u32.wrap ((x:Int) * 16384)=((x * 16384%4294967296:Nat):Int):=by rw [IntKind.wrap_u32];omega
 have e2:(x:Int) / 262144=((x / 262144:Nat):Int):=rfl
 have ha:x * 16384%4294967296<4294967296:=Nat.mod_lt _ dCz
 have hb:x / 262144<4294967296:=Nat.lt_of_le_of_lt (Nat.div_le_self _ _) hx
 generalize x * 16384%4294967296=a at *
 generalize x / 262144=b at *
 have e3:=u32_or_nat a b ha hb
 have hS:=h.drew
 have e0:bits .and .i64 (-18:Int) 31=14:=by decide
 have e00:wrap64 (32 - 14:Int)=18:=by rw [IntWalk.wrap64_in _ dCz];rfl
 clear ha hb h
 go_enter Tryz.func173,Tryz.ntmps173
 go_wp2_with fail
 go_region
 go_wp2
 go_ret
 exact ⟨_,rfl,by rw [hf.out];rfl,hS⟩
theorem right_18_c (x:Nat) (hx:x<4294967296) (h:Sat w0 w F):Calls Tryz.prog 132 #[.int .u32 x,.int .i64 18] w (Rtn fun v w'=>v = .int .u32 (Sha.rr 18 x:Nat)∧Sat w0 w' F):=by
 have e0:IntKind.i64.wrap (-(18:Int)) = -18:=by decide
 have ht:=turn32_18_c x hx h
 go_enter Tryz.func132,Tryz.ntmps132
 go_wp2_with fail
 refine ht.mono ?_
 rintro ee w1 ⟨v,rfl,rfl,h1⟩
 clear ht
 go_wp2_with fail
 go_ret
 exact ⟨_,rfl,rfl,h1⟩
theorem turn32_19_c (x:Nat) (hx:x<4294967296) (h:Sat w0 w F):Calls Tryz.prog 173 #[.int .u32 x,.int .i64 (-19)] w (Rtn fun v w'=>v = .int .u32 (Sha.rr 19 x:Nat)∧Sat w0 w' F):=by
 have hf:=uQ (show Sha.rr 19 x=(x * 8192%4294967296) ||| (x / 524288) from rfl)
 have e1:IntKind.u32.wrap ((x:Int) * 8192)=((x * 8192%4294967296:Nat):Int):=by rw [IntKind.wrap_u32];omega
 have e2:(x:Int) / 524288=((x / 524288:Nat):Int):=rfl
 have ha:x * 8192%4294967296<4294967296:=Nat.mod_lt _ dCz
 have hb:x / 524288<4294967296:=Nat.lt_of_le_of_lt (Nat.div_le_self _ _) hx
 generalize x * 8192%4294967296=a at *
 generalize x / 524288=b at *
 have e3:=u32_or_nat a b ha hb
 have hS:=h.drew
 have e0:bits .and .i64 (-19:Int) 31=13:=by decide
 have e00:wrap64 (32 - 13:Int)=19:=by rw [IntWalk.wrap64_in _ dCz];rfl
 clear ha hb h
 go_enter Tryz.func173,Tryz.ntmps173
 go_wp2_with fail
 go_region
 go_wp2
 go_ret
 exact ⟨_,rfl,by rw [hf.out];rfl,hS⟩
theorem right_19_c (x:Nat) (hx:x<4294967296) (h:Sat w0 w F):Calls Tryz.prog 132 #[.int .u32 x,.int .i64 19] w (Rtn fun v w'=>v = .int .u32 (Sha.rr 19 x:Nat)∧Sat w0 w' F):=by
 have e0:IntKind.i64.wrap (-(19:Int)) = -19:=by decide
 have ht:=turn32_19_c x hx h
 go_enter Tryz.func132,Tryz.ntmps132
 go_wp2_with fail
 refine ht.mono ?_
 rintro ee w1 ⟨v,rfl,rfl,h1⟩
 clear ht
 go_wp2_with fail
 go_ret
 exact ⟨_,rfl,rfl,h1⟩
theorem turn32_22_c (x:Nat) (hx:x<4294967296) (h:Sat w0 w F):Calls Tryz.prog 173 #[.int .u32 x,.int .i64 (-22)] w (Rtn fun v w'=>v = .int .u32 (Sha.rr 22 x:Nat)∧Sat w0 w' F):=by
 have hf:=uQ (show Sha.rr 22 x=(x * 1024%4294967296) ||| (x / 4194304) from rfl)
 have e1:IntKind.u32.wrap ((x:Int) * 1024)=((x * 1024%4294967296:Nat):Int):=by rw [IntKind.wrap_u32];omega
 have e2:(x:Int) / 4194304=((x / 4194304:Nat):Int):=rfl
 have ha:x * 1024%4294967296<4294967296:=Nat.mod_lt _ dCz
 have hb:x / 4194304<4294967296:=Nat.lt_of_le_of_lt (Nat.div_le_self _ _) hx
 generalize x * 1024%4294967296=a at *
 generalize x / 4194304=b at *
 have e3:=u32_or_nat a b ha hb
 have hS:=h.drew
 have e0:bits .and .i64 (-22:Int) 31=10:=by decide
 have e00:wrap64 (32 - 10:Int)=22:=by rw [IntWalk.wrap64_in _ dCz];rfl
 clear ha hb h
 go_enter Tryz.func173,Tryz.ntmps173
 go_wp2_with fail
 go_region
 go_wp2
 go_ret
 exact ⟨_,rfl,by rw [hf.out];rfl,hS⟩
theorem right_22_c (x:Nat) (hx:x<4294967296) (h:Sat w0 w F):Calls Tryz.prog 132 #[.int .u32 x,.int .i64 22] w (Rtn fun v w'=>v = .int .u32 (Sha.rr 22 x:Nat)∧Sat w0 w' F):=by
 have e0:IntKind.i64.wrap (-(22:Int)) = -22:=by decide
 have ht:=turn32_22_c x hx h
 go_enter Tryz.func132,Tryz.ntmps132
 go_wp2_with fail
 refine ht.mono ?_
 rintro ee w1 ⟨v,rfl,rfl,h1⟩
 clear ht
 go_wp2_with fail
 go_ret
 exact ⟨_,rfl,rfl,h1⟩
theorem turn32_25_c (x:Nat) (hx:x<4294967296) (h:Sat w0 w F):Calls Tryz.prog 173 #[.int .u32 x,.int .i64 (-25)] w (Rtn fun v w'=>v = .int .u32 (Sha.rr 25 x:Nat)∧Sat w0 w' F):=by
 have hf:=uQ (show Sha.rr 25 x=(x * 128%4294967296) ||| (x / 33554432) from rfl)
 have e1:IntKind.u32.wrap ((x:Int) * 128)=((x * 128%4294967296:Nat):Int):=by rw [IntKind.wrap_u32];omega
 have e2:(x:Int) / 33554432=((x / 33554432:Nat):Int):=rfl
 have ha:x * 128%4294967296<4294967296:=Nat.mod_lt _ dCz
 have hb:x / 33554432<4294967296:=Nat.lt_of_le_of_lt (Nat.div_le_self _ _) hx
 generalize x * 128%4294967296=a at *
 generalize x / 33554432=b at *
 have e3:=u32_or_nat a b ha hb
 have hS:=h.drew
 have e0:bits .and .i64 (-25:Int) 31=7:=by decide
 have e00:wrap64 (32 - 7:Int)=25:=by rw [IntWalk.wrap64_in _ dCz];rfl
 clear ha hb h
 go_enter Tryz.func173,Tryz.ntmps173
 go_wp2_with fail
 go_region
 go_wp2
 go_ret
 exact ⟨_,rfl,by rw [hf.out];rfl,hS⟩
theorem right_25_c (x:Nat) (hx:x<4294967296) (h:Sat w0 w F):Calls Tryz.prog 132 #[.int .u32 x,.int .i64 25] w (Rtn fun v w'=>v = .int .u32 (Sha.rr 25 x:Nat)∧Sat w0 w' F):=by
 have e0:IntKind.i64.wrap (-(25:Int)) = -25:=by decide
 have ht:=turn32_25_c x hx h
 go_enter Tryz.func132,Tryz.ntmps132
 go_wp2_with fail
 refine ht.mono ?_
 rintro ee w1 ⟨v,rfl,rfl,h1⟩
 clear ht
 go_wp2_with fail
 go_ret
 exact ⟨_,rfl,rfl,h1⟩
end
end Go.Proofs.YtlimfgdbfadohaaGreatDoor
namespace Go.Sha
theorem big_lt:∀ (b:Bs),big b<256^b.length:=by
 have h:∀ (b:Bs) (x:Nat),b.foldl (fun x c=>x * 256+c.toNat) x<(x+1) * 256^b.length:=by
  intro b
  induction b with
  |nil=>intro x;simp
  |cons c b ih=>
   intro x
   have h1:=ih (x * 256+c.toNat)
   have h2:=c.toNat_lt
   rw [List.foldl_cons,List.length_cons,Nat.pow_succ,Nat.mul_comm (256^b.length),← Nat.mul_assoc]
   refine Nat.lt_of_lt_of_le h1 (Nat.mul_le_mul_right _ ?_)
   omega
 intro b
 have:=h b 0
 rwa [Nat.zero_add,Nat.one_mul]at this
theorem big_snoc (b:Bs) (c:UInt8):big (b++[c])=big b * 256+c.toNat:=by unfold big;rw [List.foldl_append];rfl
theorem more_snoc:∀ (n:Nat) (l:List Nat),more (n+1) l=more n l++[next (more n l)]
 |0,l=>rfl
 |n+1,l=>by
  have:=more_snoc n (l++[next l])
  rw [more,this];rfl
theorem first_len (b:Bs):(first b).length=16:=by unfold first;rw [List.length_map,List.length_range']
theorem more_len:∀ (n:Nat) (l:List Nat),(more n l).length=l.length+n
 |0,l=>rfl
 |n+1,l=>by rw [more_snoc,List.length_append,more_len n l];rfl
theorem sched_len (b:Bs):(sched b).length=64:=by unfold sched;rw [more_len,first_len]
def AllW (l:List Nat):Prop:=∀ x∈l,x<4294967296
theorem at_lt {l:List Nat} (h:AllW l) (i:Nat):at_ l i<4294967296:=by
 unfold at_
 rw [List.getD_eq_getElem?_getD]
 cases hi:l[i]? with
 |none=>decide
 |some x=>exact h x (List.mem_of_getElem? hi)
theorem first_all (b:Bs):AllW (first b):=fun x hx=>by
 unfold first at hx
 obtain ⟨i,_,rfl⟩:=List.mem_map.1 hx
 have h1:=big_lt ((b.drop (4 * i)).take 4)
 have h2:((b.drop (4 * i)).take 4).length≤4:=by rw [List.length_take];omega
 exact Nat.lt_of_lt_of_le h1 (Nat.pow_le_pow_right dCz h2)
theorem more_all:∀ (n:Nat) (l:List Nat),AllW l→AllW (more n l)
 |0,l,h=>h
 |n+1,l,h=>more_all n _ fun x hx=>by
  rcases List.mem_append.1 hx with hx|hx
  ·exact h x hx
  ·rw [List.mem_singleton.1 hx];exact Nat.mod_lt _ dCz
theorem sched_all (b:Bs):AllW (sched b):=more_all _ _ (first_all b)
theorem g0_lt {x:Nat} (h:x<4294967296):g0 x<4294967296:=xor_lt (xor_lt (rr_lt 7 h) (rr_lt 18 h)) (Nat.lt_of_le_of_lt (Nat.div_le_self _ _) h)
theorem g1_lt {x:Nat} (h:x<4294967296):g1 x<4294967296:=xor_lt (xor_lt (rr_lt 17 h) (rr_lt 19 h)) (Nat.lt_of_le_of_lt (Nat.div_le_self _ _) h)
end Go.Sha
namespace Go.Proofs.YtlimfgdbfadohaaGreatDoor
open Go Go.Sl Go.Med Go.MapKept Go.RowKit
section
variable {w0 w:World}{F:List HProp}{a:Option Addr}{n c k:Nat}{b:Bs}
theorem run_slLH {l h:Nat} (h1:l≤h) (h2:h≤c) (w:World):(Instr.sliceAt 27 (.slice a n c) (some (.int .i64 l)) (some (.int .i64 h)) none).run Tryz.prog w = .ok (sliced a l h c 1) w:=by
 rw [run_sliceAt_slice _ _ _ _ _ _ undU8,run_slice_lh _ _ _ _ _ undU8 .i64 .i64 (l:Int) (h:Int) oQ oQ oQ,elemU8,sizeU8]
 simp [Result.andThen]
theorem RS.mid {l h:Nat} (hr:RS w0 F (.slice a b.length c) b) (h1:l≤h) (h2:h≤b.length):RS w0 F (sliced a l h c 1) ((b.drop l).take (h - l)):=by
 obtain ⟨a',n',c',he,q1,q2⟩:=hr.cap
 cases he
 refine ⟨fun w hw=>?_,⟨_,_,_,rfl,by omega,by omega⟩⟩
 refine ⟨_,_,_,rfl,by rw [bys_len,List.length_take,List.length_drop,Nat.mul_one];omega,fun j y hj=>?_⟩
 obtain ⟨u,hu,rfl⟩:=bys_get.1 hj
 rw [List.getElem?_take]at hu
 split at hu
 ·rename_i hjk
  rw [List.getElem?_drop]at hu
  obtain ⟨bk,off,rfl,hc⟩:=rdsl_cells (hr.rd w hw) (bys_get.2 ⟨u,hu,rfl⟩)
  rw [if_neg oQ]
  refine ⟨_,rfl,?_⟩
  have:=hc (l+j) _ (bys_get.2 ⟨u,hu,rfl⟩)
  show w.cell? (((⟨bk,off,none⟩:Addr).add (l * 1)).add j)=_
  rw [Addr.add_mid,Addr.add_mid,Nat.mul_one,Nat.add_assoc];exact this
 ·cases hu
def w32 (l:List Nat):List Value:=l.map fun x:Nat=>Value.int .u32 (x:Int)
theorem w32_len (l:List Nat):(w32 l).length=l.length:=List.length_map ..
def arr64 (l:List Nat):Array Value:=(w32 l++List.replicate (64 - l.length) (Value.int .u32 0)).toArray
theorem arr64_size {l:List Nat} (h:l.length≤64):(arr64 l).size=64:=by unfold arr64;rw [List.size_toArray,List.length_append,w32_len,List.length_replicate];omega
theorem arr64_at {l:List Nat}{i:Nat} (h:i<l.length):(arr64 l)[i]?=some (.int .u32 (Sha.at_ l i:Nat)):=by
 unfold arr64 w32 Sha.at_
 rw [List.getElem?_toArray,List.getElem?_append_left (by rw [List.length_map];exact h),List.getElem?_map,List.getD_eq_getElem?_getD,List.getElem?_eq_getElem h]
 rfl
theorem arr64_put {l:List Nat}{x:Nat} (h:l.length<64):putsAt (arr64 l) l.length [.int .u32 (x:Int)]=arr64 (l++[x]):=by
 have hs:=arr64_size (Nat.le_of_lt h)
 apply putsAt_eq
 rw [putsAt_list _ _ _ (by rw [hs,List.length_singleton];omega)]
 unfold arr64 w32
 dsimp only
 rw [List.take_left' (by rw [List.length_map]),List.map_append,List.drop_append,List.drop_of_length_le (by rw [List.length_map];simp),List.nil_append,List.length_map,List.length_append,List.length_singleton,List.drop_replicate]
 simp only [List.map_cons,List.map_nil,List.length_singleton,List.append_assoc]
 congr 3
 omega
theorem arr64_put' {l:List Nat}{x m:Nat} (hm:l.length=m) (h:m<64):putsAt (arr64 l) m [.int .u32 (x:Int)]=arr64 (l++[x]):=by subst hm;exact arr64_put h
theorem arr64_ones (l:List Nat):(arr64 l).toList.all (·.oneCell')=true:=by
 unfold arr64 w32
 rw [List.toList_toArray,List.all_append,List.all_map,Bool.and_eq_true]
 refine ⟨List.all_eq_true.2 fun _ _=>rfl,List.all_eq_true.2 fun x hx=>?_⟩
 rw [List.eq_of_mem_replicate hx];rfl
theorem zArr64:zeroB Tryz.prog 129=some (.agg (arr64 [])):=by kernel_rfl
theorem infoArr64:(Tryz.prog.info? 129).map (·.size)=some 64:=by kernel_rfl
theorem or256 (x cb:Nat) (h:cb<256) (hx:x<16777216):bits .or .u64 ((x * 256:Nat):Int) (cb:Int)=((x * 256+cb:Nat):Int):=by
 rw [u64_or_nat _ _ oQ oQ]
 have:=Nat.two_pow_add_eq_or_of_lt (i:=8) (b:=cb) h x
 rw [Nat.mul_comm]at this
 rw [show (256:Nat)=2^8 from rfl,← this]
theorem getbig4_c (l:Bs) (hl:l.length=4) (hr:RS w0 F (.slice a 4 c) l) (h:Sat w0 w F) :
  Calls Tryz.prog 172 #[.slice a 4 c] w (Rtn fun v w'=>v = .tuple #[.int .u64 (Sha.big l:Nat),.bool true]∧w=w'):=by
 have Hr:=uQ (hr.rd w h);have Hl:=uQ hl
 clear hr hl
 go_enter Tryz.func172,Tryz.ntmps172
 go_wp2_with fail
 go_loopg [4,17] 4 (fun g xv iq wr=>∃ i:Nat,g=4 - i∧i≤4∧xv = .int .u64 (Sha.big (l.take i):Nat)∧iq = .int .i64 i∧wr=w)
 case atStart=>exact ⟨0,rfl,Nat.zero_le _,rfl,rfl,rfl⟩
 case round=>
  obtain ⟨i,rfl,hi,rfl,rfl,rfl⟩:=hrel
  by_cases hil:i<4
  rotate_left
  focus
   obtain rfl:i=4:=by omega
   have e:l.take 4=l:=List.take_of_length_le (by rw [Hl.out];exact Nat.le_refl 4)
   rw [e]
   go_wp2_with fail
   go_ret2
   exact ⟨_,rfl,rfl,rfl⟩
  have hll:i<l.length:=by rw [Hl.out];exact hil
  have hb:(bys l)[i]?=some (.int .u8 (l[i]'hll).toNat):=by unfold bys;simp [hll]
  obtain ⟨bk,off,rfl,c1⟩:=rdsl_cell Hr.out hb
  have Hn:=uQ (show Sha.big (l.take (i+1))=Sha.big (l.take i) * 256+(l[i]'hll).toNat by rw [List.take_succ_eq_append_getElem hll,Sha.big_snoc])
  have hcb:=(l[i]'hll).toNat_lt
  have hx:Sha.big (l.take i)<16777216:=by
   have h1:=Sha.big_lt (l.take i)
   have h2:(l.take i).length≤3:=by rw [List.length_take];omega
   exact Nat.lt_of_lt_of_le h1 (Nat.pow_le_pow_right dCz h2)
  generalize (l[i]'hll).toNat=cb at *
  generalize Sha.big (l.take i)=x at *
  obtain ⟨y,hy⟩:∃ y,x * 256=y:=⟨_,rfl⟩
  obtain ⟨z,hz⟩:∃ z,y+cb=z:=⟨_,rfl⟩
  have e1:IntKind.u64.wrap ((x:Int) * 256)=(y:Int):=by rw [IntKind.wrap_u64];omega
  have e2:=or256 x cb hcb hx
  rw [hy,hz]at e2
  rw [hy,hz]at Hn
  have e3:IntKind.u64.wrap (cb:Int)=(cb:Int):=by rw [IntKind.wrap_u64];omega
  have e4:(cb:Int)%18446744073709551616=(cb:Int):=oQ
  have hic:(i:Int)<4:=oQ
  have hwi:=iwQ (i:=i)
  have Hil:=uQ hil
  clear hb hcb hx hil hi hll hy hz
  go_wp2_with fail
  go_roundg (4 - (i+1))
  case measure=>have:=Hil.out;omega
  case rel=>exact ⟨i+1,rfl,Nat.succ_le_of_lt Hil.out,by rw [Hn.out],by first|rfl|go_num,rfl⟩
theorem wrapU (x:Nat):IntKind.u32.wrap (x:Int)=((x%4294967296:Nat):Int):=by rw [IntKind.wrap_u32];rfl
theorem addU (x c:Nat):IntKind.u32.wrap ((x:Int)+(c:Int))=(((x+c)%4294967296:Nat):Int):=by rw [← Int.natCast_add,wrapU]
theorem g0_ex {x:Nat} (hx:x<4294967296):∃ a b d u:Nat,Sha.rr 7 x=a∧Sha.rr 18 x=b∧bits .xor .u32 (a:Int) (b:Int)=(d:Int)∧bits .xor .u32 (d:Int) ((x:Int) / 8)=(u:Int)∧Sha.g0 x=u∧u<4294967296:=
 ⟨_,_,Sha.rr 7 x ^^^ Sha.rr 18 x,_,rfl,rfl,u32_xor_nat _ _ (Sha.rr_lt 7 hx) (Sha.rr_lt 18 hx),u32_xor_nat _ (x / 8) (Sha.xor_lt (Sha.rr_lt 7 hx) (Sha.rr_lt 18 hx)) (Nat.lt_of_le_of_lt (Nat.div_le_self _ _) hx),rfl,Sha.g0_lt hx⟩
theorem g1_ex {x:Nat} (hx:x<4294967296):∃ a b d u:Nat,Sha.rr 17 x=a∧Sha.rr 19 x=b∧bits .xor .u32 (a:Int) (b:Int)=(d:Int)∧bits .xor .u32 (d:Int) ((x:Int) / 1024)=(u:Int)∧Sha.g1 x=u∧u<4294967296:=
 ⟨_,_,Sha.rr 17 x ^^^ Sha.rr 19 x,_,rfl,rfl,u32_xor_nat _ _ (Sha.rr_lt 17 hx) (Sha.rr_lt 19 hx),u32_xor_nat _ (x / 1024) (Sha.xor_lt (Sha.rr_lt 17 hx) (Sha.rr_lt 19 hx)) (Nat.lt_of_le_of_lt (Nat.div_le_self _ _) hx),rfl,Sha.g1_lt hx⟩
theorem nx_ex (x u y v:Nat):∃ s1 s2 s3:Nat,IntKind.u32.wrap ((x:Int)+(u:Int))=(s1:Int)∧IntKind.u32.wrap ((s1:Int)+(y:Int))=(s2:Int)∧IntKind.u32.wrap ((s2:Int)+(v:Int))=(s3:Int)∧(((x+u)%4294967296+y)%4294967296+v)%4294967296=s3:=
 ⟨_,_,_,addU _ _,addU _ _,addU _ _,rfl⟩
set_option maxRecDepth 20000 in
theorem schedule_c (hb:b.length=64) (hr:RS w0 F (.slice a 64 c) b) (h:Sat w0 w F) :
  Calls Tryz.prog 131 #[.slice a 64 c] w (Rtn fun v w'=>v = .agg (arr64 (Sha.sched b))∧Sat w0 w' F):=by
 have Hr:=uQ hr;have Hb:=uQ hb
 obtain ⟨_,_,_,hce,hc1,hc2⟩:=hr.cap
 cases hce
 have Hc:=uQ (And.intro hc1 hc2)
 clear hr hb hc1 hc2
 go_enter Tryz.func131,Tryz.ntmps131
 go_wp2_with (with_reducible apply at_alloc)
 refine ⟨wl_alloc zArr64 h rfl ?_⟩
 intro b2 w2 h2
 clear h
 go_wp2_with (with_reducible apply at_alloc)
 refine ⟨wl_alloc zArr64 h2 rfl ?_⟩
 intro b3 w3 h3
 clear h2
 go_wp2_with fail
 go_loopg [12] 16 (fun g iq wr=>∃ i:Nat,g=16 - i∧i≤16∧iq = .int .i64 i∧Sat w0 wr (pt b3 (.cells (arr64 ((Sha.first b).take i)) 129 (0,0))::pt b2 (.cells (arr64 []) 129 (0,0))::F))
 case atStart=>exact ⟨0,rfl,Nat.zero_le _,rfl,h3⟩
 case round=>
  obtain ⟨i,rfl,hi,rfl,hS⟩:=hrel
  clear h3
  by_cases hil:i<16
  rotate_left
  focus
   obtain rfl:i=16:=by omega
   have e:(Sha.first b).take 16=Sha.first b:=List.take_of_length_le (by rw [Sha.first_len];exact Nat.le_refl 16)
   rw [e]at hS
   clear hi hil e
   go_wp2_with fail
   go_loopg [7] 48 (fun g iq wr=>∃ i:Nat,g=48 - i∧i≤48∧iq = .int .i64 ((16+i:Nat):Int)∧Sat w0 wr (pt b3 (.cells (arr64 (Sha.more i (Sha.first b))) 129 (0,0))::pt b2 (.cells (arr64 []) 129 (0,0))::F))
   case atStart=>exact ⟨0,rfl,Nat.zero_le _,rfl,hS⟩
   case round=>
    obtain ⟨j,rfl,hj,rfl,hT⟩:=hrel
    clear hS
    by_cases hjl:j<48
    rotate_left
    focus
     obtain rfl:j=48:=by omega
     have hT:Sat w0 _ (pt b3 (.cells (arr64 (Sha.sched b)) 129 (0,0))::pt b2 (.cells (arr64 []) 129 (0,0))::F):=hT
     have Hsz:=uQ (arr64_size (l:=Sha.sched b) (by rw [Sha.sched_len];exact Nat.le_refl _))
     have Hon:=uQ (arr64_ones (Sha.sched b))
     obtain ⟨A,hA⟩:∃ A,arr64 (Sha.sched b)=A:=⟨_,rfl⟩
     rw [hA]at hT Hsz Hon
     have HA:=uQ hA
     clear hj hjl hA
     go_wp2_with (first
      |((with_reducible refine at_load ⟨?_⟩);refine wl_loadA (cs:=A) hT rFz pick0 Tryz.underlying129 rfl (by rw [Hsz.out];exact infoArr64) ?_)
      |(with_reducible apply at_store))
     refine ⟨wl_storeA A (hT.sb:Sat w0 _ (pt b2 (.cells (arr64 []) 129 (0,0))::F)) rFz rFz (Hsz.out.trans (arr64_size (l:=[]) dCz).symm) upd0 (by rw [Hsz.out];exact infoArr64) Hon.out ?_⟩
     intro w9 h9
     go_wp2_with fail
     have hinf:(Tryz.prog.info? 129).map (·.size)=some A.size:=by rw [Hsz.out];exact infoArr64
     have hrc:=fun tmps hp=>res_cell (tmps:=tmps) (fn:=Tryz.f131) rfl h9 hp pick0 Tryz.underlying129 rfl hinf
     refine ⟨rfl,_,hrc _ rFz,_,rfl,?_,h9.drop⟩
     rw [HA.out]
    obtain ⟨l,hl⟩:∃ l,Sha.more j (Sha.first b)=l:=⟨_,rfl⟩
    have hll:l.length=16+j:=by rw [← hl,Sha.more_len,Sha.first_len]
    have hal:Sha.AllW l:=by rw [← hl];exact Sha.more_all _ _ (Sha.first_all b)
    have Hnx:=uQ (show Sha.more (j+1) (Sha.first b)=l++[Sha.next l] by rw [Sha.more_snoc,hl])
    rw [hl]at hT
    obtain ⟨m,hm⟩:∃ m,16+j=m:=⟨_,rfl⟩
    rw [hm]
    rw [hm]at hll
    obtain ⟨p15,h15⟩:∃ p,m - 15=p:=⟨_,rfl⟩
    obtain ⟨p2,h2⟩:∃ p,m - 2=p:=⟨_,rfl⟩
    obtain ⟨p16,h16⟩:∃ p,m - 16=p:=⟨_,rfl⟩
    obtain ⟨p7,h7⟩:∃ p,m - 7=p:=⟨_,rfl⟩
    have hmm:16≤m∧m<64:=oQ
    have hnx:Sha.next l=(((Sha.at_ l p16+Sha.g0 (Sha.at_ l p15))%4294967296+Sha.at_ l p7)%4294967296+Sha.g1 (Sha.at_ l p2))%4294967296:=by
     unfold Sha.next
     rw [hll,h15,h2,h16,h7]
    have g15:=arr64_at (l:=l) (i:=p15) oQ
    have g2:=arr64_at (l:=l) (i:=p2) oQ
    have g16:=arr64_at (l:=l) (i:=p16) oQ
    have g7:=arr64_at (l:=l) (i:=p7) oQ
    have l15:=Sha.at_lt hal p15
    have l2:=Sha.at_lt hal p2
    have l16:=Sha.at_lt hal p16
    have l7:=Sha.at_lt hal p7
    generalize Sha.at_ l p15=x15 at *
    generalize Sha.at_ l p2=x2 at *
    generalize Sha.at_ l p16=x16 at *
    generalize Sha.at_ l p7=x7 at *
    have hput:=arr64_put' (l:=l) (x:=Sha.next l) hll hmm.2
    have Hsz:=uQ (arr64_size (l:=l) oQ)
    have c1:(m:Int)<64:=oQ
    have i15:IntKind.i64.wrap ((m:Int) - 15)=(p15:Int):=by rw [IntWalk.i64_in _ oQ];omega
    have i2:IntKind.i64.wrap ((m:Int) - 2)=(p2:Int):=by rw [IntWalk.i64_in _ oQ];omega
    have i16:IntKind.i64.wrap ((m:Int) - 16)=(p16:Int):=by rw [IntWalk.i64_in _ oQ];omega
    have i7:IntKind.i64.wrap ((m:Int) - 7)=(p7:Int):=by rw [IntWalk.i64_in _ oQ];omega
    have im:IntKind.i64.wrap ((m:Int)+1)=((m+1:Nat):Int):=by rw [IntWalk.i64_in _ oQ];omega
    have b15:(p15:Int)<64:=oQ
    have b2':(p2:Int)<64:=oQ
    have b16:(p16:Int)<64:=oQ
    have b7:(p7:Int)<64:=oQ
    have Hi:=uQ (And.intro i16 (And.intro i7 (And.intro b16 b7)))
    have Hm:=uQ (And.intro hm hjl);have Hmm:=uQ hmm
    have hT2:=hT.drew
    have e15:World.cell? _ ⟨b3,p15,none⟩=some (.int .u32 (x15:Int)):=hT2.cellP pick0 p15 g15
    have e2:World.cell? _ ⟨b3,p2,none⟩=some (.int .u32 (x2:Int)):=hT2.cellP pick0 p2 g2
    have Hg:=uQ (And.intro g16 g7)
    have Hput:=uQ hput;have Hnxt:=uQ hnx
    have Hl:=uQ (And.intro l15 (And.intro l2 (And.intro l16 l7)))
    clear hT hl hll hal hm h15 h2 h16 h7 hmm hnx g15 g2 g16 g7 l15 l2 l16 l7 hput hj hjl i16 i7 b16 b7
    go_wp2_with fail
    go_region
    clear e15 e2 i15 i2 b15 b2'
    obtain ⟨ra,rb,rd,u0,ha,hb,hd,hu,hg0,hu0⟩:=g0_ex Hl.out.1
    have hr:=right_7_c x15 Hl.out.1 hT2
    rw [ha]at hr
    go_wp2_with fail
    refine hr.mono ?_
    rintro ee w4 ⟨v,rfl,rfl,h4⟩
    clear hr hT2
    have hr:=right_18_c x15 Hl.out.1 h4
    rw [hb]at hr
    go_wp2_with fail
    refine hr.mono ?_
    rintro ee w5 ⟨v,rfl,rfl,h5⟩
    clear hr h4
    go_wp2_with fail
    clear ha hb hd hu
    obtain ⟨sa,sb,sd,u1,ha,hb,hd,hu,hg1,hu1⟩:=g1_ex Hl.out.2.1
    have hr:=right_17_c x2 Hl.out.2.1 h5
    rw [ha]at hr
    refine hr.mono ?_
    rintro ee w6 ⟨v,rfl,rfl,h6⟩
    clear hr h5
    have hr:=right_19_c x2 Hl.out.2.1 h6
    rw [hb]at hr
    go_wp2_with fail
    refine hr.mono ?_
    rintro ee w7 ⟨v,rfl,rfl,h7⟩
    clear hr h6
    go_wp2_with fail
    clear ha hb hd hu
    obtain ⟨s1,s2,s3,k1,k2,k3,k4⟩:=nx_ex x16 u0 x7 u1
    have hnx2:Sha.next l=s3:=by rw [Hnxt.out,hg0,hg1,k4]
    have hpt:=Hput.out
    rw [hnx2]at hpt Hnx
    have h8:=h7.drew
    obtain ⟨i16,i7,b16,b7⟩:=Hi.out
    have hG:World.cell? _ ⟨b3,p16,none⟩=some (.int .u32 (x16:Int))∧World.cell? _ ⟨b3,p7,none⟩=some (.int .u32 (x7:Int)):=⟨h8.cellP pick0 p16 Hg.out.1,h8.cellP pick0 p7 Hg.out.2⟩
    clear h7
    refine wpL_begin [11,13,14,15] (fun w'=>w'.cell? ⟨b3,p16,none⟩=some (.int .u32 (x16:Int))∧w'.cell? ⟨b3,p7,none⟩=some (.int .u32 (x7:Int))) kRz ?_
    refine rP 0 ?_ (y:=mvQ)
    refine rP 1 ?_ (y:=mvQ)
    refine rP 2 ?_ (y:=bnQ)
    refine rP 3 ?_ (y:=ixQ)
    refine rt 4 (h:=?_)
    refine rP 5 ?_ (y:=mvQ)
    refine rP 6 ?_ (y:=bnQ)
    refine rP 7 ?_ (y:=mvQ)
    refine rP 8 ?_ (y:=bnQ)
    refine rP 9 ?_ (y:=ixQ)
    refine rt 10 (h:=?_)
    clear hG
    refine rP 11 ?_ (y:=bnQ)
    refine rP 12 ?_ (y:=mvQ)
    refine rP 13 ?_ (y:=bnQ)
    refine rP 14 ?_ (y:=ixQ)
    refine rg_eff 15 evD kRz (fun K hK=>?_)
    refine eff_store (cs':=arr64 (l++[s3])) h8 evD evD hpt upd0 (by rw [Hsz.out];exact Nat.succ_le_of_lt Hmm.out.2) kRz rFz ?_
    intro w9 h9
    refine hK _ _ (.inl rfl) ?_
    clear hK h8
    refine wpL_done kRz ?_
    go_wp2_with fail
    go_roundg (48 - (j+1))
    case measure=>have:=Hm.out;omega
    case rel=>exact ⟨j+1,rfl,Nat.succ_le_of_lt Hm.out.2,by rw [← Nat.add_assoc,Hm.out.1];first|rfl|go_num,by rw [Hnx.out];exact h9⟩
  have hc4:4 * i+4≤c:=by have:=Hc.out.1;omega
  obtain ⟨lo,hlo⟩:∃ lo,4 * i=lo:=⟨_,rfl⟩
  have e1:IntKind.i64.wrap (4 * (i:Int))=(lo:Int):=by rw [IntWalk.i64_in _ oQ];omega
  obtain ⟨hi4,hh⟩:∃ hh,lo+4=hh:=⟨_,rfl⟩
  have e2:IntKind.i64.wrap ((lo:Int)+4)=(hi4:Int):=by rw [IntWalk.i64_in _ oQ];omega
  have hsl:=fun w=>run_slLH (a:=a) (n:=64) (c:=c) (l:=lo) (h:=hi4) oQ oQ w
  have hrm:RS w0 (pt b3 (.cells (arr64 ((Sha.first b).take i)) 129 (0,0))::pt b2 (.cells (arr64 []) 129 (0,0))::F) (sliced a lo hi4 c 1) ((b.drop lo).take 4):=by
   have h1:=(RS.mid (b:=b) (a:=a) (c:=c) (l:=lo) (h:=hi4) (by rw [Hb.out];exact Hr.out) oQ (by rw [Hb.out];omega)).more (G:=pt b3 (.cells (arr64 ((Sha.first b).take i)) 129 (0,0))::pt b2 (.cells (arr64 []) 129 (0,0))::F) sbD
   rw [show hi4 - lo=4 by omega]at h1
   exact h1
  obtain ⟨sa,sc,hsd⟩:∃ sa sc,sliced a lo hi4 c 1 = .slice sa 4 sc:=⟨_,_,by unfold sliced;rw [show hi4 - lo=4 by omega]⟩
  rw [hsd]at hrm
  have hsl:∀ w,(Instr.sliceAt 27 (.slice a 64 c) (some (.int .i64 lo)) (some (.int .i64 hi4)) none).run Tryz.prog w = .ok (.slice sa 4 sc) w:=fun w=>by rw [hsl w,hsd]
  have hgb:=getbig4_c ((b.drop lo).take 4) (by rw [List.length_take,List.length_drop,Hb.out];omega) hrm hS
  have hfl:((Sha.first b).take i).length=i:=by rw [List.length_take,Sha.first_len];omega
  have hft:(Sha.first b).take (i+1)=(Sha.first b).take i++[Sha.big ((b.drop lo).take 4)]:=by
   rw [List.take_add_one]
   unfold Sha.first
   rw [List.getElem?_map,List.getElem?_range' hil,Option.map_some,Option.toList_some,Nat.one_mul,Nat.zero_add,hlo]
  have hbg:Sha.big ((b.drop lo).take 4)<4294967296:=by
   have h1:=Sha.big_lt ((b.drop lo).take 4)
   have h2:((b.drop lo).take 4).length≤4:=by rw [List.length_take];omega
   exact Nat.lt_of_lt_of_le h1 (Nat.pow_le_pow_right dCz h2)
  have Hft:=uQ hft
  generalize Sha.big ((b.drop lo).take 4)=X at *
  generalize (Sha.first b).take i=l at *
  have hpt:=arr64_put' (x:=X) hfl oQ
  have hsz:=arr64_size (l:=l) oQ
  have x1:IntKind.u32.wrap (X:Int)=(X:Int):=by rw [IntKind.wrap_u32];omega
  have x2:(X:Int)%4294967296=(X:Int):=oQ
  have c1:(i:Int)<16:=oQ
  have c2:(i:Int)<64:=oQ
  have hwi:=iwQ (i:=i)
  have Hil:=uQ hil;have Hpt:=uQ hpt;have Hsz:=uQ hsz
  clear hrm hsd hc4 hlo hh hfl hft hbg hpt hsz hi hil
  go_wp2_with ((with_reducible refine at_slice2 ⟨?_⟩);refine wl_slice2 rFz rFz rFz hsl ?_)
  refine hgb.mono ?_
  rintro ee w4 ⟨v,rfl,rfl,rfl⟩
  clear hgb hsl e1 e2
  go_wp2_with (with_reducible apply at_store)
  refine ⟨wl_store (cs':=arr64 (l++[X])) hS rFz rFz Hpt.out upd0 (by rw [Hsz.out];exact Nat.succ_le_of_lt (Nat.lt_trans Hil.out dCz)) kRz rFz ?_⟩
  intro w5 h5
  go_wp2_with fail
  go_roundg (16 - (i+1))
  case measure=>have:=Hil.out;omega
  case rel=>exact ⟨i+1,rfl,Nat.succ_le_of_lt Hil.out,by first|rfl|go_num,by rw [Hft.out];exact h5⟩
end
section
variable {w0 w:World}{F:List HProp}{p:Nat}{ov bv:Value}{out b:Frm.Bs}
theorem put2_c (x:Nat) (hx:x<18446744073709551616) (h:Sat w0 w F) :
  Calls Tryz.prog 133 #[.int .u64 x,.int .i64 2] w (Rtn fun v w'=>Sat w0 w' (bsl v (Frm.le x 2)::F)∧∃ a,v = .slice a 2 2):=by
 have Hx:=uQ hx
 clear hx
 have hmk:∀ w,(Instr.makeSlice 27 (.int .i64 2) (.int .i64 2)).run Tryz.prog w = .ok (.slice (some ⟨w.heap.size,0,none⟩) 2 2) (w.alloc (.cells #[.int .u8 0,.int .u8 0] 5)):=fun w=>by kernel_rfl
 go_enter Tryz.func133,Tryz.ntmps133
 go_wp2_with fail
 have hA:=h.alloc (.cells #[.int .u8 0,.int .u8 0] 5)
 have hB:Sat w0 (w.alloc (.cells #[.int .u8 0,.int .u8 0] 5)) (bsl (.slice (some ⟨w.heap.size,0,none⟩) 2 2) [0,0]::F):=Sat.osl_of_pt hA rfl (Nat.le_refl _) (Nat.le_refl _) (by unfold maxLen;omega) rfl
 obtain ⟨b0,b1,hb0,hb1,hle⟩:∃ b0 b1:UInt8,(x:Int)%256=b0.toNat∧(x:Int) / 256%256=b1.toNat∧Frm.le x 2=[b0,b1]:=by
  refine ⟨_,_,?_,?_,rfl⟩
  all_goals (rw [UInt8.toNat_ofNat'];omega)
 have Hle:=uQ hle
 clear hle hmk hA
 generalize w.heap.size=q at *
 go_loopg [17] 2 (fun g iq wr=>∃ (i:Nat) (l':Bs),g=2 - i∧i≤2∧iq = .int .i64 i∧l'=(match i with|0=>[0,0]|1=>[b0,0]|_=>[b0,b1])∧Sat w0 wr (bsl (.slice (some ⟨q,0,none⟩) 2 2) l'::F))
 case atStart=>exact ⟨0,_,rfl,by omega,rfl,rfl,hB⟩
 case round=>
  obtain ⟨i,l',rfl,hi,rfl,hl',hS⟩:=hrel
  clear hB
  obtain rfl|rfl|rfl:i=0∨i=1∨i=2:=by omega
  ·obtain rfl:l'=[0,0]:=hl'
   obtain ⟨g,he,e0,e1,hS5⟩:=bsl_set (i:=0) hS (by simp) b0
   cases he
   go_wp2_with fail
   go_roundg 1
   case measure=>omega
   case rel=>exact ⟨1,[b0,0],rfl,by omega,rfl,rfl,hS5⟩
  ·obtain rfl:l'=[b0,0]:=hl'
   obtain ⟨g,he,e0,e1,hS5⟩:=bsl_set (i:=1) hS (by simp) b1
   cases he
   go_wp2_with fail
   go_roundg 0
   case measure=>omega
   case rel=>exact ⟨2,[b0,b1],rfl,by omega,rfl,rfl,hS5⟩
  ·obtain rfl:l'=[b0,b1]:=hl'
   go_wp2
   go_ret
   exact ⟨_,rfl,by rw [Hle.out];exact hS,_,rfl⟩
theorem get1_c (c0:UInt8) (a:Option Addr) (c:Nat) (h:rdsl 1 (.slice a 1 c) (bys [c0]) w) :
  Calls Tryz.prog 101 #[.slice a 1 c] w (Rtn fun v w'=>v = .tuple #[.int .u64 (c0.toNat:Int),.bool true]∧w=w'):=by
 obtain ⟨bk,off,rfl,hc⟩:=rdsl_cells h (i:=0) rfl
 have e0:w.cell? ⟨bk,off,none⟩=some (.int .u8 c0.toNat):=hc 0 _ rfl
 have t0:=c0.toNat_lt
 clear hc h
 go_enter Tryz.func101,Tryz.ntmps101
 go_wp2_with fail
 go_loopg [17,4] 1 (fun g iq xq wr=>(g=1∧iq = .int .i64 0∧xq = .int .u64 0∧wr=w)∨(g=0∧iq = .int .i64 1∧xq = .int .u64 (c0.toNat:Int)∧wr=w))
 case atStart=>exact .inl ⟨rfl,rfl,rfl,rfl⟩
 case round=>
  rcases hrel with ⟨rfl,rfl,rfl,rfl⟩|⟨rfl,rfl,rfl,rfl⟩
  ·have hq:bits .or .u64 (0:Int) (c0.toNat:Int)=(c0.toNat:Int):=by
    have:=u64_or_nat 0 c0.toNat dCz oQ
    rw [Nat.zero_or]at this;exact this
   go_wp2_with fail
   go_roundg 0
   case measure=>decide
   case rel=>exact .inr ⟨rfl,by first|rfl|go_num,rfl,rfl⟩
  ·go_wp2
   go_ret2
   exact ⟨_,rfl,rfl,rfl⟩
theorem get2_c (c0 c1:UInt8) (a:Option Addr) (c:Nat) (h:rdsl 1 (.slice a 2 c) (bys [c0,c1]) w) :
  Calls Tryz.prog 101 #[.slice a 2 c] w (Rtn fun v w'=>v = .tuple #[.int .u64 (Frm.num [c0,c1]:Nat),.bool true]∧w=w'):=by
 obtain ⟨bk,off,rfl,hc⟩:=rdsl_cells h (i:=0) rfl
 have e0:w.cell? ⟨bk,off,none⟩=some (.int .u8 c0.toNat):=hc 0 _ rfl
 have e1:w.cell? ⟨bk,off+1,none⟩=some (.int .u8 c1.toNat):=hc 1 _ rfl
 have t0:=c0.toNat_lt
 have t1:=c1.toNat_lt
 clear hc h
 go_enter Tryz.func101,Tryz.ntmps101
 go_wp2_with fail
 go_loopg [17,4] 2 (fun g iq xq wr=>∃ i:Nat,g=2 - i∧i≤2∧iq = .int .i64 i∧xq = .int .u64 (Frm.num ([c0,c1].take i):Nat)∧wr=w)
 case atStart=>exact ⟨0,rfl,by omega,rfl,rfl,rfl⟩
 case round=>
  obtain ⟨i,rfl,hi,rfl,rfl,rfl⟩:=hrel
  obtain rfl|rfl|rfl:i=0∨i=1∨i=2:=by omega
  ·have hq:bits .or .u64 ((Frm.num []:Nat):Int) (c0.toNat:Int)=((Frm.num [c0]:Nat):Int):=by
    have:=or_num8 [] c0 0 rfl dCz
    simpa using this
   go_wp2_with fail
   go_roundg (2 - 1)
   case measure=>decide
   case rel=>exact ⟨1,rfl,by decide,by first|rfl|go_num,rfl,rfl⟩
  ·have hq:bits .or .u64 ((Frm.num [c0]:Nat):Int) ((c1.toNat:Int) * 256)=((Frm.num [c0,c1]:Nat):Int):=or_num8 [c0] c1 1 rfl dCz
   go_wp2_with fail
   go_roundg (2 - 2)
   case measure=>decide
   case rel=>exact ⟨2,rfl,by decide,by first|rfl|go_num,rfl,rfl⟩
  ·go_wp2
   go_ret2
   exact ⟨_,rfl,rfl,rfl⟩
theorem hash_c (hl:4≤b.length) (hr:RS w0 F bv b) (h:Sat w0 w F) :
  Calls Tryz.prog 135 #[bv] w (Rtn fun v w'=>v = .int .u32 (Lz.hsh b 0:Nat)∧w=w'):=by
 obtain ⟨a,c,rfl,h1,h2⟩:=hr.len h
 have ht:=(hr.to hl c oQ (Nat.le_refl c)).rd w h
 have hs:sliced a 0 4 c 1 = .slice (if c=0 then a else a.map (·.add (0 * 1))) 4 c:=rfl
 rw [hs]at ht
 have hg:=get4_r (b.take 4) (by rw [List.length_take];omega) _ c ht
 have hrun:∀ w,(Instr.sliceAt 27 (.slice a b.length c) none (some (.int .i64 4)) none).run Tryz.prog w = .ok (.slice (if c=0 then a else a.map (·.add (0 * 1))) 4 c) w:=fun w=>run_slT (k:=4) oQ w
 have hlt:Frm.num (b.take 4)<4294967296:=by
  have h3:=Frm.num_lt (b.take 4)
  have h4:(b.take 4).length=4:=by rw [List.length_take];omega
  rw [h4]at h3
  exact h3
 have Hn:=uQ (show Lz.hsh b 0=Frm.num (b.take 4) * 2654435761%4294967296 / 1048576 from rfl)
 generalize Frm.num (b.take 4)=X at *
 obtain ⟨Y,hY⟩:∃ Y,X * 2654435761%4294967296=Y:=⟨_,rfl⟩
 obtain ⟨Z,hZ⟩:∃ Z,Y / 1048576=Z:=⟨_,rfl⟩
 have x1:IntKind.u32.wrap (X:Int)=(X:Int):=by rw [IntKind.wrap_u32];omega
 have x2:(X:Int)%4294967296=(X:Int):=oQ
 have x3:IntKind.u32.wrap ((X:Int) * 2654435761)=(Y:Int):=by rw [IntKind.wrap_u32];omega
 have x4:(Y:Int) / 1048576=(Z:Int):=oQ
 rw [hY,hZ]at Hn
 generalize (if c=0 then a else a.map (·.add (0 * 1)))=a2 at *
 clear hr h ht hs hlt hY hZ h1 h2 hl
 go_enter Tryz.func135,Tryz.ntmps135
 go_wp2_with ((with_reducible refine at_slT ⟨?_⟩);refine wl_slT rFz rFz hrun ?_)
 refine hg.mono ?_
 rintro ee w1 ⟨v,rfl,rfl,rfl⟩
 clear hg hrun
 go_wp2
 go_ret
 exact ⟨_,rfl,by rw [Hn.out];rfl,rfl⟩
set_option maxRecDepth 20000 in
theorem common_c {c i e:Nat} (hl:b.length≤1000000) (hc:c≤i) (he:e≤b.length) (hi:i≤b.length) (hr:RS w0 F bv b) (h:Sat w0 w F) :
  Calls Tryz.prog 136 #[bv,.int .i64 c,.int .i64 i,.int .i64 e] w (Rtn fun v w'=>v = .int .i64 (Lz.common b c i e b.length 0:Nat)∧Sat w0 w' F):=by
 obtain ⟨ba,bc,rfl,h1,h2⟩:=hr.len h
 have Hr:=uQ hr;have Hp:=uQ (And.intro hl (And.intro hc (And.intro he hi)))
 clear hr hl hc he hi h1 h2
 go_enter Tryz.func136,Tryz.ntmps136
 go_wp2_with fail
 go_loopg [9] b.length (fun g kq wr=>∃ (f k:Nat),f=g∧f+k=b.length∧kq = .int .i64 k∧Lz.common b c i e b.length 0=Lz.common b c i e f k∧Sat w0 wr F)
 case atStart=>exact ⟨b.length,0,rfl,rfl,rfl,rfl,h⟩
 case round=>
  obtain ⟨f,k,rfl,hfk,rfl,heq,hS⟩:=hrel
  clear h
  obtain ⟨p1,p2,p3,p4⟩:=Hp.out
  obtain ⟨u,hu⟩:∃ u,i+k=u:=⟨_,rfl⟩
  obtain ⟨v,hv⟩:∃ v,c+k=v:=⟨_,rfl⟩
  have a1:IntKind.i64.wrap ((i:Int)+(k:Int))=(u:Int):=by rw [IntWalk.i64_in _ oQ];omega
  have a2:IntKind.i64.wrap ((c:Int)+(k:Int))=(v:Int):=by rw [IntWalk.i64_in _ oQ];omega
  have a3:IntKind.i64.wrap ((k:Int)+1)=((k+1:Nat):Int):=by rw [IntWalk.i64_in _ oQ];omega
  by_cases hik:u<e
  ·obtain ⟨f,rfl⟩:∃ g,f=g+1:=⟨f - 1,by omega⟩
   have g1:(bys b)[v]?=some (.int .u8 (b.getD v 0).toNat):=bys_get.2 ⟨_,by rw [List.getD_eq_getElem?_getD,List.getElem?_eq_getElem (show v<b.length by omega)];rfl,rfl⟩
   have g2:(bys b)[u]?=some (.int .u8 (b.getD u 0).toNat):=bys_get.2 ⟨_,by rw [List.getD_eq_getElem?_getD,List.getElem?_eq_getElem (show u<b.length by omega)];rfl,rfl⟩
   obtain ⟨bk,off,rfl,hcs⟩:=rdsl_cells (Hr.out.rd _ hS.drew) g1
   have e1:=hcs _ _ g1
   have e2:=hcs _ _ g2
   have hq:(((b.getD v 0).toNat:Int)==((b.getD u 0).toNat:Int))=decide (b.getD v 0=b.getD u 0):=by
    rw [Bool.eq_iff_iff,beq_iff_eq,decide_eq_true_eq]
    constructor
    ·intro q;exact UInt8.toNat_inj.1 oQ
    ·intro q;rw [q]
   have hst:Lz.common b c i e (f+1) k=if b.getD v 0=b.getD u 0 then Lz.common b c i e f (k+1) else k:=by
    rw [Lz.common,hu,hv]
    by_cases q:b.getD v 0=b.getD u 0
    ·rw [if_pos ⟨hik,q⟩,if_pos q]
    ·rw [if_neg (fun x=>q x.2),if_neg q]
   have c1:(u:Int)<(e:Int):=oQ
   have c1d:decide ((u:Int)<(e:Int))=true:=decide_eq_true c1
   have b1:(v:Int)<(b.length:Int):=oQ
   have b2:(u:Int)<(b.length:Int):=oQ
   have hfk2:=uQ (show f+(k+1)=b.length by omega)
   have Heq:=uQ (heq.trans hst)
   generalize b.getD v 0=x1 at *
   generalize b.getD u 0=x2 at *
   have hS2:=hS.drew
   have hG:World.cell? _ ⟨bk,off+v,none⟩=some (.int .u8 x1.toNat)∧World.cell? _ ⟨bk,off+u,none⟩=some (.int .u8 x2.toNat):=⟨e1,e2⟩
   clear g1 g2 hcs hst heq hS e1 e2 p1 p2 p3 p4 hik hfk hu hv
   by_cases hx:x1=x2
   ·rw [decide_eq_true hx]at hq
    rw [if_pos hx]at Heq
    clear hx
    go_wp2_with fail
    refine wpL_begin [] (fun w'=>w'.cell? ⟨bk,off+v,none⟩=some (.int .u8 x1.toNat)∧w'.cell? ⟨bk,off+u,none⟩=some (.int .u8 x2.toNat)) kRz ?_
    refine rP 0 ?_ (y:=mvQ)
    refine rP 1 ?_ (y:=mvQ)
    refine rP 2 ?_ (y:=bnQ)
    refine rP 3 ?_ (y:=mvQ)
    refine rP 4 ?_ (y:=bnQ)
    refine rP 5 ?_ (y:=mvQ)
    refine rP 6 ?_ (y:=(yg_move rFz evD))
    refine rP 7 ?_ (y:=(yg_move rFz evD))
    refine rP 8 ?_ (y:=(yg_move rFz evD))
    refine rP 9 ?_ (y:=(yg_bin rFz evD evD rnD))
    refine rP 10 ?_ (y:=(yg_index rFz evD evD rnD))
    refine rg_take 11 evD kRz i3z (tg_load rFz evD kRz (by intro wq hq;first|exact hq|exact hq.1|exact hq.2|exact hq.2.1|exact hq.2.2|exact hq.2.2.1|exact hq.2.2.2|exact hq.2.2.2.1|exact hq.2.2.2.2)) aQ gQ ?_
    refine rP 12 ?_ (y:=(yg_move rFz evD))
    refine rP 13 ?_ (y:=(yg_move rFz evD))
    refine rP 14 ?_ (y:=(yg_move rFz evD))
    refine rP 15 ?_ (y:=(yg_bin rFz evD evD rnD))
    refine rP 16 ?_ (y:=(yg_index rFz evD evD rnD))
    refine rg_take 17 evD kRz i3z (tg_load rFz evD kRz (by intro wq hq;first|exact hq|exact hq.1|exact hq.2|exact hq.2.1|exact hq.2.2|exact hq.2.2.1|exact hq.2.2.2|exact hq.2.2.2.1|exact hq.2.2.2.2)) aQ gQ ?_
    clear hG
    refine rP 18 ?_ (y:=(yg_bin rFz evD evD rnD))
    refine rP 19 ?_ (y:=(yg_pick rFz evD evD))
    refine wpL_done kRz ?_
    go_wp2_with fail
    go_roundg f
    case measure=>exact Nat.lt_succ_self f
    case rel=>exact ⟨f,k+1,rfl,hfk2.out,by first|rfl|go_num,Heq.out,hS2⟩
   ·rw [decide_eq_false hx]at hq
    rw [if_neg hx]at Heq
    clear hx
    go_wp2_with fail
    refine wpL_begin [] (fun w'=>w'.cell? ⟨bk,off+v,none⟩=some (.int .u8 x1.toNat)∧w'.cell? ⟨bk,off+u,none⟩=some (.int .u8 x2.toNat)) kRz ?_
    refine rP 0 ?_ (y:=mvQ)
    refine rP 1 ?_ (y:=mvQ)
    refine rP 2 ?_ (y:=bnQ)
    refine rP 3 ?_ (y:=mvQ)
    refine rP 4 ?_ (y:=bnQ)
    refine rP 5 ?_ (y:=mvQ)
    refine rP 6 ?_ (y:=(yg_move rFz evD))
    refine rP 7 ?_ (y:=(yg_move rFz evD))
    refine rP 8 ?_ (y:=(yg_move rFz evD))
    refine rP 9 ?_ (y:=(yg_bin rFz evD evD rnD))
    refine rP 10 ?_ (y:=(yg_index rFz evD evD rnD))
    refine rg_take 11 evD kRz i3z (tg_load rFz evD kRz (by intro wq hq;first|exact hq|exact hq.1|exact hq.2|exact hq.2.1|exact hq.2.2|exact hq.2.2.1|exact hq.2.2.2|exact hq.2.2.2.1|exact hq.2.2.2.2)) aQ gQ ?_
    refine rP 12 ?_ (y:=(yg_move rFz evD))
    refine rP 13 ?_ (y:=(yg_move rFz evD))
    refine rP 14 ?_ (y:=(yg_move rFz evD))
    refine rP 15 ?_ (y:=(yg_bin rFz evD evD rnD))
    refine rP 16 ?_ (y:=(yg_index rFz evD evD rnD))
    refine rg_take 17 evD kRz i3z (tg_load rFz evD kRz (by intro wq hq;first|exact hq|exact hq.1|exact hq.2|exact hq.2.1|exact hq.2.2|exact hq.2.2.1|exact hq.2.2.2|exact hq.2.2.2.1|exact hq.2.2.2.2)) aQ gQ ?_
    clear hG
    refine rP 18 ?_ (y:=(yg_bin rFz evD evD rnD))
    refine rP 19 ?_ (y:=(yg_pick rFz evD evD))
    refine wpL_done kRz ?_
    go_wp2_with fail
    go_ret
    exact ⟨_,rfl,by rw [Heq.out];rfl,hS2⟩
  ·have c1:¬ (u:Int)<(e:Int):=by omega
   have c1d:decide ((u:Int)<(e:Int))=false:=decide_eq_false c1
   have c1n:decide (u<e)=false:=decide_eq_false hik
   have Heq:=uQ (show Lz.common b c i e b.length 0=k by
    rw [heq]
    cases f with
    |zero=>rfl
    |succ f=>rw [Lz.common,hu,if_neg (fun x=>hik x.1)])
   have hS2:=hS.drew
   clear p1 p2 p3 p4 heq hik hS hu hv
   have hG:True:=trivial
   go_wp2_with fail
   refine wpL_begin [] (fun _=>True) kRz ?_
   refine rP 0 ?_ (y:=mvQ)
   refine rP 1 ?_ (y:=mvQ)
   refine rP 2 ?_ (y:=bnQ)
   refine rP 3 ?_ (y:=mvQ)
   refine rP 4 ?_ (y:=bnQ)
   refine rP 5 ?_ (y:=mvQ)
   refine rg_skip 6 evD kRz i3z rFz gQ ?_
   refine rg_skip 7 evD kRz i3z rFz gQ ?_
   refine rg_skip 8 evD kRz i3z rFz gQ ?_
   refine rg_skip 9 evD kRz i3z rFz gQ ?_
   refine rg_skip 10 evD kRz i3z rFz gQ ?_
   refine rg_skip 11 evD kRz i3z rFz gQ ?_
   refine rg_skip 12 evD kRz i3z rFz gQ ?_
   refine rg_skip 13 evD kRz i3z rFz gQ ?_
   refine rg_skip 14 evD kRz i3z rFz gQ ?_
   refine rg_skip 15 evD kRz i3z rFz gQ ?_
   refine rg_skip 16 evD kRz i3z rFz gQ ?_
   refine rg_skip 17 evD kRz i3z rFz gQ ?_
   refine rg_skip 18 evD kRz i3z rFz gQ ?_
   refine rP 19 ?_ (y:=(yg_pick rFz evD evD))
   refine wpL_done kRz ?_
   go_wp2_with fail
   go_ret
   exact ⟨_,rfl,by rw [Heq.out];rfl,hS2⟩
set_option maxRecDepth 20000 in
theorem lzmore_c {n:Nat} (hn:15≤n) (hn2:n<270) (ho:out.length≤1000000) (h:Sat w0 w (pt p (.cells #[ov] 234 (0,0))::bsl ov out::F)) :
  Calls Tryz.prog 174 #[ptr p,.int .i64 n] w (Rtn fun _ w'=>∃ v',Sat w0 w' (pt p (.cells #[v'] 234 (0,0))::bsl v' (out++Lz.tail4 n)::F)):=by
 obtain ⟨oa,on,oc,rfl,x1,x2,x3⟩:=bsl_cap' h.pick1
 clear x1 x2 x3
 have Ho:=uQ ho
 have Ht:=uQ (show Lz.tail4 n=[UInt8.ofNat (n - 15)] by rw [Lz.tail4_small hn2,if_pos hn])
 have hw1:IntKind.i64.wrap ((n:Int) - 15)=((n - 15:Nat):Int):=by rw [IntWalk.i64_in _ oQ];omega
 have hc8:((n - 15:Nat):Int)%256=((UInt8.ofNat (n - 15)).toNat:Int):=by rw [UInt8.toNat_ofNat'];omega
 have hc9:IntKind.u8.wrap ((n - 15:Nat):Int)=((UInt8.ofNat (n - 15)).toNat:Int):=by rw [IntKind.wrap_u8];exact hc8
 have c1:¬ (255:Int)≤((n - 15:Nat):Int):=oQ
 generalize UInt8.ofNat (n - 15)=c at *
 generalize n - 15=m at *
 clear ho hn hn2
 go_enter Tryz.func174,Tryz.ntmps174
 go_wp2_with fail
 clear hw1
 go_loopg [1] 0 (fun g iq wr=>g=0∧iq = .int .i64 m∧wr=w)
 case atStart=>exact ⟨rfl,rfl,rfl⟩
 case round=>
  obtain ⟨rfl,rfl,rfl⟩:=hrel
  have e0:wr.cell? ⟨p,0,none⟩=some (.slice oa on oc):=h.cellP pick0 0 rfl
  go_wp2_with (first
   |((with_reducible refine at_build1 ⟨?_⟩);refine wl_build1 (e:=5) (sz:=1) (by':=1) kRz h rFz (cs:=#[.int .u8 c.toNat]) rfl rfl nLz ?_;intro bN wN hN)
   |(with_reducible apply at_append))
  refine ⟨wl_app 5 1 1 kRz hN rFz rFz (xs:=bys out) pick2 pick0 rFz (Nat.le_refl 1) rFz (by rw [bys_len];have:=Ho.out;omega) (by show 1≤65536;decide) dCz (ys:=bys [c]) rfl ?_⟩
  intro bA nA cA wA hA
  clear hN e0 h
  rw [← bys_append]at hA
  go_wp2_with (with_reducible apply at_store)
  refine ⟨wl_store (cs':=#[.slice (some ⟨bA,0,none⟩) nA cA]) (hA.sb:Sat w0 wA (pt p (.cells #[.slice oa on oc] 234 (0,0))::bsl (.slice (some ⟨bA,0,none⟩) nA cA) (out++[c])::F)) rFz evD rFz upd0 nLz kRz rFz ?_⟩
  intro w3 h3
  go_wp2_with fail
  go_end0
  exact ⟨_,rfl,_,by rw [Ht.out];exact h3⟩
end
end Go.Proofs.YtlimfgdbfadohaaGreatDoor
