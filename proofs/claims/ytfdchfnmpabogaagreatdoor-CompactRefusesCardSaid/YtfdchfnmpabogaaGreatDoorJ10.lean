import Derived.Test.YtfdchfnmpabogaaGreatDoorJ9
import Derived.Laws.StructEq
set_option linter.unusedVariables false
set_option maxHeartbeats 128000000
namespace Go.Proofs.YtfdchfnmpabogaaGreatDoor
open Go Go.Sl Go.Med Go.MapKept Go.RowKit
abbrev rpPt (r m:Nat) (seg:Int) (p ps pn:Nat) (d:Bool):HProp:=pt r (.cells #[ptr m,.int .i64 seg,ptr p,ptr ps,ptr pn,.bool d] 42 (0,0))
section
variable {w0 w:World}{F:List HProp}{p m K r ps pn:Nat}{L:Seg.Log}{M:Med}{limit:Int}
theorem newestE_c (hM:M.Ok K) (hl:M.list=[]) (h:Sat w0 w (MedRep m M::F)):Calls Tryz.prog 70 #[ptr m] w (Rtn fun v w'=>v = .int .i64 (-1)∧Sat w0 w' (MedRep m M::F)):=by
 have hls:=list_c hM h
 go_enter Tryz.func70,Tryz.ntmps70
 go_wp2_with fail
 refine hls.mono ?_
 rintro e w1 ⟨v,rfl,hS,a,n,c,rfl⟩
 clear hls
 have hn:n=0:=by
  obtain ⟨_,_,_,he,hl2,_⟩:=Sat.rd hS
  cases he
  rw [hl]at hl2
  simpa [strs] using hl2.symm
 subst hn
 go_wp2_with fail
 go_loopg [3,11] 0 (fun g lv iq wr=>lv = .int .i64 (-1)∧iq = .int .i64 0∧wr=w1)
 case atStart=>exact ⟨rfl,rfl,rfl⟩
 case round=>
  obtain ⟨rfl,rfl,rfl⟩:=hrel
  go_wp2
  go_ret
  exact ⟨_,rfl,rfl,hS.drop⟩
theorem runOut0 {bt:Rep.Told}{v:Value} (h:RunOut w0 F bt [] p m L M v w):∃ (ps pi:Nat) (uv tv:Value),v = .tuple #[ptr ps,.agg (fltA Rep.Flt.zero),errno 0]∧(∃ a c,tv = .slice a 0 c) ∧
  Sat w0 w (stPt ps (-1) pi uv tv::TabML pi (fun _=>none) 0::osl 132 3 uv []::LogRep p m L::MedRep m M::F):=by
 have hr:Rep.run bt [] = .inr 0:=rfl
 unfold RunOut at h
 rw [hr]at h
 obtain ⟨ps,pi,uv,tv,av,kv,rfl,⟨_,_,hk⟩,⟨⟨a',c',rfl⟩,_⟩,hS⟩:=h
 obtain rfl:kv=[]:=List.length_eq_zero_iff.1 (Nat.le_zero.1 hk)
 exact ⟨ps,pi,uv,_,rfl,⟨a',c',rfl⟩,hS.sb⟩
set_option maxRecDepth 20000 in
theorem found0_c (hL:L.Ok) (hs:L.segs=[]) (hM:M.Ok K) (hl:M.list=[]) (hH:Ro w0 F Half) (h:Sat w0 w (LogRep p m L::MedRep m M::F)) :
  Calls Tryz.prog 35 #[ptr p,ptr m] w (Rtn fun v w'=>∃ (ps pi:Nat) (uv tv:Value),v = .tuple #[ptr ps,.agg (fltA Rep.Flt.zero),errno 0]∧(∃ a c,tv = .slice a 0 c) ∧
   Sat w0 w' (stPt ps (-1) pi uv tv::TabML pi (fun _=>none) 0::osl 132 3 uv []::LogRep p m L::MedRep m M::F)):=by
 have HL:=uQ hL;have Hs:=uQ hs;have HM:=uQ hM;have Hl:=uQ hl;have HH:=uQ hH
 clear hL hs hM hl hH
 go_enter Tryz.func35,Tryz.ntmps35
 go_wp2_with (with_reducible apply at_alloc)
 refine ⟨wl_alloc zFlt h rfl ?_⟩
 intro b5 w5 h5
 have hla:=last_c (F:=pt b5 (.cells (fltA Rep.Flt.zero) 52 (0,0))::F) HL.out HM.out (Ro.os HH.out) (h5.sb:Sat w0 w5 (LogRep p m L::MedRep m M::pt b5 (.cells (fltA Rep.Flt.zero) 52 (0,0))::F))
 rw [Hs.out,show Rep.lastOf (lbt L M) []=(-1,0) from rfl]at hla
 clear h h5
 go_wp2_with fail
 refine hla.mono ?_
 rintro ee w6 ⟨v,rfl,rfl,h6⟩
 clear hla
 go_wp2_with fail
 refine (newestE_c HM.out Hl.out (h6.sb:Sat w0 w6 (MedRep m M::LogRep p m L::pt b5 (.cells (fltA Rep.Flt.zero) 52 (0,0))::F))).mono ?_
 rintro ee w7 ⟨v,rfl,rfl,h7⟩
 clear h6
 have hru:=run_c (F:=pt b5 (.cells (fltA Rep.Flt.zero) 52 (0,0))::F) HL.out HM.out (Ro.os HH.out) (by rw [Hs.out];exact Nat.zero_le _) (by rw [Hs.out];intro r hr;cases hr) (h7.sb:Sat w0 w7 (LogRep p m L::MedRep m M::pt b5 (.cells (fltA Rep.Flt.zero) 52 (0,0))::F))
 clear h7
 go_wp2_with fail
 refine hru.mono ?_
 rintro ee w8 ⟨v,rfl,h8⟩
 clear hru
 rw [Hs.out]at h8
 obtain ⟨ps,pi,uv,tv,rfl,htv,h9⟩:=runOut0 h8
 clear h8
 have h10:Sat w0 w8 (pt b5 (.cells (fltA Rep.Flt.zero) 52 (0,0))::stPt ps (-1) pi uv tv::TabML pi (fun _=>none) 0::osl 132 3 uv []::LogRep p m L::MedRep m M::F):=h9.sb
 clear h9
 go_wp2_with ((with_reducible refine at_store ⟨?_⟩);refine wl_storeA (fltA Rep.Flt.zero) h10 rFz rFz rFz upd0 kRz rFz ?_;intro w11 h11)
 refine ⟨rfl,_,res_tct rfl h11 rFz pick0 Tryz.underlying52 rfl kRz,_,rfl,ps,pi,uv,tv,rfl,htv,h11.drop⟩
theorem plRepo:placesB Tryz.prog 42=some [(0,1),(1,1),(2,1),(3,1),(4,1),(5,1)]:=by kernel_rfl
theorem zRepo:zeroB Tryz.prog 42=some (.agg #[.pointer none,.int .i64 0,.pointer none,.pointer none,.pointer none,.bool false]):=by kernel_rfl
theorem run_repo5 (seg:Int) (w:World):(Instr.build 42 #[(0,ptr m),(1,.int .i64 seg),(2,ptr p),(3,ptr ps),(4,ptr pn)]).run Tryz.prog w = .ok (.agg #[ptr m,.int .i64 seg,ptr p,ptr ps,ptr pn,.bool false]) w:=
 run_build (P:=Tryz.prog) [(0,ptr m),(1,.int .i64 seg),(2,ptr p),(3,ptr ps),(4,ptr pn)] plRepo zRepo (by
  intro q hq
  simp only [List.mem_cons,List.not_mem_nil,or_false]at hq
  rcases hq with rfl|rfl|rfl|rfl|rfl
  ·exact ⟨0,rfl,by show 0+1≤6;decide⟩
  ·exact ⟨1,rfl,by show 1+1≤6;decide⟩
  ·exact ⟨2,rfl,by show 2+1≤6;decide⟩
  ·exact ⟨3,rfl,by show 3+1≤6;decide⟩
  ·exact ⟨4,rfl,by show 4+1≤6;decide⟩) w
set_option maxRecDepth 20000 in
theorem ropenG_c {ι:Type}{N:Int} (mi:ι→Frm.Bs→Option Seg.Plc) (Bf:ι→Nat) (uf:ι→List Rep.Use) (Q:ι→Prop) (h1:128≤limit) (h2:limit≤1048576) (hM:M.Ok K) (hK:K≤1048576) (ha:Seg.alive M=0) (hB:∀ x,Q x→Bf x≤14000000)
  (hfd:∀ (p b5:Nat) (w':World),Sat w0 w' (LogRep p m (Seg.fresh M limit)::MedRep m M::pt b5 (.cells (fltA Rep.Flt.zero) 52 (0,0))::F)→Calls Tryz.prog 35 #[ptr p,ptr m] w' (Rtn fun v w''=>∃ (ps pi:Nat) (uv tv:Value) (x:ι),v = .tuple #[ptr ps,.agg (fltA Rep.Flt.zero),errno 0]∧(∃ a c,tv = .slice a 0 c)∧Q x ∧
   Sat w0 w'' (stPt ps N pi uv tv::TabML pi (mi x) (Bf x)::osl 132 3 uv ((uf x).flatMap uenc)::LogRep p m (Seg.fresh M limit)::MedRep m M::pt b5 (.cells (fltA Rep.Flt.zero) 52 (0,0))::F)))
  (h:Sat w0 w (MedRep m M::F)) :
  Calls Tryz.prog 16 #[ptr m,.int .i64 limit] w (Rtn fun v w'=>∃ (r p ps pi pn:Nat) (uv:Value) (x:ι),v = .tuple #[ptr r,.agg (fltA Rep.Flt.zero),errno 0]∧Q x ∧
   Sat w0 w' (rpPt r m limit p ps pn false::stPt ps N pi uv (.slice none 0 0)::TabML pn (mi x) (Bf x)::TabML pi (mi x) (Bf x)::osl 132 3 uv ((uf x).flatMap uenc)::LogRep p m (Seg.fresh M limit)::MedRep m M::F)):=by
 have HL:=uQ (Seg.fresh_ok hM limit h1 h2)
 have Hop:=uQ (fun (w':World) (R:List HProp) (hw:Sat w0 w' (MedRep m M::R))=>open_c hM limit hw ha h1 h2)
 generalize Seg.fresh M limit=L at *
 have HM:=uQ hM;have HK:=uQ hK;have HB:=uQ hB;have Hfd:=uQ hfd
 clear h1 h2 hM hK ha hB hfd
 go_enter Tryz.func16,Tryz.ntmps16
 go_wp2_with (with_reducible apply at_alloc)
 refine ⟨wl_alloc zFlt h rfl ?_⟩
 intro b5 w5 h5
 go_wp2_with fail
 refine (Hop.out _ _ (h5.sb:Sat w0 w5 (MedRep m M::pt b5 (.cells (fltA Rep.Flt.zero) 52 (0,0))::F))).mono ?_
 rintro ee w6 ⟨v,rfl,p,rfl,h6⟩
 clear h h5
 go_wp2_with fail
 refine (Hfd.out p b5 _ h6).mono ?_
 rintro ee w7 ⟨v,rfl,ps,pi,uv,tv,x,rfl,⟨ta,tc,rfl⟩,hq,h7⟩
 have Hq:=uQ hq
 have HBx:=uQ (HB.out x hq)
 clear h6 hq
 go_wp2_with (with_reducible apply at_alloc)
 refine ⟨wl_alloc zFlt h7 rfl ?_⟩
 intro b10 w8 h8
 clear h7
 go_wp2_with (with_reducible apply at_store)
 refine ⟨wl_storeA (fltA Rep.Flt.zero) h8 rFz rFz rFz upd0 kRz rFz ?_⟩
 intro w9 h9
 clear h8
 replace h9:Sat w0 w9 (LogRep p m L::MedRep m M::stPt ps N pi uv (.slice ta 0 tc)::TabML pi (mi x) (Bf x)::osl 132 3 uv ((uf x).flatMap uenc)::pt b5 (.cells (fltA Rep.Flt.zero) 52 (0,0))::F):=h9.sb
 go_wp2_with ((with_reducible refine at_load ⟨?_⟩);refine wl_load1 aQ rFz pkD nLz evD kRz ?_)
 have hdr:=drop_c (tv:= .slice ta 0 tc) [] (Nat.zero_le _) HL.out HM.out HK.out (fun w _=>rdsl_nil 1 0 w |> fun _=>⟨ta,0,tc,rfl,rfl,fun j x hj=>by cases hj⟩) h9
 rw [show ([]:List Int).length=0 from rfl,Seg.drop_nil rfl]at hdr
 refine hdr.mono ?_
 rintro ee w10 ⟨v,rfl,rfl,h10⟩
 clear hdr h9
 go_wp2_with (with_reducible apply at_store)
 refine ⟨wl_store (cs':=#[.int .i64 N,ptr pi,uv,.slice none 0 0]) h10 rFz rFz rFz upd2 nLz kRz rFz ?_⟩
 intro w11 h11
 replace h11:Sat w0 w11 (TabML pi (mi x) (Bf x)::stPt ps N pi uv (.slice none 0 0)::LogRep p m L::MedRep m M::osl 132 3 uv ((uf x).flatMap uenc)::pt b5 (.cells (fltA Rep.Flt.zero) 52 (0,0))::F):=h11.sb
 clear h10
 go_wp2_with ((with_reducible refine at_load ⟨?_⟩);refine wl_load1 h11 rFz pick1 nLz evD kRz ?_)
 refine (copyL_c HBx.out h11).mono ?_
 rintro ee w12 ⟨v,rfl,pn,rfl,h12⟩
 clear h11
 go_wp2_with (first
  |((with_reducible apply ug_at_build);refine ⟨?_⟩;first|refine wl_bld rFz (run_repo5 limit) ?_|refine wl_bld rFz run_flt0 ?_)
  |((with_reducible refine at_box ⟨?_⟩);refine wl_box h12 rFz rFz ?_;intro r w13 h13)
  |(with_reducible apply at_store))
 refine ⟨wl_storeA (fltA Rep.Flt.zero) (h13.sb:Sat w0 w13 (pt b5 (.cells (fltA Rep.Flt.zero) 52 (0,0))::rpPt r m limit p ps pn false::stPt ps N pi uv (.slice none 0 0)::TabML pn (mi x) (Bf x)::TabML pi (mi x) (Bf x)::osl 132 3 uv ((uf x).flatMap uenc)::LogRep p m L::MedRep m M::F)) rFz rFz rFz upd0 kRz rFz ?_⟩
 intro w14 h14
 go_wp2_with fail
 refine ⟨rfl,_,res_tct rfl h14 rFz pick0 Tryz.underlying52 rfl kRz,_,rfl,r,p,ps,pi,pn,uv,x,rfl,Hq.out,h14.drop⟩
theorem ropen0_c (h1:128≤limit) (h2:limit≤1048576) (hM:M.Ok K) (hK:K≤1048576) (ha:Seg.alive M=0) (hf:(Seg.fresh M limit).segs=[]) (hl:M.list=[]) (hH:Ro w0 F Half) (h:Sat w0 w (MedRep m M::F)) :
  Calls Tryz.prog 16 #[ptr m,.int .i64 limit] w (Rtn fun v w'=>∃ (r p ps pi pn:Nat) (uv:Value),v = .tuple #[ptr r,.agg (fltA Rep.Flt.zero),errno 0] ∧
   Sat w0 w' (rpPt r m limit p ps pn false::stPt ps (-1) pi uv (.slice none 0 0)::TabML pn (fun _=>none) 0::TabML pi (fun _=>none) 0::osl 132 3 uv []::LogRep p m (Seg.fresh M limit)::MedRep m M::F)):=by
 refine (ropenG_c (ι:=Unit) (N:= -1) (fun _ _=>none) (fun _=>0) (fun _=>[]) (fun _=>True) h1 h2 hM hK ha (fun _ _=>by decide) (fun p b5 w' hw=>?_) h).mono ?_
 ·refine (found0_c (Seg.fresh_ok hM limit h1 h2) hf hM hl (Ro.os hH) hw).mono ?_
  rintro e w' ⟨v,rfl,ps,pi,uv,tv,rfl,htv,hS⟩
  exact ⟨_,rfl,ps,pi,uv,tv,(),rfl,htv,trivial,hS⟩
 ·rintro e w' ⟨v,rfl,r,p,ps,pi,pn,uv,_,rfl,_,hS⟩
  exact ⟨_,rfl,r,p,ps,pi,pn,uv,rfl,hS⟩
theorem rokY_c {seg:Int}{d:Bool} (h:Sat w0 w (rpPt r m seg p ps pn d::F)):Calls Tryz.prog 18 #[ptr r] w (Rtn fun v w'=>v = .bool true∧w=w'):=by
 have e2:w.cell? ⟨r,2,none⟩=some (.pointer (some ⟨p,0,none⟩)):=h.cellAt 2 _ rfl
 go_enter Tryz.func18,Tryz.ntmps18
 go_wp2
 go_ret
 exact ⟨_,rfl,rfl,rfl⟩
end
end Go.Proofs.YtfdchfnmpabogaaGreatDoor
namespace Go.Tab
theorem count_one {α:Type} (p:α→Bool):∀ (s:List α) (i:Nat),i<s.length→(∀ j x,s[j]?=some x→(p x=true↔j=i))→s.countP p=1
 |[],i,h,_=>absurd h (Nat.not_lt_zero _)
 |x::s,0,_,h=>by
  have h0:p x=true:=(h 0 x rfl).2 rfl
  have h1:s.countP p=0:=List.countP_eq_zero.2 fun y hy hp=>by
   obtain ⟨j,hj,rfl⟩:=List.getElem_of_mem hy
   have:=(h (j+1) s[j] (by rw [List.getElem?_cons_succ,List.getElem?_eq_getElem hj])).1 hp
   omega
  rw [List.countP_cons,h0,h1];rfl
 |x::s,i+1,hl,h=>by
  have h0:p x=false:=by
   cases hx:p x with
   |false=>rfl
   |true=>have:=(h 0 x rfl).1 hx;omega
  rw [List.countP_cons,h0,count_one p s i (by simpa using hl) fun j y hy=>by rw [h (j+1) y (by rw [List.getElem?_cons_succ];exact hy)];omega];rfl
theorem one_len {V:Type}{t:Tb V}{k:Frm.Bs}{v:V} (h:t.Ok) (hi:t.Is (put (fun _=>none) k v)):t.n=1:=by
 rw [h.n]
 have hk:Has t.slots k v:=(hi k v).2 (by unfold put;rw [if_pos rfl])
 obtain ⟨i,x,hx,h1,hxk,_⟩:=hk
 refine count_one _ t.slots i (List.getElem?_eq_some_iff.1 hx).1 fun j y hy=>?_
 constructor
 ·intro hp
  have hy1:y.st=1:=by simpa using hp
  have hyk:y.key=k:=by
   have:=(hi y.key y.val).1 ⟨j,y,hy,hy1,rfl,rfl⟩
   unfold put at this
   split at this
   ·assumption
   ·cases this
  exact h.good.one hy hx hy1 h1 (hyk.trans hxk.symm)
 ·rintro rfl
  rw [hx]at hy
  cases hy
  simpa using h1
end Go.Tab
namespace Go.Proofs.YtfdchfnmpabogaaGreatDoor
open Go Go.Sl Go.Med Go.MapKept Go.RowKit
section
variable {w0 w:World}{F:List HProp}{p m K r ps pn B:Nat}{L:Seg.Log}{M:Med}{seg:Int}{d:Bool}{k:Frm.Bs}{mp:Frm.Bs→Option Seg.Plc}
theorem rlen_c (h:Sat w0 w (rpPt r m seg p ps pn d::TabML pn mp B::F)) :
  Calls Tryz.prog 10 #[ptr r] w (Rtn fun v w'=>∃ t:Tab.Tb Seg.Plc,(t.Ok∧t.Is mp)∧v = .int .i64 t.n∧w=w'):=by
 have hok:=rokY_c h
 have hle:=lenL_c (h.sb:Sat w0 w (TabML pn mp B::rpPt r m seg p ps pn d::F))
 have e4:w.cell? ⟨r,4,none⟩=some (.pointer (some ⟨pn,0,none⟩)):=h.cellAt 4 _ rfl
 clear h
 go_enter Tryz.func10,Tryz.ntmps10
 go_wp2_with fail
 refine hok.mono ?_
 rintro e w1 ⟨v,rfl,rfl,rfl⟩
 go_wp2_with fail
 refine hle.mono ?_
 rintro e w2 ⟨v,rfl,t,ht,rfl,rfl⟩
 go_wp2_with fail
 go_ret
 exact ⟨_,rfl,t,ht,rfl,rfl⟩
set_option maxRecDepth 20000 in
theorem rpput_c (hB:B≤134217000) (hk:k.length=32) (data:Frm.Bs) (da:Option Addr) (dc:Nat) (hd:Ro w0 F (rdsl 1 (.slice da data.length dc) (bys data))) (hLd:data.length≤1099511627) (hL:L.Ok) (hM:M.Ok K) (hKK:K+4≤1099511627776) (hH:Ro w0 F Half)
  (h0:(L.append M ⟨0,k,data⟩).2.2=0) (h:Sat w0 w (rpPt r m seg p ps pn d::TabML pn mp B::LogRep p m L::MedRep m M::F)) :
  Calls Tryz.prog 6 #[ptr r,.agg (bys k).toArray,.slice da data.length dc] w (Rtn fun v w'=>v=errno 0 ∧
   Sat w0 w' (rpPt r m seg p ps pn true::TabML pn (Tab.put mp k (L.append M ⟨0,k,data⟩).2.1) (B+1)::LogRep p m (L.append M ⟨0,k,data⟩).1.1::MedRep m (L.append M ⟨0,k,data⟩).1.2::F)):=by
 have hks:(bys k).length=32:=by rw [bys_len,hk]
 have hap:=uQ (fun (w':World) (R:List HProp) (hh:Ro w0 R Half) (hr:Ro w0 R (rdsl 1 (.slice da data.length dc) (bys data))) (hw:Sat w0 w' (LogRep p m L::MedRep m M::R))=>lappend_c ⟨0,k,data⟩ hk da dc hr hh hLd hL hM hKK hw)
 generalize L.append M ⟨0,k,data⟩=q at *
 obtain ⟨⟨L2,M2⟩,pc,e2⟩:=q
 dsimp only at h0 hap ⊢
 subst h0
 have HB:=uQ hB;have Hkey:=uQ hk;have Hks:=uQ hks;have Hd:=uQ hd;have HH:=uQ hH
 clear hB hk hks hd hLd hL hM hKK hH
 go_enter Tryz.func6,Tryz.ntmps6
 go_wp2_with (with_reducible apply at_box)
 refine ⟨wl_box h evD evD ?_⟩
 intro b4 w4 h4
 replace h4:Sat w0 w4 (pt b4 (.cells (bys k).toArray 23 (0,0))::rpPt r m seg p ps pn d::TabML pn mp B::LogRep p m L::MedRep m M::F):=h4
 clear h
 go_wp2_with fail
 refine (rokY_c (h4.sb:Sat w0 w4 (rpPt r m seg p ps pn d::pt b4 (.cells (bys k).toArray 23 (0,0))::TabML pn mp B::LogRep p m L::MedRep m M::F))).mono ?_
 rintro ee w5 ⟨v,rfl,rfl,rfl⟩
 go_wp2_with fail
 have h5:=h4.drew
 clear h4
 refine wpL_begin [7,8,9,10,12,13] (fun w'=>w'.cell? ⟨r,2,none⟩=some (.pointer (some ⟨p,0,none⟩))∧w'.rangeAt b4 0 (bys k)) kRz ?_
 have hGf:∀ (w':World) (R:List HProp) (dd:Bool),Sat w0 w' (pt b4 (.cells (bys k).toArray 23 (0,0))::rpPt r m seg p ps pn dd::R)→w'.cell? ⟨r,2,none⟩=some (.pointer (some ⟨p,0,none⟩))∧w'.rangeAt b4 0 (bys k):=fun w' R dd hw=>⟨hw.cellP pick1 2 rfl,fun j z hj=>by rw [Nat.zero_add];exact hw.cellP pick0 j (by rw [List.getElem?_toArray];exact hj)⟩
 have HGf:=uQ hGf
 have hG:=hGf _ _ _ h5
 clear hGf
 refine rP 0 ?_ (y:=mvQ)
 refine rP 1 ?_ (y:=nlQ)
 refine rP 2 ?_ (y:=flQ)
 refine rt 3 (h:=?_)
 refine rg_take 4 evD kRz i3z (tk_loadN (b:=b4) (o:=0) (bys k) rFz Tryz.underlying23 rfl (by rw [Hks.out];kernel_rfl) (fun w hw=>hw.2)) aQ gQ ?_
 clear hG
 refine rP 5 ?_ (y:=mvQ)
 refine rP 6 ?_ (y:=(yl_build3 evD evD evD (fun w=>run_buildEnt ⟨0,k,data⟩ Hkey.out da data.length dc w)))
 refine rg_eff2 7 11 evD evD kRz (fun K hK=>?_) (fun K hK=>?_)
 ·(refine eff_call2 kRz evD evD ?_)
  refine (hap.out _ _ (Ro.os HH.out) (Ro.os Hd.out) (h5.sb:Sat w0 _ (LogRep p m L::MedRep m M::pt b4 (.cells (bys k).toArray 23 (0,0))::rpPt r m seg p ps pn d::TabML pn mp B::F))).mono ?_
  rintro ee w6 ⟨v,rfl,rfl,h6⟩
  refine hK _ _ (.inl rfl) ?_
  clear hK hap h5
  refine rP 8 ?_ (y:=mvQ)
  refine rP 9 ?_ (y:=(yl_extract evD rnD))
  refine rP 10 ?_ (y:=(yl_extract evD rnD))
  refine rg_eff 11 evD kRz (fun K hK=>?_)
  refine eff_alloc (zValL) h6 rfl ?_
  intro b7 w7 h7
  refine hK _ _ (.inr (.inl (HGf.out _ _ _ (h7.sb:Sat w0 w7 (pt b4 (.cells (bys k).toArray 23 (0,0))::rpPt r m seg p ps pn d::TabML pn mp B::pt b7 (.cells (penc Seg.Plc.zero).toArray 57 (0,0))::LogRep p m L2::MedRep m M2::F))))) ?_
  clear hK h6
  have h8:Sat w0 w7 (pt b7 (.cells (penc Seg.Plc.zero).toArray 57 (0,0))::pt b4 (.cells (bys k).toArray 23 (0,0))::rpPt r m seg p ps pn d::TabML pn mp B::LogRep p m L2::MedRep m M2::F):=h7.sb
  clear h7
  refine rg_eff 12 evD kRz (fun K hK=>?_)
  refine eff_store (cs':=(penc pc).toArray) h8 evD evD rFz upd0 nLz kRz rFz ?_
  intro w9 h9
  refine hK _ _ (.inl rfl) ?_
  clear hK h8
  refine rP 13 ?_ (y:=asQ)
  refine wpL_done kRz ?_
  go_wp2_with fail
  have h10:=h9.drew
  clear h9
  replace h10:Sat w0 _ (pt b4 (.cells (bys k).toArray 23 (0,0))::rpPt r m seg p ps pn d::TabML pn mp B::pt b7 (.cells (penc pc).toArray 57 (0,0))::LogRep p m L2::MedRep m M2::F):=h10.sb
  refine wpL_begin [6] (fun w'=>w'.cell? ⟨r,4,none⟩=some (.pointer (some ⟨pn,0,none⟩))∧w'.rangeAt b4 0 (bys k)∧w'.rangeAt b7 0 (penc pc)) kRz ?_
  have hG:World.cell? _ ⟨r,4,none⟩=some (.pointer (some ⟨pn,0,none⟩))∧World.rangeAt _ b4 0 (bys k)∧World.rangeAt _ b7 0 (penc pc):=⟨h10.cellP pick1 4 rfl,fun j z hj=>by rw [Nat.zero_add];exact h10.cellP pick0 j (by rw [List.getElem?_toArray];exact hj),fun j z hj=>by rw [Nat.zero_add];exact h10.cellP pick3 j (by rw [List.getElem?_toArray];exact hj)⟩
  refine rP 0 ?_ (y:=mvQ)
  refine rP 1 ?_ (y:=nlQ)
  refine rP 2 ?_ (y:=flQ)
  refine rt 3 (h:=?_)
  refine rg_take 4 evD kRz i3z (tk_loadN (b:=b4) (o:=0) (bys k) rFz Tryz.underlying23 rfl (by rw [Hks.out];kernel_rfl) (fun w hw=>hw.2.1)) aQ gQ ?_
  refine rg_take 5 evD kRz i3z (tk_loadN (b:=b7) (o:=0) (penc pc) rFz Tryz.underlying57 rfl kRz (fun w hw=>hw.2.2)) aQ gQ ?_
  clear hG
  refine rg_eff 6 evD kRz (fun K hK=>?_)
  (refine eff_call3 kRz evD evD evD ?_)
  refine (putL_c HB.out Hkey.out pc (h10.sb:Sat w0 _ (TabML pn mp B::pt b4 (.cells (bys k).toArray 23 (0,0))::rpPt r m seg p ps pn d::pt b7 (.cells (penc pc).toArray 57 (0,0))::LogRep p m L2::MedRep m M2::F))).mono ?_
  rintro ee w11 ⟨v,rfl,h11⟩
  refine hK _ _ (.inl rfl) ?_
  clear hK h10
  refine wpL_done kRz ?_
  go_wp2_with (with_reducible apply at_store)
  refine ⟨wl_store (cs':=#[ptr m,.int .i64 seg,ptr p,ptr ps,ptr pn,.bool true]) (h11.sb:Sat w0 w11 (rpPt r m seg p ps pn d::TabML pn (Tab.put mp k pc) (B+1)::pt b4 (.cells (bys k).toArray 23 (0,0))::pt b7 (.cells (penc pc).toArray 57 (0,0))::LogRep p m L2::MedRep m M2::F)) rFz rFz rFz upd0 nLz kRz rFz ?_⟩
  intro w12 h12
  go_wp2_with fail
  go_ret
  exact ⟨_,rfl,rfl,h12.sb⟩
 ·refine eff_alloc (zValL) h5 rfl ?_
  intro b7 w6 h6
  refine hK _ _ (.inr (.inl (HGf.out _ _ _ (h6.sb:Sat w0 w6 (pt b4 (.cells (bys k).toArray 23 (0,0))::rpPt r m seg p ps pn d::pt b7 (.cells (penc Seg.Plc.zero).toArray 57 (0,0))::TabML pn mp B::LogRep p m L::MedRep m M::F))))) ?_
  clear hK h5
  refine rg_eff 7 evD kRz (fun K hK=>?_)
  (refine eff_call2 kRz evD evD ?_)
  refine (hap.out _ _ (Ro.os HH.out) (Ro.os Hd.out) (h6.sb:Sat w0 _ (LogRep p m L::MedRep m M::pt b7 (.cells (penc Seg.Plc.zero).toArray 57 (0,0))::pt b4 (.cells (bys k).toArray 23 (0,0))::rpPt r m seg p ps pn d::TabML pn mp B::F))).mono ?_
  rintro ee w7 ⟨v,rfl,rfl,h7⟩
  refine hK _ _ (.inl rfl) ?_
  clear hK hap h6
  refine rP 8 ?_ (y:=mvQ)
  refine rP 9 ?_ (y:=(yl_extract evD rnD))
  refine rP 10 ?_ (y:=(yl_extract evD rnD))
  have h8:Sat w0 w7 (pt b7 (.cells (penc Seg.Plc.zero).toArray 57 (0,0))::pt b4 (.cells (bys k).toArray 23 (0,0))::rpPt r m seg p ps pn d::TabML pn mp B::LogRep p m L2::MedRep m M2::F):=h7.sb
  clear h7
  refine rg_eff 12 evD kRz (fun K hK=>?_)
  refine eff_store (cs':=(penc pc).toArray) h8 evD evD rFz upd0 nLz kRz rFz ?_
  intro w9 h9
  refine hK _ _ (.inl rfl) ?_
  clear hK h8
  refine rP 13 ?_ (y:=asQ)
  refine wpL_done kRz ?_
  go_wp2_with fail
  have h10:=h9.drew
  clear h9
  replace h10:Sat w0 _ (pt b4 (.cells (bys k).toArray 23 (0,0))::rpPt r m seg p ps pn d::TabML pn mp B::pt b7 (.cells (penc pc).toArray 57 (0,0))::LogRep p m L2::MedRep m M2::F):=h10.sb
  refine wpL_begin [6] (fun w'=>w'.cell? ⟨r,4,none⟩=some (.pointer (some ⟨pn,0,none⟩))∧w'.rangeAt b4 0 (bys k)∧w'.rangeAt b7 0 (penc pc)) kRz ?_
  have hG:World.cell? _ ⟨r,4,none⟩=some (.pointer (some ⟨pn,0,none⟩))∧World.rangeAt _ b4 0 (bys k)∧World.rangeAt _ b7 0 (penc pc):=⟨h10.cellP pick1 4 rfl,fun j z hj=>by rw [Nat.zero_add];exact h10.cellP pick0 j (by rw [List.getElem?_toArray];exact hj),fun j z hj=>by rw [Nat.zero_add];exact h10.cellP pick3 j (by rw [List.getElem?_toArray];exact hj)⟩
  refine rP 0 ?_ (y:=mvQ)
  refine rP 1 ?_ (y:=nlQ)
  refine rP 2 ?_ (y:=flQ)
  refine rt 3 (h:=?_)
  refine rg_take 4 evD kRz i3z (tk_loadN (b:=b4) (o:=0) (bys k) rFz Tryz.underlying23 rfl (by rw [Hks.out];kernel_rfl) (fun w hw=>hw.2.1)) aQ gQ ?_
  refine rg_take 5 evD kRz i3z (tk_loadN (b:=b7) (o:=0) (penc pc) rFz Tryz.underlying57 rfl kRz (fun w hw=>hw.2.2)) aQ gQ ?_
  clear hG
  refine rg_eff 6 evD kRz (fun K hK=>?_)
  (refine eff_call3 kRz evD evD evD ?_)
  refine (putL_c HB.out Hkey.out pc (h10.sb:Sat w0 _ (TabML pn mp B::pt b4 (.cells (bys k).toArray 23 (0,0))::rpPt r m seg p ps pn d::pt b7 (.cells (penc pc).toArray 57 (0,0))::LogRep p m L2::MedRep m M2::F))).mono ?_
  rintro ee w11 ⟨v,rfl,h11⟩
  refine hK _ _ (.inl rfl) ?_
  clear hK h10
  refine wpL_done kRz ?_
  go_wp2_with (with_reducible apply at_store)
  refine ⟨wl_store (cs':=#[ptr m,.int .i64 seg,ptr p,ptr ps,ptr pn,.bool true]) (h11.sb:Sat w0 w11 (rpPt r m seg p ps pn d::TabML pn (Tab.put mp k pc) (B+1)::pt b4 (.cells (bys k).toArray 23 (0,0))::pt b7 (.cells (penc pc).toArray 57 (0,0))::LogRep p m L2::MedRep m M2::F)) rFz rFz rFz upd0 nLz kRz rFz ?_⟩
  intro w12 h12
  go_wp2_with fail
  go_ret
  exact ⟨_,rfl,rfl,h12.sb⟩
def oneK:Frm.Bs:=1::List.replicate 31 0
theorem oneK_len:oneK.length=32:=rfl
theorem run_id1 (w:World):(Instr.build 23 #[(0,.int .u8 1)]).run Tryz.prog w = .ok (.agg (bys oneK).toArray) w:=by kernel_rfl
theorem run_repo0 (w:World):(Instr.build 42 #[]).run Tryz.prog w = .ok (.agg #[.pointer none,.int .i64 0,.pointer none,.pointer none,.pointer none,.bool false]) w:=run_build (P:=Tryz.prog) [] plRepo zRepo (by simp) w
end
section
variable {w0 w:World}{F:List HProp}{p m K r ps pn B:Nat}{L:Seg.Log}{M:Med}{seg:Int}{d:Bool}{k:Frm.Bs}{mp:Frm.Bs→Option Seg.Plc}
theorem rpdirty_c (h:Sat w0 w (rpPt r m seg p ps pn d::F)) :
  Calls Tryz.prog 9 #[ptr r] w (Rtn fun v w'=>v = .bool d∧w=w'):=by
 have e5:w.cell? ⟨r,5,none⟩=some (.bool d):=h.cellAt 5 _ rfl
 have hok:=rokY_c h
 clear h
 go_enter Tryz.func9,Tryz.ntmps9
 go_wp2_with fail
 refine hok.mono ?_
 rintro ee w1 ⟨v,rfl,rfl,rfl⟩
 go_wp2
 go_ret
 exact ⟨_,rfl,rfl,rfl⟩
end
def abL (x:Frm.Bs×Seg.Plc):Array Value:=#[.agg (bys x.1).toArray,.agg (penc x.2).toArray]
section
variable {w0 w:World}{F:List HProp}{p B:Nat}{m:Frm.Bs→Option (Seg.Plc)}
theorem allL_c (h:Sat w0 w F):Calls Tryz.prog 104 #[ptr p] w
  (Rtn fun v w'=>∃ b,v = .func (.func 140) #[] #[ptr b]∧Sat w0 w' (pt b (.cells #[ptr p] 40 (0,0))::F)):=by
 go_enter Tryz.func104,Tryz.ntmps104
 go_wp2_with (first|((with_reducible refine at_box ⟨?_⟩);refine wl_box aQ evD evD ?_;intro bB wB hB)|(with_reducible apply at_alloc))
 go_ret
 exact ⟨_,rfl,bB,rfl,hB⟩
set_option maxRecDepth 20000 in
theorem allL1_c {b:Nat}{l:List (Frm.Bs×Seg.Plc)} (hB:B≤13000000) (hl:Tab.Lists m l) :
  Iter Tryz.prog 140 #[ptr b] (l.map abL) w0 [TabML p m B,pt b (.cells #[ptr p] 40 (0,0))] [TabML p m B,pt b (.cells #[ptr p] 40 (0,0))]:=by
 intro ly R hY W hW
 have Hl:=uQ hl
 have hW0:Sat w0 W (TabML p m B::pt b (.cells #[ptr p] 40 (0,0))::R []):=hW
 clear hW hl
 show Calls Tryz.prog 140 #[.func (.yield ly) #[] #[],ptr b] W _
 go_enter Tryz.func140,Tryz.ntmps140
 have hr:=risingL_c hB hW0
 go_wp2_with ((with_reducible refine at_load ⟨?_⟩);refine wl_load1 hW0 rFz pkD nLz evD kRz ?_)
 clear hW0
 refine hr.mono ?_
 rintro ee w1 ⟨sv,rfl,s,⟨hs1,hs2,hs3⟩,hS1⟩
 clear hr
 have e0:l=s.map fun x=>(x.key,x.val):=Hl.out.unique hs1
 clear hs1 Hl
 subst e0
 have Hs2:=uQ hs2;have Hs3:=uQ hs3
 have Hlen:=uQ (show ∀ x∈s,(slotL penc x).length=36 from fun x hx=>slotL_len penc x (hs2 x hx).2 3 (penc_len _))
 obtain ⟨la,lc,rfl⟩:=osl_rows Hlen.out (Sat.rd hS1) dCz
 have hsb:s.length≤13000000:=Nat.le_trans hs3 hB
 clear hs2 hs3 hB
 go_wp2_with fail
 go_loopg [8] s.length (fun g iq wr=>∃ (i:Nat),g=s.length - i∧i≤s.length∧iq = .int .i64 i ∧
  Sat w0 wr (osl 98 36 (.slice la s.length lc) (s.flatMap (slotL penc))::TabML p m B::pt b (.cells #[ptr p] 40 (0,0))::R (((s.take i).map fun x=>(x.key,x.val)).map abL)))
 case atStart=>exact ⟨0,rfl,Nat.zero_le _,rfl,hS1⟩
 case round=>
  obtain ⟨i,rfl,hi,rfl,hS⟩:=hrel
  clear hS1
  by_cases hlt:i<s.length
  rotate_left
  ·obtain rfl:i=s.length:=by omega
   have c1:¬ (s.length:Int)<(s.length:Int):=oQ
   rw [List.take_length]at hS
   clear hlt hi
   go_wp2_with fail
   go_end0
   exact ⟨_,rfl,by rw [← List.map_map];exact hS.drop⟩
  have c1:(i:Int)<(s.length:Int):=oQ
  have hwi:=iwQ (i:=i)
  obtain ⟨x,hx⟩:∃ x,s[i]?=some x:=⟨_,List.getElem?_eq_getElem hlt⟩
  have hxm:=List.mem_of_getElem? hx
  have Hxk:=uQ (Hs2.out x hxm).2
  obtain ⟨bk,off,c',hsv,hcell⟩:=osl_row Hlen.out (Sat.rd (hS.pick pick0)) hx dCz
  cases hsv
  have hl38:=Hlen.out x hxm
  have Htk:=uQ (show s.take (i+1)=s.take i++[x] by rw [List.take_add_one,hx,Option.toList_some])
  have Hlt:=uQ hlt
  have Hspl:=uQ (show (s.map fun x=>(x.key,x.val)).map abL=((s.take i).map fun x=>(x.key,x.val)).map abL++abL (x.key,x.val)::((s.drop (i+1)).map fun x=>(x.key,x.val)).map abL by
   have e:s=s.take i++x::s.drop (i+1):=by
    obtain ⟨h1,rfl⟩:=List.getElem?_eq_some_iff.1 hx
    rw [← List.drop_eq_getElem_cons h1,List.take_append_drop]
   conv=>lhs;rw [e]
   simp only [List.map_append,List.map_cons])
  clear hx hxm hlt hi
  go_wp2_with (first
   |((with_reducible refine at_load ⟨?_⟩);refine wl_loadW (b:=bk) (o:=off+i * 36) (slotL penc x) rFz hcell Tryz.underlying98 rfl (by rw [hl38];kernel_rfl) ?_)
   |(with_reducible apply at_alloc))
  refine ⟨wl_alloc zSlotL hS rfl ?_⟩
  intro b7 w7 hS7
  go_wp2_with ((with_reducible apply at_store))
  refine ⟨wl_storeA (slotL penc x).toArray hS7 rFz rFz (by rw [List.size_toArray,hl38];rfl) upd0 (by rw [List.size_toArray,hl38];kernel_rfl) (by rw [List.toList_toArray];exact slotL_ones penc x (penc_ones _)) ?_⟩
  intro w10 hS10
  clear hS hS7 hcell
  have f1:w10.rangeAt b7 1 (bys x.key):=slot_key (hS10.pick pick0)
  have f2:w10.rangeAt b7 33 (penc x.val):=slot_val Hxk.out (hS10.pick pick0)
  have e1:=Tryz.underlying23
  have hS11:Sat w0 w10 (R (((s.take i).map fun x=>(x.key,x.val)).map abL)++[osl 98 36 (.slice (some ⟨bk,off,none⟩) s.length lc) (s.flatMap (slotL penc)),TabML p m B,pt b (.cells #[ptr p] 40 (0,0))]):=
   (hS10.drop:Sat w0 w10 ([osl 98 36 (.slice (some ⟨bk,off,none⟩) s.length lc) (s.flatMap (slotL penc)),TabML p m B,pt b (.cells #[ptr p] 40 (0,0))]++R (((s.take i).map fun x=>(x.key,x.val)).map abL))).appc
  obtain ⟨yf,yt,ya,yb,hy,hr⟩:=hY _ _ _ w10 _ Hspl.out hS11
  clear hS11 hS10 hY
  go_step
  go_step
  go_step
  refine region_yield6 rFz ?_
  intro K hK
  go_wp2_with (first
   |((with_reducible refine at_load ⟨?_⟩);refine wl_loadW (b:=b7) (o:=1) (bys x.key) rFz f1 e1 rfl (by rw [bys_len,Hxk.out];kernel_rfl) ?_)
   |((with_reducible refine at_load ⟨?_⟩);refine wl_loadW (b:=b7) (o:=33) (penc x.val) rFz f2 Tryz.underlying57 rfl kRz ?_))
  refine ⟨_,yf,yt,ya,yb,hy,hr.mono ?_⟩
  rintro ee w12 ⟨rfl,hS12⟩
  refine ⟨_,rfl,?_⟩
  have hS13:Sat w0 w12 (osl 98 36 (.slice (some ⟨bk,off,none⟩) s.length lc) (s.flatMap (slotL penc))::TabML p m B::pt b (.cells #[ptr p] 40 (0,0))::R (((s.take (i+1)).map fun x=>(x.key,x.val)).map abL)):=by
   have:=hS12.appc
   rw [Htk.out,List.map_append,List.map_append]
   exact this
  clear hS12 hr hy f1 f2
  go_wp2_with fail
  go_roundg (s.length - (i+1))
  case measure=>have:=Hlt.out;omega
  case rel=>exact ⟨i+1,rfl,Hlt.out,by first|rfl|go_num,hS13⟩
end
def outK (b:Nat) (xs:List (Frm.Bs×Seg.Plc)):HProp:=Sl.ex fun ov:Value=>star (pt b (.cells #[ov] 122 (0,0))) (osl 183 35 ov (xs.flatMap kvL))
theorem res_t1 {fn:Func}{t:Tmp} (h:fn.results=#[.tmp t]) (tmps:Array Value) (P:Program) (w:World):(results fn tmps).run P w = .ok (tmps.getD t undef) w:=by
 simp only [results,h]
 simp
theorem endsM_ret {P:Program}{w0 w:World}{F:List HProp}{fn:Func}{a:Act}{K:Ending→World→Prop}{D:Nat}{v:Value} (ha:a.defers=[{ target:= .collected D,args:=#[] }]) (h:Sat w0 w (pt D (.deferred (some []))::F)) (hv:∀ w,(results fn a.tmps).run P w = .ok v w)
  (hK:∀ w',Sat w0 w' F→K (.returned v) w'):endsM P fn K .ret a w:=by
 show LeavesInM Fence.wide 0 P fn a.tmps K a.defers .returning w
 rw [ha]
 exact leaves_mark h hv hK
section
variable {w0 w:World}{F:List HProp}{p B b:Nat}{m:Frm.Bs→Option Seg.Plc}{kv xs:List (Frm.Bs×Seg.Plc)}
theorem outK_open (h:Sat w0 w (outK b xs::F)):∃ ov,Sat w0 w (pt b (.cells #[ov] 122 (0,0))::osl 183 35 ov (xs.flatMap kvL)::F):=by
 obtain ⟨ov,h1⟩:=Sat.ex.1 h
 exact ⟨ov,Sat.star.1 h1⟩
theorem outK_shut {ov:Value} (h:Sat w0 w (pt b (.cells #[ov] 122 (0,0))::osl 183 35 ov (xs.flatMap kvL)::F)):Sat w0 w (outK b xs::F):=Sat.ex.2 ⟨ov,Sat.star.2 h⟩
theorem zKeyed0:zeroB Tryz.prog 122=some (.slice none 0 0):=by kernel_rfl
set_option maxRecDepth 20000 in
theorem hrows_c (hl:Tab.Lists m kv) (hB:B≤13000000) (hkl:kv.length≤13000000) (hks:∀ q∈kv,q.1.length=32) (h:Sat w0 w (TabML p m B::F)) :
  Calls Tryz.prog 56 #[ptr p] w (Rtn fun v w'=>Sat w0 w' (osl 183 35 v (kv.flatMap kvL)::TabML p m B::F)):=by
 have Hl:=uQ hl;have HB:=uQ hB;have Hkl:=uQ hkl;have Hks:=uQ hks
 clear hl hB hkl hks
 refine calls_of_wp_marks Tryz.func56 rfl ?_
 simp only [Tryz.ntmps56,List.size_toArray,List.length_cons,List.length_nil,Nat.reduceAdd,Nat.reduceSub,Array.replicate_succ,Array.replicate_zero,List.push_toArray,List.append_toArray,List.nil_append,List.cons_append]
 go_wp2_with (with_reducible apply at_alloc)
 refine ⟨wl_alloc zKeyed0 h rfl ?_⟩
 intro b3 w3 h3
 go_wp2_with fail
 refine (allL_c h3).mono ?_
 rintro ee w4 ⟨v,rfl,bA,rfl,h4⟩
 go_wp2_with fail
 have h5:Sat w0 w4 (TabML p m B::pt bA (.cells #[ptr p] 40 (0,0))::outK b3 (kv.take 0)::F):=by
  have h6:Sat w0 w4 (pt b3 (.cells #[.slice none 0 0] 122 (0,0))::TabML p m B::pt bA (.cells #[ptr p] 40 (0,0))::F):=h4.sb
  exact (outK_shut (xs:=[]) ((Sat.osl_nil.2 h6).sb:Sat w0 w4 (pt b3 (.cells #[.slice none 0 0] 122 (0,0))::osl 183 35 (.slice none 0 0) []::TabML p m B::pt bA (.cells #[ptr p] 40 (0,0))::F))).sb
 clear h h3 h4
 refine wp_rangeFunc_sat (gf:=140) (lb:=#[ptr bA]) rFz (fun args w=>by kernel_rfl) (allL1_c HB.out Hl.out) ?_ (fun pre=>outK b3 (kv.take pre.length)::F) h5 ?_ ?_
 ·intro x hx
  obtain ⟨p,_,rfl⟩:=List.mem_map.1 hx
  rfl
 ·clear h5
  intro l pre x post U W hkv hS T hT
  obtain ⟨i,hi⟩:∃ i,i=pre.length:=⟨_,rfl⟩
  have hlt:i<kv.length:=by
   have:=congrArg List.length hkv
   rw [List.length_map,List.length_append,List.length_cons]at this
   omega
  obtain ⟨⟨k,y⟩,hy⟩:∃ p,kv[i]?=some p:=⟨_,List.getElem?_eq_getElem hlt⟩
  obtain rfl:x=abL (k,y):=by
   have e1:(kv.map abL)[i]?=some (abL (k,y)):=by rw [List.getElem?_map,hy];rfl
   rw [hkv,hi,List.getElem?_append_right (Nat.le_refl _),Nat.sub_self,List.getElem?_cons_zero]at e1
   exact Option.some.inj e1
  have hk32:=Hks.out _ (List.mem_of_getElem? hy)
  have htk:kv.take (i+1)=kv.take i++[(k,y)]:=by rw [List.take_add_one,hy,Option.toList_some]
  have hil:(pre++[abL (k,y)]).length=i+1:=by rw [List.length_append,hi];rfl
  have Htk:=uQ htk;have Hil:=uQ hil;have Hk32:=uQ (show k.length=32 from hk32)
  have Hln:=uQ (show ((kv.take i).flatMap kvL).length≤2147483648 from by
   rw [rows_len (k:=35) fun q hq=>kvL_len q (Hks.out q (List.mem_of_mem_take hq)),List.length_take]
   have:=Hkl.out
   omega)
  have hS0:Sat w0 W (outK b3 (kv.take i)::(F++U)):=by rw [hi];exact hS
  clear hkv hS hi hlt hy hk32 htk hil
  simp [abL]at hT
  subst hT
  refine wpIn_seq_k fun K hK=>?_
  refine region_in_lit rFz fun K2 hK2=>?_
  go_wp2_with (with_reducible apply at_alloc)
  refine ⟨wl_alloc zKey hS0 rfl ?_⟩
  intro b5 w5 h5
  go_wp2_with ((with_reducible refine at_store ⟨?_⟩);refine wl_storeA (bys k).toArray h5 rFz rFz (by rw [List.size_toArray,bys_len,Hk32.out];rfl) upd0 (by rw [List.size_toArray,bys_len,Hk32.out];kernel_rfl) (by rw [List.toList_toArray];exact bys_ones _) ?_;intro w6 h6)
  refine region_in_lit rFz fun K3 hK3=>?_
  go_wp2_with (with_reducible apply at_alloc)
  refine ⟨wl_alloc zValL h6 rfl ?_⟩
  intro b6 w7 h7
  go_wp2_with ((with_reducible refine at_store ⟨?_⟩);refine wl_storeA (penc y).toArray h7 rFz rFz rFz upd0 kRz rFz ?_;intro w8 h8)
  refine ⟨pt b6 (.cells (penc y).toArray 57 (0,0))::pt b5 (.cells (bys k).toArray 23 (0,0))::outK b3 (kv.take i)::F,h8,?_⟩
  clear h8 h7 h6 h5 hS0
  intro U' w9 h9
  have h10:Sat w0 w9 (pt b6 (.cells (penc y).toArray 57 (0,0))::pt b5 (.cells (bys k).toArray 23 (0,0))::outK b3 (kv.take i)::(F++U')):=h9
  clear h9
  obtain ⟨ov,h11⟩:=outK_open (h10.sb:Sat w0 w9 (outK b3 (kv.take i)::pt b6 (.cells (penc y).toArray 57 (0,0))::pt b5 (.cells (bys k).toArray 23 (0,0))::(F++U')))
  clear h10
  obtain ⟨oa,on,oc,rfl,_,_⟩:=Sat.rd (h11.pick pick1)
  refine wpIn_block (region_in_lit rFz fun K6 hK6=>?_)
  go_wp2_with (first
   |((with_reducible refine at_load ⟨?_⟩);first
    |refine wl_loadA h11 rFz pick2 Tryz.underlying57 rfl kRz ?_
    |refine wl_loadA h11 rFz pick3 Tryz.underlying23 rfl (by rw [List.size_toArray,bys_len,Hk32.out];kernel_rfl) ?_
    |refine wl_load1 h11 rFz pick0 nLz evD kRz ?_)
   |((with_reducible refine at_build2 ⟨?_⟩);refine wl_build2 rFz rFz (fun w=>run_kv k Hk32.out y w) ?_)
   |((with_reducible refine at_build1 ⟨?_⟩);refine wl_build1 (e:=183) (sz:=35) (by':=56) (cs:=(kvL (k,y)).toArray) kRz h11 rFz rfl (by rw [List.size_toArray,kvL_len _ Hk32.out]) nLz ?_;intro bN wN hN)
   |(with_reducible apply at_append))
  refine ⟨wl_app (cs:=(kvL (k,y)).toArray) 183 35 56 kRz hN rFz rFz pick2 pick0 (by rw [List.size_toArray,kvL_len _ Hk32.out]) nLz (by rw [List.toList_toArray];exact kvL_ones (k,y)) Hln.out (by rw [List.size_toArray,kvL_len _ Hk32.out];decide) nLz rfl ?_⟩
  intro b' n' c' w12 h12
  clear h11 hN
  go_wp2_with (with_reducible apply at_store)
  refine ⟨wl_store (cs':=#[.slice (some ⟨b',0,none⟩) n' c']) (h12.sb:Sat w0 w12 (pt b3 (.cells #[.slice oa on oc] 122 (0,0))::osl 183 35 (.slice (some ⟨b',0,none⟩) n' c') ((kv.take i).flatMap kvL++kvL (k,y))::(F++U'))) rFz rFz rFz upd0 nLz kRz rFz ?_⟩
  intro w13 h13
  go_wp2_with fail
  refine ⟨trivial,?_⟩
  rw [Hil.out,Htk.out]
  have h14:=outK_shut (xs:=kv.take i++[(k,y)]) (by rw [List.flatMap_append,List.flatMap_cons,List.flatMap_nil,List.append_nil];exact h13)
  exact h14
 ·intro D w8 h8
  have h9:Sat w0 w8 (TabML p m B::pt bA (.cells #[ptr p] 40 (0,0))::outK b3 kv::(F++[pt D (.deferred (some []))])):=by
   have q:=h8
   rw [List.length_map,List.take_length]at q
   exact q
  have hA:Sat w0 w8 (pt D (.deferred (some []))::TabML p m B::pt bA (.cells #[ptr p] 40 (0,0))::outK b3 kv::F):=
   Sat.appc (L:=TabML p m B::pt bA (.cells #[ptr p] 40 (0,0))::outK b3 kv::F) (R:=[pt D (.deferred (some []))]) h9
  clear h5 h8 h9
  obtain ⟨ov,hB2⟩:=outK_open (hA.sb:Sat w0 w8 (outK b3 kv::pt D (.deferred (some []))::TabML p m B::F))
  clear hA
  obtain ⟨oa,on,oc,rfl,_,_⟩:=Sat.rd (hB2.pick pick1)
  go_wp2_with ((with_reducible refine at_load ⟨?_⟩);refine wl_load1 hB2 rFz pick0 nLz evD kRz ?_)
  refine endsM_ret rfl (hB2.sb:Sat w0 w8 (pt D (.deferred (some []))::osl 183 35 (.slice oa on oc) (kv.flatMap kvL)::TabML p m B::F)) (fun w=>res_t1 (t:=2) rFz _ _ w) ?_
  intro w9 h9
  exact ⟨_,rfl,h9⟩
end
section
variable {w0 w:World}{F:List HProp}{m fb nb b r:Nat}{M:Med}{bs:List Nat}{wv v bv:Value}{s:ByteArray}{l:Names}{fs:List Fil}{K:Nat}
theorem rename_c (hM:M.Ok K) (hK:K≤1099511627776) (h:Sat w0 w (MedRep m M::F)) (s t:ByteArray) (ht:t.size≤9223372036854775807) :
  Calls Tryz.prog 109 #[ptr m,.string s,.string t] w (Rtn fun v w'=>v=errno (M.rename s t).2∧Sat w0 w' (MedRep m (M.rename s t).1::F)):=by
 obtain ⟨bs,fb,nb,wv,hl,hR⟩:=MedRep.open h
 have hg:=good_c t w ht
 cases ho:M.off
 ·cases hn:nget M.now s with
  |none=>
   have hf:=find_none (s:=s) hR ho hn
   have Hfin:Hid (M.rename s t=(M,9)):=by show _=_;simp [Med.rename,ho,hn]
   clear ho hn
   go_enter Tryz.func109,Tryz.ntmps109
   go_wp2_with (first|(go_at_call 94;refine hf.mono ?_;rintro e w1 ⟨v,rfl,rfl,rfl⟩))
   go_ret
   exact ⟨errno 9,rfl,by rw [Hfin.out],by rw [Hfin.out];exact h⟩
  |some i=>
   have hf:=find_some (s:=s) hR ho hn
   cases hgs:good t
   ·rw [hgs]at hg
    have Hfin:Hid (M.rename s t=(M,7)):=by show _=_;simp [Med.rename,ho,hn,hgs]
    clear ho hn hgs
    go_enter Tryz.func109,Tryz.ntmps109
    go_wp2_with (first|(go_at_call 94;refine hf.mono ?_;rintro e w1 ⟨v,rfl,rfl,rfl⟩)|(go_at_call 128;refine hg.mono ?_;rintro e w1 ⟨v,rfl,rfl,rfl⟩))
    go_ret
    exact ⟨errno 7,rfl,by rw [Hfin.out],by rw [Hfin.out];exact h⟩
   rw [hgs]at hg
   have hst:=step_c hR hM.left
   cases hstep:M.step.2
   ·rw [hstep]at hst
    have Hfin:Hid (M.rename s t=(M.step.1,12)):=by show _=_;simp [Med.rename,ho,hn,hgs,hstep]
    clear ho hn hstep hgs
    go_enter Tryz.func109,Tryz.ntmps109
    go_wp2_with (first|(go_at_call 94;refine hf.mono ?_;rintro e w1 ⟨v,rfl,rfl,rfl⟩)|(go_at_call 128;refine hg.mono ?_;rintro e w1 ⟨v,rfl,rfl,rfl⟩)|(go_at_call 95;refine hst.mono ?_;rintro e w1 ⟨v,rfl,rfl,hS1⟩))
    go_ret
    refine ⟨errno 12,rfl,by rw [Hfin.out],?_⟩
    rw [Hfin.out]
    exact MedRep.shut (bs:=bs) (fb:=fb) (nb:=nb) (wv:=wv) (by rw [M.step_same.2.2.2.1];exact hl) (raw_step hS1)
   ·rw [hstep]at hst
    have Hfin:Hid (M.rename s t=(M.step.1.link ⟨s,t,i⟩,0)):=by show _=_;simp [Med.rename,ho,hn,hgs,hstep]
    have hne:=good_ne hgs
    have hl':bs.length=M.step.1.files.length:=by rw [M.step_same.2.2.2.1];exact hl
    have hlp:lnkPtr bs ⟨s,t,i⟩=ptr (bs.getD i 0):=by unfold lnkPtr;rw [if_neg hne]
    have Hl':=uQ hl';have Hlp:=uQ hlp
    clear ho hn hstep hgs hne hl' hlp
    generalize hq:bs.getD i 0=q at hf
    have Hq:=uQ hq;clear hq
    go_enter Tryz.func109,Tryz.ntmps109
    go_wp2_with (first|(go_at_call 94;refine hf.mono ?_;rintro e w1 ⟨v,rfl,rfl,rfl⟩)|(go_at_call 128;refine hg.mono ?_;rintro e w1 ⟨v,rfl,rfl,rfl⟩)|(go_at_call 95;fail))
    refine hst.mono ?_
    rintro e w1 ⟨v,rfl,rfl,hS1⟩
    have hlk:=link_rep hM.step hK Hl'.out ⟨s,t,i⟩ (raw_step hS1)
    rw [Hlp.out,Hq.out]at hlk
    go_wp2_with (go_at_call 96;go_must (refine hlk.mono ?_);rintro e w2 ⟨v2,rfl,hS2⟩)
    go_ret
    refine ⟨errno 0,rfl,by rw [Hfin.out],?_⟩
    rw [Hfin.out]
    exact hS2
 ·have hf:=find_off (s:=s) hR ho
  have Hfin:Hid (M.rename s t=(M,12)):=by show _=_;simp [Med.rename,ho]
  clear ho
  go_enter Tryz.func109,Tryz.ntmps109
  go_wp2_with (first|(go_at_call 94;refine hf.mono ?_;rintro e w1 ⟨v,rfl,rfl,rfl⟩))
  go_ret
  exact ⟨errno 12,rfl,by rw [Hfin.out],by rw [Hfin.out];exact h⟩
end
section
variable {w0 w:World}{F:List HProp}{v bv:Value}{q m K:Nat}{M:Med}
theorem hthere_c (hM:M.Ok K) (s:ByteArray) (h:Sat w0 w (MedRep m M::F)):Calls Tryz.prog 108 #[ptr m,.string s] w (Rtn fun v w'=>v = .bool (Hin.there M s)∧w=w'):=by
 have hs:=size_c hM h s
 have Hf:=uQ (show Hin.there M s=decide ((M.size s).2=0) from rfl)
 generalize M.size s=r at *
 obtain ⟨n,e⟩:=r
 dsimp only at hs
 have hb:(e==0)=decide (e=0):=by rw [Bool.eq_iff_iff,beq_iff_eq,decide_eq_true_eq]
 go_enter Tryz.func108,Tryz.ntmps108
 go_wp2_with fail
 refine hs.mono ?_
 rintro ee w1 ⟨v,rfl,rfl,rfl⟩
 clear hs
 go_wp2
 go_ret
 rw [Hf.out]
 exact ⟨_,rfl,by first|rfl|(rw [← hb];rfl)|simp,rfl⟩
set_option maxRecDepth 20000 in
theorem hwrite_c (hM:M.Ok K) (hK:K+4≤1099511627776) (s:ByteArray) (hs:s.size≤9223372036854775807) (b:Bs) (hr:Ro w0 F (rdsl 1 bv (bys b))) (hbv:∃ a n c,bv = .slice a n c) (h:Sat w0 w (MedRep m M::F)) :
  Calls Tryz.prog 58 #[ptr m,.string s,bv] w (Rtn fun v w'=>v=errno (Hin.write M s b).2∧Sat w0 w' (MedRep m (Hin.write M s b).1::F)):=by
 obtain ⟨ba,bn,bc,rfl⟩:=hbv
 have Hr:=uQ hr;have Hs:=uQ hs
 have hth:=hthere_c hM Hin.tmp h
 clear hr hs
 cases ht:Hin.there M Hin.tmp with
 |false=>
  have HX:=uQ (show Hin.write M s b=(if (M.create Hin.tmp).2=0 then Hin.fill (M.create Hin.tmp).1 s b else M.create Hin.tmp) by unfold Hin.write Hin.remTmp;rw [ht];rfl)
  rw [ht]at hth
  clear ht
  go_enter Tryz.func58,Tryz.ntmps58
  go_wp2_with fail
  refine hth.mono ?_
  rintro ee w1 ⟨v,rfl,rfl,rfl⟩
  clear hth
  have hcr:=create_c hM oQ h Hin.tmp dCz
  have ok1:=hM.create Hin.tmp
  generalize M.create Hin.tmp=r1 at *
  obtain ⟨M1,e1⟩:=r1
  dsimp only at hcr ok1
  clear h
  go_wp2_with fail
  refine hcr.mono ?_
  rintro ee w3 ⟨v,rfl,rfl,h3⟩
  clear hcr
  by_cases c1:e1=0
  rotate_left
  ·have hb1:(e1 != 0)=true:=bne_iff_ne.2 c1
   have HF:=uQ (show Hin.write M s b=(M1,e1) from HX.out.trans (if_neg c1))
   clear c1
   go_wp2
   go_ret
   rw [HF.out]
   exact ⟨_,rfl,rfl,h3⟩
  subst c1
  have HY:=uQ (show Hin.write M s b=Hin.fill M1 s b from HX.out.trans (if_pos rfl))
  clear HX
  have hap:=append_c ok1 oQ h3 Hin.tmp b Hr.out
  have ok2:=ok1.append Hin.tmp b
  have HE:=uQ (show Hin.fill M1 s b=(if (M1.append Hin.tmp b).2=0 then
    (if ((M1.append Hin.tmp b).1.sync Hin.tmp).2=0 then ((M1.append Hin.tmp b).1.sync Hin.tmp).1.rename Hin.tmp s else (M1.append Hin.tmp b).1.sync Hin.tmp)
   else if (M1.append Hin.tmp b).2=11 then
    (if ((M1.append Hin.tmp b).1.remove Hin.tmp).2=0 then (((M1.append Hin.tmp b).1.remove Hin.tmp).1,11) else (M1.append Hin.tmp b).1.remove Hin.tmp)
   else M1.append Hin.tmp b) from rfl)
  generalize M1.append Hin.tmp b=r2 at *
  obtain ⟨M2,e2⟩:=r2
  dsimp only at hap ok2
  clear h3
  go_wp2_with fail
  refine hap.mono ?_
  rintro ee w4 ⟨v,rfl,rfl,h4⟩
  clear hap
  by_cases c2:e2=0
  rotate_left
  ·have hb2:(e2 != 0)=true:=bne_iff_ne.2 c2
   by_cases c3:e2=11
   ·subst c3
    have hrm:=remove_c ok2 oQ h4 Hin.tmp
    have HG:=uQ (show Hin.write M s b=(if (M2.remove Hin.tmp).2=0 then ((M2.remove Hin.tmp).1,11) else M2.remove Hin.tmp) from HY.out.trans (HE.out.trans ((if_neg c2).trans (if_pos rfl))))
    generalize M2.remove Hin.tmp=r3 at *
    obtain ⟨M3,e3⟩:=r3
    dsimp only at hrm
    clear h4 c2 HY HE
    go_wp2_with fail
    refine hrm.mono ?_
    rintro ee w5 ⟨v,rfl,rfl,h5⟩
    clear hrm
    by_cases c4:e3=0
    ·have hb3:(e3 != 0)=false:=by rw [c4];rfl
     have HF:=uQ (HG.out.trans (if_pos c4))
     clear c4
     go_wp2
     go_ret
     rw [HF.out]
     exact ⟨_,rfl,rfl,h5⟩
    ·have hb3:(e3 != 0)=true:=bne_iff_ne.2 c4
     have HF:=uQ (HG.out.trans (if_neg c4))
     clear c4
     go_wp2
     go_ret
     rw [HF.out]
     exact ⟨_,rfl,rfl,h5⟩
   ·have hb3:(e2==11)=false:=beq_eq_false_iff_ne.2 c3
    have HF:=uQ (show Hin.write M s b=(M2,e2) from HY.out.trans (HE.out.trans ((if_neg c2).trans (if_neg c3))))
    clear c2 c3
    go_wp2
    go_ret
    rw [HF.out]
    exact ⟨_,rfl,rfl,h4⟩
  subst c2
  have hsy:=sync_c ok2 h4 Hin.tmp
  have ok3:=ok2.sync Hin.tmp
  have HG:=uQ (show Hin.write M s b=(if (M2.sync Hin.tmp).2=0 then (M2.sync Hin.tmp).1.rename Hin.tmp s else M2.sync Hin.tmp) from HY.out.trans (HE.out.trans (if_pos rfl)))
  generalize M2.sync Hin.tmp=r3 at *
  obtain ⟨M3,e3⟩:=r3
  dsimp only at hsy ok3
  clear h4 HY HE
  go_wp2_with fail
  refine hsy.mono ?_
  rintro ee w5 ⟨v,rfl,rfl,h5⟩
  clear hsy
  by_cases c4:e3=0
  rotate_left
  ·have hb3:(e3 != 0)=true:=bne_iff_ne.2 c4
   have HF:=uQ (show Hin.write M s b=(M3,e3) from HG.out.trans (if_neg c4))
   clear c4
   go_wp2
   go_ret
   rw [HF.out]
   exact ⟨_,rfl,rfl,h5⟩
  subst c4
  have hre:=rename_c ok3 oQ h5 Hin.tmp s Hs.out
  have HF:=uQ (show Hin.write M s b=M3.rename Hin.tmp s from HG.out.trans (if_pos rfl))
  generalize M3.rename Hin.tmp s=r4 at *
  obtain ⟨M4,e4⟩:=r4
  dsimp only at hre
  clear h5
  go_wp2_with fail
  refine hre.mono ?_
  rintro ee w6 ⟨v,rfl,rfl,h6⟩
  clear hre
  go_wp2
  go_ret
  rw [HF.out]
  exact ⟨_,rfl,rfl,h6⟩
 |true=>
  rw [ht]at hth
  have hrm:=remove_c hM oQ h Hin.tmp
  have okR:=hM.remove Hin.tmp
  have HR:=uQ (show Hin.write M s b=(if (M.remove Hin.tmp).2=0 then (if ((M.remove Hin.tmp).1.create Hin.tmp).2=0 then Hin.fill ((M.remove Hin.tmp).1.create Hin.tmp).1 s b else (M.remove Hin.tmp).1.create Hin.tmp) else M.remove Hin.tmp) by unfold Hin.write Hin.remTmp;rw [ht];rfl)
  generalize M.remove Hin.tmp=r0 at *
  obtain ⟨M0,e0⟩:=r0
  dsimp only at hrm okR
  clear ht
  go_enter Tryz.func58,Tryz.ntmps58
  go_wp2_with fail
  refine hth.mono ?_
  rintro ee w1 ⟨v,rfl,rfl,rfl⟩
  clear hth
  go_wp2_with fail
  refine hrm.mono ?_
  rintro ee w2 ⟨v,rfl,rfl,h2⟩
  clear hrm h
  by_cases c0:e0=0
  rotate_left
  ·have hb0:(e0 != 0)=true:=bne_iff_ne.2 c0
   have HF:=uQ (show Hin.write M s b=(M0,e0) from HR.out.trans (if_neg c0))
   clear c0
   go_wp2
   go_ret
   rw [HF.out]
   exact ⟨_,rfl,rfl,h2⟩
  subst c0
  have HX:=uQ (show Hin.write M s b=(if (M0.create Hin.tmp).2=0 then Hin.fill (M0.create Hin.tmp).1 s b else M0.create Hin.tmp) from HR.out.trans (if_pos rfl))
  clear HR
  have hcr:=create_c okR oQ h2 Hin.tmp dCz
  have ok1:=okR.create Hin.tmp
  generalize M0.create Hin.tmp=r1 at *
  obtain ⟨M1,e1⟩:=r1
  dsimp only at hcr ok1
  clear h2
  go_wp2_with fail
  refine hcr.mono ?_
  rintro ee w3 ⟨v,rfl,rfl,h3⟩
  clear hcr
  by_cases c1:e1=0
  rotate_left
  ·have hb1:(e1 != 0)=true:=bne_iff_ne.2 c1
   have HF:=uQ (show Hin.write M s b=(M1,e1) from HX.out.trans (if_neg c1))
   clear c1
   go_wp2
   go_ret
   rw [HF.out]
   exact ⟨_,rfl,rfl,h3⟩
  subst c1
  have HY:=uQ (show Hin.write M s b=Hin.fill M1 s b from HX.out.trans (if_pos rfl))
  clear HX
  have hap:=append_c ok1 oQ h3 Hin.tmp b Hr.out
  have ok2:=ok1.append Hin.tmp b
  have HE:=uQ (show Hin.fill M1 s b=(if (M1.append Hin.tmp b).2=0 then
    (if ((M1.append Hin.tmp b).1.sync Hin.tmp).2=0 then ((M1.append Hin.tmp b).1.sync Hin.tmp).1.rename Hin.tmp s else (M1.append Hin.tmp b).1.sync Hin.tmp)
   else if (M1.append Hin.tmp b).2=11 then
    (if ((M1.append Hin.tmp b).1.remove Hin.tmp).2=0 then (((M1.append Hin.tmp b).1.remove Hin.tmp).1,11) else (M1.append Hin.tmp b).1.remove Hin.tmp)
   else M1.append Hin.tmp b) from rfl)
  generalize M1.append Hin.tmp b=r2 at *
  obtain ⟨M2,e2⟩:=r2
  dsimp only at hap ok2
  clear h3
  go_wp2_with fail
  refine hap.mono ?_
  rintro ee w4 ⟨v,rfl,rfl,h4⟩
  clear hap
  by_cases c2:e2=0
  rotate_left
  ·have hb2:(e2 != 0)=true:=bne_iff_ne.2 c2
   by_cases c3:e2=11
   ·subst c3
    have hrm:=remove_c ok2 oQ h4 Hin.tmp
    have HG:=uQ (show Hin.write M s b=(if (M2.remove Hin.tmp).2=0 then ((M2.remove Hin.tmp).1,11) else M2.remove Hin.tmp) from HY.out.trans (HE.out.trans ((if_neg c2).trans (if_pos rfl))))
    generalize M2.remove Hin.tmp=r3 at *
    obtain ⟨M3,e3⟩:=r3
    dsimp only at hrm
    clear h4 c2 HY HE
    go_wp2_with fail
    refine hrm.mono ?_
    rintro ee w5 ⟨v,rfl,rfl,h5⟩
    clear hrm
    by_cases c4:e3=0
    ·have hb3:(e3 != 0)=false:=by rw [c4];rfl
     have HF:=uQ (HG.out.trans (if_pos c4))
     clear c4
     go_wp2
     go_ret
     rw [HF.out]
     exact ⟨_,rfl,rfl,h5⟩
    ·have hb3:(e3 != 0)=true:=bne_iff_ne.2 c4
     have HF:=uQ (HG.out.trans (if_neg c4))
     clear c4
     go_wp2
     go_ret
     rw [HF.out]
     exact ⟨_,rfl,rfl,h5⟩
   ·have hb3:(e2==11)=false:=beq_eq_false_iff_ne.2 c3
    have HF:=uQ (show Hin.write M s b=(M2,e2) from HY.out.trans (HE.out.trans ((if_neg c2).trans (if_neg c3))))
    clear c2 c3
    go_wp2
    go_ret
    rw [HF.out]
    exact ⟨_,rfl,rfl,h4⟩
  subst c2
  have hsy:=sync_c ok2 h4 Hin.tmp
  have ok3:=ok2.sync Hin.tmp
  have HG:=uQ (show Hin.write M s b=(if (M2.sync Hin.tmp).2=0 then (M2.sync Hin.tmp).1.rename Hin.tmp s else M2.sync Hin.tmp) from HY.out.trans (HE.out.trans (if_pos rfl)))
  generalize M2.sync Hin.tmp=r3 at *
  obtain ⟨M3,e3⟩:=r3
  dsimp only at hsy ok3
  clear h4 HY HE
  go_wp2_with fail
  refine hsy.mono ?_
  rintro ee w5 ⟨v,rfl,rfl,h5⟩
  clear hsy
  by_cases c4:e3=0
  rotate_left
  ·have hb3:(e3 != 0)=true:=bne_iff_ne.2 c4
   have HF:=uQ (show Hin.write M s b=(M3,e3) from HG.out.trans (if_neg c4))
   clear c4
   go_wp2
   go_ret
   rw [HF.out]
   exact ⟨_,rfl,rfl,h5⟩
  subst c4
  have hre:=rename_c ok3 oQ h5 Hin.tmp s Hs.out
  have HF:=uQ (show Hin.write M s b=M3.rename Hin.tmp s from HG.out.trans (if_pos rfl))
  generalize M3.rename Hin.tmp s=r4 at *
  obtain ⟨M4,e4⟩:=r4
  dsimp only at hre
  clear h5
  go_wp2_with fail
  refine hre.mono ?_
  rintro ee w6 ⟨v,rfl,rfl,h6⟩
  clear hre
  go_wp2
  go_ret
  rw [HF.out]
  exact ⟨_,rfl,rfl,h6⟩
end
abbrev capPt (b ps:Nat):HProp:=pt b (.cells #[ptr ps] 39 (0,0))
section
variable {w0 w:World}{F:List HProp}{m K b3 ps pi B:Nat}{M:Med}{n:Int}{uv tv:Value}{mp:Frm.Bs→Option Seg.Plc}
theorem hsave1_c (f:ByteArray) (hf:f.size≤4000000000) (h:Sat w0 w (capPt b3 ps::stPt ps n pi uv tv::F)) :
  Calls Tryz.prog 61 #[.string f,ptr b3] w (Rtn fun v w'=>v = .bool (Hin.other n f)∧Sat w0 w' (capPt b3 ps::stPt ps n pi uv tv::F)):=by
 have Ho:=uQ (show Hin.other n f=((Hin.number f).2 && (Hin.number f).1 != n) from rfl)
 have hn:=hnumber_c f hf h
 generalize Hin.number f=q at *
 obtain ⟨x,t⟩:=q
 dsimp only at hn
 clear h
 go_enter Tryz.func61,Tryz.ntmps61
 go_wp2_with fail
 refine hn.mono ?_
 rintro ee w1 ⟨v,rfl,rfl,h1⟩
 clear hn
 cases t with
 |false=>
  go_wp2_with fail
  go_ret
  exact ⟨_,rfl,by rw [Ho.out];rfl,h1⟩
 |true=>
  have e1:w1.cell? ⟨b3,0,none⟩=some (.pointer (some ⟨ps,0,none⟩)):=h1.cellP pick0 0 rfl
  have e2:w1.cell? ⟨ps,0,none⟩=some (.int .i64 n):=h1.cellP pick1 0 rfl
  go_wp2_with fail
  go_ret
  exact ⟨_,rfl,by rw [Ho.out];rfl,h1⟩
theorem ok_fill (hM:M.Ok K) (s:ByteArray) (b:Frm.Bs):(Hin.fill M s b).1.Ok (K+3):=by
 unfold Hin.fill
 split
 ·split
  ·exact ((hM.append _ _).sync _).rename _ _
  ·exact ((hM.append _ _).sync _).mono oQ
 ·split
  ·split
   ·exact ((hM.append _ _).remove _).mono oQ
   ·exact ((hM.append _ _).remove _).mono oQ
  ·exact (hM.append _ _).mono oQ
theorem ok_write (hM:M.Ok K) (s:ByteArray) (b:Frm.Bs):(Hin.write M s b).1.Ok (K+5):=by
 have hr:(Hin.remTmp M).1.Ok (K+1):=by
  unfold Hin.remTmp
  split
  ·exact hM.remove _
  ·exact hM.mono oQ
 unfold Hin.write
 split
 ·split
  ·exact ok_fill (hr.create _) _ _
  ·exact (hr.create _).mono oQ
 ·exact hr.mono oQ
theorem name_size {ld:ByteArray} (hl:ld.data.toList.length=4) (hg:ld.data.toList.all goodC=true) (h1:0≤n) (h2:n<1048576):(Hin.name ld n).size≤24∧((Hin.name ld n).toList==[])=false:=by
 have h:=Hin.name_good hl hg n h1 h2
 unfold good at h
 simp only [Bool.and_eq_true,decide_eq_true_eq]at h
 refine ⟨h.1.2,?_⟩
 rw [beq_eq_false_iff_ne,ByteArray.toList_eq]
 intro e
 have:=congrArg List.length e
 rw [Array.length_toList]at this
 have h3:(Hin.name ld n).size=0:=this
 omega
end
section
variable {w0 w:World}{F:List HProp}{m K b3 ps pi B:Nat}{M:Med}{n:Int}{uv tv:Value}{mp:Frm.Bs→Option Seg.Plc}
set_option maxRecDepth 20000 in
theorem sweepG_c (hM:M.Ok K) (hK:K+500≤1099511627776) (hno:∀ f∈M.list,f.size≤4000000000) (h:Sat w0 w (MedRep m M::capPt b3 ps::stPt ps n pi uv tv::F)) :
  Calls Tryz.prog 60 #[ptr m,.func (.func 61) #[] #[ptr b3]] w (Rtn fun v w'=>v=errno (Hin.sweep (Hin.other n) M.list M).2∧Sat w0 w' (MedRep m (Hin.sweep (Hin.other n) M.list M).1::capPt b3 ps::stPt ps n pi uv tv::F)):=by
 have hls:=list_c hM h
 have Hlen:=uQ (list_len hM)
 have Hn:=uQ hno;have HK:=uQ hK;have HM:=uQ hM
 clear hno hM hK
 generalize M.list=l at *
 obtain ⟨R,hR⟩:∃ R,Hin.sweep (Hin.other n) l M=R:=⟨_,rfl⟩
 have HR:=uQ hR
 rw [hR]
 clear hR
 go_enter Tryz.func60,Tryz.ntmps60
 go_wp2_with fail
 refine hls.mono ?_
 rintro e w1 ⟨v,rfl,hS,_⟩
 clear hls h
 obtain ⟨a,c,rfl⟩:=nm_sl (Sat.rd hS)
 go_wp2_with fail
 go_loopg [11] l.length (fun g iq wr=>∃ (i:Nat) (M2:Med),g=l.length - i∧i≤l.length∧iq = .int .i64 i∧(Hin.sweep (Hin.other n) (l.drop i) M2=R∧M2.Ok (K+i))∧Sat w0 wr (osl 9 1 (.slice a l.length c) (strs l)::MedRep m M2::capPt b3 ps::stPt ps n pi uv tv::F))
 case atStart=>exact ⟨0,M,rfl,Nat.zero_le _,rfl,⟨by rw [List.drop_zero];exact HR.out,HM.out⟩,hS⟩
 case round=>
  obtain ⟨i,M2,rfl,hi,rfl,⟨hsw,hok⟩,hS2⟩:=hrel
  clear hS
  by_cases hlt:i<l.length
  ·have c1:(i:Int)<(l.length:Int):=by omega
   have hwi:IntKind.i64.wrap ((i:Int)+1)=(i:Int)+1:=IntWalk.i64_in _ (by have:=Hlen.out;omega)
   obtain ⟨s,hs⟩:∃ s,l[i]?=some s:=⟨_,List.getElem?_eq_getElem hlt⟩
   obtain ⟨bk,off,rfl,hc⟩:=nm_cell (Sat.rd hS2) hs
   have hsz:=Hn.out s (List.mem_of_getElem? hs)
   have hd:l.drop i=s::l.drop (i+1):=by
    rw [List.drop_eq_getElem_cons hlt]
    rw [List.getElem?_eq_getElem hlt]at hs
    cases hs;rfl
   rw [hd]at hsw
   have Hlt:=uQ hlt;have Hok:=uQ hok
   have hcl:=hsave1_c s hsz (hS2.sb:Sat w0 wr (capPt b3 ps::stPt ps n pi uv tv::osl 9 1 (.slice (some ⟨bk,off,none⟩) l.length c) (strs l)::MedRep m M2::F))
   cases hso:Hin.other n s with
   |false=>
    have Hsw:=uQ (show Hin.sweep (Hin.other n) (l.drop (i+1)) M2=R by unfold Hin.sweep at hsw;rwa [if_neg (by rw [hso];decide)]at hsw)
    rw [hso]at hcl
    clear hs hlt hi hso hsw hd hok
    go_wp2_with fail
    refine hcl.mono ?_
    rintro e w2 ⟨v,rfl,rfl,hS3⟩
    clear hS2 hc hcl
    go_wp2_with fail
    go_roundg (l.length - (i+1))
    case measure=>have:=Hlt.out;omega
    case rel=>exact ⟨i+1,M2,rfl,Nat.succ_le_of_lt Hlt.out,by first|rfl|go_num,⟨Hsw.out,Hok.out.mono oQ⟩,hS3.sb⟩
   |true=>
    have Hsw:=uQ (show (if (M2.remove s).2=0 then Hin.sweep (Hin.other n) (l.drop (i+1)) (M2.remove s).1 else M2.remove s)=R by unfold Hin.sweep at hsw;rwa [if_pos hso]at hsw)
    rw [hso]at hcl
    have Hrm:=uQ (fun (w':World) (hw:Sat w0 w' (MedRep m M2::capPt b3 ps::stPt ps n pi uv tv::osl 9 1 (.slice (some ⟨bk,off,none⟩) l.length c) (strs l)::F))=>remove_c hok (by have:=HK.out;have:=Hlen.out;omega) hw s)
    have Hok2:=uQ (hok.remove s)
    generalize M2.remove s=q at *
    obtain ⟨M3,q3⟩:=q
    dsimp only at Hrm Hok2 Hsw
    clear hlt hi hso hsw hd hok
    go_wp2_with fail
    refine hcl.mono ?_
    rintro e w2 ⟨v,rfl,rfl,hS3⟩
    clear hS2 hcl
    have hS4:Sat w0 w2 (osl 9 1 (.slice (some ⟨bk,off,none⟩) l.length c) (strs l)::MedRep m M2::capPt b3 ps::stPt ps n pi uv tv::F):=hS3.sb
    obtain ⟨bk',off',hbo,hc'⟩:=nm_cell (Sat.rd hS4) hs
    cases hbo
    by_cases c3:q3=0
    ·have hb1:(q3 != 0)=false:=by rw [c3];rfl
     have Hs2:=uQ (show Hin.sweep (Hin.other n) (l.drop (i+1)) M3=R from (if_pos c3).symm.trans Hsw.out)
     clear c3 hc hs Hsw
     go_wp2_with fail
     refine (Hrm.out _ (hS3.sb)).mono ?_
     rintro e w3 ⟨v,rfl,rfl,hS5⟩
     clear hS3 hS4 hc'
     go_wp2_with fail
     go_roundg (l.length - (i+1))
     case measure=>have:=Hlt.out;omega
     case rel=>exact ⟨i+1,M3,rfl,Nat.succ_le_of_lt Hlt.out,by first|rfl|go_num,⟨Hs2.out,Hok2.out⟩,hS5.sb⟩
    ·have hb1:(q3 != 0)=true:=bne_iff_ne.2 c3
     have Hs2:=uQ (show (M3,q3)=R from (if_neg c3).symm.trans Hsw.out)
     clear c3 hc hs Hsw
     go_wp2_with fail
     refine (Hrm.out _ (hS3.sb)).mono ?_
     rintro e w3 ⟨v,rfl,rfl,hS5⟩
     clear hS3 hS4 hc'
     go_wp2_with fail
     go_ret
     exact ⟨_,rfl,by rw [← Hs2.out];rfl,by rw [← Hs2.out];exact hS5.sb⟩
  ·have c1:¬ (i:Int)<(l.length:Int):=by omega
   obtain rfl:i=l.length:=by omega
   have Hs2:=uQ (show (M2,0)=R by rw [List.drop_length]at hsw;exact hsw)
   clear hlt hi hsw hok
   go_wp2_with fail
   go_ret
   exact ⟨_,rfl,by rw [← Hs2.out];rfl,by rw [← Hs2.out];exact hS2.drop⟩
set_option maxRecDepth 20000 in
theorem hsaveG_c (hM:M.Ok K) (hK:K+600≤1099511627776) (hn0:0≤n) (hn1:n<1048576) (kv:List (Frm.Bs×Seg.Plc)) (hl:Tab.Lists mp kv) (hB:B≤13000000) (hk:∀ q∈kv,q.1.length=32) (us:List Rep.Use) (hoi:Bok.Ok 3 true (kv.map Rep.idxRw)) (hou:Bok.Ok 3 false (us.map Rep.useRw))
  (bi bu:Frm.Bs) (hbi:bi=Bok.book Xx.sum Bok.mgIdx true (kv.map Rep.idxRw)) (hbu:bu=Bok.book Xx.sum Bok.mgUse false (us.map Rep.useRw))
  (hno:∀ f∈(Hin.write (Hin.write M (Hin.name Hin.idx n) bi).1 (Hin.name Hin.use n) bu).1.syncDir.1.list,f.size≤4000000000)
  (h:Sat w0 w (stPt ps n pi uv tv::TabML pi mp B::osl 132 3 uv (us.flatMap uenc)::MedRep m M::F)) :
  Calls Tryz.prog 29 #[ptr m,ptr ps] w (Rtn fun v w'=>v=errno (Hin.save M n bi bu).2∧Sat w0 w' (stPt ps n pi uv tv::TabML pi mp B::osl 132 3 uv (us.flatMap uenc)::MedRep m (Hin.save M n bi bu).1::F)):=by
 obtain ⟨z1,z2⟩:=name_size (ld:=Hin.idx) rfl dCz hn0 hn1
 obtain ⟨z3,_⟩:=name_size (ld:=Hin.use) rfl dCz hn0 hn1
 have hkl:kv.length≤13000000:=by have:=hoi.len;rw [List.length_map]at this;omega
 have HM:=uQ hM;have HK:=uQ hK;have Hl:=uQ hl;have HB:=uQ hB;have Hk:=uQ hk;have Hoi:=uQ hoi;have Hou:=uQ hou;have Hno:=uQ hno;have Hkl:=uQ hkl
 have Hbi:=uQ hbi;have Hbu:=uQ hbu;have Hz1:=uQ z1;have Hz3:=uQ z3
 have Hnm:=uQ (fun (w':World) (R:List HProp) (hw:Sat w0 w' R)=>iname_c n hw)
 have Hum:=uQ (fun (w':World) (R:List HProp) (hw:Sat w0 w' R)=>uname_c n hw)
 have HS:=uQ (show Hin.save M n bi bu=if (Hin.write M (Hin.name Hin.idx n) bi).2=0 then Hin.save1 (Hin.write M (Hin.name Hin.idx n) bi).1 n bu else Hin.write M (Hin.name Hin.idx n) bi from rfl)
 clear hM hK hl hB hk hoi hou hno hbi hbu hkl z1 z3
 generalize hni:Hin.name Hin.idx n=ni at *
 generalize hnu:Hin.name Hin.use n=nu at *
 have Hnu:=uQ hnu
 clear hni hnu
 go_enter Tryz.func29,Tryz.ntmps29
 go_wp2_with (with_reducible apply at_box)
 refine ⟨wl_box h rFz rFz ?_⟩
 intro b3 w3 h3
 replace h3:Sat w0 w3 (capPt b3 ps::stPt ps n pi uv tv::TabML pi mp B::osl 132 3 uv (us.flatMap uenc)::MedRep m M::F):=h3
 clear h
 have e1:w3.cell? ⟨b3,0,none⟩=some (.pointer (some ⟨ps,0,none⟩)):=h3.cellP pick0 0 rfl
 have e2:w3.cell? ⟨ps,1,none⟩=some (.pointer (some ⟨pi,0,none⟩)):=h3.cellP pick1 1 rfl
 have e3:w3.cell? ⟨ps,0,none⟩=some (.int .i64 n):=h3.cellP pick1 0 rfl
 go_wp2_with fail
 refine (Hnm.out _ _ h3).mono ?_
 rintro ee w4 ⟨v,rfl,rfl,h4⟩
 clear h3 e1 e2 e3
 have e1:w4.cell? ⟨b3,0,none⟩=some (.pointer (some ⟨ps,0,none⟩)):=h4.cellP pick0 0 rfl
 have e2:w4.cell? ⟨ps,1,none⟩=some (.pointer (some ⟨pi,0,none⟩)):=h4.cellP pick1 1 rfl
 go_wp2_with fail
 refine (hrows_c Hl.out HB.out Hkl.out Hk.out (h4.sb:Sat w0 w4 (TabML pi mp B::capPt b3 ps::stPt ps n pi uv tv::osl 132 3 uv (us.flatMap uenc)::MedRep m M::F))).mono ?_
 rintro ee w5 ⟨rv,rfl,h5⟩
 clear h4 e1 e2
 go_wp2_with fail
 refine (bindex_c kv Hk.out Hoi.out (fun w hw=>Sat.rd hw) h5).mono ?_
 rintro ee w6 ⟨v,rfl,iv,rfl,h6⟩
 clear h5
 rw [← Hbi.out]at h6
 replace h6:Sat w0 w6 (abl iv bi::capPt b3 ps::stPt ps n pi uv tv::TabML pi mp B::osl 132 3 uv (us.flatMap uenc)::MedRep m M::F):=h6.sb
 have e1:w6.cell? ⟨b3,0,none⟩=some (.pointer (some ⟨ps,0,none⟩)):=h6.cellP pick1 0 rfl
 have e2:w6.cell? ⟨ps,2,none⟩=some uv:=h6.cellP pick2 2 rfl
 go_wp2_with fail
 refine (buses_c us Hou.out (fun w hw=>Sat.rd (hw.sb:Sat w0 w (osl 132 3 uv (us.flatMap uenc)::abl iv bi::capPt b3 ps::stPt ps n pi uv tv::TabML pi mp B::MedRep m M::F))) h6).mono ?_
 rintro ee w7 ⟨v,rfl,uw,rfl,h7⟩
 clear h6 e1 e2
 rw [← Hbu.out]at h7
 have e1:w7.cell? ⟨b3,0,none⟩=some (.pointer (some ⟨ps,0,none⟩)):=h7.cellP pick2 0 rfl
 have e3:w7.cell? ⟨ps,0,none⟩=some (.int .i64 n):=h7.cellP pick3 0 rfl
 go_wp2_with fail
 refine (Hnm.out _ _ h7).mono ?_
 rintro ee w8 ⟨v,rfl,rfl,h8⟩
 clear h7 e1 e3
 replace h8:Sat w0 w8 (MedRep m M::abl uw bu::abl iv bi::capPt b3 ps::stPt ps n pi uv tv::TabML pi mp B::osl 132 3 uv (us.flatMap uenc)::F):=h8.sb
 have hri:=(RS.of_abl (h8.sb:Sat w0 w8 (abl iv bi::MedRep m M::abl uw bu::capPt b3 ps::stPt ps n pi uv tv::TabML pi mp B::osl 132 3 uv (us.flatMap uenc)::F)))
 obtain ⟨ia,il,ic,rfl,_,_⟩:=hri.cap
 have hw1:=hwrite_c HM.out (by have:=HK.out;omega) ni (by have:=Hz1.out;omega) bi (bv:= .slice ia il ic) (fun w hw=>asl_rd (hw.sb:Sat w0 w (abl (.slice ia il ic) bi::abl uw bu::capPt b3 ps::stPt ps n pi uv tv::TabML pi mp B::osl 132 3 uv (us.flatMap uenc)::F))) ⟨_,_,_,rfl⟩ h8
 have ok1:=ok_write HM.out ni bi
 clear hri
 generalize Hin.write M ni bi=r1 at *
 obtain ⟨M1,q1⟩:=r1
 dsimp only at hw1 ok1 HS Hno
 go_wp2_with fail
 refine hw1.mono ?_
 rintro ee w9 ⟨v,rfl,rfl,h9⟩
 clear hw1 h8
 by_cases c1:q1=0
 rotate_left
 ·have hb1:(q1 != 0)=true:=bne_iff_ne.2 c1
  have HF:=uQ (show Hin.save M n bi bu=(M1,q1) from HS.out.trans (if_neg c1))
  clear c1
  go_wp2_with fail
  go_ret
  exact ⟨_,rfl,by rw [HF.out];rfl,by rw [HF.out];exact h9.sb⟩
 ·have HS1:=uQ (show Hin.save M n bi bu=(if (Hin.write M1 (Hin.name Hin.use n) bu).2=0 then Hin.save2 (Hin.write M1 (Hin.name Hin.use n) bu).1 n else Hin.write M1 (Hin.name Hin.use n) bu) from HS.out.trans (if_pos c1))
  rw [Hnu.out]at HS1
  subst c1
  have e1:w9.cell? ⟨b3,0,none⟩=some (.pointer (some ⟨ps,0,none⟩)):=h9.cellP pick3 0 rfl
  have e3:w9.cell? ⟨ps,0,none⟩=some (.int .i64 n):=h9.cellP (pick_there pick3) 0 rfl
  go_wp2_with fail
  refine (Hum.out _ _ h9).mono ?_
  rintro ee w10 ⟨v,rfl,rfl,h10⟩
  clear h9 e1 e3
  replace h10:Sat w0 w10 (MedRep m M1::abl uw bu::capPt b3 ps::stPt ps n pi uv tv::TabML pi mp B::osl 132 3 uv (us.flatMap uenc)::F):=h10.sb
  have hri:=(RS.of_abl (h10.sb:Sat w0 w10 (abl uw bu::MedRep m M1::capPt b3 ps::stPt ps n pi uv tv::TabML pi mp B::osl 132 3 uv (us.flatMap uenc)::F)))
  obtain ⟨ua,ul,uc,rfl,_,_⟩:=hri.cap
  have hw2:=hwrite_c ok1 (by have:=HK.out;omega) nu (by have:=Hz3.out;omega) bu (bv:= .slice ua ul uc) (fun w hw=>asl_rd (hw.sb:Sat w0 w (abl (.slice ua ul uc) bu::capPt b3 ps::stPt ps n pi uv tv::TabML pi mp B::osl 132 3 uv (us.flatMap uenc)::F))) ⟨_,_,_,rfl⟩ h10
  have ok2:=ok_write ok1 nu bu
  clear hri HS
  generalize Hin.write M1 nu bu=r2 at *
  obtain ⟨M2,q2⟩:=r2
  dsimp only at hw2 ok2 HS1 Hno
  go_wp2_with fail
  refine hw2.mono ?_
  rintro ee w11 ⟨v,rfl,rfl,h11⟩
  clear hw2 h10
  by_cases c2:q2=0
  rotate_left
  ·have hb1:(q2 != 0)=true:=bne_iff_ne.2 c2
   have HF:=uQ (show Hin.save M n bi bu=(M2,q2) from HS1.out.trans (if_neg c2))
   clear c2
   go_wp2_with fail
   go_ret
   exact ⟨_,rfl,by rw [HF.out];rfl,by rw [HF.out];exact h11.sb⟩
  ·have HS2:=uQ (show Hin.save M n bi bu=(if M2.syncDir.2=0 then Hin.sweep (Hin.other n) M2.syncDir.1.list M2.syncDir.1 else M2.syncDir) from HS1.out.trans (if_pos c2))
   subst c2
   have hsd:=syncDir_c ok2 h11
   have ok3:=ok2.syncDir
   clear HS1
   generalize M2.syncDir=r3 at *
   obtain ⟨M3,q3⟩:=r3
   dsimp only at hsd ok3 HS2 Hno
   go_wp2_with fail
   refine hsd.mono ?_
   rintro ee w12 ⟨v,rfl,rfl,h12⟩
   clear hsd h11
   by_cases c3:q3=0
   rotate_left
   ·have hb1:(q3 != 0)=true:=bne_iff_ne.2 c3
    have HF:=uQ (show Hin.save M n bi bu=(M3,q3) from HS2.out.trans (if_neg c3))
    clear c3
    go_wp2_with fail
    go_ret
    exact ⟨_,rfl,by rw [HF.out];rfl,by rw [HF.out];exact h12.sb⟩
   ·have HF:=uQ (show Hin.save M n bi bu=Hin.sweep (Hin.other n) M3.list M3 from HS2.out.trans (if_pos c3))
    subst c3
    have hsw:=sweepG_c ok3 (by have:=HK.out;omega) Hno.out (h12.sb:Sat w0 w12 (MedRep m M3::capPt b3 ps::stPt ps n pi uv tv::TabML pi mp B::osl 132 3 uv (us.flatMap uenc)::F))
    generalize Hin.sweep (Hin.other n) M3.list M3=r4 at *
    obtain ⟨M4,q4⟩:=r4
    dsimp only at hsw HF
    go_wp2_with fail
    refine hsw.mono ?_
    rintro ee w13 ⟨v,rfl,rfl,h13⟩
    clear hsw
    go_wp2_with fail
    go_ret
    exact ⟨_,rfl,by rw [HF.out];rfl,by rw [HF.out];exact h13.sb⟩
end
section
variable {w0 w:World}{F:List HProp}{p m K r ps pn B r0 E B0 n:Nat}{L:Seg.Log}{M:Med}{C:List (List Frm.Ent)}{seg:Int}{d:Bool}{mp:Frm.Bs→Option Seg.Plc}
structure Comd (K r0 E B0 n:Nat) (L:Seg.Log) (M:Med) (C C2:List (List Frm.Ent)) (N:Int) (us:List Rep.Use) (pl:List (Frm.Bs×Seg.Plc)) (B2:Nat):Prop where
 rp:Seg.Rp K r0 E B0 n L M C2
 row:∃ row,Rep.rowsC 0 C2=Rep.rowsC 0 C++[row]∧row.2.e=Seg.comEnt
 flat:C2.flatten=C.flatten++[Seg.comEnt]
 ends:∃ es,C2≠[]∧C2[C2.length - 1]?=some es∧Rep.endsC es=true
 off:L.on=false
 last:N=(C2.length:Int) - 1
 hint:Seg.HintOk L C2.length us pl
 len:B2≤n∧us.length≤n∧pl.length≤n
 now:Tab.mapOf pl=Rep.nowOf (Rep.rowsC 0 C2)
 st:Seg.St0 C2 N us pl
set_option maxRecDepth 20000 in
theorem rpcomY_c (hR:Seg.Rp K r0 E B0 n L M C) (hn:n≤200) (hE:E≤200) (hK:K≤1048576) (hz:(L.append M Seg.comEnt).2.2=0) (hH:Ro w0 F Half) (h:Sat w0 w (rpPt r m seg p ps pn true::TabML pn mp B::LogRep p m L::MedRep m M::F)) :
  Calls Tryz.prog 33 #[ptr r] w (Rtn fun v w'=>∃ (ps' pi B2:Nat) (uv tv:Value) (N:Int) (us:List Rep.Use) (pl:List (Frm.Bs×Seg.Plc)) (M3:Med) (C2:List (List Frm.Ent)) (b:Nat),v=errno 0∧(Comd (K+605) r0 (E+2) (B0+b) (n+1) (L.commit M).1.1 M3 C C2 N us pl B2∧(b≤40+56 * (n+1)∧((n+1) * 400+B0+b≤r0→Seg.HF M3 N pl us))∧∃ a c,tv = .slice a 0 c) ∧
   Sat w0 w' (rpPt r m seg p ps' pn false::stPt ps' N pi uv tv::TabML pi (Tab.mapOf pl) B2::osl 132 3 uv (us.flatMap uenc)::TabML pn mp B::LogRep p m (L.commit M).1.1::MedRep m M3::F)):=by
 obtain ⟨z1,z2,C2,z3,z4,z5,z6⟩:=hR.commit oQ hz
 have hcm:=lcommit_c (Ro.os hH) hR.hg.keeps.log hR.hg.keeps.calm.ok oQ (h.sb:Sat w0 w (LogRep p m L::MedRep m M::rpPt r m seg p ps pn true::TabML pn mp B::F))
 generalize L.commit M=q at *
 obtain ⟨⟨L2,M2⟩,n2,e2⟩:=q
 dsimp only at hcm z1 z2 z3 ⊢
 subst z1
 have e5:w.cell? ⟨r,5,none⟩=some (.bool true):=h.cellAt 5 _ rfl
 have e2':w.cell? ⟨r,2,none⟩=some (.pointer (some ⟨p,0,none⟩)):=h.cellAt 2 _ rfl
 have hok:=rokY_c h
 have R2:=uQ z3;have Z2:=uQ z2;have Z4:=uQ z4;have Z5:=uQ z5;have Z6:=uQ z6;have HH:=uQ hH;have Hn:=uQ hn;have HE:=uQ hE;have HK:=uQ hK
 clear h hz hR hn hE hK hH z2 z3 z4 z5 z6
 go_enter Tryz.func33,Tryz.ntmps33
 go_wp2_with fail
 refine hok.mono ?_
 rintro ee w1 ⟨v,rfl,rfl,rfl⟩
 go_wp2_with fail
 refine hcm.mono ?_
 rintro ee w2 ⟨v,rfl,rfl,h2⟩
 clear hcm hok e5 e2'
 go_wp2_with (with_reducible apply at_store)
 refine ⟨wl_store (cs':=#[ptr m,.int .i64 seg,ptr p,ptr ps,ptr pn,.bool false]) (h2.sb:Sat w0 w2 (rpPt r m seg p ps pn true::LogRep p m L2::MedRep m M2::TabML pn mp B::F)) rFz rFz rFz upd0 nLz kRz rFz ?_⟩
 intro w3 h3
 clear h2
 have e2':w3.cell? ⟨r,2,none⟩=some (.pointer (some ⟨p,0,none⟩)):=h3.cellAt 2 _ rfl
 have HL:=uQ R2.out.hg.keeps.log;have HC:=uQ R2.out.hg.keeps.calm
 have hrn:=run_c HL.out HC.out.ok (Ro.os HH.out) (Nat.le_trans R2.out.rows_len (by have:=Hn.out;omega)) R2.out.rows_size (h3.sb:Sat w0 w3 (LogRep p m L2::MedRep m M2::rpPt r m seg p ps pn false::TabML pn mp B::F))
 clear h3
 go_wp2_with fail
 refine hrn.mono ?_
 rintro ee w5 ⟨v,rfl,ho⟩
 clear hrn e2'
 obtain ⟨hrun,hsl,hpos,htk,hlast⟩:=R2.out.run Z6.out
 have hrun':Rep.run (lbt L2 M2) L2.segs = .inr C2.length:=hrun
 unfold RunOut at ho
 rw [hrun']at ho
 obtain ⟨ps',pi,uv,tv,av,kv,rfl,⟨hk1,hk3,hk4⟩,⟨⟨ta,tc,rfl⟩,htv⟩,h5⟩:=ho
 rw [htk]at hk1 hk4 h5
 rw [hlast,hsl,Nat.sub_self]at h5
 clear htv
 have hcn:C2.length≤n+1:=R2.out.hg.count
 have hkn:kv.length≤n+1:=Nat.le_trans hk4 R2.out.rows_len
 have Hho:=uQ (show Seg.HintOk L2 C2.length ((Rep.usesOf (lbt L2 M2) L2.segs).map (Rep.upd kv)) (Rep.puts kv) from R2.out.hint hk1 hk3)
 have Hst:=uQ (show Seg.St0 C2 ((C2.length:Int) - 1) ((Rep.usesOf (lbt L2 M2) L2.segs).map (Rep.upd kv)) (Rep.puts kv) from by
  refine ⟨rfl,⟨kv,?_,hk3,?_,rfl⟩,.inr (Z6.out.imp fun es q=>q.2)⟩
  ·have e:=R2.out.rows
   have hk:=hk1
   rw [show Rep.rowsOf (lbt L2 M2) L2.segs=Rep.rowsC 0 C2 from e]at hk
   exact hk
  ·rw [show Rep.usesOf (lbt L2 M2) L2.segs=Seg.usC C2 from R2.out.hg.uses])
 have Hnow:=uQ (show Tab.mapOf (Rep.puts kv)=Rep.nowOf (Rep.rowsC 0 C2) by rw [Rep.puts_now hk1];exact congrArg Rep.nowOf R2.out.rows)
 have Hpl:=uQ (show (Rep.puts kv).length≤n+1 from Nat.le_trans (by unfold Rep.puts;rw [List.length_map];exact List.length_filter_le _ _) hkn)
 have Hkl:=uQ hkn
 have Hul:=uQ (show ((Rep.usesOf (lbt L2 M2) L2.segs).map (Rep.upd kv)).length≤n+1 by unfold Rep.usesOf;rw [List.length_map,List.length_map,hsl];exact hcn)
 have Hli:=uQ (show Tab.Lists (Tab.mapOf (Rep.puts kv)) (Rep.puts kv) from Tab.mapOf_lists (Rep.puts_rise hk1.rise))
 have Hc0:=uQ hpos;have Hcn:=uQ hcn
 clear hrun hrun' hk1 hk3 hk4 hlast hsl hpos htk hcn hkn
 generalize (Rep.usesOf (lbt L2 M2) L2.segs).map (Rep.upd kv)=us at *
 generalize kv.length=B2 at *
 generalize Rep.puts kv=pl at *
 have Hoi:=uQ (Hin.HintOk.idx Hho.out HL.out (by have:=Hpl.out;have:=Hn.out;omega))
 have Hou:=uQ (Hin.HintOk.uses Hho.out HL.out (by have:=Hul.out;have:=Hn.out;omega))
 have HB:=uQ (show (Bok.book Xx.sum Bok.mgIdx true (pl.map Rep.idxRw)).length+(Bok.book Xx.sum Bok.mgUse false (us.map Rep.useRw)).length≤40+56 * (n+1) by
  rw [Bok.book_len (k:=3) rfl Hoi.out.row,Bok.book_len (k:=3) rfl Hou.out.row,List.length_map,List.length_map,show Bok.rowSz true 3=44 from rfl,show Bok.rowSz false 3=12 from rfl]
  have:=Hpl.out;have:=Hul.out;omega)
 have HN:=uQ (show 0≤(C2.length:Int) - 1∧(C2.length:Int) - 1<1048576 by have:=Hc0.out;have:=Hcn.out;have:=Hn.out;omega)
 obtain ⟨N,hN⟩:∃ N,N=(C2.length:Int) - 1:=⟨_,rfl⟩
 rw [← hN]at h5
 have HNe:=uQ hN
 rw [← hN]at HN Hst
 clear hN
 go_wp2_with (with_reducible apply at_alloc)
 refine ⟨wl_alloc zFlt h5 rfl ?_⟩
 intro b10 w6 h6
 clear h5
 go_wp2_with (with_reducible apply at_store)
 refine ⟨wl_storeA (fltA Rep.Flt.zero) h6 rFz rFz rFz upd0 kRz rFz ?_⟩
 intro w7 h7
 clear h6
 go_wp2_with (with_reducible apply at_store)
 refine ⟨wl_store (cs':=#[ptr m,.int .i64 seg,ptr p,ptr ps',ptr pn,.bool false]) (h7.sb:Sat w0 w7 (rpPt r m seg p ps pn false::stPt ps' N pi uv (.slice ta 0 tc)::TabML pi (Tab.mapOf pl) B2::osl 132 3 uv (us.flatMap uenc)::TabML pn mp B::LogRep p m L2::MedRep m M2::F)) rFz rFz rFz upd0 nLz kRz rFz ?_⟩
 intro w8 h8
 clear h7
 obtain ⟨bi,hbi⟩:∃ bi,bi=Bok.book Xx.sum Bok.mgIdx true (pl.map Rep.idxRw):=⟨_,rfl⟩
 obtain ⟨bu,hbu⟩:∃ bu,bu=Bok.book Xx.sum Bok.mgUse false (us.map Rep.useRw):=⟨_,rfl⟩
 have hB:=HB.out
 rw [← hbi,← hbu]at hB
 obtain ⟨s1,s2,s3⟩:=R2.out.save (by have:=Hn.out;have:=HE.out;omega) HN.out.1 HN.out.2 bi bu
 have hsv:=hsaveG_c HC.out.ok (by have:=HK.out;omega) HN.out.1 HN.out.2 pl Hli.out (by have:=Hkl.out;have:=Hn.out;omega) Hho.out.key us Hoi.out Hou.out bi bu hbi hbu s3
  (h8.sb:Sat w0 w8 (stPt ps' N pi uv (.slice ta 0 tc)::TabML pi (Tab.mapOf pl) B2::osl 132 3 uv (us.flatMap uenc)::MedRep m M2::rpPt r m seg p ps' pn false::TabML pn mp B::LogRep p m L2::F))
 have e0':w8.cell? ⟨r,0,none⟩=some (ptr m):=h8.cellAt 0 _ rfl
 have s4:=Hin.save_calm (b1:=bi) (b2:=bu) R2.out.hg.keeps.calm R2.out.tmp (by have:=R2.out.hg.names;have:=Hn.out;have:=HE.out;omega) HN.out.1 HN.out.2
 have hu2:=R2.out.hg.used
 generalize Hin.save M2 N bi bu=q at *
 obtain ⟨M3,e3⟩:=q
 dsimp only at hsv s1 s2
 have Hhf:=uQ (show bi.length+bu.length≤40+56 * (n+1)∧((n+1) * 400+B0+(bi.length+bu.length)≤r0→Seg.HF M3 N pl us) from ⟨hB,fun hrm=>by
  have hz:=s4.room oQ
  have hd:=s4.done.resolve_right (by simp only at hz ⊢;omega)
  refine ⟨by rw [← hbi];exact hd.2.1,by rw [← hbu];exact hd.2.2,fun p hp hnm=>?_⟩
  have:=s4.gone hz p hp
  unfold Hin.other at this
  rw [hnm]at this
  simpa using this⟩)
 have HCo:=uQ (show Comd (K+605) r0 (E+2) (B0+(bi.length+bu.length)) (n+1) L2 M3 C C2 N us pl B2 from ⟨s1.mono oQ (Nat.le_refl _) oQ (Nat.le_refl _),Z4.out,Z5.out,Z6.out,Z2.out,HNe.out,Hho.out,⟨Hkl.out,Hul.out,Hpl.out⟩,Hnow.out,Hst.out⟩)
 clear h8 s1 s3 s4 hu2 hB hbi hbu
 go_wp2_with fail
 refine hsv.mono ?_
 rintro ee w9 ⟨v,rfl,rfl,h9⟩
 clear hsv e0'
 rcases s2 with rfl|rfl
 ·go_wp2_with fail
  go_ret
  exact ⟨_,rfl,ps',pi,B2,uv,_,N,us,pl,M3,C2,_,rfl,⟨HCo.out,Hhf.out,ta,tc,rfl⟩,h9.sb⟩
 ·go_wp2_with fail
  go_ret
  exact ⟨_,rfl,ps',pi,B2,uv,_,N,us,pl,M3,C2,_,rfl,⟨HCo.out,Hhf.out,ta,tc,rfl⟩,h9.sb⟩
end
theorem sizeE {K:Nat}{M:Med} (h:M.Ok K) (ho:M.off=false):M.size ByteArray.empty=(0,9):=by
 have hn:nget M.now ByteArray.empty=none:=by
  cases hi:nget M.now ByteArray.empty with
  |none=>rfl
  |some i=>exact absurd rfl (h.nowOk.ne _ (nget_mem hi))
 unfold Med.size
 rw [ho,hn];rfl
section
variable {w0 w:World}{F:List HProp}{r m K r0 E n:Nat}{seg:Int}{o oc:Frm.Bs→Option Frm.Bs}{d:Bool}{k:Frm.Bs}
end
abbrev Fs:=List (Frm.Fnd×Value)
abbrev Sg:=Int×Fs×Value
def fnL (y:Sg):List Frm.Fnd:=y.2.1.map (·.1)
def sgL (y:Sg):List Value:=[.int .i64 y.1,y.2.2,.int .i64 (Cpt.pay (fnL y))]
theorem sgL_len (y:Sg):(sgL y).length=3:=rfl
def bagF (ys:List Sg):HProp:=stars (ys.flatMap fun y=>[osl 113 36 y.2.2 (fndsL y.2.1),dataF y.2.1])
section
variable {w0 w:World}{F:List HProp}{ys:List Sg}{y:Sg}
theorem bagF_add (h:Sat w0 w (osl 113 36 y.2.2 (fndsL y.2.1)::dataF y.2.1::bagF ys::F)):Sat w0 w (bagF (y::ys)::F):=
 Sat.star.2 ((Sat.star.2 (h.sb:Sat w0 w (dataF y.2.1::bagF ys::osl 113 36 y.2.2 (fndsL y.2.1)::F))).sb)
theorem bagF_mem {A:HProp} (hq:y∈ys) (hA:A=osl 113 36 y.2.2 (fndsL y.2.1)∨A=dataF y.2.1) (h:Sat w0 w (bagF ys::F)):∃ G,Sat w0 w (A::G):=by
 obtain ⟨G,hG⟩:=stars_mem (ys.flatMap fun y=>[osl 113 36 y.2.2 (fndsL y.2.1),dataF y.2.1]) A (List.mem_flatMap.2 ⟨y,hq,by rcases hA with rfl|rfl <;> simp⟩)
 unfold bagF at h
 rw [hG]at h
 exact ⟨_,Sat.star.1 h⟩
theorem bagF_rd (hq:y∈ys) (h:Sat w0 w (bagF ys::F)):rdsl 36 y.2.2 (fndsL y.2.1) w:=by
 obtain ⟨G,hG⟩:=bagF_mem hq (.inl rfl) h
 exact Sat.rd hG
theorem bagF_data {f:Frm.Fnd}{dv:Value} (hq:y∈ys) (hf:(f,dv)∈y.2.1) (h:Sat w0 w (bagF ys::F)):∃ a n c,dv = .slice a n c∧n=f.e.data.length∧rdsl 1 dv (bys f.e.data) w:=by
 obtain ⟨G,hG⟩:=bagF_mem hq (.inr rfl) h
 obtain ⟨i,hi⟩:=List.getElem?_of_mem hf
 have r:=dataF_ro hi w hG
 obtain ⟨a,n,c,e,hn,_⟩:=r
 have h2:f.e.data.length=n * 1:=by rw [← bys_len];exact hn
 exact ⟨a,n,c,e,by omega,dataF_ro hi w hG⟩
variable {r m p ps pn:Nat}{seg:Int}{d:Bool}
theorem rplog_c (h:Sat w0 w (rpPt r m seg p ps pn d::F)):Calls Tryz.prog 23 #[ptr r] w (Rtn fun v w'=>v=ptr p∧w=w'):=by
 have e2:w.cell? ⟨r,2,none⟩=some (.pointer (some ⟨p,0,none⟩)):=h.cellAt 2 _ rfl
 have hok:=rokY_c h
 clear h
 go_enter Tryz.func23,Tryz.ntmps23
 go_wp2_with fail
 refine hok.mono ?_
 rintro ee w1 ⟨v,rfl,rfl,rfl⟩
 go_wp2_with fail
 go_ret
 exact ⟨_,rfl,rfl,rfl⟩
end
section
variable {P:Program}{w0 w:World}{L:List HProp}{ops:Array Oper}{a:Act}{Q:Exit→Act→World→Prop}{dst:Option Tmp}{t ty:TypeId}{pos:String}{after:Array Edge}{K:Act→World→Prop}{E:Prop}
theorem eff_makeMap (d:TypeDesc) (hs:Sat w0 w L) (hK:∀ b w',Sat w0 w' (omap d b []::L)→K (a.put dst (.map (some b))) w') :
  if Region.wanted ⟨dst,.makeMap ty none,t,pos,after,none⟩ (yielded ops a.tmps)=true then Oper.wp P ⟨dst,.makeMap ty none,t,pos,after,none⟩ a w K Q else E:=by
 refine eff_of rfl ?_
 have hS:=hs.omap_new d
 unfold Oper.wp execOp
 simp only [Option.map_none,Sem.run_bind,Sem.run_pure,run_makeMap,Result.andThen_ok]
 exact hK _ _ hS
end
end Go.Proofs.YtfdchfnmpabogaaGreatDoor
namespace Go.Cpt
open Go.Frm (Bs Fnd Ent fnds encs GoodE)
open Go.Seg (Plc)
open Go.Rep
def segsC (C:List (List Ent)):List (Int×List Fnd):=(List.range' 0 C.length).map fun j:Nat=>((j:Int),fnds (C.getD j []) 8)
def rowsS (l:List (Int×List Fnd)):List Row:=l.flatMap fun x=>x.2.map fun f=>(x.1,f)
def keysR (rs:List Row):Bs→Option Kv:=rs.foldl takeR fun _=>none
section
variable {C:List (List Ent)}
theorem segsC_len:(segsC C).length=C.length:=by unfold segsC;rw [List.length_map,List.length_range']
theorem segsC_get {k:Nat}{es:List Ent} (hk:C[k]?=some es):(segsC C)[k]?=some ((k:Int),fnds es 8):=by
 have hl:k<C.length:=(List.getElem?_eq_some_iff.1 hk).1
 unfold segsC
 rw [List.getElem?_map,List.getElem?_range' hl,Option.map_some,Nat.one_mul,Nat.zero_add,List.getD_eq_getElem?_getD,hk,Option.getD_some]
theorem rowsS_snoc (l:List (Int×List Fnd)) (x:Int×List Fnd):rowsS (l++[x])=rowsS l++x.2.map fun f=>(x.1,f):=by
 unfold rowsS
 rw [List.flatMap_append,List.flatMap_cons,List.flatMap_nil,List.append_nil]
theorem keysR_snoc (rs:List Row) (r:Row):keysR (rs++[r])=takeR (keysR rs) r:=by
 unfold keysR
 rw [List.foldl_append]
 rfl
theorem kseg_len (c:List Int) (s t:Int):(kseg c s t).length≤c.length+1:=by
 unfold kseg
 split
 ·rw [List.length_append];exact Nat.le_refl _
 ·omega
theorem takeR_len (m:Bs→Option Kv) (r:Row) (k:Bs) (n:Nat) (h:∀ k,(kv0 m k).1.length≤n):(kv0 (takeR m r) k).1.length≤n+1:=by
 unfold takeR
 split
 ·have:=h k;omega
 ·unfold takeK kv0 Tab.put
  by_cases hk:k=rkey r
  ·simp only [if_pos hk,Option.getD_some]
   have:=kseg_len (kv0 m (rkey r)).1 r.1 (rtag r)
   have:=h (rkey r)
   unfold kv0 at *
   omega
  ·simp only [if_neg hk]
   have:=h k
   unfold kv0 at this
   omega
theorem foldl_len:∀ (rs:List Row) (m:Bs→Option Kv) (n:Nat),(∀ k,(kv0 m k).1.length≤n)→∀ k,(kv0 (rs.foldl takeR m) k).1.length≤n+rs.length
 |[],m,n,h,k=>h k
 |r::rs,m,n,h,k=>by
  have:=foldl_len rs (takeR m r) (n+1) (fun k=>takeR_len m r k n h) k
  rw [List.foldl_cons,List.length_cons]
  omega
theorem keysR_len (rs:List Row) (k:Bs):(kv0 (keysR rs) k).1.length≤rs.length:=by
 have:=foldl_len rs (fun _=>none) 0 (fun _=>Nat.le_refl _) k
 unfold keysR
 omega
theorem rowsS_len:∀ (k:Nat) (C:List (List Ent)),(rowsS ((List.range' k C.length).map fun j:Nat=>((j:Int),fnds (C.getD (j - k) []) 8))).length=C.flatten.length
 |k,[]=>rfl
 |k,es::C=>by
  have ih:=rowsS_len (k+1) C
  unfold rowsS at *
  rw [List.length_cons,List.range'_succ,List.map_cons,List.flatMap_cons,List.length_append,List.flatten_cons,List.length_append,List.length_map]
  congr 1
  ·rw [Nat.sub_self]
   show (fnds es 8).length=_
   rw [← List.length_map (f:=fun f:Fnd=>f.e),Frm.fnds_e]
  ·refine Eq.trans ?_ ih
   congr 2
   refine List.map_congr_left fun j hj=>?_
   have:=(List.mem_range'.1 hj)
   obtain ⟨i,_,e⟩:=this
   rw [show j - k=(j - (k+1))+1 by omega]
   rfl
theorem rowsS_all:(rowsS (segsC C)).length=C.flatten.length:=rowsS_len 0 C
theorem rowsS_take (l:List (Int×List Fnd)) (i:Nat):(rowsS (l.take i)).length≤(rowsS l).length:=by
 have e:rowsS l=rowsS (l.take i)++rowsS (l.drop i):=by
  unfold rowsS
  rw [← List.flatMap_append,List.take_append_drop]
 rw [e,List.length_append]
 omega
theorem pay_take:∀ (es:List Ent) (a j:Nat) (f:Fnd),(fnds es a)[j]?=some f→0≤pay ((fnds es a).take j)∧pay ((fnds es a).take j)+(f.size:Int)≤((encs es).length:Int)
 |[],a,j,f,h=>by cases h
 |e::es,a,0,f,h=>by
  have e1:f.size≤(encs (e::es)).length:=by
   cases h
   show _≤((Frm.encode e).1++encs es).length
   rw [List.length_append]
   exact Nat.le_add_right ..
  rw [List.take_zero]
  unfold pay
  omega
 |e::es,a,j+1,f,h=>by
  have ih:=pay_take es (a+(Frm.encode e).1.length) j f h
  have e1:(encs (e::es)).length=(Frm.encode e).1.length+(encs es).length:=by
   show ((Frm.encode e).1++encs es).length=_
   rw [List.length_append]
  have e2:pay ((fnds (e::es) a).take (j+1))=(if e.tag=2 then 0 else ((Frm.encode e).1.length:Int))+pay ((fnds es (a+(Frm.encode e).1.length)).take j):=rfl
  rw [e1,e2]
  split <;> omega
end
end Go.Cpt
namespace Go.Proofs.YtfdchfnmpabogaaGreatDoor
open Go Go.Sl Go.Med Go.MapKept Go.RowKit
section
variable {w0 w:World}{F:List HProp}{r m p ps pn pi B:Nat}{seg N:Int}{d:Bool}{uv tv:Value}{mi:Frm.Bs→Option Seg.Plc}{us:List Rep.Use}{xs:List Value}
theorem cloneU_c (h1:∀ u∈xs,u.oneCell'=true) (hl:xs.length≤2147483648) (h:Sat w0 w (osl 132 3 uv xs::F)) :
  Calls Tryz.prog 63 #[uv] w (Rtn fun v w'=>Sat w0 w' (osl 132 3 v xs::osl 132 3 uv xs::F)):=by
 have H1:=uQ h1;have Hl:=uQ hl
 obtain ⟨a,n,c,rfl,hn,hcs⟩:=Sat.rd h
 clear h1 hl
 cases a with
 |none=>
  have hx:xs=[]:=by
   cases xs with
   |nil=>rfl
   |cons x xs=>obtain ⟨_,e,_⟩:=hcs 0 x rfl;cases e
  subst hx
  obtain rfl:n=0:=by simp only [List.length_nil]at hn;omega
  have he:∀ w,(binOp .eql 83 (.slice none 0 c) (.slice none 0 0)).run Tryz.prog w = .ok (.bool true) w:=fun w=>by first|kernel_rfl|rfl
  go_enter Tryz.func63,Tryz.ntmps63
  go_wp2_with fail
  go_ret
  exact ⟨_,rfl,Sat.osl_nil.2 h⟩
 |some ad=>
  clear hn hcs
  have he:∀ w,(binOp .eql 83 (.slice (some ad) n c) (.slice none 0 0)).run Tryz.prog w = .ok (.bool false) w:=fun w=>by first|kernel_rfl|rfl
  go_enter Tryz.func63,Tryz.ntmps63
  go_wp2_with (first
   |((with_reducible refine at_slice0 ⟨?_⟩);refine wl_slice0 (e:=132) (sz:=3) (by':=24) kRz h ?_;intro bN wN hN)
   |(with_reducible apply at_append))
  refine ⟨wl_appD 132 3 24 kRz hN rFz rFz pick0 (Sat.rd hN.drop) H1.out (by have:=Hl.out;simp only [List.length_nil];omega) dCz ?_⟩
  intro v' w' hS
  rw [List.nil_append]at hS
  go_wp2_with fail
  go_ret
  exact ⟨_,rfl,hS⟩
theorem uenc_ones (us:List Rep.Use):∀ u∈us.flatMap uenc,u.oneCell'=true:=fun u hu=>by
 obtain ⟨x,_,hx⟩:=List.mem_flatMap.1 hu
 unfold uenc at hx
 simp only [List.mem_cons,List.not_mem_nil,or_false]at hx
 rcases hx with rfl|rfl|rfl <;> rfl
set_option maxRecDepth 20000 in
theorem rpstate_c (hB:B≤14000000) (hu:us.length≤65536) (h:Sat w0 w (rpPt r m seg p ps pn d::stPt ps N pi uv tv::TabML pi mi B::osl 132 3 uv (us.flatMap uenc)::F)) :
  Calls Tryz.prog 31 #[ptr r] w (Rtn fun v w'=>∃ (q qi:Nat) (vv:Value),v=ptr q∧Sat w0 w' (stPt q N qi vv (.slice none 0 0)::TabML qi mi B::osl 132 3 vv (us.flatMap uenc)::rpPt r m seg p ps pn d::stPt ps N pi uv tv::TabML pi mi B::osl 132 3 uv (us.flatMap uenc)::F)):=by
 have Hul:=uQ (show (us.flatMap uenc).length≤2147483648 by rw [rows_len (k:=3) (fun u _=>uenc_len u)];omega)
 have HB:=uQ hB
 have hok:=rokY_c h
 clear hu hB
 go_enter Tryz.func31,Tryz.ntmps31
 go_wp2_with fail
 refine hok.mono ?_
 rintro ee w1 ⟨v,rfl,rfl,rfl⟩
 clear hok
 go_wp2_with fail
 have h1:=h.drew
 clear h
 refine wpL_begin [23,24,25] (fun w'=>w'.cell? ⟨r,3,none⟩=some (.pointer (some ⟨ps,0,none⟩))∧w'.cell? ⟨ps,0,none⟩=some (.int .i64 N)∧w'.cell? ⟨ps,1,none⟩=some (.pointer (some ⟨pi,0,none⟩))∧w'.cell? ⟨ps,2,none⟩=some uv) kRz ?_
 have hG:World.cell? _ ⟨r,3,none⟩=some (.pointer (some ⟨ps,0,none⟩))∧World.cell? _ ⟨ps,0,none⟩=some (.int .i64 N)∧World.cell? _ ⟨ps,1,none⟩=some (.pointer (some ⟨pi,0,none⟩))∧World.cell? _ ⟨ps,2,none⟩=some uv:=⟨h1.cellP pick0 3 rfl,h1.cellP pick1 0 rfl,h1.cellP pick1 1 rfl,h1.cellP pick1 2 rfl⟩
 refine rP 0 ?_ (y:=mvQ)
 refine rP 1 ?_ (y:=nlQ)
 refine rP 2 ?_ (y:=flQ)
 refine rt 3 (h:=?_)
 refine rP 4 ?_ (y:=nlQ)
 refine rP 5 ?_ (y:=flQ)
 refine rt 6 (h:=?_)
 refine rP 7 ?_ (y:=mvQ)
 refine rP 8 ?_ (y:=nlQ)
 refine rP 9 ?_ (y:=flQ)
 refine rt 10 (h:=?_)
 refine rP 11 ?_ (y:=nlQ)
 refine rP 12 ?_ (y:=flQ)
 refine rt 13 (h:=?_)
 refine rP 15 ?_ (y:=mvQ)
 refine rP 16 ?_ (y:=nlQ)
 refine rP 17 ?_ (y:=flQ)
 refine rt 18 (h:=?_)
 refine rP 19 ?_ (y:=nlQ)
 refine rP 20 ?_ (y:=flQ)
 refine rt 21 (h:=?_)
 clear hG
 refine rg_eff 14 evD kRz (fun K hK=>?_)
 (refine eff_call1 kRz evD ?_)
 refine (copyL_c HB.out (h1.sb:Sat w0 _ (TabML pi mi B::rpPt r m seg p ps pn d::stPt ps N pi uv tv::osl 132 3 uv (us.flatMap uenc)::F))).mono ?_
 rintro ee w2 ⟨v,rfl,qi,rfl,h2⟩
 refine hK _ _ (.inr (.inl ⟨h2.cellP pick2 3 rfl,h2.cellP pick3 0 rfl,h2.cellP pick3 1 rfl,h2.cellP pick3 2 rfl⟩)) ?_
 clear hK h1
 refine rg_eff 22 evD kRz (fun K hK=>?_)
 (refine eff_call1 kRz evD ?_)
 refine (cloneU_c (uenc_ones us) Hul.out (h2.sb:Sat w0 _ (osl 132 3 uv (us.flatMap uenc)::rpPt r m seg p ps pn d::stPt ps N pi uv tv::TabML qi mi B::TabML pi mi B::F))).mono ?_
 rintro ee w3 ⟨vv,rfl,h3⟩
 refine hK _ _ (.inr (.inl ⟨h3.cellP pick2 3 rfl,h3.cellP pick3 0 rfl,h3.cellP pick3 1 rfl,h3.cellP pick3 2 rfl⟩)) ?_
 clear hK h2
 obtain ⟨va,vn,vc,rfl,_,_⟩:=Sat.rd h3
 refine rp 23 (hy:=(by (refine Or.inl ⟨by rfl,?_⟩;((intro wq;go_simp);first|done|exact wQ)))) (h:=?_)
 refine rg_eff 24 evD kRz (fun K hK=>?_)
 refine eff_box (cs:=#[.int .i64 N,ptr qi,.slice va vn vc,.slice none 0 0]) h3 evD evD ?_
 intro q w4 h4
 refine hK _ _ (.inl rfl) ?_
 clear hK h3
 refine rP 25 ?_ (y:=asQ)
 refine wpL_done kRz ?_
 go_wp2_with fail
 go_ret
 exact ⟨_,rfl,q,qi,_,rfl,h4.sb⟩
end
theorem run_plan (N:Int) (kp ip gb:Nat) (w:World):(Instr.build 108 #[(0,.int .i64 N),(2,ptr kp),(3,ptr ip),(4,.map (some gb))]).run Tryz.prog w = .ok (.agg #[.int .i64 N,.slice none 0 0,ptr kp,ptr ip,.map (some gb)]) w:=by kernel_rfl
theorem run_sgm (s:Int) (a:Option Addr) (n c:Nat) (w:World):(Instr.build 111 #[(0,.int .i64 s),(1,.slice a n c)]).run Tryz.prog w = .ok (.agg #[.int .i64 s,.slice a n c,.int .i64 0]) w:=by kernel_rfl
theorem zSgm:zeroB Tryz.prog 111=some (.agg #[.int .i64 0,.slice none 0 0,.int .i64 0]):=by kernel_rfl
theorem zUse3:zeroB Tryz.prog 132=some (.agg #[.int .i64 0,.int .i64 0,.int .i64 0]):=by kernel_rfl
theorem yl_build4 {P:Program}{ops:Array Oper}{a:Act}{dst:Option Tmp}{ty t:TypeId}{pos:String}{after:Array Edge}{v:Value}{i1 i2 i3 i4:Nat}{x1 x2 x3 x4:Operand}{v1 v2 v3 v4:Value} (h1:a.eval x1=v1) (h2:a.eval x2=v2) (h3:a.eval x3=v3) (h4:a.eval x4=v4) (hr:∀ w,(Instr.build ty #[(i1,v1),(i2,v2),(i3,v3),(i4,v4)]).run P w = .ok v w) :
  Yields P ops ⟨dst,.build ty #[(i1,x1),(i2,x2),(i3,x3),(i4,x4)],t,pos,after,none⟩ v a:=
 .inl ⟨want_none _ rfl,fun w=>by
  simp only [execOp,List.map_toArray,List.map_cons,List.map_nil,h1,h2,h3,h4,Sem.run_bind,hr,Result.andThen_ok,Sem.run_pure]⟩
theorem wl_bld2 {P:Program}{ops:Array Oper}{Q:Exit→Act→World→Prop}{rest:List Oper}{a:Act}{w:World}{dst:Option Tmp}{ty t:TypeId}{pos:String}{after:Array Edge}{x y:Operand}{vx vy v:Value} (hx:a.eval x=vx) (hy:a.eval y=vy) (hr:∀ w,(Instr.build ty #[(0,vx),(1,vy)]).run P w = .ok v w) (h:wpList P ops Q rest (a.put dst v) w) :
  wpList P ops Q (⟨dst,.build ty #[(0,x),(1,y)],t,pos,after,none⟩::rest) a w:=
 wl_bld (by simp only [List.map_toArray,List.map_cons,List.map_nil,hx,hy]) hr h
def SgOk (ys:List Sg):Prop:=∀ y∈ys,(∀ q∈y.2.1,q.1.e.key.length=32)∧∃ a c,y.2.2 = .slice a y.2.1.length c
def ReadOut (w0:World) (N:Int) (Bi n:Nat) (mi:Frm.Bs→Option Seg.Plc) (C:List (List Frm.Ent)) (R:List HProp) (v:Value) (w':World):Prop:=
 ∃ (b kp ip gb Bk:Nat) (lv:Value) (mm:Frm.Bs→Option Rep.Kpv) (bg:List (Value×List Int)) (ys zs:List Sg),v = .tuple #[ptr b,errno 0]∧(ys.map fun y=>(y.1,fnL y))=Cpt.segsC C∧SgOk ys∧(∀ y∈ys,y∈zs)∧KeyOk mm (Cpt.keysR (Cpt.rowsS (Cpt.segsC C))) bg∧Bk≤n∧Sat w0 w' (planPt b N lv kp ip gb::osl 111 3 lv (ys.flatMap sgL)::bagF zs::TabMK kp mm Bk::bagS bg:: omap (.int .i64) gb []::TabML ip mi Bi::R)
section
variable {w0 w:World}{F:List HProp}{r m p ps pn pi K r0 E B n Bi:Nat}{seg N:Int}{d:Bool}{uv tv:Value}{mi:Frm.Bs→Option Seg.Plc}{us:List Rep.Use}{L:Seg.Log}{M:Med}{C:List (List Frm.Ent)}
set_option maxRecDepth 20000 in
theorem cread_c (hR:Seg.Rp K r0 E B n L M C) (hn:n≤1000) (hu:us.length=C.length) (hus:∀ (j:Nat) (u:Rep.Use),us[j]?=some u→u.seg=j) (hBi:Bi≤14000000) (hH:Ro w0 F Half)
  (h:Sat w0 w (rpPt r m seg p ps pn d::stPt ps N pi uv tv::TabML pi mi Bi::osl 132 3 uv (us.flatMap uenc)::LogRep p m L::MedRep m M::F)) :
  Calls Tryz.prog 45 #[ptr r] w (Rtn fun v w'=>ReadOut w0 N Bi n mi C (rpPt r m seg p ps pn d::stPt ps N pi uv tv::TabML pi mi Bi::osl 132 3 uv (us.flatMap uenc)::LogRep p m L::MedRep m M::F) v w'):=by
 have hst:=rpstate_c (F:=LogRep p m L::MedRep m M::F) hBi (Nat.le_trans (Nat.le_of_eq hu) (Nat.le_trans hR.hg.count oQ)) h
 have HR:=uQ hR;have Hn:=uQ hn;have Hu:=uQ hu;have Hus:=uQ hus;have HBi:=uQ hBi;have HH:=uQ hH
 clear hR hn hu hus hBi hH h
 go_enter Tryz.func45,Tryz.ntmps45
 go_wp2_with fail
 refine hst.mono ?_
 rintro ee w1 ⟨v,rfl,q,qi,vv,rfl,h1⟩
 clear hst
 go_wp2_with fail
 have h2:=h1.drew
 clear h1
 have hG:World.cell? _ ⟨q,0,none⟩=some (.int .i64 N)∧World.cell? _ ⟨q,1,none⟩=some (ptr qi):=⟨h2.cellP pick0 0 rfl,h2.cellP pick0 1 rfl⟩
 refine wpL_begin [10,11,12] (fun w'=>w'.cell? ⟨q,0,none⟩=some (.int .i64 N)∧w'.cell? ⟨q,1,none⟩=some (ptr qi)) kRz ?_
 refine rP 0 ?_ (y:=mvQ)
 refine rP 1 ?_ (y:=nlQ)
 refine rP 2 ?_ (y:=flQ)
 refine rt 3 (h:=?_)
 refine rP 5 ?_ (y:=mvQ)
 refine rP 6 ?_ (y:=nlQ)
 refine rP 7 ?_ (y:=flQ)
 refine rt 8 (h:=?_)
 clear hG
 refine rg_eff2 4 9 evD evD kRz (fun K hK=>?_) (fun K hK=>?_)
 focus
  refine eff_call [] kRz (by simp) ?_
  refine (newK_c h2).mono ?_
  rintro ee w3 ⟨v,rfl,kp,rfl,h3⟩
  refine hK _ _ (.inr (.inl ⟨h3.cellP pick1 0 rfl,h3.cellP pick1 1 rfl⟩)) ?_
  clear hK h2
  refine rg_eff 9 evD kRz (fun K hK=>?_)
  refine eff_makeMap (.int .i64) h3 ?_
  intro gb w4 h4
  refine hK _ _ (.inr (.inl ⟨h4.cellP pick2 0 rfl,h4.cellP pick2 1 rfl⟩)) ?_
  clear hK h3
  have hB:=h4
  clear h4
 rotate_left
 focus
  refine eff_makeMap (.int .i64) h2 ?_
  intro gb w3 h3
  refine hK _ _ (.inr (.inl ⟨h3.cellP pick1 0 rfl,h3.cellP pick1 1 rfl⟩)) ?_
  clear hK h2
  refine rg_eff 4 evD kRz (fun K hK=>?_)
  refine eff_call [] kRz (by simp) ?_
  refine (newK_c h3).mono ?_
  rintro ee w4 ⟨v,rfl,kp,rfl,h4⟩
  refine hK _ _ (.inr (.inl ⟨h4.cellP pick2 0 rfl,h4.cellP pick2 1 rfl⟩)) ?_
  clear hK h3
  have hB:=(h4.sb:Sat w0 w4 (omap (.int .i64) gb []::TabMK kp (fun _=>none) 0::stPt q N qi vv (.slice none 0 0)::TabML qi mi Bi::osl 132 3 vv (us.flatMap uenc)::rpPt r m seg p ps pn d::stPt ps N pi uv tv::TabML pi mi Bi::osl 132 3 uv (us.flatMap uenc)::LogRep p m L::MedRep m M::F))
  clear h4
 all_goals
  refine rP 10 ?_ (y:=(yl_build4 evD evD evD evD (fun w=>run_plan N kp qi gb w)))
  refine rg_eff 11 evD kRz (fun K hK=>?_)
  refine eff_box (cs:=#[.int .i64 N,.slice none 0 0,ptr kp,ptr qi,.map (some gb)]) hB evD evD ?_
  intro b w5 h5
  refine hK _ _ (.inl rfl) ?_
  clear hK hB
  refine rP 12 ?_ (y:=asQ)
  refine wpL_done kRz ?_
  obtain ⟨va,vc,rfl⟩:=osl_rows (f:=uenc) (k:=3) (l:=us) (fun u _=>uenc_len u) (Sat.rd (h5.pk (A:=osl 132 3 vv (us.flatMap uenc)))) dCz
  have e32:=h5.cellP pick3 2 rfl
  obtain ⟨G,Hg,HHG⟩:∃ G,Hid (G=stPt ps N pi uv tv::TabML pi mi Bi::osl 132 3 uv (us.flatMap uenc)::F)∧Hid (Ro w0 G Half):=⟨_,uQ rfl,uQ (Ro.os HH.out)⟩
  have h6:Sat w0 w5 (planPt b N (.slice none 0 0) kp qi gb::osl 111 3 (.slice none 0 0) (([]:List Sg).flatMap sgL)::bagF []::TabMK kp (fun _=>none) 0::bagS []::omap (.int .i64) gb []::TabML qi mi Bi::osl 132 3 (.slice va us.length vc) (us.flatMap uenc)::LogRep p m L::MedRep m M::rpPt r m seg p ps pn d::G):=by
   rw [Hg.out]
   have q0:Sat w0 w5 (osl 111 3 (.slice none 0 0) (([]:List Sg).flatMap sgL)::bagF []::bagS []::planPt b N (.slice none 0 0) kp qi gb::omap (.int .i64) gb []::TabMK kp (fun _=>none) 0::stPt q N qi (.slice va us.length vc) (.slice none 0 0)::TabML qi mi Bi::osl 132 3 (.slice va us.length vc) (us.flatMap uenc)::rpPt r m seg p ps pn d::stPt ps N pi uv tv::TabML pi mi Bi::osl 132 3 uv (us.flatMap uenc)::LogRep p m L::MedRep m M::F):=Sat.osl_nil.2 (Sat.emp.2 (Sat.emp.2 h5))
   exact q0.sb
  clear h5
  go_wp2_with fail
  clear e32
  go_loopg [34] us.length (fun g iq wr=>∃ (i Bk:Nat) (lv:Value) (mm:Frm.Bs→Option Rep.Kpv) (bg:List (Value×List Int)) (ys zs:List Sg),g=us.length - i∧i≤us.length∧iq = .int .i64 i∧(ys.map fun y=>(y.1,fnL y))=(Cpt.segsC C).take i∧SgOk ys∧(∀ y∈ys,y∈zs)∧KeyOk mm (Cpt.keysR (Cpt.rowsS ((Cpt.segsC C).take i))) bg∧Bk≤(Cpt.rowsS ((Cpt.segsC C).take i)).length∧Sat w0 wr (planPt b N lv kp qi gb::osl 111 3 lv (ys.flatMap sgL)::bagF zs::TabMK kp mm Bk::bagS bg::omap (.int .i64) gb []::TabML qi mi Bi::osl 132 3 (.slice va us.length vc) (us.flatMap uenc)::LogRep p m L::MedRep m M::rpPt r m seg p ps pn d::G))
  case atStart=>exact ⟨0,0,.slice none 0 0,_,[],[],[],rfl,Nat.zero_le _,rfl,rfl,(fun _ h=>nomatch h),(fun _ h=>nomatch h),KeyOk.new,Nat.le_refl _,h6⟩
  case round=>
   obtain ⟨i,Bk,lv,mm,bg,ys,zs,rfl,hi,rfl,hys,hok,hyz,hko,hBk,hS⟩:=hrel
   clear h6
   by_cases hlt:i<us.length
   rotate_left
   focus
    obtain rfl:i=us.length:=by omega
    have c1:¬ (us.length:Int)<(us.length:Int):=oQ
    have hal:(Cpt.segsC C).take us.length=Cpt.segsC C:=by rw [Hu.out,← Cpt.segsC_len (C:=C),List.take_length]
    rw [hal]at hys hko hBk
    have Hr:=uQ (And.intro hys (And.intro hok (And.intro hyz (And.intro hko hBk))))
    clear hys hok hyz hko hBk hi hlt hal
    go_wp2_with fail
    go_ret2
    obtain ⟨k1,k2,k3,k4,k5⟩:=Hr.out
    refine ⟨_,rfl,b,kp,qi,gb,Bk,lv,mm,bg,ys,zs,rfl,k1,k2,k3,k4,?_,?_⟩
    ·rw [Cpt.rowsS_all]at k5;exact Nat.le_trans k5 HR.out.few
    ·rw [Hg.out]at hS;exact hS.sb
   have c1:(i:Int)<(us.length:Int):=oQ
   have hwi:IntKind.i64.wrap ((i:Int)+1)=(i:Int)+1:=IntWalk.i64_in _ (by have:=Hu.out;have:=HR.out.hg.count;have:=Hn.out;omega)
   obtain ⟨u,hiu⟩:∃ u,us[i]?=some u:=⟨_,List.getElem?_eq_getElem hlt⟩
   obtain ⟨es,hie⟩:∃ es,C[i]?=some es:=⟨_,List.getElem?_eq_getElem (by rw [← Hu.out];exact hlt)⟩
   have hus:=Hus.out i u hiu
   obtain ⟨useg,usz,ulv⟩:=u
   obtain rfl:useg=i:=hus
   obtain ⟨bk,off,c2,e2,hcell⟩:=osl_row (f:=uenc) (k:=3) (fun u _=>uenc_len u) (Sat.rd (hS.pk (A:=osl 132 3 (.slice va us.length vc) (us.flatMap uenc)))) hiu dCz
   cases e2
   have Hie:=uQ hie;have Hlt:=uQ hlt
   have Hst:=uQ (And.intro hys (And.intro hok (And.intro hyz (And.intro hko hBk))))
   have hby:=fun (w2:World) (R:List HProp) (hw:Sat w0 w2 (LogRep p m L::MedRep m M::R))=>lbytes_c HR.out.hg.keeps.log HR.out.hg.keeps.calm.ok (i:Int) hw
   rw [HR.out.hg.bytes hie]at hby
   have Hby:=uQ hby
   have hbl:=Seg.bytes_len (L:=L) HR.out.hg.keeps.calm.ok (i:Int)
   rw [HR.out.hg.bytes hie]at hbl
   have Hbl:=uQ hbl;have hbl2:(Seg.mag++Frm.encs es).length≤16777216:=hbl
   have Hsc:=uQ (Frm.scan_encs es (HR.out.hg.good es (List.mem_of_getElem? hie)).1)
   clear hys hok hyz hko hBk hi hiu hby hie hlt hbl
   have Hel:=uQ (show (Frm.encs es).length≤16777216 by rw [List.length_append]at hbl2;omega)
   clear hbl2
   generalize Seg.mag++Frm.encs es=bl at Hby Hbl Hsc
   go_wp2_with (first
    |((with_reducible refine at_load ⟨?_⟩);refine wl_loadW (b:=bk) (o:=off+i * 3) (uenc ⟨(i:Int),usz,ulv⟩) rFz hcell Tryz.underlying132 rfl kRz ?_)
    |(with_reducible apply at_alloc))
   refine ⟨wl_alloc zUse3 hS rfl ?_⟩
   intro b7 w7 h7
   clear hcell hS
   go_wp2_with ((with_reducible refine at_store ⟨?_⟩);refine wl_storeA (uenc ⟨(i:Int),usz,ulv⟩).toArray h7 rFz rFz rFz upd0 kRz rFz ?_;intro w8 h8)
   have h9:=h8.drew
   clear h7 h8
   have hG:World.cell? _ ⟨b7,0,none⟩=some (.int .i64 (i:Int)):=h9.cellP pick0 0 rfl
   refine wpL_begin [4,5,6,7,8,9] (fun w'=>w'.cell? ⟨b7,0,none⟩=some (.int .i64 (i:Int))) kRz ?_
   refine rP 0 ?_ (y:=mvQ)
   refine rP 2 ?_ (y:=flQ)
   refine rt 3 (h:=?_)
   refine rg_eff 1 evD kRz (fun K hK=>?_)
   (refine eff_call1 kRz evD ?_)
   refine (rplog_c (h9.sb:Sat w0 _ (rpPt r m seg p ps pn d::pt b7 (.cells (uenc ⟨(i:Int),usz,ulv⟩).toArray 132 (0,0))::G))).mono ?_
   rintro ee w10 ⟨v,rfl,rfl,rfl⟩
   refine hK _ _ (.inr (.inl hG)) ?_
   clear hK hG
   refine rg_eff 4 evD kRz (fun K hK=>?_)
   (refine eff_call2 kRz evD evD ?_)
   refine (Hby.out _ _ (h9.sb:Sat w0 _ (LogRep p m L::MedRep m M::pt b7 (.cells (uenc ⟨(i:Int),usz,ulv⟩).toArray 132 (0,0))::planPt b N lv kp qi gb::osl 111 3 lv (ys.flatMap sgL)::bagF zs::TabMK kp mm Bk::bagS bg::omap (.int .i64) gb []::TabML qi mi Bi::osl 132 3 (.slice (some ⟨bk,off,none⟩) us.length vc) (us.flatMap uenc)::rpPt r m seg p ps pn d::G))).mono ?_
   rintro ee w11 ⟨v,rfl,bv,rfl,h11⟩
   refine hK _ _ (.inl rfl) ?_
   clear hK h9
   refine rP 5 ?_ (y:=mvQ)
   refine rP 6 ?_ (y:=(yl_extract evD rnD))
   refine rP 7 ?_ (y:=(yl_extract evD rnD))
   refine rP 8 ?_ (y:=asQ)
   refine rP 9 ?_ (y:=asQ)
   refine wpL_done kRz ?_
   obtain ⟨hcap,ca,cc,rfl⟩:=bsl_capL h11
   have hsc:=fscan_c bl (Ro.bsl _ _) hcap (Ro.os HHG.out) (Nat.le_trans Hbl.out dCz) h11
   rw [Hsc.out]at hsc
   clear hcap h11
   repeat (first|go_skip|fail|go_values|go_guarded|go_step|go_upon)
   refine hsc.mono ?_
   rintro ee w12 ⟨v,rfl,fs,fv,hfs,hfk,rfl,h12⟩
   clear hsc
   obtain ⟨fa,fc,rfl⟩:=fnds_sl hfk h12
   have Hfs:=uQ hfs;have Hfk:=uQ hfk
   clear hfs hfk
   dsimp only
   go_wp2_with (first
    |((with_reducible refine at_load ⟨?_⟩);refine wl_load1 h12 rFz pkD nLz evD kRz ?_)
    |(with_reducible apply ug_at_build))
   refine ⟨wl_bld2 evD evD (fun w=>run_sgm (i:Int) fa fs.length fc w) ?_⟩
   go_wp2_with (with_reducible apply at_alloc)
   refine ⟨wl_alloc zSgm h12 rfl ?_⟩
   intro b12 w13 h13
   go_wp2_with ((with_reducible refine at_store ⟨?_⟩);refine wl_storeA #[.int .i64 (i:Int),.slice fa fs.length fc,.int .i64 0] h13 rFz rFz rFz upd0 kRz rFz ?_;intro w14 h14)
   have hfl:fs.length≤16777216:=by
    have h1:=Frm.scan_count bl
    rw [Hsc.out]at h1
    have h2:=congrArg List.length Hfs.out
    rw [List.length_map]at h2
    dsimp only at h1
    have:=Hbl.out
    omega
   have Hfl:=uQ hfl
   have Hcnt:=uQ (show (Cpt.rowsS ((Cpt.segsC C).take i)).length+fs.length≤n by
    have h1:=Cpt.rowsS_take (Cpt.segsC C) (i+1)
    rw [Cpt.rowsS_all,List.take_add_one,Cpt.segsC_get Hie.out,Option.toList_some,Cpt.rowsS_snoc,List.length_append,List.length_map]at h1
    have h2:=congrArg List.length Hfs.out
    rw [List.length_map]at h2
    have h3:=HR.out.few
    dsimp only at h1 h2
    omega)
   have h15:Sat w0 w14 (pt b12 (.cells #[.int .i64 (i:Int),.slice fa fs.length fc,.int .i64 (Cpt.pay ((fs.take 0).map (·.1)))] 111 (0,0))::TabMK kp mm Bk::bagS bg::planPt b N lv kp qi gb::pt b7 (.cells (uenc ⟨(i:Int),usz,ulv⟩).toArray 132 (0,0))::osl 113 36 (.slice fa fs.length fc) (fndsL fs)::dataF fs::osl 111 3 lv (ys.flatMap sgL)::bagF zs::omap (.int .i64) gb []::TabML qi mi Bi::osl 132 3 (.slice (some ⟨bk,off,none⟩) us.length vc) (us.flatMap uenc)::LogRep p m L::MedRep m M::rpPt r m seg p ps pn d::G):=h14.sb
   clear h12 h13 h14 hfl
   go_wp2_with fail
   go_loopg [63] fs.length (fun g jq wr=>∃ (j Bj:Nat) (mm2:Frm.Bs→Option Rep.Kpv) (bg2:List (Value×List Int)),g=fs.length - j∧j≤fs.length∧jq = .int .i64 j∧KeyOk mm2 (Cpt.keysR (Cpt.rowsS ((Cpt.segsC C).take i)++(fs.take j).map fun q=>((i:Int),q.1))) bg2∧Bj≤(Cpt.rowsS ((Cpt.segsC C).take i)).length+j∧Sat w0 wr (pt b12 (.cells #[.int .i64 (i:Int),.slice fa fs.length fc,.int .i64 (Cpt.pay ((fs.take j).map (·.1)))] 111 (0,0))::TabMK kp mm2 Bj::bagS bg2::planPt b N lv kp qi gb::pt b7 (.cells (uenc ⟨(i:Int),usz,ulv⟩).toArray 132 (0,0))::osl 113 36 (.slice fa fs.length fc) (fndsL fs)::dataF fs::osl 111 3 lv (ys.flatMap sgL)::bagF zs::omap (.int .i64) gb []::TabML qi mi Bi::osl 132 3 (.slice (some ⟨bk,off,none⟩) us.length vc) (us.flatMap uenc)::LogRep p m L::MedRep m M::rpPt r m seg p ps pn d::G))
   case atStart=>exact ⟨0,Bk,mm,bg,rfl,Nat.zero_le _,rfl,by rw [List.take_zero,List.map_nil,List.append_nil];exact Hst.out.2.2.2.1,Hst.out.2.2.2.2,h15⟩
   case round=>
    obtain ⟨j,Bj,mm2,bg2,rfl,hj,rfl,hko2,hBj,hS⟩:=hrel
    clear h15
    by_cases hjl:j<fs.length
    rotate_left
    focus
     obtain rfl:j=fs.length:=by omega
     have d1:¬ (fs.length:Int)<(fs.length:Int):=oQ
     clear hjl hj
     go_wp2_with fail
     rw [List.take_length]at hS hko2
     have Hk2:=uQ (And.intro hko2 hBj)
     have hyl:(ys.flatMap sgL).length≤2147483648:=by
      rw [rows_len (k:=3) (fun y _=>sgL_len y)]
      have h1:=congrArg List.length Hst.out.1
      rw [List.length_map,List.length_take,Cpt.segsC_len]at h1
      have:=HR.out.hg.count;have:=Hn.out
      omega
     have Hyl:=uQ hyl
     clear hko2 hBj hyl
     have hG:World.cell? _ ⟨b,1,none⟩=some lv∧World.rangeAt _ b12 0 [.int .i64 (i:Int),.slice fa fs.length fc,.int .i64 (Cpt.pay (fs.map (·.1)))]:=⟨hS.cellP pick3 1 rfl,fun k v hk=>hS.cellP pick0 (0+k) (by rw [Nat.zero_add,List.getElem?_toArray];exact hk)⟩
     refine wpL_begin [7,8,9,10] (fun w'=>w'.cell? ⟨b,1,none⟩=some lv∧w'.rangeAt b12 0 [.int .i64 (i:Int),.slice fa fs.length fc,.int .i64 (Cpt.pay (fs.map (·.1)))]) kRz ?_
     refine rP 0 ?_ (y:=mvQ)
     refine rP 1 ?_ (y:=mvQ)
     refine rP 2 ?_ (y:=nlQ)
     refine rP 3 ?_ (y:=flQ)
     refine rt 4 (h:=?_)
     refine rg_take 5 evD kRz i3z (tk_loadN (b:=b12) (o:=0) [.int .i64 (i:Int),.slice fa fs.length fc,.int .i64 (Cpt.pay (fs.map (·.1)))] rFz Tryz.underlying111 rfl kRz (fun w hw=>hw.2)) aQ gQ ?_
     clear hG
     refine rg_eff 6 evD kRz (fun K hK=>?_)
     refine eff_build1 (e:=111) (sz:=3) (by':=40) kRz hS.drew evD (cs:=#[.int .i64 (i:Int),.slice fa fs.length fc,.int .i64 (Cpt.pay (fs.map (·.1)))]) rfl rfl dCz ?_
     intro bN wN hN
     refine hK _ _ (.inr (.inl ⟨hN.cellP pick4 1 rfl,fun k v hk=>hN.cellP pick1 (0+k) (by rw [Nat.zero_add,List.getElem?_toArray];exact hk)⟩)) ?_
     clear hK hS
     refine rg_eff 7 evD kRz (fun K hK=>?_)
     refine eff_app 111 3 40 kRz hN evD evD pkD pkD rfl (Nat.le_refl 1) rfl Hyl.out nLz nLz (ys:=sgL ((i:Int),fs,Value.slice fa fs.length fc)) rfl ?_
     intro bA nA cA wA hA
     refine hK _ _ (.inl rfl) ?_
     clear hK hN
     refine rP 8 ?_ (y:=nlQ)
     refine rP 9 ?_ (y:=flQ)
     refine rg_eff 10 evD kRz (fun K hK=>?_)
     refine eff_store (cs':=#[.int .i64 N,.slice (some ⟨bA,0,none⟩) nA cA,ptr kp,ptr qi,.map (some gb)]) hA evD evD rFz (upd_there (upd_there (upd_there (upd_there upd0)))) nLz kRz rFz ?_
     intro wE hE
     refine hK _ _ (.inl rfl) ?_
     clear hK hA
     refine wpL_done kRz ?_
     have hF:Sat w0 wE (planPt b N (.slice (some ⟨bA,0,none⟩) nA cA) kp qi gb::osl 111 3 (.slice (some ⟨bA,0,none⟩) nA cA) ((ys++[((i:Int),fs,Value.slice fa fs.length fc)]).flatMap sgL)::bagF (((i:Int),fs,Value.slice fa fs.length fc)::zs)::TabMK kp mm2 Bj::bagS bg2::omap (.int .i64) gb []::TabML qi mi Bi::osl 132 3 (.slice (some ⟨bk,off,none⟩) us.length vc) (us.flatMap uenc)::LogRep p m L::MedRep m M::rpPt r m seg p ps pn d::G):=by
      rw [List.flatMap_append,List.flatMap_cons,List.flatMap_nil,List.append_nil]
      have q0:Sat w0 wE (osl 113 36 (.slice fa fs.length fc) (fndsL fs)::dataF fs::bagF zs::planPt b N (.slice (some ⟨bA,0,none⟩) nA cA) kp qi gb::osl 111 3 (.slice (some ⟨bA,0,none⟩) nA cA) (ys.flatMap sgL++sgL ((i:Int),fs,Value.slice fa fs.length fc))::TabMK kp mm2 Bj::bagS bg2::omap (.int .i64) gb []::TabML qi mi Bi::osl 132 3 (.slice (some ⟨bk,off,none⟩) us.length vc) (us.flatMap uenc)::LogRep p m L::MedRep m M::rpPt r m seg p ps pn d::G):=hE.sb
      exact (bagF_add (y:=((i:Int),fs,Value.slice fa fs.length fc)) q0).sb
     clear hE
     have Htk:=uQ (show (Cpt.segsC C).take (i+1)=(Cpt.segsC C).take i++[((i:Int),fs.map (·.1))] by rw [List.take_add_one,Cpt.segsC_get Hie.out,Option.toList_some,Hfs.out])
     go_wp2_with fail
     go_roundg (us.length - (i+1))
     case measure=>have:=Hlt.out;omega
     case rel=>
      obtain ⟨k1,k2,k3,k4,k5⟩:=Hst.out
      obtain ⟨k6,k7⟩:=Hk2.out
      refine ⟨i+1,Bj,_,mm2,bg2,_,_,rfl,Hlt.out,by first|rfl|go_num,?_,?_,?_,?_,?_,hF⟩
      ·rw [Htk.out,List.map_append,k1];rfl
      ·intro y hy
       rcases List.mem_append.1 hy with hy|hy
       ·exact k2 y hy
       ·rw [List.mem_singleton]at hy;subst hy;exact ⟨Hfk.out,_,_,rfl⟩
      ·intro y hy
       rcases List.mem_append.1 hy with hy|hy
       ·exact List.mem_cons_of_mem _ (k3 y hy)
       ·rw [List.mem_singleton]at hy;subst hy;exact List.mem_cons_self ..
      ·rw [Htk.out,Cpt.rowsS_snoc]
       dsimp only
       rw [List.map_map]
       exact k6
      ·rw [Htk.out,Cpt.rowsS_snoc,List.length_append,List.length_map,List.length_map]
       exact k7
    have d1:(j:Int)<(fs.length:Int):=oQ
    have hwj:IntKind.i64.wrap ((j:Int)+1)=(j:Int)+1:=IntWalk.i64_in _ (by have:=Hfl.out;omega)
    obtain ⟨⟨f,dv⟩,hq⟩:∃ q,fs[j]?=some q:=⟨_,List.getElem?_eq_getElem hjl⟩
    have hkf:f.e.key.length=32:=Hfk.out _ (List.mem_of_getElem? hq)
    obtain ⟨da,dn,dc,rfl,_,_⟩:=dataF_ro hq wr (hS.pk (A:=dataF fs))
    obtain ⟨bk2,off2,c2,e2,hcell⟩:=osl_row (f:=fun q:Frm.Fnd×Value=>fndL q.1 q.2) (k:=36) (fun q hq=>fndL_len q.1 q.2 (Hfk.out q hq)) (Sat.rd (hS.pk (A:=osl 113 36 (.slice fa fs.length fc) (fndsL fs)))) hq dCz
    cases e2
    have hl36:(fndL f (.slice da dn dc)).length=36:=fndL_len _ _ hkf
    have Htj:=uQ (show fs.take (j+1)=fs.take j++[(f,Value.slice da dn dc)] by rw [List.take_add_one,hq,Option.toList_some])
    have Hjl:=uQ hjl;have Hkf:=uQ hkf;have Hk2:=uQ (And.intro hko2 hBj)
    clear hq hkf hj hjl hko2 hBj
    go_wp2_with (first
     |((with_reducible refine at_load ⟨?_⟩);refine wl_loadW (b:=bk2) (o:=off2+j * 36) (fndL f (.slice da dn dc)) rFz hcell Tryz.underlying113 rfl (by rw [hl36];kernel_rfl) ?_)
     |(with_reducible apply at_alloc))
    refine ⟨wl_alloc zFnd hS rfl ?_⟩
    intro b14 w30 h30
    clear hcell hS
    go_wp2_with (with_reducible apply at_store)
    refine ⟨wl_storeA (fndA f (.slice da dn dc)) h30 rFz rFz (by rw [fndA_size _ _ Hkf.out];rfl) upd0 (by rw [fndA_size _ _ Hkf.out];kernel_rfl) (fndA_ones _ _ _ _) ?_⟩
    intro w31 h31
    repeat (first|go_skip|(with_reducible apply at_reg 16)|go_values|go_guarded|go_step|go_upon)
    refine ⟨?_⟩
    clear h30
    obtain ⟨e34,e35,ekey⟩:=fnd_cell f (.slice da dn dc) Hkf.out
    have f0:w31.cell? ⟨b14,0,none⟩=some (.int .i64 f.e.tag):=h31.cellP pick0 0 rfl
    have f35:w31.cell? ⟨b14,35,none⟩=some (.int .i64 (f.size:Int)):=h31.cellP pick0 35 e35
    have Hpy:=uQ (show 0≤Cpt.pay ((fs.take j).map (·.1))∧Cpt.pay ((fs.take j).map (·.1))+(f.size:Int)≤((Frm.encs es).length:Int) by
     have hq:(Frm.fnds es 8)[j]?=some f:=by
      have h1:=congrArg (fun l=>l[j]?) Hfs.out
      rw [← h1,List.getElem?_map,← List.getElem?_take_of_lt (Nat.lt_succ_self j),Htj.out,List.getElem?_append_right (by rw [List.length_take];exact Nat.min_le_left ..),List.length_take,Nat.min_eq_left (Nat.le_of_lt Hjl.out),Nat.sub_self]
      rfl
     have h2:=Cpt.pay_take es 8 j f hq
     rw [List.map_take,Hfs.out]
     exact h2)
    obtain ⟨py,hpy⟩:∃ py,Cpt.pay ((fs.take j).map (·.1))=py:=⟨_,rfl⟩
    rw [hpy]at Hpy h31
    have HPY:=uQ hpy
    clear hpy
    have f12:w31.cell? ⟨b12,2,none⟩=some (.int .i64 py):=h31.cellP pick1 2 rfl
    have hwp:IntKind.i64.wrap (py+(f.size:Int))=py+(f.size:Int):=IntWalk.i64_in _ (by have:=Hpy.out;have:=Hel.out;omega)
    clear e34 e35 ekey
    by_cases ht:f.e.tag=2
    focus
     have hb:(f.e.tag != 2)=false:=by rw [ht];rfl
     have Hr:=uQ (show Cpt.keysR (Cpt.rowsS ((Cpt.segsC C).take i)++(fs.take (j+1)).map fun q=>((i:Int),q.1))=Cpt.keysR (Cpt.rowsS ((Cpt.segsC C).take i)++(fs.take j).map fun q=>((i:Int),q.1)) by
      rw [Htj.out,List.map_append,← List.append_assoc]
      show Cpt.keysR (_++[((i:Int),f)])=_
      rw [Cpt.keysR_snoc]
      exact if_pos ht)
     have hG:Sat w0 w31 (pt b12 (.cells #[.int .i64 (i:Int),.slice (some ⟨bk2,off2,none⟩) fs.length fc,.int .i64 (Cpt.pay ((fs.take (j+1)).map (·.1)))] 111 (0,0))::TabMK kp mm2 Bj::bagS bg2::planPt b N lv kp qi gb::pt b7 (.cells (uenc ⟨(i:Int),usz,ulv⟩).toArray 132 (0,0))::osl 113 36 (.slice (some ⟨bk2,off2,none⟩) fs.length fc) (fndsL fs)::dataF fs::osl 111 3 lv (ys.flatMap sgL)::bagF zs::omap (.int .i64) gb []::TabML qi mi Bi::osl 132 3 (.slice (some ⟨bk,off,none⟩) us.length vc) (us.flatMap uenc)::LogRep p m L::MedRep m M::rpPt r m seg p ps pn d::G):=by
      rw [Htj.out,List.map_append,List.map_cons,List.map_nil,Cpt.pay_snoc,if_pos ht,Int.add_zero,HPY.out]
      exact h31.sb
     clear ht h31
     go_wp2_with fail
     go_roundg (fs.length - (j+1))
     case measure=>have:=Hjl.out;omega
     case rel=>exact ⟨j+1,Bj,mm2,bg2,rfl,Hjl.out,by first|rfl|go_num,by rw [Hr.out];exact Hk2.out.1,Nat.le_succ_of_le Hk2.out.2,hG⟩
    have hb:(f.e.tag != 2)=true:=bne_iff_ne.2 ht
    have Hr:=uQ (show Cpt.keysR (Cpt.rowsS ((Cpt.segsC C).take i)++(fs.take (j+1)).map fun q=>((i:Int),q.1))=Cpt.takeK (Cpt.keysR (Cpt.rowsS ((Cpt.segsC C).take i)++(fs.take j).map fun q=>((i:Int),q.1))) ((i:Int),f) by
     rw [Htj.out,List.map_append,← List.append_assoc]
     show Cpt.keysR (_++[((i:Int),f)])=_
     rw [Cpt.keysR_snoc]
     exact if_neg ht)
    have Hp2:=uQ (show Cpt.pay ((fs.take (j+1)).map (·.1))=py+(f.size:Int) by
     rw [Htj.out,List.map_append,List.map_cons,List.map_nil,Cpt.pay_snoc,if_neg ht,HPY.out])
    clear ht
    go_wp2_with (with_reducible apply at_store)
    refine ⟨wl_store (cs':=#[.int .i64 (i:Int),.slice (some ⟨bk2,off2,none⟩) fs.length fc,.int .i64 (py+(f.size:Int))]) h31 rFz evD rFz (upd_there upd0) nLz kRz rFz ?_⟩
    intro w33 h33
    clear h31 f0 f35 f12 hwp
    have f7:w33.cell? ⟨b7,0,none⟩=some (.int .i64 (i:Int)):=h33.cellP (pick_there (pick_there (pick_there (pick_there (pick_there pick0))))) 0 rfl
    go_wp2_with ((with_reducible refine at_load ⟨?_⟩);refine wl_loadA (cs:=fndA f (.slice da dn dc)) h33 rFz pick0 Tryz.underlying113 rfl (by rw [fndA_size _ _ Hkf.out];kernel_rfl) ?_)
    refine (ctake_c (p:=b) (N:=N) (lv:=lv) (ip:=qi) (gb:=gb) (s:=(i:Int)) (f:=f) Hkf.out (by have:=Hk2.out.2;have:=Hcnt.out;have:=Hjl.out;have:=Hn.out;omega) Hk2.out.1 (fun k=>by
     have h1:=Cpt.keysR_len (Cpt.rowsS ((Cpt.segsC C).take i)++(fs.take j).map fun q=>((i:Int),q.1)) k
     rw [List.length_append,List.length_map,List.length_take]at h1
     have:=Hcnt.out;have:=Hjl.out;have:=Hn.out
     omega) (h33.sb:Sat w0 w33 (planPt b N lv kp qi gb::TabMK kp mm2 Bj::bagS bg2::pt b12 (.cells #[.int .i64 (i:Int),.slice (some ⟨bk2,off2,none⟩) fs.length fc,.int .i64 (py+(f.size:Int))] 111 (0,0))::pt b7 (.cells (uenc ⟨(i:Int),usz,ulv⟩).toArray 132 (0,0))::osl 113 36 (.slice (some ⟨bk2,off2,none⟩) fs.length fc) (fndsL fs)::dataF fs::osl 111 3 lv (ys.flatMap sgL)::bagF zs::omap (.int .i64) gb []::TabML qi mi Bi::osl 132 3 (.slice (some ⟨bk,off,none⟩) us.length vc) (us.flatMap uenc)::LogRep p m L::MedRep m M::rpPt r m seg p ps pn d::G))).mono ?_
    rintro ee w34 ⟨v,rfl,mm3,bg3,hko3,h34⟩
    rw [← Hr.out]at hko3
    rw [← Hp2.out]at h34
    have Hk3:=uQ hko3
    clear h33 f7 hko3
    go_wp2_with fail
    go_roundg (fs.length - (j+1))
    case measure=>have:=Hjl.out;omega
    case rel=>exact ⟨j+1,Bj+1,mm3,bg3,rfl,Hjl.out,by first|rfl|go_num,Hk3.out,Nat.succ_le_succ Hk2.out.2,h34.sb⟩
end
def goM (gb:Nat) (gs:List Int):HProp:=omap (.int .i64) gb (gs.map fun g=>(.int .i64 g,.int .i64 1))
section
variable {w0 w:World}{F:List HProp}{gb:Nat}{gs:List Int}
theorem goM_look (t:Int) (h:Sat w0 w (goM gb gs::F)):(Instr.lookup 106 (.map (some gb)) (.int .i64 t) false).run Tryz.prog w = .ok (.int .i64 (if gs.contains t then 1 else 0)) w:=by
 rcases run_look (key:= .int .i64 t) Tryz.underlying106 Tryz.underlying3 (z:= .int .i64 0) kRz rfl h with ⟨v,hm,e,_⟩|⟨hn,e,_⟩
 ·obtain ⟨g,hg,e2⟩:=List.mem_map.1 hm
  cases e2
  rw [e,if_pos (List.contains_iff_mem.2 hg)]
 ·rw [e,if_neg]
  intro hc
  exact hn (.int .i64 t,.int .i64 1) (List.mem_map.2 ⟨t,List.contains_iff_mem.1 hc,rfl⟩) rfl
set_option maxRecDepth 20000 in
theorem ctest_c {b3 b4 q kp ip:Nat}{N s t:Int}{lv:Value} (h:Sat w0 w (goM gb gs::planPt q N lv kp ip gb::pt b3 (.cells #[ptr q] 63 (0,0))::pt b4 (.cells #[.int .i64 s] 3 (0,0))::F)) :
  Calls Tryz.prog 90 #[.int .i64 t,ptr b4,ptr b3] w (Rtn fun v w'=>v = .bool (decide (t<s) && !gs.contains t)∧w=w'):=by
 have hl:=goM_look t h
 have e3:w.cell? ⟨b3,0,none⟩=some (ptr q):=h.cellP pick2 0 rfl
 have e4:w.cell? ⟨b4,0,none⟩=some (.int .i64 s):=h.cellP pick3 0 rfl
 have eq4:w.cell? ⟨q,4,none⟩=some (.map (some gb)):=h.cellP pick1 4 rfl
 clear h
 obtain ⟨x,hx⟩:∃ x:Bool,(decide (t<s) && !gs.contains t)=x:=⟨_,rfl⟩
 have Hx:=uQ hx
 rw [hx]
 clear hx
 by_cases hts:t<s
 rotate_left
 focus
  have hv:x=false:=by rw [← Hx.out,decide_eq_false hts,Bool.false_and]
  subst hv
  clear hl
  have h1:decide (t<s)=false:=decide_eq_false hts
  clear hts
  go_enter Tryz.func90,Tryz.ntmps90
  go_wp2_with fail
  go_ret
  exact ⟨_,rfl,rfl,rfl⟩
 have h1:decide (t<s)=true:=decide_eq_true hts
 by_cases hc:gs.contains t=true
 focus
  have hv:x=false:=by rw [← Hx.out,hc,Bool.not_true,Bool.and_false]
  subst hv
  rw [if_pos hc]at hl
  clear hts hc
  go_enter Tryz.func90,Tryz.ntmps90
  go_wp2_with ((with_reducible apply ug_load);refine ⟨?_⟩;refine ug_op (by first|rfl|kernel_rfl) ?_)
  go_ret
  exact ⟨_,rfl,rfl,rfl⟩
 have hv:x=true:=by rw [← Hx.out,h1,Bool.eq_false_iff.2 hc];rfl
 subst hv
 rw [if_neg hc]at hl
 clear hts hc
 go_enter Tryz.func90,Tryz.ntmps90
 go_wp2_with ((with_reducible apply ug_load);refine ⟨?_⟩;refine ug_op (by first|rfl|kernel_rfl) ?_)
 go_ret
 exact ⟨_,rfl,rfl,rfl⟩
set_option maxRecDepth 20000 in
theorem cidx_c {b3 b4:Nat}{P:Int→Bool}{c:List Int}{sv:Value} (hl:c.length≤1048576) (hr:rdsl 1 sv (ints c) w)
  (hc:∀ t,Calls Tryz.prog 90 #[.int .i64 t,ptr b4,ptr b3] w (Rtn fun v w'=>v = .bool (P t)∧w=w')) :
  Calls Tryz.prog 135 #[sv,.func (.func 90) #[] #[ptr b4,ptr b3]] w (Rtn fun v w'=>∃ i:Int,v = .int .i64 i∧decide (i≥0)=c.any P∧w=w'):=by
 obtain ⟨sa,sc,rfl⟩:=ints_sl hr
 have Hl:=uQ hl;have Hr:=uQ hr;have Hc:=uQ hc
 clear hl hr hc
 go_enter Tryz.func135,Tryz.ntmps135
 go_wp2_with fail
 go_loopg [8] c.length (fun g iq wr=>∃ i:Nat,g=c.length - i∧i≤c.length∧iq = .int .i64 i∧wr=w∧Hid (∀ t∈c.take i,P t=false))
 case atStart=>exact ⟨0,rfl,Nat.zero_le _,rfl,rfl,uQ fun t ht=>by cases ht⟩
 case round=>
  obtain ⟨i,rfl,hi,rfl,rfl,Hp⟩:=hrel
  by_cases hlt:i<c.length
  rotate_left
  focus
   obtain rfl:i=c.length:=by omega
   have hic:¬ (c.length:Int)<(c.length:Int):=oQ
   have Hfin:=uQ (show decide ((-1:Int)≥0)=c.any P by
    have h1:=Hp.out
    rw [List.take_length]at h1
    rw [List.any_eq_false.2 fun t ht=>by rw [h1 t ht];decide]
    rfl)
   clear hi hlt Hp
   go_wp2_with fail
   go_ret
   exact ⟨_,rfl,-1,rfl,Hfin.out,rfl⟩
  obtain ⟨t,ht⟩:∃ t,c[i]?=some t:=⟨_,List.getElem?_eq_getElem hlt⟩
  obtain ⟨bk,off,cc,e,hcell⟩:=ints_cell Hr.out ht
  cases e
  have hic:(i:Int)<(c.length:Int):=oQ
  have hwi:IntKind.i64.wrap ((i:Int)+1)=(i:Int)+1:=IntWalk.i64_in _ (by have:=Hl.out;omega)
  have Ht:=uQ ht;have Hlt:=uQ hlt
  have hfn:=Hc.out t
  clear ht hlt hi
  go_wp2_with fail
  refine hfn.mono ?_
  rintro e w2 ⟨v,rfl,rfl,rfl⟩
  clear hfn hcell
  cases hP:P t with
  |true=>
   have Hfin:=uQ (show decide ((i:Int)≥0)=c.any P by
    rw [List.any_eq_true.2 ⟨t,List.mem_of_getElem? Ht.out,hP⟩]
    exact decide_eq_true (Int.natCast_nonneg _))
   clear hP Hp
   go_wp2_with fail
   go_ret
   exact ⟨_,rfl,(i:Int),rfl,Hfin.out,rfl⟩
  |false=>
   have Hp2:=uQ (show ∀ u∈c.take (i+1),P u=false by
    intro u hu
    rw [List.take_add_one,Ht.out,Option.toList_some]at hu
    rcases List.mem_append.1 hu with hu|hu
    ·exact Hp.out u hu
    ·rw [List.mem_singleton]at hu;rw [hu];exact hP)
   clear hP Hp
   go_wp2_with fail
   go_roundg (c.length - (i+1))
   case measure=>have:=Hlt.out;omega
   case rel=>exact ⟨i+1,rfl,Nat.succ_le_of_lt Hlt.out,by first|rfl|go_num,rfl,Hp2⟩
theorem cany_c {b3 b4:Nat}{P:Int→Bool}{c:List Int}{sv:Value} (hl:c.length≤1048576) (hr:rdsl 1 sv (ints c) w)
  (hc:∀ t,Calls Tryz.prog 90 #[.int .i64 t,ptr b4,ptr b3] w (Rtn fun v w'=>v = .bool (P t)∧w=w')) :
  Calls Tryz.prog 89 #[sv,.func (.func 90) #[] #[ptr b4,ptr b3]] w (Rtn fun v w'=>v = .bool (c.any P)∧w=w'):=by
 have h1:=cidx_c hl hr hc
 clear hl hr hc
 go_enter Tryz.func89,Tryz.ntmps89
 go_wp2_with fail
 refine h1.mono ?_
 rintro e w2 ⟨v,rfl,i,rfl,hi,rfl⟩
 clear h1
 have Hi:=uQ hi
 clear hi
 go_wp2_with fail
 go_ret
 exact ⟨_,rfl,by rw [← Hi.out];rfl,rfl⟩
end
set_option maxRecDepth 100000 in
theorem eq_plc (a b:Seg.Plc) (w:World):(binOp .eql 57 (.agg (penc a).toArray) (.agg (penc b).toArray)).run Tryz.prog w = .ok (.bool (Cpt.plcEq a b)) w:=by
 obtain ⟨a1,a2,c3⟩:=a
 obtain ⟨b1,b2,b3⟩:=b
 have u3:=Tryz.underlying3
 have a3:=Tryz.isAgg3
 have z3:=Tryz.sizeOf3
 have hS:Tryz.prog.underlying 57=some (.struct (Tryz.prog.fieldsOf 57)):=by kernel_rfl
 have hp:Tryz.prog.stoodInHeld 57=false:=by kernel_rfl
 rw [run_eql_struct]
 have e:(Op.equalIn 10000 57 (.agg #[.int .i64 a1,.int .i64 a2,.int .i64 c3]) (.agg #[.int .i64 b1,.int .i64 b2,.int .i64 b3])).run Tryz.prog w = .ok (a1==b1 && (a2==b2 && c3==b3)) w:=by
  rw [show (10000:Nat)=9999+1 from rfl,run_equalIn_agg w 9999 57 _ _ hS hp]
  simp only [Program.fieldsOf,Tryz.underlying57]
  go_simp
  by_cases h1:a1=b1 <;> by_cases h2:a2=b2 <;> by_cases h3:c3=b3 <;> simp [h1,h2,h3]
 rw [show (penc ⟨a1,a2,c3⟩).toArray=#[.int .i64 a1,.int .i64 a2,.int .i64 c3] from rfl,show (penc ⟨b1,b2,b3⟩).toArray=#[.int .i64 b1,.int .i64 b2,.int .i64 b3] from rfl,e]
 rfl
end Go.Proofs.YtfdchfnmpabogaaGreatDoor
