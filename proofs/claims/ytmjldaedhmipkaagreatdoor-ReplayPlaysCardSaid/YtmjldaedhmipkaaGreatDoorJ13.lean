import Derived.Test.YtmjldaedhmipkaaGreatDoorJ12
import Derived.Test.YtmjldaedhmipkaaGreatDoorRows
import Derived.Test.YtmjldaedhmipkaaGreatDoorCards
import Derived.Test.YtmjldaedhmipkaaGreatDoorTie
import Derived.ProofKit
import Derived.LaidMore
import Derived.OpenShut
import Derived.ShutString
import Derived.SevenTiedAt
set_option maxHeartbeats 128000000
set_option linter.unusedVariables false
namespace Go.Proofs.YtmjldaedhmipkaaGreatDoor
open Go Go.Sl Go.Med Go.MapKept Go.RowKit
section
variable {w0 w:World}{F:List HProp}{lv:Value}
set_option maxRecDepth 20000 in
theorem replay_plays_c (z:Int) (ds:List SD) (hr:Ro w0 F (rdsl 40 lv (sdsL ds))) (he:∀ d∈ds,SDRo w0 F d) (hin:∀ d∈ds,inI d.c.n∧∀ x∈d.c.l,inI x) (hH:Ro w0 F Half) (h:Sat w0 w F) :
  Calls Tryz.prog 10 #[.int .i64 z,lv] w (Rtn fun v w'=>v = .bool true∧Sat w0 w' F):=by
 obtain ⟨la,ln,lc,rfl,hl,_⟩:=hr w h
 rw [sdsL_len (fun p hp=>(he p hp).key)]at hl
 obtain rfl:ln=ds.length:=by omega
 have HH:=uQ hH;have Hr:=uQ hr;have He:=uQ he;have Hin:=uQ hin
 have hlim:=within_mem z 128 2000 dQ
 have hwi:=within_c z 128 2000
 generalize within z 128 2000=lim at *
 have Hlim:=uQ (show 128≤lim∧lim≤1048576 by omega)
 have P0:=uQ (Seg.Pys.start 1048576 dQ lim Hlim.out.1 Hlim.out.2)
 clear hr he hin hH hlim hl
 go_enter Tryz.func10,Tryz.ntmps10
 go_wp2_with fail
 refine (hwi _).mono ?_
 rintro ee w1 ⟨v,rfl,rfl,rfl⟩
 clear hwi
 have hnew:Calls Tryz.prog 13 #[.int .i64 1048576] w (Rtn fun v w'=>∃ m,v = .tuple #[ptr m,errno 0]∧Sat w0 w' (MedRep m (Med.new 1048576)::F)):=new_yes 1048576 dQ h
 go_wp2_with fail
 refine hnew.mono ?_
 rintro ee w2 ⟨v,rfl,m,rfl,h2⟩
 clear hnew h
 have hrn:Calls Tryz.prog 14 #[.int .i64 1048576] w2 (Rtn fun v w'=>∃ d,v = .tuple #[ptr d,.int .i64 0]∧Sat w0 w' (DskRep d (Med.new 1048576)::MedRep m (Med.new 1048576)::F)):=rnew_c 1048576 dQ h2
 go_wp2_with fail
 refine hrn.mono ?_
 rintro ee w3 ⟨v,rfl,d,rfl,h3⟩
 clear hrn h2
 have hop:=open_c (K:=0) (Med.Ok.new 0 1048576 dQ) lim (h3.pk (A:=MedRep m (Med.new 1048576))) rQ Hlim.out.1 Hlim.out.2
 go_wp2_with fail
 refine hop.mono ?_
 rintro ee w4 ⟨v,rfl,p,rfl,h4⟩
 clear hop h3
 have hrop:=ropen_c P0.out.two.fit lim rfl Hlim.out.1 Hlim.out.2 (h4.pk (A:=DskRep d (Med.new 1048576)))
 go_wp2_with fail
 refine hrop.mono ?_
 rintro ee w5 ⟨v,rfl,q,rfl,h5⟩
 clear hrop h4
 have h6:Sat w0 w5 (LogRep p m (Seg.fresh (Med.new 1048576) lim)::RLogRep q d (Seg.fresh (Med.new 1048576) lim)::MedRep m (Med.new 1048576)::DskRep d (Med.new 1048576)::F):=h5.sb
 clear h5
 generalize Seg.fresh (Med.new 1048576) lim=L0 at *
 generalize Med.new 1048576=M0 at *
 go_wp2_with fail
 go_loopg [9,11,13] ds.length (fun g pv qv iq wr=>∃ (i p q:Nat) (L:Seg.Log) (M D:Med),g=ds.length - i∧i≤ds.length∧i≤30∧iq = .int .i64 i∧pv=ptr p∧qv=ptr q∧Seg.Pys i L M D ∧
  Sat w0 wr (LogRep p m L::RLogRep q d L::MedRep m M::DskRep d D::F))
 case atStart=>exact ⟨0,p,q,_,_,_,rfl,Nat.zero_le _,Nat.zero_le _,rfl,rfl,rfl,P0.out,h6⟩
 case round=>
  obtain ⟨i,p,q,L,M,D,rfl,hi,hi30,rfl,rfl,rfl,hP,hS⟩:=hrel
  have HP:=uQ hP;have Hi:=uQ hi;have Hi30:=uQ hi30
  clear h6 P0 hP hi hi30
  by_cases hlt:i<ds.length∧i<30
  rotate_left
  ·have hlv:=lives15_c (Ro.os HH.out) hS
   by_cases hl1:i<ds.length
   ·have c1:(i:Int)<(ds.length:Int):=by omega
    have c2:¬ (i:Int)<30:=oQ
    clear hlt hl1 hS
    go_wp2_with fail
    refine hlv.mono ?_
    rintro ee w5 ⟨v,rfl,rfl,hS5⟩
    clear hlv
    go_wp2_with fail
    go_ret
    exact ⟨_,rfl,rfl,hS5.sb⟩
   ·have c1:¬ (i:Int)<(ds.length:Int):=by omega
    clear hlt hl1 hS
    go_wp2_with fail
    refine hlv.mono ?_
    rintro ee w5 ⟨v,rfl,rfl,hS5⟩
    clear hlv
    go_wp2_with fail
    go_ret
    exact ⟨_,rfl,rfl,hS5.sb⟩
  obtain ⟨hl1,hl2⟩:=hlt
  have c1:(i:Int)<(ds.length:Int):=oQ
  have c2:(i:Int)<30:=oQ
  have hwi:=iwQ (i:=i)
  have Hl1:=uQ hl1;have Hl2:=uQ hl2
  clear hl1 hl2
  obtain ⟨x,hx⟩:∃ x,ds[i]?=some x:=⟨_,List.getElem?_eq_getElem Hl1.out⟩
  have hxe:=He.out x (List.mem_of_getElem? hx)
  have Hxi:=uQ (Hin.out x (List.mem_of_getElem? hx))
  have hk:∀ p∈ds,p.c.e.key.length=32:=fun p hp=>(He.out p hp).key
  have hx0:(sdsL ds)[i * 40+0]?=some (.int .i64 x.c.kind):=sdsL_at hk hx rfl
  obtain ⟨bk,off,rfl,_⟩:=rdsl_cells ((Ro.os Hr.out) _ hS) hx0
  have HG:=uQ (show ∀ w' L,Ro w0 L (rdsl 40 (.slice (some ⟨bk,off,none⟩) ds.length lc) (sdsL ds))→Sat w0 w' L→∀ j v,(sdL x)[j]?=some v→w'.cell? ⟨bk,off+i * 40+j,none⟩=some v by
   intro w' L hL hw j v hj
   obtain ⟨bk',off',hbo,hcell⟩:=rdsl_cells (hL w' hw) hx0
   cases hbo
   have:=hcell _ _ (sdsL_at hk hx hj)
   rw [← Nat.add_assoc]at this
   exact this)
  obtain ⟨⟨kind,e,xn,xp,xl⟩,dv,lv⟩:=x
  obtain ⟨hkey,hrd,hcap,hrl,hcapl⟩:=hxe
  obtain ⟨da,dn,dc,rfl,hdn,hdc⟩:=hcap
  obtain ⟨la2,ln2,lc2,rfl,hln2,hlc2⟩:=hcapl
  have hdl:dn=e.data.length:=by
   obtain ⟨a',n',c',he,hl,_⟩:=hrd _ (hS.sb)
   cases he
   rw [bys_len,Nat.mul_one]at hl;exact hl.symm
  subst hdl
  have Hrd:=uQ hrd;have Hrl:=uQ hrl;have Hkey:=uQ hkey
  have Hln:=uQ (And.intro hln2 hlc2)
  clear hx hk hx0 hrd hrl hkey
  have HCE:=uQ (show ∀ j v,(entL e (.slice da e.data.length dc))[j]?=some v→wr.cell? ⟨bk,off+i * 40+1+j,none⟩=some v from fun j v hj=>by
   have:=HG.out wr _ (Ro.os Hr.out:Ro w0 (LogRep p m L::RLogRep q d L::MedRep m M::DskRep d D::F) _) hS (1+j) v (sdL_ent ⟨⟨kind,e,xn,xp,xl⟩,.slice da e.data.length dc,.slice la2 ln2 lc2⟩ Hkey.out hj)
   rw [← Nat.add_assoc]at this;exact this)
  go_wp2_with (first
   |((with_reducible refine at_load ⟨?_⟩);refine wl_loadW (b:=bk) (o:=off+i * 40+1) (entL e (.slice da e.data.length dc)) rQ HCE.out Tryz.underlying44 rfl (by rw [entL_len _ _ Hkey.out];exact infoEntSize) ?_)
   |((with_reducible refine at_buildE ⟨?_⟩);refine wl_buildE hS rQ Hkey.out ?_;intro bN wN hN))
  refine (few_c (lv:= .slice (some ⟨bN,0,none⟩) 1 1) [(e,.slice da e.data.length dc)] 1 200 dQ dQ (ro_one Hkey.out) (fun p hp=>by
   rw [List.mem_singleton]at hp
   subst hp
   exact ⟨Hkey.out,Ro.os Hrd.out,⟨_,_,_,rfl,hdn,hdc⟩⟩) hN).mono ?_
  rintro ee w3 ⟨v,rfl,fs,hfs,hS3⟩
  obtain ⟨dv2,rfl⟩:=few_one hfs
  have hk2:(Frm.cutE 200 e).key.length=32:=Hkey.out
  have hd2:(Frm.cutE 200 e).data.length≤200:=by show (e.data.take 200).length≤200;rw [List.length_take];omega
  obtain ⟨b2,c2',cs2,da2,dc2,rfl,rfl,hcs,hS4⟩:=few_open hk2 hS3
  have Hk2:=uQ hk2;have Hd2:=uQ hd2
  generalize Frm.cutE 200 e=f at *
  have Hcs:=uQ hcs
  clear hcs hS3 hfs hN hS hk2 hd2 HCE
  go_wp2_with (first
   |((with_reducible refine at_load ⟨?_⟩);refine wl_loadEs (b:=b2) (o:=0) aQ rQ pkD Hk2.out Hcs.out ?_)
   |((with_reducible refine at_allocE ⟨?_⟩);refine wl_allocE aQ ?_;intro bE wE hE)|((with_reducible refine at_storeE ⟨?_⟩);first|(refine wl_storeE aQ rQ rQ fQ upD sQ ?_;intro wS hS)|(refine wl_storeE (e:=Frm.zeroE) (da:=none) (dn:=0) (dc:=0) aQ rQ rQ rfl upD sQ ?_;intro wS hS))|(with_reducible apply at_load))
  have hA:Sat w0 _ (pt bE (.cells (entA f (.slice da2 f.data.length dc2)) 44 (0,0))::bsl (.slice da2 f.data.length dc2) f.data::LogRep p m L::RLogRep q d L::MedRep m M::DskRep d D::F):=hS.sb
  have HCX:=uQ (fun w' R (hw:Sat w0 w' R) (hr:Ro w0 R (rdsl 40 (.slice (some ⟨bk,off,none⟩) ds.length lc) (sdsL ds)))=>show w'.cell? ⟨bk,off+i * 40,none⟩=some (.int .i64 kind)∧w'.cell? ⟨bk,off+i * 40+35,none⟩=some (.int .i64 xn)∧w'.cell? ⟨bk,off+i * 40+39,none⟩=some (.slice la2 ln2 lc2) from
   ⟨HG.out w' R hr hw 0 _ rfl,HG.out w' R hr hw 35 _ ((sdL_tail ⟨⟨kind,e,xn,xp,xl⟩,.slice da e.data.length dc,.slice la2 ln2 lc2⟩ Hkey.out 0).trans rfl),HG.out w' R hr hw 39 _ ((sdL_tail ⟨⟨kind,e,xn,xp,xl⟩,.slice da e.data.length dc,.slice la2 ln2 lc2⟩ Hkey.out 4).trans rfl)⟩)
  have e39:=(HCX.out _ _ hA (Ro.os Hr.out)).2.2
  have e0:=(HCX.out _ _ hA (Ro.os Hr.out)).1
  clear hS hS4 hE HG
  refine ⟨?_⟩
  go_wp2_with fail
  refine (numbers_c la2 ln2 lc2 40 Hln.out.1 Hln.out.2 _).mono ?_
  rintro ee w6 ⟨v,rfl,rfl,rfl⟩
  clear e39
  have Hkb:=uQ (show i * 2000≤80000 by have:=Hi30.out;omega)
  have hkd:kind=1∨kind=2∨kind=5∨kind=6∨((kind==1)=false∧(kind==2)=false∧(kind==5)=false∧(kind==6)=false):=by
   simp only [beq_eq_false_iff_ne];omega
  rcases hkd with rfl|rfl|rfl|rfl|⟨k1,k2,k5,k6⟩
  ·as_aux_lemma=>
    have hst:=HP.out.two.commit
    have hpy:=HP.out.commit
    have hrap:=uQ (fun w' R' (hw:Sat w0 w' (RLogRep q d L::DskRep d D::R'))=>rlcommit_c HP.out.two.log HP.out.two.fit (Nat.le_trans Hkb.out dQ) hw)
    have hap:=lcommit_c (w0:=w0) (Ro.os HH.out) HP.out.two.log HP.out.two.ok (Nat.le_trans (Nat.add_le_add_right Hkb.out 6) dQ) (hA.sb:Sat w0 _ (LogRep p m L::MedRep m M::RLogRep q d L::DskRep d D::F))
    generalize L.commit M=r at *
    generalize L.rcommit D=r2 at *
    obtain ⟨⟨L2,M2⟩,n2,e2⟩:=r
    obtain ⟨⟨L3,D2⟩,n3,e3⟩:=r2
    obtain ⟨hl,hres,htwo⟩:=hst
    dsimp only at hl hres hpy hap
    obtain ⟨rfl,rfl⟩:=Prod.mk.inj hres
    subst hl
    have T2:=uQ hpy
    clear htwo hres hpy HP
    go_wp2_with fail
    refine hap.mono ?_
    rintro ee w21 ⟨v,rfl,rfl,hS21⟩
    clear hap e0 hA
    have hS22:Sat w0 _ (RLogRep q d L::DskRep d D::LogRep p m L3::MedRep m M2::F):=hS21.sb
    clear hS21
    go_wp2_with fail
    refine (hrap.out _ _ hS22).mono ?_
    rintro ee w23 ⟨v,rfl,rfl,hS23⟩
    clear hrap hS22
    obtain ⟨p2,rfl⟩:∃ x,x=p:=⟨p,rfl⟩
    obtain ⟨q2,rfl⟩:∃ x,x=q:=⟨q,rfl⟩
    obtain ⟨L2,rfl⟩:∃ x,x=L3:=⟨L3,rfl⟩
    have hT:Sat w0 _ (LogRep p2 m L2::MedRep m M2::RLogRep q2 d L2::DskRep d D2::F):=hS23.sb
    clear hS23
    have HL:=uQ T2.out.two.log;have HM:=uQ T2.out.two.ok;have HD:=uQ T2.out.two.fit
    have Hbt:=uQ (show ∀ s∈L2.segs,D2.all (Seg.name s)=lbt L2 M2 s from T2.out.told)
    have Hrows:=uQ (show (Rep.rowsOf (lbt L2 M2) L2.segs).length≤12000000 from T2.out.rows (Nat.succ_le_of_lt Hl2.out))
    have Hsz:=uQ (show ∀ r∈Rep.rowsOf (lbt L2 M2) L2.segs,(r.2.size:Int)≤4294967296 from T2.out.sizes (Nat.succ_le_of_lt Hl2.out))
    have Hrok:=uQ (fun n=>Seg.rows_ok HL.out M2 n)
    have Hnl:=uQ (show L2.segs.length≤1073741824 by unfold Seg.Log.segs;rw [List.length_map];have:=HL.out.len;omega)
    have hrn:=run_c HL.out HM.out (Ro.os HH.out) Hrows.out Hsz.out hT
    clear hT
    go_wp2_with fail
    refine hrn.mono ?_
    rintro ee w5 ⟨v,rfl,ho⟩
    clear hrn
    unfold RunOut at ho
    cases hrun:Rep.run (lbt L2 M2) L2.segs with
    |inl x=>
     obtain ⟨fl,e⟩:=x
     rw [hrun]at ho
     obtain ⟨rfl,h5⟩:=ho
     have h6:Sat w0 w5 (LogRep p2 m L2::MedRep m M2::RLogRep q2 d L2::DskRep d D2::F):=h5
     clear h5
     have Hrun:=uQ hrun
     go_wp2_with (with_reducible apply at_alloc)
     refine ⟨wl_alloc zFlt h6 rfl ?_⟩
     intro b10 w6 h7
     clear h6
     go_wp2_with ((with_reducible refine at_store ⟨?_⟩);refine wl_storeA (fltA fl) h7 rQ rQ rQ upd0 kQ rQ ?_;intro w7 h8)
     clear h7
     have hrr:=rrun_c HL.out HD.out Hbt.out Hrows.out Hsz.out (h8.sb:Sat w0 w7 (RLogRep q2 d L2::DskRep d D2::pt b10 (.cells (fltA fl) 75 (0,0))::LogRep p2 m L2::MedRep m M2::F))
     clear h8
     refine hrr.mono ?_
     rintro ee w9 ⟨v,rfl,ho⟩
     clear hrr
     unfold RRunOut at ho
     rw [hrun]at ho
     obtain ⟨rfl,h7⟩:=ho
     have h8:Sat w0 w9 (pt b10 (.cells (fltA fl) 75 (0,0))::LogRep p2 m L2::MedRep m M2::RLogRep q2 d L2::DskRep d D2::F):=h7.sb
     clear h7
     go_wp2_with (with_reducible apply at_alloc)
     refine ⟨wl_alloc zFlt h8 rfl ?_⟩
     intro b12 w10 h9
     clear h8
     go_wp2_with ((with_reducible refine at_store ⟨?_⟩);refine wl_storeA (fltA fl) h9 rQ rQ rQ upd0 kQ rQ ?_;intro w11 h10)
     clear h9
     have hsame:=same_nil_c (w:=w11)
     have hq:∀ w,(Op.equalIn 10000 75 (.agg (fltA fl)) (.agg (fltA fl))).run Tryz.prog w = .ok true w:=fun w=>eqIn_flt fl w
     clear hrun
     refine hsame.mono ?_
     rintro ee w15 ⟨v,rfl,rfl,rfl⟩
     clear hsame
     have h16:Sat w0 _ (pt b12 (.cells (fltA fl) 75 (0,0))::pt b10 (.cells (fltA fl) 75 (0,0))::LogRep p2 m L2::MedRep m M2::RLogRep q2 d L2::DskRep d D2::F):=h10.sb
     clear h10
     go_wp2_with (with_reducible apply at_loadG)
     refine ⟨wl_loadGV rQ h16 rQ pkD Tryz.underlying75 rfl kQ ?_⟩
     go_wp2_with (with_reducible apply at_loadG)
     refine ⟨wl_loadGV rQ h16 rQ pkD Tryz.underlying75 rfl kQ ?_⟩
     go_wp2_with fail
     have hT4:Sat w0 _ (LogRep p2 m L2::RLogRep q2 d L2::MedRep m M2::DskRep d D2::F):=h16.sb
     clear h16
     go_roundg (ds.length - (i+1))
     case measure=>have:=Hl1.out;omega
     case rel=>exact ⟨i+1,p2,q2,L2,M2,D2,rfl,Nat.succ_le_of_lt Hl1.out,Nat.succ_le_of_lt Hl2.out,by first|rfl|go_num,rfl,rfl,T2.out,hT4⟩
    |inr n=>
     rw [hrun]at ho
     obtain ⟨ps,pi,uv,tv,av,kv,rfl,⟨k1,k2,k3⟩,⟨_,htv⟩,h5⟩:=ho
     have h6:Sat w0 w5 (LogRep p2 m L2::MedRep m M2::RLogRep q2 d L2::DskRep d D2::stPt ps (Rep.lastOfL (L2.segs.take n)) pi uv tv::TabML pi (Tab.mapOf (Rep.puts kv)) kv.length::osl 115 3 uv (((Rep.usesOf (lbt L2 M2) (L2.segs.take n)).map (Rep.upd kv)).flatMap uenc)::osl 3 1 av (ints L2.segs)::F):=h5.sb
     have K:=uQ (And.intro k1 (And.intro k2 (And.intro k3 htv)))
     clear h5 k1 k2 k3 htv
     have Hrun:=uQ hrun
     clear hrun
     go_wp2_with (with_reducible apply at_alloc)
     refine ⟨wl_alloc zFlt h6 rfl ?_⟩
     intro b10 w6 h7
     clear h6
     go_wp2_with ((with_reducible refine at_store ⟨?_⟩);refine wl_storeA (fltA Rep.Flt.zero) h7 rQ rQ rQ upd0 kQ rQ ?_;intro w7 h8)
     clear h7
     have hrr:=rrun_c HL.out HD.out Hbt.out Hrows.out Hsz.out (h8.sb:Sat w0 w7 (RLogRep q2 d L2::DskRep d D2::pt b10 (.cells (fltA Rep.Flt.zero) 75 (0,0))::LogRep p2 m L2::MedRep m M2::stPt ps (Rep.lastOfL (L2.segs.take n)) pi uv tv::TabML pi (Tab.mapOf (Rep.puts kv)) kv.length::osl 115 3 uv (((Rep.usesOf (lbt L2 M2) (L2.segs.take n)).map (Rep.upd kv)).flatMap uenc)::osl 3 1 av (ints L2.segs)::F))
     clear h8
     refine hrr.mono ?_
     rintro ee w9 ⟨v,rfl,ho⟩
     clear hrr
     unfold RRunOut at ho
     rw [Hrun.out]at ho
     obtain ⟨pr,iv,uv2,tv2,rfl,h7⟩:=ho
     have h8:Sat w0 w9 (pt b10 (.cells (fltA Rep.Flt.zero) 75 (0,0))::LogRep p2 m L2::MedRep m M2::RLogRep q2 d L2::DskRep d D2::stPt ps (Rep.lastOfL (L2.segs.take n)) pi uv tv::TabML pi (Tab.mapOf (Rep.puts kv)) kv.length::osl 115 3 uv (((Rep.usesOf (lbt L2 M2) (L2.segs.take n)).map (Rep.upd kv)).flatMap uenc)::osl 3 1 av (ints L2.segs)::rstPt pr (Rep.lastOfL (L2.segs.take n)) iv uv2 tv2::osl 117 35 iv ((Rep.idx (Rep.rowsOf (lbt L2 M2) (L2.segs.take n)) (Rep.rowsOf (lbt L2 M2) (L2.segs.take n)).length).flatMap kvL)::osl 115 3 uv2 ((Rep.uAt (Rep.rowsOf (lbt L2 M2) (L2.segs.take n)) (Rep.usesOf (lbt L2 M2) (L2.segs.take n)) (Rep.rowsOf (lbt L2 M2) (L2.segs.take n)).length).flatMap uenc)::osl 3 1 tv2 (ints (L2.segs.drop n))::F):=h7.sb
     clear h7
     go_wp2_with (with_reducible apply at_alloc)
     refine ⟨wl_alloc zFlt h8 rfl ?_⟩
     intro b12 w10 h9
     clear h8
     go_wp2_with ((with_reducible refine at_store ⟨?_⟩);refine wl_storeA (fltA Rep.Flt.zero) h9 rQ rQ rQ upd0 kQ rQ ?_;intro w11 h10)
     clear h9
     have hkl:kv.length≤12000000:=Nat.le_trans K.out.2.2.1 (Nat.le_trans (Rep.rowsOf_le (lbt L2 M2) L2.segs n) Hrows.out)
     have hidx:=Rep.idx_eq (Hrok.out n) K.out.1
     have huse:=Rep.uAt_all (Hrok.out n) K.out.1 (Rep.usesOf_zero (lbt L2 M2) (L2.segs.take n))
     rw [hidx,huse]at h10
     have hsame:=same_st_c (w:=w11) (w0:=w0) ps pi pr kv.length (Rep.lastOfL (L2.segs.take n)) (uv:=uv) (tv:=tv) (iv:=iv) (uv2:=uv2) (tv2:=tv2) (Rep.puts kv) (Tab.mapOf_lists (Rep.puts_rise K.out.1.rise)) ((Rep.usesOf (lbt L2 M2) (L2.segs.take n)).map (Rep.upd kv)) (L2.segs.drop n) oQ
      (by rw [List.length_map];unfold Rep.usesOf;rw [List.length_map,List.length_take];have:=Hnl.out;omega) (by rw [List.length_drop];have:=Hnl.out;omega)
      (F:=osl 117 35 iv ((Rep.puts kv).flatMap kvL)::osl 115 3 uv2 (((Rep.usesOf (lbt L2 M2) (L2.segs.take n)).map (Rep.upd kv)).flatMap uenc)::osl 3 1 tv2 (ints (L2.segs.drop n))::osl 115 3 uv (((Rep.usesOf (lbt L2 M2) (L2.segs.take n)).map (Rep.upd kv)).flatMap uenc)::osl 3 1 av (ints L2.segs)::pt b12 (.cells (fltA Rep.Flt.zero) 75 (0,0))::pt b10 (.cells (fltA Rep.Flt.zero) 75 (0,0))::LogRep p2 m L2::MedRep m M2::RLogRep q2 d L2::DskRep d D2::F)
      (Ro.of_pick (fun w hw=>Sat.rd hw) pick0) (Ro.of_pick (fun w hw=>Sat.rd hw) (pick_there (pick_there (pick_there pick0)))) (Ro.of_pick (fun w hw=>Sat.rd hw) pick1) (Ro.of_pick (fun w hw=>K.out.2.2.2 w (Sat.rd hw)) (pick_there (pick_there (pick_there (pick_there pick0))))) (Ro.of_pick (fun w hw=>Sat.rd hw) (pick_there (pick_there pick0)))
      (h10.sb)
     have hq:∀ w,(Op.equalIn 10000 75 (.agg (fltA Rep.Flt.zero)) (.agg (fltA Rep.Flt.zero))).run Tryz.prog w = .ok true w:=fun w=>eqIn_flt Rep.Flt.zero w
     clear h10 hidx huse hkl
     refine hsame.mono ?_
     rintro ee w15 ⟨v,rfl,rfl,h15⟩
     clear hsame
     have h16:Sat w0 _ (pt b12 (.cells (fltA Rep.Flt.zero) 75 (0,0))::pt b10 (.cells (fltA Rep.Flt.zero) 75 (0,0))::LogRep p2 m L2::MedRep m M2::RLogRep q2 d L2::DskRep d D2::F):=h15.sb
     clear h15
     go_wp2_with (with_reducible apply at_loadG)
     refine ⟨wl_loadGV rQ h16 rQ pkD Tryz.underlying75 rfl kQ ?_⟩
     go_wp2_with (with_reducible apply at_loadG)
     refine ⟨wl_loadGV rQ h16 rQ pkD Tryz.underlying75 rfl kQ ?_⟩
     go_wp2_with fail
     have hT4:Sat w0 _ (LogRep p2 m L2::RLogRep q2 d L2::MedRep m M2::DskRep d D2::F):=h16.sb
     clear h16
     go_roundg (ds.length - (i+1))
     case measure=>have:=Hl1.out;omega
     case rel=>exact ⟨i+1,p2,q2,L2,M2,D2,rfl,Nat.succ_le_of_lt Hl1.out,Nat.succ_le_of_lt Hl2.out,by first|rfl|go_num,rfl,rfl,T2.out,hT4⟩
  ·as_aux_lemma=>
    have hst:=HP.out.two.rollback (by have:=Hl2.out;omega)
    have hpy:=HP.out.rollback (by have:=Hl2.out;omega)
    have hrap:=uQ (fun w' R' (hw:Sat w0 w' (RLogRep q d L::DskRep d D::R'))=>rlrollback_c HP.out.two.log HP.out.two.fit (by have:=HP.out.two.fresh;have:=Hl2.out;omega) hw)
    have hap:=lrollback_c (w0:=w0) HP.out.two.log HP.out.two.ok (Nat.le_trans (Nat.add_le_add_right Hkb.out 1048576) dQ) (hA.sb:Sat w0 _ (LogRep p m L::MedRep m M::RLogRep q d L::DskRep d D::F))
    generalize L.rollback M=r at *
    generalize L.rrollback D=r2 at *
    obtain ⟨⟨L2,M2⟩,e2⟩:=r
    obtain ⟨⟨L3,D2⟩,e3⟩:=r2
    obtain ⟨hl,hres,htwo⟩:=hst
    dsimp only at hl hres hpy hap
    subst hres
    subst hl
    have T2:=uQ hpy
    clear htwo hpy HP
    go_wp2_with fail
    refine hap.mono ?_
    rintro ee w21 ⟨v,rfl,rfl,hS21⟩
    clear hap e0 hA
    have hS22:Sat w0 _ (RLogRep q d L::DskRep d D::LogRep p m L3::MedRep m M2::F):=hS21.sb
    clear hS21
    go_wp2_with fail
    refine (hrap.out _ _ hS22).mono ?_
    rintro ee w23 ⟨v,rfl,rfl,hS23⟩
    clear hrap hS22
    obtain ⟨p2,rfl⟩:∃ x,x=p:=⟨p,rfl⟩
    obtain ⟨q2,rfl⟩:∃ x,x=q:=⟨q,rfl⟩
    obtain ⟨L2,rfl⟩:∃ x,x=L3:=⟨L3,rfl⟩
    have hT:Sat w0 _ (LogRep p2 m L2::MedRep m M2::RLogRep q2 d L2::DskRep d D2::F):=hS23.sb
    clear hS23
    have HL:=uQ T2.out.two.log;have HM:=uQ T2.out.two.ok;have HD:=uQ T2.out.two.fit
    have Hbt:=uQ (show ∀ s∈L2.segs,D2.all (Seg.name s)=lbt L2 M2 s from T2.out.told)
    have Hrows:=uQ (show (Rep.rowsOf (lbt L2 M2) L2.segs).length≤12000000 from T2.out.rows (Nat.succ_le_of_lt Hl2.out))
    have Hsz:=uQ (show ∀ r∈Rep.rowsOf (lbt L2 M2) L2.segs,(r.2.size:Int)≤4294967296 from T2.out.sizes (Nat.succ_le_of_lt Hl2.out))
    have Hrok:=uQ (fun n=>Seg.rows_ok HL.out M2 n)
    have Hnl:=uQ (show L2.segs.length≤1073741824 by unfold Seg.Log.segs;rw [List.length_map];have:=HL.out.len;omega)
    have hrn:=run_c HL.out HM.out (Ro.os HH.out) Hrows.out Hsz.out hT
    clear hT
    go_wp2_with fail
    refine hrn.mono ?_
    rintro ee w5 ⟨v,rfl,ho⟩
    clear hrn
    unfold RunOut at ho
    cases hrun:Rep.run (lbt L2 M2) L2.segs with
    |inl x=>
     obtain ⟨fl,e⟩:=x
     rw [hrun]at ho
     obtain ⟨rfl,h5⟩:=ho
     have h6:Sat w0 w5 (LogRep p2 m L2::MedRep m M2::RLogRep q2 d L2::DskRep d D2::F):=h5
     clear h5
     have Hrun:=uQ hrun
     go_wp2_with (with_reducible apply at_alloc)
     refine ⟨wl_alloc zFlt h6 rfl ?_⟩
     intro b10 w6 h7
     clear h6
     go_wp2_with ((with_reducible refine at_store ⟨?_⟩);refine wl_storeA (fltA fl) h7 rQ rQ rQ upd0 kQ rQ ?_;intro w7 h8)
     clear h7
     have hrr:=rrun_c HL.out HD.out Hbt.out Hrows.out Hsz.out (h8.sb:Sat w0 w7 (RLogRep q2 d L2::DskRep d D2::pt b10 (.cells (fltA fl) 75 (0,0))::LogRep p2 m L2::MedRep m M2::F))
     clear h8
     refine hrr.mono ?_
     rintro ee w9 ⟨v,rfl,ho⟩
     clear hrr
     unfold RRunOut at ho
     rw [hrun]at ho
     obtain ⟨rfl,h7⟩:=ho
     have h8:Sat w0 w9 (pt b10 (.cells (fltA fl) 75 (0,0))::LogRep p2 m L2::MedRep m M2::RLogRep q2 d L2::DskRep d D2::F):=h7.sb
     clear h7
     go_wp2_with (with_reducible apply at_alloc)
     refine ⟨wl_alloc zFlt h8 rfl ?_⟩
     intro b12 w10 h9
     clear h8
     go_wp2_with ((with_reducible refine at_store ⟨?_⟩);refine wl_storeA (fltA fl) h9 rQ rQ rQ upd0 kQ rQ ?_;intro w11 h10)
     clear h9
     have hsame:=same_nil_c (w:=w11)
     have hq:∀ w,(Op.equalIn 10000 75 (.agg (fltA fl)) (.agg (fltA fl))).run Tryz.prog w = .ok true w:=fun w=>eqIn_flt fl w
     clear hrun
     refine hsame.mono ?_
     rintro ee w15 ⟨v,rfl,rfl,rfl⟩
     clear hsame
     have h16:Sat w0 _ (pt b12 (.cells (fltA fl) 75 (0,0))::pt b10 (.cells (fltA fl) 75 (0,0))::LogRep p2 m L2::MedRep m M2::RLogRep q2 d L2::DskRep d D2::F):=h10.sb
     clear h10
     go_wp2_with (with_reducible apply at_loadG)
     refine ⟨wl_loadGV rQ h16 rQ pkD Tryz.underlying75 rfl kQ ?_⟩
     go_wp2_with (with_reducible apply at_loadG)
     refine ⟨wl_loadGV rQ h16 rQ pkD Tryz.underlying75 rfl kQ ?_⟩
     go_wp2_with fail
     have hT4:Sat w0 _ (LogRep p2 m L2::RLogRep q2 d L2::MedRep m M2::DskRep d D2::F):=h16.sb
     clear h16
     go_roundg (ds.length - (i+1))
     case measure=>have:=Hl1.out;omega
     case rel=>exact ⟨i+1,p2,q2,L2,M2,D2,rfl,Nat.succ_le_of_lt Hl1.out,Nat.succ_le_of_lt Hl2.out,by first|rfl|go_num,rfl,rfl,T2.out,hT4⟩
    |inr n=>
     rw [hrun]at ho
     obtain ⟨ps,pi,uv,tv,av,kv,rfl,⟨k1,k2,k3⟩,⟨_,htv⟩,h5⟩:=ho
     have h6:Sat w0 w5 (LogRep p2 m L2::MedRep m M2::RLogRep q2 d L2::DskRep d D2::stPt ps (Rep.lastOfL (L2.segs.take n)) pi uv tv::TabML pi (Tab.mapOf (Rep.puts kv)) kv.length::osl 115 3 uv (((Rep.usesOf (lbt L2 M2) (L2.segs.take n)).map (Rep.upd kv)).flatMap uenc)::osl 3 1 av (ints L2.segs)::F):=h5.sb
     have K:=uQ (And.intro k1 (And.intro k2 (And.intro k3 htv)))
     clear h5 k1 k2 k3 htv
     have Hrun:=uQ hrun
     clear hrun
     go_wp2_with (with_reducible apply at_alloc)
     refine ⟨wl_alloc zFlt h6 rfl ?_⟩
     intro b10 w6 h7
     clear h6
     go_wp2_with ((with_reducible refine at_store ⟨?_⟩);refine wl_storeA (fltA Rep.Flt.zero) h7 rQ rQ rQ upd0 kQ rQ ?_;intro w7 h8)
     clear h7
     have hrr:=rrun_c HL.out HD.out Hbt.out Hrows.out Hsz.out (h8.sb:Sat w0 w7 (RLogRep q2 d L2::DskRep d D2::pt b10 (.cells (fltA Rep.Flt.zero) 75 (0,0))::LogRep p2 m L2::MedRep m M2::stPt ps (Rep.lastOfL (L2.segs.take n)) pi uv tv::TabML pi (Tab.mapOf (Rep.puts kv)) kv.length::osl 115 3 uv (((Rep.usesOf (lbt L2 M2) (L2.segs.take n)).map (Rep.upd kv)).flatMap uenc)::osl 3 1 av (ints L2.segs)::F))
     clear h8
     refine hrr.mono ?_
     rintro ee w9 ⟨v,rfl,ho⟩
     clear hrr
     unfold RRunOut at ho
     rw [Hrun.out]at ho
     obtain ⟨pr,iv,uv2,tv2,rfl,h7⟩:=ho
     have h8:Sat w0 w9 (pt b10 (.cells (fltA Rep.Flt.zero) 75 (0,0))::LogRep p2 m L2::MedRep m M2::RLogRep q2 d L2::DskRep d D2::stPt ps (Rep.lastOfL (L2.segs.take n)) pi uv tv::TabML pi (Tab.mapOf (Rep.puts kv)) kv.length::osl 115 3 uv (((Rep.usesOf (lbt L2 M2) (L2.segs.take n)).map (Rep.upd kv)).flatMap uenc)::osl 3 1 av (ints L2.segs)::rstPt pr (Rep.lastOfL (L2.segs.take n)) iv uv2 tv2::osl 117 35 iv ((Rep.idx (Rep.rowsOf (lbt L2 M2) (L2.segs.take n)) (Rep.rowsOf (lbt L2 M2) (L2.segs.take n)).length).flatMap kvL)::osl 115 3 uv2 ((Rep.uAt (Rep.rowsOf (lbt L2 M2) (L2.segs.take n)) (Rep.usesOf (lbt L2 M2) (L2.segs.take n)) (Rep.rowsOf (lbt L2 M2) (L2.segs.take n)).length).flatMap uenc)::osl 3 1 tv2 (ints (L2.segs.drop n))::F):=h7.sb
     clear h7
     go_wp2_with (with_reducible apply at_alloc)
     refine ⟨wl_alloc zFlt h8 rfl ?_⟩
     intro b12 w10 h9
     clear h8
     go_wp2_with ((with_reducible refine at_store ⟨?_⟩);refine wl_storeA (fltA Rep.Flt.zero) h9 rQ rQ rQ upd0 kQ rQ ?_;intro w11 h10)
     clear h9
     have hkl:kv.length≤12000000:=Nat.le_trans K.out.2.2.1 (Nat.le_trans (Rep.rowsOf_le (lbt L2 M2) L2.segs n) Hrows.out)
     have hidx:=Rep.idx_eq (Hrok.out n) K.out.1
     have huse:=Rep.uAt_all (Hrok.out n) K.out.1 (Rep.usesOf_zero (lbt L2 M2) (L2.segs.take n))
     rw [hidx,huse]at h10
     have hsame:=same_st_c (w:=w11) (w0:=w0) ps pi pr kv.length (Rep.lastOfL (L2.segs.take n)) (uv:=uv) (tv:=tv) (iv:=iv) (uv2:=uv2) (tv2:=tv2) (Rep.puts kv) (Tab.mapOf_lists (Rep.puts_rise K.out.1.rise)) ((Rep.usesOf (lbt L2 M2) (L2.segs.take n)).map (Rep.upd kv)) (L2.segs.drop n) oQ
      (by rw [List.length_map];unfold Rep.usesOf;rw [List.length_map,List.length_take];have:=Hnl.out;omega) (by rw [List.length_drop];have:=Hnl.out;omega)
      (F:=osl 117 35 iv ((Rep.puts kv).flatMap kvL)::osl 115 3 uv2 (((Rep.usesOf (lbt L2 M2) (L2.segs.take n)).map (Rep.upd kv)).flatMap uenc)::osl 3 1 tv2 (ints (L2.segs.drop n))::osl 115 3 uv (((Rep.usesOf (lbt L2 M2) (L2.segs.take n)).map (Rep.upd kv)).flatMap uenc)::osl 3 1 av (ints L2.segs)::pt b12 (.cells (fltA Rep.Flt.zero) 75 (0,0))::pt b10 (.cells (fltA Rep.Flt.zero) 75 (0,0))::LogRep p2 m L2::MedRep m M2::RLogRep q2 d L2::DskRep d D2::F)
      (Ro.of_pick (fun w hw=>Sat.rd hw) pick0) (Ro.of_pick (fun w hw=>Sat.rd hw) (pick_there (pick_there (pick_there pick0)))) (Ro.of_pick (fun w hw=>Sat.rd hw) pick1) (Ro.of_pick (fun w hw=>K.out.2.2.2 w (Sat.rd hw)) (pick_there (pick_there (pick_there (pick_there pick0))))) (Ro.of_pick (fun w hw=>Sat.rd hw) (pick_there (pick_there pick0)))
      (h10.sb)
     have hq:∀ w,(Op.equalIn 10000 75 (.agg (fltA Rep.Flt.zero)) (.agg (fltA Rep.Flt.zero))).run Tryz.prog w = .ok true w:=fun w=>eqIn_flt Rep.Flt.zero w
     clear h10 hidx huse hkl
     refine hsame.mono ?_
     rintro ee w15 ⟨v,rfl,rfl,h15⟩
     clear hsame
     have h16:Sat w0 _ (pt b12 (.cells (fltA Rep.Flt.zero) 75 (0,0))::pt b10 (.cells (fltA Rep.Flt.zero) 75 (0,0))::LogRep p2 m L2::MedRep m M2::RLogRep q2 d L2::DskRep d D2::F):=h15.sb
     clear h15
     go_wp2_with (with_reducible apply at_loadG)
     refine ⟨wl_loadGV rQ h16 rQ pkD Tryz.underlying75 rfl kQ ?_⟩
     go_wp2_with (with_reducible apply at_loadG)
     refine ⟨wl_loadGV rQ h16 rQ pkD Tryz.underlying75 rfl kQ ?_⟩
     go_wp2_with fail
     have hT4:Sat w0 _ (LogRep p2 m L2::RLogRep q2 d L2::MedRep m M2::DskRep d D2::F):=h16.sb
     clear h16
     go_roundg (ds.length - (i+1))
     case measure=>have:=Hl1.out;omega
     case rel=>exact ⟨i+1,p2,q2,L2,M2,D2,rfl,Nat.succ_le_of_lt Hl1.out,Nat.succ_le_of_lt Hl2.out,by first|rfl|go_num,rfl,rfl,T2.out,hT4⟩
  ·as_aux_lemma=>
    obtain ⟨hres,htwo⟩:=HP.out.two.arm xn Hxi.out.1.2
    have hpy:=HP.out.arm xn Hxi.out.1.2
    have hrap:=uQ (fun w' R' (hw:Sat w0 w' (DskRep d D::R'))=>rarm_c xn hw)
    have hap:=arm_c (hA.sb:Sat w0 _ (MedRep m M::LogRep p m L::RLogRep q d L::DskRep d D::F)) xn
    have e35:=(HCX.out _ _ hA (Ro.os Hr.out)).2.1
    generalize M.arm xn=r at *
    generalize D.arm xn=r2 at *
    obtain ⟨M2,e2⟩:=r
    obtain ⟨D2,e3⟩:=r2
    dsimp only at hres hpy hap
    subst hres
    have T2:=uQ hpy
    clear htwo hpy HP
    go_wp2_with fail
    refine hap.mono ?_
    rintro ee w21 ⟨v,rfl,rfl,hS21⟩
    clear hap e0 e35 hA
    have hS22:Sat w0 _ (DskRep d D::RLogRep q d L::LogRep p m L::MedRep m M2::F):=hS21.sb
    clear hS21
    have e35:=(HCX.out _ _ hS22 (Ro.os Hr.out)).2.1
    go_wp2_with fail
    refine (hrap.out _ _ hS22).mono ?_
    rintro ee w23 ⟨v,rfl,rfl,hS23⟩
    clear hrap hS22 e35
    obtain ⟨p2,rfl⟩:∃ x,x=p:=⟨p,rfl⟩
    obtain ⟨q2,rfl⟩:∃ x,x=q:=⟨q,rfl⟩
    obtain ⟨L2,rfl⟩:∃ x,x=L:=⟨L,rfl⟩
    have hT:Sat w0 _ (LogRep p2 m L2::MedRep m M2::RLogRep q2 d L2::DskRep d D2::F):=hS23.sb
    clear hS23
    have HL:=uQ T2.out.two.log;have HM:=uQ T2.out.two.ok;have HD:=uQ T2.out.two.fit
    have Hbt:=uQ (show ∀ s∈L2.segs,D2.all (Seg.name s)=lbt L2 M2 s from T2.out.told)
    have Hrows:=uQ (show (Rep.rowsOf (lbt L2 M2) L2.segs).length≤12000000 from T2.out.rows (Nat.succ_le_of_lt Hl2.out))
    have Hsz:=uQ (show ∀ r∈Rep.rowsOf (lbt L2 M2) L2.segs,(r.2.size:Int)≤4294967296 from T2.out.sizes (Nat.succ_le_of_lt Hl2.out))
    have Hrok:=uQ (fun n=>Seg.rows_ok HL.out M2 n)
    have Hnl:=uQ (show L2.segs.length≤1073741824 by unfold Seg.Log.segs;rw [List.length_map];have:=HL.out.len;omega)
    have hrn:=run_c HL.out HM.out (Ro.os HH.out) Hrows.out Hsz.out hT
    clear hT
    go_wp2_with fail
    refine hrn.mono ?_
    rintro ee w5 ⟨v,rfl,ho⟩
    clear hrn
    unfold RunOut at ho
    cases hrun:Rep.run (lbt L2 M2) L2.segs with
    |inl x=>
     obtain ⟨fl,e⟩:=x
     rw [hrun]at ho
     obtain ⟨rfl,h5⟩:=ho
     have h6:Sat w0 w5 (LogRep p2 m L2::MedRep m M2::RLogRep q2 d L2::DskRep d D2::F):=h5
     clear h5
     have Hrun:=uQ hrun
     go_wp2_with (with_reducible apply at_alloc)
     refine ⟨wl_alloc zFlt h6 rfl ?_⟩
     intro b10 w6 h7
     clear h6
     go_wp2_with ((with_reducible refine at_store ⟨?_⟩);refine wl_storeA (fltA fl) h7 rQ rQ rQ upd0 kQ rQ ?_;intro w7 h8)
     clear h7
     have hrr:=rrun_c HL.out HD.out Hbt.out Hrows.out Hsz.out (h8.sb:Sat w0 w7 (RLogRep q2 d L2::DskRep d D2::pt b10 (.cells (fltA fl) 75 (0,0))::LogRep p2 m L2::MedRep m M2::F))
     clear h8
     refine hrr.mono ?_
     rintro ee w9 ⟨v,rfl,ho⟩
     clear hrr
     unfold RRunOut at ho
     rw [hrun]at ho
     obtain ⟨rfl,h7⟩:=ho
     have h8:Sat w0 w9 (pt b10 (.cells (fltA fl) 75 (0,0))::LogRep p2 m L2::MedRep m M2::RLogRep q2 d L2::DskRep d D2::F):=h7.sb
     clear h7
     go_wp2_with (with_reducible apply at_alloc)
     refine ⟨wl_alloc zFlt h8 rfl ?_⟩
     intro b12 w10 h9
     clear h8
     go_wp2_with ((with_reducible refine at_store ⟨?_⟩);refine wl_storeA (fltA fl) h9 rQ rQ rQ upd0 kQ rQ ?_;intro w11 h10)
     clear h9
     have hsame:=same_nil_c (w:=w11)
     have hq:∀ w,(Op.equalIn 10000 75 (.agg (fltA fl)) (.agg (fltA fl))).run Tryz.prog w = .ok true w:=fun w=>eqIn_flt fl w
     clear hrun
     refine hsame.mono ?_
     rintro ee w15 ⟨v,rfl,rfl,rfl⟩
     clear hsame
     have h16:Sat w0 _ (pt b12 (.cells (fltA fl) 75 (0,0))::pt b10 (.cells (fltA fl) 75 (0,0))::LogRep p2 m L2::MedRep m M2::RLogRep q2 d L2::DskRep d D2::F):=h10.sb
     clear h10
     go_wp2_with (with_reducible apply at_loadG)
     refine ⟨wl_loadGV rQ h16 rQ pkD Tryz.underlying75 rfl kQ ?_⟩
     go_wp2_with (with_reducible apply at_loadG)
     refine ⟨wl_loadGV rQ h16 rQ pkD Tryz.underlying75 rfl kQ ?_⟩
     go_wp2_with fail
     have hT4:Sat w0 _ (LogRep p2 m L2::RLogRep q2 d L2::MedRep m M2::DskRep d D2::F):=h16.sb
     clear h16
     go_roundg (ds.length - (i+1))
     case measure=>have:=Hl1.out;omega
     case rel=>exact ⟨i+1,p2,q2,L2,M2,D2,rfl,Nat.succ_le_of_lt Hl1.out,Nat.succ_le_of_lt Hl2.out,by first|rfl|go_num,rfl,rfl,T2.out,hT4⟩
    |inr n=>
     rw [hrun]at ho
     obtain ⟨ps,pi,uv,tv,av,kv,rfl,⟨k1,k2,k3⟩,⟨_,htv⟩,h5⟩:=ho
     have h6:Sat w0 w5 (LogRep p2 m L2::MedRep m M2::RLogRep q2 d L2::DskRep d D2::stPt ps (Rep.lastOfL (L2.segs.take n)) pi uv tv::TabML pi (Tab.mapOf (Rep.puts kv)) kv.length::osl 115 3 uv (((Rep.usesOf (lbt L2 M2) (L2.segs.take n)).map (Rep.upd kv)).flatMap uenc)::osl 3 1 av (ints L2.segs)::F):=h5.sb
     have K:=uQ (And.intro k1 (And.intro k2 (And.intro k3 htv)))
     clear h5 k1 k2 k3 htv
     have Hrun:=uQ hrun
     clear hrun
     go_wp2_with (with_reducible apply at_alloc)
     refine ⟨wl_alloc zFlt h6 rfl ?_⟩
     intro b10 w6 h7
     clear h6
     go_wp2_with ((with_reducible refine at_store ⟨?_⟩);refine wl_storeA (fltA Rep.Flt.zero) h7 rQ rQ rQ upd0 kQ rQ ?_;intro w7 h8)
     clear h7
     have hrr:=rrun_c HL.out HD.out Hbt.out Hrows.out Hsz.out (h8.sb:Sat w0 w7 (RLogRep q2 d L2::DskRep d D2::pt b10 (.cells (fltA Rep.Flt.zero) 75 (0,0))::LogRep p2 m L2::MedRep m M2::stPt ps (Rep.lastOfL (L2.segs.take n)) pi uv tv::TabML pi (Tab.mapOf (Rep.puts kv)) kv.length::osl 115 3 uv (((Rep.usesOf (lbt L2 M2) (L2.segs.take n)).map (Rep.upd kv)).flatMap uenc)::osl 3 1 av (ints L2.segs)::F))
     clear h8
     refine hrr.mono ?_
     rintro ee w9 ⟨v,rfl,ho⟩
     clear hrr
     unfold RRunOut at ho
     rw [Hrun.out]at ho
     obtain ⟨pr,iv,uv2,tv2,rfl,h7⟩:=ho
     have h8:Sat w0 w9 (pt b10 (.cells (fltA Rep.Flt.zero) 75 (0,0))::LogRep p2 m L2::MedRep m M2::RLogRep q2 d L2::DskRep d D2::stPt ps (Rep.lastOfL (L2.segs.take n)) pi uv tv::TabML pi (Tab.mapOf (Rep.puts kv)) kv.length::osl 115 3 uv (((Rep.usesOf (lbt L2 M2) (L2.segs.take n)).map (Rep.upd kv)).flatMap uenc)::osl 3 1 av (ints L2.segs)::rstPt pr (Rep.lastOfL (L2.segs.take n)) iv uv2 tv2::osl 117 35 iv ((Rep.idx (Rep.rowsOf (lbt L2 M2) (L2.segs.take n)) (Rep.rowsOf (lbt L2 M2) (L2.segs.take n)).length).flatMap kvL)::osl 115 3 uv2 ((Rep.uAt (Rep.rowsOf (lbt L2 M2) (L2.segs.take n)) (Rep.usesOf (lbt L2 M2) (L2.segs.take n)) (Rep.rowsOf (lbt L2 M2) (L2.segs.take n)).length).flatMap uenc)::osl 3 1 tv2 (ints (L2.segs.drop n))::F):=h7.sb
     clear h7
     go_wp2_with (with_reducible apply at_alloc)
     refine ⟨wl_alloc zFlt h8 rfl ?_⟩
     intro b12 w10 h9
     clear h8
     go_wp2_with ((with_reducible refine at_store ⟨?_⟩);refine wl_storeA (fltA Rep.Flt.zero) h9 rQ rQ rQ upd0 kQ rQ ?_;intro w11 h10)
     clear h9
     have hkl:kv.length≤12000000:=Nat.le_trans K.out.2.2.1 (Nat.le_trans (Rep.rowsOf_le (lbt L2 M2) L2.segs n) Hrows.out)
     have hidx:=Rep.idx_eq (Hrok.out n) K.out.1
     have huse:=Rep.uAt_all (Hrok.out n) K.out.1 (Rep.usesOf_zero (lbt L2 M2) (L2.segs.take n))
     rw [hidx,huse]at h10
     have hsame:=same_st_c (w:=w11) (w0:=w0) ps pi pr kv.length (Rep.lastOfL (L2.segs.take n)) (uv:=uv) (tv:=tv) (iv:=iv) (uv2:=uv2) (tv2:=tv2) (Rep.puts kv) (Tab.mapOf_lists (Rep.puts_rise K.out.1.rise)) ((Rep.usesOf (lbt L2 M2) (L2.segs.take n)).map (Rep.upd kv)) (L2.segs.drop n) oQ
      (by rw [List.length_map];unfold Rep.usesOf;rw [List.length_map,List.length_take];have:=Hnl.out;omega) (by rw [List.length_drop];have:=Hnl.out;omega)
      (F:=osl 117 35 iv ((Rep.puts kv).flatMap kvL)::osl 115 3 uv2 (((Rep.usesOf (lbt L2 M2) (L2.segs.take n)).map (Rep.upd kv)).flatMap uenc)::osl 3 1 tv2 (ints (L2.segs.drop n))::osl 115 3 uv (((Rep.usesOf (lbt L2 M2) (L2.segs.take n)).map (Rep.upd kv)).flatMap uenc)::osl 3 1 av (ints L2.segs)::pt b12 (.cells (fltA Rep.Flt.zero) 75 (0,0))::pt b10 (.cells (fltA Rep.Flt.zero) 75 (0,0))::LogRep p2 m L2::MedRep m M2::RLogRep q2 d L2::DskRep d D2::F)
      (Ro.of_pick (fun w hw=>Sat.rd hw) pick0) (Ro.of_pick (fun w hw=>Sat.rd hw) (pick_there (pick_there (pick_there pick0)))) (Ro.of_pick (fun w hw=>Sat.rd hw) pick1) (Ro.of_pick (fun w hw=>K.out.2.2.2 w (Sat.rd hw)) (pick_there (pick_there (pick_there (pick_there pick0))))) (Ro.of_pick (fun w hw=>Sat.rd hw) (pick_there (pick_there pick0)))
      (h10.sb)
     have hq:∀ w,(Op.equalIn 10000 75 (.agg (fltA Rep.Flt.zero)) (.agg (fltA Rep.Flt.zero))).run Tryz.prog w = .ok true w:=fun w=>eqIn_flt Rep.Flt.zero w
     clear h10 hidx huse hkl
     refine hsame.mono ?_
     rintro ee w15 ⟨v,rfl,rfl,h15⟩
     clear hsame
     have h16:Sat w0 _ (pt b12 (.cells (fltA Rep.Flt.zero) 75 (0,0))::pt b10 (.cells (fltA Rep.Flt.zero) 75 (0,0))::LogRep p2 m L2::MedRep m M2::RLogRep q2 d L2::DskRep d D2::F):=h15.sb
     clear h15
     go_wp2_with (with_reducible apply at_loadG)
     refine ⟨wl_loadGV rQ h16 rQ pkD Tryz.underlying75 rfl kQ ?_⟩
     go_wp2_with (with_reducible apply at_loadG)
     refine ⟨wl_loadGV rQ h16 rQ pkD Tryz.underlying75 rfl kQ ?_⟩
     go_wp2_with fail
     have hT4:Sat w0 _ (LogRep p2 m L2::RLogRep q2 d L2::MedRep m M2::DskRep d D2::F):=h16.sb
     clear h16
     go_roundg (ds.length - (i+1))
     case measure=>have:=Hl1.out;omega
     case rel=>exact ⟨i+1,p2,q2,L2,M2,D2,rfl,Nat.succ_le_of_lt Hl1.out,Nat.succ_le_of_lt Hl2.out,by first|rfl|go_num,rfl,rfl,T2.out,hT4⟩
  ·as_aux_lemma=>
    obtain ⟨htwo,hfr,hal,hoff⟩:=HP.out.two.crash (xl.take 40) lim Hlim.out.1 Hlim.out.2
    have hpy:=HP.out.crash (xl.take 40) lim Hlim.out.1 Hlim.out.2
    have Hrc:=uQ (show Ro w0 F (rdsl 1 (.slice la2 (min ln2 40) lc2) (ints (xl.take 40))) from fun w hw=>rdsl_cutI (Hrl.out w hw))
    have Hc2:=uQ (show capOk (.slice la2 (min ln2 40) lc2) from ⟨_,_,_,rfl,Nat.le_trans (Nat.min_le_left _ _) Hln.out.1,Hln.out.2⟩)
    have Hx2:=uQ (show ∀ x∈xl.take 40,inI x from fun x hx=>Hxi.out.2 x (List.mem_of_mem_take hx))
    generalize xl.take 40=xc at *
    generalize min ln2 40=nc at *
    have hrap:=uQ (fun w' R' (hr:Ro w0 R' (rdsl 1 (.slice la2 nc lc2) (ints xc))) (hw:Sat w0 w' (DskRep d D::R'))=>rcrash_c xc hr HP.out.two.fit.ok (Nat.le_trans Hkb.out dQ) hw)
    have hap:=crash_c (w0:=w0) HP.out.two.ok (Nat.le_trans Hkb.out dQ) (hA.sb:Sat w0 _ (MedRep m M::DskRep d D::F)) xc (Ro.os Hrc.out) Hc2.out Hx2.out
    have hro:=uQ (fun w' R' (hw:Sat w0 w' (DskRep d (D.rcrash xc)::R'))=>ropen_c htwo.fit lim hoff Hlim.out.1 Hlim.out.2 hw)
    have hop:=uQ (fun w' R' (hw:Sat w0 w' (MedRep m (M.crash xc)::R'))=>open_c htwo.ok lim hw hal Hlim.out.1 Hlim.out.2)
    rw [hfr]at hro
    generalize M.crash xc=M2 at *
    generalize D.rcrash xc=D2 at *
    generalize Seg.fresh M2 lim=L2 at *
    have T2:=uQ hpy
    clear htwo hpy HP hfr hal hoff
    go_wp2_with fail
    refine hap.mono ?_
    rintro ee w21 ⟨v,rfl,hS21⟩
    clear hap e0 hA
    have hS22:Sat w0 _ (DskRep d D::MedRep m M2::F):=hS21.sb
    clear hS21
    go_wp2_with fail
    refine (hrap.out _ _ (Ro.os Hrc.out) hS22).mono ?_
    rintro ee w23 ⟨v,rfl,hS23⟩
    clear hrap hS22
    have hS24:Sat w0 _ (MedRep m M2::DskRep d D2::F):=hS23.sb
    clear hS23
    go_wp2_with fail
    refine (hop.out _ _ hS24).mono ?_
    rintro ee w25 ⟨v,rfl,p2,rfl,hS25⟩
    clear hop hS24
    have hS26:Sat w0 _ (DskRep d D2::LogRep p2 m L2::MedRep m M2::F):=hS25.sb
    clear hS25
    go_wp2_with fail
    refine (hro.out _ _ hS26).mono ?_
    rintro ee w27 ⟨v,rfl,q2,rfl,hS27⟩
    clear hro hS26
    have hT:Sat w0 _ (LogRep p2 m L2::MedRep m M2::RLogRep q2 d L2::DskRep d D2::F):=hS27.sb
    clear hS27
    have HL:=uQ T2.out.two.log;have HM:=uQ T2.out.two.ok;have HD:=uQ T2.out.two.fit
    have Hbt:=uQ (show ∀ s∈L2.segs,D2.all (Seg.name s)=lbt L2 M2 s from T2.out.told)
    have Hrows:=uQ (show (Rep.rowsOf (lbt L2 M2) L2.segs).length≤12000000 from T2.out.rows (Nat.succ_le_of_lt Hl2.out))
    have Hsz:=uQ (show ∀ r∈Rep.rowsOf (lbt L2 M2) L2.segs,(r.2.size:Int)≤4294967296 from T2.out.sizes (Nat.succ_le_of_lt Hl2.out))
    have Hrok:=uQ (fun n=>Seg.rows_ok HL.out M2 n)
    have Hnl:=uQ (show L2.segs.length≤1073741824 by unfold Seg.Log.segs;rw [List.length_map];have:=HL.out.len;omega)
    have hrn:=run_c HL.out HM.out (Ro.os HH.out) Hrows.out Hsz.out hT
    clear hT
    go_wp2_with fail
    refine hrn.mono ?_
    rintro ee w5 ⟨v,rfl,ho⟩
    clear hrn
    unfold RunOut at ho
    cases hrun:Rep.run (lbt L2 M2) L2.segs with
    |inl x=>
     obtain ⟨fl,e⟩:=x
     rw [hrun]at ho
     obtain ⟨rfl,h5⟩:=ho
     have h6:Sat w0 w5 (LogRep p2 m L2::MedRep m M2::RLogRep q2 d L2::DskRep d D2::F):=h5
     clear h5
     have Hrun:=uQ hrun
     go_wp2_with (with_reducible apply at_alloc)
     refine ⟨wl_alloc zFlt h6 rfl ?_⟩
     intro b10 w6 h7
     clear h6
     go_wp2_with ((with_reducible refine at_store ⟨?_⟩);refine wl_storeA (fltA fl) h7 rQ rQ rQ upd0 kQ rQ ?_;intro w7 h8)
     clear h7
     have hrr:=rrun_c HL.out HD.out Hbt.out Hrows.out Hsz.out (h8.sb:Sat w0 w7 (RLogRep q2 d L2::DskRep d D2::pt b10 (.cells (fltA fl) 75 (0,0))::LogRep p2 m L2::MedRep m M2::F))
     clear h8
     refine hrr.mono ?_
     rintro ee w9 ⟨v,rfl,ho⟩
     clear hrr
     unfold RRunOut at ho
     rw [hrun]at ho
     obtain ⟨rfl,h7⟩:=ho
     have h8:Sat w0 w9 (pt b10 (.cells (fltA fl) 75 (0,0))::LogRep p2 m L2::MedRep m M2::RLogRep q2 d L2::DskRep d D2::F):=h7.sb
     clear h7
     go_wp2_with (with_reducible apply at_alloc)
     refine ⟨wl_alloc zFlt h8 rfl ?_⟩
     intro b12 w10 h9
     clear h8
     go_wp2_with ((with_reducible refine at_store ⟨?_⟩);refine wl_storeA (fltA fl) h9 rQ rQ rQ upd0 kQ rQ ?_;intro w11 h10)
     clear h9
     have hsame:=same_nil_c (w:=w11)
     have hq:∀ w,(Op.equalIn 10000 75 (.agg (fltA fl)) (.agg (fltA fl))).run Tryz.prog w = .ok true w:=fun w=>eqIn_flt fl w
     clear hrun
     refine hsame.mono ?_
     rintro ee w15 ⟨v,rfl,rfl,rfl⟩
     clear hsame
     have h16:Sat w0 _ (pt b12 (.cells (fltA fl) 75 (0,0))::pt b10 (.cells (fltA fl) 75 (0,0))::LogRep p2 m L2::MedRep m M2::RLogRep q2 d L2::DskRep d D2::F):=h10.sb
     clear h10
     go_wp2_with (with_reducible apply at_loadG)
     refine ⟨wl_loadGV rQ h16 rQ pkD Tryz.underlying75 rfl kQ ?_⟩
     go_wp2_with (with_reducible apply at_loadG)
     refine ⟨wl_loadGV rQ h16 rQ pkD Tryz.underlying75 rfl kQ ?_⟩
     go_wp2_with fail
     have hT4:Sat w0 _ (LogRep p2 m L2::RLogRep q2 d L2::MedRep m M2::DskRep d D2::F):=h16.sb
     clear h16
     go_roundg (ds.length - (i+1))
     case measure=>have:=Hl1.out;omega
     case rel=>exact ⟨i+1,p2,q2,L2,M2,D2,rfl,Nat.succ_le_of_lt Hl1.out,Nat.succ_le_of_lt Hl2.out,by first|rfl|go_num,rfl,rfl,T2.out,hT4⟩
    |inr n=>
     rw [hrun]at ho
     obtain ⟨ps,pi,uv,tv,av,kv,rfl,⟨k1,k2,k3⟩,⟨_,htv⟩,h5⟩:=ho
     have h6:Sat w0 w5 (LogRep p2 m L2::MedRep m M2::RLogRep q2 d L2::DskRep d D2::stPt ps (Rep.lastOfL (L2.segs.take n)) pi uv tv::TabML pi (Tab.mapOf (Rep.puts kv)) kv.length::osl 115 3 uv (((Rep.usesOf (lbt L2 M2) (L2.segs.take n)).map (Rep.upd kv)).flatMap uenc)::osl 3 1 av (ints L2.segs)::F):=h5.sb
     have K:=uQ (And.intro k1 (And.intro k2 (And.intro k3 htv)))
     clear h5 k1 k2 k3 htv
     have Hrun:=uQ hrun
     clear hrun
     go_wp2_with (with_reducible apply at_alloc)
     refine ⟨wl_alloc zFlt h6 rfl ?_⟩
     intro b10 w6 h7
     clear h6
     go_wp2_with ((with_reducible refine at_store ⟨?_⟩);refine wl_storeA (fltA Rep.Flt.zero) h7 rQ rQ rQ upd0 kQ rQ ?_;intro w7 h8)
     clear h7
     have hrr:=rrun_c HL.out HD.out Hbt.out Hrows.out Hsz.out (h8.sb:Sat w0 w7 (RLogRep q2 d L2::DskRep d D2::pt b10 (.cells (fltA Rep.Flt.zero) 75 (0,0))::LogRep p2 m L2::MedRep m M2::stPt ps (Rep.lastOfL (L2.segs.take n)) pi uv tv::TabML pi (Tab.mapOf (Rep.puts kv)) kv.length::osl 115 3 uv (((Rep.usesOf (lbt L2 M2) (L2.segs.take n)).map (Rep.upd kv)).flatMap uenc)::osl 3 1 av (ints L2.segs)::F))
     clear h8
     refine hrr.mono ?_
     rintro ee w9 ⟨v,rfl,ho⟩
     clear hrr
     unfold RRunOut at ho
     rw [Hrun.out]at ho
     obtain ⟨pr,iv,uv2,tv2,rfl,h7⟩:=ho
     have h8:Sat w0 w9 (pt b10 (.cells (fltA Rep.Flt.zero) 75 (0,0))::LogRep p2 m L2::MedRep m M2::RLogRep q2 d L2::DskRep d D2::stPt ps (Rep.lastOfL (L2.segs.take n)) pi uv tv::TabML pi (Tab.mapOf (Rep.puts kv)) kv.length::osl 115 3 uv (((Rep.usesOf (lbt L2 M2) (L2.segs.take n)).map (Rep.upd kv)).flatMap uenc)::osl 3 1 av (ints L2.segs)::rstPt pr (Rep.lastOfL (L2.segs.take n)) iv uv2 tv2::osl 117 35 iv ((Rep.idx (Rep.rowsOf (lbt L2 M2) (L2.segs.take n)) (Rep.rowsOf (lbt L2 M2) (L2.segs.take n)).length).flatMap kvL)::osl 115 3 uv2 ((Rep.uAt (Rep.rowsOf (lbt L2 M2) (L2.segs.take n)) (Rep.usesOf (lbt L2 M2) (L2.segs.take n)) (Rep.rowsOf (lbt L2 M2) (L2.segs.take n)).length).flatMap uenc)::osl 3 1 tv2 (ints (L2.segs.drop n))::F):=h7.sb
     clear h7
     go_wp2_with (with_reducible apply at_alloc)
     refine ⟨wl_alloc zFlt h8 rfl ?_⟩
     intro b12 w10 h9
     clear h8
     go_wp2_with ((with_reducible refine at_store ⟨?_⟩);refine wl_storeA (fltA Rep.Flt.zero) h9 rQ rQ rQ upd0 kQ rQ ?_;intro w11 h10)
     clear h9
     have hkl:kv.length≤12000000:=Nat.le_trans K.out.2.2.1 (Nat.le_trans (Rep.rowsOf_le (lbt L2 M2) L2.segs n) Hrows.out)
     have hidx:=Rep.idx_eq (Hrok.out n) K.out.1
     have huse:=Rep.uAt_all (Hrok.out n) K.out.1 (Rep.usesOf_zero (lbt L2 M2) (L2.segs.take n))
     rw [hidx,huse]at h10
     have hsame:=same_st_c (w:=w11) (w0:=w0) ps pi pr kv.length (Rep.lastOfL (L2.segs.take n)) (uv:=uv) (tv:=tv) (iv:=iv) (uv2:=uv2) (tv2:=tv2) (Rep.puts kv) (Tab.mapOf_lists (Rep.puts_rise K.out.1.rise)) ((Rep.usesOf (lbt L2 M2) (L2.segs.take n)).map (Rep.upd kv)) (L2.segs.drop n) oQ
      (by rw [List.length_map];unfold Rep.usesOf;rw [List.length_map,List.length_take];have:=Hnl.out;omega) (by rw [List.length_drop];have:=Hnl.out;omega)
      (F:=osl 117 35 iv ((Rep.puts kv).flatMap kvL)::osl 115 3 uv2 (((Rep.usesOf (lbt L2 M2) (L2.segs.take n)).map (Rep.upd kv)).flatMap uenc)::osl 3 1 tv2 (ints (L2.segs.drop n))::osl 115 3 uv (((Rep.usesOf (lbt L2 M2) (L2.segs.take n)).map (Rep.upd kv)).flatMap uenc)::osl 3 1 av (ints L2.segs)::pt b12 (.cells (fltA Rep.Flt.zero) 75 (0,0))::pt b10 (.cells (fltA Rep.Flt.zero) 75 (0,0))::LogRep p2 m L2::MedRep m M2::RLogRep q2 d L2::DskRep d D2::F)
      (Ro.of_pick (fun w hw=>Sat.rd hw) pick0) (Ro.of_pick (fun w hw=>Sat.rd hw) (pick_there (pick_there (pick_there pick0)))) (Ro.of_pick (fun w hw=>Sat.rd hw) pick1) (Ro.of_pick (fun w hw=>K.out.2.2.2 w (Sat.rd hw)) (pick_there (pick_there (pick_there (pick_there pick0))))) (Ro.of_pick (fun w hw=>Sat.rd hw) (pick_there (pick_there pick0)))
      (h10.sb)
     have hq:∀ w,(Op.equalIn 10000 75 (.agg (fltA Rep.Flt.zero)) (.agg (fltA Rep.Flt.zero))).run Tryz.prog w = .ok true w:=fun w=>eqIn_flt Rep.Flt.zero w
     clear h10 hidx huse hkl
     refine hsame.mono ?_
     rintro ee w15 ⟨v,rfl,rfl,h15⟩
     clear hsame
     have h16:Sat w0 _ (pt b12 (.cells (fltA Rep.Flt.zero) 75 (0,0))::pt b10 (.cells (fltA Rep.Flt.zero) 75 (0,0))::LogRep p2 m L2::MedRep m M2::RLogRep q2 d L2::DskRep d D2::F):=h15.sb
     clear h15
     go_wp2_with (with_reducible apply at_loadG)
     refine ⟨wl_loadGV rQ h16 rQ pkD Tryz.underlying75 rfl kQ ?_⟩
     go_wp2_with (with_reducible apply at_loadG)
     refine ⟨wl_loadGV rQ h16 rQ pkD Tryz.underlying75 rfl kQ ?_⟩
     go_wp2_with fail
     have hT4:Sat w0 _ (LogRep p2 m L2::RLogRep q2 d L2::MedRep m M2::DskRep d D2::F):=h16.sb
     clear h16
     go_roundg (ds.length - (i+1))
     case measure=>have:=Hl1.out;omega
     case rel=>exact ⟨i+1,p2,q2,L2,M2,D2,rfl,Nat.succ_le_of_lt Hl1.out,Nat.succ_le_of_lt Hl2.out,by first|rfl|go_num,rfl,rfl,T2.out,hT4⟩
  ·as_aux_lemma=>
    have hst:=HP.out.two.append f Hk2.out
    have hpy:=HP.out.append f Hk2.out (Nat.le_trans Hd2.out dQ)
    have hrap:=uQ (fun w' R' (hr:Ro w0 R' (rdsl 1 (.slice da2 f.data.length dc2) (bys f.data))) (hw:Sat w0 w' (RLogRep q d L::DskRep d D::R'))=>rlappend_c f Hk2.out da2 dc2 hr HP.out.two.log HP.out.two.fit (Nat.le_trans Hkb.out dQ) hw)
    have hap:=lappend_c (w0:=w0) f Hk2.out da2 dc2 (Ro.op (Ro.bsl _ _)) (Ro.os HH.out) (Nat.le_trans Hd2.out dQ) HP.out.two.log HP.out.two.ok (Nat.le_trans (Nat.add_le_add_right Hkb.out 4) dQ) (hA.sb:Sat w0 _ (LogRep p m L::MedRep m M::RLogRep q d L::DskRep d D::pt bE (.cells (entA f (.slice da2 f.data.length dc2)) 44 (0,0))::bsl (.slice da2 f.data.length dc2) f.data::F))
    generalize L.append M f=r at *
    generalize L.rappend D f=r2 at *
    obtain ⟨⟨L2,M2⟩,pl2,e2⟩:=r
    obtain ⟨⟨L3,D2⟩,pl3,e3⟩:=r2
    obtain ⟨hl,hres,htwo⟩:=hst
    dsimp only at hl hres hpy hap
    obtain ⟨rfl,rfl⟩:=Prod.mk.inj hres
    subst hl
    have T2:=uQ hpy
    clear htwo hres hpy HP
    go_wp2_with (first|((with_reducible refine at_loadE ⟨?_⟩);refine wl_loadE aQ rQ pkD fQ ?_))
    refine hap.mono ?_
    rintro ee w21 ⟨v,rfl,rfl,hS21⟩
    clear hap e0 hA
    have hS22:Sat w0 _ (RLogRep q d L::DskRep d D::LogRep p m L3::MedRep m M2::pt bE (.cells (entA f (.slice da2 f.data.length dc2)) 44 (0,0))::bsl (.slice da2 f.data.length dc2) f.data::F):=hS21.sb
    clear hS21
    go_wp2_with (first|((with_reducible refine at_loadE ⟨?_⟩);refine wl_loadE aQ rQ pkD fQ ?_))
    refine (hrap.out _ _ (Ro.op (Ro.bsl _ _)) hS22).mono ?_
    rintro ee w23 ⟨v,rfl,rfl,hS23⟩
    clear hrap hS22
    obtain ⟨p2,rfl⟩:∃ x,x=p:=⟨p,rfl⟩
    obtain ⟨q2,rfl⟩:∃ x,x=q:=⟨q,rfl⟩
    obtain ⟨L2,rfl⟩:∃ x,x=L3:=⟨L3,rfl⟩
    have hT:Sat w0 _ (LogRep p2 m L2::MedRep m M2::RLogRep q2 d L2::DskRep d D2::F):=hS23.sb
    clear hS23
    have HL:=uQ T2.out.two.log;have HM:=uQ T2.out.two.ok;have HD:=uQ T2.out.two.fit
    have Hbt:=uQ (show ∀ s∈L2.segs,D2.all (Seg.name s)=lbt L2 M2 s from T2.out.told)
    have Hrows:=uQ (show (Rep.rowsOf (lbt L2 M2) L2.segs).length≤12000000 from T2.out.rows (Nat.succ_le_of_lt Hl2.out))
    have Hsz:=uQ (show ∀ r∈Rep.rowsOf (lbt L2 M2) L2.segs,(r.2.size:Int)≤4294967296 from T2.out.sizes (Nat.succ_le_of_lt Hl2.out))
    have Hrok:=uQ (fun n=>Seg.rows_ok HL.out M2 n)
    have Hnl:=uQ (show L2.segs.length≤1073741824 by unfold Seg.Log.segs;rw [List.length_map];have:=HL.out.len;omega)
    have hrn:=run_c HL.out HM.out (Ro.os HH.out) Hrows.out Hsz.out hT
    clear hT
    go_wp2_with fail
    refine hrn.mono ?_
    rintro ee w5 ⟨v,rfl,ho⟩
    clear hrn
    unfold RunOut at ho
    cases hrun:Rep.run (lbt L2 M2) L2.segs with
    |inl x=>
     obtain ⟨fl,e⟩:=x
     rw [hrun]at ho
     obtain ⟨rfl,h5⟩:=ho
     have h6:Sat w0 w5 (LogRep p2 m L2::MedRep m M2::RLogRep q2 d L2::DskRep d D2::F):=h5
     clear h5
     have Hrun:=uQ hrun
     go_wp2_with (with_reducible apply at_alloc)
     refine ⟨wl_alloc zFlt h6 rfl ?_⟩
     intro b10 w6 h7
     clear h6
     go_wp2_with ((with_reducible refine at_store ⟨?_⟩);refine wl_storeA (fltA fl) h7 rQ rQ rQ upd0 kQ rQ ?_;intro w7 h8)
     clear h7
     have hrr:=rrun_c HL.out HD.out Hbt.out Hrows.out Hsz.out (h8.sb:Sat w0 w7 (RLogRep q2 d L2::DskRep d D2::pt b10 (.cells (fltA fl) 75 (0,0))::LogRep p2 m L2::MedRep m M2::F))
     clear h8
     refine hrr.mono ?_
     rintro ee w9 ⟨v,rfl,ho⟩
     clear hrr
     unfold RRunOut at ho
     rw [hrun]at ho
     obtain ⟨rfl,h7⟩:=ho
     have h8:Sat w0 w9 (pt b10 (.cells (fltA fl) 75 (0,0))::LogRep p2 m L2::MedRep m M2::RLogRep q2 d L2::DskRep d D2::F):=h7.sb
     clear h7
     go_wp2_with (with_reducible apply at_alloc)
     refine ⟨wl_alloc zFlt h8 rfl ?_⟩
     intro b12 w10 h9
     clear h8
     go_wp2_with ((with_reducible refine at_store ⟨?_⟩);refine wl_storeA (fltA fl) h9 rQ rQ rQ upd0 kQ rQ ?_;intro w11 h10)
     clear h9
     have hsame:=same_nil_c (w:=w11)
     have hq:∀ w,(Op.equalIn 10000 75 (.agg (fltA fl)) (.agg (fltA fl))).run Tryz.prog w = .ok true w:=fun w=>eqIn_flt fl w
     clear hrun
     refine hsame.mono ?_
     rintro ee w15 ⟨v,rfl,rfl,rfl⟩
     clear hsame
     have h16:Sat w0 _ (pt b12 (.cells (fltA fl) 75 (0,0))::pt b10 (.cells (fltA fl) 75 (0,0))::LogRep p2 m L2::MedRep m M2::RLogRep q2 d L2::DskRep d D2::F):=h10.sb
     clear h10
     go_wp2_with (with_reducible apply at_loadG)
     refine ⟨wl_loadGV rQ h16 rQ pkD Tryz.underlying75 rfl kQ ?_⟩
     go_wp2_with (with_reducible apply at_loadG)
     refine ⟨wl_loadGV rQ h16 rQ pkD Tryz.underlying75 rfl kQ ?_⟩
     go_wp2_with fail
     have hT4:Sat w0 _ (LogRep p2 m L2::RLogRep q2 d L2::MedRep m M2::DskRep d D2::F):=h16.sb
     clear h16
     go_roundg (ds.length - (i+1))
     case measure=>have:=Hl1.out;omega
     case rel=>exact ⟨i+1,p2,q2,L2,M2,D2,rfl,Nat.succ_le_of_lt Hl1.out,Nat.succ_le_of_lt Hl2.out,by first|rfl|go_num,rfl,rfl,T2.out,hT4⟩
    |inr n=>
     rw [hrun]at ho
     obtain ⟨ps,pi,uv,tv,av,kv,rfl,⟨k1,k2,k3⟩,⟨_,htv⟩,h5⟩:=ho
     have h6:Sat w0 w5 (LogRep p2 m L2::MedRep m M2::RLogRep q2 d L2::DskRep d D2::stPt ps (Rep.lastOfL (L2.segs.take n)) pi uv tv::TabML pi (Tab.mapOf (Rep.puts kv)) kv.length::osl 115 3 uv (((Rep.usesOf (lbt L2 M2) (L2.segs.take n)).map (Rep.upd kv)).flatMap uenc)::osl 3 1 av (ints L2.segs)::F):=h5.sb
     have K:=uQ (And.intro k1 (And.intro k2 (And.intro k3 htv)))
     clear h5 k1 k2 k3 htv
     have Hrun:=uQ hrun
     clear hrun
     go_wp2_with (with_reducible apply at_alloc)
     refine ⟨wl_alloc zFlt h6 rfl ?_⟩
     intro b10 w6 h7
     clear h6
     go_wp2_with ((with_reducible refine at_store ⟨?_⟩);refine wl_storeA (fltA Rep.Flt.zero) h7 rQ rQ rQ upd0 kQ rQ ?_;intro w7 h8)
     clear h7
     have hrr:=rrun_c HL.out HD.out Hbt.out Hrows.out Hsz.out (h8.sb:Sat w0 w7 (RLogRep q2 d L2::DskRep d D2::pt b10 (.cells (fltA Rep.Flt.zero) 75 (0,0))::LogRep p2 m L2::MedRep m M2::stPt ps (Rep.lastOfL (L2.segs.take n)) pi uv tv::TabML pi (Tab.mapOf (Rep.puts kv)) kv.length::osl 115 3 uv (((Rep.usesOf (lbt L2 M2) (L2.segs.take n)).map (Rep.upd kv)).flatMap uenc)::osl 3 1 av (ints L2.segs)::F))
     clear h8
     refine hrr.mono ?_
     rintro ee w9 ⟨v,rfl,ho⟩
     clear hrr
     unfold RRunOut at ho
     rw [Hrun.out]at ho
     obtain ⟨pr,iv,uv2,tv2,rfl,h7⟩:=ho
     have h8:Sat w0 w9 (pt b10 (.cells (fltA Rep.Flt.zero) 75 (0,0))::LogRep p2 m L2::MedRep m M2::RLogRep q2 d L2::DskRep d D2::stPt ps (Rep.lastOfL (L2.segs.take n)) pi uv tv::TabML pi (Tab.mapOf (Rep.puts kv)) kv.length::osl 115 3 uv (((Rep.usesOf (lbt L2 M2) (L2.segs.take n)).map (Rep.upd kv)).flatMap uenc)::osl 3 1 av (ints L2.segs)::rstPt pr (Rep.lastOfL (L2.segs.take n)) iv uv2 tv2::osl 117 35 iv ((Rep.idx (Rep.rowsOf (lbt L2 M2) (L2.segs.take n)) (Rep.rowsOf (lbt L2 M2) (L2.segs.take n)).length).flatMap kvL)::osl 115 3 uv2 ((Rep.uAt (Rep.rowsOf (lbt L2 M2) (L2.segs.take n)) (Rep.usesOf (lbt L2 M2) (L2.segs.take n)) (Rep.rowsOf (lbt L2 M2) (L2.segs.take n)).length).flatMap uenc)::osl 3 1 tv2 (ints (L2.segs.drop n))::F):=h7.sb
     clear h7
     go_wp2_with (with_reducible apply at_alloc)
     refine ⟨wl_alloc zFlt h8 rfl ?_⟩
     intro b12 w10 h9
     clear h8
     go_wp2_with ((with_reducible refine at_store ⟨?_⟩);refine wl_storeA (fltA Rep.Flt.zero) h9 rQ rQ rQ upd0 kQ rQ ?_;intro w11 h10)
     clear h9
     have hkl:kv.length≤12000000:=Nat.le_trans K.out.2.2.1 (Nat.le_trans (Rep.rowsOf_le (lbt L2 M2) L2.segs n) Hrows.out)
     have hidx:=Rep.idx_eq (Hrok.out n) K.out.1
     have huse:=Rep.uAt_all (Hrok.out n) K.out.1 (Rep.usesOf_zero (lbt L2 M2) (L2.segs.take n))
     rw [hidx,huse]at h10
     have hsame:=same_st_c (w:=w11) (w0:=w0) ps pi pr kv.length (Rep.lastOfL (L2.segs.take n)) (uv:=uv) (tv:=tv) (iv:=iv) (uv2:=uv2) (tv2:=tv2) (Rep.puts kv) (Tab.mapOf_lists (Rep.puts_rise K.out.1.rise)) ((Rep.usesOf (lbt L2 M2) (L2.segs.take n)).map (Rep.upd kv)) (L2.segs.drop n) oQ
      (by rw [List.length_map];unfold Rep.usesOf;rw [List.length_map,List.length_take];have:=Hnl.out;omega) (by rw [List.length_drop];have:=Hnl.out;omega)
      (F:=osl 117 35 iv ((Rep.puts kv).flatMap kvL)::osl 115 3 uv2 (((Rep.usesOf (lbt L2 M2) (L2.segs.take n)).map (Rep.upd kv)).flatMap uenc)::osl 3 1 tv2 (ints (L2.segs.drop n))::osl 115 3 uv (((Rep.usesOf (lbt L2 M2) (L2.segs.take n)).map (Rep.upd kv)).flatMap uenc)::osl 3 1 av (ints L2.segs)::pt b12 (.cells (fltA Rep.Flt.zero) 75 (0,0))::pt b10 (.cells (fltA Rep.Flt.zero) 75 (0,0))::LogRep p2 m L2::MedRep m M2::RLogRep q2 d L2::DskRep d D2::F)
      (Ro.of_pick (fun w hw=>Sat.rd hw) pick0) (Ro.of_pick (fun w hw=>Sat.rd hw) (pick_there (pick_there (pick_there pick0)))) (Ro.of_pick (fun w hw=>Sat.rd hw) pick1) (Ro.of_pick (fun w hw=>K.out.2.2.2 w (Sat.rd hw)) (pick_there (pick_there (pick_there (pick_there pick0))))) (Ro.of_pick (fun w hw=>Sat.rd hw) (pick_there (pick_there pick0)))
      (h10.sb)
     have hq:∀ w,(Op.equalIn 10000 75 (.agg (fltA Rep.Flt.zero)) (.agg (fltA Rep.Flt.zero))).run Tryz.prog w = .ok true w:=fun w=>eqIn_flt Rep.Flt.zero w
     clear h10 hidx huse hkl
     refine hsame.mono ?_
     rintro ee w15 ⟨v,rfl,rfl,h15⟩
     clear hsame
     have h16:Sat w0 _ (pt b12 (.cells (fltA Rep.Flt.zero) 75 (0,0))::pt b10 (.cells (fltA Rep.Flt.zero) 75 (0,0))::LogRep p2 m L2::MedRep m M2::RLogRep q2 d L2::DskRep d D2::F):=h15.sb
     clear h15
     go_wp2_with (with_reducible apply at_loadG)
     refine ⟨wl_loadGV rQ h16 rQ pkD Tryz.underlying75 rfl kQ ?_⟩
     go_wp2_with (with_reducible apply at_loadG)
     refine ⟨wl_loadGV rQ h16 rQ pkD Tryz.underlying75 rfl kQ ?_⟩
     go_wp2_with fail
     have hT4:Sat w0 _ (LogRep p2 m L2::RLogRep q2 d L2::MedRep m M2::DskRep d D2::F):=h16.sb
     clear h16
     go_roundg (ds.length - (i+1))
     case measure=>have:=Hl1.out;omega
     case rel=>exact ⟨i+1,p2,q2,L2,M2,D2,rfl,Nat.succ_le_of_lt Hl1.out,Nat.succ_le_of_lt Hl2.out,by first|rfl|go_num,rfl,rfl,T2.out,hT4⟩
end
end Go.Proofs.YtmjldaedhmipkaaGreatDoor
namespace Go.Proofs.YtmjldaedhmipkaaGreatDoor
open Go Go.Sl Go.Med Go.ChangeShapes Go.WideShapes Go.RowKit
structure SD.At (W:World) (d:SD):Prop where
 kind:inI d.c.kind
 e:EntAt W (d.c.e,d.dv)
 n:inI d.c.n
 p1:inI d.c.p.seg
 p2:inI d.c.p.at_
 p3:inI d.c.p.size
 rd:rdsl 1 d.lv (ints d.c.l) W
 cap:capOk d.lv
 ins:∀ i∈d.c.l,inI i
section
variable {H:Type}{enc:TypeId×Value→H}{W:World}{base:Nat}{spare:Nat→Bool}{held:Bool}
set_option maxRecDepth 100000 in
theorem open_sd {fuel:Nat}{cs:List Value}{x:DataW H×List MemPlace} (h:DataW.trod enc Tryz.prog W base spare held fuel 47 cs=some x):∃ d:SD,sdL d=cs∧d.At W:=by
 obtain ⟨hl,hf⟩:=open_fields Tryz.underlying47 h
 have e40:Tryz.prog.cellsOf 47=40:=by kernel_rfl
 have e1:Tryz.prog.cellsOf 3=1:=by kernel_rfl
 have e34:Tryz.prog.cellsOf 44=34:=by kernel_rfl
 have e3:Tryz.prog.cellsOf 39=3:=by kernel_rfl
 have e4:Tryz.prog.cellsOf 45=1:=by kernel_rfl
 rw [e40]at hl
 obtain ⟨n0,y0,h0⟩:=hf 0 _ rfl
 obtain ⟨n1,y1,h1⟩:=hf 1 _ rfl
 obtain ⟨n2,y2,h2⟩:=hf 2 _ rfl
 obtain ⟨n3,y3,h3⟩:=hf 3 _ rfl
 obtain ⟨n4,y4,h4⟩:=hf 4 _ rfl
 simp only [List.getElem_toArray,List.getElem_cons_zero,List.getElem_cons_succ,e1,e34,e3,e4,List.drop_zero]at h0 h1 h2 h3 h4
 obtain ⟨z0,q0,_,w0⟩:=DataW.trod_int Tryz.underlying3 h0
 obtain ⟨⟨ex,dv⟩,k1,k2⟩:=open_ent h1
 obtain ⟨z2,q2,_,w2⟩:=DataW.trod_int Tryz.underlying3 h2
 obtain ⟨a,b,c,q3,wa,wb,wc⟩:=open_plc h3
 have hd:∃ v,(cs.drop 39).take 1=[v]:=by
  have:((cs.drop 39).take 1).length=1:=by rw [List.length_take,List.length_drop];omega
  exact List.length_eq_one_iff.1 this
 obtain ⟨lv,hlv⟩:=hd
 rw [hlv]at h4
 obtain ⟨l6,r6,c6,i6⟩:=in_nums Tryz.underlying45 Tryz.underlying3 e1 h4
 refine ⟨⟨⟨z0,ex,z2,⟨a,b,c⟩,l6⟩,dv,lv⟩,?_,bounds_i64 w0,k2,bounds_i64 w2,wa,wb,wc,r6,c6,i6⟩
 show Value.int .i64 z0::(entL ex dv++[.int .i64 z2,.int .i64 a,.int .i64 b,.int .i64 c,lv])=cs
 have s1:cs=cs.take 1++((cs.drop 1).take 34++((cs.drop 35).take 1++((cs.drop 36).take 3++(cs.drop 39).take 1))):=by
  have a4:(cs.drop 39).take 1=cs.drop 39:=List.take_of_length_le (by rw [List.length_drop];omega)
  have a3:(cs.drop 36).take 3++cs.drop 39=cs.drop 36:=by
   rw [show cs.drop 39=(cs.drop 36).drop 3 by rw [List.drop_drop]];exact List.take_append_drop 3 _
  have a2:(cs.drop 35).take 1++cs.drop 36=cs.drop 35:=by
   rw [show cs.drop 36=(cs.drop 35).drop 1 by rw [List.drop_drop]];exact List.take_append_drop 1 _
  have a1:(cs.drop 1).take 34++cs.drop 35=cs.drop 1:=by
   rw [show cs.drop 35=(cs.drop 1).drop 34 by rw [List.drop_drop]];exact List.take_append_drop 34 _
  rw [a4,a3,a2,a1]
  exact (List.take_append_drop 1 cs).symm
 rw [s1,q0,← k1,q2,q3,hlv];rfl
theorem in_sds {fuel:Nat}{v:Value}{x:DataW H×List MemPlace} (h:DataW.trod enc Tryz.prog W base spare held fuel 22 [v]=some x) :
  ∃ ds:List SD,rdsl 40 v (sdsL ds) W∧capOk v∧∀ d∈ds,d.At W:=by
 obtain ⟨elems,h1,h2,h3⟩:=open_sl Tryz.underlying22 (k:=40) kQ oQ h
 obtain ⟨ds,h4,h5⟩:=map_of (f:=sdL) (p:=fun d=>d.At W) elems fun cs hcs=>by
  obtain ⟨_,n,y,h6⟩:=h3 cs hcs
  exact open_sd h6
 refine ⟨ds,?_,h2,h5⟩
 unfold sdsL
 rw [List.flatMap_def,h4]
 exact h1
theorem SD.At.ro {d:SD} (h:d.At W):SDRo W [Sl.old W] d:=⟨h.e.key,rd_old h.e.rd,h.e.cap,rd_old h.rd,h.cap⟩
end
end Go.Proofs.YtmjldaedhmipkaaGreatDoor
namespace Go.Proofs.YtmjldaedhmipkaaGreatDoor.card
open Go.ChangeShapes Go.WideShapes Go.ChangeAt Go.RowKit
open Go Go.Sl Go.Med
theorem gHalf:Tryz.prog.globalNamed "hoard/crc.half" = some 0:=by kernel_rfl
theorem tHalf:((Tryz.prog.globals[0]?).map (·.type))=some 284:=by kernel_rfl
theorem door_met (os:Os) (args:Array Value):laidMetH Tryz.prog [("hoard/crc.half",Rows.laid_hoard_crc_half)] ((World.doorLaid Tryz.prog 400 os).forCall (fun _ _=>0) ⟨#[],args,[]⟩).memory:=
 laidMetH_of_parts3 (fuel:=8) (laidMet_of_run' 8 kQ kQ) kQ kQ
theorem of_laid {W:World} (h:laidMetH Tryz.prog [("hoard/crc.half",Rows.laid_hoard_crc_half)] W):0<W.heap.size∧Half W:=by
 rw [MakeChecks.laidMetH_plain _ _ _ kQ]at h
 obtain ⟨ps,⟨g0,t0,cs0,f0,p0,q0,hg0,ht0,hv0,hd0,hrest⟩,hrest2⟩:=h
 obtain rfl:=Option.some.inj (gHalf.symm.trans hg0)
 obtain rfl:=Option.some.inj (tHalf.symm.trans ht0)
 obtain ⟨xs,m1,rfl,hx1,hlen,hn3,hel⟩:=DataW.trod_array Tryz.underlying284 hd0
 have c3:Tryz.prog.cellsOf 233=1:=by kernel_rfl
 simp only [Prod.mk.injEq,Rows.laid_hoard_crc_half,DataW.agg.injEq]at hx1
 have hH:Half W:=by
  intro i hi
  have h0:=hel i hi
  have hxi:xs[i]?=some (xs[i]'oQ):=List.getElem?_eq_getElem oQ
  rw [hxi]at h0
  obtain ⟨k,e1,e2,_⟩:=DataW.trod_int Tryz.underlying233 h0
  rw [c3,Nat.mul_one]at e1
  have hc:cs0.toList[i]?=some (.int .u32 k):=by
   have:((cs0.toList.drop i).take 1)[0]?=some (.int .u32 k):=by rw [e1];rfl
   rw [List.getElem?_take,if_pos dQ,List.getElem?_drop]at this
   exact this
  have hL:=congrArg (fun l=>l[i]?) hx1.1
  rw [List.getElem?_map,hxi]at hL
  have hk:k=((Frm.half.getD i 0:Nat):Int):=by
   rw [e2]at hL
   rcases i with _|_|_|_|_|_|_|_|_|_|_|_|_|_|_|_|i
   all_goals first|omega|(simp at hL;rw [← hL];rfl)
  subst hk
  have:=World.var?_cell hg0 hv0 i
  rw [this,← Array.getElem?_toList]
  exact hc
 refine ⟨?_,hH⟩
 by_cases hz:0<W.heap.size
 ·exact hz
 ·have h0:=hH 0 dQ
  have e:W.heap[0]?=none:=Array.getElem?_eq_none oQ
  simp [World.cell?,e]at h0
end Go.Proofs.YtmjldaedhmipkaaGreatDoor.card
