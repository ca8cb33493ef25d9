import Derived.Test.YtjbhhbnopnmcnaaGreatDoorJ12
set_option linter.unusedVariables false
set_option maxHeartbeats 128000000
namespace Go.Med
theorem Fil.at_zero (f:Fil):f.at 0=f.fast:=rfl
end Go.Med
namespace Go.Proofs.YtjbhhbnopnmcnaaGreatDoor
open Go Go.Sl Go.Med Go.MapKept Go.RowKit
section
variable {w0 w:World}{F:List HProp}{m fb nb b r:Nat}{M:Med}{bs:List Nat}{wv v bv:Value}{s:ByteArray}{l:Names}{fs:List Fil}{K:Nat}{f:Fil}
theorem chgs_take:∀ (ws:List (Chg×Value)) (i:Nat) (p:Chg×Value),ws[i]?=some p→∃ G:HProp,chgs ws=star (bsl p.2 p.1.b) G
 |[],_,_,h=>by cases h
 |q::ws,0,p,h=>by
  simp at h;subst h
  exact ⟨chgs ws,rfl⟩
 |q::ws,i+1,p,h=>by
  obtain ⟨G,hG⟩:=chgs_take ws i p (by simpa using h)
  refine ⟨star (bsl q.2 q.1.b) G,?_⟩
  show star (bsl q.2 q.1.b) (chgs ws)=_
  rw [hG,star_left_comm]
theorem chg_cells (ws:List (Chg×Value)) (i:Nat) (p:Chg×Value) (h:ws[i]?=some p) :
  (ws.flatMap chgCells)[i * 3]?=some (.bool p.1.cut)∧(ws.flatMap chgCells)[i * 3+1]?=some (.int .i64 p.1.n)∧(ws.flatMap chgCells)[i * 3+2]?=some p.2:=by
 induction ws generalizing i with
 |nil=>cases h
 |cons q ws ih=>
  cases i with
  |zero=>simp at h;subst h;exact ⟨rfl,rfl,rfl⟩
  |succ i=>
   obtain ⟨h1,h2,h3⟩:=ih i (by simpa using h)
   have e:∀ j,(List.flatMap chgCells (q::ws))[(i+1) * 3+j]?=(List.flatMap chgCells ws)[i * 3+j]?:=by
    intro j
    rw [List.flatMap_cons,List.getElem?_append_right (by simp [chgCells];omega)]
    congr 1
    simp [chgCells];omega
   exact ⟨(e 0).trans h1,(e 1).trans h2,(e 2).trans h3⟩
theorem waits_cells {ws:List (Chg×Value)}{g n cap:Nat} (h:Sat w0 w (osl 149 3 (.slice (some ⟨g,0,none⟩) n cap) (ws.flatMap chgCells)::F)){i:Nat}{p:Chg×Value} (hi:ws[i]?=some p) :
  w.cell? ⟨g,i * 3,none⟩=some (.bool p.1.cut)∧w.cell? ⟨g,i * 3+1,none⟩=some (.int .i64 p.1.n)∧w.cell? ⟨g,i * 3+2,none⟩=some p.2:=by
 obtain ⟨h1,h2,h3⟩:=chg_cells ws i p hi
 rcases h.osl_cases with ⟨he,_⟩|⟨b,n',cap',cs,he,hl,hn,hc,hcm,htk,hp⟩
 ·cases he
 ·cases he
  exact ⟨hp.cellAt _ _ (take_get htk h1),hp.cellAt _ _ (take_get htk h2),hp.cellAt _ _ (take_get htk h3)⟩
end
section
variable {w0 w W:World}{F:List HProp}{m fb nb b r:Nat}{M P:Med}{bs:List Nat}{wv v bv dv av cv nv ov lv:Value}{s:ByteArray}{fs:List Fil}{K:Nat}{f:Fil}
def shortS (s:ByteArray) (n:Nat):ByteArray:=if n<s.size then s.extract 0 n else s
theorem xor_u8 (x y:UInt8):bits .xor .u8 (x.toNat:Int) (y.toNat:Int)=((x ^^^ y).toNat:Int):=by
 rw [u8_xor_nat _ _ x.toNat_lt y.toNat_lt,UInt8.toNat_xor]
theorem osl_set {T sz:Nat}{g n c:Nat}{xs:List Value} (h:Sat w0 w (osl T sz (.slice (some ⟨g,0,none⟩) n c) xs::F)) (i:Nat) (x:Value) :
  w.frozen? ⟨g,i,none⟩=false∧(∀ y,xs[i]?=some y→w.cell? ⟨g,i,none⟩=some y)∧Sat w0 (w.setCell ⟨g,i,none⟩ x) (osl T sz (.slice (some ⟨g,0,none⟩) n c) (xs.set i x)::F):=by
 rcases Sat.osl_cases h with ⟨he,_⟩|⟨g',n',cap',cs,he,h1,h2,h3,h4,h5,h6⟩
 ·cases he
 ·cases he
  refine ⟨h6.freeAt i,fun y hy=>h6.cellAt i _ (take_get h5 hy),?_⟩
  refine Sat.osl_of_pt (h6.set i x) (by rw [List.length_set];exact h1) h2 (by simpa using h3) h4 ?_
  rw [Array.toList_setIfInBounds,List.take_set,h5]
theorem infoInt:(Tryz.prog.info? 3).map (fun i=>(i.zero,i.size,i.bytes))=some (some (.int .i64 0),1,8):=by kernel_rfl
end
section
variable {w0 w:World}{F:List HProp}{v bv dv x:Value}{q:Nat}
theorem dig_ext:∀ d:Nat,d<10→(ByteArray.mk #[48,49,50,51,52,53,54,55,56,57]).extract d (d+1)=⟨#[UInt8.ofNat (48+d)]⟩:=by
 intro d hd
 rcases d with _|_|_|_|_|_|_|_|_|_|d
 all_goals first|rfl|omega
theorem ba_cons (c:UInt8) (l:Seg.Bs):(ByteArray.mk #[c])++⟨l.toArray⟩=⟨(c::l).toArray⟩:=by
 apply ByteArray.ext
 simp
theorem ba_lead (l:Seg.Bs):(ByteArray.mk #[115,101,103,46])++⟨l.toArray⟩=⟨(Seg.lead++l).toArray⟩:=by
 apply ByteArray.ext
 simp [Seg.lead]
set_option maxRecDepth 20000 in
theorem rname_c (n:Int) (w:World) :
  Calls Tryz.prog 27 #[.int .i64 n] w (Rtn fun v w'=>v = .string (Seg.name n)∧w=w'):=by
 by_cases h1:n<0
 ·have Hf:=uQ (show Seg.name n=ByteArray.empty by unfold Seg.name;rw [if_pos (.inl h1)])
  go_enter Tryz.func27,Tryz.ntmps27
  go_wp2
  go_ret
  exact ⟨_,rfl,by rw [Hf.out];rfl,rfl⟩
 have h1d:decide (n<0)=false:=decide_eq_false h1
 by_cases h2:1048576≤n
 ·have Hf:=uQ (show Seg.name n=ByteArray.empty by unfold Seg.name;rw [if_pos (.inr h2)])
  go_enter Tryz.func27,Tryz.ntmps27
  go_wp2
  go_ret
  exact ⟨_,rfl,by rw [Hf.out];rfl,rfl⟩
 have h2d:decide (1048576≤n)=false:=decide_eq_false h2
 obtain ⟨m0,rfl⟩:=Int.eq_ofNat_of_zero_le (show 0≤n by omega)
 have Hf:=uQ (show Seg.name (m0:Int)=⟨(Seg.lead++Seg.digs m0 8).toArray⟩ by unfold Seg.name;rw [if_neg oQ];rfl)
 have hm0:m0<1048576:=oQ
 have Hm:=uQ hm0
 clear hm0
 go_enter Tryz.func27,Tryz.ntmps27
 go_wp2_with fail
 clear h1 h2 h1d h2d
 go_loopg [0,3,4] 8 (fun g nv sv iv wr=>∃ (i m:Nat) (tail:Bs),g=8 - i∧i≤8∧nv = .int .i64 m∧sv = .string ⟨tail.toArray⟩∧iv = .int .i64 i∧m<1048576∧Seg.digs m0 8=Seg.digs m (8 - i)++tail∧wr=w)
 case atStart=>exact ⟨0,m0,[],rfl,by omega,rfl,rfl,rfl,Hm.out,by simp,rfl⟩
 case round=>
  obtain ⟨i,m,tail,rfl,hi,rfl,rfl,rfl,hm,hfin,rfl⟩:=hrel
  have Hfin:=uQ hfin;have Hm1:=uQ hm
  clear hfin hm
  by_cases hi':i<8
  ·have hii:(i:Int)<8:=by omega
   have hx:=dig_ext (m%10) (Nat.mod_lt _ oQ)
   have hcc:=ba_cons (UInt8.ofNat (48+m%10)) tail
   have hnx:Seg.digs m (8 - i)=Seg.digs (m / 10) (8 - (i+1))++[UInt8.ofNat (48+m%10)]:=by
    rw [show 8 - i=(8 - (i+1))+1 by omega];rfl
   have Hnx:=uQ hnx
   have htl:tail.length=i:=by
    have:=congrArg List.length Hfin.out
    rw [List.length_append,Seg.digs_len,Seg.digs_len]at this
    omega
   have hsz:¬ 9223372036854775807<1+tail.length:=oQ
   have hq:IntKind.i64.wrap ((m:Int) / 10)=(m:Int) / 10:=by rw [IntKind.wrap_i64];have:=Hm1.out;omega
   clear htl hnx
   have Hx:=uQ hx;have Hcc:=uQ hcc
   clear hx hcc
   go_wp2_with fail
   go_roundg (8 - (i+1))
   case measure=>omega
   case rel=>
    refine ⟨i+1,m / 10,UInt8.ofNat (48+m%10)::tail,rfl,by omega,rfl,by rw [Hx.out,Hcc.out],rfl,by have:=Hm1.out;omega,?_,rfl⟩
    rw [Hfin.out,Hnx.out];simp
  ·obtain rfl:i=8:=by omega
   have hc8:((8:Nat):Int)=8:=rfl
   rw [hc8]
   clear hc8 hi' hi
   have hcc:=ba_lead tail
   have htl:tail.length=8:=by
    have:=congrArg List.length Hfin.out
    rw [List.length_append,Seg.digs_len,Seg.digs_len]at this
    omega
   go_wp2
   go_ret
   refine ⟨_,rfl,?_,rfl⟩
   rw [Hf.out,Hfin.out];rfl
end
end Go.Proofs.YtjbhhbnopnmcnaaGreatDoor
namespace Go.Med
theorem Med.Ok.rot {M:Med}{K:Nat} (h:M.Ok K) (s:ByteArray) (i:Int) (y:UInt8):(M.rot s i y).1.Ok (K+1):=by
 unfold Med.rot
 split
 ·exact h.mono (Nat.le_succ _)
 ·split
  ·exact h.mono (Nat.le_succ _)
  ·exact h.setFile _ _ (((h.file _).rot _ _).1.mono (Nat.le_succ _))
theorem Quiet.rot {M:Med} (h:Quiet M) (s:ByteArray) (i:Int) (y:UInt8):Quiet (M.rot s i y).1:=by
 unfold Med.rot
 split;· exact h
 split;· exact h
 exact h.setFile _ _
end Go.Med
namespace Go.Proofs.YtjbhhbnopnmcnaaGreatDoor
open Go Go.Sl Go.Med Go.MapKept Go.RowKit
section
variable {w0 w:World}{F:List HProp}{p m K r ps pn B:Nat}{L:Seg.Log}{M:Med}{seg:Int}{d:Bool}{k:Frm.Bs}{mp:Frm.Bs→Option Seg.Plc}
theorem _root_.Go.Seg.lread_key3 (L:Seg.Log) (M:Med) (q:Seg.Plc):(L.read M q).1.key.length=32:=by
 unfold Seg.Log.read
 split
 ·rfl
 split
 ·rfl
 split
 ·rfl
 split
 ·rfl
 ·exact Seg.read_key _
set_option maxRecDepth 20000 in
theorem rpgetE_c (hB:B≤268435000) (hk:k.length=32) (pl:Seg.Plc) (hm:mp k=some pl) (hH:Ro w0 F Half) (hL:L.Ok) (hM:M.Ok K) (h1 : -9223372036854775808≤pl.at_∧pl.at_≤9223372036854775807) (h2 : -9223372036854775808≤pl.size∧pl.size≤9223372036854775807) (e:Int) (he:e≠0) (hr:(L.read M pl).2=e) (h:Sat w0 w (rpPt r m seg p ps pn d::TabML pn mp B::LogRep p m L::MedRep m M::F)) :
  Calls Tryz.prog 28 #[ptr r,.agg (bys k).toArray] w (Rtn fun v w'=>v = .tuple #[.slice none 0 0,errno e]∧Sat w0 w' (rpPt r m seg p ps pn d::TabML pn mp B::LogRep p m L::MedRep m M::F)):=by
 have Hk:=uQ hk;have Hks:=uQ (show (bys k).length=32 by rw [bys_len,hk])
 have HT:=uQ (fun (w':World) (R:List HProp) (hw:Sat w0 w' (TabML pn mp B::R))=>getL_c hB hk hw)
 rw [hm,Option.getD_some,Option.isSome_some]at HT
 have HH:=uQ hH
 have HR:=uQ (fun (w':World) (R:List HProp) (hh:Ro w0 R Half) (hw:Sat w0 w' (LogRep p m L::MedRep m M::R))=>lread_c hh hL hM pl h1 h2 hw)
 have hx:(L.read M pl).1.key.length=32:=Seg.lread_key3 L M pl
 have he1:(e != 0)=true:=bne_iff_ne.2 he
 generalize L.read M pl=q at *
 obtain ⟨x,e2⟩:=q
 dsimp only at hr HR hx
 subst hr
 have Hx:=uQ hx
 clear hk hB hm hH hL hM h1 h2 he hx
 go_enter Tryz.func28,Tryz.ntmps28
 go_wp2_with (with_reducible apply at_box)
 refine ⟨wl_box h evD evD ?_⟩
 intro b3 w3 h3
 have h4:Sat w0 w3 (rpPt r m seg p ps pn d::pt b3 (.cells (bys k).toArray 31 (0,0))::TabML pn mp B::LogRep p m L::MedRep m M::F):=h3.sb
 clear h h3
 go_wp2_with fail
 refine (rokY_c h4).mono ?_
 rintro ee w5 ⟨v,rfl,rfl,rfl⟩
 go_wp2_with fail
 have h5:=h4.drew
 clear h4
 refine wpL_begin [5,6,7,8,10,11] (fun w'=>w'.cell? ⟨r,4,none⟩=some (.pointer (some ⟨pn,0,none⟩))∧w'.rangeAt b3 0 (bys k)) kRz ?_
 have hGf:∀ (w':World) (R:List HProp),Sat w0 w' (rpPt r m seg p ps pn d::pt b3 (.cells (bys k).toArray 31 (0,0))::R)→w'.cell? ⟨r,4,none⟩=some (.pointer (some ⟨pn,0,none⟩))∧w'.rangeAt b3 0 (bys k):=fun w' R hw=>⟨hw.cellP pick0 4 rfl,fun j z hj=>by rw [Nat.zero_add];exact hw.cellP pick1 j (by rw [List.getElem?_toArray];exact hj)⟩
 have HGf:=uQ hGf
 have hG:=hGf _ _ h5
 clear hGf
 refine rP 0 ?_ (y:=mvQ)
 refine rP 1 ?_ (y:=nlQ)
 refine rP 2 ?_ (y:=flQ)
 refine rt 3 (h:=?_)
 refine rg_take 4 evD kRz i3z (tk_loadN (b:=b3) (o:=0) (bys k) rFz Tryz.underlying31 rfl (by rw [Hks.out];kernel_rfl) (fun w hw=>hw.2)) aQ gQ ?_
 clear hG
 refine rg_eff2 5 9 evD evD kRz (fun K hK=>?_) (fun K hK=>?_)
 ·(refine eff_call2 kRz evD evD ?_)
  refine (HT.out _ _ (h5.sb:Sat w0 _ (TabML pn mp B::rpPt r m seg p ps pn d::pt b3 (.cells (bys k).toArray 31 (0,0))::LogRep p m L::MedRep m M::F))).mono ?_
  rintro ee w6 ⟨v,rfl,rfl,h6⟩
  refine hK _ _ (.inl rfl) ?_
  clear hK h5
  refine rP 6 ?_ (y:=mvQ)
  refine rP 7 ?_ (y:=(yl_extract evD rnD))
  refine rP 8 ?_ (y:=(yl_extract evD rnD))
  refine rg_eff 9 evD kRz (fun K hK=>?_)
  refine eff_alloc (zValL) h6 rfl ?_
  intro b6 w7 h7
  refine hK _ _ (.inr (.inl (HGf.out _ _ (h7.sb:Sat w0 w7 (rpPt r m seg p ps pn d::pt b3 (.cells (bys k).toArray 31 (0,0))::pt b6 (.cells (penc Seg.Plc.zero).toArray 87 (0,0))::TabML pn mp B::LogRep p m L::MedRep m M::F))))) ?_
  clear hK h6
  have h8:Sat w0 w7 (pt b6 (.cells (penc Seg.Plc.zero).toArray 87 (0,0))::rpPt r m seg p ps pn d::pt b3 (.cells (bys k).toArray 31 (0,0))::TabML pn mp B::LogRep p m L::MedRep m M::F):=h7.sb
  clear h7
  refine rg_eff 10 evD kRz (fun K hK=>?_)
  refine eff_store (cs':=(penc pl).toArray) h8 evD evD rFz upd0 nLz kRz rFz ?_
  intro w9 h9
  refine hK _ _ (.inl rfl) ?_
  clear hK h8
  refine rP 11 ?_ (y:=asQ)
  refine wpL_done kRz ?_
  go_wp2_with fail
  have h10:=h9.drew
  clear h9 HGf
  refine wpL_begin [5,6,7,8,10,11] (fun w'=>w'.cell? ⟨r,2,none⟩=some (.pointer (some ⟨p,0,none⟩))∧w'.rangeAt b6 0 (penc pl)) kRz ?_
  have hGf:∀ (w':World) (R:List HProp),Sat w0 w' (pt b6 (.cells (penc pl).toArray 87 (0,0))::rpPt r m seg p ps pn d::R)→w'.cell? ⟨r,2,none⟩=some (.pointer (some ⟨p,0,none⟩))∧w'.rangeAt b6 0 (penc pl):=fun w' R hw=>⟨hw.cellP pick1 2 rfl,fun j z hj=>by rw [Nat.zero_add];exact hw.cellP pick0 j (by rw [List.getElem?_toArray];exact hj)⟩
  have HGf:=uQ hGf
  have hG:=hGf _ _ h10
  clear hGf
  refine rP 0 ?_ (y:=mvQ)
  refine rP 1 ?_ (y:=nlQ)
  refine rP 2 ?_ (y:=flQ)
  refine rt 3 (h:=?_)
  refine rg_take 4 evD kRz i3z (tk_loadN (b:=b6) (o:=0) (penc pl) rFz Tryz.underlying87 rfl kRz (fun w hw=>hw.2)) aQ gQ ?_
  clear hG
  refine rg_eff2 5 9 evD evD kRz (fun K hK=>?_) (fun K hK=>?_)
  ·(refine eff_call2 kRz evD evD ?_)
   refine (HR.out _ _ (Ro.os HH.out) (h10.sb:Sat w0 _ (LogRep p m L::MedRep m M::pt b6 (.cells (penc pl).toArray 87 (0,0))::rpPt r m seg p ps pn d::pt b3 (.cells (bys k).toArray 31 (0,0))::TabML pn mp B::F))).mono ?_
   rintro ee w11 ⟨v,rfl,da,dc,rfl,h11⟩
   refine hK _ _ (.inl rfl) ?_
   clear hK h10
   refine rP 6 ?_ (y:=mvQ)
   refine rP 7 ?_ (y:=(yl_extract evD rnD))
   refine rP 8 ?_ (y:=(yl_extract evD rnD))
   refine rg_eff 9 evD kRz (fun K hK=>?_)
   refine eff_alloc (zEnt) h11 rfl ?_
   intro b8 w12 h12
   refine hK _ _ (.inr (.inl (HGf.out _ _ (h12.sb:Sat w0 w12 (pt b6 (.cells (penc pl).toArray 87 (0,0))::rpPt r m seg p ps pn d::pt b8 (.cells zeroEntV.cells 101 (0,0))::bsl (.slice da x.data.length dc) x.data::LogRep p m L::MedRep m M::pt b3 (.cells (bys k).toArray 31 (0,0))::TabML pn mp B::F))))) ?_
   clear hK h11
   refine rg_eff 10 evD kRz (fun K hK=>?_)
   refine eff_store (cs':=entA x (.slice da x.data.length dc)) (v:= .agg (entA x (.slice da x.data.length dc))) h12 evD evD (by exact putsAt_all (show (entA Frm.zeroE (.slice none 0 0)).size=(entA x (.slice da x.data.length dc)).size by rw [entA_size _ _ Hx.out];rfl)) upd0 (show 0+(entA x (.slice da x.data.length dc)).size≤(entA Frm.zeroE (.slice none 0 0)).size by rw [entA_size _ _ Hx.out];exact Nat.le_refl _) (show _=some (entA x (.slice da x.data.length dc)).size by rw [entA_size _ _ Hx.out];exact infoEntSize) (entA_one _ _ _ _) ?_
   intro w13 h13
   refine hK _ _ (.inl rfl) ?_
   clear hK h12
   refine rP 11 ?_ (y:=asQ)
   refine wpL_done kRz ?_
   go_wp2_with fail
   go_ret2
   exact ⟨_,rfl,rfl,h13.sb⟩
  ·refine eff_alloc (zEnt) h10 rfl ?_
   intro b8 w11 h11
   refine hK _ _ (.inr (.inl (HGf.out _ _ (h11.sb:Sat w0 w11 (pt b6 (.cells (penc pl).toArray 87 (0,0))::rpPt r m seg p ps pn d::pt b8 (.cells zeroEntV.cells 101 (0,0))::pt b3 (.cells (bys k).toArray 31 (0,0))::TabML pn mp B::LogRep p m L::MedRep m M::F))))) ?_
   clear hK h10
   refine rg_eff 5 evD kRz (fun K hK=>?_)
   (refine eff_call2 kRz evD evD ?_)
   refine (HR.out _ _ (Ro.os HH.out) (h11.sb:Sat w0 _ (LogRep p m L::MedRep m M::pt b8 (.cells zeroEntV.cells 101 (0,0))::pt b6 (.cells (penc pl).toArray 87 (0,0))::rpPt r m seg p ps pn d::pt b3 (.cells (bys k).toArray 31 (0,0))::TabML pn mp B::F))).mono ?_
   rintro ee w12 ⟨v,rfl,da,dc,rfl,h12⟩
   refine hK _ _ (.inl rfl) ?_
   clear hK h11
   refine rP 6 ?_ (y:=mvQ)
   refine rP 7 ?_ (y:=(yl_extract evD rnD))
   refine rP 8 ?_ (y:=(yl_extract evD rnD))
   replace h12:Sat w0 w12 (pt b8 (.cells zeroEntV.cells 101 (0,0))::bsl (.slice da x.data.length dc) x.data::LogRep p m L::MedRep m M::pt b6 (.cells (penc pl).toArray 87 (0,0))::rpPt r m seg p ps pn d::pt b3 (.cells (bys k).toArray 31 (0,0))::TabML pn mp B::F):=h12.sb
   refine rg_eff 10 evD kRz (fun K hK=>?_)
   refine eff_store (cs':=entA x (.slice da x.data.length dc)) (v:= .agg (entA x (.slice da x.data.length dc))) h12 evD evD (by exact putsAt_all (show (entA Frm.zeroE (.slice none 0 0)).size=(entA x (.slice da x.data.length dc)).size by rw [entA_size _ _ Hx.out];rfl)) upd0 (show 0+(entA x (.slice da x.data.length dc)).size≤(entA Frm.zeroE (.slice none 0 0)).size by rw [entA_size _ _ Hx.out];exact Nat.le_refl _) (show _=some (entA x (.slice da x.data.length dc)).size by rw [entA_size _ _ Hx.out];exact infoEntSize) (entA_one _ _ _ _) ?_
   intro w13 h13
   refine hK _ _ (.inl rfl) ?_
   clear hK h12
   refine rP 11 ?_ (y:=asQ)
   refine wpL_done kRz ?_
   go_wp2_with fail
   go_ret2
   exact ⟨_,rfl,rfl,h13.sb⟩
 ·refine eff_alloc (zValL) h5 rfl ?_
  intro b6 w6 h6
  refine hK _ _ (.inr (.inl (HGf.out _ _ (h6.sb:Sat w0 w6 (rpPt r m seg p ps pn d::pt b3 (.cells (bys k).toArray 31 (0,0))::pt b6 (.cells (penc Seg.Plc.zero).toArray 87 (0,0))::TabML pn mp B::LogRep p m L::MedRep m M::F))))) ?_
  clear hK h5
  refine rg_eff 5 evD kRz (fun K hK=>?_)
  (refine eff_call2 kRz evD evD ?_)
  refine (HT.out _ _ (h6.sb:Sat w0 _ (TabML pn mp B::pt b6 (.cells (penc Seg.Plc.zero).toArray 87 (0,0))::rpPt r m seg p ps pn d::pt b3 (.cells (bys k).toArray 31 (0,0))::LogRep p m L::MedRep m M::F))).mono ?_
  rintro ee w7 ⟨v,rfl,rfl,h7⟩
  refine hK _ _ (.inl rfl) ?_
  clear hK h6
  refine rP 6 ?_ (y:=mvQ)
  refine rP 7 ?_ (y:=(yl_extract evD rnD))
  refine rP 8 ?_ (y:=(yl_extract evD rnD))
  have h8:Sat w0 w7 (pt b6 (.cells (penc Seg.Plc.zero).toArray 87 (0,0))::rpPt r m seg p ps pn d::pt b3 (.cells (bys k).toArray 31 (0,0))::TabML pn mp B::LogRep p m L::MedRep m M::F):=h7.sb
  clear h7
  refine rg_eff 10 evD kRz (fun K hK=>?_)
  refine eff_store (cs':=(penc pl).toArray) h8 evD evD rFz upd0 nLz kRz rFz ?_
  intro w9 h9
  refine hK _ _ (.inl rfl) ?_
  clear hK h8
  refine rP 11 ?_ (y:=asQ)
  refine wpL_done kRz ?_
  go_wp2_with fail
  have h10:=h9.drew
  clear h9 HGf
  refine wpL_begin [5,6,7,8,10,11] (fun w'=>w'.cell? ⟨r,2,none⟩=some (.pointer (some ⟨p,0,none⟩))∧w'.rangeAt b6 0 (penc pl)) kRz ?_
  have hGf:∀ (w':World) (R:List HProp),Sat w0 w' (pt b6 (.cells (penc pl).toArray 87 (0,0))::rpPt r m seg p ps pn d::R)→w'.cell? ⟨r,2,none⟩=some (.pointer (some ⟨p,0,none⟩))∧w'.rangeAt b6 0 (penc pl):=fun w' R hw=>⟨hw.cellP pick1 2 rfl,fun j z hj=>by rw [Nat.zero_add];exact hw.cellP pick0 j (by rw [List.getElem?_toArray];exact hj)⟩
  have HGf:=uQ hGf
  have hG:=hGf _ _ h10
  clear hGf
  refine rP 0 ?_ (y:=mvQ)
  refine rP 1 ?_ (y:=nlQ)
  refine rP 2 ?_ (y:=flQ)
  refine rt 3 (h:=?_)
  refine rg_take 4 evD kRz i3z (tk_loadN (b:=b6) (o:=0) (penc pl) rFz Tryz.underlying87 rfl kRz (fun w hw=>hw.2)) aQ gQ ?_
  clear hG
  refine rg_eff2 5 9 evD evD kRz (fun K hK=>?_) (fun K hK=>?_)
  ·(refine eff_call2 kRz evD evD ?_)
   refine (HR.out _ _ (Ro.os HH.out) (h10.sb:Sat w0 _ (LogRep p m L::MedRep m M::pt b6 (.cells (penc pl).toArray 87 (0,0))::rpPt r m seg p ps pn d::pt b3 (.cells (bys k).toArray 31 (0,0))::TabML pn mp B::F))).mono ?_
   rintro ee w11 ⟨v,rfl,da,dc,rfl,h11⟩
   refine hK _ _ (.inl rfl) ?_
   clear hK h10
   refine rP 6 ?_ (y:=mvQ)
   refine rP 7 ?_ (y:=(yl_extract evD rnD))
   refine rP 8 ?_ (y:=(yl_extract evD rnD))
   refine rg_eff 9 evD kRz (fun K hK=>?_)
   refine eff_alloc (zEnt) h11 rfl ?_
   intro b8 w12 h12
   refine hK _ _ (.inr (.inl (HGf.out _ _ (h12.sb:Sat w0 w12 (pt b6 (.cells (penc pl).toArray 87 (0,0))::rpPt r m seg p ps pn d::pt b8 (.cells zeroEntV.cells 101 (0,0))::bsl (.slice da x.data.length dc) x.data::LogRep p m L::MedRep m M::pt b3 (.cells (bys k).toArray 31 (0,0))::TabML pn mp B::F))))) ?_
   clear hK h11
   refine rg_eff 10 evD kRz (fun K hK=>?_)
   refine eff_store (cs':=entA x (.slice da x.data.length dc)) (v:= .agg (entA x (.slice da x.data.length dc))) h12 evD evD (by exact putsAt_all (show (entA Frm.zeroE (.slice none 0 0)).size=(entA x (.slice da x.data.length dc)).size by rw [entA_size _ _ Hx.out];rfl)) upd0 (show 0+(entA x (.slice da x.data.length dc)).size≤(entA Frm.zeroE (.slice none 0 0)).size by rw [entA_size _ _ Hx.out];exact Nat.le_refl _) (show _=some (entA x (.slice da x.data.length dc)).size by rw [entA_size _ _ Hx.out];exact infoEntSize) (entA_one _ _ _ _) ?_
   intro w13 h13
   refine hK _ _ (.inl rfl) ?_
   clear hK h12
   refine rP 11 ?_ (y:=asQ)
   refine wpL_done kRz ?_
   go_wp2_with fail
   go_ret2
   exact ⟨_,rfl,rfl,h13.sb⟩
  ·refine eff_alloc (zEnt) h10 rfl ?_
   intro b8 w11 h11
   refine hK _ _ (.inr (.inl (HGf.out _ _ (h11.sb:Sat w0 w11 (pt b6 (.cells (penc pl).toArray 87 (0,0))::rpPt r m seg p ps pn d::pt b8 (.cells zeroEntV.cells 101 (0,0))::pt b3 (.cells (bys k).toArray 31 (0,0))::TabML pn mp B::LogRep p m L::MedRep m M::F))))) ?_
   clear hK h10
   refine rg_eff 5 evD kRz (fun K hK=>?_)
   (refine eff_call2 kRz evD evD ?_)
   refine (HR.out _ _ (Ro.os HH.out) (h11.sb:Sat w0 _ (LogRep p m L::MedRep m M::pt b8 (.cells zeroEntV.cells 101 (0,0))::pt b6 (.cells (penc pl).toArray 87 (0,0))::rpPt r m seg p ps pn d::pt b3 (.cells (bys k).toArray 31 (0,0))::TabML pn mp B::F))).mono ?_
   rintro ee w12 ⟨v,rfl,da,dc,rfl,h12⟩
   refine hK _ _ (.inl rfl) ?_
   clear hK h11
   refine rP 6 ?_ (y:=mvQ)
   refine rP 7 ?_ (y:=(yl_extract evD rnD))
   refine rP 8 ?_ (y:=(yl_extract evD rnD))
   replace h12:Sat w0 w12 (pt b8 (.cells zeroEntV.cells 101 (0,0))::bsl (.slice da x.data.length dc) x.data::LogRep p m L::MedRep m M::pt b6 (.cells (penc pl).toArray 87 (0,0))::rpPt r m seg p ps pn d::pt b3 (.cells (bys k).toArray 31 (0,0))::TabML pn mp B::F):=h12.sb
   refine rg_eff 10 evD kRz (fun K hK=>?_)
   refine eff_store (cs':=entA x (.slice da x.data.length dc)) (v:= .agg (entA x (.slice da x.data.length dc))) h12 evD evD (by exact putsAt_all (show (entA Frm.zeroE (.slice none 0 0)).size=(entA x (.slice da x.data.length dc)).size by rw [entA_size _ _ Hx.out];rfl)) upd0 (show 0+(entA x (.slice da x.data.length dc)).size≤(entA Frm.zeroE (.slice none 0 0)).size by rw [entA_size _ _ Hx.out];exact Nat.le_refl _) (show _=some (entA x (.slice da x.data.length dc)).size by rw [entA_size _ _ Hx.out];exact infoEntSize) (entA_one _ _ _ _) ?_
   intro w13 h13
   refine hK _ _ (.inl rfl) ?_
   clear hK h12
   refine rP 11 ?_ (y:=asQ)
   refine wpL_done kRz ?_
   go_wp2_with fail
   go_ret2
   exact ⟨_,rfl,rfl,h13.sb⟩
end
section
variable {w0 w:World}{F:List HProp}{r m K r0 E n:Nat}{seg:Int}{o oc:Frm.Bs→Option Frm.Bs}{d:Bool}{k:Frm.Bs}
theorem now_some {C:List (List Frm.Ent)} (k:Frm.Bs):(Rep.nowOf (Rep.rowsC 0 C) k).isSome=(Rep.objOf C.flatten k).isSome:=by
 rw [(Rep.nowOf_obj _ k).1,Rep.rowsC_e]
end
end Go.Proofs.YtjbhhbnopnmcnaaGreatDoor
namespace Go.Frm
open Go.Med (xorAt)
theorem xor_shift28 (a b:Nat):(a ^^^ b) / 268435456=a / 268435456 ^^^ b / 268435456:=by
 have h:=Nat.shiftRight_xor_distrib (a:=a) (b:=b) (i:=28)
 simpa [Nat.shiftRight_eq_div_pow] using h
theorem xor_cancel {a b c:Nat} (h:a ^^^ c=b ^^^ c):a=b:=by
 have:=congrArg (· ^^^ c) h
 simp only [Nat.xor_assoc,Nat.xor_self,Nat.xor_zero]at this
 exact this
theorem half_top:∀ i,i<16→∀ j,j<16→half.getD i 0 / 268435456=half.getD j 0 / 268435456→i=j:=by decide
theorem fold4_inj {x y:Nat} (hx:x<4294967296) (hy:y<4294967296) (h:fold4 x=fold4 y):x=y:=by
 unfold fold4 at h
 have h1:=congrArg (· / 268435456) h
 simp only [xor_shift28]at h1
 rw [Nat.div_eq_of_lt (show x / 16<268435456 by omega),Nat.div_eq_of_lt (show y / 16<268435456 by omega),Nat.zero_xor,Nat.zero_xor]at h1
 have h2:=half_top (x%16) (Nat.mod_lt _ dCz) (y%16) (Nat.mod_lt _ dCz) h1
 rw [h2]at h
 have h3:=xor_cancel h
 omega
theorem crcStep_inj {x y:Nat} (hx:x<4294967296) (hy:y<4294967296){c d:UInt8} (h:crcStep x c=crcStep y d):x ^^^ c.toNat=y ^^^ d.toNat:=by
 unfold crcStep at h
 have a:=xor_lt hx (show c.toNat<4294967296 by have:=c.toNat_lt;omega)
 have b:=xor_lt hy (show d.toNat<4294967296 by have:=d.toNat_lt;omega)
 exact fold4_inj a b (fold4_inj (fold4_lt a) (fold4_lt b) h)
theorem foldl_inj:∀ (v:Bs){x y:Nat},x<4294967296→y<4294967296→v.foldl crcStep x=v.foldl crcStep y→x=y
 |[],x,y,_,_,h=>h
 |c::v,x,y,hx,hy,h=>by
  have:=foldl_inj v (crcStep_lt hx c) (crcStep_lt hy c) h
  exact xor_cancel (crcStep_inj hx hy this)
theorem crc_ne (u v:Bs){c d:UInt8} (h:c≠d):crc (u++c::v)≠crc (u++d::v):=fun e=>by
 unfold crc crcAdd at e
 rw [List.foldl_append,List.foldl_append,List.foldl_cons,List.foldl_cons]at e
 have hx:u.foldl crcStep (4294967295 - 0)<4294967296:=foldl_lt u _ dCz
 generalize u.foldl crcStep (4294967295 - 0)=x at *
 have l1:=foldl_lt v _ (crcStep_lt hx c)
 have l2:=foldl_lt v _ (crcStep_lt hx d)
 have h1:v.foldl crcStep (crcStep x c)=v.foldl crcStep (crcStep x d):=oQ
 have h2:=crcStep_inj hx hx (foldl_inj v (crcStep_lt hx c) (crcStep_lt hx d) h1)
 rw [Nat.xor_comm x,Nat.xor_comm x]at h2
 have h3:=xor_cancel h2
 exact h (UInt8.toNat_inj.1 h3)
theorem num_inj:∀ {a b:Bs},a.length=b.length→num a=num b→a=b
 |[],[],_,_=>rfl
 |[],_::_,h,_=>by cases h
 |_::_,[],h,_=>by cases h
 |c::a,d::b,h,e=>by
  have e':c.toNat+256 * num a=d.toNat+256 * num b:=e
  have hc:=c.toNat_lt
  have hd:=d.toNat_lt
  have h1:c.toNat=d.toNat:=oQ
  have h2:num a=num b:=oQ
  rw [UInt8.toNat_inj.1 h1,num_inj (by simpa using h) h2]
structure Whole (s:Bs):Prop where
 len:8≤s.length
 sum:crc (s.drop 4)=num (s.take 4)
theorem set_split {s:Bs}{i:Nat} (h:i<s.length) (y:UInt8):s=s.take i++s[i]::s.drop (i+1)∧xorAt s i y=s.take i++(s[i] ^^^ y)::s.drop (i+1):=by
 refine ⟨by rw [List.getElem_cons_drop,List.take_append_drop],?_⟩
 unfold xorAt
 rw [List.set_eq_take_append_cons_drop,if_pos h,List.getD_eq_getElem?_getD,List.getElem?_eq_getElem h,Option.getD_some]
theorem Whole.same {s:Bs}{i:Nat}{y:UInt8} (h:Whole s) (h':Whole (xorAt s i y)):xorAt s i y=s:=by
 by_cases hi:i<s.length
 rotate_left
 ·unfold xorAt
  exact List.set_eq_of_length_le oQ
 obtain ⟨e1,e2⟩:=set_split hi y
 by_cases hc:s[i]=s[i] ^^^ y
 ·rw [e2,← hc];exact e1.symm
 exfalso
 have hs:=h.sum
 have hs':=h'.sum
 by_cases h4:i<4
 ·have d1:(xorAt s i y).drop 4=s.drop 4:=by
   unfold xorAt
   rw [List.drop_set_of_lt h4]
  rw [d1,hs]at hs'
  have t:=num_inj (by rw [List.length_take,List.length_take,Med.xorAt_len]) hs'
  have t2:=congrArg (fun z=>z[i]?) t
  simp only [List.getElem?_take,if_pos h4]at t2
  rw [List.getElem?_eq_getElem hi,e2,List.getElem?_append_right (by rw [List.length_take];omega),List.length_take,Nat.min_eq_left oQ,Nat.sub_self]at t2
  exact hc (by simpa using t2)
 ·have d1:(xorAt s i y).take 4=s.take 4:=by
   unfold xorAt
   rw [List.take_set,List.set_eq_of_length_le (by rw [List.length_take];omega)]
  rw [d1,← hs]at hs'
  have k1:s.drop 4=(s.take i).drop 4++s[i]::s.drop (i+1):=by
   conv=>lhs;rw [e1]
   rw [List.drop_append_of_le_length (by rw [List.length_take];omega)]
  have k2:(xorAt s i y).drop 4=(s.take i).drop 4++(s[i] ^^^ y)::s.drop (i+1):=by
   rw [e2,List.drop_append_of_le_length (by rw [List.length_take];omega)]
  rw [k1,k2]at hs'
  exact crc_ne _ _ (Ne.symm hc) hs'
theorem read_whole {s:Bs} (h0:(read s).2.2=0) (h1:(read s).2.1=s.length):Whole s:=by
 unfold read at h0 h1
 split at h0
 ·cases h0
 rename_i g1
 rw [if_neg g1]at h1
 dsimp only at h0 h1
 split at h0
 ·cases h0
 rename_i g2
 rw [if_neg g2]at h1
 split at h0
 ·cases h0
 rename_i g3
 rw [if_neg g3]at h1
 split at h0
 ·cases h0
 rename_i g4
 rw [if_neg g4]at h1
 have hn:num ((s.drop 4).take 4)=s.length:=by
  split at h1 <;> exact h1
 rw [hn,List.take_length]at g4
 exact ⟨by omega,by simpa using g4⟩
end Go.Frm
namespace Go.Seg
open Go.Med
open Go.Frm (Bs Ent encs GoodE)
open Go.Rep
section
variable {K r E B n:Nat}{L:Log}{M:Med}{C:List (List Ent)}{k:Bs}{pl:Plc}
theorem rot_all {K:Nat} (ok:M.Ok K) (q:Quiet M) (h:Calm K r M) (s:ByteArray) (i:Int) (y:UInt8) (t:ByteArray):(M.rot s i y).1.all t=M.all t∨(∃ j:Nat,(M.rot s i y).1.all t=(xorAt (M.all t).1 j y,(M.all t).2)):=by
 have hq:=q.rot s i y
 unfold Med.rot at hq ⊢
 cases hn:nget M.now s with
 |none=>exact .inl rfl
 |some j=>
  rw [hn]at hq
  dsimp only at hq ⊢
  split
  ·exact .inl rfl
  ·rename_i hi
   rw [if_neg hi]at hq
   have hlt:j<M.files.length:=ok.nowOk.ids _ (nget_mem hn)
   cases ht:nget M.now t with
   |none=>left;rw [all_none hq (show nget (M.setFile j _).now t=none from ht),all_none q ht]
   |some u=>
    by_cases e:u=j
    ·subst e
     right
     refine ⟨i.toNat,?_⟩
     rw [all_some hq (show nget (M.setFile u _).now t=some u from ht),all_some q ht]
     show (((M.setFile u _).file u).now,(0:Int))=_
     rw [file_set hlt,if_pos rfl,((ok.file u).rot _ _).2]
    ·left
     rw [all_some hq (show nget (M.setFile j _).now t=some u from ht),all_some q ht]
     show (((M.setFile j _).file u).now,(0:Int))=_
     rw [file_set hlt,if_neg e]
theorem read_by (q:Quiet M) (t:ByteArray) (a n:Int):M.read t a n=if (M.all t).2≠0 then ([],9) else if a<0∨n<0 then ([],2) else if ((M.all t).1.length:Int)<a∨((M.all t).1.length:Int) - a<n then ([],3) else (((M.all t).1.drop a.toNat).take n.toNat,0):=by
 unfold Med.read
 rw [q.off]
 cases hi:nget M.now t with
 |none=>rw [all_none q hi];rfl
 |some i=>
  rw [all_some q hi]
  simp only [ne_eq,not_true_eq_false,if_false,Bool.false_eq_true]
theorem xor_part (l:Bs) (j:Nat) (y:UInt8) (a n:Nat):∃ j',((xorAt l j y).drop a).take n=xorAt ((l.drop a).take n) j' y:=by
 unfold xorAt
 rw [List.drop_set]
 split
 ·refine ⟨((l.drop a).take n).length,?_⟩
  rw [List.set_eq_of_length_le (Nat.le_refl _)]
 ·rename_i h
  rw [List.take_set]
  by_cases hj:j - a<((l.drop a).take n).length
  ·refine ⟨j - a,?_⟩
   have hjn:j - a<n:=by rw [List.length_take]at hj;omega
   have e:((l.drop a).take n).getD (j - a) 0=l.getD j 0:=by
    rw [List.getD_eq_getElem?_getD,List.getElem?_take,if_pos hjn,List.getElem?_drop,show a+(j - a)=j by omega,List.getD_eq_getElem?_getD]
   rw [e]
  ·refine ⟨((l.drop a).take n).length,?_⟩
   rw [List.set_eq_of_length_le oQ,List.set_eq_of_length_le (Nat.le_refl _)]
theorem rot_read {x:Ent} (ok:M.Ok K) (q:Quiet M) (hc:Calm K r M) (hx:L.read M pl=(x,0)) (s:ByteArray) (i:Int) (y:UInt8):L.read (M.rot s i y).1 pl=(x,0)∨(L.read (M.rot s i y).1 pl).2≠0:=by
 by_cases he:(L.read (M.rot s i y).1 pl).2=0
 rotate_left
 ·exact .inr he
 left
 have hq:=q.rot s i y
 have hra:=rot_all ok q hc s i y (name pl.seg)
 generalize (M.rot s i y).1=M2 at *
 have hread:M2.read (name pl.seg) pl.at_ pl.size=M.read (name pl.seg) pl.at_ pl.size∨∃ j,M2.read (name pl.seg) pl.at_ pl.size=(xorAt (M.read (name pl.seg) pl.at_ pl.size).1 j y,(M.read (name pl.seg) pl.at_ pl.size).2):=by
  rcases hra with e|⟨j,e⟩
  ·left;rw [read_by hq,read_by q,e]
  ·rw [read_by hq,read_by q,e]
   simp only [xorAt_len]
   split
   ·exact .inl rfl
   split
   ·exact .inl rfl
   split
   ·exact .inl rfl
   ·right
    obtain ⟨j',e'⟩:=xor_part (M.all (name pl.seg)).1 j y pl.at_.toNat pl.size.toNat
    exact ⟨j',by rw [e']⟩
 unfold Log.read at hx he ⊢
 split at hx
 ·cases hx
 rename_i u hu
 (try rw [hu]at he)
 (try rw [hu])
 (try simp only at hx he ⊢)
 rcases hread with e|⟨j,e⟩
 ·rw [e];exact hx
 rw [e]at he ⊢
 generalize M.read (name pl.seg) pl.at_ pl.size=rd at *
 obtain ⟨b,eb⟩:=rd
 simp only at hx he ⊢
 split at hx
 ·rename_i g;cases hx;exact absurd rfl g
 rename_i g1
 rw [if_neg g1]at he ⊢
 split at hx
 ·rename_i g;have:=congrArg Prod.snd hx;exact absurd this g
 rename_i g2
 split at hx
 ·rename_i g;have:=congrArg Prod.snd hx;cases this
 rename_i g3
 split at he
 ·rename_i g;exact absurd he g
 rename_i g4
 split at he
 ·cases he
 rename_i g5
 have w1:=Frm.read_whole (s:=b) (by simpa using g2) (by simpa using g3)
 have w2:=Frm.read_whole (s:=xorAt b j y) (by simpa using g4) (by simpa using g5)
 rw [w1.same w2,if_neg g2,if_neg g3]
 exact hx
end
end Go.Seg
namespace Go.Proofs.YtjbhhbnopnmcnaaGreatDoor
open Go Go.Sl Go.Med Go.MapKept Go.RowKit
structure D where
 kind:Int
 name:ByteArray
 to:ByteArray
 n:Int
 m:Int
 bv:Value
 b:Bs
 lv:Value
 l:List Int
section
variable {w0 w:World}{F:List HProp}{m fb nb b r:Nat}{M:Med}{bs:List Nat}{wv v bv dv:Value}{s:ByteArray}{fs:List Fil}{K:Nat}
end
section
variable {w0 w:World}{F:List HProp}{m fb nb b r:Nat}{M:Med}{bs:List Nat}{wv v bv dv:Value}{s:ByteArray}{fs:List Fil}{K:Nat}{f:Fil}
theorem rot_out (h:Sat w0 w (FilRep b f::F)) (_:f.Ok K) (at_:Int) (y:UInt8) (ho:at_<0∨(f.now.length:Int)≤at_) :
  Calls Tryz.prog 53 #[ptr b,.int .i64 at_,.int .u8 y.toNat] w (Rtn fun v w'=>v = .bool false∧Sat w0 w' (FilRep b f::F)):=by
 obtain ⟨fv,nv,wv,ws,hws,hR⟩:=FilRep.open h
 obtain ⟨na,nn,nc,rfl⟩:=bsl_shape (hR.sel 3 [2] rfl rfl)
 have hnn:nn=f.now.length:=by
  obtain ⟨_,_,_,he,hl,_⟩:=Sat.rd (hR.sel 3 [2] rfl rfl)
  cases he
  rw [bys_len,Nat.mul_one]at hl;exact hl.symm
 subst hnn
 have c1:=hR.cellAt 1 _ rfl
 by_cases h1:at_<0
 ·clear hws
  go_enter Tryz.func53,Tryz.ntmps53
  go_wp2
  go_ret
  exact ⟨.bool false,rfl,rfl,h⟩
 ·have h2:(f.now.length:Int)≤at_:=by omega
  have h1':decide (at_<0)=false:=by rw [decide_eq_false_iff_not];exact h1
  clear hws ho
  go_enter Tryz.func53,Tryz.ntmps53
  go_wp2
  go_ret
  exact ⟨.bool false,rfl,rfl,h⟩
end
section
variable {w0 w:World}{F:List HProp}{m fb nb b r:Nat}{M:Med}{bs:List Nat}{wv v bv dv:Value}{s:ByteArray}{fs:List Fil}{K:Nat}{f:Fil}
theorem chg_set:∀ (ws:List (Chg×Value)) (j:Nat) (p:Chg×Value) (b':Bs) (v':Value),ws[j]?=some p→(ws.flatMap chgCells).set (j * 3+2) v'=(ws.set j ({ p.1 with b:=b' },v')).flatMap chgCells
 |[],_,_,_,_,h=>by cases h
 |q::ws,0,p,b',v',h=>by
  cases h
  rfl
 |q::ws,j+1,p,b',v',h=>by
  have:=chg_set ws j p b' v' (by simpa using h)
  rw [List.set_cons_succ,List.flatMap_cons,List.flatMap_cons,← this]
  have e:(j+1) * 3+2=(j * 3+2)+1+1+1:=oQ
  rw [e]
  rfl
theorem chgs_put:∀ (ws:List (Chg×Value)) (i:Nat) (p:Chg×Value),ws[i]?=some p→∃ G:HProp,chgs ws=star (bsl p.2 p.1.b) G∧∀ p',chgs (ws.set i p')=star (bsl p'.2 p'.1.b) G
 |[],_,_,h=>by cases h
 |q::ws,0,p,h=>by
  simp at h;subst h
  exact ⟨chgs ws,rfl,fun _=>rfl⟩
 |q::ws,i+1,p,h=>by
  obtain ⟨G,hG,hG'⟩:=chgs_put ws i p (by simpa using h)
  refine ⟨star (bsl q.2 q.1.b) G,?_,fun p'=>?_⟩
  ·show star (bsl q.2 q.1.b) (chgs ws)=_
   rw [hG,star_left_comm]
  ·show star (bsl q.2 q.1.b) (chgs (ws.set i p'))=_
   rw [hG',star_left_comm]
theorem past_lt {k m W:Nat} (hp:Past f k m W) (hW:W≤f.waits.length) (hk:k<(f.at W).length):∀ d j,W=j+d→m≤j→k<(f.at j).length
 |0,j,e,_=>by rw [e]at hk;exact hk
 |d+1,j,e,hj=>by
  have h1:k<(f.at (j+1)).length:=past_lt hp hW hk d (j+1) oQ oQ
  have h2:f.waits[j]?=some (f.waits[j]'oQ):=List.getElem?_eq_getElem _
  rcases hp j _ hj oQ h2 with h3|h3
  ·rw [f.at_succ j _ h2]at h1
   unfold Chg.on at h1
   rw [if_pos h3]at h1
   simp at h1;omega
  ·exact h3
theorem rot_found {k j:Nat}{c:Chg} (y:UInt8) (hp:Past f k (j+1) f.waits.length) (hc:f.waits[j]?=some c) (hcut:c.cut=false) (hl:(f.at j).length≤k) :
  f.rot k y={ f with now:=xorAt f.now k y,waits:=f.waits.set j { c with b:=xorAt c.b (k - (f.at j).length) y } }:=by
 unfold Fil.rot
 rcases rotWaits_spec f k y f.waits.length (Nat.le_refl _) with ⟨h1,h2⟩|⟨i,d,hi,hd,hdc,hdl,h1,h2⟩
 ·rcases h2 j c (Nat.zero_le _) (List.getElem?_eq_some_iff.1 hc).1 hc with h|h
  ·rw [hcut]at h;cases h
  ·omega
 ·have hj:j<f.waits.length:=(List.getElem?_eq_some_iff.1 hc).1
  rcases Nat.lt_trichotomy i j with hlt|rfl|hgt
  ·rcases h2 j c hlt hj hc with h|h
   ·rw [hcut]at h;cases h
   ·omega
  ·rw [hc]at hd;cases hd
   rw [h1]
  ·rcases hp i d hgt hi hd with h|h
   ·rw [hdc]at h;cases h
   ·omega
theorem rot_none {k:Nat} (y:UInt8) (hp:Past f k 0 f.waits.length):f.rot k y={ f with now:=xorAt f.now k y,fast:=xorAt f.fast k y }:=by
 unfold Fil.rot
 rcases rotWaits_spec f k y f.waits.length (Nat.le_refl _) with ⟨h1,h2⟩|⟨i,d,hi,hd,hdc,hdl,h1,h2⟩
 ·rw [h1]
 ·rcases hp i d (Nat.zero_le _) hi hd with h|h
  ·rw [hdc]at h;cases h
  ·omega
theorem rot_in (h:Sat w0 w (FilRep b f::F)) (hf:f.Ok K) (hK:K≤1099511627776) (k:Nat) (y:UInt8) (hk:k<f.now.length) :
  Calls Tryz.prog 53 #[ptr b,.int .i64 k,.int .u8 y.toNat] w (Rtn fun v w'=>v = .bool true∧Sat w0 w' (FilRep b (f.rot k y)::F)):=by
 obtain ⟨fv,nv,wv,ws,hws,hR⟩:=FilRep.open h
 obtain ⟨na,nn,nc,rfl⟩:=bsl_shape (hR.sel 3 [2] rfl rfl)
 have hnn:nn=f.now.length:=by
  obtain ⟨_,_,_,he,hl,_⟩:=Sat.rd (hR.sel 3 [2] rfl rfl)
  cases he
  rw [bys_len,Nat.mul_one]at hl;exact hl.symm
 subst hnn
 obtain ⟨fa,fn,fc,rfl⟩:=bsl_shape (hR.sel 2 [1] rfl rfl)
 have hb:Sat w0 w (bsl (.slice na f.now.length nc) f.now::filPt b (.slice fa fn fc) (.slice na f.now.length nc) wv::bsl (.slice fa fn fc) f.fast::osl 149 3 wv (ws.flatMap chgCells)::chgs ws::F):=hR.sel 5 [2,0,1,3,4] rfl rfl
 obtain ⟨g,rfl,e0,e1,hS⟩:=bsl_set hb hk (f.now[k] ^^^ y)
 have c1:=hb.pick1.cellAt 1 _ rfl
 have hx:=xor_u8 (f.now[k]'hk) y
 have d0:=hS.pick1.cellAt 0 _ rfl
 obtain ⟨wa,wn,wc,rfl,hwn,_⟩:=id (Sat.rd (hS.sel 4 [3] rfl rfl))
 have hwl:wn=f.waits.length:=by
  have:(ws.flatMap chgCells).length=f.waits.length * 3:=by rw [List.length_flatMap,← hws];simp [chgCells,List.map_const']
  omega
 subst hwl
 clear hwn
 have hfn:fn=f.fast.length:=by
  obtain ⟨_,_,_,he,hl,_⟩:=Sat.rd (hS.sel 3 [2] rfl rfl)
  cases he
  rw [bys_len,Nat.mul_one]at hl;exact hl.symm
 subst hfn
 have hA:=hS.alloc (.cells #[.int .i64 f.fast.length] 3)
 have d2:=hA.pick2.cellAt 2 _ rfl
 have h1':decide ((k:Int)<0)=false:=by rw [decide_eq_false_iff_not];omega
 have h2':decide ((f.now.length:Int)≤(k:Int))=false:=by rw [decide_eq_false_iff_not];omega
 have h3':(k:Int)<(f.now.length:Int):=oQ
 have h4':decide (f.now.length≤k)=false:=by rw [decide_eq_false_iff_not];omega
 have Hws:=uQ hws;have Hf:=uQ hf
 clear hws hf
 generalize hx0:f.now[k]'hk=x0 at *
 have Hx0:=uQ hx0;clear hx0
 generalize hz:x0 ^^^ y=z at *
 have Hz:=uQ hz;clear hz
 clear hb hR h
 go_enter Tryz.func53,Tryz.ntmps53
 go_wp2_with fail
 have hL:Sat w0 _ (osl 3 1 (.slice (some ⟨w.heap.size,0,none⟩) 1 1) ((List.range (0+1)).map fun j=>Value.int .i64 ((f.at j).length:Nat))::_):=Sat.osl_of_pt (by simpa using hA) (by simp) (Nat.le_refl _) (by simp) (by unfold maxLen;omega) rfl
 generalize w.heap.size=q at *
 go_loopg [7,46] f.waits.length (fun gg lv iq wr=>∃ (i:Nat) (la:Option Addr) (ln lc:Nat),gg=f.waits.length - i∧i≤f.waits.length∧iq = .int .i64 i∧lv = .slice la ln lc ∧
  Sat w0 wr (osl 3 1 (.slice la ln lc) ((List.range (i+1)).map fun j=>Value.int .i64 ((f.at j).length:Nat))::bsl (.slice (some ⟨g,0,none⟩) f.now.length nc) (f.now.set k z)::filPt b (.slice fa f.fast.length fc) (.slice (some ⟨g,0,none⟩) f.now.length nc) (.slice wa f.waits.length wc)::bsl (.slice fa f.fast.length fc) f.fast::osl 149 3 (.slice wa f.waits.length wc) (ws.flatMap chgCells)::chgs ws::F))
 case atStart=>exact ⟨0,_,1,1,rfl,Nat.zero_le _,rfl,rfl,hL⟩
 case round=>
  obtain ⟨i,la,ln,lc,rfl,hi,rfl,rfl,hS1⟩:=hrel
  by_cases hi':i<f.waits.length
  ·obtain ⟨p,hp⟩:∃ p,ws[i]?=some p:=⟨ws[i]'(by have:=congrArg List.length Hws.out;simp at this;omega),List.getElem?_eq_getElem _⟩
   have hpw:f.waits[i]?=some p.1:=by rw [← Hws.out,List.getElem?_map,hp];rfl
   have hO:=hS1.sel 5 [4] rfl rfl
   have hshape:∃ g,wa=some ⟨g,0,none⟩:=by
    rcases (Sat.osl_cases hO) with ⟨he,hx,_⟩|⟨g,n',cap',cs,he,_⟩
    ·have:=(Value.slice.inj he).2.1;omega
    ·exact ⟨g,(Value.slice.inj he).1⟩
   obtain ⟨gw,rfl⟩:=hshape
   obtain ⟨w0',w1',w2'⟩:=waits_cells hO hp
   obtain ⟨G,hG⟩:=chgs_take ws i p hp
   have hS2:=hS1.sel 6 [5] rfl rfl
   rw [hG]at hS2
   obtain ⟨ba,bn,bc,hpb,_,_,hbn⟩:=bsl_cap' (Sat.star.1 hS2)
   obtain ⟨⟨cut,cn,cb⟩,pv⟩:=p
   simp only at hpb w0' w1' w2' hpw
   subst hpb
   have hic:(i:Int)<(f.waits.length:Int):=oQ
   have hL1:=hS1.rd
   have hln:ln=i+1:=by
    obtain ⟨_,_,_,he,hl,_⟩:=hL1
    cases he
    simpa using hl.symm
   subst hln
   obtain ⟨gl,rfl⟩:∃ g,la=some ⟨g,0,none⟩:=by
    rcases (Sat.osl_cases hS1) with ⟨he,hx,_⟩|⟨g,n',cap',cs,he,_⟩
    ·have:=(Value.slice.inj he).2.1;omega
    ·exact ⟨g,(Value.slice.inj he).1⟩
   have hSA:=hS1.alloc (.cells #[.bool cut,.int .i64 cn,.slice ba bn bc] 149)
   have cl:(wr.alloc (.cells #[.bool cut,.int .i64 cn,.slice ba bn bc] 149)).cell? ⟨gl,i,none⟩=some (.int .i64 (f.at i).length):=by
    obtain ⟨_,_,_,he,_,hx⟩:=hSA.pick1.rd
    cases he
    obtain ⟨b2,hb2,hc⟩:=hx i (.int .i64 ((f.at i).length:Nat)) (by simp)
    cases hb2
    rw [add_zero_lit]at hc;exact hc
   have cb0:=hSA.cellAt 0 _ rfl
   have cb1:=hSA.cellAt 1 _ rfl
   have cb2:=hSA.cellAt 2 _ rfl
   have hszi:=Hf.out.size i oQ
   have hbud:=Hf.out.budget
   have hwr1:IntKind.i64.wrap (i:Int)=(i:Int):=IntWalk.i64_in _ oQ
   have hil:(i:Int)<(i:Int)+1:=oQ
   simp only at hbn
   subst hbn
   have hrel':∀ N:Int,N=((f.at (i+1)).length:Int)→((List.range (i+1)).map fun j=>Value.int .i64 ((f.at j).length:Nat))++[.int .i64 N]=(List.range (i+1+1)).map fun j=>Value.int .i64 ((f.at j).length:Nat):=by
    rintro N rfl
    rw [List.range_succ (n:=i+1),List.map_append];rfl
   have hlenl:((List.range (i+1)).map fun j=>Value.int .i64 ((f.at j).length:Nat)).length=i+1:=by simp
   have Hrel:=uQ hrel';have Hlenl:=uQ hlenl
   have hS8:=hSA.drew
   clear hp hO hG hS2 d0 d2 e0 e1 c1 hS hA hL hL1 hrel' hlenl
   generalize hLL:((List.range (i+1)).map fun j=>Value.int .i64 ((f.at j).length:Nat))=LL at *
   clear hLL
   cases cut
   ·have hszb:(f.at i).length+cb.length≤16777216:=by
     have:=Hf.out.size (i+1) oQ
     rw [f.at_succ i _ hpw]at this
     simpa [Chg.on] using this
    have hnext:((f.at i).length:Int)+cb.length=((f.at (i+1)).length:Int):=by
     rw [f.at_succ i _ hpw]
     simp [Chg.on]
    have hwr2:IntKind.i64.wrap (((f.at i).length:Int)+cb.length)=((f.at (i+1)).length:Int):=by rw [IntWalk.i64_in _ oQ];exact hnext
    clear hpw hnext hszi
    generalize ((f.at i).length:Int)=L0 at *
    go_wp2_with fail
    generalize wr.heap.size=qc at *
    refine wpL_begin [9,10] (fun w'=>w'.cell? ⟨gl,i,none⟩=some (.int .i64 L0)∧w'.cell? ⟨qc,2,none⟩=some (.slice ba cb.length bc)) kRz ?_
    have hG:_∧_:=⟨cl,cb2⟩
    refine wpL_pure (i:=0) (v:=?_) rfl kRz iQ (Or.inl ⟨by rfl,?_⟩) ?_;rotate_left;focus ((intro wq;go_simp);first|done|exact wQ)
    refine wpL_pure (i:=1) (v:=?_) rfl kRz iQ (Or.inl ⟨by rfl,?_⟩) ?_;rotate_left;focus ((intro wq;go_simp);first|done|exact wQ)
    refine wpL_pure (i:=2) (v:=?_) rfl kRz iQ (Or.inl ⟨by rfl,?_⟩) ?_;rotate_left;focus ((intro wq;go_simp);first|done|exact wQ)
    refine wpL_pure (i:=3) (v:=?_) rfl kRz iQ (Or.inl ⟨by rfl,?_⟩) ?_;rotate_left;focus ((intro wq;go_simp);first|done|exact wQ)
    refine wpL_pure (i:=4) (v:=?_) rfl kRz iQ (Or.inl ⟨by rfl,?_⟩) ?_;rotate_left;focus ((intro wq;go_simp);first|done|exact wQ)
    refine wpL_take (i:=5) (v:=?_) rfl kRz iQ (Or.inl ⟨by rfl,?_⟩) aQ ?_;rotate_left;focus ((intro wq hq;go_split_ands;go_simp);first|done|exact wQ)
    refine wpL_pure (i:=6) (v:=?_) rfl kRz iQ (Or.inl ⟨by rfl,?_⟩) ?_;rotate_left;focus ((intro wq;go_simp);first|done|exact wQ)
    refine wpL_take (i:=7) (v:=?_) rfl kRz iQ (Or.inl ⟨by rfl,?_⟩) aQ ?_;rotate_left;focus ((intro wq hq;go_split_ands;go_simp);first|done|exact wQ)
    refine wpL_pure (i:=8) (v:=?_) rfl kRz iQ (Or.inl ⟨by rfl,?_⟩) ?_;rotate_left;focus ((intro wq;go_simp);first|done|exact wQ)
    refine wpL_pure (i:=9) (v:=?_) rfl kRz iQ (Or.inl ⟨by rfl,?_⟩) ?_;rotate_left;focus ((intro wq;go_simp);first|done|exact wQ)
    refine wpL_pure (i:=10) (v:=?_) rfl kRz iQ (Or.inl ⟨by rfl,?_⟩) ?_;rotate_left;focus ((intro wq;go_simp);first|done|exact wQ)
    refine wpL_done kRz ?_
    clear hG
    simp only [ayQ]
    go_frame
    clear hwr1 hwr2 hil cl cb0 cb1 cb2 hSA w0' w1' w2' hS1
    generalize (wr.alloc (.cells #[.bool false,.int .i64 cn,.slice ba cb.length bc] 149)).drew=w8 at *
    have c9:=hS8.cellAt 0 _ rfl
    have c10:=hS8.cellAt 1 _ rfl
    skip
    obtain ⟨ii,hii,hz0,hz1,hz2⟩:=info_parts infoInt
    have hB:=hS8.alloc (.cells #[.int .i64 (f.at (i+1)).length] 3)
    have hL1:=Hlenl.out
    have h63:LL.length+1≤maxLen:=by rw [hL1];unfold maxLen;omega
    have hby:(LL.length+1) * ii.bytes≤140737488355328:=by rw [hL1,hz2];omega
    clear hL1
    go_wp2_with (at_builtin;go_must (refine wpList_append (w0:=w0) rFz _ _ _ rFz _ ii _ Tryz.underlying39 hii hz0 hz1 rFz oQ rFz rFz (by intro u hu;simp at hu;subst hu;rfl) (hB.sel 3 [2] rfl rfl) (rdsl_new _ _ _ 1 1 1 rFz) h63 hby ?_);intro v2 w5 hS5 hne)
    obtain ⟨oa',on',oc',rfl,_⟩:=id hS5.rd
    clear hne h63 hby hB
    go_roundg (f.waits.length - (i+1))
    case measure=>omega
    case rel=>
     refine ⟨i+1,oa',on',oc',rfl,by omega,by go_num,rfl,?_⟩
     rw [← Hrel.out _ rfl]
     exact hS5
   ·have hcn:(cn:Int)=((f.at (i+1)).length:Int):=by
     have h1:=Hf.out.cuts i _ hpw rfl
     rw [f.at_succ i _ hpw]
     simp only [Chg.on,if_true,List.length_take]at h1 ⊢
     omega
    have hwr2:True:=trivial
    have Hcn:=uQ hcn
    clear hpw hszi hcn
    generalize ((f.at i).length:Int)=L0 at *
    go_wp2_with fail
    generalize wr.heap.size=qc at *
    refine wpL_begin [9,10] (fun w'=>w'.cell? ⟨gl,i,none⟩=some (.int .i64 L0)∧w'.cell? ⟨qc,2,none⟩=some (.slice ba cb.length bc)) kRz ?_
    have hG:_∧_:=⟨cl,cb2⟩
    refine wpL_pure (i:=0) (v:=?_) rfl kRz iQ (Or.inl ⟨by rfl,?_⟩) ?_;rotate_left;focus ((intro wq;go_simp);first|done|exact wQ)
    refine wpL_pure (i:=1) (v:=?_) rfl kRz iQ (Or.inl ⟨by rfl,?_⟩) ?_;rotate_left;focus ((intro wq;go_simp);first|done|exact wQ)
    refine wpL_pure (i:=2) (v:=?_) rfl kRz iQ (Or.inl ⟨by rfl,?_⟩) ?_;rotate_left;focus ((intro wq;go_simp);first|done|exact wQ)
    refine wpL_pure (i:=3) (v:=?_) rfl kRz iQ (Or.inl ⟨by rfl,?_⟩) ?_;rotate_left;focus ((intro wq;go_simp);first|done|exact wQ)
    refine wpL_pure (i:=4) (v:=?_) rfl kRz iQ (Or.inl ⟨by rfl,?_⟩) ?_;rotate_left;focus ((intro wq;go_simp);first|done|exact wQ)
    refine wpL_take (i:=5) (v:=?_) rfl kRz iQ (Or.inl ⟨by rfl,?_⟩) aQ ?_;rotate_left;focus ((intro wq hq;go_split_ands;go_simp);first|done|exact wQ)
    refine wpL_pure (i:=6) (v:=?_) rfl kRz iQ (Or.inl ⟨by rfl,?_⟩) ?_;rotate_left;focus ((intro wq;go_simp);first|done|exact wQ)
    refine wpL_take (i:=7) (v:=?_) rfl kRz iQ (Or.inl ⟨by rfl,?_⟩) aQ ?_;rotate_left;focus ((intro wq hq;go_split_ands;go_simp);first|done|exact wQ)
    refine wpL_pure (i:=8) (v:=?_) rfl kRz iQ (Or.inl ⟨by rfl,?_⟩) ?_;rotate_left;focus ((intro wq;go_simp);first|done|exact wQ)
    refine wpL_pure (i:=9) (v:=?_) rfl kRz iQ (Or.inl ⟨by rfl,?_⟩) ?_;rotate_left;focus ((intro wq;go_simp);first|done|exact wQ)
    refine wpL_pure (i:=10) (v:=?_) rfl kRz iQ (Or.inl ⟨by rfl,?_⟩) ?_;rotate_left;focus ((intro wq;go_simp);first|done|exact wQ)
    refine wpL_done kRz ?_
    clear hG
    simp only [ayQ]
    go_frame
    clear hwr1 hwr2 hil cl cb0 cb1 cb2 hSA w0' w1' w2' hS1
    generalize (wr.alloc (.cells #[.bool true,.int .i64 cn,.slice ba cb.length bc] 149)).drew=w8 at *
    have c9:=hS8.cellAt 0 _ rfl
    have c10:=hS8.cellAt 1 _ rfl
    skip
    obtain ⟨ii,hii,hz0,hz1,hz2⟩:=info_parts infoInt
    have hB:=hS8.alloc (.cells #[.int .i64 cn] 3)
    have hL1:=Hlenl.out
    have h63:LL.length+1≤maxLen:=by rw [hL1];unfold maxLen;omega
    have hby:(LL.length+1) * ii.bytes≤140737488355328:=by rw [hL1,hz2];omega
    clear hL1
    go_wp2_with (at_builtin;go_must (refine wpList_append (w0:=w0) rFz _ _ _ rFz _ ii _ Tryz.underlying39 hii hz0 hz1 rFz oQ rFz rFz (by intro u hu;simp at hu;subst hu;rfl) (hB.sel 3 [2] rfl rfl) (rdsl_new _ _ _ 1 1 1 rFz) h63 hby ?_);intro v2 w5 hS5 hne)
    obtain ⟨oa',on',oc',rfl,_⟩:=id hS5.rd
    clear hne h63 hby hB
    go_roundg (f.waits.length - (i+1))
    case measure=>omega
    case rel=>
     refine ⟨i+1,oa',on',oc',rfl,by omega,by go_num,rfl,?_⟩
     rw [← Hrel.out _ Hcn.out]
     exact hS5
  ·obtain rfl:i=f.waits.length:=by omega
   have hic:¬ (f.waits.length:Int)<(f.waits.length:Int):=oQ
   have hbud:=Hf.out.budget
   have d2':=hS1.pick2.cellAt 2 _ rfl
   have hwrW:IntKind.i64.wrap ((f.waits.length:Int) - 1)=(f.waits.length:Int) - 1:=IntWalk.i64_in _ oQ
   clear d0 d2 e0 e1 c1 hS hA hL hi'
   go_wp2_with fail
   clear d2' hwrW hic
   have Hlow:=uQ hk
   go_loopg [11] f.waits.length (fun gg iq wr=>∃ (n:Nat),gg=n∧n≤f.waits.length∧iq = .int .i64 ((n:Int) - 1)∧Past f k n f.waits.length ∧
    Sat w0 wr (osl 3 1 (.slice la ln lc) ((List.range (f.waits.length+1)).map fun j=>Value.int .i64 ((f.at j).length:Nat))::bsl (.slice (some ⟨g,0,none⟩) f.now.length nc) (f.now.set k z)::filPt b (.slice fa f.fast.length fc) (.slice (some ⟨g,0,none⟩) f.now.length nc) (.slice wa f.waits.length wc)::bsl (.slice fa f.fast.length fc) f.fast::osl 149 3 (.slice wa f.waits.length wc) (ws.flatMap chgCells)::chgs ws::F))
   case atStart=>exact ⟨f.waits.length,rfl,Nat.le_refl _,rfl,(fun j c h1 h2=>by omega),hS1⟩
   case round=>
    obtain ⟨n,hgn,hn,rfl,hpast,hS2⟩:=hrel
    have hgn':=hgn.symm
    subst hgn'
    have hkn:k<(f.at f.waits.length).length:=by rw [← Hf.out.now];exact hk
    have hznow:f.now.set k z=xorAt f.now k y:=by
     unfold xorAt
     rw [List.getD_eq_getElem?_getD,List.getElem?_eq_getElem hk,Option.getD_some,Hx0.out,Hz.out]
    have Hznow:=uQ hznow
    clear hznow
    rcases n with _|j
    ·have hkf:k<f.fast.length:=past_lt hpast (Nat.le_refl _) hkn f.waits.length 0 oQ (Nat.zero_le _)
     have Hrot:=uQ (rot_none y hpast)
     have hrd:=Sat.rd (hS2.sel 4 [3] rfl rfl)
     have hcl:=clone_c hS2 hrd (by have:=Hf.out.size 0 (Nat.zero_le _);rw [Fil.at_zero]at this;omega)
     have b0:=hS2.pick2.cellAt 0 _ rfl
     clear hrd hpast hkn hgn hn
     rw [show (((0:Nat):Int) - 1) = -1 from rfl]
     go_wp2_with fail
     refine hcl.mono ?_
     rintro e w1 ⟨v',rfl,hS3,a3,n3,k3,rfl⟩
     have hP:=hS3.sel 4 [3,0,2] rfl rfl
     have fz:=hP.freeAt 0
     have fz1:=hP.cellAt 0 _ rfl
     have hP2:=hP.set 0 (.slice a3 n3 k3)
     have p0:(w1.setCell ⟨b,0,none⟩ (.slice a3 n3 k3)).cell? ⟨b,0,none⟩=some (.slice a3 n3 k3):=hP2.cellAt 0 _ rfl
     obtain ⟨g3,rfl,p1,p2,hP3⟩:=bsl_set hP2.pick1 hkf (f.fast[k]'hkf ^^^ y)
     have hx1:=xor_u8 (f.fast[k]'hkf) y
     have hn3:n3=f.fast.length:=by
      obtain ⟨_,_,_,he,hl,_⟩:=Sat.rd (hP2.sel 2 [1] rfl rfl)
      cases he
      rw [bys_len,Nat.mul_one]at hl;exact hl.symm
     subst hn3
     have hki:(k:Int)<(f.fast.length:Int):=oQ
     have hzf:f.fast.set k (f.fast[k]'hkf ^^^ y)=xorAt f.fast k y:=by
      unfold xorAt
      rw [List.getD_eq_getElem?_getD,List.getElem?_eq_getElem hkf,Option.getD_some]
     rw [hzf]at hP3
     have Hzf:=uQ hzf
     clear hzf hS3 hP hcl b0
     generalize f.fast[k]'hkf=x3 at *
     generalize x3 ^^^ y=z3 at *
     go_wp2
     go_ret
     refine ⟨.bool true,rfl,rfl,?_⟩
     rw [Hrot.out]
     have h6:=hP3.sel 5 [1,0,2,4] rfl rfl
     rw [Hznow.out]at h6
     have h7:Sat w0 _ (FilRaw b { f with now:=xorAt f.now k y,fast:=xorAt f.fast k y } (.slice (some ⟨g3,0,none⟩) f.fast.length k3) (.slice (some ⟨g,0,none⟩) f.now.length nc) (.slice wa f.waits.length wc) ws++F):=h6
     exact FilRep.shut Hws.out h7
    ·have hj:j<f.waits.length:=hn
     obtain ⟨p,hp⟩:∃ p,ws[j]?=some p:=⟨ws[j]'(by have:=congrArg List.length Hws.out;simp at this;omega),List.getElem?_eq_getElem _⟩
     have hpw:f.waits[j]?=some p.1:=by rw [← Hws.out,List.getElem?_map,hp];rfl
     have hO:=hS2.sel 5 [4] rfl rfl
     obtain ⟨gw,rfl⟩:∃ g,wa=some ⟨g,0,none⟩:=by
      rcases (Sat.osl_cases hO) with ⟨he,hx,_⟩|⟨g,n',cap',cs,he,_⟩
      ·have:=(Value.slice.inj he).2.1;omega
      ·exact ⟨g,(Value.slice.inj he).1⟩
     obtain ⟨w0',w1',w2'⟩:=waits_cells hO hp
     obtain ⟨G,hG,hG'⟩:=chgs_put ws j p hp
     rw [hG]at hS2
     have hS2b:=(Sat.star.1 (hS2.sel 6 [5,0,1,2,3,4] rfl rfl)).sel 7 [2,3,4,5,6,0,1] rfl rfl
     obtain ⟨⟨cut,cn,cb⟩,pv⟩:=p
     obtain ⟨ba,bn,bc,hpb,_,_,hbn⟩:=bsl_cap' (hS2b.sel 6 [5] rfl rfl)
     simp only at hpb w0' w1' w2' hpw hbn
     subst hpb
     subst hbn
     obtain ⟨gl,rfl⟩:∃ g,la=some ⟨g,0,none⟩:=by
      rcases (Sat.osl_cases hS2b) with ⟨he,hx,_⟩|⟨g,n',cap',cs,he,_⟩
      ·have:=congrArg List.length hx
       simp at this
      ·exact ⟨g,(Value.slice.inj he).1⟩
     have hln:ln=f.waits.length+1:=by
      obtain ⟨_,_,_,he,hl,_⟩:=hS2b.rd
      cases he
      simpa using hl.symm
     subst hln
     have b2:=hS2b.pick2.cellAt 2 _ rfl
     have hic:(j:Int)<(f.waits.length:Int):=oQ
     have hwj:IntKind.i64.wrap ((j:Int) - 1)=(j:Int) - 1:=IntWalk.i64_in _ oQ
     have hil:(j:Int)<(f.waits.length:Int)+1:=oQ
     have hget:((List.range (f.waits.length+1)).map fun j=>Value.int .i64 ((f.at j).length:Nat))[j]?=some (.int .i64 ((f.at j).length:Nat)):=by
      rw [List.getElem?_map,List.getElem?_range oQ];rfl
     have Hget:=uQ hget
     have Hpw:=uQ hpw
     clear hget hpw hO
     cases cut
     ·have hSA:=hS2b.alloc (.cells #[.bool false,.int .i64 cn,.slice ba cb.length bc] 149)
      have cb0:=hSA.cellAt 0 _ rfl
      have cb2:=hSA.cellAt 2 _ rfl
      have cl:=(osl_set hSA.pick1 j undef).2.1 _ Hget.out
      by_cases hle:(f.at j).length≤k
      ·have Hrot:=uQ (rot_found y hpast Hpw.out rfl hle)
       have hkj:k<(f.at (j+1)).length:=past_lt hpast (Nat.le_refl _) hkn (f.waits.length - (j+1)) (j+1) oQ (Nat.le_refl _)
       rw [f.at_succ j _ Hpw.out]at hkj
       simp only [Chg.on,Bool.false_eq_true,if_false,List.length_append]at hkj
       have hszj:=Hf.out.size (j+1) oQ
       rw [f.at_succ j _ Hpw.out]at hszj
       simp only [Chg.on,Bool.false_eq_true,if_false,List.length_append]at hszj
       obtain ⟨t,ht⟩:∃ t,t=k - (f.at j).length:=⟨_,rfl⟩
       have htl:t<cb.length:=oQ
       have hwt:IntKind.i64.wrap ((k:Int) - ((f.at j).length:Int))=(t:Int):=by rw [IntWalk.i64_in _ oQ];omega
       have hti:(t:Int)<(cb.length:Int):=oQ
       have hle1:((f.at j).length:Int)≤(k:Int):=oQ
       have Ht:=uQ ht
       have hrd:rdsl 1 (.slice ba cb.length bc) (bys cb) (wr.alloc (.cells #[.bool false,.int .i64 cn,.slice ba cb.length bc] 149)):=Sat.rd (hSA.sel 7 [6] rfl rfl)
       have hcl:=clone_c hSA hrd oQ
       have Hkj:=uQ hkj;have Hszj:=uQ hszj
       clear hpast hkn hgn ht hkj hszj hrd
       go_wp2_with fail
       refine hcl.mono ?_
       rintro e w1 ⟨v',rfl,hS3,a3,n3,k3,rfl⟩
       clear hcl hSA cb0 cb2 cl w0' w1' w2' b2
       have cl:=(osl_set hS3.pick2 j undef).2.1 _ Hget.out
       obtain ⟨g3,rfl,p1,p2,hP3⟩:=bsl_set hS3 htl (cb[t]'htl ^^^ y)
       have hx1:=xor_u8 (cb[t]'htl) y
       have hn3:n3=cb.length:=by
        obtain ⟨_,_,_,he,hl,_⟩:=Sat.rd hS3
        cases he
        rw [bys_len,Nat.mul_one]at hl;exact hl.symm
       subst hn3
       have hzf:cb.set t (cb[t]'htl ^^^ y)=xorAt cb t y:=by
        unfold xorAt
        rw [List.getD_eq_getElem?_getD,List.getElem?_eq_getElem htl,Option.getD_some]
       rw [hzf]at hP3
       clear hzf hS3
       generalize cb[t]'htl=x3 at *
       generalize x3 ^^^ y=z3 at *
       have b2:=(hP3.sel 5 [4] rfl rfl).cellAt 2 _ rfl
       have hP4:=hP3.sel 9 [6,0,2,3,4,5,8] rfl rfl
       have o2:=(osl_set hP4 (j * 3+2) undef).2.1 _ (chg_cells ws j _ hp).2.2
       obtain ⟨o1,_,hP5⟩:=osl_set hP4 (j * 3+2) (.slice (some ⟨g3,0,none⟩) cb.length k3)
       rw [chg_set ws j _ (xorAt cb t y) _ hp]at hP5
       go_wp2
       go_ret
       refine ⟨.bool true,rfl,rfl,?_⟩
       rw [Hrot.out,← Ht.out]
       have h6:=Sat.star.2 (hP5.sel 7 [1,6,4,5,3,0] rfl rfl)
       rw [Hznow.out]at h6
       have h7:=h6.sel 5 [1,2,3,4,0] rfl rfl
       refine FilRep.shut (fv:= .slice fa f.fast.length fc) (nv:= .slice (some ⟨g,0,none⟩) f.now.length nc) (wv:= .slice (some ⟨gw,0,none⟩) f.waits.length wc) (ws:=ws.set j (⟨false,cn,xorAt cb t y⟩,.slice (some ⟨g3,0,none⟩) cb.length k3)) (by rw [List.map_set,Hws.out]) ?_
       unfold FilRaw
       rw [hG' (⟨false,cn,xorAt cb t y⟩,.slice (some ⟨g3,0,none⟩) cb.length k3)]
       exact h7
      ·have hpn:Past f k j f.waits.length:=by
        intro i c h1 h2 h3
        rcases Nat.lt_or_ge j i with h4|h4
        ·exact hpast i c h4 h2 h3
        ·obtain rfl:i=j:=by omega
         exact .inr oQ
       have hle':¬ ((f.at j).length:Int)≤(k:Int):=oQ
       clear hpast
       go_wp2_with fail
       go_roundg j
       case measure=>omega
       case rel=>
        refine ⟨j,rfl,by omega,rfl,hpn,?_⟩
        rw [hG]
        have:=hSA.sel 8 [6,7,1,2,3,4,5] rfl rfl
        exact (Sat.star.2 this).sel 6 [1,2,3,4,5,0] rfl rfl
     ·have hSA:=hS2b.alloc (.cells #[.bool true,.int .i64 cn,.slice ba cb.length bc] 149)
      have cb0:=hSA.cellAt 0 _ rfl
      have hpn:Past f k j f.waits.length:=by
       intro i c h1 h2 h3
       rcases Nat.lt_or_ge j i with h4|h4
       ·exact hpast i c h4 h2 h3
       ·obtain rfl:i=j:=by omega
        rw [Hpw.out]at h3;cases h3
        exact .inl rfl
      clear hpast
      go_wp2_with fail
      go_roundg j
      case measure=>omega
      case rel=>
       refine ⟨j,rfl,by omega,rfl,hpn,?_⟩
       rw [hG]
       have:=hSA.sel 8 [6,7,1,2,3,4,5] rfl rfl
       exact (Sat.star.2 this).sel 6 [1,2,3,4,5,0] rfl rfl
end
section
variable {w0 w W:World}{F:List HProp}{m fb nb b r:Nat}{M:Med}{bs:List Nat}{wv v bv dv:Value}{s:ByteArray}{fs:List Fil}{K:Nat}
end
section
variable {w0 w:World}{F:List HProp}{m fb nb b r:Nat}{M:Med}{bs:List Nat}{wv v bv dv:Value}{s:ByteArray}{fs:List Fil}{K:Nat}{f:Fil}
theorem rotF_c (h:Sat w0 w (FilRep b f::F)) (hf:f.Ok K) (hK:K≤1099511627776) (at_:Int) (y:UInt8) :
  Calls Tryz.prog 53 #[ptr b,.int .i64 at_,.int .u8 y.toNat] w
   (Rtn fun v w'=>v = .bool (decide (¬ (at_<0∨(f.now.length:Int)≤at_)))∧Sat w0 w' (FilRep b (if at_<0∨(f.now.length:Int)≤at_ then f else f.rot at_.toNat y)::F)):=by
 by_cases ho:at_<0∨(f.now.length:Int)≤at_
 ·have:=rot_out h hf at_ y ho
  simp only [ho,not_true,decide_false,if_true]
  exact this
 ·obtain ⟨k,rfl⟩:=Int.eq_ofNat_of_zero_le (show 0≤at_ by omega)
  have:=rot_in h hf hK k y oQ
  simp only [ho,not_false_iff,decide_true,if_false]
  exact this
theorem rot_c (hM:M.Ok K) (hK:K≤1099511627776) (h:Sat w0 w (MedRep m M::F)) (s:ByteArray) (at_:Int) (y:UInt8) :
  Calls Tryz.prog 26 #[ptr m,.string s,.int .i64 at_,.int .u8 y.toNat] w (Rtn fun v w'=>v = .bool (M.rot s at_ y).2∧Sat w0 w' (MedRep m (M.rot s at_ y).1::F)):=by
 obtain ⟨bs,fb,nb,wv,hl,hR⟩:=MedRep.open h
 have c2:=hR.cellAt 2 _ rfl
 have hlk:=look_names (s:=s) (hR.pick1)
 cases hn:nget M.now s with
 |none=>
  rw [fptr,hn]at hlk
  simp only at hlk
  have Hfin:Hid (M.rot s at_ y=(M,false)):=by show _=_;simp [Med.rot,hn]
  clear hn
  go_enter Tryz.func26,Tryz.ntmps26
  go_wp2
  go_ret
  exact ⟨.bool false,rfl,by rw [Hfin.out],by rw [Hfin.out];exact h⟩
 |some i=>
  rw [fptr,hn]at hlk
  simp only at hlk
  have hid:i<M.files.length:=hM.nowOk.ids (s,i) (nget_mem hn)
  obtain ⟨G,h1,h2⟩:=raw_file hl hid hR
  obtain ⟨fv,nv,wv',ws,hws,h3⟩:=FilRep.open h1
  have hok:=hM.file i
  have hrd:=Sat.rd (h3.sel 3 [2] rfl rfl)
  have hcl:=clone_c h3 hrd (by have:=hok.now_len;omega)
  have fc0:=h3.cellAt 1 _ rfl
  have Hfin:Hid (M.rot s at_ y=if at_<0∨((M.file i).now.length:Int)≤at_ then (M,false) else (M.setFile i ((M.file i).rot at_.toNat y),true)):=by
   show _=_
   simp only [Med.rot,hn]
  have H1:=uQ h1
  have H2:=uQ h2;have Hok:=uQ hok;have Hws:=uQ hws
  clear hn h1 h2 hok hws hrd
  generalize hq:bs.getD i 0=q at *
  go_enter Tryz.func26,Tryz.ntmps26
  go_wp2_with fail
  refine hcl.mono ?_
  rintro e w1 ⟨v',rfl,hS3,a3,n3,k3,rfl⟩
  have hP:=hS3.pick1
  have f1:=hP.freeAt 1
  have c1:=hP.cellAt 1 _ rfl
  have hP2:=(hP.set 1 (.slice a3 n3 k3)).sel 4 [0,2,1] rfl rfl
  have hF:Sat w0 _ (FilRep q (M.file i)::_):=FilRep.shut (fv:=fv) (nv:= .slice a3 n3 k3) (wv:=wv') (ws:=ws) Hws.out hP2
  have hrot:=rotF_c hF Hok.out hK at_ y
  generalize hB:decide (¬ (at_<0∨((M.file i).now.length:Int)≤at_))=B at hrot
  have HB:=uQ hB;clear hB
  clear hcl fc0 hP hP2 hS3
  go_wp2_with fail
  refine hrot.mono ?_
  rintro e w2 ⟨v,rfl,rfl,hS4⟩
  clear hrot f1 c1
  go_wp2
  go_ret
  refine ⟨.bool B,rfl,?_,?_⟩
  ·rw [Hfin.out,← HB.out]
   by_cases ho:at_<0∨((M.file i).now.length:Int)≤at_
   ·rw [if_pos ho,decide_eq_false (fun hh=>hh ho)]
   ·rw [if_neg ho,decide_eq_true ho]
  ·rw [Hfin.out]
   split
   ·rename_i ho
    rw [if_pos ho]at hS4
    have:=H2.out w2 _ hS4
    have e:M.setFile i (M.file i)=M:=by
     unfold Med.setFile Med.file
     rw [List.getD_eq_getElem?_getD,List.getElem?_eq_getElem hid]
     simp
    rw [e]at this;exact this
   ·rename_i ho
    rw [if_neg ho]at hS4
    exact H2.out w2 _ hS4
end
structure RotFac (B K:Nat) (L:Seg.Log) (M:Med) (mp:Frm.Bs→Option Seg.Plc) (o:Frm.Bs→Option Frm.Bs):Prop where
 b:B≤200
 log:L.Ok
 med:M.Ok K
 get:∀ k data,o k=some data→∃ pl:Seg.Plc,mp k=some pl∧(-9223372036854775808≤pl.at_∧pl.at_≤9223372036854775807)∧(-9223372036854775808≤pl.size∧pl.size≤9223372036854775807)∧data.length≤16384∧(L.read M pl=(⟨0,k,data⟩,0)∨(L.read M pl).2≠0)
def RRot (w0:World) (r m:Nat) (o:Frm.Bs→Option Frm.Bs) (F:List HProp) (w:World):Prop:=
 ∃ (seg:Int) (p ps pn B K:Nat) (d:Bool) (mp:Frm.Bs→Option Seg.Plc) (L:Seg.Log) (M:Med),RotFac B K L M mp o∧Sat w0 w (rpPt r m seg p ps pn d::TabML pn mp B::LogRep p m L::MedRep m M::F)
section
variable {w0 w:World}{F R:List HProp}{r m K r0 E n:Nat}{seg:Int}{o oc:Frm.Bs→Option Frm.Bs}{d:Bool}{k data:Frm.Bs}
theorem RRot.push (h:RRot w0 r m o F w):∃ G:List HProp,Sat w0 w G∧(∀ w',Sat w0 w' G→RRot w0 r m o F w')∧(∀ w',Sat w0 w' G→Sat w0 w' F):=by
 obtain ⟨seg,p,ps,pn,B,K,d,mp,L,M,hf,hS⟩:=h
 exact ⟨_,hS,fun w' hw=>⟨seg,p,ps,pn,B,K,d,mp,L,M,hf,hw⟩,fun w' hw=>hw.sb⟩
theorem RRot.drop {A:HProp} (h:RRot w0 r m o (A::F) w):RRot w0 r m o F w:=by
 obtain ⟨seg,p,ps,pn,B,K,d,mp,L,M,hf,hS⟩:=h
 exact ⟨seg,p,ps,pn,B,K,d,mp,L,M,hf,hS.sb⟩
theorem RSt.rot (hn:n≤200) (h:RSt w0 r m seg K r0 E n o oc d F w):∃ (M:Med) (G:List HProp),M.Ok K∧Sat w0 w (MedRep m M::G)∧∀ (s:ByteArray) (i:Int) (y:UInt8) (w':World),Sat w0 w' (MedRep m (M.rot s i y).1::G)→RRot w0 r m o F w':=by
 obtain ⟨ps,p,pn,pi,B,B2,B0,uv,tv,N,us,L,M,C,C0,hf,hS⟩:=h
 have hc:=hf.rp.hg.keeps.calm
 refine ⟨M,rpPt r m seg p ps pn d::TabML pn (Rep.nowOf (Rep.rowsC 0 C)) B::LogRep p m L::F,hc.ok,hS.sb,fun s i y w' hw=>?_⟩
 refine ⟨seg,p,ps,pn,B,K+1,d,Rep.nowOf (Rep.rowsC 0 C),L,(M.rot s i y).1,⟨Nat.le_trans hf.b1 hn,hf.rp.hg.keeps.log,hc.ok.rot s i y,fun k data hk=>?_⟩,hw.sb⟩
 rw [hf.now]at hk
 have hs:=now_some (C:=C) k
 rw [hk,Option.isSome_some]at hs
 obtain ⟨pl,hpl⟩:=Option.isSome_iff_exists.1 hs
 obtain ⟨data',g1,g2,g3,g4,g5,g6⟩:=hf.rp.got hpl
 rw [hk]at g2
 cases g2
 exact ⟨pl,hpl,g4,g5,g3,Seg.rot_read hc.ok hc.quiet hc g1 s i y⟩
theorem rget_c (hk:k.length=32) (ho:o k=some data) (hH:Ro w0 F Half) (h:RRot w0 r m o F w) :
  Calls Tryz.prog 28 #[ptr r,.agg (bys k).toArray] w (Rtn fun v w'=>(∃ (a:Option Addr) (n c:Nat),v = .tuple #[.slice a n c,errno 0]∧RRot w0 r m o (bsl (.slice a n c) data::F) w')∨(∃ e:Int,e≠0∧v = .tuple #[.slice none 0 0,errno e]∧RRot w0 r m o F w')):=by
 obtain ⟨seg,p,ps,pn,B,K,d,mp,L,M,hf,hS⟩:=h
 obtain ⟨pl,h1,h2,h3,h4,h5|h5⟩:=hf.get k data ho
 ·refine (rpgetY_c (by have:=hf.b;omega) hk pl h1 hH hf.log hf.med h2 h3 data oQ h5 hS).mono ?_
  rintro e w' ⟨v,rfl,bv,a,n,c,rfl,rfl,hw⟩
  exact ⟨_,rfl,.inl ⟨a,n,c,rfl,seg,p,ps,pn,B,K,d,mp,L,M,hf,hw.sb⟩⟩
 ·refine (rpgetE_c (by have:=hf.b;omega) hk pl h1 hH hf.log hf.med h2 h3 _ h5 rfl hS).mono ?_
  rintro e w' ⟨v,rfl,rfl,hw⟩
  exact ⟨_,rfl,.inr ⟨_,h5,rfl,seg,p,ps,pn,B,K,d,mp,L,M,hf,hw⟩⟩
end
section
variable {w0 w:World}{F:List HProp}{lv:Value}
set_option maxRecDepth 20000 in
theorem repo_spoilt_c (z:Int) (ds:List QD) (hr:Ro w0 F (rdsl 37 lv (qdsL ds))) (he:∀ d∈ds,QDRo w0 F d) (nm at_:Int) (y:UInt8) (hH:Ro w0 F Half) (h:Sat w0 w F) :
  Calls Tryz.prog 6 #[.int .i64 z,lv,.int .i64 nm,.int .i64 at_,.int .u8 y.toNat] w (Rtn fun v w'=>v = .bool true∧Sat w0 w' F):=by
 have Hr:=uQ hr;have He:=uQ he;have HH:=uQ hH
 clear hr he hH
 go_enter Tryz.func6,Tryz.ntmps6
 go_wp2_with fail
 refine (fewQ_c ds 30 dCz (Ro.os Hr.out) (fun d hd=>(He.out d hd).of_sub fun w hw=>hw.sb) h).mono ?_
 rintro ee w2 ⟨v,rfl,es,ov,rfl,hes,_,h2⟩
 obtain ⟨q1,q2⟩:=fewQ_ok hes (fun d hd=>(He.out d hd).key)
 have Hel:=uQ q1;have Hek:=uQ q2
 obtain ⟨oa,oc',rfl⟩:=qds_len (fun d hd=>(Hek.out d hd).1) h2
 clear h hes q1 q2
 have hnew:=new_yes 1048576 dCz h2
 have hlim:=within_mem z 128 3000 dCz
 have hwi:=within_c z 128 3000
 generalize within z 128 3000=lim at *
 clear h2
 go_wp2_with fail
 refine hnew.mono ?_
 rintro ee w4 ⟨v,rfl,m,rfl,h4⟩
 clear hnew
 go_wp2_with fail
 refine (hwi _).mono ?_
 rintro ee w5 ⟨v,rfl,rfl,rfl⟩
 clear hwi
 have hop:=sopen_c (K:=0) hlim.1 oQ (Seg.Calm.new 0 1048576 dCz) (Nat.zero_le _) rfl (Ro.os HH.out) h4
 clear h4 hlim
 go_wp2_with fail
 refine hop.mono ?_
 rintro ee w6 ⟨v,rfl,r,rfl,h6⟩
 clear hop
 obtain ⟨G,hS,_,hpush,_⟩:=h6.push
 clear h6
 go_wp2_with (with_reducible apply at_alloc)
 refine ⟨wl_alloc zFlt hS rfl ?_⟩
 intro b14 w7 h7
 go_wp2_with (with_reducible apply at_store)
 refine ⟨wl_storeA (fltA Rep.Flt.zero) h7 rFz rFz rFz upd0 kRz rFz ?_⟩
 intro w8 h8
 have h9:=hpush _ _ h8
 clear hS hpush h7 h8
 go_wp2_with fail
 go_loopg [16] es.length (fun g iq wr=>∃ (i:Nat) (o oc:Frm.Bs→Option Frm.Bs) (d:Bool),g=es.length - i∧i≤es.length∧iq = .int .i64 i ∧
  RSt w0 r m lim (i * 605) 1048576 (2 * i) i o oc d (pt b14 (.cells (fltA Rep.Flt.zero) 33 (0,0))::osl 41 37 (.slice oa es.length oc') (qdsL es)::dataQ es::F) wr)
 case atStart=>exact ⟨0,_,_,_,rfl,Nat.zero_le _,rfl,h9⟩
 case round=>
  obtain ⟨i,o,oc,d,rfl,hi,rfl,hS⟩:=hrel
  clear h9
  by_cases hlt:i<es.length
  ·have c1:(i:Int)<(es.length:Int):=by omega
   have hwi:IntKind.i64.wrap ((i:Int)+1)=(i:Int)+1:=IntWalk.i64_in _ (by have:=Hel.out;omega)
   obtain ⟨x,hx⟩:∃ x,es[i]?=some x:=⟨_,List.getElem?_eq_getElem hlt⟩
   have Hlt:=uQ hlt
   have hxk:=Hek.out x (List.mem_of_getElem? hx)
   have Hxk:=uQ hxk
   obtain ⟨G,hG,hback,_,hdrop⟩:=hS.push
   obtain ⟨bk,off,c,hov,hcells⟩:=qds_at (fun d hd=>(Hek.out d hd).1) hx ((hdrop _ hG).pick pick1)
   cases hov
   have hxd:Ro w0 (pt b14 (.cells (fltA Rep.Flt.zero) 33 (0,0))::osl 41 37 (.slice (some ⟨bk,off,none⟩) es.length oc') (qdsL es)::dataQ es::F) (rdsl 1 x.dv (bys x.c.data)):=Ro.of_pick (dataQ_ro hx) pick2
   have Hxd:=uQ hxd
   have e0:wr.cell? ⟨bk,off+i * 37,none⟩=some (.int .i64 x.c.kind):=hcells 0 _ rfl
   have Hcells:=uQ hcells
   clear hcells hxd hlt hi hxk hx hG hback hdrop
   by_cases hk0:0≤x.c.kind
   ·by_cases hk3:x.c.kind<3
    ·go_wp2_with ((with_reducible refine at_load ⟨?_⟩);refine wl_loadW (b:=bk) (o:=off+i * 37) (qdL x) rFz Hcells.out Tryz.underlying41 rfl (by rw [qdL_len _ Hxk.out.1];exact infoQo) ?_)
     refine (does012_c (n:=i) (E:=2 * i) (K:=i * 605) x Hxk.out.1 ⟨hk0,hk3⟩ Hxd.out Hxk.out.2 (by have:=Hel.out;have:=Hlt.out;omega) (by have:=Hel.out;have:=Hlt.out;omega) (by have:=Hel.out;have:=Hlt.out;omega) (Ro.os HH.out) hS).mono ?_
     rintro ee w10 ⟨v,rfl,e,o2,oc2,d2,rfl,h10⟩
     clear hS e0
     go_wp2_with fail
     go_roundg (es.length - (i+1))
     case measure=>have:=Hlt.out;omega
     case rel=>exact ⟨i+1,o2,oc2,d2,rfl,Nat.succ_le_of_lt Hlt.out,by first|rfl|go_num,by rw [show (i+1) * 605=i * 605+605 by omega,show 2 * (i+1)=2 * i+2 by omega];exact h10⟩
    ·go_wp2_with fail
     go_roundg (es.length - (i+1))
     case measure=>have:=Hlt.out;omega
     case rel=>exact ⟨i+1,o,oc,d,rfl,Nat.succ_le_of_lt Hlt.out,by first|rfl|go_num,hS.mono oQ oQ oQ⟩
   ·go_wp2_with fail
    go_roundg (es.length - (i+1))
    case measure=>have:=Hlt.out;omega
    case rel=>exact ⟨i+1,o,oc,d,rfl,Nat.succ_le_of_lt Hlt.out,by first|rfl|go_num,hS.mono oQ oQ oQ⟩
  ·obtain rfl:i=es.length:=by omega
   have c1:¬ (es.length:Int)<(es.length:Int):=oQ
   have h30:RSt w0 r m lim 18150 1048576 60 30 o oc d (pt b14 (.cells (fltA Rep.Flt.zero) 33 (0,0))::osl 41 37 (.slice oa es.length oc') (qdsL es)::dataQ es::F) wr:=hS.mono (by have:=Hel.out;omega) (by have:=Hel.out;omega) Hel.out
   have hmap:=map17_c dCz (Ro.os HH.out) h30
   clear hS h30 hlt hi
   go_wp2_with fail
   refine hmap.mono ?_
   rintro ee w11 ⟨v,rfl,mv,qs,rfl,⟨hq1,hq2,hq3,hq4⟩,h11⟩
   clear hmap
   have Hq1:=uQ hq1;have Hq2:=uQ hq2;have Hq3:=uQ hq3;have Hq4:=uQ hq4
   have Hql:=uQ (show ∀ q∈qs,(pvL q).length=33 from fun q hq=>pvL_len q (hq2 q hq).1)
   have hlen:∃ a c,mv = .slice a qs.length c:=by
    obtain ⟨G,hG,_,_,hdrop⟩:=h11.push
    exact osl_rows Hql.out (Sat.rd (hdrop _ hG)) dCz
   obtain ⟨ma,mc,rfl⟩:=hlen
   obtain ⟨M,G,u1,u2,u3⟩:=h11.rot dCz
   have hrot:=fun w (h:Sat w0 w (MedRep m M::G))=>rot_c u1 dCz h (Seg.name nm) at_ y
   have Hback:=uQ (u3 (Seg.name nm) at_ y)
   have hnm:=rname_c nm
   generalize Seg.name nm=sn at *
   generalize (M.rot sn at_ y).1=M2 at *
   generalize (M.rot sn at_ y).2=rb at *
   clear hq1 hq2 hq3 hq4 h11 u1 u3
   go_wp2_with fail
   refine (hnm _).mono ?_
   rintro ee w12 ⟨v,rfl,rfl,rfl⟩
   clear hnm
   go_wp2_with fail
   refine (hrot _ u2).mono ?_
   rintro ee w13 ⟨v,rfl,rfl,h13⟩
   have h14:=Hback.out _ h13
   clear hrot u2 h13 Hback
   go_wp2_with fail
   go_loopg [19] qs.length (fun g iq wr=>∃ (i:Nat),g=qs.length - i∧i≤qs.length∧iq = .int .i64 i ∧
    RRot w0 r m o (osl 70 33 (.slice ma qs.length mc) (qs.flatMap pvL)::dataV qs::pt b14 (.cells (fltA Rep.Flt.zero) 33 (0,0))::osl 41 37 (.slice oa es.length oc') (qdsL es)::dataQ es::F) wr)
   case atStart=>exact ⟨0,rfl,Nat.zero_le _,rfl,h14⟩
   case round=>
    obtain ⟨i,rfl,hi,rfl,hS⟩:=hrel
    clear h14
    by_cases hlt:i<qs.length
    ·have c1:(i:Int)<(qs.length:Int):=by omega
     have hwi:IntKind.i64.wrap ((i:Int)+1)=(i:Int)+1:=IntWalk.i64_in _ (by have:=Hq3.out;omega)
     obtain ⟨x,hx⟩:∃ x,qs[i]?=some x:=⟨_,List.getElem?_eq_getElem hlt⟩
     have hxm:=List.mem_of_getElem? hx
     have Hlt:=uQ hlt;have Hx:=uQ hx
     have ho:=(Hq1.out.mem x.1 x.2.1).1 (List.mem_map.2 ⟨x,hxm,rfl⟩)
     have Hxk:=uQ (Hq2.out x hxm).1
     have Hxl:=uQ (Hq4.out x hxm)
     have Hxd:=uQ (show Ro w0 (osl 70 33 (.slice ma qs.length mc) (qs.flatMap pvL)::dataV qs::pt b14 (.cells (fltA Rep.Flt.zero) 33 (0,0))::osl 41 37 (.slice oa es.length oc') (qdsL es)::dataQ es::F) (rdsl 1 x.2.2 (bys x.2.1)) from Ro.of_pick (dataV_ro hxm) pick1)
     obtain ⟨G,hG,_,hdrop⟩:=hS.push
     obtain ⟨bk,off,c',hsv,hcell⟩:=osl_row (f:=pvL) (k:=33) Hql.out (Sat.rd (hdrop _ hG)) hx dCz
     cases hsv
     have hkc:∀ j v,(bys x.1)[j]?=some v→wr.cell? ⟨bk,off+i * 33+j,none⟩=some v:=fun j v hj=>hcell j v (pvL_key x hj)
     have hgt:=rget_c Hxk.out ho (Ro.os HH.out) hS
     clear hx hxm hlt hi ho hG hdrop hcell hS
     go_wp2_with ((with_reducible refine at_load ⟨?_⟩);refine wl_loadW (b:=bk) (o:=off+i * 33) (bys x.1) rFz hkc Tryz.underlying31 rfl (by rw [bys_len,Hxk.out];kernel_rfl) ?_)
     refine hgt.mono ?_
     clear hkc hgt
     rintro ee w15 ⟨v,rfl,⟨va,vn,vc,rfl,h15⟩|⟨e,hne,rfl,h15⟩⟩
     ·obtain ⟨G,hG,hback,hdrop⟩:=h15.push
      obtain ⟨bk2,off2,c2,e2,hcell⟩:=osl_row (f:=pvL) (k:=33) Hql.out (Sat.rd (hdrop _ hG).drop) Hx.out dCz
      cases e2
      have e32:w15.cell? ⟨bk,off+i * 33+32,none⟩=some x.2.2:=hcell 32 _ (pvL_data x Hxk.out)
      have hsm:=same_c (av:= .slice va vn vc) (bv:=x.2.2) x.2.1 (Ro.of_imp (fun w hw=>Sat.rd hw) hdrop) (Ro.of_imp Hxd.out fun w hw=>(hdrop w hw).drop) hG (Nat.le_trans Hxl.out dCz)
      have Hback:=uQ hback
      obtain ⟨xa,xn,xc,hxv⟩:=(Hq2.out x (List.mem_of_getElem? Hx.out)).2
      rw [hxv]at e32 hsm
      clear h15 hG hdrop hcell hback
      go_wp2_with fail
      refine hsm.mono ?_
      rintro ee w16 ⟨v,rfl,rfl,h16⟩
      have h17:=(Hback.out _ h16).drop
      clear hsm h16 e32 Hback
      go_wp2_with fail
      go_roundg (qs.length - (i+1))
      case measure=>have:=Hlt.out;omega
      case rel=>exact ⟨i+1,rfl,Nat.succ_le_of_lt Hlt.out,by first|rfl|go_num,h17⟩
     ·have c3:(e==0)=false:=by rw [beq_eq_false_iff_ne];exact hne
      have c4:¬ e=0:=hne
      have c5:(e != 0)=true:=by rw [bne_iff_ne];exact hne
      clear hne
      go_wp2_with fail
      go_roundg (qs.length - (i+1))
      case measure=>have:=Hlt.out;omega
      case rel=>exact ⟨i+1,rfl,Nat.succ_le_of_lt Hlt.out,by first|rfl|go_num,h15⟩
    ·obtain rfl:i=qs.length:=by omega
     have c1:¬ (qs.length:Int)<(qs.length:Int):=oQ
     obtain ⟨G,hG,_,hdrop⟩:=hS.push
     have h23:Sat w0 wr F:=(hdrop _ hG).sb
     clear hS hG hdrop hlt hi
     go_wp2_with fail
     refine (lives17_c HH.out h23).mono ?_
     rintro ee w24 ⟨v,rfl,rfl,h24⟩
     go_wp2_with fail
     go_ret
     exact ⟨_,rfl,rfl,h24⟩
end
end Go.Proofs.YtjbhhbnopnmcnaaGreatDoor
