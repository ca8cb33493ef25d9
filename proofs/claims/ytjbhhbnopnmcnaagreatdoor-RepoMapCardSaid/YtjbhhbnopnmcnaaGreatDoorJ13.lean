import Derived.Test.YtjbhhbnopnmcnaaGreatDoorJ12
set_option linter.unusedVariables false
set_option maxHeartbeats 128000000
namespace Go.Tab
open Go.Frm (Bs)
section
variable {α V:Type}{m:Bs→Option V}{k:Bs}{v:V}
theorem del_lists {l:List (Bs×V)} (h:Lists m l) (b:V):Lists (del m k) (setAux k b l true):=by
 rw [setAux_done]
 refine ⟨h.rise.sublist List.filter_sublist,fun k' v'=>?_⟩
 rw [List.mem_filter,h.mem]
 unfold del
 constructor
 ·rintro ⟨e,f⟩
  rw [if_neg (by simpa using f)];exact e
 ·intro e
  split at e
  ·cases e
  ·rename_i hk
   exact ⟨e,by simpa using hk⟩
end
end Go.Tab
namespace Go.Seg
open Go.Med
open Go.Frm (Bs Ent encs GoodE)
section
variable {K r:Nat}{L:Log}{M:Med}
end
end Go.Seg
namespace Go.Rep
open Go.Frm (Bs Ent GoodE)
open Go.Seg (Plc)
open Go.Tab
end Go.Rep
namespace Go.Seg
open Go.Med
open Go.Frm (Bs Ent encs GoodE)
open Go.Rep
section
variable {K r E B n:Nat}{L:Log}{M:Med}{C:List (List Ent)}{k:Bs}{pl:Plc}
end
end Go.Seg
namespace Go.Proofs.YtjbhhbnopnmcnaaGreatDoor
open Go Go.Sl Go.Med Go.MapKept Go.RowKit
section
variable {w0 w:World}{F:List HProp}{r m K r0 E n:Nat}{seg:Int}{o oc:Frm.Bs→Option Frm.Bs}{d:Bool}
set_option maxRecDepth 20000 in
theorem does3_c (x:QD) (hkey:x.c.key.length=32) (hkind:x.c.kind≠0∧x.c.kind≠1∧x.c.kind≠2) (hn:n≤199) (hE:E≤200) (hK:K≤1048576) (hH:Ro w0 F Half) (h:RSt w0 r m seg K r0 E n o oc d F w) :
  Calls Tryz.prog 11 #[ptr r,.agg (qdA x)] w (Rtn fun v w'=>v=errno 0∧RSt w0 r m seg (K+200) r0 E n oc oc false F w'):=by
 obtain ⟨LL,hS,hpush,hdrop⟩:=h.sat
 have hF:=hdrop _ hS
 have Hkey:=uQ hkey;have Hp:=uQ hpush;have HH:=uQ hH;have Hn:=uQ hn;have HE:=uQ hE;have HK:=uQ hK
 clear h hpush hdrop hkey hH hn hE hK hF
 go_enter Tryz.func11,Tryz.ntmps11
 go_wp2_with (with_reducible apply at_box)
 refine ⟨wl_box hS rFz rFz ?_⟩
 intro b3 w3 h3
 have h4:=Hp.out _ _ h3
 have e0:w3.cell? ⟨b3,0,none⟩=some (.int .i64 x.c.kind):=h3.cellP pick0 0 (by unfold qdA;rw [List.getElem?_toArray];exact qdL_kind x)
 have fk:w3.rangeAt b3 1 (bys x.c.key):=fun j z hj=>h3.cellP pick0 (1+j) (by unfold qdA;rw [List.getElem?_toArray];exact qdL_key x hj)
 have e33:w3.cell? ⟨b3,33,none⟩=some x.dv:=h3.cellP pick0 33 (by unfold qdA;rw [List.getElem?_toArray];exact qdL_tail x Hkey.out 0)
 clear hS h3
 obtain ⟨k0,k1,k2⟩:=hkind
 have c0:(x.c.kind==0)=false:=by rw [beq_eq_false_iff_ne];exact k0
 have c1:(x.c.kind==1)=false:=by rw [beq_eq_false_iff_ne];exact k1
 have c2:(x.c.kind==2)=false:=by rw [beq_eq_false_iff_ne];exact k2
 clear k0 k1 k2
 go_wp2_with fail
 refine (srol_c (by have:=Hn.out;omega) HK.out h4).mono ?_
 rintro ee w5 ⟨v,rfl,rfl,h5⟩
 go_wp2_with fail
 go_ret
 exact ⟨_,rfl,rfl,h5.drop⟩
end
structure MapIn (w0:World) (G:List HProp) (v:Value) (ns:List PV):Prop where
 rd:Ro w0 G (rdsl 33 v (ns.flatMap pvL))
 sh:∀ q∈ns,q.1.length=32∧∃ a n c,q.2.2 = .slice a n c
 dt:∀ q∈ns,Ro w0 G (rdsl 1 q.2.2 (bys q.2.1))
section
variable {w0:World}{F G G':List HProp}{v nv:Value}{ns us:List PV}{k b:Frm.Bs}
theorem MapIn.nil:MapIn w0 G (.slice none 0 0) []:=⟨fun w hw=>rdsl_nil 33 0 w,(fun q hq=>by cases hq),(fun q hq=>by cases hq)⟩
theorem MapIn.imp (h:MapIn w0 G v ns) (hs:∀ w,Sat w0 w G'→Sat w0 w G):MapIn w0 G' v ns:=⟨Ro.of_imp h.rd hs,h.sh,fun q hq=>Ro.of_imp (h.dt q hq) hs⟩
theorem MapIn.set {ba:Option Addr}{bn bc:Nat} (h:MapIn w0 G nv ns) (hk:k.length=32) (hd:Ro w0 G (rdsl 1 (.slice ba bn bc) (bys b))) (hq:∀ q∈us,q∈ns∨q=(k,b,Value.slice ba bn bc)):MapIn w0 (osl 70 33 v (us.flatMap pvL)::G) v us:=by
 refine ⟨fun w hw=>Sat.rd hw,fun q hm=>?_,fun q hm=>?_⟩
 ·rcases hq q hm with e|rfl
  ·exact h.sh q e
  ·exact ⟨hk,_,_,_,rfl⟩
 ·rcases hq q hm with e|rfl
  ·exact Ro.of_imp (h.dt q e) fun w hw=>hw.drop
  ·exact Ro.of_imp hd fun w hw=>hw.drop
structure MapFac (w0:World) (G F:List HProp) (o oc:Frm.Bs→Option Frm.Bs) (nv wv:Value) (ns ws:List PV):Prop where
 sub:∀ w,Sat w0 w G→Sat w0 w F
 now:MapIn w0 G nv ns
 was:MapIn w0 G wv ws
 lo:Tab.Lists o (ns.map pvK)
 lc:Tab.Lists oc (ws.map pvK)
 nl:ns.length≤200
 wl:ws.length≤200
theorem lists_none:Tab.Lists (fun _=>none:Frm.Bs→Option Frm.Bs) (([]:List PV).map pvK):=⟨List.Pairwise.nil,fun k v=>⟨(fun h=>by cases h),(fun h=>by cases h)⟩⟩
end
section
variable {w0 w:World}{F:List HProp}{lv:Value}
set_option maxRecDepth 20000 in
theorem repo_map_c (room z:Int) (ds:List QD) (hr:Ro w0 F (rdsl 37 lv (qdsL ds))) (he:∀ d∈ds,QDRo w0 F d) (hH:Ro w0 F Half) (h:Sat w0 w F) :
  Calls Tryz.prog 3 #[.int .i64 room,.int .i64 z,lv] w (Rtn fun v w'=>v = .bool true∧Sat w0 w' F):=by
 have Hr:=uQ hr;have He:=uQ he;have HH:=uQ hH
 clear hr he hH
 go_enter Tryz.func3,Tryz.ntmps3
 go_wp2_with fail
 refine (fewQ_c ds 40 dCz (Ro.os Hr.out) (fun d hd=>(He.out d hd).of_sub fun w hw=>hw.sb) h).mono ?_
 rintro ee w2 ⟨v,rfl,es,ov,rfl,hes,_,h2⟩
 obtain ⟨q1,q2⟩:=fewQ_ok hes (fun d hd=>(He.out d hd).key)
 have Hel:=uQ q1;have Hek:=uQ q2
 obtain ⟨oa,oc',rfl⟩:=qds_len (fun d hd=>(Hek.out d hd).1) h2
 clear h hes q1 q2
 have hro:=within_mem room 0 1048576 dCz
 have hwr:=within_c room 0 1048576
 obtain ⟨rn,hrn⟩:=Int.eq_ofNat_of_zero_le hro.1
 rw [hrn]at hwr hro
 try simp only [Int.ofNat_eq_natCast]at hwr hro
 have hrl:rn≤1048576:=oQ
 have hnew:=new_yes rn oQ h2
 have hlim:=within_mem z 128 3000 dCz
 have hwi:=within_c z 128 3000
 generalize within z 128 3000=lim at *
 clear h2 hrn hro
 go_wp2_with fail
 refine (hwr _).mono ?_
 rintro ee w3 ⟨v,rfl,rfl,rfl⟩
 clear hwr
 go_wp2_with fail
 refine hnew.mono ?_
 rintro ee w4 ⟨v,rfl,m,rfl,h4⟩
 clear hnew
 go_wp2_with fail
 refine (hwi _).mono ?_
 rintro ee w5 ⟨v,rfl,rfl,rfl⟩
 clear hwi
 have hop:=sopen_c (K:=0) hlim.1 oQ (Seg.Calm.new 0 rn oQ) (Nat.zero_le _) rfl (Ro.os HH.out) h4
 clear h4 hlim hrl
 go_wp2_with fail
 refine hop.mono ?_
 rintro ee w6 ⟨v,rfl,r,rfl,h6⟩
 clear hop
 obtain ⟨G,hS,_,hpush,_⟩:=h6.push
 clear h6
 go_wp2_with (with_reducible apply at_alloc)
 refine ⟨wl_alloc zFlt hS rfl ?_⟩
 intro b10 w7 h7
 go_wp2_with (with_reducible apply at_store)
 refine ⟨wl_storeA (fltA Rep.Flt.zero) h7 rFz rFz rFz upd0 kRz rFz ?_⟩
 intro w8 h8
 have h9:=hpush _ _ h8
 clear hS hpush h7 h8
 go_wp2_with fail
 go_loopg [12,13,14] es.length (fun g nv wv iq wr=>∃ (i:Nat) (o oc:Frm.Bs→Option Frm.Bs) (d:Bool) (G:List HProp) (ns ws:List PV),g=es.length - i∧i≤es.length∧iq = .int .i64 i ∧
  MapFac w0 G (pt b10 (.cells (fltA Rep.Flt.zero) 33 (0,0))::osl 41 37 (.slice oa es.length oc') (qdsL es)::dataQ es::F) o oc nv wv ns ws∧RSt w0 r m lim (i * 605) rn (2 * i) i o oc d G wr)
 case atStart=>exact ⟨0,_,_,_,_,[],[],rfl,Nat.zero_le _,rfl,⟨fun w hw=>hw,MapIn.nil,MapIn.nil,lists_none,lists_none,Nat.zero_le _,Nat.zero_le _⟩,h9⟩
 case round=>
  obtain ⟨i,o,oc,d,G,ns,ws,rfl,hi,rfl,hfac,hS⟩:=hrel
  clear h9
  have HF:=uQ hfac
  have HHG:=uQ (Ro.of_imp (Ro.os HH.out:Ro w0 (pt b10 (.cells (fltA Rep.Flt.zero) 33 (0,0))::osl 41 37 (.slice oa es.length oc') (qdsL es)::dataQ es::F) Half) hfac.sub)
  clear hfac
  by_cases hlt:i<es.length
  rotate_left
  ·obtain rfl:i=es.length:=by omega
   have c1:¬ (es.length:Int)<(es.length:Int):=oQ
   obtain ⟨G1,hG,_,_,hdrop⟩:=hS.push
   have h23:Sat w0 wr F:=(HF.out.sub _ (hdrop _ hG)).sb
   clear hS hG hdrop hlt hi
   go_wp2_with fail
   refine (lives17_c HH.out h23).mono ?_
   rintro ee w24 ⟨v,rfl,rfl,h24⟩
   go_wp2_with fail
   go_ret
   exact ⟨_,rfl,rfl,h24⟩
  have c1:(i:Int)<(es.length:Int):=oQ
  have hwi:IntKind.i64.wrap ((i:Int)+1)=(i:Int)+1:=IntWalk.i64_in _ (by have:=Hel.out;omega)
  obtain ⟨x,hx⟩:∃ x,es[i]?=some x:=⟨_,List.getElem?_eq_getElem hlt⟩
  have Hlt:=uQ hlt
  have hxk:=Hek.out x (List.mem_of_getElem? hx)
  have Hxk:=uQ hxk
  have Hxd:=uQ (Ro.of_imp (Ro.of_pick (dataQ_ro hx) pick2:Ro w0 (pt b10 (.cells (fltA Rep.Flt.zero) 33 (0,0))::osl 41 37 (.slice oa es.length oc') (qdsL es)::dataQ es::F) (rdsl 1 x.dv (bys x.c.data))) HF.out.sub)
  obtain ⟨G1,hG,_,_,hdrop⟩:=hS.push
  obtain ⟨bk,off,c,hov,hcells⟩:=qds_at (fun d hd=>(Hek.out d hd).1) hx ((HF.out.sub _ (hdrop _ hG)).pick pick1)
  cases hov
  have HC:=uQ (show ∀ w',Sat w0 w' G→∀ j y,(qdL x)[j]?=some y→w'.cell? ⟨bk,off+i * 37+j,none⟩=some y from fun w' hw=>by
   obtain ⟨bk2,off2,c2,h2,h3⟩:=qds_at (fun d hd=>(Hek.out d hd).1) hx ((HF.out.sub _ hw).pick pick1)
   cases h2
   exact h3)
  have hxv:∃ da dc,x.dv = .slice da x.c.data.length dc:=by
   obtain ⟨a',n',c',e,hl,_⟩:=Hxd.out _ (hdrop _ hG)
   rw [bys_len,Nat.mul_one]at hl
   exact ⟨a',c',by rw [e,hl]⟩
  clear hlt hi hxk hx hG hdrop
  have hn40:i≤40∧i<es.length∧es.length≤40:=⟨by have:=Hel.out;have:=Hlt.out;omega,Hlt.out,Hel.out⟩
  have hcase:x.c.kind=0∨x.c.kind=1∨x.c.kind=2∨x.c.kind=3∨(x.c.kind≠0∧x.c.kind≠1∧x.c.kind≠2∧x.c.kind≠3):=oQ
  have e0:wr.cell? ⟨bk,off+i * 37,none⟩=some (.int .i64 x.c.kind):=hcells 0 _ (qdL_kind x)
  rcases hcase with hk|hk|hk|hk|⟨hk0,hk1,hk2,hk3⟩
  ·have hd:=does0_c (n:=i) (E:=2 * i) (K:=i * 605) x Hxk.out.1 hk Hxd.out Hxk.out.2 oQ oQ oQ HHG.out hS
   rw [hk]at e0
   clear hS
   go_wp2_with ((with_reducible refine at_load ⟨?_⟩);refine wl_loadW (b:=bk) (o:=off+i * 37) (qdL x) rFz hcells Tryz.underlying41 rfl (by rw [qdL_len _ Hxk.out.1];exact infoQo) ?_)
   refine hd.mono ?_
   clear hd e0 hcells
   rintro ee w5 ⟨v,rfl,⟨rfl,h5⟩|⟨rfl,h5⟩⟩
   ·obtain ⟨G1,hG,_,_,hdrop⟩:=h5.push
    have e0:w5.cell? ⟨bk,off+i * 37,none⟩=some (.int .i64 0):=by have:=HC.out _ (hdrop _ hG) 0 _ (qdL_kind x);rw [hk]at this;exact this
    have hcells:=HC.out _ (hdrop _ hG)
    obtain ⟨G3,hG3,_,hpush,hdrop3⟩:=h5.push
    have hSd:=hG3.drew
    obtain ⟨da,dc,hxv⟩:=hxv
    have hst:=set17_c ns HF.out.now.sh (Ro.of_imp HF.out.now.rd hdrop3) (Nat.le_trans HF.out.nl dCz) x.c.key Hxk.out.1 x.c.data da x.c.data.length dc false hSd
    have HGf:=uQ (show World.rangeAt w5.drew bk (off+i * 37+1) (bys x.c.key)∧w5.drew.cell? ⟨bk,off+i * 37+33,none⟩=some (.slice da x.c.data.length dc) from ⟨fun j z hj=>by
     have:=HC.out _ (hdrop3 _ hSd) (1+j) _ (qdL_key x hj)
     rw [← Nat.add_assoc]at this;exact this,by
     have:=HC.out _ (hdrop3 _ hSd) 33 _ (qdL_tail x Hxk.out.1 0)
     rw [← hxv];exact this⟩)
    have Hks:=uQ (show (bys x.c.key).length=32 by rw [bys_len,Hxk.out.1])
    have Hxd2:=uQ (show Ro w0 G (rdsl 1 (.slice da x.c.data.length dc) (bys x.c.data)) by rw [← hxv];exact Hxd.out)
    have Hpush:=uQ hpush
    clear hG hdrop h5 hG3 hpush hdrop3 hSd hcells hxv
    go_wp2_with fail
    refine wpL_begin [11,12] (fun w'=>w'.rangeAt bk (off+i * 37+1) (bys x.c.key)∧w'.cell? ⟨bk,off+i * 37+33,none⟩=some (.slice da x.c.data.length dc)) kRz ?_
    have hG:World.rangeAt _ bk (off+i * 37+1) (bys x.c.key)∧World.cell? _ ⟨bk,off+i * 37+33,none⟩=some (.slice da x.c.data.length dc):=HGf.out
    refine rP 0 ?_ (y:=mvQ)
    refine rP 1 ?_ (y:=mvQ)
    refine rP 2 ?_ (y:=mvQ)
    refine rP 3 ?_ (y:=ixQ)
    refine rP 4 ?_ (y:=flQ)
    refine rg_take 5 evD kRz i3z (tk_loadN (b:=bk) (o:=off+i * 37+1) (bys x.c.key) rFz Tryz.underlying31 rfl (by rw [Hks.out];kernel_rfl) (fun w hw=>hw.1)) aQ gQ ?_
    refine rP 6 ?_ (y:=mvQ)
    refine rP 7 ?_ (y:=mvQ)
    refine rP 8 ?_ (y:=ixQ)
    refine rP 9 ?_ (y:=flQ)
    refine rg_take 10 evD kRz i3z (tk_load rFz kRz (fun wq hq=>hq.2)) aQ gQ ?_
    clear hG HGf
    refine rg_eff 11 evD kRz (fun K hK=>?_)
    (refine eff_call4 kRz evD evD evD evD ?_)
    refine hst.mono ?_
    rintro ee w6 ⟨v,rfl,us,⟨hu1,hu2⟩,h6⟩
    refine hK _ _ (.inl rfl) ?_
    have h5:=Hpush.out _ _ h6
    replace h5:RSt w0 r m lim ((i+1) * 605) rn (2 * (i+1)) (i+1) _ _ _ _ _:=h5.mono oQ oQ oQ
    have Hset:=uQ (HF.out.now.set (v:=v) Hxk.out.1 Hxd2.out hu2)
    have Hlo:=uQ (show Tab.Lists _ (us.map pvK) by rw [hu1];exact Tab.set_lists HF.out.lo)
    have Hnow:=uQ (Hset.out);have Hwas:=uQ (show MapIn w0 (osl 70 33 v (us.flatMap pvL)::G) _ _ from HF.out.was.imp fun w hw=>hw.drop);have Hlo:=uQ (Hlo.out);have Hlc:=uQ (HF.out.lc);have Hsub:=uQ (show ∀ w,Sat w0 w (osl 70 33 v (us.flatMap pvL)::G)→_ from fun w hw=>HF.out.sub w hw.drop);have HHx:=uQ (show Ro w0 (osl 70 33 v (us.flatMap pvL)::G) Half from Ro.of_imp HHG.out fun w hw=>hw.drop);have Hwl:=uQ (HF.out.wl)
    clear hK hst h6 hu1 hu2 Hpush
    refine rP 12 ?_ (y:=asQ)
    refine wpL_done kRz ?_
    try simp only [ayQ]
    try go_frame
    go_wp2_with fail
    have hmap:=map17_c (by have:=hn40;omega) HHx.out h5
    clear h5
    go_wp2_with fail
    refine hmap.mono ?_
    rintro ee w8 ⟨v,rfl,mv,qs,rfl,⟨hr1,hr2,hr3,hr4⟩,h8⟩
    clear hmap
    obtain ⟨G2,hG2,hback,_,hdrop⟩:=h8.push
    have heq:=hr1.unique Hlo.out
    have hlen:=congrArg List.length heq
    rw [List.length_map,List.length_map]at hlen
    have Hnl:=uQ (Nat.le_trans (Nat.le_of_eq hlen.symm) hr3)
    have hsm:=sameMap_c (av:=mv) qs _ heq (fun q hq=>(hr2 q hq).1) (Ro.of_imp (Ro.of_pick (fun w hw=>Sat.rd hw) pick0) hdrop) (Ro.of_imp Hnow.out.rd fun w hw=>(hdrop w hw).drop.drop)
     (fun q hq=>Ro.of_imp (Ro.of_pick (dataV_ro hq) pick1) hdrop) (fun q hq=>Ro.of_imp (Hnow.out.dt q hq) fun w hw=>(hdrop w hw).drop.drop) (Nat.le_trans hr3 dCz) (fun q hq=>Nat.le_trans (hr4 q hq) dCz) hG2
    have Hback:=uQ hback
    clear heq hlen hr1 hr2 hr3 hr4 h8 hG2 hdrop hback
    go_wp2_with fail
    refine hsm.mono ?_
    rintro ee w9 ⟨v,rfl,rfl,h9⟩
    have h10:=Hback.out _ h9
    clear h9 hsm Hback
    go_wp2_with fail
    go_roundg (es.length - (i+1))
    case measure=>have:=Hlt.out;omega
    case rel=>exact ⟨i+1,_,_,_,_,_,_,rfl,Nat.succ_le_of_lt Hlt.out,by first|rfl|go_num,⟨fun w hw=>Hsub.out w hw.drop.drop,Hnow.out.imp fun w hw=>hw.drop.drop,Hwas.out.imp fun w hw=>hw.drop.drop,Hlo.out,Hlc.out,Hnl.out,Hwl.out⟩,h10⟩
   ·replace h5:RSt w0 r m lim ((i+1) * 605) rn (2 * (i+1)) (i+1) _ _ _ _ _:=h5.mono oQ oQ oQ
    have Hnow:=uQ (HF.out.now);have Hwas:=uQ (HF.out.was);have Hlo:=uQ (HF.out.lo);have Hlc:=uQ (HF.out.lc);have Hsub:=uQ (HF.out.sub);have HHx:=uQ (HHG.out);have Hwl:=uQ (HF.out.wl)
    go_wp2_with fail
    have hmap:=map17_c (by have:=hn40;omega) HHx.out h5
    clear h5
    go_wp2_with fail
    refine hmap.mono ?_
    rintro ee w8 ⟨v,rfl,mv,qs,rfl,⟨hr1,hr2,hr3,hr4⟩,h8⟩
    clear hmap
    obtain ⟨G2,hG2,hback,_,hdrop⟩:=h8.push
    have heq:=hr1.unique Hlo.out
    have hlen:=congrArg List.length heq
    rw [List.length_map,List.length_map]at hlen
    have Hnl:=uQ (Nat.le_trans (Nat.le_of_eq hlen.symm) hr3)
    have hsm:=sameMap_c (av:=mv) qs _ heq (fun q hq=>(hr2 q hq).1) (Ro.of_imp (Ro.of_pick (fun w hw=>Sat.rd hw) pick0) hdrop) (Ro.of_imp Hnow.out.rd fun w hw=>(hdrop w hw).drop.drop)
     (fun q hq=>Ro.of_imp (Ro.of_pick (dataV_ro hq) pick1) hdrop) (fun q hq=>Ro.of_imp (Hnow.out.dt q hq) fun w hw=>(hdrop w hw).drop.drop) (Nat.le_trans hr3 dCz) (fun q hq=>Nat.le_trans (hr4 q hq) dCz) hG2
    have Hback:=uQ hback
    clear heq hlen hr1 hr2 hr3 hr4 h8 hG2 hdrop hback
    go_wp2_with fail
    refine hsm.mono ?_
    rintro ee w9 ⟨v,rfl,rfl,h9⟩
    have h10:=Hback.out _ h9
    clear h9 hsm Hback
    go_wp2_with fail
    go_roundg (es.length - (i+1))
    case measure=>have:=Hlt.out;omega
    case rel=>exact ⟨i+1,_,_,_,_,_,_,rfl,Nat.succ_le_of_lt Hlt.out,by first|rfl|go_num,⟨fun w hw=>Hsub.out w hw.drop.drop,Hnow.out.imp fun w hw=>hw.drop.drop,Hwas.out.imp fun w hw=>hw.drop.drop,Hlo.out,Hlc.out,Hnl.out,Hwl.out⟩,h10⟩
  ·have hd:=does1_c (n:=i) (E:=2 * i) (K:=i * 605) x Hxk.out.1 hk oQ oQ oQ HHG.out hS
   rw [hk]at e0
   clear hS
   go_wp2_with ((with_reducible refine at_load ⟨?_⟩);refine wl_loadW (b:=bk) (o:=off+i * 37) (qdL x) rFz hcells Tryz.underlying41 rfl (by rw [qdL_len _ Hxk.out.1];exact infoQo) ?_)
   refine hd.mono ?_
   clear hd e0 hcells
   rintro ee w5 ⟨v,rfl,⟨rfl,h5⟩|⟨rfl|rfl,h5⟩⟩
   ·obtain ⟨G1,hG,_,_,hdrop⟩:=h5.push
    have e0:w5.cell? ⟨bk,off+i * 37,none⟩=some (.int .i64 1):=by have:=HC.out _ (hdrop _ hG) 0 _ (qdL_kind x);rw [hk]at this;exact this
    have hcells:=HC.out _ (hdrop _ hG)
    obtain ⟨G3,hG3,_,hpush,hdrop3⟩:=h5.push
    have hst:=set17_c ns HF.out.now.sh (Ro.of_imp HF.out.now.rd hdrop3) (Nat.le_trans HF.out.nl dCz) x.c.key Hxk.out.1 [] none 0 0 true hG3
    have hkc:∀ j v,(bys x.c.key)[j]?=some v→w5.cell? ⟨bk,off+i * 37+1+j,none⟩=some v:=fun j z hj=>by
     have:=HC.out _ (hdrop3 _ hG3) (1+j) _ (qdL_key x hj)
     rw [← Nat.add_assoc]at this;exact this
    have Hpush:=uQ hpush
    clear hG hdrop h5 hG3 hpush hdrop3 hcells
    go_wp2_with ((with_reducible refine at_load ⟨?_⟩);refine wl_loadW (b:=bk) (o:=off+i * 37+1) (bys x.c.key) rFz hkc Tryz.underlying31 rfl (by rw [bys_len,Hxk.out.1];kernel_rfl) ?_)
    clear hkc
    refine hst.mono ?_
    rintro ee w6 ⟨v,rfl,us,⟨hu1,hu2⟩,h6⟩
    have h5:=Hpush.out _ _ h6
    replace h5:RSt w0 r m lim ((i+1) * 605) rn (2 * (i+1)) (i+1) _ _ _ _ _:=h5.mono oQ oQ oQ
    have Hset:=uQ (HF.out.now.set (v:=v) Hxk.out.1 (fun w hw=>rdsl_nil 1 0 w) hu2)
    have Hlo:=uQ (show Tab.Lists _ (us.map pvK) by rw [hu1];exact Tab.del_lists HF.out.lo [])
    have Hnow:=uQ (Hset.out);have Hwas:=uQ (show MapIn w0 (osl 70 33 v (us.flatMap pvL)::G) _ _ from HF.out.was.imp fun w hw=>hw.drop);have Hlo:=uQ (Hlo.out);have Hlc:=uQ (HF.out.lc);have Hsub:=uQ (show ∀ w,Sat w0 w (osl 70 33 v (us.flatMap pvL)::G)→_ from fun w hw=>HF.out.sub w hw.drop);have HHx:=uQ (show Ro w0 (osl 70 33 v (us.flatMap pvL)::G) Half from Ro.of_imp HHG.out fun w hw=>hw.drop);have Hwl:=uQ (HF.out.wl)
    clear hst h6 hu1 hu2 Hpush
    go_wp2_with fail
    have hmap:=map17_c (by have:=hn40;omega) HHx.out h5
    clear h5
    go_wp2_with fail
    refine hmap.mono ?_
    rintro ee w8 ⟨v,rfl,mv,qs,rfl,⟨hr1,hr2,hr3,hr4⟩,h8⟩
    clear hmap
    obtain ⟨G2,hG2,hback,_,hdrop⟩:=h8.push
    have heq:=hr1.unique Hlo.out
    have hlen:=congrArg List.length heq
    rw [List.length_map,List.length_map]at hlen
    have Hnl:=uQ (Nat.le_trans (Nat.le_of_eq hlen.symm) hr3)
    have hsm:=sameMap_c (av:=mv) qs _ heq (fun q hq=>(hr2 q hq).1) (Ro.of_imp (Ro.of_pick (fun w hw=>Sat.rd hw) pick0) hdrop) (Ro.of_imp Hnow.out.rd fun w hw=>(hdrop w hw).drop.drop)
     (fun q hq=>Ro.of_imp (Ro.of_pick (dataV_ro hq) pick1) hdrop) (fun q hq=>Ro.of_imp (Hnow.out.dt q hq) fun w hw=>(hdrop w hw).drop.drop) (Nat.le_trans hr3 dCz) (fun q hq=>Nat.le_trans (hr4 q hq) dCz) hG2
    have Hback:=uQ hback
    clear heq hlen hr1 hr2 hr3 hr4 h8 hG2 hdrop hback
    go_wp2_with fail
    refine hsm.mono ?_
    rintro ee w9 ⟨v,rfl,rfl,h9⟩
    have h10:=Hback.out _ h9
    clear h9 hsm Hback
    go_wp2_with fail
    go_roundg (es.length - (i+1))
    case measure=>have:=Hlt.out;omega
    case rel=>exact ⟨i+1,_,_,_,_,_,_,rfl,Nat.succ_le_of_lt Hlt.out,by first|rfl|go_num,⟨fun w hw=>Hsub.out w hw.drop.drop,Hnow.out.imp fun w hw=>hw.drop.drop,Hwas.out.imp fun w hw=>hw.drop.drop,Hlo.out,Hlc.out,Hnl.out,Hwl.out⟩,h10⟩
   ·replace h5:RSt w0 r m lim ((i+1) * 605) rn (2 * (i+1)) (i+1) _ _ _ _ _:=h5.mono oQ oQ oQ
    have Hnow:=uQ (HF.out.now);have Hwas:=uQ (HF.out.was);have Hlo:=uQ (HF.out.lo);have Hlc:=uQ (HF.out.lc);have Hsub:=uQ (HF.out.sub);have HHx:=uQ (HHG.out);have Hwl:=uQ (HF.out.wl)
    go_wp2_with fail
    have hmap:=map17_c (by have:=hn40;omega) HHx.out h5
    clear h5
    go_wp2_with fail
    refine hmap.mono ?_
    rintro ee w8 ⟨v,rfl,mv,qs,rfl,⟨hr1,hr2,hr3,hr4⟩,h8⟩
    clear hmap
    obtain ⟨G2,hG2,hback,_,hdrop⟩:=h8.push
    have heq:=hr1.unique Hlo.out
    have hlen:=congrArg List.length heq
    rw [List.length_map,List.length_map]at hlen
    have Hnl:=uQ (Nat.le_trans (Nat.le_of_eq hlen.symm) hr3)
    have hsm:=sameMap_c (av:=mv) qs _ heq (fun q hq=>(hr2 q hq).1) (Ro.of_imp (Ro.of_pick (fun w hw=>Sat.rd hw) pick0) hdrop) (Ro.of_imp Hnow.out.rd fun w hw=>(hdrop w hw).drop.drop)
     (fun q hq=>Ro.of_imp (Ro.of_pick (dataV_ro hq) pick1) hdrop) (fun q hq=>Ro.of_imp (Hnow.out.dt q hq) fun w hw=>(hdrop w hw).drop.drop) (Nat.le_trans hr3 dCz) (fun q hq=>Nat.le_trans (hr4 q hq) dCz) hG2
    have Hback:=uQ hback
    clear heq hlen hr1 hr2 hr3 hr4 h8 hG2 hdrop hback
    go_wp2_with fail
    refine hsm.mono ?_
    rintro ee w9 ⟨v,rfl,rfl,h9⟩
    have h10:=Hback.out _ h9
    clear h9 hsm Hback
    go_wp2_with fail
    go_roundg (es.length - (i+1))
    case measure=>have:=Hlt.out;omega
    case rel=>exact ⟨i+1,_,_,_,_,_,_,rfl,Nat.succ_le_of_lt Hlt.out,by first|rfl|go_num,⟨fun w hw=>Hsub.out w hw.drop.drop,Hnow.out.imp fun w hw=>hw.drop.drop,Hwas.out.imp fun w hw=>hw.drop.drop,Hlo.out,Hlc.out,Hnl.out,Hwl.out⟩,h10⟩
   ·obtain ⟨G1,hG,_,_,hdrop⟩:=h5.push
    have e0:w5.cell? ⟨bk,off+i * 37,none⟩=some (.int .i64 1):=by have:=HC.out _ (hdrop _ hG) 0 _ (qdL_kind x);rw [hk]at this;exact this
    have hcells:=HC.out _ (hdrop _ hG)
    replace h5:RSt w0 r m lim ((i+1) * 605) rn (2 * (i+1)) (i+1) _ _ _ _ _:=h5.mono oQ oQ oQ
    have Hnow:=uQ (HF.out.now);have Hwas:=uQ (HF.out.was);have Hlo:=uQ (HF.out.lo);have Hlc:=uQ (HF.out.lc);have Hsub:=uQ (HF.out.sub);have HHx:=uQ (HHG.out);have Hwl:=uQ (HF.out.wl)
    clear hG hdrop hcells
    go_wp2_with fail
    have hmap:=map17_c (by have:=hn40;omega) HHx.out h5
    clear h5
    go_wp2_with fail
    refine hmap.mono ?_
    rintro ee w8 ⟨v,rfl,mv,qs,rfl,⟨hr1,hr2,hr3,hr4⟩,h8⟩
    clear hmap
    obtain ⟨G2,hG2,hback,_,hdrop⟩:=h8.push
    have heq:=hr1.unique Hlo.out
    have hlen:=congrArg List.length heq
    rw [List.length_map,List.length_map]at hlen
    have Hnl:=uQ (Nat.le_trans (Nat.le_of_eq hlen.symm) hr3)
    have hsm:=sameMap_c (av:=mv) qs _ heq (fun q hq=>(hr2 q hq).1) (Ro.of_imp (Ro.of_pick (fun w hw=>Sat.rd hw) pick0) hdrop) (Ro.of_imp Hnow.out.rd fun w hw=>(hdrop w hw).drop.drop)
     (fun q hq=>Ro.of_imp (Ro.of_pick (dataV_ro hq) pick1) hdrop) (fun q hq=>Ro.of_imp (Hnow.out.dt q hq) fun w hw=>(hdrop w hw).drop.drop) (Nat.le_trans hr3 dCz) (fun q hq=>Nat.le_trans (hr4 q hq) dCz) hG2
    have Hback:=uQ hback
    clear heq hlen hr1 hr2 hr3 hr4 h8 hG2 hdrop hback
    go_wp2_with fail
    refine hsm.mono ?_
    rintro ee w9 ⟨v,rfl,rfl,h9⟩
    have h10:=Hback.out _ h9
    clear h9 hsm Hback
    go_wp2_with fail
    go_roundg (es.length - (i+1))
    case measure=>have:=Hlt.out;omega
    case rel=>exact ⟨i+1,_,_,_,_,_,_,rfl,Nat.succ_le_of_lt Hlt.out,by first|rfl|go_num,⟨fun w hw=>Hsub.out w hw.drop.drop,Hnow.out.imp fun w hw=>hw.drop.drop,Hwas.out.imp fun w hw=>hw.drop.drop,Hlo.out,Hlc.out,Hnl.out,Hwl.out⟩,h10⟩
  ·have hd:=does2_c (n:=i) (E:=2 * i) (K:=i * 605) x Hxk.out.1 hk oQ oQ oQ HHG.out hS
   rw [hk]at e0
   clear hS
   go_wp2_with ((with_reducible refine at_load ⟨?_⟩);refine wl_loadW (b:=bk) (o:=off+i * 37) (qdL x) rFz hcells Tryz.underlying41 rfl (by rw [qdL_len _ Hxk.out.1];exact infoQo) ?_)
   refine hd.mono ?_
   clear hd e0 hcells
   rintro ee w5 ⟨v,rfl,⟨rfl,h5⟩|⟨rfl,h5⟩⟩
   ·obtain ⟨G1,hG,_,_,hdrop⟩:=h5.push
    have e0:w5.cell? ⟨bk,off+i * 37,none⟩=some (.int .i64 2):=by have:=HC.out _ (hdrop _ hG) 0 _ (qdL_kind x);rw [hk]at this;exact this
    have hcells:=HC.out _ (hdrop _ hG)
    replace h5:RSt w0 r m lim ((i+1) * 605) rn (2 * (i+1)) (i+1) _ _ _ _ _:=h5.mono oQ oQ oQ
    have Hnow:=uQ (HF.out.now);have Hwas:=uQ (HF.out.now);have Hlo:=uQ (HF.out.lo);have Hlc:=uQ (HF.out.lo);have Hsub:=uQ (HF.out.sub);have HHx:=uQ (HHG.out);have Hwl:=uQ (HF.out.nl)
    clear hG hdrop hcells
    go_wp2_with fail
    have hmap:=map17_c (by have:=hn40;omega) HHx.out h5
    clear h5
    go_wp2_with fail
    refine hmap.mono ?_
    rintro ee w8 ⟨v,rfl,mv,qs,rfl,⟨hr1,hr2,hr3,hr4⟩,h8⟩
    clear hmap
    obtain ⟨G2,hG2,hback,_,hdrop⟩:=h8.push
    have heq:=hr1.unique Hlo.out
    have hlen:=congrArg List.length heq
    rw [List.length_map,List.length_map]at hlen
    have Hnl:=uQ (Nat.le_trans (Nat.le_of_eq hlen.symm) hr3)
    have hsm:=sameMap_c (av:=mv) qs _ heq (fun q hq=>(hr2 q hq).1) (Ro.of_imp (Ro.of_pick (fun w hw=>Sat.rd hw) pick0) hdrop) (Ro.of_imp Hnow.out.rd fun w hw=>(hdrop w hw).drop.drop)
     (fun q hq=>Ro.of_imp (Ro.of_pick (dataV_ro hq) pick1) hdrop) (fun q hq=>Ro.of_imp (Hnow.out.dt q hq) fun w hw=>(hdrop w hw).drop.drop) (Nat.le_trans hr3 dCz) (fun q hq=>Nat.le_trans (hr4 q hq) dCz) hG2
    have Hback:=uQ hback
    clear heq hlen hr1 hr2 hr3 hr4 h8 hG2 hdrop hback
    go_wp2_with fail
    refine hsm.mono ?_
    rintro ee w9 ⟨v,rfl,rfl,h9⟩
    have h10:=Hback.out _ h9
    clear h9 hsm Hback
    go_wp2_with fail
    go_roundg (es.length - (i+1))
    case measure=>have:=Hlt.out;omega
    case rel=>exact ⟨i+1,_,_,_,_,_,_,rfl,Nat.succ_le_of_lt Hlt.out,by first|rfl|go_num,⟨fun w hw=>Hsub.out w hw.drop.drop,Hnow.out.imp fun w hw=>hw.drop.drop,Hwas.out.imp fun w hw=>hw.drop.drop,Hlo.out,Hlc.out,Hnl.out,Hwl.out⟩,h10⟩
   ·replace h5:RSt w0 r m lim ((i+1) * 605) rn (2 * (i+1)) (i+1) _ _ _ _ _:=h5.mono oQ oQ oQ
    have Hnow:=uQ (HF.out.now);have Hwas:=uQ (HF.out.was);have Hlo:=uQ (HF.out.lo);have Hlc:=uQ (HF.out.lc);have Hsub:=uQ (HF.out.sub);have HHx:=uQ (HHG.out);have Hwl:=uQ (HF.out.wl)
    go_wp2_with fail
    have hmap:=map17_c (by have:=hn40;omega) HHx.out h5
    clear h5
    go_wp2_with fail
    refine hmap.mono ?_
    rintro ee w8 ⟨v,rfl,mv,qs,rfl,⟨hr1,hr2,hr3,hr4⟩,h8⟩
    clear hmap
    obtain ⟨G2,hG2,hback,_,hdrop⟩:=h8.push
    have heq:=hr1.unique Hlo.out
    have hlen:=congrArg List.length heq
    rw [List.length_map,List.length_map]at hlen
    have Hnl:=uQ (Nat.le_trans (Nat.le_of_eq hlen.symm) hr3)
    have hsm:=sameMap_c (av:=mv) qs _ heq (fun q hq=>(hr2 q hq).1) (Ro.of_imp (Ro.of_pick (fun w hw=>Sat.rd hw) pick0) hdrop) (Ro.of_imp Hnow.out.rd fun w hw=>(hdrop w hw).drop.drop)
     (fun q hq=>Ro.of_imp (Ro.of_pick (dataV_ro hq) pick1) hdrop) (fun q hq=>Ro.of_imp (Hnow.out.dt q hq) fun w hw=>(hdrop w hw).drop.drop) (Nat.le_trans hr3 dCz) (fun q hq=>Nat.le_trans (hr4 q hq) dCz) hG2
    have Hback:=uQ hback
    clear heq hlen hr1 hr2 hr3 hr4 h8 hG2 hdrop hback
    go_wp2_with fail
    refine hsm.mono ?_
    rintro ee w9 ⟨v,rfl,rfl,h9⟩
    have h10:=Hback.out _ h9
    clear h9 hsm Hback
    go_wp2_with fail
    go_roundg (es.length - (i+1))
    case measure=>have:=Hlt.out;omega
    case rel=>exact ⟨i+1,_,_,_,_,_,_,rfl,Nat.succ_le_of_lt Hlt.out,by first|rfl|go_num,⟨fun w hw=>Hsub.out w hw.drop.drop,Hnow.out.imp fun w hw=>hw.drop.drop,Hwas.out.imp fun w hw=>hw.drop.drop,Hlo.out,Hlc.out,Hnl.out,Hwl.out⟩,h10⟩
  ·have hd:=does3_c (n:=i) (E:=2 * i) (K:=i * 605) x Hxk.out.1 oQ oQ oQ oQ HHG.out hS
   rw [hk]at e0
   clear hS
   go_wp2_with ((with_reducible refine at_load ⟨?_⟩);refine wl_loadW (b:=bk) (o:=off+i * 37) (qdL x) rFz hcells Tryz.underlying41 rfl (by rw [qdL_len _ Hxk.out.1];exact infoQo) ?_)
   refine hd.mono ?_
   clear hd e0 hcells
   rintro ee w5 ⟨v,rfl,rfl,h5⟩
   obtain ⟨G1,hG,_,_,hdrop⟩:=h5.push
   have e0:w5.cell? ⟨bk,off+i * 37,none⟩=some (.int .i64 3):=by have:=HC.out _ (hdrop _ hG) 0 _ (qdL_kind x);rw [hk]at this;exact this
   have hcells:=HC.out _ (hdrop _ hG)
   replace h5:RSt w0 r m lim ((i+1) * 605) rn (2 * (i+1)) (i+1) _ _ _ _ _:=h5.mono oQ oQ oQ
   have Hnow:=uQ (HF.out.was);have Hwas:=uQ (HF.out.was);have Hlo:=uQ (HF.out.lc);have Hlc:=uQ (HF.out.lc);have Hsub:=uQ (HF.out.sub);have HHx:=uQ (HHG.out);have Hwl:=uQ (HF.out.wl)
   clear hG hdrop hcells
   go_wp2_with fail
   have hmap:=map17_c (by have:=hn40;omega) HHx.out h5
   clear h5
   go_wp2_with fail
   refine hmap.mono ?_
   rintro ee w8 ⟨v,rfl,mv,qs,rfl,⟨hr1,hr2,hr3,hr4⟩,h8⟩
   clear hmap
   obtain ⟨G2,hG2,hback,_,hdrop⟩:=h8.push
   have heq:=hr1.unique Hlo.out
   have hlen:=congrArg List.length heq
   rw [List.length_map,List.length_map]at hlen
   have Hnl:=uQ (Nat.le_trans (Nat.le_of_eq hlen.symm) hr3)
   have hsm:=sameMap_c (av:=mv) qs _ heq (fun q hq=>(hr2 q hq).1) (Ro.of_imp (Ro.of_pick (fun w hw=>Sat.rd hw) pick0) hdrop) (Ro.of_imp Hnow.out.rd fun w hw=>(hdrop w hw).drop.drop)
    (fun q hq=>Ro.of_imp (Ro.of_pick (dataV_ro hq) pick1) hdrop) (fun q hq=>Ro.of_imp (Hnow.out.dt q hq) fun w hw=>(hdrop w hw).drop.drop) (Nat.le_trans hr3 dCz) (fun q hq=>Nat.le_trans (hr4 q hq) dCz) hG2
   have Hback:=uQ hback
   clear heq hlen hr1 hr2 hr3 hr4 h8 hG2 hdrop hback
   go_wp2_with fail
   refine hsm.mono ?_
   rintro ee w9 ⟨v,rfl,rfl,h9⟩
   have h10:=Hback.out _ h9
   clear h9 hsm Hback
   go_wp2_with fail
   go_roundg (es.length - (i+1))
   case measure=>have:=Hlt.out;omega
   case rel=>exact ⟨i+1,_,_,_,_,_,_,rfl,Nat.succ_le_of_lt Hlt.out,by first|rfl|go_num,⟨fun w hw=>Hsub.out w hw.drop.drop,Hnow.out.imp fun w hw=>hw.drop.drop,Hwas.out.imp fun w hw=>hw.drop.drop,Hlo.out,Hlc.out,Hnl.out,Hwl.out⟩,h10⟩
  ·have c0:(x.c.kind==0)=false:=by rw [beq_eq_false_iff_ne];exact hk0
   have c1':(x.c.kind==1)=false:=by rw [beq_eq_false_iff_ne];exact hk1
   have c2:(x.c.kind==2)=false:=by rw [beq_eq_false_iff_ne];exact hk2
   have c3:(x.c.kind==3)=false:=by rw [beq_eq_false_iff_ne];exact hk3
   clear hk0 hk1 hk2 hk3
   go_wp2_with fail
   go_roundg (es.length - (i+1))
   case measure=>have:=Hlt.out;omega
   case rel=>exact ⟨i+1,_,_,_,_,_,_,rfl,Nat.succ_le_of_lt Hlt.out,by first|rfl|go_num,HF.out,hS.mono oQ oQ oQ⟩
end
end Go.Proofs.YtjbhhbnopnmcnaaGreatDoor
