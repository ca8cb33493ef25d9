import Derived.Test.YtlinnpehkfbnkaaGreatDoorJ11
import Derived.Test.YtlinnpehkfbnkaaGreatDoorRows
import Derived.Test.YtlinnpehkfbnkaaGreatDoorCards
import Derived.Test.YtlinnpehkfbnkaaGreatDoorTie
import Derived.ProofKit
import Derived.LaidMore
import Derived.OpenShut
import Derived.ShutString
import Derived.SevenTiedAt
set_option linter.unusedVariables false
set_option maxHeartbeats 128000000
namespace Go.Proofs.YtlinnpehkfbnkaaGreatDoor
open Go Go.Sl Go.Med Go.MapKept Go.RowKit
section
variable {w0 w:World}{F:List HProp}{m K p:Nat}{M:Med}{L:Seg.Log}{n:Int}
set_option maxRecDepth 20000 in
theorem hloadY_c (hL:L.Ok) (hM:M.Ok K) (hz:M.size ByteArray.empty=(0,9)) (ht1:Hin.there M (Hin.name Hin.idx n)=true) (ht2:Hin.there M (Hin.name Hin.use n)=true)
  (kv:List (Frm.Bs×Seg.Plc)) (hk:∀ q∈kv,q.1.length=32) (us:List Rep.Use) (hoi:Bok.Ok 3 true (kv.map Rep.idxRw)) (hou:Bok.Ok 3 false (us.map Rep.useRw))
  (ha1:M.all (Hin.name Hin.idx n)=(Bok.book Xx.sum Bok.mgIdx true (kv.map Rep.idxRw),0)) (ha2:M.all (Hin.name Hin.use n)=(Bok.book Xx.sum Bok.mgUse false (us.map Rep.useRw),0))
  (hf:Hin.fits L us n=true) (hli:∀ q∈kv,Hin.lies q.2 (Hin.sizes us)=true∧IntKind.i64.wrap (Hin.sizes us q.2.seg - q.2.at_)=Hin.sizes us q.2.seg - q.2.at_) (h:Sat w0 w (LogRep p m L::MedRep m M::F)) :
  Calls Tryz.prog 16 #[ptr p,ptr m,.int .i64 n] w (Rtn fun v w'=>∃ (ps pi:Nat) (uv tv:Value),v = .tuple #[ptr ps,errno 0]∧Sat w0 w' (stPt ps n pi uv tv::TabML pi (Tab.mapOf kv) kv.length::osl 121 3 uv (us.flatMap uenc)::osl 3 1 tv (ints (L.segs.filter fun s=>decide (n<s)))::LogRep p m L::MedRep m M::F)):=by
 have h0:Sat w0 w (MedRep m M::LogRep p m L::F):=h.sb
 have hsz:=size_c hM h0 ByteArray.empty
 rw [hz]at hsz
 have hul:us.length≤1073741824:=by have:=hou.len;rw [List.length_map]at this;omega
 have HM:=uQ hM;have Ht1:=uQ ht1;have Ht2:=uQ ht2;have HL:=uQ hL;have Hk:=uQ hk;have Hoi:=uQ hoi;have Hou:=uQ hou;have Ha1:=uQ ha1;have Ha2:=uQ ha2;have Hf:=uQ hf;have Hli:=uQ hli;have Hkl:=uQ (show kv.length≤65536 by have:=hoi.len;rwa [List.length_map]at this);have Hul:=uQ hul
 clear hM hz ht1 ht2 hL hk hoi hou ha1 ha2 hf hul hli h
 go_enter Tryz.func16,Tryz.ntmps16
 go_wp2_with fail
 refine hsz.mono ?_
 rintro e w1 ⟨v,rfl,rfl,rfl⟩
 clear hsz
 go_wp2_with fail
 refine (iname_c n h0).mono ?_
 rintro e w2 ⟨v,rfl,rfl,h2⟩
 clear h0
 have hth:=hthere_c HM.out (Hin.name Hin.idx n) h2
 rw [Ht1.out]at hth
 go_wp2_with fail
 refine hth.mono ?_
 rintro e w3 ⟨v,rfl,rfl,rfl⟩
 clear hth
 go_wp2_with fail
 refine (uname_c n h2).mono ?_
 rintro e w4 ⟨v,rfl,rfl,h4⟩
 clear h2
 have hth2:=hthere_c HM.out (Hin.name Hin.use n) h4
 rw [Ht2.out]at hth2
 go_wp2_with fail
 refine hth2.mono ?_
 rintro e w5 ⟨v,rfl,rfl,rfl⟩
 clear hth2
 go_wp2_with fail
 refine (iname_c n h4).mono ?_
 rintro e w6 ⟨v,rfl,rfl,h6⟩
 clear h4
 have ha:=all_c HM.out h6 (Hin.name Hin.idx n)
 rw [Ha1.out]at ha
 go_wp2_with fail
 refine ha.mono ?_
 rintro e w7 ⟨v,rfl,bv,rfl,h7⟩
 clear ha h6
 go_wp2_with fail
 refine (uname_c n h7).mono ?_
 rintro e w8 ⟨v,rfl,rfl,h8⟩
 clear h7
 have h8':Sat w0 w8 (MedRep m M::bsl bv (Bok.book Xx.sum Bok.mgIdx true (kv.map Rep.idxRw))::LogRep p m L::F):=h8.sb
 have hb:=all_c HM.out h8' (Hin.name Hin.use n)
 rw [Ha2.out]at hb
 clear h8
 go_wp2_with fail
 refine hb.mono ?_
 rintro e w9 ⟨v,rfl,cv,rfl,h9⟩
 clear hb h8'
 have h9':Sat w0 w9 (bsl bv (Bok.book Xx.sum Bok.mgIdx true (kv.map Rep.idxRw))::bsl cv (Bok.book Xx.sum Bok.mgUse false (us.map Rep.useRw))::MedRep m M::LogRep p m L::F):=h9.sb
 clear h9
 have hri:=RS.of_bsl h9'
 obtain ⟨ba,bn,bc,rfl,_,_⟩:=hri.cap
 go_wp2_with fail
 refine (breadI_c kv Hk.out Hoi.out hri h9').mono ?_
 rintro e w10 ⟨v,rfl,iv,rfl,h10⟩
 clear h9' hri
 have h10':Sat w0 w10 (bsl cv (Bok.book Xx.sum Bok.mgUse false (us.map Rep.useRw))::osl 149 35 iv (kv.flatMap kvL)::MedRep m M::LogRep p m L::F):=h10.sb
 clear h10
 have hru:=RS.of_bsl h10'
 obtain ⟨ca,cn,cc,rfl,_,_⟩:=hru.cap
 go_wp2_with fail
 refine (breadU_c us Hou.out hru h10').mono ?_
 rintro e w11 ⟨v,rfl,uv,rfl,h11⟩
 clear h10' hru
 have h12:Sat w0 w11 (LogRep p m L::osl 121 3 uv (us.flatMap uenc)::osl 149 35 iv (kv.flatMap kvL)::MedRep m M::F):=h11.sb
 clear h11
 go_wp2_with fail
 have hft:=hfits_c (n:=n) us Hul.out HL.out (fun w hw=>Sat.rd hw) h12
 rw [Hf.out]at hft
 refine hft.mono ?_
 rintro e w13 ⟨v,rfl,rfl,h13⟩
 clear hft h12
 obtain ⟨ua,uc,rfl⟩:=osl_rows (fun u _=>uenc_len u) (Sat.rd (h13.pick (A:=osl 121 3 uv (us.flatMap uenc)) pick1)) dCz
 obtain ⟨ia,ic,rfl⟩:=osl_rows (fun q hq=>kvL_len q (Hk.out q hq)) (Sat.rd (h13.pick (A:=osl 149 35 iv (kv.flatMap kvL)) pick2)) dCz
 have HsU:=uQ (show ∀ i u,us[i]?=some u→Hin.sizes (us.take (i+1))=fun s=>if s=u.seg then u.size else Hin.sizes (us.take i) s from fun i u hu=>by rw [List.take_add_one,hu,Option.toList_some,Hin.sizes_snoc])
 have hmm:=@run_makeMap Tryz.prog
 go_wp2_with fail
 refine (newL_c h13).mono ?_
 rintro ee w14 ⟨v,rfl,pi,rfl,h14⟩
 clear h13
 go_wp2_with (with_reducible apply at_box)
 refine ⟨wl_box (cs:=#[.int .i64 n,ptr pi,.slice ua us.length uc,.slice none 0 0]) h14 rFz rFz ?_⟩
 intro ps w15 h15
 clear h14
 have h16:=imap_new h15
 go_wp2_with fail
 have hx:Sat w0 (w15.alloc (.map #[] 0)) (imap w15.heap.size (Hin.sizes (us.take 0))::stPt ps n pi (.slice ua us.length uc) (.slice none 0 0)::TabML pi (fun _=>none) 0::LogRep p m L::osl 121 3 (.slice ua us.length uc) (us.flatMap uenc)::osl 149 35 (.slice ia kv.length ic) (kv.flatMap kvL)::MedRep m M::F):=h16
 clear h15 h16 hmm
 generalize w15.heap.size=bm at *
 go_loopg [98] us.length (fun g iq wr=>∃ i:Nat,g=us.length - i∧i≤us.length∧iq = .int .i64 i ∧
  Sat w0 wr (imap bm (Hin.sizes (us.take i))::stPt ps n pi (.slice ua us.length uc) (.slice none 0 0)::TabML pi (fun _=>none) 0::LogRep p m L::osl 121 3 (.slice ua us.length uc) (us.flatMap uenc)::osl 149 35 (.slice ia kv.length ic) (kv.flatMap kvL)::MedRep m M::F))
 case atStart=>exact ⟨0,rfl,Nat.zero_le _,rfl,hx⟩
 case round=>
  obtain ⟨i,rfl,hi,rfl,hS⟩:=hrel
  clear hx
  by_cases hlt:i<us.length
  ·have c1:(i:Int)<(us.length:Int):=by omega
   have hwi:IntKind.i64.wrap ((i:Int)+1)=(i:Int)+1:=IntWalk.i64_in _ (by have:=Hul.out;omega)
   obtain ⟨u,hu⟩:∃ u,us[i]?=some u:=⟨_,List.getElem?_eq_getElem hlt⟩
   have Hlt:=uQ hlt;have Hsz:=uQ (HsU.out i u hu)
   obtain ⟨bk,off,c',hsv,hcell⟩:=osl_row (fun u _=>uenc_len u) (Sat.rd (hS.pk (A:=osl 121 3 (.slice ua us.length uc) (us.flatMap uenc)))) hu dCz
   cases hsv
   clear hi hlt hu
   go_wp2_with (first
    |((with_reducible refine at_load ⟨?_⟩);refine wl_loadW (b:=bk) (o:=off+i * 3) (uenc u) rFz hcell Tryz.underlying121 rfl kRz ?_)
    |(with_reducible apply at_alloc))
   refine ⟨wl_alloc zUse hS rfl ?_⟩
   intro b18 w18 h18
   go_wp2_with (with_reducible apply at_store)
   refine ⟨wl_storeA (uenc u).toArray h18 rFz rFz rFz upd0 kRz rFz ?_⟩
   intro w19 h19
   clear h18 hS hcell
   obtain ⟨w20,hup,h20⟩:=imap_store u.seg u.size (h19.pick (pick_there pick0))
   have f0:w19.cell? ⟨b18,0,none⟩=some (.int .i64 u.seg):=h19.cellP pick0 0 rfl
   have f1:w19.cell? ⟨b18,1,none⟩=some (.int .i64 u.size):=h19.cellP pick0 1 rfl
   rw [← Hsz.out]at h20
   go_wp2_with fail
   go_roundg (us.length - (i+1))
   case measure=>have:=Hlt.out;omega
   case rel=>exact ⟨i+1,rfl,Nat.succ_le_of_lt Hlt.out,by first|rfl|go_num,h20.sb⟩
  ·have c1:¬ (i:Int)<(us.length:Int):=by omega
   obtain rfl:i=us.length:=by omega
   rw [List.take_length]at hS
   clear hlt hi HsU
   have hy:Sat w0 wr (imap bm (Hin.sizes us)::stPt ps n pi (.slice ua us.length uc) (.slice none 0 0)::TabML pi (Tab.mapOf (kv.take 0)) 0::LogRep p m L::osl 121 3 (.slice ua us.length uc) (us.flatMap uenc)::osl 149 35 (.slice ia kv.length ic) (kv.flatMap kvL)::MedRep m M::F):=hS
   clear hS
   go_wp2_with fail
   go_loopg [110] kv.length (fun g iq wr=>∃ i:Nat,g=kv.length - i∧i≤kv.length∧iq = .int .i64 i ∧
    Sat w0 wr (imap bm (Hin.sizes us)::stPt ps n pi (.slice ua us.length uc) (.slice none 0 0)::TabML pi (Tab.mapOf (kv.take i)) i::LogRep p m L::osl 121 3 (.slice ua us.length uc) (us.flatMap uenc)::osl 149 35 (.slice ia kv.length ic) (kv.flatMap kvL)::MedRep m M::F))
   case atStart=>exact ⟨0,rfl,Nat.zero_le _,rfl,hy⟩
   case round=>
    obtain ⟨i,rfl,hi,rfl,hS⟩:=hrel
    clear hy
    by_cases hlt:i<kv.length
    ·have c1:(i:Int)<(kv.length:Int):=by omega
     have hwi:IntKind.i64.wrap ((i:Int)+1)=(i:Int)+1:=IntWalk.i64_in _ (by have:=Hkl.out;omega)
     obtain ⟨q,hq⟩:∃ q,kv[i]?=some q:=⟨_,List.getElem?_eq_getElem hlt⟩
     have hqm:=List.mem_of_getElem? hq
     have Hlt:=uQ hlt
     have Hput:=uQ (show Tab.mapOf (kv.take (i+1))=Tab.put (Tab.mapOf (kv.take i)) q.1 q.2 by rw [List.take_add_one,hq,Option.toList_some,Tab.mapOf_snoc])
     obtain ⟨bk,off,c',hsv,hcell⟩:=osl_row (fun q hq=>kvL_len q (Hk.out q hq)) (Sat.rd (hS.pk (A:=osl 149 35 (.slice ia kv.length ic) (kv.flatMap kvL)))) hq dCz
     cases hsv
     have Hq:=uQ (Hk.out q hqm)
     have hly:=Hli.out q hqm
     have Hly:=uQ hly
     have Hkq:=uQ (kvL_len q Hq.out)
     clear hi hlt hq hqm hly
     go_wp2_with (first
      |((with_reducible refine at_load ⟨?_⟩);refine wl_loadW (b:=bk) (o:=off+i * 35) (kvL q) rFz hcell Tryz.underlying149 rfl (by rw [Hkq.out];kernel_rfl) ?_)
      |(with_reducible apply at_alloc))
     refine ⟨wl_alloc zKv hS rfl ?_⟩
     intro b20 w20 h20
     go_wp2_with (with_reducible apply at_store)
     refine ⟨wl_storeA (kvL q).toArray h20 rFz rFz (by rw [List.size_toArray,Hkq.out];rfl) upd0 (by rw [List.size_toArray,Hkq.out];kernel_rfl) (by rw [List.toList_toArray];exact kvL_ones _) ?_⟩
     intro w21 h21
     clear h20 hS hcell
     have hra:w21.rangeAt b20 0 (bys q.1):=fun j v hj=>by
      refine h21.cellP pick0 (0+j) ?_
      rw [List.getElem?_toArray,Nat.zero_add]
      unfold kvL
      rw [List.getElem?_append_left (List.getElem?_eq_some_iff.1 hj).1];exact hj
     have hrp:w21.rangeAt b20 32 (penc q.2):=fun j v hj=>by
      refine h21.cellP pick0 (32+j) ?_
      rw [List.getElem?_toArray]
      unfold kvL
      rw [List.getElem?_append_right (by rw [bys_len,Hq.out];omega),bys_len,Hq.out,Nat.add_sub_cancel_left];exact hj
     go_wp2_with ((with_reducible refine at_load ⟨?_⟩);refine wl_loadW (b:=b20) (o:=32) (penc q.2) rFz hrp Tryz.underlying54 rfl kRz ?_)
     refine (hlies_c q.2 Hly.out.2 (h21.pk (A:=imap bm (Hin.sizes us)))).mono ?_
     rintro ee w22 ⟨v,rfl,rfl,h22⟩
     rw [Hly.out.1]
     clear hra hrp h21
     have h23:=h22.drew
     clear h22
     have hG:w22.drew.cell? ⟨ps,1,none⟩=some (ptr pi)∧w22.drew.rangeAt b20 0 (bys q.1)∧w22.drew.rangeAt b20 32 (penc q.2):=by
      refine ⟨h23.cellP (pick_there pick1) 1 rfl,fun j v hj=>?_,fun j v hj=>?_⟩
      ·refine h23.cellP pick1 (0+j) ?_
       rw [List.getElem?_toArray,Nat.zero_add]
       unfold kvL
       rw [List.getElem?_append_left (List.getElem?_eq_some_iff.1 hj).1];exact hj
      ·refine h23.cellP pick1 (32+j) ?_
       rw [List.getElem?_toArray]
       unfold kvL
       rw [List.getElem?_append_right (by rw [bys_len,Hq.out];omega),bys_len,Hq.out,Nat.add_sub_cancel_left];exact hj
     go_wp2_with fail
     refine wpL_begin [8] (fun w'=>w'.cell? ⟨ps,1,none⟩=some (ptr pi)∧w'.rangeAt b20 0 (bys q.1)∧w'.rangeAt b20 32 (penc q.2)) kRz ?_
     refine rP 0 ?_ (y:=mvQ)
     refine rP 1 ?_ (y:=nlQ)
     refine rP 2 ?_ (y:=flQ)
     refine rt 3 (h:=?_)
     refine rP 4 ?_ (y:=flQ)
     refine rg_take 5 evD kRz i3z (tk_loadN (b:=b20) (o:=0) (bys q.1) rFz Tryz.underlying24 rfl (by rw [bys_len,Hq.out];kernel_rfl) (fun w hw=>hw.2.1)) aQ gQ ?_
     refine rP 6 ?_ (y:=flQ)
     refine rg_take 7 evD kRz i3z (tk_loadN (b:=b20) (o:=32) (penc q.2) rFz Tryz.underlying54 rfl kRz (fun w hw=>hw.2.2)) aQ gQ ?_
     clear hG
     have hp:=putL_c (B:=i) (p:=pi) (by have:=Hlt.out;have:=Hkl.out;omega) Hq.out q.2 (h23.pk (A:=TabML pi (Tab.mapOf (kv.take i)) i))
     clear h23
     refine rg_eff 8 evD kRz (fun K' hK'=>?_)
     (refine eff_call3 kRz evD evD evD ?_)
     refine hp.mono ?_
     rintro ee w24 ⟨v,rfl,h24⟩
     refine hK' _ _ (.inl rfl) ?_
     clear hK' hp
     refine wpL_done kRz ?_
     rw [← Hput.out]at h24
     go_wp2_with fail
     go_roundg (kv.length - (i+1))
     case measure=>have:=Hlt.out;omega
     case rel=>exact ⟨i+1,rfl,Nat.succ_le_of_lt Hlt.out,by first|rfl|go_num,h24.sb⟩
    ·have c1:¬ (i:Int)<(kv.length:Int):=by omega
     obtain rfl:i=kv.length:=by omega
     rw [List.take_length]at hS
     clear hlt hi
     have hsl:L.segs.length≤1073741824:=by unfold Seg.Log.segs;rw [List.length_map];have:=HL.out.len;omega
     have Hsl:=uQ hsl
     clear hsl
     go_wp2_with fail
     refine (lsegs_c HL.out (hS.pk (A:=LogRep p m L))).mono ?_
     rintro ee w30 ⟨v,rfl,h30⟩
     obtain ⟨sa,sn,sc,rfl,hl9,_⟩:=Sat.rd h30
     have hlen9:sn=L.segs.length:=by
      rw [show (ints L.segs).length=L.segs.length from List.length_map ..]at hl9;omega
     subst hlen9
     clear hl9 hS
     have h31:Sat w0 w30 (stPt ps n pi (.slice ua us.length uc) (.slice none 0 0)::osl 3 1 (.slice none 0 0) (ints ((L.segs.take 0).filter fun s=>decide (n<s)))::TabML pi (Tab.mapOf kv) kv.length::osl 3 1 (.slice sa L.segs.length sc) (ints L.segs)::LogRep p m L::osl 121 3 (.slice ua us.length uc) (us.flatMap uenc)::MedRep m M::F):=
      (Sat.osl_nil.2 h30).sb
     clear h30
     go_wp2_with fail
     go_loopg [132] L.segs.length (fun g iq wr=>∃ (i:Nat) (tv:Value),g=L.segs.length - i∧i≤L.segs.length∧iq = .int .i64 i ∧
      Sat w0 wr (stPt ps n pi (.slice ua us.length uc) tv::osl 3 1 tv (ints ((L.segs.take i).filter fun s=>decide (n<s)))::TabML pi (Tab.mapOf kv) kv.length::osl 3 1 (.slice sa L.segs.length sc) (ints L.segs)::LogRep p m L::osl 121 3 (.slice ua us.length uc) (us.flatMap uenc)::MedRep m M::F))
     case atStart=>exact ⟨0,_,rfl,Nat.zero_le _,rfl,h31⟩
     case round=>
      obtain ⟨i,tv,rfl,hi,rfl,hS⟩:=hrel
      clear h31
      by_cases hlt:i<L.segs.length
      ·have c1:(i:Int)<(L.segs.length:Int):=by omega
       have hwi:IntKind.i64.wrap ((i:Int)+1)=(i:Int)+1:=IntWalk.i64_in _ (by have:=Hsl.out;omega)
       obtain ⟨s,hs⟩:∃ s,L.segs[i]?=some s:=⟨_,List.getElem?_eq_getElem hlt⟩
       have Hlt:=uQ hlt
       have Htk:=uQ (show L.segs.take (i+1)=L.segs.take i++[s] by rw [List.take_add_one,hs];rfl)
       obtain ⟨bk,off,cc,hsv,f0⟩:=ints_cell (Sat.rd (hS.pk (A:=osl 3 1 (.slice sa L.segs.length sc) (ints L.segs)))) hs
       cases hsv
       clear hi hlt hs
       by_cases hgt:n<s
       ·have Hfl:=uQ (show ints ((L.segs.take (i+1)).filter fun s=>decide (n<s))=ints ((L.segs.take i).filter fun s=>decide (n<s))++[.int .i64 s] by
         rw [Htk.out,List.filter_append]
         unfold ints
         rw [List.map_append]
         simp [hgt])
        have hil:(ints ((L.segs.take i).filter fun s=>decide (n<s))).length≤2147483648:=by
         unfold ints
         rw [List.length_map]
         have h1:=List.length_filter_le (fun s=>decide (n<s)) (L.segs.take i)
         have h2:=List.length_take_le' i L.segs
         have:=Hsl.out
         omega
        have e3:wr.cell? ⟨ps,3,none⟩=some tv:=hS.cellP pick0 3 rfl
        go_wp2_with (with_reducible apply at_build1)
        refine ⟨wl_build1 (e:=3) (sz:=1) (by':=8) kRz hS evD (cs:=#[.int .i64 s]) rfl rfl dCz ?_⟩
        intro b41 w41 h41
        go_wp2_with (with_reducible apply at_append)
        refine ⟨wl_app 3 1 8 kRz h41 rFz rFz (pick_there (pick_there pick0)) pick0 rfl (Nat.le_refl 1) rFz hil (by show 1≤65536;decide) dCz rfl ?_⟩
        intro bA nA cA w42 h42
        clear e3 hil
        go_wp2_with (with_reducible apply at_store)
        refine ⟨wl_store (cs':=#[.int .i64 n,ptr pi,.slice ua us.length uc,.slice (some ⟨bA,0,none⟩) nA cA]) h42 rFz evD rFz (upd_there upd0) nLz kRz rFz ?_⟩
        intro w43 h43
        have h44:Sat w0 w43 (stPt ps n pi (.slice ua us.length uc) (.slice (some ⟨bA,0,none⟩) nA cA)::osl 3 1 (.slice (some ⟨bA,0,none⟩) nA cA) (ints ((L.segs.take (i+1)).filter fun s=>decide (n<s)))::TabML pi (Tab.mapOf kv) kv.length::osl 3 1 (.slice (some ⟨bk,off,none⟩) L.segs.length sc) (ints L.segs)::LogRep p m L::osl 121 3 (.slice ua us.length uc) (us.flatMap uenc)::MedRep m M::F):=by
         rw [Hfl.out]
         exact h43.sb
        clear h41 h42 h43 hS f0
        go_wp2_with fail
        go_roundg (L.segs.length - (i+1))
        case measure=>have:=Hlt.out;omega
        case rel=>exact ⟨i+1,_,rfl,Nat.succ_le_of_lt Hlt.out,by first|rfl|go_num,h44⟩
       ·have Hfl:=uQ (show ints ((L.segs.take (i+1)).filter fun s=>decide (n<s))=ints ((L.segs.take i).filter fun s=>decide (n<s)) by
         rw [Htk.out,List.filter_append]
         simp [hgt])
        have hgt':¬ s>n:=hgt
        go_wp2_with fail
        go_roundg (L.segs.length - (i+1))
        case measure=>have:=Hlt.out;omega
        case rel=>exact ⟨i+1,tv,rfl,Nat.succ_le_of_lt Hlt.out,by first|rfl|go_num,by rw [Hfl.out];exact hS⟩
      ·have c1:¬ (i:Int)<(L.segs.length:Int):=by omega
       obtain rfl:i=L.segs.length:=by omega
       rw [List.take_length]at hS
       clear hlt hi
       go_wp2_with fail
       go_ret2
       exact ⟨_,rfl,ps,rfl,pi,_,tv,hS.sb⟩
end
def twoS (s1 p1 s2 p2:Nat) (n:Int) (uv1 tv1 uv2 tv2:Value) (kv:List (Frm.Bs×Seg.Plc)) (us:List Rep.Use) (B1 B2:Nat) (F:List HProp):List HProp:=
 stPt s1 n p1 uv1 tv1::TabML p1 (Tab.mapOf kv) B1::osl 121 3 uv1 (us.flatMap uenc)::stPt s2 n p2 uv2 tv2::TabML p2 (Tab.mapOf kv) B2::osl 121 3 uv2 (us.flatMap uenc)::F
section
variable {w0 w:World}{F:List HProp}{s1 p1 s2 p2 B1 B2:Nat}{n:Int}{uv1 tv1 uv2 tv2:Value}{kv:List (Frm.Bs×Seg.Plc)}{us:List Rep.Use}
set_option maxRecDepth 20000 in
theorem same16_c (hri:kv.Pairwise fun a b=>a.1<b.1) (hk:∀ q∈kv,q.1.length=32) (hkl:kv.length≤1073741824) (hul:us.length≤1073741824) (hB1:B1≤13000000) (hB2:B2≤13000000) (ts:List Int) (htl:ts.length≤9223372036854775807)
  (ht1:Ro w0 (twoS s1 p1 s2 p2 n uv1 tv1 uv2 tv2 kv us B1 B2 F) (rdsl 1 tv1 (ints ts))) (ht2:Ro w0 (twoS s1 p1 s2 p2 n uv1 tv1 uv2 tv2 kv us B1 B2 F) (rdsl 1 tv2 (ints ts)))
  (h:Sat w0 w (twoS s1 p1 s2 p2 n uv1 tv1 uv2 tv2 kv us B1 B2 F)) :
  Calls Tryz.prog 21 #[ptr s1,ptr s2] w (Rtn fun v w'=>v = .bool true∧Sat w0 w' (twoS s1 p1 s2 p2 n uv1 tv1 uv2 tv2 kv us B1 B2 F)):=by
 have HG:=uQ (fun (w':World) (hw:Sat w0 w' (twoS s1 p1 s2 p2 n uv1 tv1 uv2 tv2 kv us B1 B2 F))=>show w'.cell? ⟨s1,0,none⟩=some (.int .i64 n)∧w'.cell? ⟨s1,1,none⟩=some (ptr p1)∧w'.cell? ⟨s1,2,none⟩=some uv1∧w'.cell? ⟨s1,3,none⟩=some tv1 ∧
   w'.cell? ⟨s2,0,none⟩=some (.int .i64 n)∧w'.cell? ⟨s2,1,none⟩=some (ptr p2)∧w'.cell? ⟨s2,2,none⟩=some uv2∧w'.cell? ⟨s2,3,none⟩=some tv2 from
  have h1:Sat w0 w' (stPt s1 n p1 uv1 tv1::TabML p1 (Tab.mapOf kv) B1::osl 121 3 uv1 (us.flatMap uenc)::stPt s2 n p2 uv2 tv2::TabML p2 (Tab.mapOf kv) B2::osl 121 3 uv2 (us.flatMap uenc)::F):=hw
  ⟨h1.cellP pick0 0 rfl,h1.cellP pick0 1 rfl,h1.cellP pick0 2 rfl,h1.cellP pick0 3 rfl,h1.cellP (pick_there (pick_there (pick_there pick0))) 0 rfl,h1.cellP (pick_there (pick_there (pick_there pick0))) 1 rfl,h1.cellP (pick_there (pick_there (pick_there pick0))) 2 rfl,h1.cellP (pick_there (pick_there (pick_there pick0))) 3 rfl⟩)
 have HL:=uQ (Tab.mapOf_lists hri)
 have HR1:=uQ (fun (w':World) (hw:Sat w0 w' (twoS s1 p1 s2 p2 n uv1 tv1 uv2 tv2 kv us B1 B2 F))=>show Calls Tryz.prog 26 #[ptr p1] w' (Rtn fun v w''=>Sat w0 w'' (osl 149 35 v (kv.flatMap kvL)::twoS s1 p1 s2 p2 n uv1 tv1 uv2 tv2 kv us B1 B2 F)) from by
  unfold twoS at hw ⊢
  refine (rows16_c hB1 (hw.sb:Sat w0 w' (TabML p1 (Tab.mapOf kv) B1::stPt s1 n p1 uv1 tv1::osl 121 3 uv1 (us.flatMap uenc)::stPt s2 n p2 uv2 tv2::TabML p2 (Tab.mapOf kv) B2::osl 121 3 uv2 (us.flatMap uenc)::F))).mono ?_
  rintro e w'' ⟨v,rfl,kv',⟨hl,_,_⟩,hS⟩
  rw [Tab.Lists.unique hl (Tab.mapOf_lists hri)]at hS
  exact ⟨v,rfl,hS.sb⟩)
 have HR2:=uQ (fun (w':World) (G:List HProp) (hw:Sat w0 w' (G++twoS s1 p1 s2 p2 n uv1 tv1 uv2 tv2 kv us B1 B2 F))=>True.intro)
 clear HR2
 have HR2:=uQ (fun (w':World) (G:HProp) (hw:Sat w0 w' (G::twoS s1 p1 s2 p2 n uv1 tv1 uv2 tv2 kv us B1 B2 F))=>show Calls Tryz.prog 26 #[ptr p2] w' (Rtn fun v w''=>Sat w0 w'' (osl 149 35 v (kv.flatMap kvL)::G::twoS s1 p1 s2 p2 n uv1 tv1 uv2 tv2 kv us B1 B2 F)) from by
  unfold twoS at hw ⊢
  refine (rows16_c hB2 (hw.sb:Sat w0 w' (TabML p2 (Tab.mapOf kv) B2::G::stPt s1 n p1 uv1 tv1::TabML p1 (Tab.mapOf kv) B1::osl 121 3 uv1 (us.flatMap uenc)::stPt s2 n p2 uv2 tv2::osl 121 3 uv2 (us.flatMap uenc)::F))).mono ?_
  rintro e w'' ⟨v,rfl,kv',⟨hl,_,_⟩,hS⟩
  rw [Tab.Lists.unique hl (Tab.mapOf_lists hri)]at hS
  exact ⟨v,rfl,hS.sb⟩)
 have HU:=uQ (fun (w':World) (hw:Sat w0 w' (twoS s1 p1 s2 p2 n uv1 tv1 uv2 tv2 kv us B1 B2 F))=>show Calls Tryz.prog 27 #[uv1,uv2] w' (Rtn fun v w''=>v = .bool true∧Sat w0 w'' (twoS s1 p1 s2 p2 n uv1 tv1 uv2 tv2 kv us B1 B2 F)) from
  sameUses_c us (fun w hw=>Sat.rd (show Sat w0 w (osl 121 3 uv1 (us.flatMap uenc)::F) by unfold twoS at hw;exact hw.sb)) (fun w hw=>Sat.rd (show Sat w0 w (osl 121 3 uv2 (us.flatMap uenc)::F) by unfold twoS at hw;exact hw.sb)) hw hul)
 have HI:=uQ (fun (w':World) (hw:Sat w0 w' (twoS s1 p1 s2 p2 n uv1 tv1 uv2 tv2 kv us B1 B2 F))=>sameInts_c ts ht1 ht2 hw htl)
 have Hk:=uQ hk;have Hkl:=uQ hkl
 clear hri hk hkl hul hB1 hB2 ht1 ht2 htl HL
 generalize twoS s1 p1 s2 p2 n uv1 tv1 uv2 tv2 kv us B1 B2 F=T at *
 go_enter Tryz.func21,Tryz.ntmps21
 go_wp2_with fail
 have hSd:=h.drew
 have hG:=HG.out _ hSd
 refine wpL_begin [42,43,44] (fun w'=>w'.cell? ⟨s1,0,none⟩=some (.int .i64 n)∧w'.cell? ⟨s1,1,none⟩=some (ptr p1)∧w'.cell? ⟨s1,2,none⟩=some uv1∧w'.cell? ⟨s1,3,none⟩=some tv1∧w'.cell? ⟨s2,0,none⟩=some (.int .i64 n)∧w'.cell? ⟨s2,1,none⟩=some (ptr p2)∧w'.cell? ⟨s2,2,none⟩=some uv2∧w'.cell? ⟨s2,3,none⟩=some tv2) kRz ?_
 refine rP 0 ?_ (y:=mvQ)
 refine rP 1 ?_ (y:=nlQ)
 refine rP 2 ?_ (y:=flQ)
 refine rt 3 (h:=?_)
 refine rP 4 ?_ (y:=mvQ)
 refine rP 5 ?_ (y:=nlQ)
 refine rP 6 ?_ (y:=flQ)
 refine rt 7 (h:=?_)
 refine rP 8 ?_ (y:=bnQ)
 refine rP 9 ?_ (y:=mvQ)
 refine rP 10 ?_ (y:=(yg_move rFz evD))
 refine rP 11 ?_ (y:=(yg_nil rFz evD))
 refine rP 12 ?_ (y:=(yg_field rFz evD rnD))
 refine rg_take 13 evD kRz i3z (tg_load rFz evD kRz (by intro wq hq;first|exact hq|exact hq.1|exact hq.2|exact hq.2.1|exact hq.2.2|exact hq.2.2.1|exact hq.2.2.2|exact hq.2.2.2.1|exact hq.2.2.2.2)) aQ gQ ?_
 refine rP 15 ?_ (y:=(yg_move rFz evD))
 refine rP 16 ?_ (y:=(yg_nil rFz evD))
 refine rP 17 ?_ (y:=(yg_field rFz evD rnD))
 refine rg_take 18 evD kRz i3z (tg_load rFz evD kRz (fun wq hq=>hq.2.2.2.2.2.1)) aQ gQ ?_
 clear hG
 refine rg_eff 14 evD kRz (fun K hK=>?_)
 refine eg_call [ptr p1] rFz kRz rFz ?_
 refine (HR1.out _ hSd).mono ?_
 rintro e w14 ⟨v,rfl,h14⟩
 refine hK _ _ (.inr (.inl (HG.out _ h14.drop))) ?_
 clear hK hSd
 have hG:=HG.out _ h14.drop
 clear hG
 refine rg_eff 19 evD kRz (fun K hK=>?_)
 refine eg_call [ptr p2] rFz kRz rFz ?_
 refine (HR2.out _ _ h14).mono ?_
 rintro e w19 ⟨v2,rfl,h19⟩
 refine hK _ _ (.inr (.inl (HG.out _ h19.drop.drop))) ?_
 clear hK h14
 refine rg_eff 20 evD kRz (fun K hK=>?_)
 refine eg_call [v,v2] rFz kRz rFz ?_
 refine (sameIndex_c kv Hk.out (fun w hw=>Sat.rd hw.drop) (fun w hw=>Sat.rd hw) h19 Hkl.out).mono ?_
 rintro e w20 ⟨v3,rfl,rfl,h20⟩
 have h21:=h20.drop.drop
 clear h19 h20
 refine hK _ _ (.inr (.inl (HG.out _ h21))) ?_
 clear hK
 have hG:=HG.out _ h21
 refine rP 21 ?_ (y:=(yg_pick rFz evD evD))
 refine rP 22 ?_ (y:=mvQ)
 refine rP 23 ?_ (y:=(yg_move rFz evD))
 refine rP 24 ?_ (y:=(yg_nil rFz evD))
 refine rP 25 ?_ (y:=(yg_field rFz evD rnD))
 refine rg_take 26 evD kRz i3z (tg_load rFz evD kRz (fun wq hq=>hq.2.2.1)) aQ gQ ?_
 refine rP 27 ?_ (y:=(yg_move rFz evD))
 refine rP 28 ?_ (y:=(yg_nil rFz evD))
 refine rP 29 ?_ (y:=(yg_field rFz evD rnD))
 refine rg_take 30 evD kRz i3z (tg_load rFz evD kRz (fun wq hq=>hq.2.2.2.2.2.2.1)) aQ gQ ?_
 clear hG
 refine rg_eff 31 evD kRz (fun K hK=>?_)
 refine eg_call [uv1,uv2] rFz kRz rFz ?_
 refine (HU.out _ h21).mono ?_
 rintro e w31 ⟨v4,rfl,rfl,h31⟩
 clear h21
 refine hK _ _ (.inr (.inl (HG.out _ h31))) ?_
 clear hK
 have hG:=HG.out _ h31
 refine rP 32 ?_ (y:=(yg_pick rFz evD evD))
 refine rP 33 ?_ (y:=mvQ)
 refine rP 34 ?_ (y:=(yg_move rFz evD))
 refine rP 35 ?_ (y:=(yg_nil rFz evD))
 refine rP 36 ?_ (y:=(yg_field rFz evD rnD))
 refine rg_take 37 evD kRz i3z (tg_load rFz evD kRz (fun wq hq=>hq.2.2.2.1)) aQ gQ ?_
 refine rP 38 ?_ (y:=(yg_move rFz evD))
 refine rP 39 ?_ (y:=(yg_nil rFz evD))
 refine rP 40 ?_ (y:=(yg_field rFz evD rnD))
 refine rg_take 41 evD kRz i3z (tg_load rFz evD kRz (fun wq hq=>hq.2.2.2.2.2.2.2)) aQ gQ ?_
 clear hG
 refine rg_eff 42 evD kRz (fun K hK=>?_)
 refine eg_call [tv1,tv2] rFz kRz rFz ?_
 refine (HI.out _ h31).mono ?_
 rintro e w42 ⟨v5,rfl,rfl,h42⟩
 clear h31
 refine hK _ _ (.inl rfl) ?_
 clear hK
 refine rP 43 ?_ (y:=(yg_pick rFz evD evD))
 refine rP 44 ?_ (y:=asQ)
 refine wpL_done kRz ?_
 try simp only [ayQ]
 try go_frame
 go_wp2_with fail
 go_ret
 exact ⟨_,rfl,rfl,h42⟩
end
section
variable {w0 w:World}{F:List HProp}{s1 p1 s2 p2 B1 B2:Nat}{n:Int}{uv1 tv1 uv2 tv2:Value}{kv:List (Frm.Bs×Seg.Plc)}{us:List Rep.Use}
theorem two_cells (hw:Sat w0 w (twoS s1 p1 s2 p2 n uv1 tv1 uv2 tv2 kv us B1 B2 F)):w.cell? ⟨s1,0,none⟩=some (.int .i64 n)∧w.cell? ⟨s1,1,none⟩=some (ptr p1)∧w.cell? ⟨s1,2,none⟩=some uv1 ∧
  w.cell? ⟨s2,0,none⟩=some (.int .i64 n)∧w.cell? ⟨s2,1,none⟩=some (ptr p2)∧w.cell? ⟨s2,2,none⟩=some uv2:=
 have h1:Sat w0 w (stPt s1 n p1 uv1 tv1::TabML p1 (Tab.mapOf kv) B1::osl 121 3 uv1 (us.flatMap uenc)::stPt s2 n p2 uv2 tv2::TabML p2 (Tab.mapOf kv) B2::osl 121 3 uv2 (us.flatMap uenc)::F):=hw
 ⟨h1.cellP pick0 0 rfl,h1.cellP pick0 1 rfl,h1.cellP pick0 2 rfl,h1.cellP (pick_there (pick_there (pick_there pick0))) 0 rfl,h1.cellP (pick_there (pick_there (pick_there pick0))) 1 rfl,h1.cellP (pick_there (pick_there (pick_there pick0))) 2 rfl⟩
theorem two_rows1 (hri:kv.Pairwise fun a b=>a.1<b.1) (hB1:B1≤13000000) (hw:Sat w0 w (twoS s1 p1 s2 p2 n uv1 tv1 uv2 tv2 kv us B1 B2 F)) :
  Calls Tryz.prog 26 #[ptr p1] w (Rtn fun v w''=>Sat w0 w'' (osl 149 35 v (kv.flatMap kvL)::twoS s1 p1 s2 p2 n uv1 tv1 uv2 tv2 kv us B1 B2 F)):=by
 unfold twoS at hw ⊢
 refine (rows16_c hB1 (hw.sb:Sat w0 w (TabML p1 (Tab.mapOf kv) B1::stPt s1 n p1 uv1 tv1::osl 121 3 uv1 (us.flatMap uenc)::stPt s2 n p2 uv2 tv2::TabML p2 (Tab.mapOf kv) B2::osl 121 3 uv2 (us.flatMap uenc)::F))).mono ?_
 rintro e w'' ⟨v,rfl,kv',⟨hl,_,_⟩,hS⟩
 rw [Tab.Lists.unique hl (Tab.mapOf_lists hri)]at hS
 exact ⟨v,rfl,hS.sb⟩
theorem two_rows2 {G:HProp} (hri:kv.Pairwise fun a b=>a.1<b.1) (hB2:B2≤13000000) (hw:Sat w0 w (G::twoS s1 p1 s2 p2 n uv1 tv1 uv2 tv2 kv us B1 B2 F)) :
  Calls Tryz.prog 26 #[ptr p2] w (Rtn fun v w''=>Sat w0 w'' (osl 149 35 v (kv.flatMap kvL)::G::twoS s1 p1 s2 p2 n uv1 tv1 uv2 tv2 kv us B1 B2 F)):=by
 unfold twoS at hw ⊢
 refine (rows16_c hB2 (hw.sb:Sat w0 w (TabML p2 (Tab.mapOf kv) B2::G::stPt s1 n p1 uv1 tv1::TabML p1 (Tab.mapOf kv) B1::osl 121 3 uv1 (us.flatMap uenc)::stPt s2 n p2 uv2 tv2::osl 121 3 uv2 (us.flatMap uenc)::F))).mono ?_
 rintro e w'' ⟨v,rfl,kv',⟨hl,_,_⟩,hS⟩
 rw [Tab.Lists.unique hl (Tab.mapOf_lists hri)]at hS
 exact ⟨v,rfl,hS.sb⟩
theorem two_uses (hul:us.length≤1073741824) (hw:Sat w0 w (twoS s1 p1 s2 p2 n uv1 tv1 uv2 tv2 kv us B1 B2 F)) :
  Calls Tryz.prog 27 #[uv1,uv2] w (Rtn fun v w''=>v = .bool true∧Sat w0 w'' (twoS s1 p1 s2 p2 n uv1 tv1 uv2 tv2 kv us B1 B2 F)):=
 sameUses_c us (fun w hw=>Sat.rd (show Sat w0 w (osl 121 3 uv1 (us.flatMap uenc)::F) by unfold twoS at hw;exact hw.sb)) (fun w hw=>Sat.rd (show Sat w0 w (osl 121 3 uv2 (us.flatMap uenc)::F) by unfold twoS at hw;exact hw.sb)) hw hul
theorem two_rest (hw:Sat w0 w (twoS s1 p1 s2 p2 n uv1 tv1 uv2 tv2 kv us B1 B2 F)):Sat w0 w F:=by unfold twoS at hw;exact hw.sb
end
end Go.Proofs.YtlinnpehkfbnkaaGreatDoor
namespace Go.Hin
open Go.Med
open Go.Seg (Log Keeps Holds HG DoneH HintOk mag Plc)
open Go.Frm (Fnd encs GoodE fnds Ent)
open Go.Rep (Use)
section
variable {n K r E B c:Nat}{L:Log}{M M':Med}{C:List (List Ent)}{N:Int}{us:List Use}{ps:List (Bs×Plc)}{b1 b2:Frm.Bs}
theorem newestL_of:∀ (l:List ByteArray) (x:Int),x≤N→(∀ s∈l,(number s).2=true→(number s).1=N)→(x=N∨∃ s∈l,(number s).2=true)→newestL l x=N
 |[],x,_,_,h=>by
  rcases h with h|⟨s,hs,_⟩
  ·exact h
  ·cases hs
 |s::l,x,hx,hl,h=>by
  show newestL l (if (number s).2=true then max x (number s).1 else x)=N
  by_cases hs:(number s).2=true
  ·rw [if_pos hs,hl s (.head _) hs,Int.max_eq_right hx]
   exact newestL_of l N (Int.le_refl _) (fun t ht=>hl t (.tail _ ht)) (.inl rfl)
  ·rw [if_neg hs]
   refine newestL_of l x hx (fun t ht=>hl t (.tail _ ht)) ?_
   rcases h with h|⟨t,ht,he⟩
   ·exact .inl h
   ·rcases List.mem_cons.1 ht with rfl|ht
    ·exact absurd he hs
    ·exact .inr ⟨t,ht,he⟩
theorem Saved.newest (s:Saved N b1 b2 K L M M') (h:DoneH n L M C) (h1:0≤N) (h2:N<1048576):newest M'=N:=by
 obtain ⟨i,hi⟩:=s.one
 show newestL M'.list (-1)=N
 rw [s.calm.quiet.list]
 have ni:=number_of (.inl idx_l) N h1 h2
 have nu:=number_of (.inr use_l) N h1 h2
 refine newestL_of _ _ oQ (fun t ht he=>?_) (.inr ⟨_,List.mem_map.2 ⟨_,nget_mem hi,rfl⟩,by rw [ni]⟩)
 obtain ⟨p,hp,rfl⟩:=List.mem_map.1 ht
 rcases s.names p hp with q|q|q
 ·have hj:=nget_of_mem h.holds.keeps.calm.ok.nowOk.srt.keys (show (p.1,p.2)∈M.now from q)
  obtain ⟨k,_,k2⟩:=h.holds.only _ _ hj
  rw [k2,number_seg]at he
  cases he
 ·rw [q,ni]
 ·rw [q,nu]
theorem Saved.sizes (s:Saved N b1 b2 K L M M') (h:DoneH n L M C) (h1:0≤N) (h2:N<1048576):∀ f∈M'.list,f.size≤4000000000:=fun f hf=>by
 have hsz:∀ ld:ByteArray,ld.data.toList.length=4→(name ld N).size=12:=fun ld hl=>by
  show (name ld N).data.size=12
  rw [← Array.length_toList,name_eq ld N h1 h2,List.length_append,hl,Seg.digs_len]
 rw [s.calm.quiet.list]at hf
 obtain ⟨p,hp,rfl⟩:=List.mem_map.1 hf
 rcases s.names p hp with q|q|q
 ·have hj:=nget_of_mem h.holds.keeps.calm.ok.nowOk.srt.keys (show (p.1,p.2)∈M.now from q)
  obtain ⟨k,_,k2⟩:=h.holds.only _ _ hj
  rw [k2]
  rcases seg_name (k:Int) with z|⟨z,_⟩
  ·rw [z];decide
  ·rw [z];decide
 ·rw [q,hsz idx rfl];decide
 ·rw [q,hsz use rfl];decide
theorem HintOk.lies (h:HintOk L c us ps) (hL:L.Ok):∀ q∈ps,Hin.lies q.2 (Hin.sizes us)=true∧IntKind.i64.wrap (Hin.sizes us q.2.seg - q.2.at_)=Hin.sizes us q.2.seg - q.2.at_:=fun q hq=>by
 obtain ⟨p1,p2,p3,p4⟩:=h.plc q hq
 have hz:=HintOk.size h p4
 have hnd:(us.map (·.seg)).Nodup:=by
  rw [h.segs]
  exact (((Seg.segs_rise hL).sublist (List.take_sublist _ _)).imp fun {a b} hab=>by omega)
 have hm:q.2.seg∈us.map (·.seg):=by rw [h.segs];exact p4
 obtain ⟨u,hu,he⟩:=List.mem_map.1 hm
 obtain ⟨_,_,u3,_⟩:=h.use u hu
 have hs:Hin.sizes us q.2.seg=L.size q.2.seg:=by rw [← he,sizes_at hnd hu,u3]
 rw [hs]
 refine ⟨?_,IntWalk.i64_in _ oQ⟩
 unfold Hin.lies
 rw [decide_eq_true p1,decide_eq_true p2,hs,decide_eq_true (by omega:q.2.size≤L.size q.2.seg - q.2.at_)]
 rfl
end
section
variable {n K r E B c:Nat}{L:Log}{M M':Med}{C:List (List Ent)}{N:Int}{us:List Use}{ps:List (Bs×Plc)}{b1 b2:Frm.Bs}
theorem DoneH.le (h:DoneH n L M C) (hN:N=(C.length:Int) - 1):∀ s∈L.segs,s≤N:=fun s hs=>by
 obtain ⟨h1,h2⟩:=h.holds.segs
 obtain ⟨j,hj⟩:=List.getElem?_of_mem hs
 have hjl:j<C.length:=by rw [← h1];exact (List.getElem?_eq_some_iff.1 hj).1
 have hj2:=h2 j hjl
 rw [hj]at hj2
 cases hj2
 omega
theorem DoneH.none_past (h:DoneH n L M C) (hN:N=(C.length:Int) - 1):(L.segs.filter fun s=>decide (N<s))=[]:=by
 rw [List.filter_eq_nil_iff]
 intro s hs
 have:=DoneH.le h hN s hs
 simp;omega
theorem DoneH.fits (h:DoneH n L M C) (hN:N=(C.length:Int) - 1) (ho:HintOk L C.length us ps):Hin.fits L us N=true:=by
 have hsg:us.map (·.seg)=L.segs:=ho.segs.trans (DoneH.taken h)
 have hle:=DoneH.le h hN
 unfold Hin.fits
 refine fits_yes (fun u hu=>?_) ?_ L.segs 0 [] (by rw [List.drop_zero,List.append_nil,hsg]) (fun s hs=>by cases hs) (Nat.zero_le _)
 ·obtain ⟨u1,u2,u3,u4⟩:=ho.use u hu
  exact ⟨hle _ (by rw [← hsg];exact List.mem_map.2 ⟨u,hu,rfl⟩),u3,u2⟩
 ·rw [← List.getLast?_map,hsg,(DoneH.lastOf h).2,hN]
end
end Go.Hin
namespace Go.Proofs.YtlinnpehkfbnkaaGreatDoor
open Go Go.Sl Go.Med Go.MapKept Go.RowKit
section
variable {w0 w:World}{F:List HProp}{lv mv:Value}
set_option maxRecDepth 20000 in
theorem hints_back_c (z:Int) (ds:List SD) (hr:Ro w0 F (rdsl 40 lv (sdsL ds))) (he:∀ d∈ds,SDRo w0 F d) (xs:List SD) (hrx:Ro w0 F (rdsl 40 mv (sdsL xs))) (hex:∀ d∈xs,SDRo w0 F d) (la:Option Addr) (ln lc:Nat) (h1n:ln≤lc) (h2n:lc≤9223372036854775807) (cr:List Int) (hcr:Ro w0 F (rdsl 1 (.slice la ln lc) (ints cr))) (hci:∀ x∈cr,inI x) (hH:Ro w0 F Half) (h:Sat w0 w F) :
  Calls Tryz.prog 4 #[.int .i64 z,lv,mv,.slice la ln lc] w (Rtn fun v w'=>v = .bool true∧Sat w0 w' F):=by
 have Hr:=uQ hr;have He:=uQ he;have HH:=uQ hH;have Hrx:=uQ hrx;have Hex:=uQ hex;have Hcr:=uQ hcr;have Hci:=uQ hci;have Hln:=uQ (And.intro h1n h2n)
 clear hr he hH hrx hex hcr hci h1n h2n
 go_enter Tryz.func4,Tryz.ntmps4
 go_wp2_with fail
 refine (fewH_c ds 30 dCz Hr.out He.out h).mono ?_
 rintro ee w1 ⟨v,rfl,es,ov,rfl,hes,_,h1⟩
 obtain ⟨p1,p2,p3,p4,p5⟩:=few_played (w0:=w0) (F:=F) (ov:=v) hes (fun d hd=>(He.out d hd).key)
 have hpl:=played16_c z es p4 p5 oQ p3 (Ro.os HH.out) h1
 have Hn:=uQ p2
 clear p1 p2 p3 p4 p5 hes h1 h
 go_wp2_with fail
 refine hpl.mono ?_
 rintro ee w2 ⟨v,rfl,p,m,L,M,C,rfl,⟨hD,hC,hlm⟩,h2⟩
 have HD:=uQ hD;have Hlm:=uQ hlm
 clear hpl hlm hC hD
 have h4:Sat w0 w2 (LogRep p m L::MedRep m M::F):=h2.sb
 clear h2
 go_wp2_with fail
 have hn100:es.length+1≤100:=by have:=Hn.out;omega
 have Hn1:=uQ hn100
 have HL:=uQ HD.out.holds.keeps.log;have HC:=uQ HD.out.holds.keeps.calm
 have hrl:=Hin.DoneH.rows_len HD.out
 have hrn:=run_c HL.out HC.out.ok (Ro.os HH.out) (Nat.le_trans hrl (Nat.le_trans hn100 dCz)) (Hin.DoneH.rows_size HD.out) h4
 clear h4 hn100 hrl
 refine hrn.mono ?_
 rintro ee w5 ⟨v,rfl,ho⟩
 clear hrn
 obtain ⟨hrun,hsl,hpos⟩:=HD.out.run
 have hrun':Rep.run (lbt L M) L.segs = .inr C.length:=hrun
 unfold RunOut at ho
 rw [hrun']at ho
 obtain ⟨ps,pi,uv,tv,av,kv,rfl,⟨hk1,hk3,hk4⟩,⟨⟨ta,tc,rfl⟩,htv⟩,h5⟩:=ho
 rw [Hin.DoneH.taken HD.out]at hk1 hk4 h5
 obtain ⟨hlast,hlast2⟩:=Hin.DoneH.lastOf HD.out
 rw [hlast,hsl,Nat.sub_self]at h5
 clear htv
 have Hho:=uQ (Hin.DoneH.hint HD.out (by have:=Hn1.out;omega) hk1 hk3)
 have Hpl:=uQ (show (Rep.puts kv).length≤100 from Nat.le_trans (by unfold Rep.puts;rw [List.length_map];exact List.length_filter_le _ _) (Nat.le_trans hk4 (Nat.le_trans (Hin.DoneH.rows_len HD.out) Hn1.out)))
 have Hkl:=uQ (show kv.length≤13000000 from Nat.le_trans hk4 (Nat.le_trans (Hin.DoneH.rows_len HD.out) (Nat.le_trans Hn1.out dCz)))
 have Hul:=uQ (show ((Rep.usesOf (lbt L M) L.segs).map (Rep.upd kv)).length=C.length by unfold Rep.usesOf;rw [List.length_map,List.length_map,hsl])
 have Hli:=uQ (show Tab.Lists (Tab.mapOf (Rep.puts kv)) (Rep.puts kv) from Tab.mapOf_lists (Rep.puts_rise hk1.rise))
 have Hsl:=uQ hsl
 have Hc0:=uQ hpos
 have Hc1:=uQ (show C.length≤100 from Nat.le_trans HD.out.holds.count Hn1.out)
 have Hl2:=uQ hlast2
 clear hrun hrun' hk1 hk3 hk4 hlast hlast2 hsl hpos
 replace Hho:=uQ (show Seg.HintOk L C.length ((Rep.usesOf (lbt L M) L.segs).map (Rep.upd kv)) (Rep.puts kv) from Hho.out)
 generalize (Rep.usesOf (lbt L M) L.segs).map (Rep.upd kv)=us at *
 generalize kv.length=B at *
 generalize Rep.puts kv=pl at *
 have Hoi:=uQ (Hin.HintOk.idx Hho.out HL.out (Nat.le_trans Hpl.out dCz))
 have Hou:=uQ (Hin.HintOk.uses Hho.out HL.out (by rw [Hul.out];exact Nat.le_trans Hc1.out dCz))
 have HB:=uQ (Hin.books_len (X:=Xx.sum) Hoi.out Hou.out (Nat.le_trans Hpl.out dCz) (by rw [Hul.out];exact Nat.le_trans Hc1.out dCz))
 have HN:=uQ (show 0≤(C.length:Int) - 1∧(C.length:Int) - 1<1048576 by have:=Hc0.out;have:=Hc1.out;omega)
 obtain ⟨N,hN⟩:∃ N,N=(C.length:Int) - 1:=⟨_,rfl⟩
 rw [← hN]at h5
 have HNe:=uQ hN
 rw [← hN]at HN
 clear hN
 go_wp2_with (with_reducible apply at_alloc)
 refine ⟨wl_alloc zFlt h5 rfl ?_⟩
 intro b10 w6 h6
 clear h5
 go_wp2_with (with_reducible apply at_store)
 refine ⟨wl_storeA (fltA Rep.Flt.zero) h6 rFz rFz rFz upd0 kRz rFz ?_⟩
 intro w7 h7
 clear h6
 have h8:=h7.drew
 clear h7
 obtain ⟨bi,hbi⟩:∃ bi,bi=Bok.book Xx.sum Bok.mgIdx true (pl.map Rep.idxRw):=⟨_,rfl⟩
 obtain ⟨bu,hbu⟩:∃ bu,bu=Bok.book Xx.sum Bok.mgUse false (us.map Rep.useRw):=⟨_,rfl⟩
 have hB:=HB.out
 rw [← hbi,← hbu]at hB
 have hsv:=hsave_c HC.out.ok (by have:=Hn1.out;omega) HN.out.1 HN.out.2 pl Hli.out Hkl.out Hho.out.key us Hoi.out Hou.out bi bu hbi hbu (Hin.DoneH.others HD.out Hn1.out HN.out.1 HN.out.2 bi bu hB)
  (h8.sb:Sat w0 w7.drew (stPt ps N pi uv (.slice ta 0 tc)::TabML pi (Tab.mapOf pl) B::osl 121 3 uv (us.flatMap uenc)::MedRep m M::LogRep p m L::F))
 have hS0:=Hin.DoneH.saved HD.out Hn1.out HN.out.1 HN.out.2 hB
 have HS:=uQ hS0;have Hbi:=uQ hbi;have Hbu:=uQ hbu;have HBl:=uQ hB
 rw [HS.out.zero]at hsv
 obtain ⟨MS,hMS⟩:∃ MS,MS=(Hin.save M N bi bu).1:=⟨_,rfl⟩
 rw [← hMS]at hsv HS
 have hG:w7.drew.cell? ⟨ps,0,none⟩=some (.int .i64 N):=(h8.sb:Sat w0 w7.drew (stPt ps N pi uv (.slice ta 0 tc)::F)).cellP pick0 0 rfl
 clear h8 hbi hbu hB hS0 hMS
 go_wp2_with fail
 refine wpL_begin [19,20] (fun w'=>w'.cell? ⟨ps,0,none⟩=some (.int .i64 N)) kRz ?_
 refine rP 0 ?_ (y:=mvQ)
 refine rP 1 ?_ (y:=bnQ)
 refine rP 2 ?_ (y:=mvQ)
 refine rP 3 ?_ (y:=(yg_move rFz evD))
 refine rP 4 ?_ (y:=(yg_bin rFz evD evD rnD))
 refine rP 5 ?_ (y:=(yg_pick rFz evD evD))
 refine rP 6 ?_ (y:=mvQ)
 refine rP 7 ?_ (y:=(yg_move rFz evD))
 refine rP 8 ?_ (y:=(yg_move rFz evD))
 clear hG
 refine rg_eff 9 evD kRz (fun K hK=>?_)
 refine eg_call [ptr m,ptr ps] rFz kRz rFz ?_
 refine hsv.mono ?_
 rintro ee w8 ⟨v,rfl,rfl,h8⟩
 clear hsv
 have hG:w8.cell? ⟨ps,0,none⟩=some (.int .i64 N):=h8.cellP pick0 0 rfl
 refine hK _ _ (.inr (.inl hG)) ?_
 clear hK
 have hnw:=newest_c HS.out.calm.ok (HS.out.sizes HD.out HN.out.1 HN.out.2) (h8.sb:Sat w0 w8 (MedRep m MS::stPt ps N pi uv (.slice ta 0 tc)::TabML pi (Tab.mapOf pl) B::osl 121 3 uv (us.flatMap uenc)::LogRep p m L::F))
 rw [HS.out.newest HD.out HN.out.1 HN.out.2]at hnw
 have hb:(N != N)=false:=bne_self_eq_false ..
 clear h8
 refine rP 10 ?_ (y:=(yg_bin rFz evD evD rnD))
 refine rP 11 ?_ (y:=(yg_pick rFz evD evD))
 refine rP 12 ?_ (y:=mvQ)
 refine rP 13 ?_ (y:=(yg_move rFz evD))
 refine rP 15 ?_ (y:=(yg_move rFz evD))
 refine rP 16 ?_ (y:=(yg_nil rFz evD))
 refine rP 17 ?_ (y:=(yg_field rFz evD rnD))
 refine rg_take 18 evD kRz i3z (tg_load rFz evD kRz (by intro wq hq;first|exact hq|exact hq.1|exact hq.2|exact hq.2.1|exact hq.2.2|exact hq.2.2.1|exact hq.2.2.2|exact hq.2.2.2.1|exact hq.2.2.2.2)) aQ gQ ?_
 clear hG
 refine rg_eff 14 evD kRz (fun K hK=>?_)
 refine eg_call [ptr m] rFz kRz rFz ?_
 refine hnw.mono ?_
 rintro ee w9 ⟨v,rfl,rfl,h9⟩
 clear hnw
 have hG:w9.cell? ⟨ps,0,none⟩=some (.int .i64 N):=h9.cellP pick1 0 rfl
 refine hK _ _ (.inr (.inl hG)) ?_
 clear hK
 refine rP 19 ?_ (y:=(yg_bin rFz evD evD rnD))
 refine rP 20 ?_ (y:=(yg_pick rFz evD evD))
 refine wpL_done kRz ?_
 try simp only [ayQ]
 try go_frame
 go_wp2_with fail
 have hal:=HS.out.all
 have hld:=hloadY_c HL.out HS.out.calm.ok (size_empty HS.out.calm.ok HS.out.calm.quiet.off) hal.2.2.1 hal.2.2.2 pl Hho.out.key us Hoi.out Hou.out (hal.1.trans (by rw [Hbi.out])) (hal.2.1.trans (by rw [Hbu.out])) (Hin.DoneH.fits HD.out HNe.out Hho.out) (Hin.HintOk.lies Hho.out HL.out)
  (h9.sb:Sat w0 w9 (LogRep p m L::MedRep m MS::stPt ps N pi uv (.slice ta 0 tc)::TabML pi (Tab.mapOf pl) B::osl 121 3 uv (us.flatMap uenc)::F))
 rw [Hin.DoneH.none_past HD.out HNe.out]at hld
 clear h9 hG hal hb
 refine hld.mono ?_
 rintro ee w10 ⟨v,rfl,ps2,pi2,uv2,tv2,rfl,h10⟩
 clear hld
 have h11:Sat w0 w10 (twoS ps pi ps2 pi2 N uv (.slice ta 0 tc) uv2 tv2 pl us B pl.length (osl 3 1 tv2 (ints [])::LogRep p m L::MedRep m MS::F)):=by
  unfold twoS
  exact h10.sb
 have hsm:=same16_c Hho.out.rise Hho.out.key (Nat.le_trans Hpl.out dCz) (by rw [Hul.out];exact Nat.le_trans Hc1.out dCz) Hkl.out (Nat.le_trans Hpl.out dCz) [] dCz
  (fun w hw=>⟨ta,0,tc,rfl,rfl,fun j x hj=>by cases hj⟩) (fun w hw=>Sat.rd (show Sat w0 w (osl 3 1 tv2 (ints [])::F) by unfold twoS at hw;exact hw.sb)) h11
 clear h10 h11
 go_wp2_with fail
 refine hsm.mono ?_
 rintro ee w12 ⟨v,rfl,rfl,h12⟩
 clear hsm
 unfold twoS at h12
 have h13:Sat w0 w12 (LogRep p m L::MedRep m MS::stPt ps N pi uv (.slice ta 0 tc)::TabML pi (Tab.mapOf pl) B::osl 121 3 uv (us.flatMap uenc)::F):=h12.sb
 clear h12
 go_wp2_with fail
 refine (fewH_c xs 10 dCz (Ro.os Hrx.out) (fun d hd=>(Hex.out d hd).of_sub (fun w hw=>hw.sb)) h13).mono ?_
 rintro ee w14 ⟨v,rfl,ys,ov2,rfl,hys,_,h14⟩
 obtain ⟨q1,q2,q3,_,_⟩:=few_played (w0:=w0) (F:=F) (ov:=v) hys (fun d hd=>(Hex.out d hd).key)
 obtain ⟨oa,oc,rfl⟩:=sds_len q1 h14
 obtain ⟨i1,i2,_,_,hmo,hT,hFl⟩:=HS.out.more HD.out Hn1.out HN.out.1 HN.out.2 HNe.out HBl.out
 have HMo:=uQ (show ∀ i,i≤ys.length→∃ C',Hin.More (Hin.keptAll L M N i1 i2 bi bu) (Hin.newer N) N ((es.length+1) * 5+10+4 * i) 2 100000 (es.length+1+i) (Hin.appendsL ((ys.take i).map (·.c.e)) L MS).1 (Hin.appendsL ((ys.take i).map (·.c.e)) L MS).2 C' from fun i hi=>by
  have hl:((ys.take i).map (·.c.e)).length=i:=by rw [List.length_map,List.length_take];omega
  have:=Hin.More.all hT Hin.newer_name ((ys.take i).map (·.c.e)) _ _ L MS C hmo (fun x hx=>by
   obtain ⟨d,hd,rfl⟩:=List.mem_map.1 hx
   exact ⟨q1 d (List.mem_of_mem_take hd),q3 d (List.mem_of_mem_take hd)⟩) (by rw [hl];have:=Hn1.out;omega)
  rw [hl]at this
  exact this)
 have HFl:=uQ hFl
 have Hyk:=uQ q1;have Hyl:=uQ q2;have Hyd:=uQ q3
 clear q1 q2 q3 hys h13 hmo hT hFl
 have h15:Sat w0 w14 (LogRep p m (Hin.appendsL ((ys.take 0).map (·.c.e)) L MS).1::MedRep m (Hin.appendsL ((ys.take 0).map (·.c.e)) L MS).2::stPt ps N pi uv (.slice ta 0 tc)::TabML pi (Tab.mapOf pl) B::osl 121 3 uv (us.flatMap uenc)::osl 63 40 (.slice oa ys.length oc) (sdsL ys)::dataD ys::F):=h14.sb
 clear h14
 go_wp2_with fail
 go_loopg [17] ys.length (fun g iq wr=>∃ i:Nat,g=ys.length - i∧i≤ys.length∧iq = .int .i64 i ∧
  Sat w0 wr (LogRep p m (Hin.appendsL ((ys.take i).map (·.c.e)) L MS).1::MedRep m (Hin.appendsL ((ys.take i).map (·.c.e)) L MS).2::stPt ps N pi uv (.slice ta 0 tc)::TabML pi (Tab.mapOf pl) B::osl 121 3 uv (us.flatMap uenc)::osl 63 40 (.slice oa ys.length oc) (sdsL ys)::dataD ys::F))
 case atStart=>exact ⟨0,rfl,Nat.zero_le _,rfl,h15⟩
 case round=>
  obtain ⟨i,rfl,hi,rfl,hS⟩:=hrel
  clear h15
  obtain ⟨C',hm⟩:=HMo.out i hi
  have hok:=hm.hg.keeps.log
  have hmk:=hm.hg.keeps.calm.ok
  by_cases hlt:i<ys.length
  ·have c1:(i:Int)<(ys.length:Int):=by omega
   have hwi:IntKind.i64.wrap ((i:Int)+1)=(i:Int)+1:=IntWalk.i64_in _ (by have:=Hyl.out;omega)
   obtain ⟨d,hdi⟩:∃ d,ys[i]?=some d:=⟨_,List.getElem?_eq_getElem hlt⟩
   have Hlt:=uQ hlt
   have Hap:=uQ (show Hin.appendsL ((ys.take (i+1)).map (·.c.e)) L MS=((Hin.appendsL ((ys.take i).map (·.c.e)) L MS).1.append (Hin.appendsL ((ys.take i).map (·.c.e)) L MS).2 d.c.e).1 by
    rw [List.take_add_one,hdi,Option.toList_some,List.map_append]
    exact Hin.appendsL_snoc _ _ _ _)
   have Hro:=uQ (fun R=>dataD_ro (w0:=w0) (R:=R) hdi)
   obtain ⟨bk,off,c',hov,hcells⟩:=sds_at Hyk.out hdi (hS.pk (A:=osl 63 40 (.slice oa ys.length oc) (sdsL ys)))
   cases hov
   have hdk:=Hyk.out d (List.mem_of_getElem? hdi)
   have hdd:=Hyd.out d (List.mem_of_getElem? hdi)
   obtain ⟨⟨kind,xe,xn,xp,xl⟩,xdv,xlv⟩:=d
   obtain ⟨xda,xdn,xdc,rfl,hxl,_⟩:=(Hro.out _) _ (hS.pk)
   rw [bys_len,Nat.mul_one]at hxl
   dsimp only at hxl
   subst hxl
   have HC:=uQ (show ∀ j v,(entL xe (.slice xda xe.data.length xdc))[j]?=some v→wr.cell? ⟨bk,off+i * 40+1+j,none⟩=some v from fun j v hj=>by
    have:=hcells (1+j) v (sdL_ent ⟨⟨kind,xe,xn,xp,xl⟩,.slice xda xe.data.length xdc,xlv⟩ hdk hj)
    rw [← Nat.add_assoc]at this;exact this)
   have Hxk:=uQ (show xe.key.length=32 from hdk)
   have hap:=lappend_c xe Hxk.out xda xdc (Ro.op (Hro.out _)) (Ro.os HH.out) (Nat.le_trans hdd dCz) hok hmk (by have:=Hn1.out;have:=Hyl.out;omega) hS
   dsimp only at Hap
   rw [← Hap.out]at hap
   clear hcells hdk hdd hdi hlt hi hm hok hmk hS
   go_wp2_with ((with_reducible refine at_load ⟨?_⟩);refine wl_loadW (b:=bk) (o:=off+i * 40+1) (entL xe (.slice xda xe.data.length xdc)) rFz HC.out Tryz.underlying27 rfl (by rw [entL_len _ _ Hxk.out];exact infoEntSize) ?_)
   refine hap.mono ?_
   rintro ee w16 ⟨v,rfl,rfl,h16⟩
   clear hap
   go_wp2_with fail
   go_roundg (ys.length - (i+1))
   case measure=>have:=Hlt.out;omega
   case rel=>exact ⟨i+1,rfl,Nat.succ_le_of_lt Hlt.out,by first|rfl|go_num,h16⟩
  ·have c1:¬ (i:Int)<(ys.length:Int):=by omega
   obtain rfl:i=ys.length:=by omega
   have hdr:=hm.hd
   generalize Hin.appendsL ((ys.take ys.length).map (·.c.e)) L MS=q at *
   obtain ⟨LQ,MQ⟩:=q
   dsimp only at hS hdr hmk
   obtain ⟨a1,a2,a3,a4,a5,a6⟩:=Hin.Hd.crash HD.out hdr HFl.out HN.out.1 HN.out.2 (cr.take 60)
   have hcra:=crash_c hmk (by have:=Hn1.out;have:=Hyl.out;omega) (hS.sb:Sat w0 wr (MedRep m MQ::stPt ps N pi uv (.slice ta 0 tc)::TabML pi (Tab.mapOf pl) B::osl 121 3 uv (us.flatMap uenc)::F)) (cr.take 60) (lv:= .slice la (min ln 60) lc) (fun w hw=>rdsl_cutI (Hcr.out w (hw.sb))) ⟨_,_,_,rfl,Nat.le_trans (Nat.min_le_left _ _) Hln.out.1,Hln.out.2⟩ (fun x hx=>Hci.out x (List.mem_of_mem_take hx))
   have hnum:=numbers_c la ln lc 60 Hln.out.1 Hln.out.2 wr
   generalize MQ.crash (cr.take 60)=M4 at *
   have hlim:=within_mem z 128 2000 dCz
   have hwi:=within_c z 128 2000
   generalize within z 128 2000=lim at *
   have hl1:128≤lim:=hlim.1
   have hl2:lim≤1048576:=oQ
   obtain ⟨f1,f2,f3⟩:=Hin.Anew.fits a1 a6 HL.out lim hl1 hl2 Hho.out (Hin.DoneH.taken HD.out) (by rw [HNe.out];exact Hl2.out)
   have hof:=a1.off
   have hfo:=Seg.fresh_ok a6 lim hl1 hl2
   have A2:=uQ a2;have A3:=uQ a3;have A4:=uQ a4;have A5:=uQ a5;have A6:=uQ a6;have F1:=uQ f1;have FO:=uQ hfo;have OF:=uQ hof;have L1:=uQ hl1;have L2:=uQ hl2
   clear a1 a2 a3 a4 a5 a6 f1 f2 f3 hof hfo hl1 hl2 hlim hS hdr hm hok hmk hlt hi HMo
   go_wp2_with fail
   refine hnum.mono ?_
   rintro ee w16 ⟨v,rfl,rfl,rfl⟩
   clear hnum
   go_wp2_with fail
   refine hcra.mono ?_
   rintro ee w17 ⟨v,rfl,h17⟩
   clear hcra
   go_wp2_with fail
   refine (hwi _).mono ?_
   rintro ee w18 ⟨v,rfl,rfl,rfl⟩
   clear hwi
   have hop:=open_c A6.out lim h17 (by unfold Seg.alive;rw [size_empty A6.out OF.out];rfl) L1.out L2.out
   clear h17
   go_wp2_with fail
   refine hop.mono ?_
   rintro ee w19 ⟨v,rfl,p2,rfl,h19⟩
   clear hop
   have e0:w19.cell? ⟨ps,0,none⟩=some (.int .i64 N):=h19.cellP pick2 0 rfl
   have hld:=hloadY_c FO.out A6.out (size_empty A6.out OF.out) A4.out A5.out pl Hho.out.key us Hoi.out Hou.out (A2.out.trans (by rw [Hbi.out])) (A3.out.trans (by rw [Hbu.out])) F1.out (Hin.HintOk.lies Hho.out HL.out) h19
   go_wp2_with fail
   refine hld.mono ?_
   rintro ee w20 ⟨v,rfl,ps3,pi3,uv3,tv3,rfl,h20⟩
   clear hld h19 e0
   have h21:Sat w0 w20 (twoS ps3 pi3 ps pi N uv3 tv3 uv (.slice ta 0 tc) pl us pl.length B F):=by
    unfold twoS
    exact h20.sb
   clear h20
   go_wp2_with fail
   have hSd:=h21.drew
   clear h21
   have hG:=two_cells hSd
   have Hpm:=uQ (Nat.le_trans Hpl.out dCz:pl.length≤13000000)
   have Hun:=uQ (show us.length≤1073741824 by rw [Hul.out];exact Nat.le_trans Hc1.out dCz)
   refine wpL_begin [31,32,33,34,35,36] (fun w'=>w'.cell? ⟨ps3,0,none⟩=some (.int .i64 N)∧w'.cell? ⟨ps3,1,none⟩=some (ptr pi3)∧w'.cell? ⟨ps3,2,none⟩=some uv3∧w'.cell? ⟨ps,0,none⟩=some (.int .i64 N)∧w'.cell? ⟨ps,1,none⟩=some (ptr pi)∧w'.cell? ⟨ps,2,none⟩=some uv) kRz ?_
   refine rP 0 ?_ (y:=mvQ)
   refine rP 1 ?_ (y:=nlQ)
   refine rP 2 ?_ (y:=flQ)
   refine rt 3 (h:=?_)
   refine rP 4 ?_ (y:=mvQ)
   refine rP 5 ?_ (y:=nlQ)
   refine rP 6 ?_ (y:=flQ)
   refine rt 7 (h:=?_)
   refine rP 8 ?_ (y:=bnQ)
   refine rP 9 ?_ (y:=mvQ)
   refine rP 10 ?_ (y:=(yg_move rFz evD))
   refine rP 11 ?_ (y:=(yg_nil rFz evD))
   refine rP 12 ?_ (y:=(yg_field rFz evD rnD))
   refine rg_take 13 evD kRz i3z (tg_load rFz evD kRz (by intro wq hq;first|exact hq|exact hq.1|exact hq.2|exact hq.2.1|exact hq.2.2|exact hq.2.2.1|exact hq.2.2.2|exact hq.2.2.2.1|exact hq.2.2.2.2)) aQ gQ ?_
   refine rP 15 ?_ (y:=(yg_move rFz evD))
   refine rP 16 ?_ (y:=(yg_nil rFz evD))
   refine rP 17 ?_ (y:=(yg_field rFz evD rnD))
   refine rg_take 18 evD kRz i3z (tg_load rFz evD kRz (fun wq hq=>hq.2.2.2.2.1)) aQ gQ ?_
   clear hG
   refine rg_eff 14 evD kRz (fun K hK=>?_)
   refine eg_call [ptr pi3] rFz kRz rFz ?_
   refine (two_rows1 Hho.out.rise Hpm.out hSd).mono ?_
   rintro e w24 ⟨v,rfl,h24⟩
   refine hK _ _ (.inr (.inl (two_cells h24.drop))) ?_
   clear hK hSd
   refine rg_eff 19 evD kRz (fun K hK=>?_)
   refine eg_call [ptr pi] rFz kRz rFz ?_
   refine (two_rows2 Hho.out.rise Hkl.out h24).mono ?_
   rintro e w25 ⟨v2,rfl,h25⟩
   refine hK _ _ (.inr (.inl (two_cells h25.drop.drop))) ?_
   clear hK h24
   refine rg_eff 20 evD kRz (fun K hK=>?_)
   refine eg_call [v,v2] rFz kRz rFz ?_
   refine (sameIndex_c pl Hho.out.key (fun w hw=>Sat.rd hw.drop) (fun w hw=>Sat.rd hw) h25 (Nat.le_trans Hpl.out dCz)).mono ?_
   rintro e w26 ⟨v3,rfl,rfl,h26⟩
   have h27:=h26.drop.drop
   clear h25 h26
   refine hK _ _ (.inr (.inl (two_cells h27))) ?_
   clear hK
   have hG:=two_cells h27
   refine rP 21 ?_ (y:=(yg_pick rFz evD evD))
   refine rP 22 ?_ (y:=mvQ)
   refine rP 23 ?_ (y:=(yg_move rFz evD))
   refine rP 24 ?_ (y:=(yg_nil rFz evD))
   refine rP 25 ?_ (y:=(yg_field rFz evD rnD))
   refine rg_take 26 evD kRz i3z (tg_load rFz evD kRz (fun wq hq=>hq.2.2.1)) aQ gQ ?_
   refine rP 27 ?_ (y:=(yg_move rFz evD))
   refine rP 28 ?_ (y:=(yg_nil rFz evD))
   refine rP 29 ?_ (y:=(yg_field rFz evD rnD))
   refine rg_take 30 evD kRz i3z (tg_load rFz evD kRz (fun wq hq=>hq.2.2.2.2.2)) aQ gQ ?_
   clear hG
   refine rg_eff 31 evD kRz (fun K hK=>?_)
   refine eg_call [uv3,uv] rFz kRz rFz ?_
   refine (two_uses Hun.out h27).mono ?_
   rintro e w28 ⟨v4,rfl,rfl,h28⟩
   clear h27
   refine hK _ _ (.inl rfl) ?_
   clear hK
   have h29:=two_rest h28
   clear h28
   refine rP 32 ?_ (y:=(yg_pick rFz evD evD))
   refine rP 33 ?_ (y:=mvQ)
   refine rg_eff 34 evD kRz (fun K hK=>?_)
   refine eg_call [] rFz kRz rFz ?_
   refine (hlives_c h29).mono ?_
   rintro e w30 ⟨v5,rfl,rfl,h30⟩
   clear h29
   refine hK _ _ (.inl rfl) ?_
   clear hK
   refine rP 35 ?_ (y:=(yg_pick rFz evD evD))
   refine rP 36 ?_ (y:=asQ)
   refine wpL_done kRz ?_
   try simp only [ayQ]
   try go_frame
   go_wp2_with fail
   go_ret
   exact ⟨_,rfl,rfl,h30.sb⟩
end
end Go.Proofs.YtlinnpehkfbnkaaGreatDoor
namespace Go.Proofs.YtlinnpehkfbnkaaGreatDoor
open Go Go.Sl Go.Med Go.ChangeShapes Go.WideShapes Go.RowKit
structure SD.At (W:World) (d:SD):Prop where
 kind:inI d.c.kind
 e:EntAt W (d.c.e,d.dv)
 n:inI d.c.n
 p1:inI d.c.p.seg
 p2:inI d.c.p.at_
 p3:inI d.c.p.size
 rd:rdsl 1 d.lv (ints d.c.l) W
 cap:capOk d.lv
 ins:∀ i∈d.c.l,inI i
section
variable {H:Type}{enc:TypeId×Value→H}{W:World}{base:Nat}{spare:Nat→Bool}{held:Bool}
set_option maxRecDepth 100000 in
theorem open_sd {fuel:Nat}{cs:List Value}{x:DataW H×List MemPlace} (h:DataW.trod enc Tryz.prog W base spare held fuel 63 cs=some x):∃ d:SD,sdL d=cs∧d.At W:=by
 obtain ⟨hl,hf⟩:=open_fields Tryz.underlying63 h
 have e40:Tryz.prog.cellsOf 63=40:=by kernel_rfl
 have e1:Tryz.prog.cellsOf 3=1:=by kernel_rfl
 have e34:Tryz.prog.cellsOf 27=34:=by kernel_rfl
 have e3:Tryz.prog.cellsOf 54=3:=by kernel_rfl
 have e4:Tryz.prog.cellsOf 42=1:=by kernel_rfl
 rw [e40]at hl
 obtain ⟨n0,y0,h0⟩:=hf 0 _ rfl
 obtain ⟨n1,y1,h1⟩:=hf 1 _ rfl
 obtain ⟨n2,y2,h2⟩:=hf 2 _ rfl
 obtain ⟨n3,y3,h3⟩:=hf 3 _ rfl
 obtain ⟨n4,y4,h4⟩:=hf 4 _ rfl
 simp only [List.getElem_toArray,List.getElem_cons_zero,List.getElem_cons_succ,e1,e34,e3,e4,List.drop_zero]at h0 h1 h2 h3 h4
 obtain ⟨z0,q0,_,w0⟩:=DataW.trod_int Tryz.underlying3 h0
 obtain ⟨⟨ex,dv⟩,k1,k2⟩:=open_ent h1
 obtain ⟨z2,q2,_,w2⟩:=DataW.trod_int Tryz.underlying3 h2
 obtain ⟨a,b,c,q3,wa,wb,wc⟩:=open_plc h3
 have hd:∃ v,(cs.drop 39).take 1=[v]:=by
  have:((cs.drop 39).take 1).length=1:=by rw [List.length_take,List.length_drop];omega
  exact List.length_eq_one_iff.1 this
 obtain ⟨lv,hlv⟩:=hd
 rw [hlv]at h4
 obtain ⟨l6,r6,c6,i6⟩:=in_nums Tryz.underlying42 Tryz.underlying3 e1 h4
 refine ⟨⟨⟨z0,ex,z2,⟨a,b,c⟩,l6⟩,dv,lv⟩,?_,bounds_i64 w0,k2,bounds_i64 w2,wa,wb,wc,r6,c6,i6⟩
 show Value.int .i64 z0::(entL ex dv++[.int .i64 z2,.int .i64 a,.int .i64 b,.int .i64 c,lv])=cs
 have s1:cs=cs.take 1++((cs.drop 1).take 34++((cs.drop 35).take 1++((cs.drop 36).take 3++(cs.drop 39).take 1))):=by
  have a4:(cs.drop 39).take 1=cs.drop 39:=List.take_of_length_le (by rw [List.length_drop];omega)
  have a3:(cs.drop 36).take 3++cs.drop 39=cs.drop 36:=by
   rw [show cs.drop 39=(cs.drop 36).drop 3 by rw [List.drop_drop]];exact List.take_append_drop 3 _
  have a2:(cs.drop 35).take 1++cs.drop 36=cs.drop 35:=by
   rw [show cs.drop 36=(cs.drop 35).drop 1 by rw [List.drop_drop]];exact List.take_append_drop 1 _
  have a1:(cs.drop 1).take 34++cs.drop 35=cs.drop 1:=by
   rw [show cs.drop 35=(cs.drop 1).drop 34 by rw [List.drop_drop]];exact List.take_append_drop 34 _
  rw [a4,a3,a2,a1]
  exact (List.take_append_drop 1 cs).symm
 rw [s1,q0,← k1,q2,q3,hlv];rfl
theorem in_sds {fuel:Nat}{v:Value}{x:DataW H×List MemPlace} (h:DataW.trod enc Tryz.prog W base spare held fuel 22 [v]=some x) :
  ∃ ds:List SD,rdsl 40 v (sdsL ds) W∧capOk v∧∀ d∈ds,d.At W:=by
 obtain ⟨elems,h1,h2,h3⟩:=open_sl Tryz.underlying22 (k:=40) kRz oQ h
 obtain ⟨ds,h4,h5⟩:=map_of (f:=sdL) (p:=fun d=>d.At W) elems fun cs hcs=>by
  obtain ⟨_,n,y,h6⟩:=h3 cs hcs
  exact open_sd h6
 refine ⟨ds,?_,h2,h5⟩
 unfold sdsL
 rw [List.flatMap_def,h4]
 exact h1
theorem SD.At.ro {d:SD} (h:d.At W):SDRo W [Sl.old W] d:=⟨h.e.key,rd_old h.e.rd,h.e.cap,rd_old h.rd,h.cap⟩
end
end Go.Proofs.YtlinnpehkfbnkaaGreatDoor
namespace Go.Proofs.YtlinnpehkfbnkaaGreatDoor.card
open Go.ChangeShapes Go.WideShapes Go.ChangeAt Go.RowKit
open Go Go.Sl Go.Med
theorem gHalf:Tryz.prog.globalNamed "hoard/crc.half" = some 0:=by kernel_rfl
theorem tHalf:((Tryz.prog.globals[0]?).map (·.type))=some 295:=by kernel_rfl
theorem door_met (os:Os) (args:Array Value):laidMetH Tryz.prog [("hoard/crc.half",Rows.laid_hoard_crc_half)] ((World.doorLaid Tryz.prog 400 os).forCall (fun _ _=>0) ⟨#[],args,[]⟩).memory:=
 laidMetH_of_parts3 (fuel:=8) (laidMet_of_run' 8 kRz kRz) kRz kRz
theorem of_laid {W:World} (h:laidMetH Tryz.prog [("hoard/crc.half",Rows.laid_hoard_crc_half)] W):0<W.heap.size∧Half W:=by
 rw [MakeChecks.laidMetH_plain _ _ _ kRz]at h
 obtain ⟨ps,⟨g0,t0,cs0,f0,p0,q0,hg0,ht0,hv0,hd0,hrest⟩,hrest2⟩:=h
 obtain rfl:=Option.some.inj (gHalf.symm.trans hg0)
 obtain rfl:=Option.some.inj (tHalf.symm.trans ht0)
 obtain ⟨xs,m1,rfl,hx1,hlen,hn3,hel⟩:=DataW.trod_array Tryz.underlying295 hd0
 have c3:Tryz.prog.cellsOf 236=1:=by kernel_rfl
 simp only [Prod.mk.injEq,Rows.laid_hoard_crc_half,DataW.agg.injEq]at hx1
 have hH:Half W:=by
  intro i hi
  have h0:=hel i hi
  have hxi:xs[i]?=some (xs[i]'oQ):=List.getElem?_eq_getElem oQ
  rw [hxi]at h0
  obtain ⟨k,e1,e2,_⟩:=DataW.trod_int Tryz.underlying236 h0
  rw [c3,Nat.mul_one]at e1
  have hc:cs0.toList[i]?=some (.int .u32 k):=by
   have:((cs0.toList.drop i).take 1)[0]?=some (.int .u32 k):=by rw [e1];rfl
   rw [List.getElem?_take,if_pos dCz,List.getElem?_drop]at this
   exact this
  have hL:=congrArg (fun l=>l[i]?) hx1.1
  rw [List.getElem?_map,hxi]at hL
  have hk:k=((Frm.half.getD i 0:Nat):Int):=by
   rw [e2]at hL
   rcases i with _|_|_|_|_|_|_|_|_|_|_|_|_|_|_|_|i
   all_goals first|omega|(simp at hL;rw [← hL];rfl)
  subst hk
  have:=World.var?_cell hg0 hv0 i
  rw [this,← Array.getElem?_toList]
  exact hc
 refine ⟨?_,hH⟩
 by_cases hz:0<W.heap.size
 ·exact hz
 ·have h0:=hH 0 dCz
  have e:W.heap[0]?=none:=Array.getElem?_eq_none oQ
  simp [World.cell?,e]at h0
end Go.Proofs.YtlinnpehkfbnkaaGreatDoor.card
