import Derived.Test.YtlinnpehkfbnkaaGreatDoorJ11
import Derived.Test.YtlinnpehkfbnkaaGreatDoorRows
import Derived.Test.YtlinnpehkfbnkaaGreatDoorCards
import Derived.Test.YtlinnpehkfbnkaaGreatDoorTie
import Derived.ProofKit
import Derived.LaidMore
import Derived.OpenShut
import Derived.ShutString
import Derived.SevenTiedAt
set_option linter.unusedVariables false
set_option maxHeartbeats 128000000
namespace Go.Proofs.YtlinnpehkfbnkaaGreatDoor
open Go Go.Sl Go.Med Go.MapKept Go.RowKit
section
variable {w0 w:World}{F:List HProp}{lv:Value}
set_option maxRecDepth 20000 in
theorem hints_crash_c (z:Int) (ds:List SD) (hr:Ro w0 F (rdsl 40 lv (sdsL ds))) (he:∀ d∈ds,SDRo w0 F d) (tw:Bool) (arm:Int) (la:Option Addr) (ln lc:Nat) (h1n:ln≤lc) (h2n:lc≤9223372036854775807) (cr:List Int) (hcr:Ro w0 F (rdsl 1 (.slice la ln lc) (ints cr))) (hci:∀ x∈cr,inI x) (hH:Ro w0 F Half) (h:Sat w0 w F) :
  Calls Tryz.prog 5 #[.int .i64 z,lv,.bool tw,.int .i64 arm,.slice la ln lc] w (Rtn fun v w'=>v = .bool true∧Sat w0 w' F):=by
 have Hr:=uQ hr;have He:=uQ he;have HH:=uQ hH;have Hcr:=uQ hcr;have Hci:=uQ hci;have Hln:=uQ (And.intro h1n h2n)
 clear hr he hH hcr hci h1n h2n
 go_enter Tryz.func5,Tryz.ntmps5
 go_wp2_with fail
 refine (fewH_c ds 20 dCz Hr.out He.out h).mono ?_
 rintro ee w1 ⟨v,rfl,es,ov,rfl,hes,_,h1⟩
 obtain ⟨p1,p2,p3,p4,p5⟩:=few_played (w0:=w0) (F:=F) (ov:=v) hes (fun d hd=>(He.out d hd).key)
 have hpl:=played16_c z es p4 p5 oQ p3 (Ro.os HH.out) h1
 have Hn:=uQ p2
 clear p1 p2 p3 p4 p5 hes h1 h
 go_wp2_with fail
 refine hpl.mono ?_
 rintro ee w2 ⟨v,rfl,p,m,L,M,C,rfl,⟨hD,hC,hlm⟩,h2⟩
 have HD:=uQ hD;have Hlm:=uQ hlm
 clear hpl hlm hC hD
 have h4:Sat w0 w2 (LogRep p m L::MedRep m M::F):=h2.sb
 clear h2
 go_wp2_with fail
 have hn100:es.length+1≤100:=by have:=Hn.out;omega
 have Hn1:=uQ hn100
 have HL:=uQ HD.out.holds.keeps.log;have HC:=uQ HD.out.holds.keeps.calm
 have hrl:=Hin.DoneH.rows_len HD.out
 have hrn:=run_c HL.out HC.out.ok (Ro.os HH.out) (Nat.le_trans hrl (Nat.le_trans hn100 dCz)) (Hin.DoneH.rows_size HD.out) h4
 clear h4 hn100 hrl
 refine hrn.mono ?_
 rintro ee w5 ⟨v,rfl,ho⟩
 clear hrn
 obtain ⟨hrun,hsl,hpos⟩:=HD.out.run
 have hrun':Rep.run (lbt L M) L.segs = .inr C.length:=hrun
 unfold RunOut at ho
 rw [hrun']at ho
 obtain ⟨ps,pi,uv,tv,av,kv,rfl,⟨hk1,hk3,hk4⟩,⟨⟨ta,tc,rfl⟩,htv⟩,h5⟩:=ho
 rw [Hin.DoneH.taken HD.out]at hk1 hk4 h5
 obtain ⟨hlast,hlast2⟩:=Hin.DoneH.lastOf HD.out
 rw [hlast,hsl,Nat.sub_self]at h5
 clear htv
 have Hho:=uQ (Hin.DoneH.hint HD.out (by have:=Hn1.out;omega) hk1 hk3)
 have Hpl:=uQ (show (Rep.puts kv).length≤100 from Nat.le_trans (by unfold Rep.puts;rw [List.length_map];exact List.length_filter_le _ _) (Nat.le_trans hk4 (Nat.le_trans (Hin.DoneH.rows_len HD.out) Hn1.out)))
 have Hkl:=uQ (show kv.length≤13000000 from Nat.le_trans hk4 (Nat.le_trans (Hin.DoneH.rows_len HD.out) (Nat.le_trans Hn1.out dCz)))
 have Hul:=uQ (show ((Rep.usesOf (lbt L M) L.segs).map (Rep.upd kv)).length=C.length by unfold Rep.usesOf;rw [List.length_map,List.length_map,hsl])
 have Hli:=uQ (show Tab.Lists (Tab.mapOf (Rep.puts kv)) (Rep.puts kv) from Tab.mapOf_lists (Rep.puts_rise hk1.rise))
 have Hsl:=uQ hsl
 have Hc0:=uQ hpos
 have Hc1:=uQ (show C.length≤100 from Nat.le_trans HD.out.holds.count Hn1.out)
 have Hl2:=uQ hlast2
 clear hrun hrun' hk1 hk3 hk4 hlast hlast2 hsl hpos
 replace Hho:=uQ (show Seg.HintOk L C.length ((Rep.usesOf (lbt L M) L.segs).map (Rep.upd kv)) (Rep.puts kv) from Hho.out)
 generalize (Rep.usesOf (lbt L M) L.segs).map (Rep.upd kv)=us at *
 generalize kv.length=B at *
 generalize Rep.puts kv=pl at *
 have Hoi:=uQ (Hin.HintOk.idx Hho.out HL.out (Nat.le_trans Hpl.out dCz))
 have Hou:=uQ (Hin.HintOk.uses Hho.out HL.out (by rw [Hul.out];exact Nat.le_trans Hc1.out dCz))
 have HB:=uQ (Hin.books_len (X:=Xx.sum) Hoi.out Hou.out (Nat.le_trans Hpl.out dCz) (by rw [Hul.out];exact Nat.le_trans Hc1.out dCz))
 have HN:=uQ (show 0≤(C.length:Int) - 1∧(C.length:Int) - 1<1048576 by have:=Hc0.out;have:=Hc1.out;omega)
 obtain ⟨N,hN⟩:∃ N,N=(C.length:Int) - 1:=⟨_,rfl⟩
 rw [← hN]at h5
 have HNe:=uQ hN
 rw [← hN]at HN
 clear hN
 go_wp2_with (with_reducible apply at_alloc)
 refine ⟨wl_alloc zFlt h5 rfl ?_⟩
 intro b10 w6 h6
 clear h5
 go_wp2_with (with_reducible apply at_store)
 refine ⟨wl_storeA (fltA Rep.Flt.zero) h6 rFz rFz rFz upd0 kRz rFz ?_⟩
 intro w7 h7
 clear h6
 obtain ⟨bi,hbi⟩:∃ bi,bi=Bok.book Xx.sum Bok.mgIdx true (pl.map Rep.idxRw):=⟨_,rfl⟩
 obtain ⟨bu,hbu⟩:∃ bu,bu=Bok.book Xx.sum Bok.mgUse false (us.map Rep.useRw):=⟨_,rfl⟩
 have hB:=HB.out
 rw [← hbi,← hbu]at hB
 have Hbi:=uQ hbi;have Hbu:=uQ hbu
 obtain ⟨⟨a1,a2⟩,a3,a4,a5⟩:=Hin.DoneH.ahead HD.out Hn1.out HN.out.1 HN.out.2 hB
 have A1:=uQ a1;have A3:=uQ a3
 replace h7:Sat w0 w7 (stPt ps N pi uv (.slice ta 0 tc)::TabML pi (Tab.mapOf pl) B::osl 121 3 uv (us.flatMap uenc)::MedRep m M::LogRep p m L::F):=h7.sb
 clear hbi hbu hB a1 a3
 cases tw
 ·have K1:=uQ (show (es.length+1) * 5≤600 by have:=Hn1.out;omega)
  obtain ⟨M1,hM1⟩:∃ M1,M1=M:=⟨M,rfl⟩
  have SV:=uQ (show Hin.Sv (Hin.keptOf L M) (Hin.name Hin.idx N) bi (Hin.name Hin.use N) bu ((es.length+1) * 5) M1 by rw [hM1];exact A1.out)
  have OF:=uQ (show M1.off=false by rw [hM1];exact a2)
  have h9:Sat w0 w7 (stPt ps N pi uv (.slice ta 0 tc)::TabML pi (Tab.mapOf pl) B::osl 121 3 uv (us.flatMap uenc)::MedRep m M1::LogRep p m L::F):=by rw [hM1];exact h7
  clear A1 A3 a2 a4 a5 h7 hM1
  generalize (es.length+1) * 5=K at *
  go_wp2_with fail
  have hwa:=within_mem arm 0 20 dCz
  have hwc:=within_c arm 0 20
  generalize within arm 0 20=aa at *
  have har:=arm_c (h9.sb:Sat w0 _ (MedRep m M1::stPt ps N pi uv (.slice ta 0 tc)::TabML pi (Tab.mapOf pl) B::osl 121 3 uv (us.flatMap uenc)::LogRep p m L::F)) aa
  rw [Hin.arm_zero OF.out hwa.1]at har
  have S2:=uQ (Hin.sv_arm SV.out aa oQ)
  generalize (M1.arm aa).1=M2 at *
  clear h9 SV OF hwa
  refine (hwc _).mono ?_
  rintro ee w10 ⟨v,rfl,rfl,rfl⟩
  clear hwc
  go_wp2_with fail
  refine har.mono ?_
  rintro ee w11 ⟨v,rfl,rfl,h11⟩
  clear har
  have hsv:=hsave_c S2.out.ok (by have:=K1.out;omega) HN.out.1 HN.out.2 pl Hli.out Hkl.out Hho.out.key us Hoi.out Hou.out bi bu Hbi.out Hbu.out (Hin.sv_others HD.out S2.out HN.out.1 HN.out.2)
   (h11.sb:Sat w0 w11 (stPt ps N pi uv (.slice ta 0 tc)::TabML pi (Tab.mapOf pl) B::osl 121 3 uv (us.flatMap uenc)::MedRep m M2::LogRep p m L::F))
  have hlim:=within_mem z 128 2000 dCz
  have hwi:=within_c z 128 2000
  generalize within z 128 2000=lim at *
  have hl1:128≤lim:=hlim.1
  have hl2:lim≤1048576:=oQ
  have L1:=uQ hl1;have L2:=uQ hl2
  obtain ⟨b00,b0,b1,b2,b3,b4⟩:=Hin.sv_loads HD.out Hn1.out S2.out HN.out.1 HN.out.2 HNe.out Hho.out lim hl1 hl2 (cr.take 60)
  generalize Hin.save M2 N bi bu=q at *
  obtain ⟨M3,e3⟩:=q
  dsimp only at hsv b00 b0 b1 b2 b3 b4
  have B0:=uQ b00;have B1:=uQ b0;have B2:=uQ b1;have B3:=uQ b2;have B4:=uQ b3;have B5:=uQ b4
  clear h11 hl1 hl2 hlim b00 b0 b1 b2 b3 b4
  go_wp2_with fail
  refine hsv.mono ?_
  rintro ee w12 ⟨v,rfl,rfl,h12⟩
  clear hsv
  have hcra:=crash_c B0.out (by have:=K1.out;omega) (h12.sb:Sat w0 w12 (MedRep m M3::stPt ps N pi uv (.slice ta 0 tc)::TabML pi (Tab.mapOf pl) B::osl 121 3 uv (us.flatMap uenc)::F)) (cr.take 60) (lv:= .slice la (min ln 60) lc) (fun w hw=>rdsl_cutI (Hcr.out w (hw.sb))) ⟨_,_,_,rfl,Nat.le_trans (Nat.min_le_left _ _) Hln.out.1,Hln.out.2⟩ (fun x hx=>Hci.out x (List.mem_of_mem_take hx))
  have hnum:=numbers_c la ln lc 60 Hln.out.1 Hln.out.2 w12
  clear h12
  generalize M3.crash (cr.take 60)=M4 at *
  go_wp2_with fail
  refine hnum.mono ?_
  rintro ee w16 ⟨v,rfl,rfl,rfl⟩
  clear hnum
  go_wp2_with fail
  refine hcra.mono ?_
  rintro ee w17 ⟨v,rfl,h17⟩
  clear hcra
  go_wp2_with fail
  refine (hwi _).mono ?_
  rintro ee w18 ⟨v,rfl,rfl,rfl⟩
  clear hwi
  have hop:=open_c B1.out lim h17 (by unfold Seg.alive;rw [size_empty B1.out B2.out];rfl) L1.out L2.out
  have FO:=uQ (Seg.fresh_ok B1.out lim L1.out L2.out)
  clear h17
  go_wp2_with fail
  refine hop.mono ?_
  rintro ee w19 ⟨v,rfl,p2,rfl,h19⟩
  clear hop
  have e0:w19.cell? ⟨ps,0,none⟩=some (.int .i64 N):=h19.cellP pick2 0 rfl
  rcases B5.out with ⟨t1,t2,t3,t4⟩|⟨t1,t2⟩
  ·have hld:=hloadY_c FO.out B1.out (size_empty B1.out B2.out) t1 t2 pl Hho.out.key us Hoi.out Hou.out (t3.trans (by rw [Hbi.out])) (t4.trans (by rw [Hbu.out])) B3.out (Hin.HintOk.lies Hho.out HL.out) h19
   rw [B4.out]at hld
   clear h19 t1 t2 t3 t4
   go_wp2_with fail
   refine hld.mono ?_
   rintro ee w20 ⟨v,rfl,ps2,pi2,uv2,tv2,rfl,h20⟩
   clear hld e0
   have h21:Sat w0 w20 (twoS ps pi ps2 pi2 N uv (.slice ta 0 tc) uv2 tv2 pl us B pl.length (osl 3 1 tv2 (ints [])::F)):=by
    unfold twoS
    exact h20.sb
   have hsm:=same16_c Hho.out.rise Hho.out.key (Nat.le_trans Hpl.out dCz) (by rw [Hul.out];exact Nat.le_trans Hc1.out dCz) Hkl.out (Nat.le_trans Hpl.out dCz) [] dCz
    (fun w hw=>⟨ta,0,tc,rfl,rfl,fun j x hj=>by cases hj⟩) (fun w hw=>Sat.rd (show Sat w0 w (osl 3 1 tv2 (ints [])::F) by unfold twoS at hw;exact hw.sb)) h21
   clear h20 h21
   by_cases he3:e3=0
   ·have c3:(e3==0)=true:=by rw [beq_iff_eq];exact he3
    clear he3
    go_wp2_with fail
    refine hsm.mono ?_
    rintro ee w22 ⟨v,rfl,rfl,h22⟩
    clear hsm
    go_wp2_with fail
    refine (hlives_c (show Sat w0 w22 F by unfold twoS at h22;exact h22.sb)).mono ?_
    rintro ee w23 ⟨v,rfl,rfl,h23⟩
    go_wp2_with fail
    go_ret
    exact ⟨_,rfl,rfl,h23⟩
   ·have c3:(e3==0)=false:=by rw [beq_eq_false_iff_ne];exact he3
    clear he3
    go_wp2_with fail
    refine hsm.mono ?_
    rintro ee w22 ⟨v,rfl,rfl,h22⟩
    clear hsm
    go_wp2_with fail
    refine (hlives_c (show Sat w0 w22 F by unfold twoS at h22;exact h22.sb)).mono ?_
    rintro ee w23 ⟨v,rfl,rfl,h23⟩
    go_wp2_with fail
    go_ret
    exact ⟨_,rfl,rfl,h23⟩
  ·have c3:(e3==0)=false:=by rw [beq_eq_false_iff_ne];exact t2
   have hld:=hloadN_c (p:=p2) (n:=N) B1.out (size_empty B1.out B2.out) t1 (h19.sb:Sat w0 w19 (MedRep m M4::F))
   clear h19 t1 t2
   go_wp2_with fail
   refine hld.mono ?_
   rintro ee w20 ⟨v,rfl,rfl,h20⟩
   clear hld
   go_wp2_with fail
   refine (hlives_c (h20.sb:Sat w0 w20 F)).mono ?_
   rintro ee w23 ⟨v,rfl,rfl,h23⟩
   go_wp2_with fail
   go_ret
   exact ⟨_,rfl,rfl,h23⟩
 ·have K1:=uQ (show (es.length+1) * 5+10≤600 by have:=Hn1.out;omega)
  have SV:=A3;have OF:=uQ a4
  have hsv:=hsave_c A1.out.ok (by have:=Hn1.out;omega) HN.out.1 HN.out.2 pl Hli.out Hkl.out Hho.out.key us Hoi.out Hou.out bi bu Hbi.out Hbu.out (Hin.sv_others HD.out A1.out HN.out.1 HN.out.2) h7
  clear A1 A3 a2 a4 a5 h7
  generalize (es.length+1) * 5+10=K at *
  generalize Hin.save M N bi bu=q at hsv SV OF
  obtain ⟨M1,e1⟩:=q
  dsimp only at hsv SV OF
  go_wp2_with fail
  refine hsv.mono ?_
  rintro ee w8 ⟨v,rfl,rfl,h9⟩
  clear hsv
  go_wp2_with fail
  have hwa:=within_mem arm 0 20 dCz
  have hwc:=within_c arm 0 20
  generalize within arm 0 20=aa at *
  have har:=arm_c (h9.sb:Sat w0 _ (MedRep m M1::stPt ps N pi uv (.slice ta 0 tc)::TabML pi (Tab.mapOf pl) B::osl 121 3 uv (us.flatMap uenc)::LogRep p m L::F)) aa
  rw [Hin.arm_zero OF.out hwa.1]at har
  have S2:=uQ (Hin.sv_arm SV.out aa oQ)
  generalize (M1.arm aa).1=M2 at *
  clear h9 SV OF hwa
  refine (hwc _).mono ?_
  rintro ee w10 ⟨v,rfl,rfl,rfl⟩
  clear hwc
  go_wp2_with fail
  refine har.mono ?_
  rintro ee w11 ⟨v,rfl,rfl,h11⟩
  clear har
  have hsv:=hsave_c S2.out.ok (by have:=K1.out;omega) HN.out.1 HN.out.2 pl Hli.out Hkl.out Hho.out.key us Hoi.out Hou.out bi bu Hbi.out Hbu.out (Hin.sv_others HD.out S2.out HN.out.1 HN.out.2)
   (h11.sb:Sat w0 w11 (stPt ps N pi uv (.slice ta 0 tc)::TabML pi (Tab.mapOf pl) B::osl 121 3 uv (us.flatMap uenc)::MedRep m M2::LogRep p m L::F))
  have hlim:=within_mem z 128 2000 dCz
  have hwi:=within_c z 128 2000
  generalize within z 128 2000=lim at *
  have hl1:128≤lim:=hlim.1
  have hl2:lim≤1048576:=oQ
  have L1:=uQ hl1;have L2:=uQ hl2
  obtain ⟨b00,b0,b1,b2,b3,b4⟩:=Hin.sv_loads HD.out Hn1.out S2.out HN.out.1 HN.out.2 HNe.out Hho.out lim hl1 hl2 (cr.take 60)
  generalize Hin.save M2 N bi bu=q at *
  obtain ⟨M3,e3⟩:=q
  dsimp only at hsv b00 b0 b1 b2 b3 b4
  have B0:=uQ b00;have B1:=uQ b0;have B2:=uQ b1;have B3:=uQ b2;have B4:=uQ b3;have B5:=uQ b4
  clear h11 hl1 hl2 hlim b00 b0 b1 b2 b3 b4
  go_wp2_with fail
  refine hsv.mono ?_
  rintro ee w12 ⟨v,rfl,rfl,h12⟩
  clear hsv
  have hcra:=crash_c B0.out (by have:=K1.out;omega) (h12.sb:Sat w0 w12 (MedRep m M3::stPt ps N pi uv (.slice ta 0 tc)::TabML pi (Tab.mapOf pl) B::osl 121 3 uv (us.flatMap uenc)::F)) (cr.take 60) (lv:= .slice la (min ln 60) lc) (fun w hw=>rdsl_cutI (Hcr.out w (hw.sb))) ⟨_,_,_,rfl,Nat.le_trans (Nat.min_le_left _ _) Hln.out.1,Hln.out.2⟩ (fun x hx=>Hci.out x (List.mem_of_mem_take hx))
  have hnum:=numbers_c la ln lc 60 Hln.out.1 Hln.out.2 w12
  clear h12
  generalize M3.crash (cr.take 60)=M4 at *
  go_wp2_with fail
  refine hnum.mono ?_
  rintro ee w16 ⟨v,rfl,rfl,rfl⟩
  clear hnum
  go_wp2_with fail
  refine hcra.mono ?_
  rintro ee w17 ⟨v,rfl,h17⟩
  clear hcra
  go_wp2_with fail
  refine (hwi _).mono ?_
  rintro ee w18 ⟨v,rfl,rfl,rfl⟩
  clear hwi
  have hop:=open_c B1.out lim h17 (by unfold Seg.alive;rw [size_empty B1.out B2.out];rfl) L1.out L2.out
  have FO:=uQ (Seg.fresh_ok B1.out lim L1.out L2.out)
  clear h17
  go_wp2_with fail
  refine hop.mono ?_
  rintro ee w19 ⟨v,rfl,p2,rfl,h19⟩
  clear hop
  have e0:w19.cell? ⟨ps,0,none⟩=some (.int .i64 N):=h19.cellP pick2 0 rfl
  rcases B5.out with ⟨t1,t2,t3,t4⟩|⟨t1,t2⟩
  ·have hld:=hloadY_c FO.out B1.out (size_empty B1.out B2.out) t1 t2 pl Hho.out.key us Hoi.out Hou.out (t3.trans (by rw [Hbi.out])) (t4.trans (by rw [Hbu.out])) B3.out (Hin.HintOk.lies Hho.out HL.out) h19
   rw [B4.out]at hld
   clear h19 t1 t2 t3 t4
   go_wp2_with fail
   refine hld.mono ?_
   rintro ee w20 ⟨v,rfl,ps2,pi2,uv2,tv2,rfl,h20⟩
   clear hld e0
   have h21:Sat w0 w20 (twoS ps pi ps2 pi2 N uv (.slice ta 0 tc) uv2 tv2 pl us B pl.length (osl 3 1 tv2 (ints [])::F)):=by
    unfold twoS
    exact h20.sb
   have hsm:=same16_c Hho.out.rise Hho.out.key (Nat.le_trans Hpl.out dCz) (by rw [Hul.out];exact Nat.le_trans Hc1.out dCz) Hkl.out (Nat.le_trans Hpl.out dCz) [] dCz
    (fun w hw=>⟨ta,0,tc,rfl,rfl,fun j x hj=>by cases hj⟩) (fun w hw=>Sat.rd (show Sat w0 w (osl 3 1 tv2 (ints [])::F) by unfold twoS at hw;exact hw.sb)) h21
   clear h20 h21
   by_cases he3:e3=0
   ·have c3:(e3==0)=true:=by rw [beq_iff_eq];exact he3
    clear he3
    go_wp2_with fail
    refine hsm.mono ?_
    rintro ee w22 ⟨v,rfl,rfl,h22⟩
    clear hsm
    go_wp2_with fail
    refine (hlives_c (show Sat w0 w22 F by unfold twoS at h22;exact h22.sb)).mono ?_
    rintro ee w23 ⟨v,rfl,rfl,h23⟩
    go_wp2_with fail
    go_ret
    exact ⟨_,rfl,rfl,h23⟩
   ·have c3:(e3==0)=false:=by rw [beq_eq_false_iff_ne];exact he3
    clear he3
    go_wp2_with fail
    refine hsm.mono ?_
    rintro ee w22 ⟨v,rfl,rfl,h22⟩
    clear hsm
    go_wp2_with fail
    refine (hlives_c (show Sat w0 w22 F by unfold twoS at h22;exact h22.sb)).mono ?_
    rintro ee w23 ⟨v,rfl,rfl,h23⟩
    go_wp2_with fail
    go_ret
    exact ⟨_,rfl,rfl,h23⟩
  ·have c3:(e3==0)=false:=by rw [beq_eq_false_iff_ne];exact t2
   have hld:=hloadN_c (p:=p2) (n:=N) B1.out (size_empty B1.out B2.out) t1 (h19.sb:Sat w0 w19 (MedRep m M4::F))
   clear h19 t1 t2
   go_wp2_with fail
   refine hld.mono ?_
   rintro ee w20 ⟨v,rfl,rfl,h20⟩
   clear hld
   go_wp2_with fail
   refine (hlives_c (h20.sb:Sat w0 w20 F)).mono ?_
   rintro ee w23 ⟨v,rfl,rfl,h23⟩
   go_wp2_with fail
   go_ret
   exact ⟨_,rfl,rfl,h23⟩
end
end Go.Proofs.YtlinnpehkfbnkaaGreatDoor
namespace Go.Proofs.YtlinnpehkfbnkaaGreatDoor
open Go Go.Sl Go.Med Go.ChangeShapes Go.WideShapes Go.RowKit
structure SD.At (W:World) (d:SD):Prop where
 kind:inI d.c.kind
 e:EntAt W (d.c.e,d.dv)
 n:inI d.c.n
 p1:inI d.c.p.seg
 p2:inI d.c.p.at_
 p3:inI d.c.p.size
 rd:rdsl 1 d.lv (ints d.c.l) W
 cap:capOk d.lv
 ins:∀ i∈d.c.l,inI i
section
variable {H:Type}{enc:TypeId×Value→H}{W:World}{base:Nat}{spare:Nat→Bool}{held:Bool}
set_option maxRecDepth 100000 in
theorem open_sd {fuel:Nat}{cs:List Value}{x:DataW H×List MemPlace} (h:DataW.trod enc Tryz.prog W base spare held fuel 63 cs=some x):∃ d:SD,sdL d=cs∧d.At W:=by
 obtain ⟨hl,hf⟩:=open_fields Tryz.underlying63 h
 have e40:Tryz.prog.cellsOf 63=40:=by kernel_rfl
 have e1:Tryz.prog.cellsOf 3=1:=by kernel_rfl
 have e34:Tryz.prog.cellsOf 27=34:=by kernel_rfl
 have e3:Tryz.prog.cellsOf 54=3:=by kernel_rfl
 have e4:Tryz.prog.cellsOf 42=1:=by kernel_rfl
 rw [e40]at hl
 obtain ⟨n0,y0,h0⟩:=hf 0 _ rfl
 obtain ⟨n1,y1,h1⟩:=hf 1 _ rfl
 obtain ⟨n2,y2,h2⟩:=hf 2 _ rfl
 obtain ⟨n3,y3,h3⟩:=hf 3 _ rfl
 obtain ⟨n4,y4,h4⟩:=hf 4 _ rfl
 simp only [List.getElem_toArray,List.getElem_cons_zero,List.getElem_cons_succ,e1,e34,e3,e4,List.drop_zero]at h0 h1 h2 h3 h4
 obtain ⟨z0,q0,_,w0⟩:=DataW.trod_int Tryz.underlying3 h0
 obtain ⟨⟨ex,dv⟩,k1,k2⟩:=open_ent h1
 obtain ⟨z2,q2,_,w2⟩:=DataW.trod_int Tryz.underlying3 h2
 obtain ⟨a,b,c,q3,wa,wb,wc⟩:=open_plc h3
 have hd:∃ v,(cs.drop 39).take 1=[v]:=by
  have:((cs.drop 39).take 1).length=1:=by rw [List.length_take,List.length_drop];omega
  exact List.length_eq_one_iff.1 this
 obtain ⟨lv,hlv⟩:=hd
 rw [hlv]at h4
 obtain ⟨l6,r6,c6,i6⟩:=in_nums Tryz.underlying42 Tryz.underlying3 e1 h4
 refine ⟨⟨⟨z0,ex,z2,⟨a,b,c⟩,l6⟩,dv,lv⟩,?_,bounds_i64 w0,k2,bounds_i64 w2,wa,wb,wc,r6,c6,i6⟩
 show Value.int .i64 z0::(entL ex dv++[.int .i64 z2,.int .i64 a,.int .i64 b,.int .i64 c,lv])=cs
 have s1:cs=cs.take 1++((cs.drop 1).take 34++((cs.drop 35).take 1++((cs.drop 36).take 3++(cs.drop 39).take 1))):=by
  have a4:(cs.drop 39).take 1=cs.drop 39:=List.take_of_length_le (by rw [List.length_drop];omega)
  have a3:(cs.drop 36).take 3++cs.drop 39=cs.drop 36:=by
   rw [show cs.drop 39=(cs.drop 36).drop 3 by rw [List.drop_drop]];exact List.take_append_drop 3 _
  have a2:(cs.drop 35).take 1++cs.drop 36=cs.drop 35:=by
   rw [show cs.drop 36=(cs.drop 35).drop 1 by rw [List.drop_drop]];exact List.take_append_drop 1 _
  have a1:(cs.drop 1).take 34++cs.drop 35=cs.drop 1:=by
   rw [show cs.drop 35=(cs.drop 1).drop 34 by rw [List.drop_drop]];exact List.take_append_drop 34 _
  rw [a4,a3,a2,a1]
  exact (List.take_append_drop 1 cs).symm
 rw [s1,q0,← k1,q2,q3,hlv];rfl
theorem in_sds {fuel:Nat}{v:Value}{x:DataW H×List MemPlace} (h:DataW.trod enc Tryz.prog W base spare held fuel 22 [v]=some x) :
  ∃ ds:List SD,rdsl 40 v (sdsL ds) W∧capOk v∧∀ d∈ds,d.At W:=by
 obtain ⟨elems,h1,h2,h3⟩:=open_sl Tryz.underlying22 (k:=40) kRz oQ h
 obtain ⟨ds,h4,h5⟩:=map_of (f:=sdL) (p:=fun d=>d.At W) elems fun cs hcs=>by
  obtain ⟨_,n,y,h6⟩:=h3 cs hcs
  exact open_sd h6
 refine ⟨ds,?_,h2,h5⟩
 unfold sdsL
 rw [List.flatMap_def,h4]
 exact h1
theorem SD.At.ro {d:SD} (h:d.At W):SDRo W [Sl.old W] d:=⟨h.e.key,rd_old h.e.rd,h.e.cap,rd_old h.rd,h.cap⟩
end
end Go.Proofs.YtlinnpehkfbnkaaGreatDoor
namespace Go.Proofs.YtlinnpehkfbnkaaGreatDoor.card
open Go.ChangeShapes Go.WideShapes Go.ChangeAt Go.RowKit
open Go Go.Sl Go.Med
theorem gHalf:Tryz.prog.globalNamed "hoard/crc.half" = some 0:=by kernel_rfl
theorem tHalf:((Tryz.prog.globals[0]?).map (·.type))=some 295:=by kernel_rfl
theorem door_met (os:Os) (args:Array Value):laidMetH Tryz.prog [("hoard/crc.half",Rows.laid_hoard_crc_half)] ((World.doorLaid Tryz.prog 400 os).forCall (fun _ _=>0) ⟨#[],args,[]⟩).memory:=
 laidMetH_of_parts3 (fuel:=8) (laidMet_of_run' 8 kRz kRz) kRz kRz
theorem of_laid {W:World} (h:laidMetH Tryz.prog [("hoard/crc.half",Rows.laid_hoard_crc_half)] W):0<W.heap.size∧Half W:=by
 rw [MakeChecks.laidMetH_plain _ _ _ kRz]at h
 obtain ⟨ps,⟨g0,t0,cs0,f0,p0,q0,hg0,ht0,hv0,hd0,hrest⟩,hrest2⟩:=h
 obtain rfl:=Option.some.inj (gHalf.symm.trans hg0)
 obtain rfl:=Option.some.inj (tHalf.symm.trans ht0)
 obtain ⟨xs,m1,rfl,hx1,hlen,hn3,hel⟩:=DataW.trod_array Tryz.underlying295 hd0
 have c3:Tryz.prog.cellsOf 236=1:=by kernel_rfl
 simp only [Prod.mk.injEq,Rows.laid_hoard_crc_half,DataW.agg.injEq]at hx1
 have hH:Half W:=by
  intro i hi
  have h0:=hel i hi
  have hxi:xs[i]?=some (xs[i]'oQ):=List.getElem?_eq_getElem oQ
  rw [hxi]at h0
  obtain ⟨k,e1,e2,_⟩:=DataW.trod_int Tryz.underlying236 h0
  rw [c3,Nat.mul_one]at e1
  have hc:cs0.toList[i]?=some (.int .u32 k):=by
   have:((cs0.toList.drop i).take 1)[0]?=some (.int .u32 k):=by rw [e1];rfl
   rw [List.getElem?_take,if_pos dCz,List.getElem?_drop]at this
   exact this
  have hL:=congrArg (fun l=>l[i]?) hx1.1
  rw [List.getElem?_map,hxi]at hL
  have hk:k=((Frm.half.getD i 0:Nat):Int):=by
   rw [e2]at hL
   rcases i with _|_|_|_|_|_|_|_|_|_|_|_|_|_|_|_|i
   all_goals first|omega|(simp at hL;rw [← hL];rfl)
  subst hk
  have:=World.var?_cell hg0 hv0 i
  rw [this,← Array.getElem?_toList]
  exact hc
 refine ⟨?_,hH⟩
 by_cases hz:0<W.heap.size
 ·exact hz
 ·have h0:=hH 0 dCz
  have e:W.heap[0]?=none:=Array.getElem?_eq_none oQ
  simp [World.cell?,e]at h0
end Go.Proofs.YtlinnpehkfbnkaaGreatDoor.card
