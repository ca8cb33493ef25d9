import Derived.Test.YtmjldaedhmipkaaGreatDoorJ10
set_option maxHeartbeats 128000000
set_option linter.unusedVariables false
namespace Go.Proofs.YtmjldaedhmipkaaGreatDoor
open Go Go.Sl Go.Med Go.MapKept Go.RowKit
section
variable {w0 w:World}{F R:List HProp}{v bv dv x lv:Value}
set_option maxRecDepth 20000 in
theorem rread2_c (l:Bs) (hr:Ro w0 F (rdsl 1 bv (bys l))) (hcap:capOk bv) (hl:l.length≤1099511627776) (h9:¬ l.length<9) (ht:(l.getD 8 0).toNat=2) (hn:Frm.num ((l.drop 4).take 4)=9) (h:Sat w0 w F) :
  Calls Tryz.prog 100 #[bv] w (Rtn fun v w'=>∃ da dc,v = .tuple #[.agg (entA (Frm.read l).1 (.slice da (Frm.read l).1.data.length dc)),.int .i64 (Frm.read l).2.1,errno (Frm.read l).2.2]∧Sat w0 w' (bsl (.slice da (Frm.read l).1.data.length dc) (Frm.read l).1.data::F)):=by
 obtain ⟨ba,bn,bc,rfl,hbn,hbc⟩:=hcap
 have hln:bn=l.length:=by
  obtain ⟨_,_,_,he,hl',_⟩:=hr w h
  cases he
  rw [bys_len,Nat.mul_one]at hl';exact hl'.symm
 subst hln
 obtain ⟨bk,off,rfl,hcell⟩:∃ bk off,ba=some ⟨bk,off,none⟩∧True:=by
  have hx:(bys l)[0]?=some (.int .u8 (l[0]'oQ).toNat):=by
   unfold bys;rw [List.getElem?_map,List.getElem?_eq_getElem oQ];rfl
  obtain ⟨bk,off,hb,_⟩:=rdsl_cells (hr w h) hx
  exact ⟨bk,off,hb,trivial⟩
 clear hcell
 have hrd:=hr w h
 have Hsub:=uQ (show ∀ (i j:Nat),i≤j→j≤l.length→∀ w,Sat w0 w F→rdsl 1 (.slice (some ⟨bk,off+i,none⟩) (j - i) (bc - i)) (bys ((l.take j).drop i)) w from fun i j h1 h2 w hw=>rdsl_sub (hr w hw) i j (bc - i) h1 h2)
 have Hnum:=uQ (show ∀ w,Sat w0 w F→Calls Tryz.prog 145 #[.slice (some ⟨bk,off+4,none⟩) 4 (bc - 4)] w (Rtn fun v w'=>v = .tuple #[.int .u64 (Frm.num ((l.drop 4).take 4):Nat),.bool true]∧w=w') from fun w hw=>rget_c ((l.drop 4).take 4) (by rw [List.length_take,List.length_drop];omega) (by rw [List.length_take];omega) (by
  have:=Hsub.out 4 8 oQ oQ w hw
  rw [List.drop_take]at this
  exact this))
 have Hnum0:=uQ (show ∀ w,Sat w0 w F→Calls Tryz.prog 145 #[.slice (some ⟨bk,off,none⟩) 4 bc] w (Rtn fun v w'=>v = .tuple #[.int .u64 (Frm.num (l.take 4):Nat),.bool true]∧w=w') from fun w hw=>rget_c (l.take 4) (by rw [List.length_take];omega) (by rw [List.length_take];omega) (bsl_of_rd (hr w hw) oQ))
 have Hread:=uQ (show Frm.read l=if Frm.fits (l.getD 8 0) (Frm.num ((l.drop 4).take 4))=false then (Frm.zeroE,0,4)
  else if l.length<Frm.num ((l.drop 4).take 4) then (Frm.zeroE,0,3)
  else if Frm.crc ((l.take (Frm.num ((l.drop 4).take 4))).drop 4)≠Frm.num (l.take 4) then (Frm.zeroE,0,13)
  else if 41≤Frm.num ((l.drop 4).take 4) then (⟨(l.getD 8 0).toNat,(l.drop 9).take 32,(l.take (Frm.num ((l.drop 4).take 4))).drop 41⟩,Frm.num ((l.drop 4).take 4),0)
  else (⟨(l.getD 8 0).toNat,Frm.zero32,[]⟩,Frm.num ((l.drop 4).take 4),0) by unfold Frm.read;rw [if_neg h9])
 have hN:Frm.num ((l.drop 4).take 4)<4294967296:=by
  have:=Frm.num_lt ((l.drop 4).take 4)
  rw [List.length_take,List.length_drop]at this
  have h4:min 4 (l.length - 4)=4:=oQ
  rw [h4]at this
  omega
 generalize hNN:Frm.num ((l.drop 4).take 4)=N at *
 have hc8:∀ w,Sat w0 w F→w.cell? ⟨bk,off+8,none⟩=some (.int .u8 (l.getD 8 0).toNat):=fun w hw=>by
  have hx:(bys l)[8]?=some (.int .u8 (l.getD 8 0).toNat):=by
   unfold bys;rw [List.getElem?_map,List.getD_eq_getElem?_getD,List.getElem?_eq_getElem oQ];rfl
  obtain ⟨bk',off',hb,hc⟩:=rdsl_cells (hr w hw) hx
  cases hb
  exact hc _ _ hx
 have Hc8:=uQ hc8;have Hr:=uQ hr;have Hl:=uQ hl
 have c1:¬ (l.length:Int)<9:=oQ
 have c2:¬ bc=4:=oQ
 have c4:(l.length:Int)≤(bc:Int):=oQ
 have c4b:(8:Int)≤(bc:Int):=oQ
 have c5:(8:Int)<(l.length:Int):=oQ
 have Hbn:=uQ (show l.length≤bc∧bc≤9223372036854775807∧9≤l.length∧N<4294967296 from ⟨hbn,hbc,by omega,hN⟩)
 have hcv:IntKind.i64.wrap (N:Int)=(N:Int):=by rw [IntKind.wrap_i64];omega
 have hcv2:wrap64 (N:Int)=(N:Int):=by rw [← IntWalk.i64_left];exact hcv
 clear hrd hNN hc8 hr hl h9 hbn hbc hN
 generalize l.getD 8 0=tg at *
 have hft:Frm.fits tg N=true:=by
  have htu:tg=2:=by apply UInt8.toNat_inj.1;rw [ht];rfl
  subst htu
  unfold Frm.fits
  rw [if_neg dQ,if_neg dQ,if_pos rfl];simp [hn]
 have hN9:9≤N:=oQ
 have h41:¬ 41≤N:=oQ
 subst hn
 have Hf:=uQ (Hread.out.trans (if_neg (by rw [hft];decide)))
 clear hft Hread
 have htg:=tg.toNat_lt
 have hct:IntKind.i64.wrap (tg.toNat:Int)=(tg.toNat:Int):=by rw [IntKind.wrap_i64];omega
 have hct2:wrap64 (tg.toNat:Int)=(tg.toNat:Int):=by rw [← IntWalk.i64_left];exact hct
 have htn:=ht
 clear ht
 generalize tg.toNat=tn at *
 subst htn
 go_enter Tryz.func100,Tryz.ntmps100
 go_wp2_with ((with_reducible refine at_allocE ⟨?_⟩);refine wl_allocE aQ ?_;intro bR wR hE)
 refine (Hnum.out _ hE.drop).mono ?_
 rintro ee w2 ⟨v,rfl,rfl,rfl⟩
 have e8:=Hc8.out _ hE.drop
 by_cases hlN:l.length<9
 ·have Hf2:=uQ (Hf.out.trans (if_pos hlN))
  have c6:(l.length:Int)<(9:Int):=oQ
  have c6b:l.length<9:=hlN
  clear hlN
  go_wp2_with (first|((with_reducible refine at_buildZ ⟨?_⟩);refine wl_buildZ ?_)|((with_reducible refine at_storeE ⟨?_⟩);first|(refine wl_storeE aQ rQ rQ fQ upD sQ ?_;intro wS hS)|(refine wl_storeE (e:=Frm.zeroE) (da:=none) (dn:=0) (dc:=0) aQ rQ rQ rfl upD sQ ?_;intro wS hS)))
  rw [Hf2.out]
  refine ⟨rfl,_,res_entE3 rfl aQ rQ pkD rfl,_,rfl,none,0,rfl,Sat.osl_nil.2 (Sat.sb hS)⟩
 have Hf2:=uQ (Hf.out.trans (if_neg hlN))
 have c6:¬ (l.length:Int)<(9:Int):=oQ
 have c6b:¬ l.length<9:=hlN
 have c8:(9:Int)≤(bc:Int):=oQ
 have c8b:(4:Int)≤(bc:Int):=oQ
 have HlN:=uQ (show 9≤l.length∧9≤9 by omega)
 have c7:(4:Int)≤(9:Int):=oQ
 clear hlN Hf
 go_wp2_with fail
 refine (Hnum0.out _ hE.drop).mono ?_
 rintro ee w2 ⟨v,rfl,rfl,rfl⟩
 have hA32:=Frm.crc_lt ((l.take 9).drop 4)
 have hsum:=rsum_c ((l.take 9).drop 4) (Hsub.out 4 9 (by have:=HlN.out;omega) HlN.out.1 _ hE.drop) (by rw [List.length_drop,List.length_take];have:=Hl.out;omega)
 go_wp2_with fail
 refine hsum.mono ?_
 clear hsum
 rintro ee w2 ⟨v,rfl,rfl,rfl⟩
 generalize Frm.crc ((l.take 9).drop 4)=A at *
 generalize Frm.num (l.take 4)=B at *
 have hAc:(A:Int)%18446744073709551616=(A:Int):=oQ
 have hAd:IntKind.u64.wrap (A:Int)=(A:Int):=hAc
 clear hA32
 by_cases hAB:A=B
 rotate_left
 ·have Hf3:=uQ (Hf2.out.trans (if_pos hAB))
  have c9:((A:Int)==(B:Int))=false:=by rw [beq_eq_false_iff_ne];omega
  have c9b:¬ A=B:=hAB
  clear hAB
  go_wp2_with (first|((with_reducible refine at_buildZ ⟨?_⟩);refine wl_buildZ ?_)|((with_reducible refine at_storeE ⟨?_⟩);first|(refine wl_storeE aQ rQ rQ fQ upD sQ ?_;intro wS hS)|(refine wl_storeE (e:=Frm.zeroE) (da:=none) (dn:=0) (dc:=0) aQ rQ rQ rfl upD sQ ?_;intro wS hS)))
  rw [Hf3.out]
  refine ⟨rfl,_,res_entE3 rfl aQ rQ pkD rfl,_,rfl,none,0,rfl,Sat.osl_nil.2 (Sat.sb hS)⟩
 subst hAB
 have Hf3:=uQ (Hf2.out.trans (if_neg (fun h=>h rfl)))
 clear Hf2
 have Hf4:=uQ (Hf3.out.trans (if_neg h41))
 clear h41
 go_wp2_with (first|((with_reducible refine at_buildTag ⟨?_⟩);refine wl_buildTag rQ ?_)|((with_reducible refine at_allocE ⟨?_⟩);refine wl_allocE aQ ?_;intro bE wE hE)|((with_reducible refine at_storeE ⟨?_⟩);first|(refine wl_storeE aQ rQ rQ fQ upD sQ ?_;intro wS hS)|(refine wl_storeE (e:=Frm.zeroE) (da:=none) (dn:=0) (dc:=0) aQ rQ rQ rfl upD sQ ?_;intro wS hS))|((with_reducible refine at_loadE ⟨?_⟩);refine wl_loadE aQ rQ pkD fQ ?_))
 have hS0:=hS
 clear hS hE e8
 go_loopg [12] 0 (fun g iq wr=>iq = .int .i64 0∧Sat w0 wr (pt bE (.cells (entA ⟨2,Frm.zero32,[]⟩ (.slice none 0 0)) 44 (0,0))::pt bR (.cells (entA Frm.zeroE (.slice none 0 0)) 44 (0,0))::F))
 case atStart=>exact ⟨rfl,hS0⟩
 case round=>
  obtain ⟨rfl,hS1⟩:=hrel
  clear hS0
  go_wp2_with (first|((with_reducible refine at_loadE ⟨?_⟩);refine wl_loadE aQ rQ pkD fQ ?_)|((with_reducible refine at_storeE ⟨?_⟩);first|(refine wl_storeE aQ rQ rQ fQ upD sQ ?_;intro wS hS)|(refine wl_storeE (e:=Frm.zeroE) (da:=none) (dn:=0) (dc:=0) aQ rQ rQ rfl upD sQ ?_;intro wS hS)))
  rw [Hf4.out]
  simp only [List.length_nil]
  refine ⟨rfl,_,res_entE3 rfl aQ rQ pkD rfl,_,rfl,none,0,rfl,Sat.osl_nil.2 (Sat.sb hS)⟩
end
section
variable {w0 w:World}{F R:List HProp}{v bv dv x lv:Value}
set_option maxRecDepth 20000 in
theorem rread1_c (l:Bs) (hr:Ro w0 F (rdsl 1 bv (bys l))) (hcap:capOk bv) (hl:l.length≤1099511627776) (h9:¬ l.length<9) (ht:(l.getD 8 0).toNat=1) (hn:Frm.num ((l.drop 4).take 4)=41) (h:Sat w0 w F) :
  Calls Tryz.prog 100 #[bv] w (Rtn fun v w'=>∃ da dc,v = .tuple #[.agg (entA (Frm.read l).1 (.slice da (Frm.read l).1.data.length dc)),.int .i64 (Frm.read l).2.1,errno (Frm.read l).2.2]∧Sat w0 w' (bsl (.slice da (Frm.read l).1.data.length dc) (Frm.read l).1.data::F)):=by
 obtain ⟨ba,bn,bc,rfl,hbn,hbc⟩:=hcap
 have hln:bn=l.length:=by
  obtain ⟨_,_,_,he,hl',_⟩:=hr w h
  cases he
  rw [bys_len,Nat.mul_one]at hl';exact hl'.symm
 subst hln
 obtain ⟨bk,off,rfl,hcell⟩:∃ bk off,ba=some ⟨bk,off,none⟩∧True:=by
  have hx:(bys l)[0]?=some (.int .u8 (l[0]'oQ).toNat):=by
   unfold bys;rw [List.getElem?_map,List.getElem?_eq_getElem oQ];rfl
  obtain ⟨bk,off,hb,_⟩:=rdsl_cells (hr w h) hx
  exact ⟨bk,off,hb,trivial⟩
 clear hcell
 have hrd:=hr w h
 have Hsub:=uQ (show ∀ (i j:Nat),i≤j→j≤l.length→∀ w,Sat w0 w F→rdsl 1 (.slice (some ⟨bk,off+i,none⟩) (j - i) (bc - i)) (bys ((l.take j).drop i)) w from fun i j h1 h2 w hw=>rdsl_sub (hr w hw) i j (bc - i) h1 h2)
 have Hnum:=uQ (show ∀ w,Sat w0 w F→Calls Tryz.prog 145 #[.slice (some ⟨bk,off+4,none⟩) 4 (bc - 4)] w (Rtn fun v w'=>v = .tuple #[.int .u64 (Frm.num ((l.drop 4).take 4):Nat),.bool true]∧w=w') from fun w hw=>rget_c ((l.drop 4).take 4) (by rw [List.length_take,List.length_drop];omega) (by rw [List.length_take];omega) (by
  have:=Hsub.out 4 8 oQ oQ w hw
  rw [List.drop_take]at this
  exact this))
 have Hnum0:=uQ (show ∀ w,Sat w0 w F→Calls Tryz.prog 145 #[.slice (some ⟨bk,off,none⟩) 4 bc] w (Rtn fun v w'=>v = .tuple #[.int .u64 (Frm.num (l.take 4):Nat),.bool true]∧w=w') from fun w hw=>rget_c (l.take 4) (by rw [List.length_take];omega) (by rw [List.length_take];omega) (bsl_of_rd (hr w hw) oQ))
 have Hread:=uQ (show Frm.read l=if Frm.fits (l.getD 8 0) (Frm.num ((l.drop 4).take 4))=false then (Frm.zeroE,0,4)
  else if l.length<Frm.num ((l.drop 4).take 4) then (Frm.zeroE,0,3)
  else if Frm.crc ((l.take (Frm.num ((l.drop 4).take 4))).drop 4)≠Frm.num (l.take 4) then (Frm.zeroE,0,13)
  else if 41≤Frm.num ((l.drop 4).take 4) then (⟨(l.getD 8 0).toNat,(l.drop 9).take 32,(l.take (Frm.num ((l.drop 4).take 4))).drop 41⟩,Frm.num ((l.drop 4).take 4),0)
  else (⟨(l.getD 8 0).toNat,Frm.zero32,[]⟩,Frm.num ((l.drop 4).take 4),0) by unfold Frm.read;rw [if_neg h9])
 have hN:Frm.num ((l.drop 4).take 4)<4294967296:=by
  have:=Frm.num_lt ((l.drop 4).take 4)
  rw [List.length_take,List.length_drop]at this
  have h4:min 4 (l.length - 4)=4:=oQ
  rw [h4]at this
  omega
 generalize hNN:Frm.num ((l.drop 4).take 4)=N at *
 have hc8:∀ w,Sat w0 w F→w.cell? ⟨bk,off+8,none⟩=some (.int .u8 (l.getD 8 0).toNat):=fun w hw=>by
  have hx:(bys l)[8]?=some (.int .u8 (l.getD 8 0).toNat):=by
   unfold bys;rw [List.getElem?_map,List.getD_eq_getElem?_getD,List.getElem?_eq_getElem oQ];rfl
  obtain ⟨bk',off',hb,hc⟩:=rdsl_cells (hr w hw) hx
  cases hb
  exact hc _ _ hx
 have Hc8:=uQ hc8;have Hr:=uQ hr;have Hl:=uQ hl
 have c1:¬ (l.length:Int)<9:=oQ
 have c2:¬ bc=4:=oQ
 have c4:(l.length:Int)≤(bc:Int):=oQ
 have c4b:(8:Int)≤(bc:Int):=oQ
 have c5:(8:Int)<(l.length:Int):=oQ
 have Hbn:=uQ (show l.length≤bc∧bc≤9223372036854775807∧9≤l.length∧N<4294967296 from ⟨hbn,hbc,by omega,hN⟩)
 have hcv:IntKind.i64.wrap (N:Int)=(N:Int):=by rw [IntKind.wrap_i64];omega
 have hcv2:wrap64 (N:Int)=(N:Int):=by rw [← IntWalk.i64_left];exact hcv
 clear hrd hNN hc8 hr hl h9 hbn hbc hN
 generalize l.getD 8 0=tg at *
 have hft:Frm.fits tg N=true:=by
  have htu:tg=1:=by apply UInt8.toNat_inj.1;rw [ht];rfl
  subst htu
  unfold Frm.fits
  rw [if_neg dQ,if_pos rfl];simp [hn]
 have hN9:9≤N:=oQ
 have h41:41≤N:=oQ
 subst hn
 have Hf:=uQ (Hread.out.trans (if_neg (by rw [hft];decide)))
 clear hft Hread
 have htg:=tg.toNat_lt
 have hct:IntKind.i64.wrap (tg.toNat:Int)=(tg.toNat:Int):=by rw [IntKind.wrap_i64];omega
 have hct2:wrap64 (tg.toNat:Int)=(tg.toNat:Int):=by rw [← IntWalk.i64_left];exact hct
 have htn:=ht
 clear ht
 generalize tg.toNat=tn at *
 subst htn
 go_enter Tryz.func100,Tryz.ntmps100
 go_wp2_with ((with_reducible refine at_allocE ⟨?_⟩);refine wl_allocE aQ ?_;intro bR wR hE)
 refine (Hnum.out _ hE.drop).mono ?_
 rintro ee w2 ⟨v,rfl,rfl,rfl⟩
 have e8:=Hc8.out _ hE.drop
 by_cases hlN:l.length<41
 ·have Hf2:=uQ (Hf.out.trans (if_pos hlN))
  have c6:(l.length:Int)<(41:Int):=oQ
  have c6b:l.length<41:=hlN
  clear hlN
  go_wp2_with (first|((with_reducible refine at_buildZ ⟨?_⟩);refine wl_buildZ ?_)|((with_reducible refine at_storeE ⟨?_⟩);first|(refine wl_storeE aQ rQ rQ fQ upD sQ ?_;intro wS hS)|(refine wl_storeE (e:=Frm.zeroE) (da:=none) (dn:=0) (dc:=0) aQ rQ rQ rfl upD sQ ?_;intro wS hS)))
  rw [Hf2.out]
  refine ⟨rfl,_,res_entE3 rfl aQ rQ pkD rfl,_,rfl,none,0,rfl,Sat.osl_nil.2 (Sat.sb hS)⟩
 have Hf2:=uQ (Hf.out.trans (if_neg hlN))
 have c6:¬ (l.length:Int)<(41:Int):=oQ
 have c6b:¬ l.length<41:=hlN
 have c8:(41:Int)≤(bc:Int):=oQ
 have c8b:(4:Int)≤(bc:Int):=oQ
 have HlN:=uQ (show 41≤l.length∧9≤41 by omega)
 have c7:(4:Int)≤(41:Int):=oQ
 clear hlN Hf
 go_wp2_with fail
 refine (Hnum0.out _ hE.drop).mono ?_
 rintro ee w2 ⟨v,rfl,rfl,rfl⟩
 have hA32:=Frm.crc_lt ((l.take 41).drop 4)
 have hsum:=rsum_c ((l.take 41).drop 4) (Hsub.out 4 41 (by have:=HlN.out;omega) HlN.out.1 _ hE.drop) (by rw [List.length_drop,List.length_take];have:=Hl.out;omega)
 go_wp2_with fail
 refine hsum.mono ?_
 clear hsum
 rintro ee w2 ⟨v,rfl,rfl,rfl⟩
 generalize Frm.crc ((l.take 41).drop 4)=A at *
 generalize Frm.num (l.take 4)=B at *
 have hAc:(A:Int)%18446744073709551616=(A:Int):=oQ
 have hAd:IntKind.u64.wrap (A:Int)=(A:Int):=hAc
 clear hA32
 by_cases hAB:A=B
 rotate_left
 ·have Hf3:=uQ (Hf2.out.trans (if_pos hAB))
  have c9:((A:Int)==(B:Int))=false:=by rw [beq_eq_false_iff_ne];omega
  have c9b:¬ A=B:=hAB
  clear hAB
  go_wp2_with (first|((with_reducible refine at_buildZ ⟨?_⟩);refine wl_buildZ ?_)|((with_reducible refine at_storeE ⟨?_⟩);first|(refine wl_storeE aQ rQ rQ fQ upD sQ ?_;intro wS hS)|(refine wl_storeE (e:=Frm.zeroE) (da:=none) (dn:=0) (dc:=0) aQ rQ rQ rfl upD sQ ?_;intro wS hS)))
  rw [Hf3.out]
  refine ⟨rfl,_,res_entE3 rfl aQ rQ pkD rfl,_,rfl,none,0,rfl,Sat.osl_nil.2 (Sat.sb hS)⟩
 subst hAB
 have Hf3:=uQ (Hf2.out.trans (if_neg (fun h=>h rfl)))
 clear Hf2
 have Hf4:=uQ (Hf3.out.trans (if_pos h41))
 clear h41
 have Hkl:=uQ (show ((l.drop 9).take 32).length=32 by rw [List.length_take,List.length_drop];have:=HlN.out;omega)
 have Hcell:=uQ (show ∀ (i:Nat) (c:UInt8),((l.drop 9).take 32)[i]?=some c→∀ w,Sat w0 w F→w.cell? ⟨bk,off+(9+i),none⟩=some (.int .u8 c.toNat) from fun i c hc w hw=>by
  have hi:i<32:=by have:=(List.getElem?_eq_some_iff.1 hc).1;rw [Hkl.out]at this;exact this
  rw [List.getElem?_take_of_lt hi,List.getElem?_drop]at hc
  have hx:(bys l)[9+i]?=some (.int .u8 c.toNat):=by unfold bys;rw [List.getElem?_map,hc];rfl
  obtain ⟨b',o',hb,hcc⟩:=rdsl_cells (Hr.out w hw) hx
  cases hb
  exact hcc _ _ hx)
 go_wp2_with (first|((with_reducible refine at_buildTag ⟨?_⟩);refine wl_buildTag rQ ?_)|((with_reducible refine at_allocE ⟨?_⟩);refine wl_allocE aQ ?_;intro bE wE hE)|((with_reducible refine at_storeE ⟨?_⟩);first|(refine wl_storeE aQ rQ rQ fQ upD sQ ?_;intro wS hS)|(refine wl_storeE (e:=Frm.zeroE) (da:=none) (dn:=0) (dc:=0) aQ rQ rQ rfl upD sQ ?_;intro wS hS))|((with_reducible refine at_loadE ⟨?_⟩);refine wl_loadE aQ rQ pkD fQ ?_))
 have hS0:=hS
 clear hS hE e8
 obtain ⟨kk,hkk⟩:∃ kk,kk=(l.drop 9).take 32:=⟨_,rfl⟩
 rw [← hkk]at Hf4 Hkl Hcell
 clear hkk
 go_loopg [12] 32 (fun g iq wr=>∃ i:Nat,g=32 - i∧i≤32∧iq = .int .i64 i∧Sat w0 wr (pt bE (.cells (entA ⟨1,keyTo kk i,[]⟩ (.slice none 0 0)) 44 (0,0))::pt bR (.cells (entA Frm.zeroE (.slice none 0 0)) 44 (0,0))::F))
 case atStart=>exact ⟨0,rfl,by decide,rfl,hS0⟩
 case round=>
  obtain ⟨i,rfl,hi,rfl,hS1⟩:=hrel
  clear hS0
  by_cases hlt:i<32
  ·have e1:(i:Int)<32:=by omega
   have hwi:=iwQ (i:=i)
   have hw9:IntKind.i64.wrap (9+(i:Int))=((9+i:Nat):Int):=by rw [show (9:Int)+(i:Int)=((9+i:Nat):Int) by omega];exact IntWalk.i64_in _ oQ
   have hln:((9+i:Nat):Int)<(l.length:Int):=by have:=HlN.out;omega
   obtain ⟨cc,hcc⟩:∃ cc,kk[i]?=some cc:=⟨_,List.getElem?_eq_getElem (by rw [Hkl.out];exact hlt)⟩
   have ec:=Hcell.out i cc hcc _ hS1.drop.drop
   have hset:=ent_setkey ⟨1,keyTo kk i,[]⟩ (.slice none 0 0) i cc (by show i<(keyTo kk i).length;rw [keyTo_len Hkl.out hi];exact hlt)
   simp only [keyTo_succ Hkl.out hlt hcc]at hset
   have Hset:=uQ hset;have Hlt:=uQ hlt
   have hfit:1+i+1≤(entA ⟨1,keyTo kk i,[]⟩ (.slice none 0 0)).size:=by rw [entA_size _ _ (keyTo_len Hkl.out hi)];omega
   have Hfit:=uQ hfit
   clear hset hcc hlt hfit
   generalize h9i:9+i=q at *
   go_wp2_with ((with_reducible refine at_store ⟨?_⟩);refine wl_store (b:=bE) (o:=1+i) (v:= .int .u8 cc.toNat) hS1 rQ evD Hset.out upd0 Hfit.out kQ rQ ?_;intro wT hT)
   go_roundg (32 - (i+1))
   case measure=>have:=Hlt.out;omega
   case rel=>exact ⟨i+1,rfl,Nat.succ_le_of_lt Hlt.out,by first|rfl|go_num,hT⟩
  ·obtain rfl:i=32:=by omega
   have e1:¬ ((32:Nat):Int)<32:=by decide
   rw [keyTo_end Hkl.out]at hS1
   clear hlt hi
   have hd0:(l.take 41).drop 41=[]:=List.drop_of_length_le (by rw [List.length_take];omega)
   rw [hd0]at Hf4
   have hkl:=Hkl.out
   go_wp2_with (first|((with_reducible refine at_loadE ⟨?_⟩);refine wl_loadE hS1 rQ pick0 hkl ?_)|((with_reducible refine at_storeE ⟨?_⟩);refine wl_storeE hS1 rQ rQ hkl (upd_there upd0) (entA_size _ _ rfl) ?_;intro wS hS))
   rw [Hf4.out]
   refine ⟨rfl,_,res_entE3 rfl aQ rQ pick1 hkl,_,rfl,none,0,rfl,Sat.osl_nil.2 hS.drop.drop⟩
end
section
variable {w0 w:World}{F R:List HProp}{v bv dv x lv:Value}
theorem rread7_c (l:Bs) (hr:Ro w0 F (rdsl 1 bv (bys l))) (hcap:capOk bv) (hl:l.length≤1099511627776) (h:Sat w0 w F) :
  Calls Tryz.prog 100 #[bv] w (Rtn fun v w'=>∃ da dc,v = .tuple #[.agg (entA (Frm.read l).1 (.slice da (Frm.read l).1.data.length dc)),.int .i64 (Frm.read l).2.1,errno (Frm.read l).2.2]∧Sat w0 w' (bsl (.slice da (Frm.read l).1.data.length dc) (Frm.read l).1.data::F)):=by
 by_cases h9:l.length<9
 ·exact rread_short h9 hr hcap hl h
 by_cases t0:(l.getD 8 0).toNat=0
 ·by_cases n1:Frm.num ((l.drop 4).take 4)<41
  ·exact rread_few l hr hcap hl h9 t0 n1 h
  ·by_cases n2:16425<Frm.num ((l.drop 4).take 4)
   ·exact rread_many l hr hcap hl h9 t0 n2 h
   ·exact rread0_c l hr hcap hl h9 t0 ⟨by omega,by omega⟩ h
 by_cases t1:(l.getD 8 0).toNat=1
 ·by_cases n1:Frm.num ((l.drop 4).take 4)=41
  ·exact rread1_c l hr hcap hl h9 t1 n1 h
  ·exact rread_one l hr hcap hl h9 t1 n1 h
 by_cases t2:(l.getD 8 0).toNat=2
 ·by_cases n1:Frm.num ((l.drop 4).take 4)=9
  ·exact rread2_c l hr hcap hl h9 t2 n1 h
  ·exact rread_two l hr hcap hl h9 t2 n1 h
 exact rread_tag l hr hcap hl h9 oQ h
end
end Go.Proofs.YtmjldaedhmipkaaGreatDoor
namespace Go.Seg
theorem at_some {L:Log}{n:Int}{i:Nat}{s:Int×Int} (h1:∀ (j:Nat) (s:Int×Int),j<i→L.l[j]?=some s→s.1≠n) (h2:L.l[i]?=some s) (h3:s.1=n):L.at n=some i:=by
 unfold Log.at
 rw [List.findIdx?_eq_some_iff_getElem]
 obtain ⟨hi,he⟩:=List.getElem?_eq_some_iff.1 h2
 refine ⟨hi,by rw [he,h3];simp,fun j hj=>?_⟩
 have:=h1 j _ hj (List.getElem?_eq_getElem oQ)
 simpa using this
theorem at_none {L:Log}{n:Int} (h1:∀ (j:Nat) (s:Int×Int),L.l[j]?=some s→s.1≠n):L.at n=none:=by
 unfold Log.at
 rw [List.findIdx?_eq_none_iff]
 intro s hs
 obtain ⟨j,hj⟩:=List.getElem?_of_mem hs
 simpa using h1 j s hj
end Go.Seg
namespace Go.Proofs.YtmjldaedhmipkaaGreatDoor
open Go Go.Sl Go.Med Go.MapKept Go.RowKit
abbrev rlogPt (p d:Nat) (L:Seg.Log) (lv:Value):HProp:=pt p (.cells #[ptr d,.int .i64 L.limit,lv,.bool L.on,.int .i64 L.fresh] 87 (0,0))
def RLogRaw (p d:Nat) (L:Seg.Log) (lv:Value):List HProp:=[rlogPt p d L lv,osl 84 2 lv (segw L.l)]
def RLogRep (p d:Nat) (L:Seg.Log):HProp:=fun h=>∃ lv,stars (RLogRaw p d L lv) h
section
variable {w0 w:World}{F R:List HProp}{p d:Nat}{L:Seg.Log}{lv v:Value}{D:Med}{K:Nat}
theorem RLogRep.open (h:Sat w0 w (RLogRep p d L::F)):∃ lv,Sat w0 w (rlogPt p d L lv::osl 84 2 lv (segw L.l)::F):=by
 obtain ⟨ha,x,hx,q,r,dd,rfl,⟨lv,hp⟩,hq⟩:=h
 refine ⟨lv,ha,_,hx,?_⟩
 show stars (RLogRaw p d L lv++F) _
 rw [stars_append]
 exact ⟨q,r,dd,rfl,hp,hq⟩
theorem RLogRep.shut (h:Sat w0 w (rlogPt p d L lv::osl 84 2 lv (segw L.l)::F)):Sat w0 w (RLogRep p d L::F):=
 Sat.join (M:=RLogRaw p d L lv) h fun _ hx=>⟨lv,hx⟩
theorem sgs_sl {l:List (Int×Int)} (h:rdsl 2 v (segw l) w):∃ a c,v = .slice a l.length c:=by
 obtain ⟨a,n,c,rfl,hl,hx⟩:=h
 rw [segw_len]at hl
 obtain rfl:n=l.length:=by omega
 exact ⟨a,c,rfl⟩
theorem segw_at':∀ {l:List (Int×Int)}{i:Nat}{s:Int×Int},l[i]?=some s→(segw l)[i * 2]?=some (.int .i64 s.1)∧(segw l)[i * 2+1]?=some (.int .i64 s.2)
 |[],_,_,h=>by simp at h
 |a::l,0,s,h=>by
  obtain rfl:a=s:=by simpa using h
  exact ⟨rfl,rfl⟩
 |a::l,i+1,s,h=>by
  have e1:segw (a::l) = .int .i64 a.1 :: .int .i64 a.2::segw l:=rfl
  have h':l[i]?=some s:=by simpa using h
  rw [e1,show (i+1) * 2=i * 2+1+1 by omega]
  exact segw_at' h'
theorem sgs_cells {l:List (Int×Int)}{i:Nat}{s:Int×Int}{a:Option Addr}{n c:Nat} (h:rdsl 2 (.slice a n c) (segw l) w) (hi:l[i]?=some s) :
  ∃ bk off,a=some ⟨bk,off,none⟩∧w.cell? ⟨bk,off+i * 2,none⟩=some (.int .i64 s.1)∧w.cell? ⟨bk,off+i * 2+1,none⟩=some (.int .i64 s.2):=by
 obtain ⟨h0,h1⟩:=segw_at' hi
 obtain ⟨bk,off,rfl,hc⟩:=rdsl_cells h h0
 exact ⟨bk,off,rfl,hc _ _ h0,by rw [Nat.add_assoc];exact hc _ _ h1⟩
set_option maxRecDepth 20000 in
theorem r14next_c (hL:L.Ok) (h:Sat w0 w (RLogRep p d L::F)) :
  Calls Tryz.prog 103 #[ptr p] w (Rtn fun v w'=>v = .int .i64 L.next∧Sat w0 w' (RLogRep p d L::F)):=by
 obtain ⟨lv,hR⟩:=RLogRep.open h
 obtain ⟨la,lc,rfl⟩:=sgs_sl (Sat.rd (hR.pick pick1))
 have hlen:=hL.len
 have e2:w.cell? ⟨p,2,none⟩=some (.slice la L.l.length lc):=hR.cellP pick0 2 rfl
 have Hnx:=uQ (show L.next=match L.l.getLast? with|none=>0|some s=>s.1+1 from rfl)
 have Hnums:=uQ hL.nums
 clear h hL
 by_cases h0:L.l=[]
 ·have c0:L.l.length=0:=by rw [h0];rfl
  have hn:L.next=0:=by rw [Hnx.out,h0];rfl
  have Hn:=uQ hn
  rw [c0]at e2
  clear h0 hn c0 hlen
  go_enter Tryz.func103,Tryz.ntmps103
  go_wp2
  go_ret
  exact ⟨_,rfl,by rw [Hn.out];rfl,RLogRep.shut hR⟩
 ·obtain ⟨k,hk⟩:∃ k,L.l.length=k+1:=⟨L.l.length - 1,by have:L.l.length≠0:=fun e=>h0 (List.length_eq_zero_iff.1 e);omega⟩
  obtain ⟨s,hs⟩:∃ s,L.l[k]?=some s:=⟨_,List.getElem?_eq_getElem oQ⟩
  have hlast:L.l.getLast?=some s:=by rw [List.getLast?_eq_getElem?,hk];exact hs
  have hn:L.next=s.1+1:=by rw [Hnx.out,hlast]
  obtain ⟨n1,n2⟩:=Hnums.out s (List.mem_of_getElem? hs)
  have hRd:=hR.drew
  obtain ⟨bk,off,rfl,c0,_⟩:=sgs_cells (Sat.rd (hRd.pick pick1)) hs
  have Hn:=uQ hn
  have hw1:IntKind.i64.wrap (s.1+1)=s.1+1:=IntWalk.i64_in _ oQ
  have hw2:IntKind.i64.wrap (((k+1:Nat):Int) - 1)=(k:Int):=by rw [show ((k+1:Nat):Int) - 1=(k:Int) by omega];exact IntWalk.i64_in _ oQ
  have d1:((((k+1:Nat):Int))==0)=false:=by rw [beq_eq_false_iff_ne];omega
  have d2:(k:Int)<((k+1:Nat):Int):=oQ
  have e3:World.cell? (World.drew w) ⟨p,2,none⟩=some (.slice (some ⟨bk,off,none⟩) (k+1) lc):=by rw [← hk];exact hRd.cellP pick0 2 rfl
  rw [hk]at e2
  clear hlast hn h0 n1 n2 hs
  generalize s.1=z at *
  go_enter Tryz.func103,Tryz.ntmps103
  go_wp2_with fail
  go_region
  go_wp2
  go_ret
  exact ⟨_,rfl,by rw [Hn.out];rfl,RLogRep.shut hRd⟩
set_option maxRecDepth 20000 in
theorem r14at_c (hL:L.Ok) (n:Int) (h:Sat w0 w (RLogRep p d L::F)) :
  Calls Tryz.prog 82 #[ptr p,.int .i64 n] w (Rtn fun v w'=>v = .int .i64 (L.find n)∧w=w'):=by
 obtain ⟨lv,hR⟩:=RLogRep.open h
 obtain ⟨la,lc,rfl⟩:=sgs_sl (Sat.rd (hR.pick pick1))
 have hlen:=hL.len
 have e2:w.cell? ⟨p,2,none⟩=some (.slice la L.l.length lc):=hR.cellP pick0 2 rfl
 have hrd:=Sat.rd (hR.pick pick1)
 clear h hL hR
 go_enter Tryz.func82,Tryz.ntmps82
 go_wp2_with fail
 go_loopg [5] L.l.length (fun g iq wr=>∃ i:Nat,g=L.l.length - i∧i≤L.l.length∧iq = .int .i64 i∧(∀ (j:Nat) (s:Int×Int),j<i→L.l[j]?=some s→s.1≠n)∧wr=w)
 case atStart=>exact ⟨0,rfl,Nat.zero_le _,rfl,fun j s hj=>by omega,rfl⟩
 case round=>
  obtain ⟨i,rfl,hi,rfl,hno,rfl⟩:=hrel
  by_cases hlt:i<L.l.length
  ·have c1:(i:Int)<(L.l.length:Int):=by omega
   have hwi:=iwQ (i:=i)
   obtain ⟨s,hs⟩:∃ s,L.l[i]?=some s:=⟨_,List.getElem?_eq_getElem hlt⟩
   obtain ⟨bk,off,rfl,c0,_⟩:=sgs_cells hrd hs
   have Hlt:=uQ hlt;have Hs:=uQ hs;have Hno:=uQ hno
   clear hlt hs hno hlen
   by_cases hsn:s.1=n
   ·have hb:(s.1==n)=true:=by rw [hsn];exact beq_self_eq_true _
    have Hf:=uQ (show L.find n=(i:Int) by unfold Seg.Log.find;rw [Seg.at_some Hno.out Hs.out hsn])
    subst hsn
    go_wp2
    go_ret
    exact ⟨_,rfl,by rw [Hf.out];rfl,rfl⟩
   ·have hb:(s.1==n)=false:=by rw [beq_eq_false_iff_ne];exact hsn
    have Hsn:=uQ hsn
    clear hsn
    go_wp2_with fail
    go_roundg (L.l.length - (i+1))
    case measure=>have:=Hlt.out;omega
    case rel=>exact ⟨i+1,rfl,Nat.succ_le_of_lt Hlt.out,by first|rfl|go_num,fun j s' hj hs'=>by
     rcases Nat.lt_or_ge j i with h1|h1
     ·exact Hno.out j s' h1 hs'
     ·obtain rfl:j=i:=by omega
      rw [Hs.out]at hs';cases hs';exact Hsn.out,rfl⟩
  ·obtain rfl:i=L.l.length:=by omega
   have c1:¬ (L.l.length:Int)<(L.l.length:Int):=oQ
   have Hf:=uQ (show L.find n = -1 by unfold Seg.Log.find;rw [Seg.at_none fun j s hs=>hno j s (List.getElem?_eq_some_iff.1 hs).1 hs])
   clear hlt hno
   go_wp2
   go_ret
   exact ⟨_,rfl,by rw [Hf.out];rfl,rfl⟩
end
section
variable {P:Program}{w0 w:World}{F R:List HProp}{e:TypeId}{ops:Array Oper}{a:Act}{Q:Exit→Act→World→Prop}{dst:Option Tmp}{ty:TypeId}{t:Nat}{pos:String}{after:Array Edge}{s y:Operand}{v x:Value}{xs ys:List Value}{K:Act→World→Prop}{E:Prop}
theorem eff_appG (sz by':Nat) (hb:appB P ty e sz by'=true) (hs:Sat w0 w (osl e sz v xs::R)) (hv:a.eval s=v) (hy:a.eval y=x) (hx:rdsl sz x ys w) (h1:∀ u∈ys,u.oneCell'=true)
  (hl:xs.length+ys.length≤2147483648) (hby:by'≤65000)
  (hK:∀ v' w',Sat w0 w' (osl e sz v' (xs++ys)::R)→K (a.put dst v') w') :
  if Region.wanted ⟨dst,.call { callee:= .builtin .append,args:=#[s,y],argTypes:=#[ty,ty] },t,pos,after,none⟩ (yielded ops a.tmps)=true then
   Oper.wp P ⟨dst,.call { callee:= .builtin .append,args:=#[s,y],argTypes:=#[ty,ty] },t,pos,after,none⟩ a w K Q else E:=by
 obtain ⟨hu,i,z,hi,hz,e1,e2,e3,e4⟩:=appB_spec hb
 subst e2
 refine step_append (w0:=w0) rQ s y ty rQ _ i z hu hi hz e1 e3 e4 hv hy h1 hs hx (by unfold maxLen;omega) ?_ fun v' w' h2 _=>hK v' w' h2
 exact Nat.le_trans (Nat.mul_le_mul hl hby) dQ
end
theorem rd_cells {w0 w:World}{L R:List HProp}{b sz n c:Nat}{cs:Array Value}{T:TypeId}{ys:List Value} (h:Sat w0 w L) (p:Pick (pt b (.cells cs T (0,0))) L R) (hn:ys.length=n * sz) (hy:∀ (j:Nat) (u:Value),ys[j]?=some u→cs[j]?=some u) :
  rdsl sz (.slice (some ⟨b,0,none⟩) n c) ys w:=
 ⟨_,n,c,rfl,hn,fun j x hj=>⟨_,rfl,by rw [add_zero_lit];exact (h.pick p).cellAt j x (hy j x hj)⟩⟩
theorem rd_cells' {w0 w:World}{L R:List HProp}{b sz n c o:Nat}{ad:Addr}{cs:Array Value}{T:TypeId}{ys:List Value} (h:Sat w0 w L) (p:Pick (pt b (.cells cs T (0,0))) L R) (hn:ys.length=n * sz) (had:0<n→ad=⟨b,o,none⟩) (hy:∀ (j:Nat) (u:Value),ys[j]?=some u→cs[o+j]?=some u) :
  rdsl sz (.slice (some ad) n c) ys w:=
 ⟨_,n,c,rfl,hn,fun j x hj=>⟨_,rfl,by
  have h0:0<n:=by
   rcases Nat.eq_zero_or_pos n with rfl|h0
   ·rw [Nat.zero_mul]at hn
    rw [List.length_eq_zero_iff.1 hn]at hj;cases hj
   ·exact h0
  rw [had h0,Addr.add_mid];exact (h.pick p).cellAt _ x (hy j x hj)⟩⟩
theorem seg_drop {l:List (Int×Int)}{cs:Array Value}{i j:Nat}{u:Value} (h:cs.toList.take (l.length * 2)=segw l) (hj:(segw (l.drop i))[j]?=some u):cs[i * 2+j]?=some u:=by
 refine take_get h ?_
 rw [segw_drop,List.getElem?_drop]at hj
 exact hj
theorem seg_take {l:List (Int×Int)}{cs:Array Value}{i j:Nat}{u:Value} (h:cs.toList.take (l.length * 2)=segw l) (hj:(segw (l.take i))[j]?=some u):cs[j]?=some u:=by
 have e:segw l=segw (l.take i)++segw (l.drop i):=by rw [← segw_app,List.take_append_drop]
 refine take_get h ?_
 rw [e,List.getElem?_append_left (List.getElem?_eq_some_iff.1 hj).1]
 exact hj
section
variable {w0 w:World}{F R:List HProp}{p d:Nat}{L:Seg.Log}{lv v:Value}{D:Med}{K:Nat}
set_option maxRecDepth 20000 in
theorem rlremove_c (hL:L.Ok) (hD:Seg.Fit K D) (hKK:K≤1048000) (n:Int) (h:Sat w0 w (RLogRep p d L::DskRep d D::F)) :
  Calls Tryz.prog 24 #[ptr p,.int .i64 n] w (Rtn fun v w'=>v=errno (L.rremove D n).2∧Sat w0 w' (RLogRep p d (L.rremove D n).1.1::DskRep d (L.rremove D n).1.2::F)):=by
 have hf:=r14at_c hL n h
 rcases find_neg (L:=L) n with ⟨ha,hb⟩|⟨i,ha,hb⟩
 ·have Hfin:=uQ (show L.rremove D n=((L,D),9) by unfold Seg.Log.rremove;rw [ha])
  rw [hb]at hf
  clear ha hb hL hD
  go_enter Tryz.func24,Tryz.ntmps24
  go_wp2_with fail
  refine hf.mono ?_
  rintro e w2 ⟨v,rfl,rfl,rfl⟩
  clear hf
  go_wp2
  go_ret
  rw [Hfin.out]
  exact ⟨_,rfl,rfl,h⟩
 ·rw [hb]at hf
  have hlt:=(Seg.Log.at_lt ha).1
  have Hg:=uQ (show L.rremove D n=if (D.rmove (Seg.name n) ByteArray.empty true).2=0 then ((L.without i,(D.rmove (Seg.name n) ByteArray.empty true).1),0) else ((L,(D.rmove (Seg.name n) ByteArray.empty true).1),(D.rmove (Seg.name n) ByteArray.empty true).2) by unfold Seg.Log.rremove;rw [ha])
  have hi0:(0:Int)≤(i:Int):=oQ
  have hd:decide ((i:Int)<0)=false:=decide_eq_false oQ
  have Hlt:=uQ hlt;have Hln:=uQ hL.len;have Hfr:=uQ hL.fresh;have HD:=uQ hD
  have HKK:=uQ hKK
  obtain ⟨lv,hR⟩:=RLogRep.open h
  clear ha hb hL h hlt hD hKK
  go_enter Tryz.func24,Tryz.ntmps24
  go_wp2_with fail
  refine hf.mono ?_
  rintro e w2 ⟨v,rfl,rfl,rfl⟩
  clear hf
  go_wp2_with fail
  refine wpL_begin [6,7] (fun w'=>w'.cell? ⟨p,0,none⟩=some (ptr d)) kQ ?_
  have hG:(World.drew _).cell? ⟨p,0,none⟩=some (ptr d):=hR.drew.cellP pkD 0 rfl
  refine rP 0 ?_ (y:=mvQ)
  refine rP 1 ?_ (y:=nlQ)
  refine rP 2 ?_ (y:=flQ)
  refine rt 3 (h:=?_)
  refine rP 4 ?_ (y:=mvQ)
  refine rg_eff 5 evD kQ (fun K hK=>?_)
  (refine eff_call1 kQ evD ?_)
  refine (rname_c n _).mono ?_
  rintro e w3 ⟨v,rfl,rfl,rfl⟩
  refine hK _ _ (.inr (.inr rfl)) ?_
  clear hK
  refine rg_eff 6 evD kQ (fun K hK=>?_)
  (refine eff_call4 kQ evD evD evD evD ?_)
  have hRd:=hR.drew
  refine (rmove_c (Seg.name n) ByteArray.empty true dQ (by have:=HD.out.now;omega) (by have:=HD.out.ok.budget;have:=HKK.out;omega) HD.out.ok.left (Sat.pk aQ)).mono ?_
  rintro e w4 ⟨v,rfl,rfl,hS4⟩
  refine hK _ _ (.inl rfl) ?_
  clear hK hR hRd hG
  refine rP 7 ?_ (y:=asQ)
  refine wdQ ?_
  clear HD
  generalize D.rmove (Seg.name n) ByteArray.empty true=B at *
  obtain ⟨M2,e2⟩:=B
  by_cases he:e2=0
  rotate_left
  ·have heb:(e2==0)=false:=beq_false_of_ne he
   have hfin:=uQ (Hg.out.trans (if_neg he))
   clear he
   go_wp2_with fail
   go_ret
   rw [hfin.out]
   exact ⟨_,rfl,rfl,RLogRep.shut (lv:=lv) (Sat.sb hS4)⟩
  subst he
  have hfin:=uQ (Hg.out.trans (if_pos rfl))
  clear Hg
  rcases (hS4.pk (A:=osl 84 2 lv (segw L.l))).osl_cases with ⟨rfl,hx,hF⟩|⟨bk,n',cap,cs,rfl,hll,hn',hc,hcm,htk,hp⟩
  ·exfalso
   have:=congrArg List.length hx
   have:=Hlt.out
   rw [segw_len]at *;simp at *;omega
  rw [segw_len]at hll
  obtain rfl:n'=L.l.length:=by omega
  have hS5:Sat w0 w4 (rlogPt p d L (.slice (some ⟨bk,0,none⟩) L.l.length cap)::pt bk (.cells cs 84 (0,0))::DskRep d M2::F):=hp.sb
  clear hp hS4
  have hc2:(segw L.l).length=2 * L.l.length:=segw_len _
  have hic:i≤cap:=by have:=Hlt.out;omega
  have hiL:(i:Int)≤(cap:Int):=oQ
  have hw1:IntKind.i64.wrap ((L.l.length:Int) - 1)=(L.l.length:Int) - 1:=by rw [IntKind.wrap_i64];have:=Hln.out;omega
  have hw2:IntKind.i64.wrap ((L.l.length:Int) - L.fresh)=(L.l.length:Int) - L.fresh:=by rw [IntKind.wrap_i64];have:=Hln.out;have:=Hfr.out;omega
  have hw3:IntKind.i64.wrap (L.fresh - 1)=L.fresh - 1:=by rw [IntKind.wrap_i64];have:=Hln.out;have:=Hfr.out;omega
  have hw4:IntKind.i64.wrap ((i:Int)+1)=(i:Int)+1:=by rw [IntKind.wrap_i64];have:=Hln.out;have:=Hlt.out;omega
  have Htk:=uQ htk;have Hc:=uQ hc;have Hn:=uQ hn'
  obtain ⟨ad,Had,Hsl⟩:∃ ad:Addr,Hid (i+1<L.l.length→ad=⟨bk,(i+1) * 2,none⟩)∧Hid (∀ w,(Instr.sliceAt 85 (.slice (some ⟨bk,0,none⟩) L.l.length cap) (some (.int .i64 ((i:Int)+1))) none none).run Tryz.prog w = .ok (.slice (some ad) (L.l.length - (i+1)) (cap - (i+1))) w):=by
   have h1:(i:Int)+1≤(L.l.length:Int):=by have:=Hlt.out;omega
   have h3:(L.l.length:Int)≤(cap:Int):=oQ
   have h4:(0:Int)≤(i:Int)+1:=oQ
   have h5:((i:Int)+1).toNat=i+1:=oQ
   clear hw1 hw2 hw3 hw4 hfin
   by_cases hce:cap=i+1
   ·refine ⟨⟨bk,0,none⟩,uQ fun hh=>by have:=Hn.out;omega,uQ fun w=>?_⟩
    go_simp
   ·refine ⟨⟨bk,(i+1) * 2,none⟩,uQ fun _=>rfl,uQ fun w=>?_⟩
    go_simp
  have Hon:=uQ (show (L.without i).on=if ((i:Int)==(L.l.length:Int) - 1)=true then false else L.on by
   unfold Seg.Log.without
   simp only [beq_iff_eq]
   have:=Hlt.out
   by_cases hh:i+1=L.l.length
   ·rw [if_pos hh,if_pos oQ]
   ·rw [if_neg hh,if_neg oQ])
  have Hfs:=uQ (show (L.without i).fresh=if decide ((L.l.length:Int) - L.fresh≤(i:Int))=true then L.fresh - 1 else L.fresh by
   unfold Seg.Log.without
   simp only [decide_eq_true_eq])
  have Hll:=uQ (show (L.without i).l=L.l.take i++L.l.drop (i+1)∧(L.without i).limit=L.limit from ⟨List.eraseIdx_eq_take_drop_succ _ _,rfl⟩)
  generalize L.without i=LW at *
  obtain ⟨Wlim,Wl,Won,Wfr⟩:=LW
  obtain ⟨rfl,rfl⟩:=Hll.out
  obtain rfl:=Hon.out
  obtain rfl:=Hfs.out
  clear Hon Hfs Hll hn' hc hcm htk hc2
  cases hb1:((i:Int)==(L.l.length:Int) - 1) <;> cases hb2:(decide ((L.l.length:Int) - L.fresh≤(i:Int)))
  all_goals
   have hS4:=hS5
   go_wp2_with (first|((with_reducible refine at_load ⟨?_⟩);refine ldQ ?_)|((with_reducible refine at_store ⟨?_⟩);refine stQ ?_;intro wS hS))
   try (have hS4:=hS;clear hS)
   have hG:(World.drew _).cell? ⟨p,2,none⟩=some (.slice (some ⟨bk,0,none⟩) L.l.length cap)∧(World.drew _).cell? ⟨p,4,none⟩=some (.int .i64 L.fresh):=⟨hS4.drew.cellP pkD 2 rfl,hS4.drew.cellP pkD 4 rfl⟩
   refine wpL_begin [10,11] (fun w'=>w'.cell? ⟨p,2,none⟩=some (.slice (some ⟨bk,0,none⟩) L.l.length cap)∧w'.cell? ⟨p,4,none⟩=some (.int .i64 L.fresh)) kQ ?_
   refine rP 0 ?_ (y:=mvQ)
   refine rP 1 ?_ (y:=mvQ)
   refine rP 2 ?_ (y:=nlQ)
   refine rP 3 ?_ (y:=flQ)
   refine rt 4 (h:=?_)
   refine rP 5 ?_ (y:=(yl_len evD rnD))
   refine rP 6 ?_ (y:=mvQ)
   refine rP 7 ?_ (y:=nlQ)
   refine rP 8 ?_ (y:=flQ)
   refine rt 9 (h:=?_)
   refine rP 10 ?_ (y:=bnQ)
   refine rP 11 ?_ (y:=bnQ)
   refine wdQ ?_
   clear hG
   have hS6:=hS4.drew
   clear hS4
   go_wp2_with (first|((with_reducible refine at_load ⟨?_⟩);refine ldQ ?_)|((with_reducible refine at_store ⟨?_⟩);refine stQ ?_;intro wS hS))
   try (have hS6:=hS;clear hS)
   have hG:(World.drew _).cell? ⟨p,2,none⟩=some (.slice (some ⟨bk,0,none⟩) L.l.length cap):=hS6.drew.cellP pkD 2 rfl
   have hS7:=hS6.drew
   refine wpL_begin [15,16] (fun w'=>w'.cell? ⟨p,2,none⟩=some (.slice (some ⟨bk,0,none⟩) L.l.length cap)) kQ ?_
   refine rP 0 ?_ (y:=mvQ)
   refine rP 1 ?_ (y:=mvQ)
   refine rP 2 ?_ (y:=nlQ)
   refine rP 3 ?_ (y:=flQ)
   refine rt 4 (h:=?_)
   refine rP 5 ?_ (y:=mvQ)
   refine rp 6 (hy:=(by (refine Or.inl ⟨by rfl,?_⟩;((intro wq;go_simp);first|done|exact wQ)))) (h:=?_)
   refine rP 8 ?_ (y:=mvQ)
   refine rP 9 ?_ (y:=nlQ)
   refine rP 10 ?_ (y:=flQ)
   refine rt 11 (h:=?_)
   refine rP 12 ?_ (y:=mvQ)
   refine rP 13 ?_ (y:=bnQ)
   refine rP 14 ?_ (y:=(yl_slice_lo evD evD Hsl.out))
   refine rg_eff 7 evD kQ (fun K hK=>?_)
   refine eff_appG (e:=84) 2 16 kQ (Sat.osl_nil.2 hS7) rQ rQ (ys:=segw (L.l.take i)) (rd_cells hS7 pkD (by rw [segw_len,List.length_take];have:=Hlt.out;omega) fun j u hj=>seg_take Htk.out hj) (segw_one _) (by rw [segw_len,List.length_take,List.length_nil];have:=Hln.out;omega) dQ ?_
   intro v1 w8 hS8
   rw [List.nil_append]at hS8
   refine hK _ _ (.inr (.inl (hS8.cellP pkD 2 rfl))) ?_
   clear hK K hG
   refine rg_eff 15 evD kQ (fun K hK=>?_)
   refine eff_appG (e:=84) 2 16 kQ hS8 evD evD (ys:=segw (L.l.drop (i+1))) (rd_cells' (n:=L.l.length - (i+1)) (o:=(i+1) * 2) hS8 pkD (by rw [segw_len,List.length_drop,Nat.mul_comm]) (fun hne=>Had.out (by have:=hne;omega)) fun j u hj=>seg_drop Htk.out hj) (segw_one _) (by rw [segw_len,segw_len,List.length_take,List.length_drop];have:=Hln.out;omega) dQ ?_
   intro v2 w9 hS9
   obtain ⟨a2,n2,c2,rfl,_⟩:=id hS9.rd
   rw [← segw_app]at hS9
   refine hK _ _ (.inl rfl) ?_
   clear hK K
   refine rP 16 ?_ (y:=asQ)
   refine wdQ ?_
   clear hS5 hS6 hS7 hS8
   go_wp2_with (first|((with_reducible refine at_load ⟨?_⟩);refine ldQ ?_)|((with_reducible refine at_store ⟨?_⟩);refine stQ ?_;intro wS hS))
   go_ret
   rw [hfin.out,hb1,hb2]
   simp only [List.setIfInBounds_toArray,List.set_cons_zero,List.set_cons_succ]at hS
   simp only [if_true,if_false,Bool.false_eq_true]
   exact ⟨_,rfl,rfl,RLogRep.shut (lv:= .slice a2 n2 c2) (Sat.sb hS)⟩
end
end Go.Proofs.YtmjldaedhmipkaaGreatDoor
namespace Go.Seg
open Go.Med
theorem rbegin_off {L:Log}{D:Med}{b:Bs} (h:L.on=false):L.rbegin D b=L.rbegin1 D b:=by
 have e:L.shut D=((L,D),0):=by
  unfold Log.shut
  cases L.l.getLast? with
  |none=>rfl
  |some s=>simp only [h];rfl
 unfold Log.rbegin
 rw [e];rfl
theorem rbegin_on {L:Log}{D:Med}{b:Bs}{s:Int×Int} (h:L.on=true) (hl:L.l.getLast?=some s):L.rbegin D b=if (D.sync (name s.1)).2=0 then ({ L with on:=false }:Log).rbegin1 (D.sync (name s.1)).1 b else ((L,(D.sync (name s.1)).1),Plc.zero,(D.sync (name s.1)).2):=by
 unfold Log.rbegin Log.shut
 rw [hl]
 simp only [h,if_true]
 by_cases he:(D.sync (name s.1)).2=0
 ·rw [if_pos he,if_pos he];rfl
 ·rw [if_neg he,if_neg he,if_neg he]
end Go.Seg
namespace Go.Seg
theorem name_small (n:Int):(name n).size≤9223372036854775806:=by
 unfold name
 split
 ·decide
 ·show (lead++digs n.toNat 8).toArray.size≤_
  rw [List.size_toArray,List.length_append,digs_len];decide
end Go.Seg
namespace Go.Proofs.YtmjldaedhmipkaaGreatDoor
open Go Go.Sl Go.Med Go.MapKept Go.RowKit
section
variable {w0 w:World}{F R:List HProp}{p d q:Nat}{L:Seg.Log}{lv v bv:Value}{D:Med}{K:Nat}
set_option maxRecDepth 20000 in
theorem rlbegin_c (hL:L.Ok) (hD:Seg.Fit K D) (hKK:K≤1048000) (b:Bs) (hbl:b.length≤65536) (hr:Ro w0 F (rdsl 1 bv (bys b)))
  (h:Sat w0 w (RLogRep p d L::DskRep d D::F)) :
  Calls Tryz.prog 75 #[ptr p,bv] w (Rtn fun v w'=>v = .tuple #[plcA (L.rbegin D b).2.1,errno (L.rbegin D b).2.2] ∧
   Sat w0 w' (RLogRep p d (L.rbegin D b).1.1::DskRep d (L.rbegin D b).1.2::F)):=by
 obtain ⟨ba,bn,bc,rfl,hbn⟩:=ro_len hr (A:=emp) (Sat.emp.2 (h.sel 2 [] rfl rfl))
 subst hbn
 have Hr:=uQ hr;have Hbl:=uQ hbl;have HKK:=uQ hKK
 clear hr hbl
 obtain ⟨lv,hR⟩:=RLogRep.open h
 obtain ⟨la,lc,rfl⟩:=sgs_sl (Sat.rd (hR.pick pick1))
 obtain ⟨lim,l,on,fr⟩:=L
 dsimp only at hR
 cases on
 case' false=>
  have Hg:=uQ (Seg.rbegin_off (L:=⟨lim,l,false,fr⟩) (D:=D) (b:=b) rfl)
  have HL:=uQ hL
  have HD:=uQ (hD.mono (Nat.le_succ K))
  clear hL hD h hKK
  generalize Seg.Log.rbegin ⟨lim,l,false,fr⟩ D b=RES at *
  go_enter Tryz.func75,Tryz.ntmps75
  go_wp2_with (first|(refine wl_alloc zPlace aQ rfl ?_;intro q w1 hS1)|((with_reducible refine at_load ⟨?_⟩);refine ldQ ?_)|((with_reducible refine at_store ⟨?_⟩);refine stQ ?_;intro wS hS))
  have hT:Sat w0 _ (RLogRep p d ⟨lim,l,false,fr⟩::pt q (.cells #[.int .i64 0,.int .i64 0,.int .i64 0] 39 (0,0))::DskRep d D::F):=RLogRep.shut (lv:= .slice la l.length lc) (Sat.sb hS)
  clear hS hS1 hR
 case' true=>
  obtain ⟨k,hk⟩:∃ k,l.length=k+1:=⟨l.length - 1,by
   have h1:l≠[]:=hL.on rfl
   have:l.length≠0:=fun e=>h1 (List.length_eq_zero_iff.1 e)
   omega⟩
  obtain ⟨s,hs⟩:∃ s,l[k]?=some s:=⟨_,List.getElem?_eq_getElem oQ⟩
  have hlast:l.getLast?=some s:=by rw [List.getLast?_eq_getElem?,hk];exact hs
  have Hg:=uQ (Seg.rbegin_on (L:=⟨lim,l,true,fr⟩) (D:=D) (b:=b) rfl hlast)
  have HL:=uQ (show (⟨lim,l,false,fr⟩:Seg.Log).Ok from hL.shutOff)
  have HD0:=uQ hD
  have hk2:k≤1048576:=by have:=hL.len;dsimp only at this;omega
  have HD:=uQ (hD.sync (Seg.name s.1))
  obtain ⟨bk,off,rfl,c0,_⟩:=sgs_cells (Sat.rd (hR.pick pick1)) hs
  have Hc0:=uQ (fun (w':World) (F':List HProp) (h':Sat w0 w' (osl 84 2 (.slice (some ⟨bk,off,none⟩) l.length lc) (segw l)::F'))=>(sgs_cells h'.rd hs))
  have hw1:IntKind.i64.wrap (((k+1:Nat):Int) - 1)=(k:Int):=by rw [show ((k+1:Nat):Int) - 1=(k:Int) by omega];exact IntWalk.i64_in _ oQ
  have hw1':IntKind.i64.wrap (k:Int)=(k:Int):=IntWalk.i64_in _ oQ
  have d2:(k:Int)<((k+1:Nat):Int):=oQ
  have d3:(0:Int)≤(k:Int):=oQ
  have d4:(k:Int)<(k:Int)+1:=oQ
  rw [hk]at hR Hc0
  clear hL hD h hKK hlast c0 hk2
  generalize Seg.Log.rbegin ⟨lim,l,true,fr⟩ D b=RES at *
  go_enter Tryz.func75,Tryz.ntmps75
  go_wp2_with (first|(refine wl_alloc zPlace aQ rfl ?_;intro q w1 hS1)|((with_reducible refine at_load ⟨?_⟩);refine ldQ ?_)|((with_reducible refine at_store ⟨?_⟩);refine stQ ?_;intro wS hS))
  have hSd:=hS1.drew
  obtain ⟨bk2,off2,hbe,c0,_⟩:=Hc0.out _ _ (hSd.pk)
  cases hbe
  refine wpL_begin [18,19] (fun w'=>w'.cell? ⟨p,0,none⟩=some (ptr d)∧w'.cell? ⟨p,2,none⟩=some (.slice (some ⟨bk,off,none⟩) (k+1) lc)∧w'.cell? ⟨bk,off+k * 2,none⟩=some (.int .i64 s.1)) kQ ?_
  have hG:w1.drew.cell? ⟨p,0,none⟩=some (ptr d)∧w1.drew.cell? ⟨p,2,none⟩=some (.slice (some ⟨bk,off,none⟩) (k+1) lc)∧w1.drew.cell? ⟨bk,off+k * 2,none⟩=some (.int .i64 s.1):=⟨hSd.cellP pkD 0 rfl,hSd.cellP pkD 2 rfl,c0⟩
  refine rP 0 ?_ (y:=mvQ)
  refine rP 1 ?_ (y:=nlQ)
  refine rP 2 ?_ (y:=flQ)
  refine rt 3 (h:=?_)
  refine rP 4 ?_ (y:=mvQ)
  refine rP 5 ?_ (y:=nlQ)
  refine rP 6 ?_ (y:=flQ)
  refine rt 7 (h:=?_)
  refine rP 8 ?_ (y:=mvQ)
  refine rP 9 ?_ (y:=nlQ)
  refine rP 10 ?_ (y:=flQ)
  refine rt 11 (h:=?_)
  refine rP 12 ?_ (y:=(yl_len evD rnD))
  refine rP 13 ?_ (y:=bnQ)
  refine rP 14 ?_ (y:=ixQ)
  refine rP 15 ?_ (y:=flQ)
  refine rt 16 (h:=?_)
  clear hG c0
  refine rg_eff 17 evD kQ (fun K hK=>?_)
  (refine eff_call1 kQ evD ?_)
  refine (rname_c _ _).mono ?_
  rintro e w3 ⟨v,rfl,rfl,rfl⟩
  refine hK _ _ (.inr (.inr rfl)) ?_
  clear hK
  generalize Seg.name s.1=nm at *
  refine rg_eff 18 evD kQ (fun K hK=>?_)
  (refine eff_call3 kQ evD evD evD ?_)
  refine (rsync_c nm (by have:=HD0.out.now;omega) HD0.out.ok.left (fun i hi=>HD0.out.len hi) (Sat.pk aQ)).mono ?_
  rintro e w4 ⟨v,rfl,rfl,hS4⟩
  refine hK _ _ (.inl rfl) ?_
  clear hK hSd hS1 HD0
  refine rP 19 ?_ (y:=asQ)
  refine wdQ ?_
  generalize D.sync nm=S at *
  clear hR D
  obtain ⟨D,e1⟩:=S
  by_cases he:e1=0
  rotate_left
  ·have heb:(e1==0)=false:=beq_false_of_ne he
   have hfin:=uQ (Hg.out.trans (if_neg he))
   clear he
   go_wp2_with ((with_reducible refine at_store ⟨?_⟩);refine stQ ?_;intro wS hS)
   refine ⟨rfl,_,res_cell_tmp rfl aQ rQ pkD Tryz.underlying39 rfl kQ,_,rfl,?_,?_⟩
   ·rw [hfin.out];rfl
   ·rw [hfin.out];exact RLogRep.shut (lv:= .slice (some ⟨bk,off,none⟩) (k+1) lc) (Sat.sb hS)
  subst he
  replace Hg:=uQ (Hg.out.trans (if_pos rfl))
  go_wp2_with (first|((with_reducible refine at_load ⟨?_⟩);refine ldQ ?_)|((with_reducible refine at_store ⟨?_⟩);refine stQ ?_;intro wS hS))
  have hT:Sat w0 _ (RLogRep p d ⟨lim,l,false,fr⟩::pt q (.cells #[.int .i64 0,.int .i64 0,.int .i64 0] 39 (0,0))::DskRep d D::F):=RLogRep.shut (lv:= .slice (some ⟨bk,off,none⟩) (k+1) lc) (Sat.sb hS)
  clear hS hS4 hw1 hw1' d2 d3 d4 Hc0
 all_goals
  generalize (⟨lim,l,false,fr⟩:Seg.Log)=L1 at HL Hg hT
  refine (r14next_c HL.out hT).mono ?_
  rintro e w5 ⟨v,rfl,rfl,hS5⟩
  clear hT
  have hs1:=uQ HL.out.next
  have hfr:=uQ HL.out.fresh
  have hln:=uQ HL.out.len
  unfold Seg.Log.rbegin1 at Hg
  have Hnm:=uQ (Seg.name_small L1.next)
  by_cases hn:1048576≤L1.next
  ·have hfin:=uQ (Hg.out.trans (if_pos hn))
   have hnb:(L1.next==1048576)=true:=by rw [beq_iff_eq];have:=hs1.out;omega
   generalize L1.next=n at *
   go_wp2_with ((with_reducible refine at_store ⟨?_⟩);refine stQ ?_;intro wS hS)
   refine ⟨rfl,_,res_cell_tmp rfl aQ rQ pkD Tryz.underlying39 rfl kQ,_,rfl,?_,?_⟩
   ·rw [hfin.out];rfl
   ·rw [hfin.out];exact Sat.sb hS
  have H2:=uQ (Hg.out.trans (if_neg hn))
  clear Hg
  have hnb:(L1.next==1048576)=false:=by rw [beq_eq_false_iff_ne];omega
  clear hn
  generalize hnn:L1.next=n at *
  have Hnn:=uQ hnn
  clear hnn
  obtain ⟨lv,hR⟩:=RLogRep.open (Sat.pk aQ)
  go_wp2_with fail
  have hRd:=hR.drew
  refine wpL_begin [6,7] (fun w'=>w'.cell? ⟨p,0,none⟩=some (ptr d)) kQ ?_
  have hG:(World.drew _).cell? ⟨p,0,none⟩=some (ptr d):=hRd.cellP pkD 0 rfl
  refine rP 0 ?_ (y:=mvQ)
  refine rP 1 ?_ (y:=nlQ)
  refine rP 2 ?_ (y:=flQ)
  refine rt 3 (h:=?_)
  refine rP 4 ?_ (y:=mvQ)
  clear hG
  refine rg_eff 5 evD kQ (fun K hK=>?_)
  (refine eff_call1 kQ evD ?_)
  refine (rname_c n _).mono ?_
  rintro e w6 ⟨v,rfl,rfl,rfl⟩
  refine hK _ _ (.inr (.inr rfl)) ?_
  clear hK
  refine rg_eff 6 evD kQ (fun K hK=>?_)
  (refine eff_call2 kQ evD evD ?_)
  refine (rcreate_c (Seg.name n) Hnm.out (by have:=HD.out.now;omega) (by have:=HD.out.ok.budget;have:=HKK.out;omega) (by have:=HD.out.files;have:=HKK.out;omega) HD.out.ok.left (Sat.pk aQ)).mono ?_
  rintro e w7 ⟨v,rfl,rfl,hS7⟩
  refine hK _ _ (.inl rfl) ?_
  clear hK hRd hR hS5
  refine rP 7 ?_ (y:=asQ)
  refine wdQ ?_
  have HD2:=uQ (HD.out.create (Seg.name n))
  generalize D.create (Seg.name n)=C at *
  clear HD
  clear D
  obtain ⟨D,e2⟩:=C
  by_cases he:e2=0
  rotate_left
  ·have heb:(e2==0)=false:=beq_false_of_ne he
   have hfin:=uQ (H2.out.trans (if_pos he))
   clear he
   go_wp2_with ((with_reducible refine at_store ⟨?_⟩);refine stQ ?_;intro wS hS)
   refine ⟨rfl,_,res_cell_tmp rfl aQ rQ pkD Tryz.underlying39 rfl kQ,_,rfl,?_,?_⟩
   ·rw [hfin.out];rfl
   ·rw [hfin.out];exact RLogRep.shut (lv:=lv) (Sat.sb hS)
  subst he
  have H3:=uQ (H2.out.trans (if_neg (fun h=>h rfl)))
  clear H2
  go_wp2_with fail
  have hS8:=hS7.drew
  refine wpL_begin [10,11] (fun w'=>w'.cell? ⟨p,0,none⟩=some (ptr d)) kQ ?_
  have hG:(World.drew _).cell? ⟨p,0,none⟩=some (ptr d):=hS8.cellP pkD 0 rfl
  refine rP 0 ?_ (y:=mvQ)
  refine rP 1 ?_ (y:=nlQ)
  refine rP 2 ?_ (y:=flQ)
  refine rt 3 (h:=?_)
  refine rP 4 ?_ (y:=mvQ)
  refine rP 7 ?_ (y:=mvQ)
  clear hG
  refine rg_eff 5 evD kQ (fun K hK=>?_)
  (refine eff_call1 kQ evD ?_)
  refine (rname_c n _).mono ?_
  rintro e w9 ⟨v,rfl,rfl,rfl⟩
  refine hK _ _ (.inr (.inr rfl)) ?_
  clear hK
  refine rg_eff 6 evD kQ (fun K hK=>?_)
  refine eff_call [] kQ rQ ?_
  refine (rmagic_c hS8).mono ?_
  rintro e w10 ⟨v,rfl,bm,rfl,hS10⟩
  refine hK _ _ (.inr (.inl (hS10.cellP pkD 0 rfl))) ?_
  clear hK
  refine rg_eff 8 evD kQ (fun K hK=>?_)
  refine eff_appB hS10 evD evD (Hr.out _ (hS10.sb)) (by have:=Hbl.out;simp only [List.length_cons,List.length_nil];omega) ?_
  intro b4 n4 c4 w11 hS11
  refine hK _ _ (.inr (.inl (hS11.cellP pkD 0 rfl))) ?_
  clear hK
  have Hmb:=uQ (show ([72,79,65,82,68,83,69,71]++b:Bs)=Seg.mag++b from rfl)
  have Hml:=uQ (show (Seg.mag++b).length=b.length+8 by rw [List.length_append,Nat.add_comm];rfl)
  rw [Hmb.out]at hS11
  clear Hmb
  generalize Seg.mag++b=mb at *
  refine rp 9 (hy:=(by (refine Or.inl ⟨by rfl,?_⟩;((intro wq;go_simp);first|done|exact wQ)))) (h:=?_)
  refine rg_eff 10 evD kQ (fun K hK=>?_)
  (refine eff_call3 kQ evD evD evD ?_)
  have hSp:=hS11.pk (A:=DskRep d D)
  refine (rappend_c (Seg.name n) mb (by first|assumption|exact Ro.op (Ro.bsl _ _)|exact Ro.os aQ) (by have:=Hml.out;have:=Hbl.out;omega) HD2.out.ok (by have:=HKK.out;omega) (Nat.le_trans HD2.out.ok.used_le dQ) hSp).mono ?_
  rintro e w12 ⟨v,rfl,rfl,hS12⟩
  refine hK _ _ (.inl rfl) ?_
  clear hK hSp hS11 hS10 hS8 hS7
  refine rP 11 ?_ (y:=asQ)
  refine wdQ ?_
  have HD3:=uQ (HD2.out.append (Seg.name n) mb)
  generalize D.append (Seg.name n) mb=C at *
  clear HD2
  clear D
  obtain ⟨D,e3⟩:=C
  by_cases h11:e3=11
  ·subst h11
   have H4:=uQ ((H3.out.trans (if_neg (show ¬ (11:Int)=0 by decide))).trans (if_pos rfl))
   clear H3
   go_wp2_with fail
   have hS13:=hS12.drew
   refine wpL_begin [9,10,11] (fun w'=>w'.cell? ⟨p,0,none⟩=some (ptr d)) kQ ?_
   have hG:(World.drew _).cell? ⟨p,0,none⟩=some (ptr d):=hS13.cellP pkD 0 rfl
   refine rP 0 ?_ (y:=mvQ)
   refine rP 1 ?_ (y:=bnQ)
   refine rP 2 ?_ (y:=mvQ)
   refine rP 3 ?_ (y:=(yg_move rQ evD))
   refine rP 4 ?_ (y:=(yg_nil rQ evD))
   refine rP 5 ?_ (y:=(yg_field rQ evD rnD))
   refine rg_take 6 evD kQ iQ (tg_load rQ evD kQ (by intro wq hq;first|exact hq|exact hq.1|exact hq.2|exact hq.2.1|exact hq.2.2|exact hq.2.2.1|exact hq.2.2.2|exact hq.2.2.2.1|exact hq.2.2.2.2)) aQ gQ ?_
   refine rP 7 ?_ (y:=(yg_move rQ evD))
   clear hG
   refine rg_eff 8 evD kQ (fun K hK=>?_)
   refine eg_call [.int .i64 n] rQ kQ rQ ?_
   refine (rname_c n _).mono ?_
   rintro e w14 ⟨v,rfl,rfl,rfl⟩
   refine hK _ _ (.inr (.inr rfl)) ?_
   clear hK
   refine rg_eff 9 evD kQ (fun K hK=>?_)
   refine eg_call [ptr d,.string (Seg.name n),.string ByteArray.empty,.bool true] rQ kQ rQ ?_
   refine (rmove_c (Seg.name n) ByteArray.empty true dQ (by have:=HD3.out.now;omega) (by have:=HD3.out.ok.budget;have:=HKK.out;omega) HD3.out.ok.left (Sat.pk aQ)).mono ?_
   rintro e w15 ⟨v,rfl,rfl,hS15⟩
   refine hK _ _ (.inl rfl) ?_
   clear hK hS13 hS12
   generalize D.rmove (Seg.name n) ByteArray.empty true=C at *
   clear HD3
   clear D
   obtain ⟨D,e4⟩:=C
   by_cases h12:e4=12
   ·subst h12
    refine rP 10 ?_ (y:=(yg_bin rQ evD evD rnD))
    refine rP 11 ?_ (y:=(yg_pick rQ evD evD))
    refine wdQ ?_
    try simp only [ayQ]
    try go_frame
    go_wp2_with ((with_reducible refine at_store ⟨?_⟩);refine stQ ?_;intro wS hS)
    refine ⟨rfl,_,res_cell_tmp rfl aQ rQ pkD Tryz.underlying39 rfl kQ,_,rfl,?_,?_⟩
    ·rw [H4.out];rfl
    ·rw [H4.out];exact RLogRep.shut (lv:=lv) (Sat.sb hS)
   ·have h12b:(e4==12)=false:=beq_false_of_ne h12
    have H5:=uQ (H4.out.trans (by rw [if_neg h12]))
    clear h12
    refine rP 10 ?_ (y:=(yg_bin rQ evD evD rnD))
    refine rP 11 ?_ (y:=(yg_pick rQ evD evD))
    refine wdQ ?_
    try simp only [ayQ]
    try go_frame
    go_wp2_with ((with_reducible refine at_store ⟨?_⟩);refine stQ ?_;intro wS hS)
    refine ⟨rfl,_,res_cell_tmp rfl aQ rQ pkD Tryz.underlying39 rfl kQ,_,rfl,?_,?_⟩
    ·rw [H5.out];rfl
    ·rw [H5.out];exact RLogRep.shut (lv:=lv) (Sat.sb hS)
  have h11b:(e3==11)=false:=beq_false_of_ne h11
  go_wp2_with fail
  have hG:True:=trivial
  refine wpL_begin [9,10,11] (fun w'=>True) kQ ?_
  refine rP 0 ?_ (y:=mvQ)
  refine rP 1 ?_ (y:=bnQ)
  refine rP 2 ?_ (y:=mvQ)
  refine rg_skip 3 evD kQ iQ rQ gQ ?_
  refine rg_skip 4 evD kQ iQ rQ gQ ?_
  refine rg_skip 5 evD kQ iQ rQ gQ ?_
  refine rg_skip 6 evD kQ iQ rQ gQ ?_
  refine rg_skip 7 evD kQ iQ rQ gQ ?_
  refine rg_skip 8 evD kQ iQ rQ gQ ?_
  refine rg_skip 9 evD kQ iQ rQ gQ ?_
  refine rg_skip 10 evD kQ iQ rQ gQ ?_
  refine rP 11 ?_ (y:=(yg_pick rQ evD evD))
  refine wdQ ?_
  clear hG
  try simp only [ayQ]
  try go_frame
  have hS13:=hS12.drew
  clear hS12
  by_cases he:e3=0
  rotate_left
  ·have heb:(e3==0)=false:=beq_false_of_ne he
   have hfin:=uQ ((H3.out.trans (if_neg he)).trans (if_neg h11))
   clear he h11
   go_wp2_with ((with_reducible refine at_store ⟨?_⟩);refine stQ ?_;intro wS hS)
   refine ⟨rfl,_,res_cell_tmp rfl aQ rQ pkD Tryz.underlying39 rfl kQ,_,rfl,?_,?_⟩
   ·rw [hfin.out];rfl
   ·rw [hfin.out];exact RLogRep.shut (lv:=lv) (Sat.sb hS)
  subst he
  have hfin:=uQ (H3.out.trans (if_pos rfl))
  clear H3 h11 h11b
  have hwl:IntKind.i64.wrap (8+(b.length:Int))=8+(b.length:Int):=by rw [IntKind.wrap_i64];have:=Hbl.out;omega
  have hwf:IntKind.i64.wrap (L1.fresh+1)=L1.fresh+1:=by rw [IntKind.wrap_i64];have:=hfr.out;have:=hln.out;omega
  have hsl:(segw L1.l).length≤2147483648:=by rw [segw_len];have:=hln.out;omega
  obtain ⟨la,lc,rfl⟩:=sgs_sl (Sat.rd (hS13.pk (A:=osl 84 2 lv (segw L1.l))))
  go_wp2_with (first
   |((with_reducible refine at_build1 ⟨?_⟩);refine wl_build1 (e:=84) (sz:=2) (by':=16) kQ hS13 rQ (cs:=#[.int .i64 n,.int .i64 (8+(b.length:Int))]) rfl rfl bQ ?_;intro bN wN hN)
   |((with_reducible refine at_append ⟨?_⟩);refine wl_app 84 2 16 kQ hN rQ rQ pkD pkD rQ (Nat.le_refl 1) rQ hsl (by show 2≤65536;decide) dQ rfl ?_;intro bA nA cA wA hA;rw [segw_snoc]at hA;clear hS13 hN)
   |((with_reducible refine at_load ⟨?_⟩);refine ldQ ?_)|((with_reducible refine at_store ⟨?_⟩);refine stQ ?_;intro wS hS))
  refine ⟨rfl,_,res_cell_tmp rfl aQ rQ pkD Tryz.underlying39 rfl kQ,_,rfl,?_,?_⟩
  ·rw [hfin.out];rfl
  ·rw [hfin.out]
   exact RLogRep.shut (lv:= .slice (some ⟨bA,0,none⟩) nA cA) (Sat.sb hS)
end
end Go.Proofs.YtmjldaedhmipkaaGreatDoor
namespace Go.Seg
open Go.Med
theorem rappend_bad {L:Log}{M:Med}{x:Frm.Ent} (h:(Frm.encode x).2≠0):L.rappend M x=((L,M),Plc.zero,(Frm.encode x).2):=by
 unfold Log.rappend;rw [if_pos h]
theorem rappend_grow {L:Log}{M:Med}{x:Frm.Ent} (h:(Frm.encode x).2=0) (hf:L.fits (Frm.encode x).1.length=true):L.rappend M x=L.grow M (Frm.encode x).1:=by
 unfold Log.rappend;rw [if_neg (fun hh=>hh h),if_pos hf]
theorem rappend_begin {L:Log}{M:Med}{x:Frm.Ent} (h:(Frm.encode x).2=0) (hf:L.fits (Frm.encode x).1.length=false):L.rappend M x=L.rbegin M (Frm.encode x).1:=by
 unfold Log.rappend;rw [if_neg (fun hh=>hh h),if_neg (by rw [hf];decide)]
end Go.Seg
namespace Go.Proofs.YtmjldaedhmipkaaGreatDoor
open Go Go.Sl Go.Med Go.MapKept Go.RowKit
section
variable {w0 w:World}{F R:List HProp}{p d q:Nat}{L:Seg.Log}{lv v bv:Value}{D:Med}{K:Nat}{s:Int×Int}
theorem rseg_block (hl:L.l.getLast?=some s) (h:Sat w0 w (rlogPt p d L lv::osl 84 2 lv (segw L.l)::F)) :
  ∃ bk n cap cs,lv = .slice (some ⟨bk,0,none⟩) (n+1) cap∧SegBlk L.l n cap cs∧cs[n * 2]?=some (.int .i64 s.1)∧cs[n * 2+1]?=some (.int .i64 s.2) ∧
   Sat w0 w (rlogPt p d L (.slice (some ⟨bk,0,none⟩) (n+1) cap)::pt bk (.cells cs 84 (0,0))::F):=by
 rw [List.getLast?_eq_getElem?]at hl
 have hlt:=(List.getElem?_eq_some_iff.1 hl).1
 obtain ⟨n,hn⟩:∃ n,L.l.length=n+1:=⟨L.l.length - 1,by omega⟩
 rw [hn,Nat.add_sub_cancel]at hl
 obtain ⟨h1,h2⟩:=segw_at _ _ _ hl
 rcases (h.pick pick1).osl_cases with ⟨rfl,hx,_⟩|⟨b,n',cap,cs,rfl,hll,hn',hc,hcm,htk,hp⟩
 ·rw [hx]at h1;simp at h1
 ·rw [segw_len,hn]at hll
  obtain rfl:n'=n+1:=by omega
  refine ⟨b,n,cap,cs,rfl,⟨hn,hn',hc,hcm,htk⟩,?_,?_,hp.pick pick1⟩
  ·rw [Nat.mul_comm];exact take_get htk h1
  ·rw [Nat.mul_comm];exact take_get htk h2
theorem rseg_keep {bk n cap:Nat}{cs:Array Value} (hb:SegBlk L.l n cap cs) (h:Sat w0 w (pt bk (.cells cs 84 (0,0))::R)) :
  Sat w0 w (osl 84 2 (.slice (some ⟨bk,0,none⟩) (n+1) cap) (segw L.l)::R):=
 Sat.osl_of_pt h (by rw [segw_len,hb.len];omega) hb.le hb.size hb.max hb.take
theorem rseg_close {bk n cap:Nat}{cs:Array Value} (hl:L.l.getLast?=some s) (hb:SegBlk L.l n cap cs) (z:Int)
  (h:Sat w0 w (pt bk (.cells (putsAt cs (n * 2+1) [.int .i64 z]) 84 (0,0))::R)) :
  Sat w0 w (osl 84 2 (.slice (some ⟨bk,0,none⟩) (n+1) cap) (segw (L.l.dropLast++[(s.1,z)]))::R):=by
 have e:=Seg.last_split hl
 have hlen:=Seg.last_len hl
 have hn:=hb.len
 refine Sat.osl_of_pt h ?_ hb.le ?_ hb.max ?_
 ·rw [segw_len,List.length_append,List.length_singleton];omega
 ·rw [putsAt_size];exact hb.size
 ·simp only [putsAt,Array.toList_setIfInBounds]
  rw [set_take _ _ _ _ oQ,hb.take,e,List.dropLast_append_cons,show n=L.l.dropLast.length by omega]
  simp only [List.dropLast_singleton,List.append_nil]
  exact segw_set _ _ _
set_option maxRecDepth 20000 in
theorem rlappend_c (e:Frm.Ent) (hk:e.key.length=32) (da:Option Addr) (dc:Nat) (hd:Ro w0 F (rdsl 1 (.slice da e.data.length dc) (bys e.data)))
  (hL:L.Ok) (hD:Seg.Fit K D) (hKK:K≤1048000) (h:Sat w0 w (RLogRep p d L::DskRep d D::F)) :
  Calls Tryz.prog 18 #[ptr p,.agg (entA e (.slice da e.data.length dc))] w (Rtn fun v w'=>v = .tuple #[plcA (L.rappend D e).2.1,errno (L.rappend D e).2.2] ∧
   Sat w0 w' (RLogRep p d (L.rappend D e).1.1::DskRep d (L.rappend D e).1.2::F)):=by
 obtain ⟨lv,hR⟩:=RLogRep.open h
 clear h
 have hsz:=entA_size e (.slice da e.data.length dc) hk
 have Hsz:=uQ hsz
 have Hd:=uQ hd;have Hk:=uQ hk
 have HL:=uQ hL;have HD:=uQ hD;have HKK:=uQ hKK
 have Hln:=uQ hL.len
 have Hel:=uQ (show (Frm.encode e).1.length≤16425 from Seg.encode_len e hk)
 have A0:=uQ (Seg.rappend_bad (L:=L) (M:=D) (x:=e))
 have A1:=uQ (Seg.rappend_grow (L:=L) (M:=D) (x:=e))
 have A2:=uQ (Seg.rappend_begin (L:=L) (M:=D) (x:=e))
 clear hsz hd hk hL hD hKK
 go_enter Tryz.func18,Tryz.ntmps18
 go_wp2_with (first
  |((with_reducible refine at_box ⟨?_⟩);refine wl_box aQ rQ (cs:=entA e (.slice da e.data.length dc)) rfl ?_;intro q3 w1 hS1)
  |(refine wl_alloc zPlace aQ rfl ?_;intro q w2 hS2)
  |((with_reducible refine at_load ⟨?_⟩);refine wl_loadA aQ rQ pkD Tryz.underlying44 rQ (by rw [Hsz.out];kernel_rfl) ?_))
 clear hS1 hR
 refine (rencode_c e Hk.out da dc (by first|assumption|exact Ro.op (Ro.bsl _ _)|exact Ro.os aQ) hS2).mono ?_
 rintro ee w3 ⟨v,rfl,bv,rfl,⟨ba,bn,bc,rfl⟩,hS3⟩
 clear hS2
 generalize hE:Frm.encode e=E at *
 have HE:=uQ hE
 clear hE
 obtain ⟨b,e1⟩:=E
 have Hel2:Hid (b.length≤16425):=Hel
 by_cases he:e1=0
 rotate_left
 ·have heb:(e1==0)=false:=beq_false_of_ne he
  have hfin:=uQ (A0.out he)
  clear he
  go_wp2_with ((with_reducible refine at_store ⟨?_⟩);refine stQ ?_;intro wS hS)
  refine ⟨rfl,_,res_cell_tmp rfl aQ rQ pkD Tryz.underlying39 rfl kQ,_,rfl,?_,?_⟩
  ·rw [hfin.out];rfl
  ·rw [hfin.out];exact RLogRep.shut (lv:=lv) (Sat.sb hS)
 subst he
 have hbn:bn=b.length:=by
  obtain ⟨a',n',c',he,hl,_⟩:=Sat.rd hS3
  cases he
  rw [bys_len,Nat.mul_one]at hl
  exact hl.symm
 subst hbn
 clear A0
 obtain ⟨la,lc,rfl⟩:=sgs_sl (Sat.rd (hS3.pk (A:=osl 84 2 lv (segw L.l))))
 cases hon:L.on
 ·have hf:=Seg.Log.fits_off b.length hon
  have hfin:=uQ (A2.out rfl hf)
  have hwL:IntKind.i64.wrap ((L.l.length:Int) - 1)=(L.l.length:Int) - 1:=IntWalk.i64_in _ (by have:=Hln.out;omega)
  have c3:w3.cell? ⟨p,3,none⟩=some (.bool false):=hS3.cellP pkD 3 (by rw [← hon];rfl)
  clear hf A1 A2 hon
  go_wp2_with ((with_reducible refine at_load ⟨?_⟩);refine ldQ ?_)
  have hS4:=hS3.drew
  have c3':w3.drew.cell? ⟨p,3,none⟩=some (.bool false):=c3
  go_region
  clear c3 c3'
  have hS5:Sat w0 _ (RLogRep p d L::DskRep d D::_):=RLogRep.shut (lv:= .slice la L.l.length lc) (hS4.sb)
  go_wp2_with fail
  refine (rlbegin_c HL.out HD.out HKK.out b (by have:=Hel2.out;omega) (by first|assumption|exact Ro.op (Ro.bsl _ _)|exact Ro.os aQ) hS5).mono ?_
  rintro ee w5 ⟨v,rfl,rfl,hS6⟩
  clear hS4 hS5 hS3
  go_wp2_with ((with_reducible refine at_store ⟨?_⟩);refine stQ ?_;intro wS hS)
  refine ⟨rfl,_,res_cell_tmp rfl aQ rQ pkD Tryz.underlying39 rfl kQ,_,rfl,?_,?_⟩
  ·rw [hfin.out];rfl
  ·rw [hfin.out];exact Sat.sb hS
 ·obtain ⟨s,hl⟩:=HL.out.last hon
  obtain ⟨bk,n,cap,cs,hle,hb,c0,c1,hB⟩:=rseg_block hl (hS3.sb)
  have hn:=hb.len
  rw [hn]at hS3 hle
  cases hle
  have HB5:=uQ (fun (w':World) (F':List HProp) (h':Sat w0 w' (rlogPt p d L (.slice (some ⟨bk,0,none⟩) (n+1) lc)::osl 84 2 (.slice (some ⟨bk,0,none⟩) (n+1) lc) (segw L.l)::F'))=>rseg_block hl h')
  have hf:=Seg.Log.fits_on b.length hon hl
  have hs:=HL.out.sizes s (List.mem_of_getLast? hl)
  have hlim:=HL.out.limit
  have hln:=Hln.out
  have hn0:(n:Int)<(n:Int)+1:=oQ
  have hn1:(0:Int)≤(n:Int):=oQ
  have hwn:IntKind.i64.wrap (n:Int)=(n:Int):=by rw [IntKind.wrap_i64];omega
  have hwz:IntKind.i64.wrap (s.2+(b.length:Int))=s.2+(b.length:Int):=by rw [IntKind.wrap_i64];have:=Hel2.out;omega
  have hwd:IntKind.i64.wrap (L.limit - s.2)=L.limit - s.2:=by rw [IntKind.wrap_i64];omega
  have g1:w3.drew.cell? ⟨p,1,none⟩=some (.int .i64 L.limit):=hB.drew.cellP pkD 1 rfl
  have g2:w3.drew.cell? ⟨p,2,none⟩=some (.slice (some ⟨bk,0,none⟩) (n+1) lc):=hB.drew.cellP pkD 2 rfl
  have g3:w3.drew.cell? ⟨p,3,none⟩=some (.bool true):=hB.drew.cellP pkD 3 (by rw [← hon];rfl)
  have g4:w3.drew.cell? ⟨bk,n * 2+1,none⟩=some (.int .i64 s.2):=hB.drew.cellP pkD _ c1
  have g5:w3.cell? ⟨p,2,none⟩=some (.slice (some ⟨bk,0,none⟩) (n+1) lc):=hB.cellP pkD 2 rfl
  have Hl:=uQ hl;have Hb:=uQ hb;have Hs:=uQ hs;have Hc0:=uQ c0;have Hc1:=uQ c1
  clear hs hlim hn hln hl hb c0 c1 hon
  by_cases hfit:s.2+(b.length:Int)≤L.limit
  rotate_left
  ·have hfd:decide (s.2+(b.length:Int)≤L.limit)=false:=decide_eq_false hfit
   have hfin:=uQ (A2.out rfl (hf.trans hfd))
   have hfd2:decide ((b.length:Int)≤L.limit - s.2)=false:=decide_eq_false oQ
   clear hf hfd A1 A2 hB hwz hfit
   go_wp2_with fail
   have hS4:=hS3.drew
   go_region
   clear g1 g2 g3 g4 g5
   have hS5:Sat w0 _ (RLogRep p d L::DskRep d D::_):=RLogRep.shut (lv:= .slice (some ⟨bk,0,none⟩) (n+1) lc) (hS4.sb)
   go_wp2_with fail
   refine (rlbegin_c HL.out HD.out HKK.out b (by have:=Hel2.out;omega) (by first|assumption|exact Ro.op (Ro.bsl _ _)|exact Ro.os aQ) hS5).mono ?_
   rintro ee w5 ⟨v,rfl,rfl,hS6⟩
   clear hS4 hS5 hS3
   go_wp2_with ((with_reducible refine at_store ⟨?_⟩);refine stQ ?_;intro wS hS)
   refine ⟨rfl,_,res_cell_tmp rfl aQ rQ pkD Tryz.underlying39 rfl kQ,_,rfl,?_,?_⟩
   ·rw [hfin.out];rfl
   ·rw [hfin.out];exact Sat.sb hS
  ·have hfd:decide (s.2+(b.length:Int)≤L.limit)=true:=decide_eq_true hfit
   have hfd2:decide ((b.length:Int)≤L.limit - s.2)=true:=decide_eq_true oQ
   have hfd3:(b.length:Int)≤L.limit - s.2:=oQ
   have Hfin:=uQ (A1.out rfl (hf.trans hfd))
   have Hg:=uQ (show L.grow D b=if (D.append (Seg.name s.1) b).2=0 then (({ L with l:=L.l.dropLast++[(s.1,s.2+(b.length:Int))] },(D.append (Seg.name s.1) b).1),⟨s.1,s.2,b.length⟩,0)
    else ((L,(D.append (Seg.name s.1) b).1),Seg.Plc.zero,(D.append (Seg.name s.1) b).2) by unfold Seg.Log.grow;rw [Hl.out])
   have Hwz:=uQ hwz
   clear hf hfd A1 A2 hB hwz hfit
   go_wp2_with fail
   have hS4:=hS3.drew
   go_region
   clear g1 g2 g3 g4 g5 hS3
   go_wp2_with fail
   obtain ⟨bk2,n2,cap2,cs,hle,hb,Hc0,Hc1,hS5⟩:=HB5.out _ _ (hS4.sb)
   cases hle
   clear hS4
   replace Hc0:=uQ Hc0;replace Hc1:=uQ Hc1;have Hb:=uQ hb
   have hS6:=hS5.drew
   refine wpL_begin [15,16] (fun w'=>w'.cell? ⟨p,0,none⟩=some (ptr d)∧w'.cell? ⟨p,2,none⟩=some (.slice (some ⟨bk,0,none⟩) (n+1) lc)∧w'.cell? ⟨bk,n * 2,none⟩=some (.int .i64 s.1)) kQ ?_
   have hG:World.cell? (World.drew _) ⟨p,0,none⟩=some (ptr d)∧World.cell? (World.drew _) ⟨p,2,none⟩=some (.slice (some ⟨bk,0,none⟩) (n+1) lc)∧World.cell? (World.drew _) ⟨bk,n * 2,none⟩=some (.int .i64 s.1):=⟨hS6.cellP pkD 0 rfl,hS6.cellP pkD 2 rfl,hS6.cellP pkD _ Hc0.out⟩
   refine rP 0 ?_ (y:=mvQ)
   refine rP 1 ?_ (y:=nlQ)
   refine rP 2 ?_ (y:=flQ)
   refine rt 3 (h:=?_)
   refine rP 4 ?_ (y:=mvQ)
   refine rP 5 ?_ (y:=nlQ)
   refine rP 6 ?_ (y:=flQ)
   refine rt 7 (h:=?_)
   refine rP 8 ?_ (y:=mvQ)
   refine rP 9 ?_ (y:=ixQ)
   refine rP 10 ?_ (y:=flQ)
   refine rt 11 (h:=?_)
   refine rP 13 ?_ (y:=mvQ)
   refine rp 14 (hy:=(by (refine Or.inl ⟨by rfl,?_⟩;((intro wq;go_simp);first|done|exact wQ)))) (h:=?_)
   clear hG
   refine rg_eff 12 evD kQ (fun K hK=>?_)
   (refine eff_call1 kQ evD ?_)
   refine (rname_c s.1 _).mono ?_
   rintro e w7 ⟨v,rfl,rfl,rfl⟩
   refine hK _ _ (.inr (.inr rfl)) ?_
   clear hK
   refine rg_eff 15 evD kQ (fun K hK=>?_)
   (refine eff_call3 kQ evD evD evD ?_)
   have hSp:=hS6.pk (A:=DskRep d D)
   refine (rappend_c (Seg.name s.1) b (by first|assumption|exact Ro.op (Ro.bsl _ _)|exact Ro.os aQ) (by have:=Hel2.out;omega) HD.out.ok (by have:=HKK.out;omega) (Nat.le_trans HD.out.ok.used_le dQ) hSp).mono ?_
   rintro e w8 ⟨v,rfl,rfl,hS8⟩
   refine hK _ _ (.inl rfl) ?_
   clear hK hSp hS6 hS5
   refine rP 16 ?_ (y:=asQ)
   refine wdQ ?_
   clear HD HL
   generalize D.append (Seg.name s.1) b=C at *
   obtain ⟨D2,e3⟩:=C
   by_cases he:e3=0
   rotate_left
   ·have heb:(e3==0)=false:=beq_false_of_ne he
    have hfin:=uQ (Hfin.out.trans (Hg.out.trans (if_neg he)))
    clear he
    go_wp2_with ((with_reducible refine at_store ⟨?_⟩);refine stQ ?_;intro wS hS)
    refine ⟨rfl,_,res_cell_tmp rfl aQ rQ pkD Tryz.underlying39 rfl kQ,_,rfl,?_,?_⟩
    ·rw [hfin.out];rfl
    ·rw [hfin.out]
     have h6:=rseg_keep Hb.out (Sat.pk hS)
     exact RLogRep.shut (lv:= .slice (some ⟨bk,0,none⟩) (n+1) lc) (Sat.sb h6)
   subst he
   have hfin:=uQ (Hfin.out.trans (Hg.out.trans (if_pos rfl)))
   clear Hfin Hg
   have e1:w8.cell? ⟨bk,n * 2+1,none⟩=some (.int .i64 s.2):=hS8.cellP pkD _ Hc1.out
   have e2:w8.cell? ⟨p,2,none⟩=some (.slice (some ⟨bk,0,none⟩) (n+1) lc):=hS8.cellP pkD 2 rfl
   have hfit:=Hb.out.size;have hle:=Hb.out.le
   have hst:=uQ (show n * 2+1+(Value.int .i64 (s.2+(b.length:Int))).cells.size≤cs.size by show n * 2+1+1≤cs.size;omega)
   have hwz:=Hwz.out
   clear hfit hle hb
   go_wp2_with (refine wpList_stop rQ ?_)
   refine ⟨wl_store (b:=bk) (o:=n * 2+1) (v:= .int .i64 (s.2+(b.length:Int))) aQ rQ rQ rfl upD hst.out kQ rQ ?_⟩
   intro w9 hS9
   have e0:w9.cell? ⟨bk,n * 2,none⟩=some (.int .i64 s.1):=hS9.cellP pkD _ (by
    show (cs.setIfInBounds (n * 2+1) _)[n * 2]?=_
    rw [Array.getElem?_setIfInBounds_ne oQ];exact Hc0.out)
   have e3:w9.cell? ⟨p,2,none⟩=some (.slice (some ⟨bk,0,none⟩) (n+1) lc):=hS9.cellP pkD 2 rfl
   clear e1 e2 hst hwz
   go_wp2_with ((with_reducible refine at_store ⟨?_⟩);refine stQ ?_;intro wS hS)
   refine ⟨rfl,_,res_cell_tmp rfl aQ rQ pkD Tryz.underlying39 rfl kQ,_,rfl,?_,?_⟩
   ·rw [hfin.out];rfl
   ·rw [hfin.out]
    have h6:=rseg_close Hl.out Hb.out _ (Sat.pk hS)
    exact RLogRep.shut (lv:= .slice (some ⟨bk,0,none⟩) (n+1) lc) (Sat.sb h6)
end
section
variable {w0 w:World}{F R:List HProp}{p d q:Nat}{L:Seg.Log}{lv v bv:Value}{M:Med}{K:Nat}
set_option maxRecDepth 20000 in
theorem rlcommit_c (hL:L.Ok) (hM:Seg.Fit K M) (hKK:K≤1048000) (h:Sat w0 w (RLogRep p d L::DskRep d M::F)) :
  Calls Tryz.prog 20 #[ptr p] w (Rtn fun v w'=>v = .tuple #[.int .i64 (L.rcommit M).2.1,errno (L.rcommit M).2.2] ∧
   Sat w0 w' (RLogRep p d (L.rcommit M).1.1::DskRep d (L.rcommit M).1.2::F)):=by
 have hap:=rlappend_c Seg.comEnt rfl none 0 (fun w _=>rdsl_nil 1 0 w) hL hM hKK h
 have Hg:=uQ (Seg.rcommit_eq L M)
 have HM:=uQ (hM.lappend (L:=L) Seg.comEnt)
 have HKK:=uQ hKK
 clear hL hM h hKK
 generalize L.rappend M Seg.comEnt=A at *
 obtain ⟨⟨L1,M1⟩,pl,e1⟩:=A
 go_enter Tryz.func20,Tryz.ntmps20
 go_wp2_with fail
 refine hap.mono ?_
 rintro e w1 ⟨v,rfl,rfl,hS1⟩
 clear hap
 by_cases he:e1=0
 rotate_left
 ·have heb:(e1==0)=false:=beq_false_of_ne he
  have hfin:=uQ (Hg.out.trans (if_pos he))
  clear he
  go_wp2_with (first|(refine wl_alloc zPlace aQ rfl ?_;intro q w2 hS2)|((with_reducible refine at_store ⟨?_⟩);refine stQ ?_;intro wS hS))
  go_ret2
  refine ⟨.tuple #[.int .i64 0,errno e1],rfl,?_,?_⟩
  ·rw [hfin.out]
  ·rw [hfin.out];exact Sat.sb hS
 subst he
 have H1:=uQ (Hg.out.trans (if_neg (fun h=>h rfl)))
 clear Hg
 go_wp2_with (first|(refine wl_alloc zPlace aQ rfl ?_;intro q w2 hS2)|((with_reducible refine at_store ⟨?_⟩);refine stQ ?_;intro wS hS))
 have hS1:=hS
 clear hS hS2
 obtain ⟨lv,hR⟩:=RLogRep.open (Sat.pk aQ)
 clear hS1
 go_wp2_with fail
 refine wpL_begin [7,8] (fun w'=>w'.cell? ⟨p,0,none⟩=some (ptr d)∧w'.cell? ⟨q,0,none⟩=some (.int .i64 pl.seg)) kQ ?_
 have hG:(World.drew _).cell? ⟨p,0,none⟩=some (ptr d)∧(World.drew _).cell? ⟨q,0,none⟩=some (.int .i64 pl.seg):=⟨hR.drew.cellP pkD 0 rfl,hR.drew.cellP pkD 0 rfl⟩
 refine rP 0 ?_ (y:=mvQ)
 refine rP 1 ?_ (y:=nlQ)
 refine rP 2 ?_ (y:=flQ)
 refine rt 3 (h:=?_)
 refine rP 4 ?_ (y:=flQ)
 refine rt 5 (h:=?_)
 clear hG
 refine rg_eff 6 evD kQ (fun K hK=>?_)
 (refine eff_call1 kQ evD ?_)
 refine (rname_c pl.seg _).mono ?_
 rintro e w3 ⟨v,rfl,rfl,rfl⟩
 refine hK _ _ (.inr (.inr rfl)) ?_
 have hS3:=hR.drew
 clear hK
 refine rg_eff 7 evD kQ (fun K hK=>?_)
 (refine eff_call3 kQ evD evD evD ?_)
 refine (rsync_c (Seg.name pl.seg) (by have:=HM.out.now;omega) HM.out.ok.left (fun i hi=>HM.out.len hi) (Sat.pk aQ)).mono ?_
 rintro e w4 ⟨v,rfl,rfl,hS4⟩
 refine hK _ _ (.inl rfl) ?_
 clear hK hS3 hR
 refine rP 8 ?_ (y:=asQ)
 refine wdQ ?_
 have HM2:=uQ (HM.out.sync (Seg.name pl.seg))
 generalize M1.sync (Seg.name pl.seg)=B at *
 obtain ⟨M2,e2⟩:=B
 by_cases he:e2=0
 rotate_left
 ·have heb:(e2==0)=false:=beq_false_of_ne he
  have hfin:=uQ (H1.out.trans (if_pos he))
  clear he
  go_wp2_with fail
  go_ret2
  refine ⟨.tuple #[.int .i64 0,errno e2],rfl,?_,?_⟩
  ·rw [hfin.out]
  ·rw [hfin.out];exact RLogRep.shut (lv:=lv) (Sat.sb hS4)
 subst he
 have H2:=uQ (H1.out.trans (if_neg (fun h=>h rfl)))
 clear H1
 have e0:w4.cell? ⟨p,0,none⟩=some (ptr d):=hS4.cellP pkD 0 rfl
 go_wp2_with fail
 refine (rsyncd_c ByteArray.empty (by have:=HM2.out.now;omega) HM2.out.ok.left (Sat.pk aQ)).mono ?_
 rintro e w5 ⟨v,rfl,rfl,hS5⟩
 clear hS4 e0
 generalize M2.syncDir=C at *
 obtain ⟨M3,e3⟩:=C
 by_cases he:e3=0
 rotate_left
 ·have heb:(e3==0)=false:=beq_false_of_ne he
  have hfin:=uQ (H2.out.trans (if_pos he))
  clear he
  go_wp2_with fail
  go_ret2
  refine ⟨.tuple #[.int .i64 0,errno e3],rfl,?_,?_⟩
  ·rw [hfin.out]
  ·rw [hfin.out];exact RLogRep.shut (lv:=lv) (Sat.sb hS5)
 subst he
 have hfin:=uQ (H2.out.trans (if_neg (fun h=>h rfl)))
 clear H2
 go_wp2_with (first|((with_reducible refine at_load ⟨?_⟩);refine ldQ ?_)|((with_reducible refine at_store ⟨?_⟩);refine stQ ?_;intro wS hS))
 go_ret2
 refine ⟨.tuple #[.int .i64 pl.seg,errno 0],rfl,?_,?_⟩
 ·rw [hfin.out]
 ·rw [hfin.out];exact RLogRep.shut (lv:=lv) (Sat.sb hS)
end
end Go.Proofs.YtmjldaedhmipkaaGreatDoor
namespace Go.Seg
open Go.Med
theorem rremove_ok {L:Log}{D:Med} (h:L.Ok) (n:Int):(L.rremove D n).1.1.Ok:=by
 unfold Log.rremove
 cases hi:L.at n with
 |none=>exact h
 |some i=>
  simp only
  split
  ·exact h.without i (Log.at_lt hi).1
  ·exact h
end Go.Seg
namespace Go.Proofs.YtmjldaedhmipkaaGreatDoor
open Go Go.Sl Go.Med Go.MapKept Go.RowKit
section
variable {w0 w:World}{F R:List HProp}{p d q:Nat}{L:Seg.Log}{lv v bv:Value}{M:Med}{K:Nat}{s:Int×Int}
theorem rback_last {L:Seg.Log}{M:Med} (hl:L.l.getLast?=some s) (hf:0<L.fresh):L.rrollback M=if (L.rremove M s.1).2=0 then Seg.Log.rback (L.fresh.toNat - 1) (L.rremove M s.1).1.1 (L.rremove M s.1).1.2 else L.rremove M s.1:=by
 unfold Seg.Log.rrollback
 obtain ⟨k,hk⟩:∃ k,L.fresh.toNat=k+1:=⟨L.fresh.toNat - 1,by omega⟩
 rw [hk]
 show (match L.l.getLast? with|none=>_|some s=>_)=_
 rw [hl];rfl
theorem rremove_fresh {L:Seg.Log}{M:Med} (hL:L.Ok) (hl:L.l.getLast?=some s) (hf:0<L.fresh) (h:(L.rremove M s.1).2=0):(L.rremove M s.1).1.1.fresh=L.fresh - 1:=by
 have ha:=hL.at_last hl
 unfold Seg.Log.rremove at *
 rw [ha]at h ⊢
 simp only at h ⊢
 split
 ·unfold Seg.Log.without
  have:=hL.fresh
  simp only
  rw [if_pos oQ]
 ·rename_i hh;rw [if_neg hh]at h;exact absurd h hh
set_option maxRecDepth 20000 in
theorem rlrollback_c (hL:L.Ok) (hM:Seg.Fit K M) (hKK:K+L.fresh.toNat≤1048000) (h:Sat w0 w (RLogRep p d L::DskRep d M::F)) :
  Calls Tryz.prog 22 #[ptr p] w (Rtn fun v w'=>v=errno (L.rrollback M).2∧Sat w0 w' (RLogRep p d (L.rrollback M).1.1::DskRep d (L.rrollback M).1.2::F)):=by
 have Hres:=uQ (rfl:L.rrollback M=L.rrollback M)
 generalize hres:L.rrollback M=RES at Hres ⊢
 have Hq:=uQ (show L.rrollback M=RES from hres)
 have hfl:L.fresh.toNat≤1048576:=by have:=hL.fresh;have:=hL.len;omega
 have hinit:Hid (∃ (L':Seg.Log) (M':Med) (K':Nat),L'.Ok∧Seg.Fit K' M'∧K'+L'.fresh.toNat≤1048000∧L'.rrollback M'=RES∧L'.fresh.toNat=L.fresh.toNat∧Sat w0 w (RLogRep p d L'::DskRep d M'::F)):=uQ ⟨L,M,K,hL,hM,by omega,hres,rfl,h⟩
 clear hres Hres hL hM h Hq hfl
 go_enter Tryz.func22,Tryz.ntmps22
 go_wp2_with fail
 go_loopg [] L.fresh.toNat (fun g wr=>∃ (L':Seg.Log) (M':Med) (K':Nat),L'.Ok∧Seg.Fit K' M'∧K'+L'.fresh.toNat≤1048000∧L'.rrollback M'=RES∧L'.fresh.toNat=g∧Sat w0 wr (RLogRep p d L'::DskRep d M'::F))
 case atStart=>exact hinit.out
 case round=>
  obtain ⟨L1,M1,K1,hL,hM,hKK1,hres,rfl,hS⟩:=hrel
  clear hinit
  by_cases hf:0<L1.fresh
  ·have hne:L1.l≠[]:=by intro e;have:=hL.fresh;rw [e]at this;simp at this;omega
   obtain ⟨s,hl⟩:∃ s,L1.l.getLast?=some s:=⟨_,List.getLast?_eq_some_getLast hne⟩
   have hbl:=rback_last (M:=M1) hl hf
   rw [hres]at hbl
   have Hbl:=uQ hbl
   have Hrf:=uQ (rremove_fresh (M:=M1) hL hl hf)
   have HL2:=uQ (Seg.rremove_ok (D:=M1) hL s.1)
   have HM2:=uQ (hM.lremove (L:=L1) s.1)
   have hrm:=rlremove_c hL hM oQ s.1 hS.drew
   obtain ⟨lv,hR⟩:=RLogRep.open hS
   have hlen:=hL.len
   obtain ⟨bk,n,cap,cs,rfl,hb,c0,c1,hB⟩:=rseg_block hl hR
   have hn:=hb.len
   have hn0:(n:Int)<(n:Int)+1:=oQ
   have hwn:IntKind.i64.wrap (n:Int)=(n:Int):=by rw [IntKind.wrap_i64];omega
   have e4:wr.cell? ⟨p,4,none⟩=some (.int .i64 L1.fresh):=hB.cellP pkD 4 rfl
   have hG:wr.drew.cell? ⟨p,2,none⟩=some (.slice (some ⟨bk,0,none⟩) (n+1) cap)∧wr.drew.cell? ⟨bk,n * 2,none⟩=some (.int .i64 s.1):=⟨hB.drew.cellP pkD 2 rfl,hB.drew.cellP pkD _ c0⟩
   have Hf:=uQ (show 0<L1.fresh∧K1+L1.fresh.toNat≤1048000 from ⟨hf,hKK1⟩)
   clear hbl hne hl hb c0 c1 hB hR hlen hn hres hL hM hKK1
   go_wp2_with fail
   refine wpL_begin [14,15] (fun w'=>w'.cell? ⟨p,2,none⟩=some (.slice (some ⟨bk,0,none⟩) (n+1) cap)∧w'.cell? ⟨bk,n * 2,none⟩=some (.int .i64 s.1)) kQ ?_
   refine rP 0 ?_ (y:=mvQ)
   refine rP 1 ?_ (y:=mvQ)
   refine rP 2 ?_ (y:=nlQ)
   refine rP 3 ?_ (y:=flQ)
   refine rt 4 (h:=?_)
   refine rP 5 ?_ (y:=mvQ)
   refine rP 6 ?_ (y:=nlQ)
   refine rP 7 ?_ (y:=flQ)
   refine rt 8 (h:=?_)
   refine rP 9 ?_ (y:=(yl_len evD rnD))
   refine rP 10 ?_ (y:=bnQ)
   refine rP 11 ?_ (y:=ixQ)
   refine rP 12 ?_ (y:=flQ)
   refine rt 13 (h:=?_)
   clear hG e4
   refine rg_eff 14 evD kQ (fun K hK=>?_)
   (refine eff_call2 kQ evD evD ?_)
   refine hrm.mono ?_
   rintro e w3 ⟨v,rfl,rfl,hS3⟩
   refine hK _ _ (.inl rfl) ?_
   clear hK hS hrm
   refine rP 15 ?_ (y:=asQ)
   refine wdQ ?_
   generalize L1.rremove M1 s.1=A at *
   obtain ⟨⟨L2,M2⟩,e2⟩:=A
   by_cases he:e2=0
   ·subst he
    have H1:=uQ (Hbl.out.trans (if_pos rfl))
    have H2:=uQ (show L2.fresh=L1.fresh - 1 from Hrf.out rfl)
    go_wp2_with fail
    go_roundg L2.fresh.toNat
    case measure=>have:=H2.out;have:=Hf.out;omega
    case rel=>
     refine ⟨L2,M2,K1+1,HL2.out,HM2.out,?_,?_,rfl,hS3⟩
     ·have:=H2.out;have:=Hf.out;omega
     ·rw [H1.out]
      unfold Seg.Log.rrollback
      congr 1
      have:=H2.out;have:=Hf.out;omega
   ·have heb:(e2==0)=false:=beq_false_of_ne he
    have H1:=uQ (Hbl.out.trans (if_neg he))
    clear he
    go_wp2_with fail
    go_ret
    rw [H1.out]
    exact ⟨_,rfl,rfl,hS3⟩
  ·have hz:L1.fresh.toNat=0:=by omega
   have H1:=uQ (show RES=(({ L1 with on:=false },M1),0) by
    rw [← hres];unfold Seg.Log.rrollback;rw [hz];rfl)
   obtain ⟨lv,hR⟩:=RLogRep.open hS
   have hle:L1.fresh≤0:=oQ
   clear hres hL hM hKK1 hz hS
   go_wp2_with (first|((with_reducible refine at_load ⟨?_⟩);refine ldQ ?_)|((with_reducible refine at_store ⟨?_⟩);refine stQ ?_;intro wS hS))
   go_ret
   rw [H1.out]
   exact ⟨_,rfl,rfl,RLogRep.shut (lv:=lv) (Sat.sb hS)⟩
end
end Go.Proofs.YtmjldaedhmipkaaGreatDoor
namespace Go.Seg
open Go.Med
section
variable {K K':Nat}{M M':Med}{L:Log}{s t:ByteArray}{i:Nat}{sure opn:List (Plc×Frm.Ent)}
theorem app_lt:∀ (x y u v:Bs),x.length=y.length→x<y→x++u<y++v
 |[],[],_,_,_,h=>absurd h (List.not_lt_nil [])
 |[],_::_,_,_,h,_=>by simp at h
 |_::_,[],_,_,h,_=>by simp at h
 |a::x,b::y,u,v,hl,h=>by
  rw [List.cons_append,List.cons_append,List.cons_lt_cons_iff]
  rcases List.cons_lt_cons_iff.1 h with h1|⟨e,h1⟩
  ·exact .inl h1
  ·exact .inr ⟨e,app_lt x y u v (by simpa using hl) h1⟩
theorem app_lt_r:∀ (x u v:Bs),u<v→x++u<x++v
 |[],_,_,h=>h
 |a::x,u,v,h=>by
  rw [List.cons_append,List.cons_append,List.cons_lt_cons_iff]
  exact .inr ⟨rfl,app_lt_r x u v h⟩
theorem digs_lt:∀ (k a b:Nat),a<b→b<10^k→digs a k<digs b k
 |0,a,b,h,hb=>by simp at hb;omega
 |k+1,a,b,h,hb=>by
  show digs (a / 10) k++[UInt8.ofNat (48+a%10)]<digs (b / 10) k++[UInt8.ofNat (48+b%10)]
  have hb':b / 10<10^k:=by rw [Nat.div_lt_iff_lt_mul oQ];rw [Nat.pow_succ]at hb;exact hb
  rcases Nat.lt_or_ge (a / 10) (b / 10) with q|q
  ·exact app_lt _ _ _ _ (by rw [digs_len,digs_len]) (digs_lt k _ _ q hb')
  ·have e:a / 10=b / 10:=by omega
   rw [e]
   refine app_lt_r _ _ _ ?_
   rw [List.cons_lt_cons_iff]
   left
   rw [UInt8.lt_iff_toNat_lt,UInt8.toNat_ofNat',UInt8.toNat_ofNat']
   omega
theorem name_lt {a b:Int} (h1:0≤a) (h2:a<b) (h3:b<1048576):lt (name a) (name b)=true:=by
 unfold name
 rw [if_neg oQ,if_neg oQ]
 unfold lt
 rw [decide_eq_true_eq]
 show lead++digs a.toNat 8<lead++digs b.toNat 8
 exact app_lt_r _ _ _ (digs_lt 8 _ _ oQ oQ)
theorem number_is {s:ByteArray} (h:(number s).2=true):0≤(number s).1∧(number s).1<1048576∧name (number s).1=s:=by
 unfold number at h ⊢
 dsimp only at h ⊢
 split at h
 ·rename_i hc
  rw [if_pos hc]
  obtain ⟨c1,c2,c3,c4⟩:=hc
  refine ⟨by simp only;omega,by simp only;omega,?_⟩
  simp only
  unfold name
  rw [if_neg oQ]
  have hl:(s.data.toList.drop 4).length=8:=by
   have:s.data.toList.length=12:=by first|exact c1|(rw [Array.length_toList];exact c1)
   rw [List.length_drop,this]
  have hd:=digs_val (s.data.toList.drop 4) c3
  rw [hl]at hd
  have e:lead++digs (Int.toNat ((val (s.data.toList.drop 4):Nat):Int)) 8=s.data.toList:=by
   rw [Int.toNat_natCast,hd,← c2,List.take_append_drop]
  rw [e]
 ·cases h
theorem found_mem {l:List ByteArray}{x:Int×Int} (h:x∈found M l):∃ t∈l,(number t).2=true∧x=((number t).1,(M.size t).1):=by
 unfold found at h
 obtain ⟨t,ht,he⟩:=List.mem_filterMap.1 h
 split at he
 ·rename_i hn;exact ⟨t,ht,hn,(Option.some.inj he).symm⟩
 ·cases he
theorem found_rise:∀ (l:List ByteArray),l.Pairwise (fun a b=>lt a b=true)→((found M l).map (·.1)).Pairwise (· < ·)
 |[],_=>List.Pairwise.nil
 |t::l,h=>by
  obtain ⟨h1,h2⟩:=List.pairwise_cons.1 h
  have ih:=found_rise l h2
  by_cases hn:(number t).2=true
  ·have e:found M (t::l)=((number t).1,(M.size t).1)::found M l:=by unfold found;rw [List.filterMap_cons];simp [hn]
   rw [e,List.map_cons,List.pairwise_cons]
   refine ⟨fun x hx=>?_,ih⟩
   obtain ⟨y,hy,rfl⟩:=List.mem_map.1 hx
   obtain ⟨u,hu,hun,rfl⟩:=found_mem hy
   have hlt:=h1 u hu
   obtain ⟨a1,a2,a3⟩:=number_is hn
   obtain ⟨b1,b2,b3⟩:=number_is hun
   rcases Int.lt_or_le (number t).1 (number u).1 with q|q
   ·exact q
   ·exfalso
    rcases Int.lt_or_eq_of_le q with q|q
    ·have h3:=name_lt b1 q a2
     rw [a3,b3]at h3
     have:=lt_trans hlt h3
     rw [lt_irrefl]at this;cases this
    ·rw [← a3,← q,b3,lt_irrefl]at hlt;cases hlt
  ·have e:found M (t::l)=found M l:=by unfold found;rw [List.filterMap_cons];simp [hn]
   rw [e];exact ih
theorem fresh_ok (ok:M.Ok K) (limit:Int) (h1:128≤limit) (h2:limit≤1048576):(fresh M limit).Ok:=by
 refine ⟨⟨h1,h2⟩,?_,fun x hx=>?_,fun x hx=>?_,⟨Int.le_refl _,by simp [fresh]⟩,fun hh=>by cases hh⟩
 ·refine found_rise M.list ?_
  unfold Med.list
  split
  ·exact List.Pairwise.nil
  ·rw [List.pairwise_map];exact ok.nowOk.srt
 ·obtain ⟨t,_,hn,rfl⟩:=found_mem hx
  have:=number_is hn
  exact ⟨this.1,this.2.1⟩
 ·obtain ⟨t,_,hn,rfl⟩:=found_mem hx
  unfold Med.size
  split
  ·simp
  split
  ·simp
  ·have:=(ok.file ‹Nat›).now_len
   simp only
   omega
end
theorem all_size (M:Med) (s:ByteArray):(((M.all s).1.length:Nat):Int)=(M.size s).1:=by
 unfold Med.all Med.size
 split;· rfl
 split
 ·rfl
 ·rfl
section
variable {φ:Nat→Nat}{V:Nat→Prop}{M D:Med}{K:Nat}{L:Log}
theorem side_fresh (h:Side φ V M D) (ok:M.Ok K) (limit:Int):fresh D limit=fresh M limit:=by
 have e:found D D.list=found M M.list:=by
  rw [h.list]
  unfold found
  congr 1
  funext s
  rw [← all_size,← all_size,h.all ok]
 unfold fresh
 rw [e]
theorem back_med:∀ (k:Nat){K:Nat}{L:Log}{M:Med},M.Ok K→(L.back k M).1.2.Ok (K+k)
 |0,K,L,M,h=>h
 |k+1,K,L,M,h=>by
  have h1:∀ n,(L.remove M n).1.2.Ok (K+1):=fun n=>by
   unfold Log.remove
   cases L.at n with
   |none=>exact h.mono (Nat.le_succ K)
   |some i=>simp only;split <;> exact h.remove _
  unfold Log.back
  split;· exact h.mono oQ
  split
  ·exact (back_med k (h1 _)).mono oQ
  ·exact (h1 _).mono oQ
theorem alive_yes (ok:M.Ok K) (hoff:M.off=false):alive M=0:=by
 unfold alive Med.size
 rw [hoff]
 simp only [Bool.false_eq_true,if_false]
 cases hg:nget M.now ByteArray.empty with
 |none=>rfl
 |some i=>exact absurd rfl (ok.nowOk.ne _ (nget_mem hg))
end
structure Two (i:Nat) (L:Log) (M D:Med):Prop where
 log:L.Ok
 ok:M.Ok (i * 2000)
 fit:Fit (i * 2000) D
 side:∃ φ V,Side φ V M D
 fresh:L.fresh≤i
structure Step {α:Type} (i:Nat) (a b:(Log×Med)×α):Prop where
 log:b.1.1=a.1.1
 res:b.2=a.2
 two:Two i a.1.1 a.1.2 b.1.2
section
variable {i:Nat}{M D:Med}{L:Log}
theorem Step.of {α:Type}{a b:(Log×Med)×α} (h:Agree a b) (hl:a.1.1.Ok) (ok:a.1.2.Ok (i * 2000)) (fit:Fit (i * 2000) b.1.2) (hf:a.1.1.fresh≤i):Step i a b:=
 ⟨h.1.symm,h.2.1.symm,hl,ok,fit,h.2.2,hf⟩
theorem Two.first (r:Nat) (hr:r≤16777216) (limit:Int) (h1:128≤limit) (h2:limit≤1048576):Two 0 (Seg.fresh (new r) limit) (new r) (new r):=
 ⟨fresh_ok (Med.Ok.new 0 r hr) limit h1 h2,Med.Ok.new _ r hr,Fit.new _ r hr,⟨_,_,Side.new r⟩,Int.le_refl _⟩
theorem Two.append (h:Two i L M D) (x:Frm.Ent) (hk:x.key.length=32):Step (i+1) (L.append M x) (L.rappend D x):=by
 obtain ⟨φ,V,s⟩:=h.side
 exact .of (side_lappend s h.ok x) (h.log.append M x hk) ((Log.append_med h.ok x).mono oQ) ((h.fit.lappend x).mono oQ) (by have:=Log.append_fresh L M x;have:=h.fresh;omega)
theorem Two.commit (h:Two i L M D):Step (i+1) (L.commit M) (L.rcommit D):=by
 obtain ⟨φ,V,s⟩:=h.side
 exact .of (side_lcommit s h.ok) (h.log.commit M) ((Log.commit_med h.ok).mono oQ) ((h.fit.lcommit).mono oQ) (by have:=Log.commit_fresh L M h.log.fresh.1;have:=h.fresh;omega)
theorem Two.rollback (h:Two i L M D) (hi:i≤1000):Step (i+1) (L.rollback M) (L.rrollback D):=by
 obtain ⟨φ,V,s⟩:=h.side
 have hf:=h.fresh
 exact .of (side_lrollback s h.ok) (Log.Ok.back _ M h.log) ((back_med _ h.ok).mono oQ) ((Fit.back _ h.fit).mono oQ) (by have:=Log.back_fresh L.fresh.toNat L M;unfold Log.rollback;omega)
theorem Two.arm (h:Two i L M D) (n:Int) (hn:n≤9223372036854775807):(D.arm n).2=(M.arm n).2∧Two (i+1) L (M.arm n).1 (D.arm n).1:=by
 obtain ⟨φ,V,s⟩:=h.side
 obtain ⟨h1,h2⟩:=s.arm n
 exact ⟨h1.symm,h.log,(h.ok.arm n hn).mono oQ,(h.fit.arm n hn).mono oQ,h2,by have:=h.fresh;omega⟩
theorem Two.crash (h:Two i L M D) (l:List Int) (limit:Int) (h1:128≤limit) (h2:limit≤1048576) :
  Two (i+1) (Seg.fresh (M.crash l) limit) (M.crash l) (D.rcrash l)∧Seg.fresh (D.rcrash l) limit=Seg.fresh (M.crash l) limit∧alive (M.crash l)=0∧(D.rcrash l).off=false:=by
 obtain ⟨φ,V,s⟩:=h.side
 obtain ⟨φ',V',s'⟩:=s.crash l
 have ok':=h.ok.crash l
 refine ⟨⟨fresh_ok ok' limit h1 h2,ok'.mono oQ,(h.fit.crash l).mono oQ,⟨_,_,s'⟩,by unfold Seg.fresh;simp only;omega⟩,side_fresh s' ok' limit,alive_yes ok' rfl,rfl⟩
end
end Go.Seg
namespace Go.Seg
open Go.Med
open Go.Frm (encs GoodE)
section
variable {K:Nat}{M M':Med}{L:Log}{s t:ByteArray}{i:Nat}
def Grow (M:Med):Prop:=∀ j,∀ c∈(M.file j).waits,c.cut=false
def Dur (s:ByteArray) (i:Nat) (M:Med):Prop:=nget M.fast s=some i∧∀ w∈M.waits,w.fr≠s∧w.to≠s
structure Ext (s:ByteArray) (i:Nat) (M M':Med):Prop where
 now:nget M'.now s=some i
 dur:Dur s i M→Dur s i M'
 fast:∀ j,(M.file j).fast <+: (M'.file j).fast
 bytes:∀ j,(M.file j).now <+: (M'.file j).now
theorem arm_now (M:Med) (n:Int):(M.arm n).1.now=M.now∧(M.arm n).1.files=M.files:=by
 unfold Med.arm
 split;· exact ⟨rfl,rfl⟩
 split <;> exact ⟨rfl,rfl⟩
end
section
variable {K:Nat}{M M':Med}{L:Log}{s t:ByteArray}{i:Nat}
def nf (L:Log):List Int:=(L.l.map (·.1)).take (L.l.length - L.fresh.toNat)
theorem shut_same (L:Log) (M:Med):(L.shut M).1.1.l=L.l∧(L.shut M).1.1.fresh=L.fresh:=by
 unfold Log.shut
 split;· exact ⟨rfl,rfl⟩
 split
 ·split <;> exact ⟨rfl,rfl⟩
 ·exact ⟨rfl,rfl⟩
theorem grow_nums (L:Log) (M:Med) (b:Bs):(L.grow M b).1.1.l.map (·.1)=L.l.map (·.1)∧(L.grow M b).1.1.fresh=L.fresh∧(L.grow M b).1.1.on=L.on:=by
 unfold Log.grow
 split;· exact ⟨rfl,rfl,rfl⟩
 rename_i s hl
 split
 ·refine ⟨?_,rfl,rfl⟩
  have e:=last_split hl
  conv=>rhs;rw [e]
  simp
 ·exact ⟨rfl,rfl,rfl⟩
def Slice (p:Plc) (x:Frm.Ent) (b:Bs):Prop:=∃ a:Nat,p.at_=a∧p.size=((Frm.encode x).1.length:Int)∧(Frm.encode x).1 <+: b.drop a
structure Sure (L:Log) (M:Med) (p:Plc) (x:Frm.Ent):Prop where
 good:GoodE x
 mem:p.seg∈nf L
 file:∃ i,nget M.now (name p.seg)=some i∧Dur (name p.seg) i M∧Slice p x (M.file i).fast
structure Pend (L:Log) (M:Med) (p:Plc) (x:Frm.Ent):Prop where
 good:GoodE x
 mem:p.seg∈L.l.map (·.1)
 file:∃ i,nget M.now (name p.seg)=some i∧Slice p x (M.file i).now∧(Slice p x (M.file i).fast∨L.on=true∧∃ s,L.l.getLast?=some s∧s.1=p.seg)
structure St (K:Nat) (L:Log) (M:Med) (sure opn:List (Plc×Frm.Ent)):Prop where
 log:L.Ok
 ok:M.Ok K
 grow:Grow M
 has:Has L M
 tail:L.on=true→∃ s i,L.l.getLast?=some s∧nget M.now (name s.1)=some i∧s.2=((M.file i).now.length:Int)
 sure:∀ q∈sure,Sure L M q.1 q.2
 opn:M.off=false→∀ q∈opn,Pend L M q.1 q.2
variable {sure opn:List (Plc×Frm.Ent)}
end
section
variable {K K':Nat}{M M':Med}{L:Log}{s t:ByteArray}{i:Nat}{sure opn:List (Plc×Frm.Ent)}
theorem syncDir_same (M:Med):M.syncDir.1.now=M.now∧M.syncDir.1.files=M.files:=by
 obtain ⟨_,sf,sn,sfi,sw⟩:=M.step_same
 unfold Med.syncDir
 split;· exact ⟨rfl,rfl⟩
 split
 ·exact ⟨sn,sfi⟩
 ·exact ⟨sn,sfi⟩
theorem remove_same (M:Med) (t:ByteArray):(M.remove t).1.files=M.files:=by
 obtain ⟨_,sf,sn,sfi,sw⟩:=M.step_same
 unfold Med.remove
 split;· rfl
 split;· rfl
 split
 ·exact sfi
 ·exact sfi
end
end Go.Seg
namespace Go.Med
def FCap (c:Nat) (f:Fil):Prop:=∀ k,k≤f.waits.length→(f.at k).length≤c
section
variable {c c' K:Nat}{f:Fil}{M:Med}
theorem FCap.mono (h:FCap c f) (hc:c≤c'):FCap c' f:=fun k hk=>Nat.le_trans (h k hk) hc
theorem FCap.new (c:Nat):FCap c Fil.new:=fun k _=>by simp [Fil.new,Fil.at]
theorem FCap.flat {b:Bs} (h:b.length≤c):FCap c ⟨b,b,[]⟩:=fun k _=>by simpa [Fil.at] using h
theorem FCap.now (h:FCap c f) (ok:f.Ok K):f.now.length≤c:=by rw [ok.now];exact h _ (Nat.le_refl _)
theorem FCap.put (h:FCap c f) (ok:f.Ok K) (b:Bs):FCap (c+b.length) (f.do ⟨false,0,b⟩):=fun k hk=>by
 have hw:(f.do ⟨false,0,b⟩).waits.length=f.waits.length+1:=by simp [Fil.do]
 rw [hw]at hk
 rcases Nat.lt_or_ge k (f.waits.length+1) with hlt|hge
 ·rw [f.at_do _ k oQ];have:=h k oQ;omega
 ·obtain rfl:k=f.waits.length+1:=by omega
  rw [f.at_do_last _ ok.now]
  unfold Chg.on
  simp only [Bool.false_eq_true,if_false,List.length_append]
  have:=h.now ok;omega
theorem FCap.sync (h:FCap c f) (ok:f.Ok K):FCap c f.sync:=fun k _=>by
 simp only [Fil.sync,Fil.at,List.take_nil,List.foldl_nil];exact h.now ok
theorem FCap.left (h:FCap c f) (a b:Int):(f.left a b).length≤c:=by
 unfold Fil.left
 have hk:=clampN_le a f.waits.length
 generalize clampN a f.waits.length=k at *
 simp only
 cases hc:f.waits[k]? with
 |none=>exact h k hk
 |some d=>
  simp only
  split
  ·exact h k hk
  ·rename_i hcut
   have hlt:=(List.getElem?_eq_some_iff.1 hc).1
   have:=h (k+1) hlt
   rw [f.at_succ k d hc]at this
   unfold Chg.on at this
   rw [if_neg hcut]at this
   simp at this ⊢
   have:min (clampN b d.b.length) d.b.length≤d.b.length:=Nat.min_le_right _ _
   omega
theorem FCap.crash (h:FCap c f) (a b:Int):FCap c (f.crash a b):=FCap.flat (h.left a b)
def Med.Cap (c:Nat) (M:Med):Prop:=∀ f∈M.files,FCap c f
theorem Med.Cap.mono (h:M.Cap c) (hc:c≤c'):M.Cap c':=fun f hf=>(h f hf).mono hc
theorem Med.Cap.like {M':Med} (h:M.Cap c) (e:M'.files=M.files):M'.Cap c:=fun f hf=>h f (e ▸ hf)
theorem Med.Cap.file (h:M.Cap c) (i:Nat):FCap c (M.file i):=by
 unfold Med.file
 rcases Nat.lt_or_ge i M.files.length with hi|hi
 ·rw [List.getD_eq_getElem?_getD,List.getElem?_eq_getElem hi];exact h _ (List.getElem_mem hi)
 ·rw [List.getD_eq_getElem?_getD,List.getElem?_eq_none hi];exact FCap.new c
theorem Med.Cap.new (c room:Nat):(Med.new room).Cap c:=fun f hf=>by cases hf
theorem Med.Cap.step (h:M.Cap c):M.step.1.Cap c:=h.like M.step_same.2.2.2.1
theorem Med.Cap.set (h:M.Cap c) (i:Nat) (hf:FCap c f):(M.setFile i f).Cap c:=fun g hg=>by
 rcases List.mem_or_eq_of_mem_set hg with hg|rfl
 ·exact h g hg
 ·exact hf
theorem Med.Cap.create (h:M.Cap c) (s:ByteArray):(M.create s).1.Cap c:=by
 unfold Med.create
 split;· exact h
 split;· exact h
 split;· exact h
 split;· exact h
 split;· exact h.step
 intro f hf
 rcases List.mem_append.1 hf with hf|hf
 ·exact h f hf
 ·rw [List.mem_singleton.1 hf];exact FCap.new c
theorem Med.Cap.append (h:M.Cap c) (ok:M.Ok K) (s:ByteArray) (b:Bs):(M.append s b).1.Cap (c+b.length):=by
 have h':M.Cap (c+b.length):=h.mono (Nat.le_add_right _ _)
 unfold Med.append
 split;· exact h'
 split;· exact h'
 split;· exact h'
 split;· exact h'.step
 exact h'.step.set _ ((h.file _).put (ok.file _) b)
theorem Med.Cap.remove (h:M.Cap c) (s:ByteArray):(M.remove s).1.Cap c:=h.like (Seg.remove_same M s)
theorem Med.Cap.sync (h:M.Cap c) (ok:M.Ok K) (s:ByteArray):(M.sync s).1.Cap c:=by
 unfold Med.sync
 split;· exact h
 split;· exact h
 split;· exact h.step
 exact h.step.set _ ((h.file _).sync (ok.file _))
theorem Med.Cap.syncDir (h:M.Cap c):M.syncDir.1.Cap c:=h.like (Seg.syncDir_same M).2
theorem Med.Cap.arm (h:M.Cap c) (n:Int):(M.arm n).1.Cap c:=h.like (Seg.arm_now M n).2
theorem crashFiles_cap (l:List Int):∀ (ns:Names) (j:Nat) (fs:List Fil),(∀ f∈fs,FCap c f)→∀ f∈crashFiles l ns j fs,FCap c f
 |[],_,_,h=>h
 |p::ns,j,fs,h=>by
  unfold crashFiles
  refine crashFiles_cap l ns _ _ ?_
  intro f hf
  rcases List.mem_or_eq_of_mem_set hf with hf|rfl
  ·exact h f hf
  ·refine FCap.crash ?_ _ _
   rcases Nat.lt_or_ge p.2 fs.length with hi|hi
   ·rw [List.getD_eq_getElem?_getD,List.getElem?_eq_getElem hi];exact h _ (List.getElem_mem hi)
   ·rw [List.getD_eq_getElem?_getD,List.getElem?_eq_none hi];exact FCap.new c
theorem Med.Cap.crash (h:M.Cap c) (l:List Int):(M.crash l).Cap c:=crashFiles_cap l _ 1 M.files h
theorem Med.Cap.all (h:M.Cap c) (ok:M.Ok K) (s:ByteArray):(M.all s).1.length≤c:=by
 unfold Med.all
 split;· exact Nat.zero_le _
 split;· exact Nat.zero_le _
 exact (h.file _).now (ok.file _)
end
end Go.Med
namespace Go.Seg
open Go.Med
section
variable {c c' K n:Nat}{L:Log}{M:Med}
theorem cap_grow (h:M.Cap c) (ok:M.Ok K) (b:Bs):(L.grow M b).1.2.Cap (c+b.length):=by
 unfold Log.grow
 split;· exact h.mono (Nat.le_add_right _ _)
 split <;> exact h.append ok _ _
theorem cap_shut (h:M.Cap c) (ok:M.Ok K):(L.shut M).1.2.Cap c:=by
 unfold Log.shut
 split;· exact h
 split
 ·split <;> exact h.sync ok _
 ·exact h
theorem cap_begin1 (h:M.Cap c) (ok:M.Ok K) (b:Bs):(L.begin1 M b).1.2.Cap (c+(8+b.length)):=by
 have e:(mag++b).length=8+b.length:=by rw [List.length_append];rfl
 have h1:=(h.create (name L.next)).append (ok.create (name L.next)) (name L.next) (mag++b)
 rw [e]at h1
 unfold Log.begin1
 split;· exact h.mono (Nat.le_add_right _ _)
 split;· exact (h.create _).mono (Nat.le_add_right _ _)
 split;· exact h1
 split
 ·exact h1.remove _
 ·exact h1
theorem cap_append (h:M.Cap c) (ok:M.Ok K) (x:Frm.Ent):(L.append M x).1.2.Cap (c+(8+(Frm.encode x).1.length)):=by
 unfold Log.append
 split;· exact h.mono (Nat.le_add_right _ _)
 split
 ·exact (cap_grow h ok _).mono oQ
 ·unfold Log.begin
  split
  ·exact cap_begin1 (cap_shut h ok) (shut_ok ok) _
  ·exact (cap_shut h ok).mono (Nat.le_add_right _ _)
theorem com_len:(Frm.encode comEnt).1.length=9:=(size_enc (x:=comEnt) rQ rQ).trans rQ
theorem cap_commit (h:M.Cap c) (ok:M.Ok K):(L.commit M).1.2.Cap (c+17):=by
 have h1:=cap_append (L:=L) h ok comEnt
 have ok1:=Log.append_med (L:=L) ok comEnt
 rw [com_len]at h1
 unfold Log.commit
 split;· exact h1
 split;· exact h1.sync ok1 _
 split;· exact (h1.sync ok1 _).syncDir
 exact (h1.sync ok1 _).syncDir
theorem cap_remove (h:M.Cap c) (n:Int):(L.remove M n).1.2.Cap c:=by
 unfold Log.remove
 split;· exact h
 split <;> exact h.remove _
theorem cap_back:∀ (k:Nat){L:Log}{M:Med},M.Cap c→(L.back k M).1.2.Cap c
 |0,L,M,h=>h
 |k+1,L,M,h=>by
  unfold Log.back
  split;· exact h
  split
  ·exact cap_back k (cap_remove h _)
  ·exact cap_remove h _
theorem cap_rollback (h:M.Cap c):(L.rollback M).1.2.Cap c:=cap_back _ h
theorem shut_len (L:Log) (M:Med):(L.shut M).1.1.l.length=L.l.length:=by rw [(shut_same L M).1]
theorem append_len (L:Log) (M:Med) (x:Frm.Ent):(L.append M x).1.1.l.length≤L.l.length+1:=by
 unfold Log.append
 split;· simp only;omega
 split
 ·have:=congrArg List.length (grow_nums L M (Frm.encode x).1).1
  rw [List.length_map,List.length_map]at this
  omega
 ·unfold Log.begin
  have h1:=shut_len L M
  split
  ·unfold Log.begin1
   split;· simp only;omega
   split;· simp only;omega
   split;· simp only [List.length_append,List.length_singleton];omega
   split <;> (simp only;omega)
  ·simp only;omega
theorem commit_len (L:Log) (M:Med):(L.commit M).1.1.l.length≤L.l.length+1:=by
 have h1:=append_len L M comEnt
 unfold Log.commit
 split;· exact h1
 split;· exact h1
 split;· exact h1
 exact h1
theorem remove_len (L:Log) (M:Med) (n:Int):(L.remove M n).1.1.l.length≤L.l.length:=by
 unfold Log.remove
 split;· exact Nat.le_refl _
 split
 ·unfold Log.without;simp only;exact (List.eraseIdx_sublist ..).length_le
 ·exact Nat.le_refl _
theorem back_len:∀ (k:Nat) (L:Log) (M:Med),(L.back k M).1.1.l.length≤L.l.length
 |0,L,M=>Nat.le_refl _
 |k+1,L,M=>by
  unfold Log.back
  split;· exact Nat.le_refl _
  split
  ·exact Nat.le_trans (back_len k _ _) (remove_len L M _)
  ·exact remove_len L M _
theorem rollback_len (L:Log) (M:Med):(L.rollback M).1.1.l.length≤L.l.length:=by
 have h:=back_len L.fresh.toNat L M
 exact h
theorem fresh_len (ok:M.Ok K) (limit:Int):(Seg.fresh M limit).l.length≤500:=by
 have h1:=found_len M M.list
 have h2:M.list.length≤500:=by
  unfold Med.list
  split
  ·exact Nat.zero_le _
  ·rw [List.length_map];exact ok.nowOk.len
 exact Nat.le_trans h1 h2
theorem rows_cap (h:M.Cap c) (ok:M.Ok K) (hn:L.l.length≤n):(Rep.rowsOf (fun s=>L.bytes M s) L.segs).length≤n * c:=by
 have hb:∀ s,(L.bytes M s).1.length≤c:=fun s=>by
  unfold Log.bytes
  split
  ·exact Nat.zero_le _
  ·exact h.all ok _
 refine Nat.le_trans (Rep.rowsOf_count L.segs fun s _=>hb s) (Nat.mul_le_mul_right c ?_)
 unfold Log.segs
 rw [List.length_map];exact hn
end
end Go.Seg
namespace Go.Proofs.YtmjldaedhmipkaaGreatDoor
open Go Go.Sl Go.Med Go.MapKept Go.RowKit
section
variable {w0 w:World}{F R:List HProp}{p d q:Nat}{L:Seg.Log}{lv v bv:Value}{M:Med}{K:Nat}{s:Int×Int}
end
end Go.Proofs.YtmjldaedhmipkaaGreatDoor
namespace Go.Seg
open Go.Med
def Log.drop (t:List Int):Nat→Log→Med→(Log×Med)×Int
 |0,L,M=>if t=[] then ((L,M),0) else ((L,M.syncDir.1),M.syncDir.2)
 |k+1,L,M=>if (L.remove M (t.getD k 0)).2=0 then Log.drop t k (L.remove M (t.getD k 0)).1.1 (L.remove M (t.getD k 0)).1.2 else L.remove M (t.getD k 0)
section
variable {t:List Int}{L:Log}{M D:Med}{K i:Nat}
end
structure TwoM (i:Nat) (M D:Med):Prop where
 ok:M.Ok (i * 2000)
 fit:Fit (i * 2000) D
 side:∃ φ V,Side φ V M D
 quiet:Quiet M
 cap:M.Cap (i * 2000)
 now:M.now.length≤i
section
variable {i j K:Nat}{M D:Med}
theorem TwoM.first (r:Nat) (hr:r≤16777216):TwoM 0 (Med.new r) (Med.new r):=
 ⟨Med.Ok.new _ r hr,Fit.new _ r hr,⟨_,_,Side.new r⟩,Quiet.new r,Med.Cap.new _ r,Nat.le_refl 0⟩
end
section
variable {i n c K:Nat}{L:Log}{M D:Med}
theorem segs_rise (h:L.Ok):L.segs.Pairwise (· < ·):=h.rise
theorem segs_pos (h:L.Ok):∀ s∈L.segs,0≤s:=fun s hs=>by
 unfold Log.segs at hs
 obtain ⟨x,hx,rfl⟩:=List.mem_map.1 hs
 exact (h.nums x hx).1
theorem bytes_all (h:L.Ok) (M:Med){s:Int} (hs:s∈L.segs):L.bytes M s=M.all (name s):=by
 unfold Log.segs at hs
 obtain ⟨x,hx,rfl⟩:=List.mem_map.1 hs
 obtain ⟨k,hk⟩:=List.getElem?_of_mem hx
 unfold Log.bytes
 cases hat:L.at x.1 with
 |none=>
  exfalso
  unfold Log.at at hat
  rw [List.findIdx?_eq_none_iff]at hat
  have:=hat _ hx
  simp at this
 |some i=>rfl
theorem rows_ok (h:L.Ok) (M:Med) (n:Nat):Rep.Rows (Rep.rowsOf (fun s=>L.bytes M s) (L.segs.take n)):=
 Rep.rowsOf_rows ((segs_rise h).sublist (List.take_sublist _ _)) fun s hs=>segs_pos h s (List.mem_of_mem_take hs)
theorem rows_size (h:M.Cap c) (ok:M.Ok K) (ns:List Int):∀ r∈Rep.rowsOf (fun s=>L.bytes M s) ns,r.2.size≤c:=fun r hr=>by
 refine Rep.rowsOf_size (fun s _=>?_) hr
 unfold Log.bytes
 split
 ·exact Nat.zero_le _
 ·exact h.all ok _
end
end Go.Seg
namespace Go.Proofs.YtmjldaedhmipkaaGreatDoor
open Go Go.Sl Go.Med Go.MapKept Go.RowKit
section
variable {P:Program}{ops:Array Oper}{a:Act}{dst:Option Tmp}{t ty:TypeId}{pos:String}{after:Array Edge}{x y:Operand}{v v1 v2:Value}{i1 i2:Nat}
theorem yl_build2 (hx:a.eval x=v1) (hy:a.eval y=v2) (hr:∀ w,(Instr.build ty #[(i1,v1),(i2,v2)]).run P w = .ok v w):Yields P ops ⟨dst,.build ty #[(i1,x),(i2,y)],t,pos,after,none⟩ v a:=
 .inl ⟨want_none _ rfl,fun w=>by simp only [execOp,List.map_toArray,List.map_cons,List.map_nil,hx,hy,Sem.run_bind,hr,Result.andThen_ok,Sem.run_pure]⟩
end
section
variable {w0 w:World}{F:List HProp}{p B:Nat}{m:Frm.Bs→Option (Seg.Plc)}
set_option maxRecDepth 20000 in
theorem rows_c (hB:B≤13000000) (h:Sat w0 w (TabML p m B::F)) :
  Calls Tryz.prog 56 #[ptr p] w (Rtn fun v w'=>∃ kv:List (Frm.Bs×Seg.Plc),(Tab.Lists m kv∧(∀ q∈kv,q.1.length=32)∧kv.length≤B)∧Sat w0 w' (osl 117 35 v (kv.flatMap kvL)::TabML p m B::F)):=by
 have hr:=keysL_c hB h
 clear h
 go_enter Tryz.func56,Tryz.ntmps56
 go_wp2_with fail
 refine hr.mono ?_
 rintro ee w1 ⟨sv,rfl,kv,hk,hS1⟩
 clear hr
 have Hk:=uQ hk
 have Hlen:=uQ (show ∀ q∈kv,(bys q.1).length=32 from fun q hq=>by rw [bys_len];exact hk.2.1 q hq)
 obtain ⟨la,lc,rfl⟩:=osl_rows Hlen.out (Sat.rd hS1) dQ
 have hsb:kv.length≤13000000:=Nat.le_trans hk.2.2 hB
 have hB2:B≤268435000:=oQ
 have HB:=uQ hB2
 have hS2:Sat w0 w1 (osl 117 35 (.slice none 0 0) ((kv.take 0).flatMap kvL)::osl 41 32 (.slice la kv.length lc) (kv.flatMap fun q=>bys q.1)::TabML p m B::F):=Sat.osl_nil.2 hS1
 clear hk hB hS1 hB2
 go_wp2_with fail
 go_loopg [3,5] kv.length (fun g oq iq wr=>∃ (i:Nat),g=kv.length - i∧i≤kv.length∧iq = .int .i64 i ∧
  Sat w0 wr (osl 117 35 oq ((kv.take i).flatMap kvL)::osl 41 32 (.slice la kv.length lc) (kv.flatMap fun q=>bys q.1)::TabML p m B::F))
 case atStart=>exact ⟨0,rfl,Nat.zero_le _,rfl,hS2⟩
 case round=>
  obtain ⟨i,rfl,hi,rfl,hS⟩:=hrel
  clear hS2
  by_cases hlt:i<kv.length
  rotate_left
  ·obtain rfl:i=kv.length:=by omega
   have c1:¬ (kv.length:Int)<(kv.length:Int):=oQ
   rw [List.take_length]at hS
   clear hlt hi
   go_wp2_with fail
   go_ret
   exact ⟨_,rfl,kv,⟨Hk.out.1,by intros;exact Hk.out.2.1 (_,_) aQ,Hk.out.2.2⟩,hS.sb⟩
  have c1:(i:Int)<(kv.length:Int):=oQ
  have hwi:=iwQ (i:=i)
  obtain ⟨⟨k,pl⟩,hx⟩:∃ q,kv[i]?=some q:=⟨_,List.getElem?_eq_getElem hlt⟩
  have Hx:=uQ hx
  have hxm:=List.mem_of_getElem? hx
  have Hxk:=uQ (Hk.out.2.1 _ hxm)
  have hmk:m k=some pl:=(Hk.out.1.mem k pl).1 hxm
  obtain ⟨bk,off,c',hsv,hcell⟩:=osl_row (f:=fun q:Frm.Bs×Seg.Plc=>bys q.1) (k:=32) Hlen.out (Sat.rd (hS.pick pick1)) hx dQ
  cases hsv
  have Htk:=uQ (show (kv.take (i+1)).flatMap kvL=(kv.take i).flatMap kvL++kvL (k,pl) by rw [List.take_add_one,hx,Option.toList_some,List.flatMap_append];simp)
  have Hlt:=uQ hlt
  have hg:=getL_c HB.out Hxk.out (hS.sb:Sat w0 wr (TabML p m B::osl 117 35 u3 ((kv.take i).flatMap kvL)::osl 41 32 (.slice (some ⟨bk,off,none⟩) kv.length lc) (kv.flatMap fun q=>bys q.1)::F))
  rw [hmk,Option.getD_some,Option.isSome_some]at hg
  clear hx hxm hlt hi hmk hS
  go_wp2_with ((with_reducible refine at_load ⟨?_⟩);refine wl_loadW (b:=bk) (o:=off+i * 32) (bys k) rQ hcell Tryz.underlying41 rfl (by rw [bys_len,Hxk.out];kernel_rfl) ?_)
  refine hg.mono ?_
  rintro ee w5 ⟨v,rfl,rfl,hS5⟩
  clear hg hcell
  go_wp2_with (with_reducible apply at_alloc)
  refine ⟨wl_alloc zPlc39 hS5 rfl ?_⟩
  intro b6 w6 h6
  go_wp2_with ((with_reducible refine at_store ⟨?_⟩);refine wl_storeA (penc pl).toArray h6 rQ rQ rQ upd0 kQ rQ ?_;intro w7 h7)
  have h8:=h7.drew
  obtain ⟨bk2,off2,c2,e2,hcell⟩:=osl_row (f:=fun q:Frm.Bs×Seg.Plc=>bys q.1) (k:=32) Hlen.out (Sat.rd (h8.pick (pick_there (pick_there (pick_there pick0))))) Hx.out dQ
  cases e2
  have hG:(w7.drew).rangeAt bk (off+i * 32) (bys k)∧(w7.drew).rangeAt b6 0 (penc pl):=⟨hcell,pt_rangeL (h8.pick pick0)⟩
  clear h7 h6 hS5 hcell
  have hle:((kv.take i).flatMap kvL).length≤2147483648:=by
   rw [rows_len (k:=35) fun q hq=>kvL_len q (Hk.out.2.1 q (List.mem_of_mem_take hq)),List.length_take];omega
  refine wpL_begin [6,7,8,9] (fun w'=>w'.rangeAt bk (off+i * 32) (bys k)∧w'.rangeAt b6 0 (penc pl)) kQ ?_
  refine rP 0 ?_ (y:=mvQ)
  refine rP 1 ?_ (y:=mvQ)
  refine rP 2 ?_ (y:=mvQ)
  refine rP 3 ?_ (y:=ixQ)
  refine rg_take 4 evD kQ iQ (tk_loadN (b:=bk) (o:=off+i * 32) (bys k) rQ Tryz.underlying41 rfl (by rw [bys_len,Hxk.out];kernel_rfl) (fun w hw=>hw.1)) aQ gQ ?_
  refine rg_take 5 evD kQ iQ (tk_loadN (b:=b6) (o:=0) (penc pl) rQ Tryz.underlying39 rfl kQ (fun w hw=>hw.2)) aQ gQ ?_
  clear hG
  refine rP 6 ?_ (y:=(yl_build2 evD evD (fun w=>run_kv k Hxk.out pl w)))
  refine rg_eff 7 evD kQ (fun K hK=>?_)
  refine eff_build1 (e:=117) (sz:=35) (by':=56) kQ h8 evD (cs:=(kvL (k,pl)).toArray) rfl (by rw [List.size_toArray,kvL_len _ Hxk.out]) dQ ?_
  intro bN wN hN
  refine hK _ _ (.inl rfl) ?_
  clear hK h8
  refine rg_eff 8 evD kQ (fun K hK=>?_)
  refine eff_app 117 35 56 kQ hN evD evD (pick_there (pick_there (pick_there pick0))) pick0 (by rw [List.size_toArray,kvL_len _ Hxk.out]) (Nat.le_refl 1) (by rw [List.toList_toArray];exact kvL_ones _) hle (by rw [List.size_toArray,kvL_len _ Hxk.out];decide) dQ (by rw [List.toList_toArray]) ?_
  intro bA nA cA wA hA
  refine hK _ _ (.inl rfl) ?_
  clear hK hN
  refine rP 9 ?_ (y:=asQ)
  refine wdQ ?_
  rw [← Htk.out]at hA
  go_wp2_with fail
  go_roundg (kv.length - (i+1))
  case measure=>have:=Hlt.out;omega
  case rel=>exact ⟨i+1,rfl,Hlt.out,by first|rfl|go_num,hA.sb⟩
end
end Go.Proofs.YtmjldaedhmipkaaGreatDoor
