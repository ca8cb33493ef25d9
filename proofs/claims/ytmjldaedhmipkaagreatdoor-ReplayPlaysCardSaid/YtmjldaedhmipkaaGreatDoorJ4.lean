import Derived.Test.YtmjldaedhmipkaaGreatDoorJ3
import Derived.Laws.IdiomStrings
import Derived.Lib.BufferRead
set_option maxHeartbeats 128000000
namespace Go.Proofs.YtmjldaedhmipkaaGreatDoor
open Go Go.Sl Go.Med Go.MapKept Go.RowKit
theorem sQ {p : Prop} (h : p := by first | assumption | exact entA_size _ _ rfl | exact entA_size _ _ aQ | exact entA_size _ _ (Hid.out aQ)) : p := h
theorem pQ {p : Prop} (h : p := by first | (simp only [putsAt, Value.cells]; (try go_frame); first | done | rfl) | rfl) : p := h
theorem gQ {p : Prop} (h : p := by go_frame; first | done | rfl) : p := h
theorem fQ {p : Prop} (h : p := by first | rfl | assumption | exact Hid.out aQ) : p := h
theorem wQ {p : Prop} (h : p := by with_reducible rfl) : p := h
end Go.Proofs.YtmjldaedhmipkaaGreatDoor
set_option linter.unusedVariables false
namespace Go.Proofs.YtmjldaedhmipkaaGreatDoor
open Go Go.Sl Go.Med Go.MapKept Go.RowKit
section
variable {w0 w:World}{L L' R:List HProp}{b:Nat}{ops:Array Oper}{rest:List Oper}{a:Act}{Q:Exit→Act→World→Prop}
variable {dst:Option Tmp}{t T:TypeId}{pos:String}{after:Array Edge}{x y:Operand}{cs:Array Value}{v:Value}{e:Frm.Ent}{da:Option Addr}{dn dc:Nat}
theorem run_buildTag (tag:Int) (w:World):(Instr.build 44 #[(0,.int .i64 tag)]).run Tryz.prog w = .ok (.agg (entA ⟨tag,Frm.zero32,[]⟩ (.slice none 0 0))) w:=by
 have hz:(entA Frm.zeroE (.slice none 0 0)).size=34:=entA_size _ _ rfl
 have h:=run_build (P:=Tryz.prog) [(0,.int .i64 tag)] plEnt zEnt (by
  intro p hp
  rw [List.mem_singleton]at hp
  subst hp
  have hzz:zeroEntV.cells.size=34:=hz
  rw [hzz]
  exact ⟨0,rfl,by show 0+1≤34;omega⟩) w
 exact h
theorem wl_buildTag {tag:Int} (hx:a.eval x = .int .i64 tag) (h:wpList Tryz.prog ops Q rest (a.put dst (.agg (entA ⟨tag,Frm.zero32,[]⟩ (.slice none 0 0)))) w):wpList Tryz.prog ops Q (⟨dst,.build 44 #[(0,x)],t,pos,after,none⟩::rest) a w:=
 wpList_plain rfl fun _ hK=>by
  unfold Oper.wp execOp
  simp only [List.map_toArray,List.map_cons,List.map_nil,hx,Sem.run_bind,run_buildTag,Result.andThen_ok,Sem.run_pure]
  exact hK _ _ h
theorem wl_buildZ (h:wpList Tryz.prog ops Q rest (a.put dst (.agg (entA Frm.zeroE (.slice none 0 0)))) w):wpList Tryz.prog ops Q (⟨dst,.build 44 #[],t,pos,after,none⟩::rest) a w:=
 wpList_plain rfl fun _ hK=>by
  unfold Oper.wp execOp
  simp only [List.map_toArray,List.map_nil,Sem.run_bind,run_zeroEnt,Result.andThen_ok,Sem.run_pure]
  exact hK _ _ h
theorem at_buildTag (h:Stop (wpList Tryz.prog ops Q (⟨dst,.build 44 #[(0,x)],t,pos,after,none⟩::rest) a w)):wpList Tryz.prog ops Q (⟨dst,.build 44 #[(0,x)],t,pos,after,none⟩::rest) a w:=h.out
theorem at_buildZ (h:Stop (wpList Tryz.prog ops Q (⟨dst,.build 44 #[],t,pos,after,none⟩::rest) a w)):wpList Tryz.prog ops Q (⟨dst,.build 44 #[],t,pos,after,none⟩::rest) a w:=h.out
theorem wl_slice2 {P:Program}{ty:TypeId}{z:Operand}{vx vy vz:Value} (hx:a.eval x=vx) (hy:a.eval y=vy) (hz:a.eval z=vz) (hr:∀ w,(Instr.sliceAt ty vx (some vy) (some vz) none).run P w = .ok v w)
  (h:wpList P ops Q rest (a.put dst v) w):wpList P ops Q (⟨dst,.slice ty x (some y) (some z) none,t,pos,after,none⟩::rest) a w:=
 wpList_plain rfl fun _ hK=>by
  unfold Oper.wp execOp
  simp only [hx,hy,hz,Option.map_some,Option.map_none,Sem.run_bind,hr,Result.andThen_ok,Sem.run_pure]
  exact hK _ _ h
theorem at_slice2 {P:Program}{ty:TypeId}{z:Operand} (h:Stop (wpList P ops Q (⟨dst,.slice ty x (some y) (some z) none,t,pos,after,none⟩::rest) a w)):wpList P ops Q (⟨dst,.slice ty x (some y) (some z) none,t,pos,after,none⟩::rest) a w:=h.out
theorem run_arrKey (ad:Addr) (c:Nat) (w:World):(Instr.arrayAt 41 (.slice (some ad) 32 c)).run Tryz.prog w = .ok (.pointer (some ad)) w:=by
 simp [Instr.arrayAt,run_underlying (P:=Tryz.prog) Tryz.underlying41]
theorem puts_key {e:Frm.Ent}{dv:Value} (hk:e.key.length=32) (key:Bs) (hk2:key.length=32):putsAt (entA e dv) 1 (bys key)=entA ⟨e.tag,key,e.data⟩ dv:=by
 apply putsAt_eq
 have hz:=entA_size e dv hk
 have h1:(bys key).length=32:=by rw [bys_len,hk2]
 have h2:(bys e.key).length=32:=by rw [bys_len,hk]
 rw [putsAt_list _ _ _ oQ]
 unfold entA entL
 rw [List.toList_toArray,List.toList_toArray,h1,show 1+32=32+1 by omega,List.drop_succ_cons,List.take_succ_cons,List.take_zero,List.drop_append_of_le_length oQ,List.drop_of_length_le oQ]
 simp
theorem puts_data {e:Frm.Ent}{dv:Value} (hk:e.key.length=32) (data:Bs) (dv2:Value):putsAt (entA e dv) 33 [dv2]=entA ⟨e.tag,e.key,data⟩ dv2:=by
 apply putsAt_eq
 have hz:=entA_size e dv hk
 have h2:(bys e.key).length=32:=by rw [bys_len,hk]
 rw [putsAt_list _ _ _ (by simp;omega)]
 unfold entA entL
 rw [List.toList_toArray,List.toList_toArray,List.length_singleton,show 33+1=33+1 from rfl,List.drop_succ_cons,List.take_succ_cons,List.take_append_of_le_length oQ,List.take_of_length_le oQ,List.drop_of_length_le (by simp;omega)]
 simp
theorem infoKey:(Tryz.prog.info? 41).map (·.size)=some 32:=by kernel_rfl
theorem infoSl:(Tryz.prog.info? 42).map (·.size)=some 1:=by kernel_rfl
theorem wl_storeK {dv:Value}{key:Bs} (hs:Sat w0 w L) (hx:a.eval x = .pointer (some ⟨b,1,none⟩)) (hy:a.eval y = .agg (bys key).toArray) (hk:e.key.length=32) (hk2:key.length=32) (u:Upd (pt b (.cells (entA e dv) T (0,0))) (pt b (.cells (entA ⟨e.tag,key,e.data⟩ dv) T (0,0))) L L')
  (hK:∀ w',Sat w0 w' L'→wpList Tryz.prog ops Q rest (a.put dst undef) w'):wpList Tryz.prog ops Q (⟨dst,.store 41 x y,t,pos,after,none⟩::rest) a w:=by
 obtain ⟨R',h2,h3⟩:=u
 have hz:=entA_size e dv hk
 have hb:(bys key).toArray.size=32:=by simp [bys,hk2]
 refine wpList_store_sat (w0:=w0) rfl 41 x y rfl 1 (.agg (bys key).toArray) hx hy (show 1+(bys key).toArray.size≤(entA e dv).size by omega) (show _=some (bys key).toArray.size by rw [hb];exact infoKey) ?_ (hs.perm h2) fun w' hS=>hK w' ?_
 ·show (bys key).toArray.all _=true
  rw [← Array.all_toList]
  exact List.all_eq_true.2 (bys_one _)
 ·have he:putsAt (entA e dv) 1 (Value.agg (bys key).toArray).cells.toList=entA ⟨e.tag,key,e.data⟩ dv:=puts_key hk key hk2
  rw [he]at hS
  exact hS.perm h3.symm
theorem wl_storeD {dv:Value}{data:Bs} (hs:Sat w0 w L) (hx:a.eval x = .pointer (some ⟨b,33,none⟩)) (hy:a.eval y = .slice da dn dc) (hk:e.key.length=32) (u:Upd (pt b (.cells (entA e dv) T (0,0))) (pt b (.cells (entA ⟨e.tag,e.key,data⟩ (.slice da dn dc)) T (0,0))) L L')
  (hK:∀ w',Sat w0 w' L'→wpList Tryz.prog ops Q rest (a.put dst undef) w'):wpList Tryz.prog ops Q (⟨dst,.store 42 x y,t,pos,after,none⟩::rest) a w:=by
 obtain ⟨R',h2,h3⟩:=u
 have hz:=entA_size e dv hk
 refine wpList_store_sat (w0:=w0) rfl 42 x y rfl 33 (.slice da dn dc) hx hy (show 33+1≤(entA e dv).size by omega) infoSl (by simp [Value.cells,Value.oneCell']) (hs.perm h2) fun w' hS=>hK w' ?_
 have he:putsAt (entA e dv) 33 (Value.slice da dn dc).cells.toList=entA ⟨e.tag,e.key,data⟩ (.slice da dn dc):=puts_data hk data _
 rw [he]at hS
 exact hS.perm h3.symm
theorem res_entE3 {fn:Func}{p u q:Tmp}{tmps:Array Value} (hf:fn.results=#[.cell p 44,.tmp u,.tmp q]) (hs:Sat w0 w L) (hp:tmps.getD p undef = .pointer (some ⟨b,0,none⟩)) (k:Pick (pt b (.cells (entA e (.slice da dn dc)) T (0,0))) L R) (hk:e.key.length=32) :
  (results fn tmps).run Tryz.prog w = .ok (.tuple #[.agg (entA e (.slice da dn dc)),tmps.getD u undef,tmps.getD q undef]) w:=by
 have hl:=run_loadVar_row (P:=Tryz.prog) w b T 44 (entA e (.slice da dn dc)) (0,0) _ (hs.pick k).at Tryz.underlying44 rQ (by rw [entA_size e _ hk];exact infoEntSize)
 have hp':tmps[p]?.getD undef = .pointer (some ⟨b,0,none⟩):=by simpa using hp
 simp [results,hf,hp',asAddr,hl,Result.andThen]
end
section
variable {w0 w:World}{F R:List HProp}{v bv dv x lv:Value}
theorem rdsl_sub {l:Bs}{bk off n c:Nat} (h:rdsl 1 (.slice (some ⟨bk,off,none⟩) n c) (bys l) w) (i j c':Nat) (hij:i≤j) (hj:j≤l.length):rdsl 1 (.slice (some ⟨bk,off+i,none⟩) (j - i) c') (bys ((l.take j).drop i)) w:=by
 obtain ⟨a',n',c'',he,hl,hx⟩:=h
 cases he
 refine ⟨_,_,_,rfl,by rw [bys_len,List.length_drop,List.length_take];omega,fun k y hk=>⟨_,rfl,?_⟩⟩
 have hk':(bys l)[i+k]?=some y:=by
  unfold bys at hk ⊢
  rw [List.map_drop,List.map_take,List.getElem?_drop,List.getElem?_take]at hk
  split at hk
  ·exact hk
  ·cases hk
 obtain ⟨b',hb',hc⟩:=hx _ _ hk'
 cases hb'
 rw [Addr.add_mid]at hc ⊢
 rw [Nat.add_assoc];exact hc
end
section
variable {w0 w:World}{F R:List HProp}{v bv dv x lv:Value}
set_option maxRecDepth 20000 in
theorem fread_c (l:Bs) (hr:Ro w0 F (rdsl 1 bv (bys l))) (hcap:capOk bv) (hH:Ro w0 F Half) (hl:l.length≤1099511627776) (h:Sat w0 w F) :
  Calls Tryz.prog 98 #[bv] w (Rtn fun v w'=>∃ da dc,v = .tuple #[.agg (entA (Frm.read l).1 (.slice da (Frm.read l).1.data.length dc)),.int .i64 (Frm.read l).2.1,errno (Frm.read l).2.2]∧Sat w0 w' (bsl (.slice da (Frm.read l).1.data.length dc) (Frm.read l).1.data::F)):=by
 obtain ⟨ba,bn,bc,rfl,hbn,hbc⟩:=hcap
 have hln:bn=l.length:=by
  obtain ⟨_,_,_,he,hl',_⟩:=hr w h
  cases he
  rw [bys_len,Nat.mul_one]at hl';exact hl'.symm
 subst hln
 by_cases h9:l.length<9
 ·have Hf:=uQ (show Frm.read l=(Frm.zeroE,0,3) by unfold Frm.read;rw [if_pos h9])
  have c1:(l.length:Int)<9:=oQ
  clear hr hH h9 hl
  go_enter Tryz.func98,Tryz.ntmps98
  go_wp2_with (first|((with_reducible refine at_allocE ⟨?_⟩);refine wl_allocE aQ ?_;intro bE wE hE)|((with_reducible refine at_buildZ ⟨?_⟩);refine wl_buildZ ?_)|((with_reducible refine at_storeE ⟨?_⟩);first|(refine wl_storeE aQ rQ rQ fQ upD sQ ?_;intro wS hS)|(refine wl_storeE (e:=Frm.zeroE) (da:=none) (dn:=0) (dc:=0) aQ rQ rQ rfl upD sQ ?_;intro wS hS)))
  rw [Hf.out]
  refine ⟨rfl,_,res_entE3 rfl aQ rQ pkD rfl,_,rfl,none,0,rfl,Sat.osl_nil.2 (Sat.sb hS)⟩
 obtain ⟨bk,off,rfl,hcell⟩:∃ bk off,ba=some ⟨bk,off,none⟩∧True:=by
  have hx:(bys l)[0]?=some (.int .u8 (l[0]'oQ).toNat):=by
   unfold bys;rw [List.getElem?_map,List.getElem?_eq_getElem oQ];rfl
  obtain ⟨bk,off,hb,_⟩:=rdsl_cells (hr w h) hx
  exact ⟨bk,off,hb,trivial⟩
 clear hcell
 have hrd:=hr w h
 have Hsub:=uQ (show ∀ (i j:Nat),i≤j→j≤l.length→∀ w,Sat w0 w F→rdsl 1 (.slice (some ⟨bk,off+i,none⟩) (j - i) (bc - i)) (bys ((l.take j).drop i)) w from fun i j h1 h2 w hw=>rdsl_sub (hr w hw) i j (bc - i) h1 h2)
 have Hnum:=uQ (show ∀ w,Sat w0 w F→Calls Tryz.prog 143 #[.slice (some ⟨bk,off+4,none⟩) (l.length - 4) (bc - 4)] w (Rtn fun v w'=>v = .int .u32 (Frm.num ((l.drop 4).take 4):Nat)∧w=w') from fun w hw=>number_c (l.drop 4) (by rw [List.length_drop];omega) _ (l.length - 4) (bc - 4) oQ oQ (by
  have:=Hsub.out 4 l.length oQ (Nat.le_refl _) w hw
  rw [List.take_length]at this
  exact this))
 have Hnum0:=uQ (show ∀ w,Sat w0 w F→Calls Tryz.prog 143 #[.slice (some ⟨bk,off,none⟩) l.length bc] w (Rtn fun v w'=>v = .int .u32 (Frm.num (l.take 4):Nat)∧w=w') from fun w hw=>number_c l oQ _ l.length bc hbn hbc (hr w hw))
 have Hread:=uQ (show Frm.read l=if Frm.fits (l.getD 8 0) (Frm.num ((l.drop 4).take 4))=false then (Frm.zeroE,0,4)
  else if l.length<Frm.num ((l.drop 4).take 4) then (Frm.zeroE,0,3)
  else if Frm.crc ((l.take (Frm.num ((l.drop 4).take 4))).drop 4)≠Frm.num (l.take 4) then (Frm.zeroE,0,13)
  else if 41≤Frm.num ((l.drop 4).take 4) then (⟨(l.getD 8 0).toNat,(l.drop 9).take 32,(l.take (Frm.num ((l.drop 4).take 4))).drop 41⟩,Frm.num ((l.drop 4).take 4),0)
  else (⟨(l.getD 8 0).toNat,Frm.zero32,[]⟩,Frm.num ((l.drop 4).take 4),0) by unfold Frm.read;rw [if_neg h9])
 have hN:Frm.num ((l.drop 4).take 4)<4294967296:=by
  have:=Frm.num_lt ((l.drop 4).take 4)
  rw [List.length_take,List.length_drop]at this
  have h4:min 4 (l.length - 4)=4:=oQ
  rw [h4]at this
  omega
 generalize hNN:Frm.num ((l.drop 4).take 4)=N at *
 have hfits:=fun w=>fits_c (l.getD 8 0) N hN w
 have hfg:Frm.fits (l.getD 8 0) N=true→9≤N:=by
  unfold Frm.fits
  intro hh
  split at hh
  ·have:=of_decide_eq_true hh;omega
  ·split at hh
   ·have:=of_decide_eq_true hh;omega
   ·split at hh
    ·have:=of_decide_eq_true hh;omega
    ·cases hh
 have hc8:∀ w,Sat w0 w F→w.cell? ⟨bk,off+8,none⟩=some (.int .u8 (l.getD 8 0).toNat):=fun w hw=>by
  have hx:(bys l)[8]?=some (.int .u8 (l.getD 8 0).toNat):=by
   unfold bys;rw [List.getElem?_map,List.getD_eq_getElem?_getD,List.getElem?_eq_getElem oQ];rfl
  obtain ⟨bk',off',hb,hc⟩:=rdsl_cells (hr w hw) hx
  cases hb
  exact hc _ _ hx
 have Hc8:=uQ hc8;have Hr:=uQ hr;have HH:=uQ hH;have Hl:=uQ hl;have Hfg:=uQ hfg;have Hfits:=uQ hfits
 have c1:¬ (l.length:Int)<9:=oQ
 have c2:¬ bc=4:=oQ
 have c3:(4:Int)≤(l.length:Int):=oQ
 have c4:(l.length:Int)≤(bc:Int):=oQ
 have c5:(8:Int)<(l.length:Int):=oQ
 have Hbn:=uQ (show l.length≤bc∧bc≤9223372036854775807∧9≤l.length∧N<4294967296 from ⟨hbn,hbc,by omega,hN⟩)
 have hcv:IntKind.i64.wrap (N:Int)=(N:Int):=by rw [IntKind.wrap_i64];omega
 clear hrd hNN hc8 hr hH hl h9 hbn hbc hfg hfits hN
 generalize l.getD 8 0=tg at *
 have htg:=tg.toNat_lt
 have hct:IntKind.i64.wrap (tg.toNat:Int)=(tg.toNat:Int):=by rw [IntKind.wrap_i64];omega
 have htb:(tg.toNat:Int)<256:=oQ
 go_enter Tryz.func98,Tryz.ntmps98
 go_wp2_with ((with_reducible refine at_allocE ⟨?_⟩);refine wl_allocE aQ ?_;intro bE wE hE)
 refine (Hnum.out _ hE.drop).mono ?_
 rintro ee w2 ⟨v,rfl,rfl,rfl⟩
 have e8:=Hc8.out _ hE.drop
 go_wp2_with fail
 refine (Hfits.out _).mono ?_
 rintro ee w2 ⟨v,rfl,rfl,rfl⟩
 cases hft:Frm.fits tg N
 ·have Hf:=uQ (Hread.out.trans (if_pos hft))
  clear hft
  go_wp2_with (first|((with_reducible refine at_buildZ ⟨?_⟩);refine wl_buildZ ?_)|((with_reducible refine at_storeE ⟨?_⟩);first|(refine wl_storeE aQ rQ rQ fQ upD sQ ?_;intro wS hS)|(refine wl_storeE (e:=Frm.zeroE) (da:=none) (dn:=0) (dc:=0) aQ rQ rQ rfl upD sQ ?_;intro wS hS)))
  rw [Hf.out]
  refine ⟨rfl,_,res_entE3 rfl aQ rQ pkD rfl,_,rfl,none,0,rfl,Sat.osl_nil.2 (Sat.sb hS)⟩
 have Hf:=uQ (Hread.out.trans (if_neg (by rw [hft];decide)))
 have hN9:=Hfg.out hft
 clear hft
 by_cases hlN:l.length<N
 ·have Hf2:=uQ (Hf.out.trans (if_pos hlN))
  have c6:(l.length:Int)<(N:Int):=oQ
  clear hlN hN9
  go_wp2_with (first|((with_reducible refine at_buildZ ⟨?_⟩);refine wl_buildZ ?_)|((with_reducible refine at_storeE ⟨?_⟩);first|(refine wl_storeE aQ rQ rQ fQ upD sQ ?_;intro wS hS)|(refine wl_storeE (e:=Frm.zeroE) (da:=none) (dn:=0) (dc:=0) aQ rQ rQ rfl upD sQ ?_;intro wS hS)))
  rw [Hf2.out]
  refine ⟨rfl,_,res_entE3 rfl aQ rQ pkD rfl,_,rfl,none,0,rfl,Sat.osl_nil.2 (Sat.sb hS)⟩
 have Hf2:=uQ (Hf.out.trans (if_neg hlN))
 clear Hf Hread
 have c6:¬ (l.length:Int)<(N:Int):=oQ
 have c7:(4:Int)≤(N:Int):=oQ
 have c8:(N:Int)≤(bc:Int):=oQ
 have HlN:=uQ (show N≤l.length∧9≤N by omega)
 clear hlN hN9
 go_wp2_with fail
 refine (crc_c ((l.take N).drop 4) (Ro.os HH.out) (fun w hw=>Hsub.out 4 N (by have:=HlN.out;omega) HlN.out.1 w (hw.sb)) hE (by rw [List.length_drop,List.length_take];have:=Hl.out;omega)).mono ?_
 rintro ee w2 ⟨v,rfl,rfl,rfl⟩
 go_wp2_with fail
 refine (Hnum0.out _ hE.drop).mono ?_
 rintro ee w2 ⟨v,rfl,rfl,rfl⟩
 generalize Frm.crc ((l.take N).drop 4)=A at *
 generalize Frm.num (l.take 4)=B at *
 by_cases hAB:A=B
 rotate_left
 ·have Hf3:=uQ (Hf2.out.trans (if_pos hAB))
  have c9:((A:Int)==(B:Int))=false:=by rw [beq_eq_false_iff_ne];omega
  clear hAB
  go_wp2_with (first|((with_reducible refine at_buildZ ⟨?_⟩);refine wl_buildZ ?_)|((with_reducible refine at_storeE ⟨?_⟩);first|(refine wl_storeE aQ rQ rQ fQ upD sQ ?_;intro wS hS)|(refine wl_storeE (e:=Frm.zeroE) (da:=none) (dn:=0) (dc:=0) aQ rQ rQ rfl upD sQ ?_;intro wS hS)))
  rw [Hf3.out]
  refine ⟨rfl,_,res_entE3 rfl aQ rQ pkD rfl,_,rfl,none,0,rfl,Sat.osl_nil.2 (Sat.sb hS)⟩
 subst hAB
 have Hf3:=uQ (Hf2.out.trans (if_neg (fun h=>h rfl)))
 clear Hf2
 by_cases h41:41≤N
 rotate_left
 ·have Hf4:=uQ (Hf3.out.trans (if_neg h41))
  have c9:¬ (41:Int)≤(N:Int):=oQ
  clear h41
  go_wp2_with (first|((with_reducible refine at_buildTag ⟨?_⟩);refine wl_buildTag rQ ?_)|((with_reducible refine at_allocE ⟨?_⟩);refine wl_allocE aQ ?_;intro bE wE hE)|((with_reducible refine at_storeE ⟨?_⟩);first|(refine wl_storeE aQ rQ rQ fQ upD sQ ?_;intro wS hS)|(refine wl_storeE (e:=Frm.zeroE) (da:=none) (dn:=0) (dc:=0) aQ rQ rQ rfl upD sQ ?_;intro wS hS))|((with_reducible refine at_loadE ⟨?_⟩);refine wl_loadE aQ rQ pkD fQ ?_))
  rw [Hf4.out]
  simp only [List.length_nil]
  refine ⟨rfl,_,res_entE3 rfl aQ rQ pkD rfl,_,rfl,none,0,rfl,Sat.osl_nil.2 (Sat.sb hS)⟩
 have Hf4:=uQ (Hf3.out.trans (if_pos h41))
 have Hkl:=uQ (show ((l.drop 9).take 32).length=32 by rw [List.length_take,List.length_drop];have:=HlN.out;omega)
 have Hkb:=uQ (show (bys ((l.drop 9).take 32)).length=32 by rw [bys_len];exact Hkl.out)
 have Hrange:=uQ (show ∀ w,Sat w0 w F→w.rangeAt bk (off+9) (bys ((l.drop 9).take 32)) from fun w hw=>by
  intro j y hj
  have hsb:=Hsub.out 9 41 dQ (by have:=HlN.out;omega) w hw
  have e:(l.take 41).drop 9=(l.drop 9).take 32:=by rw [List.drop_take]
  rw [e]at hsb
  obtain ⟨b',o',hb,hc⟩:=rdsl_cells hsb hj
  cases hb
  exact hc _ _ hj)
 have c9:(41:Int)≤(N:Int):=oQ
 have c10:¬ bc=9:=by have:=HlN.out;have:=Hbn.out;omega
 have c11:(41:Int)≤(bc:Int):=oQ
 obtain ⟨ad,had,hsl⟩:∃ ad:Addr,(41<N→ad=⟨bk,off+41,none⟩)∧∀ w,(Instr.sliceAt 42 (.slice (some ⟨bk,off,none⟩) l.length bc) (some (.int .i64 41)) (some (.int .i64 N)) none).run Tryz.prog w = .ok (.slice (some ad) (N - 41) (bc - 41)) w:=by
  by_cases hce:bc=41
  ·refine ⟨⟨bk,off,none⟩,fun hh=>by have:=HlN.out;have:=Hbn.out;omega,fun w=>?_⟩
   have c12:(N:Int)≤41:=oQ
   have c13:¬ (41:Int)<(N:Int):=oQ
   go_simp
  ·refine ⟨⟨bk,off+41,none⟩,fun _=>rfl,fun w=>?_⟩
   go_simp
 have Had:=uQ had
 have Hdat:=uQ (show ∀ w,Sat w0 w F→rdsl 1 (.slice (some ad) (N - 41) (bc - 41)) (bys ((l.take N).drop 41)) w from fun w hw=>by
  by_cases h2:41<N
  ·rw [Had.out h2];exact Hsub.out 41 N oQ HlN.out.1 w hw
  ·have:(l.take N).drop 41=[]:=List.drop_of_length_le (by rw [List.length_take];omega)
   rw [this,show N - 41=0 by omega]
   exact ⟨_,0,_,rfl,rfl,by simp [bys]⟩)
 clear h41 had
 have hat:=fun w=>run_arrKey ⟨bk,off+9,none⟩ (bc - 9) w
 go_wp2_with (first
  |((with_reducible refine at_buildTag ⟨?_⟩);refine wl_buildTag rQ ?_)|((with_reducible refine at_allocE ⟨?_⟩);refine wl_allocE aQ ?_;intro bE wE hE)|((with_reducible refine at_storeE ⟨?_⟩);first|(refine wl_storeE aQ rQ rQ fQ upD sQ ?_;intro wS hS)|(refine wl_storeE (e:=Frm.zeroE) (da:=none) (dn:=0) (dc:=0) aQ rQ rQ rfl upD sQ ?_;intro wS hS))
  |((with_reducible refine at_load ⟨?_⟩);refine wpList_load_mid rQ 41 _ rQ bk (off+9) rQ (bys ((l.drop 9).take 32)) _ (Hrange.out _ (Sat.sb aQ)) Tryz.underlying41 rfl (by rw [Hkb.out];kernel_rfl) ?_)
  |((with_reducible refine at_store ⟨?_⟩);refine wl_storeK (key:=(l.drop 9).take 32) aQ rQ rQ rfl Hkl.out upD ?_;intro wK hK)
  |((with_reducible refine at_slice2 ⟨?_⟩);refine wl_slice2 rQ rQ rQ hsl ?_))
 refine (clone_c hK (Hdat.out _ (hK.sb)) (by rw [List.length_drop,List.length_take];have:=Hl.out;omega)).mono ?_
 rintro ee w3 ⟨v,rfl,hS3,ca,cn,cc,rfl⟩
 have hcn:cn=((l.take N).drop 41).length:=by
  obtain ⟨_,_,_,he,hl',_⟩:=Sat.rd hS3
  cases he
  rw [bys_len,Nat.mul_one]at hl';exact hl'.symm
 subst hcn
 have Hkl2:=Hkl.out
 generalize (l.drop 9).take 32=key at *
 generalize (l.take N).drop 41=data at *
 go_wp2_with (first
  |((with_reducible refine at_store ⟨?_⟩);refine wl_storeD (e:=⟨(tg.toNat:Int),key,[]⟩) (data:=data) aQ rQ rQ Hkl2 upD ?_;intro wD hD)
  |((with_reducible refine at_loadE ⟨?_⟩);refine wl_loadE aQ rQ pkD fQ ?_)|((with_reducible refine at_storeE ⟨?_⟩);first|(refine wl_storeE aQ rQ rQ fQ upD sQ ?_;intro wS hS)|(refine wl_storeE (e:=Frm.zeroE) (da:=none) (dn:=0) (dc:=0) aQ rQ rQ rfl upD sQ ?_;intro wS hS)))
 rw [Hf4.out]
 simp only
 refine ⟨rfl,_,res_entE3 rfl aQ rQ pkD Hkl2,_,rfl,ca,cc,rfl,Sat.sb hS⟩
end
end Go.Proofs.YtmjldaedhmipkaaGreatDoor
namespace Go.Frm
structure Fnd where
 e:Ent
 at_:Nat
 size:Nat
def scanL:Nat→Bs→Nat→List Fnd×Nat×Int
 |0,_,at_=>([],at_,0)
 |k+1,b,at_=>
  if b=[] then ([],at_,0)
  else if (read b).2.2≠0 then ([],at_,(read b).2.2)
  else (⟨(read b).1,at_,(read b).2.1⟩::(scanL k (b.drop (read b).2.1) (at_+(read b).2.1)).1,(scanL k (b.drop (read b).2.1) (at_+(read b).2.1)).2)
def magicB:Bs:=[72,79,65,82,68,83,69,71]
def scan (b:Bs):List Fnd×Nat×Int:=if b.take 8=magicB then scanL b.length (b.drop 8) 8 else ([],0,4)
end Go.Frm
namespace Go.Proofs.YtmjldaedhmipkaaGreatDoor
open Go Go.Sl Go.Med Go.MapKept Go.RowKit
section
variable {w0 w:World}{F R:List HProp}{v bv dv x lv av:Value}
theorem rdsl_text {l:Bs} (h:rdsl 1 v (bys l) w):(convert 42 9 v).run Tryz.prog w = .ok (.string ⟨l.toArray⟩) w:=by
 obtain ⟨a,n,c,rfl,hl,hx⟩:=h
 rw [bys_len,Nat.mul_one]at hl
 subst hl
 cases a with
 |none=>
  obtain rfl:l=[]:=by
   cases l with
   |nil=>rfl
   |cons d l=>obtain ⟨b,hb,_⟩:=hx 0 _ rfl;cases hb
  exact Lib.run_convert_nil_bytes (P:=Tryz.prog) w _ _ 5 c Tryz.underlying42 Tryz.underlying5 Tryz.underlying9
 |some ad=>
  refine run_convert_bytes_back (P:=Tryz.prog) w _ _ 5 ad c l Tryz.underlying42 Tryz.underlying5 Tryz.underlying9 (fun j hj=>?_)
  have hy:(bys l)[j]?=some (.int .u8 (l[j]'hj).toNat):=by unfold bys;rw [List.getElem?_map,List.getElem?_eq_getElem hj];rfl
  obtain ⟨b,hb,hc⟩:=hx _ _ hy
  cases hb
  simpa using hc
theorem bequal_c (la lb:Bs) (ha:rdsl 1 av (bys la) w) (hb:rdsl 1 bv (bys lb) w) :
  Calls Tryz.prog 168 #[av,bv] w (Rtn fun v w'=>v = .bool (decide (la=lb))∧w=w'):=by
 have h1:=rdsl_text ha
 have h2:=rdsl_text hb
 have He:=uQ (show ((la.toArray.toList:List UInt8)==lb.toArray.toList)=decide (la=lb) by
  rw [Bool.eq_iff_iff,beq_iff_eq,decide_eq_true_eq])
 clear ha hb
 go_enter Tryz.func168,Tryz.ntmps168
 go_wp2
 go_ret
 rw [← He.out]
 exact ⟨_,rfl,rfl,rfl⟩
theorem hasPrefix_c (l lp:Bs) (a:Option Addr) (n c:Nat) (hn:n≤c) (hc:c≤9223372036854775807) (ha:rdsl 1 (.slice a n c) (bys l) w) (pa:Option Addr) (pn pc:Nat) (hp:rdsl 1 (.slice pa pn pc) (bys lp) w) :
  Calls Tryz.prog 151 #[.slice a n c,.slice pa pn pc] w (Rtn fun v w'=>v = .bool (decide (l.take lp.length=lp))∧w=w'):=by
 have hln:n=l.length:=by
  obtain ⟨_,_,_,he,hl',_⟩:=ha
  cases he
  rw [bys_len,Nat.mul_one]at hl';exact hl'.symm
 have hpn:pn=lp.length:=by
  obtain ⟨_,_,_,he,hl',_⟩:=hp
  cases he
  rw [bys_len,Nat.mul_one]at hl';exact hl'.symm
 subst hln hpn
 by_cases hle:lp.length≤l.length
 ·have h4:=rdsl_cut4 (k:=lp.length) ha
  rw [show min l.length lp.length=lp.length by omega]at h4
  have hq:=bequal_c _ _ h4 hp
  have c1:(lp.length:Int)≤(l.length:Int):=oQ
  have c2:(lp.length:Int)≤(c:Int):=oQ
  have c3:lp.length≤l.length:=hle
  clear h4 ha hp
  go_enter Tryz.func151,Tryz.ntmps151
  go_wp2_with (go_at_call 168;refine hq.mono ?_;rintro e w1 ⟨v,rfl,rfl,rfl⟩)
  go_ret
  exact ⟨_,rfl,rfl,rfl⟩
 ·have c1:¬ lp.length≤l.length:=hle
  have c2:decide ((lp.length:Int)≤(l.length:Int))=false:=decide_eq_false oQ
  have He:=uQ (show decide (l.take lp.length=lp)=false by
   apply decide_eq_false
   intro hh
   have:=congrArg List.length hh
   rw [List.length_take]at this
   omega)
  clear ha hp
  go_enter Tryz.func151,Tryz.ntmps151
  go_wp2
  go_ret
  rw [He.out]
  exact ⟨_,rfl,rfl,rfl⟩
end
end Go.Proofs.YtmjldaedhmipkaaGreatDoor
namespace Go.Frm
def cutE (long:Nat) (x:Ent):Ent:=⟨x.tag,x.key,x.data.take long⟩
def few (l:List Ent) (n long:Nat):List Ent:=(l.take n).map (cutE long)
end Go.Frm
namespace Go.Proofs.YtmjldaedhmipkaaGreatDoor
open Go Go.Sl Go.Med Go.MapKept Go.RowKit
section
variable {w0 w:World}{F R:List HProp}{v bv dv x lv:Value}
theorem rdsl_cut {k:Nat}{l:Bs}{a:Option Addr}{n c:Nat} (h:rdsl 1 (.slice a n c) (bys l) w):rdsl 1 (.slice a (min n k) c) (bys (l.take k)) w:=by
 obtain ⟨a',n',c',he,hl,hx⟩:=h
 cases he
 rw [bys_len,Nat.mul_one]at hl
 refine ⟨a,_,c,rfl,by rw [bys_len,List.length_take];omega,fun j y hj=>?_⟩
 have hj':(bys l)[j]?=some y:=by
  unfold bys at hj ⊢
  rw [List.map_take,List.getElem?_take]at hj
  split at hj
  ·exact hj
  ·cases hj
 exact hx j y hj'
theorem dataS_snoc (es:List (Frm.Ent×Value)) (x:Frm.Ent) (dv:Value):dataS (es++[(x,dv)])=star (bsl dv x.data) (dataS es):=by
 unfold dataS
 rw [List.map_append,stars_append,star_comm]
 show star (stars [bsl dv x.data]) _=_
 rw [stars_one]
theorem entA_one (e:Frm.Ent) (a:Option Addr) (n c:Nat):(entA e (.slice a n c)).toList.all (·.oneCell')=true:=by
 unfold entA entL
 rw [List.toList_toArray,List.all_cons,List.all_append]
 have:(bys e.key).all (·.oneCell')=true:=List.all_eq_true.2 (bys_one _)
 rw [this];rfl
structure EntRo (w0:World) (F:List HProp) (p:Frm.Ent×Value):Prop where
 key:p.1.key.length=32
 rd:Ro w0 F (rdsl 1 p.2 (bys p.1.data))
 cap:capOk p.2
theorem few_keys {es fs:List (Frm.Ent×Value)}{i long:Nat} (h:fs.map (·.1)=((es.map (·.1)).take i).map (Frm.cutE long)) (hk:∀ p∈es,p.1.key.length=32):∀ p∈fs,p.1.key.length=32:=by
 intro p hp
 have h1:p.1∈fs.map (·.1):=List.mem_map.2 ⟨p,hp,rfl⟩
 rw [h,List.mem_map]at h1
 obtain ⟨x,hx,he⟩:=h1
 obtain ⟨q,hq,rfl⟩:=List.mem_map.1 (List.mem_of_mem_take hx)
 rw [← he]
 exact hk q hq
set_option maxRecDepth 20000 in
theorem few_c (es:List (Frm.Ent×Value)) (n long:Nat) (hlong:long≤1099511627776) (hn:n≤1048576) (hr:Ro w0 F (rdsl 34 lv (entsL es))) (he:∀ p∈es,EntRo w0 F p) (h:Sat w0 w F) :
  Calls Tryz.prog 62 #[lv,.int .i64 n,.int .i64 long] w (Rtn fun v w'=>∃ fs:List (Frm.Ent×Value),fs.map (·.1)=Frm.few (es.map (·.1)) n long∧Sat w0 w' (osl 44 34 v (entsL fs)::dataS fs::F)):=by
 obtain ⟨la,ln,lc,rfl,hl,_⟩:=hr w h
 rw [entsL_len (fun p hp=>(he p hp).key)]at hl
 obtain rfl:ln=es.length:=by omega
 have Hr:=uQ hr;have He:=uQ he;have Hlong:=uQ hlong;have Hn:=uQ hn
 clear hr he hl hn
 go_enter Tryz.func62,Tryz.ntmps62
 go_wp2_with fail
 go_loopg [8,7] es.length (fun g iq ov wr=>∃ (i:Nat) (fs:List (Frm.Ent×Value)),g=es.length - i∧i≤es.length∧i≤n∧iq = .int .i64 i∧fs.map (·.1)=((es.map (·.1)).take i).map (Frm.cutE long) ∧
  Sat w0 wr (osl 44 34 ov (entsL fs)::dataS fs::F))
 case atStart=>exact ⟨0,[],rfl,Nat.zero_le _,Nat.zero_le _,rfl,rfl,Sat.osl_nil.2 (Sat.emp.2 h)⟩
 case round=>
  obtain ⟨i,fs,rfl,hi,hin,rfl,hfs,hS⟩:=hrel
  have Hfs:=uQ hfs;have Hi:=uQ hi;have Hin:=uQ hin
  clear h hfs hi hin
  by_cases hlt:i<es.length∧i<n
  ·obtain ⟨hl1,hl2⟩:=hlt
   have c1:(i:Int)<(es.length:Int):=oQ
   have c2:(i:Int)<(n:Int):=oQ
   have hwi:IntKind.i64.wrap ((i:Int)+1)=(i:Int)+1:=IntWalk.i64_in _ (by have:=Hn.out;omega)
   have Hl1:=uQ hl1;have Hl2:=uQ hl2
   have Hfk:=uQ (few_keys Hfs.out (fun p hp=>(He.out p hp).key))
   clear hl1 hl2
   obtain ⟨x,hx⟩:∃ x,es[i]?=some x:=⟨_,List.getElem?_eq_getElem Hl1.out⟩
   have hxe:=He.out x (List.mem_of_getElem? hx)
   have hk:∀ p∈es,p.1.key.length=32:=fun p hp=>(He.out p hp).key
   have hcut:=uQ (show fs.map (·.1)++[Frm.cutE long x.1]=((es.map (·.1)).take (i+1)).map (Frm.cutE long) by
    rw [Hfs.out,List.take_add_one,List.map_append,List.getElem?_map,hx];rfl)
   have hrF:Ro w0 (osl 44 34 u7 (entsL fs)::dataS fs::F) (rdsl 34 (.slice la es.length lc) (entsL es)):=Ro.os Hr.out
   obtain ⟨bk,off,rfl,_⟩:=rdsl_cells (hrF _ hS) (entsL_at hk hx (entL_at0 _ _))
   have HG:=uQ (show ∀ w' L,Ro w0 L (rdsl 34 (.slice (some ⟨bk,off,none⟩) es.length lc) (entsL es))→Sat w0 w' L→w'.cell? ⟨bk,off+i * 34,none⟩=some (.int .i64 x.1.tag)∧w'.rangeAt bk (off+i * 34+1) (bys x.1.key)∧w'.cell? ⟨bk,off+i * 34+33,none⟩=some x.2 by
    intro w' L hL hw
    obtain ⟨bk',off',hbo,hcell⟩:=rdsl_cells (hL w' hw) (entsL_at hk hx (entL_at0 _ _))
    cases hbo
    refine ⟨hcell _ _ (entsL_at hk hx (entL_at0 _ _)),fun j y hj=>?_,?_⟩
    ·have:=hcell _ _ (entsL_at hk hx (entL_key _ x.2 hj))
     rw [show off+(i * 34+(1+j))=off+i * 34+1+j by omega]at this
     exact this
    ·have:=hcell _ _ (entsL_at hk hx (entL_at33 _ _ hxe.key))
     rw [show off+(i * 34+33)=off+i * 34+33 by omega]at this
     exact this)
   obtain ⟨⟨tag,key,data⟩,dv⟩:=x
   obtain ⟨da,dn,dc,rfl,hdn,hdc⟩:=hxe.cap
   have hdl:dn=data.length:=by
    obtain ⟨a',n',c',he,hl,_⟩:=hxe.rd _ (hS.sb)
    cases he
    rw [bys_len,Nat.mul_one]at hl;exact hl.symm
   have Hrd:=uQ hxe.rd;have Hkey:=uQ (show key.length=32 from hxe.key)
   have hks:(bys key).length=32:=by rw [bys_len];exact Hkey.out
   have Hks:=uQ hks
   have hcap:capOk (.slice da dn dc):=hxe.cap
   clear hx hxe hk hrF hks hcap
   go_wp2_with fail
   refine wpL_begin [19,20,21,22] (fun w'=>w'.cell? ⟨bk,off+i * 34,none⟩=some (.int .i64 tag)∧w'.rangeAt bk (off+i * 34+1) (bys key)∧w'.cell? ⟨bk,off+i * 34+33,none⟩=some (.slice da dn dc)) kQ ?_
   have hG:=HG.out _ _ (Ro.os Hr.out) hS.drew
   refine rP 0 ?_ (y:=mvQ)
   refine rP 1 ?_ (y:=mvQ)
   refine rP 2 ?_ (y:=mvQ)
   refine rP 3 ?_ (y:=ixQ)
   refine rP 4 ?_ (y:=flQ)
   refine rt 5 (h:=?_)
   refine rP 6 ?_ (y:=mvQ)
   refine rP 7 ?_ (y:=mvQ)
   refine rP 8 ?_ (y:=ixQ)
   refine rP 9 ?_ (y:=flQ)
   refine rg_take 10 evD kQ iQ (tk_loadN (b:=bk) (o:=off+i * 34+1) (bys key) rQ Tryz.underlying41 rfl (by rw [Hks.out];kernel_rfl) (fun w hw=>hw.2.1)) aQ gQ ?_
   refine rP 11 ?_ (y:=mvQ)
   refine rP 12 ?_ (y:=mvQ)
   refine rP 13 ?_ (y:=ixQ)
   refine rP 14 ?_ (y:=flQ)
   refine rt 15 (h:=?_)
   refine rP 16 ?_ (y:=mvQ)
   clear hG
   refine rg_eff 17 evD kQ (fun K hK=>?_)
   (refine eff_call2 kQ evD evD ?_)
   refine (cut_c da dn dc long hdn hdc _).mono ?_
   rintro e w3 ⟨v,rfl,rfl,rfl⟩
   refine hK _ _ (.inr (.inr rfl)) ?_
   clear hK K
   refine rg_eff 18 evD kQ (fun K hK=>?_)
   (refine eff_call1 kQ evD ?_)
   refine (copy_c hS.drew (data.take long) (rdsl_cut ((Ro.os Hrd.out) _ hS.drew)) (by rw [List.length_take];have:=Hlong.out;omega)).mono ?_
   rintro e w4 ⟨v,rfl,hS4,ca,cn,cc,rfl⟩
   refine hK _ _ (.inr (.inl (HG.out _ _ (Ro.os Hr.out) hS4))) ?_
   clear hK K
   refine rP 19 ?_ (y:=(yl_build3 evD evD evD (fun w=>run_buildEnt ⟨tag,key,data.take long⟩ Hkey.out ca cn cc w)))
   refine rg_eff 20 evD kQ (fun K hK=>?_)
   refine eff_build1 (e:=44) (sz:=34) (by':=64) kQ hS4 evD (cs:=entA ⟨tag,key,data.take long⟩ (.slice ca cn cc)) rfl (entA_size _ _ Hkey.out) bQ ?_
   intro bN w5 hN
   refine hK _ _ (.inl rfl) ?_
   clear hK K hS4
   have hlen:(entsL fs).length≤2147483648:=by
    rw [entsL_len Hfk.out]
    have:=congrArg List.length Hfs.out
    simp only [List.length_map,List.length_take]at this
    have:=Hn.out;have:=Hin.out;omega
   refine rg_eff 21 evD kQ (fun K hK=>?_)
   refine eff_app 44 34 64 kQ hN rQ rQ pkD pkD ((entA_size _ _ Hkey.out).trans dQ) (Nat.le_refl 1) (entA_one _ _ _ _) hlen (by rw [entA_size _ _ Hkey.out];decide) dQ rfl ?_
   intro bA nA cA w6 hA
   refine hK _ _ (.inl rfl) ?_
   clear hK K hN hlen
   refine rP 22 ?_ (y:=asQ)
   refine wdQ ?_
   go_wp2_with fail
   go_roundg (es.length - (i+1))
   case measure=>have:=Hl1.out;omega
   case rel=>
    refine ⟨i+1,fs++[(⟨tag,key,data.take long⟩,.slice ca cn cc)],rfl,Nat.succ_le_of_lt Hl1.out,Nat.succ_le_of_lt Hl2.out,by first|rfl|go_num,?_,?_⟩
    ·rw [← hcut.out,List.map_append];rfl
    ·rw [entsL_app,dataS_snoc]
     have h9:Sat w0 w6 (osl 44 34 (.slice (some ⟨bA,0,none⟩) nA cA) (entsL fs++entsL [(⟨tag,key,data.take long⟩,.slice ca cn cc)])::bsl (.slice ca cn cc) (data.take long)::dataS fs::F):=by
      have e:entsL [((⟨tag,key,data.take long⟩:Frm.Ent),Value.slice ca cn cc)]=(entA ⟨tag,key,data.take long⟩ (.slice ca cn cc)).toList:=by
       unfold entsL entA;simp
      rw [e]
      exact Sat.sb hA
     have h10:Sat w0 w6 (bsl (.slice ca cn cc) (data.take long)::dataS fs::osl 44 34 (.slice (some ⟨bA,0,none⟩) nA cA) (entsL fs++entsL [(⟨tag,key,data.take long⟩,.slice ca cn cc)])::F):=h9.sb
     exact (Sat.star.2 h10).pick1
  ·have hfin:fs.map (·.1)=Frm.few (es.map (·.1)) n long:=by
    rw [Hfs.out]
    unfold Frm.few
    congr 1
    have:=Hi.out;have:=Hin.out
    by_cases hh:i=n
    ·rw [hh]
    ·rw [List.take_of_length_le (by rw [List.length_map];omega),List.take_of_length_le (by rw [List.length_map];omega)]
   by_cases hl1:i<es.length
   ·have c1:(i:Int)<(es.length:Int):=by omega
    have c2:¬ (i:Int)<(n:Int):=oQ
    have Hfin:=uQ hfin
    clear hfin hlt hl1
    go_wp2
    go_ret
    exact ⟨_,rfl,fs,Hfin.out,hS⟩
   ·have c1:¬ (i:Int)<(es.length:Int):=by omega
    have Hfin:=uQ hfin
    clear hfin hlt hl1
    go_wp2
    go_ret
    exact ⟨_,rfl,fs,Hfin.out,hS⟩
end
end Go.Proofs.YtmjldaedhmipkaaGreatDoor
namespace Go.Frm
theorem read_ok {b:Bs} (h:(read b).2.2=0):9≤(read b).2.1∧(read b).2.1≤b.length∧(read b).1.key.length=32:=by
 unfold read at *
 dsimp only at *
 split at h
 ·simp at h
 rename_i h9
 rw [if_neg h9]
 split at h
 ·simp at h
 rename_i hf
 rw [if_neg hf]
 split at h
 ·simp at h
 rename_i hl
 rw [if_neg hl]
 split at h
 ·simp at h
 rename_i hc
 rw [if_neg hc]
 have hfit:fits (b.getD 8 0) (num ((b.drop 4).take 4))=true:=by
  cases hh:fits (b.getD 8 0) (num ((b.drop 4).take 4)) with
  |true=>rfl
  |false=>exact absurd hh hf
 have h9':9≤num ((b.drop 4).take 4):=by
  unfold fits at hfit
  split at hfit
  ·have:=of_decide_eq_true hfit;omega
  ·split at hfit
   ·have:=of_decide_eq_true hfit;omega
   ·split at hfit
    ·have:=of_decide_eq_true hfit;omega
    ·cases hfit
 split
 ·rename_i h41
  refine ⟨h9',Nat.not_lt.1 hl,?_⟩
  simp only [List.length_take,List.length_drop]
  omega
 ·exact ⟨h9',Nat.not_lt.1 hl,rfl⟩
theorem read_key (b:Bs):(read b).1.key.length=32:=by
 unfold read
 dsimp only
 split
 ·rfl
 split
 ·rfl
 split
 ·rfl
 split
 ·rfl
 rename_i h9 hf hl hc
 split
 ·rename_i h41
  simp only [List.length_take,List.length_drop]
  omega
 ·rfl
end Go.Frm
namespace Go.Proofs.YtmjldaedhmipkaaGreatDoor
open Go Go.Sl Go.Med Go.MapKept Go.RowKit
def fndL (f:Frm.Fnd) (dv:Value):List Value:=entL f.e dv++[.int .i64 f.at_,.int .i64 f.size]
def fndA (f:Frm.Fnd) (dv:Value):Array Value:=(fndL f dv).toArray
def fndsL (fs:List (Frm.Fnd×Value)):List Value:=fs.flatMap fun p=>fndL p.1 p.2
def dataF (fs:List (Frm.Fnd×Value)):HProp:=stars (fs.map fun p=>bsl p.2 p.1.e.data)
theorem fndL_len (f:Frm.Fnd) (dv:Value) (hk:f.e.key.length=32):(fndL f dv).length=36:=by unfold fndL;rw [List.length_append,entL_len _ _ hk];rfl
theorem fndA_size (f:Frm.Fnd) (dv:Value) (hk:f.e.key.length=32):(fndA f dv).size=36:=by unfold fndA;rw [List.size_toArray,fndL_len _ _ hk]
theorem fndsL_len {fs:List (Frm.Fnd×Value)} (hk:∀ p∈fs,p.1.e.key.length=32):(fndsL fs).length=36 * fs.length:=by
 unfold fndsL
 induction fs with
 |nil=>rfl
 |cons p fs ih=>
  rw [List.flatMap_cons,List.length_append,ih (fun q hq=>hk q (.tail _ hq)),fndL_len _ _ (hk p (.head _)),List.length_cons];omega
theorem fndsL_app (es fs:List (Frm.Fnd×Value)):fndsL (es++fs)=fndsL es++fndsL fs:=by unfold fndsL;rw [List.flatMap_append]
theorem dataF_snoc (es:List (Frm.Fnd×Value)) (x:Frm.Fnd) (dv:Value):dataF (es++[(x,dv)])=star (bsl dv x.e.data) (dataF es):=by
 unfold dataF
 rw [List.map_append,stars_append,star_comm]
 show star (stars [bsl dv x.e.data]) _=_
 rw [stars_one]
theorem plFnd:placesB Tryz.prog 203=some [(0,34),(34,1),(35,1)]:=by kernel_rfl
def zeroF:Frm.Fnd:=⟨Frm.zeroE,0,0⟩
theorem zFnd:zeroB Tryz.prog 203=some (.agg (fndA zeroF (.slice none 0 0))):=by kernel_rfl
theorem puts3f (cs:Array Value) (hs:cs.size=36) (el:List Value) (u v:Value) (hk:el.length=34):(putsAt (putsAt (putsAt cs 0 el) 34 [u]) 35 [v]).toList=el++[u,v]:=by
 have hcl:cs.toList.length=36:=by simpa using hs
 have e1:(putsAt cs 0 el).toList=el++cs.toList.drop 34:=by
  rw [putsAt_list _ _ _ oQ,List.take_zero,List.nil_append,Nat.zero_add,hk]
 have e2:(putsAt (putsAt cs 0 el) 34 [u]).toList=el++[u]++cs.toList.drop 35:=by
  rw [putsAt_list _ _ _ (by rw [putsAt_size];simp;omega),e1,List.take_append_of_le_length oQ,List.take_of_length_le oQ,List.length_singleton,List.drop_append,hk,List.drop_of_length_le (l:=el) oQ,List.nil_append,List.drop_drop]
 have h3:(el++[u]).length=35:=by simp [hk]
 rw [putsAt_list _ _ _ (by rw [putsAt_size,putsAt_size];simp;omega),e2,List.take_append_of_le_length oQ,List.take_of_length_le oQ,List.length_singleton,List.drop_of_length_le (by rw [List.length_append,h3,List.length_drop];omega)]
 simp
set_option maxRecDepth 20000 in
theorem run_buildFnd (e:Frm.Ent) (hk:e.key.length=32) (da:Option Addr) (dn dc:Nat) (at_ n:Nat) (w:World) :
  (Instr.build 203 #[(0,.agg (entA e (.slice da dn dc))),(1,.int .i64 at_),(2,.int .i64 n)]).run Tryz.prog w = .ok (.agg (fndA ⟨e,at_,n⟩ (.slice da dn dc))) w:=by
 have hz:(fndA zeroF (.slice none 0 0)).size=36:=fndA_size _ _ rfl
 have he:(entA e (.slice da dn dc)).size=34:=entA_size _ _ hk
 have h:=run_build (P:=Tryz.prog) [(0,.agg (entA e (.slice da dn dc))),(1,.int .i64 at_),(2,.int .i64 n)] plFnd zFnd (by
  intro p hp
  simp only [List.mem_cons,List.not_mem_nil,or_false]at hp
  have hzz:(Value.agg (fndA zeroF (.slice none 0 0))).cells.size=36:=hz
  rw [hzz]
  rcases hp with rfl|rfl|rfl
  ·refine ⟨0,?_,?_⟩
   ·show some (0,34)=some (0,(entA e (.slice da dn dc)).size);rw [he]
   ·show 0+(entA e (.slice da dn dc)).size≤36;omega
  ·exact ⟨34,rfl,by show 34+1≤36;omega⟩
  ·exact ⟨35,rfl,by show 35+1≤36;omega⟩) w
 refine h.trans ?_
 congr 2
 apply putsAt_eq
 exact puts3f _ hz _ _ _ (show (entA e (.slice da dn dc)).toList.length=34 by rw [Array.length_toList,he])
section
variable {w0 w:World}{L L' R:List HProp}{b:Nat}{ops:Array Oper}{rest:List Oper}{a:Act}{Q:Exit→Act→World→Prop}
variable {dst:Option Tmp}{t T ty:TypeId}{pos:String}{after:Array Edge}{x y z:Operand}{cs:Array Value}{v v1 v2 v3:Value}{i1 i2 i3:Nat}{P:Program}
theorem wl_build3 (h1:a.eval x=v1) (h2:a.eval y=v2) (h3:a.eval z=v3) (hr:∀ w,(Instr.build ty #[(i1,v1),(i2,v2),(i3,v3)]).run P w = .ok v w) (h:wpList P ops Q rest (a.put dst v) w) :
  wpList P ops Q (⟨dst,.build ty #[(i1,x),(i2,y),(i3,z)],t,pos,after,none⟩::rest) a w:=
 wpList_plain rfl fun _ hK=>by
  unfold Oper.wp execOp
  simp only [List.map_toArray,List.map_cons,List.map_nil,h1,h2,h3,Sem.run_bind,hr,Result.andThen_ok,Sem.run_pure]
  exact hK _ _ h
theorem at_build3 (h:Stop (wpList P ops Q (⟨dst,.build ty #[(i1,x),(i2,y),(i3,z)],t,pos,after,none⟩::rest) a w)):wpList P ops Q (⟨dst,.build ty #[(i1,x),(i2,y),(i3,z)],t,pos,after,none⟩::rest) a w:=h.out
theorem fndA_ones (f:Frm.Fnd) (a:Option Addr) (n c:Nat):(fndA f (.slice a n c)).toList.all (·.oneCell')=true:=by
 unfold fndA fndL
 rw [List.toList_toArray,List.all_append]
 have h1:(entL f.e (.slice a n c)).all (·.oneCell')=true:=by
  have:=entA_one f.e a n c
  unfold entA at this
  rwa [List.toList_toArray]at this
 rw [h1];rfl
end
end Go.Proofs.YtmjldaedhmipkaaGreatDoor
namespace Go.Seg
def Log.next (L:Log):Int:=match L.l.getLast? with
 |none=>0
 |some s=>s.1+1
end Go.Seg
namespace Go.Proofs.YtmjldaedhmipkaaGreatDoor
open Go Go.Sl Go.Med Go.MapKept Go.RowKit
section
variable {w0 w:World}{F:List HProp}{v bv dv x lv:Value}{q p m K:Nat}{L:Seg.Log}{M:Med}
theorem segw_at (l:List (Int×Int)) (i:Nat) (s:Int×Int) (h:l[i]?=some s):(segw l)[2 * i]?=some (.int .i64 s.1)∧(segw l)[2 * i+1]?=some (.int .i64 s.2):=by
 induction l generalizing i with
 |nil=>simp at h
 |cons a l ih=>
  cases i with
  |zero=>
   obtain rfl:a=s:=by simpa using h
   exact ⟨rfl,rfl⟩
  |succ i=>
   have e1:segw (a::l) = .int .i64 a.1 :: .int .i64 a.2::segw l:=rfl
   have h':l[i]?=some s:=by simpa using h
   rw [e1,show 2 * (i+1)=2 * i+1+1 by omega]
   exact ih i h'
theorem last_cells {s:Int×Int} (hl:L.l.getLast?=some s) (h:Sat w0 w (logPt p m L lv::osl 145 2 lv (segw L.l)::F)) :
  ∃ bk n c,lv = .slice (some ⟨bk,0,none⟩) (n+1) c∧L.l.length=n+1∧w.cell? ⟨bk,2 * n,none⟩=some (.int .i64 s.1)∧w.cell? ⟨bk,2 * n+1,none⟩=some (.int .i64 s.2):=by
 rw [List.getLast?_eq_getElem?]at hl
 have hlt:=(List.getElem?_eq_some_iff.1 hl).1
 obtain ⟨n,hn⟩:∃ n,L.l.length=n+1:=⟨L.l.length - 1,by omega⟩
 rw [hn,Nat.add_sub_cancel]at hl
 obtain ⟨h1,h2⟩:=segw_at _ _ _ hl
 have hS:Sat w0 w (osl 145 2 lv (segw L.l)::logPt p m L lv::F):=h.pick1
 rcases hS.osl_cases with ⟨rfl,hx,_⟩|⟨b,n',cap,cs,rfl,hll,hn',hc,hcm,htk,hp⟩
 ·rw [hx]at h1;simp at h1
 ·rw [segw_len,hn]at hll
  obtain rfl:n'=n+1:=by omega
  exact ⟨b,n,cap,rfl,hn,hp.cellAt _ _ (take_get htk h1),hp.cellAt _ _ (take_get htk h2)⟩
theorem snext_c (hlen:L.l.length≤1048576) (hb:∀ s∈L.l,0≤s.1∧s.1<1048576) (h:Sat w0 w (logPt p m L lv::osl 145 2 lv (segw L.l)::F)) :
  Calls Tryz.prog 102 #[ptr p] w (Rtn fun v w'=>v = .int .i64 L.next∧Sat w0 w' (logPt p m L lv::osl 145 2 lv (segw L.l)::F)):=by
 cases hl:L.l.getLast? with
 |none=>
  have hnil:=List.getLast?_eq_none_iff.1 hl
  refine (next0_c hnil h).mono ?_
  rintro e w1 ⟨v,rfl,rfl,rfl⟩
  exact ⟨_,rfl,by unfold Seg.Log.next;rw [hl],h⟩
 |some s=>
  have Hfin:=uQ (show L.next=s.1+1 by unfold Seg.Log.next;rw [hl])
  have hs:=hb s (List.mem_of_getLast? hl)
  obtain ⟨bk,n,c,rfl,hn,c1,c2'⟩:=last_cells hl h
  have hok:=ok_c h
  have c2:=h.cellAt 2 _ rfl
  have hS:=h.drew
  have c1':w.drew.cell? ⟨bk,n * 2,none⟩=some (.int .i64 s.1):=by rw [Nat.mul_comm];exact c1
  have hwn:IntKind.i64.wrap (n:Int)=(n:Int):=by rw [IntKind.wrap_i64];omega
  have hn0:(n:Int)<(n:Int)+1:=oQ
  have cd:w.drew.cell? ⟨p,2,none⟩=some (.slice (some ⟨bk,0,none⟩) (n+1) c):=c2
  have hw1:IntKind.i64.wrap (s.1+1)=s.1+1:=by rw [IntKind.wrap_i64];omega
  have Hs:=uQ hs;have Hn:=uQ hn
  clear hs hn hb hlen hl c2'
  go_enter Tryz.func102,Tryz.ntmps102
  go_wp2_with (go_at_call 68;refine hok.mono ?_;rintro e w1 ⟨v,rfl,rfl,rfl⟩)
  go_region
  go_wp2
  go_ret
  exact ⟨_,rfl,by rw [Hfin.out];rfl,hS⟩
end
end Go.Proofs.YtmjldaedhmipkaaGreatDoor
namespace Go.Seg
open Go.Med
structure Plc where
 seg:Int
 at_:Int
 size:Int
def Plc.zero:Plc:=⟨0,0,0⟩
def mag:Bs:=[72,79,65,82,68,83,69,71]
def Log.grow (L:Log) (M:Med) (b:Bs):(Log×Med)×Plc×Int:=
 match L.l.getLast? with
 |none=>((L,M),Plc.zero,0)
 |some s=>
  if (M.append (name s.1) b).2=0 then (({ L with l:=L.l.dropLast++[(s.1,s.2+(b.length:Int))] },(M.append (name s.1) b).1),⟨s.1,s.2,b.length⟩,0)
  else ((L,(M.append (name s.1) b).1),Plc.zero,(M.append (name s.1) b).2)
def Log.shut (L:Log) (M:Med):(Log×Med)×Int:=
 match L.l.getLast? with
 |none=>((L,M),0)
 |some s=>
  if L.on=true then
   if (M.sync (name s.1)).2=0 then (({ L with on:=false },(M.sync (name s.1)).1),0)
   else ((L,(M.sync (name s.1)).1),(M.sync (name s.1)).2)
  else ((L,M),0)
def Log.begin1 (L:Log) (M:Med) (b:Bs):(Log×Med)×Plc×Int:=
 if 1048576≤L.next then ((L,M),Plc.zero,16)
 else if (M.create (name L.next)).2≠0 then ((L,(M.create (name L.next)).1),Plc.zero,(M.create (name L.next)).2)
 else if ((M.create (name L.next)).1.append (name L.next) (mag++b)).2=0 then
  (({ L with l:=L.l++[(L.next,8+(b.length:Int))],on:=true,fresh:=L.fresh+1 },((M.create (name L.next)).1.append (name L.next) (mag++b)).1),⟨L.next,8,b.length⟩,0)
 else if ((M.create (name L.next)).1.append (name L.next) (mag++b)).2=11 then
  ((L,(((M.create (name L.next)).1.append (name L.next) (mag++b)).1.remove (name L.next)).1),Plc.zero,
   if (((M.create (name L.next)).1.append (name L.next) (mag++b)).1.remove (name L.next)).2=0 then 11 else (((M.create (name L.next)).1.append (name L.next) (mag++b)).1.remove (name L.next)).2)
 else ((L,((M.create (name L.next)).1.append (name L.next) (mag++b)).1),Plc.zero,((M.create (name L.next)).1.append (name L.next) (mag++b)).2)
def Log.begin (L:Log) (M:Med) (b:Bs):(Log×Med)×Plc×Int:=
 if (L.shut M).2=0 then (L.shut M).1.1.begin1 (L.shut M).1.2 b else ((L.shut M).1,Plc.zero,(L.shut M).2)
def Log.fits (L:Log) (n:Nat):Bool:=L.on && decide ((L.l.getLast?.map (·.2)).getD 0+n≤L.limit)
def Log.append (L:Log) (M:Med) (x:Frm.Ent):(Log×Med)×Plc×Int:=
 if (Frm.encode x).2≠0 then ((L,M),Plc.zero,(Frm.encode x).2)
 else if L.fits (Frm.encode x).1.length=true then L.grow M (Frm.encode x).1 else L.begin M (Frm.encode x).1
def comEnt:Frm.Ent:=⟨2,Frm.zero32,[]⟩
def Log.commit (L:Log) (M:Med):(Log×Med)×Int×Int:=
 if (L.append M comEnt).2.2≠0 then ((L.append M comEnt).1,0,(L.append M comEnt).2.2)
 else if ((L.append M comEnt).1.2.sync (name (L.append M comEnt).2.1.seg)).2≠0 then (((L.append M comEnt).1.1,((L.append M comEnt).1.2.sync (name (L.append M comEnt).2.1.seg)).1),0,((L.append M comEnt).1.2.sync (name (L.append M comEnt).2.1.seg)).2)
 else if (((L.append M comEnt).1.2.sync (name (L.append M comEnt).2.1.seg)).1.syncDir).2≠0 then (((L.append M comEnt).1.1,(((L.append M comEnt).1.2.sync (name (L.append M comEnt).2.1.seg)).1.syncDir).1),0,(((L.append M comEnt).1.2.sync (name (L.append M comEnt).2.1.seg)).1.syncDir).2)
 else (({ (L.append M comEnt).1.1 with on:=false,fresh:=0 },(((L.append M comEnt).1.2.sync (name (L.append M comEnt).2.1.seg)).1.syncDir).1),(L.append M comEnt).2.1.seg,0)
def Log.at (L:Log) (n:Int):Option Nat:=L.l.findIdx? (fun s=>s.1==n)
def Log.find (L:Log) (n:Int):Int:=match L.at n with
 |some i=>i
 |none=> -1
def Log.without (L:Log) (i:Nat):Log:=
 ⟨L.limit,L.l.eraseIdx i,if i+1=L.l.length then false else L.on,if (L.l.length:Int) - L.fresh≤i then L.fresh - 1 else L.fresh⟩
def Log.remove (L:Log) (M:Med) (n:Int):(Log×Med)×Int:=
 match L.at n with
 |none=>((L,M),9)
 |some i=>if (M.remove (name n)).2=0 then ((L.without i,(M.remove (name n)).1),0) else ((L,(M.remove (name n)).1),(M.remove (name n)).2)
def Log.size (L:Log) (n:Int):Int:=match L.at n with
 |none=>0
 |some i=>(L.l.getD i (0,0)).2
def Log.bytes (L:Log) (M:Med) (n:Int):Bs×Int:=match L.at n with
 |none=>([],9)
 |some _=>M.all (name n)
structure Log.Ok (L:Log):Prop where
 limit:128≤L.limit∧L.limit≤1048576
 rise:(L.l.map (·.1)).Pairwise (· < ·)
 nums:∀ s∈L.l,0≤s.1∧s.1<1048576
 sizes:∀ s∈L.l,0≤s.2∧s.2≤33554432
 fresh:0≤L.fresh∧L.fresh≤L.l.length
 on:L.on=true→L.l≠[]
theorem rise_len:∀ (l:List Int) (a:Int),l.Pairwise (· < ·)→(∀ x∈l,a≤x)→(∀ x∈l,x<1048576)→a≤1048576→(l.length:Int)≤1048576 - a
 |[],a,_,_,_,h=>by simp;omega
 |x::l,a,hp,h1,h2,h3=>by
  obtain ⟨hx,hp'⟩:=List.pairwise_cons.1 hp
  have e1:=h1 x (.head _)
  have e2:=h2 x (.head _)
  have:=rise_len l (x+1) hp' (fun y hy=>by have:=hx y hy;omega) (fun y hy=>h2 y (.tail _ hy)) oQ
  rw [List.length_cons];omega
theorem Log.Ok.len {L:Log} (h:L.Ok):L.l.length≤1048576:=by
 have:=rise_len (L.l.map (·.1)) 0 h.rise (by intro x hx;obtain ⟨s,hs,rfl⟩:=List.mem_map.1 hx;exact (h.nums s hs).1) (by intro x hx;obtain ⟨s,hs,rfl⟩:=List.mem_map.1 hx;exact (h.nums s hs).2) oQ
 rw [List.length_map]at this
 omega
theorem Log.Ok.shut {L:Log} (h:L.Ok) (M:Med):(L.shut M).1.1.Ok:=by
 unfold Log.shut
 split;· exact h
 split
 ·split
  ·exact ⟨h.limit,h.rise,h.nums,h.sizes,h.fresh,fun hh=>by cases hh⟩
  ·exact h
 ·exact h
theorem last_split {L:Log}{s:Int×Int} (h:L.l.getLast?=some s):L.l=L.l.dropLast++[s]:=by
 have hne:L.l≠[]:=by intro e;rw [e]at h;cases h
 have h2:=List.dropLast_concat_getLast hne
 rw [List.getLast?_eq_some_getLast hne]at h
 cases h
 exact h2.symm
theorem last_len {L:Log}{s:Int×Int} (h:L.l.getLast?=some s):L.l.length=L.l.dropLast.length+1:=by
 have:=congrArg List.length (last_split h)
 rw [List.length_append,List.length_singleton]at this
 exact this
theorem Log.Ok.next {L:Log} (h:L.Ok):0≤L.next∧L.next≤1048576∧∀ s∈L.l,s.1<L.next:=by
 unfold Log.next
 cases hl:L.l.getLast? with
 |none=>
  have:=List.getLast?_eq_none_iff.1 hl
  simp [this]
 |some s=>
  have hs:=h.nums s (List.mem_of_getLast? hl)
  refine ⟨by simp only;omega,by simp only;omega,?_⟩
  have e:=last_split hl
  have hr:=h.rise
  rw [e,List.map_append,List.pairwise_append]at hr
  intro t ht
  rw [e]at ht
  rcases List.mem_append.1 ht with ht|ht
  ·have:=hr.2.2 t.1 (List.mem_map.2 ⟨t,ht,rfl⟩) s.1 (by simp)
   simp only;omega
  ·rw [List.mem_singleton.1 ht];simp only;omega
theorem Log.Ok.snoc {L:Log} (h:L.Ok) (hn:L.next<1048576) (z:Nat) (hz:z≤16777216):({ L with l:=L.l++[(L.next,8+(z:Int))],on:=true,fresh:=L.fresh+1 }:Log).Ok:=by
 obtain ⟨n1,n2,n3⟩:=h.next
 have hf:=h.fresh
 refine ⟨h.limit,?_,?_,?_,⟨by simp only;omega,by simp only [List.length_append,List.length_singleton];omega⟩,fun _=>by simp⟩
 ·simp only
  rw [List.map_append,List.pairwise_append]
  refine ⟨h.rise,by simp,?_⟩
  intro a ha b hb
  obtain ⟨s,hs,rfl⟩:=List.mem_map.1 ha
  simp only [List.map_cons,List.map_nil,List.mem_singleton]at hb
  subst hb
  exact n3 s hs
 ·intro s hs
  rcases List.mem_append.1 hs with hs|hs
  ·exact h.nums s hs
  ·rw [List.mem_singleton.1 hs];exact ⟨n1,hn⟩
 ·intro s hs
  rcases List.mem_append.1 hs with hs|hs
  ·exact h.sizes s hs
  ·rw [List.mem_singleton.1 hs];exact ⟨by simp only;omega,by simp only;omega⟩
theorem Log.Ok.begin1 {L:Log} (h:L.Ok) (M:Med) (b:Bs) (hb:b.length≤16777216):(L.begin1 M b).1.1.Ok:=by
 unfold Log.begin1
 split;· exact h
 rename_i hn
 split;· exact h
 split;· exact h.snoc oQ _ hb
 split;· exact h
 exact h
theorem Log.Ok.begin {L:Log} (h:L.Ok) (M:Med) (b:Bs) (hb:b.length≤16777216):(L.begin M b).1.1.Ok:=by
 unfold Log.begin
 split
 ·exact (h.shut M).begin1 _ _ hb
 ·exact h.shut M
theorem Log.Ok.grow {L:Log} (h:L.Ok) (M:Med) (b:Bs) (hf:L.fits b.length=true):(L.grow M b).1.1.Ok:=by
 unfold Log.grow
 split;· exact h
 rename_i s hl
 split
 ·have e:=last_split hl
  have hr:=h.rise
  have hlen:L.l.length=L.l.dropLast.length+1:=last_len hl
  unfold Log.fits at hf
  rw [Bool.and_eq_true,decide_eq_true_eq,hl]at hf
  have hlim:=h.limit
  refine ⟨h.limit,?_,?_,?_,?_,fun _=>by simp⟩
  ·rw [e]at hr;simpa using hr
  ·intro t ht
   rcases List.mem_append.1 ht with ht|ht
   ·exact h.nums t (by rw [e];exact List.mem_append_left _ ht)
   ·rw [List.mem_singleton.1 ht]
    exact h.nums s (List.mem_of_getLast? hl)
  ·intro t ht
   rcases List.mem_append.1 ht with ht|ht
   ·exact h.sizes t (by rw [e];exact List.mem_append_left _ ht)
   ·rw [List.mem_singleton.1 ht]
    have:=h.sizes s (List.mem_of_getLast? hl)
    have h2:s.2+(b.length:Int)≤L.limit:=hf.2
    simp only;omega
  ·have:=h.fresh
   simp only [List.length_append,List.length_singleton]
   omega
 ·exact h
theorem encode_len (x:Frm.Ent) (hk:x.key.length=32):(Frm.encode x).1.length≤16425:=by
 unfold Frm.encode
 split;· simp
 rename_i hc
 have hd:x.data.length≤16384:=by
  unfold Frm.check at hc
  repeat' split at hc
  all_goals first|omega|simp at hc
 unfold Frm.body
 simp only [List.length_append,Frm.le_len,List.length_singleton]
 split
 ·simp;omega
 ·omega
theorem Log.Ok.append {L:Log} (h:L.Ok) (M:Med) (x:Frm.Ent) (hk:x.key.length=32):(L.append M x).1.1.Ok:=by
 have hl:=encode_len x hk
 unfold Log.append
 split;· exact h
 split
 ·rename_i hf;exact h.grow M _ hf
 ·exact h.begin M _ oQ
theorem Log.Ok.commit {L:Log} (h:L.Ok) (M:Med):(L.commit M).1.1.Ok:=by
 have h1:=h.append M comEnt rfl
 unfold Log.commit
 split;· exact h1
 split;· exact h1
 split;· exact h1
 exact ⟨h1.limit,h1.rise,h1.nums,h1.sizes,⟨Int.le_refl _,by simp⟩,fun hh=>by cases hh⟩
theorem Log.Ok.without {L:Log} (h:L.Ok) (i:Nat) (hi:i<L.l.length):(L.without i).Ok:=by
 have hsub:(L.l.eraseIdx i).Sublist L.l:=List.eraseIdx_sublist _ _
 have hlen:(L.l.eraseIdx i).length=L.l.length - 1:=List.length_eraseIdx_of_lt hi
 have hf:=h.fresh
 refine ⟨h.limit,h.rise.sublist (hsub.map _),fun s hs=>h.nums s (hsub.mem hs),fun s hs=>h.sizes s (hsub.mem hs),?_,?_⟩
 ·unfold Log.without
  simp only [hlen]
  split <;> omega
 ·unfold Log.without
  simp only
  split
  ·intro hh;cases hh
  ·intro _ e
   have:=congrArg List.length e
   rw [hlen]at this
   simp at this
   omega
theorem Log.at_lt {L:Log}{n:Int}{i:Nat} (h:L.at n=some i):i<L.l.length∧∃ s,L.l[i]?=some s∧s.1=n:=by
 unfold Log.at at h
 rw [List.findIdx?_eq_some_iff_getElem]at h
 obtain ⟨h1,h2,_⟩:=h
 exact ⟨h1,_,List.getElem?_eq_getElem h1,by simpa using h2⟩
theorem Log.Ok.remove {L:Log} (h:L.Ok) (M:Med) (n:Int):(L.remove M n).1.1.Ok:=by
 unfold Log.remove
 split;· exact h
 rename_i i hi
 split
 ·exact h.without i (Log.at_lt hi).1
 ·exact h
theorem Log.Ok.at_last {L:Log} (h:L.Ok){s:Int×Int} (hl:L.l.getLast?=some s):L.at s.1=some (L.l.length - 1):=by
 have e:=last_split hl
 have hlen:L.l.length=L.l.dropLast.length+1:=last_len hl
 have hr:=h.rise
 rw [e,List.map_append,List.pairwise_append]at hr
 unfold Log.at
 rw [List.findIdx?_eq_some_iff_getElem]
 refine ⟨by omega,?_,?_⟩
 ·have:L.l[L.l.length - 1]?=some s:=by rw [← List.getLast?_eq_getElem?];exact hl
  obtain ⟨h1,h2⟩:=List.getElem?_eq_some_iff.1 this
  rw [h2];simp
 ·intro j hj
  have hj':j<L.l.dropLast.length:=oQ
  have hx:L.l[j]'oQ=L.l.dropLast[j]:=by rw [List.getElem_dropLast]
  have h3:(L.l.dropLast[j]).1<s.1:=hr.2.2 (L.l.dropLast[j]).1 (List.mem_map.2 ⟨_,List.getElem_mem hj',rfl⟩) s.1 (by simp)
  rw [hx]
  rw [Bool.not_eq_true,beq_eq_false_iff_ne]
  omega
def Log.back:Nat→Log→Med→(Log×Med)×Int
 |0,L,M=>(({ L with on:=false },M),0)
 |k+1,L,M=>
  match L.l.getLast? with
  |none=>(({ L with on:=false },M),0)
  |some s=>if (L.remove M s.1).2=0 then Log.back k (L.remove M s.1).1.1 (L.remove M s.1).1.2 else L.remove M s.1
def Log.rollback (L:Log) (M:Med):(Log×Med)×Int:=L.back L.fresh.toNat M
theorem Log.Ok.shutOff {L:Log} (h:L.Ok):({ L with on:=false }:Log).Ok:=⟨h.limit,h.rise,h.nums,h.sizes,h.fresh,fun hh=>by cases hh⟩
theorem Log.Ok.back:∀ (k:Nat){L:Log} (M:Med),L.Ok→(L.back k M).1.1.Ok
 |0,L,M,h=>h.shutOff
 |k+1,L,M,h=>by
  unfold Log.back
  split;· exact h.shutOff
  split
  ·exact Log.Ok.back k _ (h.remove M _)
  ·exact h.remove M _
end Go.Seg
namespace Go.Rep
open Go.Frm (Bs Fnd)
open Go.Seg (Plc)
open Go.Tab (put)
abbrev Row:=Int×Fnd
def rkey (r:Row):Bs:=r.2.e.key
def rtag (r:Row):Int:=r.2.e.tag
def rplc (r:Row):Plc:=⟨r.1,r.2.at_,r.2.size⟩
structure Abt where
 tag:Int
 place:Plc
 first:Int
def newest:List Row→Bs→Option Row
 |[],_=>none
 |r::l,k=>match newest l k with
  |some x=>some x
  |none=>if rtag r≠2∧rkey r=k then some r else none
def firstPut:List Row→Bs→Option Row
 |[],_=>none
 |r::l,k=>if rtag r=0∧rkey r=k then some r else firstPut l k
def first (l:List Row) (k:Bs):Int:=match firstPut l k with
 |some r=>r.1
 |none=> -1
def ledger (l:List Row) (k:Bs):Option Abt:=(newest l k).map fun r=>⟨rtag r,rplc r,first l k⟩
def first0 (m:Bs→Option Abt) (r:Row):Int:=match m (rkey r) with
 |some a=>a.first
 |none=> -1
def first1 (m:Bs→Option Abt) (r:Row):Int:=if rtag r=0∧first0 m r<0 then r.1 else first0 m r
def takeOne (m:Bs→Option Abt) (r:Row):Bs→Option Abt:=
 if rtag r=2 then m else put m (rkey r) ⟨rtag r,rplc r,first1 m r⟩
theorem newest_snoc (l:List Row) (r:Row) (k:Bs):newest (l++[r]) k=if rtag r≠2∧rkey r=k then some r else newest l k:=by
 induction l with
 |nil=>simp only [List.nil_append,newest]
 |cons x l ih=>
  simp only [List.cons_append,newest,ih]
  split
  ·rename_i h;split at h
   ·rename_i h2;rw [if_pos h2];cases h;rfl
   ·rename_i h2;rw [if_neg h2,h]
  ·rename_i h;split at h
   ·cases h
   ·rename_i h2;rw [if_neg h2,h]
theorem firstPut_snoc (l:List Row) (r:Row) (k:Bs):firstPut (l++[r]) k=match firstPut l k with
  |some x=>some x
  |none=>if rtag r=0∧rkey r=k then some r else none:=by
 induction l with
 |nil=>simp only [List.nil_append,firstPut]
 |cons x l ih=>
  simp only [List.cons_append,firstPut,ih]
  split
  ·rename_i h;simp only
  ·rfl
theorem newest_none {l:List Row}{k:Bs} (h:newest l k=none):firstPut l k=none:=by
 induction l with
 |nil=>rfl
 |cons x l ih=>
  simp only [newest]at h
  split at h
  ·cases h
  ·rename_i h1
   split at h
   ·cases h
   ·rename_i h2
    simp only [firstPut]
    rw [if_neg fun h3=>h2 ⟨by rw [h3.1];decide,h3.2⟩]
    exact ih h1
theorem firstPut_mem {l:List Row}{k:Bs}{r:Row} (h:firstPut l k=some r):r∈l∧rtag r=0∧rkey r=k:=by
 induction l with
 |nil=>cases h
 |cons x l ih=>
  simp only [firstPut]at h
  split at h
  ·cases h;exact ⟨.head _,by assumption⟩
  ·exact ⟨.tail _ (ih h).1,(ih h).2⟩
theorem ledger_snoc (l:List Row) (r:Row) (h0:∀ x∈l,0≤x.1):ledger (l++[r])=takeOne (ledger l) r:=by
 funext k
 unfold takeOne
 by_cases h2:rtag r=2
 ·rw [if_pos h2]
  unfold ledger first
  rw [newest_snoc,if_neg (fun h=>h.1 h2),firstPut_snoc]
  cases firstPut l k with
  |some x=>rfl
  |none=>simp only;rw [if_neg (fun h=>by rw [h2]at h;exact absurd h.1 dQ)]
 ·rw [if_neg h2]
  unfold put
  by_cases hk:k=rkey r
  ·subst hk
   rw [if_pos rfl]
   have e1:∀ k,ledger l k=(newest l k).map fun r=>⟨rtag r,rplc r,first l k⟩:=fun _=>rfl
   have e2:ledger (l++[r]) (rkey r)=some ⟨rtag r,rplc r,first (l++[r]) (rkey r)⟩:=by
    unfold ledger
    rw [newest_snoc,if_pos ⟨h2,rfl⟩,Option.map_some]
   rw [e2]
   congr 2
   unfold first1 first0
   rw [e1]
   unfold first
   rw [firstPut_snoc]
   cases hn:newest l (rkey r) with
   |none=>
    rw [newest_none hn]
    simp only [Option.map_none]
    by_cases ht:rtag r=0
    ·rw [if_pos ⟨ht,trivial⟩,if_pos ⟨ht,by decide⟩]
    ·rw [if_neg (fun h=>ht h.1),if_neg (fun h=>ht h.1)]
   |some x=>
    simp only [Option.map_some]
    cases hf:firstPut l (rkey r) with
    |some y=>
     simp only
     rw [if_neg (fun h=>by have:=h0 y (firstPut_mem hf).1;omega)]
    |none=>
     simp only
     by_cases ht:rtag r=0
     ·rw [if_pos ⟨ht,trivial⟩,if_pos ⟨ht,by decide⟩]
     ·rw [if_neg (fun h=>ht h.1),if_neg (fun h=>ht h.1)]
  ·rw [if_neg hk]
   unfold ledger first
   rw [newest_snoc,if_neg (fun h=>hk h.2.symm),firstPut_snoc]
   cases firstPut l k with
   |some x=>rfl
   |none=>simp only;rw [if_neg (fun h=>hk h.2.symm)]
def counts (a:Abt):Bool:=decide (a.tag=0) || (decide (0≤a.first) && decide (a.first<a.place.seg))
def isNew (l:List Row) (i:Nat):Bool:=match l[i]? with
 |none=>false
 |some r=>decide (rtag r<2) && (l.drop (i+1)).all fun x => !(decide (rtag x<2) && decide (rkey x=rkey r))
def cnt (l:List Row) (i:Nat):Bool:=match l[i]? with
 |none=>false
 |some r => !decide (rtag r=2) && isNew l i && (decide (rtag r=0) || (l.take i).any fun x=>decide (rtag x=0) && decide (rkey x=rkey r) && decide (x.1<r.1))
structure Rows (l:List Row):Prop where
 tag:∀ r∈l,rtag r=0∨rtag r=1∨rtag r=2
 seg:∀ r∈l,0≤r.1
 rise:l.Pairwise fun a b=>a.1≤b.1
theorem new_none {l:List Row}{k:Bs} (ht:∀ r∈l,rtag r=0∨rtag r=1∨rtag r=2):newest l k=none↔(l.all fun x => !(decide (rtag x<2) && decide (rkey x=k)))=true:=by
 induction l with
 |nil=>exact ⟨fun _=>rfl,fun _=>rfl⟩
 |cons y l ih=>
  rw [List.all_cons,Bool.and_eq_true,← ih (fun r h=>ht r (.tail _ h))]
  have hy:=ht y (.head _)
  simp only [newest]
  cases hn:newest l k with
  |some x=>simp
  |none=>
   simp only [and_true]
   by_cases hc:rtag y≠2∧rkey y=k
   ·rw [if_pos hc]
    have:rtag y<2:=oQ
    simp [this,hc.2]
   ·rw [if_neg hc]
    simp only [true_iff,Bool.not_eq_true',Bool.and_eq_false_iff,decide_eq_false_iff_not]
    by_cases h2:rtag y<2
    ·exact .inr fun h=>hc ⟨by omega,h⟩
    ·exact .inl h2
theorem newest_at:∀ {l:List Row}{i:Nat}{r:Row},(∀ r∈l,rtag r=0∨rtag r=1∨rtag r=2)→l[i]?=some r→isNew l i=true→newest l (rkey r)=some r
 |[],_,_,_,hi,_=>by simp at hi
 |x::l,0,r,ht,hi,hn=>by
  obtain rfl:x=r:=by simpa using hi
  unfold isNew at hn
  rw [hi]at hn
  simp only [Bool.and_eq_true,decide_eq_true_eq]at hn
  have h2:newest l (rkey x)=none:=(new_none fun r h=>ht r (.tail _ h)).2 hn.2
  have:=hn.1
  simp only [newest,h2]
  rw [if_pos ⟨by omega,trivial⟩]
 |x::l,i+1,r,ht,hi,hn=>by
  have hi':l[i]?=some r:=by simpa using hi
  have hn':isNew l i=true:=by
   unfold isNew at hn ⊢
   rw [hi]at hn;rw [hi']
   exact hn
  simp only [newest,newest_at (fun r h=>ht r (.tail _ h)) hi' hn']
theorem newest_is:∀ {l:List Row}{k:Bs}{r:Row},(∀ r∈l,rtag r=0∨rtag r=1∨rtag r=2)→newest l k=some r→∃ i,l[i]?=some r∧isNew l i=true∧rkey r=k∧rtag r≠2
 |[],_,_,_,h=>by cases h
 |x::l,k,r,ht,h=>by
  simp only [newest]at h
  cases hn:newest l k with
  |some y=>
   rw [hn]at h
   obtain rfl:y=r:=by simpa using h
   obtain ⟨i,a,b,c,d⟩:=newest_is (fun r h=>ht r (.tail _ h)) hn
   refine ⟨i+1,by simpa using a,?_,c,d⟩
   unfold isNew at b ⊢
   rw [a]at b
   rw [show (x::l)[i+1]?=some y by simpa using a]
   exact b
  |none=>
   rw [hn]at h
   simp only at h
   split at h
   ·rename_i hc
    obtain rfl:x=r:=by simpa using h
    refine ⟨0,rfl,?_,hc.2,hc.1⟩
    have hx:=ht x (.head _)
    unfold isNew
    simp only [List.getElem?_cons_zero,Nat.zero_add,List.drop_one,List.tail_cons,Bool.and_eq_true,decide_eq_true_eq]
    refine ⟨by omega,?_⟩
    rw [← new_none fun r h=>ht r (.tail _ h),hc.2];exact hn
   ·cases h
theorem firstPut_le:∀ {l:List Row}{k:Bs}{r x:Row},l.Pairwise (fun a b=>a.1≤b.1)→firstPut l k=some r→x∈l→rtag x=0→rkey x=k→r.1≤x.1
 |[],_,_,_,_,h,_,_,_=>by cases h
 |y::l,k,r,x,hp,h,hx,h0,hk=>by
  obtain ⟨p1,p2⟩:=List.pairwise_cons.1 hp
  simp only [firstPut]at h
  split at h
  ·obtain rfl:y=r:=by simpa using h
   rcases List.mem_cons.1 hx with rfl|hx
   ·exact Int.le_refl _
   ·exact p1 x hx
  ·rename_i hc
   rcases List.mem_cons.1 hx with rfl|hx
   ·exact absurd ⟨h0,hk⟩ hc
   ·exact firstPut_le p2 h hx h0 hk
theorem firstPut_none {l:List Row}{k:Bs} (h:firstPut l k=none):∀ x∈l,¬ (rtag x=0∧rkey x=k):=by
 induction l with
 |nil=>intro x hx;cases hx
 |cons y l ih=>
  simp only [firstPut]at h
  split at h
  ·cases h
  ·rename_i hc
   intro x hx
   rcases List.mem_cons.1 hx with rfl|hx
   ·exact hc
   ·exact ih h x hx
theorem cnt_eq {l:List Row}{i:Nat}{r:Row} (hl:Rows l) (hi:l[i]?=some r) (hn:isNew l i=true):∃ a,ledger l (rkey r)=some a∧a.tag=rtag r∧a.place=rplc r∧counts a=cnt l i:=by
 have h1:=newest_at hl.tag hi hn
 refine ⟨⟨rtag r,rplc r,first l (rkey r)⟩,by unfold ledger;rw [h1];rfl,rfl,rfl,?_⟩
 have hmem:=List.mem_of_getElem? hi
 have h2:rtag r≠2:=by
  unfold isNew at hn
  rw [hi]at hn
  simp only [Bool.and_eq_true,decide_eq_true_eq]at hn
  have:=hn.1
  omega
 unfold cnt
 rw [hi]
 simp only [hn,h2,decide_false,Bool.not_false,Bool.true_and]
 unfold counts
 simp only
 by_cases h0:rtag r=0
 ·simp [h0]
 ·simp only [h0,decide_false,Bool.false_or]
  rw [Bool.eq_iff_iff]
  simp only [Bool.and_eq_true,decide_eq_true_eq,List.any_eq_true]
  unfold first rplc
  simp only
  cases hf:firstPut l (rkey r) with
  |none=>
   simp only
   constructor
   ·intro h;omega
   ·rintro ⟨x,hx,⟨h3,h4⟩,_⟩
    exact absurd ⟨h3,h4⟩ (firstPut_none hf x (List.mem_of_mem_take hx))
  |some y=>
   obtain ⟨m1,m2,m3⟩:=firstPut_mem hf
   simp only
   constructor
   ·rintro ⟨_,h5⟩
    obtain ⟨j,hj,he⟩:=List.getElem_of_mem m1
    have hij:j<i:=by
     rcases Nat.lt_trichotomy j i with q|q|q
     ·exact q
     ·subst q
      rw [List.getElem?_eq_getElem hj,he]at hi;cases hi
      exact absurd m2 h0
     ·obtain ⟨hi',he'⟩:=List.getElem?_eq_some_iff.1 hi
      have:=List.pairwise_iff_getElem.1 hl.rise i j hi' hj q
      rw [he,he']at this;omega
    refine ⟨y,?_,⟨m2,m3⟩,h5⟩
    rw [List.mem_take_iff_getElem]
    exact ⟨j,by omega,he⟩
   ·rintro ⟨x,hx,⟨h3,h4⟩,h5⟩
    have:=firstPut_le hl.rise hf (List.mem_of_mem_take hx) h3 h4
    exact ⟨hl.seg y m1,by omega⟩
theorem cnt_new {l:List Row}{i:Nat} (h:cnt l i=true):isNew l i=true:=by
 unfold cnt at h
 split at h
 ·cases h
 ·simp only [Bool.and_eq_true]at h
  exact h.1.2
end Go.Rep
namespace Go.Tab
open Go.Frm (Bs)
theorem bs_tri (a b:Bs):a<b∨a=b∨b<a:=by
 by_cases h1:a<b
 ·exact .inl h1
 ·rcases List.le_iff_lt_or_eq.1 (List.not_lt.1 h1) with h2|h2
  ·exact .inr (.inr h2)
  ·exact .inr (.inl h2.symm)
structure Lists {V:Type} (m:Bs→Option V) (l:List (Bs×V)):Prop where
 rise:l.Pairwise fun a b=>a.1<b.1
 mem:∀ k v,(k,v)∈l↔m k=some v
theorem rise_ext {V:Type}:∀ {l l':List (Bs×V)},l.Pairwise (fun a b=>a.1<b.1)→l'.Pairwise (fun a b=>a.1<b.1)→(∀ p,p∈l↔p∈l')→l=l'
 |[],[],_,_,_=>rfl
 |[],b::l',_,_,h=>by have:=(h b).2 (.head _);cases this
 |a::l,[],_,_,h=>by have:=(h a).1 (.head _);cases this
 |a::l,b::l',h1,h2,h=>by
  obtain ⟨a1,a2⟩:=List.pairwise_cons.1 h1
  obtain ⟨b1,b2⟩:=List.pairwise_cons.1 h2
  have hab:a=b:=by
   rcases List.mem_cons.1 ((h a).1 (.head _)) with e|h3
   ·exact e
   ·rcases List.mem_cons.1 ((h b).2 (.head _)) with e|h4
    ·exact e.symm
    ·exact absurd (List.lt_trans (b1 a h3) (a1 b h4)) (List.lt_irrefl _)
  subst hab
  congr 1
  refine rise_ext a2 b2 fun p=>?_
  have:=h p
  rw [List.mem_cons,List.mem_cons]at this
  constructor
  ·intro hp
   rcases this.1 (.inr hp) with e|h3
   ·subst e;exact absurd (a1 p hp) (List.lt_irrefl _)
   ·exact h3
  ·intro hp
   rcases this.2 (.inr hp) with e|h3
   ·subst e;exact absurd (b1 p hp) (List.lt_irrefl _)
   ·exact h3
theorem Lists.unique {V:Type}{m:Bs→Option V}{l l':List (Bs×V)} (h:Lists m l) (h':Lists m l'):l=l':=
 rise_ext h.rise h'.rise fun p=>by rw [h.mem p.1 p.2,h'.mem p.1 p.2]
theorem Lists.keys {V:Type}{m:Bs→Option V}{l:List (Bs×V)} (h:Lists m l):(l.map (·.1)).Nodup:=by
 rw [List.nodup_iff_pairwise_ne,List.pairwise_map]
 exact h.rise.imp fun {a b} hab e=>by rw [e]at hab;exact List.lt_irrefl _ hab
def ins {V:Type}:List (Bs×V)→Bs×V→List (Bs×V)
 |[],x=>[x]
 |y::l,x=>if x.1<y.1 then x::y::l else y::ins l x
theorem ins_mem {V:Type}:∀ {l:List (Bs×V)}{x p:Bs×V},p∈ins l x↔p=x∨p∈l
 |[],x,p=>by simp [ins]
 |y::l,x,p=>by
  unfold ins
  split
  ·rw [List.mem_cons]
  ·rw [List.mem_cons,ins_mem,List.mem_cons]
   constructor
   ·rintro (h|h|h)
    ·exact .inr (.inl h)
    ·exact .inl h
    ·exact .inr (.inr h)
   ·rintro (h|h|h)
    ·exact .inr (.inl h)
    ·exact .inl h
    ·exact .inr (.inr h)
theorem ins_rise {V:Type}:∀ {l:List (Bs×V)}{x:Bs×V},l.Pairwise (fun a b=>a.1<b.1)→(∀ y∈l,y.1≠x.1)→(ins l x).Pairwise fun a b=>a.1<b.1
 |[],x,_,_=>List.pairwise_singleton _ _
 |y::l,x,h,hn=>by
  obtain ⟨h1,h2⟩:=List.pairwise_cons.1 h
  unfold ins
  split
  ·rename_i hlt
   refine List.pairwise_cons.2 ⟨fun z hz=>?_,h⟩
   rcases List.mem_cons.1 hz with rfl|hz
   ·exact hlt
   ·exact List.lt_trans hlt (h1 z hz)
  ·rename_i hlt
   refine List.pairwise_cons.2 ⟨fun z hz=>?_,ins_rise h2 fun z hz=>hn z (.tail _ hz)⟩
   rcases ins_mem.1 hz with rfl|hz
   ·rcases bs_tri y.1 z.1 with q|q|q
    ·exact q
    ·exact absurd q (hn y (.head _))
    ·exact absurd q hlt
   ·exact h1 z hz
end Go.Tab
namespace Go.Rep
open Go.Frm (Bs Fnd)
open Go.Seg (Plc)
open Go.Tab
def idx (l:List Row):Nat→List (Bs×Plc)
 |0=>[]
 |i+1=>match l[i]? with
  |none=>idx l i
  |some r=>if cnt l i=true∧rtag r=0 then ins (idx l i) (rkey r,rplc r) else idx l i
def live (l:List Row) (s:Int):Nat→Int
 |0=>0
 |i+1=>match l[i]? with
  |none=>live l s i
  |some r=>if cnt l i=true∧r.1=s then live l s i+r.2.size else live l s i
def liveL (s:Int):List (Bs×Abt)→Int
 |[]=>0
 |p::l=>(if counts p.2=true∧p.2.place.seg=s then p.2.place.size else 0)+liveL s l
def puts (kv:List (Bs×Abt)):List (Bs×Plc):=(kv.filter fun p=>decide (p.2.tag=0)).map fun p=>(p.1,p.2.place)
theorem idx_mem {l:List Row}:∀ {n:Nat}{p:Bs×Plc},p∈idx l n↔∃ i r,i<n∧l[i]?=some r∧cnt l i=true∧rtag r=0∧p=(rkey r,rplc r)
 |0,p=>by simp [idx]
 |n+1,p=>by
  have ih:=@idx_mem l n p
  unfold idx
  constructor
  ·intro h
   split at h
   ·obtain ⟨i,r,a,b⟩:=ih.1 h;exact ⟨i,r,by omega,b⟩
   ·rename_i r hr
    split at h
    ·rename_i hc
     rcases ins_mem.1 h with e|h
     ·exact ⟨n,r,by omega,hr,hc.1,hc.2,e⟩
     ·obtain ⟨i,r,a,b⟩:=ih.1 h;exact ⟨i,r,by omega,b⟩
    ·obtain ⟨i,r,a,b⟩:=ih.1 h;exact ⟨i,r,by omega,b⟩
  ·rintro ⟨i,r,hi,hr,hc,ht,rfl⟩
   by_cases hin:i<n
   ·have:=ih.2 ⟨i,r,hin,hr,hc,ht,rfl⟩
    split
    ·exact this
    ·split
     ·exact ins_mem.2 (.inr this)
     ·exact this
   ·obtain rfl:i=n:=by omega
    rw [hr]
    simp only
    rw [if_pos ⟨hc,ht⟩]
    exact ins_mem.2 (.inl rfl)
theorem new_one {l:List Row}{i j:Nat}{r x:Row} (hi:l[i]?=some r) (hj:l[j]?=some x) (h1:isNew l i=true) (h2:isNew l j=true) (hk:rkey r=rkey x):i=j:=by
 have aux:∀ {i j:Nat} {r x:Row},l[i]?=some r→l[j]?=some x→isNew l i=true→isNew l j=true→rkey r=rkey x→¬ i<j:=by
  intro i j r x hi hj h1 h2 hk hlt
  unfold isNew at h1 h2
  rw [hi]at h1;rw [hj]at h2
  simp only [Bool.and_eq_true,decide_eq_true_eq,List.all_eq_true]at h1 h2
  have hm:x∈l.drop (i+1):=by
   refine List.mem_of_getElem? (i:=j - (i+1)) ?_
   rw [List.getElem?_drop,show i+1+(j - (i+1))=j by omega];exact hj
  have:=h1.2 x hm
  simp [h2.1,hk]at this
 rcases Nat.lt_trichotomy i j with q|q|q
 ·exact absurd q (aux hi hj h1 h2 hk)
 ·exact q
 ·exact absurd q (aux hj hi h2 h1 hk.symm)
theorem idx_rise {l:List Row}:∀ n,(idx l n).Pairwise fun a b=>a.1<b.1
 |0=>List.Pairwise.nil
 |n+1=>by
  unfold idx
  split
  ·exact idx_rise n
  ·rename_i r hr
   split
   ·rename_i hc
    refine ins_rise (idx_rise n) fun y hy e=>?_
    obtain ⟨i,x,a,b,c,d,rfl⟩:=idx_mem.1 hy
    have:=new_one b hr (cnt_new c) (cnt_new hc.1) e
    omega
   ·exact idx_rise n
theorem idx_eq {l:List Row} (hl:Rows l){kv:List (Bs×Abt)} (hk:Lists (ledger l) kv):idx l l.length=puts kv:=by
 refine rise_ext (idx_rise _) ?_ fun p=>?_
 ·unfold puts
  rw [List.pairwise_map]
  exact (hk.rise.sublist List.filter_sublist)
 ·rw [idx_mem]
  unfold puts
  rw [List.mem_map]
  constructor
  ·rintro ⟨i,r,_,hr,hc,ht,rfl⟩
   obtain ⟨a,h1,h2,h3,_⟩:=cnt_eq hl hr (cnt_new hc)
   refine ⟨(rkey r,a),List.mem_filter.2 ⟨(hk.mem _ _).2 h1,?_⟩,by rw [h3]⟩
   simpa [h2] using ht
  ·rintro ⟨⟨k,a⟩,hq,rfl⟩
   obtain ⟨h1,h2⟩:=List.mem_filter.1 hq
   have h3:=(hk.mem _ _).1 h1
   have h2':a.tag=0:=by simpa using h2
   unfold ledger at h3
   cases hn:newest l k with
   |none=>rw [hn]at h3;cases h3
   |some r=>
    rw [hn]at h3
    obtain rfl:=Option.some.inj h3
    obtain ⟨i,a,b,c,d⟩:=newest_is hl.tag hn
    obtain ⟨a',e1,e2,e3,e4⟩:=cnt_eq hl a b
    have ht:rtag r=0:=h2'
    refine ⟨i,r,(List.getElem?_eq_some_iff.1 a).1,a,?_,ht,by rw [c]⟩
    rw [← e4]
    unfold counts
    rw [e2,ht];rfl
def newKeys (l:List Row):Nat→List Bs
 |0=>[]
 |i+1=>match l[i]? with
  |none=>newKeys l i
  |some r=>if isNew l i=true then rkey r::newKeys l i else newKeys l i
theorem newKeys_mem {l:List Row}:∀ {n:Nat}{k:Bs},k∈newKeys l n↔∃ i r,i<n∧l[i]?=some r∧isNew l i=true∧rkey r=k
 |0,k=>by simp [newKeys]
 |n+1,k=>by
  have ih:=@newKeys_mem l n k
  unfold newKeys
  constructor
  ·intro h
   split at h
   ·obtain ⟨i,r,a,b⟩:=ih.1 h;exact ⟨i,r,by omega,b⟩
   ·rename_i r hr
    split at h
    ·rename_i hc
     rcases List.mem_cons.1 h with e|h
     ·exact ⟨n,r,by omega,hr,hc,e.symm⟩
     ·obtain ⟨i,r,a,b⟩:=ih.1 h;exact ⟨i,r,by omega,b⟩
    ·obtain ⟨i,r,a,b⟩:=ih.1 h;exact ⟨i,r,by omega,b⟩
  ·rintro ⟨i,r,hi,hr,hc,rfl⟩
   by_cases hin:i<n
   ·have:=ih.2 ⟨i,r,hin,hr,hc,rfl⟩
    split
    ·exact this
    ·split
     ·exact .tail _ this
     ·exact this
   ·obtain rfl:i=n:=by omega
    rw [hr]
    simp only
    rw [if_pos hc]
    exact .head _
theorem newKeys_nodup {l:List Row}:∀ n,(newKeys l n).Nodup
 |0=>List.nodup_nil
 |n+1=>by
  unfold newKeys
  split
  ·exact newKeys_nodup n
  ·rename_i r hr
   split
   ·rename_i hc
    refine List.nodup_cons.2 ⟨fun h=>?_,newKeys_nodup n⟩
    obtain ⟨i,x,a,b,c,d⟩:=newKeys_mem.1 h
    have:=new_one b hr c hc d
    omega
   ·exact newKeys_nodup n
def adds (l:List Row) (s:Int) (k:Bs):Int:=match ledger l k with
 |some a=>if counts a=true∧a.place.seg=s then a.place.size else 0
 |none=>0
theorem sum_perm {f:Bs→Int}{l l':List Bs} (h:l.Perm l'):(l.map f).sum=(l'.map f).sum:=by
 induction h with
 |nil=>rfl
 |cons x _ ih=>simp only [List.map_cons,List.sum_cons,ih]
 |swap x y l=>simp only [List.map_cons,List.sum_cons];omega
 |trans _ _ h1 h2=>rw [h1,h2]
theorem live_new {l:List Row} (hl:Rows l) (s:Int):∀ n,live l s n=((newKeys l n).map (adds l s)).sum
 |0=>rfl
 |n+1=>by
  have ih:=live_new hl s n
  unfold live newKeys
  split
  ·rename_i hr;rw [ih]
  ·rename_i r hr
   by_cases hn:isNew l n=true
   ·obtain ⟨a,h1,h2,h3,h4⟩:=cnt_eq hl hr hn
    rw [if_pos hn,List.map_cons,List.sum_cons,ih]
    unfold adds
    rw [h1]
    simp only
    rw [h4,h3,show (rplc r).seg=r.1 from rfl,show (rplc r).size=(r.2.size:Int) from rfl]
    split
    ·exact Int.add_comm _ _
    ·exact (Int.zero_add _).symm
   ·rw [if_neg hn,if_neg (fun h=>hn (cnt_new h.1)),ih]
theorem liveL_sum {l:List Row} (s:Int):∀ (kv:List (Bs×Abt)),(∀ p∈kv,ledger l p.1=some p.2)→liveL s kv=((kv.map (·.1)).map (adds l s)).sum
 |[],_=>rfl
 |p::kv,h=>by
  rw [List.map_cons,List.map_cons,List.sum_cons,← liveL_sum s kv fun q hq=>h q (.tail _ hq)]
  unfold adds
  rw [h p (.head _)]
  rfl
theorem live_eq {l:List Row} (hl:Rows l){kv:List (Bs×Abt)} (hk:Lists (ledger l) kv) (s:Int):live l s l.length=liveL s kv:=by
 rw [live_new hl,liveL_sum s kv fun p hp=>(hk.mem p.1 p.2).1 hp]
 refine sum_perm ((List.perm_ext_iff_of_nodup (newKeys_nodup _) hk.keys).2 fun k=>?_)
 rw [newKeys_mem,List.mem_map]
 constructor
 ·rintro ⟨i,r,_,hr,hn,rfl⟩
  obtain ⟨a,h1,_⟩:=cnt_eq hl hr hn
  exact ⟨(rkey r,a),(hk.mem _ _).2 h1,rfl⟩
 ·rintro ⟨⟨k',a⟩,hp,rfl⟩
  have h3:=(hk.mem _ _).1 hp
  unfold ledger at h3
  cases hn:newest l k' with
  |none=>rw [hn]at h3;cases h3
  |some r=>
   obtain ⟨i,a,b,c,_⟩:=newest_is hl.tag hn
   exact ⟨i,r,(List.getElem?_eq_some_iff.1 a).1,a,b,c⟩
end Go.Rep
namespace Go.Proofs.YtmjldaedhmipkaaGreatDoor
open Go Go.Sl Go.Med Go.MapKept Go.RowKit
section
variable {P:Program}{w0 w:World}{L L' R:List HProp}{b:Nat}{ops:Array Oper}{rest:List Oper}{a:Act}{Q:Exit→Act→World→Prop}
variable {dst:Option Tmp}{t ty T:TypeId}{pos:String}{after:Array Edge}{x y z:Operand}{cs:Array Value}{v:Value}{o:Nat}
variable {vx vy:Value}{ad:Addr}{fl:Nat}{bo:BinOp}{uo:UnOp}{tz:TypeId}{G:World→Prop}
theorem yg_move {g:Option (Nat×Bool)} (hw:Region.wanted ⟨dst,.move x,t,pos,after,g⟩ (yielded ops a.tmps)=true) (hx:a.eval x=v):Yields P ops ⟨dst,.move x,t,pos,after,g⟩ v a:=
 .inl ⟨hw,fun w=>by simp only [execOp,hx];rfl⟩
theorem yg_nil {g:Option (Nat×Bool)} (hw:Region.wanted ⟨dst,.nilCheck x,t,pos,after,g⟩ (yielded ops a.tmps)=true) (hx:a.eval x = .pointer (some ad)):Yields P ops ⟨dst,.nilCheck x,t,pos,after,g⟩ (.pointer (some ad)) a:=
 .inl ⟨hw,fun w=>by simp only [execOp,hx];rfl⟩
theorem yg_field {g:Option (Nat×Bool)} (hw:Region.wanted ⟨dst,.fieldAddr ty x fl,t,pos,after,g⟩ (yielded ops a.tmps)=true) (hx:a.eval x=vx) (hr:∀ w,(Instr.fieldAt ty vx fl).run P w = .ok v w):Yields P ops ⟨dst,.fieldAddr ty x fl,t,pos,after,g⟩ v a:=
 .inl ⟨hw,fun w=>by simp only [execOp,hx,Sem.run_bind,hr,Result.andThen_ok,Sem.run_pure]⟩
theorem yg_index {g:Option (Nat×Bool)} (hw:Region.wanted ⟨dst,.indexAddr ty x y,t,pos,after,g⟩ (yielded ops a.tmps)=true) (hx:a.eval x=vx) (hy:a.eval y=vy) (hr:∀ w,(Instr.indexAt ty vx vy).run P w = .ok v w):Yields P ops ⟨dst,.indexAddr ty x y,t,pos,after,g⟩ v a:=
 .inl ⟨hw,fun w=>by simp only [execOp,hx,hy,Sem.run_bind,hr,Result.andThen_ok,Sem.run_pure]⟩
theorem yg_bin {g:Option (Nat×Bool)} (hw:Region.wanted ⟨dst,.binOp bo ty x y tz,t,pos,after,g⟩ (yielded ops a.tmps)=true) (hx:a.eval x=vx) (hy:a.eval y=vy) (hr:∀ w,((do eqGuard bo ty x y vx vy;binOp bo ty vx vy):Sem Value).run P w = .ok v w):Yields P ops ⟨dst,.binOp bo ty x y tz,t,pos,after,g⟩ v a:=
 .inl ⟨hw,fun w=>by simp only [execOp,hx,hy,Sem.run_bind (x:=(do eqGuard bo ty x y vx vy;binOp bo ty vx vy)),hr,Result.andThen_ok,Sem.run_pure]⟩
theorem yg_un {g:Option (Nat×Bool)} (hw:Region.wanted ⟨dst,.unOp uo ty x,t,pos,after,g⟩ (yielded ops a.tmps)=true) (hx:a.eval x=vx) (hr:∀ w,(Op.unary uo vx).run P w = .ok v w):Yields P ops ⟨dst,.unOp uo ty x,t,pos,after,g⟩ v a:=
 .inl ⟨hw,fun w=>by simp only [execOp,hx,Sem.run_bind,hr,Result.andThen_ok,Sem.run_pure]⟩
theorem yg_len {g:Option (Nat×Bool)} (hw:Region.wanted ⟨dst,.call { callee:= .builtin .len,args:=#[x],argTypes:=#[ty] },t,pos,after,g⟩ (yielded ops a.tmps)=true) (hx:a.eval x=vx) (hr:∀ w,(Builtin.len_ #[ty] t #[vx]).run P w = .ok v w):Yields P ops ⟨dst,.call { callee:= .builtin .len,args:=#[x],argTypes:=#[ty] },t,pos,after,g⟩ v a:=
 .inl ⟨hw,fun w=>by
  rw [execOp_builtin_len,hx]
  simp only [Sem.run_bind,hr,Result.andThen_ok,Sem.run_pure]⟩
theorem tg_load {g:Option (Nat×Bool)} (hw:Region.wanted ⟨dst,.load ty x,t,pos,after,g⟩ (yielded ops a.tmps)=true) (hx:a.eval x = .pointer (some ad)) (h1:oneB P ty=true) (hG:∀ w,G w→w.cell? ad=some v):YieldsIf P ops G ⟨dst,.load ty x,t,pos,after,g⟩ v a:=
 .inl ⟨hw,fun w hw=>by
  obtain ⟨b,o,el⟩:=ad
  have hc:=hG w hw
  simp only [execOp,hx,Instr.loadAt,Instr.sureAddr,Sem.run_bind,Sem.run_pure,Result.andThen_ok,run_load1A h1 hc]⟩
theorem yg_pick {g:Option (Nat×Bool)}{c:Bool} (hw:Region.wanted ⟨dst,.pick x y z,t,pos,after,g⟩ (yielded ops a.tmps)=true) (hx:a.eval x = .bool c) (hv:(if c then a.eval y else a.eval z)=v):Yields P ops ⟨dst,.pick x y z,t,pos,after,g⟩ v a:=
 .inl ⟨hw,fun w=>by
  subst hv
  simp only [execOp,hx]
  cases c <;> rfl⟩
theorem tg_loadN {g:Option (Nat×Bool)} (ks:List Value) (hw:Region.wanted ⟨dst,.load ty x,t,pos,after,g⟩ (yielded ops a.tmps)=true) (hx:a.eval x = .pointer (some ⟨b,o,none⟩)){d:TypeDesc} (hu:P.underlying ty=some d) (hd:d.isRow=true) (hi:(P.info? ty).map (·.size)=some ks.length) (hG:∀ w,G w→w.rangeAt b o ks) :
  YieldsIf P ops G ⟨dst,.load ty x,t,pos,after,g⟩ (.agg ks.toArray) a:=
 yieldsIf_load_mid hw ty x rfl b o hx ks d hG hu hd hi
theorem eg_call {g:Option (Nat×Bool)}{f:FuncId}{xs:Array Operand}{ts:Array TypeId}{K:Act→World→Prop}{E:Prop} (vs:List Value) (hw:Region.wanted ⟨dst,.call { callee:= .value (.func f),args:=xs,argTypes:=ts },t,pos,after,g⟩ (yielded ops a.tmps)=true) (hf:goB P f=true) (hv:xs.toList.map a.eval=vs)
  (h:Calls P f vs.toArray w (Upon K Q a dst)):if Region.wanted ⟨dst,.call { callee:= .value (.func f),args:=xs,argTypes:=ts },t,pos,after,g⟩ (yielded ops a.tmps)=true then
   Oper.wp P ⟨dst,.call { callee:= .value (.func f),args:=xs,argTypes:=ts },t,pos,after,g⟩ a w K Q else E:=by
 rw [if_pos hw]
 have h0:=eff_call (P:=P) (ops:=ops) (a:=a) (w:=w) (Q:=Q) (dst:=dst) (t:=t) (pos:=pos) (after:=after) (K:=K) (E:=False) (xs:=xs) (ts:=ts) vs hf hv h
 rw [if_pos (want_none _ rfl)]at h0
 exact h0
theorem rg_skip {l:Array Bool}{n:Nat}{late:List Nat}{oi:Oper} (i:Nat) (hi:ops.toList[i]?=some oi) (hc:(Region.noSelect ops && Region.free .any ops l i && (Region.ready .any ops l).contains i && shutB ops l)=true)
  (hQ:∀ c a w,Q (.panic c) (a.put oi.dst undef) w→Q (.panic c) a w) (hw:Region.wanted oi (yielded ops a.tmps)=false) {a':Act} (ha:a.put oi.dst undef=a')
  (h:wpL P ops Q late G n (l.setIfInBounds i true) a' w):wpL P ops Q late G (n+1) l a w:=
 rg_pure i hi hc hQ (.inr ⟨hw,rfl⟩) ha h
end
end Go.Proofs.YtmjldaedhmipkaaGreatDoor
namespace Go.Med
def Med.which (D:Med) (s:ByteArray):Int:=match nget D.now s with
 |none=> -1
 |some i=>(i:Int)
end Go.Med
namespace Go.Proofs.YtmjldaedhmipkaaGreatDoor
open Go Go.Sl Go.Med Go.MapKept Go.RowKit
def nmL (p:ByteArray×Nat):List Value:=[.string p.1,.int .i64 p.2]
def nmsL (l:Names):List Value:=l.flatMap nmL
theorem nmsL_len (l:Names):(nmsL l).length=2 * l.length:=by
 unfold nmsL
 induction l with
 |nil=>rfl
 |cons x l ih=>rw [List.flatMap_cons,List.length_append,ih,List.length_cons];show 2+2 * l.length=_;omega
theorem nmsL_app (l k:Names):nmsL (l++k)=nmsL l++nmsL k:=by unfold nmsL;rw [List.flatMap_append]
theorem nmsL_at {l:Names}{i:Nat}{p:ByteArray×Nat} (h:l[i]?=some p):(nmsL l)[i * 2]?=some (.string p.1)∧(nmsL l)[i * 2+1]?=some (.int .i64 p.2):=by
 induction l generalizing i with
 |nil=>simp at h
 |cons a l ih=>
  cases i with
  |zero=>
   obtain rfl:a=p:=by simpa using h
   exact ⟨rfl,rfl⟩
  |succ i=>
   have e1:nmsL (a::l) = .string a.1 :: .int .i64 a.2::nmsL l:=rfl
   have h':l[i]?=some p:=by simpa using h
   rw [e1,show (i+1) * 2=i * 2+1+1 by omega]
   exact ih h'
abbrev Bag:=List (Value×Names)
def bagR (g:Bag):HProp:=stars (g.map fun p=>osl 175 2 p.1 (nmsL p.2))
structure RF where
 f:Fil
 fv:Value
 nv:Value
 wv:Value
 ws:List (Chg×Value)
def rfL (x:RF):List Value:=[x.fv,x.nv,x.wv]
def rfsL (xs:List RF):List Value:=xs.flatMap rfL
def rfR (x:RF):HProp:=stars [bsl x.fv x.f.fast,bsl x.nv x.f.now,osl 155 3 x.wv (x.ws.flatMap chgCells),chgs x.ws]
def rlkL (x:Lnk):List Value:=[.string x.fr,.string x.to,.int .i64 x.f]
abbrev dskPt (d:Nat) (D:Med) (fsv fv nv wv:Value):HProp:=
 pt d (.cells #[.int .i64 D.room,fsv,fv,nv,wv,.bool D.armed,.int .i64 D.left,.bool D.off] 136 (0,0))
def DskRaw (d:Nat) (D:Med) (fsv fv nv wv:Value) (xs:List RF) (g:Bag):List HProp:=
 [dskPt d D fsv fv nv wv,osl 164 3 fsv (rfsL xs),stars (xs.map rfR),bagR g,osl 243 3 wv (D.waits.flatMap rlkL)]
structure DskIn (D:Med) (fv nv:Value) (xs:List RF) (g:Bag):Prop where
 files:xs.map (·.f)=D.files
 ok:∀ x∈xs,x.ws.map (·.1)=x.f.waits
 fast:(fv,D.fast)∈g
 now:(nv,D.now)∈g
def DskRep (d:Nat) (D:Med):HProp:=fun h=>∃ fsv fv nv wv xs g,DskIn D fv nv xs g∧stars (DskRaw d D fsv fv nv wv xs g) h
section
variable {w0 w:World}{b o:Nat}{ops:Array Oper}{rest:List Oper}{a:Act}{Q:Exit→Act→World→Prop}{dst:Option Tmp}{t ty:TypeId}{pos:String}{after:Array Edge}{x:Operand}{P:Program}
theorem wl_loadN' (ks:List Value) (hx:a.eval x = .pointer (some ⟨b,o,none⟩)) (hc:∀ j v,ks[j]?=some v→w.cell? ⟨b,o+j,none⟩=some v)
  {d:TypeDesc} (hu:P.underlying ty=some d) (hd:d.isRow=true) (hi:(P.info? ty).map (·.size)=some ks.length)
  (h:wpList P ops Q rest (a.put dst (.agg ks.toArray)) w):wpList P ops Q (⟨dst,.load ty x,t,pos,after,none⟩::rest) a w:=
 wpList_load_mid rfl ty x rfl b o hx ks d hc hu hd hi h
end
theorem rfsL_len (xs:List RF):(rfsL xs).length=3 * xs.length:=by
 unfold rfsL
 induction xs with
 |nil=>rfl
 |cons x l ih=>rw [List.flatMap_cons,List.length_append,ih,List.length_cons];show 3+3 * l.length=_;omega
theorem rfsL_at {xs:List RF}{i:Nat}{x:RF} (h:xs[i]?=some x):(rfsL xs)[i * 3]?=some x.fv∧(rfsL xs)[i * 3+1]?=some x.nv∧(rfsL xs)[i * 3+2]?=some x.wv:=by
 induction xs generalizing i with
 |nil=>simp at h
 |cons a l ih=>
  cases i with
  |zero=>
   obtain rfl:a=x:=by simpa using h
   exact ⟨rfl,rfl,rfl⟩
  |succ i=>
   have e1:rfsL (a::l)=a.fv::a.nv::a.wv::rfsL l:=rfl
   have h':l[i]?=some x:=by simpa using h
   rw [e1,show (i+1) * 3=i * 3+1+1+1 by omega]
   exact ih h'
section
variable {w0 w:World}{F R:List HProp}{d:Nat}{D:Med}{fsv fv nv wv v:Value}{xs:List RF}{g:Bag}{K:Nat}
theorem DskRep.open (h:Sat w0 w (DskRep d D::F)):∃ fsv fv nv wv xs g,DskIn D fv nv xs g∧Sat w0 w (dskPt d D fsv fv nv wv::osl 164 3 fsv (rfsL xs)::stars (xs.map rfR)::bagR g::osl 243 3 wv (D.waits.flatMap rlkL)::F):=by
 obtain ⟨ha,x,hx,p,q,dd,rfl,⟨fsv,fv,nv,wv,xs,g,hin,hp⟩,hq⟩:=h
 refine ⟨fsv,fv,nv,wv,xs,g,hin,ha,_,hx,?_⟩
 show stars (DskRaw d D fsv fv nv wv xs g++F) _
 rw [stars_append]
 exact ⟨p,q,dd,rfl,hp,hq⟩
theorem DskRep.shut (hin:DskIn D fv nv xs g) (h:Sat w0 w (dskPt d D fsv fv nv wv::osl 164 3 fsv (rfsL xs)::stars (xs.map rfR)::bagR g::osl 243 3 wv (D.waits.flatMap rlkL)::F)):Sat w0 w (DskRep d D::F):=
 Sat.join (M:=DskRaw d D fsv fv nv wv xs g) h fun _ hx=>⟨fsv,fv,nv,wv,xs,g,hin,hx⟩
theorem stars_mem:∀ (l:List HProp) (A:HProp),A∈l→∃ G,stars l=star A G
 |B::l,A,h=>by
  rcases List.mem_cons.1 h with rfl|h
  ·exact ⟨_,rfl⟩
  ·obtain ⟨G,hG⟩:=stars_mem l A h
   refine ⟨star B G,?_⟩
   show star B (stars l)=_
   rw [hG,star_left_comm]
theorem bag_ro {l:Names} (h:(v,l)∈g):Ro w0 (bagR g::R) (rdsl 2 v (nmsL l)):=fun w hw=>by
 obtain ⟨G,hG⟩:=stars_mem _ _ (List.mem_map.2 ⟨(v,l),h,rfl⟩:osl 175 2 v (nmsL l)∈g.map fun p=>osl 175 2 p.1 (nmsL p.2))
 unfold bagR at hw
 rw [hG]at hw
 exact Sat.rd (Sat.star.1 hw)
theorem bag_add {l:Names} (h:Sat w0 w (osl 175 2 v (nmsL l)::bagR g::R)):Sat w0 w (bagR ((v,l)::g)::R):=Sat.star.2 h
theorem file_ro {x:RF} (h:x∈xs):Ro w0 (stars (xs.map rfR)::R) (rdsl 1 x.nv (bys x.f.now))∧Ro w0 (stars (xs.map rfR)::R) (rdsl 1 x.fv (bys x.f.fast)):=by
 obtain ⟨G,hG⟩:=stars_mem _ _ (List.mem_map.2 ⟨x,h,rfl⟩:rfR x∈xs.map rfR)
 refine ⟨fun w hw=>?_,fun w hw=>?_⟩
 ·rw [hG]at hw
  have h2:=Sat.star.1 hw
  unfold rfR at h2
  have h3:=Sat.star.1 h2
  exact Sat.rd (Sat.star.1 (h3.pick pick1))
 ·rw [hG]at hw
  have h2:=Sat.star.1 hw
  unfold rfR at h2
  exact Sat.rd (Sat.star.1 h2)
theorem DskIn.file (h:DskIn D fv nv xs g){i:Nat} (hi:i<D.files.length):∃ x,xs[i]?=some x∧x.f=D.file i:=by
 have hl:xs.length=D.files.length:=by rw [← h.files,List.length_map]
 refine ⟨xs[i]'oQ,List.getElem?_eq_getElem _,?_⟩
 unfold Med.file
 rw [List.getD_eq_getElem?_getD,← h.files,List.getElem?_map,List.getElem?_eq_getElem oQ]
 rfl
theorem nms_sl {l:Names} (h:rdsl 2 v (nmsL l) w):∃ a c,v = .slice a l.length c:=by
 obtain ⟨a,n,c,rfl,hl,hx⟩:=h
 rw [nmsL_len]at hl
 obtain rfl:n=l.length:=by omega
 exact ⟨a,c,rfl⟩
theorem nms_cells {l:Names}{i:Nat}{p:ByteArray×Nat} (h:rdsl 2 v (nmsL l) w) (hi:l[i]?=some p) :
  ∃ bk off c,v = .slice (some ⟨bk,off,none⟩) l.length c∧w.cell? ⟨bk,off+i * 2,none⟩=some (.string p.1)∧w.cell? ⟨bk,off+i * 2+1,none⟩=some (.int .i64 p.2):=by
 obtain ⟨a,c,rfl⟩:=nms_sl h
 obtain ⟨h0,h1⟩:=nmsL_at hi
 obtain ⟨bk,off,rfl,hc⟩:=rdsl_cells h h0
 exact ⟨bk,off,c,rfl,hc _ _ h0,by rw [Nat.add_assoc];exact hc _ _ h1⟩
theorem rnames_c (h:Sat w0 w (dskPt d D fsv fv nv wv::F)):Calls Tryz.prog 119 #[ptr d] w (Rtn fun v w'=>v=nv∧w=w'):=by
 have e3:w.cell? ⟨d,3,none⟩=some nv:=h.cellAt 3 _ rfl
 go_enter Tryz.func119,Tryz.ntmps119
 go_wp2
 go_ret
 exact ⟨_,rfl,rfl,rfl⟩
set_option maxRecDepth 20000 in
theorem rfind_c (s:ByteArray) (hl:D.now.length≤1048576) (h:Sat w0 w (DskRep d D::F)):Calls Tryz.prog 84 #[ptr d,.string s] w (Rtn fun v w'=>v = .int .i64 (D.which s)∧w=w'):=by
 obtain ⟨fsv,fv,nv,wv,xs,g,hin,hR⟩:=DskRep.open h
 have hrd:=(bag_ro (w0:=w0) hin.now) w (hR.pick pick3)
 have hn:=rnames_c hR
 have Hw:=uQ (show D.which s=match nget D.now s with|none=> -1|some i=>(i:Int) from rfl)
 clear hin hR
 generalize D.now=l at *
 obtain ⟨la,lc,rfl⟩:=nms_sl hrd
 go_enter Tryz.func84,Tryz.ntmps84
 go_wp2_with fail
 refine hn.mono ?_
 rintro ee w1 ⟨v,rfl,rfl,rfl⟩
 clear hn
 go_wp2_with fail
 go_loopg [6] l.length (fun g iq wr=>∃ i:Nat,g=l.length - i∧i≤l.length∧iq = .int .i64 i∧nget l s=nget (l.drop i) s∧wr=w)
 case atStart=>exact ⟨0,rfl,Nat.zero_le _,rfl,rfl,rfl⟩
 case round=>
  obtain ⟨i,rfl,hi,rfl,hg,rfl⟩:=hrel
  by_cases hlt:i<l.length
  ·have c1:(i:Int)<(l.length:Int):=by omega
   have hwi:=iwQ (i:=i)
   obtain ⟨p,hp⟩:∃ p,l[i]?=some p:=⟨_,List.getElem?_eq_getElem hlt⟩
   obtain ⟨bk,off,c,hee,e0,e1⟩:=nms_cells hrd hp
   cases hee
   have hdr:l.drop i=p::l.drop (i+1):=by
    obtain ⟨h1,h2⟩:=List.getElem?_eq_some_iff.1 hp
    rw [← h2];exact List.drop_eq_getElem_cons h1
   have Hlt:=uQ hlt
   rw [hdr]at hg
   unfold nget at hg
   rw [List.find?_cons]at hg
   have Hg:=uQ hg
   clear hlt hp hdr hg
   obtain ⟨ps,pi⟩:=p
   dsimp only at Hg e0 e1
   by_cases hs:ps=s
   ·subst hs
    have hb:(ps.toList==ps.toList)=true:=beq_self_eq_true _
    have hgb:(ps==ps)=true:=by rw [beq_ba];exact decide_eq_true rfl
    have hfin:=Hg.out
    rw [hgb]at hfin
    have Hfin:=uQ (show nget l ps=some pi from hfin)
    clear hfin Hg hgb
    go_wp2
    go_ret
    exact ⟨_,rfl,by rw [Hw.out,Hfin.out];rfl,rfl⟩
   ·have hb:(ps.toList==s.toList)=false:=by
     rw [beq_eq_false_iff_ne]
     intro e
     apply hs
     rw [ByteArray.toList_eq,ByteArray.toList_eq]at e
     obtain ⟨⟨x⟩⟩:=ps;obtain ⟨⟨y⟩⟩:=s
     simp at e;subst e;rfl
    have hgb:(ps==s)=false:=by rw [beq_ba];exact decide_eq_false hs
    have hfin:=Hg.out
    rw [hgb]at hfin
    have Hfin:=uQ (show nget l s=nget (l.drop (i+1)) s from hfin)
    clear hfin Hg hgb hs
    go_wp2
    go_roundg (l.length - (i+1))
    case measure=>have:=Hlt.out;omega
    case rel=>exact ⟨i+1,rfl,Nat.succ_le_of_lt Hlt.out,by first|rfl|go_num,Hfin.out,rfl⟩
  ·obtain rfl:i=l.length:=by omega
   have c1:¬ (l.length:Int)<(l.length:Int):=oQ
   rw [List.drop_length]at hg
   have Hg:=uQ hg
   clear hlt hg
   go_wp2
   go_ret
   exact ⟨_,rfl,by rw [Hw.out,Hg.out];rfl,rfl⟩
end
section
variable {w0 w:World}{F R:List HProp}{d:Nat}{D:Med}{fsv fv nv wv v lv:Value}{xs:List RF}{g:Bag}{K:Nat}
theorem ba_eq {a b:ByteArray} (h:a≠b):(a.toList==b.toList)=false:=by
 rw [beq_eq_false_iff_ne]
 intro e
 apply h
 rw [ByteArray.toList_eq,ByteArray.toList_eq]at e
 obtain ⟨⟨x⟩⟩:=a;obtain ⟨⟨y⟩⟩:=b
 simp at e;subst e;rfl
theorem nm_pair {l:Names}{i:Nat}{p:ByteArray×Nat} (h:rdsl 2 v (nmsL l) w) (hi:l[i]?=some p) :
  ∃ bk off c,v = .slice (some ⟨bk,off,none⟩) l.length c∧∀ j y,(nmL p)[j]?=some y→w.cell? ⟨bk,off+i * 2+j,none⟩=some y:=by
 obtain ⟨bk,off,c,e,h0,h1⟩:=nms_cells h hi
 refine ⟨bk,off,c,e,fun j y hj=>?_⟩
 rcases j with _|_|j
 ·cases hj;exact h0
 ·cases hj;exact h1
 ·simp [nmL]at hj
theorem infoNm:(Tryz.prog.info? 175).map (·.size)=some 2:=by kernel_rfl
theorem ndel_snoc (l:Names) (p:ByteArray×Nat) (s:ByteArray):ndel (l++[p]) s=ndel l s++(if (p.1 != s)=true then [p] else []):=by
 unfold ndel
 rw [List.filter_append]
 congr 1
 simp only [List.filter_cons,List.filter_nil]
set_option maxRecDepth 20000 in
theorem rwithout_c (l:Names) (s:ByteArray) (hl:l.length≤1048576) (hr:Ro w0 F (rdsl 2 lv (nmsL l))) (h:Sat w0 w F) :
  Calls Tryz.prog 165 #[lv,.string s] w (Rtn fun v w'=>∃ ov,v=ov∧Sat w0 w' (osl 175 2 ov (nmsL (ndel l s))::F)):=by
 obtain ⟨la,lc,rfl⟩:=nms_sl (hr w h)
 have Hr:=uQ hr;have Hl:=uQ hl
 clear hr hl
 go_enter Tryz.func165,Tryz.ntmps165
 go_wp2_with fail
 go_loopg [5,6] l.length (fun g ov iq wr=>∃ i:Nat,g=l.length - i∧i≤l.length∧iq = .int .i64 i∧Sat w0 wr (osl 175 2 ov (nmsL (ndel (l.take i) s))::F))
 case atStart=>exact ⟨0,rfl,Nat.zero_le _,rfl,Sat.osl_nil.2 h⟩
 case round=>
  obtain ⟨i,rfl,hi,rfl,hS⟩:=hrel
  clear h
  by_cases hlt:i<l.length
  ·have Hlt:=uQ hlt
   have hl:=Hl.out
   have c1:(i:Int)<(l.length:Int):=oQ
   have hwi:=iwQ (i:=i)
   obtain ⟨p,hp⟩:∃ p,l[i]?=some p:=⟨_,List.getElem?_eq_getElem hlt⟩
   obtain ⟨bk,off,c,hee,hcells⟩:=nm_pair (Hr.out _ hS.drop) hp
   cases hee
   have e0:wr.cell? ⟨bk,off+i * 2,none⟩=some (.string p.1):=hcells 0 _ rfl
   have Hcells:=uQ hcells
   have Hnext:=uQ (show ndel (l.take (i+1)) s=ndel (l.take i) s++(if (p.1 != s)=true then [p] else []) by
    rw [List.take_add_one,hp];exact ndel_snoc _ _ _)
   have hlen:(nmsL (ndel (l.take i) s)).length≤2147483648:=by
    rw [nmsL_len]
    have h1:=ndel_len (l.take i) s
    rw [List.length_take]at h1
    omega
   clear hlt hp hcells hl
   obtain ⟨ps,pi⟩:=p
   dsimp only at e0 Hnext
   by_cases hs:ps=s
   ·subst hs
    have hb:(ps.toList==ps.toList)=true:=beq_self_eq_true _
    have hbn:(ps.toList != ps.toList)=false:=by rw [bne,hb];rfl
    have hn2:=Hnext.out
    rw [if_neg (by simp [bne,beq_ba]),List.append_nil]at hn2
    have Hn2:=uQ hn2
    clear hn2 Hnext
    go_wp2_with fail
    go_roundg (l.length - (i+1))
    case measure=>have:=Hlt.out;omega
    case rel=>exact ⟨i+1,rfl,Nat.succ_le_of_lt Hlt.out,by first|rfl|go_num,by rw [Hn2.out];exact hS⟩
   ·have hb:=ba_eq hs
    have hbn:(ps.toList != s.toList)=true:=by rw [bne,hb];rfl
    have hn2:=Hnext.out
    rw [if_pos (by simp [bne,beq_ba,hs])]at hn2
    have Hn2:=uQ hn2
    clear hn2 Hnext hs
    go_wp2_with (first
     |((with_reducible refine at_load ⟨?_⟩);refine wl_loadN' (b:=bk) (o:=off+i * 2) (nmL (ps,pi)) rQ Hcells.out Tryz.underlying175 rfl infoNm ?_)
     |((with_reducible refine at_build1 ⟨?_⟩);refine wl_build1 (e:=175) (sz:=2) (by':=24) kQ hS rQ (cs:=(nmL (ps,pi)).toArray) rfl rfl bQ ?_;intro bN wN hN)
     |(with_reducible apply at_append))
    refine ⟨wl_app 175 2 24 kQ hN rQ rQ pkD pkD rQ (Nat.le_refl 1) rQ hlen (by show 2≤65536;decide) dQ rfl ?_⟩
    intro bA nA cA wA hA
    go_wp2_with fail
    have e9:nmsL (ndel (l.take i) s)++nmL (ps,pi)=nmsL (ndel (l.take (i+1)) s):=by rw [Hn2.out,nmsL_app];simp [nmsL]
    rw [e9]at hA
    go_roundg (l.length - (i+1))
    case measure=>have:=Hlt.out;omega
    case rel=>exact ⟨i+1,rfl,Nat.succ_le_of_lt Hlt.out,by first|rfl|go_num,hA⟩
  ·obtain rfl:i=l.length:=by omega
   have c1:¬ (l.length:Int)<(l.length:Int):=oQ
   rw [List.take_length]at hS
   clear hlt
   go_wp2
   go_ret
   exact ⟨_,rfl,hS⟩
theorem gtr_lt (p s:ByteArray):(!Op.bytesLess p.toList s.toList && !p.toList==s.toList)=lt s p:=by
 rw [bytesLess_eq,ByteArray.toList_eq,ByteArray.toList_eq]
 by_cases e:p=s
 ·subst e
  rw [lt_irrefl]
  simp
 ·have he:(p.data.toList==s.data.toList)=false:=by
   have:=ba_eq e
   rw [ByteArray.toList_eq,ByteArray.toList_eq]at this
   exact this
  rw [he]
  rcases lt_or e with h|h
  ·have h2:lt s p=false:=by
    cases h3:lt s p with
    |false=>rfl
    |true=>have:=lt_trans h h3;rw [lt_irrefl]at this;cases this
   rw [h2]
   unfold lt at h
   rw [h];rfl
  ·have h2:lt p s=false:=by
    cases h3:lt p s with
    |false=>rfl
    |true=>have:=lt_trans h h3;rw [lt_irrefl]at this;cases this
   rw [h]
   unfold lt at h2
   rw [h2];rfl
theorem nins_lt {l:Names}{s:ByteArray}{i:Nat}{p:ByteArray×Nat} (h:lt s p.1=true):nins (p::l) s i=(s,i)::p::l:=by
 show (if lt s p.1 then (s,i)::p::l else p::nins l s i)=_
 rw [if_pos h]
theorem nins_ge {l:Names}{s:ByteArray}{i:Nat}{p:ByteArray×Nat} (h:lt s p.1=false):nins (p::l) s i=p::nins l s i:=by
 show (if lt s p.1 then (s,i)::p::l else p::nins l s i)=_
 rw [if_neg (by rw [h];decide)]
set_option maxRecDepth 20000 in
theorem rwith_c (l:Names) (s:ByteArray) (f:Nat) (hl:l.length≤1048576) (hr:Ro w0 F (rdsl 2 lv (nmsL l))) (h:Sat w0 w F) :
  Calls Tryz.prog 166 #[lv,.agg #[.string s,.int .i64 f]] w (Rtn fun v w'=>∃ ov,v=ov∧Sat w0 w' (osl 175 2 ov (nmsL (nput l s f))::F)):=by
 have Hr:=uQ hr;have Hl:=uQ hl
 clear hr hl
 go_enter Tryz.func166,Tryz.ntmps166
 go_wp2_with (first|((with_reducible refine at_box ⟨?_⟩);refine wl_box aQ evD evD ?_;intro bB wB hB)|((with_reducible refine at_load ⟨?_⟩);refine ldQ ?_))
 refine (rwithout_c l s Hl.out (Ro.os Hr.out) hB).mono ?_
 rintro ee w1 ⟨v,rfl,v1,rfl,hS1⟩
 have Hz:=uQ (Nat.le_trans (ndel_len l s) Hl.out)
 have Hfin:=uQ (show nput l s f=nins (ndel l s) s f from rfl)
 clear h hB
 generalize ndel l s=k at *
 obtain ⟨ka,kc,rfl⟩:=nms_sl (Sat.rd hS1)
 go_wp2_with fail
 have hS2:Sat w0 w1 (osl 175 2 (.slice none 0 0) (nmsL [])::osl 175 2 (.slice ka k.length kc) (nmsL k)::pt bB (.cells #[.string s,.int .i64 f] 175 (0,0))::F):=Sat.osl_nil.2 hS1
 clear hS1
 go_loopg [5,6,7] k.length (fun g ov dv iq wr=>∃ (i:Nat) (b:Bool) (o:Names),g=k.length - i∧i≤k.length∧iq = .int .i64 i∧dv = .bool b∧o.length≤i+1 ∧
  (b=false∧o=k.take i∧nins k s f=k.take i++nins (k.drop i) s f∨b=true∧nins k s f=o++k.drop i) ∧
  Sat w0 wr (osl 175 2 ov (nmsL o)::osl 175 2 (.slice ka k.length kc) (nmsL k)::pt bB (.cells #[.string s,.int .i64 f] 175 (0,0))::F))
 case atStart=>exact ⟨0,false,[],rfl,Nat.zero_le _,rfl,rfl,Nat.zero_le _,.inl ⟨rfl,rfl,rfl⟩,hS2⟩
 case round=>
  obtain ⟨i,b,o,rfl,hi,rfl,rfl,hol,hcase,hS⟩:=hrel
  clear hS2
  by_cases hlt:i<k.length
  ·have Hlt:=uQ hlt
   have hz:=Hz.out
   have c1:(i:Int)<(k.length:Int):=oQ
   have hwi:=iwQ (i:=i)
   obtain ⟨p,hp⟩:∃ p,k[i]?=some p:=⟨_,List.getElem?_eq_getElem hlt⟩
   obtain ⟨bk,off,c,hee,hcells⟩:=nm_pair (Sat.rd (hS.pick pick1)) hp
   cases hee
   have HCs:=uQ (show ∀ w' R,Sat w0 w' (osl 175 2 (.slice (some ⟨bk,off,none⟩) k.length kc) (nmsL k)::R)→∀ j y,(nmL p)[j]?=some y→w'.cell? ⟨bk,off+i * 2+j,none⟩=some y from fun w' R hw j y hj=>by
    obtain ⟨_,_,_,hee,h0⟩:=nm_pair (Sat.rd hw) hp
    cases hee;exact h0 j y hj)
   have hdr:k.drop i=p::k.drop (i+1):=by
    obtain ⟨h1,h2⟩:=List.getElem?_eq_some_iff.1 hp
    rw [← h2];exact List.drop_eq_getElem_cons h1
   have htk:k.take (i+1)=k.take i++[p]:=by rw [List.take_add_one,hp];rfl
   have Hdr:=uQ hdr;have Htk:=uQ htk;have Hol:=uQ hol
   have hlen:(nmsL o).length≤2147483648:=by rw [nmsL_len];omega
   have hlen2:(nmsL (o++[(s,f)])).length≤2147483648:=by rw [nmsL_len,List.length_append];simp only [List.length_singleton];omega
   clear hlt hp hdr htk hcells hol
   obtain ⟨ps,pi⟩:=p
   have e1:∀ a:Names,nmsL a++nmL (ps,pi)=nmsL (a++[(ps,pi)]):=fun a=>by rw [nmsL_app];simp [nmsL]
   have e2:∀ a:Names,nmsL a++nmL (s,f)=nmsL (a++[(s,f)]):=fun a=>by rw [nmsL_app];simp [nmsL]
   have E1:=uQ e1;have E2:=uQ e2
   clear e1 e2
   cases b with
   |true=>
    have hcase2:nins k s f=(o++[(ps,pi)])++k.drop (i+1):=by
     rcases hcase with ⟨h1,_⟩|⟨_,h1⟩
     ·cases h1
     ·rw [h1,Hdr.out];simp
    have Hcase:=uQ hcase2
    clear hcase hcase2
    go_wp2_with fail
    have hS1:=hS.drew
    clear hS
    refine wpL_begin [10,11] (fun _=>True) kQ ?_
    have hG:True:=trivial
    refine rP 0 ?_ (y:=mvQ)
    refine rP 1 ?_ (y:=(yl_un evD rnD))
    refine rP 2 ?_ (y:=mvQ)
    refine rg_skip 3 evD kQ iQ rQ gQ ?_
    refine rg_skip 4 evD kQ iQ rQ gQ ?_
    refine rg_skip 5 evD kQ iQ rQ gQ ?_
    refine rg_skip 6 evD kQ iQ rQ gQ ?_
    refine rg_skip 7 evD kQ iQ rQ gQ ?_
    refine rg_skip 8 evD kQ iQ rQ gQ ?_
    refine rg_skip 9 evD kQ iQ rQ gQ ?_
    refine rg_skip 10 evD kQ iQ rQ gQ ?_
    refine rP 11 ?_ (y:=(yg_pick rQ evD evD))
    refine wdQ ?_
    clear hG
    try simp only [ayQ]
    try go_frame
    go_wp2_with (first
     |((with_reducible refine at_load ⟨?_⟩);refine wl_loadN' (b:=bk) (o:=off+i * 2) (nmL (ps,pi)) rQ (HCs.out _ _ (hS1.pick pick1)) Tryz.underlying175 rfl infoNm ?_)
     |((with_reducible refine at_build1 ⟨?_⟩);refine wl_build1 (e:=175) (sz:=2) (by':=24) kQ hS1 rQ (cs:=(nmL (ps,pi)).toArray) rfl rfl bQ ?_;intro bN wN hN)
     |((with_reducible refine at_append ⟨?_⟩);refine wl_app 175 2 24 kQ hN rQ rQ (pick_there (pick0 (A:=osl 175 2 u5 (nmsL o)))) pick0 rQ (Nat.le_refl 1) rQ hlen (by show 2≤65536;decide) dQ rfl ?_;intro bA nA cA wA hA))
    rw [E1.out]at hA
    go_roundg (k.length - (i+1))
    case measure=>have:=Hlt.out;omega
    case rel=>exact ⟨i+1,true,o++[(ps,pi)],rfl,Nat.succ_le_of_lt Hlt.out,by first|rfl|go_num,rfl,by rw [List.length_append];have:=Hol.out;simp only [List.length_singleton];omega,.inr ⟨rfl,Hcase.out⟩,hA.sub (sub_take pick0 (sub_take pick0 sub_refl))⟩
   |false=>
    have hc2:o=k.take i∧nins k s f=k.take i++nins ((ps,pi)::k.drop (i+1)) s f:=by
     rcases hcase with ⟨_,h1,h2⟩|⟨h1,_⟩
     ·exact ⟨h1,by rw [h2,Hdr.out]⟩
     ·cases h1
    obtain ⟨rfl,hc3⟩:=hc2
    have Hc3:=uQ hc3
    go_wp2_with fail
    have hS1:=hS.drew
    clear hS hcase hc3
    have hgl:=gtr_lt ps s
    cases hlp:lt s ps with
    |true=>
     rw [hlp]at hgl
     have hgt:=hgl
     have Hc4:=uQ (show nins k s f=(k.take i++[(s,f)]++[(ps,pi)])++k.drop (i+1) by rw [Hc3.out,nins_lt (p:=(ps,pi)) hlp];simp)
     clear hgl hlp Hc3
     refine wpL_begin [10,11] (fun w'=>w'.cell? ⟨bk,off+i * 2,none⟩=some (.string ps)∧w'.cell? ⟨bB,0,none⟩=some (.string s)) kQ ?_
     have hG:World.cell? _ ⟨bk,off+i * 2,none⟩=some (.string ps)∧World.cell? _ ⟨bB,0,none⟩=some (.string s):=⟨HCs.out _ _ (hS1.pick pick1) 0 _ rfl,hS1.cellP pick2 0 rfl⟩
     refine rP 0 ?_ (y:=mvQ)
     refine rP 1 ?_ (y:=(yl_un evD rnD))
     refine rP 2 ?_ (y:=mvQ)
     refine rP 3 ?_ (y:=(yg_move rQ evD))
     refine rP 4 ?_ (y:=(yg_move rQ evD))
     refine rP 5 ?_ (y:=(yg_index rQ evD evD rnD))
     refine rP 6 ?_ (y:=(yg_field rQ evD rnD))
     refine rg_take 7 evD kQ iQ (tg_load rQ evD kQ (fun w hw=>hw.1)) aQ gQ ?_
     refine rP 8 ?_ (y:=(yg_field rQ evD rnD))
     refine rg_take 9 evD kQ iQ (tg_load rQ evD kQ (fun w hw=>hw.2)) aQ gQ ?_
     refine rP 10 ?_ (y:=(yg_bin rQ evD evD rnD))
     refine rP 11 ?_ (y:=(yg_pick rQ evD evD))
     refine wdQ ?_
     clear hG
     try simp only [ayQ]
     try go_frame
     try simp only [hgt]
     go_wp2_with (first
      |((with_reducible refine at_load ⟨?_⟩);refine wl_loadA (b:=bB) hS1 rQ pick2 Tryz.underlying175 rfl kQ ?_)
      |((with_reducible refine at_build1 ⟨?_⟩);refine wl_build1 (e:=175) (sz:=2) (by':=24) kQ hS1 rQ (cs:=(nmL (s,f)).toArray) rfl rfl bQ ?_;intro bM wM hM)
      |((with_reducible refine at_append ⟨?_⟩);refine wl_app 175 2 24 kQ hM rQ rQ (pick_there (pick0 (A:=osl 175 2 u5 (nmsL (k.take i))))) pick0 rQ (Nat.le_refl 1) rQ hlen (by show 2≤65536;decide) dQ rfl ?_;intro bA nA cA wA hA)
      |(with_reducible apply at_load))
     rw [E2.out]at hA
     have hS2:Sat w0 wA (osl 175 2 (.slice (some ⟨bA,0,none⟩) nA cA) (nmsL (k.take i++[(s,f)]))::osl 175 2 (.slice (some ⟨bk,off,none⟩) k.length kc) (nmsL k)::pt bB (.cells #[.string s,.int .i64 f] 175 (0,0))::F):=hA.sub (sub_take pick0 (sub_take pick0 (sub_take pick0 sub_refl)))
     clear hM hA
     refine ⟨wl_loadN' (b:=bk) (o:=off+i * 2) (nmL (ps,pi)) rQ (HCs.out _ _ (hS2.pick pick1)) Tryz.underlying175 rfl infoNm ?_⟩
     go_wp2_with (first
      |((with_reducible refine at_build1 ⟨?_⟩);refine wl_build1 (e:=175) (sz:=2) (by':=24) kQ hS2 rQ (cs:=(nmL (ps,pi)).toArray) rfl rfl bQ ?_;intro bN wN hN)
      |((with_reducible refine at_append ⟨?_⟩);refine wl_app 175 2 24 kQ hN rQ rQ (pick_there (pick0 (A:=osl 175 2 (.slice (some ⟨bA,0,none⟩) nA cA) (nmsL (k.take i++[(s,f)]))))) pick0 rQ (Nat.le_refl 1) rQ hlen2 (by show 2≤65536;decide) dQ rfl ?_;intro bA2 nA2 cA2 wA2 hA2))
     rw [E1.out]at hA2
     go_roundg (k.length - (i+1))
     case measure=>have:=Hlt.out;omega
     case rel=>exact ⟨i+1,true,_,rfl,Nat.succ_le_of_lt Hlt.out,by first|rfl|go_num,rfl,by rw [List.length_append,List.length_append,List.length_take];simp only [List.length_singleton];omega,.inr ⟨rfl,Hc4.out⟩,hA2.sub (sub_take pick0 (sub_take pick0 sub_refl))⟩
    |false=>
     rw [hlp]at hgl
     have hgt:=hgl
     have Hc4:=uQ (show nins k s f=k.take (i+1)++nins (k.drop (i+1)) s f by rw [Hc3.out,nins_ge (p:=(ps,pi)) hlp,Htk.out];simp)
     clear hgl hlp Hc3
     refine wpL_begin [10,11] (fun w'=>w'.cell? ⟨bk,off+i * 2,none⟩=some (.string ps)∧w'.cell? ⟨bB,0,none⟩=some (.string s)) kQ ?_
     have hG:World.cell? _ ⟨bk,off+i * 2,none⟩=some (.string ps)∧World.cell? _ ⟨bB,0,none⟩=some (.string s):=⟨HCs.out _ _ (hS1.pick pick1) 0 _ rfl,hS1.cellP pick2 0 rfl⟩
     refine rP 0 ?_ (y:=mvQ)
     refine rP 1 ?_ (y:=(yl_un evD rnD))
     refine rP 2 ?_ (y:=mvQ)
     refine rP 3 ?_ (y:=(yg_move rQ evD))
     refine rP 4 ?_ (y:=(yg_move rQ evD))
     refine rP 5 ?_ (y:=(yg_index rQ evD evD rnD))
     refine rP 6 ?_ (y:=(yg_field rQ evD rnD))
     refine rg_take 7 evD kQ iQ (tg_load rQ evD kQ (fun w hw=>hw.1)) aQ gQ ?_
     refine rP 8 ?_ (y:=(yg_field rQ evD rnD))
     refine rg_take 9 evD kQ iQ (tg_load rQ evD kQ (fun w hw=>hw.2)) aQ gQ ?_
     refine rP 10 ?_ (y:=(yg_bin rQ evD evD rnD))
     refine rP 11 ?_ (y:=(yg_pick rQ evD evD))
     refine wdQ ?_
     clear hG
     try simp only [ayQ]
     try go_frame
     try simp only [hgt]
     go_wp2_with (first
      |((with_reducible refine at_load ⟨?_⟩);refine wl_loadN' (b:=bk) (o:=off+i * 2) (nmL (ps,pi)) rQ (HCs.out _ _ (hS1.pick pick1)) Tryz.underlying175 rfl infoNm ?_)
      |((with_reducible refine at_build1 ⟨?_⟩);refine wl_build1 (e:=175) (sz:=2) (by':=24) kQ hS1 rQ (cs:=(nmL (ps,pi)).toArray) rfl rfl bQ ?_;intro bN wN hN)
      |((with_reducible refine at_append ⟨?_⟩);refine wl_app 175 2 24 kQ hN rQ rQ (pick_there (pick0 (A:=osl 175 2 u5 (nmsL (k.take i))))) pick0 rQ (Nat.le_refl 1) rQ hlen (by show 2≤65536;decide) dQ rfl ?_;intro bA nA cA wA hA))
     rw [E1.out,← Htk.out]at hA
     go_roundg (k.length - (i+1))
     case measure=>have:=Hlt.out;omega
     case rel=>exact ⟨i+1,false,_,rfl,Nat.succ_le_of_lt Hlt.out,by first|rfl|go_num,rfl,by rw [List.length_take];omega,.inl ⟨rfl,rfl,Hc4.out⟩,hA.sub (sub_take pick0 (sub_take pick0 sub_refl))⟩
  ·obtain rfl:i=k.length:=by omega
   have c1:¬ (k.length:Int)<(k.length:Int):=oQ
   rw [List.take_length,List.drop_length]at hcase
   have hz:=Hz.out
   have hlen:(nmsL o).length≤2147483648:=by rw [nmsL_len];omega
   clear hlt
   cases b with
   |true=>
    have hc2:nins k s f=o:=by
     rcases hcase with ⟨h1,_⟩|⟨_,h1⟩
     ·cases h1
     ·rw [h1,List.append_nil]
    have Hc2:=uQ hc2
    clear hcase hc2
    go_wp2
    go_ret
    exact ⟨_,rfl,by rw [Hfin.out,Hc2.out];exact hS.sub (sub_take pick0 (sub_drop (sub_drop sub_refl)))⟩
   |false=>
    have hc2:o=k∧nins k s f=k++[(s,f)]:=by
     rcases hcase with ⟨_,h1,h2⟩|⟨h1,_⟩
     ·exact ⟨h1,h2⟩
     ·cases h1
    obtain ⟨rfl,hc3⟩:=hc2
    have Hc3:=uQ hc3
    clear hcase hc3
    go_wp2_with (first
     |((with_reducible refine at_load ⟨?_⟩);refine wl_loadA (b:=bB) hS rQ pick2 Tryz.underlying175 rfl kQ ?_)
     |((with_reducible refine at_build1 ⟨?_⟩);refine wl_build1 (e:=175) (sz:=2) (by':=24) kQ hS rQ (cs:=(nmL (s,f)).toArray) rfl rfl bQ ?_;intro bM wM hM)
     |((with_reducible refine at_append ⟨?_⟩);refine wl_app 175 2 24 kQ hM rQ rQ (pick_there (pick0 (A:=osl 175 2 u5 (nmsL o)))) pick0 rQ (Nat.le_refl 1) rQ hlen (by show 2≤65536;decide) dQ rfl ?_;intro bA nA cA wA hA))
    go_ret
    have e2:nmsL o++nmL (s,f)=nmsL (o++[(s,f)]):=by rw [nmsL_app];simp [nmsL]
    rw [e2]at hA
    exact ⟨_,rfl,by rw [Hfin.out,Hc3.out];exact hA.sub (sub_take pick0 (sub_drop (sub_drop sub_refl)))⟩
end
section
variable {w0 w:World}{F R:List HProp}{d:Nat}{D:Med}{fsv fv nv wv v lv:Value}{xs:List RF}{g:Bag}{K:Nat}
theorem ba_is {s:ByteArray} (h:s≠ByteArray.empty):(s.toList==[])=false:=by
 have:=ba_eq h
 rw [ByteArray.toList_eq ByteArray.empty]at this
 exact this
set_option maxRecDepth 20000 in
theorem rlinked_c (l:Names) (x:Lnk) (hl:l.length≤1048575) (hg:(lv,l)∈g) (h:Sat w0 w (bagR g::F)) :
  Calls Tryz.prog 142 #[lv,.agg #[.string x.fr,.string x.to,.int .i64 x.f]] w (Rtn fun v w'=>∃ ov g',v=ov∧(ov,x.on l)∈g'∧(∀ q∈g,q∈g')∧Sat w0 w' (bagR g'::F)):=by
 have Hg:=uQ hg;have Hl:=uQ hl
 obtain ⟨fr,to,f⟩:=x
 have Hon:=uQ (show (Lnk.mk fr to f).on l=if to=ByteArray.empty then (if fr=ByteArray.empty then l else ndel l fr) else nput (if fr=ByteArray.empty then l else ndel l fr) to f from rfl)
 clear hg hl
 go_enter Tryz.func142,Tryz.ntmps142
 by_cases hf:fr=ByteArray.empty
 ·rw [if_pos hf]at Hon
  have e1:=ba_nil hf
  clear hf
  by_cases ht:to=ByteArray.empty
  ·rw [if_pos ht]at Hon
   have e2:=ba_nil ht
   clear ht
   go_wp2_with (first|((with_reducible refine at_box ⟨?_⟩);refine wl_box aQ evD evD ?_;intro bB wB hB)|((with_reducible refine at_load ⟨?_⟩);refine ldQ ?_))
   go_ret
   exact ⟨_,rfl,_,g,rfl,by rw [Hon.out];exact Hg.out,fun q hq=>hq,hB.drop⟩
  ·rw [if_neg ht]at Hon
   have e2:=ba_is ht
   clear ht
   go_wp2_with (first|((with_reducible refine at_box ⟨?_⟩);refine wl_box aQ evD evD ?_;intro bB wB hB)|((with_reducible refine at_load ⟨?_⟩);refine ldQ ?_))
   refine (rwith_c l to f (Nat.le_succ_of_le Hl.out) (Ro.of_pick (bag_ro Hg.out) pick1) hB).mono ?_
   rintro ee w1 ⟨v,rfl,v1,rfl,hS1⟩
   clear h hB
   go_wp2
   go_ret
   exact ⟨_,rfl,_,_,rfl,by rw [Hon.out];exact .head _,fun q hq=> .tail _ hq,bag_add (hS1.sub (sub_take pick0 (sub_drop (sub_take pick0 sub_refl))))⟩
 ·rw [if_neg hf]at Hon
  have e1:=ba_is hf
  clear hf
  by_cases ht:to=ByteArray.empty
  ·rw [if_pos ht]at Hon
   have e2:=ba_nil ht
   clear ht
   go_wp2_with (first|((with_reducible refine at_box ⟨?_⟩);refine wl_box aQ evD evD ?_;intro bB wB hB)|((with_reducible refine at_load ⟨?_⟩);refine ldQ ?_))
   refine (rwithout_c l fr (Nat.le_succ_of_le Hl.out) (Ro.of_pick (bag_ro Hg.out) pick1) hB).mono ?_
   rintro ee w1 ⟨v,rfl,v1,rfl,hS1⟩
   clear h hB
   go_wp2_with ((with_reducible refine at_load ⟨?_⟩);refine ldQ ?_)
   go_ret
   exact ⟨_,rfl,_,_,rfl,by rw [Hon.out];exact .head _,fun q hq=> .tail _ hq,bag_add (hS1.sub (sub_take pick0 (sub_drop (sub_take pick0 sub_refl))))⟩
  ·rw [if_neg ht]at Hon
   have e2:=ba_is ht
   clear ht
   go_wp2_with (first|((with_reducible refine at_box ⟨?_⟩);refine wl_box aQ evD evD ?_;intro bB wB hB)|((with_reducible refine at_load ⟨?_⟩);refine ldQ ?_))
   refine (rwithout_c l fr (Nat.le_succ_of_le Hl.out) (Ro.of_pick (bag_ro Hg.out) pick1) hB).mono ?_
   rintro ee w1 ⟨v,rfl,v1,rfl,hS1⟩
   clear h hB
   have hz:(ndel l fr).length≤1048576:=Nat.le_trans (ndel_len l fr) (Nat.le_succ_of_le Hl.out)
   have Hz:=uQ hz
   clear hz
   go_wp2_with ((with_reducible refine at_load ⟨?_⟩);refine ldQ ?_)
   refine (rwith_c (ndel l fr) to f Hz.out (fun w hw=>Sat.rd (hw.pick pick0)) hS1).mono ?_
   rintro ee w2 ⟨v,rfl,v2,rfl,hS2⟩
   clear hS1
   go_wp2
   go_ret
   exact ⟨_,rfl,_,_,rfl,by rw [Hon.out];exact .head _,fun q hq=> .tail _ hq,bag_add (hS2.sub (sub_take pick0 (sub_drop (sub_drop (sub_take pick0 sub_refl)))))⟩
theorem rstep_c (h:Sat w0 w (dskPt d D fsv fv nv wv::F)) (hl:D.left≤9223372036854775807) :
  Calls Tryz.prog 85 #[ptr d] w (Rtn fun v w'=>v=errno (bif D.step.2 then 0 else 12)∧Sat w0 w' (dskPt d D.step.1 fsv fv nv wv::F)):=by
 obtain ⟨room,fast,now,files,waits,armed,left,off⟩:=D
 have c5:=h.cellAt 5 _ rfl
 have c6:=h.cellAt 6 _ rfl
 have f7:=h.freeAt 7
 have c7:=h.cellAt 7 _ rfl
 have f6:=h.freeAt 6
 simp only at hl
 go_enter Tryz.func85,Tryz.ntmps85
 cases armed
 ·go_wp2
  go_ret
  exact ⟨_,rfl,by simp [Med.step],by simpa [Med.step] using h⟩
 ·by_cases hz:left=0
  ·subst hz
   have c6':w.cell? ⟨d,6,none⟩=some (.int .i64 0):=c6
   have c5':w.cell? ⟨d,5,none⟩=some (.bool true):=c5
   clear c6 c5
   go_wp2
   go_ret
   exact ⟨_,rfl,rfl,h.set 7 (.bool true)⟩
  ·have hz':((left:Int)==0)=false:=by simpa using hz
   have e1:((left - 1:Nat):Int)=(left:Int) - 1:=oQ
   go_wp2
   go_ret
   refine ⟨_,rfl,by simp [Med.step,hz],?_⟩
   have:=h.set 6 (.int .i64 ((left:Int) - 1))
   simp only [Med.step,hz,if_true,if_false,dskPt,e1]
   exact this
set_option maxRecDepth 20000 in
theorem rnum_c (l:List Int) (a:Option Addr) (n c:Nat) (i hi:Nat) (hr:rdsl 1 (.slice a n c) (ints l) w) :
  Calls Tryz.prog 94 #[.slice a n c,.int .i64 i,.int .i64 hi] w (Rtn fun v w'=>v = .int .i64 (clampN (num l i) hi)∧w=w'):=by
 obtain ⟨_,_,_,he,hl,_⟩:=id hr
 cases he
 have hil:(ints l).length=l.length:=List.length_map ..
 rw [hil,Nat.mul_one]at hl
 subst hl
 by_cases hlt:i<l.length
 ·have hx:(ints l)[i]?=some (.int .i64 (l[i]'hlt)):=by unfold ints;simp [hlt]
  obtain ⟨bk,off,rfl,c1⟩:=rdsl_cell hr hx
  have hnum:num l i=l[i]'hlt:=by unfold num;simp [hlt]
  have Hn:=uQ (show within (l[i]'hlt) 0 hi=(clampN (num l i) hi:Nat) by
   rw [hnum]
   unfold within clampN
   split
   ·omega
   ·split <;> omega)
  have hd:¬ l.length≤i:=oQ
  have hic:(i:Int)<(l.length:Int):=oQ
  generalize l[i]'hlt=z at *
  clear hx hnum hlt hr
  go_enter Tryz.func94,Tryz.ntmps94
  go_wp2_with fail
  refine (within_c z 0 hi w).mono ?_
  rintro ee w1 ⟨v,rfl,rfl,rfl⟩
  go_wp2
  go_ret
  exact ⟨_,rfl,by rw [← Hn.out];rfl,rfl⟩
 ·have hd:l.length≤i:=by omega
  have hnum:num l i=0:=by unfold num;simp [hd]
  have Hn:=uQ (show clampN (num l i) hi=0 by rw [hnum];simp [clampN])
  clear hnum hlt hr
  go_enter Tryz.func94,Tryz.ntmps94
  go_wp2
  go_ret
  exact ⟨_,rfl,by rw [Hn.out];rfl,rfl⟩
set_option maxRecDepth 20000 in
theorem rhere_c (i:Nat) (hi:i<D.files.length) (hin:DskIn D fv nv xs g) (hlen:(D.file i).now.length≤1099511627776) (h:Sat w0 w (dskPt d D fsv fv nv wv::osl 164 3 fsv (rfsL xs)::stars (xs.map rfR)::F)) :
  Calls Tryz.prog 86 #[ptr d,.int .i64 i] w (Rtn fun v w'=>Sat w0 w' (bsl v (D.file i).now::dskPt d D fsv fv nv wv::osl 164 3 fsv (rfsL xs)::stars (xs.map rfR)::F)∧∃ a n c,v = .slice a n c):=by
 obtain ⟨x,hx,hxf⟩:=hin.file hi
 have hl:xs.length=D.files.length:=by rw [← hin.files,List.length_map]
 obtain ⟨h0,h1,h2⟩:=rfsL_at hx
 have hrd:=Sat.rd (h.pick pick1)
 obtain ⟨fa,fn,fc,rfl,hfn,_⟩:=id hrd
 rw [rfsL_len]at hfn
 obtain rfl:fn=xs.length:=by omega
 obtain ⟨bk,off,rfl,hc⟩:=rdsl_cells hrd h0
 have e1:w.cell? ⟨bk,off+i * 3+1,none⟩=some x.nv:=by rw [Nat.add_assoc];exact hc _ _ h1
 have e0:w.cell? ⟨d,1,none⟩=some (.slice (some ⟨bk,off,none⟩) xs.length fc):=h.cellAt 1 _ rfl
 have c1:(i:Int)<(xs.length:Int):=oQ
 have hcp:=copy_c h (D.file i).now (by rw [← hxf];exact (file_ro (List.mem_of_getElem? hx)).1 _ (h.pick pick2)) hlen
 generalize x.nv=xn at *
 clear hrd hc h0 h1 h2 hx
 go_enter Tryz.func86,Tryz.ntmps86
 go_wp2_with fail
 refine hcp.mono ?_
 rintro ee w1 ⟨v,rfl,hS,a,n,c,rfl⟩
 go_wp2
 go_ret
 exact ⟨_,rfl,hS,_,_,_,rfl⟩
end
section
variable {w0 w:World}{F R:List HProp}{d:Nat}{D:Med}{fsv fv nv wv v lv:Value}{xs:List RF}{g:Bag}{K:Nat}
theorem rgood_c (s:ByteArray) (w:World) (hs:s.size≤9223372036854775806) :
  Calls Tryz.prog 138 #[.string s] w (Rtn fun v w'=>v = .bool (good s)∧w=w'):=by
 have Hs:=uQ hs
 clear hs
 go_enter Tryz.func138,Tryz.ntmps138
 go_wp2_with fail
 go_loopg [3] s.size (fun g iq wr=>∃ k:Nat,g=s.size - k∧k≤s.size∧iq = .int .i64 k∧(s.data.toList.take k).all goodC=true∧wr=w)
 case atStart=>exact ⟨0,rfl,Nat.zero_le _,rfl,by simp,rfl⟩
 case round=>
  obtain ⟨k,rfl,hk,rfl,hall,rfl⟩:=hrel
  have Hall:=uQ hall;clear hall
  by_cases hlt:k<s.size
  ·have hs:=Hs.out
   have hwk:IntKind.i64.wrap ((k:Int)+1)=(k:Int)+1:=IntWalk.i64_in _ oQ
   have c1:(k:Int)<(s.size:Int):=oQ
   have Hc:=uQ (goodC_iff s[k])
   have Hn:=uQ (all_take_succ s.data.toList k (by simpa using hlt))
   have Hbad:=uQ (show goodC s[k]=false→good s=false by
    intro hgc
    unfold good
    have:s.data.toList.all goodC=false:=by
     rw [List.all_eq_false]
     exact ⟨s[k],by exact List.getElem_mem (by simpa using hlt),by simpa using hgc⟩
    rw [this];simp)
   have Hgd:=uQ (show goodC s[k]=true→(s.data.toList.take (k+1)).all goodC=true by
    intro hgc
    rw [Hn.out,Hall.out]
    exact hgc)
   have Hlt:=uQ hlt
   have hcls:(97≤(s[k].toNat:Int)∧(s[k].toNat:Int)≤122)∨(48≤(s[k].toNat:Int)∧(s[k].toNat:Int)≤57)∨(s[k].toNat:Int)=46∨(s[k].toNat:Int)=45∨((s[k].toNat:Int)<48∧(s[k].toNat:Int)≠46∧(s[k].toNat:Int)≠45)∨(58≤(s[k].toNat:Int)∧(s[k].toNat:Int)≤96)∨123≤(s[k].toNat:Int):=oQ
   rcases hcls with ⟨g1,g2⟩|⟨g1,g2⟩|g1|g1|⟨g1,g2,g3⟩|⟨g1,g2⟩|g1
   ·have d1:decide ((s[k].toNat:Int)<97)=false:=decide_eq_false oQ
    have d2:decide (122<(s[k].toNat:Int))=false:=decide_eq_false oQ
    have Hg2:=uQ (Hgd.out (by rw [Hc.out];simp;omega))
    go_wp2
    go_roundg (s.size - (k+1))
    case rel=>exact ⟨k+1,rfl,Nat.succ_le_of_lt Hlt.out,by first|rfl|go_num,Hg2.out,rfl⟩
    case measure=>have:=Hlt.out;omega
   ·have d1:decide ((s[k].toNat:Int)<97)=true:=decide_eq_true oQ
    have d3:decide ((s[k].toNat:Int)<48)=false:=decide_eq_false oQ
    have d4:decide (57<(s[k].toNat:Int))=false:=decide_eq_false oQ
    have Hg2:=uQ (Hgd.out (by rw [Hc.out];simp;omega))
    go_wp2
    go_roundg (s.size - (k+1))
    case rel=>exact ⟨k+1,rfl,Nat.succ_le_of_lt Hlt.out,by first|rfl|go_num,Hg2.out,rfl⟩
    case measure=>have:=Hlt.out;omega
   ·have d1:decide ((s[k].toNat:Int)<97)=true:=decide_eq_true oQ
    have d3:decide ((s[k].toNat:Int)<48)=true:=decide_eq_true oQ
    have d5:((s[k].toNat:Int) != 46)=false:=by rw [g1];rfl
    have d5':((s[k].toNat:Int)==46)=true:=by rw [g1];rfl
    have g2:46≤(s[k].toNat:Int)∧(s[k].toNat:Int)≤46:=oQ
    clear g1
    have Hg2:=uQ (Hgd.out (by rw [Hc.out];simp;omega))
    go_wp2
    go_roundg (s.size - (k+1))
    case rel=>exact ⟨k+1,rfl,Nat.succ_le_of_lt Hlt.out,by first|rfl|go_num,Hg2.out,rfl⟩
    case measure=>have:=Hlt.out;omega
   ·have d1:decide ((s[k].toNat:Int)<97)=true:=decide_eq_true oQ
    have d3:decide ((s[k].toNat:Int)<48)=true:=decide_eq_true oQ
    obtain ⟨b5,d5,t5⟩:∃ b,((s[k].toNat:Int) != 46)=b∧b=true:=⟨_,rfl,by rw [g1];rfl⟩
    have d5':((s[k].toNat:Int)==46)=false:=by rw [g1];rfl
    have d6:((s[k].toNat:Int) != 45)=false:=by rw [g1];rfl
    have d6':((s[k].toNat:Int)==45)=true:=by rw [g1];rfl
    have g2:45≤(s[k].toNat:Int)∧(s[k].toNat:Int)≤45:=oQ
    clear g1
    have Hg2:=uQ (Hgd.out (by rw [Hc.out];simp;omega))
    go_wp2
    ·exfalso;simp only [bne_eq_false_iff_eq,bne_iff_ne]at *;omega
    go_roundg (s.size - (k+1))
    case rel=>exact ⟨k+1,rfl,Nat.succ_le_of_lt Hlt.out,by first|rfl|go_num,Hg2.out,rfl⟩
    case measure=>have:=Hlt.out;omega
   ·have d1:decide ((s[k].toNat:Int)<97)=true:=decide_eq_true oQ
    have d3:decide ((s[k].toNat:Int)<48)=true:=decide_eq_true oQ
    have d5':((s[k].toNat:Int)==46)=false:=beq_false_of_ne oQ
    have d6':((s[k].toNat:Int)==45)=false:=beq_false_of_ne oQ
    obtain ⟨b5,d5,t5⟩:∃ b,((s[k].toNat:Int) != 46)=b∧b=true:=⟨_,rfl,by rw [bne,d5'];rfl⟩
    obtain ⟨b6,d6,t6⟩:∃ b,((s[k].toNat:Int) != 45)=b∧b=true:=⟨_,rfl,by rw [bne,d6'];rfl⟩
    have Hb:=uQ (Hbad.out (by rw [Hc.out];simp;omega))
    go_wp2
    go_ret
    exact ⟨_,rfl,by rw [Hb.out];rfl,rfl⟩
    all_goals (exfalso;simp only [bne_eq_false_iff_eq]at *;omega)
   ·have d1:decide ((s[k].toNat:Int)<97)=true:=decide_eq_true oQ
    have d3:decide ((s[k].toNat:Int)<48)=false:=decide_eq_false oQ
    have d4:decide (57<(s[k].toNat:Int))=true:=decide_eq_true oQ
    have d5':((s[k].toNat:Int)==46)=false:=beq_false_of_ne oQ
    have d6':((s[k].toNat:Int)==45)=false:=beq_false_of_ne oQ
    obtain ⟨b5,d5,t5⟩:∃ b,((s[k].toNat:Int) != 46)=b∧b=true:=⟨_,rfl,by rw [bne,d5'];rfl⟩
    obtain ⟨b6,d6,t6⟩:∃ b,((s[k].toNat:Int) != 45)=b∧b=true:=⟨_,rfl,by rw [bne,d6'];rfl⟩
    have Hb:=uQ (Hbad.out (by rw [Hc.out];simp;omega))
    go_wp2
    go_ret
    exact ⟨_,rfl,by rw [Hb.out];rfl,rfl⟩
    all_goals (exfalso;simp only [bne_eq_false_iff_eq]at *;omega)
   ·have d1:decide ((s[k].toNat:Int)<97)=false:=decide_eq_false oQ
    have d2:decide (122<(s[k].toNat:Int))=true:=decide_eq_true oQ
    have d3:decide ((s[k].toNat:Int)<48)=false:=decide_eq_false oQ
    have d4:decide (57<(s[k].toNat:Int))=true:=decide_eq_true oQ
    have d5':((s[k].toNat:Int)==46)=false:=beq_false_of_ne oQ
    have d6':((s[k].toNat:Int)==45)=false:=beq_false_of_ne oQ
    obtain ⟨b5,d5,t5⟩:∃ b,((s[k].toNat:Int) != 46)=b∧b=true:=⟨_,rfl,by rw [bne,d5'];rfl⟩
    obtain ⟨b6,d6,t6⟩:∃ b,((s[k].toNat:Int) != 45)=b∧b=true:=⟨_,rfl,by rw [bne,d6'];rfl⟩
    have Hb:=uQ (Hbad.out (by rw [Hc.out];simp;omega))
    go_wp2
    go_ret
    exact ⟨_,rfl,by rw [Hb.out];rfl,rfl⟩
    all_goals (exfalso;simp only [bne_eq_false_iff_eq]at *;omega)
  ·obtain rfl:k=s.size:=by omega
   have hful:s.data.toList.all goodC=true:=by
    have:=Hall.out
    rw [List.take_of_length_le (by simp)]at this
    exact this
   have c1:¬ (s.size:Int)<(s.size:Int):=oQ
   have Hg:=uQ (show good s=(decide (1≤s.size) && decide (s.size≤24)) by unfold good;rw [hful,Bool.and_true])
   clear hlt hful
   by_cases h0:0<s.size
   ·have d0:decide ((0:Int)<(s.size:Int))=true:=decide_eq_true oQ
    by_cases h24:s.size≤24
    ·have d24:decide ((s.size:Int)≤24)=true:=decide_eq_true oQ
     have Hf:=uQ (Hg.out.trans (show _=true by rw [decide_eq_true (show 1≤s.size by omega),decide_eq_true h24];rfl))
     go_wp2
     go_ret
     exact ⟨_,rfl,by rw [Hf.out];rfl,rfl⟩
    ·have d24:decide ((s.size:Int)≤24)=false:=decide_eq_false oQ
     have Hf:=uQ (Hg.out.trans (show _=false by rw [decide_eq_false h24,Bool.and_false]))
     go_wp2
     go_ret
     exact ⟨_,rfl,by rw [Hf.out];rfl,rfl⟩
   ·have d0:decide ((0:Int)<(s.size:Int))=false:=decide_eq_false oQ
    have Hf:=uQ (Hg.out.trans (show _=false by rw [decide_eq_false (show ¬ 1≤s.size by omega),Bool.false_and]))
    go_wp2
    go_ret
    exact ⟨_,rfl,by rw [Hf.out];rfl,rfl⟩
end
section
variable {P:Program}{w0 w:World}{L L':List HProp}{b o:Nat}{ops:Array Oper}{a:Act}{Q:Exit→Act→World→Prop}{dst:Option Tmp}{t ty T:TypeId}{pos:String}{after:Array Edge}{x y:Operand}{cs:Array Value}{v:Value}{K:Act→World→Prop}{E:Prop}
theorem eff_store (hs:Sat w0 w L) (hx:a.eval x = .pointer (some ⟨b,o,none⟩)) (hy:a.eval y=v){cs':Array Value} (hcs:putsAt cs o v.cells.toList=cs') (u:Upd (pt b (.cells cs T (0,0))) (pt b (.cells cs' T (0,0))) L L') (hfit:o+v.cells.size≤cs.size)
  (hi:(P.info? ty).map (·.size)=some v.cells.size) (h1:v.cells.toList.all (·.oneCell')=true)
  (hK:∀ w',Sat w0 w' L'→K (a.put dst undef) w') :
  if Region.wanted ⟨dst,.store ty x y,t,pos,after,none⟩ (yielded ops a.tmps)=true then Oper.wp P ⟨dst,.store ty x y,t,pos,after,none⟩ a w K Q else E:=by
 subst hcs
 obtain ⟨R',h2,h3⟩:=u
 refine eff_of rfl ?_
 have h:=hs.perm h2
 have hth:w.there b o v.cells.size:=by
  intro j hj
  refine ⟨?_,h.freeAt _⟩
  rw [h.cellAt (o+j) _ (Array.getElem?_eq_getElem (show o+j<cs.size by omega))]
  rfl
 have hst:=run_storeCells_cells (P:=P) b o v.cells.toList 0 w (fun j hj=>by simpa using (hth j (by simpa using hj)).1) (fun j hj=>by simpa using (hth j (by simpa using hj)).2)
  (fun u hu=>(List.all_eq_true.1 h1) u hu)
 have hrun:(storeVar ty ⟨b,o,none⟩ v).run P w = .ok () (w.setCells b o v.cells.toList):=by
  cases hq:P.info? ty with
  |none=>simp [hq]at hi
  |some i=>
   have hs:v.cells.size=i.size:=by simp [hq]at hi;omega
   simp only [Nat.add_zero]at hst
   simp [storeVar,sizeOf,typeInfo,hq,hs,hst]
 unfold Oper.wp execOp
 simp only [hx,hy,Instr.storeAt,Instr.sureAddr,Sem.run_bind,Sem.run_pure,Result.andThen_ok,hrun]
 exact hK _ ((Sat.sets _ _ h).perm h3.symm)
end
end Go.Proofs.YtmjldaedhmipkaaGreatDoor
