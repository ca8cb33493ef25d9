import Derived.Test.YtlimfgdbfadohaaGreatDoorJ3
import Derived.Laws.IdiomStrings
import Derived.Lib.BufferRead
import Derived.Lib.Bytealg
import Derived.Lib.BytesEntry
import Derived.Sort.Grow
import Derived.Sort.OwnSorted
import Derived.Shelf.SlSortCmp.WholeK
import Derived.Shelf.SlSortCmp.NoneTotal
namespace Go.Proofs.YtlimfgdbfadohaaGreatDoor
open Go Go.Sl Go.aB Go.MapKept Go.RowKit
theorem sQ {p : Prop} (h : p := by first | assumption | exact kV _ _ rfl | exact kV _ _ aQ | exact kV _ _ (Hid.out aQ)) : p := h
theorem pQ {p : Prop} (h : p := by first | (simp only [eG, Value.cells]; (try go_frame); first | done | rfl) | rfl) : p := h
theorem gQ {p : Prop} (h : p := by go_frame; first | done | rfl) : p := h
theorem fQ {p : Prop} (h : p := by first | rfl | assumption | exact Hid.out aQ) : p := h
theorem wQ {p : Prop} (h : p := by with_reducible rfl) : p := h
end Go.Proofs.YtlimfgdbfadohaaGreatDoor
set_option linter.unusedVariables false
set_option maxHeartbeats 128000000
namespace Go.Proofs.YtlimfgdbfadohaaGreatDoor
open Go Go.Sl Go.aB Go.MapKept Go.RowKit
section
variable {w0 w:World}{L L' R:List aC}{b:Nat}{ops:Array Oper}{rest:List Oper}{a:Act}{Q:Exit→Act→World→Prop}
variable {dst:Option Tmp}{t T:TypeId}{pos:String}{after:Array Edge}{x y:Operand}{cs:Array Value}{v:Value}{e:ak.aX}{da:Option Addr}{dn dc:Nat}
theorem ael (tag:Int) (w:World):(Instr.build 137 #[(0,.int .i64 tag)]).run Tryz.prog w = .ok (.agg (dI ⟨tag,ak.zero32,[]⟩ (.slice none 0 0))) w:=by
 have hz:(dI ak.zeroE (.slice none 0 0)).size=34:=kV _ _ rfl
 have h:=run_build (P:=Tryz.prog) [(0,.int .i64 tag)] EZ yP (by
  intro p hp
  rw [List.mem_singleton]at hp
  subst hp
  have hzz:uP.cells.size=34:=hz
  rw [hzz]
  exact ⟨0,rfl,by show 0+1≤34;omega⟩) w
 exact h
theorem Vl {tag:Int} (hx:a.eval x = .int .i64 tag) (h:wpList Tryz.prog ops Q rest (a.put dst (.agg (dI ⟨tag,ak.zero32,[]⟩ (.slice none 0 0)))) w):wpList Tryz.prog ops Q (⟨dst,.build 137 #[(0,x)],t,pos,after,none⟩::rest) a w:=
 wpList_plain rfl fun _ hK=>by
  unfold Oper.wp execOp
  simp only [List.map_toArray,List.map_cons,List.map_nil,hx,Sem.run_bind,ael,Result.andThen_ok,Sem.run_pure]
  exact hK _ _ h
theorem wZ (h:wpList Tryz.prog ops Q rest (a.put dst (.agg (dI ak.zeroE (.slice none 0 0)))) w):wpList Tryz.prog ops Q (⟨dst,.build 137 #[],t,pos,after,none⟩::rest) a w:=
 wpList_plain rfl fun _ hK=>by
  unfold Oper.wp execOp
  simp only [List.map_toArray,List.map_nil,Sem.run_bind,aeR,Result.andThen_ok,Sem.run_pure]
  exact hK _ _ h
theorem NC (h:Stop (wpList Tryz.prog ops Q (⟨dst,.build 137 #[(0,x)],t,pos,after,none⟩::rest) a w)):wpList Tryz.prog ops Q (⟨dst,.build 137 #[(0,x)],t,pos,after,none⟩::rest) a w:=h.out
theorem vN (h:Stop (wpList Tryz.prog ops Q (⟨dst,.build 137 #[],t,pos,after,none⟩::rest) a w)):wpList Tryz.prog ops Q (⟨dst,.build 137 #[],t,pos,after,none⟩::rest) a w:=h.out
theorem Af {P:Program}{ty:TypeId}{z:Operand}{vx vy vz:Value} (hx:a.eval x=vx) (hy:a.eval y=vy) (hz:a.eval z=vz) (hr:∀ w,(Instr.sliceAt ty vx (some vy) (some vz) none).run P w = .ok v w)
  (h:wpList P ops Q rest (a.put dst v) w):wpList P ops Q (⟨dst,.slice ty x (some y) (some z) none,t,pos,after,none⟩::rest) a w:=
 wpList_plain rfl fun _ hK=>by
  unfold Oper.wp execOp
  simp only [hx,hy,hz,Option.map_some,Option.map_none,Sem.run_bind,hr,Result.andThen_ok,Sem.run_pure]
  exact hK _ _ h
theorem zi {P:Program}{ty:TypeId}{z:Operand} (h:Stop (wpList P ops Q (⟨dst,.slice ty x (some y) (some z) none,t,pos,after,none⟩::rest) a w)):wpList P ops Q (⟨dst,.slice ty x (some y) (some z) none,t,pos,after,none⟩::rest) a w:=h.out
theorem aef (ad:Addr) (c:Nat) (w:World):(Instr.arrayAt 30 (.slice (some ad) 32 c)).run Tryz.prog w = .ok (.pointer (some ad)) w:=by
 simp [Instr.arrayAt,run_underlying (P:=Tryz.prog) Tryz.underlying30]
theorem adg {e:ak.aX}{dv:Value} (hk:e.key.length=32) (key:Bs) (hk2:key.length=32):eG (dI e dv) 1 (ay key)=dI ⟨e.tag,key,e.data⟩ dv:=by
 apply rH
 have hz:=kV e dv hk
 have h1:(ay key).length=32:=by rw [aU,hk2]
 have h2:(ay e.key).length=32:=by rw [aU,hk]
 rw [lW _ _ _ oQ]
 unfold dI kW
 rw [List.toList_toArray,List.toList_toArray,h1,show 1+32=32+1 by omega,List.drop_succ_cons,List.take_succ_cons,List.take_zero,List.drop_append_of_le_length oQ,List.drop_of_length_le oQ]
 simp
theorem adf {e:ak.aX}{dv:Value} (hk:e.key.length=32) (data:Bs) (OI:Value):eG (dI e dv) 33 [OI]=dI ⟨e.tag,e.key,data⟩ OI:=by
 apply rH
 have hz:=kV e dv hk
 have h2:(ay e.key).length=32:=by rw [aU,hk]
 rw [lW _ _ _ (by simp;omega)]
 unfold dI kW
 rw [List.toList_toArray,List.toList_toArray,List.length_singleton,show 33+1=33+1 from rfl,List.drop_succ_cons,List.take_succ_cons,List.take_append_of_le_length oQ,List.take_of_length_le oQ,List.drop_of_length_le (by simp;omega)]
 simp
theorem aaR:(Tryz.prog.info? 30).map (·.size)=some 32:=by kernel_rfl
theorem aaT:(Tryz.prog.info? 27).map (·.size)=some 1:=by kernel_rfl
theorem agW {dv:Value}{key:Bs} (hs:Sat w0 w L) (hx:a.eval x = .pointer (some ⟨b,1,none⟩)) (hy:a.eval y = .agg (ay key).toArray) (hk:e.key.length=32) (hk2:key.length=32) (u:mW (pt b (.cells (dI e dv) T (0,0))) (pt b (.cells (dI ⟨e.tag,key,e.data⟩ dv) T (0,0))) L L')
  (hK:∀ w',Sat w0 w' L'→wpList Tryz.prog ops Q rest (a.put dst undef) w'):wpList Tryz.prog ops Q (⟨dst,.store 30 x y,t,pos,after,none⟩::rest) a w:=by
 obtain ⟨R',h2,h3⟩:=u
 have hz:=kV e dv hk
 have hb:(ay key).toArray.size=32:=by simp [ay,hk2]
 refine Dq (w0:=w0) rfl 30 x y rfl 1 (.agg (ay key).toArray) hx hy (show 1+(ay key).toArray.size≤(dI e dv).size by omega) (show _=some (ay key).toArray.size by rw [hb];exact aaR) ?_ (hs.perm h2) fun w' hS=>hK w' ?_
 ·show (ay key).toArray.all _=true
  rw [← Array.all_toList]
  exact List.all_eq_true.2 (jU _)
 ·have he:eG (dI e dv) 1 (Value.agg (ay key).toArray).cells.toList=dI ⟨e.tag,key,e.data⟩ dv:=adg hk key hk2
  rw [he]at hS
  exact hS.perm h3.symm
theorem agV {dv:Value}{data:Bs} (hs:Sat w0 w L) (hx:a.eval x = .pointer (some ⟨b,33,none⟩)) (hy:a.eval y = .slice da dn dc) (hk:e.key.length=32) (u:mW (pt b (.cells (dI e dv) T (0,0))) (pt b (.cells (dI ⟨e.tag,e.key,data⟩ (.slice da dn dc)) T (0,0))) L L')
  (hK:∀ w',Sat w0 w' L'→wpList Tryz.prog ops Q rest (a.put dst undef) w'):wpList Tryz.prog ops Q (⟨dst,.store 27 x y,t,pos,after,none⟩::rest) a w:=by
 obtain ⟨R',h2,h3⟩:=u
 have hz:=kV e dv hk
 refine Dq (w0:=w0) rfl 27 x y rfl 33 (.slice da dn dc) hx hy (show 33+1≤(dI e dv).size by omega) aaT (by simp [Value.cells,Value.oneCell']) (hs.perm h2) fun w' hS=>hK w' ?_
 have he:eG (dI e dv) 33 (Value.slice da dn dc).cells.toList=dI ⟨e.tag,e.key,data⟩ (.slice da dn dc):=adf hk data _
 rw [he]at hS
 exact hS.perm h3.symm
theorem zT {fn:Func}{p u q:Tmp}{tmps:Array Value} (hf:fn.results=#[.cell p 137,.tmp u,.tmp q]) (hs:Sat w0 w L) (hp:tmps.getD p undef = .pointer (some ⟨b,0,none⟩)) (k:Pick (pt b (.cells (dI e (.slice da dn dc)) T (0,0))) L R) (hk:e.key.length=32) :
  (results fn tmps).run Tryz.prog w = .ok (.tuple #[.agg (dI e (.slice da dn dc)),tmps.getD u undef,tmps.getD q undef]) w:=by
 have hl:=run_loadVar_row (P:=Tryz.prog) w b T 137 (dI e (.slice da dn dc)) (0,0) _ (hs.pick k).at Tryz.underlying137 ah (by rw [kV e _ hk];exact Cc)
 have hp':tmps[p]?.getD undef = .pointer (some ⟨b,0,none⟩):=by simpa using hp
 simp [results,hf,hp',asAddr,hl,Result.andThen]
end
section
variable {w0 w:World}{F R:List aC}{v bv dv x lv:Value}
theorem Tv {l:Bs}{bk off n c:Nat} (h:bK 1 (.slice (some ⟨bk,off,none⟩) n c) (ay l) w) (i j c':Nat) (hij:i≤j) (hj:j≤l.length):bK 1 (.slice (some ⟨bk,off+i,none⟩) (j - i) c') (ay ((l.take j).drop i)) w:=by
 obtain ⟨a',n',c'',he,hl,hx⟩:=h
 cases he
 refine ⟨_,_,_,rfl,by rw [aU,List.length_drop,List.length_take];omega,fun k y hk=>⟨_,rfl,?_⟩⟩
 have hk':(ay l)[i+k]?=some y:=by
  unfold ay at hk ⊢
  rw [List.map_drop,List.map_take,List.getElem?_drop,List.getElem?_take]at hk
  split at hk
  ·exact hk
  ·cases hk
 obtain ⟨b',hb',hc⟩:=hx _ _ hk'
 cases hb'
 rw [Addr.add_mid]at hc ⊢
 rw [Nat.add_assoc];exact hc
end
section
variable {w0 w:World}{F R:List aC}{v bv dv x lv:Value}
set_option maxRecDepth 20000 in
theorem PO (l:Bs) (hr:Ro w0 F (bK 1 bv (ay l))) (hcap:kK bv) (hH:Ro w0 F Half) (hl:l.length≤1099511627776) (h:Sat w0 w F) :
  Calls Tryz.prog 100 #[bv] w (aI fun v w'=>∃ da dc,v = .tuple #[.agg (dI (ak.read l).1 (.slice da (ak.read l).1.data.length dc)),.int .i64 (ak.read l).2.1,errno (ak.read l).2.2]∧Sat w0 w' (aK (.slice da (ak.read l).1.data.length dc) (ak.read l).1.data::F)):=by
 obtain ⟨ba,bn,bc,rfl,hbn,hbc⟩:=hcap
 have hln:bn=l.length:=by
  obtain ⟨_,_,_,he,hl',_⟩:=hr w h
  cases he
  rw [aU,Nat.mul_one]at hl';exact hl'.symm
 subst hln
 by_cases h9:l.length<9
 ·have Hf:=uQ (show ak.read l=(ak.zeroE,0,3) by unfold ak.read;rw [if_pos h9])
  have c1:(l.length:Int)<9:=oQ
  clear hr hH h9 hl
  go_enter Tryz.func100,Tryz.ntmps100
  go_wp2_with (first|((with_reducible refine qY ⟨?_⟩);refine rV aQ ?_;intro bE wE hE)|((with_reducible refine vN ⟨?_⟩);refine wZ ?_)|((with_reducible refine oV ⟨?_⟩);first|(refine jy aQ ah ah fQ eP sQ ?_;intro wS hS)|(refine jy (e:=ak.zeroE) (da:=none) (dn:=0) (dc:=0) aQ ah ah rfl eP sQ ?_;intro wS hS)))
  rw [Hf.out]
  refine ⟨rfl,_,zT rfl aQ ah aY rfl,_,rfl,none,0,rfl,Sat.fM.2 (Sat.sb hS)⟩
 obtain ⟨bk,off,rfl,hcell⟩:∃ bk off,ba=some ⟨bk,off,none⟩∧True:=by
  have hx:(ay l)[0]?=some (.int .u8 (l[0]'oQ).toNat):=by
   unfold ay;rw [List.getElem?_map,List.getElem?_eq_getElem oQ];rfl
  obtain ⟨bk,off,hb,_⟩:=iU (hr w h) hx
  exact ⟨bk,off,hb,trivial⟩
 clear hcell
 have hrd:=hr w h
 have xG:=uQ (show ∀ (i j:Nat),i≤j→j≤l.length→∀ w,Sat w0 w F→bK 1 (.slice (some ⟨bk,off+i,none⟩) (j - i) (bc - i)) (ay ((l.take j).drop i)) w from fun i j h1 h2 w hw=>Tv (hr w hw) i j (bc - i) h1 h2)
 have WU:=uQ (show ∀ w,Sat w0 w F→Calls Tryz.prog 144 #[.slice (some ⟨bk,off+4,none⟩) (l.length - 4) (bc - 4)] w (aI fun v w'=>v = .int .u32 (ak.num ((l.drop 4).take 4):Nat)∧w=w') from fun w hw=>SE (l.drop 4) (by rw [List.length_drop];omega) _ (l.length - 4) (bc - 4) oQ oQ (by
  have:=xG.out 4 l.length oQ (Nat.le_refl _) w hw
  rw [List.take_length]at this
  exact this))
 have WV:=uQ (show ∀ w,Sat w0 w F→Calls Tryz.prog 144 #[.slice (some ⟨bk,off,none⟩) l.length bc] w (aI fun v w'=>v = .int .u32 (ak.num (l.take 4):Nat)∧w=w') from fun w hw=>SE l oQ _ l.length bc hbn hbc (hr w hw))
 have nT:=uQ (show ak.read l=if ak.fits (l.getD 8 0) (ak.num ((l.drop 4).take 4))=false then (ak.zeroE,0,4)
  else if l.length<ak.num ((l.drop 4).take 4) then (ak.zeroE,0,3)
  else if ak.crc ((l.take (ak.num ((l.drop 4).take 4))).drop 4)≠ak.num (l.take 4) then (ak.zeroE,0,13)
  else if 41≤ak.num ((l.drop 4).take 4) then (⟨(l.getD 8 0).toNat,(l.drop 9).take 32,(l.take (ak.num ((l.drop 4).take 4))).drop 41⟩,ak.num ((l.drop 4).take 4),0)
  else (⟨(l.getD 8 0).toNat,ak.zero32,[]⟩,ak.num ((l.drop 4).take 4),0) by unfold ak.read;rw [if_neg h9])
 have hN:ak.num ((l.drop 4).take 4)<4294967296:=by
  have:=ak.sJ ((l.drop 4).take 4)
  rw [List.length_take,List.length_drop]at this
  have h4:min 4 (l.length - 4)=4:=oQ
  rw [h4]at this
  omega
 generalize hNN:ak.num ((l.drop 4).take 4)=N at *
 have hfits:=fun w=>Zx (l.getD 8 0) N hN w
 have hfg:ak.fits (l.getD 8 0) N=true→9≤N:=by
  unfold ak.fits
  intro hh
  split at hh
  ·have:=of_decide_eq_true hh;omega
  ·split at hh
   ·have:=of_decide_eq_true hh;omega
   ·split at hh
    ·have:=of_decide_eq_true hh;omega
    ·cases hh
 have hc8:∀ w,Sat w0 w F→w.cell? ⟨bk,off+8,none⟩=some (.int .u8 (l.getD 8 0).toNat):=fun w hw=>by
  have hx:(ay l)[8]?=some (.int .u8 (l.getD 8 0).toNat):=by
   unfold ay;rw [List.getElem?_map,List.getD_eq_getElem?_getD,List.getElem?_eq_getElem oQ];rfl
  obtain ⟨HY,off',hb,hc⟩:=iU (hr w hw) hx
  cases hb
  exact hc _ _ hx
 have rW:=uQ hc8;have Hr:=uQ hr;have HH:=uQ hH;have Hl:=uQ hl;have WA:=uQ hfg;have WB:=uQ hfits
 have c1:¬ (l.length:Int)<9:=oQ
 have c2:¬ bc=4:=oQ
 have c3:(4:Int)≤(l.length:Int):=oQ
 have c4:(l.length:Int)≤(bc:Int):=oQ
 have c5:(8:Int)<(l.length:Int):=oQ
 have uV:=uQ (show l.length≤bc∧bc≤9223372036854775807∧9≤l.length∧N<4294967296 from ⟨hbn,hbc,by omega,hN⟩)
 have hcv:IntKind.i64.wrap (N:Int)=(N:Int):=by rw [IntKind.wrap_i64];omega
 clear hrd hNN hc8 hr hH hl h9 hbn hbc hfg hfits hN
 generalize l.getD 8 0=tg at *
 have QO:=tg.toNat_lt
 have hct:IntKind.i64.wrap (tg.toNat:Int)=(tg.toNat:Int):=by rw [IntKind.wrap_i64];omega
 have htb:(tg.toNat:Int)<256:=oQ
 go_enter Tryz.func100,Tryz.ntmps100
 go_wp2_with ((with_reducible refine qY ⟨?_⟩);refine rV aQ ?_;intro bE wE hE)
 refine (WU.out _ hE.drop).mono ?_
 rintro ee w2 ⟨v,rfl,rfl,rfl⟩
 have e8:=rW.out _ hE.drop
 go_wp2_with fail
 refine (WB.out _).mono ?_
 rintro ee w2 ⟨v,rfl,rfl,rfl⟩
 cases hft:ak.fits tg N
 ·have Hf:=uQ (nT.out.trans (if_pos hft))
  clear hft
  go_wp2_with (first|((with_reducible refine vN ⟨?_⟩);refine wZ ?_)|((with_reducible refine oV ⟨?_⟩);first|(refine jy aQ ah ah fQ eP sQ ?_;intro wS hS)|(refine jy (e:=ak.zeroE) (da:=none) (dn:=0) (dc:=0) aQ ah ah rfl eP sQ ?_;intro wS hS)))
  rw [Hf.out]
  refine ⟨rfl,_,zT rfl aQ ah aY rfl,_,rfl,none,0,rfl,Sat.fM.2 (Sat.sb hS)⟩
 have Hf:=uQ (nT.out.trans (if_neg (by rw [hft];decide)))
 have Qi:=WA.out hft
 clear hft
 by_cases Ez:l.length<N
 ·have Aj:=uQ (Hf.out.trans (if_pos Ez))
  have c6:(l.length:Int)<(N:Int):=oQ
  clear Ez Qi
  go_wp2_with (first|((with_reducible refine vN ⟨?_⟩);refine wZ ?_)|((with_reducible refine oV ⟨?_⟩);first|(refine jy aQ ah ah fQ eP sQ ?_;intro wS hS)|(refine jy (e:=ak.zeroE) (da:=none) (dn:=0) (dc:=0) aQ ah ah rfl eP sQ ?_;intro wS hS)))
  rw [Aj.out]
  refine ⟨rfl,_,zT rfl aQ ah aY rfl,_,rfl,none,0,rfl,Sat.fM.2 (Sat.sb hS)⟩
 have Aj:=uQ (Hf.out.trans (if_neg Ez))
 clear Hf nT
 have c6:¬ (l.length:Int)<(N:Int):=oQ
 have c7:(4:Int)≤(N:Int):=oQ
 have c8:(N:Int)≤(bc:Int):=oQ
 have xE:=uQ (show N≤l.length∧9≤N by omega)
 clear Ez Qi
 go_wp2_with fail
 refine (Ii ((l.take N).drop 4) (Ro.os HH.out) (fun w hw=>xG.out 4 N (by have:=xE.out;omega) xE.out.1 w (hw.sb)) hE (by rw [List.length_drop,List.length_take];have:=Hl.out;omega)).mono ?_
 rintro ee w2 ⟨v,rfl,rfl,rfl⟩
 go_wp2_with fail
 refine (WV.out _ hE.drop).mono ?_
 rintro ee w2 ⟨v,rfl,rfl,rfl⟩
 generalize ak.crc ((l.take N).drop 4)=A at *
 generalize ak.num (l.take 4)=B at *
 by_cases hAB:A=B
 rotate_left
 ·have Dz:=uQ (Aj.out.trans (if_pos hAB))
  have c9:((A:Int)==(B:Int))=false:=by rw [beq_eq_false_iff_ne];omega
  clear hAB
  go_wp2_with (first|((with_reducible refine vN ⟨?_⟩);refine wZ ?_)|((with_reducible refine oV ⟨?_⟩);first|(refine jy aQ ah ah fQ eP sQ ?_;intro wS hS)|(refine jy (e:=ak.zeroE) (da:=none) (dn:=0) (dc:=0) aQ ah ah rfl eP sQ ?_;intro wS hS)))
  rw [Dz.out]
  refine ⟨rfl,_,zT rfl aQ ah aY rfl,_,rfl,none,0,rfl,Sat.fM.2 (Sat.sb hS)⟩
 subst hAB
 have Dz:=uQ (Aj.out.trans (if_neg (fun h=>h rfl)))
 clear Aj
 by_cases qZ:41≤N
 rotate_left
 ·have Gi:=uQ (Dz.out.trans (if_neg qZ))
  have c9:¬ (41:Int)≤(N:Int):=oQ
  clear qZ
  go_wp2_with (first|((with_reducible refine NC ⟨?_⟩);refine Vl ah ?_)|((with_reducible refine qY ⟨?_⟩);refine rV aQ ?_;intro bE wE hE)|((with_reducible refine oV ⟨?_⟩);first|(refine jy aQ ah ah fQ eP sQ ?_;intro wS hS)|(refine jy (e:=ak.zeroE) (da:=none) (dn:=0) (dc:=0) aQ ah ah rfl eP sQ ?_;intro wS hS))|((with_reducible refine AX ⟨?_⟩);refine Dn aQ ah aY fQ ?_))
  rw [Gi.out]
  simp only [List.length_nil]
  refine ⟨rfl,_,zT rfl aQ ah aY rfl,_,rfl,none,0,rfl,Sat.fM.2 (Sat.sb hS)⟩
 have Gi:=uQ (Dz.out.trans (if_pos qZ))
 have qU:=uQ (show ((l.drop 9).take 32).length=32 by rw [List.length_take,List.length_drop];have:=xE.out;omega)
 have WH:=uQ (show (ay ((l.drop 9).take 32)).length=32 by rw [aU];exact qU.out)
 have Xb:=uQ (show ∀ w,Sat w0 w F→w.rangeAt bk (off+9) (ay ((l.drop 9).take 32)) from fun w hw=>by
  intro j y hj
  have hsb:=xG.out 9 41 aJ (by have:=xE.out;omega) w hw
  have e:(l.take 41).drop 9=(l.drop 9).take 32:=by rw [List.drop_take]
  rw [e]at hsb
  obtain ⟨b',o',hb,hc⟩:=iU hsb hj
  cases hb
  exact hc _ _ hj)
 have c9:(41:Int)≤(N:Int):=oQ
 have c10:¬ bc=9:=by have:=xE.out;have:=uV.out;omega
 have c11:(41:Int)≤(bc:Int):=oQ
 obtain ⟨ad,had,hsl⟩:∃ ad:Addr,(41<N→ad=⟨bk,off+41,none⟩)∧∀ w,(Instr.sliceAt 27 (.slice (some ⟨bk,off,none⟩) l.length bc) (some (.int .i64 41)) (some (.int .i64 N)) none).run Tryz.prog w = .ok (.slice (some ad) (N - 41) (bc - 41)) w:=by
  by_cases hce:bc=41
  ·refine ⟨⟨bk,off,none⟩,fun hh=>by have:=xE.out;have:=uV.out;omega,fun w=>?_⟩
   have c12:(N:Int)≤41:=oQ
   have c13:¬ (41:Int)<(N:Int):=oQ
   go_simp
  ·refine ⟨⟨bk,off+41,none⟩,fun _=>rfl,fun w=>?_⟩
   go_simp
 have V9:=uQ had
 have Wq:=uQ (show ∀ w,Sat w0 w F→bK 1 (.slice (some ad) (N - 41) (bc - 41)) (ay ((l.take N).drop 41)) w from fun w hw=>by
  by_cases h2:41<N
  ·rw [V9.out h2];exact xG.out 41 N oQ xE.out.1 w hw
  ·have:(l.take N).drop 41=[]:=List.drop_of_length_le (by rw [List.length_take];omega)
   rw [this,show N - 41=0 by omega]
   exact ⟨_,0,_,rfl,rfl,by simp [ay]⟩)
 clear qZ had
 have hat:=fun w=>aef ⟨bk,off+9,none⟩ (bc - 9) w
 go_wp2_with (first
  |((with_reducible refine NC ⟨?_⟩);refine Vl ah ?_)|((with_reducible refine qY ⟨?_⟩);refine rV aQ ?_;intro bE wE hE)|((with_reducible refine oV ⟨?_⟩);first|(refine jy aQ ah ah fQ eP sQ ?_;intro wS hS)|(refine jy (e:=ak.zeroE) (da:=none) (dn:=0) (dc:=0) aQ ah ah rfl eP sQ ?_;intro wS hS))
  |((with_reducible refine bI ⟨?_⟩);refine wpList_load_mid ah 30 _ ah bk (off+9) ah (ay ((l.drop 9).take 32)) _ (Xb.out _ (Sat.sb aQ)) Tryz.underlying30 rfl (by rw [WH.out];kernel_rfl) ?_)
  |((with_reducible refine bU ⟨?_⟩);refine agW (key:=(l.drop 9).take 32) aQ ah ah rfl qU.out eP ?_;intro wK hK)
  |((with_reducible refine zi ⟨?_⟩);refine Af ah ah ah hsl ?_))
 refine (qA hK (Wq.out _ (hK.sb)) (by rw [List.length_drop,List.length_take];have:=Hl.out;omega)).mono ?_
 rintro ee w3 ⟨v,rfl,hS3,ca,cn,cc,rfl⟩
 have hcn:cn=((l.take N).drop 41).length:=by
  obtain ⟨_,_,_,he,hl',_⟩:=Sat.rd hS3
  cases he
  rw [aU,Nat.mul_one]at hl';exact hl'.symm
 subst hcn
 have MC:=qU.out
 generalize (l.drop 9).take 32=key at *
 generalize (l.take N).drop 41=data at *
 go_wp2_with (first
  |((with_reducible refine bU ⟨?_⟩);refine agV (e:=⟨(tg.toNat:Int),key,[]⟩) (data:=data) aQ ah ah MC eP ?_;intro wD hD)
  |((with_reducible refine AX ⟨?_⟩);refine Dn aQ ah aY fQ ?_)|((with_reducible refine oV ⟨?_⟩);first|(refine jy aQ ah ah fQ eP sQ ?_;intro wS hS)|(refine jy (e:=ak.zeroE) (da:=none) (dn:=0) (dc:=0) aQ ah ah rfl eP sQ ?_;intro wS hS)))
 rw [Gi.out]
 simp only
 refine ⟨rfl,_,zT rfl aQ ah aY MC,_,rfl,ca,cc,rfl,Sat.sb hS⟩
end
end Go.Proofs.YtlimfgdbfadohaaGreatDoor
namespace Go.ak
structure gG where
 e:aX
 at_:Nat
 size:Nat
def pV:Nat→Bs→Nat→List gG×Nat×Int
 |0,_,at_=>([],at_,0)
 |k+1,b,at_=>
  if b=[] then ([],at_,0)
  else if (read b).2.2≠0 then ([],at_,(read b).2.2)
  else (⟨(read b).1,at_,(read b).2.1⟩::(pV k (b.drop (read b).2.1) (at_+(read b).2.1)).1,(pV k (b.drop (read b).2.1) (at_+(read b).2.1)).2)
def rF:Bs:=[72,79,65,82,68,83,69,71]
def scan (b:Bs):List gG×Nat×Int:=if b.take 8=rF then pV b.length (b.drop 8) 8 else ([],0,4)
end Go.ak
namespace Go.Proofs.YtlimfgdbfadohaaGreatDoor
open Go Go.Sl Go.aB Go.MapKept Go.RowKit
section
variable {w0 w:World}{F R:List aC}{v bv dv x lv av:Value}
theorem Tz {l:Bs} (h:bK 1 v (ay l) w):(convert 27 9 v).run Tryz.prog w = .ok (.string ⟨l.toArray⟩) w:=by
 obtain ⟨a,n,c,rfl,hl,hx⟩:=h
 rw [aU,Nat.mul_one]at hl
 subst hl
 cases a with
 |none=>
  obtain rfl:l=[]:=by
   cases l with
   |nil=>rfl
   |cons d l=>obtain ⟨b,hb,_⟩:=hx 0 _ rfl;cases hb
  exact Lib.run_convert_nil_bytes (P:=Tryz.prog) w _ _ 5 c Tryz.underlying27 Tryz.underlying5 Tryz.underlying9
 |some ad=>
  refine run_convert_bytes_back (P:=Tryz.prog) w _ _ 5 ad c l Tryz.underlying27 Tryz.underlying5 Tryz.underlying9 (fun j hj=>?_)
  have hy:(ay l)[j]?=some (.int .u8 (l[j]'hj).toNat):=by unfold ay;rw [List.getElem?_map,List.getElem?_eq_getElem hj];rfl
  obtain ⟨b,hb,hc⟩:=hx _ _ hy
  cases hb
  simpa using hc
theorem DZ (la lb:Bs) (ha:bK 1 av (ay la) w) (hb:bK 1 bv (ay lb) w) :
  Calls Tryz.prog 55 #[av,bv] w (aI fun v w'=>v = .bool (decide (la=lb))∧w=w'):=by
 have h1:=Tz ha
 have h2:=Tz hb
 have He:=uQ (show ((la.toArray.toList:List UInt8)==lb.toArray.toList)=decide (la=lb) by
  rw [Bool.eq_iff_iff,beq_iff_eq,decide_eq_true_eq])
 clear ha hb
 go_enter Tryz.func55,Tryz.ntmps55
 go_wp2
 go_ret
 rw [← He.out]
 exact ⟨_,rfl,rfl,rfl⟩
theorem aaf (l lp:Bs) (a:Option Addr) (n c:Nat) (hn:n≤c) (hc:c≤9223372036854775807) (ha:bK 1 (.slice a n c) (ay l) w) (pa:Option Addr) (pn pc:Nat) (hp:bK 1 (.slice pa pn pc) (ay lp) w) :
  Calls Tryz.prog 163 #[.slice a n c,.slice pa pn pc] w (aI fun v w'=>v = .bool (decide (l.take lp.length=lp))∧w=w'):=by
 have hln:n=l.length:=by
  obtain ⟨_,_,_,he,hl',_⟩:=ha
  cases he
  rw [aU,Nat.mul_one]at hl';exact hl'.symm
 have hpn:pn=lp.length:=by
  obtain ⟨_,_,_,he,hl',_⟩:=hp
  cases he
  rw [aU,Nat.mul_one]at hl';exact hl'.symm
 subst hln hpn
 by_cases hle:lp.length≤l.length
 ·have h4:=Kw (k:=lp.length) ha
  rw [show min l.length lp.length=lp.length by omega]at h4
  have hq:=DZ _ _ h4 hp
  have c1:(lp.length:Int)≤(l.length:Int):=oQ
  have c2:(lp.length:Int)≤(c:Int):=oQ
  have c3:lp.length≤l.length:=hle
  clear h4 ha hp
  go_enter Tryz.func163,Tryz.ntmps163
  go_wp2_with (go_at_call 55;refine hq.mono ?_;rintro e w1 ⟨v,rfl,rfl,rfl⟩)
  go_ret
  exact ⟨_,rfl,rfl,rfl⟩
 ·have c1:¬ lp.length≤l.length:=hle
  have c2:decide ((lp.length:Int)≤(l.length:Int))=false:=decide_eq_false oQ
  have He:=uQ (show decide (l.take lp.length=lp)=false by
   apply decide_eq_false
   intro hh
   have:=congrArg List.length hh
   rw [List.length_take]at this
   omega)
  clear ha hp
  go_enter Tryz.func163,Tryz.ntmps163
  go_wp2
  go_ret
  rw [He.out]
  exact ⟨_,rfl,rfl,rfl⟩
end
end Go.Proofs.YtlimfgdbfadohaaGreatDoor
namespace Go.ak
theorem adq {b:Bs} (h:(read b).2.2=0):9≤(read b).2.1∧(read b).2.1≤b.length∧(read b).1.key.length=32:=by
 unfold read at *
 dsimp only at *
 split at h
 ·simp at h
 rename_i h9
 rw [if_neg h9]
 split at h
 ·simp at h
 rename_i hf
 rw [if_neg hf]
 split at h
 ·simp at h
 rename_i hl
 rw [if_neg hl]
 split at h
 ·simp at h
 rename_i hc
 rw [if_neg hc]
 have hfit:fits (b.getD 8 0) (num ((b.drop 4).take 4))=true:=by
  cases hh:fits (b.getD 8 0) (num ((b.drop 4).take 4)) with
  |true=>rfl
  |false=>exact absurd hh hf
 have Qd:9≤num ((b.drop 4).take 4):=by
  unfold fits at hfit
  split at hfit
  ·have:=of_decide_eq_true hfit;omega
  ·split at hfit
   ·have:=of_decide_eq_true hfit;omega
   ·split at hfit
    ·have:=of_decide_eq_true hfit;omega
    ·cases hfit
 split
 ·rename_i qZ
  refine ⟨Qd,Nat.not_lt.1 hl,?_⟩
  simp only [List.length_take,List.length_drop]
  omega
 ·exact ⟨Qd,Nat.not_lt.1 hl,rfl⟩
theorem KC (b:Bs):(read b).1.key.length=32:=by
 unfold read
 dsimp only
 split
 ·rfl
 split
 ·rfl
 split
 ·rfl
 split
 ·rfl
 rename_i h9 hf hl hc
 split
 ·rename_i qZ
  simp only [List.length_take,List.length_drop]
  omega
 ·rfl
end Go.ak
namespace Go.Proofs.YtlimfgdbfadohaaGreatDoor
open Go Go.Sl Go.aB Go.MapKept Go.RowKit
def ug (f:ak.gG) (dv:Value):List Value:=kW f.e dv++[.int .i64 f.at_,.int .i64 f.size]
def kF (f:ak.gG) (dv:Value):Array Value:=(ug f dv).toArray
def lF (fs:List (ak.gG×Value)):List Value:=fs.flatMap fun p=>ug p.1 p.2
def pI (fs:List (ak.gG×Value)):aC:=stars (fs.map fun p=>aK p.2 p.1.e.data)
theorem Bq (f:ak.gG) (dv:Value) (hk:f.e.key.length=32):(ug f dv).length=36:=by unfold ug;rw [List.length_append,O4 _ _ hk];rfl
theorem xZ (f:ak.gG) (dv:Value) (hk:f.e.key.length=32):(kF f dv).size=36:=by unfold kF;rw [List.size_toArray,Bq _ _ hk]
theorem Py {fs:List (ak.gG×Value)} (hk:∀ p∈fs,p.1.e.key.length=32):(lF fs).length=36 * fs.length:=by
 unfold lF
 induction fs with
 |nil=>rfl
 |cons p fs ih=>
  rw [List.flatMap_cons,List.length_append,ih (fun q hq=>hk q (.tail _ hq)),Bq _ _ (hk p (.head _)),List.length_cons];omega
theorem ZB (es fs:List (ak.gG×Value)):lF (es++fs)=lF es++lF fs:=by unfold lF;rw [List.flatMap_append]
theorem YN (es:List (ak.gG×Value)) (x:ak.gG) (dv:Value):pI (es++[(x,dv)])=star (aK dv x.e.data) (pI es):=by
 unfold pI
 rw [List.map_append,pX,FD]
 show star (stars [aK dv x.e.data]) _=_
 rw [FH]
theorem acV:qJ Tryz.prog 223=some [(0,34),(34,1),(35,1)]:=by kernel_rfl
def LU:ak.gG:=⟨ak.zeroE,0,0⟩
theorem VH:iH Tryz.prog 223=some (.agg (kF LU (.slice none 0 0))):=by kernel_rfl
theorem adb (cs:Array Value) (hs:cs.size=36) (el:List Value) (u v:Value) (hk:el.length=34):(eG (eG (eG cs 0 el) 34 [u]) 35 [v]).toList=el++[u,v]:=by
 have hcl:cs.toList.length=36:=by simpa using hs
 have e1:(eG cs 0 el).toList=el++cs.toList.drop 34:=by
  rw [lW _ _ _ oQ,List.take_zero,List.nil_append,Nat.zero_add,hk]
 have e2:(eG (eG cs 0 el) 34 [u]).toList=el++[u]++cs.toList.drop 35:=by
  rw [lW _ _ _ (by rw [kZ];simp;omega),e1,List.take_append_of_le_length oQ,List.take_of_length_le oQ,List.length_singleton,List.drop_append,hk,List.drop_of_length_le (l:=el) oQ,List.nil_append,List.drop_drop]
 have h3:(el++[u]).length=35:=by simp [hk]
 rw [lW _ _ _ (by rw [kZ,kZ];simp;omega),e2,List.take_append_of_le_length oQ,List.take_of_length_le oQ,List.length_singleton,List.drop_of_length_le (by rw [List.length_append,h3,List.length_drop];omega)]
 simp
set_option maxRecDepth 20000 in
theorem aek (e:ak.aX) (hk:e.key.length=32) (da:Option Addr) (dn dc:Nat) (at_ n:Nat) (w:World) :
  (Instr.build 223 #[(0,.agg (dI e (.slice da dn dc))),(1,.int .i64 at_),(2,.int .i64 n)]).run Tryz.prog w = .ok (.agg (kF ⟨e,at_,n⟩ (.slice da dn dc))) w:=by
 have hz:(kF LU (.slice none 0 0)).size=36:=xZ _ _ rfl
 have he:(dI e (.slice da dn dc)).size=34:=kV _ _ hk
 have h:=run_build (P:=Tryz.prog) [(0,.agg (dI e (.slice da dn dc))),(1,.int .i64 at_),(2,.int .i64 n)] acV VH (by
  intro p hp
  simp only [List.mem_cons,List.not_mem_nil,or_false]at hp
  have hzz:(Value.agg (kF LU (.slice none 0 0))).cells.size=36:=hz
  rw [hzz]
  rcases hp with rfl|rfl|rfl
  ·refine ⟨0,?_,?_⟩
   ·show some (0,34)=some (0,(dI e (.slice da dn dc)).size);rw [he]
   ·show 0+(dI e (.slice da dn dc)).size≤36;omega
  ·exact ⟨34,rfl,by show 34+1≤36;omega⟩
  ·exact ⟨35,rfl,by show 35+1≤36;omega⟩) w
 refine h.trans ?_
 congr 2
 apply rH
 exact adb _ hz _ _ _ (show (dI e (.slice da dn dc)).toList.length=34 by rw [Array.length_toList,he])
section
variable {w0 w:World}{L L' R:List aC}{b:Nat}{ops:Array Oper}{rest:List Oper}{a:Act}{Q:Exit→Act→World→Prop}
variable {dst:Option Tmp}{t T ty:TypeId}{pos:String}{after:Array Edge}{x y z:Operand}{cs:Array Value}{v v1 v2 v3:Value}{i1 i2 i3:Nat}{P:Program}
theorem Lp (h1:a.eval x=v1) (h2:a.eval y=v2) (h3:a.eval z=v3) (hr:∀ w,(Instr.build ty #[(i1,v1),(i2,v2),(i3,v3)]).run P w = .ok v w) (h:wpList P ops Q rest (a.put dst v) w) :
  wpList P ops Q (⟨dst,.build ty #[(i1,x),(i2,y),(i3,z)],t,pos,after,none⟩::rest) a w:=
 wpList_plain rfl fun _ hK=>by
  unfold Oper.wp execOp
  simp only [List.map_toArray,List.map_cons,List.map_nil,h1,h2,h3,Sem.run_bind,hr,Result.andThen_ok,Sem.run_pure]
  exact hK _ _ h
theorem G6 (h:Stop (wpList P ops Q (⟨dst,.build ty #[(i1,x),(i2,y),(i3,z)],t,pos,after,none⟩::rest) a w)):wpList P ops Q (⟨dst,.build ty #[(i1,x),(i2,y),(i3,z)],t,pos,after,none⟩::rest) a w:=h.out
theorem Px (f:ak.gG) (a:Option Addr) (n c:Nat):(kF f (.slice a n c)).toList.all (·.oneCell')=true:=by
 unfold kF ug
 rw [List.toList_toArray,List.all_append]
 have h1:(kW f.e (.slice a n c)).all (·.oneCell')=true:=by
  have:=O1 f.e a n c
  unfold dI at this
  rwa [List.toList_toArray]at this
 rw [h1];rfl
end
end Go.Proofs.YtlimfgdbfadohaaGreatDoor
namespace Go.Rep
open Go.ak (Bs gG)
open Go.Seg (bF)
open Go.Tab (put)
abbrev Row:=Int×gG
def jo (r:Row):Bs:=r.2.e.key
def iC (r:Row):Int:=r.2.e.tag
def mO (r:Row):bF:=⟨r.1,r.2.at_,r.2.size⟩
structure dP where
 tag:Int
 place:bF
 first:Int
def newest:List Row→Bs→Option Row
 |[],_=>none
 |r::l,k=>match newest l k with
  |some x=>some x
  |none=>if iC r≠2∧jo r=k then some r else none
def pK:List Row→Bs→Option Row
 |[],_=>none
 |r::l,k=>if iC r=0∧jo r=k then some r else pK l k
def first (l:List Row) (k:Bs):Int:=match pK l k with
 |some r=>r.1
 |none=> -1
def ledger (l:List Row) (k:Bs):Option dP:=(newest l k).map fun r=>⟨iC r,mO r,first l k⟩
def xX (m:Bs→Option dP) (r:Row):Int:=match m (jo r) with
 |some a=>a.first
 |none=> -1
def mY (m:Bs→Option dP) (r:Row):Int:=if iC r=0∧xX m r<0 then r.1 else xX m r
def Dj (m:Bs→Option dP) (r:Row):Bs→Option dP:=
 if iC r=2 then m else put m (jo r) ⟨iC r,mO r,mY m r⟩
theorem CB (l:List Row) (r:Row) (k:Bs):newest (l++[r]) k=if iC r≠2∧jo r=k then some r else newest l k:=by
 induction l with
 |nil=>simp only [List.nil_append,newest]
 |cons x l ih=>
  simp only [List.cons_append,newest,ih]
  split
  ·rename_i h;split at h
   ·rename_i h2;rw [if_pos h2];cases h;rfl
   ·rename_i h2;rw [if_neg h2,h]
  ·rename_i h;split at h
   ·cases h
   ·rename_i h2;rw [if_neg h2,h]
theorem Iu (l:List Row) (r:Row) (k:Bs):pK (l++[r]) k=match pK l k with
  |some x=>some x
  |none=>if iC r=0∧jo r=k then some r else none:=by
 induction l with
 |nil=>simp only [List.nil_append,pK]
 |cons x l ih=>
  simp only [List.cons_append,pK,ih]
  split
  ·rename_i h;simp only
  ·rfl
theorem acf {l:List Row}{k:Bs} (h:newest l k=none):pK l k=none:=by
 induction l with
 |nil=>rfl
 |cons x l ih=>
  simp only [newest]at h
  split at h
  ·cases h
  ·rename_i h1
   split at h
   ·cases h
   ·rename_i h2
    simp only [pK]
    rw [if_neg fun h3=>h2 ⟨by rw [h3.1];decide,h3.2⟩]
    exact ih h1
theorem Zv {l:List Row}{k:Bs}{r:Row} (h:pK l k=some r):r∈l∧iC r=0∧jo r=k:=by
 induction l with
 |nil=>cases h
 |cons x l ih=>
  simp only [pK]at h
  split at h
  ·cases h;exact ⟨.head _,by assumption⟩
  ·exact ⟨.tail _ (ih h).1,(ih h).2⟩
theorem abp (l:List Row) (r:Row) (h0:∀ x∈l,0≤x.1):ledger (l++[r])=Dj (ledger l) r:=by
 funext k
 unfold Dj
 by_cases h2:iC r=2
 ·rw [if_pos h2]
  unfold ledger first
  rw [CB,if_neg (fun h=>h.1 h2),Iu]
  cases pK l k with
  |some x=>rfl
  |none=>simp only;rw [if_neg (fun h=>by rw [h2]at h;exact absurd h.1 aJ)]
 ·rw [if_neg h2]
  unfold put
  by_cases hk:k=jo r
  ·subst hk
   rw [if_pos rfl]
   have e1:∀ k,ledger l k=(newest l k).map fun r=>⟨iC r,mO r,first l k⟩:=fun _=>rfl
   have e2:ledger (l++[r]) (jo r)=some ⟨iC r,mO r,first (l++[r]) (jo r)⟩:=by
    unfold ledger
    rw [CB,if_pos ⟨h2,rfl⟩,Option.map_some]
   rw [e2]
   congr 2
   unfold mY xX
   rw [e1]
   unfold first
   rw [Iu]
   cases hn:newest l (jo r) with
   |none=>
    rw [acf hn]
    simp only [Option.map_none]
    by_cases ht:iC r=0
    ·rw [if_pos ⟨ht,trivial⟩,if_pos ⟨ht,by decide⟩]
    ·rw [if_neg (fun h=>ht h.1),if_neg (fun h=>ht h.1)]
   |some x=>
    simp only [Option.map_some]
    cases hf:pK l (jo r) with
    |some y=>
     simp only
     rw [if_neg (fun h=>by have:=h0 y (Zv hf).1;omega)]
    |none=>
     simp only
     by_cases ht:iC r=0
     ·rw [if_pos ⟨ht,trivial⟩,if_pos ⟨ht,by decide⟩]
     ·rw [if_neg (fun h=>ht h.1),if_neg (fun h=>ht h.1)]
  ·rw [if_neg hk]
   unfold ledger first
   rw [CB,if_neg (fun h=>hk h.2.symm),Iu]
   cases pK l k with
   |some x=>rfl
   |none=>simp only;rw [if_neg (fun h=>hk h.2.symm)]
def counts (a:dP):Bool:=decide (a.tag=0) || (decide (0≤a.first) && decide (a.first<a.place.seg))
def aaY (l:List Row) (i:Nat):Bool:=match l[i]? with
 |none=>false
 |some r=>decide (iC r<2) && (l.drop (i+1)).all fun x => !(decide (iC x<2) && decide (jo x=jo r))
def cnt (l:List Row) (i:Nat):Bool:=match l[i]? with
 |none=>false
 |some r => !decide (iC r=2) && aaY l i && (decide (iC r=0) || (l.take i).any fun x=>decide (iC x=0) && decide (jo x=jo r) && decide (x.1<r.1))
structure Rows (l:List Row):Prop where
 tag:∀ r∈l,iC r=0∨iC r=1∨iC r=2
 seg:∀ r∈l,0≤r.1
 rise:l.Pairwise fun a b=>a.1≤b.1
end Go.Rep
namespace Go.Proofs.YtlimfgdbfadohaaGreatDoor
open Go Go.Sl Go.aB Go.MapKept Go.RowKit
def jF (xs:List Value) (i:Nat) (vs:List Value):List Value:=xs.take i++(vs++xs.drop (i+vs.length))
theorem zO (A B vs:List Value) (i:Nat):jF (A++B) (A.length+i) vs=A++jF B i vs:=by
 unfold jF
 rw [List.take_length_add_append,Nat.add_assoc,List.drop_length_add_append,List.append_assoc]
theorem Td {xs vs:List Value}{i:Nat} (h:i+vs.length≤xs.length):(jF xs i vs).length=xs.length:=by
 unfold jF
 simp only [List.length_append,List.length_take,List.length_drop];omega
section
variable {P:Program}{w0 w:World}{L L':List aC}{b o:Nat}{ops:Array Oper}{rest:List Oper}{a:Act}{Q:Exit→Act→World→Prop}{dst:Option Tmp}{t ty T sz n c:Nat}{pos:String}{after:Array Edge}{x y:Operand}{v:Value}{xs vs:List Value}{K:Act→World→Prop}{E:Prop}
theorem Ti {cs:Array Value}{i m:Nat} (hx:cs.toList.take m=xs) (hm:m≤cs.size) (hi:i+vs.length≤m):(eG cs i vs).toList.take m=jF xs i vs:=by
 subst hx
 rw [lW _ _ _ oQ]
 have hl:(cs.toList.take i++vs).length=i+vs.length:=by rw [List.length_append,List.length_take,Array.length_toList];omega
 unfold jF
 rw [List.take_append,hl,List.take_of_length_le oQ,List.take_take,Nat.min_eq_left oQ,List.drop_take,List.append_assoc]
theorem Dp (i:Nat) (hs:Sat w0 w L) (hx:a.eval x = .pointer (some ⟨b,i,none⟩)) (hy:a.eval y=v) (hv:v.cells.toList=vs) (u:mW (aF T sz (.slice (some ⟨b,0,none⟩) n c) xs) (aF T sz (.slice (some ⟨b,0,none⟩) n c) (jF xs i vs)) L L')
  (hi:i+vs.length≤xs.length) (hty:(P.info? ty).map (·.size)=some vs.length) (h1:vs.all (·.oneCell')=true)
  (hK:∀ w',Sat w0 w' L'→wpList P ops Q rest (a.put dst undef) w'):wpList P ops Q (⟨dst,.store ty x y,t,pos,after,none⟩::rest) a w:=by
 have hvs:v.cells.size=vs.length:=by rw [← hv,Array.length_toList]
 obtain ⟨R',h2,h3⟩:=u
 have h:=hs.perm h2
 rcases Sat.jR h with ⟨he,_⟩|⟨g',n',cap',cs,he,k1,k2,k3,k4,k5,k6⟩
 ·cases he
 ·cases he
  have hlen:xs.length≤cs.size:=by rw [← k5,List.length_take,Array.length_toList];omega
  have hm:n * sz≤cs.size:=Nat.le_trans (Nat.mul_le_mul_right _ k2) k3
  refine Dq rfl ty x y rfl i v hx hy (by rw [hvs];omega) (by rw [hvs];exact hty) (by rw [← Array.all_toList,hv];exact h1) k6 fun w' hS=>hK w' (Sat.perm ?_ h3.symm)
  refine Sat.jV hS (by rw [Td hi];exact k1) k2 (by rw [kZ];exact k3) k4 ?_
  rw [hv]
  exact Ti k5 hm (by rw [← k1];exact hi)
theorem sF (i:Nat) (hs:Sat w0 w L) (hx:a.eval x = .pointer (some ⟨b,i,none⟩)) (hy:a.eval y=v) (hv:v.cells.toList=vs) (u:mW (aF T sz (.slice (some ⟨b,0,none⟩) n c) xs) (aF T sz (.slice (some ⟨b,0,none⟩) n c) (jF xs i vs)) L L')
  (hi:i+vs.length≤xs.length) (hty:(P.info? ty).map (·.size)=some vs.length) (h1:vs.all (·.oneCell')=true)
  (hK:∀ w',Sat w0 w' L'→K (a.put dst undef) w') :
  if Region.wanted ⟨dst,.store ty x y,t,pos,after,none⟩ (yielded ops a.tmps)=true then Oper.wp P ⟨dst,.store ty x y,t,pos,after,none⟩ a w K Q else E:=by
 have hvs:v.cells.size=vs.length:=by rw [← hv,Array.length_toList]
 obtain ⟨R',h2,h3⟩:=u
 have h:=hs.perm h2
 rcases Sat.jR h with ⟨he,_⟩|⟨g',n',cap',cs,he,k1,k2,k3,k4,k5,k6⟩
 ·cases he
 ·cases he
  have hlen:xs.length≤cs.size:=by rw [← k5,List.length_take,Array.length_toList];omega
  have hm:n * sz≤cs.size:=Nat.le_trans (Nat.mul_le_mul_right _ k2) k3
  refine jD k6 hx hy (cs':=eG cs i vs) (by rw [hv]) bJ (by rw [hvs];omega) (by rw [hvs];exact hty) (by rw [hv];exact h1) fun w' hS=>hK w' (Sat.perm ?_ h3.symm)
  refine Sat.jV hS (by rw [Td hi];exact k1) k2 (by rw [kZ];exact k3) k4 ?_
  exact Ti k5 hm (by rw [← k1];exact hi)
end
section
variable {α:Type}{f:α→List Value}{k:Nat}
theorem jr:∀ {l:List α},(∀ x∈l,(f x).length=k)→(l.flatMap f).length=k * l.length
 |[],_=>rfl
 |x::l,h=>by rw [List.flatMap_cons,List.length_append,h x (.head _),jr fun y hy=>h y (.tail _ hy),List.length_cons,Nat.mul_succ];omega
theorem Fh:∀ {l:List α}{i:Nat}{x:α}{j:Nat}{v:Value},(∀ x∈l,(f x).length=k)→l[i]?=some x→(f x)[j]?=some v→(l.flatMap f)[i * k+j]?=some v
 |[],_,_,_,_,_,h,_=>by cases h
 |y::l,0,x,j,v,hk,h,hj=>by
  obtain rfl:y=x:=by simpa using h
  rw [List.flatMap_cons,Nat.zero_mul,Nat.zero_add,List.getElem?_append_left (List.getElem?_eq_some_iff.1 hj).1];exact hj
 |y::l,i+1,x,j,v,hk,h,hj=>by
  have h0:=hk y (.head _)
  rw [List.flatMap_cons,Nat.succ_mul,List.getElem?_append_right oQ,h0,show i * k+k+j - k=i * k+j by omega]
  exact Fh (fun z hz=>hk z (.tail _ hz)) (by simpa using h) hj
theorem sU:∀ {l:List α}{i:Nat}{x:α},(∀ x∈l,(f x).length=k)→(f x).length=k→i<l.length→(l.set i x).flatMap f=jF (l.flatMap f) (i * k) (f x)
 |[],_,_,_,_,h=>by simp at h
 |y::l,0,x,hk,hx,h=>by
  have h0:=hk y (.head _)
  rw [List.set_cons_zero,List.flatMap_cons,List.flatMap_cons]
  unfold jF
  rw [Nat.zero_mul,List.take_zero,List.nil_append,Nat.zero_add,hx,← h0,List.drop_left]
 |y::l,i+1,x,hk,hx,h=>by
  have h0:=hk y (.head _)
  rw [List.set_cons_succ,List.flatMap_cons,List.flatMap_cons,sU (fun z hz=>hk z (.tail _ hz)) hx (by simpa using h),Nat.succ_mul,Nat.add_comm (i * k) k,← h0,zO]
theorem zV (n:Nat) (x:α):(List.replicate n x).flatMap f=(List.replicate n (f x)).flatten:=by
 induction n with
 |zero=>rfl
 |succ n ih=>rw [List.replicate_succ,List.flatMap_cons,ih,List.replicate_succ,List.flatten_cons]
end
section
variable {w0 w:World}{F R:List aC}{α:Type}{f:α→List Value}{k:Nat}{T:TypeId}{v:Value}
theorem mJ {l:List α}{i:Nat}{x:α} (hk:∀ x∈l,(f x).length=k) (h:bK k v (l.flatMap f) w) (hi:l[i]?=some x) (h0:0<k) :
  ∃ bk off c,v = .slice (some ⟨bk,off,none⟩) l.length c∧∀ j y,(f x)[j]?=some y→w.cell? ⟨bk,off+i * k+j,none⟩=some y:=by
 obtain ⟨a,n,c,rfl,hl,hx⟩:=id h
 rw [jr hk]at hl
 have hfx:=hk x (List.mem_of_getElem? hi)
 obtain rfl:n=l.length:=by
  rw [Nat.mul_comm]at hl
  exact (Nat.eq_of_mul_eq_mul_right h0 hl).symm
 obtain ⟨y0,hy0⟩:∃ y,(f x)[0]?=some y:=⟨_,List.getElem?_eq_getElem oQ⟩
 have h1:=Fh hk hi hy0
 obtain ⟨bk,off,rfl,hc⟩:=iU h h1
 exact ⟨bk,off,c,rfl,fun j y hj=>by rw [Nat.add_assoc];exact hc _ _ (Fh hk hi hj)⟩
theorem jm {l:List α} (hk:∀ x∈l,(f x).length=k) (h:bK k v (l.flatMap f) w) (h0:0<k):∃ a c,v = .slice a l.length c:=by
 obtain ⟨a,n,c,rfl,hl,hx⟩:=id h
 rw [jr hk,Nat.mul_comm]at hl
 exact ⟨a,c,by rw [Nat.eq_of_mul_eq_mul_right h0 hl]⟩
end
theorem DN (x j:Nat) (hx:x<9223372036854775808) (hj:j<63):bits .and .i64 (x:Int) ((2^j - 1:Nat):Int)=((x%2^j:Nat):Int):=by
 have h2:2^j≤2^62:=Nat.pow_le_pow_right aJ oQ
 have h3:(2:Nat)^62=4611686018427387904:=by decide
 have h4:0<2^j:=Nat.two_pow_pos j
 have hm:(BitVec.ofInt 64 ((2^j - 1:Nat):Int)).toNat=2^j - 1:=by
  rw [BitVec.toNat_ofInt]
  have:((2^64:Nat):Int)=18446744073709551616:=by decide
  rw [this]
  omega
 have hn:(BitVec.ofInt 64 (x:Int)).toNat=x:=by
  rw [BitVec.toNat_ofInt]
  have:((2^64:Nat):Int)=18446744073709551616:=by decide
  rw [this]
  omega
 show IntKind.i64.wrap ((BitVec.ofInt 64 (x:Int) &&& BitVec.ofInt 64 ((2^j - 1:Nat):Int)).toNat:Nat)=_
 rw [BitVec.toNat_and,hm,hn,Nat.and_two_pow_sub_one_eq_mod,IntKind.wrap_i64]
 have:=Nat.mod_lt x h4
 omega
theorem J7 (l:Bs) (c:UInt8) (k:Nat) (hl:l.length=k) (hk:k<4):bits .or .u32 ((ak.num l:Nat):Int) ((c.toNat:Int) * ((256^k:Nat):Int))=((ak.num (l++[c]):Nat):Int):=by
 subst hl
 have h1:=ak.sJ l
 have h2:=c.toNat_lt
 have h3:256^l.length≤256^3:=Nat.pow_le_pow_right aJ oQ
 have h4:c.toNat * 256^l.length≤255 * 256^3:=Nat.mul_le_mul oQ h3
 have h5:(256:Nat)^3=16777216:=by decide
 have e:(c.toNat:Int) * ((256^l.length:Nat):Int)=((c.toNat * 256^l.length:Nat):Int):=by rw [Int.natCast_mul]
 rw [e,u32_or_nat _ _ oQ oQ,ak.J3]
 congr 1
 have hp:(256:Nat)^l.length=2^(8 * l.length):=by rw [Nat.pow_mul]
 rw [hp]at h1 ⊢
 have:=Nat.two_pow_add_eq_or_of_lt h1 c.toNat
 rw [Nat.or_comm,Nat.mul_comm c.toNat,← this,Nat.add_comm]
section
variable {w0 w:World}{F R:List aC}
set_option maxRecDepth 20000 in
theorem Je (k:Bs) (hk:k.length=32) (j:Nat) (hj:j<40) (h:Sat w0 w F) :
  Calls Tryz.prog 89 #[.agg (ay k).toArray,.int .i64 (2^j:Nat)] w (aI fun v w'=>v = .int .i64 (Tab.home k (2^j):Nat)∧Sat w0 w' F):=by
 obtain ⟨c0,c1,c2,c3,t,rfl⟩:∃ c0 c1 c2 c3 t,k=c0::c1::c2::c3::t:=by
  match k,hk with
  |c0::c1::c2::c3::t,_=>exact ⟨c0,c1,c2,c3,t,rfl⟩
 have Hh:=uQ (show Tab.home (c0::c1::c2::c3::t) (2^j)=ak.num [c0,c1,c2,c3]%2^j from rfl)
 have hB:=h.alloc (.cells (ay (c0::c1::c2::c3::t)).toArray 30)
 have e0:(w.alloc (.cells (ay (c0::c1::c2::c3::t)).toArray 30)).cell? ⟨w.heap.size,0,none⟩=some (.int .u8 c0.toNat):=hB.cellAt 0 _ rfl
 have e1:(w.alloc (.cells (ay (c0::c1::c2::c3::t)).toArray 30)).cell? ⟨w.heap.size,1,none⟩=some (.int .u8 c1.toNat):=hB.cellAt 1 _ rfl
 have e2:(w.alloc (.cells (ay (c0::c1::c2::c3::t)).toArray 30)).cell? ⟨w.heap.size,2,none⟩=some (.int .u8 c2.toNat):=hB.cellAt 2 _ rfl
 have e3:(w.alloc (.cells (ay (c0::c1::c2::c3::t)).toArray 30)).cell? ⟨w.heap.size,3,none⟩=some (.int .u8 c3.toNat):=hB.cellAt 3 _ rfl
 have b0:=c0.toNat_lt;have b1:=c1.toNat_lt;have b2:=c2.toNat_lt;have b3:=c3.toNat_lt
 have q1:bits .or .u32 (c0.toNat:Int) ((c1.toNat:Int) * 256)=((ak.num [c0,c1]:Nat):Int):=by
  have:=J7 [c0] c1 1 rfl aJ
  simpa [ak.num] using this
 have q2:bits .or .u32 ((ak.num [c0,c1]:Nat):Int) ((c2.toNat:Int) * 65536)=((ak.num [c0,c1,c2]:Nat):Int):=J7 [c0,c1] c2 2 rfl aJ
 have q3:bits .or .u32 ((ak.num [c0,c1,c2]:Nat):Int) ((c3.toNat:Int) * 16777216)=((ak.num [c0,c1,c2,c3]:Nat):Int):=J7 [c0,c1,c2] c3 3 rfl aJ
 have hn:=ak.sJ [c0,c1,c2,c3]
 rw [show [c0,c1,c2,c3].length=4 from rfl,show (256:Nat)^4=4294967296 by decide]at hn
 have hp:(2:Nat)^j≤2^40:=Nat.pow_le_pow_right aJ oQ
 have hp1:(2:Nat)^40=1099511627776:=by decide
 have hp0:0<2^j:=Nat.two_pow_pos j
 have q4:=DN (ak.num [c0,c1,c2,c3]) j oQ oQ
 generalize ak.num [c0,c1,c2,c3]=N at *
 generalize hC:2^j=C at *
 have hw1:IntKind.i64.wrap ((C:Int) - 1)=((C - 1:Nat):Int):=by rw [IntKind.wrap_i64];omega
 have hw2:IntKind.i64.wrap (N:Int)=(N:Int):=IntWalk.i64_in _ oQ
 have hm2:N%C<C:=Nat.mod_lt _ hp0
 clear h hk hC hp hp1
 go_enter Tryz.func89,Tryz.ntmps89
 go_wp2_with fail
 go_ret
 refine ⟨_,rfl,?_,hB.drop⟩
 rw [Hh.out,Int.natCast_emod];rfl
end
section
variable {w0 w:World}{L L' R F:List aC}{b o:Nat}{ops:Array Oper}{rest:List Oper}{a:Act}{Q:Exit→Act→World→Prop}
variable {dst:Option Tmp}{t T ty:TypeId}{pos:String}{after:Array Edge}{x y:Operand}{cs:Array Value}{v:Value}{P:Program}
theorem jw (ks:List Value) (hx:a.eval x = .pointer (some ⟨b,o,none⟩)) (hc:∀ j v,ks[j]?=some v→w.cell? ⟨b,o+j,none⟩=some v)
  {d:TypeDesc} (hu:P.underlying ty=some d) (hd:d.isRow=true) (hi:(P.info? ty).map (·.size)=some ks.length)
  (h:wpList P ops Q rest (a.put dst (.agg ks.toArray)) w):wpList P ops Q (⟨dst,.load ty x,t,pos,after,none⟩::rest) a w:=
 wpList_load_mid rfl ty x rfl b o hx ks d hc hu hd hi h
theorem eH (ks:Array Value) (hs:Sat w0 w L) (hx:a.eval x = .pointer (some ⟨b,0,none⟩)) (hy:a.eval y = .agg ks) (hsz:ks.size=cs.size) (u:mW (pt b (.cells cs T (0,0))) (pt b (.cells ks T (0,0))) L L')
  (hi:(P.info? ty).map (·.size)=some ks.size) (h1:ks.toList.all (·.oneCell')=true)
  (hK:∀ w',Sat w0 w' L'→wpList P ops Q rest (a.put dst undef) w'):wpList P ops Q (⟨dst,.store ty x y,t,pos,after,none⟩::rest) a w:=
 eX hs hx hy (rH (by
  show (eG cs 0 ks.toList).toList=_
  rw [lW _ _ _ (by rw [Array.length_toList];omega),List.take_zero,List.nil_append,Nat.zero_add,List.drop_of_length_le (by rw [Array.length_toList,Array.length_toList];omega),List.append_nil])) u (by show 0+ks.size≤cs.size;omega) hi h1 hK
end
abbrev E5 (q:Seg.bF):Value:= .agg #[.int .i64 q.seg,.int .i64 q.at_,.int .i64 q.size]
theorem LQ:iH Tryz.prog 107=some (.agg #[.int .i64 0,.int .i64 0,.int .i64 0]):=by kernel_rfl
structure DL (l:List (Int×Int)) (n cap:Nat) (cs:Array Value):Prop where
 len:l.length=n+1
 le:n+1≤cap
 size:cap * 2≤cs.size
 max:cap≤maxLen
 take:cs.toList.take ((n+1) * 2)=dV l
theorem ae4 (l:List (Int×Int)) (s:Int×Int) (z:Int):(dV (l++[s])).set (l.length * 2+1) (.int .i64 z)=dV (l++[(s.1,z)]):=by
 rw [yK,yK]
 rw [List.set_append_right _ _ (by rw [kD];omega),kD,show l.length * 2+1 - 2 * l.length=1 by omega]
 rfl
theorem ae8 {α:Type} (l:List α) (k i:Nat) (x:α) (h:i<k):(l.set i x).take k=(l.take k).set i x:=by
 rw [List.take_set]
section
variable {w0 w:World}{F R:List aC}{v bv dv x lv:Value}{q p m K:Nat}{L:Seg.Log}{M:aB}{s:Int×Int}
theorem KR (hl:L.l.getLast?=some s) (h:Sat w0 w (y7 p m L lv++F)) :
  ∃ bk n cap cs,lv = .slice (some ⟨bk,0,none⟩) (n+1) cap∧DL L.l n cap cs∧cs[n * 2]?=some (.int .i64 s.1)∧cs[n * 2+1]?=some (.int .i64 s.2) ∧
   Sat w0 w (lI p m L (.slice (some ⟨bk,0,none⟩) (n+1) cap)::pt bk (.cells cs 159 (0,0))::F):=by
 rw [List.getLast?_eq_getElem?]at hl
 have hlt:=(List.getElem?_eq_some_iff.1 hl).1
 obtain ⟨n,hn⟩:∃ n,L.l.length=n+1:=⟨L.l.length - 1,by omega⟩
 rw [hn,Nat.add_sub_cancel]at hl
 obtain ⟨h1,h2⟩:=Fv _ _ _ hl
 have hS:Sat w0 w (aF 159 2 lv (dV L.l)::lI p m L lv::F):=h.aP
 rcases hS.jR with ⟨rfl,hx,_⟩|⟨b,n',cap,cs,rfl,hll,hn',hc,hcm,htk,hp⟩
 ·rw [hx]at h1;simp at h1
 ·rw [kD,hn]at hll
  obtain rfl:n'=n+1:=by omega
  refine ⟨b,n,cap,cs,rfl,⟨hn,hn',hc,hcm,htk⟩,?_,?_,hp.aP⟩
  ·rw [Nat.mul_comm];exact pY htk h1
  ·rw [Nat.mul_comm];exact pY htk h2
theorem KT {bk n cap:Nat}{cs:Array Value} (hb:DL L.l n cap cs) (h:Sat w0 w (pt bk (.cells cs 159 (0,0))::R)) :
  Sat w0 w (aF 159 2 (.slice (some ⟨bk,0,none⟩) (n+1) cap) (dV L.l)::R):=
 Sat.jV h (by rw [kD,hb.len];omega) hb.le hb.size hb.max hb.take
theorem seg_close {bk n cap:Nat}{cs:Array Value} (hl:L.l.getLast?=some s) (hb:DL L.l n cap cs) (z:Int)
  (h:Sat w0 w (pt bk (.cells (eG cs (n * 2+1) [.int .i64 z]) 159 (0,0))::R)) :
  Sat w0 w (aF 159 2 (.slice (some ⟨bk,0,none⟩) (n+1) cap) (dV (L.l.dropLast++[(s.1,z)]))::R):=by
 have e:=Seg.Cj hl
 have hlen:=Seg.Ju hl
 have hn:=hb.len
 refine Sat.jV h ?_ hb.le ?_ hb.max ?_
 ·rw [kD,List.length_append,List.length_singleton];omega
 ·rw [kZ];exact hb.size
 ·simp only [eG,Array.toList_setIfInBounds]
  rw [ae8 _ _ _ _ oQ,hb.take,e,List.dropLast_append_cons,show n=L.l.dropLast.length by omega]
  simp only [List.dropLast_singleton,List.append_nil]
  exact ae4 _ _ _
set_option maxRecDepth 20000 in
theorem ZY (hl:L.l.getLast?=some s) (hs:0≤s.2∧s.2≤33554432) (hM:M.Ok K) (oW:K≤1099511627776) (hlen:L.l.length≤1048576) (b:Bs) (hbl:b.length≤1073741824) (hr:Ro w0 F (bK 1 bv (ay b)))
  (h:Sat w0 w (aS p m L::aT m M::F)) :
  Calls Tryz.prog 139 #[ptr p,bv] w (aI fun v w'=>v = .tuple #[E5 (L.grow M b).2.1,errno (L.grow M b).2.2] ∧
   Sat w0 w' (aS p m (L.grow M b).1.1::aT m (L.grow M b).1.2::F)):=by
 obtain ⟨lv,hR⟩:=aS.open h
 clear h
 obtain ⟨bk,n,cap,cs,rfl,hb,c0,c1,hS⟩:=KR hl hR
 clear hR
 obtain ⟨ba,bn,bc,rfl,hbn⟩:=CW hr (A:=emp) (Sat.emp.2 (hS.sel 3 [] rfl rfl))
 subst hbn
 have Hg:=uQ (show L.grow M b=if (M.append (Seg.name s.1) b).2=0 then (({ L with l:=L.l.dropLast++[(s.1,s.2+(b.length:Int))] },(M.append (Seg.name s.1) b).1),⟨s.1,s.2,b.length⟩,0)
  else ((L,(M.append (Seg.name s.1) b).1),Seg.bF.zero,(M.append (Seg.name s.1) b).2) by unfold Seg.Log.grow;rw [hl])
 have hn:=hb.len
 have Hb:=uQ hb;have Hr:=uQ hr;have Hl:=uQ hl;have Hs:=uQ hs;have yT:=uQ c0;have Wi:=uQ c1;have lK:=uQ hbl
 have hn0:(n:Int)<(n:Int)+1:=oQ
 have hwn:IntKind.i64.wrap (n:Int)=(n:Int):=by rw [IntKind.wrap_i64];omega
 have hwz:IntKind.i64.wrap (s.2+(b.length:Int))=s.2+(b.length:Int):=by rw [IntKind.wrap_i64];omega
 have Xv:=uQ hwz
 clear hn hb hr hl hs c0 c1 hbl hlen hwz
 go_enter Tryz.func139,Tryz.ntmps139
 go_wp2_with (refine dS LQ aQ rfl ?_;intro q w1 hS1)
 refine dh [10,11] (fun w'=>w'.cell? ⟨p,2,none⟩=some (.slice (some ⟨bk,0,none⟩) (n+1) cap)) au ?_
 have hG:w1.drew.cell? ⟨p,2,none⟩=some (.slice (some ⟨bk,0,none⟩) (n+1) cap):=hS1.drew.cellP aY 2 rfl
 refine rP 0 ?_ (y:=aG)
 refine rP 1 ?_ (y:=dL)
 refine rP 2 ?_ (y:=cO)
 refine rt 3 (h:=?_)
 refine rP 4 ?_ (y:=aG)
 refine rP 5 ?_ (y:=dL)
 refine rP 6 ?_ (y:=cO)
 refine rt 7 (h:=?_)
 refine rP 8 ?_ (y:=(nG aj bT))
 refine rP 9 ?_ (y:=dB)
 refine rP 10 ?_ (y:=dZ)
 refine rP 11 ?_ (y:=dN)
 refine cu au ?_
 clear hG
 have hS2:=hS1.drew
 generalize w1.drew=w2 at *
 clear hS1 hS
 go_wp2_with fail
 refine dh [10,11] (fun w'=>w'.cell? ⟨p,0,none⟩=some (ptr m)∧w'.cell? ⟨bk,n * 2,none⟩=some (.int .i64 s.1)) au ?_
 have hG:w2.drew.cell? ⟨p,0,none⟩=some (ptr m)∧w2.drew.cell? ⟨bk,n * 2,none⟩=some (.int .i64 s.1):=⟨hS2.drew.cellP aY 0 rfl,hS2.drew.cellP aY _ yT.out⟩
 refine rP 0 ?_ (y:=aG)
 refine rP 1 ?_ (y:=dL)
 refine rP 2 ?_ (y:=cO)
 refine rt 3 (h:=?_)
 refine rP 4 ?_ (y:=aG)
 refine rP 5 ?_ (y:=dL)
 refine rP 6 ?_ (y:=cO)
 refine rt 7 (h:=?_)
 refine rP 9 ?_ (y:=aG)
 refine bG 8 aj au (fun K hK=>?_)
 clear hG
 (refine vT au aj ?_)
 refine (Aa s.1 hS2.drew).mono ?_
 rintro e w3 ⟨v,rfl,rfl,hS3⟩
 refine hK _ _ (.inr (.inl ⟨hS3.cellP aY 0 rfl,hS3.cellP aY _ yT.out⟩)) ?_
 clear hK K
 refine bG 10 aj au (fun K hK=>?_)
 (refine vU au aj aj aj ?_)
 refine (Nr hM oW (Sat.pk aQ) _ b (by first|assumption|exact Ro.op (Ro.aK _ _)|exact Ro.os aQ)).mono ?_
 rintro e w4 ⟨v,rfl,rfl,hS4⟩
 refine hK _ _ (.inl rfl) ?_
 clear hK K
 refine rP 11 ?_ (y:=dN)
 refine cu au ?_
 clear hS3 hS2 Hr
 generalize M.append (Seg.name s.1) b=r at *
 obtain ⟨M2,ee⟩:=r
 by_cases he:ee=0
 ·subst he
  have hfin:=uQ (Hg.out.trans (if_pos rfl))
  have e1:w4.cell? ⟨bk,n * 2+1,none⟩=some (.int .i64 s.2):=hS4.cellP aY _ Wi.out
  have hfit:=Hb.out.size;have hle:=Hb.out.le
  have hst:=uQ (show n * 2+1+(Value.int .i64 (s.2+(b.length:Int))).cells.size≤cs.size by show n * 2+1+1≤cs.size;omega)
  have hwz:=Xv.out
  clear hfit hle
  go_wp2_with (refine agX ah ?_)
  refine ⟨eX (b:=bk) (o:=n * 2+1) (v:= .int .i64 (s.2+(b.length:Int))) aQ ah ah rfl eP hst.out au ah ?_⟩
  intro w5 hS5
  have e0:w5.cell? ⟨bk,n * 2,none⟩=some (.int .i64 s.1):=hS5.cellP aY _ (by
   show (cs.setIfInBounds (n * 2+1) _)[n * 2]?=_
   rw [Array.getElem?_setIfInBounds_ne oQ];exact yT.out)
  clear e1 hst hwz
  go_wp2_with ((with_reducible refine bU ⟨?_⟩);refine eX aQ ah aj pQ eP bH au ah ?_;intro wS hS)
  refine ⟨rfl,_,kC rfl aQ ah aY Tryz.underlying107 rfl au,_,rfl,?_,?_⟩
  ·rw [hfin.out];rfl
  ·rw [hfin.out]
   have h6:=seg_close Hl.out Hb.out _ (Sat.pk hS)
   exact aS.shut2 (lv:= .slice (some ⟨bk,0,none⟩) (n+1) cap) (Sat.sb h6)
 ·have heb:(ee==0)=false:=beq_false_of_ne he
  have hfin:=uQ (Hg.out.trans (if_neg he))
  clear he
  go_wp2_with ((with_reducible refine bU ⟨?_⟩);refine eX aQ ah aj pQ eP bH au ah ?_;intro wS hS)
  refine ⟨rfl,_,kC rfl aQ ah aY Tryz.underlying107 rfl au,_,rfl,?_,?_⟩
  ·rw [hfin.out];rfl
  ·rw [hfin.out]
   have h6:=KT Hb.out (Sat.pk hS)
   exact aS.shut2 (lv:= .slice (some ⟨bk,0,none⟩) (n+1) cap) (Sat.sb h6)
end
end Go.Proofs.YtlimfgdbfadohaaGreatDoor
namespace Go.Seg
open Go.aB
theorem Log.Uz {L:Log} (M:aB) (h:L.on=false):L.shut M=((L,M),0):=by
 unfold Log.shut
 split
 ·rfl
 ·rw [if_neg (by rw [h];decide)]
theorem Log.Ok.last {L:Log} (h:L.Ok) (hon:L.on=true):∃ s,L.l.getLast?=some s:=by
 cases hl:L.l.getLast? with
 |none=>exact absurd (List.getLast?_eq_none_iff.1 hl) (h.on hon)
 |some s=>exact ⟨s,rfl⟩
theorem Log.UA {L:Log} (M:aB){s:Int×Int} (hl:L.l.getLast?=some s) (h:L.on=true) :
  L.shut M=if (M.sync (name s.1)).2=0 then (({ L with on:=false },(M.sync (name s.1)).1),0) else ((L,(M.sync (name s.1)).1),(M.sync (name s.1)).2):=by
 unfold Log.shut
 rw [hl]
 simp only [h,if_true]
end Go.Seg
namespace Go.Proofs.YtlimfgdbfadohaaGreatDoor
open Go Go.Sl Go.aB Go.MapKept Go.RowKit
section
variable {w0 w:World}{F R:List aC}{v bv dv x lv:Value}{q p m K:Nat}{L:Seg.Log}{M:aB}{s:Int×Int}
set_option maxRecDepth 20000 in
theorem afg (hL:L.Ok) (hM:M.Ok K) (h:Sat w0 w (aS p m L::aT m M::F)) :
  Calls Tryz.prog 178 #[ptr p] w (aI fun v w'=>v=errno (L.shut M).2∧Sat w0 w' (aS p m (L.shut M).1.1::aT m (L.shut M).1.2::F)):=by
 cases hon:L.on
 ·obtain ⟨lv,hR⟩:=aS.open h
  refine (afe hon hR).mono ?_
  rintro e w1 ⟨v,rfl,rfl,rfl⟩
  rw [Seg.Log.Uz M hon]
  exact ⟨_,rfl,rfl,h⟩
 ·obtain ⟨s,hl⟩:=hL.last hon
  obtain ⟨lv,hR⟩:=aS.open h
  clear h
  have hlen:=hL.len
  obtain ⟨bk,n,cap,cs,rfl,hb,c0,c1,hS⟩:=KR hl hR
  clear hR c1
  have hn:=hb.len
  have Hg:=uQ (Seg.Log.UA M hl hon)
  have Hb:=uQ hb;have Hl:=uQ hl;have yT:=uQ c0
  have hn0:(n:Int)<(n:Int)+1:=oQ
  have hwn:IntKind.i64.wrap (n:Int)=(n:Int):=by rw [IntKind.wrap_i64];omega
  have e3:w.cell? ⟨p,3,none⟩=some (.bool true):=hS.cellP aY 3 (by rw [← hon];rfl)
  clear hn hb hl c0 hlen hon
  go_enter Tryz.func178,Tryz.ntmps178
  go_wp2_with fail
  refine dh [18,19] (fun w'=>w'.cell? ⟨p,0,none⟩=some (ptr m)∧w'.cell? ⟨p,2,none⟩=some (.slice (some ⟨bk,0,none⟩) (n+1) cap)∧w'.cell? ⟨bk,n * 2,none⟩=some (.int .i64 s.1)) au ?_
  have hG:w.drew.cell? ⟨p,0,none⟩=some (ptr m)∧w.drew.cell? ⟨p,2,none⟩=some (.slice (some ⟨bk,0,none⟩) (n+1) cap)∧w.drew.cell? ⟨bk,n * 2,none⟩=some (.int .i64 s.1):=⟨hS.drew.cellP aY 0 rfl,hS.drew.cellP aY 2 rfl,hS.drew.cellP aY _ yT.out⟩
  refine rP 0 ?_ (y:=aG)
  refine rP 1 ?_ (y:=dL)
  refine rP 2 ?_ (y:=cO)
  refine rt 3 (h:=?_)
  refine rP 4 ?_ (y:=aG)
  refine rP 5 ?_ (y:=dL)
  refine rP 6 ?_ (y:=cO)
  refine rt 7 (h:=?_)
  refine rP 8 ?_ (y:=aG)
  refine rP 9 ?_ (y:=dL)
  refine rP 10 ?_ (y:=cO)
  refine rt 11 (h:=?_)
  refine rP 12 ?_ (y:=(nG aj bT))
  refine rP 13 ?_ (y:=dB)
  refine rP 14 ?_ (y:=dZ)
  refine rP 15 ?_ (y:=cO)
  refine rt 16 (h:=?_)
  clear hG e3
  refine bG 17 aj au (fun K hK=>?_)
  (refine vT au aj ?_)
  refine (Aa s.1 hS.drew).mono ?_
  rintro e w3 ⟨v,rfl,rfl,hS3⟩
  refine hK _ _ (.inr (.inl ⟨hS3.cellP aY 0 rfl,hS3.cellP aY 2 rfl,hS3.cellP aY _ yT.out⟩)) ?_
  clear hK K
  refine bG 18 aj au (fun K hK=>?_)
  (refine eU au aj aj ?_)
  refine (afT hM (Sat.pk aQ) _).mono ?_
  rintro e w4 ⟨v,rfl,rfl,hS4⟩
  refine hK _ _ (.inl rfl) ?_
  clear hK K
  refine rP 19 ?_ (y:=dN)
  refine cu au ?_
  clear hS3 hS
  generalize M.sync (Seg.name s.1)=r at *
  obtain ⟨M2,ee⟩:=r
  by_cases he:ee=0
  ·subst he
   have hfin:=uQ (Hg.out.trans (if_pos rfl))
   go_wp2_with ((with_reducible refine bU ⟨?_⟩);refine eX aQ ah aj pQ eP bH au ah ?_;intro wS hS)
   go_ret
   refine ⟨errno 0,rfl,by rw [hfin.out],?_⟩
   rw [hfin.out]
   have h6:=KT Hb.out (Sat.pk hS)
   exact aS.shut2 (lv:= .slice (some ⟨bk,0,none⟩) (n+1) cap) (Sat.sb h6)
  ·have heb:(ee==0)=false:=beq_false_of_ne he
   have hfin:=uQ (Hg.out.trans (if_neg he))
   clear he
   go_wp2_with ((with_reducible refine bU ⟨?_⟩);refine eX aQ ah aj pQ eP bH au ah ?_;intro wS hS)
   go_ret
   refine ⟨errno ee,rfl,by rw [hfin.out],?_⟩
   rw [hfin.out]
   have h6:=KT Hb.out (Sat.pk hS4)
   exact aS.shut2 (lv:= .slice (some ⟨bk,0,none⟩) (n+1) cap) (Sat.sb h6)
end
end Go.Proofs.YtlimfgdbfadohaaGreatDoor
namespace Go.Seg
open Go.aB
theorem Log.afi {L:Log}{M:aB}{K:Nat} (h:M.Ok K):(L.shut M).1.2.Ok (K+1):=by
 unfold Log.shut
 split;· exact h.mono (Nat.le_succ K)
 split
 ·split <;> exact h.sync _
 ·exact h.mono (Nat.le_succ K)
theorem Log.Yi (L:Log) (M:aB) (b:Bs):L.begin M b=if (L.shut M).2=0 then (L.shut M).1.1.jY (L.shut M).1.2 b else ((L.shut M).1,bF.zero,(L.shut M).2):=rfl
theorem abY (n:Int):(name n).size≤9223372036854775807:=by
 unfold name
 split
 ·decide
 ·show (lead++iI n.toNat 8).toArray.size≤_
  rw [List.size_toArray,List.length_append,zq];decide
end Go.Seg
namespace Go.Proofs.YtlimfgdbfadohaaGreatDoor
open Go Go.Sl Go.aB Go.MapKept Go.RowKit
section
variable {w0 w:World}{F R:List aC}{v bv dv x lv:Value}{q p m K:Nat}{L:Seg.Log}{M:aB}{s:Int×Int}
theorem abx (hL:L.Ok) (h:Sat w0 w (aS p m L::F)) :
  Calls Tryz.prog 179 #[ptr p] w (aI fun v w'=>v = .int .i64 L.next∧Sat w0 w' (aS p m L::F)):=by
 obtain ⟨lv,hR⟩:=aS.open h
 refine (afq hL.len hL.nums hR).mono ?_
 rintro e w1 ⟨v,rfl,rfl,hS⟩
 exact ⟨_,rfl,rfl,aS.shut2 hS⟩
theorem ae5 (l:List (Int×Int)) (n z:Int):dV l++[.int .i64 n,.int .i64 z]=dV (l++[(n,z)]):=by rw [yK];rfl
set_option maxRecDepth 20000 in
theorem NP (hL:L.Ok) (hM:M.Ok K) (oW:K+4≤1099511627776) (b:Bs) (hb0:b≠[]) (hbl:b.length≤16777216) (hr:Ro w0 F (bK 1 bv (ay b)))
  (h:Sat w0 w (aS p m L::aT m M::F)) :
  Calls Tryz.prog 140 #[ptr p,bv] w (aI fun v w'=>v = .tuple #[E5 (L.begin M b).2.1,errno (L.begin M b).2.2] ∧
   Sat w0 w' (aS p m (L.begin M b).1.1::aT m (L.begin M b).1.2::F)):=by
 obtain ⟨ba,bn,bc,rfl,hbn⟩:=CW hr (A:=emp) (Sat.emp.2 (h.sel 2 [] rfl rfl))
 subst hbn
 obtain ⟨i,hi,hz0,hz1,hz2⟩:=uF
 have Hg:=uQ (Seg.Log.Yi L M b)
 have HM:=uQ (Seg.Log.afi (L:=L) hM)
 have HL:=uQ (hL.shut M)
 have Hr:=uQ hr;have Hb0:=uQ hb0;have lK:=uQ hbl
 clear hr hb0 hbl
 go_enter Tryz.func140,Tryz.ntmps140
 go_wp2_with (refine dS LQ aQ rfl ?_;intro q w1 hS1)
 refine (afg hL hM (Sat.sb aQ)).mono ?_
 rintro e w2 ⟨v,rfl,rfl,hS2⟩
 clear hS1 h hL hM
 generalize L.shut M=S at *
 obtain ⟨⟨L1,M1⟩,e1⟩:=S
 by_cases he:e1=0
 rotate_left
 ·have heb:(e1==0)=false:=beq_false_of_ne he
  have hfin:=uQ (Hg.out.trans (if_neg he))
  clear he
  go_wp2_with ((with_reducible refine bU ⟨?_⟩);refine eX aQ ah aj pQ eP bH au ah ?_;intro wS hS)
  refine ⟨rfl,_,kC rfl aQ ah aY Tryz.underlying107 rfl au,_,rfl,?_,?_⟩
  ·rw [hfin.out];rfl
  ·rw [hfin.out];exact Sat.sb hS
 subst he
 have H1:=uQ (Hg.out.trans (if_pos rfl))
 clear Hg
 go_wp2_with fail
 refine (abx HL.out (Sat.pk aQ)).mono ?_
 rintro e w3 ⟨v,rfl,rfl,hS3⟩
 clear hS2
 have hs1:=uQ HL.out.next
 have hfr:=uQ HL.out.fresh
 have hln:=uQ HL.out.len
 unfold Seg.Log.jY at H1
 have WS:=uQ (Seg.abY L1.next)
 by_cases hn:1048576≤L1.next
 ·have hfin:=uQ (H1.out.trans (if_pos hn))
  generalize L1.next=n at *
  go_wp2_with ((with_reducible refine bU ⟨?_⟩);refine eX aQ ah aj pQ eP bH au ah ?_;intro wS hS)
  refine ⟨rfl,_,kC rfl aQ ah aY Tryz.underlying107 rfl au,_,rfl,?_,?_⟩
  ·rw [hfin.out];rfl
  ·rw [hfin.out];exact Sat.sb hS
 have H2:=uQ (H1.out.trans (if_neg hn))
 clear H1
 have Hn:=uQ hn
 have hnd:¬ 1048576≤L1.next:=hn
 clear hn
 have hnm:=Aa L1.next hS3
 generalize hnn:L1.next=n at *
 have Az:=uQ hnn
 clear hnn
 go_wp2_with fail
 refine hnm.mono ?_
 rintro e w4 ⟨v,rfl,rfl,hS4⟩
 clear hnm hS3 hnd
 generalize Seg.name n=nm at *
 obtain ⟨lv,hR⟩:=aS.qH (Sat.pk aQ)
 have e0:w4.cell? ⟨p,0,none⟩=some (ptr m):=hR.cellP aY 0 rfl
 go_wp2_with fail
 refine (YG HM.out oQ (Sat.pk aQ) nm WS.out).mono ?_
 rintro e w5 ⟨v,rfl,rfl,hS5⟩
 have L9:=uQ (HM.out.create nm)
 clear hS4 hR e0
 generalize M1.create nm=C at *
 obtain ⟨M2,e2⟩:=C
 by_cases he:e2=0
 rotate_left
 ·have heb:(e2==0)=false:=beq_false_of_ne he
  have hfin:=uQ (H2.out.trans (if_pos he))
  clear he
  go_wp2_with ((with_reducible refine bU ⟨?_⟩);refine eX aQ ah aj pQ eP bH au ah ?_;intro wS hS)
  refine ⟨rfl,_,kC rfl aQ ah aY Tryz.underlying107 rfl au,_,rfl,?_,?_⟩
  ·rw [hfin.out];rfl
  ·rw [hfin.out];exact aS.shut2 (lv:=lv) (Sat.sb hS)
 subst he
 have H3:=uQ (H2.out.trans (if_neg (fun h=>h rfl)))
 clear H2
 go_wp2_with fail
 refine dh [9,10] (fun w'=>w'.cell? ⟨p,0,none⟩=some (ptr m)) au ?_
 have hG:w5.drew.cell? ⟨p,0,none⟩=some (ptr m):=hS5.drew.cellP aY 0 rfl
 refine rP 0 ?_ (y:=aG)
 refine rP 1 ?_ (y:=dL)
 refine rP 2 ?_ (y:=cO)
 refine rt 3 (h:=?_)
 refine rP 4 ?_ (y:=aG)
 refine rP 7 ?_ (y:=aG)
 refine bG 5 aj au (fun K hK=>?_)
 go_simp
 have hB1:=hS5.drew.alloc (.cells #[.int .u8 72,.int .u8 79,.int .u8 65,.int .u8 82,.int .u8 68,.int .u8 83,.int .u8 69,.int .u8 71] 5)
 refine hK _ _ (.inr (.inl (hB1.cellP aY 0 rfl))) ?_
 clear hK K hG hB1
 refine bG 6 aj au (fun K hK=>?_)
 have hcv:(convert 27 27 (.slice (some ⟨w5.heap.size,0,none⟩) 8 8)).run Tryz.prog ((w5.alloc (.cells #[.int .u8 72,.int .u8 79,.int .u8 65,.int .u8 82,.int .u8 68,.int .u8 83,.int .u8 69,.int .u8 71] 5)).drew) = .ok (.slice (some ⟨w5.heap.size,0,none⟩) 8 8) ((w5.alloc (.cells #[.int .u8 72,.int .u8 79,.int .u8 65,.int .u8 82,.int .u8 68,.int .u8 83,.int .u8 69,.int .u8 71] 5 (8,9))).drew):=
  Lib.run_convert_bytes_const (P:=Tryz.prog) w5.drew 27 5 #[.int .u8 72,.int .u8 79,.int .u8 65,.int .u8 82,.int .u8 68,.int .u8 83,.int .u8 69,.int .u8 71] 8 8 Tryz.underlying27 Tryz.underlying5
 have hB:=(hS5.alloc (.cells #[.int .u8 72,.int .u8 79,.int .u8 65,.int .u8 82,.int .u8 68,.int .u8 83,.int .u8 69,.int .u8 71] 5 (8,9))).drew
 go_simp
 refine hK _ _ (.inr (.inl (hB.cellP aY 0 rfl))) ?_
 clear hK K
 have hrd:=Hr.out _ (hB.sb)
 have hold:bK 1 (.slice (some ⟨w5.heap.size,0,none⟩) 8 8) (ay Seg.mag) ((w5.alloc (.cells #[.int .u8 72,.int .u8 79,.int .u8 65,.int .u8 82,.int .u8 68,.int .u8 83,.int .u8 69,.int .u8 71] 5 (8,9))).drew):=by
  refine ⟨_,8,8,rfl,rfl,fun j x hj=>⟨_,rfl,?_⟩⟩
  rw [pG]
  have hjl:j<Seg.mag.length:=by
   have:=(List.getElem?_eq_some_iff.1 hj).1
   rw [aU]at this;exact this
  have hx:=(EN (l:=Seg.mag) hB hjl 0).1
  unfold ay at hj
  rw [List.getElem?_map,List.getElem?_eq_getElem hjl]at hj
  cases hj
  exact hx
 have hy0:ay b≠[]:=by
  intro h
  apply Hb0.out
  unfold ay at h
  exact List.map_eq_nil_iff.1 h
 have h63:(ay Seg.mag).length+(ay b).length≤maxLen:=by rw [aU,aU];have:=lK.out;unfold maxLen Seg.mag;simp;omega
 have hby:((ay Seg.mag).length+(ay b).length) * i.bytes≤140737488355328:=by rw [aU,aU,hz2];have:=lK.out;unfold Seg.mag;simp;omega
 refine bG 8 aj au (fun K hK=>?_)
 refine afH (w0:=w0) (xs:=ay Seg.mag) (b:=w5.heap.size) (n:=8) (cap:=8) ah _ _ _ ah _ i _ Tryz.underlying27 hi hz0 hz1 ah rfl (Nat.le_refl _) hold hB.drop ah ah hrd hy0 h63 hby ?_
 intro b4 n4 k4 w6 hS6
 clear hcv hrd hold hy0 h63 hby hB
 have hS6:Sat w0 w6 (aK (.slice (some ⟨b4,0,none⟩) n4 k4) (Seg.mag++b)::aT m M2::pt q (.cells #[.int .i64 0,.int .i64 0,.int .i64 0] 107)::lI p m L1 lv::aF 159 2 lv (dV L1.l)::F):=by
  have e:ay Seg.mag++ay b=ay (Seg.mag++b):=by unfold ay;rw [List.map_append]
  rw [e]at hS6
  exact Sat.sb hS6
 refine hK _ _ (.inr (.inl (hS6.cellP aY 0 rfl))) ?_
 clear hK K hS5
 refine bG 9 aj au (fun K hK=>?_)
 (refine vU au aj aj aj ?_)
 refine (Nr L9.out oQ (Sat.pk aQ) nm (Seg.mag++b) (by first|assumption|exact Ro.op (Ro.aK _ _)|exact Ro.os aQ)).mono ?_
 rintro e w7 ⟨v,rfl,rfl,hS7⟩
 refine hK _ _ (.inl rfl) ?_
 clear hK K
 refine rP 10 ?_ (y:=dN)
 refine cu au ?_
 clear hS6
 have V5:=uQ (L9.out.append nm (Seg.mag++b))
 generalize M2.append nm (Seg.mag++b)=D at *
 obtain ⟨M3,e3⟩:=D
 by_cases he:e3=0
 ·subst he
  have hfin:=uQ (H3.out.trans (if_pos rfl))
  have c2:w7.cell? ⟨p,2,none⟩=some lv:=hS7.cellP aY 2 rfl
  have hwl:IntKind.i64.wrap (8+(b.length:Int))=8+(b.length:Int):=by rw [IntKind.wrap_i64];have:=lK.out;omega
  obtain ⟨ii,hii,hy0,hy1,hy2⟩:=info_parts Q7
  have h7:=hS7.alloc (.cells #[.int .i64 n,.int .i64 (8+(b.length:Int))] 159)
  have hoc:∀ u∈(#[.int .i64 n,.int .i64 (8+(b.length:Int))]:Array Value).toList,u.oneCell'=true:=by
   intro u hu
   simp only [List.mem_cons,List.not_mem_nil,or_false]at hu
   rcases hu with rfl|rfl <;> rfl
  have h63:(dV L1.l).length+2≤maxLen:=by rw [kD];have:=hln.out;unfold maxLen;omega
  have hby:((dV L1.l).length+2) * ii.bytes≤140737488355328:=by rw [kD,hy2];have:=hln.out;omega
  have h8:Sat w0 _ (aF 159 2 lv (dV L1.l)::lI p m L1 lv::pt q (.cells #[.int .i64 0,.int .i64 0,.int .i64 0] 107)::aT m M3::F):=h7.sb
  have hwf:IntKind.i64.wrap (L1.fresh+1)=L1.fresh+1:=by rw [IntKind.wrap_i64];have:=hfr.out;have:=hln.out;omega
  go_wp2_with (first
   |(at_builtin;refine yN (w0:=w0) ah _ _ _ ah _ ii _ Tryz.underlying149 hii hy0 hy1 ah oQ ah ah hoc h8 (yE _ _ _ 2 1 1 ah) h63 hby ?_;intro v2 w8 fG hne;obtain ⟨ab,an,ac,rfl⟩:=hne (by simp);clear h8 h7 hS7 c2 hoc h63 hby hne)
   |((with_reducible refine bI ⟨?_⟩);refine gK aQ ah aY bH aj au ?_)|((with_reducible refine bU ⟨?_⟩);refine eX aQ ah aj pQ eP bH au ah ?_;intro wS hS))
  refine ⟨rfl,_,kC rfl aQ ah aY Tryz.underlying107 rfl au,_,rfl,?_,?_⟩
  ·rw [hfin.out];rfl
  ·rw [hfin.out]
   have e:dV L1.l++[.int .i64 n,.int .i64 (8+(b.length:Int))]=dV (L1.l++[(n,8+(b.length:Int))]):=ae5 _ _ _
   rw [e]at hS
   exact aS.shut2 (lv:= .slice (some ⟨ab,0,none⟩) an ac) (Sat.sb hS)
 have H4:=uQ (H3.out.trans (if_neg he))
 have heb:(e3==0)=false:=beq_false_of_ne he
 clear he H3
 by_cases he:e3=11
 ·subst he
  have H5:=uQ (H4.out.trans (if_pos rfl))
  have e0:w7.cell? ⟨p,0,none⟩=some (ptr m):=hS7.cellP aY 0 rfl
  go_wp2_with fail
  refine (TG V5.out oQ (Sat.pk aQ) nm).mono ?_
  rintro e w8 ⟨v,rfl,rfl,fG⟩
  clear hS7 e0
  generalize M3.remove nm=E at *
  obtain ⟨M4,e4⟩:=E
  by_cases he:e4=0
  ·subst he
   go_wp2_with ((with_reducible refine bU ⟨?_⟩);refine eX aQ ah aj pQ eP bH au ah ?_;intro wS hS)
   refine ⟨rfl,_,kC rfl aQ ah aY Tryz.underlying107 rfl au,_,rfl,?_,?_⟩
   ·rw [H5.out];rfl
   ·rw [H5.out];exact aS.shut2 (lv:=lv) (Sat.sb hS)
  ·have heb:(e4==0)=false:=beq_false_of_ne he
   have H6:=uQ (H5.out.trans (by rw [if_neg he]))
   clear he
   go_wp2_with ((with_reducible refine bU ⟨?_⟩);refine eX aQ ah aj pQ eP bH au ah ?_;intro wS hS)
   refine ⟨rfl,_,kC rfl aQ ah aY Tryz.underlying107 rfl au,_,rfl,?_,?_⟩
   ·rw [H6.out];rfl
   ·rw [H6.out];exact aS.shut2 (lv:=lv) (Sat.sb hS)
 ·have hfin:=uQ (H4.out.trans (if_neg he))
  have ahO:(e3==11)=false:=beq_false_of_ne he
  clear he H4
  go_wp2_with ((with_reducible refine bU ⟨?_⟩);refine eX aQ ah aj pQ eP bH au ah ?_;intro wS hS)
  refine ⟨rfl,_,kC rfl aQ ah aY Tryz.underlying107 rfl au,_,rfl,?_,?_⟩
  ·rw [hfin.out];rfl
  ·rw [hfin.out];exact aS.shut2 (lv:=lv) (Sat.sb hS)
end
end Go.Proofs.YtlimfgdbfadohaaGreatDoor
namespace Go.Seg
open Go.aB
theorem Y9 (x:ak.aX) (h:(ak.encode x).2=0):(ak.encode x).1≠[]:=by
 unfold ak.encode at *
 split at h
 ·rename_i hc;exact absurd h hc
 ·rename_i hc
  rw [if_neg hc]
  intro e
  have:=congrArg List.length e
  simp [ak.gW]at this
theorem Log.Nq {L:Log}{M:aB}{x:ak.aX} (h:(ak.encode x).2≠0):L.append M x=((L,M),bF.zero,(ak.encode x).2):=by
 unfold Log.append;rw [if_pos h]
theorem Log.DU {L:Log}{M:aB}{x:ak.aX} (h:(ak.encode x).2=0) (hf:L.fits (ak.encode x).1.length=true):L.append M x=L.grow M (ak.encode x).1:=by
 unfold Log.append;rw [if_neg (fun hh=>hh h),if_pos hf]
theorem Log.DT {L:Log}{M:aB}{x:ak.aX} (h:(ak.encode x).2=0) (hf:L.fits (ak.encode x).1.length=false):L.append M x=L.begin M (ak.encode x).1:=by
 unfold Log.append;rw [if_neg (fun hh=>hh h),if_neg (by rw [hf];decide)]
theorem Log.Zy {L:Log} (n:Nat) (h:L.on=false):L.fits n=false:=by unfold Log.fits;rw [h];rfl
theorem Log.Zz {L:Log}{s:Int×Int} (n:Nat) (h:L.on=true) (hl:L.l.getLast?=some s):L.fits n=decide (s.2+n≤L.limit):=by
 unfold Log.fits;rw [h,hl];rfl
end Go.Seg
namespace Go.Proofs.YtlimfgdbfadohaaGreatDoor
open Go Go.Sl Go.aB Go.MapKept Go.RowKit
section
variable {w0 w:World}{F R:List aC}{v bv dv x lv:Value}{q p m K:Nat}{L:Seg.Log}{M:aB}{s:Int×Int}
theorem ae0 (hl:L.l.getLast?=some s) (h:Sat w0 w (lI p m L lv::aF 159 2 lv (dV L.l)::F)) :
  ∃ bk n cap cs,lv = .slice (some ⟨bk,0,none⟩) (n+1) cap∧DL L.l n cap cs∧cs[n * 2]?=some (.int .i64 s.1)∧cs[n * 2+1]?=some (.int .i64 s.2) ∧
   Sat w0 w (lI p m L (.slice (some ⟨bk,0,none⟩) (n+1) cap)::pt bk (.cells cs 159 (0,0))::F):=KR hl h
set_option maxRecDepth 20000 in
theorem Rk (e:ak.aX) (hk:e.key.length=32) (da:Option Addr) (dc:Nat) (hd:Ro w0 F (bK 1 (.slice da e.data.length dc) (ay e.data))) (hH:Ro w0 F Half) (BI:e.data.length≤1099511627)
  (hL:L.Ok) (hM:M.Ok K) (oW:K+4≤1099511627776) (h:Sat w0 w (aS p m L::aT m M::F)) :
  Calls Tryz.prog 93 #[ptr p,.agg (dI e (.slice da e.data.length dc))] w (aI fun v w'=>v = .tuple #[E5 (L.append M e).2.1,errno (L.append M e).2.2] ∧
   Sat w0 w' (aS p m (L.append M e).1.1::aT m (L.append M e).1.2::F)):=by
 obtain ⟨lv,hR⟩:=aS.qH h
 clear h
 have hsz:=kV e (.slice da e.data.length dc) hk
 have dw:=uQ hsz
 have Hd:=uQ hd;have HH:=uQ hH;have Hk:=uQ hk;have V4:=uQ BI
 have HL:=uQ hL;have HM:=uQ hM
 have jX:=uQ hL.len
 have Wx:=uQ (show (ak.encode e).1.length≤16425 from Seg.encode_len e hk)
 have qW:=uQ (Seg.Y9 e)
 have A0:=uQ (Seg.Log.Nq (L:=L) (M:=M) (x:=e))
 have A1:=uQ (Seg.Log.DU (L:=L) (M:=M) (x:=e))
 have A2:=uQ (Seg.Log.DT (L:=L) (M:=M) (x:=e))
 clear hsz hd hH hk BI hL hM
 go_enter Tryz.func93,Tryz.ntmps93
 go_wp2_with (first
  |((with_reducible refine fH ⟨?_⟩);refine fO aQ ah (cs:=dI e (.slice da e.data.length dc)) rfl ?_;intro q3 w1 hS1)
  |(refine dS LQ aQ rfl ?_;intro q w2 hS2))
 refine (sN (Sat.pk aQ)).mono ?_
 rintro ee w3 ⟨v,rfl,rfl,rfl⟩
 clear hS1 hR
 go_wp2_with ((with_reducible refine bI ⟨?_⟩);refine fB aQ ah aY Tryz.underlying137 ah (by rw [dw.out];kernel_rfl) ?_)
 refine (Y8 e Hk.out da dc (by first|assumption|exact Ro.op (Ro.aK _ _)|exact Ro.os aQ) (by first|assumption|exact Ro.op (Ro.aK _ _)|exact Ro.os aQ) hS2 V4.out).mono ?_
 rintro ee w3 ⟨v,rfl,bv,rfl,⟨ba,bn,bc,rfl⟩,hS3⟩
 clear hS2
 generalize hE:ak.encode e=E at *
 have HE:=uQ hE
 clear hE
 obtain ⟨b,e1⟩:=E
 have Dx:Hid (b.length≤16425):=Wx
 by_cases he:e1=0
 rotate_left
 ·have heb:(e1==0)=false:=beq_false_of_ne he
  have hfin:=uQ (A0.out he)
  clear he
  go_wp2_with ((with_reducible refine bU ⟨?_⟩);refine eX aQ ah aj pQ eP bH au ah ?_;intro wS hS)
  refine ⟨rfl,_,kC rfl aQ ah aY Tryz.underlying107 rfl au,_,rfl,?_,?_⟩
  ·rw [hfin.out];rfl
  ·rw [hfin.out];exact aS.shut2 (lv:=lv) (Sat.sb hS)
 subst he
 have hbn:bn=b.length:=by
  obtain ⟨a',n',c',he,hl,_⟩:=Sat.rd hS3
  cases he
  rw [aU,Nat.mul_one]at hl
  exact hl.symm
 subst hbn
 have Hb0:=uQ (qW.out rfl)
 clear A0 qW
 cases hon:L.on
 ·have hf:=Seg.Log.Zy b.length hon
  have hfin:=uQ (A2.out rfl hf)
  have c3:w3.cell? ⟨p,3,none⟩=some (.bool false):=hS3.cellP aY 3 (by rw [← hon];rfl)
  clear hf A1 A2 hon
  go_wp2_with fail
  have hS4:=hS3.drew
  have c3':w3.drew.cell? ⟨p,3,none⟩=some (.bool false):=c3
  go_region
  clear c3 c3'
  have hS5:Sat w0 _ (aS p m L::aT m M::_):=aS.shut2 (lv:=lv) (hS4.sb)
  go_wp2_with fail
  refine (NP HL.out HM.out oW b Hb0.out (by have:=Dx.out;omega) (by first|assumption|exact Ro.op (Ro.aK _ _)|exact Ro.os aQ) hS5).mono ?_
  rintro ee w5 ⟨v,rfl,rfl,hS6⟩
  clear hS4 hS5 hS3
  go_wp2_with ((with_reducible refine bU ⟨?_⟩);refine eX aQ ah aj pQ eP bH au ah ?_;intro wS hS)
  refine ⟨rfl,_,kC rfl aQ ah aY Tryz.underlying107 rfl au,_,rfl,?_,?_⟩
  ·rw [hfin.out];rfl
  ·rw [hfin.out];exact Sat.sb hS
 ·obtain ⟨s,hl⟩:=HL.out.last hon
  obtain ⟨bk,n,cap,cs,rfl,hb,c0,c1,hB⟩:=ae0 hl (hS3.sb)
  have hf:=Seg.Log.Zz b.length hon hl
  have hs:=HL.out.sizes s (List.mem_of_getLast? hl)
  have hlim:=HL.out.limit
  have hn:=hb.len
  have hln:=jX.out
  have hn0:(n:Int)<(n:Int)+1:=oQ
  have hwn:IntKind.i64.wrap (n:Int)=(n:Int):=by rw [IntKind.wrap_i64];omega
  have hwz:IntKind.i64.wrap (s.2+(b.length:Int))=s.2+(b.length:Int):=by rw [IntKind.wrap_i64];have:=Dx.out;omega
  have g1:w3.drew.cell? ⟨p,1,none⟩=some (.int .i64 L.limit):=hB.drew.cellP aY 1 rfl
  have g2:w3.drew.cell? ⟨p,2,none⟩=some (.slice (some ⟨bk,0,none⟩) (n+1) cap):=hB.drew.cellP aY 2 rfl
  have g3:w3.drew.cell? ⟨p,3,none⟩=some (.bool true):=hB.drew.cellP aY 3 (by rw [← hon];rfl)
  have g4:w3.drew.cell? ⟨bk,n * 2+1,none⟩=some (.int .i64 s.2):=hB.drew.cellP aY _ c1
  have Hl:=uQ hl;have Hb:=uQ hb;have Hs:=uQ hs
  clear hs hlim hn hln hl hb c0 c1 hon hB
  by_cases hfit:s.2+(b.length:Int)≤L.limit
  ·have hfd:decide (s.2+(b.length:Int)≤L.limit)=true:=decide_eq_true hfit
   have hfin:=uQ (A1.out rfl (hf.trans hfd))
   clear hf hfd A1 A2
   go_wp2_with fail
   have hS4:=hS3.drew
   go_region
   clear g1 g2 g3 g4
   have hS5:Sat w0 _ (aS p m L::aT m M::_):=aS.shut2 (lv:= .slice (some ⟨bk,0,none⟩) (n+1) cap) (hS4.sb)
   go_wp2_with fail
   refine (ZY Hl.out Hs.out HM.out oQ jX.out b (by have:=Dx.out;omega) (by first|assumption|exact Ro.op (Ro.aK _ _)|exact Ro.os aQ) hS5).mono ?_
   rintro ee w5 ⟨v,rfl,rfl,hS6⟩
   clear hS4 hS5 hS3
   go_wp2_with ((with_reducible refine bU ⟨?_⟩);refine eX aQ ah aj pQ eP bH au ah ?_;intro wS hS)
   refine ⟨rfl,_,kC rfl aQ ah aY Tryz.underlying107 rfl au,_,rfl,?_,?_⟩
   ·rw [hfin.out];rfl
   ·rw [hfin.out];exact Sat.sb hS
  ·have hfd:decide (s.2+(b.length:Int)≤L.limit)=false:=decide_eq_false hfit
   have hfin:=uQ (A2.out rfl (hf.trans hfd))
   clear hf hfd A1 A2
   go_wp2_with fail
   have hS4:=hS3.drew
   go_region
   clear g1 g2 g3 g4
   have hS5:Sat w0 _ (aS p m L::aT m M::_):=aS.shut2 (lv:= .slice (some ⟨bk,0,none⟩) (n+1) cap) (hS4.sb)
   go_wp2_with fail
   refine (NP HL.out HM.out oW b Hb0.out (by have:=Dx.out;omega) (by first|assumption|exact Ro.op (Ro.aK _ _)|exact Ro.os aQ) hS5).mono ?_
   rintro ee w5 ⟨v,rfl,rfl,hS6⟩
   clear hS4 hS5 hS3
   go_wp2_with ((with_reducible refine bU ⟨?_⟩);refine eX aQ ah aj pQ eP bH au ah ?_;intro wS hS)
   refine ⟨rfl,_,kC rfl aQ ah aY Tryz.underlying107 rfl au,_,rfl,?_,?_⟩
   ·rw [hfin.out];rfl
   ·rw [hfin.out];exact Sat.sb hS
end
end Go.Proofs.YtlimfgdbfadohaaGreatDoor
namespace Go.Seg
def idx (l:List (Int×Int)) (n:Int):Int:=match l.findIdx? (fun s=>s.1==n) with
 |some i=>i
 |none=> -1
theorem Zu (L:Log) (n:Int):L.find n=idx L.l n:=rfl
theorem aaI {l:List (Int×Int)}{n:Int}{i:Nat}{s:Int×Int} (hs:l[i]?=some s) (hn:s.1=n) (hp:∀ (j:Nat) (t:Int×Int),j<i→l[j]?=some t→t.1≠n):idx l n=i:=by
 unfold idx
 have:l.findIdx? (fun s=>s.1==n)=some i:=by
  rw [List.findIdx?_eq_some_iff_getElem]
  obtain ⟨h1,h2⟩:=List.getElem?_eq_some_iff.1 hs
  refine ⟨h1,by rw [h2];simpa using hn,fun j hj=>?_⟩
  have:=hp j _ hj (List.getElem?_eq_getElem oQ)
  simpa using this
 rw [this]
theorem aaJ {l:List (Int×Int)}{n:Int} (hp:∀ (j:Nat) (t:Int×Int),j<l.length→l[j]?=some t→t.1≠n):idx l n = -1:=by
 unfold idx
 have:l.findIdx? (fun s=>s.1==n)=none:=by
  rw [List.findIdx?_eq_none_iff]
  intro t ht
  obtain ⟨j,hj,rfl⟩:=List.getElem_of_mem ht
  have:=hp j _ hj (List.getElem?_eq_getElem hj)
  simpa using this
 rw [this]
end Go.Seg
namespace Go.Proofs.YtlimfgdbfadohaaGreatDoor
open Go Go.Sl Go.aB Go.MapKept Go.RowKit
section
variable {w0 w:World}{F R:List aC}{v bv dv x lv:Value}{q p m K:Nat}{L:Seg.Log}{M:aB}{s:Int×Int}
theorem Zr (s:Int×Int) (n:Int) (h:Sat w0 w F) (hq:Ro w0 F fun w=>w.cell? ⟨q,0,none⟩=some (.int .i64 n)) :
  Calls Tryz.prog 143 #[.agg #[.int .i64 s.1,.int .i64 s.2],ptr q] w (aI fun v w'=>v = .bool (s.1==n)∧Sat w0 w' F):=by
 go_enter Tryz.func143,Tryz.ntmps143
 go_wp2_with (first|(((with_reducible refine fH ⟨?_⟩);refine fO aQ aj aj ?_;intro bB wB hB);have c0:wB.cell? ⟨q,0,none⟩=some (.int .i64 n):=hq _ hB.drop)|((with_reducible refine bI ⟨?_⟩);refine gK aQ ah aY bH aj au ?_))
 go_ret
 exact ⟨_,rfl,rfl,hB.drop⟩
theorem aaK (l:List (Int×Int)) (n:Int) (hln:l.length≤1048576) (h:Sat w0 w (aF 159 2 lv (dV l)::F)) (hq:Ro w0 F fun w=>w.cell? ⟨q,0,none⟩=some (.int .i64 n)) :
  Calls Tryz.prog 142 #[lv,.func (.func 143) #[] #[ptr q]] w (aI fun v w'=>v = .int .i64 (Seg.idx l n)∧Sat w0 w' (aF 159 2 lv (dV l)::F)):=by
 rcases h.jR with ⟨rfl,hx,hF⟩|⟨b,n',cap,cs,rfl,hll,hn',hc,hcm,htk,hp⟩
 ·have hl:l=[]:=by
   cases l with
   |nil=>rfl
   |cons a l=>simp [dV]at hx
  subst hl
  go_enter Tryz.func142,Tryz.ntmps142
  go_wp2_with fail
  go_loopg [8] 0 (fun g iq wr=>iq = .int .i64 0∧wr=w)
  case atStart=>exact ⟨rfl,rfl⟩
  case round=>
   obtain ⟨rfl,rfl⟩:=hrel
   go_wp2
   go_ret
   exact ⟨_,rfl,rfl,h⟩
 ·rw [kD]at hll
  obtain rfl:n'=l.length:=by omega
  have hcl:∀ (i:Nat) (s:Int×Int),l[i]?=some s→cs[i * 2]?=some (.int .i64 s.1)∧cs[i * 2+1]?=some (.int .i64 s.2):=by
   intro i s hs
   obtain ⟨h1,h2⟩:=Fv _ _ _ hs
   rw [Nat.mul_comm i 2]
   exact ⟨pY htk h1,pY htk h2⟩
  have gy:=uQ hcl
  have Dy:=uQ (show ∀ wr,Sat w0 wr (pt b (.cells cs 159 (0,0))::F)→Sat w0 wr (aF 159 2 (.slice (some ⟨b,0,none⟩) l.length cap) (dV l)::F) from fun wr hS=>Sat.jV hS (by rw [kD];omega) hn' hc hcm htk)
  have Hq:=uQ hq
  clear hcl hn' hc hcm htk h hq hll
  go_enter Tryz.func142,Tryz.ntmps142
  go_wp2_with fail
  go_loopg [8] l.length (fun g iq wr=>∃ i:Nat,g=l.length - i∧i≤l.length∧iq = .int .i64 i∧Sat w0 wr (pt b (.cells cs 159 (0,0))::F)∧Hid (∀ (j:Nat) (t:Int×Int),j<i→l[j]?=some t→t.1≠n))
  case atStart=>exact ⟨0,rfl,Nat.zero_le _,rfl,hp,uQ fun j t hj=>absurd hj (Nat.not_lt_zero j)⟩
  case round=>
   obtain ⟨i,rfl,hi,rfl,hS,Hp⟩:=hrel
   clear hp
   by_cases hlt:i<l.length
   ·obtain ⟨s,hs⟩:∃ s,l[i]?=some s:=⟨_,List.getElem?_eq_getElem hlt⟩
    obtain ⟨d0,d1⟩:=gy.out i s hs
    have Hs:=uQ hs;have Gh:=uQ d0;have Hd1:=uQ d1;have dH:=uQ hlt
    have hic:(i:Int)<(l.length:Int):=oQ
    have hwi:=pU (i:=i)
    clear hs d0 d1 hlt
    have hfn:=Zr (q:=q) s n hS (Ro.os Hq.out)
    go_wp2_with ((with_reducible refine bI ⟨?_⟩);refine Vo (b:=b) (o:=i * 2) [.int .i64 s.1,.int .i64 s.2] aQ ah aY (fun j v hj=>by
     rcases j with _|_|j
     ·cases hj;exact Gh.out
     ·cases hj;exact Hd1.out
     ·simp at hj) Tryz.underlying159 rfl au ?_)
    refine hfn.mono ?_
    rintro e w2 ⟨v,rfl,rfl,hS2⟩
    clear hfn hS
    by_cases hsn:s.1=n
    ·have hsb:(s.1==n)=true:=by simpa using hsn
     have bV:=uQ (Seg.aaI Hs.out hsn Hp.out)
     clear hsn
     go_wp2
     go_ret
     exact ⟨.int .i64 i,rfl,by rw [bV.out],Dy.out _ hS2⟩
    ·have hsb:(s.1==n)=false:=by simpa using hsn
     have WZ:=uQ (show ∀ (j:Nat) (t:Int×Int),j<i+1→l[j]?=some t→t.1≠n by
      intro j t hj ht
      by_cases hji:j<i
      ·exact Hp.out j t hji ht
      ·obtain rfl:j=i:=by omega
       rw [Hs.out]at ht;cases ht;exact hsn)
     clear hsn Hp
     go_wp2
     go_roundg (l.length - (i+1))
     case measure=>have:=dH.out;omega
     case rel=>exact ⟨i+1,rfl,Nat.succ_le_of_lt dH.out,by first|rfl|go_num,hS2,WZ⟩
   ·obtain rfl:i=l.length:=by omega
    have hic:¬ (l.length:Int)<(l.length:Int):=oQ
    have bV:=uQ (Seg.aaJ Hp.out)
    clear hi hlt Hp
    go_wp2
    go_ret
    exact ⟨.int .i64 (-1),rfl,by rw [bV.out],Dy.out _ hS⟩
theorem EI (hL:L.Ok) (n:Int) (h:Sat w0 w (aS p m L::F)) :
  Calls Tryz.prog 97 #[ptr p,.int .i64 n] w (aI fun v w'=>v = .int .i64 (L.find n)∧Sat w0 w' (aS p m L::F)):=by
 obtain ⟨lv,hR⟩:=aS.qH h
 clear h
 have jX:=uQ hL.len
 rw [Seg.Zu]
 clear hL
 go_enter Tryz.func97,Tryz.ntmps97
 go_wp2_with ((with_reducible refine fH ⟨?_⟩);refine fO aQ aj aj ?_;intro bB wB hB)
 refine (sN (Sat.pk aQ)).mono ?_
 rintro e w2 ⟨v,rfl,rfl,rfl⟩
 clear hR
 go_wp2_with ((with_reducible refine bI ⟨?_⟩);refine gK aQ ah aY bH aj au ?_)
 refine (aaK (q:=bB) (lv:=lv) L.l n jX.out (Sat.pk aQ) (fun w hw=>hw.cellP aY 0 rfl)).mono ?_
 rintro e w3 ⟨v,rfl,rfl,hS3⟩
 clear hB
 go_wp2
 go_ret
 exact ⟨_,rfl,rfl,aS.shut2 (lv:=lv) (Sat.sb hS3)⟩
theorem abH (hM:M.Ok K) (h:Sat w0 w (aS p m L::aT m M::F)) :
  Calls Tryz.prog 80 #[ptr p] w (aI fun v w'=>v=errno M.jG.2∧Sat w0 w' (aS p m L::aT m M.jG.1::F)):=by
 obtain ⟨lv,hR⟩:=aS.qH h
 clear h
 go_enter Tryz.func80,Tryz.ntmps80
 go_wp2_with fail
 refine (sN (Sat.pk aQ)).mono ?_
 rintro e w2 ⟨v,rfl,rfl,rfl⟩
 go_wp2_with ((with_reducible refine bI ⟨?_⟩);refine gK aQ ah aY bH aj au ?_)
 refine (afR hM (Sat.pk aQ)).mono ?_
 rintro e w3 ⟨v,rfl,rfl,hS3⟩
 go_wp2
 go_ret
 exact ⟨_,rfl,rfl,aS.shut2 (lv:=lv) (Sat.sb hS3)⟩
theorem Ir (n:Int):(L.at n=none∧L.find n = -1)∨∃ i,L.at n=some i∧L.find n=i:=by
 unfold Seg.Log.find
 cases L.at n with
 |none=>exact .inl ⟨rfl,rfl⟩
 |some i=>exact .inr ⟨i,rfl,rfl⟩
set_option maxRecDepth 20000 in
theorem Rq (hL:L.Ok) (hM:M.Ok K) (n:Int) (h:Sat w0 w (aS p m L::aT m M::F)) :
  Calls Tryz.prog 122 #[ptr p,.int .i64 n] w (aI fun v w'=>∃ bv,v = .tuple #[bv,errno (L.bytes M n).2]∧Sat w0 w' (aK bv (L.bytes M n).1::aS p m L::aT m M::F)):=by
 obtain ⟨lv,hR⟩:=aS.qH h
 have hok:=sN hR
 have hf:=EI hL n h
 rcases Ir (L:=L) n with ⟨ha,hb⟩|⟨i,ha,hb⟩
 ·have bV:=uQ (show L.bytes M n=([],9) by unfold Seg.Log.bytes;rw [ha])
  rw [hb]at hf
  clear ha hb hL h hR
  go_enter Tryz.func122,Tryz.ntmps122
  go_wp2_with fail
  refine hok.mono ?_
  rintro e w2 ⟨v,rfl,rfl,rfl⟩
  clear hok
  go_wp2_with fail
  refine hf.mono ?_
  rintro e w2 ⟨v,rfl,rfl,hS2⟩
  clear hf
  go_wp2
  go_ret2
  rw [bV.out]
  exact ⟨_,rfl,.slice none 0 0,rfl,Sat.fM.2 hS2⟩
 ·rw [hb]at hf
  have bV:=uQ (show L.bytes M n=M.all (Seg.name n) by unfold Seg.Log.bytes;rw [ha])
  have hi0:(0:Int)≤(i:Int):=oQ
  have hd:decide ((i:Int)<0)=false:=decide_eq_false oQ
  clear ha hb hL h hR lv
  go_enter Tryz.func122,Tryz.ntmps122
  go_wp2_with fail
  refine hok.mono ?_
  rintro e w2 ⟨v,rfl,rfl,rfl⟩
  clear hok
  go_wp2_with fail
  refine hf.mono ?_
  rintro e w2 ⟨v,rfl,rfl,hS2⟩
  clear hf
  obtain ⟨lv,hR⟩:=aS.qH hS2
  clear hS2
  go_wp2_with fail
  refine dh [6,7,8,9,10] (fun w'=>w'.cell? ⟨p,0,none⟩=some (ptr m)) au ?_
  have hG:w2.drew.cell? ⟨p,0,none⟩=some (ptr m):=hR.drew.cellP aY 0 rfl
  refine rP 0 ?_ (y:=aG)
  refine rP 1 ?_ (y:=dL)
  refine rP 2 ?_ (y:=cO)
  refine rt 3 (h:=?_)
  refine rP 4 ?_ (y:=aG)
  clear hG
  refine bG 5 aj au (fun K hK=>?_)
  (refine vT au aj ?_)
  refine (Aa n hR.drew).mono ?_
  rintro e w3 ⟨v,rfl,rfl,hS3⟩
  refine hK _ _ (.inr (.inl (hS3.cellP aY 0 rfl))) ?_
  clear hK K hR
  refine bG 6 aj au (fun K hK=>?_)
  (refine eU au aj aj ?_)
  refine (XM hM (Sat.pk aQ) _).mono ?_
  rintro e w4 ⟨v,rfl,bv,rfl,hS4⟩
  refine hK _ _ (.inl rfl) ?_
  clear hK K hS3
  refine rP 7 ?_ (y:=(fC aj bT))
  refine rP 8 ?_ (y:=(fC aj bT))
  refine rP 9 ?_ (y:=dN)
  refine rP 10 ?_ (y:=dN)
  refine cu au ?_
  go_wp2
  go_ret2
  rw [bV.out]
  exact ⟨_,rfl,bv,rfl,Sat.sub (aS.shut2 (lv:=lv) (hS4.sb)) iJ⟩
end
end Go.Proofs.YtlimfgdbfadohaaGreatDoor
namespace Go.Seg
def Log.aV (L:Log):List Int:=L.l.map (·.1)
end Go.Seg
namespace Go.Proofs.YtlimfgdbfadohaaGreatDoor
open Go Go.Sl Go.aB Go.MapKept Go.RowKit
theorem VJ:iH Tryz.prog 159=some (.agg #[.int .i64 0,.int .i64 0]):=by kernel_rfl
section
variable {w0 w:World}{F R:List aC}{v bv dv x lv:Value}{q p m K:Nat}{L:Seg.Log}{M:aB}{s:Int×Int}
theorem aaV (l k:List Int):ints (l++k)=ints l++ints k:=by unfold ints;rw [List.map_append]
theorem aaW (l:List Int):(ints l).length=l.length:=by unfold ints;rw [List.length_map]
theorem ae1 (hln:L.l.length≤1048576) (h:Sat w0 w (lI p m L lv::aF 159 2 lv (dV L.l)::F)) :
  (L.l=[]∧lv = .slice none 0 0)∨∃ b cap cs,lv = .slice (some ⟨b,0,none⟩) L.l.length cap∧(∀ (i:Nat) (s:Int×Int),L.l[i]?=some s→cs[i * 2]?=some (.int .i64 s.1)∧cs[i * 2+1]?=some (.int .i64 s.2)) ∧
   Sat w0 w (pt b (.cells cs 159 (0,0))::lI p m L lv::F)∧∀ w1 G,Sat w0 w1 (pt b (.cells cs 159 (0,0))::G)→Sat w0 w1 (aF 159 2 lv (dV L.l)::G):=by
 have h':=h.aP
 rcases h'.jR with ⟨rfl,hx,hF⟩|⟨b,n',cap,cs,rfl,hll,hn',hc,hcm,htk,hp⟩
 ·left
  refine ⟨?_,rfl⟩
  cases hl:L.l with
  |nil=>rfl
  |cons a l=>rw [hl]at hx;simp [dV]at hx
 ·right
  rw [kD]at hll
  obtain rfl:n'=L.l.length:=by omega
  refine ⟨b,cap,cs,rfl,?_,hp,fun w1 G hS=>Sat.jV hS (by rw [kD];omega) hn' hc hcm htk⟩
  intro i s hs
  obtain ⟨h1,h2⟩:=Fv _ _ _ hs
  rw [Nat.mul_comm i 2]
  exact ⟨pY htk h1,pY htk h2⟩
set_option maxRecDepth 20000 in
theorem JC (hL:L.Ok) (h:Sat w0 w (aS p m L::F)) :
  Calls Tryz.prog 109 #[ptr p] w (aI fun v w'=>Sat w0 w' (aF 3 1 v (ints L.aV)::aS p m L::F)):=by
 obtain ⟨lv,hR⟩:=aS.qH h
 clear h
 have hok:=sN hR
 rcases ae1 hL.len hR with ⟨hnil,rfl⟩|⟨b,cap,cs,rfl,hcl,hp,hend⟩
 ·have bV:=uQ (show L.aV=[] by unfold Seg.Log.aV;rw [hnil];rfl)
  clear hnil hL
  go_enter Tryz.func109,Tryz.ntmps109
  go_wp2_with fail
  refine hok.mono ?_
  rintro e w2 ⟨v,rfl,rfl,rfl⟩
  clear hok
  go_wp2_with ((with_reducible refine bI ⟨?_⟩);refine gK aQ ah aY bH aj au ?_)
  go_loopg [14,3] 0 (fun g iq ov wr=>iq = .int .i64 0∧ov = .slice none 0 0∧wr=w)
  case atStart=>exact ⟨rfl,rfl,rfl⟩
  case round=>
   obtain ⟨rfl,rfl,rfl⟩:=hrel
   go_wp2
   go_ret
   rw [bV.out]
   exact ⟨_,rfl,Sat.fM.2 (aS.shut2 hR)⟩
 ·have gy:=uQ hcl
  have Dy:=uQ hend
  have jX:=uQ hL.len
  clear hcl hend hL hR
  go_enter Tryz.func109,Tryz.ntmps109
  go_wp2_with fail
  refine hok.mono ?_
  rintro e w2 ⟨v,rfl,rfl,rfl⟩
  clear hok
  go_wp2_with ((with_reducible refine bI ⟨?_⟩);refine gK aQ ah aY bH aj au ?_)
  go_loopg [14,3] L.l.length (fun g iq ov wr=>∃ i:Nat,g=L.l.length - i∧i≤L.l.length∧iq = .int .i64 i ∧
   Sat w0 wr (aF 3 1 ov (ints ((L.l.take i).map (·.1)))::pt b (.cells cs 159 (0,0))::lI p m L (.slice (some ⟨b,0,none⟩) L.l.length cap)::F))
  case atStart=>exact ⟨0,rfl,Nat.zero_le _,rfl,Sat.fM.2 hp⟩
  case round=>
   obtain ⟨i,rfl,hi,rfl,hS⟩:=hrel
   clear hp
   by_cases hlt:i<L.l.length
   ·obtain ⟨s,hs⟩:∃ s,L.l[i]?=some s:=⟨_,List.getElem?_eq_getElem hlt⟩
    have iM:=uQ (show ints ((L.l.take i).map (·.1))++[.int .i64 s.1]=ints ((L.l.take (i+1)).map (·.1)) by
     rw [List.take_add_one,hs,List.map_append,aaV];rfl)
    have hlen:(ints ((L.l.take i).map (·.1))).length≤2147483648:=by
     rw [aaW,List.length_map,List.length_take];have:=jX.out;omega
    obtain ⟨d0,d1⟩:=gy.out i s hs
    have Gh:=uQ d0;have Hd1:=uQ d1;have dH:=uQ hlt
    have hic:(i:Int)<(L.l.length:Int):=oQ
    have hwi:IntKind.i64.wrap ((i:Int)+1)=(i:Int)+1:=IntWalk.i64_in _ (by have:=jX.out;omega)
    clear hs d0 d1 hlt
    go_wp2_with (first
     |((with_reducible refine bI ⟨?_⟩);refine Vo (b:=b) (o:=i * 2) [.int .i64 s.1,.int .i64 s.2] aQ ah aY (fun j v hj=>by
       rcases j with _|_|j
       ·cases hj;exact Gh.out
       ·cases hj;exact Hd1.out
       ·simp at hj) Tryz.underlying159 rfl au ?_)
     |(refine dS VJ aQ rfl ?_;intro q3 w3 hS3)
     |((with_reducible refine bU ⟨?_⟩);refine eX aQ ah aj pQ eP bH au ah ?_;intro wS hS)|((with_reducible refine bI ⟨?_⟩);refine gK aQ ah aY bH aj au ?_)|((with_reducible refine kU ⟨?_⟩);refine lu (e:=3) (sz:=1) (dX:=8) au aQ aj aj ah bH ?_;intro bN wN hN)|((with_reducible refine jf ⟨?_⟩);refine lq 3 1 8 au aQ ah ah aY aY ah bH ah aQ bH bH aj ?_;intro bA nA cA wA hA))
    go_roundg (L.l.length - (i+1))
    case measure=>have:=dH.out;omega
    case rel=>
     refine ⟨i+1,rfl,Nat.succ_le_of_lt dH.out,by first|rfl|go_num,?_⟩
     rw [iM.out]at hA
     exact Sat.sb hA
   ·obtain rfl:i=L.l.length:=by omega
    have hic:¬ (L.l.length:Int)<(L.l.length:Int):=oQ
    rw [List.take_length]at hS
    clear hi hlt
    go_wp2
    go_ret
    refine ⟨_,rfl,?_⟩
    have h7:=Dy.out _ _ (hS.pk)
    exact Sat.sub (aS.shut2 (lv:= .slice (some ⟨b,0,none⟩) L.l.length cap) (Sat.sb h7)) iJ
end
section
variable {w0 w:World}{F:List aC}{av bv v:Value}
section
variable {L R:List aC}{b o:Nat}{ops:Array Oper}{rest:List Oper}{a:Act}{Q:Exit→Act→World→Prop}{dst:Option Tmp}{t ty T:TypeId}{pos:String}{after:Array Edge}{P:Program}{x:Operand}{cs:Array Value}{g:Nat×Bool}
theorem qw (h:Stop (wpList P ops Q (⟨dst,.load ty x,t,pos,after,some g⟩::rest) a w)):wpList P ops Q (⟨dst,.load ty x,t,pos,after,some g⟩::rest) a w:=h.out
theorem qO (hw:Region.wanted ⟨dst,.load ty x,t,pos,after,some g⟩ (yielded ops a.tmps)=true) (hx:a.eval x = .pointer (some ⟨b,o,none⟩)) (cl:List Value) (d:TypeDesc) (hc:w.rangeAt b o cl)
  (hu:P.underlying ty=some d) (hd:d.isRow=true) (hi:(P.info? ty).map (·.size)=some cl.length)
  (h:wpList P ops Q rest (a.put dst (.agg cl.toArray)) w):wpList P ops Q (⟨dst,.load ty x,t,pos,after,some g⟩::rest) a w:=
 wpList_step fun _ hK=>by
  rw [if_pos hw]
  exact wp_load_mid ty x rfl b o hx cl d hc hu hd hi (hK _ _ h)
end
end
def aW (p:Seg.bF):List Value:=[.int .i64 p.seg,.int .i64 p.at_,.int .i64 p.size]
def bf (a:Rep.dP):List Value:=[.int .i64 a.tag,.int .i64 a.place.seg,.int .i64 a.place.at_,.int .i64 a.place.size,.int .i64 a.first]
abbrev nI:Rep.dP:=⟨0,Seg.bF.zero,0⟩
abbrev nJ:Seg.bF:=Seg.bF.zero
theorem uG (p:Seg.bF):(aW p).length=3:=rfl
theorem rY (a:Rep.dP):(bf a).length=5:=rfl
theorem EW (p:Seg.bF):(aW p).all (·.oneCell')=true:=rfl
theorem xI (a:Rep.dP):(bf a).all (·.oneCell')=true:=rfl
def slotL {V:Type} (enc:V→List Value) (x:Tab.Slot V):List Value:= .int .i64 x.st::(ay x.key++enc x.val)
abbrev dR (p:Nat) (T:TypeId) (sv:Value) (n g:Nat):aC:=pt p (.cells #[sv,.int .i64 n,.int .i64 g] T (0,0))
theorem gB {V:Type} (enc:V→List Value) (x:Tab.Slot V) (hk:x.key.length=32) (m:Nat) (he:(enc x.val).length=m):(slotL enc x).length=33+m:=by
 unfold slotL
 rw [List.length_cons,List.length_append,aU,hk,he];omega
theorem D7 (b:ak.Bs):(ay b).all (·.oneCell')=true:=by
 rw [List.all_eq_true]
 intro v hv
 unfold ay at hv
 obtain ⟨c,_,rfl⟩:=List.mem_map.1 hv
 rfl
theorem kJ {V:Type} (enc:V→List Value) (x:Tab.Slot V) (he:(enc x.val).all (·.oneCell')=true):(slotL enc x).all (·.oneCell')=true:=by
 unfold slotL
 rw [List.all_cons,List.all_append,D7,he];rfl
theorem afo {V:Type} (enc:V→List Value) (x:Tab.Slot V){j:Nat}{v:Value} (h:(ay x.key)[j]?=some v):(slotL enc x)[1+j]?=some v:=by
 unfold slotL
 rw [Nat.add_comm,List.getElem?_cons_succ,List.getElem?_append_left (List.getElem?_eq_some_iff.1 h).1];exact h
theorem FB {V:Type} (enc:V→List Value) (x:Tab.Slot V) (hk:x.key.length=32){j:Nat}{v:Value} (h:(enc x.val)[j]?=some v):(slotL enc x)[33+j]?=some v:=by
 unfold slotL
 rw [show 33+j=32+j+1 by omega,List.getElem?_cons_succ,List.getElem?_append_right (by rw [aU,hk];omega),aU,hk,Nat.add_sub_cancel_left];exact h
theorem yQ:iH Tryz.prog 300=some (.agg (slotL bf ⟨0,ak.zero32,⟨0,Seg.bF.zero,0⟩⟩).toArray):=by kernel_rfl
theorem Ag:iH Tryz.prog 170=some (.agg (slotL aW ⟨0,ak.zero32,Seg.bF.zero⟩).toArray):=by kernel_rfl
section
variable {w0 w:World}{L R:List aC}{b:Nat}{T:TypeId}{V:Type}{enc:V→List Value}{x:Tab.Slot V}{l:List Value}
theorem lV (h:Sat w0 w (pt b (.cells l.toArray T (0,0))::R)):w.rangeAt b 0 l:=fun j v hj=>by
 have:=h.cellP aH j (by rw [List.getElem?_toArray];exact hj)
 rw [Nat.zero_add];exact this
theorem qL (h:Sat w0 w (pt b (.cells (slotL enc x).toArray T (0,0))::R)):w.rangeAt b 1 (ay x.key):=fun j v hj=>
 h.cellP aH (1+j) (by rw [List.getElem?_toArray];exact afo enc x hj)
theorem UD (hk:x.key.length=32) (h:Sat w0 w (pt b (.cells (slotL enc x).toArray T (0,0))::R)):w.rangeAt b 33 (enc x.val):=fun j v hj=>
 h.cellP aH (33+j) (by rw [List.getElem?_toArray];exact FB enc x hk hj)
end
end Go.Proofs.YtlimfgdbfadohaaGreatDoor
namespace Go.Tab
open Go.ak (Bs)
section
variable {V:Type}{x:Slot V}{c:Nat}
theorem P6 (hc:∃ j,c=2^j∧3≤j) (hk:x.key.length=32) (hx:x.st=0):Good (List.replicate c x):=
 ⟨by rw [List.length_replicate];exact hc,(fun y hy=>by rw [List.eq_of_mem_replicate hy,hx];decide),(fun y hy=>by rw [List.eq_of_mem_replicate hy];exact hk),fun i y hy h1=>by
  rw [List.eq_of_mem_replicate (List.mem_of_getElem? hy),hx]at h1;cases h1⟩
theorem OV (hx:x.st=0) (k:Bs) (v:V):¬ Has (List.replicate c x) k v:=by
 rintro ⟨i,y,hy,h1,_⟩
 rw [List.eq_of_mem_replicate (List.mem_of_getElem? hy),hx]at h1;cases h1
theorem OU (hx:x.st=0):jg (List.replicate c x)=0:=by unfold jg;rw [List.countP_replicate,if_neg (by rw [hx];decide)]
theorem OW (hx:x.st=0):used (List.replicate c x)=0:=by unfold used;rw [List.countP_replicate,if_neg (by rw [hx];decide)]
theorem JM (hk:x.key.length=32) (hx:x.st=0):(⟨List.replicate 8 x,0,0⟩:Tb V).Ok:=
 ⟨P6 ⟨3,rfl,Nat.le_refl 3⟩ hk hx,(OU hx).symm,(OW hx).symm,by simp,by simp⟩
theorem JL (hx:x.st=0) (n g:Nat):(⟨List.replicate 8 x,n,g⟩:Tb V).Is (fun _=>none):=fun k v=>⟨fun h=>absurd h (OV hx k v),fun h=>by cases h⟩
theorem Tb.Is.some {t:Tb V}{m:Bs→Option V} (hm:t.Is m) (ho:t.Ok){k:Bs}{d:Nat} (he:Ends t.slots k d){y:Slot V} (hy:t.slots[pos k t.slots.length d]?=some y):(y.st=1→m k=some y.val)∧(y.st≠1→m k=none):=by
 refine ⟨fun h1=>(hm k _).1 (Eh he hy h1).2,fun h1=>?_⟩
 cases hmk:m k with
 |none=>rfl
 |some v=>exact absurd ((hm k v).2 hmk) ((Ef ho.good he hy h1).2 v)
end
end Go.Tab
namespace Go.Proofs.YtlimfgdbfadohaaGreatDoor
open Go Go.Sl Go.aB Go.MapKept Go.RowKit
theorem RJ (z:Array Value) (h:0<z.size):∀ n,(madeCells z (n * z.size)).toList=(List.replicate n z.toList).flatten
 |0=>by simp [madeCells]
 |n+1=>by
  have ih:=RJ z h n
  have hl:(madeCells z ((n+1) * z.size)).toList=(List.range ((n+1) * z.size)).map (z[· % z.size]!):=by unfold madeCells;simp
  have hl0:(madeCells z (n * z.size)).toList=(List.range (n * z.size)).map (z[· % z.size]!):=by unfold madeCells;simp
  rw [hl0]at ih
  rw [hl,Nat.succ_mul,List.range_add,List.map_append,ih,List.replicate_succ',List.flatten_append]
  congr 1
  rw [List.map_map]
  simp only [List.flatten_cons,List.flatten_nil,List.append_nil]
  refine List.ext_getElem (by simp) fun i h1 h2=>?_
  have hi:i<z.size:=by simpa using h1
  simp only [List.getElem_map,List.getElem_range,Function.comp]
  rw [Nat.mul_comm n,Nat.mul_add_mod,Nat.mod_eq_of_lt hi,getElem!_pos z i hi,Array.getElem_toList]
section
variable {P:Program}{w0 w:World}{L L' R:List aC}{b o:Nat}{ops:Array Oper}{rest:List Oper}{a:Act}{Q:Exit→Act→World→Prop}{dst:Option Tmp}{t ty T e sz dX n c:Nat}{pos:String}{after:Array Edge}{x y:Operand}{v:Value}{zs:List Value}
theorem at_make (h:Stop (wpList P ops Q (⟨dst,.makeSlice ty x y,t,pos,after,none⟩::rest) a w)):wpList P ops Q (⟨dst,.makeSlice ty x y,t,pos,after,none⟩::rest) a w:=h.out
theorem Ae (hb:oU P ty e sz dX=true) (hz:iH P e=some (.agg zs.toArray)) (hs:Sat w0 w L) (hx:a.eval x = .int .i64 n) (hy:a.eval y = .int .i64 n) (hle:dX * n≤281474976710656) (hm:n≤9223372036854775807)
  (hK:∀ b w',Sat w0 w' (aF e sz (.slice (some ⟨b,0,none⟩) n n) (List.replicate n zs).flatten::L)→wpList P ops Q rest (a.put dst (.slice (some ⟨b,0,none⟩) n n)) w') :
  wpList P ops Q (⟨dst,.makeSlice ty x y,t,pos,after,none⟩::rest) a w:=by
 obtain ⟨hu,i,z,hi,hz1,h1,h2,h3,h4⟩:=vJ hb
 have hzz:z = .agg zs.toArray:=by
  unfold iH at hz
  rw [hi]at hz
  simp only [Option.bind_some]at hz
  rw [hz1]at hz
  exact Option.some.inj hz
 subst hzz
 have hzl:zs.length=sz:=by rw [← List.size_toArray];exact h3
 have hr:=run_make (P:=P) w ty e i (.agg zs.toArray) hu hi hz1 .i64 .i64 n n oQ (Int.le_refl _) (by rw [h2,← Int.natCast_mul];omega) oQ
 simp only [Int.toNat_natCast]at hr
 have hS:=hs.alloc (.cells (madeCells (Value.agg zs.toArray).cells (n * i.size)) e)
 refine wpList_plain rfl fun _ hK'=>?_
 unfold Oper.wp execOp
 simp only [hx,hy,hr,Sem.run_bind,Sem.run_pure,Result.andThen_ok]
 refine hK' _ _ (hK _ _ ?_)
 have hm:=RJ zs.toArray (by rw [List.size_toArray];omega) n
 rw [List.size_toArray,hzl]at hm
 refine Sat.jV hS (by rw [List.length_flatten,List.map_replicate,List.sum_replicate_nat,hzl]) (Nat.le_refl _) (by rw [size_madeCells,h1];exact Nat.le_refl _) (by unfold maxLen;omega) ?_
 rw [h1]
 show (madeCells zs.toArray (n * sz)).toList.take (n * sz)=_
 rw [hm,List.take_of_length_le (by rw [List.length_flatten,List.map_replicate,List.sum_replicate_nat,hzl];exact Nat.le_refl _)]
end
end Go.Proofs.YtlimfgdbfadohaaGreatDoor
namespace Go.Tab
open Go.ak (Bs)
structure tV {V:Type} (t:Tb V) (s':List (Slot V)) (N:Nat):Prop where
 good:Good s'
 has:∀ k v,Has s' k v↔Has t.slots k v
 nf:jg s'=t.n
 nu:used s'=t.n
 lo:2 * N≤s'.length
 lo8:8≤s'.length
 hi:s'.length=8∨s'.length<4 * N
theorem tV.ok {V:Type}{t:Tb V}{s':List (Slot V)} (h:tV t s' (t.n+1)):(⟨s',t.n,0⟩:Tb V).Ok:=
 ⟨h.good,h.nf.symm,by rw [h.nu];rfl,by have:=h.lo;simp only;omega,by have:=h.hi;simp only;omega⟩
theorem tV.is {V:Type}{t:Tb V}{s':List (Slot V)}{N:Nat} (h:tV t s' N){m:Bs→Option V} (hm:t.Is m) (n g:Nat):(⟨s',n,g⟩:Tb V).Is m:=fun k v=>(h.has k v).trans (hm k v)
theorem half_start {V:Type}{old:List (Slot V)}{x:Slot V}{c:Nat} (hc:∃ j,c=2^j∧3≤j) (hk:x.key.length=32) (hx:x.st=0):Half old (List.replicate c x) 0:=
 ⟨P6 hc hk hx,fun k v=>⟨fun h=>absurd h (OV hx k v),fun h=>by obtain ⟨i,y,hy,_⟩:=h;simp at hy⟩,by rw [OU hx];rfl,by rw [OW hx];rfl⟩
end Go.Tab
namespace Go.Proofs.YtlimfgdbfadohaaGreatDoor
open Go Go.Sl Go.aB Go.MapKept Go.RowKit
theorem Fa (A B vs:List Value) (i:Nat) (h:i+vs.length≤A.length):jF (A++B) i vs=jF A i vs++B:=by
 unfold jF
 rw [List.take_append_of_le_length oQ,List.drop_append_of_le_length oQ]
 simp only [List.append_assoc]
theorem CX {α:Type}{f:α→List Value}{k:Nat}:∀ {l:List α}{i o:Nat}{x x':α}{vs:List Value},(∀ x∈l,(f x).length=k)→l[i]?=some x→f x'=jF (f x) o vs→o+vs.length≤k→(l.set i x').flatMap f=jF (l.flatMap f) (i * k+o) vs
 |[],_,_,_,_,_,_,h,_,_=>by cases h
 |y::l,0,o,x,x',vs,hk,h,hx,ho=>by
  obtain rfl:y=x:=by simpa using h
  rw [List.set_cons_zero,List.flatMap_cons,List.flatMap_cons,Nat.zero_mul,Nat.zero_add,hx,Fa _ _ _ _ (by rw [hk y (.head _)];exact ho)]
 |y::l,i+1,o,x,x',vs,hk,h,hx,ho=>by
  have h0:=hk y (.head _)
  rw [List.set_cons_succ,List.flatMap_cons,List.flatMap_cons,CX (fun z hz=>hk z (.tail _ hz)) (by simpa using h) hx ho,show (i+1) * k+o=(f y).length+(i * k+o) by rw [h0,Nat.succ_mul];omega,zO]
theorem KY {V:Type} (enc:V→List Value) (x:Tab.Slot V) (v:V) (hk:x.key.length=32) (he:(enc v).length=(enc x.val).length):slotL enc ⟨x.st,x.key,v⟩=jF (slotL enc x) 33 (enc v):=by
 have e:slotL enc x=(.int .i64 x.st::ay x.key)++enc x.val:=rfl
 have hl:(Value.int .i64 x.st::ay x.key).length=33:=by rw [List.length_cons,aU,hk]
 rw [e,show 33=(Value.int .i64 x.st::ay x.key).length+0 by rw [hl],zO]
 unfold jF
 rw [List.take_zero,List.nil_append,Nat.zero_add,he,List.drop_length,List.append_nil];rfl
section
variable {w0 w:World}{R:List aC}{T sz n c:Nat}{a:Option Addr}{xs:List Value}
theorem sO (h:Sat w0 w (aF T sz (.slice a n c) xs::R)) (hx:0<xs.length):∃ b,a=some ⟨b,0,none⟩:=by
 rcases Sat.jR h with ⟨_,rfl,_⟩|⟨b,n',cap',cs,he,_⟩
 ·simp at hx
 ·cases he;exact ⟨b,rfl⟩
end
theorem LJ (n g l:Nat) (h:n+g≤134217728) (hl:l≤1073741824) :
  IntKind.i64.wrap ((n:Int)+(g:Int))=(n:Int)+(g:Int)∧IntKind.i64.wrap ((n:Int)+(g:Int)+1)=(n:Int)+(g:Int)+1∧IntKind.i64.wrap (4 * ((n:Int)+(g:Int)+1))=4 * ((n:Int)+(g:Int)+1)∧IntKind.i64.wrap (3 * (l:Int))=3 * (l:Int) ∧
  wrap64 ((n:Int)+(g:Int))=(n:Int)+(g:Int)∧wrap64 ((n:Int)+(g:Int)+1)=(n:Int)+(g:Int)+1∧wrap64 (4 * ((n:Int)+(g:Int)+1))=4 * ((n:Int)+(g:Int)+1)∧wrap64 (3 * (l:Int))=3 * (l:Int)∧IntKind.i64.wrap ((n:Int)+1)=(n:Int)+1:=
 ⟨IntWalk.i64_in _ oQ,IntWalk.i64_in _ oQ,IntWalk.i64_in _ oQ,IntWalk.i64_in _ oQ,IntWalk.wrap64_in _ oQ,IntWalk.wrap64_in _ oQ,IntWalk.wrap64_in _ oQ,IntWalk.wrap64_in _ oQ,IntWalk.i64_in _ oQ⟩
theorem acX:qJ Tryz.prog 300=some [(0,1),(1,32),(33,5)]:=by kernel_rfl
theorem SY:qJ Tryz.prog 170=some [(0,1),(1,32),(33,3)]:=by kernel_rfl
theorem E8 {xs vs:List Value} (h:vs.length=xs.length):jF xs 0 vs=vs:=by
 unfold jF
 rw [List.take_zero,List.nil_append,Nat.zero_add,h,List.drop_length,List.append_nil]
theorem CS (cs:Array Value) (o:Nat) (vs:List Value) (h:o+vs.length≤cs.size):(eG cs o vs).toList=jF cs.toList o vs:=by
 rw [lW _ _ _ h,List.append_assoc];rfl
theorem Kv {V:Type} (enc:V→List Value) (z:Tab.Slot V) (k:ak.Bs) (v:V) (hz:z.key.length=32) (hk:k.length=32) (he:(enc v).length=(enc z.val).length) (n:Nat) (hn:(enc z.val).length=n) :
  CP [(0,1),(1,32),(33,n)] (slotL enc z).toArray [(0,.int .i64 1),(1,.agg (ay k).toArray),(2,.agg (enc v).toArray)]=(slotL enc ⟨1,k,v⟩).toArray:=by
 have hzl:(slotL enc z).length=33+n:=by rw [gB enc z hz _ hn]
 show eG (eG (eG (slotL enc z).toArray 0 [.int .i64 1]) 1 (ay k)) 33 (enc v)=_
 apply rH
 rw [CS _ _ _ (by rw [kZ,kZ,List.size_toArray,hzl];omega),CS _ _ _ (by rw [kZ,List.size_toArray,hzl,aU,hk];omega),CS _ _ _ (by rw [List.size_toArray,hzl,List.length_singleton];omega)]
 have e:slotL enc z=[.int .i64 z.st]++(ay z.key++enc z.val):=rfl
 have e1:jF (slotL enc z) 0 [.int .i64 1]=[.int .i64 1]++(ay z.key++enc z.val):=by
  rw [e,Fa _ _ _ _ (Nat.le_refl 1)];rfl
 have e2:jF ([Value.int .i64 1]++(ay z.key++enc z.val)) 1 (ay k)=[Value.int .i64 1]++(ay k++enc z.val):=by
  have h0:=zO [Value.int .i64 1] (ay z.key++enc z.val) (ay k) 0
  have h1:jF (ay z.key++enc z.val) 0 (ay k)=ay k++enc z.val:=by
   rw [Fa _ _ _ _ (by rw [aU,aU,hk,hz];omega),E8 (by rw [aU,aU,hk,hz])]
  rw [h1]at h0
  exact h0
 have e3:jF ([Value.int .i64 1]++(ay k++enc z.val)) 33 (enc v)=[Value.int .i64 1]++(ay k++enc v):=by
  have h0:=zO ([Value.int .i64 1]++ay k) (enc z.val) (enc v) 0
  rw [E8 he]at h0
  have hl:([Value.int .i64 1]++ay k).length+0=33:=by rw [List.length_append,aU,hk];rfl
  rw [hl,List.append_assoc,List.append_assoc]at h0
  exact h0
 simp only []
 rw [e1,e2,e3];rfl
end Go.Proofs.YtlimfgdbfadohaaGreatDoor
namespace Go.Tab
open Go.ak (Bs num)
section
variable {V:Type}{s:List (Slot V)}{x z:Slot V}{k:Bs}{v:V}{d:Nat}
def del (m:Bs→Option V) (k:Bs):Bs→Option V:=fun l=>if l=k then none else m l
theorem Il (g:Good s) (he:Ends s k d) (hx:s[pos k s.length d]?=some x) (hf:x.st=1) (hz:z.st=2) (Jo:z.key.length=32) :
  Good (s.set (pos k s.length d) z)∧∀ k' v',Has (s.set (pos k s.length d) z) k' v'↔k'≠k∧Has s k' v':=by
 obtain ⟨hk,_⟩:=Eh he hx hf
 have hlt:pos k s.length d<s.length:=jS g.gZ
 generalize hp:pos k s.length d=p at *
 have hst:∀ q l,o9 (s.set p z) l q→o9 s l q:=fun q l=>by
  unfold o9
  by_cases h:p=q
  ·subst h
   rw [sV hlt]
   rintro ⟨y,hy,h1⟩
   cases hy
   rcases h1 with h1|⟨h1,_⟩ <;> omega
  ·rw [qK h];exact id
 refine ⟨⟨by rw [List.length_set];exact g.pow,fun y hy=>?_,fun y hy=>?_,fun q y hq hy=>?_⟩,fun k' v'=>?_⟩
 ·rcases List.mem_or_eq_of_mem_set hy with h|rfl
  ·exact g.st y h
  ·omega
 ·rcases List.mem_or_eq_of_mem_set hy with h|rfl
  ·exact g.key y h
  ·exact Jo
 ·rw [List.length_set]
  by_cases h:p=q
  ·subst h
   rw [sV hlt]at hq
   cases hq
   omega
  ·rw [qK h]at hq
   obtain ⟨d',a,b,c⟩:=g.reach q y hq hy
   exact ⟨d',a,b,fun e h hh=>c e h (hst _ _ hh)⟩
 ·constructor
  ·rintro ⟨q,y,hq,h1,h2,h3⟩
   by_cases h:p=q
   ·subst h
    rw [sV hlt]at hq
    cases hq
    omega
   ·rw [qK h]at hq
    refine ⟨fun e=>?_,q,y,hq,h1,h2,h3⟩
    exact h (g.one hx hq hf h1 (hk.trans (e.symm.trans h2.symm)))
  ·rintro ⟨hne,q,y,hq,h1,h2,h3⟩
   have:p≠q:=fun h=>by
    subst h
    rw [hx]at hq
    cases hq
    exact hne (h2.symm.trans hk)
   exact ⟨q,y,by rw [qK this];exact hq,h1,h2,h3⟩
theorem Rf {t:Tb V}{m:Bs→Option V}{s':List (Slot V)} (hm:t.Is m) (h:∀ k' v',Has s' k' v'↔k'≠k∧Has t.slots k' v') (n g:Nat):(⟨s',n,g⟩:Tb V).Is (del m k):=fun k' v'=>by
 rw [show (⟨s',n,g⟩:Tb V).slots=s' from rfl,h]
 unfold del
 split
 ·rename_i e
  exact ⟨fun q=>absurd e q.1,fun q=>by cases q⟩
 ·rename_i e
  rw [hm]
  exact ⟨fun q=>q.2,fun q=>⟨e,q⟩⟩
theorem OB {t:Tb V} (h:t.Ok) (he:Ends t.slots k d) (hx:t.slots[pos k t.slots.length d]?=some x) (hf:x.st=1) (hz:z.st=2) (Jo:z.key.length=32) :
  0<t.n∧(⟨t.slots.set (pos k t.slots.length d) z,t.n - 1,t.gone+1⟩:Tb V).Ok:=by
 have h1:=uJ (fun x=>x.st==1) t.slots _ x z hx
 have h2:=uJ (fun x=>x.st != 0) t.slots _ x z hx
 have hn:0<jg t.slots:=by
  unfold jg
  exact List.countP_pos_iff.2 ⟨x,List.mem_of_getElem? hx,by simp [hf]⟩
 have hn2:=h.n
 refine ⟨by omega,(Il h.good he hx hf hz Jo).1,?_,?_,?_,?_⟩
 ·unfold jg at *;simp [hf,hz]at h1 ⊢;omega
 ·have:=h.gone;unfold used at *;simp [hf,hz]at h2 ⊢;omega
 ·have:=h.load;simp only [List.length_set];omega
 ·have:=h.size;simp only [List.length_set];omega
theorem tV.ok0 {t:Tb V}{s':List (Slot V)} (h:tV t s' t.n):(⟨s',t.n,0⟩:Tb V).Ok:=
 ⟨h.good,h.nf.symm,by rw [h.nu];rfl,by have:=h.lo;have:=h.lo8;have:=h.hi;simp only;omega,by have:=h.hi;simp only;omega⟩
end
end Go.Tab
namespace Go.Tab
open Go.ak (Bs)
theorem zn (a b:Bs):a<b∨a=b∨b<a:=by
 by_cases h1:a<b
 ·exact .inl h1
 ·rcases List.le_iff_lt_or_eq.1 (List.not_lt.1 h1) with h2|h2
  ·exact .inr (.inr h2)
  ·exact .inr (.inl h2.symm)
structure Lists {V:Type} (m:Bs→Option V) (l:List (Bs×V)):Prop where
 rise:l.Pairwise fun a b=>a.1<b.1
 mem:∀ k v,(k,v)∈l↔m k=some v
theorem TL {V:Type}:∀ {l l':List (Bs×V)},l.Pairwise (fun a b=>a.1<b.1)→l'.Pairwise (fun a b=>a.1<b.1)→(∀ p,p∈l↔p∈l')→l=l'
 |[],[],_,_,_=>rfl
 |[],b::l',_,_,h=>by have:=(h b).2 (.head _);cases this
 |a::l,[],_,_,h=>by have:=(h a).1 (.head _);cases this
 |a::l,b::l',h1,h2,h=>by
  obtain ⟨a1,a2⟩:=List.pairwise_cons.1 h1
  obtain ⟨b1,b2⟩:=List.pairwise_cons.1 h2
  have hab:a=b:=by
   rcases List.mem_cons.1 ((h a).1 (.head _)) with e|h3
   ·exact e
   ·rcases List.mem_cons.1 ((h b).2 (.head _)) with e|h4
    ·exact e.symm
    ·exact absurd (List.lt_trans (b1 a h3) (a1 b h4)) (List.lt_irrefl _)
  subst hab
  congr 1
  refine TL a2 b2 fun p=>?_
  have:=h p
  rw [List.mem_cons,List.mem_cons]at this
  constructor
  ·intro hp
   rcases this.1 (.inr hp) with e|h3
   ·subst e;exact absurd (a1 p hp) (List.lt_irrefl _)
   ·exact h3
  ·intro hp
   rcases this.2 (.inr hp) with e|h3
   ·subst e;exact absurd (b1 p hp) (List.lt_irrefl _)
   ·exact h3
theorem Lists.unique {V:Type}{m:Bs→Option V}{l l':List (Bs×V)} (h:Lists m l) (h':Lists m l'):l=l':=
 TL h.rise h'.rise fun p=>by rw [h.mem p.1 p.2,h'.mem p.1 p.2]
theorem Lists.keys {V:Type}{m:Bs→Option V}{l:List (Bs×V)} (h:Lists m l):(l.map (·.1)).Nodup:=by
 rw [List.nodup_iff_pairwise_ne,List.pairwise_map]
 exact h.rise.imp fun {a b} hab e=>by rw [e]at hab;exact List.lt_irrefl _ hab
def ins {V:Type}:List (Bs×V)→Bs×V→List (Bs×V)
 |[],x=>[x]
 |y::l,x=>if x.1<y.1 then x::y::l else y::ins l x
end Go.Tab
namespace Go.Rep
open Go.ak (Bs gG)
open Go.Seg (bF)
open Go.Tab
def idx (l:List Row):Nat→List (Bs×bF)
 |0=>[]
 |i+1=>match l[i]? with
  |none=>idx l i
  |some r=>if cnt l i=true∧iC r=0 then ins (idx l i) (jo r,mO r) else idx l i
def live (l:List Row) (s:Int):Nat→Int
 |0=>0
 |i+1=>match l[i]? with
  |none=>live l s i
  |some r=>if cnt l i=true∧r.1=s then live l s i+r.2.size else live l s i
def fK (s:Int):List (Bs×dP)→Int
 |[]=>0
 |p::l=>(if counts p.2=true∧p.2.place.seg=s then p.2.place.size else 0)+fK s l
def puts (kv:List (Bs×dP)):List (Bs×bF):=(kv.filter fun p=>decide (p.2.tag=0)).map fun p=>(p.1,p.2.place)
end Go.Rep
namespace Go.Tab
open Go.ak (Bs)
theorem Ig:∀ (a b:Bs),Lib.compareBytes a b<0↔a<b
 |[],[]=>by simp [Lib.compareBytes]
 |[],b::bs=>by simp [Lib.compareBytes]
 |a::l,[]=>by simp [Lib.compareBytes]
 |a::l,b::bs=>by
  rw [List.cons_lt_cons_iff,← Ig l bs]
  rw [show Lib.compareBytes (a::l) (b::bs)=if a<b then -1 else if b<a then 1 else Lib.compareBytes l bs from rfl]
  by_cases h1:a<b
  ·simp [h1]
  ·rw [if_neg h1]
   by_cases h2:b<a
   ·rw [if_pos h2]
    constructor
    ·intro h;exact absurd h aJ
    ·rintro (h|⟨rfl,_⟩)
     ·exact absurd h h1
     ·exact absurd h2 h1
   ·rw [if_neg h2]
    have:a=b:=by
     have h3:¬ a.toNat<b.toNat:=fun h=>h1 (UInt8.lt_iff_toNat_lt.2 h)
     have h4:¬ b.toNat<a.toNat:=fun h=>h2 (UInt8.lt_iff_toNat_lt.2 h)
     exact UInt8.toNat_inj.1 oQ
    subst this
    constructor
    ·intro h;exact .inr ⟨rfl,h⟩
    ·rintro (h|⟨_,h⟩)
     ·exact absurd h h1
     ·exact h
end Go.Tab
namespace Go.Proofs.YtlimfgdbfadohaaGreatDoor
open Go Go.Sl Go.aB Go.MapKept Go.RowKit
theorem y9 (b o j:Nat):(⟨b,o,none⟩:Addr).add j=⟨b,o+j,none⟩:=by unfold Addr.add;split <;> simp_all
section
variable {w0 w:World}{F R:List aC}{v bv av:Value}
theorem Ub {l:ak.Bs} (h:bK 1 v (ay l) w):(Extern.Bytes.bytesOf v).run Tryz.prog w = .ok ⟨l.toArray⟩ w:=by
 obtain ⟨a,n,c,rfl,hl,hx⟩:=h
 rw [aU,Nat.mul_one]at hl
 subst hl
 cases a with
 |none=>
  obtain rfl:l=[]:=by
   cases l with
   |nil=>rfl
   |cons d l=>obtain ⟨b,hb,_⟩:=hx 0 _ rfl;cases hb
  rfl
 |some ad=>
  have:=Lib.run_loadBytesX (P:=Tryz.prog) w (l.map fun c=>(c.toNat:Int)) ad .empty (fun j x hj=>by
   rw [List.getElem?_map]at hj
   obtain ⟨c',hc',rfl⟩:=Option.map_eq_some_iff.1 hj
   have hy:(ay l)[j]?=some (.int .u8 c'.toNat):=by unfold ay;rw [List.getElem?_map,hc'];rfl
   obtain ⟨b,hb,hc⟩:=hx _ _ hy
   cases hb
   exact hc)
  rw [List.length_map]at this
  simp only [Extern.Bytes.bytesOf,this]
  have e:Lib.bytesOf (l.map fun c=>(c.toNat:Int))=l:=by
   unfold Lib.bytesOf
   rw [List.map_map]
   conv=>rhs;rw [← List.map_id l]
   exact List.map_congr_left fun c _=>by simp
  rw [e]
  show Result.ok ({ data:=(#[]:Array UInt8)++l.toArray }:ByteArray) w=_
  rw [Array.empty_append]
theorem aeg {x y:ak.Bs} (h1:bK 1 av (ay x) w) (h2:bK 1 bv (ay y) w):(Extern.BytealgCompare.compare #[av,bv]).run Tryz.prog w = .ok (.int .i64 (Lib.compareBytes x y)) w:=by
 change Sem.run Tryz.prog (do pure (goInt (Extern.BytealgCompare.cmp (← Extern.Bytes.bytesOf av) (← Extern.Bytes.bytesOf bv)))) w=_
 simp only [Sem.run_bind,Sem.run_pure,Ub h1,Ub h2,Result.andThen]
 rw [Lib.cmp_eq]
 rfl
set_option maxRecDepth 100000 in
theorem NK (x y:ak.Bs) (h1:bK 1 av (ay x) w) (h2:bK 1 bv (ay y) w) :
  Calls Tryz.prog 130 #[av,bv] w fun e w'=>e = .returned (.int .i64 (Lib.compareBytes x y))∧w'=w:=by
 have hr:=aeg h1 h2
 generalize Lib.compareBytes x y=r at *
 clear h1 h2
 go_enter Tryz.func130,Tryz.ntmps130
 go_wp2
 rw [run_callFunc_extern Tryz.func171 au au au (e:=Extern.BytealgCompare.compare) au,hr]
 simp only [Result.andThen]
 rw [Oper.upon_value]
 go_wp2
 go_ret
 exact ⟨rfl,rfl⟩
end
end Go.Proofs.YtlimfgdbfadohaaGreatDoor
namespace Go.Proofs.YtlimfgdbfadohaaGreatDoor
open Go Go.Sl Go.aB Go.MapKept Go.RowKit Go.Sort
section
variable {α:Type} [Inhabited α] {enc:α→List Value}{k:Nat}
theorem Pm (hk:∀ x,(enc x).length=k) (h0:0<k) (d:Array α):(flatK enc k d).toList=d.toList.flatMap enc:=by
 have hl:(d.toList.flatMap enc).length=k * d.toList.length:=jr fun x _=>hk x
 refine List.ext_getElem (by rw [hl,Array.length_toList,size_flatK,Array.length_toList,Nat.mul_comm]) fun t h1 h2=>?_
 have ht:t<d.size * k:=by rw [Array.length_toList,size_flatK]at h1;exact h1
 have hi:t / k<d.size:=Nat.div_lt_of_lt_mul (by rw [Nat.mul_comm];exact ht)
 have hx:d.toList[t / k]?=some d[t / k]! := by
  rw [Array.getElem?_toList,Array.getElem?_eq_getElem hi,getElem!_pos d _ hi]
 have hm:t%k<(enc d[t / k]!).length:=by rw [hk];exact Nat.mod_lt _ h0
 have hr:=Fh (l:=d.toList) (f:=enc) (k:=k) (fun x _=>hk x) hx (List.getElem?_eq_getElem hm)
 rw [show t / k * k+t%k=t by rw [Nat.mul_comm];exact Nat.div_add_mod t k,List.getElem?_eq_getElem h2]at hr
 rw [Option.some.inj hr,Array.getElem_toList,← getElem!_pos (flatK enc k d) t (by rw [size_flatK];exact ht),get_flatK _ _ _ _ ht]
 exact getElem!_pos (enc d[t / k]!) (t%k) hm
end
section
variable {w0 w:World}{R:List aC}{g n m:Nat}{T:TypeId}{cs:Array Value}{os:Array Obj}
theorem aan {fr:Nat×Nat} (d:Array Value) (hb:w.heap[g]?=some (.cells cs T fr)):(grow (putRow id (Sort.ahead w n) g 0 d) os).heap[g]?=some (.cells (putCells id 0 d cs) T fr):=by
 have hg:g<w.heap.size:=(Array.getElem?_eq_some_iff.1 hb).1
 rw [heap_grow_old _ _ (by simpa using hg)]
 simp [putRow,mapBlock,Sort.ahead,Array.getElem?_modify,hb,onCells]
theorem Z4 (d:Array Value):w.grownBy (grow (putRow id (Sort.ahead w n) g 0 d) os) (some g):=by
 refine ⟨rfl,rfl,rfl,by simp,fun k hk hne=>?_⟩
 rw [heap_grow_old _ _ (by simpa using hk)]
 have:g≠k:=fun e=>hne (by rw [e])
 simp [putRow,mapBlock,Sort.ahead,Array.getElem?_modify,this]
theorem U2 (d:Array Value) (h:d.size≤cs.size):(putCells id 0 d cs).toList.take d.size=d.toList:=by
 apply List.ext_getElem?
 intro j
 by_cases hj:j<d.size
 ·rw [List.getElem?_take_of_lt hj,Array.getElem?_toList]
  simp [putCells,hj,show j<cs.size by omega]
 ·rw [List.getElem?_take_eq_none oQ,List.getElem?_eq_none (by simp;omega)]
theorem Ul (hp:Sat w0 w (pt g (.cells cs T (0,0))::R)) (d:Array Value):Sat w0 (grow (putRow id (Sort.ahead w n) g 0 d) os) (pt g (.cells (putCells id 0 d cs) T (0,0))::R):=by
 have hg:=Z4 (w:=w) (g:=g) (n:=n) (os:=os) d
 exact hp.turn hg.os hg.tape hg.output hg.size (aan (n:=n) (os:=os) d hp.at) (fun i hi hlt=>hg.block i hlt (by simpa using hi))
theorem QD {d:Array Value} (hb:w.heap[g]?=some (.cells cs T (0,0))) (ht:cs.toList.take d.size=d.toList):Holds id w g 0 d:=by
 intro j hj
 refine ⟨?_,by simp [World.frozen?,hb]⟩
 have h1:(cs.toList.take d.size)[j]?=d.toList[j]?:=by rw [ht]
 rw [List.getElem?_take_of_lt hj]at h1
 simp only [World.cell?,hb,Nat.zero_add]
 simp only [Option.isSome_none,Bool.false_eq_true,if_false]
 rw [← Array.getElem?_toList,h1,Array.getElem?_toList,Array.getElem?_eq_getElem hj,getElem!_pos d j hj]
 rfl
end
end Go.Proofs.YtlimfgdbfadohaaGreatDoor
namespace Go.Tab
open Go.ak (Bs)
open Go.Sort
theorem UU {V:Type} (key:V→Bs):SWO (Go.Proofs.ltOf fun x y=>Lib.compareBytes (key x) (key y)):=by
 have e:∀ x y,Go.Proofs.ltOf (fun x y=>Lib.compareBytes (key x) (key y)) x y=decide (key x<key y):=fun x y=>by
  unfold Go.Proofs.ltOf
  rw [Bool.eq_iff_iff,decide_eq_true_eq,decide_eq_true_eq]
  exact Ig _ _
 refine ⟨fun x=>?_,fun x y z=>?_,fun x y z=>?_⟩
 ·rw [e,decide_eq_false_iff_not];exact List.lt_irrefl _
 ·rw [e,e,e,decide_eq_true_eq,decide_eq_true_eq,decide_eq_true_eq];exact List.lt_trans
 ·rw [e,e,e,decide_eq_false_iff_not,decide_eq_false_iff_not,decide_eq_false_iff_not]
  intro h1 h2 h3
  rcases zn (key x) (key y) with q|q|q
  ·exact h1 q
  ·exact h2 (q ▸ h3)
  ·rcases zn (key y) (key z) with p|p|p
   ·exact h2 p
   ·exact List.lt_irrefl _ (List.lt_trans q (p ▸ h3))
   ·exact List.lt_irrefl _ (List.lt_trans (List.lt_trans h3 p) q)
theorem UE {V:Type} [Inhabited V] {key:V→Bs}{d d':Array V} (hp:PermIn 0 d.size d d') (hs:SortedIn (Go.Proofs.ltOf fun x y=>Lib.compareBytes (key x) (key y)) 0 d.size d') :
  d'.toList.Perm d.toList∧d'.toList.Pairwise fun a b=>¬ key b<key a:=by
 obtain ⟨h1,_,h3⟩:=hp
 constructor
 ·have e:∀ a:Array V,a.extract 0 a.size=a:=fun a=>by simp
  have h3':=h3
  rw [e d,← h1,e d']at h3'
  exact h3'
 ·rw [List.pairwise_iff_getElem]
  intro i j hi hj hij
  rw [Array.length_toList]at hi hj
  have:=hs i j (Nat.zero_le _) hij oQ
  rw [getElem!_pos d' i hi,getElem!_pos d' j hj]at this
  unfold Go.Proofs.ltOf at this
  rw [decide_eq_false_iff_not,Ig]at this
  simpa using this
theorem Jz {V:Type}{s l:List (Slot V)}{m:Bs→Option V} (g:Good s) (hm:∀ k v,Has s k v↔m k=some v) (hp:l.Perm (s.filter fun x=>decide (x.st=1))) (hs:l.Pairwise fun a b=>¬ b.key<a.key) :
  Lists m (l.map fun x=>(x.key,x.val))∧∀ x∈l,x.st=1∧x.key.length=32:=by
 have hmem:∀ x,x∈l↔x∈s∧x.st=1:=fun x=>by rw [hp.mem_iff,List.mem_filter,decide_eq_true_eq]
 have hnd:l.Pairwise fun a b=>a.key≠b.key:=by
  have h0:(s.filter fun x=>decide (x.st=1)).Pairwise fun a b=>a.key≠b.key:=by
   rw [List.pairwise_filter,List.pairwise_iff_getElem]
   intro i j hi hj hij h1 h2 h3
   have:=g.one (List.getElem?_eq_getElem hi) (List.getElem?_eq_getElem hj) (by simpa using h1) (by simpa using h2) h3
   omega
  exact (hp.pairwise_iff (fun {a b} h=>Ne.symm h)).2 h0
 refine ⟨⟨?_,fun k v=>?_⟩,fun x hx=>⟨((hmem x).1 hx).2,g.key x ((hmem x).1 hx).1⟩⟩
 ·rw [List.pairwise_map]
  refine (hs.and hnd).imp fun {a b} h=>?_
  rcases zn a.key b.key with q|q|q
  ·exact q
  ·exact absurd q h.2
  ·exact absurd q h.1
 ·rw [← hm,List.mem_map]
  constructor
  ·rintro ⟨x,hx,e⟩
   obtain ⟨a,b⟩:=(hmem x).1 hx
   obtain ⟨i,hi,he⟩:=List.getElem_of_mem a
   cases e
   exact ⟨i,x,by rw [List.getElem?_eq_getElem hi,he],b,rfl,rfl⟩
  ·rintro ⟨i,x,hi,a,rfl,rfl⟩
   exact ⟨x,(hmem x).2 ⟨List.mem_of_getElem? hi,a⟩,rfl⟩
end Go.Tab
