import Derived.Test.YtmjldaedhmipkaaGreatDoorJ9
set_option maxHeartbeats 128000000
set_option linter.unusedVariables false
namespace Go.Proofs.YtmjldaedhmipkaaGreatDoor
open Go Go.Sl Go.Med Go.MapKept Go.RowKit
section
variable {P:Program}{w0 w:World}{L L':List HProp}{b o:Nat}{ops:Array Oper}{rest:List Oper}{a:Act}{Q:Exit→Act→World→Prop}{dst:Option Tmp}{t ty T sz n c:Nat}{pos:String}{after:Array Edge}{x y:Operand}{v:Value}{xs:List Value}{K:Act→World→Prop}{E:Prop}
theorem eff_storeS (i:Nat) (hs:Sat w0 w L) (hx:a.eval x = .pointer (some ⟨b,i,none⟩)) (hy:a.eval y=v) (u:Upd (osl T sz (.slice (some ⟨b,0,none⟩) n c) xs) (osl T sz (.slice (some ⟨b,0,none⟩) n c) (xs.set i v)) L L')
  (hi:i<xs.length) (hty:(P.info? ty).map (·.size)=some 1) (h0:v.cells=#[v]) (h1:v.oneCell'=true)
  (hK:∀ w',Sat w0 w' L'→K (a.put dst undef) w') :
  if Region.wanted ⟨dst,.store ty x y,t,pos,after,none⟩ (yielded ops a.tmps)=true then Oper.wp P ⟨dst,.store ty x y,t,pos,after,none⟩ a w K Q else E:=by
 obtain ⟨R',h2,h3⟩:=u
 have h:=hs.perm h2
 rcases Sat.osl_cases h with ⟨he,_⟩|⟨g',n',cap',cs,he,k1,k2,k3,k4,k5,k6⟩
 ·cases he
 ·cases he
  have hlen:xs.length≤cs.size:=by rw [← k5,List.length_take,Array.length_toList];omega
  refine eff_store k6 hx hy (cs':=cs.setIfInBounds i v) (by rw [h0];rfl) upd0 (by rw [h0];show i+1≤cs.size;omega) (by rw [h0];exact hty) (by rw [h0];simpa using h1) fun w' hS=>hK w' (Sat.perm ?_ h3.symm)
  refine Sat.osl_of_pt hS (by rw [List.length_set];exact k1) k2 (by rw [Array.size_setIfInBounds];exact k3) k4 ?_
  rw [Array.toList_setIfInBounds,List.take_set,k5]
end
section
variable {w0 w:World}{F R:List HProp}{d i:Nat}{D:Med}{fsv fv nv wv v lv bv:Value}{xs:List RF}{x:RF}{g:Bag}{K:Nat}
theorem rf_out (hx:xs[i]?=some x) (h:Sat w0 w (stars (xs.map rfR)::R)):∃ G:HProp,(∀ x',stars ((xs.set i x').map rfR)=star (rfR x') G) ∧
  Sat w0 w (bsl x.fv x.f.fast::bsl x.nv x.f.now::osl 155 3 x.wv (x.ws.flatMap chgCells)::chgs x.ws::G::R):=by
 obtain ⟨G,hG,hG'⟩:=stars_at xs i x hx
 refine ⟨G,hG',?_⟩
 rw [hG]at h
 have h1:=Sat.star.1 h
 unfold rfR at h1
 have h2:=Sat.star.1 h1
 have h3:=Sat.star.1 (h2.pick pick1)
 have h4:=Sat.star.1 (h3.pick pick1)
 have h5:=Sat.star.1 (h4.pick pick1)
 have h6:=Sat.emp.1 (h5.pick pick1)
 exact h6.sub (sub_take pick3 (sub_take pick2 (sub_take pick1 (sub_take pick0 (sub_take pick0 sub_refl)))))
theorem rf_in {G:HProp} (hG:∀ x',stars ((xs.set i x').map rfR)=star (rfR x') G) (h:Sat w0 w (bsl x.fv x.f.fast::bsl x.nv x.f.now::osl 155 3 x.wv (x.ws.flatMap chgCells)::chgs x.ws::G::R)) :
  Sat w0 w (stars ((xs.set i x).map rfR)::R):=by
 rw [hG x]
 refine Sat.star.2 ?_
 unfold rfR
 have h0:Sat w0 w (stars []::bsl x.fv x.f.fast::bsl x.nv x.f.now::osl 155 3 x.wv (x.ws.flatMap chgCells)::chgs x.ws::G::R):=Sat.emp.2 h
 have h1:Sat w0 w (stars [chgs x.ws]::bsl x.fv x.f.fast::bsl x.nv x.f.now::osl 155 3 x.wv (x.ws.flatMap chgCells)::G::R):=Sat.star.2 (h0.sub (sub_take pick4 (sub_take pick0 sub_refl)))
 have h2:=Sat.star.2 (h1.sub (sub_take pick3 (sub_take pick0 sub_refl)))
 have h3:=Sat.star.2 (h2.sub (sub_take pick2 (sub_take pick0 sub_refl)))
 exact Sat.star.2 (h3.sub (sub_take pick1 (sub_take pick0 sub_refl)))
theorem rfsL_fv:∀ (xs:List RF) (i:Nat) (x:RF) (u:Value),xs[i]?=some x→(rfsL xs).set (i * 3) u=rfsL (xs.set i { x with fv:=u })
 |[],_,_,_,h=>by cases h
 |q::xs,0,x,u,h=>by cases h;rfl
 |q::xs,i+1,x,u,h=>by
  have e:=rfsL_fv xs i x u (by simpa using h)
  show (q.fv::q.nv::q.wv::rfsL xs).set ((i+1) * 3) u=q.fv::q.nv::q.wv::rfsL (xs.set i { x with fv:=u })
  rw [← e,show (i+1) * 3=i * 3+1+1+1 by omega];rfl
theorem rfsL_nv:∀ (xs:List RF) (i:Nat) (x:RF) (u:Value),xs[i]?=some x→(rfsL xs).set (i * 3+1) u=rfsL (xs.set i { x with nv:=u })
 |[],_,_,_,h=>by cases h
 |q::xs,0,x,u,h=>by cases h;rfl
 |q::xs,i+1,x,u,h=>by
  have e:=rfsL_nv xs i x u (by simpa using h)
  show (q.fv::q.nv::q.wv::rfsL xs).set ((i+1) * 3+1) u=q.fv::q.nv::q.wv::rfsL (xs.set i { x with nv:=u })
  rw [← e,show (i+1) * 3+1=i * 3+1+1+1+1 by omega];rfl
theorem rfsL_wv:∀ (xs:List RF) (i:Nat) (x:RF) (u:Value),xs[i]?=some x→(rfsL xs).set (i * 3+2) u=rfsL (xs.set i { x with wv:=u })
 |[],_,_,_,h=>by cases h
 |q::xs,0,x,u,h=>by cases h;rfl
 |q::xs,i+1,x,u,h=>by
  have e:=rfsL_wv xs i x u (by simpa using h)
  show (q.fv::q.nv::q.wv::rfsL xs).set ((i+1) * 3+2) u=q.fv::q.nv::q.wv::rfsL (xs.set i { x with wv:=u })
  rw [← e,show (i+1) * 3+2=i * 3+2+1+1+1 by omega];rfl
theorem rfsL_same {x x':RF} (h1:x'.fv=x.fv) (h2:x'.nv=x.nv) (h3:x'.wv=x.wv):∀ (xs:List RF) (i:Nat),rfsL (xs.set i x')=rfsL (xs.set i x)
 |[],_=>rfl
 |q::xs,0=>by
  show x'.fv::x'.nv::x'.wv::rfsL xs=x.fv::x.nv::x.wv::rfsL xs
  rw [h1,h2,h3]
 |q::xs,i+1=>by
  show q.fv::q.nv::q.wv::rfsL (xs.set i x')=q.fv::q.nv::q.wv::rfsL (xs.set i x)
  rw [rfsL_same h1 h2 h3 xs i]
theorem rfsL_alike (f f':Fil) (fv nv wv:Value) (ws ws':List (Chg×Value)) (xs:List RF) (i:Nat):rfsL (xs.set i ⟨f,fv,nv,wv,ws⟩)=rfsL (xs.set i ⟨f',fv,nv,wv,ws'⟩):=rfsL_same (x:=⟨f',fv,nv,wv,ws'⟩) (x':=⟨f,fv,nv,wv,ws⟩) rfl rfl rfl xs i
theorem chgs_add {ws:List (Chg×Value)}{p:Chg×Value} (h:Sat w0 w (bsl p.2 p.1.b::chgs ws::R)):Sat w0 w (chgs (ws++[p])::R):=by
 rw [chgs_snoc]
 exact Sat.star.2 (h.sub (sub_take pick1 (sub_take pick0 sub_refl)))
theorem chg_snoc (ws:List (Chg×Value)) (p:Chg×Value):ws.flatMap chgCells++chgCells p=(ws++[p]).flatMap chgCells:=by rw [List.flatMap_append];simp
theorem DskIn.set (h:DskIn D fv nv xs g){i:Nat}{x':RF} (hok:x'.ws.map (·.1)=x'.f.waits):DskIn (D.setFile i x'.f) fv nv (xs.set i x') g:=
 ⟨by rw [List.map_set,h.files];rfl,(fun y hy=>by rcases List.mem_or_eq_of_mem_set hy with hy|rfl;exact h.ok y hy;exact hok),h.fast,h.now⟩
theorem DskIn.step (h:DskIn D fv nv xs g):DskIn D.step.1 fv nv xs g:=⟨by rw [step_files];exact h.files,h.ok,by rw [step_fast];exact h.fast,by rw [step_now];exact h.now⟩
end
section
variable {P:Program}{w0 w:World}{F R:List HProp}{ops:Array Oper}{rest:List Oper}{a:Act}{Q:Exit→Act→World→Prop}{dst:Option Tmp}{t ty T b o:Nat}{pos:String}{after:Array Edge}{x:Operand}{cs:Array Value}{g:Nat×Bool}
theorem wl_loadG (ks:List Value) (hw:Region.wanted ⟨dst,.load ty x,t,pos,after,some g⟩ (yielded ops a.tmps)=true) (hx:a.eval x = .pointer (some ⟨b,o,none⟩)) (hc:w.rangeAt b o ks)
  {d:TypeDesc} (hu:P.underlying ty=some d) (hd:d.isRow=true) (hi:(P.info? ty).map (·.size)=some ks.length)
  (h:wpList P ops Q rest (a.put dst (.agg ks.toArray)) w):wpList P ops Q (⟨dst,.load ty x,t,pos,after,some g⟩::rest) a w:=
 BigFrame.wpList_want hw fun _ hK=>wp_load_mid ty x rfl b o hx ks d hc hu hd hi (hK _ _ h)
theorem at_loadH (h:Stop (wpList P ops Q (⟨dst,.load ty x,t,pos,after,some g⟩::rest) a w)):wpList P ops Q (⟨dst,.load ty x,t,pos,after,some g⟩::rest) a w:=h.out
end
section
variable {w0 w:World}{F R:List HProp}{bE:Nat}{e:Frm.Ent}{dv:Value}
theorem ent_at0 (h:Sat w0 w (pt bE (.cells (entA e dv) 44 (0,0))::R)):w.cell? ⟨bE,0,none⟩=some (.int .i64 e.tag):=h.cellAt 0 _ (entA_0 e _)
theorem ent_at33 (hk:e.key.length=32) (h:Sat w0 w (pt bE (.cells (entA e dv) 44 (0,0))::R)):w.cell? ⟨bE,33,none⟩=some dv:=h.cellAt 33 _ (entA_33 e _ hk)
theorem ent_atk (hk:e.key.length=32) (h:Sat w0 w (pt bE (.cells (entA e dv) 44 (0,0))::R)):w.rangeAt bE 1 (bys e.key):=fun j v hj=>h.cellAt (1+j) v (entA_key e dv hk j v (by simpa using hj))
theorem ent_atkey {i:Nat}{c:UInt8} (hk:e.key.length=32) (hi:e.key[i]?=some c) (h:Sat w0 w (pt bE (.cells (entA e dv) 44 (0,0))::R)):w.cell? ⟨bE,1+i,none⟩=some (.int .u8 c.toNat):=
 ent_atk hk h i _ (by unfold bys;rw [List.getElem?_map,hi];rfl)
set_option maxRecDepth 20000 in
theorem rencode2_c (e:Frm.Ent) (hk:e.key.length=32) (da:Option Addr) (dc:Nat) (hd:Ro w0 F (rdsl 1 (.slice da e.data.length dc) (bys e.data))) (t2:e.tag=2) (hz:e.key=Frm.zero32) (h0e:e.data.length=0) (h:Sat w0 w F) :
  Calls Tryz.prog 72 #[.agg (entA e (.slice da e.data.length dc))] w (Rtn fun v w'=>∃ bv,v = .tuple #[bv,errno (Frm.encode e).2]∧(∃ a n c,bv = .slice a n c)∧Sat w0 w' (bsl bv (Frm.encode e).1::F)):=by
 have Hk:=uQ hk;have Hd:=uQ hd
 have hnk:=eqIn_zero e.key hk
 have hks:(bys e.key).length=32:=by rw [bys_len,hk]
 have Hks:=uQ hks
 clear hd hks
 go_enter Tryz.func72,Tryz.ntmps72
 go_wp2_with (first|((with_reducible refine at_boxE ⟨?_⟩);refine wl_boxE aQ rQ ?_;intro bX wX hX)|(with_reducible apply at_load))
 refine ⟨?_⟩
 have f0:=ent_at0 hX
 have f33:=ent_at33 hk hX
 have fk:=ent_atk hk hX
 have Fk:=uQ fk
 clear h hk fk
 have h0i:decide (0<e.data.length)=false:=by rw [decide_eq_false_iff_not];omega
 have h0j:¬ 0<e.data.length:=oQ
 rw [t2]at f0
 have hzd:decide (e.key=Frm.zero32)=true:=decide_eq_true hz
 have Hch:=uQ (show Frm.check e=0 by unfold Frm.check;simp [t2,hz,h0e])
 have Hdl:=uQ (show e.data.length≤16384 by omega)
 have HFIN:Hid (∀ B0 N8,B0=[(2:UInt8)]++e.data→B0.length+8=N8→Frm.le N8 4++B0=Frm.body e):=fun B0 N8 h1 h2=>by
  have h3:Frm.size e=9:=by unfold Frm.size;rw [Hch.out];simp [t2]
  have h4:N8=9:=by rw [← h2,h1];simp [h0e]
  unfold Frm.body
  rw [h3,h4,h1,t2];rfl
 have HR0l:=uQ (show [(2:UInt8)].length≤33 by decide)
 have h1i:decide (16384<(e.data.length:Int))=false:=by rw [decide_eq_false_iff_not];omega
 have Hz:=uQ hz
 clear hz h0e
 go_wp2_with (first
  |((with_reducible refine at_loadH ⟨?_⟩);refine wl_loadG (b:=bX) (o:=1) (bys e.key) rQ rQ Fk.out Tryz.underlying41 rfl (by rw [Hks.out];kernel_rfl) ?_)
  |((with_reducible refine at_build1 ⟨?_⟩);refine wl_build1 (e:=5) (sz:=1) (by':=1) kQ hX rQ (cs:=#[.int .u8 2]) rfl rfl bQ ?_;intro bN wN hN))
 have f0:=ent_at0 (hN.pick pick1)
 rw [t2]at f0
 have Ht2:=uQ t2
 clear t2
 have hS:Sat w0 _ (bsl (.slice (some ⟨bN,0,none⟩) 1 1) [(2:UInt8)]::pt bX (.cells (entA e (.slice da e.data.length dc)) 44 (0,0))::F):=Sat.osl_of_pt hN rfl (Nat.le_refl _) (Nat.le_refl _) dQ rfl
 clear hX hN
 obtain ⟨R0,hR0⟩:∃ R0,R0=[(2:UInt8)]:=⟨_,rfl⟩
 rw [← hR0]at hS HFIN HR0l
 clear hR0
 go_wp2_with fail
 go_loopg [4,5] 0 (fun g bq iq wr=>bq = .slice (some ⟨bN,0,none⟩) 1 1∧iq = .int .i64 0∧Sat w0 wr (bsl (.slice (some ⟨bN,0,none⟩) 1 1) R0::pt bX (.cells (entA e (.slice da e.data.length dc)) 44 (0,0))::F))
 case atStart=>exact ⟨rfl,rfl,hS⟩
 case round=>
  obtain ⟨rfl,rfl,hS⟩:=hrel
  have f0:=ent_at0 (hS.pick pick1)
  rw [Ht2.out]at f0
  have f33:=ent_at33 Hk.out (hS.pick pick1)
  have f33:=ent_at33 Hk.out (hS.pick pick1)
  go_wp2_with ((with_reducible refine at_append ⟨?_⟩);refine wl_appB hS evD evD (Hd.out _ hS.drop.drop) (by have:=HR0l.out;have:=Hdl.out;omega) ?_;intro a1 n1 c1 w1 hS1)
  clear f33 hS
  have hb0:∃ B0,B0=R0++e.data:=⟨_,rfl⟩
  obtain ⟨B0,hb0⟩:=hb0
  rw [← hb0]at hS1
  have Hb0:=uQ hb0
  have HB0l:=uQ (show B0.length≤16417 by rw [hb0,List.length_append];have:=HR0l.out;have:=Hdl.out;omega)
  clear hb0
  obtain ⟨a1',c1',hv1,_⟩:=bsl_sl hS1
  cases hv1
  have hput:=rput_c (B0.length+8) 4 (by have:=HB0l.out;omega) dQ dQ hS1
  have hw8:IntKind.i64.wrap ((B0.length:Int)+8)=((B0.length+8:Nat):Int):=by have:=HB0l.out;exact IntWalk.i64_in _ oQ
  have hw9:((B0.length+8:Nat):Int)%18446744073709551616=((B0.length+8:Nat):Int):=by have:=HB0l.out;omega
  have hw8b:wrap64 ((B0.length:Int)+8)=((B0.length+8:Nat):Int):=by rw [← IntWalk.i64_left];exact hw8
  have hw9b:IntKind.u64.wrap ((B0.length+8:Nat):Int)=((B0.length+8:Nat):Int):=hw9
  rw [show ((4:Nat):Int)=4 from rfl]at hput
  generalize hN8:B0.length+8=N8 at *
  have HN8:=uQ hN8
  clear hN8
  go_wp2_with fail
  simp only [hw8b,hw9b]
  refine hput.mono ?_
  clear hput hw8 hw9 hw8b hw9b
  rintro ee w2 ⟨v,rfl,hS2,a2,n2,c2,rfl⟩
  clear hS1
  go_wp2_with ((with_reducible refine at_append ⟨?_⟩);refine wl_appB hS2 evD evD (Sat.rd (hS2.pick pick1)) (by rw [Frm.le_len];have:=HB0l.out;omega) ?_;intro a3 n3 c3 w3 hS3)
  clear hS2
  obtain ⟨B1,hb1⟩:∃ B1,B1=Frm.le N8 4++B0:=⟨_,rfl⟩
  rw [← hb1]at hS3
  have HB1l:=uQ (show B1.length≤16421 by rw [hb1,List.length_append,Frm.le_len];have:=HB0l.out;omega)
  have Hbody:=uQ (show B1=Frm.body e by rw [hb1];exact HFIN.out B0 N8 Hb0.out HN8.out)
  clear hb1
  have hsum:=rsum_c B1 (Sat.rd hS3) (by have:=HB1l.out;omega)
  have hcl:=Frm.crc_lt B1
  have hput:=rput_c (Frm.crc B1) 4 oQ dQ dQ hS3
  rw [show ((4:Nat):Int)=4 from rfl]at hput
  generalize hC:Frm.crc B1=C at *
  have HC:=uQ hC
  have hw9:(C:Int)%18446744073709551616=(C:Int):=oQ
  have hw9b:IntKind.u64.wrap (C:Int)=(C:Int):=hw9
  clear hC hcl
  go_wp2_with fail
  refine hsum.mono ?_
  clear hsum
  rintro ee w4 ⟨v,rfl,rfl,rfl⟩
  go_wp2_with fail
  refine hput.mono ?_
  clear hput hw9 hw9b
  rintro ee w4 ⟨v,rfl,hS4,a4,n4,c4,rfl⟩
  clear hS3
  go_wp2_with ((with_reducible refine at_append ⟨?_⟩);refine wl_appB hS4 evD evD (Sat.rd (hS4.pick pick1)) (by rw [Frm.le_len];have:=HB1l.out;omega) ?_;intro a5 n5 c5 w5 hS5)
  clear hS4
  go_ret2
  have hen:Frm.encode e=(Frm.le C 4++B1,0):=by unfold Frm.encode;rw [if_neg (by rw [Hch.out];simp),← Hbody.out,HC.out]
  exact ⟨_,rfl,.slice a5 n5 c5,by rw [hen];rfl,⟨_,_,_,rfl⟩,by rw [hen];exact hS5.sub (sub_take pick0 (sub_drop (sub_drop (sub_drop sub_refl))))⟩
end
section
variable {w0 w:World}{F R:List HProp}{bE:Nat}{e:Frm.Ent}{dv:Value}
set_option maxRecDepth 20000 in
theorem rencode0_c (e:Frm.Ent) (hk:e.key.length=32) (da:Option Addr) (dc:Nat) (hd:Ro w0 F (rdsl 1 (.slice da e.data.length dc) (bys e.data))) (hT:e.tag=0) (hsz:¬ 16384<e.data.length) (h:Sat w0 w F) :
  Calls Tryz.prog 72 #[.agg (entA e (.slice da e.data.length dc))] w (Rtn fun v w'=>∃ bv,v = .tuple #[bv,errno (Frm.encode e).2]∧(∃ a n c,bv = .slice a n c)∧Sat w0 w' (bsl bv (Frm.encode e).1::F)):=by
 have Hk:=uQ hk;have Hd:=uQ hd
 have hnk:=eqIn_zero e.key hk
 have hks:(bys e.key).length=32:=by rw [bys_len,hk]
 have Hks:=uQ hks
 clear hd hks
 go_enter Tryz.func72,Tryz.ntmps72
 go_wp2_with (first|((with_reducible refine at_boxE ⟨?_⟩);refine wl_boxE aQ rQ ?_;intro bX wX hX)|(with_reducible apply at_load))
 refine ⟨?_⟩
 have f0:=ent_at0 hX
 have f33:=ent_at33 hk hX
 have fk:=ent_atk hk hX
 have Fk:=uQ fk
 clear h hk fk
 rw [hT]at f0
 have HT:=uQ hT
 clear hT hnk
 have Hch:=uQ (show Frm.check e=0 by unfold Frm.check;simp [HT.out,hsz])
 have Hdl:=uQ (show e.data.length≤16384 by omega)
 have HFIN:Hid (∀ B0 N8,B0=([(0:UInt8)]++e.key)++e.data→B0.length+8=N8→Frm.le N8 4++B0=Frm.body e):=fun B0 N8 h1 h2=>by
  have h3:Frm.size e=41+e.data.length:=by unfold Frm.size;rw [Hch.out];simp [HT.out]
  have h4:N8=41+e.data.length:=by rw [← h2,h1];simp [Hk.out];omega
  unfold Frm.body
  rw [h3,h4,h1,HT.out];simp
 have HR0l:=uQ (show ([(0:UInt8)]++e.key).length≤33 by simp [Hk.out])
 have h1i:decide (16384<(e.data.length:Int))=false:=by rw [decide_eq_false_iff_not];omega
 clear hsz
 go_wp2_with ((with_reducible refine at_build1 ⟨?_⟩);refine wl_build1 (e:=5) (sz:=1) (by':=1) kQ hX rQ (cs:=#[.int .u8 0]) rfl rfl bQ ?_;intro bN wN hN)
 have hS0:Sat w0 wN (bsl (.slice (some ⟨bN,0,none⟩) 1 1) ([(0:UInt8)]++e.key.take 0)::pt bX (.cells (entA e (.slice da e.data.length dc)) 44 (0,0))::F):=by rw [List.take_zero];exact Sat.osl_of_pt hN rfl (Nat.le_refl _) (Nat.le_refl _) dQ rfl
 clear hX hN f0 f33
 go_wp2_with fail
 go_loopg [4,5] 32 (fun g bq iq wr=>∃ i:Nat,g=32 - i∧i≤32∧iq = .int .i64 i∧Sat w0 wr (bsl bq ([(0:UInt8)]++e.key.take i)::pt bX (.cells (entA e (.slice da e.data.length dc)) 44 (0,0))::F))
 case atStart=>exact ⟨0,rfl,by decide,rfl,hS0⟩
 case round=>
  obtain ⟨i,rfl,hi,rfl,hS⟩:=hrel
  clear hS0
  obtain ⟨ba,bn,bc,rfl,_⟩:=id (Sat.rd hS)
  have f0:=ent_at0 (hS.pick pick1)
  rw [HT.out]at f0
  by_cases hlt:i<32
  ·have c1:(i:Int)<32:=by omega
   have hwi:=iwQ (i:=i)
   obtain ⟨cc,hcc⟩:∃ cc,e.key[i]?=some cc:=⟨_,List.getElem?_eq_getElem (by rw [Hk.out];exact hlt)⟩
   have fk:=ent_atkey Hk.out hcc (hS.pick pick1)
   have Hnx:=uQ (show [(0:UInt8)]++e.key.take (i+1)=([(0:UInt8)]++e.key.take i)++[cc] by rw [List.take_add_one,hcc];simp)
   have hlen:(bys ([(0:UInt8)]++e.key.take i)).length≤2147483648:=by rw [bys_len,List.length_append,List.length_take];simp;omega
   have Hlt:=uQ hlt
   clear hcc hlt
   have hSo:Sat w0 wr (osl 5 1 (.slice ba bn bc) (bys ([(0:UInt8)]++e.key.take i))::pt bX (.cells (entA e (.slice da e.data.length dc)) 44 (0,0))::F):=hS
   generalize hB:[(0:UInt8)]++e.key.take i=B at *
   clear hS
   go_wp2_with (first
    |((with_reducible refine at_build1 ⟨?_⟩);refine wl_build1 (e:=5) (sz:=1) (by':=1) kQ hSo rQ (cs:=#[.int .u8 cc.toNat]) rfl rfl bQ ?_;intro bM wM hM)
    |((with_reducible refine at_append ⟨?_⟩);refine wl_app 5 1 1 kQ hM rQ rQ (pick_there pick0) pick0 rQ (Nat.le_refl 1) rQ hlen (by show 1≤65536;decide) dQ evD ?_;intro bA nA cA wA hA))
   go_roundg (32 - (i+1))
   case measure=>have:=Hlt.out;omega
   case rel=>
    refine ⟨i+1,rfl,Nat.succ_le_of_lt Hlt.out,by first|rfl|go_num,?_⟩
    rw [Hnx.out]
    have e1:bys (B++[cc])=bys B++[Value.int .u8 cc.toNat]:=by unfold bys;rw [List.map_append];rfl
    unfold bsl
    rw [e1]
    exact hA
  ·obtain rfl:i=32:=by omega
   have c1:¬ ((32:Nat):Int)<32:=by decide
   rw [List.take_of_length_le (by rw [Hk.out];exact Nat.le_refl _)]at hS
   clear hlt hi
   obtain ⟨R0,hR0⟩:∃ R0,R0=[(0:UInt8)]++e.key:=⟨_,rfl⟩
   rw [← hR0]at hS HFIN HR0l
   clear hR0
   have f33:=ent_at33 Hk.out (hS.pick pick1)
   go_wp2_with ((with_reducible refine at_append ⟨?_⟩);refine wl_appB hS evD evD (Hd.out _ hS.drop.drop) (by have:=HR0l.out;have:=Hdl.out;omega) ?_;intro a1 n1 c1 w1 hS1)
   clear f33 hS
   have hb0:∃ B0,B0=R0++e.data:=⟨_,rfl⟩
   obtain ⟨B0,hb0⟩:=hb0
   rw [← hb0]at hS1
   have Hb0:=uQ hb0
   have HB0l:=uQ (show B0.length≤16417 by rw [hb0,List.length_append];have:=HR0l.out;have:=Hdl.out;omega)
   clear hb0
   obtain ⟨a1',c1',hv1,_⟩:=bsl_sl hS1
   cases hv1
   have hput:=rput_c (B0.length+8) 4 (by have:=HB0l.out;omega) dQ dQ hS1
   have hw8:IntKind.i64.wrap ((B0.length:Int)+8)=((B0.length+8:Nat):Int):=by have:=HB0l.out;exact IntWalk.i64_in _ oQ
   have hw9:((B0.length+8:Nat):Int)%18446744073709551616=((B0.length+8:Nat):Int):=by have:=HB0l.out;omega
   have hw8b:wrap64 ((B0.length:Int)+8)=((B0.length+8:Nat):Int):=by rw [← IntWalk.i64_left];exact hw8
   have hw9b:IntKind.u64.wrap ((B0.length+8:Nat):Int)=((B0.length+8:Nat):Int):=hw9
   rw [show ((4:Nat):Int)=4 from rfl]at hput
   generalize hN8:B0.length+8=N8 at *
   have HN8:=uQ hN8
   clear hN8
   go_wp2_with fail
   simp only [hw8b,hw9b]
   refine hput.mono ?_
   clear hput hw8 hw9 hw8b hw9b
   rintro ee w2 ⟨v,rfl,hS2,a2,n2,c2,rfl⟩
   clear hS1
   go_wp2_with ((with_reducible refine at_append ⟨?_⟩);refine wl_appB hS2 evD evD (Sat.rd (hS2.pick pick1)) (by rw [Frm.le_len];have:=HB0l.out;omega) ?_;intro a3 n3 c3 w3 hS3)
   clear hS2
   obtain ⟨B1,hb1⟩:∃ B1,B1=Frm.le N8 4++B0:=⟨_,rfl⟩
   rw [← hb1]at hS3
   have HB1l:=uQ (show B1.length≤16421 by rw [hb1,List.length_append,Frm.le_len];have:=HB0l.out;omega)
   have Hbody:=uQ (show B1=Frm.body e by rw [hb1];exact HFIN.out B0 N8 Hb0.out HN8.out)
   clear hb1
   have hsum:=rsum_c B1 (Sat.rd hS3) (by have:=HB1l.out;omega)
   have hcl:=Frm.crc_lt B1
   have hput:=rput_c (Frm.crc B1) 4 oQ dQ dQ hS3
   rw [show ((4:Nat):Int)=4 from rfl]at hput
   generalize hC:Frm.crc B1=C at *
   have HC:=uQ hC
   have hw9:(C:Int)%18446744073709551616=(C:Int):=oQ
   have hw9b:IntKind.u64.wrap (C:Int)=(C:Int):=hw9
   clear hC hcl
   go_wp2_with fail
   refine hsum.mono ?_
   clear hsum
   rintro ee w4 ⟨v,rfl,rfl,rfl⟩
   go_wp2_with fail
   refine hput.mono ?_
   clear hput hw9 hw9b
   rintro ee w4 ⟨v,rfl,hS4,a4,n4,c4,rfl⟩
   clear hS3
   go_wp2_with ((with_reducible refine at_append ⟨?_⟩);refine wl_appB hS4 evD evD (Sat.rd (hS4.pick pick1)) (by rw [Frm.le_len];have:=HB1l.out;omega) ?_;intro a5 n5 c5 w5 hS5)
   clear hS4
   go_ret2
   have hen:Frm.encode e=(Frm.le C 4++B1,0):=by unfold Frm.encode;rw [if_neg (by rw [Hch.out];simp),← Hbody.out,HC.out]
   exact ⟨_,rfl,.slice a5 n5 c5,by rw [hen];rfl,⟨_,_,_,rfl⟩,by rw [hen];exact hS5.sub (sub_take pick0 (sub_drop (sub_drop (sub_drop sub_refl))))⟩
end
section
variable {w0 w:World}{F R:List HProp}{bE:Nat}{e:Frm.Ent}{dv:Value}
set_option maxRecDepth 20000 in
theorem rencode1_c (e:Frm.Ent) (hk:e.key.length=32) (da:Option Addr) (dc:Nat) (hd:Ro w0 F (rdsl 1 (.slice da e.data.length dc) (bys e.data))) (hT:e.tag=1) (hsz:e.data.length=0) (h:Sat w0 w F) :
  Calls Tryz.prog 72 #[.agg (entA e (.slice da e.data.length dc))] w (Rtn fun v w'=>∃ bv,v = .tuple #[bv,errno (Frm.encode e).2]∧(∃ a n c,bv = .slice a n c)∧Sat w0 w' (bsl bv (Frm.encode e).1::F)):=by
 have Hk:=uQ hk;have Hd:=uQ hd
 have hnk:=eqIn_zero e.key hk
 have hks:(bys e.key).length=32:=by rw [bys_len,hk]
 have Hks:=uQ hks
 clear hd hks
 go_enter Tryz.func72,Tryz.ntmps72
 go_wp2_with (first|((with_reducible refine at_boxE ⟨?_⟩);refine wl_boxE aQ rQ ?_;intro bX wX hX)|(with_reducible apply at_load))
 refine ⟨?_⟩
 have f0:=ent_at0 hX
 have f33:=ent_at33 hk hX
 have fk:=ent_atk hk hX
 have Fk:=uQ fk
 clear h hk fk
 rw [hT]at f0
 have HT:=uQ hT
 clear hT hnk
 have h0i:decide (0<e.data.length)=false:=by rw [decide_eq_false_iff_not];omega
 have h0j:¬ 0<e.data.length:=oQ
 have Hch:=uQ (show Frm.check e=0 by unfold Frm.check;simp [HT.out,hsz])
 have Hdl:=uQ (show e.data.length≤16384 by omega)
 have HFIN:Hid (∀ B0 N8,B0=([(1:UInt8)]++e.key)++e.data→B0.length+8=N8→Frm.le N8 4++B0=Frm.body e):=fun B0 N8 h1 h2=>by
  have h3:Frm.size e=41+e.data.length:=by unfold Frm.size;rw [Hch.out];simp [HT.out]
  have h4:N8=41+e.data.length:=by rw [← h2,h1];simp [Hk.out];omega
  unfold Frm.body
  rw [h3,h4,h1,HT.out];simp
 have HR0l:=uQ (show ([(1:UInt8)]++e.key).length≤33 by simp [Hk.out])
 have h1i:decide (16384<(e.data.length:Int))=false:=by rw [decide_eq_false_iff_not];omega
 clear hsz
 go_wp2_with ((with_reducible refine at_build1 ⟨?_⟩);refine wl_build1 (e:=5) (sz:=1) (by':=1) kQ hX rQ (cs:=#[.int .u8 1]) rfl rfl bQ ?_;intro bN wN hN)
 have hS0:Sat w0 wN (bsl (.slice (some ⟨bN,0,none⟩) 1 1) ([(1:UInt8)]++e.key.take 0)::pt bX (.cells (entA e (.slice da e.data.length dc)) 44 (0,0))::F):=by rw [List.take_zero];exact Sat.osl_of_pt hN rfl (Nat.le_refl _) (Nat.le_refl _) dQ rfl
 clear hX hN f0 f33
 go_wp2_with fail
 go_loopg [4,5] 32 (fun g bq iq wr=>∃ i:Nat,g=32 - i∧i≤32∧iq = .int .i64 i∧Sat w0 wr (bsl bq ([(1:UInt8)]++e.key.take i)::pt bX (.cells (entA e (.slice da e.data.length dc)) 44 (0,0))::F))
 case atStart=>exact ⟨0,rfl,by decide,rfl,hS0⟩
 case round=>
  obtain ⟨i,rfl,hi,rfl,hS⟩:=hrel
  clear hS0
  obtain ⟨ba,bn,bc,rfl,_⟩:=id (Sat.rd hS)
  have f0:=ent_at0 (hS.pick pick1)
  rw [HT.out]at f0
  by_cases hlt:i<32
  ·have c1:(i:Int)<32:=by omega
   have hwi:=iwQ (i:=i)
   obtain ⟨cc,hcc⟩:∃ cc,e.key[i]?=some cc:=⟨_,List.getElem?_eq_getElem (by rw [Hk.out];exact hlt)⟩
   have fk:=ent_atkey Hk.out hcc (hS.pick pick1)
   have Hnx:=uQ (show [(1:UInt8)]++e.key.take (i+1)=([(1:UInt8)]++e.key.take i)++[cc] by rw [List.take_add_one,hcc];simp)
   have hlen:(bys ([(1:UInt8)]++e.key.take i)).length≤2147483648:=by rw [bys_len,List.length_append,List.length_take];simp;omega
   have Hlt:=uQ hlt
   clear hcc hlt
   have hSo:Sat w0 wr (osl 5 1 (.slice ba bn bc) (bys ([(1:UInt8)]++e.key.take i))::pt bX (.cells (entA e (.slice da e.data.length dc)) 44 (0,0))::F):=hS
   generalize hB:[(1:UInt8)]++e.key.take i=B at *
   clear hS
   go_wp2_with (first
    |((with_reducible refine at_build1 ⟨?_⟩);refine wl_build1 (e:=5) (sz:=1) (by':=1) kQ hSo rQ (cs:=#[.int .u8 cc.toNat]) rfl rfl bQ ?_;intro bM wM hM)
    |((with_reducible refine at_append ⟨?_⟩);refine wl_app 5 1 1 kQ hM rQ rQ (pick_there pick0) pick0 rQ (Nat.le_refl 1) rQ hlen (by show 1≤65536;decide) dQ evD ?_;intro bA nA cA wA hA))
   go_roundg (32 - (i+1))
   case measure=>have:=Hlt.out;omega
   case rel=>
    refine ⟨i+1,rfl,Nat.succ_le_of_lt Hlt.out,by first|rfl|go_num,?_⟩
    rw [Hnx.out]
    have e1:bys (B++[cc])=bys B++[Value.int .u8 cc.toNat]:=by unfold bys;rw [List.map_append];rfl
    unfold bsl
    rw [e1]
    exact hA
  ·obtain rfl:i=32:=by omega
   have c1:¬ ((32:Nat):Int)<32:=by decide
   rw [List.take_of_length_le (by rw [Hk.out];exact Nat.le_refl _)]at hS
   clear hlt hi
   obtain ⟨R0,hR0⟩:∃ R0,R0=[(1:UInt8)]++e.key:=⟨_,rfl⟩
   rw [← hR0]at hS HFIN HR0l
   clear hR0
   have f33:=ent_at33 Hk.out (hS.pick pick1)
   go_wp2_with ((with_reducible refine at_append ⟨?_⟩);refine wl_appB hS evD evD (Hd.out _ hS.drop.drop) (by have:=HR0l.out;have:=Hdl.out;omega) ?_;intro a1 n1 c1 w1 hS1)
   clear f33 hS
   have hb0:∃ B0,B0=R0++e.data:=⟨_,rfl⟩
   obtain ⟨B0,hb0⟩:=hb0
   rw [← hb0]at hS1
   have Hb0:=uQ hb0
   have HB0l:=uQ (show B0.length≤16417 by rw [hb0,List.length_append];have:=HR0l.out;have:=Hdl.out;omega)
   clear hb0
   obtain ⟨a1',c1',hv1,_⟩:=bsl_sl hS1
   cases hv1
   have hput:=rput_c (B0.length+8) 4 (by have:=HB0l.out;omega) dQ dQ hS1
   have hw8:IntKind.i64.wrap ((B0.length:Int)+8)=((B0.length+8:Nat):Int):=by have:=HB0l.out;exact IntWalk.i64_in _ oQ
   have hw9:((B0.length+8:Nat):Int)%18446744073709551616=((B0.length+8:Nat):Int):=by have:=HB0l.out;omega
   have hw8b:wrap64 ((B0.length:Int)+8)=((B0.length+8:Nat):Int):=by rw [← IntWalk.i64_left];exact hw8
   have hw9b:IntKind.u64.wrap ((B0.length+8:Nat):Int)=((B0.length+8:Nat):Int):=hw9
   rw [show ((4:Nat):Int)=4 from rfl]at hput
   generalize hN8:B0.length+8=N8 at *
   have HN8:=uQ hN8
   clear hN8
   go_wp2_with fail
   simp only [hw8b,hw9b]
   refine hput.mono ?_
   clear hput hw8 hw9 hw8b hw9b
   rintro ee w2 ⟨v,rfl,hS2,a2,n2,c2,rfl⟩
   clear hS1
   go_wp2_with ((with_reducible refine at_append ⟨?_⟩);refine wl_appB hS2 evD evD (Sat.rd (hS2.pick pick1)) (by rw [Frm.le_len];have:=HB0l.out;omega) ?_;intro a3 n3 c3 w3 hS3)
   clear hS2
   obtain ⟨B1,hb1⟩:∃ B1,B1=Frm.le N8 4++B0:=⟨_,rfl⟩
   rw [← hb1]at hS3
   have HB1l:=uQ (show B1.length≤16421 by rw [hb1,List.length_append,Frm.le_len];have:=HB0l.out;omega)
   have Hbody:=uQ (show B1=Frm.body e by rw [hb1];exact HFIN.out B0 N8 Hb0.out HN8.out)
   clear hb1
   have hsum:=rsum_c B1 (Sat.rd hS3) (by have:=HB1l.out;omega)
   have hcl:=Frm.crc_lt B1
   have hput:=rput_c (Frm.crc B1) 4 oQ dQ dQ hS3
   rw [show ((4:Nat):Int)=4 from rfl]at hput
   generalize hC:Frm.crc B1=C at *
   have HC:=uQ hC
   have hw9:(C:Int)%18446744073709551616=(C:Int):=oQ
   have hw9b:IntKind.u64.wrap (C:Int)=(C:Int):=hw9
   clear hC hcl
   go_wp2_with fail
   refine hsum.mono ?_
   clear hsum
   rintro ee w4 ⟨v,rfl,rfl,rfl⟩
   go_wp2_with fail
   refine hput.mono ?_
   clear hput hw9 hw9b
   rintro ee w4 ⟨v,rfl,hS4,a4,n4,c4,rfl⟩
   clear hS3
   go_wp2_with ((with_reducible refine at_append ⟨?_⟩);refine wl_appB hS4 evD evD (Sat.rd (hS4.pick pick1)) (by rw [Frm.le_len];have:=HB1l.out;omega) ?_;intro a5 n5 c5 w5 hS5)
   clear hS4
   go_ret2
   have hen:Frm.encode e=(Frm.le C 4++B1,0):=by unfold Frm.encode;rw [if_neg (by rw [Hch.out];simp),← Hbody.out,HC.out]
   exact ⟨_,rfl,.slice a5 n5 c5,by rw [hen];rfl,⟨_,_,_,rfl⟩,by rw [hen];exact hS5.sub (sub_take pick0 (sub_drop (sub_drop (sub_drop sub_refl))))⟩
end
section
variable {w0 w:World}{F R:List HProp}{bE:Nat}{e:Frm.Ent}{dv:Value}
set_option maxRecDepth 20000 in
theorem rencode_c (e:Frm.Ent) (hk:e.key.length=32) (da:Option Addr) (dc:Nat) (hd:Ro w0 F (rdsl 1 (.slice da e.data.length dc) (bys e.data)))  (h:Sat w0 w F) :
  Calls Tryz.prog 72 #[.agg (entA e (.slice da e.data.length dc))] w (Rtn fun v w'=>∃ bv,v = .tuple #[bv,errno (Frm.encode e).2]∧(∃ a n c,bv = .slice a n c)∧Sat w0 w' (bsl bv (Frm.encode e).1::F)):=by
 have hbad:∀ n,Frm.check e=n→n≠0→Frm.encode e=([],n):=fun n hn h0=>by unfold Frm.encode;rw [hn,if_pos h0]
 have Hbad:=uQ hbad
 clear hbad
 by_cases t2:e.tag=2
 ·by_cases h0:0<e.data.length
  ·have Hf:=uQ (Hbad.out 4 (by unfold Frm.check;simp [t2,h0]) dQ)
   have h0i:(0:Int)<(e.data.length:Int):=oQ
   have Hk:=uQ hk
   clear hd hk
   go_enter Tryz.func72,Tryz.ntmps72
   go_wp2_with (first|((with_reducible refine at_boxE ⟨?_⟩);refine wl_boxE aQ rQ ?_;intro bX wX hX)|(with_reducible apply at_load))
   refine ⟨?_⟩
   have f0:=ent_at0 hX
   have f33:=ent_at33 Hk.out hX
   have fk:=ent_atk Hk.out hX
   have Fk:=uQ fk
   clear h fk
   rw [t2]at f0
   go_wp2
   go_ret2
   exact ⟨_,rfl,.slice none 0 0,by rw [Hf.out];rfl,⟨_,_,_,rfl⟩,by rw [Hf.out];exact Sat.osl_nil.2 hX.drop⟩
  ·have h0e:e.data.length=0:=by omega
   by_cases hz:e.key=Frm.zero32
   ·exact rencode2_c e hk da dc hd t2 hz h0e h
   ·have hzd:decide (e.key=Frm.zero32)=false:=decide_eq_false hz
    have h0i:decide (0<e.data.length)=false:=decide_eq_false h0
    have Hf:=uQ (Hbad.out 4 (by unfold Frm.check;simp [t2,hz]) dQ)
    have hnk:=eqIn_zero e.key hk
    have Hks:=uQ (show (bys e.key).length=32 by rw [bys_len,hk])
    have Hk:=uQ hk
    clear hz h0e hd hk
    go_enter Tryz.func72,Tryz.ntmps72
    go_wp2_with (first|((with_reducible refine at_boxE ⟨?_⟩);refine wl_boxE aQ rQ ?_;intro bX wX hX)|(with_reducible apply at_load))
    refine ⟨?_⟩
    have f0:=ent_at0 hX
    have f33:=ent_at33 Hk.out hX
    have fk:=ent_atk Hk.out hX
    have Fk:=uQ fk
    clear h fk
    rw [t2]at f0
    go_wp2_with ((with_reducible refine at_loadH ⟨?_⟩);refine wl_loadG (b:=bX) (o:=1) (bys e.key) rQ rQ Fk.out Tryz.underlying41 rfl (by rw [Hks.out];kernel_rfl) ?_)
    go_ret2
    exact ⟨_,rfl,.slice none 0 0,by rw [Hf.out];rfl,⟨_,_,_,rfl⟩,by rw [Hf.out];exact Sat.osl_nil.2 hX.drop⟩
 ·have t2b:(e.tag==2)=false:=by simpa using t2
  have Hk:=uQ hk
  by_cases t0:e.tag=0
  ·by_cases hb:16384<e.data.length
   ·have Hf:=uQ (Hbad.out 5 (by unfold Frm.check;simp [t0,hb]) dQ)
    have hbi:(16384:Int)<(e.data.length:Int):=oQ
    clear hb t2 t2b hd hk
    go_enter Tryz.func72,Tryz.ntmps72
    go_wp2_with (first|((with_reducible refine at_boxE ⟨?_⟩);refine wl_boxE aQ rQ ?_;intro bX wX hX)|(with_reducible apply at_load))
    refine ⟨?_⟩
    have f0:=ent_at0 hX
    have f33:=ent_at33 Hk.out hX
    have fk:=ent_atk Hk.out hX
    have Fk:=uQ fk
    clear h fk
    rw [t0]at f0
    clear t0
    go_wp2
    go_ret2
    exact ⟨_,rfl,.slice none 0 0,by rw [Hf.out];rfl,⟨_,_,_,rfl⟩,by rw [Hf.out];exact Sat.osl_nil.2 hX.drop⟩
   ·exact rencode0_c e hk da dc hd t0 hb h
  ·by_cases t1:e.tag=1
   ·by_cases h0:0<e.data.length
    ·have Hf:=uQ (Hbad.out 4 (by unfold Frm.check;simp [t1,h0]) dQ)
     have h0i:(0:Int)<(e.data.length:Int):=oQ
     clear t2 t2b t0 hd hk
     go_enter Tryz.func72,Tryz.ntmps72
     go_wp2_with (first|((with_reducible refine at_boxE ⟨?_⟩);refine wl_boxE aQ rQ ?_;intro bX wX hX)|(with_reducible apply at_load))
     refine ⟨?_⟩
     have f0:=ent_at0 hX
     have f33:=ent_at33 Hk.out hX
     have fk:=ent_atk Hk.out hX
     have Fk:=uQ fk
     clear h fk
     rw [t1]at f0
     clear t1
     go_wp2
     go_ret2
     exact ⟨_,rfl,.slice none 0 0,by rw [Hf.out];rfl,⟨_,_,_,rfl⟩,by rw [Hf.out];exact Sat.osl_nil.2 hX.drop⟩
    ·exact rencode1_c e hk da dc hd t1 oQ h
   ·have Hf:=uQ (Hbad.out 4 (by unfold Frm.check;simp [t0,t1,t2]) dQ)
    by_cases hneg:e.tag<0
    ·have g1:decide (e.tag<0)=true:=decide_eq_true hneg
     clear t0 t1 t2 t2b hd hk
     go_enter Tryz.func72,Tryz.ntmps72
     go_wp2_with (first|((with_reducible refine at_boxE ⟨?_⟩);refine wl_boxE aQ rQ ?_;intro bX wX hX)|(with_reducible apply at_load))
     refine ⟨?_⟩
     have f0:=ent_at0 hX
     have f33:=ent_at33 Hk.out hX
     have fk:=ent_atk Hk.out hX
     have Fk:=uQ fk
     clear h fk
     generalize e.tag=T at *
     go_wp2
     go_ret2
     exact ⟨_,rfl,.slice none 0 0,by rw [Hf.out];rfl,⟨_,_,_,rfl⟩,by rw [Hf.out];exact Sat.osl_nil.2 hX.drop⟩
    ·have g1:decide (e.tag<0)=false:=decide_eq_false hneg
     have g2:decide (2<e.tag)=true:=decide_eq_true oQ
     have g2':2<e.tag:=oQ
     clear t0 t1 t2 t2b hd hk
     go_enter Tryz.func72,Tryz.ntmps72
     go_wp2_with (first|((with_reducible refine at_boxE ⟨?_⟩);refine wl_boxE aQ rQ ?_;intro bX wX hX)|(with_reducible apply at_load))
     refine ⟨?_⟩
     have f0:=ent_at0 hX
     have f33:=ent_at33 Hk.out hX
     have fk:=ent_atk Hk.out hX
     have Fk:=uQ fk
     clear h fk
     generalize e.tag=T at *
     go_wp2
     go_ret2
     exact ⟨_,rfl,.slice none 0 0,by rw [Hf.out];rfl,⟨_,_,_,rfl⟩,by rw [Hf.out];exact Sat.osl_nil.2 hX.drop⟩
end
section
variable {w0 w:World}{F R:List HProp}{d:Nat}{D:Med}{fsv fv nv wv v lv bv:Value}{xs:List RF}{g:Bag}{K:Nat}
set_option maxRecDepth 20000 in
theorem rappend_c (s:ByteArray) (b:Bs) (hb:Ro w0 F (rdsl 1 bv (bys b))) (hbl:b.length≤1048576) (ok:D.Ok K) (hK:K≤1048576) (hus:D.used≤1099511627776) (h:Sat w0 w (DskRep d D::F)) :
  Calls Tryz.prog 73 #[ptr d,.string s,.agg #[.bool false,.int .i64 0,bv]] w (Rtn fun v w'=>v=errno (D.append s b).2∧Sat w0 w' (DskRep d (D.append s b).1::F)):=by
 have Ok:=uQ ok;have Hus:=uQ hus;have Hb:=uQ hb;have Hbl:=uQ hbl;have HK:=uQ hK
 have hl:D.now.length≤1048576:=Nat.le_trans ok.nowOk.len dQ
 have Hl:=uQ hl
 obtain ⟨ba,bn,bc,rfl,hbn,_⟩:=id (hb _ h.drop)
 rw [bys_len,Nat.mul_one]at hbn
 subst hbn
 clear hb hbl hK hus ok hl
 go_enter Tryz.func73,Tryz.ntmps73
 go_wp2_with (first|((with_reducible refine at_box ⟨?_⟩);refine wl_box aQ evD evD ?_;intro bB wB hB)|(with_reducible apply at_load))
 refine ⟨?_⟩
 have hO:=hB.sub (sub_take pick1 (sub_take pick0 sub_refl))
 have hfd:=rfind_c s Hl.out hO
 obtain ⟨fsv,fv,nv,wv,xs,g,hin,hR⟩:=DskRep.open hO
 have Hin:=uQ hin
 have e7:World.cell? _ ⟨d,7,none⟩=some (.bool D.off):=hR.cellP pick0 7 rfl
 clear h hin hO
 cases ho:D.off with
 |true=>
  have Ha:=uQ (show D.append s b=(D,12) by unfold Med.append;rw [ho];rfl)
  rw [ho]at e7
  clear ho hfd
  go_wp2
  go_ret
  exact ⟨_,rfl,by rw [Ha.out];rfl,by rw [Ha.out];exact (DskRep.shut Hin.out hR).sub (sub_take pick0 (sub_drop sub_refl))⟩
 |false=>
  rw [ho]at e7
  have Ho:=uQ (show ¬ (D.off=true) by rw [ho];decide)
  clear ho
  cases hg:nget D.now s with
  |none=>
   have Ha:=uQ (show D.append s b=(D,9) by unfold Med.append;rw [if_neg Ho.out,hg])
   have hwh:D.which s = -1:=by unfold Med.which;rw [hg]
   rw [hwh]at hfd
   clear hg hwh
   go_wp2_with fail
   refine hfd.mono ?_
   rintro ee w1 ⟨v,rfl,rfl,rfl⟩
   clear hfd
   go_wp2
   go_ret
   exact ⟨_,rfl,by rw [Ha.out];rfl,by rw [Ha.out];exact (DskRep.shut Hin.out hR).sub (sub_take pick0 (sub_drop sub_refl))⟩
  |some i=>
   have hwh:D.which s=(i:Int):=by unfold Med.which;rw [hg]
   rw [hwh]at hfd
   have c1:¬ (i:Int)<0:=oQ
   have hif:i<D.files.length:=Ok.out.nowOk.ids _ (nget_mem hg)
   have Hif:=uQ hif
   have Hg:=uQ hg
   have hroom:=Ok.out.room
   have hus:=Hus.out
   have hbl:=Hbl.out
   clear hg hwh hif
   go_wp2_with fail
   refine hfd.mono ?_
   rintro ee w1 ⟨v,rfl,rfl,rfl⟩
   clear hfd e7
   go_wp2_with fail
   have f0:World.cell? (World.drew _) ⟨bB,0,none⟩=some (.bool false):=hB.drew.cellP pick0 0 rfl
   go_region
   clear f0
   have hBd:=hB.drew.drew
   clear hB hR
   have hBd2:=hBd.sub (sub_take pick1 (sub_take pick0 sub_refl))
   have huc:=rused_c Hl.out Hus.out Ok.out.nowOk.ids hBd2
   obtain ⟨fsv,fv,nv,wv,xs,g,hin,hR⟩:=DskRep.open hBd2
   clear hBd2
   go_wp2_with fail
   refine wpL_begin [14,15] (fun w'=>w'.cell? ⟨bB,0,none⟩=some (.bool false)∧w'.cell? ⟨bB,2,none⟩=some (.slice ba b.length bc)∧w'.cell? ⟨d,0,none⟩=some (.int .i64 D.room)) kQ ?_
   have hG:World.cell? _ ⟨bB,0,none⟩=some (.bool false)∧World.cell? _ ⟨bB,2,none⟩=some (.slice ba b.length bc)∧World.cell? _ ⟨d,0,none⟩=some (.int .i64 D.room):=⟨hBd.cellP pick0 0 rfl,hBd.cellP pick0 2 rfl,hR.cellP pick0 0 rfl⟩
   refine rP 0 ?_ (y:=flQ)
   refine rt 1 (h:=?_)
   refine rP 2 ?_ (y:=(yl_un evD rnD))
   refine rP 3 ?_ (y:=mvQ)
   refine rP 4 ?_ (y:=(yg_field rQ evD rnD))
   refine rg_take 5 evD kQ iQ (tg_load rQ evD kQ (by intro wq hq;first|exact hq|exact hq.1|exact hq.2|exact hq.2.1|exact hq.2.2|exact hq.2.2.1|exact hq.2.2.2|exact hq.2.2.2.1|exact hq.2.2.2.2)) aQ gQ ?_
   refine rP 6 ?_ (y:=(yg_len rQ evD rnD))
   refine rP 7 ?_ (y:=(yg_move rQ evD))
   refine rP 8 ?_ (y:=(yg_nil rQ evD))
   refine rP 9 ?_ (y:=(yg_field rQ evD rnD))
   refine rg_take 10 evD kQ iQ (tg_load rQ evD kQ (by intro wq hq;first|exact hq|exact hq.1|exact hq.2|exact hq.2.1|exact hq.2.2|exact hq.2.2.1|exact hq.2.2.2|exact hq.2.2.2.1|exact hq.2.2.2.2)) aQ gQ ?_
   refine rP 11 ?_ (y:=(yg_move rQ evD))
   refine rg_eff 12 evD kQ (fun K hK=>?_)
   refine eg_call [ptr d] rQ kQ rQ ?_
   refine huc.mono ?_
   clear huc hR hG hin fsv fv nv wv xs g
   rintro e w4 ⟨v,rfl,rfl,hS⟩
   obtain ⟨fsv,fv,nv,wv,xs,g,hin,hR⟩:=DskRep.open hS
   have Hin2:=uQ hin
   have hst:=rstep_c hR Ok.out.left
   have hw3:IntKind.i64.wrap ((D.room:Int) - (D.used:Int))=(D.room:Int) - (D.used:Int):=IntWalk.i64_in _ oQ
   refine hK _ _ (.inr (.inl ⟨hS.cellP pick1 0 rfl,hS.cellP pick1 2 rfl,hR.cellP pick0 0 rfl⟩)) ?_
   clear hK hin hBd
   by_cases hful:(D.room:Int) - D.used<b.length
   ·have Ha:=uQ (show D.append s b=(D,11) by unfold Med.append;rw [if_neg Ho.out,Hg.out];simp only [];rw [if_pos hful])
    clear hst
    refine rP 13 ?_ (y:=(yg_bin rQ evD evD rnD))
    refine rP 14 ?_ (y:=(yg_bin rQ evD evD rnD))
    refine rP 15 ?_ (y:=(yg_pick rQ evD evD))
    refine wdQ ?_
    try simp only [ayQ]
    try go_frame
    go_wp2
    go_ret
    exact ⟨_,rfl,by rw [Ha.out];rfl,by rw [Ha.out];exact hS.sub (sub_take pick0 (sub_drop sub_refl))⟩
   ·have hstep:∀ X:Med×Int,(if D.step.2=false then (D.step.1,12) else (D.step.1.setFile i ((D.file i).do ⟨false,0,b⟩),0))=X→D.append s b=X:=by
     rintro X rfl
     unfold Med.append
     rw [if_neg Ho.out,Hg.out]
     simp only []
     rw [if_neg hful]
    have Hstep:=uQ hstep
    clear hstep
    refine rP 13 ?_ (y:=(yg_bin rQ evD evD rnD))
    refine rP 14 ?_ (y:=(yg_bin rQ evD evD rnD))
    refine rP 15 ?_ (y:=(yg_pick rQ evD evD))
    refine wdQ ?_
    try simp only [ayQ]
    try go_frame
    go_wp2_with fail
    refine hst.mono ?_
    clear hst hS hR hw3
    rintro ee w5 ⟨v,rfl,rfl,hS⟩
    rw [← step_waits]at hS
    have Hin3:=uQ Hin2.out.step
    cases ht:D.step.2 with
    |false=>
     have Ha:=uQ (Hstep.out _ (if_pos ht))
     clear ht
     go_wp2
     go_ret
     exact ⟨_,rfl,by rw [Ha.out];rfl,by rw [Ha.out];exact (DskRep.shut Hin3.out hS).sub (sub_take pick0 (sub_drop sub_refl))⟩
    |true=>
     have Ha:=uQ (Hstep.out _ (if_neg (by rw [ht];decide)))
     have hfile:D.file i=D.step.1.file i:=(step_file D i).symm
     rw [hfile]at Ha
     have Hfl:=uQ (show i<D.step.1.files.length by rw [step_files];exact Hif.out)
     have Ok1:=uQ Ok.out.step
     clear ht hfile hful Hstep hus hroom
     generalize D.step.1=D1 at *
     obtain ⟨x,hx,hxf⟩:=Hin3.out.file Hfl.out
     rw [← hxf]at Ha
     have hok:=Hin3.out.ok x (List.mem_of_getElem? hx)
     have hxo:=Ok1.out.file i
     rw [← hxf]at hxo
     have hnl:=Nat.le_trans hxo.now_len (show 16777216≤1099511627776 by decide)
     have hwb:x.ws.length≤1048576:=by rw [← List.length_map (f:=fun p:Chg×Value=>p.1),hok];exact Nat.le_trans hxo.budget HK.out
     have hlx:xs.length=D1.files.length:=by rw [← Hin3.out.files,List.length_map]
     rcases Sat.osl_cases (hS.pick pick1) with ⟨_,hxx,_⟩|⟨fb,fn,fc,cs,rfl,hfn,_⟩
     ·have h1:=congrArg List.length hxx
      have h2:=Hfl.out
      rw [rfsL_len]at h1
      simp only [List.length_nil]at h1
      omega
     rw [rfsL_len]at hfn
     obtain rfl:fn=xs.length:=by omega
     have c2:(i:Int)<(xs.length:Int):=by have:=Hfl.out;omega
     have hq:i * 3+2<(rfsL xs).length:=by have:=Hfl.out;rw [rfsL_len];omega
     have hq1:∀ xs':List RF,xs'.length=xs.length→i * 3+1<(rfsL xs').length:=fun xs' e=>by have:=Hfl.out;rw [rfsL_len,e];omega
     obtain ⟨G,hGx,hO⟩:=rf_out hx (hS.pick pick2)
     obtain ⟨_,_,hw2⟩:=rfsL_at hx
     have e2:=(osl_set (hS.pick pick1) (i * 3+2) (.slice none 0 0)).2.1 _ hw2
     obtain ⟨xf,xfv,xnv,xwv,xws⟩:=x
     dsimp only at hxo hok hwb hO e2 hnl
     obtain ⟨wa,wc,rfl⟩:=chg_sl (Sat.rd (hO.pick pick2))
     have e1:World.cell? _ ⟨d,1,none⟩=some (.slice (some ⟨fb,0,none⟩) xs.length fc):=hO.cellP pick5 1 rfl
     have Hx:=uQ hx;have Hxf:=uQ hxf;have Hok:=uQ hok;have HGx:=uQ hGx;have Hnl:=uQ hnl;have Hxn:=uQ hxo.now_len
     have hlen:(xws.flatMap chgCells).length≤2147483648:=by rw [chg_len];omega
     clear hx hxf hok hGx hw2 hxo hnl hwb hlx hS hfn
     go_wp2_with fail
     have hO2:=hO.drew
     clear hO e1 e2
     refine wpL_begin [16,17,18] (fun w'=>w'.cell? ⟨d,1,none⟩=some (.slice (some ⟨fb,0,none⟩) xs.length fc)∧w'.cell? ⟨bB,0,none⟩=some (.bool false)∧w'.cell? ⟨bB,1,none⟩=some (.int .i64 0)∧w'.cell? ⟨bB,2,none⟩=some (.slice ba b.length bc)) kQ ?_
     have hG:World.cell? _ ⟨d,1,none⟩=some (.slice (some ⟨fb,0,none⟩) xs.length fc)∧World.cell? _ ⟨bB,0,none⟩=some (.bool false)∧World.cell? _ ⟨bB,1,none⟩=some (.int .i64 0)∧World.cell? _ ⟨bB,2,none⟩=some (.slice ba b.length bc):=⟨hO2.cellP pick5 1 rfl,hO2.cellP pick9 0 rfl,hO2.cellP pick9 1 rfl,hO2.cellP pick9 2 rfl⟩
     refine rP 0 ?_ (y:=mvQ)
     refine rP 1 ?_ (y:=nlQ)
     refine rP 2 ?_ (y:=flQ)
     refine rt 3 (h:=?_)
     refine rP 4 ?_ (y:=mvQ)
     refine rP 5 ?_ (y:=mvQ)
     refine rP 6 ?_ (y:=flQ)
     refine rt 7 (h:=?_)
     refine rP 8 ?_ (y:=flQ)
     refine rt 9 (h:=?_)
     refine rP 10 ?_ (y:=flQ)
     refine rt 11 (h:=?_)
     refine rg_eff 12 evD kQ (fun K hK=>?_)
     refine eff_call1 kQ evD ?_
     refine (copy_c hO2 b (Hb.out _ (hO2.sb)) oQ).mono ?_
     rintro e w6 ⟨v,rfl,hS6,a6,n6,c6,rfl⟩
     refine hK _ _ (.inr (.inl ⟨hS6.cellP pick6 1 rfl,hS6.cellP pick10 0 rfl,hS6.cellP pick10 1 rfl,hS6.cellP pick10 2 rfl⟩)) ?_
     clear hK hG hO2
     refine rp 13 (hy:=(by (refine Or.inl ⟨by rfl,?_⟩;((intro wq;go_simp);first|done|exact wQ)))) (h:=?_)
     refine rg_eff 14 evD kQ (fun K hK=>?_)
     refine eff_build1 (e:=155) (sz:=3) (by':=40) kQ hS6 evD (cs:=#[.bool false,.int .i64 0,.slice a6 n6 c6]) rfl rfl bQ ?_
     intro bN w7 hS7
     refine hK _ _ (.inr (.inl ⟨hS7.cellP (pick_there pick6) 1 rfl,hS7.cellP (pick_there pick10) 0 rfl,hS7.cellP (pick_there pick10) 1 rfl,hS7.cellP (pick_there pick10) 2 rfl⟩)) ?_
     clear hK hS6
     refine rg_eff 15 evD kQ (fun K hK=>?_)
     refine eff_app 155 3 40 kQ hS7 evD evD pick4 pick0 rQ (Nat.le_refl 1) rQ hlen (by show 3≤65536;decide) dQ rfl ?_
     intro bA nA cA w8 hS8
     refine hK _ _ (.inr (.inl ⟨hS8.cellP pick6 1 rfl,hS8.cellP pick10 0 rfl,hS8.cellP pick10 1 rfl,hS8.cellP pick10 2 rfl⟩)) ?_
     clear hK hS7
     refine rP 16 ?_ (y:=ixQ)
     refine rP 17 ?_ (y:=flQ)
     refine rg_eff 18 evD kQ (fun K hK=>?_)
     refine eff_storeS (b:=fb) (i * 3+2) hS8 evD evD upD hq kQ rfl rfl ?_
     intro w9 hS9
     refine hK _ _ (.inl rfl) ?_
     refine wdQ ?_
     have ew:xws.flatMap chgCells++#[Value.bool false,Value.int .i64 0,.slice a6 n6 c6].toList=(xws++[((⟨false,0,b⟩:Chg),Value.slice a6 n6 c6)]).flatMap chgCells:=chg_snoc xws (⟨false,0,b⟩,.slice a6 n6 c6)
     rw [ew]at hS9
     have hx2:(rfsL xs).set (i * 3+2) (.slice (some ⟨bA,0,none⟩) nA cA)=rfsL (xs.set i ⟨⟨xf.fast,xf.now,xf.waits++[⟨false,0,b⟩]⟩,xfv,xnv,.slice (some ⟨bA,0,none⟩) nA cA,xws++[(⟨false,0,b⟩,.slice a6 n6 c6)]⟩):=
      (rfsL_wv xs i _ _ Hx.out).trans (rfsL_alike _ _ _ _ _ _ _ xs i)
     rw [hx2]at hS9
     clear hx2 ew hS8 hq
     have hx2:∃ x2:RF,x2=⟨⟨xf.fast,xf.now,xf.waits++[⟨false,0,b⟩]⟩,xfv,xnv,.slice (some ⟨bA,0,none⟩) nA cA,xws++[(⟨false,0,b⟩,.slice a6 n6 c6)]⟩:=⟨_,rfl⟩
     obtain ⟨x2,hx2⟩:=hx2
     have hA1:=chgs_add (p:=((⟨false,0,b⟩:Chg),Value.slice a6 n6 c6)) (hS9.sub (sub_take pick1 (sub_take pick3 sub_refl)))
     have hA2:=rf_in (x:=⟨⟨xf.fast,xf.now,xf.waits++[⟨false,0,b⟩]⟩,xfv,xnv,.slice (some ⟨bA,0,none⟩) nA cA,xws++[(⟨false,0,b⟩,.slice a6 n6 c6)]⟩) HGx.out (hA1.sub (sub_take pick2 (sub_take pick2 (sub_take pick1 (sub_take pick0 sub_refl)))))
     rw [← hx2]at hA2
     have hok2:x2.ws.map (·.1)=x2.f.waits:=by rw [hx2];simp [Hok.out]
     have hin4:=Hin3.out.set (i:=i) (x':=x2) hok2
     have e4:(D1.setFile i x2.f).file i=x2.f:=by rw [file_set Hfl.out,if_pos rfl]
     have e5:x2.f.now=xf.now:=by rw [hx2]
     have hh:=rhere_c (D:=D1.setFile i x2.f) i (by unfold Med.setFile;rw [List.length_set];exact Hfl.out) hin4 (by rw [e4,e5];exact Hnl.out) (hA2.sub (sub_take pick1 (sub_take pick1 (sub_take pick0 sub_refl))))
     rw [e4,e5]at hh
     have Hx2:=uQ hx2;have Hok2:=uQ hok2
     have hx2i:(xs.set i x2)[i]?=some x2:=by rw [List.getElem?_set_self (by rw [← List.length_map (f:=fun r:RF=>r.f),Hin3.out.files];exact Hfl.out)]
     have Hx2i:=uQ hx2i
     clear hx2 hok2 hin4 e4 e5 hS9 hA1 hA2 hx2i
     clear hK
     go_wp2_with fail
     refine hh.mono ?_
     clear hh
     rintro ee w10 ⟨v,rfl,hS10,a7,n7,c7,rfl⟩
     go_wp2_with (first
      |((with_reducible refine at_load ⟨?_⟩);refine ldQ ?_)
      |((with_reducible refine at_append ⟨?_⟩);refine wl_appB hS10 evD evD (Hb.out _ (hS10.sb)) (by have:=Hnl.out;have:=Hxn.out;omega) ?_;intro a8 n8 c8 w11 hS11)
      |((with_reducible refine at_store ⟨?_⟩);refine wl_storeS (b:=fb) (i * 3+1) hS11 rQ evD upD (hq1 _ (List.length_set ..)) kQ rfl rfl ?_;intro w12 hS12))
     clear hS10 hS11
     go_wp2
     go_ret
     refine ⟨_,rfl,by rw [Ha.out];rfl,?_⟩
     rw [Ha.out]
     have h2i:=Hx2i.out
     have hx2:=Hx2.out
     subst hx2
     rw [rfsL_nv _ i _ _ h2i,List.set_set]at hS12
     obtain ⟨G2,hG2,hO3⟩:=rf_out h2i (hS12.pick pick3)
     have h3:=rf_in (x:=⟨xf.do ⟨false,0,b⟩,xfv,.slice a8 n8 c8,.slice (some ⟨bA,0,none⟩) nA cA,xws++[(⟨false,0,b⟩,.slice a6 n6 c6)]⟩) hG2 (hO3.sub (sub_take pick0 (sub_take pick4 (sub_take pick1 (sub_take pick1 (sub_take pick1 (sub_drop sub_refl)))))))
     rw [List.set_set]at h3
     rw [rfsL_alike _ (xf.do ⟨false,0,b⟩) _ _ _ _ (xws++[(⟨false,0,b⟩,.slice a6 n6 c6)]) xs i]at h3
     refine (DskRep.shut (D:=D1.setFile i (xf.do ⟨false,0,b⟩)) (Hin3.out.set (x':=⟨xf.do ⟨false,0,b⟩,xfv,.slice a8 n8 c8,.slice (some ⟨bA,0,none⟩) nA cA,xws++[(⟨false,0,b⟩,.slice a6 n6 c6)]⟩) Hok2.out) (h3.sub (sub_take pick1 (sub_take pick1 (sub_take pick0 sub_refl))))).sub (sub_take pick0 (sub_drop sub_refl))
end
section
variable {w0 w:World}{F R:List HProp}{d:Nat}{D:Med}{fsv fv nv wv v lv bv:Value}{xs:List RF}{g:Bag}{K:Nat}
end
section
variable {P:Program}{w0 w:World}{L L':List HProp}{b o:Nat}{ops:Array Oper}{a:Act}{Q:Exit→Act→World→Prop}{dst:Option Tmp}{t ty T:TypeId}{pos:String}{after:Array Edge}{x y:Operand}{cs:Array Value}{v:Value}{K:Act→World→Prop}{E:Prop}
theorem eff_alloc (hz:zeroB P ty=some v) (hs:Sat w0 w L) (hcs:v.cells=cs)
  (hK:∀ b w',Sat w0 w' (pt b (.cells cs ty (0,0))::L)→K (a.put dst (.pointer (some ⟨b,0,none⟩))) w') :
  if Region.wanted ⟨dst,.alloc ty,t,pos,after,none⟩ (yielded ops a.tmps)=true then Oper.wp P ⟨dst,.alloc ty,t,pos,after,none⟩ a w K Q else E:=by
 subst hcs
 refine eff_of rfl ?_
 have hS:=hs.alloc (.cells v.cells ty)
 unfold Oper.wp execOp
 have hrun:(Instr.alloc ty true (.tuple #[])).run P w = .ok (.pointer (some ⟨w.heap.size,0,none⟩)) (w.alloc (.cells v.cells ty)):=by
  simp [Instr.alloc,run_zeroB hz w,newVar,newRow,go_sem,Result.andThen]
 simp only [Sem.run_bind,Sem.run_pure,hrun,Result.andThen_ok]
 exact hK _ _ hS
end
theorem zFile:zeroB Tryz.prog 164=some (.agg #[.slice none 0 0,.slice none 0 0,.slice none 0 0]):=by kernel_rfl
section
variable {w0 w:World}{F R:List HProp}{d i:Nat}{D:Med}{fsv fv nv wv v lv bv:Value}{xs:List RF}{x:RF}{g:Bag}{K:Nat}
theorem chgs_ro {ws:List (Chg×Value)}{p:Chg×Value} (hp:p∈ws):Ro w0 (chgs ws::R) (rdsl 1 p.2 (bys p.1.b)):=fun w hw=>by
 obtain ⟨G,hG⟩:=stars_mem _ _ (List.mem_map.2 ⟨p,hp,rfl⟩:bsl p.2 p.1.b∈ws.map fun p=>bsl p.2 p.1.b)
 unfold chgs at hw
 rw [hG]at hw
 exact Sat.rd (Sat.star.1 hw)
theorem file_ro2 (h:x∈xs):Ro w0 (stars (xs.map rfR)::R) (rdsl 3 x.wv (x.ws.flatMap chgCells))∧∀ p∈x.ws,Ro w0 (stars (xs.map rfR)::R) (rdsl 1 p.2 (bys p.1.b)):=by
 obtain ⟨i,hi⟩:=List.getElem?_of_mem h
 refine ⟨fun w hw=>?_,fun p hp w hw=>?_⟩
 ·obtain ⟨G,_,hO⟩:=rf_out hi hw
  exact Sat.rd (hO.pick pick2)
 ·obtain ⟨G,_,hO⟩:=rf_out hi hw
  exact chgs_ro hp _ (hO.pick pick3)
theorem file_pv (h:x∈xs) (hs:Sat w0 w (stars (xs.map rfR)::R)):∀ p∈x.ws,∃ a c,p.2 = .slice a p.1.b.length c∧p.1.b.length≤c:=fun p hp=>by
 obtain ⟨i,hi⟩:=List.getElem?_of_mem h
 obtain ⟨G,_,hO⟩:=rf_out hi hs
 have h1:=hO.pick pick3
 obtain ⟨G2,hG⟩:=stars_mem _ _ (List.mem_map.2 ⟨p,hp,rfl⟩:bsl p.2 p.1.b∈x.ws.map fun p=>bsl p.2 p.1.b)
 unfold chgs at h1
 rw [hG]at h1
 obtain ⟨a,c,e1,e2,_⟩:=bsl_sl (Sat.star.1 h1)
 exact ⟨a,c,e1,e2⟩
theorem bsl_of_rd {a:Option Addr}{n c k:Nat}{l:Bs} (h:rdsl 1 (.slice a n c) (bys l) w) (hk:k≤l.length):rdsl 1 (.slice a k c) (bys (l.take k)) w:=by
 have:=rdsl_min h k
 obtain ⟨_,_,_,he,hl,_⟩:=h
 cases he
 rw [bys_len,Nat.mul_one]at hl
 subst hl
 rw [Nat.min_eq_right hk]at this
 unfold bys
 rw [List.map_take]
 exact this
theorem rf_add {ys:List RF}{B:Bs}{v1 v2:Value} (h:Sat w0 w (bsl v1 B::bsl v2 B::stars (ys.map rfR)::R)):Sat w0 w (stars ((ys++[(⟨⟨B,B,[]⟩,v1,v2,.slice none 0 0,[]⟩:RF)]).map rfR)::R):=by
 rw [List.map_append,stars_append]
 refine Sat.star.2 ?_
 refine Sat.sub (L:=stars ([(⟨⟨B,B,[]⟩,v1,v2,.slice none 0 0,[]⟩:RF)].map rfR)::stars (ys.map rfR)::R) ?_ (sub_take pick1 (sub_take pick0 sub_refl))
 refine Sat.star.2 ?_
 have h1:Sat w0 w (stars ([]:List HProp)::bsl v1 B::bsl v2 B::stars (ys.map rfR)::R):=Sat.emp.2 h
 have h2:Sat w0 w (stars []::stars ([]:List HProp)::bsl v1 B::bsl v2 B::stars (ys.map rfR)::R):=Sat.emp.2 h1
 have h3:Sat w0 w (chgs []::stars []::stars ([]:List HProp)::bsl v1 B::bsl v2 B::stars (ys.map rfR)::R):=Sat.emp.2 h2
 have h4:=Sat.star.2 h3
 have h5:Sat w0 w (osl 155 3 (.slice none 0 0) []::stars [chgs []]::stars ([]:List HProp)::bsl v1 B::bsl v2 B::stars (ys.map rfR)::R):=Sat.osl_nil.2 h4
 have h6:=Sat.star.2 h5
 have h7:=Sat.star.2 (h6.sub (sub_take pick3 (sub_take pick0 sub_refl)))
 have h8:=Sat.star.2 (h7.sub (sub_take pick2 (sub_take pick0 sub_refl)))
 exact h8.sub (sub_take pick0 (sub_take pick0 (sub_take pick0 sub_refl)))
theorem rfs_snoc (ys:List RF) (y:RF):rfsL ys++[y.fv,y.nv,y.wv]=rfsL (ys++[y]):=by unfold rfsL;rw [List.flatMap_append];simp [rfL]
theorem nms_snoc (l:Names) (s:ByteArray) (i:Nat):nmsL l++[.string s,.int .i64 i]=nmsL (l++[(s,i)]):=by rw [nmsL_app];rfl
theorem take_idx {α β:Type} (f:Nat→α→β){l:List α}{i:Nat}{x:α} (h:l[i]?=some x):(l.take (i+1)).mapIdx f=(l.take i).mapIdx f++[f i x]:=by
 obtain ⟨hlt,_⟩:=List.getElem?_eq_some_iff.1 h
 rw [List.take_add_one,h,Option.toList_some,List.mapIdx_concat,List.length_take,Nat.min_eq_left oQ]
section
variable {P:Program}{b o:Nat}{ops:Array Oper}{rest:List Oper}{a:Act}{Q:Exit→Act→World→Prop}{dst:Option Tmp}{t ty:Nat}{pos:String}{after:Array Edge}{y:Operand}
theorem wl_loadC (hx:a.eval y = .pointer (some ⟨b,o,none⟩)) (h1:oneB P ty=true) (hc:w.cell? ⟨b,o,none⟩=some v)
  (h:wpList P ops Q rest (a.put dst v) w):wpList P ops Q (⟨dst,.load ty y,t,pos,after,none⟩::rest) a w:=
 wpList_plain rfl fun _ hK=>by
  unfold Oper.wp execOp
  simp only [hx,Instr.loadAt,Instr.sureAddr,Sem.run_bind,Sem.run_pure,Result.andThen_ok,run_load1 h1 hc]
  exact hK _ _ h
end
set_option maxRecDepth 20000 in
theorem rcrash_c (l:List Int) (hl:Ro w0 F (rdsl 1 lv (ints l))) (ok:D.Ok K) (hK:K≤1048576) (h:Sat w0 w (DskRep d D::F)) :
  Calls Tryz.prog 30 #[ptr d,lv] w (Rtn fun _ w'=>Sat w0 w' (DskRep d (D.rcrash l)::F)):=by
 have Ok:=uQ ok;have HL:=uQ hl;have HK:=uQ hK
 obtain ⟨la,ln,lc,rfl,hln,_⟩:=id (hl _ h.drop)
 have hil:(ints l).length=l.length:=List.length_map ..
 rw [hil,Nat.mul_one]at hln
 subst hln
 obtain ⟨fsv,fv,nv,wv,xs,g,hin,hR⟩:=DskRep.open h
 obtain ⟨fa,fn,fc,rfl,hfn,_⟩:=Sat.rd (hR.pick pick1)
 rw [rfsL_len]at hfn
 obtain rfl:fn=xs.length:=by omega
 clear hfn
 obtain ⟨wa,wn,wc,rfl,hwn,_⟩:=Sat.rd (hR.pick pick4)
 rw [rlks_len]at hwn
 obtain rfl:wn=D.waits.length:=by omega
 have hnu:=rnum_c l la l.length lc 0 D.waits.length (hl _ h.drop)
 have hcl:=clampN_le (num l 0) D.waits.length
 have hcr:D.rcrash l={ D with fast:=(D.lastNames (clampN (num l 0) D.waits.length)).mapIdx fun i p=>(p.1,i),now:=(D.lastNames (clampN (num l 0) D.waits.length)).mapIdx fun i p=>(p.1,i),waits:=[],files:=(D.lastNames (clampN (num l 0) D.waits.length)).mapIdx (D.rfile l),off:=false,armed:=false,left:=0 }:=rfl
 have hns:=rnamesn_c (clampN (num l 0) D.waits.length) hcl (Nat.le_trans ok.budget hK) (fun k hk=>Nat.le_trans (ok.names k (Nat.le_trans hk hcl)).len dQ) hin.fast (hR.sub (sub_take pick0 (sub_take pick3 (sub_take pick2 sub_refl))))
 have hnk:=ok.names _ hcl
 have e4:w.cell? ⟨d,4,none⟩=some (.slice wa D.waits.length wc):=hR.cellP pick0 4 rfl
 generalize clampN (num l 0) D.waits.length=k0 at *
 generalize D.lastNames k0=ns at *
 have Hin:=uQ hin;have Hcr:=uQ hcr;have Hnk:=uQ hnk
 clear ok hl hK h hin hR hwn hil hcl hcr hnk
 go_enter Tryz.func30,Tryz.ntmps30
 go_wp2_with fail
 refine hnu.mono ?_
 rintro ee w1 ⟨v,rfl,rfl,rfl⟩
 clear hnu
 go_wp2_with fail
 refine hns.mono ?_
 clear hns e4
 rintro ee w2 ⟨v,rfl,ov,g2,rfl,hon,hsub,hS⟩
 obtain ⟨na,nc,rfl⟩:=nms_sl (bag_ro (w0:=w0) hon w2 (hS.pick pick2))
 have Hon:=uQ hon
 clear hon hsub
 go_wp2_with fail
 go_loopg [5,6,7] ns.length (fun g' fq nq iq wr=>∃ (i:Nat) (ys:List RF),g'=ns.length - i∧i≤ns.length∧iq = .int .i64 i∧ys.map (·.f)=(ns.take i).mapIdx (D.rfile l)∧(∀ y∈ys,y.ws.map (·.1)=y.f.waits) ∧
  Sat w0 wr (osl 164 3 fq (rfsL ys)::stars (ys.map rfR)::osl 175 2 nq (nmsL ((ns.take i).mapIdx fun i p=>(p.1,i)))::dskPt d D (.slice fa xs.length fc) fv nv (.slice wa D.waits.length wc)::bagR g2::osl 164 3 (.slice fa xs.length fc) (rfsL xs)::stars (xs.map rfR)::F))
 case atStart=>exact ⟨0,[],rfl,Nat.zero_le _,rfl,rfl,by simp,Sat.osl_nil.2 (Sat.emp.2 (Sat.osl_nil.2 (hS.sub (sub_take pick0 (sub_take pick1 (sub_drop sub_refl))))))⟩
 case round=>
  obtain ⟨i,ys,rfl,hi,rfl,hys,hyo,hS⟩:=hrel
  by_cases hlt:i<ns.length
  ·have hn500:=Hnk.out.len
   have c1:(i:Int)<(ns.length:Int):=oQ
   have hwi:=iwQ (i:=i)
   have hwa:IntKind.i64.wrap (2 * (i:Int))=2 * (i:Int):=IntWalk.i64_in _ oQ
   have hwb:IntKind.i64.wrap (2 * (i:Int)+1)=2 * (i:Int)+1:=IntWalk.i64_in _ oQ
   have hwc:IntKind.i64.wrap (2 * (i:Int)+2)=2 * (i:Int)+2:=IntWalk.i64_in _ oQ
   obtain ⟨p,hp⟩:∃ p,ns[i]?=some p:=⟨_,List.getElem?_eq_getElem hlt⟩
   have hS2:=hS.drew
   have hpf:=Hnk.out.ids p (List.mem_of_getElem? hp)
   obtain ⟨x,hx,hxf⟩:=Hin.out.file hpf
   have hok:=Hin.out.ok x (List.mem_of_getElem? hx)
   have okf:=Ok.out.file p.2
   rw [← hxf]at okf
   have hrf:D.rfile l i p=x.f.crash (num l (2 * i+1)) (num l (2 * i+2)):=by unfold Med.rfile;rw [hxf]
   have Hlx:=uQ (show xs.length=D.files.length by rw [← Hin.out.files,List.length_map])
   have c2:(p.2:Int)<(xs.length:Int):=by have:=Hlx.out;omega
   obtain ⟨h0,h1,h2⟩:=rfsL_at hx
   obtain ⟨bk2,off2,hfe,hc⟩:=rdsl_cells (Sat.rd (hS2.pick pick5)) h0
   subst hfe
   obtain ⟨bk,off,c,hee,e0,e1⟩:=nms_cells (bag_ro (w0:=w0) Hon.out _ (hS2.pick pick4)) hp
   cases hee
   have HN:Hid (∀ R w',Sat w0 w' (bagR g2::R)→w'.cell? ⟨bk,off+i * 2+1,none⟩=some (.int .i64 p.2)):=fun R w' hw'=>by
    obtain ⟨_,_,_,hee,_,e1⟩:=nms_cells (bag_ro (w0:=w0) Hon.out _ hw') hp
    cases hee;exact e1
   have HN0:Hid (∀ R w',Sat w0 w' (bagR g2::R)→w'.cell? ⟨bk,off+i * 2,none⟩=some (.string p.1)):=fun R w' hw'=>by
    obtain ⟨_,_,_,hee,e0,_⟩:=nms_cells (bag_ro (w0:=w0) Hon.out _ hw') hp
    cases hee;exact e0
   have r1:=(file_ro (w0:=w0) (R:=F) (List.mem_of_getElem? hx)).2
   obtain ⟨r2,r3⟩:=file_ro2 (w0:=w0) (R:=F) (List.mem_of_getElem? hx)
   obtain ⟨xna,xnc,hxn,_⟩:=file_nv (List.mem_of_getElem? hx) (hS2.pick pick6)
   have hpv:=file_pv (List.mem_of_getElem? hx) (hS2.pick pick6)
   obtain ⟨xf,xfv,xnv,xwv,xws⟩:=x
   dsimp only at hxf hok okf hrf h0 h1 h2 r1 r2 r3 hxn hpv
   obtain ⟨xfa,xfn,xfc,rfl,_⟩:=id (r1 _ (hS2.sub (sub_drop (sub_drop (sub_drop (sub_drop (sub_drop (sub_drop sub_refl))))))))
   obtain ⟨xwa,xwc,rfl⟩:=chg_sl (r2 _ (hS2.sub (sub_drop (sub_drop (sub_drop (sub_drop (sub_drop (sub_drop sub_refl))))))))
   subst hxn
   have HF:Hid (∀ R w',Sat w0 w' (osl 164 3 (.slice (some ⟨bk2,off2,none⟩) xs.length fc) (rfsL xs)::R)→w'.rangeAt bk2 (off2+p.2 * 3) [.slice xfa xfn xfc,.slice xna xf.now.length xnc,.slice xwa xws.length xwc]):=fun R w' hw'=>by
    obtain ⟨_,_,hfe,hc⟩:=rdsl_cells (Sat.rd hw') h0
    cases hfe
    intro j v hj
    match j,hj with
    |0,hj=>cases hj;exact hc _ _ h0
    |1,hj=>cases hj;rw [Nat.add_assoc];exact hc _ _ h1
    |2,hj=>cases hj;rw [Nat.add_assoc];exact hc _ _ h2
   have HPV:=uQ hpv;clear hpv
   have Hlt:=uQ hlt;have Hp:=uQ hp;have Hxf:=uQ hxf;have Hok:=uQ hok;have Okf:=uQ okf;have Hrf:=uQ hrf;have R1:=uQ r1;have R2:=uQ r2;have R3:=uQ r3;have Hys:=uQ hys;have Hyo:=uQ hyo
   have hwb2:xws.length≤1048576:=by rw [← List.length_map (f:=fun p:Chg×Value=>p.1),hok];exact Nat.le_trans okf.budget HK.out
   have hyl:ys.length=i:=by rw [← List.length_map (f:=fun r:RF=>r.f),hys,List.length_mapIdx,List.length_take];omega
   have hlen:(rfsL ys).length≤2147483648:=by rw [rfsL_len];omega
   have hlen2:(nmsL ((ns.take i).mapIdx fun i p=>(p.1,i))).length≤2147483648:=by rw [nmsL_len,List.length_mapIdx,List.length_take];omega
   clear hS hlt hp hx hxf hok okf hrf h0 h1 h2 hc r1 r2 r3 hys hyo hpf e0 e1 hyl
   go_wp2_with fail
   refine wpL_begin [12] (fun w'=>w'.cell? ⟨d,1,none⟩=some (.slice (some ⟨bk2,off2,none⟩) xs.length fc)∧w'.cell? ⟨bk,off+i * 2+1,none⟩=some (.int .i64 p.2)∧w'.rangeAt bk2 (off2+p.2 * 3) [.slice xfa xfn xfc,.slice xna xf.now.length xnc,.slice xwa xws.length xwc]) kQ ?_
   have hG:World.cell? _ ⟨d,1,none⟩=some (.slice (some ⟨bk2,off2,none⟩) xs.length fc)∧World.cell? _ ⟨bk,off+i * 2+1,none⟩=some (.int .i64 p.2)∧World.rangeAt _ bk2 (off2+p.2 * 3) [.slice xfa xfn xfc,.slice xna xf.now.length xnc,.slice xwa xws.length xwc]:=⟨hS2.cellP pick3 1 rfl,HN.out _ _ (hS2.pick pick4),HF.out _ _ (hS2.pick pick5)⟩
   refine rP 0 ?_ (y:=mvQ)
   refine rP 1 ?_ (y:=nlQ)
   refine rP 2 ?_ (y:=flQ)
   refine rt 3 (h:=?_)
   refine rP 4 ?_ (y:=mvQ)
   refine rP 5 ?_ (y:=mvQ)
   refine rP 6 ?_ (y:=ixQ)
   refine rP 7 ?_ (y:=flQ)
   refine rt 8 (h:=?_)
   refine rP 9 ?_ (y:=ixQ)
   refine rg_take 10 evD kQ iQ (tg_loadN (P:=Tryz.prog) [.slice xfa xfn xfc,.slice xna xf.now.length xnc,.slice xwa xws.length xwc] rQ evD Tryz.underlying164 rfl kQ (fun w hw=>hw.2.2)) aQ gQ ?_
   refine rg_eff 11 evD kQ (fun K hK=>?_)
   refine eff_alloc zFile hS2 rfl ?_
   intro bX w3 hS3
   refine hK _ _ (.inr (.inl ⟨hS3.cellP pick4 1 rfl,HN.out _ _ (hS3.pick pick5),HF.out _ _ (hS3.pick pick6)⟩)) ?_
   clear hK hG hS2
   refine rg_eff 12 evD kQ (fun K hK=>?_)
   refine eff_store hS3 evD evD pQ upD bQ kQ rQ ?_
   intro w4 hS4
   refine hK _ _ (.inl rfl) ?_
   refine wdQ ?_
   clear hK hS3
   have hnu:=rnum_c l la l.length lc (2 * i+1) xws.length (HL.out _ (hS4.sb))
   rw [show ((2 * i+1:Nat):Int)=2 * (i:Int)+1 by omega]at hnu
   have hnx:=clampN_le (num l (2 * i+1)) xws.length
   have hlw:xws.length=xf.waits.length:=by rw [← Hok.out,List.length_map]
   have hleft:∀ X:Bs,(match xf.waits[clampN (num l (2 * i+1)) xws.length]? with|some c=>if c.cut then xf.at (clampN (num l (2 * i+1)) xws.length) else xf.at (clampN (num l (2 * i+1)) xws.length)++c.b.take (clampN (num l (2 * i+2)) c.b.length)|none=>xf.at (clampN (num l (2 * i+1)) xws.length))=X→D.rfile l i p=⟨X,X,[]⟩:=by
    rintro X rfl
    rw [Hrf.out]
    unfold Fil.crash Fil.left
    rw [← hlw]
    rfl
   have HBlen:Hid (∀ X:Bs,D.rfile l i p=⟨X,X,[]⟩→X.length≤16777216):=fun X hX=>by
    have h1:=Fil.left_len Okf.out (num l (2 * i+1)) (num l (2 * i+2))
    rw [Hrf.out]at hX
    unfold Fil.crash at hX
    injection hX with h2 h3 h4
    rw [← h2];exact h1
   have Hleft:=uQ hleft
   generalize clampN (num l (2 * i+1)) xws.length=n at *
   have hby:=rbytes_c (fv:= .slice xfa xfn xfc) (nv:= .slice xna xf.now.length xnc) (wv:= .slice xwa xws.length xwc) xf Okf.out xws Hok.out n oQ oQ (Ro.of_sub R1.out (sub_drop (sub_drop (sub_drop (sub_drop (sub_drop (sub_drop (sub_drop sub_refl)))))))) (Ro.of_sub R2.out (sub_drop (sub_drop (sub_drop (sub_drop (sub_drop (sub_drop (sub_drop sub_refl)))))))) (fun q hq=>Ro.of_sub (R3.out q hq) (sub_drop (sub_drop (sub_drop (sub_drop (sub_drop (sub_drop (sub_drop sub_refl)))))))) hS4
   have Hnx:=uQ hnx;have Hlw:=uQ hlw
   clear hleft hnx hlw
   try simp only [ayQ]
   try go_frame
   go_wp2_with ((with_reducible refine at_load ⟨?_⟩);refine ldQ ?_)
   refine hnu.mono ?_
   rintro ee w5 ⟨v,rfl,rfl,rfl⟩
   clear hnu
   go_wp2_with (first
    |((with_reducible refine at_load ⟨?_⟩);refine wl_loadA (b:=bX) hS4 rQ pick0 Tryz.underlying164 rfl kQ ?_)
    |((with_reducible refine at_load ⟨?_⟩);refine ldQ ?_))
   refine hby.mono ?_
   clear hby hS4
   rintro ee w5 ⟨v,rfl,hS5,b5,n5,c5,rfl⟩
   by_cases hnl:n<xws.length
   ·obtain ⟨q,hq⟩:∃ q,xws[n]?=some q:=⟨_,List.getElem?_eq_getElem hnl⟩
    have hqw:xf.waits[n]?=some q.1:=by rw [← Hok.out,List.getElem?_map,hq];rfl
    have c3:(n:Int)<(xws.length:Int):=oQ
    obtain ⟨wbk,woff,wc2,hwe,q0,_,_⟩:=rchg_cells (R2.out _ (hS5.sub (sub_drop (sub_drop (sub_drop (sub_drop (sub_drop (sub_drop (sub_drop (sub_drop sub_refl)))))))))) hq
    cases hwe
    have HQ:Hid (∀ w',Sat w0 w' (stars (xs.map rfR)::F)→w'.cell? ⟨wbk,woff+n * 3+2,none⟩=some q.2):=fun w' hw'=>by
     obtain ⟨_,_,_,hee,_,_,q2⟩:=rchg_cells (R2.out _ hw') hq
     cases hee;exact q2
    have Hq:=uQ hq;have Hqw:=uQ hqw
    clear hq hqw
    obtain ⟨⟨cut,cn,cb⟩,pv⟩:=q
    dsimp only at q0 HQ Hqw
    have f2:World.cell? _ ⟨bX,2,none⟩=some (.slice (some ⟨wbk,woff,none⟩) xws.length xwc):=hS5.cellP pick1 2 rfl
    cases cut with
    |true=>
     have HB:=uQ (Hleft.out (xf.at n) (by rw [Hqw.out];rfl))
     go_wp2_with ((with_reducible refine at_load ⟨?_⟩);refine ldQ ?_)
     clear q0 HQ c3 hnl f2
     go_wp2_with fail
     refine (copy_c hS5 (xf.at n) hS5.rd (Nat.le_trans (HBlen.out (xf.at n) HB.out) dQ)).mono ?_
     rintro ee w6 ⟨v,rfl,hS6,a6,n6,c6,rfl⟩
     clear hS5
     go_wp2_with (first
      |((with_reducible refine at_build1 ⟨?_⟩);refine wl_build1 (e:=164) (sz:=3) (by':=72) kQ hS6 rQ (cs:=#[.slice b5 n5 c5,.slice a6 n6 c6,.slice none 0 0]) rfl rfl bQ ?_;intro bN wN hN)
      |((with_reducible refine at_append ⟨?_⟩);refine wl_app 164 3 72 kQ hN rQ rQ pick4 pick0 rQ (Nat.le_refl 1) rQ hlen (by show 3≤65536;decide) dQ rfl ?_;intro bA nA cA wA hA)
      |((with_reducible refine at_load ⟨?_⟩);refine wl_loadC rQ kQ (HN0.out _ _ (hA.pick (pick_there pick6))) ?_)
      |((with_reducible refine at_build1 ⟨?_⟩);refine wl_build1 (e:=175) (sz:=2) (by':=24) kQ hA rQ (cs:=#[.string p.1,.int .i64 i]) rfl rfl bQ ?_;intro bM wM hM)
      |((with_reducible refine at_append ⟨?_⟩);refine wl_app 175 2 24 kQ hM rQ rQ pick6 pick0 rQ (Nat.le_refl 1) rQ hlen2 (by show 2≤65536;decide) dQ rfl ?_;intro bC nC cC wC hC))
     go_roundg (ns.length - (i+1))
     case measure=>have:=Hlt.out;omega
     case rel=>
      refine ⟨i+1,ys++[⟨⟨(xf.at n),(xf.at n),[]⟩,.slice b5 n5 c5,.slice a6 n6 c6,.slice none 0 0,[]⟩],rfl,Nat.succ_le_of_lt Hlt.out,by first|rfl|go_num,?_,?_,?_⟩
      ·rw [List.map_append,Hys.out,take_idx _ Hp.out,HB.out];rfl
      ·intro y hy
       rcases List.mem_append.1 hy with hy|hy
       ·exact Hyo.out y hy
       ·rw [List.mem_singleton.1 hy];rfl
      ·rw [take_idx _ Hp.out,← nms_snoc,← rfs_snoc]
       have h7:=rf_add (hC.sub (sub_take pick3 (sub_take pick2 (sub_take pick3 sub_refl))))
       exact h7.sub (sub_take pick2 (sub_take pick0 (sub_take pick0 (sub_drop (sub_take pick0 (sub_take pick0 (sub_take pick0 (sub_take pick0 sub_refl))))))))
    |false=>
     have HB:=uQ (Hleft.out (xf.at n++cb.take (clampN (num l (2 * i+2)) cb.length)) (by rw [Hqw.out];rfl))
     go_wp2_with ((with_reducible refine at_load ⟨?_⟩);refine ldQ ?_)
     obtain ⟨pa,pc,hpe,hpc⟩:=HPV.out _ (List.mem_of_getElem? Hq.out)
     dsimp only at hpe hpc
     subst hpe
     have hkk:=clampN_le (num l (2 * i+2)) cb.length
     have hnu:=fun w' (hw':Sat w0 w' F)=>rnum_c l la l.length lc (2 * i+2) cb.length (HL.out w' hw')
     rw [show ((2 * i+2:Nat):Int)=2 * (i:Int)+2 by omega]at hnu
     generalize clampN (num l (2 * i+2)) cb.length=kk at *
     have hbl:=HBlen.out _ HB.out
     rw [List.length_append]at hbl
     have Hrd:=R3.out _ (List.mem_of_getElem? Hq.out)
     have c4:(kk:Int)≤(pc:Int):=oQ
     dsimp only at Hrd
     have HRD:=uQ Hrd
     have Hbl:=uQ hbl;have Hkk:=uQ hkk
     clear Hrd hbl hkk hpc q0 f2 hnl
     have hS6:=hS5.drew
     refine wpL_begin [19,20,21] (fun w'=>w'.cell? ⟨bX,2,none⟩=some (.slice (some ⟨wbk,woff,none⟩) xws.length xwc)∧w'.cell? ⟨wbk,woff+n * 3+2,none⟩=some (.slice pa cb.length pc)) kQ ?_
     have hG:World.cell? _ ⟨bX,2,none⟩=some (.slice (some ⟨wbk,woff,none⟩) xws.length xwc)∧World.cell? _ ⟨wbk,woff+n * 3+2,none⟩=some (.slice pa cb.length pc):=⟨hS6.cellP pick1 2 rfl,HQ.out _ (hS6.sub (sub_drop (sub_drop (sub_drop (sub_drop (sub_drop (sub_drop (sub_drop (sub_drop sub_refl)))))))))⟩
     refine rP 0 ?_ (y:=mvQ)
     refine rP 1 ?_ (y:=flQ)
     refine rt 2 (h:=?_)
     refine rP 3 ?_ (y:=mvQ)
     refine rP 4 ?_ (y:=ixQ)
     refine rP 5 ?_ (y:=flQ)
     refine rt 6 (h:=?_)
     refine rP 7 ?_ (y:=mvQ)
     refine rP 8 ?_ (y:=mvQ)
     refine rP 9 ?_ (y:=bnQ)
     refine rP 10 ?_ (y:=bnQ)
     refine rP 11 ?_ (y:=flQ)
     refine rt 12 (h:=?_)
     refine rP 13 ?_ (y:=mvQ)
     refine rP 14 ?_ (y:=ixQ)
     refine rP 15 ?_ (y:=flQ)
     refine rt 16 (h:=?_)
     refine rP 17 ?_ (y:=(yl_len evD rnD))
     refine rg_eff 18 evD kQ (fun K hK=>?_)
     refine eff_call3 kQ evD evD evD ?_
     refine (hnu _ (hS6.sb)).mono ?_
     rintro ee w7 ⟨v,rfl,rfl,rfl⟩
     refine hK _ _ (.inr (.inr rfl)) ?_
     clear hK hnu
     refine rp 19 (hy:=(by (refine Or.inl ⟨by rfl,?_⟩;((intro wq;go_simp);first|done|exact wQ)))) (h:=?_)
     refine rg_eff 20 evD kQ (fun K hK=>?_)
     refine eff_appB hS6 evD evD (bsl_of_rd (HRD.out _ (hS6.sub (sub_drop (sub_drop (sub_drop (sub_drop (sub_drop (sub_drop (sub_drop (sub_drop sub_refl)))))))))) Hkk.out) (by have:=Hbl.out;omega) ?_
     intro b9 n9 c9 w9 hS9
     generalize xf.at n++cb.take kk=BB at hS9 HB
     refine hK _ _ (.inl rfl) ?_
     refine rP 21 ?_ (y:=asQ)
     refine wdQ ?_
     clear hS5 hS6 hG hK c3 c4 HQ
     have hS5:=hS9
     clear hS9
     try simp only [ayQ]
     try go_frame
     go_wp2_with fail
     refine (copy_c hS5 BB hS5.rd (Nat.le_trans (HBlen.out BB HB.out) dQ)).mono ?_
     rintro ee w6 ⟨v,rfl,hS6,a6,n6,c6,rfl⟩
     clear hS5
     go_wp2_with (first
      |((with_reducible refine at_build1 ⟨?_⟩);refine wl_build1 (e:=164) (sz:=3) (by':=72) kQ hS6 rQ (cs:=#[.slice b9 n9 c9,.slice a6 n6 c6,.slice none 0 0]) rfl rfl bQ ?_;intro bN wN hN)
      |((with_reducible refine at_append ⟨?_⟩);refine wl_app 164 3 72 kQ hN rQ rQ pick4 pick0 rQ (Nat.le_refl 1) rQ hlen (by show 3≤65536;decide) dQ rfl ?_;intro bA nA cA wA hA)
      |((with_reducible refine at_load ⟨?_⟩);refine wl_loadC rQ kQ (HN0.out _ _ (hA.pick (pick_there pick6))) ?_)
      |((with_reducible refine at_build1 ⟨?_⟩);refine wl_build1 (e:=175) (sz:=2) (by':=24) kQ hA rQ (cs:=#[.string p.1,.int .i64 i]) rfl rfl bQ ?_;intro bM wM hM)
      |((with_reducible refine at_append ⟨?_⟩);refine wl_app 175 2 24 kQ hM rQ rQ pick6 pick0 rQ (Nat.le_refl 1) rQ hlen2 (by show 2≤65536;decide) dQ rfl ?_;intro bC nC cC wC hC))
     go_roundg (ns.length - (i+1))
     case measure=>have:=Hlt.out;omega
     case rel=>
      refine ⟨i+1,ys++[⟨⟨BB,BB,[]⟩,.slice b9 n9 c9,.slice a6 n6 c6,.slice none 0 0,[]⟩],rfl,Nat.succ_le_of_lt Hlt.out,by first|rfl|go_num,?_,?_,?_⟩
      ·rw [List.map_append,Hys.out,take_idx _ Hp.out,HB.out];rfl
      ·intro y hy
       rcases List.mem_append.1 hy with hy|hy
       ·exact Hyo.out y hy
       ·rw [List.mem_singleton.1 hy];rfl
      ·rw [take_idx _ Hp.out,← nms_snoc,← rfs_snoc]
       have h7:=rf_add (hC.sub (sub_take pick3 (sub_take pick2 (sub_take pick3 sub_refl))))
       exact h7.sub (sub_take pick2 (sub_take pick0 (sub_take pick0 (sub_drop (sub_take pick0 (sub_take pick0 (sub_take pick0 (sub_take pick0 sub_refl))))))))
   ·have HB:=uQ (Hleft.out (xf.at n) (by rw [List.getElem?_eq_none (by have:=Hlw.out;omega)]))
    have c3:¬ (n:Int)<(xws.length:Int):=oQ
    have f2:World.cell? _ ⟨bX,2,none⟩=some (.slice xwa xws.length xwc):=hS5.cellP pick1 2 rfl
    go_wp2_with ((with_reducible refine at_load ⟨?_⟩);refine ldQ ?_)
    clear f2
    clear c3 hnl
    go_wp2_with fail
    refine (copy_c hS5 (xf.at n) hS5.rd (Nat.le_trans (HBlen.out (xf.at n) HB.out) dQ)).mono ?_
    rintro ee w6 ⟨v,rfl,hS6,a6,n6,c6,rfl⟩
    clear hS5
    go_wp2_with (first
     |((with_reducible refine at_build1 ⟨?_⟩);refine wl_build1 (e:=164) (sz:=3) (by':=72) kQ hS6 rQ (cs:=#[.slice b5 n5 c5,.slice a6 n6 c6,.slice none 0 0]) rfl rfl bQ ?_;intro bN wN hN)
     |((with_reducible refine at_append ⟨?_⟩);refine wl_app 164 3 72 kQ hN rQ rQ pick4 pick0 rQ (Nat.le_refl 1) rQ hlen (by show 3≤65536;decide) dQ rfl ?_;intro bA nA cA wA hA)
     |((with_reducible refine at_load ⟨?_⟩);refine wl_loadC rQ kQ (HN0.out _ _ (hA.pick (pick_there pick6))) ?_)
     |((with_reducible refine at_build1 ⟨?_⟩);refine wl_build1 (e:=175) (sz:=2) (by':=24) kQ hA rQ (cs:=#[.string p.1,.int .i64 i]) rfl rfl bQ ?_;intro bM wM hM)
     |((with_reducible refine at_append ⟨?_⟩);refine wl_app 175 2 24 kQ hM rQ rQ pick6 pick0 rQ (Nat.le_refl 1) rQ hlen2 (by show 2≤65536;decide) dQ rfl ?_;intro bC nC cC wC hC))
    go_roundg (ns.length - (i+1))
    case measure=>have:=Hlt.out;omega
    case rel=>
     refine ⟨i+1,ys++[⟨⟨(xf.at n),(xf.at n),[]⟩,.slice b5 n5 c5,.slice a6 n6 c6,.slice none 0 0,[]⟩],rfl,Nat.succ_le_of_lt Hlt.out,by first|rfl|go_num,?_,?_,?_⟩
     ·rw [List.map_append,Hys.out,take_idx _ Hp.out,HB.out];rfl
     ·intro y hy
      rcases List.mem_append.1 hy with hy|hy
      ·exact Hyo.out y hy
      ·rw [List.mem_singleton.1 hy];rfl
     ·rw [take_idx _ Hp.out,← nms_snoc,← rfs_snoc]
      have h7:=rf_add (hC.sub (sub_take pick3 (sub_take pick2 (sub_take pick3 sub_refl))))
      exact h7.sub (sub_take pick2 (sub_take pick0 (sub_take pick0 (sub_drop (sub_take pick0 (sub_take pick0 (sub_take pick0 (sub_take pick0 sub_refl))))))))
  ·obtain rfl:i=ns.length:=by omega
   have c1:¬ (ns.length:Int)<(ns.length:Int):=oQ
   rw [List.take_length]at hys hS
   obtain ⟨qa,qn,qc,rfl,_⟩:=Sat.rd (hS.pick pick0)
   obtain ⟨ma,mc,rfl⟩:=nms_sl (Sat.rd (hS.pick pick2))
   have Hys:=uQ hys;have Hyo:=uQ hyo
   clear hlt hys hyo
   go_wp2_with ((with_reducible refine at_store ⟨?_⟩);refine stQ ?_;intro wS hS)
   refine bodyPost_ret (results_none rfl _ _ _) rfl ?_
   refine ⟨_,rfl,?_⟩
   rw [Hcr.out]
   have hS1:=hS
   clear hS
   rw [List.length_mapIdx]at hS1
   simp only [List.setIfInBounds_toArray,List.set_cons_zero,List.set_cons_succ]at hS1
   have hS2:Sat w0 _ (osl 164 3 (.slice qa qn qc) (rfsL ys)::stars (ys.map rfR)::osl 175 2 (.slice ma ns.length mc) (nmsL (ns.mapIdx fun i p=>(p.1,i)))::dskPt d { D with fast:=ns.mapIdx fun i p=>(p.1,i),now:=ns.mapIdx fun i p=>(p.1,i),waits:=[],files:=ns.mapIdx (D.rfile l),off:=false,armed:=false,left:=0 } (.slice qa qn qc) (.slice ma ns.length mc) (.slice ma ns.length mc) (.slice none 0 0)::F):=
    hS1.sub (sub_take pick0 (sub_take pick0 (sub_take pick0 (sub_take pick0 (sub_drop (sub_drop (sub_drop sub_refl)))))))
   have h1:Sat w0 _ (osl 243 3 (.slice none 0 0) []::_):=Sat.osl_nil.2 hS2
   have h2:Sat w0 _ (stars []::osl 243 3 (.slice none 0 0) []::_):=Sat.emp.2 h1
   have h3:=bag_add (g:=[]) (h2.sub (sub_take pick4 (sub_take pick0 sub_refl)))
   have h4:=h3.sub (sub_take pick4 (sub_take pick2 (sub_take pick2 (sub_take pick0 (sub_take pick0 sub_refl)))))
   exact DskRep.shut (D:={ D with fast:=ns.mapIdx fun i p=>(p.1,i),now:=ns.mapIdx fun i p=>(p.1,i),waits:=[],files:=ns.mapIdx (D.rfile l),off:=false,armed:=false,left:=0 }) ⟨Hys.out,Hyo.out,.head _,.head _⟩ h4
end
section
variable {w0 w:World}{F R:List HProp}{v bv dv x lv:Value}
theorem ent_setkey (e:Frm.Ent) (dv:Value) (i:Nat) (c:UInt8) (hi:i<e.key.length):putsAt (entA e dv) (1+i) [Value.int .u8 c.toNat]=entA ⟨e.tag,e.key.set i c,e.data⟩ dv:=by
 apply putsAt_eq
 show ((entA e dv).setIfInBounds (1+i) _).toList=_
 rw [Array.toList_setIfInBounds]
 unfold entA entL
 rw [List.toList_toArray,List.toList_toArray,Nat.add_comm 1 i,List.set_cons_succ,List.set_append_left _ _ (by rw [bys_len];exact hi)]
 unfold bys
 rw [List.map_set]
def keyTo (kk:Bs) (i:Nat):Bs:=kk.take i++Frm.zero32.drop i
theorem keyTo_len {kk:Bs} (h:kk.length=32){i:Nat} (hi:i≤32):(keyTo kk i).length=32:=by
 unfold keyTo;rw [List.length_append,List.length_take,List.length_drop,h];show min i 32+(32 - i)=32;omega
theorem keyTo_succ {kk:Bs} (h:kk.length=32){i:Nat} (hi:i<32){c:UInt8} (hc:kk[i]?=some c):(keyTo kk i).set i c=keyTo kk (i+1):=by
 unfold keyTo
 have h1:(kk.take i).length=i:=by rw [List.length_take,h];omega
 rw [List.set_append_right _ _ oQ,h1,Nat.sub_self,List.take_add_one,hc]
 have h2:Frm.zero32.drop i=0::Frm.zero32.drop (i+1):=by
  unfold Frm.zero32
  rw [List.drop_replicate,List.drop_replicate,show 32 - i=(32 - (i+1))+1 by omega,List.replicate_succ]
 rw [h2];simp
theorem keyTo_end {kk:Bs} (h:kk.length=32):keyTo kk 32=kk:=by
 unfold keyTo;rw [List.take_of_length_le oQ,List.drop_of_length_le (by show 32≤32;omega),List.append_nil]
end
section
variable {w0 w:World}{F R:List HProp}{v bv dv x lv:Value}
set_option maxRecDepth 20000 in
theorem rread_short {l:Bs} (h9:l.length<9) (hr:Ro w0 F (rdsl 1 bv (bys l))) (hcap:capOk bv) (hl:l.length≤1099511627776) (h:Sat w0 w F) :
  Calls Tryz.prog 100 #[bv] w (Rtn fun v w'=>∃ da dc,v = .tuple #[.agg (entA (Frm.read l).1 (.slice da (Frm.read l).1.data.length dc)),.int .i64 (Frm.read l).2.1,errno (Frm.read l).2.2]∧Sat w0 w' (bsl (.slice da (Frm.read l).1.data.length dc) (Frm.read l).1.data::F)):=by
 obtain ⟨ba,bn,bc,rfl,hbn,hbc⟩:=hcap
 have hln:bn=l.length:=by
  obtain ⟨_,_,_,he,hl',_⟩:=hr w h
  cases he
  rw [bys_len,Nat.mul_one]at hl';exact hl'.symm
 subst hln
 have Hf:=uQ (show Frm.read l=(Frm.zeroE,0,3) by unfold Frm.read;rw [if_pos h9])
 have c1:(l.length:Int)<9:=oQ
 clear hr h9 hl
 go_enter Tryz.func100,Tryz.ntmps100
 go_wp2_with (first|((with_reducible refine at_allocE ⟨?_⟩);refine wl_allocE aQ ?_;intro bE wE hE)|((with_reducible refine at_buildZ ⟨?_⟩);refine wl_buildZ ?_)|((with_reducible refine at_storeE ⟨?_⟩);first|(refine wl_storeE aQ rQ rQ fQ upD sQ ?_;intro wS hS)|(refine wl_storeE (e:=Frm.zeroE) (da:=none) (dn:=0) (dc:=0) aQ rQ rQ rfl upD sQ ?_;intro wS hS)))
 rw [Hf.out]
 refine ⟨rfl,_,res_entE3 rfl aQ rQ pkD rfl,_,rfl,none,0,rfl,Sat.osl_nil.2 (Sat.sb hS)⟩
set_option maxRecDepth 20000 in
theorem rread_tag (l:Bs) (hr:Ro w0 F (rdsl 1 bv (bys l))) (hcap:capOk bv) (hl:l.length≤1099511627776) (h9:¬ l.length<9) (ht:(l.getD 8 0).toNat>2) (h:Sat w0 w F) :
  Calls Tryz.prog 100 #[bv] w (Rtn fun v w'=>∃ da dc,v = .tuple #[.agg (entA (Frm.read l).1 (.slice da (Frm.read l).1.data.length dc)),.int .i64 (Frm.read l).2.1,errno (Frm.read l).2.2]∧Sat w0 w' (bsl (.slice da (Frm.read l).1.data.length dc) (Frm.read l).1.data::F)):=by
 obtain ⟨ba,bn,bc,rfl,hbn,hbc⟩:=hcap
 have hln:bn=l.length:=by
  obtain ⟨_,_,_,he,hl',_⟩:=hr w h
  cases he
  rw [bys_len,Nat.mul_one]at hl';exact hl'.symm
 subst hln
 obtain ⟨bk,off,rfl,hcell⟩:∃ bk off,ba=some ⟨bk,off,none⟩∧True:=by
  have hx:(bys l)[0]?=some (.int .u8 (l[0]'oQ).toNat):=by
   unfold bys;rw [List.getElem?_map,List.getElem?_eq_getElem oQ];rfl
  obtain ⟨bk,off,hb,_⟩:=rdsl_cells (hr w h) hx
  exact ⟨bk,off,hb,trivial⟩
 clear hcell
 have hrd:=hr w h
 have Hsub:=uQ (show ∀ (i j:Nat),i≤j→j≤l.length→∀ w,Sat w0 w F→rdsl 1 (.slice (some ⟨bk,off+i,none⟩) (j - i) (bc - i)) (bys ((l.take j).drop i)) w from fun i j h1 h2 w hw=>rdsl_sub (hr w hw) i j (bc - i) h1 h2)
 have Hnum:=uQ (show ∀ w,Sat w0 w F→Calls Tryz.prog 145 #[.slice (some ⟨bk,off+4,none⟩) 4 (bc - 4)] w (Rtn fun v w'=>v = .tuple #[.int .u64 (Frm.num ((l.drop 4).take 4):Nat),.bool true]∧w=w') from fun w hw=>rget_c ((l.drop 4).take 4) (by rw [List.length_take,List.length_drop];omega) (by rw [List.length_take];omega) (by
  have:=Hsub.out 4 8 oQ oQ w hw
  rw [List.drop_take]at this
  exact this))
 have Hnum0:=uQ (show ∀ w,Sat w0 w F→Calls Tryz.prog 145 #[.slice (some ⟨bk,off,none⟩) 4 bc] w (Rtn fun v w'=>v = .tuple #[.int .u64 (Frm.num (l.take 4):Nat),.bool true]∧w=w') from fun w hw=>rget_c (l.take 4) (by rw [List.length_take];omega) (by rw [List.length_take];omega) (bsl_of_rd (hr w hw) oQ))
 have Hread:=uQ (show Frm.read l=if Frm.fits (l.getD 8 0) (Frm.num ((l.drop 4).take 4))=false then (Frm.zeroE,0,4)
  else if l.length<Frm.num ((l.drop 4).take 4) then (Frm.zeroE,0,3)
  else if Frm.crc ((l.take (Frm.num ((l.drop 4).take 4))).drop 4)≠Frm.num (l.take 4) then (Frm.zeroE,0,13)
  else if 41≤Frm.num ((l.drop 4).take 4) then (⟨(l.getD 8 0).toNat,(l.drop 9).take 32,(l.take (Frm.num ((l.drop 4).take 4))).drop 41⟩,Frm.num ((l.drop 4).take 4),0)
  else (⟨(l.getD 8 0).toNat,Frm.zero32,[]⟩,Frm.num ((l.drop 4).take 4),0) by unfold Frm.read;rw [if_neg h9])
 have hN:Frm.num ((l.drop 4).take 4)<4294967296:=by
  have:=Frm.num_lt ((l.drop 4).take 4)
  rw [List.length_take,List.length_drop]at this
  have h4:min 4 (l.length - 4)=4:=oQ
  rw [h4]at this
  omega
 generalize hNN:Frm.num ((l.drop 4).take 4)=N at *
 have hc8:∀ w,Sat w0 w F→w.cell? ⟨bk,off+8,none⟩=some (.int .u8 (l.getD 8 0).toNat):=fun w hw=>by
  have hx:(bys l)[8]?=some (.int .u8 (l.getD 8 0).toNat):=by
   unfold bys;rw [List.getElem?_map,List.getD_eq_getElem?_getD,List.getElem?_eq_getElem oQ];rfl
  obtain ⟨bk',off',hb,hc⟩:=rdsl_cells (hr w hw) hx
  cases hb
  exact hc _ _ hx
 have Hc8:=uQ hc8;have Hr:=uQ hr;have Hl:=uQ hl
 have c1:¬ (l.length:Int)<9:=oQ
 have c2:¬ bc=4:=oQ
 have c4:(l.length:Int)≤(bc:Int):=oQ
 have c4b:(8:Int)≤(bc:Int):=oQ
 have c5:(8:Int)<(l.length:Int):=oQ
 have Hbn:=uQ (show l.length≤bc∧bc≤9223372036854775807∧9≤l.length∧N<4294967296 from ⟨hbn,hbc,by omega,hN⟩)
 have hcv:IntKind.i64.wrap (N:Int)=(N:Int):=by rw [IntKind.wrap_i64];omega
 have hcv2:wrap64 (N:Int)=(N:Int):=by rw [← IntWalk.i64_left];exact hcv
 clear hrd hNN hc8 hr hl h9 hbn hbc hN
 generalize l.getD 8 0=tg at *
 have hft:Frm.fits tg N=false:=by
  unfold Frm.fits
  rw [if_neg (fun e=>by rw [e]at ht;simp at ht),if_neg (fun e=>by rw [e]at ht;simp at ht),if_neg (fun e=>by rw [e]at ht;simp at ht)]
 have Hf:=uQ (Hread.out.trans (if_pos hft))
 clear hft Hread
 have d1:(2:Int)<(tg.toNat:Int):=oQ
 clear ht
 have htg:=tg.toNat_lt
 have hct:IntKind.i64.wrap (tg.toNat:Int)=(tg.toNat:Int):=by rw [IntKind.wrap_i64];omega
 have hct2:wrap64 (tg.toNat:Int)=(tg.toNat:Int):=by rw [← IntWalk.i64_left];exact hct
 generalize tg.toNat=tn at *
 go_enter Tryz.func100,Tryz.ntmps100
 go_wp2_with ((with_reducible refine at_allocE ⟨?_⟩);refine wl_allocE aQ ?_;intro bR wR hE)
 refine (Hnum.out _ hE.drop).mono ?_
 rintro ee w2 ⟨v,rfl,rfl,rfl⟩
 have e8:=Hc8.out _ hE.drop
 go_wp2_with (first|((with_reducible refine at_buildZ ⟨?_⟩);refine wl_buildZ ?_)|((with_reducible refine at_storeE ⟨?_⟩);first|(refine wl_storeE aQ rQ rQ fQ upD sQ ?_;intro wS hS)|(refine wl_storeE (e:=Frm.zeroE) (da:=none) (dn:=0) (dc:=0) aQ rQ rQ rfl upD sQ ?_;intro wS hS)))
 rw [Hf.out]
 refine ⟨rfl,_,res_entE3 rfl aQ rQ pkD rfl,_,rfl,none,0,rfl,Sat.osl_nil.2 (Sat.sb hS)⟩
set_option maxRecDepth 20000 in
theorem rread_two (l:Bs) (hr:Ro w0 F (rdsl 1 bv (bys l))) (hcap:capOk bv) (hl:l.length≤1099511627776) (h9:¬ l.length<9) (ht:(l.getD 8 0).toNat=2) (hn:Frm.num ((l.drop 4).take 4)≠9) (h:Sat w0 w F) :
  Calls Tryz.prog 100 #[bv] w (Rtn fun v w'=>∃ da dc,v = .tuple #[.agg (entA (Frm.read l).1 (.slice da (Frm.read l).1.data.length dc)),.int .i64 (Frm.read l).2.1,errno (Frm.read l).2.2]∧Sat w0 w' (bsl (.slice da (Frm.read l).1.data.length dc) (Frm.read l).1.data::F)):=by
 obtain ⟨ba,bn,bc,rfl,hbn,hbc⟩:=hcap
 have hln:bn=l.length:=by
  obtain ⟨_,_,_,he,hl',_⟩:=hr w h
  cases he
  rw [bys_len,Nat.mul_one]at hl';exact hl'.symm
 subst hln
 obtain ⟨bk,off,rfl,hcell⟩:∃ bk off,ba=some ⟨bk,off,none⟩∧True:=by
  have hx:(bys l)[0]?=some (.int .u8 (l[0]'oQ).toNat):=by
   unfold bys;rw [List.getElem?_map,List.getElem?_eq_getElem oQ];rfl
  obtain ⟨bk,off,hb,_⟩:=rdsl_cells (hr w h) hx
  exact ⟨bk,off,hb,trivial⟩
 clear hcell
 have hrd:=hr w h
 have Hsub:=uQ (show ∀ (i j:Nat),i≤j→j≤l.length→∀ w,Sat w0 w F→rdsl 1 (.slice (some ⟨bk,off+i,none⟩) (j - i) (bc - i)) (bys ((l.take j).drop i)) w from fun i j h1 h2 w hw=>rdsl_sub (hr w hw) i j (bc - i) h1 h2)
 have Hnum:=uQ (show ∀ w,Sat w0 w F→Calls Tryz.prog 145 #[.slice (some ⟨bk,off+4,none⟩) 4 (bc - 4)] w (Rtn fun v w'=>v = .tuple #[.int .u64 (Frm.num ((l.drop 4).take 4):Nat),.bool true]∧w=w') from fun w hw=>rget_c ((l.drop 4).take 4) (by rw [List.length_take,List.length_drop];omega) (by rw [List.length_take];omega) (by
  have:=Hsub.out 4 8 oQ oQ w hw
  rw [List.drop_take]at this
  exact this))
 have Hnum0:=uQ (show ∀ w,Sat w0 w F→Calls Tryz.prog 145 #[.slice (some ⟨bk,off,none⟩) 4 bc] w (Rtn fun v w'=>v = .tuple #[.int .u64 (Frm.num (l.take 4):Nat),.bool true]∧w=w') from fun w hw=>rget_c (l.take 4) (by rw [List.length_take];omega) (by rw [List.length_take];omega) (bsl_of_rd (hr w hw) oQ))
 have Hread:=uQ (show Frm.read l=if Frm.fits (l.getD 8 0) (Frm.num ((l.drop 4).take 4))=false then (Frm.zeroE,0,4)
  else if l.length<Frm.num ((l.drop 4).take 4) then (Frm.zeroE,0,3)
  else if Frm.crc ((l.take (Frm.num ((l.drop 4).take 4))).drop 4)≠Frm.num (l.take 4) then (Frm.zeroE,0,13)
  else if 41≤Frm.num ((l.drop 4).take 4) then (⟨(l.getD 8 0).toNat,(l.drop 9).take 32,(l.take (Frm.num ((l.drop 4).take 4))).drop 41⟩,Frm.num ((l.drop 4).take 4),0)
  else (⟨(l.getD 8 0).toNat,Frm.zero32,[]⟩,Frm.num ((l.drop 4).take 4),0) by unfold Frm.read;rw [if_neg h9])
 have hN:Frm.num ((l.drop 4).take 4)<4294967296:=by
  have:=Frm.num_lt ((l.drop 4).take 4)
  rw [List.length_take,List.length_drop]at this
  have h4:min 4 (l.length - 4)=4:=oQ
  rw [h4]at this
  omega
 generalize hNN:Frm.num ((l.drop 4).take 4)=N at *
 have hc8:∀ w,Sat w0 w F→w.cell? ⟨bk,off+8,none⟩=some (.int .u8 (l.getD 8 0).toNat):=fun w hw=>by
  have hx:(bys l)[8]?=some (.int .u8 (l.getD 8 0).toNat):=by
   unfold bys;rw [List.getElem?_map,List.getD_eq_getElem?_getD,List.getElem?_eq_getElem oQ];rfl
  obtain ⟨bk',off',hb,hc⟩:=rdsl_cells (hr w hw) hx
  cases hb
  exact hc _ _ hx
 have Hc8:=uQ hc8;have Hr:=uQ hr;have Hl:=uQ hl
 have c1:¬ (l.length:Int)<9:=oQ
 have c2:¬ bc=4:=oQ
 have c4:(l.length:Int)≤(bc:Int):=oQ
 have c4b:(8:Int)≤(bc:Int):=oQ
 have c5:(8:Int)<(l.length:Int):=oQ
 have Hbn:=uQ (show l.length≤bc∧bc≤9223372036854775807∧9≤l.length∧N<4294967296 from ⟨hbn,hbc,by omega,hN⟩)
 have hcv:IntKind.i64.wrap (N:Int)=(N:Int):=by rw [IntKind.wrap_i64];omega
 have hcv2:wrap64 (N:Int)=(N:Int):=by rw [← IntWalk.i64_left];exact hcv
 clear hrd hNN hc8 hr hl h9 hbn hbc hN
 generalize l.getD 8 0=tg at *
 have hft:Frm.fits tg N=false:=by
  have htu:tg=2:=by apply UInt8.toNat_inj.1;rw [ht];rfl
  subst htu
  unfold Frm.fits
  rw [if_neg dQ,if_neg dQ,if_pos rfl];simp [hn]
 have Hf:=uQ (Hread.out.trans (if_pos hft))
 clear hft Hread
 have d1:((N:Int)==9)=false:=by rw [beq_eq_false_iff_ne];omega
 have d2:(N==9)=false:=by rw [beq_eq_false_iff_ne];exact hn
 have d3:¬ N=9:=hn
 clear hn
 have htg:=tg.toNat_lt
 have hct:IntKind.i64.wrap (tg.toNat:Int)=(tg.toNat:Int):=by rw [IntKind.wrap_i64];omega
 have hct2:wrap64 (tg.toNat:Int)=(tg.toNat:Int):=by rw [← IntWalk.i64_left];exact hct
 have htn:=ht
 clear ht
 generalize tg.toNat=tn at *
 subst htn
 go_enter Tryz.func100,Tryz.ntmps100
 go_wp2_with ((with_reducible refine at_allocE ⟨?_⟩);refine wl_allocE aQ ?_;intro bR wR hE)
 refine (Hnum.out _ hE.drop).mono ?_
 rintro ee w2 ⟨v,rfl,rfl,rfl⟩
 have e8:=Hc8.out _ hE.drop
 go_wp2_with (first|((with_reducible refine at_buildZ ⟨?_⟩);refine wl_buildZ ?_)|((with_reducible refine at_storeE ⟨?_⟩);first|(refine wl_storeE aQ rQ rQ fQ upD sQ ?_;intro wS hS)|(refine wl_storeE (e:=Frm.zeroE) (da:=none) (dn:=0) (dc:=0) aQ rQ rQ rfl upD sQ ?_;intro wS hS)))
 rw [Hf.out]
 refine ⟨rfl,_,res_entE3 rfl aQ rQ pkD rfl,_,rfl,none,0,rfl,Sat.osl_nil.2 (Sat.sb hS)⟩
set_option maxRecDepth 20000 in
theorem rread_one (l:Bs) (hr:Ro w0 F (rdsl 1 bv (bys l))) (hcap:capOk bv) (hl:l.length≤1099511627776) (h9:¬ l.length<9) (ht:(l.getD 8 0).toNat=1) (hn:Frm.num ((l.drop 4).take 4)≠41) (h:Sat w0 w F) :
  Calls Tryz.prog 100 #[bv] w (Rtn fun v w'=>∃ da dc,v = .tuple #[.agg (entA (Frm.read l).1 (.slice da (Frm.read l).1.data.length dc)),.int .i64 (Frm.read l).2.1,errno (Frm.read l).2.2]∧Sat w0 w' (bsl (.slice da (Frm.read l).1.data.length dc) (Frm.read l).1.data::F)):=by
 obtain ⟨ba,bn,bc,rfl,hbn,hbc⟩:=hcap
 have hln:bn=l.length:=by
  obtain ⟨_,_,_,he,hl',_⟩:=hr w h
  cases he
  rw [bys_len,Nat.mul_one]at hl';exact hl'.symm
 subst hln
 obtain ⟨bk,off,rfl,hcell⟩:∃ bk off,ba=some ⟨bk,off,none⟩∧True:=by
  have hx:(bys l)[0]?=some (.int .u8 (l[0]'oQ).toNat):=by
   unfold bys;rw [List.getElem?_map,List.getElem?_eq_getElem oQ];rfl
  obtain ⟨bk,off,hb,_⟩:=rdsl_cells (hr w h) hx
  exact ⟨bk,off,hb,trivial⟩
 clear hcell
 have hrd:=hr w h
 have Hsub:=uQ (show ∀ (i j:Nat),i≤j→j≤l.length→∀ w,Sat w0 w F→rdsl 1 (.slice (some ⟨bk,off+i,none⟩) (j - i) (bc - i)) (bys ((l.take j).drop i)) w from fun i j h1 h2 w hw=>rdsl_sub (hr w hw) i j (bc - i) h1 h2)
 have Hnum:=uQ (show ∀ w,Sat w0 w F→Calls Tryz.prog 145 #[.slice (some ⟨bk,off+4,none⟩) 4 (bc - 4)] w (Rtn fun v w'=>v = .tuple #[.int .u64 (Frm.num ((l.drop 4).take 4):Nat),.bool true]∧w=w') from fun w hw=>rget_c ((l.drop 4).take 4) (by rw [List.length_take,List.length_drop];omega) (by rw [List.length_take];omega) (by
  have:=Hsub.out 4 8 oQ oQ w hw
  rw [List.drop_take]at this
  exact this))
 have Hnum0:=uQ (show ∀ w,Sat w0 w F→Calls Tryz.prog 145 #[.slice (some ⟨bk,off,none⟩) 4 bc] w (Rtn fun v w'=>v = .tuple #[.int .u64 (Frm.num (l.take 4):Nat),.bool true]∧w=w') from fun w hw=>rget_c (l.take 4) (by rw [List.length_take];omega) (by rw [List.length_take];omega) (bsl_of_rd (hr w hw) oQ))
 have Hread:=uQ (show Frm.read l=if Frm.fits (l.getD 8 0) (Frm.num ((l.drop 4).take 4))=false then (Frm.zeroE,0,4)
  else if l.length<Frm.num ((l.drop 4).take 4) then (Frm.zeroE,0,3)
  else if Frm.crc ((l.take (Frm.num ((l.drop 4).take 4))).drop 4)≠Frm.num (l.take 4) then (Frm.zeroE,0,13)
  else if 41≤Frm.num ((l.drop 4).take 4) then (⟨(l.getD 8 0).toNat,(l.drop 9).take 32,(l.take (Frm.num ((l.drop 4).take 4))).drop 41⟩,Frm.num ((l.drop 4).take 4),0)
  else (⟨(l.getD 8 0).toNat,Frm.zero32,[]⟩,Frm.num ((l.drop 4).take 4),0) by unfold Frm.read;rw [if_neg h9])
 have hN:Frm.num ((l.drop 4).take 4)<4294967296:=by
  have:=Frm.num_lt ((l.drop 4).take 4)
  rw [List.length_take,List.length_drop]at this
  have h4:min 4 (l.length - 4)=4:=oQ
  rw [h4]at this
  omega
 generalize hNN:Frm.num ((l.drop 4).take 4)=N at *
 have hc8:∀ w,Sat w0 w F→w.cell? ⟨bk,off+8,none⟩=some (.int .u8 (l.getD 8 0).toNat):=fun w hw=>by
  have hx:(bys l)[8]?=some (.int .u8 (l.getD 8 0).toNat):=by
   unfold bys;rw [List.getElem?_map,List.getD_eq_getElem?_getD,List.getElem?_eq_getElem oQ];rfl
  obtain ⟨bk',off',hb,hc⟩:=rdsl_cells (hr w hw) hx
  cases hb
  exact hc _ _ hx
 have Hc8:=uQ hc8;have Hr:=uQ hr;have Hl:=uQ hl
 have c1:¬ (l.length:Int)<9:=oQ
 have c2:¬ bc=4:=oQ
 have c4:(l.length:Int)≤(bc:Int):=oQ
 have c4b:(8:Int)≤(bc:Int):=oQ
 have c5:(8:Int)<(l.length:Int):=oQ
 have Hbn:=uQ (show l.length≤bc∧bc≤9223372036854775807∧9≤l.length∧N<4294967296 from ⟨hbn,hbc,by omega,hN⟩)
 have hcv:IntKind.i64.wrap (N:Int)=(N:Int):=by rw [IntKind.wrap_i64];omega
 have hcv2:wrap64 (N:Int)=(N:Int):=by rw [← IntWalk.i64_left];exact hcv
 clear hrd hNN hc8 hr hl h9 hbn hbc hN
 generalize l.getD 8 0=tg at *
 have hft:Frm.fits tg N=false:=by
  have htu:tg=1:=by apply UInt8.toNat_inj.1;rw [ht];rfl
  subst htu
  unfold Frm.fits
  rw [if_neg dQ,if_pos rfl];simp [hn]
 have Hf:=uQ (Hread.out.trans (if_pos hft))
 clear hft Hread
 have d1:((N:Int)==41)=false:=by rw [beq_eq_false_iff_ne];omega
 have d2:(N==41)=false:=by rw [beq_eq_false_iff_ne];exact hn
 have d3:¬ N=41:=hn
 clear hn
 have htg:=tg.toNat_lt
 have hct:IntKind.i64.wrap (tg.toNat:Int)=(tg.toNat:Int):=by rw [IntKind.wrap_i64];omega
 have hct2:wrap64 (tg.toNat:Int)=(tg.toNat:Int):=by rw [← IntWalk.i64_left];exact hct
 have htn:=ht
 clear ht
 generalize tg.toNat=tn at *
 subst htn
 go_enter Tryz.func100,Tryz.ntmps100
 go_wp2_with ((with_reducible refine at_allocE ⟨?_⟩);refine wl_allocE aQ ?_;intro bR wR hE)
 refine (Hnum.out _ hE.drop).mono ?_
 rintro ee w2 ⟨v,rfl,rfl,rfl⟩
 have e8:=Hc8.out _ hE.drop
 go_wp2_with (first|((with_reducible refine at_buildZ ⟨?_⟩);refine wl_buildZ ?_)|((with_reducible refine at_storeE ⟨?_⟩);first|(refine wl_storeE aQ rQ rQ fQ upD sQ ?_;intro wS hS)|(refine wl_storeE (e:=Frm.zeroE) (da:=none) (dn:=0) (dc:=0) aQ rQ rQ rfl upD sQ ?_;intro wS hS)))
 rw [Hf.out]
 refine ⟨rfl,_,res_entE3 rfl aQ rQ pkD rfl,_,rfl,none,0,rfl,Sat.osl_nil.2 (Sat.sb hS)⟩
set_option maxRecDepth 20000 in
theorem rread_few (l:Bs) (hr:Ro w0 F (rdsl 1 bv (bys l))) (hcap:capOk bv) (hl:l.length≤1099511627776) (h9:¬ l.length<9) (ht:(l.getD 8 0).toNat=0) (hn:Frm.num ((l.drop 4).take 4)<41) (h:Sat w0 w F) :
  Calls Tryz.prog 100 #[bv] w (Rtn fun v w'=>∃ da dc,v = .tuple #[.agg (entA (Frm.read l).1 (.slice da (Frm.read l).1.data.length dc)),.int .i64 (Frm.read l).2.1,errno (Frm.read l).2.2]∧Sat w0 w' (bsl (.slice da (Frm.read l).1.data.length dc) (Frm.read l).1.data::F)):=by
 obtain ⟨ba,bn,bc,rfl,hbn,hbc⟩:=hcap
 have hln:bn=l.length:=by
  obtain ⟨_,_,_,he,hl',_⟩:=hr w h
  cases he
  rw [bys_len,Nat.mul_one]at hl';exact hl'.symm
 subst hln
 obtain ⟨bk,off,rfl,hcell⟩:∃ bk off,ba=some ⟨bk,off,none⟩∧True:=by
  have hx:(bys l)[0]?=some (.int .u8 (l[0]'oQ).toNat):=by
   unfold bys;rw [List.getElem?_map,List.getElem?_eq_getElem oQ];rfl
  obtain ⟨bk,off,hb,_⟩:=rdsl_cells (hr w h) hx
  exact ⟨bk,off,hb,trivial⟩
 clear hcell
 have hrd:=hr w h
 have Hsub:=uQ (show ∀ (i j:Nat),i≤j→j≤l.length→∀ w,Sat w0 w F→rdsl 1 (.slice (some ⟨bk,off+i,none⟩) (j - i) (bc - i)) (bys ((l.take j).drop i)) w from fun i j h1 h2 w hw=>rdsl_sub (hr w hw) i j (bc - i) h1 h2)
 have Hnum:=uQ (show ∀ w,Sat w0 w F→Calls Tryz.prog 145 #[.slice (some ⟨bk,off+4,none⟩) 4 (bc - 4)] w (Rtn fun v w'=>v = .tuple #[.int .u64 (Frm.num ((l.drop 4).take 4):Nat),.bool true]∧w=w') from fun w hw=>rget_c ((l.drop 4).take 4) (by rw [List.length_take,List.length_drop];omega) (by rw [List.length_take];omega) (by
  have:=Hsub.out 4 8 oQ oQ w hw
  rw [List.drop_take]at this
  exact this))
 have Hnum0:=uQ (show ∀ w,Sat w0 w F→Calls Tryz.prog 145 #[.slice (some ⟨bk,off,none⟩) 4 bc] w (Rtn fun v w'=>v = .tuple #[.int .u64 (Frm.num (l.take 4):Nat),.bool true]∧w=w') from fun w hw=>rget_c (l.take 4) (by rw [List.length_take];omega) (by rw [List.length_take];omega) (bsl_of_rd (hr w hw) oQ))
 have Hread:=uQ (show Frm.read l=if Frm.fits (l.getD 8 0) (Frm.num ((l.drop 4).take 4))=false then (Frm.zeroE,0,4)
  else if l.length<Frm.num ((l.drop 4).take 4) then (Frm.zeroE,0,3)
  else if Frm.crc ((l.take (Frm.num ((l.drop 4).take 4))).drop 4)≠Frm.num (l.take 4) then (Frm.zeroE,0,13)
  else if 41≤Frm.num ((l.drop 4).take 4) then (⟨(l.getD 8 0).toNat,(l.drop 9).take 32,(l.take (Frm.num ((l.drop 4).take 4))).drop 41⟩,Frm.num ((l.drop 4).take 4),0)
  else (⟨(l.getD 8 0).toNat,Frm.zero32,[]⟩,Frm.num ((l.drop 4).take 4),0) by unfold Frm.read;rw [if_neg h9])
 have hN:Frm.num ((l.drop 4).take 4)<4294967296:=by
  have:=Frm.num_lt ((l.drop 4).take 4)
  rw [List.length_take,List.length_drop]at this
  have h4:min 4 (l.length - 4)=4:=oQ
  rw [h4]at this
  omega
 generalize hNN:Frm.num ((l.drop 4).take 4)=N at *
 have hc8:∀ w,Sat w0 w F→w.cell? ⟨bk,off+8,none⟩=some (.int .u8 (l.getD 8 0).toNat):=fun w hw=>by
  have hx:(bys l)[8]?=some (.int .u8 (l.getD 8 0).toNat):=by
   unfold bys;rw [List.getElem?_map,List.getD_eq_getElem?_getD,List.getElem?_eq_getElem oQ];rfl
  obtain ⟨bk',off',hb,hc⟩:=rdsl_cells (hr w hw) hx
  cases hb
  exact hc _ _ hx
 have Hc8:=uQ hc8;have Hr:=uQ hr;have Hl:=uQ hl
 have c1:¬ (l.length:Int)<9:=oQ
 have c2:¬ bc=4:=oQ
 have c4:(l.length:Int)≤(bc:Int):=oQ
 have c4b:(8:Int)≤(bc:Int):=oQ
 have c5:(8:Int)<(l.length:Int):=oQ
 have Hbn:=uQ (show l.length≤bc∧bc≤9223372036854775807∧9≤l.length∧N<4294967296 from ⟨hbn,hbc,by omega,hN⟩)
 have hcv:IntKind.i64.wrap (N:Int)=(N:Int):=by rw [IntKind.wrap_i64];omega
 have hcv2:wrap64 (N:Int)=(N:Int):=by rw [← IntWalk.i64_left];exact hcv
 clear hrd hNN hc8 hr hl h9 hbn hbc hN
 generalize l.getD 8 0=tg at *
 have hft:Frm.fits tg N=false:=by
  have htu:tg=0:=by apply UInt8.toNat_inj.1;rw [ht];rfl
  subst htu
  unfold Frm.fits
  rw [if_pos rfl,decide_eq_false_iff_not];omega
 have Hf:=uQ (Hread.out.trans (if_pos hft))
 clear hft Hread
 have d1:decide ((N:Int)<41)=true:=decide_eq_true oQ
 have d2:(N:Int)<41:=oQ
 have htg:=tg.toNat_lt
 have hct:IntKind.i64.wrap (tg.toNat:Int)=(tg.toNat:Int):=by rw [IntKind.wrap_i64];omega
 have hct2:wrap64 (tg.toNat:Int)=(tg.toNat:Int):=by rw [← IntWalk.i64_left];exact hct
 have htn:=ht
 clear ht
 generalize tg.toNat=tn at *
 subst htn
 go_enter Tryz.func100,Tryz.ntmps100
 go_wp2_with ((with_reducible refine at_allocE ⟨?_⟩);refine wl_allocE aQ ?_;intro bR wR hE)
 refine (Hnum.out _ hE.drop).mono ?_
 rintro ee w2 ⟨v,rfl,rfl,rfl⟩
 have e8:=Hc8.out _ hE.drop
 go_wp2_with (first|((with_reducible refine at_buildZ ⟨?_⟩);refine wl_buildZ ?_)|((with_reducible refine at_storeE ⟨?_⟩);first|(refine wl_storeE aQ rQ rQ fQ upD sQ ?_;intro wS hS)|(refine wl_storeE (e:=Frm.zeroE) (da:=none) (dn:=0) (dc:=0) aQ rQ rQ rfl upD sQ ?_;intro wS hS)))
 rw [Hf.out]
 refine ⟨rfl,_,res_entE3 rfl aQ rQ pkD rfl,_,rfl,none,0,rfl,Sat.osl_nil.2 (Sat.sb hS)⟩
set_option maxRecDepth 20000 in
theorem rread_many (l:Bs) (hr:Ro w0 F (rdsl 1 bv (bys l))) (hcap:capOk bv) (hl:l.length≤1099511627776) (h9:¬ l.length<9) (ht:(l.getD 8 0).toNat=0) (hn:16425<Frm.num ((l.drop 4).take 4)) (h:Sat w0 w F) :
  Calls Tryz.prog 100 #[bv] w (Rtn fun v w'=>∃ da dc,v = .tuple #[.agg (entA (Frm.read l).1 (.slice da (Frm.read l).1.data.length dc)),.int .i64 (Frm.read l).2.1,errno (Frm.read l).2.2]∧Sat w0 w' (bsl (.slice da (Frm.read l).1.data.length dc) (Frm.read l).1.data::F)):=by
 obtain ⟨ba,bn,bc,rfl,hbn,hbc⟩:=hcap
 have hln:bn=l.length:=by
  obtain ⟨_,_,_,he,hl',_⟩:=hr w h
  cases he
  rw [bys_len,Nat.mul_one]at hl';exact hl'.symm
 subst hln
 obtain ⟨bk,off,rfl,hcell⟩:∃ bk off,ba=some ⟨bk,off,none⟩∧True:=by
  have hx:(bys l)[0]?=some (.int .u8 (l[0]'oQ).toNat):=by
   unfold bys;rw [List.getElem?_map,List.getElem?_eq_getElem oQ];rfl
  obtain ⟨bk,off,hb,_⟩:=rdsl_cells (hr w h) hx
  exact ⟨bk,off,hb,trivial⟩
 clear hcell
 have hrd:=hr w h
 have Hsub:=uQ (show ∀ (i j:Nat),i≤j→j≤l.length→∀ w,Sat w0 w F→rdsl 1 (.slice (some ⟨bk,off+i,none⟩) (j - i) (bc - i)) (bys ((l.take j).drop i)) w from fun i j h1 h2 w hw=>rdsl_sub (hr w hw) i j (bc - i) h1 h2)
 have Hnum:=uQ (show ∀ w,Sat w0 w F→Calls Tryz.prog 145 #[.slice (some ⟨bk,off+4,none⟩) 4 (bc - 4)] w (Rtn fun v w'=>v = .tuple #[.int .u64 (Frm.num ((l.drop 4).take 4):Nat),.bool true]∧w=w') from fun w hw=>rget_c ((l.drop 4).take 4) (by rw [List.length_take,List.length_drop];omega) (by rw [List.length_take];omega) (by
  have:=Hsub.out 4 8 oQ oQ w hw
  rw [List.drop_take]at this
  exact this))
 have Hnum0:=uQ (show ∀ w,Sat w0 w F→Calls Tryz.prog 145 #[.slice (some ⟨bk,off,none⟩) 4 bc] w (Rtn fun v w'=>v = .tuple #[.int .u64 (Frm.num (l.take 4):Nat),.bool true]∧w=w') from fun w hw=>rget_c (l.take 4) (by rw [List.length_take];omega) (by rw [List.length_take];omega) (bsl_of_rd (hr w hw) oQ))
 have Hread:=uQ (show Frm.read l=if Frm.fits (l.getD 8 0) (Frm.num ((l.drop 4).take 4))=false then (Frm.zeroE,0,4)
  else if l.length<Frm.num ((l.drop 4).take 4) then (Frm.zeroE,0,3)
  else if Frm.crc ((l.take (Frm.num ((l.drop 4).take 4))).drop 4)≠Frm.num (l.take 4) then (Frm.zeroE,0,13)
  else if 41≤Frm.num ((l.drop 4).take 4) then (⟨(l.getD 8 0).toNat,(l.drop 9).take 32,(l.take (Frm.num ((l.drop 4).take 4))).drop 41⟩,Frm.num ((l.drop 4).take 4),0)
  else (⟨(l.getD 8 0).toNat,Frm.zero32,[]⟩,Frm.num ((l.drop 4).take 4),0) by unfold Frm.read;rw [if_neg h9])
 have hN:Frm.num ((l.drop 4).take 4)<4294967296:=by
  have:=Frm.num_lt ((l.drop 4).take 4)
  rw [List.length_take,List.length_drop]at this
  have h4:min 4 (l.length - 4)=4:=oQ
  rw [h4]at this
  omega
 generalize hNN:Frm.num ((l.drop 4).take 4)=N at *
 have hc8:∀ w,Sat w0 w F→w.cell? ⟨bk,off+8,none⟩=some (.int .u8 (l.getD 8 0).toNat):=fun w hw=>by
  have hx:(bys l)[8]?=some (.int .u8 (l.getD 8 0).toNat):=by
   unfold bys;rw [List.getElem?_map,List.getD_eq_getElem?_getD,List.getElem?_eq_getElem oQ];rfl
  obtain ⟨bk',off',hb,hc⟩:=rdsl_cells (hr w hw) hx
  cases hb
  exact hc _ _ hx
 have Hc8:=uQ hc8;have Hr:=uQ hr;have Hl:=uQ hl
 have c1:¬ (l.length:Int)<9:=oQ
 have c2:¬ bc=4:=oQ
 have c4:(l.length:Int)≤(bc:Int):=oQ
 have c4b:(8:Int)≤(bc:Int):=oQ
 have c5:(8:Int)<(l.length:Int):=oQ
 have Hbn:=uQ (show l.length≤bc∧bc≤9223372036854775807∧9≤l.length∧N<4294967296 from ⟨hbn,hbc,by omega,hN⟩)
 have hcv:IntKind.i64.wrap (N:Int)=(N:Int):=by rw [IntKind.wrap_i64];omega
 have hcv2:wrap64 (N:Int)=(N:Int):=by rw [← IntWalk.i64_left];exact hcv
 clear hrd hNN hc8 hr hl h9 hbn hbc hN
 generalize l.getD 8 0=tg at *
 have hft:Frm.fits tg N=false:=by
  have htu:tg=0:=by apply UInt8.toNat_inj.1;rw [ht];rfl
  subst htu
  unfold Frm.fits
  rw [if_pos rfl,decide_eq_false_iff_not];omega
 have Hf:=uQ (Hread.out.trans (if_pos hft))
 clear hft Hread
 have d1:decide ((N:Int)<41)=false:=decide_eq_false oQ
 have d2:decide (16425<(N:Int))=true:=decide_eq_true oQ
 have d3:16425<(N:Int):=oQ
 have htg:=tg.toNat_lt
 have hct:IntKind.i64.wrap (tg.toNat:Int)=(tg.toNat:Int):=by rw [IntKind.wrap_i64];omega
 have hct2:wrap64 (tg.toNat:Int)=(tg.toNat:Int):=by rw [← IntWalk.i64_left];exact hct
 have htn:=ht
 clear ht
 generalize tg.toNat=tn at *
 subst htn
 go_enter Tryz.func100,Tryz.ntmps100
 go_wp2_with ((with_reducible refine at_allocE ⟨?_⟩);refine wl_allocE aQ ?_;intro bR wR hE)
 refine (Hnum.out _ hE.drop).mono ?_
 rintro ee w2 ⟨v,rfl,rfl,rfl⟩
 have e8:=Hc8.out _ hE.drop
 go_wp2_with (first|((with_reducible refine at_buildZ ⟨?_⟩);refine wl_buildZ ?_)|((with_reducible refine at_storeE ⟨?_⟩);first|(refine wl_storeE aQ rQ rQ fQ upD sQ ?_;intro wS hS)|(refine wl_storeE (e:=Frm.zeroE) (da:=none) (dn:=0) (dc:=0) aQ rQ rQ rfl upD sQ ?_;intro wS hS)))
 rw [Hf.out]
 refine ⟨rfl,_,res_entE3 rfl aQ rQ pkD rfl,_,rfl,none,0,rfl,Sat.osl_nil.2 (Sat.sb hS)⟩
end
section
variable {w0 w:World}{F R:List HProp}{v bv dv x lv:Value}
set_option maxRecDepth 20000 in
theorem rread0_c (l:Bs) (hr:Ro w0 F (rdsl 1 bv (bys l))) (hcap:capOk bv) (hl:l.length≤1099511627776) (h9:¬ l.length<9) (ht:(l.getD 8 0).toNat=0) (hn:41≤Frm.num ((l.drop 4).take 4)∧Frm.num ((l.drop 4).take 4)≤16425) (h:Sat w0 w F) :
  Calls Tryz.prog 100 #[bv] w (Rtn fun v w'=>∃ da dc,v = .tuple #[.agg (entA (Frm.read l).1 (.slice da (Frm.read l).1.data.length dc)),.int .i64 (Frm.read l).2.1,errno (Frm.read l).2.2]∧Sat w0 w' (bsl (.slice da (Frm.read l).1.data.length dc) (Frm.read l).1.data::F)):=by
 obtain ⟨ba,bn,bc,rfl,hbn,hbc⟩:=hcap
 have hln:bn=l.length:=by
  obtain ⟨_,_,_,he,hl',_⟩:=hr w h
  cases he
  rw [bys_len,Nat.mul_one]at hl';exact hl'.symm
 subst hln
 obtain ⟨bk,off,rfl,hcell⟩:∃ bk off,ba=some ⟨bk,off,none⟩∧True:=by
  have hx:(bys l)[0]?=some (.int .u8 (l[0]'oQ).toNat):=by
   unfold bys;rw [List.getElem?_map,List.getElem?_eq_getElem oQ];rfl
  obtain ⟨bk,off,hb,_⟩:=rdsl_cells (hr w h) hx
  exact ⟨bk,off,hb,trivial⟩
 clear hcell
 have hrd:=hr w h
 have Hsub:=uQ (show ∀ (i j:Nat),i≤j→j≤l.length→∀ w,Sat w0 w F→rdsl 1 (.slice (some ⟨bk,off+i,none⟩) (j - i) (bc - i)) (bys ((l.take j).drop i)) w from fun i j h1 h2 w hw=>rdsl_sub (hr w hw) i j (bc - i) h1 h2)
 have Hnum:=uQ (show ∀ w,Sat w0 w F→Calls Tryz.prog 145 #[.slice (some ⟨bk,off+4,none⟩) 4 (bc - 4)] w (Rtn fun v w'=>v = .tuple #[.int .u64 (Frm.num ((l.drop 4).take 4):Nat),.bool true]∧w=w') from fun w hw=>rget_c ((l.drop 4).take 4) (by rw [List.length_take,List.length_drop];omega) (by rw [List.length_take];omega) (by
  have:=Hsub.out 4 8 oQ oQ w hw
  rw [List.drop_take]at this
  exact this))
 have Hnum0:=uQ (show ∀ w,Sat w0 w F→Calls Tryz.prog 145 #[.slice (some ⟨bk,off,none⟩) 4 bc] w (Rtn fun v w'=>v = .tuple #[.int .u64 (Frm.num (l.take 4):Nat),.bool true]∧w=w') from fun w hw=>rget_c (l.take 4) (by rw [List.length_take];omega) (by rw [List.length_take];omega) (bsl_of_rd (hr w hw) oQ))
 have Hread:=uQ (show Frm.read l=if Frm.fits (l.getD 8 0) (Frm.num ((l.drop 4).take 4))=false then (Frm.zeroE,0,4)
  else if l.length<Frm.num ((l.drop 4).take 4) then (Frm.zeroE,0,3)
  else if Frm.crc ((l.take (Frm.num ((l.drop 4).take 4))).drop 4)≠Frm.num (l.take 4) then (Frm.zeroE,0,13)
  else if 41≤Frm.num ((l.drop 4).take 4) then (⟨(l.getD 8 0).toNat,(l.drop 9).take 32,(l.take (Frm.num ((l.drop 4).take 4))).drop 41⟩,Frm.num ((l.drop 4).take 4),0)
  else (⟨(l.getD 8 0).toNat,Frm.zero32,[]⟩,Frm.num ((l.drop 4).take 4),0) by unfold Frm.read;rw [if_neg h9])
 have hN:Frm.num ((l.drop 4).take 4)<4294967296:=by
  have:=Frm.num_lt ((l.drop 4).take 4)
  rw [List.length_take,List.length_drop]at this
  have h4:min 4 (l.length - 4)=4:=oQ
  rw [h4]at this
  omega
 generalize hNN:Frm.num ((l.drop 4).take 4)=N at *
 have hc8:∀ w,Sat w0 w F→w.cell? ⟨bk,off+8,none⟩=some (.int .u8 (l.getD 8 0).toNat):=fun w hw=>by
  have hx:(bys l)[8]?=some (.int .u8 (l.getD 8 0).toNat):=by
   unfold bys;rw [List.getElem?_map,List.getD_eq_getElem?_getD,List.getElem?_eq_getElem oQ];rfl
  obtain ⟨bk',off',hb,hc⟩:=rdsl_cells (hr w hw) hx
  cases hb
  exact hc _ _ hx
 have Hc8:=uQ hc8;have Hr:=uQ hr;have Hl:=uQ hl
 have c1:¬ (l.length:Int)<9:=oQ
 have c2:¬ bc=4:=oQ
 have c4:(l.length:Int)≤(bc:Int):=oQ
 have c4b:(8:Int)≤(bc:Int):=oQ
 have c5:(8:Int)<(l.length:Int):=oQ
 have Hbn:=uQ (show l.length≤bc∧bc≤9223372036854775807∧9≤l.length∧N<4294967296 from ⟨hbn,hbc,by omega,hN⟩)
 have hcv:IntKind.i64.wrap (N:Int)=(N:Int):=by rw [IntKind.wrap_i64];omega
 have hcv2:wrap64 (N:Int)=(N:Int):=by rw [← IntWalk.i64_left];exact hcv
 clear hrd hNN hc8 hr hl h9 hbn hbc hN
 generalize l.getD 8 0=tg at *
 have hft:Frm.fits tg N=true:=by
  have htu:tg=0:=by apply UInt8.toNat_inj.1;rw [ht];rfl
  subst htu
  unfold Frm.fits
  rw [if_pos rfl];simp;omega
 have hN9:9≤N:=oQ
 have d1:decide ((N:Int)<41)=false:=decide_eq_false oQ
 have d1b:¬ N<41:=oQ
 have d2:decide (16425<(N:Int))=false:=decide_eq_false oQ
 have d2b:¬ 16425<N:=oQ
 have h41:41≤N:=hn.1
 have hN16:N≤16425:=hn.2
 clear hn
 have Hf:=uQ (Hread.out.trans (if_neg (by rw [hft];decide)))
 clear hft Hread
 have htg:=tg.toNat_lt
 have hct:IntKind.i64.wrap (tg.toNat:Int)=(tg.toNat:Int):=by rw [IntKind.wrap_i64];omega
 have hct2:wrap64 (tg.toNat:Int)=(tg.toNat:Int):=by rw [← IntWalk.i64_left];exact hct
 have htn:=ht
 clear ht
 generalize tg.toNat=tn at *
 subst htn
 go_enter Tryz.func100,Tryz.ntmps100
 go_wp2_with ((with_reducible refine at_allocE ⟨?_⟩);refine wl_allocE aQ ?_;intro bR wR hE)
 refine (Hnum.out _ hE.drop).mono ?_
 rintro ee w2 ⟨v,rfl,rfl,rfl⟩
 have e8:=Hc8.out _ hE.drop
 by_cases hlN:l.length<N
 ·have Hf2:=uQ (Hf.out.trans (if_pos hlN))
  have c6:(l.length:Int)<(N:Int):=oQ
  have c6b:l.length<N:=hlN
  clear hlN
  go_wp2_with (first|((with_reducible refine at_buildZ ⟨?_⟩);refine wl_buildZ ?_)|((with_reducible refine at_storeE ⟨?_⟩);first|(refine wl_storeE aQ rQ rQ fQ upD sQ ?_;intro wS hS)|(refine wl_storeE (e:=Frm.zeroE) (da:=none) (dn:=0) (dc:=0) aQ rQ rQ rfl upD sQ ?_;intro wS hS)))
  rw [Hf2.out]
  refine ⟨rfl,_,res_entE3 rfl aQ rQ pkD rfl,_,rfl,none,0,rfl,Sat.osl_nil.2 (Sat.sb hS)⟩
 have Hf2:=uQ (Hf.out.trans (if_neg hlN))
 have c6:¬ (l.length:Int)<(N:Int):=oQ
 have c6b:¬ l.length<N:=hlN
 have c8:(N:Int)≤(bc:Int):=oQ
 have c8b:(4:Int)≤(bc:Int):=oQ
 have HlN:=uQ (show N≤l.length∧9≤N by omega)
 have c7:(4:Int)≤(N:Int):=oQ
 clear hlN Hf
 go_wp2_with fail
 refine (Hnum0.out _ hE.drop).mono ?_
 rintro ee w2 ⟨v,rfl,rfl,rfl⟩
 have hA32:=Frm.crc_lt ((l.take N).drop 4)
 have hsum:=rsum_c ((l.take N).drop 4) (Hsub.out 4 N (by have:=HlN.out;omega) HlN.out.1 _ hE.drop) (by rw [List.length_drop,List.length_take];have:=Hl.out;omega)
 go_wp2_with fail
 refine hsum.mono ?_
 clear hsum
 rintro ee w2 ⟨v,rfl,rfl,rfl⟩
 generalize Frm.crc ((l.take N).drop 4)=A at *
 generalize Frm.num (l.take 4)=B at *
 have hAc:(A:Int)%18446744073709551616=(A:Int):=oQ
 have hAd:IntKind.u64.wrap (A:Int)=(A:Int):=hAc
 clear hA32
 by_cases hAB:A=B
 rotate_left
 ·have Hf3:=uQ (Hf2.out.trans (if_pos hAB))
  have c9:((A:Int)==(B:Int))=false:=by rw [beq_eq_false_iff_ne];omega
  have c9b:¬ A=B:=hAB
  clear hAB
  go_wp2_with (first|((with_reducible refine at_buildZ ⟨?_⟩);refine wl_buildZ ?_)|((with_reducible refine at_storeE ⟨?_⟩);first|(refine wl_storeE aQ rQ rQ fQ upD sQ ?_;intro wS hS)|(refine wl_storeE (e:=Frm.zeroE) (da:=none) (dn:=0) (dc:=0) aQ rQ rQ rfl upD sQ ?_;intro wS hS)))
  rw [Hf3.out]
  refine ⟨rfl,_,res_entE3 rfl aQ rQ pkD rfl,_,rfl,none,0,rfl,Sat.osl_nil.2 (Sat.sb hS)⟩
 subst hAB
 have Hf3:=uQ (Hf2.out.trans (if_neg (fun h=>h rfl)))
 clear Hf2
 have Hf4:=uQ (Hf3.out.trans (if_pos h41))
 have c9:(41:Int)≤(N:Int):=oQ
 have c11:(41:Int)≤(bc:Int):=oQ
 obtain ⟨ad,had,hsl⟩:∃ ad:Addr,(41<N→ad=⟨bk,off+41,none⟩)∧∀ w,(Instr.sliceAt 42 (.slice (some ⟨bk,off,none⟩) l.length bc) (some (.int .i64 41)) (some (.int .i64 N)) none).run Tryz.prog w = .ok (.slice (some ad) (N - 41) (bc - 41)) w:=by
  by_cases hce:bc=41
  ·refine ⟨⟨bk,off,none⟩,fun hh=>by have:=HlN.out;have:=Hbn.out;omega,fun w=>?_⟩
   have c12:(N:Int)≤41:=oQ
   have c13:¬ (41:Int)<(N:Int):=oQ
   go_simp
  ·refine ⟨⟨bk,off+41,none⟩,fun _=>rfl,fun w=>?_⟩
   go_simp
 have Had:=uQ had
 have Hdat:=uQ (show ∀ w,Sat w0 w F→rdsl 1 (.slice (some ad) (N - 41) (bc - 41)) (bys ((l.take N).drop 41)) w from fun w hw=>by
  by_cases h2:41<N
  ·rw [Had.out h2];exact Hsub.out 41 N oQ HlN.out.1 w hw
  ·have:(l.take N).drop 41=[]:=List.drop_of_length_le (by rw [List.length_take];omega)
   rw [this,show N - 41=0 by omega]
   exact ⟨_,0,_,rfl,rfl,by simp [bys]⟩)
 clear h41 had d1 d1b d2 d2b
 have Hkl:=uQ (show ((l.drop 9).take 32).length=32 by rw [List.length_take,List.length_drop];have:=HlN.out;omega)
 have Hcell:=uQ (show ∀ (i:Nat) (c:UInt8),((l.drop 9).take 32)[i]?=some c→∀ w,Sat w0 w F→w.cell? ⟨bk,off+(9+i),none⟩=some (.int .u8 c.toNat) from fun i c hc w hw=>by
  have hi:i<32:=by have:=(List.getElem?_eq_some_iff.1 hc).1;rw [Hkl.out]at this;exact this
  rw [List.getElem?_take_of_lt hi,List.getElem?_drop]at hc
  have hx:(bys l)[9+i]?=some (.int .u8 c.toNat):=by unfold bys;rw [List.getElem?_map,hc];rfl
  obtain ⟨b',o',hb,hcc⟩:=rdsl_cells (Hr.out w hw) hx
  cases hb
  exact hcc _ _ hx)
 go_wp2_with (first|((with_reducible refine at_buildTag ⟨?_⟩);refine wl_buildTag rQ ?_)|((with_reducible refine at_allocE ⟨?_⟩);refine wl_allocE aQ ?_;intro bE wE hE)|((with_reducible refine at_storeE ⟨?_⟩);first|(refine wl_storeE aQ rQ rQ fQ upD sQ ?_;intro wS hS)|(refine wl_storeE (e:=Frm.zeroE) (da:=none) (dn:=0) (dc:=0) aQ rQ rQ rfl upD sQ ?_;intro wS hS))|((with_reducible refine at_loadE ⟨?_⟩);refine wl_loadE aQ rQ pkD fQ ?_))
 have hS0:=hS
 clear hS hE e8
 obtain ⟨kk,hkk⟩:∃ kk,kk=(l.drop 9).take 32:=⟨_,rfl⟩
 rw [← hkk]at Hf4 Hkl Hcell
 clear hkk
 go_loopg [12] 32 (fun g iq wr=>∃ i:Nat,g=32 - i∧i≤32∧iq = .int .i64 i∧Sat w0 wr (pt bE (.cells (entA ⟨0,keyTo kk i,[]⟩ (.slice none 0 0)) 44 (0,0))::pt bR (.cells (entA Frm.zeroE (.slice none 0 0)) 44 (0,0))::F))
 case atStart=>exact ⟨0,rfl,by decide,rfl,hS0⟩
 case round=>
  obtain ⟨i,rfl,hi,rfl,hS1⟩:=hrel
  clear hS0
  by_cases hlt:i<32
  ·have e1:(i:Int)<32:=by omega
   have hwi:=iwQ (i:=i)
   have hw9:IntKind.i64.wrap (9+(i:Int))=((9+i:Nat):Int):=by rw [show (9:Int)+(i:Int)=((9+i:Nat):Int) by omega];exact IntWalk.i64_in _ oQ
   have hln:((9+i:Nat):Int)<(l.length:Int):=by have:=HlN.out;omega
   obtain ⟨cc,hcc⟩:∃ cc,kk[i]?=some cc:=⟨_,List.getElem?_eq_getElem (by rw [Hkl.out];exact hlt)⟩
   have ec:=Hcell.out i cc hcc _ hS1.drop.drop
   have hset:=ent_setkey ⟨0,keyTo kk i,[]⟩ (.slice none 0 0) i cc (by show i<(keyTo kk i).length;rw [keyTo_len Hkl.out hi];exact hlt)
   simp only [keyTo_succ Hkl.out hlt hcc]at hset
   have Hset:=uQ hset;have Hlt:=uQ hlt
   have hfit:1+i+1≤(entA ⟨0,keyTo kk i,[]⟩ (.slice none 0 0)).size:=by rw [entA_size _ _ (keyTo_len Hkl.out hi)];omega
   have Hfit:=uQ hfit
   clear hset hcc hlt hfit
   generalize h9i:9+i=q at *
   go_wp2_with ((with_reducible refine at_store ⟨?_⟩);refine wl_store (b:=bE) (o:=1+i) (v:= .int .u8 cc.toNat) hS1 rQ evD Hset.out upd0 Hfit.out kQ rQ ?_;intro wT hT)
   go_roundg (32 - (i+1))
   case measure=>have:=Hlt.out;omega
   case rel=>exact ⟨i+1,rfl,Nat.succ_le_of_lt Hlt.out,by first|rfl|go_num,hT⟩
  ·obtain rfl:i=32:=by omega
   have e1:¬ ((32:Nat):Int)<32:=by decide
   rw [keyTo_end Hkl.out]at hS1
   clear hlt hi
   have hkl:=Hkl.out
   go_wp2_with ((with_reducible refine at_slice2 ⟨?_⟩);refine wl_slice2 rQ rQ rQ hsl ?_)
   refine (copy_c hS1 _ (Hdat.out _ hS1.drop.drop) (by rw [List.length_drop,List.length_take];have:=Hl.out;omega)).mono ?_
   rintro ee w3 ⟨v,rfl,hS3,ca,cn,cc,rfl⟩
   have hcn:cn=((l.take N).drop 41).length:=by
    obtain ⟨_,_,_,he,hl',_⟩:=Sat.rd hS3
    cases he
    rw [bys_len,Nat.mul_one]at hl';exact hl'.symm
   subst hcn
   generalize (l.take N).drop 41=data at *
   clear hS1
   go_wp2_with (first
    |((with_reducible refine at_store ⟨?_⟩);refine wl_storeD (e:=⟨0,kk,[]⟩) (data:=data) hS3 rQ rQ hkl upD ?_;intro wD hD)
    |((with_reducible refine at_loadE ⟨?_⟩);refine wl_loadE aQ rQ pkD fQ ?_)|((with_reducible refine at_storeE ⟨?_⟩);first|(refine wl_storeE aQ rQ rQ fQ upD sQ ?_;intro wS hS)|(refine wl_storeE (e:=Frm.zeroE) (da:=none) (dn:=0) (dc:=0) aQ rQ rQ rfl upD sQ ?_;intro wS hS)))
   rw [Hf4.out]
   simp only
   refine ⟨rfl,_,res_entE3 rfl aQ rQ pkD hkl,_,rfl,ca,cc,rfl,Sat.sb hS⟩
end
end Go.Proofs.YtmjldaedhmipkaaGreatDoor
