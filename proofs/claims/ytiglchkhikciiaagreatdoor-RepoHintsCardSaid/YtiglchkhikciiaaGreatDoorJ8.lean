import Derived.Test.YtiglchkhikciiaaGreatDoorJ7
import Derived.Lib.ConvBytes
import Derived.ArgAppend
import Derived.Laws.BitsAllLaws
set_option linter.unusedVariables false
set_option maxHeartbeats 128000000
namespace Go.Proofs.YtiglchkhikciiaaGreatDoor
open Go Go.Sl Go.ay Go.MapKept Go.RowKit
section
variable {w0 w:World}{F:List aG}{p B:Nat}{m:aj.Bs→Option (Seg.aU)}
set_option maxRecDepth 20000 in
theorem adZ (hB:B≤13000000) (h:Sat w0 w (aJ p m B::F)) :
  Calls Tryz.prog 99 #[ptr p] w (aO fun v w'=>∃ kv:List (aj.Bs×Seg.aU),(Tab.Lists m kv∧(∀ q∈kv,q.1.length=32)∧kv.length≤B)∧Sat w0 w' (aC 31 32 v (kv.flatMap fun q=>aA q.1)::aJ p m B::F)):=by
 have hr:=WA hB h
 clear h
 go_enter Tryz.func99,Tryz.ntmps99
 go_wp2_with fail
 refine hr.mono ?_
 rintro ee w1 ⟨sv,rfl,s,⟨hs1,hs2,hs3⟩,hS1⟩
 clear hr
 have Zr:=uQ hs1;have kN:=uQ hs2;have Jv:=uQ hs3
 have AY:=uQ (show ∀ q∈s.map fun x=>(x.key,x.val),q.1.length=32 from fun q hq=>by
  obtain ⟨x,hx,rfl⟩:=acK.1 hq
  exact (hs2 x hx).2)
 have Hlen:=uQ (show ∀ x∈s,(slotL aK x).length=36 from fun x hx=>iT aK x (hs2 x hx).2 3 (oM _))
 obtain ⟨la,lc,rfl⟩:=iD Hlen.out (Sat.rd hS1) aN
 have hsb:s.length≤13000000:=adr hs3 hB
 have hS2:Sat w0 w1 (aC 31 32 (.slice none 0 0) (((s.take 0).map fun x=>(x.key,x.val)).flatMap fun q=>aA q.1)::aC 178 36 (.slice la s.length lc) (s.flatMap (slotL aK))::aJ p m B::F):=Sat.fD.2 hS1
 clear hs1 hs2 hs3 hB hS1
 go_wp2_with fail
 go_loopg [3,9] s.length (fun g oq iq wr=>∃ (i:Nat),g=s.length - i∧i≤s.length∧iq = .int .i64 i ∧
  Sat w0 wr (aC 31 32 oq (((s.take i).map fun x=>(x.key,x.val)).flatMap fun q=>aA q.1)::aC 178 36 (.slice la s.length lc) (s.flatMap (slotL aK))::aJ p m B::F))
 case atStart=>exact ⟨0,rfl,afm _,rfl,hS2⟩
 case round=>
  obtain ⟨i,rfl,hi,rfl,hS⟩:=hrel
  clear hS2
  by_cases hlt:i<s.length
  rotate_left
  ·obtain rfl:i=s.length:=by omega
   have c1:¬ (s.length:Int)<(s.length:Int):=oQ
   rw [aiv]at hS
   clear hlt hi
   go_wp2_with fail
   go_ret
   refine ⟨_,rfl,s.map fun x=>(x.key,x.val),⟨Zr.out,by intros;exact AY.out (_,_) aQ,by rw [aaJ];exact Jv.out⟩,hS.sb⟩
  have c1:(i:Int)<(s.length:Int):=oQ
  have hwi:=vU (i:=i)
  obtain ⟨x,hx⟩:∃ x,s[i]?=some x:=⟨_,aak hlt⟩
  have hxm:=abA hx
  have Hxk:=uQ (kN.out x hxm).2
  obtain ⟨bk,off,c',hsv,hcell⟩:=iC Hlen.out (Sat.rd (hS.pick aZ)) hx aN
  cases hsv
  have fP:=Hlen.out x hxm
  have fB:=uQ (show ((s.take (i+1)).map fun x=>(x.key,x.val)).flatMap (fun q=>aA q.1)=((s.take i).map fun x=>(x.key,x.val)).flatMap (fun q=>aA q.1)++aA x.key by
   rw [ajL,hx,ajY,aey,ajj];simp)
  have bT:=uQ hlt
  have CJ:(((s.take i).map fun x=>(x.key,x.val)).flatMap fun q=>aA q.1).length≤2147483648:=by
   rw [iE (k:=32) fun q hq=>by
    obtain ⟨y,hy,rfl⟩:=acK.1 hq
    rw [aV];exact (kN.out y (ajm hy)).2]
   rw [aaJ]
   have:=akX i s
   omega
  clear hx hxm hlt hi
  go_wp2_with (first
   |((with_reducible refine bD ⟨?_⟩);refine gU (b:=bk) (o:=off+i * 36) (slotL aK x) ah hcell Tryz.underlying178 rfl (by rw [fP];kernel_rfl) ?_)
   |(with_reducible apply eU))
  refine ⟨dU uN hS rfl ?_⟩
  intro b7 w7 hS7
  go_wp2_with (first
   |((with_reducible refine bY ⟨?_⟩);refine fE (slotL aK x).toArray hS7 ah ah (by rw [aaI,fP];rfl) bZ (by rw [aaI,fP];kernel_rfl) (by rw [adM];exact lQ aK x (uF _)) ?_;intro w10 dw)
   |(with_reducible apply bD))
  refine ⟨?_⟩
  clear hS hS7 hcell
  have f1:w10.rangeAt b7 1 (aA x.key):=qZ (dw.pick aT)
  go_wp2_with (first
   |((with_reducible refine bD ⟨?_⟩);refine gU (b:=b7) (o:=1) (aA x.key) ah f1 Tryz.underlying31 rfl (by rw [aV,Hxk.out];kernel_rfl) ?_)
   |(with_reducible apply ny))
  refine ⟨nH (e:=31) (sz:=32) (dS:=32) au dw ah (cs:=(aA x.key).toArray) rfl (by rw [aaI,aV,Hxk.out]) aN ?_⟩
  intro bN wN hN
  go_wp2_with (with_reducible apply lg)
  refine ⟨nG 31 32 32 au hN ah ah (aW (aW aT)) aT (by rw [aaI,aV,Hxk.out]) (acy 1) (by rw [adM];exact qJ _) CJ (by rw [aaI,aV,Hxk.out];decide) aN (by rw [adM]) ?_⟩
  intro bA nA cA wA hA
  go_wp2_with fail
  rw [← fB.out]at hA
  go_roundg (s.length - (i+1))
  case measure=>have:=bT.out;omega
  case rel=>exact ⟨i+1,rfl,bT.out,by first|rfl|go_num,hA.sb⟩
end
section
variable {w0 w:World}{F:List aG}{p m K r ps pn B:Nat}{L:Seg.Log}{M:ay}{seg:Int}{d:Bool}{k:aj.Bs}{mp:aj.Bs→Option Seg.aU}
set_option maxRecDepth 20000 in
theorem agv (hB:B≤268435000) (hk:k.length=32) (h:Sat w0 w (bG r m seg p ps pn d::aJ pn mp B::F)) :
  Calls Tryz.prog 153 #[ptr r,.agg (aA k).toArray] w (aO fun v w'=>v = .tuple #[.agg (aK ((mp k).getD Seg.aU.zero)).toArray,.bool (mp k).isSome]∧Sat w0 w' (bG r m seg p ps pn d::aJ pn mp B::F)):=by
 have Hk:=uQ hk;have gJ:=uQ (show (aA k).length=32 by rw [aV,hk]);have HB:=uQ hB
 clear hk hB
 go_enter Tryz.func153,Tryz.ntmps153
 go_wp2_with (with_reducible apply eG)
 refine ⟨eH h ak ak ?_⟩
 intro b3 w3 h3
 go_wp2_with (with_reducible apply eU)
 refine ⟨dU og h3 rfl ?_⟩
 intro b4 w4 h4
 replace h4:Sat w0 w4 (bG r m seg p ps pn d::pt b4 (.cells (aK Seg.aU.zero).toArray 116 (0,0))::pt b3 (.cells (aA k).toArray 31 (0,0))::aJ pn mp B::F):=h4.sb
 clear h h3
 go_wp2_with fail
 refine (oO h4).mono ?_
 rintro ee w5 ⟨v,rfl,rfl,rfl⟩
 go_wp2_with fail
 have h5:=h4.drew
 clear h4
 refine dH [5,6,7,8,9] (fun w'=>w'.cell? ⟨r,4,none⟩=some (.pointer (some ⟨pn,0,none⟩))∧w'.rangeAt b3 0 (aA k)) au ?_
 have hG:World.cell? _ ⟨r,4,none⟩=some (.pointer (some ⟨pn,0,none⟩))∧World.rangeAt _ b3 0 (aA k):=⟨h5.cellP aT 4 rfl,fun j z hj=>by rw [aen];exact h5.cellP fG j (by rw [abL];exact hj)⟩
 refine rP 0 ?_ (y:=aX)
 refine rP 1 ?_ (y:=dZ)
 refine rP 2 ?_ (y:=cO)
 refine rt 3 (h:=?_)
 refine eP 4 ak au bK (ig (b:=b3) (o:=0) (aA k) ah Tryz.underlying31 rfl (by rw [gJ.out];kernel_rfl) (fun w hw=>hw.2)) aQ gQ ?_
 clear hG
 refine bV 5 ak au (fun K hK=>?_)
 (refine gy au ak ak ?_)
 refine (Sz HB.out Hk.out (h5.sb:Sat w0 _ (aJ pn mp B::pt b4 (.cells (aK Seg.aU.zero).toArray 116 (0,0))::bG r m seg p ps pn d::pt b3 (.cells (aA k).toArray 31 (0,0))::F))).mono ?_
 rintro ee w6 ⟨v,rfl,rfl,h6⟩
 refine hK _ _ (.inl rfl) ?_
 clear hK h5
 generalize hpc:(mp k).getD Seg.aU.zero=pc at *
 have Zk:=uQ hpc
 clear hpc
 refine rP 6 ?_ (y:=(jw ak dh))
 refine rP 7 ?_ (y:=(jw ak dh))
 have h7:Sat w0 w6 (pt b4 (.cells (aK Seg.aU.zero).toArray 116 (0,0))::bG r m seg p ps pn d::pt b3 (.cells (aA k).toArray 31 (0,0))::aJ pn mp B::F):=h6.sb
 clear h6
 refine bV 8 ak au (fun K hK=>?_)
 refine kP (cs':=(aK pc).toArray) h7 ak ak ah bZ bF au ah ?_
 intro w9 h9
 refine hK _ _ (.inl rfl) ?_
 clear hK h7
 refine rP 9 ?_ (y:=fJ)
 refine dD au ?_
 go_wp2_with fail
 refine ⟨rfl,_,lN rfl h9 ah aT Tryz.underlying116 rfl au,_,rfl,?_,h9.sb⟩
 rw [Zk.out];rfl
set_option maxRecDepth 20000 in
theorem Nr (hB:B≤268435000) (hk:k.length=32) (h:Sat w0 w (bG r m seg p ps pn d::aJ pn mp B::F)) :
  Calls Tryz.prog 96 #[ptr r,.agg (aA k).toArray] w (aO fun v w'=>v = .bool (mp k).isSome∧Sat w0 w' (bG r m seg p ps pn d::aJ pn mp B::F)):=by
 have Hk:=uQ hk;have gJ:=uQ (show (aA k).length=32 by rw [aV,hk]);have HB:=uQ hB
 clear hk hB
 go_enter Tryz.func96,Tryz.ntmps96
 go_wp2_with (with_reducible apply eG)
 refine ⟨eH h ak ak ?_⟩
 intro b3 w3 h3
 replace h3:Sat w0 w3 (pt b3 (.cells (aA k).toArray 31 (0,0))::bG r m seg p ps pn d::aJ pn mp B::F):=h3
 clear h
 go_wp2_with ((with_reducible refine bD ⟨?_⟩);refine gI h3 ah aT Tryz.underlying31 rfl (by rw [aaI,gJ.out];kernel_rfl) ?_)
 refine (agv HB.out Hk.out (h3.sb:Sat w0 w3 (bG r m seg p ps pn d::aJ pn mp B::pt b3 (.cells (aA k).toArray 31 (0,0))::F))).mono ?_
 rintro ee w4 ⟨v,rfl,rfl,h4⟩
 clear h3
 generalize (mp k).getD Seg.aU.zero=pc at *
 go_wp2_with (with_reducible apply eU)
 refine ⟨dU og h4 rfl ?_⟩
 intro b5 w5 h5
 go_wp2_with (with_reducible apply bY)
 refine ⟨fE (aK pc).toArray h5 ah ah ah bZ au ah ?_⟩
 intro w6 h6
 go_wp2_with fail
 go_ret
 exact ⟨_,rfl,rfl,h6.sb⟩
set_option maxRecDepth 20000 in
theorem agu (hB:B≤13000000) (h:Sat w0 w (bG r m seg p ps pn d::aJ pn mp B::F)) :
  Calls Tryz.prog 53 #[ptr r] w (aO fun v w'=>∃ kv:List (aj.Bs×Seg.aU),(Tab.Lists mp kv∧(∀ q∈kv,q.1.length=32)∧kv.length≤B)∧Sat w0 w' (aC 31 32 v (kv.flatMap fun q=>aA q.1)::bG r m seg p ps pn d::aJ pn mp B::F)):=by
 have e4:w.cell? ⟨r,4,none⟩=some (.pointer (some ⟨pn,0,none⟩)):=h.cellAt 4 _ rfl
 have hok:=oO h
 have hks:=adZ hB (h.sb:Sat w0 w (aJ pn mp B::bG r m seg p ps pn d::F))
 clear h
 go_enter Tryz.func53,Tryz.ntmps53
 go_wp2_with fail
 refine hok.mono ?_
 rintro ee w1 ⟨v,rfl,rfl,rfl⟩
 go_wp2_with fail
 refine hks.mono ?_
 rintro ee w2 ⟨v,rfl,kv,hkv,h2⟩
 have Jb:=uQ hkv
 clear hkv
 go_wp2_with fail
 go_ret
 exact ⟨_,rfl,kv,⟨Jb.out.1,by intros;exact Jb.out.2.1 (_,_) aQ,Jb.out.2.2⟩,h2.sb⟩
end
section
variable {w0 w:World}{F:List aG}{p m K r ps pn B:Nat}{L:Seg.Log}{M:ay}{seg:Int}{d:Bool}{k:aj.Bs}{mp:aj.Bs→Option Seg.aU}
theorem afE {a b:Array Value} (h:a.size=b.size):dM a 0 b.toList=b:=by
 apply nT
 rw [jU _ _ _ (by rw [adu];omega),ajD,ajd,aen,aiz (by rw [adu,adu];omega),afo]
set_option maxRecDepth 20000 in
theorem agt (hB:B≤268435000) (hk:k.length=32) (pl:Seg.aU) (hm:mp k=some pl) (hH:Ro w0 F Half) (hL:L.Ok) (hM:M.Ok K) (h1 : -9223372036854775808≤pl.at_∧pl.at_≤9223372036854775807) (h2 : -9223372036854775808≤pl.size∧pl.size≤9223372036854775807) (data:aj.Bs) (hdl:data.length≤140737488355328) (hr:L.read M pl=(⟨0,k,data⟩,0)) (h:Sat w0 w (bG r m seg p ps pn d::aJ pn mp B::aI p m L::aH m M::F)) :
  Calls Tryz.prog 54 #[ptr r,.agg (aA k).toArray] w (aO fun v w'=>∃ bv a n c,v = .tuple #[bv,errno 0]∧bv = .slice a n c∧Sat w0 w' (bJ bv data::bG r m seg p ps pn d::aJ pn mp B::aI p m L::aH m M::F)):=by
 have Hk:=uQ hk;have gJ:=uQ (show (aA k).length=32 by rw [aV,hk])
 have HT:=uQ (fun (w':World) (R:List aG) (hw:Sat w0 w' (aJ pn mp B::R))=>Sz hB hk hw)
 rw [hm,Option.getD_some,Option.isSome_some]at HT
 have HH:=uQ hH
 have HR:=uQ (fun (w':World) (R:List aG) (hh:Ro w0 R Half) (hw:Sat w0 w' (aI p m L::aH m M::R))=>aes hh hL hM pl h1 h2 hw)
 rw [hr]at HR
 have IW:=uQ hdl
 clear hk hB hm hH hL hM h1 h2 hr hdl
 go_enter Tryz.func54,Tryz.ntmps54
 go_wp2_with (with_reducible apply eG)
 refine ⟨eH h ak ak ?_⟩
 intro b3 w3 h3
 have h4:Sat w0 w3 (bG r m seg p ps pn d::pt b3 (.cells (aA k).toArray 31 (0,0))::aJ pn mp B::aI p m L::aH m M::F):=h3.sb
 clear h h3
 go_wp2_with fail
 refine (oO h4).mono ?_
 rintro ee w5 ⟨v,rfl,rfl,rfl⟩
 go_wp2_with fail
 have h5:=h4.drew
 clear h4
 refine dH [5,6,7,8,10,11] (fun w'=>w'.cell? ⟨r,4,none⟩=some (.pointer (some ⟨pn,0,none⟩))∧w'.rangeAt b3 0 (aA k)) au ?_
 have kH:∀ (w':World) (R:List aG),Sat w0 w' (bG r m seg p ps pn d::pt b3 (.cells (aA k).toArray 31 (0,0))::R)→w'.cell? ⟨r,4,none⟩=some (.pointer (some ⟨pn,0,none⟩))∧w'.rangeAt b3 0 (aA k):=fun w' R hw=>⟨hw.cellP aT 4 rfl,fun j z hj=>by rw [aen];exact hw.cellP aZ j (by rw [abL];exact hj)⟩
 have kU:=uQ kH
 have hG:=kH _ _ h5
 clear kH
 refine rP 0 ?_ (y:=aX)
 refine rP 1 ?_ (y:=dZ)
 refine rP 2 ?_ (y:=cO)
 refine rt 3 (h:=?_)
 refine eP 4 ak au bK (ig (b:=b3) (o:=0) (aA k) ah Tryz.underlying31 rfl (by rw [gJ.out];kernel_rfl) (fun w hw=>hw.2)) aQ gQ ?_
 clear hG
 refine yL 5 9 ak ak au (fun K hK=>?_) (fun K hK=>?_)
 focus
  (refine gy au ak ak ?_)
  refine (HT.out _ _ (h5.sb:Sat w0 _ (aJ pn mp B::bG r m seg p ps pn d::pt b3 (.cells (aA k).toArray 31 (0,0))::aI p m L::aH m M::F))).mono ?_
  rintro ee w6 ⟨v,rfl,rfl,h6⟩
  refine hK _ _ (.inl rfl) ?_
  clear hK h5
  refine rP 6 ?_ (y:=aX)
  refine rP 7 ?_ (y:=(jw ak dh))
  refine rP 8 ?_ (y:=(jw ak dh))
  refine bV 9 ak au (fun K hK=>?_)
  refine ql (og) h6 rfl ?_
  intro b6 w7 h7
  refine hK _ _ (.inr (.inl (kU.out _ _ (h7.sb:Sat w0 w7 (bG r m seg p ps pn d::pt b3 (.cells (aA k).toArray 31 (0,0))::pt b6 (.cells (aK Seg.aU.zero).toArray 116 (0,0))::aJ pn mp B::aI p m L::aH m M::F))))) ?_
  clear hK h6
  have h8:Sat w0 w7 (pt b6 (.cells (aK Seg.aU.zero).toArray 116 (0,0))::bG r m seg p ps pn d::pt b3 (.cells (aA k).toArray 31 (0,0))::aJ pn mp B::aI p m L::aH m M::F):=h7.sb
  clear h7
 rotate_left
 focus
  refine ql (og) h5 rfl ?_
  intro b6 w6 h6
  refine hK _ _ (.inr (.inl (kU.out _ _ (h6.sb:Sat w0 w6 (bG r m seg p ps pn d::pt b3 (.cells (aA k).toArray 31 (0,0))::pt b6 (.cells (aK Seg.aU.zero).toArray 116 (0,0))::aJ pn mp B::aI p m L::aH m M::F))))) ?_
  clear hK h5
  refine bV 5 ak au (fun K hK=>?_)
  (refine gy au ak ak ?_)
  refine (HT.out _ _ (h6.sb:Sat w0 _ (aJ pn mp B::pt b6 (.cells (aK Seg.aU.zero).toArray 116 (0,0))::bG r m seg p ps pn d::pt b3 (.cells (aA k).toArray 31 (0,0))::aI p m L::aH m M::F))).mono ?_
  rintro ee w7 ⟨v,rfl,rfl,h7⟩
  refine hK _ _ (.inl rfl) ?_
  clear hK h6
  refine rP 6 ?_ (y:=aX)
  refine rP 7 ?_ (y:=(jw ak dh))
  refine rP 8 ?_ (y:=(jw ak dh))
  have h8:Sat w0 w7 (pt b6 (.cells (aK Seg.aU.zero).toArray 116 (0,0))::bG r m seg p ps pn d::pt b3 (.cells (aA k).toArray 31 (0,0))::aJ pn mp B::aI p m L::aH m M::F):=h7.sb
  clear h7
 all_goals
  refine bV 10 ak au (fun K hK=>?_)
  refine kP (cs':=(aK pl).toArray) h8 ak ak ah bZ bF au ah ?_
  intro w9 h9
  refine hK _ _ (.inl rfl) ?_
  clear hK h8
  refine rP 11 ?_ (y:=fJ)
  refine dD au ?_
  go_wp2_with fail
  have h10:=h9.drew
  clear h9 kU
  refine dH [5,6,7,8,10,11] (fun w'=>w'.cell? ⟨r,2,none⟩=some (.pointer (some ⟨p,0,none⟩))∧w'.rangeAt b6 0 (aK pl)) au ?_
  have kH:∀ (w':World) (R:List aG),Sat w0 w' (pt b6 (.cells (aK pl).toArray 116 (0,0))::bG r m seg p ps pn d::R)→w'.cell? ⟨r,2,none⟩=some (.pointer (some ⟨p,0,none⟩))∧w'.rangeAt b6 0 (aK pl):=fun w' R hw=>⟨hw.cellP aZ 2 rfl,fun j z hj=>by rw [aen];exact hw.cellP aT j (by rw [abL];exact hj)⟩
  have kU:=uQ kH
  have hG:=kH _ _ h10
  clear kH
  refine rP 0 ?_ (y:=aX)
  refine rP 1 ?_ (y:=dZ)
  refine rP 2 ?_ (y:=cO)
  refine rt 3 (h:=?_)
  refine eP 4 ak au bK (ig (b:=b6) (o:=0) (aK pl) ah Tryz.underlying116 rfl au (fun w hw=>hw.2)) aQ gQ ?_
  clear hG
  refine yL 5 9 ak ak au (fun K hK=>?_) (fun K hK=>?_)
  focus
   (refine gy au ak ak ?_)
   refine (HR.out _ _ (Ro.os HH.out) (h10.sb:Sat w0 _ (aI p m L::aH m M::pt b6 (.cells (aK pl).toArray 116 (0,0))::bG r m seg p ps pn d::pt b3 (.cells (aA k).toArray 31 (0,0))::aJ pn mp B::F))).mono ?_
   rintro ee jd ⟨v,rfl,da,dc,rfl,h11⟩
   refine hK _ _ (.inl rfl) ?_
   clear hK h10
   refine rP 6 ?_ (y:=aX)
   refine rP 7 ?_ (y:=(jw ak dh))
   refine rP 8 ?_ (y:=(jw ak dh))
   refine bV 9 ak au (fun K hK=>?_)
   refine ql (yV) h11 rfl ?_
   intro b8 w12 h12
   refine hK _ _ (.inr (.inl (kU.out _ _ (h12.sb:Sat w0 w12 (pt b6 (.cells (aK pl).toArray 116 (0,0))::bG r m seg p ps pn d::pt b8 (.cells uO.cells 78 (0,0))::bJ (.slice da data.length dc) data::aI p m L::aH m M::pt b3 (.cells (aA k).toArray 31 (0,0))::aJ pn mp B::F))))) ?_
   clear hK h11
  rotate_left
  focus
   refine ql (yV) h10 rfl ?_
   intro b8 jd h11
   refine hK _ _ (.inr (.inl (kU.out _ _ (h11.sb:Sat w0 jd (pt b6 (.cells (aK pl).toArray 116 (0,0))::bG r m seg p ps pn d::pt b8 (.cells uO.cells 78 (0,0))::pt b3 (.cells (aA k).toArray 31 (0,0))::aJ pn mp B::aI p m L::aH m M::F))))) ?_
   clear hK h10
   refine bV 5 ak au (fun K hK=>?_)
   (refine gy au ak ak ?_)
   refine (HR.out _ _ (Ro.os HH.out) (h11.sb:Sat w0 _ (aI p m L::aH m M::pt b8 (.cells uO.cells 78 (0,0))::pt b6 (.cells (aK pl).toArray 116 (0,0))::bG r m seg p ps pn d::pt b3 (.cells (aA k).toArray 31 (0,0))::aJ pn mp B::F))).mono ?_
   rintro ee w12 ⟨v,rfl,da,dc,rfl,h12⟩
   refine hK _ _ (.inl rfl) ?_
   clear hK h11
   refine rP 6 ?_ (y:=aX)
   refine rP 7 ?_ (y:=(jw ak dh))
   refine rP 8 ?_ (y:=(jw ak dh))
   replace h12:Sat w0 w12 (pt b8 (.cells uO.cells 78 (0,0))::bJ (.slice da data.length dc) data::aI p m L::aH m M::pt b6 (.cells (aK pl).toArray 116 (0,0))::bG r m seg p ps pn d::pt b3 (.cells (aA k).toArray 31 (0,0))::aJ pn mp B::F):=h12.sb
  all_goals
   refine bV 10 ak au (fun K hK=>?_)
   refine kP (cs':=dG ⟨0,k,data⟩ (.slice da data.length dc)) (v:= .agg (dG ⟨0,k,data⟩ (.slice da data.length dc))) h12 ak ak (by exact afE (show (dG aj.zeroE (.slice none 0 0)).size=(dG ⟨0,k,data⟩ (.slice da data.length dc)).size by rw [dW _ _ (show (⟨0,k,data⟩:aj.aP).key.length=32 from Hk.out)];rfl)) bZ (show 0+(dG ⟨0,k,data⟩ (.slice da data.length dc)).size≤(dG aj.zeroE (.slice none 0 0)).size by rw [dW _ _ (show (⟨0,k,data⟩:aj.aP).key.length=32 from Hk.out)];exact acy _) (show _=some (dG ⟨0,k,data⟩ (.slice da data.length dc)).size by rw [dW _ _ (show (⟨0,k,data⟩:aj.aP).key.length=32 from Hk.out)];exact CY) (Q9 _ _ _ _) ?_
   intro jF h13
   refine hK _ _ (.inl rfl) ?_
   clear hK h12
   refine rP 11 ?_ (y:=fJ)
   refine dD au ?_
   have e0:jF.cell? ⟨b8,0,none⟩=some (.int .i64 0):=h13.cellP aT 0 (by unfold dG;rw [abL];rfl)
   have f1:jF.rangeAt b8 1 (aA k):=fun j z hj=>h13.cellP aT (1+j) (by unfold dG;rw [abL];exact abM (⟨0,k,data⟩:aj.aP) _ hj)
   have f2:jF.rangeAt b3 0 (aA k):=fun j z hj=>by rw [aen];exact (h13.pk (A:=pt b3 (.cells (aA k).toArray 31 (0,0)))).cellAt j z (by rw [abL];exact hj)
   have e33:jF.cell? ⟨b8,33,none⟩=some (.slice da data.length dc):=h13.cellP aT 33 (by unfold dG;rw [abL];exact abK (⟨0,k,data⟩:aj.aP) _ Hk.out)
   have hnk:∀ w,(binOp .neq 31 (.agg (aA k).toArray) (.agg (aA k).toArray)).run Tryz.prog w = .ok (.bool false) w:=fun w=>by rw [U4 k k Hk.out Hk.out w];simp
   have hcl:=tZ h13 (Sat.rd (h13.sb:Sat w0 jF (bJ (.slice da data.length dc) data::F))) IW.out
   clear kU HH HR HT
   go_wp2_with (first
    |((with_reducible refine bD ⟨?_⟩);first
     |refine gU (b:=b8) (o:=1) (aA k) ah f1 Tryz.underlying31 rfl (by rw [gJ.out];kernel_rfl) ?_
     |refine gU (b:=b3) (o:=0) (aA k) ah f2 Tryz.underlying31 rfl (by rw [gJ.out];kernel_rfl) ?_)
    |((with_reducible apply ain);refine ⟨?_⟩;refine XY (by first|rfl|kernel_rfl) ?_))
   refine hcl.mono ?_
   rintro ee kR ⟨v,rfl,gW,a,n,c,rfl⟩
   clear hcl
   go_wp2_with fail
   go_ret2
   exact ⟨_,rfl,_,a,n,c,rfl,rfl,gW.sb⟩
end
section
variable {w0 w:World}{F:List aG}{p m K r ps pn B:Nat}{L:Seg.Log}{M:ay}{seg:Int}{d:Bool}{k:aj.Bs}{mp:aj.Bs→Option Seg.aU}
set_option maxRecDepth 20000 in
theorem agw (hB:B≤134217000) (hk:k.length=32) (data:aj.Bs) (da:Option Addr) (dc:Nat) (hd:Ro w0 F (bg 1 (.slice da data.length dc) (aA data))) (qK:data.length≤1099511627) (hL:L.Ok) (hM:M.Ok K) (jK:K+4≤1099511627776) (hH:Ro w0 F Half)
  (h0:(L.append M ⟨0,k,data⟩).2.2≠0) (h:Sat w0 w (bG r m seg p ps pn d::aJ pn mp B::aI p m L::aH m M::F)) :
  Calls Tryz.prog 21 #[ptr r,.agg (aA k).toArray,.slice da data.length dc] w (aO fun v w'=>v=errno (L.append M ⟨0,k,data⟩).2.2∧Sat w0 w' (bG r m seg p ps pn d::aJ pn mp B::aI p m (L.append M ⟨0,k,data⟩).1.1::aH m (L.append M ⟨0,k,data⟩).1.2::F)):=by
 have hks:(aA k).length=32:=by rw [aV,hk]
 have hap:=uQ (fun (w':World) (R:List aG) (hh:Ro w0 R Half) (hr:Ro w0 R (bg 1 (.slice da data.length dc) (aA data))) (hw:Sat w0 w' (aI p m L::aH m M::R))=>Df ⟨0,k,data⟩ hk da dc hr hh qK hL hM jK hw)
 generalize L.append M ⟨0,k,data⟩=q at *
 obtain ⟨⟨L2,M2⟩,pc,e2⟩:=q
 dsimp only at h0 hap ⊢
 have hb:(e2 != 0)=true:=aj6.2 h0
 have HB:=uQ hB;have dO:=uQ hk;have gJ:=uQ hks;have Hd:=uQ hd;have HH:=uQ hH
 clear hB hk hks hd qK hL hM jK hH
 go_enter Tryz.func21,Tryz.ntmps21
 go_wp2_with (with_reducible apply eG)
 refine ⟨eH h ak ak ?_⟩
 intro b4 w4 h4
 replace h4:Sat w0 w4 (pt b4 (.cells (aA k).toArray 31 (0,0))::bG r m seg p ps pn d::aJ pn mp B::aI p m L::aH m M::F):=h4
 clear h
 go_wp2_with fail
 refine (oO (h4.sb:Sat w0 w4 (bG r m seg p ps pn d::pt b4 (.cells (aA k).toArray 31 (0,0))::aJ pn mp B::aI p m L::aH m M::F))).mono ?_
 rintro ee w5 ⟨v,rfl,rfl,rfl⟩
 go_wp2_with fail
 have h5:=h4.drew
 clear h4
 refine dH [7,8,9,10,12,13] (fun w'=>w'.cell? ⟨r,2,none⟩=some (.pointer (some ⟨p,0,none⟩))∧w'.rangeAt b4 0 (aA k)) au ?_
 have kH:∀ (w':World) (R:List aG) (dd:Bool),Sat w0 w' (pt b4 (.cells (aA k).toArray 31 (0,0))::bG r m seg p ps pn dd::R)→w'.cell? ⟨r,2,none⟩=some (.pointer (some ⟨p,0,none⟩))∧w'.rangeAt b4 0 (aA k):=fun w' R dd hw=>⟨hw.cellP aZ 2 rfl,fun j z hj=>by rw [aen];exact hw.cellP aT j (by rw [abL];exact hj)⟩
 have kU:=uQ kH
 have hG:=kH _ _ _ h5
 clear kH
 refine rP 0 ?_ (y:=aX)
 refine rP 1 ?_ (y:=dZ)
 refine rP 2 ?_ (y:=cO)
 refine rt 3 (h:=?_)
 refine eP 4 ak au bK (ig (b:=b4) (o:=0) (aA k) ah Tryz.underlying31 rfl (by rw [gJ.out];kernel_rfl) (fun w hw=>hw.2)) aQ gQ ?_
 clear hG
 refine rP 5 ?_ (y:=aX)
 refine rP 6 ?_ (y:=(Aw ak ak ak (fun w=>Xd ⟨0,k,data⟩ dO.out da data.length dc w)))
 refine yL 7 11 ak ak au (fun K hK=>?_) (fun K hK=>?_)
 ·(refine gy au ak ak ?_)
  refine (hap.out _ _ (Ro.os HH.out) (Ro.os Hd.out) (h5.sb:Sat w0 _ (aI p m L::aH m M::pt b4 (.cells (aA k).toArray 31 (0,0))::bG r m seg p ps pn d::aJ pn mp B::F))).mono ?_
  rintro ee w6 ⟨v,rfl,rfl,h6⟩
  refine hK _ _ (.inl rfl) ?_
  clear hK hap h5
  refine rP 8 ?_ (y:=aX)
  refine rP 9 ?_ (y:=(jw ak dh))
  refine rP 10 ?_ (y:=(jw ak dh))
  refine bV 11 ak au (fun K hK=>?_)
  refine ql (og) h6 rfl ?_
  intro b7 w7 h7
  refine hK _ _ (.inr (.inl (kU.out _ _ _ (h7.sb:Sat w0 w7 (pt b4 (.cells (aA k).toArray 31 (0,0))::bG r m seg p ps pn d::aJ pn mp B::pt b7 (.cells (aK Seg.aU.zero).toArray 116 (0,0))::aI p m L2::aH m M2::F))))) ?_
  clear hK h6
  have h8:Sat w0 w7 (pt b7 (.cells (aK Seg.aU.zero).toArray 116 (0,0))::pt b4 (.cells (aA k).toArray 31 (0,0))::bG r m seg p ps pn d::aJ pn mp B::aI p m L2::aH m M2::F):=h7.sb
  clear h7
  refine bV 12 ak au (fun K hK=>?_)
  refine kP (cs':=(aK pc).toArray) h8 ak ak ah bZ bF au ah ?_
  intro w9 h9
  refine hK _ _ (.inl rfl) ?_
  clear hK h8
  refine rP 13 ?_ (y:=fJ)
  refine dD au ?_
  go_wp2_with fail
  go_ret
  exact ⟨_,rfl,rfl,h9.sb⟩
 ·refine ql (og) h5 rfl ?_
  intro b7 w6 h6
  refine hK _ _ (.inr (.inl (kU.out _ _ _ (h6.sb:Sat w0 w6 (pt b4 (.cells (aA k).toArray 31 (0,0))::bG r m seg p ps pn d::pt b7 (.cells (aK Seg.aU.zero).toArray 116 (0,0))::aJ pn mp B::aI p m L::aH m M::F))))) ?_
  clear hK h5
  refine bV 7 ak au (fun K hK=>?_)
  (refine gy au ak ak ?_)
  refine (hap.out _ _ (Ro.os HH.out) (Ro.os Hd.out) (h6.sb:Sat w0 _ (aI p m L::aH m M::pt b7 (.cells (aK Seg.aU.zero).toArray 116 (0,0))::pt b4 (.cells (aA k).toArray 31 (0,0))::bG r m seg p ps pn d::aJ pn mp B::F))).mono ?_
  rintro ee w7 ⟨v,rfl,rfl,h7⟩
  refine hK _ _ (.inl rfl) ?_
  clear hK hap h6
  refine rP 8 ?_ (y:=aX)
  refine rP 9 ?_ (y:=(jw ak dh))
  refine rP 10 ?_ (y:=(jw ak dh))
  have h8:Sat w0 w7 (pt b7 (.cells (aK Seg.aU.zero).toArray 116 (0,0))::pt b4 (.cells (aA k).toArray 31 (0,0))::bG r m seg p ps pn d::aJ pn mp B::aI p m L2::aH m M2::F):=h7.sb
  clear h7
  refine bV 12 ak au (fun K hK=>?_)
  refine kP (cs':=(aK pc).toArray) h8 ak ak ah bZ bF au ah ?_
  intro w9 h9
  refine hK _ _ (.inl rfl) ?_
  clear hK h8
  refine rP 13 ?_ (y:=fJ)
  refine dD au ?_
  go_wp2_with fail
  go_ret
  exact ⟨_,rfl,rfl,h9.sb⟩
end
def fC (q:aj.Bs×Seg.aU):List Value:=aA q.1++aK q.2
theorem ku (q:aj.Bs×Seg.aU) (hk:q.1.length=32):(fC q).length=35:=by unfold fC;rw [aal,aV,hk];rfl
theorem C9 (q:aj.Bs×Seg.aU):(fC q).all (·.oneCell')=true:=by unfold fC;rw [ajZ,qJ];rfl
theorem afr:qW Tryz.prog 243=some [(0,32),(32,3)]:=by kernel_rfl
theorem Iq:jy Tryz.prog 243=some (.agg (fC (aj.zero32,Seg.aU.zero)).toArray):=by kernel_rfl
theorem Xf (k:aj.Bs) (hk:k.length=32) (v:Seg.aU) (w:World):(Instr.build 243 #[(0,.agg (aA k).toArray),(1,.agg (aK v).toArray)]).run Tryz.prog w = .ok (.agg (fC (k,v)).toArray) w:=by
 have h:=ak8 (P:=Tryz.prog) [(0,.agg (aA k).toArray),(1,.agg (aK v).toArray)] afr Iq (by
  intro p hp
  have hzz:(Value.agg (fC (aj.zero32,Seg.aU.zero)).toArray).cells.size=35:=by rfl
  rw [hzz]
  rcases aer.1 hp with rfl|hp
  ·refine ⟨0,?_,?_⟩
   ·show some (0,32)=some (0,(aA k).toArray.size);rw [aaI,aV,hk]
   ·show 0+(aA k).toArray.size≤35
    rw [aaI,aV,hk];decide
  ·rw [aiR.1 hp]
   exact ⟨32,rfl,by show 32+3≤35;omega⟩) w
 refine h.trans ?_
 have hz:aj.zero32.length=32:=rfl
 have hzl:(fC (aj.zero32,Seg.aU.zero)).length=35:=ku _ hz
 have e:dM (dM (fC (aj.zero32,Seg.aU.zero)).toArray 0 (aA k)) 32 (aK v)=(fC (k,v)).toArray:=by
  apply nT
  rw [uH _ _ _ (by rw [jM,aaI,hzl];exact acy 35),uH _ _ _ (by rw [aaI,hzl,aV,hk];decide),adM]
  have e1:jL (fC (aj.zero32,Seg.aU.zero)) 0 (aA k)=aA k++aK Seg.aU.zero:=by
   unfold fC
   rw [zX _ _ _ _ (by rw [aV,aV,hk,hz];decide),wF (by rw [aV,aV,hk,hz])]
  have h0:=wG (aA k) (aK Seg.aU.zero) (aK v) 0
  rw [aV,hk,wF (xs:=aK Seg.aU.zero) (vs:=aK v) ah]at h0
  rw [e1]
  exact h0
 exact aje (fun x=>Result.ok (Value.agg x) w) e
section
variable {P:Program}{ops:Array Oper}{a:Act}{dst:Option Tmp}{t ty:TypeId}{pos:String}{after:Array Edge}{x y:Operand}{v v1 v2:Value}{i1 i2:Nat}
theorem OG (hx:a.eval x=v1) (hy:a.eval y=v2) (hr:∀ w,(Instr.build ty #[(i1,v1),(i2,v2)]).run P w = .ok v w):Yields P ops ⟨dst,.build ty #[(i1,x),(i2,y)],t,pos,after,none⟩ v a:=
 .inl ⟨kS _ rfl,fun w=>by simp only [execOp,ajR,ag8,ajP,hx,hy,adO,hr,ac2,aeC]⟩
end
section
variable {w0 w:World}{F:List aG}{p B:Nat}{m:aj.Bs→Option (Seg.aU)}
end
section
variable {w0 w:World}{F:List aG}{p m K r ps pn B:Nat}{L:Seg.Log}{M:ay}{seg:Int}{d:Bool}{k:aj.Bs}{mp:aj.Bs→Option Seg.aU}
theorem VX (cs:Array Value) (hs:cs.size=34) (u:Value) (kl:List Value) (hk:kl.length=32):(dM (dM cs 0 [u]) 1 kl).toList=u::(kl++cs.toList.drop 33):=by
 have hcl:cs.toList.length=34:=by simpa using hs
 rw [jU _ _ _ (by rw [jM];omega),jU _ _ _ (by simp;omega)]
 simp only [ajD,ajd,adX,aen]
 rw [List.singleton_append,alk,ajD,hk,show 1+32=32+1 by omega,ak5,ak3]
 simp
set_option maxRecDepth 20000 in
theorem Xc (k:aj.Bs) (hk:k.length=32) (w:World) :
  (Instr.build 78 #[(0,.int .i64 1),(1,.agg (aA k).toArray)]).run Tryz.prog w = .ok (.agg (dG ⟨1,k,[]⟩ (.slice none 0 0))) w:=by
 have hz:(dG aj.zeroE (.slice none 0 0)).size=34:=dW _ _ rfl
 have hks:(aA k).toArray.size=32:=by simp [aA,hk]
 have h:=ak8 (P:=Tryz.prog) [(0,.int .i64 1),(1,.agg (aA k).toArray)] Gg yV (by
  intro p hp
  simp only [aer,ajU,alb]at hp
  have hzz:uO.cells.size=34:=hz
  rw [hzz]
  rcases hp with rfl|rfl
  ·exact ⟨0,rfl,by show 0+1≤34;omega⟩
  ·refine ⟨1,?_,?_⟩
   ·show some (1,32)=some (1,(aA k).toArray.size);rw [hks]
   ·show 1+(aA k).toArray.size≤34;rw [hks];omega) w
 refine h.trans ?_
 congr 2
 apply nT
 refine (VX _ hz _ _ (show (aA k).toArray.toList.length=32 by rw [adM,aV,hk])).trans ?_
 rfl
set_option maxRecDepth 20000 in
theorem agr (hB:B≤134217000) (hk:k.length=32) (hm:mp k=none) (h:Sat w0 w (bG r m seg p ps pn d::aJ pn mp B::aI p m L::aH m M::F)) :
  Calls Tryz.prog 49 #[ptr r,.agg (aA k).toArray] w (aO fun v w'=>v=errno 9∧Sat w0 w' (bG r m seg p ps pn d::aJ pn mp B::aI p m L::aH m M::F)):=by
 have Hk:=uQ hk;have gJ:=uQ (show (aA k).length=32 by rw [aV,hk]);have HB:=uQ hB
 have HX:=uQ (fun (w':World) (R:List aG) (hw:Sat w0 w' (bG r m seg p ps pn d::aJ pn mp B::R))=>Nr (adr hB aN) hk hw)
 rw [hm,Option.isSome_none]at HX
 clear hk hB hm
 go_enter Tryz.func49,Tryz.ntmps49
 go_wp2_with (with_reducible apply eG)
 refine ⟨eH h ak ak ?_⟩
 intro b3 w3 h3
 have h4:Sat w0 w3 (bG r m seg p ps pn d::aJ pn mp B::pt b3 (.cells (aA k).toArray 31 (0,0))::aI p m L::aH m M::F):=h3.sb
 clear h h3
 go_wp2_with fail
 refine (oO h4).mono ?_
 rintro ee w5 ⟨v,rfl,rfl,rfl⟩
 go_wp2_with ((with_reducible refine bD ⟨?_⟩);refine gI h4 ah fG Tryz.underlying31 rfl (by rw [aaI,gJ.out];kernel_rfl) ?_)
 refine (HX.out _ _ h4).mono ?_
 rintro ee w6 ⟨v,rfl,rfl,h6⟩
 clear h4
 go_wp2_with fail
 go_ret
 exact ⟨_,rfl,rfl,h6.sb⟩
set_option maxRecDepth 20000 in
theorem agq (hB:B≤134217000) (hk:k.length=32) (pl:Seg.aU) (hm:mp k=some pl) (hL:L.Ok) (hM:M.Ok K) (jK:K+4≤1099511627776) (hH:Ro w0 F Half) (h0:(L.append M ⟨1,k,[]⟩).2.2≠0) (h:Sat w0 w (bG r m seg p ps pn d::aJ pn mp B::aI p m L::aH m M::F)) :
  Calls Tryz.prog 49 #[ptr r,.agg (aA k).toArray] w (aO fun v w'=>v=errno (L.append M ⟨1,k,[]⟩).2.2∧Sat w0 w' (bG r m seg p ps pn d::aJ pn mp B::aI p m (L.append M ⟨1,k,[]⟩).1.1::aH m (L.append M ⟨1,k,[]⟩).1.2::F)):=by
 have Hk:=uQ hk;have gJ:=uQ (show (aA k).length=32 by rw [aV,hk]);have HB:=uQ hB
 have HX:=uQ (fun (w':World) (R:List aG) (hw:Sat w0 w' (bG r m seg p ps pn d::aJ pn mp B::R))=>Nr (adr hB aN) hk hw)
 rw [hm,Option.isSome_some]at HX
 have hap:=uQ (fun (w':World) (R:List aG) (hh:Ro w0 R Half) (hw:Sat w0 w' (aI p m L::aH m M::R))=>Df ⟨1,k,[]⟩ hk none 0 (fun w _=>yI 1 0 w) hh (afm _) hL hM jK hw)
 generalize L.append M ⟨1,k,[]⟩=q at *
 obtain ⟨⟨L2,M2⟩,pc,e2⟩:=q
 dsimp only at h0 hap ⊢
 have HH:=uQ hH
 have hb:(e2 != 0)=true:=aj6.2 h0
 clear hk hB hm hL hM jK hH h0
 go_enter Tryz.func49,Tryz.ntmps49
 go_wp2_with (with_reducible apply eG)
 refine ⟨eH h ak ak ?_⟩
 intro b3 w3 h3
 have h4:Sat w0 w3 (bG r m seg p ps pn d::aJ pn mp B::pt b3 (.cells (aA k).toArray 31 (0,0))::aI p m L::aH m M::F):=h3.sb
 clear h h3
 go_wp2_with fail
 refine (oO h4).mono ?_
 rintro ee w5 ⟨v,rfl,rfl,rfl⟩
 go_wp2_with ((with_reducible refine bD ⟨?_⟩);refine gI h4 ah fG Tryz.underlying31 rfl (by rw [aaI,gJ.out];kernel_rfl) ?_)
 refine (HX.out _ _ h4).mono ?_
 rintro ee w6 ⟨v,rfl,rfl,h6⟩
 clear h4
 go_wp2_with fail
 have h5:Sat w0 _ (pt b3 (.cells (aA k).toArray 31 (0,0))::bG r m seg p ps pn d::aJ pn mp B::aI p m L::aH m M::F):=(h6.drew).sb
 clear h6
 refine dH [6,7,8,9,11,12] (fun w'=>w'.cell? ⟨r,2,none⟩=some (.pointer (some ⟨p,0,none⟩))∧w'.rangeAt b3 0 (aA k)) au ?_
 have kH:∀ (w':World) (R:List aG),Sat w0 w' (pt b3 (.cells (aA k).toArray 31 (0,0))::bG r m seg p ps pn d::R)→w'.cell? ⟨r,2,none⟩=some (.pointer (some ⟨p,0,none⟩))∧w'.rangeAt b3 0 (aA k):=fun w' R hw=>⟨hw.cellP aZ 2 rfl,fun j z hj=>by rw [aen];exact hw.cellP aT j (by rw [abL];exact hj)⟩
 have kU:=uQ kH
 have hG:=kH _ _ h5
 clear kH
 refine rP 0 ?_ (y:=aX)
 refine rP 1 ?_ (y:=dZ)
 refine rP 2 ?_ (y:=cO)
 refine rt 3 (h:=?_)
 refine eP 4 ak au bK (ig (b:=b3) (o:=0) (aA k) ah Tryz.underlying31 rfl (by rw [gJ.out];kernel_rfl) (fun w hw=>hw.2)) aQ gQ ?_
 clear hG
 refine rP 5 ?_ (y:=(OG ak ak (fun w=>Xc k Hk.out w)))
 refine yL 6 10 ak ak au (fun K hK=>?_) (fun K hK=>?_)
 ·(refine gy au ak ak ?_)
  refine (hap.out _ _ (Ro.os HH.out) (h5.sb:Sat w0 _ (aI p m L::aH m M::pt b3 (.cells (aA k).toArray 31 (0,0))::bG r m seg p ps pn d::aJ pn mp B::F))).mono ?_
  rintro ee w6 ⟨v,rfl,rfl,h6⟩
  refine hK _ _ (.inl rfl) ?_
  clear hK hap h5
  refine rP 7 ?_ (y:=aX)
  refine rP 8 ?_ (y:=(jw ak dh))
  refine rP 9 ?_ (y:=(jw ak dh))
  refine bV 10 ak au (fun K hK=>?_)
  refine ql (og) h6 rfl ?_
  intro b7 w7 h7
  refine hK _ _ (.inr (.inl (kU.out _ _ (h7.sb:Sat w0 w7 (pt b3 (.cells (aA k).toArray 31 (0,0))::bG r m seg p ps pn d::aJ pn mp B::pt b7 (.cells (aK Seg.aU.zero).toArray 116 (0,0))::aI p m L2::aH m M2::F))))) ?_
  clear hK h6
  have h8:Sat w0 w7 (pt b7 (.cells (aK Seg.aU.zero).toArray 116 (0,0))::pt b3 (.cells (aA k).toArray 31 (0,0))::bG r m seg p ps pn d::aJ pn mp B::aI p m L2::aH m M2::F):=h7.sb
  clear h7
  refine bV 11 ak au (fun K hK=>?_)
  refine kP (cs':=(aK pc).toArray) h8 ak ak ah bZ bF au ah ?_
  intro w9 h9
  refine hK _ _ (.inl rfl) ?_
  clear hK h8
  refine rP 12 ?_ (y:=fJ)
  refine dD au ?_
  go_wp2_with fail
  go_ret
  exact ⟨_,rfl,rfl,h9.sb⟩
 ·refine ql (og) h5 rfl ?_
  intro b7 w6 h6
  refine hK _ _ (.inr (.inl (kU.out _ _ (h6.sb:Sat w0 w6 (pt b3 (.cells (aA k).toArray 31 (0,0))::bG r m seg p ps pn d::pt b7 (.cells (aK Seg.aU.zero).toArray 116 (0,0))::aJ pn mp B::aI p m L::aH m M::F))))) ?_
  clear hK h5
  refine bV 6 ak au (fun K hK=>?_)
  (refine gy au ak ak ?_)
  refine (hap.out _ _ (Ro.os HH.out) (h6.sb:Sat w0 _ (aI p m L::aH m M::pt b7 (.cells (aK Seg.aU.zero).toArray 116 (0,0))::pt b3 (.cells (aA k).toArray 31 (0,0))::bG r m seg p ps pn d::aJ pn mp B::F))).mono ?_
  rintro ee w7 ⟨v,rfl,rfl,h7⟩
  refine hK _ _ (.inl rfl) ?_
  clear hK hap h6
  refine rP 7 ?_ (y:=aX)
  refine rP 8 ?_ (y:=(jw ak dh))
  refine rP 9 ?_ (y:=(jw ak dh))
  have h8:Sat w0 w7 (pt b7 (.cells (aK Seg.aU.zero).toArray 116 (0,0))::pt b3 (.cells (aA k).toArray 31 (0,0))::bG r m seg p ps pn d::aJ pn mp B::aI p m L2::aH m M2::F):=h7.sb
  clear h7
  refine bV 11 ak au (fun K hK=>?_)
  refine kP (cs':=(aK pc).toArray) h8 ak ak ah bZ bF au ah ?_
  intro w9 h9
  refine hK _ _ (.inl rfl) ?_
  clear hK h8
  refine rP 12 ?_ (y:=fJ)
  refine dD au ?_
  go_wp2_with fail
  go_ret
  exact ⟨_,rfl,rfl,h9.sb⟩
set_option maxRecDepth 20000 in
theorem ags (hB:B≤134217000) (hk:k.length=32) (pl:Seg.aU) (hm:mp k=some pl) (hL:L.Ok) (hM:M.Ok K) (jK:K+4≤1099511627776) (hH:Ro w0 F Half) (h0:(L.append M ⟨1,k,[]⟩).2.2=0) (h:Sat w0 w (bG r m seg p ps pn d::aJ pn mp B::aI p m L::aH m M::F)) :
  Calls Tryz.prog 49 #[ptr r,.agg (aA k).toArray] w (aO fun v w'=>v=errno 0∧Sat w0 w' (bG r m seg p ps pn true::aJ pn (Tab.del mp k) B::aI p m (L.append M ⟨1,k,[]⟩).1.1::aH m (L.append M ⟨1,k,[]⟩).1.2::F)):=by
 have Hk:=uQ hk;have gJ:=uQ (show (aA k).length=32 by rw [aV,hk]);have HB:=uQ hB
 have HX:=uQ (fun (w':World) (R:List aG) (hw:Sat w0 w' (bG r m seg p ps pn d::aJ pn mp B::R))=>Nr (adr hB aN) hk hw)
 rw [hm,Option.isSome_some]at HX
 have hap:=uQ (fun (w':World) (R:List aG) (hh:Ro w0 R Half) (hw:Sat w0 w' (aI p m L::aH m M::R))=>Df ⟨1,k,[]⟩ hk none 0 (fun w _=>yI 1 0 w) hh (afm _) hL hM jK hw)
 generalize L.append M ⟨1,k,[]⟩=q at *
 obtain ⟨⟨L2,M2⟩,pc,e2⟩:=q
 dsimp only at h0 hap ⊢
 have HH:=uQ hH
 subst h0
 clear hk hB hm hL hM jK hH
 go_enter Tryz.func49,Tryz.ntmps49
 go_wp2_with (with_reducible apply eG)
 refine ⟨eH h ak ak ?_⟩
 intro b3 w3 h3
 have h4:Sat w0 w3 (bG r m seg p ps pn d::aJ pn mp B::pt b3 (.cells (aA k).toArray 31 (0,0))::aI p m L::aH m M::F):=h3.sb
 clear h h3
 go_wp2_with fail
 refine (oO h4).mono ?_
 rintro ee w5 ⟨v,rfl,rfl,rfl⟩
 go_wp2_with ((with_reducible refine bD ⟨?_⟩);refine gI h4 ah fG Tryz.underlying31 rfl (by rw [aaI,gJ.out];kernel_rfl) ?_)
 refine (HX.out _ _ h4).mono ?_
 rintro ee w6 ⟨v,rfl,rfl,h6⟩
 clear h4
 go_wp2_with fail
 have h5:Sat w0 _ (pt b3 (.cells (aA k).toArray 31 (0,0))::bG r m seg p ps pn d::aJ pn mp B::aI p m L::aH m M::F):=(h6.drew).sb
 clear h6
 refine dH [6,7,8,9,11,12] (fun w'=>w'.cell? ⟨r,2,none⟩=some (.pointer (some ⟨p,0,none⟩))∧w'.rangeAt b3 0 (aA k)) au ?_
 have kH:∀ (w':World) (R:List aG),Sat w0 w' (pt b3 (.cells (aA k).toArray 31 (0,0))::bG r m seg p ps pn d::R)→w'.cell? ⟨r,2,none⟩=some (.pointer (some ⟨p,0,none⟩))∧w'.rangeAt b3 0 (aA k):=fun w' R hw=>⟨hw.cellP aZ 2 rfl,fun j z hj=>by rw [aen];exact hw.cellP aT j (by rw [abL];exact hj)⟩
 have kU:=uQ kH
 have hG:=kH _ _ h5
 clear kH
 refine rP 0 ?_ (y:=aX)
 refine rP 1 ?_ (y:=dZ)
 refine rP 2 ?_ (y:=cO)
 refine rt 3 (h:=?_)
 refine eP 4 ak au bK (ig (b:=b3) (o:=0) (aA k) ah Tryz.underlying31 rfl (by rw [gJ.out];kernel_rfl) (fun w hw=>hw.2)) aQ gQ ?_
 clear hG
 refine rP 5 ?_ (y:=(OG ak ak (fun w=>Xc k Hk.out w)))
 refine yL 6 10 ak ak au (fun K hK=>?_) (fun K hK=>?_)
 ·(refine gy au ak ak ?_)
  refine (hap.out _ _ (Ro.os HH.out) (h5.sb:Sat w0 _ (aI p m L::aH m M::pt b3 (.cells (aA k).toArray 31 (0,0))::bG r m seg p ps pn d::aJ pn mp B::F))).mono ?_
  rintro ee w6 ⟨v,rfl,rfl,h6⟩
  refine hK _ _ (.inl rfl) ?_
  clear hK hap h5
  refine rP 7 ?_ (y:=aX)
  refine rP 8 ?_ (y:=(jw ak dh))
  refine rP 9 ?_ (y:=(jw ak dh))
  refine bV 10 ak au (fun K hK=>?_)
  refine ql (og) h6 rfl ?_
  intro b7 w7 h7
  refine hK _ _ (.inr (.inl (kU.out _ _ (h7.sb:Sat w0 w7 (pt b3 (.cells (aA k).toArray 31 (0,0))::bG r m seg p ps pn d::aJ pn mp B::pt b7 (.cells (aK Seg.aU.zero).toArray 116 (0,0))::aI p m L2::aH m M2::F))))) ?_
  clear hK h6
  have h8:Sat w0 w7 (pt b7 (.cells (aK Seg.aU.zero).toArray 116 (0,0))::pt b3 (.cells (aA k).toArray 31 (0,0))::bG r m seg p ps pn d::aJ pn mp B::aI p m L2::aH m M2::F):=h7.sb
  clear h7
  refine bV 11 ak au (fun K hK=>?_)
  refine kP (cs':=(aK pc).toArray) h8 ak ak ah bZ bF au ah ?_
  intro w9 h9
  refine hK _ _ (.inl rfl) ?_
  clear hK h8
  refine rP 12 ?_ (y:=fJ)
  refine dD au ?_
  go_wp2_with fail
  have h10:Sat w0 _ (pt b3 (.cells (aA k).toArray 31 (0,0))::bG r m seg p ps pn d::aJ pn mp B::pt b7 (.cells (aK pc).toArray 116 (0,0))::aI p m L2::aH m M2::F):=(h9.drew).sb
  clear h9 kU
  refine dH [5] (fun w'=>w'.cell? ⟨r,4,none⟩=some (.pointer (some ⟨pn,0,none⟩))∧w'.rangeAt b3 0 (aA k)) au ?_
  have hG:World.cell? _ ⟨r,4,none⟩=some (.pointer (some ⟨pn,0,none⟩))∧World.rangeAt _ b3 0 (aA k):=⟨h10.cellP aZ 4 rfl,fun j z hj=>by rw [aen];exact h10.cellP aT j (by rw [abL];exact hj)⟩
  refine rP 0 ?_ (y:=aX)
  refine rP 1 ?_ (y:=dZ)
  refine rP 2 ?_ (y:=cO)
  refine rt 3 (h:=?_)
  refine eP 4 ak au bK (ig (b:=b3) (o:=0) (aA k) ah Tryz.underlying31 rfl (by rw [gJ.out];kernel_rfl) (fun w hw=>hw.2)) aQ gQ ?_
  clear hG
  refine bV 5 ak au (fun K hK=>?_)
  (refine gy au ak ak ?_)
  refine (QH HB.out Hk.out (h10.sb:Sat w0 _ (aJ pn mp B::pt b3 (.cells (aA k).toArray 31 (0,0))::bG r m seg p ps pn d::pt b7 (.cells (aK pc).toArray 116 (0,0))::aI p m L2::aH m M2::F))).mono ?_
  rintro ee jd ⟨v,rfl,rfl,h11⟩
  refine hK _ _ (.inl rfl) ?_
  clear hK h10
  refine dD au ?_
  go_wp2_with (with_reducible apply bY)
  refine ⟨eY (cs':=#[ptr m,.int .i64 seg,ptr p,ptr ps,ptr pn,.bool true]) (h11.sb:Sat w0 jd (bG r m seg p ps pn d::aJ pn (Tab.del mp k) B::pt b3 (.cells (aA k).toArray 31 (0,0))::pt b7 (.cells (aK pc).toArray 116 (0,0))::aI p m L2::aH m M2::F)) ah ah ah bZ bF au ah ?_⟩
  intro w12 h12
  go_wp2_with fail
  go_ret
  exact ⟨_,rfl,rfl,h12.sb⟩
 ·refine ql (og) h5 rfl ?_
  intro b7 w6 h6
  refine hK _ _ (.inr (.inl (kU.out _ _ (h6.sb:Sat w0 w6 (pt b3 (.cells (aA k).toArray 31 (0,0))::bG r m seg p ps pn d::pt b7 (.cells (aK Seg.aU.zero).toArray 116 (0,0))::aJ pn mp B::aI p m L::aH m M::F))))) ?_
  clear hK h5
  refine bV 6 ak au (fun K hK=>?_)
  (refine gy au ak ak ?_)
  refine (hap.out _ _ (Ro.os HH.out) (h6.sb:Sat w0 _ (aI p m L::aH m M::pt b7 (.cells (aK Seg.aU.zero).toArray 116 (0,0))::pt b3 (.cells (aA k).toArray 31 (0,0))::bG r m seg p ps pn d::aJ pn mp B::F))).mono ?_
  rintro ee w7 ⟨v,rfl,rfl,h7⟩
  refine hK _ _ (.inl rfl) ?_
  clear hK hap h6
  refine rP 7 ?_ (y:=aX)
  refine rP 8 ?_ (y:=(jw ak dh))
  refine rP 9 ?_ (y:=(jw ak dh))
  have h8:Sat w0 w7 (pt b7 (.cells (aK Seg.aU.zero).toArray 116 (0,0))::pt b3 (.cells (aA k).toArray 31 (0,0))::bG r m seg p ps pn d::aJ pn mp B::aI p m L2::aH m M2::F):=h7.sb
  clear h7
  refine bV 11 ak au (fun K hK=>?_)
  refine kP (cs':=(aK pc).toArray) h8 ak ak ah bZ bF au ah ?_
  intro w9 h9
  refine hK _ _ (.inl rfl) ?_
  clear hK h8
  refine rP 12 ?_ (y:=fJ)
  refine dD au ?_
  go_wp2_with fail
  have h10:Sat w0 _ (pt b3 (.cells (aA k).toArray 31 (0,0))::bG r m seg p ps pn d::aJ pn mp B::pt b7 (.cells (aK pc).toArray 116 (0,0))::aI p m L2::aH m M2::F):=(h9.drew).sb
  clear h9 kU
  refine dH [5] (fun w'=>w'.cell? ⟨r,4,none⟩=some (.pointer (some ⟨pn,0,none⟩))∧w'.rangeAt b3 0 (aA k)) au ?_
  have hG:World.cell? _ ⟨r,4,none⟩=some (.pointer (some ⟨pn,0,none⟩))∧World.rangeAt _ b3 0 (aA k):=⟨h10.cellP aZ 4 rfl,fun j z hj=>by rw [aen];exact h10.cellP aT j (by rw [abL];exact hj)⟩
  refine rP 0 ?_ (y:=aX)
  refine rP 1 ?_ (y:=dZ)
  refine rP 2 ?_ (y:=cO)
  refine rt 3 (h:=?_)
  refine eP 4 ak au bK (ig (b:=b3) (o:=0) (aA k) ah Tryz.underlying31 rfl (by rw [gJ.out];kernel_rfl) (fun w hw=>hw.2)) aQ gQ ?_
  clear hG
  refine bV 5 ak au (fun K hK=>?_)
  (refine gy au ak ak ?_)
  refine (QH HB.out Hk.out (h10.sb:Sat w0 _ (aJ pn mp B::pt b3 (.cells (aA k).toArray 31 (0,0))::bG r m seg p ps pn d::pt b7 (.cells (aK pc).toArray 116 (0,0))::aI p m L2::aH m M2::F))).mono ?_
  rintro ee jd ⟨v,rfl,rfl,h11⟩
  refine hK _ _ (.inl rfl) ?_
  clear hK h10
  refine dD au ?_
  go_wp2_with (with_reducible apply bY)
  refine ⟨eY (cs':=#[ptr m,.int .i64 seg,ptr p,ptr ps,ptr pn,.bool true]) (h11.sb:Sat w0 jd (bG r m seg p ps pn d::aJ pn (Tab.del mp k) B::pt b3 (.cells (aA k).toArray 31 (0,0))::pt b7 (.cells (aK pc).toArray 116 (0,0))::aI p m L2::aH m M2::F)) ah ah ah bZ bF au ah ?_⟩
  intro w12 h12
  go_wp2_with fail
  go_ret
  exact ⟨_,rfl,rfl,h12.sb⟩
end
def oG (x:aj.Bs×Seg.aU):Array Value:=#[.agg (aA x.1).toArray,.agg (aK x.2).toArray]
section
variable {w0 w:World}{F:List aG}{p B:Nat}{m:aj.Bs→Option (Seg.aU)}
theorem ZU (h:Sat w0 w F):Calls Tryz.prog 181 #[ptr p] w
  (aO fun v w'=>∃ b,v = .func (.func 226) #[] #[ptr b]∧Sat w0 w' (pt b (.cells #[ptr p] 49 (0,0))::F)):=by
 go_enter Tryz.func181,Tryz.ntmps181
 go_wp2_with (first|((with_reducible refine eG ⟨?_⟩);refine eH aQ ak ak ?_;intro bB wB hB)|(with_reducible apply eU))
 go_ret
 exact ⟨_,rfl,bB,rfl,hB⟩
set_option maxRecDepth 20000 in
theorem ZT {b:Nat}{l:List (aj.Bs×Seg.aU)} (hB:B≤13000000) (hl:Tab.Lists m l) :
  Iter Tryz.prog 226 #[ptr b] (l.map oG) w0 [aJ p m B,pt b (.cells #[ptr p] 49 (0,0))] [aJ p m B,pt b (.cells #[ptr p] 49 (0,0))]:=by
 intro ly R hY W hW
 have Hl:=uQ hl
 have hW0:Sat w0 W (aJ p m B::pt b (.cells #[ptr p] 49 (0,0))::R []):=hW
 clear hW hl
 show Calls Tryz.prog 226 #[.func (.yield ly) #[] #[],ptr b] W _
 go_enter Tryz.func226,Tryz.ntmps226
 have hr:=WA hB hW0
 go_wp2_with ((with_reducible refine bD ⟨?_⟩);refine dV hW0 ah aY bF ak au ?_)
 clear hW0
 refine hr.mono ?_
 rintro ee w1 ⟨sv,rfl,s,⟨hs1,hs2,hs3⟩,hS1⟩
 clear hr
 have e0:l=s.map fun x=>(x.key,x.val):=Hl.out.unique hs1
 clear hs1 Hl
 subst e0
 have kN:=uQ hs2;have Jv:=uQ hs3
 have Hlen:=uQ (show ∀ x∈s,(slotL aK x).length=36 from fun x hx=>iT aK x (hs2 x hx).2 3 (oM _))
 obtain ⟨la,lc,rfl⟩:=iD Hlen.out (Sat.rd hS1) aN
 have hsb:s.length≤13000000:=adr hs3 hB
 clear hs2 hs3 hB
 go_wp2_with fail
 go_loopg [8] s.length (fun g iq wr=>∃ (i:Nat),g=s.length - i∧i≤s.length∧iq = .int .i64 i ∧
  Sat w0 wr (aC 178 36 (.slice la s.length lc) (s.flatMap (slotL aK))::aJ p m B::pt b (.cells #[ptr p] 49 (0,0))::R (((s.take i).map fun x=>(x.key,x.val)).map oG)))
 case atStart=>exact ⟨0,rfl,afm _,rfl,hS1⟩
 case round=>
  obtain ⟨i,rfl,hi,rfl,hS⟩:=hrel
  clear hS1
  by_cases hlt:i<s.length
  rotate_left
  ·obtain rfl:i=s.length:=by omega
   have c1:¬ (s.length:Int)<(s.length:Int):=oQ
   rw [aiv]at hS
   clear hlt hi
   go_wp2_with fail
   go_end0
   exact ⟨_,rfl,by rw [← aj9];exact hS.drop⟩
  have c1:(i:Int)<(s.length:Int):=oQ
  have hwi:=vU (i:=i)
  obtain ⟨x,hx⟩:∃ x,s[i]?=some x:=⟨_,aak hlt⟩
  have hxm:=abA hx
  have Hxk:=uQ (kN.out x hxm).2
  obtain ⟨bk,off,c',hsv,hcell⟩:=iC Hlen.out (Sat.rd (hS.pick aT)) hx aN
  cases hsv
  have CB:=Hlen.out x hxm
  have fB:=uQ (show s.take (i+1)=s.take i++[x] by rw [ajL,hx,ajY])
  have bT:=uQ hlt
  have zh:=uQ (show (s.map fun x=>(x.key,x.val)).map oG=((s.take i).map fun x=>(x.key,x.val)).map oG++oG (x.key,x.val)::((s.drop (i+1)).map fun x=>(x.key,x.val)).map oG by
   have e:s=s.take i++x::s.drop (i+1):=by
    obtain ⟨h1,rfl⟩:=abl.1 hx
    rw [← ajX h1,ajs]
   conv=>lhs;rw [e]
   simp only [aey,ag8])
  clear hx hxm hlt hi
  go_wp2_with (first
   |((with_reducible refine bD ⟨?_⟩);refine gU (b:=bk) (o:=off+i * 36) (slotL aK x) ah hcell Tryz.underlying178 rfl (by rw [CB];kernel_rfl) ?_)
   |(with_reducible apply eU))
  refine ⟨dU uN hS rfl ?_⟩
  intro b7 w7 hS7
  go_wp2_with ((with_reducible apply bY))
  refine ⟨fE (slotL aK x).toArray hS7 ah ah (by rw [aaI,CB];rfl) bZ (by rw [aaI,CB];kernel_rfl) (by rw [adM];exact lQ aK x (uF _)) ?_⟩
  intro w10 dw
  clear hS hS7 hcell
  have f1:w10.rangeAt b7 1 (aA x.key):=qZ (dw.pick aT)
  have f2:w10.rangeAt b7 33 (aK x.val):=XD Hxk.out (dw.pick aT)
  have e1:=Tryz.underlying31
  have kJ:Sat w0 w10 (R (((s.take i).map fun x=>(x.key,x.val)).map oG)++[aC 178 36 (.slice (some ⟨bk,off,none⟩) s.length lc) (s.flatMap (slotL aK)),aJ p m B,pt b (.cells #[ptr p] 49 (0,0))]):=
   (dw.drop:Sat w0 w10 ([aC 178 36 (.slice (some ⟨bk,off,none⟩) s.length lc) (s.flatMap (slotL aK)),aJ p m B,pt b (.cells #[ptr p] 49 (0,0))]++R (((s.take i).map fun x=>(x.key,x.val)).map oG))).zl
  obtain ⟨yf,yt,ya,yb,hy,hr⟩:=hY _ _ _ w10 _ zh.out kJ
  clear kJ dw hY
  go_step
  go_step
  go_step
  refine Wp ah ?_
  intro K hK
  go_wp2_with (first
   |((with_reducible refine bD ⟨?_⟩);refine gU (b:=b7) (o:=1) (aA x.key) ah f1 e1 rfl (by rw [aV,Hxk.out];kernel_rfl) ?_)
   |((with_reducible refine bD ⟨?_⟩);refine gU (b:=b7) (o:=33) (aK x.val) ah f2 Tryz.underlying116 rfl au ?_))
  refine ⟨_,yf,yt,ya,yb,hy,hr.mono ?_⟩
  rintro ee w12 ⟨rfl,iP⟩
  refine ⟨_,rfl,?_⟩
  have qo:Sat w0 w12 (aC 178 36 (.slice (some ⟨bk,off,none⟩) s.length lc) (s.flatMap (slotL aK))::aJ p m B::pt b (.cells #[ptr p] 49 (0,0))::R (((s.take (i+1)).map fun x=>(x.key,x.val)).map oG)):=by
   have:=iP.zl
   rw [fB.out,aey,aey]
   exact this
  clear iP hr hy f1 f2
  go_wp2_with fail
  go_roundg (s.length - (i+1))
  case measure=>have:=bT.out;omega
  case rel=>exact ⟨i+1,rfl,bT.out,by first|rfl|go_num,qo⟩
end
def msl (T sz:Nat) (v:Value) (xs:List Value):aG:=fun h=>
 ∃ b n cap cs m,v = .slice (some ⟨b,0,none⟩) n cap∧xs.length=n * sz∧n≤cap∧cap * sz≤cs.size∧cap≤maxLen∧cs.toList.take (n * sz)=xs∧cs.size≤m∧pt b (.cells cs T (m,m+1)) h
def vk (T sz:Nat) (v:Value) (xs:List Value):aG:=fun h=>aC T sz v xs h∨msl T sz v xs h
abbrev iM (v:Value) (l:aj.Bs):aG:=vk 5 1 v (aA l)
section
variable {P:Program}{w0 w:World}{R:List aG}{T sz b:Nat}{v x:Value}{xs ys:List Value}{fr:Nat×Nat}
theorem JZ {cs:Array Value}{T:TypeId} (h:Sat w0 w (pt b (.cells cs T fr)::R)) (i:Nat) (v:Value) (hv:cs[i]?=some v):w.cell? ⟨b,i,none⟩=some v:=by
 have:=h.at
 simp [World.cell?,this,hv]
theorem aci {cs:Array Value}{T:TypeId}{m:Nat} (h:Sat w0 w (pt b (.cells cs T (m,m+1))::R)) (i:Nat) (hi:i<m):w.frozen? ⟨b,i,none⟩=false:=by
 have:=h.at
 simp [World.frozen?,this]
 omega
theorem ahn {cs:Array Value}{T:TypeId} (h:Sat w0 w (pt b (.cells cs T fr)::R)) (i:Nat) (v:Value):Sat w0 (w.setCell ⟨b,i,none⟩ v) (pt b (.cells (cs.setIfInBounds i v) T fr)::R):=by
 have hb:=h.at
 have hlt:=h.lt
 refine h.turn rfl rfl rfl (by simp) ?_ ?_
 ·simp only [World.setCell,ako,akL,hb]
  simp
 ·intro j hj _
  simp only [World.setCell,ako]
  rw [abw (Ne.symm hj)]
theorem Xv:∀ (vs:List Value){cs:Array Value}{T:TypeId}{w:World} (o:Nat),Sat w0 w (pt b (.cells cs T fr)::R)→Sat w0 (w.setCells b o vs) (pt b (.cells (dM cs o vs) T fr)::R)
 |[],_,_,_,_,h=>h
 |v::r,_,_,_,o,h=>Xv r (o+1) (ahn h o v)
theorem JI (h:Sat w0 w (vk T sz v xs::R)):Sat w0 w (aC T sz v xs::R)∨∃ b n cap cs m,v = .slice (some ⟨b,0,none⟩) n cap∧xs.length=n * sz∧n≤cap∧cap * sz≤cs.size∧cap≤maxLen∧cs.toList.take (n * sz)=xs∧cs.size≤m∧Sat w0 w (pt b (.cells cs T (m,m+1))::R):=by
 obtain ⟨ha,x,hx,p,q,d,rfl,hp,hq⟩:=h
 rcases hp with hp|⟨b,n,cap,cs,m,h1,h2,h3,h4,h5,h6,h7,h8⟩
 ·exact .inl ⟨ha,_,hx,p,q,d,rfl,hp,hq⟩
 ·exact .inr ⟨b,n,cap,cs,m,h1,h2,h3,h4,h5,h6,h7,ha,_,hx,p,q,d,rfl,h8,hq⟩
theorem PZ (h:Sat w0 w (aC T sz v xs::R)):Sat w0 w (vk T sz v xs::R):=h.head fun _ hx=> .inl hx
theorem P5 {n cap m:Nat}{cs:Array Value} (h:Sat w0 w (pt b (.cells cs T (m,m+1))::R)) (h2:xs.length=n * sz) (h3:n≤cap) (h4:cap * sz≤cs.size) (h5:cap≤maxLen) (h6:cs.toList.take (n * sz)=xs) (h7:cs.size≤m):Sat w0 w (vk T sz (.slice (some ⟨b,0,none⟩) n cap) xs::R):=
 h.head fun _ hx=> .inr ⟨b,n,cap,cs,m,rfl,h2,h3,h4,h5,h6,h7,hx⟩
theorem JJ (h:Sat w0 w (vk T sz v xs::R)):bg sz v xs w:=by
 rcases JI h with h|⟨b,n,cap,cs,m,rfl,hl,hn,hc,hcm,htk,hm,hp⟩
 ·exact Sat.rd h
 ·exact ⟨_,n,cap,rfl,hl,fun j y hj=>⟨_,rfl,by rw [o9];exact JZ hp j y (jS htk hj)⟩⟩
theorem Z8 (h:Sat w0 w R) (e:TypeId) (s:ByteArray) (l:aj.Bs) (hs:s.data.toList=l) (hl:l.length≤1073741824):Sat w0 (Lib.bytesWorld w e s) (vk e 1 (.slice (some ⟨w.heap.size,0,none⟩) s.size (grownCap w s.size 0 e)) (aA l)::R):=by
 have h1:=(h.drew).alloc (.cells (Lib.bytesCells w e s) e)
 have hsz:s.size=l.length:=by rw [← hs];exact adu.symm
 have hge:=grownCap_ge w s.size 0 e
 have hcm:=grownCap_le_maxLen w s.size 0 e (by have:maxLen=9223372036854775807:=rfl;omega)
 have hcs:(Lib.bytesCells w e s).size=grownCap w s.size 0 e:=by
  unfold Lib.bytesCells
  rw [Array.size_append,Array.size_map,Array.size_replicate]
  have:s.data.size=s.size:=rfl
  omega
 have h2:Sat w0 (Lib.bytesWorld w e s) (pt w.heap.size (.cells (Lib.bytesCells w e s) e ((Lib.bytesCells w e s).size,(Lib.bytesCells w e s).size+1))::R):=by
  refine h1.turn (w':=Lib.bytesWorld w e s) rfl rfl rfl ?_ (Lib.bytesWorld_at_new w e s) (fun j hj _=>?_)
  ·rw [Lib.bytesWorld_size];exact Nat.le_of_eq (Array.size_push ..)
  ·unfold Lib.bytesWorld World.freeze
   rw [abw aN]
   show (Array.modify _ _ _)[j]?=_
   rw [ako]
   exact abw (fun e=>hj e.symm)
 refine P5 h2 ?_ hge (by rw [aiw,hcs];exact acy _) hcm ?_ (acy _)
 ·rw [aV,hsz,aiw]
 ·unfold Lib.bytesCells
  rw [alj,aiw,ajb (by rw [adu,Array.size_map];exact acy _),aeb (by rw [adu,Array.size_map];exact acy _),Array.toList_map,hs]
  rfl
theorem agA (t ty e:TypeId) (i:TypeInfo) (z:Value) (ht:P.underlying t=some (.slice e)) (hi:P.info? e=some i) (hz:i.zero=some z)
  (hs:i.size=sz) (hzs:z.cells.size=sz) (hsz:0<sz) (h1:∀ u∈ys,u.oneCell'=true) (hy0:ys≠[])
  (h:Sat w0 w (vk e sz v xs::R)) (hx:bg sz x ys w) (h63:xs.length+ys.length≤maxLen) (hby:(xs.length+ys.length) * i.bytes≤140737488355328) :
  ∃ v' w',(Builtin.append_ #[t,t] ty #[v,x]).run P w = .ok v' w'∧Sat w0 w' (vk e sz v' (xs++ys)::R):=by
 rcases JI h with h|⟨b,n,cap,cs,mk,rfl,hl,hn,hc,hcm,htk,hmk,hp⟩
 ·obtain ⟨v',w',hr,hS,_⟩:=Xa (P:=P) t ty e i z ht hi hz hs hzs hsz h1 h hx h63 hby
  exact ⟨v',w',hr,PZ hS⟩
 ·subst hs
  obtain ⟨xa,m,c,rfl,hyl,vT⟩:=hx
  have hle:∀ {p q:Nat},p=q * i.size→q≤p:=fun {p q} e=>by rw [e];exact Nat.le_mul_of_pos_right _ hsz
  have hm:=hle hyl
  obtain ⟨ad,rfl⟩:∃ ad,xa=some ad:=by
   obtain ⟨y,hy⟩:∃ y,ys[0]?=some y:=by
    cases ys with
    |nil=>exact absurd rfl hy0
    |cons y _=>exact ⟨y,rfl⟩
   obtain ⟨b,hb,_⟩:=vT 0 y hy
   exact ⟨b,hb⟩
  have hnews:∀ j u,ys[j]?=some u→w.cell? (ad.add j)=some u:=fun j u hj=>by
   obtain ⟨b,hb,hx⟩:=vT j u hj
   cases hb;exact hx
  have hnx:=hle hl
  have h63':maxLen=9223372036854775807:=rfl
  by_cases hroom:n+m≤cap
  ·have hfit:n * i.size+ys.length≤cs.size:=by
    rw [hyl,← akt];exact adr (ajT _ hroom) hc
   have hr:=run_append_room_cells (P:=P) w t ty e i ht hi b 0 n cap ad m c ys hyl hnews h1 hroom
    (fun j hj=>by rw [aen,JZ hp (n * i.size+j) _ (akh (show n * i.size+j<cs.size by omega))];rfl)
    (fun j hj=>by rw [aen];exact aci hp _ oQ)
   rw [aen]at hr
   refine ⟨_,_,hr,P5 (Xv ys (n * i.size) hp) ?_ hroom (by rw [jM];exact hc) hcm ?_ (by rw [jM];exact hmk)⟩
   ·rw [aal,hl,hyl,akt]
   ·rw [jU _ _ _ hfit,htk]
    have e1:(n+m) * i.size=(xs++ys).length:=by rw [aal,hl,hyl,akt]
    rw [e1]
    exact List.take_left
  ·have holds:∀ j u,xs[j]?=some u→w.cell? ((⟨b,0,none⟩:Addr).add j)=some u:=fun j u hj=>by
    rw [o9];exact JZ hp j u (jS htk hj)
   have zF:(n+m) * i.bytes≤140737488355328:=adr (ajT _ oQ) hby
   have hr:=run_append_grow (P:=P) w t ty e i z ht hi hz ⟨b,0,none⟩ n cap xs hl holds ad m c ys hyl hnews oQ oQ (growslice_fits oQ zF)
   have hge:=grownCap_ge w (n+m) cap e
   have hcm':=grownCap_le_maxLen w (n+m) cap e oQ
   refine ⟨_,_,hr,PZ (Sat.kC ((hp.drop.drew).alloc (.cells (xs.toArray++ys.toArray++Builtin.zeroCells z.cells (grownCap w (n+m) cap e - (n+m))) e)) ?_ hge ?_ hcm' ?_)⟩
   ·rw [aal,hl,hyl,akt]
   ·simp only [Array.size_append,aaI,size_zeroCells,hzs]
    rw [hl,hyl,← akt,← akt]
    exact ajT _ oQ
   ·simp only [alj,adR]
    rw [← adR]
    have e1:(n+m) * i.size=(xs++ys).length:=by rw [aal,hl,hyl,akt]
    rw [e1]
    exact List.take_left
end
end Go.Proofs.YtiglchkhikciiaaGreatDoor
namespace Go.Xx
open Go.aj (Bs num le vX)
def W:Nat:=18446744073709551616
def p1:Nat:=11400714785074694791
def p2:Nat:=14029467366897019727
def p3:Nat:=1609587929392839161
def p4:Nat:=9650029242287828579
def p5:Nat:=2870177450012600261
def turn (x k:Nat):Nat:=(x * 2^k%W) ||| (x / 2^(64 - k))
def lane (a w:Nat):Nat:=turn ((a+w * p2%W)%W) 31 * p1%W
structure Ln where
 a:Nat
 b:Nat
 c:Nat
 d:Nat
def Ln.zero:Ln:=⟨(p1+p2)%W,p2,0,W - p1⟩
def Ln.lt (l:Ln):Prop:=l.a<W∧l.b<W∧l.c<W∧l.d<W
def strip (l:Ln) (b:Bs):Ln:=⟨lane l.a (num (b.take 8)),lane l.b (num ((b.drop 8).take 8)),lane l.c (num ((b.drop 16).take 8)),lane l.d (num ((b.drop 24).take 8))⟩
def jC:Nat→Ln→Bs→Ln×Bs
 |0,l,b=>(l,b)
 |n+1,l,b=>if 32≤b.length then jC n (strip l b) (b.drop 32) else (l,b)
def mix (x a:Nat):Nat:=((x ^^^ lane 0 a) * p1%W+p4)%W
def joined (l:Ln):Nat:=mix (mix (mix (mix ((((turn l.a 1+turn l.b 7)%W+turn l.c 12)%W+turn l.d 18)%W) l.a) l.b) l.c) l.d
def t8 (x w:Nat):Nat:=(turn (x ^^^ lane 0 w) 27 * p1%W+p4)%W
def t4 (x w:Nat):Nat:=(turn (x ^^^ (w * p1%W)) 23 * p2%W+p3)%W
def t1 (x:Nat) (c:UInt8):Nat:=turn (x ^^^ (c.toNat * p5%W)) 11 * p1%W
def kE:Nat→Nat→Bs→Nat×Bs
 |0,x,b=>(x,b)
 |n+1,x,b=>if 8≤b.length then kE n (t8 x (num (b.take 8))) (b.drop 8) else (x,b)
def tail4 (x:Nat) (b:Bs):Nat×Bs:=if 4≤b.length then (t4 x (num (b.take 4)),b.drop 4) else (x,b)
def tail (x:Nat) (b:Bs):Nat:=(tail4 (kE b.length x b).1 (kE b.length x b).2).2.foldl t1 (tail4 (kE b.length x b).1 (kE b.length x b).2).1
def f1 (x:Nat):Nat:=(x ^^^ (x / 8589934592)) * p2%W
def f2 (x:Nat):Nat:=(x ^^^ (x / 536870912)) * p3%W
def f3 (x:Nat):Nat:=x ^^^ (x / 4294967296)
def sum (b:Bs):Nat:=f3 (f2 (f1 (tail (((if 32≤b.length then joined (jC b.length Ln.zero b).1 else p5)+b.length)%W) (jC b.length Ln.zero b).2)))
theorem ZJ:0<W:=by decide
theorem mod_lt (x:Nat):x%W<W:=akC _ ZJ
theorem ZI:W=2^64:=by decide
theorem yU {a b:Nat} (ha:a<W) (hb:b<W):a ^^^ b<W:=by rw [ZI]at *;exact Nat.xor_lt_two_pow ha hb
theorem div_lt {x:Nat} (k:Nat) (h:x<W):x / k<W:=akm (akV _ _) h
theorem Dc (a w:Nat):lane a w<W:=mod_lt _
theorem Yy:Ln.zero.lt:=⟨mod_lt _,by decide,by decide,by decide⟩
theorem XK (l:Ln) (b:Bs):(strip l b).lt:=⟨Dc _ _,Dc _ _,Dc _ _,Dc _ _⟩
theorem SC:∀ (n:Nat) (l:Ln) (b:Bs),l.lt→(jC n l b).1.lt
 |0,l,b,h=>h
 |n+1,l,b,h=>by
  unfold jC
  split
  ·exact SC n _ _ (XK l b)
  ·exact h
theorem ahY (x w:Nat):t8 x w<W:=mod_lt _
theorem ahW (x w:Nat):t4 x w<W:=mod_lt _
theorem ahU (x:Nat) (c:UInt8):t1 x c<W:=mod_lt _
theorem XO:∀ (n x:Nat) (b:Bs),x<W→(kE n x b).1<W
 |0,x,b,h=>h
 |n+1,x,b,h=>by
  unfold kE
  split
  ·exact XO n _ _ (ahY _ _)
  ·exact h
theorem ah1 (x:Nat) (b:Bs) (h:x<W):(tail4 x b).1<W:=by
 unfold tail4
 split
 ·exact ahW _ _
 ·exact h
theorem RP:∀ (b:Bs) (x:Nat),x<W→b.foldl t1 x<W
 |[],x,h=>h
 |c::b,x,h=>RP b _ (ahU _ _)
theorem XP (x:Nat) (b:Bs) (h:x<W):tail x b<W:=RP _ _ (ah1 _ _ (XO _ _ _ h))
theorem abR (x:Nat):f2 x<W:=mod_lt _
theorem abS {x:Nat} (h:x<W):f3 x<W:=yU h (div_lt _ h)
theorem sum_lt (b:Bs):sum b<W:=abS (abR _)
theorem SB:∀ (n:Nat) (l:Ln) (b:Bs),(jC n l b).2.length≤b.length
 |0,l,b=>acy _
 |n+1,l,b=>by
  unfold jC
  split
  ·exact adr (SB n _ _) (by rw [adU];omega)
  ·exact acy _
theorem acz {n:Nat}{l:Ln}{b:Bs} (hb:32≤b.length) (hn:b.length≤n):jC n l b=jC (n - 32) (strip l b) (b.drop 32):=by
 obtain ⟨m,rfl⟩:∃ m,n=m+1:=⟨n - 1,by omega⟩
 have h:jC (m+1) l b=jC m (strip l b) (b.drop 32):=by
  conv=>lhs;unfold jC
  rw [ac3 hb]
 rw [h]
 exact SA m (m+1 - 32) (strip l b) (b.drop 32) (by rw [adU];omega) (by rw [adU];omega)
where
 SA:∀ (n m:Nat) (l:Ln) (b:Bs),b.length≤n→b.length≤m→jC n l b=jC m l b
 |0,0,l,b,_,_=>rfl
 |0,m+1,l,b,h,_=>by
  have:¬ 32≤b.length:=oQ
  unfold jC;rw [abw this]
 |n+1,0,l,b,_,h=>by
  have:¬ 32≤b.length:=oQ
  unfold jC;rw [abw this]
 |n+1,m+1,l,b,h1,h2=>by
  unfold jC
  split
  ·exact SA n m _ _ (by rw [adU];omega) (by rw [adU];omega)
  ·rfl
theorem acA {n:Nat}{l:Ln}{b:Bs} (hb:¬ 32≤b.length):jC n l b=(l,b):=by
 cases n with
 |zero=>rfl
 |succ n=>unfold jC;rw [abw hb]
theorem ah2 {n x:Nat}{b:Bs} (hb:8≤b.length) (hn:b.length≤n):kE n x b=kE (n - 8) (t8 x (num (b.take 8))) (b.drop 8):=by
 obtain ⟨m,rfl⟩:∃ m,n=m+1:=⟨n - 1,by omega⟩
 have h:kE (m+1) x b=kE m (t8 x (num (b.take 8))) (b.drop 8):=by
  conv=>lhs;unfold kE
  rw [ac3 hb]
 rw [h]
 exact fuel m (m+1 - 8) _ (b.drop 8) (by rw [adU];omega) (by rw [adU];omega)
where
 fuel:∀ (n m x:Nat) (b:Bs),b.length≤n→b.length≤m→kE n x b=kE m x b
 |0,0,x,b,_,_=>rfl
 |0,m+1,x,b,h,_=>by
  have:¬ 8≤b.length:=oQ
  unfold kE;rw [abw this]
 |n+1,0,x,b,_,h=>by
  have:¬ 8≤b.length:=oQ
  unfold kE;rw [abw this]
 |n+1,m+1,x,b,h1,h2=>by
  unfold kE
  split
  ·exact fuel n m _ _ (by rw [adU];omega) (by rw [adU];omega)
  ·rfl
theorem ah3 {n x:Nat}{b:Bs} (hb:¬ 8≤b.length):kE n x b=(x,b):=by
 cases n with
 |zero=>rfl
 |succ n=>unfold kE;rw [abw hb]
end Go.Xx
namespace Go.Proofs.YtiglchkhikciiaaGreatDoor
open Go Go.Sl Go.ay Go.MapKept Go.RowKit
section
variable {x y z a n c:Nat}
theorem wrapN (x:Nat):IntKind.u64.wrap (x:Int)=((x%18446744073709551616:Nat):Int):=by rw [akd];rfl
theorem mulN (x c:Nat):IntKind.u64.wrap ((x:Int) * (c:Int))=((x * c%18446744073709551616:Nat):Int):=by rw [← alz,wrapN]
theorem addN (x c:Nat):IntKind.u64.wrap ((x:Int)+(c:Int))=(((x+c)%18446744073709551616:Nat):Int):=by rw [← Int.natCast_add,wrapN]
theorem wz (x y:Nat) (hx:x<18446744073709551616) (hy:y<18446744073709551616):bits .or .u64 (x:Int) (y:Int)=((x ||| y:Nat):Int):=u64_or_nat x y hx hy
theorem yT (x y:Nat) (hx:x<18446744073709551616) (hy:y<18446744073709551616):bits .xor .u64 (x:Int) (y:Int)=((x ^^^ y:Nat):Int):=u64_xor_nat x y hx hy
theorem nS (x:Nat):x%18446744073709551616<18446744073709551616:=akC _ aN
theorem OD (hx:x<18446744073709551616) (hy:y<18446744073709551616):x ^^^ y<18446744073709551616:=Xx.yU (show x<Xx.W from hx) (show y<Xx.W from hy)
theorem Lu (a w:Nat):Xx.lane a w<18446744073709551616:=Xx.Dc a w
theorem ad4 (a x:Nat):∃ y z u:Nat,IntKind.u64.wrap ((x:Int) * 14029467366897019727)=(y:Int)∧IntKind.u64.wrap ((a:Int)+(y:Int))=(z:Int)∧z<18446744073709551616∧IntKind.u64.wrap ((Xx.turn z 31:Nat) * (11400714785074694791:Int))=(u:Int)∧Xx.lane a x=u:=
 ⟨x * Xx.p2%18446744073709551616,(a+x * Xx.p2%18446744073709551616)%18446744073709551616,Xx.turn ((a+x * Xx.p2%18446744073709551616)%18446744073709551616) 31 * Xx.p1%18446744073709551616,mulN x Xx.p2,addN _ _,nS _,mulN _ Xx.p1,rfl⟩
theorem FM (hx:x<18446744073709551616) (a:Nat):∃ y z u:Nat,bits .xor .u64 (x:Int) ((Xx.lane 0 a:Nat):Int)=(y:Int)∧IntKind.u64.wrap ((y:Int) * 11400714785074694791)=(z:Int)∧IntKind.u64.wrap ((z:Int)+9650029242287828579)=(u:Int)∧u<18446744073709551616∧Xx.mix x a=u:=
 ⟨x ^^^ Xx.lane 0 a,(x ^^^ Xx.lane 0 a) * Xx.p1%18446744073709551616,((x ^^^ Xx.lane 0 a) * Xx.p1%18446744073709551616+Xx.p4)%18446744073709551616,yT x _ hx (Lu 0 a),mulN _ Xx.p1,addN _ Xx.p4,nS _,rfl⟩
theorem ahX (hx:x<18446744073709551616) (n:Nat):∃ r z u:Nat,bits .xor .u64 (x:Int) ((Xx.lane 0 n:Nat):Int)=(r:Int)∧r<18446744073709551616∧IntKind.u64.wrap ((Xx.turn r 27:Nat) * (11400714785074694791:Int))=(z:Int)∧IntKind.u64.wrap ((z:Int)+9650029242287828579)=(u:Int)∧u<18446744073709551616∧Xx.t8 x n=u:=
 ⟨x ^^^ Xx.lane 0 n,Xx.turn (x ^^^ Xx.lane 0 n) 27 * Xx.p1%18446744073709551616,(Xx.turn (x ^^^ Xx.lane 0 n) 27 * Xx.p1%18446744073709551616+Xx.p4)%18446744073709551616,yT x _ hx (Lu 0 n),OD hx (Lu 0 n),mulN _ Xx.p1,addN _ Xx.p4,nS _,rfl⟩
theorem ahV (hx:x<18446744073709551616) (n:Nat):∃ t r z u:Nat,IntKind.u64.wrap ((n:Int) * 11400714785074694791)=(t:Int)∧bits .xor .u64 (x:Int) (t:Int)=(r:Int)∧r<18446744073709551616∧IntKind.u64.wrap ((Xx.turn r 23:Nat) * (14029467366897019727:Int))=(z:Int)∧IntKind.u64.wrap ((z:Int)+1609587929392839161)=(u:Int)∧u<18446744073709551616∧Xx.t4 x n=u:=
 ⟨n * Xx.p1%18446744073709551616,x ^^^ (n * Xx.p1%18446744073709551616),Xx.turn (x ^^^ (n * Xx.p1%18446744073709551616)) 23 * Xx.p2%18446744073709551616,(Xx.turn (x ^^^ (n * Xx.p1%18446744073709551616)) 23 * Xx.p2%18446744073709551616+Xx.p3)%18446744073709551616,mulN n Xx.p1,yT x _ hx (nS _),OD hx (nS _),mulN _ Xx.p2,addN _ Xx.p3,nS _,rfl⟩
theorem XM (hx:x<18446744073709551616) (c:UInt8):∃ q r u:Nat,IntKind.u64.wrap ((c.toNat:Int) * 2870177450012600261)=(q:Int)∧bits .xor .u64 (x:Int) (q:Int)=(r:Int)∧r<18446744073709551616∧IntKind.u64.wrap ((Xx.turn r 11:Nat) * (11400714785074694791:Int))=(u:Int)∧u<18446744073709551616∧Xx.t1 x c=u:=
 ⟨c.toNat * Xx.p5%18446744073709551616,x ^^^ (c.toNat * Xx.p5%18446744073709551616),Xx.turn (x ^^^ (c.toNat * Xx.p5%18446744073709551616)) 11 * Xx.p1%18446744073709551616,mulN _ Xx.p5,yT x _ hx (nS _),OD hx (nS _),mulN _ Xx.p1,nS _,rfl⟩
theorem adS (l:Xx.Ln):∃ s1 s2 x0:Nat,IntKind.u64.wrap ((Xx.turn l.a 1:Nat)+((Xx.turn l.b 7:Nat):Int))=(s1:Int)∧IntKind.u64.wrap ((s1:Int)+((Xx.turn l.c 12:Nat):Int))=(s2:Int)∧IntKind.u64.wrap ((s2:Int)+((Xx.turn l.d 18:Nat):Int))=(x0:Int)∧x0<18446744073709551616∧Xx.joined l=Xx.mix (Xx.mix (Xx.mix (Xx.mix x0 l.a) l.b) l.c) l.d:=
 ⟨_,_,_,addN _ _,addN _ _,addN _ _,nS _,rfl⟩
theorem Rq (hx:x<18446744073709551616):∃ t1 t2 t3 t4 t5:Nat,bits .xor .u64 (x:Int) ((x:Int) / 8589934592)=(t1:Int)∧IntKind.u64.wrap ((t1:Int) * 14029467366897019727)=(t2:Int)∧bits .xor .u64 (t2:Int) ((t2:Int) / 536870912)=(t3:Int)∧IntKind.u64.wrap ((t3:Int) * 1609587929392839161)=(t4:Int)∧bits .xor .u64 (t4:Int) ((t4:Int) / 4294967296)=(t5:Int)∧Xx.f3 (Xx.f2 (Xx.f1 x))=t5:=by
 have d:∀ (y k:Nat),y<18446744073709551616→y / k<18446744073709551616:=fun y k h=>akm (akV _ _) h
 exact ⟨x ^^^ (x / 8589934592),(x ^^^ (x / 8589934592)) * Xx.p2%18446744073709551616,Xx.f1 x ^^^ (Xx.f1 x / 536870912),(Xx.f1 x ^^^ (Xx.f1 x / 536870912)) * Xx.p3%18446744073709551616,Xx.f2 (Xx.f1 x) ^^^ (Xx.f2 (Xx.f1 x) / 4294967296),yT x _ hx (d _ _ hx),mulN _ Xx.p2,yT (Xx.f1 x) _ (nS _) (d _ _ (nS _)),mulN _ Xx.p3,yT (Xx.f2 (Xx.f1 x)) _ (nS _) (d _ _ (nS _)),rfl⟩
theorem XI (j n:Nat):∃ x:Nat,IntKind.u64.wrap ((j:Int)+(n:Int))=(x:Int)∧x<18446744073709551616∧(j+n)%Xx.W=x:=⟨(j+n)%18446744073709551616,addN j n,nS _,rfl⟩
end
section
variable {w0 w:World}{F:List aG}{v bv:Value}
theorem aic (x:Nat) (hx:x<18446744073709551616) (h:Sat w0 w F):Calls Tryz.prog 312 #[.int .u64 x,.int .i64 1] w (aO fun v w'=>v = .int .u64 (Xx.turn x 1:Nat)∧Sat w0 w' F):=by
 have hf:=uQ (show Xx.turn x 1=(x * 2%18446744073709551616) ||| (x / 9223372036854775808) from rfl)
 have e1:IntKind.u64.wrap ((x:Int) * 2)=((x * 2%18446744073709551616:Nat):Int):=by rw [akd];omega
 have e2:(x:Int) / 9223372036854775808=((x / 9223372036854775808:Nat):Int):=rfl
 have ha:x * 2%18446744073709551616<18446744073709551616:=akC _ aN
 have hb:x / 9223372036854775808<18446744073709551616:=akm (akV _ _) hx
 generalize x * 2%18446744073709551616=a at *
 generalize x / 9223372036854775808=b at *
 have e3:=wz a b ha hb
 have hS:=h.drew
 have e0:bits .and .i64 (1:Int) 63=1:=by decide
 have xR:wrap64 (64 - 1:Int)=63:=by rw [ajM _ aN];rfl
 clear ha hb h
 go_enter Tryz.func312,Tryz.ntmps312
 go_wp2_with fail
 go_region
 go_wp2
 go_ret
 exact ⟨_,rfl,by rw [hf.out];rfl,hS⟩
theorem aij (x:Nat) (hx:x<18446744073709551616) (h:Sat w0 w F):Calls Tryz.prog 312 #[.int .u64 x,.int .i64 7] w (aO fun v w'=>v = .int .u64 (Xx.turn x 7:Nat)∧Sat w0 w' F):=by
 have hf:=uQ (show Xx.turn x 7=(x * 128%18446744073709551616) ||| (x / 144115188075855872) from rfl)
 have e1:IntKind.u64.wrap ((x:Int) * 128)=((x * 128%18446744073709551616:Nat):Int):=by rw [akd];omega
 have e2:(x:Int) / 144115188075855872=((x / 144115188075855872:Nat):Int):=rfl
 have ha:x * 128%18446744073709551616<18446744073709551616:=akC _ aN
 have hb:x / 144115188075855872<18446744073709551616:=akm (akV _ _) hx
 generalize x * 128%18446744073709551616=a at *
 generalize x / 144115188075855872=b at *
 have e3:=wz a b ha hb
 have hS:=h.drew
 have e0:bits .and .i64 (7:Int) 63=7:=by decide
 have xR:wrap64 (64 - 7:Int)=57:=by rw [ajM _ aN];rfl
 clear ha hb h
 go_enter Tryz.func312,Tryz.ntmps312
 go_wp2_with fail
 go_region
 go_wp2
 go_ret
 exact ⟨_,rfl,by rw [hf.out];rfl,hS⟩
theorem XW (x:Nat) (hx:x<18446744073709551616) (h:Sat w0 w F):Calls Tryz.prog 312 #[.int .u64 x,.int .i64 11] w (aO fun v w'=>v = .int .u64 (Xx.turn x 11:Nat)∧Sat w0 w' F):=by
 have hf:=uQ (show Xx.turn x 11=(x * 2048%18446744073709551616) ||| (x / 9007199254740992) from rfl)
 have e1:IntKind.u64.wrap ((x:Int) * 2048)=((x * 2048%18446744073709551616:Nat):Int):=by rw [akd];omega
 have e2:(x:Int) / 9007199254740992=((x / 9007199254740992:Nat):Int):=rfl
 have ha:x * 2048%18446744073709551616<18446744073709551616:=akC _ aN
 have hb:x / 9007199254740992<18446744073709551616:=akm (akV _ _) hx
 generalize x * 2048%18446744073709551616=a at *
 generalize x / 9007199254740992=b at *
 have e3:=wz a b ha hb
 have hS:=h.drew
 have e0:bits .and .i64 (11:Int) 63=11:=by decide
 have xR:wrap64 (64 - 11:Int)=53:=by rw [ajM _ aN];rfl
 clear ha hb h
 go_enter Tryz.func312,Tryz.ntmps312
 go_wp2_with fail
 go_region
 go_wp2
 go_ret
 exact ⟨_,rfl,by rw [hf.out];rfl,hS⟩
theorem aia (x:Nat) (hx:x<18446744073709551616) (h:Sat w0 w F):Calls Tryz.prog 312 #[.int .u64 x,.int .i64 12] w (aO fun v w'=>v = .int .u64 (Xx.turn x 12:Nat)∧Sat w0 w' F):=by
 have hf:=uQ (show Xx.turn x 12=(x * 4096%18446744073709551616) ||| (x / 4503599627370496) from rfl)
 have e1:IntKind.u64.wrap ((x:Int) * 4096)=((x * 4096%18446744073709551616:Nat):Int):=by rw [akd];omega
 have e2:(x:Int) / 4503599627370496=((x / 4503599627370496:Nat):Int):=rfl
 have ha:x * 4096%18446744073709551616<18446744073709551616:=akC _ aN
 have hb:x / 4503599627370496<18446744073709551616:=akm (akV _ _) hx
 generalize x * 4096%18446744073709551616=a at *
 generalize x / 4503599627370496=b at *
 have e3:=wz a b ha hb
 have hS:=h.drew
 have e0:bits .and .i64 (12:Int) 63=12:=by decide
 have xR:wrap64 (64 - 12:Int)=52:=by rw [ajM _ aN];rfl
 clear ha hb h
 go_enter Tryz.func312,Tryz.ntmps312
 go_wp2_with fail
 go_region
 go_wp2
 go_ret
 exact ⟨_,rfl,by rw [hf.out];rfl,hS⟩
theorem aib (x:Nat) (hx:x<18446744073709551616) (h:Sat w0 w F):Calls Tryz.prog 312 #[.int .u64 x,.int .i64 18] w (aO fun v w'=>v = .int .u64 (Xx.turn x 18:Nat)∧Sat w0 w' F):=by
 have hf:=uQ (show Xx.turn x 18=(x * 262144%18446744073709551616) ||| (x / 70368744177664) from rfl)
 have e1:IntKind.u64.wrap ((x:Int) * 262144)=((x * 262144%18446744073709551616:Nat):Int):=by rw [akd];omega
 have e2:(x:Int) / 70368744177664=((x / 70368744177664:Nat):Int):=rfl
 have ha:x * 262144%18446744073709551616<18446744073709551616:=akC _ aN
 have hb:x / 70368744177664<18446744073709551616:=akm (akV _ _) hx
 generalize x * 262144%18446744073709551616=a at *
 generalize x / 70368744177664=b at *
 have e3:=wz a b ha hb
 have hS:=h.drew
 have e0:bits .and .i64 (18:Int) 63=18:=by decide
 have xR:wrap64 (64 - 18:Int)=46:=by rw [ajM _ aN];rfl
 clear ha hb h
 go_enter Tryz.func312,Tryz.ntmps312
 go_wp2_with fail
 go_region
 go_wp2
 go_ret
 exact ⟨_,rfl,by rw [hf.out];rfl,hS⟩
theorem aie (x:Nat) (hx:x<18446744073709551616) (h:Sat w0 w F):Calls Tryz.prog 312 #[.int .u64 x,.int .i64 23] w (aO fun v w'=>v = .int .u64 (Xx.turn x 23:Nat)∧Sat w0 w' F):=by
 have hf:=uQ (show Xx.turn x 23=(x * 8388608%18446744073709551616) ||| (x / 2199023255552) from rfl)
 have e1:IntKind.u64.wrap ((x:Int) * 8388608)=((x * 8388608%18446744073709551616:Nat):Int):=by rw [akd];omega
 have e2:(x:Int) / 2199023255552=((x / 2199023255552:Nat):Int):=rfl
 have ha:x * 8388608%18446744073709551616<18446744073709551616:=akC _ aN
 have hb:x / 2199023255552<18446744073709551616:=akm (akV _ _) hx
 generalize x * 8388608%18446744073709551616=a at *
 generalize x / 2199023255552=b at *
 have e3:=wz a b ha hb
 have hS:=h.drew
 have e0:bits .and .i64 (23:Int) 63=23:=by decide
 have xR:wrap64 (64 - 23:Int)=41:=by rw [ajM _ aN];rfl
 clear ha hb h
 go_enter Tryz.func312,Tryz.ntmps312
 go_wp2_with fail
 go_region
 go_wp2
 go_ret
 exact ⟨_,rfl,by rw [hf.out];rfl,hS⟩
theorem aif (x:Nat) (hx:x<18446744073709551616) (h:Sat w0 w F):Calls Tryz.prog 312 #[.int .u64 x,.int .i64 27] w (aO fun v w'=>v = .int .u64 (Xx.turn x 27:Nat)∧Sat w0 w' F):=by
 have hf:=uQ (show Xx.turn x 27=(x * 134217728%18446744073709551616) ||| (x / 137438953472) from rfl)
 have e1:IntKind.u64.wrap ((x:Int) * 134217728)=((x * 134217728%18446744073709551616:Nat):Int):=by rw [akd];omega
 have e2:(x:Int) / 137438953472=((x / 137438953472:Nat):Int):=rfl
 have ha:x * 134217728%18446744073709551616<18446744073709551616:=akC _ aN
 have hb:x / 137438953472<18446744073709551616:=akm (akV _ _) hx
 generalize x * 134217728%18446744073709551616=a at *
 generalize x / 137438953472=b at *
 have e3:=wz a b ha hb
 have hS:=h.drew
 have e0:bits .and .i64 (27:Int) 63=27:=by decide
 have xR:wrap64 (64 - 27:Int)=37:=by rw [ajM _ aN];rfl
 clear ha hb h
 go_enter Tryz.func312,Tryz.ntmps312
 go_wp2_with fail
 go_region
 go_wp2
 go_ret
 exact ⟨_,rfl,by rw [hf.out];rfl,hS⟩
theorem aii (x:Nat) (hx:x<18446744073709551616) (h:Sat w0 w F):Calls Tryz.prog 312 #[.int .u64 x,.int .i64 31] w (aO fun v w'=>v = .int .u64 (Xx.turn x 31:Nat)∧Sat w0 w' F):=by
 have hf:=uQ (show Xx.turn x 31=(x * 2147483648%18446744073709551616) ||| (x / 8589934592) from rfl)
 have e1:IntKind.u64.wrap ((x:Int) * 2147483648)=((x * 2147483648%18446744073709551616:Nat):Int):=by rw [akd];omega
 have e2:(x:Int) / 8589934592=((x / 8589934592:Nat):Int):=rfl
 have ha:x * 2147483648%18446744073709551616<18446744073709551616:=akC _ aN
 have hb:x / 8589934592<18446744073709551616:=akm (akV _ _) hx
 generalize x * 2147483648%18446744073709551616=a at *
 generalize x / 8589934592=b at *
 have e3:=wz a b ha hb
 have hS:=h.drew
 have e0:bits .and .i64 (31:Int) 63=31:=by decide
 have xR:wrap64 (64 - 31:Int)=33:=by rw [ajM _ aN];rfl
 clear ha hb h
 go_enter Tryz.func312,Tryz.ntmps312
 go_wp2_with fail
 go_region
 go_wp2
 go_ret
 exact ⟨_,rfl,by rw [hf.out];rfl,hS⟩
theorem uq (a x:Nat) (h:Sat w0 w F):Calls Tryz.prog 298 #[.int .u64 a,.int .u64 x] w (aO fun v w'=>v = .int .u64 (Xx.lane a x:Nat)∧Sat w0 w' F):=by
 obtain ⟨y,z,u,e1,e2,hz,e3,e4⟩:=ad4 a x
 rw [e4]
 have ht:=aii z hz h
 clear hz e4 h
 generalize Xx.turn z 31=t at *
 go_enter Tryz.func298,Tryz.ntmps298
 go_wp2_with fail
 refine ht.mono ?_
 rintro ee w1 ⟨v,rfl,rfl,hS⟩
 clear ht
 go_wp2
 go_ret
 exact ⟨_,rfl,rfl,hS⟩
end
structure RS (w0:World) (F:List aG) (v:Value) (l:Bs):Prop where
 rd:Ro w0 F (bg 1 v (aA l))
 cap:kV v
section
variable {w0 w:World}{F:List aG}{v:Value}{l:Bs}{a:Option Addr}{n c k:Nat}
theorem NW (w:World):(sizeOf 5).run Tryz.prog w = .ok 1 w:=by kernel_rfl
theorem EP:Tryz.prog.elem 36=5:=by kernel_rfl
theorem Ap:Tryz.prog.underlying 36=some (.slice (Tryz.prog.elem 36)):=by rw [EP];exact Tryz.underlying36
theorem Xj (hk:k≤n) (w:World):(Instr.sliceAt 36 (.slice a n c) (some (.int .i64 k)) none none).run Tryz.prog w = .ok (sliced a k n c 1) w:=by
 rw [run_sliceAt_slice _ _ _ _ _ _ Ap,run_slice_l _ _ _ _ _ Ap .i64 (k:Int) oQ oQ,EP,NW]
 simp [Result.andThen]
theorem GL (hk:k≤c) (w:World):(Instr.sliceAt 36 (.slice a n c) none (some (.int .i64 k)) none).run Tryz.prog w = .ok (sliced a 0 k c 1) w:=by
 rw [run_sliceAt_slice _ _ _ _ _ _ Ap,run_slice_h _ _ _ _ _ Ap .i64 (k:Int) oQ oQ,EP,NW]
 simp [Result.andThen]
theorem agY (hk:k≤c) (w:World):(Instr.sliceAt 36 (.slice a n c) none (some (.int .i64 k)) (some (.int .i64 k))).run Tryz.prog w = .ok (sliced a 0 k k 1) w:=by
 rw [run_sliceAt_slice _ _ _ _ _ _ Ap,run_slice_hm _ _ _ _ _ Ap .i64 .i64 (k:Int) (k:Int) oQ oQ oQ,EP,NW]
 simp [Result.andThen]
theorem RS.len (h:RS w0 F v l) (hS:Sat w0 w F):∃ a c,v = .slice a l.length c∧l.length≤c∧c≤9223372036854775807:=by
 obtain ⟨a,n,c,rfl,h1,h2⟩:=h.cap
 obtain ⟨_,_,_,he,hl,_⟩:=h.rd w hS
 cases he
 rw [aV,aiw]at hl
 subst hl
 exact ⟨a,c,rfl,h1,h2⟩
theorem tV {l:Bs}{j:Nat}{y:Value}:(aA l)[j]?=some y↔∃ u,l[j]?=some u∧y = .int .u8 u.toNat:=by
 unfold aA
 rw [aix,akk]
 constructor
 ·rintro ⟨u,h1,h2⟩;exact ⟨u,h1,h2.symm⟩
 ·rintro ⟨u,h1,h2⟩;exact ⟨u,h1,h2.symm⟩
theorem RS.from (h:RS w0 F (.slice a l.length c) l) (hk:k≤l.length):RS w0 F (sliced a k l.length c 1) (l.drop k):=by
 obtain ⟨a',n',c',he,h1,h2⟩:=h.cap
 cases he
 refine ⟨fun w hw=>?_,⟨_,_,_,rfl,by omega,by omega⟩⟩
 refine ⟨_,_,_,rfl,by rw [aV,adU,aiw],fun j y hj=>?_⟩
 obtain ⟨u,hu,rfl⟩:=tV.1 hj
 rw [akG]at hu
 have hlt:=(abl.1 hu).1
 obtain ⟨bk,off,rfl,hc⟩:=nU (h.rd w hw) (tV.2 ⟨u,hu,rfl⟩)
 rw [abw oQ]
 refine ⟨_,rfl,?_⟩
 have:=hc (k+j) _ (tV.2 ⟨u,hu,rfl⟩)
 show w.cell? (((⟨bk,off,none⟩:Addr).add (k * 1)).add j)=_
 rw [Addr.add_mid,Addr.add_mid,aiw,akU];exact this
theorem RS.to (h:RS w0 F (.slice a l.length c) l) (hk:k≤l.length) (m:Nat) (hm:k≤m) (hmc:m≤c):RS w0 F (sliced a 0 k m 1) (l.take k):=by
 obtain ⟨a',n',c',he,h1,h2⟩:=h.cap
 cases he
 refine ⟨fun w hw=>?_,⟨_,_,_,rfl,by omega,by omega⟩⟩
 refine ⟨_,_,_,rfl,by rw [aV,acJ,aiw];omega,fun j y hj=>?_⟩
 obtain ⟨u,hu,rfl⟩:=tV.1 hj
 rw [ajl]at hu
 split at hu
 ·rename_i hjk
  obtain ⟨bk,off,rfl,hc⟩:=nU (h.rd w hw) (tV.2 ⟨u,hu,rfl⟩)
  rw [abw oQ]
  refine ⟨_,rfl,?_⟩
  have:=hc j _ (tV.2 ⟨u,hu,rfl⟩)
  show w.cell? (((⟨bk,off,none⟩:Addr).add (0 * 1)).add j)=_
  rw [Addr.add_mid,Addr.add_mid,Nat.zero_mul,akc];exact this
 ·cases hu
theorem RS.F5 (h:Sat w0 w (bJ v l::F)):RS w0 (bJ v l::F) v l:=by
 obtain ⟨a,n,c,e,h1,h2,h3⟩:=zo h
 exact ⟨Ro.bJ _ _,⟨a,n,c,e,h1,h2⟩⟩
theorem RS.more (h:RS w0 F v l){G:List aG} (k:Sub G F):RS w0 G v l:=⟨Ro.of_sub h.rd k,h.cap⟩
end
section
variable {P:Program}{w:World}{ops:Array Oper}{rest:List Oper}{a:Act}{Q:Exit→Act→World→Prop}{dst:Option Tmp}{t ty:TypeId}{pos:String}{after:Array Edge}{x y z:Operand}{v vx vy vz:Value}
theorem Il (hx:a.eval x=vx) (hy:a.eval y=vy) (hr:∀ w,(Instr.sliceAt ty vx (some vy) none none).run P w = .ok v w) (h:wpList P ops Q rest (a.put dst v) w):wpList P ops Q (⟨dst,.slice ty x (some y) none none,t,pos,after,none⟩::rest) a w:=
 ajx rfl fun _ hK=>by
  unfold Oper.wp execOp
  simp only [hx,hy,aj7,akK,adO,hr,ac2,aeC]
  exact hK _ _ h
theorem Yg (hx:a.eval x=vx) (hy:a.eval y=vy) (hr:∀ w,(Instr.sliceAt ty vx none (some vy) none).run P w = .ok v w) (h:wpList P ops Q rest (a.put dst v) w):wpList P ops Q (⟨dst,.slice ty x none (some y) none,t,pos,after,none⟩::rest) a w:=
 ajx rfl fun _ hK=>by
  unfold Oper.wp execOp
  simp only [hx,hy,aj7,akK,adO,hr,ac2,aeC]
  exact hK _ _ h
theorem aiJ (hx:a.eval x=vx) (hy:a.eval y=vy) (hz:a.eval z=vz) (hr:∀ w,(Instr.sliceAt ty vx none (some vy) (some vz)).run P w = .ok v w) (h:wpList P ops Q rest (a.put dst v) w):wpList P ops Q (⟨dst,.slice ty x none (some y) (some z),t,pos,after,none⟩::rest) a w:=
 ajx rfl fun _ hK=>by
  unfold Oper.wp execOp
  simp only [hx,hy,hz,aj7,akK,adO,hr,ac2,aeC]
  exact hK _ _ h
theorem Ez (h:Stop (wpList P ops Q (⟨dst,.slice ty x (some y) none none,t,pos,after,none⟩::rest) a w)):wpList P ops Q (⟨dst,.slice ty x (some y) none none,t,pos,after,none⟩::rest) a w:=h.out
theorem Qd (h:Stop (wpList P ops Q (⟨dst,.slice ty x none (some y) none,t,pos,after,none⟩::rest) a w)):wpList P ops Q (⟨dst,.slice ty x none (some y) none,t,pos,after,none⟩::rest) a w:=h.out
theorem aag (h:Stop (wpList P ops Q (⟨dst,.slice ty x none (some y) (some z),t,pos,after,none⟩::rest) a w)):wpList P ops Q (⟨dst,.slice ty x none (some y) (some z),t,pos,after,none⟩::rest) a w:=h.out
end
section
variable {w0 w:World}{F:List aG}{v bv:Value}
theorem wC (l:Bs) (c:UInt8) (k:Nat) (hl:l.length=k) (hk:k<8):bits .or .u64 ((aj.num l:Nat):Int) ((c.toNat:Int) * ((256^k:Nat):Int))=((aj.num (l++[c]):Nat):Int):=by
 subst hl
 have h1:=aj.vX l
 have h2:=c.toNat_lt
 have h3:256^l.length≤256^7:=akv aN oQ
 have h4:c.toNat * 256^l.length≤255 * 256^7:=akI oQ h3
 have h5:(256:Nat)^7=72057594037927936:=by decide
 have e:(c.toNat:Int) * ((256^l.length:Nat):Int)=((c.toNat * 256^l.length:Nat):Int):=by rw [alz]
 rw [e,u64_or_nat _ _ oQ oQ,aj.MB]
 congr 1
 have hp:(256:Nat)^l.length=2^(8 * l.length):=by rw [Nat.pow_mul]
 rw [hp]at h1 ⊢
 have:=Nat.two_pow_add_eq_or_of_lt h1 c.toNat
 rw [Nat.or_comm,ajW c.toNat,← this,alm]
set_option maxRecDepth 20000 in
theorem acu (c0 c1 c2 c3 c4 c5 c6 c7:UInt8) (a:Option Addr) (c:Nat) (h:bg 1 (.slice a 8 c) (aA [c0,c1,c2,c3,c4,c5,c6,c7]) w) :
  Calls Tryz.prog 186 #[.slice a 8 c] w (aO fun v w'=>v = .tuple #[.int .u64 (aj.num [c0,c1,c2,c3,c4,c5,c6,c7]:Nat),.bool true]∧w=w'):=by
 obtain ⟨bk,off,rfl,hc⟩:=nU h (i:=0) rfl
 have e0:w.cell? ⟨bk,off,none⟩=some (.int .u8 c0.toNat):=hc 0 _ rfl
 have t0:=c0.toNat_lt
 have e1:w.cell? ⟨bk,off+1,none⟩=some (.int .u8 c1.toNat):=hc 1 _ rfl
 have t1:=c1.toNat_lt
 have e2:w.cell? ⟨bk,off+2,none⟩=some (.int .u8 c2.toNat):=hc 2 _ rfl
 have t2:=c2.toNat_lt
 have e3:w.cell? ⟨bk,off+3,none⟩=some (.int .u8 c3.toNat):=hc 3 _ rfl
 have t3:=c3.toNat_lt
 have e4:w.cell? ⟨bk,off+4,none⟩=some (.int .u8 c4.toNat):=hc 4 _ rfl
 have t4:=c4.toNat_lt
 have e5:w.cell? ⟨bk,off+5,none⟩=some (.int .u8 c5.toNat):=hc 5 _ rfl
 have t5:=c5.toNat_lt
 have e6:w.cell? ⟨bk,off+6,none⟩=some (.int .u8 c6.toNat):=hc 6 _ rfl
 have t6:=c6.toNat_lt
 have e7:w.cell? ⟨bk,off+7,none⟩=some (.int .u8 c7.toNat):=hc 7 _ rfl
 have t7:=c7.toNat_lt
 clear hc h
 go_enter Tryz.func186,Tryz.ntmps186
 go_wp2_with fail
 go_loopg [17,4] 8 (fun g iq xq wr=>∃ i:Nat,g=8 - i∧i≤8∧iq = .int .i64 i∧xq = .int .u64 (aj.num ([c0,c1,c2,c3,c4,c5,c6,c7].take i):Nat)∧wr=w)
 case atStart=>exact ⟨0,rfl,by omega,rfl,rfl,rfl⟩
 case round=>
  obtain ⟨i,rfl,hi,rfl,rfl,rfl⟩:=hrel
  by_cases h4:i<8
  ·have h0:i=0∨i=1∨i=2∨i=3∨i=4∨i=5∨i=6∨i=7:=by omega
   clear hi h4
   rcases h0 with rfl|rfl|rfl|rfl|rfl|rfl|rfl|rfl
   ·have hq:bits .or .u64 ((aj.num []:Nat):Int) (c0.toNat:Int)=((aj.num [c0]:Nat):Int):=by
     have:=wC [] c0 0 rfl aN
     simpa using this
    go_wp2_with fail
    go_roundg (8 - 1)
    case measure=>decide
    case rel=>exact ⟨1,rfl,by decide,by first|rfl|go_num,rfl,rfl⟩
   ·have hq:bits .or .u64 ((aj.num [c0]:Nat):Int) ((c1.toNat:Int) * 256)=((aj.num [c0,c1]:Nat):Int):=wC [c0] c1 1 rfl aN
    go_wp2_with fail
    go_roundg (8 - 2)
    case measure=>decide
    case rel=>exact ⟨2,rfl,by decide,by first|rfl|go_num,rfl,rfl⟩
   ·have hq:bits .or .u64 ((aj.num [c0,c1]:Nat):Int) ((c2.toNat:Int) * 65536)=((aj.num [c0,c1,c2]:Nat):Int):=wC [c0,c1] c2 2 rfl aN
    go_wp2_with fail
    go_roundg (8 - 3)
    case measure=>decide
    case rel=>exact ⟨3,rfl,by decide,by first|rfl|go_num,rfl,rfl⟩
   ·have hq:bits .or .u64 ((aj.num [c0,c1,c2]:Nat):Int) ((c3.toNat:Int) * 16777216)=((aj.num [c0,c1,c2,c3]:Nat):Int):=wC [c0,c1,c2] c3 3 rfl aN
    go_wp2_with fail
    go_roundg (8 - 4)
    case measure=>decide
    case rel=>exact ⟨4,rfl,by decide,by first|rfl|go_num,rfl,rfl⟩
   ·have hq:bits .or .u64 ((aj.num [c0,c1,c2,c3]:Nat):Int) ((c4.toNat:Int) * 4294967296)=((aj.num [c0,c1,c2,c3,c4]:Nat):Int):=wC [c0,c1,c2,c3] c4 4 rfl aN
    go_wp2_with fail
    go_roundg (8 - 5)
    case measure=>decide
    case rel=>exact ⟨5,rfl,by decide,by first|rfl|go_num,rfl,rfl⟩
   ·have hq:bits .or .u64 ((aj.num [c0,c1,c2,c3,c4]:Nat):Int) ((c5.toNat:Int) * 1099511627776)=((aj.num [c0,c1,c2,c3,c4,c5]:Nat):Int):=wC [c0,c1,c2,c3,c4] c5 5 rfl aN
    go_wp2_with fail
    go_roundg (8 - 6)
    case measure=>decide
    case rel=>exact ⟨6,rfl,by decide,by first|rfl|go_num,rfl,rfl⟩
   ·have hq:bits .or .u64 ((aj.num [c0,c1,c2,c3,c4,c5]:Nat):Int) ((c6.toNat:Int) * 281474976710656)=((aj.num [c0,c1,c2,c3,c4,c5,c6]:Nat):Int):=wC [c0,c1,c2,c3,c4,c5] c6 6 rfl aN
    go_wp2_with fail
    go_roundg (8 - 7)
    case measure=>decide
    case rel=>exact ⟨7,rfl,by decide,by first|rfl|go_num,rfl,rfl⟩
   ·have hq:bits .or .u64 ((aj.num [c0,c1,c2,c3,c4,c5,c6]:Nat):Int) ((c7.toNat:Int) * 72057594037927936)=((aj.num [c0,c1,c2,c3,c4,c5,c6,c7]:Nat):Int):=wC [c0,c1,c2,c3,c4,c5,c6] c7 7 rfl aN
    go_wp2_with fail
    go_roundg (8 - 8)
    case measure=>decide
    case rel=>exact ⟨8,rfl,by decide,by first|rfl|go_num,rfl,rfl⟩
  ·obtain rfl:i=8:=by omega
   go_wp2
   go_ret2
   exact ⟨_,rfl,rfl,rfl⟩
theorem eight {l:Bs} (h:l.length=8):∃ c0 c1 c2 c3 c4 c5 c6 c7,l=[c0,c1,c2,c3,c4,c5,c6,c7]:=by
 match l,h with
 |[c0,c1,c2,c3,c4,c5,c6,c7],_=>exact ⟨c0,c1,c2,c3,c4,c5,c6,c7,rfl⟩
theorem Sr (l:Bs) (hl:l.length=8) (a:Option Addr) (c:Nat) (h:bg 1 (.slice a 8 c) (aA l) w) :
  Calls Tryz.prog 186 #[.slice a 8 c] w (aO fun v w'=>v = .tuple #[.int .u64 (aj.num l:Nat),.bool true]∧w=w'):=by
 obtain ⟨c0,c1,c2,c3,c4,c5,c6,c7,rfl⟩:=eight hl
 exact acu c0 c1 c2 c3 c4 c5 c6 c7 a c h
theorem DW (l:Bs) (hl:8≤l.length) (hr:RS w0 F bv l) (h:Sat w0 w F) :
  Calls Tryz.prog 299 #[bv] w (aO fun v w'=>v = .int .u64 (aj.num (l.take 8):Nat)∧w=w'):=by
 obtain ⟨a,c,rfl,h1,h2⟩:=hr.len h
 have ht:=(hr.to hl c oQ (acy c)).rd w h
 have hs:sliced a 0 8 c 1 = .slice (if c=0 then a else a.map (·.add (0 * 1))) 8 c:=rfl
 rw [hs]at ht
 have hg:=Sr (l.take 8) (by rw [acJ];omega) _ c ht
 have hrun:∀ w,(Instr.sliceAt 36 (.slice a l.length c) none (some (.int .i64 8)) none).run Tryz.prog w = .ok (.slice (if c=0 then a else a.map (·.add (0 * 1))) 8 c) w:=fun w=>GL (k:=8) oQ w
 generalize (if c=0 then a else a.map (·.add (0 * 1)))=a2 at *
 generalize aj.num (l.take 8)=N at *
 clear ht hs
 go_enter Tryz.func299,Tryz.ntmps299
 go_wp2_with ((with_reducible refine Qd ⟨?_⟩);refine Yg ah ah hrun ?_)
 refine hg.mono ?_
 rintro e w1 ⟨v,rfl,rfl,rfl⟩
 go_wp2
 go_ret
 exact ⟨_,rfl,rfl,rfl⟩
set_option maxRecDepth 20000 in
theorem afz (x:Nat) (hx:x<18446744073709551616) (h:Sat w0 w F) :
  Calls Tryz.prog 163 #[.int .u64 x,.int .i64 8] w (aO fun v w'=>Sat w0 w' (bJ v (aj.le x 8)::F)∧∃ a,v = .slice a 8 8):=by
 have Hx:=uQ hx
 clear hx
 have hmk:∀ w,(Instr.makeSlice 36 (.int .i64 8) (.int .i64 8)).run Tryz.prog w = .ok (.slice (some ⟨w.heap.size,0,none⟩) 8 8) (w.alloc (.cells #[.int .u8 0,.int .u8 0,.int .u8 0,.int .u8 0,.int .u8 0,.int .u8 0,.int .u8 0,.int .u8 0] 5)):=fun w=>by kernel_rfl
 go_enter Tryz.func163,Tryz.ntmps163
 go_wp2_with fail
 have hA:=h.alloc (.cells #[.int .u8 0,.int .u8 0,.int .u8 0,.int .u8 0,.int .u8 0,.int .u8 0,.int .u8 0,.int .u8 0] 5)
 have hB:Sat w0 (w.alloc (.cells #[.int .u8 0,.int .u8 0,.int .u8 0,.int .u8 0,.int .u8 0,.int .u8 0,.int .u8 0,.int .u8 0] 5)) (bJ (.slice (some ⟨w.heap.size,0,none⟩) 8 8) [0,0,0,0,0,0,0,0]::F):=Sat.kC hA rfl (acy _) (acy _) (by unfold maxLen;omega) rfl
 obtain ⟨b0,b1,b2,b3,b4,b5,b6,b7,hb0,hb1,hb2,hb3,hb4,hb5,hb6,hb7,hle⟩:∃ b0 b1 b2 b3 b4 b5 b6 b7:UInt8,(x:Int)%256=b0.toNat∧(x:Int) / 256%256=b1.toNat∧(x:Int) / 65536%256=b2.toNat∧(x:Int) / 16777216%256=b3.toNat∧(x:Int) / 4294967296%256=b4.toNat∧(x:Int) / 1099511627776%256=b5.toNat∧(x:Int) / 281474976710656%256=b6.toNat∧(x:Int) / 72057594037927936%256=b7.toNat∧aj.le x 8=[b0,b1,b2,b3,b4,b5,b6,b7]:=by
  refine ⟨_,_,_,_,_,_,_,_,?_,?_,?_,?_,?_,?_,?_,?_,rfl⟩
  all_goals (rw [akH];omega)
 have o7:=uQ hle
 clear hle hmk hA
 generalize w.heap.size=q at *
 go_loopg [17] 8 (fun g iq wr=>∃ (i:Nat) (l':Bs),g=8 - i∧i≤8∧iq = .int .i64 i∧l'=(match i with|0=>[0,0,0,0,0,0,0,0]|1=>[b0,0,0,0,0,0,0,0]|2=>[b0,b1,0,0,0,0,0,0]|3=>[b0,b1,b2,0,0,0,0,0]|4=>[b0,b1,b2,b3,0,0,0,0]|5=>[b0,b1,b2,b3,b4,0,0,0]|6=>[b0,b1,b2,b3,b4,b5,0,0]|7=>[b0,b1,b2,b3,b4,b5,b6,0]|_=>[b0,b1,b2,b3,b4,b5,b6,b7])∧Sat w0 wr (bJ (.slice (some ⟨q,0,none⟩) 8 8) l'::F))
 case atStart=>exact ⟨0,_,rfl,by omega,rfl,rfl,hB⟩
 case round=>
  obtain ⟨i,l',rfl,hi,rfl,hl',hS⟩:=hrel
  clear hB
  obtain rfl|rfl|rfl|rfl|rfl|rfl|rfl|rfl|rfl:i=0∨i=1∨i=2∨i=3∨i=4∨i=5∨i=6∨i=7∨i=8:=by omega
  ·obtain rfl:l'=[0,0,0,0,0,0,0,0]:=hl'
   obtain ⟨g,he,e0,e1,hS5⟩:=qj (i:=0) hS (by simp) b0
   cases he
   go_wp2_with fail
   go_roundg 7
   case measure=>omega
   case rel=>exact ⟨1,[b0,0,0,0,0,0,0,0],rfl,by omega,rfl,rfl,hS5⟩
  ·obtain rfl:l'=[b0,0,0,0,0,0,0,0]:=hl'
   obtain ⟨g,he,e0,e1,hS5⟩:=qj (i:=1) hS (by simp) b1
   cases he
   go_wp2_with fail
   go_roundg 6
   case measure=>omega
   case rel=>exact ⟨2,[b0,b1,0,0,0,0,0,0],rfl,by omega,rfl,rfl,hS5⟩
  ·obtain rfl:l'=[b0,b1,0,0,0,0,0,0]:=hl'
   obtain ⟨g,he,e0,e1,hS5⟩:=qj (i:=2) hS (by simp) b2
   cases he
   go_wp2_with fail
   go_roundg 5
   case measure=>omega
   case rel=>exact ⟨3,[b0,b1,b2,0,0,0,0,0],rfl,by omega,rfl,rfl,hS5⟩
  ·obtain rfl:l'=[b0,b1,b2,0,0,0,0,0]:=hl'
   obtain ⟨g,he,e0,e1,hS5⟩:=qj (i:=3) hS (by simp) b3
   cases he
   go_wp2_with fail
   go_roundg 4
   case measure=>omega
   case rel=>exact ⟨4,[b0,b1,b2,b3,0,0,0,0],rfl,by omega,rfl,rfl,hS5⟩
  ·obtain rfl:l'=[b0,b1,b2,b3,0,0,0,0]:=hl'
   obtain ⟨g,he,e0,e1,hS5⟩:=qj (i:=4) hS (by simp) b4
   cases he
   go_wp2_with fail
   go_roundg 3
   case measure=>omega
   case rel=>exact ⟨5,[b0,b1,b2,b3,b4,0,0,0],rfl,by omega,rfl,rfl,hS5⟩
  ·obtain rfl:l'=[b0,b1,b2,b3,b4,0,0,0]:=hl'
   obtain ⟨g,he,e0,e1,hS5⟩:=qj (i:=5) hS (by simp) b5
   cases he
   go_wp2_with fail
   go_roundg 2
   case measure=>omega
   case rel=>exact ⟨6,[b0,b1,b2,b3,b4,b5,0,0],rfl,by omega,rfl,rfl,hS5⟩
  ·obtain rfl:l'=[b0,b1,b2,b3,b4,b5,0,0]:=hl'
   obtain ⟨g,he,e0,e1,hS5⟩:=qj (i:=6) hS (by simp) b6
   cases he
   go_wp2_with fail
   go_roundg 1
   case measure=>omega
   case rel=>exact ⟨7,[b0,b1,b2,b3,b4,b5,b6,0],rfl,by omega,rfl,rfl,hS5⟩
  ·obtain rfl:l'=[b0,b1,b2,b3,b4,b5,b6,0]:=hl'
   obtain ⟨g,he,e0,e1,hS5⟩:=qj (i:=7) hS (by simp) b7
   cases he
   go_wp2_with fail
   go_roundg 0
   case measure=>omega
   case rel=>exact ⟨8,[b0,b1,b2,b3,b4,b5,b6,b7],rfl,by omega,rfl,rfl,hS5⟩
  ·obtain rfl:l'=[b0,b1,b2,b3,b4,b5,b6,b7]:=hl'
   go_wp2
   go_ret
   exact ⟨_,rfl,by rw [o7.out];exact hS,_,rfl⟩
end
abbrev iW (p:Nat) (l:Xx.Ln) (rv:Value) (n:Nat):aG:=pt p (.cells #[.bool true,.int .u64 0,.int .u64 l.a,.int .u64 l.b,.int .u64 l.c,.int .u64 l.d,rv,.int .u64 n] 405 (0,0))
section
variable {w0 w:World}{F:List aG}{v bv rv:Value}{p n:Nat}{l:Xx.Ln}
theorem ai2:jy Tryz.prog 403=some (.agg #[.int .u64 0,.int .u64 0,.int .u64 0,.int .u64 0]):=by kernel_rfl
theorem aeS (h:Sat w0 w F):Calls Tryz.prog 261 #[.int .u64 0] w (aO fun v w'=>∃ p,v=ptr p∧Sat w0 w' (iW p Xx.Ln.zero (.slice none 0 0) 0::F)):=by
 have hb1:∀ w,(Instr.build 405 #[(0,.bool true),(1,.int .u64 0)]).run Tryz.prog w = .ok (.agg #[.bool true,.int .u64 0,.int .u64 0,.int .u64 0,.int .u64 0,.int .u64 0,.slice none 0 0,.int .u64 0]) w:=fun w=>by kernel_rfl
 have hb2:∀ w,(Instr.build 403 #[(0,.int .u64 6983438078262162902),(1,.int .u64 14029467366897019727),(2,.int .u64 0),(3,.int .u64 7046029288634856825)]).run Tryz.prog w = .ok (.agg #[.int .u64 6983438078262162902,.int .u64 14029467366897019727,.int .u64 0,.int .u64 7046029288634856825]) w:=fun w=>by kernel_rfl
 go_enter Tryz.func261,Tryz.ntmps261
 go_wp2_with (first
  |((with_reducible refine eG ⟨?_⟩);refine eH h ah ah ?_;intro bB wB hB)
  |((with_reducible refine bY ⟨?_⟩);refine eY (v:= .agg #[.int .u64 6983438078262162902,.int .u64 14029467366897019727,.int .u64 0,.int .u64 7046029288634856825]) hB ah ah ah bZ aN au ah ?_;intro wS hS))
 go_ret
 exact ⟨_,rfl,bB,rfl,hS⟩
set_option maxRecDepth 20000 in
theorem adT (hl:l.lt) (h:Sat w0 w (iW p l rv n::F)):Calls Tryz.prog 300 #[ptr p] w (aO fun v w'=>v = .int .u64 (Xx.joined l:Nat)∧Sat w0 w' (iW p l rv n::F)):=by
 obtain ⟨la,lb,lc,ld⟩:=l
 obtain ⟨l1,l2,l3,l4⟩:=hl
 simp only at l1 l2 l3 l4
 obtain ⟨s1,s2,x0,f1,f2,f3,q5,hJ⟩:=adS ⟨la,lb,lc,ld⟩
 simp only at f1 f2 f3 hJ
 have HJ:=uQ hJ
 have Em:=uQ (fun (w:World) (R:List aG) (hS:Sat w0 w R)=>aic la l1 hS)
 have pX:=uQ (fun (w:World) (R:List aG) (hS:Sat w0 w R)=>aij lb l2 hS)
 have Pz:=uQ (fun (w:World) (R:List aG) (hS:Sat w0 w R)=>aia lc l3 hS)
 have PD:=uQ (fun (w:World) (R:List aG) (hS:Sat w0 w R)=>aib ld l4 hS)
 generalize Xx.turn la 1=ta at *
 generalize Xx.turn lb 7=tb at *
 generalize Xx.turn lc 12=tc at *
 generalize Xx.turn ld 18=td at *
 have Hq:=uQ q5
 have Hf:=uQ (And.intro f1 (And.intro f2 f3))
 clear l1 l2 l3 l4 q5 f1 f2 f3 hJ
 go_enter Tryz.func300,Tryz.ntmps300
 go_wp2_with (first
  |((with_reducible refine bD ⟨?_⟩);refine Au (b:=p) (o:=2) [.int .u64 la,.int .u64 lb,.int .u64 lc,.int .u64 ld] h ah aT (fun j v hj=>by
    rcases j with _|_|_|_|j
    ·cases hj;rfl
    ·cases hj;rfl
    ·cases hj;rfl
    ·cases hj;rfl
    ·simp at hj) Tryz.underlying403 rfl au ?_)
  |((with_reducible refine eU ⟨?_⟩);refine dU ai2 h rfl ?_;intro b3 w3 h3)
  |((with_reducible refine bY ⟨?_⟩);refine fE #[.int .u64 la,.int .u64 lb,.int .u64 lc,.int .u64 ld] h3 ah ah ah bZ au ah ?_;intro w4 h4))
 have hS:=h4.drew
 clear h h3 h4
 refine dH [13,14,15] (fun w'=>w'.cell? ⟨b3,0,none⟩=some (.int .u64 la)∧w'.cell? ⟨b3,1,none⟩=some (.int .u64 lb)∧w'.cell? ⟨b3,2,none⟩=some (.int .u64 lc)∧w'.cell? ⟨b3,3,none⟩=some (.int .u64 ld)) au ?_
 have HG:=uQ (fun (w:World) (R:List aG) (hS:Sat w0 w (pt b3 (.cells #[.int .u64 la,.int .u64 lb,.int .u64 lc,.int .u64 ld] 403 (0,0))::R))=>show w.cell? ⟨b3,0,none⟩=some (.int .u64 la)∧w.cell? ⟨b3,1,none⟩=some (.int .u64 lb)∧w.cell? ⟨b3,2,none⟩=some (.int .u64 lc)∧w.cell? ⟨b3,3,none⟩=some (.int .u64 ld) from ⟨hS.cellAt 0 _ rfl,hS.cellAt 1 _ rfl,hS.cellAt 2 _ rfl,hS.cellAt 3 _ rfl⟩)
 have hG:=HG.out _ _ hS
 refine rP 0 ?_ (y:=gX)
 refine rt 1 (h:=?_)
 refine rP 3 ?_ (y:=gX)
 refine rt 4 (h:=?_)
 refine rP 7 ?_ (y:=gX)
 refine rt 8 (h:=?_)
 refine rP 11 ?_ (y:=gX)
 refine rt 12 (h:=?_)
 clear hG
 refine bV 2 ak au (fun K hK=>?_)
 (refine gy au ak ak ?_)
 refine (Em.out _ _ hS).mono ?_
 rintro ee w5 ⟨v,rfl,rfl,h5⟩
 refine hK _ _ (.inr (.inl (HG.out _ _ h5))) ?_
 clear hK hS
 refine bV 5 ak au (fun K hK=>?_)
 (refine gy au ak ak ?_)
 refine (pX.out _ _ h5).mono ?_
 rintro ee w6 ⟨v,rfl,rfl,h6⟩
 refine hK _ _ (.inr (.inl (HG.out _ _ h6))) ?_
 clear hK h5
 refine rp 6 (hy:=(wY ak ak (by intro wq;have f1:=Hf.out.1;(go_simp);first|done|exact wQ))) (h:=?_)
 refine bV 9 ak au (fun K hK=>?_)
 (refine gy au ak ak ?_)
 refine (Pz.out _ _ h6).mono ?_
 rintro ee w7 ⟨v,rfl,rfl,h7⟩
 refine hK _ _ (.inr (.inl (HG.out _ _ h7))) ?_
 clear hK h6
 refine rp 10 (hy:=(wY ak ak (by intro wq;have f2:=Hf.out.2.1;(go_simp);first|done|exact wQ))) (h:=?_)
 refine bV 13 ak au (fun K hK=>?_)
 (refine gy au ak ak ?_)
 refine (PD.out _ _ h7).mono ?_
 rintro ee w8 ⟨v,rfl,rfl,h8⟩
 refine hK _ _ (.inl rfl) ?_
 clear hK h7
 refine rp 14 (hy:=(wY ak ak (by intro wq;have f3:=Hf.out.2.2;(go_simp);first|done|exact wQ))) (h:=?_)
 refine rP 15 ?_ (y:=fJ)
 refine dD au ?_
 try simp only [iO]
 try go_frame
 clear Em pX Pz PD HG Hf
 as_aux_lemma=>
  go_wp2_with ((with_reducible refine bD ⟨?_⟩);refine gI h8 ah aT Tryz.underlying403 rfl au ?_)
  go_loopg [27,4] 4 (fun g iq xq wr=>∃ (i x:Nat),g=4 - i∧i≤4∧iq = .int .i64 i∧xq = .int .u64 (x:Nat)∧x<18446744073709551616∧((i=0→x=x0)∧(i=1→x=Xx.mix x0 la)∧(i=2→x=Xx.mix (Xx.mix x0 la) lb)∧(i=3→x=Xx.mix (Xx.mix (Xx.mix x0 la) lb) lc)∧(i=4→x=Xx.mix (Xx.mix (Xx.mix (Xx.mix x0 la) lb) lc) ld))∧Sat w0 wr (pt b3 (.cells #[.int .u64 la,.int .u64 lb,.int .u64 lc,.int .u64 ld] 403 (0,0))::iW p ⟨la,lb,lc,ld⟩ rv n::F))
  case atStart=>exact ⟨0,x0,rfl,by decide,rfl,rfl,Hq.out,⟨fun _=>rfl,fun h=>absurd h aN,fun h=>absurd h aN,fun h=>absurd h aN,fun h=>absurd h aN⟩,h8⟩
  case round=>
   obtain ⟨i,x,rfl,hi,rfl,rfl,hx,hxe,hS⟩:=hrel
   clear h8
   obtain rfl|rfl|rfl|rfl|rfl:i=0∨i=1∨i=2∨i=3∨i=4:=by omega
   ·as_aux_lemma=>
    have hlc:Calls Tryz.prog 298 #[.int .u64 0,.int .u64 la] wr (aO fun v w'=>v = .int .u64 (Xx.lane 0 la:Nat)∧Sat w0 w' _):=uq 0 la hS
    have hix:∀ w,(Instr.index 403 (.agg #[.int .u64 la,.int .u64 lb,.int .u64 lc,.int .u64 ld]) (.int .i64 0)).run Tryz.prog w = .ok (.int .u64 la) w:=fun w=>by kernel_rfl
    obtain ⟨y,z,u,g1,g2,g3,hu,hm⟩:=FM hx la
    generalize Xx.lane 0 la=t at *
    have Hu:=uQ hu;have xE:=uQ hm;have xH:=uQ (hxe.1 rfl)
    clear hx hm hu hxe hS
    go_wp2_with fail
    refine hlc.mono ?_
    rintro ee w9 ⟨v,rfl,rfl,h9⟩
    clear hlc
    go_wp2
    go_roundg 3
    case measure=>omega
    case rel=>exact ⟨1,u,rfl,by decide,rfl,rfl,Hu.out,⟨fun h=>absurd h aN,fun _=>by rw [← xE.out,xH.out],fun h=>absurd h aN,fun h=>absurd h aN,fun h=>absurd h aN⟩,h9⟩
   ·as_aux_lemma=>
    have hlc:Calls Tryz.prog 298 #[.int .u64 0,.int .u64 lb] wr (aO fun v w'=>v = .int .u64 (Xx.lane 0 lb:Nat)∧Sat w0 w' _):=uq 0 lb hS
    have hix:∀ w,(Instr.index 403 (.agg #[.int .u64 la,.int .u64 lb,.int .u64 lc,.int .u64 ld]) (.int .i64 1)).run Tryz.prog w = .ok (.int .u64 lb) w:=fun w=>by kernel_rfl
    obtain ⟨y,z,u,g1,g2,g3,hu,hm⟩:=FM hx lb
    generalize Xx.lane 0 lb=t at *
    have Hu:=uQ hu;have xE:=uQ hm;have xH:=uQ (hxe.2.1 rfl)
    clear hx hm hu hxe hS
    go_wp2_with fail
    refine hlc.mono ?_
    rintro ee w9 ⟨v,rfl,rfl,h9⟩
    clear hlc
    go_wp2
    go_roundg 2
    case measure=>omega
    case rel=>exact ⟨2,u,rfl,by decide,rfl,rfl,Hu.out,⟨fun h=>absurd h aN,fun h=>absurd h aN,fun _=>by rw [← xE.out,xH.out],fun h=>absurd h aN,fun h=>absurd h aN⟩,h9⟩
   ·as_aux_lemma=>
    have hlc:Calls Tryz.prog 298 #[.int .u64 0,.int .u64 lc] wr (aO fun v w'=>v = .int .u64 (Xx.lane 0 lc:Nat)∧Sat w0 w' _):=uq 0 lc hS
    have hix:∀ w,(Instr.index 403 (.agg #[.int .u64 la,.int .u64 lb,.int .u64 lc,.int .u64 ld]) (.int .i64 2)).run Tryz.prog w = .ok (.int .u64 lc) w:=fun w=>by kernel_rfl
    obtain ⟨y,z,u,g1,g2,g3,hu,hm⟩:=FM hx lc
    generalize Xx.lane 0 lc=t at *
    have Hu:=uQ hu;have xE:=uQ hm;have xH:=uQ (hxe.2.2.1 rfl)
    clear hx hm hu hxe hS
    go_wp2_with fail
    refine hlc.mono ?_
    rintro ee w9 ⟨v,rfl,rfl,h9⟩
    clear hlc
    go_wp2
    go_roundg 1
    case measure=>omega
    case rel=>exact ⟨3,u,rfl,by decide,rfl,rfl,Hu.out,⟨fun h=>absurd h aN,fun h=>absurd h aN,fun h=>absurd h aN,fun _=>by rw [← xE.out,xH.out],fun h=>absurd h aN⟩,h9⟩
   ·as_aux_lemma=>
    have hlc:Calls Tryz.prog 298 #[.int .u64 0,.int .u64 ld] wr (aO fun v w'=>v = .int .u64 (Xx.lane 0 ld:Nat)∧Sat w0 w' _):=uq 0 ld hS
    have hix:∀ w,(Instr.index 403 (.agg #[.int .u64 la,.int .u64 lb,.int .u64 lc,.int .u64 ld]) (.int .i64 3)).run Tryz.prog w = .ok (.int .u64 ld) w:=fun w=>by kernel_rfl
    obtain ⟨y,z,u,g1,g2,g3,hu,hm⟩:=FM hx ld
    generalize Xx.lane 0 ld=t at *
    have Hu:=uQ hu;have xE:=uQ hm;have xH:=uQ (hxe.2.2.2.1 rfl)
    clear hx hm hu hxe hS
    go_wp2_with fail
    refine hlc.mono ?_
    rintro ee w9 ⟨v,rfl,rfl,h9⟩
    clear hlc
    go_wp2
    go_roundg 0
    case measure=>omega
    case rel=>exact ⟨4,u,rfl,by decide,rfl,rfl,Hu.out,⟨fun h=>absurd h aN,fun h=>absurd h aN,fun h=>absurd h aN,fun h=>absurd h aN,fun _=>by rw [← xE.out,xH.out]⟩,h9⟩
   ·have Hx:=uQ (show x=Xx.joined ⟨la,lb,lc,ld⟩ by rw [HJ.out];exact hxe.2.2.2.2 rfl)
    clear hxe hx
    go_wp2
    go_ret
    exact ⟨_,rfl,by rw [Hx.out];rfl,hS.drop⟩
end
section
variable {w0 w:World}{F:List aG}{v bv rv:Value}{p n:Nat}{l:Bs}
theorem Sm (l:Bs) (hl:l.length=4) (a:Option Addr) (c:Nat) (h:bg 1 (.slice a 4 c) (aA l) w) :
  Calls Tryz.prog 186 #[.slice a 4 c] w (aO fun v w'=>v = .tuple #[.int .u64 (aj.num l:Nat),.bool true]∧w=w'):=Sj l hl a c h
theorem ad3 (x:Nat) (h:Sat w0 w F):Calls Tryz.prog 298 #[.int .u64 0,.int .u64 x] w (aO fun v w'=>v = .int .u64 (Xx.lane 0 x:Nat)∧Sat w0 w' F):=uq 0 x h
theorem vF (hr:RS w0 F bv l) (h:Sat w0 w F){k:Nat} (hk:k≤l.length):∃ a c a2 c2,bv = .slice a l.length c∧l.length≤c∧c≤9223372036854775807∧(∀ w,(Instr.sliceAt 36 (.slice a l.length c) (some (.int .i64 k)) none none).run Tryz.prog w = .ok (.slice a2 (l.drop k).length c2) w)∧RS w0 F (.slice a2 (l.drop k).length c2) (l.drop k):=by
 obtain ⟨a,c,rfl,h1,h2⟩:=hr.len h
 have hs:=hr.from hk
 obtain ⟨a2,c2,he,h3,h4⟩:=hs.len h
 refine ⟨a,c,a2,c2,rfl,h1,h2,fun w=>?_,by rw [← he];exact hs⟩
 rw [← he];exact Xj hk w
theorem aa4 (hr:RS w0 F bv l) (h:Sat w0 w F){k:Nat} (hk:k≤l.length):∃ a c a2 c2,bv = .slice a l.length c∧l.length≤c∧c≤9223372036854775807∧(∀ w,(Instr.sliceAt 36 (.slice a l.length c) none (some (.int .i64 k)) none).run Tryz.prog w = .ok (.slice a2 k c2) w)∧RS w0 F (.slice a2 k c2) (l.take k):=by
 obtain ⟨a,c,rfl,h1,h2⟩:=hr.len h
 have hs:=hr.to hk c oQ (acy c)
 obtain ⟨a2,c2,he,h3,h4⟩:=hs.len h
 have e:(l.take k).length=k:=by rw [acJ];omega
 rw [e]at he
 refine ⟨a,c,a2,c2,rfl,h1,h2,fun w=>?_,by rw [← he];exact hs⟩
 rw [← he];exact GL oQ w
set_option maxRecDepth 20000 in
theorem aiV (x:Nat) (hx:x<18446744073709551616) (l:Bs) (hl:l.length≤1073741824) (hr:RS w0 F bv l) (h:Sat w0 w F):Calls Tryz.prog 301 #[.int .u64 x,bv] w (aO fun v w'=>v = .int .u64 (Xx.tail x l:Nat)∧Sat w0 w' F):=by
 obtain ⟨ba,bc,rfl,hb1,hb2⟩:=hr.len h
 have Hr:=uQ hr;have Hx:=uQ hx;have Hl:=uQ hl
 clear hr hx hl hb1 hb2
 go_enter Tryz.func301,Tryz.ntmps301
 go_wp2_with fail
 go_loopg [0,1] l.length (fun g xq bq wr=>∃ (y:Nat) (m:Bs),g=m.length∧m.length≤l.length∧xq = .int .u64 (y:Nat)∧y<18446744073709551616∧RS w0 F bq m∧Xx.kE l.length x l=Xx.kE m.length y m∧Sat w0 wr F)
 case atStart=>exact ⟨x,l,rfl,acy _,rfl,Hx.out,Hr.out,rfl,h⟩
 case round=>
  obtain ⟨y,m,rfl,hml,rfl,hy,hRS,heq,hS⟩:=hrel
  clear h
  by_cases h8:8≤m.length
  ·as_aux_lemma=>
   obtain ⟨a,c,a2,c2,rfl,k1,k2,hrun,SX⟩:=vF hRS hS h8
   have hwd:=DW m h8 hRS hS
   have hst:Xx.kE m.length y m=Xx.kE (m.drop 8).length (Xx.t8 y (aj.num (m.take 8))) (m.drop 8):=by rw [Xx.ah2 h8 (acy _),adU]
   generalize aj.num (m.take 8)=N at *
   have hln:=uQ (fun (w:World) (hS:Sat w0 w F)=>ad3 N hS)
   obtain ⟨r,z,u,g1,hr1,g3,g4,hu,Ue⟩:=ahX hy N
   generalize Xx.lane 0 N=t at *
   have htu:=uQ (fun (w:World) (hS:Sat w0 w F)=>aif r hr1 hS)
   generalize Xx.turn r 27=s at *
   rw [Ue]at hst
   have TK:(m.drop 8).length<m.length:=by rw [adU];omega
   generalize m.drop 8=m2 at *
   have c1:(8:Int)≤(m.length:Int):=oQ
   have Hu:=uQ hu;have mZ:=uQ (heq.trans hst);have HR:=uQ SX;have bT:=uQ (And.intro TK hml)
   clear hu hr1 hst Ue heq SX hRS TK hml hy k1 k2 h8
   go_wp2_with fail
   refine hwd.mono ?_
   rintro ee w2 ⟨v,rfl,rfl,rfl⟩
   clear hwd
   go_wp2_with fail
   refine (hln.out _ hS).mono ?_
   rintro ee w3 ⟨v,rfl,rfl,h3⟩
   clear hln hS
   go_wp2_with fail
   refine (htu.out _ h3).mono ?_
   rintro ee w4 ⟨v,rfl,rfl,h4⟩
   clear htu h3
   go_wp2_with ((with_reducible refine Ez ⟨?_⟩);refine Il ah ah hrun ?_)
   go_roundg m2.length
   case measure=>exact bT.out.1
   case rel=>exact ⟨u,m2,rfl,by have:=bT.out;omega,rfl,Hu.out,HR.out,mZ.out,h4⟩
  ·have hst:Xx.kE l.length x l=(y,m):=heq.trans (Xx.ah3 h8)
   have hT:Xx.tail x l=(Xx.tail4 y m).2.foldl Xx.t1 (Xx.tail4 y m).1:=by unfold Xx.tail;rw [hst]
   have hl2:m.length≤1073741824:=adr hml Hl.out
   have c1:¬ (8:Int)≤(m.length:Int):=oQ
   clear heq hst h8 hml
   by_cases h4:4≤m.length
   ·have e4:Xx.tail4 y m=(Xx.t4 y (aj.num (m.take 4)),m.drop 4):=by unfold Xx.tail4;rw [ac3 h4]
    rw [e4]at hT
    obtain ⟨a,c,a2,c2,rfl,k1,k2,hrunT,S9⟩:=aa4 hRS hS h4
    obtain ⟨a',c',a3,c3,he,_,_,CQ,SY⟩:=vF hRS hS h4
    cases he
    have hgt:=Sm (m.take 4) (by rw [acJ];omega) a2 c2 (S9.rd _ hS)
    obtain ⟨t,r,z,u,g0,g1,hr1,g3,g4,hu,Ud⟩:=ahV hy (aj.num (m.take 4))
    rw [Ud]at hT
    generalize aj.num (m.take 4)=N at *
    have htu:=aie r hr1 hS
    generalize Xx.turn r 23=s at *
    have hl4:(m.drop 4).length≤1073741824:=by rw [adU];omega
    have Qp:(4:Int)≤(m.length:Int):=oQ
    dsimp only at hT
    generalize m.drop 4=m2 at *
    have Hu:=uQ hu;have HT:=uQ hT;have HR:=uQ SY
    clear hu hr1 hT Ud hRS S9 SY hy k1 k2 h4 e4 hl2
    go_wp2_with (first
     |((with_reducible refine Qd ⟨?_⟩);refine Yg ah ah hrunT ?_))
    refine hgt.mono ?_
    rintro ee w2 ⟨v,rfl,rfl,rfl⟩
    clear hgt
    go_wp2_with fail
    refine htu.mono ?_
    rintro ee w3 ⟨v,rfl,rfl,h3⟩
    clear htu hS
    go_wp2_with ((with_reducible refine Ez ⟨?_⟩);refine Il ah ah CQ ?_)
    clear c1 Qp g0 g1 g3 g4 hrunT CQ
    have Hm:=uQ (show m2.length≤1073741824 from by omega)
    have jJ:=uQ HR.out;have HE:=uQ HT.out;have Hy:=uQ Hu.out
    go_wp2_with fail
    go_loopg [0,42] m2.length (fun g xq iq wr=>∃ (i z:Nat),g=m2.length - i∧i≤m2.length∧xq = .int .u64 (z:Nat)∧iq = .int .i64 i∧z<18446744073709551616∧z=(m2.take i).foldl Xx.t1 u∧Sat w0 wr F)
    case atStart=>exact ⟨0,u,rfl,afm _,rfl,rfl,Hy.out,rfl,h3⟩
    case round=>
     obtain ⟨i,z,rfl,hi,rfl,rfl,hz,hze,iG⟩:=hrel
     by_cases hi':i<m2.length
     ·as_aux_lemma=>
      have hb:(aA m2)[i]?=some (.int .u8 (m2[i]'hi').toNat):=by unfold aA;simp [hi']
      obtain ⟨bk,off,rfl,c1⟩:=zZ (jJ.out.rd _ iG) hb
      have hic:(i:Int)<(m2.length:Int):=oQ
      have hwi:IntKind.i64.wrap ((i:Int)+1)=(i:Int)+1:=acI _ (by have:=Hm.out;omega)
      have hnx:(m2.take (i+1)).foldl Xx.t1 u=Xx.t1 z (m2[i]'hi'):=by rw [ajQ hi',ak1,← hze,List.foldl_cons,List.foldl_nil]
      have hcb:=(m2[i]'hi').toNat_lt
      obtain ⟨q,r,u,g1,g2,hr,g3,hu,CV⟩:=XM hz (m2[i]'hi')
      rw [CV]at hnx
      have ht1:=hnx
      clear hnx hb CV
      generalize (m2[i]'hi').toNat=cb at *
      have htu:=XW r hr iG
      generalize Xx.turn r 11=s at *
      have hcm:IntKind.u64.wrap (cb:Int)=(cb:Int):=by rw [akd];omega
      have Hu:=uQ hu;have JC:=uQ ht1;have Hi:=uQ hi'
      clear hu hr ht1 hze hz hcb hi hi'
      go_wp2_with fail
      refine htu.mono ?_
      rintro ee w9 ⟨v,rfl,rfl,h9⟩
      clear htu iG
      go_wp2
      go_roundg (m2.length - (i+1))
      case measure=>have:=Hi.out;omega
      case rel=>exact ⟨i+1,u,rfl,aiy Hi.out,rfl,by first|rfl|go_num,Hu.out,JC.out.symm,h9⟩
     ·as_aux_lemma=>
      obtain rfl:i=m2.length:=by omega
      have hic:¬ (m2.length:Int)<(m2.length:Int):=oQ
      rw [aiv]at hze
      have Hf:=uQ (show Xx.tail x l=z by rw [HE.out,hze])
      clear hze hz hi hi'
      go_wp2
      go_ret
      exact ⟨_,rfl,by first|(rw [Hf.out];rfl)|(rw [← HE.out,Hf.out];rfl),iG⟩
   ·have e4:Xx.tail4 y m=(y,m):=by unfold Xx.tail4;rw [abw h4]
    rw [e4]at hT
    dsimp only at hT
    obtain ⟨a,c,rfl,k1,k2⟩:=hRS.len hS
    have Qp:¬ (4:Int)≤(m.length:Int):=oQ
    have HT:=uQ hT
    clear e4 h4 k1 k2 hT
    have Hm:=uQ (show m.length≤1073741824 from by omega)
    have jJ:=uQ hRS;have HE:=uQ HT.out;have Hy:=uQ hy
    go_wp2_with fail
    go_loopg [0,42] m.length (fun g xq iq wr=>∃ (i z:Nat),g=m.length - i∧i≤m.length∧xq = .int .u64 (z:Nat)∧iq = .int .i64 i∧z<18446744073709551616∧z=(m.take i).foldl Xx.t1 y∧Sat w0 wr F)
    case atStart=>exact ⟨0,y,rfl,afm _,rfl,rfl,Hy.out,rfl,hS⟩
    case round=>
     obtain ⟨i,z,rfl,hi,rfl,rfl,hz,hze,iG⟩:=hrel
     by_cases hi':i<m.length
     ·as_aux_lemma=>
      have hb:(aA m)[i]?=some (.int .u8 (m[i]'hi').toNat):=by unfold aA;simp [hi']
      obtain ⟨bk,off,rfl,c1⟩:=zZ (jJ.out.rd _ iG) hb
      have hic:(i:Int)<(m.length:Int):=oQ
      have hwi:IntKind.i64.wrap ((i:Int)+1)=(i:Int)+1:=acI _ (by have:=Hm.out;omega)
      have hnx:(m.take (i+1)).foldl Xx.t1 y=Xx.t1 z (m[i]'hi'):=by rw [ajQ hi',ak1,← hze,List.foldl_cons,List.foldl_nil]
      have hcb:=(m[i]'hi').toNat_lt
      obtain ⟨q,r,u,g1,g2,hr,g3,hu,CV⟩:=XM hz (m[i]'hi')
      rw [CV]at hnx
      have ht1:=hnx
      clear hnx hb CV
      generalize (m[i]'hi').toNat=cb at *
      have htu:=XW r hr iG
      generalize Xx.turn r 11=s at *
      have hcm:IntKind.u64.wrap (cb:Int)=(cb:Int):=by rw [akd];omega
      have Hu:=uQ hu;have JC:=uQ ht1;have Hi:=uQ hi'
      clear hu hr ht1 hze hz hcb hi hi'
      go_wp2_with fail
      refine htu.mono ?_
      rintro ee w9 ⟨v,rfl,rfl,h9⟩
      clear htu iG
      go_wp2
      go_roundg (m.length - (i+1))
      case measure=>have:=Hi.out;omega
      case rel=>exact ⟨i+1,u,rfl,aiy Hi.out,rfl,by first|rfl|go_num,Hu.out,JC.out.symm,h9⟩
     ·as_aux_lemma=>
      obtain rfl:i=m.length:=by omega
      have hic:¬ (m.length:Int)<(m.length:Int):=oQ
      rw [aiv]at hze
      have Hf:=uQ (show Xx.tail x l=z by rw [HE.out,hze])
      clear hze hz hi hi'
      go_wp2
      go_ret
      exact ⟨_,rfl,by first|(rw [Hf.out];rfl)|(rw [← HE.out,Hf.out];rfl),iG⟩
end
abbrev gY (p:Nat) (rv:Value):aG:=pt p (.cells #[rv,errno 0,.bool true] 387 (0,0))
section
variable {w0 w:World}{F:List aG}{v bv rv:Value}{p n k:Nat}{l m:Bs}
theorem WI (hl:l.length≤140737488355328) (hr:RS w0 F bv l) (h:Sat w0 w F):Calls Tryz.prog 235 #[bv] w (aO fun v w'=>∃ p rv,v=ptr p∧Sat w0 w' (gY p rv::bJ rv l::F)∧RS w0 (bJ rv l::F) rv l):=by
 obtain ⟨ba,bc,rfl,_,_⟩:=hr.len h
 have hc:=tZ h (hr.rd w h) hl
 clear hr
 go_enter Tryz.func235,Tryz.ntmps235
 go_wp2_with fail
 refine hc.mono ?_
 rintro ee w1 ⟨v,rfl,h1,a1,n1,c1,rfl⟩
 clear hc h
 have hb1:∀ w,(Instr.build 387 #[(0,.slice a1 n1 c1),(2,.bool true)]).run Tryz.prog w = .ok (.agg #[.slice a1 n1 c1,.int .i64 0,.bool true]) w:=fun w=>by kernel_rfl
 go_wp2_with ((with_reducible refine eG ⟨?_⟩);refine eH h1 ah ah ?_;intro bB wB hB)
 go_ret
 exact ⟨_,rfl,bB,_,rfl,hB,RS.F5 hB.drop⟩
theorem Nb (h:Sat w0 w (gY p rv::F)):Calls Tryz.prog 280 #[ptr p] w (aO fun v w'=>v=errno 0∧w=w'):=by
 have c1:w.cell? ⟨p,1,none⟩=some (errno 0):=h.cellAt 1 _ rfl
 have c2:w.cell? ⟨p,2,none⟩=some (.bool true):=h.cellAt 2 _ rfl
 go_enter Tryz.func280,Tryz.ntmps280
 go_wp2
 go_ret
 exact ⟨_,rfl,rfl,rfl⟩
set_option maxRecDepth 20000 in
theorem GI (hk:k≤m.length) (hr:RS w0 F rv m) (h:Sat w0 w (gY p rv::F)):Calls Tryz.prog 279 #[ptr p,.int .i64 k] w (aO fun v w'=>∃ ta tc ra rc,v = .tuple #[.slice ta k tc,.bool true]∧RS w0 F (.slice ta k tc) (m.take k)∧(∀ F0,RS w0 F0 rv m→RS w0 F0 (.slice ra (m.drop k).length rc) (m.drop k))∧Sat w0 w' (gY p (.slice ra (m.drop k).length rc)::F)):=by
 obtain ⟨ba,bc,ra,rc,rfl,h1,h2,CQ,_⟩:=vF hr h.drop hk
 have vP:∀ F0,RS w0 F0 (.slice ba m.length bc) m→RS w0 F0 (.slice ra (m.drop k).length rc) (m.drop k):=fun F0 h0=>by
  have e:=(Xj (a:=ba) (c:=bc) hk w).symm.trans (CQ w)
  have e2:sliced ba k m.length bc 1 = .slice ra (m.drop k).length rc:=by injection e
  rw [← e2];exact h0.from hk
 have Fh:=hr.to hk k (acy k) oQ
 obtain ⟨ta,tc,he,_,_⟩:=Fh.len h.drop
 rw [show (m.take k).length=k by rw [acJ];omega]at he
 have hrunT:∀ w,(Instr.sliceAt 36 (.slice ba m.length bc) none (some (.int .i64 k)) (some (.int .i64 k))).run Tryz.prog w = .ok (.slice ta k tc) w:=fun w=>by rw [← he];exact agY oQ w
 rw [he]at Fh
 have her:=Nb h
 have c0:¬ (k:Int)<0:=oQ
 have c0d:decide ((k:Int)<0)=false:=aex c0
 have c1:¬ (m.length:Int)<(k:Int):=oQ
 have c1d:decide ((m.length:Int)<(k:Int))=false:=aex c1
 have HT:=uQ Fh;have HF:=uQ vP
 clear hr Fh vP he h1 h2 hk
 generalize (m.drop k).length=q at *
 go_enter Tryz.func279,Tryz.ntmps279
 go_wp2_with fail
 refine her.mono ?_
 rintro ee w1 ⟨v,rfl,rfl,rfl⟩
 clear her
 go_wp2_with (first
  |((with_reducible refine bD ⟨?_⟩);refine dV h ah aT bF ak au ?_)
  |((with_reducible refine aag ⟨?_⟩);refine aiJ ah ah ah hrunT ?_)
  |((with_reducible refine Ez ⟨?_⟩);refine Il ah ah CQ ?_)
  |((with_reducible refine bY ⟨?_⟩);refine eY (v:= .slice ra q rc) h ah ah ah bZ (by exact Nat.le_of_ble_eq_true ah) au ah ?_;intro w2 h2))
 go_ret2
 exact ⟨_,rfl,ta,tc,ra,rc,rfl,HT.out,HF.out,h2⟩
set_option maxRecDepth 20000 in
theorem Gt (hk:4≤m.length) (hr:RS w0 F rv m) (h:Sat w0 w (gY p rv::F)):Calls Tryz.prog 237 #[ptr p,.int .i64 4] w (aO fun v w'=>∃ rv',v = .int .u64 (aj.num (m.take 4):Nat)∧(∀ F0,RS w0 F0 rv m→RS w0 F0 rv' (m.drop 4))∧Sat w0 w' (gY p rv'::F)):=by
 have her:=Nb h
 have htk:=GI (k:=4) hk hr h
 have Hl:=uQ (show (m.take 4).length=4 by rw [acJ];omega)
 clear hr hk
 go_enter Tryz.func237,Tryz.ntmps237
 go_wp2_with fail
 refine her.mono ?_
 rintro ee w1 ⟨v,rfl,rfl,rfl⟩
 clear her
 go_wp2_with fail
 refine htk.mono ?_
 rintro ee w2 ⟨v,rfl,ta,tc,ra,rc,rfl,hT,hF,h2⟩
 have hg:=Sm (m.take 4) Hl.out ta tc (hT.rd w2 h2.drop)
 have HF:=uQ hF
 obtain ⟨N,hN⟩:∃ N,Hid (aj.num (m.take 4)=N):=⟨_,uQ rfl⟩
 rw [hN.out]at hg
 clear htk h hT hF Hl
 go_wp2_with fail
 refine hg.mono ?_
 rintro ee w3 ⟨v,rfl,rfl,rfl⟩
 clear hg
 go_wp2
 go_ret
 exact ⟨_,rfl,_,by rw [hN.out];rfl,HF.out,h2⟩
set_option maxRecDepth 20000 in
theorem WG (hk:8≤m.length) (hr:RS w0 F rv m) (h:Sat w0 w (gY p rv::F)):Calls Tryz.prog 237 #[ptr p,.int .i64 8] w (aO fun v w'=>∃ rv',v = .int .u64 (aj.num (m.take 8):Nat)∧(∀ F0,RS w0 F0 rv m→RS w0 F0 rv' (m.drop 8))∧Sat w0 w' (gY p rv'::F)):=by
 have her:=Nb h
 have htk:=GI (k:=8) hk hr h
 have Hl:=uQ (show (m.take 8).length=8 by rw [acJ];omega)
 clear hr hk
 go_enter Tryz.func237,Tryz.ntmps237
 go_wp2_with fail
 refine her.mono ?_
 rintro ee w1 ⟨v,rfl,rfl,rfl⟩
 clear her
 go_wp2_with fail
 refine htk.mono ?_
 rintro ee w2 ⟨v,rfl,ta,tc,ra,rc,rfl,hT,hF,h2⟩
 have hg:=Sr (m.take 8) Hl.out ta tc (hT.rd w2 h2.drop)
 have HF:=uQ hF
 obtain ⟨N,hN⟩:∃ N,Hid (aj.num (m.take 8)=N):=⟨_,uQ rfl⟩
 rw [hN.out]at hg
 clear htk h hT hF Hl
 go_wp2_with fail
 refine hg.mono ?_
 rintro ee w3 ⟨v,rfl,rfl,rfl⟩
 clear hg
 go_wp2
 go_ret
 exact ⟨_,rfl,_,by rw [hN.out];rfl,HF.out,h2⟩
theorem afQ (hk:32≤m.length) (hr:RS w0 F rv m) (h:Sat w0 w (gY p rv::F)):Calls Tryz.prog 281 #[ptr p,.int .i64 32] w (aO fun v w'=>∃ rv',(∀ F0,RS w0 F0 rv m→RS w0 F0 rv' (m.drop 32))∧(∃ a n c,v = .slice a n c)∧Sat w0 w' (bJ v (m.take 32)::gY p rv'::F)):=by
 have htk:=GI (k:=32) hk hr h
 have Hl:=uQ (show (m.take 32).length≤140737488355328 by rw [acJ];omega)
 clear hr hk
 go_enter Tryz.func281,Tryz.ntmps281
 go_wp2_with fail
 refine htk.mono ?_
 rintro ee w2 ⟨v,rfl,ta,tc,ra,rc,rfl,hT,hF,h2⟩
 have hc:=tZ h2 (hT.rd w2 h2.drop) Hl.out
 have HF:=uQ hF
 clear htk h hT hF
 go_wp2_with fail
 refine hc.mono ?_
 rintro ee w3 ⟨v,rfl,h3,a3,n3,c3,rfl⟩
 clear hc
 go_wp2
 go_ret
 exact ⟨_,rfl,_,HF.out,⟨_,_,_,rfl⟩,h3⟩
theorem ag4 (hr:RS w0 F bv m) (h:Sat w0 w F) (hm:0<m.length):(convert 36 9 bv).run Tryz.prog w = .ok (.string ⟨m.toArray⟩) w:=by
 obtain ⟨a,c,rfl,_,_⟩:=hr.len h
 obtain ⟨bk,off,rfl,hc⟩:=nU (hr.rd w h) (i:=0) (tV.2 ⟨m[0],aak hm,rfl⟩)
 refine run_convert_bytes_back (P:=Tryz.prog) w _ _ 5 _ c m Tryz.underlying36 Tryz.underlying5 Tryz.underlying9 (fun j hj=>?_)
 have:=hc j _ (tV.2 ⟨m[j],aak hj,rfl⟩)
 rw [Addr.add_mid];exact this
theorem WY (hk:8≤m.length) (hr:RS w0 F rv m) (h:Sat w0 w (gY p rv::F)):Calls Tryz.prog 236 #[ptr p,.int .i64 8] w (aO fun v w'=>∃ rv',v = .string ⟨(m.take 8).toArray⟩∧(∀ F0,RS w0 F0 rv m→RS w0 F0 rv' (m.drop 8))∧Sat w0 w' (gY p rv'::F)):=by
 have htk:=GI (k:=8) hk hr h
 have Hl:=uQ (show 0<(m.take 8).length by rw [acJ];omega)
 clear hr hk
 go_enter Tryz.func236,Tryz.ntmps236
 go_wp2_with fail
 refine htk.mono ?_
 rintro ee w2 ⟨v,rfl,ta,tc,ra,rc,rfl,hT,hF,h2⟩
 have hcv:=ag4 hT h2.drop Hl.out
 have HF:=uQ hF
 clear htk h hT hF
 go_wp2
 go_ret
 exact ⟨_,rfl,_,rfl,HF.out,h2⟩
end
end Go.Proofs.YtiglchkhikciiaaGreatDoor
