import Derived.Test.YtiglchkhikciiaaGreatDoorJ9
import Derived.Test.YtiglchkhikciiaaGreatDoorShelf
set_option linter.unusedVariables false
set_option maxHeartbeats 128000000
namespace Go.aS
open Go.aj (Bs le num iH yF)
variable {X:Bs→Nat}{mg:Bs}{kd:Bool}{l:List Rw}{k:Nat}
theorem Qk:book X mg kd l=mg++(le l.length 4++(jg kd l++le (X (body mg kd l)) 8)):=by
 unfold book body
 simp only [adR]
theorem Qj (hm:mg.length=8) (h:∀ r∈l,uY k r):(book X mg kd l).take (12+l.length * jE kd k)=body mg kd l:=by
 unfold book
 exact List.take_left' (zn hm h)
theorem Vl {n:Nat} (h:n≤65536) (t:Bs):num ((le n 4++t).take 4)=n:=by
 rw [Oe]
 exact yF 4 n (akm h aN)
theorem Vm {n:Nat} (h:n<18446744073709551616):num ((le n 8).take 8)=n:=by
 rw [aeb (by rw [iH];exact acy _)]
 exact yF 8 n (Nat.lt_of_lt_of_le h aN)
end Go.aS
namespace Go.Proofs.YtiglchkhikciiaaGreatDoor
open Go Go.Sl Go.ay Go.MapKept Go.RowKit
section
variable {P:Program}{w:World}{ops:Array Oper}{a:Act}{dst:Option Tmp}{t ty:TypeId}{pos:String}{after:Array Edge}{x y:Operand}{v vx vy:Value}
theorem Yq (hx:a.eval x=vx) (hy:a.eval y=vy) (hr:∀ w,(Instr.sliceAt ty vx none (some vy) none).run P w = .ok v w):Yields P ops ⟨dst,.slice ty x none (some y) none,t,pos,after,none⟩ v a:=
 .inl ⟨kS _ rfl,fun w=>by simp only [execOp,hx,hy,aj7,akK,adO,hr,ac2,aeC]⟩
end
section
variable {w0 w:World}{F:List aG}{rv lv bv:Value}{p:Nat}
theorem XJ (b:ByteArray) (l:aj.Bs) (h:b.data.toList=l):(⟨l.toArray⟩:ByteArray)=b:=by
 apply ByteArray.ext
 rw [← h]
theorem aaG (us:List Rep.Use) (hok:aS.Ok 3 false (us.map Rep.jc)) (hr:Ro w0 F (bg 3 lv (us.flatMap bI))) (h:Sat w0 w F) :
  Calls Tryz.prog 121 #[lv] w (aO fun v w'=>∃ bv,v = .tuple #[bv,errno 0]∧Sat w0 w' (iM bv (aS.book Xx.sum aS.qU false (us.map Rep.jc))::F)):=by
 have hn:us.length≤65536:=by have:=hok.len;rwa [aaJ]at this
 skip
 obtain ⟨la,lc,rfl⟩:=iD (fun u _=>uK u) (hr w h) aN
 have c1:¬ (65536:Int)<(us.length:Int):=oQ
 have Hr:=uQ hr;have bU:=uQ hok;have Hn:=uQ hn
 clear hr hok hn
 go_enter Tryz.func121,Tryz.ntmps121
 go_wp2_with fail
 refine (X6 h).mono ?_
 rintro ee w1 ⟨v,rfl,rfl,h1⟩
 clear h
 go_wp2_with fail
 refine (afw us Hn.out Hr.out h1).mono ?_
 rintro ee w2 ⟨ov,rfl,rs,hrs,h2⟩
 clear h1
 have qG:=uQ hrs
 have hkey:∀ r∈rs,r.x.key.length=32∧0<r.x.nums.length:=fun r hr=>by
  have h1:r.x∈us.map Rep.jc:=by rw [← hrs];exact akS hr
  have:=bU.out.row r.x h1
  exact ⟨this.key,by rw [this.len];decide⟩
 have dO:=uQ hkey
 clear hrs hkey
 go_wp2_with fail
 refine (Qm ⟨#[72,79,65,82,68,85,83,69]⟩ aS.qU rfl rfl false 3 aN rs (by rw [qG.out];exact bU.out) (fun w hw=>Sat.rd hw) (fun r hr=>(zQ hr (dO.out r hr).1 (dO.out r hr).2).sub jH) h2).mono ?_
 rintro ee w3 ⟨v,rfl,bv,rfl,h3⟩
 rw [qG.out]at h3
 clear h2
 go_wp2_with fail
 go_ret2
 exact ⟨_,rfl,bv,rfl,h3.sb⟩
theorem aaz (us:List (aj.Bs×Seg.aU)) (hk:∀ q∈us,q.1.length=32) (hok:aS.Ok 3 true (us.map Rep.iY)) (hr:Ro w0 F (bg 35 lv (us.flatMap fC))) (h:Sat w0 w F) :
  Calls Tryz.prog 119 #[lv] w (aO fun v w'=>∃ bv,v = .tuple #[bv,errno 0]∧Sat w0 w' (iM bv (aS.book Xx.sum aS.qR true (us.map Rep.iY))::F)):=by
 have hn:us.length≤65536:=by have:=hok.len;rwa [aaJ]at this
 have Hk:=uQ hk
 obtain ⟨la,lc,rfl⟩:=iD (fun u hu=>ku u (Hk.out u hu)) (hr w h) aN
 have c1:¬ (65536:Int)<(us.length:Int):=oQ
 have Hr:=uQ hr;have bU:=uQ hok;have Hn:=uQ hn
 clear hr hok hn
 go_enter Tryz.func119,Tryz.ntmps119
 go_wp2_with fail
 refine (Ur h).mono ?_
 rintro ee w1 ⟨v,rfl,rfl,h1⟩
 clear h
 go_wp2_with fail
 refine (afv us Hn.out Hk.out Hr.out h1).mono ?_
 rintro ee w2 ⟨ov,rfl,rs,hrs,h2⟩
 clear h1
 have qG:=uQ hrs
 have hkey:∀ r∈rs,r.x.key.length=32∧0<r.x.nums.length:=fun r hr=>by
  have h1:r.x∈us.map Rep.iY:=by rw [← hrs];exact akS hr
  have:=bU.out.row r.x h1
  exact ⟨this.key,by rw [this.len];decide⟩
 have dO:=uQ hkey
 clear hrs hkey
 go_wp2_with fail
 refine (Qm ⟨#[72,79,65,82,68,73,68,88]⟩ aS.qR rfl rfl true 3 aN rs (by rw [qG.out];exact bU.out) (fun w hw=>Sat.rd hw) (fun r hr=>(zQ hr (dO.out r hr).1 (dO.out r hr).2).sub jH) h2).mono ?_
 rintro ee w3 ⟨v,rfl,bv,rfl,h3⟩
 rw [qG.out]at h3
 clear h2
 go_wp2_with fail
 go_ret2
 exact ⟨_,rfl,bv,rfl,h3.sb⟩
set_option maxRecDepth 20000 in
theorem aaB (dX:ByteArray) (mg:aj.Bs) (hmb:dX.data.toList=mg) (oJ:mg.length=8) (k:Nat) (hk:k≤3) (hk0:0<k) (rs:List aS.Rw) (hok:aS.Ok k false rs) (hz:∀ r∈rs,r.key=aj.zero32) (hr:RS w0 F bv (aS.book Xx.sum mg false rs)) (h:Sat w0 w F) :
  Calls Tryz.prog 199 #[.agg (kX dX false k),bv] w (aO fun v w'=>∃ (vs:List RV) (lv:Value),v = .tuple #[lv,errno 0]∧vs.map (·.x)=rs∧Sat w0 w' (aC 284 33 lv (vs.flatMap bW)::iy vs::F)):=by
 obtain ⟨ba,bc,rfl,hbc,hbm⟩:=hr.len h
 have hlen:(aS.book Xx.sum mg false rs).length=20+rs.length * aS.jE false k:=aS.EF oJ hok.row
 have hbe:=aS.Qk (X:=Xx.sum) (mg:=mg) (kd:=false) (l:=rs)
 have hbt:=aS.Qj (X:=Xx.sum) (mg:=mg) (kd:=false) oJ hok.row
 have hb3:(aS.body mg false rs).length=12+rs.length * aS.jE false k:=aS.zn oJ hok.row
 have hz1:rs.length * aS.jE false k≤65536 * 44:=akI hok.len (aS.Gu hk)
 have hto:=RS.to hr (k:=12+rs.length * aS.jE false k) (by rw [hlen];omega) bc (adr (by rw [hlen];omega) hbc) (acy _)
 rw [hbt]at hto
 obtain ⟨ta,tc,hte,_,_⟩:=hto.len h
 rw [hte]at hto
 obtain ⟨S,hS⟩:∃ S,Xx.sum (aS.body mg false rs)=S:=⟨_,rfl⟩
 have hSl:S<18446744073709551616:=by rw [← hS];exact Xx.sum_lt _
 rw [hS]at hbe
 have JA:=uQ hto;have Hte:=uQ hte
 clear hto hte
 have Hlen:=uQ hlen;have IL:=uQ hbe;have YN:=uQ hbt;have Hb3:=uQ hb3;have HS:=uQ hS;have AL:=uQ hSl
 obtain ⟨Z,hZ⟩:∃ Z,rs.length * aS.jE false k=Z:=⟨_,rfl⟩
 have HZ:=uQ hZ
 rw [hZ]at hz1 hlen
 have nN:=uQ hz1
 have Hr:=uQ hr;have bU:=uQ hok;have y7:=uQ hmb;have nI:=uQ oJ;have Hk:=uQ hk;have I8:=uQ hk0;have IK:=uQ hbc;have YM:=uQ hbm;have Hz:=uQ hz
 have qE:=uQ (show (aS.book Xx.sum mg false rs).length=20+Z from hlen)
 clear hbe hbt hb3 hz1 hS hSl hZ hr hok hmb oJ hk hk0 hbc hbm hlen hz
 have c1:¬ ((aS.book Xx.sum mg false rs).length:Int)<12:=by have:=qE.out;omega
 have c2:¬ (65536:Int)<(rs.length:Int):=by have:=bU.out.len;omega
 have c3:¬ ((aS.book Xx.sum mg false rs).length:Int)<20+(Z:Int):=by have:=qE.out;omega
 have c4:¬ (20+(Z:Int))<((aS.book Xx.sum mg false rs).length:Int):=by have:=qE.out;omega
 go_enter Tryz.func199,Tryz.ntmps199
 go_wp2_with (with_reducible apply eG)
 refine ⟨eH h ah ah ?_⟩
 intro b2 w2 h2
 replace h2:Sat w0 w2 (jD b2 dX false k::F):=h2
 clear h
 go_wp2_with fail
 refine (WI (by rw [qE.out];have:=nN.out;omega) (Hr.out.more jH) h2).mono ?_
 rintro ee w3 ⟨v,rfl,p,rv,rfl,h3,hrs⟩
 clear h2
 have yC:RS w0 (bJ rv (aS.book Xx.sum mg false rs)::jD b2 dX false k::F) rv (mg++(aj.le rs.length 4++(aS.jg false rs++aj.le S 8))):=by rw [← IL.out];exact hrs
 generalize hG0:bJ rv (aS.book Xx.sum mg false rs)=BB at *
 clear hG0
 have htx:=WY (by rw [aal,nI.out];omega) yC h3
 rw [List.take_left' nI.out,List.drop_left' nI.out,XJ dX mg y7.out]at htx
 clear hrs h3
 go_wp2_with fail
 refine htx.mono ?_
 rintro ee w4 ⟨v,rfl,pJ,rfl,hr1,h4⟩
 have rV:=hr1 _ yC
 clear htx hr1 yC
 have hn4:=Gt (by rw [aal,aj.iH];omega) rV h4
 rw [aS.Vl bU.out.len,aS.EO]at hn4
 clear h4
 go_wp2_with fail
 refine hn4.mono ?_
 rintro ee w5 ⟨v,rfl,kL,rfl,hr2,h5⟩
 have vP:=hr2 _ rV
 have Js:=uQ (show RS w0 (BB::jD b2 dX false k::F) kL (aS.jg false rs++aj.le S 8) from vP)
 clear hn4 hr2 rV vP
 have hwn:IntKind.i64.wrap (rs.length:Int)=(rs.length:Int):=acI _ (by have:=bU.out.len;omega)
 have hw1:IntKind.i64.wrap ((rs.length:Int) * ((aS.jE false k:Nat):Int))=(Z:Int):=by
  rw [← alz,HZ.out];exact acI _ (by have:=nN.out;omega)
 have hw2:IntKind.i64.wrap (12+(Z:Int))=12+(Z:Int):=acI _ (by have:=nN.out;omega)
 have hw3:IntKind.i64.wrap (12+(Z:Int)+8)=20+(Z:Int):=by rw [show 12+(Z:Int)+8=20+(Z:Int) by omega];exact acI _ (by have:=nN.out;omega)
 have hw4:IntKind.i64.wrap (20+(Z:Int) - 8)=12+(Z:Int):=by rw [show 20+(Z:Int) - 8=12+(Z:Int) by omega];exact acI _ (by have:=nN.out;omega)
 have hsl:∀ w,(Instr.sliceAt 36 (.slice ba (aS.book Xx.sum mg false rs).length bc) none (some (.int .i64 (12+(Z:Int)))) none).run Tryz.prog w = .ok (.slice ta (aS.body mg false rs).length tc) w:=fun w=>by
  have:=GL (a:=ba) (n:=(aS.book Xx.sum mg false rs).length) (c:=bc) (k:=12+Z) (by have:=qE.out;have:=IK.out;omega) w
  rw [← HZ.out,Hte.out,HZ.out]at this
  rw [show (12+(Z:Int))=((12+Z:Nat):Int) by omega]
  exact this
 have rE:=uQ hsl
 clear hsl
 generalize (aS.book Xx.sum mg false rs).length=L at *
 go_wp2_with (first
  |((with_reducible refine bD ⟨?_⟩);first
   |refine gI h5 ah fG Tryz.underlying278 rfl au ?_
   |refine dV h5 ah fG bF ak au ?_))
 refine (Uy dX false k (by have:=Hk.out;omega) h5).mono ?_
 rintro ee w6 ⟨v,rfl,rfl,h6⟩
 clear h5
 go_wp2_with (first
  |((with_reducible refine bD ⟨?_⟩);refine gI h6 ah fG Tryz.underlying278 rfl au ?_))
 refine (ad1 dX k Hk.out rs bU.out.row bU.out.len Hz.out (aj.le S 8) Js.out h6).mono ?_
 rintro ee w7 ⟨v,rfl,vs,rv3,hvs,qL,h7⟩
 have kF:=uQ hvs;have Jt:=uQ qL
 clear h6 hvs qL
 go_wp2_with fail
 have hG:True:=trivial
 have h8:=h7.drew
 clear h7
 refine dH [] (fun w'=>True) au ?_
 refine rP 0 ?_ (y:=aX)
 refine rP 2 ?_ (y:=aX)
 refine rP 3 ?_ (y:=aX)
 refine rP 4 ?_ (y:=jm)
 refine rP 5 ?_ (y:=(Yq ak ak rE.out))
 refine bV 1 ak au (fun K hK=>?_)
 (refine gy au ak ak ?_)
 have yx:=WG (F:=aC 284 33 v (vs.flatMap bW)::iy vs::BB::jD b2 dX false k::F) (by rw [aj.iH];exact acy _) (Jt.out.more jH) (h8.sb:Sat w0 _ (gY p rv3::aC 284 33 v (vs.flatMap bW)::iy vs::BB::jD b2 dX false k::F))
 rw [aS.Vm AL.out]at yx
 refine yx.mono ?_
 rintro ee w9 ⟨v2,rfl,NJ,rfl,_,h9⟩
 refine hK _ _ (.inr (.inl trivial)) ?_
 clear hK yx h8
 refine bV 6 ak au (fun K hK=>?_)
 (refine gy au ak ak ?_)
 have hxs:=OE (l:=aS.body mg false rs) (fun e=>by have:=Hb3.out;rw [e]at this;simp only [ajn]at this;omega) (by rw [Hb3.out,HZ.out];have:=nN.out;omega) (JA.out.more jH) h9
 rw [HS.out]at hxs
 refine hxs.mono ?_
 rintro ee w10 ⟨v3,rfl,rfl,h10⟩
 refine hK _ _ (.inr (.inl trivial)) ?_
 clear hK hxs h9
 refine rP 7 ?_ (y:=jm)
 refine dD au ?_
 go_wp2_with ((with_reducible refine bD ⟨?_⟩);refine gI h10 ah (aW iZ) Tryz.underlying278 rfl au ?_)
 have dO:=uQ (show ∀ r∈vs,r.x.key.length=32∧0<r.x.nums.length from fun r hr=>by
  have h1:r.x∈rs:=by rw [← kF.out];exact akS hr
  have:=bU.out.row r.x h1
  exact ⟨this.key,by rw [this.len];exact I8.out⟩)
 have JB:=uQ (show vs.length≤1073741824 from by
  have:=aje List.length kF.out
  rw [aaJ]at this
  have:=bU.out.len
  omega)
 refine (Nh dX false k vs JB.out (fun w hw=>Sat.rd (hw.sb:Sat w0 w (aC 284 33 v (vs.flatMap bW)::gY p NJ::iy vs::BB::jD b2 dX false k::F))) (fun r hr=>(zQ hr (dO.out r hr).1 (dO.out r hr).2).sub jH) h10).mono ?_
 rintro ee jd ⟨v4,rfl,t,rfl,ht,h11⟩
 have ht2:t=true:=ht.2 (by rw [kF.out];exact bU.out.rise)
 subst ht2
 clear h10 ht
 go_wp2_with fail
 go_ret2
 exact ⟨_,rfl,vs,v,rfl,kF.out,h11.sb⟩
set_option maxRecDepth 20000 in
theorem aaD (dX:ByteArray) (mg:aj.Bs) (hmb:dX.data.toList=mg) (oJ:mg.length=8) (k:Nat) (hk:k≤3) (hk0:0<k) (rs:List aS.Rw) (hok:aS.Ok k true rs) (hr:RS w0 F bv (aS.book Xx.sum mg true rs)) (h:Sat w0 w F) :
  Calls Tryz.prog 199 #[.agg (kX dX true k),bv] w (aO fun v w'=>∃ (vs:List RV) (lv:Value),v = .tuple #[lv,errno 0]∧vs.map (·.x)=rs∧Sat w0 w' (aC 284 33 lv (vs.flatMap bW)::iy vs::F)):=by
 obtain ⟨ba,bc,rfl,hbc,hbm⟩:=hr.len h
 have hlen:(aS.book Xx.sum mg true rs).length=20+rs.length * aS.jE true k:=aS.EF oJ hok.row
 have hbe:=aS.Qk (X:=Xx.sum) (mg:=mg) (kd:=true) (l:=rs)
 have hbt:=aS.Qj (X:=Xx.sum) (mg:=mg) (kd:=true) oJ hok.row
 have hb3:(aS.body mg true rs).length=12+rs.length * aS.jE true k:=aS.zn oJ hok.row
 have hz1:rs.length * aS.jE true k≤65536 * 44:=akI hok.len (aS.Gu hk)
 have hto:=RS.to hr (k:=12+rs.length * aS.jE true k) (by rw [hlen];omega) bc (adr (by rw [hlen];omega) hbc) (acy _)
 rw [hbt]at hto
 obtain ⟨ta,tc,hte,_,_⟩:=hto.len h
 rw [hte]at hto
 obtain ⟨S,hS⟩:∃ S,Xx.sum (aS.body mg true rs)=S:=⟨_,rfl⟩
 have hSl:S<18446744073709551616:=by rw [← hS];exact Xx.sum_lt _
 rw [hS]at hbe
 have JA:=uQ hto;have Hte:=uQ hte
 clear hto hte
 have Hlen:=uQ hlen;have IL:=uQ hbe;have YN:=uQ hbt;have Hb3:=uQ hb3;have HS:=uQ hS;have AL:=uQ hSl
 obtain ⟨Z,hZ⟩:∃ Z,rs.length * aS.jE true k=Z:=⟨_,rfl⟩
 have HZ:=uQ hZ
 rw [hZ]at hz1 hlen
 have nN:=uQ hz1
 have Hr:=uQ hr;have bU:=uQ hok;have y7:=uQ hmb;have nI:=uQ oJ;have Hk:=uQ hk;have I8:=uQ hk0;have IK:=uQ hbc;have YM:=uQ hbm
 have qE:=uQ (show (aS.book Xx.sum mg true rs).length=20+Z from hlen)
 clear hbe hbt hb3 hz1 hS hSl hZ hr hok hmb oJ hk hk0 hbc hbm hlen
 have c1:¬ ((aS.book Xx.sum mg true rs).length:Int)<12:=by have:=qE.out;omega
 have c2:¬ (65536:Int)<(rs.length:Int):=by have:=bU.out.len;omega
 have c3:¬ ((aS.book Xx.sum mg true rs).length:Int)<20+(Z:Int):=by have:=qE.out;omega
 have c4:¬ (20+(Z:Int))<((aS.book Xx.sum mg true rs).length:Int):=by have:=qE.out;omega
 go_enter Tryz.func199,Tryz.ntmps199
 go_wp2_with (with_reducible apply eG)
 refine ⟨eH h ah ah ?_⟩
 intro b2 w2 h2
 replace h2:Sat w0 w2 (jD b2 dX true k::F):=h2
 clear h
 go_wp2_with fail
 refine (WI (by rw [qE.out];have:=nN.out;omega) (Hr.out.more jH) h2).mono ?_
 rintro ee w3 ⟨v,rfl,p,rv,rfl,h3,hrs⟩
 clear h2
 have yC:RS w0 (bJ rv (aS.book Xx.sum mg true rs)::jD b2 dX true k::F) rv (mg++(aj.le rs.length 4++(aS.jg true rs++aj.le S 8))):=by rw [← IL.out];exact hrs
 generalize hG0:bJ rv (aS.book Xx.sum mg true rs)=BB at *
 clear hG0
 have htx:=WY (by rw [aal,nI.out];omega) yC h3
 rw [List.take_left' nI.out,List.drop_left' nI.out,XJ dX mg y7.out]at htx
 clear hrs h3
 go_wp2_with fail
 refine htx.mono ?_
 rintro ee w4 ⟨v,rfl,pJ,rfl,hr1,h4⟩
 have rV:=hr1 _ yC
 clear htx hr1 yC
 have hn4:=Gt (by rw [aal,aj.iH];omega) rV h4
 rw [aS.Vl bU.out.len,aS.EO]at hn4
 clear h4
 go_wp2_with fail
 refine hn4.mono ?_
 rintro ee w5 ⟨v,rfl,kL,rfl,hr2,h5⟩
 have vP:=hr2 _ rV
 have Js:=uQ (show RS w0 (BB::jD b2 dX true k::F) kL (aS.jg true rs++aj.le S 8) from vP)
 clear hn4 hr2 rV vP
 have hwn:IntKind.i64.wrap (rs.length:Int)=(rs.length:Int):=acI _ (by have:=bU.out.len;omega)
 have hw1:IntKind.i64.wrap ((rs.length:Int) * ((aS.jE true k:Nat):Int))=(Z:Int):=by
  rw [← alz,HZ.out];exact acI _ (by have:=nN.out;omega)
 have hw2:IntKind.i64.wrap (12+(Z:Int))=12+(Z:Int):=acI _ (by have:=nN.out;omega)
 have hw3:IntKind.i64.wrap (12+(Z:Int)+8)=20+(Z:Int):=by rw [show 12+(Z:Int)+8=20+(Z:Int) by omega];exact acI _ (by have:=nN.out;omega)
 have hw4:IntKind.i64.wrap (20+(Z:Int) - 8)=12+(Z:Int):=by rw [show 20+(Z:Int) - 8=12+(Z:Int) by omega];exact acI _ (by have:=nN.out;omega)
 have hsl:∀ w,(Instr.sliceAt 36 (.slice ba (aS.book Xx.sum mg true rs).length bc) none (some (.int .i64 (12+(Z:Int)))) none).run Tryz.prog w = .ok (.slice ta (aS.body mg true rs).length tc) w:=fun w=>by
  have:=GL (a:=ba) (n:=(aS.book Xx.sum mg true rs).length) (c:=bc) (k:=12+Z) (by have:=qE.out;have:=IK.out;omega) w
  rw [← HZ.out,Hte.out,HZ.out]at this
  rw [show (12+(Z:Int))=((12+Z:Nat):Int) by omega]
  exact this
 have rE:=uQ hsl
 clear hsl
 generalize (aS.book Xx.sum mg true rs).length=L at *
 go_wp2_with (first
  |((with_reducible refine bD ⟨?_⟩);first
   |refine gI h5 ah fG Tryz.underlying278 rfl au ?_
   |refine dV h5 ah fG bF ak au ?_))
 refine (Uy dX true k (by have:=Hk.out;omega) h5).mono ?_
 rintro ee w6 ⟨v,rfl,rfl,h6⟩
 clear h5
 go_wp2_with (first
  |((with_reducible refine bD ⟨?_⟩);refine gI h6 ah fG Tryz.underlying278 rfl au ?_))
 refine (ad2 dX k Hk.out rs bU.out.row bU.out.len (aj.le S 8) Js.out h6).mono ?_
 rintro ee w7 ⟨v,rfl,vs,rv3,hvs,qL,h7⟩
 have kF:=uQ hvs;have Jt:=uQ qL
 clear h6 hvs qL
 go_wp2_with fail
 have hG:True:=trivial
 have h8:=h7.drew
 clear h7
 refine dH [] (fun w'=>True) au ?_
 refine rP 0 ?_ (y:=aX)
 refine rP 2 ?_ (y:=aX)
 refine rP 3 ?_ (y:=aX)
 refine rP 4 ?_ (y:=jm)
 refine rP 5 ?_ (y:=(Yq ak ak rE.out))
 refine bV 1 ak au (fun K hK=>?_)
 (refine gy au ak ak ?_)
 have yx:=WG (F:=aC 284 33 v (vs.flatMap bW)::iy vs::BB::jD b2 dX true k::F) (by rw [aj.iH];exact acy _) (Jt.out.more jH) (h8.sb:Sat w0 _ (gY p rv3::aC 284 33 v (vs.flatMap bW)::iy vs::BB::jD b2 dX true k::F))
 rw [aS.Vm AL.out]at yx
 refine yx.mono ?_
 rintro ee w9 ⟨v2,rfl,NJ,rfl,_,h9⟩
 refine hK _ _ (.inr (.inl trivial)) ?_
 clear hK yx h8
 refine bV 6 ak au (fun K hK=>?_)
 (refine gy au ak ak ?_)
 have hxs:=OE (l:=aS.body mg true rs) (fun e=>by have:=Hb3.out;rw [e]at this;simp only [ajn]at this;omega) (by rw [Hb3.out,HZ.out];have:=nN.out;omega) (JA.out.more jH) h9
 rw [HS.out]at hxs
 refine hxs.mono ?_
 rintro ee w10 ⟨v3,rfl,rfl,h10⟩
 refine hK _ _ (.inr (.inl trivial)) ?_
 clear hK hxs h9
 refine rP 7 ?_ (y:=jm)
 refine dD au ?_
 go_wp2_with ((with_reducible refine bD ⟨?_⟩);refine gI h10 ah (aW iZ) Tryz.underlying278 rfl au ?_)
 have dO:=uQ (show ∀ r∈vs,r.x.key.length=32∧0<r.x.nums.length from fun r hr=>by
  have h1:r.x∈rs:=by rw [← kF.out];exact akS hr
  have:=bU.out.row r.x h1
  exact ⟨this.key,by rw [this.len];exact I8.out⟩)
 have JB:=uQ (show vs.length≤1073741824 from by
  have:=aje List.length kF.out
  rw [aaJ]at this
  have:=bU.out.len
  omega)
 refine (Nh dX true k vs JB.out (fun w hw=>Sat.rd (hw.sb:Sat w0 w (aC 284 33 v (vs.flatMap bW)::gY p NJ::iy vs::BB::jD b2 dX true k::F))) (fun r hr=>(zQ hr (dO.out r hr).1 (dO.out r hr).2).sub jH) h10).mono ?_
 rintro ee jd ⟨v4,rfl,t,rfl,ht,h11⟩
 have ht2:t=true:=ht.2 (by rw [kF.out];exact bU.out.rise)
 subst ht2
 clear h10 ht
 go_wp2_with fail
 go_ret2
 exact ⟨_,rfl,vs,v,rfl,kF.out,h11.sb⟩
end
section
variable {w0 w:World}{F:List aG}{rv lv bv nv:Value}{p:Nat}
theorem ag6 (a b c:Int) (w:World):(Instr.build 73 #[(0,.int .i64 a),(1,.int .i64 b),(2,.int .i64 c)]).run Tryz.prog w = .ok (.agg (bI ⟨a,b,c⟩).toArray) w:=by kernel_rfl
theorem agU (a b c:Int) (w:World):(Instr.build 116 #[(0,.int .i64 a),(1,.int .i64 b),(2,.int .i64 c)]).run Tryz.prog w = .ok (.agg (aK ⟨a,b,c⟩).toArray) w:=by kernel_rfl
theorem FY {a b c:Int} (h:bg 1 nv (ints [a,b,c]) w):∃ q o cc,nv = .slice (some ⟨q,o,none⟩) 3 cc∧w.cell? ⟨q,o,none⟩=some (.int .i64 a)∧w.cell? ⟨q,o+1,none⟩=some (.int .i64 b)∧w.cell? ⟨q,o+2,none⟩=some (.int .i64 c):=by
 obtain ⟨q,o,cc,rfl,c0⟩:=Fv h (i:=0) rfl
 obtain ⟨_,_,_,e1,c1⟩:=Fv h (i:=1) rfl
 cases e1
 obtain ⟨_,_,_,e2,c2⟩:=Fv h (i:=2) rfl
 cases e2
 exact ⟨q,o,cc,rfl,c0,c1,c2⟩
set_option maxRecDepth 20000 in
theorem afT (k:aj.Bs) (hk:k.length=32) (a b c:Int) (hr:Ro w0 F (bg 1 nv (ints [a,b,c]))) (h:Sat w0 w F) :
  Calls Tryz.prog 203 #[.agg (bW ⟨⟨k,[a,b,c]⟩,nv⟩).toArray] w (aO fun v w'=>v = .agg (bI ⟨a,b,c⟩).toArray∧Sat w0 w' F):=by
 obtain ⟨q,o,cc,rfl,_⟩:=FY (hr w h)
 have Hr:=uQ hr;have Hk:=uQ hk
 clear hr hk
 go_enter Tryz.func203,Tryz.ntmps203
 go_wp2_with (with_reducible apply eG)
 refine ⟨eH h ah ah ?_⟩
 intro b1 w1 h1
 replace h1:Sat w0 w1 (nV b1 k [a,b,c] (.slice (some ⟨q,o,none⟩) 3 cc)::F):=h1
 go_wp2_with (with_reducible apply eU)
 refine ⟨dU Ir h1 rfl ?_⟩
 intro b2 w2 h2
 clear h h1
 go_wp2_with fail
 have h3:=h2.drew
 clear h2
 refine dH [12,13] (fun w'=>w'.cell? ⟨b1,32,none⟩=some (.slice (some ⟨q,o,none⟩) 3 cc)∧w'.cell? ⟨q,o,none⟩=some (.int .i64 a)∧w'.cell? ⟨q,o+1,none⟩=some (.int .i64 b)∧w'.cell? ⟨q,o+2,none⟩=some (.int .i64 c)) au ?_
 have hG:World.cell? w2.drew ⟨b1,32,none⟩=some (.slice (some ⟨q,o,none⟩) 3 cc)∧World.cell? w2.drew ⟨q,o,none⟩=some (.int .i64 a)∧World.cell? w2.drew ⟨q,o+1,none⟩=some (.int .i64 b)∧World.cell? w2.drew ⟨q,o+2,none⟩=some (.int .i64 c):=by
  obtain ⟨_,_,_,e,c0⟩:=FY (Hr.out _ h3.drop.drop)
  cases e
  exact ⟨h3.cellP aZ 32 (yM (x:=⟨k,[a,b,c]⟩) Hk.out),c0⟩
 refine rP 0 ?_ (y:=cO)
 refine rt 1 (h:=?_)
 refine rP 2 ?_ (y:=gX)
 refine rt 3 (h:=?_)
 refine rP 4 ?_ (y:=cO)
 refine rt 5 (h:=?_)
 refine rP 6 ?_ (y:=gX)
 refine rt 7 (h:=?_)
 refine rP 8 ?_ (y:=cO)
 refine rt 9 (h:=?_)
 refine rP 10 ?_ (y:=gX)
 refine rt 11 (h:=?_)
 clear hG
 refine rP 12 ?_ (y:=(Aw ak ak ak (fun w=>ag6 a b c w)))
 refine bV 13 ak au (fun K hK=>?_)
 refine kP (cs':=(bI ⟨a,b,c⟩).toArray) h3 ak ak ah bZ bF au ah ?_
 intro w4 h4
 refine hK _ _ (.inl rfl) ?_
 clear hK h3
 refine dD au ?_
 go_wp2_with fail
 refine ⟨rfl,_,wJ rfl h4 ah aY Tryz.underlying73 rfl au,?_⟩
 exact ⟨_,rfl,rfl,h4.drop.drop⟩
theorem afH (k:aj.Bs) (hk:k.length=32) (a b c:Int):dM (fC (aj.zero32,Seg.aU.zero)).toArray 0 (fC (k,⟨a,b,c⟩)).toArray.toList=(fC (k,⟨a,b,c⟩)).toArray:=by
 rw [V3 _ _ (by rw [adM,aaI,ku (k,⟨a,b,c⟩) hk,ku (aj.zero32,Seg.aU.zero) rfl]),adM]
set_option maxRecDepth 20000 in
theorem afS (k:aj.Bs) (hk:k.length=32) (a b c:Int) (hr:Ro w0 F (bg 1 nv (ints [a,b,c]))) (h:Sat w0 w F) :
  Calls Tryz.prog 201 #[.agg (bW ⟨⟨k,[a,b,c]⟩,nv⟩).toArray] w (aO fun v w'=>v = .agg (fC (k,⟨a,b,c⟩)).toArray∧Sat w0 w' F):=by
 obtain ⟨q,o,cc,rfl,_⟩:=FY (hr w h)
 have Hr:=uQ hr;have Hk:=uQ hk
 have gJ:=uQ (show (aA k).length=32 by rw [aV];exact hk)
 clear hr hk
 go_enter Tryz.func201,Tryz.ntmps201
 go_wp2_with (with_reducible apply eG)
 refine ⟨eH h ah ah ?_⟩
 intro b1 w1 h1
 replace h1:Sat w0 w1 (nV b1 k [a,b,c] (.slice (some ⟨q,o,none⟩) 3 cc)::F):=h1
 go_wp2_with (with_reducible apply eU)
 refine ⟨dU Iq h1 rfl ?_⟩
 intro b2 w2 h2
 clear h h1
 go_wp2_with fail
 have h3:=h2.drew
 clear h2
 refine dH [15,16] (fun w'=>w'.cell? ⟨b1,32,none⟩=some (.slice (some ⟨q,o,none⟩) 3 cc)∧w'.cell? ⟨q,o,none⟩=some (.int .i64 a)∧w'.cell? ⟨q,o+1,none⟩=some (.int .i64 b)∧w'.cell? ⟨q,o+2,none⟩=some (.int .i64 c)∧w'.rangeAt b1 0 (aA k)) au ?_
 have hG:World.cell? w2.drew ⟨b1,32,none⟩=some (.slice (some ⟨q,o,none⟩) 3 cc)∧World.cell? w2.drew ⟨q,o,none⟩=some (.int .i64 a)∧World.cell? w2.drew ⟨q,o+1,none⟩=some (.int .i64 b)∧World.cell? w2.drew ⟨q,o+2,none⟩=some (.int .i64 c)∧World.rangeAt w2.drew b1 0 (aA k):=by
  obtain ⟨_,_,_,e,c0,c1,c2⟩:=FY (Hr.out _ h3.drop.drop)
  cases e
  exact ⟨h3.cellP aZ 32 (yM (x:=⟨k,[a,b,c]⟩) Hk.out),c0,c1,c2,fun j z hj=>by rw [aen];exact h3.cellP aZ j (GR (x:=⟨k,[a,b,c]⟩) hj)⟩
 refine rP 0 ?_ (y:=cO)
 refine eP 1 ak au bK (ig (b:=b1) (o:=0) (aA k) ah Tryz.underlying31 rfl (by rw [gJ.out];kernel_rfl) (fun w hw=>hw.2.2.2.2)) aQ gQ ?_
 refine rP 2 ?_ (y:=cO)
 refine rt 3 (h:=?_)
 refine rP 4 ?_ (y:=gX)
 refine rt 5 (h:=?_)
 refine rP 6 ?_ (y:=cO)
 refine rt 7 (h:=?_)
 refine rP 8 ?_ (y:=gX)
 refine rt 9 (h:=?_)
 refine rP 10 ?_ (y:=cO)
 refine rt 11 (h:=?_)
 refine rP 12 ?_ (y:=gX)
 refine rt 13 (h:=?_)
 clear hG
 refine rP 14 ?_ (y:=(Aw ak ak ak (fun w=>agU a b c w)))
 refine rP 15 ?_ (y:=(OG ak ak (fun w=>Xf k Hk.out ⟨a,b,c⟩ w)))
 refine bV 16 ak au (fun K hK=>?_)
 refine kP (cs':=(fC (k,⟨a,b,c⟩)).toArray) h3 ak ak (afH k Hk.out a b c) bZ (by show 0+(fC (k,⟨a,b,c⟩)).toArray.size≤35;rw [aaI,ku _ Hk.out];decide) (by show _=some (fC (k,⟨a,b,c⟩)).toArray.size;rw [aaI,ku _ Hk.out];kernel_rfl) (by show (fC (k,⟨a,b,c⟩)).toArray.toList.all _=true;rw [adM];exact C9 _) ?_
 intro w4 h4
 refine hK _ _ (.inl rfl) ?_
 clear hK h3
 refine dD au ?_
 go_wp2_with fail
 refine ⟨rfl,_,wJ rfl h4 ah aY Tryz.underlying243 rfl (by rw [aaI,ku _ Hk.out];kernel_rfl),?_⟩
 exact ⟨_,rfl,rfl,h4.drop.drop⟩
set_option maxRecDepth 20000 in
theorem aao (us:List Rep.Use) (vs:List RV) (hus:vs.map (·.x)=us.map Rep.jc) (hl:us.length≤65536) (hr:Ro w0 F (bg 33 lv (vs.flatMap bW))) (he:∀ r∈vs,qh w0 F r) (h:Sat w0 w F) :
  Calls Tryz.prog 202 #[lv,.func (.func 203) #[] #[]] w (aO fun v w'=>Sat w0 w' (aC 73 3 v (us.flatMap bI)::F)):=by
 obtain ⟨la,lc,rfl⟩:=iD (fun r hr=>kD r (he r hr).key) (hr w h) aN
 have hlen:vs.length=us.length:=by have:=aje List.length hus;rwa [aaJ,aaJ]at this
 have Hr:=uQ hr;have Hl:=uQ hl;have He:=uQ he;have Bv:=uQ hus;have Hlen:=uQ hlen
 clear hr hl he hus
 rw [hlen]
 clear hlen
 go_enter Tryz.func202,Tryz.ntmps202
 go_wp2_with fail
 go_loopg [5,10] us.length (fun g ov iq wr=>∃ (i:Nat) (o2:Value),g=us.length - i∧i≤us.length∧o2=ov∧iq = .int .i64 i∧Sat w0 wr (aC 73 3 o2 ((us.take i).flatMap bI)::F))
 case atStart=>exact ⟨0,_,rfl,afm _,rfl,rfl,Sat.fD.2 h⟩
 case round=>
  obtain ⟨i,ov,rfl,hi,rfl,rfl,hS⟩:=hrel
  clear h
  by_cases hlt:i<us.length
  ·as_aux_lemma=>
    have c3:(i:Int)<(us.length:Int):=oQ
    have hwi:IntKind.i64.wrap ((i:Int)+1)=(i:Int)+1:=acI _ (by have:=Hl.out;omega)
    obtain ⟨r,hx⟩:∃ r,vs[i]?=some r:=⟨_,aak (by rw [Hlen.out];exact hlt)⟩
    obtain ⟨u,hu⟩:∃ u,us[i]?=some u:=⟨_,aak hlt⟩
    have lV:r.x=Rep.jc u:=by
     have h1:(vs.map (·.x))[i]?=some r.x:=by rw [aix,hx];rfl
     rw [Bv.out,aix,hu]at h1
     exact (ake h1).symm
    obtain ⟨bk,off,c',hsv,hcell⟩:=iC (f:=bW) (k:=33) (fun r hr=>kD r (He.out r hr).key) (Hr.out _ hS.drop) hx aN
    rw [Hlen.out]at hsv
    cases hsv
    have hro:=He.out r (abA hx)
    have fB:=uQ (show us.take (i+1)=us.take i++[u] from aS.jS hu)
    have jA:=uQ (show ((us.take i).flatMap bI).length≤2147483648 from by
     rw [iE (fun u _=>uK u),acJ]
     have:=Hl.out
     omega)
    obtain ⟨rx,nv⟩:=r
    dsimp only at lV
    subst lV
    have H1:=uQ hro;have bT:=uQ hlt
    obtain ⟨na,nn,nc,rU,_,_⟩:=hro.rd _ hS.drop
    dsimp only at rU
    subst rU
    clear hx hu hlt hi hro
    go_wp2_with (first
     |((with_reducible refine bD ⟨?_⟩);refine gU (b:=bk) (o:=off+i * 33) (bW ⟨Rep.jc u,.slice na nn nc⟩) ah hcell Tryz.underlying284 rfl (by rw [kD _ H1.out.key];kernel_rfl) ?_)
     |(with_reducible apply eU))
    refine ⟨dU wZ hS rfl ?_⟩
    intro b8 w8 h8
    clear hS hcell
    go_wp2_with (with_reducible apply bY)
    refine ⟨fE (bW ⟨Rep.jc u,.slice na nn nc⟩).toArray h8 ah ah (by rw [jR _ H1.out.key];rfl) bZ (by rw [jR _ H1.out.key];kernel_rfl) Ae ?_⟩
    intro w9 h9
    clear h8
    go_wp2_with ((with_reducible refine bD ⟨?_⟩);refine gI h9 ah aT Tryz.underlying284 rfl (by rw [jR _ H1.out.key];kernel_rfl) ?_)
    refine (afT aj.zero32 rfl u.seg u.size u.live (Ro.os H1.out.rd) h9).mono ?_
    rintro ee w10 ⟨v,rfl,rfl,h10⟩
    clear h9
    go_wp2_with (first
     |((with_reducible refine ny ⟨?_⟩);refine nH (e:=73) (sz:=3) (dS:=24) (cs:=(bI u).toArray) au h10 ah rfl ah bF ?_;intro bN wN hN)
     |(with_reducible apply lg))
    refine ⟨nG (cs:=(bI u).toArray) 73 3 24 au hN ah ah (aW (aW aT)) aT ah bF ah jA.out (by exact Nat.le_of_ble_eq_true ah) bF rfl ?_⟩
    intro b' n' c2 kR gW
    go_wp2_with fail
    go_roundg (us.length - (i+1))
    case measure=>have:=bT.out;omega
    case rel=>exact ⟨i+1,_,rfl,aiy bT.out,rfl,by first|rfl|go_num,by rw [fB.out,ajj,ai7,aks,afo];exact gW.sb⟩
  ·have c3:¬ (i:Int)<(us.length:Int):=by omega
   have hi2:i=us.length:=oQ
   subst hi2
   rw [aiv]at hS
   clear hi hlt
   go_wp2_with fail
   go_ret
   exact ⟨_,rfl,hS⟩
set_option maxRecDepth 20000 in
theorem aan (us:List (aj.Bs×Seg.aU)) (vs:List RV) (hus:vs.map (·.x)=us.map Rep.iY) (hl:us.length≤65536) (hk:∀ q∈us,q.1.length=32) (hr:Ro w0 F (bg 33 lv (vs.flatMap bW))) (he:∀ r∈vs,qh w0 F r) (h:Sat w0 w F) :
  Calls Tryz.prog 200 #[lv,.func (.func 201) #[] #[]] w (aO fun v w'=>Sat w0 w' (aC 243 35 v (us.flatMap fC)::F)):=by
 obtain ⟨la,lc,rfl⟩:=iD (fun r hr=>kD r (he r hr).key) (hr w h) aN
 have hlen:vs.length=us.length:=by have:=aje List.length hus;rwa [aaJ,aaJ]at this
 have Hr:=uQ hr;have Hl:=uQ hl;have He:=uQ he;have Bv:=uQ hus;have Hlen:=uQ hlen;have Hk:=uQ hk
 clear hr hl he hus hk
 rw [hlen]
 clear hlen
 go_enter Tryz.func200,Tryz.ntmps200
 go_wp2_with fail
 go_loopg [5,10] us.length (fun g ov iq wr=>∃ (i:Nat) (o2:Value),g=us.length - i∧i≤us.length∧o2=ov∧iq = .int .i64 i∧Sat w0 wr (aC 243 35 o2 ((us.take i).flatMap fC)::F))
 case atStart=>exact ⟨0,_,rfl,afm _,rfl,rfl,Sat.fD.2 h⟩
 case round=>
  obtain ⟨i,ov,rfl,hi,rfl,rfl,hS⟩:=hrel
  clear h
  by_cases hlt:i<us.length
  ·as_aux_lemma=>
    have c3:(i:Int)<(us.length:Int):=oQ
    have hwi:IntKind.i64.wrap ((i:Int)+1)=(i:Int)+1:=acI _ (by have:=Hl.out;omega)
    obtain ⟨r,hx⟩:∃ r,vs[i]?=some r:=⟨_,aak (by rw [Hlen.out];exact hlt)⟩
    obtain ⟨u,hu⟩:∃ u,us[i]?=some u:=⟨_,aak hlt⟩
    have lV:r.x=Rep.iY u:=by
     have h1:(vs.map (·.x))[i]?=some r.x:=by rw [aix,hx];rfl
     rw [Bv.out,aix,hu]at h1
     exact (ake h1).symm
    obtain ⟨bk,off,c',hsv,hcell⟩:=iC (f:=bW) (k:=33) (fun r hr=>kD r (He.out r hr).key) (Hr.out _ hS.drop) hx aN
    rw [Hlen.out]at hsv
    cases hsv
    have hro:=He.out r (abA hx)
    have fB:=uQ (show us.take (i+1)=us.take i++[u] from aS.jS hu)
    have jA:=uQ (show ((us.take i).flatMap fC).length≤2147483648 from by
     rw [iE (fun u hu=>ku u (Hk.out u (ajm hu))),acJ]
     have:=Hl.out
     omega)
    have ou:=Hk.out u (abA hu)
    obtain ⟨rx,nv⟩:=r
    dsimp only at lV
    subst lV
    have H1:=uQ hro;have bT:=uQ hlt
    obtain ⟨na,nn,nc,rU,_,_⟩:=hro.rd _ hS.drop
    dsimp only at rU
    subst rU
    clear hx hu hlt hi hro
    go_wp2_with (first
     |((with_reducible refine bD ⟨?_⟩);refine gU (b:=bk) (o:=off+i * 33) (bW ⟨Rep.iY u,.slice na nn nc⟩) ah hcell Tryz.underlying284 rfl (by rw [kD _ H1.out.key];kernel_rfl) ?_)
     |(with_reducible apply eU))
    refine ⟨dU wZ hS rfl ?_⟩
    intro b8 w8 h8
    clear hS hcell
    go_wp2_with (with_reducible apply bY)
    refine ⟨fE (bW ⟨Rep.iY u,.slice na nn nc⟩).toArray h8 ah ah (by rw [jR _ H1.out.key];rfl) bZ (by rw [jR _ H1.out.key];kernel_rfl) Ae ?_⟩
    intro w9 h9
    clear h8
    go_wp2_with ((with_reducible refine bD ⟨?_⟩);refine gI h9 ah aT Tryz.underlying284 rfl (by rw [jR _ H1.out.key];kernel_rfl) ?_)
    refine (afS u.1 ou u.2.seg u.2.at_ u.2.size (Ro.os H1.out.rd) h9).mono ?_
    rintro ee w10 ⟨v,rfl,rfl,h10⟩
    clear h9
    go_wp2_with (first
     |((with_reducible refine ny ⟨?_⟩);refine nH (e:=243) (sz:=35) (dS:=56) (cs:=(fC u).toArray) au h10 ah rfl (by rw [aaI,ku _ ou]) bF ?_;intro bN wN hN)
     |(with_reducible apply lg))
    refine ⟨nG (cs:=(fC u).toArray) 243 35 56 au hN ah ah (aW (aW aT)) aT (by rw [aaI,ku _ ou]) bF (by rw [adM];exact C9 u) jA.out (by rw [aaI,ku _ ou];decide) bF rfl ?_⟩
    intro b' n' c2 kR gW
    go_wp2_with fail
    go_roundg (us.length - (i+1))
    case measure=>have:=bT.out;omega
    case rel=>exact ⟨i+1,_,rfl,aiy bT.out,rfl,by first|rfl|go_num,by rw [fB.out,ajj,ai7,aks,afo];exact gW.sb⟩
  ·have c3:¬ (i:Int)<(us.length:Int):=by omega
   have hi2:i=us.length:=oQ
   subst hi2
   rw [aiv]at hS
   clear hi hlt
   go_wp2_with fail
   go_ret
   exact ⟨_,rfl,hS⟩
theorem aaE (us:List Rep.Use) (hok:aS.Ok 3 false (us.map Rep.jc)) (hr:RS w0 F bv (aS.book Xx.sum aS.qU false (us.map Rep.jc))) (h:Sat w0 w F) :
  Calls Tryz.prog 145 #[bv] w (aO fun v w'=>∃ lv,v = .tuple #[lv,errno 0]∧Sat w0 w' (aC 73 3 lv (us.flatMap bI)::F)):=by
 have hn:us.length≤65536:=by have:=hok.len;rwa [aaJ]at this
 have Hr:=uQ hr;have bU:=uQ hok;have Hn:=uQ hn
 clear hr hok hn
 go_enter Tryz.func145,Tryz.ntmps145
 go_wp2_with fail
 refine (X6 h).mono ?_
 rintro ee w1 ⟨v,rfl,rfl,h1⟩
 clear h
 go_wp2_with fail
 refine (aaB ⟨#[72,79,65,82,68,85,83,69]⟩ aS.qU rfl rfl 3 aN aN _ bU.out (fun r hr=>by obtain ⟨u,_,rfl⟩:=acK.1 hr;rfl) Hr.out h1).mono ?_
 rintro ee w2 ⟨v,rfl,vs,lv,rfl,hvs,h2⟩
 have kF:=uQ hvs
 have dO:=uQ (show ∀ r∈vs,r.x.key.length=32∧0<r.x.nums.length from fun r hr=>by
  have h1:r.x∈us.map Rep.jc:=by rw [← hvs];exact akS hr
  have:=bU.out.row r.x h1
  exact ⟨this.key,by rw [this.len];decide⟩)
 clear h1 hvs
 go_wp2_with fail
 refine (aao us vs kF.out Hn.out (fun w hw=>Sat.rd hw) (fun r hr=>(zQ hr (dO.out r hr).1 (dO.out r hr).2).sub jH) h2).mono ?_
 rintro ee w3 ⟨v,rfl,h3⟩
 clear h2
 go_wp2_with fail
 go_ret2
 exact ⟨_,rfl,_,rfl,h3.sb⟩
theorem aaC (us:List (aj.Bs×Seg.aU)) (hk:∀ q∈us,q.1.length=32) (hok:aS.Ok 3 true (us.map Rep.iY)) (hr:RS w0 F bv (aS.book Xx.sum aS.qR true (us.map Rep.iY))) (h:Sat w0 w F) :
  Calls Tryz.prog 144 #[bv] w (aO fun v w'=>∃ lv,v = .tuple #[lv,errno 0]∧Sat w0 w' (aC 243 35 lv (us.flatMap fC)::F)):=by
 have hn:us.length≤65536:=by have:=hok.len;rwa [aaJ]at this
 have Hr:=uQ hr;have bU:=uQ hok;have Hn:=uQ hn;have Hk:=uQ hk
 clear hr hok hn hk
 go_enter Tryz.func144,Tryz.ntmps144
 go_wp2_with fail
 refine (Ur h).mono ?_
 rintro ee w1 ⟨v,rfl,rfl,h1⟩
 clear h
 go_wp2_with fail
 refine (aaD ⟨#[72,79,65,82,68,73,68,88]⟩ aS.qR rfl rfl 3 aN aN _ bU.out Hr.out h1).mono ?_
 rintro ee w2 ⟨v,rfl,vs,lv,rfl,hvs,h2⟩
 have kF:=uQ hvs
 have dO:=uQ (show ∀ r∈vs,r.x.key.length=32∧0<r.x.nums.length from fun r hr=>by
  have h1:r.x∈us.map Rep.iY:=by rw [← hvs];exact akS hr
  have:=bU.out.row r.x h1
  exact ⟨this.key,by rw [this.len];decide⟩)
 clear h1 hvs
 go_wp2_with fail
 refine (aan us vs kF.out Hn.out Hk.out (fun w hw=>Sat.rd hw) (fun r hr=>(zQ hr (dO.out r hr).1 (dO.out r hr).2).sub jH) h2).mono ?_
 rintro ee w3 ⟨v,rfl,h3⟩
 clear h2
 go_wp2_with fail
 go_ret2
 exact ⟨_,rfl,_,rfl,h3.sb⟩
end
def qy (b:Nat) (xs:List (aj.Bs×Seg.aU)):aG:=Sl.ex fun ov:Value=>star (pt b (.cells #[ov] 213 (0,0))) (aC 243 35 ov (xs.flatMap fC))
theorem af9 {fn:Func}{t:Tmp} (h:fn.results=#[.tmp t]) (tmps:Array Value) (P:Program) (w:World):(results fn tmps).run P w = .ok (tmps.getD t undef) w:=by
 simp only [results,h]
 simp
theorem abI {P:Program}{w0 w:World}{F:List aG}{fn:Func}{a:Act}{K:Ending→World→Prop}{D:Nat}{v:Value} (ha:a.defers=[{ target:= .collected D,args:=#[] }]) (h:Sat w0 w (pt D (.deferred (some []))::F)) (hv:∀ w,(results fn a.tmps).run P w = .ok v w)
  (hK:∀ w',Sat w0 w' F→K (.returned v) w'):Kr P fn K .ret a w:=by
 show LeavesInM Fence.wide 0 P fn a.tmps K a.defers .returning w
 rw [ha]
 exact UG h hv hK
section
variable {w0 w:World}{F:List aG}{p B b:Nat}{m:aj.Bs→Option Seg.aU}{kv xs:List (aj.Bs×Seg.aU)}
theorem VE (h:Sat w0 w (qy b xs::F)):∃ ov,Sat w0 w (pt b (.cells #[ov] 213 (0,0))::aC 243 35 ov (xs.flatMap fC)::F):=by
 obtain ⟨ov,h1⟩:=Sat.ex.1 h
 exact ⟨ov,Sat.star.1 h1⟩
theorem VF {ov:Value} (h:Sat w0 w (pt b (.cells #[ov] 213 (0,0))::aC 243 35 ov (xs.flatMap fC)::F)):Sat w0 w (qy b xs::F):=Sat.ex.2 ⟨ov,Sat.star.2 h⟩
theorem ai3:jy Tryz.prog 213=some (.slice none 0 0):=by kernel_rfl
set_option maxRecDepth 20000 in
theorem adf (hl:Tab.Lists m kv) (hB:B≤13000000) (hkl:kv.length≤13000000) (hks:∀ q∈kv,q.1.length=32) (h:Sat w0 w (aJ p m B::F)) :
  Calls Tryz.prog 120 #[ptr p] w (aO fun v w'=>Sat w0 w' (aC 243 35 v (kv.flatMap fC)::aJ p m B::F)):=by
 have Hl:=uQ hl;have HB:=uQ hB;have jZ:=uQ hkl;have gJ:=uQ hks
 clear hl hB hkl hks
 refine Qq Tryz.func120 rfl ?_
 simp only [Tryz.ntmps120,aaI,aja,ajn,Nat.reduceAdd,Nat.reduceSub,Array.replicate_succ,Array.replicate_zero,List.push_toArray,List.append_toArray,ajd,ajN]
 go_wp2_with (with_reducible apply eU)
 refine ⟨dU ai3 h rfl ?_⟩
 intro b3 w3 h3
 go_wp2_with fail
 refine (ZU h3).mono ?_
 rintro ee w4 ⟨v,rfl,bA,rfl,h4⟩
 go_wp2_with fail
 have h5:Sat w0 w4 (aJ p m B::pt bA (.cells #[ptr p] 49 (0,0))::qy b3 (kv.take 0)::F):=by
  have h6:Sat w0 w4 (pt b3 (.cells #[.slice none 0 0] 213 (0,0))::aJ p m B::pt bA (.cells #[ptr p] 49 (0,0))::F):=h4.sb
  exact (VF (xs:=[]) ((Sat.fD.2 h6).sb:Sat w0 w4 (pt b3 (.cells #[.slice none 0 0] 213 (0,0))::aC 243 35 (.slice none 0 0) []::aJ p m B::pt bA (.cells #[ptr p] 49 (0,0))::F))).sb
 clear h h3 h4
 refine Ym (gf:=226) (lb:=#[ptr bA]) ah (fun args w=>by kernel_rfl) (ZT HB.out Hl.out) ?_ (fun pre=>qy b3 (kv.take pre.length)::F) h5 ?_ ?_
 ·intro x hx
  obtain ⟨p,_,rfl⟩:=acK.1 hx
  rfl
 ·clear h5
  intro l pre x post U W hkv hS T hT
  obtain ⟨i,hi⟩:∃ i,i=pre.length:=⟨_,rfl⟩
  have hlt:i<kv.length:=by
   have:=aje List.length hkv
   rw [aaJ,aal,aja]at this
   omega
  obtain ⟨⟨k,y⟩,hy⟩:∃ p,kv[i]?=some p:=⟨_,aak hlt⟩
  obtain rfl:x=oG (k,y):=by
   have e1:(kv.map oG)[i]?=some (oG (k,y)):=by rw [aix,hy];rfl
   rw [hkv,hi,adQ (acy _),akb,alg]at e1
   exact ake e1
  have Cm:=gJ.out _ (abA hy)
  have htk:kv.take (i+1)=kv.take i++[(k,y)]:=by rw [ajL,hy,ajY]
  have hil:(pre++[oG (k,y)]).length=i+1:=by rw [aal,hi];rfl
  have fB:=uQ htk;have yZ:=uQ hil;have mY:=uQ (show k.length=32 from Cm)
  have jA:=uQ (show ((kv.take i).flatMap fC).length≤2147483648 from by
   rw [iE (k:=35) fun q hq=>ku q (gJ.out q (ajm hq)),acJ]
   have:=jZ.out
   omega)
  have hS0:Sat w0 W (qy b3 (kv.take i)::(F++U)):=by rw [hi];exact hS
  clear hkv hS hi hlt hy Cm htk hil
  simp [oG]at hT
  subst hT
  refine wpIn_seq_k fun K hK=>?_
  refine sG ah fun K2 hK2=>?_
  go_wp2_with (with_reducible apply eU)
  refine ⟨dU Yv hS0 rfl ?_⟩
  intro b5 w5 h5
  go_wp2_with ((with_reducible refine bY ⟨?_⟩);refine fE (aA k).toArray h5 ah ah (by rw [aaI,aV,mY.out];rfl) bZ (by rw [aaI,aV,mY.out];kernel_rfl) (by rw [adM];exact qJ _) ?_;intro w6 h6)
  refine sG ah fun K3 hK3=>?_
  go_wp2_with (with_reducible apply eU)
  refine ⟨dU og h6 rfl ?_⟩
  intro b6 w7 h7
  go_wp2_with ((with_reducible refine bY ⟨?_⟩);refine fE (aK y).toArray h7 ah ah ah bZ au ah ?_;intro w8 h8)
  refine ⟨pt b6 (.cells (aK y).toArray 116 (0,0))::pt b5 (.cells (aA k).toArray 31 (0,0))::qy b3 (kv.take i)::F,h8,?_⟩
  clear h8 h7 h6 h5 hS0
  intro U' w9 h9
  have h10:Sat w0 w9 (pt b6 (.cells (aK y).toArray 116 (0,0))::pt b5 (.cells (aA k).toArray 31 (0,0))::qy b3 (kv.take i)::(F++U')):=h9
  clear h9
  obtain ⟨ov,h11⟩:=VE (h10.sb:Sat w0 w9 (qy b3 (kv.take i)::pt b6 (.cells (aK y).toArray 116 (0,0))::pt b5 (.cells (aA k).toArray 31 (0,0))::(F++U')))
  clear h10
  obtain ⟨oa,on,oc,rfl,_,_⟩:=Sat.rd (h11.pick aZ)
  refine wpIn_block (sG ah fun K6 hK6=>?_)
  go_wp2_with (first
   |((with_reducible refine bD ⟨?_⟩);first
    |refine gI h11 ah fG Tryz.underlying116 rfl au ?_
    |refine gI h11 ah iZ Tryz.underlying31 rfl (by rw [aaI,aV,mY.out];kernel_rfl) ?_
    |refine dV h11 ah aT bF ak au ?_)
   |((with_reducible refine P8 ⟨?_⟩);refine Yd ah ah (fun w=>Xf k mY.out y w) ?_)
   |((with_reducible refine ny ⟨?_⟩);refine nH (e:=243) (sz:=35) (dS:=56) (cs:=(fC (k,y)).toArray) au h11 ah rfl (by rw [aaI,ku _ mY.out]) bF ?_;intro bN wN hN)
   |(with_reducible apply lg))
  refine ⟨nG (cs:=(fC (k,y)).toArray) 243 35 56 au hN ah ah fG aT (by rw [aaI,ku _ mY.out]) bF (by rw [adM];exact C9 (k,y)) jA.out (by rw [aaI,ku _ mY.out];decide) bF rfl ?_⟩
  intro b' n' c' w12 h12
  clear h11 hN
  go_wp2_with (with_reducible apply bY)
  refine ⟨eY (cs':=#[.slice (some ⟨b',0,none⟩) n' c']) (h12.sb:Sat w0 w12 (pt b3 (.cells #[.slice oa on oc] 213 (0,0))::aC 243 35 (.slice (some ⟨b',0,none⟩) n' c') ((kv.take i).flatMap fC++fC (k,y))::(F++U'))) ah ah ah bZ bF au ah ?_⟩
  intro jF h13
  go_wp2_with fail
  refine ⟨trivial,?_⟩
  rw [yZ.out,fB.out]
  have gW:=VF (xs:=kv.take i++[(k,y)]) (by rw [ajj,ai7,aks,afo];exact h13)
  exact gW
 ·intro D w8 h8
  have h9:Sat w0 w8 (aJ p m B::pt bA (.cells #[ptr p] 49 (0,0))::qy b3 kv::(F++[pt D (.deferred (some []))])):=by
   have q:=h8
   rw [aaJ,aiv]at q
   exact q
  have hA:Sat w0 w8 (pt D (.deferred (some []))::aJ p m B::pt bA (.cells #[ptr p] 49 (0,0))::qy b3 kv::F):=
   Sat.zl (L:=aJ p m B::pt bA (.cells #[ptr p] 49 (0,0))::qy b3 kv::F) (R:=[pt D (.deferred (some []))]) h9
  clear h5 h8 h9
  obtain ⟨ov,hB2⟩:=VE (hA.sb:Sat w0 w8 (qy b3 kv::pt D (.deferred (some []))::aJ p m B::F))
  clear hA
  obtain ⟨oa,on,oc,rfl,_,_⟩:=Sat.rd (hB2.pick aZ)
  go_wp2_with ((with_reducible refine bD ⟨?_⟩);refine dV hB2 ah aT bF ak au ?_)
  refine abI rfl (hB2.sb:Sat w0 w8 (pt D (.deferred (some []))::aC 243 35 (.slice oa on oc) (kv.flatMap fC)::aJ p m B::F)) (fun w=>af9 (t:=2) ah _ _ w) ?_
  intro w9 h9
  exact ⟨_,rfl,h9⟩
end
end Go.Proofs.YtiglchkhikciiaaGreatDoor
namespace Go.aB
open Go.ay
def name (lead:ByteArray) (n:Int):ByteArray:=if Seg.name n=ByteArray.empty then ByteArray.empty else lead++(Seg.name n).extract 4 12
def idx:ByteArray:=⟨#[105,100,120,46]⟩
def use:ByteArray:=⟨#[117,115,101,46]⟩
theorem GV (n:Int):Seg.name n=ByteArray.empty∨(Seg.name n).size=12∧(Seg.name n).data.toList.take 4=Seg.lead:=by
 unfold Seg.name
 split
 ·exact .inl rfl
 ·right
  refine ⟨?_,rfl⟩
  show (Seg.lead++Seg.gK n.toNat 8).toArray.size=12
  rw [aaI,aal,Seg.vH];rfl
end Go.aB
namespace Go.Proofs.YtiglchkhikciiaaGreatDoor
open Go Go.Sl Go.ay Go.MapKept Go.RowKit
section
variable {w0 w:World}{F:List aG}{v bv dv x:Value}{q m:Nat}
theorem acQ (s:ByteArray) (h1:s.size=12) (h2:s.data.toList.take 4=Seg.lead) (w:World) :
  Calls Tryz.prog 212 #[.string s,.string ⟨#[115,101,103,46]⟩] w (aO fun v w'=>v = .bool true∧w=w'):=by
 have BN:((s.extract 0 4).toList==[115,101,103,46])=true:=by rw [JR s,h2];rfl
 have hle:(4:Int)≤(s.size:Int):=oQ
 clear h2
 go_enter Tryz.func212,Tryz.ntmps212
 go_wp2
 go_ret
 exact ⟨_,rfl,rfl,rfl⟩
theorem ah9 (s:ByteArray) (h1:s.size=12) (h2:s.data.toList.take 4=Seg.lead) (w:World) :
  Calls Tryz.prog 259 #[.string s,.string ⟨#[115,101,103,46]⟩] w (aO fun v w'=>v = .string (s.extract 4 12)∧w=w'):=by
 have hp:=acQ s h1 h2 w
 go_enter Tryz.func259,Tryz.ntmps259
 go_wp2_with fail
 refine hp.mono ?_
 rintro e w1 ⟨v,rfl,rfl,rfl⟩
 clear hp
 go_wp2
 go_ret
 exact ⟨_,rfl,rfl,rfl⟩
theorem trim_c (s:ByteArray) (h1:s.size=12) (h2:s.data.toList.take 4=Seg.lead) (w:World) :
  Calls Tryz.prog 223 #[.string s,.string ⟨#[115,101,103,46]⟩] w (aO fun v w'=>v = .string (s.extract 4 12)∧w=w'):=by
 have hp:=ah9 s h1 h2 w
 go_enter Tryz.func223,Tryz.ntmps223
 go_wp2_with fail
 refine hp.mono ?_
 rintro e w1 ⟨v,rfl,rfl,rfl⟩
 clear hp
 go_wp2
 go_ret
 exact ⟨_,rfl,rfl,rfl⟩
theorem TN (lead:ByteArray) (hl:lead.size=4) (n:Int) (h:Sat w0 w F) :
  Calls Tryz.prog 176 #[.string lead,.int .i64 n] w (aO fun v w'=>v = .string (aB.name lead n)∧Sat w0 w' F):=by
 have hn:=wP n h
 have Hf:=uQ (show aB.name lead n=if Seg.name n=ByteArray.empty then ByteArray.empty else lead++(Seg.name n).extract 4 12 from rfl)
 have Hc:=uQ (aB.GV n)
 generalize Seg.name n=s at *
 go_enter Tryz.func176,Tryz.ntmps176
 go_wp2_with fail
 refine hn.mono ?_
 rintro e w1 ⟨v,rfl,rfl,hS⟩
 clear hn
 rcases Hc.out with rfl|⟨h1,h2⟩
 ·clear hl h
  go_wp2
  go_ret
  exact ⟨_,rfl,by rw [Hf.out];rfl,hS⟩
 ·have hne:s≠ByteArray.empty:=fun e=>by rw [e]at h1;cases h1
  have hne2:(s.toList==[])=false:=by
   rw [adW,ByteArray.toList_eq]
   intro e
   have:=aje List.length e
   rw [adu]at this
   have h1':s.data.size=12:=h1
   rw [h1']at this;cases this
  have hsz:¬ 9223372036854775807<lead.size+(s.extract 4 12).size:=by rw [hl,ByteArray.size_extract];omega
  have tC:=uQ hne
  have ht:=trim_c s h1 h2
  clear hne h1 h2 hl h
  go_wp2_with fail
  refine (ht _).mono ?_
  rintro e w2 ⟨v,rfl,rfl,rfl⟩
  clear ht
  go_wp2
  go_ret
  exact ⟨_,rfl,by rw [Hf.out,abw tC.out];rfl,hS⟩
theorem Fp (n:Int) (h:Sat w0 w F):Calls Tryz.prog 118 #[.int .i64 n] w (aO fun v w'=>v = .string (aB.name aB.idx n)∧Sat w0 w' F):=by
 have hn:=TN aB.idx rfl n h
 go_enter Tryz.func118,Tryz.ntmps118
 go_wp2_with fail
 refine hn.mono ?_
 rintro e w1 ⟨v,rfl,rfl,hS⟩
 clear hn
 go_wp2
 go_ret
 exact ⟨_,rfl,rfl,hS⟩
theorem Ih (n:Int) (h:Sat w0 w F):Calls Tryz.prog 123 #[.int .i64 n] w (aO fun v w'=>v = .string (aB.name aB.use n)∧Sat w0 w' F):=by
 have hn:=TN aB.use rfl n h
 go_enter Tryz.func123,Tryz.ntmps123
 go_wp2_with fail
 refine hn.mono ?_
 rintro e w1 ⟨v,rfl,rfl,hS⟩
 clear hn
 go_wp2
 go_ret
 exact ⟨_,rfl,rfl,hS⟩
def hM:ay:=ay.new 100
end
end Go.Proofs.YtiglchkhikciiaaGreatDoor
namespace Go.aB
open Go.ay
def number (s:ByteArray):Int×Bool:=
 if s.data.toList.take 4=[105,100,120,46]∨s.data.toList.take 4=[117,115,101,46] then Seg.number ⟨(Seg.lead++s.data.toList.drop 4).toArray⟩ else (0,false)
def rZ:List ByteArray→Int→Int
 |[],m=>m
 |f::l,m=>rZ l (if (number f).2=true then max m (number f).1 else m)
def newest (M:ay):Int:=rZ M.list (-1)
end Go.aB
namespace Go.Proofs.YtiglchkhikciiaaGreatDoor
open Go Go.Sl Go.ay Go.MapKept Go.RowKit
section
variable {P:Program}{w0 w:World}{L:List aG}{ops:Array Oper}{rest:List Oper}{a:Act}{Q:Exit→Act→World→Prop}{dst:Option Tmp}{t ty e:TypeId}{pos:String}{after:Array Edge}{x y:Operand}{v1 v2:Value}{cs1 cs2:Array Value}{g:Nat×Bool}{op:Op}{sz dS:Nat}
theorem ag0 (hb:nP P t e sz dS=true) (h1:v1.cells.size=sz) (h2:v2.cells.size=sz) (hle:2 * sz≤16777216) (w:World) :
  (Instr.buildSlice t 2 #[(0,v1),(1,v2)]).run P w = .ok (.slice (some ⟨w.heap.size,0,none⟩) 2 2) (w.alloc (.cells (v1.cells++v2.cells) e)):=by
 obtain ⟨hu,i,z,hi,hz,e1,e2,e3,e4⟩:=vg hb
 subst e1
 have hzv:(zeroValue e).run P w = .ok z w:=by simp [zeroValue,typeInfo,hi,hz]
 have hsz':(sizeOf e).run P w = .ok i.size w:=by simp [sizeOf,typeInfo,hi]
 have hnz:¬ (2 * i.size=0):=oQ
 have hle':¬ (2 * i.size>2^24):=oQ
 unfold Instr.buildSlice
 simp only [adO,ajO hu,ac2,hsz',abw hle',abw hnz,hzv,aeC]
 have hf:Instr.fill (fun i'=>some (i' * i.size,i.size)) ((Array.range (2 * i.size)).map (z.cells[· % z.cells.size]!)) [(0,v1),(1,v2)]=some (v1.cells++v2.cells):=by
  generalize hz0:(Array.range (2 * i.size)).map (z.cells[· % z.cells.size]!)=z0
  have hs1:z0.size=2 * i.size:=by rw [← hz0];simp
  have hf1:∀ (v:Value) (off:Nat) (cs:Array Value),v.cells.zipIdx.foldl (fun cs (c,j)=>cs.setIfInBounds (off+j) c) cs=dM cs off v.cells.toList:=fun v off cs=>by
   have:=Kz v.cells.toList 0 off cs
   rw [akc]at this
   rw [← this,← Array.foldl_toList,Array.toList_zipIdx]
  unfold Instr.fill
  simp only [Nat.zero_mul]
  have hc:¬ ((v1.cells.size≠i.size || 0+v1.cells.size>z0.size)=true):=by
   rw [hs1];simp [h1];omega
  simp only [abw hc]
  rw [hf1]
  unfold Instr.fill
  simp only [Nat.one_mul]
  have hc2:¬ ((v2.cells.size≠i.size || i.size+v2.cells.size>(dM z0 0 v1.cells.toList).size)=true):=by
   rw [jM,hs1];simp [h2];omega
  simp only [abw hc2]
  rw [hf1]
  unfold Instr.fill
  congr 1
  apply Array.toList_inj.1
  have hl1:v1.cells.toList.length=i.size:=by rw [adu];exact h1
  have hl2:v2.cells.toList.length=i.size:=by rw [adu];exact h2
  have hz1:z0.toList.length=2 * i.size:=by rw [adu];exact hs1
  rw [jU _ _ _ (by rw [jM,hs1,hl2];omega),jU _ _ _ (by rw [hs1,hl1];omega),alj]
  rw [ajD,ajd,aen,ajb oQ,aeb oQ,aiz (by rw [aal,adU,hl1,hl2,hz1];omega),afo]
 simp only [hf]
 simp [newRow,go_sem]
theorem aiP (hb:nP P ty e sz dS=true) (hs:Sat w0 w L) (hx:a.eval x=v1) (hy:a.eval y=v2) (hc1:v1.cells=cs1) (hc2:v2.cells=cs2) (h1:cs1.size=sz) (h2:cs2.size=sz) (hle:2 * sz≤16777216)
  (hK:∀ b w',Sat w0 w' (pt b (.cells (cs1++cs2) e (0,0))::L)→wpList P ops Q rest (a.put dst (.slice (some ⟨b,0,none⟩) 2 2)) w'):wpList P ops Q (⟨dst,.buildSlice ty 2 #[(0,x),(1,y)],t,pos,after,none⟩::rest) a w:=by
 subst hc1;subst hc2
 refine ajx rfl fun _ hK'=>?_
 have hS:=hs.alloc (.cells (v1.cells++v2.cells) e)
 unfold Oper.wp execOp
 simp only [hx,hy,ajR,ag8,ajP,adO,aeC,ag0 hb h1 h2 hle w,ac2]
 exact hK' _ _ (hK _ _ hS)
end
end Go.Proofs.YtiglchkhikciiaaGreatDoor
namespace Go.aB
open Go.aj (Bs)
theorem ML (l p:List UInt8):Lib.hasPrefix l p=decide (l.take p.length=p):=by
 rw [akJ,decide_eq_true_iff]
 unfold Lib.hasPrefix
 rw [List.isPrefixOf_iff_prefix,List.prefix_iff_eq_take]
 exact eq_comm
theorem aa5 {l p:List UInt8} (h:l.take p.length=p):Lib.trimPrefix l p=l.drop p.length:=by
 unfold Lib.trimPrefix
 rw [ac3 (by rw [ML,decide_eq_true_iff];exact h)]
theorem Vp {s:ByteArray} (h:s.data.toList.take 4=[105,100,120,46]∨s.data.toList.take 4=[117,115,101,46]):number s=Seg.number ⟨(Seg.lead++s.data.toList.drop 4).toArray⟩:=by unfold number;rw [ac3 h]
theorem ae1 {s:ByteArray} (h:¬ (s.data.toList.take 4=[105,100,120,46]∨s.data.toList.take 4=[117,115,101,46])):number s=(0,false):=by unfold number;rw [abw h]
end Go.aB
namespace Go.Proofs.YtiglchkhikciiaaGreatDoor
open Go Go.Sl Go.ay Go.MapKept Go.RowKit
section
variable {P:Program}{w:World}{ops:Array Oper}{rest:List Oper}{a:Act}{Q:Exit→Act→World→Prop}{dst:Option Tmp}{t ty:TypeId}{pos:String}{after:Array Edge}{x y:Operand}
theorem aaj (h:Stop (wpList P ops Q (⟨dst,.buildSlice ty 2 #[(0,x),(1,y)],t,pos,after,none⟩::rest) a w)):wpList P ops Q (⟨dst,.buildSlice ty 2 #[(0,x),(1,y)],t,pos,after,none⟩::rest) a w:=h.out
end
section
variable {w0 w:World}{F:List aG}{m K:Nat}{M:ay}
theorem QB (s p:ByteArray) (w:World):Calls Tryz.prog 105 #[.string s,.string p] w (aO fun v w'=>v = .tuple #[.string ⟨(Lib.trimPrefix s.data.toList p.data.toList).toArray⟩,.bool (Lib.hasPrefix s.data.toList p.data.toList)]∧w=w'):=
 (Tryz.strings_CutPrefix s p w).mono fun e w' ⟨he,hw⟩=>⟨_,he,rfl,hw.symm⟩
theorem QC (s p:ByteArray) (k:Nat) (hk:p.data.toList.length=k) (h:s.data.toList.take k=p.data.toList) (w:World):Calls Tryz.prog 105 #[.string s,.string p] w (aO fun v w'=>v = .tuple #[.string ⟨(s.data.toList.drop k).toArray⟩,.bool true]∧w=w'):=by
 subst hk
 have hc:=QB s p w
 rw [aB.aa5 h,aB.ML,aiu h]at hc
 exact hc
theorem QA (s p:ByteArray) (k:Nat) (hk:p.data.toList.length=k) (h:¬ s.data.toList.take k=p.data.toList) (w:World):Calls Tryz.prog 105 #[.string s,.string p] w (aO fun v w'=>(∃ r:ByteArray,v = .tuple #[.string r,.bool false])∧w=w'):=by
 subst hk
 have hc:=QB s p w
 rw [aB.ML,aex h]at hc
 exact hc.mono fun e w' ⟨v,he,hv,hw⟩=>⟨v,he,⟨_,hv⟩,hw⟩
theorem UF (r:List UInt8):(⟨#[115,101,103,46]⟩:ByteArray)++(⟨r.toArray⟩:ByteArray)=⟨(Seg.lead++r).toArray⟩:=by
 apply ByteArray.ext
 rw [ByteArray.data_append]
 apply Array.toList_inj.1
 simp [Seg.lead]
set_option maxRecDepth 20000 in
theorem KU (s:ByteArray) (hs:s.size≤4000000000) (h:Sat w0 w F) :
  Calls Tryz.prog 58 #[.string s] w (aO fun v w'=>v = .tuple #[.int .i64 (aB.number s).1,.bool (aB.number s).2]∧Sat w0 w' F):=by
 have Hs:=uQ hs
 have hsz:∀ r:List UInt8,r.length≤4000000000→¬ 9223372036854775807<(⟨#[115,101,103,46]⟩:ByteArray).size+(⟨r.toArray⟩:ByteArray).size:=fun r hr=>by
  have:(⟨r.toArray⟩:ByteArray).size=r.length:=by show r.toArray.size=_;exact aaI ..
  have h4:(⟨#[115,101,103,46]⟩:ByteArray).size=4:=rfl
  omega
 have gq:=uQ hsz
 have Hl:=uQ (show s.data.toList.length≤4000000000 from by rw [adu];exact hs)
 clear hs hsz
 go_enter Tryz.func58,Tryz.ntmps58
 go_wp2_with ((with_reducible refine aaj ⟨?_⟩);refine aiP (e:=9) (sz:=1) (dS:=16) (cs1:=#[.string ⟨#[105,100,120,46]⟩]) (cs2:=#[.string ⟨#[117,115,101,46]⟩]) au h ah ah rfl rfl rfl rfl bF ?_;intro b w1 h1)
 replace h1:Sat w0 w1 (pt b (.cells #[.string ⟨#[105,100,120,46]⟩,.string ⟨#[117,115,101,46]⟩] 9 (0,0))::F):=h1
 go_loopg [10] 3 (fun g iq wr=>∃ i:Nat,g=3 - i∧i≤2∧iq = .int .i64 i∧wr=w1∧(1≤i→¬ s.data.toList.take 4=[105,100,120,46])∧(2≤i→¬ s.data.toList.take 4=[117,115,101,46]))
 case atStart=>exact ⟨0,rfl,by omega,rfl,rfl,fun h=>by omega,fun h=>by omega⟩
 case round=>
  obtain ⟨i,rfl,hi,rfl,rfl,hn1,hn2⟩:=hrel
  have h01:i=0∨i=1∨i=2:=oQ
  clear hi h
  have c0:=h1.cellAt 0 (.string ⟨#[105,100,120,46]⟩) rfl
  have c1:=h1.cellAt 1 (.string ⟨#[117,115,101,46]⟩) rfl
  rcases h01 with rfl|rfl|rfl
  ·clear hn1 hn2 c1
   go_wp2_with fail
   by_cases ht:s.data.toList.take 4=[105,100,120,46]
   ·refine (QC s ⟨#[105,100,120,46]⟩ 4 rfl ht _).mono ?_
    rintro e w2 ⟨v,rfl,rfl,rfl⟩
    have hz:=gq.out (s.data.toList.drop 4) (by rw [adU];have:=Hl.out;omega)
    have Hy:=uQ (aB.Vp (s:=s) (.inl ht))
    clear ht gq
    go_wp2_with fail
    rw [show (⟨#[115,101,103,46]⟩:ByteArray)++(⟨(s.data.toList.drop 4).toArray⟩:ByteArray)=⟨(Seg.lead++s.data.toList.drop 4).toArray⟩ from UF _]
    refine (NZ _ h1).mono ?_
    rintro e w3 ⟨v,rfl,rfl,h3⟩
    go_wp2_with fail
    go_ret2
    exact ⟨_,rfl,by rw [Hy.out];rfl,h3.drop⟩
   ·refine (QA s ⟨#[105,100,120,46]⟩ 4 rfl ht _).mono ?_
    rintro e w2 ⟨v,rfl,⟨r,rfl⟩,rfl⟩
    clear c0
    go_wp2_with fail
    go_roundg 2
    case measure=>omega
    case rel=>exact ⟨1,rfl,by omega,rfl,rfl,fun _=>ht,fun h=>by omega⟩
  ·have ht1:=hn1 oQ
   clear hn1 hn2 c0
   go_wp2_with fail
   by_cases ht:s.data.toList.take 4=[117,115,101,46]
   ·refine (QC s ⟨#[117,115,101,46]⟩ 4 rfl ht _).mono ?_
    rintro e w2 ⟨v,rfl,rfl,rfl⟩
    have hz:=gq.out (s.data.toList.drop 4) (by rw [adU];have:=Hl.out;omega)
    have Hy:=uQ (aB.Vp (s:=s) (.inr ht))
    clear ht ht1 gq
    go_wp2_with fail
    rw [show (⟨#[115,101,103,46]⟩:ByteArray)++(⟨(s.data.toList.drop 4).toArray⟩:ByteArray)=⟨(Seg.lead++s.data.toList.drop 4).toArray⟩ from UF _]
    refine (NZ _ h1).mono ?_
    rintro e w3 ⟨v,rfl,rfl,h3⟩
    go_wp2_with fail
    go_ret2
    exact ⟨_,rfl,by rw [Hy.out];rfl,h3.drop⟩
   ·refine (QA s ⟨#[117,115,101,46]⟩ 4 rfl ht _).mono ?_
    rintro e w2 ⟨v,rfl,⟨r,rfl⟩,rfl⟩
    clear c1
    go_wp2_with fail
    go_roundg 1
    case measure=>omega
    case rel=>exact ⟨2,rfl,by omega,rfl,rfl,fun _=>ht1,fun _=>ht⟩
  ·have Hy:=uQ (aB.ae1 (s:=s) (fun h=>h.elim (hn1 oQ) (hn2 oQ)))
   clear hn1 hn2 c0 c1
   go_wp2_with fail
   go_ret2
   exact ⟨_,rfl,by rw [Hy.out];rfl,h1.drop⟩
end
section
variable {w0 w:World}{F:List aG}{m K:Nat}{M:ay}
theorem Mc {v:Value}{l:List ByteArray} (h:bg 1 v (strs l) w):∃ a c,v = .slice a l.length c:=by
 obtain ⟨a,n,c,rfl,hl,hx⟩:=h
 unfold strs at hl
 rw [aaJ,aiw]at hl
 exact ⟨a,c,by rw [hl]⟩
theorem Dv {l:List ByteArray}{i:Nat}{s:ByteArray}{a:Option Addr}{n c:Nat} (h:bg 1 (.slice a n c) (strs l) w) (hi:l[i]?=some s):∃ bk off,a=some ⟨bk,off,none⟩∧w.cell? ⟨bk,off+i,none⟩=some (.string s):=by
 have hx:(strs l)[i]?=some (.string s):=by unfold strs;rw [aix,hi];rfl
 obtain ⟨bk,off,rfl,hc⟩:=nU h hx
 exact ⟨bk,off,rfl,hc _ _ hx⟩
theorem LJ (ok:M.Ok K):M.list.length≤500:=by
 unfold ay.list
 split
 ·exact afm _
 ·rw [aaJ];exact ok.fH.len
theorem aeQ {l:List ByteArray}{i:Nat}{s:ByteArray} (h:l[i]?=some s) (x:Int):aB.rZ (l.drop i) x=aB.rZ (l.drop (i+1)) (if (aB.number s).2=true then max x (aB.number s).1 else x):=by
 obtain ⟨hi,rfl⟩:=abl.1 h
 rw [ajX hi]
 rfl
set_option maxRecDepth 20000 in
theorem FU (hM:M.Ok K) (hn:∀ f∈M.list,f.size≤4000000000) (h:Sat w0 w (aH m M::F)):Calls Tryz.prog 15 #[ptr m] w (aO fun v w'=>v = .int .i64 (aB.newest M)∧Sat w0 w' (aH m M::F)):=by
 have hls:=Dk hM h
 have Hlen:=uQ (LJ hM)
 have Hn:=uQ hn
 have Hw:=uQ (show aB.rZ M.list (-1)=aB.newest M from rfl)
 clear hn hM
 generalize M.list=l at *
 generalize aB.newest M=W at *
 go_enter Tryz.func15,Tryz.ntmps15
 go_wp2_with fail
 refine hls.mono ?_
 rintro e w1 ⟨v,rfl,hS,_⟩
 clear hls h
 obtain ⟨a,c,rfl⟩:=Mc (Sat.rd hS)
 go_wp2_with fail
 go_loopg [3,11] l.length (fun g lv iq wr=>∃ (i:Nat) (x:Int),g=l.length - i∧i≤l.length∧lv = .int .i64 x∧iq = .int .i64 i∧aB.rZ (l.drop i) x=W∧Sat w0 wr (aC 9 1 (.slice a l.length c) (strs l)::aH m M::F))
 case atStart=>exact ⟨0,-1,rfl,afm _,rfl,rfl,Hw.out,hS⟩
 case round=>
  obtain ⟨i,x,rfl,hi,rfl,rfl,hx,hS2⟩:=hrel
  clear hS
  by_cases hlt:i<l.length
  ·have c1:(i:Int)<(l.length:Int):=by omega
   have hwi:IntKind.i64.wrap ((i:Int)+1)=(i:Int)+1:=acI _ (by have:=Hlen.out;omega)
   obtain ⟨s,hs⟩:∃ s,l[i]?=some s:=⟨_,aak hlt⟩
   obtain ⟨bk,off,rfl,hc⟩:=Dv (Sat.rd hS2) hs
   have Hx:=uQ (hx.symm.trans (aeQ hs x))
   have hsz:=Hn.out s (abA hs)
   have bT:=uQ hlt
   clear hx hs hlt hi
   go_wp2_with fail
   refine (KU s hsz hS2).mono ?_
   rintro e w2 ⟨v,rfl,rfl,hS3⟩
   clear hS2 hc
   generalize (aB.number s).1=n at *
   generalize (aB.number s).2=b at *
   cases b with
   |true=>
    go_wp2_with fail
    go_roundg (l.length - (i+1))
    case measure=>have:=bT.out;omega
    case rel=>exact ⟨i+1,max x n,rfl,aiy bT.out,by first|rfl|(congr 1),by first|rfl|go_num,Hx.out.symm,hS3⟩
   |false=>
    go_wp2_with fail
    go_roundg (l.length - (i+1))
    case measure=>have:=bT.out;omega
    case rel=>exact ⟨i+1,x,rfl,aiy bT.out,rfl,by first|rfl|go_num,Hx.out.symm,hS3⟩
  ·have c1:¬ (i:Int)<(l.length:Int):=by omega
   have Hx:=uQ (show x=W by rw [aiz oQ]at hx;exact hx)
   clear hx hlt hi
   go_wp2_with fail
   go_ret
   exact ⟨_,rfl,by rw [Hx.out];rfl,hS2.drop⟩
end
end Go.Proofs.YtiglchkhikciiaaGreatDoor
namespace Go.Seg
open Go.ay
open Go.aj (encs iw)
section
variable {K K':Nat}{M M':ay}{L:Log}{s t:ByteArray}{i:Nat}{sure opn:List (aU×aj.aP)}
theorem acj (M:ay) (limit:Int):Has (fresh M limit) M:=fun x hx=>by
 obtain ⟨t,ht,hn,rfl⟩:=zC hx
 simp only
 rw [(zO hn).2.2]
 exact UL ht
theorem aco {n lim:Int} (hoff:M.off=false) (h1:0≤n) (h2:n<1048576) (hi:bP M.now (name n)=some i):n∈nf (fresh M lim):=by
 have hl:name n∈M.list:=by
  unfold ay.list
  rw [hoff]
  exact acK.2 ⟨_,jk hi,rfl⟩
 unfold nf fresh
 simp only
 rw [aeb (by rw [aaJ];simp)]
 refine acK.2 ⟨(n,(M.size (name n)).1),?_,rfl⟩
 unfold found
 refine List.mem_filterMap.2 ⟨name n,hl,?_⟩
 rw [FX n h1 h2]
 rfl
end
end Go.Seg
namespace Go.aB
open Go.ay
def tmp:ByteArray:=⟨#[116,109,112]⟩
def there (M:ay) (s:ByteArray):Bool:=decide ((M.size s).2=0)
def qY (M:ay):ay×Int:=if there M tmp=true then M.remove tmp else (M,0)
def fill (M:ay) (s:ByteArray) (b:Bs):ay×Int:=
 if (M.append tmp b).2=0 then
  (if ((M.append tmp b).1.sync tmp).2=0 then ((M.append tmp b).1.sync tmp).1.rename tmp s else (M.append tmp b).1.sync tmp)
 else if (M.append tmp b).2=11 then
  (if ((M.append tmp b).1.remove tmp).2=0 then (((M.append tmp b).1.remove tmp).1,11) else (M.append tmp b).1.remove tmp)
 else M.append tmp b
def write (M:ay) (s:ByteArray) (b:Bs):ay×Int:=
 if (qY M).2=0 then (if ((qY M).1.create tmp).2=0 then fill ((qY M).1.create tmp).1 s b else (qY M).1.create tmp) else qY M
def sweep (p:ByteArray→Bool):List ByteArray→ay→ay×Int
 |[],M=>(M,0)
 |f::l,M=>if p f=true then (if (M.remove f).2=0 then sweep p l (M.remove f).1 else M.remove f) else sweep p l M
def other (n:Int) (s:ByteArray):Bool:=(number s).2 && (number s).1 != n
def NM (M:ay) (n:Int):ay×Int:=if M.dN.2=0 then sweep (other n) M.dN.1.list M.dN.1 else M.dN
def NK (M:ay) (n:Int) (bu:Bs):ay×Int:=if (write M (name use n) bu).2=0 then NM (write M (name use n) bu).1 n else write M (name use n) bu
def save (M:ay) (n:Int) (bi bu:Bs):ay×Int:=if (write M (name idx n) bi).2=0 then NK (write M (name idx n) bi).1 n bu else write M (name idx n) bi
abbrev Kept:Type:=List (ByteArray×Nat×bC)
section
variable {T:Kept}{s1 s2 s:ByteArray}{b1 b2 b:Bs}{K j:Nat}{M M':ay}{l:Names}{fs fs':Nat→bC}
theorem Og:tmp≠ByteArray.empty:=by decide
end
end Go.aB
namespace Go.Proofs.YtiglchkhikciiaaGreatDoor
open Go Go.Sl Go.ay Go.MapKept Go.RowKit
section
variable {w0 w:World}{F:List aG}{m fb nb b r:Nat}{M:ay}{bs:List Nat}{wv v bv:Value}{s:ByteArray}{l:Names}{fs:List bC}{K:Nat}
theorem Wu (hM:M.Ok K) (hK:K≤1099511627776) (h:Sat w0 w (aH m M::F)) (s t:ByteArray) (ht:t.size≤9223372036854775807) :
  Calls Tryz.prog 185 #[ptr m,.string s,.string t] w (aO fun v w'=>v=errno (M.rename s t).2∧Sat w0 w' (aH m (M.rename s t).1::F)):=by
 obtain ⟨bs,fb,nb,wv,hl,hR⟩:=aH.open h
 have hg:=SE t w ht
 cases ho:M.off
 ·cases hn:bP M.now s with
  |none=>
   have hf:=xY (s:=s) hR ho hn
   have bH:Hid (M.rename s t=(M,9)):=by show _=_;simp [ay.rename,ho,hn]
   clear ho hn
   go_enter Tryz.func185,Tryz.ntmps185
   go_wp2_with (first|(go_at_call 103;refine hf.mono ?_;rintro e w1 ⟨v,rfl,rfl,rfl⟩))
   go_ret
   exact ⟨errno 9,rfl,by rw [bH.out],by rw [bH.out];exact h⟩
  |some i=>
   have hf:=x8 (s:=s) hR ho hn
   cases hgs:good t
   ·rw [hgs]at hg
    have bH:Hid (M.rename s t=(M,7)):=by show _=_;simp [ay.rename,ho,hn,hgs]
    clear ho hn hgs
    go_enter Tryz.func185,Tryz.ntmps185
    go_wp2_with (first|(go_at_call 103;refine hf.mono ?_;rintro e w1 ⟨v,rfl,rfl,rfl⟩)|(go_at_call 217;refine hg.mono ?_;rintro e w1 ⟨v,rfl,rfl,rfl⟩))
    go_ret
    exact ⟨errno 7,rfl,by rw [bH.out],by rw [bH.out];exact h⟩
   rw [hgs]at hg
   have hst:=yO hR hM.left
   cases hstep:M.step.2
   ·rw [hstep]at hst
    have bH:Hid (M.rename s t=(M.step.1,12)):=by show _=_;simp [ay.rename,ho,hn,hgs,hstep]
    clear ho hn hstep hgs
    go_enter Tryz.func185,Tryz.ntmps185
    go_wp2_with (first|(go_at_call 103;refine hf.mono ?_;rintro e w1 ⟨v,rfl,rfl,rfl⟩)|(go_at_call 217;refine hg.mono ?_;rintro e w1 ⟨v,rfl,rfl,rfl⟩)|(go_at_call 157;refine hst.mono ?_;rintro e w1 ⟨v,rfl,rfl,hS1⟩))
    go_ret
    refine ⟨errno 12,rfl,by rw [bH.out],?_⟩
    rw [bH.out]
    exact aH.shut (bs:=bs) (fb:=fb) (nb:=nb) (wv:=wv) (by rw [M.jv.2.2.2.1];exact hl) (qX hS1)
   ·rw [hstep]at hst
    have bH:Hid (M.rename s t=(M.step.1.link ⟨s,t,i⟩,0)):=by show _=_;simp [ay.rename,ho,hn,hgs,hstep]
    have hne:=pI hgs
    have hl':bs.length=M.step.1.files.length:=by rw [M.jv.2.2.2.1];exact hl
    have hlp:mO bs ⟨s,t,i⟩=ptr (bs.getD i 0):=by unfold mO;rw [abw hne]
    have xA:=uQ hl';have Jg:=uQ hlp
    clear ho hn hstep hgs hne hl' hlp
    generalize hq:bs.getD i 0=q at hf
    have Hq:=uQ hq;clear hq
    go_enter Tryz.func185,Tryz.ntmps185
    go_wp2_with (first|(go_at_call 103;refine hf.mono ?_;rintro e w1 ⟨v,rfl,rfl,rfl⟩)|(go_at_call 217;refine hg.mono ?_;rintro e w1 ⟨v,rfl,rfl,rfl⟩)|(go_at_call 157;fail))
    refine hst.mono ?_
    rintro e w1 ⟨v,rfl,rfl,hS1⟩
    have hlk:=UJ hM.step hK xA.out ⟨s,t,i⟩ (qX hS1)
    rw [Jg.out,Hq.out]at hlk
    go_wp2_with (go_at_call 158;go_must (refine hlk.mono ?_);rintro e w2 ⟨v2,rfl,hS2⟩)
    go_ret
    refine ⟨errno 0,rfl,by rw [bH.out],?_⟩
    rw [bH.out]
    exact hS2
 ·have hf:=xZ (s:=s) hR ho
  have bH:Hid (M.rename s t=(M,12)):=by show _=_;simp [ay.rename,ho]
  clear ho
  go_enter Tryz.func185,Tryz.ntmps185
  go_wp2_with (first|(go_at_call 103;refine hf.mono ?_;rintro e w1 ⟨v,rfl,rfl,rfl⟩))
  go_ret
  exact ⟨errno 12,rfl,by rw [bH.out],by rw [bH.out];exact h⟩
end
section
variable {w0 w:World}{F:List aG}{v bv:Value}{q m K:Nat}{M:ay}
theorem CU (hM:M.Ok K) (s:ByteArray) (h:Sat w0 w (aH m M::F)):Calls Tryz.prog 143 #[ptr m,.string s] w (aO fun v w'=>v = .bool (aB.there M s)∧w=w'):=by
 have hs:=Ai hM h s
 have Hf:=uQ (show aB.there M s=decide ((M.size s).2=0) from rfl)
 generalize M.size s=r at *
 obtain ⟨n,e⟩:=r
 dsimp only at hs
 have hb:(e==0)=decide (e=0):=by rw [akJ,akr,adN]
 go_enter Tryz.func143,Tryz.ntmps143
 go_wp2_with fail
 refine hs.mono ?_
 rintro ee w1 ⟨v,rfl,rfl,rfl⟩
 clear hs
 go_wp2
 go_ret
 rw [Hf.out]
 exact ⟨_,rfl,by first|rfl|(rw [← hb];rfl)|simp,rfl⟩
set_option maxRecDepth 20000 in
theorem Ui (hM:M.Ok K) (hK:K+4≤1099511627776) (s:ByteArray) (hs:s.size≤9223372036854775807) (b:Bs) (hr:Ro w0 F (bg 1 bv (aA b))) (hbv:∃ a n c,bv = .slice a n c) (h:Sat w0 w (aH m M::F)) :
  Calls Tryz.prog 122 #[ptr m,.string s,bv] w (aO fun v w'=>v=errno (aB.write M s b).2∧Sat w0 w' (aH m (aB.write M s b).1::F)):=by
 obtain ⟨ba,bn,bc,rfl⟩:=hbv
 have Hr:=uQ hr;have Hs:=uQ hs
 have hth:=CU hM aB.tmp h
 clear hr hs
 cases ht:aB.there M aB.tmp with
 |false=>
  have HX:=uQ (show aB.write M s b=(if (M.create aB.tmp).2=0 then aB.fill (M.create aB.tmp).1 s b else M.create aB.tmp) by unfold aB.write aB.qY;rw [ht];rfl)
  rw [ht]at hth
  clear ht
  go_enter Tryz.func122,Tryz.ntmps122
  go_wp2_with fail
  refine hth.mono ?_
  rintro ee w1 ⟨v,rfl,rfl,rfl⟩
  clear hth
  have hcr:=J7 hM oQ h aB.tmp aN
  have ok1:=hM.create aB.tmp
  generalize M.create aB.tmp=r1 at *
  obtain ⟨M1,e1⟩:=r1
  dsimp only at hcr ok1
  clear h
  go_wp2_with fail
  refine hcr.mono ?_
  rintro ee w3 ⟨v,rfl,rfl,h3⟩
  clear hcr
  by_cases c1:e1=0
  rotate_left
  ·have hb1:(e1 != 0)=true:=aj6.2 c1
   have HF:=uQ (show aB.write M s b=(M1,e1) from HX.out.trans (abw c1))
   clear c1
   go_wp2
   go_ret
   rw [HF.out]
   exact ⟨_,rfl,rfl,h3⟩
  subst c1
  have HY:=uQ (show aB.write M s b=aB.fill M1 s b from HX.out.trans (ac3 rfl))
  clear HX
  have hap:=Et ok1 oQ h3 aB.tmp b Hr.out
  have ok2:=ok1.append aB.tmp b
  have HE:=uQ (show aB.fill M1 s b=(if (M1.append aB.tmp b).2=0 then
    (if ((M1.append aB.tmp b).1.sync aB.tmp).2=0 then ((M1.append aB.tmp b).1.sync aB.tmp).1.rename aB.tmp s else (M1.append aB.tmp b).1.sync aB.tmp)
   else if (M1.append aB.tmp b).2=11 then
    (if ((M1.append aB.tmp b).1.remove aB.tmp).2=0 then (((M1.append aB.tmp b).1.remove aB.tmp).1,11) else (M1.append aB.tmp b).1.remove aB.tmp)
   else M1.append aB.tmp b) from rfl)
  generalize M1.append aB.tmp b=r2 at *
  obtain ⟨M2,e2⟩:=r2
  dsimp only at hap ok2
  clear h3
  go_wp2_with fail
  refine hap.mono ?_
  rintro ee w4 ⟨v,rfl,rfl,h4⟩
  clear hap
  by_cases c2:e2=0
  rotate_left
  ·have hb2:(e2 != 0)=true:=aj6.2 c2
   by_cases c3:e2=11
   ·subst c3
    have hrm:=yJ ok2 oQ h4 aB.tmp
    have HG:=uQ (show aB.write M s b=(if (M2.remove aB.tmp).2=0 then ((M2.remove aB.tmp).1,11) else M2.remove aB.tmp) from HY.out.trans (HE.out.trans ((abw c2).trans (ac3 rfl))))
    generalize M2.remove aB.tmp=r3 at *
    obtain ⟨M3,e3⟩:=r3
    dsimp only at hrm
    clear h4 c2 HY HE
    go_wp2_with fail
    refine hrm.mono ?_
    rintro ee w5 ⟨v,rfl,rfl,h5⟩
    clear hrm
    by_cases c4:e3=0
    ·have hb3:(e3 != 0)=false:=by rw [c4];rfl
     have HF:=uQ (HG.out.trans (ac3 c4))
     clear c4
     go_wp2
     go_ret
     rw [HF.out]
     exact ⟨_,rfl,rfl,h5⟩
    ·have hb3:(e3 != 0)=true:=aj6.2 c4
     have HF:=uQ (HG.out.trans (abw c4))
     clear c4
     go_wp2
     go_ret
     rw [HF.out]
     exact ⟨_,rfl,rfl,h5⟩
   ·have hb3:(e2==11)=false:=adW.2 c3
    have HF:=uQ (show aB.write M s b=(M2,e2) from HY.out.trans (HE.out.trans ((abw c2).trans (abw c3))))
    clear c2 c3
    go_wp2
    go_ret
    rw [HF.out]
    exact ⟨_,rfl,rfl,h4⟩
  subst c2
  have hsy:=H7 ok2 h4 aB.tmp
  have wo:=ok2.sync aB.tmp
  have HG:=uQ (show aB.write M s b=(if (M2.sync aB.tmp).2=0 then (M2.sync aB.tmp).1.rename aB.tmp s else M2.sync aB.tmp) from HY.out.trans (HE.out.trans (ac3 rfl)))
  generalize M2.sync aB.tmp=r3 at *
  obtain ⟨M3,e3⟩:=r3
  dsimp only at hsy wo
  clear h4 HY HE
  go_wp2_with fail
  refine hsy.mono ?_
  rintro ee w5 ⟨v,rfl,rfl,h5⟩
  clear hsy
  by_cases c4:e3=0
  rotate_left
  ·have hb3:(e3 != 0)=true:=aj6.2 c4
   have HF:=uQ (show aB.write M s b=(M3,e3) from HG.out.trans (abw c4))
   clear c4
   go_wp2
   go_ret
   rw [HF.out]
   exact ⟨_,rfl,rfl,h5⟩
  subst c4
  have hre:=Wu wo oQ h5 aB.tmp s Hs.out
  have HF:=uQ (show aB.write M s b=M3.rename aB.tmp s from HG.out.trans (ac3 rfl))
  generalize M3.rename aB.tmp s=r4 at *
  obtain ⟨M4,e4⟩:=r4
  dsimp only at hre
  clear h5
  go_wp2_with fail
  refine hre.mono ?_
  rintro ee w6 ⟨v,rfl,rfl,h6⟩
  clear hre
  go_wp2
  go_ret
  rw [HF.out]
  exact ⟨_,rfl,rfl,h6⟩
 |true=>
  rw [ht]at hth
  have hrm:=yJ hM oQ h aB.tmp
  have okR:=hM.remove aB.tmp
  have HR:=uQ (show aB.write M s b=(if (M.remove aB.tmp).2=0 then (if ((M.remove aB.tmp).1.create aB.tmp).2=0 then aB.fill ((M.remove aB.tmp).1.create aB.tmp).1 s b else (M.remove aB.tmp).1.create aB.tmp) else M.remove aB.tmp) by unfold aB.write aB.qY;rw [ht];rfl)
  generalize M.remove aB.tmp=r0 at *
  obtain ⟨M0,e0⟩:=r0
  dsimp only at hrm okR
  clear ht
  go_enter Tryz.func122,Tryz.ntmps122
  go_wp2_with fail
  refine hth.mono ?_
  rintro ee w1 ⟨v,rfl,rfl,rfl⟩
  clear hth
  go_wp2_with fail
  refine hrm.mono ?_
  rintro ee w2 ⟨v,rfl,rfl,h2⟩
  clear hrm h
  by_cases c0:e0=0
  rotate_left
  ·have hb0:(e0 != 0)=true:=aj6.2 c0
   have HF:=uQ (show aB.write M s b=(M0,e0) from HR.out.trans (abw c0))
   clear c0
   go_wp2
   go_ret
   rw [HF.out]
   exact ⟨_,rfl,rfl,h2⟩
  subst c0
  have HX:=uQ (show aB.write M s b=(if (M0.create aB.tmp).2=0 then aB.fill (M0.create aB.tmp).1 s b else M0.create aB.tmp) from HR.out.trans (ac3 rfl))
  clear HR
  have hcr:=J7 okR oQ h2 aB.tmp aN
  have ok1:=okR.create aB.tmp
  generalize M0.create aB.tmp=r1 at *
  obtain ⟨M1,e1⟩:=r1
  dsimp only at hcr ok1
  clear h2
  go_wp2_with fail
  refine hcr.mono ?_
  rintro ee w3 ⟨v,rfl,rfl,h3⟩
  clear hcr
  by_cases c1:e1=0
  rotate_left
  ·have hb1:(e1 != 0)=true:=aj6.2 c1
   have HF:=uQ (show aB.write M s b=(M1,e1) from HX.out.trans (abw c1))
   clear c1
   go_wp2
   go_ret
   rw [HF.out]
   exact ⟨_,rfl,rfl,h3⟩
  subst c1
  have HY:=uQ (show aB.write M s b=aB.fill M1 s b from HX.out.trans (ac3 rfl))
  clear HX
  have hap:=Et ok1 oQ h3 aB.tmp b Hr.out
  have ok2:=ok1.append aB.tmp b
  have HE:=uQ (show aB.fill M1 s b=(if (M1.append aB.tmp b).2=0 then
    (if ((M1.append aB.tmp b).1.sync aB.tmp).2=0 then ((M1.append aB.tmp b).1.sync aB.tmp).1.rename aB.tmp s else (M1.append aB.tmp b).1.sync aB.tmp)
   else if (M1.append aB.tmp b).2=11 then
    (if ((M1.append aB.tmp b).1.remove aB.tmp).2=0 then (((M1.append aB.tmp b).1.remove aB.tmp).1,11) else (M1.append aB.tmp b).1.remove aB.tmp)
   else M1.append aB.tmp b) from rfl)
  generalize M1.append aB.tmp b=r2 at *
  obtain ⟨M2,e2⟩:=r2
  dsimp only at hap ok2
  clear h3
  go_wp2_with fail
  refine hap.mono ?_
  rintro ee w4 ⟨v,rfl,rfl,h4⟩
  clear hap
  by_cases c2:e2=0
  rotate_left
  ·have hb2:(e2 != 0)=true:=aj6.2 c2
   by_cases c3:e2=11
   ·subst c3
    have hrm:=yJ ok2 oQ h4 aB.tmp
    have HG:=uQ (show aB.write M s b=(if (M2.remove aB.tmp).2=0 then ((M2.remove aB.tmp).1,11) else M2.remove aB.tmp) from HY.out.trans (HE.out.trans ((abw c2).trans (ac3 rfl))))
    generalize M2.remove aB.tmp=r3 at *
    obtain ⟨M3,e3⟩:=r3
    dsimp only at hrm
    clear h4 c2 HY HE
    go_wp2_with fail
    refine hrm.mono ?_
    rintro ee w5 ⟨v,rfl,rfl,h5⟩
    clear hrm
    by_cases c4:e3=0
    ·have hb3:(e3 != 0)=false:=by rw [c4];rfl
     have HF:=uQ (HG.out.trans (ac3 c4))
     clear c4
     go_wp2
     go_ret
     rw [HF.out]
     exact ⟨_,rfl,rfl,h5⟩
    ·have hb3:(e3 != 0)=true:=aj6.2 c4
     have HF:=uQ (HG.out.trans (abw c4))
     clear c4
     go_wp2
     go_ret
     rw [HF.out]
     exact ⟨_,rfl,rfl,h5⟩
   ·have hb3:(e2==11)=false:=adW.2 c3
    have HF:=uQ (show aB.write M s b=(M2,e2) from HY.out.trans (HE.out.trans ((abw c2).trans (abw c3))))
    clear c2 c3
    go_wp2
    go_ret
    rw [HF.out]
    exact ⟨_,rfl,rfl,h4⟩
  subst c2
  have hsy:=H7 ok2 h4 aB.tmp
  have wo:=ok2.sync aB.tmp
  have HG:=uQ (show aB.write M s b=(if (M2.sync aB.tmp).2=0 then (M2.sync aB.tmp).1.rename aB.tmp s else M2.sync aB.tmp) from HY.out.trans (HE.out.trans (ac3 rfl)))
  generalize M2.sync aB.tmp=r3 at *
  obtain ⟨M3,e3⟩:=r3
  dsimp only at hsy wo
  clear h4 HY HE
  go_wp2_with fail
  refine hsy.mono ?_
  rintro ee w5 ⟨v,rfl,rfl,h5⟩
  clear hsy
  by_cases c4:e3=0
  rotate_left
  ·have hb3:(e3 != 0)=true:=aj6.2 c4
   have HF:=uQ (show aB.write M s b=(M3,e3) from HG.out.trans (abw c4))
   clear c4
   go_wp2
   go_ret
   rw [HF.out]
   exact ⟨_,rfl,rfl,h5⟩
  subst c4
  have hre:=Wu wo oQ h5 aB.tmp s Hs.out
  have HF:=uQ (show aB.write M s b=M3.rename aB.tmp s from HG.out.trans (ac3 rfl))
  generalize M3.rename aB.tmp s=r4 at *
  obtain ⟨M4,e4⟩:=r4
  dsimp only at hre
  clear h5
  go_wp2_with fail
  refine hre.mono ?_
  rintro ee w6 ⟨v,rfl,rfl,h6⟩
  clear hre
  go_wp2
  go_ret
  rw [HF.out]
  exact ⟨_,rfl,rfl,h6⟩
end
end Go.Proofs.YtiglchkhikciiaaGreatDoor
namespace Go.aB
open Go.ay
section
variable {s:ByteArray}{b b1 b2:Bs}{K r:Nat}{M:ay}
theorem _root_.Go.Seg.Calm.rename (h:Seg.Calm K r M) (s t:ByteArray):Seg.Calm (K+1) r (M.rename s t).1:=by
 have f:=(Fits.does h.ok h.dst h.used ⟨3,s,t,0,0,[],[]⟩ (show (3:Int)≠8 by decide) (show (3:Int)≠9 by decide)).1
 exact ⟨h.ok.rename s t,h.quiet.rename s t,f.dst,f.used,f.room.trans h.room⟩
theorem acE:good tmp=true:=by decide +kernel
theorem ahv (q:Quiet M) (h:bP M.now s=none):M.size s=(0,9):=by unfold ay.size;rw [q.off,h];rfl
theorem ahw (q:Quiet M){i:Nat} (h:bP M.now s=some i):M.size s=((((M.file i).now.length:Nat):Int),0):=by unfold ay.size;rw [q.off,h];rfl
theorem XT (q:Quiet M) (h:bP M.now s=none):there M s=false:=by unfold there;rw [ahv q h];rfl
theorem XU (q:Quiet M){i:Nat} (h:bP M.now s=some i):there M s=true:=by unfold there;rw [ahw q h];rfl
theorem ae0 (l:Names) (s:ByteArray) (i:Nat):(jP l s i).length≤l.length+1:=by rw [Me];have:=zJ l s;omega
theorem name_eq (ld:ByteArray) (n:Int) (h1:0≤n) (h2:n<1048576):(name ld n).data.toList=ld.data.toList++Seg.gK n.toNat 8:=by
 have hs:=Seg.KD n h1 h2
 have hne:=pI hs
 unfold name
 rw [abw hne]
 have e:Seg.name n=⟨(Seg.lead++Seg.gK n.toNat 8).toArray⟩:=by unfold Seg.name;rw [abw oQ]
 rw [e]
 rw [ByteArray.data_append,alj,ByteArray.data_extract,Array.toList_extract]
 show _++(List.extract (Seg.lead++Seg.gK n.toNat 8) 4 12)=_
 congr 1
theorem abf (n k:Nat):(Seg.gK n k).all mM=true:=by
 rw [ajE]
 intro c hc
 have:=(ajE.1 (Seg.J8 k n)) c hc
 unfold Seg.lu at this
 rw [ajc,adN,adN]at this
 unfold mM
 have e1:(48:UInt8)≤c:=UInt8.le_iff_toNat_le.2 this.1
 have e2:c≤57:=UInt8.le_iff_toNat_le.2 this.2
 simp [e1,e2]
theorem Dq {ld:ByteArray} (hl:ld.data.toList.length=4) (hg:ld.data.toList.all mM=true) (n:Int) (h1:0≤n) (h2:n<1048576):good (name ld n)=true:=by
 have e:=name_eq ld n h1 h2
 have hs:(name ld n).size=12:=by
  show (name ld n).data.size=12
  rw [← adu,e,aal,hl,Seg.vH]
 unfold good
 rw [hs,e,ajZ,hg,abf]
 rfl
theorem vY {ld:ByteArray} (hl:ld.data.toList=[105,100,120,46]∨ld.data.toList=[117,115,101,46]) (n:Int) (h1:0≤n) (h2:n<1048576):number (name ld n)=(n,true):=by
 have e:=name_eq ld n h1 h2
 have hs:=Seg.FX n h1 h2
 have e2:Seg.name n=⟨(Seg.lead++Seg.gK n.toNat 8).toArray⟩:=by unfold Seg.name;rw [abw oQ]
 rw [e2]at hs
 unfold number
 rw [e]
 rcases hl with hl|hl
 ·rw [hl,ac3 (.inl rfl)];exact hs
 ·rw [hl,ac3 (.inr rfl)];exact hs
theorem yG (n:Int):number (Seg.name n)=(0,false):=by
 unfold number
 rcases GV n with h|⟨_,h⟩
 ·rw [h,abw aN]
 ·rw [h,abw aN]
theorem Vr:number tmp=(0,false):=by
 unfold number
 rw [abw aN]
theorem VB {n:Int}{s:ByteArray} (h:(number s).2=false):other n s=false:=by unfold other;rw [h];rfl
theorem VD {n:Int}{s:ByteArray} (h:number s=(n,true)):other n s=false:=by unfold other;rw [h];simp
theorem zI:idx.data.toList=[105,100,120,46]:=rfl
theorem Ii:use.data.toList=[117,115,101,46]:=rfl
theorem aeF (n:Int) (h1:0≤n) (h2:n<1048576):name idx n≠name use n:=fun e=>by
 have a:=name_eq idx n h1 h2
 rw [e,name_eq use n h1 h2,zI,Ii]at a
 simp at a
theorem NT (m n:Int) (h1:0≤n) (h2:n<1048576):Seg.name m≠name idx n:=fun e=>by
 have a:=vY (.inl zI) n h1 h2
 rw [← e,yG]at a
 simp at a
theorem NU (m n:Int) (h1:0≤n) (h2:n<1048576):Seg.name m≠name use n:=fun e=>by
 have a:=vY (.inr Ii) n h1 h2
 rw [← e,yG]at a
 simp at a
theorem Uk (n:Int) (h1:0≤n) (h2:n<1048576):name idx n≠tmp:=fun e=>by
 have a:=vY (.inl zI) n h1 h2
 rw [e,Vr]at a
 simp at a
theorem XZ (n:Int) (h1:0≤n) (h2:n<1048576):name use n≠tmp:=fun e=>by
 have a:=vY (.inr Ii) n h1 h2
 rw [e,Vr]at a
 simp at a
end
end Go.aB
namespace Go.Proofs.YtiglchkhikciiaaGreatDoor
open Go Go.Sl Go.ay Go.MapKept Go.RowKit
abbrev lI (b ps:Nat):aG:=pt b (.cells #[ptr ps] 53 (0,0))
section
variable {w0 w:World}{F:List aG}{m K b3 ps pi B:Nat}{M:ay}{n:Int}{uv tv:Value}{mp:aj.Bs→Option Seg.aU}
theorem adh (f:ByteArray) (hf:f.size≤4000000000) (h:Sat w0 w (lI b3 ps::cZ ps n pi uv tv::F)) :
  Calls Tryz.prog 124 #[.string f,ptr b3] w (aO fun v w'=>v = .bool (aB.other n f)∧Sat w0 w' (lI b3 ps::cZ ps n pi uv tv::F)):=by
 have Ho:=uQ (show aB.other n f=((aB.number f).2 && (aB.number f).1 != n) from rfl)
 have hn:=KU f hf h
 generalize aB.number f=q at *
 obtain ⟨x,t⟩:=q
 dsimp only at hn
 clear h
 go_enter Tryz.func124,Tryz.ntmps124
 go_wp2_with fail
 refine hn.mono ?_
 rintro ee w1 ⟨v,rfl,rfl,h1⟩
 clear hn
 cases t with
 |false=>
  go_wp2_with fail
  go_ret
  exact ⟨_,rfl,by rw [Ho.out];rfl,h1⟩
 |true=>
  have e1:w1.cell? ⟨b3,0,none⟩=some (.pointer (some ⟨ps,0,none⟩)):=h1.cellP aT 0 rfl
  have e2:w1.cell? ⟨ps,0,none⟩=some (.int .i64 n):=h1.cellP aZ 0 rfl
  go_wp2_with fail
  go_ret
  exact ⟨_,rfl,by rw [Ho.out];rfl,h1⟩
theorem afa (hM:M.Ok K) (s:ByteArray) (b:aj.Bs):(aB.fill M s b).1.Ok (K+3):=by
 unfold aB.fill
 split
 ·split
  ·exact ((hM.append _ _).sync _).rename _ _
  ·exact ((hM.append _ _).sync _).mono oQ
 ·split
  ·split
   ·exact ((hM.append _ _).remove _).mono oQ
   ·exact ((hM.append _ _).remove _).mono oQ
  ·exact (hM.append _ _).mono oQ
theorem Vy (hM:M.Ok K) (s:ByteArray) (b:aj.Bs):(aB.write M s b).1.Ok (K+5):=by
 have hr:(aB.qY M).1.Ok (K+1):=by
  unfold aB.qY
  split
  ·exact hM.remove _
  ·exact hM.mono oQ
 unfold aB.write
 split
 ·split
  ·exact afa (hr.create _) _ _
  ·exact (hr.create _).mono oQ
 ·exact hr.mono oQ
theorem FP {ld:ByteArray} (hl:ld.data.toList.length=4) (hg:ld.data.toList.all mM=true) (h1:0≤n) (h2:n<1048576):(aB.name ld n).size≤24∧((aB.name ld n).toList==[])=false:=by
 have h:=aB.Dq hl hg n h1 h2
 unfold good at h
 simp only [ajc,adN]at h
 refine ⟨h.1.2,?_⟩
 rw [adW,ByteArray.toList_eq]
 intro e
 have:=aje List.length e
 rw [adu]at this
 have h3:(aB.name ld n).size=0:=this
 omega
end
section
variable {w0 w:World}{F:List aG}{m K b3 ps pi B:Nat}{M:ay}{n:Int}{uv tv:Value}{mp:aj.Bs→Option Seg.aU}
set_option maxRecDepth 20000 in
theorem ahR (hM:M.Ok K) (hK:K+500≤1099511627776) (hno:∀ f∈M.list,f.size≤4000000000) (h:Sat w0 w (aH m M::lI b3 ps::cZ ps n pi uv tv::F)) :
  Calls Tryz.prog 56 #[ptr m,.func (.func 124) #[] #[ptr b3]] w (aO fun v w'=>v=errno (aB.sweep (aB.other n) M.list M).2∧Sat w0 w' (aH m (aB.sweep (aB.other n) M.list M).1::lI b3 ps::cZ ps n pi uv tv::F)):=by
 have hls:=Dk hM h
 have Hlen:=uQ (LJ hM)
 have Hn:=uQ hno;have HK:=uQ hK;have HM:=uQ hM
 clear hno hM hK
 generalize M.list=l at *
 obtain ⟨R,hR⟩:∃ R,aB.sweep (aB.other n) l M=R:=⟨_,rfl⟩
 have HR:=uQ hR
 rw [hR]
 clear hR
 go_enter Tryz.func56,Tryz.ntmps56
 go_wp2_with fail
 refine hls.mono ?_
 rintro e w1 ⟨v,rfl,hS,_⟩
 clear hls h
 obtain ⟨a,c,rfl⟩:=Mc (Sat.rd hS)
 go_wp2_with fail
 go_loopg [11] l.length (fun g iq wr=>∃ (i:Nat) (M2:ay),g=l.length - i∧i≤l.length∧iq = .int .i64 i∧(aB.sweep (aB.other n) (l.drop i) M2=R∧M2.Ok (K+i))∧Sat w0 wr (aC 9 1 (.slice a l.length c) (strs l)::aH m M2::lI b3 ps::cZ ps n pi uv tv::F))
 case atStart=>exact ⟨0,M,rfl,afm _,rfl,⟨by rw [alu];exact HR.out,HM.out⟩,hS⟩
 case round=>
  obtain ⟨i,M2,rfl,hi,rfl,⟨hsw,hok⟩,hS2⟩:=hrel
  clear hS
  by_cases hlt:i<l.length
  ·have c1:(i:Int)<(l.length:Int):=by omega
   have hwi:IntKind.i64.wrap ((i:Int)+1)=(i:Int)+1:=acI _ (by have:=Hlen.out;omega)
   obtain ⟨s,hs⟩:∃ s,l[i]?=some s:=⟨_,aak hlt⟩
   obtain ⟨bk,off,rfl,hc⟩:=Dv (Sat.rd hS2) hs
   have hsz:=Hn.out s (abA hs)
   have hd:l.drop i=s::l.drop (i+1):=by
    rw [ajX hlt]
    rw [aak hlt]at hs
    cases hs;rfl
   rw [hd]at hsw
   have bT:=uQ hlt;have bU:=uQ hok
   have hcl:=adh s hsz (hS2.sb:Sat w0 wr (lI b3 ps::cZ ps n pi uv tv::aC 9 1 (.slice (some ⟨bk,off,none⟩) l.length c) (strs l)::aH m M2::F))
   cases hso:aB.other n s with
   |false=>
    have nM:=uQ (show aB.sweep (aB.other n) (l.drop (i+1)) M2=R by unfold aB.sweep at hsw;rwa [abw (by rw [hso];decide)]at hsw)
    rw [hso]at hcl
    clear hs hlt hi hso hsw hd hok
    go_wp2_with fail
    refine hcl.mono ?_
    rintro e w2 ⟨v,rfl,rfl,hS3⟩
    clear hS2 hc hcl
    go_wp2_with fail
    go_roundg (l.length - (i+1))
    case measure=>have:=bT.out;omega
    case rel=>exact ⟨i+1,M2,rfl,aiy bT.out,by first|rfl|go_num,⟨nM.out,bU.out.mono oQ⟩,hS3.sb⟩
   |true=>
    have nM:=uQ (show (if (M2.remove s).2=0 then aB.sweep (aB.other n) (l.drop (i+1)) (M2.remove s).1 else M2.remove s)=R by unfold aB.sweep at hsw;rwa [ac3 hso]at hsw)
    rw [hso]at hcl
    have xF:=uQ (fun (w':World) (hw:Sat w0 w' (aH m M2::lI b3 ps::cZ ps n pi uv tv::aC 9 1 (.slice (some ⟨bk,off,none⟩) l.length c) (strs l)::F))=>yJ hok (by have:=HK.out;have:=Hlen.out;omega) hw s)
    have l7:=uQ (hok.remove s)
    generalize M2.remove s=q at *
    obtain ⟨M3,q3⟩:=q
    dsimp only at xF l7 nM
    clear hlt hi hso hsw hd hok
    go_wp2_with fail
    refine hcl.mono ?_
    rintro e w2 ⟨v,rfl,rfl,hS3⟩
    clear hS2 hcl
    have hS4:Sat w0 w2 (aC 9 1 (.slice (some ⟨bk,off,none⟩) l.length c) (strs l)::aH m M2::lI b3 ps::cZ ps n pi uv tv::F):=hS3.sb
    obtain ⟨ED,off',Ce,hc'⟩:=Dv (Sat.rd hS4) hs
    cases Ce
    by_cases c3:q3=0
    ·have hb1:(q3 != 0)=false:=by rw [c3];rfl
     have kN:=uQ (show aB.sweep (aB.other n) (l.drop (i+1)) M3=R from (ac3 c3).symm.trans nM.out)
     clear c3 hc hs nM
     go_wp2_with fail
     refine (xF.out _ (hS3.sb)).mono ?_
     rintro e w3 ⟨v,rfl,rfl,hS5⟩
     clear hS3 hS4 hc'
     go_wp2_with fail
     go_roundg (l.length - (i+1))
     case measure=>have:=bT.out;omega
     case rel=>exact ⟨i+1,M3,rfl,aiy bT.out,by first|rfl|go_num,⟨kN.out,l7.out⟩,hS5.sb⟩
    ·have hb1:(q3 != 0)=true:=aj6.2 c3
     have kN:=uQ (show (M3,q3)=R from (abw c3).symm.trans nM.out)
     clear c3 hc hs nM
     go_wp2_with fail
     refine (xF.out _ (hS3.sb)).mono ?_
     rintro e w3 ⟨v,rfl,rfl,hS5⟩
     clear hS3 hS4 hc'
     go_wp2_with fail
     go_ret
     exact ⟨_,rfl,by rw [← kN.out];rfl,by rw [← kN.out];exact hS5.sb⟩
  ·have c1:¬ (i:Int)<(l.length:Int):=by omega
   obtain rfl:i=l.length:=by omega
   have kN:=uQ (show (M2,0)=R by rw [ak9]at hsw;exact hsw)
   clear hlt hi hsw hok
   go_wp2_with fail
   go_ret
   exact ⟨_,rfl,by rw [← kN.out];rfl,by rw [← kN.out];exact hS2.drop⟩
set_option maxRecDepth 20000 in
theorem adi (hM:M.Ok K) (hK:K+600≤1099511627776) (hn0:0≤n) (hn1:n<1048576) (kv:List (aj.Bs×Seg.aU)) (hl:Tab.Lists mp kv) (hB:B≤13000000) (hk:∀ q∈kv,q.1.length=32) (us:List Rep.Use) (hoi:aS.Ok 3 true (kv.map Rep.iY)) (hou:aS.Ok 3 false (us.map Rep.jc))
  (bi bu:aj.Bs) (hbi:bi=aS.book Xx.sum aS.qR true (kv.map Rep.iY)) (hbu:bu=aS.book Xx.sum aS.qU false (us.map Rep.jc))
  (hno:∀ f∈(aB.write (aB.write M (aB.name aB.idx n) bi).1 (aB.name aB.use n) bu).1.dN.1.list,f.size≤4000000000)
  (h:Sat w0 w (cZ ps n pi uv tv::aJ pi mp B::aC 73 3 uv (us.flatMap bI)::aH m M::F)) :
  Calls Tryz.prog 70 #[ptr m,ptr ps] w (aO fun v w'=>v=errno (aB.save M n bi bu).2∧Sat w0 w' (cZ ps n pi uv tv::aJ pi mp B::aC 73 3 uv (us.flatMap bI)::aH m (aB.save M n bi bu).1::F)):=by
 obtain ⟨z1,z2⟩:=FP (ld:=aB.idx) rfl aN hn0 hn1
 obtain ⟨z3,_⟩:=FP (ld:=aB.use) rfl aN hn0 hn1
 have hkl:kv.length≤13000000:=by have:=hoi.len;rw [aaJ]at this;omega
 have HM:=uQ hM;have HK:=uQ hK;have Hl:=uQ hl;have HB:=uQ hB;have Hk:=uQ hk;have y8:=uQ hoi;have y9:=uQ hou;have Hno:=uQ hno;have jZ:=uQ hkl
 have YL:=uQ hbi;have YO:=uQ hbu;have nN:=uQ z1;have ZF:=uQ z3
 have Ej:=uQ (fun (w':World) (R:List aG) (hw:Sat w0 w' R)=>Fp n hw)
 have ZA:=uQ (fun (w':World) (R:List aG) (hw:Sat w0 w' R)=>Ih n hw)
 have HS:=uQ (show aB.save M n bi bu=if (aB.write M (aB.name aB.idx n) bi).2=0 then aB.NK (aB.write M (aB.name aB.idx n) bi).1 n bu else aB.write M (aB.name aB.idx n) bi from rfl)
 clear hM hK hl hB hk hoi hou hno hbi hbu hkl z1 z3
 generalize hni:aB.name aB.idx n=ni at *
 generalize hnu:aB.name aB.use n=nu at *
 have Ze:=uQ hnu
 clear hni hnu
 go_enter Tryz.func70,Tryz.ntmps70
 go_wp2_with (with_reducible apply eG)
 refine ⟨eH h ah ah ?_⟩
 intro b3 w3 h3
 replace h3:Sat w0 w3 (lI b3 ps::cZ ps n pi uv tv::aJ pi mp B::aC 73 3 uv (us.flatMap bI)::aH m M::F):=h3
 clear h
 have e1:w3.cell? ⟨b3,0,none⟩=some (.pointer (some ⟨ps,0,none⟩)):=h3.cellP aT 0 rfl
 have e2:w3.cell? ⟨ps,1,none⟩=some (.pointer (some ⟨pi,0,none⟩)):=h3.cellP aZ 1 rfl
 have e3:w3.cell? ⟨ps,0,none⟩=some (.int .i64 n):=h3.cellP aZ 0 rfl
 go_wp2_with fail
 refine (Ej.out _ _ h3).mono ?_
 rintro ee w4 ⟨v,rfl,rfl,h4⟩
 clear h3 e1 e2 e3
 have e1:w4.cell? ⟨b3,0,none⟩=some (.pointer (some ⟨ps,0,none⟩)):=h4.cellP aT 0 rfl
 have e2:w4.cell? ⟨ps,1,none⟩=some (.pointer (some ⟨pi,0,none⟩)):=h4.cellP aZ 1 rfl
 go_wp2_with fail
 refine (adf Hl.out HB.out jZ.out Hk.out (h4.sb:Sat w0 w4 (aJ pi mp B::lI b3 ps::cZ ps n pi uv tv::aC 73 3 uv (us.flatMap bI)::aH m M::F))).mono ?_
 rintro ee w5 ⟨rv,rfl,h5⟩
 clear h4 e1 e2
 go_wp2_with fail
 refine (aaz kv Hk.out y8.out (fun w hw=>Sat.rd hw) h5).mono ?_
 rintro ee w6 ⟨v,rfl,iv,rfl,h6⟩
 clear h5
 rw [← YL.out]at h6
 replace h6:Sat w0 w6 (iM iv bi::lI b3 ps::cZ ps n pi uv tv::aJ pi mp B::aC 73 3 uv (us.flatMap bI)::aH m M::F):=h6.sb
 have e1:w6.cell? ⟨b3,0,none⟩=some (.pointer (some ⟨ps,0,none⟩)):=h6.cellP aZ 0 rfl
 have e2:w6.cell? ⟨ps,2,none⟩=some uv:=h6.cellP fG 2 rfl
 go_wp2_with fail
 refine (aaG us y9.out (fun w hw=>Sat.rd (hw.sb:Sat w0 w (aC 73 3 uv (us.flatMap bI)::iM iv bi::lI b3 ps::cZ ps n pi uv tv::aJ pi mp B::aH m M::F))) h6).mono ?_
 rintro ee w7 ⟨v,rfl,uw,rfl,h7⟩
 clear h6 e1 e2
 rw [← YO.out]at h7
 have e1:w7.cell? ⟨b3,0,none⟩=some (.pointer (some ⟨ps,0,none⟩)):=h7.cellP fG 0 rfl
 have e3:w7.cell? ⟨ps,0,none⟩=some (.int .i64 n):=h7.cellP iZ 0 rfl
 go_wp2_with fail
 refine (Ej.out _ _ h7).mono ?_
 rintro ee w8 ⟨v,rfl,rfl,h8⟩
 clear h7 e1 e3
 replace h8:Sat w0 w8 (aH m M::iM uw bu::iM iv bi::lI b3 ps::cZ ps n pi uv tv::aJ pi mp B::aC 73 3 uv (us.flatMap bI)::F):=h8.sb
 have oK:=(RS.MG (h8.sb:Sat w0 w8 (iM iv bi::aH m M::iM uw bu::lI b3 ps::cZ ps n pi uv tv::aJ pi mp B::aC 73 3 uv (us.flatMap bI)::F)))
 obtain ⟨ia,il,ic,rfl,_,_⟩:=oK.cap
 have hw1:=Ui HM.out (by have:=HK.out;omega) ni (by have:=nN.out;omega) bi (bv:= .slice ia il ic) (fun w hw=>JJ (hw.sb:Sat w0 w (iM (.slice ia il ic) bi::iM uw bu::lI b3 ps::cZ ps n pi uv tv::aJ pi mp B::aC 73 3 uv (us.flatMap bI)::F))) ⟨_,_,_,rfl⟩ h8
 have ok1:=Vy HM.out ni bi
 clear oK
 generalize aB.write M ni bi=r1 at *
 obtain ⟨M1,q1⟩:=r1
 dsimp only at hw1 ok1 HS Hno
 go_wp2_with fail
 refine hw1.mono ?_
 rintro ee w9 ⟨v,rfl,rfl,h9⟩
 clear hw1 h8
 by_cases c1:q1=0
 rotate_left
 ·have hb1:(q1 != 0)=true:=aj6.2 c1
  have HF:=uQ (show aB.save M n bi bu=(M1,q1) from HS.out.trans (abw c1))
  clear c1
  go_wp2_with fail
  go_ret
  exact ⟨_,rfl,by rw [HF.out];rfl,by rw [HF.out];exact h9.sb⟩
 ·have AB:=uQ (show aB.save M n bi bu=(if (aB.write M1 (aB.name aB.use n) bu).2=0 then aB.NM (aB.write M1 (aB.name aB.use n) bu).1 n else aB.write M1 (aB.name aB.use n) bu) from HS.out.trans (ac3 c1))
  rw [Ze.out]at AB
  subst c1
  have e1:w9.cell? ⟨b3,0,none⟩=some (.pointer (some ⟨ps,0,none⟩)):=h9.cellP iZ 0 rfl
  have e3:w9.cell? ⟨ps,0,none⟩=some (.int .i64 n):=h9.cellP (aW iZ) 0 rfl
  go_wp2_with fail
  refine (ZA.out _ _ h9).mono ?_
  rintro ee w10 ⟨v,rfl,rfl,h10⟩
  clear h9 e1 e3
  replace h10:Sat w0 w10 (aH m M1::iM uw bu::lI b3 ps::cZ ps n pi uv tv::aJ pi mp B::aC 73 3 uv (us.flatMap bI)::F):=h10.sb
  have oK:=(RS.MG (h10.sb:Sat w0 w10 (iM uw bu::aH m M1::lI b3 ps::cZ ps n pi uv tv::aJ pi mp B::aC 73 3 uv (us.flatMap bI)::F)))
  obtain ⟨ua,ul,uc,rfl,_,_⟩:=oK.cap
  have hw2:=Ui ok1 (by have:=HK.out;omega) nu (by have:=ZF.out;omega) bu (bv:= .slice ua ul uc) (fun w hw=>JJ (hw.sb:Sat w0 w (iM (.slice ua ul uc) bu::lI b3 ps::cZ ps n pi uv tv::aJ pi mp B::aC 73 3 uv (us.flatMap bI)::F))) ⟨_,_,_,rfl⟩ h10
  have ok2:=Vy ok1 nu bu
  clear oK HS
  generalize aB.write M1 nu bu=r2 at *
  obtain ⟨M2,q2⟩:=r2
  dsimp only at hw2 ok2 AB Hno
  go_wp2_with fail
  refine hw2.mono ?_
  rintro ee jd ⟨v,rfl,rfl,h11⟩
  clear hw2 h10
  by_cases c2:q2=0
  rotate_left
  ·have hb1:(q2 != 0)=true:=aj6.2 c2
   have HF:=uQ (show aB.save M n bi bu=(M2,q2) from AB.out.trans (abw c2))
   clear c2
   go_wp2_with fail
   go_ret
   exact ⟨_,rfl,by rw [HF.out];rfl,by rw [HF.out];exact h11.sb⟩
  ·have HS2:=uQ (show aB.save M n bi bu=(if M2.dN.2=0 then aB.sweep (aB.other n) M2.dN.1.list M2.dN.1 else M2.dN) from AB.out.trans (ac3 c2))
   subst c2
   have hsd:=Ob ok2 h11
   have wo:=ok2.dN
   clear AB
   generalize M2.dN=r3 at *
   obtain ⟨M3,q3⟩:=r3
   dsimp only at hsd wo HS2 Hno
   go_wp2_with fail
   refine hsd.mono ?_
   rintro ee w12 ⟨v,rfl,rfl,h12⟩
   clear hsd h11
   by_cases c3:q3=0
   rotate_left
   ·have hb1:(q3 != 0)=true:=aj6.2 c3
    have HF:=uQ (show aB.save M n bi bu=(M3,q3) from HS2.out.trans (abw c3))
    clear c3
    go_wp2_with fail
    go_ret
    exact ⟨_,rfl,by rw [HF.out];rfl,by rw [HF.out];exact h12.sb⟩
   ·have HF:=uQ (show aB.save M n bi bu=aB.sweep (aB.other n) M3.list M3 from HS2.out.trans (ac3 c3))
    subst c3
    have hsw:=ahR wo (by have:=HK.out;omega) Hno.out (h12.sb:Sat w0 w12 (aH m M3::lI b3 ps::cZ ps n pi uv tv::aJ pi mp B::aC 73 3 uv (us.flatMap bI)::F))
    generalize aB.sweep (aB.other n) M3.list M3=r4 at *
    obtain ⟨M4,q4⟩:=r4
    dsimp only at hsw HF
    go_wp2_with fail
    refine hsw.mono ?_
    rintro ee jF ⟨v,rfl,rfl,h13⟩
    clear hsw
    go_wp2_with fail
    go_ret
    exact ⟨_,rfl,by rw [HF.out];rfl,by rw [HF.out];exact h13.sb⟩
end
end Go.Proofs.YtiglchkhikciiaaGreatDoor
namespace Go.Rep
open Go.aj (Bs fO aP jf encs iw)
open Go.Seg (aU mag)
open Go.Tab
def dJ:Nat→List (List aP)→List Row
 |_,[]=>[]
 |k,es::C=>((jf es 8).map fun f=>((k:Int),f))++dJ (k+1) C
section
variable {C:List (List aP)}{bt:Told}{k n:Nat}
theorem Gw:∀ (k:Nat) (C:List (List aP)),(dJ k C).map (·.2.e)=C.flatten
 |_,[]=>rfl
 |k,es::C=>by
  unfold dJ
  rw [aey,aj9,Gw (k+1) C,ale]
  congr 1
  exact aj.Ky es 8
theorem WT:∀ (C:List (List aP)) (k:Nat),(∀ j es,C[j]?=some es→bt ((k+j:Nat):Int)=(mag++encs es,0)∧∀ x∈es,iw x)→rowsOf bt ((List.range' k C.length).map fun i=>((i:Nat):Int))=dJ k C
 |[],k,_=>rfl
 |es::C,k,h=>by
  have h0:=h 0 es rfl
  rw [akc]at h0
  have ih:=WT C (k+1) fun j fs hj=>by
   have:=h (j+1) fs (by simpa using hj)
   rwa [show k+(j+1)=k+1+j by omega]at this
  rw [aja,List.range'_succ,ag8]
  show ((aj.scan (bt (k:Int)).1).1.map fun f=>((k:Int),f))++rowsOf bt ((List.range' (k+1) C.length).map fun i=>((i:Nat):Int))=_
  rw [ih,h0.1,aj.NP es h0.2]
  rfl
def nC (es:List aP):Bool:=match es.getLast? with
 |some x=>x.tag==2
 |none=>false
theorem abE (es:List aP) (a:Nat):vK (jf es a)=nC es:=by
 unfold vK nC
 have h:(jf es a).getLast?.map (·.e)=es.getLast?:=by rw [← List.getLast?_map,aj.Ky]
 cases hl:(jf es a).getLast? with
 |none=>rw [hl]at h;rw [← h];rfl
 |some f=>rw [hl]at h;rw [← h];rfl
theorem XF {ns:List Int} (hl:ns.length=C.length) (h:∀ j es,C[j]?=some es→bt (ns.getD j 0)=(mag++encs es,0)∧∀ x∈es,iw x):∀ i,i≤C.length →
  ∃ n,split bt ns i=(n,0)∧n≤i∧(n≠0→∃ es,C[n - 1]?=some es∧nC es=true)∧∀ j es,n≤j→j<i→C[j]?=some es→nC es=false
 |0,_=>⟨0,rfl,acy _,fun h=>absurd rfl h,fun j es h1 h2=>by omega⟩
 |i+1,hi=>by
  obtain ⟨es,he⟩:∃ es,C[i]?=some es:=⟨_,aak oQ⟩
  obtain ⟨h1,h2⟩:=h i es he
  have hu:split bt ns (i+1)=if nC es=true then (i+1,0) else split bt ns i:=by
   rw [split,h1,abw (by simp),aj.NP es h2]
   simp only [abE,true_and]
  rw [hu]
  cases hc:nC es with
  |true=>exact ⟨i+1,rfl,acy _,fun _=>⟨es,he,hc⟩,fun j fs a b=>by omega⟩
  |false=>
   obtain ⟨n,a,b,c,d⟩:=XF hl h i oQ
   refine ⟨n,a,by omega,c,fun j fs p q r=>?_⟩
   by_cases e:j=i
   ·subst e;rw [he]at r;cases r;exact hc
   ·exact d j fs p oQ r
theorem aaq {ns:List Int} (h:∀ (j:Nat) (s:Int),ns[j]?=some s→∃ es,bt s=(mag++encs es,0)∧∀ x∈es,iw x):bad bt ns=none:=by
 induction ns with
 |nil=>rfl
 |cons s ns ih=>
  obtain ⟨es,h1,h2⟩:=h 0 s rfl
  unfold bad
  rw [h1,abw (by simp),aj.NP es h2]
  simp only
  rw [abw (by simp)]
  exact ih fun j t hj=>h (j+1) t (by simpa using hj)
def nD:List aP→Bs→Option aP
 |[],_=>none
 |x::l,k=>match nD l k with
  |some y=>some y
  |none=>if x.tag≠2∧x.key=k then some x else none
theorem Vb:∀ (l:List Row) (k:Bs),(newest l k).map (·.2.e)=nD (l.map (·.2.e)) k
 |[],_=>rfl
 |r::l,k=>by
  have ih:=Vb l k
  unfold newest
  rw [ag8]
  conv=>rhs;unfold nD
  rw [← ih]
  cases newest l k with
  |some x=>rfl
  |none=>
   simp only [akK]
   unfold eu fZ
   split <;> rfl
theorem ad6 (a b:List aP) (k:Bs):nD (a++b) k=match nD b k with
  |some y=>some y
  |none=>nD a k:=by
 induction a with
 |nil=>cases h:nD b k <;> simp [nD,h]
 |cons x a ih=>
  rw [ajN]
  conv=>lhs;unfold nD
  rw [ih]
  cases h:nD b k with
  |some y=>rfl
  |none=>simp only;conv=>rhs;unfold nD
theorem LC (a:List aP) (x:aP) (k:Bs):nD (a++[x]) k=if x.tag≠2∧x.key=k then some x else nD a k:=by
 rw [ad6]
 unfold nD
 simp only [nD]
 split
 ·rename_i y h;split at h
  ·rename_i h2;rw [ac3 h2];exact h.symm
  ·cases h
 ·rename_i h;split at h
  ·cases h
  ·rename_i h2;rw [abw h2]
theorem Gx:∀ (C:List (List aP)) (k:Nat){r:Row},r∈dJ k C→∃ j es,C[j]?=some es∧r.1=((k+j:Nat):Int)∧r.2∈jf es 8
 |[],_,r,h=>by cases h
 |es::C,k,r,h=>by
  unfold dJ at h
  rcases ajk.1 h with h|h
  ·obtain ⟨f,hf,rfl⟩:=acK.1 h
   exact ⟨0,es,rfl,by simp,hf⟩
  ·obtain ⟨j,fs,h1,h2,h3⟩:=Gx C (k+1) h
   exact ⟨j+1,fs,by simpa using h1,by rw [h2];congr 1;omega,h3⟩
theorem EY:∀ (es:List aP) (a:Nat){f:fO},f∈jf es a→∃ u v,es=u++f.e::v∧f.at_=a+(encs u).length∧f.size=(aj.encode f.e).1.length
 |[],_,f,h=>by cases h
 |x::es,a,f,h=>by
  unfold jf at h
  rcases aer.1 h with rfl|h
  ·exact ⟨[],es,rfl,rfl,rfl⟩
  ·obtain ⟨u,v,h1,h2,h3⟩:=EY es _ h
   refine ⟨x::u,v,by rw [h1];rfl,?_,h3⟩
   have e:encs (x::u)=(aj.encode x).1++encs u:=rfl
   rw [h2,e,aal];omega
end
end Go.Rep
namespace Go.Seg
open Go.ay
open Go.aj (encs iw jf)
section
variable {n:Nat}{M:ay}{L:Log}{C:List (List aj.aP)}
theorem ah6 (n i:Nat):((List.range' 0 n).map fun i=>((i:Nat):Int)).take i=(List.range' 0 (min i n)).map fun i=>((i:Nat):Int):=by
 rw [← ala]
 congr 1
 apply List.ext_getElem?
 intro j
 rw [ajl]
 by_cases h1:j<n
 ·by_cases h2:j<i
  ·rw [ac3 h2,List.getElem?_range' h1,List.getElem?_range' oQ]
  ·rw [abw h2,ajH (by rw [alv];omega)]
 ·rw [ajH (by rw [alv];omega),ajH (by rw [alv];omega)]
  split <;> rfl
end
structure HG (K r E B n:Nat) (L:Log) (M:ay) (C:List (List aj.aP)):Prop where
 keeps:Keeps K r L M
 len:L.l.length=C.length
 at_:∀ (k:Nat) (es:List aj.aP),C[k]?=some es→L.l[k]?=some ((k:Int),8+((encs es).length:Int))
 file:∀ (k:Nat) (es:List aj.aP),C[k]?=some es→M.all (name k)=(mag++encs es,0)
 good:∀ es∈C,(∀ x∈es,iw x)∧es≠[]
 count:C.length≤n
 used:M.used≤n * 400+B
 names:M.now.length≤n+E
 cover:∀ (k i:Nat),k<1048576→bP M.now (name (k:Int))=some i→k<C.length
section
variable {K r E B n:Nat}{L:Log}{M:ay}{C:List (List aj.aP)}
theorem HG.mono {K' E' B' n':Nat} (h:HG K r E B n L M C) (h1:K≤K') (h2:E≤E') (h3:B≤B') (h4:n≤n'):HG K' r E' B' n' L M C:=
 ⟨h.keeps.mono h1,h.len,h.at_,h.file,h.good,adr h.count h4,adr h.used (Nat.add_le_add (ajT 400 h4) h3),adr h.names oQ,h.cover⟩
theorem HG.next (h:HG K r E B n L M C):L.next=C.length:=by
 unfold Log.next
 cases hl:L.l.getLast? with
 |none=>
  have:=akP.1 hl
  have h2:=h.len
  rw [this]at h2
  simp only [ajn]at h2
  simp only;omega
 |some s=>
  rw [ajS]at hl
  have hlt:=(abl.1 hl).1
  have h2:=h.len
  have hc:C[L.l.length - 1]?=some (C[L.l.length - 1]'oQ):=aak oQ
  have h3:=h.at_ _ _ hc
  rw [hl]at h3
  cases h3
  simp only;omega
theorem HG.aF (h:HG K r E B n L M C):L.aF.length=C.length∧∀ k,k<C.length→L.aF[k]?=some (k:Int):=by
 unfold Log.aF
 refine ⟨by rw [aaJ];exact h.len,fun k hk=>?_⟩
 rw [aix,h.at_ k _ (aak hk)];rfl
theorem HG.at_k (h:HG K r E B n L M C){k:Nat}{es:List aj.aP} (hk:C[k]?=some es):L.at (k:Int)=some k:=by
 have h1:=h.at_ k es hk
 cases hat:L.at (k:Int) with
 |none=>
  exfalso
  unfold Log.at at hat
  rw [List.findIdx?_eq_none_iff]at hat
  have:=hat _ (abA h1)
  simp at this
 |some i=>
  obtain ⟨h2,s,h3,h4⟩:=Log.Ey hat
  have h5:i<C.length:=by rw [← h.len];exact h2
  have h6:=h.at_ i _ (aak h5)
  rw [h6]at h3
  cases h3
  simp only at h4
  congr 1
  omega
theorem HG.bytes (h:HG K r E B n L M C){k:Nat}{es:List aj.aP} (hk:C[k]?=some es):L.bytes M (k:Int)=(mag++encs es,0):=by
 unfold Log.bytes
 rw [h.at_k hk]
 exact h.file k es hk
theorem HG.size (h:HG K r E B n L M C){k:Nat}{es:List aj.aP} (hk:C[k]?=some es):L.size (k:Int)=((mag++encs es).length:Nat):=by
 unfold Log.size
 rw [h.at_k hk]
 have h1:=h.at_ k es hk
 simp only [adP,h1,Option.getD_some,aal]
 have:mag.length=8:=rfl
 omega
theorem HG.ns (h:HG K r E B n L M C):L.aF=(List.range' 0 C.length).map fun i=>((i:Nat):Int):=by
 obtain ⟨h1,h2⟩:=h.aF
 apply List.ext_getElem?
 intro i
 by_cases hi:i<C.length
 ·rw [h2 i hi,aix,List.getElem?_range' hi];simp
 ·rw [ajH oQ,ajH (by rw [aaJ,alv];omega)]
theorem HG.told (h:HG K r E B n L M C):∀ j es,C[j]?=some es→L.bytes M (L.aF.getD j 0)=(mag++encs es,0)∧∀ x∈es,iw x:=fun j es hj=>by
 have hl:=(abl.1 hj).1
 rw [List.getD,h.aF.2 j hl]
 exact ⟨h.bytes hj,(h.good es (abA hj)).1⟩
theorem HG.rows (h:HG K r E B n L M C) (i:Nat):Rep.rowsOf (fun s=>L.bytes M s) (L.aF.take i)=Rep.dJ 0 (C.take i):=by
 have e:L.aF.take i=(List.range' 0 (C.take i).length).map fun i=>((i:Nat):Int):=by
  rw [h.ns,ah6,acJ]
 rw [e]
 refine Rep.WT (C.take i) 0 fun j es hj=>?_
 have hj':C[j]?=some es:=by
  rw [ajl]at hj
  split at hj
  ·exact hj
  ·cases hj
 rw [aen]
 exact ⟨h.bytes hj',(h.good es (abA hj')).1⟩
theorem HG.bad (h:HG K r E B n L M C) (i:Nat):Rep.bad (fun s=>L.bytes M s) (L.aF.take i)=none:=by
 refine Rep.aaq fun j s hs=>?_
 have hs':L.aF[j]?=some s:=by
  rw [ajl]at hs
  split at hs
  ·exact hs
  ·cases hs
 have hl:j<C.length:=by rw [← h.aF.1];exact (abl.1 hs').1
 have:=h.aF.2 j hl
 rw [hs']at this
 cases this
 exact ⟨_,h.bytes (aak hl),(h.good _ (alo hl)).1⟩
theorem HG.split (h:HG K r E B n L M C):∃ c,Rep.split (fun s=>L.bytes M s) L.aF L.aF.length=(c,0)∧c≤C.length∧(c≠0→∃ es,C[c - 1]?=some es∧Rep.nC es=true)∧∀ j es,c≤j→C[j]?=some es→Rep.nC es=false:=by
 rw [h.aF.1]
 obtain ⟨c,h1,h2,h3,h4⟩:=Rep.XF h.aF.1 h.told C.length (acy _)
 exact ⟨c,h1,h2,h3,fun j es a b=>h4 j es a (abl.1 b).1 b⟩
theorem HG.run (h:HG K r E B n L M C):∃ c,Rep.run (fun s=>L.bytes M s) L.aF = .inr c∧c≤C.length∧(c≠0→∃ es,C[c - 1]?=some es∧Rep.nC es=true)∧∀ j es,c≤j→C[j]?=some es→Rep.nC es=false:=by
 obtain ⟨c,h1,h2⟩:=h.split
 refine ⟨c,?_,h2⟩
 unfold Rep.run
 rw [h1,abw (by simp)]
 exact Rep.W9 (h.bad c)
theorem HG.afW (h:HG K r E B n L M C){r:Rep.Row} (hr:r∈Rep.dJ 0 C):L.read M (Rep.jV r)=(r.2.e,0):=by
 obtain ⟨j,es,h1,h2,h3⟩:=Rep.Gx C 0 hr
 obtain ⟨u,v,h4,h5,h6⟩:=Rep.EY es 8 h3
 obtain ⟨s,⟨e,at_,size⟩⟩:=r
 simp only at h2 h3 h4 h5 h6
 rw [aen]at h2
 subst h2;subst h5;subst h6
 have hx:iw e:=(h.good es (abA h1)).1 e (by rw [h4];simp)
 have hf:=h.file j es h1
 have hm:mag.length=8:=rfl
 have hes:encs es=encs u++((aj.encode e).1++encs v):=by rw [h4,vJ];rfl
 have hrd:=Wi h.keeps.calm.quiet hf (a:=8+(encs u).length) (n:=(aj.encode e).1.length) (by rw [aal,hes,aal,aal];omega)
 have hd:((mag++encs es).drop (8+(encs u).length)).take (aj.encode e).1.length=(aj.encode e).1:=by
  rw [hes,← adR,ak7,aiz (by rw [aal];omega)]
  rw [show 8+(encs u).length - (mag++encs u).length=0 by rw [aal];omega,alu,ajd,ajb (acy _),aiv]
 rw [hd]at hrd
 have hre:=aj.MW hx.1 hx.2 []
 rw [afo]at hre
 unfold Log.read Rep.jV
 simp only [h.at_k h1]
 rw [hrd]
 simp only [hre]
 rw [abw aN,abw aN,abw (by simp)]
theorem HG.append (h:HG K r E B n L M C) (hn:n<1000) (x:aj.aP) (hk:x.key.length=32) (hd:x.data.length≤300) (h0:(aj.encode x).2=0) (hz:(L.append M x).2.2=0∨M.used+400≤M.room∧M.now.length<500) :
  (L.append M x).2.2=0∧(L.append M x).1.1.on=true∧(L.append M x).1.1.limit=L.limit∧HG (K+4) r E B (n+1) (L.append M x).1.1 (L.append M x).1.2 (put C (L.fits (aj.encode x).1.length) x) ∧
   (L.append M x).1.1.read (L.append M x).1.2 (L.append M x).2.1=(x,0)∧(L.append M x).2.1.seg=(put C (L.fits (aj.encode x).1.length) x).length - 1:=by
 have hzz:=abz h0 hk hd
 have hK:=(h.keeps.append x hk).1
 have hu:=h.used
 have hroom:=h.keeps.calm.room
 have hcnt:=h.count
 cases hf:L.fits (aj.encode x).1.length with
 |true=>
  rw [Log.xK h0 hf]at hK hz ⊢
  have hf':=hf
  unfold Log.fits at hf'
  rw [ajc,adN]at hf'
  obtain ⟨s,hl⟩:=h.keeps.log.last hf'.1
  rw [hl]at hf'
  have hl':=hl
  rw [ajS]at hl'
  have hlt:=(abl.1 hl').1
  have hlen:=h.len
  have hne:C≠[]:=by intro e;rw [e,ajn]at hlen;omega
  obtain ⟨c,hc⟩:∃ c,C.length=c+1:=⟨C.length - 1,by omega⟩
  have hcl:C[c]?=some (C.getLastD []):=by
   conv=>lhs;rw [Dh hne]
   rw [adQ (by rw [ajr];omega),ajr,show c - (C.length - 1)=0 by omega];rfl
  generalize hes:C.getLastD []=es at *
  have hat:=h.at_ _ _ hcl
  rw [show L.l.length - 1=c by omega,hat]at hl'
  obtain rfl:((c:Int),8+((encs es).length:Int))=s:=by injection hl'
  obtain ⟨i,hi⟩:=h.keeps.has _ (akj hl)
  simp only at hi
  have hall:=h.file _ _ hcl
  have hrm:M.used+(aj.encode x).1.length≤M.room:=by
   rcases hz with hz|⟨hz,_⟩
   ·rcases tN h.keeps.calm.quiet (name (c:Int)) (aj.encode x).1 with ⟨q1,_⟩|⟨j,q1,⟨q2,q3⟩|⟨q2,q3⟩⟩
    ·rw [hi]at q1;cases q1
    ·unfold Log.grow at hz
     rw [hl]at hz
     simp only [q3]at hz
     rw [abw aN]at hz
     exact absurd (show (11:Int)=0 from hz) aN
    ·omega
   ·omega
  obtain ⟨a1,a2,a3,a4,a5⟩:=Eu h.keeps.calm hi (aj.encode x).1 hrm
  have hmem:es∈C:=abA hcl
  have hE:L.grow M (aj.encode x).1=(({ L with l:=L.l.dropLast++[((c:Int),8+((encs es).length:Int)+((aj.encode x).1.length:Int))] },(M.append (name (c:Int)) (aj.encode x).1).1),⟨(c:Int),8+((encs es).length:Int),(aj.encode x).1.length⟩,0):=by
   unfold Log.grow;rw [hl];simp only [a1,akL]
  rw [hE]at hK ⊢
  simp only at hK ⊢
  rw [hall]at a4
  have hsz:(encs (es++[x])).length=(encs es).length+(aj.encode x).1.length:=by rw [vJ,zx,aal]
  have hput:put C true x=C.dropLast++[es++[x]]:=by unfold put;rw [ac3 rfl,hes]
  rw [hput]
  have hdl:C.dropLast.length=c:=by rw [ajr];omega
  have a4':(M.append (name (c:Int)) (aj.encode x).1).1.all (name (c:Int))=(mag++encs (es++[x]),0):=by rw [a4,vJ,zx];simp
  refine ⟨by first|trivial|rfl,hf'.1,by first|trivial|rfl,⟨hK,?_,?_,?_,?_,?_,?_,?_,?_⟩,?_,?_⟩
  ·simp only [aal,ajr,adX];omega
  ·intro k fs hk'
   have hcl':C[k]?=some fs∧k<c∨k=c∧fs=es++[x]:=by
    rcases akT k c with q|q|q
    ·rw [adV oQ,List.getElem?_dropLast,ac3 oQ]at hk'
     exact .inl ⟨hk',q⟩
    ·subst q
     rw [adQ oQ,hdl,akb]at hk'
     simp at hk'
     exact .inr ⟨rfl,hk'.symm⟩
    ·rw [ajH (by simp only [aal,adX];omega)]at hk';cases hk'
   rcases hcl' with ⟨q1,q2⟩|⟨rfl,rfl⟩
   ·rw [adV (by rw [ajr];omega),List.getElem?_dropLast,ac3 oQ]
    exact h.at_ _ _ q1
   ·rw [adQ (by rw [ajr];omega),ajr,show k - (L.l.length - 1)=0 by omega,hsz]
    simp only [alg,Option.some.injEq,Prod.mk.injEq,true_and]
    omega
  ·intro k fs hk'
   have hcl':C[k]?=some fs∧k<c∨k=c∧fs=es++[x]:=by
    rcases akT k c with q|q|q
    ·rw [adV oQ,List.getElem?_dropLast,ac3 oQ]at hk'
     exact .inl ⟨hk',q⟩
    ·subst q
     rw [adQ oQ,hdl,akb]at hk'
     simp at hk'
     exact .inr ⟨rfl,hk'.symm⟩
    ·rw [ajH (by simp only [aal,adX];omega)]at hk';cases hk'
   rcases hcl' with ⟨q1,q2⟩|⟨rfl,rfl⟩
   ·rw [a5 _ (fun e=>by have:=Dt oQ oQ oQ oQ e;omega)]
    exact h.file _ _ q1
   ·exact a4'
  ·intro fs hfs
   rcases ajk.1 hfs with hfs|hfs
   ·exact h.good fs ((List.dropLast_subset _ hfs))
   ·rw [aiR.1 hfs]
    refine ⟨fun y hy=>?_,by simp⟩
    rcases ajk.1 hy with hy|hy
    ·exact (h.good es hmem).1 y hy
    ·rw [aiR.1 hy];exact ⟨h0,hk⟩
  ·simp only [aal,adX];omega
  ·rw [a3];omega
  ·rw [a2];have:=h.names;omega
  ·intro k j hkk hj
   rw [a2]at hj
   have:=h.cover k j hkk hj
   simp only [aal,adX];omega
  ·exact Wj (s:=((c:Int),8+((encs es).length:Int)+((aj.encode x).1.length:Int))) hK (by simp) a4' ⟨h0,hk⟩
  ·simp only [aal,adX];omega
 |false=>
  rw [Log.xJ h0 hf]at hK hz ⊢
  obtain ⟨s1,s2,s3,s4,s5⟩:=h.keeps.shut
  have hlim:=Log.ahu L M
  have hB:L.begin M (aj.encode x).1=(L.shut M).1.1.je (L.shut M).1.2 (aj.encode x).1:=by unfold Log.begin;rw [ac3 s2]
  rw [hB]at hK hz ⊢
  have hnx:(L.shut M).1.1.next=C.length:=by rw [← h.next];unfold Log.next;rw [s3]
  have acP:=s5.all
  have ji:=s5.now
  have CW:=s5.used
  have ajz:=s1.calm.room
  generalize (L.shut M).1.1=L1 at *
  generalize (L.shut M).1.2=M1 at *
  have hnn:bP M1.now (name (C.length:Int))=none:=by
   cases hq:bP M1.now (name (C.length:Int)) with
   |none=>rfl
   |some i=>
    exfalso
    rw [ji]at hq
    have:=h.cover C.length i oQ hq
    omega
  have ac9:M1.now.length<500:=by
   rcases hz with hz|⟨_,hz⟩
   ·rcases BD s1.calm.quiet (name (C.length:Int)) with ⟨q1,_,_⟩|⟨_,_,q3,_⟩
    ·unfold Log.je at hz
     rw [hnx,abw oQ,ac3 q1]at hz
     exact absurd hz q1
    ·exact q3
   ·rw [ji];exact hz
  obtain ⟨c1,c2,c3,c4,c5⟩:=EL s1.calm (KD (C.length:Int) oQ oQ) hnn ac9
  have hc1:=s1.calm.create (name (C.length:Int))
  have hself:bP (M1.create (name (C.length:Int))).1.now (name (C.length:Int))=some M1.files.length:=by rw [c2];exact zN s1.calm.ok.fH.lF _ _
  have hrm:(M1.create (name (C.length:Int))).1.used+(mag++(aj.encode x).1).length≤(M1.create (name (C.length:Int))).1.room:=by
   rcases hz with hz|⟨hz,_⟩
   ·rcases tN hc1.quiet (name (C.length:Int)) (mag++(aj.encode x).1) with ⟨q1,_⟩|⟨j,q1,⟨q2,q3⟩|⟨q2,q3⟩⟩
    ·rw [hself]at q1;cases q1
    ·unfold Log.je at hz
     rw [hnx,abw oQ,abw (fun hh=>hh c1)]at hz
     simp only [q3]at hz
     rw [abw aN]at hz
     simp only [akL]at hz
     split at hz
     ·exact absurd hz aN
     ·rename_i g;exact absurd hz g
    ·omega
   ·rw [c3,CW,hc1.room,aal];have:mag.length=8:=rfl;omega
  obtain ⟨a1,a2,a3,a4,a5⟩:=Eu hc1 hself (mag++(aj.encode x).1) hrm
  have hE:L1.je M1 (aj.encode x).1=(({ L1 with l:=L1.l++[((C.length:Int),8+((aj.encode x).1.length:Int))],on:=true,fresh:=L1.fresh+1 },((M1.create (name (C.length:Int))).1.append (name (C.length:Int)) (mag++(aj.encode x).1)).1),⟨(C.length:Int),8,(aj.encode x).1.length⟩,0):=by
   unfold Log.je
   rw [hnx,abw oQ,abw (fun hh=>hh c1),ac3 a1]
  rw [hE]at hK ⊢
  simp only at hK ⊢
  rw [c4]at a4
  have a4':((M1.create (name (C.length:Int))).1.append (name (C.length:Int)) (mag++(aj.encode x).1)).1.all (name (C.length:Int))=(mag++encs ([]++[x]),0):=by rw [a4,vJ,zx];simp [encs]
  have hput:put C false x=C++[[x]]:=by unfold put;rw [abw aN]
  rw [hput]
  have hlen:=h.len
  refine ⟨by first|trivial|rfl,by first|trivial|rfl,hlim,⟨hK,?_,?_,?_,?_,?_,?_,?_,?_⟩,?_,?_⟩
  ·simp only [s3,aal,adX];omega
  ·intro k fs hk'
   rcases akT k C.length with q|q|q
   ·rw [adV q]at hk'
    rw [s3,adV oQ]
    exact h.at_ _ _ hk'
   ·subst q
    rw [adQ (acy _),akb]at hk'
    simp at hk'
    subst hk'
    rw [s3,adQ oQ,hlen,akb,zx]
    rfl
   ·rw [ajH (by simp only [aal,adX];omega)]at hk';cases hk'
  ·intro k fs hk'
   rcases akT k C.length with q|q|q
   ·rw [adV q]at hk'
    have hne:name (k:Int)≠name (C.length:Int):=fun e=>by have:=Dt oQ oQ oQ oQ e;omega
    rw [a5 _ hne,c5 _ hne,acP]
    exact h.file _ _ hk'
   ·subst q
    rw [adQ (acy _),akb]at hk'
    simp at hk'
    subst hk'
    exact a4'
   ·rw [ajH (by simp only [aal,adX];omega)]at hk';cases hk'
  ·intro fs hfs
   rcases ajk.1 hfs with hfs|hfs
   ·exact h.good fs hfs
   ·rw [aiR.1 hfs]
    exact ⟨fun y hy=>by rw [aiR.1 hy];exact ⟨h0,hk⟩,by simp⟩
  ·simp only [aal,adX];omega
  ·rw [a3,c3,CW,aal];have:mag.length=8:=rfl;omega
  ·rw [a2,c2,Me]
   have:=zJ M1.now (name (C.length:Int))
   rw [ji]at this
   have:=h.names
   rw [ji];omega
  ·intro k j hkk hj
   by_cases e:k=C.length
   ·subst e;simp
   ·rw [a2,c2,zM (fun q=>e (by have:=Dt oQ oQ oQ oQ q;omega)),ji]at hj
    have:=h.cover k j hkk hj
    simp only [aal,adX];omega
  ·exact Wj (s:=((C.length:Int),8+((aj.encode x).1.length:Int))) (es:=[]) hK (by simp) a4' ⟨h0,hk⟩
  ·simp only [aal,adX];omega
theorem HG.commit (h:HG K r E B n L M C) (hn:n<1000) (hz:(L.append M dA).2.2=0∨M.used+400≤M.room∧M.now.length<500) :
  (L.commit M).2.2=0∧(L.commit M).1.1.on=false∧(L.commit M).1.1.limit=L.limit∧HG (K+5) r E B (n+1) (L.commit M).1.1 (L.commit M).1.2 (put C (L.fits (aj.encode dA).1.length) dA):=by
 obtain ⟨a1,a2,a3,a4,a5,a6⟩:=h.append hn dA rfl aN ah hz
 obtain ⟨i,hi⟩:=PY h.keeps dA rfl a1
 have gG:=h.keeps.log.commit M
 have hcalm:=h.keeps.commit
 rw [Log.zq]at gG hcalm ⊢
 rw [abw (fun hh=>hh a1)]at gG hcalm ⊢
 generalize L.append M dA=r at *
 obtain ⟨⟨L1,M1⟩,p1,e1⟩:=r
 simp only at *
 have hs:=G9 a4.keeps.calm.ok a4.keeps.calm.quiet (name p1.seg)
 have hsc:=a4.keeps.calm.sync (name p1.seg)
 have es:=a4.keeps.calm.quiet.DN hi
 have es2:(M1.sync (name p1.seg)).2=0:=by rw [es]
 rw [abw (fun hh=>hh es2)]at gG hcalm ⊢
 generalize (M1.sync (name p1.seg)).1=M2 at *
 have ed:=hsc.quiet.G8
 have ed2:M2.dN.2=0:=by rw [ed]
 rw [abw (fun hh=>hh ed2)]at gG hcalm ⊢
 have had:Alike M2 M2.dN.1:=by rw [ed];exact ⟨rfl,rfl,rfl,fun _ _=>rfl⟩
 have ha:=hs.trans had
 refine ⟨rfl,rfl,a3,⟨hcalm,a4.len,a4.at_,fun k es' hk=>by rw [ha.all];exact a4.file k es' hk,a4.good,a4.count,by rw [ha.used];exact a4.used,by rw [ha.now];exact a4.names,by rw [ha.now];exact a4.cover⟩⟩
theorem HG.alike {L':Log}{M':ay} (h:HG K r E B n L M C){K':Nat} (hk:Keeps K' r L' M') (hl:L'.l=L.l) (ha:Alike M M'):HG K' r E B n L' M' C:=
 ⟨hk,by rw [hl];exact h.len,by rw [hl];exact h.at_,fun k es hke=>by rw [ha.all];exact h.file k es hke,h.good,h.count,by rw [ha.used];exact h.used,by rw [ha.now];exact h.names,by rw [ha.now];exact h.cover⟩
theorem HG.Z7 (h:HG K r E B n L M C) (x:aj.aP) (hk:x.key.length=32) (hz:(L.append M x).2.2≠0):HG (K+4) r E B n (L.append M x).1.1 (L.append M x).1.2 C:=by
 obtain ⟨k1,k2⟩:=h.keeps.append x hk
 obtain ⟨k3,_,k4,_⟩:=k2 hz
 exact h.alike k1 k3 k4
end
end Go.Seg
namespace Go.Seg
open Go.ay
open Go.aj (encs iw jf aP)
def Ic (d:aP):aP:=if d.tag=0 then ⟨0,d.key,d.data⟩ else if d.tag=1 then ⟨1,d.key,[]⟩ else dA
def Ux (d:aP):Prop:=d.tag=0∨d.tag=1
instance (d:aP):Decidable (Ux d):=by unfold Ux;infer_instance
structure Pl (n:Nat) (ds:List aP) (L:Log) (M:ay) (C:List (List aP)):Prop where
 holds:Holds n L M C
 tail:Tail L.on C
 flat:C.flatten=ds.map Ic
 small:∀ x∈C.flatten,x.data.length≤300
section
variable {n:Nat}{ds:List aP}{L:Log}{M:ay}{C C0:List (List aP)}{d:aP}
theorem XV (hk:d.key.length=32) (hd:d.data.length≤300):(aj.encode (Ic d)).2=0:=by
 have hc:aj.check (Ic d)=0:=by
  unfold Ic
  split
  ·unfold aj.check
   simp only [akL]
   rw [abw oQ]
  split
  ·unfold aj.check
   simp
  ·decide
 unfold aj.encode
 rw [abw (by simp [hc])]
structure Base (C0:List (List aP)) (on:Bool) (C:List (List aP)):Prop where
 pre:C.take C0.length=C0
 gt:on=true→C0.length<C.length
theorem Base.le {on:Bool} (h:Base C0 on C):C0.length≤C.length:=by
 have:=aje List.length h.pre
 rw [acJ]at this;omega
theorem Base.start (C:List (List aP)):Base C false C:=⟨aiv,fun h=>by cases h⟩
theorem Base.put {on b on':Bool} (h:Base C0 on C) (hb:b=true→on=true) (x:aP):Base C0 on' (put C b x):=by
 unfold Seg.put
 cases b with
 |true=>
  have hg:=h.gt (hb rfl)
  simp only [akL]
  refine ⟨?_,fun _=>?_⟩
  ·rw [ajb (by rw [ajr];omega),List.dropLast_eq_take,List.take_take,alh oQ]
   exact h.pre
  ·rw [aal,ajr,adX];omega
 |false=>
  simp only [ajK,akO]
  have:=h.le
  refine ⟨by rw [ajb this];exact h.pre,fun _=>by rw [aal,adX];omega⟩
end
end Go.Seg
namespace Go.Rep
open Go.aj (Bs fO aP jf encs iw)
open Go.Seg (aU mag)
open Go.Tab
def qB (l:List Row) (s:Int):Int:=(l.map fun r=>if r.1=s then (r.2.size:Int) else 0).sum
theorem GU (a b:List Row) (s:Int):qB (a++b) s=qB a s+qB b s:=by unfold qB;rw [aey,List.sum_append]
theorem UR {l:List Row} (s:Int):∀ i,i≤l.length→0≤live l s i∧live l s i≤qB (l.take i) s
 |0,_=>⟨alC 0,by simp [live,qB]⟩
 |i+1,hi=>by
  have ih:=UR (l:=l) s i oQ
  obtain ⟨r,hr⟩:∃ r,l[i]?=some r:=⟨_,aak oQ⟩
  rw [ajL,hr,ajY,GU]
  have e:qB [r] s=if r.1=s then (r.2.size:Int) else 0:=by unfold qB;simp
  rw [e]
  unfold live
  rw [hr]
  simp only
  by_cases h:r.1=s
  ·rw [ac3 h]
   split <;> omega
  ·rw [abw h,abw (fun hh=>h hh.2)];omega
theorem RJ:∀ (es:List aP) (a:Nat),((jf es a).map fun f=>(f.size:Int)).sum=(encs es).length
 |[],_=>rfl
 |x::es,a=>by
  have e:encs (x::es)=(aj.encode x).1++encs es:=rfl
  unfold jf
  rw [ag8,aln,RJ es,e,aal];simp
theorem NQ (l:List fO) (k s:Int):qB (l.map fun f=>(k,f)) s=if k=s then (l.map fun f=>(f.size:Int)).sum else 0:=by
 unfold qB
 rw [aj9]
 by_cases h:k=s
 ·rw [ac3 h]
  congr 1
  refine akz fun f _=>?_
  simp [h]
 ·rw [abw h]
  induction l with
  |nil=>rfl
  |cons f l ih=>rw [ag8,aln,ih];simp [h]
theorem Xt:∀ (C:List (List aP)) (k:Nat) (s:Int),s<k→qB (dJ k C) s=0
 |[],_,_,_=>rfl
 |es::C,k,s,h=>by
  unfold dJ
  rw [GU,Xt C (k+1) s oQ,NQ,abw oQ];rfl
theorem Xr:∀ (C:List (List aP)) (k j:Nat) (es:List aP),C[j]?=some es→qB (dJ k C) ((k+j:Nat):Int)=(encs es).length
 |[],_,_,_,h=>by simp at h
 |fs::C,k,0,es,h=>by
  obtain rfl:fs=es:=by simpa using h
  unfold dJ
  rw [GU,Xt C (k+1) _ oQ,NQ,ac3 (by simp),RJ];simp
 |fs::C,k,j+1,es,h=>by
  unfold dJ
  rw [GU,NQ,abw oQ]
  have:=Xr C (k+1) j es (by simpa using h)
  rw [show k+(j+1)=k+1+j by omega,this];simp
end Go.Rep
namespace Go.Seg
open Go.ay
section
variable {i j K:Nat}{M D:ay}
end
section
variable {i n c K:Nat}{L:Log}{M D:ay}
theorem Af (h:L.Ok):L.aF.Pairwise (· < ·):=h.rise
theorem ahh (h:L.Ok):∀ s∈L.aF,0≤s:=fun s hs=>by
 unfold Log.aF at hs
 obtain ⟨x,hx,rfl⟩:=acK.1 hs
 exact (h.nums x hx).1
theorem rows_ok (h:L.Ok) (M:ay) (n:Nat):Rep.Rows (Rep.rowsOf (fun s=>L.bytes M s) (L.aF.take n)):=
 Rep.agk ((Af h).sublist (List.take_sublist _ _)) fun s hs=>ahh h s (ajm hs)
end
end Go.Seg
namespace Go.Rep
open Go.aj (Bs fO aP jf encs iw)
open Go.Seg (aU mag)
open Go.Tab
theorem FV:∀ {l:List Row}{k:Bs}{r:Row},newest l k=some r→r∈l∧eu r≠2∧fZ r=k
 |[],_,_,h=>by cases h
 |x::l,k,r,h=>by
  unfold newest at h
  split at h
  ·rename_i y hy
   cases h
   obtain ⟨h1,h2⟩:=FV hy
   exact ⟨.tail _ h1,h2⟩
  ·split at h
   ·rename_i hh
    cases h
    exact ⟨.head _,hh⟩
   ·cases h
end Go.Rep
namespace Go.Seg
open Go.ay
open Go.aj (Bs fO encs iw jf aP)
open Go.Rep
section
variable {n:Nat}{ds:List aP}{L:Log}{M:ay}{C:List (List aP)}{c:Nat}
end
end Go.Seg
