import Derived.Test.YtadhomdmbcldkaaGreatDoorJ7
set_option linter.unusedSimpArgs false
variable {A G:Prop}
open Go.Proofs.Tryz
set_option maxRecDepth 20000
set_option linter.unusedVariables false
set_option maxHeartbeats 128000000
open Go Go.Sl Go.MapKept Go.RowKit
open Go.Proofs.YtadhomdmbcldkaaGreatDoor Go.Proofs.Y
variable {w w0:World}{F L R:List aO}{P:Program}{ops:Array Oper}{rest:List Oper}{a:Act}{Q:Exit->Act->World->Prop}{dst:Option Tmp}{ty:TypeId}{after:Array Edge}{v lv bv:Value}{x y:Operand}{m K:Nat}{M:aG.aG}
theorem zI0(h:A:=by have:=zO.o;omega):A:=h
namespace Go.Proofs.Y
open Go.aG
section
variable {K:Act->World->Prop}{E:Prop}{t:TypeId}{pos:String}{s:Operand}{vy:Value}{l m:Bs}
theorem aix (f:au w0 w (mX v l::F)) (hv:a.eval s=v) (hy:a.eval y=vy) (g:bK 1 vy (aI m) w) (j:m≠[]) (c:l.length+m.length<=1099511627776) (n:∀ b w',au w0 w' (mX b (l++m)::F)->K (a.put dst b) w') :
  Oper.wp prog ⟨dst,.call { callee:= .builtin .append,args:=#[s,y],argTypes:=#[59,59] },59,pos,after,none⟩ a w K Q:=by
 refine Vh ?_;intro i hi hz0 hz1 hz2 h63 hby;obtain ⟨b,w',hr,d⟩:=asw 59 59 5 i _ underlying59 hi hz0 hz1 aA oQ (Bo _) (λe=>j (by cases m with|nil=>rfl|cons z r=>cases e)) f g h63 hby;rw [<-Et]at d;refine Vk ?_;exact n _ _ d
theorem aaA (d:au w0 w (mX v l::F)) (e:a.eval s=v) (hy:a.eval y=vy) (f:bK 1 vy (aI m) w) (g:m≠[]) (b:l.length+m.length<=1099511627776) (h:∀ c w',au w0 w' (mX c (l++m)::F)->K (a.put dst c) w') :
  if Region.wanted ⟨dst,.call { callee:= .builtin .append,args:=#[s,y],argTypes:=#[59,59] },59,pos,after,none⟩ (yielded ops a.tmps)=true then
   Oper.wp prog ⟨dst,.call { callee:= .builtin .append,args:=#[s,y],argTypes:=#[59,59] },59,pos,after,none⟩ a w K Q else E:=Ey rfl (aix d e hy f g b h)
theorem XR (e:au w0 w (mX v l::F)) (f:a.eval s=v) (hy:a.eval y=vy) (g:bK 1 vy (aI m) w) (i:m≠[]) (b:l.length+m.length<=1099511627776) (j:∀ c w',au w0 w' (mX c (l++m)::F)->wpList prog ops Q rest (a.put dst c) w') :
  wpList prog ops Q (⟨dst,.call { callee:= .builtin .append,args:=#[s,y],argTypes:=#[59,59] },59,pos,after,none⟩::rest) a w:=
 ajs rfl λ_ d=>aix e f hy g i b λc w' h=>d _ _ (j c w' h)
theorem ajZ (h:au w0 w (mX v l::F)) (e:l=m):au w0 w (mX v m::F):=e ▸ h
theorem aj0 (h:au w0 w (mX v l::F)):au w0 w (mX v (l++[])::F):=by rw [ahB];exact h
theorem akw (h:lQ (wpList P ops Q (⟨dst,.slice ty x none none none,t,pos,after,none⟩::rest) a w)):wpList P ops Q (⟨dst,.slice ty x none none none,t,pos,after,none⟩::rest) a w:=h.o
theorem au8 (hx:a.eval x=v) (hr:∀ w,(Instr.sliceAt ty v none none none).run P w=.ok vy w) (h:wpList P ops Q rest (a.put dst vy) w):wpList P ops Q (⟨dst,.slice ty x none none none,t,pos,after,none⟩::rest) a w:=
 ajs rfl λ_ hK=>by
  unfold Oper.wp execOp;simp only [hx,avX,aii,hr,acz,aiV];exact hK _ _ h
theorem Zq (h:lQ (wpList P ops Q (⟨dst,.call { callee:= .builtin .append,args:=#[s,y],argTypes:=#[59,59] },t,pos,after,none⟩::rest) a w)):wpList P ops Q (⟨dst,.call { callee:= .builtin .append,args:=#[s,y],argTypes:=#[59,59] },t,pos,after,none⟩::rest) a w:=h.o
theorem aaC (sb:ByteArray) (d:sb.data.toList=l) (b:l.length<=1073741824) (e:au w0 w F) (f:a.eval x=.string sb) (g:∀ c w',au w0 w' (mX c l::F)->K (a.put dst c) w') :
  if Region.wanted ⟨dst,.convert 9 59 x,t,pos,after,none⟩ (yielded ops a.tmps)=true then Oper.wp prog ⟨dst,.convert 9 59 x,t,pos,after,none⟩ a w K Q else E:=by
 refine Ey rfl ?_;have h:=Lib.run_convert_string_bytes w 9 59 5 sb underlying9 underlying59 underlying5;unfold Oper.wp execOp;simp only [f,aii,h,acz,aiV];exact g _ _ (akm e 5 sb l d b)
theorem RS.U0 (h:au w0 w (mX v l::F)):RS w0 (mX v l::F) v l:=by
 refine ⟨λw f=>RD f,?_⟩;rcases Rz h with h|⟨b,n,cap,r,m,rfl,s,hn,t,d,g,i,u⟩
 ·obtain ⟨a,n,c,e,j,o,x⟩:=Bh h;exact ⟨a,n,c,e,j,o⟩
 ·exact ⟨_,n,cap,rfl,hn,d⟩
end
theorem qJ (r:RV) (h:r.x.key.length=32):(eX r).toArray.size=33:=by rw [abC];exact rF r h
theorem rvG (r:RV) (h:r.x.key.length=32):(eX r).toArray.getD 32 undef=r.nv:=by
 rw [alF,show (eX r).toArray[32]?=some r.nv from Fj h];rfl
theorem as5 {w:World}{r:RV} (h:bK 1 r.nv (dJ r.x.eU) w):(eX r).toArray.toList.all (·.oneCell')=true:=by
 obtain ⟨a,n,c,e,_⟩:=h;unfold eX;rw [e];rw [agQ,ana,yu];rfl
def AB:RV:=⟨⟨ay.gu,[]⟩,.slice none 0 0⟩
theorem D5:nR prog 276=some (.agg (eX AB).toArray):=aC
theorem NZ {w:World}{sv:Value}{l:List Int}{i:Nat}{s:Int} (h:bK 1 sv (dJ l) w) (hs:l[i]?=some s):∃ bk off c,sv=.slice (some ⟨bk,off,none⟩) l.length c/\w.cell? ⟨bk,off+i,none⟩=some (.int .i64 s):=adx
theorem an9 {w:World}{sv:Value}{l:List Int} (h:bK 1 sv (dJ l) w):∃ a c,sv=.slice a l.length c:=
 l9 (k:=1) (λu _=>rfl) yM0 aU
theorem ZJ (jr:ByteArray) (mg:Bs) (hmb:jr.data.toList=mg) (xE:mg.length=8) (kd:Bool) (k:Nat) (hk:k<=3) (rs:List RV) (hok:bH.Ok k kd (rs.map (·.x))) (hr:Ro w0 F (bK 33 lv (rs.flatMap eX))) (he:∀ r∈rs,yK w0 F r) (h:au w0 w F) :
  Calls prog 163 #[.agg (su jr kd k),lv] w (bf λv w'=>∃ bv,v=.tuple #[bv,dS 0]/\au w0 w' (mX bv (bH.jM Xx.sum mg kd (rs.map (·.x)))::F)):=by
 obtain ⟨la,lc,rfl⟩:=l9 (λr hr=>rF r (he r hr).key) (hr w h) aU;have hn:rs.length<=65536:=by have:=hok.len;rwa [abl]at this
 have Hr:=uQ hr;have He:=uQ he;have Z:=uQ hn;have A:=uQ hok;have aa:=uQ hmb;have c:=uQ xE;have c1:¬ (65536:Int)<(rs.length:Int):=oQ;have c2:IntKind.u64.wrap (rs.length:Int)=(rs.length:Int):=by rw [am7];omega
 clear hr he hn hok hmb xE;go_enter func163,ntmps163;go_wp2_with (with_reducible apply jy);refine ⟨jB h aF aF ?_⟩;intro b2 w2 D;replace D:au w0 w2 (pt b2 (.cells (su jr kd k) 270 (0,0))::F):=D;clear h;go_wp2_with fail;have B:=D.drew;clear D;have L:=B.dD 0 (.string jr) rfl;refine gK [2,7,8] (λw'=>w'.cell? ⟨b2,0,none⟩=some (.string jr)) aC ?_;have hG:=L;refine rP 0 ?_ (y:=eY);refine rt 1 (h:=?_);clear hG;refine rP 3 ?_ (y:=bV);refine rP 4 ?_ (y:=(vX aF dX));refine rP 5 ?_ (y:=(Ya aF dX));refine BN 2 6 aF aF aC (λK a=>?_) (λK a=>?_)
 focus
  refine aaC jr aa.o (by rw [c.o];decide) B aF ?_;intro M w3 U;refine a _ _ (.inl rfl) ?_;clear a B L;refine dZ 6 aF aC (λK a=>?_)
  (refine kM aC aF aF ?_)
  refine (Ie rs.length (by have:=Z.o;omega) U).mono ?_;rintro ee w4 ⟨v,rfl,H,_⟩;refine a _ _ (.inr (.inl ((H.drop.drop).dD 0 (.string jr) rfl))) ?_;clear a U;refine dZ 7 aF aC (λK a=>?_);refine aaA (H.sb:au w0 _ (mX M mg::cZ v (ay.le rs.length 4)::pt b2 (.cells (su jr kd k) 270 (0,0))::F)) aF aF (au.rd H) (λe=>by cases e) (by rw [c.o,ay.nK];decide) ?_;intro v6 w5 s;refine a _ _ (.inl rfl) ?_;clear a H;refine rP 8 ?_ (y:=kR);refine fK aC ?_
  try simp only [kW]
  try go_frame
  have hB:au w0 w5 (mX v6 (mg++ay.le rs.length 4)::pt b2 (.cells (su jr kd k) 270 (0,0))::F):=s.sb;clear s
 rotate_left
 focus
  (refine kM aC aF aF ?_)
  refine (Ie rs.length (by have:=Z.o;omega) B).mono ?_;rintro ee w4 ⟨v,rfl,H,_⟩;refine a _ _ (.inr (.inl ((H.drop).dD 0 (.string jr) rfl))) ?_;clear a B L;refine dZ 2 aF aC (λK a=>?_);refine aaC jr aa.o (by rw [c.o];decide) H aF ?_;intro M w3 U;refine a _ _ (.inl rfl) ?_;clear a H;refine dZ 7 aF aC (λK a=>?_);refine aaA (U.sb:au w0 _ (mX M mg::cZ v (ay.le rs.length 4)::pt b2 (.cells (su jr kd k) 270 (0,0))::F)) aF aF (au.rd U.drop) (λe=>by cases e) (by rw [c.o,ay.nK];decide) ?_;intro v6 w5 s;refine a _ _ (.inl rfl) ?_;clear a U;refine rP 8 ?_ (y:=kR);refine fK aC ?_
  try simp only [kW]
  try go_frame
  have hB:au w0 w5 (mX v6 (mg++ay.le rs.length 4)::pt b2 (.cells (su jr kd k) 270 (0,0))::F):=s.sb;clear s
 all_goals
  as_aux_lemma=>
   have hX0:=uQ hB;go_wp2_with fail
   go_loopg [6,24] rs.length (λg bq iq wr=>∃ (i:Nat) (bv:Value),g=rs.length-i/\i<=rs.length/\bv=bq/\iq=.int .i64 i/\au w0 wr (mX bv (mg++ay.le rs.length 4++bH.nN kd ((rs.map (·.x)).take i))::pt b2 (.cells (su jr kd k) 270 (0,0))::F))
   case atStart=>exact ⟨0,_,rfl,acn _,rfl,rfl,by rw [ajN,bH.V6,ahB];exact hB⟩
   case round=>
    obtain ⟨i,bv,rfl,hi,rfl,rfl,hS⟩:=hrel;clear hB hX0;by_cases E:i<rs.length
    ·as_aux_lemma=>
     have c3:(i:Int)<(rs.length:Int):=oQ;have hwi:IntKind.i64.wrap ((i:Int)+1)=(i:Int)+1:=abR _ (by have:=Z.o;omega);obtain ⟨r,hx⟩:∃ q,rs[i]?=some q:=⟨_,aaf E⟩;have u:=uQ (He.o r (abH hx));have N:=uQ (A.o.row r.x (auS (abH hx)));have ab:=bH.arQ (kd:=kd) (show (rs.map (·.x))[i]?=some r.x by rw [ab4,hx];rfl);have hXl:(mg++ay.le rs.length 4++bH.nN kd ((rs.map (·.x)).take i)).length<=3000000:=by
      rw [aay,aay,c.o,ay.nK,bH.V5 _ (λq hq=>A.o.row q (ajq hq)),abA,abl];have h1:=Z.o;have h2:min i rs.length*bH.nX kd k<=65536*44:=aqe oQ (bH.PK hk);omega
     obtain ⟨bk,off,c',hsv,C⟩:=lV (f:=eX) (k:=33) (λr hr=>rF r (He.o r hr).key) (Hr.o _ hS.drop.drop) hx aU;cases hsv;have I:mg++ay.le rs.length 4++bH.nN kd ((rs.map (·.x)).take (i+1))=(mg++ay.le rs.length 4++bH.nN kd ((rs.map (·.x)).take i))++(if kd then r.x.key else [])++bH.ou r.x.eU:=by
      rw [ab];unfold bH.BO;simp only [ab6]
     generalize mg++ay.le rs.length 4++bH.nN kd ((rs.map (·.x)).take i)=X at *
     have d:=uQ I;have HX:=uQ hXl;have dP:=uQ E;clear hx ab I hXl E hi
     go_wp2_with (first
      |((with_reducible refine dH ⟨?_⟩);refine kQ (b:=bk) (o:=off+i*33) (eX r) aA C underlying276 rfl (by rw [rF _ u.o.key];kernel_rfl) ?_)
      |(with_reducible apply jd))
     refine ⟨iR D5 hS rfl ?_⟩;intro b8 w8 V;clear hS C;go_wp2_with (with_reducible apply eG);refine ⟨jK (eX r).toArray V aA aA (by rw [qJ _ u.o.key];rfl) eu (by rw [qJ _ u.o.key];kernel_rfl) (as5 (u.o.rd _ V.drop.drop.drop)) ?_⟩;intro w9 J;clear V;have O:(eX r).toArray.getD 32 undef=r.nv:=rvG _ u.o.key;obtain ⟨kb,hkb⟩:∃ kb,Hid (kd=kb):=⟨_,uQ rfl⟩;cases kd
     focus
      have P:=aj0 (J.pick bZ);have jl:=uQ (show mg++ay.le rs.length 4++bH.nN false ((rs.map (·.x)).take (i+1))=X++[]++bH.ou r.x.eU from d.o);have HY:=uQ (show (X++([]:Bs)).length<=3000100 by rw [ahB];have:=HX.o;omega);generalize X++([]:Bs)=Y at *
      clear J d HX
     rotate_left
     focus
      have hrd:bK 1 (.slice (some ⟨b8,0,none⟩) 32 32) (aI r.x.key) w9:=⟨_,_,_,rfl,by rw [bP,u.o.key],λj z hj=>⟨_,rfl,by rw [Ei,aiO];exact J.bI bJ j (PW hj)⟩⟩;have jl:=uQ (show mg++ay.le rs.length 4++bH.nN true ((rs.map (·.x)).take (i+1))=X++r.x.key++bH.ou r.x.eU from d.o);have HY:=uQ (show (X++r.x.key).length<=3000100 by rw [aay,u.o.key];have:=HX.o;omega);have hsl:∀ w,(Instr.sliceAt 34 (.pointer (some ⟨b8,0,none⟩)) none none none).run prog w=.ok (.slice (some ⟨b8,0,none⟩) 32 32) w:=λw=>by kernel_rfl
      go_wp2_with (first
       |((with_reducible refine dH ⟨?_⟩);refine jC J aA (bW bZ) dG aF aC ?_)
       |(with_reducible apply akw))
      refine ⟨au8 aA hsl ?_⟩;refine XR (m:=r.x.key) (J.pick bZ) aA aA hrd (λe=>by have:=u.o.key;rw [e]at this;cases this) (by rw [u.o.key];have:=HX.o;omega) ?_;intro v33 w10 P;generalize X++r.x.key=Y at *
      clear J d HX hrd
     all_goals
      obtain ⟨na,nc,hnv⟩:=an9 (u.o.rd _ (P.drop.drop.drop));rw [hnv]at O;have Hnv:=uQ hnv;go_wp2_with ((with_reducible refine dH ⟨?_⟩);first|refine jC (o:=32) P aA bZ (by rw [qJ _ u.o.key];decide) O aC ?_|refine jC P aA (bW bZ) dG aF aC ?_);clear O;rw [hkb.o]at P
      go_loopg [6,37] r.x.eU.length (λg bq jq wr=>∃ (j:Nat) (cv:Value),g=r.x.eU.length-j/\j<=r.x.eU.length/\cv=bq/\jq=.int .i64 j/\au w0 wr (mX cv (Y++bH.ou (r.x.eU.take j))::pt b8 (.cells (eX r).toArray 276 (0,0))::pt b2 (.cells (su jr kb k) 270 (0,0))::F))
      case atStart=>exact ⟨0,_,rfl,acn _,rfl,rfl,by rw [ajN,bH.aee,ahB];exact P⟩
      case round=>
       obtain ⟨j,cv,rfl,hj,rfl,rfl,l⟩:=hrel;clear P;by_cases G:j<r.x.eU.length
       ·obtain ⟨n,hn⟩:∃ n,r.x.eU[j]?=some n:=⟨_,aaf G⟩;have hnb:=N.o.bD n (abH hn);obtain ⟨bk2,of2,cc2,e2,hcj⟩:=NZ (u.o.rd _ (l.drop.drop.drop)) hn;rw [Hnv.o]at e2;cases e2;have Hnk:=uQ (bH.apR hn);obtain ⟨x,rfl⟩:∃ x:Nat,n=(x:Int):=⟨n.toNat,by omega⟩;have d1:decide ((x:Int)<0)=false:=by rw [ai9];omega
        have d2:decide ((4294967295:Int)<(x:Int))=false:=by rw [ai9];omega
        have d3:¬ (x:Int)<0:=oQ;have d4:¬ (4294967295:Int)<(x:Int):=oQ;have d5:IntKind.u64.wrap (x:Int)=(x:Int):=by rw [am7];omega
        have c4:(j:Int)<(r.x.eU.length:Int):=oQ;have EL:IntKind.i64.wrap ((j:Int)+1)=(j:Int)+1:=abR _ (by have:=N.o.len;omega);have YQ:=uQ (λ(w':World) (R:List aO) (hw:au w0 w' R)=>Ie x oQ hw);have hyl:(Y++bH.ou (r.x.eU.take j)).length<=4000000:=by rw [aay,bH.aed,abA];have:=N.o.len;have:=HY.o;omega
        have I9:=uQ hyl;have yF:=uQ G;clear hn hnb G hj hyl;go_wp2_with fail;refine (YQ.o _ _ l).mono ?_;rintro ee w5 ⟨v,rfl,s,_⟩;clear YQ hcj l;go_wp2_with (with_reducible apply Zq);refine ⟨XR (m:=ay.le x 4) (s.pick bZ) aA aA (au.rd s) (λe=>by cases e) (by rw [ay.nK];have:=I9.o;omega) ?_⟩;intro v6 w6 h6;go_wp2_with fail
        go_roundg (r.x.eU.length-(j+1))
        case measure=>have:=yF.o;omega
        case rel=>exact ⟨j+1,_,rfl,aiW yF.o,rfl,by first|rfl|go_num,by rw [Hnk.o,<-ab6];exact h6.sb⟩
       ·have c4:¬ (j:Int)<(r.x.eU.length:Int):=oQ;obtain rfl:j=r.x.eU.length:=oQ;rw [ai0]at l;clear hj G;go_wp2_with fail
        go_roundg (rs.length-(i+1))
        case measure=>have:=dP.o;omega
        case rel=>exact ⟨i+1,_,rfl,aiW dP.o,rfl,by first|rfl|go_num,by rw [jl.o];rw [<-hkb.o]at l;exact l.sb⟩
    ·as_aux_lemma=>
     have c3:¬ (i:Int)<(rs.length:Int):=oQ;obtain rfl:i=rs.length:=oQ;have eb:mg++ay.le rs.length 4++bH.nN kd ((rs.map (·.x)).take rs.length)=bH.body mg kd (rs.map (·.x)):=by
      unfold bH.body;rw [acE (by rw [abl];exact abG _),abl]
     have Q:=ajZ hS eb;have vw:=uQ (bH.akX (mg:=mg) c.o hk A.o)
     have vC:=uQ (show bH.body mg kd (rs.map (·.x))≠[] from λe=>by
      have:=bH.Gj (mg:=mg) (kd:=kd) c.o A.o.row;rw [e]at this;simp only [ajw]at this;omega)
     have GV:=VU jr kd k rs (by have:=Z.o;omega) (Ro.os Hr.o) (λr hr=>(He.o r hr).sub oG) Q;clear hS hi E eb;go_wp2_with ((with_reducible refine dH ⟨?_⟩);refine kG Q aA bZ underlying270 rfl aC ?_);refine GV.mono ?_;rintro ee w5 ⟨v,rfl,t,rfl,ht,s⟩;obtain rfl:t=true:=ht.2 A.o.jA;clear GV Q ht;go_wp2_with fail;have T:=X7 vC.o (by have:=vw.o;omega) (RS.U0 s) s;obtain ⟨S,HS⟩:∃ S,Hid (Xx.sum (bH.body mg kd (rs.map (·.x)))=S):=⟨_,uQ rfl⟩;have IX:=uQ (show S<Xx.W by rw [<-HS.o];exact Xx.Xb _);rw [HS.o]at T;refine T.mono ?_;rintro ee w6 ⟨v,rfl,rfl,h6⟩;clear s T;go_wp2_with fail;refine (aqF S IX.o h6).mono ?_;rintro ee w7 ⟨v,rfl,h7,_⟩;clear h6;go_wp2_with (with_reducible apply Zq);refine ⟨XR (m:=ay.le S 8) (h7.pick bZ) aA aA (au.rd h7) (λe=>by have k:=aiX List.length e;rw [ay.nK]at k;cases k) (by rw [ay.nK];have:=vw.o;omega) ?_⟩
     intro v8 w8 V;have J:au w0 w8 (mX v8 (bH.jM Xx.sum mg kd (rs.map (·.x)))::F):=by unfold bH.jM;rw [HS.o];exact V.sb
     clear h7 V;go_wp2_with fail
     go_ret2
     exact ⟨_,rfl,v8,rfl,J⟩
section
variable {w':World}{t:TypeId}{pos:String}{n:Nat}{xs:Array (Nat×Operand)}
theorem ako (h:lQ (wpList P ops Q (⟨dst,.buildSlice ty n xs,t,pos,after,none⟩::rest) a w)):wpList P ops Q (⟨dst,.buildSlice ty n xs,t,pos,after,none⟩::rest) a w:=h.o
theorem au1 (b:Array (Nat×Value)) (he:xs.map (λp=>(p.1,a.eval p.2))=b) (hr:(Instr.buildSlice ty n b).run P w=.ok v w') (h:wpList P ops Q rest (a.put dst v) w'):wpList P ops Q (⟨dst,.buildSlice ty n xs,t,pos,after,none⟩::rest) a w:=
 ajs rfl λ_ hK=>by
  exact afV
end
theorem auJ (a b c:Int) (h:au w0 w F):Calls prog 169 #[.agg #[.int .i64 a,.int .i64 b,.int .i64 c]] w
  (bf λv w'=>∃ q,v=.agg (eX ⟨⟨ay.gu,[a,b,c]⟩,.slice (some ⟨q,0,none⟩) 3 3⟩).toArray/\au w0 w' (pt q (.cells #[.int .i64 a,.int .i64 b,.int .i64 c] 3 (0,0))::F)):=by
 refine afb ?_;intro hbs;have hrow:∀ w q,(Instr.build 276 #[(1,.slice (some ⟨q,0,none⟩) 3 3)]).run prog w=.ok (.agg (eX ⟨⟨ay.gu,[a,b,c]⟩,.slice (some ⟨q,0,none⟩) 3 3⟩).toArray) w:=λw q=>by kernel_rfl
 go_in
 go_wp2_with (with_reducible apply jy);refine ⟨jB h aA aA ?_⟩;intro b1 w1 h1;go_wp2_with (with_reducible apply jd);refine ⟨iR D5 h1 rfl ?_⟩;intro b2 w2 h2;have hS:=h2.alloc (.cells #[.int .i64 a,.int .i64 b,.int .i64 c] 3);generalize hq:w2.heap.size=q at *
 have hq2:=hq
 go_wp2_with (first
  |((with_reducible refine dH ⟨?_⟩);refine jC h2 aA bZ dG aF aC ?_)
  |((with_reducible refine eG ⟨?_⟩);refine jK (eX ⟨⟨ay.gu,[a,b,c]⟩,.slice (some ⟨q,0,none⟩) 3 3⟩).toArray hS aA aA aA Xj aC aA ?_;intro w9 h9))
 refine ⟨rfl,_,Il rfl h9 aA dh underlying276 rfl aC,?_⟩;exact ⟨_,rfl,q,rfl,h9.sb⟩
theorem aqk:yA prog 276=some [(0,32),(32,1)]:=aC
theorem asP (k:ay.Bs) (hk:k.length=32) (x:bH.Rw) (i:x.key=k) (nv:Value) (q:Nat) (g:nv=.slice (some ⟨q,0,none⟩) 3 3) (w:World):(Instr.build 276 #[(0,.agg (aI k).toArray),(1,nv)]).run prog w=.ok (.agg (eX ⟨x,nv⟩).toArray) w:=by
 subst g i
 have h:=uU [(0,.agg (aI x.key).toArray),(1,.slice (some ⟨q,0,none⟩) 3 3)] aqk D5 (by
  intro p b;have c:(Value.agg (eX AB).toArray).cells.size=33:=by rfl
  rw [c];rcases ab9.1 b with rfl|b
  ·refine ⟨0,?_,?_⟩
   ·show some (0,32)=some (0,(aI x.key).toArray.size);rw [abC,bP,hk]
   ·show 0+(aI x.key).toArray.size<=33;rw [abC,bP,hk];decide
  ·rw [acS.1 b];exact ⟨32,rfl,by show 32+1<=33;omega⟩) w
 refine h.trans ?_;have hz:ay.gu.length=32:=rfl;have a:(eX AB).length=33:=rF _ hz;have e:iK (iK (eX AB).toArray 0 (aI x.key)) 32 [.slice (some ⟨q,0,none⟩) 3 3]=(eX ⟨x,.slice (some ⟨q,0,none⟩) 3 3⟩).toArray:=by
  apply vS;rw [BI _ _ _ (by rw [pW,abC,a];exact abG 33),BI _ _ _ (by rw [abC,a,bP,hk];decide),agQ];have f:o9 (eX AB) 0 (aI x.key)=aI x.key++[.slice none 0 0]:=by
   unfold eX AB;exact Vt
  have d:=Dt (aI x.key) [.slice none 0 0] [.slice (some ⟨q,0,none⟩) 3 3] 0;rw [bP,hk,Ig aA]at d;rw [f];exact d
 exact aiX (λx=>Result.ok (Value.agg x) w) e
theorem anU (k:ay.Bs) (hk:k.length=32) (a b c:Int) (h:au w0 w F):Calls prog 165 #[.agg (aI k++[Value.int .i64 a,Value.int .i64 b,Value.int .i64 c]).toArray] w
  (bf λv w'=>∃ q,v=.agg (eX ⟨⟨k,[a,b,c]⟩,.slice (some ⟨q,0,none⟩) 3 3⟩).toArray/\au w0 w' (pt q (.cells #[.int .i64 a,.int .i64 b,.int .i64 c] 3 (0,0))::F)):=by
 refine afb ?_;intro hbs;have i:∀ w q,(Instr.build 276 #[(0,.agg (aI k).toArray),(1,.slice (some ⟨q,0,none⟩) 3 3)]).run prog w=.ok (.agg (eX ⟨⟨k,[a,b,c]⟩,.slice (some ⟨q,0,none⟩) 3 3⟩).toArray) w:=λw q=>asP k hk ⟨k,[a,b,c]⟩ rfl _ q rfl w;have d:(aI k++[Value.int .i64 a,Value.int .i64 b,Value.int .i64 c]).toArray.size=35:=by rw [abC,aay,bP,hk];rfl
 have e:∀ j v,([Value.int .i64 a,Value.int .i64 b,Value.int .i64 c]:List Value)[j]?=some v->(aI k++[Value.int .i64 a,Value.int .i64 b,Value.int .i64 c]).toArray.getD (32+j) undef=v:=λj v l=>by
  rw [alF,ab5,aiP (by rw [bP,hk];omega),bP,hk,avN,l];rfl
 have m:(prog.info? 34).map (·.size)=some (aI k).length:=by rw [bP,hk];kernel_rfl
 go_in
 go_wp2_with (apply jy);refine ⟨jB h aA aA ?_⟩;intro b1 t r;go_wp2_with (apply jd);refine ⟨iR D5 r rfl ?_⟩;intro b2 n f;replace f:au w0 n (pt b2 (.cells (eX AB).toArray 276 (0,0))::pt b1 (.cells (aI k++[Value.int .i64 a,Value.int .i64 b,Value.int .i64 c]).toArray 248 (0,0))::F):=f;have s:=f.alloc (.cells #[.int .i64 a,.int .i64 b,.int .i64 c] 3);have g:∀ q,(eX ⟨⟨k,[a,b,c]⟩,.slice (some ⟨q,0,none⟩) 3 3⟩).toArray.size=33:=λq=>qJ _ hk
 go_wp2_with (first
  |((refine dH ⟨?_⟩);first
   |refine IU (aI k) f aA bZ (λj v l=>by rw [aiO,ab5,aiS (abM.1 l).1];exact l) underlying34 rfl m ?_
   |refine jC f aA bZ (by rw [d];decide) (e 0 _ rfl) aC ?_
   |refine jC f aA bZ (by rw [d];decide) (e 1 _ rfl) aC ?_
   |refine jC f aA bZ (by rw [d];decide) (e 2 _ rfl) aC ?_)
  |(apply ako))
 refine ⟨au1 #[(0,.int .i64 a),(1,.int .i64 b),(2,.int .i64 c)] (by simp only [akg,aij,ajz];rfl) (hbs _) ?_⟩;generalize u:n.heap.size=q at *
 go_wp2_with (apply akp);refine ⟨au2 #[(0,.agg (aI k).toArray),(1,.slice (some ⟨q,0,none⟩) 3 3)] (by simp only [akg,aij,ajz];rfl) (λw=>i w q) ?_⟩;refine BJ ?_;refine ⟨jK (eX ⟨⟨k,[a,b,c]⟩,.slice (some ⟨q,0,none⟩) 3 3⟩).toArray s aA aA (by rw [g q];rfl) Xj (by rw [g q];kernel_rfl) (by unfold eX;rw [agQ,ana,yu];rfl) ?_⟩;intro x o;go_wp2;refine ⟨rfl,_,Il rfl o aA dh underlying276 rfl (by rw [g q];kernel_rfl),?_⟩;exact ⟨_,rfl,_,rfl,o.sb⟩
def mQ (rs:List RV):aO:=nP (rs.map λr=>aK 3 1 r.nv (dJ r.x.eU))
section
variable {rs:List RV}{r:RV}
theorem apS (rs:List RV) (r:RV):mQ (rs++[r])=fP (aK 3 1 r.nv (dJ r.x.eU)) (mQ rs):=by
 unfold mQ;rw [acy,zG,aij,ajz,Iw,Iu]
theorem OD (h:au w0 w (aK 3 1 r.nv (dJ r.x.eU)::mQ rs::F)):au w0 w (mQ (rs++[r])::F):=by
 rw [apS];exact au.fP.2 h
theorem H7 (hr:r∈rs) (hk:r.x.key.length=32) (hn:0<r.x.eU.length):yK w0 (mQ rs::F) r:=by
 refine ⟨hk,λw hw=>?_,hn⟩;obtain ⟨G,hG⟩:=WX (rs.map λr=>aK 3 1 r.nv (dJ r.x.eU)) _ (auS hr);have h1:au w0 w (fP (aK 3 1 r.nv (dJ r.x.eU)) G::F):=by rw [<-hG];exact hw
 exact au.rd (au.fP.1 h1)
theorem aec {q:Nat}{a b c:Int} (h:au w0 w (pt q (.cells #[.int .i64 a,.int .i64 b,.int .i64 c] 3 (0,0))::F)):au w0 w (aK 3 1 (.slice (some ⟨q,0,none⟩) 3 3) (dJ [a,b,c])::F):=
 au.pV h rfl (abG _) (abG _) aU rfl
theorem Kw {k:ay.Bs}{ns:List Int}{a:Option Addr}{n c:Nat}:(eX ⟨⟨k,ns⟩,.slice a n c⟩).toArray.toList.all (·.oneCell')=true:=by
 rw [agQ];unfold eX;rw [ana,yu];rfl
theorem aqu (us:List aJ.gX) (hl:us.length<=65536) (hr:Ro w0 F (bK 3 lv (us.flatMap dO))) (h:au w0 w F) :
  Calls prog 168 #[lv,.func (.func 169) #[] #[]] w (bf λv w'=>∃ rs:List RV,rs.map (·.x)=us.map aJ.mV/\au w0 w' (aK 276 33 v (rs.flatMap eX)::mQ rs::F)):=by
 obtain ⟨K,lc,rfl⟩:=l9 (λu _=>yD u) (hr w h) aU;have A:=uQ hr;have Hl:=uQ hl;clear hr hl;go_enter func168,ntmps168;go_wp2_with fail
 go_loopg [5,10] us.length (λg t B C=>∃ (i:Nat) (rs:List RV) (y:Value),g=us.length-i/\i<=us.length/\y=t/\B=.int .i64 i/\(rs.map (·.x)=(us.take i).map aJ.mV/\∀ r∈rs,r.x.key.length=32)/\au w0 C (aK 276 33 y (rs.flatMap eX)::mQ rs::F))
 case atStart=>exact ⟨0,[],_,rfl,acn _,rfl,rfl,⟨rfl,λr hr=>by cases hr⟩,au.iW.2 (au.ng.2 h)⟩
 case round=>
  obtain ⟨i,rs,t,rfl,hi,rfl,rfl,hrs,hS⟩:=hrel;clear h;by_cases hlt:i<us.length
  ·as_aux_lemma=>
    refine O7 ?_;intro c3 hwi;obtain ⟨u,hx⟩:∃ u,us[i]?=some u:=⟨_,aaf hlt⟩;obtain ⟨D,off,L,d,a⟩:=lV (f:=dO) (k:=3) (λu _=>yD u) (A.o _ hS.drop.drop) hx aU;cases d;refine aeU ?_;intro dP yI jl zK;clear hx hlt hi hrs
    go_wp2_with (first
     |((with_reducible refine dH ⟨?_⟩);refine kQ (b:=D) (o:=off+i*3) (dO u) aA a underlying205 rfl aC ?_)
     |(with_reducible apply jd))
    refine ⟨iR Le hS rfl ?_⟩;intro M N z;clear hS a;refine BJ ?_;refine ⟨jK (dO u).toArray z aA aA aA eu aC aA ?_⟩;intro O j;clear z;go_wp2_with ((with_reducible refine dH ⟨?_⟩);refine kG j aA bJ underlying205 rfl aC ?_);refine (auJ u.aZ u.size u.live j).mono ?_;rintro P E ⟨v,rfl,q,rfl,c⟩;clear j;have l:=aec c;clear c
    go_wp2_with (first
     |((with_reducible refine rV ⟨?_⟩);refine rJ (e:=276) (sz:=33) (je:=56) (cs:=(eX ⟨aJ.mV u,.slice (some ⟨q,0,none⟩) 3 3⟩).toArray) aC l aA rfl (qJ ⟨aJ.mV u,.slice (some ⟨q,0,none⟩) 3 3⟩ rfl) dG ?_;intro Q R G)
     |(with_reducible apply oK))
    refine ⟨sJ (cs:=(eX ⟨aJ.mV u,.slice (some ⟨q,0,none⟩) 3 3⟩).toArray) 276 33 56 aC G aA aA (bW (bW (bW bJ))) bJ (qJ ⟨aJ.mV u,.slice (some ⟨q,0,none⟩) 3 3⟩ rfl) dG Kw zK.o (by rw [qJ ⟨aJ.mV u,.slice (some ⟨q,0,none⟩) 3 3⟩ rfl];decide) dG rfl ?_⟩;intro H I J m n;go_wp2_with fail
    go_roundg (us.length-(i+1))
    case measure=>have:=dP.o;omega
    case rel=>
     refine ⟨i+1,rs++[⟨aJ.mV u,.slice (some ⟨q,0,none⟩) 3 3⟩],_,rfl,aiW dP.o,rfl,by first|rfl|go_num,⟨?_,?_⟩,?_⟩
     ·rw [acy,jl.o,acy,yI.o.1];rfl
     ·intro r hr;rcases ahc.1 hr with hr|hr
      ·exact yI.o.2 r hr
      ·rw [acS.1 hr];exact rfl
     ·rw [ai5,aiN,am6,ahB];have s:au w0 m (aK 3 1 (.slice (some ⟨q,0,none⟩) 3 3) (dJ (aJ.mV u).eU)::mQ rs::aK 276 33 (.slice (some ⟨H,0,none⟩) I J) (rs.flatMap eX++eX ⟨aJ.mV u,.slice (some ⟨q,0,none⟩) 3 3⟩)::F):=n.sb;exact (OD (r:=⟨aJ.mV u,.slice (some ⟨q,0,none⟩) 3 3⟩) s).sb
  ·exact afe
theorem aqt (us:List (ay.Bs×aB.bT)) (hl:us.length<=65536) (hk:∀ q∈us,q.1.length=32) (hr:Ro w0 F (bK 35 lv (us.flatMap jU))) (h:au w0 w F) :
  Calls prog 164 #[lv,.func (.func 165) #[] #[]] w (bf λv w'=>∃ rs:List RV,rs.map (·.x)=us.map aJ.mO/\au w0 w' (aK 276 33 v (rs.flatMap eX)::mQ rs::F)):=by
 have j:=uQ hk;clear hk;obtain ⟨N,lc,rfl⟩:=l9 (λu l=>qH u (j.o u l)) (hr w h) aU;have D:=uQ hr;have Hl:=uQ hl;clear hr hl;go_enter func164,ntmps164;go_wp2_with fail
 go_loopg [5,10] us.length (λg A E G=>∃ (i:Nat) (rs:List RV) (B:Value),g=us.length-i/\i<=us.length/\B=A/\E=.int .i64 i/\(rs.map (·.x)=(us.take i).map aJ.mO/\∀ r∈rs,r.x.key.length=32)/\au w0 G (aK 276 33 B (rs.flatMap eX)::mQ rs::F))
 case atStart=>exact ⟨0,[],_,rfl,acn _,rfl,rfl,⟨rfl,λr hr=>by cases hr⟩,au.iW.2 (au.ng.2 h)⟩
 case round=>
  obtain ⟨i,rs,A,rfl,hi,rfl,rfl,hrs,hS⟩:=hrel;clear h;by_cases hlt:i<us.length
  ·as_aux_lemma=>
    refine O7 ?_;intro c3 hwi;obtain ⟨u,hx⟩:∃ u,us[i]?=some u:=⟨_,aaf hlt⟩;obtain ⟨H,off,O,m,c⟩:=lV (f:=jU) (k:=35) (λu l=>qH u (j.o u l)) (D.o _ hS.drop.drop) hx aU;cases m;refine aeU ?_;intro dP yI jl zK;have a:=uQ (j.o u (abH hx));clear hx hlt hi hrs
    go_wp2_with (first
     |((with_reducible refine dH ⟨?_⟩);refine kQ (b:=H) (o:=off+i*35) (jU u) aA c underlying248 rfl (by rw [qH _ a.o];kernel_rfl) ?_)
     |(with_reducible apply jd))
    refine ⟨iR Qy hS rfl ?_⟩;intro P Q C;clear hS c;refine BJ ?_;refine ⟨jK (jU u).toArray C aA aA (by rw [abC,qH _ a.o];rfl) eu (by rw [abC,qH _ a.o];kernel_rfl) (by rw [agQ];exact JG u) ?_⟩;intro R n;clear C;go_wp2_with ((with_reducible refine dH ⟨?_⟩);refine kG n aA bJ underlying248 rfl (by rw [abC,qH _ a.o];kernel_rfl) ?_);refine (anU u.1 a.o u.2.aZ u.2.aP u.2.size n).mono ?_;rintro S I ⟨v,rfl,q,rfl,d⟩;clear n;have s:=aec d;clear d
    go_wp2_with (first
     |((with_reducible refine rV ⟨?_⟩);refine rJ (e:=276) (sz:=33) (je:=56) (cs:=(eX ⟨aJ.mO u,.slice (some ⟨q,0,none⟩) 3 3⟩).toArray) aC s aA rfl (qJ ⟨aJ.mO u,.slice (some ⟨q,0,none⟩) 3 3⟩ a.o) dG ?_;intro T U J)
     |(with_reducible apply oK))
    refine ⟨sJ (cs:=(eX ⟨aJ.mO u,.slice (some ⟨q,0,none⟩) 3 3⟩).toArray) 276 33 56 aC J aA aA (bW (bW (bW bJ))) bJ (qJ ⟨aJ.mO u,.slice (some ⟨q,0,none⟩) 3 3⟩ a.o) dG Kw zK.o (by rw [qJ ⟨aJ.mO u,.slice (some ⟨q,0,none⟩) 3 3⟩ a.o];decide) dG rfl ?_⟩;intro K L M t y;go_wp2_with fail
    go_roundg (us.length-(i+1))
    case measure=>have:=dP.o;omega
    case rel=>
     refine ⟨i+1,rs++[⟨aJ.mO u,.slice (some ⟨q,0,none⟩) 3 3⟩],_,rfl,aiW dP.o,rfl,by first|rfl|go_num,⟨?_,?_⟩,?_⟩
     ·rw [acy,jl.o,acy,yI.o.1];rfl
     ·intro r hr;rcases ahc.1 hr with hr|hr
      ·exact yI.o.2 r hr
      ·rw [acS.1 hr];exact a.o
     ·rw [ai5,aiN,am6,ahB];have z:au w0 t (aK 3 1 (.slice (some ⟨q,0,none⟩) 3 3) (dJ (aJ.mO u).eU)::mQ rs::aK 276 33 (.slice (some ⟨K,0,none⟩) L M) (rs.flatMap eX++eX ⟨aJ.mO u,.slice (some ⟨q,0,none⟩) 3 3⟩)::F):=y.sb;exact (OD (r:=⟨aJ.mO u,.slice (some ⟨q,0,none⟩) 3 3⟩) z).sb
  ·exact afe
end
end Go.Proofs.Y
namespace Go.aH
open Go.aG
open Go.aB (aS ny Holds HG qP dL bT)
open Go.ay (fO bU gV iJ aT)
open Go.aJ (gX)
section
variable {n K r E B c:Nat}{L:aS}{M:aG}{C:List (List aT)}{N:Int}{us:List gX}{ps:List (Bs×bT)}
theorem qP.size (h:qP L c us ps){s:Int} (hs:s∈L.aX.take c):L.size s<=33554432:=by
 rw [<-h.aX]at hs;obtain ⟨u,hu,rfl⟩:=abI.1 hs;obtain ⟨_,_,h3,h4⟩:=h.kJ u hu;omega
theorem qP.gY (h:qP L c us ps) (hL:L.Ok) (hl:ps.length<=65536):bH.Ok 3 true (ps.map aJ.mO):=by
 refine ⟨by rw [abl];exact hl,λr n=>?_,λi a b f g=>?_⟩
 ·obtain ⟨q,j,rfl⟩:=abI.1 n;obtain ⟨p1,p2,p3,p4⟩:=h.plc q j;have w:=qP.size h p4;have d:=ajq p4;obtain ⟨x,e,o⟩:=abI.1 d;have s:=hL.eU x e;refine ⟨h.key q j,rfl,λm l=>?_⟩;simp only [aJ.mO,ab9,ajW,av2]at l;rcases l with rfl|rfl|rfl <;> omega
 ·rw [ab4]at f g;obtain ⟨x,e,rfl⟩:=amV.1 f;obtain ⟨y,t,rfl⟩:=amV.1 g;obtain ⟨u,rfl⟩:=abM.1 e;obtain ⟨v,rfl⟩:=abM.1 t;unfold bH.ahead;rw [abL rfl];exact ao3.1 h.jA i (i+1) u v oQ
theorem qP.Cb (h:qP L c us ps) (hL:L.Ok) (hl:us.length<=65536):bH.Ok 3 false (us.map aJ.mV):=by
 have d:(us.map (·.aZ)).Pairwise (· < ·):=by
  rw [h.aX];exact (aB.Fp hL).sublist (List.take_sublist _ _)
 refine ⟨by rw [abl];exact hl,λr o=>?_,λi a b g j=>?_⟩
 ·obtain ⟨u,l,rfl⟩:=abI.1 o;obtain ⟨p1,p2,p3,p4⟩:=h.kJ u l;have e:=ajq (by rw [<-h.aX];exact abI.2 ⟨u,l,rfl⟩);obtain ⟨x,f,s⟩:=abI.1 e;have t:=hL.eU x f;refine ⟨rfl,rfl,λm n=>?_⟩;simp only [aJ.mV,ab9,ajW,av2]at n;rcases n with rfl|rfl|rfl <;> omega
 ·rw [ab4]at g j;obtain ⟨x,f,rfl⟩:=amV.1 g;obtain ⟨y,v,rfl⟩:=amV.1 j;obtain ⟨w,rfl⟩:=abM.1 f;obtain ⟨z,rfl⟩:=abM.1 v;unfold bH.ahead;rw [abB aU];have:=ao3.1 d i (i+1) (by rw [abl];exact w) (by rw [abl];exact z) oQ;rw [List.getElem_map,List.getElem_map]at this;exact this
end
structure Hd (T:y9) (P:ByteArray->Prop) (K:Nat) (M:aG):Prop where
 ok:M.Ok K
 nm:∀ k,k<=M.waits.length->(∀ t∈T,dN (M.vO k) t.1=some t.2.1)/\∀ p∈M.vO k,(∃ t∈T,p.1=t.1)\/P p.1
 fil:∀ t∈T,M.file t.2.1=t.2.2
section
variable {n K r E B c:Nat}{L:aS}{M M':aG}{C:List (List aT)}{N:Int}{us:List gX}{ps:List (Bs×bT)}{b1 b2:ay.Bs}
theorem Ou:∀ (l:List ByteArray) (x:Int),x<=N->(∀ s∈l,(iD s).2=true->(iD s).1=N)->(x=N\/∃ s∈l,(iD s).2=true)->Af l x=N
 |[],x,_,_,h=>by
  rcases h with h|⟨s,b,_⟩
  ·exact h
  ·cases b
 |s::l,x,hx,hl,h=>by
  show Af l (if (iD s).2=true then max x (iD s).1 else x)=N;by_cases b:(iD s).2=true
  ·rw [abL b,hl s (.head _) b,Int.max_eq_right hx];exact Ou l N (avf _) (λt a=>hl t (.tail _ a)) (.inl rfl)
  ·rw [abB b];refine Ou l x hx (λt a=>hl t (.tail _ a)) ?_;rcases h with h|⟨t,a,c⟩
   ·exact .inl h
   ·rcases ab9.1 a with rfl|a
    ·exact absurd c b
    ·exact .inr ⟨t,a,c⟩
theorem qP.zB (h:qP L c us ps) (hL:L.Ok):∀ q∈ps,aH.zB q.2 (aH.nY us)=true/\IntKind.i64.wrap (aH.nY us q.2.aZ-q.2.aP)=aH.nY us q.2.aZ-q.2.aP:=λq hq=>by
 obtain ⟨p1,p2,p3,p4⟩:=h.plc q hq;have hz:=qP.size h p4;have hnd:(us.map (·.aZ)).Nodup:=by
  rw [h.aX];exact (((aB.Fp hL).sublist (List.take_sublist _ _)).imp λ{a b} hab=>by omega)
 have hm:q.2.aZ∈us.map (·.aZ):=by rw [h.aX];exact p4
 obtain ⟨u,hu,he⟩:=abI.1 hm;obtain ⟨_,_,u3,_⟩:=h.kJ u hu;have hs:aH.nY us q.2.aZ=L.size q.2.aZ:=by rw [<-he,atA hnd hu,u3]
 rw [hs];refine ⟨?_,abR _ oQ⟩;unfold aH.zB;rw [aiC p1,aiC p2,hs,aiC (by omega:q.2.size<=L.size q.2.aZ-q.2.aP)]
 rfl
end
end Go.aH
namespace Go.aY
open Go.ay (Bs)
section
variable {α V:Type}{m:Bs->Option V}{k:Bs}{v:V}
theorem Oi [DecidableEq α]:∀ {l l':List α},l.Nodup->(∀ x∈l,x∈l')->l.length<=l'.length
 |[],_,_,_=>acn _
 |a::l,l',hd,hs=>by
  obtain ⟨d,f⟩:=ao5.1 hd;have b:=hs a (.head _);have g:=Oi f (λx c=>(List.mem_erase_of_ne (λe:x=a=>d (by rw [<-e];exact c))).2 (hs x (.tail _ c)));rw [List.length_erase_of_mem b]at g;have:=List.length_pos_of_mem b;rw [aiT];omega
theorem aoO {t:Tb V} (h:t.Ok) (hi:t.Is m){kv:List (Bs×V)} (hl:kE m kv):t.n=kv.length:=by
 have s:((t.bG.filter λx=>x.st==1).map (·.key)).Nodup:=by
  rw [List.nodup_iff_pairwise_ne,akC,List.pairwise_filter,ao3];intro i j hi u v p1 p2 e;have:=h.dW.yS (aaf hi) (aaf u) (by simpa using p1) (by simpa using p2) e;omega
 have hn:t.n=((t.bG.filter λx=>x.st==1).map (·.key)).length:=by
  rw [abl,h.n];unfold oW;rw [List.countP_eq_length_filter]
 have w:=hl.keys;have a:∀ x∈(t.bG.filter λx=>x.st==1).map (·.key),x∈kv.map (·.1):=λx b=>by
  obtain ⟨y,z,rfl⟩:=abI.1 b;obtain ⟨c,d⟩:=ai4.1 z;obtain ⟨i,f,g⟩:=aqj c;have:m y.key=some y.val:=(hi _ _).1 ⟨i,y,by rw [aaf f,g],by simpa using d,rfl,rfl⟩;exact abI.2 ⟨(y.key,y.val),(hl.mem _ _).2 this,rfl⟩
 have l:∀ x∈kv.map (·.1),x∈(t.bG.filter λx=>x.st==1).map (·.key):=λx b=>by
  obtain ⟨q,A,rfl⟩:=abI.1 b;obtain ⟨i,y,c,d,B,C⟩:=(hi q.1 q.2).2 ((hl.mem q.1 q.2).1 A);exact abI.2 ⟨y,ai4.2 ⟨abH c,by simpa using d⟩,B⟩
 have o:=Oi s a;have r:=Oi w l;rw [abl]at o r hn;rw [abl]at o r;omega
def PZ (k:Bs) (b:V):List (Bs×V)->Bool->List (Bs×V)
 |[],done=>if done then [] else [(k,b)]
 |x::m,done=>(if !done && !decide (x.1<k) then [(k,b)] else [])++((if x.1≠k then [x] else [])++PZ k b m (done || !decide (x.1<k)))
theorem WQ (k:Bs) (b:V):∀ l:List (Bs×V),PZ k b l true=l.filter λx=>decide (x.1≠k)
 |[]=>rfl
 |x::l=>by
  unfold PZ;rw [Bool.true_or,WQ k b l,anT];simp only [Bool.not_true,Bool.false_and,ajI,auQ,ajc];by_cases h:x.1=k
  ·simp [h]
  ·simp [h]
theorem aar {l:List (Bs×V)} (h:kE m l) (b:V):kE (qo m k) (PZ k b l true):=by
 rw [WQ];refine ⟨h.jA.sublist auR,λk' v'=>?_⟩;rw [ai4,h.mem];unfold qo;constructor
 ·rintro ⟨e,f⟩;rw [abB (by simpa using f)];exact e
 ·intro e;split at e
  ·cases e
  ·rename_i hk;exact ⟨e,by simpa using hk⟩
end
end Go.aY
namespace Go.aB
open Go.aG
open Go.ay (Bs aT bU gV)
open Go.aJ
structure Rp (K r E B n:Nat) (L:aS) (M:aG) (C:List (List aT)):Prop where
 hg:HG K r E B n L M C
 tmp:dN M.aN aH.tmp=none
 rE:C.flatten.length<=n
 qK:∀ p∈M.aN,p.1.size<=24
 uV:∀ e∈C.flatten,e.data.length<=300
section
variable {K r E B n:Nat}{L:aS}{M M':aG}{C:List (List aT)}{x:aT}
theorem adP (k:Int):(name k).size<=24:=by
 rcases aH.PX k with z|⟨z,_⟩
 ·rw [z];decide
 ·rw [z];decide
theorem Xf {l:List aT} (h:∀ e∈l,e.data.length<=300) (hd:x.data.length<=300):∀ e∈l++[x],e.data.length<=300:=λe he=>by
 rcases ahc.1 he with he|he
 ·exact h e he
 ·rw [acS.1 he];exact hd
end
section
variable {K r E B n:Nat}{L:aS}{M:aG}{C:List (List aT)}{k:Bs}{pl:bT}
theorem am0 (hk:k.length=32) (d:Bs) (hd:d.length<=300):(ay.dI ⟨0,k,d⟩).2=0:=ahK (d:=⟨0,k,d⟩) hk hd
theorem amZ (hk:k.length=32):(ay.dI ⟨1,k,[]⟩).2=0:=ahK (d:=⟨1,k,[]⟩) hk (acn _)
end
section
variable {K r E B n:Nat}{L:aS}{M:aG}{C C0:List (List aT)}{x:aT}
theorem ny.aki (h:ny K r L M) (o:(ay.dI x).2=0) (n:(L.append M x).2.2=0):(L.append M x).1.1.on=true/\(L.append M x).1.1.dK=L.dK+(if L.fC (ay.dI x).1.length=true then 0 else 1):=by
 cases hfi:L.fC (ay.dI x).1.length with
 |true=>
  rw [aS.Em o hfi]at n ⊢;have a:=Gz hfi;have⟨s,i⟩:=h.lD.last a;unfold aS.grow at n ⊢;rw [i]at n ⊢;simp only at n ⊢;split at n
  ·rename_i g;rw [abL g];exact ⟨a,by simp⟩
  ·rename_i g;exact absurd n g
 |false=>
  rw [aS.CS o hfi]at n ⊢;have⟨_,j,_,l,_⟩:=h.fA;unfold aS.begin at n ⊢;rw [abL j]at n ⊢;generalize (L.fA M).1.1=b at *
  generalize (L.fA M).1.2=e at *
  unfold aS.nC at n ⊢;by_cases f:1048576<=b.next
  ·rw [abL f]at n;exact absurd (show (16:Int)=0 from n) aU
  rw [abB f]at n ⊢;by_cases c:(e.dM (name b.next)).2=0;rotate_left
  ·rw [abL c]at n;exact absurd n c
  rw [abB (λq=>q c)]at n ⊢;by_cases d:((e.dM (name b.next)).1.append (name b.next) (dL++(ay.dI x).1)).2=0
  ·rw [abL d];exact ⟨rfl,by simp only;rw [l];simp⟩
  rw [abB d]at n;split at n
  ·simp only at n;split at n
   ·exact absurd n aU
   ·rename_i m;exact absurd n m
  ·exact absurd n d
theorem akl {L:aS}{M:aG}{x:aT} (h0:(ay.dI x).2=0) (hz:(L.append M x).2.2≠0) (ho:(L.append M x).1.1.on=true):L.on=true:=by
 cases hf:L.fC (ay.dI x).1.length with
 |true=>exact aB.Gz hf
 |false=>
  rw [aS.CS h0 hf]at hz ho;have hs:(L.fA M).1.1.on=true->L.on=true:=by
   unfold aS.fA;split
   ·exact λe=>e
   ·split
    ·rename_i q;exact λ_=>q
    ·exact λe=>e
  unfold aS.begin at hz ho;split at ho
  ·rename_i e2;rw [abL e2]at hz;unfold aS.nC at hz ho;split at ho;· exact hs ho
   rename_i g1;rw [abB g1]at hz;split at ho;· exact hs ho
   rename_i g2;rw [abB g2]at hz;split at ho
   ·rename_i g3;rw [abL g3]at hz;exact absurd rfl hz
   split at ho <;> exact hs ho
  ·exact hs ho
end
open Go.aG
open Go.ay (Bs aT bU gV iJ)
open Go.aJ
section
variable {K r E B n:Nat}{L:aS}{M:aG}{D:List (Nat×List aT)}{d:Nat×List aT}{x:aT}
theorem HD.Fh (h:HD K r E B n L M D):jP (λs=>L.bytes M s) L.aX=ig D:=by
 have key:∀ b:List (Nat×List aT),(∀ d∈b,d∈D)->jP (λs=>L.bytes M s) (b.map λd=>(d.1:Int))=ig b:=by
  intro b
  induction b with
  |nil=>exact λ_=>rfl
  |cons y b i=>
   intro c;have e:=c y (.head _);have m:=agL [y.2] y.1 λj es g=>by
    cases j with
    |zero=>cases g;exact ⟨h.bytes e,(h.dW y e).1⟩
    |succ j=>simp at g
   have o:jP (λs=>L.bytes M s) [(y.1:Int)]=(iJ y.2 8).map λf=>((y.1:Int),f):=by
    have t:Aq y.1 [y.2]=(iJ y.2 8).map λf=>((y.1:Int),f):=by unfold Aq;unfold Aq;rw [ahB]
    rw [<-t];exact m
   have u:∀ (a:Int) (l:List Int),jP (λs=>L.bytes M s) (a::l)=jP (λs=>L.bytes M s) [a]++jP (λs=>L.bytes M s) l:=λa l=>by
    unfold jP;simp
   rw [aij,u,o,i λd hd=>c d (.tail _ hd)]
   rfl
 rw [h.aX];exact key D λd hd=>hd
theorem arR (C:List (List aT)):ig (Ag C)=Aq 0 C:=by
 have key:∀ (C:List (List aT)) (k:Nat),ig (C.mapIdx λi es=>(i+k,es))=Aq k C:=by
  intro C
  induction C with
  |nil=>exact λ_=>rfl
  |cons es C ih=>
   intro k;have e:(es::C).mapIdx (λi es=>(i+k,es))=(k,es)::C.mapIdx λi es=>(i+(k+1),es):=by
    rw [List.mapIdx_cons]
    congr 1
    ·rw [aiO]
    ·congr 1
     funext i es
     rw [show i+1+k=i+(k+1) by omega]
   rw [e];unfold Aq;rw [<-ih (k+1)];unfold ig;rw [aiN]
 exact key C 0
theorem HD.qm (h:HD K r E B n L M D):aJ.qm (λs=>L.bytes M s) L.aX=none:=by
 refine aJ.akJ λj s a=>?_;rw [h.aX,ab4]at a;cases hq:D[j]? with
 |none=>rw [hq]at a;cases a
 |some y=>
  rw [hq]at a;cases a;have b:=abH hq;exact ⟨_,h.bytes b,(h.dW y b).1⟩
end
open Go.aG
open Go.ay (Bs aT bU gV)
open Go.aJ
def qj (M M':aG):Prop:=∀ t,(∀ k:Int,t≠name k)->M'.all t=M.all t
section
variable {K r E B n:Nat}{L:aS}{M M' M2:aG}{C C0:List (List aT)}{x:aT}
theorem qj.refl (M:aG):qj M M:=λ_ _=>rfl
theorem qj.trans (h:qj M M') (k:qj M' M2):qj M M2:=λt ht=>(k t ht).trans (h t ht)
theorem Zl (h:gU K r M) (k:Int) (b:Bs):qj M (M.append (name k) b).1:=λt c=>by
 rcases zS h.fE (name k) b with ⟨_,q⟩|⟨j,d,⟨e,a⟩|⟨e,a⟩⟩
 ·rw [q]
 ·rw [a]
 ·exact (MF h d b oQ).2.2.2.2 t (c k)
theorem aly (h:gU K r M) (k:Int):qj M (M.dM (name k)).1:=λt a=>by
 rcases Gs h.fE (name k) with ⟨_,_,q⟩|⟨b,c,d,_⟩
 ·rw [q]
 ·exact (MW h b c d).2.2.2.2 t (a k)
theorem arn (h:gU K r M) (k:Int):qj M (M.dA (name k)).1:=λt ht=>by
 cases hi:dN M.aN (name k) with
 |none=>
  have:M.dA (name k)=(M,9):=by unfold aG.dA;rw [h.fE.off,hi];rfl
  rw [this]
 |some i=>exact (aH.Kq h hi).2.2.1 t (ht k)
theorem aub (h:gU K r M) (s:ByteArray):qj M (M.dY s).1:=λt _=>(Qa h.ok h.fE s).all t
theorem atw (h:gU K r M) (L:aS):qj M (L.fA M).1.2/\gU (K+1) r (L.fA M).1.2:=by
 unfold aS.fA;split;· exact ⟨qj.refl M,h.mono oQ⟩
 split
 ·split <;> exact ⟨aub h _,(h.dY _).mono oQ⟩
 ·exact ⟨qj.refl M,h.mono oQ⟩
theorem akO (h:gU K r M) (L:aS) (b:Bs):qj M (L.nC M b).1.2:=by
 have c:=aly h L.next;have d:=h.dM (name L.next);have a:=c.trans (Zl d L.next (dL++b));have e:=d.append (name L.next) (dL++b);unfold aS.nC;split;· exact qj.refl M
 split;· exact c
 split;· exact a
 split
 ·exact a.trans (arn e _)
 ·exact a
theorem aoA (h:gU K r M) (L:aS) (x:aT):qj M (L.append M x).1.2:=by
 unfold aS.append;split;· exact qj.refl M
 split
 ·unfold aS.grow;split
  ·exact qj.refl M
  ·split <;> exact Zl h _ _
 ·obtain ⟨s1,s2⟩:=atw h L;unfold aS.begin;split
  ·exact s1.trans (akO s2 _ _)
  ·exact s1
end
structure HF (M:aG) (N:Int) (pl:List (Bs×bT)) (us:List gX):Prop where
 yS:M.all (aH.name aH.gY N)=(bH.jM Xx.sum bH.xH true (pl.map mO),0)
 KL:M.all (aH.name aH.kJ N)=(bH.jM Xx.sum bH.xI false (us.map mV),0)
 bD:∀ p∈M.aN,(aH.iD p.1).2=true->(aH.iD p.1).1=N
def NF (M:aG):Prop:=∀ p∈M.aN,(aH.iD p.1).2=false
section
variable {K r E B n r0 B0:Nat}{L:aS}{M M':aG}{C C0:List (List aT)}{N:Int}{us:List gX}{pl:List (Bs×bT)}
theorem HF.apart (h:HF M N pl us) (a:qj M M') (g:aH.kS M M') (h1:0<=N) (h2:N<1048576):HF M' N pl us:=
 ⟨(a _ λk e=>aH.WM k N h1 h2 e.symm).trans h.yS,(a _ λk e=>aH.WO k N h1 h2 e.symm).trans h.KL,λp hp hn=>by
  rcases g p hp with q|⟨k,q⟩
  ·exact h.bD p q hn
  ·rw [q,aH.E8]at hn;cases hn⟩
theorem NF.apart (h:NF M) (g:aH.kS M M'):NF M':=λp hp=>by
 rcases g p hp with q|⟨k,q⟩
 ·exact h p q
 ·rw [q,aH.E8]
end
section
variable {K r E B n:Nat}{L:aS}{M M':aG}{C:List (List aT)}{N:Int}{us:List gX}{pl:List (Bs×bT)}
theorem NF.iC (h:NF M) (q:jL M):aH.iC M = -1:=by
 show aH.Af M.list (-1) = -1;rw [q.list];refine aH.Ou _ _ (avf _) (λt ht he=>?_) (.inl rfl);obtain ⟨p,hp,rfl⟩:=abI.1 ht;rw [h p hp]at he;cases he
theorem HF.iC (h:HF M N pl us) (q:jL M) (h1:0<=N) (h2:N<1048576):aH.iC M=N:=by
 show aH.Af M.list (-1)=N;rw [q.list];obtain ⟨i,hi⟩:=(aH.yh q).1 (aiX Prod.snd h.yS);refine aH.Ou _ _ oQ (λt ht he=>?_) (.inr ⟨_,abI.2 ⟨_,lZ hi,rfl⟩,by rw [aH.Ah (.inl aH.EM) N h1 h2]⟩);obtain ⟨p,hp,rfl⟩:=abI.1 ht;exact h.bD p hp he
theorem NF.there (h:NF M) (q:jL M) (h1:0<=N) (h2:N<1048576):aH.there M (aH.name aH.gY N)=false:=by
 cases hi:dN M.aN (aH.name aH.gY N) with
 |none=>exact aH.Xe q hi
 |some i=>
  have:=h _ (lZ hi);rw [aH.Ah (.inl aH.EM) N h1 h2]at this;cases this
theorem HF.there (h:HF M N pl us) (q:jL M):aH.there M (aH.name aH.gY N)=true/\aH.there M (aH.name aH.kJ N)=true:=by
 obtain ⟨i,hi⟩:=(aH.yh q).1 (aiX Prod.snd h.yS);obtain ⟨j,hj⟩:=(aH.yh q).1 (aiX Prod.snd h.KL);exact ⟨aH.ahJ q hi,aH.ahJ q hj⟩
structure Y7 (L:aS) (N:Int) (us:List gX) (pl:List (Bs×bT)):Prop where
 key:∀ q∈pl,q.1.length=32
 gY:bH.Ok 3 true (pl.map mO)
 Cb:bH.Ok 3 false (us.map mV)
 fC:aH.fC L us N=true
 zB:∀ q∈pl,aH.zB q.2 (aH.nY us)=true/\IntKind.i64.wrap (aH.nY us q.2.aZ-q.2.aP)=aH.nY us q.2.aZ-q.2.aP
 tail:(L.aX.filter λs=>decide (N<s))=[]
end
end Go.aB
namespace Go.aH
open Go.aG
def rC (s:ByteArray):Bool:=(iD s).2 || s.data.toList==tmp.data.toList
end Go.aH
namespace Go.AO
open Go.ay (Bs fO aT iJ bU gV)
open Go.aB (bT)
open Go.aJ
def U3:List fO->Int
 |[]=>0
 |f::l=>(if f.e.dB=2 then 0 else (f.size:Int))+U3 l
abbrev Kv:=List Int×bT
def N9 (m:Bs->Option Kv) (k:Bs):Kv:=(m k).getD ([],bT.zero)
def aox (c:List Int) (s t:Int):List Int:=if t=0/\c.getLast?≠some s then c++[s] else c
def aun (m:Bs->Option Kv) (r:fZ):Bs->Option Kv:=aY.put m (kD r) (aox (N9 m (kD r)).1 r.1 (iV r),pF r)
def auo (m:Bs->Option Kv) (r:fZ):Bs->Option Kv:=if iV r=2 then m else aun m r
structure zQ where
 last:Int
 aX:List (Int×List fO)
 keys:Bs->Option Kv
 index:Bs->Option bT
def aeu (a b:bT):Bool:=a.aZ==b.aZ && (a.aP==b.aP && a.size==b.size)
def yM (P:zQ) (gs:List Int) (s:Int) (f:fO):Bool:=
 if f.e.dB=2 then false
 else if f.e.dB=0 then match P.index f.e.key with
  |some p=>aeu p ⟨s,f.aP,f.size⟩
  |none=>false
 else aeu (N9 P.keys f.e.key).2 ⟨s,f.aP,f.size⟩ && (N9 P.keys f.e.key).1.any λt=>decide (t<s) && !gs.contains t
def adr (P:zQ) (gs:List Int) (s:Int):List fO->Int
 |[]=>0
 |f::l=>(if yM P gs s f=true then (f.size:Int) else 0)+adr P gs s l
def atN (P:zQ) (gs:List Int) (pc:Int) (x:Int×List fO):Bool:=
 if U3 x.2=0 then decide (0<pc) && (decide (x.1≠P.last) || decide (0<gs.length)) else decide (100*adr P gs x.1 x.2<pc*U3 x.2)
def adZ (P:zQ) (gs:List Int) (pc:Int) (l:List (Int×List fO)):List Int:=(l.filter λx => !gs.contains x.1 && atN P gs pc x).map (·.1)
def choose (P:zQ) (pc:Int):Nat->List Int->List Int
 |0,gs=>gs
 |n+1,gs=>if adZ P gs pc P.aX=[] then gs else choose P pc n (gs++adZ P gs pc P.aX)
def aos (rs:List fZ):Bs->Option Kv:=rs.foldl auo λ_=>none
section
variable {R:List fZ}{k:Bs}{r x:fZ}{m:Bs->Option Kv}{gs:List Int}{P:zQ}
abbrev GU (k:Bs) (r:fZ):Prop:=iV r≠2/\kD r=k
def copy (P:zQ) (gs:List Int) (R:List fZ):List fZ:=R.filter λr=>gs.contains r.1 && yM P gs r.1 r.2
end
end Go.AO
namespace Go
open Go
theorem agb(h:A:=by
 generalize ay.read (l.drop aP)=r at *
 obtain ⟨e,n,er⟩:=r;obtain rfl:er=0:=hz;have Hn:=uQ (show 9<=n/\n<=l.length-aP from ⟨fV.o.1,hN⟩);have kV:=uQ (show e.key.length=32 from Ec.o);clear hN vH Ec fV
 try clear hz
 simp only at yJ hS2;have hw:IntKind.i64.wrap ((aP:Int)+(n:Int))=((aP+n:Nat):Int):=by
  rw [abR _ (by have:=Hn.o;have:=Hl.o;omega)];omega
 have hlen:(jw fs).length<=2147483648:=by
  rw [Tn sK.o];have:=vk.o;have:=Hl.o;omega
 go_wp2_with (first
  |((with_reducible refine ql ⟨?_⟩);refine qA aQ ?_;intro bE wE hE)|((with_reducible refine mY ⟨?_⟩);first|(refine jk aQ aA aA fQ fJ sQ ?_;intro wS hS)|(refine jk (e:=ay.iL) (da:=none) (dn:=0) (dc:=0) aQ aA aA rfl fJ sQ ?_;intro wS hS))|((with_reducible refine xA ⟨?_⟩);refine xU aQ aA dh fQ ?_)
  |((with_reducible refine MG ⟨?_⟩);refine Qp aA aA aA (λw=>ag1 e kV.o da _ dc aP n w) ?_)
  |((with_reducible refine rV ⟨?_⟩);refine rJ (e:=154) (sz:=36) (je:=80) aC aQ aF (cs:=nU ⟨e,aP,n⟩ (.slice da e.data.length dc)) rfl (xB _ _ kV.o) dG ?_;intro bN wN hN)
  |((with_reducible refine oK ⟨?_⟩);refine sJ 154 36 80 aC aQ aA aA dh dh ((xB _ _ kV.o).trans aU) (abG 1) (Jm _ _ _ _) hlen (by rw [xB _ _ kV.o];decide) aU rfl ?_;intro bA nA cA wA hA))
 go_roundg (l.length-(aP+n))
 case measure=>have:=Hn.o;omega
 case rel=>
  refine ⟨aP+n,fs++[(⟨e,aP,n⟩,.slice da e.data.length dc)],rfl,by have:=Hn.o;have:=vk.o;omega,by rw [aay,ai8];have:=vk.o;have:=Hn.o;omega,by first|rfl|go_num,?_,⟨k,by have:=Hn.o;have:=Hk.o;omega,?_⟩,?_⟩
  ·intro p hp;rw [ahc]at hp;rcases hp with hp|hp
   ·exact sK.o p hp
   ·rw [acS]at hp;subst hp;exact kV.o
  ·rw [yJ.o,acy,ab6];rfl
  ·rw [aa9,aal];have e9:jw [((⟨e,aP,n⟩:ay.fO),Value.slice da e.data.length dc)]=(nU ⟨e,aP,n⟩ (.slice da e.data.length dc)).toList:=by
    unfold jw nU;simp
   rw [e9];have h10:au w0 wA (cZ (.slice da e.data.length dc) e.data::kT fs::aK 154 36 (.slice (some ⟨bA,0,none⟩) nA cA) (jw fs++(nU ⟨e,aP,n⟩ (.slice da e.data.length dc)).toList)::F):=hA.sb;exact (au.fP.2 h10).bZ):A:=h
theorem afA(h:A:=by
 have hfin:=uQ (show ay.sG l=fs.map (·.1)++ay.wU k (l.drop (aP+1)) (aP+1) by
  rw [vH.o];simp only [ay.wU];rw [abB vC.o,abL hz,apl])
 have c9:((ay.read (l.drop aP)).2.2 != 0)=true:=ajo.2 hz;have c8:((ay.read (l.drop aP)).2.2==0)=false:=by rw [acj];exact hz
 have hw:IntKind.i64.wrap ((aP:Int)+1)=(aP:Int)+1:=abR _ (by have:=dP.o;have:=Hl.o;omega);clear hz vH;go_wp2_with (first|((with_reducible refine ql ⟨?_⟩);refine qA aQ ?_;intro bE wE hE)|((with_reducible refine mY ⟨?_⟩);first|(refine jk aQ aA aA fQ fJ sQ ?_;intro wS hS)|(refine jk (e:=ay.iL) (da:=none) (dn:=0) (dc:=0) aQ aA aA rfl fJ sQ ?_;intro wS hS))|((with_reducible refine xA ⟨?_⟩);refine xU aQ aA dh fQ ?_))
 go_roundg (l.length-(aP+1))
 case measure=>have:=dP.o;omega
 case rel=>
  exact ⟨aP+1,fs,rfl,dP.o,by have:=vk.o.2;omega,by first|rfl|go_num,sK.o,⟨k,by have:=Hk.o;omega,hfin.o⟩,au.sb aQ⟩):A:=h
theorem af9(k:G)(h:RowKit.Hid G->A:=by
 intro fM;have hdr:bH.ou (r.eU.drop j)=ay.le x 4++bH.ou (r.eU.drop (j+1)):=by
  have:=bH.apQ hn
  rwa [Int.toNat_natCast]at this
 have jl:=uQ (bH.qy hn);rw [hdr,ab6]at hRS;have hnum:ay.bD ((ay.le x 4++(bH.ou (r.eU.drop (j+1))++Y)).take 4)=x:=by
  rw [bH.ahI];have:=bH.apM hnb
  rwa [Int.toNat_natCast]at this
 have GL:=bH.SE x (bH.ou (r.eU.drop (j+1))++Y);have hw2:IntKind.i64.wrap (x:Int)=(x:Int):=abR _ oQ;have hrn:=uQ (λ(w':World) (R:List aO) (hr':RS w0 R sF (ay.le x 4++(bH.ou (r.eU.drop (j+1))++Y))) (hw:au w0 w' (mG p sF::R))=>VX (by rw [aay,ay.nK];omega) hr' hw);rw [hnum,GL]at hrn;have oU:=uQ hRS;have yF:=uQ hjl;have hkey:=xg.o.key;have kV:=uQ hkey;have Hsm:=uQ (show (r.eU.take j).length<=2147483648 from by rw [abA];have:=Hk.o;omega);revert hRS hdr jl hnum GL hw2 hrn oU yF hkey kV Hsm;exact fM.o):A:=h (uQ k)
theorem agj(h:A:=by
 intro wW nJ;refine hK _ _ (.inl rfl) ?_;clear hK h13;refine fK aC ?_;go_wp2_with fail
 go_roundg (k-(j+1))
 case measure=>have:=yF.o;omega
 case rel=>exact ⟨j+1,_,rv3,rfl,aiW yF.o,by first|rfl|go_num,Yl.o,by rw [jl.o,show dJ (r.eU.take j++[(x:Int)])=dJ (r.eU.take j)++dJ [(x:Int)] from acy ..];rw [<-jl.o];exact nJ⟩):A:=h
theorem aeK(k:G)(h:RowKit.Hid G->A:=by
 intro fM;have fV:=uQ (ay.BK hz)
 have yJ:=uQ (show ay.sG l=fs.map (·.1)++(⟨(ay.read (l.drop aP)).1,aP,(ay.read (l.drop aP)).2.1⟩::ay.wU k ((l.drop aP).drop (ay.read (l.drop aP)).2.1) (aP+(ay.read (l.drop aP)).2.1)) by
  rw [vH.o];simp only [ay.wU];rw [abB vC.o,abB (λh=>h hz)])
 have hN:=fV.o.2.1;rw [abJ]at hN;rw [apl]at yJ;revert fV yJ hN;exact fM.o):A:=h (uQ k)
theorem aeL(k:G)(h:RowKit.Hid G->A:=by
 intro fM;have hw2:IntKind.i64.wrap (12+(Z:Int))=12+(Z:Int):=abR _ zI0;have hw3:IntKind.i64.wrap (12+(Z:Int)+8)=20+(Z:Int):=by rw [show 12+(Z:Int)+8=20+(Z:Int) by omega];exact abR _ zI0
 have hw4:IntKind.i64.wrap (20+(Z:Int)-8)=12+(Z:Int):=by rw [show 20+(Z:Int)-8=12+(Z:Int) by omega];exact abR _ zI0
 revert hw2 hw3 hw4;exact fM.o):A:=h (uQ k)
theorem aeP(h:A:=by
 intro b' n' c2 wW nJ;go_wp2_with fail
 go_roundg (us.length-(i+1))
 case measure=>have:=dP.o;omega
 case rel=>exact ⟨i+1,_,rfl,aiW dP.o,rfl,by first|rfl|go_num,by rw [jl.o,ai5,aiN,am6,ahB];exact nJ.sb⟩):A:=h
theorem aeQ(h:A:=by
 have c3:¬ (i:Int)<(rs.length:Int):=oQ;obtain rfl:i=rs.length:=oQ;rw [awm]at hRS;rw [ai0]at hvs;have oU:=uQ (show RS w0 F Dz T from hRS);have uD:=uQ hvs.1;clear hi hlt hRS hvs;go_wp2_with fail;go_ret;exact ⟨_,rfl,vs,uD.o,Dz,oU.o,hS.sb⟩):A:=h
theorem aeV(h:A:=by
 have c1:¬ (aP:Int)<(l.length:Int):=oQ
 have hfin:=uQ (show ay.sG l=fs.map (·.1) by
  rw [vH.o,aiU oQ];cases k <;> simp [ay.wU])
 clear hlt hat;go_wp2;go_ret;exact ⟨_,rfl,fs,by rw [hfin.o],λa b hm=>sK.o _ hm,hS⟩):A:=h
theorem aeW(k:G)(h:RowKit.Hid G->A:=by
 intro fM;refine ⟨sJ (cs:=(eX ⟨r,.slice na nn nc⟩).toArray) 276 33 56 aC hN aA aA (bW (bW (bW (bW (bW bJ))))) bJ (qJ ⟨r,.slice na nn nc⟩ kV.o) dG Kw zK.o (by rw [qJ ⟨r,.slice na nn nc⟩ kV.o];decide) dG rfl ?_⟩;exact fM.o):A:=h (uQ k)
theorem aeX(h:A:=by
 go_wp2_with fail
 go_loopg [3,4] 0 (λg ov iq wr=>ov=.slice none 0 0/\iq=.int .i64 0/\wr=w)
 case atStart=>exact ⟨rfl,rfl,rfl⟩
 case round=>
  obtain ⟨rfl,rfl,rfl⟩:=hrel;go_wp2;go_ret;exact ⟨_,rfl,[],by rw [hfin.o];rfl,by simp,hS0⟩):A:=h
theorem aeY(k:G)(h:RowKit.Hid G->A:=by
 intro fM;have jl:=uQ (bH.qy hx);have dP:=uQ hlt;have uD:=uQ hvs
 have JB:=uQ (show (vs.flatMap eX).length<=2147483648 from by
  rw [lK λr hr=>rF r (hvs.2 r hr)];have:=aiX List.length hvs.1;rw [abl,abA]at this;have:=Hn.o;omega)
 rw [bH.arP hx,ab6]at hRS;revert hRS jl dP uD JB;exact fM.o):A:=h (uQ k)
theorem ae7(h:A:=by
 rintro ee sH ⟨v4,rfl,t,rfl,ht,h11⟩;have ht2:t=true:=ht.2 (by rw [uD.o];exact fV.o.jA);subst ht2;clear h10 ht;go_wp2_with fail
 go_ret2
 exact ⟨_,rfl,vs,v,rfl,uD.o,h11.sb⟩):A:=h
theorem afa(k:G)(h:RowKit.Hid G->A:=by
 intro fM;have c4:(j:Int)<(k:Int):=oQ;have EL:IntKind.i64.wrap ((j:Int)+1)=(j:Int)+1:=abR _ (by have:=Hk.o;omega);obtain ⟨n,hn⟩:∃ n,r.eU[j]?=some n:=⟨_,aaf (by rw [xg.o.len];exact hjl)⟩;have hnb:=xg.o.bD n (abH hn);revert c4 EL n hn hnb;exact fM.o):A:=h (uQ k)
theorem afg(h:A:=by
 obtain ⟨b',o',hb,_⟩:=pq (i:=0) (x:= .int .u8 (l[0]'oQ).toNat) (hr w h) (by unfold aI;rw [ab4,aaf oQ];rfl);exact ⟨_,_,hb⟩):A:=h
theorem afl(h:A:=by
 have c3:¬ (i:Int)<(us.length:Int):=oQ;have hi2:i=us.length:=oQ;subst hi2;rw [ai0]at hS;clear hi hlt;go_wp2_with fail;go_ret;exact ⟨_,rfl,hS⟩):A:=h
theorem afw(h:A:=by
 have h1:(vs.map (·.x))[i]?=some r.x:=by rw [ab4,hx];rfl
 rw [Y3.o,ab4,hu]at h1;exact (ajH h1).symm):A:=h
theorem afH(h:A:=by
 rintro ee w3 ⟨v,rfl,bv,rfl,h3⟩;rw [yI.o]at h3;clear h2;go_wp2_with fail
 go_ret2
 exact ⟨_,rfl,bv,rfl,h3.sb⟩):A:=h
theorem afO(h:A:=by
 exact ⟨0,[],rfl,acn _,acn _,rfl,by simp,⟨l.length,by omega,by rw [Hf.o];rfl⟩,hS0⟩):A:=h
theorem afZ(h:A:=by
 rw [<-HZ.o,Hte.o,HZ.o]at this;rw [show (12+(Z:Int))=((12+Z:Nat):Int) by omega];exact this):A:=h
theorem af6(h:A:=by
 rintro ee w3 ⟨v,rfl,h3⟩;clear h2;go_wp2_with fail
 go_ret2
 exact ⟨_,rfl,_,rfl,h3.sb⟩):A:=h
end Go
namespace Go.aB
open Go.aG
open Go.ay (Bs aT bU gV iJ)
open Go.aJ
section
variable {D N:List (Nat×List aT)}{x:aT}{gs:List Int}
def iP (D:List (Nat×List aT)):List aT:=D.flatMap (·.2)
theorem Gx (D N:List (Nat×List aT)):iP (D++N)=iP D++iP N:=by unfold iP;rw [ai5]
theorem zX:∀ (es:List aT) (a:Nat),(iJ es a).map (·.e)=es
 |[],_=>rfl
 |x::es,a=>by unfold iJ;rw [aij,zX es]
theorem BP (D:List (Nat×List aT)):(ig D).map (·.2.e)=iP D:=by
 induction D with
 |nil=>rfl
 |cons d D ih=>
  unfold ig iP at *
  rw [aiN,aiN,acy,ih,ajr]
  congr 1
  exact zX d.2 8
theorem aev (fC:Bool) (h:fC=true->N≠[]):∃ N',tH (D++N) fC x=D++N'/\iP N'=iP N++[x]/\N'≠[]/\N'.length=N.length+(if fC=true then 0 else 1)/\∃ N0 c es,N'=N0++[(c,es++[x])]:=by
 cases fC with
 |true=>
  rcases aog N with rfl|⟨N0,e,rfl⟩
  ·exact absurd rfl (h rfl)
  ·rw [aok,<-ab6];refine ⟨N0++[(e.1,e.2++[x])],?_,?_,by simp,by simp,N0,e.1,e.2,rfl⟩
   ·unfold tH;rw [abL rfl,List.dropLast_concat,<-ab6];simp
   ·rw [Gx,Gx];unfold iP;simp
 |false=>
  refine ⟨N++[(qW (D++N),[x])],?_,?_,by simp,by simp,N,_,[],rfl⟩
  ·unfold tH;rw [abB aU,ab6]
  ·rw [Gx];unfold iP;simp
theorem abb:∀ (es:List aT) (a:Nat){f:ay.fO},f∈iJ es a->a<=f.aP
 |[],_,f,h=>by cases h
 |x::es,a,f,h=>by
  unfold iJ at h;rcases ab9.1 h with rfl|h
  ·exact abG _
  ·have:=abb es _ h;omega
theorem aqf {α:Type}{f:α->Nat}{l:List α} (h:l.Pairwise λa b=>f a<f b){a b:α} (i:a∈l) (j:b∈l) (e:f a=f b):a=b:=by
 induction l with
 |nil=>cases i
 |cons x l g=>
  rw [ajk]at h;rcases ab9.1 i with rfl|c <;> rcases ab9.1 j with rfl|d
  ·rfl
  ·have:=h.1 b d;omega
  ·have:=h.1 a c;omega
  ·exact g h.2 c d
end
section
variable {K r E B n:Nat}{L:aS}{M M':aG}{D:List (Nat×List aT)}
theorem HD.dK (h:HD K r E B n L M D) (lim:Int) (l1:128<=lim) (l2:lim<=1048576):HD K r E B n (dK M lim) M D:=by
 have hq:=h.fD.dV.fE;have hF:=yN h.fD.dV.ok lim l1 l2;have hs:(aB.dK M lim).aX=L.aX:=Ud (Fp hF) (Fp h.fD.lD) λs=>by
  rw [aH.abn hq.off];constructor
  ·rintro ⟨⟨a,b⟩,i,hi⟩;obtain ⟨k,rfl⟩:∃ k:Nat,s=k:=⟨s.toNat,by omega⟩;obtain ⟨d,hd,rfl⟩:=h.rX k i oQ hi;rw [h.aX];exact abI.2 ⟨d,hd,rfl⟩
  ·intro hs;obtain ⟨x,hx,rfl⟩:=abI.1 hs;exact ⟨h.fD.lD.eU x hx,h.fD.oD x hx⟩
 have hlen:(aB.dK M lim).l.length=D.length:=by
  have:=aiX List.length hs;rw [h.aX]at this;unfold aS.aX at this;rw [abl,abl]at this;exact this
 refine ⟨⟨hF,h.fD.dV,abm M lim⟩,?_,h.jA,h.lim,h.file,h.dW,h.cO,h.ku,h.rX⟩;refine awf λk=>?_;rw [ab4];cases hd:D[k]? with
 |none=>exact anS.2 (by rw [hlen];exact anS.1 hd)
 |some d=>
  have hkl:k<D.length:=(abM.1 hd).1;have hx:(aB.dK M lim).l[k]?=some ((aB.dK M lim).l[k]'oQ):=aaf oQ;generalize (aB.dK M lim).l[k]'oQ=x at hx;obtain ⟨t,ht,hn,e⟩:=EH (abH hx);obtain ⟨a,b,c⟩:=E5 hn;have hk1:(aB.dK M lim).aX[k]?=some x.1:=by unfold aS.aX;rw [ab4,hx];rfl
  rw [hs,h.aX,ab4,hd]at hk1;have e1:(iD t).1=(d.1:Int):=by rw [e]at hk1;exact (ajH hk1).symm
  rw [e1]at c;have hf:=h.file d (abH hd);rw [hx,e,e1,<-c];show _=some ((d.1:Int),8+((bU d.2).length:Int))
  congr 2
  obtain ⟨i,hi⟩:=(aH.yh hq).1 (aiX Prod.snd hf);rw [sN hq hi]at hf;have hl2:=aiX (λz:Bs×Int=>z.1.length) hf;simp only [aay]at hl2;have hm:dL.length=8:=rfl;unfold aG.size;rw [hq.off,hi];show (((M.file i).aN.length:Nat):Int)=_;omega
theorem HD.ahL (h:HD K r E B n L M D):∀ j es,(D.map (·.2))[j]?=some es->L.bytes M (L.aX.getD j 0)=(dL++bU es,0)/\∀ x∈es,gV x:=λj es hj=>by
 rw [ab4]at hj;cases hd:D[j]? with
 |none=>rw [hd]at hj;cases hj
 |some d=>
  rw [hd]at hj;cases hj;have hm:=abH hd;have e:L.aX.getD j 0=(d.1:Int):=by
   rw [h.aX,abY,ab4,hd];rfl
  rw [e];exact ⟨h.bytes hm,(h.dW d hm).1⟩
theorem HD.split (h:HD K r E B n L M D):∃ c,aJ.split (λs=>L.bytes M s) L.aX L.aX.length=(c,0)/\c<=D.length/\(c≠0->∃ d,D[c-1]?=some d/\aJ.mJ d.2=true)/\∀ j d,c<=j->D[j]?=some d->aJ.mJ d.2=false:=by
 have f:L.aX.length=(D.map (·.2)).length:=by rw [h.aX,abl,abl]
 have⟨c,i,g,l,m⟩:=aJ.ahz f h.ahL (D.map (·.2)).length (abG _);rw [abl]at g;refine ⟨c,by rw [f];exact i,g,λo=>?_,λj d a b=>?_⟩
 ·have⟨es,e,t⟩:=l o;rw [ab4]at e;cases hd:D[c-1]? with
  |none=>rw [hd]at e;cases e
  |some d=>rw [hd]at e;cases e;exact ⟨d,rfl,t⟩
 ·have u:=(abM.1 b).1;exact m j d.2 a (by rw [abl];exact u) (by rw [ab4,b];rfl)
theorem HD.run (h:HD K r E B n L M D) (hc:∀ d,D.getLast?=some d->aJ.mJ d.2=true):aJ.run (λs=>L.bytes M s) L.aX=.inr D.length:=by
 obtain ⟨c,b,f,_,h4⟩:=h.split;have a:c=D.length:=by
  rcases anF c D.length with q|q
  ·exact ae5
  ·omega
 unfold aJ.run;rw [b,abB yD0,a];refine aJ.agV ?_;have e:L.aX.take D.length=L.aX:=acE (by rw [h.aX,abl];exact abG _);rw [e];exact h.qm
theorem HD.aq9 (h:HD K r E B n L M D){y:aJ.fZ} (x:y∈ig D):L.read M (aJ.pF y)=(y.2.e,0):=by
 unfold ig at x;obtain ⟨d,hd,x⟩:=aob.1 x;obtain ⟨f,m,rfl⟩:=abI.1 x;obtain ⟨u,v,j,o,s⟩:=aJ.Nw d.2 8 m;obtain ⟨e,aP,size⟩:=f;simp only at m j o s;subst o s;have t:gV e:=(h.dW d hd).1 e (by rw [j];simp);have hf:=h.file d hd;have w:dL.length=8:=rfl;have b:bU d.2=bU u++((ay.dI e).1++bU v):=by rw [j,CZ];rfl
 have c:=ara h.fD.dV.fE hf (a:=8+(bU u).length) (n:=(ay.dI e).1.length) (by rw [aay,b,aay,aay];omega);have l:((dL++bU d.2).drop (8+(bU u).length)).take (ay.dI e).1.length=(ay.dI e).1:=by
  rw [b,<-ab6,List.drop_append,aiU (by rw [aay];omega)];rw [show 8+(bU u).length-(dL++bU u).length=0 by rw [aay];omega,av5,ajc,ajj (abG _),ai0]
 rw [l]at c;have g:=ay.VQ t.1 t.2 [];rw [ahB]at g;obtain ⟨i,hi⟩:=h.RI hd;unfold aS.read aJ.pF;simp only [hi];rw [c];simp only [g];rw [abB aU,abB aU,abB yD0]
end
def eP (D:List (Nat×List aT)):Int:=match D.getLast? with
 |none=> -1
 |some d=>(d.1:Int)
def vg (D:List (Nat×List aT)):Prop:=∀ d,D.getLast?=some d->mJ d.2=true
def oP (D:List (Nat×List aT)):List gX:=D.map λd=>⟨(d.1:Int),((dL++bU d.2).length:Int),0⟩
structure jD (K r E B n:Nat) (L:aS) (M:aG) (D:List (Nat×List aT)):Prop where
 hd:HD K r E B n L M D
 tmp:dN M.aN aH.tmp=none
 rE:(iP D).length<=n
 qK:∀ p∈M.aN,p.1.size<=24
 uV:n<=500->∀ e∈iP D,e.data.length<=300
def HN (M:aG) (N:Int):Prop:=∀ p∈M.aN,(aH.iD p.1).2=true->(aH.iD p.1).1<=N
structure uF (D:List (Nat×List aT)) (N:Int) (us:List gX) (pl:List (Bs×bT)):Prop where
 last:N=eP D
 kv:∃ kv,aY.kE (lC (ig D)) kv/\(∀ q∈kv,q.1.length=32)/\us=(oP D).map (pI kv)/\pl=jH kv
 pU:vg D
structure vF (r0 E n B0:Nat) (M:aG) (D0:List (Nat×List aT)) (N:Int) (us:List gX):Prop where
 cO:B0<=E*(20+28*n)
 hn:HN M N
 lim:N<1048576
 ex:∃ pl,uF D0 N us pl/\(r0=1048576->n<=200->E<=130->(D0=[]->NF M)/\(D0≠[]->HF M N pl us))
section
variable {K r E B n:Nat}{L:aS}{M M':aG}{C:List (List aT)}{D N1:List (Nat×List aT)}{N:Int}{d:Nat×List aT}{us:List gX}{q:fZ}{k:Bs}{pl:bT}{ps:List (Bs×bT)}
theorem aaQ (C:List (List aT)):iP (Ag C)=C.flatten:=by rw [<-BP,arR,agH]
theorem Rp.rpd (h:Rp K r E B n L M C):jD K r E B n L M (Ag C):=⟨h.hg.hd,h.tmp,by rw [aaQ];exact h.rE,h.qK,λ_=>by rw [aaQ];exact h.uV⟩
theorem jD.mono (h:jD K r E B n L M D){K' E' B' b:Nat} (c:K<=K') (d:E<=E') (e:B<=B') (a:n<=b):jD K' r E' B' b L M D:=⟨h.hd.mono c d e a,h.tmp,abQ h.rE a,h.qK,λq=>h.uV (abQ a q)⟩
theorem agw:∀ {D:List (Nat×List aT)}{a n:Nat},D.Pairwise (λa b=>a.1<b.1)->(∀ d∈D,a<=d.1/\d.1<n)->D.length<=n-a
 |[],_,_,_,_=>acn _
 |d::D,a,n,hp,h=>by
  rw [ajk]at hp;have f:=h d (.head _);have g:=agw hp.2 λe c=>⟨hp.1 e c,(h e (.tail _ c)).2⟩;rw [aiT];omega
theorem HD.count (h:HD K r E B n L M D):D.length<=n:=by
 have:=agw h.jA λd hd=>⟨acn _,h.lim d hd⟩;omega
theorem agI (d:Nat×List aT) (D:List (Nat×List aT)):ig (d::D)=((iJ d.2 8).map λf=>((d.1:Int),f))++ig D:=by unfold ig;rw [aiN]
theorem V7 (D N:List (Nat×List aT)):ig (D++N)=ig D++ig N:=by unfold ig;rw [ai5]
theorem V8 (hq:q∈ig D):∃ d∈D,q.1=(d.1:Int)/\q.2∈iJ d.2 8/\∃ u v,d.2=u++q.2.e::v/\q.2.aP=8+(bU u).length/\q.2.size=(ay.dI q.2.e).1.length:=by
 unfold ig at hq;obtain ⟨d,hd,hq⟩:=aob.1 hq;obtain ⟨f,hf,rfl⟩:=abI.1 hq;obtain ⟨u,v,h⟩:=aJ.Nw d.2 8 hf;exact ⟨d,hd,rfl,hf,u,v,h⟩
theorem HD.row (h:HD K r E B n L M D) (hq:q∈ig D):L.read M (pF q)=(q.2.e,0)/\gV q.2.e/\(q.2.size:Int)<=4294967296/\(q.2.aP:Int)<=4294967296:=by
 refine ⟨h.aq9 hq,?_⟩;obtain ⟨d,hd,h1,h2,u,v,h8,h9,h10⟩:=V8 hq;have hsz:=h.fD.lD.nY ((d.1:Int),8+((bU d.2).length:Int)) zQ0;have he:(bU d.2).length=(bU u).length+((ay.dI q.2.e).1.length+(bU v).length):=by
  conv=>lhs;rw [h8]
  rw [CZ,aay]
  congr 1
  exact aay
 simp only at hsz;exact ⟨(h.dW d hd).1 _ (by rw [h8];simp),by omega,by omega⟩
theorem jD.lK (h:jD K r E B n L M D):(jP (λs=>L.bytes M s) L.aX).length<=n:=by
 rw [h.hd.Fh,<-abl,BP];exact h.rE
theorem jD.Wi (h:jD K r E B n L M D):∀ q∈jP (λs=>L.bytes M s) L.aX,(q.2.size:Int)<=4294967296:=λq hq=>by
 rw [h.hd.Fh]at hq;exact (h.hd.row hq).2.2.1
theorem HD.got (h:HD K r E B n L M D) (hk:jZ (ig D) k=some pl):∃ data,L.read M pl=(⟨0,k,data⟩,0)/\l7 (iP D) k=some data/\data.length<=16384/\(-9223372036854775808<=pl.aP/\pl.aP<=9223372036854775807)/\(-9223372036854775808<=pl.size/\pl.size<=9223372036854775807)/\k.length=32:=by
 obtain ⟨q,hq,e1,e2,e3,e4⟩:=apI hk;obtain ⟨r1,r2,r3,r4⟩:=h.row hq;rw [BP]at e4;obtain ⟨s,⟨⟨dB,key,data⟩,aP,size⟩⟩:=q;obtain rfl:dB=0:=e2;obtain rfl:key=k:=e3;refine ⟨data,by rw [<-e1];exact r1,e4,?_,?_,?_,r2.2⟩
 ·rcases ay.Jf (ay.Nc r2.1).1 with ⟨_,q⟩|⟨q,_⟩|⟨q,_⟩
  ·exact q
  ·cases q
  ·cases q
 ·rw [<-e1];show -9223372036854775808<=(aP:Int)/\(aP:Int)<=9223372036854775807;have:(aP:Int)<=4294967296:=r4;omega
 ·rw [<-e1];show -9223372036854775808<=(size:Int)/\(size:Int)<=9223372036854775807;have:(size:Int)<=4294967296:=r3;omega
theorem HD.size (h:HD K r E B n L M D) (hd:d∈D):L.size (d.1:Int)=((dL++bU d.2).length:Nat):=by
 obtain ⟨i,hi⟩:=h.RI hd;obtain ⟨g,s,a,c⟩:=aS.MI hi;have b:=a;rw [h.l,ab4]at b;obtain ⟨e,f,rfl⟩:=amV.1 b;simp only at c;obtain rfl:e=d:=aqf h.jA (abH f) hd oQ;unfold aS.size;rw [hi];simp only [abY,a,avL,aay];have:dL.length=8:=rfl;omega
theorem ahk {s:Int}:∀ {D:List (Nat×List aT)},(∀ d∈D,(d.1:Int)≠s)->yY (ig D) s=0
 |[],_=>rfl
 |d::D,h=>by rw [agI,WI,ahl,abB (h d (.head _)),ahk λe he=>h e (.tail _ he)];rfl
theorem ahj:∀ {D:List (Nat×List aT)},D.Pairwise (λa b=>a.1<b.1)->d∈D->yY (ig D) (d.1:Int)=(bU d.2).length
 |[],_,h=>by cases h
 |e::D,hp,h=>by
  rw [ajk]at hp;rw [agI,WI,ahl];rcases ab9.1 h with rfl|h
  ·rw [abL rfl,abe,ahk λe he=>by have:=hp.1 e he;omega];omega
  ·have:=hp.1 d h;rw [abB oQ,ahj hp.2 h];omega
theorem HD.Cb (h:HD K r E B n L M D):tK (λs=>L.bytes M s) L.aX=oP D:=by
 rw [h.aX];unfold tK oP;rw [ajr];refine anP λd hd=>?_;simp only [Function.comp_apply,h.bytes hd]
theorem auI (kv:List (Bs×iH)):((oP D).map (pI kv)).map (·.aZ)=D.map λd=>(d.1:Int):=by
 unfold oP;rw [ajr,ajr]
 rfl
theorem HD.zy (h:HD K r E B n L M D){kv:List (Bs×iH)} (hk:aY.kE (lC (ig D)) kv) (h32:∀ q∈kv,q.1.length=32):qP L D.length ((oP D).map (pI kv)) (jH kv):=by
 have a:L.aX.take D.length=L.aX:=acE (by rw [h.aX,abl];exact abG _);have f:=arV h.fD.lD M D.length;rw [a,h.Fh]at f;have g:∀ p∈kv,∃ r,r∈ig D/\iV r≠2/\p.2.dB=iV r/\p.2.jf=pF r:=λp i=>by
  have b:=(hk.mem p.1 p.2).1 i;unfold lC at b;obtain ⟨r,G,m⟩:=amV.1 b;obtain ⟨o,H,_⟩:=Ov G;exact ⟨r,o,H,by rw [<-m],by rw [<-m]⟩
 have N:dL.length=8:=rfl;refine ⟨by rw [a,h.aX];exact auI kv,λu I=>?_,λq j=>?_,aJ.OX hk.jA,λq j=>?_⟩
 ·obtain ⟨O,b,rfl⟩:=abI.1 I;unfold oP at b;obtain ⟨d,hd,rfl⟩:=abI.1 b;have s:=h.size hd;have t:=aoT f hk (d.1:Int);have c:=adt (l:=ig D) (d.1:Int) _ (abG _);rw [ai0,t,ahj h.jA hd]at c;have w:=h.fD.lD.nY ((d.1:Int),8+((bU d.2).length:Int)) zQ0;unfold pI;simp only [s,aay];simp only at w;refine ⟨c.1,?_,trivial,?_⟩
  ·have:=c.2;omega
  ·omega
 ·unfold jH at j;obtain ⟨p,i,rfl⟩:=abI.1 j;exact h32 p (ai4.1 i).1
 ·unfold jH at j;obtain ⟨p,i,rfl⟩:=abI.1 j;obtain ⟨x,y⟩:=ai4.1 i;obtain ⟨r,b,_,m,o⟩:=g p x;obtain ⟨d,hd,z,P,u,v,F,Q,A⟩:=V8 b;have hg:gV r.2.e:=(h.dW d hd).1 _ (by rw [F];simp);have s:=h.size hd;have J:r.2.e.dB=0:=by
   have:p.2.dB=0:=by simpa using y
   rw [m]at this;exact this
  have R:r.2.size=41+r.2.e.data.length:=by
   rw [A,P5 hg.1 hg.2];unfold ay.size;rw [abB (by simp [(ay.Nc hg.1).1]),abB (by rw [J];decide)]
  have C:bU d.2=bU u++((ay.dI r.2.e).1++bU v):=by rw [F,CZ];rfl
  simp only;rw [o];show 8<=(r.2.aP:Int)/\41<=(r.2.size:Int)/\(r.2.aP:Int)+(r.2.size:Int)<=L.size r.1/\r.1∈L.aX.take D.length;rw [a,z,s,aay,C,aay,aay];refine ⟨by omega,by omega,by omega,?_⟩;rw [h.aX];exact abI.2 ⟨d,hd,rfl⟩
theorem Oc (hr:D.Pairwise λa b=>a.1<b.1) (hd:d∈D):(d.1:Int)<=eP D:=by
 have h1:=UM hr hd;unfold qW at h1;unfold eP;split at h1
 ·omega
 ·rename_i e he;rw [he];simp only;omega
theorem HD.Dl (h:HD K r E B n L M D):eP D<n:=by
 unfold eP;cases hl:D.getLast? with
 |none=>simp only;omega
 |some d=>have:=h.lim d (aju hl);simp only;omega
theorem HD.last (h:HD K r E B n L M D) (hc:vg D):xG (λs=>L.bytes M s) L.aX=(eP D,0)/\aJ.run (λs=>L.bytes M s) L.aX=.inr L.aX.length/\wI L.aX=eP D:=by
 have a:L.aX.length=D.length:=by rw [h.aX,abl]
 have b:wI L.aX=eP D:=by
  unfold wI eP;rw [h.aX,asq];cases D.getLast? <;> rfl
 refine ⟨?_,by rw [a];exact h.run hc,b⟩;obtain ⟨c,f,g,_,h4⟩:=h.split;have d:c=D.length:=by
  rcases anF c D.length with q|q
  ·exact ae5
  ·omega
 unfold xG;rw [f];simp only;rw [abB yD0,d];by_cases e:D.length=0
 ·rw [abL e];unfold eP;rw [ajn e]
  rfl
 ·rw [abB e,<-b];unfold wI;rw [ao2,a,abY];cases hq:L.aX[D.length-1]? with
  |none=>exact absurd (anS.1 hq) oQ
  |some s=>rfl
theorem HN.BD (h:HN M N) (g:aH.kS M M'):HN M' N:=λp hp hn=>by
 rcases g p hp with q|⟨k,q⟩
 ·exact h p q hn
 ·rw [q,aH.E8]at hn;cases hn
theorem HN.mono {a:Int} (h:HN M N) (b:N<=a):HN M a:=λp c hn=>Int.le_trans (h p c hn) b
theorem vF.mono {d e E':Nat} (h:vF d E n B M D N us) (hn:n<=e) (f:E<=E'):vF d E' e B M D N us:=by
 obtain ⟨u,g,i,pl,s,q⟩:=h;exact ⟨abQ u (aqe f oQ),g,i,pl,s,λa b c=>q a oQ oQ⟩
theorem jD.dK (h:jD K r E B n L M D) (lim:Int) (l1:128<=lim) (l2:lim<=1048576):jD K r E B n (aB.dK M lim) M D:=⟨h.hd.dK lim l1 l2,h.tmp,h.rE,h.qK,h.uV⟩
theorem HD.apart {K' E' B':Nat} (h:HD K r E B n L M D) (c:gU K' r M') (ha:∀ k:Int,M'.all (name k)=M.all (name k)) (hu:M'.cO<=n*400+B') (hn:M'.aN.length<=n+E'):HD K' r E' B' n L M' D:=by
 have oD:∀ k:Int,(∃ i,dN M'.aN (name k)=some i)↔∃ i,dN M.aN (name k)=some i:=λk=>by
  rw [<-aH.yh c.fE,<-aH.yh h.fD.dV.fE,ha]
 exact ⟨⟨h.fD.lD,c,λs hs=>(oD s.1).2 (h.fD.oD s hs)⟩,h.l,h.jA,h.lim,λd hd=>by rw [ha];exact h.file d hd,h.dW,hu,hn,λk i hk hi=>by
  obtain ⟨j,hj⟩:=(oD k).1 ⟨i,hi⟩;exact h.rX k j hk hj⟩
theorem jD.WG (h:jD K r E B n L M D) (hnm:M.aN.length<=480) (hh:HN M N) (h1:0<=N) (h2:N<1048576) (b1 b2:Bs) :
  jD (K+600) r (E+2) (B+b1.length+b2.length) n L (aH.nO M N b1 b2).1 D/\((aH.nO M N b1 b2).2=0\/(aH.nO M N b1 b2).2=11)/\HN (aH.nO M N b1 b2).1 N /\
   (∀ f∈(aH.gG (aH.gG M (aH.name aH.gY N) b1).1 (aH.name aH.kJ N) b2).1.fU.1.list,f.size<=4000000000):=by
 have av6:=h.hd.ku;have s:=aH.WH (b1:=b1) (b2:=b2) h.hd.fD.dV h.tmp oQ h1 h2;have g1:=aH.JU (ld:=aH.gY) rfl aU N h1 h2;have g2:=aH.JU (ld:=aH.kJ) rfl aU N h1 h2;have hsz:∀ ld:ByteArray,ld.data.toList.length=4->(aH.name ld N).size<=24:=λld hl=>by
  show (aH.name ld N).data.size<=24;rw [<-ahN,aH.JR ld N h1 h2,aay,hl,zU];omega
 refine ⟨⟨h.hd.apart s.dV (λk=>s.kU _ (aH.DJ k).symm (aH.WM k N h1 h2) (aH.WO k N h1 h2) (aH.aqa (by rw [aH.E8]))) (by have:=s.cO;have:=h.hd.cO;omega) (by have:=s.len;omega),s.tmp,h.rE,λp hp=>?_,h.uV⟩,s.done.imp (·.1) id,λp hp hm=>?_,λf hf=>?_⟩
 ·rcases s.ku p hp with q|q|q
  ·exact h.qK p q
  ·rw [q];exact hsz _ rfl
  ·rw [q];exact hsz _ rfl
 ·rcases s.ku p hp with q|q|q
  ·exact hh p q hm
  ·rw [q,aH.Ah (.inl aH.EM) N h1 h2];exact avf _
  ·rw [q,aH.Ah (.inr aH.KR) N h1 h2];exact avf _
 ·have w1:=aH.KY (b:=b1) h.hd.fD.dV h.tmp oQ g1 (aH.acG N h1 h2);have w2:=aH.KY (b:=b2) w1.dV w1.tmp (by have:=w1.len;omega) g2 (aH.ah8 N h1 h2);rw [w2.dV.fU.fE.list,aH.Xd]at hf;obtain ⟨p,hp,rfl⟩:=abI.1 hf;refine abQ (m:=24) ?_ aU;rcases w2.ku p hp with q|q
  ·rcases w1.ku p q with q|q
   ·exact h.qK p q
   ·rw [q];exact hsz _ rfl
  ·rw [q];exact hsz _ rfl
theorem jD.nO (h:jD K r E B n L M D) (hn:n+E<=480) (hh:HN M N) (h1:0<=N) (h2:N<1048576) (b1 b2:Bs) :
  jD (K+600) r (E+2) (B+b1.length+b2.length) n L (aH.nO M N b1 b2).1 D/\((aH.nO M N b1 b2).2=0\/(aH.nO M N b1 b2).2=11)/\HN (aH.nO M N b1 b2).1 N /\
   (∀ f∈(aH.gG (aH.gG M (aH.name aH.gY N) b1).1 (aH.name aH.kJ N) b2).1.fU.1.list,f.size<=4000000000):=h.WG (abQ h.hd.ku hn) hh h1 h2 b1 b2
end
section
variable {K r E B n:Nat}{L:aS}{M:aG}{D N1:List (Nat×List aT)}{N:Int}{us:List gX}{P:AO.zQ}{gs:List Int}{xs:List aT}
theorem alr (h:(L.jO M).2.2=0):(L.jO M).1.1.dK=0:=by
 unfold aS.jO at h ⊢;split at h
 ·rename_i g;exact absurd h g
 ·rename_i g1;rw [abB g1];split at h
  ·rename_i g;exact absurd h g
  ·rename_i g2;rw [abB g2];split at h
   ·rename_i g;exact absurd h g
   ·rename_i g3;rw [abB g3]
theorem aoC (D:List (Nat×List aT)) (d:Nat×List aT):eP (D++[d])=(d.1:Int):=by unfold eP;rw [as4];rfl
theorem jD.dir (h:jD K r E B n L M D):M.fU.2=0/\M.fU.1.aN=M.aN/\jD (K+1) r E B n L M.fU.1 D:=by
 have b:=h.hd.fD.dV.fE.KH;have d:=h.hd.fD.dV.fU;have a:M.fU.1.aN=M.aN:=by rw [b]
 have c:nH M M.fU.1:=by rw [b];exact ⟨rfl,rfl,rfl,λ_ _=>rfl⟩
 refine ⟨by rw [b],a,⟨h.hd.Ej ⟨h.hd.fD.lD,d.mono oQ,λs e=>by rw [a];exact h.hd.fD.oD s e⟩ rfl c,by rw [a];exact h.tmp,h.rE,by rw [a];exact h.qK,h.uV⟩⟩
end
end Go.aB
namespace Go.AO
open Go.ay (Bs fO aT iJ bU gV)
open Go.aB (bT ig iP Ag)
open Go.aJ
open Go.ay (Bs fO aT iJ bU gV)
open Go.aB (bT ig iP gq eP)
open Go.aJ
section
variable {P P1:zQ}{pc:Int}{gs:List Int}{R S:List fZ}{a c r y:fZ}{k:Bs}{s:Int}
structure pK (P:zQ) (R:List fZ):Prop where
 gY:∀ k,P.index k=jZ R k
 keys:P.keys=aos R
 awj:∀ a∈R,∀ b∈R,pF a=pF b->a=b
 jA:R.Pairwise λa b=>a.1<=b.1
 dB:∀ a∈R,iV a=0\/iV a=1\/iV a=2
end
end Go.AO
namespace Go.ay
open Go.aB (dL)
theorem ac5:∀ b:Bs,le (bD b) b.length=b
 |[]=>rfl
 |c::b=>by
  have h:le (bD (c::b)) (b.length+1)=UInt8.ofNat (bD (c::b)%256)::le (bD (c::b)/256) b.length:=rfl;have hc:=c.toNat_lt;have e1:bD (c::b)=c.toNat+256*bD b:=rfl;rw [aiT,h,e1,show (c.toNat+256*bD b)%256=c.toNat by omega,show (c.toNat+256*bD b)/256=bD b by omega,ac5 b,UInt8.ofNat_toNat]
theorem ac6 {b:Bs} (h:b.length=4):le (bD b) 4=b:=by rw [<-h];exact ac5 b
theorem amv {t:UInt8}{n:Nat} (h:fC t n=true):(t=0/\41<=n/\n<=16425)\/(t=1/\n=41)\/(t=2/\n=9):=by
 unfold fC at h;split at h
 ·exact .inl ⟨by assumption,by simpa using h⟩
 split at h
 ·exact .inr (.inl ⟨by assumption,by simpa using h⟩)
 split at h
 ·exact .inr (.inr ⟨by assumption,by simpa using h⟩)
 ·cases h
theorem agr {b:Bs} (h:(read b).2.2=0):gV (read b).1/\b.take (read b).2.1=(dI (read b).1).1/\(read b).2.1=(dI (read b).1).1.length/\(read b).2.1<=b.length:=by
 have o:=(BK h).2.2;have e:=(BK h).2.1
 suffices g:kK (read b).1=0/\b.take (read b).2.1=(dI (read b).1).1 by
  refine ⟨⟨?_,o⟩,g.2,?_,e⟩
  ·unfold dI;rw [abB (by simp [g.1])]
  ·rw [<-g.2,abA];omega
 unfold read at h ⊢;split at h
 ·cases h
 rename_i u;rw [abB u];dsimp only at h ⊢;split at h
 ·cases h
 rename_i r;rw [abB r];split at h
 ·cases h
 rename_i v;rw [abB v];split at h
 ·cases h
 rename_i s;rw [abB s];generalize hn:bD ((b.drop 4).take 4)=n at *
 have i:=Classical.byContradiction s;have w:(b.take 4).length=4:=by rw [abA];omega
 have y:((b.drop 4).take 4).length=4:=by rw [abA,abJ];omega
 have z:b.take 4=le (lq ((b.take n).drop 4)) 4:=by rw [i,ac6 w]
 have A:(b.drop 4).take 4=le n 4:=by rw [<-hn,ac6 y]
 have hf:=amv (show fC (b.getD 8 0) n=true by simpa using r);have H:9<=n:=by rcases hf with ⟨_,h,_⟩|⟨_,h⟩|⟨_,h⟩ <;> omega
 have d:b.take n=b.take 4++(b.take n).drop 4:=by
  conv=>lhs;rw [<-aja 4 (b.take n),awo,avG oQ]
 have j:∃ t,b[8]?=some t/\b.getD 8 0=t:=by
  have:8<b.length:=oQ;exact ⟨b[8],aaf this,by rw [abY,aaf this,avL]⟩
 obtain ⟨t,f,l⟩:=j;rw [l]at hf ⊢;have a:(b.take n).drop 4=le n 4++[t]++(b.take n).drop 9:=by
  have B:(b.take n).drop 4=((b.take n).drop 4).take 4++((b.take n).drop 4).drop 4:=(aja 4 _).symm;have C:((b.take n).drop 4).take 4=(b.drop 4).take 4:=by
   rw [aom,awo,avG oQ]
  have D:((b.take n).drop 4).drop 4=t::(b.take n).drop 9:=by
   rw [apl];have E:8<(b.take n).length:=by rw [abA];omega
   rw [show 4+4=8 from rfl,ajB E]
   congr 1
   rw [List.getElem_take];have m:8<b.length:=oQ;rw [aaf m]at f;exact ajH f
  rw [B,C,D,A,ab6]
  rfl
 have key:∀ (x:aT),kK x=0->body x=(b.take n).drop 4->kK x=0/\b.take n=(dI x).1:=λx c F=>by
  refine ⟨c,?_⟩;unfold dI;rw [abB (by simp [c])];rw [F,<-z];exact d
 rcases hf with ⟨rfl,G,I⟩|⟨rfl,rfl⟩|⟨rfl,rfl⟩
 ·rw [abL G];have hd:((b.take n).drop 41).length=n-41:=by rw [abJ,abA];omega
  have c:kK ⟨((0:UInt8).toNat:Int),(b.drop 9).take 32,(b.take n).drop 41⟩=0:=by
   unfold kK;rw [abL aA,abB (by dsimp only;omega)]
  refine key _ c ?_;unfold body size;rw [abB (λh=>h c),abB (show ¬ ((0:UInt8).toNat:Int)=2 by decide),a];dsimp only;rw [hd,show 41+(n-41)=n by omega,abB (show ¬ ((0:UInt8).toNat:Int)=2 by decide)];have:(b.take n).drop 9=(b.drop 9).take 32++(b.take n).drop 41:=by
   rw [<-aja 32 ((b.take n).drop 9),apl]
   congr 1
   rw [aom,awo,avG oQ]
  rw [this,ab6]
  rfl
 ·rw [abL aU];have hd:(b.take 41).drop 41=[]:=List.drop_eq_nil_of_le yE0;have c:kK ⟨((1:UInt8).toNat:Int),(b.drop 9).take 32,(b.take 41).drop 41⟩=0:=by
   unfold kK;rw [abB (show ¬ ((1:UInt8).toNat:Int)=0 by decide),abB (show ¬ ((1:UInt8).toNat:Int)=2 by decide),abL aA,hd]
   rfl
  refine key _ c ?_;unfold body size;rw [abB (λh=>h c),abB (show ¬ ((1:UInt8).toNat:Int)=2 by decide),a];dsimp only;rw [hd,abB (show ¬ ((1:UInt8).toNat:Int)=2 by decide)];have:(b.take 41).drop 9=(b.drop 9).take 32:=by rw [aom]
  rw [this];simp
 ·rw [abB aU];have hd:(b.take 9).drop 9=[]:=List.drop_eq_nil_of_le yE0;have c:kK ⟨((2:UInt8).toNat:Int),gu,[]⟩=0:=by
   unfold kK;rw [abB (show ¬ ((2:UInt8).toNat:Int)=0 by decide),abL aA,abB yD0,abB yD0,abB yD0]
  refine key _ c ?_;unfold body size;rw [abB (λh=>h c),abL aA,a,hd,abL aA]
  rfl
theorem ahg:∀ (k:Nat) (b:Bs) (aP:Nat),b.length<=k->(pY k b aP).2.2=0->∃ l:List aT,(∀ x∈l,gV x)/\b=bU l/\(pY k b aP).1=iJ l aP
 |0,b,aP,hb,_=>⟨[],yD0,ajn oQ,rfl⟩
 |k+1,b,aP,hb,h=>by
  unfold pY at h ⊢;by_cases c:b=[]
  ·exact ⟨[],by simp,c,by rw [abL c];rfl⟩
  rw [abB c]at h ⊢;by_cases a:(read b).2.2=0
  ·rw [abB (by simp [a])]at h ⊢;obtain ⟨e,f,g,n⟩:=agr a;have o:=(BK a).1;obtain ⟨l,i,j,m⟩:=ahg k (b.drop (read b).2.1) (aP+(read b).2.1) yK0 h;refine ⟨(read b).1::l,?_,?_,?_⟩
   ·intro x d;rcases ab9.1 d with rfl|d
    ·exact e
    ·exact i x d
   ·show b=(dI (read b).1).1++bU l;rw [<-f,<-j,aja]
   ·dsimp only;rw [m,iJ,<-g]
  ·rw [abL a]at h;exact absurd h a
theorem atb {b:Bs} (h:(eF b).2.2=0):∃ l:List aT,(∀ x∈l,gV x)/\b=dL++bU l/\(eF b).1=iJ l 8:=by
 unfold eF at h ⊢;split at h
 ·rename_i hm;rw [abL hm];obtain ⟨l,i1,i2,i3⟩:=ahg b.length (b.drop 8) 8 yK0 h;refine ⟨l,i1,?_,i3⟩;rw [<-i2]
  conv=>lhs;rw [<-aja 8 b,hm]
  rfl
 ·cases h
def wU:Nat->Bs->Nat->List fO
 |0,_,_=>[]
 |k+1,b,aP=>
  if b=[] then []
  else if (read b).2.2≠0 then wU k (b.drop 1) (aP+1)
  else ⟨(read b).1,aP,(read b).2.1⟩::wU k (b.drop (read b).2.1) (aP+(read b).2.1)
def sG (b:Bs):List fO:=wU b.length b 0
theorem WA:∀ (k:Nat) (b:Bs) (aP:Nat),b.length<=k->(∀ f∈wU k b aP,gV f.e)/\(bU ((wU k b aP).map (·.e))).length<=b.length
 |0,b,aP,_=>⟨λf hf=>(by cases hf),acn _⟩
 |k+1,b,aP,hb=>by
  unfold wU;by_cases c:b=[]
  ·rw [abL c];exact ⟨λf hf=>(by cases hf),acn _⟩
  rw [abB c];have j:=List.length_pos_iff.2 c;by_cases a:(read b).2.2=0
  ·rw [abB (by simp [a])];have⟨h,l,i,m⟩:=agr a;have n:=(BK a).1;have⟨d,g⟩:=WA k (b.drop (read b).2.1) (aP+(read b).2.1) yK0;refine ⟨?_,?_⟩
   ·intro f hf;rcases ab9.1 hf with rfl|hf
    ·exact h
    ·exact d f hf
   ·rw [aij];show ((dI (read b).1).1++bU _).length<=_;rw [aay,<-i];rw [abJ]at g;omega
  ·rw [abL a];have⟨d,g⟩:=WA k (b.drop 1) (aP+1) yK0;rw [abJ]at g;exact ⟨d,by omega⟩
theorem as6 (b:Bs):(∀ f∈sG b,gV f.e)/\(bU ((sG b).map (·.e))).length<=b.length:=WA _ b 0 (abG _)
end Go.ay
namespace Go.aJ
structure Kpv where
 a:Option Addr
 n:Nat
 c:Nat
 last:aB.bT
end Go.aJ
namespace Go.bH
open Go.ay (Bs le bD nK EZ)
variable {X:Bs->Nat}{mg:Bs}{kd:Bool}{l:List Rw}{k:Nat}
theorem ZG:jM X mg kd l=mg++(le l.length 4++(nN kd l++le (X (body mg kd l)) 8)):=by
 unfold jM body;simp only [ab6]
theorem ZF (hm:mg.length=8) (h:∀ r∈l,CO k r):(jM X mg kd l).take (12+l.length*nX kd k)=body mg kd l:=by
 unfold jM;exact List.take_left' (Gj hm h)
theorem ad6 {n:Nat} (h:n<=65536) (t:Bs):bD ((le n 4++t).take 4)=n:=by
 rw [ahI];exact EZ 4 n (anx h aU)
theorem ad7 {n:Nat} (h:n<18446744073709551616):bD ((le n 8).take 8)=n:=by
 rw [acE (by rw [nK];exact abG _)];exact EZ 8 n (awp h aU)
end Go.bH
namespace Go.ay
def uM (a:Nat) (f:fO):Bool:=decide (f.aP<=a) && decide (a<f.aP+f.size)
def vN (a:Nat) (l:List fO):aT:=l.foldl (λx f=>if uM a f=true then f.e else x) iL
theorem anw (a:Nat) (l:List fO) (f:fO):vN a (l++[f])=if uM a f=true then f.e else vN a l:=by unfold vN;rw [asl];rfl
end Go.ay
namespace Go.aB
open Go.aG
open Go.ay (Bs aT fO bU gV iJ eF sG)
structure HW (K r E B n:Nat) (M:aG) (R:List (Nat×Bs)):Prop where
 dV:gU K r M
 jA:R.Pairwise λa b=>a.1<b.1
 lim:∀ d∈R,d.1<n
 file:∀ d∈R,M.all (name d.1)=(d.2,0)
 cO:M.cO<=B
 ku:M.aN.length<=E
 rX:∀ (k i:Nat),k<1048576->dN M.aN (name (k:Int))=some i->∃ d∈R,d.1=k
def aiK (M M':aG):Prop:=∀ t,t≠aH.tmp->M'.all t=M.all t
def lH (b:Bs):Bool:=(eF b).2.2 != 0
def jG (b:Bs):List aT:=if lH b then (sG b).map (·.e) else (eF b).1.map (·.e)
def wL (b:Bs):Bs:=dL++bU (jG b)
def wG (d:Nat×Bs):Bool := !(lH d.2) || !(jG d.2).isEmpty
def done (R:List (Nat×Bs)):List (Nat×Bs):=(R.filter wG).map λd=>(d.1,wL d.2)
def pX (M:aG) (d:Nat×Bs):aG×Int:=if jG d.2=[] then M.dA (name (d.1:Int)) else aH.gG M (name (d.1:Int)) (wL d.2)
def nI:List (Nat×Bs)->aG->aG×Int
 |[],M=>(M,0)
 |d::R,M=>if lH d.2 then (if (pX M d).2=0 then nI R (pX M d).1 else pX M d) else nI R M
section
variable {K r E B n:Nat}{M M':aG}{R P:List (Nat×Bs)}{d:Nat×Bs}{b:Bs}
theorem Ky (b:Bs):(∀ x∈jG b,gV x)/\(wL b).length<=8+b.length/\(lH b=false->wL b=b):=by
 have i:dL.length=8:=rfl;unfold jG wL jG;by_cases h:lH b=true
 ·rw [abL h];obtain ⟨a,c⟩:=ay.as6 b;refine ⟨λx d=>?_,by rw [aay];omega,λq=>by rw [h]at q;cases q⟩;obtain ⟨f,hf,rfl⟩:=abI.1 d;exact a f hf
 ·rw [abB h];have e:(eF b).2.2=0:=by unfold lH at h;simpa using h
  obtain ⟨l,a,c,g⟩:=ay.atb e;rw [g,ay.zX];exact ⟨a,by rw [<-c];omega,λ_=>c.symm⟩
theorem HW.mono (h:HW K r E B n M R){K' E' B':Nat} (h1:K<=K') (h2:E<=E') (h3:B<=B'):HW K' r E' B' n M R:=
 ⟨h.dV.mono h1,h.jA,h.lim,h.file,abQ h.cO h3,abQ h.ku h2,h.rX⟩
theorem HW.oD (h:HW K r E B n M R) (hd:d∈R):∃ i,dN M.aN (name (d.1:Int))=some i:=(aH.yh h.dV.fE).1 (by rw [h.file d hd])
theorem EU {a b:Nat} (ha:a<1048576) (hb:b<1048576) (h:a≠b):name (a:Int)≠name (b:Int):=λe=>by
 have:=Oq oQ oQ oQ oQ e;omega
theorem HW.dA (h:HW K r E B n M (P++d::R)) (hn:n<=1048576):(M.dA (name (d.1:Int))).2=0/\HW (K+1) r E B n (M.dA (name (d.1:Int))).1 (P++R)/\aH.kS M (M.dA (name (d.1:Int))).1/\qj M (M.dA (name (d.1:Int))).1:=by
 have c:d∈P++d::R:=by simp
 have⟨i,hi⟩:=h.oD c;have⟨w,l,o,x⟩:=aH.Kq h.dV hi;have a:∀ y∈P++R,y∈P++d::R:=λy b=>by
  rcases ahc.1 b with q|q
  ·exact ajm _ q
  ·exact ake _ (.tail _ q)
 have m:∀ y∈P++R,y.1≠d.1:=λy b=>by
  have s:=ajJ.1 h.jA;rcases ahc.1 b with q|q
  ·have:=s.2.2 y q d (.head _);omega
  ·have:=(ajk.1 s.2.1).1 y q;omega
 have z:=h.lim d c;refine ⟨w,⟨h.dV.dA _,?_,λy b=>h.lim y (a y b),λy b=>?_,abQ x h.cO,?_,λk j u f=>?_⟩,λp v=>?_,λt A=>o t (A _)⟩
 ·exact h.jA.sublist (List.Sublist.append_left (List.sublist_cons_self d R) P)
 ·have:=h.lim y (a y b);rw [o _ (EU oQ oQ (m y b))];exact h.file y (a y b)
 ·rw [l];exact abQ (EW _ _) h.ku
 ·rw [l]at f;by_cases e:k=d.1
  ·exfalso;rw [e]at f;have:=(ai4.1 (lZ f)).2;simp [bne,tY]at this
  ·rw [Ox (EU u oQ e)]at f;have⟨y,b,g⟩:=h.rX k j u f;refine ⟨y,?_,g⟩;rcases ahc.1 b with q|q
   ·exact ajm _ q
   ·rcases ab9.1 q with rfl|q
    ·exact absurd g.symm e
    ·exact ake _ q
 ·rw [l]at v;exact .inl (ai4.1 v).1
theorem HW.aiB (h:HW K r E B n M (P++d::R)) (S:dN M.aN aH.tmp=none) (hn:n<=1048576) (T:E<500) (Q:B+b.length<=r):(aH.gG M (name (d.1:Int)) b).2=0/\HW (K+5) r (E+1) (B+b.length) n (aH.gG M (name (d.1:Int)) b).1 (P++(d.1,b)::R)/\aH.kS M (aH.gG M (name (d.1:Int)) b).1/\(∀ t,t≠aH.tmp->(∀ k:Int,t≠name k)->(aH.gG M (name (d.1:Int)) b).1.all t=M.all t):=by
 have o:d∈P++d::R:=by simp
 have u:=h.lim d o;have w:=aH.KY (s:=name (d.1:Int)) (b:=b) h.dV S (by have:=h.ku;omega) (NC _ oQ oQ) (aH.DJ _).symm;have O:=h.cO;have v:(aH.gG M (name (d.1:Int)) b).2=0:=w.room oQ;have l:(aH.gG M (name (d.1:Int)) b).1.all (name (d.1:Int))=(b,0):=by
  rcases w.done with q|q
  ·exact q.2
  ·rw [q.1]at v;cases v
 have G:∀ y∈P++d::R,y≠d->y.1≠d.1:=λy f x=>by
  have Q:=ajJ.1 h.jA;rcases ahc.1 f with q|q
  ·have:=Q.2.2 y q d (.head _);omega
  ·rcases ab9.1 q with rfl|q
   ·exact absurd rfl x
   ·have:=(ajk.1 Q.2.1).1 y q;omega
 have g:∀ y∈P++(d.1,b)::R,y=(d.1,b)\/y∈P++d::R/\y.1≠d.1:=λy f=>by
  have Q:=ajJ.1 h.jA;rcases ahc.1 f with q|q
  ·exact .inr ⟨ajm _ q,by have:=Q.2.2 y q d (.head _);omega⟩
  ·rcases ab9.1 q with q|q
   ·exact .inl q
   ·exact .inr ⟨ake _ (.tail _ q),by have:=(ajk.1 Q.2.1).1 y q;omega⟩
 refine ⟨v,⟨w.dV,?_,λy f=>?_,λy f=>?_,by have:=w.cO;omega,by have:=w.len;have:=h.ku;omega,λk j D H=>?_⟩,λp I=>?_,λt z J=>w.kU t z (J _)⟩
 ·have Q:=ajJ.1 h.jA;obtain ⟨L,A⟩:=ajk.1 Q.2.1;refine ajJ.2 ⟨Q.1,ajk.2 ⟨L,A⟩,λa F c C=>?_⟩;rcases ab9.1 C with rfl|C
  ·exact Q.2.2 a F d (.head _)
  ·exact Q.2.2 a F c (.tail _ C)
 ·rcases g y f with rfl|⟨q,_⟩
  ·exact u
  ·exact h.lim y q
 ·rcases g y f with rfl|⟨q,A⟩
  ·exact l
  ·have:=h.lim y q;rw [w.kU _ (aH.DJ _).symm (EU oQ oQ A)];exact h.file y q
 ·have N:=w.dV.fE;by_cases e:k=d.1
  ·exact ⟨(d.1,b),by simp,e.symm⟩
  ·have z:(M.all (name (k:Int))).2=0:=by
    rw [<-w.kU _ (aH.DJ _).symm (EU D oQ e),(aH.yh N).2 ⟨j,H⟩]
   obtain ⟨i,hi⟩:=(aH.yh h.dV.fE).1 z;obtain ⟨y,f,m⟩:=h.rX k i D hi;refine ⟨y,?_,m⟩;rcases ahc.1 f with q|q
   ·exact ajm _ q
   ·rcases ab9.1 q with rfl|q
    ·exact absurd m.symm e
    ·exact ake _ (.tail _ q)
 ·rcases w.ku p I with q|q
  ·exact .inl q
  ·exact .inr ⟨_,q⟩
theorem HW.apart (h:HW K r E B n M R) (a:gU (K+1) r M') (b:aiK M M') (e:M'.cO<=B) (f:M'.aN.length<=E):HW (K+1) r E B n M' R:=
 ⟨a,h.jA,h.lim,λd hd=>(b _ (aH.DJ _).symm).trans (h.file d hd),e,f,λk i g hi=>by
  have c:=(aH.yh a.fE).2 ⟨i,hi⟩;rw [b _ (aH.DJ _).symm]at c;obtain ⟨j,l⟩:=(aH.yh h.dV.fE).1 c;exact h.rX k j g l⟩
theorem avg (h:gU K r M){i:Nat} (hi:dN M.aN aH.tmp=some i) (s:ByteArray) (b:Bs):aH.gG M s b=aH.gG (M.dA aH.tmp).1 s b/\dN (M.dA aH.tmp).1.aN aH.tmp=none:=by
 obtain ⟨a1,a2,_,_⟩:=aH.Kq h hi;have ht:dN (M.dA aH.tmp).1.aN aH.tmp=none:=by
  rw [a2];cases hj:dN (jY M.aN aH.tmp) aH.tmp with
  |none=>rfl
  |some j=>
   have:=(ai4.1 (lZ hj)).2;simp [bne,tY]at this
 refine ⟨?_,ht⟩;have hth:aH.there M aH.tmp=true:=by
  unfold aH.there aG.size;rw [h.fE.off,hi]
  rfl
 have e1:aH.tJ M=M.dA aH.tmp:=by unfold aH.tJ;rw [abL hth]
 have e2:aH.tJ (M.dA aH.tmp).1=((M.dA aH.tmp).1,0):=by unfold aH.tJ;rw [aH.Xe (h.dA _).fE ht];rfl
 unfold aH.gG;rw [e1,e2,abL a1,abL rfl]
theorem HW.gG (h:HW K r E B n M (P++d::R)) (hn:n<=1048576) (w:E<500) (x:B+b.length<=r):(aH.gG M (name (d.1:Int)) b).2=0/\HW (K+6) r (E+1) (B+b.length) n (aH.gG M (name (d.1:Int)) b).1 (P++(d.1,b)::R)/\aH.kS M (aH.gG M (name (d.1:Int)) b).1/\(∀ t,t≠aH.tmp->(∀ k:Int,t≠name k)->(aH.gG M (name (d.1:Int)) b).1.all t=M.all t):=by
 cases hi:dN M.aN aH.tmp with
 |none=>
  have⟨a,c,f,g⟩:=h.aiB hi hn w x;exact ⟨a,c.mono oQ (abG _) (abG _),f,g⟩
 |some i=>
  have⟨b1,b2,j,m⟩:=aH.Kq h.dV hi;have⟨e,o⟩:=avg h.dV hi (name d.1) b;have s:=h.apart (h.dV.dA _) j (abQ m h.cO) (by rw [b2];exact abQ (EW _ _) h.ku);have⟨a,c,f,g⟩:=s.aiB o hn w x;rw [e];exact ⟨a,c,λp u=>(f p u).imp (λq=>by rw [b2]at q;exact (ai4.1 q).1) id,λt l v=>(g t l v).trans (j t l)⟩
theorem aav (d:Nat×Bs) (R:List (Nat×Bs)):done (d::R)=(if wG d then [(d.1,wL d.2)] else [])++done R:=by
 unfold done;rw [anT];split
 ·rfl
 ·rfl
theorem HW.MR:∀ (R P:List (Nat×Bs)){K E B:Nat}{M:aG},HW K r E B n M (P++R)->n<=1048576->E+R.length<500->B+(R.map λd=>8+d.2.length).sum<=r ->
  (nI R M).2=0/\HW (K+6*R.length) r (E+R.length) (B+(R.map λd=>8+d.2.length).sum) n (nI R M).1 (P++done R)/\aH.kS M (nI R M).1/\(∀ t,t≠aH.tmp->(∀ k:Int,t≠name k)->(nI R M).1.all t=M.all t)
 |[],P,K,E,B,M,h,_,_,_=>⟨rfl,h.mono (Nat.le_add_right _ _) (Nat.le_add_right _ _) (Nat.le_add_right _ _),aH.kS.refl M,λ_ _ _=>rfl⟩
 |d::R,P,K,E,B,M,h,hn,hE,hB=>by
  obtain ⟨F,G,C⟩:=Ky d.2;rw [aiT]at hE ⊢;rw [aij,avE]at hB ⊢;rw [aav];unfold nI;by_cases o:lH d.2=true
  ·rw [abL o];by_cases s:jG d.2=[]
   ·have⟨v,w,y,z⟩:=h.dA hn;have e:pX M d=M.dA (name d.1):=by unfold pX;rw [abL s]
    rw [e,abL v];have c:wG d=false:=by unfold wG;rw [o,s];rfl
    rw [c,abB aU,ajc];have⟨f,a,g,i⟩:=HW.MR R P w hn oQ oQ;exact ⟨f,a.mono oQ oQ oQ,y.trans g,λt u j=>(i t u j).trans (z t j)⟩
   ·have⟨v,w,y,z⟩:=h.gG (b:=wL d.2) hn oQ oQ;have e:pX M d=aH.gG M (name d.1) (wL d.2):=by unfold pX;rw [abB s]
    rw [e,abL v]
    have c:wG d=true:=by unfold wG;cases hq:jG d.2 with
     |nil=>exact absurd hq s
     |cons x l=>simp
    rw [c,abL rfl];have A:HW (K+6) r (E+1) (B+(wL d.2).length) n (aH.gG M (name d.1) (wL d.2)).1 ((P++[(d.1,wL d.2)])++R):=by rw [ab6];exact w
    have⟨f,a,g,i⟩:=HW.MR R (P++[(d.1,wL d.2)]) A hn oQ oQ;rw [ab6]at a;exact ⟨f,a.mono oQ oQ oQ,y.trans g,λt u j=>(i t u j).trans (z t u j)⟩
  ·have m:lH d.2=false:=by simpa using o
   rw [abB o];have c:wG d=true:=by unfold wG;rw [m];rfl
   rw [c,abL rfl,C m];have D:HW K r E B n M ((P++[(d.1,d.2)])++R):=by rw [ab6];exact h
   have⟨f,a,g,i⟩:=HW.MR R (P++[(d.1,d.2)]) D hn oQ oQ;rw [ab6]at a;exact ⟨f,a.mono oQ oQ oQ,g,i⟩
end
open Go.ay (Bs aT fO)
def P8 (b:Bs):List fO:=if lH b=true then ay.sG b else (ay.eF b).1
theorem Xc (b:Bs):(P8 b).map (·.e)=jG b:=by
 unfold P8 jG;split <;> rfl
end Go.aB
namespace Go.aY
open Go.ay (Bs)
theorem kE.put {V:Type}{m:Bs->Option V}{kv:List (Bs×V)} (h:kE m kv) (k:Bs) (v:V):kE (aY.put m k v) (yP (kv.filter λq=>decide (q.1≠k)) (k,v)):=by
 refine ⟨acP (h.jA.filter _) λy hy=>by simpa using (ai4.1 hy).2,λk' v'=>?_⟩;rw [NY,ai4];unfold aY.put;by_cases e:k'=k
 ·subst e;rw [abL rfl];constructor
  ·rintro (q|⟨_,q⟩)
   ·cases q;rfl
   ·simp at q
  ·intro q;cases q;exact .inl rfl
 ·rw [abB e];constructor
  ·rintro (q|⟨q,_⟩)
   ·cases q;exact absurd rfl e
   ·exact (h.mem _ _).1 q
  ·intro q;exact .inr ⟨(h.mem _ _).2 q,by simpa using e⟩
end Go.aY
namespace Go
open Go
theorem VG(k:G)(h:RowKit.Hid G->A:=by
 intro fM;refine gK [] (λw'=>w'.cell? ⟨p,0,none⟩=some (.slice (some ⟨bk,0,none⟩) t.bG.length lc)/\w'.cell? ⟨p,1,none⟩=some (.int .i64 n1)) aC ?_;have hG:World.cell? _ ⟨p,0,none⟩=some (.slice (some ⟨bk,0,none⟩) t.bG.length lc)/\World.cell? _ ⟨p,1,none⟩=some (.int .i64 n1):=⟨hSd.bI dh 0 rfl,hSd.bI dh 1 rfl⟩;revert hG;exact fM.o):A:=h (uQ k)
theorem agk(k:G)(h:RowKit.Hid G->A:=by
 intro fM;have Hk:=uQ hk;have wZ:=uQ (show (aI k).length=32 by rw [bP,hk]);have HB:=uQ hB;have HX:=uQ (λ(w':World) (R:List aO) (hw:au w0 w' (eH r m aZ p ps pn d::bF pn mp B::R))=>agN (abQ hB aU) hk hw);rw [hm,Option.isSome_some]at HX;have hap:=uQ (λ(w':World) (R:List aO) (hh:Ro w0 R iO) (hw:au w0 w' (bC p m L::aV m M::R))=>Oa ⟨1,k,[]⟩ hk none 0 (λw _=>J9 1 0 w) hh (acn _) hL hM rY hw);revert Hk wZ HB HX hap;exact fM.o):A:=h (uQ k)
theorem agl(h:A:=by
 refine ⟨jI (cs':=#[aW m,.int .i64 aZ,aW p,aW ps,aW pn,.bool true]) (h11.sb:au w0 sH (eH r m aZ p ps pn d::bF pn (aY.put mp k pc) (B+1)::pt b4 (.cells (aI k).toArray 34 (0,0))::pt b7 (.cells (dQ pc).toArray 115 (0,0))::bC p m L2::aV m M2::F)) aA aA aA eu dG aC aA ?_⟩;intro w12 h12;go_wp2_with fail;go_ret;exact ⟨_,rfl,rfl,h12.sb⟩):A:=h
theorem agm(h:A:=by
 have hre:=VR Ai oQ h5 aH.tmp s Hs.o;have HF:=uQ (show aH.gG M s b=M3.kC aH.tmp s from HG.o.trans (abL rfl));generalize M3.kC aH.tmp s=r4 at *
 obtain ⟨M4,e4⟩:=r4;dsimp only at hre;clear h5;go_wp2_with fail;refine hre.mono ?_;rintro ee w6 ⟨v,rfl,rfl,h6⟩;clear hre;go_wp2;go_ret;rw [HF.o];exact ⟨_,rfl,rfl,h6⟩):A:=h
theorem aeS(h:A:=by
 have c1:¬ (i:Int)<(l.length:Int):=oQ;obtain rfl:i=l.length:=oQ;have rU:=uQ (show (M2,0)=R by rw [awm]at hsw;exact hsw);clear hlt hi hsw hok;go_wp2_with fail;go_ret;exact ⟨_,rfl,by rw [<-rU.o];rfl,by rw [<-rU.o];exact hS2.drop⟩):A:=h
theorem Ii(h:A:=by
 clear c4;go_wp2;go_ret;rw [HF.o];exact ⟨_,rfl,rfl,h5⟩):A:=h
theorem ae0(h:A:=by
 have hb3:(e2==11)=false:=acj.2 c3;have HF:=uQ (show aH.gG M s b=(M2,e2) from HY.o.trans (HE.o.trans ((abB c2).trans (abB c3))));clear c2 c3;go_wp2;go_ret;rw [HF.o];exact ⟨_,rfl,rfl,h4⟩):A:=h
theorem ae8(h:A:=by
 go_wp2_with fail
 go_roundg (l.length-(i+1))
 case measure=>have:=dP.o;omega
 case rel=>exact ⟨i+1,M3,rfl,aiW dP.o,by first|rfl|go_num,⟨rU.o,yH.o⟩,hS5.sb⟩):A:=h
theorem ae9(h:A:=by
 have hn:dN M.aN ByteArray.empty=none:=by
  cases hi:dN M.aN ByteArray.empty with
  |none=>rfl
  |some i=>exact absurd rfl (h.jR.ne _ (lZ hi))
 unfold aG.size;rw [ho,hn];rfl):A:=h
theorem aff(h:A:=by
 have hb1:(e1 != 0)=true:=ajo.2 c1;have HF:=uQ (show aH.gG M s b=(M1,e1) from HX.o.trans (abB c1));clear c1;go_wp2;go_ret;rw [HF.o];exact ⟨_,rfl,rfl,h3⟩):A:=h
theorem Ph(h:A:=by
 go_wp2_with fail;go_ret;exact ⟨_,rfl,by rw [Ho.o];rfl,h1⟩):A:=h
theorem afp(k:G)(h:RowKit.Hid G->A:=by
 intro fM;have hrm:=BM ok2 oQ h4 aH.tmp;have HG:=uQ (show aH.gG M s b=(if (M2.dA aH.tmp).2=0 then ((M2.dA aH.tmp).1,11) else M2.dA aH.tmp) from HY.o.trans (HE.o.trans ((abB c2).trans (abL rfl))));revert hrm HG;exact fM.o):A:=h (uQ k)
theorem afq(k:G)(h:RowKit.Hid G->A:=by
 intro fM;have hsy:=Qb ok2 h4 aH.tmp;have Ai:=ok2.dY aH.tmp;have HG:=uQ (show aH.gG M s b=(if (M2.dY aH.tmp).2=0 then (M2.dY aH.tmp).1.kC aH.tmp s else M2.dY aH.tmp) from HY.o.trans (HE.o.trans (abL rfl)));revert hsy Ai HG;exact fM.o):A:=h (uQ k)
theorem afW(h:A:=by
 go_wp2_with fail;go_ret;exact ⟨_,rfl,by rw [<-rU.o];rfl,by rw [<-rU.o];exact hS5.sb⟩):A:=h
theorem agi(h:A:=by
 have CB:=uQ (show nM a (fs.take (i+1))=es++[(x,.slice a1 n1 k1)] by rw [Ho.o,Hq.o];rfl);have I4:=uQ (show ay.vN a ((fs.take (i+1)).map (·.1))=he by rw [Hh.o,Hq.o];rfl);have hrow:=AY.o _ hSd;have hlen:(ug es).length<=2147483648:=by
  rw [aaR fV.o];have:=Hlen.o;omega
 clear Ho Hh Hq CG
 go_wp2_with (first
  |((with_reducible refine dH ⟨?_⟩);refine kQ (b:=bk) (o:=off+i*36) (mM x (.slice a1 n1 k1)) aA hrow underlying71 rfl (by rw [zn _ _ Cm.o];exact zA) ?_)
  |((with_reducible refine akq ⟨?_⟩);refine au3 hSd aA Cm.o ?_;intro bN wN hN)
  |((with_reducible refine oK ⟨?_⟩);refine sJ 71 34 64 aC hN aA aA (bW (bW (bW bJ))) bJ (by rw [iw _ _ Cm.o]) (abG 1) (SY _ _ _ _) hlen (by rw [iw _ _ Cm.o];decide) aU rfl ?_;intro bA nA cA wA hA))
 go_roundg (fs.length-(i+1))
 case measure=>have:=dP.o;omega
 case rel=>
  have hA2:au w0 wA (pt b6 (.cells (dR he (.slice xa xn xc)) 71 (0,0))::pt b4 (.cells (dR ay.iL (.slice none 0 0)) 71 (0,0))::aK 71 34 (.slice (some ⟨bA,0,none⟩) nA cA) (ug (es++[(x,.slice a1 n1 k1)]))::F):=by
   rw [show ug (es++[(x,.slice a1 n1 k1)])=ug es++(dR x (.slice a1 n1 k1)).toList by unfold ug;rw [ai5];congr 1;unfold dR;simp];exact hA.sb
  have hnA:nA=(es++[(x,Value.slice a1 n1 k1)]).length:=by
   obtain ⟨a',n',c',e3,hl3,_⟩:=au.rd (hA2.sb:au w0 wA (aK 71 34 (.slice (some ⟨bA,0,none⟩) nA cA) (ug (es++[(x,.slice a1 n1 k1)]))::F));cases e3
   rw [aaR (λq hq=>by
    rcases ahc.1 hq with hq|hq
    ·exact fV.o q hq
    ·rw [acS.1 hq];exact Cm.o)]at hl3
   omega
  exact ⟨i+1,xa,some ⟨bA,0,none⟩,xn,xc,cA,rfl,dP.o,by first|rfl|go_num,by rw [CB.o,<-hnA],by rw [I4.o];exact Hxk.o,by rw [CB.o,I4.o];exact hA2⟩):A:=h
theorem afP(h:A:=by
 exact ⟨rfl,h.mono (Nat.le_add_right _ _) (abG _) (abG _),aH.kS.refl M,qj.refl M⟩):A:=h
theorem af0(h:A:=by
 have e:bU (x::l)=(ay.dI x).1++bU l:=rfl;rw [e,aay,aiT];omega):A:=h
end Go
namespace Go.Proofs.Y
open Go.aG
section
variable {t e:TypeId}{pos:String}{v1 v2:Value}{cs1 cs2:Array Value}{g:Nat×Bool}{op:Op}{sz je:Nat}
theorem asU (hb:vZ P t e sz je=true) (h1:v1.cells.size=sz) (h2:v2.cells.size=sz) (hle:2*sz<=16777216) (w:World) :
  (Instr.buildSlice t 2 #[(0,v1),(1,v2)]).run P w=.ok (.slice (some ⟨w.heap.size,0,none⟩) 2 2) (w.alloc (.cells (v1.cells++v2.cells) e)):=by
 obtain ⟨hu,i,z,hi,r,s,y,A,B⟩:=CQ hb;subst s;have hzv:(zeroValue e).run P w=.ok z w:=by simp [zeroValue,typeInfo,hi,r]
 have hsz':(sizeOf e).run P w=.ok i.size w:=by simp [sizeOf,typeInfo,hi]
 have hnz:¬ (2*i.size=0):=oQ;have hle':¬ (2*i.size>2^24):=oQ;unfold Instr.buildSlice;simp only [aii,akB hu,acz,hsz',abB hle',abB hnz,hzv,aiV];have hf:Instr.fill (λu=>some (u*i.size,i.size)) ((Array.range (2*i.size)).map (z.cells[· % z.cells.size]!)) [(0,v1),(1,v2)]=some (v1.cells++v2.cells):=by
  generalize m:(Array.range (2*i.size)).map (z.cells[· % z.cells.size]!)=l;have a:l.size=2*i.size:=by rw [<-m];simp
  have d:∀ (v:Value) (off:Nat) (b:Array Value),v.cells.zipIdx.foldl (λb (c,j)=>b.setIfInBounds (off+j) c) b=iK b off v.cells.toList:=λv off b=>by
   have:=Tt v.cells.toList 0 off b;rw [aoe]at this;rw [<-this,<-Array.foldl_toList,Array.toList_zipIdx]
  unfold Instr.fill;simp only [Nat.zero_mul];have x:¬ ((v1.cells.size≠i.size || 0+v1.cells.size>l.size)=true):=by
   rw [a];simp [h1];omega
  simp only [abB x];rw [d];unfold Instr.fill;simp only [Nat.one_mul];have n:¬ ((v2.cells.size≠i.size || i.size+v2.cells.size>(iK l 0 v1.cells.toList).size)=true):=by
   rw [pW,a];simp [h2];omega
  simp only [abB n];rw [d];unfold Instr.fill
  congr 1
  apply Array.toList_inj.1;have f:v1.cells.toList.length=i.size:=by rw [ahN];exact h1
  have g:v2.cells.toList.length=i.size:=by rw [ahN];exact h2
  have o:l.toList.length=2*i.size:=by rw [ahN];exact a
  rw [qY _ _ _ (by rw [pW,a,g];omega),qY _ _ _ (by rw [a,f];omega),awk];rw [ajN,ajc,aiO,ajj oQ,acE oQ,aiU (by rw [aay,abJ,f,g,o];omega),ahB]
 simp only [hf];simp [newRow,go_sem]
theorem avb (h:vZ P ty e sz je=true) (i:au w0 w L) (j:a.eval x=v1) (hy:a.eval y=v2) (c:v1.cells=cs1) (d:v2.cells=cs2) (k:cs1.size=sz) (l:cs2.size=sz) (f:2*sz<=16777216)
  (m:∀ b w',au w0 w' (pt b (.cells (cs1++cs2) e (0,0))::L)->wpList P ops Q rest (a.put dst (.slice (some ⟨b,0,none⟩) 2 2)) w'):wpList P ops Q (⟨dst,.buildSlice ty 2 #[(0,x),(1,y)],t,pos,after,none⟩::rest) a w:=by
 subst c;subst d;refine ajs rfl λ_ g=>?_;have n:=i.alloc (.cells (v1.cells++v2.cells) e);unfold Oper.wp execOp;simp only [j,hy,akg,aij,ajz,aii,aiV,asU h k l f w,acz];exact g _ _ (m _ _ n)
end
section
variable {t:TypeId}{pos:String}
theorem aky (h:lQ (wpList P ops Q (⟨dst,.buildSlice ty 2 #[(0,x),(1,y)],t,pos,after,none⟩::rest) a w)):wpList P ops Q (⟨dst,.buildSlice ty 2 #[(0,x),(1,y)],t,pos,after,none⟩::rest) a w:=h.o
end
theorem aai (s p:ByteArray) (w:World):Calls prog 160 #[.string s,.string p] w (bf λv w'=>v=.tuple #[.string ⟨(Lib.trimPrefix s.data.toList p.data.toList).toArray⟩,.bool (Lib.hasPrefix s.data.toList p.data.toList)]/\w=w'):=
 (Tryz.strings_CutPrefix s p w).mono λe w' ⟨he,hw⟩=>⟨_,he,rfl,hw.symm⟩
theorem aaj (s p:ByteArray) (k:Nat) (hk:p.data.toList.length=k) (h:s.data.toList.take k=p.data.toList) (w:World):Calls prog 160 #[.string s,.string p] w (bf λv w'=>v=.tuple #[.string ⟨(s.data.toList.drop k).toArray⟩,.bool true]/\w=w'):=by
 subst hk;have hc:=aai s p w;rw [aH.alD h,aH.U7,aiC h]at hc;exact hc
theorem aah (s p:ByteArray) (k:Nat) (hk:p.data.toList.length=k) (h:¬ s.data.toList.take k=p.data.toList) (w:World):Calls prog 160 #[.string s,.string p] w (bf λv w'=>(∃ r:ByteArray,v=.tuple #[.string r,.bool false])/\w=w'):=by
 subst hk;have hc:=aai s p w;rw [aH.U7,aes h]at hc;exact hc.mono λe w' ⟨v,he,hv,hw⟩=>⟨v,he,⟨_,hv⟩,hw⟩
theorem aoH (r:List UInt8):(⟨#[115,101,103,46]⟩:ByteArray)++(⟨r.toArray⟩:ByteArray)=⟨(aB.jW++r).toArray⟩:=by
 apply ByteArray.ext;rw [ByteArray.data_append];apply Array.toList_inj.1;simp [aB.jW]
theorem TS (s:ByteArray) (hs:s.size<=4000000000) (h:au w0 w F) :
  Calls prog 111 #[.string s] w (bf λv w'=>v=.tuple #[.int .i64 (aH.iD s).1,.bool (aH.iD s).2]/\au w0 w' F):=by
 have B:=uQ hs;have j:∀ r:List UInt8,r.length<=4000000000->¬ 9223372036854775807<(⟨#[115,101,103,46]⟩:ByteArray).size+(⟨r.toArray⟩:ByteArray).size:=λr C=>by
  have:(⟨r.toArray⟩:ByteArray).size=r.length:=by show r.toArray.size=_;exact abC ..
  have D:(⟨#[115,101,103,46]⟩:ByteArray).size=4:=rfl;omega
 have d:=uQ j;have u:=uQ (show s.data.toList.length<=4000000000 from by rw [ahN];exact hs);clear hs j;go_enter func111,ntmps111;go_wp2_with ((with_reducible refine aky ⟨?_⟩);refine avb (e:=9) (sz:=1) (je:=16) (cs1:=#[.string ⟨#[105,100,120,46]⟩]) (cs2:=#[.string ⟨#[117,115,101,46]⟩]) aC h aA aA rfl rfl rfl rfl dG ?_;intro b x h1);replace h1:au w0 x (pt b (.cells #[.string ⟨#[105,100,120,46]⟩,.string ⟨#[117,115,101,46]⟩] 9 (0,0))::F):=h1
 go_loopg [10] 3 (λg y z=>∃ i:Nat,g=3-i/\i<=2/\y=.int .i64 i/\z=x/\(1<=i->¬ s.data.toList.take 4=[105,100,120,46])/\(2<=i->¬ s.data.toList.take 4=[117,115,101,46]))
 case atStart=>exact ⟨0,rfl,by omega,rfl,rfl,λh=>by omega,λh=>by omega⟩
 case round=>
  obtain ⟨i,rfl,hi,rfl,rfl,a,f⟩:=hrel;have m:i=0\/i=1\/i=2:=oQ;clear hi h;have n:=h1.dD 0 (.string ⟨#[105,100,120,46]⟩) rfl;have o:=h1.dD 1 (.string ⟨#[117,115,101,46]⟩) rfl;rcases m with rfl|rfl|rfl
  ·clear a f o;go_wp2_with fail;by_cases c:s.data.toList.take 4=[105,100,120,46]
   ·refine (aaj s ⟨#[105,100,120,46]⟩ 4 rfl c _).mono ?_;rintro e t ⟨v,rfl,rfl,rfl⟩;have A:=d.o (s.data.toList.drop 4) (by rw [abJ];have:=u.o;omega);have Hy:=uQ (aH.ad9 (s:=s) (.inl c));clear c d;exact aeM
   ·refine (aah s ⟨#[105,100,120,46]⟩ 4 rfl c _).mono ?_;rintro e t ⟨v,rfl,⟨r,rfl⟩,rfl⟩;clear n;go_wp2_with fail
    go_roundg 2
    case measure=>omega
    case rel=>exact ⟨1,rfl,by omega,rfl,rfl,λ_=>c,λh=>by omega⟩
  ·have l:=a oQ;clear a f n;go_wp2_with fail;by_cases c:s.data.toList.take 4=[117,115,101,46]
   ·refine (aaj s ⟨#[117,115,101,46]⟩ 4 rfl c _).mono ?_;rintro e t ⟨v,rfl,rfl,rfl⟩;have A:=d.o (s.data.toList.drop 4) (by rw [abJ];have:=u.o;omega);have Hy:=uQ (aH.ad9 (s:=s) (.inr c));clear c l d;exact aeM
   ·refine (aah s ⟨#[117,115,101,46]⟩ 4 rfl c _).mono ?_;rintro e t ⟨v,rfl,⟨r,rfl⟩,rfl⟩;clear o;go_wp2_with fail
    go_roundg 1
    case measure=>omega
    case rel=>exact ⟨2,rfl,by omega,rfl,rfl,λ_=>l,λ_=>c⟩
  ·have Hy:=uQ (aH.apN (s:=s) (λh=>h.elim (a oQ) (f oQ)));clear a f n o;go_wp2_with fail
   go_ret2
   exact ⟨_,rfl,by rw [Hy.o];rfl,h1.drop⟩
theorem UO {v:Value}{l:List ByteArray} (h:bK 1 v (nG l) w):∃ a c,v=.slice a l.length c:=by
 obtain ⟨a,n,c,rfl,hl,hx⟩:=h;unfold nG at hl;rw [abl,aiR]at hl;exact ⟨a,c,by rw [hl]⟩
theorem JX {l:List ByteArray}{i:Nat}{s:ByteArray}{a:Option Addr}{n c:Nat} (h:bK 1 (.slice a n c) (nG l) w) (hi:l[i]?=some s):∃ b off,a=some ⟨b,off,none⟩/\w.cell? ⟨b,off+i,none⟩=some (.string s):=by
 have d:(nG l)[i]?=some (.string s):=by unfold nG;rw [ab4,hi];rfl
 obtain ⟨b,off,rfl,e⟩:=pq h d;exact ⟨b,off,rfl,e _ _ d⟩
theorem Ur (ok:M.Ok K):M.list.length<=500:=by
 unfold aG.list;split
 ·exact acn _
 ·rw [abl];exact ok.jR.len
theorem apA {l:List ByteArray}{i:Nat}{s:ByteArray} (h:l[i]?=some s) (x:Int):aH.Af (l.drop i) x=aH.Af (l.drop (i+1)) (if (aH.iD s).2=true then max x (aH.iD s).1 else x):=by
 obtain ⟨hi,rfl⟩:=abM.1 h;rw [ajB hi]
 rfl
theorem JW (hM:M.Ok K) (hn:∀ f∈M.list,f.size<=4000000000) (h:au w0 w (aV m M::F)):Calls prog 100 #[aW m] w (bf λv w'=>v=.int .i64 (aH.iC M)/\au w0 w' (aV m M::F)):=by
 have o:=JL hM h;have Hlen:=uQ (Ur hM);have A:=uQ hn;have B:=uQ (show aH.Af M.list (-1)=aH.iC M from rfl);clear hn hM;generalize M.list=l at *
 generalize aH.iC M=W at *
 go_in
 go_wp2_with fail;refine o.mono ?_;rintro e H ⟨v,rfl,y,_⟩;clear o h;obtain ⟨a,c,rfl⟩:=UO (au.rd y);go_wp2_with fail
 go_loopg [3,11] l.length (λg lv C D=>∃ (i:Nat) (x:Int),g=l.length-i/\i<=l.length/\lv=.int .i64 x/\C=.int .i64 i/\aH.Af (l.drop i) x=W/\au w0 D (aK 9 1 (.slice a l.length c) (nG l)::aV m M::F))
 case atStart=>exact ⟨0,-1,rfl,acn _,rfl,rfl,B.o,y⟩
 case round=>
  obtain ⟨i,x,rfl,hi,rfl,rfl,r,d⟩:=hrel;clear y;by_cases hlt:i<l.length
  ·have E:i<l.length:=oQ;refine O5 ?_;intro hwi;obtain ⟨s,hs⟩:∃ s,l[i]?=some s:=⟨_,aaf hlt⟩;obtain ⟨I,off,rfl,G⟩:=JX (au.rd d) hs;have u:=uQ (r.symm.trans (apA hs x));have z:=A.o s (abH hs);have j:=uQ hlt;clear r hs hlt hi;go_wp2_with fail;refine (TS s z d).mono ?_;rintro e J ⟨v,rfl,rfl,t⟩;clear d G;generalize (aH.iD s).1=n at *
   generalize (aH.iD s).2=b at *
   cases b with
   |true=>
    go_wp2_with fail
    go_roundg (l.length-(i+1))
    case measure=>have:=j.o;omega
    case rel=>exact ⟨i+1,max x n,rfl,aiW j.o,by first|rfl|(congr 1),by first|rfl|go_num,u.o.symm,t⟩
   |false=>
    go_wp2_with fail
    go_roundg (l.length-(i+1))
    case measure=>have:=j.o;omega
    case rel=>exact ⟨i+1,x,rfl,aiW j.o,rfl,by first|rfl|go_num,u.o.symm,t⟩
  ·have E:¬ (i:Int)<(l.length:Int):=oQ;have u:=uQ (show x=W by rw [aiU oQ]at r;exact r);clear r hlt hi;go_wp2_with fail;go_ret;exact ⟨_,rfl,by rw [u.o];rfl,d.drop⟩
def ajS (w0:World) (l:Bs) (F:List aO) (v:Value) (w:World):Prop:=∃ (fs:List (ay.fO×Value)) (ov:Value),fs.map (·.1)=(if aB.lH l=true then ay.sG l else (ay.eF l).1)/\(∀ p∈fs,p.1.e.key.length=32)/\v=.tuple #[ov,.int .i64 (ay.eF l).2.1,.bool (aB.lH l)] /\
 au w0 w (aK 154 36 ov (jw fs)::kT fs::F)
theorem asn (l:Bs) (hr:Ro w0 F (bK 1 bv (aI l))) (hcap:lS bv) (hl:l.length<=268435456) (h:au w0 w F) :
  Calls prog 77 #[bv] w (bf λv w'=>∃ (fs:List (ay.fO×Value)),fs.map (·.1)=ay.sG l/\(∀ p∈fs,p.1.e.key.length=32) /\
   au w0 w' (aK 154 36 v (jw fs)::kT fs::F)):=by
 obtain ⟨B,C,bc,rfl,f,j⟩:=hcap;have y:C=l.length:=by
  exact Dv
 subst y;have Hf:=uQ (show ay.sG l=ay.wU l.length l 0 from rfl);have hS0:au w0 w (aK 154 36 (.slice none 0 0) (jw [])::kT []::F):=au.iW.2 (au.ng.2 h);by_cases d:l.length=0
 ·have D:=uQ d;have hfin:=uQ (show ay.sG l=[] by rw [Hf.o,d];rfl);have c1:¬ (0:Int)<l.length:=oQ;clear hr hl d f j;go_enter func77,ntmps77;exact aeX
 obtain ⟨u,off,rfl⟩:∃ u off,B=some ⟨u,off,none⟩:=by
  exact afg
 have E:=uQ hr;have Hl:=uQ hl;have c:=uQ (show l.length<=bc/\bc<=9223372036854775807 from ⟨f,j⟩);clear hr hl f j d;go_enter func77,ntmps77;go_wp2_with fail
 go_loopg [3,4] l.length (λg ov G wr=>∃ (aP:Nat) (fs:List (ay.fO×Value)),g=l.length-aP/\aP<=l.length/\9*fs.length<=aP/\G=.int .i64 aP/\(∀ p∈fs,p.1.e.key.length=32) /\
  (∃ k,l.length-aP<=k/\ay.sG l=fs.map (·.1)++ay.wU k (l.drop aP) aP) /\
  au w0 wr (aK 154 36 ov (jw fs)::kT fs::F))
 case atStart=>
  exact afO
 case round=>
  obtain ⟨aP,fs,rfl,hat,m,rfl,o,⟨k,A,s⟩,hS⟩:=hrel;have Hk:=uQ A;have vH:=uQ s;have sK:=uQ o;have vk:=uQ (show aP<=l.length/\9*fs.length<=aP from ⟨hat,m⟩);clear A s o m hS0;by_cases hlt:aP<l.length
  ·have c1:aP<l.length:=oQ;have I:aP<=bc:=by have:=c.o;omega
   have J:(l.length:Int)<=(bc:Int):=by have:=c.o;omega
   have K:(aP:Int)<=(l.length:Int):=oQ;have L:(0:Int)<=(aP:Int):=oQ;have M:¬ bc=aP:=by have:=c.o;omega
   have z:∀ w,(Instr.sliceAt 59 (.slice (some ⟨u,off,none⟩) l.length bc) (some (.int .i64 aP)) none none).run prog w=.ok (.slice (some ⟨u,off+aP,none⟩) (l.length-aP) (bc-aP)) w:=by
    intro w;go_simp
   have t:=uQ (λw hw=>yC (E.o w hw) aP l.length (bc-aP) hat (abG _));rw [ai0]at t;have dP:=uQ hlt;clear hlt hat;go_wp2_with ((with_reducible refine MK ⟨?_⟩);refine Qr aA aA z ?_);refine (agP (l.drop aP) (Ro.os t.o) ⟨_,_,_,rfl,by have:=c.o;omega,by have:=c.o;omega⟩ zE0 hS).mono ?_;rintro N O ⟨v,rfl,da,dc,rfl,hS2⟩;have Ec:=uQ (ay.Ik (l.drop aP));obtain ⟨k,rfl⟩:∃ H,k=H+1:=⟨k-1,by have:=Hk.o;have:=dP.o;omega⟩;refine VI ?_;intro vC;by_cases hz:(ay.read (l.drop aP)).2.2=0
   ·refine aeK ?_;intro fV yJ hN;exact agb
   ·exact afA
  ·exact aeV
theorem aso (l:Bs) (H:Ro w0 F (bK 1 bv (aI l))) (E:lS bv) (I:l.length<=268435456) (h:au w0 w F) :
  Calls prog 27 #[bv] w (bf λv w'=>ajS w0 l F v w'):=by
 have c:=agS l H E I h;have b:=(λ(w':World) (G:List aO) hg (y:au w0 w' G)=>asn l hg E I y);have n:=(show aB.lH l=((ay.eF l).2.2 != 0) from rfl)
 go_in
 go_wp2_with fail;refine c.mono ?_;rintro e C ⟨v,rfl,z,A,o,r,rfl,s⟩;have t:=(And.intro o r);by_cases i:(ay.eF l).2.2=0
 ·have j:((ay.eF l).2.2 != 0)=false:=by rw [i];rfl
  have d:=n.trans j;have a:=uQ d;go_wp2
  go_ret3
  exact ⟨_,rfl,z,A,by rw [abB (by rw [a.o];decide)];exact t.1,t.2,by rw [a.o];rfl,s⟩
 ·have j:=ajo.2 i;have d:=n.trans j;have a:=uQ d;have f:=b _ _ (Ro.os H) s;go_wp2_with fail;refine f.mono ?_;rintro e D ⟨v,rfl,m,u,x,B⟩;have g:=(And.intro u x);go_wp2
  go_ret3
  exact ⟨_,rfl,m,_,by rw [abL a.o];exact g.1,g.2,by rw [a.o];rfl,B.sb⟩
theorem amO (l:Bs) (hr:Ro w0 F (bK 1 bv (aI l))) (hcap:lS bv) (hH:Ro w0 F iO) (hl:l.length<=268435456) (h:au w0 w F) :
  Calls prog 97 #[bv] w (bf λv w'=>∃ (fs:List (ay.fO×Value)),fs.map (·.1)=ay.sG l/\(∀ p∈fs,p.1.e.key.length=32) /\
   au w0 w' (aK 154 36 v (jw fs)::kT fs::F)):=by
 obtain ⟨B,C,bc,rfl,f,j⟩:=hcap;have y:C=l.length:=by
  exact Dv
 subst y;have Hf:=uQ (show ay.sG l=ay.wU l.length l 0 from rfl);have hS0:au w0 w (aK 154 36 (.slice none 0 0) (jw [])::kT []::F):=au.iW.2 (au.ng.2 h);by_cases d:l.length=0
 ·have D:=uQ d;have hfin:=uQ (show ay.sG l=[] by rw [Hf.o,d];rfl);have c1:¬ (0:Int)<l.length:=oQ;clear hr hH hl d f j;go_enter func97,ntmps97;exact aeX
 obtain ⟨u,off,rfl⟩:∃ u off,B=some ⟨u,off,none⟩:=by
  exact afg
 have E:=uQ hr;have G:=uQ hH;have Hl:=uQ hl;have c:=uQ (show l.length<=bc/\bc<=9223372036854775807 from ⟨f,j⟩);clear hr hH hl f j d;go_enter func97,ntmps97;go_wp2_with fail
 go_loopg [3,4] l.length (λg ov H wr=>∃ (aP:Nat) (fs:List (ay.fO×Value)),g=l.length-aP/\aP<=l.length/\9*fs.length<=aP/\H=.int .i64 aP/\(∀ p∈fs,p.1.e.key.length=32) /\
  (∃ k,l.length-aP<=k/\ay.sG l=fs.map (·.1)++ay.wU k (l.drop aP) aP) /\
  au w0 wr (aK 154 36 ov (jw fs)::kT fs::F))
 case atStart=>
  exact afO
 case round=>
  obtain ⟨aP,fs,rfl,hat,m,rfl,o,⟨k,A,s⟩,hS⟩:=hrel;have Hk:=uQ A;have vH:=uQ s;have sK:=uQ o;have vk:=uQ (show aP<=l.length/\9*fs.length<=aP from ⟨hat,m⟩);clear A s o m hS0;by_cases hlt:aP<l.length
  ·have c1:aP<l.length:=oQ;have J:aP<=bc:=by have:=c.o;omega
   have K:(l.length:Int)<=(bc:Int):=by have:=c.o;omega
   have L:(aP:Int)<=(l.length:Int):=oQ;have M:(0:Int)<=(aP:Int):=oQ;have N:¬ bc=aP:=by have:=c.o;omega
   have z:∀ w,(Instr.sliceAt 59 (.slice (some ⟨u,off,none⟩) l.length bc) (some (.int .i64 aP)) none none).run prog w=.ok (.slice (some ⟨u,off+aP,none⟩) (l.length-aP) (bc-aP)) w:=by
    intro w;go_simp
   have t:=uQ (λw hw=>yC (E.o w hw) aP l.length (bc-aP) hat (abG _));rw [ai0]at t;have dP:=uQ hlt;clear hlt hat;go_wp2_with ((with_reducible refine MK ⟨?_⟩);refine Qr aA aA z ?_);refine (Tv (l.drop aP) (Ro.os t.o) ⟨_,_,_,rfl,by have:=c.o;omega,by have:=c.o;omega⟩ (Ro.os G.o) zE0 hS).mono ?_;rintro O P ⟨v,rfl,da,dc,rfl,hS2⟩;have Ec:=uQ (ay.Ik (l.drop aP));obtain ⟨k,rfl⟩:∃ I,k=I+1:=⟨k-1,by have:=Hk.o;have:=dP.o;omega⟩;refine VI ?_;intro vC;by_cases hz:(ay.read (l.drop aP)).2.2=0
   ·refine aeK ?_;intro fV yJ hN;exact agb
   ·exact afA
  ·exact aeV
end Go.Proofs.Y
