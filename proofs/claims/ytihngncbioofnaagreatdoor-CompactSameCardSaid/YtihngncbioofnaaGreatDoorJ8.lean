import Derived.Test.YtihngncbioofnaaGreatDoorJ7
import Derived.Lib.ConvBytes
import Derived.ArgAppend
import Derived.Laws.BitsAllLaws
open Go.Proofs.Tryz
set_option maxRecDepth 20000
set_option linter.unusedVariables false
set_option linter.unusedSimpArgs false
set_option maxHeartbeats 128000000
open Go Go.Sl Go.MapKept Go.RowKit
open Go.Proofs.YtihngncbioofnaaGreatDoor
variable {w w0:World}{F:List aG}{p B m K r ps pn n c:Nat}{v bv rv:Value}{L:Seg.Log}{M:ay.ay}{seg:Int}{d:Bool}{k:aj.Bs}{mp:aj.Bs->Option Seg.aV}{P:Program}{l:ay.Bs}{ops:Array Oper}{a:Act}{dst:Option Tmp}{t ty:TypeId}{after:Array Edge}{x y:Operand}
namespace Go.Proofs.Y
open Go.ay
theorem al3 (hB:B<=268435000) (hk:k.length=32) (h:Sat w0 w (aY r m seg p ps pn d::aH pn mp B::F)) :
  Calls prog 154 #[ptr r,.agg (aA k).toArray] w (aP λv w'=>v=.tuple #[.agg (aW ((mp k).getD Seg.aV.zero)).toArray,.bool (mp k).isSome]/\Sat w0 w' (aY r m seg p ps pn d::aH pn mp B::F)):=by
 have Hk:=uQ hk;have iK:=uQ (show (aA k).length=32 by rw [aX,hk]);have HB:=uQ hB;clear hk hB;go_enter func154,ntmps154;go_wp2_with (with_reducible apply fD);refine ⟨fE h ak ak ?_⟩;intro b3 w3 h3;go_wp2_with (with_reducible apply fB);refine ⟨eF ou h3 rfl ?_⟩;intro b4 w4 h4;replace h4:Sat w0 w4 (aY r m seg p ps pn d::pt b4 (.cells (aW Seg.aV.zero).toArray 94 (0,0))::pt b3 (.cells (aA k).toArray 50 (0,0))::aH pn mp B::F):=h4.sb;clear h h3;go_wp2_with fail;refine (nZ h4).mono ?_;rintro ee w5 ⟨v,rfl,rfl,rfl⟩;go_wp2_with fail;have h5:=h4.drew;clear h4;refine dN [5,6,7,8,9] (λw'=>w'.cell? ⟨r,4,none⟩=some (.pointer (some ⟨pn,0,none⟩))/\w'.rangeAt b3 0 (aA k)) au ?_;have hG:World.cell? _ ⟨r,4,none⟩=some (.pointer (some ⟨pn,0,none⟩))/\World.rangeAt _ b3 0 (aA k):=⟨h5.cellP aU 4 rfl,λj z hj=>by rw [ad8];exact h5.cellP eH j yK0⟩
 refine rP 0 ?_ (y:=aZ);refine rP 1 ?_ (y:=dW);refine rP 2 ?_ (y:=bY);refine rt 3 (h:=?_);refine gK 4 ak au bV (jh (b:=b3) (o:=0) (aA k) ah underlying50 rfl yG0 (λw hw=>hw.2)) aQ gQ ?_;clear hG;refine bW 5 ak au (λK hK=>?_)
 (refine iC au ak ak ?_)
 refine (Ph HB.o Hk.o (h5.sb:Sat w0 _ (aH pn mp B::pt b4 (.cells (aW Seg.aV.zero).toArray 94 (0,0))::aY r m seg p ps pn d::pt b3 (.cells (aA k).toArray 50 (0,0))::F))).mono ?_;rintro ee w6 ⟨v,rfl,rfl,h6⟩;refine hK _ _ (.inl rfl) ?_;clear hK h5;generalize hpc:(mp k).getD Seg.aV.zero=pc at *
 have xM:=uQ hpc;clear hpc;refine rP 6 ?_ (y:=(iF ak dw));refine rP 7 ?_ (y:=(iF ak dw));have h7:Sat w0 w6 (pt b4 (.cells (aW Seg.aV.zero).toArray 94 (0,0))::aY r m seg p ps pn d::pt b3 (.cells (aA k).toArray 50 (0,0))::aH pn mp B::F):=h6.sb;clear h6;refine bW 8 ak au (λK hK=>?_);refine kQ (cs':=(aW pc).toArray) h7 ak ak ah cZ bI au ah ?_;intro w9 h9;refine hK _ _ (.inl rfl) ?_;clear hK h7;refine rP 9 ?_ (y:=iy);refine dH au ?_;go_wp2_with fail;refine ⟨rfl,_,oW rfl h9 ah aU underlying94 rfl au,_,rfl,?_,h9.sb⟩;rw [xM.o];rfl
theorem SK (hB:B<=268435000) (hk:k.length=32) (h:Sat w0 w (aY r m seg p ps pn d::aH pn mp B::F)) :
  Calls prog 108 #[ptr r,.agg (aA k).toArray] w (aP λv w'=>v=.bool (mp k).isSome/\Sat w0 w' (aY r m seg p ps pn d::aH pn mp B::F)):=by
 have Hk:=uQ hk;have iK:=uQ (show (aA k).length=32 by rw [aX,hk]);have HB:=uQ hB;clear hk hB;go_enter func108,ntmps108;go_wp2_with (with_reducible apply fD);refine ⟨fE h ak ak ?_⟩;intro b3 w3 h3;replace h3:Sat w0 w3 (pt b3 (.cells (aA k).toArray 50 (0,0))::aY r m seg p ps pn d::aH pn mp B::F):=h3;clear h;go_wp2_with ((with_reducible refine bP ⟨?_⟩);refine iQ h3 ah aU underlying50 rfl (by rw [abn,iK.o];kernel_rfl) ?_);refine (al3 HB.o Hk.o (h3.sb:Sat w0 w3 (aY r m seg p ps pn d::aH pn mp B::pt b3 (.cells (aA k).toArray 50 (0,0))::F))).mono ?_;rintro ee w4 ⟨v,rfl,rfl,h4⟩;clear h3;generalize (mp k).getD Seg.aV.zero=pc at *
 go_wp2_with (with_reducible apply fB);refine ⟨eF ou h4 rfl ?_⟩;intro b5 w5 h5;go_wp2_with (with_reducible apply dh);refine ⟨fP (aW pc).toArray h5 ah ah ah cZ au ah ?_⟩;intro w6 h6;go_wp2_with fail;go_ret;exact ⟨_,rfl,rfl,h6.sb⟩
theorem alZ (h:Sat w0 w (aY r m seg p ps pn d::F)) :
  Calls prog 69 #[ptr r] w (aP λv w'=>v=.bool d/\w=w'):=by
 have e5:w.cell? ⟨r,5,none⟩=some (.bool d):=h.cellAt 5 _ rfl;have hok:=nZ h;clear h;go_enter func69,ntmps69;go_wp2_with fail;refine hok.mono ?_;rintro ee w1 ⟨v,rfl,rfl,rfl⟩;go_wp2;go_ret;exact ⟨_,rfl,rfl,rfl⟩
theorem al1 (hB:B<=13000000) (h:Sat w0 w (aY r m seg p ps pn d::aH pn mp B::F)) :
  Calls prog 53 #[ptr r] w (aP λv w'=>∃ kv:List (aj.Bs×Seg.aV),(Tab.Lists mp kv/\(∀ q∈kv,q.1.length=32)/\kv.length<=B)/\Sat w0 w' (aC 50 32 v (kv.flatMap λq=>aA q.1)::aY r m seg p ps pn d::aH pn mp B::F)):=by
 have e4:w.cell? ⟨r,4,none⟩=some (.pointer (some ⟨pn,0,none⟩)):=h.cellAt 4 _ rfl;have hok:=nZ h;have hks:=ajf hB (h.sb:Sat w0 w (aH pn mp B::aY r m seg p ps pn d::F));clear h;go_enter func53,ntmps53;go_wp2_with fail;refine hok.mono ?_;rintro ee w1 ⟨v,rfl,rfl,rfl⟩;go_wp2_with fail;refine hks.mono ?_;rintro ee w2 ⟨v,rfl,kv,hkv,h2⟩;have Nw:=uQ hkv;clear hkv;go_wp2_with fail;go_ret;exact ⟨_,rfl,kv,⟨Nw.o.1,by intros;exact Nw.o.2.1 (_,_) aQ,Nw.o.2.2⟩,h2.sb⟩
theorem ala {a b:Array Value} (h:a.size=b.size):eU a 0 b.toList=b:=by
 apply ql;rw [l9 _ _ _ (by rw [ad4];omega),aeO,aeu,ad8,aew (by rw [ad4,ad4];omega),adV]
theorem al0 (hB:B<=268435000) (hk:k.length=32) (pl:Seg.aV) (hm:mp k=some pl) (hH:Ro w0 F Half) (hL:L.Ok) (hM:M.Ok K) (h1 : -9223372036854775808<=pl.at_/\pl.at_<=9223372036854775807) (h2 : -9223372036854775808<=pl.size/\pl.size<=9223372036854775807) (data:aj.Bs) (hdl:data.length<=140737488355328) (hr:L.read M pl=(⟨0,k,data⟩,0)) (h:Sat w0 w (aY r m seg p ps pn d::aH pn mp B::aK p m L::aJ m M::F)) :
  Calls prog 54 #[ptr r,.agg (aA k).toArray] w (aP λv w'=>∃ bv a n c,v=.tuple #[bv,errno 0]/\bv=.slice a n c/\Sat w0 w' (bQ bv data::aY r m seg p ps pn d::aH pn mp B::aK p m L::aJ m M::F)):=by
 have Hk:=uQ hk;have iK:=uQ (show (aA k).length=32 by rw [aX,hk]);have HT:=uQ (λ(w':World) (R:List aG) (hw:Sat w0 w' (aH pn mp B::R))=>Ph hB hk hw);rw [hm,apd,Option.isSome_some]at HT;have HH:=uQ hH;have HR:=uQ (λ(w':World) (R:List aG) (hh:Ro w0 R Half) (hw:Sat w0 w' (aK p m L::aJ m M::R))=>ajJ hh hL hM pl h1 h2 hw);rw [hr]at HR;have Nh:=uQ hdl;clear hk hB hm hH hL hM h1 h2 hr hdl;go_enter func54,ntmps54;go_wp2_with (with_reducible apply fD);refine ⟨fE h ak ak ?_⟩;intro b3 w3 h3;have h4:Sat w0 w3 (aY r m seg p ps pn d::pt b3 (.cells (aA k).toArray 50 (0,0))::aH pn mp B::aK p m L::aJ m M::F):=h3.sb;clear h h3;go_wp2_with fail;refine (nZ h4).mono ?_;rintro ee w5 ⟨v,rfl,rfl,rfl⟩;go_wp2_with fail;have h5:=h4.drew;clear h4;refine dN [5,6,7,8,10,11] (λw'=>w'.cell? ⟨r,4,none⟩=some (.pointer (some ⟨pn,0,none⟩))/\w'.rangeAt b3 0 (aA k)) au ?_
 have l7:∀ (w':World) (R:List aG),Sat w0 w' (aY r m seg p ps pn d::pt b3 (.cells (aA k).toArray 50 (0,0))::R)->w'.cell? ⟨r,4,none⟩=some (.pointer (some ⟨pn,0,none⟩))/\w'.rangeAt b3 0 (aA k):=λw' R hw=>⟨hw.cellP aU 4 rfl,λj z hj=>by rw [ad8];exact hw.cellP bf j yK0⟩;have mV:=uQ l7;have hG:=l7 _ _ h5;clear l7;refine rP 0 ?_ (y:=aZ);refine rP 1 ?_ (y:=dW);refine rP 2 ?_ (y:=bY);refine rt 3 (h:=?_);refine gK 4 ak au bV (jh (b:=b3) (o:=0) (aA k) ah underlying50 rfl yG0 (λw hw=>hw.2)) aQ gQ ?_;clear hG;refine sO 5 9 ak ak au (λK hK=>?_) (λK hK=>?_)
 focus
  (refine iC au ak ak ?_)
  refine (HT.o _ _ (h5.sb:Sat w0 _ (aH pn mp B::aY r m seg p ps pn d::pt b3 (.cells (aA k).toArray 50 (0,0))::aK p m L::aJ m M::F))).mono ?_;rintro ee w6 ⟨v,rfl,rfl,h6⟩;refine hK _ _ (.inl rfl) ?_;clear hK h5;refine rP 6 ?_ (y:=aZ);refine rP 7 ?_ (y:=(iF ak dw));refine rP 8 ?_ (y:=(iF ak dw));refine bW 9 ak au (λK hK=>?_);refine nH (ou) h6 rfl ?_;intro b6 w7 h7;refine hK _ _ (.inr (.inl (mV.o _ _ (h7.sb:Sat w0 w7 (aY r m seg p ps pn d::pt b3 (.cells (aA k).toArray 50 (0,0))::pt b6 (.cells (aW Seg.aV.zero).toArray 94 (0,0))::aH pn mp B::aK p m L::aJ m M::F))))) ?_;clear hK h6;have h8:Sat w0 w7 (pt b6 (.cells (aW Seg.aV.zero).toArray 94 (0,0))::aY r m seg p ps pn d::pt b3 (.cells (aA k).toArray 50 (0,0))::aH pn mp B::aK p m L::aJ m M::F):=h7.sb;clear h7
 rotate_left
 focus
  refine nH (ou) h5 rfl ?_;intro b6 w6 h6;refine hK _ _ (.inr (.inl (mV.o _ _ (h6.sb:Sat w0 w6 (aY r m seg p ps pn d::pt b3 (.cells (aA k).toArray 50 (0,0))::pt b6 (.cells (aW Seg.aV.zero).toArray 94 (0,0))::aH pn mp B::aK p m L::aJ m M::F))))) ?_;clear hK h5;refine bW 5 ak au (λK hK=>?_)
  (refine iC au ak ak ?_)
  refine (HT.o _ _ (h6.sb:Sat w0 _ (aH pn mp B::pt b6 (.cells (aW Seg.aV.zero).toArray 94 (0,0))::aY r m seg p ps pn d::pt b3 (.cells (aA k).toArray 50 (0,0))::aK p m L::aJ m M::F))).mono ?_;rintro ee w7 ⟨v,rfl,rfl,h7⟩;refine hK _ _ (.inl rfl) ?_;clear hK h6;refine rP 6 ?_ (y:=aZ);refine rP 7 ?_ (y:=(iF ak dw));refine rP 8 ?_ (y:=(iF ak dw));have h8:Sat w0 w7 (pt b6 (.cells (aW Seg.aV.zero).toArray 94 (0,0))::aY r m seg p ps pn d::pt b3 (.cells (aA k).toArray 50 (0,0))::aH pn mp B::aK p m L::aJ m M::F):=h7.sb;clear h7
 all_goals
  refine bW 10 ak au (λK hK=>?_);refine kQ (cs':=(aW pl).toArray) h8 ak ak ah cZ bI au ah ?_;intro w9 h9;refine hK _ _ (.inl rfl) ?_;clear hK h8;refine rP 11 ?_ (y:=iy);refine dH au ?_;go_wp2_with fail;have h10:=h9.drew;clear h9 mV;refine dN [5,6,7,8,10,11] (λw'=>w'.cell? ⟨r,2,none⟩=some (.pointer (some ⟨p,0,none⟩))/\w'.rangeAt b6 0 (aW pl)) au ?_;have l7:∀ (w':World) (R:List aG),Sat w0 w' (pt b6 (.cells (aW pl).toArray 94 (0,0))::aY r m seg p ps pn d::R)->w'.cell? ⟨r,2,none⟩=some (.pointer (some ⟨p,0,none⟩))/\w'.rangeAt b6 0 (aW pl):=λw' R hw=>⟨hw.cellP bf 2 rfl,λj z hj=>by rw [ad8];exact hw.cellP aU j yK0⟩;have mV:=uQ l7;have hG:=l7 _ _ h10;clear l7;refine rP 0 ?_ (y:=aZ);refine rP 1 ?_ (y:=dW);refine rP 2 ?_ (y:=bY);refine rt 3 (h:=?_);refine gK 4 ak au bV (jh (b:=b6) (o:=0) (aW pl) ah underlying94 rfl au (λw hw=>hw.2)) aQ gQ ?_;clear hG
  refine sO 5 9 ak ak au (λK hK=>?_) (λK hK=>?_)
  focus
   (refine iC au ak ak ?_)
   refine (HR.o _ _ (Ro.os HH.o) (h10.sb:Sat w0 _ (aK p m L::aJ m M::pt b6 (.cells (aW pl).toArray 94 (0,0))::aY r m seg p ps pn d::pt b3 (.cells (aA k).toArray 50 (0,0))::aH pn mp B::F))).mono ?_;rintro ee iH ⟨v,rfl,da,dc,rfl,h11⟩;refine hK _ _ (.inl rfl) ?_;clear hK h10;refine rP 6 ?_ (y:=aZ);refine rP 7 ?_ (y:=(iF ak dw));refine rP 8 ?_ (y:=(iF ak dw));refine bW 9 ak au (λK hK=>?_);refine nH (BD) h11 rfl ?_;intro b8 w12 h12;refine hK _ _ (.inr (.inl (mV.o _ _ (h12.sb:Sat w0 w12 (pt b6 (.cells (aW pl).toArray 94 (0,0))::aY r m seg p ps pn d::pt b8 (.cells xE.cells 52 (0,0))::bQ (.slice da data.length dc) data::aK p m L::aJ m M::pt b3 (.cells (aA k).toArray 50 (0,0))::aH pn mp B::F))))) ?_;clear hK h11
  rotate_left
  focus
   refine nH (BD) h10 rfl ?_;intro b8 iH h11;refine hK _ _ (.inr (.inl (mV.o _ _ (h11.sb:Sat w0 iH (pt b6 (.cells (aW pl).toArray 94 (0,0))::aY r m seg p ps pn d::pt b8 (.cells xE.cells 52 (0,0))::pt b3 (.cells (aA k).toArray 50 (0,0))::aH pn mp B::aK p m L::aJ m M::F))))) ?_;clear hK h10;refine bW 5 ak au (λK hK=>?_)
   (refine iC au ak ak ?_)
   refine (HR.o _ _ (Ro.os HH.o) (h11.sb:Sat w0 _ (aK p m L::aJ m M::pt b8 (.cells xE.cells 52 (0,0))::pt b6 (.cells (aW pl).toArray 94 (0,0))::aY r m seg p ps pn d::pt b3 (.cells (aA k).toArray 50 (0,0))::aH pn mp B::F))).mono ?_;rintro ee w12 ⟨v,rfl,da,dc,rfl,h12⟩;refine hK _ _ (.inl rfl) ?_;clear hK h11;refine rP 6 ?_ (y:=aZ);refine rP 7 ?_ (y:=(iF ak dw));refine rP 8 ?_ (y:=(iF ak dw));replace h12:Sat w0 w12 (pt b8 (.cells xE.cells 52 (0,0))::bQ (.slice da data.length dc) data::aK p m L::aJ m M::pt b6 (.cells (aW pl).toArray 94 (0,0))::aY r m seg p ps pn d::pt b3 (.cells (aA k).toArray 50 (0,0))::aH pn mp B::F):=h12.sb
  all_goals
   refine bW 10 ak au (λK hK=>?_);refine kQ (cs':=dQ ⟨0,k,data⟩ (.slice da data.length dc)) (v:= .agg (dQ ⟨0,k,data⟩ (.slice da data.length dc))) h12 ak ak (by exact ala (show (dQ aj.zeroE (.slice none 0 0)).size=(dQ ⟨0,k,data⟩ (.slice da data.length dc)).size by rw [fF _ _ (show (⟨0,k,data⟩:aj.aI).key.length=32 from Hk.o)];rfl)) cZ (show 0+(dQ ⟨0,k,data⟩ (.slice da data.length dc)).size<=(dQ aj.zeroE (.slice none 0 0)).size by rw [fF _ _ (show (⟨0,k,data⟩:aj.aI).key.length=32 from Hk.o)];exact abl _) (show _=some (dQ ⟨0,k,data⟩ (.slice da data.length dc)).size by rw [fF _ _ (show (⟨0,k,data⟩:aj.aI).key.length=32 from Hk.o)];exact CQ) (XR _ _ _ _) ?_;intro jM h13;refine hK _ _ (.inl rfl) ?_;clear hK h12;refine rP 11 ?_ (y:=iy);refine dH au ?_;have e0:jM.cell? ⟨b8,0,none⟩=some (.int .i64 0):=h13.cellP aU 0 (by unfold dQ;rw [ace];rfl)
   have f1:jM.rangeAt b8 1 (aA k):=λj z hj=>h13.cellP aU (1+j) (by unfold dQ;rw [ace];exact ahb (⟨0,k,data⟩:aj.aI) _ hj);have f2:jM.rangeAt b3 0 (aA k):=λj z hj=>by rw [ad8];exact (h13.pk (A:=pt b3 (.cells (aA k).toArray 50 (0,0)))).cellAt j z yK0
   have e33:jM.cell? ⟨b8,33,none⟩=some (.slice da data.length dc):=h13.cellP aU 33 (by unfold dQ;rw [ace];exact aha (⟨0,k,data⟩:aj.aI) _ Hk.o);have hnk:∀ w,(binOp .neq 50 (.agg (aA k).toArray) (.agg (aA k).toArray)).run prog w=.ok (.bool false) w:=λw=>by rw [aaz k k Hk.o Hk.o w];simp
   have hcl:=wI h13 (Sat.rd (h13.sb:Sat w0 jM (bQ (.slice da data.length dc) data::F))) Nh.o;clear mV HH HR HT
   go_wp2_with (first
    |((with_reducible refine bP ⟨?_⟩);first
     |refine iR (b:=b8) (o:=1) (aA k) ah f1 underlying50 rfl yG0 ?_
     |refine iR (b:=b3) (o:=0) (aA k) ah f2 underlying50 rfl yG0 ?_)
    |((with_reducible apply Gy);refine ⟨?_⟩;refine y8 (by first|rfl|kernel_rfl) ?_))
   refine hcl.mono ?_;rintro ee kT ⟨v,rfl,iM,a,n,c,rfl⟩;clear hcl;go_wp2_with fail
   go_ret2
   exact ⟨_,rfl,_,a,n,c,rfl,rfl,iM.sb⟩
theorem al4 (hB:B<=134217000) (hk:k.length=32) (data:aj.Bs) (da:Option Addr) (dc:Nat) (hd:Ro w0 F (bF 1 (.slice da data.length dc) (aA data))) (tN:data.length<=1099511627) (hL:L.Ok) (hM:M.Ok K) (kR:K+4<=1099511627776) (hH:Ro w0 F Half)
  (h0:(L.append M ⟨0,k,data⟩).2.2≠0) (h:Sat w0 w (aY r m seg p ps pn d::aH pn mp B::aK p m L::aJ m M::F)) :
  Calls prog 52 #[ptr r,.agg (aA k).toArray,.slice da data.length dc] w (aP λv w'=>v=errno (L.append M ⟨0,k,data⟩).2.2/\Sat w0 w' (aY r m seg p ps pn d::aH pn mp B::aK p m (L.append M ⟨0,k,data⟩).1.1::aJ m (L.append M ⟨0,k,data⟩).1.2::F)):=by
 have hks:(aA k).length=32:=by rw [aX,hk]
 have hap:=uQ (λ(w':World) (R:List aG) (hh:Ro w0 R Half) (hr:Ro w0 R (bF 1 (.slice da data.length dc) (aA data))) (hw:Sat w0 w' (aK p m L::aJ m M::R))=>CU ⟨0,k,data⟩ hk da dc hr hh tN hL hM kR hw);generalize L.append M ⟨0,k,data⟩=q at *
 obtain ⟨⟨L2,M2⟩,pc,e2⟩:=q;dsimp only at h0 hap ⊢;have hb:(e2 != 0)=true:=afZ.2 h0;have HB:=uQ hB;have dS:=uQ hk;have iK:=uQ hks;have Hd:=uQ hd;have HH:=uQ hH;clear hB hk hks hd tN hL hM kR hH;go_enter func52,ntmps52;go_wp2_with (with_reducible apply fD);refine ⟨fE h ak ak ?_⟩;intro b4 w4 h4;replace h4:Sat w0 w4 (pt b4 (.cells (aA k).toArray 50 (0,0))::aY r m seg p ps pn d::aH pn mp B::aK p m L::aJ m M::F):=h4;clear h;go_wp2_with fail;refine (nZ (h4.sb:Sat w0 w4 (aY r m seg p ps pn d::pt b4 (.cells (aA k).toArray 50 (0,0))::aH pn mp B::aK p m L::aJ m M::F))).mono ?_;rintro ee w5 ⟨v,rfl,rfl,rfl⟩;go_wp2_with fail;have h5:=h4.drew;clear h4;refine dN [7,8,9,10,12,13] (λw'=>w'.cell? ⟨r,2,none⟩=some (.pointer (some ⟨p,0,none⟩))/\w'.rangeAt b4 0 (aA k)) au ?_
 have l7:∀ (w':World) (R:List aG) (dd:Bool),Sat w0 w' (pt b4 (.cells (aA k).toArray 50 (0,0))::aY r m seg p ps pn dd::R)->w'.cell? ⟨r,2,none⟩=some (.pointer (some ⟨p,0,none⟩))/\w'.rangeAt b4 0 (aA k):=λw' R dd hw=>⟨hw.cellP bf 2 rfl,λj z hj=>by rw [ad8];exact hw.cellP aU j yK0⟩;have mV:=uQ l7;have hG:=l7 _ _ _ h5;clear l7;refine rP 0 ?_ (y:=aZ);refine rP 1 ?_ (y:=dW);refine rP 2 ?_ (y:=bY);refine rt 3 (h:=?_);refine gK 4 ak au bV (jh (b:=b4) (o:=0) (aA k) ah underlying50 rfl yG0 (λw hw=>hw.2)) aQ gQ ?_;clear hG;refine rP 5 ?_ (y:=aZ);refine rP 6 ?_ (y:=(GZ ak ak ak (λw=>acr ⟨0,k,data⟩ dS.o da data.length dc w)));refine sO 7 11 ak ak au (λK hK=>?_) (λK hK=>?_)
 ·(refine iC au ak ak ?_)
  refine (hap.o _ _ (Ro.os HH.o) (Ro.os Hd.o) (h5.sb:Sat w0 _ (aK p m L::aJ m M::pt b4 (.cells (aA k).toArray 50 (0,0))::aY r m seg p ps pn d::aH pn mp B::F))).mono ?_;rintro ee w6 ⟨v,rfl,rfl,h6⟩;refine hK _ _ (.inl rfl) ?_;clear hK hap h5;refine rP 8 ?_ (y:=aZ);refine rP 9 ?_ (y:=(iF ak dw));refine rP 10 ?_ (y:=(iF ak dw));refine bW 11 ak au (λK hK=>?_);refine nH (ou) h6 rfl ?_;intro b7 w7 h7;refine hK _ _ (.inr (.inl (mV.o _ _ _ (h7.sb:Sat w0 w7 (pt b4 (.cells (aA k).toArray 50 (0,0))::aY r m seg p ps pn d::aH pn mp B::pt b7 (.cells (aW Seg.aV.zero).toArray 94 (0,0))::aK p m L2::aJ m M2::F))))) ?_;clear hK h6;have h8:Sat w0 w7 (pt b7 (.cells (aW Seg.aV.zero).toArray 94 (0,0))::pt b4 (.cells (aA k).toArray 50 (0,0))::aY r m seg p ps pn d::aH pn mp B::aK p m L2::aJ m M2::F):=h7.sb;clear h7;refine bW 12 ak au (λK hK=>?_)
  refine kQ (cs':=(aW pc).toArray) h8 ak ak ah cZ bI au ah ?_;intro w9 h9;refine hK _ _ (.inl rfl) ?_;clear hK h8;refine rP 13 ?_ (y:=iy);refine dH au ?_;go_wp2_with fail;go_ret;exact ⟨_,rfl,rfl,h9.sb⟩
 ·refine nH (ou) h5 rfl ?_;intro b7 w6 h6;refine hK _ _ (.inr (.inl (mV.o _ _ _ (h6.sb:Sat w0 w6 (pt b4 (.cells (aA k).toArray 50 (0,0))::aY r m seg p ps pn d::pt b7 (.cells (aW Seg.aV.zero).toArray 94 (0,0))::aH pn mp B::aK p m L::aJ m M::F))))) ?_;clear hK h5;refine bW 7 ak au (λK hK=>?_)
  (refine iC au ak ak ?_)
  refine (hap.o _ _ (Ro.os HH.o) (Ro.os Hd.o) (h6.sb:Sat w0 _ (aK p m L::aJ m M::pt b7 (.cells (aW Seg.aV.zero).toArray 94 (0,0))::pt b4 (.cells (aA k).toArray 50 (0,0))::aY r m seg p ps pn d::aH pn mp B::F))).mono ?_;rintro ee w7 ⟨v,rfl,rfl,h7⟩;refine hK _ _ (.inl rfl) ?_;clear hK hap h6;refine rP 8 ?_ (y:=aZ);refine rP 9 ?_ (y:=(iF ak dw));refine rP 10 ?_ (y:=(iF ak dw));have h8:Sat w0 w7 (pt b7 (.cells (aW Seg.aV.zero).toArray 94 (0,0))::pt b4 (.cells (aA k).toArray 50 (0,0))::aY r m seg p ps pn d::aH pn mp B::aK p m L2::aJ m M2::F):=h7.sb;clear h7;refine bW 12 ak au (λK hK=>?_);refine kQ (cs':=(aW pc).toArray) h8 ak ak ah cZ bI au ah ?_;intro w9 h9;refine hK _ _ (.inl rfl) ?_;clear hK h8;refine rP 13 ?_ (y:=iy);refine dH au ?_;go_wp2_with fail;go_ret;exact ⟨_,rfl,rfl,h9.sb⟩
def gW (q:aj.Bs×Seg.aV):List Value:=aA q.1++aW q.2
theorem lJ (q:aj.Bs×Seg.aV) (hk:q.1.length=32):(gW q).length=35:=by unfold gW;rw [aaL,aX,hk];rfl
theorem FK (q:aj.Bs×Seg.aV):(gW q).all (·.oneCell')=true:=by unfold gW;rw [aiJ,tH];rfl
theorem akM:sN prog 219=some [(0,32),(32,3)]:=by kernel_rfl
theorem MH:jF prog 219=some (.agg (gW (aj.zero32,Seg.aV.zero)).toArray):=by kernel_rfl
theorem acv (k:aj.Bs) (hk:k.length=32) (v:Seg.aV) (w:World):(Instr.build 219 #[(0,.agg (aA k).toArray),(1,.agg (aW v).toArray)]).run prog w=.ok (.agg (gW (k,v)).toArray) w:=by
 have h:=apP (P:=prog) [(0,.agg (aA k).toArray),(1,.agg (aW v).toArray)] akM MH (by
  intro p hp;have hzz:(Value.agg (gW (aj.zero32,Seg.aV.zero)).toArray).cells.size=35:=by rfl
  rw [hzz];rcases ad5.1 hp with rfl|hp
  ·refine ⟨0,?_,?_⟩
   ·show some (0,32)=some (0,(aA k).toArray.size);rw [abn,aX,hk]
   ·show 0+(aA k).toArray.size<=35;rw [abn,aX,hk];decide
  ·rw [adZ.1 hp];exact ⟨32,rfl,by show 32+3<=35;omega⟩) w
 refine h.trans ?_;have hz:aj.zero32.length=32:=rfl;have hzl:(gW (aj.zero32,Seg.aV.zero)).length=35:=lJ _ hz;have e:eU (eU (gW (aj.zero32,Seg.aV.zero)).toArray 0 (aA k)) 32 (aW v)=(gW (k,v)).toArray:=by
  apply ql;rw [xk _ _ _ (by rw [kW,abn,hzl];exact abl 35),xk _ _ _ (by rw [abn,hzl,aX,hk];decide),ad6];have e1:kS (gW (aj.zero32,Seg.aV.zero)) 0 (aA k)=aA k++aW Seg.aV.zero:=by
   unfold gW;rw [Dn _ _ _ _ (by rw [aX,aX,hk,hz];decide),yQ (by rw [aX,aX,hk,hz])]
  have h0:=yR (aA k) (aW Seg.aV.zero) (aW v) 0;rw [aX,hk,yQ (xs:=aW Seg.aV.zero) (vs:=aW v) ah]at h0;rw [e1];exact h0
 exact aey (λx=>Result.ok (Value.agg x) w) e
section
variable {pos:String}{v1 v2:Value}{i1 i2:Nat}
theorem UH (hx:a.eval x=v1) (hy:a.eval y=v2) (hr:∀ w,(Instr.build ty #[(i1,v1),(i2,v2)]).run P w=.ok v w):Yields P ops ⟨dst,.build ty #[(i1,x),(i2,y)],t,pos,after,none⟩ v a:=
 .inl ⟨mF _ rfl,λw=>by simp only [execOp,aeX,ad7,aeF,hx,hy,ad1,hr,adu,aek]⟩
end
section
variable {m:aj.Bs->Option (Seg.aV)}
end
theorem ak7 (cs:Array Value) (hs:cs.size=34) (u:Value) (kl:List Value) (hk:kl.length=32):(eU (eU cs 0 [u]) 1 kl).toList=u::(kl++cs.toList.drop 33):=by
 have hcl:cs.toList.length=34:=by simpa using hs
 rw [l9 _ _ _ (by rw [kW];omega),l9 _ _ _ yW0];simp only [aeO,aeu,aer,ad8];rw [List.singleton_append,List.take_succ_cons,aeO,hk,show 1+32=32+1 by omega,ap4,apZ];simp
theorem acp (k:aj.Bs) (hk:k.length=32) (w:World) :
  (Instr.build 52 #[(0,.int .i64 1),(1,.agg (aA k).toArray)]).run prog w=.ok (.agg (dQ ⟨1,k,[]⟩ (.slice none 0 0))) w:=by
 have hz:(dQ aj.zeroE (.slice none 0 0)).size=34:=fF _ _ rfl;have hks:(aA k).toArray.size=32:=by simp [aA,hk]
 have h:=apP (P:=prog) [(0,.int .i64 1),(1,.agg (aA k).toArray)] KD BD (by
  intro p hp;simp only [ad5,ah4,apX]at hp;have hzz:xE.cells.size=34:=hz;rw [hzz];rcases hp with rfl|rfl
  ·exact ⟨0,rfl,by show 0+1<=34;omega⟩
  ·refine ⟨1,?_,?_⟩
   ·show some (1,32)=some (1,(aA k).toArray.size);rw [hks]
   ·show 1+(aA k).toArray.size<=34;rw [hks];omega) w
 refine h.trans ?_
 congr 2
 apply ql;refine (ak7 _ hz _ _ (show (aA k).toArray.toList.length=32 by rw [ad6,aX,hk])).trans ?_
 rfl
theorem alX (hB:B<=134217000) (hk:k.length=32) (hm:mp k=none) (h:Sat w0 w (aY r m seg p ps pn d::aH pn mp B::aK p m L::aJ m M::F)) :
  Calls prog 59 #[ptr r,.agg (aA k).toArray] w (aP λv w'=>v=errno 9/\Sat w0 w' (aY r m seg p ps pn d::aH pn mp B::aK p m L::aJ m M::F)):=by
 have Hk:=uQ hk;have iK:=uQ (show (aA k).length=32 by rw [aX,hk]);have HB:=uQ hB;have HX:=uQ (λ(w':World) (R:List aG) (hw:Sat w0 w' (aY r m seg p ps pn d::aH pn mp B::R))=>SK (adt hB aN) hk hw);rw [hm,Option.isSome_none]at HX;clear hk hB hm;go_enter func59,ntmps59;go_wp2_with (with_reducible apply fD);refine ⟨fE h ak ak ?_⟩;intro b3 w3 h3;have h4:Sat w0 w3 (aY r m seg p ps pn d::aH pn mp B::pt b3 (.cells (aA k).toArray 50 (0,0))::aK p m L::aJ m M::F):=h3.sb;clear h h3;go_wp2_with fail;refine (nZ h4).mono ?_;rintro ee w5 ⟨v,rfl,rfl,rfl⟩;go_wp2_with ((with_reducible refine bP ⟨?_⟩);refine iQ h4 ah eH underlying50 rfl (by rw [abn,iK.o];kernel_rfl) ?_);refine (HX.o _ _ h4).mono ?_;rintro ee w6 ⟨v,rfl,rfl,h6⟩;clear h4;go_wp2_with fail;go_ret;exact ⟨_,rfl,rfl,h6.sb⟩
theorem alW (hB:B<=134217000) (hk:k.length=32) (pl:Seg.aV) (hm:mp k=some pl) (hL:L.Ok) (hM:M.Ok K) (kR:K+4<=1099511627776) (hH:Ro w0 F Half) (h0:(L.append M ⟨1,k,[]⟩).2.2≠0) (h:Sat w0 w (aY r m seg p ps pn d::aH pn mp B::aK p m L::aJ m M::F)) :
  Calls prog 59 #[ptr r,.agg (aA k).toArray] w (aP λv w'=>v=errno (L.append M ⟨1,k,[]⟩).2.2/\Sat w0 w' (aY r m seg p ps pn d::aH pn mp B::aK p m (L.append M ⟨1,k,[]⟩).1.1::aJ m (L.append M ⟨1,k,[]⟩).1.2::F)):=by
 have Hk:=uQ hk;have iK:=uQ (show (aA k).length=32 by rw [aX,hk]);have HB:=uQ hB;have HX:=uQ (λ(w':World) (R:List aG) (hw:Sat w0 w' (aY r m seg p ps pn d::aH pn mp B::R))=>SK (adt hB aN) hk hw);rw [hm,Option.isSome_some]at HX;have hap:=uQ (λ(w':World) (R:List aG) (hh:Ro w0 R Half) (hw:Sat w0 w' (aK p m L::aJ m M::R))=>CU ⟨1,k,[]⟩ hk none 0 (λw _=>xu 1 0 w) hh (aea _) hL hM kR hw);generalize L.append M ⟨1,k,[]⟩=q at *
 obtain ⟨⟨L2,M2⟩,pc,e2⟩:=q;dsimp only at h0 hap ⊢;have HH:=uQ hH;have hb:(e2 != 0)=true:=afZ.2 h0;clear hk hB hm hL hM kR hH h0;go_enter func59,ntmps59;go_wp2_with (with_reducible apply fD);refine ⟨fE h ak ak ?_⟩;intro b3 w3 h3;have h4:Sat w0 w3 (aY r m seg p ps pn d::aH pn mp B::pt b3 (.cells (aA k).toArray 50 (0,0))::aK p m L::aJ m M::F):=h3.sb;clear h h3;go_wp2_with fail;refine (nZ h4).mono ?_;rintro ee w5 ⟨v,rfl,rfl,rfl⟩;go_wp2_with ((with_reducible refine bP ⟨?_⟩);refine iQ h4 ah eH underlying50 rfl (by rw [abn,iK.o];kernel_rfl) ?_);refine (HX.o _ _ h4).mono ?_;rintro ee w6 ⟨v,rfl,rfl,h6⟩;clear h4;go_wp2_with fail;have h5:Sat w0 _ (pt b3 (.cells (aA k).toArray 50 (0,0))::aY r m seg p ps pn d::aH pn mp B::aK p m L::aJ m M::F):=(h6.drew).sb;clear h6
 refine dN [6,7,8,9,11,12] (λw'=>w'.cell? ⟨r,2,none⟩=some (.pointer (some ⟨p,0,none⟩))/\w'.rangeAt b3 0 (aA k)) au ?_;have l7:∀ (w':World) (R:List aG),Sat w0 w' (pt b3 (.cells (aA k).toArray 50 (0,0))::aY r m seg p ps pn d::R)->w'.cell? ⟨r,2,none⟩=some (.pointer (some ⟨p,0,none⟩))/\w'.rangeAt b3 0 (aA k):=λw' R hw=>⟨hw.cellP bf 2 rfl,λj z hj=>by rw [ad8];exact hw.cellP aU j yK0⟩;have mV:=uQ l7;have hG:=l7 _ _ h5;clear l7;refine rP 0 ?_ (y:=aZ);refine rP 1 ?_ (y:=dW);refine rP 2 ?_ (y:=bY);refine rt 3 (h:=?_);refine gK 4 ak au bV (jh (b:=b3) (o:=0) (aA k) ah underlying50 rfl yG0 (λw hw=>hw.2)) aQ gQ ?_;clear hG;refine rP 5 ?_ (y:=(UH ak ak (λw=>acp k Hk.o w)));refine sO 6 10 ak ak au (λK hK=>?_) (λK hK=>?_)
 ·(refine iC au ak ak ?_)
  refine (hap.o _ _ (Ro.os HH.o) (h5.sb:Sat w0 _ (aK p m L::aJ m M::pt b3 (.cells (aA k).toArray 50 (0,0))::aY r m seg p ps pn d::aH pn mp B::F))).mono ?_;rintro ee w6 ⟨v,rfl,rfl,h6⟩;refine hK _ _ (.inl rfl) ?_;clear hK hap h5;refine rP 7 ?_ (y:=aZ);refine rP 8 ?_ (y:=(iF ak dw));refine rP 9 ?_ (y:=(iF ak dw));refine bW 10 ak au (λK hK=>?_);refine nH (ou) h6 rfl ?_;intro b7 w7 h7;refine hK _ _ (.inr (.inl (mV.o _ _ (h7.sb:Sat w0 w7 (pt b3 (.cells (aA k).toArray 50 (0,0))::aY r m seg p ps pn d::aH pn mp B::pt b7 (.cells (aW Seg.aV.zero).toArray 94 (0,0))::aK p m L2::aJ m M2::F))))) ?_;clear hK h6;have h8:Sat w0 w7 (pt b7 (.cells (aW Seg.aV.zero).toArray 94 (0,0))::pt b3 (.cells (aA k).toArray 50 (0,0))::aY r m seg p ps pn d::aH pn mp B::aK p m L2::aJ m M2::F):=h7.sb;clear h7;refine bW 11 ak au (λK hK=>?_);refine kQ (cs':=(aW pc).toArray) h8 ak ak ah cZ bI au ah ?_
  intro w9 h9;refine hK _ _ (.inl rfl) ?_;clear hK h8;refine rP 12 ?_ (y:=iy);refine dH au ?_;go_wp2_with fail;go_ret;exact ⟨_,rfl,rfl,h9.sb⟩
 ·refine nH (ou) h5 rfl ?_;intro b7 w6 h6;refine hK _ _ (.inr (.inl (mV.o _ _ (h6.sb:Sat w0 w6 (pt b3 (.cells (aA k).toArray 50 (0,0))::aY r m seg p ps pn d::pt b7 (.cells (aW Seg.aV.zero).toArray 94 (0,0))::aH pn mp B::aK p m L::aJ m M::F))))) ?_;clear hK h5;refine bW 6 ak au (λK hK=>?_)
  (refine iC au ak ak ?_)
  refine (hap.o _ _ (Ro.os HH.o) (h6.sb:Sat w0 _ (aK p m L::aJ m M::pt b7 (.cells (aW Seg.aV.zero).toArray 94 (0,0))::pt b3 (.cells (aA k).toArray 50 (0,0))::aY r m seg p ps pn d::aH pn mp B::F))).mono ?_;rintro ee w7 ⟨v,rfl,rfl,h7⟩;refine hK _ _ (.inl rfl) ?_;clear hK hap h6;refine rP 7 ?_ (y:=aZ);refine rP 8 ?_ (y:=(iF ak dw));refine rP 9 ?_ (y:=(iF ak dw));have h8:Sat w0 w7 (pt b7 (.cells (aW Seg.aV.zero).toArray 94 (0,0))::pt b3 (.cells (aA k).toArray 50 (0,0))::aY r m seg p ps pn d::aH pn mp B::aK p m L2::aJ m M2::F):=h7.sb;clear h7;refine bW 11 ak au (λK hK=>?_);refine kQ (cs':=(aW pc).toArray) h8 ak ak ah cZ bI au ah ?_;intro w9 h9;refine hK _ _ (.inl rfl) ?_;clear hK h8;refine rP 12 ?_ (y:=iy);refine dH au ?_;go_wp2_with fail;go_ret;exact ⟨_,rfl,rfl,h9.sb⟩
theorem alY (hB:B<=134217000) (hk:k.length=32) (pl:Seg.aV) (hm:mp k=some pl) (hL:L.Ok) (hM:M.Ok K) (kR:K+4<=1099511627776) (hH:Ro w0 F Half) (h0:(L.append M ⟨1,k,[]⟩).2.2=0) (h:Sat w0 w (aY r m seg p ps pn d::aH pn mp B::aK p m L::aJ m M::F)) :
  Calls prog 59 #[ptr r,.agg (aA k).toArray] w (aP λv w'=>v=errno 0/\Sat w0 w' (aY r m seg p ps pn true::aH pn (Tab.del mp k) B::aK p m (L.append M ⟨1,k,[]⟩).1.1::aJ m (L.append M ⟨1,k,[]⟩).1.2::F)):=by
 have Hk:=uQ hk;have iK:=uQ (show (aA k).length=32 by rw [aX,hk]);have HB:=uQ hB;have HX:=uQ (λ(w':World) (R:List aG) (hw:Sat w0 w' (aY r m seg p ps pn d::aH pn mp B::R))=>SK (adt hB aN) hk hw);rw [hm,Option.isSome_some]at HX;have hap:=uQ (λ(w':World) (R:List aG) (hh:Ro w0 R Half) (hw:Sat w0 w' (aK p m L::aJ m M::R))=>CU ⟨1,k,[]⟩ hk none 0 (λw _=>xu 1 0 w) hh (aea _) hL hM kR hw);generalize L.append M ⟨1,k,[]⟩=q at *
 obtain ⟨⟨L2,M2⟩,pc,e2⟩:=q;dsimp only at h0 hap ⊢;have HH:=uQ hH;subst h0;clear hk hB hm hL hM kR hH;go_enter func59,ntmps59;go_wp2_with (with_reducible apply fD);refine ⟨fE h ak ak ?_⟩;intro b3 w3 h3;have h4:Sat w0 w3 (aY r m seg p ps pn d::aH pn mp B::pt b3 (.cells (aA k).toArray 50 (0,0))::aK p m L::aJ m M::F):=h3.sb;clear h h3;go_wp2_with fail;refine (nZ h4).mono ?_;rintro ee w5 ⟨v,rfl,rfl,rfl⟩;go_wp2_with ((with_reducible refine bP ⟨?_⟩);refine iQ h4 ah eH underlying50 rfl (by rw [abn,iK.o];kernel_rfl) ?_);refine (HX.o _ _ h4).mono ?_;rintro ee w6 ⟨v,rfl,rfl,h6⟩;clear h4;go_wp2_with fail;have h5:Sat w0 _ (pt b3 (.cells (aA k).toArray 50 (0,0))::aY r m seg p ps pn d::aH pn mp B::aK p m L::aJ m M::F):=(h6.drew).sb;clear h6
 refine dN [6,7,8,9,11,12] (λw'=>w'.cell? ⟨r,2,none⟩=some (.pointer (some ⟨p,0,none⟩))/\w'.rangeAt b3 0 (aA k)) au ?_;have l7:∀ (w':World) (R:List aG),Sat w0 w' (pt b3 (.cells (aA k).toArray 50 (0,0))::aY r m seg p ps pn d::R)->w'.cell? ⟨r,2,none⟩=some (.pointer (some ⟨p,0,none⟩))/\w'.rangeAt b3 0 (aA k):=λw' R hw=>⟨hw.cellP bf 2 rfl,λj z hj=>by rw [ad8];exact hw.cellP aU j yK0⟩;have mV:=uQ l7;have hG:=l7 _ _ h5;clear l7;refine rP 0 ?_ (y:=aZ);refine rP 1 ?_ (y:=dW);refine rP 2 ?_ (y:=bY);refine rt 3 (h:=?_);refine gK 4 ak au bV (jh (b:=b3) (o:=0) (aA k) ah underlying50 rfl yG0 (λw hw=>hw.2)) aQ gQ ?_;clear hG;refine rP 5 ?_ (y:=(UH ak ak (λw=>acp k Hk.o w)));refine sO 6 10 ak ak au (λK hK=>?_) (λK hK=>?_)
 ·(refine iC au ak ak ?_)
  refine (hap.o _ _ (Ro.os HH.o) (h5.sb:Sat w0 _ (aK p m L::aJ m M::pt b3 (.cells (aA k).toArray 50 (0,0))::aY r m seg p ps pn d::aH pn mp B::F))).mono ?_;rintro ee w6 ⟨v,rfl,rfl,h6⟩;refine hK _ _ (.inl rfl) ?_;clear hK hap h5;refine rP 7 ?_ (y:=aZ);refine rP 8 ?_ (y:=(iF ak dw));refine rP 9 ?_ (y:=(iF ak dw));refine bW 10 ak au (λK hK=>?_);refine nH (ou) h6 rfl ?_;intro b7 w7 h7;refine hK _ _ (.inr (.inl (mV.o _ _ (h7.sb:Sat w0 w7 (pt b3 (.cells (aA k).toArray 50 (0,0))::aY r m seg p ps pn d::aH pn mp B::pt b7 (.cells (aW Seg.aV.zero).toArray 94 (0,0))::aK p m L2::aJ m M2::F))))) ?_;clear hK h6;have h8:Sat w0 w7 (pt b7 (.cells (aW Seg.aV.zero).toArray 94 (0,0))::pt b3 (.cells (aA k).toArray 50 (0,0))::aY r m seg p ps pn d::aH pn mp B::aK p m L2::aJ m M2::F):=h7.sb;clear h7;refine bW 11 ak au (λK hK=>?_);refine kQ (cs':=(aW pc).toArray) h8 ak ak ah cZ bI au ah ?_
  intro w9 h9;refine hK _ _ (.inl rfl) ?_;clear hK h8;refine rP 12 ?_ (y:=iy);refine dH au ?_;go_wp2_with fail;have h10:Sat w0 _ (pt b3 (.cells (aA k).toArray 50 (0,0))::aY r m seg p ps pn d::aH pn mp B::pt b7 (.cells (aW pc).toArray 94 (0,0))::aK p m L2::aJ m M2::F):=(h9.drew).sb;clear h9 mV;refine dN [5] (λw'=>w'.cell? ⟨r,4,none⟩=some (.pointer (some ⟨pn,0,none⟩))/\w'.rangeAt b3 0 (aA k)) au ?_;have hG:World.cell? _ ⟨r,4,none⟩=some (.pointer (some ⟨pn,0,none⟩))/\World.rangeAt _ b3 0 (aA k):=⟨h10.cellP bf 4 rfl,λj z hj=>by rw [ad8];exact h10.cellP aU j yK0⟩;refine rP 0 ?_ (y:=aZ);refine rP 1 ?_ (y:=dW);refine rP 2 ?_ (y:=bY);refine rt 3 (h:=?_);refine gK 4 ak au bV (jh (b:=b3) (o:=0) (aA k) ah underlying50 rfl yG0 (λw hw=>hw.2)) aQ gQ ?_;clear hG;refine bW 5 ak au (λK hK=>?_)
  (refine iC au ak ak ?_)
  refine (Xu HB.o Hk.o (h10.sb:Sat w0 _ (aH pn mp B::pt b3 (.cells (aA k).toArray 50 (0,0))::aY r m seg p ps pn d::pt b7 (.cells (aW pc).toArray 94 (0,0))::aK p m L2::aJ m M2::F))).mono ?_;rintro ee iH ⟨v,rfl,rfl,h11⟩;refine hK _ _ (.inl rfl) ?_;clear hK h10;refine dH au ?_;go_wp2_with (with_reducible apply dh);refine ⟨gq (cs':=#[ptr m,.int .i64 seg,ptr p,ptr ps,ptr pn,.bool true]) (h11.sb:Sat w0 iH (aY r m seg p ps pn d::aH pn (Tab.del mp k) B::pt b3 (.cells (aA k).toArray 50 (0,0))::pt b7 (.cells (aW pc).toArray 94 (0,0))::aK p m L2::aJ m M2::F)) ah ah ah cZ bI au ah ?_⟩;intro w12 h12;go_wp2_with fail;go_ret;exact ⟨_,rfl,rfl,h12.sb⟩
 ·refine nH (ou) h5 rfl ?_;intro b7 w6 h6;refine hK _ _ (.inr (.inl (mV.o _ _ (h6.sb:Sat w0 w6 (pt b3 (.cells (aA k).toArray 50 (0,0))::aY r m seg p ps pn d::pt b7 (.cells (aW Seg.aV.zero).toArray 94 (0,0))::aH pn mp B::aK p m L::aJ m M::F))))) ?_;clear hK h5;refine bW 6 ak au (λK hK=>?_)
  (refine iC au ak ak ?_)
  refine (hap.o _ _ (Ro.os HH.o) (h6.sb:Sat w0 _ (aK p m L::aJ m M::pt b7 (.cells (aW Seg.aV.zero).toArray 94 (0,0))::pt b3 (.cells (aA k).toArray 50 (0,0))::aY r m seg p ps pn d::aH pn mp B::F))).mono ?_;rintro ee w7 ⟨v,rfl,rfl,h7⟩;refine hK _ _ (.inl rfl) ?_;clear hK hap h6;refine rP 7 ?_ (y:=aZ);refine rP 8 ?_ (y:=(iF ak dw));refine rP 9 ?_ (y:=(iF ak dw));have h8:Sat w0 w7 (pt b7 (.cells (aW Seg.aV.zero).toArray 94 (0,0))::pt b3 (.cells (aA k).toArray 50 (0,0))::aY r m seg p ps pn d::aH pn mp B::aK p m L2::aJ m M2::F):=h7.sb;clear h7;refine bW 11 ak au (λK hK=>?_);refine kQ (cs':=(aW pc).toArray) h8 ak ak ah cZ bI au ah ?_;intro w9 h9;refine hK _ _ (.inl rfl) ?_;clear hK h8;refine rP 12 ?_ (y:=iy);refine dH au ?_;go_wp2_with fail
  have h10:Sat w0 _ (pt b3 (.cells (aA k).toArray 50 (0,0))::aY r m seg p ps pn d::aH pn mp B::pt b7 (.cells (aW pc).toArray 94 (0,0))::aK p m L2::aJ m M2::F):=(h9.drew).sb;clear h9 mV;refine dN [5] (λw'=>w'.cell? ⟨r,4,none⟩=some (.pointer (some ⟨pn,0,none⟩))/\w'.rangeAt b3 0 (aA k)) au ?_;have hG:World.cell? _ ⟨r,4,none⟩=some (.pointer (some ⟨pn,0,none⟩))/\World.rangeAt _ b3 0 (aA k):=⟨h10.cellP bf 4 rfl,λj z hj=>by rw [ad8];exact h10.cellP aU j yK0⟩;refine rP 0 ?_ (y:=aZ);refine rP 1 ?_ (y:=dW);refine rP 2 ?_ (y:=bY);refine rt 3 (h:=?_);refine gK 4 ak au bV (jh (b:=b3) (o:=0) (aA k) ah underlying50 rfl yG0 (λw hw=>hw.2)) aQ gQ ?_;clear hG;refine bW 5 ak au (λK hK=>?_)
  (refine iC au ak ak ?_)
  refine (Xu HB.o Hk.o (h10.sb:Sat w0 _ (aH pn mp B::pt b3 (.cells (aA k).toArray 50 (0,0))::aY r m seg p ps pn d::pt b7 (.cells (aW pc).toArray 94 (0,0))::aK p m L2::aJ m M2::F))).mono ?_;rintro ee iH ⟨v,rfl,rfl,h11⟩;refine hK _ _ (.inl rfl) ?_;clear hK h10;refine dH au ?_;go_wp2_with (with_reducible apply dh);refine ⟨gq (cs':=#[ptr m,.int .i64 seg,ptr p,ptr ps,ptr pn,.bool true]) (h11.sb:Sat w0 iH (aY r m seg p ps pn d::aH pn (Tab.del mp k) B::pt b3 (.cells (aA k).toArray 50 (0,0))::pt b7 (.cells (aW pc).toArray 94 (0,0))::aK p m L2::aJ m M2::F)) ah ah ah cZ bI au ah ?_⟩;intro w12 h12;go_wp2_with fail;go_ret;exact ⟨_,rfl,rfl,h12.sb⟩
section
variable {pi B2:Nat}{N:Int}{uv tv:Value}{mi:aj.Bs->Option Seg.aV}
theorem al5 (hL:L.Ok) (hM:M.Ok K) (kR:K+1048576<=1099511627776) (hB:B2<=14000000) (hz:(L.rollback M).2=0) (h:Sat w0 w (aY r m seg p ps pn d::cO ps N pi uv tv::aH pi mi B2::aK p m L::aJ m M::F)) :
  Calls prog 60 #[ptr r] w (aP λv w'=>∃ q,v=errno 0/\Sat w0 w' (aY r m seg p ps q false::cO ps N pi uv tv::aH q mi B2::aH pi mi B2::aK p m (L.rollback M).1.1::aJ m (L.rollback M).1.2::F)):=by
 have hrb:=aam hL hM kR (h.sb:Sat w0 w (aK p m L::aJ m M::aY r m seg p ps pn d::cO ps N pi uv tv::aH pi mi B2::F));rw [hz]at hrb;generalize (L.rollback M).1.1=L2 at *
 generalize (L.rollback M).1.2=M2 at *
 have e2':w.cell? ⟨r,2,none⟩=some (.pointer (some ⟨p,0,none⟩)):=h.cellAt 2 _ rfl;have hok:=nZ h;have HB:=uQ hB;clear h hz hL hM kR hB;go_enter func60,ntmps60;go_wp2_with fail;refine hok.mono ?_;rintro ee w1 ⟨v,rfl,rfl,rfl⟩;go_wp2_with fail;refine hrb.mono ?_;rintro ee w2 ⟨v,rfl,rfl,h2⟩;clear hrb hok e2';have e3':w2.cell? ⟨r,3,none⟩=some (.pointer (some ⟨ps,0,none⟩)):=h2.cellP eH 3 rfl;have e1':w2.cell? ⟨ps,1,none⟩=some (.pointer (some ⟨pi,0,none⟩)):=h2.cellP iO 1 rfl;have hcp:=OI HB.o (h2.sb:Sat w0 w2 (aH pi mi B2::aK p m L2::aJ m M2::aY r m seg p ps pn d::cO ps N pi uv tv::F));clear h2;go_wp2_with fail;refine hcp.mono ?_;rintro ee w3 ⟨v,rfl,q,rfl,h3⟩;clear hcp e3' e1';go_wp2_with (with_reducible apply dh)
 refine ⟨gq (cs':=#[ptr m,.int .i64 seg,ptr p,ptr ps,ptr q,.bool d]) (h3.sb:Sat w0 w3 (aY r m seg p ps pn d::cO ps N pi uv tv::aH q mi B2::aH pi mi B2::aK p m L2::aJ m M2::F)) ah ah ah cZ bI au ah ?_⟩;intro w4 h4;clear h3;go_wp2_with (with_reducible apply dh);refine ⟨gq (cs':=#[ptr m,.int .i64 seg,ptr p,ptr ps,ptr q,.bool false]) h4 ah ah ah cZ bI au ah ?_⟩;intro w5 h5;go_wp2_with fail;go_ret;exact ⟨_,rfl,q,rfl,h5⟩
end
def zQ (x:aj.Bs×Seg.aV):Array Value:=#[.agg (aA x.1).toArray,.agg (aW x.2).toArray]
section
variable {m:aj.Bs->Option (Seg.aV)}
theorem afg (h:Sat w0 w F):Calls prog 135 #[ptr p] w
  (aP λv w'=>∃ b,v=.func (.func 175) #[] #[ptr b]/\Sat w0 w' (pt b (.cells #[ptr p] 35 (0,0))::F)):=by
 go_enter func135,ntmps135;go_wp2_with (first|((with_reducible refine fD ⟨?_⟩);refine fE aQ ak ak ?_;intro bB wB hB)|(with_reducible apply fB));go_ret;exact ⟨_,rfl,bB,rfl,hB⟩
abbrev fJ.DW:=@aH
abbrev fJ.zi:Nat:=35
abbrev fJ.L6:Nat:=175
theorem fJ.ada:type_of% @func175:=@func175
theorem fJ.adb:type_of% @ntmps175:=@ntmps175
theorem fJ.ade:type_of% @RU:=@RU
abbrev fJ.xB:=@zQ
theorem fJ.adf:type_of% @underlying164:=@underlying164
theorem fJ.adg:type_of% @xC:=@xC
theorem fJ.adh:type_of% @underlying94:=@underlying94
open fJ in
theorem aff {b:Nat}{l:List (aj.Bs×Seg.aV)} (hB:B<=13000000) (hl:Tab.Lists m l) :
  Iter prog 175 #[ptr b] (l.map zQ) w0 [aH p m B,pt b (.cells #[ptr p] 35 (0,0))] [aH p m B,pt b (.cells #[ptr p] 35 (0,0))]:=aaq
end
def msl (T sz:Nat) (v:Value) (xs:List Value):aG:=λh=>
 ∃ b n cap cs m,v=.slice (some ⟨b,0,none⟩) n cap/\xs.length=n*sz/\n<=cap/\cap*sz<=cs.size/\cap<=maxLen/\cs.toList.take (n*sz)=xs/\cs.size<=m/\pt b (.cells cs T (m,m+1)) h
def xY (T sz:Nat) (v:Value) (xs:List Value):aG:=λh=>aC T sz v xs h\/msl T sz v xs h
abbrev jB (v:Value) (l:aj.Bs):aG:=xY 5 1 v (aA l)
section
variable {R:List aG}{T sz b:Nat}{x:Value}{xs ys:List Value}{fr:Nat×Nat}
theorem OG {cs:Array Value}{T:TypeId} (h:Sat w0 w (pt b (.cells cs T fr)::R)) (i:Nat) (v:Value) (hv:cs[i]?=some v):w.cell? ⟨b,i,none⟩=some v:=by
 have:=h.at;simp [World.cell?,this,hv]
theorem ahC {cs:Array Value}{T:TypeId}{m:Nat} (h:Sat w0 w (pt b (.cells cs T (m,m+1))::R)) (i:Nat) (hi:i<m):w.frozen? ⟨b,i,none⟩=false:=by
 have:=h.at;simp [World.frozen?,this];omega
theorem am0 {cs:Array Value}{T:TypeId} (h:Sat w0 w (pt b (.cells cs T fr)::R)) (i:Nat) (v:Value):Sat w0 (w.setCell ⟨b,i,none⟩ v) (pt b (.cells (cs.setIfInBounds i v) T fr)::R):=by
 have hb:=h.at;have hlt:=h.lt;refine h.turn rfl rfl rfl yF0 ?_ ?_
 ·simp only [World.setCell,ajU,apa,hb];simp
 ·intro j hj _;simp only [World.setCell,ajU];rw [abj (Ne.symm hj)]
theorem acN:∀ (vs:List Value){cs:Array Value}{T:TypeId}{w:World} (o:Nat),Sat w0 w (pt b (.cells cs T fr)::R)->Sat w0 (w.setCells b o vs) (pt b (.cells (eU cs o vs) T fr)::R)
 |[],_,_,_,_,h=>h
 |v::r,_,_,_,o,h=>acN r (o+1) (am0 h o v)
theorem Oh (h:Sat w0 w (xY T sz v xs::R)):Sat w0 w (aC T sz v xs::R)\/∃ b n cap cs m,v=.slice (some ⟨b,0,none⟩) n cap/\xs.length=n*sz/\n<=cap/\cap*sz<=cs.size/\cap<=maxLen/\cs.toList.take (n*sz)=xs/\cs.size<=m/\Sat w0 w (pt b (.cells cs T (m,m+1))::R):=by
 obtain ⟨ha,x,hx,p,q,d,rfl,hp,hq⟩:=h;rcases hp with hp|⟨b,n,cap,cs,m,h1,h2,h3,h4,h5,h6,h7,h8⟩
 ·exact .inl ⟨ha,_,hx,p,q,d,rfl,hp,hq⟩
 ·exact .inr ⟨b,n,cap,cs,m,h1,h2,h3,h4,h5,h6,h7,ha,_,hx,p,q,d,rfl,h8,hq⟩
theorem Wj (h:Sat w0 w (aC T sz v xs::R)):Sat w0 w (xY T sz v xs::R):=h.head λ_ hx=> .inl hx
theorem Wn {n cap m:Nat}{cs:Array Value} (h:Sat w0 w (pt b (.cells cs T (m,m+1))::R)) (h2:xs.length=n*sz) (h3:n<=cap) (h4:cap*sz<=cs.size) (h5:cap<=maxLen) (h6:cs.toList.take (n*sz)=xs) (h7:cs.size<=m):Sat w0 w (xY T sz (.slice (some ⟨b,0,none⟩) n cap) xs::R):=
 h.head λ_ hx=> .inr ⟨b,n,cap,cs,m,rfl,h2,h3,h4,h5,h6,h7,hx⟩
theorem Oi (h:Sat w0 w (xY T sz v xs::R)):bF sz v xs w:=by
 rcases Oh h with h|⟨b,n,cap,cs,m,rfl,hl,hn,hc,hcm,htk,hm,hp⟩
 ·exact Sat.rd h
 ·exact ⟨_,n,cap,rfl,hl,λj y hj=>⟨_,rfl,by rw [rC];exact OG hp j y (kY htk hj)⟩⟩
theorem afk (h:Sat w0 w R) (e:TypeId) (s:ByteArray) (l:aj.Bs) (hs:s.data.toList=l) (hl:l.length<=1073741824):Sat w0 (Lib.bytesWorld w e s) (xY e 1 (.slice (some ⟨w.heap.size,0,none⟩) s.size (grownCap w s.size 0 e)) (aA l)::R):=by
 have h1:=(h.drew).alloc (.cells (Lib.bytesCells w e s) e);have hsz:s.size=l.length:=by rw [<-hs];exact ad4.symm
 have hge:=grownCap_ge w s.size 0 e;have hcm:=grownCap_le_maxLen w s.size 0 e (by have:maxLen=9223372036854775807:=rfl;omega);have hcs:(Lib.bytesCells w e s).size=grownCap w s.size 0 e:=by
  unfold Lib.bytesCells;rw [Array.size_append,Array.size_map,Array.size_replicate];have:s.data.size=s.size:=rfl;omega
 have h2:Sat w0 (Lib.bytesWorld w e s) (pt w.heap.size (.cells (Lib.bytesCells w e s) e ((Lib.bytesCells w e s).size,(Lib.bytesCells w e s).size+1))::R):=by
  refine h1.turn (w':=Lib.bytesWorld w e s) rfl rfl rfl ?_ (Lib.bytesWorld_at_new w e s) (λj hj _=>?_)
  ·rw [Lib.bytesWorld_size];exact Nat.le_of_eq (Array.size_push ..)
  ·unfold Lib.bytesWorld World.freeze;rw [abj aN];show (Array.modify _ _ _)[j]?=_;rw [ajU];exact abj (λe=>hj e.symm)
 refine Wn h2 ?_ hge (by rw [aes,hcs];exact abl _) hcm ?_ (abl _)
 ·rw [aX,hsz,aes]
 ·unfold Lib.bytesCells;rw [ap3,aes,aeC (by rw [ad4,Array.size_map];exact abl _),ad9 (by rw [ad4,Array.size_map];exact abl _),Array.toList_map,hs]
  rfl
theorem al7 (t ty e:TypeId) (i:TypeInfo) (z:Value) (ht:P.underlying t=some (.slice e)) (hi:P.info? e=some i) (hz:i.zero=some z)
  (hs:i.size=sz) (hzs:z.cells.size=sz) (hsz:0<sz) (h1:∀ u∈ys,u.oneCell'=true) (hy0:ys≠[])
  (h:Sat w0 w (xY e sz v xs::R)) (hx:bF sz x ys w) (h63:xs.length+ys.length<=maxLen) (hby:(xs.length+ys.length)*i.bytes<=140737488355328) :
  ∃ v' w',(Builtin.append_ #[t,t] ty #[v,x]).run P w=.ok v' w'/\Sat w0 w' (xY e sz v' (xs++ys)::R):=by
 rcases Oh h with h|⟨b,n,cap,cs,mk,rfl,hl,hn,hc,hcm,htk,hmk,hp⟩
 ·obtain ⟨v',w',hr,hS,_⟩:=acn (P:=P) t ty e i z ht hi hz hs hzs hsz h1 h hx h63 hby;exact ⟨v',w',hr,Wj hS⟩
 ·subst hs;obtain ⟨xa,m,c,rfl,hyl,yE⟩:=hx;have hle:∀ {p q:Nat},p=q*i.size->q<=p:=λ{p q} e=>by rw [e];exact Nat.le_mul_of_pos_right _ hsz
  have hm:=hle hyl;obtain ⟨ad,rfl⟩:∃ ad,xa=some ad:=by
   obtain ⟨y,hy⟩:∃ y,ys[0]?=some y:=by
    cases ys with
    |nil=>exact absurd rfl hy0
    |cons y _=>exact ⟨y,rfl⟩
   obtain ⟨b,hb,_⟩:=yE 0 y hy;exact ⟨b,hb⟩
  have hnews:∀ j u,ys[j]?=some u->w.cell? (ad.add j)=some u:=λj u hj=>by
   obtain ⟨b,hb,hx⟩:=yE j u hj;cases hb;exact hx
  have hnx:=hle hl;have h63':maxLen=9223372036854775807:=rfl;by_cases hroom:n+m<=cap
  ·have hfit:n*i.size+ys.length<=cs.size:=by
    rw [hyl,<-akH];exact adt (ae4 _ hroom) hc
   have hr:=run_append_room_cells (P:=P) w t ty e i ht hi b 0 n cap ad m c ys hyl hnews h1 hroom
    (λj hj=>by rw [ad8,OG hp (n*i.size+j) _ (ajI (show n*i.size+j<cs.size by omega))];rfl)
    (λj hj=>by rw [ad8];exact ahC hp _ oQ)
   rw [ad8]at hr;refine ⟨_,_,hr,Wn (acN ys (n*i.size) hp) ?_ hroom (by rw [kW];exact hc) hcm ?_ (by rw [kW];exact hmk)⟩
   ·rw [aaL,hl,hyl,akH]
   ·rw [l9 _ _ _ hfit,htk];have e1:(n+m)*i.size=(xs++ys).length:=by rw [aaL,hl,hyl,akH]
    rw [e1];exact List.take_left
  ·have holds:∀ j u,xs[j]?=some u->w.cell? ((⟨b,0,none⟩:Addr).add j)=some u:=λj u hj=>by
    rw [rC];exact OG hp j u (kY htk hj)
   have CG:(n+m)*i.bytes<=140737488355328:=adt (ae4 _ oQ) hby;have hr:=run_append_grow (P:=P) w t ty e i z ht hi hz ⟨b,0,none⟩ n cap xs hl holds ad m c ys hyl hnews oQ oQ (growslice_fits oQ CG);have hge:=grownCap_ge w (n+m) cap e;have hcm':=grownCap_le_maxLen w (n+m) cap e oQ;refine ⟨_,_,hr,Wj (Sat.lN ((hp.drop.drew).alloc (.cells (xs.toArray++ys.toArray++Builtin.zeroCells z.cells (grownCap w (n+m) cap e-(n+m))) e)) ?_ hge ?_ hcm' ?_)⟩
   ·rw [aaL,hl,hyl,akH]
   ·simp only [Array.size_append,abn,size_zeroCells,hzs];rw [hl,hyl,<-akH,<-akH];exact ae4 _ oQ
   ·simp only [ap3,adQ];rw [<-adQ];have e1:(n+m)*i.size=(xs++ys).length:=by rw [aaL,hl,hyl,akH]
    rw [e1];exact List.take_left
end
end Go.Proofs.Y
namespace Go.Xx
open Go.aj (Bs num le yJ)
def W:Nat:=18446744073709551616
def p1:Nat:=11400714785074694791
def p2:Nat:=14029467366897019727
def p3:Nat:=1609587929392839161
def p4:Nat:=9650029242287828579
def p5:Nat:=2870177450012600261
def turn (x k:Nat):Nat:=(x*2^k%W) ||| (x/2^(64-k))
def lane (a w:Nat):Nat:=turn ((a+w*p2%W)%W) 31*p1%W
structure Ln where
 a:Nat
 b:Nat
 c:Nat
 d:Nat
def Ln.zero:Ln:=⟨(p1+p2)%W,p2,0,W-p1⟩
def Ln.lt (l:Ln):Prop:=l.a<W/\l.b<W/\l.c<W/\l.d<W
def strip (l:Ln) (b:Bs):Ln:=⟨lane l.a (num (b.take 8)),lane l.b (num ((b.drop 8).take 8)),lane l.c (num ((b.drop 16).take 8)),lane l.d (num ((b.drop 24).take 8))⟩
def kE:Nat->Ln->Bs->Ln×Bs
 |0,l,b=>(l,b)
 |n+1,l,b=>if 32<=b.length then kE n (strip l b) (b.drop 32) else (l,b)
def mix (x a:Nat):Nat:=((x ^^^ lane 0 a)*p1%W+p4)%W
def joined (l:Ln):Nat:=mix (mix (mix (mix ((((turn l.a 1+turn l.b 7)%W+turn l.c 12)%W+turn l.d 18)%W) l.a) l.b) l.c) l.d
def t8 (x w:Nat):Nat:=(turn (x ^^^ lane 0 w) 27*p1%W+p4)%W
def t4 (x w:Nat):Nat:=(turn (x ^^^ (w*p1%W)) 23*p2%W+p3)%W
def t1 (x:Nat) (c:UInt8):Nat:=turn (x ^^^ (c.toNat*p5%W)) 11*p1%W
def lT:Nat->Nat->Bs->Nat×Bs
 |0,x,b=>(x,b)
 |n+1,x,b=>if 8<=b.length then lT n (t8 x (num (b.take 8))) (b.drop 8) else (x,b)
def tail4 (x:Nat) (b:Bs):Nat×Bs:=if 4<=b.length then (t4 x (num (b.take 4)),b.drop 4) else (x,b)
def tail (x:Nat) (b:Bs):Nat:=(tail4 (lT b.length x b).1 (lT b.length x b).2).2.foldl t1 (tail4 (lT b.length x b).1 (lT b.length x b).2).1
def f1 (x:Nat):Nat:=(x ^^^ (x/8589934592))*p2%W
def f2 (x:Nat):Nat:=(x ^^^ (x/536870912))*p3%W
def f3 (x:Nat):Nat:=x ^^^ (x/4294967296)
def sum (b:Bs):Nat:=f3 (f2 (f1 (tail (((if 32<=b.length then joined (kE b.length Ln.zero b).1 else p5)+b.length)%W) (kE b.length Ln.zero b).2)))
theorem ae6:0<W:=by decide
theorem mod_lt (x:Nat):x%W<W:=ao0 _ ae6
theorem W64:W=2^64:=by decide
theorem Bz {a b:Nat} (ha:a<W) (hb:b<W):a ^^^ b<W:=by rw [W64]at *;exact Nat.xor_lt_two_pow ha hb
theorem div_lt {x:Nat} (k:Nat) (h:x<W):x/k<W:=ajP (apD _ _) h
theorem FM (a w:Nat):lane a w<W:=mod_lt _
theorem adP:Ln.zero.lt:=⟨mod_lt _,by decide,by decide,by decide⟩
theorem acW (l:Ln) (b:Bs):(strip l b).lt:=⟨FM _ _,FM _ _,FM _ _,FM _ _⟩
theorem Yx:∀ (n:Nat) (l:Ln) (b:Bs),l.lt->(kE n l b).1.lt
 |0,l,b,h=>h
 |n+1,l,b,h=>by
  unfold kE;split
  ·exact Yx n _ _ (acW l b)
  ·exact h
theorem anJ (x w:Nat):t8 x w<W:=mod_lt _
theorem anH (x w:Nat):t4 x w<W:=mod_lt _
theorem anF (x:Nat) (c:UInt8):t1 x c<W:=mod_lt _
theorem acY:∀ (n x:Nat) (b:Bs),x<W->(lT n x b).1<W
 |0,x,b,h=>h
 |n+1,x,b,h=>by
  unfold lT;split
  ·exact acY n _ _ (anJ _ _)
  ·exact h
theorem anM (x:Nat) (b:Bs) (h:x<W):(tail4 x b).1<W:=by
 unfold tail4;split
 ·exact anH _ _
 ·exact h
theorem Yj:∀ (b:Bs) (x:Nat),x<W->b.foldl t1 x<W
 |[],x,h=>h
 |c::b,x,h=>Yj b _ (anF _ _)
theorem acZ (x:Nat) (b:Bs) (h:x<W):tail x b<W:=Yj _ _ (anM _ _ (acY _ _ _ h))
theorem ahf (x:Nat):f2 x<W:=mod_lt _
theorem ahg {x:Nat} (h:x<W):f3 x<W:=Bz h (div_lt _ h)
theorem sum_lt (b:Bs):sum b<W:=ahg (ahf _)
theorem Yw:∀ (n:Nat) (l:Ln) (b:Bs),(kE n l b).2.length<=b.length
 |0,l,b=>abl _
 |n+1,l,b=>by
  unfold kE;split
  ·exact adt (Yw n _ _) yT0
  ·exact abl _
theorem ahQ {n:Nat}{l:Ln}{b:Bs} (hb:32<=b.length) (hn:b.length<=n):kE n l b=kE (n-32) (strip l b) (b.drop 32):=by
 obtain ⟨m,rfl⟩:∃ m,n=m+1:=⟨n-1,by omega⟩;have h:kE (m+1) l b=kE m (strip l b) (b.drop 32):=by
  conv=>lhs;unfold kE
  rw [acg hb]
 rw [h];exact Yv m (m+1-32) (strip l b) (b.drop 32) yT0 yT0
where
 Yv:∀ (n m:Nat) (l:Ln) (b:Bs),b.length<=n->b.length<=m->kE n l b=kE m l b
 |0,0,l,b,_,_=>rfl
 |0,m+1,l,b,h,_=>by
  have:¬ 32<=b.length:=oQ;unfold kE;rw [abj this]
 |n+1,0,l,b,_,h=>by
  have:¬ 32<=b.length:=oQ;unfold kE;rw [abj this]
 |n+1,m+1,l,b,h1,h2=>by
  unfold kE;split
  ·exact Yv n m _ _ yT0 yT0
  ·rfl
theorem ahR {n:Nat}{l:Ln}{b:Bs} (hb:¬ 32<=b.length):kE n l b=(l,b):=by
 cases n with
 |zero=>rfl
 |succ n=>unfold kE;rw [abj hb]
theorem anN {n x:Nat}{b:Bs} (hb:8<=b.length) (hn:b.length<=n):lT n x b=lT (n-8) (t8 x (num (b.take 8))) (b.drop 8):=by
 obtain ⟨m,rfl⟩:∃ m,n=m+1:=⟨n-1,by omega⟩;have h:lT (m+1) x b=lT m (t8 x (num (b.take 8))) (b.drop 8):=by
  conv=>lhs;unfold lT
  rw [acg hb]
 rw [h];exact fuel m (m+1-8) _ (b.drop 8) yT0 yT0
where
 fuel:∀ (n m x:Nat) (b:Bs),b.length<=n->b.length<=m->lT n x b=lT m x b
 |0,0,x,b,_,_=>rfl
 |0,m+1,x,b,h,_=>by
  have:¬ 8<=b.length:=oQ;unfold lT;rw [abj this]
 |n+1,0,x,b,_,h=>by
  have:¬ 8<=b.length:=oQ;unfold lT;rw [abj this]
 |n+1,m+1,x,b,h1,h2=>by
  unfold lT;split
  ·exact fuel n m _ _ yT0 yT0
  ·rfl
theorem anO {n x:Nat}{b:Bs} (hb:¬ 8<=b.length):lT n x b=(x,b):=by
 cases n with
 |zero=>rfl
 |succ n=>unfold lT;rw [abj hb]
end Go.Xx
namespace Go.Proofs.Y
open Go.ay
section
variable {x y z a:Nat}
theorem wrapN (x:Nat):IntKind.u64.wrap (x:Int)=((x%18446744073709551616:Nat):Int):=by rw [ajd];rfl
theorem mulN (x c:Nat):IntKind.u64.wrap ((x:Int)*(c:Int))=((x*c%18446744073709551616:Nat):Int):=by rw [<-aqe,wrapN]
theorem addN (x c:Nat):IntKind.u64.wrap ((x:Int)+(c:Int))=(((x+c)%18446744073709551616:Nat):Int):=by rw [<-Int.natCast_add,wrapN]
theorem yM (x y:Nat) (hx:x<18446744073709551616) (hy:y<18446744073709551616):bits .or .u64 (x:Int) (y:Int)=((x ||| y:Nat):Int):=u64_or_nat x y hx hy
theorem Bv (x y:Nat) (hx:x<18446744073709551616) (hy:y<18446744073709551616):bits .xor .u64 (x:Int) (y:Int)=((x ^^^ y:Nat):Int):=u64_xor_nat x y hx hy
theorem qj (x:Nat):x%18446744073709551616<18446744073709551616:=ao0 _ aN
theorem UF (hx:x<18446744073709551616) (hy:y<18446744073709551616):x ^^^ y<18446744073709551616:=Xx.Bz (show x<Xx.W from hx) (show y<Xx.W from hy)
theorem Qn (a w:Nat):Xx.lane a w<18446744073709551616:=Xx.FM a w
theorem ajn (a x:Nat):∃ y z u:Nat,IntKind.u64.wrap ((x:Int)*14029467366897019727)=(y:Int)/\IntKind.u64.wrap ((a:Int)+(y:Int))=(z:Int)/\z<18446744073709551616/\IntKind.u64.wrap ((Xx.turn z 31:Nat)*(11400714785074694791:Int))=(u:Int)/\Xx.lane a x=u:=
 ⟨x*Xx.p2%18446744073709551616,(a+x*Xx.p2%18446744073709551616)%18446744073709551616,Xx.turn ((a+x*Xx.p2%18446744073709551616)%18446744073709551616) 31*Xx.p1%18446744073709551616,mulN x Xx.p2,addN _ _,qj _,mulN _ Xx.p1,rfl⟩
theorem J5 (hx:x<18446744073709551616) (a:Nat):∃ y z u:Nat,bits .xor .u64 (x:Int) ((Xx.lane 0 a:Nat):Int)=(y:Int)/\IntKind.u64.wrap ((y:Int)*11400714785074694791)=(z:Int)/\IntKind.u64.wrap ((z:Int)+9650029242287828579)=(u:Int)/\u<18446744073709551616/\Xx.mix x a=u:=
 ⟨x ^^^ Xx.lane 0 a,(x ^^^ Xx.lane 0 a)*Xx.p1%18446744073709551616,((x ^^^ Xx.lane 0 a)*Xx.p1%18446744073709551616+Xx.p4)%18446744073709551616,Bv x _ hx (Qn 0 a),mulN _ Xx.p1,addN _ Xx.p4,qj _,rfl⟩
theorem anI (hx:x<18446744073709551616) (n:Nat):∃ r z u:Nat,bits .xor .u64 (x:Int) ((Xx.lane 0 n:Nat):Int)=(r:Int)/\r<18446744073709551616/\IntKind.u64.wrap ((Xx.turn r 27:Nat)*(11400714785074694791:Int))=(z:Int)/\IntKind.u64.wrap ((z:Int)+9650029242287828579)=(u:Int)/\u<18446744073709551616/\Xx.t8 x n=u:=
 ⟨x ^^^ Xx.lane 0 n,Xx.turn (x ^^^ Xx.lane 0 n) 27*Xx.p1%18446744073709551616,(Xx.turn (x ^^^ Xx.lane 0 n) 27*Xx.p1%18446744073709551616+Xx.p4)%18446744073709551616,Bv x _ hx (Qn 0 n),UF hx (Qn 0 n),mulN _ Xx.p1,addN _ Xx.p4,qj _,rfl⟩
theorem anG (hx:x<18446744073709551616) (n:Nat):∃ t r z u:Nat,IntKind.u64.wrap ((n:Int)*11400714785074694791)=(t:Int)/\bits .xor .u64 (x:Int) (t:Int)=(r:Int)/\r<18446744073709551616/\IntKind.u64.wrap ((Xx.turn r 23:Nat)*(14029467366897019727:Int))=(z:Int)/\IntKind.u64.wrap ((z:Int)+1609587929392839161)=(u:Int)/\u<18446744073709551616/\Xx.t4 x n=u:=
 ⟨n*Xx.p1%18446744073709551616,x ^^^ (n*Xx.p1%18446744073709551616),Xx.turn (x ^^^ (n*Xx.p1%18446744073709551616)) 23*Xx.p2%18446744073709551616,(Xx.turn (x ^^^ (n*Xx.p1%18446744073709551616)) 23*Xx.p2%18446744073709551616+Xx.p3)%18446744073709551616,mulN n Xx.p1,Bv x _ hx (qj _),UF hx (qj _),mulN _ Xx.p2,addN _ Xx.p3,qj _,rfl⟩
theorem acX (hx:x<18446744073709551616) (c:UInt8):∃ q r u:Nat,IntKind.u64.wrap ((c.toNat:Int)*2870177450012600261)=(q:Int)/\bits .xor .u64 (x:Int) (q:Int)=(r:Int)/\r<18446744073709551616/\IntKind.u64.wrap ((Xx.turn r 11:Nat)*(11400714785074694791:Int))=(u:Int)/\u<18446744073709551616/\Xx.t1 x c=u:=
 ⟨c.toNat*Xx.p5%18446744073709551616,x ^^^ (c.toNat*Xx.p5%18446744073709551616),Xx.turn (x ^^^ (c.toNat*Xx.p5%18446744073709551616)) 11*Xx.p1%18446744073709551616,mulN _ Xx.p5,Bv x _ hx (qj _),UF hx (qj _),mulN _ Xx.p1,qj _,rfl⟩
theorem ai8 (l:Xx.Ln):∃ s1 s2 x0:Nat,IntKind.u64.wrap ((Xx.turn l.a 1:Nat)+((Xx.turn l.b 7:Nat):Int))=(s1:Int)/\IntKind.u64.wrap ((s1:Int)+((Xx.turn l.c 12:Nat):Int))=(s2:Int)/\IntKind.u64.wrap ((s2:Int)+((Xx.turn l.d 18:Nat):Int))=(x0:Int)/\x0<18446744073709551616/\Xx.joined l=Xx.mix (Xx.mix (Xx.mix (Xx.mix x0 l.a) l.b) l.c) l.d:=
 ⟨_,_,_,addN _ _,addN _ _,addN _ _,qj _,rfl⟩
theorem X7 (hx:x<18446744073709551616):∃ t1 t2 t3 t4 t5:Nat,bits .xor .u64 (x:Int) ((x:Int)/8589934592)=(t1:Int)/\IntKind.u64.wrap ((t1:Int)*14029467366897019727)=(t2:Int)/\bits .xor .u64 (t2:Int) ((t2:Int)/536870912)=(t3:Int)/\IntKind.u64.wrap ((t3:Int)*1609587929392839161)=(t4:Int)/\bits .xor .u64 (t4:Int) ((t4:Int)/4294967296)=(t5:Int)/\Xx.f3 (Xx.f2 (Xx.f1 x))=t5:=by
 have d:∀ (y k:Nat),y<18446744073709551616->y/k<18446744073709551616:=λy k h=>ajP (apD _ _) h;exact ⟨x ^^^ (x/8589934592),(x ^^^ (x/8589934592))*Xx.p2%18446744073709551616,Xx.f1 x ^^^ (Xx.f1 x/536870912),(Xx.f1 x ^^^ (Xx.f1 x/536870912))*Xx.p3%18446744073709551616,Xx.f2 (Xx.f1 x) ^^^ (Xx.f2 (Xx.f1 x)/4294967296),Bv x _ hx (d _ _ hx),mulN _ Xx.p2,Bv (Xx.f1 x) _ (qj _) (d _ _ (qj _)),mulN _ Xx.p3,Bv (Xx.f2 (Xx.f1 x)) _ (qj _) (d _ _ (qj _)),rfl⟩
theorem acU (j n:Nat):∃ x:Nat,IntKind.u64.wrap ((j:Int)+(n:Int))=(x:Int)/\x<18446744073709551616/\(j+n)%Xx.W=x:=⟨(j+n)%18446744073709551616,addN j n,qj _,rfl⟩
end
theorem an0 (x:Nat) (hx:x<18446744073709551616) (h:Sat w0 w F):Calls prog 245 #[.int .u64 x,.int .i64 1] w (aP λv w'=>v=.int .u64 (Xx.turn x 1:Nat)/\Sat w0 w' F):=by
 have hf:=uQ (show Xx.turn x 1=(x*2%18446744073709551616) ||| (x/9223372036854775808) from rfl);have e1:IntKind.u64.wrap ((x:Int)*2)=((x*2%18446744073709551616:Nat):Int):=by rw [ajd];omega
 have e2:(x:Int)/9223372036854775808=((x/9223372036854775808:Nat):Int):=rfl;have ha:x*2%18446744073709551616<18446744073709551616:=ao0 _ aN;have hb:x/9223372036854775808<18446744073709551616:=ajP (apD _ _) hx;generalize x*2%18446744073709551616=a at *
 generalize x/9223372036854775808=b at *
 have e3:=yM a b ha hb;have hS:=h.drew;have e0:bits .and .i64 (1:Int) 63=1:=by decide
 have zZ:wrap64 (64-1:Int)=63:=by rw [ahJ _ aN];rfl
 clear ha hb h;go_enter func245,ntmps245;go_wp2_with fail
 go_region
 go_wp2;go_ret;exact ⟨_,rfl,by rw [hf.o];rfl,hS⟩
theorem an4 (x:Nat) (hx:x<18446744073709551616) (h:Sat w0 w F):Calls prog 245 #[.int .u64 x,.int .i64 7] w (aP λv w'=>v=.int .u64 (Xx.turn x 7:Nat)/\Sat w0 w' F):=by
 have hf:=uQ (show Xx.turn x 7=(x*128%18446744073709551616) ||| (x/144115188075855872) from rfl);have e1:IntKind.u64.wrap ((x:Int)*128)=((x*128%18446744073709551616:Nat):Int):=by rw [ajd];omega
 have e2:(x:Int)/144115188075855872=((x/144115188075855872:Nat):Int):=rfl;have ha:x*128%18446744073709551616<18446744073709551616:=ao0 _ aN;have hb:x/144115188075855872<18446744073709551616:=ajP (apD _ _) hx;generalize x*128%18446744073709551616=a at *
 generalize x/144115188075855872=b at *
 have e3:=yM a b ha hb;have hS:=h.drew;have e0:bits .and .i64 (7:Int) 63=7:=by decide
 have zZ:wrap64 (64-7:Int)=57:=by rw [ahJ _ aN];rfl
 clear ha hb h;go_enter func245,ntmps245;go_wp2_with fail
 go_region
 go_wp2;go_ret;exact ⟨_,rfl,by rw [hf.o];rfl,hS⟩
theorem ac3 (x:Nat) (hx:x<18446744073709551616) (h:Sat w0 w F):Calls prog 245 #[.int .u64 x,.int .i64 11] w (aP λv w'=>v=.int .u64 (Xx.turn x 11:Nat)/\Sat w0 w' F):=by
 have hf:=uQ (show Xx.turn x 11=(x*2048%18446744073709551616) ||| (x/9007199254740992) from rfl);have e1:IntKind.u64.wrap ((x:Int)*2048)=((x*2048%18446744073709551616:Nat):Int):=by rw [ajd];omega
 have e2:(x:Int)/9007199254740992=((x/9007199254740992:Nat):Int):=rfl;have ha:x*2048%18446744073709551616<18446744073709551616:=ao0 _ aN;have hb:x/9007199254740992<18446744073709551616:=ajP (apD _ _) hx;generalize x*2048%18446744073709551616=a at *
 generalize x/9007199254740992=b at *
 have e3:=yM a b ha hb;have hS:=h.drew;have e0:bits .and .i64 (11:Int) 63=11:=by decide
 have zZ:wrap64 (64-11:Int)=53:=by rw [ahJ _ aN];rfl
 clear ha hb h;go_enter func245,ntmps245;go_wp2_with fail
 go_region
 go_wp2;go_ret;exact ⟨_,rfl,by rw [hf.o];rfl,hS⟩
theorem anY (x:Nat) (hx:x<18446744073709551616) (h:Sat w0 w F):Calls prog 245 #[.int .u64 x,.int .i64 12] w (aP λv w'=>v=.int .u64 (Xx.turn x 12:Nat)/\Sat w0 w' F):=by
 have hf:=uQ (show Xx.turn x 12=(x*4096%18446744073709551616) ||| (x/4503599627370496) from rfl);have e1:IntKind.u64.wrap ((x:Int)*4096)=((x*4096%18446744073709551616:Nat):Int):=by rw [ajd];omega
 have e2:(x:Int)/4503599627370496=((x/4503599627370496:Nat):Int):=rfl;have ha:x*4096%18446744073709551616<18446744073709551616:=ao0 _ aN;have hb:x/4503599627370496<18446744073709551616:=ajP (apD _ _) hx;generalize x*4096%18446744073709551616=a at *
 generalize x/4503599627370496=b at *
 have e3:=yM a b ha hb;have hS:=h.drew;have e0:bits .and .i64 (12:Int) 63=12:=by decide
 have zZ:wrap64 (64-12:Int)=52:=by rw [ahJ _ aN];rfl
 clear ha hb h;go_enter func245,ntmps245;go_wp2_with fail
 go_region
 go_wp2;go_ret;exact ⟨_,rfl,by rw [hf.o];rfl,hS⟩
theorem anZ (x:Nat) (hx:x<18446744073709551616) (h:Sat w0 w F):Calls prog 245 #[.int .u64 x,.int .i64 18] w (aP λv w'=>v=.int .u64 (Xx.turn x 18:Nat)/\Sat w0 w' F):=by
 have hf:=uQ (show Xx.turn x 18=(x*262144%18446744073709551616) ||| (x/70368744177664) from rfl);have e1:IntKind.u64.wrap ((x:Int)*262144)=((x*262144%18446744073709551616:Nat):Int):=by rw [ajd];omega
 have e2:(x:Int)/70368744177664=((x/70368744177664:Nat):Int):=rfl;have ha:x*262144%18446744073709551616<18446744073709551616:=ao0 _ aN;have hb:x/70368744177664<18446744073709551616:=ajP (apD _ _) hx;generalize x*262144%18446744073709551616=a at *
 generalize x/70368744177664=b at *
 have e3:=yM a b ha hb;have hS:=h.drew;have e0:bits .and .i64 (18:Int) 63=18:=by decide
 have zZ:wrap64 (64-18:Int)=46:=by rw [ahJ _ aN];rfl
 clear ha hb h;go_enter func245,ntmps245;go_wp2_with fail
 go_region
 go_wp2;go_ret;exact ⟨_,rfl,by rw [hf.o];rfl,hS⟩
theorem an1 (x:Nat) (hx:x<18446744073709551616) (h:Sat w0 w F):Calls prog 245 #[.int .u64 x,.int .i64 23] w (aP λv w'=>v=.int .u64 (Xx.turn x 23:Nat)/\Sat w0 w' F):=by
 have hf:=uQ (show Xx.turn x 23=(x*8388608%18446744073709551616) ||| (x/2199023255552) from rfl);have e1:IntKind.u64.wrap ((x:Int)*8388608)=((x*8388608%18446744073709551616:Nat):Int):=by rw [ajd];omega
 have e2:(x:Int)/2199023255552=((x/2199023255552:Nat):Int):=rfl;have ha:x*8388608%18446744073709551616<18446744073709551616:=ao0 _ aN;have hb:x/2199023255552<18446744073709551616:=ajP (apD _ _) hx;generalize x*8388608%18446744073709551616=a at *
 generalize x/2199023255552=b at *
 have e3:=yM a b ha hb;have hS:=h.drew;have e0:bits .and .i64 (23:Int) 63=23:=by decide
 have zZ:wrap64 (64-23:Int)=41:=by rw [ahJ _ aN];rfl
 clear ha hb h;go_enter func245,ntmps245;go_wp2_with fail
 go_region
 go_wp2;go_ret;exact ⟨_,rfl,by rw [hf.o];rfl,hS⟩
theorem an2 (x:Nat) (hx:x<18446744073709551616) (h:Sat w0 w F):Calls prog 245 #[.int .u64 x,.int .i64 27] w (aP λv w'=>v=.int .u64 (Xx.turn x 27:Nat)/\Sat w0 w' F):=by
 have hf:=uQ (show Xx.turn x 27=(x*134217728%18446744073709551616) ||| (x/137438953472) from rfl);have e1:IntKind.u64.wrap ((x:Int)*134217728)=((x*134217728%18446744073709551616:Nat):Int):=by rw [ajd];omega
 have e2:(x:Int)/137438953472=((x/137438953472:Nat):Int):=rfl;have ha:x*134217728%18446744073709551616<18446744073709551616:=ao0 _ aN;have hb:x/137438953472<18446744073709551616:=ajP (apD _ _) hx;generalize x*134217728%18446744073709551616=a at *
 generalize x/137438953472=b at *
 have e3:=yM a b ha hb;have hS:=h.drew;have e0:bits .and .i64 (27:Int) 63=27:=by decide
 have zZ:wrap64 (64-27:Int)=37:=by rw [ahJ _ aN];rfl
 clear ha hb h;go_enter func245,ntmps245;go_wp2_with fail
 go_region
 go_wp2;go_ret;exact ⟨_,rfl,by rw [hf.o];rfl,hS⟩
theorem an3 (x:Nat) (hx:x<18446744073709551616) (h:Sat w0 w F):Calls prog 245 #[.int .u64 x,.int .i64 31] w (aP λv w'=>v=.int .u64 (Xx.turn x 31:Nat)/\Sat w0 w' F):=by
 have hf:=uQ (show Xx.turn x 31=(x*2147483648%18446744073709551616) ||| (x/8589934592) from rfl);have e1:IntKind.u64.wrap ((x:Int)*2147483648)=((x*2147483648%18446744073709551616:Nat):Int):=by rw [ajd];omega
 have e2:(x:Int)/8589934592=((x/8589934592:Nat):Int):=rfl;have ha:x*2147483648%18446744073709551616<18446744073709551616:=ao0 _ aN;have hb:x/8589934592<18446744073709551616:=ajP (apD _ _) hx;generalize x*2147483648%18446744073709551616=a at *
 generalize x/8589934592=b at *
 have e3:=yM a b ha hb;have hS:=h.drew;have e0:bits .and .i64 (31:Int) 63=31:=by decide
 have zZ:wrap64 (64-31:Int)=33:=by rw [ahJ _ aN];rfl
 clear ha hb h;go_enter func245,ntmps245;go_wp2_with fail
 go_region
 go_wp2;go_ret;exact ⟨_,rfl,by rw [hf.o];rfl,hS⟩
theorem wP (a x:Nat) (h:Sat w0 w F):Calls prog 228 #[.int .u64 a,.int .u64 x] w (aP λv w'=>v=.int .u64 (Xx.lane a x:Nat)/\Sat w0 w' F):=by
 obtain ⟨y,z,u,e1,e2,hz,e3,e4⟩:=ajn a x;rw [e4];have ht:=an3 z hz h;clear hz e4 h;generalize Xx.turn z 31=t at *
 go_enter func228,ntmps228;go_wp2_with fail;refine ht.mono ?_;rintro ee w1 ⟨v,rfl,rfl,hS⟩;clear ht;go_wp2;go_ret;exact ⟨_,rfl,rfl,hS⟩
structure RS (w0:World) (F:List aG) (v:Value) (l:Bs):Prop where
 rd:Ro w0 F (bF 1 v (aA l))
 cap:lY v
section
variable {a:Option Addr}{k:Nat}
theorem TG (w:World):(sizeOf 5).run prog w=.ok 1 w:=by kernel_rfl
theorem Jm:prog.elem 39=5:=by kernel_rfl
theorem DT:prog.underlying 39=some (.slice (prog.elem 39)):=by rw [Jm];exact underlying39
theorem acB (hk:k<=n) (w:World):(Instr.sliceAt 39 (.slice a n c) (some (.int .i64 k)) none none).run prog w=.ok (sliced a k n c 1) w:=by
 rw [run_sliceAt_slice _ _ _ _ _ _ DT,run_slice_l _ _ _ _ _ DT .i64 (k:Int) oQ oQ,Jm,TG];simp [Result.andThen]
theorem La (hk:k<=c) (w:World):(Instr.sliceAt 39 (.slice a n c) none (some (.int .i64 k)) none).run prog w=.ok (sliced a 0 k c 1) w:=by
 rw [run_sliceAt_slice _ _ _ _ _ _ DT,run_slice_h _ _ _ _ _ DT .i64 (k:Int) oQ oQ,Jm,TG];simp [Result.andThen]
theorem amw (hk:k<=c) (w:World):(Instr.sliceAt 39 (.slice a n c) none (some (.int .i64 k)) (some (.int .i64 k))).run prog w=.ok (sliced a 0 k k 1) w:=by
 rw [run_sliceAt_slice _ _ _ _ _ _ DT,run_slice_hm _ _ _ _ _ DT .i64 .i64 (k:Int) (k:Int) oQ oQ oQ,Jm,TG];simp [Result.andThen]
theorem RS.len (h:RS w0 F v l) (hS:Sat w0 w F):∃ a c,v=.slice a l.length c/\l.length<=c/\c<=9223372036854775807:=by
 obtain ⟨a,n,c,rfl,h1,h2⟩:=h.cap;obtain ⟨_,_,_,he,hl,_⟩:=h.rd w hS;cases he;rw [aX,aes]at hl;subst hl;exact ⟨a,c,rfl,h1,h2⟩
theorem x9 {l:Bs}{j:Nat}{y:Value}:(aA l)[j]?=some y↔∃ u,l[j]?=some u/\y=.int .u8 u.toNat:=by
 unfold aA;rw [adW,aip];constructor
 ·rintro ⟨u,h1,h2⟩;exact ⟨u,h1,h2.symm⟩
 ·rintro ⟨u,h1,h2⟩;exact ⟨u,h1,h2.symm⟩
theorem RS.from (h:RS w0 F (.slice a l.length c) l) (hk:k<=l.length):RS w0 F (sliced a k l.length c 1) (l.drop k):=by
 obtain ⟨a',n',c',he,h1,h2⟩:=h.cap;cases he;refine ⟨λw hw=>?_,⟨_,_,_,rfl,by omega,by omega⟩⟩;refine ⟨_,_,_,rfl,by rw [aX,ad3,aes],λj y hj=>?_⟩;obtain ⟨u,hu,rfl⟩:=x9.1 hj;rw [ao5]at hu;have hlt:=(abm.1 hu).1;obtain ⟨bk,off,rfl,hc⟩:=pI (h.rd w hw) (x9.2 ⟨u,hu,rfl⟩);rw [abj oQ];refine ⟨_,rfl,?_⟩;have:=hc (k+j) _ (x9.2 ⟨u,hu,rfl⟩);show w.cell? (((⟨bk,off,none⟩:Addr).add (k*1)).add j)=_;rw [Addr.add_mid,Addr.add_mid,aes,apB];exact this
theorem RS.to (h:RS w0 F (.slice a l.length c) l) (hk:k<=l.length) (m:Nat) (hm:k<=m) (hmc:m<=c):RS w0 F (sliced a 0 k m 1) (l.take k):=by
 obtain ⟨a',n',c',he,h1,h2⟩:=h.cap;cases he;refine ⟨λw hw=>?_,⟨_,_,_,rfl,by omega,by omega⟩⟩;refine ⟨_,_,_,rfl,by rw [aX,ads,aes];omega,λj y hj=>?_⟩;obtain ⟨u,hu,rfl⟩:=x9.1 hj;rw [aeY]at hu;split at hu
 ·rename_i hjk;obtain ⟨bk,off,rfl,hc⟩:=pI (h.rd w hw) (x9.2 ⟨u,hu,rfl⟩);rw [abj oQ];refine ⟨_,rfl,?_⟩;have:=hc j _ (x9.2 ⟨u,hu,rfl⟩);show w.cell? (((⟨bk,off,none⟩:Addr).add (0*1)).add j)=_;rw [Addr.add_mid,Addr.add_mid,Nat.zero_mul,ai6];exact this
 ·cases hu
theorem RS.Kz (h:Sat w0 w (bQ v l::F)):RS w0 (bQ v l::F) v l:=by
 obtain ⟨a,n,c,e,h1,h2,h3⟩:=BU h;exact ⟨Ro.bQ _ _,⟨a,n,c,e,h1,h2⟩⟩
theorem RS.more (h:RS w0 F v l){G:List aG} (k:Sub G F):RS w0 G v l:=⟨Ro.of_sub h.rd k,h.cap⟩
end
section
variable {rest:List Oper}{Q:Exit->Act->World->Prop}{pos:String}{z:Operand}{vx vy vz:Value}
theorem MB (hx:a.eval x=vx) (hy:a.eval y=vy) (hr:∀ w,(Instr.sliceAt ty vx (some vy) none none).run P w=.ok v w) (h:wpList P ops Q rest (a.put dst v) w):wpList P ops Q (⟨dst,.slice ty x (some y) none none,t,pos,after,none⟩::rest) a w:=
 aeV rfl λ_ hK=>by
  unfold Oper.wp execOp;simp only [hx,hy,afW,aoC,ad1,hr,adu,aek];exact hK _ _ h
theorem adB (hx:a.eval x=vx) (hy:a.eval y=vy) (hr:∀ w,(Instr.sliceAt ty vx none (some vy) none).run P w=.ok v w) (h:wpList P ops Q rest (a.put dst v) w):wpList P ops Q (⟨dst,.slice ty x none (some y) none,t,pos,after,none⟩::rest) a w:=
 aeV rfl λ_ hK=>by
  unfold Oper.wp execOp;simp only [hx,hy,afW,aoC,ad1,hr,adu,aek];exact hK _ _ h
theorem aou (hx:a.eval x=vx) (hy:a.eval y=vy) (hz:a.eval z=vz) (hr:∀ w,(Instr.sliceAt ty vx none (some vy) (some vz)).run P w=.ok v w) (h:wpList P ops Q rest (a.put dst v) w):wpList P ops Q (⟨dst,.slice ty x none (some y) (some z),t,pos,after,none⟩::rest) a w:=
 aeV rfl λ_ hK=>by
  unfold Oper.wp execOp;simp only [hx,hy,hz,afW,aoC,ad1,hr,adu,aek];exact hK _ _ h
theorem I8 (h:Stop (wpList P ops Q (⟨dst,.slice ty x (some y) none none,t,pos,after,none⟩::rest) a w)):wpList P ops Q (⟨dst,.slice ty x (some y) none none,t,pos,after,none⟩::rest) a w:=h.o
theorem Wy (h:Stop (wpList P ops Q (⟨dst,.slice ty x none (some y) none,t,pos,after,none⟩::rest) a w)):wpList P ops Q (⟨dst,.slice ty x none (some y) none,t,pos,after,none⟩::rest) a w:=h.o
theorem afs (h:Stop (wpList P ops Q (⟨dst,.slice ty x none (some y) (some z),t,pos,after,none⟩::rest) a w)):wpList P ops Q (⟨dst,.slice ty x none (some y) (some z),t,pos,after,none⟩::rest) a w:=h.o
end
theorem yN (l:Bs) (c:UInt8) (k:Nat) (hl:l.length=k) (hk:k<8):bits .or .u64 ((aj.num l:Nat):Int) ((c.toNat:Int)*((256^k:Nat):Int))=((aj.num (l++[c]):Nat):Int):=by
 subst hl;have h1:=aj.yJ l;have h2:=c.toNat_lt;have h3:256^l.length<=256^7:=ao7 aN oQ;have h4:c.toNat*256^l.length<=255*256^7:=an9 oQ h3;have h5:(256:Nat)^7=72057594037927936:=by decide
 have e:(c.toNat:Int)*((256^l.length:Nat):Int)=((c.toNat*256^l.length:Nat):Int):=by rw [aqe]
 rw [e,u64_or_nat _ _ oQ oQ,aj.QZ]
 congr 1
 have hp:(256:Nat)^l.length=2^(8*l.length):=by rw [Nat.pow_mul]
 rw [hp]at h1 ⊢;have:=Nat.two_pow_add_eq_or_of_lt h1 c.toNat;rw [Nat.or_comm,aiv c.toNat,<-this,apW]
theorem ahM (c0 c1 c2 c3 c4 c5 c6 c7:UInt8) (a:Option Addr) (c:Nat) (h:bF 1 (.slice a 8 c) (aA [c0,c1,c2,c3,c4,c5,c6,c7]) w) :
  Calls prog 144 #[.slice a 8 c] w (aP λv w'=>v=.tuple #[.int .u64 (aj.num [c0,c1,c2,c3,c4,c5,c6,c7]:Nat),.bool true]/\w=w'):=by
 obtain ⟨bk,off,rfl,hc⟩:=pI h (i:=0) rfl;have e0:w.cell? ⟨bk,off,none⟩=some (.int .u8 c0.toNat):=hc 0 _ rfl;have t0:=c0.toNat_lt;have e1:w.cell? ⟨bk,off+1,none⟩=some (.int .u8 c1.toNat):=hc 1 _ rfl;have t1:=c1.toNat_lt;have e2:w.cell? ⟨bk,off+2,none⟩=some (.int .u8 c2.toNat):=hc 2 _ rfl;have t2:=c2.toNat_lt;have e3:w.cell? ⟨bk,off+3,none⟩=some (.int .u8 c3.toNat):=hc 3 _ rfl;have t3:=c3.toNat_lt;have e4:w.cell? ⟨bk,off+4,none⟩=some (.int .u8 c4.toNat):=hc 4 _ rfl;have t4:=c4.toNat_lt;have e5:w.cell? ⟨bk,off+5,none⟩=some (.int .u8 c5.toNat):=hc 5 _ rfl;have t5:=c5.toNat_lt;have e6:w.cell? ⟨bk,off+6,none⟩=some (.int .u8 c6.toNat):=hc 6 _ rfl;have t6:=c6.toNat_lt;have e7:w.cell? ⟨bk,off+7,none⟩=some (.int .u8 c7.toNat):=hc 7 _ rfl;have t7:=c7.toNat_lt;clear hc h;go_enter func144,ntmps144;go_wp2_with fail
 go_loopg [17,4] 8 (λg iq xq wr=>∃ i:Nat,g=8-i/\i<=8/\iq=.int .i64 i/\xq=.int .u64 (aj.num ([c0,c1,c2,c3,c4,c5,c6,c7].take i):Nat)/\wr=w)
 case atStart=>exact ⟨0,rfl,by omega,rfl,rfl,rfl⟩
 case round=>
  obtain ⟨i,rfl,hi,rfl,rfl,rfl⟩:=hrel;by_cases h4:i<8
  ·have h0:i=0\/i=1\/i=2\/i=3\/i=4\/i=5\/i=6\/i=7:=by omega
   clear hi h4;rcases h0 with rfl|rfl|rfl|rfl|rfl|rfl|rfl|rfl
   ·have hq:bits .or .u64 ((aj.num []:Nat):Int) (c0.toNat:Int)=((aj.num [c0]:Nat):Int):=by
     have:=yN [] c0 0 rfl aN;simpa using this
    go_wp2_with fail
    go_roundg (8-1)
    case measure=>decide
    case rel=>exact ⟨1,rfl,by decide,by first|rfl|go_num,rfl,rfl⟩
   ·have hq:bits .or .u64 ((aj.num [c0]:Nat):Int) ((c1.toNat:Int)*256)=((aj.num [c0,c1]:Nat):Int):=yN [c0] c1 1 rfl aN;go_wp2_with fail
    go_roundg (8-2)
    case measure=>decide
    case rel=>exact ⟨2,rfl,by decide,by first|rfl|go_num,rfl,rfl⟩
   ·have hq:bits .or .u64 ((aj.num [c0,c1]:Nat):Int) ((c2.toNat:Int)*65536)=((aj.num [c0,c1,c2]:Nat):Int):=yN [c0,c1] c2 2 rfl aN;go_wp2_with fail
    go_roundg (8-3)
    case measure=>decide
    case rel=>exact ⟨3,rfl,by decide,by first|rfl|go_num,rfl,rfl⟩
   ·have hq:bits .or .u64 ((aj.num [c0,c1,c2]:Nat):Int) ((c3.toNat:Int)*16777216)=((aj.num [c0,c1,c2,c3]:Nat):Int):=yN [c0,c1,c2] c3 3 rfl aN;go_wp2_with fail
    go_roundg (8-4)
    case measure=>decide
    case rel=>exact ⟨4,rfl,by decide,by first|rfl|go_num,rfl,rfl⟩
   ·have hq:bits .or .u64 ((aj.num [c0,c1,c2,c3]:Nat):Int) ((c4.toNat:Int)*4294967296)=((aj.num [c0,c1,c2,c3,c4]:Nat):Int):=yN [c0,c1,c2,c3] c4 4 rfl aN;go_wp2_with fail
    go_roundg (8-5)
    case measure=>decide
    case rel=>exact ⟨5,rfl,by decide,by first|rfl|go_num,rfl,rfl⟩
   ·have hq:bits .or .u64 ((aj.num [c0,c1,c2,c3,c4]:Nat):Int) ((c5.toNat:Int)*1099511627776)=((aj.num [c0,c1,c2,c3,c4,c5]:Nat):Int):=yN [c0,c1,c2,c3,c4] c5 5 rfl aN;go_wp2_with fail
    go_roundg (8-6)
    case measure=>decide
    case rel=>exact ⟨6,rfl,by decide,by first|rfl|go_num,rfl,rfl⟩
   ·have hq:bits .or .u64 ((aj.num [c0,c1,c2,c3,c4,c5]:Nat):Int) ((c6.toNat:Int)*281474976710656)=((aj.num [c0,c1,c2,c3,c4,c5,c6]:Nat):Int):=yN [c0,c1,c2,c3,c4,c5] c6 6 rfl aN;go_wp2_with fail
    go_roundg (8-7)
    case measure=>decide
    case rel=>exact ⟨7,rfl,by decide,by first|rfl|go_num,rfl,rfl⟩
   ·have hq:bits .or .u64 ((aj.num [c0,c1,c2,c3,c4,c5,c6]:Nat):Int) ((c7.toNat:Int)*72057594037927936)=((aj.num [c0,c1,c2,c3,c4,c5,c6,c7]:Nat):Int):=yN [c0,c1,c2,c3,c4,c5,c6] c7 7 rfl aN;go_wp2_with fail
    go_roundg (8-8)
    case measure=>decide
    case rel=>exact ⟨8,rfl,by decide,by first|rfl|go_num,rfl,rfl⟩
  ·obtain rfl:i=8:=by omega
   go_wp2
   go_ret2
   exact ⟨_,rfl,rfl,rfl⟩
theorem eight {l:Bs} (h:l.length=8):∃ c0 c1 c2 c3 c4 c5 c6 c7,l=[c0,c1,c2,c3,c4,c5,c6,c7]:=by
 match l,h with
 |[c0,c1,c2,c3,c4,c5,c6,c7],_=>exact ⟨c0,c1,c2,c3,c4,c5,c6,c7,rfl⟩
theorem Pg (l:Bs) (hl:l.length=8) (a:Option Addr) (c:Nat) (h:bF 1 (.slice a 8 c) (aA l) w) :
  Calls prog 144 #[.slice a 8 c] w (aP λv w'=>v=.tuple #[.int .u64 (aj.num l:Nat),.bool true]/\w=w'):=by
 obtain ⟨c0,c1,c2,c3,c4,c5,c6,c7,rfl⟩:=eight hl;exact ahM c0 c1 c2 c3 c4 c5 c6 c7 a c h
theorem GX (l:Bs) (hl:8<=l.length) (hr:RS w0 F bv l) (h:Sat w0 w F) :
  Calls prog 229 #[bv] w (aP λv w'=>v=.int .u64 (aj.num (l.take 8):Nat)/\w=w'):=by
 obtain ⟨a,c,rfl,h1,h2⟩:=hr.len h;have ht:=(hr.to hl c oQ (abl c)).rd w h;have hs:sliced a 0 8 c 1=.slice (if c=0 then a else a.map (·.add (0*1))) 8 c:=rfl;rw [hs]at ht;have hg:=Pg (l.take 8) (by rw [ads];omega) _ c ht;have hrun:∀ w,(Instr.sliceAt 39 (.slice a l.length c) none (some (.int .i64 8)) none).run prog w=.ok (.slice (if c=0 then a else a.map (·.add (0*1))) 8 c) w:=λw=>La (k:=8) oQ w;generalize (if c=0 then a else a.map (·.add (0*1)))=a2 at *
 generalize aj.num (l.take 8)=N at *
 clear ht hs;go_enter func229,ntmps229;go_wp2_with ((with_reducible refine Wy ⟨?_⟩);refine adB ah ah hrun ?_);refine hg.mono ?_;rintro e w1 ⟨v,rfl,rfl,rfl⟩;go_wp2;go_ret;exact ⟨_,rfl,rfl,rfl⟩
theorem ak0 (x:Nat) (hx:x<18446744073709551616) (h:Sat w0 w F) :
  Calls prog 169 #[.int .u64 x,.int .i64 8] w (aP λv w'=>Sat w0 w' (bQ v (aj.le x 8)::F)/\∃ a,v=.slice a 8 8):=by
 have Hx:=uQ hx;clear hx;have hmk:∀ w,(Instr.makeSlice 39 (.int .i64 8) (.int .i64 8)).run prog w=.ok (.slice (some ⟨w.heap.size,0,none⟩) 8 8) (w.alloc (.cells #[.int .u8 0,.int .u8 0,.int .u8 0,.int .u8 0,.int .u8 0,.int .u8 0,.int .u8 0,.int .u8 0] 5)):=λw=>by kernel_rfl
 go_enter func169,ntmps169;go_wp2_with fail;have hA:=h.alloc (.cells #[.int .u8 0,.int .u8 0,.int .u8 0,.int .u8 0,.int .u8 0,.int .u8 0,.int .u8 0,.int .u8 0] 5);have hB:Sat w0 (w.alloc (.cells #[.int .u8 0,.int .u8 0,.int .u8 0,.int .u8 0,.int .u8 0,.int .u8 0,.int .u8 0,.int .u8 0] 5)) (bQ (.slice (some ⟨w.heap.size,0,none⟩) 8 8) [0,0,0,0,0,0,0,0]::F):=Sat.lN hA rfl (abl _) (abl _) zF0 rfl;obtain ⟨b0,b1,b2,b3,b4,b5,b6,b7,hb0,hb1,hb2,hb3,hb4,hb5,hb6,hb7,hle⟩:∃ b0 b1 b2 b3 b4 b5 b6 b7:UInt8,(x:Int)%256=b0.toNat/\(x:Int)/256%256=b1.toNat/\(x:Int)/65536%256=b2.toNat/\(x:Int)/16777216%256=b3.toNat/\(x:Int)/4294967296%256=b4.toNat/\(x:Int)/1099511627776%256=b5.toNat/\(x:Int)/281474976710656%256=b6.toNat/\(x:Int)/72057594037927936%256=b7.toNat/\aj.le x 8=[b0,b1,b2,b3,b4,b5,b6,b7]:=by
  refine ⟨_,_,_,_,_,_,_,_,?_,?_,?_,?_,?_,?_,?_,?_,rfl⟩
  all_goals (rw [ao6];omega)
 have qX:=uQ hle;clear hle hmk hA;generalize w.heap.size=q at *
 go_loopg [17] 8 (λg iq wr=>∃ (i:Nat) (l':Bs),g=8-i/\i<=8/\iq=.int .i64 i/\l'=(match i with|0=>[0,0,0,0,0,0,0,0]|1=>[b0,0,0,0,0,0,0,0]|2=>[b0,b1,0,0,0,0,0,0]|3=>[b0,b1,b2,0,0,0,0,0]|4=>[b0,b1,b2,b3,0,0,0,0]|5=>[b0,b1,b2,b3,b4,0,0,0]|6=>[b0,b1,b2,b3,b4,b5,0,0]|7=>[b0,b1,b2,b3,b4,b5,b6,0]|_=>[b0,b1,b2,b3,b4,b5,b6,b7])/\Sat w0 wr (bQ (.slice (some ⟨q,0,none⟩) 8 8) l'::F))
 case atStart=>exact ⟨0,_,rfl,by omega,rfl,rfl,hB⟩
 case round=>
  obtain ⟨i,l',rfl,hi,rfl,hl',hS⟩:=hrel;clear hB;obtain rfl|rfl|rfl|rfl|rfl|rfl|rfl|rfl|rfl:i=0\/i=1\/i=2\/i=3\/i=4\/i=5\/i=6\/i=7\/i=8:=by omega
  ·obtain rfl:l'=[0,0,0,0,0,0,0,0]:=hl';obtain ⟨g,he,e0,e1,hS5⟩:=sF (i:=0) hS yF0 b0;cases he;go_wp2_with fail
   go_roundg 7
   case measure=>omega
   case rel=>exact ⟨1,[b0,0,0,0,0,0,0,0],rfl,by omega,rfl,rfl,hS5⟩
  ·obtain rfl:l'=[b0,0,0,0,0,0,0,0]:=hl';obtain ⟨g,he,e0,e1,hS5⟩:=sF (i:=1) hS yF0 b1;cases he;go_wp2_with fail
   go_roundg 6
   case measure=>omega
   case rel=>exact ⟨2,[b0,b1,0,0,0,0,0,0],rfl,by omega,rfl,rfl,hS5⟩
  ·obtain rfl:l'=[b0,b1,0,0,0,0,0,0]:=hl';obtain ⟨g,he,e0,e1,hS5⟩:=sF (i:=2) hS yF0 b2;cases he;go_wp2_with fail
   go_roundg 5
   case measure=>omega
   case rel=>exact ⟨3,[b0,b1,b2,0,0,0,0,0],rfl,by omega,rfl,rfl,hS5⟩
  ·obtain rfl:l'=[b0,b1,b2,0,0,0,0,0]:=hl';obtain ⟨g,he,e0,e1,hS5⟩:=sF (i:=3) hS yF0 b3;cases he;go_wp2_with fail
   go_roundg 4
   case measure=>omega
   case rel=>exact ⟨4,[b0,b1,b2,b3,0,0,0,0],rfl,by omega,rfl,rfl,hS5⟩
  ·obtain rfl:l'=[b0,b1,b2,b3,0,0,0,0]:=hl';obtain ⟨g,he,e0,e1,hS5⟩:=sF (i:=4) hS yF0 b4;cases he;go_wp2_with fail
   go_roundg 3
   case measure=>omega
   case rel=>exact ⟨5,[b0,b1,b2,b3,b4,0,0,0],rfl,by omega,rfl,rfl,hS5⟩
  ·obtain rfl:l'=[b0,b1,b2,b3,b4,0,0,0]:=hl';obtain ⟨g,he,e0,e1,hS5⟩:=sF (i:=5) hS yF0 b5;cases he;go_wp2_with fail
   go_roundg 2
   case measure=>omega
   case rel=>exact ⟨6,[b0,b1,b2,b3,b4,b5,0,0],rfl,by omega,rfl,rfl,hS5⟩
  ·obtain rfl:l'=[b0,b1,b2,b3,b4,b5,0,0]:=hl';obtain ⟨g,he,e0,e1,hS5⟩:=sF (i:=6) hS yF0 b6;cases he;go_wp2_with fail
   go_roundg 1
   case measure=>omega
   case rel=>exact ⟨7,[b0,b1,b2,b3,b4,b5,b6,0],rfl,by omega,rfl,rfl,hS5⟩
  ·obtain rfl:l'=[b0,b1,b2,b3,b4,b5,b6,0]:=hl';obtain ⟨g,he,e0,e1,hS5⟩:=sF (i:=7) hS yF0 b7;cases he;go_wp2_with fail
   go_roundg 0
   case measure=>omega
   case rel=>exact ⟨8,[b0,b1,b2,b3,b4,b5,b6,b7],rfl,by omega,rfl,rfl,hS5⟩
  ·obtain rfl:l'=[b0,b1,b2,b3,b4,b5,b6,b7]:=hl';go_wp2;go_ret;exact ⟨_,rfl,by rw [qX.o];exact hS,_,rfl⟩
abbrev jI (p:Nat) (l:Xx.Ln) (rv:Value) (n:Nat):aG:=pt p (.cells #[.bool true,.int .u64 0,.int .u64 l.a,.int .u64 l.b,.int .u64 l.c,.int .u64 l.d,rv,.int .u64 n] 322 (0,0))
section
variable {l:Xx.Ln}
theorem aoP:jF prog 320=some (.agg #[.int .u64 0,.int .u64 0,.int .u64 0,.int .u64 0]):=by kernel_rfl
theorem akb (h:Sat w0 w F):Calls prog 208 #[.int .u64 0] w (aP λv w'=>∃ p,v=ptr p/\Sat w0 w' (jI p Xx.Ln.zero (.slice none 0 0) 0::F)):=by
 have hb1:∀ w,(Instr.build 322 #[(0,.bool true),(1,.int .u64 0)]).run prog w=.ok (.agg #[.bool true,.int .u64 0,.int .u64 0,.int .u64 0,.int .u64 0,.int .u64 0,.slice none 0 0,.int .u64 0]) w:=λw=>by kernel_rfl
 have hb2:∀ w,(Instr.build 320 #[(0,.int .u64 6983438078262162902),(1,.int .u64 14029467366897019727),(2,.int .u64 0),(3,.int .u64 7046029288634856825)]).run prog w=.ok (.agg #[.int .u64 6983438078262162902,.int .u64 14029467366897019727,.int .u64 0,.int .u64 7046029288634856825]) w:=λw=>by kernel_rfl
 go_enter func208,ntmps208
 go_wp2_with (first
  |((with_reducible refine fD ⟨?_⟩);refine fE h ah ah ?_;intro bB wB hB)
  |((with_reducible refine dh ⟨?_⟩);refine gq (v:= .agg #[.int .u64 6983438078262162902,.int .u64 14029467366897019727,.int .u64 0,.int .u64 7046029288634856825]) hB ah ah ah cZ aN au ah ?_;intro wS hS))
 go_ret;exact ⟨_,rfl,bB,rfl,hS⟩
theorem ai9 (hl:l.lt) (h:Sat w0 w (jI p l rv n::F)):Calls prog 230 #[ptr p] w (aP λv w'=>v=.int .u64 (Xx.joined l:Nat)/\Sat w0 w' (jI p l rv n::F)):=by
 obtain ⟨la,lb,lc,ld⟩:=l;obtain ⟨l1,l2,l3,l4⟩:=hl;simp only at l1 l2 l3 l4;obtain ⟨s1,s2,x0,f1,f2,f3,q5,hJ⟩:=ai8 ⟨la,lb,lc,ld⟩;simp only at f1 f2 f3 hJ;have HJ:=uQ hJ;have IG:=uQ (λ(w:World) (R:List aG) (hS:Sat w0 w R)=>an0 la l1 hS);have rZ:=uQ (λ(w:World) (R:List aG) (hS:Sat w0 w R)=>an4 lb l2 hS);have VN:=uQ (λ(w:World) (R:List aG) (hS:Sat w0 w R)=>anY lc l3 hS);have VO:=uQ (λ(w:World) (R:List aG) (hS:Sat w0 w R)=>anZ ld l4 hS);generalize Xx.turn la 1=ta at *
 generalize Xx.turn lb 7=tb at *
 generalize Xx.turn lc 12=tc at *
 generalize Xx.turn ld 18=td at *
 have Hq:=uQ q5;have Hf:=uQ (And.intro f1 (And.intro f2 f3));clear l1 l2 l3 l4 q5 f1 f2 f3 hJ;go_enter func230,ntmps230
 go_wp2_with (first
  |((with_reducible refine bP ⟨?_⟩);refine DY (b:=p) (o:=2) [.int .u64 la,.int .u64 lb,.int .u64 lc,.int .u64 ld] h ah aU (λj v hj=>by
    rcases j with _|_|_|_|j
    ·cases hj;rfl
    ·cases hj;rfl
    ·cases hj;rfl
    ·cases hj;rfl
    ·simp at hj) underlying320 rfl au ?_)
  |((with_reducible refine fB ⟨?_⟩);refine eF aoP h rfl ?_;intro b3 w3 h3)
  |((with_reducible refine dh ⟨?_⟩);refine fP #[.int .u64 la,.int .u64 lb,.int .u64 lc,.int .u64 ld] h3 ah ah ah cZ au ah ?_;intro w4 h4))
 have hS:=h4.drew;clear h h3 h4;refine dN [13,14,15] (λw'=>w'.cell? ⟨b3,0,none⟩=some (.int .u64 la)/\w'.cell? ⟨b3,1,none⟩=some (.int .u64 lb)/\w'.cell? ⟨b3,2,none⟩=some (.int .u64 lc)/\w'.cell? ⟨b3,3,none⟩=some (.int .u64 ld)) au ?_;have HG:=uQ (λ(w:World) (R:List aG) (hS:Sat w0 w (pt b3 (.cells #[.int .u64 la,.int .u64 lb,.int .u64 lc,.int .u64 ld] 320 (0,0))::R))=>show w.cell? ⟨b3,0,none⟩=some (.int .u64 la)/\w.cell? ⟨b3,1,none⟩=some (.int .u64 lb)/\w.cell? ⟨b3,2,none⟩=some (.int .u64 lc)/\w.cell? ⟨b3,3,none⟩=some (.int .u64 ld) from ⟨hS.cellAt 0 _ rfl,hS.cellAt 1 _ rfl,hS.cellAt 2 _ rfl,hS.cellAt 3 _ rfl⟩);have hG:=HG.o _ _ hS;refine rP 0 ?_ (y:=jJ);refine rt 1 (h:=?_);refine rP 3 ?_ (y:=jJ);refine rt 4 (h:=?_);refine rP 7 ?_ (y:=jJ);refine rt 8 (h:=?_);refine rP 11 ?_ (y:=jJ);refine rt 12 (h:=?_);clear hG
 refine bW 2 ak au (λK hK=>?_)
 (refine iC au ak ak ?_)
 refine (IG.o _ _ hS).mono ?_;rintro ee w5 ⟨v,rfl,rfl,h5⟩;refine hK _ _ (.inr (.inl (HG.o _ _ h5))) ?_;clear hK hS;refine bW 5 ak au (λK hK=>?_)
 (refine iC au ak ak ?_)
 refine (rZ.o _ _ h5).mono ?_;rintro ee w6 ⟨v,rfl,rfl,h6⟩;refine hK _ _ (.inr (.inl (HG.o _ _ h6))) ?_;clear hK h5;refine rp 6 (hy:=(BA ak ak (by intro wq;have f1:=Hf.o.1;(go_simp);first|done|exact wQ))) (h:=?_);refine bW 9 ak au (λK hK=>?_)
 (refine iC au ak ak ?_)
 refine (VN.o _ _ h6).mono ?_;rintro ee w7 ⟨v,rfl,rfl,h7⟩;refine hK _ _ (.inr (.inl (HG.o _ _ h7))) ?_;clear hK h6;refine rp 10 (hy:=(BA ak ak (by intro wq;have f2:=Hf.o.2.1;(go_simp);first|done|exact wQ))) (h:=?_);refine bW 13 ak au (λK hK=>?_)
 (refine iC au ak ak ?_)
 refine (VO.o _ _ h7).mono ?_;rintro ee w8 ⟨v,rfl,rfl,h8⟩;refine hK _ _ (.inl rfl) ?_;clear hK h7;refine rp 14 (hy:=(BA ak ak (by intro wq;have f3:=Hf.o.2.2;(go_simp);first|done|exact wQ))) (h:=?_);refine rP 15 ?_ (y:=iy);refine dH au ?_
 try simp only [kP]
 try go_frame
 clear IG rZ VN VO HG Hf
 as_aux_lemma=>
  go_wp2_with ((with_reducible refine bP ⟨?_⟩);refine iQ h8 ah aU underlying320 rfl au ?_)
  go_loopg [27,4] 4 (λg iq xq wr=>∃ (i x:Nat),g=4-i/\i<=4/\iq=.int .i64 i/\xq=.int .u64 (x:Nat)/\x<18446744073709551616/\((i=0->x=x0)/\(i=1->x=Xx.mix x0 la)/\(i=2->x=Xx.mix (Xx.mix x0 la) lb)/\(i=3->x=Xx.mix (Xx.mix (Xx.mix x0 la) lb) lc)/\(i=4->x=Xx.mix (Xx.mix (Xx.mix (Xx.mix x0 la) lb) lc) ld))/\Sat w0 wr (pt b3 (.cells #[.int .u64 la,.int .u64 lb,.int .u64 lc,.int .u64 ld] 320 (0,0))::jI p ⟨la,lb,lc,ld⟩ rv n::F))
  case atStart=>exact ⟨0,x0,rfl,by decide,rfl,rfl,Hq.o,⟨λ_=>rfl,λh=>absurd h aN,λh=>absurd h aN,λh=>absurd h aN,λh=>absurd h aN⟩,h8⟩
  case round=>
   obtain ⟨i,x,rfl,hi,rfl,rfl,hx,hxe,hS⟩:=hrel;clear h8;obtain rfl|rfl|rfl|rfl|rfl:i=0\/i=1\/i=2\/i=3\/i=4:=by omega
   ·as_aux_lemma=>
    have hlc:Calls prog 228 #[.int .u64 0,.int .u64 la] wr (aP λv w'=>v=.int .u64 (Xx.lane 0 la:Nat)/\Sat w0 w' _):=wP 0 la hS;have hix:∀ w,(Instr.index 320 (.agg #[.int .u64 la,.int .u64 lb,.int .u64 lc,.int .u64 ld]) (.int .i64 0)).run prog w=.ok (.int .u64 la) w:=λw=>by kernel_rfl
    obtain ⟨y,z,u,g1,g2,g3,hu,hm⟩:=J5 hx la;generalize Xx.lane 0 la=t at *
    have Hu:=uQ hu;have zC:=uQ hm;have zL:=uQ (hxe.1 rfl);clear hx hm hu hxe hS;go_wp2_with fail;refine hlc.mono ?_;rintro ee w9 ⟨v,rfl,rfl,h9⟩;clear hlc;go_wp2
    go_roundg 3
    case measure=>omega
    case rel=>exact ⟨1,u,rfl,by decide,rfl,rfl,Hu.o,⟨λh=>absurd h aN,λ_=>by rw [<-zC.o,zL.o],λh=>absurd h aN,λh=>absurd h aN,λh=>absurd h aN⟩,h9⟩
   ·as_aux_lemma=>
    have hlc:Calls prog 228 #[.int .u64 0,.int .u64 lb] wr (aP λv w'=>v=.int .u64 (Xx.lane 0 lb:Nat)/\Sat w0 w' _):=wP 0 lb hS;have hix:∀ w,(Instr.index 320 (.agg #[.int .u64 la,.int .u64 lb,.int .u64 lc,.int .u64 ld]) (.int .i64 1)).run prog w=.ok (.int .u64 lb) w:=λw=>by kernel_rfl
    obtain ⟨y,z,u,g1,g2,g3,hu,hm⟩:=J5 hx lb;generalize Xx.lane 0 lb=t at *
    have Hu:=uQ hu;have zC:=uQ hm;have zL:=uQ (hxe.2.1 rfl);clear hx hm hu hxe hS;go_wp2_with fail;refine hlc.mono ?_;rintro ee w9 ⟨v,rfl,rfl,h9⟩;clear hlc;go_wp2
    go_roundg 2
    case measure=>omega
    case rel=>exact ⟨2,u,rfl,by decide,rfl,rfl,Hu.o,⟨λh=>absurd h aN,λh=>absurd h aN,λ_=>by rw [<-zC.o,zL.o],λh=>absurd h aN,λh=>absurd h aN⟩,h9⟩
   ·as_aux_lemma=>
    have hlc:Calls prog 228 #[.int .u64 0,.int .u64 lc] wr (aP λv w'=>v=.int .u64 (Xx.lane 0 lc:Nat)/\Sat w0 w' _):=wP 0 lc hS;have hix:∀ w,(Instr.index 320 (.agg #[.int .u64 la,.int .u64 lb,.int .u64 lc,.int .u64 ld]) (.int .i64 2)).run prog w=.ok (.int .u64 lc) w:=λw=>by kernel_rfl
    obtain ⟨y,z,u,g1,g2,g3,hu,hm⟩:=J5 hx lc;generalize Xx.lane 0 lc=t at *
    have Hu:=uQ hu;have zC:=uQ hm;have zL:=uQ (hxe.2.2.1 rfl);clear hx hm hu hxe hS;go_wp2_with fail;refine hlc.mono ?_;rintro ee w9 ⟨v,rfl,rfl,h9⟩;clear hlc;go_wp2
    go_roundg 1
    case measure=>omega
    case rel=>exact ⟨3,u,rfl,by decide,rfl,rfl,Hu.o,⟨λh=>absurd h aN,λh=>absurd h aN,λh=>absurd h aN,λ_=>by rw [<-zC.o,zL.o],λh=>absurd h aN⟩,h9⟩
   ·as_aux_lemma=>
    have hlc:Calls prog 228 #[.int .u64 0,.int .u64 ld] wr (aP λv w'=>v=.int .u64 (Xx.lane 0 ld:Nat)/\Sat w0 w' _):=wP 0 ld hS;have hix:∀ w,(Instr.index 320 (.agg #[.int .u64 la,.int .u64 lb,.int .u64 lc,.int .u64 ld]) (.int .i64 3)).run prog w=.ok (.int .u64 ld) w:=λw=>by kernel_rfl
    obtain ⟨y,z,u,g1,g2,g3,hu,hm⟩:=J5 hx ld;generalize Xx.lane 0 ld=t at *
    have Hu:=uQ hu;have zC:=uQ hm;have zL:=uQ (hxe.2.2.2.1 rfl);clear hx hm hu hxe hS;go_wp2_with fail;refine hlc.mono ?_;rintro ee w9 ⟨v,rfl,rfl,h9⟩;clear hlc;go_wp2
    go_roundg 0
    case measure=>omega
    case rel=>exact ⟨4,u,rfl,by decide,rfl,rfl,Hu.o,⟨λh=>absurd h aN,λh=>absurd h aN,λh=>absurd h aN,λh=>absurd h aN,λ_=>by rw [<-zC.o,zL.o]⟩,h9⟩
   ·have Hx:=uQ (show x=Xx.joined ⟨la,lb,lc,ld⟩ by rw [HJ.o];exact hxe.2.2.2.2 rfl);clear hxe hx;go_wp2;go_ret;exact ⟨_,rfl,by rw [Hx.o];rfl,hS.drop⟩
end
theorem Pe (l:Bs) (hl:l.length=4) (a:Option Addr) (c:Nat) (h:bF 1 (.slice a 4 c) (aA l) w) :
  Calls prog 144 #[.slice a 4 c] w (aP λv w'=>v=.tuple #[.int .u64 (aj.num l:Nat),.bool true]/\w=w'):=Yr l hl a c h
theorem ajm (x:Nat) (h:Sat w0 w F):Calls prog 228 #[.int .u64 0,.int .u64 x] w (aP λv w'=>v=.int .u64 (Xx.lane 0 x:Nat)/\Sat w0 w' F):=wP 0 x h
theorem yc (hr:RS w0 F bv l) (h:Sat w0 w F){k:Nat} (hk:k<=l.length):∃ a c a2 c2,bv=.slice a l.length c/\l.length<=c/\c<=9223372036854775807/\(∀ w,(Instr.sliceAt 39 (.slice a l.length c) (some (.int .i64 k)) none none).run prog w=.ok (.slice a2 (l.drop k).length c2) w)/\RS w0 F (.slice a2 (l.drop k).length c2) (l.drop k):=by
 obtain ⟨a,c,rfl,h1,h2⟩:=hr.len h;have hs:=hr.from hk;obtain ⟨a2,c2,he,h3,h4⟩:=hs.len h;refine ⟨a,c,a2,c2,rfl,h1,h2,λw=>?_,by rw [<-he];exact hs⟩;rw [<-he];exact acB hk w
theorem agz (hr:RS w0 F bv l) (h:Sat w0 w F){k:Nat} (hk:k<=l.length):∃ a c a2 c2,bv=.slice a l.length c/\l.length<=c/\c<=9223372036854775807/\(∀ w,(Instr.sliceAt 39 (.slice a l.length c) none (some (.int .i64 k)) none).run prog w=.ok (.slice a2 k c2) w)/\RS w0 F (.slice a2 k c2) (l.take k):=by
 obtain ⟨a,c,rfl,h1,h2⟩:=hr.len h;have hs:=hr.to hk c oQ (abl c);obtain ⟨a2,c2,he,h3,h4⟩:=hs.len h;have e:(l.take k).length=k:=by rw [ads];omega
 rw [e]at he;refine ⟨a,c,a2,c2,rfl,h1,h2,λw=>?_,by rw [<-he];exact hs⟩;rw [<-he];exact La oQ w
theorem aoH (x:Nat) (hx:x<18446744073709551616) (l:Bs) (hl:l.length<=1073741824) (hr:RS w0 F bv l) (h:Sat w0 w F):Calls prog 231 #[.int .u64 x,bv] w (aP λv w'=>v=.int .u64 (Xx.tail x l:Nat)/\Sat w0 w' F):=by
 obtain ⟨ba,bc,rfl,hb1,hb2⟩:=hr.len h;have Hr:=uQ hr;have Hx:=uQ hx;have Hl:=uQ hl;clear hr hx hl hb1 hb2;go_enter func231,ntmps231;go_wp2_with fail
 go_loopg [0,1] l.length (λg xq bq wr=>∃ (y:Nat) (m:Bs),g=m.length/\m.length<=l.length/\xq=.int .u64 (y:Nat)/\y<18446744073709551616/\RS w0 F bq m/\Xx.lT l.length x l=Xx.lT m.length y m/\Sat w0 wr F)
 case atStart=>exact ⟨x,l,rfl,abl _,rfl,Hx.o,Hr.o,rfl,h⟩
 case round=>
  obtain ⟨y,m,rfl,hml,rfl,hy,hRS,heq,hS⟩:=hrel;clear h;by_cases h8:8<=m.length
  ·as_aux_lemma=>
   obtain ⟨a,c,a2,c2,rfl,k1,k2,hrun,YN⟩:=yc hRS hS h8;have hwd:=GX m h8 hRS hS;have hst:Xx.lT m.length y m=Xx.lT (m.drop 8).length (Xx.t8 y (aj.num (m.take 8))) (m.drop 8):=by rw [Xx.anN h8 (abl _),ad3]
   generalize aj.num (m.take 8)=N at *
   have hln:=uQ (λ(w:World) (hS:Sat w0 w F)=>ajm N hS);obtain ⟨r,z,u,g1,hr1,g3,g4,hu,Zx⟩:=anI hy N;generalize Xx.lane 0 N=t at *
   have htu:=uQ (λ(w:World) (hS:Sat w0 w F)=>an2 r hr1 hS);generalize Xx.turn r 27=s at *
   rw [Zx]at hst;have Zf:(m.drop 8).length<m.length:=by rw [ad3];omega
   generalize m.drop 8=m2 at *
   have c1:(8:Int)<=(m.length:Int):=oQ;have Hu:=uQ hu;have nD:=uQ (heq.trans hst);have HR:=uQ YN;have bT:=uQ (And.intro Zf hml);clear hu hr1 hst Zx heq YN hRS Zf hml hy k1 k2 h8;go_wp2_with fail;refine hwd.mono ?_;rintro ee w2 ⟨v,rfl,rfl,rfl⟩;clear hwd;go_wp2_with fail;refine (hln.o _ hS).mono ?_;rintro ee w3 ⟨v,rfl,rfl,h3⟩;clear hln hS;go_wp2_with fail;refine (htu.o _ h3).mono ?_;rintro ee w4 ⟨v,rfl,rfl,h4⟩;clear htu h3;go_wp2_with ((with_reducible refine I8 ⟨?_⟩);refine MB ah ah hrun ?_)
   go_roundg m2.length
   case measure=>exact bT.o.1
   case rel=>exact ⟨u,m2,rfl,by have:=bT.o;omega,rfl,Hu.o,HR.o,nD.o,h4⟩
  ·have hst:Xx.lT l.length x l=(y,m):=heq.trans (Xx.anO h8);have hT:Xx.tail x l=(Xx.tail4 y m).2.foldl Xx.t1 (Xx.tail4 y m).1:=by unfold Xx.tail;rw [hst]
   have hl2:m.length<=1073741824:=adt hml Hl.o;have c1:¬ (8:Int)<=(m.length:Int):=oQ;clear heq hst h8 hml;by_cases h4:4<=m.length
   ·have e4:Xx.tail4 y m=(Xx.t4 y (aj.num (m.take 4)),m.drop 4):=by unfold Xx.tail4;rw [acg h4]
    rw [e4]at hT;obtain ⟨a,c,a2,c2,rfl,k1,k2,hrunT,YP⟩:=agz hRS hS h4;obtain ⟨a',c',a3,c3,he,_,_,Fv,YO⟩:=yc hRS hS h4;cases he;have hgt:=Pe (m.take 4) (by rw [ads];omega) a2 c2 (YP.rd _ hS);obtain ⟨t,r,z,u,g0,g1,hr1,g3,g4,hu,Zw⟩:=anG hy (aj.num (m.take 4));rw [Zw]at hT;generalize aj.num (m.take 4)=N at *
    have htu:=an1 r hr1 hS;generalize Xx.turn r 23=s at *
    have hl4:(m.drop 4).length<=1073741824:=by rw [ad3];omega
    have WR:(4:Int)<=(m.length:Int):=oQ;dsimp only at hT;generalize m.drop 4=m2 at *
    have Hu:=uQ hu;have HT:=uQ hT;have HR:=uQ YO;clear hu hr1 hT Zw hRS YP YO hy k1 k2 h4 e4 hl2
    go_wp2_with (first
     |((with_reducible refine Wy ⟨?_⟩);refine adB ah ah hrunT ?_))
    refine hgt.mono ?_;rintro ee w2 ⟨v,rfl,rfl,rfl⟩;clear hgt;go_wp2_with fail;refine htu.mono ?_;rintro ee w3 ⟨v,rfl,rfl,h3⟩;clear htu hS;go_wp2_with ((with_reducible refine I8 ⟨?_⟩);refine MB ah ah Fv ?_);clear c1 WR g0 g1 g3 g4 hrunT Fv;have Hm:=uQ (show m2.length<=1073741824 from by omega);have kN:=uQ HR.o;have HE:=uQ HT.o;have Hy:=uQ Hu.o;go_wp2_with fail
    go_loopg [0,42] m2.length (λg xq iq wr=>∃ (i z:Nat),g=m2.length-i/\i<=m2.length/\xq=.int .u64 (z:Nat)/\iq=.int .i64 i/\z<18446744073709551616/\z=(m2.take i).foldl Xx.t1 u/\Sat w0 wr F)
    case atStart=>exact ⟨0,u,rfl,aea _,rfl,rfl,Hy.o,rfl,h3⟩
    case round=>
     obtain ⟨i,z,rfl,hi,rfl,rfl,hz,hze,jW⟩:=hrel;by_cases hi':i<m2.length
     ·as_aux_lemma=>
      have hb:(aA m2)[i]?=some (.int .u8 (m2[i]'hi').toNat):=by unfold aA;simp [hi']
      obtain ⟨bk,off,rfl,c1⟩:=Du (kN.o.rd _ jW) hb;have hic:(i:Int)<(m2.length:Int):=oQ;have hwi:IntKind.i64.wrap ((i:Int)+1)=(i:Int)+1:=adr _ (by have:=Hm.o;omega);have hnx:(m2.take (i+1)).foldl Xx.t1 u=Xx.t1 z (m2[i]'hi'):=by rw [ahI hi',apv,<-hze,List.foldl_cons,List.foldl_nil]
      have hcb:=(m2[i]'hi').toNat_lt;obtain ⟨q,r,u,g1,g2,hr,g3,hu,FB⟩:=acX hz (m2[i]'hi');rw [FB]at hnx;have ht1:=hnx;clear hnx hb FB;generalize (m2[i]'hi').toNat=cb at *
      have htu:=ac3 r hr jW;generalize Xx.turn r 11=s at *
      have hcm:IntKind.u64.wrap (cb:Int)=(cb:Int):=by rw [ajd];omega
      have Hu:=uQ hu;have N9:=uQ ht1;have Hi:=uQ hi';clear hu hr ht1 hze hz hcb hi hi';go_wp2_with fail;refine htu.mono ?_;rintro ee w9 ⟨v,rfl,rfl,h9⟩;clear htu jW;go_wp2
      go_roundg (m2.length-(i+1))
      case measure=>have:=Hi.o;omega
      case rel=>exact ⟨i+1,u,rfl,aec Hi.o,rfl,by first|rfl|go_num,Hu.o,N9.o.symm,h9⟩
     ·as_aux_lemma=>
      obtain rfl:i=m2.length:=by omega
      have hic:¬ (m2.length:Int)<(m2.length:Int):=oQ;rw [aeo]at hze;have Hf:=uQ (show Xx.tail x l=z by rw [HE.o,hze]);clear hze hz hi hi';go_wp2;go_ret;exact ⟨_,rfl,by first|(rw [Hf.o];rfl)|(rw [<-HE.o,Hf.o];rfl),jW⟩
   ·have e4:Xx.tail4 y m=(y,m):=by unfold Xx.tail4;rw [abj h4]
    rw [e4]at hT;dsimp only at hT;obtain ⟨a,c,rfl,k1,k2⟩:=hRS.len hS;have WR:¬ (4:Int)<=(m.length:Int):=oQ;have HT:=uQ hT;clear e4 h4 k1 k2 hT;have Hm:=uQ (show m.length<=1073741824 from by omega);have kN:=uQ hRS;have HE:=uQ HT.o;have Hy:=uQ hy;go_wp2_with fail
    go_loopg [0,42] m.length (λg xq iq wr=>∃ (i z:Nat),g=m.length-i/\i<=m.length/\xq=.int .u64 (z:Nat)/\iq=.int .i64 i/\z<18446744073709551616/\z=(m.take i).foldl Xx.t1 y/\Sat w0 wr F)
    case atStart=>exact ⟨0,y,rfl,aea _,rfl,rfl,Hy.o,rfl,hS⟩
    case round=>
     obtain ⟨i,z,rfl,hi,rfl,rfl,hz,hze,jW⟩:=hrel;by_cases hi':i<m.length
     ·as_aux_lemma=>
      have hb:(aA m)[i]?=some (.int .u8 (m[i]'hi').toNat):=by unfold aA;simp [hi']
      obtain ⟨bk,off,rfl,c1⟩:=Du (kN.o.rd _ jW) hb;have hic:(i:Int)<(m.length:Int):=oQ;have hwi:IntKind.i64.wrap ((i:Int)+1)=(i:Int)+1:=adr _ (by have:=Hm.o;omega);have hnx:(m.take (i+1)).foldl Xx.t1 y=Xx.t1 z (m[i]'hi'):=by rw [ahI hi',apv,<-hze,List.foldl_cons,List.foldl_nil]
      have hcb:=(m[i]'hi').toNat_lt;obtain ⟨q,r,u,g1,g2,hr,g3,hu,FB⟩:=acX hz (m[i]'hi');rw [FB]at hnx;have ht1:=hnx;clear hnx hb FB;generalize (m[i]'hi').toNat=cb at *
      have htu:=ac3 r hr jW;generalize Xx.turn r 11=s at *
      have hcm:IntKind.u64.wrap (cb:Int)=(cb:Int):=by rw [ajd];omega
      have Hu:=uQ hu;have N9:=uQ ht1;have Hi:=uQ hi';clear hu hr ht1 hze hz hcb hi hi';go_wp2_with fail;refine htu.mono ?_;rintro ee w9 ⟨v,rfl,rfl,h9⟩;clear htu jW;go_wp2
      go_roundg (m.length-(i+1))
      case measure=>have:=Hi.o;omega
      case rel=>exact ⟨i+1,u,rfl,aec Hi.o,rfl,by first|rfl|go_num,Hu.o,N9.o.symm,h9⟩
     ·as_aux_lemma=>
      obtain rfl:i=m.length:=by omega
      have hic:¬ (m.length:Int)<(m.length:Int):=oQ;rw [aeo]at hze;have Hf:=uQ (show Xx.tail x l=z by rw [HE.o,hze]);clear hze hz hi hi';go_wp2;go_ret;exact ⟨_,rfl,by first|(rw [Hf.o];rfl)|(rw [<-HE.o,Hf.o];rfl),jW⟩
abbrev je (p:Nat) (rv:Value):aG:=pt p (.cells #[rv,errno 0,.bool true] 332 (0,0))
section
variable {k:Nat}{m:Bs}
theorem abY (hl:l.length<=140737488355328) (hr:RS w0 F bv l) (h:Sat w0 w F):Calls prog 214 #[bv] w (aP λv w'=>∃ p rv,v=ptr p/\Sat w0 w' (je p rv::bQ rv l::F)/\RS w0 (bQ rv l::F) rv l):=by
 obtain ⟨ba,bc,rfl,_,_⟩:=hr.len h;have hc:=wI h (hr.rd w h) hl;clear hr;go_enter func214,ntmps214;go_wp2_with fail;refine hc.mono ?_;rintro ee w1 ⟨v,rfl,h1,a1,n1,c1,rfl⟩;clear hc h;have hb1:∀ w,(Instr.build 332 #[(0,.slice a1 n1 c1),(2,.bool true)]).run prog w=.ok (.agg #[.slice a1 n1 c1,.int .i64 0,.bool true]) w:=λw=>by kernel_rfl
 go_wp2_with ((with_reducible refine fD ⟨?_⟩);refine fE h1 ah ah ?_;intro bB wB hB);go_ret;exact ⟨_,rfl,bB,_,rfl,hB,RS.Kz hB.drop⟩
theorem abQ (h:Sat w0 w (je p rv::F)):Calls prog 241 #[ptr p] w (aP λv w'=>v=errno 0/\w=w'):=by
 have c1:w.cell? ⟨p,1,none⟩=some (errno 0):=h.cellAt 1 _ rfl;have c2:w.cell? ⟨p,2,none⟩=some (.bool true):=h.cellAt 2 _ rfl;go_enter func241,ntmps241;go_wp2;go_ret;exact ⟨_,rfl,rfl,rfl⟩
theorem SY (hk:k<=m.length) (hr:RS w0 F rv m) (h:Sat w0 w (je p rv::F)):Calls prog 240 #[ptr p,.int .i64 k] w (aP λv w'=>∃ ta tc ra rc,v=.tuple #[.slice ta k tc,.bool true]/\RS w0 F (.slice ta k tc) (m.take k)/\(∀ F0,RS w0 F0 rv m->RS w0 F0 (.slice ra (m.drop k).length rc) (m.drop k))/\Sat w0 w' (je p (.slice ra (m.drop k).length rc)::F)):=by
 obtain ⟨ba,bc,ra,rc,rfl,h1,h2,Fv,_⟩:=yc hr h.drop hk;have yD:∀ F0,RS w0 F0 (.slice ba m.length bc) m->RS w0 F0 (.slice ra (m.drop k).length rc) (m.drop k):=λF0 h0=>by
  have e:=(acB (a:=ba) (c:=bc) hk w).symm.trans (Fv w);have e2:sliced ba k m.length bc 1=.slice ra (m.drop k).length rc:=by injection e
  rw [<-e2];exact h0.from hk
 have JJ:=hr.to hk k (abl k) oQ;obtain ⟨ta,tc,he,_,_⟩:=JJ.len h.drop;rw [show (m.take k).length=k by rw [ads];omega]at he;have hrunT:∀ w,(Instr.sliceAt 39 (.slice ba m.length bc) none (some (.int .i64 k)) (some (.int .i64 k))).run prog w=.ok (.slice ta k tc) w:=λw=>by rw [<-he];exact amw oQ w
 rw [he]at JJ;have her:=abQ h;have c0:¬ (k:Int)<0:=oQ;have c0d:decide ((k:Int)<0)=false:=ad2 c0;have c1:¬ (m.length:Int)<(k:Int):=oQ;have c1d:decide ((m.length:Int)<(k:Int))=false:=ad2 c1;have HT:=uQ JJ;have HF:=uQ yD;clear hr JJ yD he h1 h2 hk;generalize (m.drop k).length=q at *
 go_enter func240,ntmps240;go_wp2_with fail;refine her.mono ?_;rintro ee w1 ⟨v,rfl,rfl,rfl⟩;clear her
 go_wp2_with (first
  |((with_reducible refine bP ⟨?_⟩);refine fZ h ah aU bI ak au ?_)
  |((with_reducible refine afs ⟨?_⟩);refine aou ah ah ah hrunT ?_)
  |((with_reducible refine I8 ⟨?_⟩);refine MB ah ah Fv ?_)
  |((with_reducible refine dh ⟨?_⟩);refine gq (v:= .slice ra q rc) h ah ah ah cZ (by exact Nat.le_of_ble_eq_true ah) au ah ?_;intro w2 h2))
 go_ret2
 exact ⟨_,rfl,ta,tc,ra,rc,rfl,HT.o,HF.o,h2⟩
theorem aar {p : Prop} (h : p := by
 have her:=abQ h;have htk:=SY (k:=Bg) hk hr h;have Hl:=uQ (show (m.take Bg).length=Bg by rw [ads];((try simp only [Bg] at *);omega));clear hr hk;go_enter func216,ntmps216;go_wp2_with fail;refine her.mono ?_;rintro ee w1 ⟨v,rfl,rfl,rfl⟩;clear her;go_wp2_with fail;refine htk.mono ?_;rintro ee w2 ⟨v,rfl,ta,tc,ra,rc,rfl,hT,hF,h2⟩;have hg:=adi (m.take Bg) Hl.o ta tc (hT.rd w2 h2.drop);have HF:=uQ hF;obtain ⟨N,hN⟩:∃ N,Hid (aj.num (m.take Bg)=N):=⟨_,uQ rfl⟩;rw [hN.o]at hg;clear htk h hT hF Hl;go_wp2_with fail;refine hg.mono ?_;rintro ee w3 ⟨v,rfl,rfl,rfl⟩;clear hg;go_wp2;go_ret;exact ⟨_,rfl,_,by rw [hN.o];rfl,HF.o,h2⟩) : p := h
abbrev fH.Bg:Nat:=4
theorem fH.adi:type_of% @Pe:=@Pe
open fH in
theorem KO (hk:4<=m.length) (hr:RS w0 F rv m) (h:Sat w0 w (je p rv::F)):Calls prog 216 #[ptr p,.int .i64 4] w (aP λv w'=>∃ rv',v=.int .u64 (aj.num (m.take 4):Nat)/\(∀ F0,RS w0 F0 rv m->RS w0 F0 rv' (m.drop 4))/\Sat w0 w' (je p rv'::F)):=aar
abbrev fJ.Bg:Nat:=8
theorem fJ.adi:type_of% @Pg:=@Pg
open fJ in
theorem abX (hk:8<=m.length) (hr:RS w0 F rv m) (h:Sat w0 w (je p rv::F)):Calls prog 216 #[ptr p,.int .i64 8] w (aP λv w'=>∃ rv',v=.int .u64 (aj.num (m.take 8):Nat)/\(∀ F0,RS w0 F0 rv m->RS w0 F0 rv' (m.drop 8))/\Sat w0 w' (je p rv'::F)):=aar
theorem alk (hk:32<=m.length) (hr:RS w0 F rv m) (h:Sat w0 w (je p rv::F)):Calls prog 242 #[ptr p,.int .i64 32] w (aP λv w'=>∃ rv',(∀ F0,RS w0 F0 rv m->RS w0 F0 rv' (m.drop 32))/\(∃ a n c,v=.slice a n c)/\Sat w0 w' (bQ v (m.take 32)::je p rv'::F)):=by
 have htk:=SY (k:=32) hk hr h;have Hl:=uQ (show (m.take 32).length<=140737488355328 by rw [ads];omega);clear hr hk;go_enter func242,ntmps242;go_wp2_with fail;refine htk.mono ?_;rintro ee w2 ⟨v,rfl,ta,tc,ra,rc,rfl,hT,hF,h2⟩;have hc:=wI h2 (hT.rd w2 h2.drop) Hl.o;have HF:=uQ hF;clear htk h hT hF;go_wp2_with fail;refine hc.mono ?_;rintro ee w3 ⟨v,rfl,h3,a3,n3,c3,rfl⟩;clear hc;go_wp2;go_ret;exact ⟨_,rfl,_,HF.o,⟨_,_,_,rfl⟩,h3⟩
theorem amB (hr:RS w0 F bv m) (h:Sat w0 w F) (hm:0<m.length):(convert 39 9 bv).run prog w=.ok (.string ⟨m.toArray⟩) w:=by
 obtain ⟨a,c,rfl,_,_⟩:=hr.len h;obtain ⟨bk,off,rfl,hc⟩:=pI (hr.rd w h) (i:=0) (x9.2 ⟨m[0],aay hm,rfl⟩);refine run_convert_bytes_back (P:=prog) w _ _ 5 _ c m underlying39 underlying5 underlying9 (λj hj=>?_);have:=hc j _ (x9.2 ⟨m[j],aay hj,rfl⟩);rw [Addr.add_mid];exact this
theorem ach (hk:8<=m.length) (hr:RS w0 F rv m) (h:Sat w0 w (je p rv::F)):Calls prog 215 #[ptr p,.int .i64 8] w (aP λv w'=>∃ rv',v=.string ⟨(m.take 8).toArray⟩/\(∀ F0,RS w0 F0 rv m->RS w0 F0 rv' (m.drop 8))/\Sat w0 w' (je p rv'::F)):=by
 have htk:=SY (k:=8) hk hr h;have Hl:=uQ (show 0<(m.take 8).length by rw [ads];omega);clear hr hk;go_enter func215,ntmps215;go_wp2_with fail;refine htk.mono ?_;rintro ee w2 ⟨v,rfl,ta,tc,ra,rc,rfl,hT,hF,h2⟩;have hcv:=amB hT h2.drop Hl.o;have HF:=uQ hF;clear htk h hT hF;go_wp2;go_ret;exact ⟨_,rfl,_,rfl,HF.o,h2⟩
end
end Go.Proofs.Y
namespace Go.aT
open Go.aj (Bs le num jk AB)
structure Rw where
 key:Bs
 nums:List Int
def jv (ns:List Int):Bs:=ns.flatMap λn=>le n.toNat 4
def rowB (kd:Bool) (r:Rw):Bs:=(if kd then r.key else [])++jv r.nums
def jP (kd:Bool) (l:List Rw):Bs:=l.flatMap (rowB kd)
def body (mg:Bs) (kd:Bool) (l:List Rw):Bs:=mg++le l.length 4++jP kd l
def book (X:Bs->Nat) (mg:Bs) (kd:Bool) (l:List Rw):Bs:=body mg kd l++le (X (body mg kd l)) 8
structure xQ (k:Nat) (r:Rw):Prop where
 key:r.key.length=32
 len:r.nums.length=k
 num:∀ n∈r.nums,0<=n/\n<=4294967295
def ahead (kd:Bool) (a b:Rw):Prop:=if kd then a.key<b.key else a.nums.getD 0 0<b.nums.getD 0 0
instance (kd:Bool) (a b:Rw):Decidable (ahead kd a b):=by unfold ahead;infer_instance
def VT (kd:Bool) (l:List Rw):Prop:=∀ i a b,l[i]?=some a->l[i+1]?=some b->ahead kd a b
structure Ok (k:Nat) (kd:Bool) (l:List Rw):Prop where
 len:l.length<=65536
 row:∀ r∈l,xQ k r
 rise:VT kd l
section
variable {X:Bs->Nat}{mg:Bs}{kd:Bool}{l:List Rw}{r:Rw}{k i:Nat}{n:Int}{ns:List Int}
theorem aa1:jv []=[]:=rfl
theorem Q5 (n:Int) (ns:List Int):jv (n::ns)=le n.toNat 4++jv ns:=rfl
theorem akm (a b:List Int):jv (a++b)=jv a++jv b:=by unfold jv;rw [aeB]
theorem aa0 (ns:List Int):(jv ns).length=4*ns.length:=by
 induction ns with
 |nil=>rfl
 |cons n ns ih=>rw [Q5,aaL,jk,ih,aep];omega
theorem Sr:jP kd []=[]:=rfl
theorem Sj (r:Rw) (l:List Rw):jP kd (r::l)=rowB kd r++jP kd l:=rfl
theorem alK (a b:List Rw):jP kd (a++b)=jP kd a++jP kd b:=by unfold jP;rw [aeB]
def jL (kd:Bool) (k:Nat):Nat:=4*k+if kd then 32 else 0
theorem alJ (h:xQ k r):(rowB kd r).length=jL kd k:=by
 unfold rowB jL;rw [aaL,aa0,h.len];cases kd
 ·simp
 ·rw [acg rfl,acg rfl,h.key];omega
theorem Sm:∀ (l:List Rw),(∀ r∈l,xQ k r)->(jP kd l).length=l.length*jL kd k
 |[],_=>by simp [Sr]
 |r::l,h=>by
  rw [Sj,aaL,alJ (h r (.head _)),Sm l (λx hx=>h x (.tail _ hx)),aep,akH];omega
theorem BR (hm:mg.length=8) (h:∀ r∈l,xQ k r):(body mg kd l).length=12+l.length*jL kd k:=by
 unfold body;rw [aaL,aaL,hm,jk,Sm l h]
theorem x8 (hm:mg.length=8) (h:∀ r∈l,xQ k r):(book X mg kd l).length=20+l.length*jL kd k:=by
 unfold book;rw [aaL,BR hm h,jk];omega
theorem KP (hk:k<=3):jL kd k<=44:=by unfold jL;split <;> omega
theorem afO (hm:mg.length=8) (hk:k<=3) (h:Ok k kd l):(body mg kd l).length<=3000000:=by
 rw [BR hm h.row];have h1:=h.len;have h2:l.length*jL kd k<=65536*44:=an9 h1 (KP hk);omega
theorem aaS (h:0<=n/\n<=4294967295):num (le n.toNat 4)=n.toNat:=by
 refine AB 4 _ ?_;have:(256:Nat)^4=4294967296:=by decide
 rw [this];omega
theorem TR (x:Nat) (t:Bs):(le x 4++t).take 4=le x 4:=by rw [aeC (by rw [jk];omega),ad9 (by rw [jk];omega)]
theorem Jj (x:Nat) (t:Bs):(le x 4++t).drop 4=t:=by
 rw [apU,jk,aew (by rw [jk];omega),ajN,apN,aeu]
theorem XB {α:Type}{l:List α}{x:α} (h:l[i]?=some x):l.drop i=x::l.drop (i+1):=by
 obtain ⟨hi,rfl⟩:=abm.1 h;exact ah3 hi
theorem kY {α:Type}{l:List α}{x:α} (h:l[i]?=some x):l.take (i+1)=l.take i++[x]:=by
 obtain ⟨hi,rfl⟩:=abm.1 h;exact ahI hi
theorem alL (h:l[i]?=some r):jP kd (l.take (i+1))=jP kd (l.take i)++rowB kd r:=by
 rw [kY h,alK,Sj,Sr,adV]
theorem akn {j:Nat} (h:ns[j]?=some n):jv (ns.take (j+1))=jv (ns.take j)++le n.toNat 4:=by
 rw [kY h,akm,Q5,aa1,adV]
theorem ab3 (h:l[i]?=some r):jP kd (l.drop i)=rowB kd r++jP kd (l.drop (i+1)):=by rw [XB h,Sj]
theorem aaZ {j:Nat} (h:ns[j]?=some n):jv (ns.drop j)=le n.toNat 4++jv (ns.drop (j+1)):=by rw [XB h,Q5]
def qL:Bs:=[72,79,65,82,68,73,68,88]
def qM:Bs:=[72,79,65,82,68,85,83,69]
end
end Go.aT
