import Derived.Test.YtihngncbioofnaaGreatDoorJ10
set_option maxRecDepth 20000
set_option linter.unusedVariables false
set_option maxHeartbeats 128000000
namespace Go.Proofs.YtihngncbioofnaaGreatDoor
open Go Go.Sl Go.ay Go.MapKept Go.RowKit
section
variable {w0 w:World}{F:List aH}{p m K r ps pn B:Nat}{L:Seg.Log}{M:ay}{seg:Int}{d:Bool}{k:ah.Bs}{mp:ah.Bs→Option Seg.aU}
theorem aks (hB:B≤268435000) (hk:k.length=32) (h:Sat w0 w (aW r m seg p ps pn d::aI pn mp B::F)) :
  Calls Tryz.prog 154 #[ptr r,.agg (aA k).toArray] w (aP fun v w'=>v = .tuple #[.agg (aS ((mp k).getD Seg.aU.zero)).toArray,.bool (mp k).isSome]∧Sat w0 w' (aW r m seg p ps pn d::aI pn mp B::F)):=by
 have Hk:=uQ hk;have iD:=uQ (show (aA k).length=32 by rw [aX,hk]);have HB:=uQ hB;clear hk hB;go_enter Tryz.func154,Tryz.ntmps154;go_wp2_with (with_reducible apply fK);refine ⟨fM h ak ak ?_⟩;intro b3 w3 h3;go_wp2_with (with_reducible apply gq);refine ⟨fF ng h3 rfl ?_⟩;intro b4 w4 h4;replace h4:Sat w0 w4 (aW r m seg p ps pn d::pt b4 (.cells (aS Seg.aU.zero).toArray 94 (0,0))::pt b3 (.cells (aA k).toArray 50 (0,0))::aI pn mp B::F):=h4.sb;clear h h3;go_wp2_with fail;refine (nK h4).mono ?_;rintro ee w5 ⟨v,rfl,rfl,rfl⟩;go_wp2_with fail;have h5:=h4.drew;clear h4;refine dS [5,6,7,8,9] (fun w'=>w'.cell? ⟨r,4,none⟩=some (.pointer (some ⟨pn,0,none⟩))∧w'.rangeAt b3 0 (aA k)) au ?_;have hG:World.cell? _ ⟨r,4,none⟩=some (.pointer (some ⟨pn,0,none⟩))∧World.rangeAt _ b3 0 (aA k):=⟨h5.cellP aV 4 rfl,fun j z hj=>by rw [acT];exact h5.cellP eH j (by rw [abY];exact hj)⟩
 refine rP 0 ?_ (y:=aZ);refine rP 1 ?_ (y:=dV);refine rP 2 ?_ (y:=bW);refine rt 3 (h:=?_);refine gV 4 ak au eU (iI (b:=b3) (o:=0) (aA k) aj Tryz.underlying50 rfl (by rw [iD.out];kernel_rfl) (fun w hw=>hw.2)) aQ gQ ?_;clear hG;refine bY 5 ak au (fun K hK=>?_)
 (refine gZ au ak ak ?_)
 refine (Oh HB.out Hk.out (h5.sb:Sat w0 _ (aI pn mp B::pt b4 (.cells (aS Seg.aU.zero).toArray 94 (0,0))::aW r m seg p ps pn d::pt b3 (.cells (aA k).toArray 50 (0,0))::F))).mono ?_;rintro ee w6 ⟨v,rfl,rfl,h6⟩;refine hK _ _ (.inl rfl) ?_;clear hK h5;generalize hpc:(mp k).getD Seg.aU.zero=pc at *
 have xg:=uQ hpc;clear hpc;refine rP 6 ?_ (y:=(fC ak bU));refine rP 7 ?_ (y:=(fC ak bU));have h7:Sat w0 w6 (pt b4 (.cells (aS Seg.aU.zero).toArray 94 (0,0))::aW r m seg p ps pn d::pt b3 (.cells (aA k).toArray 50 (0,0))::aI pn mp B::F):=h6.sb;clear h6;refine bY 8 ak au (fun K hK=>?_);refine kW (cs':=(aS pc).toArray) h7 ak ak aj cZ bJ au aj ?_;intro w9 h9;refine hK _ _ (.inl rfl) ?_;clear hK h7;refine rP 9 ?_ (y:=fZ);refine dI au ?_;go_wp2_with fail;refine ⟨rfl,_,og rfl h9 aj aV Tryz.underlying94 rfl au,_,rfl,?_,h9.sb⟩;rw [xg.out];rfl
theorem QM (hB:B≤268435000) (hk:k.length=32) (h:Sat w0 w (aW r m seg p ps pn d::aI pn mp B::F)) :
  Calls Tryz.prog 108 #[ptr r,.agg (aA k).toArray] w (aP fun v w'=>v = .bool (mp k).isSome∧Sat w0 w' (aW r m seg p ps pn d::aI pn mp B::F)):=by
 have Hk:=uQ hk;have iD:=uQ (show (aA k).length=32 by rw [aX,hk]);have HB:=uQ hB;clear hk hB;go_enter Tryz.func108,Tryz.ntmps108;go_wp2_with (with_reducible apply fK);refine ⟨fM h ak ak ?_⟩;intro b3 w3 h3;replace h3:Sat w0 w3 (pt b3 (.cells (aA k).toArray 50 (0,0))::aW r m seg p ps pn d::aI pn mp B::F):=h3;clear h;go_wp2_with ((with_reducible refine bI ⟨?_⟩);refine iW h3 aj aV Tryz.underlying50 rfl (by rw [abX,iD.out];kernel_rfl) ?_);refine (aks HB.out Hk.out (h3.sb:Sat w0 w3 (aW r m seg p ps pn d::aI pn mp B::pt b3 (.cells (aA k).toArray 50 (0,0))::F))).mono ?_;rintro ee w4 ⟨v,rfl,rfl,h4⟩;clear h3;generalize (mp k).getD Seg.aU.zero=pc at *
 go_wp2_with (with_reducible apply gq);refine ⟨fF ng h4 rfl ?_⟩;intro b5 w5 h5;go_wp2_with (with_reducible apply cO);refine ⟨gJ (aS pc).toArray h5 aj aj aj cZ au aj ?_⟩;intro w6 h6;go_wp2_with fail;go_ret;exact ⟨_,rfl,rfl,h6.sb⟩
theorem ako (h:Sat w0 w (aW r m seg p ps pn d::F)) :
  Calls Tryz.prog 69 #[ptr r] w (aP fun v w'=>v = .bool d∧w=w'):=by
 have e5:w.cell? ⟨r,5,none⟩=some (.bool d):=h.cellAt 5 _ rfl;have hok:=nK h;clear h;go_enter Tryz.func69,Tryz.ntmps69;go_wp2_with fail;refine hok.mono ?_;rintro ee w1 ⟨v,rfl,rfl,rfl⟩;go_wp2;go_ret;exact ⟨_,rfl,rfl,rfl⟩
theorem akq (hB:B≤13000000) (h:Sat w0 w (aW r m seg p ps pn d::aI pn mp B::F)) :
  Calls Tryz.prog 53 #[ptr r] w (aP fun v w'=>∃ kv:List (ah.Bs×Seg.aU),(Tab.Lists mp kv∧(∀ q∈kv,q.1.length=32)∧kv.length≤B)∧Sat w0 w' (aB 50 32 v (kv.flatMap fun q=>aA q.1)::aW r m seg p ps pn d::aI pn mp B::F)):=by
 have e4:w.cell? ⟨r,4,none⟩=some (.pointer (some ⟨pn,0,none⟩)):=h.cellAt 4 _ rfl;have hok:=nK h;have hks:=ahO hB (h.sb:Sat w0 w (aI pn mp B::aW r m seg p ps pn d::F));clear h;go_enter Tryz.func53,Tryz.ntmps53;go_wp2_with fail;refine hok.mono ?_;rintro ee w1 ⟨v,rfl,rfl,rfl⟩;go_wp2_with fail;refine hks.mono ?_;rintro ee w2 ⟨v,rfl,kv,hkv,h2⟩;have Mc:=uQ hkv;clear hkv;go_wp2_with fail;go_ret;exact ⟨_,rfl,kv,⟨Mc.out.1,by intros;exact Mc.out.2.1 (_,_) aQ,Mc.out.2.2⟩,h2.sb⟩
end
section
variable {w0 w:World}{F:List aH}{p m K r ps pn B:Nat}{L:Seg.Log}{M:ay}{seg:Int}{d:Bool}{k:ah.Bs}{mp:ah.Bs→Option Seg.aU}
theorem ajx {a b:Array Value} (h:a.size=b.size):eu a 0 b.toList=b:=by
 apply qR;rw [lg _ _ _ (by rw [acJ];omega),adH,adl,acT,adp (by rw [acJ,acJ];omega),acM]
theorem akp (hB:B≤268435000) (hk:k.length=32) (pl:Seg.aU) (hm:mp k=some pl) (hH:Ro w0 F Half) (hL:L.Ok) (hM:M.Ok K) (h1 : -9223372036854775808≤pl.at_∧pl.at_≤9223372036854775807) (h2 : -9223372036854775808≤pl.size∧pl.size≤9223372036854775807) (data:ah.Bs) (hdl:data.length≤140737488355328) (hr:L.read M pl=(⟨0,k,data⟩,0)) (h:Sat w0 w (aW r m seg p ps pn d::aI pn mp B::aK p m L::aJ m M::F)) :
  Calls Tryz.prog 54 #[ptr r,.agg (aA k).toArray] w (aP fun v w'=>∃ bv a n c,v = .tuple #[bv,errno 0]∧bv = .slice a n c∧Sat w0 w' (bK bv data::aW r m seg p ps pn d::aI pn mp B::aK p m L::aJ m M::F)):=by
 have Hk:=uQ hk;have iD:=uQ (show (aA k).length=32 by rw [aX,hk]);have HT:=uQ (fun (w':World) (R:List aH) (hw:Sat w0 w' (aI pn mp B::R))=>Oh hB hk hw);rw [hm,anW,Option.isSome_some]at HT;have HH:=uQ hH;have HR:=uQ (fun (w':World) (R:List aH) (hh:Ro w0 R Half) (hw:Sat w0 w' (aK p m L::aJ m M::R))=>aia hh hL hM pl h1 h2 hw);rw [hr]at HR;have wZ:=uQ hdl;clear hk hB hm hH hL hM h1 h2 hr hdl;go_enter Tryz.func54,Tryz.ntmps54;go_wp2_with (with_reducible apply fK);refine ⟨fM h ak ak ?_⟩;intro b3 w3 h3;have h4:Sat w0 w3 (aW r m seg p ps pn d::pt b3 (.cells (aA k).toArray 50 (0,0))::aI pn mp B::aK p m L::aJ m M::F):=h3.sb;clear h h3;go_wp2_with fail;refine (nK h4).mono ?_;rintro ee w5 ⟨v,rfl,rfl,rfl⟩;go_wp2_with fail;have h5:=h4.drew;clear h4;refine dS [5,6,7,8,10,11] (fun w'=>w'.cell? ⟨r,4,none⟩=some (.pointer (some ⟨pn,0,none⟩))∧w'.rangeAt b3 0 (aA k)) au ?_
 have kY:∀ (w':World) (R:List aH),Sat w0 w' (aW r m seg p ps pn d::pt b3 (.cells (aA k).toArray 50 (0,0))::R)→w'.cell? ⟨r,4,none⟩=some (.pointer (some ⟨pn,0,none⟩))∧w'.rangeAt b3 0 (aA k):=fun w' R hw=>⟨hw.cellP aV 4 rfl,fun j z hj=>by rw [acT];exact hw.cellP aY j (by rw [abY];exact hj)⟩;have lK:=uQ kY;have hG:=kY _ _ h5;clear kY;refine rP 0 ?_ (y:=aZ);refine rP 1 ?_ (y:=dV);refine rP 2 ?_ (y:=bW);refine rt 3 (h:=?_);refine gV 4 ak au eU (iI (b:=b3) (o:=0) (aA k) aj Tryz.underlying50 rfl (by rw [iD.out];kernel_rfl) (fun w hw=>hw.2)) aQ gQ ?_;clear hG;refine rU 5 9 ak ak au (fun K hK=>?_) (fun K hK=>?_)
 focus
  (refine gZ au ak ak ?_)
  refine (HT.out _ _ (h5.sb:Sat w0 _ (aI pn mp B::aW r m seg p ps pn d::pt b3 (.cells (aA k).toArray 50 (0,0))::aK p m L::aJ m M::F))).mono ?_;rintro ee w6 ⟨v,rfl,rfl,h6⟩;refine hK _ _ (.inl rfl) ?_;clear hK h5;refine rP 6 ?_ (y:=aZ);refine rP 7 ?_ (y:=(fC ak bU));refine rP 8 ?_ (y:=(fC ak bU));refine bY 9 ak au (fun K hK=>?_);refine lZ (ng) h6 rfl ?_;intro b6 w7 h7;refine hK _ _ (.inr (.inl (lK.out _ _ (h7.sb:Sat w0 w7 (aW r m seg p ps pn d::pt b3 (.cells (aA k).toArray 50 (0,0))::pt b6 (.cells (aS Seg.aU.zero).toArray 94 (0,0))::aI pn mp B::aK p m L::aJ m M::F))))) ?_;clear hK h6;have h8:Sat w0 w7 (pt b6 (.cells (aS Seg.aU.zero).toArray 94 (0,0))::aW r m seg p ps pn d::pt b3 (.cells (aA k).toArray 50 (0,0))::aI pn mp B::aK p m L::aJ m M::F):=h7.sb;clear h7
 rotate_left
 focus
  refine lZ (ng) h5 rfl ?_;intro b6 w6 h6;refine hK _ _ (.inr (.inl (lK.out _ _ (h6.sb:Sat w0 w6 (aW r m seg p ps pn d::pt b3 (.cells (aA k).toArray 50 (0,0))::pt b6 (.cells (aS Seg.aU.zero).toArray 94 (0,0))::aI pn mp B::aK p m L::aJ m M::F))))) ?_;clear hK h5;refine bY 5 ak au (fun K hK=>?_)
  (refine gZ au ak ak ?_)
  refine (HT.out _ _ (h6.sb:Sat w0 _ (aI pn mp B::pt b6 (.cells (aS Seg.aU.zero).toArray 94 (0,0))::aW r m seg p ps pn d::pt b3 (.cells (aA k).toArray 50 (0,0))::aK p m L::aJ m M::F))).mono ?_;rintro ee w7 ⟨v,rfl,rfl,h7⟩;refine hK _ _ (.inl rfl) ?_;clear hK h6;refine rP 6 ?_ (y:=aZ);refine rP 7 ?_ (y:=(fC ak bU));refine rP 8 ?_ (y:=(fC ak bU));have h8:Sat w0 w7 (pt b6 (.cells (aS Seg.aU.zero).toArray 94 (0,0))::aW r m seg p ps pn d::pt b3 (.cells (aA k).toArray 50 (0,0))::aI pn mp B::aK p m L::aJ m M::F):=h7.sb;clear h7
 all_goals
  refine bY 10 ak au (fun K hK=>?_);refine kW (cs':=(aS pl).toArray) h8 ak ak aj cZ bJ au aj ?_;intro w9 h9;refine hK _ _ (.inl rfl) ?_;clear hK h8;refine rP 11 ?_ (y:=fZ);refine dI au ?_;go_wp2_with fail;have h10:=h9.drew;clear h9 lK;refine dS [5,6,7,8,10,11] (fun w'=>w'.cell? ⟨r,2,none⟩=some (.pointer (some ⟨p,0,none⟩))∧w'.rangeAt b6 0 (aS pl)) au ?_;have kY:∀ (w':World) (R:List aH),Sat w0 w' (pt b6 (.cells (aS pl).toArray 94 (0,0))::aW r m seg p ps pn d::R)→w'.cell? ⟨r,2,none⟩=some (.pointer (some ⟨p,0,none⟩))∧w'.rangeAt b6 0 (aS pl):=fun w' R hw=>⟨hw.cellP aY 2 rfl,fun j z hj=>by rw [acT];exact hw.cellP aV j (by rw [abY];exact hj)⟩;have lK:=uQ kY;have hG:=kY _ _ h10;clear kY;refine rP 0 ?_ (y:=aZ);refine rP 1 ?_ (y:=dV);refine rP 2 ?_ (y:=bW);refine rt 3 (h:=?_)
  refine gV 4 ak au eU (iI (b:=b6) (o:=0) (aS pl) aj Tryz.underlying94 rfl au (fun w hw=>hw.2)) aQ gQ ?_;clear hG;refine rU 5 9 ak ak au (fun K hK=>?_) (fun K hK=>?_)
  focus
   (refine gZ au ak ak ?_)
   refine (HR.out _ _ (Ro.os HH.out) (h10.sb:Sat w0 _ (aK p m L::aJ m M::pt b6 (.cells (aS pl).toArray 94 (0,0))::aW r m seg p ps pn d::pt b3 (.cells (aA k).toArray 50 (0,0))::aI pn mp B::F))).mono ?_;rintro ee iV ⟨v,rfl,da,dc,rfl,h11⟩;refine hK _ _ (.inl rfl) ?_;clear hK h10;refine rP 6 ?_ (y:=aZ);refine rP 7 ?_ (y:=(fC ak bU));refine rP 8 ?_ (y:=(fC ak bU));refine bY 9 ak au (fun K hK=>?_);refine lZ (BN) h11 rfl ?_;intro b8 w12 h12;refine hK _ _ (.inr (.inl (lK.out _ _ (h12.sb:Sat w0 w12 (pt b6 (.cells (aS pl).toArray 94 (0,0))::aW r m seg p ps pn d::pt b8 (.cells wP.cells 52 (0,0))::bK (.slice da data.length dc) data::aK p m L::aJ m M::pt b3 (.cells (aA k).toArray 50 (0,0))::aI pn mp B::F))))) ?_;clear hK h11
  rotate_left
  focus
   refine lZ (BN) h10 rfl ?_;intro b8 iV h11;refine hK _ _ (.inr (.inl (lK.out _ _ (h11.sb:Sat w0 iV (pt b6 (.cells (aS pl).toArray 94 (0,0))::aW r m seg p ps pn d::pt b8 (.cells wP.cells 52 (0,0))::pt b3 (.cells (aA k).toArray 50 (0,0))::aI pn mp B::aK p m L::aJ m M::F))))) ?_;clear hK h10;refine bY 5 ak au (fun K hK=>?_)
   (refine gZ au ak ak ?_)
   refine (HR.out _ _ (Ro.os HH.out) (h11.sb:Sat w0 _ (aK p m L::aJ m M::pt b8 (.cells wP.cells 52 (0,0))::pt b6 (.cells (aS pl).toArray 94 (0,0))::aW r m seg p ps pn d::pt b3 (.cells (aA k).toArray 50 (0,0))::aI pn mp B::F))).mono ?_;rintro ee w12 ⟨v,rfl,da,dc,rfl,h12⟩;refine hK _ _ (.inl rfl) ?_;clear hK h11;refine rP 6 ?_ (y:=aZ);refine rP 7 ?_ (y:=(fC ak bU));refine rP 8 ?_ (y:=(fC ak bU));replace h12:Sat w0 w12 (pt b8 (.cells wP.cells 52 (0,0))::bK (.slice da data.length dc) data::aK p m L::aJ m M::pt b6 (.cells (aS pl).toArray 94 (0,0))::aW r m seg p ps pn d::pt b3 (.cells (aA k).toArray 50 (0,0))::aI pn mp B::F):=h12.sb
  all_goals
   refine bY 10 ak au (fun K hK=>?_);refine kW (cs':=dU ⟨0,k,data⟩ (.slice da data.length dc)) (v:= .agg (dU ⟨0,k,data⟩ (.slice da data.length dc))) h12 ak ak (by exact ajx (show (dU ah.zeroE (.slice none 0 0)).size=(dU ⟨0,k,data⟩ (.slice da data.length dc)).size by rw [lT _ _ (show (⟨0,k,data⟩:ah.aG).key.length=32 from Hk.out)];rfl)) cZ (show 0+(dU ⟨0,k,data⟩ (.slice da data.length dc)).size≤(dU ah.zeroE (.slice none 0 0)).size by rw [lT _ _ (show (⟨0,k,data⟩:ah.aG).key.length=32 from Hk.out)];exact abL _) (show _=some (dU ⟨0,k,data⟩ (.slice da data.length dc)).size by rw [lT _ _ (show (⟨0,k,data⟩:ah.aG).key.length=32 from Hk.out)];exact CY) (Wx _ _ _ _) ?_;intro jU h13;refine hK _ _ (.inl rfl) ?_;clear hK h12;refine rP 11 ?_ (y:=fZ);refine dI au ?_;have e0:jU.cell? ⟨b8,0,none⟩=some (.int .i64 0):=h13.cellP aV 0 (by unfold dU;rw [abY];rfl)
   have f1:jU.rangeAt b8 1 (aA k):=fun j z hj=>h13.cellP aV (1+j) (by unfold dU;rw [abY];exact afM (⟨0,k,data⟩:ah.aG) _ hj);have f2:jU.rangeAt b3 0 (aA k):=fun j z hj=>by rw [acT];exact (h13.pk (A:=pt b3 (.cells (aA k).toArray 50 (0,0)))).cellAt j z (by rw [abY];exact hj)
   have e33:jU.cell? ⟨b8,33,none⟩=some (.slice da data.length dc):=h13.cellP aV 33 (by unfold dU;rw [abY];exact afL (⟨0,k,data⟩:ah.aG) _ Hk.out);have hnk:∀ w,(binOp .neq 50 (.agg (aA k).toArray) (.agg (aA k).toArray)).run Tryz.prog w = .ok (.bool false) w:=fun w=>by rw [Zd k k Hk.out Hk.out w];simp
   have hcl:=zS h13 (Sat.rd (h13.sb:Sat w0 jU (bK (.slice da data.length dc) data::F))) wZ.out;clear lK HH HR HT
   go_wp2_with (first
    |((with_reducible refine bI ⟨?_⟩);first
     |refine iL (b:=b8) (o:=1) (aA k) aj f1 Tryz.underlying50 rfl (by rw [iD.out];kernel_rfl) ?_
     |refine iL (b:=b3) (o:=0) (aA k) aj f2 Tryz.underlying50 rfl (by rw [iD.out];kernel_rfl) ?_)
    |((with_reducible apply GK);refine ⟨?_⟩;refine yS (by first|rfl|kernel_rfl) ?_))
   refine hcl.mono ?_;rintro ee nN ⟨v,rfl,ku,a,n,c,rfl⟩;clear hcl;go_wp2_with fail
   go_ret2
   exact ⟨_,rfl,_,a,n,c,rfl,rfl,ku.sb⟩
end
section
variable {w0 w:World}{F:List aH}{p m K r ps pn B:Nat}{L:Seg.Log}{M:ay}{seg:Int}{d:Bool}{k:ah.Bs}{mp:ah.Bs→Option Seg.aU}
theorem akt (hB:B≤134217000) (hk:k.length=32) (data:ah.Bs) (da:Option Addr) (dc:Nat) (hd:Ro w0 F (bG 1 (.slice da data.length dc) (aA data))) (sN:data.length≤1099511627) (hL:L.Ok) (hM:M.Ok K) (jW:K+4≤1099511627776) (hH:Ro w0 F Half)
  (h0:(L.append M ⟨0,k,data⟩).2.2≠0) (h:Sat w0 w (aW r m seg p ps pn d::aI pn mp B::aK p m L::aJ m M::F)) :
  Calls Tryz.prog 52 #[ptr r,.agg (aA k).toArray,.slice da data.length dc] w (aP fun v w'=>v=errno (L.append M ⟨0,k,data⟩).2.2∧Sat w0 w' (aW r m seg p ps pn d::aI pn mp B::aK p m (L.append M ⟨0,k,data⟩).1.1::aJ m (L.append M ⟨0,k,data⟩).1.2::F)):=by
 have hks:(aA k).length=32:=by rw [aX,hk]
 have hap:=uQ (fun (w':World) (R:List aH) (hh:Ro w0 R Half) (hr:Ro w0 R (bG 1 (.slice da data.length dc) (aA data))) (hw:Sat w0 w' (aK p m L::aJ m M::R))=>Dc ⟨0,k,data⟩ hk da dc hr hh sN hL hM jW hw);generalize L.append M ⟨0,k,data⟩=q at *
 obtain ⟨⟨L2,M2⟩,pc,e2⟩:=q;dsimp only at h0 hap ⊢;have hb:(e2 != 0)=true:=agL.2 h0;have HB:=uQ hB;have iM:=uQ hk;have iD:=uQ hks;have Hd:=uQ hd;have HH:=uQ hH;clear hB hk hks hd sN hL hM jW hH;go_enter Tryz.func52,Tryz.ntmps52;go_wp2_with (with_reducible apply fK);refine ⟨fM h ak ak ?_⟩;intro b4 w4 h4;replace h4:Sat w0 w4 (pt b4 (.cells (aA k).toArray 50 (0,0))::aW r m seg p ps pn d::aI pn mp B::aK p m L::aJ m M::F):=h4;clear h;go_wp2_with fail;refine (nK (h4.sb:Sat w0 w4 (aW r m seg p ps pn d::pt b4 (.cells (aA k).toArray 50 (0,0))::aI pn mp B::aK p m L::aJ m M::F))).mono ?_;rintro ee w5 ⟨v,rfl,rfl,rfl⟩;go_wp2_with fail;have h5:=h4.drew;clear h4;refine dS [7,8,9,10,12,13] (fun w'=>w'.cell? ⟨r,2,none⟩=some (.pointer (some ⟨p,0,none⟩))∧w'.rangeAt b4 0 (aA k)) au ?_
 have kY:∀ (w':World) (R:List aH) (dd:Bool),Sat w0 w' (pt b4 (.cells (aA k).toArray 50 (0,0))::aW r m seg p ps pn dd::R)→w'.cell? ⟨r,2,none⟩=some (.pointer (some ⟨p,0,none⟩))∧w'.rangeAt b4 0 (aA k):=fun w' R dd hw=>⟨hw.cellP aY 2 rfl,fun j z hj=>by rw [acT];exact hw.cellP aV j (by rw [abY];exact hj)⟩;have lK:=uQ kY;have hG:=kY _ _ _ h5;clear kY;refine rP 0 ?_ (y:=aZ);refine rP 1 ?_ (y:=dV);refine rP 2 ?_ (y:=bW);refine rt 3 (h:=?_);refine gV 4 ak au eU (iI (b:=b4) (o:=0) (aA k) aj Tryz.underlying50 rfl (by rw [iD.out];kernel_rfl) (fun w hw=>hw.2)) aQ gQ ?_;clear hG;refine rP 5 ?_ (y:=aZ);refine rP 6 ?_ (y:=(GX ak ak ak (fun w=>aaP ⟨0,k,data⟩ iM.out da data.length dc w)));refine rU 7 11 ak ak au (fun K hK=>?_) (fun K hK=>?_)
 ·(refine gZ au ak ak ?_)
  refine (hap.out _ _ (Ro.os HH.out) (Ro.os Hd.out) (h5.sb:Sat w0 _ (aK p m L::aJ m M::pt b4 (.cells (aA k).toArray 50 (0,0))::aW r m seg p ps pn d::aI pn mp B::F))).mono ?_;rintro ee w6 ⟨v,rfl,rfl,h6⟩;refine hK _ _ (.inl rfl) ?_;clear hK hap h5;refine rP 8 ?_ (y:=aZ);refine rP 9 ?_ (y:=(fC ak bU));refine rP 10 ?_ (y:=(fC ak bU));refine bY 11 ak au (fun K hK=>?_);refine lZ (ng) h6 rfl ?_;intro b7 w7 h7;refine hK _ _ (.inr (.inl (lK.out _ _ _ (h7.sb:Sat w0 w7 (pt b4 (.cells (aA k).toArray 50 (0,0))::aW r m seg p ps pn d::aI pn mp B::pt b7 (.cells (aS Seg.aU.zero).toArray 94 (0,0))::aK p m L2::aJ m M2::F))))) ?_;clear hK h6;have h8:Sat w0 w7 (pt b7 (.cells (aS Seg.aU.zero).toArray 94 (0,0))::pt b4 (.cells (aA k).toArray 50 (0,0))::aW r m seg p ps pn d::aI pn mp B::aK p m L2::aJ m M2::F):=h7.sb;clear h7;refine bY 12 ak au (fun K hK=>?_)
  refine kW (cs':=(aS pc).toArray) h8 ak ak aj cZ bJ au aj ?_;intro w9 h9;refine hK _ _ (.inl rfl) ?_;clear hK h8;refine rP 13 ?_ (y:=fZ);refine dI au ?_;go_wp2_with fail;go_ret;exact ⟨_,rfl,rfl,h9.sb⟩
 ·refine lZ (ng) h5 rfl ?_;intro b7 w6 h6;refine hK _ _ (.inr (.inl (lK.out _ _ _ (h6.sb:Sat w0 w6 (pt b4 (.cells (aA k).toArray 50 (0,0))::aW r m seg p ps pn d::pt b7 (.cells (aS Seg.aU.zero).toArray 94 (0,0))::aI pn mp B::aK p m L::aJ m M::F))))) ?_;clear hK h5;refine bY 7 ak au (fun K hK=>?_)
  (refine gZ au ak ak ?_)
  refine (hap.out _ _ (Ro.os HH.out) (Ro.os Hd.out) (h6.sb:Sat w0 _ (aK p m L::aJ m M::pt b7 (.cells (aS Seg.aU.zero).toArray 94 (0,0))::pt b4 (.cells (aA k).toArray 50 (0,0))::aW r m seg p ps pn d::aI pn mp B::F))).mono ?_;rintro ee w7 ⟨v,rfl,rfl,h7⟩;refine hK _ _ (.inl rfl) ?_;clear hK hap h6;refine rP 8 ?_ (y:=aZ);refine rP 9 ?_ (y:=(fC ak bU));refine rP 10 ?_ (y:=(fC ak bU));have h8:Sat w0 w7 (pt b7 (.cells (aS Seg.aU.zero).toArray 94 (0,0))::pt b4 (.cells (aA k).toArray 50 (0,0))::aW r m seg p ps pn d::aI pn mp B::aK p m L2::aJ m M2::F):=h7.sb;clear h7;refine bY 12 ak au (fun K hK=>?_);refine kW (cs':=(aS pc).toArray) h8 ak ak aj cZ bJ au aj ?_;intro w9 h9;refine hK _ _ (.inl rfl) ?_;clear hK h8;refine rP 13 ?_ (y:=fZ);refine dI au ?_;go_wp2_with fail;go_ret;exact ⟨_,rfl,rfl,h9.sb⟩
end
section
variable {w0 w:World}{F:List aH}{p m K r ps pn B:Nat}{L:Seg.Log}{M:ay}{seg:Int}{d:Bool}{k:ah.Bs}{mp:ah.Bs→Option Seg.aU}
theorem aaO (k:ah.Bs) (hk:k.length=32) (w:World) :
  (Instr.build 52 #[(0,.int .i64 1),(1,.agg (aA k).toArray)]).run Tryz.prog w = .ok (.agg (dU ⟨1,k,[]⟩ (.slice none 0 0))) w:=by
 have hz:(dU ah.zeroE (.slice none 0 0)).size=34:=lT _ _ rfl;have hks:(aA k).toArray.size=32:=by simp [aA,hk]
 have h:=aod (P:=Tryz.prog) [(0,.int .i64 1),(1,.agg (aA k).toArray)] JU BN (by
  intro p hp;simp only [acK,ag0,aoj]at hp;have hzz:wP.cells.size=34:=hz;rw [hzz];rcases hp with rfl|rfl
  ·exact ⟨0,rfl,by show 0+1≤34;omega⟩
  ·refine ⟨1,?_,?_⟩
   ·show some (1,32)=some (1,(aA k).toArray.size);rw [hks]
   ·show 1+(aA k).toArray.size≤34;rw [hks];omega) w
 refine h.trans ?_
 congr 2
 apply qR;refine (aju _ hz _ _ (show (aA k).toArray.toList.length=32 by rw [acW,aX,hk])).trans ?_
 rfl
theorem akm (hB:B≤134217000) (hk:k.length=32) (hm:mp k=none) (h:Sat w0 w (aW r m seg p ps pn d::aI pn mp B::aK p m L::aJ m M::F)) :
  Calls Tryz.prog 59 #[ptr r,.agg (aA k).toArray] w (aP fun v w'=>v=errno 9∧Sat w0 w' (aW r m seg p ps pn d::aI pn mp B::aK p m L::aJ m M::F)):=by
 have Hk:=uQ hk;have iD:=uQ (show (aA k).length=32 by rw [aX,hk]);have HB:=uQ hB;have HX:=uQ (fun (w':World) (R:List aH) (hw:Sat w0 w' (aW r m seg p ps pn d::aI pn mp B::R))=>QM (acz hB aN) hk hw);rw [hm,Option.isSome_none]at HX;clear hk hB hm;go_enter Tryz.func59,Tryz.ntmps59;go_wp2_with (with_reducible apply fK);refine ⟨fM h ak ak ?_⟩;intro b3 w3 h3;have h4:Sat w0 w3 (aW r m seg p ps pn d::aI pn mp B::pt b3 (.cells (aA k).toArray 50 (0,0))::aK p m L::aJ m M::F):=h3.sb;clear h h3;go_wp2_with fail;refine (nK h4).mono ?_;rintro ee w5 ⟨v,rfl,rfl,rfl⟩;go_wp2_with ((with_reducible refine bI ⟨?_⟩);refine iW h4 aj eH Tryz.underlying50 rfl (by rw [abX,iD.out];kernel_rfl) ?_);refine (HX.out _ _ h4).mono ?_;rintro ee w6 ⟨v,rfl,rfl,h6⟩;clear h4;go_wp2_with fail;go_ret;exact ⟨_,rfl,rfl,h6.sb⟩
theorem akl (hB:B≤134217000) (hk:k.length=32) (pl:Seg.aU) (hm:mp k=some pl) (hL:L.Ok) (hM:M.Ok K) (jW:K+4≤1099511627776) (hH:Ro w0 F Half) (h0:(L.append M ⟨1,k,[]⟩).2.2≠0) (h:Sat w0 w (aW r m seg p ps pn d::aI pn mp B::aK p m L::aJ m M::F)) :
  Calls Tryz.prog 59 #[ptr r,.agg (aA k).toArray] w (aP fun v w'=>v=errno (L.append M ⟨1,k,[]⟩).2.2∧Sat w0 w' (aW r m seg p ps pn d::aI pn mp B::aK p m (L.append M ⟨1,k,[]⟩).1.1::aJ m (L.append M ⟨1,k,[]⟩).1.2::F)):=by
 have Hk:=uQ hk;have iD:=uQ (show (aA k).length=32 by rw [aX,hk]);have HB:=uQ hB;have HX:=uQ (fun (w':World) (R:List aH) (hw:Sat w0 w' (aW r m seg p ps pn d::aI pn mp B::R))=>QM (acz hB aN) hk hw);rw [hm,Option.isSome_some]at HX;have hap:=uQ (fun (w':World) (R:List aH) (hh:Ro w0 R Half) (hw:Sat w0 w' (aK p m L::aJ m M::R))=>Dc ⟨1,k,[]⟩ hk none 0 (fun w _=>wG 1 0 w) hh (acV _) hL hM jW hw);generalize L.append M ⟨1,k,[]⟩=q at *
 obtain ⟨⟨L2,M2⟩,pc,e2⟩:=q;dsimp only at h0 hap ⊢;have HH:=uQ hH;have hb:(e2 != 0)=true:=agL.2 h0;clear hk hB hm hL hM jW hH h0;go_enter Tryz.func59,Tryz.ntmps59;go_wp2_with (with_reducible apply fK);refine ⟨fM h ak ak ?_⟩;intro b3 w3 h3;have h4:Sat w0 w3 (aW r m seg p ps pn d::aI pn mp B::pt b3 (.cells (aA k).toArray 50 (0,0))::aK p m L::aJ m M::F):=h3.sb;clear h h3;go_wp2_with fail;refine (nK h4).mono ?_;rintro ee w5 ⟨v,rfl,rfl,rfl⟩;go_wp2_with ((with_reducible refine bI ⟨?_⟩);refine iW h4 aj eH Tryz.underlying50 rfl (by rw [abX,iD.out];kernel_rfl) ?_);refine (HX.out _ _ h4).mono ?_;rintro ee w6 ⟨v,rfl,rfl,h6⟩;clear h4;go_wp2_with fail;have h5:Sat w0 _ (pt b3 (.cells (aA k).toArray 50 (0,0))::aW r m seg p ps pn d::aI pn mp B::aK p m L::aJ m M::F):=(h6.drew).sb;clear h6
 refine dS [6,7,8,9,11,12] (fun w'=>w'.cell? ⟨r,2,none⟩=some (.pointer (some ⟨p,0,none⟩))∧w'.rangeAt b3 0 (aA k)) au ?_;have kY:∀ (w':World) (R:List aH),Sat w0 w' (pt b3 (.cells (aA k).toArray 50 (0,0))::aW r m seg p ps pn d::R)→w'.cell? ⟨r,2,none⟩=some (.pointer (some ⟨p,0,none⟩))∧w'.rangeAt b3 0 (aA k):=fun w' R hw=>⟨hw.cellP aY 2 rfl,fun j z hj=>by rw [acT];exact hw.cellP aV j (by rw [abY];exact hj)⟩;have lK:=uQ kY;have hG:=kY _ _ h5;clear kY;refine rP 0 ?_ (y:=aZ);refine rP 1 ?_ (y:=dV);refine rP 2 ?_ (y:=bW);refine rt 3 (h:=?_);refine gV 4 ak au eU (iI (b:=b3) (o:=0) (aA k) aj Tryz.underlying50 rfl (by rw [iD.out];kernel_rfl) (fun w hw=>hw.2)) aQ gQ ?_;clear hG;refine rP 5 ?_ (y:=(acj ak ak (fun w=>aaO k Hk.out w)));refine rU 6 10 ak ak au (fun K hK=>?_) (fun K hK=>?_)
 ·(refine gZ au ak ak ?_)
  refine (hap.out _ _ (Ro.os HH.out) (h5.sb:Sat w0 _ (aK p m L::aJ m M::pt b3 (.cells (aA k).toArray 50 (0,0))::aW r m seg p ps pn d::aI pn mp B::F))).mono ?_;rintro ee w6 ⟨v,rfl,rfl,h6⟩;refine hK _ _ (.inl rfl) ?_;clear hK hap h5;refine rP 7 ?_ (y:=aZ);refine rP 8 ?_ (y:=(fC ak bU));refine rP 9 ?_ (y:=(fC ak bU));refine bY 10 ak au (fun K hK=>?_);refine lZ (ng) h6 rfl ?_;intro b7 w7 h7;refine hK _ _ (.inr (.inl (lK.out _ _ (h7.sb:Sat w0 w7 (pt b3 (.cells (aA k).toArray 50 (0,0))::aW r m seg p ps pn d::aI pn mp B::pt b7 (.cells (aS Seg.aU.zero).toArray 94 (0,0))::aK p m L2::aJ m M2::F))))) ?_;clear hK h6;have h8:Sat w0 w7 (pt b7 (.cells (aS Seg.aU.zero).toArray 94 (0,0))::pt b3 (.cells (aA k).toArray 50 (0,0))::aW r m seg p ps pn d::aI pn mp B::aK p m L2::aJ m M2::F):=h7.sb;clear h7;refine bY 11 ak au (fun K hK=>?_);refine kW (cs':=(aS pc).toArray) h8 ak ak aj cZ bJ au aj ?_
  intro w9 h9;refine hK _ _ (.inl rfl) ?_;clear hK h8;refine rP 12 ?_ (y:=fZ);refine dI au ?_;go_wp2_with fail;go_ret;exact ⟨_,rfl,rfl,h9.sb⟩
 ·refine lZ (ng) h5 rfl ?_;intro b7 w6 h6;refine hK _ _ (.inr (.inl (lK.out _ _ (h6.sb:Sat w0 w6 (pt b3 (.cells (aA k).toArray 50 (0,0))::aW r m seg p ps pn d::pt b7 (.cells (aS Seg.aU.zero).toArray 94 (0,0))::aI pn mp B::aK p m L::aJ m M::F))))) ?_;clear hK h5;refine bY 6 ak au (fun K hK=>?_)
  (refine gZ au ak ak ?_)
  refine (hap.out _ _ (Ro.os HH.out) (h6.sb:Sat w0 _ (aK p m L::aJ m M::pt b7 (.cells (aS Seg.aU.zero).toArray 94 (0,0))::pt b3 (.cells (aA k).toArray 50 (0,0))::aW r m seg p ps pn d::aI pn mp B::F))).mono ?_;rintro ee w7 ⟨v,rfl,rfl,h7⟩;refine hK _ _ (.inl rfl) ?_;clear hK hap h6;refine rP 7 ?_ (y:=aZ);refine rP 8 ?_ (y:=(fC ak bU));refine rP 9 ?_ (y:=(fC ak bU));have h8:Sat w0 w7 (pt b7 (.cells (aS Seg.aU.zero).toArray 94 (0,0))::pt b3 (.cells (aA k).toArray 50 (0,0))::aW r m seg p ps pn d::aI pn mp B::aK p m L2::aJ m M2::F):=h7.sb;clear h7;refine bY 11 ak au (fun K hK=>?_);refine kW (cs':=(aS pc).toArray) h8 ak ak aj cZ bJ au aj ?_;intro w9 h9;refine hK _ _ (.inl rfl) ?_;clear hK h8;refine rP 12 ?_ (y:=fZ);refine dI au ?_;go_wp2_with fail;go_ret;exact ⟨_,rfl,rfl,h9.sb⟩
theorem akn (hB:B≤134217000) (hk:k.length=32) (pl:Seg.aU) (hm:mp k=some pl) (hL:L.Ok) (hM:M.Ok K) (jW:K+4≤1099511627776) (hH:Ro w0 F Half) (h0:(L.append M ⟨1,k,[]⟩).2.2=0) (h:Sat w0 w (aW r m seg p ps pn d::aI pn mp B::aK p m L::aJ m M::F)) :
  Calls Tryz.prog 59 #[ptr r,.agg (aA k).toArray] w (aP fun v w'=>v=errno 0∧Sat w0 w' (aW r m seg p ps pn true::aI pn (Tab.del mp k) B::aK p m (L.append M ⟨1,k,[]⟩).1.1::aJ m (L.append M ⟨1,k,[]⟩).1.2::F)):=by
 have Hk:=uQ hk;have iD:=uQ (show (aA k).length=32 by rw [aX,hk]);have HB:=uQ hB;have HX:=uQ (fun (w':World) (R:List aH) (hw:Sat w0 w' (aW r m seg p ps pn d::aI pn mp B::R))=>QM (acz hB aN) hk hw);rw [hm,Option.isSome_some]at HX;have hap:=uQ (fun (w':World) (R:List aH) (hh:Ro w0 R Half) (hw:Sat w0 w' (aK p m L::aJ m M::R))=>Dc ⟨1,k,[]⟩ hk none 0 (fun w _=>wG 1 0 w) hh (acV _) hL hM jW hw);generalize L.append M ⟨1,k,[]⟩=q at *
 obtain ⟨⟨L2,M2⟩,pc,e2⟩:=q;dsimp only at h0 hap ⊢;have HH:=uQ hH;subst h0;clear hk hB hm hL hM jW hH;go_enter Tryz.func59,Tryz.ntmps59;go_wp2_with (with_reducible apply fK);refine ⟨fM h ak ak ?_⟩;intro b3 w3 h3;have h4:Sat w0 w3 (aW r m seg p ps pn d::aI pn mp B::pt b3 (.cells (aA k).toArray 50 (0,0))::aK p m L::aJ m M::F):=h3.sb;clear h h3;go_wp2_with fail;refine (nK h4).mono ?_;rintro ee w5 ⟨v,rfl,rfl,rfl⟩;go_wp2_with ((with_reducible refine bI ⟨?_⟩);refine iW h4 aj eH Tryz.underlying50 rfl (by rw [abX,iD.out];kernel_rfl) ?_);refine (HX.out _ _ h4).mono ?_;rintro ee w6 ⟨v,rfl,rfl,h6⟩;clear h4;go_wp2_with fail;have h5:Sat w0 _ (pt b3 (.cells (aA k).toArray 50 (0,0))::aW r m seg p ps pn d::aI pn mp B::aK p m L::aJ m M::F):=(h6.drew).sb;clear h6
 refine dS [6,7,8,9,11,12] (fun w'=>w'.cell? ⟨r,2,none⟩=some (.pointer (some ⟨p,0,none⟩))∧w'.rangeAt b3 0 (aA k)) au ?_;have kY:∀ (w':World) (R:List aH),Sat w0 w' (pt b3 (.cells (aA k).toArray 50 (0,0))::aW r m seg p ps pn d::R)→w'.cell? ⟨r,2,none⟩=some (.pointer (some ⟨p,0,none⟩))∧w'.rangeAt b3 0 (aA k):=fun w' R hw=>⟨hw.cellP aY 2 rfl,fun j z hj=>by rw [acT];exact hw.cellP aV j (by rw [abY];exact hj)⟩;have lK:=uQ kY;have hG:=kY _ _ h5;clear kY;refine rP 0 ?_ (y:=aZ);refine rP 1 ?_ (y:=dV);refine rP 2 ?_ (y:=bW);refine rt 3 (h:=?_);refine gV 4 ak au eU (iI (b:=b3) (o:=0) (aA k) aj Tryz.underlying50 rfl (by rw [iD.out];kernel_rfl) (fun w hw=>hw.2)) aQ gQ ?_;clear hG;refine rP 5 ?_ (y:=(acj ak ak (fun w=>aaO k Hk.out w)));refine rU 6 10 ak ak au (fun K hK=>?_) (fun K hK=>?_)
 ·(refine gZ au ak ak ?_)
  refine (hap.out _ _ (Ro.os HH.out) (h5.sb:Sat w0 _ (aK p m L::aJ m M::pt b3 (.cells (aA k).toArray 50 (0,0))::aW r m seg p ps pn d::aI pn mp B::F))).mono ?_;rintro ee w6 ⟨v,rfl,rfl,h6⟩;refine hK _ _ (.inl rfl) ?_;clear hK hap h5;refine rP 7 ?_ (y:=aZ);refine rP 8 ?_ (y:=(fC ak bU));refine rP 9 ?_ (y:=(fC ak bU));refine bY 10 ak au (fun K hK=>?_);refine lZ (ng) h6 rfl ?_;intro b7 w7 h7;refine hK _ _ (.inr (.inl (lK.out _ _ (h7.sb:Sat w0 w7 (pt b3 (.cells (aA k).toArray 50 (0,0))::aW r m seg p ps pn d::aI pn mp B::pt b7 (.cells (aS Seg.aU.zero).toArray 94 (0,0))::aK p m L2::aJ m M2::F))))) ?_;clear hK h6;have h8:Sat w0 w7 (pt b7 (.cells (aS Seg.aU.zero).toArray 94 (0,0))::pt b3 (.cells (aA k).toArray 50 (0,0))::aW r m seg p ps pn d::aI pn mp B::aK p m L2::aJ m M2::F):=h7.sb;clear h7;refine bY 11 ak au (fun K hK=>?_);refine kW (cs':=(aS pc).toArray) h8 ak ak aj cZ bJ au aj ?_
  intro w9 h9;refine hK _ _ (.inl rfl) ?_;clear hK h8;refine rP 12 ?_ (y:=fZ);refine dI au ?_;go_wp2_with fail;have h10:Sat w0 _ (pt b3 (.cells (aA k).toArray 50 (0,0))::aW r m seg p ps pn d::aI pn mp B::pt b7 (.cells (aS pc).toArray 94 (0,0))::aK p m L2::aJ m M2::F):=(h9.drew).sb;clear h9 lK;refine dS [5] (fun w'=>w'.cell? ⟨r,4,none⟩=some (.pointer (some ⟨pn,0,none⟩))∧w'.rangeAt b3 0 (aA k)) au ?_;have hG:World.cell? _ ⟨r,4,none⟩=some (.pointer (some ⟨pn,0,none⟩))∧World.rangeAt _ b3 0 (aA k):=⟨h10.cellP aY 4 rfl,fun j z hj=>by rw [acT];exact h10.cellP aV j (by rw [abY];exact hj)⟩;refine rP 0 ?_ (y:=aZ);refine rP 1 ?_ (y:=dV);refine rP 2 ?_ (y:=bW);refine rt 3 (h:=?_);refine gV 4 ak au eU (iI (b:=b3) (o:=0) (aA k) aj Tryz.underlying50 rfl (by rw [iD.out];kernel_rfl) (fun w hw=>hw.2)) aQ gQ ?_;clear hG;refine bY 5 ak au (fun K hK=>?_)
  (refine gZ au ak ak ?_)
  refine (VY HB.out Hk.out (h10.sb:Sat w0 _ (aI pn mp B::pt b3 (.cells (aA k).toArray 50 (0,0))::aW r m seg p ps pn d::pt b7 (.cells (aS pc).toArray 94 (0,0))::aK p m L2::aJ m M2::F))).mono ?_;rintro ee iV ⟨v,rfl,rfl,h11⟩;refine hK _ _ (.inl rfl) ?_;clear hK h10;refine dI au ?_;go_wp2_with (with_reducible apply cO);refine ⟨fG (cs':=#[ptr m,.int .i64 seg,ptr p,ptr ps,ptr pn,.bool true]) (h11.sb:Sat w0 iV (aW r m seg p ps pn d::aI pn (Tab.del mp k) B::pt b3 (.cells (aA k).toArray 50 (0,0))::pt b7 (.cells (aS pc).toArray 94 (0,0))::aK p m L2::aJ m M2::F)) aj aj aj cZ bJ au aj ?_⟩;intro w12 h12;go_wp2_with fail;go_ret;exact ⟨_,rfl,rfl,h12.sb⟩
 ·refine lZ (ng) h5 rfl ?_;intro b7 w6 h6;refine hK _ _ (.inr (.inl (lK.out _ _ (h6.sb:Sat w0 w6 (pt b3 (.cells (aA k).toArray 50 (0,0))::aW r m seg p ps pn d::pt b7 (.cells (aS Seg.aU.zero).toArray 94 (0,0))::aI pn mp B::aK p m L::aJ m M::F))))) ?_;clear hK h5;refine bY 6 ak au (fun K hK=>?_)
  (refine gZ au ak ak ?_)
  refine (hap.out _ _ (Ro.os HH.out) (h6.sb:Sat w0 _ (aK p m L::aJ m M::pt b7 (.cells (aS Seg.aU.zero).toArray 94 (0,0))::pt b3 (.cells (aA k).toArray 50 (0,0))::aW r m seg p ps pn d::aI pn mp B::F))).mono ?_;rintro ee w7 ⟨v,rfl,rfl,h7⟩;refine hK _ _ (.inl rfl) ?_;clear hK hap h6;refine rP 7 ?_ (y:=aZ);refine rP 8 ?_ (y:=(fC ak bU));refine rP 9 ?_ (y:=(fC ak bU));have h8:Sat w0 w7 (pt b7 (.cells (aS Seg.aU.zero).toArray 94 (0,0))::pt b3 (.cells (aA k).toArray 50 (0,0))::aW r m seg p ps pn d::aI pn mp B::aK p m L2::aJ m M2::F):=h7.sb;clear h7;refine bY 11 ak au (fun K hK=>?_);refine kW (cs':=(aS pc).toArray) h8 ak ak aj cZ bJ au aj ?_;intro w9 h9;refine hK _ _ (.inl rfl) ?_;clear hK h8;refine rP 12 ?_ (y:=fZ);refine dI au ?_;go_wp2_with fail
  have h10:Sat w0 _ (pt b3 (.cells (aA k).toArray 50 (0,0))::aW r m seg p ps pn d::aI pn mp B::pt b7 (.cells (aS pc).toArray 94 (0,0))::aK p m L2::aJ m M2::F):=(h9.drew).sb;clear h9 lK;refine dS [5] (fun w'=>w'.cell? ⟨r,4,none⟩=some (.pointer (some ⟨pn,0,none⟩))∧w'.rangeAt b3 0 (aA k)) au ?_;have hG:World.cell? _ ⟨r,4,none⟩=some (.pointer (some ⟨pn,0,none⟩))∧World.rangeAt _ b3 0 (aA k):=⟨h10.cellP aY 4 rfl,fun j z hj=>by rw [acT];exact h10.cellP aV j (by rw [abY];exact hj)⟩;refine rP 0 ?_ (y:=aZ);refine rP 1 ?_ (y:=dV);refine rP 2 ?_ (y:=bW);refine rt 3 (h:=?_);refine gV 4 ak au eU (iI (b:=b3) (o:=0) (aA k) aj Tryz.underlying50 rfl (by rw [iD.out];kernel_rfl) (fun w hw=>hw.2)) aQ gQ ?_;clear hG;refine bY 5 ak au (fun K hK=>?_)
  (refine gZ au ak ak ?_)
  refine (VY HB.out Hk.out (h10.sb:Sat w0 _ (aI pn mp B::pt b3 (.cells (aA k).toArray 50 (0,0))::aW r m seg p ps pn d::pt b7 (.cells (aS pc).toArray 94 (0,0))::aK p m L2::aJ m M2::F))).mono ?_;rintro ee iV ⟨v,rfl,rfl,h11⟩;refine hK _ _ (.inl rfl) ?_;clear hK h10;refine dI au ?_;go_wp2_with (with_reducible apply cO);refine ⟨fG (cs':=#[ptr m,.int .i64 seg,ptr p,ptr ps,ptr pn,.bool true]) (h11.sb:Sat w0 iV (aW r m seg p ps pn d::aI pn (Tab.del mp k) B::pt b3 (.cells (aA k).toArray 50 (0,0))::pt b7 (.cells (aS pc).toArray 94 (0,0))::aK p m L2::aJ m M2::F)) aj aj aj cZ bJ au aj ?_⟩;intro w12 h12;go_wp2_with fail;go_ret;exact ⟨_,rfl,rfl,h12.sb⟩
end
def zI (x:ah.Bs×Seg.aU):Array Value:=#[.agg (aA x.1).toArray,.agg (aS x.2).toArray]
section
variable {w0 w:World}{F:List aH}{p B:Nat}{m:ah.Bs→Option (Seg.aU)}
theorem adX (h:Sat w0 w F):Calls Tryz.prog 135 #[ptr p] w
  (aP fun v w'=>∃ b,v = .func (.func 175) #[] #[ptr b]∧Sat w0 w' (pt b (.cells #[ptr p] 35 (0,0))::F)):=by
 go_enter Tryz.func135,Tryz.ntmps135;go_wp2_with (first|((with_reducible refine fK ⟨?_⟩);refine fM aQ ak ak ?_;intro bB wB hB)|(with_reducible apply gq));go_ret;exact ⟨_,rfl,bB,rfl,hB⟩
abbrev gX.DN:=@aI
abbrev gX.DR:Nat:=35
abbrev gX.abH:Nat:=175
theorem gX.abI:type_of% @Tryz.func175:=@Tryz.func175
theorem gX.abJ:type_of% @Tryz.ntmps175:=@Tryz.ntmps175
theorem gX.abK:type_of% @Qz:=@Qz
abbrev gX.wI:=@zI
theorem gX.abM:type_of% @Tryz.underlying164:=@Tryz.underlying164
theorem gX.abN:type_of% @ug:=@ug
theorem gX.abO:type_of% @Tryz.underlying94:=@Tryz.underlying94
open gX in
theorem adW {b:Nat}{l:List (ah.Bs×Seg.aU)} (hB:B≤13000000) (hl:Tab.Lists m l) :
  Iter Tryz.prog 175 #[ptr b] (l.map zI) w0 [aI p m B,pt b (.cells #[ptr p] 35 (0,0))] [aI p m B,pt b (.cells #[ptr p] 35 (0,0))]:=Y3
end
def rH (b:Nat) (xs:List (ah.Bs×Seg.aU)):aH:=Sl.ex fun ov:Value=>star (pt b (.cells #[ov] 153 (0,0))) (aB 219 35 ov (xs.flatMap jX))
theorem ajY {fn:Func}{t:Tmp} (h:fn.results=#[.tmp t]) (tmps:Array Value) (P:Program) (w:World):(results fn tmps).run P w = .ok (tmps.getD t undef) w:=by
 simp only [results,h];simp
theorem afJ {P:Program}{w0 w:World}{F:List aH}{fn:Func}{a:Act}{K:Ending→World→Prop}{D:Nat}{v:Value} (ha:a.defers=[{ target:= .collected D,args:=#[] }]) (h:Sat w0 w (pt D (.deferred (some []))::F)) (hv:∀ w,(results fn a.tmps).run P w = .ok v w)
  (hK:∀ w',Sat w0 w' F→K (.returned v) w'):NV P fn K .ret a w:=by
 show LeavesInM Fence.wide 0 P fn a.tmps K a.defers .returning w;rw [ha];exact YK h hv hK
section
variable {w0 w:World}{F:List aH}{p B b:Nat}{m:ah.Bs→Option Seg.aU}{kv xs:List (ah.Bs×Seg.aU)}
theorem ZP (h:Sat w0 w (rH b xs::F)):∃ ov,Sat w0 w (pt b (.cells #[ov] 153 (0,0))::aB 219 35 ov (xs.flatMap jX)::F):=by
 obtain ⟨ov,h1⟩:=Sat.ex.1 h;exact ⟨ov,Sat.star.1 h1⟩
theorem ZQ {ov:Value} (h:Sat w0 w (pt b (.cells #[ov] 153 (0,0))::aB 219 35 ov (xs.flatMap jX)::F)):Sat w0 w (rH b xs::F):=Sat.ex.2 ⟨ov,Sat.star.2 h⟩
theorem ana:jr Tryz.prog 153=some (.slice none 0 0):=by kernel_rfl
theorem aha (hl:Tab.Lists m kv) (hB:B≤13000000) (hkl:kv.length≤13000000) (hks:∀ q∈kv,q.1.length=32) (h:Sat w0 w (aI p m B::F)) :
  Calls Tryz.prog 79 #[ptr p] w (aP fun v w'=>Sat w0 w' (aB 219 35 v (kv.flatMap jX)::aI p m B::F)):=by
 have Hl:=uQ hl;have HB:=uQ hB;have oC:=uQ hkl;have iD:=uQ hks;clear hl hB hkl hks;refine Vu Tryz.func79 rfl ?_;simp only [Tryz.ntmps79,abX,ac5,adF,Nat.reduceAdd,Nat.reduceSub,Array.replicate_succ,Array.replicate_zero,List.push_toArray,List.append_toArray,adl,adA];go_wp2_with (with_reducible apply gq);refine ⟨fF ana h rfl ?_⟩;intro b3 w3 h3;go_wp2_with fail;refine (adX h3).mono ?_;rintro ee w4 ⟨v,rfl,bA,rfl,h4⟩;go_wp2_with fail;have h5:Sat w0 w4 (aI p m B::pt bA (.cells #[ptr p] 35 (0,0))::rH b3 (kv.take 0)::F):=by
  have h6:Sat w0 w4 (pt b3 (.cells #[.slice none 0 0] 153 (0,0))::aI p m B::pt bA (.cells #[ptr p] 35 (0,0))::F):=h4.sb;exact (ZQ (xs:=[]) ((Sat.gI.2 h6).sb:Sat w0 w4 (pt b3 (.cells #[.slice none 0 0] 153 (0,0))::aB 219 35 (.slice none 0 0) []::aI p m B::pt bA (.cells #[ptr p] 35 (0,0))::F))).sb
 clear h h3 h4;refine acf (gf:=175) (lb:=#[ptr bA]) aj (fun args w=>by kernel_rfl) (adW HB.out Hl.out) ?_ (fun pre=>rH b3 (kv.take pre.length)::F) h5 ?_ ?_
 ·intro x hx;obtain ⟨p,_,rfl⟩:=abZ.1 hx
  rfl
 ·clear h5;intro l pre x post U W hkv hS T hT;obtain ⟨i,hi⟩:∃ i,i=pre.length:=⟨_,rfl⟩;have hlt:i<kv.length:=by
   have:=adu List.length hkv;rw [abl,aaK,ac5]at this;omega
  obtain ⟨⟨k,y⟩,hy⟩:∃ p,kv[i]?=some p:=⟨_,aaI hlt⟩;obtain rfl:x=zI (k,y):=by
   have e1:(kv.map zI)[i]?=some (zI (k,y)):=by rw [acE,hy];rfl
   rw [hkv,hi,ac0 (abL _),anm,List.getElem?_cons_zero]at e1;exact ahM e1
  have Fq:=iD.out _ (abV hy);have htk:kv.take (i+1)=kv.take i++[(k,y)]:=by rw [adD,hy,agU]
  have hil:(pre++[zI (k,y)]).length=i+1:=by rw [aaK,hi];rfl
  have gY:=uQ htk;have jS:=uQ hil;have oz:=uQ (show k.length=32 from Fq)
  have jJ:=uQ (show ((kv.take i).flatMap jX).length≤2147483648 from by
   rw [iY (k:=35) fun q hq=>rD q (iD.out q (adG hq)),acA];have:=oC.out;omega)
  have hS0:Sat w0 W (rH b3 (kv.take i)::(F++U)):=by rw [hi];exact hS
  clear hkv hS hi hlt hy Fq htk hil;simp [zI]at hT;subst hT;refine wpIn_seq_k fun K hK=>?_;refine uT aj fun K2 hK2=>?_;go_wp2_with (with_reducible apply gq);refine ⟨fF aco hS0 rfl ?_⟩;intro b5 w5 h5;go_wp2_with ((with_reducible refine cO ⟨?_⟩);refine gJ (aA k).toArray h5 aj aj (by rw [abX,aX,oz.out];rfl) cZ (by rw [abX,aX,oz.out];kernel_rfl) (by rw [acW];exact uz _) ?_;intro w6 h6);refine uT aj fun K3 hK3=>?_;go_wp2_with (with_reducible apply gq);refine ⟨fF ng h6 rfl ?_⟩;intro b6 w7 h7;go_wp2_with ((with_reducible refine cO ⟨?_⟩);refine gJ (aS y).toArray h7 aj aj aj cZ au aj ?_;intro w8 h8);refine ⟨pt b6 (.cells (aS y).toArray 94 (0,0))::pt b5 (.cells (aA k).toArray 50 (0,0))::rH b3 (kv.take i)::F,h8,?_⟩;clear h8 h7 h6 h5 hS0;intro U' w9 h9
  have h10:Sat w0 w9 (pt b6 (.cells (aS y).toArray 94 (0,0))::pt b5 (.cells (aA k).toArray 50 (0,0))::rH b3 (kv.take i)::(F++U')):=h9;clear h9;obtain ⟨ov,h11⟩:=ZP (h10.sb:Sat w0 w9 (rH b3 (kv.take i)::pt b6 (.cells (aS y).toArray 94 (0,0))::pt b5 (.cells (aA k).toArray 50 (0,0))::(F++U')));clear h10;obtain ⟨oa,on,oc,rfl,_,_⟩:=Sat.rd (h11.pick aY);refine wpIn_block (uT aj fun K6 hK6=>?_)
  go_wp2_with (first
   |((with_reducible refine bI ⟨?_⟩);first
    |refine iW h11 aj eH Tryz.underlying94 rfl au ?_
    |refine iW h11 aj iJ Tryz.underlying50 rfl (by rw [abX,aX,oz.out];kernel_rfl) ?_
    |refine gu h11 aj aV bJ ak au ?_)
   |((with_reducible refine U7 ⟨?_⟩);refine ab4 aj aj (fun w=>akK k oz.out y w) ?_)
   |((with_reducible refine pI ⟨?_⟩);refine o7 (e:=219) (sz:=35) (eY:=56) (cs:=(jX (k,y)).toArray) au h11 aj rfl (by rw [abX,rD _ oz.out]) bJ ?_;intro bN wN hN)
   |(with_reducible apply lX))
  refine ⟨pW (cs:=(jX (k,y)).toArray) 219 35 56 au hN aj aj eH aV (by rw [abX,rD _ oz.out]) bJ (by rw [acW];exact YD (k,y)) jJ.out (by rw [abX,rD _ oz.out];decide) bJ rfl ?_⟩;intro b' n' c' w12 h12;clear h11 hN;go_wp2_with (with_reducible apply cO);refine ⟨fG (cs':=#[.slice (some ⟨b',0,none⟩) n' c']) (h12.sb:Sat w0 w12 (pt b3 (.cells #[.slice oa on oc] 153 (0,0))::aB 219 35 (.slice (some ⟨b',0,none⟩) n' c') ((kv.take i).flatMap jX++jX (k,y))::(F++U'))) aj aj aj cZ bJ au aj ?_⟩;intro jU h13;go_wp2_with fail;refine ⟨trivial,?_⟩;rw [jS.out,gY.out];have ku:=ZQ (xs:=kv.take i++[(k,y)]) (by rw [adz,ada,anX,acM];exact h13);exact ku
 ·intro D w8 h8;have h9:Sat w0 w8 (aI p m B::pt bA (.cells #[ptr p] 35 (0,0))::rH b3 kv::(F++[pt D (.deferred (some []))])):=by
   have q:=h8;rw [abl,adk]at q;exact q
  have hA:Sat w0 w8 (pt D (.deferred (some []))::aI p m B::pt bA (.cells #[ptr p] 35 (0,0))::rH b3 kv::F):=
   Sat.IC (L:=aI p m B::pt bA (.cells #[ptr p] 35 (0,0))::rH b3 kv::F) (R:=[pt D (.deferred (some []))]) h9
  clear h5 h8 h9;obtain ⟨ov,hB2⟩:=ZP (hA.sb:Sat w0 w8 (rH b3 kv::pt D (.deferred (some []))::aI p m B::F));clear hA;obtain ⟨oa,on,oc,rfl,_,_⟩:=Sat.rd (hB2.pick aY);go_wp2_with ((with_reducible refine bI ⟨?_⟩);refine gu hB2 aj aV bJ ak au ?_);refine afJ rfl (hB2.sb:Sat w0 w8 (pt D (.deferred (some []))::aB 219 35 (.slice oa on oc) (kv.flatMap jX)::aI p m B::F)) (fun w=>ajY (t:=2) aj _ _ w) ?_;intro w9 h9;exact ⟨_,rfl,h9⟩
end
section
variable {w0 w:World}{F:List aH}{m fb nb b r:Nat}{M:ay}{bs:List Nat}{wv v bv:Value}{s:ByteArray}{l:Names}{fs:List bH}{K:Nat}
theorem aaq (hM:M.Ok K) (hK:K≤1099511627776) (h:Sat w0 w (aJ m M::F)) (s t:ByteArray) (ht:t.size≤9223372036854775807) :
  Calls Tryz.prog 142 #[ptr m,.string s,.string t] w (aP fun v w'=>v=errno (M.rename s t).2∧Sat w0 w' (aJ m (M.rename s t).1::F)):=by
 obtain ⟨bs,fb,nb,wv,hl,hR⟩:=aJ.open h;have hg:=Xk t w ht;cases ho:M.off
 ·cases hn:bP M.now s with
  |none=>
   have hf:=zW (s:=s) hR ho hn;have bF:Hid (M.rename s t=(M,9)):=by show _=_;simp [ay.rename,ho,hn]
   clear ho hn;go_enter Tryz.func142,Tryz.ntmps142;go_wp2_with (first|(go_at_call 90;refine hf.mono ?_;rintro e w1 ⟨v,rfl,rfl,rfl⟩));go_ret;exact ⟨errno 9,rfl,by rw [bF.out],by rw [bF.out];exact h⟩
  |some i=>
   have hf:=zY (s:=s) hR ho hn;cases hgs:good t
   ·rw [hgs]at hg;have bF:Hid (M.rename s t=(M,7)):=by show _=_;simp [ay.rename,ho,hn,hgs]
    clear ho hn hgs;go_enter Tryz.func142,Tryz.ntmps142;go_wp2_with (first|(go_at_call 90;refine hf.mono ?_;rintro e w1 ⟨v,rfl,rfl,rfl⟩)|(go_at_call 176;refine hg.mono ?_;rintro e w1 ⟨v,rfl,rfl,rfl⟩));go_ret;exact ⟨errno 7,rfl,by rw [bF.out],by rw [bF.out];exact h⟩
   rw [hgs]at hg;have hst:=BF hR hM.left;cases hstep:M.step.2
   ·rw [hstep]at hst;have bF:Hid (M.rename s t=(M.step.1,12)):=by show _=_;simp [ay.rename,ho,hn,hgs,hstep]
    clear ho hn hstep hgs;go_enter Tryz.func142,Tryz.ntmps142;go_wp2_with (first|(go_at_call 90;refine hf.mono ?_;rintro e w1 ⟨v,rfl,rfl,rfl⟩)|(go_at_call 176;refine hg.mono ?_;rintro e w1 ⟨v,rfl,rfl,rfl⟩)|(go_at_call 128;refine hst.mono ?_;rintro e w1 ⟨v,rfl,rfl,hS1⟩));go_ret;refine ⟨errno 12,rfl,by rw [bF.out],?_⟩;rw [bF.out];exact aJ.shut (bs:=bs) (fb:=fb) (nb:=nb) (wv:=wv) (by rw [M.jL.2.2.2.1];exact hl) (tJ hS1)
   ·rw [hstep]at hst;have bF:Hid (M.rename s t=(M.step.1.link ⟨s,t,i⟩,0)):=by show _=_;simp [ay.rename,ho,hn,hgs,hstep]
    have hne:=qP hgs;have hl':bs.length=M.step.1.files.length:=by rw [M.jL.2.2.2.1];exact hl
    have hlp:nZ bs ⟨s,t,i⟩=ptr (bs.getD i 0):=by unfold nZ;rw [abA hne]
    have zo:=uQ hl';have Me:=uQ hlp;clear ho hn hstep hgs hne hl' hlp;generalize hq:bs.getD i 0=q at hf;have Hq:=uQ hq;clear hq;go_enter Tryz.func142,Tryz.ntmps142;go_wp2_with (first|(go_at_call 90;refine hf.mono ?_;rintro e w1 ⟨v,rfl,rfl,rfl⟩)|(go_at_call 176;refine hg.mono ?_;rintro e w1 ⟨v,rfl,rfl,rfl⟩)|(go_at_call 128;fail));refine hst.mono ?_;rintro e w1 ⟨v,rfl,rfl,hS1⟩;have hlk:=YN hM.step hK zo.out ⟨s,t,i⟩ (tJ hS1);rw [Me.out,Hq.out]at hlk;go_wp2_with (go_at_call 129;go_must (refine hlk.mono ?_);rintro e w2 ⟨v2,rfl,hS2⟩);go_ret;refine ⟨errno 0,rfl,by rw [bF.out],?_⟩;rw [bF.out];exact hS2
 ·have hf:=zX (s:=s) hR ho;have bF:Hid (M.rename s t=(M,12)):=by show _=_;simp [ay.rename,ho]
  clear ho;go_enter Tryz.func142,Tryz.ntmps142;go_wp2_with (first|(go_at_call 90;refine hf.mono ?_;rintro e w1 ⟨v,rfl,rfl,rfl⟩));go_ret;exact ⟨errno 12,rfl,by rw [bF.out],by rw [bF.out];exact h⟩
end
section
variable {w0 w:World}{F:List aH}{v bv:Value}{q m K:Nat}{M:ay}
theorem OT (hM:M.Ok K) (s:ByteArray) (h:Sat w0 w (aJ m M::F)):Calls Tryz.prog 139 #[ptr m,.string s] w (aP fun v w'=>v = .bool (aC.there M s)∧w=w'):=by
 have hs:=KE hM h s;have Hf:=uQ (show aC.there M s=decide ((M.size s).2=0) from rfl);generalize M.size s=r at *
 obtain ⟨n,e⟩:=r;dsimp only at hs;have hb:(e==0)=decide (e=0):=by rw [anu,ai7,acF]
 go_enter Tryz.func139,Tryz.ntmps139;go_wp2_with fail;refine hs.mono ?_;rintro ee w1 ⟨v,rfl,rfl,rfl⟩;clear hs;go_wp2;go_ret;rw [Hf.out];exact ⟨_,rfl,by first|rfl|(rw [← hb];rfl)|simp,rfl⟩
theorem Yp (hM:M.Ok K) (hK:K+4≤1099511627776) (s:ByteArray) (hs:s.size≤9223372036854775807) (b:Bs) (hr:Ro w0 F (bG 1 bv (aA b))) (hbv:∃ a n c,bv = .slice a n c) (h:Sat w0 w (aJ m M::F)) :
  Calls Tryz.prog 81 #[ptr m,.string s,bv] w (aP fun v w'=>v=errno (aC.write M s b).2∧Sat w0 w' (aJ m (aC.write M s b).1::F)):=by
 obtain ⟨ba,bn,bc,rfl⟩:=hbv;have Hr:=uQ hr;have Hs:=uQ hs;have hth:=OT hM aC.tmp h;clear hr hs;cases ht:aC.there M aC.tmp with
 |false=>
  have HX:=uQ (show aC.write M s b=(if (M.create aC.tmp).2=0 then aC.fill (M.create aC.tmp).1 s b else M.create aC.tmp) by unfold aC.write aC.tK;rw [ht];rfl);rw [ht]at hth;clear ht;go_enter Tryz.func81,Tryz.ntmps81;go_wp2_with fail;refine hth.mono ?_;rintro ee w1 ⟨v,rfl,rfl,rfl⟩;clear hth;have hcr:=NR hM oQ h aC.tmp aN;have ok1:=hM.create aC.tmp;generalize M.create aC.tmp=r1 at *
  obtain ⟨M1,e1⟩:=r1;dsimp only at hcr ok1;clear h;go_wp2_with fail;refine hcr.mono ?_;rintro ee w3 ⟨v,rfl,rfl,h3⟩;clear hcr;by_cases c1:e1=0;rotate_left
  ·have hb1:(e1 != 0)=true:=agL.2 c1;have HF:=uQ (show aC.write M s b=(M1,e1) from HX.out.trans (abA c1));clear c1;go_wp2;go_ret;rw [HF.out];exact ⟨_,rfl,rfl,h3⟩
  subst c1;have HY:=uQ (show aC.write M s b=aC.fill M1 s b from HX.out.trans (acr rfl));clear HX;have hap:=IG ok1 oQ h3 aC.tmp b Hr.out;have ok2:=ok1.append aC.tmp b
  have HE:=uQ (show aC.fill M1 s b=(if (M1.append aC.tmp b).2=0 then
    (if ((M1.append aC.tmp b).1.sync aC.tmp).2=0 then ((M1.append aC.tmp b).1.sync aC.tmp).1.rename aC.tmp s else (M1.append aC.tmp b).1.sync aC.tmp)
   else if (M1.append aC.tmp b).2=11 then
    (if ((M1.append aC.tmp b).1.remove aC.tmp).2=0 then (((M1.append aC.tmp b).1.remove aC.tmp).1,11) else (M1.append aC.tmp b).1.remove aC.tmp)
   else M1.append aC.tmp b) from rfl)
  generalize M1.append aC.tmp b=r2 at *
  obtain ⟨M2,e2⟩:=r2;dsimp only at hap ok2;clear h3;go_wp2_with fail;refine hap.mono ?_;rintro ee w4 ⟨v,rfl,rfl,h4⟩;clear hap;by_cases c2:e2=0;rotate_left
  ·have hb2:(e2 != 0)=true:=agL.2 c2;by_cases c3:e2=11
   ·subst c3;have hrm:=Du ok2 oQ h4 aC.tmp;have HG:=uQ (show aC.write M s b=(if (M2.remove aC.tmp).2=0 then ((M2.remove aC.tmp).1,11) else M2.remove aC.tmp) from HY.out.trans (HE.out.trans ((abA c2).trans (acr rfl))));generalize M2.remove aC.tmp=r3 at *
    obtain ⟨M3,e3⟩:=r3;dsimp only at hrm;clear h4 c2 HY HE;go_wp2_with fail;refine hrm.mono ?_;rintro ee w5 ⟨v,rfl,rfl,h5⟩;clear hrm;by_cases c4:e3=0
    ·have hb3:(e3 != 0)=false:=by rw [c4];rfl
     have HF:=uQ (HG.out.trans (acr c4));clear c4;go_wp2;go_ret;rw [HF.out];exact ⟨_,rfl,rfl,h5⟩
    ·have hb3:(e3 != 0)=true:=agL.2 c4;have HF:=uQ (HG.out.trans (abA c4));clear c4;go_wp2;go_ret;rw [HF.out];exact ⟨_,rfl,rfl,h5⟩
   ·have hb3:(e2==11)=false:=acH.2 c3;have HF:=uQ (show aC.write M s b=(M2,e2) from HY.out.trans (HE.out.trans ((abA c2).trans (abA c3))));clear c2 c3;go_wp2;go_ret;rw [HF.out];exact ⟨_,rfl,rfl,h4⟩
  subst c2;have hsy:=KN ok2 h4 aC.tmp;have yG:=ok2.sync aC.tmp;have HG:=uQ (show aC.write M s b=(if (M2.sync aC.tmp).2=0 then (M2.sync aC.tmp).1.rename aC.tmp s else M2.sync aC.tmp) from HY.out.trans (HE.out.trans (acr rfl)));generalize M2.sync aC.tmp=r3 at *
  obtain ⟨M3,e3⟩:=r3;dsimp only at hsy yG;clear h4 HY HE;go_wp2_with fail;refine hsy.mono ?_;rintro ee w5 ⟨v,rfl,rfl,h5⟩;clear hsy;by_cases c4:e3=0;rotate_left
  ·have hb3:(e3 != 0)=true:=agL.2 c4;have HF:=uQ (show aC.write M s b=(M3,e3) from HG.out.trans (abA c4));clear c4;go_wp2;go_ret;rw [HF.out];exact ⟨_,rfl,rfl,h5⟩
  subst c4;have hre:=aaq yG oQ h5 aC.tmp s Hs.out;have HF:=uQ (show aC.write M s b=M3.rename aC.tmp s from HG.out.trans (acr rfl));generalize M3.rename aC.tmp s=r4 at *
  obtain ⟨M4,e4⟩:=r4;dsimp only at hre;clear h5;go_wp2_with fail;refine hre.mono ?_;rintro ee w6 ⟨v,rfl,rfl,h6⟩;clear hre;go_wp2;go_ret;rw [HF.out];exact ⟨_,rfl,rfl,h6⟩
 |true=>
  rw [ht]at hth;have hrm:=Du hM oQ h aC.tmp;have okR:=hM.remove aC.tmp;have HR:=uQ (show aC.write M s b=(if (M.remove aC.tmp).2=0 then (if ((M.remove aC.tmp).1.create aC.tmp).2=0 then aC.fill ((M.remove aC.tmp).1.create aC.tmp).1 s b else (M.remove aC.tmp).1.create aC.tmp) else M.remove aC.tmp) by unfold aC.write aC.tK;rw [ht];rfl);generalize M.remove aC.tmp=r0 at *
  obtain ⟨M0,e0⟩:=r0;dsimp only at hrm okR;clear ht;go_enter Tryz.func81,Tryz.ntmps81;go_wp2_with fail;refine hth.mono ?_;rintro ee w1 ⟨v,rfl,rfl,rfl⟩;clear hth;go_wp2_with fail;refine hrm.mono ?_;rintro ee w2 ⟨v,rfl,rfl,h2⟩;clear hrm h;by_cases c0:e0=0;rotate_left
  ·have hb0:(e0 != 0)=true:=agL.2 c0;have HF:=uQ (show aC.write M s b=(M0,e0) from HR.out.trans (abA c0));clear c0;go_wp2;go_ret;rw [HF.out];exact ⟨_,rfl,rfl,h2⟩
  subst c0;have HX:=uQ (show aC.write M s b=(if (M0.create aC.tmp).2=0 then aC.fill (M0.create aC.tmp).1 s b else M0.create aC.tmp) from HR.out.trans (acr rfl));clear HR;have hcr:=NR okR oQ h2 aC.tmp aN;have ok1:=okR.create aC.tmp;generalize M0.create aC.tmp=r1 at *
  obtain ⟨M1,e1⟩:=r1;dsimp only at hcr ok1;clear h2;go_wp2_with fail;refine hcr.mono ?_;rintro ee w3 ⟨v,rfl,rfl,h3⟩;clear hcr;by_cases c1:e1=0;rotate_left
  ·have hb1:(e1 != 0)=true:=agL.2 c1;have HF:=uQ (show aC.write M s b=(M1,e1) from HX.out.trans (abA c1));clear c1;go_wp2;go_ret;rw [HF.out];exact ⟨_,rfl,rfl,h3⟩
  subst c1;have HY:=uQ (show aC.write M s b=aC.fill M1 s b from HX.out.trans (acr rfl));clear HX;have hap:=IG ok1 oQ h3 aC.tmp b Hr.out;have ok2:=ok1.append aC.tmp b
  have HE:=uQ (show aC.fill M1 s b=(if (M1.append aC.tmp b).2=0 then
    (if ((M1.append aC.tmp b).1.sync aC.tmp).2=0 then ((M1.append aC.tmp b).1.sync aC.tmp).1.rename aC.tmp s else (M1.append aC.tmp b).1.sync aC.tmp)
   else if (M1.append aC.tmp b).2=11 then
    (if ((M1.append aC.tmp b).1.remove aC.tmp).2=0 then (((M1.append aC.tmp b).1.remove aC.tmp).1,11) else (M1.append aC.tmp b).1.remove aC.tmp)
   else M1.append aC.tmp b) from rfl)
  generalize M1.append aC.tmp b=r2 at *
  obtain ⟨M2,e2⟩:=r2;dsimp only at hap ok2;clear h3;go_wp2_with fail;refine hap.mono ?_;rintro ee w4 ⟨v,rfl,rfl,h4⟩;clear hap;by_cases c2:e2=0;rotate_left
  ·have hb2:(e2 != 0)=true:=agL.2 c2;by_cases c3:e2=11
   ·subst c3;have hrm:=Du ok2 oQ h4 aC.tmp;have HG:=uQ (show aC.write M s b=(if (M2.remove aC.tmp).2=0 then ((M2.remove aC.tmp).1,11) else M2.remove aC.tmp) from HY.out.trans (HE.out.trans ((abA c2).trans (acr rfl))));generalize M2.remove aC.tmp=r3 at *
    obtain ⟨M3,e3⟩:=r3;dsimp only at hrm;clear h4 c2 HY HE;go_wp2_with fail;refine hrm.mono ?_;rintro ee w5 ⟨v,rfl,rfl,h5⟩;clear hrm;by_cases c4:e3=0
    ·have hb3:(e3 != 0)=false:=by rw [c4];rfl
     have HF:=uQ (HG.out.trans (acr c4));clear c4;go_wp2;go_ret;rw [HF.out];exact ⟨_,rfl,rfl,h5⟩
    ·have hb3:(e3 != 0)=true:=agL.2 c4;have HF:=uQ (HG.out.trans (abA c4));clear c4;go_wp2;go_ret;rw [HF.out];exact ⟨_,rfl,rfl,h5⟩
   ·have hb3:(e2==11)=false:=acH.2 c3;have HF:=uQ (show aC.write M s b=(M2,e2) from HY.out.trans (HE.out.trans ((abA c2).trans (abA c3))));clear c2 c3;go_wp2;go_ret;rw [HF.out];exact ⟨_,rfl,rfl,h4⟩
  subst c2;have hsy:=KN ok2 h4 aC.tmp;have yG:=ok2.sync aC.tmp;have HG:=uQ (show aC.write M s b=(if (M2.sync aC.tmp).2=0 then (M2.sync aC.tmp).1.rename aC.tmp s else M2.sync aC.tmp) from HY.out.trans (HE.out.trans (acr rfl)));generalize M2.sync aC.tmp=r3 at *
  obtain ⟨M3,e3⟩:=r3;dsimp only at hsy yG;clear h4 HY HE;go_wp2_with fail;refine hsy.mono ?_;rintro ee w5 ⟨v,rfl,rfl,h5⟩;clear hsy;by_cases c4:e3=0;rotate_left
  ·have hb3:(e3 != 0)=true:=agL.2 c4;have HF:=uQ (show aC.write M s b=(M3,e3) from HG.out.trans (abA c4));clear c4;go_wp2;go_ret;rw [HF.out];exact ⟨_,rfl,rfl,h5⟩
  subst c4;have hre:=aaq yG oQ h5 aC.tmp s Hs.out;have HF:=uQ (show aC.write M s b=M3.rename aC.tmp s from HG.out.trans (acr rfl));generalize M3.rename aC.tmp s=r4 at *
  obtain ⟨M4,e4⟩:=r4;dsimp only at hre;clear h5;go_wp2_with fail;refine hre.mono ?_;rintro ee w6 ⟨v,rfl,rfl,h6⟩;clear hre;go_wp2;go_ret;rw [HF.out];exact ⟨_,rfl,rfl,h6⟩
end
abbrev mM (b ps:Nat):aH:=pt b (.cells #[ptr ps] 33 (0,0))
section
variable {w0 w:World}{F:List aH}{m K b3 ps pi B:Nat}{M:ay}{n:Int}{uv tv:Value}{mp:ah.Bs→Option Seg.aU}
theorem ahc (f:ByteArray) (hf:f.size≤4000000000) (h:Sat w0 w (mM b3 ps::dh ps n pi uv tv::F)) :
  Calls Tryz.prog 84 #[.string f,ptr b3] w (aP fun v w'=>v = .bool (aC.other n f)∧Sat w0 w' (mM b3 ps::dh ps n pi uv tv::F)):=by
 have Ho:=uQ (show aC.other n f=((aC.number f).2 && (aC.number f).1 != n) from rfl);have hn:=X6 f hf h;generalize aC.number f=q at *
 obtain ⟨x,t⟩:=q;dsimp only at hn;clear h;go_enter Tryz.func84,Tryz.ntmps84;go_wp2_with fail;refine hn.mono ?_;rintro ee w1 ⟨v,rfl,rfl,h1⟩;clear hn;cases t with
 |false=>
  go_wp2_with fail;go_ret;exact ⟨_,rfl,by rw [Ho.out];rfl,h1⟩
 |true=>
  have e1:w1.cell? ⟨b3,0,none⟩=some (.pointer (some ⟨ps,0,none⟩)):=h1.cellP aV 0 rfl;have e2:w1.cell? ⟨ps,0,none⟩=some (.int .i64 n):=h1.cellP aY 0 rfl;go_wp2_with fail;go_ret;exact ⟨_,rfl,by rw [Ho.out];rfl,h1⟩
theorem aiU (hM:M.Ok K) (s:ByteArray) (b:ah.Bs):(aC.fill M s b).1.Ok (K+3):=by
 unfold aC.fill;split
 ·split
  ·exact ((hM.append _ _).sync _).rename _ _
  ·exact ((hM.append _ _).sync _).mono oQ
 ·split
  ·split
   ·exact ((hM.append _ _).remove _).mono oQ
   ·exact ((hM.append _ _).remove _).mono oQ
  ·exact (hM.append _ _).mono oQ
theorem ZL (hM:M.Ok K) (s:ByteArray) (b:ah.Bs):(aC.write M s b).1.Ok (K+5):=by
 have hr:(aC.tK M).1.Ok (K+1):=by
  unfold aC.tK;split
  ·exact hM.remove _
  ·exact hM.mono oQ
 unfold aC.write;split
 ·split
  ·exact aiU (hr.create _) _ _
  ·exact (hr.create _).mono oQ
 ·exact hr.mono oQ
theorem JF {ld:ByteArray} (hl:ld.data.toList.length=4) (hg:ld.data.toList.all nU=true) (h1:0≤n) (h2:n<1048576):(aC.name ld n).size≤24∧((aC.name ld n).toList==[])=false:=by
 have h:=aC.AQ hl hg n h1 h2;unfold good at h;simp only [adg,acF]at h;refine ⟨h.1.2,?_⟩;rw [acH,ByteArray.toList_eq];intro e;have:=adu List.length e;rw [acJ]at this;have h3:(aC.name ld n).size=0:=this;omega
end
section
variable {w0 w:World}{F:List aH}{m K b3 ps pi B:Nat}{M:ay}{n:Int}{uv tv:Value}{mp:ah.Bs→Option Seg.aU}
theorem al1 (hM:M.Ok K) (hK:K+500≤1099511627776) (hno:∀ f∈M.list,f.size≤4000000000) (h:Sat w0 w (aJ m M::mM b3 ps::dh ps n pi uv tv::F)) :
  Calls Tryz.prog 83 #[ptr m,.func (.func 84) #[] #[ptr b3]] w (aP fun v w'=>v=errno (aC.sweep (aC.other n) M.list M).2∧Sat w0 w' (aJ m (aC.sweep (aC.other n) M.list M).1::mM b3 ps::dh ps n pi uv tv::F)):=by
 have hls:=JB hM h;have Hlen:=uQ (YP hM);have Hn:=uQ hno;have HK:=uQ hK;have HM:=uQ hM;clear hno hM hK;generalize M.list=l at *
 obtain ⟨R,hR⟩:∃ R,aC.sweep (aC.other n) l M=R:=⟨_,rfl⟩;have HR:=uQ hR;rw [hR];clear hR;go_enter Tryz.func83,Tryz.ntmps83;go_wp2_with fail;refine hls.mono ?_;rintro e w1 ⟨v,rfl,hS,_⟩;clear hls h;obtain ⟨a,c,rfl⟩:=Zq (Sat.rd hS);go_wp2_with fail
 go_loopg [11] l.length (fun g iq wr=>∃ (i:Nat) (M2:ay),g=l.length - i∧i≤l.length∧iq = .int .i64 i∧(aC.sweep (aC.other n) (l.drop i) M2=R∧M2.Ok (K+i))∧Sat w0 wr (aB 9 1 (.slice a l.length c) (strs l)::aJ m M2::mM b3 ps::dh ps n pi uv tv::F))
 case atStart=>exact ⟨0,M,rfl,acV _,rfl,⟨by rw [aoy];exact HR.out,HM.out⟩,hS⟩
 case round=>
  obtain ⟨i,M2,rfl,hi,rfl,⟨hsw,hok⟩,hS2⟩:=hrel;clear hS;by_cases hlt:i<l.length
  ·have c1:(i:Int)<(l.length:Int):=by omega
   have hwi:IntKind.i64.wrap ((i:Int)+1)=(i:Int)+1:=acC _ (by have:=Hlen.out;omega);obtain ⟨s,hs⟩:∃ s,l[i]?=some s:=⟨_,aaI hlt⟩;obtain ⟨bk,off,rfl,hc⟩:=PZ (Sat.rd hS2) hs;have hsz:=Hn.out s (abV hs);have hd:l.drop i=s::l.drop (i+1):=by
    rw [aic hlt];rw [aaI hlt]at hs;cases hs;rfl
   rw [hd]at hsw;have bV:=uQ hlt;have dw:=uQ hok;have hcl:=ahc s hsz (hS2.sb:Sat w0 wr (mM b3 ps::dh ps n pi uv tv::aB 9 1 (.slice (some ⟨bk,off,none⟩) l.length c) (strs l)::aJ m M2::F));cases hso:aC.other n s with
   |false=>
    have zF:=uQ (show aC.sweep (aC.other n) (l.drop (i+1)) M2=R by unfold aC.sweep at hsw;rwa [abA (by rw [hso];decide)]at hsw);rw [hso]at hcl;clear hs hlt hi hso hsw hd hok;go_wp2_with fail;refine hcl.mono ?_;rintro e w2 ⟨v,rfl,rfl,hS3⟩;clear hS2 hc hcl;go_wp2_with fail
    go_roundg (l.length - (i+1))
    case measure=>have:=bV.out;omega
    case rel=>exact ⟨i+1,M2,rfl,adi bV.out,by first|rfl|go_num,⟨zF.out,dw.out.mono oQ⟩,hS3.sb⟩
   |true=>
    have zF:=uQ (show (if (M2.remove s).2=0 then aC.sweep (aC.other n) (l.drop (i+1)) (M2.remove s).1 else M2.remove s)=R by unfold aC.sweep at hsw;rwa [acr hso]at hsw);rw [hso]at hcl;have MP:=uQ (fun (w':World) (hw:Sat w0 w' (aJ m M2::mM b3 ps::dh ps n pi uv tv::aB 9 1 (.slice (some ⟨bk,off,none⟩) l.length c) (strs l)::F))=>Du hok (by have:=HK.out;have:=Hlen.out;omega) hw s);have lM:=uQ (hok.remove s);generalize M2.remove s=q at *
    obtain ⟨M3,q3⟩:=q;dsimp only at MP lM zF;clear hlt hi hso hsw hd hok;go_wp2_with fail;refine hcl.mono ?_;rintro e w2 ⟨v,rfl,rfl,hS3⟩;clear hS2 hcl;have hS4:Sat w0 w2 (aB 9 1 (.slice (some ⟨bk,off,none⟩) l.length c) (strs l)::aJ m M2::mM b3 ps::dh ps n pi uv tv::F):=hS3.sb;obtain ⟨Ny,off',Oz,hc'⟩:=PZ (Sat.rd hS4) hs;cases Oz;by_cases c3:q3=0
    ·have hb1:(q3 != 0)=false:=by rw [c3];rfl
     have qX:=uQ (show aC.sweep (aC.other n) (l.drop (i+1)) M3=R from (acr c3).symm.trans zF.out);clear c3 hc hs zF;go_wp2_with fail;refine (MP.out _ (hS3.sb)).mono ?_;rintro e w3 ⟨v,rfl,rfl,hS5⟩;clear hS3 hS4 hc';go_wp2_with fail
     go_roundg (l.length - (i+1))
     case measure=>have:=bV.out;omega
     case rel=>exact ⟨i+1,M3,rfl,adi bV.out,by first|rfl|go_num,⟨qX.out,lM.out⟩,hS5.sb⟩
    ·have hb1:(q3 != 0)=true:=agL.2 c3;have qX:=uQ (show (M3,q3)=R from (abA c3).symm.trans zF.out);clear c3 hc hs zF;go_wp2_with fail;refine (MP.out _ (hS3.sb)).mono ?_;rintro e w3 ⟨v,rfl,rfl,hS5⟩;clear hS3 hS4 hc';go_wp2_with fail;go_ret;exact ⟨_,rfl,by rw [← qX.out];rfl,by rw [← qX.out];exact hS5.sb⟩
  ·have c1:¬ (i:Int)<(l.length:Int):=by omega
   obtain rfl:i=l.length:=by omega
   have qX:=uQ (show (M2,0)=R by rw [List.drop_length]at hsw;exact hsw);clear hlt hi hsw hok;go_wp2_with fail;go_ret;exact ⟨_,rfl,by rw [← qX.out];rfl,by rw [← qX.out];exact hS2.drop⟩
theorem Yg (hM:M.Ok K) (hK:K+600≤1099511627776) (hn0:0≤n) (hn1:n<1048576) (kv:List (ah.Bs×Seg.aU)) (hl:Tab.Lists mp kv) (hB:B≤13000000) (hk:∀ q∈kv,q.1.length=32) (us:List Rep.Use) (hoi:dF.Ok 3 true (kv.map Rep.lF)) (hou:dF.Ok 3 false (us.map Rep.lH))
  (bi bu:ah.Bs) (hbi:bi=dF.book Xx.sum dF.AO true (kv.map Rep.lF)) (hbu:bu=dF.book Xx.sum dF.AP false (us.map Rep.lH))
  (hno:∀ f∈(aC.write (aC.write M (aC.name aC.idx n) bi).1 (aC.name aC.use n) bu).1.dR.1.list,f.size≤4000000000)
  (h:Sat w0 w (dh ps n pi uv tv::aI pi mp B::aB 45 3 uv (us.flatMap bT)::aJ m M::F)) :
  Calls Tryz.prog 40 #[ptr m,ptr ps] w (aP fun v w'=>v=errno (aC.save M n bi bu).2∧Sat w0 w' (dh ps n pi uv tv::aI pi mp B::aB 45 3 uv (us.flatMap bT)::aJ m (aC.save M n bi bu).1::F)):=by
 obtain ⟨z1,z2⟩:=JF (ld:=aC.idx) rfl aN hn0 hn1;obtain ⟨z3,_⟩:=JF (ld:=aC.use) rfl aN hn0 hn1;have hkl:kv.length≤13000000:=by have:=hoi.len;rw [abl]at this;omega
 have HM:=uQ hM;have HK:=uQ hK;have Hl:=uQ hl;have HB:=uQ hB;have Hk:=uQ hk;have zy:=uQ hoi;have zA:=uQ hou;have Hno:=uQ hno;have oC:=uQ hkl;have Hbi:=uQ hbi;have Hbu:=uQ hbu;have Hz1:=uQ z1;have Hz3:=uQ z3;have Io:=uQ (fun (w':World) (R:List aH) (hw:Sat w0 w' R)=>Yw n hw);have Hum:=uQ (fun (w':World) (R:List aH) (hw:Sat w0 w' R)=>aby n hw);have HS:=uQ (show aC.save M n bi bu=if (aC.write M (aC.name aC.idx n) bi).2=0 then aC.Rh (aC.write M (aC.name aC.idx n) bi).1 n bu else aC.write M (aC.name aC.idx n) bi from rfl);clear hM hK hl hB hk hoi hou hno hbi hbu hkl z1 z3;generalize hni:aC.name aC.idx n=ni at *
 generalize hnu:aC.name aC.use n=nu at *
 have Hnu:=uQ hnu;clear hni hnu;go_enter Tryz.func40,Tryz.ntmps40;go_wp2_with (with_reducible apply fK);refine ⟨fM h aj aj ?_⟩;intro b3 w3 h3;replace h3:Sat w0 w3 (mM b3 ps::dh ps n pi uv tv::aI pi mp B::aB 45 3 uv (us.flatMap bT)::aJ m M::F):=h3;clear h;have e1:w3.cell? ⟨b3,0,none⟩=some (.pointer (some ⟨ps,0,none⟩)):=h3.cellP aV 0 rfl;have e2:w3.cell? ⟨ps,1,none⟩=some (.pointer (some ⟨pi,0,none⟩)):=h3.cellP aY 1 rfl;have e3:w3.cell? ⟨ps,0,none⟩=some (.int .i64 n):=h3.cellP aY 0 rfl;go_wp2_with fail;refine (Io.out _ _ h3).mono ?_;rintro ee w4 ⟨v,rfl,rfl,h4⟩;clear h3 e1 e2 e3;have e1:w4.cell? ⟨b3,0,none⟩=some (.pointer (some ⟨ps,0,none⟩)):=h4.cellP aV 0 rfl;have e2:w4.cell? ⟨ps,1,none⟩=some (.pointer (some ⟨pi,0,none⟩)):=h4.cellP aY 1 rfl;go_wp2_with fail
 refine (aha Hl.out HB.out oC.out Hk.out (h4.sb:Sat w0 w4 (aI pi mp B::mM b3 ps::dh ps n pi uv tv::aB 45 3 uv (us.flatMap bT)::aJ m M::F))).mono ?_;rintro ee w5 ⟨rv,rfl,h5⟩;clear h4 e1 e2;go_wp2_with fail;refine (aeu kv Hk.out zy.out (fun w hw=>Sat.rd hw) h5).mono ?_;rintro ee w6 ⟨v,rfl,iv,rfl,h6⟩;clear h5;rw [← Hbi.out]at h6;replace h6:Sat w0 w6 (jk iv bi::mM b3 ps::dh ps n pi uv tv::aI pi mp B::aB 45 3 uv (us.flatMap bT)::aJ m M::F):=h6.sb;have e1:w6.cell? ⟨b3,0,none⟩=some (.pointer (some ⟨ps,0,none⟩)):=h6.cellP aY 0 rfl;have e2:w6.cell? ⟨ps,2,none⟩=some uv:=h6.cellP eH 2 rfl;go_wp2_with fail;refine (aey us zA.out (fun w hw=>Sat.rd (hw.sb:Sat w0 w (aB 45 3 uv (us.flatMap bT)::jk iv bi::mM b3 ps::dh ps n pi uv tv::aI pi mp B::aJ m M::F))) h6).mono ?_;rintro ee w7 ⟨v,rfl,uw,rfl,h7⟩;clear h6 e1 e2;rw [← Hbu.out]at h7
 have e1:w7.cell? ⟨b3,0,none⟩=some (.pointer (some ⟨ps,0,none⟩)):=h7.cellP eH 0 rfl;have e3:w7.cell? ⟨ps,0,none⟩=some (.int .i64 n):=h7.cellP iJ 0 rfl;go_wp2_with fail;refine (Io.out _ _ h7).mono ?_;rintro ee w8 ⟨v,rfl,rfl,h8⟩;clear h7 e1 e3;replace h8:Sat w0 w8 (aJ m M::jk uw bu::jk iv bi::mM b3 ps::dh ps n pi uv tv::aI pi mp B::aB 45 3 uv (us.flatMap bT)::F):=h8.sb;have uJ:=(RS.P9 (h8.sb:Sat w0 w8 (jk iv bi::aJ m M::jk uw bu::mM b3 ps::dh ps n pi uv tv::aI pi mp B::aB 45 3 uv (us.flatMap bT)::F)));obtain ⟨ia,il,ic,rfl,_,_⟩:=uJ.cap;have hw1:=Yp HM.out (by have:=HK.out;omega) ni (by have:=Hz1.out;omega) bi (bv:= .slice ia il ic) (fun w hw=>Nh (hw.sb:Sat w0 w (jk (.slice ia il ic) bi::jk uw bu::mM b3 ps::dh ps n pi uv tv::aI pi mp B::aB 45 3 uv (us.flatMap bT)::F))) ⟨_,_,_,rfl⟩ h8;have ok1:=ZL HM.out ni bi;clear uJ;generalize aC.write M ni bi=r1 at *
 obtain ⟨M1,q1⟩:=r1;dsimp only at hw1 ok1 HS Hno;go_wp2_with fail;refine hw1.mono ?_;rintro ee w9 ⟨v,rfl,rfl,h9⟩;clear hw1 h8;by_cases c1:q1=0;rotate_left
 ·have hb1:(q1 != 0)=true:=agL.2 c1;have HF:=uQ (show aC.save M n bi bu=(M1,q1) from HS.out.trans (abA c1));clear c1;go_wp2_with fail;go_ret;exact ⟨_,rfl,by rw [HF.out];rfl,by rw [HF.out];exact h9.sb⟩
 ·have D9:=uQ (show aC.save M n bi bu=(if (aC.write M1 (aC.name aC.use n) bu).2=0 then aC.Ri (aC.write M1 (aC.name aC.use n) bu).1 n else aC.write M1 (aC.name aC.use n) bu) from HS.out.trans (acr c1));rw [Hnu.out]at D9;subst c1;have e1:w9.cell? ⟨b3,0,none⟩=some (.pointer (some ⟨ps,0,none⟩)):=h9.cellP iJ 0 rfl;have e3:w9.cell? ⟨ps,0,none⟩=some (.int .i64 n):=h9.cellP (aT iJ) 0 rfl;go_wp2_with fail;refine (Hum.out _ _ h9).mono ?_;rintro ee w10 ⟨v,rfl,rfl,h10⟩;clear h9 e1 e3;replace h10:Sat w0 w10 (aJ m M1::jk uw bu::mM b3 ps::dh ps n pi uv tv::aI pi mp B::aB 45 3 uv (us.flatMap bT)::F):=h10.sb;have uJ:=(RS.P9 (h10.sb:Sat w0 w10 (jk uw bu::aJ m M1::mM b3 ps::dh ps n pi uv tv::aI pi mp B::aB 45 3 uv (us.flatMap bT)::F)));obtain ⟨ua,ul,uc,rfl,_,_⟩:=uJ.cap
  have hw2:=Yp ok1 (by have:=HK.out;omega) nu (by have:=Hz3.out;omega) bu (bv:= .slice ua ul uc) (fun w hw=>Nh (hw.sb:Sat w0 w (jk (.slice ua ul uc) bu::mM b3 ps::dh ps n pi uv tv::aI pi mp B::aB 45 3 uv (us.flatMap bT)::F))) ⟨_,_,_,rfl⟩ h10;have ok2:=ZL ok1 nu bu;clear uJ HS;generalize aC.write M1 nu bu=r2 at *
  obtain ⟨M2,q2⟩:=r2;dsimp only at hw2 ok2 D9 Hno;go_wp2_with fail;refine hw2.mono ?_;rintro ee iV ⟨v,rfl,rfl,h11⟩;clear hw2 h10;by_cases c2:q2=0;rotate_left
  ·have hb1:(q2 != 0)=true:=agL.2 c2;have HF:=uQ (show aC.save M n bi bu=(M2,q2) from D9.out.trans (abA c2));clear c2;go_wp2_with fail;go_ret;exact ⟨_,rfl,by rw [HF.out];rfl,by rw [HF.out];exact h11.sb⟩
  ·have HS2:=uQ (show aC.save M n bi bu=(if M2.dR.2=0 then aC.sweep (aC.other n) M2.dR.1.list M2.dR.1 else M2.dR) from D9.out.trans (acr c2));subst c2;have hsd:=RI ok2 h11;have yG:=ok2.dR;clear D9;generalize M2.dR=r3 at *
   obtain ⟨M3,q3⟩:=r3;dsimp only at hsd yG HS2 Hno;go_wp2_with fail;refine hsd.mono ?_;rintro ee w12 ⟨v,rfl,rfl,h12⟩;clear hsd h11;by_cases c3:q3=0;rotate_left
   ·have hb1:(q3 != 0)=true:=agL.2 c3;have HF:=uQ (show aC.save M n bi bu=(M3,q3) from HS2.out.trans (abA c3));clear c3;go_wp2_with fail;go_ret;exact ⟨_,rfl,by rw [HF.out];rfl,by rw [HF.out];exact h12.sb⟩
   ·have HF:=uQ (show aC.save M n bi bu=aC.sweep (aC.other n) M3.list M3 from HS2.out.trans (acr c3));subst c3;have hsw:=al1 yG (by have:=HK.out;omega) Hno.out (h12.sb:Sat w0 w12 (aJ m M3::mM b3 ps::dh ps n pi uv tv::aI pi mp B::aB 45 3 uv (us.flatMap bT)::F));generalize aC.sweep (aC.other n) M3.list M3=r4 at *
    obtain ⟨M4,q4⟩:=r4;dsimp only at hsw HF;go_wp2_with fail;refine hsw.mono ?_;rintro ee jU ⟨v,rfl,rfl,h13⟩;clear hsw;go_wp2_with fail;go_ret;exact ⟨_,rfl,by rw [HF.out];rfl,by rw [HF.out];exact h13.sb⟩
end
section
variable {w0 w:World}{F:List aH}{p m K r ps pn B r0 E B0 n:Nat}{L:Seg.Log}{M:ay}{C:List (List ah.aG)}{seg:Int}{d:Bool}{mp:ah.Bs→Option Seg.aU}
theorem akj (h:Sat w0 w (aW r m seg p ps pn false::F)):Calls Tryz.prog 22 #[ptr r] w (aP fun v w'=>v=errno 0∧w=w'):=by
 have e5:w.cell? ⟨r,5,none⟩=some (.bool false):=h.cellAt 5 _ rfl;have hok:=nK h;clear h;go_enter Tryz.func22,Tryz.ntmps22;go_wp2_with fail;refine hok.mono ?_;rintro ee w1 ⟨v,rfl,rfl,rfl⟩;go_wp2;go_ret;exact ⟨_,rfl,rfl,rfl⟩
theorem akk (hL:L.Ok) (hM:M.Ok K) (jW:K+6≤1099511627776) (hH:Ro w0 F Half) (hz:(L.commit M).2.2≠0) (h:Sat w0 w (aW r m seg p ps pn true::aK p m L::aJ m M::F)) :
  Calls Tryz.prog 22 #[ptr r] w (aP fun v w'=>v=errno (L.commit M).2.2∧Sat w0 w' (aW r m seg p ps pn true::aK p m (L.commit M).1.1::aJ m (L.commit M).1.2::F)):=by
 have hcm:=Ph (Ro.os hH) hL hM jW (h.sb:Sat w0 w (aK p m L::aJ m M::aW r m seg p ps pn true::F));generalize L.commit M=q at *
 obtain ⟨⟨L2,M2⟩,n2,e2⟩:=q;dsimp only at hcm hz ⊢;have hb:(e2 != 0)=true:=agL.2 hz;have e5:w.cell? ⟨r,5,none⟩=some (.bool true):=h.cellAt 5 _ rfl;have e2':w.cell? ⟨r,2,none⟩=some (.pointer (some ⟨p,0,none⟩)):=h.cellAt 2 _ rfl;have hok:=nK h;clear h hz hL hM jW hH;go_enter Tryz.func22,Tryz.ntmps22;go_wp2_with fail;refine hok.mono ?_;rintro ee w1 ⟨v,rfl,rfl,rfl⟩;go_wp2_with fail;refine hcm.mono ?_;rintro ee w2 ⟨v,rfl,rfl,h2⟩;clear hcm e5 e2';go_wp2_with fail;go_ret;exact ⟨_,rfl,rfl,h2.sb⟩
structure LH (K r0 E B0 n:Nat) (L:Seg.Log) (M:ay) (C C2:List (List ah.aG)) (N:Int) (us:List Rep.Use) (pl:List (ah.Bs×Seg.aU)) (B2:Nat):Prop where
 rp:Seg.Rp K r0 E B0 n L M C2
 row:∃ row,Rep.dW 0 C2=Rep.dW 0 C++[row]∧row.2.e=Seg.bf
 flat:C2.flatten=C.flatten++[Seg.bf]
 ends:∃ es,C2≠[]∧C2[C2.length - 1]?=some es∧Rep.lS es=true
 off:L.on=false
 last:N=(C2.length:Int) - 1
 hint:Seg.mJ L C2.length us pl
 len:B2≤n∧us.length≤n∧pl.length≤n
 now:Tab.mapOf pl=Rep.dO (Rep.dW 0 C2)
 st:Seg.EH C2 N us pl
theorem QL (hR:Seg.Rp K r0 E B0 n L M C) (hn:n≤200) (hE:E≤200) (hK:K≤1048576) (hz:(L.append M Seg.bf).2.2=0) (hH:Ro w0 F Half) (h:Sat w0 w (aW r m seg p ps pn true::aI pn mp B::aK p m L::aJ m M::F)) :
  Calls Tryz.prog 22 #[ptr r] w (aP fun v w'=>∃ (ps' pi B2:Nat) (uv tv:Value) (N:Int) (us:List Rep.Use) (pl:List (ah.Bs×Seg.aU)) (M3:ay) (C2:List (List ah.aG)) (b:Nat),v=errno 0∧(LH (K+605) r0 (E+2) (B0+b) (n+1) (L.commit M).1.1 M3 C C2 N us pl B2∧(b≤40+56 * (n+1)∧((n+1) * 400+B0+b≤r0→Seg.HF M3 N pl us))∧∃ a c,tv = .slice a 0 c) ∧
   Sat w0 w' (aW r m seg p ps' pn false::dh ps' N pi uv tv::aI pi (Tab.mapOf pl) B2::aB 45 3 uv (us.flatMap bT)::aI pn mp B::aK p m (L.commit M).1.1::aJ m M3::F)):=by
 obtain ⟨z1,z2,C2,z3,z4,z5,z6⟩:=hR.commit oQ hz;have hcm:=Ph (Ro.os hH) hR.hg.keeps.log hR.hg.keeps.calm.ok oQ (h.sb:Sat w0 w (aK p m L::aJ m M::aW r m seg p ps pn true::aI pn mp B::F));generalize L.commit M=q at *
 obtain ⟨⟨L2,M2⟩,n2,e2⟩:=q;dsimp only at hcm z1 z2 z3 ⊢;subst z1;have e5:w.cell? ⟨r,5,none⟩=some (.bool true):=h.cellAt 5 _ rfl;have e2':w.cell? ⟨r,2,none⟩=some (.pointer (some ⟨p,0,none⟩)):=h.cellAt 2 _ rfl;have hok:=nK h;have R2:=uQ z3;have Z2:=uQ z2;have Z4:=uQ z4;have Z5:=uQ z5;have Z6:=uQ z6;have HH:=uQ hH;have Hn:=uQ hn;have HE:=uQ hE;have HK:=uQ hK;clear h hz hR hn hE hK hH z2 z3 z4 z5 z6;go_enter Tryz.func22,Tryz.ntmps22;go_wp2_with fail;refine hok.mono ?_;rintro ee w1 ⟨v,rfl,rfl,rfl⟩;go_wp2_with fail;refine hcm.mono ?_;rintro ee w2 ⟨v,rfl,rfl,h2⟩;clear hcm hok e5 e2';go_wp2_with (with_reducible apply cO);refine ⟨fG (cs':=#[ptr m,.int .i64 seg,ptr p,ptr ps,ptr pn,.bool false]) (h2.sb:Sat w0 w2 (aW r m seg p ps pn true::aK p m L2::aJ m M2::aI pn mp B::F)) aj aj aj cZ bJ au aj ?_⟩;intro w3 h3;clear h2
 have e2':w3.cell? ⟨r,2,none⟩=some (.pointer (some ⟨p,0,none⟩)):=h3.cellAt 2 _ rfl;have HL:=uQ R2.out.hg.keeps.log;have HC:=uQ R2.out.hg.keeps.calm;have hrn:=Q5 HL.out HC.out.ok (Ro.os HH.out) (acz R2.out.iY (by have:=Hn.out;omega)) R2.out.QK (h3.sb:Sat w0 w3 (aK p m L2::aJ m M2::aW r m seg p ps pn false::aI pn mp B::F));clear h3;go_wp2_with fail;refine hrn.mono ?_;rintro ee w5 ⟨v,rfl,ho⟩;clear hrn e2';obtain ⟨hrun,hsl,hpos,htk,hlast⟩:=R2.out.run Z6.out;have hrun':Rep.run (dH L2 M2) L2.aF = .inr C2.length:=hrun;unfold vN at ho;rw [hrun']at ho;obtain ⟨ps',pi,uv,tv,av,kv,rfl,⟨hk1,hk3,hk4⟩,⟨⟨ta,tc,rfl⟩,AB⟩,h5⟩:=ho;rw [htk]at hk1 hk4 h5;rw [hlast,hsl,anm]at h5;clear AB;have hcn:C2.length≤n+1:=R2.out.hg.count;have hkn:kv.length≤n+1:=acz hk4 R2.out.iY
 have Ii:=uQ (show Seg.mJ L2 C2.length ((Rep.jC (dH L2 M2) L2.aF).map (Rep.upd kv)) (Rep.puts kv) from R2.out.hint hk1 hk3)
 have nP:=uQ (show Seg.EH C2 ((C2.length:Int) - 1) ((Rep.jC (dH L2 M2) L2.aF).map (Rep.upd kv)) (Rep.puts kv) from by
  refine ⟨rfl,⟨kv,?_,hk3,?_,rfl⟩,.inr (Z6.out.imp fun es q=>q.2)⟩
  ·have e:=R2.out.rows;have hk:=hk1;rw [show Rep.rowsOf (dH L2 M2) L2.aF=Rep.dW 0 C2 from e]at hk;exact hk
  ·rw [show Rep.jC (dH L2 M2) L2.aF=Seg.DV C2 from R2.out.hg.uses])
 have MG:=uQ (show Tab.mapOf (Rep.puts kv)=Rep.dO (Rep.dW 0 C2) by rw [Rep.aaf hk1];exact adu Rep.dO R2.out.rows);have Hpl:=uQ (show (Rep.puts kv).length≤n+1 from acz (by unfold Rep.puts;rw [abl];exact agJ _ _) hkn);have oC:=uQ hkn;have xA:=uQ (show ((Rep.jC (dH L2 M2) L2.aF).map (Rep.upd kv)).length≤n+1 by unfold Rep.jC;rw [abl,abl,hsl];exact hcn);have Md:=uQ (show Tab.Lists (Tab.mapOf (Rep.puts kv)) (Rep.puts kv) from Tab.PI (Rep.Gj hk1.rise));have wX:=uQ hpos;have Hcn:=uQ hcn;clear hrun hrun' hk1 hk3 hk4 hlast hsl hpos htk hcn hkn;generalize (Rep.jC (dH L2 M2) L2.aF).map (Rep.upd kv)=us at *
 generalize kv.length=B2 at *
 generalize Rep.puts kv=pl at *
 have zy:=uQ (aC.mJ.idx Ii.out HL.out (by have:=Hpl.out;have:=Hn.out;omega));have zA:=uQ (aC.mJ.uses Ii.out HL.out (by have:=xA.out;have:=Hn.out;omega))
 have HB:=uQ (show (dF.book Xx.sum dF.AO true (pl.map Rep.lF)).length+(dF.book Xx.sum dF.AP false (us.map Rep.lH)).length≤40+56 * (n+1) by
  rw [dF.IU (k:=3) rfl zy.out.row,dF.IU (k:=3) rfl zA.out.row,abl,abl,show dF.qV true 3=44 from rfl,show dF.qV false 3=12 from rfl];have:=Hpl.out;have:=xA.out;omega)
 have HN:=uQ (show 0≤(C2.length:Int) - 1∧(C2.length:Int) - 1<1048576 by have:=wX.out;have:=Hcn.out;have:=Hn.out;omega);obtain ⟨N,hN⟩:∃ N,N=(C2.length:Int) - 1:=⟨_,rfl⟩;rw [← hN]at h5;have Tz:=uQ hN;rw [← hN]at HN nP;clear hN;go_wp2_with (with_reducible apply gq);refine ⟨fF qc h5 rfl ?_⟩;intro b10 w6 h6;clear h5;go_wp2_with (with_reducible apply cO);refine ⟨gJ (fA Rep.dZ.zero) h6 aj aj aj cZ au aj ?_⟩;intro w7 h7;clear h6;go_wp2_with (with_reducible apply cO);refine ⟨fG (cs':=#[ptr m,.int .i64 seg,ptr p,ptr ps',ptr pn,.bool false]) (h7.sb:Sat w0 w7 (aW r m seg p ps pn false::dh ps' N pi uv (.slice ta 0 tc)::aI pi (Tab.mapOf pl) B2::aB 45 3 uv (us.flatMap bT)::aI pn mp B::aK p m L2::aJ m M2::F)) aj aj aj cZ bJ au aj ?_⟩;intro w8 h8;clear h7;obtain ⟨bi,hbi⟩:∃ bi,bi=dF.book Xx.sum dF.AO true (pl.map Rep.lF):=⟨_,rfl⟩
 obtain ⟨bu,hbu⟩:∃ bu,bu=dF.book Xx.sum dF.AP false (us.map Rep.lH):=⟨_,rfl⟩;have hB:=HB.out;rw [← hbi,← hbu]at hB;obtain ⟨s1,s2,s3⟩:=R2.out.save (by have:=Hn.out;have:=HE.out;omega) HN.out.1 HN.out.2 bi bu
 have hsv:=Yg HC.out.ok (by have:=HK.out;omega) HN.out.1 HN.out.2 pl Md.out (by have:=oC.out;have:=Hn.out;omega) Ii.out.key us zy.out zA.out bi bu hbi hbu s3
  (h8.sb:Sat w0 w8 (dh ps' N pi uv (.slice ta 0 tc)::aI pi (Tab.mapOf pl) B2::aB 45 3 uv (us.flatMap bT)::aJ m M2::aW r m seg p ps' pn false::aI pn mp B::aK p m L2::F))
 have e0':w8.cell? ⟨r,0,none⟩=some (ptr m):=h8.cellAt 0 _ rfl;have s4:=aC.Kt (b1:=bi) (b2:=bu) R2.out.hg.keeps.calm R2.out.tmp (by have:=R2.out.hg.names;have:=Hn.out;have:=HE.out;omega) HN.out.1 HN.out.2;have hu2:=R2.out.hg.used;generalize aC.save M2 N bi bu=q at *
 obtain ⟨M3,e3⟩:=q;dsimp only at hsv s1 s2
 have TS:=uQ (show bi.length+bu.length≤40+56 * (n+1)∧((n+1) * 400+B0+(bi.length+bu.length)≤r0→Seg.HF M3 N pl us) from ⟨hB,fun hrm=>by
  have hz:=s4.room oQ;have hd:=s4.done.resolve_right (by simp only at hz ⊢;omega);refine ⟨by rw [← hbi];exact hd.2.1,by rw [← hbu];exact hd.2.2,fun p hp hnm=>?_⟩;have:=s4.gone hz p hp;unfold aC.other at this;rw [hnm]at this;simpa using this⟩)
 have Tt:=uQ (show LH (K+605) r0 (E+2) (B0+(bi.length+bu.length)) (n+1) L2 M3 C C2 N us pl B2 from ⟨s1.mono oQ (abL _) oQ (abL _),Z4.out,Z5.out,Z6.out,Z2.out,Tz.out,Ii.out,⟨oC.out,xA.out,Hpl.out⟩,MG.out,nP.out⟩);clear h8 s1 s3 s4 hu2 hB hbi hbu;go_wp2_with fail;refine hsv.mono ?_;rintro ee w9 ⟨v,rfl,rfl,h9⟩;clear hsv e0';rcases s2 with rfl|rfl
 ·go_wp2_with fail;go_ret;exact ⟨_,rfl,ps',pi,B2,uv,_,N,us,pl,M3,C2,_,rfl,⟨Tt.out,TS.out,ta,tc,rfl⟩,h9.sb⟩
 ·go_wp2_with fail;go_ret;exact ⟨_,rfl,ps',pi,B2,uv,_,N,us,pl,M3,C2,_,rfl,⟨Tt.out,TS.out,ta,tc,rfl⟩,h9.sb⟩
end
section
variable {w0 w:World}{F:List aH}{p m K r ps pn pi B B2:Nat}{L:Seg.Log}{M:ay}{seg N:Int}{d:Bool}{uv tv:Value}{mi:ah.Bs→Option Seg.aU}
theorem aku (hL:L.Ok) (hM:M.Ok K) (jW:K+1048576≤1099511627776) (hB:B2≤14000000) (hz:(L.rollback M).2=0) (h:Sat w0 w (aW r m seg p ps pn d::dh ps N pi uv tv::aI pi mi B2::aK p m L::aJ m M::F)) :
  Calls Tryz.prog 60 #[ptr r] w (aP fun v w'=>∃ q,v=errno 0∧Sat w0 w' (aW r m seg p ps q false::dh ps N pi uv tv::aI q mi B2::aI pi mi B2::aK p m (L.rollback M).1.1::aJ m (L.rollback M).1.2::F)):=by
 have hrb:=YX hL hM jW (h.sb:Sat w0 w (aK p m L::aJ m M::aW r m seg p ps pn d::dh ps N pi uv tv::aI pi mi B2::F));rw [hz]at hrb;generalize (L.rollback M).1.1=L2 at *
 generalize (L.rollback M).1.2=M2 at *
 have e2':w.cell? ⟨r,2,none⟩=some (.pointer (some ⟨p,0,none⟩)):=h.cellAt 2 _ rfl;have hok:=nK h;have HB:=uQ hB;clear h hz hL hM jW hB;go_enter Tryz.func60,Tryz.ntmps60;go_wp2_with fail;refine hok.mono ?_;rintro ee w1 ⟨v,rfl,rfl,rfl⟩;go_wp2_with fail;refine hrb.mono ?_;rintro ee w2 ⟨v,rfl,rfl,h2⟩;clear hrb hok e2';have e3':w2.cell? ⟨r,3,none⟩=some (.pointer (some ⟨ps,0,none⟩)):=h2.cellP eH 3 rfl;have e1':w2.cell? ⟨ps,1,none⟩=some (.pointer (some ⟨pi,0,none⟩)):=h2.cellP iJ 1 rfl;have hcp:=NM HB.out (h2.sb:Sat w0 w2 (aI pi mi B2::aK p m L2::aJ m M2::aW r m seg p ps pn d::dh ps N pi uv tv::F));clear h2;go_wp2_with fail;refine hcp.mono ?_;rintro ee w3 ⟨v,rfl,q,rfl,h3⟩;clear hcp e3' e1';go_wp2_with (with_reducible apply cO)
 refine ⟨fG (cs':=#[ptr m,.int .i64 seg,ptr p,ptr ps,ptr q,.bool d]) (h3.sb:Sat w0 w3 (aW r m seg p ps pn d::dh ps N pi uv tv::aI q mi B2::aI pi mi B2::aK p m L2::aJ m M2::F)) aj aj aj cZ bJ au aj ?_⟩;intro w4 h4;clear h3;go_wp2_with (with_reducible apply cO);refine ⟨fG (cs':=#[ptr m,.int .i64 seg,ptr p,ptr ps,ptr q,.bool false]) h4 aj aj aj cZ bJ au aj ?_⟩;intro w5 h5;go_wp2_with fail;go_ret;exact ⟨_,rfl,q,rfl,h5⟩
end
structure uq (K r0 E B0 n:Nat) (L:Seg.Log) (M:ay) (C C0:List (List ah.aG)) (o oc:ah.Bs→Option ah.Bs) (d:Bool) (B B2:Nat) (N:Int) (us:List Rep.Use):Prop where
 rp:Seg.Rp K r0 E B0 n L M C
 pJ:Seg.qH L C C0
 now:o=Rep.jA C.flatten
 was:oc=Rep.jA C0.flatten
 clean:d=false→C=C0
 b1:B≤n
 b2:B2≤n
 ext:Seg.oD r0 E n B0 M C0 N us
def iE (w0:World) (r m:Nat) (seg:Int) (K r0 E n:Nat) (o oc:ah.Bs→Option ah.Bs) (d:Bool) (F:List aH) (w:World):Prop:=
 ∃ (ps p pn pi B B2 B0:Nat) (uv tv:Value) (N:Int) (us:List Rep.Use) (L:Seg.Log) (M:ay) (C C0:List (List ah.aG)),uq K r0 E B0 n L M C C0 o oc d B B2 N us ∧
  Sat w0 w (aW r m seg p ps pn d::aI pn (Rep.dO (Rep.dW 0 C)) B::aK p m L::aJ m M::dh ps N pi uv tv::aI pi (Rep.dO (Rep.dW 0 C0)) B2::aB 45 3 uv (us.flatMap bT)::F)
theorem abh {K:Nat}{M:ay} (h:M.Ok K) (ho:M.off=false):M.size ByteArray.empty=(0,9):=by
 have hn:bP M.now ByteArray.empty=none:=by
  cases hi:bP M.now ByteArray.empty with
  |none=>rfl
  |some i=>exact absurd rfl (h.gG.ne _ (jF hi))
 unfold ay.size;rw [ho,hn];rfl
section
variable {w0 w:World}{F:List aH}{r m K r0 E n:Nat}{seg:Int}{o oc:ah.Bs→Option ah.Bs}{d:Bool}{k:ah.Bs}
theorem uq.mono {B0:Nat}{L:Seg.Log}{M:ay}{C C0:List (List ah.aG)}{B B2 K' E' n':Nat}{N:Int}{us:List Rep.Use} (h:uq K r0 E B0 n L M C C0 o oc d B B2 N us) (h1:K≤K') (h2:E≤E') (h3:n≤n'):uq K' r0 E' B0 n' L M C C0 o oc d B B2 N us:=
 ⟨h.rp.mono h1 h2 (abL _) h3,h.pJ,h.now,h.was,h.clean,acz h.b1 h3,acz h.b2 h3,h.ext.mono h3 h2⟩
theorem iE.mono {K' E' n':Nat} (h:iE w0 r m seg K r0 E n o oc d F w) (h1:K≤K') (h2:E≤E') (h3:n≤n'):iE w0 r m seg K' r0 E' n' o oc d F w:=by
 obtain ⟨ps,p,pn,pi,B,B2,B0,uv,tv,N,us,L,M,C,C0,hf,hS⟩:=h;exact ⟨ps,p,pn,pi,B,B2,B0,uv,tv,N,us,L,M,C,C0,hf.mono h1 h2 h3,hS⟩
theorem iE.sat (h:iE w0 r m seg K r0 E n o oc d F w):∃ L:List aH,Sat w0 w L∧(∀ (A:aH) (w':World),Sat w0 w' (A::L)→iE w0 r m seg K r0 E n o oc d (A::F) w')∧(∀ w',Sat w0 w' L→Sat w0 w' F):=by
 obtain ⟨ps,p,pn,pi,B,B2,B0,uv,tv,N,us,L,M,C,C0,hf,hS⟩:=h;exact ⟨_,hS,fun A w' hw=>⟨ps,p,pn,pi,B,B2,B0,uv,tv,N,us,L,M,C,C0,hf,hw.sb⟩,fun w' hw=>hw.sb⟩
theorem iE.drop {A:aH} (h:iE w0 r m seg K r0 E n o oc d (A::F) w):iE w0 r m seg K r0 E n o oc d F w:=by
 obtain ⟨ps,p,pn,pi,B,B2,B0,uv,tv,N,us,L,M,C,C0,hf,hS⟩:=h;exact ⟨ps,p,pn,pi,B,B2,B0,uv,tv,N,us,L,M,C,C0,hf,hS.sb⟩
theorem uq.small {B0:Nat}{L:Seg.Log}{M:ay}{C C0:List (List ah.aG)}{B B2:Nat}{N:Int}{us:List Rep.Use} (h:uq K r0 E B0 n L M C C0 o oc d B B2 N us):C0.length≤1048576:=by
 have h1:=h.pJ.base.le;have h2:=h.rp.hg.len;have h3:=Seg.Qy _ 0 h.rp.hg.keeps.log.rise (fun x hx=>by obtain ⟨s,hs,rfl⟩:=abZ.1 hx;exact (h.rp.hg.keeps.log.nums s hs).1) (fun x hx=>by obtain ⟨s,hs,rfl⟩:=abZ.1 hx;exact (h.rp.hg.keeps.log.nums s hs).2) aN;rw [abl]at h3;omega
theorem uq.grow {B0:Nat}{L:Seg.Log}{M:ay}{C C0:List (List ah.aG)}{B B2 n':Nat}{N:Int}{us:List Rep.Use} (h:uq K r0 E B0 n L M C C0 o oc d B B2 N us) (x:ah.aG) (hn:n≤n'):Seg.oD r0 E n' B0 (L.append M x).1.2 C0 N us:=
 h.ext.apart h.small (Seg.ahU h.rp.hg.keeps.calm L x) (aC.FT L M x) hn
theorem uq.done {B0 b LD K':Nat}{L L2:Seg.Log}{M M3:ay}{C C0 C2:List (List ah.aG)}{B B2:Nat}{N N2:Int}{us Ld:List Rep.Use}{pl:List (ah.Bs×Seg.aU)} (h:uq K r0 E B0 n L M C C0 o oc d B B2 N us) (hc:LH K' r0 (E+2) (B0+b) (n+1) L2 M3 C C2 N2 Ld pl LD) (hb:b≤40+56 * (n+1)∧((n+1) * 400+B0+b≤r0→Seg.HF M3 N2 pl Ld)):Seg.oD r0 (E+2) (n+1) (B0+b) M3 C2 N2 Ld:=by
 have u:=h.ext.used;have u2:B0+b≤(E+2) * (20+28 * (n+1)):=by
  rw [ak4];exact Nat.add_le_add (acz u (Nat.mul_le_mul_left _ oQ)) oQ
 refine ⟨u2,pl,hc.st,fun a1 a2 a3=>⟨fun e=>absurd e (by obtain ⟨es,e1,_⟩:=hc.ends;exact e1),fun _=>hb.2 ?_⟩⟩;have:=acz u2 (anv a3 (show 20+28 * (n+1)≤20+28 * 45 by omega));omega
theorem alN (hn:n≤200) (hE:E≤200) (hK:K≤1048576) (hk:k.length=32) (data:ah.Bs) (da:Option Addr) (dc:Nat) (hd:Ro w0 F (bG 1 (.slice da data.length dc) (aA data))) (sN:data.length≤300) (hH:Ro w0 F Half) (h:iE w0 r m seg K r0 E n o oc d F w) :
  Calls Tryz.prog 52 #[ptr r,.agg (aA k).toArray,.slice da data.length dc] w (aP fun v w'=>(v=errno 0∧iE w0 r m seg (K+4) r0 E (n+1) (Tab.put o k data) oc true F w')∨(v=errno 11∧iE w0 r m seg (K+4) r0 E n o oc d F w')):=by
 obtain ⟨ps,p,pn,pi,B,B2,B0,uv,tv,N,us,L,M,C,C0,hf,hS⟩:=h;have he:=Seg.Oj hk data sN;have hnm:=hf.rp.hg.names;rcases hf.rp.hg.zK (x:=⟨0,k,data⟩) oQ oQ he with hz|hz
 ·obtain ⟨C',y1,y2,y3,row,y4,y5,y6⟩:=hf.rp.yes (x:=⟨0,k,data⟩) oQ hk sN he hz;obtain ⟨fr,_⟩:=hf.rp.pJ hf.pJ he hz;rw [← y2]at fr;have je:Tab.put (Rep.dO (Rep.dW 0 C)) k (L.append M ⟨0,k,data⟩).2.1=Rep.dO (Rep.dW 0 C'):=by
   rw [y4,Rep.JJ (by unfold Rep.dJ;rw [y5]),y6];unfold Rep.fB;rw [y5]
  refine (QN (by have:=hf.b1;omega) hk data da dc (Ro.os hd) oQ hf.rp.hg.keeps.log hf.rp.hg.keeps.calm.ok oQ (Ro.os hH) hz (hS.sb:Sat w0 w (aW r m seg p ps pn d::aI pn (Rep.dO (Rep.dW 0 C)) B::aK p m L::aJ m M::dh ps N pi uv tv::aI pi (Rep.dO (Rep.dW 0 C0)) B2::aB 45 3 uv (us.flatMap bT)::F))).mono ?_;rintro e w' ⟨v,rfl,rfl,h2⟩;rw [je]at h2;refine ⟨_,rfl,.inl ⟨rfl,ps,p,pn,pi,B+1,B2,B0,uv,tv,N,us,_,_,C',C0,⟨y1,fr,?_,hf.was,fun e=>(by cases e),by have:=hf.b1;omega,by have:=hf.b2;omega,hf.grow _ (ahD _)⟩,h2⟩⟩;rw [y3,Rep.aiR rfl,hf.now]
 ·have hz':(L.append M ⟨0,k,data⟩).2.2≠0:=by rw [hz];decide
  refine (akt (by have:=hf.b1;omega) hk data da dc (Ro.os hd) oQ hf.rp.hg.keeps.log hf.rp.hg.keeps.calm.ok oQ (Ro.os hH) hz' (hS.sb:Sat w0 w (aW r m seg p ps pn d::aI pn (Rep.dO (Rep.dW 0 C)) B::aK p m L::aJ m M::dh ps N pi uv tv::aI pi (Rep.dO (Rep.dW 0 C0)) B2::aB 45 3 uv (us.flatMap bT)::F))).mono ?_;rintro e w' ⟨v,rfl,rfl,h2⟩;rw [hz];exact ⟨_,rfl,.inr ⟨rfl,ps,p,pn,pi,B,B2,B0,uv,tv,N,us,_,_,C,C0,⟨hf.rp.no hk hz',hf.rp.Oc hf.pJ hk hz',hf.now,hf.was,hf.clean,hf.b1,hf.b2,hf.grow _ (abL _)⟩,h2⟩⟩
theorem ala (hn:n≤200) (hE:E≤200) (hK:K≤1048576) (hk:k.length=32) (hH:Ro w0 F Half) (h:iE w0 r m seg K r0 E n o oc d F w) :
  Calls Tryz.prog 59 #[ptr r,.agg (aA k).toArray] w (aP fun v w'=>(v=errno 0∧iE w0 r m seg (K+4) r0 E (n+1) (Tab.del o k) oc true F w')∨((v=errno 11∨v=errno 9)∧iE w0 r m seg (K+4) r0 E n o oc d F w')):=by
 obtain ⟨ps,p,pn,pi,B,B2,B0,uv,tv,N,us,L,M,C,C0,hf,hS⟩:=h;have he:=Seg.agD hk;have hnm:=hf.rp.hg.names;have hS':Sat w0 w (aW r m seg p ps pn d::aI pn (Rep.dO (Rep.dW 0 C)) B::aK p m L::aJ m M::dh ps N pi uv tv::aI pi (Rep.dO (Rep.dW 0 C0)) B2::aB 45 3 uv (us.flatMap bT)::F):=hS;cases hm:Rep.dO (Rep.dW 0 C) k with
 |none=>
  refine (akm (by have:=hf.b1;omega) hk hm hS').mono ?_;rintro e w' ⟨v,rfl,rfl,h2⟩;exact ⟨_,rfl,.inr ⟨.inr rfl,ps,p,pn,pi,B,B2,B0,uv,tv,N,us,_,_,C,C0,hf.mono oQ (abL _) (abL _),h2⟩⟩
 |some pl=>
  rcases hf.rp.hg.zK (x:=⟨1,k,[]⟩) oQ oQ he with hz|hz
  ·obtain ⟨C',y1,y2,y3,row,y4,y5,y6⟩:=hf.rp.yes (x:=⟨1,k,[]⟩) oQ hk (acV _) he hz;obtain ⟨fr,_⟩:=hf.rp.pJ hf.pJ he hz;rw [← y2]at fr;have je:Tab.del (Rep.dO (Rep.dW 0 C)) k=Rep.dO (Rep.dW 0 C'):=by
    rw [y4,Rep.aiI (by unfold Rep.dJ;rw [y5])];unfold Rep.fB;rw [y5]
   refine (akn (by have:=hf.b1;omega) hk pl hm hf.rp.hg.keeps.log hf.rp.hg.keeps.calm.ok oQ (Ro.os hH) hz hS').mono ?_;rintro e w' ⟨v,rfl,rfl,h2⟩;rw [je]at h2;refine ⟨_,rfl,.inl ⟨rfl,ps,p,pn,pi,B,B2,B0,uv,tv,N,us,_,_,C',C0,⟨y1,fr,?_,hf.was,fun e=>(by cases e),by have:=hf.b1;omega,by have:=hf.b2;omega,hf.grow _ (ahD _)⟩,h2⟩⟩;rw [y3,Rep.aiQ rfl,hf.now]
  ·have hz':(L.append M ⟨1,k,[]⟩).2.2≠0:=by rw [hz];decide
   refine (akl (by have:=hf.b1;omega) hk pl hm hf.rp.hg.keeps.log hf.rp.hg.keeps.calm.ok oQ (Ro.os hH) hz' hS').mono ?_;rintro e w' ⟨v,rfl,rfl,h2⟩;rw [hz];exact ⟨_,rfl,.inr ⟨.inl rfl,ps,p,pn,pi,B,B2,B0,uv,tv,N,us,_,_,C,C0,⟨hf.rp.no hk hz',hf.rp.Oc hf.pJ hk hz',hf.now,hf.was,hf.clean,hf.b1,hf.b2,hf.grow _ (abL _)⟩,h2⟩⟩
theorem aa3 (hn:n≤199) (hE:E≤200) (hK:K≤1048576) (hH:Ro w0 F Half) (h:iE w0 r m seg K r0 E n o oc d F w) :
  Calls Tryz.prog 22 #[ptr r] w (aP fun v w'=>(v=errno 0∧iE w0 r m seg (K+605) r0 (E+2) (n+1) o o false F w')∨(v=errno 11∧r0<n * 400+E * (20+28 * n)+400∧iE w0 r m seg (K+605) r0 E n o oc d F w')):=by
 obtain ⟨ps,p,pn,pi,B,B2,B0,uv,tv,N,us,L,M,C,C0,hf,hS⟩:=h;have hS':Sat w0 w (aW r m seg p ps pn d::aI pn (Rep.dO (Rep.dW 0 C)) B::aK p m L::aJ m M::dh ps N pi uv tv::aI pi (Rep.dO (Rep.dW 0 C0)) B2::aB 45 3 uv (us.flatMap bT)::F):=hS;have hnm:=hf.rp.hg.names;cases d with
 |false=>
  refine (akj hS').mono ?_;rintro e w' ⟨v,rfl,rfl,rfl⟩;have hoc:o=oc:=by rw [hf.now,hf.was,hf.clean rfl]
  refine ⟨_,rfl,.inl ⟨rfl,?_⟩⟩;have h2:iE w0 r m seg K r0 E n o oc false F w:=⟨ps,p,pn,pi,B,B2,B0,uv,tv,N,us,L,M,C,C0,hf,hS⟩;rw [← hoc]at h2;exact h2.mono oQ oQ oQ
 |true=>
  rcases hf.rp.hg.zK (x:=Seg.bf) oQ oQ aj with hz|hz
  ·refine (QL hf.rp oQ hE hK hz (Ro.os hH) hS').mono ?_;rintro e w' ⟨v,rfl,ps',pi',LD,uv',tv',N',us',pl,M3,C2,bb,rfl,⟨hc,hcf,ta,tc,rfl⟩,h2⟩;obtain ⟨row,y4,y5⟩:=hc.row;have je:Rep.dO (Rep.dW 0 C)=Rep.dO (Rep.dW 0 C2):=by
    rw [y4,Rep.P6 (by unfold Rep.dJ;rw [y5];rfl)]
   have FC:o=Rep.jA C2.flatten:=by rw [hc.flat,Rep.ZJ rfl,hf.now]
   obtain ⟨cz,_⟩:=hf.rp.commit oQ hz;obtain ⟨_,_,cf,_⟩:=Seg.aeU hf.rp.hg.keeps cz;rw [hc.now,je]at h2;exact ⟨_,rfl,.inl ⟨rfl,ps',p,pn,pi',B,LD,B0+bb,uv',_,N',us',_,M3,C2,C2,⟨hc.rp,Seg.qH.start hc.off cf,FC,FC,fun _=>rfl,by have:=hf.b1;omega,hc.len.1,hf.done hc hcf⟩,h2.sb⟩⟩
  ·have hz':(L.append M Seg.bf).2.2≠0:=by rw [hz];decide
   obtain ⟨n1,n2⟩:=hf.rp.aeT hz';have hlt:r0<n * 400+E * (20+28 * n)+400:=by
    apply aog;intro q;have hu:=hf.rp.hg.used;have hr:=hf.rp.hg.keeps.calm.room;have hx:=hf.ext.used;exact hz' (hf.rp.hg.append oQ Seg.bf rfl aN aj (.inr ⟨by omega,by omega⟩)).1
   have hc:(L.commit M).2.2≠0:=by rw [n1];exact hz'
   refine (akk hf.rp.hg.keeps.log hf.rp.hg.keeps.calm.ok oQ (Ro.os hH) hc (hS'.sb:Sat w0 w (aW r m seg p ps pn true::aK p m L::aJ m M::aI pn (Rep.dO (Rep.dW 0 C)) B::dh ps N pi uv tv::aI pi (Rep.dO (Rep.dW 0 C0)) B2::aB 45 3 uv (us.flatMap bT)::F))).mono ?_;rintro e w' ⟨v,rfl,rfl,h2⟩;rw [n1,hz];rw [n2]at h2;exact ⟨_,rfl,.inr ⟨rfl,hlt,ps,p,pn,pi,B,B2,B0,uv,tv,N,us,_,_,C,C0,⟨(hf.rp.no rfl hz').mono oQ (abL _) (abL _) (abL _),hf.rp.Oc hf.pJ rfl hz',hf.now,hf.was,hf.clean,hf.b1,hf.b2,hf.grow _ (abL _)⟩,h2.sb⟩⟩
theorem ak9 (hn:n≤199) (hE:E≤200) (hK:K≤1048576) (hH:Ro w0 F Half) (h:iE w0 r m seg K r0 E n o oc d F w) :
  Calls Tryz.prog 22 #[ptr r] w (aP fun v w'=>(v=errno 0∧iE w0 r m seg (K+605) r0 (E+2) (n+1) o o false F w')∨(v=errno 11∧iE w0 r m seg (K+605) r0 E n o oc d F w')):=by
 refine (aa3 hn hE hK hH h).mono ?_;rintro e w' ⟨v,rfl,h2|⟨h2,_,h3⟩⟩
 ·exact ⟨_,rfl,.inl h2⟩
 ·exact ⟨_,rfl,.inr ⟨h2,h3⟩⟩
theorem alO (hn:n≤200) (hK:K≤1048576) (h:iE w0 r m seg K r0 E n o oc d F w) :
  Calls Tryz.prog 60 #[ptr r] w (aP fun v w'=>v=errno 0∧iE w0 r m seg (K+200) r0 E n oc oc false F w'):=by
 obtain ⟨ps,p,pn,pi,B,B2,B0,uv,tv,N,us,L,M,C,C0,hf,hS⟩:=h;obtain ⟨b1,b2,b3,_⟩:=hf.rp.rollback hf.pJ;refine (aku hf.rp.hg.keeps.log hf.rp.hg.keeps.calm.ok oQ (by have:=hf.b2;omega) b1 (hS.sb:Sat w0 w (aW r m seg p ps pn d::dh ps N pi uv tv::aI pi (Rep.dO (Rep.dW 0 C0)) B2::aK p m L::aJ m M::aB 45 3 uv (us.flatMap bT)::F))).mono ?_;rintro e w' ⟨v,rfl,q,rfl,h2⟩;exact ⟨_,rfl,rfl,ps,p,q,pi,B2,B2,B0,uv,tv,N,us,_,_,C0,C0,⟨b2.mono oQ (abL _) (abL _) (abL _),b3,hf.was,hf.was,fun _=>rfl,hf.b2,hf.b2,hf.ext.apart hf.small (Seg.aj2 hf.rp.hg hf.pJ) (Seg.aj3 hf.rp.hg hf.pJ) (abL _)⟩,h2.sb⟩
end
section
variable {w0 w:World}{F:List aH}{m K p:Nat}{M:ay}{L:Seg.Log}{n:Int}
theorem ag2 (hM:M.Ok K) (hz:M.size ByteArray.empty=(0,9)) (ht:aC.there M (aC.name aC.idx n)=false∨aC.there M (aC.name aC.use n)=false) (h:Sat w0 w (aJ m M::F)) :
  Calls Tryz.prog 107 #[ptr p,ptr m,.int .i64 n] w (aP fun v w'=>v = .tuple #[.pointer none,errno 9]∧Sat w0 w' (aJ m M::F)):=by
 have hsz:=KE hM h ByteArray.empty;rw [hz]at hsz;have HM:=uQ hM;have Ht:=uQ ht;clear hM hz ht;go_enter Tryz.func107,Tryz.ntmps107;go_wp2_with fail;refine hsz.mono ?_;rintro e w1 ⟨v,rfl,rfl,rfl⟩;clear hsz;go_wp2_with fail;refine (Yw n h).mono ?_;rintro e w2 ⟨v,rfl,rfl,h2⟩;clear h;have hth:=OT HM.out (aC.name aC.idx n) h2;cases ht:aC.there M (aC.name aC.idx n) with
 |false=>
  rw [ht]at hth;clear ht;go_wp2_with fail;refine hth.mono ?_;rintro e w3 ⟨v,rfl,rfl,rfl⟩;clear hth;go_wp2_with fail
  go_ret2
  exact ⟨_,rfl,rfl,h2⟩
 |true=>
  rw [ht]at hth;have um:=uQ (Ht.out.resolve_left (by rw [ht];decide));clear ht;go_wp2_with fail;refine hth.mono ?_;rintro e w3 ⟨v,rfl,rfl,rfl⟩;clear hth;go_wp2_with fail;refine (aby n h2).mono ?_;rintro e w4 ⟨v,rfl,rfl,h4⟩;have Yl:=OT HM.out (aC.name aC.use n) h4;rw [um.out]at Yl;go_wp2_with fail;refine Yl.mono ?_;rintro e w5 ⟨v,rfl,rfl,rfl⟩;go_wp2_with fail
  go_ret2
  exact ⟨_,rfl,rfl,h4⟩
end
abbrev Fs:=List (ah.dA×Value)
abbrev Sg:=Int×Fs×Value
def jO (y:Sg):List ah.dA:=y.2.1.map (·.1)
def dY (y:Sg):List Value:=[.int .i64 y.1,y.2.2,.int .i64 (aO.pay (jO y))]
theorem BA (y:Sg):(dY y).length=3:=rfl
def eP (ys:List Sg):aH:=stars (ys.flatMap fun y=>[aB 54 36 y.2.2 (jD y.2.1),kN y.2.1])
section
variable {w0 w:World}{F:List aH}{ys:List Sg}{y:Sg}
theorem aek (h:Sat w0 w (aB 54 36 y.2.2 (jD y.2.1)::kN y.2.1::eP ys::F)):Sat w0 w (eP (y::ys)::F):=
 Sat.star.2 ((Sat.star.2 (h.sb:Sat w0 w (kN y.2.1::eP ys::aB 54 36 y.2.2 (jD y.2.1)::F))).sb)
theorem Vg {A:aH} (hq:y∈ys) (hA:A=aB 54 36 y.2.2 (jD y.2.1)∨A=kN y.2.1) (h:Sat w0 w (eP ys::F)):∃ G,Sat w0 w (A::G):=by
 obtain ⟨G,hG⟩:=KG (ys.flatMap fun y=>[aB 54 36 y.2.2 (jD y.2.1),kN y.2.1]) A (ahK.2 ⟨y,hq,by rcases hA with rfl|rfl <;> simp⟩);unfold eP at h;rw [hG]at h;exact ⟨_,Sat.star.1 h⟩
theorem Vh (hq:y∈ys) (h:Sat w0 w (eP ys::F)):bG 36 y.2.2 (jD y.2.1) w:=by
 obtain ⟨G,hG⟩:=Vg hq (.inl rfl) h;exact Sat.rd hG
theorem Nw {f:ah.dA}{dv:Value} (hq:y∈ys) (hf:(f,dv)∈y.2.1) (h:Sat w0 w (eP ys::F)):∃ a n c,dv = .slice a n c∧n=f.e.data.length∧bG 1 dv (aA f.e.data) w:=by
 obtain ⟨G,hG⟩:=Vg hq (.inr rfl) h;obtain ⟨i,hi⟩:=an8 hf;have r:=I5 hi w hG;obtain ⟨a,n,c,e,hn,_⟩:=r;have h2:f.e.data.length=n * 1:=by rw [← aX];exact hn
 exact ⟨a,n,c,e,by omega,I5 hi w hG⟩
variable {r m p ps pn:Nat}{seg:Int}{d:Bool}
theorem Bv (h:Sat w0 w (aW r m seg p ps pn d::F)):Calls Tryz.prog 13 #[ptr r] w (aP fun v w'=>v=ptr p∧w=w'):=by
 have e2:w.cell? ⟨r,2,none⟩=some (.pointer (some ⟨p,0,none⟩)):=h.cellAt 2 _ rfl;have hok:=nK h;clear h;go_enter Tryz.func13,Tryz.ntmps13;go_wp2_with fail;refine hok.mono ?_;rintro ee w1 ⟨v,rfl,rfl,rfl⟩;go_wp2_with fail;go_ret;exact ⟨_,rfl,rfl,rfl⟩
end
section
variable {P:Program}{w0 w:World}{L:List aH}{ops:Array Oper}{a:Act}{Q:Exit→Act→World→Prop}{dst:Option Tmp}{t ty:TypeId}{pos:String}{after:Array Edge}{K:Act→World→Prop}{E:Prop}
theorem V9 (d:TypeDesc) (hs:Sat w0 w L) (hK:∀ b w',Sat w0 w' (omap d b []::L)→K (a.put dst (.map (some b))) w') :
  if Region.wanted ⟨dst,.makeMap ty none,t,pos,after,none⟩ (yielded ops a.tmps)=true then Oper.wp P ⟨dst,.makeMap ty none,t,pos,after,none⟩ a w K Q else E:=by
 refine xO rfl ?_;have hS:=hs.F7 d;unfold Oper.wp execOp;simp only [an5,acN,ac1,run_makeMap,acB];exact hK _ _ hS
end
end Go.Proofs.YtihngncbioofnaaGreatDoor
namespace Go.Seg
open Go.ay
open Go.ah (Bs aG encs fH dN)
open Go.Rep
section
variable {K r E B n:Nat}{L:Log}{M:ay}{D:List (Nat×List aG)}{d:Nat×List aG}{x:aG}
theorem erase_filter:∀ {D:List (Nat×List aG)}{i:Nat}{e:Nat×List aG},D.Pairwise (fun a b=>a.1<b.1)→D[i]?=some e→D.eraseIdx i=D.filter fun y=>y.1 != e.1
 |[],i,e,_,h=>by cases h
 |x::D,0,e,hp,h=>by
  cases h;rw [aeA]at hp;rw [List.eraseIdx_cons_zero,aie,abA (by simp)];symm;rw [amw];intro y hy;have:=hp.1 y hy;simp only [agL,ne_eq];omega
 |x::D,i+1,e,hp,h=>by
  rw [aeA]at hp;rw [ah9]at h;have:=hp.1 e (abV h);rw [List.eraseIdx_cons_succ,aie,acr (by simp only [agL,ne_eq];omega),erase_filter hp.2 h]
theorem HD.remove (h:HD K r E B n L M D) (hd:d∈D):(L.remove M (d.1:Int)).2=0∧HD (K+1) r E B n (L.remove M (d.1:Int)).1.1 (L.remove M (d.1:Int)).1.2 (D.filter fun y=>y.1 != d.1)∧(L.remove M (d.1:Int)).1.1.limit=L.limit:=by
 obtain ⟨i,hi⟩:=h.EK hd;obtain ⟨hi1,s,hi2,hi3⟩:=Log.Ce hi;have hi4:=hi2;rw [h.l,acE]at hi4;obtain ⟨e,he⟩:∃ e,D[i]?=some e:=by
  cases hq:D[i]? with
  |none=>rw [hq]at hi4;cases hi4
  |some e=>exact ⟨e,rfl⟩
 have hed:e.1=d.1:=by
  rw [he]at hi4;cases hi4;simp only at hi3;omega
 obtain ⟨j,hj⟩:=h.keeps.has _ (abV hi2);rw [hi3]at hj;have hcb:∀ y∈D,y.1<1048576:=fun y hy=>by
  have:=h.keeps.log.nums ((y.1:Int),8+((encs y.2).length:Int)) (by rw [h.l];exact abZ.2 ⟨y,hy,rfl⟩);simp only at this;omega
 obtain ⟨a1,a2,a3,a4⟩:=aC.J3 h.keeps.calm hj;have OO:L.remove M (d.1:Int)=((L.without i,(M.remove (name (d.1:Int))).1),0):=by
  unfold Log.remove;rw [hi];simp only;rw [acr a1]
 have hok:=h.keeps.log.remove M (d.1:Int);have hcm:=h.keeps.calm.remove (name (d.1:Int));rw [OO]at hok ⊢;simp only at hok ⊢;have hl2:(L.without i).l=(D.filter fun y=>y.1 != d.1).map fun d=>((d.1:Int),8+((encs d.2).length:Int)):=by
  show L.l.eraseIdx i=_;rw [h.l,anK,← anw,← List.map_drop,← acI,← anK,erase_filter h.rise he,hed]
 have FB:∀ y∈D,y.1≠d.1→name (y.1:Int)≠name (d.1:Int):=fun y hy hne e=>by
  have:=hcb y hy;have:=hcb d hd;have:=AU oQ oQ oQ oQ e;omega
 have hmem:∀ y,y∈(D.filter fun y=>y.1 != d.1)→y∈D∧y.1≠d.1:=fun y hy=>by
  obtain ⟨h1,h2⟩:=acY.1 hy;exact ⟨h1,by simpa using h2⟩
 refine ⟨trivial,⟨⟨hok,hcm,fun t ht=>?_⟩,hl2,h.rise.filter _,fun y hy=>h.lim y (hmem y hy).1,fun y hy=>?_,fun y hy=>h.good y (hmem y hy).1,acz a4 h.used,?_,fun k j hkk hj=>?_⟩,rfl⟩
 ·rw [hl2]at ht;obtain ⟨y,hy,rfl⟩:=abZ.1 ht;obtain ⟨h1,h2⟩:=hmem y hy;obtain ⟨q,hq⟩:=h.keeps.has ((y.1:Int),8+((encs y.2).length:Int)) (by rw [h.l];exact abZ.2 ⟨y,h1,rfl⟩);exact ⟨q,by simp only at hq ⊢;rw [a2,AX (FB y h1 h2)];exact hq⟩
 ·obtain ⟨h1,h2⟩:=hmem y hy;rw [a3 _ (FB y h1 h2)];exact h.file y h1
 ·rw [a2];exact acz (AV _ _) h.names
 ·rw [a2]at hj;by_cases e:k=d.1
  ·exfalso;rw [e]at hj;have:=(acY.1 (jF hj)).2;simp [bne,nD]at this
  ·have:=hcb d hd;rw [AX (fun q=>e (by have:=AU oQ oQ oQ oQ q;omega))]at hj;obtain ⟨y,hy,hyk⟩:=h.cover k j hkk hj;exact ⟨y,acY.2 ⟨hy,by simp only [agL,ne_eq];omega⟩,hyk⟩
theorem HD.rows (h:HD K r E B n L M D):rowsOf (fun s=>L.bytes M s) L.aF=dG D:=by
 have key:∀ D':List (Nat×List aG),(∀ d∈D',d∈D)→rowsOf (fun s=>L.bytes M s) (D'.map fun d=>(d.1:Int))=dG D':=by
  intro D'
  induction D' with
  |nil=>exact fun _=>rfl
  |cons y D' ih=>
   intro hs;have hy:=hs y (.head _);have h1:=QJ (bt:=fun s=>L.bytes M s) [y.2] y.1 fun j es hj=>by
    cases j with
    |zero=>cases hj;exact ⟨h.bytes hy,(h.good y hy).1⟩
    |succ j=>simp at hj
   have e1:rowsOf (fun s=>L.bytes M s) [(y.1:Int)]=(dN y.2 8).map fun f=>((y.1:Int),f):=by
    have h2:dW y.1 [y.2]=(dN y.2 8).map fun f=>((y.1:Int),f):=by unfold dW;unfold dW;rw [acM]
    rw [← h2];exact h1
   have e2:∀ (a:Int) (l:List Int),rowsOf (fun s=>L.bytes M s) (a::l)=rowsOf (fun s=>L.bytes M s) [a]++rowsOf (fun s=>L.bytes M s) l:=fun a l=>by
    unfold rowsOf;simp
   rw [acS,e2,e1,ih fun d hd=>hs d (.tail _ hd)]
   rfl
 rw [h.aF];exact key D fun d hd=>hd
theorem J9 (C:List (List aG)):dG (kD C)=dW 0 C:=by
 have key:∀ (C:List (List aG)) (k:Nat),dG (C.mapIdx fun i es=>(i+k,es))=dW k C:=by
  intro C
  induction C with
  |nil=>exact fun _=>rfl
  |cons es C ih=>
   intro k;have e:(es::C).mapIdx (fun i es=>(i+k,es))=(k,es)::C.mapIdx fun i es=>(i+(k+1),es):=by
    rw [List.mapIdx_cons]
    congr 1
    ·rw [acT]
    ·congr 1
     funext i es
     rw [show i+1+k=i+(k+1) by omega]
   rw [e];unfold dW;rw [← ih (k+1)];unfold dG;rw [ada]
 exact key C 0
theorem HD.bad (h:HD K r E B n L M D):Rep.bad (fun s=>L.bytes M s) L.aF=none:=by
 refine Rep.Vf fun j s hs=>?_;rw [h.aF,acE]at hs;cases hq:D[j]? with
 |none=>rw [hq]at hs;cases hs
 |some y=>
  rw [hq]at hs;cases hs;have hy:=abV hq;exact ⟨_,h.bytes hy,(h.good y hy).1⟩
end
end Go.Seg
namespace Go.aO
open Go.ah (Bs dA aG dN encs fH)
open Go.Seg (aU)
open Go.Rep
def tN (C:List (List aG)):List (Int×List dA):=(List.range' 0 C.length).map fun j:Nat=>((j:Int),dN (C.getD j []) 8)
def jK (l:List (Int×List dA)):List Row:=l.flatMap fun x=>x.2.map fun f=>(x.1,f)
def kH (rs:List Row):Bs→Option Kv:=rs.foldl tV fun _=>none
section
variable {C:List (List aG)}
theorem ale:(tN C).length=C.length:=by unfold tN;rw [abl,aox]
theorem ald {k:Nat}{es:List aG} (hk:C[k]?=some es):(tN C)[k]?=some ((k:Int),dN es 8):=by
 have hl:k<C.length:=(abW.1 hk).1;unfold tN;rw [acE,List.getElem?_range' hl,ahf,Nat.one_mul,acT,acG,hk,anW]
theorem QI (l:List (Int×List dA)) (x:Int×List dA):jK (l++[x])=jK l++x.2.map fun f=>(x.1,f):=by
 unfold jK;rw [adz,ada,anX,acM]
theorem YC (rs:List Row) (r:Row):kH (rs++[r])=tV (kH rs) r:=by
 unfold kH;rw [aob]
 rfl
theorem ahP (c:List Int) (s t:Int):(oN c s t).length≤c.length+1:=by
 unfold oN;split
 ·rw [aaK];exact abL _
 ·omega
theorem amf (m:Bs→Option Kv) (r:Row) (k:Bs) (n:Nat) (h:∀ k,(iG m k).1.length≤n):(iG (tV m r) k).1.length≤n+1:=by
 unfold tV;split
 ·have:=h k;omega
 ·unfold Gy iG Tab.put;by_cases hk:k=fB r
  ·simp only [acr hk,anW];have:=ahP (iG m (fB r)).1 r.1 (dJ r);have:=h (fB r);unfold iG at *
   omega
  ·simp only [abA hk];have:=h k;unfold iG at this;omega
theorem WY:∀ (rs:List Row) (m:Bs→Option Kv) (n:Nat),(∀ k,(iG m k).1.length≤n)→∀ k,(iG (rs.foldl tV m) k).1.length≤n+rs.length
 |[],m,n,h,k=>h k
 |r::rs,m,n,h,k=>by
  have:=WY rs (tV m r) (n+1) (fun k=>amf m r k n h) k;rw [List.foldl_cons,ac5];omega
theorem YB (rs:List Row) (k:Bs):(iG (kH rs) k).1.length≤rs.length:=by
 have:=WY rs (fun _=>none) 0 (fun _=>abL _) k;unfold kH;omega
theorem aki (l:List (Int×List dA)) (i:Nat):(jK (l.take i)).length≤(jK l).length:=by
 have e:jK l=jK (l.take i)++jK (l.drop i):=by
  unfold jK;rw [← adz,adB]
 rw [e,aaK];omega
theorem ZV:∀ (es:List aG) (a j:Nat) (f:dA),(dN es a)[j]?=some f→0≤pay ((dN es a).take j)∧pay ((dN es a).take j)+(f.size:Int)≤((encs es).length:Int)
 |[],a,j,f,h=>by cases h
 |e::es,a,0,f,h=>by
  have e1:f.size≤(encs (e::es)).length:=by
   cases h;show _≤((ah.encode e).1++encs es).length;rw [aaK];exact Nat.le_add_right ..
  rw [adH];unfold pay;omega
 |e::es,a,j+1,f,h=>by
  have ih:=ZV es (a+(ah.encode e).1.length) j f h;have e1:(encs (e::es)).length=(ah.encode e).1.length+(encs es).length:=by
   show ((ah.encode e).1++encs es).length=_;rw [aaK]
  have e2:pay ((dN (e::es) a).take (j+1))=(if e.tag=2 then 0 else ((ah.encode e).1.length:Int))+pay ((dN es (a+(ah.encode e).1.length)).take j):=rfl;rw [e1,e2];split <;> omega
end
end Go.aO
