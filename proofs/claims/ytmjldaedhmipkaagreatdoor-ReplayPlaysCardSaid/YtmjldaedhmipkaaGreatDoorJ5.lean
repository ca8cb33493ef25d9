import Derived.Test.YtmjldaedhmipkaaGreatDoorJ4
set_option maxHeartbeats 128000000
namespace Go.Proofs.YtmjldaedhmipkaaGreatDoor
open Go Go.Sl Go.Med Go.MapKept Go.RowKit
section
variable {P : Program} {ops : Array Oper} {a : Act} {dst : Option Tmp} {t ty : TypeId} {pos : String} {after : Array Edge} {x y : Operand} {v vx vy : Value} {ad : Addr} {fl : Nat} {bo : BinOp} {tz : TypeId} {g : Option (Nat × Bool)}
theorem gfQ (hw : Region.wanted ⟨dst, .fieldAddr ty x fl, t, pos, after, g⟩ (yielded ops a.tmps) = true := by rfl) (hx : a.eval x = vx := by conv => lhs; whnf) (hr : ∀ w, (Instr.fieldAt ty vx fl).run P w = .ok v w := by ((intro wq; go_simp); first | done | (with_reducible rfl))) : Yields P ops ⟨dst, .fieldAddr ty x fl, t, pos, after, g⟩ v a := yg_field hw hx hr
theorem gmQ (hw : Region.wanted ⟨dst, .move x, t, pos, after, g⟩ (yielded ops a.tmps) = true := by rfl) (hx : a.eval x = v := by conv => lhs; whnf) : Yields P ops ⟨dst, .move x, t, pos, after, g⟩ v a := yg_move hw hx
end
end Go.Proofs.YtmjldaedhmipkaaGreatDoor
set_option linter.unusedVariables false
namespace Go.Proofs.YtmjldaedhmipkaaGreatDoor
open Go Go.Sl Go.Med Go.MapKept Go.RowKit
section
variable {w0 w:World}{F R:List HProp}{d:Nat}{D:Med}{fsv fv nv wv v lv:Value}{xs:List RF}{g:Bag}{K:Nat}
theorem rnew_c (room:Nat) (hr:room≤16777216) (h:Sat w0 w F) :
  Calls Tryz.prog 14 #[.int .i64 room] w (Rtn fun v w'=>∃ d,v = .tuple #[ptr d,errno 0]∧Sat w0 w' (DskRep d (Med.new room)::F)):=by
 have h2:decide ((room:Int)<0)=false:=by rw [decide_eq_false_iff_not];omega
 have h3:decide (16777216<(room:Int))=false:=by rw [decide_eq_false_iff_not];omega
 have hr2:¬ 16777216<room:=oQ
 clear hr
 go_enter Tryz.func14,Tryz.ntmps14
 go_wp2_with ((with_reducible refine at_box ⟨?_⟩);refine wl_box aQ evD evD ?_;intro bB wB hB)
 go_ret2
 refine ⟨_,rfl,_,rfl,DskRep.shut (fsv:= .slice none 0 0) (fv:= .slice none 0 0) (nv:= .slice none 0 0) (wv:= .slice none 0 0) (xs:=[]) (g:=[(.slice none 0 0,[])]) ⟨rfl,(fun x hx=>by cases hx),.head _,.head _⟩ ?_⟩
 have h5:Sat w0 _ (osl 243 3 (.slice none 0 0) []::dskPt _ (Med.new room) (.slice none 0 0) (.slice none 0 0) (.slice none 0 0) (.slice none 0 0)::F):=Sat.osl_nil.2 hB
 have h6:=Sat.star.2 (Sat.osl_nil (T:=175) (sz:=2) |>.2 (Sat.emp.2 h5))
 have h7:=Sat.osl_nil (T:=164) (sz:=3) |>.2 (Sat.emp.2 h6)
 exact h7.sub (sub_take pick4 (sub_take pick0 (sub_take pick0 (sub_take pick0 (sub_take pick0 sub_refl)))))
theorem list_eq (D:Med) (h:D.off=false):D.list=D.now.map (·.1):=by unfold Med.list;rw [h];rfl
theorem strs_snoc (l:List ByteArray) (s:ByteArray):strs l++[.string s]=strs (l++[s]):=by unfold strs;rw [List.map_append];rfl
set_option maxRecDepth 20000 in
theorem rlist_c (hl:D.now.length≤1048576) (h:Sat w0 w (DskRep d D::F)) :
  Calls Tryz.prog 51 #[ptr d] w (Rtn fun v w'=>∃ ov,v=ov∧Sat w0 w' (osl 9 1 ov (strs D.list)::DskRep d D::F)):=by
 obtain ⟨fsv,fv,nv,wv,xs,g,hin,hR⟩:=DskRep.open h
 have Hin:=uQ hin;have Hl:=uQ hl
 have e7:w.cell? ⟨d,7,none⟩=some (.bool D.off):=hR.cellP pick0 7 rfl
 clear h hin hl
 go_enter Tryz.func51,Tryz.ntmps51
 cases ho:D.off with
 |true=>
  have Hll:=uQ (show D.list=[] by unfold Med.list;rw [ho];rfl)
  rw [ho]at e7
  clear ho
  go_wp2
  go_ret
  exact ⟨_,rfl,_,rfl,by rw [Hll.out];exact Sat.osl_nil.2 (DskRep.shut Hin.out hR)⟩
 |false=>
  have Hll:=uQ (list_eq D ho)
  rw [ho]at e7
  clear ho
  have hn:=rnames_c hR
  obtain ⟨na,nc,rfl⟩:=nms_sl (bag_ro (w0:=w0) Hin.out.now w (hR.pick pick3))
  go_wp2_with fail
  refine hn.mono ?_
  rintro ee w1 ⟨v,rfl,rfl,rfl⟩
  clear hn e7
  go_wp2_with fail
  go_loopg [3,5] D.now.length (fun g' ov iq wr=>∃ i:Nat,g'=D.now.length - i∧i≤D.now.length∧iq = .int .i64 i∧Sat w0 wr (osl 9 1 ov (strs ((D.now.take i).map (·.1)))::dskPt d D fsv fv (.slice na D.now.length nc) wv::osl 164 3 fsv (rfsL xs)::stars (xs.map rfR)::bagR g::osl 243 3 wv (D.waits.flatMap rlkL)::F))
  case atStart=>exact ⟨0,rfl,Nat.zero_le _,rfl,Sat.osl_nil.2 hR⟩
  case round=>
   obtain ⟨i,rfl,hi,rfl,hS⟩:=hrel
   clear hR
   by_cases hlt:i<D.now.length
   ·have hl:=Hl.out
    have c1:(i:Int)<(D.now.length:Int):=oQ
    have hwi:=iwQ (i:=i)
    obtain ⟨p,hp⟩:∃ p,D.now[i]?=some p:=⟨_,List.getElem?_eq_getElem hlt⟩
    obtain ⟨bk,off,c,hee,e0,_⟩:=nms_cells (bag_ro (w0:=w0) Hin.out.now wr (hS.pick pick4)) hp
    cases hee
    have Hlt:=uQ hlt
    have Hnx:=uQ (show (D.now.take (i+1)).map (·.1)=(D.now.take i).map (·.1)++[p.1] by rw [List.take_add_one,hp,List.map_append];rfl)
    have hlen:(strs ((D.now.take i).map (·.1))).length≤2147483648:=by unfold strs;rw [List.length_map,List.length_map,List.length_take];omega
    generalize p.1=ps at *
    clear hlt hp hl
    go_wp2_with (first
     |((with_reducible refine at_build1 ⟨?_⟩);refine wl_build1 (e:=9) (sz:=1) (by':=16) kQ hS rQ (cs:=#[.string ps]) rfl rfl bQ ?_;intro bN wN hN)
     |((with_reducible refine at_append ⟨?_⟩);refine wl_app 9 1 16 kQ hN rQ rQ (pick_there pick0) pick0 rQ (Nat.le_refl 1) rQ hlen (by show 1≤65536;decide) dQ rfl ?_;intro bA nA cA wA hA))
    rw [strs_snoc,← Hnx.out]at hA
    go_roundg (D.now.length - (i+1))
    case measure=>have:=Hlt.out;omega
    case rel=>exact ⟨i+1,rfl,Nat.succ_le_of_lt Hlt.out,by first|rfl|go_num,hA⟩
   ·obtain rfl:i=D.now.length:=by omega
    have c1:¬ (D.now.length:Int)<(D.now.length:Int):=oQ
    rw [List.take_length,← Hll.out]at hS
    clear hlt
    go_wp2
    go_ret
    exact ⟨_,rfl,(DskRep.shut Hin.out (hS.sub (sub_take pick1 (sub_take pick1 (sub_take pick1 (sub_take pick1 (sub_take pick1 (sub_take pick0 sub_refl)))))))).sub (sub_take pick1 (sub_take pick0 sub_refl))⟩
theorem rlks_len (l:List Lnk):(l.flatMap rlkL).length=3 * l.length:=by
 induction l with
 |nil=>rfl
 |cons x l ih=>rw [List.flatMap_cons,List.length_append,ih,List.length_cons];show 3+3 * l.length=_;omega
theorem rlks_snoc (l:List Lnk) (x:Lnk):l.flatMap rlkL++rlkL x=(l++[x]).flatMap rlkL:=by rw [List.flatMap_append];simp
set_option maxRecDepth 20000 in
theorem rwait_c (x:Lnk) (hl:D.now.length≤1048575) (hw:D.waits.length≤1048576) (h:Sat w0 w (DskRep d D::F)) :
  Calls Tryz.prog 139 #[ptr d,.agg #[.string x.fr,.string x.to,.int .i64 x.f]] w (Rtn fun _ w'=>Sat w0 w' (DskRep d (D.link x)::F)):=by
 obtain ⟨fsv,fv,nv,wv,xs,g,hin,hR⟩:=DskRep.open h
 have Hin:=uQ hin;have Hl:=uQ hl
 have hlen:(D.waits.flatMap rlkL).length≤2147483648:=by rw [rlks_len];omega
 have hsl:∃ a n c,wv = .slice a n c:=by
  obtain ⟨a,n,c,e,_⟩:=Sat.rd (hR.pick pick4)
  exact ⟨a,n,c,e⟩
 obtain ⟨wa,wn,wc,rfl⟩:=hsl
 obtain ⟨na,nc,rfl⟩:=nms_sl (bag_ro (w0:=w0) hin.now w (hR.pick pick3))
 have e4:w.cell? ⟨d,4,none⟩=some (.slice wa wn wc):=hR.cellP pick0 4 rfl
 clear h hin hl hw
 obtain ⟨fr,to,f⟩:=x
 go_enter Tryz.func139,Tryz.ntmps139
 go_wp2_with (first
  |((with_reducible refine at_box ⟨?_⟩);refine wl_box aQ evD evD ?_;intro bB wB hB)
  |((with_reducible refine at_load ⟨?_⟩);refine wl_loadA (b:=bB) hB rQ pick0 Tryz.underlying243 rfl kQ ?_)
  |((with_reducible refine at_load ⟨?_⟩);refine ldQ ?_)
  |((with_reducible refine at_build1 ⟨?_⟩);refine wl_build1 (e:=243) (sz:=3) (by':=40) kQ hB rQ (cs:=#[.string fr,.string to,.int .i64 f]) rfl rfl bQ ?_;intro bN wN hN)
  |((with_reducible refine at_append ⟨?_⟩);refine wl_app 243 3 40 kQ hN rQ rQ (pick_there (pick_there (pick_there (pick_there (pick_there (pick_there pick0)))))) pick0 rQ (Nat.le_refl 1) rQ hlen (by show 3≤65536;decide) dQ rfl ?_;intro bA nA cA wA hA)
  |((with_reducible refine at_store ⟨?_⟩);refine stQ ?_;intro wS hS))
 have hS3:Sat w0 _ (bagR g::osl 243 3 (.slice (some ⟨bA,0,none⟩) nA cA) (D.waits.flatMap rlkL++[.string fr,.string to,.int .i64 f])::pt bB (.cells #[.string fr,.string to,.int .i64 f] 243 (0,0))::pt d (.cells #[.int .i64 D.room,fsv,fv,.slice na D.now.length nc,.slice (some ⟨bA,0,none⟩) nA cA,.bool D.armed,.int .i64 D.left,.bool D.off] 136 (0,0))::osl 164 3 fsv (rfsL xs)::stars (xs.map rfR)::F):=hS.drew.sel 6 [5,0,1,2,3,4] rfl rfl
 have hlk:=rlinked_c D.now ⟨fr,to,f⟩ Hl.out Hin.out.now hS3
 refine wpL_begin [6,7,8,9] (fun w'=>w'.cell? ⟨d,3,none⟩=some (.slice na D.now.length nc)∧w'.rangeAt bB 0 [.string fr,.string to,.int .i64 f]) kQ ?_
 have hG:World.cell? _ ⟨d,3,none⟩=some (.slice na D.now.length nc)∧World.rangeAt _ bB 0 [.string fr,.string to,.int .i64 f]:=⟨hS3.cellP pick3 3 rfl,fun j u hj=>by rw [Nat.zero_add];exact (hS3.pick pick2).cellAt j u (by simpa using hj)⟩
 refine rP 0 ?_ (y:=mvQ)
 refine rP 1 ?_ (y:=mvQ)
 refine rP 2 ?_ (y:=nlQ)
 refine rP 3 ?_ (y:=flQ)
 refine rg_take 4 evD kQ iQ (tk_load evD kQ (fun w hw=>hw.1)) aQ gQ ?_
 refine rg_take 5 evD kQ iQ (tg_loadN (P:=Tryz.prog) [.string fr,.string to,.int .i64 f] rQ evD rfl rfl kQ (fun w hw=>hw.2)) aQ gQ ?_
 clear hG
 refine rg_eff 6 evD kQ (fun K hK=>?_)
 refine eff_call2 kQ evD evD ?_
 refine hlk.mono ?_
 clear hlk
 rintro e w4 ⟨v,rfl,ov,g',rfl,hon,hsub,hS4⟩
 obtain ⟨oa,oc,rfl⟩:=nms_sl (bag_ro (w0:=w0) hon w4 (hS4.pick pick0))
 refine hK _ _ (.inl rfl) ?_
 clear hK
 refine rP 7 ?_ (y:=nlQ)
 refine rP 8 ?_ (y:=flQ)
 refine rg_eff 9 evD kQ (fun K hK=>?_)
 refine eff_store hS4 evD evD pQ upD bQ kQ rQ ?_
 intro w5 hS5
 refine hK _ _ (.inl rfl) ?_
 refine wdQ ?_
 clear hS4 hS3 hS hA hN hB hR
 try go_frame
 go_wp2
 refine bodyPost_ret (results_none rfl _ _ _) rfl ?_
 refine ⟨_,rfl,DskRep.shut (D:=D.link ⟨fr,to,f⟩) (fv:=fv) (fsv:=fsv) (wv:= .slice (some ⟨bA,0,none⟩) nA cA) ⟨Hin.out.files,Hin.out.ok,hsub _ Hin.out.fast,hon⟩ ?_⟩
 have e:D.waits.flatMap rlkL++[.string fr,.string to,.int .i64 f]=(D.link ⟨fr,to,f⟩).waits.flatMap rlkL:=rlks_snoc D.waits ⟨fr,to,f⟩
 rw [e]at hS5
 exact hS5.sub (sub_take pick3 (sub_take pick3 (sub_take pick3 (sub_take pick0 (sub_take pick0 (sub_drop sub_refl))))))
end
section
variable {w0 w:World}{F R:List HProp}{d:Nat}{D:Med}{fsv fv nv wv v lv:Value}{xs:List RF}{g:Bag}{K:Nat}
set_option maxRecDepth 20000 in
theorem rarm_c (n:Int) (h:Sat w0 w (DskRep d D::F)) :
  Calls Tryz.prog 28 #[ptr d,.int .i64 n] w (Rtn fun v w'=>v=errno (D.arm n).2∧Sat w0 w' (DskRep d (D.arm n).1::F)):=by
 obtain ⟨fsv,fv,nv,wv,xs,g,hin,hR⟩:=DskRep.open h
 have Hin:=uQ hin
 have e7:w.cell? ⟨d,7,none⟩=some (.bool D.off):=hR.cellP pick0 7 rfl
 clear h hin
 cases ho:D.off with
 |true=>
  have Ha:=uQ (show D.arm n=(D,12) by unfold Med.arm;rw [ho];rfl)
  rw [ho]at e7
  clear ho
  go_enter Tryz.func28,Tryz.ntmps28
  go_wp2
  go_ret
  exact ⟨_,rfl,by rw [Ha.out];rfl,by rw [Ha.out];exact DskRep.shut Hin.out hR⟩
 |false=>
  by_cases hn:n<0
  ·have Ha:=uQ (show D.arm n=(D,2) by unfold Med.arm;rw [ho,if_neg dQ,if_pos hn])
   rw [ho]at e7
   clear ho
   go_enter Tryz.func28,Tryz.ntmps28
   go_wp2
   go_ret
   exact ⟨_,rfl,by rw [Ha.out];rfl,by rw [Ha.out];exact DskRep.shut Hin.out hR⟩
  ·obtain ⟨k,rfl⟩:∃ k:Nat,n=k:=⟨n.toNat,by omega⟩
   have Ha:=uQ (show D.arm k=({ D with armed:=true,left:=k },0) by unfold Med.arm;rw [ho,if_neg dQ,if_neg hn];rfl)
   have c1:decide ((k:Int)<0)=false:=decide_eq_false hn
   have c2:¬ (k:Int)<0:=hn
   rw [ho]at e7
   clear ho hn
   go_enter Tryz.func28,Tryz.ntmps28
   go_wp2_with ((with_reducible refine at_store ⟨?_⟩);refine stQ ?_;intro wS hS)
   go_ret
   exact ⟨_,rfl,by rw [Ha.out];rfl,by rw [Ha.out];exact DskRep.shut (D:={ D with armed:=true,left:=k }) ⟨Hin.out.files,Hin.out.ok,Hin.out.fast,Hin.out.now⟩ hS⟩
set_option maxRecDepth 20000 in
theorem rall_c (s:ByteArray) (hl:D.now.length≤1048576) (hf:∀ i,nget D.now s=some i→i<D.files.length∧(D.file i).now.length≤1099511627776) (h:Sat w0 w (DskRep d D::F)) :
  Calls Tryz.prog 67 #[ptr d,.string s] w (Rtn fun v w'=>∃ ov,v = .tuple #[ov,errno (D.all s).2]∧Sat w0 w' (bsl ov (D.all s).1::DskRep d D::F)):=by
 have hfd:=rfind_c s hl h
 obtain ⟨fsv,fv,nv,wv,xs,g,hin,hR⟩:=DskRep.open h
 have Hin:=uQ hin;have Hf:=uQ hf
 have e7:w.cell? ⟨d,7,none⟩=some (.bool D.off):=hR.cellP pick0 7 rfl
 clear h hin hf hl
 cases ho:D.off with
 |true=>
  have Ha:=uQ (show D.all s=([],12) by unfold Med.all;rw [ho];rfl)
  rw [ho]at e7
  clear ho hfd
  go_enter Tryz.func67,Tryz.ntmps67
  go_wp2
  go_ret2
  refine ⟨_,rfl,.slice none 0 0,?_,by rw [Ha.out];exact Sat.osl_nil.2 (DskRep.shut Hin.out hR)⟩
  rw [Ha.out];rfl
 |false=>
  cases hg:nget D.now s with
  |none=>
   have Ha:=uQ (show D.all s=([],9) by unfold Med.all;rw [ho,if_neg dQ,hg])
   have Hw:=uQ (show D.which s = -1 by unfold Med.which;rw [hg])
   rw [Hw.out]at hfd
   rw [ho]at e7
   clear ho
   go_enter Tryz.func67,Tryz.ntmps67
   go_wp2_with fail
   refine hfd.mono ?_
   rintro ee w1 ⟨v,rfl,rfl,rfl⟩
   clear hfd
   go_wp2
   go_ret2
   refine ⟨_,rfl,.slice none 0 0,?_,by rw [Ha.out];exact Sat.osl_nil.2 (DskRep.shut Hin.out hR)⟩
   rw [Ha.out];rfl
  |some i=>
   have Ha:=uQ (show D.all s=((D.file i).now,0) by unfold Med.all;rw [ho,if_neg dQ,hg])
   have hw:D.which s=(i:Int):=by unfold Med.which;rw [hg]
   rw [hw]at hfd
   rw [ho]at e7
   have hh:=rhere_c i (Hf.out i hg).1 Hin.out (Hf.out i hg).2 hR
   have c1:decide ((i:Int)<0)=false:=by rw [decide_eq_false_iff_not];omega
   have c2:¬ (i:Int)<0:=oQ
   clear ho hw hg
   go_enter Tryz.func67,Tryz.ntmps67
   go_wp2_with fail
   refine hfd.mono ?_
   rintro ee w1 ⟨v,rfl,rfl,rfl⟩
   clear hfd
   go_wp2_with fail
   refine hh.mono ?_
   clear hh
   rintro ee w2 ⟨v,rfl,hS,a,n,c,rfl⟩
   clear e7 hR
   go_wp2
   go_ret2
   refine ⟨_,rfl,.slice a n c,?_,?_⟩
   ·rw [Ha.out];rfl
   ·rw [Ha.out];exact (DskRep.shut Hin.out (hS.sub (sub_take pick1 (sub_take pick1 (sub_take pick1 (sub_take pick1 (sub_take pick1 (sub_take pick0 sub_refl)))))))).sub (sub_take pick1 (sub_take pick0 sub_refl))
end
def usedOf (D:Med) (l:Names):Nat:=(l.map fun p=>(D.file p.2).now.length).sum
theorem usedOf_snoc (D:Med) (l:Names) (p:ByteArray×Nat):usedOf D (l++[p])=usedOf D l+(D.file p.2).now.length:=by unfold usedOf;simp
theorem usedOf_take (D:Med){i:Nat}{p:ByteArray×Nat} (h:D.now[i]?=some p):usedOf D (D.now.take (i+1))=usedOf D (D.now.take i)+(D.file p.2).now.length:=by
 rw [List.take_add_one,h];exact usedOf_snoc D _ p
theorem usedOf_le (D:Med) (i:Nat):usedOf D (D.now.take i)≤D.used:=by
 have e:D.used=usedOf D (D.now.take i++D.now.drop i):=by rw [List.take_append_drop];rfl
 rw [e];unfold usedOf;rw [List.map_append,List.sum_append];omega
theorem last_succ (D:Med){i:Nat}{x:Lnk} (h:D.waits[i]?=some x):D.lastNames (i+1)=x.on (D.lastNames i):=by
 unfold Med.lastNames;rw [List.take_add_one,h,List.foldl_append];rfl
theorem rlks_at {l:List Lnk}{i:Nat}{x:Lnk} (h:l[i]?=some x):(l.flatMap rlkL)[i * 3]?=some (.string x.fr)∧(l.flatMap rlkL)[i * 3+1]?=some (.string x.to)∧(l.flatMap rlkL)[i * 3+2]?=some (.int .i64 x.f):=by
 induction l generalizing i with
 |nil=>simp at h
 |cons a l ih=>
  cases i with
  |zero=>
   obtain rfl:a=x:=by simpa using h
   exact ⟨rfl,rfl,rfl⟩
  |succ i=>
   have e1:(a::l).flatMap rlkL = .string a.fr :: .string a.to :: .int .i64 a.f::l.flatMap rlkL:=rfl
   rw [e1,show (i+1) * 3=i * 3+1+1+1 by omega]
   exact ih (by simpa using h)
section
variable {w0 w:World}{F R:List HProp}{d:Nat}{D:Med}{fsv fv nv wv v lv:Value}{xs:List RF}{g:Bag}{K:Nat}
set_option maxRecDepth 20000 in
theorem rused_c (hl:D.now.length≤1048576) (hu:D.used≤1099511627776) (hv:∀ p∈D.now,p.2<D.files.length) (h:Sat w0 w (DskRep d D::F)) :
  Calls Tryz.prog 131 #[ptr d] w (Rtn fun v w'=>v = .int .i64 D.used∧Sat w0 w' (DskRep d D::F)):=by
 obtain ⟨fsv,fv,nv,wv,xs,g,hin,hR⟩:=DskRep.open h
 have Hin:=uQ hin;have Hl:=uQ hl;have Hu:=uQ hu;have Hv:=uQ hv
 have Hlx:=uQ (show xs.length=D.files.length by rw [← hin.files,List.length_map])
 have hn:=rnames_c hR
 obtain ⟨na,nc,rfl⟩:=nms_sl (bag_ro (w0:=w0) hin.now w (hR.pick pick3))
 obtain ⟨fa,fn,fc,rfl,hfn,_⟩:=Sat.rd (hR.pick pick1)
 rw [rfsL_len]at hfn
 obtain rfl:fn=xs.length:=by omega
 clear h hin hl hu hv hfn
 go_enter Tryz.func131,Tryz.ntmps131
 go_wp2_with fail
 refine hn.mono ?_
 rintro ee w1 ⟨v,rfl,rfl,rfl⟩
 clear hn
 go_wp2_with fail
 go_loopg [4,5] D.now.length (fun g' nq iq wr=>∃ i:Nat,g'=D.now.length - i∧i≤D.now.length∧nq = .int .i64 (usedOf D (D.now.take i):Nat)∧iq = .int .i64 i∧Sat w0 wr (dskPt d D (.slice fa xs.length fc) fv (.slice na D.now.length nc) wv::osl 164 3 (.slice fa xs.length fc) (rfsL xs)::stars (xs.map rfR)::bagR g::osl 243 3 wv (D.waits.flatMap rlkL)::F))
 case atStart=>exact ⟨0,rfl,Nat.zero_le _,rfl,rfl,hR⟩
 case round=>
  obtain ⟨i,rfl,hi,rfl,rfl,hS⟩:=hrel
  clear hR
  by_cases hlt:i<D.now.length
  ·have hl:=Hl.out
   have c1:(i:Int)<(D.now.length:Int):=oQ
   have hwi:=iwQ (i:=i)
   obtain ⟨p,hp⟩:∃ p,D.now[i]?=some p:=⟨_,List.getElem?_eq_getElem hlt⟩
   have hS2:=hS.drew
   obtain ⟨bk,off,c,hee,_,e1⟩:=nms_cells (bag_ro (w0:=w0) Hin.out.now _ (hS2.pick pick3)) hp
   cases hee
   have hpf:=Hv.out p (List.mem_of_getElem? hp)
   obtain ⟨x,hx,hxf⟩:=Hin.out.file hpf
   have hlx:=Hlx.out
   obtain ⟨_,h1,_⟩:=rfsL_at hx
   obtain ⟨bk2,off2,hfe,hc⟩:=rdsl_cells (Sat.rd (hS2.pick pick1)) h1
   subst hfe
   have e2:(World.drew wr).cell? ⟨bk2,off2+p.2 * 3+1,none⟩=some x.nv:=by rw [Nat.add_assoc];exact hc _ _ h1
   obtain ⟨xa,xn,xc,hxe,hxl,_⟩:=(file_ro (w0:=w0) (List.mem_of_getElem? hx)).1 _ (hS2.pick pick2)
   rw [hxe]at e2
   have hxn:xn=(D.file p.2).now.length:=by rw [← hxf];unfold bys at hxl;rw [List.length_map]at hxl;omega
   subst hxn
   have e0:(World.drew wr).cell? ⟨d,1,none⟩=some (.slice (some ⟨bk2,off2,none⟩) xs.length fc):=hS2.cellP pick0 1 rfl
   have c2:(p.2:Int)<(xs.length:Int):=oQ
   have Hus:=uQ (usedOf_take D hp)
   have hle:=usedOf_le D (i+1)
   rw [Hus.out]at hle
   have hu:=Hu.out
   have hw2:IntKind.i64.wrap ((usedOf D (D.now.take i):Int)+((D.file p.2).now.length:Int))=(usedOf D (D.now.take i):Int)+((D.file p.2).now.length:Int):=IntWalk.i64_in _ oQ
   have Hlt:=uQ hlt
   have Hcast:=uQ (show ((usedOf D (D.now.take (i+1)):Nat):Int)=(usedOf D (D.now.take i):Int)+((D.file p.2).now.length:Int) by rw [Hus.out];omega)
   clear hlt hp hl hle hu Hus hx hxf hxe hxl hc h1 hpf hlx hS
   generalize usedOf D (D.now.take i)=U at *
   generalize (D.file p.2).now.length=V at *
   generalize p.2=f at *
   go_wp2_with fail
   refine wpL_begin [13,14,15] (fun w'=>w'.cell? ⟨d,1,none⟩=some (.slice (some ⟨bk2,off2,none⟩) xs.length fc)∧w'.cell? ⟨bk,off+i * 2+1,none⟩=some (.int .i64 f)∧w'.cell? ⟨bk2,off2+f * 3+1,none⟩=some (.slice xa V xc)) kQ ?_
   have hG:=And.intro e0 (And.intro e1 e2)
   refine rP 0 ?_ (y:=mvQ)
   refine rP 1 ?_ (y:=mvQ)
   refine rP 2 ?_ (y:=nlQ)
   refine rP 3 ?_ (y:=flQ)
   refine rt 4 (h:=?_)
   refine rP 5 ?_ (y:=mvQ)
   refine rP 6 ?_ (y:=mvQ)
   refine rP 7 ?_ (y:=ixQ)
   refine rP 8 ?_ (y:=flQ)
   refine rt 9 (h:=?_)
   refine rP 10 ?_ (y:=ixQ)
   refine rP 11 ?_ (y:=flQ)
   refine rt 12 (h:=?_)
   refine rP 13 ?_ (y:=(yl_len evD rnD))
   refine rP 14 ?_ (y:=bnQ)
   refine rP 15 ?_ (y:=asQ)
   refine wdQ ?_
   clear hG
   try simp only [ayQ]
   try go_frame
   go_wp2
   go_roundg (D.now.length - (i+1))
   case measure=>have:=Hlt.out;omega
   case rel=>exact ⟨i+1,rfl,Nat.succ_le_of_lt Hlt.out,by rw [Hcast.out],by first|rfl|go_num,hS2⟩
  ·obtain rfl:i=D.now.length:=by omega
   have c1:¬ (D.now.length:Int)<(D.now.length:Int):=oQ
   rw [List.take_length]
   clear hlt
   go_wp2
   go_ret
   exact ⟨_,rfl,rfl,DskRep.shut Hin.out hS⟩
set_option maxRecDepth 20000 in
theorem rnamesn_c (n:Nat) (hn:n≤D.waits.length) (hw:D.waits.length≤1048576) (hl:∀ k,k≤n→(D.lastNames k).length≤1048575) (hf:(fv,D.fast)∈g)
  (h:Sat w0 w (dskPt d D fsv fv nv wv::osl 243 3 wv (D.waits.flatMap rlkL)::bagR g::F)) :
  Calls Tryz.prog 93 #[ptr d,.int .i64 n] w (Rtn fun v w'=>∃ ov g',v=ov∧(ov,D.lastNames n)∈g'∧(∀ q∈g,q∈g')∧Sat w0 w' (dskPt d D fsv fv nv wv::osl 243 3 wv (D.waits.flatMap rlkL)::bagR g'::F)):=by
 obtain ⟨fa,fc,rfl⟩:=nms_sl (bag_ro (w0:=w0) hf w (h.pick pick2))
 obtain ⟨wa,wn,wc,rfl,hwn,_⟩:=Sat.rd (h.pick pick1)
 rw [rlks_len]at hwn
 obtain rfl:wn=D.waits.length:=by omega
 have Hf:=uQ hf;have Hl:=uQ hl;have Hn:=uQ hn;have Hw:=uQ hw
 have e2:w.cell? ⟨d,2,none⟩=some (.slice fa D.fast.length fc):=h.cellP pick0 2 rfl
 clear hf hl hn hw hwn
 go_enter Tryz.func93,Tryz.ntmps93
 go_wp2_with fail
 go_loopg [5,6] n (fun g' ov iq wr=>∃ (i:Nat) (g2:Bag),g'=n - i∧i≤n∧iq = .int .i64 i∧(ov,D.lastNames i)∈g2∧(∀ q∈g,q∈g2)∧Sat w0 wr (dskPt d D fsv (.slice fa D.fast.length fc) nv (.slice wa D.waits.length wc)::osl 243 3 (.slice wa D.waits.length wc) (D.waits.flatMap rlkL)::bagR g2::F))
 case atStart=>exact ⟨0,g,rfl,Nat.zero_le _,rfl,Hf.out,fun _ h=>h,h⟩
 case round=>
  obtain ⟨i,g2,rfl,hi,rfl,hmem,hsub,hS⟩:=hrel
  clear h e2
  obtain ⟨oa,oc,rfl⟩:=nms_sl (bag_ro (w0:=w0) hmem _ (hS.pick pick2))
  by_cases hlt:i<n
  ·have hnn:=Hn.out
   have hww:=Hw.out
   have c1:(i:Int)<(n:Int):=oQ
   have c2:(i:Int)<(D.waits.length:Int):=oQ
   have hwi:=iwQ (i:=i)
   obtain ⟨x,hx⟩:∃ x,D.waits[i]?=some x:=⟨_,List.getElem?_eq_getElem (show i<D.waits.length by omega)⟩
   obtain ⟨h0,h1,h2⟩:=rlks_at hx
   obtain ⟨bk,off,hwe,hc⟩:=rdsl_cells (Sat.rd (hS.pick pick1)) h0
   subst hwe
   have e4:=(hS.cellP pick0 4 rfl:World.cell? _ ⟨d,4,none⟩=some (.slice (some ⟨bk,off,none⟩) D.waits.length wc))
   have Hcells:=uQ (show ∀ j v,[Value.string x.fr,.string x.to,.int .i64 x.f][j]?=some v→World.cell? _ ⟨bk,off+i * 3+j,none⟩=some v from fun j v hj=>by
    match j,hj with
    |0,hj=>cases hj;exact hc _ _ h0
    |1,hj=>cases hj;rw [Nat.add_assoc];exact hc _ _ h1
    |2,hj=>cases hj;rw [Nat.add_assoc];exact hc _ _ h2)
   have Hnx:=uQ (last_succ D hx)
   have hlk:=rlinked_c (D.lastNames i) x (Hl.out i hi) hmem (hS.sub (sub_take pick2 (sub_take pick0 (sub_take pick0 sub_refl))))
   have Hlt:=uQ hlt
   clear hlt hx h0 h1 h2 hc hnn hww
   go_wp2_with ((with_reducible refine at_load ⟨?_⟩);refine wl_loadN' (b:=bk) (o:=off+i * 3) [.string x.fr,.string x.to,.int .i64 x.f] rQ Hcells.out Tryz.underlying243 rfl kQ ?_)
   refine hlk.mono ?_
   clear hlk
   rintro ee w2 ⟨v,rfl,ov,g3,rfl,hon,hs3,hS3⟩
   rw [← Hnx.out]at hon
   have hsub3:∀ q∈g,q∈g3:=fun q hq=>hs3 q (hsub q hq)
   have hS4:=hS3.sub (sub_take pick1 (sub_take pick1 (sub_take pick0 sub_refl)))
   clear hS hmem hsub hs3 e4 hS3 Hcells
   go_wp2
   go_roundg (n - (i+1))
   case measure=>have:=Hlt.out;omega
   case rel=>exact ⟨i+1,g3,rfl,Nat.succ_le_of_lt Hlt.out,by first|rfl|go_num,hon,hsub3,hS4⟩
  ·obtain rfl:i=n:=by omega
   have c1:¬ (i:Int)<(i:Int):=oQ
   clear hlt
   go_wp2
   go_ret
   exact ⟨_,rfl,g2,hmem,fun a b hq=>hsub _ hq,hS⟩
end
def nilV:Value:= .slice none 0 0
def RF.zero:RF:=⟨Fil.new,.slice none 0 0,.slice none 0 0,.slice none 0 0,[]⟩
theorem step_files (D:Med):D.step.1.files=D.files:=by unfold Med.step;split;(split <;> rfl);rfl
theorem step_now (D:Med):D.step.1.now=D.now:=by unfold Med.step;split;(split <;> rfl);rfl
theorem step_fast (D:Med):D.step.1.fast=D.fast:=by unfold Med.step;split;(split <;> rfl);rfl
theorem step_waits (D:Med):D.step.1.waits=D.waits:=by unfold Med.step;split;(split <;> rfl);rfl
section
variable {w0 w:World}{F R:List HProp}{d:Nat}{D:Med}{fsv fv nv wv v lv:Value}{xs:List RF}{g:Bag}{K:Nat}
theorem rf_zero (h:Sat w0 w (stars (xs.map rfR)::F)):Sat w0 w (stars ((xs++[RF.zero]).map rfR)::F):=by
 rw [List.map_append,stars_append]
 refine Sat.star.2 ?_
 refine Sat.sub (L:=stars ([RF.zero].map rfR)::stars (xs.map rfR)::F) ?_ (sub_take pick1 (sub_take pick0 sub_refl))
 refine Sat.star.2 ?_
 have h1:Sat w0 w (stars ([]:List HProp)::stars (xs.map rfR)::F):=Sat.emp.2 h
 refine Sat.star.2 ?_
 exact Sat.osl_nil.2 (Sat.star.2 (Sat.osl_nil.2 (Sat.star.2 (Sat.osl_nil.2 (Sat.star.2 (Sat.emp.2 (Sat.emp.2 h1)))))))
theorem app_len {a:Option Addr}{n c:Nat}{ks:List Value} (hA:Sat w0 w (osl 164 3 (.slice a n c) (rfsL xs++ks)::R)) (hk:ks.length=3):n=xs.length+1:=by
 obtain ⟨_,_,_,he,hl,_⟩:=Sat.rd hA
 cases he
 rw [List.length_append,rfsL_len,hk]at hl
 omega
set_option maxRecDepth 20000 in
theorem rcreate_c (s:ByteArray) (hs:s.size≤9223372036854775806) (hl:D.now.length≤1048575) (hw:D.waits.length≤1048576) (hfs:D.files.length≤1048576) (hlf:D.left≤9223372036854775807) (h:Sat w0 w (DskRep d D::F)) :
  Calls Tryz.prog 108 #[ptr d,.string s] w (Rtn fun v w'=>v=errno (D.create s).2∧Sat w0 w' (DskRep d (D.create s).1::F)):=by
 have hfd:=rfind_c s oQ h
 obtain ⟨fsv,fv,nv,wv,xs,g,hin,hR⟩:=DskRep.open h
 have Hin:=uQ hin;have Hl:=uQ hl;have Hw:=uQ hw;have Hfs:=uQ hfs;have Hlf:=uQ hlf
 have e7:w.cell? ⟨d,7,none⟩=some (.bool D.off):=hR.cellP pick0 7 rfl
 clear h hin hl hw hfs hlf
 have hn:=rnames_c hR
 obtain ⟨na,nc,rfl⟩:=nms_sl (bag_ro (w0:=w0) Hin.out.now w (hR.pick pick3))
 have hgd:=rgood_c s w hs
 cases ho:D.off with
 |true=>
  have Ha:=uQ (show D.create s=(D,12) by unfold Med.create;rw [ho];rfl)
  rw [ho]at e7
  clear ho hfd hn hgd
  go_enter Tryz.func108,Tryz.ntmps108
  go_wp2
  go_ret
  exact ⟨_,rfl,by rw [Ha.out];rfl,by rw [Ha.out];exact DskRep.shut Hin.out hR⟩
 |false=>
  rw [ho]at e7
  have Ho:=uQ (show ¬ (D.off=true) by rw [ho];decide)
  clear ho
  cases hg:good s with
  |false=>
   have Ha:=uQ (show D.create s=(D,7) by unfold Med.create;rw [if_neg Ho.out,if_pos hg])
   rw [hg]at hgd
   clear hfd hn hg
   go_enter Tryz.func108,Tryz.ntmps108
   go_wp2_with fail
   refine hgd.mono ?_
   rintro ee w1 ⟨v,rfl,rfl,rfl⟩
   clear hgd
   go_wp2
   go_ret
   exact ⟨_,rfl,by rw [Ha.out];rfl,by rw [Ha.out];exact DskRep.shut Hin.out hR⟩
  |true=>
   have Hg:=uQ (show ¬ (good s=false) by rw [hg];decide)
   rw [hg]at hgd
   clear hg
   cases hk:nget D.now s with
   |some i=>
    have Ha:=uQ (show D.create s=(D,10) by unfold Med.create;rw [if_neg Ho.out,if_neg Hg.out,hk];rfl)
    have hwh:D.which s=(i:Int):=by unfold Med.which;rw [hk]
    rw [hwh]at hfd
    have c1:0≤(i:Int):=oQ
    clear hn hk hwh
    go_enter Tryz.func108,Tryz.ntmps108
    go_wp2_with fail
    refine hgd.mono ?_
    rintro ee w1 ⟨v,rfl,rfl,rfl⟩
    clear hgd
    go_wp2_with fail
    refine hfd.mono ?_
    rintro ee w1 ⟨v,rfl,rfl,rfl⟩
    clear hfd
    go_wp2
    go_ret
    exact ⟨_,rfl,by rw [Ha.out];rfl,by rw [Ha.out];exact DskRep.shut Hin.out hR⟩
   |none=>
    have hwh:D.which s = -1:=by unfold Med.which;rw [hk]
    rw [hwh]at hfd
    have Hk:=uQ (show ¬ ((nget D.now s).isSome=true) by rw [hk];decide)
    clear hk hwh
    by_cases hb:500≤D.now.length
    ·have Ha:=uQ (show D.create s=(D,16) by unfold Med.create;rw [if_neg Ho.out,if_neg Hg.out,if_neg Hk.out,if_pos hb])
     have c1:500≤(D.now.length:Int):=oQ
     clear hb
     go_enter Tryz.func108,Tryz.ntmps108
     go_wp2_with fail
     refine hgd.mono ?_
     rintro ee w1 ⟨v,rfl,rfl,rfl⟩
     clear hgd
     go_wp2_with fail
     refine hfd.mono ?_
     rintro ee w1 ⟨v,rfl,rfl,rfl⟩
     clear hfd
     go_wp2_with fail
     refine hn.mono ?_
     rintro ee w1 ⟨v,rfl,rfl,rfl⟩
     clear hn
     go_wp2
     go_ret
     exact ⟨_,rfl,by rw [Ha.out];rfl,by rw [Ha.out];exact DskRep.shut Hin.out hR⟩
    ·have c1:¬ 500≤(D.now.length:Int):=by omega
     have Hb:=uQ hb
     clear hb
     have hst:=rstep_c hR Hlf.out
     go_enter Tryz.func108,Tryz.ntmps108
     go_wp2_with fail
     refine hgd.mono ?_
     rintro ee w1 ⟨v,rfl,rfl,rfl⟩
     clear hgd
     go_wp2_with fail
     refine hfd.mono ?_
     rintro ee w1 ⟨v,rfl,rfl,rfl⟩
     clear hfd
     go_wp2_with fail
     refine hn.mono ?_
     rintro ee w1 ⟨v,rfl,rfl,rfl⟩
     clear hn
     go_wp2_with fail
     refine hst.mono ?_
     clear hst
     rintro ee w2 ⟨v,rfl,rfl,hS⟩
     clear hR e7 c1
     have hin2:DskIn D.step.1 fv (.slice na D.now.length nc) xs g:=⟨by rw [step_files];exact Hin.out.files,Hin.out.ok,by rw [step_fast];exact Hin.out.fast,by rw [step_now];exact Hin.out.now⟩
     have Hin2:=uQ hin2
     clear hin2
     cases ht:D.step.2 with
     |false=>
      have Ha:=uQ (show D.create s=(D.step.1,12) by unfold Med.create;rw [if_neg Ho.out,if_neg Hg.out,if_neg Hk.out,if_neg Hb.out,if_pos ht])
      clear ht
      rw [← step_waits]at hS
      go_wp2
      go_ret
      exact ⟨_,rfl,by rw [Ha.out];rfl,by rw [Ha.out];exact DskRep.shut Hin2.out hS⟩
     |true=>
      have Ha:=uQ (show D.create s=({ D.step.1 with files:=D.files++[Fil.new] }.link ⟨ByteArray.empty,s,D.files.length⟩,0) by unfold Med.create;rw [if_neg Ho.out,if_neg Hg.out,if_neg Hk.out,if_neg Hb.out,if_neg (by rw [ht];decide)])
      clear ht Ho Hg Hk Hb
      have Hl1:=uQ (show D.step.1.now.length≤1048575 by rw [step_now];exact Hl.out)
      have Hw1:=uQ (show D.step.1.waits.length≤1048576 by rw [step_waits];exact Hw.out)
      have Hlx:=uQ (show xs.length=D.files.length by rw [← Hin.out.files,List.length_map])
      have hfs:=Hfs.out
      have hlx:=Hlx.out
      rw [← step_waits]at hS
      obtain ⟨fa,fn,fc,rfl,hfn,_⟩:=Sat.rd (hS.pick pick1)
      rw [rfsL_len]at hfn
      obtain rfl:fn=xs.length:=by omega
      have hlen:(rfsL xs).length≤2147483648:=by rw [rfsL_len];omega
      have hw1:IntKind.i64.wrap (xs.length:Int)=(xs.length:Int):=IntWalk.i64_in _ oQ
      have hw2:IntKind.i64.wrap (((xs.length+1:Nat):Int) - 1)=(xs.length:Int):=by rw [show ((xs.length+1:Nat):Int) - 1=(xs.length:Int) by omega];exact hw1
      clear hfn hfs hlx
      generalize D.step.1=D1 at *
      go_wp2_with (first
       |((with_reducible refine at_load ⟨?_⟩);refine ldQ ?_)
       |((with_reducible refine at_build1 ⟨?_⟩);refine wl_build1 (e:=164) (sz:=3) (by':=72) kQ hS rQ (cs:=#[.slice none 0 0,.slice none 0 0,.slice none 0 0]) rfl rfl bQ ?_;intro bN wN hN)
       |((with_reducible refine at_append ⟨?_⟩);refine wl_app 164 3 72 kQ hN rQ rQ (pick_there (pick_there pick0)) pick0 rQ (Nat.le_refl 1) rQ hlen (by show 3≤65536;decide) dQ rfl ?_;intro bA nA cA wA hA;obtain rfl:=app_len hA rfl)
       |((with_reducible refine at_store ⟨?_⟩);refine stQ ?_;intro wS hS))
      have h5:=rf_zero (hS.sub (sub_take pick2 (sub_take pick1 (sub_take pick0 (sub_take pick0 (sub_take pick0 sub_refl))))))
      rw [show rfsL xs++[Value.slice none 0 0,.slice none 0 0,.slice none 0 0]=rfsL (xs++[RF.zero]) by unfold rfsL;rw [List.flatMap_append];rfl]at h5
      have h6:=DskRep.shut (D:={ D1 with files:=D.files++[Fil.new] }) (xs:=xs++[RF.zero]) (fv:=fv) ⟨by rw [List.map_append,Hin.out.files];rfl,(fun x hx=>by rcases List.mem_append.1 hx with hx|hx;exact Hin.out.ok x hx;rw [List.mem_singleton.1 hx];rfl),Hin2.out.fast,Hin2.out.now⟩ (h5.sub (sub_take pick1 (sub_take pick1 (sub_take pick0 (sub_take pick0 (sub_take pick0 sub_refl))))))
      refine (rwait_c (D:={ D1 with files:=D.files++[Fil.new] }) ⟨ByteArray.empty,s,xs.length⟩ Hl1.out Hw1.out h6).mono ?_
      rintro ee w5 ⟨v,rfl,h7⟩
      clear hS hN hA h5 h6 hw1 hw2
      go_wp2
      go_ret
      exact ⟨_,rfl,by rw [Ha.out];rfl,by rw [Ha.out,← Hlx.out];exact h7⟩
end
end Go.Proofs.YtmjldaedhmipkaaGreatDoor
namespace Go.Med
theorem xorAt_len (l:Bs) (i:Nat) (y:UInt8):(xorAt l i y).length=l.length:=by unfold xorAt;simp
def Alike (c d:Chg):Prop:=d.cut=c.cut∧d.n=c.n∧d.b.length=c.b.length
theorem on_len {c d:Chg} (h:Alike c d){l l':Bs} (hl:l'.length=l.length):(d.on l').length=(c.on l).length:=by
 obtain ⟨h1,h2,h3⟩:=h
 unfold Chg.on
 rw [h1]
 split
 ·simp [h2,hl]
 ·simp [h3,hl]
theorem at_len {f g:Fil} (h0:g.fast.length=f.fast.length) (hw:g.waits.length=f.waits.length)
  (hc:∀ (k:Nat) (c d:Chg),f.waits[k]?=some c→g.waits[k]?=some d→Alike c d):∀ k,k≤f.waits.length→(g.at k).length=(f.at k).length:=by
 intro k
 induction k with
 |zero=>intro _;exact h0
 |succ k ih=>
  intro hk
  have h1:f.waits[k]?=some (f.waits[k]'oQ):=List.getElem?_eq_getElem _
  have h2:g.waits[k]?=some (g.waits[k]'oQ):=List.getElem?_eq_getElem _
  rw [f.at_succ k _ h1,g.at_succ k _ h2]
  exact on_len (hc k _ _ h1 h2) (ih oQ)
theorem xorAt_left {l:Bs}{i:Nat} (y:UInt8) (b:Bs) (h:i<l.length):xorAt (l++b) i y=xorAt l i y++b:=by
 unfold xorAt
 rw [List.set_append_left _ _ h,List.getD_eq_getElem?_getD,List.getElem?_append_left h,List.getD_eq_getElem?_getD]
theorem xorAt_right {l:Bs}{i:Nat} (y:UInt8) (b:Bs) (h:l.length≤i):xorAt (l++b) i y=l++xorAt b (i - l.length) y:=by
 unfold xorAt
 rw [List.set_append_right _ _ h,List.getD_eq_getElem?_getD,List.getElem?_append_right h,List.getD_eq_getElem?_getD]
theorem xorAt_take (l:Bs) (i n:Nat) (y:UInt8):(xorAt l i y).take n=xorAt (l.take n) i y:=by
 unfold xorAt
 rw [List.take_set]
 by_cases h:i<n
 ·rw [List.getD_eq_getElem?_getD,List.getD_eq_getElem?_getD,List.getElem?_take_of_lt h]
 ·rw [List.set_eq_of_length_le (by simp;omega),List.set_eq_of_length_le (by simp;omega)]
theorem on_xor (c:Chg) (l:Bs) (i:Nat) (y:UInt8) (h:c.cut=true∨i<l.length):c.on (xorAt l i y)=xorAt (c.on l) i y:=by
 unfold Chg.on
 cases hc:c.cut
 ·simp only [Bool.false_eq_true,if_false]
  rcases h with h|h
  ·rw [hc]at h;cases h
  ·exact (xorAt_left y c.b h).symm
 ·simp only [if_true];exact xorAt_take l i c.n y
def Past (f:Fil) (i k n:Nat):Prop:=∀ (j:Nat) (c:Chg),k≤j→j<n→f.waits[j]?=some c→c.cut=true∨i<(f.at j).length
theorem at_xor {f g:Fil}{i k:Nat}{y:UInt8} (h0:g.at k=xorAt (f.at k) i y) (hw:∀ j,k≤j→g.waits[j]?=f.waits[j]?) (hp:Past f i k f.waits.length) :
  ∀ j,k≤j→j≤f.waits.length→g.at j=xorAt (f.at j) i y:=by
 intro j hj
 induction hj with
 |refl=>intro _;exact h0
 |@step j hk ih=>
  intro hl
  have h1:f.waits[j]?=some (f.waits[j]'oQ):=List.getElem?_eq_getElem _
  have h2:g.waits[j]?=some (f.waits[j]'oQ):=by rw [hw j hk];exact h1
  rw [f.at_succ j _ h1,g.at_succ j _ h2,ih oQ]
  exact on_xor _ _ _ _ (hp j _ hk oQ h1)
theorem rotWaits_spec (f:Fil) (i:Nat) (y:UInt8):∀ n,n≤f.waits.length →
  (rotWaits f i y n=none∧Past f i 0 n) ∨
  ∃ (k:Nat) (c:Chg),k<n∧f.waits[k]?=some c∧c.cut=false∧(f.at k).length≤i∧rotWaits f i y n=some (f.waits.set k { c with b:=xorAt c.b (i - (f.at k).length) y })∧Past f i (k+1) n
 |0,_=> .inl ⟨rfl,fun j c _ h=>by omega⟩
 |n+1,hn=>by
  have h1:f.waits[n]?=some (f.waits[n]'oQ):=List.getElem?_eq_getElem _
  generalize f.waits[n]'oQ=c at h1
  have step:(c.cut=true∨i<(f.at n).length)→rotWaits f i y (n+1)=rotWaits f i y n:=by
   intro h
   show (match f.waits[n]? with|none=>_|some c=>_)=_
   rw [h1]
   simp only
   rcases h with h|h
   ·rw [if_pos h]
   ·split
    ·rfl
    ·rw [if_neg oQ]
  have past:∀ k,(c.cut=true∨i<(f.at n).length)→Past f i k n→Past f i k (n+1):=by
   intro k h hp j d hk hj hd
   rcases Nat.lt_or_ge j n with hlt|hge
   ·exact hp j d hk hlt hd
   ·obtain rfl:j=n:=by omega
    rw [h1]at hd;cases hd;exact h
  by_cases h:c.cut=true∨i<(f.at n).length
  ·rcases rotWaits_spec f i y n oQ with ⟨h2,h3⟩|⟨k,d,h2,h3,h4,h5,h6,h7⟩
   ·exact .inl ⟨(step h).trans h2,past 0 h h3⟩
   ·exact .inr ⟨k,d,by omega,h3,h4,h5,(step h).trans h6,past _ h h7⟩
  ·have hc:c.cut=false:=by cases hcc:c.cut;rfl;exact absurd (.inl hcc) h
   have hl:(f.at n).length≤i:=Nat.le_of_not_lt fun h'=>h (.inr h')
   refine .inr ⟨n,c,by omega,h1,hc,hl,?_,fun j d hk hj=>by omega⟩
   show (match f.waits[n]? with|none=>_|some c=>_)=_
   rw [h1]
   simp only [hc,Bool.false_eq_true,if_false]
   rw [if_pos hl]
theorem rot_ok_of {f g:Fil}{K:Nat} (h:f.Ok K) (h0:g.fast.length=f.fast.length) (hw:g.waits.length=f.waits.length)
  (hc:∀ (k:Nat) (c d:Chg),f.waits[k]?=some c→g.waits[k]?=some d→Alike c d) (hn:g.now=g.at f.waits.length):g.Ok K:=by
 have hl:=at_len h0 hw hc
 refine ⟨by rw [hw];exact hn,?_,?_,by rw [hw];exact h.budget⟩
 ·intro k d hk hd
  have hlt:k<g.waits.length:=(List.getElem?_eq_some_iff.1 hk).1
  obtain ⟨c,hcc⟩:∃ c,f.waits[k]?=some c:=⟨f.waits[k]'oQ,List.getElem?_eq_getElem _⟩
  obtain ⟨a1,a2,a3⟩:=hc k c d hcc hk
  rw [hl k oQ,a2]
  exact h.cuts k c hcc (by rw [← a1];exact hd)
 ·intro k hk
  rw [hl k oQ]
  exact h.size k oQ
theorem Fil.Ok.rot {f:Fil}{K:Nat} (h:f.Ok K) (i:Nat) (y:UInt8):(f.rot i y).Ok K∧(f.rot i y).now=xorAt f.now i y:=by
 rcases rotWaits_spec f i y f.waits.length (Nat.le_refl _) with ⟨h1,h2⟩|⟨k,c,hk,hc,hcut,hlen,h1,h2⟩
 ·have e:f.rot i y={ f with now:=xorAt f.now i y,fast:=xorAt f.fast i y }:=by unfold Fil.rot;rw [h1]
  rw [e]
  refine ⟨rot_ok_of h (xorAt_len _ _ _) rfl (fun k c d h3 h4=>?_) ?_,rfl⟩
  ·rw [h3]at h4;cases h4;exact ⟨rfl,rfl,rfl⟩
  ·have:=at_xor (f:=f) (g:={ f with now:=xorAt f.now i y,fast:=xorAt f.fast i y }) (i:=i) (k:=0) (y:=y) rfl (fun j _=>rfl) h2 f.waits.length (Nat.zero_le _) (Nat.le_refl _)
   rw [this,← h.now]
 ·have e:f.rot i y={ f with now:=xorAt f.now i y,waits:=f.waits.set k { c with b:=xorAt c.b (i - (f.at k).length) y } }:=by unfold Fil.rot;rw [h1]
  rw [e]
  have hset:(f.waits.set k { c with b:=xorAt c.b (i - (f.at k).length) y })[k]?=some { c with b:=xorAt c.b (i - (f.at k).length) y }:=by rw [List.getElem?_set_self hk]
  refine ⟨rot_ok_of h rfl (by simp) (fun j c' d h3 h4=>?_) ?_,rfl⟩
  ·simp only at h4
   by_cases hj:k=j
   ·subst hj
    rw [hset]at h4
    rw [hc]at h3
    cases h3;cases h4
    exact ⟨rfl,rfl,xorAt_len _ _ _⟩
   ·rw [List.getElem?_set_ne hj,h3]at h4
    cases h4;exact ⟨rfl,rfl,rfl⟩
  ·generalize hg:({ f with now:=xorAt f.now i y,waits:=f.waits.set k { c with b:=xorAt c.b (i - (f.at k).length) y } }:Fil)=g
   have hgw:g.waits=f.waits.set k { c with b:=xorAt c.b (i - (f.at k).length) y }:=by rw [← hg]
   have hgf:g.fast=f.fast:=by rw [← hg]
   have hgn:g.now=xorAt f.now i y:=by rw [← hg]
   have hk0:g.at k=f.at k:=by unfold Fil.at;rw [hgw,hgf,List.take_set_of_le (Nat.le_refl _)]
   have hk1:g.at (k+1)=xorAt (f.at (k+1)) i y:=by
    rw [g.at_succ k _ (by rw [hgw];exact hset),hk0,f.at_succ k c hc]
    unfold Chg.on
    simp only [hcut,Bool.false_eq_true,if_false]
    rw [xorAt_right y c.b hlen]
   have:=at_xor hk1 (fun j hj=>by rw [hgw,List.getElem?_set_ne oQ]) h2 f.waits.length hk (Nat.le_refl _)
   rw [this,hgn,← h.now]
theorem Med.Ok.rot {M:Med}{K:Nat} (h:M.Ok K) (s:ByteArray) (i:Int) (y:UInt8):(M.rot s i y).1.Ok (K+1):=by
 unfold Med.rot
 split
 ·exact h.mono (Nat.le_succ _)
 ·split
  ·exact h.mono (Nat.le_succ _)
  ·exact h.setFile _ _ (((h.file _).rot _ _).1.mono (Nat.le_succ _))
structure Cal where
 kind:Int
 name:ByteArray
 to:ByteArray
 n:Int
 m:Int
 b:Bs
 l:List Int
def lowByte (m:Int):UInt8:=UInt8.ofNat (m%256).toNat
structure Quiet (M:Med):Prop where
 armed:M.armed=false
 off:M.off=false
 left:M.left=0
theorem Quiet.new (r:Nat):Quiet (new r):=⟨rfl,rfl,rfl⟩
def FFlat (f:Fil):Prop:=f.now=f.fast∧f.waits=[]
structure Flat (M:Med):Prop where
 quiet:Quiet M
 fast:M.fast=M.now
 waits:M.waits=[]
 files:∀ p∈M.now,FFlat (M.file p.2)
theorem file_set {M:Med}{i:Nat}{f:Fil} (hi:i<M.files.length) (j:Nat):(M.setFile i f).file j=if j=i then f else M.file j:=by
 unfold Med.setFile Med.file
 simp only [List.getD_eq_getElem?_getD]
 split
 ·rename_i h;subst h;rw [List.getElem?_set_self hi];rfl
 ·rename_i h;rw [List.getElem?_set_ne (Ne.symm h)]
def Ext (M M':Med):Prop:=M'.fast=M.fast∧(M'.waits=M.waits∨∃ y,M'.waits=M.waits++[y])
def Dst (M:Med):Prop:=(M.now.map (·.2)).Nodup
theorem used_split {M:Med} (hs:Srt M.now) (hd:Dst M){s:ByteArray}{i:Nat} (h:nget M.now s=some i) :
  (∀ p∈ndel M.now s,p.2≠i)∧∀ g:Nat→Nat,(M.now.map fun p=>g p.2).sum=g i+((ndel M.now s).map fun p=>g p.2).sum:=by
 have hp:=ndel_perm hs.keys (nget_mem h)
 constructor
 ·have hd':(M.now.map fun p:ByteArray×Nat=>p.2).Nodup:=hd
  have:=(hp.map (fun p:ByteArray×Nat=>p.2)).nodup_iff.1 hd'
  simp only [List.map_cons,List.nodup_cons]at this
  intro p hp e
  exact this.1 (List.mem_map.2 ⟨p,hp,e⟩)
 ·intro g
  have:=(hp.map fun p=>g p.2).sum_nat
  simpa using this
theorem nodup_put {l:Names}{s:ByteArray}{i:Nat} (h:(l.map (·.2)).Nodup) (hi:∀ p∈l,p.2≠i):((nput l s i).map (·.2)).Nodup:=by
 refine ((nput_perm l s i).map (·.2)).nodup_iff.2 ?_
 simp only [List.map_cons,List.nodup_cons]
 refine ⟨fun hm=>?_,h.sublist (List.filter_sublist.map _)⟩
 obtain ⟨p,hp,e⟩:=List.mem_map.1 hm
 exact hi p (List.mem_filter.1 hp).1 e
def Med.rmove (m:Med) (s t:ByteArray) (gone:Bool):Med×Int:=
 if m.off then (m,12)
 else match nget m.now s with
 |none=>(m,9)
 |some i=>
  if gone=false∧good t=false then (m,7)
  else if m.step.2=false then (m.step.1,12)
  else (m.step.1.link ⟨s,if gone then ByteArray.empty else t,i⟩,0)
def Med.rfile (D:Med) (l:List Int) (i:Nat) (p:ByteArray×Nat):Fil:=(D.file p.2).crash (num l (2 * i+1)) (num l (2 * i+2))
def Med.rcrash (D:Med) (l:List Int):Med:=
 let ns:=D.lastNames (clampN (num l 0) D.waits.length)
 { D with fast:=ns.mapIdx fun i p=>(p.1,i),now:=ns.mapIdx fun i p=>(p.1,i),waits:=[],files:=ns.mapIdx (D.rfile l),off:=false,armed:=false,left:=0 }
def Med.told (D:Med) (x:Cal):Med×(Bs×Int×Bool):=
 if x.kind=0 then ((D.create x.name).1,[],(D.create x.name).2,false)
 else if x.kind=1 then ((D.append x.name x.b).1,[],(D.append x.name x.b).2,false)
 else if x.kind=2 then ((D.truncate x.name x.n).1,[],(D.truncate x.name x.n).2,false)
 else if x.kind=3 then ((D.rmove x.name x.to false).1,[],(D.rmove x.name x.to false).2,false)
 else if x.kind=4 then ((D.rmove x.name ByteArray.empty true).1,[],(D.rmove x.name ByteArray.empty true).2,false)
 else if x.kind=5 then ((D.sync x.name).1,[],(D.sync x.name).2,false)
 else if x.kind=6 then (D.syncDir.1,[],D.syncDir.2,false)
 else if x.kind=7 then ((D.arm x.n).1,[],(D.arm x.n).2,false)
 else if x.kind=8 then (D.rcrash x.l,[],0,false)
 else if x.kind=9 then ((D.setRoom x.n).1,[],(D.setRoom x.n).2,false)
 else if x.kind=10 then ((D.rot x.name x.n (lowByte x.m)).1,[],0,(D.rot x.name x.n (lowByte x.m)).2)
 else (D,(D.read x.name x.n x.m).1,(D.read x.name x.n x.m).2,false)
def ren (φ:Nat→Nat) (l:Names):Names:=l.map fun p=>(p.1,φ p.2)
theorem ren_len (φ:Nat→Nat) (l:Names):(ren φ l).length=l.length:=by unfold ren;rw [List.length_map]
theorem ren_keys (φ:Nat→Nat) (l:Names):(ren φ l).map (·.1)=l.map (·.1):=by unfold ren;rw [List.map_map];rfl
theorem ren_get (φ:Nat→Nat) (l:Names) (s:ByteArray):nget (ren φ l) s=(nget l s).map φ:=by
 unfold nget ren
 rw [List.find?_map,Option.map_map,Option.map_map]
 rfl
theorem ren_del (φ:Nat→Nat) (l:Names) (s:ByteArray):ndel (ren φ l) s=ren φ (ndel l s):=by
 unfold ndel ren
 rw [List.filter_map]
 rfl
theorem ren_ins (φ:Nat→Nat) (s:ByteArray) (i:Nat):∀ l:Names,nins (ren φ l) s (φ i)=ren φ (nins l s i)
 |[]=>rfl
 |p::l=>by
  show nins ((p.1,φ p.2)::ren φ l) s (φ i)=ren φ (nins (p::l) s i)
  unfold nins
  dsimp only
  split
  ·rfl
  ·rw [ren_ins φ s i l];rfl
theorem ren_put (φ:Nat→Nat) (l:Names) (s:ByteArray) (i:Nat):nput (ren φ l) s (φ i)=ren φ (nput l s i):=by
 unfold nput
 rw [ren_del,ren_ins]
theorem ren_on {φ:Nat→Nat}{x y:Lnk} (h1:y.fr=x.fr) (h2:y.to=x.to) (h3:x.to≠ByteArray.empty→y.f=φ x.f) (l:Names):y.on (ren φ l)=ren φ (x.on l):=by
 unfold Lnk.on
 rw [h1,h2]
 have e:(if x.fr=ByteArray.empty then ren φ l else ndel (ren φ l) x.fr)=ren φ (if x.fr=ByteArray.empty then l else ndel l x.fr):=by
  split
  ·rfl
  ·exact ren_del _ _ _
 dsimp only
 rw [e]
 split
 ·rfl
 ·rename_i ht
  rw [h3 ht,ren_put]
theorem ren_congr {φ ψ:Nat→Nat}{l:Names} (h:∀ p∈l,φ p.2=ψ p.2):ren φ l=ren ψ l:=by
 unfold ren
 exact List.map_congr_left fun p hp=>by rw [h p hp]
structure Side (φ:Nat→Nat) (L:Nat→Prop) (M D:Med):Prop where
 room:D.room=M.room
 armed:D.armed=M.armed
 left:D.left=M.left
 off:D.off=M.off
 wl:D.waits.length=M.waits.length
 now:D.now=ren φ M.now
 names:∀ k,k≤M.waits.length→D.lastNames k=ren φ (M.lastNames k)
 live:∀ k,k≤M.waits.length→∀ p∈M.lastNames k,L p.2
 once:∀ k,k≤M.waits.length→((M.lastNames k).map (·.2)).Nodup
 inj:∀ i j,L i→L j→φ i=φ j→i=j
 file:∀ i,L i→D.file (φ i)=M.file i
 lt:∀ i,L i→φ i<D.files.length
 ml:∀ i,L i→i<M.files.length
theorem Side.new (r:Nat):Side id (fun _=>False) (new r) (new r):=
 ⟨rfl,rfl,rfl,rfl,rfl,rfl,(fun k hk=>by simp [Med.new]at hk;subst hk;rfl),(fun k hk p hp=>by simp [Med.new]at hk;subst hk;simp [Med.new,Med.lastNames]at hp),(fun k hk=>by simp [Med.new]at hk;subst hk;exact List.nodup_nil),fun _ _ h=>h.elim,fun _ h=>h.elim,fun _ h=>h.elim,fun _ h=>h.elim⟩
theorem step_bits {M D:Med} (h1:D.armed=M.armed) (h2:D.left=M.left) (h3:D.off=M.off):D.step.1.armed=M.step.1.armed∧D.step.1.left=M.step.1.left∧D.step.1.off=M.step.1.off:=by
 obtain ⟨room,fast,now,files,waits,armed,left,off⟩:=M
 obtain ⟨room',fast',now',files',waits',armed',left',off'⟩:=D
 simp only at h1 h2 h3
 subst h1;subst h2;subst h3
 unfold Med.step
 dsimp only
 cases armed'
 ·exact ⟨rfl,rfl,rfl⟩
 ·simp only [if_true]
  by_cases hz:left'=0
  ·simp only [hz,if_true];exact ⟨trivial,trivial,trivial⟩
  ·simp only [hz,if_false];exact ⟨trivial,trivial,trivial⟩
section
variable {φ:Nat→Nat}{L:Nat→Prop}{M D:Med}{K:Nat}
theorem Side.step2 (h:Side φ L M D):D.step.2=M.step.2:=by
 unfold Med.step
 rw [h.armed,h.left]
 split
 ·split <;> rfl
 ·rfl
theorem Side.step (h:Side φ L M D):Side φ L M.step.1 D.step.1:=by
 have hM:=M.step_same;have hD:=D.step_same
 obtain ⟨a1,a2,a3,a4,a5⟩:=hM
 obtain ⟨b1,b2,b3,b4,b5⟩:=hD
 have f1:∀ k,M.step.1.lastNames k=M.lastNames k:=fun k=>by unfold Med.lastNames;rw [a5,a2]
 have f2:∀ k,D.step.1.lastNames k=D.lastNames k:=fun k=>by unfold Med.lastNames;rw [b5,b2]
 have g1:∀ k,M.step.1.file k=M.file k:=fun k=>by unfold Med.file;rw [a4]
 have g2:∀ k,D.step.1.file k=D.file k:=fun k=>by unfold Med.file;rw [b4]
 have hal:=step_bits h.armed h.left h.off
 exact ⟨by rw [a1,b1];exact h.room,hal.1,hal.2.1,hal.2.2,by rw [a5,b5];exact h.wl,by rw [a3,b3];exact h.now,fun k hk=>by rw [f1,f2];rw [a5]at hk;exact h.names k hk,fun k hk=>by rw [f1];rw [a5]at hk;exact h.live k hk,fun k hk=>by rw [f1];rw [a5]at hk;exact h.once k hk,h.inj,fun i hi=>by rw [g1,g2];exact h.file i hi,fun i hi=>by rw [b4];exact h.lt i hi,fun i hi=>by rw [a4];exact h.ml i hi⟩
theorem Side.setFile (h:Side φ L M D){i:Nat} (hi:L i) (f:Fil):Side φ L (M.setFile i f) (D.setFile (φ i) f):=by
 have hD:(D.setFile (φ i) f).files.length=D.files.length:=by simp [Med.setFile]
 have hM:(M.setFile i f).files.length=M.files.length:=by simp [Med.setFile]
 refine ⟨h.room,h.armed,h.left,h.off,h.wl,h.now,h.names,h.live,h.once,h.inj,fun j hj=>?_,fun j hj=>by rw [hD];exact h.lt j hj,fun j hj=>by rw [hM];exact h.ml j hj⟩
 rw [file_set (h.lt i hi),file_set (h.ml i hi)]
 by_cases e:j=i
 ·subst e;rw [if_pos rfl,if_pos rfl]
 ·rw [if_neg e,if_neg fun e2=>e (h.inj j i hj hi e2)]
  exact h.file j hj
theorem Side.link (h:Side φ L M D) (ok:M.now=M.lastNames M.waits.length){x y:Lnk} (h1:y.fr=x.fr) (h2:y.to=x.to) (h3:x.to≠ByteArray.empty→y.f=φ x.f) (hl:∀ p∈x.on M.now,L p.2) (hn:((x.on M.now).map (·.2)).Nodup) :
  Side φ L (M.link x) (D.link y):=by
 have hM:(M.link x).waits.length=M.waits.length+1:=by simp [Med.link]
 have hD:(D.link y).waits.length=D.waits.length+1:=by simp [Med.link]
 have okD:D.now=D.lastNames D.waits.length:=by rw [h.now,h.wl,h.names _ (Nat.le_refl _),ok]
 have hon:y.on D.now=ren φ (x.on M.now):=by rw [h.now];exact ren_on h1 h2 h3 _
 have key:∀ k,k≤(M.link x).waits.length→(k≤M.waits.length∧(M.link x).lastNames k=M.lastNames k∧(D.link y).lastNames k=D.lastNames k)∨((M.link x).lastNames k=x.on M.now∧(D.link y).lastNames k=y.on D.now):=by
  intro k hk
  rw [hM]at hk
  rcases Nat.lt_or_ge k (M.waits.length+1) with hlt|hge
  ·exact .inl ⟨by omega,M.lastNames_link x k oQ,D.lastNames_link y k (by rw [h.wl];omega)⟩
  ·obtain rfl:k=M.waits.length+1:=by omega
   refine .inr ⟨M.lastNames_last x ok,?_⟩
   rw [← h.wl];exact D.lastNames_last y okD
 refine ⟨h.room,h.armed,h.left,h.off,by rw [hM,hD,h.wl],hon,fun k hk=>?_,fun k hk=>?_,fun k hk=>?_,h.inj,h.file,h.lt,h.ml⟩
 ·rcases key k hk with ⟨a,b,c⟩|⟨a,b⟩
  ·rw [b,c];exact h.names k a
  ·rw [a,b];exact hon
 ·rcases key k hk with ⟨a,b,c⟩|⟨a,b⟩
  ·rw [b];exact h.live k a
  ·rw [a];exact hl
 ·rcases key k hk with ⟨a,b,c⟩|⟨a,b⟩
  ·rw [b];exact h.once k a
  ·rw [a];exact hn
theorem Side.newFile (h:Side φ L M D) (ok:M.now=M.lastNames M.waits.length):Side (fun i=>if i=M.files.length then D.files.length else φ i) (fun i=>L i∨i=M.files.length) { M with files:=M.files++[Fil.new] } { D with files:=D.files++[Fil.new] }:=by
 have hne:∀ i,L i→i≠M.files.length:=fun i hi=>Nat.ne_of_lt (h.ml i hi)
 have hr:∀ l:Names,(∀ p∈l,L p.2)→ren (fun i=>if i=M.files.length then D.files.length else φ i) l=ren φ l:=fun l hl=>ren_congr fun p hp=>if_neg (hne _ (hl p hp))
 have hlM:∀ k,({ M with files:=M.files++[Fil.new] }:Med).lastNames k=M.lastNames k:=fun _=>rfl
 have hlD:∀ k,({ D with files:=D.files++[Fil.new] }:Med).lastNames k=D.lastNames k:=fun _=>rfl
 have fM:∀ i,i≠M.files.length→({ M with files:=M.files++[Fil.new] }:Med).file i=M.file i:=by
  intro i hi
  unfold Med.file
  dsimp only
  rw [List.getD_eq_getElem?_getD,List.getD_eq_getElem?_getD]
  rcases Nat.lt_or_ge i M.files.length with a|a
  ·rw [List.getElem?_append_left a]
  ·rw [List.getElem?_eq_none (by simp;omega),List.getElem?_eq_none a]
 have fD:∀ i,i<D.files.length→({ D with files:=D.files++[Fil.new] }:Med).file i=D.file i:=by
  intro i hi
  unfold Med.file
  dsimp only
  rw [List.getD_eq_getElem?_getD,List.getD_eq_getElem?_getD,List.getElem?_append_left hi]
 refine ⟨h.room,h.armed,h.left,h.off,h.wl,?_,fun k hk=>?_,fun k hk p hp=> .inl (h.live k hk p hp),h.once,?_,?_,?_,?_⟩
 ·show D.now=ren _ M.now
  rw [hr _ (by rw [ok];exact h.live _ (Nat.le_refl _))];exact h.now
 ·rw [hlD,hlM,hr _ (h.live k hk)];exact h.names k hk
 ·intro i j hi hj e
  rcases hi with hi|rfl
  ·rw [if_neg (hne i hi)]at e
   rcases hj with hj|rfl
   ·rw [if_neg (hne j hj)]at e;exact h.inj i j hi hj e
   ·rw [if_pos rfl]at e;have:=h.lt i hi;omega
  ·rw [if_pos rfl]at e
   rcases hj with hj|rfl
   ·rw [if_neg (hne j hj)]at e;have:=h.lt j hj;omega
   ·rfl
 ·intro i hi
  rcases hi with hi|rfl
  ·rw [if_neg (hne i hi),fM i (hne i hi),fD _ (h.lt i hi)];exact h.file i hi
  ·rw [if_pos rfl]
   unfold Med.file
   simp
 ·intro i hi
  dsimp only
  rcases hi with hi|rfl
  ·rw [if_neg (hne i hi)];have:=h.lt i hi;simp;omega
  ·rw [if_pos rfl];simp
 ·intro i hi
  rcases hi with hi|rfl
  ·have:=h.ml i hi;simp;omega
  ·simp
end
theorem idx_at:∀ {l:List Nat}{k x:Nat},l.Nodup→l[k]?=some x→l.idxOf x=k
 |[],k,x,_,h=>by simp at h
 |a::l,0,x,_,h=>by
  obtain rfl:a=x:=by simpa using h
  exact List.idxOf_cons_self
 |a::l,k+1,x,hn,h=>by
  have h':l[k]?=some x:=by simpa using h
  obtain ⟨h1,h2⟩:=List.nodup_cons.1 hn
  have hne:a≠x:=fun e=>h1 (by rw [e];exact List.mem_of_getElem? h')
  rw [List.idxOf_cons,show (a==x)=false by simpa using hne,idx_at h2 h'];rfl
theorem crash_get (l:List Int):∀ (ns:Names) (j:Nat) (fs:List Fil),(ns.map (·.2)).Nodup→(∀ p∈ns,p.2<fs.length) →
  (∀ (k:Nat) p,ns[k]?=some p→(crashFiles l ns j fs).getD p.2 Fil.new=(fs.getD p.2 Fil.new).crash (num l (j+2 * k)) (num l (j+2 * k+1)))∧∀ i,i∉ns.map (·.2)→(crashFiles l ns j fs).getD i Fil.new=fs.getD i Fil.new
 |[],_,_,_,_=>⟨fun k p h=>by simp at h,fun _ _=>rfl⟩
 |q::ns,j,fs,hn,hl=>by
  obtain ⟨h1,h2⟩:=List.nodup_cons.1 hn
  have hq:=hl q (.head _)
  obtain ⟨a,b⟩:=crash_get l ns (j+2) (fs.set q.2 ((fs.getD q.2 Fil.new).crash (num l j) (num l (j+1)))) h2 (fun p hp=>by rw [List.length_set];exact hl p (.tail _ hp))
  have hset:∀ i,i≠q.2→(fs.set q.2 ((fs.getD q.2 Fil.new).crash (num l j) (num l (j+1)))).getD i Fil.new=fs.getD i Fil.new:=by
   intro i hi
   simp only [List.getD_eq_getElem?_getD]
   rw [List.getElem?_set_ne (Ne.symm hi)]
  refine ⟨fun k p hk=>?_,fun i hi=>?_⟩
  ·cases k with
   |zero=>
    obtain rfl:q=p:=by simpa using hk
    show (crashFiles l ns (j+2) _).getD q.2 Fil.new=_
    rw [b _ h1]
    show List.getD _ _ _=(fs.getD q.2 Fil.new).crash (num l (j+0)) (num l (j+0+1))
    rw [List.getD_eq_getElem?_getD,List.getElem?_set_self hq]
    rfl
   |succ k=>
    have hk':ns[k]?=some p:=by simpa using hk
    show (crashFiles l ns (j+2) _).getD p.2 Fil.new=_
    rw [a k p hk',hset p.2 fun e=>h1 (List.mem_map.2 ⟨p,List.mem_of_getElem? hk',e⟩)]
    rw [show j+2+2 * k=j+2 * (k+1) by omega]
  ·simp only [List.map_cons,List.mem_cons,not_or]at hi
   show (crashFiles l ns (j+2) _).getD i Fil.new=_
   rw [b i hi.2,hset i hi.1]
theorem ren_idx (φ:Nat→Nat){ns:Names} (hn:(ns.map (·.2)).Nodup):((ren φ ns).mapIdx fun i p=>(p.1,i))=ren (fun i=>(ns.map (·.2)).idxOf i) ns:=by
 apply List.ext_getElem?
 intro k
 rw [List.getElem?_mapIdx]
 unfold ren
 rw [List.getElem?_map,List.getElem?_map]
 cases hk:ns[k]? with
 |none=>rfl
 |some p=>
  simp only [Option.map_some]
  rw [idx_at hn (by rw [List.getElem?_map,hk];rfl)]
section
variable {φ:Nat→Nat}{L:Nat→Prop}{M D:Med}{K:Nat}
theorem Side.crash (h:Side φ L M D) (l:List Int):∃ φ' L',Side φ' L' (M.crash l) (D.rcrash l):=by
 have hk:=clampN_le (num l 0) M.waits.length
 unfold Med.crash Med.rcrash
 rw [h.wl]
 generalize clampN (num l 0) M.waits.length=k at *
 rw [h.names k hk]
 have hn:=h.once k hk
 have hl:=h.live k hk
 generalize M.lastNames k=ns at *
 dsimp only
 obtain ⟨c1,_⟩:=crash_get l ns 1 M.files hn fun p hp=>h.ml _ (hl p hp)
 refine ⟨fun i=>(ns.map (·.2)).idxOf i,fun i=>i∈ns.map (·.2),h.room,rfl,rfl,rfl,rfl,ren_idx φ hn,fun j hj=>?_,fun j hj p hp=>?_,fun j hj=>?_,fun i j hi hj e=>?_,fun i hi=>?_,fun i hi=>?_,fun i hi=>?_⟩
 ·have hj0:j=0:=by simpa using hj
  subst hj0
  exact ren_idx φ hn
 ·have hj0:j=0:=by simpa using hj
  subst hj0
  exact List.mem_map.2 ⟨p,hp,rfl⟩
 ·have hj0:j=0:=by simpa using hj
  subst hj0
  exact hn
 ·obtain ⟨a,ha⟩:=List.getElem?_of_mem hi
  obtain ⟨b,hb⟩:=List.getElem?_of_mem hj
  rw [idx_at hn ha,idx_at hn hb]at e
  subst e
  rw [ha]at hb
  exact Option.some.inj hb
 ·obtain ⟨a,ha⟩:=List.getElem?_of_mem hi
  rw [idx_at hn ha]
  rw [List.getElem?_map]at ha
  obtain ⟨p,hp,rfl⟩:=Option.map_eq_some_iff.1 ha
  unfold Med.file
  dsimp only
  rw [c1 a p hp,List.getD_eq_getElem?_getD,List.getElem?_mapIdx]
  unfold ren
  rw [List.getElem?_map,hp]
  have:=h.file _ (hl p (List.mem_of_getElem? hp))
  show (D.file (φ p.2)).crash (num l (2 * a+1)) (num l (2 * a+2))=(M.file p.2).crash _ _
  rw [this,show 1+2 * a=2 * a+1 by omega]
 ·obtain ⟨a,ha⟩:=List.getElem?_of_mem hi
  dsimp only
  rw [idx_at hn ha,List.length_mapIdx,ren_len]
  rw [List.getElem?_map]at ha
  obtain ⟨p,hp,_⟩:=Option.map_eq_some_iff.1 ha
  exact (List.getElem?_eq_some_iff.1 hp).1
 ·obtain ⟨p,hp,rfl⟩:=List.mem_map.1 hi
  dsimp only
  rw [crashFiles_len]
  exact h.ml _ (hl p hp)
theorem Side.get (h:Side φ L M D) (s:ByteArray):nget D.now s=(nget M.now s).map φ:=by rw [h.now,ren_get]
theorem Side.nowLive (h:Side φ L M D) (ok:M.Ok K):∀ p∈M.now,L p.2:=by rw [ok.now];exact h.live _ (Nat.le_refl _)
theorem Side.getLive (h:Side φ L M D) (ok:M.Ok K){s:ByteArray}{i:Nat} (hi:nget M.now s=some i):L i:=h.nowLive ok _ (nget_mem hi)
theorem Side.nowOnce (h:Side φ L M D) (ok:M.Ok K):(M.now.map (·.2)).Nodup:=by rw [ok.now];exact h.once _ (Nat.le_refl _)
theorem Side.used (h:Side φ L M D) (ok:M.Ok K):D.used=M.used:=by
 unfold Med.used
 rw [h.now]
 unfold ren
 rw [List.map_map]
 congr 1
 refine List.map_congr_left fun p hp=>?_
 show (D.file (φ p.2)).now.length=_
 rw [h.file _ (h.nowLive ok p hp)]
def Both (r q:Med×Int):Prop:=r.2=q.2∧∃ φ L,Side φ L r.1 q.1
theorem Both.same (h:Side φ L M D) (e:Int):Both (M,e) (D,e):=⟨rfl,φ,L,h⟩
theorem Side.create (h:Side φ L M D) (ok:M.Ok K) (s:ByteArray):Both (M.create s) (D.create s):=by
 unfold Med.create
 rw [h.off,h.get,Option.isSome_map,h.step2,h.now,ren_len]
 split;· exact .same h _
 split;· exact .same h _
 rename_i hg
 split;· exact .same h _
 rename_i hn
 split;· exact .same h _
 split;· exact .same h.step _
 have hg':good s=true:=by simpa using hg
 have hn':nget M.now s=none:=by simpa using hn
 have hst:=h.step
 have okst:=ok.step
 obtain ⟨e1,e2,e3,e4,e5⟩:=M.step_same
 obtain ⟨_,_,_,d4,_⟩:=D.step_same
 have h1:=hst.newFile okst.now
 rw [e4,d4]at h1
 refine ⟨rfl,_,_,h1.link (x:=⟨ByteArray.empty,s,M.files.length⟩) (y:=⟨ByteArray.empty,s,D.files.length⟩) okst.now rfl rfl (fun _=>(if_pos rfl).symm) ?_ ?_⟩
 ·intro p hp
  have hp':p∈nput M.step.1.now s M.files.length:=by
   have:(Lnk.mk ByteArray.empty s M.files.length).on M.step.1.now=nput M.step.1.now s M.files.length:=by
    unfold Lnk.on
    simp only [if_true,if_neg (good_ne hg')]
   rw [← this];exact hp
  rcases List.mem_cons.1 ((nput_perm _ _ _).mem_iff.1 hp') with rfl|hp
  ·exact .inr rfl
  ·exact .inl (hst.nowLive okst p (List.mem_filter.1 hp).1)
 ·show (((Lnk.mk ByteArray.empty s M.files.length).on M.step.1.now).map (·.2)).Nodup
  unfold Lnk.on
  simp only [if_true,if_neg (good_ne hg')]
  refine nodup_put (hst.nowOnce okst) fun p hp e=>?_
  have:=hst.ml _ (hst.nowLive okst p hp)
  rw [e4,e]at this
  exact Nat.lt_irrefl _ this
theorem Side.append (h:Side φ L M D) (ok:M.Ok K) (s:ByteArray) (b:Bs):Both (M.append s b) (D.append s b):=by
 unfold Med.append
 rw [h.off,h.get,h.step2,h.room,h.used ok]
 split;· exact .same h _
 cases hi:nget M.now s with
 |none=>exact .same h _
 |some i=>
  simp only [Option.map_some]
  split;· exact .same h _
  split;· exact .same h.step _
  have hL:=h.getLive ok hi
  rw [h.file i hL]
  exact .same (h.step.setFile hL _) _
theorem Side.sync (h:Side φ L M D) (ok:M.Ok K) (s:ByteArray):Both (M.sync s) (D.sync s):=by
 unfold Med.sync
 rw [h.off,h.get,h.step2]
 split;· exact .same h _
 cases hi:nget M.now s with
 |none=>exact .same h _
 |some i=>
  have hL:=h.getLive ok hi
  simp only [Option.map_some]
  rw [h.file i hL]
  split;· exact .same h.step _
  exact .same (h.step.setFile hL _) _
theorem Side.syncDir (h:Side φ L M D) (ok:M.Ok K):Both M.syncDir D.syncDir:=by
 unfold Med.syncDir
 rw [h.off,h.step2]
 split;· exact .same h _
 split;· exact .same h.step _
 have hs:=h.step
 refine ⟨rfl,φ,L,hs.room,hs.armed,hs.left,hs.off,rfl,hs.now,fun k hk=>?_,fun k hk=>?_,fun k hk=>?_,hs.inj,hs.file,hs.lt,hs.ml⟩
 ·obtain rfl:k=0:=by simpa using hk
  exact h.now
 ·obtain rfl:k=0:=by simpa using hk
  exact h.nowLive ok
 ·obtain rfl:k=0:=by simpa using hk
  exact h.nowOnce ok
theorem Side.arm (h:Side φ L M D) (n:Int):Both (M.arm n) (D.arm n):=by
 unfold Med.arm
 rw [h.off]
 split;· exact .same h _
 split;· exact .same h _
 exact ⟨rfl,φ,L,h.room,rfl,rfl,rfl,h.wl,h.now,h.names,h.live,h.once,h.inj,h.file,h.lt,h.ml⟩
theorem Side.all (h:Side φ L M D) (ok:M.Ok K) (s:ByteArray):D.all s=M.all s:=by
 unfold Med.all
 rw [h.off,h.get]
 split;· rfl
 cases hi:nget M.now s with
 |none=>rfl
 |some i=>
  simp only [Option.map_some]
  rw [h.file i (h.getLive ok hi)]
theorem Side.list (h:Side φ L M D):D.list=M.list:=by
 unfold Med.list
 rw [h.off,h.now,ren_keys]
theorem Side.remove (h:Side φ L M D) (ok:M.Ok K) (s t:ByteArray):Both (M.remove s) (D.rmove s t true):=by
 unfold Med.remove Med.rmove
 rw [h.off,h.get,h.step2]
 split;· exact .same h _
 cases hi:nget M.now s with
 |none=>exact .same h _
 |some i=>
  simp only [Option.map_some,Bool.true_eq_false,false_and,if_false,if_true]
  split;· exact .same h.step _
  have hst:=h.step
  have okst:=ok.step
  have hs:s≠ByteArray.empty:=ok.nowOk.ne _ (nget_mem hi)
  have hon:(Lnk.mk s ByteArray.empty 0).on M.step.1.now=ndel M.step.1.now s:=by
   unfold Lnk.on
   simp only [if_neg hs,if_true]
  refine ⟨rfl,φ,L,hst.link okst.now rfl rfl (fun hh=>absurd rfl hh) ?_ ?_⟩
  ·rw [hon]
   exact fun p hp=>hst.nowLive okst p (List.mem_filter.1 hp).1
  ·rw [hon]
   exact (hst.nowOnce okst).sublist (List.filter_sublist.map _)
end
theorem Med.Ok.rmove {K:Nat}{m:Med} (h:m.Ok K) (s t:ByteArray) (gone:Bool):(m.rmove s t gone).1.Ok (K+1):=by
 cases gone with
 |false=>
  have e:m.rmove s t false=m.rename s t:=by
   unfold Med.rmove Med.rename
   cases m.off
   ·cases nget m.now s
    ·rfl
    ·simp
   ·rfl
  rw [e];exact h.rename s t
 |true=>
  unfold Med.rmove
  have h':=h.mono (Nat.le_succ K)
  split;· exact h'
  split;· exact h'
  rename_i i hi
  simp only [Bool.true_eq_false,false_and,if_false,if_true]
  split;· exact h'.step
  obtain ⟨e1,e2,e3,e4,e5⟩:=m.step_same
  refine h.step.link _ (fun hh=>absurd rfl hh) ?_
  rw [e3,e4]
  unfold Lnk.on
  have hs:s≠ByteArray.empty:=h.nowOk.ne _ (nget_mem hi)
  simp only [if_neg hs,if_true]
  exact h.nowOk.del s
theorem Med.Ok.rcrash {K:Nat}{m:Med} (h:m.Ok K) (l:List Int):(m.rcrash l).Ok K:=by
 unfold Med.rcrash
 have hk:=clampN_le (num l 0) m.waits.length
 generalize clampN (num l 0) m.waits.length=k at *
 have hn:=h.names k hk
 generalize m.lastNames k=ns at *
 have hlast:NOk ns.length (ns.mapIdx fun i p=>(p.1,i)):=by
  have hkeys:(ns.mapIdx fun i p=>(p.1,i)).map (·.1)=ns.map (·.1):=by
   apply List.ext_getElem?
   intro j
   rw [List.getElem?_map,List.getElem?_mapIdx,List.getElem?_map]
   cases ns[j]? <;> rfl
  have hmem:∀ p∈(ns.mapIdx fun i p=>(p.1,i)),p.2<ns.length∧∃ q∈ns,q.1=p.1:=by
   intro p hp
   obtain ⟨i,hi,rfl⟩:=List.mem_mapIdx.1 hp
   exact ⟨hi,_,List.getElem_mem hi,rfl⟩
  refine ⟨?_,by rw [List.length_mapIdx];exact hn.len,fun p hp=>(hmem p hp).1,fun p hp=>?_⟩
  ·have h1:(ns.map (·.1)).Pairwise fun a b=>lt a b=true:=by rw [List.pairwise_map];exact hn.srt
   rw [← hkeys,List.pairwise_map]at h1
   exact h1
  ·obtain ⟨_,q,hq,e⟩:=hmem p hp
   rw [← e];exact hn.ne q hq
 dsimp only
 refine ⟨h.room,Nat.zero_le _,(fun x hx=>by cases hx),fun j hj=>?_,rfl,fun f hf=>?_,Nat.zero_le _⟩
 ·have hj0:j=0:=by simpa using hj
  subst hj0
  show NOk (ns.mapIdx _).length (ns.mapIdx fun i p=>(p.1,i))
  rw [List.length_mapIdx];exact hlast
 ·obtain ⟨i,hi,rfl⟩:=List.mem_mapIdx.1 hf
  exact (h.file _).crash _ _
theorem Med.told_ind {P:Med×Bs×Int×Bool→Prop}{M:Med}{x:Cal}
  (h0:x.kind=0→P ((M.create x.name).1,[],(M.create x.name).2,false))
  (h1:x.kind=1→P ((M.append x.name x.b).1,[],(M.append x.name x.b).2,false))
  (h2:x.kind=2→P ((M.truncate x.name x.n).1,[],(M.truncate x.name x.n).2,false))
  (h3:x.kind=3→P ((M.rmove x.name x.to false).1,[],(M.rmove x.name x.to false).2,false))
  (h4:x.kind=4→P ((M.rmove x.name ByteArray.empty true).1,[],(M.rmove x.name ByteArray.empty true).2,false))
  (h5:x.kind=5→P ((M.sync x.name).1,[],(M.sync x.name).2,false))
  (h6:x.kind=6→P (M.syncDir.1,[],M.syncDir.2,false))
  (h7:x.kind=7→P ((M.arm x.n).1,[],(M.arm x.n).2,false))
  (h8:x.kind=8→P (M.rcrash x.l,[],0,false))
  (h9:x.kind=9→P ((M.setRoom x.n).1,[],(M.setRoom x.n).2,false))
  (h10:x.kind=10→P ((M.rot x.name x.n (lowByte x.m)).1,[],0,(M.rot x.name x.n (lowByte x.m)).2))
  (hz:x.kind≠0∧x.kind≠1∧x.kind≠2∧x.kind≠3∧x.kind≠4∧x.kind≠5∧x.kind≠6∧x.kind≠7∧x.kind≠8∧x.kind≠9∧x.kind≠10→P (M,(M.read x.name x.n x.m).1,(M.read x.name x.n x.m).2,false)):P (M.told x):=by
 unfold Med.told
 by_cases c0:x.kind=0;· rw [if_pos c0];exact h0 c0
 rw [if_neg c0]
 by_cases c1:x.kind=1;· rw [if_pos c1];exact h1 c1
 rw [if_neg c1]
 by_cases c2:x.kind=2;· rw [if_pos c2];exact h2 c2
 rw [if_neg c2]
 by_cases c3:x.kind=3;· rw [if_pos c3];exact h3 c3
 rw [if_neg c3]
 by_cases c4:x.kind=4;· rw [if_pos c4];exact h4 c4
 rw [if_neg c4]
 by_cases c5:x.kind=5;· rw [if_pos c5];exact h5 c5
 rw [if_neg c5]
 by_cases c6:x.kind=6;· rw [if_pos c6];exact h6 c6
 rw [if_neg c6]
 by_cases c7:x.kind=7;· rw [if_pos c7];exact h7 c7
 rw [if_neg c7]
 by_cases c8:x.kind=8;· rw [if_pos c8];exact h8 c8
 rw [if_neg c8]
 by_cases c9:x.kind=9;· rw [if_pos c9];exact h9 c9
 rw [if_neg c9]
 by_cases c10:x.kind=10;· rw [if_pos c10];exact h10 c10
 rw [if_neg c10]
 exact hz ⟨c0,c1,c2,c3,c4,c5,c6,c7,c8,c9,c10⟩
theorem Med.Ok.told {K:Nat}{M:Med} (h:M.Ok K) (x:Cal) (hn:x.n≤9223372036854775807):(M.told x).1.Ok (K+1):=by
 have h':=h.mono (Nat.le_succ K)
 refine Med.told_ind (P:=fun r=>r.1.Ok (K+1)) ?_ ?_ ?_ ?_ ?_ ?_ ?_ ?_ ?_ ?_ ?_ ?_
 ·exact fun _=>h.create _
 ·exact fun _=>h.append _ _
 ·exact fun _=>h.truncate _ _
 ·exact fun _=>h.rmove _ _ _
 ·exact fun _=>h.rmove _ _ _
 ·exact fun _=>h.sync _
 ·exact fun _=>h.syncDir.mono (Nat.le_succ K)
 ·exact fun _=>(h.arm _ hn).mono (Nat.le_succ K)
 ·exact fun _=>(h.rcrash _).mono (Nat.le_succ K)
 ·exact fun _=>(h.setRoom _).mono (Nat.le_succ K)
 ·exact fun _=>h.rot _ _ _
 ·exact fun _=>h'
def Fil.Small (f:Fil):Prop:=∀ c∈f.waits,c.b.length≤16777216
def Med.Small (m:Med):Prop:=∀ f∈m.files,f.Small
theorem Med.Small.file {m:Med} (h:m.Small) (i:Nat):(m.file i).Small:=by
 unfold Med.file
 rcases Nat.lt_or_ge i m.files.length with hi|hi
 ·rw [List.getD_eq_getElem?_getD,List.getElem?_eq_getElem hi];exact h _ (List.getElem_mem hi)
 ·rw [List.getD_eq_getElem?_getD,List.getElem?_eq_none hi];intro c hc;cases hc
theorem Med.Small.step {m:Med} (h:m.Small):m.step.1.Small:=by
 intro f hf
 rw [m.step_same.2.2.2.1]at hf
 exact h f hf
theorem Med.Small.setFile {m:Med} (h:m.Small) (i:Nat){f:Fil} (hf:f.Small):(m.setFile i f).Small:=by
 intro g hg
 rcases List.mem_or_eq_of_mem_set hg with hg|rfl
 ·exact h g hg
 ·exact hf
theorem Fil.Small.do {f:Fil} (h:f.Small){c:Chg} (hc:c.b.length≤16777216):(f.do c).Small:=by
 intro d hd
 rcases List.mem_append.1 hd with hd|hd
 ·exact h d hd
 ·rw [List.mem_singleton.1 hd];exact hc
theorem Fil.Small.rot {f:Fil} (h:f.Small) (i:Nat) (y:UInt8):(f.rot i y).Small:=by
 unfold Fil.rot
 rcases rotWaits_spec f i y f.waits.length (Nat.le_refl _) with ⟨h1,h2⟩|⟨j,c,hj,hc,hcut,hl,h1,h2⟩
 ·rw [h1];exact h
 ·rw [h1]
  intro d hd
  rcases List.mem_or_eq_of_mem_set hd with hd|rfl
  ·exact h d hd
  ·rw [xorAt_len];exact h c (List.mem_of_getElem? hc)
theorem Med.Small.told {K:Nat}{M:Med} (h:M.Small) (ok:M.Ok K) (x:Cal):(M.told x).1.Small:=by
 have hst:=h.step
 have hmv:∀ s t g,(M.rmove s t g).1.Small:=by
  intro s t g
  unfold Med.rmove
  split;· exact h
  split;· exact h
  split;· exact h
  split;· exact hst
  exact hst
 refine Med.told_ind (P:=fun r=>r.1.Small) ?_ ?_ ?_ ?_ ?_ ?_ ?_ ?_ ?_ ?_ ?_ ?_
 ·intro _
  show (M.create x.name).1.Small
  unfold Med.create
  split;· exact h
  split;· exact h
  split;· exact h
  split;· exact h
  split;· exact hst
  intro f hf
  rcases List.mem_append.1 (show f∈M.files++[Fil.new] from hf) with hf|hf
  ·exact h f hf
  ·rw [List.mem_singleton.1 hf];intro c hc;cases hc
 ·intro _
  show (M.append x.name x.b).1.Small
  unfold Med.append
  split;· exact h
  split;· exact h
  split;· exact h
  rename_i hf
  split;· exact hst
  refine hst.setFile _ ((h.file _).do ?_)
  have:=ok.room
  simp only
  omega
 ·intro _
  show (M.truncate x.name x.n).1.Small
  unfold Med.truncate
  split;· exact h
  split;· exact h
  split;· exact h
  split;· exact hst
  exact hst.setFile _ ((h.file _).do (by simp))
 ·exact fun _=>hmv _ _ _
 ·exact fun _=>hmv _ _ _
 ·intro _
  show (M.sync x.name).1.Small
  unfold Med.sync
  split;· exact h
  split;· exact h
  split;· exact hst
  exact hst.setFile _ (fun c hc=>by cases hc)
 ·intro _
  show M.syncDir.1.Small
  unfold Med.syncDir
  split;· exact h
  split;· exact hst
  exact hst
 ·intro _
  show (M.arm x.n).1.Small
  unfold Med.arm
  split;· exact h
  split;· exact h
  exact h
 ·intro _
  show (M.rcrash x.l).Small
  intro f hf
  obtain ⟨i,hi,rfl⟩:=List.mem_mapIdx.1 (show f∈_ from hf)
  intro c hc;cases hc
 ·intro _
  show (M.setRoom x.n).1.Small
  unfold Med.setRoom
  split;· exact h
  split;· exact h
  exact h
 ·intro _
  show (M.rot x.name x.n (lowByte x.m)).1.Small
  unfold Med.rot
  split;· exact h
  split;· exact h
  exact h.setFile _ ((h.file _).rot _ _)
 ·exact fun _=>h
theorem step_fl (m:Med):m.step.1.files.length=m.files.length:=by rw [m.step_same.2.2.2.1]
theorem told_files {K J:Nat}{M:Med} (h:M.Ok K) (hf:M.files.length≤500+J) (x:Cal):(M.told x).1.files.length≤500+(J+1):=by
 have hs:=step_fl M
 have h':M.files.length≤500+(J+1):=oQ
 have h'':M.step.1.files.length≤500+(J+1):=oQ
 have hset:∀ i f,(M.step.1.setFile i f).files.length≤500+(J+1):=fun i f=>by unfold Med.setFile;simp;omega
 have hmv:∀ s t g,(M.rmove s t g).1.files.length≤500+(J+1):=by
  intro s t g
  unfold Med.rmove
  split;· exact h'
  split;· exact h'
  split;· exact h'
  split;· exact h''
  exact h''
 refine Med.told_ind (P:=fun r=>r.1.files.length≤500+(J+1)) ?_ ?_ ?_ ?_ ?_ ?_ ?_ ?_ ?_ ?_ ?_ ?_
 ·intro _
  show (M.create x.name).1.files.length≤_
  unfold Med.create
  split;· exact h'
  split;· exact h'
  split;· exact h'
  split;· exact h'
  split;· exact h''
  simp only [Med.link,List.length_append,List.length_singleton];omega
 ·intro _
  show (M.append x.name x.b).1.files.length≤_
  unfold Med.append
  split;· exact h'
  split;· exact h'
  split;· exact h'
  split;· exact h''
  exact hset _ _
 ·intro _
  show (M.truncate x.name x.n).1.files.length≤_
  unfold Med.truncate
  split;· exact h'
  split;· exact h'
  split;· exact h'
  split;· exact h''
  exact hset _ _
 ·exact fun _=>hmv _ _ _
 ·exact fun _=>hmv _ _ _
 ·intro _
  show (M.sync x.name).1.files.length≤_
  unfold Med.sync
  split;· exact h'
  split;· exact h'
  split;· exact h''
  exact hset _ _
 ·intro _
  show M.syncDir.1.files.length≤_
  unfold Med.syncDir
  split;· exact h'
  split;· exact h''
  exact h''
 ·intro _
  show (M.arm x.n).1.files.length≤_
  unfold Med.arm
  split;· exact h'
  split;· exact h'
  exact h'
 ·intro _
  show (M.rcrash x.l).files.length≤_
  unfold Med.rcrash
  simp only [List.length_mapIdx]
  have:=(h.names _ (clampN_le (num x.l 0) M.waits.length)).len
  omega
 ·intro _
  show (M.setRoom x.n).1.files.length≤_
  unfold Med.setRoom
  split;· exact h'
  split;· exact h'
  exact h'
 ·intro _
  show (M.rot x.name x.n (lowByte x.m)).1.files.length≤_
  unfold Med.rot
  split;· exact h'
  split;· exact h'
  simp only [Med.setFile,List.length_set];exact h'
 ·exact fun _=>h'
end Go.Med
namespace Go.Proofs.YtmjldaedhmipkaaGreatDoor
open Go Go.Sl Go.Med Go.MapKept Go.RowKit
section
variable {w0 w:World}{F R:List HProp}{d:Nat}{D:Med}{fsv fv nv wv v lv:Value}{xs:List RF}{g:Bag}{K:Nat}
set_option maxRecDepth 20000 in
theorem rmove_c (s t:ByteArray) (gone:Bool) (hs:t.size≤9223372036854775806) (hl:D.now.length≤1048575) (hw:D.waits.length≤1048576) (hlf:D.left≤9223372036854775807) (h:Sat w0 w (DskRep d D::F)) :
  Calls Tryz.prog 83 #[ptr d,.string s,.string t,.bool gone] w (Rtn fun v w'=>v=errno (D.rmove s t gone).2∧Sat w0 w' (DskRep d (D.rmove s t gone).1::F)):=by
 have hfd:=rfind_c s oQ h
 obtain ⟨fsv,fv,nv,wv,xs,g,hin,hR⟩:=DskRep.open h
 have Hin:=uQ hin;have Hl:=uQ hl;have Hw:=uQ hw;have Hlf:=uQ hlf
 have e7:w.cell? ⟨d,7,none⟩=some (.bool D.off):=hR.cellP pick0 7 rfl
 clear h hin hl hw hlf
 have hgd:=rgood_c t w hs
 cases ho:D.off with
 |true=>
  have Ha:=uQ (show D.rmove s t gone=(D,12) by unfold Med.rmove;rw [ho];rfl)
  rw [ho]at e7
  clear ho hfd hgd
  go_enter Tryz.func83,Tryz.ntmps83
  go_wp2
  go_ret
  exact ⟨_,rfl,by rw [Ha.out];rfl,by rw [Ha.out];exact DskRep.shut Hin.out hR⟩
 |false=>
  rw [ho]at e7
  have Ho:=uQ (show ¬ (D.off=true) by rw [ho];decide)
  clear ho
  cases hk:nget D.now s with
  |none=>
   have Ha:=uQ (show D.rmove s t gone=(D,9) by unfold Med.rmove;rw [if_neg Ho.out,hk])
   have hwh:D.which s = -1:=by unfold Med.which;rw [hk]
   rw [hwh]at hfd
   clear hk hwh hgd
   go_enter Tryz.func83,Tryz.ntmps83
   go_wp2_with fail
   refine hfd.mono ?_
   rintro ee w1 ⟨v,rfl,rfl,rfl⟩
   clear hfd
   go_wp2
   go_ret
   exact ⟨_,rfl,by rw [Ha.out];rfl,by rw [Ha.out];exact DskRep.shut Hin.out hR⟩
  |some i=>
   have hwh:D.which s=(i:Int):=by unfold Med.which;rw [hk]
   rw [hwh]at hfd
   have Hk:=uQ hk
   have c1:¬ (i:Int)<0:=oQ
   clear hk hwh
   have hst:=rstep_c hR Hlf.out
   have hin2:DskIn D.step.1 fv nv xs g:=⟨by rw [step_files];exact Hin.out.files,Hin.out.ok,by rw [step_fast];exact Hin.out.fast,by rw [step_now];exact Hin.out.now⟩
   have Hin2:=uQ hin2
   clear hin2
   have Hl1:=uQ (show D.step.1.now.length≤1048575 by rw [step_now];exact Hl.out)
   have Hw1:=uQ (show D.step.1.waits.length≤1048576 by rw [step_waits];exact Hw.out)
   cases gone with
   |true=>
    clear hgd
    go_enter Tryz.func83,Tryz.ntmps83
    go_wp2_with fail
    refine hfd.mono ?_
    rintro ee w1 ⟨v,rfl,rfl,rfl⟩
    clear hfd
    go_wp2_with fail
    refine hst.mono ?_
    clear hst
    rintro ee w2 ⟨v,rfl,rfl,hS⟩
    clear hR e7 c1
    rw [← step_waits]at hS
    cases ht:D.step.2 with
    |false=>
     have Ha:=uQ (show D.rmove s t true=(D.step.1,12) by unfold Med.rmove;rw [if_neg Ho.out,Hk.out];simp only [];rw [if_neg (by simp),if_pos ht])
     clear ht
     go_wp2
     go_ret
     exact ⟨_,rfl,by rw [Ha.out];rfl,by rw [Ha.out];exact DskRep.shut Hin2.out hS⟩
    |true=>
     have Ha:=uQ (show D.rmove s t true=(D.step.1.link ⟨s,ByteArray.empty,i⟩,0) by unfold Med.rmove;rw [if_neg Ho.out,Hk.out];simp only [];rw [if_neg (by simp),if_neg (by rw [ht];decide)];rfl)
     clear ht
     have h6:=DskRep.shut Hin2.out hS
     clear hS
     go_wp2_with fail
     refine (rwait_c ⟨s,ByteArray.empty,i⟩ Hl1.out Hw1.out h6).mono ?_
     rintro ee w5 ⟨v,rfl,h7⟩
     clear h6
     go_wp2
     go_ret
     exact ⟨_,rfl,by rw [Ha.out];rfl,by rw [Ha.out];exact h7⟩
   |false=>
    cases hg:good t with
    |false=>
     have Ha:=uQ (show D.rmove s t false=(D,7) by unfold Med.rmove;rw [if_neg Ho.out,Hk.out];simp only [];rw [if_pos (by simp [hg])])
     rw [hg]at hgd
     clear hg hst
     go_enter Tryz.func83,Tryz.ntmps83
     go_wp2_with fail
     refine hfd.mono ?_
     rintro ee w1 ⟨v,rfl,rfl,rfl⟩
     clear hfd
     go_wp2_with fail
     refine hgd.mono ?_
     rintro ee w1 ⟨v,rfl,rfl,rfl⟩
     clear hgd
     go_wp2
     go_ret
     exact ⟨_,rfl,by rw [Ha.out];rfl,by rw [Ha.out];exact DskRep.shut Hin.out hR⟩
    |true=>
     have Hg:=uQ (show ¬ (false=false∧good t=false) by rw [hg];decide)
     rw [hg]at hgd
     clear hg
     go_enter Tryz.func83,Tryz.ntmps83
     go_wp2_with fail
     refine hfd.mono ?_
     rintro ee w1 ⟨v,rfl,rfl,rfl⟩
     clear hfd
     go_wp2_with fail
     refine hgd.mono ?_
     rintro ee w1 ⟨v,rfl,rfl,rfl⟩
     clear hgd
     go_wp2_with fail
     refine hst.mono ?_
     clear hst
     rintro ee w2 ⟨v,rfl,rfl,hS⟩
     clear hR e7 c1
     rw [← step_waits]at hS
     cases ht:D.step.2 with
     |false=>
      have Ha:=uQ (show D.rmove s t false=(D.step.1,12) by unfold Med.rmove;rw [if_neg Ho.out,Hk.out];simp only [];rw [if_neg Hg.out,if_pos ht])
      clear ht
      go_wp2
      go_ret
      exact ⟨_,rfl,by rw [Ha.out];rfl,by rw [Ha.out];exact DskRep.shut Hin2.out hS⟩
     |true=>
      have Ha:=uQ (show D.rmove s t false=(D.step.1.link ⟨s,t,i⟩,0) by unfold Med.rmove;rw [if_neg Ho.out,Hk.out];simp only [];rw [if_neg Hg.out,if_neg (by rw [ht];decide)];rfl)
      clear ht
      have h6:=DskRep.shut Hin2.out hS
      clear hS
      go_wp2_with fail
      refine (rwait_c ⟨s,t,i⟩ Hl1.out Hw1.out h6).mono ?_
      rintro ee w5 ⟨v,rfl,h7⟩
      clear h6
      go_wp2
      go_ret
      exact ⟨_,rfl,by rw [Ha.out];rfl,by rw [Ha.out];exact h7⟩
end
section
variable {w0 w:World}{F R:List HProp}{d:Nat}{D:Med}{fsv fv nv wv v lv:Value}{xs:List RF}{g:Bag}{K:Nat}
theorem file_nv {x:RF} (h:x∈xs) (hs:Sat w0 w (stars (xs.map rfR)::R)):∃ na nc,x.nv = .slice na x.f.now.length nc∧x.f.now.length≤nc∧nc≤9223372036854775807∧((na=none∧nc=0)∨∃ g,na=some ⟨g,0,none⟩):=by
 obtain ⟨G,hG⟩:=stars_mem _ _ (List.mem_map.2 ⟨x,h,rfl⟩:rfR x∈xs.map rfR)
 rw [hG]at hs
 have h2:=Sat.star.1 hs
 unfold rfR at h2
 have h3:=Sat.star.1 h2
 have h4:=Sat.star.1 (h3.pick pick1)
 rcases Sat.osl_cases h4 with ⟨hv,hx,_⟩|⟨b,n',cap',cs,hv,hl,hn,hc,hcm,_,_⟩
 ·have h5:(bys x.f.now).length=0:=by rw [hx];rfl
  rw [bys_len]at h5
  exact ⟨none,0,by rw [hv,h5],by omega,by omega,.inl ⟨rfl,rfl⟩⟩
 ·rw [bys_len,Nat.mul_one]at hl
  exact ⟨_,_,by rw [hv,hl],by omega,hcm,.inr ⟨b,rfl⟩⟩
end
section
variable {w0 w:World}{F R:List HProp}{d:Nat}{D:Med}{fsv fv nv wv v lv:Value}{xs:List RF}{g:Bag}{K:Nat}
set_option maxRecDepth 20000 in
theorem rsyncd_c (s:ByteArray) (hl:D.now.length≤1048576) (hlf:D.left≤9223372036854775807) (h:Sat w0 w (DskRep d D::F)) :
  Calls Tryz.prog 26 #[ptr d,.string s,.bool true] w (Rtn fun v w'=>v=errno D.syncDir.2∧Sat w0 w' (DskRep d D.syncDir.1::F)):=by
 have hfd:=rfind_c s hl h
 obtain ⟨fsv,fv,nv,wv,xs,g,hin,hR⟩:=DskRep.open h
 have Hin:=uQ hin;have Hlf:=uQ hlf
 have e7:w.cell? ⟨d,7,none⟩=some (.bool D.off):=hR.cellP pick0 7 rfl
 clear h hin hl hlf
 generalize D.which s=q at *
 cases ho:D.off with
 |true=>
  have Ha:=uQ (show D.syncDir=(D,12) by unfold Med.syncDir;rw [ho];rfl)
  rw [ho]at e7
  clear ho hfd
  go_enter Tryz.func26,Tryz.ntmps26
  go_wp2
  go_ret
  exact ⟨_,rfl,by rw [Ha.out];rfl,by rw [Ha.out];exact DskRep.shut Hin.out hR⟩
 |false=>
  rw [ho]at e7
  have Ho:=uQ (show ¬ (D.off=true) by rw [ho];decide)
  clear ho
  have hst:=rstep_c hR Hlf.out
  have hin2:DskIn D.step.1 fv nv xs g:=⟨by rw [step_files];exact Hin.out.files,Hin.out.ok,by rw [step_fast];exact Hin.out.fast,by rw [step_now];exact Hin.out.now⟩
  have Hin2:=uQ hin2
  clear hin2
  have Hnw:=uQ (step_now D)
  obtain ⟨na,nc,rfl⟩:=nms_sl (bag_ro (w0:=w0) Hin.out.now w (hR.pick pick3))
  go_enter Tryz.func26,Tryz.ntmps26
  go_wp2_with fail
  refine hfd.mono ?_
  rintro ee w1 ⟨v,rfl,rfl,rfl⟩
  clear hfd
  go_wp2_with fail
  refine hst.mono ?_
  clear hst
  rintro ee w2 ⟨v,rfl,rfl,hS⟩
  clear hR e7
  rw [← step_waits]at hS
  cases ht:D.step.2 with
  |false=>
   have Ha:=uQ (show D.syncDir=(D.step.1,12) by unfold Med.syncDir;rw [if_neg Ho.out,if_pos ht])
   clear ht
   go_wp2
   go_ret
   exact ⟨_,rfl,by rw [Ha.out];rfl,by rw [Ha.out];exact DskRep.shut Hin2.out hS⟩
  |true=>
   have Ha:=uQ (show D.syncDir=({ D.step.1 with fast:=D.now,waits:=[] },0) by unfold Med.syncDir;rw [if_neg Ho.out,if_neg (by rw [ht];decide)])
   clear ht
   generalize D.step.1=D1 at *
   go_wp2_with (first
    |((with_reducible refine at_load ⟨?_⟩);refine ldQ ?_)
    |((with_reducible refine at_store ⟨?_⟩);refine stQ ?_;intro wS hS))
   go_ret
   refine ⟨_,rfl,by rw [Ha.out];rfl,?_⟩
   rw [Ha.out]
   have h4:Sat w0 _ (osl 243 3 (.slice none 0 0) []::_):=Sat.osl_nil.2 hS
   exact DskRep.shut (D:={ D1 with fast:=D.now,waits:=[] }) ⟨Hin2.out.files,Hin2.out.ok,Hin.out.now,Hin2.out.now⟩ (h4.sub (sub_take pick1 (sub_take pick1 (sub_take pick1 (sub_take pick1 (sub_take pick0 (sub_drop sub_refl)))))))
end
section
variable {P:Program}{w0 w:World}{L L':List HProp}{b o:Nat}{ops:Array Oper}{rest:List Oper}{a:Act}{Q:Exit→Act→World→Prop}{dst:Option Tmp}{t ty T sz n c:Nat}{pos:String}{after:Array Edge}{x y:Operand}{v:Value}{xs:List Value}
theorem wl_storeS (i:Nat) (hs:Sat w0 w L) (hx:a.eval x = .pointer (some ⟨b,i,none⟩)) (hy:a.eval y=v) (u:Upd (osl T sz (.slice (some ⟨b,0,none⟩) n c) xs) (osl T sz (.slice (some ⟨b,0,none⟩) n c) (xs.set i v)) L L')
  (hi:i<xs.length) (hty:(P.info? ty).map (·.size)=some 1) (h0:v.cells=#[v]) (h1:v.oneCell'=true)
  (hK:∀ w',Sat w0 w' L'→wpList P ops Q rest (a.put dst undef) w'):wpList P ops Q (⟨dst,.store ty x y,t,pos,after,none⟩::rest) a w:=by
 obtain ⟨R',h2,h3⟩:=u
 have h:=hs.perm h2
 rcases Sat.osl_cases h with ⟨he,_⟩|⟨g',n',cap',cs,he,k1,k2,k3,k4,k5,k6⟩
 ·cases he
 ·cases he
  have hlen:xs.length≤cs.size:=by rw [← k5,List.length_take,Array.length_toList];omega
  refine wpList_store_sat rfl ty x y rfl i v hx hy (by rw [h0];show i+1≤cs.size;omega) (by rw [h0];exact hty) (by rw [h0];simpa using h1) k6 fun w' hS=>hK w' (Sat.perm ?_ h3.symm)
  rw [h0]at hS
  refine Sat.osl_of_pt hS (by rw [List.length_set];exact k1) k2 (by rw [putsAt_size];exact k3) k4 ?_
  show (cs.setIfInBounds i v).toList.take _=_
  rw [Array.toList_setIfInBounds,List.take_set,k5]
end
theorem rfsL_set:∀ (xs:List RF) (i:Nat) (x x':RF),xs[i]?=some x→x'.nv=x.nv→((rfsL xs).set (i * 3) x'.fv).set (i * 3+2) x'.wv=rfsL (xs.set i x')
 |[],_,_,_,h,_=>by cases h
 |q::xs,0,x,x',h,hn=>by
  cases h
  show x'.fv::q.nv::x'.wv::rfsL xs=x'.fv::x'.nv::x'.wv::rfsL xs
  rw [hn]
 |q::xs,i+1,x,x',h,hn=>by
  have e:=rfsL_set xs i x x' (by simpa using h) hn
  show ((q.fv::q.nv::q.wv::rfsL xs).set ((i+1) * 3) x'.fv).set ((i+1) * 3+2) x'.wv=q.fv::q.nv::q.wv::rfsL (xs.set i x')
  rw [← e,show (i+1) * 3=i * 3+1+1+1 by omega,show i * 3+1+1+1+2=i * 3+2+1+1+1 by omega]
  rfl
theorem stars_at:∀ (xs:List RF) (i:Nat) (x:RF),xs[i]?=some x→∃ G,stars (xs.map rfR)=star (rfR x) G∧∀ x',stars ((xs.set i x').map rfR)=star (rfR x') G
 |[],_,_,h=>by cases h
 |q::xs,0,x,h=>by
  cases h
  exact ⟨stars (xs.map rfR),rfl,fun x'=>rfl⟩
 |q::xs,i+1,x,h=>by
  obtain ⟨G,h1,h2⟩:=stars_at xs i x (by simpa using h)
  refine ⟨star (rfR q) G,?_,fun x'=>?_⟩
  ·show star (rfR q) (stars (xs.map rfR))=_
   rw [h1,star_left_comm]
  ·show star (rfR q) (stars ((xs.set i x').map rfR))=_
   rw [h2 x',star_left_comm]
section
variable {w0 w:World}{F R:List HProp}{d i:Nat}{D:Med}{fsv fv nv wv v lv bv:Value}{xs:List RF}{x:RF}{g:Bag}{K:Nat}
theorem rf_sync (hx:xs[i]?=some x) (h:Sat w0 w (bsl bv x.f.now::stars (xs.map rfR)::R)):Sat w0 w (stars ((xs.set i ⟨x.f.sync,bv,x.nv,.slice none 0 0,[]⟩).map rfR)::R):=by
 obtain ⟨G,hG,hG'⟩:=stars_at xs i x hx
 rw [hG]at h
 rw [hG' ⟨x.f.sync,bv,x.nv,.slice none 0 0,[]⟩]
 have h1:=Sat.star.1 (h.pick pick1)
 unfold rfR at h1
 have h2:=Sat.star.1 h1
 have h3:=Sat.star.1 (h2.pick pick1)
 have h4:Sat w0 w (bsl x.nv x.f.now::bsl bv x.f.now::G::R):=h3.sub (sub_take pick0 (sub_take pick3 (sub_take pick2 (sub_drop (sub_drop sub_refl)))))
 have t0:Sat w0 w (stars []::bsl x.nv x.f.now::bsl bv x.f.now::G::R):=Sat.emp.2 h4
 have t1:Sat w0 w (chgs []::stars []::bsl x.nv x.f.now::bsl bv x.f.now::G::R):=Sat.emp.2 t0
 have t2:Sat w0 w (stars [chgs []]::bsl x.nv x.f.now::bsl bv x.f.now::G::R):=Sat.star.2 t1
 have t3:Sat w0 w (osl 155 3 (.slice none 0 0) []::stars [chgs []]::bsl x.nv x.f.now::bsl bv x.f.now::G::R):=Sat.osl_nil.2 t2
 have t4:Sat w0 w (stars [osl 155 3 (.slice none 0 0) [],chgs []]::bsl x.nv x.f.now::bsl bv x.f.now::G::R):=Sat.star.2 t3
 have t5:Sat w0 w (bsl x.nv x.f.now::stars [osl 155 3 (.slice none 0 0) [],chgs []]::bsl bv x.f.now::G::R):=t4.sub (sub_take pick1 (sub_take pick0 sub_refl))
 have t6:Sat w0 w (stars [bsl x.nv x.f.now,osl 155 3 (.slice none 0 0) [],chgs []]::bsl bv x.f.now::G::R):=Sat.star.2 t5
 have t7:Sat w0 w (bsl bv x.f.now::stars [bsl x.nv x.f.now,osl 155 3 (.slice none 0 0) [],chgs []]::G::R):=t6.sub (sub_take pick1 (sub_take pick0 sub_refl))
 have t8:Sat w0 w (rfR ⟨x.f.sync,bv,x.nv,.slice none 0 0,[]⟩::G::R):=Sat.star.2 t7
 exact Sat.star.2 t8
end
def putL (xs:List Value) (i:Nat) (vs:List Value):List Value:=xs.take i++(vs++xs.drop (i+vs.length))
theorem putL_app (A B vs:List Value) (i:Nat):putL (A++B) (A.length+i) vs=A++putL B i vs:=by
 unfold putL
 rw [List.take_length_add_append,Nat.add_assoc,List.drop_length_add_append,List.append_assoc]
theorem putL_len {xs vs:List Value}{i:Nat} (h:i+vs.length≤xs.length):(putL xs i vs).length=xs.length:=by
 unfold putL
 simp only [List.length_append,List.length_take,List.length_drop];omega
section
variable {P:Program}{w0 w:World}{L L':List HProp}{b o:Nat}{ops:Array Oper}{rest:List Oper}{a:Act}{Q:Exit→Act→World→Prop}{dst:Option Tmp}{t ty T sz n c:Nat}{pos:String}{after:Array Edge}{x y:Operand}{v:Value}{xs vs:List Value}{K:Act→World→Prop}{E:Prop}
theorem putsAt_take {cs:Array Value}{i m:Nat} (hx:cs.toList.take m=xs) (hm:m≤cs.size) (hi:i+vs.length≤m):(putsAt cs i vs).toList.take m=putL xs i vs:=by
 subst hx
 rw [putsAt_list _ _ _ oQ]
 have hl:(cs.toList.take i++vs).length=i+vs.length:=by rw [List.length_append,List.length_take,Array.length_toList];omega
 unfold putL
 rw [List.take_append,hl,List.take_of_length_le oQ,List.take_take,Nat.min_eq_left oQ,List.drop_take,List.append_assoc]
theorem wl_storeSN (i:Nat) (hs:Sat w0 w L) (hx:a.eval x = .pointer (some ⟨b,i,none⟩)) (hy:a.eval y=v) (hv:v.cells.toList=vs) (u:Upd (osl T sz (.slice (some ⟨b,0,none⟩) n c) xs) (osl T sz (.slice (some ⟨b,0,none⟩) n c) (putL xs i vs)) L L')
  (hi:i+vs.length≤xs.length) (hty:(P.info? ty).map (·.size)=some vs.length) (h1:vs.all (·.oneCell')=true)
  (hK:∀ w',Sat w0 w' L'→wpList P ops Q rest (a.put dst undef) w'):wpList P ops Q (⟨dst,.store ty x y,t,pos,after,none⟩::rest) a w:=by
 have hvs:v.cells.size=vs.length:=by rw [← hv,Array.length_toList]
 obtain ⟨R',h2,h3⟩:=u
 have h:=hs.perm h2
 rcases Sat.osl_cases h with ⟨he,_⟩|⟨g',n',cap',cs,he,k1,k2,k3,k4,k5,k6⟩
 ·cases he
 ·cases he
  have hlen:xs.length≤cs.size:=by rw [← k5,List.length_take,Array.length_toList];omega
  have hm:n * sz≤cs.size:=Nat.le_trans (Nat.mul_le_mul_right _ k2) k3
  refine wpList_store_sat rfl ty x y rfl i v hx hy (by rw [hvs];omega) (by rw [hvs];exact hty) (by rw [← Array.all_toList,hv];exact h1) k6 fun w' hS=>hK w' (Sat.perm ?_ h3.symm)
  refine Sat.osl_of_pt hS (by rw [putL_len hi];exact k1) k2 (by rw [putsAt_size];exact k3) k4 ?_
  rw [hv]
  exact putsAt_take k5 hm (by rw [← k1];exact hi)
theorem eff_storeSN (i:Nat) (hs:Sat w0 w L) (hx:a.eval x = .pointer (some ⟨b,i,none⟩)) (hy:a.eval y=v) (hv:v.cells.toList=vs) (u:Upd (osl T sz (.slice (some ⟨b,0,none⟩) n c) xs) (osl T sz (.slice (some ⟨b,0,none⟩) n c) (putL xs i vs)) L L')
  (hi:i+vs.length≤xs.length) (hty:(P.info? ty).map (·.size)=some vs.length) (h1:vs.all (·.oneCell')=true)
  (hK:∀ w',Sat w0 w' L'→K (a.put dst undef) w') :
  if Region.wanted ⟨dst,.store ty x y,t,pos,after,none⟩ (yielded ops a.tmps)=true then Oper.wp P ⟨dst,.store ty x y,t,pos,after,none⟩ a w K Q else E:=by
 have hvs:v.cells.size=vs.length:=by rw [← hv,Array.length_toList]
 obtain ⟨R',h2,h3⟩:=u
 have h:=hs.perm h2
 rcases Sat.osl_cases h with ⟨he,_⟩|⟨g',n',cap',cs,he,k1,k2,k3,k4,k5,k6⟩
 ·cases he
 ·cases he
  have hlen:xs.length≤cs.size:=by rw [← k5,List.length_take,Array.length_toList];omega
  have hm:n * sz≤cs.size:=Nat.le_trans (Nat.mul_le_mul_right _ k2) k3
  refine eff_store k6 hx hy (cs':=putsAt cs i vs) (by rw [hv]) upd0 (by rw [hvs];omega) (by rw [hvs];exact hty) (by rw [hv];exact h1) fun w' hS=>hK w' (Sat.perm ?_ h3.symm)
  refine Sat.osl_of_pt hS (by rw [putL_len hi];exact k1) k2 (by rw [putsAt_size];exact k3) k4 ?_
  exact putsAt_take k5 hm (by rw [← k1];exact hi)
end
section
variable {α:Type}{f:α→List Value}{k:Nat}
theorem rows_len:∀ {l:List α},(∀ x∈l,(f x).length=k)→(l.flatMap f).length=k * l.length
 |[],_=>rfl
 |x::l,h=>by rw [List.flatMap_cons,List.length_append,h x (.head _),rows_len fun y hy=>h y (.tail _ hy),List.length_cons,Nat.mul_succ];omega
theorem rows_at:∀ {l:List α}{i:Nat}{x:α}{j:Nat}{v:Value},(∀ x∈l,(f x).length=k)→l[i]?=some x→(f x)[j]?=some v→(l.flatMap f)[i * k+j]?=some v
 |[],_,_,_,_,_,h,_=>by cases h
 |y::l,0,x,j,v,hk,h,hj=>by
  obtain rfl:y=x:=by simpa using h
  rw [List.flatMap_cons,Nat.zero_mul,Nat.zero_add,List.getElem?_append_left (List.getElem?_eq_some_iff.1 hj).1];exact hj
 |y::l,i+1,x,j,v,hk,h,hj=>by
  have h0:=hk y (.head _)
  rw [List.flatMap_cons,Nat.succ_mul,List.getElem?_append_right oQ,h0,show i * k+k+j - k=i * k+j by omega]
  exact rows_at (fun z hz=>hk z (.tail _ hz)) (by simpa using h) hj
theorem rows_set:∀ {l:List α}{i:Nat}{x:α},(∀ x∈l,(f x).length=k)→(f x).length=k→i<l.length→(l.set i x).flatMap f=putL (l.flatMap f) (i * k) (f x)
 |[],_,_,_,_,h=>by simp at h
 |y::l,0,x,hk,hx,h=>by
  have h0:=hk y (.head _)
  rw [List.set_cons_zero,List.flatMap_cons,List.flatMap_cons]
  unfold putL
  rw [Nat.zero_mul,List.take_zero,List.nil_append,Nat.zero_add,hx,← h0,List.drop_left]
 |y::l,i+1,x,hk,hx,h=>by
  have h0:=hk y (.head _)
  rw [List.set_cons_succ,List.flatMap_cons,List.flatMap_cons,rows_set (fun z hz=>hk z (.tail _ hz)) hx (by simpa using h),Nat.succ_mul,Nat.add_comm (i * k) k,← h0,putL_app]
theorem rows_rep (n:Nat) (x:α):(List.replicate n x).flatMap f=(List.replicate n (f x)).flatten:=by
 induction n with
 |zero=>rfl
 |succ n ih=>rw [List.replicate_succ,List.flatMap_cons,ih,List.replicate_succ,List.flatten_cons]
end
section
variable {w0 w:World}{F R:List HProp}{α:Type}{f:α→List Value}{k:Nat}{T:TypeId}{v:Value}
theorem osl_row {l:List α}{i:Nat}{x:α} (hk:∀ x∈l,(f x).length=k) (h:rdsl k v (l.flatMap f) w) (hi:l[i]?=some x) (h0:0<k) :
  ∃ bk off c,v = .slice (some ⟨bk,off,none⟩) l.length c∧∀ j y,(f x)[j]?=some y→w.cell? ⟨bk,off+i * k+j,none⟩=some y:=by
 obtain ⟨a,n,c,rfl,hl,hx⟩:=id h
 rw [rows_len hk]at hl
 have hfx:=hk x (List.mem_of_getElem? hi)
 obtain rfl:n=l.length:=by
  rw [Nat.mul_comm]at hl
  exact (Nat.eq_of_mul_eq_mul_right h0 hl).symm
 obtain ⟨y0,hy0⟩:∃ y,(f x)[0]?=some y:=⟨_,List.getElem?_eq_getElem oQ⟩
 have h1:=rows_at hk hi hy0
 obtain ⟨bk,off,rfl,hc⟩:=rdsl_cells h h1
 exact ⟨bk,off,c,rfl,fun j y hj=>by rw [Nat.add_assoc];exact hc _ _ (rows_at hk hi hj)⟩
theorem osl_rows {l:List α} (hk:∀ x∈l,(f x).length=k) (h:rdsl k v (l.flatMap f) w) (h0:0<k):∃ a c,v = .slice a l.length c:=by
 obtain ⟨a,n,c,rfl,hl,hx⟩:=id h
 rw [rows_len hk,Nat.mul_comm]at hl
 exact ⟨a,c,by rw [Nat.eq_of_mul_eq_mul_right h0 hl]⟩
end
theorem and_mask (x j:Nat) (hx:x<9223372036854775808) (hj:j<63):bits .and .i64 (x:Int) ((2^j - 1:Nat):Int)=((x%2^j:Nat):Int):=by
 have h2:2^j≤2^62:=Nat.pow_le_pow_right dQ oQ
 have h3:(2:Nat)^62=4611686018427387904:=by decide
 have h4:0<2^j:=Nat.two_pow_pos j
 have hm:(BitVec.ofInt 64 ((2^j - 1:Nat):Int)).toNat=2^j - 1:=by
  rw [BitVec.toNat_ofInt]
  have:((2^64:Nat):Int)=18446744073709551616:=by decide
  rw [this]
  omega
 have hn:(BitVec.ofInt 64 (x:Int)).toNat=x:=by
  rw [BitVec.toNat_ofInt]
  have:((2^64:Nat):Int)=18446744073709551616:=by decide
  rw [this]
  omega
 show IntKind.i64.wrap ((BitVec.ofInt 64 (x:Int) &&& BitVec.ofInt 64 ((2^j - 1:Nat):Int)).toNat:Nat)=_
 rw [BitVec.toNat_and,hm,hn,Nat.and_two_pow_sub_one_eq_mod,IntKind.wrap_i64]
 have:=Nat.mod_lt x h4
 omega
theorem or_num32 (l:Bs) (c:UInt8) (k:Nat) (hl:l.length=k) (hk:k<4):bits .or .u32 ((Frm.num l:Nat):Int) ((c.toNat:Int) * ((256^k:Nat):Int))=((Frm.num (l++[c]):Nat):Int):=by
 subst hl
 have h1:=Frm.num_lt l
 have h2:=c.toNat_lt
 have h3:256^l.length≤256^3:=Nat.pow_le_pow_right dQ oQ
 have h4:c.toNat * 256^l.length≤255 * 256^3:=Nat.mul_le_mul oQ h3
 have h5:(256:Nat)^3=16777216:=by decide
 have e:(c.toNat:Int) * ((256^l.length:Nat):Int)=((c.toNat * 256^l.length:Nat):Int):=by rw [Int.natCast_mul]
 rw [e,u32_or_nat _ _ oQ oQ,Frm.num_snoc]
 congr 1
 have hp:(256:Nat)^l.length=2^(8 * l.length):=by rw [Nat.pow_mul]
 rw [hp]at h1 ⊢
 have:=Nat.two_pow_add_eq_or_of_lt h1 c.toNat
 rw [Nat.or_comm,Nat.mul_comm c.toNat,← this,Nat.add_comm]
section
variable {w0 w:World}{F R:List HProp}
set_option maxRecDepth 20000 in
theorem home_c (k:Bs) (hk:k.length=32) (j:Nat) (hj:j<40) (h:Sat w0 w F) :
  Calls Tryz.prog 160 #[.agg (bys k).toArray,.int .i64 (2^j:Nat)] w (Rtn fun v w'=>v = .int .i64 (Tab.home k (2^j):Nat)∧Sat w0 w' F):=by
 obtain ⟨c0,c1,c2,c3,t,rfl⟩:∃ c0 c1 c2 c3 t,k=c0::c1::c2::c3::t:=by
  match k,hk with
  |c0::c1::c2::c3::t,_=>exact ⟨c0,c1,c2,c3,t,rfl⟩
 have Hh:=uQ (show Tab.home (c0::c1::c2::c3::t) (2^j)=Frm.num [c0,c1,c2,c3]%2^j from rfl)
 have hB:=h.alloc (.cells (bys (c0::c1::c2::c3::t)).toArray 41)
 have e0:(w.alloc (.cells (bys (c0::c1::c2::c3::t)).toArray 41)).cell? ⟨w.heap.size,0,none⟩=some (.int .u8 c0.toNat):=hB.cellAt 0 _ rfl
 have e1:(w.alloc (.cells (bys (c0::c1::c2::c3::t)).toArray 41)).cell? ⟨w.heap.size,1,none⟩=some (.int .u8 c1.toNat):=hB.cellAt 1 _ rfl
 have e2:(w.alloc (.cells (bys (c0::c1::c2::c3::t)).toArray 41)).cell? ⟨w.heap.size,2,none⟩=some (.int .u8 c2.toNat):=hB.cellAt 2 _ rfl
 have e3:(w.alloc (.cells (bys (c0::c1::c2::c3::t)).toArray 41)).cell? ⟨w.heap.size,3,none⟩=some (.int .u8 c3.toNat):=hB.cellAt 3 _ rfl
 have b0:=c0.toNat_lt;have b1:=c1.toNat_lt;have b2:=c2.toNat_lt;have b3:=c3.toNat_lt
 have q1:bits .or .u32 (c0.toNat:Int) ((c1.toNat:Int) * 256)=((Frm.num [c0,c1]:Nat):Int):=by
  have:=or_num32 [c0] c1 1 rfl dQ
  simpa [Frm.num] using this
 have q2:bits .or .u32 ((Frm.num [c0,c1]:Nat):Int) ((c2.toNat:Int) * 65536)=((Frm.num [c0,c1,c2]:Nat):Int):=or_num32 [c0,c1] c2 2 rfl dQ
 have q3:bits .or .u32 ((Frm.num [c0,c1,c2]:Nat):Int) ((c3.toNat:Int) * 16777216)=((Frm.num [c0,c1,c2,c3]:Nat):Int):=or_num32 [c0,c1,c2] c3 3 rfl dQ
 have hn:=Frm.num_lt [c0,c1,c2,c3]
 rw [show [c0,c1,c2,c3].length=4 from rfl,show (256:Nat)^4=4294967296 by decide]at hn
 have hp:(2:Nat)^j≤2^40:=Nat.pow_le_pow_right dQ oQ
 have hp1:(2:Nat)^40=1099511627776:=by decide
 have hp0:0<2^j:=Nat.two_pow_pos j
 have q4:=and_mask (Frm.num [c0,c1,c2,c3]) j oQ oQ
 generalize Frm.num [c0,c1,c2,c3]=N at *
 generalize hC:2^j=C at *
 have hw1:IntKind.i64.wrap ((C:Int) - 1)=((C - 1:Nat):Int):=by rw [IntKind.wrap_i64];omega
 have hw2:IntKind.i64.wrap (N:Int)=(N:Int):=IntWalk.i64_in _ oQ
 have hm2:N%C<C:=Nat.mod_lt _ hp0
 clear h hk hC hp hp1
 go_enter Tryz.func160,Tryz.ntmps160
 go_wp2_with fail
 go_ret
 refine ⟨_,rfl,?_,hB.drop⟩
 rw [Hh.out,Int.natCast_emod];rfl
end
section
variable {w0 w:World}{L L' R F:List HProp}{b o:Nat}{ops:Array Oper}{rest:List Oper}{a:Act}{Q:Exit→Act→World→Prop}
variable {dst:Option Tmp}{t T ty:TypeId}{pos:String}{after:Array Edge}{x y:Operand}{cs:Array Value}{v:Value}{P:Program}
theorem wl_loadW (ks:List Value) (hx:a.eval x = .pointer (some ⟨b,o,none⟩)) (hc:∀ j v,ks[j]?=some v→w.cell? ⟨b,o+j,none⟩=some v)
  {d:TypeDesc} (hu:P.underlying ty=some d) (hd:d.isRow=true) (hi:(P.info? ty).map (·.size)=some ks.length)
  (h:wpList P ops Q rest (a.put dst (.agg ks.toArray)) w):wpList P ops Q (⟨dst,.load ty x,t,pos,after,none⟩::rest) a w:=
 wpList_load_mid rfl ty x rfl b o hx ks d hc hu hd hi h
theorem wl_storeA (ks:Array Value) (hs:Sat w0 w L) (hx:a.eval x = .pointer (some ⟨b,0,none⟩)) (hy:a.eval y = .agg ks) (hsz:ks.size=cs.size) (u:Upd (pt b (.cells cs T (0,0))) (pt b (.cells ks T (0,0))) L L')
  (hi:(P.info? ty).map (·.size)=some ks.size) (h1:ks.toList.all (·.oneCell')=true)
  (hK:∀ w',Sat w0 w' L'→wpList P ops Q rest (a.put dst undef) w'):wpList P ops Q (⟨dst,.store ty x y,t,pos,after,none⟩::rest) a w:=
 wl_store hs hx hy (putsAt_eq (by
  show (putsAt cs 0 ks.toList).toList=_
  rw [putsAt_list _ _ _ (by rw [Array.length_toList];omega),List.take_zero,List.nil_append,Nat.zero_add,List.drop_of_length_le (by rw [Array.length_toList,Array.length_toList];omega),List.append_nil])) u (by show 0+ks.size≤cs.size;omega) hi h1 hK
end
section
variable {w0 w:World}{L L' R F:List HProp}{b:Nat}{ops:Array Oper}{rest:List Oper}{a:Act}{Q:Exit→Act→World→Prop}
variable {dst:Option Tmp}{t T:TypeId}{pos:String}{after:Array Edge}{x y:Operand}{cs:Array Value}{v:Value}{e:Frm.Ent}{da:Option Addr}{dn dc:Nat}
theorem wl_buildE (hs:Sat w0 w L) (hy:a.eval x = .agg (entA e (.slice da dn dc))) (hk:e.key.length=32)
  (hK:∀ b w',Sat w0 w' (pt b (.cells (entA e (.slice da dn dc)) 44 (0,0))::L)→wpList Tryz.prog ops Q rest (a.put dst (.slice (some ⟨b,0,none⟩) 1 1)) w') :
  wpList Tryz.prog ops Q (⟨dst,.buildSlice 125 1 #[(0,x)],t,pos,after,none⟩::rest) a w:=
 wl_build1 (e:=44) (sz:=34) (by':=64) kQ hs hy rfl (entA_size _ _ hk) dQ hK
theorem at_buildE (h:Stop (wpList Tryz.prog ops Q (⟨dst,.buildSlice 125 1 #[(0,x)],t,pos,after,none⟩::rest) a w)):wpList Tryz.prog ops Q (⟨dst,.buildSlice 125 1 #[(0,x)],t,pos,after,none⟩::rest) a w:=h.out
theorem wl_loadEs {o:Nat} (hs:Sat w0 w L) (hx:a.eval x = .pointer (some ⟨b,o,none⟩)) (p:Pick (pt b (.cells cs T (0,0))) L R) (hk:e.key.length=32) (hv:∀ j v,(entL e (.slice da dn dc))[j]?=some v→cs[o+j]?=some v)
  (h:wpList Tryz.prog ops Q rest (a.put dst (.agg (entA e (.slice da dn dc)))) w):wpList Tryz.prog ops Q (⟨dst,.load 44 x,t,pos,after,none⟩::rest) a w:=
 wl_loadN (entL e (.slice da dn dc)) hs hx p hv Tryz.underlying44 rfl (by rw [entL_len e _ hk];exact infoEntSize) h
theorem entsL_one (e:Frm.Ent) (dv:Value):entsL [(e,dv)]=(entA e dv).toList:=by unfold entsL entA;simp
theorem ro_one (h:e.key.length=32):Ro w0 (pt b (.cells (entA e (.slice da dn dc)) T (0,0))::F) (rdsl 34 (.slice (some ⟨b,0,none⟩) 1 1) (entsL [(e,.slice da dn dc)])):=fun w hw=>by
 rw [entsL_one]
 exact ⟨_,1,1,rfl,by rw [Array.length_toList,entA_size _ _ h],fun j y hj=>⟨_,rfl,by rw [add_zero_lit];exact hw.cellAt j y (by simpa using hj)⟩⟩
theorem few_one {fs:List (Frm.Ent×Value)}{n long:Nat} (h:fs.map (·.1)=Frm.few [e] (n+1) long):∃ dv,fs=[(Frm.cutE long e,dv)]:=by
 have h1:fs.map (·.1)=[Frm.cutE long e]:=by rw [h];simp [Frm.few]
 cases fs with
 |nil=>cases h1
 |cons f fs=>
  cases fs with
  |nil=>
   obtain ⟨x,dv⟩:=f
   simp only [List.map_cons,List.map_nil,List.cons.injEq,and_true]at h1
   exact ⟨dv,by rw [h1]⟩
  |cons g fs=>simp at h1
theorem few_open {dv v:Value} (hk:e.key.length=32) (h:Sat w0 w (osl 44 34 v (entsL [(e,dv)])::dataS [(e,dv)]::F)) :
  ∃ b c cs da dc,v = .slice (some ⟨b,0,none⟩) 1 c∧dv = .slice da e.data.length dc∧(∀ j y,(entL e dv)[j]?=some y→cs[0+j]?=some y)∧Sat w0 w (pt b (.cells cs 44 (0,0))::bsl dv e.data::F):=by
 have e1:dataS [(e,dv)]=bsl dv e.data:=by unfold dataS;exact stars_one _
 rw [e1]at h
 obtain ⟨da,dn,dc,rfl,hdn,_⟩:=Sat.rd h.pick1
 rw [bys_len,Nat.mul_one]at hdn
 subst hdn
 rcases h.osl_cases with ⟨rfl,hx,hF⟩|⟨b,n',cap,cs,rfl,hll,hn',hc,hcm,htk,hp⟩
 ·rw [entsL_one]at hx
  have:=congrArg List.length hx
  rw [Array.length_toList,entA_size _ _ hk]at this
  cases this
 ·rw [entsL_one,Array.length_toList,entA_size _ _ hk]at hll
  obtain rfl:n'=1:=by omega
  refine ⟨b,cap,cs,da,dc,rfl,rfl,fun j y hj=>?_,hp⟩
  rw [Nat.zero_add]
  refine take_get htk ?_
  rw [entsL_one]
  unfold entA
  exact hj
end
abbrev plcA (q:Seg.Plc):Value:= .agg #[.int .i64 q.seg,.int .i64 q.at_,.int .i64 q.size]
theorem zPlace:zeroB Tryz.prog 39=some (.agg #[.int .i64 0,.int .i64 0,.int .i64 0]):=by kernel_rfl
structure SegBlk (l:List (Int×Int)) (n cap:Nat) (cs:Array Value):Prop where
 len:l.length=n+1
 le:n+1≤cap
 size:cap * 2≤cs.size
 max:cap≤maxLen
 take:cs.toList.take ((n+1) * 2)=segw l
theorem segw_set (l:List (Int×Int)) (s:Int×Int) (z:Int):(segw (l++[s])).set (l.length * 2+1) (.int .i64 z)=segw (l++[(s.1,z)]):=by
 rw [segw_app,segw_app]
 rw [List.set_append_right _ _ (by rw [segw_len];omega),segw_len,show l.length * 2+1 - 2 * l.length=1 by omega]
 rfl
theorem set_take {α:Type} (l:List α) (k i:Nat) (x:α) (h:i<k):(l.set i x).take k=(l.take k).set i x:=by
 rw [List.take_set]
section
variable {w0 w:World}{F R:List HProp}{v bv dv x lv:Value}{q p m K:Nat}{L:Seg.Log}{M:Med}{s:Int×Int}
theorem seg_block (hl:L.l.getLast?=some s) (h:Sat w0 w (LogRaw p m L lv++F)) :
  ∃ bk n cap cs,lv = .slice (some ⟨bk,0,none⟩) (n+1) cap∧SegBlk L.l n cap cs∧cs[n * 2]?=some (.int .i64 s.1)∧cs[n * 2+1]?=some (.int .i64 s.2) ∧
   Sat w0 w (logPt p m L (.slice (some ⟨bk,0,none⟩) (n+1) cap)::pt bk (.cells cs 145 (0,0))::F):=by
 rw [List.getLast?_eq_getElem?]at hl
 have hlt:=(List.getElem?_eq_some_iff.1 hl).1
 obtain ⟨n,hn⟩:∃ n,L.l.length=n+1:=⟨L.l.length - 1,by omega⟩
 rw [hn,Nat.add_sub_cancel]at hl
 obtain ⟨h1,h2⟩:=segw_at _ _ _ hl
 have hS:Sat w0 w (osl 145 2 lv (segw L.l)::logPt p m L lv::F):=h.pick1
 rcases hS.osl_cases with ⟨rfl,hx,_⟩|⟨b,n',cap,cs,rfl,hll,hn',hc,hcm,htk,hp⟩
 ·rw [hx]at h1;simp at h1
 ·rw [segw_len,hn]at hll
  obtain rfl:n'=n+1:=by omega
  refine ⟨b,n,cap,cs,rfl,⟨hn,hn',hc,hcm,htk⟩,?_,?_,hp.pick1⟩
  ·rw [Nat.mul_comm];exact take_get htk h1
  ·rw [Nat.mul_comm];exact take_get htk h2
theorem seg_keep {bk n cap:Nat}{cs:Array Value} (hb:SegBlk L.l n cap cs) (h:Sat w0 w (pt bk (.cells cs 145 (0,0))::R)) :
  Sat w0 w (osl 145 2 (.slice (some ⟨bk,0,none⟩) (n+1) cap) (segw L.l)::R):=
 Sat.osl_of_pt h (by rw [segw_len,hb.len];omega) hb.le hb.size hb.max hb.take
theorem seg_close {bk n cap:Nat}{cs:Array Value} (hl:L.l.getLast?=some s) (hb:SegBlk L.l n cap cs) (z:Int)
  (h:Sat w0 w (pt bk (.cells (putsAt cs (n * 2+1) [.int .i64 z]) 145 (0,0))::R)) :
  Sat w0 w (osl 145 2 (.slice (some ⟨bk,0,none⟩) (n+1) cap) (segw (L.l.dropLast++[(s.1,z)]))::R):=by
 have e:=Seg.last_split hl
 have hlen:=Seg.last_len hl
 have hn:=hb.len
 refine Sat.osl_of_pt h ?_ hb.le ?_ hb.max ?_
 ·rw [segw_len,List.length_append,List.length_singleton];omega
 ·rw [putsAt_size];exact hb.size
 ·simp only [putsAt,Array.toList_setIfInBounds]
  rw [set_take _ _ _ _ oQ,hb.take,e,List.dropLast_append_cons,show n=L.l.dropLast.length by omega]
  simp only [List.dropLast_singleton,List.append_nil]
  exact segw_set _ _ _
set_option maxRecDepth 20000 in
theorem grow_c (hl:L.l.getLast?=some s) (hs:0≤s.2∧s.2≤33554432) (hM:M.Ok K) (hKK:K≤1099511627776) (hlen:L.l.length≤1048576) (b:Bs) (hbl:b.length≤1073741824) (hr:Ro w0 F (rdsl 1 bv (bys b)))
  (h:Sat w0 w (LogRep p m L::MedRep m M::F)) :
  Calls Tryz.prog 70 #[ptr p,bv] w (Rtn fun v w'=>v = .tuple #[plcA (L.grow M b).2.1,errno (L.grow M b).2.2] ∧
   Sat w0 w' (LogRep p m (L.grow M b).1.1::MedRep m (L.grow M b).1.2::F)):=by
 obtain ⟨lv,hR⟩:=LogRep.open h
 clear h
 obtain ⟨bk,n,cap,cs,rfl,hb,c0,c1,hS⟩:=seg_block hl hR
 clear hR
 obtain ⟨ba,bn,bc,rfl,hbn⟩:=ro_len hr (A:=emp) (Sat.emp.2 (hS.sel 3 [] rfl rfl))
 subst hbn
 have Hg:=uQ (show L.grow M b=if (M.append (Seg.name s.1) b).2=0 then (({ L with l:=L.l.dropLast++[(s.1,s.2+(b.length:Int))] },(M.append (Seg.name s.1) b).1),⟨s.1,s.2,b.length⟩,0)
  else ((L,(M.append (Seg.name s.1) b).1),Seg.Plc.zero,(M.append (Seg.name s.1) b).2) by unfold Seg.Log.grow;rw [hl])
 have hn:=hb.len
 have Hb:=uQ hb;have Hr:=uQ hr;have Hl:=uQ hl;have Hs:=uQ hs;have Hc0:=uQ c0;have Hc1:=uQ c1;have Hbl:=uQ hbl
 have hn0:(n:Int)<(n:Int)+1:=oQ
 have hwn:IntKind.i64.wrap (n:Int)=(n:Int):=by rw [IntKind.wrap_i64];omega
 have hwz:IntKind.i64.wrap (s.2+(b.length:Int))=s.2+(b.length:Int):=by rw [IntKind.wrap_i64];omega
 have Hwz:=uQ hwz
 clear hn hb hr hl hs c0 c1 hbl hlen hwz
 go_enter Tryz.func70,Tryz.ntmps70
 go_wp2_with (refine wl_alloc zPlace aQ rfl ?_;intro q w1 hS1)
 refine wpL_begin [10,11] (fun w'=>w'.cell? ⟨p,2,none⟩=some (.slice (some ⟨bk,0,none⟩) (n+1) cap)) kQ ?_
 have hG:w1.drew.cell? ⟨p,2,none⟩=some (.slice (some ⟨bk,0,none⟩) (n+1) cap):=hS1.drew.cellP pkD 2 rfl
 refine rP 0 ?_ (y:=mvQ)
 refine rP 1 ?_ (y:=nlQ)
 refine rP 2 ?_ (y:=flQ)
 refine rt 3 (h:=?_)
 refine rP 4 ?_ (y:=mvQ)
 refine rP 5 ?_ (y:=nlQ)
 refine rP 6 ?_ (y:=flQ)
 refine rt 7 (h:=?_)
 refine rP 8 ?_ (y:=(yl_len evD rnD))
 refine rP 9 ?_ (y:=bnQ)
 refine rP 10 ?_ (y:=ixQ)
 refine rP 11 ?_ (y:=asQ)
 refine wdQ ?_
 clear hG
 have hS2:=hS1.drew
 generalize w1.drew=w2 at *
 clear hS1 hS
 go_wp2_with fail
 refine wpL_begin [10,11] (fun w'=>w'.cell? ⟨p,0,none⟩=some (ptr m)∧w'.cell? ⟨bk,n * 2,none⟩=some (.int .i64 s.1)) kQ ?_
 have hG:w2.drew.cell? ⟨p,0,none⟩=some (ptr m)∧w2.drew.cell? ⟨bk,n * 2,none⟩=some (.int .i64 s.1):=⟨hS2.drew.cellP pkD 0 rfl,hS2.drew.cellP pkD _ Hc0.out⟩
 refine rP 0 ?_ (y:=mvQ)
 refine rP 1 ?_ (y:=nlQ)
 refine rP 2 ?_ (y:=flQ)
 refine rt 3 (h:=?_)
 refine rP 4 ?_ (y:=mvQ)
 refine rP 5 ?_ (y:=nlQ)
 refine rP 6 ?_ (y:=flQ)
 refine rt 7 (h:=?_)
 refine rP 9 ?_ (y:=mvQ)
 refine rg_eff 8 evD kQ (fun K hK=>?_)
 clear hG
 (refine eff_call1 kQ evD ?_)
 refine (sname_c s.1 hS2.drew).mono ?_
 rintro e w3 ⟨v,rfl,rfl,hS3⟩
 refine hK _ _ (.inr (.inl ⟨hS3.cellP pkD 0 rfl,hS3.cellP pkD _ Hc0.out⟩)) ?_
 clear hK K
 refine rg_eff 10 evD kQ (fun K hK=>?_)
 (refine eff_call3 kQ evD evD evD ?_)
 refine (append_c hM hKK (Sat.pk aQ) _ b (by first|assumption|exact Ro.op (Ro.bsl _ _)|exact Ro.os aQ)).mono ?_
 rintro e w4 ⟨v,rfl,rfl,hS4⟩
 refine hK _ _ (.inl rfl) ?_
 clear hK K
 refine rP 11 ?_ (y:=asQ)
 refine wdQ ?_
 clear hS3 hS2 Hr
 generalize M.append (Seg.name s.1) b=r at *
 obtain ⟨M2,ee⟩:=r
 by_cases he:ee=0
 ·subst he
  have hfin:=uQ (Hg.out.trans (if_pos rfl))
  have e1:w4.cell? ⟨bk,n * 2+1,none⟩=some (.int .i64 s.2):=hS4.cellP pkD _ Hc1.out
  have hfit:=Hb.out.size;have hle:=Hb.out.le
  have hst:=uQ (show n * 2+1+(Value.int .i64 (s.2+(b.length:Int))).cells.size≤cs.size by show n * 2+1+1≤cs.size;omega)
  have hwz:=Hwz.out
  clear hfit hle
  go_wp2_with (refine wpList_stop rQ ?_)
  refine ⟨wl_store (b:=bk) (o:=n * 2+1) (v:= .int .i64 (s.2+(b.length:Int))) aQ rQ rQ rfl upD hst.out kQ rQ ?_⟩
  intro w5 hS5
  have e0:w5.cell? ⟨bk,n * 2,none⟩=some (.int .i64 s.1):=hS5.cellP pkD _ (by
   show (cs.setIfInBounds (n * 2+1) _)[n * 2]?=_
   rw [Array.getElem?_setIfInBounds_ne oQ];exact Hc0.out)
  clear e1 hst hwz
  go_wp2_with ((with_reducible refine at_store ⟨?_⟩);refine stQ ?_;intro wS hS)
  refine ⟨rfl,_,res_cell_tmp rfl aQ rQ pkD Tryz.underlying39 rfl kQ,_,rfl,?_,?_⟩
  ·rw [hfin.out];rfl
  ·rw [hfin.out]
   have h6:=seg_close Hl.out Hb.out _ (Sat.pk hS)
   exact LogRep.shut2 (lv:= .slice (some ⟨bk,0,none⟩) (n+1) cap) (Sat.sb h6)
 ·have heb:(ee==0)=false:=beq_false_of_ne he
  have hfin:=uQ (Hg.out.trans (if_neg he))
  clear he
  go_wp2_with ((with_reducible refine at_store ⟨?_⟩);refine stQ ?_;intro wS hS)
  refine ⟨rfl,_,res_cell_tmp rfl aQ rQ pkD Tryz.underlying39 rfl kQ,_,rfl,?_,?_⟩
  ·rw [hfin.out];rfl
  ·rw [hfin.out]
   have h6:=seg_keep Hb.out (Sat.pk hS)
   exact LogRep.shut2 (lv:= .slice (some ⟨bk,0,none⟩) (n+1) cap) (Sat.sb h6)
end
end Go.Proofs.YtmjldaedhmipkaaGreatDoor
namespace Go.Seg
open Go.Med
theorem Log.shut_off {L:Log} (M:Med) (h:L.on=false):L.shut M=((L,M),0):=by
 unfold Log.shut
 split
 ·rfl
 ·rw [if_neg (by rw [h];decide)]
theorem Log.Ok.last {L:Log} (h:L.Ok) (hon:L.on=true):∃ s,L.l.getLast?=some s:=by
 cases hl:L.l.getLast? with
 |none=>exact absurd (List.getLast?_eq_none_iff.1 hl) (h.on hon)
 |some s=>exact ⟨s,rfl⟩
theorem Log.shut_on {L:Log} (M:Med){s:Int×Int} (hl:L.l.getLast?=some s) (h:L.on=true) :
  L.shut M=if (M.sync (name s.1)).2=0 then (({ L with on:=false },(M.sync (name s.1)).1),0) else ((L,(M.sync (name s.1)).1),(M.sync (name s.1)).2):=by
 unfold Log.shut
 rw [hl]
 simp only [h,if_true]
end Go.Seg
namespace Go.Proofs.YtmjldaedhmipkaaGreatDoor
open Go Go.Sl Go.Med Go.MapKept Go.RowKit
section
variable {w0 w:World}{F R:List HProp}{v bv dv x lv:Value}{q p m K:Nat}{L:Seg.Log}{M:Med}{s:Int×Int}
set_option maxRecDepth 20000 in
theorem shut_c (hL:L.Ok) (hM:M.Ok K) (h:Sat w0 w (LogRep p m L::MedRep m M::F)) :
  Calls Tryz.prog 128 #[ptr p] w (Rtn fun v w'=>v=errno (L.shut M).2∧Sat w0 w' (LogRep p m (L.shut M).1.1::MedRep m (L.shut M).1.2::F)):=by
 cases hon:L.on
 ·obtain ⟨lv,hR⟩:=LogRep.open h
  refine (shut0_c hon hR).mono ?_
  rintro e w1 ⟨v,rfl,rfl,rfl⟩
  rw [Seg.Log.shut_off M hon]
  exact ⟨_,rfl,rfl,h⟩
 ·obtain ⟨s,hl⟩:=hL.last hon
  obtain ⟨lv,hR⟩:=LogRep.open h
  clear h
  have hlen:=hL.len
  obtain ⟨bk,n,cap,cs,rfl,hb,c0,c1,hS⟩:=seg_block hl hR
  clear hR c1
  have hn:=hb.len
  have Hg:=uQ (Seg.Log.shut_on M hl hon)
  have Hb:=uQ hb;have Hl:=uQ hl;have Hc0:=uQ c0
  have hn0:(n:Int)<(n:Int)+1:=oQ
  have hwn:IntKind.i64.wrap (n:Int)=(n:Int):=by rw [IntKind.wrap_i64];omega
  have e3:w.cell? ⟨p,3,none⟩=some (.bool true):=hS.cellP pkD 3 (by rw [← hon];rfl)
  clear hn hb hl c0 hlen hon
  go_enter Tryz.func128,Tryz.ntmps128
  go_wp2_with fail
  refine wpL_begin [18,19] (fun w'=>w'.cell? ⟨p,0,none⟩=some (ptr m)∧w'.cell? ⟨p,2,none⟩=some (.slice (some ⟨bk,0,none⟩) (n+1) cap)∧w'.cell? ⟨bk,n * 2,none⟩=some (.int .i64 s.1)) kQ ?_
  have hG:w.drew.cell? ⟨p,0,none⟩=some (ptr m)∧w.drew.cell? ⟨p,2,none⟩=some (.slice (some ⟨bk,0,none⟩) (n+1) cap)∧w.drew.cell? ⟨bk,n * 2,none⟩=some (.int .i64 s.1):=⟨hS.drew.cellP pkD 0 rfl,hS.drew.cellP pkD 2 rfl,hS.drew.cellP pkD _ Hc0.out⟩
  refine rP 0 ?_ (y:=mvQ)
  refine rP 1 ?_ (y:=nlQ)
  refine rP 2 ?_ (y:=flQ)
  refine rt 3 (h:=?_)
  refine rP 4 ?_ (y:=mvQ)
  refine rP 5 ?_ (y:=nlQ)
  refine rP 6 ?_ (y:=flQ)
  refine rt 7 (h:=?_)
  refine rP 8 ?_ (y:=mvQ)
  refine rP 9 ?_ (y:=nlQ)
  refine rP 10 ?_ (y:=flQ)
  refine rt 11 (h:=?_)
  refine rP 12 ?_ (y:=(yl_len evD rnD))
  refine rP 13 ?_ (y:=bnQ)
  refine rP 14 ?_ (y:=ixQ)
  refine rP 15 ?_ (y:=flQ)
  refine rt 16 (h:=?_)
  clear hG e3
  refine rg_eff 17 evD kQ (fun K hK=>?_)
  (refine eff_call1 kQ evD ?_)
  refine (sname_c s.1 hS.drew).mono ?_
  rintro e w3 ⟨v,rfl,rfl,hS3⟩
  refine hK _ _ (.inr (.inl ⟨hS3.cellP pkD 0 rfl,hS3.cellP pkD 2 rfl,hS3.cellP pkD _ Hc0.out⟩)) ?_
  clear hK K
  refine rg_eff 18 evD kQ (fun K hK=>?_)
  (refine eff_call2 kQ evD evD ?_)
  refine (sync_c hM (Sat.pk aQ) _).mono ?_
  rintro e w4 ⟨v,rfl,rfl,hS4⟩
  refine hK _ _ (.inl rfl) ?_
  clear hK K
  refine rP 19 ?_ (y:=asQ)
  refine wdQ ?_
  clear hS3 hS
  generalize M.sync (Seg.name s.1)=r at *
  obtain ⟨M2,ee⟩:=r
  by_cases he:ee=0
  ·subst he
   have hfin:=uQ (Hg.out.trans (if_pos rfl))
   go_wp2_with ((with_reducible refine at_store ⟨?_⟩);refine stQ ?_;intro wS hS)
   go_ret
   refine ⟨errno 0,rfl,by rw [hfin.out],?_⟩
   rw [hfin.out]
   have h6:=seg_keep Hb.out (Sat.pk hS)
   exact LogRep.shut2 (lv:= .slice (some ⟨bk,0,none⟩) (n+1) cap) (Sat.sb h6)
  ·have heb:(ee==0)=false:=beq_false_of_ne he
   have hfin:=uQ (Hg.out.trans (if_neg he))
   clear he
   go_wp2_with ((with_reducible refine at_store ⟨?_⟩);refine stQ ?_;intro wS hS)
   go_ret
   refine ⟨errno ee,rfl,by rw [hfin.out],?_⟩
   rw [hfin.out]
   have h6:=seg_keep Hb.out (Sat.pk hS4)
   exact LogRep.shut2 (lv:= .slice (some ⟨bk,0,none⟩) (n+1) cap) (Sat.sb h6)
end
end Go.Proofs.YtmjldaedhmipkaaGreatDoor
namespace Go.Seg
open Go.Med
theorem Log.shut_med {L:Log}{M:Med}{K:Nat} (h:M.Ok K):(L.shut M).1.2.Ok (K+1):=by
 unfold Log.shut
 split;· exact h.mono (Nat.le_succ K)
 split
 ·split <;> exact h.sync _
 ·exact h.mono (Nat.le_succ K)
theorem Log.begin_eq (L:Log) (M:Med) (b:Bs):L.begin M b=if (L.shut M).2=0 then (L.shut M).1.1.begin1 (L.shut M).1.2 b else ((L.shut M).1,Plc.zero,(L.shut M).2):=rfl
theorem name_size (n:Int):(name n).size≤9223372036854775807:=by
 unfold name
 split
 ·decide
 ·show (lead++digs n.toNat 8).toArray.size≤_
  rw [List.size_toArray,List.length_append,digs_len];decide
end Go.Seg
namespace Go.Proofs.YtmjldaedhmipkaaGreatDoor
open Go Go.Sl Go.Med Go.MapKept Go.RowKit
section
variable {w0 w:World}{F R:List HProp}{v bv dv x lv:Value}{q p m K:Nat}{L:Seg.Log}{M:Med}{s:Int×Int}
theorem lnext_c (hL:L.Ok) (h:Sat w0 w (LogRep p m L::F)) :
  Calls Tryz.prog 102 #[ptr p] w (Rtn fun v w'=>v = .int .i64 L.next∧Sat w0 w' (LogRep p m L::F)):=by
 obtain ⟨lv,hR⟩:=LogRep.open h
 refine (snext_c hL.len hL.nums hR).mono ?_
 rintro e w1 ⟨v,rfl,rfl,hS⟩
 exact ⟨_,rfl,rfl,LogRep.shut2 hS⟩
theorem segw_snoc (l:List (Int×Int)) (n z:Int):segw l++[.int .i64 n,.int .i64 z]=segw (l++[(n,z)]):=by rw [segw_app];rfl
set_option maxRecDepth 20000 in
theorem begin_c (hL:L.Ok) (hM:M.Ok K) (hKK:K+4≤1099511627776) (b:Bs) (hb0:b≠[]) (hbl:b.length≤16777216) (hr:Ro w0 F (rdsl 1 bv (bys b)))
  (h:Sat w0 w (LogRep p m L::MedRep m M::F)) :
  Calls Tryz.prog 71 #[ptr p,bv] w (Rtn fun v w'=>v = .tuple #[plcA (L.begin M b).2.1,errno (L.begin M b).2.2] ∧
   Sat w0 w' (LogRep p m (L.begin M b).1.1::MedRep m (L.begin M b).1.2::F)):=by
 obtain ⟨ba,bn,bc,rfl,hbn⟩:=ro_len hr (A:=emp) (Sat.emp.2 (h.sel 2 [] rfl rfl))
 subst hbn
 obtain ⟨i,hi,hz0,hz1,hz2⟩:=info8p
 have Hg:=uQ (Seg.Log.begin_eq L M b)
 have HM:=uQ (Seg.Log.shut_med (L:=L) hM)
 have HL:=uQ (hL.shut M)
 have Hr:=uQ hr;have Hb0:=uQ hb0;have Hbl:=uQ hbl
 clear hr hb0 hbl
 go_enter Tryz.func71,Tryz.ntmps71
 go_wp2_with (refine wl_alloc zPlace aQ rfl ?_;intro q w1 hS1)
 refine (shut_c hL hM (Sat.sb aQ)).mono ?_
 rintro e w2 ⟨v,rfl,rfl,hS2⟩
 clear hS1 h hL hM
 generalize L.shut M=S at *
 obtain ⟨⟨L1,M1⟩,e1⟩:=S
 by_cases he:e1=0
 rotate_left
 ·have heb:(e1==0)=false:=beq_false_of_ne he
  have hfin:=uQ (Hg.out.trans (if_neg he))
  clear he
  go_wp2_with ((with_reducible refine at_store ⟨?_⟩);refine stQ ?_;intro wS hS)
  refine ⟨rfl,_,res_cell_tmp rfl aQ rQ pkD Tryz.underlying39 rfl kQ,_,rfl,?_,?_⟩
  ·rw [hfin.out];rfl
  ·rw [hfin.out];exact Sat.sb hS
 subst he
 have H1:=uQ (Hg.out.trans (if_pos rfl))
 clear Hg
 go_wp2_with fail
 refine (lnext_c HL.out (Sat.pk aQ)).mono ?_
 rintro e w3 ⟨v,rfl,rfl,hS3⟩
 clear hS2
 have hs1:=uQ HL.out.next
 have hfr:=uQ HL.out.fresh
 have hln:=uQ HL.out.len
 unfold Seg.Log.begin1 at H1
 have Hnm:=uQ (Seg.name_size L1.next)
 by_cases hn:1048576≤L1.next
 ·have hfin:=uQ (H1.out.trans (if_pos hn))
  generalize L1.next=n at *
  go_wp2_with ((with_reducible refine at_store ⟨?_⟩);refine stQ ?_;intro wS hS)
  refine ⟨rfl,_,res_cell_tmp rfl aQ rQ pkD Tryz.underlying39 rfl kQ,_,rfl,?_,?_⟩
  ·rw [hfin.out];rfl
  ·rw [hfin.out];exact Sat.sb hS
 have H2:=uQ (H1.out.trans (if_neg hn))
 clear H1
 have Hn:=uQ hn
 have hnd:¬ 1048576≤L1.next:=hn
 clear hn
 have hnm:=sname_c L1.next hS3
 generalize hnn:L1.next=n at *
 have Hnn:=uQ hnn
 clear hnn
 go_wp2_with fail
 refine hnm.mono ?_
 rintro e w4 ⟨v,rfl,rfl,hS4⟩
 clear hnm hS3 hnd
 generalize Seg.name n=nm at *
 obtain ⟨lv,hR⟩:=LogRep.open2 (Sat.pk aQ)
 have e0:w4.cell? ⟨p,0,none⟩=some (ptr m):=hR.cellP pkD 0 rfl
 go_wp2_with fail
 refine (create_c HM.out oQ (Sat.pk aQ) nm Hnm.out).mono ?_
 rintro e w5 ⟨v,rfl,rfl,hS5⟩
 have HM2:=uQ (HM.out.create nm)
 clear hS4 hR e0
 generalize M1.create nm=C at *
 obtain ⟨M2,e2⟩:=C
 by_cases he:e2=0
 rotate_left
 ·have heb:(e2==0)=false:=beq_false_of_ne he
  have hfin:=uQ (H2.out.trans (if_pos he))
  clear he
  go_wp2_with ((with_reducible refine at_store ⟨?_⟩);refine stQ ?_;intro wS hS)
  refine ⟨rfl,_,res_cell_tmp rfl aQ rQ pkD Tryz.underlying39 rfl kQ,_,rfl,?_,?_⟩
  ·rw [hfin.out];rfl
  ·rw [hfin.out];exact LogRep.shut2 (lv:=lv) (Sat.sb hS)
 subst he
 have H3:=uQ (H2.out.trans (if_neg (fun h=>h rfl)))
 clear H2
 go_wp2_with fail
 refine wpL_begin [9,10] (fun w'=>w'.cell? ⟨p,0,none⟩=some (ptr m)) kQ ?_
 have hG:w5.drew.cell? ⟨p,0,none⟩=some (ptr m):=hS5.drew.cellP pkD 0 rfl
 refine rP 0 ?_ (y:=mvQ)
 refine rP 1 ?_ (y:=nlQ)
 refine rP 2 ?_ (y:=flQ)
 refine rt 3 (h:=?_)
 refine rP 4 ?_ (y:=mvQ)
 refine rP 7 ?_ (y:=mvQ)
 refine rg_eff 5 evD kQ (fun K hK=>?_)
 go_simp
 have hB1:=hS5.drew.alloc (.cells #[.int .u8 72,.int .u8 79,.int .u8 65,.int .u8 82,.int .u8 68,.int .u8 83,.int .u8 69,.int .u8 71] 5)
 refine hK _ _ (.inr (.inl (hB1.cellP pkD 0 rfl))) ?_
 clear hK K hG hB1
 refine rg_eff 6 evD kQ (fun K hK=>?_)
 have hcv:(convert 42 42 (.slice (some ⟨w5.heap.size,0,none⟩) 8 8)).run Tryz.prog ((w5.alloc (.cells #[.int .u8 72,.int .u8 79,.int .u8 65,.int .u8 82,.int .u8 68,.int .u8 83,.int .u8 69,.int .u8 71] 5)).drew) = .ok (.slice (some ⟨w5.heap.size,0,none⟩) 8 8) ((w5.alloc (.cells #[.int .u8 72,.int .u8 79,.int .u8 65,.int .u8 82,.int .u8 68,.int .u8 83,.int .u8 69,.int .u8 71] 5 (8,9))).drew):=
  Lib.run_convert_bytes_const (P:=Tryz.prog) w5.drew 42 5 #[.int .u8 72,.int .u8 79,.int .u8 65,.int .u8 82,.int .u8 68,.int .u8 83,.int .u8 69,.int .u8 71] 8 8 Tryz.underlying42 Tryz.underlying5
 have hB:=(hS5.alloc (.cells #[.int .u8 72,.int .u8 79,.int .u8 65,.int .u8 82,.int .u8 68,.int .u8 83,.int .u8 69,.int .u8 71] 5 (8,9))).drew
 go_simp
 refine hK _ _ (.inr (.inl (hB.cellP pkD 0 rfl))) ?_
 clear hK K
 have hrd:=Hr.out _ (hB.sb)
 have hold:rdsl 1 (.slice (some ⟨w5.heap.size,0,none⟩) 8 8) (bys Seg.mag) ((w5.alloc (.cells #[.int .u8 72,.int .u8 79,.int .u8 65,.int .u8 82,.int .u8 68,.int .u8 83,.int .u8 69,.int .u8 71] 5 (8,9))).drew):=by
  refine ⟨_,8,8,rfl,rfl,fun j x hj=>⟨_,rfl,?_⟩⟩
  rw [add_zero_lit]
  have hjl:j<Seg.mag.length:=by
   have:=(List.getElem?_eq_some_iff.1 hj).1
   rw [bys_len]at this;exact this
  have hx:=(mrow_set (l:=Seg.mag) hB hjl 0).1
  unfold bys at hj
  rw [List.getElem?_map,List.getElem?_eq_getElem hjl]at hj
  cases hj
  exact hx
 have hy0:bys b≠[]:=by
  intro h
  apply Hb0.out
  unfold bys at h
  exact List.map_eq_nil_iff.1 h
 have h63:(bys Seg.mag).length+(bys b).length≤maxLen:=by rw [bys_len,bys_len];have:=Hbl.out;unfold maxLen Seg.mag;simp;omega
 have hby:((bys Seg.mag).length+(bys b).length) * i.bytes≤140737488355328:=by rw [bys_len,bys_len,hz2];have:=Hbl.out;unfold Seg.mag;simp;omega
 refine rg_eff 8 evD kQ (fun K hK=>?_)
 refine step_append_fresh (w0:=w0) (xs:=bys Seg.mag) (b:=w5.heap.size) (n:=8) (cap:=8) rQ _ _ _ rQ _ i _ Tryz.underlying42 hi hz0 hz1 rQ rfl (Nat.le_refl _) hold hB.drop rQ rQ hrd hy0 h63 hby ?_
 intro b4 n4 k4 w6 hS6
 clear hcv hrd hold hy0 h63 hby hB
 have hS6:Sat w0 w6 (bsl (.slice (some ⟨b4,0,none⟩) n4 k4) (Seg.mag++b)::MedRep m M2::pt q (.cells #[.int .i64 0,.int .i64 0,.int .i64 0] 39)::logPt p m L1 lv::osl 145 2 lv (segw L1.l)::F):=by
  have e:bys Seg.mag++bys b=bys (Seg.mag++b):=by unfold bys;rw [List.map_append]
  rw [e]at hS6
  exact Sat.sb hS6
 refine hK _ _ (.inr (.inl (hS6.cellP pkD 0 rfl))) ?_
 clear hK K hS5
 refine rg_eff 9 evD kQ (fun K hK=>?_)
 (refine eff_call3 kQ evD evD evD ?_)
 refine (append_c HM2.out oQ (Sat.pk aQ) nm (Seg.mag++b) (by first|assumption|exact Ro.op (Ro.bsl _ _)|exact Ro.os aQ)).mono ?_
 rintro e w7 ⟨v,rfl,rfl,hS7⟩
 refine hK _ _ (.inl rfl) ?_
 clear hK K
 refine rP 10 ?_ (y:=asQ)
 refine wdQ ?_
 clear hS6
 have HM3:=uQ (HM2.out.append nm (Seg.mag++b))
 generalize M2.append nm (Seg.mag++b)=D at *
 obtain ⟨M3,e3⟩:=D
 by_cases he:e3=0
 ·subst he
  have hfin:=uQ (H3.out.trans (if_pos rfl))
  have c2:w7.cell? ⟨p,2,none⟩=some lv:=hS7.cellP pkD 2 rfl
  have hwl:IntKind.i64.wrap (8+(b.length:Int))=8+(b.length:Int):=by rw [IntKind.wrap_i64];have:=Hbl.out;omega
  obtain ⟨ii,hii,hy0,hy1,hy2⟩:=info_parts infoSeg
  have h7:=hS7.alloc (.cells #[.int .i64 n,.int .i64 (8+(b.length:Int))] 145)
  have hoc:∀ u∈(#[.int .i64 n,.int .i64 (8+(b.length:Int))]:Array Value).toList,u.oneCell'=true:=by
   intro u hu
   simp only [List.mem_cons,List.not_mem_nil,or_false]at hu
   rcases hu with rfl|rfl <;> rfl
  have h63:(segw L1.l).length+2≤maxLen:=by rw [segw_len];have:=hln.out;unfold maxLen;omega
  have hby:((segw L1.l).length+2) * ii.bytes≤140737488355328:=by rw [segw_len,hy2];have:=hln.out;omega
  have h8:Sat w0 _ (osl 145 2 lv (segw L1.l)::logPt p m L1 lv::pt q (.cells #[.int .i64 0,.int .i64 0,.int .i64 0] 39)::MedRep m M3::F):=h7.sb
  have hwf:IntKind.i64.wrap (L1.fresh+1)=L1.fresh+1:=by rw [IntKind.wrap_i64];have:=hfr.out;have:=hln.out;omega
  go_wp2_with (first
   |(at_builtin;refine wpList_append (w0:=w0) rQ _ _ _ rQ _ ii _ Tryz.underlying138 hii hy0 hy1 rQ oQ rQ rQ hoc h8 (rdsl_new _ _ _ 2 1 1 rQ) h63 hby ?_;intro v2 w8 hS8 hne;obtain ⟨ab,an,ac,rfl⟩:=hne (by simp);clear h8 h7 hS7 c2 hoc h63 hby hne)
   |((with_reducible refine at_load ⟨?_⟩);refine ldQ ?_)|((with_reducible refine at_store ⟨?_⟩);refine stQ ?_;intro wS hS))
  refine ⟨rfl,_,res_cell_tmp rfl aQ rQ pkD Tryz.underlying39 rfl kQ,_,rfl,?_,?_⟩
  ·rw [hfin.out];rfl
  ·rw [hfin.out]
   have e:segw L1.l++[.int .i64 n,.int .i64 (8+(b.length:Int))]=segw (L1.l++[(n,8+(b.length:Int))]):=segw_snoc _ _ _
   rw [e]at hS
   exact LogRep.shut2 (lv:= .slice (some ⟨ab,0,none⟩) an ac) (Sat.sb hS)
 have H4:=uQ (H3.out.trans (if_neg he))
 have heb:(e3==0)=false:=beq_false_of_ne he
 clear he H3
 by_cases he:e3=11
 ·subst he
  have H5:=uQ (H4.out.trans (if_pos rfl))
  have e0:w7.cell? ⟨p,0,none⟩=some (ptr m):=hS7.cellP pkD 0 rfl
  go_wp2_with fail
  refine (remove_c HM3.out oQ (Sat.pk aQ) nm).mono ?_
  rintro e w8 ⟨v,rfl,rfl,hS8⟩
  clear hS7 e0
  generalize M3.remove nm=E at *
  obtain ⟨M4,e4⟩:=E
  by_cases he:e4=0
  ·subst he
   go_wp2_with ((with_reducible refine at_store ⟨?_⟩);refine stQ ?_;intro wS hS)
   refine ⟨rfl,_,res_cell_tmp rfl aQ rQ pkD Tryz.underlying39 rfl kQ,_,rfl,?_,?_⟩
   ·rw [H5.out];rfl
   ·rw [H5.out];exact LogRep.shut2 (lv:=lv) (Sat.sb hS)
  ·have heb:(e4==0)=false:=beq_false_of_ne he
   have H6:=uQ (H5.out.trans (by rw [if_neg he]))
   clear he
   go_wp2_with ((with_reducible refine at_store ⟨?_⟩);refine stQ ?_;intro wS hS)
   refine ⟨rfl,_,res_cell_tmp rfl aQ rQ pkD Tryz.underlying39 rfl kQ,_,rfl,?_,?_⟩
   ·rw [H6.out];rfl
   ·rw [H6.out];exact LogRep.shut2 (lv:=lv) (Sat.sb hS)
 ·have hfin:=uQ (H4.out.trans (if_neg he))
  have heb2:(e3==11)=false:=beq_false_of_ne he
  clear he H4
  go_wp2_with ((with_reducible refine at_store ⟨?_⟩);refine stQ ?_;intro wS hS)
  refine ⟨rfl,_,res_cell_tmp rfl aQ rQ pkD Tryz.underlying39 rfl kQ,_,rfl,?_,?_⟩
  ·rw [hfin.out];rfl
  ·rw [hfin.out];exact LogRep.shut2 (lv:=lv) (Sat.sb hS)
end
end Go.Proofs.YtmjldaedhmipkaaGreatDoor
