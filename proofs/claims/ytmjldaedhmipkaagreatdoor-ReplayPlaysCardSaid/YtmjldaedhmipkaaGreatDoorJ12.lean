import Derived.Test.YtmjldaedhmipkaaGreatDoorJ11
set_option maxHeartbeats 128000000
set_option linter.unusedVariables false
namespace Go.Proofs.YtmjldaedhmipkaaGreatDoor
open Go Go.Sl Go.Med Go.MapKept Go.RowKit
abbrev rstPt (ps:Nat) (last:Int) (iv uv tv:Value):HProp:=pt ps (.cells #[.int .i64 last,iv,uv,tv] 207 (0,0))
section
variable {w0 w:World}{F:List HProp}{rv iv uv tv:Value}
set_option maxRecDepth 20000 in
theorem rfill_c (ps:Nat) (last:Int) (rs:List (Rep.Row×Value)) (us:List Rep.Use) (hk:∀ q∈rs,q.1.2.e.key.length=32) (hsl:∀ q∈rs,∃ a n c,q.2 = .slice a n c) (hlen:rs.length≤12000000) (hul:us.length≤1048576)
  (hsz:∀ q∈rs,(q.1.2.size:Int)≤4294967296) (hu0:∀ u∈us,u.live=0) (hr:Ro w0 F (rdsl 37 rv (rs.flatMap rwL)))
  (h:Sat w0 w (rstPt ps last (.slice none 0 0) uv tv::osl 115 3 uv (us.flatMap uenc)::F)) :
  Calls Tryz.prog 118 #[ptr ps,rv] w (Rtn fun _ w'=>∃ iv,Sat w0 w' (rstPt ps last iv uv tv::osl 117 35 iv ((Rep.idx (rs.map (·.1)) rs.length).flatMap kvL)::osl 115 3 uv ((Rep.uAt (rs.map (·.1)) us rs.length).flatMap uenc)::F)):=by
 obtain ⟨sa,sc,rfl⟩:=osl_rows (f:=rwL) (fun p hp=>rwL_len p (hk p hp)) (hr w h.drop.drop) dQ
 obtain ⟨ua,uc,rfl⟩:=osl_rows (l:=us) (f:=uenc) (k:=3) (fun u _=>rfl) (Sat.rd (h.pick pick1)) dQ
 have Hk:=uQ hk;have Hsl:=uQ hsl;have Hlen:=uQ hlen;have Hul:=uQ hul;have Hr:=uQ hr
 have Hll:=uQ (show (rs.map (·.1)).length=rs.length from List.length_map ..)
 have Hsz:=uQ (show ∀ r∈rs.map (·.1),(r.2.size:Int)≤4294967296 from fun r hr=>by obtain ⟨q,hq,rfl⟩:=List.mem_map.1 hr;exact hsz q hq)
 have Hu0:=uQ hu0
 have Hik:=uQ (fun n=>show ∀ q∈Rep.idx (rs.map (·.1)) n,q.1.length=32 from Rep.idx_key (fun r hr=>by obtain ⟨q,hq,rfl⟩:=List.mem_map.1 hr;exact hk q hq))
 have h1:Sat w0 w (rstPt ps last (.slice none 0 0) (.slice ua us.length uc) tv::osl 117 35 (.slice none 0 0) ((Rep.idx (rs.map (·.1)) 0).flatMap kvL)::osl 115 3 (.slice ua us.length uc) ((Rep.uAt (rs.map (·.1)) us 0).flatMap uenc)::F):=by
  rw [Rep.uAt_zero]
  exact (Sat.osl_nil.2 h).sb
 clear hk hsl hlen hul hr h hsz hu0
 go_enter Tryz.func118,Tryz.ntmps118
 go_wp2_with fail
 go_loopg [4] rs.length (fun g iq wr=>∃ (i:Nat) (iv:Value),g=rs.length - i∧i≤rs.length∧iq = .int .i64 i ∧
  Sat w0 wr (rstPt ps last iv (.slice ua us.length uc) tv::osl 117 35 iv ((Rep.idx (rs.map (·.1)) i).flatMap kvL)::osl 115 3 (.slice ua us.length uc) ((Rep.uAt (rs.map (·.1)) us i).flatMap uenc)::F))
 case atStart=>exact ⟨0,.slice none 0 0,rfl,Nat.zero_le _,rfl,h1⟩
 case round=>
  obtain ⟨i,iv,rfl,hi,rfl,hS⟩:=hrel
  clear h1
  by_cases hlt:i<rs.length
  rotate_left
  ·obtain rfl:i=rs.length:=by omega
   have c1:¬ (rs.length:Int)<(rs.length:Int):=oQ
   clear hlt hi
   go_wp2_with fail
   (try simp only [Exit.inBlock,Exit.then]);refine bodyPost_ret (results_none rfl _ _ _) rfl ?_
   exact ⟨_,rfl,iv,hS⟩
  have c1:(i:Int)<(rs.length:Int):=oQ
  have hwi:IntKind.i64.wrap ((i:Int)+1)=(i:Int)+1:=IntWalk.i64_in _ (by have:=Hlen.out;omega)
  obtain ⟨q,hq⟩:∃ q,rs[i]?=some q:=⟨_,List.getElem?_eq_getElem hlt⟩
  obtain ⟨bk,off,c',e0,hc⟩:=row_at Hk.out (Hr.out _ hS.drop.drop.drop) hq
  cases e0
  have hqm:=List.mem_of_getElem? hq
  have Hqk:=uQ (Hk.out q hqm)
  have Hql:=uQ (rwL_len q Hqk.out)
  have Hqo:=uQ (show (rwL q).all (·.oneCell')=true by obtain ⟨a,n,c,e⟩:=Hsl.out q hqm;exact rwL_ones q e)
  have hq1:(rs.map (·.1))[i]?=some q.1:=by rw [List.getElem?_map,hq];rfl
  have Hq1:=uQ hq1
  have Hlt:=uQ hlt
  have Hqz:=uQ (Hsz.out q.1 (List.mem_of_getElem? hq1))
  clear hq hqm hq1 hi hlt
  go_wp2_with (first
   |((with_reducible refine at_load ⟨?_⟩);refine wl_loadW (b:=bk) (o:=off+i * 37) (rwL q) rQ hc Tryz.underlying212 rfl (by rw [Hql.out];exact infoRow) ?_)
   |(with_reducible apply at_alloc))
  refine ⟨wl_alloc zRow hS rfl ?_⟩
  intro b5 w5 h5
  go_wp2_with ((with_reducible refine at_store ⟨?_⟩);refine wl_storeA (rwL q).toArray h5 rQ rQ (by rw [List.size_toArray,Hql.out];rfl) upd0 (by rw [List.size_toArray,Hql.out];exact infoRow) (by rw [List.toList_toArray];exact Hqo.out) ?_;intro w6 h6)
  clear hS h5 hc
  have hcn:=rcounts_c rs Hk.out Hsl.out i Hlt.out (Nat.le_trans Hlen.out dQ) (Ro.os Hr.out) h6
  refine hcn.mono ?_
  rintro ee w7 ⟨v,rfl,rfl,h7⟩
  clear hcn h6
  cases hcnt:Rep.cnt (rs.map (·.1)) i with
  |false=>
   have He1:=uQ (Rep.idx_skip Hq1.out hcnt)
   have He2:=uQ (Rep.uAt_skip (us:=us) Hq1.out hcnt)
   clear hcnt
   go_wp2_with fail
   go_roundg (rs.length - (i+1))
   case measure=>have:=Hlt.out;omega
   case rel=>exact ⟨i+1,iv,rfl,Hlt.out,by first|rfl|go_num,by rw [He1.out,He2.out];exact h7.sb⟩
  |true=>
  have Hcnt:=uQ hcnt
  clear hcnt
  have fin:∀ (w8:World) (iv2:Value),Sat w0 w8 (pt b5 (.cells (rwL q).toArray 212 (0,0))::rstPt ps last iv2 (.slice ua us.length uc) tv::osl 117 35 iv2 ((Rep.idx (rs.map (·.1)) (i+1)).flatMap kvL)::osl 115 3 (.slice ua us.length uc) ((Rep.uMix (rs.map (·.1)) us i us.length).flatMap uenc)::F) →
    Sat w0 w8 (rstPt ps last iv2 (.slice ua us.length uc) tv::osl 117 35 iv2 ((Rep.idx (rs.map (·.1)) (i+1)).flatMap kvL)::osl 115 3 (.slice ua us.length uc) ((Rep.uAt (rs.map (·.1)) us (i+1)).flatMap uenc)::F):=fun w8 iv2 hw=>by
   rw [Rep.uMix_all]at hw;exact hw.drop
  have Hfin:=uQ fin
  clear fin
  have e1:w7.cell? ⟨b5,1,none⟩=some (.int .i64 q.1.2.e.tag):=h7.cellP pick0 1 (by rw [List.getElem?_toArray];exact rwL_tag q)
  obtain ⟨r1,r2⟩:=rwL_at q Hqk.out
  have R1:=uQ r1;have R2:=uQ r2
  clear r1 r2
  by_cases h0:q.1.2.e.tag=0
  ·have hb0:(q.1.2.e.tag==0)=true:=beq_iff_eq.2 h0
   have Hidx:=uQ (Rep.idx_put Hq1.out Hcnt.out h0)
   clear h0
   go_wp2_with fail
   have h8:=h7.drew
   clear h7 e1
   have hki:∀ q∈Rep.idx (rs.map (·.1)) i,q.1.length=32:=Hik.out i
   refine wpL_begin [19,20,21,22] (fun w'=>w'.cell? ⟨ps,1,none⟩=some iv∧w'.rangeAt b5 2 (bys q.1.2.e.key)∧w'.cell? ⟨b5,0,none⟩=some (.int .i64 q.1.1)∧w'.cell? ⟨b5,35,none⟩=some (.int .i64 q.1.2.at_)∧w'.cell? ⟨b5,36,none⟩=some (.int .i64 q.1.2.size)) kQ ?_
   have hG:World.cell? _ ⟨ps,1,none⟩=some iv∧World.rangeAt _ b5 2 (bys q.1.2.e.key)∧World.cell? _ ⟨b5,0,none⟩=some (.int .i64 q.1.1)∧World.cell? _ ⟨b5,35,none⟩=some (.int .i64 q.1.2.at_)∧World.cell? _ ⟨b5,36,none⟩=some (.int .i64 q.1.2.size):=
    ⟨h8.cellP pick1 1 rfl,fun j v hj=>h8.cellP pick0 (2+j) (by rw [List.getElem?_toArray];exact rwL_key q Hqk.out j v hj),h8.cellP pick0 0 (by rw [List.getElem?_toArray];rfl),h8.cellP pick0 35 (by rw [List.getElem?_toArray];exact R1.out),h8.cellP pick0 36 (by rw [List.getElem?_toArray];exact R2.out)⟩
   refine rP 0 ?_ (y:=mvQ)
   refine rP 1 ?_ (y:=mvQ)
   refine rP 2 ?_ (y:=nlQ)
   refine rP 3 ?_ (y:=flQ)
   refine rt 4 (h:=?_)
   refine rP 5 ?_ (y:=flQ)
   refine rP 6 ?_ (y:=flQ)
   refine rP 7 ?_ (y:=flQ)
   refine rg_take 8 evD kQ iQ (tk_loadN (b:=b5) (o:=2) (bys q.1.2.e.key) rQ Tryz.underlying41 rfl (by rw [bys_len,Hqk.out];exact infoID) (fun w hw=>hw.2.1)) aQ gQ ?_
   refine rP 9 ?_ (y:=flQ)
   refine rt 10 (h:=?_)
   refine rP 11 ?_ (y:=flQ)
   refine rP 12 ?_ (y:=flQ)
   refine rt 13 (h:=?_)
   refine rP 14 ?_ (y:=flQ)
   refine rP 15 ?_ (y:=flQ)
   refine rt 16 (h:=?_)
   clear hG
   refine rp 17 (hy:=(by (refine Or.inl ⟨by rfl,?_⟩;((intro wq;go_simp);first|done|exact wQ)))) (h:=?_)
   refine rp 18 (hy:=(yl_build2 (v2:= .agg #[.int .i64 q.1.1,.int .i64 q.1.2.at_,.int .i64 q.1.2.size]) evD evD (fun w=>run_kv q.1.2.e.key Hqk.out (Rep.rplc q.1) w))) (h:=?_)
   refine rg_eff 19 evD kQ (fun K hK=>?_)
   refine eff_call2 kQ evD evD ?_
   refine (rinsert_c (Rep.idx (rs.map (·.1)) i) hki (q.1.2.e.key,Rep.rplc q.1) Hqk.out (by have:=Rep.idx_len (rs.map (·.1)) i;have:=Hlt.out;have:=Hlen.out;omega) (fun w hw=>Sat.rd (hw.pick (pick_there (pick_there pick0)))) h8).mono ?_
   rintro ee w9 ⟨v,rfl,ov,rfl,h9⟩
   refine hK _ _ (.inl rfl) ?_
   clear hK h8
   obtain ⟨oa,on,oc,rfl,_⟩:=id (Sat.rd h9)
   refine rP 20 ?_ (y:=nlQ)
   refine rP 21 ?_ (y:=flQ)
   refine rg_eff 22 evD kQ (fun K hK=>?_)
   refine eff_store (cs':=#[.int .i64 last,.slice oa on oc,.slice ua us.length uc,tv]) h9 evD evD rQ (upd_there (upd_there upd0)) (by show 1+1≤4;decide) kQ rQ ?_
   intro w10 h10
   refine hK _ _ (.inl rfl) ?_
   clear hK h9
   refine wdQ ?_
   try simp only [ayQ]
   try go_frame
   have h11:Sat w0 w10 (pt b5 (.cells (rwL q).toArray 212 (0,0))::rstPt ps last (.slice oa on oc) (.slice ua us.length uc) tv::osl 117 35 (.slice oa on oc) ((Rep.idx (rs.map (·.1)) (i+1)).flatMap kvL)::osl 115 3 (.slice ua us.length uc) ((Rep.uMix (rs.map (·.1)) us i 0).flatMap uenc)::F):=by
    rw [Rep.uMix_zero,Hidx.out]
    exact h10.sb
   clear h10 hki
   go_wp2_with fail
   go_loopg [6] us.length (fun g kq wr=>∃ k:Nat,g=us.length - k∧k≤us.length∧kq = .int .i64 k ∧
    Sat w0 wr (pt b5 (.cells (rwL q).toArray 212 (0,0))::rstPt ps last (.slice oa on oc) (.slice ua us.length uc) tv::osl 117 35 (.slice oa on oc) ((Rep.idx (rs.map (·.1)) (i+1)).flatMap kvL)::osl 115 3 (.slice ua us.length uc) ((Rep.uMix (rs.map (·.1)) us i k).flatMap uenc)::F))
   case atStart=>exact ⟨0,rfl,Nat.zero_le _,rfl,h11⟩
   case round=>
    obtain ⟨k,rfl,hki,rfl,hS⟩:=hrel
    clear h11
    have e2:World.cell? _ ⟨ps,2,none⟩=some (.slice ua us.length uc):=hS.cellP pick1 2 rfl
    by_cases hkl:k<us.length
    rotate_left
    ·obtain rfl:k=us.length:=by omega
     have c2:¬ (us.length:Int)<(us.length:Int):=oQ
     have hSf:=Hfin.out _ _ hS
     clear hkl hki hS
     go_wp2_with fail
     go_roundg (rs.length - (i+1))
     case measure=>have:=Hlt.out;omega
     case rel=>exact ⟨i+1,.slice oa on oc,rfl,Hlt.out,by first|rfl|go_num,hSf⟩
    have c2:(k:Int)<(us.length:Int):=oQ
    have hwk:IntKind.i64.wrap ((k:Int)+1)=(k:Int)+1:=IntWalk.i64_in _ (by have:=Hul.out;omega)
    obtain ⟨u,hu⟩:∃ u,us[k]?=some u:=⟨_,List.getElem?_eq_getElem hkl⟩
    have hx:=Rep.uMix_get (l:=rs.map (·.1)) (i:=i) hu
    have hrl:((Rep.uMix (rs.map (·.1)) us i k).flatMap uenc).length=3 * us.length:=by rw [rows_len (k:=3) (f:=uenc) fun u _=>rfl,Rep.uMix_len]
    obtain ⟨bu,ou,cu,hsv,_⟩:=osl_row (f:=uenc) (k:=3) (fun u _=>rfl) (Sat.rd (hS.pick (pick_there (pick_there (pick_there pick0))))) hx dQ
    rw [Rep.uMix_len]at hsv
    cases hsv
    rcases Sat.osl_cases (hS.pick (pick_there (pick_there (pick_there pick0)))) with ⟨e,_⟩|⟨g',n',cap',cs',e,_⟩
    ·cases e
    obtain rfl:ou=0:=by injection e with e1;injection e1 with e2;injection e2
    clear e
    obtain ⟨bu',rfl⟩:∃ g,g=bu:=⟨_,rfl⟩
    have HC:=uQ (fun (w':World) (R':List HProp) (hw:Sat w0 w' (osl 115 3 (.slice (some ⟨bu',0,none⟩) us.length uc) ((Rep.uMix (rs.map (·.1)) us i k).flatMap uenc)::R'))=>show w'.cell? ⟨bu',k * 3,none⟩=some (.int .i64 u.seg)∧w'.cell? ⟨bu',k * 3+2,none⟩=some (.int .i64 (u.live+Rep.live (rs.map (·.1)) u.seg i)) from by
     obtain ⟨b',o',c',hsv,hcell⟩:=osl_row (f:=uenc) (k:=3) (fun u _=>rfl) (Sat.rd hw) hx dQ
     rw [Rep.uMix_len]at hsv
     cases hsv
     have h0:=hcell 0 _ rfl
     have h2:=hcell 2 _ rfl
     rw [Nat.zero_add]at h0 h2
     exact ⟨h0,h2⟩)
    have hlv0:=Hu0.out u (List.mem_of_getElem? hu)
    have hlb:=Rep.live_le (b:=4294967296) dQ Hsz.out u.seg i
    have hqz:=Hqz.out;have hlen:=Hlen.out;have hlt:=Hlt.out
    have hw1:IntKind.i64.wrap (u.live+Rep.live (rs.map (·.1)) u.seg i+(q.1.2.size:Int))=u.live+Rep.live (rs.map (·.1)) u.seg i+(q.1.2.size:Int):=IntWalk.i64_in _ oQ
    have Hkl:=uQ hkl;have Hu:=uQ hu
    have Hrl:=uQ hrl
    have Hrow:=uQ (rows_part (f:=uenc) (k:=3) (o:=2) (x':=⟨u.seg,u.size,u.live+Rep.live (rs.map (·.1)) u.seg i+(q.1.2.size:Int)⟩) (vs:=[.int .i64 (u.live+Rep.live (rs.map (·.1)) u.seg i+(q.1.2.size:Int))]) (fun u _=>rfl) hx rQ (by show 2+1≤3;decide))
    clear hx hrl hki hkl hu hlv0 hlb hqz hlen hlt
    go_wp2_with fail
    have hS1:=hS.drew
    clear hS e2
    have hcu:=HC.out _ _ (hS1.pick (pick_there (pick_there (pick_there pick0))))
    by_cases hsg:u.seg=q.1.1
    ·have hbs:(u.seg==q.1.1)=true:=beq_iff_eq.2 hsg
     have Hnext:=uQ (Rep.uMix_add Hu.out Hq1.out Hcnt.out hsg.symm)
     refine wpL_begin [10] (fun w'=>w'.cell? ⟨ps,2,none⟩=some (.slice (some ⟨bu',0,none⟩) us.length uc)∧w'.cell? ⟨bu',k * 3,none⟩=some (.int .i64 u.seg)∧w'.cell? ⟨b5,0,none⟩=some (.int .i64 q.1.1)) kQ ?_
     have hG:World.cell? _ ⟨ps,2,none⟩=some (.slice (some ⟨bu',0,none⟩) us.length uc)∧World.cell? _ ⟨bu',k * 3,none⟩=some (.int .i64 u.seg)∧World.cell? _ ⟨b5,0,none⟩=some (.int .i64 q.1.1):=
      ⟨hS1.cellP pick1 2 rfl,hcu.1,hS1.cellP pick0 0 (by rw [List.getElem?_toArray];rfl)⟩
     clear hsg hcu
     refine rP 0 ?_ (y:=mvQ)
     refine rP 1 ?_ (y:=nlQ)
     refine rP 2 ?_ (y:=flQ)
     refine rt 3 (h:=?_)
     refine rP 4 ?_ (y:=mvQ)
     refine rP 5 ?_ (y:=ixQ)
     refine rP 6 ?_ (y:=flQ)
     refine rt 7 (h:=?_)
     refine rP 8 ?_ (y:=flQ)
     refine rt 9 (h:=?_)
     clear hG
     refine rP 10 ?_ (y:=bnQ)
     refine wdQ ?_
     try simp only [ayQ]
     try go_frame
     clear hbs
     go_wp2_with fail
     have hS2:=hS1.drew
     clear hS1
     have hcu:=HC.out _ _ (hS2.pick (pick_there (pick_there (pick_there pick0))))
     refine wpL_begin [17,18,19] (fun w'=>w'.cell? ⟨ps,2,none⟩=some (.slice (some ⟨bu',0,none⟩) us.length uc)∧w'.cell? ⟨bu',k * 3+2,none⟩=some (.int .i64 (u.live+Rep.live (rs.map (·.1)) u.seg i))∧w'.cell? ⟨b5,36,none⟩=some (.int .i64 q.1.2.size)) kQ ?_
     have hG:World.cell? _ ⟨ps,2,none⟩=some (.slice (some ⟨bu',0,none⟩) us.length uc)∧World.cell? _ ⟨bu',k * 3+2,none⟩=some (.int .i64 (u.live+Rep.live (rs.map (·.1)) u.seg i))∧World.cell? _ ⟨b5,36,none⟩=some (.int .i64 q.1.2.size):=
      ⟨hS2.cellP pick1 2 rfl,hcu.2,hS2.cellP pick0 36 (by rw [List.getElem?_toArray];exact R2.out)⟩
     clear hcu
     refine rP 0 ?_ (y:=mvQ)
     refine rP 1 ?_ (y:=nlQ)
     refine rP 2 ?_ (y:=flQ)
     refine rt 3 (h:=?_)
     refine rP 4 ?_ (y:=mvQ)
     refine rP 5 ?_ (y:=mvQ)
     refine rP 6 ?_ (y:=nlQ)
     refine rP 7 ?_ (y:=flQ)
     refine rt 8 (h:=?_)
     refine rP 9 ?_ (y:=mvQ)
     refine rP 10 ?_ (y:=ixQ)
     refine rP 11 ?_ (y:=flQ)
     refine rt 12 (h:=?_)
     refine rP 13 ?_ (y:=flQ)
     refine rP 14 ?_ (y:=flQ)
     refine rt 15 (h:=?_)
     clear hG
     refine rP 16 ?_ (y:=bnQ)
     refine rP 17 ?_ (y:=ixQ)
     refine rP 18 ?_ (y:=flQ)
     refine rg_eff 19 evD kQ (fun K' hK'=>?_)
     refine eff_storeSN (vs:=[.int .i64 (u.live+Rep.live (rs.map (·.1)) u.seg i+(q.1.2.size:Int))]) (k * 3+2) hS2 evD evD rfl (upd_there (upd_there (upd_there upd0))) (by rw [Hrl.out];have:=Hkl.out;show k * 3+2+1≤_;omega) kQ rQ ?_
     intro w12 hS12
     refine hK' _ _ (.inl rfl) ?_
     clear hK' hS2
     refine wdQ ?_
     rw [← Hrow.out,← Hnext.out]at hS12
     go_wp2_with fail
     go_roundg (us.length - (k+1))
     case measure=>have:=Hkl.out;omega
     case rel=>exact ⟨k+1,rfl,Hkl.out,by first|rfl|go_num,hS12⟩
    ·have hbs:(u.seg==q.1.1)=false:=by rw [beq_eq_false_iff_ne];exact hsg
     have Hnext:=uQ (Rep.uMix_same Hu.out Hq1.out (fun e=>hsg e.symm))
     refine wpL_begin [10] (fun w'=>w'.cell? ⟨ps,2,none⟩=some (.slice (some ⟨bu',0,none⟩) us.length uc)∧w'.cell? ⟨bu',k * 3,none⟩=some (.int .i64 u.seg)∧w'.cell? ⟨b5,0,none⟩=some (.int .i64 q.1.1)) kQ ?_
     have hG:World.cell? _ ⟨ps,2,none⟩=some (.slice (some ⟨bu',0,none⟩) us.length uc)∧World.cell? _ ⟨bu',k * 3,none⟩=some (.int .i64 u.seg)∧World.cell? _ ⟨b5,0,none⟩=some (.int .i64 q.1.1):=
      ⟨hS1.cellP pick1 2 rfl,hcu.1,hS1.cellP pick0 0 (by rw [List.getElem?_toArray];rfl)⟩
     clear hsg hcu
     refine rP 0 ?_ (y:=mvQ)
     refine rP 1 ?_ (y:=nlQ)
     refine rP 2 ?_ (y:=flQ)
     refine rt 3 (h:=?_)
     refine rP 4 ?_ (y:=mvQ)
     refine rP 5 ?_ (y:=ixQ)
     refine rP 6 ?_ (y:=flQ)
     refine rt 7 (h:=?_)
     refine rP 8 ?_ (y:=flQ)
     refine rt 9 (h:=?_)
     clear hG
     refine rP 10 ?_ (y:=bnQ)
     refine wdQ ?_
     try simp only [ayQ]
     try go_frame
     clear hbs
     go_wp2_with fail
     go_roundg (us.length - (k+1))
     case measure=>have:=Hkl.out;omega
     case rel=>exact ⟨k+1,rfl,Hkl.out,by first|rfl|go_num,by rw [Hnext.out];exact hS1⟩
  ·have hb0:(q.1.2.e.tag==0)=false:=by rw [beq_eq_false_iff_ne];exact h0
   have Hidx:=uQ (Rep.idx_del Hq1.out h0)
   clear h0
   obtain ⟨oa,on,oc,rfl,_⟩:=id (Sat.rd (h7.pick (pick_there (pick_there pick0))))
   have h11:Sat w0 w7 (pt b5 (.cells (rwL q).toArray 212 (0,0))::rstPt ps last (.slice oa on oc) (.slice ua us.length uc) tv::osl 117 35 (.slice oa on oc) ((Rep.idx (rs.map (·.1)) (i+1)).flatMap kvL)::osl 115 3 (.slice ua us.length uc) ((Rep.uMix (rs.map (·.1)) us i 0).flatMap uenc)::F):=by
    rw [Rep.uMix_zero,Hidx.out]
    exact h7
   clear h7
   go_wp2_with fail
   clear e1
   go_loopg [6] us.length (fun g kq wr=>∃ k:Nat,g=us.length - k∧k≤us.length∧kq = .int .i64 k ∧
    Sat w0 wr (pt b5 (.cells (rwL q).toArray 212 (0,0))::rstPt ps last (.slice oa on oc) (.slice ua us.length uc) tv::osl 117 35 (.slice oa on oc) ((Rep.idx (rs.map (·.1)) (i+1)).flatMap kvL)::osl 115 3 (.slice ua us.length uc) ((Rep.uMix (rs.map (·.1)) us i k).flatMap uenc)::F))
   case atStart=>exact ⟨0,rfl,Nat.zero_le _,rfl,h11⟩
   case round=>
    obtain ⟨k,rfl,hki,rfl,hS⟩:=hrel
    clear h11
    have e2:World.cell? _ ⟨ps,2,none⟩=some (.slice ua us.length uc):=hS.cellP pick1 2 rfl
    by_cases hkl:k<us.length
    rotate_left
    ·obtain rfl:k=us.length:=by omega
     have c2:¬ (us.length:Int)<(us.length:Int):=oQ
     have hSf:=Hfin.out _ _ hS
     clear hkl hki hS
     go_wp2_with fail
     go_roundg (rs.length - (i+1))
     case measure=>have:=Hlt.out;omega
     case rel=>exact ⟨i+1,.slice oa on oc,rfl,Hlt.out,by first|rfl|go_num,hSf⟩
    have c2:(k:Int)<(us.length:Int):=oQ
    have hwk:IntKind.i64.wrap ((k:Int)+1)=(k:Int)+1:=IntWalk.i64_in _ (by have:=Hul.out;omega)
    obtain ⟨u,hu⟩:∃ u,us[k]?=some u:=⟨_,List.getElem?_eq_getElem hkl⟩
    have hx:=Rep.uMix_get (l:=rs.map (·.1)) (i:=i) hu
    have hrl:((Rep.uMix (rs.map (·.1)) us i k).flatMap uenc).length=3 * us.length:=by rw [rows_len (k:=3) (f:=uenc) fun u _=>rfl,Rep.uMix_len]
    obtain ⟨bu,ou,cu,hsv,_⟩:=osl_row (f:=uenc) (k:=3) (fun u _=>rfl) (Sat.rd (hS.pick (pick_there (pick_there (pick_there pick0))))) hx dQ
    rw [Rep.uMix_len]at hsv
    cases hsv
    rcases Sat.osl_cases (hS.pick (pick_there (pick_there (pick_there pick0)))) with ⟨e,_⟩|⟨g',n',cap',cs',e,_⟩
    ·cases e
    obtain rfl:ou=0:=by injection e with e1;injection e1 with e2;injection e2
    clear e
    obtain ⟨bu',rfl⟩:∃ g,g=bu:=⟨_,rfl⟩
    have HC:=uQ (fun (w':World) (R':List HProp) (hw:Sat w0 w' (osl 115 3 (.slice (some ⟨bu',0,none⟩) us.length uc) ((Rep.uMix (rs.map (·.1)) us i k).flatMap uenc)::R'))=>show w'.cell? ⟨bu',k * 3,none⟩=some (.int .i64 u.seg)∧w'.cell? ⟨bu',k * 3+2,none⟩=some (.int .i64 (u.live+Rep.live (rs.map (·.1)) u.seg i)) from by
     obtain ⟨b',o',c',hsv,hcell⟩:=osl_row (f:=uenc) (k:=3) (fun u _=>rfl) (Sat.rd hw) hx dQ
     rw [Rep.uMix_len]at hsv
     cases hsv
     have h0:=hcell 0 _ rfl
     have h2:=hcell 2 _ rfl
     rw [Nat.zero_add]at h0 h2
     exact ⟨h0,h2⟩)
    have hlv0:=Hu0.out u (List.mem_of_getElem? hu)
    have hlb:=Rep.live_le (b:=4294967296) dQ Hsz.out u.seg i
    have hqz:=Hqz.out;have hlen:=Hlen.out;have hlt:=Hlt.out
    have hw1:IntKind.i64.wrap (u.live+Rep.live (rs.map (·.1)) u.seg i+(q.1.2.size:Int))=u.live+Rep.live (rs.map (·.1)) u.seg i+(q.1.2.size:Int):=IntWalk.i64_in _ oQ
    have Hkl:=uQ hkl;have Hu:=uQ hu
    have Hrl:=uQ hrl
    have Hrow:=uQ (rows_part (f:=uenc) (k:=3) (o:=2) (x':=⟨u.seg,u.size,u.live+Rep.live (rs.map (·.1)) u.seg i+(q.1.2.size:Int)⟩) (vs:=[.int .i64 (u.live+Rep.live (rs.map (·.1)) u.seg i+(q.1.2.size:Int))]) (fun u _=>rfl) hx rQ (by show 2+1≤3;decide))
    clear hx hrl hki hkl hu hlv0 hlb hqz hlen hlt
    go_wp2_with fail
    have hS1:=hS.drew
    clear hS e2
    have hcu:=HC.out _ _ (hS1.pick (pick_there (pick_there (pick_there pick0))))
    by_cases hsg:u.seg=q.1.1
    ·have hbs:(u.seg==q.1.1)=true:=beq_iff_eq.2 hsg
     have Hnext:=uQ (Rep.uMix_add Hu.out Hq1.out Hcnt.out hsg.symm)
     refine wpL_begin [10] (fun w'=>w'.cell? ⟨ps,2,none⟩=some (.slice (some ⟨bu',0,none⟩) us.length uc)∧w'.cell? ⟨bu',k * 3,none⟩=some (.int .i64 u.seg)∧w'.cell? ⟨b5,0,none⟩=some (.int .i64 q.1.1)) kQ ?_
     have hG:World.cell? _ ⟨ps,2,none⟩=some (.slice (some ⟨bu',0,none⟩) us.length uc)∧World.cell? _ ⟨bu',k * 3,none⟩=some (.int .i64 u.seg)∧World.cell? _ ⟨b5,0,none⟩=some (.int .i64 q.1.1):=
      ⟨hS1.cellP pick1 2 rfl,hcu.1,hS1.cellP pick0 0 (by rw [List.getElem?_toArray];rfl)⟩
     clear hsg hcu
     refine rP 0 ?_ (y:=mvQ)
     refine rP 1 ?_ (y:=nlQ)
     refine rP 2 ?_ (y:=flQ)
     refine rt 3 (h:=?_)
     refine rP 4 ?_ (y:=mvQ)
     refine rP 5 ?_ (y:=ixQ)
     refine rP 6 ?_ (y:=flQ)
     refine rt 7 (h:=?_)
     refine rP 8 ?_ (y:=flQ)
     refine rt 9 (h:=?_)
     clear hG
     refine rP 10 ?_ (y:=bnQ)
     refine wdQ ?_
     try simp only [ayQ]
     try go_frame
     clear hbs
     go_wp2_with fail
     have hS2:=hS1.drew
     clear hS1
     have hcu:=HC.out _ _ (hS2.pick (pick_there (pick_there (pick_there pick0))))
     refine wpL_begin [17,18,19] (fun w'=>w'.cell? ⟨ps,2,none⟩=some (.slice (some ⟨bu',0,none⟩) us.length uc)∧w'.cell? ⟨bu',k * 3+2,none⟩=some (.int .i64 (u.live+Rep.live (rs.map (·.1)) u.seg i))∧w'.cell? ⟨b5,36,none⟩=some (.int .i64 q.1.2.size)) kQ ?_
     have hG:World.cell? _ ⟨ps,2,none⟩=some (.slice (some ⟨bu',0,none⟩) us.length uc)∧World.cell? _ ⟨bu',k * 3+2,none⟩=some (.int .i64 (u.live+Rep.live (rs.map (·.1)) u.seg i))∧World.cell? _ ⟨b5,36,none⟩=some (.int .i64 q.1.2.size):=
      ⟨hS2.cellP pick1 2 rfl,hcu.2,hS2.cellP pick0 36 (by rw [List.getElem?_toArray];exact R2.out)⟩
     clear hcu
     refine rP 0 ?_ (y:=mvQ)
     refine rP 1 ?_ (y:=nlQ)
     refine rP 2 ?_ (y:=flQ)
     refine rt 3 (h:=?_)
     refine rP 4 ?_ (y:=mvQ)
     refine rP 5 ?_ (y:=mvQ)
     refine rP 6 ?_ (y:=nlQ)
     refine rP 7 ?_ (y:=flQ)
     refine rt 8 (h:=?_)
     refine rP 9 ?_ (y:=mvQ)
     refine rP 10 ?_ (y:=ixQ)
     refine rP 11 ?_ (y:=flQ)
     refine rt 12 (h:=?_)
     refine rP 13 ?_ (y:=flQ)
     refine rP 14 ?_ (y:=flQ)
     refine rt 15 (h:=?_)
     clear hG
     refine rP 16 ?_ (y:=bnQ)
     refine rP 17 ?_ (y:=ixQ)
     refine rP 18 ?_ (y:=flQ)
     refine rg_eff 19 evD kQ (fun K' hK'=>?_)
     refine eff_storeSN (vs:=[.int .i64 (u.live+Rep.live (rs.map (·.1)) u.seg i+(q.1.2.size:Int))]) (k * 3+2) hS2 evD evD rfl (upd_there (upd_there (upd_there upd0))) (by rw [Hrl.out];have:=Hkl.out;show k * 3+2+1≤_;omega) kQ rQ ?_
     intro w12 hS12
     refine hK' _ _ (.inl rfl) ?_
     clear hK' hS2
     refine wdQ ?_
     rw [← Hrow.out,← Hnext.out]at hS12
     go_wp2_with fail
     go_roundg (us.length - (k+1))
     case measure=>have:=Hkl.out;omega
     case rel=>exact ⟨k+1,rfl,Hkl.out,by first|rfl|go_num,hS12⟩
    ·have hbs:(u.seg==q.1.1)=false:=by rw [beq_eq_false_iff_ne];exact hsg
     have Hnext:=uQ (Rep.uMix_same Hu.out Hq1.out (fun e=>hsg e.symm))
     refine wpL_begin [10] (fun w'=>w'.cell? ⟨ps,2,none⟩=some (.slice (some ⟨bu',0,none⟩) us.length uc)∧w'.cell? ⟨bu',k * 3,none⟩=some (.int .i64 u.seg)∧w'.cell? ⟨b5,0,none⟩=some (.int .i64 q.1.1)) kQ ?_
     have hG:World.cell? _ ⟨ps,2,none⟩=some (.slice (some ⟨bu',0,none⟩) us.length uc)∧World.cell? _ ⟨bu',k * 3,none⟩=some (.int .i64 u.seg)∧World.cell? _ ⟨b5,0,none⟩=some (.int .i64 q.1.1):=
      ⟨hS1.cellP pick1 2 rfl,hcu.1,hS1.cellP pick0 0 (by rw [List.getElem?_toArray];rfl)⟩
     clear hsg hcu
     refine rP 0 ?_ (y:=mvQ)
     refine rP 1 ?_ (y:=nlQ)
     refine rP 2 ?_ (y:=flQ)
     refine rt 3 (h:=?_)
     refine rP 4 ?_ (y:=mvQ)
     refine rP 5 ?_ (y:=ixQ)
     refine rP 6 ?_ (y:=flQ)
     refine rt 7 (h:=?_)
     refine rP 8 ?_ (y:=flQ)
     refine rt 9 (h:=?_)
     clear hG
     refine rP 10 ?_ (y:=bnQ)
     refine wdQ ?_
     try simp only [ayQ]
     try go_frame
     clear hbs
     go_wp2_with fail
     go_roundg (us.length - (k+1))
     case measure=>have:=Hkl.out;omega
     case rel=>exact ⟨k+1,rfl,Hkl.out,by first|rfl|go_num,by rw [Hnext.out];exact hS1⟩
end
section
variable {P:Program}{ops:Array Oper}{a:Act}{dst:Option Tmp}{t ty:TypeId}{pos:String}{after:Array Edge}{x y:Operand}{v vx vy:Value}{g:Option (Nat×Bool)}
theorem yg_slice_hi (hw:Region.wanted ⟨dst,.slice ty x none (some y) none,t,pos,after,g⟩ (yielded ops a.tmps)=true) (hx:a.eval x=vx) (hy:a.eval y=vy) (hr:∀ w,(Instr.sliceAt ty vx none (some vy) none).run P w = .ok v w):Yields P ops ⟨dst,.slice ty x none (some y) none,t,pos,after,g⟩ v a:=
 .inl ⟨hw,fun w=>by simp only [execOp,hx,hy,Option.map_some,Option.map_none,Sem.run_bind,hr,Result.andThen_ok,Sem.run_pure]⟩
end
section
variable {w0 w:World}{F R:List HProp}{v bv dv x lv:Value}
theorem rdslB_take {l:Bs}{bk off n c:Nat}{w:World} (h:rdsl 1 (.slice (some ⟨bk,off,none⟩) n c) (bys l) w) (k:Nat) (hk:k≤l.length):rdsl 1 (.slice (some ⟨bk,off,none⟩) k c) (bys (l.take k)) w:=by
 obtain ⟨a',n',c',he,hl,hx⟩:=h
 cases he
 refine ⟨_,_,_,rfl,by rw [bys_len,List.length_take];omega,fun j y hj=>hx j y ?_⟩
 unfold bys at hj ⊢
 rw [List.map_take,List.getElem?_take]at hj
 split at hj
 ·exact hj
 ·cases hj
set_option maxRecDepth 20000 in
theorem rscan_c (l:Bs) (hr:Ro w0 F (rdsl 1 bv (bys l))) (hcap:capOk bv) (hl:l.length≤268435456) (h:Sat w0 w F) :
  Calls Tryz.prog 117 #[bv] w (Rtn fun v w'=>∃ (fs:List (Frm.Fnd×Value)) (ov:Value),fs.map (·.1)=(Frm.scan l).1∧(∀ p∈fs,p.1.e.key.length=32)∧v = .tuple #[ov,.int .i64 (Frm.scan l).2.1,errno (Frm.scan l).2.2] ∧
   Sat w0 w' (osl 203 36 ov (fndsL fs)::dataF fs::F)):=by
 obtain ⟨ba,bn,bc,rfl,hbn,hbc⟩:=hcap
 have hln:bn=l.length:=by
  obtain ⟨_,_,_,he,hl',_⟩:=hr w h
  cases he
  rw [bys_len,Nat.mul_one]at hl';exact hl'.symm
 subst hln
 have Hr:=uQ hr;have Hl:=uQ hl;have Hbn:=uQ (show l.length≤bc∧bc≤9223372036854775807 from ⟨hbn,hbc⟩)
 have hF:=uQ h
 clear hr hl hbn hbc
 by_cases h8:l.length<8
 ·have Hf:=uQ (show Frm.scan l=([],0,4) by
   unfold Frm.scan
   rw [if_neg]
   intro e
   have:=congrArg List.length e
   rw [List.length_take]at this
   have h9:Frm.magicB.length=8:=rfl
   omega)
  have c1:decide ((l.length:Int)<8)=true:=decide_eq_true oQ
  clear h8
  go_enter Tryz.func117,Tryz.ntmps117
  go_wp2_with fail
  have hS1:=h.drew
  clear h
  refine wpL_begin [] (fun w'=>True) kQ ?_
  have hG:True:=trivial
  refine rP 0 ?_ (y:=mvQ)
  refine rP 1 ?_ (y:=(yl_len evD rnD))
  refine rP 2 ?_ (y:=bnQ)
  refine rP 3 ?_ (y:=mvQ)
  refine rg_skip 4 evD kQ iQ rQ gQ ?_
  refine rg_skip 5 evD kQ iQ rQ gQ ?_
  refine rg_skip 6 evD kQ iQ rQ gQ ?_
  refine rg_skip 7 evD kQ iQ rQ gQ ?_
  refine rg_skip 8 evD kQ iQ rQ gQ ?_
  refine rP 9 ?_ (y:=(yg_pick rQ evD evD))
  refine wdQ ?_
  clear hG
  try simp only [ayQ]
  try go_frame
  go_wp2_with fail
  go_ret3
  refine ⟨_,rfl,[],_,by rw [Hf.out];rfl,by simp,?_,Sat.osl_nil.2 (Sat.emp.2 hS1)⟩
  rw [Hf.out];rfl
 have hb8:¬ (l.length:Int)<8:=oQ
 have hb8d:decide ((l.length:Int)<8)=false:=decide_eq_false hb8
 obtain ⟨bk,off,rfl⟩:∃ bk off,ba=some ⟨bk,off,none⟩:=by
  obtain ⟨b',o',hb,_⟩:=rdsl_cells (i:=0) (x:= .int .u8 (l[0]'oQ).toNat) (Hr.out _ hF.out) (by unfold bys;rw [List.getElem?_map,List.getElem?_eq_getElem oQ];rfl)
  exact ⟨_,_,hb⟩
 have H8:=uQ (show 8≤l.length by omega)
 have hbc8:(8:Int)≤(bc:Int):=by have:=Hbn.out;omega
 have hsl:∀ w,(Instr.sliceAt 42 (.slice (some ⟨bk,off,none⟩) l.length bc) none (some (.int .i64 8)) none).run Tryz.prog w = .ok (.slice (some ⟨bk,off,none⟩) 8 bc) w:=fun w=>by
  have h8:(8:Nat)≤bc:=oQ
  go_simp
 clear h8
 by_cases hm:l.take 8=Frm.magicB
 rotate_left
 ·have Hf:=uQ (show Frm.scan l=([],0,4) by unfold Frm.scan;rw [if_neg hm])
  have Hne:=uQ (show decide (l.take 8=([72,79,65,82,68,83,69,71]:Bs))=false from decide_eq_false hm)
  clear hm
  go_enter Tryz.func117,Tryz.ntmps117
  go_wp2_with fail
  have hS1:=h.drew
  clear h
  refine wpL_begin [] (fun w'=>True) kQ ?_
  have hG:True:=trivial
  refine rP 0 ?_ (y:=mvQ)
  refine rP 1 ?_ (y:=(yl_len evD rnD))
  refine rP 2 ?_ (y:=bnQ)
  refine rP 3 ?_ (y:=mvQ)
  refine rP 4 ?_ (y:=(yg_move rQ evD))
  refine rP 5 ?_ (y:=(yg_slice_hi rQ evD evD hsl))
  refine rg_eff 6 evD kQ (fun K hK=>?_)
  refine eg_call [] rQ kQ rQ ?_
  refine (rmagic_c hS1).mono ?_
  rintro ee w2 ⟨v,rfl,mb,rfl,hS2⟩
  refine hK _ _ (.inr (.inl trivial)) ?_
  clear hK
  refine rg_eff 7 evD kQ (fun K hK=>?_)
  refine eg_call [.slice (some ⟨bk,off,none⟩) 8 bc,.slice (some ⟨mb,0,none⟩) 8 8] rQ kQ rQ ?_
  refine (rsame_c (l.take 8) [72,79,65,82,68,83,69,71] (fun w hw=>rdslB_take (Hr.out w (hw.sb)) 8 H8.out) (fun w hw=>Sat.rd hw) hS2 (by rw [List.length_take];have:=Hl.out;omega)).mono ?_
  rintro ee w3 ⟨v,rfl,rfl,hS3⟩
  refine hK _ _ (.inr (.inl trivial)) ?_
  clear hK
  rw [Hne.out]
  refine rP 8 ?_ (y:=(yg_un rQ evD rnD))
  refine rP 9 ?_ (y:=(yg_pick rQ evD evD))
  refine wdQ ?_
  clear hG
  try simp only [ayQ]
  try go_frame
  go_wp2_with fail
  go_ret3
  refine ⟨_,rfl,[],_,by rw [Hf.out];rfl,by simp,?_,Sat.osl_nil.2 (Sat.emp.2 (hS3.sb))⟩
  rw [Hf.out];rfl
 have Hf:=uQ (show Frm.scan l=Frm.scanL l.length (l.drop 8) 8 by unfold Frm.scan;rw [if_pos hm])
 have Hne:=uQ (show decide (l.take 8=([72,79,65,82,68,83,69,71]:Bs))=true from decide_eq_true hm)
 clear hm
 go_enter Tryz.func117,Tryz.ntmps117
 go_wp2_with fail
 have hS1:=h.drew
 clear h
 refine wpL_begin [] (fun w'=>True) kQ ?_
 have hG:True:=trivial
 refine rP 0 ?_ (y:=mvQ)
 refine rP 1 ?_ (y:=(yl_len evD rnD))
 refine rP 2 ?_ (y:=bnQ)
 refine rP 3 ?_ (y:=mvQ)
 refine rP 4 ?_ (y:=(yg_move rQ evD))
 refine rP 5 ?_ (y:=(yg_slice_hi rQ evD evD hsl))
 refine rg_eff 6 evD kQ (fun K hK=>?_)
 refine eg_call [] rQ kQ rQ ?_
 refine (rmagic_c hS1).mono ?_
 rintro ee w2 ⟨v,rfl,mb,rfl,hS2⟩
 refine hK _ _ (.inr (.inl trivial)) ?_
 clear hK
 refine rg_eff 7 evD kQ (fun K hK=>?_)
 refine eg_call [.slice (some ⟨bk,off,none⟩) 8 bc,.slice (some ⟨mb,0,none⟩) 8 8] rQ kQ rQ ?_
 refine (rsame_c (l.take 8) [72,79,65,82,68,83,69,71] (fun w hw=>rdslB_take (Hr.out w (hw.sb)) 8 H8.out) (fun w hw=>Sat.rd hw) hS2 (by rw [List.length_take];have:=Hl.out;omega)).mono ?_
 rintro ee w3 ⟨v,rfl,rfl,hS3⟩
 refine hK _ _ (.inr (.inl trivial)) ?_
 clear hK
 rw [Hne.out]
 refine rP 8 ?_ (y:=(yg_un rQ evD rnD))
 refine rP 9 ?_ (y:=(yg_pick rQ evD evD))
 refine wdQ ?_
 clear hG
 try simp only [ayQ]
 try go_frame
 have hS4:Sat w0 w3 F:=hS3.sb
 clear hS1 hS2 hS3 hsl hb8 hb8d
 go_wp2_with fail
 go_loopg [5,6] (l.length - 8) (fun g ov aq wr=>∃ (at_:Nat) (fs:List (Frm.Fnd×Value)),g=l.length - at_∧8≤at_∧at_≤l.length∧9 * fs.length≤at_∧aq = .int .i64 at_∧(∀ p∈fs,p.1.e.key.length=32) ∧
  (∃ k,l.length - at_≤k∧Frm.scan l=(fs.map (·.1)++(Frm.scanL k (l.drop at_) at_).1,(Frm.scanL k (l.drop at_) at_).2)) ∧
  Sat w0 wr (osl 203 36 ov (fndsL fs)::dataF fs::F))
 case atStart=>
  exact ⟨8,[],rfl,Nat.le_refl _,H8.out,Nat.zero_le _,rfl,by simp,⟨l.length,by omega,by rw [Hf.out];rfl⟩,Sat.osl_nil.2 (Sat.emp.2 hS4)⟩
 case round=>
  obtain ⟨at_,fs,rfl,h8,hat,hfl,rfl,hfk,⟨k,hk,hsc⟩,hS⟩:=hrel
  have Hk:=uQ hk;have Hsc:=uQ hsc;have Hfk:=uQ hfk;have Hat:=uQ (show at_≤l.length∧8≤at_∧9 * fs.length≤at_ from ⟨hat,h8,hfl⟩)
  clear hk hsc hfk h8 hfl hS4
  by_cases hlt:at_<l.length
  ·have c1:(at_:Int)<(l.length:Int):=by omega
   have c2:(at_:Int)≤(bc:Int):=by have:=Hbn.out;omega
   have c3:(l.length:Int)≤(bc:Int):=by have:=Hbn.out;omega
   have c4:(at_:Int)≤(l.length:Int):=oQ
   have c5:(0:Int)≤(at_:Int):=oQ
   have c6:¬ bc=at_:=by have:=Hbn.out;omega
   have hsl:∀ w,(Instr.sliceAt 42 (.slice (some ⟨bk,off,none⟩) l.length bc) (some (.int .i64 at_)) none none).run Tryz.prog w = .ok (.slice (some ⟨bk,off+at_,none⟩) (l.length - at_) (bc - at_)) w:=by
    intro w
    go_simp
   have hrd:=uQ (fun w hw=>rdsl_sub (Hr.out w hw) at_ l.length (bc - at_) hat (Nat.le_refl _))
   rw [List.take_length]at hrd
   have Hlt:=uQ hlt
   clear hlt hat
   go_wp2_with ((with_reducible refine at_slice1 ⟨?_⟩);refine wl_slice1 rQ rQ hsl ?_)
   refine (rread7_c (l.drop at_) (Ro.os hrd.out) ⟨_,_,_,rfl,by have:=Hbn.out;omega,by have:=Hbn.out;omega⟩ (by rw [List.length_drop];have:=Hl.out;omega) hS).mono ?_
   rintro ee w2 ⟨v,rfl,da,dc,rfl,hS2⟩
   have Hrk:=uQ (Frm.read_key (l.drop at_))
   obtain ⟨k,rfl⟩:∃ k',k=k'+1:=⟨k - 1,by have:=Hk.out;have:=Hlt.out;omega⟩
   have Hne:=uQ (show l.drop at_≠[] by
    intro h0
    have:=congrArg List.length h0
    rw [List.length_drop]at this
    have:=Hlt.out
    simp only [List.length_nil]at *
    omega)
   by_cases hz:(Frm.read (l.drop at_)).2.2=0
   ·have Hok:=uQ (Frm.read_ok hz)
    have Hsc2:=uQ (show Frm.scan l=(fs.map (·.1)++(⟨(Frm.read (l.drop at_)).1,at_,(Frm.read (l.drop at_)).2.1⟩::(Frm.scanL k ((l.drop at_).drop (Frm.read (l.drop at_)).2.1) (at_+(Frm.read (l.drop at_)).2.1)).1),(Frm.scanL k ((l.drop at_).drop (Frm.read (l.drop at_)).2.1) (at_+(Frm.read (l.drop at_)).2.1)).2) by
     rw [Hsc.out]
     simp only [Frm.scanL]
     rw [if_neg Hne.out,if_neg (fun h=>h hz)])
    have hN:=Hok.out.2.1
    rw [List.length_drop]at hN
    rw [List.drop_drop]at Hsc2
    generalize Frm.read (l.drop at_)=r at *
    obtain ⟨e,n,er⟩:=r
    obtain rfl:er=0:=hz
    have Hn:=uQ (show 9≤n∧n≤l.length - at_ from ⟨Hok.out.1,hN⟩)
    have Hkey:=uQ (show e.key.length=32 from Hrk.out)
    clear hN Hsc Hrk Hok
    try clear hz
    simp only at Hsc2 hS2
    have hw:IntKind.i64.wrap ((at_:Int)+(n:Int))=((at_+n:Nat):Int):=by
     rw [IntWalk.i64_in _ (by have:=Hn.out;have:=Hl.out;omega)];omega
    have hlen:(fndsL fs).length≤2147483648:=by
     rw [fndsL_len Hfk.out]
     have:=Hat.out;have:=Hl.out;omega
    go_wp2_with (first
     |((with_reducible refine at_allocE ⟨?_⟩);refine wl_allocE aQ ?_;intro bE wE hE)|((with_reducible refine at_storeE ⟨?_⟩);first|(refine wl_storeE aQ rQ rQ fQ upD sQ ?_;intro wS hS)|(refine wl_storeE (e:=Frm.zeroE) (da:=none) (dn:=0) (dc:=0) aQ rQ rQ rfl upD sQ ?_;intro wS hS))|((with_reducible refine at_loadE ⟨?_⟩);refine wl_loadE aQ rQ pkD fQ ?_)
     |((with_reducible refine at_build3 ⟨?_⟩);refine wl_build3 rQ rQ rQ (fun w=>run_buildFnd e Hkey.out da _ dc at_ n w) ?_)
     |((with_reducible refine at_build1 ⟨?_⟩);refine wl_build1 (e:=203) (sz:=36) (by':=80) kQ aQ evD (cs:=fndA ⟨e,at_,n⟩ (.slice da e.data.length dc)) rfl (fndA_size _ _ Hkey.out) bQ ?_;intro bN wN hN)
     |((with_reducible refine at_append ⟨?_⟩);refine wl_app 203 36 80 kQ aQ rQ rQ pkD pkD ((fndA_size _ _ Hkey.out).trans dQ) (Nat.le_refl 1) (fndA_ones _ _ _ _) hlen (by rw [fndA_size _ _ Hkey.out];decide) dQ rfl ?_;intro bA nA cA wA hA))
    go_roundg (l.length - (at_+n))
    case measure=>have:=Hn.out;omega
    case rel=>
     refine ⟨at_+n,fs++[(⟨e,at_,n⟩,.slice da e.data.length dc)],rfl,by have:=Hat.out;omega,by have:=Hn.out;have:=Hat.out;omega,by rw [List.length_append,List.length_singleton];have:=Hat.out;have:=Hn.out;omega,by first|rfl|go_num,?_,⟨k,by have:=Hn.out;have:=Hk.out;omega,?_⟩,?_⟩
     ·intro p hp
      rw [List.mem_append]at hp
      rcases hp with hp|hp
      ·exact Hfk.out p hp
      ·rw [List.mem_singleton]at hp;subst hp;exact Hkey.out
     ·rw [Hsc2.out,List.map_append,List.append_assoc];rfl
     ·rw [fndsL_app,dataF_snoc]
      have e9:fndsL [((⟨e,at_,n⟩:Frm.Fnd),Value.slice da e.data.length dc)]=(fndA ⟨e,at_,n⟩ (.slice da e.data.length dc)).toList:=by
       unfold fndsL fndA;simp
      rw [e9]
      have h10:Sat w0 wA (bsl (.slice da e.data.length dc) e.data::dataF fs::osl 203 36 (.slice (some ⟨bA,0,none⟩) nA cA) (fndsL fs++(fndA ⟨e,at_,n⟩ (.slice da e.data.length dc)).toList)::F):=hA.sb
      exact (Sat.star.2 h10).pick1
   ·have hfin:=uQ (show Frm.scan l=(fs.map (·.1),at_,(Frm.read (l.drop at_)).2.2) by
     rw [Hsc.out]
     simp only [Frm.scanL]
     rw [if_neg Hne.out,if_pos hz,List.append_nil])
    have c9:((Frm.read (l.drop at_)).2.2==0)=false:=by rw [beq_eq_false_iff_ne];exact hz
    clear hz Hsc
    go_wp2_with (first|((with_reducible refine at_allocE ⟨?_⟩);refine wl_allocE aQ ?_;intro bE wE hE)|((with_reducible refine at_storeE ⟨?_⟩);first|(refine wl_storeE aQ rQ rQ fQ upD sQ ?_;intro wS hS)|(refine wl_storeE (e:=Frm.zeroE) (da:=none) (dn:=0) (dc:=0) aQ rQ rQ rfl upD sQ ?_;intro wS hS))|((with_reducible refine at_loadE ⟨?_⟩);refine wl_loadE aQ rQ pkD fQ ?_))
    go_ret3
    refine ⟨_,rfl,fs,u5,by rw [hfin.out],Hfk.out,?_,Sat.sb aQ⟩
    rw [hfin.out];rfl
  ·have c1:¬ (at_:Int)<(l.length:Int):=by omega
   have hfin:=uQ (show Frm.scan l=(fs.map (·.1),at_,0) by
    rw [Hsc.out,List.drop_of_length_le oQ]
    cases k <;> simp [Frm.scanL])
   clear hlt hat
   go_wp2
   go_ret3
   refine ⟨_,rfl,fs,by rw [hfin.out],fun a b hm=>Hfk.out _ hm,u5,?_,hS⟩
   rw [hfin.out];rfl
end
section
variable {w0 w:World}{F:List HProp}{q d K:Nat}{L:Seg.Log}{D:Med}{bt:Rep.Told}
set_option maxRecDepth 20000 in
theorem rlast_c (hL:L.Ok) (hD:Seg.Fit K D) (hb:∀ s∈L.segs,D.all (Seg.name s)=bt s) (h:Sat w0 w (RLogRep q d L::DskRep d D::F)) :
  Calls Tryz.prog 40 #[ptr q] w (Rtn fun v w'=>v = .tuple #[.int .i64 (Rep.split bt L.segs L.segs.length).1,errno (Rep.split bt L.segs L.segs.length).2]∧Sat w0 w' (RLogRep q d L::DskRep d D::F)):=by
 have Hsl:=uQ (show L.segs.length=L.l.length from List.length_map ..)
 have Hlen:=uQ (show L.l.length≤1048576 from by have:=hL.len;omega)
 obtain ⟨lv,hR⟩:=RLogRep.open h
 obtain ⟨la,lc,rfl⟩:=sgs_sl (Sat.rd (hR.pick pick1))
 have e2:w.cell? ⟨q,2,none⟩=some (.slice la L.l.length lc):=hR.cellP pick0 2 rfl
 have HD:=uQ hD;have Hb:=uQ hb
 have Hnow:=uQ (show D.now.length≤1048576 from Nat.le_trans hD.now dQ)
 clear h hL hD hb
 go_enter Tryz.func40,Tryz.ntmps40
 go_wp2_with fail
 clear e2
 go_loopg [4] L.l.length (fun g iq wr=>∃ k:Nat,g=0+k∧k≤L.l.length∧iq = .int .i64 k∧Rep.split bt L.segs L.segs.length=Rep.split bt L.segs k ∧
  Sat w0 wr (rlogPt q d L (.slice la L.l.length lc)::osl 84 2 (.slice la L.l.length lc) (segw L.l)::DskRep d D::F))
 case atStart=>exact ⟨L.l.length,(Nat.zero_add _).symm,Nat.le_refl _,rfl,by rw [Hsl.out],hR⟩
 case round=>
  obtain ⟨k,rfl,hk,rfl,he,hS⟩:=hrel
  clear hR
  cases k with
  |zero=>
   have c1:decide (((0:Nat):Int)>0)=false:=by decide
   have He:=uQ he
   clear he hk
   go_wp2_with fail
   go_ret2
   rw [He.out]
   exact ⟨_,rfl,rfl,RLogRep.shut hS⟩
  |succ k=>
   obtain ⟨Z,hz⟩:∃ Z:Int,Z=((k+1:Nat):Int):=⟨_,rfl⟩
   rw [← hz]
   have HZ:=uQ hz
   have c1:decide (Z>0)=true:=decide_eq_true oQ
   have c2:(k:Int)<(L.l.length:Int):=oQ
   have w2:IntKind.i64.wrap (Z - 1)=(k:Int):=by rw [IntWalk.i64_in _ (by have:=Hlen.out;omega)];omega
   clear hz
   obtain ⟨s,hs⟩:∃ s,L.l[k]?=some s:=⟨_,List.getElem?_eq_getElem oQ⟩
   have hss:L.segs[k]?=some s.1:=by unfold Seg.Log.segs;rw [List.getElem?_map,hs];rfl
   have hgd:L.segs.getD k 0=s.1:=by rw [List.getD,hss];rfl
   have hbs:=Hb.out s.1 (List.mem_of_getElem? hss)
   have Hu:=uQ (show Rep.split bt L.segs (k+1)=if (D.all (Seg.name s.1)).2≠0 then (0,(D.all (Seg.name s.1)).2) else if (Frm.scan (D.all (Seg.name s.1)).1).2.2=0∧Rep.endedF (Frm.scan (D.all (Seg.name s.1)).1).1=true then (k+1,0) else Rep.split bt L.segs k by
    rw [Rep.split,hgd,hbs])
   have He:=uQ he;have Hk:=uQ hk
   obtain ⟨bk,off,rfl,c0,_⟩:=sgs_cells (Sat.rd (hS.pick pick1)) hs
   have HC:=uQ (fun (w':World) (F':List HProp) (h':Sat w0 w' (osl 84 2 (.slice (some ⟨bk,off,none⟩) L.l.length lc) (segw L.l)::F'))=>show w'.cell? ⟨bk,off+k * 2,none⟩=some (.int .i64 s.1) from by
    obtain ⟨_,_,he,c0,_⟩:=sgs_cells h'.rd hs
    cases he
    exact c0)
   have hra:=fun w' (hw:Sat w0 w' (rlogPt q d L (.slice (some ⟨bk,off,none⟩) L.l.length lc)::osl 84 2 (.slice (some ⟨bk,off,none⟩) L.l.length lc) (segw L.l)::DskRep d D::F))=>rall_c (Seg.name s.1) Hnow.out (fun i hi=>HD.out.len hi) (hw.pick (pick_there (pick_there pick0)))
   have Hra:=uQ hra
   have Hbl:=uQ (all_len HD.out.ok (Seg.name s.1))
   clear he hk hs hss hgd hbs c0 hra
   obtain ⟨sn,sz⟩:=s
   dsimp only at Hu HC Hra Hbl
   generalize D.all (Seg.name sn)=A at *
   obtain ⟨b,e⟩:=A
   dsimp only at Hu HC Hra Hbl
   have hS1:=hS.drew
   clear hS
   go_wp2_with fail
   refine wpL_begin [14,15,16,17,18,19] (fun w'=>w'.cell? ⟨q,0,none⟩=some (ptr d)∧w'.cell? ⟨q,2,none⟩=some (.slice (some ⟨bk,off,none⟩) L.l.length lc)∧w'.cell? ⟨bk,off+k * 2,none⟩=some (.int .i64 sn)) kQ ?_
   have hG:World.cell? _ ⟨q,0,none⟩=some (ptr d)∧World.cell? _ ⟨q,2,none⟩=some (.slice (some ⟨bk,off,none⟩) L.l.length lc)∧World.cell? _ ⟨bk,off+k * 2,none⟩=some (.int .i64 sn):=⟨hS1.cellP pick0 0 rfl,hS1.cellP pick0 2 rfl,HC.out _ _ (hS1.pick pick1)⟩
   refine rP 0 ?_ (y:=mvQ)
   refine rP 1 ?_ (y:=nlQ)
   refine rP 2 ?_ (y:=flQ)
   refine rt 3 (h:=?_)
   refine rP 4 ?_ (y:=mvQ)
   refine rP 5 ?_ (y:=nlQ)
   refine rP 6 ?_ (y:=flQ)
   refine rt 7 (h:=?_)
   refine rP 8 ?_ (y:=mvQ)
   refine rP 9 ?_ (y:=bnQ)
   refine rP 10 ?_ (y:=ixQ)
   refine rP 11 ?_ (y:=flQ)
   refine rt 12 (h:=?_)
   clear hG
   refine rg_eff 13 evD kQ (fun K hK=>?_)
   (refine eff_call1 kQ evD ?_)
   refine (rname_c sn _).mono ?_
   rintro ee w3 ⟨v,rfl,rfl,rfl⟩
   refine hK _ _ (.inr (.inr rfl)) ?_
   clear hK
   refine rg_eff 14 evD kQ (fun K hK=>?_)
   (refine eff_call2 kQ evD evD ?_)
   refine (Hra.out _ hS1).mono ?_
   rintro ee w4 ⟨v,rfl,bv,rfl,hS4⟩
   refine hK _ _ (.inl rfl) ?_
   clear hK hS1
   obtain ⟨hcap,ba,bc,rfl⟩:=bsl_capL hS4
   refine rP 15 ?_ (y:=mvQ)
   refine rP 16 ?_ (y:=(yl_extract evD rnD))
   refine rP 17 ?_ (y:=(yl_extract evD rnD))
   refine rP 18 ?_ (y:=asQ)
   refine rP 19 ?_ (y:=asQ)
   refine wdQ ?_
   try simp only [ayQ]
   try go_frame
   by_cases h0:e=0
   rotate_left
   ·have hbe:(e != 0)=true:=by rw [bne_iff_ne];exact h0
    have hbe2:(e==0)=false:=by rw [beq_eq_false_iff_ne];exact h0
    have Hf:=uQ (show Rep.split bt L.segs (k+1)=(0,e) by rw [Hu.out,if_pos h0])
    clear h0
    go_wp2_with fail
    go_ret2
    rw [He.out,Hf.out]
    have hS9:Sat w0 _ (rlogPt q d L (.slice (some ⟨bk,off,none⟩) L.l.length lc)::osl 84 2 (.slice (some ⟨bk,off,none⟩) L.l.length lc) (segw L.l)::DskRep d D::F):=hS4.sb
    exact ⟨_,rfl,rfl,RLogRep.shut hS9⟩
   subst h0
   have hsc:=rscan_c b (Ro.bsl _ _) hcap (Nat.le_trans Hbl.out dQ) hS4
   go_wp2_with fail
   refine hsc.mono ?_
   rintro ee w5 ⟨v,rfl,fs,fv,hfs,hfk,rfl,hS5⟩
   clear hsc hS4 hcap
   obtain ⟨fa,fc,rfl⟩:=fnds_sl hfk hS5
   have hS6:Sat w0 w5 (rlogPt q d L (.slice (some ⟨bk,off,none⟩) L.l.length lc)::osl 84 2 (.slice (some ⟨bk,off,none⟩) L.l.length lc) (segw L.l)::DskRep d D::F):=hS5.sb
   by_cases h1:(Frm.scan b).2.2=0
   rotate_left
   ·have hb1:((Frm.scan b).2.2==0)=false:=by rw [beq_eq_false_iff_ne];exact h1
    have Hf:=uQ (show Rep.split bt L.segs (k+1)=Rep.split bt L.segs k by rw [Hu.out,if_neg (by simp),if_neg (fun h=>h1 h.1)])
    clear h1 hS5 hfs hfk
    go_wp2_with fail
    go_roundg (0+k)
    case measure=>omega
    case rel=>exact ⟨k,rfl,Nat.le_of_succ_le Hk.out,by first|rfl|go_num,He.out.trans Hf.out,hS6⟩
   have hb1:((Frm.scan b).2.2==0)=true:=beq_iff_eq.2 h1
   have hfl:fs.length≤16777216:=by
    have:=Frm.scan_count b
    rw [← hfs,List.length_map]at this
    have:=Hbl.out;omega
   cases hg:fs.getLast? with
   |none=>
    obtain rfl:fs=[]:=List.getLast?_eq_none_iff.1 hg
    have Hf:=uQ (show Rep.split bt L.segs (k+1)=Rep.split bt L.segs k by
     rw [Hu.out,if_neg (by simp),if_neg (fun h=>by
      have h2:=h.2
      rw [← hfs]at h2
      exact Bool.false_ne_true h2)])
    have c5:decide ((([]:List (Frm.Fnd×Value)).length:Int)>0)=false:=by decide
    clear h1 hS5 hfs hfk hg
    go_wp2_with fail
    go_roundg (0+k)
    case measure=>omega
    case rel=>exact ⟨k,rfl,Nat.le_of_succ_le Hk.out,by first|rfl|go_num,He.out.trans Hf.out,hS6⟩
   |some p=>
    have hlen:0<fs.length:=List.length_pos_iff.2 (by intro e;rw [e]at hg;cases hg)
    have hi:fs[fs.length - 1]?=some p:=by rw [← List.getLast?_eq_getElem?];exact hg
    obtain ⟨fb,fo,fc',e9,hc⟩:=tag_cell hfk (Sat.rd hS5) hi
    cases e9
    have hend:Rep.endedF (Frm.scan b).1=(p.1.e.tag==2):=by
     rw [← hfs];unfold Rep.endedF;rw [List.getLast?_map,hg];rfl
    have c3:decide ((fs.length:Int)>0)=true:=decide_eq_true oQ
    have w1:IntKind.i64.wrap ((fs.length:Int) - 1)=((fs.length - 1:Nat):Int):=by rw [IntWalk.i64_in _ oQ];omega
    have c4:(0:Int)≤((fs.length - 1:Nat):Int):=oQ
    have c5:((fs.length - 1:Nat):Int)<(fs.length:Int):=oQ
    clear hS5 hfk hg hlen hi hfs hfl
    generalize fs.length - 1=j at *
    by_cases h2:p.1.e.tag=2
    ·have hb2:(p.1.e.tag==2)=true:=beq_iff_eq.2 h2
     have Hf:=uQ (show Rep.split bt L.segs (k+1)=(k+1,0) by rw [Hu.out,if_neg (by simp),if_pos ⟨h1,by rw [hend,hb2]⟩])
     clear h1 h2 hend
     generalize p.1.e.tag=t at *
     go_wp2_with fail
     go_ret2
     rw [He.out,Hf.out]
     obtain rfl:=HZ.out
     exact ⟨_,rfl,rfl,RLogRep.shut hS6⟩
    ·have hb2:(p.1.e.tag==2)=false:=by rw [beq_eq_false_iff_ne];exact h2
     have Hf:=uQ (show Rep.split bt L.segs (k+1)=Rep.split bt L.segs k by rw [Hu.out,if_neg (by simp),if_neg (fun h=>by have h3:=h.2;rw [hend,hb2]at h3;cases h3)])
     clear h1 h2 hend
     generalize p.1.e.tag=t at *
     go_wp2_with fail
     go_roundg (0+k)
     case measure=>omega
     case rel=>exact ⟨k,rfl,Nat.le_of_succ_le Hk.out,by first|rfl|go_num,He.out.trans Hf.out,hS6⟩
end
end Go.Proofs.YtmjldaedhmipkaaGreatDoor
namespace Go.Rep
theorem drop_take_succ {l:List Int}{i n:Nat}{s:Int} (h:n≤i) (hs:l[i]?=some s):(l.take (i+1)).drop n=(l.take i).drop n++[s]:=by
 have hl:=(List.getElem?_eq_some_iff.1 hs).1
 rw [List.take_add_one,hs,Option.toList_some,List.drop_append_of_le_length (by rw [List.length_take];omega)]
end Go.Rep
namespace Go.Proofs.YtmjldaedhmipkaaGreatDoor
open Go Go.Sl Go.Med Go.MapKept Go.RowKit
theorem plRow:placesB Tryz.prog 212=some [(0,1),(1,36)]:=by kernel_rfl
set_option maxRecDepth 20000 in
theorem run_row (s:Int) (f:Frm.Fnd) (hk:f.e.key.length=32) (dv:Value) (w:World):(Instr.build 212 #[(0,.int .i64 s),(1,.agg (fndA f dv))]).run Tryz.prog w = .ok (.agg (rwL ((s,f),dv)).toArray) w:=by
 have hf:(fndA f dv).size=36:=fndA_size f dv hk
 have h:=run_build (P:=Tryz.prog) [(0,.int .i64 s),(1,.agg (fndA f dv))] plRow zRow (by
  intro p hp
  have hzz:(Value.agg (rwL zeroR).toArray).cells.size=37:=by rfl
  rw [hzz]
  rcases List.mem_cons.1 hp with rfl|hp
  ·exact ⟨0,rfl,by show 0+1≤37;omega⟩
  ·rw [List.mem_singleton.1 hp]
   refine ⟨1,?_,?_⟩
   ·show some (1,36)=some (1,(fndA f dv).size);rw [hf]
   ·show 1+(fndA f dv).size≤37;omega) w
 refine h.trans ?_
 have hl:(fndL f dv).length=36:=fndL_len f dv hk
 have hzl:(rwL zeroR).length=37:=rwL_len zeroR rfl
 have e:putsAt (putsAt (rwL zeroR).toArray 0 [.int .i64 s]) 1 (fndL f dv)=(rwL ((s,f),dv)).toArray:=by
  apply putsAt_eq
  rw [puts_putL _ _ _ (by rw [putsAt_size,List.size_toArray,hzl,hl];exact Nat.le_refl 37),puts_putL _ _ _ (by rw [List.size_toArray,hzl];show 0+1≤37;omega),List.toList_toArray]
  have e1:putL (rwL zeroR) 0 [.int .i64 s]=[.int .i64 s]++fndL zeroR.1.2 zeroR.2:=rfl
  have h0:=putL_app [Value.int .i64 s] (fndL zeroR.1.2 zeroR.2) (fndL f dv) 0
  rw [putL_all (xs:=fndL zeroR.1.2 zeroR.2) (vs:=fndL f dv) (by rw [hl];exact fndL_len zeroR.1.2 zeroR.2 rfl)]at h0
  rw [e1]
  exact h0
 exact congrArg (fun x=>Result.ok (Value.agg x) w) e
def RRunOut (w0:World) (F:List HProp) (bt:Rep.Told) (ns:List Int) (q d:Nat) (L:Seg.Log) (D:Med) (v:Value) (w':World):Prop:=
 match Rep.run bt ns with
 |.inl (fl,e)=>v = .tuple #[.pointer none,.agg (fltA fl),errno e]∧Sat w0 w' (RLogRep q d L::DskRep d D::F)
 |.inr n=>∃ (ps:Nat) (iv uv tv:Value),v = .tuple #[ptr ps,.agg (fltA Rep.Flt.zero),errno 0] ∧
   Sat w0 w' (rstPt ps (Rep.lastOfL (ns.take n)) iv uv tv::osl 117 35 iv ((Rep.idx (Rep.rowsOf bt (ns.take n)) (Rep.rowsOf bt (ns.take n)).length).flatMap kvL) ::
    osl 115 3 uv ((Rep.uAt (Rep.rowsOf bt (ns.take n)) (Rep.usesOf bt (ns.take n)) (Rep.rowsOf bt (ns.take n)).length).flatMap uenc)::osl 3 1 tv (ints (ns.drop n))::RLogRep q d L::DskRep d D::F)
section
variable {w0 w:World}{F:List HProp}{q d K:Nat}{L:Seg.Log}{D:Med}{bt:Rep.Told}
set_option maxRecDepth 20000 in
theorem rrun_c (hL:L.Ok) (hD:Seg.Fit K D) (hb:∀ s∈L.segs,D.all (Seg.name s)=bt s) (hrows:(Rep.rowsOf bt L.segs).length≤12000000) (hsz:∀ r∈Rep.rowsOf bt L.segs,(r.2.size:Int)≤4294967296) (h:Sat w0 w (RLogRep q d L::DskRep d D::F)) :
  Calls Tryz.prog 38 #[ptr q] w (Rtn fun v w'=>RRunOut w0 F bt L.segs q d L D v w'):=by
 have Hsl:=uQ (show L.segs.length=L.l.length from List.length_map ..)
 have Hlen:=uQ (show L.l.length≤1048576 from by have:=hL.len;omega)
 have HL:=uQ hL;have HD:=uQ hD;have Hb:=uQ hb;have Hrows:=uQ hrows;have Hsz:=uQ hsz
 have Hnow:=uQ (show D.now.length≤1048576 from Nat.le_trans hD.now dQ)
 clear hL hD hb hrows hsz
 go_enter Tryz.func38,Tryz.ntmps38
 go_wp2_with (with_reducible apply at_alloc)
 refine ⟨wl_alloc zFlt h rfl ?_⟩
 intro b3 w3 h3
 clear h
 have hla:=rlast_c HL.out HD.out Hb.out (h3.sb:Sat w0 w3 (RLogRep q d L::DskRep d D::pt b3 (.cells (fltA Rep.Flt.zero) 75 (0,0))::F))
 clear h3
 go_wp2_with fail
 refine hla.mono ?_
 rintro ee w5 ⟨v,rfl,rfl,h5⟩
 clear hla
 by_cases h0:(Rep.split bt L.segs L.segs.length).2=0
 rotate_left
 ·have hb:((Rep.split bt L.segs L.segs.length).2 != 0)=true:=by rw [bne_iff_ne];exact h0
  have Hf:=uQ (show Rep.run bt L.segs = .inl (Rep.Flt.zero,(Rep.split bt L.segs L.segs.length).2) by unfold Rep.run;rw [if_pos h0])
  have h6:Sat w0 w5 (pt b3 (.cells (fltA Rep.Flt.zero) 75 (0,0))::RLogRep q d L::DskRep d D::F):=h5.sb
  clear h0 h5
  go_wp2_with (first
   |((with_reducible refine at_build0 ⟨?_⟩);refine wl_build0 (fun w=>run_flt0 w) ?_)
   |((with_reducible refine at_store ⟨?_⟩);refine wl_storeA (fltA Rep.Flt.zero) h6 rQ rQ rQ upd0 kQ rQ ?_;intro w9 h9))
  refine ⟨rfl,_,res_tct rfl h9 rQ pkD Tryz.underlying75 rfl kQ,_,rfl,?_⟩
  unfold RRunOut
  rw [Hf.out]
  exact ⟨rfl,h9.drop⟩
 have hb:((Rep.split bt L.segs L.segs.length).2 != 0)=false:=by rw [h0];rfl
 have Hle:=uQ (show (Rep.split bt L.segs L.segs.length).1≤L.l.length by rw [← Hsl.out];exact Rep.split_le bt L.segs L.segs.length)
 have Hf:=uQ (show Rep.run bt L.segs=Rep.runAt bt L.segs (Rep.split bt L.segs L.segs.length).1 by unfold Rep.run;rw [if_neg (fun h=>h h0)])
 rw [h0]
 generalize (Rep.split bt L.segs L.segs.length).1=n at *
 clear h0
 obtain ⟨lv,hR⟩:=RLogRep.open h5
 obtain ⟨la,lc,rfl⟩:=sgs_sl (Sat.rd (hR.pick pick1))
 clear h5
 go_wp2_with (with_reducible apply at_box)
 refine ⟨wl_box hR evD evD ?_⟩
 intro ps w7 h7
 have h8:Sat w0 w7 (rstPt ps (Rep.lastOfL (L.segs.take (min 0 n))) (.slice none 0 0) (.slice none 0 0) (.slice none 0 0)::osl 212 37 (.slice none 0 0) (([]:List (Rep.Row×Value)).flatMap rwL)::osl 115 3 (.slice none 0 0) ((Rep.usesOf bt (L.segs.take (min 0 n))).flatMap uenc)::osl 3 1 (.slice none 0 0) (ints ((L.segs.take 0).drop n))::pt b3 (.cells (fltA Rep.Flt.zero) 75 (0,0))::rlogPt q d L (.slice la L.l.length lc)::osl 84 2 (.slice la L.l.length lc) (segw L.l)::DskRep d D::F):=by
  have q0:Sat w0 w7 (rstPt ps (-1) (.slice none 0 0) (.slice none 0 0) (.slice none 0 0)::pt b3 (.cells (fltA Rep.Flt.zero) 75 (0,0))::rlogPt q d L (.slice la L.l.length lc)::osl 84 2 (.slice la L.l.length lc) (segw L.l)::DskRep d D::F):=h7.sb
  have q1:Sat w0 w7 (osl 212 37 (.slice none 0 0) []::osl 115 3 (.slice none 0 0) []::osl 3 1 (.slice none 0 0) []::rstPt ps (-1) (.slice none 0 0) (.slice none 0 0) (.slice none 0 0)::pt b3 (.cells (fltA Rep.Flt.zero) 75 (0,0))::rlogPt q d L (.slice la L.l.length lc)::osl 84 2 (.slice la L.l.length lc) (segw L.l)::DskRep d D::F):=Sat.osl_nil.2 (Sat.osl_nil.2 (Sat.osl_nil.2 q0))
  have q2:Sat w0 w7 (rstPt ps (-1) (.slice none 0 0) (.slice none 0 0) (.slice none 0 0)::osl 212 37 (.slice none 0 0) []::osl 115 3 (.slice none 0 0) []::osl 3 1 (.slice none 0 0) []::pt b3 (.cells (fltA Rep.Flt.zero) 75 (0,0))::rlogPt q d L (.slice la L.l.length lc)::osl 84 2 (.slice la L.l.length lc) (segw L.l)::DskRep d D::F):=q1.sel 4 [3,0,1,2] rfl rfl
  simp only [Nat.zero_min,List.take_zero,List.drop_nil]
  exact q2
 clear hR h7
 go_wp2_with fail
 go_loopg [8,9] L.l.length (fun g rq iq wr=>∃ (i:Nat) (uv tv:Value) (rs:List (Rep.Row×Value)),g=L.l.length - i∧i≤L.l.length∧iq = .int .i64 i∧Rep.bad bt (L.segs.take (min i n))=none∧(rs.map (·.1)=Rep.rowsOf bt (L.segs.take (min i n))∧(∀ q∈rs,q.1.2.e.key.length=32)∧(∀ q∈rs,∃ a n c,q.2 = .slice a n c)) ∧
  Sat w0 wr (rstPt ps (Rep.lastOfL (L.segs.take (min i n))) (.slice none 0 0) uv tv::osl 212 37 rq (rs.flatMap rwL)::osl 115 3 uv ((Rep.usesOf bt (L.segs.take (min i n))).flatMap uenc)::osl 3 1 tv (ints ((L.segs.take i).drop n))::pt b3 (.cells (fltA Rep.Flt.zero) 75 (0,0))::rlogPt q d L (.slice la L.l.length lc)::osl 84 2 (.slice la L.l.length lc) (segw L.l)::DskRep d D::F))
 case atStart=>exact ⟨0,.slice none 0 0,.slice none 0 0,[],rfl,Nat.zero_le _,rfl,by rw [Nat.zero_min];rfl,⟨by rw [Nat.zero_min];rfl,(fun q hq=>by cases hq),(fun q hq=>by cases hq)⟩,h8⟩
 case round=>
  obtain ⟨i,uv,tv,rs,rfl,hi,rfl,hbad,⟨hrs,hrk,hrv⟩,hS⟩:=hrel
  clear h8
  have Hbad:=uQ hbad;have Hrs:=uQ hrs;have Hrk:=uQ hrk;have Hrv:=uQ hrv
  clear hbad hrs hrk hrv
  have e2:World.cell? _ ⟨q,2,none⟩=some (.slice la L.l.length lc):=hS.cellP (pick_there (pick_there (pick_there (pick_there (pick_there pick0))))) 2 rfl
  by_cases hlt:i<L.l.length
  rotate_left
  ·obtain rfl:i=L.l.length:=by omega
   have c1:¬ (L.l.length:Int)<(L.l.length:Int):=oQ
   have hmin:min L.l.length n=n:=Nat.min_eq_right Hle.out
   rw [hmin]at hS Hbad Hrs
   have hrl:rs.length=(Rep.rowsOf bt (L.segs.take n)).length:=by rw [← Hrs.out,List.length_map]
   have Hrl:=uQ hrl
   have hdr:(L.segs.take L.l.length).drop n=L.segs.drop n:=by rw [List.take_of_length_le (by rw [Hsl.out];exact Nat.le_refl _)]
   rw [hdr]at hS
   have Hg:=uQ (Hf.out.trans (Rep.runAt_none Hbad.out))
   have hfl:=rfill_c (rv:=u8) (tv:=tv) ps (Rep.lastOfL (L.segs.take n)) rs (Rep.usesOf bt (L.segs.take n)) Hrk.out Hrv.out (by rw [hrl];exact Nat.le_trans (Rep.rowsOf_le bt L.segs n) Hrows.out) (by unfold Rep.usesOf;rw [List.length_map,List.length_take];have:=Hlen.out;have:=Hsl.out;omega)
    (fun q hq=>by
     have hm:q.1∈rs.map (·.1):=List.mem_map.2 ⟨q,hq,rfl⟩
     rw [Hrs.out]at hm
     exact Hsz.out q.1 (Rep.rowsOf_take _ _ _ _ hm)) (Rep.usesOf_zero bt _)
    (F:=osl 212 37 u8 (rs.flatMap rwL)::osl 3 1 tv (ints (L.segs.drop n))::pt b3 (.cells (fltA Rep.Flt.zero) 75 (0,0))::rlogPt q d L (.slice la L.l.length lc)::osl 84 2 (.slice la L.l.length lc) (segw L.l)::DskRep d D::F)
    (fun w hw=>Sat.rd hw) (hS.sb)
   rw [hrl,Hrs.out]at hfl
   clear hlt hi hmin hrl hdr hS
   go_wp2_with fail
   refine hfl.mono ?_
   rintro ee w14 ⟨v,rfl,iv,h14⟩
   clear hfl
   have h15:Sat w0 w14 (pt b3 (.cells (fltA Rep.Flt.zero) 75 (0,0))::rlogPt q d L (.slice la L.l.length lc)::osl 84 2 (.slice la L.l.length lc) (segw L.l)::rstPt ps (Rep.lastOfL (L.segs.take n)) iv uv tv::osl 117 35 iv ((Rep.idx (Rep.rowsOf bt (L.segs.take n)) (Rep.rowsOf bt (L.segs.take n)).length).flatMap kvL) ::
    osl 115 3 uv ((Rep.uAt (Rep.rowsOf bt (L.segs.take n)) (Rep.usesOf bt (L.segs.take n)) (Rep.rowsOf bt (L.segs.take n)).length).flatMap uenc)::osl 3 1 tv (ints (L.segs.drop n))::DskRep d D::F):=h14.sb
   clear h14
   go_wp2_with (first
    |((with_reducible refine at_build0 ⟨?_⟩);refine wl_build0 (fun w=>run_flt0 w) ?_)
    |((with_reducible refine at_store ⟨?_⟩);refine wl_storeA (fltA Rep.Flt.zero) h15 rQ rQ rQ upd0 kQ rQ ?_;intro w16 h16))
   refine ⟨rfl,_,res_tct rfl h16 rQ pick0 Tryz.underlying75 rfl kQ,_,rfl,?_⟩
   unfold RRunOut
   rw [Hg.out]
   have h17:=RLogRep.shut h16.drop
   exact ⟨ps,iv,uv,tv,rfl,h17.sb⟩
  have c1:(i:Int)<(L.l.length:Int):=oQ
  have hwi:IntKind.i64.wrap ((i:Int)+1)=(i:Int)+1:=IntWalk.i64_in _ (by have:=Hlen.out;omega)
  obtain ⟨sg,hsg⟩:∃ s,L.l[i]?=some s:=⟨_,List.getElem?_eq_getElem hlt⟩
  obtain ⟨s,sz⟩:=sg
  have hs:L.segs[i]?=some s:=by unfold Seg.Log.segs;rw [List.getElem?_map,hsg];rfl
  obtain ⟨bk,off,rfl,c0,_⟩:=sgs_cells (Sat.rd (hS.pick (pick_there (pick_there (pick_there (pick_there (pick_there (pick_there pick0)))))))) hsg
  have Hs:=uQ hs;have Hlt:=uQ hlt
  have Hbs:=uQ (Hb.out s (List.mem_of_getElem? hs))
  clear hsg hs hlt hi
  by_cases hin:i<n
  rotate_left
  ·have c2:decide ((i:Int)≥(n:Int))=true:=decide_eq_true oQ
   have c2N:decide (n≤i)=true:=decide_eq_true oQ
   have hm1:min i n=n:=Nat.min_eq_right oQ
   have hm2:min (i+1) n=n:=Nat.min_eq_right oQ
   have Hm:=uQ (And.intro hm1 hm2)
   have Htl:=uQ (Rep.drop_take_succ (n:=n) oQ Hs.out)
   have e3:World.cell? _ ⟨ps,3,none⟩=some tv:=hS.cellP pick0 3 rfl
   have hil:(ints ((L.segs.take i).drop n)).length≤2147483648:=by
    rw [show (ints ((L.segs.take i).drop n)).length=((L.segs.take i).drop n).length from List.length_map ..,List.length_drop,List.length_take]
    have:=Hlen.out;have:=Hlt.out;omega
   clear hin hm1 hm2
   go_wp2_with (with_reducible apply at_build1)
   refine ⟨wl_build1 (e:=3) (sz:=1) (by':=8) kQ hS evD (cs:=#[.int .i64 s]) rfl rfl dQ ?_⟩
   intro bN wN hN
   clear hS e2 e3 c0
   go_wp2_with (with_reducible apply at_append)
   refine ⟨wl_app 3 1 8 kQ hN rQ rQ (pick_there (pick_there (pick_there (pick_there pick0)))) pick0 rfl (Nat.le_refl 1) rQ hil (by show 1≤65536;decide) dQ rfl ?_⟩
   intro bA nA cA wA hA
   clear hN
   go_wp2_with ((with_reducible refine at_store ⟨?_⟩);refine wl_store (cs':=#[.int .i64 (Rep.lastOfL (L.segs.take (min i n))),.slice none 0 0,uv,.slice (some ⟨bA,0,none⟩) nA cA]) hA rQ evD rQ (upd_there upd0) bQ kQ rQ ?_;intro w43 h43)
   clear hA
   have h44:Sat w0 w43 (rstPt ps (Rep.lastOfL (L.segs.take (min (i+1) n))) (.slice none 0 0) uv (.slice (some ⟨bA,0,none⟩) nA cA)::osl 212 37 u8 (rs.flatMap rwL)::osl 115 3 uv ((Rep.usesOf bt (L.segs.take (min (i+1) n))).flatMap uenc)::osl 3 1 (.slice (some ⟨bA,0,none⟩) nA cA) (ints ((L.segs.take (i+1)).drop n))::pt b3 (.cells (fltA Rep.Flt.zero) 75 (0,0))::rlogPt q d L (.slice (some ⟨bk,off,none⟩) L.l.length lc)::osl 84 2 (.slice (some ⟨bk,off,none⟩) L.l.length lc) (segw L.l)::DskRep d D::F):=by
    have e9:ints ((L.segs.take i).drop n++[s])=ints ((L.segs.take i).drop n)++[.int .i64 s]:=by unfold ints;rw [List.map_append];rfl
    rw [Htl.out,e9,Hm.out.2]
    rw [Hm.out.1]at h43
    exact h43.sb
   clear h43
   go_roundg (L.l.length - (i+1))
   case measure=>have:=Hlt.out;omega
   case rel=>exact ⟨i+1,uv,.slice (some ⟨bA,0,none⟩) nA cA,rs,rfl,Hlt.out,by first|rfl|go_num,by have:=Hbad.out;rw [Hm.out.1]at this;rw [Hm.out.2];exact this,⟨by have:=Hrs.out;rw [Hm.out.1]at this;rw [Hm.out.2];exact this,Hrk.out,Hrv.out⟩,h44⟩
  have c2:decide ((i:Int)≥(n:Int))=false:=decide_eq_false oQ
  have c2N:decide (n≤i)=false:=decide_eq_false oQ
  have hm1:min i n=i:=Nat.min_eq_left oQ
  have hm2:min (i+1) n=i+1:=Nat.min_eq_left oQ
  have htl0:(L.segs.take i).drop n=[]:=List.drop_eq_nil_of_le (by rw [List.length_take];omega)
  have htl1:(L.segs.take (i+1)).drop n=[]:=List.drop_eq_nil_of_le (by rw [List.length_take];omega)
  have Hm:=uQ (And.intro hm2 htl1)
  rw [hm1]at hS Hbad Hrs
  rw [htl0]at hS
  have Htk:=uQ (show L.segs.take (i+1)=L.segs.take i++[s] by rw [List.take_add_one,Hs.out,Option.toList_some])
  have Hspl:=uQ (show ∃ post,L.segs.take n=L.segs.take i++s::post by
   have hsn:(L.segs.take n)[i]?=some s:=by rw [List.getElem?_take,if_pos hin];exact Hs.out
   obtain ⟨h1,e⟩:=List.getElem?_eq_some_iff.1 hsn
   refine ⟨(L.segs.take n).drop (i+1),?_⟩
   have e2:L.segs.take i=(L.segs.take n).take i:=by rw [List.take_take,Nat.min_eq_left (Nat.le_of_lt hin)]
   rw [e2,← e,← List.drop_eq_getElem_cons h1,List.take_append_drop])
  have hra:=fun w' (hw:Sat w0 w' (rstPt ps (Rep.lastOfL (L.segs.take i)) (.slice none 0 0) uv tv::osl 212 37 u8 (rs.flatMap rwL)::osl 115 3 uv ((Rep.usesOf bt (L.segs.take i)).flatMap uenc)::osl 3 1 tv (ints [])::pt b3 (.cells (fltA Rep.Flt.zero) 75 (0,0))::rlogPt q d L (.slice (some ⟨bk,off,none⟩) L.l.length lc)::osl 84 2 (.slice (some ⟨bk,off,none⟩) L.l.length lc) (segw L.l)::DskRep d D::F))=>rall_c (Seg.name s) Hnow.out (fun i hi=>HD.out.len hi) (hw.pick (pick_there (pick_there (pick_there (pick_there (pick_there (pick_there (pick_there pick0))))))))
  have Hra:=uQ hra
  have Hbl:=uQ (all_len HD.out.ok (Seg.name s))
  clear hin hm1 hm2 htl0 htl1 hra
  generalize D.all (Seg.name s)=A at *
  obtain ⟨b,e⟩:=A
  dsimp only at Hra Hbl
  go_wp2_with fail
  have hS1:=hS.drew
  clear hS e2 c0
  refine wpL_begin [6,7,8,9,10,11] (fun w'=>w'.cell? ⟨q,0,none⟩=some (ptr d)) kQ ?_
  have hG:World.cell? _ ⟨q,0,none⟩=some (ptr d):=hS1.cellP (pick_there (pick_there (pick_there (pick_there (pick_there pick0))))) 0 rfl
  refine rP 0 ?_ (y:=mvQ)
  refine rP 1 ?_ (y:=nlQ)
  refine rP 2 ?_ (y:=flQ)
  refine rt 3 (h:=?_)
  refine rP 4 ?_ (y:=mvQ)
  clear hG
  refine rg_eff 5 evD kQ (fun K hK=>?_)
  (refine eff_call1 kQ evD ?_)
  refine (rname_c s _).mono ?_
  rintro ee w13 ⟨v,rfl,rfl,rfl⟩
  refine hK _ _ (.inr (.inr rfl)) ?_
  clear hK
  refine rg_eff 6 evD kQ (fun K hK=>?_)
  (refine eff_call2 kQ evD evD ?_)
  refine (Hra.out _ hS1).mono ?_
  rintro ee w20 ⟨v,rfl,bv,rfl,h20⟩
  refine hK _ _ (.inl rfl) ?_
  clear hK hS1
  obtain ⟨hcap,ba,bc,rfl⟩:=bsl_capL h20
  refine rP 7 ?_ (y:=mvQ)
  refine rP 8 ?_ (y:=(yl_extract evD rnD))
  refine rP 9 ?_ (y:=(yl_extract evD rnD))
  refine rP 10 ?_ (y:=asQ)
  refine rP 11 ?_ (y:=asQ)
  refine wdQ ?_
  try simp only [ayQ]
  try go_frame
  by_cases h0:e=0
  rotate_left
  ·have hb1:(e != 0)=true:=by rw [bne_iff_ne];exact h0
   have hb1':(e==0)=false:=by rw [beq_eq_false_iff_ne];exact h0
   have Hg:=uQ (show Rep.run bt L.segs = .inl (Rep.Flt.zero,e) by
    rw [Hf.out]
    obtain ⟨post,e'⟩:=Hspl.out
    have:=Rep.bad_power (bt:=bt) (s:=s) (pre:=L.segs.take i) (post:=post) Hbad.out (by rw [← Hbs.out];exact h0)
    rw [← Hbs.out]at this
    exact Rep.runAt_bad (by rw [e'];exact this))
   have h21:Sat w0 w20 (pt b3 (.cells (fltA Rep.Flt.zero) 75 (0,0))::rlogPt q d L (.slice (some ⟨bk,off,none⟩) L.l.length lc)::osl 84 2 (.slice (some ⟨bk,off,none⟩) L.l.length lc) (segw L.l)::DskRep d D::F):=h20.sb
   clear h20 h0 hcap
   go_wp2_with (first
    |((with_reducible refine at_build0 ⟨?_⟩);refine wl_build0 (fun w=>run_flt0 w) ?_)
    |((with_reducible refine at_store ⟨?_⟩);refine wl_storeA (fltA Rep.Flt.zero) h21 rQ rQ rQ upd0 kQ rQ ?_;intro w22 h22))
   refine ⟨rfl,_,res_tct rfl h22 rQ pkD Tryz.underlying75 rfl kQ,_,rfl,?_⟩
   unfold RRunOut
   rw [Hg.out]
   exact ⟨rfl,RLogRep.shut h22.drop⟩
  subst h0
  have hsc:=rscan_c b (Ro.bsl _ _) hcap (Nat.le_trans Hbl.out dQ) h20
  clear hcap
  go_wp2_with fail
  refine hsc.mono ?_
  rintro ee w21 ⟨v,rfl,fs,fv,hfs,hfk,rfl,h21⟩
  clear hsc h20
  obtain ⟨fa,fc,rfl⟩:=fnds_sl hfk h21
  have Hbb:=uQ (show (bt s).1=b∧(bt s).2=0 from ⟨by rw [← Hbs.out],by rw [← Hbs.out]⟩)
  by_cases h1:(Frm.scan b).2.2=0
  rotate_left
  ·have hb2:((Frm.scan b).2.2 != 0)=true:=by rw [bne_iff_ne];exact h1
   have Hg:=uQ (show Rep.run bt L.segs = .inl (Rep.fault s (Frm.scan b).2.1,13) by
    rw [Hf.out]
    obtain ⟨post,e⟩:=Hspl.out
    have:=Rep.bad_scan (bt:=bt) (s:=s) (pre:=L.segs.take i) (post:=post) Hbad.out Hbb.out.2 (by rw [Hbb.out.1];exact h1)
    rw [Hbb.out.1]at this
    exact Rep.runAt_bad (by rw [e];exact this))
   have h22:Sat w0 w21 (pt b3 (.cells (fltA Rep.Flt.zero) 75 (0,0))::rlogPt q d L (.slice (some ⟨bk,off,none⟩) L.l.length lc)::osl 84 2 (.slice (some ⟨bk,off,none⟩) L.l.length lc) (segw L.l)::DskRep d D::F):=h21.sb
   clear h21 h1 hfs hfk
   generalize (Frm.scan b).2.2=er at *
   generalize (Frm.scan b).2.1=at_ at *
   by_cases ha:at_=0
   ·have hba:((at_:Int)==0)=true:=by rw [ha];rfl
    have Hfl:=uQ (show Rep.fault s at_=⟨1,s,0⟩ by unfold Rep.fault;rw [if_pos ha])
    clear ha
    go_wp2_with (first
     |((with_reducible refine at_build2 ⟨?_⟩);refine wl_build2 rQ rQ (fun w=>run_flt2 1 s w) ?_)
     |((with_reducible refine at_store ⟨?_⟩);refine wl_storeA (fltA ⟨1,s,0⟩) h22 rQ rQ rQ upd0 kQ rQ ?_;intro w24 h24))
    refine ⟨rfl,_,res_tct rfl h24 rQ pkD Tryz.underlying75 rfl kQ,_,rfl,?_⟩
    unfold RRunOut
    rw [Hg.out]
    refine ⟨?_,RLogRep.shut h24.drop⟩
    rw [Hfl.out];rfl
   ·have hba:((at_:Int)==0)=false:=by rw [beq_eq_false_iff_ne];omega
    have Hfl:=uQ (show Rep.fault s at_=⟨2,s,at_⟩ by unfold Rep.fault;rw [if_neg ha])
    have hbN:(at_==0)=false:=by rw [beq_eq_false_iff_ne];exact ha
    clear ha
    go_wp2_with (first
     |((with_reducible refine at_build3 ⟨?_⟩);refine wl_build3 rQ rQ rQ (fun w=>run_flt3 2 s at_ w) ?_)
     |((with_reducible refine at_store ⟨?_⟩);refine wl_storeA (fltA ⟨2,s,at_⟩) h22 rQ rQ rQ upd0 kQ rQ ?_;intro w24 h24))
    refine ⟨rfl,_,res_tct rfl h24 rQ pkD Tryz.underlying75 rfl kQ,_,rfl,?_⟩
    unfold RRunOut
    rw [Hg.out]
    refine ⟨?_,RLogRep.shut h24.drop⟩
    rw [Hfl.out];rfl
  have hb2:((Frm.scan b).2.2 != 0)=false:=by rw [h1];rfl
  have H1:=uQ h1
  rw [h1]
  clear h1
  have Hcnt:=uQ (show rs.length+fs.length≤12000000 by
   have q1:=Rep.rowsOf_le bt L.segs (i+1)
   rw [Htk.out,Rep.rowsOf_snoc,List.length_append,List.length_map,Hbb.out.1,← hfs,List.length_map,← Hrs.out,List.length_map]at q1
   exact Nat.le_trans q1 Hrows.out)
  have Hfd:=uQ (fun w' R' (hw:Sat w0 w' (dataF fs::R'))=>fun (j:Nat) (p:Frm.Fnd×Value) (hp:fs[j]?=some p)=>dataF_ro hp w' hw)
  have h22:Sat w0 w21 (rstPt ps (Rep.lastOfL (L.segs.take i)) (.slice none 0 0) uv tv::osl 212 37 u8 ((rs++(fs.take 0).map fun p=>((s,p.1),p.2)).flatMap rwL)::osl 115 3 uv ((Rep.usesOf bt (L.segs.take i)).flatMap uenc)::osl 3 1 tv (ints [])::osl 203 36 (.slice fa fs.length fc) (fndsL fs)::dataF fs::bsl (.slice ba b.length bc) b::pt b3 (.cells (fltA Rep.Flt.zero) 75 (0,0))::rlogPt q d L (.slice (some ⟨bk,off,none⟩) L.l.length lc)::osl 84 2 (.slice (some ⟨bk,off,none⟩) L.l.length lc) (segw L.l)::DskRep d D::F):=by
   rw [List.take_zero,List.map_nil,List.append_nil]
   exact h21.sb
  have Hfs:=uQ hfs;have Hfk:=uQ hfk
  have hfl:fs.length≤12000000:=by have:=Hcnt.out;omega
  have Hfl:=uQ hfl
  clear h21 hfs hfk hfl
  go_wp2_with fail
  go_loopg [8,17] fs.length (fun g rq jq wr=>∃ j:Nat,g=fs.length - j∧j≤fs.length∧jq = .int .i64 j ∧
   (∀ q∈rs++(fs.take j).map (fun p=>((s,p.1),p.2)),∃ a n c,q.2 = .slice a n c) ∧
   Sat w0 wr (rstPt ps (Rep.lastOfL (L.segs.take i)) (.slice none 0 0) uv tv::osl 212 37 rq ((rs++(fs.take j).map fun p=>((s,p.1),p.2)).flatMap rwL)::osl 115 3 uv ((Rep.usesOf bt (L.segs.take i)).flatMap uenc)::osl 3 1 tv (ints [])::osl 203 36 (.slice fa fs.length fc) (fndsL fs)::dataF fs::bsl (.slice ba b.length bc) b::pt b3 (.cells (fltA Rep.Flt.zero) 75 (0,0))::rlogPt q d L (.slice (some ⟨bk,off,none⟩) L.l.length lc)::osl 84 2 (.slice (some ⟨bk,off,none⟩) L.l.length lc) (segw L.l)::DskRep d D::F))
  case atStart=>exact ⟨0,rfl,Nat.zero_le _,rfl,by rw [List.take_zero,List.map_nil,List.append_nil];exact Hrv.out,h22⟩
  case round=>
   obtain ⟨j,rfl,hj,rfl,hjv,hS⟩:=hrel
   clear h22
   have Hjk:=uQ (show ∀ x∈rs++(fs.take j).map (fun p=>((s,p.1),p.2)),x.1.2.e.key.length=32 from fun x hx=>by
    rcases List.mem_append.1 hx with hx|hx
    ·exact Hrk.out x hx
    ·obtain ⟨p,hp,rfl⟩:=List.mem_map.1 hx
     exact Hfk.out p (List.mem_of_mem_take hp))
   have Hjv:=uQ hjv
   clear hjv
   by_cases hjl:j<fs.length
   rotate_left
   ·obtain rfl:j=fs.length:=by omega
    have d1:¬ (fs.length:Int)<(fs.length:Int):=oQ
    rw [List.take_length]at hS Hjk Hjv
    clear hjl hj
    have Hnext:=uQ (show (rs++fs.map fun p=>((s,p.1),p.2)).map (·.1)=Rep.rowsOf bt (L.segs.take (i+1)) by
     rw [Htk.out,Rep.rowsOf_snoc,List.map_append,Hrs.out,List.map_map,Hbb.out.1,← Hfs.out,List.map_map];rfl)
    generalize (rs++fs.map fun p=>((s,p.1),p.2))=rs2 at *
    have hul:((Rep.usesOf bt (L.segs.take i)).flatMap uenc).length≤2147483648:=by
     rw [rows_len (k:=3) fun u _=>rfl]
     unfold Rep.usesOf
     rw [List.length_map,List.length_take]
     have:=Hlen.out;have:=Hlt.out;omega
    go_wp2_with (first
     |((with_reducible refine at_store ⟨?_⟩);refine wl_store (cs':=#[.int .i64 s,.slice none 0 0,uv,tv]) hS rQ evD rQ upd0 bQ kQ rQ ?_;intro w40 h40)
     |((with_reducible refine at_load ⟨?_⟩);refine wl_load1 h40 rQ pick0 bQ evD kQ ?_)
     |(with_reducible apply at_build1))
    refine ⟨wl_build1 (e:=115) (sz:=3) (by':=24) kQ h40 rQ (cs:=#[.int .i64 s,.int .i64 (b.length:Nat),.int .i64 0]) rfl rfl dQ ?_⟩
    intro b41 w41 h41
    go_wp2_with (with_reducible apply at_append)
    refine ⟨wl_app 115 3 24 kQ h41 rQ rQ (pick_there (pick_there (pick_there pick0))) pick0 rfl (Nat.le_refl 1) rQ hul (by show 3≤65536;decide) dQ rfl ?_⟩
    intro bA nA cA w42 h42
    go_wp2_with ((with_reducible refine at_store ⟨?_⟩);refine wl_store (cs':=#[.int .i64 s,.slice none 0 0,.slice (some ⟨bA,0,none⟩) nA cA,tv]) h42 rQ evD rQ (upd_there upd0) bQ kQ rQ ?_;intro w43 h43)
    have h44:Sat w0 w43 (rstPt ps (Rep.lastOfL (L.segs.take (min (i+1) n))) (.slice none 0 0) (.slice (some ⟨bA,0,none⟩) nA cA) tv::osl 212 37 u8 (rs2.flatMap rwL)::osl 115 3 (.slice (some ⟨bA,0,none⟩) nA cA) ((Rep.usesOf bt (L.segs.take (min (i+1) n))).flatMap uenc)::osl 3 1 tv (ints ((L.segs.take (i+1)).drop n))::pt b3 (.cells (fltA Rep.Flt.zero) 75 (0,0))::rlogPt q d L (.slice (some ⟨bk,off,none⟩) L.l.length lc)::osl 84 2 (.slice (some ⟨bk,off,none⟩) L.l.length lc) (segw L.l)::DskRep d D::F):=by
     rw [Hm.out.1,Hm.out.2,Htk.out,Rep.lastOfL_snoc,Rep.usesOf_snoc,Hbb.out.1,List.flatMap_append]
     exact h43.sb
    clear h40 h41 h42 h43 hS
    go_roundg (L.l.length - (i+1))
    case measure=>have:=Hlt.out;omega
    case rel=>exact ⟨i+1,.slice (some ⟨bA,0,none⟩) nA cA,tv,rs2,rfl,Hlt.out,by first|rfl|go_num,by rw [Hm.out.1,Htk.out];exact Rep.bad_none Hbad.out Hbb.out.2 (by rw [Hbb.out.1];exact H1.out),⟨by rw [Hm.out.1];exact Hnext.out,Hjk.out,Hjv.out⟩,h44⟩
   have d1:(j:Int)<(fs.length:Int):=oQ
   have hwj:IntKind.i64.wrap ((j:Int)+1)=(j:Int)+1:=IntWalk.i64_in _ (by have:=Hfl.out;omega)
   obtain ⟨⟨f,dv⟩,hq⟩:∃ q,fs[j]?=some q:=⟨_,List.getElem?_eq_getElem hjl⟩
   have Hkf:=uQ (show f.e.key.length=32 from Hfk.out _ (List.mem_of_getElem? hq))
   obtain ⟨da,dn,dc,rfl,_,_⟩:=dataF_ro hq _ (hS.pk (A:=dataF fs))
   obtain ⟨bk2,off2,c2,e2,hcell⟩:=osl_row (f:=fun q:Frm.Fnd×Value=>fndL q.1 q.2) (k:=36) (fun q hq=>fndL_len q.1 q.2 (Hfk.out q hq)) (Sat.rd (hS.pk (A:=osl 203 36 (.slice fa fs.length fc) (fndsL fs)))) hq dQ
   cases e2
   have hl36:(fndL f (.slice da dn dc)).length=36:=fndL_len _ _ Hkf.out
   have Hrl:=uQ (show (rwL ((s,f),.slice da dn dc)).length=37 from rwL_len _ Hkf.out)
   have Hro:=uQ (show (rwL ((s,f),.slice da dn dc)).toArray.toList.all (·.oneCell')=true by rw [List.toList_toArray];exact rwL_ones _ rfl)
   have Htj:=uQ (show (fs.take (j+1)).map (fun q=>((s,q.1),q.2))=(fs.take j).map (fun q=>((s,q.1),q.2))++[((s,f),.slice da dn dc)] by rw [List.take_add_one,hq,Option.toList_some,List.map_append];rfl)
   have Hjl:=uQ hjl
   have hrl:((rs++(fs.take j).map fun p=>((s,p.1),p.2)).flatMap rwL).length≤2147483648:=by
    rw [rows_len (k:=37) fun q hq=>rwL_len q (Hjk.out q hq),List.length_append,List.length_map,List.length_take]
    have:=Hcnt.out;omega
   clear hq hj hjl
   go_wp2_with (first
    |((with_reducible refine at_load ⟨?_⟩);refine wl_loadW (b:=bk2) (o:=off2+j * 36) (fndL f (.slice da dn dc)) rQ hcell Tryz.underlying203 rfl (by rw [hl36];kernel_rfl) ?_)
    |((with_reducible refine at_build2 ⟨?_⟩);refine wl_build2 (v2:= .agg (fndA f (.slice da dn dc))) rQ rQ (fun w=>run_row s f Hkf.out _ w) ?_)
    |(with_reducible apply at_build1))
   refine ⟨wl_build1 (e:=212) (sz:=37) (by':=88) kQ hS rQ (cs:=(rwL ((s,f),.slice da dn dc)).toArray) rfl (by rw [List.size_toArray,Hrl.out]) dQ ?_⟩
   intro b41 w41 h41
   clear hS hcell
   go_wp2_with (with_reducible apply at_append)
   refine ⟨wl_app 212 37 88 kQ h41 rQ rQ (pick_there (pick_there pick0)) pick0 (by rw [List.size_toArray,Hrl.out]) (Nat.le_refl 1) Hro.out hrl (by rw [List.size_toArray,Hrl.out];decide) dQ (by rw [List.toList_toArray]) ?_⟩
   intro bA nA cA w42 h42
   have e9:(rs++(fs.take j).map fun p=>((s,p.1),p.2)).flatMap rwL++rwL ((s,f),.slice da dn dc)=(rs++(fs.take (j+1)).map fun p=>((s,p.1),p.2)).flatMap rwL:=by
    rw [Htj.out,← List.append_assoc]
    simp only [List.flatMap_append,List.flatMap_cons,List.flatMap_nil,List.append_nil]
   rw [e9]at h42
   clear h41 e9 hrl
   go_wp2_with fail
   go_roundg (fs.length - (j+1))
   case measure=>have:=Hjl.out;omega
   case rel=>exact ⟨j+1,rfl,Hjl.out,by first|rfl|go_num,(fun q hq=>by
    rw [Htj.out,← List.append_assoc]at hq
    rcases List.mem_append.1 hq with hq|hq
    ·exact Hjv.out q hq
    ·rw [List.mem_singleton.1 hq];exact ⟨_,_,_,rfl⟩),h42.sb⟩
end
section
variable {w0 w:World}{F:List HProp}
set_option maxRecDepth 20000 in
theorem lives15_c (hH:Ro w0 F Half) (h:Sat w0 w F) :
  Calls Tryz.prog 42 #[] w (Rtn fun v w'=>v = .bool true∧Sat w0 w' F):=by
 have hnew:Calls Tryz.prog 13 #[.int .i64 1000] w (Rtn fun v w'=>∃ m,v = .tuple #[ptr m,errno 0]∧Sat w0 w' (MedRep m (Med.new 1000)::F)):=new_yes 1000 dQ h
 have HH:=uQ hH
 clear hH
 go_enter Tryz.func42,Tryz.ntmps42
 go_wp2_with fail
 refine hnew.mono ?_
 rintro e w1 ⟨v,rfl,m,rfl,hS⟩
 clear hnew
 have hop:=open_c (K:=20) (Med.Ok.new 20 1000 dQ) 200 hS live_alive dQ dQ
 have hok:=Seg.fresh_ok (Med.Ok.new 20 1000 dQ) 200 dQ dQ
 rw [show Seg.fresh (Med.new 1000) 200=⟨200,[],false,0⟩ from live_fresh]at hop hok
 go_wp2_with fail
 refine hop.mono ?_
 rintro e w2 ⟨v,rfl,p,rfl,hS2⟩
 clear hop
 have hrn:=run_c hok (Med.Ok.new 20 1000 dQ) HH.out (by show 0≤12000000;decide) (fun r hr=>by cases hr) hS2
 go_wp2_with fail
 refine hrn.mono ?_
 rintro e w3 ⟨v,rfl,ho⟩
 clear hrn
 unfold RunOut at ho
 rw [show Rep.run (lbt ⟨200,[],false,0⟩ (Med.new 1000)) (Seg.Log.segs ⟨200,[],false,0⟩) = .inr 0 from rfl]at ho
 obtain ⟨ps,pi,uv,tv,av,kv,rfl,_,_,hS3⟩:=ho
 have hS4:Sat w0 w3 (stPt ps (-1) pi uv tv::F):=hS3.sb
 clear hS3 hS2 hS
 go_wp2_with (with_reducible apply at_alloc)
 refine ⟨wl_alloc zFlt hS4 rfl ?_⟩
 intro b6 w6 h6
 go_wp2_with (first
  |((with_reducible refine at_store ⟨?_⟩);refine wl_storeA (fltA Rep.Flt.zero) h6 rQ rQ rQ upd0 kQ rQ ?_;intro w7 h7)
  |(with_reducible apply at_loadG))
 refine ⟨wl_loadG1 rQ h7 rQ (pick_there pick0) (by show 0+1≤4;decide) rQ kQ ?_⟩
 go_wp2_with (with_reducible apply at_loadG)
 refine ⟨wl_loadG1 rQ h7 rQ (pick_there pick0) (by show 1+1≤4;decide) rQ kQ ?_⟩
 go_wp2_with fail
 go_ret
 exact ⟨_,rfl,rfl,h7.drop.drop⟩
theorem same_nil_c:Calls Tryz.prog 41 #[.pointer none,.pointer none] w (Rtn fun v w'=>v = .bool true∧w=w'):=by
 go_enter Tryz.func41,Tryz.ntmps41
 go_wp2_with fail
 go_ret
 exact ⟨_,rfl,rfl,rfl⟩
set_option maxRecDepth 20000 in
theorem same_st_c (ps pi pr B:Nat) (last:Int){uv tv iv uv2 tv2:Value}{m:Frm.Bs→Option Seg.Plc} (l:List (Bs×Seg.Plc)) (hl:Tab.Lists m l) (us:List Rep.Use) (t:List Int) (hB:B≤13000000) (hul:us.length≤1073741824) (htl:t.length≤1073741824)
  (h1:Ro w0 F (rdsl 35 iv (l.flatMap kvL))) (h2:Ro w0 F (rdsl 3 uv (us.flatMap uenc))) (h3:Ro w0 F (rdsl 3 uv2 (us.flatMap uenc))) (h4:Ro w0 F (rdsl 1 tv (ints t))) (h5:Ro w0 F (rdsl 1 tv2 (ints t)))
  (h:Sat w0 w (TabML pi m B::stPt ps last pi uv tv::rstPt pr last iv uv2 tv2::F)) :
  Calls Tryz.prog 41 #[ptr ps,ptr pr] w (Rtn fun v w'=>v = .bool true∧Sat w0 w' (TabML pi m B::stPt ps last pi uv tv::rstPt pr last iv uv2 tv2::F)):=by
 have H1:=uQ h1;have H2:=uQ h2;have H3:=uQ h3;have H4:=uQ h4;have H5:=uQ h5;have HL:=uQ hl
 have HB:=uQ hB;have Hul:=uQ hul;have Htl:=uQ htl
 clear h1 h2 h3 h4 h5 hl hB hul htl
 obtain ⟨u1,u2,u3,rfl,_⟩:=id (H2.out _ h.drop.drop.drop)
 obtain ⟨u4,u5,u6,rfl,_⟩:=id (H3.out _ h.drop.drop.drop)
 obtain ⟨t1,t2,t3,rfl,_⟩:=id (H4.out _ h.drop.drop.drop)
 obtain ⟨t4,t5,t6,rfl,_⟩:=id (H5.out _ h.drop.drop.drop)
 obtain ⟨i1,i2,i3,rfl,_⟩:=id (H1.out _ h.drop.drop.drop)
 have hbl:(last==last)=true:=beq_self_eq_true _
 go_enter Tryz.func41,Tryz.ntmps41
 go_wp2_with fail
 have hS:=h.drew
 clear h
 refine wpL_begin [41,42,43] (fun w'=>w'.cell? ⟨ps,0,none⟩=some (.int .i64 last)∧w'.cell? ⟨pr,0,none⟩=some (.int .i64 last)∧(w'.cell? ⟨ps,1,none⟩=some (ptr pi)∧w'.cell? ⟨pr,1,none⟩=some (.slice i1 i2 i3))∧(w'.cell? ⟨ps,2,none⟩=some (.slice u1 u2 u3)∧w'.cell? ⟨pr,2,none⟩=some (.slice u4 u5 u6))∧(w'.cell? ⟨ps,3,none⟩=some (.slice t1 t2 t3)∧w'.cell? ⟨pr,3,none⟩=some (.slice t4 t5 t6))) kQ ?_
 have HG:=uQ (fun (w':World) (R':List HProp) (hw:Sat w0 w' (stPt ps last pi (.slice u1 u2 u3) (.slice t1 t2 t3)::rstPt pr last (.slice i1 i2 i3) (.slice u4 u5 u6) (.slice t4 t5 t6)::R'))=>show w'.cell? ⟨ps,0,none⟩=some (.int .i64 last)∧w'.cell? ⟨pr,0,none⟩=some (.int .i64 last)∧(w'.cell? ⟨ps,1,none⟩=some (ptr pi)∧w'.cell? ⟨pr,1,none⟩=some (.slice i1 i2 i3))∧(w'.cell? ⟨ps,2,none⟩=some (.slice u1 u2 u3)∧w'.cell? ⟨pr,2,none⟩=some (.slice u4 u5 u6))∧(w'.cell? ⟨ps,3,none⟩=some (.slice t1 t2 t3)∧w'.cell? ⟨pr,3,none⟩=some (.slice t4 t5 t6)) from
  ⟨hw.cellP pick0 0 rfl,hw.cellP pick1 0 rfl,⟨hw.cellP pick0 1 rfl,hw.cellP pick1 1 rfl⟩,⟨hw.cellP pick0 2 rfl,hw.cellP pick1 2 rfl⟩,⟨hw.cellP pick0 3 rfl,hw.cellP pick1 3 rfl⟩⟩)
 have hG:=HG.out _ _ hS.drop
 refine rP 0 ?_ (y:=mvQ)
 refine rP 1 ?_ (y:=nlQ)
 refine rP 2 ?_ (y:=flQ)
 refine rt 3 (h:=?_)
 refine rP 4 ?_ (y:=mvQ)
 refine rP 5 ?_ (y:=nlQ)
 refine rP 6 ?_ (y:=flQ)
 refine rt 7 (h:=?_)
 refine rP 8 ?_ (y:=bnQ)
 refine rP 9 ?_ (y:=mvQ)
 refine rP 10 ?_ (y:=(yg_move rQ evD))
 refine rP 11 ?_ (y:=(yg_nil rQ evD))
 refine rP 12 ?_ (y:=(yg_field rQ evD rnD))
 refine rg_take 13 evD kQ iQ (tg_load rQ evD kQ (fun w hw=>hw.2.2.1.1)) aQ gQ ?_
 refine rP 15 ?_ (y:=(yg_move rQ evD))
 refine rP 16 ?_ (y:=(yg_nil rQ evD))
 refine rP 17 ?_ (y:=(yg_field rQ evD rnD))
 refine rg_take 18 evD kQ iQ (tg_load rQ evD kQ (fun w hw=>hw.2.2.1.2)) aQ gQ ?_
 clear hG
 refine rg_eff 14 evD kQ (fun K hK=>?_)
 refine eg_call [ptr pi] rQ kQ rQ ?_
 refine (rows_c HB.out hS).mono ?_
 rintro ee w3 ⟨v,rfl,kv,⟨hk1,hk2,hk3⟩,hS3⟩
 obtain rfl:=hk1.unique HL.out
 obtain ⟨r1,r2,r3,rfl,_⟩:=id (Sat.rd hS3)
 have hG:=HG.out _ _ hS3.drop.drop
 refine hK _ _ (.inr (.inl hG)) ?_
 clear hK hG hS
 refine rg_eff 19 evD kQ (fun K hK=>?_)
 refine eg_call [.slice r1 r2 r3,.slice i1 i2 i3] rQ kQ rQ ?_
 refine (sameIndex_c kv hk2 (fun w hw=>Sat.rd hw) (Ro.os H1.out) hS3 (Nat.le_trans hk3 (Nat.le_trans HB.out dQ))).mono ?_
 rintro ee w4 ⟨v,rfl,rfl,hS4⟩
 have hS5:Sat w0 w4 (TabML pi m B::stPt ps last pi (.slice u1 u2 u3) (.slice t1 t2 t3)::rstPt pr last (.slice i1 i2 i3) (.slice u4 u5 u6) (.slice t4 t5 t6)::F):=hS4.drop
 have hG:=HG.out _ _ hS5.drop
 refine hK _ _ (.inr (.inl hG)) ?_
 clear hK hS3 hS4
 refine rP 20 ?_ (y:=(yg_pick rQ evD evD))
 refine rP 21 ?_ (y:=mvQ)
 refine rP 22 ?_ (y:=(yg_move rQ evD))
 refine rP 23 ?_ (y:=(yg_nil rQ evD))
 refine rP 24 ?_ (y:=(yg_field rQ evD rnD))
 refine rg_take 25 evD kQ iQ (tg_load rQ evD kQ (fun w hw=>hw.2.2.2.1.1)) aQ gQ ?_
 refine rP 26 ?_ (y:=(yg_move rQ evD))
 refine rP 27 ?_ (y:=(yg_nil rQ evD))
 refine rP 28 ?_ (y:=(yg_field rQ evD rnD))
 refine rg_take 29 evD kQ iQ (tg_load rQ evD kQ (fun w hw=>hw.2.2.2.1.2)) aQ gQ ?_
 clear hG
 refine rg_eff 30 evD kQ (fun K hK=>?_)
 refine eg_call [.slice u1 u2 u3,.slice u4 u5 u6] rQ kQ rQ ?_
 refine (sameUses_c us (Ro.os H2.out) (Ro.os H3.out) hS5 Hul.out).mono ?_
 rintro ee w6 ⟨v,rfl,rfl,hS6⟩
 have hG:=HG.out _ _ hS6.drop
 refine hK _ _ (.inr (.inl hG)) ?_
 clear hK hS5
 refine rP 31 ?_ (y:=(yg_pick rQ evD evD))
 refine rP 32 ?_ (y:=mvQ)
 refine rP 33 ?_ (y:=(yg_move rQ evD))
 refine rP 34 ?_ (y:=(yg_nil rQ evD))
 refine rP 35 ?_ (y:=(yg_field rQ evD rnD))
 refine rg_take 36 evD kQ iQ (tg_load rQ evD kQ (fun w hw=>hw.2.2.2.2.1)) aQ gQ ?_
 refine rP 37 ?_ (y:=(yg_move rQ evD))
 refine rP 38 ?_ (y:=(yg_nil rQ evD))
 refine rP 39 ?_ (y:=(yg_field rQ evD rnD))
 refine rg_take 40 evD kQ iQ (tg_load rQ evD kQ (fun w hw=>hw.2.2.2.2.2)) aQ gQ ?_
 clear hG
 refine rg_eff 41 evD kQ (fun K hK=>?_)
 refine eg_call [.slice t1 t2 t3,.slice t4 t5 t6] rQ kQ rQ ?_
 refine (sameInts_c t (Ro.os H4.out) (Ro.os H5.out) hS6 (by have:=Htl.out;omega)).mono ?_
 rintro ee w7 ⟨v,rfl,rfl,hS7⟩
 refine hK _ _ (.inl rfl) ?_
 clear hK hS6
 refine rP 42 ?_ (y:=(yg_pick rQ evD evD))
 refine rP 43 ?_ (y:=asQ)
 refine wdQ ?_
 try simp only [ayQ]
 try go_frame
 go_wp2_with fail
 go_ret
 exact ⟨_,rfl,rfl,hS7⟩
end
structure BO (v:Value) (l:Bs) (b o cap:Nat) (cs:Array Value):Prop where
 eq:v = .slice (some ⟨b,o,none⟩) l.length cap
 le:l.length≤cap
 max:cap≤9223372036854775807
 fit:o+cap≤cs.size
 rd:∀ j y,(bys l)[j]?=some y→cs[o+j]?=some y
section
variable {w0 w:World}{R:List HProp}{v x:Value}{l k:Bs}{b o cap:Nat}{cs:Array Value}
theorem BO.rdsl (h:BO v l b o cap cs) (hS:Sat w0 w (pt b (.cells cs 5 (0,0))::R)):rdsl 1 v (bys l) w:=
 ⟨_,_,_,h.eq,by rw [bys_len,Nat.mul_one],fun j y hj=>⟨_,rfl,by
  have hadd:(⟨b,o,none⟩:Addr).add j=⟨b,o+j,none⟩:=by unfold Addr.add;split <;> simp_all
  rw [hadd];exact hS.cellAt (o+j) y (h.rd j y hj)⟩⟩
end
theorem enc_le {x:Frm.Ent} (h0:(Frm.encode x).2=0) (hk:x.key.length=32):(Frm.encode x).1.length≤41+x.data.length:=by
 rw [Seg.size_enc h0 hk]
 unfold Frm.size
 split
 ·omega
 ·split <;> omega
section
variable {w0 w:World}{F:List HProp}{lv:Value}
end
end Go.Proofs.YtmjldaedhmipkaaGreatDoor
namespace Go.Proofs.YtmjldaedhmipkaaGreatDoor
open Go Go.Sl Go.Med Go.ChangeShapes Go.WideShapes Go.RowKit
section
variable {H:Type}{enc:TypeId×Value→H}{W:World}{base:Nat}{spare:Nat→Bool}{held:Bool}
theorem open_key {t:TypeId}{fuel:Nat}{cs:List Value}{x:DataW H×List MemPlace}{k:Nat} (ht:Tryz.prog.underlying t=some (.array k 5)) (hk:Tryz.prog.cellsOf t=k) (h:DataW.trod enc Tryz.prog W base spare held fuel t cs=some x) :
  ∃ l:Bs,bys l=cs∧l.length=k:=by
 obtain ⟨xs,m,_,_,hl,hxl,hf⟩:=DataW.trod_array ht h
 have e1:Tryz.prog.cellsOf 5=1:=by kernel_rfl
 rw [hk]at hl
 have hz:∀ i,i<k→∃ z:Int,cs[i]?=some (.int .u8 z)∧(Lit.int .u8 z).wf=true:=by
  intro i hi
  have h0:=hf i hi
  rw [List.getElem?_eq_getElem oQ,e1,Nat.mul_one]at h0
  obtain ⟨z,q1,_,q3⟩:=DataW.trod_int Tryz.underlying5 h0
  refine ⟨z,?_,q3⟩
  have:((cs.drop i).take 1)[0]?=some (.int .u8 z):=by rw [q1];rfl
  rw [List.getElem?_take,if_pos dQ,List.getElem?_drop]at this
  exact this
 obtain ⟨zs,z1,z2⟩:=list_of_fun hz
 have hcs:cs=zs.map (.int .u8):=by
  apply List.ext_getElem?
  intro i
  rw [List.getElem?_map]
  by_cases hi:i<k
  ·have:=(z2 i _ (List.getElem?_eq_getElem oQ)).1
   rw [this,List.getElem?_eq_getElem (show i<zs.length by omega)];rfl
  ·rw [List.getElem?_eq_none oQ,List.getElem?_eq_none oQ];rfl
 refine ⟨toBs zs,?_,by unfold toBs;rw [List.length_map];exact z1⟩
 rw [bys_toBs,hcs]
 intro z hz
 obtain ⟨i,hi,rfl⟩:=List.getElem_of_mem hz
 exact (z2 i _ (List.getElem?_eq_getElem hi)).2
structure EntAt (W:World) (p:Frm.Ent×Value):Prop where
 key:p.1.key.length=32
 tag:inI p.1.tag
 rd:rdsl 1 p.2 (bys p.1.data) W
 cap:capOk p.2
set_option maxRecDepth 100000 in
theorem open_ent {fuel:Nat}{cs:List Value}{x:DataW H×List MemPlace} (h:DataW.trod enc Tryz.prog W base spare held fuel 44 cs=some x):∃ p:Frm.Ent×Value,entL p.1 p.2=cs∧EntAt W p:=by
 obtain ⟨hl,hf⟩:=open_fields Tryz.underlying44 h
 have e34:Tryz.prog.cellsOf 44=34:=by kernel_rfl
 have e1:Tryz.prog.cellsOf 3=1:=by kernel_rfl
 have e2:Tryz.prog.cellsOf 41=32:=by kernel_rfl
 have e3:Tryz.prog.cellsOf 42=1:=by kernel_rfl
 have e5:Tryz.prog.cellsOf 5=1:=by kernel_rfl
 rw [e34]at hl
 obtain ⟨n0,y0,h0⟩:=hf 0 _ rfl
 obtain ⟨n1,y1,h1⟩:=hf 1 _ rfl
 obtain ⟨n2,y2,h2⟩:=hf 2 _ rfl
 simp only [List.getElem_toArray,List.getElem_cons_zero,List.getElem_cons_succ,e1,e2,e3,List.drop_zero]at h0 h1 h2
 obtain ⟨z0,q0,_,w0⟩:=DataW.trod_int Tryz.underlying3 h0
 obtain ⟨kl,k1,k2⟩:=open_key Tryz.underlying41 e2 h1
 have hd:∃ v,(cs.drop 33).take 1=[v]:=by
  have:((cs.drop 33).take 1).length=1:=by rw [List.length_take,List.length_drop];omega
  exact List.length_eq_one_iff.1 this
 obtain ⟨dv,hdv⟩:=hd
 rw [hdv]at h2
 obtain ⟨l5,r5,c5⟩:=in_bys Tryz.underlying42 Tryz.underlying5 e5 h2
 refine ⟨(⟨z0,kl,l5⟩,dv),?_,k2,bounds_i64 w0,r5,c5⟩
 show Value.int .i64 z0::(bys kl++[dv])=cs
 have s1:cs=cs.take 1++((cs.drop 1).take 32++(cs.drop 33).take 1):=by
  have a1:cs=cs.take 1++cs.drop 1:=(List.take_append_drop 1 cs).symm
  have a2:cs.drop 1=(cs.drop 1).take 32++(cs.drop 1).drop 32:=(List.take_append_drop 32 _).symm
  have a3:(cs.drop 1).drop 32=(cs.drop 33).take 1:=by rw [List.drop_drop,List.take_of_length_le (by rw [List.length_drop];omega)]
  rw [a3]at a2
  rw [← a2];exact a1
 rw [s1,q0,← k1,hdv];rfl
set_option maxRecDepth 100000 in
theorem open_plc {fuel:Nat}{cs:List Value}{x:DataW H×List MemPlace} (h:DataW.trod enc Tryz.prog W base spare held fuel 39 cs=some x):∃ a b c:Int,cs=[.int .i64 a,.int .i64 b,.int .i64 c]∧inI a∧inI b∧inI c:=by
 obtain ⟨hl,hf⟩:=open_fields Tryz.underlying39 h
 have e3:Tryz.prog.cellsOf 39=3:=by kernel_rfl
 have e1:Tryz.prog.cellsOf 3=1:=by kernel_rfl
 rw [e3]at hl
 match cs,hl with
 |[v0,v1,v2],_=>
  obtain ⟨n0,y0,h0⟩:=hf 0 _ rfl
  obtain ⟨n1,y1,h1⟩:=hf 1 _ rfl
  obtain ⟨n2,y2,h2⟩:=hf 2 _ rfl
  simp only [List.getElem_toArray,List.getElem_cons_zero,List.getElem_cons_succ,e1,List.drop_zero,List.drop_succ_cons,List.take_succ_cons,List.take_zero]at h0 h1 h2
  obtain ⟨z0,q0,_,w0⟩:=DataW.trod_int Tryz.underlying3 h0
  obtain ⟨z1,q1,_,w1⟩:=DataW.trod_int Tryz.underlying3 h1
  obtain ⟨z2,q2,_,w2⟩:=DataW.trod_int Tryz.underlying3 h2
  simp only [List.cons.injEq,and_true]at q0 q1 q2
  subst q0;subst q1;subst q2
  exact ⟨z0,z1,z2,rfl,bounds_i64 w0,bounds_i64 w1,bounds_i64 w2⟩
end
structure PC where
 n:Int
 es:List (Frm.Ent×Value)
 ev:Value
 rest:Bs
 rv:Value
 bad:Bool
 at_:Int
 plain:Bool
structure PC.At (W:World) (d:PC):Prop where
 n:inI d.n
 rd:rdsl 34 d.ev (entsL d.es) W
 cap:capOk d.ev
 ents:∀ p∈d.es,EntAt W p
 rr:rdsl 1 d.rv (bys d.rest) W
 rc:capOk d.rv
 at_:inI d.at_
section
variable {H:Type}{enc:TypeId×Value→H}{W:World}{base:Nat}{spare:Nat→Bool}{held:Bool}
end
end Go.Proofs.YtmjldaedhmipkaaGreatDoor
namespace Go.Proofs.YtmjldaedhmipkaaGreatDoor
open Go Go.Sl Go.Med Go.MapKept Go.RowKit
section
variable {w0 w:World}{F R:List HProp}{lv:Value}
end
end Go.Proofs.YtmjldaedhmipkaaGreatDoor
namespace Go.Seg
open Go.Med
open Go.Frm (encs GoodE)
section
variable {K K':Nat}{M M':Med}{L:Log}{s t:ByteArray}{i:Nat}{sure opn:List (Plc×Frm.Ent)}
theorem St.first (lim:Int) (h1:128≤lim) (h2:lim≤1048576):St 0 ⟨lim,[],false,0⟩ (new 1048576) [] []:=
 ⟨⟨⟨h1,h2⟩,List.Pairwise.nil,(fun s hs=>by cases hs),(fun s hs=>by cases hs),⟨Int.le_refl _,by simp⟩,fun hh=>by cases hh⟩,Med.Ok.new 0 1048576 dQ,
  (fun j c hc=>by simp [Med.file,new,Fil.new]at hc),(fun s hs=>by cases hs),(fun hh=>by cases hh),(fun q hq=>by cases hq),fun _ q hq=>by cases hq⟩
end
end Go.Seg
namespace Go.Proofs.YtmjldaedhmipkaaGreatDoor
open Go Go.Sl Go.Med Go.MapKept Go.RowKit
section
variable {w0 w:World}{F R:List HProp}{p d m:Nat}{v lv:Value}{D M:Med}{K:Nat}
theorem lst_sl {l:List ByteArray} (h:rdsl 1 v (strs l) w):∃ a c,v = .slice a l.length c:=by
 obtain ⟨a,n,c,rfl,hl,hx⟩:=h
 unfold strs at hl
 rw [List.length_map,Nat.mul_one]at hl
 exact ⟨a,c,by rw [hl]⟩
theorem lst_cell {l:List ByteArray}{i:Nat}{s:ByteArray}{a:Option Addr}{n c:Nat} (h:rdsl 1 (.slice a n c) (strs l) w) (hi:l[i]?=some s):∃ bk off,a=some ⟨bk,off,none⟩∧w.cell? ⟨bk,off+i,none⟩=some (.string s):=by
 have hx:(strs l)[i]?=some (.string s):=by unfold strs;rw [List.getElem?_map,hi];rfl
 obtain ⟨bk,off,rfl,hc⟩:=rdsl_cells h hx
 exact ⟨bk,off,rfl,hc _ _ hx⟩
theorem med_list_len (ok:M.Ok K):M.list.length≤500:=by
 unfold Med.list
 split
 ·exact Nat.zero_le _
 ·rw [List.length_map];exact ok.nowOk.len
set_option maxRecDepth 20000 in
theorem ropen_c (hD:Seg.Fit K D) (limit:Int) (ho:D.off=false) (h1:128≤limit) (h2:limit≤1048576) (h:Sat w0 w (DskRep d D::F)) :
  Calls Tryz.prog 16 #[ptr d,.int .i64 limit] w (Rtn fun v w'=>∃ q,v = .tuple #[ptr q,errno 0]∧Sat w0 w' (RLogRep q d (Seg.fresh D limit)::DskRep d D::F)):=by
 obtain ⟨fsv,fv,nv,wv,xs,g,hin,hR⟩:=DskRep.open h
 have e7:w.cell? ⟨d,7,none⟩=some (.bool D.off):=hR.cellP pick0 7 rfl
 rw [ho]at e7
 have hd1:decide (limit<128)=false:=decide_eq_false oQ
 have hd2:decide (1048576<limit)=false:=decide_eq_false oQ
 have HD:=uQ hD
 have Hl:=uQ (show D.now.length≤1048576 from Nat.le_trans hD.ok.nowOk.len dQ)
 have Hll:=uQ (med_list_len hD.ok)
 clear hin hR ho h1 h2 hD
 go_enter Tryz.func16,Tryz.ntmps16
 go_wp2_with ((with_reducible refine at_box ⟨?_⟩);refine wl_box aQ evD evD ?_;intro bB wB hB)
 have hB1:=hB.pk (A:=DskRep d D)
 refine (rlist_c Hl.out hB1).mono ?_
 rintro ee w1 ⟨v,rfl,ov,rfl,hS1⟩
 clear hB1 hB h e7
 have Hfr:=uQ (show Seg.fresh D limit=⟨limit,Seg.found D D.list,false,0⟩ from rfl)
 generalize D.list=l at *
 obtain ⟨na,nc,rfl⟩:=lst_sl (Sat.rd hS1)
 go_wp2_with fail
 go_loopg [8] l.length (fun g iq wr=>∃ (i:Nat) (lv:Value),g=l.length - i∧i≤l.length∧iq = .int .i64 i ∧
  Sat w0 wr (osl 84 2 lv (segw (Seg.found D (l.take i)))::osl 9 1 (.slice na l.length nc) (strs l)::rlogPt bB d ⟨limit,Seg.found D (l.take i),false,0⟩ lv::DskRep d D::F))
 case atStart=>exact ⟨0,.slice none 0 0,rfl,Nat.zero_le _,rfl,Sat.osl_nil.2 (hS1.sb)⟩
 case round=>
  obtain ⟨i,lv,rfl,hi,rfl,hS⟩:=hrel
  clear hS1
  by_cases hlt:i<l.length
  ·have c1:(i:Int)<(l.length:Int):=by omega
   obtain ⟨s,hs⟩:∃ s,l[i]?=some s:=⟨_,List.getElem?_eq_getElem hlt⟩
   obtain ⟨bk,off,rfl,e0⟩:=lst_cell (Sat.rd (hS.pick pick1)) hs
   have hll:=Hll.out
   have hwi:=iwQ (i:=i)
   have Hfs:=uQ (show Seg.found D (l.take (i+1))=Seg.found D (l.take i)++(if (Seg.number s).2=true then [((Seg.number s).1,(D.size s).1)] else []) by
    rw [List.take_add_one,hs];exact Seg.found_snoc D _ s)
   have Hfl:=uQ (Seg.found_len D (l.take i))
   have Hlt:=uQ hlt;have Hs:=uQ hs
   have Hall:=uQ (Seg.all_size D s)
   clear hlt hs hll
   go_wp2_with fail
   refine (rnumber_c s _).mono ?_
   rintro ee w3 ⟨v,rfl,⟨a,rfl,ha⟩,rfl⟩
   cases hb:(Seg.number s).2
   ·have Hb:=uQ hb
    clear ha hb e0
    go_wp2_with fail
    go_roundg (l.length - (i+1))
    case measure=>have:=Hlt.out;omega
    case rel=>
     refine ⟨i+1,lv,rfl,Nat.succ_le_of_lt Hlt.out,by first|rfl|go_num,?_⟩
     rw [Hfs.out,Hb.out,if_neg dQ,List.append_nil]
     exact hS
   ·have Hb:=uQ hb
    obtain rfl:=ha hb
    clear ha hb
    have hra:=rall_c s Hl.out (fun i hi=>HD.out.len hi) (hS.pk (A:=DskRep d D))
    generalize (Seg.number s).1=nu at *
    generalize D.all s=A at *
    obtain ⟨b,e⟩:=A
    go_wp2_with fail
    refine hra.mono ?_
    rintro ee w4 ⟨v,rfl,bv,rfl,hS4⟩
    clear hra hS e0
    obtain ⟨ba,bc,rfl,_⟩:=bsl_sl hS4
    obtain ⟨la,lc,rfl⟩:=sgs_sl (Sat.rd (hS4.pk (A:=osl 84 2 lv (segw (Seg.found D (l.take i))))))
    have hsl:(segw (Seg.found D (l.take i))).length≤2147483648:=by rw [segw_len];have:=Hfl.out;rw [List.length_take]at this;have:=Hll.out;omega
    have Hsz:=uQ (show (D.size s).1=(b.length:Int) from Hall.out.symm)
    clear Hall
    go_wp2_with (first
     |((with_reducible refine at_build1 ⟨?_⟩);refine wl_build1 (e:=84) (sz:=2) (by':=16) kQ hS4 rQ (cs:=#[.int .i64 nu,.int .i64 (b.length:Int)]) rfl rfl bQ ?_;intro bN wN hN)
     |((with_reducible refine at_append ⟨?_⟩);refine wl_app 84 2 16 kQ hN rQ rQ pkD pkD rQ (Nat.le_refl 1) rQ hsl (by show 2≤65536;decide) dQ rfl ?_;intro bA nA cA wA hA;rw [segw_snoc]at hA;clear hS4 hN)
     |((with_reducible refine at_load ⟨?_⟩);refine ldQ ?_)|((with_reducible refine at_store ⟨?_⟩);refine stQ ?_;intro wS hS))
    go_roundg (l.length - (i+1))
    case measure=>have:=Hlt.out;omega
    case rel=>
     refine ⟨i+1,.slice (some ⟨bA,0,none⟩) nA cA,rfl,Nat.succ_le_of_lt Hlt.out,by first|rfl|go_num,?_⟩
     rw [Hfs.out,Hb.out,if_pos rfl,Hsz.out]
     exact Sat.sb hS
  ·obtain rfl:i=l.length:=by omega
   have c1:¬ (l.length:Int)<(l.length:Int):=oQ
   rw [List.take_length]at hS
   clear hlt
   go_wp2_with fail
   go_ret2
   refine ⟨_,rfl,bB,rfl,?_⟩
   rw [Hfr.out]
   exact RLogRep.shut (lv:=lv) (hS.sb)
end
end Go.Proofs.YtmjldaedhmipkaaGreatDoor
namespace Go.Rep
end Go.Rep
namespace Go.Seg
open Go.Med
end Go.Seg
namespace Go.Proofs.YtmjldaedhmipkaaGreatDoor
open Go Go.Sl Go.Med Go.MapKept Go.RowKit
section
variable {P:Program}{w0 w:World}{L L' R:List HProp}{ops:Array Oper}{rest:List Oper}{a:Act}{Q:Exit→Act→World→Prop}{dst:Option Tmp}{t ty T b:Nat}{pos:String}{after:Array Edge}{x:Operand}{cs:Array Value}{g:Nat×Bool}
theorem pt_rangeV (h:Sat w0 w L) (p:Pick (pt b (.cells cs T (0,0))) L R):w.rangeAt b 0 cs.toList:=fun j v hj=>by
 have:=h.cellP p j (by rw [← Array.getElem?_toList];exact hj)
 rw [Nat.zero_add];exact this
theorem wl_loadGV (hw:Region.wanted ⟨dst,.load ty x,t,pos,after,some g⟩ (yielded ops a.tmps)=true) (hs:Sat w0 w L) (hx:a.eval x = .pointer (some ⟨b,0,none⟩)) (p:Pick (pt b (.cells cs T (0,0))) L R)
  {d:TypeDesc} (hu:P.underlying ty=some d) (hd:d.isRow=true) (hi:(P.info? ty).map (·.size)=some cs.size)
  (h:wpList P ops Q rest (a.put dst (.agg cs)) w):wpList P ops Q (⟨dst,.load ty x,t,pos,after,some g⟩::rest) a w:=
 wl_loadGm hw hx cs.toList d (pt_rangeV hs p) hu hd (by rw [Array.length_toList];exact hi) (by rw [Array.toArray_toList];exact h)
end
section
variable {w0 w:World}{F:List HProp}{lv:Value}
end
end Go.Proofs.YtmjldaedhmipkaaGreatDoor
namespace Go.Seg
open Go.Med
structure Pys (i:Nat) (L:Log) (M D:Med):Prop where
 two:Two i L M D
 cap:M.Cap (i * 600)
 len:L.l.length≤500+i
section
variable {i:Nat}{L:Log}{M D:Med}
theorem enc_le {x:Frm.Ent} (hk:x.key.length=32) (hd:x.data.length≤300):(Frm.encode x).1.length≤341:=by
 by_cases h:(Frm.encode x).2=0
 ·exact enc_small h hk hd
 ·unfold Frm.encode at h ⊢
  split
  ·exact Nat.zero_le _
  ·rename_i hc
   rw [if_neg hc]at h
   exact absurd rfl h
theorem Pys.start (r:Nat) (hr:r≤16777216) (limit:Int) (h1:128≤limit) (h2:limit≤1048576):Pys 0 (Seg.fresh (new r) limit) (new r) (new r):=
 ⟨Two.first r hr limit h1 h2,Med.Cap.new _ r,Nat.zero_le _⟩
theorem Pys.append (h:Pys i L M D) (x:Frm.Ent) (hk:x.key.length=32) (hd:x.data.length≤300):Pys (i+1) (L.append M x).1.1 (L.append M x).1.2 (L.rappend D x).1.2:=by
 have e:=enc_le hk hd
 exact ⟨(h.two.append x hk).two,(cap_append h.cap h.two.ok x).mono oQ,by have:=append_len L M x;have:=h.len;omega⟩
theorem Pys.commit (h:Pys i L M D):Pys (i+1) (L.commit M).1.1 (L.commit M).1.2 (L.rcommit D).1.2:=
 ⟨h.two.commit.two,(cap_commit h.cap h.two.ok).mono oQ,by have:=commit_len L M;have:=h.len;omega⟩
theorem Pys.rollback (h:Pys i L M D) (hi:i≤1000):Pys (i+1) (L.rollback M).1.1 (L.rollback M).1.2 (L.rrollback D).1.2:=
 ⟨(h.two.rollback hi).two,(cap_rollback h.cap).mono oQ,by have:=rollback_len L M;have:=h.len;omega⟩
theorem Pys.arm (h:Pys i L M D) (n:Int) (hn:n≤9223372036854775807):Pys (i+1) L (M.arm n).1 (D.arm n).1:=
 ⟨(h.two.arm n hn).2,(h.cap.arm n).mono oQ,by have:=h.len;omega⟩
theorem Pys.crash (h:Pys i L M D) (l:List Int) (limit:Int) (h1:128≤limit) (h2:limit≤1048576):Pys (i+1) (Seg.fresh (M.crash l) limit) (M.crash l) (D.rcrash l):=
 ⟨(h.two.crash l limit h1 h2).1,(h.cap.crash l).mono oQ,Nat.le_trans (fresh_len (h.two.ok.crash l) limit) oQ⟩
theorem Pys.rows (h:Pys i L M D) (hi:i≤30):(Rep.rowsOf (fun s=>L.bytes M s) L.segs).length≤12000000:=by
 refine Nat.le_trans (rows_cap h.cap h.two.ok h.len) ?_
 refine Nat.le_trans (Nat.mul_le_mul (show 500+i≤530 by omega) (show i * 600≤18000 by omega)) dQ
theorem Pys.sizes (h:Pys i L M D) (hi:i≤30):∀ r∈Rep.rowsOf (fun s=>L.bytes M s) L.segs,(r.2.size:Int)≤4294967296:=fun r hr=>by
 have:=rows_size h.cap h.two.ok _ r hr
 omega
theorem Pys.told (h:Pys i L M D):∀ s∈L.segs,D.all (name s)=L.bytes M s:=fun s hs=>by
 obtain ⟨φ,V,sd⟩:=h.two.side
 exact (sd.all h.two.ok _).trans (bytes_all h.two.log M hs).symm
end
end Go.Seg
