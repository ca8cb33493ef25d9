import Derived.Test.YtmjldaedhmipkaaGreatDoorJ8
set_option maxHeartbeats 128000000
set_option linter.unusedVariables false
namespace Go.Frm
theorem lt_take:∀ {a b:Bs}{i:Nat}{x y:UInt8},a.take i=b.take i→a[i]?=some x→b[i]?=some y→x≠y→(a<b↔x<y)
 |[],_,_,_,_,_,h,_,_=>by simp at h
 |_::_,[],_,_,_,_,_,h,_=>by simp at h
 |c::a,d::b,0,x,y,_,h1,h2,hne=>by
  obtain rfl:c=x:=by simpa using h1
  obtain rfl:d=y:=by simpa using h2
  rw [List.cons_lt_cons_iff]
  exact ⟨fun h=>h.resolve_right fun e=>hne e.1,.inl⟩
 |c::a,d::b,i+1,x,y,ht,h1,h2,hne=>by
  simp only [List.take_succ_cons,List.cons.injEq]at ht
  obtain ⟨rfl,ht⟩:=ht
  rw [List.cons_lt_cons_iff,← lt_take ht (by simpa using h1) (by simpa using h2) hne]
  exact ⟨fun h=>h.elim (fun h=>absurd h (UInt8.lt_irrefl c)) (·.2),fun h=> .inr ⟨rfl,h⟩⟩
end Go.Frm
namespace Go.Proofs.YtmjldaedhmipkaaGreatDoor
open Go Go.Sl Go.Med Go.MapKept Go.RowKit
section
variable {w0 w:World}{F:List HProp}{av bv v:Value}
theorem bys_at {l:Bs}{i:Nat}{x:UInt8} (h:l[i]?=some x):(bys l)[i]?=some (.int .u8 x.toNat):=by unfold bys;rw [List.getElem?_map,h];rfl
theorem bys_atA {l:Bs}{i:Nat}{x:UInt8} (h:l[i]?=some x):(bys l).toArray[i]?=some (.int .u8 x.toNat):=by rw [List.getElem?_toArray];exact bys_at h
theorem take_next {α:Type}{a b:List α}{i:Nat}{x:α} (h:a.take i=b.take i) (h1:a[i]?=some x) (h2:b[i]?=some x):a.take (i+1)=b.take (i+1):=by
 rw [List.take_add_one,List.take_add_one,h,h1,h2]
theorem rless_c (a b:Bs) (ha:a.length=32) (hb:b.length=32) (h:Sat w0 w F) :
  Calls Tryz.prog 59 #[.agg (bys a).toArray,.agg (bys b).toArray] w (Rtn fun v w'=>v = .bool (decide (a<b))∧Sat w0 w' F):=by
 have Ha:=uQ ha;have Hb:=uQ hb
 clear ha hb
 go_enter Tryz.func59,Tryz.ntmps59
 go_wp2_with (with_reducible apply at_box)
 refine ⟨wl_box h evD evD ?_⟩
 intro b2 w2 h2
 go_wp2_with (with_reducible apply at_box)
 refine ⟨wl_box h2 evD evD ?_⟩
 intro b3 w3 h3
 clear h h2
 go_wp2_with fail
 go_loopg [5] 32 (fun g iq wr=>∃ i:Nat,g=32 - i∧i≤32∧iq = .int .i64 i∧a.take i=b.take i∧Sat w0 wr (pt b3 (.cells (bys b).toArray 41 (0,0))::pt b2 (.cells (bys a).toArray 41 (0,0))::F))
 case atStart=>exact ⟨0,rfl,Nat.zero_le _,rfl,rfl,h3⟩
 case round=>
  obtain ⟨i,rfl,hi,rfl,htk,hS⟩:=hrel
  clear h3
  by_cases hlt:i<32
  ·have c1:(i:Int)<32:=by omega
   have hwi:=iwQ (i:=i)
   obtain ⟨x,hx⟩:∃ x,a[i]?=some x:=⟨_,List.getElem?_eq_getElem (by have:=Ha.out;omega)⟩
   obtain ⟨y,hy⟩:∃ y,b[i]?=some y:=⟨_,List.getElem?_eq_getElem (by have:=Hb.out;omega)⟩
   have hG0:World.cell? _ ⟨b2,i,none⟩=some (.int .u8 x.toNat)∧World.cell? _ ⟨b3,i,none⟩=some (.int .u8 y.toNat):=⟨hS.drew.cellP pick1 i (bys_atA hx),hS.drew.cellP pick0 i (bys_atA hy)⟩
   have Hx:=uQ hx;have Hy:=uQ hy;have Htk:=uQ htk;have Hlt:=uQ hlt
   clear htk hi hlt hx hy
   have hS1:=hS.drew
   by_cases hxy:x=y
   ·subst hxy
    have Hn:=uQ (take_next Htk.out Hx.out Hy.out)
    generalize (x.toNat:Int)=X at *
    go_wp2_with fail
    refine wpL_begin [6] (fun w'=>w'.cell? ⟨b2,i,none⟩=some (.int .u8 X)∧w'.cell? ⟨b3,i,none⟩=some (.int .u8 X)) kQ ?_
    have hG:=hG0
    clear hG0
    refine rP 0 ?_ (y:=mvQ)
    refine rP 1 ?_ (y:=ixQ)
    refine rt 2 (h:=?_)
    refine rP 3 ?_ (y:=mvQ)
    refine rP 4 ?_ (y:=ixQ)
    refine rt 5 (h:=?_)
    refine rP 6 ?_ (y:=bnQ)
    refine wdQ ?_
    clear hG
    try simp only [ayQ]
    try go_frame
    go_wp2_with fail
    go_roundg (32 - (i+1))
    case measure=>have:=Hlt.out;omega
    case rel=>exact ⟨i+1,rfl,Hlt.out,by first|rfl|go_num,Hn.out,hS1⟩
   ·have He:=uQ (show decide (a<b)=decide ((x.toNat:Int)<(y.toNat:Int)) by
     rw [decide_eq_decide,Frm.lt_take Htk.out Hx.out Hy.out hxy,UInt8.lt_iff_toNat_lt];omega)
    have hne:((x.toNat:Int)==(y.toNat:Int))=false:=by
     rw [beq_eq_false_iff_ne];intro e;exact hxy (UInt8.toNat_inj.1 oQ)
    have hne2:((x.toNat:Int) != (y.toNat:Int))=true:=by
     rw [bne_iff_ne];intro e;exact hxy (UInt8.toNat_inj.1 oQ)
    clear hxy
    generalize (x.toNat:Int)=X at *
    generalize (y.toNat:Int)=Y at *
    go_wp2_with fail
    refine wpL_begin [6] (fun w'=>w'.cell? ⟨b2,i,none⟩=some (.int .u8 X)∧w'.cell? ⟨b3,i,none⟩=some (.int .u8 Y)) kQ ?_
    have hG:=hG0
    clear hG0
    refine rP 0 ?_ (y:=mvQ)
    refine rP 1 ?_ (y:=ixQ)
    refine rt 2 (h:=?_)
    refine rP 3 ?_ (y:=mvQ)
    refine rP 4 ?_ (y:=ixQ)
    refine rt 5 (h:=?_)
    refine rP 6 ?_ (y:=bnQ)
    refine wdQ ?_
    try simp only [ayQ]
    try go_frame
    go_wp2_with fail
    have hG2:World.cell? _ ⟨b2,i,none⟩=some (.int .u8 X)∧World.cell? _ ⟨b3,i,none⟩=some (.int .u8 Y):=hG
    have hS2:=hS1.drew
    clear hG
    refine wpL_begin [6,7] (fun w'=>w'.cell? ⟨b2,i,none⟩=some (.int .u8 X)∧w'.cell? ⟨b3,i,none⟩=some (.int .u8 Y)) kQ ?_
    have hG:World.cell? _ ⟨b2,i,none⟩=some (.int .u8 X)∧World.cell? _ ⟨b3,i,none⟩=some (.int .u8 Y):=⟨by first|exact hG2.1|exact hS2.cellP pick1 i (by rw [bys_atA Hx.out];rfl),by first|exact hG2.2|exact hS2.cellP pick0 i (by rw [bys_atA Hy.out];rfl)⟩
    refine rP 0 ?_ (y:=mvQ)
    refine rP 1 ?_ (y:=ixQ)
    refine rt 2 (h:=?_)
    refine rP 3 ?_ (y:=mvQ)
    refine rP 4 ?_ (y:=ixQ)
    refine rt 5 (h:=?_)
    refine rP 6 ?_ (y:=bnQ)
    refine rP 7 ?_ (y:=asQ)
    refine wdQ ?_
    clear hG hG2
    try simp only [ayQ]
    try go_frame
    go_wp2_with fail
    go_ret
    rw [He.out]
    exact ⟨_,rfl,rfl,hS2.sb⟩
  ·obtain rfl:i=32:=by omega
   have hab:a=b:=by
    rw [List.take_of_length_le (by have:=Ha.out;omega),List.take_of_length_le (by have:=Hb.out;omega)]at htk
    exact htk
   have He:=uQ (show decide (a<b)=false by rw [hab];exact decide_eq_false (List.lt_irrefl b))
   clear htk hlt hi hab
   go_wp2_with fail
   go_ret
   rw [He.out]
   exact ⟨_,rfl,rfl,hS.sb⟩
theorem rsame_c (la lb:Bs) (ha:Ro w0 F (rdsl 1 av (bys la))) (hb:Ro w0 F (rdsl 1 bv (bys lb))) (h:Sat w0 w F) (hlen:la.length≤1099511627776) :
  Calls Tryz.prog 61 #[av,bv] w (Rtn fun v w'=>v = .bool (decide (la=lb))∧Sat w0 w' F):=by
 obtain ⟨aa,an,ac,rfl,hal,_⟩:=id (ha w h)
 obtain ⟨ba,bn,bc,rfl,hbl,_⟩:=id (hb w h)
 rw [bys_len,Nat.mul_one]at hal hbl
 subst hal;subst hbl
 have Ha:=uQ ha;have Hb:=uQ hb;have Hlen:=uQ hlen
 clear ha hb hlen
 by_cases hl:la.length=lb.length
 ·have Hl:=uQ hl
  have hli:(la.length:Int)=(lb.length:Int):=oQ
  go_enter Tryz.func61,Tryz.ntmps61
  clear hl
  go_wp2_with fail
  clear hli
  go_loopg [5] la.length (fun g iq wr=>∃ i:Nat,g=la.length - i∧i≤la.length∧iq = .int .i64 i∧la.take i=lb.take i∧Sat w0 wr F)
  case atStart=>exact ⟨0,rfl,Nat.zero_le _,rfl,rfl,h⟩
  case round=>
   obtain ⟨i,rfl,hiN,rfl,htk,hS⟩:=hrel
   clear h
   by_cases hi:i<la.length
   ·obtain ⟨x,hx⟩:∃ x,la[i]?=some x:=⟨_,List.getElem?_eq_getElem hi⟩
    obtain ⟨y,hy⟩:∃ y,lb[i]?=some y:=⟨_,List.getElem?_eq_getElem (by have:=Hl.out;omega)⟩
    have hS1:=hS.drew
    obtain ⟨bk,off,rfl,d1⟩:=rdsl_cell (Ha.out _ hS1) (bys_at hx)
    obtain ⟨bk2,off2,rfl,d2⟩:=rdsl_cell (Hb.out _ hS1) (bys_at hy)
    have hic:(i:Int)<(la.length:Int):=oQ
    have hil:(i:Int)<(lb.length:Int):=by have:=Hl.out;omega
    have hwi:IntKind.i64.wrap ((i:Int)+1)=(i:Int)+1:=IntWalk.i64_in _ (by have:=Hlen.out;omega)
    have Hi:=uQ hi
    by_cases hxy:x=y
    ·subst hxy
     have Hn:=uQ (take_next htk hx hy)
     clear htk hx hy hi hiN
     generalize (x.toNat:Int)=X at *
     go_wp2_with fail
     refine wpL_begin [8] (fun w'=>w'.cell? ⟨bk,off+i,none⟩=some (.int .u8 X)∧w'.cell? ⟨bk2,off2+i,none⟩=some (.int .u8 X)) kQ ?_
     have hG:_∧_:=And.intro d1 d2
     refine rP 0 ?_ (y:=mvQ)
     refine rP 1 ?_ (y:=mvQ)
     refine rP 2 ?_ (y:=ixQ)
     refine rt 3 (h:=?_)
     refine rP 4 ?_ (y:=mvQ)
     refine rP 5 ?_ (y:=mvQ)
     refine rP 6 ?_ (y:=ixQ)
     refine rt 7 (h:=?_)
     refine rP 8 ?_ (y:=bnQ)
     refine wdQ ?_
     clear hG
     try simp only [ayQ]
     try go_frame
     go_wp2_with fail
     go_roundg (la.length - (i+1))
     case measure=>have:=Hi.out;omega
     case rel=>exact ⟨i+1,rfl,Nat.succ_le_of_lt Hi.out,by first|rfl|go_num,Hn.out,hS1⟩
    ·have Hne:=uQ (show decide (la=lb)=false from decide_eq_false fun e=>hxy (by rw [e,hy]at hx;exact (Option.some.inj hx).symm))
     have hne:((x.toNat:Int)==(y.toNat:Int))=false:=by
      rw [beq_eq_false_iff_ne];intro e;exact hxy (UInt8.toNat_inj.1 oQ)
     have hne2:((x.toNat:Int) != (y.toNat:Int))=true:=by
      rw [bne_iff_ne];intro e;exact hxy (UInt8.toNat_inj.1 oQ)
     clear htk hx hy hi hiN hxy
     generalize (x.toNat:Int)=X at *
     generalize (y.toNat:Int)=Y at *
     go_wp2_with fail
     refine wpL_begin [8] (fun w'=>w'.cell? ⟨bk,off+i,none⟩=some (.int .u8 X)∧w'.cell? ⟨bk2,off2+i,none⟩=some (.int .u8 Y)) kQ ?_
     have hG:_∧_:=And.intro d1 d2
     refine rP 0 ?_ (y:=mvQ)
     refine rP 1 ?_ (y:=mvQ)
     refine rP 2 ?_ (y:=ixQ)
     refine rt 3 (h:=?_)
     refine rP 4 ?_ (y:=mvQ)
     refine rP 5 ?_ (y:=mvQ)
     refine rP 6 ?_ (y:=ixQ)
     refine rt 7 (h:=?_)
     refine rP 8 ?_ (y:=bnQ)
     refine wdQ ?_
     clear hG
     try simp only [ayQ]
     try go_frame
     go_wp2_with fail
     go_ret
     rw [Hne.out]
     exact ⟨_,rfl,rfl,hS1⟩
   ·obtain rfl:i=la.length:=by omega
    have hic:¬ (la.length:Int)<(la.length:Int):=oQ
    have Hfin:=uQ (show decide (la=lb)=true from decide_eq_true (by
     have h1:=Hl.out
     rw [List.take_length]at htk
     rw [h1,List.take_length]at htk
     exact htk))
    clear htk hi hiN
    go_wp2_with fail
    go_ret
    rw [Hfin.out]
    exact ⟨_,rfl,rfl,hS⟩
 ·have hli:¬ ((la.length:Int)=(lb.length:Int)):=by omega
  have hlb:((la.length:Int)==(lb.length:Int))=false:=by rw [beq_eq_false_iff_ne];exact hli
  have hlb2:((la.length:Int) != (lb.length:Int))=true:=by rw [bne_iff_ne];exact hli
  have Hne:=uQ (show decide (la=lb)=false from decide_eq_false fun e=>hl (by rw [e]))
  clear hl
  go_enter Tryz.func61,Tryz.ntmps61
  go_wp2_with fail
  go_ret
  rw [Hne.out]
  exact ⟨_,rfl,rfl,h⟩
set_option maxRecDepth 20000 in
theorem sameIndex_c (l:List (Bs×Seg.Plc)) (hk:∀ q∈l,q.1.length=32) (ha:Ro w0 F (rdsl 35 av (l.flatMap kvL))) (hb:Ro w0 F (rdsl 35 bv (l.flatMap kvL))) (h:Sat w0 w F) (hlen:l.length≤1073741824) :
  Calls Tryz.prog 55 #[av,bv] w (Rtn fun v w'=>v = .bool true∧Sat w0 w' F):=by
 have Hkl:=uQ (show ∀ q∈l,(kvL q).length=35 from fun q hq=>kvL_len q (hk q hq))
 obtain ⟨aa,ac,rfl⟩:=osl_rows Hkl.out (ha w h) dQ
 obtain ⟨ba,bc,rfl⟩:=osl_rows Hkl.out (hb w h) dQ
 have Ha:=uQ ha;have Hb:=uQ hb;have Hk:=uQ hk;have Hlen:=uQ hlen
 clear ha hb hk hlen
 go_enter Tryz.func55,Tryz.ntmps55
 go_wp2_with fail
 go_loopg [5] l.length (fun g iq wr=>∃ i:Nat,g=l.length - i∧i≤l.length∧iq = .int .i64 i∧Sat w0 wr F)
 case atStart=>exact ⟨0,rfl,Nat.zero_le _,rfl,h⟩
 case round=>
  obtain ⟨i,rfl,hiN,rfl,hS⟩:=hrel
  clear h
  by_cases hi:i<l.length
  ·have hic:(i:Int)<(l.length:Int):=by omega
   have hwi:IntKind.i64.wrap ((i:Int)+1)=(i:Int)+1:=IntWalk.i64_in _ (by have:=Hlen.out;omega)
   obtain ⟨q,hq⟩:∃ q,l[i]?=some q:=⟨_,List.getElem?_eq_getElem hi⟩
   have hS1:=hS.drew
   obtain ⟨bk,off,c',e1,d1⟩:=osl_row Hkl.out (Ha.out _ hS1) hq dQ
   obtain ⟨bk2,off2,c2',e2,d2⟩:=osl_row Hkl.out (Hb.out _ hS1) hq dQ
   cases e1;cases e2
   have Hqk:=uQ (Hk.out q (List.mem_of_getElem? hq))
   have Hql:=uQ (Hkl.out q (List.mem_of_getElem? hq))
   have Hi:=uQ hi
   clear hq hi hiN
   go_wp2_with fail
   refine wpL_begin [8] (fun w'=>w'.rangeAt bk (off+i * 35) (kvL q)∧w'.rangeAt bk2 (off2+i * 35) (kvL q)) kQ ?_
   have hG:World.rangeAt _ bk (off+i * 35) (kvL q)∧World.rangeAt _ bk2 (off2+i * 35) (kvL q):=And.intro d1 d2
   refine rP 0 ?_ (y:=mvQ)
   refine rP 1 ?_ (y:=mvQ)
   refine rP 2 ?_ (y:=ixQ)
   refine rg_take 3 evD kQ iQ (tk_loadN (b:=bk) (o:=off+i * 35) (kvL q) rQ Tryz.underlying117 rfl (by rw [Hql.out];kernel_rfl) (fun w hw=>hw.1)) aQ gQ ?_
   refine rP 4 ?_ (y:=mvQ)
   refine rP 5 ?_ (y:=mvQ)
   refine rP 6 ?_ (y:=ixQ)
   refine rg_take 7 evD kQ iQ (tk_loadN (b:=bk2) (o:=off2+i * 35) (kvL q) rQ Tryz.underlying117 rfl (by rw [Hql.out];kernel_rfl) (fun w hw=>hw.2)) aQ gQ ?_
   clear hG d1 d2
   refine rg_pure 8 evD kQ iQ (yl_bin evD evD (fun w=>by
    have:=neq_self (eqIn_kv q Hqk.out) w
    simp [eqGuard,Sem.run_bind,this];rfl)) gQ ?_
   refine wdQ ?_
   try simp only [ayQ]
   try go_frame
   go_wp2_with fail
   go_roundg (l.length - (i+1))
   case measure=>have:=Hi.out;omega
   case rel=>exact ⟨i+1,rfl,Nat.succ_le_of_lt Hi.out,by first|rfl|go_num,hS1⟩
  ·obtain rfl:i=l.length:=by omega
   have hic:¬ (l.length:Int)<(l.length:Int):=oQ
   clear hi hiN
   go_wp2_with fail
   go_ret
   exact ⟨.bool true,rfl,rfl,hS⟩
set_option maxRecDepth 20000 in
theorem sameUses_c (l:List Rep.Use) (ha:Ro w0 F (rdsl 3 av (l.flatMap uenc))) (hb:Ro w0 F (rdsl 3 bv (l.flatMap uenc))) (h:Sat w0 w F) (hlen:l.length≤1073741824) :
  Calls Tryz.prog 57 #[av,bv] w (Rtn fun v w'=>v = .bool true∧Sat w0 w' F):=by
 have Hkl:=uQ (show ∀ q∈l,(uenc q).length=3 from fun q hq=>uenc_len q)
 obtain ⟨aa,ac,rfl⟩:=osl_rows Hkl.out (ha w h) dQ
 obtain ⟨ba,bc,rfl⟩:=osl_rows Hkl.out (hb w h) dQ
 have Ha:=uQ ha;have Hb:=uQ hb;have Hlen:=uQ hlen
 clear ha hb hlen
 go_enter Tryz.func57,Tryz.ntmps57
 go_wp2_with fail
 go_loopg [5] l.length (fun g iq wr=>∃ i:Nat,g=l.length - i∧i≤l.length∧iq = .int .i64 i∧Sat w0 wr F)
 case atStart=>exact ⟨0,rfl,Nat.zero_le _,rfl,h⟩
 case round=>
  obtain ⟨i,rfl,hiN,rfl,hS⟩:=hrel
  clear h
  by_cases hi:i<l.length
  ·have hic:(i:Int)<(l.length:Int):=by omega
   have hwi:IntKind.i64.wrap ((i:Int)+1)=(i:Int)+1:=IntWalk.i64_in _ (by have:=Hlen.out;omega)
   obtain ⟨q,hq⟩:∃ q,l[i]?=some q:=⟨_,List.getElem?_eq_getElem hi⟩
   have hS1:=hS.drew
   obtain ⟨bk,off,c',e1,d1⟩:=osl_row Hkl.out (Ha.out _ hS1) hq dQ
   obtain ⟨bk2,off2,c2',e2,d2⟩:=osl_row Hkl.out (Hb.out _ hS1) hq dQ
   cases e1;cases e2
   have Hi:=uQ hi
   clear hq hi hiN
   go_wp2_with fail
   refine wpL_begin [8] (fun w'=>w'.rangeAt bk (off+i * 3) (uenc q)∧w'.rangeAt bk2 (off2+i * 3) (uenc q)) kQ ?_
   have hG:World.rangeAt _ bk (off+i * 3) (uenc q)∧World.rangeAt _ bk2 (off2+i * 3) (uenc q):=And.intro d1 d2
   refine rP 0 ?_ (y:=mvQ)
   refine rP 1 ?_ (y:=mvQ)
   refine rP 2 ?_ (y:=ixQ)
   refine rg_take 3 evD kQ iQ (tk_loadN (b:=bk) (o:=off+i * 3) (uenc q) rQ Tryz.underlying115 rfl kQ (fun w hw=>hw.1)) aQ gQ ?_
   refine rP 4 ?_ (y:=mvQ)
   refine rP 5 ?_ (y:=mvQ)
   refine rP 6 ?_ (y:=ixQ)
   refine rg_take 7 evD kQ iQ (tk_loadN (b:=bk2) (o:=off2+i * 3) (uenc q) rQ Tryz.underlying115 rfl kQ (fun w hw=>hw.2)) aQ gQ ?_
   clear hG d1 d2
   refine rg_pure 8 evD kQ iQ (yl_bin evD evD (fun w=>by
    have:=neq_self (eqIn_use q.seg q.size q.live) w
    unfold uenc
    simp [eqGuard,Sem.run_bind,this];rfl)) gQ ?_
   refine wdQ ?_
   try simp only [ayQ]
   try go_frame
   go_wp2_with fail
   go_roundg (l.length - (i+1))
   case measure=>have:=Hi.out;omega
   case rel=>exact ⟨i+1,rfl,Nat.succ_le_of_lt Hi.out,by first|rfl|go_num,hS1⟩
  ·obtain rfl:i=l.length:=by omega
   have hic:¬ (l.length:Int)<(l.length:Int):=oQ
   clear hi hiN
   go_wp2_with fail
   go_ret
   exact ⟨.bool true,rfl,rfl,hS⟩
end
end Go.Proofs.YtmjldaedhmipkaaGreatDoor
namespace Go.Frm
theorem read_tag {b:Bs} (h:(read b).2.2=0):(read b).1.tag=0∨(read b).1.tag=1∨(read b).1.tag=2:=by
 unfold read at *
 dsimp only at *
 split at h
 ·simp at h
 rename_i h9
 rw [if_neg h9]
 split at h
 ·simp at h
 rename_i hf
 rw [if_neg hf]
 split at h
 ·simp at h
 rename_i hl
 rw [if_neg hl]
 split at h
 ·simp at h
 rename_i hc
 rw [if_neg hc]
 have ht:b.getD 8 0=0∨b.getD 8 0=1∨b.getD 8 0=2:=by
  unfold fits at hf
  split at hf
  ·exact .inl aQ
  split at hf
  ·exact .inr (.inl aQ)
  split at hf
  ·exact .inr (.inr aQ)
  ·exact absurd rfl hf
 split
 all_goals
  dsimp only
  rcases ht with e|e|e <;> rw [e]
  ·exact .inl rfl
  ·exact .inr (.inl rfl)
  ·exact .inr (.inr rfl)
theorem scanL_ok:∀ (k:Nat) (b:Bs) (at_:Nat),∀ f∈(scanL k b at_).1,(f.e.tag=0∨f.e.tag=1∨f.e.tag=2)∧f.e.key.length=32∧9≤f.size∧f.size≤b.length
 |0,_,_,f,hf=>by cases hf
 |k+1,b,at_,f,hf=>by
  unfold scanL at hf
  split at hf
  ·cases hf
  split at hf
  ·cases hf
  rename_i he
  have he:(read b).2.2=0:=by simpa using he
  have h1:=read_ok he
  simp only at hf
  rcases List.mem_cons.1 hf with rfl|hf
  ·exact ⟨read_tag he,h1.2.2,h1.1,h1.2.1⟩
  ·have h2:=scanL_ok k _ _ f hf
   refine ⟨h2.1,h2.2.1,h2.2.2.1,Nat.le_trans h2.2.2.2 ?_⟩
   rw [List.length_drop];omega
theorem scan_ok (b:Bs):∀ f∈(scan b).1,(f.e.tag=0∨f.e.tag=1∨f.e.tag=2)∧f.e.key.length=32∧9≤f.size∧f.size≤b.length:=fun f hf=>by
 unfold scan at hf
 split at hf
 ·have h:=scanL_ok _ _ _ f hf
  refine ⟨h.1,h.2.1,h.2.2.1,Nat.le_trans h.2.2.2 ?_⟩
  rw [List.length_drop];omega
 ·cases hf
end Go.Frm
namespace Go.Rep
open Go.Frm (Bs Fnd)
open Go.Seg (Plc)
open Go.Tab
theorem rowsOf_mem {bt:Told}{ns:List Int}{r:Row} (h:r∈rowsOf bt ns):r.1∈ns∧r.2∈(Frm.scan (bt r.1).1).1:=by
 unfold rowsOf at h
 obtain ⟨s,hs,h⟩:=List.mem_flatMap.1 h
 obtain ⟨f,hf,rfl⟩:=List.mem_map.1 h
 exact ⟨hs,hf⟩
theorem rowsOf_rows {bt:Told}{ns:List Int} (hr:ns.Pairwise (· < ·)) (h0:∀ s∈ns,0≤s):Rows (rowsOf bt ns):=by
 refine ⟨fun r h=>(Frm.scan_ok _ _ (rowsOf_mem h).2).1,fun r h=>h0 _ (rowsOf_mem h).1,?_⟩
 unfold rowsOf
 rw [List.pairwise_flatMap]
 refine ⟨fun s _=>?_,hr.imp fun {a b} hab x hx y hy=>?_⟩
 ·rw [List.pairwise_map]
  exact List.pairwise_of_forall fun _ _=>Int.le_refl s
 ·obtain ⟨_,_,rfl⟩:=List.mem_map.1 hx
  obtain ⟨_,_,rfl⟩:=List.mem_map.1 hy
  exact Int.le_of_lt hab
theorem rowsOf_count {bt:Told}{c:Nat}:∀ (ns:List Int),(∀ s∈ns,(bt s).1.length≤c)→(rowsOf bt ns).length≤ns.length * c
 |[],_=>Nat.zero_le _
 |s::ns,h=>by
  have e:rowsOf bt (s::ns)=((Frm.scan (bt s).1).1.map fun f=>(s,f))++rowsOf bt ns:=rfl
  have h1:=Frm.scan_count (bt s).1
  have h2:=h s (.head _)
  have h3:=rowsOf_count ns fun x hx=>h x (.tail _ hx)
  rw [e,List.length_append,List.length_map,List.length_cons,Nat.succ_mul]
  omega
theorem rowsOf_size {bt:Told}{ns:List Int}{c:Nat} (h:∀ s∈ns,(bt s).1.length≤c){r:Row} (hr:r∈rowsOf bt ns):r.2.size≤c:=
 Nat.le_trans (Frm.scan_ok _ _ (rowsOf_mem hr).2).2.2.2 (h _ (rowsOf_mem hr).1)
def uAt (l:List Row) (us:List Use) (i:Nat):List Use:=us.map fun u=>⟨u.seg,u.size,u.live+live l u.seg i⟩
theorem live_le {l:List Row}{b:Int} (hb:0≤b) (h:∀ r∈l,(r.2.size:Int)≤b) (s:Int):∀ i,0≤live l s i∧live l s i≤b * i
 |0=>⟨Int.le_refl 0,by simp [live]⟩
 |i+1=>by
  have ih:=live_le hb h s i
  have e:b * ((i+1:Nat):Int)=b * i+b:=by rw [Int.natCast_add,Int.mul_add];simp
  unfold live
  split
  ·rw [e];omega
  ·rename_i r hr
   have:=h r (List.mem_of_getElem? hr)
   rw [e]
   split <;> omega
theorem uAt_zero (l:List Row) (us:List Use):uAt l us 0=us:=by
 unfold uAt
 rw [List.map_congr_left (g:=id)]
 ·exact List.map_id _
 ·intro u _;show (⟨u.seg,u.size,u.live+0⟩:Use)=u;rw [Int.add_zero]
theorem uAt_all {l:List Row} (hl:Rows l){kv:List (Bs×Abt)} (hk:Lists (ledger l) kv){us:List Use} (h0:∀ u∈us,u.live=0):uAt l us l.length=us.map (upd kv):=by
 unfold uAt upd
 refine List.map_congr_left fun u hu=>?_
 rw [live_eq hl hk,h0 u hu,Int.zero_add]
theorem uAt_len (l:List Row) (us:List Use) (i:Nat):(uAt l us i).length=us.length:=List.length_map ..
theorem usesOf_zero (bt:Told) (ns:List Int):∀ u∈usesOf bt ns,u.live=0:=fun u hu=>by
 unfold usesOf at hu
 obtain ⟨s,_,rfl⟩:=List.mem_map.1 hu
 rfl
theorem idx_len (l:List Row):∀ i,(idx l i).length≤i
 |0=>Nat.le_refl 0
 |i+1=>by
  have ih:=idx_len l i
  unfold idx
  split
  ·omega
  ·split
   ·rename_i r _ _
    have:∀ (k:List (Bs×Plc)) (x:Bs×Plc),(ins k x).length=k.length+1:=by
     intro k x
     induction k with
     |nil=>rfl
     |cons y k ih=>unfold ins;split <;> simp [ih]
    rw [this];omega
   ·omega
theorem idx_key {l:List Row} (h:∀ r∈l,(rkey r).length=32){n:Nat}:∀ q∈idx l n,q.1.length=32:=fun q hq=>by
 obtain ⟨i,r,_,hr,_,_,rfl⟩:=idx_mem.1 hq
 exact h r (List.mem_of_getElem? hr)
def hit (k:Bs) (r:Row):Bool:=decide (rtag r<2) && decide (rkey r=k)
def newIdx (l:List Row) (k:Bs):Nat→Int
 |0=> -1
 |i+1=>match l[i]? with
  |none=>newIdx l k i
  |some r=>if hit k r=true then (i:Int) else newIdx l k i
section
variable {l:List Row}{k:Bs}{i:Nat}{r:Row}
theorem newIdx_hit (hr:l[i]?=some r) (h:hit k r=true):newIdx l k (i+1)=i:=by
 conv=>lhs;unfold newIdx
 rw [hr];simp only;rw [if_pos h]
theorem newIdx_miss (hr:l[i]?=some r) (h:hit k r=false):newIdx l k (i+1)=newIdx l k i:=by
 conv=>lhs;unfold newIdx
 rw [hr];simp only;rw [if_neg (by rw [h];decide)]
theorem newIdx_lt (l:List Row) (k:Bs):∀ n,newIdx l k n<n ∧ -1≤newIdx l k n
 |0=>⟨by unfold newIdx;decide,by unfold newIdx;decide⟩
 |n+1=>by
  have:=newIdx_lt l k n
  unfold newIdx
  split
  ·omega
  ·split <;> omega
theorem newIdx_iff (l:List Row) (k:Bs):∀ (n i:Nat),n≤l.length→i<n→(newIdx l k n=i↔(∃ r,l[i]?=some r∧hit k r=true)∧∀ j,i<j→j<n→∀ x,l[j]?=some x→hit k x=false)
 |0,i,_,h=>by omega
 |n+1,i,hn,hi=>by
  obtain ⟨r,hr⟩:∃ r,l[n]?=some r:=⟨_,List.getElem?_eq_getElem oQ⟩
  cases hh:hit k r with
  |true=>
   rw [newIdx_hit hr hh]
   constructor
   ·intro e
    obtain rfl:n=i:=by omega
    exact ⟨⟨r,hr,hh⟩,fun j h1 h2=>by omega⟩
   ·rintro ⟨_,h2⟩
    by_cases e:i=n
    ·rw [e]
    ·have:=h2 n oQ oQ r hr
     rw [hh]at this;cases this
  |false=>
   rw [newIdx_miss hr hh]
   by_cases e:i=n
   ·subst e
    constructor
    ·intro e;have:=(newIdx_lt l k i).1;omega
    ·rintro ⟨⟨x,hx,hxx⟩,_⟩
     rw [hr]at hx;cases hx
     rw [hh]at hxx;cases hxx
   ·rw [newIdx_iff l k n i oQ oQ]
    refine and_congr_right fun _=>⟨fun h j h1 h2 x hx=>?_,fun h j h1 h2 x hx=>h j h1 oQ x hx⟩
    by_cases ej:j=n
    ·subst ej;rw [hr]at hx;cases hx;exact hh
    ·exact h j h1 oQ x hx
theorem newIdx_new (hr:l[i]?=some r):decide (newIdx l (rkey r) l.length=i)=isNew l i:=by
 have hi:=(List.getElem?_eq_some_iff.1 hr).1
 rw [Bool.eq_iff_iff,decide_eq_true_eq,newIdx_iff l _ l.length i (Nat.le_refl _) hi]
 unfold isNew
 rw [hr]
 simp only [Bool.and_eq_true,List.all_eq_true,decide_eq_true_eq]
 constructor
 ·rintro ⟨⟨x,hx,hh⟩,h2⟩
  cases hx
  unfold hit at hh
  rw [Bool.and_eq_true,decide_eq_true_eq]at hh
  refine ⟨hh.1,fun x hx=>?_⟩
  obtain ⟨j,hj⟩:=List.getElem?_of_mem hx
  rw [List.getElem?_drop]at hj
  have:=h2 (i+1+j) oQ (List.getElem?_eq_some_iff.1 hj).1 x hj
  unfold hit at this
  rw [this];rfl
 ·rintro ⟨h1,h2⟩
  refine ⟨⟨r,rfl,by unfold hit;simp [h1]⟩,fun j hj1 hj2 x hx=>?_⟩
  have hm:x∈l.drop (i+1):=by
   refine List.mem_of_getElem? (i:=j - (i+1)) ?_
   rw [List.getElem?_drop,show i+1+(j - (i+1))=j by omega];exact hx
  have:=h2 x hm
  rw [Bool.not_eq_true']at this
  exact this
def elder (r x:Row):Bool:=decide (rtag x=0) && decide (rkey x=rkey r) && decide (x.1<r.1)
theorem cnt_two (hr:l[i]?=some r) (h:rtag r=2):cnt l i=false:=by unfold cnt;rw [hr];simp [h]
theorem cnt_old (hr:l[i]?=some r) (h:isNew l i=false):cnt l i=false:=by unfold cnt;rw [hr];simp [h]
theorem cnt_put (hr:l[i]?=some r) (h:isNew l i=true) (h0:rtag r=0):cnt l i=true:=by unfold cnt;rw [hr];simp [h,h0]
theorem cnt_del (hr:l[i]?=some r) (h:isNew l i=true) (h2:rtag r≠2) (h0:rtag r≠0):cnt l i=(l.take i).any (elder r):=by unfold cnt;rw [hr];simp [h,h0,h2];rfl
theorem any_hit {p:Row→Bool}{n k:Nat}{x:Row} (hk:k<n) (hx:l[k]?=some x) (h:p x=true):(l.take n).any p=true:=by
 rw [List.any_eq_true]
 refine ⟨x,List.mem_of_getElem? (i:=k) ?_,h⟩
 rw [List.getElem?_take,if_pos hk];exact hx
theorem any_miss {p:Row→Bool}{k:Nat}{x:Row} (hx:l[k]?=some x) (h0:(l.take k).any p=false) (h:p x=false):(l.take (k+1)).any p=false:=by
 rw [List.take_add_one,hx,List.any_append,h0];simp [h]
end
section
variable {V:Type}
def insB (l:List (Bs×V)) (x:Bs×V):Nat→List (Bs×V)×Bool
 |0=>([],false)
 |i+1=>match l[i]? with
  |none=>insB l x i
  |some y=>if (insB l x i).2=false∧x.1<y.1 then ((insB l x i).1++[x]++[y],true) else ((insB l x i).1++[y],(insB l x i).2)
variable {l:List (Bs×V)}{x y:Bs×V}{i:Nat}
theorem insB_in (hy:l[i]?=some y) (h0:(insB l x i).2=false) (h:x.1<y.1):insB l x (i+1)=((insB l x i).1++[x]++[y],true):=by
 conv=>lhs;unfold insB
 rw [hy];simp only;rw [if_pos ⟨h0,h⟩]
theorem insB_by (hy:l[i]?=some y) (h:¬ ((insB l x i).2=false∧x.1<y.1)):insB l x (i+1)=((insB l x i).1++[y],(insB l x i).2):=by
 conv=>lhs;unfold insB
 rw [hy];simp only;rw [if_neg h]
theorem insB_len (l:List (Bs×V)) (x:Bs×V):∀ i,(insB l x i).1.length≤i+1∧((insB l x i).2=false→(insB l x i).1.length≤i)
 |0=>⟨Nat.zero_le _,fun _=>Nat.zero_le _⟩
 |i+1=>by
  have ih:=insB_len l x i
  unfold insB
  split
  ·exact ⟨by omega,fun h=>by have:=ih.2 h;omega⟩
  ·split
   ·rename_i h
    have:=ih.2 h.1
    exact ⟨by simp only [List.length_append,List.length_singleton];omega,fun h=>by cases h⟩
   ·refine ⟨by simp only [List.length_append,List.length_singleton];omega,fun h=>?_⟩
    have:=ih.2 h
    simp only [List.length_append,List.length_singleton];omega
theorem ins_split (x:Bs×V):∀ (l:List (Bs×V)) (i:Nat),i≤l.length→(insB l x i).1++(if (insB l x i).2=true then l.drop i else ins (l.drop i) x)=ins l x
 |l,0,_=>by simp [insB]
 |l,i+1,h=>by
  have ih:=ins_split x l i oQ
  obtain ⟨y,hy⟩:∃ y,l[i]?=some y:=⟨_,List.getElem?_eq_getElem oQ⟩
  have hd:l.drop i=y::l.drop (i+1):=by
   obtain ⟨h1,rfl⟩:=List.getElem?_eq_some_iff.1 hy
   exact List.drop_eq_getElem_cons h1
  rw [hd]at ih
  by_cases hc:(insB l x i).2=false∧x.1<y.1
  ·rw [insB_in hy hc.1 hc.2]
   rw [if_neg (by rw [hc.1];decide)]at ih
   simp only [if_true]
   rw [← ih]
   unfold ins
   rw [if_pos hc.2]
   simp
  ·rw [insB_by hy hc]
   cases hb:(insB l x i).2 with
   |true=>
    rw [hb,if_pos rfl]at ih
    simp only [if_true]
    rw [← ih];simp
   |false=>
    rw [hb,if_neg dQ]at ih
    simp only [Bool.false_eq_true,if_false]
    rw [← ih]
    have hn:¬ x.1<y.1:=fun h=>hc ⟨hb,h⟩
    conv=>rhs;unfold ins
    rw [if_neg hn]
    simp
theorem ins_done (h:(insB l x l.length).2=true):(insB l x l.length).1=ins l x:=by
 have:=ins_split x l l.length (Nat.le_refl _)
 rw [if_pos h,List.drop_length,List.append_nil]at this
 exact this
theorem ins_not (h:(insB l x l.length).2=false):(insB l x l.length).1++[x]=ins l x:=by
 have:=ins_split x l l.length (Nat.le_refl _)
 rw [if_neg (by rw [h];decide),List.drop_length]at this
 exact this
end
section
variable {l:List Row}{us:List Use}{i k:Nat}{r:Row}{u:Use}
theorem idx_skip (hr:l[i]?=some r) (h:cnt l i=false):idx l (i+1)=idx l i:=by
 conv=>lhs;unfold idx
 rw [hr];simp only;rw [if_neg (by rw [h];exact fun h=>Bool.false_ne_true h.1)]
theorem idx_del (hr:l[i]?=some r) (h:rtag r≠0):idx l (i+1)=idx l i:=by
 conv=>lhs;unfold idx
 rw [hr];simp only;rw [if_neg (fun hh=>h hh.2)]
theorem idx_put (hr:l[i]?=some r) (h:cnt l i=true) (h0:rtag r=0):idx l (i+1)=ins (idx l i) (rkey r,rplc r):=by
 conv=>lhs;unfold idx
 rw [hr];simp only;rw [if_pos ⟨h,h0⟩]
theorem live_skip (hr:l[i]?=some r) (h:cnt l i=false) (s:Int):live l s (i+1)=live l s i:=by
 conv=>lhs;unfold live
 rw [hr];simp only;rw [if_neg (by rw [h];exact fun h=>Bool.false_ne_true h.1)]
theorem live_add (hr:l[i]?=some r) (h:cnt l i=true):live l r.1 (i+1)=live l r.1 i+r.2.size:=by
 conv=>lhs;unfold live
 rw [hr];simp only;rw [if_pos ⟨h,trivial⟩]
theorem live_other (hr:l[i]?=some r){s:Int} (h:r.1≠s):live l s (i+1)=live l s i:=by
 conv=>lhs;unfold live
 rw [hr];simp only;rw [if_neg (fun hh=>h hh.2)]
theorem uAt_skip (hr:l[i]?=some r) (h:cnt l i=false):uAt l us (i+1)=uAt l us i:=by
 unfold uAt
 refine List.map_congr_left fun u _=>?_
 rw [live_skip hr h]
def uMix (l:List Row) (us:List Use) (i k:Nat):List Use:=(uAt l us (i+1)).take k++(uAt l us i).drop k
theorem uMix_zero:uMix l us i 0=uAt l us i:=by unfold uMix;simp
theorem uMix_all:uMix l us i us.length=uAt l us (i+1):=by
 unfold uMix
 rw [List.take_of_length_le (by rw [uAt_len];exact Nat.le_refl _),List.drop_of_length_le (by rw [uAt_len];exact Nat.le_refl _),List.append_nil]
theorem uMix_len:(uMix l us i k).length=us.length:=by
 unfold uMix
 rw [List.length_append,List.length_take,List.length_drop,uAt_len,uAt_len];omega
theorem uMix_get (hu:us[k]?=some u):(uMix l us i k)[k]?=some ⟨u.seg,u.size,u.live+live l u.seg i⟩:=by
 have hk:=(List.getElem?_eq_some_iff.1 hu).1
 unfold uMix
 have h1:((uAt l us (i+1)).take k).length=k:=by rw [List.length_take,uAt_len];omega
 rw [List.getElem?_append_right oQ,h1,Nat.sub_self,List.getElem?_drop,Nat.add_zero]
 unfold uAt
 rw [List.getElem?_map,hu];rfl
theorem uMix_next (hu:us[k]?=some u):uMix l us i (k+1)=(uMix l us i k).set k ⟨u.seg,u.size,u.live+live l u.seg (i+1)⟩:=by
 have hk:=(List.getElem?_eq_some_iff.1 hu).1
 unfold uMix
 have h1:((uAt l us (i+1)).take k).length=k:=by rw [List.length_take,uAt_len];omega
 have h2:(uAt l us (i+1))[k]?=some ⟨u.seg,u.size,u.live+live l u.seg (i+1)⟩:=by unfold uAt;rw [List.getElem?_map,hu];rfl
 have h3:(uAt l us i)[k]?=some ⟨u.seg,u.size,u.live+live l u.seg i⟩:=by unfold uAt;rw [List.getElem?_map,hu];rfl
 have h4:(uAt l us i).drop k=⟨u.seg,u.size,u.live+live l u.seg i⟩::(uAt l us i).drop (k+1):=by
  obtain ⟨a,b⟩:=List.getElem?_eq_some_iff.1 h3
  rw [← b];exact List.drop_eq_getElem_cons a
 rw [List.take_add_one,h2,Option.toList_some,h4,List.set_append_right _ _ oQ,h1,Nat.sub_self,List.set_cons_zero,List.append_assoc]
 rfl
theorem uMix_same (hu:us[k]?=some u) (hr:l[i]?=some r) (h:r.1≠u.seg):uMix l us i (k+1)=uMix l us i k:=by
 rw [uMix_next hu,live_other hr h]
 obtain ⟨h1,h2⟩:=List.getElem?_eq_some_iff.1 (uMix_get (l:=l) (i:=i) hu)
 rw [← h2];exact List.set_getElem_self h1
theorem uMix_add (hu:us[k]?=some u) (hr:l[i]?=some r) (hc:cnt l i=true) (h:r.1=u.seg):uMix l us i (k+1)=(uMix l us i k).set k ⟨u.seg,u.size,u.live+live l u.seg i+r.2.size⟩:=by
 rw [uMix_next hu,← h,live_add hr hc,Int.add_assoc]
end
end Go.Rep
namespace Go.Proofs.YtmjldaedhmipkaaGreatDoor
open Go Go.Sl Go.Med Go.MapKept Go.RowKit
def rwL (q:Rep.Row×Value):List Value:= .int .i64 q.1.1::fndL q.1.2 q.2
theorem rwL_len (q:Rep.Row×Value) (hk:q.1.2.e.key.length=32):(rwL q).length=37:=by unfold rwL;rw [List.length_cons,fndL_len _ _ hk]
theorem rwL_tag (q:Rep.Row×Value):(rwL q)[1]?=some (.int .i64 q.1.2.e.tag):=rfl
theorem rwL_key (q:Rep.Row×Value) (hk:q.1.2.e.key.length=32):∀ j v,(bys q.1.2.e.key)[j]?=some v→(rwL q)[2+j]?=some v:=fun j v hj=>by
 have h:=(fnd_cell q.1.2 q.2 hk).2.2 j v hj
 unfold fndA at h
 rw [List.getElem?_toArray]at h
 show (Value.int .i64 q.1.1::fndL q.1.2 q.2)[2+j]?=some v
 rw [show 2+j=(1+j)+1 by omega,List.getElem?_cons_succ];exact h
theorem rwL_at (q:Rep.Row×Value) (hk:q.1.2.e.key.length=32):(rwL q)[35]?=some (.int .i64 q.1.2.at_)∧(rwL q)[36]?=some (.int .i64 q.1.2.size):=by
 obtain ⟨h1,h2,_⟩:=fnd_cell q.1.2 q.2 hk
 unfold fndA at h1 h2
 rw [List.getElem?_toArray]at h1 h2
 exact ⟨h1,h2⟩
theorem rwL_ones (q:Rep.Row×Value){a:Option Addr}{n c:Nat} (h:q.2 = .slice a n c):(rwL q).all (·.oneCell')=true:=by
 have:=fndA_ones q.1.2 a n c
 unfold fndA at this
 rw [List.toList_toArray]at this
 unfold rwL
 rw [List.all_cons,h,this];rfl
def zeroR:Rep.Row×Value:=((0,zeroF),.slice none 0 0)
theorem zRow:zeroB Tryz.prog 212=some (.agg (rwL zeroR).toArray):=by kernel_rfl
theorem infoRow:(Tryz.prog.info? 212).map (·.size)=some 37:=by kernel_rfl
theorem infoID:(Tryz.prog.info? 41).map (·.size)=some 32:=by kernel_rfl
set_option maxRecDepth 20000 in
theorem eql_key (k l:Frm.Bs) (hk:k.length=32) (hl:l.length=32) (w:World):(binOp .eql 41 (.agg (bys k).toArray) (.agg (bys l).toArray)).run Tryz.prog w = .ok (.bool (decide (k=l))) w:=by
 rw [run_eql_struct,eqIn_key k l hk hl];rfl
theorem eqG_key (x y:Operand) (k l:Frm.Bs) (hk:k.length=32) (hl:l.length=32) (w:World):((do eqGuard .eql 41 x y (.agg (bys k).toArray) (.agg (bys l).toArray);binOp .eql 41 (.agg (bys k).toArray) (.agg (bys l).toArray)):Sem Value).run Tryz.prog w = .ok (.bool (decide (k=l))) w:=by
 simp [eqGuard,Sem.run_bind,eql_key k l hk hl w]
section
variable {w0 w:World}{F:List HProp}{rv:Value}
theorem row_at {rs:List (Rep.Row×Value)} (hk:∀ q∈rs,q.1.2.e.key.length=32) (h:rdsl 37 rv (rs.flatMap rwL) w){i:Nat}{q:Rep.Row×Value} (hi:rs[i]?=some q) :
  ∃ bk off c,rv = .slice (some ⟨bk,off,none⟩) rs.length c∧(∀ j v,(rwL q)[j]?=some v→w.cell? ⟨bk,off+i * 37+j,none⟩=some v):=
 osl_row (fun p hp=>rwL_len p (hk p hp)) h hi dQ
set_option maxRecDepth 20000 in
theorem rnewest_c (rs:List (Rep.Row×Value)) (hk:∀ q∈rs,q.1.2.e.key.length=32) (k:Bs) (hkl:k.length=32) (hlen:rs.length≤1073741824) (hr:Ro w0 F (rdsl 37 rv (rs.flatMap rwL))) (h:Sat w0 w F) :
  Calls Tryz.prog 175 #[rv,.agg (bys k).toArray] w (Rtn fun v w'=>v = .int .i64 (Rep.newIdx (rs.map (·.1)) k rs.length)∧Sat w0 w' F):=by
 obtain ⟨sa,sc,rfl⟩:=osl_rows (f:=rwL) (fun p hp=>rwL_len p (hk p hp)) (hr w h) dQ
 have Hk:=uQ hk;have Hkl:=uQ hkl;have Hlen:=uQ hlen;have Hr:=uQ hr
 have w1:IntKind.i64.wrap ((rs.length:Int) - 1)=(rs.length:Int) - 1:=IntWalk.i64_in _ oQ
 clear hk hkl hlen hr
 go_enter Tryz.func175,Tryz.ntmps175
 go_wp2_with (with_reducible apply at_box)
 refine ⟨wl_box h evD evD ?_⟩
 intro b3 w3 h3
 clear h
 go_wp2_with fail
 go_loopg [5] rs.length (fun g iq wr=>∃ n:Nat,g=0+n∧n≤rs.length∧iq = .int .i64 ((n:Int) - 1)∧Rep.newIdx (rs.map (·.1)) k rs.length=Rep.newIdx (rs.map (·.1)) k n ∧
  Sat w0 wr (pt b3 (.cells (bys k).toArray 41 (0,0))::F))
 case atStart=>exact ⟨rs.length,(Nat.zero_add _).symm,Nat.le_refl _,rfl,rfl,h3⟩
 case round=>
  obtain ⟨n,rfl,hn,rfl,he,hS⟩:=hrel
  clear h3
  cases n with
  |zero=>
   have c1:¬ (((0:Nat):Int) - 1)≥0:=by decide
   have He:=uQ he
   clear he hn
   go_wp2_with fail
   go_ret
   rw [He.out]
   exact ⟨_,rfl,rfl,hS.drop⟩
  |succ i=>
   have e1:((i+1:Nat):Int) - 1=(i:Int):=oQ
   rw [e1]
   have c1:(i:Int)≥0:=oQ
   have c2:(i:Int)<(rs.length:Int):=oQ
   have w2:IntKind.i64.wrap ((i:Int) - 1)=(i:Int) - 1:=IntWalk.i64_in _ (by have:=Hlen.out;omega)
   obtain ⟨q,hq⟩:∃ q,rs[i]?=some q:=⟨_,List.getElem?_eq_getElem oQ⟩
   have hS1:=hS.drew
   obtain ⟨bk,off,c',e2,hc⟩:=row_at Hk.out (Hr.out _ hS1.drop) hq
   cases e2
   have hqk:=Hk.out q (List.mem_of_getElem? hq)
   have Hqk:=uQ hqk
   have hG0:World.cell? _ ⟨bk,off+i * 37+1,none⟩=some (.int .i64 q.1.2.e.tag)∧World.rangeAt _ bk (off+i * 37+2) (bys q.1.2.e.key)∧World.rangeAt _ b3 0 (bys k):=
    ⟨hc 1 _ (rwL_tag q),fun j v hj=>by have:=hc (2+j) v (rwL_key q hqk j v hj);rw [← Nat.add_assoc]at this;exact this,fun j v hj=>by rw [Nat.zero_add];exact hS1.cellP pick0 j (by rw [List.getElem?_toArray];exact hj)⟩
   have hq1:(rs.map (·.1))[i]?=some q.1:=by rw [List.getElem?_map,hq];rfl
   have Hhit:=uQ (fun (hh:Rep.hit k q.1=true)=>Rep.newIdx_hit hq1 hh)
   have Hmiss:=uQ (fun (hh:Rep.hit k q.1=false)=>Rep.newIdx_miss hq1 hh)
   have He:=uQ he
   have Hn:=uQ hn
   clear hc hq hq1 he hn hS hqk
   by_cases ht:q.1.2.e.tag<2
   ·have hd2:decide (q.1.2.e.tag<2)=true:=decide_eq_true ht
    by_cases hkk:q.1.2.e.key=k
    ·have Hh:=uQ (Hhit.out (by unfold Rep.hit Rep.rtag Rep.rkey;rw [decide_eq_true ht,decide_eq_true hkk];rfl))
     have hbin:∀ x y w,((do eqGuard .eql 41 x y (.agg (bys q.1.2.e.key).toArray) (.agg (bys k).toArray);binOp .eql 41 (.agg (bys q.1.2.e.key).toArray) (.agg (bys k).toArray)):Sem Value).run Tryz.prog w = .ok (.bool true) w:=fun x y w=>by rw [eqG_key x y _ _ Hqk.out Hkl.out,decide_eq_true hkk]
     clear hkk
     generalize q.1.2.e.tag=t at *
     generalize hK2:q.1.2.e.key=kk at *
     clear hK2
     go_wp2_with fail
     refine wpL_begin [17,18] (fun w'=>w'.cell? ⟨bk,off+i * 37+1,none⟩=some (.int .i64 t)∧w'.rangeAt bk (off+i * 37+2) (bys kk)∧w'.rangeAt b3 0 (bys k)) kQ ?_
     have hG:=hG0
     clear hG0
     refine rP 0 ?_ (y:=mvQ)
     refine rP 1 ?_ (y:=mvQ)
     refine rP 2 ?_ (y:=ixQ)
     refine rP 3 ?_ (y:=flQ)
     refine rP 4 ?_ (y:=flQ)
     refine rP 5 ?_ (y:=flQ)
     refine rt 6 (h:=?_)
     refine rP 7 ?_ (y:=bnQ)
     refine rP 8 ?_ (y:=mvQ)
     refine rP 9 ?_ (y:=(yg_move rQ evD))
     refine rP 10 ?_ (y:=(yg_move rQ evD))
     refine rP 11 ?_ (y:=(yg_index rQ evD evD rnD))
     refine rP 12 ?_ (y:=(yg_field rQ evD rnD))
     refine rP 13 ?_ (y:=(yg_field rQ evD rnD))
     refine rP 14 ?_ (y:=(yg_field rQ evD rnD))
     refine rg_take 15 evD kQ iQ (tg_loadN (b:=bk) (o:=off+i * 37+2) (bys kk) rQ rQ Tryz.underlying41 rfl (by rw [bys_len,Hqk.out];exact infoID) (fun w hw=>hw.2.1)) aQ gQ ?_
     refine rg_take 16 evD kQ iQ (tg_loadN (b:=b3) (o:=0) (bys k) rQ rQ Tryz.underlying41 rfl (by rw [bys_len,Hkl.out];exact infoID) (fun w hw=>hw.2.2)) aQ gQ ?_
     clear hG
     refine rP 17 ?_ (y:=(yg_bin rQ evD evD (hbin _ _)))
     refine rP 18 ?_ (y:=(yg_pick rQ evD evD))
     refine wdQ ?_
     try simp only [ayQ]
     try go_frame
     clear hbin
     go_wp2_with fail
     go_ret
     rw [He.out,Hh.out]
     exact ⟨_,rfl,rfl,hS1.drop⟩
    ·have Hm:=uQ (Hmiss.out (by unfold Rep.hit Rep.rtag Rep.rkey;rw [decide_eq_false hkk];simp))
     have hbin:∀ x y w,((do eqGuard .eql 41 x y (.agg (bys q.1.2.e.key).toArray) (.agg (bys k).toArray);binOp .eql 41 (.agg (bys q.1.2.e.key).toArray) (.agg (bys k).toArray)):Sem Value).run Tryz.prog w = .ok (.bool false) w:=fun x y w=>by rw [eqG_key x y _ _ Hqk.out Hkl.out,decide_eq_false hkk]
     clear hkk
     generalize q.1.2.e.tag=t at *
     generalize hK2:q.1.2.e.key=kk at *
     clear hK2
     go_wp2_with fail
     refine wpL_begin [17,18] (fun w'=>w'.cell? ⟨bk,off+i * 37+1,none⟩=some (.int .i64 t)∧w'.rangeAt bk (off+i * 37+2) (bys kk)∧w'.rangeAt b3 0 (bys k)) kQ ?_
     have hG:=hG0
     clear hG0
     refine rP 0 ?_ (y:=mvQ)
     refine rP 1 ?_ (y:=mvQ)
     refine rP 2 ?_ (y:=ixQ)
     refine rP 3 ?_ (y:=flQ)
     refine rP 4 ?_ (y:=flQ)
     refine rP 5 ?_ (y:=flQ)
     refine rt 6 (h:=?_)
     refine rP 7 ?_ (y:=bnQ)
     refine rP 8 ?_ (y:=mvQ)
     refine rP 9 ?_ (y:=(yg_move rQ evD))
     refine rP 10 ?_ (y:=(yg_move rQ evD))
     refine rP 11 ?_ (y:=(yg_index rQ evD evD rnD))
     refine rP 12 ?_ (y:=(yg_field rQ evD rnD))
     refine rP 13 ?_ (y:=(yg_field rQ evD rnD))
     refine rP 14 ?_ (y:=(yg_field rQ evD rnD))
     refine rg_take 15 evD kQ iQ (tg_loadN (b:=bk) (o:=off+i * 37+2) (bys kk) rQ rQ Tryz.underlying41 rfl (by rw [bys_len,Hqk.out];exact infoID) (fun w hw=>hw.2.1)) aQ gQ ?_
     refine rg_take 16 evD kQ iQ (tg_loadN (b:=b3) (o:=0) (bys k) rQ rQ Tryz.underlying41 rfl (by rw [bys_len,Hkl.out];exact infoID) (fun w hw=>hw.2.2)) aQ gQ ?_
     clear hG
     refine rP 17 ?_ (y:=(yg_bin rQ evD evD (hbin _ _)))
     refine rP 18 ?_ (y:=(yg_pick rQ evD evD))
     refine wdQ ?_
     try simp only [ayQ]
     try go_frame
     clear hbin
     go_wp2_with fail
     go_roundg (0+i)
     case measure=>omega
     case rel=>exact ⟨i,rfl,Nat.le_of_succ_le Hn.out,by first|rfl|go_num,He.out.trans Hm.out,hS1⟩
   ·have Hm:=uQ (Hmiss.out (by unfold Rep.hit Rep.rtag;rw [decide_eq_false ht];rfl))
    have hG1:=hG0.1
    have hd2:decide (q.1.2.e.tag<2)=false:=decide_eq_false ht
    clear hG0 ht
    generalize q.1.2.e.tag=t at *
    go_wp2_with fail
    refine wpL_begin [17,18] (fun w'=>w'.cell? ⟨bk,off+i * 37+1,none⟩=some (.int .i64 t)) kQ ?_
    have hG:=hG1
    clear hG1
    refine rP 0 ?_ (y:=mvQ)
    refine rP 1 ?_ (y:=mvQ)
    refine rP 2 ?_ (y:=ixQ)
    refine rP 3 ?_ (y:=flQ)
    refine rP 4 ?_ (y:=flQ)
    refine rP 5 ?_ (y:=flQ)
    refine rt 6 (h:=?_)
    clear hG
    refine rP 7 ?_ (y:=bnQ)
    refine rP 8 ?_ (y:=mvQ)
    refine rg_skip 9 evD kQ iQ rQ gQ ?_
    refine rg_skip 10 evD kQ iQ rQ gQ ?_
    refine rg_skip 11 evD kQ iQ rQ gQ ?_
    refine rg_skip 12 evD kQ iQ rQ gQ ?_
    refine rg_skip 13 evD kQ iQ rQ gQ ?_
    refine rg_skip 14 evD kQ iQ rQ gQ ?_
    refine rg_skip 15 evD kQ iQ rQ gQ ?_
    refine rg_skip 16 evD kQ iQ rQ gQ ?_
    refine rg_skip 17 evD kQ iQ rQ gQ ?_
    refine rP 18 ?_ (y:=(yg_pick rQ evD evD))
    refine wdQ ?_
    try simp only [ayQ]
    try go_frame
    go_wp2_with fail
    go_roundg (0+i)
    case measure=>omega
    case rel=>exact ⟨i,rfl,Nat.le_of_succ_le Hn.out,by first|rfl|go_num,He.out.trans Hm.out,hS1⟩
end
section
variable {w0 w:World}{F:List HProp}{rv:Value}
set_option maxRecDepth 20000 in
theorem rcounts_c (rs:List (Rep.Row×Value)) (hk:∀ q∈rs,q.1.2.e.key.length=32) (hsl:∀ q∈rs,∃ a n c,q.2 = .slice a n c) (i:Nat) (hi:i<rs.length) (hlen:rs.length≤1073741824) (hr:Ro w0 F (rdsl 37 rv (rs.flatMap rwL))) (h:Sat w0 w F) :
  Calls Tryz.prog 157 #[rv,.int .i64 i] w (Rtn fun v w'=>v = .bool (Rep.cnt (rs.map (·.1)) i)∧Sat w0 w' F):=by
 obtain ⟨q,hq⟩:∃ q,rs[i]?=some q:=⟨_,List.getElem?_eq_getElem hi⟩
 obtain ⟨bk,off,sc,rfl,hc⟩:=row_at hk (hr w h) hq
 have hqm:=List.mem_of_getElem? hq
 have Hqk:=uQ (hk q hqm)
 have Hql:=uQ (rwL_len q (hk q hqm))
 have Hqo:=uQ (show (rwL q).all (·.oneCell')=true by obtain ⟨a,n,c,e⟩:=hsl q hqm;exact rwL_ones q e)
 have hq1:(rs.map (·.1))[i]?=some q.1:=by rw [List.getElem?_map,hq];rfl
 have Hq1:=uQ hq1
 have Hll:=uQ (show (rs.map (·.1)).length=rs.length from List.length_map ..)
 have hnw:∀ (w':World) (F':List HProp),(∀ w,Sat w0 w F'→Sat w0 w F)→Sat w0 w' F'→Calls Tryz.prog 175 #[.slice (some ⟨bk,off,none⟩) rs.length sc,.agg (bys q.1.2.e.key).toArray] w' (Rtn fun v w''=>v = .int .i64 (Rep.newIdx (rs.map (·.1)) q.1.2.e.key rs.length)∧Sat w0 w'' F'):=fun w' F' hF hw=>
  rnewest_c rs hk q.1.2.e.key (hk q hqm) hlen (fun w hw=>hr w (hF w hw)) hw
 have Hnw:=uQ hnw
 have Hk:=uQ hk;have Hlen:=uQ hlen;have Hr:=uQ hr;have Hi:=uQ hi
 have c1:(i:Int)<(rs.length:Int):=oQ
 have Hnew:=uQ (Rep.newIdx_new hq1)
 clear hk hsl hlen hr hq hqm hq1 hnw hi
 go_enter Tryz.func157,Tryz.ntmps157
 go_wp2_with (first
  |((with_reducible refine at_load ⟨?_⟩);refine wl_loadW (b:=bk) (o:=off+i * 37) (rwL q) rQ hc Tryz.underlying212 rfl (by rw [Hql.out];exact infoRow) ?_)
  |(with_reducible apply at_alloc))
 refine ⟨wl_alloc zRow h rfl ?_⟩
 intro b5 w5 h5
 go_wp2_with (first|((with_reducible refine at_store ⟨?_⟩);refine wl_storeA (rwL q).toArray h5 rQ rQ (by rw [List.size_toArray,Hql.out];rfl) upd0 (by rw [List.size_toArray,Hql.out];exact infoRow) (by rw [List.toList_toArray];exact Hqo.out) ?_;intro w6 h6)|(with_reducible apply at_load))
 refine ⟨?_⟩
 clear h h5 hc
 have hkr:w6.rangeAt b5 2 (bys q.1.2.e.key):=fun j v hj=>h6.cellP pick0 (2+j) (by rw [List.getElem?_toArray];exact rwL_key q Hqk.out j v hj)
 by_cases h2:q.1.2.e.tag=2
 ·have hb:(q.1.2.e.tag==2)=true:=beq_iff_eq.2 h2
  have Hf:=uQ (Rep.cnt_two Hq1.out h2)
  clear h2 hkr
  refine wl_load1 (v:= .int .i64 q.1.2.e.tag) h6 rQ pick0 (by rw [List.size_toArray,Hql.out];decide) rQ kQ ?_
  go_wp2_with fail
  go_ret
  rw [Hf.out]
  exact ⟨_,rfl,rfl,h6.drop⟩
 have hb:(q.1.2.e.tag==2)=false:=by rw [beq_eq_false_iff_ne];exact h2
 have H2:=uQ h2
 clear h2
 refine wl_load1 (v:= .int .i64 q.1.2.e.tag) h6 rQ pick0 (by rw [List.size_toArray,Hql.out];decide) rQ kQ ?_
 go_wp2_with (first
  |((with_reducible refine at_loadG ⟨?_⟩);refine wl_loadGm (b:=b5) (o:=2) rQ rQ (bys q.1.2.e.key) _ hkr Tryz.underlying41 rfl (by rw [bys_len,Hqk.out];exact infoID) ?_))
 refine (Hnw.out _ _ (fun w hw=>hw.drop) h6).mono ?_
 rintro ee w7 ⟨v,rfl,rfl,h7⟩
 clear hkr h6
 by_cases hn:Rep.newIdx (rs.map (·.1)) q.1.2.e.key rs.length=(i:Int)
 rotate_left
 ·have hb2:(Rep.newIdx (rs.map (·.1)) q.1.2.e.key rs.length==(i:Int))=false:=by rw [beq_eq_false_iff_ne];exact hn
  have hb3:(Rep.newIdx (rs.map (·.1)) q.1.2.e.key rs.length != (i:Int))=true:=by rw [bne_iff_ne];exact hn
  have Hf:=uQ (Rep.cnt_old Hq1.out (by
   have:=Hnew.out
   rw [Hll.out]at this
   rw [← this];exact decide_eq_false hn))
  clear hn
  generalize Rep.newIdx (rs.map (·.1)) q.1.2.e.key rs.length=nx at *
  go_wp2_with fail
  go_ret
  rw [Hf.out]
  exact ⟨_,rfl,rfl,h7.drop⟩
 have Hisnew:=uQ (show Rep.isNew (rs.map (·.1)) i=true by
  have:=Hnew.out
  rw [Hll.out]at this
  rw [← this];exact decide_eq_true hn)
 rw [hn]
 clear hn
 by_cases h0:q.1.2.e.tag=0
 ·have hb0:(q.1.2.e.tag==0)=true:=beq_iff_eq.2 h0
  have Hf:=uQ (Rep.cnt_put Hq1.out Hisnew.out h0)
  clear h0
  go_wp2_with ((with_reducible refine at_load ⟨?_⟩);refine wl_load1 (v:= .int .i64 q.1.2.e.tag) h7 rQ pick0 (by rw [List.size_toArray,Hql.out];decide) rQ kQ ?_)
  go_ret
  rw [Hf.out]
  exact ⟨_,rfl,rfl,h7.drop⟩
 have hb0:(q.1.2.e.tag==0)=false:=by rw [beq_eq_false_iff_ne];exact h0
 have Hf:=uQ (Rep.cnt_del Hq1.out Hisnew.out H2.out h0)
 clear h0
 go_wp2_with ((with_reducible refine at_load ⟨?_⟩);refine wl_load1 (v:= .int .i64 q.1.2.e.tag) h7 rQ pick0 (by rw [List.size_toArray,Hql.out];decide) rQ kQ ?_)
 clear hb hb0
 go_loopg [6] i (fun g kq wr=>∃ k:Nat,g=i - k∧k≤i∧kq = .int .i64 k∧((rs.map (·.1)).take k).any (Rep.elder q.1)=false∧Sat w0 wr (pt b5 (.cells (rwL q).toArray 212 (0,0))::F))
 case atStart=>exact ⟨0,rfl,Nat.zero_le _,rfl,rfl,h7⟩
 case round=>
  obtain ⟨k,rfl,hki,rfl,hany,hS⟩:=hrel
  clear h7
  by_cases hlt:k<i
  rotate_left
  ·obtain rfl:k=i:=by omega
   have c2:¬ (k:Int)<(k:Int):=oQ
   have Hany:=uQ hany
   clear hlt hki hany
   go_wp2_with fail
   go_ret
   rw [Hf.out,Hany.out]
   exact ⟨_,rfl,rfl,hS.drop⟩
  have c2:(k:Int)<(i:Int):=oQ
  have c3:(k:Int)<(rs.length:Int):=oQ
  have hwk:IntKind.i64.wrap ((k:Int)+1)=(k:Int)+1:=IntWalk.i64_in _ (by have:=Hlen.out;omega)
  obtain ⟨x,hx⟩:∃ x,rs[k]?=some x:=⟨_,List.getElem?_eq_getElem (by have:=Hi.out;omega)⟩
  have hS1:=hS.drew
  obtain ⟨bk',off',c',e2,hc⟩:=row_at Hk.out (Hr.out _ hS1.drop) hx
  cases e2
  have hxk:=Hk.out x (List.mem_of_getElem? hx)
  have Hxk:=uQ hxk
  have hx1:(rs.map (·.1))[k]?=some x.1:=by rw [List.getElem?_map,hx];rfl
  have hG0:World.cell? _ ⟨bk,off+k * 37+1,none⟩=some (.int .i64 x.1.2.e.tag)∧World.rangeAt _ bk (off+k * 37+2) (bys x.1.2.e.key)∧World.rangeAt _ b5 2 (bys q.1.2.e.key)∧World.cell? _ ⟨bk,off+k * 37,none⟩=some (.int .i64 x.1.1)∧World.cell? _ ⟨b5,0,none⟩=some (.int .i64 q.1.1):=
   ⟨hc 1 _ (rwL_tag x),fun j v hj=>by have:=hc (2+j) v (rwL_key x hxk j v hj);rw [← Nat.add_assoc]at this;exact this,fun j v hj=>hS1.cellP pick0 (2+j) (by rw [List.getElem?_toArray];exact rwL_key q Hqk.out j v hj),hc 0 _ rfl,hS1.cellP pick0 0 (by rw [List.getElem?_toArray];rfl)⟩
  have Hhit:=uQ (fun (hh:Rep.elder q.1 x.1=true)=>Rep.any_hit (n:=i) hlt hx1 hh)
  have Hmiss:=uQ (fun (hh:Rep.elder q.1 x.1=false)=>Rep.any_miss hx1 hany hh)
  have Hlt:=uQ hlt
  clear hc hx hx1 hany hS hxk hlt hki
  by_cases ht:x.1.2.e.tag=0
  rotate_left
  ·have Hm:=uQ (Hmiss.out (by unfold Rep.elder Rep.rtag;rw [decide_eq_false ht];rfl))
   have hbt:(x.1.2.e.tag==0)=false:=by rw [beq_eq_false_iff_ne];exact ht
   have hG1:=hG0.1
   clear hG0 ht
   generalize x.1.2.e.tag=t at *
   go_wp2_with fail
   refine wpL_begin [30,31] (fun w'=>w'.cell? ⟨bk,off+k * 37+1,none⟩=some (.int .i64 t)) kQ ?_
   have hG:=hG1
   clear hG1
   refine rP 0 ?_ (y:=mvQ)
   refine rP 1 ?_ (y:=mvQ)
   refine rP 2 ?_ (y:=ixQ)
   refine rP 3 ?_ (y:=flQ)
   refine rP 4 ?_ (y:=flQ)
   refine rP 5 ?_ (y:=flQ)
   refine rt 6 (h:=?_)
   clear hG
   refine rP 7 ?_ (y:=bnQ)
   refine rP 8 ?_ (y:=mvQ)
   refine rg_skip 9 evD kQ iQ rQ gQ ?_
   refine rg_skip 10 evD kQ iQ rQ gQ ?_
   refine rg_skip 11 evD kQ iQ rQ gQ ?_
   refine rg_skip 12 evD kQ iQ rQ gQ ?_
   refine rg_skip 13 evD kQ iQ rQ gQ ?_
   refine rg_skip 14 evD kQ iQ rQ gQ ?_
   refine rg_skip 15 evD kQ iQ rQ gQ ?_
   refine rg_skip 16 evD kQ iQ rQ gQ ?_
   refine rg_skip 17 evD kQ iQ rQ gQ ?_
   refine rg_skip 18 evD kQ iQ rQ gQ ?_
   refine rg_skip 19 evD kQ iQ rQ gQ ?_
   refine rg_skip 20 evD kQ iQ rQ gQ ?_
   refine rP 21 ?_ (y:=(yg_pick rQ evD evD))
   refine rP 22 ?_ (y:=mvQ)
   refine rg_skip 23 evD kQ iQ rQ gQ ?_
   refine rg_skip 24 evD kQ iQ rQ gQ ?_
   refine rg_skip 25 evD kQ iQ rQ gQ ?_
   refine rg_skip 26 evD kQ iQ rQ gQ ?_
   refine rg_skip 27 evD kQ iQ rQ gQ ?_
   refine rg_skip 28 evD kQ iQ rQ gQ ?_
   refine rg_skip 29 evD kQ iQ rQ gQ ?_
   refine rg_skip 30 evD kQ iQ rQ gQ ?_
   refine rP 31 ?_ (y:=(yg_pick rQ evD evD))
   refine wdQ ?_
   try simp only [ayQ]
   try go_frame
   go_wp2_with fail
   go_roundg (i - (k+1))
   case measure=>have:=Hlt.out;omega
   case rel=>exact ⟨k+1,rfl,Hlt.out,by first|rfl|go_num,Hm.out,hS1⟩
  have hbt:(x.1.2.e.tag==0)=true:=beq_iff_eq.2 ht
  by_cases hkk:x.1.2.e.key=q.1.2.e.key
  rotate_left
  ·have Hm:=uQ (Hmiss.out (by unfold Rep.elder Rep.rkey;rw [decide_eq_false hkk];simp))
   have hbin:∀ y z w,((do eqGuard .eql 41 y z (.agg (bys x.1.2.e.key).toArray) (.agg (bys q.1.2.e.key).toArray);binOp .eql 41 (.agg (bys x.1.2.e.key).toArray) (.agg (bys q.1.2.e.key).toArray)):Sem Value).run Tryz.prog w = .ok (.bool false) w:=fun y z w=>by rw [eqG_key y z _ _ Hxk.out Hqk.out,decide_eq_false hkk]
   have hG1:=And.intro hG0.1 (And.intro hG0.2.1 hG0.2.2.1)
   clear hG0 ht hkk
   generalize x.1.2.e.tag=t at *
   generalize hK2:x.1.2.e.key=kk at *
   clear hK2
   go_wp2_with fail
   refine wpL_begin [30,31] (fun w'=>w'.cell? ⟨bk,off+k * 37+1,none⟩=some (.int .i64 t)∧w'.rangeAt bk (off+k * 37+2) (bys kk)∧w'.rangeAt b5 2 (bys q.1.2.e.key)) kQ ?_
   have hG:=hG1
   clear hG1
   refine rP 0 ?_ (y:=mvQ)
   refine rP 1 ?_ (y:=mvQ)
   refine rP 2 ?_ (y:=ixQ)
   refine rP 3 ?_ (y:=flQ)
   refine rP 4 ?_ (y:=flQ)
   refine rP 5 ?_ (y:=flQ)
   refine rt 6 (h:=?_)
   refine rP 7 ?_ (y:=bnQ)
   refine rP 8 ?_ (y:=mvQ)
   refine rP 9 ?_ (y:=(yg_move rQ evD))
   refine rP 10 ?_ (y:=(yg_move rQ evD))
   refine rP 11 ?_ (y:=(yg_index rQ evD evD rnD))
   refine rP 12 ?_ (y:=(yg_field rQ evD rnD))
   refine rP 13 ?_ (y:=(yg_field rQ evD rnD))
   refine rP 14 ?_ (y:=(yg_field rQ evD rnD))
   refine rg_take 15 evD kQ iQ (tg_loadN (b:=bk) (o:=off+k * 37+2) (bys kk) rQ rQ Tryz.underlying41 rfl (by rw [bys_len,Hxk.out];exact infoID) (fun w hw=>hw.2.1)) aQ gQ ?_
   refine rP 16 ?_ (y:=(yg_field rQ evD rnD))
   refine rP 17 ?_ (y:=(yg_field rQ evD rnD))
   refine rP 18 ?_ (y:=(yg_field rQ evD rnD))
   refine rg_take 19 evD kQ iQ (tg_loadN (b:=b5) (o:=2) (bys q.1.2.e.key) rQ rQ Tryz.underlying41 rfl (by rw [bys_len,Hqk.out];exact infoID) (fun w hw=>hw.2.2)) aQ gQ ?_
   clear hG
   refine rP 20 ?_ (y:=(yg_bin rQ evD evD (hbin _ _)))
   refine rP 21 ?_ (y:=(yg_pick rQ evD evD))
   refine rP 22 ?_ (y:=mvQ)
   refine rg_skip 23 evD kQ iQ rQ gQ ?_
   refine rg_skip 24 evD kQ iQ rQ gQ ?_
   refine rg_skip 25 evD kQ iQ rQ gQ ?_
   refine rg_skip 26 evD kQ iQ rQ gQ ?_
   refine rg_skip 27 evD kQ iQ rQ gQ ?_
   refine rg_skip 28 evD kQ iQ rQ gQ ?_
   refine rg_skip 29 evD kQ iQ rQ gQ ?_
   refine rg_skip 30 evD kQ iQ rQ gQ ?_
   refine rP 31 ?_ (y:=(yg_pick rQ evD evD))
   refine wdQ ?_
   try simp only [ayQ]
   try go_frame
   clear hbin
   go_wp2_with fail
   go_roundg (i - (k+1))
   case measure=>have:=Hlt.out;omega
   case rel=>exact ⟨k+1,rfl,Hlt.out,by first|rfl|go_num,Hm.out,hS1⟩
  have hbin:∀ y z w,((do eqGuard .eql 41 y z (.agg (bys x.1.2.e.key).toArray) (.agg (bys q.1.2.e.key).toArray);binOp .eql 41 (.agg (bys x.1.2.e.key).toArray) (.agg (bys q.1.2.e.key).toArray)):Sem Value).run Tryz.prog w = .ok (.bool true) w:=fun y z w=>by rw [eqG_key y z _ _ Hxk.out Hqk.out,decide_eq_true hkk]
  by_cases hsg:x.1.1<q.1.1
  ·have hds:decide (x.1.1<q.1.1)=true:=decide_eq_true hsg
   have Hh:=uQ (Hhit.out (by unfold Rep.elder Rep.rtag Rep.rkey;rw [decide_eq_true ht,decide_eq_true hkk,decide_eq_true hsg];rfl))
   have hG1:=hG0
   clear hG0 ht hkk
   generalize x.1.2.e.tag=t at *
   generalize hK2:x.1.2.e.key=kk at *
   clear hK2
   generalize x.1.1=s1 at *
   generalize q.1.1=s2 at *
   go_wp2_with fail
   refine wpL_begin [30,31] (fun w'=>w'.cell? ⟨bk,off+k * 37+1,none⟩=some (.int .i64 t)∧w'.rangeAt bk (off+k * 37+2) (bys kk)∧w'.rangeAt b5 2 (bys q.1.2.e.key)∧w'.cell? ⟨bk,off+k * 37,none⟩=some (.int .i64 s1)∧w'.cell? ⟨b5,0,none⟩=some (.int .i64 s2)) kQ ?_
   have hG:=hG1
   clear hG1
   refine rP 0 ?_ (y:=mvQ)
   refine rP 1 ?_ (y:=mvQ)
   refine rP 2 ?_ (y:=ixQ)
   refine rP 3 ?_ (y:=flQ)
   refine rP 4 ?_ (y:=flQ)
   refine rP 5 ?_ (y:=flQ)
   refine rt 6 (h:=?_)
   refine rP 7 ?_ (y:=bnQ)
   refine rP 8 ?_ (y:=mvQ)
   refine rP 9 ?_ (y:=(yg_move rQ evD))
   refine rP 10 ?_ (y:=(yg_move rQ evD))
   refine rP 11 ?_ (y:=(yg_index rQ evD evD rnD))
   refine rP 12 ?_ (y:=(yg_field rQ evD rnD))
   refine rP 13 ?_ (y:=(yg_field rQ evD rnD))
   refine rP 14 ?_ (y:=(yg_field rQ evD rnD))
   refine rg_take 15 evD kQ iQ (tg_loadN (b:=bk) (o:=off+k * 37+2) (bys kk) rQ rQ Tryz.underlying41 rfl (by rw [bys_len,Hxk.out];exact infoID) (fun w hw=>hw.2.1)) aQ gQ ?_
   refine rP 16 ?_ (y:=(yg_field rQ evD rnD))
   refine rP 17 ?_ (y:=(yg_field rQ evD rnD))
   refine rP 18 ?_ (y:=(yg_field rQ evD rnD))
   refine rg_take 19 evD kQ iQ (tg_loadN (b:=b5) (o:=2) (bys q.1.2.e.key) rQ rQ Tryz.underlying41 rfl (by rw [bys_len,Hqk.out];exact infoID) (fun w hw=>hw.2.2.1)) aQ gQ ?_
   refine rP 20 ?_ (y:=(yg_bin rQ evD evD (hbin _ _)))
   refine rP 21 ?_ (y:=(yg_pick rQ evD evD))
   refine rP 22 ?_ (y:=mvQ)
   refine rP 23 ?_ (y:=(yg_move rQ evD))
   refine rP 24 ?_ (y:=(yg_move rQ evD))
   refine rP 25 ?_ (y:=(yg_index rQ evD evD rnD))
   refine rP 26 ?_ (y:=(yg_field rQ evD rnD))
   refine rg_take 27 evD kQ iQ (tg_load rQ evD kQ (by intro wq hq;first|exact hq|exact hq.1|exact hq.2|exact hq.2.1|exact hq.2.2|exact hq.2.2.1|exact hq.2.2.2|exact hq.2.2.2.1|exact hq.2.2.2.2)) aQ gQ ?_
   refine rP 28 ?_ (y:=(yg_field rQ evD rnD))
   refine rg_take 29 evD kQ iQ (tg_load rQ evD kQ (by intro wq hq;first|exact hq|exact hq.1|exact hq.2|exact hq.2.1|exact hq.2.2|exact hq.2.2.1|exact hq.2.2.2|exact hq.2.2.2.1|exact hq.2.2.2.2)) aQ gQ ?_
   clear hG
   refine rP 30 ?_ (y:=(yg_bin rQ evD evD rnD))
   refine rP 31 ?_ (y:=(yg_pick rQ evD evD))
   refine wdQ ?_
   try simp only [ayQ]
   try go_frame
   clear hbin
   go_wp2_with fail
   go_ret
   rw [Hf.out,Hh.out]
   exact ⟨_,rfl,rfl,hS1.drop⟩
  ·have hds:decide (x.1.1<q.1.1)=false:=decide_eq_false hsg
   have Hm:=uQ (Hmiss.out (by unfold Rep.elder;rw [decide_eq_false hsg];simp))
   have hG1:=hG0
   clear hG0 ht hkk
   generalize x.1.2.e.tag=t at *
   generalize hK2:x.1.2.e.key=kk at *
   clear hK2
   generalize x.1.1=s1 at *
   generalize q.1.1=s2 at *
   go_wp2_with fail
   refine wpL_begin [30,31] (fun w'=>w'.cell? ⟨bk,off+k * 37+1,none⟩=some (.int .i64 t)∧w'.rangeAt bk (off+k * 37+2) (bys kk)∧w'.rangeAt b5 2 (bys q.1.2.e.key)∧w'.cell? ⟨bk,off+k * 37,none⟩=some (.int .i64 s1)∧w'.cell? ⟨b5,0,none⟩=some (.int .i64 s2)) kQ ?_
   have hG:=hG1
   clear hG1
   refine rP 0 ?_ (y:=mvQ)
   refine rP 1 ?_ (y:=mvQ)
   refine rP 2 ?_ (y:=ixQ)
   refine rP 3 ?_ (y:=flQ)
   refine rP 4 ?_ (y:=flQ)
   refine rP 5 ?_ (y:=flQ)
   refine rt 6 (h:=?_)
   refine rP 7 ?_ (y:=bnQ)
   refine rP 8 ?_ (y:=mvQ)
   refine rP 9 ?_ (y:=(yg_move rQ evD))
   refine rP 10 ?_ (y:=(yg_move rQ evD))
   refine rP 11 ?_ (y:=(yg_index rQ evD evD rnD))
   refine rP 12 ?_ (y:=(yg_field rQ evD rnD))
   refine rP 13 ?_ (y:=(yg_field rQ evD rnD))
   refine rP 14 ?_ (y:=(yg_field rQ evD rnD))
   refine rg_take 15 evD kQ iQ (tg_loadN (b:=bk) (o:=off+k * 37+2) (bys kk) rQ rQ Tryz.underlying41 rfl (by rw [bys_len,Hxk.out];exact infoID) (fun w hw=>hw.2.1)) aQ gQ ?_
   refine rP 16 ?_ (y:=(yg_field rQ evD rnD))
   refine rP 17 ?_ (y:=(yg_field rQ evD rnD))
   refine rP 18 ?_ (y:=(yg_field rQ evD rnD))
   refine rg_take 19 evD kQ iQ (tg_loadN (b:=b5) (o:=2) (bys q.1.2.e.key) rQ rQ Tryz.underlying41 rfl (by rw [bys_len,Hqk.out];exact infoID) (fun w hw=>hw.2.2.1)) aQ gQ ?_
   refine rP 20 ?_ (y:=(yg_bin rQ evD evD (hbin _ _)))
   refine rP 21 ?_ (y:=(yg_pick rQ evD evD))
   refine rP 22 ?_ (y:=mvQ)
   refine rP 23 ?_ (y:=(yg_move rQ evD))
   refine rP 24 ?_ (y:=(yg_move rQ evD))
   refine rP 25 ?_ (y:=(yg_index rQ evD evD rnD))
   refine rP 26 ?_ (y:=(yg_field rQ evD rnD))
   refine rg_take 27 evD kQ iQ (tg_load rQ evD kQ (by intro wq hq;first|exact hq|exact hq.1|exact hq.2|exact hq.2.1|exact hq.2.2|exact hq.2.2.1|exact hq.2.2.2|exact hq.2.2.2.1|exact hq.2.2.2.2)) aQ gQ ?_
   refine rP 28 ?_ (y:=(yg_field rQ evD rnD))
   refine rg_take 29 evD kQ iQ (tg_load rQ evD kQ (by intro wq hq;first|exact hq|exact hq.1|exact hq.2|exact hq.2.1|exact hq.2.2|exact hq.2.2.1|exact hq.2.2.2|exact hq.2.2.2.1|exact hq.2.2.2.2)) aQ gQ ?_
   clear hG
   refine rP 30 ?_ (y:=(yg_bin rQ evD evD rnD))
   refine rP 31 ?_ (y:=(yg_pick rQ evD evD))
   refine wdQ ?_
   try simp only [ayQ]
   try go_frame
   clear hbin
   go_wp2_with fail
   go_roundg (i - (k+1))
   case measure=>have:=Hlt.out;omega
   case rel=>exact ⟨k+1,rfl,Hlt.out,by first|rfl|go_num,Hm.out,hS1⟩
end
section
variable {w0 w:World}{F:List HProp}{lv:Value}
theorem kvA_ones (q:Bs×Seg.Plc):(kvL q).toArray.toList.all (·.oneCell')=true:=by rw [List.toList_toArray];exact kvL_ones q
theorem infoKv:(Tryz.prog.info? 117).map (·.size)=some 35:=by kernel_rfl
set_option maxRecDepth 20000 in
theorem rinsert_c (l:List (Bs×Seg.Plc)) (hk:∀ q∈l,q.1.length=32) (x:Bs×Seg.Plc) (hx:x.1.length=32) (hlen:l.length≤13000000) (hr:Ro w0 F (rdsl 35 lv (l.flatMap kvL))) (h:Sat w0 w F) :
  Calls Tryz.prog 158 #[lv,.agg (kvL x).toArray] w (Rtn fun v w'=>∃ ov,v=ov∧Sat w0 w' (osl 117 35 ov ((Tab.ins l x).flatMap kvL)::F)):=by
 have Hkl:=uQ (show ∀ q∈l,(kvL q).length=35 from fun q hq=>kvL_len q (hk q hq))
 obtain ⟨la,lc,rfl⟩:=osl_rows Hkl.out (hr w h) dQ
 have Hr:=uQ hr;have Hx:=uQ hx;have Hlen:=uQ hlen;have Hk:=uQ hk
 have Hxl:=uQ (kvL_len x hx)
 have Hin:=uQ (fun i=>show ∀ q∈(Rep.insB l x i).1,(kvL q).length=35 from by
  induction i with
  |zero=>intro q hq;cases hq
  |succ i ih=>
   unfold Rep.insB
   split
   ·exact ih
   ·rename_i y hy
    have hym:=hk y (List.mem_of_getElem? hy)
    split
    all_goals
     intro q hq
     simp only [List.mem_append,List.mem_singleton]at hq
    ·rcases hq with (hq|rfl)|rfl
     ·exact ih q hq
     ·exact kvL_len _ hx
     ·exact kvL_len _ hym
    ·rcases hq with hq|rfl
     ·exact ih q hq
     ·exact kvL_len _ hym)
 clear hr hx hlen hk
 go_enter Tryz.func158,Tryz.ntmps158
 go_wp2_with (with_reducible apply at_box)
 refine ⟨wl_box h evD evD ?_⟩
 intro b3 w3 h3
 clear h
 have h4:Sat w0 w3 (osl 117 35 (.slice none 0 0) ((Rep.insB l x 0).1.flatMap kvL)::pt b3 (.cells (kvL x).toArray 117 (0,0))::F):=Sat.osl_nil.2 h3
 clear h3
 go_wp2_with fail
 go_loopg [5,6,7] l.length (fun g oq dq iq wr=>∃ i:Nat,g=l.length - i∧i≤l.length∧iq = .int .i64 i∧dq = .bool (Rep.insB l x i).2 ∧
  Sat w0 wr (osl 117 35 oq ((Rep.insB l x i).1.flatMap kvL)::pt b3 (.cells (kvL x).toArray 117 (0,0))::F))
 case atStart=>exact ⟨0,rfl,Nat.zero_le _,rfl,rfl,h4⟩
 case round=>
  obtain ⟨i,rfl,hi,rfl,rfl,hS⟩:=hrel
  clear h4
  have hle:((Rep.insB l x i).1.flatMap kvL).length≤2147483648:=by
   rw [rows_len (k:=35) (Hin.out i)]
   have:=(Rep.insB_len l x i).1
   have:=Hlen.out;omega
  by_cases hlt:i<l.length
  rotate_left
  ·obtain rfl:i=l.length:=by omega
   have c1:¬ (l.length:Int)<(l.length:Int):=oQ
   clear hlt hi
   cases hd:(Rep.insB l x l.length).2 with
   |true=>
    have Hf:=uQ (Rep.ins_done hd)
    clear hd
    go_wp2_with fail
    go_ret
    rw [← Hf.out]
    first|exact ⟨_,rfl,hS.sb⟩|exact ⟨_,rfl,_,rfl,hS.sb⟩
   |false=>
    have Hf:=uQ (Rep.ins_not hd)
    clear hd
    go_wp2_with (first
     |((with_reducible refine at_load ⟨?_⟩);refine wl_loadA (cs:=(kvL x).toArray) hS rQ pick1 Tryz.underlying117 rfl (by rw [List.size_toArray,Hxl.out];exact infoKv) ?_)
     |(with_reducible apply at_build1))
    refine ⟨wl_build1 (e:=117) (sz:=35) (by':=56) kQ hS evD (cs:=(kvL x).toArray) rfl (by rw [List.size_toArray,Hxl.out]) dQ ?_⟩
    intro bN wN hN
    go_wp2_with (with_reducible apply at_append)
    refine ⟨wl_app 117 35 56 kQ hN rQ rQ pick1 pick0 (by rw [List.size_toArray,Hxl.out]) (Nat.le_refl 1) (kvA_ones x) hle (by rw [List.size_toArray,Hxl.out];decide) dQ (by rw [List.toList_toArray]) ?_⟩
    intro bA nA cA wA hA
    have e9:(Rep.insB l x l.length).1.flatMap kvL++kvL x=(Tab.ins l x).flatMap kvL:=by rw [← Hf.out,List.flatMap_append];simp
    rw [e9]at hA
    clear hN hS e9
    go_wp2_with fail
    go_ret
    first|exact ⟨_,rfl,_,rfl,hA.sb⟩|exact ⟨_,rfl,hA.sb⟩
  have c1:(i:Int)<(l.length:Int):=oQ
  have hwi:IntKind.i64.wrap ((i:Int)+1)=(i:Int)+1:=IntWalk.i64_in _ (by have:=Hlen.out;omega)
  obtain ⟨y,hy⟩:∃ y,l[i]?=some y:=⟨_,List.getElem?_eq_getElem hlt⟩
  have Hyk:=uQ (Hk.out y (List.mem_of_getElem? hy))
  have Hyl:=uQ (kvL_len y Hyk.out)
  obtain ⟨bk,off,c',e0,_⟩:=osl_row Hkl.out (Hr.out _ hS.drop.drop) hy dQ
  cases e0
  have HC:=uQ (fun (w':World) (hw:Sat w0 w' F)=>show w'.rangeAt bk (off+i * 35) (kvL y) from by
   obtain ⟨bk',off',c'',e0,hc⟩:=osl_row Hkl.out (Hr.out _ hw) hy dQ
   cases e0
   exact hc)
  have Hy:=uQ hy;have Hlt:=uQ hlt
  have Hput:=uQ (fun (hd:(Rep.insB l x i).2=false) (hl:x.1<y.1)=>Rep.insB_in hy hd hl)
  have Hby:=uQ (fun hd=>Rep.insB_by (x:=x) hy hd)
  clear hy hlt hi
  cases hd:(Rep.insB l x i).2 with
  |true=>
   have Hb:=uQ (Hby.out (fun hh=>by rw [hd]at hh;cases hh.1))
   rw [hd]at Hb
   have hS1:=hS.drew
   have hcy:=HC.out _ hS1.drop.drop
   clear hd hS
   go_wp2_with fail
   refine wpL_begin [10,11] (fun w'=>True) kQ ?_
   have hG:True:=trivial
   refine rP 0 ?_ (y:=mvQ)
   refine rP 1 ?_ (y:=(yl_un evD rnD))
   refine rP 2 ?_ (y:=mvQ)
   refine rg_skip 3 evD kQ iQ rQ gQ ?_
   refine rg_skip 4 evD kQ iQ rQ gQ ?_
   refine rg_skip 5 evD kQ iQ rQ gQ ?_
   refine rg_skip 6 evD kQ iQ rQ gQ ?_
   refine rg_skip 7 evD kQ iQ rQ gQ ?_
   refine rg_skip 8 evD kQ iQ rQ gQ ?_
   refine rg_skip 9 evD kQ iQ rQ gQ ?_
   refine rg_skip 10 evD kQ iQ rQ gQ ?_
   refine rP 11 ?_ (y:=(yg_pick rQ evD evD))
   refine wdQ ?_
   clear hG
   try simp only [ayQ]
   try go_frame
   go_wp2_with (first
    |((with_reducible refine at_load ⟨?_⟩);refine wl_loadW (b:=bk) (o:=off+i * 35) (kvL y) rQ hcy Tryz.underlying117 rfl (by rw [Hyl.out];exact infoKv) ?_)
    |(with_reducible apply at_build1))
   refine ⟨wl_build1 (e:=117) (sz:=35) (by':=56) kQ hS1 evD (cs:=(kvL y).toArray) rfl (by rw [List.size_toArray,Hyl.out]) dQ ?_⟩
   intro bN wN hN
   go_wp2_with (with_reducible apply at_append)
   refine ⟨wl_app 117 35 56 kQ hN rQ rQ pick1 pick0 (by rw [List.size_toArray,Hyl.out]) (Nat.le_refl 1) (kvA_ones y) hle (by rw [List.size_toArray,Hyl.out];decide) dQ (by rw [List.toList_toArray]) ?_⟩
   intro bA nA cA wA hA
   have e9:(Rep.insB l x i).1.flatMap kvL++kvL y=(Rep.insB l x (i+1)).1.flatMap kvL:=by rw [Hb.out,List.flatMap_append];simp
   rw [e9]at hA
   clear hN hS1 e9 hcy
   go_wp2_with fail
   go_roundg (l.length - (i+1))
   case measure=>have:=Hlt.out;omega
   case rel=>exact ⟨i+1,rfl,Hlt.out,by first|rfl|go_num,by rw [Hb.out],hA.sb⟩
  |false=>
   have hS1:=hS.drew
   have hcy:=HC.out _ hS1.drop.drop
   have hlc:=rless_c x.1 y.1 Hx.out Hyk.out hS1
   have hrx:World.rangeAt _ b3 0 (bys x.1):=fun j v hj=>by
    rw [Nat.zero_add]
    refine hS1.cellP pick1 j ?_
    rw [List.getElem?_toArray]
    unfold kvL
    rw [List.getElem?_append_left (List.getElem?_eq_some_iff.1 hj).1];exact hj
   have hry:World.rangeAt _ bk (off+i * 35) (bys y.1):=fun j v hj=>hcy j v (by
    unfold kvL
    rw [List.getElem?_append_left (List.getElem?_eq_some_iff.1 hj).1];exact hj)
   by_cases hl:x.1<y.1
   ·have Hb:=uQ (Hput.out hd hl)
    rw [decide_eq_true hl]at hlc
    clear hd hS hl hcy
    go_wp2_with fail
    refine wpL_begin [10,11] (fun w'=>w'.rangeAt b3 0 (bys x.1)∧w'.rangeAt bk (off+i * 35) (bys y.1)) kQ ?_
    have hG:World.rangeAt _ b3 0 (bys x.1)∧World.rangeAt _ bk (off+i * 35) (bys y.1):=⟨hrx,hry⟩
    clear hrx hry
    refine rP 0 ?_ (y:=mvQ)
    refine rP 1 ?_ (y:=(yl_un evD rnD))
    refine rP 2 ?_ (y:=mvQ)
    refine rP 3 ?_ (y:=(yg_field rQ evD rnD))
    refine rg_take 4 evD kQ iQ (tg_loadN (b:=b3) (o:=0) (bys x.1) rQ rQ Tryz.underlying41 rfl (by rw [bys_len,Hx.out];exact infoID) (fun w hw=>hw.1)) aQ gQ ?_
    refine rP 5 ?_ (y:=(yg_move rQ evD))
    refine rP 6 ?_ (y:=(yg_move rQ evD))
    refine rP 7 ?_ (y:=(yg_index rQ evD evD rnD))
    refine rP 8 ?_ (y:=(yg_field rQ evD rnD))
    refine rg_take 9 evD kQ iQ (tg_loadN (b:=bk) (o:=off+i * 35) (bys y.1) rQ rQ Tryz.underlying41 rfl (by rw [bys_len,Hyk.out];exact infoID) (fun w hw=>hw.2)) aQ gQ ?_
    clear hG
    refine rg_eff 10 evD kQ (fun K hK=>?_)
    refine eg_call [.agg (bys x.1).toArray,.agg (bys y.1).toArray] rQ kQ rQ ?_
    refine hlc.mono ?_
    rintro ee w5 ⟨v,rfl,rfl,hS5⟩
    refine hK _ _ (.inl rfl) ?_
    clear hK hlc hS1
    refine rP 11 ?_ (y:=(yg_pick rQ evD evD))
    refine wdQ ?_
    try simp only [ayQ]
    try go_frame
    go_wp2_with (first
     |((with_reducible refine at_load ⟨?_⟩);refine wl_loadA (cs:=(kvL x).toArray) hS5 rQ pick1 Tryz.underlying117 rfl (by rw [List.size_toArray,Hxl.out];exact infoKv) ?_)
     |(with_reducible apply at_build1))
    refine ⟨wl_build1 (e:=117) (sz:=35) (by':=56) kQ hS5 evD (cs:=(kvL x).toArray) rfl (by rw [List.size_toArray,Hxl.out]) dQ ?_⟩
    intro bN wN hN
    go_wp2_with (with_reducible apply at_append)
    refine ⟨wl_app 117 35 56 kQ hN rQ rQ pick1 pick0 (by rw [List.size_toArray,Hxl.out]) (Nat.le_refl 1) (kvA_ones x) hle (by rw [List.size_toArray,Hxl.out];decide) dQ (by rw [List.toList_toArray]) ?_⟩
    intro bA nA cA wA hA
    have hcy:=HC.out _ hA.drop.drop
    have hle2:((Rep.insB l x i).1.flatMap kvL++kvL x).length≤2147483648:=by
     rw [List.length_append,rows_len (k:=35) (Hin.out i),Hxl.out]
     have:=(Rep.insB_len l x i).1
     have:=Hlen.out;omega
    generalize hLL:(Rep.insB l x i).1.flatMap kvL++kvL x=LL at *
    have HLL:=uQ hLL
    clear hN hS5 hLL
    go_wp2_with (first
     |((with_reducible refine at_load ⟨?_⟩);refine wl_loadW (b:=bk) (o:=off+i * 35) (kvL y) rQ hcy Tryz.underlying117 rfl (by rw [Hyl.out];exact infoKv) ?_)
     |(with_reducible apply at_build1))
    refine ⟨wl_build1 (e:=117) (sz:=35) (by':=56) kQ hA evD (cs:=(kvL y).toArray) rfl (by rw [List.size_toArray,Hyl.out]) dQ ?_⟩
    intro bN wN hN
    go_wp2_with (with_reducible apply at_append)
    refine ⟨wl_app 117 35 56 kQ hN rQ rQ pick1 pick0 (by rw [List.size_toArray,Hyl.out]) (Nat.le_refl 1) (kvA_ones y) hle2 (by rw [List.size_toArray,Hyl.out];decide) dQ (by rw [List.toList_toArray]) ?_⟩
    intro bA2 nA2 cA2 wA2 hA2
    have e9:LL++kvL y=(Rep.insB l x (i+1)).1.flatMap kvL:=by rw [← HLL.out,Hb.out,List.flatMap_append,List.flatMap_append];simp
    rw [e9]at hA2
    clear hN hA e9 hcy
    go_wp2_with fail
    go_roundg (l.length - (i+1))
    case measure=>have:=Hlt.out;omega
    case rel=>exact ⟨i+1,rfl,Hlt.out,by first|rfl|go_num,by rw [Hb.out],hA2.sb⟩
   ·have Hb:=uQ (Hby.out (fun hh=>hl hh.2))
    rw [hd]at Hb
    rw [decide_eq_false hl]at hlc
    clear hd hS hl hcy
    go_wp2_with fail
    refine wpL_begin [10,11] (fun w'=>w'.rangeAt b3 0 (bys x.1)∧w'.rangeAt bk (off+i * 35) (bys y.1)) kQ ?_
    have hG:World.rangeAt _ b3 0 (bys x.1)∧World.rangeAt _ bk (off+i * 35) (bys y.1):=⟨hrx,hry⟩
    clear hrx hry
    refine rP 0 ?_ (y:=mvQ)
    refine rP 1 ?_ (y:=(yl_un evD rnD))
    refine rP 2 ?_ (y:=mvQ)
    refine rP 3 ?_ (y:=(yg_field rQ evD rnD))
    refine rg_take 4 evD kQ iQ (tg_loadN (b:=b3) (o:=0) (bys x.1) rQ rQ Tryz.underlying41 rfl (by rw [bys_len,Hx.out];exact infoID) (fun w hw=>hw.1)) aQ gQ ?_
    refine rP 5 ?_ (y:=(yg_move rQ evD))
    refine rP 6 ?_ (y:=(yg_move rQ evD))
    refine rP 7 ?_ (y:=(yg_index rQ evD evD rnD))
    refine rP 8 ?_ (y:=(yg_field rQ evD rnD))
    refine rg_take 9 evD kQ iQ (tg_loadN (b:=bk) (o:=off+i * 35) (bys y.1) rQ rQ Tryz.underlying41 rfl (by rw [bys_len,Hyk.out];exact infoID) (fun w hw=>hw.2)) aQ gQ ?_
    clear hG
    refine rg_eff 10 evD kQ (fun K hK=>?_)
    refine eg_call [.agg (bys x.1).toArray,.agg (bys y.1).toArray] rQ kQ rQ ?_
    refine hlc.mono ?_
    rintro ee w5 ⟨v,rfl,rfl,hS5⟩
    refine hK _ _ (.inl rfl) ?_
    clear hK hlc hS1
    refine rP 11 ?_ (y:=(yg_pick rQ evD evD))
    refine wdQ ?_
    try simp only [ayQ]
    try go_frame
    have hcy:=HC.out _ hS5.drop.drop
    go_wp2_with (first
     |((with_reducible refine at_load ⟨?_⟩);refine wl_loadW (b:=bk) (o:=off+i * 35) (kvL y) rQ hcy Tryz.underlying117 rfl (by rw [Hyl.out];exact infoKv) ?_)
     |(with_reducible apply at_build1))
    refine ⟨wl_build1 (e:=117) (sz:=35) (by':=56) kQ hS5 evD (cs:=(kvL y).toArray) rfl (by rw [List.size_toArray,Hyl.out]) dQ ?_⟩
    intro bN wN hN
    go_wp2_with (with_reducible apply at_append)
    refine ⟨wl_app 117 35 56 kQ hN rQ rQ pick1 pick0 (by rw [List.size_toArray,Hyl.out]) (Nat.le_refl 1) (kvA_ones y) hle (by rw [List.size_toArray,Hyl.out];decide) dQ (by rw [List.toList_toArray]) ?_⟩
    intro bA nA cA wA hA
    have e9:(Rep.insB l x i).1.flatMap kvL++kvL y=(Rep.insB l x (i+1)).1.flatMap kvL:=by rw [Hb.out,List.flatMap_append];simp
    rw [e9]at hA
    clear hN hS5 e9 hcy
    go_wp2_with fail
    go_roundg (l.length - (i+1))
    case measure=>have:=Hlt.out;omega
    case rel=>exact ⟨i+1,rfl,Hlt.out,by first|rfl|go_num,by rw [Hb.out],hA.sb⟩
end
end Go.Proofs.YtmjldaedhmipkaaGreatDoor
namespace Go.Seg
open Go.Med
def Log.rbegin1 (L:Log) (D:Med) (b:Bs):(Log×Med)×Plc×Int:=
 if 1048576≤L.next then ((L,D),Plc.zero,16)
 else if (D.create (name L.next)).2≠0 then ((L,(D.create (name L.next)).1),Plc.zero,(D.create (name L.next)).2)
 else if ((D.create (name L.next)).1.append (name L.next) (mag++b)).2=0 then
  (({ L with l:=L.l++[(L.next,8+(b.length:Int))],on:=true,fresh:=L.fresh+1 },((D.create (name L.next)).1.append (name L.next) (mag++b)).1),⟨L.next,8,b.length⟩,0)
 else if ((D.create (name L.next)).1.append (name L.next) (mag++b)).2=11 then
  ((L,(((D.create (name L.next)).1.append (name L.next) (mag++b)).1.rmove (name L.next) ByteArray.empty true).1),Plc.zero,
   if (((D.create (name L.next)).1.append (name L.next) (mag++b)).1.rmove (name L.next) ByteArray.empty true).2=12 then 12 else 11)
 else ((L,((D.create (name L.next)).1.append (name L.next) (mag++b)).1),Plc.zero,((D.create (name L.next)).1.append (name L.next) (mag++b)).2)
def Log.rbegin (L:Log) (D:Med) (b:Bs):(Log×Med)×Plc×Int:=
 if (L.shut D).2=0 then (L.shut D).1.1.rbegin1 (L.shut D).1.2 b else ((L.shut D).1,Plc.zero,(L.shut D).2)
def Log.rappend (L:Log) (D:Med) (x:Frm.Ent):(Log×Med)×Plc×Int:=
 if (Frm.encode x).2≠0 then ((L,D),Plc.zero,(Frm.encode x).2)
 else if L.fits (Frm.encode x).1.length=true then L.grow D (Frm.encode x).1 else L.rbegin D (Frm.encode x).1
def Log.rcommit (L:Log) (M:Med):(Log×Med)×Int×Int:=
 if (L.rappend M comEnt).2.2≠0 then ((L.rappend M comEnt).1,0,(L.rappend M comEnt).2.2)
 else if ((L.rappend M comEnt).1.2.sync (name (L.rappend M comEnt).2.1.seg)).2≠0 then (((L.rappend M comEnt).1.1,((L.rappend M comEnt).1.2.sync (name (L.rappend M comEnt).2.1.seg)).1),0,((L.rappend M comEnt).1.2.sync (name (L.rappend M comEnt).2.1.seg)).2)
 else if (((L.rappend M comEnt).1.2.sync (name (L.rappend M comEnt).2.1.seg)).1.syncDir).2≠0 then (((L.rappend M comEnt).1.1,(((L.rappend M comEnt).1.2.sync (name (L.rappend M comEnt).2.1.seg)).1.syncDir).1),0,(((L.rappend M comEnt).1.2.sync (name (L.rappend M comEnt).2.1.seg)).1.syncDir).2)
 else (({ (L.rappend M comEnt).1.1 with on:=false,fresh:=0 },(((L.rappend M comEnt).1.2.sync (name (L.rappend M comEnt).2.1.seg)).1.syncDir).1),(L.rappend M comEnt).2.1.seg,0)
def Log.rremove (L:Log) (D:Med) (n:Int):(Log×Med)×Int:=
 match L.at n with
 |none=>((L,D),9)
 |some i=>if (D.rmove (name n) ByteArray.empty true).2=0 then ((L.without i,(D.rmove (name n) ByteArray.empty true).1),0) else ((L,(D.rmove (name n) ByteArray.empty true).1),(D.rmove (name n) ByteArray.empty true).2)
def Agree {α:Type} (r q:(Log×Med)×α):Prop:=r.1.1=q.1.1∧r.2=q.2∧∃ φ V,Side φ V r.1.2 q.1.2
section
variable {φ:Nat→Nat}{V:Nat→Prop}{M D:Med}{K:Nat}{L:Log}
theorem Agree.same {α:Type} (h:Side φ V M D) (L:Log) (x:α):Agree ((L,M),x) ((L,D),x):=⟨rfl,rfl,φ,V,h⟩
theorem Agree.mk' {α:Type}{r q:Med} (h:∃ φ V,Side φ V r q) (L:Log) (x:α):Agree ((L,r),x) ((L,q),x):=⟨rfl,rfl,h⟩
theorem side_grow (h:Side φ V M D) (ok:M.Ok K) (b:Bs):Agree (L.grow M b) (L.grow D b):=by
 unfold Log.grow
 split
 ·exact .same h _ _
 ·rename_i s _
  obtain ⟨h1,h2⟩:=h.append ok (name s.1) b
  rw [← h1]
  split
  ·exact .mk' h2 _ _
  ·exact .mk' h2 _ _
theorem side_shut (h:Side φ V M D) (ok:M.Ok K):Agree (L.shut M) (L.shut D):=by
 unfold Log.shut
 split
 ·exact .same h _ _
 ·rename_i s _
  obtain ⟨h1,h2⟩:=h.sync ok (name s.1)
  rw [← h1]
  split
  ·split
   ·exact .mk' h2 _ _
   ·exact .mk' h2 _ _
  ·exact .same h _ _
theorem remove_said {s:ByteArray} (hoff:M.off=false) (hs:(nget M.now s).isSome=true):(M.remove s).2=0∨(M.remove s).2=12:=by
 unfold Med.remove
 rw [hoff,if_neg dQ]
 cases hg:nget M.now s with
 |none=>rw [hg]at hs;cases hs
 |some i=>
  simp only
  split
  ·exact .inr rfl
  ·exact .inl rfl
theorem full_same {s:ByteArray}{b:Bs} (h:(M.append s b).2=11):(M.append s b).1=M∧M.off=false∧(nget M.now s).isSome=true:=by
 unfold Med.append at h ⊢
 revert h
 split
 ·simp
 rename_i ho
 split
 ·simp
 rename_i i hi
 split
 ·intro _;exact ⟨rfl,by simpa using ho,by rw [hi];rfl⟩
 split
 ·simp
 ·simp
theorem side_begin1 (h:Side φ V M D) (ok:M.Ok K) (b:Bs):Agree (L.begin1 M b) (L.rbegin1 D b):=by
 unfold Log.begin1 Log.rbegin1
 split;· exact .same h _ _
 obtain ⟨h1,φ1,V1,s1⟩:=h.create ok (name L.next)
 have ok1:=ok.create (name L.next)
 rw [← h1]
 split;· exact .mk' ⟨φ1,V1,s1⟩ _ _
 generalize (M.create (name L.next)).1=M1 at *
 generalize (D.create (name L.next)).1=D1 at *
 obtain ⟨h2,φ2,V2,s2⟩:=s1.append ok1 (name L.next) (mag++b)
 have ok2:=ok1.append (name L.next) (mag++b)
 rw [← h2]
 split;· exact .mk' ⟨φ2,V2,s2⟩ _ _
 split
 ·rename_i h11
  obtain ⟨e1,e2,e3⟩:=full_same h11
  obtain ⟨h3,h4⟩:=s2.remove ok2 (name L.next) ByteArray.empty
  rw [← h3]
  have h5:=remove_said (M:=(M1.append (name L.next) (mag++b)).1) (s:=name L.next) (by rw [e1];exact e2) (by rw [e1];exact e3)
  refine ⟨rfl,?_,h4⟩
  simp only [Prod.mk.injEq,true_and]
  rcases h5 with h5|h5
  ·rw [h5];rfl
  ·rw [h5];rfl
 ·exact .mk' ⟨φ2,V2,s2⟩ _ _
theorem shut_ok (ok:M.Ok K):(L.shut M).1.2.Ok (K+1):=by
 unfold Log.shut
 split;· exact ok.mono (Nat.le_succ K)
 split
 ·split
  ·exact ok.sync _
  ·exact ok.sync _
 ·exact ok.mono (Nat.le_succ K)
theorem side_begin (h:Side φ V M D) (ok:M.Ok K) (b:Bs):Agree (L.begin M b) (L.rbegin D b):=by
 unfold Log.begin Log.rbegin
 obtain ⟨h1,h2,φ1,V1,s1⟩:=side_shut (L:=L) h ok
 have ok1:=shut_ok (L:=L) ok
 rw [← h2]
 split
 ·rw [← h1];exact side_begin1 s1 ok1 b
 ·exact ⟨h1,rfl,φ1,V1,s1⟩
theorem side_lappend (h:Side φ V M D) (ok:M.Ok K) (x:Frm.Ent):Agree (L.append M x) (L.rappend D x):=by
 unfold Log.append Log.rappend
 split;· exact .same h _ _
 split
 ·exact side_grow h ok _
 ·exact side_begin h ok _
theorem side_lremove (h:Side φ V M D) (ok:M.Ok K) (n:Int):Agree (L.remove M n) (L.rremove D n):=by
 unfold Log.remove Log.rremove
 cases L.at n with
 |none=>exact .same h _ _
 |some i=>
  simp only
  obtain ⟨h1,h2⟩:=h.remove ok (name n) ByteArray.empty
  rw [← h1]
  split
  ·exact .mk' h2 _ _
  ·exact .mk' h2 _ _
end
structure Fit (K:Nat) (D:Med):Prop where
 ok:D.Ok K
 small:D.Small
 files:D.files.length≤500+K
section
variable {φ:Nat→Nat}{V:Nat→Prop}{M D:Med}{K:Nat}{L:Log}
theorem Fit.mono {K':Nat} (h:Fit K D) (hk:K≤K'):Fit K' D:=⟨h.ok.mono hk,h.small,by have:=h.files;omega⟩
theorem Fit.new (K r:Nat) (h:r≤16777216):Fit K (new r):=⟨Med.Ok.new K r h,(fun f hf=>by cases hf),Nat.zero_le _⟩
theorem Fit.told (h:Fit K D) (x:Med.Cal) (hn:x.n≤9223372036854775807):Fit (K+1) (D.told x).1:=⟨h.ok.told x hn,h.small.told h.ok x,told_files h.ok h.files x⟩
theorem Fit.create (h:Fit K D) (s:ByteArray):Fit (K+1) (D.create s).1:=h.told ⟨0,s,s,0,0,[],[]⟩ (show (0:Int)≤9223372036854775807 by decide)
theorem Fit.append (h:Fit K D) (s:ByteArray) (b:Bs):Fit (K+1) (D.append s b).1:=h.told ⟨1,s,s,0,0,b,[]⟩ (show (0:Int)≤9223372036854775807 by decide)
theorem Fit.gone (h:Fit K D) (s:ByteArray):Fit (K+1) (D.rmove s ByteArray.empty true).1:=h.told ⟨4,s,s,0,0,[],[]⟩ (show (0:Int)≤9223372036854775807 by decide)
theorem Fit.sync (h:Fit K D) (s:ByteArray):Fit (K+1) (D.sync s).1:=h.told ⟨5,s,s,0,0,[],[]⟩ (show (0:Int)≤9223372036854775807 by decide)
theorem Fit.syncDir (h:Fit K D):Fit (K+1) D.syncDir.1:=h.told ⟨6,ByteArray.empty,ByteArray.empty,0,0,[],[]⟩ (show (0:Int)≤9223372036854775807 by decide)
theorem Fit.arm (h:Fit K D) (n:Int) (hn:n≤9223372036854775807):Fit (K+1) (D.arm n).1:=h.told ⟨7,ByteArray.empty,ByteArray.empty,n,0,[],[]⟩ hn
theorem Fit.crash (h:Fit K D) (l:List Int):Fit (K+1) (D.rcrash l):=h.told ⟨8,ByteArray.empty,ByteArray.empty,0,0,[],l⟩ (show (0:Int)≤9223372036854775807 by decide)
theorem Fit.now (h:Fit K D):D.now.length≤500:=h.ok.nowOk.len
theorem Fit.len (h:Fit K D){s:ByteArray}{i:Nat} (hi:nget D.now s=some i):i<D.files.length∧(D.file i).now.length≤1099511627776:=by
 refine ⟨h.ok.nowOk.ids _ (nget_mem hi),?_⟩
 have:=(h.ok.file i).now_len
 omega
theorem Fit.grow (h:Fit K D) (b:Bs):Fit (K+1) (L.grow D b).1.2:=by
 unfold Log.grow
 split;· exact h.mono (Nat.le_succ K)
 split <;> exact h.append _ _
theorem Fit.shut (h:Fit K D):Fit (K+1) (L.shut D).1.2:=by
 unfold Log.shut
 split;· exact h.mono (Nat.le_succ K)
 split
 ·split <;> exact h.sync _
 ·exact h.mono (Nat.le_succ K)
theorem Fit.begin1 (h:Fit K D) (b:Bs):Fit (K+3) (L.rbegin1 D b).1.2:=by
 unfold Log.rbegin1
 split;· exact h.mono oQ
 split;· exact (h.create _).mono oQ
 split;· exact ((h.create _).append _ _).mono oQ
 split;· exact (((h.create _).append _ _).gone _)
 exact ((h.create _).append _ _).mono oQ
theorem Fit.begin (h:Fit K D) (b:Bs):Fit (K+4) (L.rbegin D b).1.2:=by
 unfold Log.rbegin
 split
 ·exact (h.shut).begin1 _
 ·exact h.shut.mono oQ
theorem Fit.lappend (h:Fit K D) (x:Frm.Ent):Fit (K+4) (L.rappend D x).1.2:=by
 unfold Log.rappend
 split;· exact h.mono oQ
 split
 ·exact (h.grow _).mono oQ
 ·exact h.begin _
theorem rcommit_eq (L:Log) (M:Med):L.rcommit M=if (L.rappend M comEnt).2.2≠0 then ((L.rappend M comEnt).1,0,(L.rappend M comEnt).2.2)
 else if ((L.rappend M comEnt).1.2.sync (name (L.rappend M comEnt).2.1.seg)).2≠0 then (((L.rappend M comEnt).1.1,((L.rappend M comEnt).1.2.sync (name (L.rappend M comEnt).2.1.seg)).1),0,((L.rappend M comEnt).1.2.sync (name (L.rappend M comEnt).2.1.seg)).2)
 else if (((L.rappend M comEnt).1.2.sync (name (L.rappend M comEnt).2.1.seg)).1.syncDir).2≠0 then (((L.rappend M comEnt).1.1,(((L.rappend M comEnt).1.2.sync (name (L.rappend M comEnt).2.1.seg)).1.syncDir).1),0,(((L.rappend M comEnt).1.2.sync (name (L.rappend M comEnt).2.1.seg)).1.syncDir).2)
 else (({ (L.rappend M comEnt).1.1 with on:=false,fresh:=0 },(((L.rappend M comEnt).1.2.sync (name (L.rappend M comEnt).2.1.seg)).1.syncDir).1),(L.rappend M comEnt).2.1.seg,0):=rfl
theorem Fit.lcommit (h:Fit K D):Fit (K+6) (L.rcommit D).1.2:=by
 have h1:=h.lappend (L:=L) comEnt
 have h2:=h1.sync (name (L.rappend D comEnt).2.1.seg)
 have h3:=h2.syncDir
 rw [rcommit_eq]
 split;· exact h1.mono oQ
 split;· exact h2.mono oQ
 split;· exact h3
 exact h3
theorem Fit.lremove (h:Fit K D) (n:Int):Fit (K+1) (L.rremove D n).1.2:=by
 unfold Log.rremove
 cases L.at n with
 |none=>exact h.mono (Nat.le_succ K)
 |some i=>
  simp only
  split <;> exact h.gone _
def Log.rback:Nat→Log→Med→(Log×Med)×Int
 |0,L,M=>(({ L with on:=false },M),0)
 |k+1,L,M=>
  match L.l.getLast? with
  |none=>(({ L with on:=false },M),0)
  |some s=>if (L.rremove M s.1).2=0 then Log.rback k (L.rremove M s.1).1.1 (L.rremove M s.1).1.2 else L.rremove M s.1
def Log.rrollback (L:Log) (M:Med):(Log×Med)×Int:=L.rback L.fresh.toNat M
theorem Fit.back:∀ (k:Nat){K:Nat}{L:Log}{D:Med},Fit K D→Fit (K+k) (L.rback k D).1.2
 |0,K,L,D,h=>h
 |k+1,K,L,D,h=>by
  unfold Log.rback
  split;· exact h.mono oQ
  split
  ·exact (Fit.back k (h.lremove _)).mono oQ
  ·exact (h.lremove _).mono oQ
theorem side_back:∀ (k:Nat){K:Nat}{L:Log}{φ:Nat→Nat}{V:Nat→Prop}{M D:Med},Side φ V M D→M.Ok K→Agree (L.back k M) (L.rback k D)
 |0,K,L,φ,V,M,D,h,ok=> .same h _ _
 |k+1,K,L,φ,V,M,D,h,ok=>by
  unfold Log.back Log.rback
  cases L.l.getLast? with
  |none=>exact .same h _ _
  |some s=>
   simp only
   obtain ⟨h1,h2,φ1,V1,s1⟩:=side_lremove (L:=L) h ok s.1
   have ok1:(L.remove M s.1).1.2.Ok (K+1):=by
    unfold Log.remove
    cases L.at s.1 with
    |none=>exact ok.mono (Nat.le_succ K)
    |some i=>simp only;split <;> exact ok.remove _
   rw [← h2]
   split
   ·rw [← h1];exact side_back k s1 ok1
   ·exact ⟨h1,h2,φ1,V1,s1⟩
theorem side_lcommit (h:Side φ V M D) (ok:M.Ok K):Agree (L.commit M) (L.rcommit D):=by
 rw [Log.commit_eq,rcommit_eq]
 obtain ⟨h1,h2,φ1,V1,s1⟩:=side_lappend (L:=L) h ok comEnt
 have ok1:=Log.append_med (L:=L) ok comEnt
 generalize L.append M comEnt=a at *
 generalize L.rappend D comEnt=b at *
 obtain ⟨⟨L1,M1⟩,p,e⟩:=a
 obtain ⟨⟨L2,D1⟩,q,f⟩:=b
 simp only at h1 h2 s1 ok1
 obtain ⟨rfl,rfl⟩:=Prod.mk.inj h2
 subst h1
 dsimp only
 split;· exact .same s1 _ _
 obtain ⟨h3,φ2,V2,s2⟩:=s1.sync ok1 (name p.seg)
 have ok2:=ok1.sync (name p.seg)
 rw [← h3]
 split;· exact .mk' ⟨φ2,V2,s2⟩ _ _
 obtain ⟨h4,h5⟩:=s2.syncDir ok2
 rw [← h4]
 split;· exact .mk' h5 _ _
 exact .mk' h5 _ _
theorem side_lrollback (h:Side φ V M D) (ok:M.Ok K):Agree (L.rollback M) (L.rrollback D):=side_back _ h ok
theorem Log.shut_fresh (L:Log) (M:Med):(L.shut M).1.1.fresh=L.fresh:=by
 unfold Log.shut
 split;· rfl
 split
 ·split <;> rfl
 ·rfl
theorem Log.append_fresh (L:Log) (M:Med) (x:Frm.Ent):(L.append M x).1.1.fresh≤L.fresh+1:=by
 unfold Log.append
 split;· simp only;omega
 split
 ·unfold Log.grow
  split;· simp only;omega
  split <;> (simp only;omega)
 ·unfold Log.begin
  have h1:=Log.shut_fresh L M
  split
  ·unfold Log.begin1
   split;· simp only;omega
   split;· simp only;omega
   split;· simp only;omega
   split <;> (simp only;omega)
  ·simp only;omega
theorem Log.commit_fresh (L:Log) (M:Med) (h0:0≤L.fresh):(L.commit M).1.1.fresh≤L.fresh+1:=by
 have h1:=Log.append_fresh L M comEnt
 rw [Log.commit_eq]
 split;· exact h1
 split;· exact h1
 split;· exact h1
 simp only;omega
theorem Log.remove_fresh_le (L:Log) (M:Med) (n:Int):(L.remove M n).1.1.fresh≤L.fresh:=by
 unfold Log.remove
 cases L.at n with
 |none=>exact Int.le_refl _
 |some i=>
  simp only
  split
  ·unfold Log.without;simp only;split <;> omega
  ·exact Int.le_refl _
theorem Log.back_fresh:∀ (k:Nat) (L:Log) (M:Med),(L.back k M).1.1.fresh≤L.fresh
 |0,L,M=>Int.le_refl _
 |k+1,L,M=>by
  unfold Log.back
  cases L.l.getLast? with
  |none=>exact Int.le_refl _
  |some s=>
   simp only
   split
   ·exact Int.le_trans (Log.back_fresh k _ _) (Log.remove_fresh_le L M s.1)
   ·exact Log.remove_fresh_le L M s.1
end
end Go.Seg
namespace Go.Frm
def bst (x:Nat):Nat:=(x / 2) ^^^ (if x%2=1 then 3988292384 else 0)
theorem xor_half (a b:Nat):(a ^^^ b) / 2=a / 2 ^^^ b / 2:=by
 have h:=Nat.shiftRight_xor_distrib (a:=a) (b:=b) (i:=1)
 simpa [Nat.shiftRight_eq_div_pow] using h
theorem xor_par (a b:Nat):(a ^^^ b)%2=(a%2+b%2)%2:=by
 have h:=Nat.testBit_xor a b 0
 rw [Nat.testBit_zero,Nat.testBit_zero,Nat.testBit_zero]at h
 rcases Nat.mod_two_eq_zero_or_one a with h1|h1 <;> rcases Nat.mod_two_eq_zero_or_one b with h2|h2 <;> rcases Nat.mod_two_eq_zero_or_one (a ^^^ b) with h3|h3 <;> simp [h1,h2,h3]at h ⊢
theorem bst_x (u z:Nat):bst (u ^^^ z)=(u / 2) ^^^ ((z / 2) ^^^ (if (u%2+z%2)%2=1 then 3988292384 else 0)):=by
 unfold bst
 rw [xor_half,xor_par,Nat.xor_assoc]
theorem bst4 (y:Nat):bst (bst (bst (bst y)))=fold4 y:=by
 have h0:y=y ^^^ 0:=(Nat.xor_zero y).symm
 conv=>lhs;rw [h0]
 rw [bst_x,bst_x,bst_x,bst_x]
 rw [show y / 2 / 2 / 2 / 2=y / 16 by omega]
 unfold fold4
 congr 1
 have e0:y%2=(y%16)%2:=oQ
 have e1:y / 2%2=(y%16) / 2%2:=oQ
 have e2:y / 2 / 2%2=(y%16) / 2 / 2%2:=oQ
 have e3:y / 2 / 2 / 2%2=(y%16) / 2 / 2 / 2%2:=oQ
 rw [e0,e1,e2,e3]
 have hr:y%16<16:=oQ
 clear e0 e1 e2 e3 h0
 generalize y%16=r at *
 revert r
 decide +kernel
def bitIn (x c k:Nat):Nat:=if x%2≠c / 2^k%2 then (x / 2) ^^^ 3988292384 else x / 2
theorem bitIn_eq (x c k:Nat):bitIn x c k ^^^ (c / 2^(k+1))=bst (x ^^^ (c / 2^k)):=by
 rw [bst_x]
 unfold bitIn
 have e:c / 2^(k+1)=c / 2^k / 2:=by rw [Nat.pow_succ,Nat.div_div_eq_div_mul]
 rw [e]
 have h1:x%2<2:=Nat.mod_lt _ dQ
 have h2:c / 2^k%2<2:=Nat.mod_lt _ dQ
 by_cases h:x%2=c / 2^k%2
 ·rw [if_neg oQ,if_neg oQ,Nat.xor_zero]
 ·rw [if_pos h,if_pos oQ,Nat.xor_assoc,Nat.xor_comm 3988292384]
def bitsIn (x c:Nat):Nat→Nat
 |0=>x
 |k+1=>bitIn (bitsIn x c k) c k
theorem bitsIn_8 (x:Nat) (c:UInt8):bitsIn x c.toNat 8=crcStep x c:=by
 have hc:=c.toNat_lt
 have h0:bitsIn x c.toNat 8=bitsIn x c.toNat 8 ^^^ (c.toNat / 2^8):=by rw [show c.toNat / 2^8=0 by omega,Nat.xor_zero]
 rw [h0]
 show bitIn _ _ 7 ^^^ _=_
 rw [bitIn_eq _ _ 7]
 show bst (bitIn _ _ 6 ^^^ _)=_
 rw [bitIn_eq _ _ 6]
 show bst (bst (bitIn _ _ 5 ^^^ _))=_
 rw [bitIn_eq _ _ 5]
 show bst (bst (bst (bitIn _ _ 4 ^^^ _)))=_
 rw [bitIn_eq _ _ 4]
 show bst (bst (bst (bst (bitIn _ _ 3 ^^^ _))))=_
 rw [bst4,bitIn_eq _ _ 3]
 show fold4 (bst (bitIn _ _ 2 ^^^ _))=_
 rw [bitIn_eq _ _ 2]
 show fold4 (bst (bst (bitIn _ _ 1 ^^^ _)))=_
 rw [bitIn_eq _ _ 1]
 show fold4 (bst (bst (bst (bitIn _ _ 0 ^^^ _))))=_
 rw [bitIn_eq _ _ 0,bst4]
 show fold4 (fold4 (x ^^^ c.toNat / 2^0))=_
 rw [show c.toNat / 2^0=c.toNat by rw [Nat.pow_zero,Nat.div_one]]
 rfl
theorem bitIn_lt {x:Nat} (h:x<4294967296) (c k:Nat):bitIn x c k<4294967296:=by
 unfold bitIn
 split
 ·exact xor_lt oQ dQ
 ·omega
theorem bitsIn_lt {x:Nat} (h:x<4294967296) (c:Nat):∀ k,bitsIn x c k<4294967296
 |0=>h
 |k+1=>bitIn_lt (bitsIn_lt h c k) c k
theorem le_snoc (x:Nat):∀ n,le x (n+1)=le x n++[UInt8.ofNat (x / 256^n%256)]:=by
 intro n
 induction n generalizing x with
 |zero=>simp [le]
 |succ n ih=>
  show UInt8.ofNat (x%256)::le (x / 256) (n+1)=UInt8.ofNat (x%256)::le (x / 256) n++_
  rw [ih,Nat.div_div_eq_div_mul,Nat.mul_comm 256,← Nat.pow_succ];rfl
end Go.Frm
namespace Go.Proofs.YtmjldaedhmipkaaGreatDoor
open Go Go.Sl Go.Med Go.MapKept Go.RowKit
section
variable {w0 w:World}{F:List HProp}{v bv:Value}
theorem radd_c (l:Bs) (hr:rdsl 1 bv (bys l) w) (hl:l.length≤1099511627776) :
  Calls Tryz.prog 162 #[.int .u32 0,bv] w (Rtn fun v w'=>v = .int .u32 (Frm.crc l:Nat)∧w=w'):=by
 obtain ⟨a,n,c,rfl,hn,_⟩:=id hr
 rw [bys_len,Nat.mul_one]at hn
 subst hn
 have hx0:bits .xor .u32 0 4294967295=4294967295:=by decide +kernel
 have Hl:=uQ hl
 clear hl
 go_enter Tryz.func162,Tryz.ntmps162
 go_wp2_with fail
 clear hx0
 go_loopg [5,6] l.length (fun g xv iq wr=>∃ i:Nat,g=l.length - i∧i≤l.length∧iq = .int .i64 i∧xv = .int .u32 ((l.take i).foldl Frm.crcStep 4294967295:Nat)∧wr=w)
 case atStart=>exact ⟨0,rfl,Nat.zero_le _,rfl,rfl,rfl⟩
 case round=>
  obtain ⟨i,rfl,hi,rfl,rfl,rfl⟩:=hrel
  have hxlt:(l.take i).foldl Frm.crcStep 4294967295<4294967296:=Frm.foldl_lt _ _ dQ
  by_cases hi':i<l.length
  ·have hb:(bys l)[i]?=some (.int .u8 (l[i]'hi').toNat):=by unfold bys;simp [hi']
   obtain ⟨bk,off,rfl,c1⟩:=rdsl_cell hr hb
   have hnext:(l.take (i+1)).foldl Frm.crcStep 4294967295=Frm.bitsIn ((l.take i).foldl Frm.crcStep 4294967295) (l[i]'hi').toNat 8:=by
    rw [List.take_succ_eq_append_getElem hi',List.foldl_append,Frm.bitsIn_8];rfl
   have hic:(i:Int)<(l.length:Int):=oQ
   have hwi:IntKind.i64.wrap ((i:Int)+1)=(i:Int)+1:=IntWalk.i64_in _ (by have h1:=Hl.out;omega)
   have hcb:=(l[i]'hi').toNat_lt
   have Hnext:=uQ hnext
   have Hi':=uQ hi'
   clear hb hnext hr
   generalize (l[i]'hi').toNat=cb at *
   generalize (l.take i).foldl Frm.crcStep 4294967295=x at *
   have Hx:=uQ hxlt;have Hcb:=uQ hcb
   clear hxlt hcb hi'
   go_wp2_with fail
   go_loopg [5,7] 8 (fun g xv kq wq=>∃ k:Nat,g=8 - k∧k≤8∧kq = .int .u64 k∧xv = .int .u32 (Frm.bitsIn x cb k:Nat)∧wq=wr)
   case atStart=>exact ⟨0,rfl,Nat.zero_le _,rfl,rfl,rfl⟩
   case round=>
    obtain ⟨k,rfl,hk,rfl,rfl,rfl⟩:=hrel
    by_cases hk':k<8
    ·have d1:(k:Int)<8:=by omega
     have hX:=Frm.bitsIn_lt Hx.out cb k
     have hstep:Frm.bitsIn x cb (k+1)=Frm.bitIn (Frm.bitsIn x cb k) cb k:=rfl
     unfold Frm.bitIn at hstep
     generalize Frm.bitsIn x cb k=X at *
     have d2:(X:Int) / 2%4294967296=((X / 2:Nat):Int):=oQ
     obtain ⟨p,hp⟩:∃ p,p=X%2:=⟨_,rfl⟩
     obtain ⟨q,hq⟩:∃ q,q=cb / 2^k%2:=⟨_,rfl⟩
     rw [← hp,← hq]at hstep
     have f1:bits .and .u32 (X:Int) 1=(p:Int):=by
      have:=u32_and_nat X 1 hX dQ
      rw [Nat.and_one_is_mod,← hp]at this
      exact this
     have hcb:=Hcb.out
     have f2:bits .and .u8 ((cb:Int) / 2^k) 1=(q:Int):=by
      have h1:cb / 2^k<256:=Nat.lt_of_le_of_lt (Nat.div_le_self _ _) hcb
      have:=u8_and_nat (cb / 2^k) 1 h1 dQ
      rw [Nat.and_one_is_mod,← hq]at this
      rw [← this,Int.natCast_ediv,Int.natCast_pow];rfl
     have f4:(q:Int)%4294967296=(q:Int):=oQ
     have f3:bits .xor .u32 ((X:Int) / 2) 3988292384=((X / 2 ^^^ 3988292384:Nat):Int):=by
      have:=u32_xor_nat (X / 2) 3988292384 oQ dQ
      rw [← this];rfl
     have hwk:IntKind.u64.wrap ((k:Int)+1)=(k:Int)+1:=by show ((k:Int)+1)%18446744073709551616=_;omega
     have Hstep:=uQ hstep
     clear hstep hp hq hcb hX
     by_cases hpq:p=q
     ·subst hpq
      go_wp2_with fail
      go_roundg (8 - (k+1))
      case measure=>omega
      case rel=>exact ⟨k+1,rfl,by omega,by first|rfl|go_num,by rw [Hstep.out,if_neg (by simp)];rfl,rfl⟩
     ·have hne:((p:Int)==(q:Int))=false:=by rw [beq_eq_false_iff_ne];omega
      generalize X / 2 ^^^ 3988292384=Y at *
      go_wp2_with fail
      go_roundg (8 - (k+1))
      case measure=>omega
      case rel=>exact ⟨k+1,rfl,by omega,by first|rfl|go_num,by rw [Hstep.out,if_pos hpq],rfl⟩
    ·obtain rfl:k=8:=by omega
     have d1:¬ ((8:Nat):Int)<8:=by decide
     go_wp2_with fail
     go_roundg (l.length - (i+1))
     case measure=>have:=Hi'.out;omega
     case rel=>exact ⟨i+1,rfl,Nat.succ_le_of_lt Hi'.out,by first|rfl|go_num,by rw [Hnext.out],rfl⟩
  ·obtain rfl:i=l.length:=by omega
   have hic:¬ (l.length:Int)<(l.length:Int):=oQ
   rw [List.take_length]at *
   have hn2:bits .xor .u32 ((l.foldl Frm.crcStep 4294967295:Nat):Int) 4294967295=((4294967295 - l.foldl Frm.crcStep 4294967295:Nat):Int):=by
    have h1:=not_u32 _ hxlt
    have h2:=u32_xor_nat (l.foldl Frm.crcStep 4294967295) 4294967295 hxlt dQ
    have h3:=u32_xor_nat 4294967295 (l.foldl Frm.crcStep 4294967295) dQ hxlt
    rw [← h1]
    show bits .xor .u32 _ ((4294967295:Nat):Int)=bits .xor .u32 ((4294967295:Nat):Int) _
    rw [h2,h3,Nat.xor_comm]
   have hfin:Frm.crc l=4294967295 - l.foldl Frm.crcStep 4294967295:=rfl
   rw [← hfin]at hn2
   generalize l.foldl Frm.crcStep 4294967295=x at *
   clear hi hi' hxlt hfin
   go_wp2
   go_ret
   exact ⟨_,rfl,rfl,rfl⟩
theorem rsum_c (l:Bs) (hr:rdsl 1 bv (bys l) w) (hl:l.length≤1099511627776) :
  Calls Tryz.prog 130 #[bv] w (Rtn fun v w'=>v = .int .u32 (Frm.crc l:Nat)∧w=w'):=by
 have ha:=radd_c l hr hl
 obtain ⟨a,n,c,rfl,hn,_⟩:=id hr
 clear hr hl
 go_enter Tryz.func130,Tryz.ntmps130
 go_wp2_with fail
 refine ha.mono ?_
 rintro e w1 ⟨v,rfl,rfl,rfl⟩
 clear ha
 go_wp2
 go_ret
 exact ⟨_,rfl,rfl,rfl⟩
end
end Go.Proofs.YtmjldaedhmipkaaGreatDoor
namespace Go.Frm
theorem num_drop {l:Bs}{i:Nat} (h:i<l.length):num (l.drop i)=(l[i]'h).toNat+256 * num (l.drop (i+1)):=by
 rw [List.drop_eq_getElem_cons h];rfl
end Go.Frm
namespace Go.Proofs.YtmjldaedhmipkaaGreatDoor
open Go Go.Sl Go.Med Go.MapKept Go.RowKit
section
variable {w0 w:World}{F:List HProp}{v bv:Value}
theorem rput_c (x n:Nat) (hx:x<18446744073709551616) (h1:1≤n) (h8:n≤8) (h:Sat w0 w F) :
  Calls Tryz.prog 129 #[.int .u64 x,.int .i64 n] w (Rtn fun v w'=>Sat w0 w' (bsl v (Frm.le x n)::F)∧∃ a n c,v = .slice a n c):=by
 have d1:decide ((n:Int)<1)=false:=by rw [decide_eq_false_iff_not];omega
 have d2:decide (8<(n:Int))=false:=by rw [decide_eq_false_iff_not];omega
 have d1':¬ n<1:=oQ
 have d2':¬ 8<n:=oQ
 have Hx:=uQ hx;have H8:=uQ h8
 clear hx h1 h8
 go_enter Tryz.func129,Tryz.ntmps129
 go_wp2_with fail
 clear d1 d2 d1' d2'
 go_loopg [0,5,6] n (fun g xq bq iq wr=>∃ i:Nat,g=n - i∧i≤n∧iq = .int .i64 i∧xq = .int .u64 (x / 256^i:Nat)∧Sat w0 wr (bsl bq (Frm.le x i)::F))
 case atStart=>exact ⟨0,rfl,Nat.zero_le _,rfl,by rw [Nat.pow_zero,Nat.div_one],Sat.osl_nil.2 h⟩
 case round=>
  obtain ⟨i,rfl,hi,rfl,rfl,hS⟩:=hrel
  clear h
  obtain ⟨ba,bn,bc,rfl,_⟩:=id (Sat.rd hS)
  by_cases hlt:i<n
  ·have c1:(i:Int)<(n:Int):=by omega
   have h8:=H8.out
   have hwi:=iwQ (i:=i)
   have hX:x / 256^i<18446744073709551616:=Nat.lt_of_le_of_lt (Nat.div_le_self _ _) Hx.out
   have hnx:x / 256^(i+1)=x / 256^i / 256:=by rw [Nat.pow_succ,Nat.div_div_eq_div_mul]
   have hle:=Frm.le_snoc x i
   have Hle:=uQ hle;have Hnx:=uQ hnx;have Hlt:=uQ hlt
   have hlen:(bys (Frm.le x i)).length≤2147483648:=by rw [bys_len,Frm.le_len];omega
   clear hle hnx hlt h8
   generalize x / 256^i=X at *
   obtain ⟨cc,hcc⟩:∃ cc,cc=UInt8.ofNat (X%256):=⟨_,rfl⟩
   have hcv:(X:Int)%256=(cc.toNat:Int):=by rw [hcc,UInt8.toNat_ofNat'];omega
   have hcw:(cc.toNat:Int)%256=(cc.toNat:Int):=by have:=cc.toNat_lt;omega
   have hdv:(X:Int) / 256=((X / 256:Nat):Int):=rfl
   have hdw:((X / 256:Nat):Int)%18446744073709551616=((X / 256:Nat):Int):=oQ
   rw [← hcc]at Hle
   clear hcc hX
   generalize X / 256=Y at *
   have hSo:Sat w0 wr (osl 5 1 (.slice ba bn bc) (bys (Frm.le x i))::F):=hS
   generalize hB:bys (Frm.le x i)=B at *
   clear hS
   go_wp2_with (first
    |((with_reducible refine at_build1 ⟨?_⟩);refine wl_build1 (e:=5) (sz:=1) (by':=1) kQ aQ evD evD rQ bQ ?_;intro bN wN hN)
    |((with_reducible refine at_append ⟨?_⟩);refine wl_app 5 1 1 kQ hN rQ rQ (pick_there pick0) pick0 rQ (Nat.le_refl 1) rQ hlen (by show 1≤65536;decide) dQ evD ?_;intro bA nA cA wA hA))
   go_roundg (n - (i+1))
   case measure=>have:=Hlt.out;omega
   case rel=>
    refine ⟨i+1,rfl,Nat.succ_le_of_lt Hlt.out,by first|rfl|go_num,by rw [Hnx.out],?_⟩
    rw [Hle.out]
    unfold bsl
    have e:bys (Frm.le x i++[cc])=B++[Value.int .u8 cc.toNat]:=by rw [← hB];unfold bys;rw [List.map_append];rfl
    rw [e]
    exact hA
  ·obtain rfl:i=n:=by omega
   have c1:¬ (i:Int)<(i:Int):=oQ
   clear hlt
   go_wp2
   go_ret
   exact ⟨_,rfl,hS,_,_,_,rfl⟩
theorem rmagic_c (h:Sat w0 w F) :
  Calls Tryz.prog 132 #[] w (Rtn fun v w'=>∃ b,v = .slice (some ⟨b,0,none⟩) 8 8∧Sat w0 w' (bsl v [72,79,65,82,68,83,69,71]::F)):=by
 have hA:=h.alloc (.cells #[.int .u8 72,.int .u8 79,.int .u8 65,.int .u8 82,.int .u8 68,.int .u8 83,.int .u8 69,.int .u8 71] 5)
 go_enter Tryz.func132,Tryz.ntmps132
 go_wp2
 go_ret
 exact ⟨_,rfl,_,rfl,Sat.osl_of_pt hA rfl (Nat.le_refl _) (Nat.le_refl _) dQ rfl⟩
theorem rget_c (l:Bs) (h1:1≤l.length) (h8:l.length≤8) (hr:rdsl 1 bv (bys l) w) :
  Calls Tryz.prog 145 #[bv] w (Rtn fun v w'=>v = .tuple #[.int .u64 (Frm.num l:Nat),.bool true]∧w=w'):=by
 obtain ⟨a,n,c,rfl,hn,_⟩:=id hr
 rw [bys_len,Nat.mul_one]at hn
 subst hn
 have d1:((l.length:Int)==0)=false:=by rw [beq_eq_false_iff_ne];omega
 have d2:decide (8<(l.length:Int))=false:=by rw [decide_eq_false_iff_not];omega
 have d1':¬ l.length=0:=oQ
 have d2':¬ 8<l.length:=oQ
 have hw1:IntKind.i64.wrap ((l.length:Int) - 1)=(l.length:Int) - 1:=IntWalk.i64_in _ oQ
 have H8:=uQ h8;have Hr:=uQ hr
 clear h1 h8 hr
 go_enter Tryz.func145,Tryz.ntmps145
 go_wp2_with fail
 clear d1 d2 d1' d2'
 go_loopg [4,5] l.length (fun g xq iq wr=>∃ (m:Nat) (z:Int),g=l.length - (l.length - m)∧m≤l.length∧iq = .int .i64 z∧z=(m:Int) - 1∧xq = .int .u64 (Frm.num (l.drop m):Nat)∧wr=w)
 case atStart=>exact ⟨l.length,_,by omega,Nat.le_refl _,rfl,rfl,by rw [List.drop_length];rfl,rfl⟩
 case round=>
  obtain ⟨m,zz,rfl,hm,rfl,hzz,rfl,rfl⟩:=hrel
  cases m with
  |zero=>
   obtain rfl:zz = -1:=by omega
   clear hzz hw1
   rw [List.drop_zero]
   go_wp2
   go_ret2
   exact ⟨_,rfl,rfl,rfl⟩
  |succ m=>
   have hzm:zz=(m:Int):=oQ
   clear hzz
   subst hzm
   have hml:m<l.length:=oQ
   have c8:(m:Int)<(l.length:Int):=oQ
   have h8:=H8.out
   have hwm:IntKind.i64.wrap ((m:Int) - 1)=(m:Int) - 1:=IntWalk.i64_in _ oQ
   have hb:(bys l)[m]?=some (.int .u8 (l[m]'hml).toNat):=by unfold bys;simp [hml]
   obtain ⟨bk,off,rfl,c1⟩:=rdsl_cell Hr.out hb
   have hnd:=Frm.num_drop hml
   have hlt:=Frm.num_lt (l.drop m)
   have hlt2:Frm.num (l.drop m)<18446744073709551616:=Nat.lt_of_lt_of_le hlt (by
    have:256^(l.drop m).length≤256^8:=Nat.pow_le_pow_right dQ (by rw [List.length_drop];omega)
    exact Nat.le_trans this dQ)
   rw [hnd]at hlt2
   have hcm:((l[m]'hml).toNat:Int)%18446744073709551616=((l[m]'hml).toNat:Int):=oQ
   have Hnd:=uQ hnd;have Hml:=uQ hml
   clear hb hnd hlt h8 hm hw1
   generalize (l[m]'hml).toNat=cb at *
   clear hml
   generalize Frm.num (l.drop (m+1))=X at *
   have e1:(X:Int) * 256%18446744073709551616=((X * 256:Nat):Int):=oQ
   have e2:(((X * 256:Nat):Int)+(cb:Int))%18446744073709551616=((cb+256 * X:Nat):Int):=oQ
   have e3:((X:Int) * 256+(cb:Int))%18446744073709551616=((cb+256 * X:Nat):Int):=oQ
   clear hlt2
   go_wp2_with fail
   go_roundg m
   case measure=>have:=Hml.out;omega
   case rel=>exact ⟨m,_,by have:=Hml.out;omega,Nat.le_of_lt Hml.out,rfl,rfl,by rw [Hnd.out];congr 1;omega,rfl⟩
end
section
variable {w0 w:World}{F R:List HProp}{d:Nat}{D:Med}{fsv fv nv wv v lv:Value}{xs:List RF}{g:Bag}{K:Nat}
theorem step_file (D:Med) (i:Nat):D.step.1.file i=D.file i:=by unfold Med.file;rw [step_files]
set_option maxRecDepth 20000 in
theorem rsync_c (s:ByteArray) (hl:D.now.length≤1048576) (hlf:D.left≤9223372036854775807) (hf:∀ i,nget D.now s=some i→i<D.files.length∧(D.file i).now.length≤1099511627776) (h:Sat w0 w (DskRep d D::F)) :
  Calls Tryz.prog 26 #[ptr d,.string s,.bool false] w (Rtn fun v w'=>v=errno (D.sync s).2∧Sat w0 w' (DskRep d (D.sync s).1::F)):=by
 have hfd:=rfind_c s hl h
 obtain ⟨fsv,fv,nv,wv,xs,g,hin,hR⟩:=DskRep.open h
 have Hin:=uQ hin;have Hlf:=uQ hlf;have Hf:=uQ hf
 have e7:w.cell? ⟨d,7,none⟩=some (.bool D.off):=hR.cellP pick0 7 rfl
 clear h hin hl hlf hf
 cases ho:D.off with
 |true=>
  have Ha:=uQ (show D.sync s=(D,12) by unfold Med.sync;rw [ho];rfl)
  rw [ho]at e7
  clear ho hfd
  go_enter Tryz.func26,Tryz.ntmps26
  go_wp2
  go_ret
  exact ⟨_,rfl,by rw [Ha.out];rfl,by rw [Ha.out];exact DskRep.shut Hin.out hR⟩
 |false=>
  rw [ho]at e7
  have Ho:=uQ (show ¬ (D.off=true) by rw [ho];decide)
  clear ho
  cases hg:nget D.now s with
  |none=>
   have Ha:=uQ (show D.sync s=(D,9) by unfold Med.sync;rw [if_neg Ho.out,hg])
   have hwh:D.which s = -1:=by unfold Med.which;rw [hg]
   rw [hwh]at hfd
   clear hg hwh
   go_enter Tryz.func26,Tryz.ntmps26
   go_wp2_with fail
   refine hfd.mono ?_
   rintro ee w1 ⟨v,rfl,rfl,rfl⟩
   clear hfd
   go_wp2
   go_ret
   exact ⟨_,rfl,by rw [Ha.out];rfl,by rw [Ha.out];exact DskRep.shut Hin.out hR⟩
  |some i=>
   have hwh:D.which s=(i:Int):=by unfold Med.which;rw [hg]
   rw [hwh]at hfd
   have c1:¬ (i:Int)<0:=oQ
   obtain ⟨hif,hnl⟩:=Hf.out i hg
   have Hg:=uQ hg
   clear hg hwh
   have hin2:DskIn D.step.1 fv nv xs g:=⟨by rw [step_files];exact Hin.out.files,Hin.out.ok,by rw [step_fast];exact Hin.out.fast,by rw [step_now];exact Hin.out.now⟩
   have Hin2:=uQ hin2
   clear hin2
   have hlx:xs.length=D.files.length:=by rw [← Hin.out.files,List.length_map]
   rcases Sat.osl_cases (hR.pick pick1) with ⟨_,hx,_⟩|⟨fb,fn,fc,cs,rfl,hfn,_⟩
   ·have:=congrArg List.length hx
    rw [rfsL_len]at this
    simp only [List.length_nil]at this
    omega
   rw [rfsL_len]at hfn
   obtain rfl:fn=xs.length:=by omega
   have c2:(i:Int)<(xs.length:Int):=oQ
   have hq1:i * 3<(rfsL xs).length:=by rw [rfsL_len];omega
   have hq2:∀ u:Value,i * 3+2<((rfsL xs).set (i * 3) u).length:=fun u=>by rw [List.length_set,rfsL_len];omega
   have Hfl:=uQ (show i<D.step.1.files.length by rw [step_files];exact hif)
   have Hnl:=uQ (show (D.step.1.file i).now.length≤1099511627776 by rw [step_file];exact hnl)
   have Hsf:=uQ (step_file D i)
   have hst:=rstep_c hR Hlf.out
   clear hlx hfn hif hnl
   go_enter Tryz.func26,Tryz.ntmps26
   go_wp2_with fail
   refine hfd.mono ?_
   rintro ee w1 ⟨v,rfl,rfl,rfl⟩
   clear hfd
   go_wp2_with fail
   refine hst.mono ?_
   clear hst
   rintro ee w2 ⟨v,rfl,rfl,hS⟩
   clear hR e7 c1
   rw [← step_waits]at hS
   cases ht:D.step.2 with
   |false=>
    have Ha:=uQ (show D.sync s=(D.step.1,12) by unfold Med.sync;rw [if_neg Ho.out,Hg.out];simp only [];rw [if_pos ht])
    clear ht
    go_wp2
    go_ret
    exact ⟨_,rfl,by rw [Ha.out];rfl,by rw [Ha.out];exact DskRep.shut Hin2.out hS⟩
   |true=>
    have Ha:=uQ (show D.sync s=(D.step.1.setFile i (D.step.1.file i).sync,0) by unfold Med.sync;rw [if_neg Ho.out,Hg.out];simp only [];rw [if_neg (by rw [ht];decide),Hsf.out])
    clear ht Hsf
    generalize D.step.1=D1 at *
    obtain ⟨x,hx,hxf⟩:=Hin2.out.file Hfl.out
    have Hx:=uQ hx;have Hxf:=uQ hxf
    have hh:=rhere_c i Hfl.out Hin2.out Hnl.out hS
    clear hx hxf
    go_wp2_with fail
    refine hh.mono ?_
    clear hh hS
    rintro ee w3 ⟨v,rfl,hS2,a,n,c,rfl⟩
    go_wp2_with (first
     |((with_reducible refine at_load ⟨?_⟩);refine ldQ ?_)
     |((with_reducible refine at_store ⟨?_⟩);refine wl_storeS (b:=fb) (i * 3) hS2 rQ evD upD hq1 kQ rfl rfl ?_;intro w4 hS3)
     |((with_reducible refine at_store ⟨?_⟩);refine wl_storeS (b:=fb) (i * 3+2) hS3 rQ evD upD (hq2 _) kQ rfl rfl ?_;intro w5 hS4))
    go_ret
    refine ⟨_,rfl,by rw [Ha.out];rfl,?_⟩
    rw [Ha.out]
    have e:((rfsL xs).set (i * 3) (.slice a n c)).set (i * 3+2) (.slice none 0 0)=rfsL (xs.set i ⟨x.f.sync,.slice a n c,x.nv,.slice none 0 0,[]⟩):=rfsL_set xs i x ⟨x.f.sync,.slice a n c,x.nv,.slice none 0 0,[]⟩ Hx.out rfl
    rw [e,← Hxf.out]at hS4
    have h5:=rf_sync Hx.out (hS4.sub (sub_take pick0 (sub_take pick2 (sub_take pick0 (sub_take pick0 (sub_take pick0 (sub_take pick0 sub_refl)))))))
    exact DskRep.shut (D:=D1.setFile i (D1.file i).sync) ⟨by rw [List.map_set,Hin2.out.files,← Hxf.out];rfl,(fun y hy=>by rcases List.mem_or_eq_of_mem_set hy with hy|rfl;exact Hin2.out.ok y hy;rfl),Hin2.out.fast,Hin2.out.now⟩ (h5.sub (sub_take pick1 (sub_take pick1 (sub_take pick0 (sub_take pick0 (sub_take pick0 sub_refl))))))
end
section
variable {w0 w:World}{F R:List HProp}{d:Nat}{D:Med}{fsv fv nv wv v lv:Value}{xs:List RF}{g:Bag}{K:Nat}
theorem osl_cut {T sz:Nat}{a:Option Addr}{n c k:Nat}{ks:List Value} (h:Sat w0 w (osl T sz (.slice a n c) ks::R)) (hk:k≤n) (hsz:0<sz):Sat w0 w (osl T sz (.slice a k c) (ks.take (k * sz))::R):=by
 rcases Sat.osl_cases h with ⟨he,hx,hR⟩|⟨b,n',cap',cs,he,h1,h2,h3,h4,h5,h6⟩
 ·cases he
  obtain rfl:k=0:=by omega
  rw [hx,List.take_nil]
  exact h.perm (by rw [hx])
 ·cases he
  refine Sat.osl_of_pt h6 ?_ oQ h3 h4 ?_
  ·rw [List.length_take,h1]
   exact Nat.min_eq_left (Nat.mul_le_mul_right _ hk)
  ·rw [← h5,List.take_take,Nat.min_eq_left (Nat.mul_le_mul_right _ hk)]
theorem bsl_cut {a:Option Addr}{n c k:Nat}{l:Bs} (h:Sat w0 w (bsl (.slice a n c) l::R)) (hk:k≤n):Sat w0 w (bsl (.slice a k c) (l.take k)::R):=by
 have:=osl_cut h hk dQ
 rw [Nat.mul_one]at this
 unfold bsl bys
 rw [List.map_take]
 exact this
theorem bsl_sl {l:Bs} (h:Sat w0 w (bsl v l::R)):∃ a c,v = .slice a l.length c∧l.length≤c∧c≤9223372036854775807∧((a=none∧c=0)∨∃ g,a=some ⟨g,0,none⟩):=by
 rcases Sat.osl_cases h with ⟨hv,hx,_⟩|⟨b,n',cap',cs,hv,hl,hn,hc,hcm,_,_⟩
 ·have h5:(bys l).length=0:=by rw [hx];rfl
  rw [bys_len]at h5
  exact ⟨none,0,by rw [hv,h5],by omega,by omega,.inl ⟨rfl,rfl⟩⟩
 ·rw [bys_len,Nat.mul_one]at hl
  exact ⟨_,_,by rw [hv,hl],by omega,hcm,.inr ⟨b,rfl⟩⟩
section
variable {ops:Array Oper}{rest:List Oper}{a:Act}{Q:Exit→Act→World→Prop}{dst:Option Tmp}{t:Nat}{pos:String}{after:Array Edge}{s y:Operand}{x:Value}{l k:Bs}{K:Act→World→Prop}{E:Prop}
theorem wl_appB (hs:Sat w0 w (bsl v l::R)) (hv:a.eval s=v) (hy:a.eval y=x) (hx:rdsl 1 x (bys k) w) (hl:l.length+k.length≤1099511627776)
  (hK:∀ a' n' c' w',Sat w0 w' (bsl (.slice a' n' c') (l++k)::R)→wpList Tryz.prog ops Q rest (a.put dst (.slice a' n' c')) w') :
  wpList Tryz.prog ops Q (⟨dst,.call { callee:= .builtin .append,args:=#[s,y],argTypes:=#[42,42] },t,pos,after,none⟩::rest) a w:=by
 obtain ⟨i,hi,hz0,hz1,hz2⟩:=info8p
 refine wpList_append (w0:=w0) rQ s y 42 rQ _ i _ Tryz.underlying42 hi hz0 hz1 rQ oQ hv hy (bys_one _) hs hx ?_ ?_ ?_
 ·rw [bys_len,bys_len];unfold maxLen;omega
 ·rw [bys_len,bys_len,hz2];omega
 ·intro v2 w2 hS2 _
  obtain ⟨a2,n2,c2,rfl,_⟩:=id hS2.rd
  refine hK _ _ _ _ ?_
  unfold bsl bys
  rw [List.map_append]
  exact hS2
theorem eff_appB (hs:Sat w0 w (bsl v l::R)) (hv:a.eval s=v) (hy:a.eval y=x) (hx:rdsl 1 x (bys k) w) (hl:l.length+k.length≤1099511627776)
  (hK:∀ a' n' c' w',Sat w0 w' (bsl (.slice a' n' c') (l++k)::R)→K (a.put dst (.slice a' n' c')) w') :
  if Region.wanted ⟨dst,.call { callee:= .builtin .append,args:=#[s,y],argTypes:=#[42,42] },t,pos,after,none⟩ (yielded ops a.tmps)=true then
   Oper.wp Tryz.prog ⟨dst,.call { callee:= .builtin .append,args:=#[s,y],argTypes:=#[42,42] },t,pos,after,none⟩ a w K Q else E:=by
 obtain ⟨i,hi,hz0,hz1,hz2⟩:=info8p
 refine step_append (w0:=w0) rQ s y 42 rQ _ i _ Tryz.underlying42 hi hz0 hz1 rQ oQ hv hy (bys_one _) hs hx ?_ ?_ ?_
 ·rw [bys_len,bys_len];unfold maxLen;omega
 ·rw [bys_len,bys_len,hz2];omega
 ·intro v2 w2 hS2 _
  obtain ⟨a2,n2,c2,rfl,_⟩:=id hS2.rd
  refine hK _ _ _ _ ?_
  unfold bsl bys
  rw [List.map_append]
  exact hS2
end
theorem chg_at {ws:List (Chg×Value)}{i:Nat}{p:Chg×Value} (h:ws[i]?=some p):(ws.flatMap chgCells)[i * 3]?=some (.bool p.1.cut)∧(ws.flatMap chgCells)[i * 3+1]?=some (.int .i64 p.1.n)∧(ws.flatMap chgCells)[i * 3+2]?=some p.2:=
 ⟨flat_get chgCells 3 (fun _=>rfl) ws i p 0 h dQ,flat_get chgCells 3 (fun _=>rfl) ws i p 1 h dQ,flat_get chgCells 3 (fun _=>rfl) ws i p 2 h dQ⟩
theorem chg_len (ws:List (Chg×Value)):(ws.flatMap chgCells).length=3 * ws.length:=by
 induction ws with
 |nil=>rfl
 |cons x l ih=>rw [List.flatMap_cons,List.length_append,ih,List.length_cons];show 3+3 * l.length=_;omega
theorem rchg_cells {ws:List (Chg×Value)}{i:Nat}{p:Chg×Value} (h:rdsl 3 v (ws.flatMap chgCells) w) (hi:ws[i]?=some p) :
  ∃ bk off c,v = .slice (some ⟨bk,off,none⟩) ws.length c∧w.cell? ⟨bk,off+i * 3,none⟩=some (.bool p.1.cut)∧w.cell? ⟨bk,off+i * 3+1,none⟩=some (.int .i64 p.1.n)∧w.cell? ⟨bk,off+i * 3+2,none⟩=some p.2:=by
 obtain ⟨a,n,c,rfl,hl,_⟩:=id h
 rw [chg_len]at hl
 obtain rfl:n=ws.length:=by omega
 obtain ⟨h0,h1,h2⟩:=chg_at hi
 obtain ⟨bk,off,rfl,hc⟩:=rdsl_cells h h0
 exact ⟨bk,off,c,rfl,hc _ _ h0,by rw [Nat.add_assoc];exact hc _ _ h1,by rw [Nat.add_assoc];exact hc _ _ h2⟩
theorem chg_sl {ws:List (Chg×Value)} (h:rdsl 3 v (ws.flatMap chgCells) w):∃ a c,v = .slice a ws.length c:=by
 obtain ⟨a,n,c,rfl,hl,_⟩:=h
 rw [chg_len]at hl
 obtain rfl:n=ws.length:=by omega
 exact ⟨a,c,rfl⟩
set_option maxRecDepth 20000 in
theorem rbytes_c (f:Fil) (ok:f.Ok K) (ws:List (Chg×Value)) (hws:ws.map (·.1)=f.waits) (n:Nat) (hn:n≤f.waits.length) (hwl:f.waits.length≤1048576)
  (r1:Ro w0 F (rdsl 1 fv (bys f.fast))) (r2:Ro w0 F (rdsl 3 wv (ws.flatMap chgCells))) (r3:∀ p∈ws,Ro w0 F (rdsl 1 p.2 (bys p.1.b))) (h:Sat w0 w F) :
  Calls Tryz.prog 95 #[.agg #[fv,nv,wv],.int .i64 n] w (Rtn fun v w'=>Sat w0 w' (bsl v (f.at n)::F)∧∃ a n c,v = .slice a n c):=by
 have Ok:=uQ ok;have Hws:=uQ hws;have Hn:=uQ hn;have Hwl:=uQ hwl;have R1:=uQ r1;have R2:=uQ r2;have R3:=uQ r3
 have Hlw:=uQ (show ws.length=f.waits.length by rw [← hws,List.length_map])
 obtain ⟨wa,wc,rfl⟩:=chg_sl (r2 _ h)
 obtain ⟨fa,fn,fc,rfl,_⟩:=id (r1 _ h)
 clear ok hws hn hwl r1 r2 r3
 go_enter Tryz.func95,Tryz.ntmps95
 go_wp2_with (first|((with_reducible refine at_box ⟨?_⟩);refine wl_box aQ evD evD ?_;intro bB wB hB)|((with_reducible refine at_load ⟨?_⟩);refine ldQ ?_))
 refine (copy_c hB f.fast (R1.out _ hB.drop) (Nat.le_trans (Ok.out.size 0 (Nat.zero_le _)) dQ)).mono ?_
 rintro ee w1 ⟨v,rfl,hS0,a0,n0,c0,rfl⟩
 clear hB h
 go_wp2_with fail
 go_loopg [5,6] n (fun g' bq iq wr=>∃ i:Nat,g'=n - i∧i≤n∧iq = .int .i64 i∧Sat w0 wr (bsl bq (f.at i)::pt bB (.cells #[.slice fa fn fc,nv,.slice wa ws.length wc] 164 (0,0))::F))
 case atStart=>exact ⟨0,rfl,Nat.zero_le _,rfl,hS0⟩
 case round=>
  obtain ⟨i,rfl,hi,rfl,hS⟩:=hrel
  clear hS0
  obtain ⟨ba,bc,rfl,hbl,hbc,hba⟩:=bsl_sl hS
  by_cases hlt:i<n
  ·have hlw:=Hlw.out;have hnn:=Hn.out;have hww:=Hwl.out
   have c1:(i:Int)<(n:Int):=oQ
   have c2:(i:Int)<(ws.length:Int):=oQ
   have hwi:=iwQ (i:=i)
   obtain ⟨p,hp⟩:∃ p,ws[i]?=some p:=⟨_,List.getElem?_eq_getElem (show i<ws.length by omega)⟩
   have hpf:f.waits[i]?=some p.1:=by rw [← Hws.out,List.getElem?_map,hp];rfl
   obtain ⟨bk,off,c,hwe,e0,e1,e2⟩:=rchg_cells (R2.out _ hS.drop.drop) hp
   cases hwe
   have Hlt:=uQ hlt;have Hp:=uQ hp
   have hsz:=Ok.out.size i oQ
   have hcut:=Ok.out.cuts i p.1 hpf
   have hrp:=R3.out p (List.mem_of_getElem? hp)
   have Hrp:=uQ hrp
   have Hnx:=uQ (f.at_succ i p.1 hpf)
   have hszn:=Ok.out.size (i+1) oQ
   rw [Hnx.out]at hszn
   unfold Chg.on at hszn Hnx
   clear hlt hp hpf hrp hlw hnn hww
   obtain ⟨⟨cut,cn,cb⟩,pv⟩:=p
   dsimp only at e0 e1 e2 hcut Hrp Hnx hszn
   cases cut with
   |true=>
    have hcn:=hcut rfl
    have c3:(cn:Int)≤(bc:Int):=oQ
    simp only [if_true]at Hnx
    have hS2:=bsl_cut hS hcn
    rw [← Hnx.out]at hS2
    clear hcut hszn
    rcases hba with ⟨rfl,rfl⟩|⟨gb,rfl⟩
    ·obtain rfl:cn=0:=by omega
     go_wp2_with ((with_reducible refine at_load ⟨?_⟩);refine ldQ ?_)
     go_roundg (n - (i+1))
     case measure=>have:=Hlt.out;omega
     case rel=>exact ⟨i+1,rfl,Nat.succ_le_of_lt Hlt.out,by first|rfl|go_num,hS2⟩
    ·go_wp2_with ((with_reducible refine at_load ⟨?_⟩);refine ldQ ?_)
     go_roundg (n - (i+1))
     case measure=>have:=Hlt.out;omega
     case rel=>exact ⟨i+1,rfl,Nat.succ_le_of_lt Hlt.out,by first|rfl|go_num,hS2⟩
   |false=>
    simp only [Bool.false_eq_true,if_false]at Hnx hszn
    rw [List.length_append]at hszn
    have Hcell:=uQ (show ∀ w',Sat w0 w' F→w'.cell? ⟨bk,off+i * 3+2,none⟩=some pv from fun w' hw'=>by
     obtain ⟨bk2,off2,c2,hwe2,_,_,e2⟩:=rchg_cells (R2.out _ hw') Hp.out
     cases hwe2
     exact e2)
    clear hcut
    go_wp2_with ((with_reducible refine at_load ⟨?_⟩);refine ldQ ?_)
    have hS2:=hS.drew
    clear hS
    refine wpL_begin [8,9] (fun w'=>w'.cell? ⟨bB,2,none⟩=some (.slice (some ⟨bk,off,none⟩) ws.length wc)∧w'.cell? ⟨bk,off+i * 3+2,none⟩=some pv) kQ ?_
    have hG:World.cell? _ ⟨bB,2,none⟩=some (.slice (some ⟨bk,off,none⟩) ws.length wc)∧World.cell? _ ⟨bk,off+i * 3+2,none⟩=some pv:=⟨hS2.cellP pick1 2 rfl,Hcell.out _ hS2.drop.drop⟩
    refine rP 0 ?_ (y:=mvQ)
    refine rP 2 ?_ (y:=flQ)
    refine rt 3 (h:=?_)
    refine rP 4 ?_ (y:=mvQ)
    refine rP 5 ?_ (y:=ixQ)
    refine rP 6 ?_ (y:=flQ)
    refine rt 7 (h:=?_)
    refine rg_eff 1 evD kQ (fun K hK=>?_)
    refine eff_call1 kQ evD ?_
    refine (copy_c hS2 (f.at i) hS2.rd oQ).mono ?_
    rintro e w4 ⟨v,rfl,hS4,a4,n4,c4,rfl⟩
    refine hK _ _ (.inr (.inl ⟨hS4.cellP pick2 2 rfl,Hcell.out _ hS4.drop.drop.drop⟩)) ?_
    clear hK hG
    refine rg_eff 8 evD kQ (fun K hK=>?_)
    refine eff_appB hS4 evD evD (Hrp.out _ hS4.drop.drop.drop) oQ ?_
    intro a5 n5 c5 w5 hS5
    refine hK _ _ (.inl rfl) ?_
    refine rP 9 ?_ (y:=asQ)
    refine wdQ ?_
    clear hS4 hS2
    try go_frame
    go_wp2
    rw [← Hnx.out]at hS5
    go_roundg (n - (i+1))
    case measure=>have:=Hlt.out;omega
    case rel=>exact ⟨i+1,rfl,Nat.succ_le_of_lt Hlt.out,by first|rfl|go_num,hS5.sub (sub_take pick0 (sub_drop sub_refl))⟩
  ·obtain rfl:i=n:=by omega
   have c1:¬ (i:Int)<(i:Int):=oQ
   clear hlt
   go_wp2
   go_ret
   exact ⟨_,rfl,hS.sub (sub_take pick0 (sub_drop sub_refl)),_,_,_,rfl⟩
end
end Go.Proofs.YtmjldaedhmipkaaGreatDoor
