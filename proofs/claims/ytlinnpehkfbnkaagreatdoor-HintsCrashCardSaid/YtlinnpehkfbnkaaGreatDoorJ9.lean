import Derived.Test.YtlinnpehkfbnkaaGreatDoorJ8
set_option linter.unusedVariables false
set_option maxHeartbeats 128000000
namespace Go.Seg
open Go.Med
open Go.Frm (encs GoodE)
section
variable {n:Nat}{M:Med}{L:Log}{C:List (List Frm.Ent)}
theorem Holds.commit (h:Holds n L M C) (hn:n<100) :
  (L.commit M).2.2=0∧(L.commit M).1.1.on=false∧(L.commit M).1.1.limit=L.limit∧Holds (n+1) (L.commit M).1.1 (L.commit M).1.2 (put C (L.fits (Frm.encode comEnt).1.length) comEnt):=by
 obtain ⟨a1,a2,a3,a4,a5,a6⟩:=h.append hn comEnt rfl dCz rFz
 obtain ⟨i,hi⟩:=append_place h.keeps comEnt rfl a1
 have hlog:=h.keeps.log.commit M
 have hcalm:=h.keeps.commit
 rw [Log.commit_eq]at hlog hcalm ⊢
 rw [if_neg (fun hh=>hh a1)]at hlog hcalm ⊢
 generalize L.append M comEnt=r at *
 obtain ⟨⟨L1,M1⟩,p1,e1⟩:=r
 simp only at *
 have hs:=sync_alike a4.keeps.calm.ok a4.keeps.calm.quiet (name p1.seg)
 have hsc:=a4.keeps.calm.sync (name p1.seg)
 have es:=a4.keeps.calm.quiet.sync_eq hi
 have es2:(M1.sync (name p1.seg)).2=0:=by rw [es]
 rw [if_neg (fun hh=>hh es2)]at hlog hcalm ⊢
 generalize (M1.sync (name p1.seg)).1=M2 at *
 have ed:=hsc.quiet.syncDir_eq
 have ed2:M2.syncDir.2=0:=by rw [ed]
 rw [if_neg (fun hh=>hh ed2)]at hlog hcalm ⊢
 have had:Alike M2 M2.syncDir.1:=by rw [ed];exact ⟨rfl,rfl,rfl,fun _ _=>rfl⟩
 have ha:=hs.trans had
 refine ⟨rfl,rfl,a3,⟨?_,a4.len,a4.at_,fun k es' hk=>by rw [ha.all];exact a4.file k es' hk,a4.good,a4.fit,a4.count,by rw [ha.used];exact a4.used,by rw [ha.now];exact a4.names,by rw [ha.now];exact a4.only⟩⟩
 rw [show (n+1) * 5=n * 5+5 by omega]
 exact hcalm
def comLast (C:List (List Frm.Ent)):Prop:=∀ es∈C,∀ (k:Nat) (x:Frm.Ent),es[k]?=some x→x.tag=2→k+1=es.length
def noCom (es:List Frm.Ent):Prop:=∀ x∈es,x.tag≠2
structure Tail (on:Bool) (C:List (List Frm.Ent)):Prop where
 last:comLast C
 tail:on=true→noCom (C.getLastD [])
theorem fits_on' {k:Nat} (h:L.fits k=true):L.on=true:=by
 unfold Log.fits at h
 rw [Bool.and_eq_true]at h
 exact h.1
theorem Holds.segs (h:Holds n L M C):L.segs.length=C.length∧∀ k,k<C.length→L.segs[k]?=some (k:Int):=by
 unfold Log.segs
 refine ⟨by rw [List.length_map];exact h.len,fun k hk=>?_⟩
 rw [List.getElem?_map,h.at_ k _ (List.getElem?_eq_getElem hk)];rfl
theorem Holds.at_k (h:Holds n L M C){k:Nat}{es:List Frm.Ent} (hk:C[k]?=some es):L.at (k:Int)=some k:=by
 have h1:=h.at_ k es hk
 cases hat:L.at (k:Int) with
 |none=>
  exfalso
  unfold Log.at at hat
  rw [List.findIdx?_eq_none_iff]at hat
  have:=hat _ (List.mem_of_getElem? h1)
  simp at this
 |some i=>
  obtain ⟨h2,s,h3,h4⟩:=Log.at_lt hat
  have h5:i<C.length:=by rw [← h.len];exact h2
  have h6:=h.at_ i _ (List.getElem?_eq_getElem h5)
  rw [h6]at h3
  cases h3
  simp only at h4
  congr 1
  omega
theorem Holds.bytes (h:Holds n L M C){k:Nat}{es:List Frm.Ent} (hk:C[k]?=some es):L.bytes M (k:Int)=(mag++encs es,0):=by
 unfold Log.bytes
 rw [h.at_k hk]
 exact h.file k es hk
theorem Holds.start (lim:Int) (h1:128≤lim) (h2:lim≤1048576):Holds 0 ⟨lim,[],false,0⟩ (new 1048576) []:=by
 refine ⟨⟨⟨⟨h1,h2⟩,List.Pairwise.nil,(fun s hs=>by cases hs),(fun s hs=>by cases hs),⟨Int.le_refl _,by simp⟩,fun hh=>by cases hh⟩,Calm.new 0 1048576 dCz,fun s hs=>by cases hs⟩,rfl,(fun k es hk=>by simp at hk),(fun k es hk=>by simp at hk),(fun es hes=>by cases hes),(fun es hes=>by cases hes),Nat.le_refl _,Nat.le_refl _,Nat.le_refl _,fun s i hs=>by cases hs⟩
end
end Go.Seg
namespace Go.Proofs.YtlinnpehkfbnkaaGreatDoor
open Go Go.Sl Go.Med Go.MapKept Go.RowKit
section
variable {w0 w:World}{F R:List HProp}{v bv dv x lv:Value}
theorem fnds_sl {fs:List (Frm.Fnd×Value)}{v:Value} (hk:∀ p∈fs,p.1.e.key.length=32) (h:Sat w0 w (osl 118 36 v (fndsL fs)::R)):∃ a c,v = .slice a fs.length c:=by
 obtain ⟨a,n,c,rfl,hl,hx⟩:=Sat.rd h
 rw [fndsL_len hk]at hl
 obtain rfl:n=fs.length:=by omega
 exact ⟨a,c,rfl⟩
theorem dataF_at:∀ (fs:List (Frm.Fnd×Value)) (i:Nat) (p:Frm.Fnd×Value),fs[i]?=some p→∃ G,dataF fs=star (bsl p.2 p.1.e.data) G
 |[],_,_,h=>by cases h
 |x::fs,0,p,h=>by
  obtain rfl:x=p:=by simpa using h
  exact ⟨_,rfl⟩
 |x::fs,i+1,p,h=>by
  obtain ⟨G,hG⟩:=dataF_at fs i p (by simpa using h)
  refine ⟨star (bsl x.2 x.1.e.data) G,?_⟩
  show star (bsl x.2 x.1.e.data) (dataF fs)=_
  rw [hG,star_left_comm]
theorem dataF_ro {fs:List (Frm.Fnd×Value)}{i:Nat}{p:Frm.Fnd×Value} (h:fs[i]?=some p):Ro w0 (dataF fs::R) (rdsl 1 p.2 (bys p.1.e.data)):=fun w hw=>by
 obtain ⟨G,hG⟩:=dataF_at fs i p h
 rw [hG]at hw
 exact Sat.rd (Sat.star.1 hw)
theorem bsl_capL {l:Bs} (h:Sat w0 w (bsl v l::R)):capOk v∧∃ a c,v = .slice a l.length c:=by
 refine ⟨bsl_cap h,?_⟩
 obtain ⟨a,n,c,rfl,_,_,rfl⟩:=bsl_cap' h
 exact ⟨a,c,rfl⟩
end
end Go.Proofs.YtlinnpehkfbnkaaGreatDoor
namespace Go.Frm
theorem scanL_count:∀ (k:Nat) (b:Bs) (at_:Nat),(scanL k b at_).1.length≤k
 |0,_,_=>Nat.le_refl 0
 |k+1,b,at_=>by
  unfold scanL
  split
  ·exact Nat.zero_le _
  split
  ·exact Nat.zero_le _
  ·simp only [List.length_cons]
   have:=scanL_count k
   exact Nat.succ_le_succ (this _ _)
theorem scan_count (b:Bs):(scan b).1.length≤b.length:=by
 unfold scan
 split
 ·exact scanL_count _ _ _
 ·exact Nat.zero_le _
end Go.Frm
namespace Go.Proofs.YtlinnpehkfbnkaaGreatDoor
open Go Go.Sl Go.Med Go.MapKept Go.RowKit
abbrev lbt (L:Seg.Log) (M:Med):Rep.Told:=fun n=>L.bytes M n
section
variable {w0 w:World}{F:List HProp}{p m K:Nat}{L:Seg.Log}{M:Med}{sv:Value}
set_option maxRecDepth 20000 in
theorem split_c (hL:L.Ok) (hM:M.Ok K) (hH:Ro w0 F Half) (h:Sat w0 w (osl 3 1 sv (ints L.segs)::LogRep p m L::MedRep m M::F)) :
  Calls Tryz.prog 52 #[ptr p,sv] w (Rtn fun v w'=>v = .tuple #[.int .i64 (Rep.split (lbt L M) L.segs L.segs.length).1,errno (Rep.split (lbt L M) L.segs L.segs.length).2] ∧
   Sat w0 w' (osl 3 1 sv (ints L.segs)::LogRep p m L::MedRep m M::F)):=by
 have HL:=uQ hL;have HM:=uQ hM;have HH:=uQ hH
 have Hlen:=uQ (show L.segs.length≤1073741824 from by unfold Seg.Log.segs;rw [List.length_map];have:=hL.len;omega)
 obtain ⟨sa,sc,rfl⟩:∃ a c,sv = .slice a L.segs.length c:=by
  obtain ⟨a,n,c,rfl,hl,_⟩:=Sat.rd h
  refine ⟨a,c,?_⟩
  rw [show (ints L.segs).length=L.segs.length from List.length_map ..,Nat.mul_one]at hl
  rw [hl]
 have w1:IntKind.i64.wrap ((L.segs.length:Int) - 1)=(L.segs.length:Int) - 1:=IntWalk.i64_in _ (by have:=Hlen.out;omega)
 clear hL hM hH
 go_enter Tryz.func52,Tryz.ntmps52
 go_wp2_with fail
 go_loopg [6] L.segs.length (fun g iq wr=>∃ k:Nat,g=0+k∧k≤L.segs.length∧iq = .int .i64 ((k:Int) - 1)∧Rep.split (lbt L M) L.segs L.segs.length=Rep.split (lbt L M) L.segs k ∧
  Sat w0 wr (osl 3 1 (.slice sa L.segs.length sc) (ints L.segs)::LogRep p m L::MedRep m M::F))
 case atStart=>exact ⟨L.segs.length,(Nat.zero_add _).symm,Nat.le_refl _,rfl,rfl,h⟩
 case round=>
  obtain ⟨k,rfl,hk,rfl,he,hS⟩:=hrel
  clear h
  cases k with
  |zero=>
   have c1:¬ (((0:Nat):Int) - 1)≥0:=by decide
   have He:=uQ he
   clear he
   go_wp2_with fail
   go_ret2
   rw [He.out]
   exact ⟨_,rfl,rfl,hS⟩
  |succ k=>
   have e1:((k+1:Nat):Int) - 1=(k:Int):=oQ
   rw [e1]
   have c1:(k:Int)≥0:=oQ
   have c2:(k:Int)<(L.segs.length:Int):=oQ
   have w2:IntKind.i64.wrap ((k:Int) - 1)=(k:Int) - 1:=IntWalk.i64_in _ (by have:=Hlen.out;omega)
   have w3:IntKind.i64.wrap ((k:Int)+1)=((k+1:Nat):Int):=by rw [IntWalk.i64_in _ (by have:=Hlen.out;omega)];omega
   obtain ⟨s,hs⟩:∃ s,L.segs[k]?=some s:=⟨_,List.getElem?_eq_getElem oQ⟩
   have hgd:L.segs.getD k 0=s:=by rw [List.getD,hs];rfl
   have Hu:=uQ (show Rep.split (lbt L M) L.segs (k+1)=if (L.bytes M s).2≠0 then (0,(L.bytes M s).2) else if (Frm.scan (L.bytes M s).1).2.2=0∧Rep.endedF (Frm.scan (L.bytes M s).1).1=true then (k+1,0) else Rep.split (lbt L M) L.segs k by
    rw [Rep.split,hgd])
   obtain ⟨bk,off,cc,hsv,hcell⟩:=osl_row (f:=fun i:Int=>[Value.int .i64 i]) (k:=1) (l:=L.segs) (fun u _=>rfl) (by have:=Sat.rd hS;rw [show ints L.segs=L.segs.flatMap fun i=>[Value.int .i64 i] from by unfold ints;exact List.map_eq_flatMap]at this;exact this) hs dCz
   cases hsv
   have f0:=hcell 0 _ rfl
   rw [Nat.mul_one,Nat.add_zero]at f0
   have He:=uQ he
   have hb:=lbytes_c HL.out HM.out s (hS.sb:Sat w0 wr (LogRep p m L::MedRep m M::osl 3 1 (.slice (some ⟨bk,off,none⟩) L.segs.length sc) (ints L.segs)::F))
   have hk':=uQ hk
   clear hcell hs hgd he hS hk
   go_wp2_with fail
   refine hb.mono ?_
   rintro ee w3 ⟨v,rfl,bv,rfl,hS3⟩
   clear hb
   obtain ⟨hcap,ca,cc,rfl⟩:=bsl_capL hS3
   by_cases h0:(L.bytes M s).2=0
   rotate_left
   ·have hb:((L.bytes M s).2 != 0)=true:=by rw [bne_iff_ne];exact h0
    have Hf:=uQ (show Rep.split (lbt L M) L.segs (k+1)=(0,(L.bytes M s).2) by rw [Hu.out,if_pos h0])
    clear h0
    go_wp2_with fail
    go_ret2
    rw [He.out,Hf.out]
    exact ⟨_,rfl,rfl,hS3.sb⟩
   have hb:((L.bytes M s).2 != 0)=false:=by rw [h0];rfl
   have H0:=uQ h0
   rw [h0]
   clear h0
   have hbl:=Seg.bytes_len (L:=L) HM.out s
   have hsc:=fscan_c (w0:=w0) (w:=w3) (L.bytes M s).1 (Ro.bsl _ _) hcap (Ro.os HH.out) (Nat.le_trans hbl dCz) hS3
   have Hbl:=uQ hbl
   clear hcap hbl
   go_wp2_with fail
   refine hsc.mono ?_
   rintro ee w4 ⟨v,rfl,fs,fv,hfs,hfk,rfl,hS4⟩
   clear hsc hS3
   obtain ⟨fa,fc,rfl⟩:=fnds_sl hfk hS4
   have hS5:Sat w0 w4 (osl 3 1 (.slice (some ⟨bk,off,none⟩) L.segs.length sc) (ints L.segs)::LogRep p m L::MedRep m M::F):=hS4.sb
   by_cases h1:(Frm.scan (L.bytes M s).1).2.2=0
   rotate_left
   ·have hb1:((Frm.scan (L.bytes M s).1).2.2==0)=false:=by rw [beq_eq_false_iff_ne];exact h1
    have Hf:=uQ (show Rep.split (lbt L M) L.segs (k+1)=Rep.split (lbt L M) L.segs k by rw [Hu.out,if_neg (fun h=>h H0.out),if_neg (fun h=>h1 h.1)])
    clear h1 hS4 hfs hfk
    go_wp2_with fail
    go_roundg (0+k)
    case measure=>omega
    case rel=>exact ⟨k,rfl,Nat.le_of_succ_le hk'.out,by first|rfl|go_num,He.out.trans Hf.out,hS5⟩
   have hb1:((Frm.scan (L.bytes M s).1).2.2==0)=true:=beq_iff_eq.2 h1
   have hen:=ended_c (w:=w4) fs hfk (by
    have:=Frm.scan_count (L.bytes M s).1
    rw [← hfs,List.length_map]at this
    have:=Hbl.out;omega) (Sat.rd hS4)
   rw [hfs]at hen
   clear hS4 hfs hfk
   by_cases h2:Rep.endedF (Frm.scan (L.bytes M s).1).1=true
   ·have Hf:=uQ (show Rep.split (lbt L M) L.segs (k+1)=(k+1,0) by rw [Hu.out,if_neg (fun h=>h H0.out),if_pos ⟨h1,h2⟩])
    rw [h2]at hen
    clear h1 h2
    go_wp2_with fail
    refine hen.mono ?_
    rintro ee w5 ⟨v,rfl,rfl,rfl⟩
    clear hen
    go_wp2_with fail
    go_ret2
    rw [He.out,Hf.out]
    exact ⟨_,rfl,rfl,hS5⟩
   ·have Hf:=uQ (show Rep.split (lbt L M) L.segs (k+1)=Rep.split (lbt L M) L.segs k by rw [Hu.out,if_neg (fun h=>h H0.out),if_neg (fun h=>h2 h.2)])
    rw [Bool.not_eq_true]at h2
    rw [h2]at hen
    clear h1 h2
    go_wp2_with fail
    refine hen.mono ?_
    rintro ee w5 ⟨v,rfl,rfl,rfl⟩
    clear hen
    go_wp2_with fail
    go_roundg (0+k)
    case measure=>omega
    case rel=>exact ⟨k,rfl,Nat.le_of_succ_le hk'.out,by first|rfl|go_num,He.out.trans Hf.out,hS5⟩
end
end Go.Proofs.YtlinnpehkfbnkaaGreatDoor
namespace Go.Rep
def lastOf (bt:Told) (ns:List Int):Int×Int:=
 if (split bt ns ns.length).2≠0 then (0,(split bt ns ns.length).2) else if (split bt ns ns.length).1=0 then (-1,0) else (ns.getD ((split bt ns ns.length).1 - 1) 0,0)
end Go.Rep
namespace Go.Proofs.YtlinnpehkfbnkaaGreatDoor
open Go Go.Sl Go.Med Go.MapKept Go.RowKit
section
variable {w0 w:World}{F:List HProp}{p m K:Nat}{L:Seg.Log}{M:Med}{sv:Value}
theorem ints_cell {sv:Value}{l:List Int}{i:Nat}{s:Int} (h:rdsl 1 sv (ints l) w) (hs:l[i]?=some s):∃ bk off c,sv = .slice (some ⟨bk,off,none⟩) l.length c∧w.cell? ⟨bk,off+i,none⟩=some (.int .i64 s):=by
 obtain ⟨bk,off,cc,hsv,hcell⟩:=osl_row (f:=fun i:Int=>[Value.int .i64 i]) (k:=1) (l:=l) (fun u _=>rfl) (by rw [show ints l=l.flatMap fun i=>[Value.int .i64 i] from by unfold ints;exact List.map_eq_flatMap]at h;exact h) hs dCz
 have f0:=hcell 0 _ rfl
 rw [Nat.mul_one,Nat.add_zero]at f0
 exact ⟨bk,off,cc,hsv,f0⟩
theorem ints_sl {sv:Value}{l:List Int} (h:rdsl 1 sv (ints l) w):∃ a c,sv = .slice a l.length c:=by
 obtain ⟨a,n,c,rfl,hl,_⟩:=h
 refine ⟨a,c,?_⟩
 rw [show (ints l).length=l.length from List.length_map ..,Nat.mul_one]at hl
 rw [hl]
end
section
variable {P:Program}{w0 w:World}{ops:Array Oper}{rest:List Oper}{a:Act}{Q:Exit→Act→World→Prop}{dst:Option Tmp}{t ty:TypeId}{pos:String}{after:Array Edge}{x y:Operand}{v v1 v2:Value}{i1 i2:Nat}
theorem wl_build2 (h1:a.eval x=v1) (h2:a.eval y=v2) (hr:∀ w,(Instr.build ty #[(i1,v1),(i2,v2)]).run P w = .ok v w) (h:wpList P ops Q rest (a.put dst v) w) :
  wpList P ops Q (⟨dst,.build ty #[(i1,x),(i2,y)],t,pos,after,none⟩::rest) a w:=
 wpList_plain rfl fun _ hK=>by
  unfold Oper.wp execOp
  simp only [List.map_toArray,List.map_cons,List.map_nil,h1,h2,Sem.run_bind,hr,Result.andThen_ok,Sem.run_pure]
  exact hK _ _ h
theorem wl_build0 (hr:∀ w,(Instr.build ty #[]).run P w = .ok v w) (h:wpList P ops Q rest (a.put dst v) w):wpList P ops Q (⟨dst,.build ty #[],t,pos,after,none⟩::rest) a w:=
 wpList_plain rfl fun _ hK=>by
  unfold Oper.wp execOp
  simp only [List.map_toArray,List.map_nil,Sem.run_bind,hr,Result.andThen_ok,Sem.run_pure]
  exact hK _ _ h
theorem res_tct {L R:List HProp}{b:Nat}{T:TypeId}{cs:Array Value}{fn:Func}{t p u:Tmp}{tmps:Array Value}{d:TypeDesc} (hf:fn.results=#[.tmp t,.cell p ty,.tmp u]) (hs:Sat w0 w L) (hp:tmps.getD p undef = .pointer (some ⟨b,0,none⟩)) (k:Pick (pt b (.cells cs T (0,0))) L R)
  (hu:P.underlying ty=some d) (hd:d.isRow=true) (hi:(P.info? ty).map (·.size)=some cs.size):(results fn tmps).run P w = .ok (.tuple #[tmps.getD t undef,.agg cs,tmps.getD u undef]) w:=by
 have hl:=run_loadVar_row (P:=P) w b T ty cs (0,0) d (hs.pick k).at hu (by cases d <;> simp_all [TypeDesc.isRow]) hi
 have e:(results fn tmps).run P w=((asAddr (tmps.getD p undef)).run P w).andThen fun a w₁=>((loadVar ty a).run P w₁).andThen fun v w₂=> .ok (.tuple #[tmps.getD t undef,v,tmps.getD u undef]) w₂:=by
  simp only [results,hf]
  simp [Sem.run_bind,Result.andThen]
 rw [e,hp]
 simp [asAddr,hl,Result.andThen]
theorem at_build2 (h:Stop (wpList P ops Q (⟨dst,.build ty #[(i1,x),(i2,y)],t,pos,after,none⟩::rest) a w)):wpList P ops Q (⟨dst,.build ty #[(i1,x),(i2,y)],t,pos,after,none⟩::rest) a w:=h.out
theorem at_build0 (h:Stop (wpList P ops Q (⟨dst,.build ty #[],t,pos,after,none⟩::rest) a w)):wpList P ops Q (⟨dst,.build ty #[],t,pos,after,none⟩::rest) a w:=h.out
end
section
variable {w0 w:World}{F:List HProp}
theorem plFlt:placesB Tryz.prog 37=some [(0,1),(1,1),(2,1),(3,32),(35,1)]:=by kernel_rfl
theorem run_flt2 (x y:Int) (w:World):(Instr.build 37 #[(0,.int .i64 x),(1,.int .i64 y)]).run Tryz.prog w = .ok (.agg (fltA ⟨x,y,0⟩)) w:=by
 have h:=run_build (P:=Tryz.prog) [(0,.int .i64 x),(1,.int .i64 y)] plFlt zFlt (by
  intro p hp
  have hzz:(Value.agg (fltA Rep.Flt.zero)).cells.size=36:=by rfl
  rw [hzz]
  rcases List.mem_cons.1 hp with rfl|hp
  ·exact ⟨0,rfl,by show 0+1≤36;omega⟩
  ·rw [List.mem_singleton.1 hp]
   exact ⟨1,rfl,by show 1+1≤36;omega⟩) w
 exact h
theorem run_flt3 (x y z:Int) (w:World):(Instr.build 37 #[(0,.int .i64 x),(1,.int .i64 y),(2,.int .i64 z)]).run Tryz.prog w = .ok (.agg (fltA ⟨x,y,z⟩)) w:=by
 have h:=run_build (P:=Tryz.prog) [(0,.int .i64 x),(1,.int .i64 y),(2,.int .i64 z)] plFlt zFlt (by
  intro p hp
  have hzz:(Value.agg (fltA Rep.Flt.zero)).cells.size=36:=by rfl
  rw [hzz]
  rcases List.mem_cons.1 hp with rfl|hp
  ·exact ⟨0,rfl,by show 0+1≤36;omega⟩
  rcases List.mem_cons.1 hp with rfl|hp
  ·exact ⟨1,rfl,by show 1+1≤36;omega⟩
  ·rw [List.mem_singleton.1 hp]
   exact ⟨2,rfl,by show 2+1≤36;omega⟩) w
 exact h
theorem run_flt0 (w:World):(Instr.build 37 #[]).run Tryz.prog w = .ok (.agg (fltA Rep.Flt.zero)) w:=run_build (P:=Tryz.prog) [] plFlt zFlt (by simp) w
set_option maxRecDepth 20000 in
theorem fault_c (s:Int) (at_:Nat) (h:Sat w0 w F):Calls Tryz.prog 57 #[.int .i64 s,.int .i64 at_] w (Rtn fun v w'=>v = .agg (fltA (Rep.fault s at_))∧Sat w0 w' F):=by
 have hone:∀ f,(fltA f).size=36:=fun f=>rfl
 by_cases h0:at_=0
 ·have hb:((at_:Int)==0)=true:=by rw [h0];rfl
  have e:=uQ (show Rep.fault s at_=⟨1,s,0⟩ from if_pos h0)
  clear h0
  go_enter Tryz.func57,Tryz.ntmps57
  go_wp2_with (with_reducible apply at_alloc)
  refine ⟨wl_alloc zFlt h rfl ?_⟩
  intro b4 w4 h4
  go_wp2_with (first
   |((with_reducible refine at_build2 ⟨?_⟩);refine wl_build2 rFz rFz (fun w=>run_flt2 1 s w) ?_)
   |((with_reducible refine at_store ⟨?_⟩);refine wl_storeA (fltA ⟨1,s,0⟩) h4 rFz rFz rFz upd0 kRz rFz ?_;intro w9 h9))
  refine ⟨rfl,_,res_cell rfl h9 rFz pkD Tryz.underlying37 rfl kRz,?_⟩
  exact ⟨_,rfl,by rw [e.out],h9.drop⟩
 ·have hb:((at_:Int)==0)=false:=by rw [beq_eq_false_iff_ne];omega
  have e:=uQ (show Rep.fault s at_=⟨2,s,at_⟩ from if_neg h0)
  clear h0
  go_enter Tryz.func57,Tryz.ntmps57
  go_wp2_with (with_reducible apply at_alloc)
  refine ⟨wl_alloc zFlt h rfl ?_⟩
  intro b4 w4 h4
  go_wp2_with (first
   |((with_reducible refine at_build3 ⟨?_⟩);refine wl_build3 rFz rFz rFz (fun w=>run_flt3 2 s at_ w) ?_)
   |((with_reducible refine at_store ⟨?_⟩);refine wl_storeA (fltA ⟨2,s,at_⟩) h4 rFz rFz rFz upd0 kRz rFz ?_;intro w9 h9))
  refine ⟨rfl,_,res_cell rfl h9 rFz pkD Tryz.underlying37 rfl kRz,?_⟩
  exact ⟨_,rfl,by rw [e.out],h9.drop⟩
end
end Go.Proofs.YtlinnpehkfbnkaaGreatDoor
namespace Go.Rep
open Go.Frm (Bs)
def runAt (bt:Told) (ns:List Int) (n:Nat):(Flt×Int) ⊕ Nat:=match bad bt (ns.take n) with
 |some x=> .inl x
 |none=> .inr n
def run (bt:Told) (ns:List Int):(Flt×Int) ⊕ Nat:=
 if (split bt ns ns.length).2≠0 then .inl (Flt.zero,(split bt ns ns.length).2) else runAt bt ns (split bt ns ns.length).1
theorem runAt_bad {bt:Told}{ns:List Int}{n:Nat}{x:Flt×Int} (h:bad bt (ns.take n)=some x):runAt bt ns n = .inl x:=by unfold runAt;rw [h]
theorem runAt_none {bt:Told}{ns:List Int}{n:Nat} (h:bad bt (ns.take n)=none):runAt bt ns n = .inr n:=by unfold runAt;rw [h]
def lastOfL (l:List Int):Int:=match l.getLast? with
 |some s=>s
 |none=> -1
theorem newest_mem:∀ {l:List Row}{k:Bs}{r:Row},newest l k=some r→r∈l
 |[],_,_,h=>by cases h
 |x::l,k,r,h=>by
  unfold newest at h
  split at h
  ·rename_i y hy
   cases h
   exact .tail _ (newest_mem hy)
  ·split at h
   ·cases h;exact .head _
   ·cases h
theorem ledger_place {l:List Row}{k:Bs}{a:Abt} (h:ledger l k=some a):∃ r∈l,a.place=rplc r:=by
 unfold ledger at h
 cases hn:newest l k with
 |none=>rw [hn]at h;cases h
 |some r=>rw [hn]at h;cases h;exact ⟨r,newest_mem hn,rfl⟩
theorem rowsOf_take (bt:Told) (ns:List Int) (n:Nat):∀ r∈rowsOf bt (ns.take n),r∈rowsOf bt ns:=fun r hr=>by
 unfold rowsOf at hr ⊢
 obtain ⟨s,hs,h⟩:=List.mem_flatMap.1 hr
 exact List.mem_flatMap.2 ⟨s,List.mem_of_mem_take hs,h⟩
theorem rowsOf_le (bt:Told) (ns:List Int) (n:Nat):(rowsOf bt (ns.take n)).length≤(rowsOf bt ns).length:=by
 have e:rowsOf bt ns=rowsOf bt (ns.take n)++rowsOf bt (ns.drop n):=by
  unfold rowsOf;rw [← List.flatMap_append,List.take_append_drop]
 rw [e,List.length_append];omega
theorem lastOfL_snoc (l:List Int) (s:Int):lastOfL (l++[s])=s:=by unfold lastOfL;rw [List.getLast?_append];rfl
end Go.Rep
namespace Go.Proofs.YtlinnpehkfbnkaaGreatDoor
open Go Go.Sl Go.Med Go.MapKept Go.RowKit
section
variable {P:Program}{w0 w:World}{L R:List HProp}{b:Nat}{ops:Array Oper}{a:Act}{Q:Exit→Act→World→Prop}{K:Act→World→Prop}{E:Prop}{dst:Option Tmp}{t ty:TypeId}{pos:String}{after:Array Edge}{y:Operand}{v:Value}{cs:Array Value}
theorem eff_box (hs:Sat w0 w L) (hy:a.eval y=v) (hcs:v.cells=cs)
  (hK:∀ b w',Sat w0 w' (pt b (.cells cs ty (0,0))::L)→K (a.put dst (.pointer (some ⟨b,0,none⟩))) w') :
  if Region.wanted ⟨dst,.box ty y,t,pos,after,none⟩ (yielded ops a.tmps)=true then Oper.wp P ⟨dst,.box ty y,t,pos,after,none⟩ a w K Q else E:=by
 subst hcs
 refine eff_of rfl ?_
 have hS:=hs.alloc (.cells v.cells ty)
 unfold Oper.wp execOp
 have hrun:(Instr.box ty v).run P w = .ok (.pointer (some ⟨w.heap.size,0,none⟩)) (w.alloc (.cells v.cells ty)):=by
  simp [Instr.box,newVar,newRow,go_sem]
 simp only [hy,Sem.run_bind,Sem.run_pure,hrun,Result.andThen_ok]
 exact hK _ _ hS
end
section
variable {w0 w:World}{F R:List HProp}{sv:Value}
theorem tail_c {l:List Int}{n:Nat} (hn:n≤l.length) (h:Sat w0 w (osl 3 1 sv (ints l)::R)) :
  ∃ tv,(∀ w,(Instr.sliceAt 42 sv (some (.int .i64 n)) none none).run Tryz.prog w = .ok tv w)∧(∃ a' c',tv = .slice a' (l.length - n) c')∧∀ W,rdsl 1 sv (ints l) W→rdsl 1 tv (ints (l.drop n)) W:=by
 rcases h.osl_cases with ⟨rfl,he,h'⟩|⟨g,k,cap,cs,rfl,hl,hk,hc,hcm,htk,hp⟩
 ·obtain rfl:l=[]:=by simpa [ints] using he
  obtain rfl:n=0:=by simpa using hn
  refine ⟨.slice none 0 0,fun w=>by go_simp,⟨none,0,rfl⟩,fun W hW=>by simpa using hW⟩
 ·obtain rfl:k=l.length:=by simpa [ints] using hl.symm
  by_cases hce:cap=n
  ·have hd:l.drop n=[]:=List.drop_eq_nil_of_le oQ
   have e0:l.length - n=0:=oQ
   rw [hd,e0]
   have h1:n≤cap:=oQ
   have h2:l.length=n:=oQ
   refine ⟨.slice (some ⟨g,0,none⟩) 0 0,fun w=>?_,⟨_,_,rfl⟩,fun W hW=>⟨_,_,_,rfl,rfl,fun j x hj=>by cases hj⟩⟩
   have h4:(0:Int)≤(n:Int):=oQ
   have h5:(n:Int).toNat=n:=oQ
   subst hce
   go_simp
  ·refine ⟨.slice (some ⟨g,n,none⟩) (l.length - n) (cap - n),fun w=>?_,⟨_,_,rfl⟩,fun W hW=>?_⟩
   ·have h4:(0:Int)≤(n:Int):=by omega
    have h5:(n:Int).toNat=n:=oQ
    have h6:n≤cap:=oQ
    go_simp
   ·obtain ⟨a,n',c,he,hl',hx⟩:=hW
    cases he
    refine ⟨_,_,_,rfl,by unfold ints;rw [List.length_map,List.length_drop,Nat.mul_one],fun j x hj=>⟨_,rfl,?_⟩⟩
    have hj2:(ints l)[n+j]?=some x:=by
     unfold ints at hj ⊢
     rw [List.map_drop,List.getElem?_drop]at hj
     exact hj
    obtain ⟨ad,e,hc'⟩:=hx (n+j) x hj2
    cases e
    rw [adr_add,Nat.zero_add]at hc'
    rw [adr_add]
    exact hc'
theorem head_c {l:List Int}{n:Nat} (hn:n≤l.length) (h:Sat w0 w (osl 3 1 sv (ints l)::R)) :
  ∃ a' c',(∀ w,(Instr.sliceAt 42 sv none (some (.int .i64 n)) none).run Tryz.prog w = .ok (.slice a' n c') w)∧∀ W,rdsl 1 sv (ints l) W→rdsl 1 (.slice a' n c') (ints (l.take n)) W:=by
 rcases h.osl_cases with ⟨rfl,he,h'⟩|⟨g,k,cap,cs,rfl,hl,hk,hc,hcm,htk,hp⟩
 ·obtain rfl:l=[]:=by simpa [ints] using he
  obtain rfl:n=0:=by simpa using hn
  refine ⟨none,0,fun w=>by go_simp,fun W hW=>by simpa using hW⟩
 ·obtain rfl:k=l.length:=by simpa [ints] using hl.symm
  refine ⟨some ⟨g,0,none⟩,cap,fun w=>?_,fun W hW=>?_⟩
  ·have h4:(0:Int)≤(n:Int):=by omega
   have h5:(n:Int).toNat=n:=oQ
   have h6:n≤cap:=oQ
   go_simp
  ·obtain ⟨a,n',c,he,hl',hx⟩:=hW
   cases he
   refine ⟨_,_,_,rfl,by unfold ints;rw [List.length_map,List.length_take,Nat.mul_one];omega,fun j x hj=>?_⟩
   refine hx j x ?_
   unfold ints at hj ⊢
   rw [List.map_take,List.getElem?_take]at hj
   split at hj
   ·exact hj
   ·cases hj
theorem TabMA.lists {p B:Nat}{m:Frm.Bs→Option Rep.Abt} (h:Sat w0 w (TabMA p m B::R)):∃ kv,Tab.Lists m kv∧(∀ q∈kv,q.1.length=32)∧kv.length≤B:=by
 obtain ⟨t,sv',⟨ok,is,hb⟩,hS⟩:=TabMA.open h
 have hp:=List.mergeSort_perm (t.slots.filter fun x=>decide (x.st=1)) (fun a b:Tab.Slot Rep.Abt=>decide (¬ b.key<a.key))
 have hw:=List.pairwise_mergeSort (le:=fun a b:Tab.Slot Rep.Abt=>decide (¬ b.key<a.key)) (fun a b c h1 h2=>by
   rw [decide_eq_true_eq]at h1 h2 ⊢
   intro h3
   rcases Tab.bs_tri a.key b.key with q|q|q
   ·exact h2 (List.lt_trans h3 q)
   ·exact h2 (q ▸ h3)
   ·exact h1 q) (fun a b=>by
   rw [Bool.or_eq_true,decide_eq_true_eq,decide_eq_true_eq]
   by_cases q:b.key<a.key
   ·exact .inr fun q2=>List.lt_irrefl _ (List.lt_trans q q2)
   ·exact .inl q) (t.slots.filter fun x=>decide (x.st=1))
 obtain ⟨h1,h2⟩:=Tab.lists_of ok.good is hp (hw.imp fun {a b} q=>by rwa [decide_eq_true_eq]at q)
 refine ⟨_,h1,fun q hq=>?_,?_⟩
 ·obtain ⟨x,hx,rfl⟩:=List.mem_map.1 hq
  exact (h2 x hx).2
 ·rw [List.length_map,hp.length_eq,← List.countP_eq_length_filter]
  have e:t.slots.countP (fun x=>decide (x.st=1))=Tab.fulls t.slots:=by
   unfold Tab.fulls
   refine List.countP_congr fun x _=>?_
   simp
  have:=ok.n;omega
end
def RunOut (w0:World) (F:List HProp) (bt:Rep.Told) (ns:List Int) (p m:Nat) (L:Seg.Log) (M:Med) (v:Value) (w':World):Prop:=
 match Rep.run bt ns with
 |.inl (fl,e)=>v = .tuple #[.pointer none,.agg (fltA fl),errno e]∧Sat w0 w' (LogRep p m L::MedRep m M::F)
 |.inr n=>∃ (ps pi:Nat) (uv tv av:Value) (kv:List (Frm.Bs×Rep.Abt)),v = .tuple #[ptr ps,.agg (fltA Rep.Flt.zero),errno 0] ∧
   (Tab.Lists (Rep.ledger (Rep.rowsOf bt (ns.take n))) kv∧(∀ q∈kv,q.1.length=32)∧kv.length≤(Rep.rowsOf bt (ns.take n)).length) ∧
   ((∃ a' c',tv = .slice a' (ns.length - n) c')∧∀ W,rdsl 1 av (ints ns) W→rdsl 1 tv (ints (ns.drop n)) W) ∧
   Sat w0 w' (stPt ps (Rep.lastOfL (ns.take n)) pi uv tv::TabML pi (Tab.mapOf (Rep.puts kv)) kv.length::osl 121 3 uv (((Rep.usesOf bt (ns.take n)).map (Rep.upd kv)).flatMap uenc)::osl 3 1 av (ints ns)::LogRep p m L::MedRep m M::F)
section
variable {w0 w:World}{F:List HProp}{p m K:Nat}{L:Seg.Log}{M:Med}
theorem zLed:zeroB Tryz.prog 111=some (.agg #[.pointer none]):=by kernel_rfl
set_option maxRecDepth 20000 in
theorem run_c (hL:L.Ok) (hM:M.Ok K) (hH:Ro w0 F Half) (hrows:(Rep.rowsOf (lbt L M) L.segs).length≤12000000) (hsz:∀ r∈Rep.rowsOf (lbt L M) L.segs,(r.2.size:Int)≤4294967296) (h:Sat w0 w (LogRep p m L::MedRep m M::F)) :
  Calls Tryz.prog 11 #[ptr p] w (Rtn fun v w'=>RunOut w0 F (lbt L M) L.segs p m L M v w'):=by
 have Hlen:=uQ (show L.segs.length≤1048576 from by unfold Seg.Log.segs;rw [List.length_map];have:=hL.len;omega)
 have hse:=lsegs_c hL h
 have Hnn:=uQ (show ∀ s∈L.segs,0≤s from fun s hs=>by
  unfold Seg.Log.segs at hs
  obtain ⟨x,hx,rfl⟩:=List.mem_map.1 hs
  exact (hL.nums x hx).1)
 have HL:=uQ hL;have HM:=uQ hM;have HH:=uQ hH;have Hrows:=uQ hrows;have Hsz:=uQ hsz
 clear hL hM hH hrows hsz
 go_enter Tryz.func11,Tryz.ntmps11
 go_wp2_with (with_reducible apply at_alloc)
 refine ⟨wl_alloc zFlt h rfl ?_⟩
 intro b3 w3 h3
 clear hse h
 go_wp2_with fail
 refine (lsegs_c HL.out (h3.pick pick1)).mono ?_
 rintro ee w4 ⟨sv,rfl,h4⟩
 have hsp:=split_c HL.out HM.out (Ro.os HH.out) (h4.sb:Sat w0 w4 (osl 3 1 sv (ints L.segs)::LogRep p m L::MedRep m M::pt b3 (.cells (fltA Rep.Flt.zero) 37 (0,0))::F))
 clear h3 h4
 go_wp2_with fail
 refine hsp.mono ?_
 rintro ee w5 ⟨v,rfl,rfl,h5⟩
 clear hsp
 by_cases h0:(Rep.split (lbt L M) L.segs L.segs.length).2=0
 rotate_left
 ·have hb:((Rep.split (lbt L M) L.segs L.segs.length).2 != 0)=true:=by rw [bne_iff_ne];exact h0
  have Hf:=uQ (show Rep.run (lbt L M) L.segs = .inl (Rep.Flt.zero,(Rep.split (lbt L M) L.segs L.segs.length).2) by unfold Rep.run;rw [if_pos h0])
  have h6:Sat w0 w5 (pt b3 (.cells (fltA Rep.Flt.zero) 37 (0,0))::LogRep p m L::MedRep m M::F):=h5.sb
  clear h0 h5
  go_wp2_with (first
   |((with_reducible refine at_build0 ⟨?_⟩);refine wl_build0 (fun w=>run_flt0 w) ?_)
   |((with_reducible refine at_store ⟨?_⟩);refine wl_storeA (fltA Rep.Flt.zero) h6 rFz rFz rFz upd0 kRz rFz ?_;intro w9 h9))
  refine ⟨rfl,_,res_tct rfl h9 rFz pkD Tryz.underlying37 rfl kRz,_,rfl,?_⟩
  unfold RunOut
  rw [Hf.out]
  exact ⟨rfl,h9.drop⟩
 have hb:((Rep.split (lbt L M) L.segs L.segs.length).2 != 0)=false:=by rw [h0];rfl
 have Hle:=uQ (Rep.split_le (lbt L M) L.segs L.segs.length)
 have Hf:=uQ (show Rep.run (lbt L M) L.segs=Rep.runAt (lbt L M) L.segs (Rep.split (lbt L M) L.segs L.segs.length).1 by unfold Rep.run;rw [if_neg (fun h=>h h0)])
 rw [h0]
 generalize (Rep.split (lbt L M) L.segs L.segs.length).1=n at *
 clear h0
 obtain ⟨tv,htl,⟨ta,tc,rfl⟩,htr⟩:=tail_c Hle.out h5
 have Htr:=uQ htr
 clear htr
 go_wp2_with fail
 have hG:True:=trivial
 have h6:=h5.drew
 clear h5
 refine wpL_begin [] (fun w'=>True) kRz ?_
 refine rP 1 ?_ (y:=mvQ)
 refine rP 2 ?_ (y:=mvQ)
 refine rP 3 ?_ (y:=(yl_slice_lo evD evD htl))
 refine rg_eff 0 evD kRz (fun K hK=>?_)
 refine eff_call [] kRz (by simp) ?_
 refine (newL_c h6).mono ?_
 rintro ee w7 ⟨v,rfl,pi,rfl,h7⟩
 refine hK _ _ (.inr (.inl trivial)) ?_
 clear hK h6
 refine rp 4 (hy:=(by (refine Or.inl ⟨by rfl,?_⟩;((intro wq;go_simp);first|done|exact wQ)))) (h:=?_)
 refine rg_eff 5 evD kRz (fun K hK=>?_)
 refine eff_box (cs:=#[.int .i64 (-1),ptr pi,.slice none 0 0,.slice ta (L.segs.length - n) tc]) h7 evD evD ?_
 intro ps w8 h8
 refine hK _ _ (.inr (.inl trivial)) ?_
 clear hK h7
 refine rP 6 ?_ (y:=asQ)
 refine wpL_done kRz ?_
 clear hG
 go_wp2_with fail
 refine (newA_c h8).mono ?_
 rintro ee w9 ⟨v,rfl,pg,rfl,h9⟩
 clear h8
 go_wp2_with (with_reducible apply at_alloc)
 refine ⟨wl_alloc zLed h9 rfl ?_⟩
 intro b9 w10 h10
 clear h9
 obtain ⟨ha,hc,hhl,hhr⟩:=head_c Hle.out (h10.sb:Sat w0 w10 (osl 3 1 sv (ints L.segs)::F))
 go_wp2_with ((with_reducible refine at_store ⟨?_⟩);refine wl_store (cs':=#[ptr pg]) h10 rFz evD rFz upd0 nLz kRz rFz ?_;intro w11 h11)
 have h12:Sat w0 w11 (stPt ps (Rep.lastOfL (L.segs.take 0)) pi (.slice none 0 0) (.slice ta (L.segs.length - n) tc)::osl 121 3 (.slice none 0 0) ((Rep.usesOf (lbt L M) (L.segs.take 0)).flatMap uenc)::TabML pi (fun _=>none) 0::pt b9 (.cells #[ptr pg] 111 (0,0)) ::
  TabMA pg (Rep.ledger (Rep.rowsOf (lbt L M) (L.segs.take 0))) (Rep.rowsOf (lbt L M) (L.segs.take 0)).length::pt b3 (.cells (fltA Rep.Flt.zero) 37 (0,0))::osl 3 1 sv (ints L.segs)::LogRep p m L::MedRep m M::F):=(Sat.osl_nil.2 h11).sb
 clear h10 h11 htl
 go_loopg [45] n (fun g iq wr=>∃ (i:Nat) (uv:Value),g=n - i∧i≤n∧iq = .int .i64 i∧Rep.bad (lbt L M) (L.segs.take i)=none∧Sat w0 wr (stPt ps (Rep.lastOfL (L.segs.take i)) pi uv (.slice ta (L.segs.length - n) tc)::osl 121 3 uv ((Rep.usesOf (lbt L M) (L.segs.take i)).flatMap uenc)::TabML pi (fun _=>none) 0::pt b9 (.cells #[ptr pg] 111 (0,0)) ::
  TabMA pg (Rep.ledger (Rep.rowsOf (lbt L M) (L.segs.take i))) (Rep.rowsOf (lbt L M) (L.segs.take i)).length::pt b3 (.cells (fltA Rep.Flt.zero) 37 (0,0))::osl 3 1 sv (ints L.segs)::LogRep p m L::MedRep m M::F))
 case atStart=>exact ⟨0,.slice none 0 0,rfl,Nat.zero_le _,rfl,rfl,h12⟩
 case round=>
  obtain ⟨i,uv,rfl,hi,rfl,hbad,hS⟩:=hrel
  clear h12
  have Hbad:=uQ hbad
  clear hbad
  by_cases hlt:i<n
  rotate_left
  ·obtain rfl:i=n:=by omega
   have c1:¬ (i:Int)<(i:Int):=oQ
   obtain ⟨kv,k1,k2,k3⟩:=TabMA.lists (hS.pk (A:=TabMA pg (Rep.ledger (Rep.rowsOf (lbt L M) (L.segs.take i))) (Rep.rowsOf (lbt L M) (L.segs.take i)).length))
   have k4:=Nat.le_trans (Rep.rowsOf_le (lbt L M) L.segs i) Hrows.out
   have hks:∀ q∈kv,q.1.length=32∧0≤q.2.place.size∧q.2.place.size≤4294967296:=fun q hq=>by
    obtain ⟨r,hr,e⟩:=Rep.ledger_place ((k1.mem q.1 q.2).1 hq)
    rw [e]
    exact ⟨k2 q hq,Int.natCast_nonneg _,Hsz.out r (Rep.rowsOf_take _ _ _ r hr)⟩
   have hfl:=fill_c (us:=Rep.usesOf (lbt L M) (L.segs.take i)) k1 oQ oQ hks (by unfold Rep.usesOf;rw [List.length_map,List.length_take];have:=Hlen.out;omega)
    (hS.sb:Sat w0 wr (stPt ps (Rep.lastOfL (L.segs.take i)) pi uv (.slice ta (L.segs.length - i) tc)::TabML pi (fun _=>none) 0::TabMA pg (Rep.ledger (Rep.rowsOf (lbt L M) (L.segs.take i))) (Rep.rowsOf (lbt L M) (L.segs.take i)).length ::
     osl 121 3 uv ((Rep.usesOf (lbt L M) (L.segs.take i)).flatMap uenc)::pt b3 (.cells (fltA Rep.Flt.zero) 37 (0,0))::osl 3 1 sv (ints L.segs)::LogRep p m L::MedRep m M::F))
   have K:=uQ (And.intro k1 (And.intro k2 k3))
   have Hg:=uQ (Hf.out.trans (Rep.runAt_none Hbad.out))
   have Htv:=uQ Htr.out
   clear k1 k2 k3 k4 hks hlt hi
   go_wp2_with ((with_reducible refine at_load ⟨?_⟩);refine wl_loadA (cs:=#[ptr pg]) hS rFz (pick_there (pick_there (pick_there pick0))) Tryz.underlying111 rfl kRz ?_)
   refine hfl.mono ?_
   rintro ee w14 ⟨v,rfl,h14⟩
   clear hfl hS
   go_wp2_with (first
    |((with_reducible refine at_build0 ⟨?_⟩);refine wl_build0 (fun w=>run_flt0 w) ?_)
    |((with_reducible refine at_store ⟨?_⟩);refine wl_storeA (fltA Rep.Flt.zero) h14 rFz rFz rFz (upd_there (upd_there (upd_there (upd_there upd0)))) kRz rFz ?_;intro w15 h15))
   refine ⟨rfl,_,res_tct rfl h15 rFz (pick_there (pick_there (pick_there (pick_there pick0)))) Tryz.underlying37 rfl kRz,_,rfl,?_⟩
   unfold RunOut
   rw [Hg.out]
   exact ⟨ps,pi,uv,.slice ta (L.segs.length - i) tc,sv,kv,rfl,K.out,⟨⟨ta,tc,rfl⟩,Htv.out⟩,h15.sb⟩
  have c1:(i:Int)<(n:Int):=oQ
  have hwi:IntKind.i64.wrap ((i:Int)+1)=(i:Int)+1:=IntWalk.i64_in _ (by have:=Hle.out;have:=Hlen.out;omega)
  have hni:(L.segs.take n).length=n:=by rw [List.length_take];have:=Hle.out;omega
  obtain ⟨s,hs⟩:∃ s,(L.segs.take n)[i]?=some s:=⟨_,List.getElem?_eq_getElem oQ⟩
  have hs2:L.segs[i]?=some s:=by rw [List.getElem?_take]at hs;rw [if_pos hlt]at hs;exact hs
  have Htk:=uQ (show L.segs.take (i+1)=L.segs.take i++[s] by rw [List.take_add_one,hs2,Option.toList_some])
  have Hspl:=uQ (show ∃ post,L.segs.take n=L.segs.take i++s::post by
   obtain ⟨h1,e⟩:=List.getElem?_eq_some_iff.1 hs
   refine ⟨(L.segs.take n).drop (i+1),?_⟩
   have e2:L.segs.take i=(L.segs.take n).take i:=by rw [List.take_take,Nat.min_eq_left (Nat.le_of_lt hlt)]
   rw [e2,← e,← List.drop_eq_getElem_cons h1,List.take_append_drop])
  have Hs0:=uQ (Hnn.out s (List.mem_of_getElem? hs2))
  obtain ⟨bk,off,c',hsv,f0⟩:=ints_cell (hhr _ (Sat.rd (hS.pk (A:=osl 3 1 sv (ints L.segs))))) hs
  rw [hni]at hsv
  cases hsv
  have hb:=lbytes_c HL.out HM.out s (hS.sb:Sat w0 wr (LogRep p m L::MedRep m M::stPt ps (Rep.lastOfL (L.segs.take i)) pi uv (.slice ta (L.segs.length - n) tc)::osl 121 3 uv ((Rep.usesOf (lbt L M) (L.segs.take i)).flatMap uenc)::TabML pi (fun _=>none) 0::pt b9 (.cells #[ptr pg] 111 (0,0)) ::
   TabMA pg (Rep.ledger (Rep.rowsOf (lbt L M) (L.segs.take i))) (Rep.rowsOf (lbt L M) (L.segs.take i)).length::pt b3 (.cells (fltA Rep.Flt.zero) 37 (0,0))::osl 3 1 sv (ints L.segs)::F))
  have Hlt:=uQ hlt
  clear hS hs hs2 hni hlt hi
  go_wp2_with fail
  refine hb.mono ?_
  rintro ee w20 ⟨v,rfl,bv,rfl,h20⟩
  clear hb f0
  obtain ⟨hcap,ca,cc,rfl⟩:=bsl_capL h20
  by_cases h0:(L.bytes M s).2=0
  rotate_left
  ·have hb1:((L.bytes M s).2 != 0)=true:=by rw [bne_iff_ne];exact h0
   have Hg:=uQ (show Rep.run (lbt L M) L.segs = .inl (Rep.Flt.zero,(L.bytes M s).2) by
    rw [Hf.out]
    obtain ⟨post,e⟩:=Hspl.out
    exact Rep.runAt_bad (by rw [e];exact Rep.bad_power Hbad.out h0))
   have h21:Sat w0 w20 (pt b3 (.cells (fltA Rep.Flt.zero) 37 (0,0))::LogRep p m L::MedRep m M::F):=h20.sb
   clear h20 h0 hcap
   go_wp2_with (first
    |((with_reducible refine at_build0 ⟨?_⟩);refine wl_build0 (fun w=>run_flt0 w) ?_)
    |((with_reducible refine at_store ⟨?_⟩);refine wl_storeA (fltA Rep.Flt.zero) h21 rFz rFz rFz upd0 kRz rFz ?_;intro w22 h22))
   refine ⟨rfl,_,res_tct rfl h22 rFz pkD Tryz.underlying37 rfl kRz,_,rfl,?_⟩
   unfold RunOut
   rw [Hg.out]
   exact ⟨rfl,h22.drop⟩
  have hb1:((L.bytes M s).2 != 0)=false:=by rw [h0];rfl
  have H0:=uQ h0
  rw [h0]
  clear h0
  have hbl:=Seg.bytes_len (L:=L) HM.out s
  have hsc:=fscan_c (w0:=w0) (w:=w20) (L.bytes M s).1 (Ro.bsl _ _) hcap (Ro.os HH.out) (Nat.le_trans hbl dCz) h20
  clear hcap
  go_wp2_with fail
  refine hsc.mono ?_
  rintro ee w21 ⟨v,rfl,fs,fv,hfs,hfk,rfl,h21⟩
  clear hsc h20
  obtain ⟨fa,fc,rfl⟩:=fnds_sl hfk h21
  by_cases h1:(Frm.scan (L.bytes M s).1).2.2=0
  rotate_left
  ·have hb2:((Frm.scan (L.bytes M s).1).2.2 != 0)=true:=by rw [bne_iff_ne];exact h1
   have Hg:=uQ (show Rep.run (lbt L M) L.segs = .inl (Rep.fault s (Frm.scan (L.bytes M s).1).2.1,13) by
    rw [Hf.out]
    obtain ⟨post,e⟩:=Hspl.out
    exact Rep.runAt_bad (by rw [e];exact Rep.bad_scan Hbad.out H0.out h1))
   have h22:Sat w0 w21 (pt b3 (.cells (fltA Rep.Flt.zero) 37 (0,0))::LogRep p m L::MedRep m M::F):=h21.sb
   clear h21 h1 hfs hfk
   go_wp2_with fail
   refine (fault_c s (Frm.scan (L.bytes M s).1).2.1 h22).mono ?_
   rintro ee w23 ⟨v,rfl,rfl,h23⟩
   clear h22
   go_wp2_with ((with_reducible refine at_store ⟨?_⟩);refine wl_storeA (fltA (Rep.fault s (Frm.scan (L.bytes M s).1).2.1)) h23 rFz rFz rFz upd0 kRz rFz ?_;intro w24 h24)
   refine ⟨rfl,_,res_tct rfl h24 rFz pkD Tryz.underlying37 rfl kRz,_,rfl,?_⟩
   unfold RunOut
   rw [Hg.out]
   exact ⟨rfl,h24.drop⟩
  have hb2:((Frm.scan (L.bytes M s).1).2.2 != 0)=false:=by rw [h1];rfl
  have H1:=uQ h1
  rw [h1]
  clear h1
  have h22:Sat w0 w21 (TabMA pg (Rep.ledger (Rep.rowsOf (lbt L M) (L.segs.take i)++(fs.take 0).map fun q=>(s,q.1))) ((Rep.rowsOf (lbt L M) (L.segs.take i)).length+0)::stPt ps (Rep.lastOfL (L.segs.take i)) pi uv (.slice ta (L.segs.length - n) tc)::osl 121 3 uv ((Rep.usesOf (lbt L M) (L.segs.take i)).flatMap uenc)::TabML pi (fun _=>none) 0::pt b9 (.cells #[ptr pg] 111 (0,0)) ::
   pt b3 (.cells (fltA Rep.Flt.zero) 37 (0,0))::osl 3 1 sv (ints L.segs)::LogRep p m L::MedRep m M::osl 118 36 (.slice fa fs.length fc) (fndsL fs)::dataF fs::F):=by
   have q:Sat w0 w21 (TabMA pg (Rep.ledger (Rep.rowsOf (lbt L M) (L.segs.take i))) (Rep.rowsOf (lbt L M) (L.segs.take i)).length::stPt ps (Rep.lastOfL (L.segs.take i)) pi uv (.slice ta (L.segs.length - n) tc)::osl 121 3 uv ((Rep.usesOf (lbt L M) (L.segs.take i)).flatMap uenc)::TabML pi (fun _=>none) 0::pt b9 (.cells #[ptr pg] 111 (0,0)) ::
   pt b3 (.cells (fltA Rep.Flt.zero) 37 (0,0))::osl 3 1 sv (ints L.segs)::LogRep p m L::MedRep m M::osl 118 36 (.slice fa fs.length fc) (fndsL fs)::dataF fs::F):=h21.sb
   rw [List.take_zero,List.map_nil,List.append_nil,Nat.add_zero]
   exact q
  have Hcnt:=uQ (show (Rep.rowsOf (lbt L M) (L.segs.take i)).length+fs.length≤12000000 by
   have q1:=Rep.rowsOf_le (lbt L M) L.segs (i+1)
   rw [Htk.out,Rep.rowsOf_snoc,List.length_append,List.length_map,show (Frm.scan (lbt L M s).1).1=fs.map (·.1) from hfs.symm,List.length_map]at q1
   exact Nat.le_trans q1 Hrows.out)
  have hfl:fs.length≤16777216:=by
   have:=Frm.scan_count (L.bytes M s).1
   rw [← hfs,List.length_map]at this;omega
  have Hfl:=uQ hfl;have Hfs:=uQ hfs;have Hfk:=uQ hfk
  clear h21 hbl hfs hfk
  go_wp2_with fail
  go_loopg [72] fs.length (fun g jq wr=>∃ j:Nat,g=fs.length - j∧j≤fs.length∧jq = .int .i64 j∧Sat w0 wr (TabMA pg (Rep.ledger (Rep.rowsOf (lbt L M) (L.segs.take i)++(fs.take j).map fun q=>(s,q.1))) ((Rep.rowsOf (lbt L M) (L.segs.take i)).length+j)::stPt ps (Rep.lastOfL (L.segs.take i)) pi uv (.slice ta (L.segs.length - n) tc)::osl 121 3 uv ((Rep.usesOf (lbt L M) (L.segs.take i)).flatMap uenc)::TabML pi (fun _=>none) 0::pt b9 (.cells #[ptr pg] 111 (0,0)) ::
   pt b3 (.cells (fltA Rep.Flt.zero) 37 (0,0))::osl 3 1 sv (ints L.segs)::LogRep p m L::MedRep m M::osl 118 36 (.slice fa fs.length fc) (fndsL fs)::dataF fs::F))
  case atStart=>exact ⟨0,rfl,Nat.zero_le _,rfl,h22⟩
  case round=>
   obtain ⟨j,rfl,hj,rfl,hS⟩:=hrel
   clear h22
   by_cases hjl:j<fs.length
   rotate_left
   ·obtain rfl:j=fs.length:=by omega
    have d1:¬ (fs.length:Int)<(fs.length:Int):=oQ
    rw [List.take_length]at hS
    clear hjl hj
    have hul:((Rep.usesOf (lbt L M) (L.segs.take i)).flatMap uenc).length≤2147483648:=by
     rw [rows_len (k:=3) fun u _=>rfl]
     unfold Rep.usesOf
     rw [List.length_map,List.length_take]
     have:=Hlen.out;omega
    go_wp2_with (first
     |((with_reducible refine at_store ⟨?_⟩);refine wl_store (cs':=#[.int .i64 s,ptr pi,uv,.slice ta (L.segs.length - n) tc]) hS rFz evD rFz (upd_there upd0) nLz kRz rFz ?_;intro w40 h40)
     |((with_reducible refine at_load ⟨?_⟩);refine wl_load1 h40 rFz (pick_there pick0) nLz evD kRz ?_)
     |(with_reducible apply at_build1))
    refine ⟨wl_build1 (e:=121) (sz:=3) (by':=24) kRz h40 rFz (cs:=#[.int .i64 s,.int .i64 ((L.bytes M s).1.length:Nat),.int .i64 0]) rfl rfl dCz ?_⟩
    intro b41 w41 h41
    go_wp2_with (with_reducible apply at_append)
    refine ⟨wl_app 121 3 24 kRz h41 rFz rFz (pick_there (pick_there (pick_there pick0))) pick0 rfl (Nat.le_refl 1) rFz hul (by show 3≤65536;decide) dCz rfl ?_⟩
    intro bA nA cA w42 h42
    go_wp2_with ((with_reducible refine at_store ⟨?_⟩);refine wl_store (cs':=#[.int .i64 s,ptr pi,.slice (some ⟨bA,0,none⟩) nA cA,.slice ta (L.segs.length - n) tc]) h42 rFz evD rFz (upd_there (upd_there upd0)) nLz kRz rFz ?_;intro w43 h43)
    have h44:Sat w0 w43 (stPt ps (Rep.lastOfL (L.segs.take (i+1))) pi (.slice (some ⟨bA,0,none⟩) nA cA) (.slice ta (L.segs.length - n) tc)::osl 121 3 (.slice (some ⟨bA,0,none⟩) nA cA) ((Rep.usesOf (lbt L M) (L.segs.take (i+1))).flatMap uenc)::TabML pi (fun _=>none) 0::pt b9 (.cells #[ptr pg] 111 (0,0)) ::
     TabMA pg (Rep.ledger (Rep.rowsOf (lbt L M) (L.segs.take (i+1)))) (Rep.rowsOf (lbt L M) (L.segs.take (i+1))).length::pt b3 (.cells (fltA Rep.Flt.zero) 37 (0,0))::osl 3 1 sv (ints L.segs)::LogRep p m L::MedRep m M::F):=by
     rw [Htk.out,Rep.lastOfL_snoc,Rep.usesOf_snoc,Rep.rowsOf_snoc,List.length_append,List.length_map,show (Frm.scan (lbt L M s).1).1=fs.map (·.1) from Hfs.out.symm,List.length_map,List.map_map,List.flatMap_append]
     exact h43.sb
    clear h40 h41 h42 h43 hS
    go_roundg (n - (i+1))
    case measure=>have:=Hlt.out;omega
    case rel=>exact ⟨i+1,.slice (some ⟨bA,0,none⟩) nA cA,rfl,Hlt.out,by first|rfl|go_num,by rw [Htk.out];exact Rep.bad_none Hbad.out H0.out H1.out,h44⟩
   have d1:(j:Int)<(fs.length:Int):=oQ
   have hwj:IntKind.i64.wrap ((j:Int)+1)=(j:Int)+1:=IntWalk.i64_in _ oQ
   obtain ⟨⟨f,dv⟩,hq⟩:∃ q,fs[j]?=some q:=⟨_,List.getElem?_eq_getElem hjl⟩
   have hkf:f.e.key.length=32:=Hfk.out _ (List.mem_of_getElem? hq)
   obtain ⟨da,dn,dc,rfl,_,_⟩:=dataF_ro hq wr (hS.pk (A:=dataF fs))
   obtain ⟨bk2,off2,c2,e2,hcell⟩:=osl_row (f:=fun q:Frm.Fnd×Value=>fndL q.1 q.2) (k:=36) (fun q hq=>fndL_len q.1 q.2 (Hfk.out q hq)) (Sat.rd (hS.pk (A:=osl 118 36 (.slice fa fs.length fc) (fndsL fs)))) hq dCz
   cases e2
   have hl36:(fndL f (.slice da dn dc)).length=36:=fndL_len _ _ hkf
   have Htj:=uQ (show (fs.take (j+1)).map (fun q=>(s,q.1))=(fs.take j).map (fun q=>(s,q.1))++[(s,f)] by rw [List.take_add_one,hq,Option.toList_some,List.map_append];rfl)
   have Hjl:=uQ hjl;have Hkf:=uQ hkf
   clear hq hkf hj
   go_wp2_with (first
    |((with_reducible refine at_load ⟨?_⟩);refine wl_loadW (b:=bk2) (o:=off2+j * 36) (fndL f (.slice da dn dc)) rFz hcell Tryz.underlying118 rfl (by rw [hl36];kernel_rfl) ?_)
    |(with_reducible apply at_alloc))
   refine ⟨wl_alloc zFnd hS rfl ?_⟩
   intro b17 w30 h30
   go_wp2_with (first
    |((with_reducible refine at_store ⟨?_⟩);refine wl_storeA (fndA f (.slice da dn dc)) h30 rFz rFz (by rw [fndA_size _ _ Hkf.out];rfl) upd0 (by rw [fndA_size _ _ Hkf.out];kernel_rfl) (fndA_ones _ _ _ _) ?_;intro w31 h31)
    |((with_reducible refine at_load ⟨?_⟩);refine wl_loadA (cs:=fndA f (.slice da dn dc)) h31 rFz pick0 Tryz.underlying118 rfl (by rw [fndA_size _ _ Hkf.out];kernel_rfl) ?_)
    |((with_reducible refine at_load ⟨?_⟩);refine wl_loadA (cs:=#[ptr pg]) h31 rFz (pick_there (pick_there (pick_there (pick_there (pick_there pick0))))) Tryz.underlying111 rfl kRz ?_))
   have hrl:=Rep.rowsOf_le (lbt L M) L.segs i
   refine (take_c (p:=pg) s f Hkf.out (by have:=Hrows.out;have:=Hfl.out;have:=Hjl.out;have:=Hcnt.out;omega) (h31.pick pick1)).mono ?_
   rintro ee w32 ⟨v,rfl,h32⟩
   clear h30 h31 hS hcell
   have hnn:∀ x∈Rep.rowsOf (lbt L M) (L.segs.take i)++(fs.take j).map (fun q=>(s,q.1)),0≤x.1:=fun x hx=>by
    rcases List.mem_append.1 hx with hx|hx
    ·unfold Rep.rowsOf at hx
     obtain ⟨u,hu,hx⟩:=List.mem_flatMap.1 hx
     obtain ⟨g,_,rfl⟩:=List.mem_map.1 hx
     exact Hnn.out u (List.mem_of_mem_take hu)
    ·obtain ⟨g,_,rfl⟩:=List.mem_map.1 hx
     exact Hs0.out
   rw [← Rep.ledger_snoc _ _ hnn,List.append_assoc,← Htj.out]at h32
   clear hnn
   go_wp2_with fail
   go_roundg (fs.length - (j+1))
   case measure=>have:=Hjl.out;omega
   case rel=>exact ⟨j+1,rfl,Hjl.out,by first|rfl|go_num,h32.sb⟩
end
section
variable {w0 w:World}{F:List HProp}{p B:Nat}{m:Frm.Bs→Option (Seg.Plc)}
set_option maxRecDepth 20000 in
theorem keysL_c (hB:B≤13000000) (h:Sat w0 w (TabML p m B::F)) :
  Calls Tryz.prog 95 #[ptr p] w (Rtn fun v w'=>∃ kv:List (Frm.Bs×Seg.Plc),(Tab.Lists m kv∧(∀ q∈kv,q.1.length=32)∧kv.length≤B)∧Sat w0 w' (osl 24 32 v (kv.flatMap fun q=>bys q.1)::TabML p m B::F)):=by
 have hr:=risingL_c hB h
 clear h
 go_enter Tryz.func95,Tryz.ntmps95
 go_wp2_with fail
 refine hr.mono ?_
 rintro ee w1 ⟨sv,rfl,s,⟨hs1,hs2,hs3⟩,hS1⟩
 clear hr
 have Hs1:=uQ hs1;have Hs2:=uQ hs2;have Hs3:=uQ hs3
 have Hkk:=uQ (show ∀ q∈s.map fun x=>(x.key,x.val),q.1.length=32 from fun q hq=>by
  obtain ⟨x,hx,rfl⟩:=List.mem_map.1 hq
  exact (hs2 x hx).2)
 have Hlen:=uQ (show ∀ x∈s,(slotL penc x).length=36 from fun x hx=>slotL_len penc x (hs2 x hx).2 3 (penc_len _))
 obtain ⟨la,lc,rfl⟩:=osl_rows Hlen.out (Sat.rd hS1) dCz
 have hsb:s.length≤13000000:=Nat.le_trans hs3 hB
 have hS2:Sat w0 w1 (osl 24 32 (.slice none 0 0) (((s.take 0).map fun x=>(x.key,x.val)).flatMap fun q=>bys q.1)::osl 230 36 (.slice la s.length lc) (s.flatMap (slotL penc))::TabML p m B::F):=Sat.osl_nil.2 hS1
 clear hs1 hs2 hs3 hB hS1
 go_wp2_with fail
 go_loopg [3,9] s.length (fun g oq iq wr=>∃ (i:Nat),g=s.length - i∧i≤s.length∧iq = .int .i64 i ∧
  Sat w0 wr (osl 24 32 oq (((s.take i).map fun x=>(x.key,x.val)).flatMap fun q=>bys q.1)::osl 230 36 (.slice la s.length lc) (s.flatMap (slotL penc))::TabML p m B::F))
 case atStart=>exact ⟨0,rfl,Nat.zero_le _,rfl,hS2⟩
 case round=>
  obtain ⟨i,rfl,hi,rfl,hS⟩:=hrel
  clear hS2
  by_cases hlt:i<s.length
  rotate_left
  ·obtain rfl:i=s.length:=by omega
   have c1:¬ (s.length:Int)<(s.length:Int):=oQ
   rw [List.take_length]at hS
   clear hlt hi
   go_wp2_with fail
   go_ret
   refine ⟨_,rfl,s.map fun x=>(x.key,x.val),⟨Hs1.out,by intros;exact Hkk.out (_,_) aQ,by rw [List.length_map];exact Hs3.out⟩,hS.sb⟩
  have c1:(i:Int)<(s.length:Int):=oQ
  have hwi:=iwQ (i:=i)
  obtain ⟨x,hx⟩:∃ x,s[i]?=some x:=⟨_,List.getElem?_eq_getElem hlt⟩
  have hxm:=List.mem_of_getElem? hx
  have Hxk:=uQ (Hs2.out x hxm).2
  obtain ⟨bk,off,c',hsv,hcell⟩:=osl_row Hlen.out (Sat.rd (hS.pick pick1)) hx dCz
  cases hsv
  have hl36:=Hlen.out x hxm
  have Htk:=uQ (show ((s.take (i+1)).map fun x=>(x.key,x.val)).flatMap (fun q=>bys q.1)=((s.take i).map fun x=>(x.key,x.val)).flatMap (fun q=>bys q.1)++bys x.key by
   rw [List.take_add_one,hx,Option.toList_some,List.map_append,List.flatMap_append];simp)
  have Hlt:=uQ hlt
  have hle5:(((s.take i).map fun x=>(x.key,x.val)).flatMap fun q=>bys q.1).length≤2147483648:=by
   rw [rows_len (k:=32) fun q hq=>by
    obtain ⟨y,hy,rfl⟩:=List.mem_map.1 hq
    rw [bys_len];exact (Hs2.out y (List.mem_of_mem_take hy)).2]
   rw [List.length_map]
   have:=List.length_take_le' i s
   omega
  clear hx hxm hlt hi
  go_wp2_with (first
   |((with_reducible refine at_load ⟨?_⟩);refine wl_loadW (b:=bk) (o:=off+i * 36) (slotL penc x) rFz hcell Tryz.underlying230 rfl (by rw [hl36];kernel_rfl) ?_)
   |(with_reducible apply at_alloc))
  refine ⟨wl_alloc zSlotL hS rfl ?_⟩
  intro b7 w7 hS7
  go_wp2_with (first
   |((with_reducible refine at_store ⟨?_⟩);refine wl_storeA (slotL penc x).toArray hS7 rFz rFz (by rw [List.size_toArray,hl36];rfl) upd0 (by rw [List.size_toArray,hl36];kernel_rfl) (by rw [List.toList_toArray];exact slotL_ones penc x (penc_ones _)) ?_;intro w10 hS10)
   |(with_reducible apply at_load))
  refine ⟨?_⟩
  clear hS hS7 hcell
  have f1:w10.rangeAt b7 1 (bys x.key):=slot_key (hS10.pick pick0)
  go_wp2_with (first
   |((with_reducible refine at_load ⟨?_⟩);refine wl_loadW (b:=b7) (o:=1) (bys x.key) rFz f1 Tryz.underlying24 rfl (by rw [bys_len,Hxk.out];kernel_rfl) ?_)
   |(with_reducible apply at_build1))
  refine ⟨wl_build1 (e:=24) (sz:=32) (by':=32) kRz hS10 rFz (cs:=(bys x.key).toArray) rfl (by rw [List.size_toArray,bys_len,Hxk.out]) dCz ?_⟩
  intro bN wN hN
  go_wp2_with (with_reducible apply at_append)
  refine ⟨wl_app 24 32 32 kRz hN rFz rFz (pick_there (pick_there pick0)) pick0 (by rw [List.size_toArray,bys_len,Hxk.out]) (Nat.le_refl 1) (by rw [List.toList_toArray];exact bys_ones _) hle5 (by rw [List.size_toArray,bys_len,Hxk.out];decide) dCz (by rw [List.toList_toArray]) ?_⟩
  intro bA nA cA wA hA
  go_wp2_with fail
  rw [← Htk.out]at hA
  go_roundg (s.length - (i+1))
  case measure=>have:=Hlt.out;omega
  case rel=>exact ⟨i+1,rfl,Hlt.out,by first|rfl|go_num,hA.sb⟩
end
def kvL (q:Frm.Bs×Seg.Plc):List Value:=bys q.1++penc q.2
theorem kvL_len (q:Frm.Bs×Seg.Plc) (hk:q.1.length=32):(kvL q).length=35:=by unfold kvL;rw [List.length_append,bys_len,hk];rfl
theorem kvL_ones (q:Frm.Bs×Seg.Plc):(kvL q).all (·.oneCell')=true:=by unfold kvL;rw [List.all_append,bys_ones];rfl
theorem zPlc39:zeroB Tryz.prog 54=some (.agg (penc Seg.Plc.zero).toArray):=by kernel_rfl
theorem plKv:placesB Tryz.prog 149=some [(0,32),(32,3)]:=by kernel_rfl
theorem zKv:zeroB Tryz.prog 149=some (.agg (kvL (Frm.zero32,Seg.Plc.zero)).toArray):=by kernel_rfl
theorem run_kv (k:Frm.Bs) (hk:k.length=32) (v:Seg.Plc) (w:World):(Instr.build 149 #[(0,.agg (bys k).toArray),(1,.agg (penc v).toArray)]).run Tryz.prog w = .ok (.agg (kvL (k,v)).toArray) w:=by
 have h:=run_build (P:=Tryz.prog) [(0,.agg (bys k).toArray),(1,.agg (penc v).toArray)] plKv zKv (by
  intro p hp
  have hzz:(Value.agg (kvL (Frm.zero32,Seg.Plc.zero)).toArray).cells.size=35:=by rfl
  rw [hzz]
  rcases List.mem_cons.1 hp with rfl|hp
  ·refine ⟨0,?_,?_⟩
   ·show some (0,32)=some (0,(bys k).toArray.size);rw [List.size_toArray,bys_len,hk]
   ·show 0+(bys k).toArray.size≤35
    rw [List.size_toArray,bys_len,hk];decide
  ·rw [List.mem_singleton.1 hp]
   exact ⟨32,rfl,by show 32+3≤35;omega⟩) w
 refine h.trans ?_
 have hz:Frm.zero32.length=32:=rfl
 have hzl:(kvL (Frm.zero32,Seg.Plc.zero)).length=35:=kvL_len _ hz
 have e:putsAt (putsAt (kvL (Frm.zero32,Seg.Plc.zero)).toArray 0 (bys k)) 32 (penc v)=(kvL (k,v)).toArray:=by
  apply putsAt_eq
  rw [puts_putL _ _ _ (by rw [putsAt_size,List.size_toArray,hzl];exact Nat.le_refl 35),puts_putL _ _ _ (by rw [List.size_toArray,hzl,bys_len,hk];decide),List.toList_toArray]
  have e1:putL (kvL (Frm.zero32,Seg.Plc.zero)) 0 (bys k)=bys k++penc Seg.Plc.zero:=by
   unfold kvL
   rw [putL_app2 _ _ _ _ (by rw [bys_len,bys_len,hk,hz];decide),putL_all (by rw [bys_len,bys_len,hk,hz])]
  have h0:=putL_app (bys k) (penc Seg.Plc.zero) (penc v) 0
  rw [bys_len,hk,putL_all (xs:=penc Seg.Plc.zero) (vs:=penc v) rFz]at h0
  rw [e1]
  exact h0
 exact congrArg (fun x=>Result.ok (Value.agg x) w) e
end Go.Proofs.YtlinnpehkfbnkaaGreatDoor
namespace Go.Rep
def useRw (u:Use):Bok.Rw:=⟨Frm.zero32,[u.seg,u.size,u.live]⟩
def idxRw (p:Frm.Bs×Seg.Plc):Bok.Rw:=⟨p.1,[p.2.seg,p.2.at_,p.2.size]⟩
end Go.Rep
namespace Go.Proofs.YtlinnpehkfbnkaaGreatDoor
open Go Go.Sl Go.Med Go.MapKept Go.RowKit
def numsS (rs:List RV):HProp:=stars (rs.map fun r=>osl 3 1 r.nv (ints r.x.nums))
section
variable {w0 w:World}{F:List HProp}{lv:Value}{rs:List RV}{r:RV}
theorem numsS_snoc (rs:List RV) (r:RV):numsS (rs++[r])=star (osl 3 1 r.nv (ints r.x.nums)) (numsS rs):=by
 unfold numsS
 rw [List.map_append,stars_append,List.map_cons,List.map_nil,stars_one,star_comm]
theorem numsS_add (h:Sat w0 w (osl 3 1 r.nv (ints r.x.nums)::numsS rs::F)):Sat w0 w (numsS (rs++[r])::F):=by
 rw [numsS_snoc];exact Sat.star.2 h
theorem numsS_ro (hr:r∈rs) (hk:r.x.key.length=32) (hn:0<r.x.nums.length):RVRo w0 (numsS rs::F) r:=by
 refine ⟨hk,fun w hw=>?_,hn⟩
 obtain ⟨G,hG⟩:=stars_mem (rs.map fun r=>osl 3 1 r.nv (ints r.x.nums)) _ (List.mem_map_of_mem hr)
 have h1:Sat w0 w (star (osl 3 1 r.nv (ints r.x.nums)) G::F):=by rw [← hG];exact hw
 exact Sat.rd (Sat.star.1 h1)
theorem nums3 {q:Nat}{a b c:Int} (h:Sat w0 w (pt q (.cells #[.int .i64 a,.int .i64 b,.int .i64 c] 3 (0,0))::F)):Sat w0 w (osl 3 1 (.slice (some ⟨q,0,none⟩) 3 3) (ints [a,b,c])::F):=
 Sat.osl_of_pt h rfl (Nat.le_refl _) (Nat.le_refl _) dCz rfl
theorem rvA_ones {k:Frm.Bs}{ns:List Int}{a:Option Addr}{n c:Nat}:(rvL ⟨⟨k,ns⟩,.slice a n c⟩).toArray.toList.all (·.oneCell')=true:=by
 rw [List.toList_toArray];unfold rvL;rw [List.all_append,bys_ones];rfl
set_option maxRecDepth 20000 in
theorem plainU_c (us:List Rep.Use) (hl:us.length≤65536) (hr:Ro w0 F (rdsl 3 lv (us.flatMap uenc))) (h:Sat w0 w F) :
  Calls Tryz.prog 128 #[lv,.func (.func 129) #[] #[]] w (Rtn fun v w'=>∃ rs:List RV,rs.map (·.x)=us.map Rep.useRw∧Sat w0 w' (osl 202 33 v (rs.flatMap rvL)::numsS rs::F)):=by
 obtain ⟨la,lc,rfl⟩:=osl_rows (fun u _=>uenc_len u) (hr w h) dCz
 have Hr:=uQ hr;have Hl:=uQ hl
 clear hr hl
 go_enter Tryz.func128,Tryz.ntmps128
 go_wp2_with fail
 go_loopg [5,10] us.length (fun g ov iq wr=>∃ (i:Nat) (rs:List RV) (o2:Value),g=us.length - i∧i≤us.length∧o2=ov∧iq = .int .i64 i∧(rs.map (·.x)=(us.take i).map Rep.useRw∧∀ r∈rs,r.x.key.length=32)∧Sat w0 wr (osl 202 33 o2 (rs.flatMap rvL)::numsS rs::F))
 case atStart=>exact ⟨0,[],_,rfl,Nat.zero_le _,rfl,rfl,⟨rfl,fun r hr=>by cases hr⟩,Sat.osl_nil.2 (Sat.emp.2 h)⟩
 case round=>
  obtain ⟨i,rs,ov,rfl,hi,rfl,rfl,hrs,hS⟩:=hrel
  clear h
  by_cases hlt:i<us.length
  ·as_aux_lemma=>
    have c3:(i:Int)<(us.length:Int):=oQ
    have hwi:IntKind.i64.wrap ((i:Int)+1)=(i:Int)+1:=IntWalk.i64_in _ (by have:=Hl.out;omega)
    obtain ⟨u,hx⟩:∃ u,us[i]?=some u:=⟨_,List.getElem?_eq_getElem hlt⟩
    obtain ⟨bk,off,c',hsv,hcell⟩:=osl_row (f:=uenc) (k:=3) (fun u _=>uenc_len u) (Hr.out _ hS.drop.drop) hx dCz
    cases hsv
    have Hlt:=uQ hlt;have Hrs:=uQ hrs
    have Htk:=uQ (show us.take (i+1)=us.take i++[u] from Bok.take_get hx)
    have Hln:=uQ (show (rs.flatMap rvL).length≤2147483648 from by
     rw [rows_len fun r hr=>rvL_len r (hrs.2 r hr)]
     have:=congrArg List.length hrs.1
     rw [List.length_map,List.length_map,List.length_take]at this
     have:=Hl.out
     omega)
    clear hx hlt hi hrs
    go_wp2_with (first
     |((with_reducible refine at_load ⟨?_⟩);refine wl_loadW (b:=bk) (o:=off+i * 3) (uenc u) rFz hcell Tryz.underlying121 rfl kRz ?_)
     |(with_reducible apply at_alloc))
    refine ⟨wl_alloc zUse hS rfl ?_⟩
    intro b8 w8 h8
    clear hS hcell
    go_wp2_with (with_reducible apply at_store)
    refine ⟨wl_storeA (uenc u).toArray h8 rFz rFz rFz upd0 kRz rFz ?_⟩
    intro w9 h9
    clear h8
    go_wp2_with ((with_reducible refine at_load ⟨?_⟩);refine wl_loadA h9 rFz pick0 Tryz.underlying121 rfl kRz ?_)
    refine (useRow_c u.seg u.size u.live h9).mono ?_
    rintro ee w10 ⟨v,rfl,q,rfl,h10⟩
    clear h9
    have h11:=nums3 h10
    clear h10
    go_wp2_with (first
     |((with_reducible refine at_build1 ⟨?_⟩);refine wl_build1 (e:=202) (sz:=33) (by':=56) (cs:=(rvL ⟨Rep.useRw u,.slice (some ⟨q,0,none⟩) 3 3⟩).toArray) kRz h11 rFz rfl (rvS ⟨Rep.useRw u,.slice (some ⟨q,0,none⟩) 3 3⟩ rfl) nLz ?_;intro bN wN hN)
     |(with_reducible apply at_append))
    refine ⟨wl_app (cs:=(rvL ⟨Rep.useRw u,.slice (some ⟨q,0,none⟩) 3 3⟩).toArray) 202 33 56 kRz hN rFz rFz (pick_there (pick_there (pick_there pick0))) pick0 (rvS ⟨Rep.useRw u,.slice (some ⟨q,0,none⟩) 3 3⟩ rfl) nLz rvA_ones Hln.out (by rw [rvS ⟨Rep.useRw u,.slice (some ⟨q,0,none⟩) 3 3⟩ rfl];decide) nLz rfl ?_⟩
    intro b' n' c2 w14 h14
    go_wp2_with fail
    go_roundg (us.length - (i+1))
    case measure=>have:=Hlt.out;omega
    case rel=>
     refine ⟨i+1,rs++[⟨Rep.useRw u,.slice (some ⟨q,0,none⟩) 3 3⟩],_,rfl,Nat.succ_le_of_lt Hlt.out,rfl,by first|rfl|go_num,⟨?_,?_⟩,?_⟩
     ·rw [List.map_append,Htk.out,List.map_append,Hrs.out.1];rfl
     ·intro r hr
      rcases List.mem_append.1 hr with hr|hr
      ·exact Hrs.out.2 r hr
      ·rw [List.mem_singleton.1 hr];exact rfl
     ·rw [List.flatMap_append,List.flatMap_cons,List.flatMap_nil,List.append_nil]
      have h15:Sat w0 w14 (osl 3 1 (.slice (some ⟨q,0,none⟩) 3 3) (ints (Rep.useRw u).nums)::numsS rs::osl 202 33 (.slice (some ⟨b',0,none⟩) n' c2) (rs.flatMap rvL++rvL ⟨Rep.useRw u,.slice (some ⟨q,0,none⟩) 3 3⟩)::F):=h14.sb
      exact (numsS_add (r:=⟨Rep.useRw u,.slice (some ⟨q,0,none⟩) 3 3⟩) h15).sb
  ·have c3:¬ (i:Int)<(us.length:Int):=by omega
   have hi2:i=us.length:=oQ
   subst hi2
   rw [List.take_length]at hrs
   clear hi hlt
   go_wp2_with fail
   go_ret
   exact ⟨_,rfl,rs,hrs.1,hS⟩
set_option maxRecDepth 20000 in
theorem plainI_c (us:List (Frm.Bs×Seg.Plc)) (hl:us.length≤65536) (hk:∀ q∈us,q.1.length=32) (hr:Ro w0 F (rdsl 35 lv (us.flatMap kvL))) (h:Sat w0 w F) :
  Calls Tryz.prog 124 #[lv,.func (.func 125) #[] #[]] w (Rtn fun v w'=>∃ rs:List RV,rs.map (·.x)=us.map Rep.idxRw∧Sat w0 w' (osl 202 33 v (rs.flatMap rvL)::numsS rs::F)):=by
 have Hk:=uQ hk
 clear hk
 obtain ⟨la,lc,rfl⟩:=osl_rows (fun u hu=>kvL_len u (Hk.out u hu)) (hr w h) dCz
 have Hr:=uQ hr;have Hl:=uQ hl
 clear hr hl
 go_enter Tryz.func124,Tryz.ntmps124
 go_wp2_with fail
 go_loopg [5,10] us.length (fun g ov iq wr=>∃ (i:Nat) (rs:List RV) (o2:Value),g=us.length - i∧i≤us.length∧o2=ov∧iq = .int .i64 i∧(rs.map (·.x)=(us.take i).map Rep.idxRw∧∀ r∈rs,r.x.key.length=32)∧Sat w0 wr (osl 202 33 o2 (rs.flatMap rvL)::numsS rs::F))
 case atStart=>exact ⟨0,[],_,rfl,Nat.zero_le _,rfl,rfl,⟨rfl,fun r hr=>by cases hr⟩,Sat.osl_nil.2 (Sat.emp.2 h)⟩
 case round=>
  obtain ⟨i,rs,ov,rfl,hi,rfl,rfl,hrs,hS⟩:=hrel
  clear h
  by_cases hlt:i<us.length
  ·as_aux_lemma=>
    have c3:(i:Int)<(us.length:Int):=oQ
    have hwi:IntKind.i64.wrap ((i:Int)+1)=(i:Int)+1:=IntWalk.i64_in _ (by have:=Hl.out;omega)
    obtain ⟨u,hx⟩:∃ u,us[i]?=some u:=⟨_,List.getElem?_eq_getElem hlt⟩
    obtain ⟨bk,off,c',hsv,hcell⟩:=osl_row (f:=kvL) (k:=35) (fun u hu=>kvL_len u (Hk.out u hu)) (Hr.out _ hS.drop.drop) hx dCz
    cases hsv
    have Hlt:=uQ hlt;have Hrs:=uQ hrs
    have Htk:=uQ (show us.take (i+1)=us.take i++[u] from Bok.take_get hx)
    have Hln:=uQ (show (rs.flatMap rvL).length≤2147483648 from by
     rw [rows_len fun r hr=>rvL_len r (hrs.2 r hr)]
     have:=congrArg List.length hrs.1
     rw [List.length_map,List.length_map,List.length_take]at this
     have:=Hl.out
     omega)
    have Hku:=uQ (Hk.out u (List.mem_of_getElem? hx))
    clear hx hlt hi hrs
    go_wp2_with (first
     |((with_reducible refine at_load ⟨?_⟩);refine wl_loadW (b:=bk) (o:=off+i * 35) (kvL u) rFz hcell Tryz.underlying149 rfl (by rw [kvL_len _ Hku.out];kernel_rfl) ?_)
     |(with_reducible apply at_alloc))
    refine ⟨wl_alloc zKv hS rfl ?_⟩
    intro b8 w8 h8
    clear hS hcell
    go_wp2_with (with_reducible apply at_store)
    refine ⟨wl_storeA (kvL u).toArray h8 rFz rFz (by rw [List.size_toArray,kvL_len _ Hku.out];rfl) upd0 (by rw [List.size_toArray,kvL_len _ Hku.out];kernel_rfl) (by rw [List.toList_toArray];exact kvL_ones u) ?_⟩
    intro w9 h9
    clear h8
    go_wp2_with ((with_reducible refine at_load ⟨?_⟩);refine wl_loadA h9 rFz pick0 Tryz.underlying149 rfl (by rw [List.size_toArray,kvL_len _ Hku.out];kernel_rfl) ?_)
    refine (idxRow_c u.1 Hku.out u.2.seg u.2.at_ u.2.size h9).mono ?_
    rintro ee w10 ⟨v,rfl,q,rfl,h10⟩
    clear h9
    have h11:=nums3 h10
    clear h10
    go_wp2_with (first
     |((with_reducible refine at_build1 ⟨?_⟩);refine wl_build1 (e:=202) (sz:=33) (by':=56) (cs:=(rvL ⟨Rep.idxRw u,.slice (some ⟨q,0,none⟩) 3 3⟩).toArray) kRz h11 rFz rfl (rvS ⟨Rep.idxRw u,.slice (some ⟨q,0,none⟩) 3 3⟩ Hku.out) nLz ?_;intro bN wN hN)
     |(with_reducible apply at_append))
    refine ⟨wl_app (cs:=(rvL ⟨Rep.idxRw u,.slice (some ⟨q,0,none⟩) 3 3⟩).toArray) 202 33 56 kRz hN rFz rFz (pick_there (pick_there (pick_there pick0))) pick0 (rvS ⟨Rep.idxRw u,.slice (some ⟨q,0,none⟩) 3 3⟩ Hku.out) nLz rvA_ones Hln.out (by rw [rvS ⟨Rep.idxRw u,.slice (some ⟨q,0,none⟩) 3 3⟩ Hku.out];decide) nLz rfl ?_⟩
    intro b' n' c2 w14 h14
    go_wp2_with fail
    go_roundg (us.length - (i+1))
    case measure=>have:=Hlt.out;omega
    case rel=>
     refine ⟨i+1,rs++[⟨Rep.idxRw u,.slice (some ⟨q,0,none⟩) 3 3⟩],_,rfl,Nat.succ_le_of_lt Hlt.out,rfl,by first|rfl|go_num,⟨?_,?_⟩,?_⟩
     ·rw [List.map_append,Htk.out,List.map_append,Hrs.out.1];rfl
     ·intro r hr
      rcases List.mem_append.1 hr with hr|hr
      ·exact Hrs.out.2 r hr
      ·rw [List.mem_singleton.1 hr];exact Hku.out
     ·rw [List.flatMap_append,List.flatMap_cons,List.flatMap_nil,List.append_nil]
      have h15:Sat w0 w14 (osl 3 1 (.slice (some ⟨q,0,none⟩) 3 3) (ints (Rep.idxRw u).nums)::numsS rs::osl 202 33 (.slice (some ⟨b',0,none⟩) n' c2) (rs.flatMap rvL++rvL ⟨Rep.idxRw u,.slice (some ⟨q,0,none⟩) 3 3⟩)::F):=h14.sb
      exact (numsS_add (r:=⟨Rep.idxRw u,.slice (some ⟨q,0,none⟩) 3 3⟩) h15).sb
  ·have c3:¬ (i:Int)<(us.length:Int):=by omega
   have hi2:i=us.length:=oQ
   subst hi2
   rw [List.take_length]at hrs
   clear hi hlt
   go_wp2_with fail
   go_ret
   exact ⟨_,rfl,rs,hrs.1,hS⟩
end
section
variable {P:Program}{w0 w:World}{F:List HProp}{ops:Array Oper}{rest:List Oper}{a:Act}{Q:Exit→Act→World→Prop}{dst:Option Tmp}{t ty:TypeId}{pos:String}{after:Array Edge}{x:Operand}{v vy:Value}
theorem at_sap (h:Stop (wpList P ops Q (⟨dst,.sliceToArrayPointer ty x,t,pos,after,none⟩::rest) a w)):wpList P ops Q (⟨dst,.sliceToArrayPointer ty x,t,pos,after,none⟩::rest) a w:=h.out
theorem wl_sap (hx:a.eval x=v) (hr:∀ w,(Instr.arrayAt ty v).run P w = .ok vy w) (h:wpList P ops Q rest (a.put dst vy) w):wpList P ops Q (⟨dst,.sliceToArrayPointer ty x,t,pos,after,none⟩::rest) a w:=
 wpList_plain rfl fun _ hK=>by
  unfold Oper.wp execOp
  simp only [hx,Sem.run_bind,hr,Result.andThen_ok,Sem.run_pure]
  exact hK _ _ h
theorem at_b0 (h:Stop (wpList P ops Q (⟨dst,.build ty #[],t,pos,after,none⟩::rest) a w)):wpList P ops Q (⟨dst,.build ty #[],t,pos,after,none⟩::rest) a w:=h.out
end
section
variable {w0 w:World}{F:List HProp}{rv lv bv:Value}{p:Nat}
theorem run_row0 (w:World):(Instr.build 202 #[]).run Tryz.prog w = .ok (.agg (rvL zeroRV).toArray) w:=by kernel_rfl
theorem put_key (k:Frm.Bs) (hk:k.length=32) (nv:Value):putsAt (rvL ⟨⟨Frm.zero32,[]⟩,nv⟩).toArray 0 (bys k)=(rvL ⟨⟨k,[]⟩,nv⟩).toArray:=by
 have hz:Frm.zero32.length=32:=rfl
 apply putsAt_eq
 rw [puts_putL _ _ _ (by rw [List.size_toArray,rvL_len _ hz,bys_len,hk];decide),List.toList_toArray]
 unfold rvL
 rw [putL_app2 _ _ _ _ (by rw [bys_len,bys_len,hk,hz];decide),putL_all (by rw [bys_len,bys_len,hk,hz])]
theorem put_nums (k:Frm.Bs) (hk:k.length=32) (ns ms:List Int) (nv mv:Value):putsAt (rvL ⟨⟨k,ns⟩,nv⟩).toArray 32 [mv]=(rvL ⟨⟨k,ms⟩,mv⟩).toArray:=by
 apply putsAt_eq
 rw [puts_putL _ _ _ (by rw [List.size_toArray,rvL_len _ hk];exact Nat.le_refl 33),List.toList_toArray]
 have h0:=putL_app (bys k) [nv] [mv] 0
 rw [bys_len,hk,putL_all (xs:=[nv]) (vs:=[mv]) rFz]at h0
 exact h0
abbrev rowPt (b:Nat) (k:Frm.Bs) (ns:List Int) (nv:Value):HProp:=pt b (.cells (rvL ⟨⟨k,ns⟩,nv⟩).toArray 202 (0,0))
abbrev kndPt (b:Nat) (mg:ByteArray) (kd:Bool) (k:Nat):HProp:=pt b (.cells (kndA mg kd k) 196 (0,0))
set_option maxRecDepth 20000 in
theorem krowsF_c (mgb:ByteArray) (k:Nat) (hk:k≤3) (rs:List Bok.Rw) (hok:∀ r∈rs,Bok.RwOk k r) (hn:rs.length≤65536) (hz:∀ r∈rs,r.key=Frm.zero32) (T:Frm.Bs) (hr:RS w0 F rv (Bok.rowsB false rs++T)) (h:Sat w0 w (rdrPt p rv::F)) :
  Calls Tryz.prog 189 #[.agg (kndA mgb false k),ptr p,.int .i64 rs.length] w (Rtn fun v w'=>∃ (vs:List RV) (rv':Value),vs.map (·.x)=rs∧RS w0 F rv' T∧Sat w0 w' (osl 202 33 v (vs.flatMap rvL)::numsS vs::rdrPt p rv'::F)):=by
 have Hr:=uQ hr;have Hok:=uQ hok;have Hn:=uQ hn;have Hk:=uQ hk;have Hz:=uQ hz
 clear hr hok hn hk hz
 go_enter Tryz.func189,Tryz.ntmps189
 go_wp2_with (with_reducible apply at_box)
 refine ⟨wl_box h rFz rFz ?_⟩
 intro b3 w3 h3
 replace h3:Sat w0 w3 (rdrPt p rv::kndPt b3 mgb false k::F):=h3.sb
 clear h
 go_wp2_with fail
 go_loopg [7,10] rs.length (fun g oq iq wr=>∃ (i:Nat) (vs:List RV) (ov rv1:Value),g=rs.length - i∧i≤rs.length∧ov=oq∧iq = .int .i64 i∧RS w0 F rv1 (Bok.rowsB false (rs.drop i)++T)∧(vs.map (·.x)=rs.take i∧∀ x∈vs,x.x.key.length=32) ∧
  Sat w0 wr (osl 202 33 ov (vs.flatMap rvL)::numsS vs::rdrPt p rv1::kndPt b3 mgb false k::F))
 case atStart=>exact ⟨0,[],_,rv,rfl,Nat.zero_le _,rfl,rfl,Hr.out,⟨rfl,fun r hr=>by cases hr⟩,Sat.osl_nil.2 (Sat.emp.2 h3)⟩
 case round=>
  obtain ⟨i,vs,ov,rv0,rfl,hi,rfl,rfl,hRS,hvs,hS⟩:=hrel
  clear h3
  by_cases hlt:i<rs.length
  ·as_aux_lemma=>
    have c3:(i:Int)<(rs.length:Int):=oQ
    have hwi:IntKind.i64.wrap ((i:Int)+1)=(i:Int)+1:=IntWalk.i64_in _ (by have:=Hn.out;omega)
    obtain ⟨r,hx⟩:∃ r,rs[i]?=some r:=⟨_,List.getElem?_eq_getElem hlt⟩
    have Hro:=uQ (Hok.out r (List.mem_of_getElem? hx))
    have Hkz:=uQ (Hz.out r (List.mem_of_getElem? hx))
    have Htk:=uQ (Bok.take_get hx)
    have Hlt:=uQ hlt;have Hvs:=uQ hvs
    have hlnO:=uQ (show (vs.flatMap rvL).length≤2147483648 from by
     rw [rows_len fun r hr=>rvL_len r (hvs.2 r hr)]
     have:=congrArg List.length hvs.1
     rw [List.length_map,List.length_take]at this
     have:=Hn.out
     omega)
    rw [Bok.rowsB_drop hx,List.append_assoc]at hRS
    obtain ⟨Y,hY⟩:∃ Y,Bok.rowsB false (rs.drop (i+1))++T=Y:=⟨_,rfl⟩
    rw [hY]at hRS
    have HY:=uQ hY
    clear hY
    have HRS:=uQ (show RS w0 F rv0 (Bok.numsB r.nums++Y) from by unfold Bok.rowB at hRS;exact hRS)
    clear hx hlt hi hvs hRS
    go_wp2_with (first
     |((with_reducible refine at_b0 ⟨?_⟩);refine wl_bld rFz run_row0 ?_)
     |(with_reducible apply at_alloc))
    refine ⟨wl_alloc zBRow hS rfl ?_⟩
    intro b8 w8 h8
    clear hS
    go_wp2_with (with_reducible apply at_store)
    refine ⟨wl_storeA (rvL zeroRV).toArray h8 rFz rFz rFz upd0 kRz rFz ?_⟩
    intro w9 h9
    clear h8
    have HR:=HRS
    have h10:Sat w0 w9 (rowPt b8 r.key (r.nums.take 0) (.slice none 0 0)::osl 3 1 (.slice none 0 0) (ints (r.nums.take 0))::rdrPt p rv0::kndPt b3 mgb false k::osl 202 33 ov (vs.flatMap rvL)::numsS vs::F):=by
     rw [List.take_zero,Hkz.out];exact (Sat.osl_nil.2 h9).sb
    clear h9
    have h9:=h10
    clear h10
    generalize rv0=rv1 at *
    go_wp2_with ((with_reducible refine at_load ⟨?_⟩);refine wl_load1 h9 rFz (pick_there (pick_there (pick_there pick0))) nLz evD kRz ?_)
    go_wp2_with ((with_reducible refine at_load ⟨?_⟩);refine wl_load1 h9 rFz (pick_there (pick_there (pick_there pick0))) nLz evD kRz ?_)
    go_loopg [22] k (fun g iq wr=>∃ (j:Nat) (nv rv2:Value),g=k - j∧j≤k∧iq = .int .i64 j∧RS w0 F rv2 (Bok.numsB (r.nums.drop j)++Y)∧Sat w0 wr (rowPt b8 r.key (r.nums.take j) nv::osl 3 1 nv (ints (r.nums.take j))::rdrPt p rv2::kndPt b3 mgb false k::osl 202 33 ov (vs.flatMap rvL)::numsS vs::F))
    case atStart=>exact ⟨0,_,rv1,rfl,Nat.zero_le _,rfl,HR.out,h9⟩
    case round=>
     obtain ⟨j,nv,rv2,rfl,hj,rfl,hRS,hSj⟩:=hrel
     clear h9
     by_cases hjl:j<k
     ·as_aux_lemma=>
      have c4:(j:Int)<(k:Int):=oQ
      have hwj:IntKind.i64.wrap ((j:Int)+1)=(j:Int)+1:=IntWalk.i64_in _ (by have:=Hk.out;omega)
      obtain ⟨n,hn⟩:∃ n,r.nums[j]?=some n:=⟨_,List.getElem?_eq_getElem (by rw [Hro.out.len];exact hjl)⟩
      have hnb:=Hro.out.num n (List.mem_of_getElem? hn)
      obtain ⟨x,rfl⟩:∃ x:Nat,n=(x:Int):=⟨n.toNat,by omega⟩
      have hdr:Bok.numsB (r.nums.drop j)=Frm.le x 4++Bok.numsB (r.nums.drop (j+1)):=by
       have:=Bok.numsB_drop hn
       rwa [Int.toNat_natCast]at this
      have Htk:=uQ (Bok.take_get hn)
      rw [hdr,List.append_assoc]at hRS
      have hnum:Frm.num ((Frm.le x 4++(Bok.numsB (r.nums.drop (j+1))++Y)).take 4)=x:=by
       rw [Bok.take_le]
       have:=Bok.num_back hnb
       rwa [Int.toNat_natCast]at this
      have hdrp:=Bok.drop_le x (Bok.numsB (r.nums.drop (j+1))++Y)
      have hw2:IntKind.i64.wrap (x:Int)=(x:Int):=IntWalk.i64_in _ oQ
      have hrn:=uQ (fun (w':World) (R:List HProp) (hr':RS w0 R rv2 (Frm.le x 4++(Bok.numsB (r.nums.drop (j+1))++Y))) (hw:Sat w0 w' (rdrPt p rv2::R))=>rnum4_c (by rw [List.length_append,Frm.le_len];omega) hr' hw)
      rw [hnum,hdrp]at hrn
      have HRS:=uQ hRS;have Hjl:=uQ hjl
      have hkey:=Hro.out.key
      have Hkey:=uQ hkey
      have Hsm:=uQ (show (r.nums.take j).length≤2147483648 from by rw [List.length_take];have:=Hk.out;omega)
      obtain ⟨na,nn,nc,rfl,hnl,_⟩:=Sat.rd (hSj.pick pick1)
      clear hn hnb hjl hj hdr hnum hdrp hkey hnl hRS
      go_wp2_with fail
      have h10:=hSj.drew
      clear hSj
      refine wpL_begin [6,7,8] (fun w'=>w'.cell? ⟨b8,32,none⟩=some (.slice na nn nc)) kRz ?_
      have HG:=uQ (fun (w':World) (R:List HProp) (hw:Sat w0 w' (rowPt b8 r.key (r.nums.take j) (.slice na nn nc)::R))=>show w'.cell? ⟨b8,32,none⟩=some (.slice na nn nc) from hw.cellP pick0 32 (rw_nums (x:=⟨r.key,r.nums.take j⟩) Hkey.out))
      have hG:=HG.out _ _ h10
      refine rP 0 ?_ (y:=flQ)
      refine rt 1 (h:=?_)
      clear hG
      refine rP 2 ?_ (y:=mvQ)
      refine rg_eff 3 evD kRz (fun K hK=>?_)
      (refine eff_call2 kRz evD evD ?_)
      refine (hrn.out _ _ (HRS.out.more sbD) (h10.sb:Sat w0 _ (rdrPt p rv2::rowPt b8 r.key (r.nums.take j) (.slice na nn nc)::osl 3 1 (.slice na nn nc) (ints (r.nums.take j))::kndPt b3 mgb false k::osl 202 33 ov (vs.flatMap rvL)::numsS vs::F))).mono ?_
      rintro ee w11 ⟨v,rfl,rv3,rfl,hrs3,h11⟩
      refine hK _ _ (.inr (.inl (HG.out _ _ (h11.sb)))) ?_
      have HRS3:=uQ (hrs3 _ HRS.out)
      clear hK h10 hrn hrs3 HRS
      refine rP 4 ?_ (y:=(yl_conv evD rnD))
      refine rg_eff 5 evD kRz (fun K hK=>?_)
      refine eff_build1 (e:=3) (sz:=1) (by':=8) kRz h11 evD (cs:=#[.int .i64 (x:Int)]) rfl rfl dCz ?_
      intro bN w12 h12
      refine hK _ _ (.inr (.inl (HG.out _ _ (h12.sb)))) ?_
      clear hK h11
      refine rg_eff 6 evD kRz (fun K hK=>?_)
      refine eff_app 3 1 8 kRz h12 evD evD (by first|exact pick_there (pick_there (pick_there pick0))) pick0 rfl (Nat.le_refl 1) rfl (by unfold ints;rw [List.length_map];exact Hsm.out) nLz nLz (ys:=ints [(x:Int)]) rfl ?_
      intro b' n' c' w13 h13
      refine hK _ _ (.inl rfl) ?_
      clear hK h12
      refine rP 7 ?_ (y:=flQ)
      refine rg_eff 8 evD kRz (fun K hK=>?_)
      refine eff_store (cs':=(rvL ⟨⟨r.key,r.nums.take (j+1)⟩,.slice (some ⟨b',0,none⟩) n' c'⟩).toArray) (h13.sb:Sat w0 w13 (rowPt b8 r.key (r.nums.take j) (.slice na nn nc)::osl 3 1 (.slice (some ⟨b',0,none⟩) n' c') (ints (r.nums.take j)++ints [(x:Int)])::rdrPt p rv3::kndPt b3 mgb false k::osl 202 33 ov (vs.flatMap rvL)::numsS vs::F)) evD evD (put_nums r.key Hkey.out _ _ _ _) upd0 (by show 32+1≤_;rw [rvS _ Hkey.out];decide) kRz rFz ?_
      intro w14 h14
      refine hK _ _ (.inl rfl) ?_
      clear hK h13
      refine wpL_done kRz ?_
      go_wp2_with fail
      go_roundg (k - (j+1))
      case measure=>have:=Hjl.out;omega
      case rel=>exact ⟨j+1,_,rv3,rfl,Nat.succ_le_of_lt Hjl.out,by first|rfl|go_num,HRS3.out,by rw [Htk.out,show ints (r.nums.take j++[(x:Int)])=ints (r.nums.take j)++ints [(x:Int)] from List.map_append ..];rw [← Htk.out];exact h14⟩
     ·as_aux_lemma=>
      have c4:¬ (j:Int)<(k:Int):=oQ
      obtain rfl:j=k:=by omega
      have hln:=Hro.out.len
      have e1:r.nums.drop j=[]:=List.drop_of_length_le oQ
      have e2:r.nums.take j=r.nums:=List.take_of_length_le oQ
      rw [e1]at hRS
      rw [e2]at hSj
      have HRS:=uQ (show RS w0 F rv2 Y from hRS)
      have Hkey:=uQ Hro.out.key
      have Hln:=uQ hlnO.out
      obtain ⟨na,nn,nc,rfl,_,_⟩:=Sat.rd (hSj.pick pick1)
      clear hj hjl hRS hln e1 e2
      go_wp2_with (first
       |((with_reducible refine at_load ⟨?_⟩);refine wl_loadA hSj rFz pick0 Tryz.underlying202 rfl (by rw [rvS _ Hkey.out];kernel_rfl) ?_)
       |((with_reducible refine at_build1 ⟨?_⟩);refine wl_build1 (e:=202) (sz:=33) (by':=56) (cs:=(rvL ⟨r,.slice na nn nc⟩).toArray) kRz hSj rFz rfl (rvS ⟨r,.slice na nn nc⟩ Hkey.out) nLz ?_;intro bN wN hN)
       |(with_reducible apply at_append))
      refine ⟨wl_app (cs:=(rvL ⟨r,.slice na nn nc⟩).toArray) 202 33 56 kRz hN rFz rFz (pick_there (pick_there (pick_there (pick_there (pick_there pick0))))) pick0 (rvS ⟨r,.slice na nn nc⟩ Hkey.out) nLz rvA_ones Hln.out (by rw [rvS ⟨r,.slice na nn nc⟩ Hkey.out];decide) nLz rfl ?_⟩
      intro b' n' c2 w14 h14
      clear hSj hN
      go_wp2_with fail
      go_roundg (rs.length - (i+1))
      case measure=>have:=Hlt.out;omega
      case rel=>
       refine ⟨i+1,vs++[⟨r,.slice na nn nc⟩],_,rv2,rfl,Nat.succ_le_of_lt Hlt.out,rfl,by first|rfl|go_num,by rw [HY.out];exact HRS.out,⟨?_,?_⟩,?_⟩
       ·rw [List.map_append,Htk.out,Hvs.out.1];rfl
       ·intro x hx
        rcases List.mem_append.1 hx with hx|hx
        ·exact Hvs.out.2 x hx
        ·rw [List.mem_singleton.1 hx];exact Hkey.out
       ·rw [List.flatMap_append,List.flatMap_cons,List.flatMap_nil,List.append_nil]
        have h15:Sat w0 w14 (osl 3 1 (.slice na nn nc) (ints r.nums)::numsS vs::osl 202 33 (.slice (some ⟨b',0,none⟩) n' c2) (vs.flatMap rvL++rvL ⟨r,.slice na nn nc⟩)::rdrPt p rv2::kndPt b3 mgb false j::F):=h14.sb
        exact (numsS_add (r:=⟨r,.slice na nn nc⟩) h15).sb
  ·as_aux_lemma=>
   have c3:¬ (i:Int)<(rs.length:Int):=oQ
   obtain rfl:i=rs.length:=by omega
   rw [List.drop_length]at hRS
   rw [List.take_length]at hvs
   have HRS:=uQ (show RS w0 F rv0 T from hRS)
   have Hvs:=uQ hvs.1
   clear hi hlt hRS hvs
   go_wp2_with fail
   go_ret
   exact ⟨_,rfl,vs,Hvs.out,rv0,HRS.out,hS.sb⟩
set_option maxRecDepth 20000 in
theorem krowsT_c (mgb:ByteArray) (k:Nat) (hk:k≤3) (rs:List Bok.Rw) (hok:∀ r∈rs,Bok.RwOk k r) (hn:rs.length≤65536) (T:Frm.Bs) (hr:RS w0 F rv (Bok.rowsB true rs++T)) (h:Sat w0 w (rdrPt p rv::F)) :
  Calls Tryz.prog 189 #[.agg (kndA mgb true k),ptr p,.int .i64 rs.length] w (Rtn fun v w'=>∃ (vs:List RV) (rv':Value),vs.map (·.x)=rs∧RS w0 F rv' T∧Sat w0 w' (osl 202 33 v (vs.flatMap rvL)::numsS vs::rdrPt p rv'::F)):=by
 have Hr:=uQ hr;have Hok:=uQ hok;have Hn:=uQ hn;have Hk:=uQ hk
 clear hr hok hn hk
 go_enter Tryz.func189,Tryz.ntmps189
 go_wp2_with (with_reducible apply at_box)
 refine ⟨wl_box h rFz rFz ?_⟩
 intro b3 w3 h3
 replace h3:Sat w0 w3 (rdrPt p rv::kndPt b3 mgb true k::F):=h3.sb
 clear h
 go_wp2_with fail
 go_loopg [7,10] rs.length (fun g oq iq wr=>∃ (i:Nat) (vs:List RV) (ov rv1:Value),g=rs.length - i∧i≤rs.length∧ov=oq∧iq = .int .i64 i∧RS w0 F rv1 (Bok.rowsB true (rs.drop i)++T)∧(vs.map (·.x)=rs.take i∧∀ x∈vs,x.x.key.length=32) ∧
  Sat w0 wr (osl 202 33 ov (vs.flatMap rvL)::numsS vs::rdrPt p rv1::kndPt b3 mgb true k::F))
 case atStart=>exact ⟨0,[],_,rv,rfl,Nat.zero_le _,rfl,rfl,Hr.out,⟨rfl,fun r hr=>by cases hr⟩,Sat.osl_nil.2 (Sat.emp.2 h3)⟩
 case round=>
  obtain ⟨i,vs,ov,rv0,rfl,hi,rfl,rfl,hRS,hvs,hS⟩:=hrel
  clear h3
  by_cases hlt:i<rs.length
  ·as_aux_lemma=>
    have c3:(i:Int)<(rs.length:Int):=oQ
    have hwi:IntKind.i64.wrap ((i:Int)+1)=(i:Int)+1:=IntWalk.i64_in _ (by have:=Hn.out;omega)
    obtain ⟨r,hx⟩:∃ r,rs[i]?=some r:=⟨_,List.getElem?_eq_getElem hlt⟩
    have Hro:=uQ (Hok.out r (List.mem_of_getElem? hx))
    have Htk:=uQ (Bok.take_get hx)
    have Hlt:=uQ hlt;have Hvs:=uQ hvs
    have hlnO:=uQ (show (vs.flatMap rvL).length≤2147483648 from by
     rw [rows_len fun r hr=>rvL_len r (hvs.2 r hr)]
     have:=congrArg List.length hvs.1
     rw [List.length_map,List.length_take]at this
     have:=Hn.out
     omega)
    rw [Bok.rowsB_drop hx,List.append_assoc]at hRS
    obtain ⟨Y,hY⟩:∃ Y,Bok.rowsB true (rs.drop (i+1))++T=Y:=⟨_,rfl⟩
    rw [hY]at hRS
    have HY:=uQ hY
    clear hY
    have HRS:=uQ (show RS w0 F rv0 (r.key++(Bok.numsB r.nums++Y)) from by unfold Bok.rowB at hRS;rw [if_pos rfl,List.append_assoc]at hRS;exact hRS)
    clear hx hlt hi hvs hRS
    go_wp2_with (first
     |((with_reducible refine at_b0 ⟨?_⟩);refine wl_bld rFz run_row0 ?_)
     |(with_reducible apply at_alloc))
    refine ⟨wl_alloc zBRow hS rfl ?_⟩
    intro b8 w8 h8
    clear hS
    go_wp2_with (with_reducible apply at_store)
    refine ⟨wl_storeA (rvL zeroRV).toArray h8 rFz rFz rFz upd0 kRz rFz ?_⟩
    intro w9 h9
    clear h8
    have hby:=rbytes_c1 (F:=rowPt b8 Frm.zero32 [] (.slice none 0 0)::osl 202 33 ov (vs.flatMap rvL)::numsS vs::kndPt b3 mgb true k::F) (by rw [List.length_append,Hro.out.key];omega) (HRS.out.more sbD) (h9.sb:Sat w0 w9 (rdrPt p rv0::rowPt b8 Frm.zero32 [] (.slice none 0 0)::osl 202 33 ov (vs.flatMap rvL)::numsS vs::kndPt b3 mgb true k::F))
    have hkt:(r.key++(Bok.numsB r.nums++Y)).take 32=r.key:=List.take_left' Hro.out.key
    have hkd:(r.key++(Bok.numsB r.nums++Y)).drop 32=Bok.numsB r.nums++Y:=List.drop_left' Hro.out.key
    rw [hkt,hkd]at hby
    clear hkt hkd
    go_wp2_with ((with_reducible refine at_load ⟨?_⟩);refine wl_load1 h9 rFz (pick_there (pick_there (pick_there (pick_there pick0)))) nLz evD kRz ?_)
    refine hby.mono ?_
    rintro ee w10 ⟨v,rfl,rv1,hrs1,_,h10⟩
    have HR:=uQ (hrs1 _ HRS.out)
    have Hkey:=uQ Hro.out.key
    clear hby h9 hrs1 HRS
    obtain ⟨a1,n1,c1,rfl,hn1,hc1,hl1⟩:=bsl_cap' h10
    rw [Hkey.out]at hl1
    subst hl1
    obtain ⟨bk,off,rfl,hcell⟩:=rdsl_cells (Sat.rd h10) (i:=0) (bys_get.2 ⟨r.key[0]'(by rw [Hkey.out];decide),List.getElem?_eq_getElem _,rfl⟩)
    have hap:∀ w,(Instr.arrayAt 24 (.slice (some ⟨bk,off,none⟩) 32 c1)).run Tryz.prog w = .ok (.pointer (some ⟨bk,off,none⟩)) w:=fun w=>by
     unfold Instr.arrayAt
     simp only [Sem.run_bind,run_underlying Tryz.underlying24,Result.andThen_ok]
     rfl
    go_wp2_with (first
     |((with_reducible refine at_sap ⟨?_⟩);refine wl_sap rFz hap ?_)
     |((with_reducible refine at_load ⟨?_⟩);refine wl_loadW (b:=bk) (o:=off) (bys r.key) rFz hcell Tryz.underlying24 rfl (by rw [bys_len,Hkey.out];kernel_rfl) ?_)
     |(with_reducible apply at_store))
    refine ⟨wl_store (cs':=(rvL ⟨⟨r.key,[]⟩,.slice none 0 0⟩).toArray) (h10.sb:Sat w0 w10 (rowPt b8 Frm.zero32 [] (.slice none 0 0)::rdrPt p rv1::kndPt b3 mgb true k::osl 202 33 ov (vs.flatMap rvL)::numsS vs::F)) rFz rFz (put_key r.key Hkey.out _) upd0 (by show 0+(bys r.key).toArray.size≤_;rw [List.size_toArray,bys_len,Hkey.out];decide) (by show _=some (bys r.key).toArray.size;rw [List.size_toArray,bys_len,Hkey.out];kernel_rfl) (by show (bys r.key).toArray.toList.all _=true;rw [List.toList_toArray,bys_ones]) ?_⟩
    intro w11 h11
    clear h10 hcell hap
    have h9:Sat w0 w11 (rowPt b8 r.key (r.nums.take 0) (.slice none 0 0)::osl 3 1 (.slice none 0 0) (ints (r.nums.take 0))::rdrPt p rv1::kndPt b3 mgb true k::osl 202 33 ov (vs.flatMap rvL)::numsS vs::F):=by
     rw [List.take_zero];exact (Sat.osl_nil.2 h11).sb
    clear h11
    go_wp2_with ((with_reducible refine at_load ⟨?_⟩);refine wl_load1 h9 rFz (pick_there (pick_there (pick_there pick0))) nLz evD kRz ?_)
    go_loopg [22] k (fun g iq wr=>∃ (j:Nat) (nv rv2:Value),g=k - j∧j≤k∧iq = .int .i64 j∧RS w0 F rv2 (Bok.numsB (r.nums.drop j)++Y)∧Sat w0 wr (rowPt b8 r.key (r.nums.take j) nv::osl 3 1 nv (ints (r.nums.take j))::rdrPt p rv2::kndPt b3 mgb true k::osl 202 33 ov (vs.flatMap rvL)::numsS vs::F))
    case atStart=>exact ⟨0,_,rv1,rfl,Nat.zero_le _,rfl,HR.out,h9⟩
    case round=>
     obtain ⟨j,nv,rv2,rfl,hj,rfl,hRS,hSj⟩:=hrel
     clear h9
     by_cases hjl:j<k
     ·as_aux_lemma=>
      have c4:(j:Int)<(k:Int):=oQ
      have hwj:IntKind.i64.wrap ((j:Int)+1)=(j:Int)+1:=IntWalk.i64_in _ (by have:=Hk.out;omega)
      obtain ⟨n,hn⟩:∃ n,r.nums[j]?=some n:=⟨_,List.getElem?_eq_getElem (by rw [Hro.out.len];exact hjl)⟩
      have hnb:=Hro.out.num n (List.mem_of_getElem? hn)
      obtain ⟨x,rfl⟩:∃ x:Nat,n=(x:Int):=⟨n.toNat,by omega⟩
      have hdr:Bok.numsB (r.nums.drop j)=Frm.le x 4++Bok.numsB (r.nums.drop (j+1)):=by
       have:=Bok.numsB_drop hn
       rwa [Int.toNat_natCast]at this
      have Htk:=uQ (Bok.take_get hn)
      rw [hdr,List.append_assoc]at hRS
      have hnum:Frm.num ((Frm.le x 4++(Bok.numsB (r.nums.drop (j+1))++Y)).take 4)=x:=by
       rw [Bok.take_le]
       have:=Bok.num_back hnb
       rwa [Int.toNat_natCast]at this
      have hdrp:=Bok.drop_le x (Bok.numsB (r.nums.drop (j+1))++Y)
      have hw2:IntKind.i64.wrap (x:Int)=(x:Int):=IntWalk.i64_in _ oQ
      have hrn:=uQ (fun (w':World) (R:List HProp) (hr':RS w0 R rv2 (Frm.le x 4++(Bok.numsB (r.nums.drop (j+1))++Y))) (hw:Sat w0 w' (rdrPt p rv2::R))=>rnum4_c (by rw [List.length_append,Frm.le_len];omega) hr' hw)
      rw [hnum,hdrp]at hrn
      have HRS:=uQ hRS;have Hjl:=uQ hjl
      have hkey:=Hro.out.key
      have Hkey:=uQ hkey
      have Hsm:=uQ (show (r.nums.take j).length≤2147483648 from by rw [List.length_take];have:=Hk.out;omega)
      obtain ⟨na,nn,nc,rfl,hnl,_⟩:=Sat.rd (hSj.pick pick1)
      clear hn hnb hjl hj hdr hnum hdrp hkey hnl hRS
      go_wp2_with fail
      have h10:=hSj.drew
      clear hSj
      refine wpL_begin [6,7,8] (fun w'=>w'.cell? ⟨b8,32,none⟩=some (.slice na nn nc)) kRz ?_
      have HG:=uQ (fun (w':World) (R:List HProp) (hw:Sat w0 w' (rowPt b8 r.key (r.nums.take j) (.slice na nn nc)::R))=>show w'.cell? ⟨b8,32,none⟩=some (.slice na nn nc) from hw.cellP pick0 32 (rw_nums (x:=⟨r.key,r.nums.take j⟩) Hkey.out))
      have hG:=HG.out _ _ h10
      refine rP 0 ?_ (y:=flQ)
      refine rt 1 (h:=?_)
      clear hG
      refine rP 2 ?_ (y:=mvQ)
      refine rg_eff 3 evD kRz (fun K hK=>?_)
      (refine eff_call2 kRz evD evD ?_)
      refine (hrn.out _ _ (HRS.out.more sbD) (h10.sb:Sat w0 _ (rdrPt p rv2::rowPt b8 r.key (r.nums.take j) (.slice na nn nc)::osl 3 1 (.slice na nn nc) (ints (r.nums.take j))::kndPt b3 mgb true k::osl 202 33 ov (vs.flatMap rvL)::numsS vs::F))).mono ?_
      rintro ee w11 ⟨v,rfl,rv3,rfl,hrs3,h11⟩
      refine hK _ _ (.inr (.inl (HG.out _ _ (h11.sb)))) ?_
      have HRS3:=uQ (hrs3 _ HRS.out)
      clear hK h10 hrn hrs3 HRS
      refine rP 4 ?_ (y:=(yl_conv evD rnD))
      refine rg_eff 5 evD kRz (fun K hK=>?_)
      refine eff_build1 (e:=3) (sz:=1) (by':=8) kRz h11 evD (cs:=#[.int .i64 (x:Int)]) rfl rfl dCz ?_
      intro bN w12 h12
      refine hK _ _ (.inr (.inl (HG.out _ _ (h12.sb)))) ?_
      clear hK h11
      refine rg_eff 6 evD kRz (fun K hK=>?_)
      refine eff_app 3 1 8 kRz h12 evD evD (by first|exact pick_there (pick_there (pick_there pick0))) pick0 rfl (Nat.le_refl 1) rfl (by unfold ints;rw [List.length_map];exact Hsm.out) nLz nLz (ys:=ints [(x:Int)]) rfl ?_
      intro b' n' c' w13 h13
      refine hK _ _ (.inl rfl) ?_
      clear hK h12
      refine rP 7 ?_ (y:=flQ)
      refine rg_eff 8 evD kRz (fun K hK=>?_)
      refine eff_store (cs':=(rvL ⟨⟨r.key,r.nums.take (j+1)⟩,.slice (some ⟨b',0,none⟩) n' c'⟩).toArray) (h13.sb:Sat w0 w13 (rowPt b8 r.key (r.nums.take j) (.slice na nn nc)::osl 3 1 (.slice (some ⟨b',0,none⟩) n' c') (ints (r.nums.take j)++ints [(x:Int)])::rdrPt p rv3::kndPt b3 mgb true k::osl 202 33 ov (vs.flatMap rvL)::numsS vs::F)) evD evD (put_nums r.key Hkey.out _ _ _ _) upd0 (by show 32+1≤_;rw [rvS _ Hkey.out];decide) kRz rFz ?_
      intro w14 h14
      refine hK _ _ (.inl rfl) ?_
      clear hK h13
      refine wpL_done kRz ?_
      go_wp2_with fail
      go_roundg (k - (j+1))
      case measure=>have:=Hjl.out;omega
      case rel=>exact ⟨j+1,_,rv3,rfl,Nat.succ_le_of_lt Hjl.out,by first|rfl|go_num,HRS3.out,by rw [Htk.out,show ints (r.nums.take j++[(x:Int)])=ints (r.nums.take j)++ints [(x:Int)] from List.map_append ..];rw [← Htk.out];exact h14⟩
     ·as_aux_lemma=>
      have c4:¬ (j:Int)<(k:Int):=oQ
      obtain rfl:j=k:=by omega
      have hln:=Hro.out.len
      have e1:r.nums.drop j=[]:=List.drop_of_length_le oQ
      have e2:r.nums.take j=r.nums:=List.take_of_length_le oQ
      rw [e1]at hRS
      rw [e2]at hSj
      have HRS:=uQ (show RS w0 F rv2 Y from hRS)
      have Hkey:=uQ Hro.out.key
      have Hln:=uQ hlnO.out
      obtain ⟨na,nn,nc,rfl,_,_⟩:=Sat.rd (hSj.pick pick1)
      clear hj hjl hRS hln e1 e2
      go_wp2_with (first
       |((with_reducible refine at_load ⟨?_⟩);refine wl_loadA hSj rFz pick0 Tryz.underlying202 rfl (by rw [rvS _ Hkey.out];kernel_rfl) ?_)
       |((with_reducible refine at_build1 ⟨?_⟩);refine wl_build1 (e:=202) (sz:=33) (by':=56) (cs:=(rvL ⟨r,.slice na nn nc⟩).toArray) kRz hSj rFz rfl (rvS ⟨r,.slice na nn nc⟩ Hkey.out) nLz ?_;intro bN wN hN)
       |(with_reducible apply at_append))
      refine ⟨wl_app (cs:=(rvL ⟨r,.slice na nn nc⟩).toArray) 202 33 56 kRz hN rFz rFz (pick_there (pick_there (pick_there (pick_there (pick_there pick0))))) pick0 (rvS ⟨r,.slice na nn nc⟩ Hkey.out) nLz rvA_ones Hln.out (by rw [rvS ⟨r,.slice na nn nc⟩ Hkey.out];decide) nLz rfl ?_⟩
      intro b' n' c2 w14 h14
      clear hSj hN
      go_wp2_with fail
      go_roundg (rs.length - (i+1))
      case measure=>have:=Hlt.out;omega
      case rel=>
       refine ⟨i+1,vs++[⟨r,.slice na nn nc⟩],_,rv2,rfl,Nat.succ_le_of_lt Hlt.out,rfl,by first|rfl|go_num,by rw [HY.out];exact HRS.out,⟨?_,?_⟩,?_⟩
       ·rw [List.map_append,Htk.out,Hvs.out.1];rfl
       ·intro x hx
        rcases List.mem_append.1 hx with hx|hx
        ·exact Hvs.out.2 x hx
        ·rw [List.mem_singleton.1 hx];exact Hkey.out
       ·rw [List.flatMap_append,List.flatMap_cons,List.flatMap_nil,List.append_nil]
        have h15:Sat w0 w14 (osl 3 1 (.slice na nn nc) (ints r.nums)::numsS vs::osl 202 33 (.slice (some ⟨b',0,none⟩) n' c2) (vs.flatMap rvL++rvL ⟨r,.slice na nn nc⟩)::rdrPt p rv2::kndPt b3 mgb true j::F):=h14.sb
        exact (numsS_add (r:=⟨r,.slice na nn nc⟩) h15).sb
  ·as_aux_lemma=>
   have c3:¬ (i:Int)<(rs.length:Int):=oQ
   obtain rfl:i=rs.length:=by omega
   rw [List.drop_length]at hRS
   rw [List.take_length]at hvs
   have HRS:=uQ (show RS w0 F rv0 T from hRS)
   have Hvs:=uQ hvs.1
   clear hi hlt hRS hvs
   go_wp2_with fail
   go_ret
   exact ⟨_,rfl,vs,Hvs.out,rv0,HRS.out,hS.sb⟩
end
end Go.Proofs.YtlinnpehkfbnkaaGreatDoor
namespace Go.Bok
open Go.Frm (Bs le num le_len num_le)
variable {X:Bs→Nat}{mg:Bs}{kd:Bool}{l:List Rw}{k:Nat}
theorem book_eq:book X mg kd l=mg++(le l.length 4++(rowsB kd l++le (X (body mg kd l)) 8)):=by
 unfold book body
 simp only [List.append_assoc]
theorem body_take (hm:mg.length=8) (h:∀ r∈l,RwOk k r):(book X mg kd l).take (12+l.length * rowSz kd k)=body mg kd l:=by
 unfold book
 exact List.take_left' (body_len hm h)
theorem num4 {n:Nat} (h:n≤65536) (t:Bs):num ((le n 4++t).take 4)=n:=by
 rw [take_le]
 exact num_le 4 n (Nat.lt_of_le_of_lt h dCz)
theorem num8 {n:Nat} (h:n<18446744073709551616):num ((le n 8).take 8)=n:=by
 rw [List.take_of_length_le (by rw [le_len];exact Nat.le_refl _)]
 exact num_le 8 n (Nat.lt_of_lt_of_le h dCz)
end Go.Bok
namespace Go.Proofs.YtlinnpehkfbnkaaGreatDoor
open Go Go.Sl Go.Med Go.MapKept Go.RowKit
section
variable {P:Program}{w:World}{ops:Array Oper}{a:Act}{dst:Option Tmp}{t ty:TypeId}{pos:String}{after:Array Edge}{x y:Operand}{v vx vy:Value}
theorem yl_slice_hi (hx:a.eval x=vx) (hy:a.eval y=vy) (hr:∀ w,(Instr.sliceAt ty vx none (some vy) none).run P w = .ok v w):Yields P ops ⟨dst,.slice ty x none (some y) none,t,pos,after,none⟩ v a:=
 .inl ⟨want_none _ rfl,fun w=>by simp only [execOp,hx,hy,Option.map_some,Option.map_none,Sem.run_bind,hr,Result.andThen_ok,Sem.run_pure]⟩
end
section
variable {w0 w:World}{F:List HProp}{rv lv bv:Value}{p:Nat}
theorem str_self (b:ByteArray) (l:Frm.Bs) (h:b.data.toList=l):(⟨l.toArray⟩:ByteArray)=b:=by
 apply ByteArray.ext
 rw [← h]
theorem buses_c (us:List Rep.Use) (hok:Bok.Ok 3 false (us.map Rep.useRw)) (hr:Ro w0 F (rdsl 3 lv (us.flatMap uenc))) (h:Sat w0 w F) :
  Calls Tryz.prog 63 #[lv] w (Rtn fun v w'=>∃ bv,v = .tuple #[bv,errno 0]∧Sat w0 w' (abl bv (Bok.book Xx.sum Bok.mgUse false (us.map Rep.useRw))::F)):=by
 have hn:us.length≤65536:=by have:=hok.len;rwa [List.length_map]at this
 skip
 obtain ⟨la,lc,rfl⟩:=osl_rows (fun u _=>uenc_len u) (hr w h) dCz
 have c1:¬ (65536:Int)<(us.length:Int):=oQ
 have Hr:=uQ hr;have Hok:=uQ hok;have Hn:=uQ hn
 clear hr hok hn
 go_enter Tryz.func63,Tryz.ntmps63
 go_wp2_with fail
 refine (uses_c h).mono ?_
 rintro ee w1 ⟨v,rfl,rfl,h1⟩
 clear h
 go_wp2_with fail
 refine (plainU_c us Hn.out Hr.out h1).mono ?_
 rintro ee w2 ⟨ov,rfl,rs,hrs,h2⟩
 clear h1
 have Hrs:=uQ hrs
 have hkey:∀ r∈rs,r.x.key.length=32∧0<r.x.nums.length:=fun r hr=>by
  have h1:r.x∈us.map Rep.useRw:=by rw [← hrs];exact List.mem_map_of_mem hr
  have:=Hok.out.row r.x h1
  exact ⟨this.key,by rw [this.len];decide⟩
 have Hkey:=uQ hkey
 clear hrs hkey
 go_wp2_with fail
 refine (bwrite_c ⟨#[72,79,65,82,68,85,83,69]⟩ Bok.mgUse rfl rfl false 3 dCz rs (by rw [Hrs.out];exact Hok.out) (fun w hw=>Sat.rd hw) (fun r hr=>(numsS_ro hr (Hkey.out r hr).1 (Hkey.out r hr).2).sub sbD) h2).mono ?_
 rintro ee w3 ⟨v,rfl,bv,rfl,h3⟩
 rw [Hrs.out]at h3
 clear h2
 go_wp2_with fail
 go_ret2
 exact ⟨_,rfl,bv,rfl,h3.sb⟩
theorem bindex_c (us:List (Frm.Bs×Seg.Plc)) (hk:∀ q∈us,q.1.length=32) (hok:Bok.Ok 3 true (us.map Rep.idxRw)) (hr:Ro w0 F (rdsl 35 lv (us.flatMap kvL))) (h:Sat w0 w F) :
  Calls Tryz.prog 61 #[lv] w (Rtn fun v w'=>∃ bv,v = .tuple #[bv,errno 0]∧Sat w0 w' (abl bv (Bok.book Xx.sum Bok.mgIdx true (us.map Rep.idxRw))::F)):=by
 have hn:us.length≤65536:=by have:=hok.len;rwa [List.length_map]at this
 have Hk:=uQ hk
 obtain ⟨la,lc,rfl⟩:=osl_rows (fun u hu=>kvL_len u (Hk.out u hu)) (hr w h) dCz
 have c1:¬ (65536:Int)<(us.length:Int):=oQ
 have Hr:=uQ hr;have Hok:=uQ hok;have Hn:=uQ hn
 clear hr hok hn
 go_enter Tryz.func61,Tryz.ntmps61
 go_wp2_with fail
 refine (index_c h).mono ?_
 rintro ee w1 ⟨v,rfl,rfl,h1⟩
 clear h
 go_wp2_with fail
 refine (plainI_c us Hn.out Hk.out Hr.out h1).mono ?_
 rintro ee w2 ⟨ov,rfl,rs,hrs,h2⟩
 clear h1
 have Hrs:=uQ hrs
 have hkey:∀ r∈rs,r.x.key.length=32∧0<r.x.nums.length:=fun r hr=>by
  have h1:r.x∈us.map Rep.idxRw:=by rw [← hrs];exact List.mem_map_of_mem hr
  have:=Hok.out.row r.x h1
  exact ⟨this.key,by rw [this.len];decide⟩
 have Hkey:=uQ hkey
 clear hrs hkey
 go_wp2_with fail
 refine (bwrite_c ⟨#[72,79,65,82,68,73,68,88]⟩ Bok.mgIdx rfl rfl true 3 dCz rs (by rw [Hrs.out];exact Hok.out) (fun w hw=>Sat.rd hw) (fun r hr=>(numsS_ro hr (Hkey.out r hr).1 (Hkey.out r hr).2).sub sbD) h2).mono ?_
 rintro ee w3 ⟨v,rfl,bv,rfl,h3⟩
 rw [Hrs.out]at h3
 clear h2
 go_wp2_with fail
 go_ret2
 exact ⟨_,rfl,bv,rfl,h3.sb⟩
set_option maxRecDepth 20000 in
theorem breadF_c (mgb:ByteArray) (mg:Frm.Bs) (hmb:mgb.data.toList=mg) (hm8:mg.length=8) (k:Nat) (hk:k≤3) (hk0:0<k) (rs:List Bok.Rw) (hok:Bok.Ok k false rs) (hz:∀ r∈rs,r.key=Frm.zero32) (hr:RS w0 F bv (Bok.book Xx.sum mg false rs)) (h:Sat w0 w F) :
  Calls Tryz.prog 138 #[.agg (kndA mgb false k),bv] w (Rtn fun v w'=>∃ (vs:List RV) (lv:Value),v = .tuple #[lv,errno 0]∧vs.map (·.x)=rs∧Sat w0 w' (osl 202 33 lv (vs.flatMap rvL)::numsS vs::F)):=by
 obtain ⟨ba,bc,rfl,hbc,hbm⟩:=hr.len h
 have hlen:(Bok.book Xx.sum mg false rs).length=20+rs.length * Bok.rowSz false k:=Bok.book_len hm8 hok.row
 have hbe:=Bok.book_eq (X:=Xx.sum) (mg:=mg) (kd:=false) (l:=rs)
 have hbt:=Bok.body_take (X:=Xx.sum) (mg:=mg) (kd:=false) hm8 hok.row
 have hb3:(Bok.body mg false rs).length=12+rs.length * Bok.rowSz false k:=Bok.body_len hm8 hok.row
 have hz1:rs.length * Bok.rowSz false k≤65536 * 44:=Nat.mul_le_mul hok.len (Bok.rowSz_le hk)
 have hto:=RS.to hr (k:=12+rs.length * Bok.rowSz false k) (by rw [hlen];omega) bc (Nat.le_trans (by rw [hlen];omega) hbc) (Nat.le_refl _)
 rw [hbt]at hto
 obtain ⟨ta,tc,hte,_,_⟩:=hto.len h
 rw [hte]at hto
 obtain ⟨S,hS⟩:∃ S,Xx.sum (Bok.body mg false rs)=S:=⟨_,rfl⟩
 have hSl:S<18446744073709551616:=by rw [← hS];exact Xx.sum_lt _
 rw [hS]at hbe
 have Hto:=uQ hto;have Hte:=uQ hte
 clear hto hte
 have Hlen:=uQ hlen;have Hbe:=uQ hbe;have Hbt:=uQ hbt;have Hb3:=uQ hb3;have HS:=uQ hS;have HSl:=uQ hSl
 obtain ⟨Z,hZ⟩:∃ Z,rs.length * Bok.rowSz false k=Z:=⟨_,rfl⟩
 have HZ:=uQ hZ
 rw [hZ]at hz1 hlen
 have Hz1:=uQ hz1
 have Hr:=uQ hr;have Hok:=uQ hok;have Hmb:=uQ hmb;have Hm8:=uQ hm8;have Hk:=uQ hk;have Hk0:=uQ hk0;have Hbc:=uQ hbc;have Hbm:=uQ hbm;have Hz:=uQ hz
 have Hhz:=uQ (show (Bok.book Xx.sum mg false rs).length=20+Z from hlen)
 clear hbe hbt hb3 hz1 hS hSl hZ hr hok hmb hm8 hk hk0 hbc hbm hlen hz
 have c1:¬ ((Bok.book Xx.sum mg false rs).length:Int)<12:=by have:=Hhz.out;omega
 have c2:¬ (65536:Int)<(rs.length:Int):=by have:=Hok.out.len;omega
 have c3:¬ ((Bok.book Xx.sum mg false rs).length:Int)<20+(Z:Int):=by have:=Hhz.out;omega
 have c4:¬ (20+(Z:Int))<((Bok.book Xx.sum mg false rs).length:Int):=by have:=Hhz.out;omega
 go_enter Tryz.func138,Tryz.ntmps138
 go_wp2_with (with_reducible apply at_box)
 refine ⟨wl_box h rFz rFz ?_⟩
 intro b2 w2 h2
 replace h2:Sat w0 w2 (kndPt b2 mgb false k::F):=h2
 clear h
 go_wp2_with fail
 refine (ropen1_c (by rw [Hhz.out];have:=Hz1.out;omega) (Hr.out.more sbD) h2).mono ?_
 rintro ee w3 ⟨v,rfl,p,rv,rfl,h3,hrs⟩
 clear h2
 have hrs':RS w0 (bsl rv (Bok.book Xx.sum mg false rs)::kndPt b2 mgb false k::F) rv (mg++(Frm.le rs.length 4++(Bok.rowsB false rs++Frm.le S 8))):=by rw [← Hbe.out];exact hrs
 generalize hG0:bsl rv (Bok.book Xx.sum mg false rs)=BB at *
 clear hG0
 have htx:=rtext_c (by rw [List.length_append,Hm8.out];omega) hrs' h3
 rw [List.take_left' Hm8.out,List.drop_left' Hm8.out,str_self mgb mg Hmb.out]at htx
 clear hrs h3
 go_wp2_with fail
 refine htx.mono ?_
 rintro ee w4 ⟨v,rfl,rv1,rfl,hr1,h4⟩
 have hrs1:=hr1 _ hrs'
 clear htx hr1 hrs'
 have hn4:=rnum4_c (by rw [List.length_append,Frm.le_len];omega) hrs1 h4
 rw [Bok.num4 Hok.out.len,Bok.drop_le]at hn4
 clear h4
 go_wp2_with fail
 refine hn4.mono ?_
 rintro ee w5 ⟨v,rfl,rv2,rfl,hr2,h5⟩
 have hrs2:=hr2 _ hrs1
 have Hrs2:=uQ (show RS w0 (BB::kndPt b2 mgb false k::F) rv2 (Bok.rowsB false rs++Frm.le S 8) from hrs2)
 clear hn4 hr2 hrs1 hrs2
 have hwn:IntKind.i64.wrap (rs.length:Int)=(rs.length:Int):=IntWalk.i64_in _ (by have:=Hok.out.len;omega)
 have hw1:IntKind.i64.wrap ((rs.length:Int) * ((Bok.rowSz false k:Nat):Int))=(Z:Int):=by
  rw [← Int.natCast_mul,HZ.out];exact IntWalk.i64_in _ (by have:=Hz1.out;omega)
 have hw2:IntKind.i64.wrap (12+(Z:Int))=12+(Z:Int):=IntWalk.i64_in _ (by have:=Hz1.out;omega)
 have hw3:IntKind.i64.wrap (12+(Z:Int)+8)=20+(Z:Int):=by rw [show 12+(Z:Int)+8=20+(Z:Int) by omega];exact IntWalk.i64_in _ (by have:=Hz1.out;omega)
 have hw4:IntKind.i64.wrap (20+(Z:Int) - 8)=12+(Z:Int):=by rw [show 20+(Z:Int) - 8=12+(Z:Int) by omega];exact IntWalk.i64_in _ (by have:=Hz1.out;omega)
 have hsl:∀ w,(Instr.sliceAt 25 (.slice ba (Bok.book Xx.sum mg false rs).length bc) none (some (.int .i64 (12+(Z:Int)))) none).run Tryz.prog w = .ok (.slice ta (Bok.body mg false rs).length tc) w:=fun w=>by
  have:=run_slT (a:=ba) (n:=(Bok.book Xx.sum mg false rs).length) (c:=bc) (k:=12+Z) (by have:=Hhz.out;have:=Hbc.out;omega) w
  rw [← HZ.out,Hte.out,HZ.out]at this
  rw [show (12+(Z:Int))=((12+Z:Nat):Int) by omega]
  exact this
 have Hsl:=uQ hsl
 clear hsl
 generalize (Bok.book Xx.sum mg false rs).length=L at *
 go_wp2_with (first
  |((with_reducible refine at_load ⟨?_⟩);first
   |refine wl_loadA h5 rFz pick2 Tryz.underlying196 rfl kRz ?_
   |refine wl_load1 h5 rFz pick2 nLz evD kRz ?_))
 refine (ksize_c mgb false k (by have:=Hk.out;omega) h5).mono ?_
 rintro ee w6 ⟨v,rfl,rfl,h6⟩
 clear h5
 go_wp2_with (first
  |((with_reducible refine at_load ⟨?_⟩);refine wl_loadA h6 rFz pick2 Tryz.underlying196 rfl kRz ?_))
 refine (krowsF_c mgb k Hk.out rs Hok.out.row Hok.out.len Hz.out (Frm.le S 8) Hrs2.out h6).mono ?_
 rintro ee w7 ⟨v,rfl,vs,rv3,hvs,hrs3,h7⟩
 have Hvs:=uQ hvs;have Hrs3:=uQ hrs3
 clear h6 hvs hrs3
 go_wp2_with fail
 have hG:True:=trivial
 have h8:=h7.drew
 clear h7
 refine wpL_begin [] (fun w'=>True) kRz ?_
 refine rP 0 ?_ (y:=mvQ)
 refine rP 2 ?_ (y:=mvQ)
 refine rP 3 ?_ (y:=mvQ)
 refine rP 4 ?_ (y:=bnQ)
 refine rP 5 ?_ (y:=(yl_slice_hi evD evD Hsl.out))
 refine rg_eff 1 evD kRz (fun K hK=>?_)
 (refine eff_call2 kRz evD evD ?_)
 have hn8:=rnum8_c (F:=osl 202 33 v (vs.flatMap rvL)::numsS vs::BB::kndPt b2 mgb false k::F) (by rw [Frm.le_len];exact Nat.le_refl _) (Hrs3.out.more sbD) (h8.sb:Sat w0 _ (rdrPt p rv3::osl 202 33 v (vs.flatMap rvL)::numsS vs::BB::kndPt b2 mgb false k::F))
 rw [Bok.num8 HSl.out]at hn8
 refine hn8.mono ?_
 rintro ee w9 ⟨v2,rfl,rv4,rfl,_,h9⟩
 refine hK _ _ (.inr (.inl trivial)) ?_
 clear hK hn8 h8
 refine rg_eff 6 evD kRz (fun K hK=>?_)
 (refine eff_call2 kRz evD evD ?_)
 have hxs:=xsum_c (l:=Bok.body mg false rs) (fun e=>by have:=Hb3.out;rw [e]at this;simp only [List.length_nil]at this;omega) (by rw [Hb3.out,HZ.out];have:=Hz1.out;omega) (Hto.out.more sbD) h9
 rw [HS.out]at hxs
 refine hxs.mono ?_
 rintro ee w10 ⟨v3,rfl,rfl,h10⟩
 refine hK _ _ (.inr (.inl trivial)) ?_
 clear hK hxs h9
 refine rP 7 ?_ (y:=bnQ)
 refine wpL_done kRz ?_
 go_wp2_with ((with_reducible refine at_load ⟨?_⟩);refine wl_loadA h10 rFz (pick_there pick3) Tryz.underlying196 rfl kRz ?_)
 have Hkey:=uQ (show ∀ r∈vs,r.x.key.length=32∧0<r.x.nums.length from fun r hr=>by
  have h1:r.x∈rs:=by rw [← Hvs.out];exact List.mem_map_of_mem hr
  have:=Hok.out.row r.x h1
  exact ⟨this.key,by rw [this.len];exact Hk0.out⟩)
 have Hvl:=uQ (show vs.length≤1073741824 from by
  have:=congrArg List.length Hvs.out
  rw [List.length_map]at this
  have:=Hok.out.len
  omega)
 refine (rises_c mgb false k vs Hvl.out (fun w hw=>Sat.rd (hw.sb:Sat w0 w (osl 202 33 v (vs.flatMap rvL)::rdrPt p rv4::numsS vs::BB::kndPt b2 mgb false k::F))) (fun r hr=>(numsS_ro hr (Hkey.out r hr).1 (Hkey.out r hr).2).sub sbD) h10).mono ?_
 rintro ee w11 ⟨v4,rfl,t,rfl,ht,h11⟩
 have ht2:t=true:=ht.2 (by rw [Hvs.out];exact Hok.out.rise)
 subst ht2
 clear h10 ht
 go_wp2_with fail
 go_ret2
 exact ⟨_,rfl,vs,v,rfl,Hvs.out,h11.sb⟩
set_option maxRecDepth 20000 in
theorem breadT_c (mgb:ByteArray) (mg:Frm.Bs) (hmb:mgb.data.toList=mg) (hm8:mg.length=8) (k:Nat) (hk:k≤3) (hk0:0<k) (rs:List Bok.Rw) (hok:Bok.Ok k true rs) (hr:RS w0 F bv (Bok.book Xx.sum mg true rs)) (h:Sat w0 w F) :
  Calls Tryz.prog 138 #[.agg (kndA mgb true k),bv] w (Rtn fun v w'=>∃ (vs:List RV) (lv:Value),v = .tuple #[lv,errno 0]∧vs.map (·.x)=rs∧Sat w0 w' (osl 202 33 lv (vs.flatMap rvL)::numsS vs::F)):=by
 obtain ⟨ba,bc,rfl,hbc,hbm⟩:=hr.len h
 have hlen:(Bok.book Xx.sum mg true rs).length=20+rs.length * Bok.rowSz true k:=Bok.book_len hm8 hok.row
 have hbe:=Bok.book_eq (X:=Xx.sum) (mg:=mg) (kd:=true) (l:=rs)
 have hbt:=Bok.body_take (X:=Xx.sum) (mg:=mg) (kd:=true) hm8 hok.row
 have hb3:(Bok.body mg true rs).length=12+rs.length * Bok.rowSz true k:=Bok.body_len hm8 hok.row
 have hz1:rs.length * Bok.rowSz true k≤65536 * 44:=Nat.mul_le_mul hok.len (Bok.rowSz_le hk)
 have hto:=RS.to hr (k:=12+rs.length * Bok.rowSz true k) (by rw [hlen];omega) bc (Nat.le_trans (by rw [hlen];omega) hbc) (Nat.le_refl _)
 rw [hbt]at hto
 obtain ⟨ta,tc,hte,_,_⟩:=hto.len h
 rw [hte]at hto
 obtain ⟨S,hS⟩:∃ S,Xx.sum (Bok.body mg true rs)=S:=⟨_,rfl⟩
 have hSl:S<18446744073709551616:=by rw [← hS];exact Xx.sum_lt _
 rw [hS]at hbe
 have Hto:=uQ hto;have Hte:=uQ hte
 clear hto hte
 have Hlen:=uQ hlen;have Hbe:=uQ hbe;have Hbt:=uQ hbt;have Hb3:=uQ hb3;have HS:=uQ hS;have HSl:=uQ hSl
 obtain ⟨Z,hZ⟩:∃ Z,rs.length * Bok.rowSz true k=Z:=⟨_,rfl⟩
 have HZ:=uQ hZ
 rw [hZ]at hz1 hlen
 have Hz1:=uQ hz1
 have Hr:=uQ hr;have Hok:=uQ hok;have Hmb:=uQ hmb;have Hm8:=uQ hm8;have Hk:=uQ hk;have Hk0:=uQ hk0;have Hbc:=uQ hbc;have Hbm:=uQ hbm
 have Hhz:=uQ (show (Bok.book Xx.sum mg true rs).length=20+Z from hlen)
 clear hbe hbt hb3 hz1 hS hSl hZ hr hok hmb hm8 hk hk0 hbc hbm hlen
 have c1:¬ ((Bok.book Xx.sum mg true rs).length:Int)<12:=by have:=Hhz.out;omega
 have c2:¬ (65536:Int)<(rs.length:Int):=by have:=Hok.out.len;omega
 have c3:¬ ((Bok.book Xx.sum mg true rs).length:Int)<20+(Z:Int):=by have:=Hhz.out;omega
 have c4:¬ (20+(Z:Int))<((Bok.book Xx.sum mg true rs).length:Int):=by have:=Hhz.out;omega
 go_enter Tryz.func138,Tryz.ntmps138
 go_wp2_with (with_reducible apply at_box)
 refine ⟨wl_box h rFz rFz ?_⟩
 intro b2 w2 h2
 replace h2:Sat w0 w2 (kndPt b2 mgb true k::F):=h2
 clear h
 go_wp2_with fail
 refine (ropen1_c (by rw [Hhz.out];have:=Hz1.out;omega) (Hr.out.more sbD) h2).mono ?_
 rintro ee w3 ⟨v,rfl,p,rv,rfl,h3,hrs⟩
 clear h2
 have hrs':RS w0 (bsl rv (Bok.book Xx.sum mg true rs)::kndPt b2 mgb true k::F) rv (mg++(Frm.le rs.length 4++(Bok.rowsB true rs++Frm.le S 8))):=by rw [← Hbe.out];exact hrs
 generalize hG0:bsl rv (Bok.book Xx.sum mg true rs)=BB at *
 clear hG0
 have htx:=rtext_c (by rw [List.length_append,Hm8.out];omega) hrs' h3
 rw [List.take_left' Hm8.out,List.drop_left' Hm8.out,str_self mgb mg Hmb.out]at htx
 clear hrs h3
 go_wp2_with fail
 refine htx.mono ?_
 rintro ee w4 ⟨v,rfl,rv1,rfl,hr1,h4⟩
 have hrs1:=hr1 _ hrs'
 clear htx hr1 hrs'
 have hn4:=rnum4_c (by rw [List.length_append,Frm.le_len];omega) hrs1 h4
 rw [Bok.num4 Hok.out.len,Bok.drop_le]at hn4
 clear h4
 go_wp2_with fail
 refine hn4.mono ?_
 rintro ee w5 ⟨v,rfl,rv2,rfl,hr2,h5⟩
 have hrs2:=hr2 _ hrs1
 have Hrs2:=uQ (show RS w0 (BB::kndPt b2 mgb true k::F) rv2 (Bok.rowsB true rs++Frm.le S 8) from hrs2)
 clear hn4 hr2 hrs1 hrs2
 have hwn:IntKind.i64.wrap (rs.length:Int)=(rs.length:Int):=IntWalk.i64_in _ (by have:=Hok.out.len;omega)
 have hw1:IntKind.i64.wrap ((rs.length:Int) * ((Bok.rowSz true k:Nat):Int))=(Z:Int):=by
  rw [← Int.natCast_mul,HZ.out];exact IntWalk.i64_in _ (by have:=Hz1.out;omega)
 have hw2:IntKind.i64.wrap (12+(Z:Int))=12+(Z:Int):=IntWalk.i64_in _ (by have:=Hz1.out;omega)
 have hw3:IntKind.i64.wrap (12+(Z:Int)+8)=20+(Z:Int):=by rw [show 12+(Z:Int)+8=20+(Z:Int) by omega];exact IntWalk.i64_in _ (by have:=Hz1.out;omega)
 have hw4:IntKind.i64.wrap (20+(Z:Int) - 8)=12+(Z:Int):=by rw [show 20+(Z:Int) - 8=12+(Z:Int) by omega];exact IntWalk.i64_in _ (by have:=Hz1.out;omega)
 have hsl:∀ w,(Instr.sliceAt 25 (.slice ba (Bok.book Xx.sum mg true rs).length bc) none (some (.int .i64 (12+(Z:Int)))) none).run Tryz.prog w = .ok (.slice ta (Bok.body mg true rs).length tc) w:=fun w=>by
  have:=run_slT (a:=ba) (n:=(Bok.book Xx.sum mg true rs).length) (c:=bc) (k:=12+Z) (by have:=Hhz.out;have:=Hbc.out;omega) w
  rw [← HZ.out,Hte.out,HZ.out]at this
  rw [show (12+(Z:Int))=((12+Z:Nat):Int) by omega]
  exact this
 have Hsl:=uQ hsl
 clear hsl
 generalize (Bok.book Xx.sum mg true rs).length=L at *
 go_wp2_with (first
  |((with_reducible refine at_load ⟨?_⟩);first
   |refine wl_loadA h5 rFz pick2 Tryz.underlying196 rfl kRz ?_
   |refine wl_load1 h5 rFz pick2 nLz evD kRz ?_))
 refine (ksize_c mgb true k (by have:=Hk.out;omega) h5).mono ?_
 rintro ee w6 ⟨v,rfl,rfl,h6⟩
 clear h5
 go_wp2_with (first
  |((with_reducible refine at_load ⟨?_⟩);refine wl_loadA h6 rFz pick2 Tryz.underlying196 rfl kRz ?_))
 refine (krowsT_c mgb k Hk.out rs Hok.out.row Hok.out.len (Frm.le S 8) Hrs2.out h6).mono ?_
 rintro ee w7 ⟨v,rfl,vs,rv3,hvs,hrs3,h7⟩
 have Hvs:=uQ hvs;have Hrs3:=uQ hrs3
 clear h6 hvs hrs3
 go_wp2_with fail
 have hG:True:=trivial
 have h8:=h7.drew
 clear h7
 refine wpL_begin [] (fun w'=>True) kRz ?_
 refine rP 0 ?_ (y:=mvQ)
 refine rP 2 ?_ (y:=mvQ)
 refine rP 3 ?_ (y:=mvQ)
 refine rP 4 ?_ (y:=bnQ)
 refine rP 5 ?_ (y:=(yl_slice_hi evD evD Hsl.out))
 refine rg_eff 1 evD kRz (fun K hK=>?_)
 (refine eff_call2 kRz evD evD ?_)
 have hn8:=rnum8_c (F:=osl 202 33 v (vs.flatMap rvL)::numsS vs::BB::kndPt b2 mgb true k::F) (by rw [Frm.le_len];exact Nat.le_refl _) (Hrs3.out.more sbD) (h8.sb:Sat w0 _ (rdrPt p rv3::osl 202 33 v (vs.flatMap rvL)::numsS vs::BB::kndPt b2 mgb true k::F))
 rw [Bok.num8 HSl.out]at hn8
 refine hn8.mono ?_
 rintro ee w9 ⟨v2,rfl,rv4,rfl,_,h9⟩
 refine hK _ _ (.inr (.inl trivial)) ?_
 clear hK hn8 h8
 refine rg_eff 6 evD kRz (fun K hK=>?_)
 (refine eff_call2 kRz evD evD ?_)
 have hxs:=xsum_c (l:=Bok.body mg true rs) (fun e=>by have:=Hb3.out;rw [e]at this;simp only [List.length_nil]at this;omega) (by rw [Hb3.out,HZ.out];have:=Hz1.out;omega) (Hto.out.more sbD) h9
 rw [HS.out]at hxs
 refine hxs.mono ?_
 rintro ee w10 ⟨v3,rfl,rfl,h10⟩
 refine hK _ _ (.inr (.inl trivial)) ?_
 clear hK hxs h9
 refine rP 7 ?_ (y:=bnQ)
 refine wpL_done kRz ?_
 go_wp2_with ((with_reducible refine at_load ⟨?_⟩);refine wl_loadA h10 rFz (pick_there pick3) Tryz.underlying196 rfl kRz ?_)
 have Hkey:=uQ (show ∀ r∈vs,r.x.key.length=32∧0<r.x.nums.length from fun r hr=>by
  have h1:r.x∈rs:=by rw [← Hvs.out];exact List.mem_map_of_mem hr
  have:=Hok.out.row r.x h1
  exact ⟨this.key,by rw [this.len];exact Hk0.out⟩)
 have Hvl:=uQ (show vs.length≤1073741824 from by
  have:=congrArg List.length Hvs.out
  rw [List.length_map]at this
  have:=Hok.out.len
  omega)
 refine (rises_c mgb true k vs Hvl.out (fun w hw=>Sat.rd (hw.sb:Sat w0 w (osl 202 33 v (vs.flatMap rvL)::rdrPt p rv4::numsS vs::BB::kndPt b2 mgb true k::F))) (fun r hr=>(numsS_ro hr (Hkey.out r hr).1 (Hkey.out r hr).2).sub sbD) h10).mono ?_
 rintro ee w11 ⟨v4,rfl,t,rfl,ht,h11⟩
 have ht2:t=true:=ht.2 (by rw [Hvs.out];exact Hok.out.rise)
 subst ht2
 clear h10 ht
 go_wp2_with fail
 go_ret2
 exact ⟨_,rfl,vs,v,rfl,Hvs.out,h11.sb⟩
end
section
variable {P:Program}{ops:Array Oper}{a:Act}{dst:Option Tmp}{t ty:TypeId}{pos:String}{after:Array Edge}{x y:Operand}{v v1 v2:Value}{i1 i2:Nat}
theorem yl_build2 (hx:a.eval x=v1) (hy:a.eval y=v2) (hr:∀ w,(Instr.build ty #[(i1,v1),(i2,v2)]).run P w = .ok v w):Yields P ops ⟨dst,.build ty #[(i1,x),(i2,y)],t,pos,after,none⟩ v a:=
 .inl ⟨want_none _ rfl,fun w=>by simp only [execOp,List.map_toArray,List.map_cons,List.map_nil,hx,hy,Sem.run_bind,hr,Result.andThen_ok,Sem.run_pure]⟩
end
section
variable {w0 w:World}{F:List HProp}{p B:Nat}{m:Frm.Bs→Option (Seg.Plc)}
end
section
variable {w0 w:World}{F:List HProp}{rv lv bv nv:Value}{p:Nat}
theorem run_use3 (a b c:Int) (w:World):(Instr.build 121 #[(0,.int .i64 a),(1,.int .i64 b),(2,.int .i64 c)]).run Tryz.prog w = .ok (.agg (uenc ⟨a,b,c⟩).toArray) w:=by kernel_rfl
theorem run_plc3 (a b c:Int) (w:World):(Instr.build 54 #[(0,.int .i64 a),(1,.int .i64 b),(2,.int .i64 c)]).run Tryz.prog w = .ok (.agg (penc ⟨a,b,c⟩).toArray) w:=by kernel_rfl
theorem nums3_cells {a b c:Int} (h:rdsl 1 nv (ints [a,b,c]) w):∃ q o cc,nv = .slice (some ⟨q,o,none⟩) 3 cc∧w.cell? ⟨q,o,none⟩=some (.int .i64 a)∧w.cell? ⟨q,o+1,none⟩=some (.int .i64 b)∧w.cell? ⟨q,o+2,none⟩=some (.int .i64 c):=by
 obtain ⟨q,o,cc,rfl,c0⟩:=ints_cellB h (i:=0) rfl
 obtain ⟨_,_,_,e1,c1⟩:=ints_cellB h (i:=1) rfl
 cases e1
 obtain ⟨_,_,_,e2,c2⟩:=ints_cellB h (i:=2) rfl
 cases e2
 exact ⟨q,o,cc,rfl,c0,c1,c2⟩
set_option maxRecDepth 20000 in
theorem rdUse_c (k:Frm.Bs) (hk:k.length=32) (a b c:Int) (hr:Ro w0 F (rdsl 1 nv (ints [a,b,c]))) (h:Sat w0 w F) :
  Calls Tryz.prog 142 #[.agg (rvL ⟨⟨k,[a,b,c]⟩,nv⟩).toArray] w (Rtn fun v w'=>v = .agg (uenc ⟨a,b,c⟩).toArray∧Sat w0 w' F):=by
 obtain ⟨q,o,cc,rfl,_⟩:=nums3_cells (hr w h)
 have Hr:=uQ hr;have Hk:=uQ hk
 clear hr hk
 go_enter Tryz.func142,Tryz.ntmps142
 go_wp2_with (with_reducible apply at_box)
 refine ⟨wl_box h rFz rFz ?_⟩
 intro b1 w1 h1
 replace h1:Sat w0 w1 (rowPt b1 k [a,b,c] (.slice (some ⟨q,o,none⟩) 3 cc)::F):=h1
 go_wp2_with (with_reducible apply at_alloc)
 refine ⟨wl_alloc zUse h1 rfl ?_⟩
 intro b2 w2 h2
 clear h h1
 go_wp2_with fail
 have h3:=h2.drew
 clear h2
 refine wpL_begin [12,13] (fun w'=>w'.cell? ⟨b1,32,none⟩=some (.slice (some ⟨q,o,none⟩) 3 cc)∧w'.cell? ⟨q,o,none⟩=some (.int .i64 a)∧w'.cell? ⟨q,o+1,none⟩=some (.int .i64 b)∧w'.cell? ⟨q,o+2,none⟩=some (.int .i64 c)) kRz ?_
 have hG:World.cell? w2.drew ⟨b1,32,none⟩=some (.slice (some ⟨q,o,none⟩) 3 cc)∧World.cell? w2.drew ⟨q,o,none⟩=some (.int .i64 a)∧World.cell? w2.drew ⟨q,o+1,none⟩=some (.int .i64 b)∧World.cell? w2.drew ⟨q,o+2,none⟩=some (.int .i64 c):=by
  obtain ⟨_,_,_,e,c0⟩:=nums3_cells (Hr.out _ h3.drop.drop)
  cases e
  exact ⟨h3.cellP pick1 32 (rw_nums (x:=⟨k,[a,b,c]⟩) Hk.out),c0⟩
 refine rP 0 ?_ (y:=flQ)
 refine rt 1 (h:=?_)
 refine rP 2 ?_ (y:=ixQ)
 refine rt 3 (h:=?_)
 refine rP 4 ?_ (y:=flQ)
 refine rt 5 (h:=?_)
 refine rP 6 ?_ (y:=ixQ)
 refine rt 7 (h:=?_)
 refine rP 8 ?_ (y:=flQ)
 refine rt 9 (h:=?_)
 refine rP 10 ?_ (y:=ixQ)
 refine rt 11 (h:=?_)
 clear hG
 refine rP 12 ?_ (y:=(yl_build3 evD evD evD (fun w=>run_use3 a b c w)))
 refine rg_eff 13 evD kRz (fun K hK=>?_)
 refine eff_store (cs':=(uenc ⟨a,b,c⟩).toArray) h3 evD evD rFz upd0 nLz kRz rFz ?_
 intro w4 h4
 refine hK _ _ (.inl rfl) ?_
 clear hK h3
 refine wpL_done kRz ?_
 go_wp2_with fail
 refine ⟨rfl,_,res_cell rfl h4 rFz pkD Tryz.underlying121 rfl kRz,?_⟩
 exact ⟨_,rfl,rfl,h4.drop.drop⟩
theorem puts_kv (k:Frm.Bs) (hk:k.length=32) (a b c:Int):putsAt (kvL (Frm.zero32,Seg.Plc.zero)).toArray 0 (kvL (k,⟨a,b,c⟩)).toArray.toList=(kvL (k,⟨a,b,c⟩)).toArray:=by
 rw [puts_whole _ _ (by rw [List.toList_toArray,List.size_toArray,kvL_len (k,⟨a,b,c⟩) hk,kvL_len (Frm.zero32,Seg.Plc.zero) rfl]),List.toList_toArray]
set_option maxRecDepth 20000 in
theorem rdIdx_c (k:Frm.Bs) (hk:k.length=32) (a b c:Int) (hr:Ro w0 F (rdsl 1 nv (ints [a,b,c]))) (h:Sat w0 w F) :
  Calls Tryz.prog 140 #[.agg (rvL ⟨⟨k,[a,b,c]⟩,nv⟩).toArray] w (Rtn fun v w'=>v = .agg (kvL (k,⟨a,b,c⟩)).toArray∧Sat w0 w' F):=by
 obtain ⟨q,o,cc,rfl,_⟩:=nums3_cells (hr w h)
 have Hr:=uQ hr;have Hk:=uQ hk
 have Hks:=uQ (show (bys k).length=32 by rw [bys_len];exact hk)
 clear hr hk
 go_enter Tryz.func140,Tryz.ntmps140
 go_wp2_with (with_reducible apply at_box)
 refine ⟨wl_box h rFz rFz ?_⟩
 intro b1 w1 h1
 replace h1:Sat w0 w1 (rowPt b1 k [a,b,c] (.slice (some ⟨q,o,none⟩) 3 cc)::F):=h1
 go_wp2_with (with_reducible apply at_alloc)
 refine ⟨wl_alloc zKv h1 rfl ?_⟩
 intro b2 w2 h2
 clear h h1
 go_wp2_with fail
 have h3:=h2.drew
 clear h2
 refine wpL_begin [15,16] (fun w'=>w'.cell? ⟨b1,32,none⟩=some (.slice (some ⟨q,o,none⟩) 3 cc)∧w'.cell? ⟨q,o,none⟩=some (.int .i64 a)∧w'.cell? ⟨q,o+1,none⟩=some (.int .i64 b)∧w'.cell? ⟨q,o+2,none⟩=some (.int .i64 c)∧w'.rangeAt b1 0 (bys k)) kRz ?_
 have hG:World.cell? w2.drew ⟨b1,32,none⟩=some (.slice (some ⟨q,o,none⟩) 3 cc)∧World.cell? w2.drew ⟨q,o,none⟩=some (.int .i64 a)∧World.cell? w2.drew ⟨q,o+1,none⟩=some (.int .i64 b)∧World.cell? w2.drew ⟨q,o+2,none⟩=some (.int .i64 c)∧World.rangeAt w2.drew b1 0 (bys k):=by
  obtain ⟨_,_,_,e,c0,c1,c2⟩:=nums3_cells (Hr.out _ h3.drop.drop)
  cases e
  exact ⟨h3.cellP pick1 32 (rw_nums (x:=⟨k,[a,b,c]⟩) Hk.out),c0,c1,c2,fun j z hj=>by rw [Nat.zero_add];exact h3.cellP pick1 j (rw_key (x:=⟨k,[a,b,c]⟩) hj)⟩
 refine rP 0 ?_ (y:=flQ)
 refine rg_take 1 evD kRz i3z (tk_loadN (b:=b1) (o:=0) (bys k) rFz Tryz.underlying24 rfl (by rw [Hks.out];kernel_rfl) (fun w hw=>hw.2.2.2.2)) aQ gQ ?_
 refine rP 2 ?_ (y:=flQ)
 refine rt 3 (h:=?_)
 refine rP 4 ?_ (y:=ixQ)
 refine rt 5 (h:=?_)
 refine rP 6 ?_ (y:=flQ)
 refine rt 7 (h:=?_)
 refine rP 8 ?_ (y:=ixQ)
 refine rt 9 (h:=?_)
 refine rP 10 ?_ (y:=flQ)
 refine rt 11 (h:=?_)
 refine rP 12 ?_ (y:=ixQ)
 refine rt 13 (h:=?_)
 clear hG
 refine rP 14 ?_ (y:=(yl_build3 evD evD evD (fun w=>run_plc3 a b c w)))
 refine rP 15 ?_ (y:=(yl_build2 evD evD (fun w=>run_kv k Hk.out ⟨a,b,c⟩ w)))
 refine rg_eff 16 evD kRz (fun K hK=>?_)
 refine eff_store (cs':=(kvL (k,⟨a,b,c⟩)).toArray) h3 evD evD (puts_kv k Hk.out a b c) upd0 (by show 0+(kvL (k,⟨a,b,c⟩)).toArray.size≤35;rw [List.size_toArray,kvL_len _ Hk.out];decide) (by show _=some (kvL (k,⟨a,b,c⟩)).toArray.size;rw [List.size_toArray,kvL_len _ Hk.out];kernel_rfl) (by show (kvL (k,⟨a,b,c⟩)).toArray.toList.all _=true;rw [List.toList_toArray];exact kvL_ones _) ?_
 intro w4 h4
 refine hK _ _ (.inl rfl) ?_
 clear hK h3
 refine wpL_done kRz ?_
 go_wp2_with fail
 refine ⟨rfl,_,res_cell rfl h4 rFz pkD Tryz.underlying149 rfl (by rw [List.size_toArray,kvL_len _ Hk.out];kernel_rfl),?_⟩
 exact ⟨_,rfl,rfl,h4.drop.drop⟩
set_option maxRecDepth 20000 in
theorem backU_c (us:List Rep.Use) (vs:List RV) (hus:vs.map (·.x)=us.map Rep.useRw) (hl:us.length≤65536) (hr:Ro w0 F (rdsl 33 lv (vs.flatMap rvL))) (he:∀ r∈vs,RVRo w0 F r) (h:Sat w0 w F) :
  Calls Tryz.prog 141 #[lv,.func (.func 142) #[] #[]] w (Rtn fun v w'=>Sat w0 w' (osl 121 3 v (us.flatMap uenc)::F)):=by
 obtain ⟨la,lc,rfl⟩:=osl_rows (fun r hr=>rvL_len r (he r hr).key) (hr w h) dCz
 have hlen:vs.length=us.length:=by have:=congrArg List.length hus;rwa [List.length_map,List.length_map]at this
 have Hr:=uQ hr;have Hl:=uQ hl;have He:=uQ he;have Hus:=uQ hus;have Hlen:=uQ hlen
 clear hr hl he hus
 rw [hlen]
 clear hlen
 go_enter Tryz.func141,Tryz.ntmps141
 go_wp2_with fail
 go_loopg [5,10] us.length (fun g ov iq wr=>∃ (i:Nat) (o2:Value),g=us.length - i∧i≤us.length∧o2=ov∧iq = .int .i64 i∧Sat w0 wr (osl 121 3 o2 ((us.take i).flatMap uenc)::F))
 case atStart=>exact ⟨0,_,rfl,Nat.zero_le _,rfl,rfl,Sat.osl_nil.2 h⟩
 case round=>
  obtain ⟨i,ov,rfl,hi,rfl,rfl,hS⟩:=hrel
  clear h
  by_cases hlt:i<us.length
  ·as_aux_lemma=>
    have c3:(i:Int)<(us.length:Int):=oQ
    have hwi:IntKind.i64.wrap ((i:Int)+1)=(i:Int)+1:=IntWalk.i64_in _ (by have:=Hl.out;omega)
    obtain ⟨r,hx⟩:∃ r,vs[i]?=some r:=⟨_,List.getElem?_eq_getElem (by rw [Hlen.out];exact hlt)⟩
    obtain ⟨u,hu⟩:∃ u,us[i]?=some u:=⟨_,List.getElem?_eq_getElem hlt⟩
    have hru:r.x=Rep.useRw u:=by
     have h1:(vs.map (·.x))[i]?=some r.x:=by rw [List.getElem?_map,hx];rfl
     rw [Hus.out,List.getElem?_map,hu]at h1
     exact (Option.some.inj h1).symm
    obtain ⟨bk,off,c',hsv,hcell⟩:=osl_row (f:=rvL) (k:=33) (fun r hr=>rvL_len r (He.out r hr).key) (Hr.out _ hS.drop) hx dCz
    rw [Hlen.out]at hsv
    cases hsv
    have hro:=He.out r (List.mem_of_getElem? hx)
    have Htk:=uQ (show us.take (i+1)=us.take i++[u] from Bok.take_get hu)
    have Hln:=uQ (show ((us.take i).flatMap uenc).length≤2147483648 from by
     rw [rows_len (fun u _=>uenc_len u),List.length_take]
     have:=Hl.out
     omega)
    obtain ⟨rx,nv⟩:=r
    dsimp only at hru
    subst hru
    have H1:=uQ hro;have Hlt:=uQ hlt
    obtain ⟨na,nn,nc,hnv,_,_⟩:=hro.rd _ hS.drop
    dsimp only at hnv
    subst hnv
    clear hx hu hlt hi hro
    go_wp2_with (first
     |((with_reducible refine at_load ⟨?_⟩);refine wl_loadW (b:=bk) (o:=off+i * 33) (rvL ⟨Rep.useRw u,.slice na nn nc⟩) rFz hcell Tryz.underlying202 rfl (by rw [rvL_len _ H1.out.key];kernel_rfl) ?_)
     |(with_reducible apply at_alloc))
    refine ⟨wl_alloc zBRow hS rfl ?_⟩
    intro b8 w8 h8
    clear hS hcell
    go_wp2_with (with_reducible apply at_store)
    refine ⟨wl_storeA (rvL ⟨Rep.useRw u,.slice na nn nc⟩).toArray h8 rFz rFz (by rw [rvS _ H1.out.key];rfl) upd0 (by rw [rvS _ H1.out.key];kernel_rfl) rvA_ones ?_⟩
    intro w9 h9
    clear h8
    go_wp2_with ((with_reducible refine at_load ⟨?_⟩);refine wl_loadA h9 rFz pick0 Tryz.underlying202 rfl (by rw [rvS _ H1.out.key];kernel_rfl) ?_)
    refine (rdUse_c Frm.zero32 rfl u.seg u.size u.live (Ro.os H1.out.rd) h9).mono ?_
    rintro ee w10 ⟨v,rfl,rfl,h10⟩
    clear h9
    go_wp2_with (first
     |((with_reducible refine at_build1 ⟨?_⟩);refine wl_build1 (e:=121) (sz:=3) (by':=24) (cs:=(uenc u).toArray) kRz h10 rFz rfl rFz nLz ?_;intro bN wN hN)
     |(with_reducible apply at_append))
    refine ⟨wl_app (cs:=(uenc u).toArray) 121 3 24 kRz hN rFz rFz (pick_there (pick_there pick0)) pick0 rFz nLz rFz Hln.out (by exact Nat.le_of_ble_eq_true rFz) nLz rfl ?_⟩
    intro b' n' c2 w14 h14
    go_wp2_with fail
    go_roundg (us.length - (i+1))
    case measure=>have:=Hlt.out;omega
    case rel=>exact ⟨i+1,_,rfl,Nat.succ_le_of_lt Hlt.out,rfl,by first|rfl|go_num,by rw [Htk.out,List.flatMap_append,List.flatMap_cons,List.flatMap_nil,List.append_nil];exact h14.sb⟩
  ·have c3:¬ (i:Int)<(us.length:Int):=by omega
   have hi2:i=us.length:=oQ
   subst hi2
   rw [List.take_length]at hS
   clear hi hlt
   go_wp2_with fail
   go_ret
   exact ⟨_,rfl,hS⟩
set_option maxRecDepth 20000 in
theorem backI_c (us:List (Frm.Bs×Seg.Plc)) (vs:List RV) (hus:vs.map (·.x)=us.map Rep.idxRw) (hl:us.length≤65536) (hk:∀ q∈us,q.1.length=32) (hr:Ro w0 F (rdsl 33 lv (vs.flatMap rvL))) (he:∀ r∈vs,RVRo w0 F r) (h:Sat w0 w F) :
  Calls Tryz.prog 139 #[lv,.func (.func 140) #[] #[]] w (Rtn fun v w'=>Sat w0 w' (osl 149 35 v (us.flatMap kvL)::F)):=by
 obtain ⟨la,lc,rfl⟩:=osl_rows (fun r hr=>rvL_len r (he r hr).key) (hr w h) dCz
 have hlen:vs.length=us.length:=by have:=congrArg List.length hus;rwa [List.length_map,List.length_map]at this
 have Hr:=uQ hr;have Hl:=uQ hl;have He:=uQ he;have Hus:=uQ hus;have Hlen:=uQ hlen;have Hk:=uQ hk
 clear hr hl he hus hk
 rw [hlen]
 clear hlen
 go_enter Tryz.func139,Tryz.ntmps139
 go_wp2_with fail
 go_loopg [5,10] us.length (fun g ov iq wr=>∃ (i:Nat) (o2:Value),g=us.length - i∧i≤us.length∧o2=ov∧iq = .int .i64 i∧Sat w0 wr (osl 149 35 o2 ((us.take i).flatMap kvL)::F))
 case atStart=>exact ⟨0,_,rfl,Nat.zero_le _,rfl,rfl,Sat.osl_nil.2 h⟩
 case round=>
  obtain ⟨i,ov,rfl,hi,rfl,rfl,hS⟩:=hrel
  clear h
  by_cases hlt:i<us.length
  ·as_aux_lemma=>
    have c3:(i:Int)<(us.length:Int):=oQ
    have hwi:IntKind.i64.wrap ((i:Int)+1)=(i:Int)+1:=IntWalk.i64_in _ (by have:=Hl.out;omega)
    obtain ⟨r,hx⟩:∃ r,vs[i]?=some r:=⟨_,List.getElem?_eq_getElem (by rw [Hlen.out];exact hlt)⟩
    obtain ⟨u,hu⟩:∃ u,us[i]?=some u:=⟨_,List.getElem?_eq_getElem hlt⟩
    have hru:r.x=Rep.idxRw u:=by
     have h1:(vs.map (·.x))[i]?=some r.x:=by rw [List.getElem?_map,hx];rfl
     rw [Hus.out,List.getElem?_map,hu]at h1
     exact (Option.some.inj h1).symm
    obtain ⟨bk,off,c',hsv,hcell⟩:=osl_row (f:=rvL) (k:=33) (fun r hr=>rvL_len r (He.out r hr).key) (Hr.out _ hS.drop) hx dCz
    rw [Hlen.out]at hsv
    cases hsv
    have hro:=He.out r (List.mem_of_getElem? hx)
    have Htk:=uQ (show us.take (i+1)=us.take i++[u] from Bok.take_get hu)
    have Hln:=uQ (show ((us.take i).flatMap kvL).length≤2147483648 from by
     rw [rows_len (fun u hu=>kvL_len u (Hk.out u (List.mem_of_mem_take hu))),List.length_take]
     have:=Hl.out
     omega)
    have Hku:=Hk.out u (List.mem_of_getElem? hu)
    obtain ⟨rx,nv⟩:=r
    dsimp only at hru
    subst hru
    have H1:=uQ hro;have Hlt:=uQ hlt
    obtain ⟨na,nn,nc,hnv,_,_⟩:=hro.rd _ hS.drop
    dsimp only at hnv
    subst hnv
    clear hx hu hlt hi hro
    go_wp2_with (first
     |((with_reducible refine at_load ⟨?_⟩);refine wl_loadW (b:=bk) (o:=off+i * 33) (rvL ⟨Rep.idxRw u,.slice na nn nc⟩) rFz hcell Tryz.underlying202 rfl (by rw [rvL_len _ H1.out.key];kernel_rfl) ?_)
     |(with_reducible apply at_alloc))
    refine ⟨wl_alloc zBRow hS rfl ?_⟩
    intro b8 w8 h8
    clear hS hcell
    go_wp2_with (with_reducible apply at_store)
    refine ⟨wl_storeA (rvL ⟨Rep.idxRw u,.slice na nn nc⟩).toArray h8 rFz rFz (by rw [rvS _ H1.out.key];rfl) upd0 (by rw [rvS _ H1.out.key];kernel_rfl) rvA_ones ?_⟩
    intro w9 h9
    clear h8
    go_wp2_with ((with_reducible refine at_load ⟨?_⟩);refine wl_loadA h9 rFz pick0 Tryz.underlying202 rfl (by rw [rvS _ H1.out.key];kernel_rfl) ?_)
    refine (rdIdx_c u.1 Hku u.2.seg u.2.at_ u.2.size (Ro.os H1.out.rd) h9).mono ?_
    rintro ee w10 ⟨v,rfl,rfl,h10⟩
    clear h9
    go_wp2_with (first
     |((with_reducible refine at_build1 ⟨?_⟩);refine wl_build1 (e:=149) (sz:=35) (by':=56) (cs:=(kvL u).toArray) kRz h10 rFz rfl (by rw [List.size_toArray,kvL_len _ Hku]) nLz ?_;intro bN wN hN)
     |(with_reducible apply at_append))
    refine ⟨wl_app (cs:=(kvL u).toArray) 149 35 56 kRz hN rFz rFz (pick_there (pick_there pick0)) pick0 (by rw [List.size_toArray,kvL_len _ Hku]) nLz (by rw [List.toList_toArray];exact kvL_ones u) Hln.out (by rw [List.size_toArray,kvL_len _ Hku];decide) nLz rfl ?_⟩
    intro b' n' c2 w14 h14
    go_wp2_with fail
    go_roundg (us.length - (i+1))
    case measure=>have:=Hlt.out;omega
    case rel=>exact ⟨i+1,_,rfl,Nat.succ_le_of_lt Hlt.out,rfl,by first|rfl|go_num,by rw [Htk.out,List.flatMap_append,List.flatMap_cons,List.flatMap_nil,List.append_nil];exact h14.sb⟩
  ·have c3:¬ (i:Int)<(us.length:Int):=by omega
   have hi2:i=us.length:=oQ
   subst hi2
   rw [List.take_length]at hS
   clear hi hlt
   go_wp2_with fail
   go_ret
   exact ⟨_,rfl,hS⟩
theorem breadU_c (us:List Rep.Use) (hok:Bok.Ok 3 false (us.map Rep.useRw)) (hr:RS w0 F bv (Bok.book Xx.sum Bok.mgUse false (us.map Rep.useRw))) (h:Sat w0 w F) :
  Calls Tryz.prog 79 #[bv] w (Rtn fun v w'=>∃ lv,v = .tuple #[lv,errno 0]∧Sat w0 w' (osl 121 3 lv (us.flatMap uenc)::F)):=by
 have hn:us.length≤65536:=by have:=hok.len;rwa [List.length_map]at this
 have Hr:=uQ hr;have Hok:=uQ hok;have Hn:=uQ hn
 clear hr hok hn
 go_enter Tryz.func79,Tryz.ntmps79
 go_wp2_with fail
 refine (uses_c h).mono ?_
 rintro ee w1 ⟨v,rfl,rfl,h1⟩
 clear h
 go_wp2_with fail
 refine (breadF_c ⟨#[72,79,65,82,68,85,83,69]⟩ Bok.mgUse rfl rfl 3 dCz dCz _ Hok.out (fun r hr=>by obtain ⟨u,_,rfl⟩:=List.mem_map.1 hr;rfl) Hr.out h1).mono ?_
 rintro ee w2 ⟨v,rfl,vs,lv,rfl,hvs,h2⟩
 have Hvs:=uQ hvs
 have Hkey:=uQ (show ∀ r∈vs,r.x.key.length=32∧0<r.x.nums.length from fun r hr=>by
  have h1:r.x∈us.map Rep.useRw:=by rw [← hvs];exact List.mem_map_of_mem hr
  have:=Hok.out.row r.x h1
  exact ⟨this.key,by rw [this.len];decide⟩)
 clear h1 hvs
 go_wp2_with fail
 refine (backU_c us vs Hvs.out Hn.out (fun w hw=>Sat.rd hw) (fun r hr=>(numsS_ro hr (Hkey.out r hr).1 (Hkey.out r hr).2).sub sbD) h2).mono ?_
 rintro ee w3 ⟨v,rfl,h3⟩
 clear h2
 go_wp2_with fail
 go_ret2
 exact ⟨_,rfl,_,rfl,h3.sb⟩
theorem breadI_c (us:List (Frm.Bs×Seg.Plc)) (hk:∀ q∈us,q.1.length=32) (hok:Bok.Ok 3 true (us.map Rep.idxRw)) (hr:RS w0 F bv (Bok.book Xx.sum Bok.mgIdx true (us.map Rep.idxRw))) (h:Sat w0 w F) :
  Calls Tryz.prog 78 #[bv] w (Rtn fun v w'=>∃ lv,v = .tuple #[lv,errno 0]∧Sat w0 w' (osl 149 35 lv (us.flatMap kvL)::F)):=by
 have hn:us.length≤65536:=by have:=hok.len;rwa [List.length_map]at this
 have Hr:=uQ hr;have Hok:=uQ hok;have Hn:=uQ hn;have Hk:=uQ hk
 clear hr hok hn hk
 go_enter Tryz.func78,Tryz.ntmps78
 go_wp2_with fail
 refine (index_c h).mono ?_
 rintro ee w1 ⟨v,rfl,rfl,h1⟩
 clear h
 go_wp2_with fail
 refine (breadT_c ⟨#[72,79,65,82,68,73,68,88]⟩ Bok.mgIdx rfl rfl 3 dCz dCz _ Hok.out Hr.out h1).mono ?_
 rintro ee w2 ⟨v,rfl,vs,lv,rfl,hvs,h2⟩
 have Hvs:=uQ hvs
 have Hkey:=uQ (show ∀ r∈vs,r.x.key.length=32∧0<r.x.nums.length from fun r hr=>by
  have h1:r.x∈us.map Rep.idxRw:=by rw [← hvs];exact List.mem_map_of_mem hr
  have:=Hok.out.row r.x h1
  exact ⟨this.key,by rw [this.len];decide⟩)
 clear h1 hvs
 go_wp2_with fail
 refine (backI_c us vs Hvs.out Hn.out Hk.out (fun w hw=>Sat.rd hw) (fun r hr=>(numsS_ro hr (Hkey.out r hr).1 (Hkey.out r hr).2).sub sbD) h2).mono ?_
 rintro ee w3 ⟨v,rfl,h3⟩
 clear h2
 go_wp2_with fail
 go_ret2
 exact ⟨_,rfl,_,rfl,h3.sb⟩
end
end Go.Proofs.YtlinnpehkfbnkaaGreatDoor
