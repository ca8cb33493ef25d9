import Derived.Test.YtlimfgdbfadohaaGreatDoorJ8
import Derived.Laws.BitsAllLaws
set_option linter.unusedVariables false
set_option maxHeartbeats 128000000
namespace Go.Proofs.YtlimfgdbfadohaaGreatDoor
open Go Go.Sl Go.Med Go.MapKept Go.RowKit
theorem or16:∀ x,x<16→∀ y,y<16→bits .or .i64 (((x * 16:Nat)):Int) ((y:Nat):Int)=((x * 16+y:Nat):Int):=by decide +kernel
theorem tok_ex (A m:Nat):∃ (x y t u:Nat) (c:UInt8),min (A:Int) 15=(x:Int)∧min (m:Int) 15=(y:Int)∧(x:Int) * 16=(t:Int)∧bits .or .i64 (t:Int) (y:Int)=(u:Int)∧IntKind.u8.wrap (u:Int)=(c.toNat:Int)∧UInt8.ofNat (min A 15 * 16+min m 15)=c:=by
 refine ⟨min A 15,min m 15,min A 15 * 16,min A 15 * 16+min m 15,_,by omega,by omega,by omega,or16 _ oQ _ oQ,?_,rfl⟩
 rw [IntKind.wrap_u8,UInt8.toNat_ofNat'];omega
section
variable {w0 w:World}{F:List HProp}{p:Nat}{ov bv:Value}{out lit:Frm.Bs}
set_option maxRecDepth 20000 in
theorem lzlast_c (hl:lit.length<270) (ho:out.length≤100000) (hr:RS w0 F bv lit) (h:Sat w0 w (pt p (.cells #[ov] 234 (0,0))::bsl ov out::F)) :
  Calls Tryz.prog 137 #[ptr p,bv,.int .i64 0,.int .i64 0] w (Rtn fun _ w'=>∃ v',Sat w0 w' (pt p (.cells #[v'] 234 (0,0))::bsl v' (out++Lz.seqB lit 0 0)::F)):=by
 obtain ⟨ba,bc,rfl,y1,y2⟩:=hr.len (h.sb:Sat w0 w F)
 obtain ⟨oa,on,oc,rfl,x1,x2,x3⟩:=bsl_cap' h.pick1
 clear x1 x2 x3 y1 y2
 obtain ⟨A,hA⟩:∃ A,lit.length=A:=⟨_,rfl⟩
 obtain ⟨x,y,t,u,c,hx,hy,ht,hu,hc,hcc⟩:=tok_ex A 0
 have hy:min (0:Int) 15=(y:Int):=hy
 have He:=uQ (show Lz.seqB lit 0 0=([c]++Lz.tail4 A)++lit by
  unfold Lz.seqB
  rw [hA,if_pos rfl,List.append_nil,show 0 - 4=0 from rfl,hcc])
 have Ho:=uQ ho;have Hr:=uQ hr
 have Hl:=uQ (show A<270 by omega)
 have HA:=uQ hA
 rw [hA]
 have e0:w.cell? ⟨p,0,none⟩=some (.slice oa on oc):=h.cellP pick0 0 rfl
 clear hr hl ho hcc hA
 go_enter Tryz.func137,Tryz.ntmps137
 go_wp2_with (first
  |((with_reducible refine at_build1 ⟨?_⟩);refine wl_build1 (e:=5) (sz:=1) (by':=1) kRz h rFz (cs:=#[.int .u8 c.toNat]) rfl rfl nLz ?_;intro bN wN hN)
  |(with_reducible apply at_append))
 refine ⟨wl_app 5 1 1 kRz hN rFz rFz (xs:=bys out) pick2 pick0 rFz (Nat.le_refl 1) rFz (by rw [bys_len];have:=Ho.out;omega) (by show 1≤65536;decide) dCz (ys:=bys [c]) rfl ?_⟩
 intro bA nA cA wA hA
 rw [← bys_append]at hA
 clear hN e0 h hx hy ht hu hc
 go_wp2_with (with_reducible apply at_store)
 refine ⟨wl_store (cs':=#[.slice (some ⟨bA,0,none⟩) nA cA]) (hA.sb:Sat w0 wA (pt p (.cells #[.slice oa on oc] 234 (0,0))::bsl (.slice (some ⟨bA,0,none⟩) nA cA) (out++[c])::F)) rFz evD rFz upd0 nLz kRz rFz ?_⟩
 intro w3 h3
 clear hA
 by_cases h15:15≤A
 focus
  have c15:(15:Int)≤(A:Int):=oQ
  have hmr:=lzmore_c h15 Hl.out (out:=out++[c]) (by rw [List.length_append,List.length_singleton];have:=Ho.out;omega) h3
  clear h3 h15
  go_wp2_with fail
  refine hmr.mono ?_
  rintro ee w4 ⟨v,rfl,vv,h4⟩
  clear hmr
  rw [List.append_assoc]at h4
 rotate_left
 focus
  have c15:¬ (15:Int)≤(A:Int):=oQ
  have h4:Sat w0 w3 (pt p (.cells #[.slice (some ⟨bA,0,none⟩) nA cA] 234 (0,0))::bsl (.slice (some ⟨bA,0,none⟩) nA cA) (out++([c]++Lz.tail4 A))::F):=by
   rw [Lz.tail4_small Hl.out,if_neg h15,List.append_nil];exact h3
  clear h3 h15
 all_goals
  obtain ⟨va,vn,vc,q0,x1,x2,x3⟩:=bsl_cap' h4.pick1
  (try subst q0)
  clear x1 x2 x3
  have e0:=h4.cellP pick0 0 rfl
  go_wp2_with (with_reducible apply at_append)
  refine ⟨wl_appD 5 1 1 kRz h4 rFz rFz (xs:=bys (out++([c]++Lz.tail4 A))) (ys:=bys lit) pick1 (by rw [← HA.out];exact Hr.out.rd _ h4.drop.drop) (bys_one _) (by rw [bys_len,bys_len,List.length_append,List.length_append,HA.out];have:=Ho.out;have:=Hl.out;have:=Lz.tail4_len Hl.out;show out.length+(1+(Lz.tail4 A).length)+A≤2147483648;omega) dCz ?_⟩
  intro v5 w5 h5
  rw [← bys_append,List.append_assoc]at h5
  obtain ⟨ta,tn,tc,rfl,x1,x2,x3⟩:=bsl_cap' (show Sat w0 w5 (bsl v5 (out++(([c]++Lz.tail4 A)++lit))::_) from h5)
  clear x1 x2 x3 h4 e0
  go_wp2_with (with_reducible apply at_store)
  refine ⟨wl_store (cs':=#[.slice ta tn tc]) (h5.pick pick1) rFz evD rFz upd0 nLz kRz rFz ?_⟩
  intro w6 h6
  clear h5 c15
  go_wp2_with fail
  go_end0
  exact ⟨_,rfl,_,by rw [He.out];exact h6⟩
set_option maxRecDepth 20000 in
theorem lzseq_c {d n:Nat} (hl:lit.length<270) (hd:d≤65535) (hn:4≤n) (hn2:n<270) (ho:out.length≤100000) (hr:RS w0 F bv lit) (h:Sat w0 w (pt p (.cells #[ov] 234 (0,0))::bsl ov out::F)) :
  Calls Tryz.prog 137 #[ptr p,bv,.int .i64 d,.int .i64 n] w (Rtn fun _ w'=>∃ v',Sat w0 w' (pt p (.cells #[v'] 234 (0,0))::bsl v' (out++Lz.seqB lit d n)::F)):=by
 obtain ⟨ba,bc,rfl,y1,y2⟩:=hr.len (h.sb:Sat w0 w F)
 obtain ⟨oa,on,oc,rfl,x1,x2,x3⟩:=bsl_cap' h.pick1
 clear x1 x2 x3 y1 y2
 obtain ⟨A,hA⟩:∃ A,lit.length=A:=⟨_,rfl⟩
 obtain ⟨m,hm⟩:∃ m,n - 4=m:=⟨_,rfl⟩
 obtain ⟨x,y,t,u,c,hx,hy,ht,hu,hc,hcc⟩:=tok_ex A m
 have He:=uQ (show Lz.seqB lit d n=(([c]++Lz.tail4 A)++lit)++(Frm.le d 2++Lz.tail4 m) by
  unfold Lz.seqB
  rw [hA,hm,if_neg oQ,hcc])
 have c0:(0:Int)<(n:Int):=oQ
 have hw4:IntKind.i64.wrap ((n:Int) - 4)=(m:Int):=by rw [IntWalk.i64_in _ oQ];omega
 have z1:((n:Int)==0)=false:=by rw [beq_eq_false_iff_ne];omega
 have hwd:IntKind.u64.wrap (d:Int)=(d:Int):=by rw [IntKind.wrap_u64];omega
 have hwd2:(d:Int)%18446744073709551616=(d:Int):=oQ
 have Hd:=uQ hd;have Hm:=uQ (show m<270 by omega);have Hz:=uQ (And.intro z1 (And.intro hwd hwd2))
 have Ho:=uQ ho;have Hr:=uQ hr
 have Hl:=uQ (show A<270 by omega)
 have HA:=uQ hA
 rw [hA]
 have e0:w.cell? ⟨p,0,none⟩=some (.slice oa on oc):=h.cellP pick0 0 rfl
 clear hr hl ho hcc hA hd hn hn2 hm z1 hwd hwd2
 go_enter Tryz.func137,Tryz.ntmps137
 go_wp2_with (first
  |((with_reducible refine at_build1 ⟨?_⟩);refine wl_build1 (e:=5) (sz:=1) (by':=1) kRz h rFz (cs:=#[.int .u8 c.toNat]) rfl rfl nLz ?_;intro bN wN hN)
  |(with_reducible apply at_append))
 refine ⟨wl_app 5 1 1 kRz hN rFz rFz (xs:=bys out) pick2 pick0 rFz (Nat.le_refl 1) rFz (by rw [bys_len];have:=Ho.out;omega) (by show 1≤65536;decide) dCz (ys:=bys [c]) rfl ?_⟩
 intro bA nA cA wA hA
 rw [← bys_append]at hA
 clear hN e0 h hx hy ht hu hc c0 hw4
 go_wp2_with (with_reducible apply at_store)
 refine ⟨wl_store (cs':=#[.slice (some ⟨bA,0,none⟩) nA cA]) (hA.sb:Sat w0 wA (pt p (.cells #[.slice oa on oc] 234 (0,0))::bsl (.slice (some ⟨bA,0,none⟩) nA cA) (out++[c])::F)) rFz evD rFz upd0 nLz kRz rFz ?_⟩
 intro w3 h3
 clear hA
 by_cases h15:15≤A
 focus
  have c15:(15:Int)≤(A:Int):=oQ
  have hmr:=lzmore_c h15 Hl.out (out:=out++[c]) (by rw [List.length_append,List.length_singleton];have:=Ho.out;omega) h3
  clear h3 h15
  go_wp2_with fail
  refine hmr.mono ?_
  rintro ee w4 ⟨v,rfl,vv,h4⟩
  clear hmr
  rw [List.append_assoc]at h4
 rotate_left
 focus
  have c15:¬ (15:Int)≤(A:Int):=oQ
  have h4:Sat w0 w3 (pt p (.cells #[.slice (some ⟨bA,0,none⟩) nA cA] 234 (0,0))::bsl (.slice (some ⟨bA,0,none⟩) nA cA) (out++([c]++Lz.tail4 A))::F):=by
   rw [Lz.tail4_small Hl.out,if_neg h15,List.append_nil];exact h3
  clear h3 h15
 all_goals
  obtain ⟨va,vn,vc,q0,x1,x2,x3⟩:=bsl_cap' h4.pick1
  (try subst q0)
  clear x1 x2 x3
  have e0:=h4.cellP pick0 0 rfl
  go_wp2_with (with_reducible apply at_append)
  refine ⟨wl_appD 5 1 1 kRz h4 rFz rFz (xs:=bys (out++([c]++Lz.tail4 A))) (ys:=bys lit) pick1 (by rw [← HA.out];exact Hr.out.rd _ h4.drop.drop) (bys_one _) (by rw [bys_len,bys_len,List.length_append,List.length_append,HA.out];have:=Ho.out;have:=Hl.out;have:=Lz.tail4_len Hl.out;show out.length+(1+(Lz.tail4 A).length)+A≤2147483648;omega) dCz ?_⟩
  intro v5 w5 h5
  rw [← bys_append,List.append_assoc]at h5
  obtain ⟨ta,tn,tc,rfl,x1,x2,x3⟩:=bsl_cap' (show Sat w0 w5 (bsl v5 (out++(([c]++Lz.tail4 A)++lit))::_) from h5)
  clear x1 x2 x3 h4 e0
  go_wp2_with (with_reducible apply at_store)
  refine ⟨wl_store (cs':=#[.slice ta tn tc]) (h5.pick pick1) rFz evD rFz upd0 nLz kRz rFz ?_⟩
  intro w6 h6
  clear h5 c15
  obtain ⟨z1,hwd,hwd2⟩:=Hz.out
  go_wp2_with fail
  have h7:=h6.drew
  have hG:World.cell? _ ⟨p,0,none⟩=some (.slice ta tn tc):=h7.cellP pick0 0 rfl
  clear h6
  refine wpL_begin [8,9,10,11] (fun w'=>w'.cell? ⟨p,0,none⟩=some (.slice ta tn tc)) kRz ?_
  refine rP 0 ?_ (y:=mvQ)
  refine rP 1 ?_ (y:=mvQ)
  refine rP 2 ?_ (y:=nlQ)
  refine rP 3 ?_ (y:=flQ)
  refine rt 4 (h:=?_)
  clear hG
  refine rP 5 ?_ (y:=mvQ)
  refine rP 6 ?_ (y:=(yl_conv evD rnD))
  refine rg_eff 7 evD kRz (fun K hK=>?_)
  (refine eff_call2 kRz evD evD ?_)
  refine (put2_c d (by have:=Hd.out;omega) h7).mono ?_
  rintro ee w8 ⟨v,rfl,h8,pa,rfl⟩
  refine hK _ _ (.inr (.inl (h8.cellP pick1 0 rfl))) ?_
  clear hK h7 z1 hwd hwd2
  refine rg_eff 8 evD kRz (fun K hK=>?_)
  refine eff_appG 1 1 kRz (xs:=bys (out++(([c]++Lz.tail4 A)++lit))) (h8.pick pick2) evD evD (ys:=bys (Frm.le d 2)) (Sat.rd h8) (bys_one _) (by rw [bys_len,bys_len,List.length_append,List.length_append,List.length_append,HA.out,Frm.le_len];have:=Ho.out;have:=Hl.out;have:=Lz.tail4_len Hl.out;show out.length+(1+(Lz.tail4 A).length+A)+2≤2147483648;omega) dCz ?_
  intro v9 w9 h9
  refine hK _ _ (.inl rfl) ?_
  rw [← bys_append,List.append_assoc]at h9
  obtain ⟨xa,xn,xc,rfl,x1,x2,x3⟩:=bsl_cap' (show Sat w0 w9 (bsl v9 (out++((([c]++Lz.tail4 A)++lit)++Frm.le d 2))::_) from h9)
  clear hK h8 x1 x2 x3
  refine rP 9 ?_ (y:=nlQ)
  refine rP 10 ?_ (y:=flQ)
  refine rg_eff 11 evD kRz (fun K hK=>?_)
  refine eff_store (cs':=#[.slice xa xn xc]) (v:= .slice xa xn xc) (h9.sb:Sat w0 w9 (pt p (.cells #[.slice ta tn tc] 234 (0,0))::bsl (.slice xa xn xc) (out++((([c]++Lz.tail4 A)++lit)++Frm.le d 2))::F)) evD evD rFz upd0 nLz kRz rFz ?_
  intro w10 h10
  refine hK _ _ (.inl rfl) ?_
  clear hK h9
  refine wpL_done kRz ?_
  by_cases hm15:15≤m
  ·have c15:(15:Int)≤(m:Int):=by omega
   have hmr:=lzmore_c hm15 Hm.out (by rw [List.length_append,List.length_append,List.length_append,List.length_append,HA.out,Frm.le_len];have:=Ho.out;have:=Hl.out;have:=Lz.tail4_len Hl.out;show out.length+(1+(Lz.tail4 A).length+A+2)≤1000000;omega) h10
   clear h10 hm15
   go_wp2_with fail
   refine hmr.mono ?_
   rintro ee w11 ⟨v,rfl,vv,h11⟩
   clear hmr
   go_wp2_with fail
   go_end0
   exact ⟨_,rfl,vv,by rw [He.out];simpa only [List.append_assoc] using h11⟩
  ·have c15:¬ (15:Int)≤(m:Int):=by omega
   have He2:=uQ (show Lz.tail4 m=[] by rw [Lz.tail4_small Hm.out,if_neg hm15])
   clear hm15
   go_wp2_with fail
   go_end0
   exact ⟨_,rfl,_,by rw [He.out,He2.out,List.append_nil];exact h10⟩
end
def tabN (N:Nat) (T:Nat→Nat):Array Value:=((List.range N).map fun x=>Value.int .i64 (T x:Nat)).toArray
theorem tabN_size (N:Nat) (T:Nat→Nat):(tabN N T).size=N:=by unfold tabN;rw [List.size_toArray,List.length_map,List.length_range]
theorem tabN_at {N:Nat}{T:Nat→Nat}{i:Nat} (h:i<N):(tabN N T)[i]?=some (.int .i64 (T i:Nat)):=by
 unfold tabN
 rw [List.getElem?_toArray,List.getElem?_map,List.getElem?_range h];rfl
theorem tabN_zero (N:Nat):(Array.replicate N (Value.int .i64 0))=tabN N (fun _=>0):=by
 apply Array.ext_getElem?
 intro j
 by_cases hj:j<N
 ·rw [tabN_at hj,Array.getElem?_replicate,if_pos hj];rfl
 ·rw [Array.getElem?_eq_none (by rw [Array.size_replicate];omega),Array.getElem?_eq_none (by rw [tabN_size];omega)]
theorem zTabZ:zeroB Tryz.prog 231=some (.agg (Array.replicate 4096 (.int .i64 0))):=by kernel_rfl
structure TabIs (A:Array Value) (T:Nat→Nat):Prop where
 size:A.size=4096
 at_:∀ i,i<4096→A[i]?=some (.int .i64 (T i:Nat))
theorem zTabN:∃ A,zeroB Tryz.prog 231=some (.agg A)∧TabIs A (fun _=>0):=⟨_,zTabZ.trans (by rw [tabN_zero]),tabN_size _ _,fun i hi=>tabN_at hi⟩
theorem TabIs.put {A:Array Value}{T:Nat→Nat} (h:TabIs A T){i:Nat} (hi:i<4096) (x:Nat):∃ A',putsAt A i [.int .i64 (x:Nat)]=A'∧TabIs A' (fun j=>if j=i then x else T j):=by
 refine ⟨_,rfl,?_,fun j hj=>?_⟩
 ·show (A.setIfInBounds i _).size=_
  rw [Array.size_setIfInBounds];exact h.size
 ·show (A.setIfInBounds i _)[j]?=_
  by_cases e:j=i
  ·subst e
   rw [Array.getElem?_setIfInBounds_self_of_lt (by rw [h.size];exact hj),if_pos rfl]
  ·rw [Array.getElem?_setIfInBounds_ne (fun c=>e c.symm),h.at_ j hj,if_neg e]
theorem run_blk0 (w:World):(Instr.build 234 #[]).run Tryz.prog w = .ok (.agg #[.slice none 0 0]) w:=by kernel_rfl
section
variable {P:Program}{ops:Array Oper}{a:Act}{dst:Option Tmp}{t ty:TypeId}{pos:String}{after:Array Edge}{x y z:Operand}{v vx vy vz:Value}{g:Option (Nat×Bool)}
theorem eg_skip {op:Oper}{w:World}{K:Act→World→Prop}{Q:Exit→Act→World→Prop} (hw:Region.wanted op (yielded ops a.tmps)=false) (h:K (a.put op.dst undef) w):if Region.wanted op (yielded ops a.tmps)=true then Oper.wp P op a w K Q else K (a.put op.dst undef) w:=by
 rw [if_neg (by rw [hw];decide)];exact h
theorem yg_slLH (hw:Region.wanted ⟨dst,.slice ty x (some y) (some z) none,t,pos,after,g⟩ (yielded ops a.tmps)=true) (hx:a.eval x=vx) (hy:a.eval y=vy) (hz:a.eval z=vz) (hr:∀ w,(Instr.sliceAt ty vx (some vy) (some vz) none).run P w = .ok v w):Yields P ops ⟨dst,.slice ty x (some y) (some z) none,t,pos,after,g⟩ v a:=
 .inl ⟨hw,fun w=>by simp only [execOp,hx,hy,hz,Option.map_some,Option.map_none,Sem.run_bind,hr,Result.andThen_ok,Sem.run_pure]⟩
end
section
variable {P:Program}{w:World}{ops:Array Oper}{rest:List Oper}{a:Act}{Q:Exit→Act→World→Prop}{dst:Option Tmp}{t ty:TypeId}{pos:String}{after:Array Edge}{x y:Operand}{v vx vy:Value}
theorem wl_ixa (hx:a.eval x=vx) (hy:a.eval y=vy) (hr:∀ w,(Instr.indexAt ty vx vy).run P w = .ok v w) (h:wpList P ops Q rest (a.put dst v) w):wpList P ops Q (⟨dst,.indexAddr ty x y,t,pos,after,none⟩::rest) a w:=
 wpList_plain rfl fun _ hK=>by
  unfold Oper.wp execOp
  simp only [hx,hy,Sem.run_bind,hr,Result.andThen_ok,Sem.run_pure]
  exact hK _ _ h
theorem at_ixa (h:Stop (wpList P ops Q (⟨dst,.indexAddr ty x y,t,pos,after,none⟩::rest) a w)):wpList P ops Q (⟨dst,.indexAddr ty x y,t,pos,after,none⟩::rest) a w:=h.out
theorem run_ixa {e:TypeId}{N b i:Nat}{k:IntKind} (hu:P.underlying ty=some (.array N e)) (hs:∀ w,(sizeOf e).run P w = .ok 1 w) (hi:i<N) (w:World):(Instr.indexAt ty (.pointer (some ⟨b,0,none⟩)) (.int k (i:Int))).run P w = .ok (.pointer (some ⟨b,i,none⟩)) w:=by
 have h1:(0:Int)≤(i:Int)∧(i:Int)<(N:Int):=oQ
 unfold Instr.indexAt
 simp only [asIntOf,Sem.run_bind,Sem.run_pure,Result.andThen_ok,run_underlying hu,Instr.sureAddr,hs,if_pos h1,Int.toNat_natCast,Nat.mul_one,add_zero_lit]
end
theorem sizeInt (w:World):(sizeOf 3).run Tryz.prog w = .ok 1 w:=by kernel_rfl
section
variable {w0 w:World}{F:List HProp}{p:Nat}{ov bv:Value}{out b:Frm.Bs}
theorem slice_lh {ba:Option Addr}{bc i j:Nat} (hr:RS w0 F (.slice ba b.length bc) b) (hbc:b.length≤bc) (h1:i≤j) (h2:j≤b.length):∃ a c,(∀ w,(Instr.sliceAt 27 (.slice ba b.length bc) (some (.int .i64 i)) (some (.int .i64 j)) none).run Tryz.prog w = .ok (.slice a (j - i) c) w)∧RS w0 F (.slice a (j - i) c) (Lz.cut b i j):=by
 have hm:=RS.mid hr h1 h2
 have e:Lz.cut b i j=(b.drop i).take (j - i):=by unfold Lz.cut;rw [List.drop_take]
 rw [← e]at hm
 refine ⟨_,_,fun w=>(run_slLH h1 oQ w).trans ?_,hm⟩
 rfl
set_option maxRecDepth 20000 in
theorem squeeze_c (hl:b.length≤250) (hr:RS w0 F bv b) (h:Sat w0 w F) :
  Calls Tryz.prog 91 #[bv] w (Rtn fun v w'=>∃ ra rn rc,v = .tuple #[.slice ra rn rc,errno 0]∧Sat w0 w' (bsl (.slice ra rn rc) (Lz.blk b)::F)):=by
 obtain ⟨ba,bc,rfl,hc1,hc2⟩:=hr.len h
 have Hr:=uQ hr;have Hl:=uQ hl;have Hc:=uQ hc1
 have k1:¬ (65536:Int)<(b.length:Int):=oQ
 have k2:IntKind.i64.wrap ((b.length:Int) - 12)=(b.length:Int) - 12:=IntWalk.i64_in _ oQ
 clear hr hl hc1 hc2
 go_enter Tryz.func91,Tryz.ntmps91
 go_wp2_with (with_reducible apply at_alloc)
 refine ⟨?_⟩
 obtain ⟨A0,hz0,hA0⟩:=zTabN
 refine wl_alloc hz0 h rfl ?_
 intro b5 w5 h5
 have h5:Sat w0 w5 (pt b5 (.cells A0 231 (0,0))::F):=h5
 clear h k1 hz0
 go_wp2_with (first
  |((with_reducible apply ug_at_build);refine ⟨?_⟩;refine wl_bld rFz run_blk0 ?_)
  |(with_reducible apply at_box))
 refine ⟨wl_box h5 rFz rFz ?_⟩
 intro p w7 h7
 have h8:Sat w0 w7 (pt b5 (.cells A0 231 (0,0))::pt p (.cells #[.slice none 0 0] 234 (0,0))::bsl (.slice none 0 0) []::F):=
  (Sat.osl_nil.2 h7:Sat w0 w7 (bsl (.slice none 0 0) []::pt p (.cells #[.slice none 0 0] 234 (0,0))::pt b5 (.cells A0 231 (0,0))::F)).sb
 clear h5 h7
 go_wp2_with fail
 try go_frame
 go_loopg [7,8] (b.length+1) (fun g tq iq wr=>∃ (f told i:Nat) (T:Nat→Nat) (ps:List Lz.Part) (v':Value) (A:Array Value),f=g∧tq = .int .i64 told∧iq = .int .i64 i∧Lz.parts b (Lz.hsh b)=Lz.sqz b (Lz.hsh b) f T told i ps∧b.length+1≤i+f∧Lz.Inv b T told i ps∧(Lz.flat ps).length≤2 * told∧TabIs A T∧Sat w0 wr (pt b5 (.cells A 231 (0,0))::pt p (.cells #[v'] 234 (0,0))::bsl v' (Lz.flat ps)::F))
 case atStart=>exact ⟨b.length+1,0,0,_,[],_,A0,rfl,rfl,rfl,rfl,by omega,⟨Nat.le_refl _,Nat.zero_le _,fun _=>Nat.le_refl _,rfl,trivial⟩,Nat.le_refl _,hA0,h8⟩
 case round=>
  obtain ⟨f,told,i,T,ps,v',A,rfl,rfl,rfl,hpt,hf,hI,hfl,hA,hS⟩:=hrel
  clear h8 hA0
  have hb:=Hl.out
  have hle:=hI.le
  have hib:=hI.ib
  by_cases hi:i+12≤b.length
  rotate_left
  focus
   as_aux_lemma=>
    have c1:¬ (i:Int)≤(b.length:Int) - 12:=oQ
    have Hpt:=uQ (show Lz.parts b (Lz.hsh b)=(ps,told) by
     rw [hpt]
     cases f with
     |zero=>rfl
     |succ f=>rw [Lz.sqz,if_neg hi])
    have htl:told≤b.length:=oQ
    have hsl:=fun w=>run_slF (a:=ba) (n:=b.length) (c:=bc) (k:=told) htl w
    have hrd:=Hr.out.from htl
    obtain ⟨a2,c2,he⟩:∃ a2 c2,sliced ba told b.length bc 1 = .slice a2 (b.length - told) c2:=⟨_,_,rfl⟩
    rw [he]at hrd
    simp only [he]at hsl
    have hseq:=uQ (fun (w':World) (hw:Sat w0 w' (pt p (.cells #[v'] 234 (0,0))::bsl v' (Lz.flat ps)::F))=>lzlast_c (by rw [List.length_drop];omega) oQ hrd hw)
    have hS2:Sat w0 _ (pt p (.cells #[v'] 234 (0,0))::bsl v' (Lz.flat ps)::F):=hS.sb
    have Hb:=uQ (show Lz.blk b=Lz.flat ps++Lz.seqB (b.drop told) 0 0 by unfold Lz.blk Lz.block;rw [Hpt.out];rfl)
    clear hS hpt hf hI hfl hle hib hi htl hrd he hb Hpt
    go_wp2_with ((with_reducible refine at_slF ⟨?_⟩);refine wl_slF rFz rFz hsl ?_)
    refine (hseq.out _ hS2).mono ?_
    rintro ee w8 ⟨v,rfl,vv,h8⟩
    obtain ⟨va,vn,vc,rfl,x1,x2,x3⟩:=bsl_cap' h8.pick1
    clear x1 x2 x3
    have e0:w8.cell? ⟨p,0,none⟩=some (.slice va vn vc):=h8.cellP pick0 0 rfl
    have Hsh:=uQ (h8.sb:Sat w0 w8 (bsl (.slice va vn vc) (Lz.flat ps++Lz.seqB (b.drop told) 0 0)::F))
    clear h8 hS2 hseq
    go_wp2_with fail
    go_ret2
    exact ⟨_,rfl,va,vn,vc,rfl,by rw [Hb.out];exact Hsh.out⟩
  obtain ⟨f,rfl⟩:∃ g,f=g+1:=⟨f - 1,by omega⟩
  have hT:=hI.T (Lz.hsh b i)
  have hHl:=Lz.hsh_lt b i
  have c1:(i:Int)≤(b.length:Int) - 12:=oQ
  have hil:i≤b.length:=hib
  have hsl:∀ w,(Instr.sliceAt 27 (.slice ba b.length bc) (some (.int .i64 i)) none none).run Tryz.prog w = .ok (sliced ba i b.length bc 1) w:=fun w=>run_slF (a:=ba) (n:=b.length) (c:=bc) (k:=i) hil w
  have hrd:=Hr.out.from hil
  obtain ⟨a2,c2,he⟩:∃ a2 c2,sliced ba i b.length bc 1 = .slice a2 (b.length - i) c2:=⟨_,_,rfl⟩
  rw [he]at hrd
  simp only [he]at hsl
  have hha:=hash_c (b:=b.drop i) (by rw [List.length_drop];omega) (hrd.more sbD) hS
  rw [show Lz.hsh (b.drop i) 0=Lz.hsh b i by unfold Lz.hsh;rw [List.drop_zero]]at hha
  have Hst:=uQ (show Lz.parts b (Lz.hsh b)=if T (Lz.hsh b i)=0∨65535<i - (T (Lz.hsh b i) - 1)∨Lz.cut b (T (Lz.hsh b i) - 1) (T (Lz.hsh b i) - 1+4)≠Lz.cut b i (i+4) then Lz.sqz b (Lz.hsh b) f (fun x=>if x=Lz.hsh b i then i+1 else T x) told (i+1) ps
   else Lz.sqz b (Lz.hsh b) f (fun x=>if x=Lz.hsh b i then i+1 else T x) (i+Lz.common b (T (Lz.hsh b i) - 1) i (b.length - 5) b.length 0) (i+Lz.common b (T (Lz.hsh b i) - 1) i (b.length - 5) b.length 0)
    (ps++[(Lz.cut b told i,i - (T (Lz.hsh b i) - 1),Lz.common b (T (Lz.hsh b i) - 1) i (b.length - 5) b.length 0)]) by rw [hpt,Lz.sqz,if_pos hi])
  have HI:=uQ hI
  generalize Lz.hsh b i=H at *
  have e0:wr.cell? ⟨b5,H,none⟩=some (.int .i64 (T H:Nat)):=hS.cellP pick0 H (hA.at_ H hHl)
  have hix:=fun (w:World)=>run_ixa (P:=Tryz.prog) (k:= .u32) (b:=b5) Tryz.underlying231 sizeInt hHl w
  obtain ⟨A',hput,hA'⟩:=hA.put hHl (i+1)
  have Hput:=uQ hput
  have Hsz:=uQ (show H+1≤A.size by rw [hA.size];omega)
  obtain ⟨i1,hi1⟩:∃ i1,i+1=i1:=⟨_,rfl⟩
  have hwi:IntKind.i64.wrap ((i:Int)+1)=(i1:Int):=by rw [IntWalk.i64_in _ oQ];omega
  rw [hi1]at Hput hA'
  have HA':=uQ hA'
  have Hi1:=uQ hi1
  obtain ⟨z,hz⟩:∃ z:Int,(T H:Int) - 1=z:=⟨_,rfl⟩
  have hwz:IntKind.i64.wrap ((T H:Int) - 1)=z:=by rw [IntWalk.i64_in _ oQ];exact hz
  have Hh:=uQ (And.intro hHl (And.intro hT (And.intro hi (And.intro hf (And.intro hfl (And.intro hle hz))))))
  have Hrd:=uQ hrd
  clear hpt hI hT hHl hi hf hfl hle hib hil hz hrd he hb hi1 hA hA' hput
  go_wp2_with ((with_reducible refine at_slF ⟨?_⟩);refine wl_slF rFz rFz hsl ?_)
  refine hha.mono ?_
  rintro ee w8 ⟨v,rfl,rfl,rfl⟩
  clear hha hsl
  go_wp2_with (first
   |((with_reducible refine at_ixa ⟨?_⟩);refine wl_ixa rFz rFz hix ?_)
   |(with_reducible apply at_store))
  refine ⟨wl_store (cs':=A') hS rFz evD Hput.out upd0 (show H+1≤A.size from Hsz.out) kRz rFz ?_⟩
  intro w9 h9
  clear hS e0 hix
  obtain ⟨q1,q2,q3,q4,q5,q6,q7⟩:=Hh.out
  have hb:=Hl.out
  have Hsk:=uQ (HI.out.skip q3 H)
  rw [Hi1.out]at Hsk Hst
  by_cases h0:T H=0
  ·as_aux_lemma=>
    have cz:z<0:=oQ
    have czd:decide (z<0)=true:=decide_eq_true cz
    have Hp:=uQ (Hst.out.trans (if_pos (.inl h0)))
    have Hm:=uQ (And.intro (show b.length+1≤i1+f by have:=Hi1.out;omega) q5)
    have h10:=h9.drew
    clear q1 q2 q3 q4 q5 q6 q7 h0 hb h9
    have hG:True:=trivial
    go_wp2_with fail
    refine wpL_begin [] (fun _=>True) kRz ?_
    refine rP 0 ?_ (y:=mvQ)
    refine rP 1 ?_ (y:=bnQ)
    refine rP 2 ?_ (y:=mvQ)
    refine rg_skip 3 evD kRz i3z rFz gQ ?_
    refine rg_skip 4 evD kRz i3z rFz gQ ?_
    refine rg_skip 5 evD kRz i3z rFz gQ ?_
    refine rg_skip 6 evD kRz i3z rFz gQ ?_
    refine rP 7 ?_ (y:=(yg_pick rFz evD evD))
    refine rP 8 ?_ (y:=mvQ)
    refine rg_skip 9 evD kRz i3z rFz gQ ?_
    refine rg_skip 10 evD kRz i3z rFz gQ ?_
    refine rg_skip 11 evD kRz i3z rFz gQ ?_
    refine rg_skip 12 evD kRz i3z rFz gQ ?_
    refine rg_skip 13 evD kRz i3z rFz gQ ?_
    refine rg_skip 14 evD kRz i3z rFz gQ ?_
    refine rg_skip 15 evD kRz i3z rFz gQ ?_
    refine rg_skip 16 evD kRz i3z rFz gQ ?_
    refine rg_skip 17 evD kRz i3z rFz gQ ?_
    refine rg_skip 18 evD kRz i3z rFz gQ ?_
    refine rg_eff 19 evD kRz (fun K hK=>?_)
    refine eg_skip rFz (hK _ _ (.inr (.inr rfl)) ?_)
    clear hK
    refine rg_skip 20 evD kRz i3z rFz gQ ?_
    refine rP 21 ?_ (y:=(yg_pick rFz evD evD))
    refine wpL_done kRz ?_
    go_wp2_with fail
    go_roundg f
    case measure=>exact Nat.lt_succ_self f
    case rel=>exact ⟨f,told,i1,_,ps,v',A',rfl,rfl,by first|rfl|go_num,Hp.out,Hm.out.1,Hsk.out,Hm.out.2,HA'.out,h10⟩
  obtain ⟨c,hc⟩:∃ c,T H - 1=c:=⟨_,rfl⟩
  obtain rfl:z=(c:Int):=by omega
  have hci:c<i:=oQ
  rw [hc]at Hst
  obtain ⟨sa,sc,hs1,hr1⟩:=slice_lh (b:=b) (i:=c) (j:=c+4) Hr.out Hc.out oQ oQ
  obtain ⟨ta,tc,hs2,hr2⟩:=slice_lh (b:=b) (i:=i) (j:=i+4) Hr.out Hc.out oQ oQ
  rw [show c+4 - c=4 by omega]at hr1
  simp only [show c+4 - c=4 by omega]at hs1
  rw [show i+4 - i=4 by omega]at hr2
  simp only [show i+4 - i=4 by omega]at hs2
  have h10:=h9.drew
  have heq:=bequal_c _ _ (hr1.rd _ (h10.sb:Sat w0 _ F)) (hr2.rd _ (h10.sb:Sat w0 _ F))
  have cz:decide ((c:Int)<0)=false:=decide_eq_false oQ
  obtain ⟨D,hD⟩:∃ D,i - c=D:=⟨_,rfl⟩
  obtain ⟨c4,hc4⟩:∃ c4,c+4=c4:=⟨_,rfl⟩
  obtain ⟨i4,hi4⟩:∃ i4,i+4=i4:=⟨_,rfl⟩
  rw [hc4]at heq;rw [hi4]at heq
  simp only [hc4]at hs1
  simp only [hi4]at hs2
  have hw1:IntKind.i64.wrap ((i:Int) - (c:Int))=(D:Int):=by rw [IntWalk.i64_in _ oQ];omega
  have cf:decide ((65535:Int)<(D:Int))=false:=decide_eq_false oQ
  have cfn:decide (65535<D)=false:=decide_eq_false oQ
  have hw2:IntKind.i64.wrap ((c:Int)+4)=(c4:Int):=by rw [IntWalk.i64_in _ oQ];omega
  have hw3:IntKind.i64.wrap ((i:Int)+4)=(i4:Int):=by rw [IntWalk.i64_in _ oQ];omega
  have HD:=uQ (And.intro hD (And.intro hc4 hi4))
  have Hdc:=uQ (show T H=c+1 by omega)
  obtain ⟨Q,hQ⟩:∃ Q,decide (Lz.cut b c c4=Lz.cut b i i4)=Q:=⟨_,rfl⟩
  rw [hQ]at heq
  rw [← hc4,← hi4]at hQ
  have HQ:=uQ hQ
  have Hm:=uQ (And.intro q4 (And.intro q5 (And.intro q6 (And.intro q3 hci))))
  obtain ⟨n5,hn5⟩:∃ n5,b.length - 5=n5:=⟨_,rfl⟩
  have hwf:IntKind.i64.wrap ((b.length:Int) - 5)=(n5:Int):=by rw [IntWalk.i64_in _ oQ];omega
  have Hn5:=uQ hn5
  have Hwf:=uQ hwf;have Hwi:=uQ hwi
  clear q1 q2 q3 q4 q5 q6 q7 h0 hb h9 hr1 hr2 hQ hc hci hwz hwi hwf hD hc4 hi4 hn5
  go_wp2_with fail
  have hG:True:=trivial
  refine wpL_begin [] (fun _=>True) kRz ?_
  refine rP 0 ?_ (y:=mvQ)
  refine rP 1 ?_ (y:=bnQ)
  refine rP 2 ?_ (y:=mvQ)
  refine rP 3 ?_ (y:=(yg_move rFz evD))
  refine rP 4 ?_ (y:=(yg_move rFz evD))
  refine rP 5 ?_ (y:=(yg_bin rFz evD evD rnD))
  refine rP 6 ?_ (y:=(yg_bin rFz evD evD rnD))
  refine rP 7 ?_ (y:=(yg_pick rFz evD evD))
  refine rP 8 ?_ (y:=mvQ)
  refine rP 9 ?_ (y:=(yg_move rFz evD))
  refine rP 10 ?_ (y:=(yg_move rFz evD))
  refine rP 11 ?_ (y:=(yg_move rFz evD))
  refine rP 12 ?_ (y:=(yg_bin rFz evD evD rnD))
  refine rP 13 ?_ (y:=(yg_slLH rFz evD evD evD hs1))
  refine rP 14 ?_ (y:=(yg_move rFz evD))
  refine rP 15 ?_ (y:=(yg_move rFz evD))
  refine rP 16 ?_ (y:=(yg_move rFz evD))
  refine rP 17 ?_ (y:=(yg_bin rFz evD evD rnD))
  refine rP 18 ?_ (y:=(yg_slLH rFz evD evD evD hs2))
  refine rg_eff 19 evD kRz (fun K hK=>?_)
  refine eg_call [.slice sa 4 sc,.slice ta 4 tc] rFz kRz rFz ?_
  refine heq.mono ?_
  rintro ee w11 ⟨v,rfl,rfl,rfl⟩
  refine hK _ _ (.inr (.inr rfl)) ?_
  clear hK heq hs1 hs2
  refine rP 20 ?_ (y:=(yg_un rFz evD rnD))
  refine rP 21 ?_ (y:=(yg_pick rFz evD evD))
  refine wpL_done kRz ?_
  cases Q with
  |false=>
   as_aux_lemma=>
    have Hp:=uQ (Hst.out.trans (if_pos (.inr (.inr (of_decide_eq_false HQ.out)))))
    have hwi:=Hwi.out
    clear cz hw1 cf cfn hw2 hw3
    go_wp2_with fail
    go_roundg f
    case measure=>exact Nat.lt_succ_self f
    case rel=>exact ⟨f,told,i1,_,ps,v',A',rfl,rfl,by first|rfl|go_num,Hp.out,by have:=Hm.out;have:=Hi1.out;omega,Hsk.out,Hm.out.2.1,HA'.out,h10⟩
  |true=>
   as_aux_lemma=>
    obtain ⟨q4,q5,q6,q3,hci⟩:=Hm.out
    have heq:=of_decide_eq_true HQ.out
    have hb:=Hl.out
    have hi1:=Hi1.out
    obtain ⟨hD,hc4,hi4⟩:=HD.out
    have hn5:=Hn5.out
    obtain ⟨g1,g2,g3⟩:=HI.out.part q3 H hci oQ heq
    rw [hi1,hD,hn5]at g1;rw [hn5]at g2 g3;rw [hD,hn5]at Hst
    have Hp:=uQ (Hst.out.trans (if_neg (by
     rintro (x|x|x)
     ·have:=Hdc.out;omega
     ·rw [← hD]at x;omega
     ·exact x heq)))
    have hcm:=uQ (fun (w':World) (hw:Sat w0 w' (pt b5 (.cells A' 231 (0,0))::pt p (.cells #[v'] 234 (0,0))::bsl v' (Lz.flat ps)::F))=>common_c (c:=c) (i:=i) (e:=n5) oQ oQ oQ oQ (Hr.out.more sbD) hw)
    generalize Lz.common b c i n5 b.length 0=m at *
    obtain ⟨im,him⟩:∃ im,i+m=im:=⟨_,rfl⟩
    rw [him]at g1 g3 Hp
    obtain ⟨ua,uc,hs3,hr3⟩:=slice_lh (b:=b) (i:=told) (j:=i) Hr.out Hc.out q6 oQ
    have hcl:(Lz.cut b told i).length=i - told:=by unfold Lz.cut;rw [List.length_drop,List.length_take];omega
    have hsq:=uQ (fun (w':World) (hw:Sat w0 w' (pt p (.cells #[v'] 234 (0,0))::bsl v' (Lz.flat ps)::pt b5 (.cells A' 231 (0,0))::F))=>lzseq_c (lit:=Lz.cut b told i) (d:=D) (n:=m) oQ oQ g2 oQ oQ (hr3.more sbD) hw)
    have Hfl:=uQ (show (Lz.flat (ps++[(Lz.cut b told i,D,m)])).length≤2 * im by
     rw [Lz.flat_snoc,List.length_append]
     have:=Lz.seqB_len (lit:=Lz.cut b told i) (d:=D) (n:=m) oQ oQ
     show (Lz.flat ps).length+(Lz.seqB (Lz.cut b told i) D m).length≤2 * im
     omega)
    have Hfs:=uQ (show Lz.flat (ps++[(Lz.cut b told i,D,m)])=Lz.flat ps++Lz.seqB (Lz.cut b told i) D m from Lz.flat_snoc _ _)
    have hwm:IntKind.i64.wrap ((i:Int)+(m:Int))=(im:Int):=by rw [IntWalk.i64_in _ oQ];omega
    have Hg:=uQ (And.intro g1 (show b.length+1≤im+f by omega))
    have hwf:=Hwf.out
    clear cz cf cfn hw2 hw3 q4 q5 q6 q3 hci heq hb g1 g2 g3 hr3 hcl hi1 hD hc4 hi4 hn5 him
    go_wp2_with fail
    refine (hcm.out _ h10).mono ?_
    rintro ee w12 ⟨v,rfl,rfl,h12⟩
    clear hcm h10 hwf
    go_wp2_with ((with_reducible refine at_slice2 ⟨?_⟩);refine wl_slice2 rFz rFz rFz hs3 ?_)
    refine (hsq.out _ (h12.sb)).mono ?_
    rintro ee w13 ⟨v,rfl,vv,h13⟩
    clear hsq h12 hs3
    go_wp2_with fail
    go_roundg f
    case measure=>exact Nat.lt_succ_self f
    case rel=>exact ⟨f,im,im,_,_,vv,A',rfl,by first|rfl|go_num,by first|rfl|go_num,Hp.out,Hg.out.2,Hg.out.1,Hfl.out,HA'.out,by rw [Hfs.out];exact h13.sb⟩
end
abbrev lrPt (q p:Nat) (ov:Value) (most:Nat):HProp:=pt q (.cells #[ptr p,ov,.int .i64 (most:Nat)] 247 (0,0))
section
variable {w0 w:World}{F:List HProp}{v bv rv ov:Value}{p q n k most d:Nat}{l m r out:Frm.Bs}
set_option maxRecDepth 20000 in
theorem rnum1_c {c0:UInt8} (hr:RS w0 F rv (c0::r)) (h:Sat w0 w (rdrPt p rv::F)):Calls Tryz.prog 182 #[ptr p,.int .i64 1] w (Rtn fun v w'=>∃ rv',v = .int .u64 (c0.toNat:Int)∧(∀ F0,RS w0 F0 rv (c0::r)→RS w0 F0 rv' r)∧Sat w0 w' (rdrPt p rv'::F)):=by
 have her:=rerr_c h
 have htk:=rtake_c (k:=1) (m:=c0::r) (by rw [List.length_cons];omega) hr h
 clear hr
 go_enter Tryz.func182,Tryz.ntmps182
 go_wp2_with fail
 refine her.mono ?_
 rintro ee w1 ⟨v,rfl,rfl,rfl⟩
 clear her
 go_wp2_with fail
 refine htk.mono ?_
 rintro ee w2 ⟨v,rfl,ta,tc,ra,rc,rfl,hT,hF,h2⟩
 have hg:=get1_c c0 ta tc (hT.rd w2 h2.drop)
 have HF:=uQ hF
 clear htk h hT hF
 go_wp2_with fail
 refine hg.mono ?_
 rintro ee w3 ⟨v,rfl,rfl,rfl⟩
 clear hg
 go_wp2
 go_ret
 exact ⟨_,rfl,_,rfl,HF.out,h2⟩
set_option maxRecDepth 20000 in
theorem rnum2_c {c0 c1:UInt8} (hr:RS w0 F rv (c0::c1::r)) (h:Sat w0 w (rdrPt p rv::F)):Calls Tryz.prog 182 #[ptr p,.int .i64 2] w (Rtn fun v w'=>∃ rv',v = .int .u64 (Frm.num [c0,c1]:Nat)∧(∀ F0,RS w0 F0 rv (c0::c1::r)→RS w0 F0 rv' r)∧Sat w0 w' (rdrPt p rv'::F)):=by
 have her:=rerr_c h
 have htk:=rtake_c (k:=2) (m:=c0::c1::r) (by rw [List.length_cons,List.length_cons];omega) hr h
 clear hr
 go_enter Tryz.func182,Tryz.ntmps182
 go_wp2_with fail
 refine her.mono ?_
 rintro ee w1 ⟨v,rfl,rfl,rfl⟩
 clear her
 go_wp2_with fail
 refine htk.mono ?_
 rintro ee w2 ⟨v,rfl,ta,tc,ra,rc,rfl,hT,hF,h2⟩
 have hg:=get2_c c0 c1 ta tc (hT.rd w2 h2.drop)
 have HF:=uQ hF
 obtain ⟨N,hN⟩:∃ N,Hid (Frm.num [c0,c1]=N):=⟨_,uQ rfl⟩
 rw [hN.out]at hg
 clear htk h hT hF
 go_wp2_with fail
 refine hg.mono ?_
 rintro ee w3 ⟨v,rfl,rfl,rfl⟩
 clear hg
 go_wp2
 go_ret
 exact ⟨_,rfl,_,by rw [hN.out];rfl,HF.out,h2⟩
theorem rbytesN_c (hk:k≤m.length) (hl:k≤140737488355328) (hr:RS w0 F rv m) (h:Sat w0 w (rdrPt p rv::F)):Calls Tryz.prog 183 #[ptr p,.int .i64 k] w (Rtn fun v w'=>∃ rv',(∀ F0,RS w0 F0 rv m→RS w0 F0 rv' (m.drop k))∧(∃ a n c,v = .slice a n c)∧Sat w0 w' (bsl v (m.take k)::rdrPt p rv'::F)):=by
 have htk:=rtake_c (k:=k) hk hr h
 have Hl:=uQ (show (m.take k).length≤140737488355328 by rw [List.length_take];omega)
 clear hr hk hl
 go_enter Tryz.func183,Tryz.ntmps183
 go_wp2_with fail
 refine htk.mono ?_
 rintro ee w2 ⟨v,rfl,ta,tc,ra,rc,rfl,hT,hF,h2⟩
 have hc:=clone_c h2 (hT.rd w2 h2.drop) Hl.out
 have HF:=uQ hF
 clear htk h hT hF
 go_wp2_with fail
 refine hc.mono ?_
 rintro ee w3 ⟨v,rfl,h3,a3,n3,c3,rfl⟩
 clear hc
 go_wp2
 go_ret
 exact ⟨_,rfl,_,HF.out,⟨_,_,_,rfl⟩,h3⟩
theorem rleft_c (hr:RS w0 F rv m) (h:Sat w0 w (rdrPt p rv::F)):Calls Tryz.prog 186 #[ptr p] w (Rtn fun v w'=>v = .int .i64 (m.length:Nat)∧w=w'):=by
 obtain ⟨a,c,rfl,_,_⟩:=hr.len h.drop
 have e0:w.cell? ⟨p,0,none⟩=some (.slice a m.length c):=h.cellAt 0 _ rfl
 clear hr h
 go_enter Tryz.func186,Tryz.ntmps186
 go_wp2
 go_ret
 exact ⟨_,rfl,rfl,rfl⟩
set_option maxRecDepth 20000 in
theorem lzlen_c {L:Nat} (hL:L<270) (hr:RS w0 F rv (Lz.tail4 L++r)) (h:Sat w0 w (lrPt q p ov most::rdrPt p rv::F)) :
  Calls Tryz.prog 184 #[ptr q,.int .i64 (min L 15:Nat)] w (Rtn fun v w'=>∃ rv',v = .int .i64 (L:Nat)∧(∀ F0,RS w0 F0 rv (Lz.tail4 L++r)→RS w0 F0 rv' r)∧Sat w0 w' (lrPt q p ov most::rdrPt p rv'::F)):=by
 by_cases h15:15≤L
 ·have ht:Lz.tail4 L++r=UInt8.ofNat (L - 15)::r:=by rw [Lz.tail4_small hL,if_pos h15];rfl
  rw [ht]at hr ⊢
  rw [show min L 15=15 by omega]
  have hcn:(UInt8.ofNat (L - 15)).toNat=L - 15:=by rw [UInt8.toNat_ofNat'];omega
  generalize UInt8.ofNat (L - 15)=c at *
  have hnum:=rnum1_c (c0:=c) (F:=lrPt q p ov most::F) (hr.more sbD) (h.sb)
  have e0:w.cell? ⟨q,0,none⟩=some (.pointer (some ⟨p,0,none⟩)):=h.cellAt 0 _ rfl
  have hw1:IntKind.i64.wrap (c.toNat:Int)=(c.toNat:Int):=IntWalk.i64_in _ oQ
  have hw2:IntKind.i64.wrap (15+(c.toNat:Int))=(L:Int):=by rw [IntWalk.i64_in _ oQ];omega
  have hc1:decide ((c.toNat:Int)<255)=true:=decide_eq_true oQ
  have hc2:(c.toNat:Int)<255:=oQ
  clear hr h ht hL h15 hcn
  go_enter Tryz.func184,Tryz.ntmps184
  go_wp2_with fail
  try go_frame
  go_loopg [1] 1 (fun g iq wr=>g=1∧iq = .int .i64 15∧wr=w)
  case atStart=>exact ⟨rfl,rfl,rfl⟩
  case round=>
   obtain ⟨rfl,rfl,rfl⟩:=hrel
   go_wp2_with fail
   refine hnum.mono ?_
   rintro ee w1 ⟨v,rfl,rv',rfl,hF,h1⟩
   have HF:=uQ hF
   clear hnum e0 hF
   go_wp2_with fail
   go_ret
   exact ⟨_,rfl,rv',rfl,HF.out,h1.sb⟩
 ·have ht:Lz.tail4 L++r=r:=by rw [Lz.tail4_small hL,if_neg h15];rfl
  rw [ht]at hr ⊢
  rw [show min L 15=L by omega]
  have hc1:(L:Int)<15:=oQ
  clear ht hL h15
  go_enter Tryz.func184,Tryz.ntmps184
  go_wp2_with fail
  go_ret
  exact ⟨_,rfl,rv,rfl,fun _ h=>h,h⟩
set_option maxRecDepth 20000 in
theorem lzcopied_c {n:Nat} (hd0:0<d) (hd:d≤out.length) (ho:out.length+n≤100000) (h:Sat w0 w (lrPt q p ov most::bsl ov out::F)) :
  Calls Tryz.prog 187 #[ptr q,.int .i64 d,.int .i64 n] w (Rtn fun _ w'=>∃ v',Sat w0 w' (lrPt q p v' most::bsl v' (Lz.copyB out d n)::F)):=by
 have Hd:=uQ (And.intro hd0 (And.intro hd ho))
 clear hd0 hd ho
 go_enter Tryz.func187,Tryz.ntmps187
 go_wp2_with fail
 try go_frame
 go_loopg [7] n (fun g iq wr=>∃ (j:Nat) (out':Frm.Bs) (v':Value),g=n - j∧j≤n∧iq = .int .i64 j∧Lz.copyB out d n=Lz.copyB out' d (n - j)∧out'.length=out.length+j∧Sat w0 wr (lrPt q p v' most::bsl v' out'::F))
 case atStart=>exact ⟨0,out,ov,rfl,Nat.zero_le _,rfl,rfl,rfl,h⟩
 case round=>
  obtain ⟨j,out',v',rfl,hj,rfl,heq,hlen,hS⟩:=hrel
  clear h
  obtain ⟨p1,p2,p3⟩:=Hd.out
  by_cases hjn:j<n
  rotate_left
  focus
   obtain rfl:j=n:=by omega
   have Heq:=uQ (show Lz.copyB out d j=out' by rw [heq,Nat.sub_self];rfl)
   clear heq hlen hj hjn p1 p2 p3
   have c1:¬ ((j:Int)<(j:Int)):=oQ
   go_wp2_with fail
   go_end0
   exact ⟨_,rfl,v',by rw [Heq.out];exact hS⟩
  obtain ⟨va,vn,vc,rfl,_,_,hvn⟩:=bsl_cap' hS.pick1
  subst hvn
  have c1:(j:Int)<(n:Int):=oQ
  have hw1:IntKind.i64.wrap ((out'.length:Int) - (d:Int))=((out'.length - d:Nat):Int):=by rw [IntWalk.i64_in _ oQ];omega
  have hw2:IntKind.i64.wrap ((j:Int)+1)=((j+1:Nat):Int):=by rw [IntWalk.i64_in _ oQ];omega
  have g1:(bys out')[out'.length - d]?=some (.int .u8 (out'.getD (out'.length - d) 0).toNat):=bys_get.2 ⟨_,by rw [List.getD_eq_getElem?_getD,List.getElem?_eq_getElem (show out'.length - d<out'.length by omega)];rfl,rfl⟩
  have hS2:=hS.drew
  obtain ⟨bk,off,rfl,hcs⟩:=rdsl_cells (Sat.rd hS2.pick1) g1
  have e1:=hcs _ _ g1
  have cb:((out'.length - d:Nat):Int)<(out'.length:Int):=oQ
  have Heq:=uQ (show Lz.copyB out d n=Lz.copyB (out'++[out'.getD (out'.length - d) 0]) d (n - (j+1)) by
   rw [heq,show n - j=(n - (j+1))+1 by omega];rfl)
  have Hl:=uQ (And.intro hjn (show out'.length≤100000 by omega))
  have Hn:=uQ hlen
  generalize out'.getD (out'.length - d) 0=x at *
  have hG:World.cell? _ ⟨q,1,none⟩=some (.slice (some ⟨bk,off,none⟩) out'.length vc)∧World.cell? _ ⟨bk,off+(out'.length - d),none⟩=some (.int .u8 x.toNat):=⟨hS2.cellP pick0 1 rfl,e1⟩
  have Hg:=uQ (show ∀ w',Sat w0 w' (lrPt q p (.slice (some ⟨bk,off,none⟩) out'.length vc) most::bsl (.slice (some ⟨bk,off,none⟩) out'.length vc) out'::F)→World.cell? w' ⟨q,1,none⟩=some (.slice (some ⟨bk,off,none⟩) out'.length vc)∧World.cell? w' ⟨bk,off+(out'.length - d),none⟩=some (.int .u8 x.toNat) from fun w' hw=>by
   obtain ⟨_,_,hb,hc⟩:=rdsl_cells (Sat.rd hw.pick1) g1
   cases hb
   exact ⟨hw.cellP pick0 1 rfl,hc _ _ g1⟩)
  generalize out'.length - d=ix at *
  clear hS heq hlen hj hjn p1 p2 p3 g1 hcs e1
  go_wp2_with fail
  refine wpL_begin [19,20,21,22] (fun w'=>w'.cell? ⟨q,1,none⟩=some (.slice (some ⟨bk,off,none⟩) out'.length vc)∧w'.cell? ⟨bk,off+ix,none⟩=some (.int .u8 x.toNat)) kRz ?_
  refine rP 0 ?_ (y:=mvQ)
  refine rP 1 ?_ (y:=mvQ)
  refine rP 2 ?_ (y:=nlQ)
  refine rP 3 ?_ (y:=flQ)
  refine rt 4 (h:=?_)
  refine rP 5 ?_ (y:=mvQ)
  refine rP 6 ?_ (y:=nlQ)
  refine rP 7 ?_ (y:=flQ)
  refine rt 8 (h:=?_)
  refine rP 9 ?_ (y:=mvQ)
  refine rP 10 ?_ (y:=nlQ)
  refine rP 11 ?_ (y:=flQ)
  refine rt 12 (h:=?_)
  refine rP 13 ?_ (y:=(yl_len evD rnD))
  refine rP 14 ?_ (y:=mvQ)
  refine rP 15 ?_ (y:=bnQ)
  refine rP 16 ?_ (y:=ixQ)
  refine rt 17 (h:=?_)
  clear hG
  refine rg_eff 18 evD kRz (fun K hK=>?_)
  refine eff_build1 (e:=5) (sz:=1) (by':=1) kRz hS2 evD (cs:=#[.int .u8 x.toNat]) rfl rfl nLz ?_
  intro bN wN hN
  refine hK _ _ (.inr (.inl (Hg.out _ hN.drop))) ?_
  clear hK hS2
  refine rg_eff 19 evD kRz (fun K hK=>?_)
  refine eff_app 5 1 1 kRz hN evD evD (xs:=bys out') pick2 pick0 rFz (Nat.le_refl 1) rFz (by rw [bys_len];have:=Hl.out.2;omega) (by show 1≤65536;decide) dCz (ys:=bys [x]) rfl ?_
  intro bA nA cA wA hA
  refine hK _ _ (.inl rfl) ?_
  rw [← bys_append]at hA
  clear hK hN
  refine rP 20 ?_ (y:=nlQ)
  refine rP 21 ?_ (y:=flQ)
  refine rg_eff 22 evD kRz (fun K hK=>?_)
  refine eff_store (cs':=#[ptr p,.slice (some ⟨bA,0,none⟩) nA cA,.int .i64 (most:Nat)]) (v:= .slice (some ⟨bA,0,none⟩) nA cA) (hA.sb:Sat w0 wA (lrPt q p (.slice (some ⟨bk,off,none⟩) out'.length vc) most::bsl (.slice (some ⟨bA,0,none⟩) nA cA) (out'++[x])::F)) evD evD rFz upd0 nLz kRz rFz ?_
  intro w5 h5
  refine hK _ _ (.inl rfl) ?_
  clear hK hA
  refine wpL_done kRz ?_
  go_wp2_with fail
  go_roundg (n - (j+1))
  case measure=>have:=Hl.out.1;omega
  case rel=>exact ⟨j+1,_,_,rfl,Nat.succ_le_of_lt Hl.out.1,by first|rfl|go_num,Heq.out,by rw [List.length_append,Hn.out];rfl,h5⟩
end
end Go.Proofs.YtlimfgdbfadohaaGreatDoor
namespace Go.Lz
theorem copyB_len:∀ (n:Nat) (out:Bs) (d:Nat),(copyB out d n).length=out.length+n
 |0,out,d=>rfl
 |n+1,out,d=>by
  unfold copyB
  rw [copyB_len n,List.length_append,List.length_singleton];omega
theorem tell_len:∀ (ps:List Part) (acc:Bs),acc.length≤(tell acc ps).length
 |[],acc=>Nat.le_refl _
 |p::ps,acc=>by
  have h:=tell_len ps (copyB (acc++p.1) p.2.1 p.2.2)
  rw [copyB_len,List.length_append]at h
  show acc.length≤(tell (copyB (acc++p.1) p.2.1 p.2.2) ps).length
  omega
theorem le2_ex (d:Nat) (hd:d≤65535):∃ c0 c1:UInt8,Frm.le d 2=[c0,c1]∧Frm.num [c0,c1]=d:=by
 refine ⟨_,_,rfl,?_⟩
 have:=Frm.num_le 2 d (by show d<65536;omega)
 exact this
end Go.Lz
namespace Go.Proofs.YtlimfgdbfadohaaGreatDoor
open Go Go.Sl Go.Med Go.MapKept Go.RowKit
theorem tok_and:∀ t,t<256→bits .and .i64 ((t:Nat):Int) 15=((t%16:Nat):Int):=by decide +kernel
section
variable {w0 w:World}{F:List HProp}{v bv rv ov:Value}{p q k most:Nat}{lit r out:Frm.Bs}
set_option maxRecDepth 20000 in
theorem rdseq_c {d n:Nat} (hn:n=0∧r=[]∨4≤n∧n<270) (hd:n≠0→0<d∧d≤65535∧d≤out.length+lit.length) (hl:lit.length<270) (hm:out.length+lit.length+n≤most) (hm2:most≤65536) (hr:RS w0 F rv (Lz.seqB lit d n++r)) (h:Sat w0 w (lrPt q p ov most::rdrPt p rv::bsl ov out::F)) :
  Calls Tryz.prog 148 #[ptr q] w (Rtn fun v w'=>∃ rv' v',v = .tuple #[.bool (decide (n=0)),errno 0]∧RS w0 F rv' r∧Sat w0 w' (lrPt q p v' most::rdrPt p rv'::bsl v' (Lz.copyB (out++lit) d n)::F)):=by
 obtain ⟨oa,on,oc,rfl,_,_,hon⟩:=bsl_cap' h.pick2
 subst hon
 obtain ⟨tok,htok⟩:∃ c,UInt8.ofNat (min lit.length 15 * 16+min (n - 4) 15)=c:=⟨_,rfl⟩
 have hhi:=Lz.token_hi lit.length (n - 4)
 have hlo:=Lz.token_lo lit.length (n - 4)
 obtain ⟨s1,hs1⟩:∃ s1,(if n=0 then [] else Frm.le d 2++Lz.tail4 (n - 4))++r=s1:=⟨_,rfl⟩
 have hsq:Lz.seqB lit d n++r=tok::(Lz.tail4 lit.length++(lit++s1)):=by
  unfold Lz.seqB
  rw [htok,← hs1]
  simp only [List.append_assoc,List.cons_append,List.nil_append]
 rw [hsq]at hr
 rw [htok]at hhi hlo
 have hT:tok.toNat<256:=tok.toNat_lt
 have hand:=tok_and tok.toNat hT
 rw [hlo]at hand
 obtain ⟨a15,ha15⟩:∃ x,min lit.length 15=x:=⟨_,rfl⟩
 obtain ⟨m,hmn⟩:∃ m,n - 4=m:=⟨_,rfl⟩
 rw [hmn]at hand hs1
 obtain ⟨m15,hm15⟩:∃ x,min m 15=x:=⟨_,rfl⟩
 rw [hm15]at hand
 have hsh:(tok.toNat:Int) / 16=(a15:Int):=oQ
 have hw1:IntKind.i64.wrap (tok.toNat:Int)=(tok.toNat:Int):=IntWalk.i64_in _ oQ
 have hnum:=rnum1_c (F:=lrPt q p (.slice oa out.length oc) most::bsl (.slice oa out.length oc) out::F) (hr.more sbD) (h.sb)
 have e0:w.cell? ⟨q,0,none⟩=some (.pointer (some ⟨p,0,none⟩)):=h.cellAt 0 _ rfl
 have Hr:=uQ hr;have Hl:=uQ hl;have Hm:=uQ (And.intro hm hm2);have Hs1:=uQ hs1;have Hand:=uQ hand;have Hmn:=uQ (And.intro hmn hm15);have Ha15:=uQ ha15;have Hn:=uQ hn;have Hd:=uQ hd
 obtain ⟨LL,hLL⟩:∃ LL,lit.length=LL:=⟨_,rfl⟩
 have HLL:=uQ hLL
 clear hr hl hm hm2 hs1 hn hd htok hhi hlo hsq hT h hLL hand hmn hm15 ha15
 go_enter Tryz.func148,Tryz.ntmps148
 go_wp2_with fail
 refine hnum.mono ?_
 rintro ee w1 ⟨v,rfl,rv1,rfl,hF1,h1'⟩
 have h1:Sat w0 w1 (lrPt q p (.slice oa out.length oc) most::rdrPt p rv1::bsl (.slice oa out.length oc) out::F):=h1'.sb
 have Hr1:=uQ (hF1 _ Hr.out)
 clear hnum e0 h1' hF1
 go_wp2_with fail
 have h2:=h1.drew
 have hG:World.cell? _ ⟨q,0,none⟩=some (.pointer (some ⟨p,0,none⟩)):=h2.cellP pick0 0 rfl
 have hlen:=lzlen_c (L:=lit.length) (r:=lit++s1) (F:=bsl (.slice oa out.length oc) out::F) Hl.out (Hr1.out.more sbD) h2
 rw [Ha15.out,HLL.out]at hlen
 clear h1 hw1
 refine wpL_begin [8,9] (fun w'=>w'.cell? ⟨q,0,none⟩=some (.pointer (some ⟨p,0,none⟩))) kRz ?_
 refine rP 0 ?_ (y:=mvQ)
 refine rP 1 ?_ (y:=nlQ)
 refine rP 2 ?_ (y:=flQ)
 refine rt 3 (h:=?_)
 clear hG
 refine rP 4 ?_ (y:=mvQ)
 refine rP 5 ?_ (y:=mvQ)
 refine rP 6 ?_ (y:=bnQ)
 refine rg_eff 7 evD kRz (fun K hK=>?_)
 (refine eff_call2 kRz evD evD ?_)
 refine hlen.mono ?_
 rintro ee w3 ⟨v,rfl,rv2,rfl,hF2,h3⟩
 refine hK _ _ (.inr (.inl (h3.cellP pick0 0 rfl))) ?_
 rw [HLL.out]at Hr1
 have Hr2:=uQ (hF2 _ Hr1.out)
 clear hK hlen h2 hF2 hsh
 refine rg_eff 8 evD kRz (fun K hK=>?_)
 (refine eff_call2 kRz evD evD ?_)
 refine (rbytesN_c (k:=LL) (m:=lit++s1) (F:=lrPt q p (.slice oa out.length oc) most::bsl (.slice oa out.length oc) out::F) (by rw [List.length_append,HLL.out];omega) (by have:=Hl.out;have:=HLL.out;omega) (Hr2.out.more sbD) (h3.sb)).mono ?_
 rintro ee w4 ⟨v,rfl,rv3,hF3,⟨la,ln,lc,rfl⟩,h4⟩
 refine hK _ _ (.inl rfl) ?_
 have hr3:=hF3 _ Hr2.out
 rw [show (lit++s1).take LL=lit by rw [← HLL.out,List.take_left'];rfl]at h4
 rw [show (lit++s1).drop LL=s1 by rw [← HLL.out,List.drop_left'];rfl]at hr3
 obtain ⟨_,_,_,q0,x1,x2,x3⟩:=bsl_cap' h4
 cases q0
 rw [HLL.out]at x3
 subst x3
 have Hr3:=uQ hr3
 clear hK h3 hF3 hr3 x1 x2 Hr2 Hr1
 refine rP 9 ?_ (y:=asQ)
 refine wpL_done kRz ?_
 have h5:Sat w0 w4 (lrPt q p (.slice oa out.length oc) most::rdrPt p rv3::bsl (.slice oa out.length oc) out::bsl (.slice la ln lc) lit::F):=h4.sb
 have e0:w4.cell? ⟨q,0,none⟩=some (.pointer (some ⟨p,0,none⟩)):=h5.cellP pick0 0 rfl
 have her:=rerr_c (h5.sb:Sat w0 w4 (rdrPt p rv3::F))
 obtain ⟨rst,hrst⟩:∃ x,most - out.length=x:=⟨_,rfl⟩
 have hm:=Hm.out
 have hwr:IntKind.i64.wrap ((most:Int) - (out.length:Int))=(rst:Int):=by rw [IntWalk.i64_in _ oQ];omega
 have hlr:=HLL.out
 have cr:decide ((rst:Int)<(ln:Int))=false:=decide_eq_false oQ
 have crn:decide (rst<ln)=false:=decide_eq_false oQ
 clear h4 hm hrst hlr
 go_wp2_with fail
 refine her.mono ?_
 rintro ee w5 ⟨v,rfl,rfl,rfl⟩
 clear her e0
 go_wp2_with fail
 have h6:=h5.drew
 have hG:World.cell? _ ⟨q,2,none⟩=some (.int .i64 (most:Nat))∧World.cell? _ ⟨q,1,none⟩=some (.slice oa out.length oc):=⟨h6.cellP pick0 2 rfl,h6.cellP pick0 1 rfl⟩
 clear h5
 refine wpL_begin [11,12] (fun w'=>w'.cell? ⟨q,2,none⟩=some (.int .i64 (most:Nat))∧w'.cell? ⟨q,1,none⟩=some (.slice oa out.length oc)) kRz ?_
 refine rP 0 ?_ (y:=mvQ)
 refine rP 1 ?_ (y:=(yl_len evD rnD))
 refine rP 2 ?_ (y:=mvQ)
 refine rP 3 ?_ (y:=nlQ)
 refine rP 4 ?_ (y:=flQ)
 refine rt 5 (h:=?_)
 refine rP 6 ?_ (y:=mvQ)
 refine rP 7 ?_ (y:=nlQ)
 refine rP 8 ?_ (y:=flQ)
 refine rt 9 (h:=?_)
 clear hG
 refine rP 10 ?_ (y:=(yl_len evD rnD))
 refine rP 11 ?_ (y:=bnQ)
 refine rP 12 ?_ (y:=bnQ)
 refine wpL_done kRz ?_
 have e1:World.cell? _ ⟨q,1,none⟩=some (.slice oa out.length oc):=h6.cellP pick0 1 rfl
 clear hwr cr crn
 go_wp2_with (with_reducible apply at_append)
 refine ⟨wl_appD 5 1 1 kRz h6 rFz rFz (xs:=bys out) (ys:=bys lit) pick2 (Sat.rd (h6.sb:Sat w0 _ (bsl (.slice la ln lc) lit::F))) (bys_one _) (by rw [bys_len,bys_len];have:=Hm.out;omega) dCz ?_⟩
 intro v7 w7 h7
 rw [← bys_append]at h7
 have h7:Sat w0 w7 (bsl v7 (out++lit)::lrPt q p (.slice oa out.length oc) most::rdrPt p rv3::F):=(show Sat w0 w7 (bsl v7 (out++lit)::lrPt q p (.slice oa out.length oc) most::rdrPt p rv3::bsl (.slice la ln lc) lit::F) from h7).sb
 obtain ⟨ta,tn,tc,rfl,x1,x2,x3⟩:=bsl_cap' h7
 have Hol:=uQ x3
 clear h6 e1 x1 x2 x3
 go_wp2_with (with_reducible apply at_store)
 refine ⟨wl_store (cs':=#[ptr p,.slice ta tn tc,.int .i64 (most:Nat)]) (h7.pick pick1) rFz evD rFz upd0 nLz kRz rFz ?_⟩
 intro w8 h8
 replace h8:Sat w0 w8 (lrPt q p (.slice ta tn tc) most::bsl (.slice ta tn tc) (out++lit)::rdrPt p rv3::F):=h8
 clear h7
 have e0:w8.cell? ⟨q,0,none⟩=some (.pointer (some ⟨p,0,none⟩)):=h8.cellP pick0 0 rfl
 have hlf:=rleft_c (p:=p) (F:=lrPt q p (.slice ta tn tc) most::bsl (.slice ta tn tc) (out++lit)::F) (Hr3.out.more sbD) (h8.sb)
 rcases Hn.out with ⟨hn0,hr0⟩|⟨hn4,hn5⟩
 ·as_aux_lemma=>
   subst hn0 hr0
   have hs0:s1=[]:=by rw [← Hs1.out];rfl
   subst hs0
   have Hsh:=uQ (h8.sb:Sat w0 w8 (lrPt q p (.slice ta tn tc) most::rdrPt p rv3::bsl (.slice ta tn tc) (out++lit)::F))
   clear h8
   go_wp2_with fail
   refine hlf.mono ?_
   rintro ee w9 ⟨v,rfl,rfl,rfl⟩
   clear hlf e0
   go_wp2_with fail
   go_ret2
   exact ⟨_,rfl,rfl,rv3,Hr3.out,_,Hsh.out⟩
 ·as_aux_lemma=>
   obtain ⟨hd0,hd1,hd2⟩:=Hd.out oQ
   obtain ⟨c0,c1,hle,hnum⟩:=Lz.le2_ex d hd1
   have hs1:s1=c0::c1::(Lz.tail4 m++r):=by rw [← Hs1.out,if_neg oQ,hle];rfl
   subst hs1
   have z0:(((c0::c1::(Lz.tail4 m++r)).length:Int)==0)=false:=by rw [beq_eq_false_iff_ne,List.length_cons];omega
   obtain ⟨zl,hzl⟩:∃ x,(c0::c1::(Lz.tail4 m++r)).length=x:=⟨_,rfl⟩
   rw [hzl]at hlf z0
   have zd1:¬ d=0:=oQ
   have zd2:(d==0)=false:=beq_eq_false_iff_ne.2 zd1
   have hol:=Hol.out
   rw [List.length_append,HLL.out]at hol
   have hm:=Hm.out
   obtain ⟨hmn,hm15⟩:=Hmn.out
   have zd:((d:Int)==0)=false:=by rw [beq_eq_false_iff_ne];omega
   have cd:decide ((tn:Int)<(d:Int))=false:=decide_eq_false (by have:=HLL.out;omega)
   have cdn:decide (tn<d)=false:=decide_eq_false (by have:=HLL.out;omega)
   have hwd:IntKind.i64.wrap (d:Int)=(d:Int):=IntWalk.i64_in _ oQ
   have hw4:IntKind.i64.wrap ((m:Int)+4)=(n:Int):=by rw [IntWalk.i64_in _ oQ];omega
   obtain ⟨rst,hrst⟩:∃ x,most - tn=x:=⟨_,rfl⟩
   have hwr:IntKind.i64.wrap ((most:Int) - (tn:Int))=(rst:Int):=by have:=HLL.out;rw [IntWalk.i64_in _ oQ];omega
   have cr:decide ((rst:Int)<(n:Int))=false:=decide_eq_false (by have:=HLL.out;omega)
   have crn:decide (rst<n)=false:=decide_eq_false (by have:=HLL.out;omega)
   have hnm:=rnum2_c (p:=p) (F:=lrPt q p (.slice ta tn tc) most::bsl (.slice ta tn tc) (out++lit)::F) (Hr3.out.more sbD) (h8.sb)
   rw [hnum]at hnm
   have H7:=uQ (And.intro zd (And.intro cd (And.intro cdn (And.intro hw4 (And.intro hwr (And.intro cr crn))))))
   have Hdd:=uQ (And.intro hd0 (show d≤(out++lit).length by rw [List.length_append];omega))
   have Hmm:=uQ (show m<270 by omega)
   have Hnn:=uQ (show (out++lit).length+n≤100000 by rw [List.length_append];omega)
   have Hn4:=uQ (show ¬ n=0 by omega)
   clear hd0 hd1 hd2 hle hnum hzl hol hm hmn hm15 zd cd cdn hw4 hwr cr crn hrst hn4 hn5
   go_wp2_with fail
   refine hlf.mono ?_
   rintro ee w9 ⟨v,rfl,rfl,rfl⟩
   clear hlf
   go_wp2_with fail
   clear z0
   refine hnm.mono ?_
   rintro ee w10 ⟨v,rfl,rv4,rfl,hF4,h10'⟩
   have h10:Sat w0 w10 (lrPt q p (.slice ta tn tc) most::rdrPt p rv4::bsl (.slice ta tn tc) (out++lit)::F):=h10'.sb
   have Hr4:=uQ (hF4 _ Hr3.out)
   clear hnm h8 h10' hF4 e0
   have e0:w10.cell? ⟨q,0,none⟩=some (.pointer (some ⟨p,0,none⟩)):=h10.cellP pick0 0 rfl
   have her:=rerr_c (h10.sb:Sat w0 w10 (rdrPt p rv4::F))
   go_wp2_with fail
   refine her.mono ?_
   rintro ee w11 ⟨v,rfl,rfl,rfl⟩
   clear her e0 hwd
   have e1:w10.cell? ⟨q,1,none⟩=some (.slice ta tn tc):=h10.cellP pick0 1 rfl
   obtain ⟨zd,cd,cdn,hw4,hwr,cr,crn⟩:=H7.out
   have hand:=Hand.out
   have hlen:=lzlen_c (L:=m) (r:=r) (F:=bsl (.slice ta tn tc) (out++lit)::F) Hmm.out (Hr4.out.more sbD) h10
   rw [Hmn.out.2]at hlen
   clear hw4 hwr cr crn
   go_wp2_with fail
   refine hlen.mono ?_
   rintro ee w12 ⟨v,rfl,rv5,rfl,hF5,h12⟩
   have Hr5:=uQ (hF5 _ Hr4.out)
   clear hlen h10 hF5 zd cd cdn hand e1 zd1 zd2
   have e0:w12.cell? ⟨q,0,none⟩=some (.pointer (some ⟨p,0,none⟩)):=h12.cellP pick0 0 rfl
   have her:=rerr_c (h12.sb:Sat w0 w12 (rdrPt p rv5::F))
   go_wp2_with fail
   refine her.mono ?_
   rintro ee w13 ⟨v,rfl,rfl,rfl⟩
   clear her e0
   obtain ⟨_,_,_,hw4,hwr,cr,crn⟩:=H7.out
   go_wp2_with fail
   have h14:=h12.drew
   have hG:World.cell? _ ⟨q,2,none⟩=some (.int .i64 (most:Nat))∧World.cell? _ ⟨q,1,none⟩=some (.slice ta tn tc):=⟨h14.cellP pick0 2 rfl,h14.cellP pick0 1 rfl⟩
   clear h12
   refine wpL_begin [11,12] (fun w'=>w'.cell? ⟨q,2,none⟩=some (.int .i64 (most:Nat))∧w'.cell? ⟨q,1,none⟩=some (.slice ta tn tc)) kRz ?_
   refine rP 0 ?_ (y:=mvQ)
   refine rP 1 ?_ (y:=bnQ)
   refine rP 2 ?_ (y:=mvQ)
   refine rP 3 ?_ (y:=nlQ)
   refine rP 4 ?_ (y:=flQ)
   refine rt 5 (h:=?_)
   refine rP 6 ?_ (y:=mvQ)
   refine rP 7 ?_ (y:=nlQ)
   refine rP 8 ?_ (y:=flQ)
   refine rt 9 (h:=?_)
   clear hG
   refine rP 10 ?_ (y:=(yl_len evD rnD))
   refine rP 11 ?_ (y:=bnQ)
   refine rP 12 ?_ (y:=bnQ)
   refine wpL_done kRz ?_
   have hcp:=lzcopied_c (q:=q) (p:=p) (ov:= .slice ta tn tc) (most:=most) (d:=d) (n:=n) (out:=out++lit) (F:=rdrPt p rv5::F) Hdd.out.1 Hdd.out.2 Hnn.out (h14.sb)
   clear hwr cr crn h14
   go_wp2_with fail
   refine hcp.mono ?_
   rintro ee w15 ⟨v,rfl,vv,h15⟩
   clear hcp
   have hd0:decide (n=0)=false:=decide_eq_false Hn4.out
   go_wp2_with fail
   go_ret2
   exact ⟨_,rfl,rv5,vv,by rw [decide_eq_false Hn4.out];rfl,Hr5.out,h15.sb⟩
theorem run_rdr (p:Nat) (n:Int) (w:World):(Instr.build 247 #[(0,ptr p),(2,.int .i64 n)]).run Tryz.prog w = .ok (.agg #[ptr p,.slice none 0 0,.int .i64 n]) w:=by kernel_rfl
set_option maxRecDepth 20000 in
theorem loosen_c {ps:List Lz.Part}{lit b:Frm.Bs}{most:Nat} (hok:Lz.OkL [] ps) (ht:Lz.tell [] ps++lit=b) (hb:b.length≤250) (hm:b.length≤most) (hm2:most≤65536) (hk:(Lz.flat ps++Lz.seqB lit 0 0).length≤1000000) (hr:RS w0 F rv (Lz.flat ps++Lz.seqB lit 0 0)) (h:Sat w0 w F) :
  Calls Tryz.prog 102 #[rv,.int .i64 (most:Nat)] w (Rtn fun v w'=>∃ ra rn rc,v = .tuple #[.slice ra rn rc,errno 0]∧Sat w0 w' (bsl (.slice ra rn rc) b::F)):=by
 obtain ⟨B,hB⟩:∃ B,Lz.flat ps++Lz.seqB lit 0 0=B:=⟨_,rfl⟩
 rw [hB]at hr hk
 obtain ⟨ba,bc,rfl,y1,y2⟩:=hr.len h
 have hop:=ropen1_c oQ hr h
 have c1:decide ((most:Int)<0)=false:=decide_eq_false oQ
 have c2:decide ((65536:Int)<(most:Int))=false:=decide_eq_false oQ
 have c2n:decide (65536<most)=false:=decide_eq_false oQ
 have Hok:=uQ hok;have Ht:=uQ ht;have Hb:=uQ (And.intro hb (And.intro hm hm2));have HB:=uQ hB
 clear hr y1 y2 hok ht hb hm hm2 hk hB
 go_enter Tryz.func102,Tryz.ntmps102
 go_wp2_with fail
 refine hop.mono ?_
 rintro ee w1 ⟨v,rfl,p,rv0,rfl,h1,hR⟩
 have HR:=uQ hR
 clear hop h hR c1 c2 c2n
 go_wp2_with (first
  |((with_reducible apply ug_at_build);refine ⟨?_⟩;refine wl_bld (ps:=#[(0,ptr p),(2,.int .i64 (most:Nat))]) (by simp only [List.map_toArray,List.map_cons,List.map_nil];rfl) (fun w=>run_rdr p most w) ?_)
  |(with_reducible apply at_box))
 refine ⟨wl_box h1 rFz rFz ?_⟩
 intro q w2 h2
 have h3:Sat w0 w2 (lrPt q p (.slice none 0 0) most::rdrPt p rv0::bsl (.slice none 0 0) []::bsl rv0 B::F):=
  (Sat.osl_nil.2 h2:Sat w0 w2 (bsl (.slice none 0 0) []::lrPt q p (.slice none 0 0) most::rdrPt p rv0::bsl rv0 B::F)).sb
 clear h1 h2
 go_wp2_with fail
 try go_frame
 go_loopg [7] ps.length (fun g iq wr=>∃ (qs:List Lz.Part) (acc:Frm.Bs) (rv' v':Value),qs.length=g∧Lz.tell acc qs++lit=b∧Lz.OkL acc qs∧RS w0 (bsl rv0 B::F) rv' (Lz.flat qs++Lz.seqB lit 0 0)∧Sat w0 wr (lrPt q p v' most::rdrPt p rv'::bsl v' acc::bsl rv0 B::F))
 case atStart=>exact ⟨ps,[],rv0,_,rfl,Ht.out,Hok.out,by rw [HB.out];exact HR.out,h3⟩
 case round=>
  obtain ⟨qs,acc,rv',v',rfl,hbt,hqk,hrs,hS⟩:=hrel
  clear h3
  obtain ⟨b1,b2,b3⟩:=Hb.out
  have hbl:=congrArg List.length hbt
  rw [List.length_append]at hbl
  cases qs with
  |nil=>
   as_aux_lemma=>
    have e:Lz.flat []++Lz.seqB lit 0 0=Lz.seqB lit 0 0++[]:=by rw [List.append_nil];rfl
    rw [e]at hrs
    have hsq:=rdseq_c (q:=q) (p:=p) (most:=most) (n:=0) (d:=0) (.inl ⟨rfl,rfl⟩) (fun c=>absurd rfl c) oQ (by have:(Lz.tell acc []).length=acc.length:=rfl;omega) b3 hrs hS
    have Hbt:=uQ (show Lz.copyB (acc++lit) 0 0=b from hbt)
    clear hS hrs hbt hqk hbl b1 b2 b3
    go_wp2_with fail
    refine hsq.mono ?_
    rintro ee w5 ⟨v,rfl,rv2,v2,rfl,hr2,h5⟩
    rw [Hbt.out]at h5
    obtain ⟨ta,tn,tc,rfl,x1,x2,x3⟩:=bsl_cap' h5.pick2
    have e1:w5.cell? ⟨q,1,none⟩=some (.slice ta tn tc):=h5.cellP pick0 1 rfl
    have Hsh:=uQ (h5.sb:Sat w0 w5 (bsl (.slice ta tn tc) b::F))
    clear hsq h5 hr2 x1 x2 x3
    go_wp2_with fail
    go_ret2
    exact ⟨_,rfl,ta,tn,tc,rfl,Hsh.out⟩
  |cons x qs=>
   as_aux_lemma=>
    obtain ⟨xl,xd,xn⟩:=x
    have e:Lz.flat ((xl,xd,xn)::qs)++Lz.seqB lit 0 0=Lz.seqB xl xd xn++(Lz.flat qs++Lz.seqB lit 0 0):=by
     unfold Lz.flat
     rw [List.flatMap_cons,List.append_assoc]
    rw [e]at hrs
    obtain ⟨⟨o1,o2,o3,o4⟩,hqk⟩:=hqk
    have htl:=Lz.tell_len qs (Lz.copyB (acc++xl) xd xn)
    rw [Lz.copyB_len,List.length_append]at htl
    have hbl:(Lz.tell (Lz.copyB (acc++xl) xd xn) qs).length+lit.length=b.length:=hbl
    rw [List.length_append]at o3
    have o1:0<xd:=o1
    have o2:xd≤65535:=o2
    have o3:xd≤acc.length+xl.length:=o3
    have o4:4≤xn:=o4
    have hsq:=rdseq_c (q:=q) (p:=p) (most:=most) (n:=xn) (d:=xd) (lit:=xl) (r:=Lz.flat qs++Lz.seqB lit 0 0) (out:=acc) (F:=bsl rv0 B::F) (.inr ⟨o4,by omega⟩) (fun _=>⟨o1,o2,o3⟩) oQ oQ b3 hrs hS
    rw [decide_eq_false (show ¬ xn=0 by omega)]at hsq
    have Hn:=uQ (And.intro hqk (show Lz.tell (Lz.copyB (acc++xl) xd xn) qs++lit=b from hbt))
    clear hS hrs hbt hqk hbl b1 b2 b3 o1 o2 o3 o4 htl e
    go_wp2_with fail
    refine hsq.mono ?_
    rintro ee w5 ⟨v,rfl,rv2,v2,rfl,hr2,h5⟩
    have Hr2:=uQ hr2
    clear hsq hr2
    go_wp2_with fail
    go_roundg qs.length
    case measure=>exact Nat.lt_succ_self _
    case rel=>exact ⟨qs,_,rv2,v2,rfl,Hn.out.2,Hn.out.1,Hr2.out,h5⟩
end
section
variable {w0 w:World}{F:List HProp}{bv:Value}{b rest:Frm.Bs}
set_option maxRecDepth 20000 in
theorem wput_c {kd:UInt8}{n:Nat} (hn:n<4294967296) (hl:rest.length≤100000) (hr:RS w0 F bv rest) (h:Sat w0 w F) :
  Calls Tryz.prog 92 #[.int .u8 (kd.toNat:Int),.int .i64 (n:Nat),bv] w (Rtn fun v w'=>Sat w0 w' (bsl v ([kd]++Frm.le n 4++rest)::F)):=by
 obtain ⟨a,c,rfl,hc1,hc2⟩:=hr.len h
 obtain ⟨L,hL⟩:∃ L,rest.length=L:=⟨_,rfl⟩
 have Hr:=uQ hr;have Hl:=uQ (show rest.length≤100000 from hl);have Hn:=uQ hn;have HL:=uQ hL
 rw [hL]at hl ⊢
 have hmk:∀ w,(Instr.makeSlice 27 (.int .i64 0) (.int .i64 ((5+L:Nat):Int))).run Tryz.prog w = .ok (.slice (some ⟨w.heap.size,0,none⟩) 0 (5+L)) (w.alloc (.cells (madeCells #[.int .u8 0] (5+L)) 5)):=make_u8 0 (5+L) oQ oQ
 have hw5:IntKind.i64.wrap (5+(L:Int))=((5+L:Nat):Int):=by rw [IntWalk.i64_in _ oQ];omega
 have hA:=h.alloc (.cells (madeCells #[.int .u8 0] (5+L)) 5)
 have hB:Sat w0 _ (bsl (.slice (some ⟨w.heap.size,0,none⟩) 0 (5+L)) []::F):=made_bsl (l:=0) (c:=5+L) oQ oQ hA
 have hwn:IntKind.u64.wrap (n:Int)=(n:Int):=by rw [IntKind.wrap_u64];omega
 have hwn2:(n:Int)%18446744073709551616=(n:Int):=oQ
 generalize 5+L=L5 at *
 clear hr hl hc1 hc2 hA hL hn
 go_enter Tryz.func92,Tryz.ntmps92
 go_wp2_with (first
  |((with_reducible refine at_build1 ⟨?_⟩);refine wl_build1 (e:=5) (sz:=1) (by':=1) kRz hB rFz (cs:=#[.int .u8 kd.toNat]) rfl rfl nLz ?_;intro bN wN hN)
  |((with_reducible refine at_append ⟨?_⟩);refine wl_app 5 1 1 kRz hN rFz rFz (xs:=bys []) pick1 pick0 rFz (Nat.le_refl 1) rFz dCz (by show 1≤65536;decide) dCz (ys:=bys [kd]) rfl ?_;intro bA nA cA wA hA))
 have h2:Sat w0 wA (bsl (.slice (some ⟨bA,0,none⟩) nA cA) ([]++[kd])::F):=hA
 have hput:Calls Tryz.prog 133 #[.int .u64 (n:Nat),.int .i64 4] wA (Rtn fun v w'=>Sat w0 w' (bsl v (Frm.le n 4)::bsl (.slice (some ⟨bA,0,none⟩) nA cA) ([]++[kd])::F)∧∃ a,v = .slice a 4 4):=put4_c n (by have:=Hn.out;omega) h2
 clear hB hN hA h2 hw5 hmk
 go_wp2_with fail
 refine hput.mono ?_
 rintro ee w4 ⟨v,rfl,h3,pa,rfl⟩
 clear hput hwn hwn2
 go_wp2_with (with_reducible apply at_append)
 refine ⟨wl_appD 5 1 1 kRz h3 rFz rFz (xs:=bys ([]++[kd])) (ys:=bys (Frm.le n 4)) pick1 (Sat.rd h3) (bys_one _) (by rw [bys_len,bys_len,Frm.le_len];show 1+4≤2147483648;decide) dCz ?_⟩
 intro v' w5 h4
 rw [← bys_append]at h4
 have h5:Sat w0 w5 (bsl v' ([]++[kd]++Frm.le n 4)::F):=(show Sat w0 w5 (bsl v' ([]++[kd]++Frm.le n 4)::bsl (.slice pa 4 4) (Frm.le n 4)::F) from h4).sb
 clear h3 h4
 go_wp2_with (with_reducible apply at_append)
 refine ⟨wl_appD 5 1 1 kRz h5 rFz rFz (xs:=bys ([]++[kd]++Frm.le n 4)) (ys:=bys rest) pick0 (show rdsl 1 (.slice a L c) (bys rest) w5 by rw [← HL.out];exact Hr.out.rd _ h5.drop) (bys_one _) (by rw [bys_len,bys_len,List.length_append,Frm.le_len];have:=Hl.out;show 1+4+rest.length≤2147483648;omega) dCz ?_⟩
 intro v2 w6 h6
 rw [← bys_append]at h6
 have Hsh:=uQ (show Sat w0 w6 (bsl v2 ([kd]++Frm.le n 4++rest)::F) from h6)
 clear h5 h6
 go_wp2_with fail
 go_ret
 exact ⟨_,rfl,Hsh.out⟩
theorem wrap_c (hl:b.length≤250) (hr:RS w0 F bv b) (h:Sat w0 w F) :
  Calls Tryz.prog 56 #[bv,.bool false] w (Rtn fun v w'=>∃ ra rn rc,v = .tuple #[.slice ra rn rc,errno 0]∧Sat w0 w' (bsl (.slice ra rn rc) (Lz.wrapB b)::F)):=by
 obtain ⟨a,c,rfl,hc1,hc2⟩:=hr.len h
 have hsq:=squeeze_c hl hr h
 have k1:¬ (16379:Int)<(b.length:Int):=oQ
 have Hr:=uQ hr;have Hl:=uQ hl
 by_cases hs:(Lz.blk b).length<b.length
 ·have He:=uQ (show Lz.wrapB b=[1]++Frm.le b.length 4++Lz.blk b by unfold Lz.wrapB;rw [if_pos hs])
  have k2:((Lz.blk b).length:Int)<(b.length:Int):=oQ
  have Hs:=uQ hs
  clear hr hl hc1 hc2 hs
  go_enter Tryz.func56,Tryz.ntmps56
  go_wp2_with fail
  refine hsq.mono ?_
  rintro ee w1 ⟨v,rfl,ra,rn,rc,rfl,h1⟩
  obtain ⟨_,_,_,q0,q1,q2,q3⟩:=bsl_cap' h1
  cases q0
  subst q3
  have hpt:=wput_c (kd:=1) (n:=b.length) (by have:=Hl.out;omega) (by have:=Hl.out;have:=Hs.out;omega) (RS.of_bsl h1) h1
  clear hsq h q1 q2 k1
  go_wp2_with fail
  refine hpt.mono ?_
  rintro ee w2 ⟨v,rfl,h2⟩
  obtain ⟨va,vn,vc,rfl,x1,x2,x3⟩:=bsl_cap' h2
  clear x1 x2 x3
  have Hsh:=uQ (h2.sb:Sat w0 w2 (bsl (.slice va vn vc) ([1]++Frm.le b.length 4++Lz.blk b)::F))
  clear hpt h1 h2
  go_wp2_with fail
  go_ret2
  exact ⟨_,rfl,va,vn,vc,rfl,by rw [He.out];exact Hsh.out⟩
 ·have He:=uQ (show Lz.wrapB b=[0]++Frm.le b.length 4++b by unfold Lz.wrapB;rw [if_neg hs];rfl)
  have k2:¬ ((Lz.blk b).length:Int)<(b.length:Int):=oQ
  clear hr hl hc1 hc2 hs
  go_enter Tryz.func56,Tryz.ntmps56
  go_wp2_with fail
  refine hsq.mono ?_
  rintro ee w1 ⟨v,rfl,ra,rn,rc,rfl,h1⟩
  obtain ⟨_,_,_,q0,q1,q2,q3⟩:=bsl_cap' h1
  cases q0
  subst q3
  have hpt:=wput_c (kd:=0) (n:=b.length) (by have:=Hl.out;omega) (by have:=Hl.out;omega) Hr.out h1.drop
  clear hsq h q1 q2 k1
  go_wp2_with fail
  refine hpt.mono ?_
  rintro ee w2 ⟨v,rfl,h2⟩
  obtain ⟨va,vn,vc,rfl,x1,x2,x3⟩:=bsl_cap' h2
  clear x1 x2 x3
  have Hsh:=uQ h2
  clear hpt h1 h2
  go_wp2_with fail
  go_ret2
  exact ⟨_,rfl,va,vn,vc,rfl,by rw [He.out];exact Hsh.out⟩
theorem look_c {kd:UInt8}{n:Nat} (hkd:kd.toNat≤1) (hn:n≤16379) (hr:RS w0 F bv ([kd]++Frm.le n 4++rest)) (h:Sat w0 w F) :
  Calls Tryz.prog 65 #[bv] w (Rtn fun v w'=>v = .tuple #[.int .i64 (kd.toNat:Int),.int .i64 (n:Nat),errno 0]∧w=w'):=by
 obtain ⟨W,hW⟩:∃ W,[kd]++Frm.le n 4++rest=W:=⟨_,rfl⟩
 have hg0:W[0]?=some kd:=by rw [← hW];rfl
 have hW5:(W.drop 1).take 4=Frm.le n 4:=by
  rw [← hW]
  show (Frm.le n 4++rest).take 4=_
  rw [List.take_left' (Frm.le_len n 4)]
 have hWl:5≤W.length:=by rw [← hW];simp only [List.length_append,List.length_singleton,Frm.le_len];omega
 rw [hW]at hr
 obtain ⟨a,c,rfl,hc1,hc2⟩:=hr.len h
 have hm:=RS.mid (l:=1) (h:=5) hr oQ hWl
 rw [show (5:Nat) - 1=4 from rfl,hW5]at hm
 obtain ⟨sa,sc,hsd⟩:∃ sa sc,sliced a 1 5 c 1 = .slice sa 4 sc:=⟨_,_,rfl⟩
 rw [hsd]at hm
 have hsl:∀ w,(Instr.sliceAt 27 (.slice a W.length c) (some (.int .i64 1)) (some (.int .i64 5)) none).run Tryz.prog w = .ok (.slice sa 4 sc) w:=fun w=>by rw [← hsd];exact run_slLH (l:=1) (h:=5) oQ oQ w
 have hg:=get4_r (Frm.le n 4) (Frm.le_len n 4) sa sc (hm.rd w h)
 rw [Frm.num_le 4 n (by show n<4294967296;omega)]at hg
 have g1:(bys W)[0]?=some (.int .u8 kd.toNat):=bys_get.2 ⟨_,hg0,rfl⟩
 obtain ⟨bk,off,rfl,hcs⟩:=rdsl_cells (hr.rd w h) g1
 have e0:=hcs _ _ g1
 rw [Nat.add_zero]at e0
 obtain ⟨WL,hWL⟩:∃ x,W.length=x:=⟨_,rfl⟩
 rw [hWL]at hsl ⊢
 have c1:¬ (WL:Int)<5:=oQ
 have c2:decide ((1:Int)<(kd.toNat:Int))=false:=decide_eq_false oQ
 have c2n:decide (1<kd.toNat)=false:=decide_eq_false oQ
 have c3:decide ((16379:Int)<(n:Int))=false:=decide_eq_false oQ
 have c3n:decide (16379<n)=false:=decide_eq_false oQ
 have c4:(0:Int)<(WL:Int):=oQ
 have hw1:IntKind.i64.wrap (n:Int)=(n:Int):=IntWalk.i64_in _ oQ
 have hw2:IntKind.i64.wrap (kd.toNat:Int)=(kd.toNat:Int):=IntWalk.i64_in _ oQ
 clear hr h hm hsd hc1 hc2 hW hW5 hWl hg0 hcs g1 hWL hn hkd
 go_enter Tryz.func65,Tryz.ntmps65
 go_wp2_with ((with_reducible refine at_slice2 ⟨?_⟩);refine wl_slice2 rFz rFz rFz hsl ?_)
 refine hg.mono ?_
 rintro ee w1 ⟨v,rfl,rfl,rfl⟩
 clear hg hsl
 go_wp2_with fail
 go_ret3
 exact ⟨_,rfl,rfl,rfl⟩
set_option maxRecDepth 20000 in
theorem loosened_c (hl:b.length≤250) (hs:(Lz.blk b).length<b.length) (hr:RS w0 F bv (Lz.blk b)) (h:Sat w0 w F) :
  Calls Tryz.prog 66 #[bv,.int .i64 (b.length:Nat)] w (Rtn fun v w'=>∃ ra rn rc,v = .tuple #[.slice ra rn rc,errno 0]∧Sat w0 w' (bsl (.slice ra rn rc) b::F)):=by
 obtain ⟨t1,t2,t3⟩:=Lz.parts_tell b (Lz.hsh b)
 have hlo:=loosen_c (most:=b.length) (w0:=w0) (F:=F) (w:=w) t2 t1 hl (Nat.le_refl _) oQ (show (Lz.blk b).length≤1000000 by omega) hr h
 have Hr:=uQ hr;have Hl:=uQ hl
 obtain ⟨ba,bc,rfl,y1,y2⟩:=hr.len h
 obtain ⟨K,hK⟩:∃ K,(Lz.blk b).length=K:=⟨_,rfl⟩
 obtain ⟨N,hN⟩:∃ N,b.length=N:=⟨_,rfl⟩
 rw [hK,hN]at hs
 have c1:decide ((N:Int)≤(K:Int))=false:=decide_eq_false oQ
 have c1n:decide (N≤K)=false:=decide_eq_false oQ
 have HN:=uQ hN
 rw [hK]at hlo Hr ⊢
 rw [hN]at hlo ⊢
 clear hr h y1 y2 t1 t2 t3 hl hN hs
 go_enter Tryz.func66,Tryz.ntmps66
 go_wp2_with fail
 refine hlo.mono ?_
 rintro ee w1 ⟨v,rfl,ra,rn,rc,rfl,h1⟩
 obtain ⟨_,_,_,q0,q1,q2,q3⟩:=bsl_cap' h1
 cases q0
 rw [HN.out]at q3
 subst q3
 have hsq:=squeeze_c Hl.out (RS.of_bsl h1) h1
 clear hlo q1 q2
 go_wp2_with fail
 refine hsq.mono ?_
 rintro ee w2 ⟨v,rfl,sa,sn,sc,rfl,h2⟩
 have heq:=bequal_c (Lz.blk b) (Lz.blk b) (Sat.rd h2) (Hr.out.rd _ (h2.sb:Sat w0 w2 F))
 rw [decide_eq_true rfl]at heq
 have Hsh:=uQ h2.drop
 clear hsq h1 h2
 go_wp2_with fail
 refine heq.mono ?_
 rintro ee w3 ⟨v,rfl,rfl,rfl⟩
 clear heq
 go_wp2_with fail
 go_ret2
 exact ⟨_,rfl,_,_,_,rfl,Hsh.out⟩
set_option maxRecDepth 20000 in
theorem unwrap_c (hl:b.length≤250) (hr:RS w0 F bv (Lz.wrapB b)) (h:Sat w0 w F) :
  Calls Tryz.prog 33 #[bv] w (Rtn fun v w'=>∃ ra rn rc,v = .tuple #[.slice ra rn rc,errno 0]∧Sat w0 w' (bsl (.slice ra rn rc) b::F)):=by
 obtain ⟨kd,rest,hW,hkd,hcase⟩:∃ (kd:UInt8) (rest:Frm.Bs),Lz.wrapB b=[kd]++Frm.le b.length 4++rest∧kd.toNat≤1∧(kd.toNat=1∧rest=Lz.blk b∧(Lz.blk b).length<b.length∨kd.toNat=0∧rest=b):=by
  unfold Lz.wrapB
  split
  ·rename_i hs;exact ⟨1,_,rfl,Nat.le_refl _,.inl ⟨rfl,rfl,hs⟩⟩
  ·exact ⟨0,b,rfl,by decide,.inr ⟨rfl,rfl⟩⟩
 rw [hW]at hr
 have hlk:=look_c hkd oQ hr h
 have hd5:([kd]++Frm.le b.length 4++rest).drop 5=rest:=by
  rw [List.drop_left']
  simp only [List.length_append,List.length_singleton,Frm.le_len]
 have hWl:5≤([kd]++Frm.le b.length 4++rest).length:=by simp only [List.length_append,List.length_singleton,Frm.le_len];omega
 obtain ⟨ba,bc,a2,c2,rfl,y1,y2,hsl,hrd⟩:=cut_from hr h hWl
 rw [hd5]at hsl hrd
 obtain ⟨WL,hWL⟩:∃ x,([kd]++Frm.le b.length 4++rest).length=x:=⟨_,rfl⟩
 rw [hWL]at hlk hsl ⊢
 have Hl:=uQ hl;have Hrd:=uQ hrd
 clear hr y1 y2 hd5 hWl hW hkd hWL hrd hl
 rcases hcase with ⟨k1,rfl,k3⟩|⟨k1,rfl⟩
 ·rw [k1]at hlk
  have hlo:=loosened_c Hl.out k3 Hrd.out h
  clear k1 k3 h
  go_enter Tryz.func33,Tryz.ntmps33
  go_wp2_with fail
  refine hlk.mono ?_
  rintro ee w1 ⟨v,rfl,rfl,rfl⟩
  clear hlk
  go_wp2_with ((with_reducible refine at_slF ⟨?_⟩);refine wl_slF rFz rFz hsl ?_)
  refine hlo.mono ?_
  rintro ee w2 ⟨v,rfl,ra,rn,rc,rfl,h2⟩
  have Hsh:=uQ h2
  clear hlo hsl h2
  go_wp2_with fail
  go_ret2
  exact ⟨_,rfl,_,_,_,rfl,Hsh.out⟩
 ·rw [k1]at hlk
  have hcl:=clone_c h (Hrd.out.rd _ h) (by have:=Hl.out;omega)
  clear k1 h
  go_enter Tryz.func33,Tryz.ntmps33
  go_wp2_with fail
  refine hlk.mono ?_
  rintro ee w1 ⟨v,rfl,rfl,rfl⟩
  clear hlk
  go_wp2_with ((with_reducible refine at_slF ⟨?_⟩);refine wl_slF rFz rFz hsl ?_)
  refine hcl.mono ?_
  rintro ee w2 ⟨v,rfl,h2,ra,rn,rc,rfl⟩
  have Hsh:=uQ h2
  clear hcl hsl h2
  go_wp2_with fail
  go_ret2
  exact ⟨_,rfl,_,_,_,rfl,Hsh.out⟩
end
end Go.Proofs.YtlimfgdbfadohaaGreatDoor
namespace Go.Sha
structure St.Ok (s:St):Prop where
 a:s.a<4294967296
 b:s.b<4294967296
 c:s.c<4294967296
 d:s.d<4294967296
 e:s.e<4294967296
 f:s.f<4294967296
 g:s.g<4294967296
 h:s.h<4294967296
theorem modW (x:Nat):x%4294967296<4294967296:=Nat.mod_lt _ dCz
theorem round_ok {s:St} (h:s.Ok) (k w:Nat):(round s k w).Ok:=⟨modW _,h.a,h.b,h.c,modW _,h.e,h.f,h.g⟩
theorem rounds_succ (b:Bs) (s:St) (i:Nat):rounds b s (i+1)=round (rounds b s i) (at_ K i) (at_ (sched b) i):=by
 unfold rounds
 rw [List.range'_concat,List.foldl_append,Nat.one_mul,Nat.zero_add];rfl
theorem rounds_ok {s:St} (h:s.Ok) (b:Bs):∀ i,(rounds b s i).Ok
 |0=>h
 |i+1=>by rw [rounds_succ];exact round_ok (rounds_ok h b i) _ _
theorem add_ok (s v:St):(add s v).Ok:=⟨modW _,modW _,modW _,modW _,modW _,modW _,modW _,modW _⟩
theorem take_ok (s:St) (b:Bs):(take s b).Ok:=add_ok _ _
theorem begin_ok:begin.Ok:=⟨by decide,by decide,by decide,by decide,by decide,by decide,by decide,by decide⟩
def mix (s v:St) (i:Nat):List Nat:=(add s v).l.take i++s.l.drop i
theorem mix_len (s v:St){i:Nat} (hi:i≤8):(mix s v i).length=8:=by
 unfold mix
 rw [List.length_append,List.length_take,List.length_drop,show (add s v).l.length=8 from rfl,show s.l.length=8 from rfl];omega
end Go.Sha
namespace Go.Proofs.YtlimfgdbfadohaaGreatDoor
open Go Go.Sl Go.Med Go.MapKept Go.RowKit
def ShaK (w:World):Prop:=∀ i,i<64→w.cell? ⟨0,i,none⟩=some (.int .u32 (Sha.at_ Sha.K i:Nat))
def st8 (s:Sha.St):Array Value:=#[.int .u32 s.a,.int .u32 s.b,.int .u32 s.c,.int .u32 s.d,.int .u32 s.e,.int .u32 s.f,.int .u32 s.g,.int .u32 s.h]
theorem zSt:zeroB Tryz.prog 176=some (.agg #[.int .u32 0,.int .u32 0,.int .u32 0,.int .u32 0,.int .u32 0,.int .u32 0,.int .u32 0,.int .u32 0]):=by kernel_rfl
theorem run_st8 (x0 x1 x2 x3 x4 x5 x6 x7:Int) (w:World):(Instr.build 176 #[(0,.int .u32 x0),(1,.int .u32 x1),(2,.int .u32 x2),(3,.int .u32 x3),(4,.int .u32 x4),(5,.int .u32 x5),(6,.int .u32 x6),(7,.int .u32 x7)]).run Tryz.prog w = .ok (.agg #[.int .u32 x0,.int .u32 x1,.int .u32 x2,.int .u32 x3,.int .u32 x4,.int .u32 x5,.int .u32 x6,.int .u32 x7]) w:=by kernel_rfl
theorem st8_at (s:Sha.St){i:Nat} (hi:i<8):(st8 s)[i]?=some (.int .u32 (Sha.at_ s.l i:Nat)):=by
 rcases i with _|_|_|_|_|_|_|_|i
 all_goals first|rfl|omega
theorem mix_at (s v:Sha.St){i:Nat} (hi:i<8):(w32 (Sha.mix s v i)).toArray[i]?=some (.int .u32 (Sha.at_ s.l i:Nat)):=by
 rcases i with _|_|_|_|_|_|_|_|i
 all_goals first|rfl|omega
theorem mix_put (s v:Sha.St){i:Nat} (hi:i<8):putsAt (w32 (Sha.mix s v i)).toArray i [.int .u32 (((Sha.at_ s.l i+Sha.at_ v.l i)%4294967296:Nat):Int)]=(w32 (Sha.mix s v (i+1))).toArray:=by
 rcases i with _|_|_|_|_|_|_|_|i
 all_goals first|rfl|omega
theorem run_not32 {x n:Nat} (h:bits .xor .u32 IntKind.u32.max (x:Int)=(n:Int)) (w:World):(Op.unary .xor (.int .u32 (x:Int))).run Tryz.prog w = .ok (.int .u32 (n:Int)) w:=by
 rw [← h]
 first|rfl|go_simp
theorem t1s_ex {s:Sha.St} (h:s.Ok){k w:Nat}:∃ r6 r11 r25 d1 d2 u1 a1 n1 a2 x1 u2 u3 u4:Nat,Sha.rr 6 s.e=r6∧Sha.rr 11 s.e=r11∧Sha.rr 25 s.e=r25∧bits .xor .u32 (r6:Int) (r11:Int)=(d1:Int)∧bits .xor .u32 (d1:Int) (r25:Int)=(d2:Int)∧IntKind.u32.wrap ((s.h:Int)+(d2:Int))=(u1:Int) ∧
  bits .and .u32 (s.e:Int) (s.f:Int)=(a1:Int)∧bits .xor .u32 IntKind.u32.max (s.e:Int)=(n1:Int)∧bits .and .u32 (n1:Int) (s.g:Int)=(a2:Int)∧bits .xor .u32 (a1:Int) (a2:Int)=(x1:Int)∧IntKind.u32.wrap ((u1:Int)+(x1:Int))=(u2:Int)∧IntKind.u32.wrap ((u2:Int)+(k:Int))=(u3:Int)∧IntKind.u32.wrap ((u3:Int)+(w:Int))=(u4:Int)∧Sha.t1 s k w=u4:=by
 have hr:=fun n=>Sha.rr_lt n h.e
 have hn:4294967295 - s.e<4294967296:=oQ
 exact ⟨_,_,_,Sha.rr 6 s.e ^^^ Sha.rr 11 s.e,Sha.rr 6 s.e ^^^ Sha.rr 11 s.e ^^^ Sha.rr 25 s.e,_,s.e &&& s.f,4294967295 - s.e,(4294967295 - s.e) &&& s.g,(s.e &&& s.f) ^^^ ((4294967295 - s.e) &&& s.g),_,_,_,rfl,rfl,rfl,u32_xor_nat _ _ (hr 6) (hr 11),u32_xor_nat _ _ (Sha.xor_lt (hr 6) (hr 11)) (hr 25),addU _ _,u32_and_nat _ _ h.e h.f,not_u32 _ h.e,u32_and_nat _ _ hn h.g,u32_xor_nat _ _ (Sha.and_lt h.e) (Sha.and_lt hn),addU _ _,addU _ _,addU _ _,rfl⟩
theorem t2s_ex {s:Sha.St} (h:s.Ok):∃ r2 r13 r22 d1 d2 a1 a2 x1 a3 x2 u:Nat,Sha.rr 2 s.a=r2∧Sha.rr 13 s.a=r13∧Sha.rr 22 s.a=r22∧bits .xor .u32 (r2:Int) (r13:Int)=(d1:Int)∧bits .xor .u32 (d1:Int) (r22:Int)=(d2:Int)∧bits .and .u32 (s.a:Int) (s.b:Int)=(a1:Int)∧bits .and .u32 (s.a:Int) (s.c:Int)=(a2:Int)∧bits .xor .u32 (a1:Int) (a2:Int)=(x1:Int)∧bits .and .u32 (s.b:Int) (s.c:Int)=(a3:Int)∧bits .xor .u32 (x1:Int) (a3:Int)=(x2:Int)∧IntKind.u32.wrap ((d2:Int)+(x2:Int))=(u:Int)∧Sha.t2 s=u:=by
 have hr:=fun n=>Sha.rr_lt n h.a
 exact ⟨_,_,_,Sha.rr 2 s.a ^^^ Sha.rr 13 s.a,Sha.rr 2 s.a ^^^ Sha.rr 13 s.a ^^^ Sha.rr 22 s.a,s.a &&& s.b,s.a &&& s.c,(s.a &&& s.b) ^^^ (s.a &&& s.c),s.b &&& s.c,(s.a &&& s.b) ^^^ (s.a &&& s.c) ^^^ (s.b &&& s.c),_,rfl,rfl,rfl,u32_xor_nat _ _ (hr 2) (hr 13),u32_xor_nat _ _ (Sha.xor_lt (hr 2) (hr 13)) (hr 22),u32_and_nat _ _ h.a h.b,u32_and_nat _ _ h.a h.c,u32_xor_nat _ _ (Sha.and_lt h.a) (Sha.and_lt h.a),u32_and_nat _ _ h.b h.c,u32_xor_nat _ _ (Sha.xor_lt (Sha.and_lt h.a) (Sha.and_lt h.a)) (Sha.and_lt h.b),addU _ _,rfl⟩
theorem rd_ex (s:Sha.St) (k w t u:Nat) (ht:Sha.t1 s k w=t) (hu:Sha.t2 s=u):∃ z1 z2:Nat,IntKind.u32.wrap ((t:Int)+(u:Int))=(z1:Int)∧IntKind.u32.wrap ((s.d:Int)+(t:Int))=(z2:Int)∧Sha.round s k w=⟨z1,s.a,s.b,s.c,z2,s.e,s.f,s.g⟩:=
 ⟨_,_,addU _ _,addU _ _,by unfold Sha.round;rw [ht,hu]⟩
section
variable {w0 w:World}{F:List HProp}{a:Option Addr}{n c k:Nat}{b:Bs}{s:Sha.St}
set_option maxRecDepth 20000 in
theorem shatake_c (hb:b.length=64) (hs:s.Ok) (hr:RS w0 F (.slice a 64 c) b) (hK:Ro w0 F ShaK) (h:Sat w0 w F) :
  Calls Tryz.prog 87 #[.agg (st8 s),.slice a 64 c] w (Rtn fun v w'=>v = .agg (st8 (Sha.take s b))∧Sat w0 w' F):=by
 have Hr:=uQ hr;have Hb:=uQ hb;have Hs:=uQ hs;have HK:=uQ hK
 clear hr hb hs hK
 go_enter Tryz.func87,Tryz.ntmps87
 go_wp2_with (with_reducible apply at_box)
 refine ⟨wl_box h evD evD ?_⟩
 intro b2 w2 h2
 replace h2:Sat w0 w2 (pt b2 (.cells (st8 s) 176 (0,0))::F):=h2
 clear h
 go_wp2_with (with_reducible apply at_alloc)
 refine ⟨wl_alloc zSt h2 rfl ?_⟩
 intro b4 w4 h4
 clear h2
 have hsc:=schedule_c Hb.out (Hr.out.more sbD) h4
 clear h4
 go_wp2_with fail
 refine hsc.mono ?_
 rintro ee w5 ⟨v,rfl,rfl,h5⟩
 clear hsc
 have Hsz:=uQ (arr64_size (l:=Sha.sched b) (by rw [Sha.sched_len];exact Nat.le_refl _))
 have Hon:=uQ (arr64_ones (Sha.sched b))
 have Hat:=uQ (fun (i:Nat) (hi:i<64)=>arr64_at (l:=Sha.sched b) (i:=i) (by rw [Sha.sched_len];exact hi))
 have Hwl:=uQ (Sha.at_lt (Sha.sched_all b))
 generalize hA:arr64 (Sha.sched b)=A at *
 clear hA
 go_wp2_with (with_reducible apply at_alloc)
 refine ⟨wl_alloc zArr64 h5 rfl ?_⟩
 intro b5 w6 h6
 clear h5
 go_wp2_with (with_reducible apply at_store)
 refine ⟨wl_storeA A h6 rFz rFz (Hsz.out.trans (arr64_size (l:=[]) dCz).symm) upd0 (by rw [Hsz.out];exact infoArr64) Hon.out ?_⟩
 intro w7 h7
 clear h6
 go_wp2_with (first
  |((with_reducible refine at_load ⟨?_⟩);refine wl_loadA (cs:=st8 s) h7 rFz (pick_there (pick_there pick0)) Tryz.underlying176 rfl kRz ?_)
  |(with_reducible apply at_alloc))
 refine ⟨wl_alloc zSt h7 rfl ?_⟩
 intro b6 w8 h8
 clear h7
 go_wp2_with (with_reducible apply at_store)
 refine ⟨wl_storeA (st8 s) h8 rFz rFz rFz upd0 kRz rFz ?_⟩
 intro w9 h9
 clear h8
 go_wp2_with fail
 go_loopg [16] 64 (fun g iq wr=>∃ i:Nat,g=64 - i∧i≤64∧iq = .int .i64 i∧Sat w0 wr (pt b6 (.cells (st8 (Sha.rounds b s i)) 176 (0,0))::pt b5 (.cells A 129 (0,0))::pt b4 (.cells #[.int .u32 0,.int .u32 0,.int .u32 0,.int .u32 0,.int .u32 0,.int .u32 0,.int .u32 0,.int .u32 0] 176 (0,0))::pt b2 (.cells (st8 s) 176 (0,0))::F))
 case atStart=>exact ⟨0,rfl,Nat.zero_le _,rfl,h9⟩
 case round=>
  obtain ⟨i,rfl,hi,rfl,hS⟩:=hrel
  clear h9
  by_cases hil:i<64
  rotate_left
  focus
   obtain rfl:i=64:=by omega
   have Hf:=uQ (show Sha.take s b=Sha.add s (Sha.rounds b s 64) from rfl)
   obtain ⟨v,hv⟩:∃ v,Sha.rounds b s 64=v:=⟨_,rfl⟩
   rw [hv]at hS Hf
   clear hv hi hil
   go_wp2_with fail
   go_loopg [96] 8 (fun g iq wr=>∃ i:Nat,g=8 - i∧i≤8∧iq = .int .i64 i∧Sat w0 wr (pt b2 (.cells (w32 (Sha.mix s v i)).toArray 176 (0,0))::pt b6 (.cells (st8 v) 176 (0,0))::pt b4 (.cells #[.int .u32 0,.int .u32 0,.int .u32 0,.int .u32 0,.int .u32 0,.int .u32 0,.int .u32 0,.int .u32 0] 176 (0,0))::F))
   case atStart=>exact ⟨0,rfl,Nat.zero_le _,rfl,hS.sb⟩
   case round=>
    obtain ⟨j,rfl,hj,rfl,hT⟩:=hrel
    clear hS
    by_cases hjl:j<8
    rotate_left
    focus
     obtain rfl:j=8:=by omega
     have hT:Sat w0 _ (pt b4 (.cells #[.int .u32 0,.int .u32 0,.int .u32 0,.int .u32 0,.int .u32 0,.int .u32 0,.int .u32 0,.int .u32 0] 176 (0,0))::pt b2 (.cells (st8 (Sha.add s v)) 176 (0,0))::F):=hT.sb
     clear hj hjl
     go_wp2_with (first
      |((with_reducible refine at_load ⟨?_⟩);refine wl_loadA (cs:=st8 (Sha.add s v)) hT rFz pick1 Tryz.underlying176 rfl kRz ?_)
      |(with_reducible apply at_store))
     refine ⟨wl_storeA (st8 (Sha.add s v)) hT rFz rFz rFz upd0 kRz rFz ?_⟩
     intro w10 h10
     go_wp2_with fail
     refine ⟨rfl,_,res_cell rfl h10 rFz pick0 Tryz.underlying176 rfl kRz,_,rfl,by rw [Hf.out],h10.drop.drop⟩
    have c1:(j:Int)<8:=oQ
    have hwj:IntKind.i64.wrap ((j:Int)+1)=(j:Int)+1:=IntWalk.i64_in _ oQ
    have g1:=mix_at s v hjl
    have g2:=st8_at v hjl
    have hpt:=mix_put s v hjl
    have hsz:(w32 (Sha.mix s v j)).toArray.size=8:=by rw [List.size_toArray,w32_len,Sha.mix_len s v hj]
    have hw1:=addU (Sha.at_ s.l j) (Sha.at_ v.l j)
    obtain ⟨z,hz⟩:∃ z,(Sha.at_ s.l j+Sha.at_ v.l j)%4294967296=z:=⟨_,rfl⟩
    rw [hz]at hpt hw1
    generalize Sha.at_ s.l j=x1 at *
    generalize Sha.at_ v.l j=x2 at *
    have Hjl:=uQ hjl;have Hpt:=uQ hpt;have Hs8:=uQ hsz
    have hT2:=hT.drew
    have hG:World.cell? _ ⟨b2,j,none⟩=some (.int .u32 (x1:Int))∧World.cell? _ ⟨b6,j,none⟩=some (.int .u32 (x2:Int)):=⟨hT2.cellP pick0 j g1,hT2.cellP pick1 j g2⟩
    clear hT g1 g2 hpt hsz hz hj hjl
    go_wp2_with fail
    refine wpL_begin [6,7,8] (fun w'=>w'.cell? ⟨b2,j,none⟩=some (.int .u32 (x1:Int))∧w'.cell? ⟨b6,j,none⟩=some (.int .u32 (x2:Int))) kRz ?_
    refine rP 0 ?_ (y:=mvQ)
    refine rP 1 ?_ (y:=ixQ)
    refine rt 2 (h:=?_)
    refine rP 3 ?_ (y:=mvQ)
    refine rP 4 ?_ (y:=ixQ)
    refine rt 5 (h:=?_)
    clear hG
    refine rP 6 ?_ (y:=bnQ)
    refine rP 7 ?_ (y:=ixQ)
    refine rg_eff 8 evD kRz (fun K hK=>?_)
    refine eff_store (cs':=(w32 (Sha.mix s v (j+1))).toArray) hT2 evD evD Hpt.out upd0 (by rw [Hs8.out];exact Nat.succ_le_of_lt Hjl.out) kRz rFz ?_
    intro w11 h11
    refine hK _ _ (.inl rfl) ?_
    clear hK hT2
    refine wpL_done kRz ?_
    go_wp2_with fail
    go_roundg (8 - (j+1))
    case measure=>have:=Hjl.out;omega
    case rel=>exact ⟨j+1,rfl,Nat.succ_le_of_lt Hjl.out,by first|rfl|go_num,h11⟩
  have Hr1:=uQ (Sha.rounds_succ b s i)
  have hro:=Sha.rounds_ok Hs.out b i
  have g5:=Hat.out i hil
  generalize Sha.rounds b s i=r at *
  generalize Sha.at_ (Sha.sched b) i=wi at *
  obtain ⟨r6,r11,r25,d1,d2,u1,a1,n1,a2,x1,u2,u3,u4,f1,f2,f3,f4,f5,f6,f7,f8,f9,f10,f11,f12,f13,f14⟩:=t1s_ex hro (k:=Sha.at_ Sha.K i) (w:=wi)
  obtain ⟨q2,q13,q22,e1,e2,m1,m2,y1,m3,y2,uu,j1,j2,j3,j4,j5,j6,j7,j8,j9,j10,j11,j12⟩:=t2s_ex hro
  obtain ⟨z1,z2,l1,l2,l3⟩:=rd_ex r (Sha.at_ Sha.K i) wi u4 uu f14 j12
  have HKK:=uQ (fun (w':World) (hw:Sat w0 w' F)=>HK.out w' hw i hil)
  generalize Sha.at_ Sha.K i=ki at *
  rw [l3]at Hr1
  have hR6:=uQ (fun (w':World) (G:List HProp) (hw:Sat w0 w' G)=>right_6_c r.e hro.e hw)
  have hR11:=uQ (fun (w':World) (G:List HProp) (hw:Sat w0 w' G)=>right_11_c r.e hro.e hw)
  have hR25:=uQ (fun (w':World) (G:List HProp) (hw:Sat w0 w' G)=>right_25_c r.e hro.e hw)
  have hR2:=uQ (fun (w':World) (G:List HProp) (hw:Sat w0 w' G)=>right_2_c r.a hro.a hw)
  have hR13:=uQ (fun (w':World) (G:List HProp) (hw:Sat w0 w' G)=>right_13_c r.a hro.a hw)
  have hR22:=uQ (fun (w':World) (G:List HProp) (hw:Sat w0 w' G)=>right_22_c r.a hro.a hw)
  rw [f1]at hR6;rw [f2]at hR11;rw [f3]at hR25;rw [j1]at hR2;rw [j2]at hR13;rw [j3]at hR22
  obtain ⟨ra,rb,rc,rd,re,rf,rg,rh⟩:=r
  have hS:Sat w0 wr (pt b6 (.cells #[.int .u32 ra,.int .u32 rb,.int .u32 rc,.int .u32 rd,.int .u32 re,.int .u32 rf,.int .u32 rg,.int .u32 rh] 176 (0,0))::pt b5 (.cells A 129 (0,0))::pt b4 (.cells #[.int .u32 0,.int .u32 0,.int .u32 0,.int .u32 0,.int .u32 0,.int .u32 0,.int .u32 0,.int .u32 0] 176 (0,0))::pt b2 (.cells (st8 s) 176 (0,0))::F):=hS
  dsimp only at f6 f7 f8 f9 j6 j7 j9 l2 Hr1 hR6 hR11 hR25 hR2 hR13 hR22
  obtain ⟨G,hGd⟩:∃ G,G=pt b6 (.cells #[.int .u32 ra,.int .u32 rb,.int .u32 rc,.int .u32 rd,.int .u32 re,.int .u32 rf,.int .u32 rg,.int .u32 rh] 176 (0,0))::pt b5 (.cells A 129 (0,0))::pt b4 (.cells #[.int .u32 0,.int .u32 0,.int .u32 0,.int .u32 0,.int .u32 0,.int .u32 0,.int .u32 0,.int .u32 0] 176 (0,0))::pt b2 (.cells (st8 s) 176 (0,0))::F:=⟨_,rfl⟩
  have HG:=uQ hGd
  have HG1:=uQ (show ∀ w',Sat w0 w' G→w'.cell? ⟨b6,7,none⟩=some (.int .u32 (rh:Int))∧w'.cell? ⟨b6,5,none⟩=some (.int .u32 (rf:Int))∧w'.cell? ⟨b6,6,none⟩=some (.int .u32 (rg:Int))∧w'.cell? ⟨0,i,none⟩=some (.int .u32 (ki:Int))∧w'.cell? ⟨b5,i,none⟩=some (.int .u32 (wi:Int)) from fun w' hw=>by
   rw [hGd]at hw
   exact ⟨hw.cellP pick0 7 rfl,hw.cellP pick0 5 rfl,hw.cellP pick0 6 rfl,HKK.out w' (hw.sb),hw.cellP pick1 i g5⟩)
  have HG2:=uQ (show ∀ w',Sat w0 w' G→w'.cell? ⟨b6,1,none⟩=some (.int .u32 (rb:Int))∧w'.cell? ⟨b6,2,none⟩=some (.int .u32 (rc:Int)) from fun w' hw=>by
   rw [hGd]at hw
   exact ⟨hw.cellP pick0 1 rfl,hw.cellP pick0 2 rfl⟩)
  have v4:wr.cell? ⟨b6,4,none⟩=some (.int .u32 (re:Int)):=hS.cellP pick0 4 rfl
  rw [← hGd]at hS
  have c1:(i:Int)<64:=oQ
  have hwi:=iwQ (i:=i)
  have Hil:=uQ hil
  clear hGd hil hi hro f1 f2 f3 f14 j1 j2 j3 j12 l3 g5 HKK
  go_wp2_with fail
  have h1:=hS.drew
  have hG:=HG1.out _ h1
  clear hS v4
  refine wpL_begin [29,30] (fun w'=>w'.cell? ⟨b6,7,none⟩=some (.int .u32 (rh:Int))∧w'.cell? ⟨b6,5,none⟩=some (.int .u32 (rf:Int))∧w'.cell? ⟨b6,6,none⟩=some (.int .u32 (rg:Int))∧w'.cell? ⟨0,i,none⟩=some (.int .u32 (ki:Int))∧w'.cell? ⟨b5,i,none⟩=some (.int .u32 (wi:Int))) kRz ?_
  refine rP 0 ?_ (y:=ixQ)
  refine rt 1 (h:=?_)
  refine rP 2 ?_ (y:=mvQ)
  refine rP 4 ?_ (y:=mvQ)
  refine rP 7 ?_ (y:=mvQ)
  refine rP 11 ?_ (y:=mvQ)
  refine rP 12 ?_ (y:=ixQ)
  refine rt 13 (h:=?_)
  refine rP 14 ?_ (y:=bnQ)
  refine rP 15 ?_ (y:=mvQ)
  refine rP 16 ?_ (y:=(yl_un evD (run_not32 f8)))
  refine rP 17 ?_ (y:=ixQ)
  refine rt 18 (h:=?_)
  refine rP 19 ?_ (y:=bnQ)
  refine rP 20 ?_ (y:=bnQ)
  refine rP 22 ?_ (y:=mvQ)
  refine rP 23 ?_ (y:=ixQ)
  refine rt 24 (h:=?_)
  refine rP 26 ?_ (y:=mvQ)
  refine rP 27 ?_ (y:=ixQ)
  refine rt 28 (h:=?_)
  clear hG
  refine rg_eff 3 evD kRz (fun K hK=>?_)
  (refine eff_call2 kRz evD evD ?_)
  refine (hR6.out _ _ h1).mono ?_
  rintro ee w11 ⟨v,rfl,rfl,h2⟩
  refine hK _ _ (.inr (.inl (HG1.out _ h2))) ?_
  clear hK h1
  refine rg_eff 5 evD kRz (fun K hK=>?_)
  (refine eff_call2 kRz evD evD ?_)
  refine (hR11.out _ _ h2).mono ?_
  rintro ee w12 ⟨v,rfl,rfl,h3⟩
  refine hK _ _ (.inr (.inl (HG1.out _ h3))) ?_
  clear hK h2
  refine rP 6 ?_ (y:=bnQ)
  refine rg_eff 8 evD kRz (fun K hK=>?_)
  (refine eff_call2 kRz evD evD ?_)
  refine (hR25.out _ _ h3).mono ?_
  rintro ee w13 ⟨v,rfl,rfl,h4⟩
  refine hK _ _ (.inr (.inl (HG1.out _ h4))) ?_
  clear hK h3
  refine rP 9 ?_ (y:=bnQ)
  refine rP 10 ?_ (y:=bnQ)
  refine rP 21 ?_ (y:=bnQ)
  refine rP 25 ?_ (y:=bnQ)
  refine rP 29 ?_ (y:=bnQ)
  refine rP 30 ?_ (y:=asQ)
  refine wpL_done kRz ?_
  clear f4 f5 f6 f7 f8 f9 f10 f11 f12 f13 hR6 hR11 hR25
  have v0:w13.cell? ⟨b6,0,none⟩=some (.int .u32 (ra:Int)):=by
   have h5:=h4
   rw [HG.out]at h5
   exact h5.cellP pick0 0 rfl
  go_wp2_with fail
  have h5:=h4.drew
  have hG:=HG2.out _ h5
  clear h4 v0
  refine wpL_begin [22,23,24] (fun w'=>w'.cell? ⟨b6,1,none⟩=some (.int .u32 (rb:Int))∧w'.cell? ⟨b6,2,none⟩=some (.int .u32 (rc:Int))) kRz ?_
  refine rP 0 ?_ (y:=mvQ)
  refine rP 2 ?_ (y:=mvQ)
  refine rP 5 ?_ (y:=mvQ)
  refine rP 8 ?_ (y:=mvQ)
  refine rP 9 ?_ (y:=ixQ)
  refine rt 10 (h:=?_)
  refine rP 11 ?_ (y:=bnQ)
  refine rP 12 ?_ (y:=mvQ)
  refine rP 13 ?_ (y:=ixQ)
  refine rt 14 (h:=?_)
  refine rP 15 ?_ (y:=bnQ)
  refine rP 16 ?_ (y:=bnQ)
  refine rP 17 ?_ (y:=ixQ)
  refine rt 18 (h:=?_)
  refine rP 19 ?_ (y:=ixQ)
  refine rt 20 (h:=?_)
  refine rP 21 ?_ (y:=bnQ)
  refine rP 22 ?_ (y:=bnQ)
  clear hG
  refine rg_eff 1 evD kRz (fun K hK=>?_)
  (refine eff_call2 kRz evD evD ?_)
  refine (hR2.out _ _ h5).mono ?_
  rintro ee w14 ⟨v,rfl,rfl,h6⟩
  refine hK _ _ (.inr (.inl (HG2.out _ h6))) ?_
  clear hK h5
  refine rg_eff 3 evD kRz (fun K hK=>?_)
  (refine eff_call2 kRz evD evD ?_)
  refine (hR13.out _ _ h6).mono ?_
  rintro ee w15 ⟨v,rfl,rfl,h7⟩
  refine hK _ _ (.inr (.inl (HG2.out _ h7))) ?_
  clear hK h6
  refine rP 4 ?_ (y:=bnQ)
  refine rg_eff 6 evD kRz (fun K hK=>?_)
  (refine eff_call2 kRz evD evD ?_)
  refine (hR22.out _ _ h7).mono ?_
  rintro ee w16 ⟨v,rfl,rfl,h8⟩
  refine hK _ _ (.inr (.inl (HG2.out _ h8))) ?_
  clear hK h7
  refine rP 7 ?_ (y:=bnQ)
  refine rP 23 ?_ (y:=bnQ)
  refine rP 24 ?_ (y:=asQ)
  refine wpL_done kRz ?_
  clear j4 j5 j6 j7 j8 j9 j10 j11 hR2 hR13 hR22
  rw [HG.out]at h8
  have v1:w16.cell? ⟨b6,1,none⟩=some (.int .u32 (rb:Int)):=h8.cellP pick0 1 rfl
  have v2:w16.cell? ⟨b6,2,none⟩=some (.int .u32 (rc:Int)):=h8.cellP pick0 2 rfl
  have v3:w16.cell? ⟨b6,3,none⟩=some (.int .u32 (rd:Int)):=h8.cellP pick0 3 rfl
  have v5:w16.cell? ⟨b6,5,none⟩=some (.int .u32 (rf:Int)):=h8.cellP pick0 5 rfl
  have v6:w16.cell? ⟨b6,6,none⟩=some (.int .u32 (rg:Int)):=h8.cellP pick0 6 rfl
  go_wp2_with (first
   |((with_reducible apply ug_at_build);refine ⟨?_⟩;refine wl_bld (ps:=#[(0,.int .u32 (z1:Int)),(1,.int .u32 (ra:Int)),(2,.int .u32 (rb:Int)),(3,.int .u32 (rc:Int)),(4,.int .u32 (z2:Int)),(5,.int .u32 (re:Int)),(6,.int .u32 (rf:Int)),(7,.int .u32 (rg:Int))]) (by simp only [List.map_toArray,List.map_cons,List.map_nil];rfl) (fun w=>run_st8 _ _ _ _ _ _ _ _ w) ?_)
   |(with_reducible apply at_store))
  refine ⟨wl_storeA #[.int .u32 (z1:Int),.int .u32 (ra:Int),.int .u32 (rb:Int),.int .u32 (rc:Int),.int .u32 (z2:Int),.int .u32 (re:Int),.int .u32 (rf:Int),.int .u32 (rg:Int)] h8 rFz rFz rFz upd0 kRz rFz ?_⟩
  intro w17 h9
  clear h8 v1 v2 v3 v5 v6
  go_wp2_with fail
  go_roundg (64 - (i+1))
  case measure=>have:=Hil.out;omega
  case rel=>exact ⟨i+1,rfl,Nat.succ_le_of_lt Hil.out,by first|rfl|go_num,by rw [Hr1.out];exact h9⟩
end
structure D where
 kind:Int
 name:ByteArray
 to:ByteArray
 n:Int
 m:Int
 bv:Value
 b:Bs
 lv:Value
 l:List Int
structure D.Few (w0:World) (F:List HProp) (d e:D):Prop where
 kind:e.kind=d.kind
 name:e.name=shortS d.name 30
 to:e.to=shortS d.to 30
 n:e.n=d.n
 m:e.m=d.m
 b:e.b=d.b.take 100
 l:e.l=d.l.take 60
 lr:Ro w0 F (rdsl 1 e.lv (ints e.l))
 lc:capOk e.lv
section
variable {w0 w:World}{F:List HProp}{m fb nb b r:Nat}{M:Med}{bs:List Nat}{wv v bv dv:Value}{s:ByteArray}{fs:List Fil}{K:Nat}
end
section
variable {w0 w:World}{F:List HProp}{m fb nb b r:Nat}{M:Med}{bs:List Nat}{wv v bv dv:Value}{s:ByteArray}{fs:List Fil}{K:Nat}{f:Fil}
theorem rot_out (h:Sat w0 w (FilRep b f::F)) (_:f.Ok K) (at_:Int) (y:UInt8) (ho:at_<0∨(f.now.length:Int)≤at_) :
  Calls Tryz.prog 27 #[ptr b,.int .i64 at_,.int .u8 y.toNat] w (Rtn fun v w'=>v = .bool false∧Sat w0 w' (FilRep b f::F)):=by
 obtain ⟨fv,nv,wv,ws,hws,hR⟩:=FilRep.open h
 obtain ⟨na,nn,nc,rfl⟩:=bsl_shape (hR.sel 3 [2] rfl rfl)
 have hnn:nn=f.now.length:=by
  obtain ⟨_,_,_,he,hl,_⟩:=Sat.rd (hR.sel 3 [2] rfl rfl)
  cases he
  rw [bys_len,Nat.mul_one]at hl;exact hl.symm
 subst hnn
 have c1:=hR.cellAt 1 _ rfl
 by_cases h1:at_<0
 ·clear hws
  go_enter Tryz.func27,Tryz.ntmps27
  go_wp2
  go_ret
  exact ⟨.bool false,rfl,rfl,h⟩
 ·have h2:(f.now.length:Int)≤at_:=by omega
  have h1':decide (at_<0)=false:=by rw [decide_eq_false_iff_not];exact h1
  clear hws ho
  go_enter Tryz.func27,Tryz.ntmps27
  go_wp2
  go_ret
  exact ⟨.bool false,rfl,rfl,h⟩
end
section
variable {w0 w:World}{F:List HProp}{m fb nb b r:Nat}{M:Med}{bs:List Nat}{wv v bv dv:Value}{s:ByteArray}{fs:List Fil}{K:Nat}{f:Fil}
theorem chg_set:∀ (ws:List (Chg×Value)) (j:Nat) (p:Chg×Value) (b':Bs) (v':Value),ws[j]?=some p→(ws.flatMap chgCells).set (j * 3+2) v'=(ws.set j ({ p.1 with b:=b' },v')).flatMap chgCells
 |[],_,_,_,_,h=>by cases h
 |q::ws,0,p,b',v',h=>by
  cases h
  rfl
 |q::ws,j+1,p,b',v',h=>by
  have:=chg_set ws j p b' v' (by simpa using h)
  rw [List.set_cons_succ,List.flatMap_cons,List.flatMap_cons,← this]
  have e:(j+1) * 3+2=(j * 3+2)+1+1+1:=oQ
  rw [e]
  rfl
theorem chgs_put:∀ (ws:List (Chg×Value)) (i:Nat) (p:Chg×Value),ws[i]?=some p→∃ G:HProp,chgs ws=star (bsl p.2 p.1.b) G∧∀ p',chgs (ws.set i p')=star (bsl p'.2 p'.1.b) G
 |[],_,_,h=>by cases h
 |q::ws,0,p,h=>by
  simp at h;subst h
  exact ⟨chgs ws,rfl,fun _=>rfl⟩
 |q::ws,i+1,p,h=>by
  obtain ⟨G,hG,hG'⟩:=chgs_put ws i p (by simpa using h)
  refine ⟨star (bsl q.2 q.1.b) G,?_,fun p'=>?_⟩
  ·show star (bsl q.2 q.1.b) (chgs ws)=_
   rw [hG,star_left_comm]
  ·show star (bsl q.2 q.1.b) (chgs (ws.set i p'))=_
   rw [hG',star_left_comm]
theorem past_lt {k m W:Nat} (hp:Past f k m W) (hW:W≤f.waits.length) (hk:k<(f.at W).length):∀ d j,W=j+d→m≤j→k<(f.at j).length
 |0,j,e,_=>by rw [e]at hk;exact hk
 |d+1,j,e,hj=>by
  have h1:k<(f.at (j+1)).length:=past_lt hp hW hk d (j+1) oQ oQ
  have h2:f.waits[j]?=some (f.waits[j]'oQ):=List.getElem?_eq_getElem _
  rcases hp j _ hj oQ h2 with h3|h3
  ·rw [f.at_succ j _ h2]at h1
   unfold Chg.on at h1
   rw [if_pos h3]at h1
   simp at h1;omega
  ·exact h3
theorem rot_found {k j:Nat}{c:Chg} (y:UInt8) (hp:Past f k (j+1) f.waits.length) (hc:f.waits[j]?=some c) (hcut:c.cut=false) (hl:(f.at j).length≤k) :
  f.rot k y={ f with now:=xorAt f.now k y,waits:=f.waits.set j { c with b:=xorAt c.b (k - (f.at j).length) y } }:=by
 unfold Fil.rot
 rcases rotWaits_spec f k y f.waits.length (Nat.le_refl _) with ⟨h1,h2⟩|⟨i,d,hi,hd,hdc,hdl,h1,h2⟩
 ·rcases h2 j c (Nat.zero_le _) (List.getElem?_eq_some_iff.1 hc).1 hc with h|h
  ·rw [hcut]at h;cases h
  ·omega
 ·have hj:j<f.waits.length:=(List.getElem?_eq_some_iff.1 hc).1
  rcases Nat.lt_trichotomy i j with hlt|rfl|hgt
  ·rcases h2 j c hlt hj hc with h|h
   ·rw [hcut]at h;cases h
   ·omega
  ·rw [hc]at hd;cases hd
   rw [h1]
  ·rcases hp i d hgt hi hd with h|h
   ·rw [hdc]at h;cases h
   ·omega
theorem rot_none {k:Nat} (y:UInt8) (hp:Past f k 0 f.waits.length):f.rot k y={ f with now:=xorAt f.now k y,fast:=xorAt f.fast k y }:=by
 unfold Fil.rot
 rcases rotWaits_spec f k y f.waits.length (Nat.le_refl _) with ⟨h1,h2⟩|⟨i,d,hi,hd,hdc,hdl,h1,h2⟩
 ·rw [h1]
 ·rcases hp i d (Nat.zero_le _) hi hd with h|h
  ·rw [hdc]at h;cases h
  ·omega
theorem rot_in (h:Sat w0 w (FilRep b f::F)) (hf:f.Ok K) (hK:K≤1099511627776) (k:Nat) (y:UInt8) (hk:k<f.now.length) :
  Calls Tryz.prog 27 #[ptr b,.int .i64 k,.int .u8 y.toNat] w (Rtn fun v w'=>v = .bool true∧Sat w0 w' (FilRep b (f.rot k y)::F)):=by
 obtain ⟨fv,nv,wv,ws,hws,hR⟩:=FilRep.open h
 obtain ⟨na,nn,nc,rfl⟩:=bsl_shape (hR.sel 3 [2] rfl rfl)
 have hnn:nn=f.now.length:=by
  obtain ⟨_,_,_,he,hl,_⟩:=Sat.rd (hR.sel 3 [2] rfl rfl)
  cases he
  rw [bys_len,Nat.mul_one]at hl;exact hl.symm
 subst hnn
 obtain ⟨fa,fn,fc,rfl⟩:=bsl_shape (hR.sel 2 [1] rfl rfl)
 have hb:Sat w0 w (bsl (.slice na f.now.length nc) f.now::filPt b (.slice fa fn fc) (.slice na f.now.length nc) wv::bsl (.slice fa fn fc) f.fast::osl 128 3 wv (ws.flatMap chgCells)::chgs ws::F):=hR.sel 5 [2,0,1,3,4] rfl rfl
 obtain ⟨g,rfl,e0,e1,hS⟩:=bsl_set hb hk (f.now[k] ^^^ y)
 have c1:=hb.pick1.cellAt 1 _ rfl
 have hx:=xor_u8 (f.now[k]'hk) y
 have d0:=hS.pick1.cellAt 0 _ rfl
 obtain ⟨wa,wn,wc,rfl,hwn,_⟩:=id (Sat.rd (hS.sel 4 [3] rfl rfl))
 have hwl:wn=f.waits.length:=by
  have:(ws.flatMap chgCells).length=f.waits.length * 3:=by rw [List.length_flatMap,← hws];simp [chgCells,List.map_const']
  omega
 subst hwl
 clear hwn
 have hfn:fn=f.fast.length:=by
  obtain ⟨_,_,_,he,hl,_⟩:=Sat.rd (hS.sel 3 [2] rfl rfl)
  cases he
  rw [bys_len,Nat.mul_one]at hl;exact hl.symm
 subst hfn
 have hA:=hS.alloc (.cells #[.int .i64 f.fast.length] 3)
 have d2:=hA.pick2.cellAt 2 _ rfl
 have h1':decide ((k:Int)<0)=false:=by rw [decide_eq_false_iff_not];omega
 have h2':decide ((f.now.length:Int)≤(k:Int))=false:=by rw [decide_eq_false_iff_not];omega
 have h3':(k:Int)<(f.now.length:Int):=oQ
 have h4':decide (f.now.length≤k)=false:=by rw [decide_eq_false_iff_not];omega
 have Hws:=uQ hws;have Hf:=uQ hf
 clear hws hf
 generalize hx0:f.now[k]'hk=x0 at *
 have Hx0:=uQ hx0;clear hx0
 generalize hz:x0 ^^^ y=z at *
 have Hz:=uQ hz;clear hz
 clear hb hR h
 go_enter Tryz.func27,Tryz.ntmps27
 go_wp2_with fail
 have hL:Sat w0 _ (osl 3 1 (.slice (some ⟨w.heap.size,0,none⟩) 1 1) ((List.range (0+1)).map fun j=>Value.int .i64 ((f.at j).length:Nat))::_):=Sat.osl_of_pt (by simpa using hA) (by simp) (Nat.le_refl _) (by simp) (by unfold maxLen;omega) rfl
 generalize w.heap.size=q at *
 go_loopg [7,46] f.waits.length (fun gg lv iq wr=>∃ (i:Nat) (la:Option Addr) (ln lc:Nat),gg=f.waits.length - i∧i≤f.waits.length∧iq = .int .i64 i∧lv = .slice la ln lc ∧
  Sat w0 wr (osl 3 1 (.slice la ln lc) ((List.range (i+1)).map fun j=>Value.int .i64 ((f.at j).length:Nat))::bsl (.slice (some ⟨g,0,none⟩) f.now.length nc) (f.now.set k z)::filPt b (.slice fa f.fast.length fc) (.slice (some ⟨g,0,none⟩) f.now.length nc) (.slice wa f.waits.length wc)::bsl (.slice fa f.fast.length fc) f.fast::osl 128 3 (.slice wa f.waits.length wc) (ws.flatMap chgCells)::chgs ws::F))
 case atStart=>exact ⟨0,_,1,1,rfl,Nat.zero_le _,rfl,rfl,hL⟩
 case round=>
  obtain ⟨i,la,ln,lc,rfl,hi,rfl,rfl,hS1⟩:=hrel
  by_cases hi':i<f.waits.length
  ·obtain ⟨p,hp⟩:∃ p,ws[i]?=some p:=⟨ws[i]'(by have:=congrArg List.length Hws.out;simp at this;omega),List.getElem?_eq_getElem _⟩
   have hpw:f.waits[i]?=some p.1:=by rw [← Hws.out,List.getElem?_map,hp];rfl
   have hO:=hS1.sel 5 [4] rfl rfl
   have hshape:∃ g,wa=some ⟨g,0,none⟩:=by
    rcases (Sat.osl_cases hO) with ⟨he,hx,_⟩|⟨g,n',cap',cs,he,_⟩
    ·have:=(Value.slice.inj he).2.1;omega
    ·exact ⟨g,(Value.slice.inj he).1⟩
   obtain ⟨gw,rfl⟩:=hshape
   obtain ⟨w0',w1',w2'⟩:=waits_cells hO hp
   obtain ⟨G,hG⟩:=chgs_take ws i p hp
   have hS2:=hS1.sel 6 [5] rfl rfl
   rw [hG]at hS2
   obtain ⟨ba,bn,bc,hpb,_,_,hbn⟩:=bsl_cap' (Sat.star.1 hS2)
   obtain ⟨⟨cut,cn,cb⟩,pv⟩:=p
   simp only at hpb w0' w1' w2' hpw
   subst hpb
   have hic:(i:Int)<(f.waits.length:Int):=oQ
   have hL1:=hS1.rd
   have hln:ln=i+1:=by
    obtain ⟨_,_,_,he,hl,_⟩:=hL1
    cases he
    simpa using hl.symm
   subst hln
   obtain ⟨gl,rfl⟩:∃ g,la=some ⟨g,0,none⟩:=by
    rcases (Sat.osl_cases hS1) with ⟨he,hx,_⟩|⟨g,n',cap',cs,he,_⟩
    ·have:=(Value.slice.inj he).2.1;omega
    ·exact ⟨g,(Value.slice.inj he).1⟩
   have hSA:=hS1.alloc (.cells #[.bool cut,.int .i64 cn,.slice ba bn bc] 128)
   have cl:(wr.alloc (.cells #[.bool cut,.int .i64 cn,.slice ba bn bc] 128)).cell? ⟨gl,i,none⟩=some (.int .i64 (f.at i).length):=by
    obtain ⟨_,_,_,he,_,hx⟩:=hSA.pick1.rd
    cases he
    obtain ⟨b2,hb2,hc⟩:=hx i (.int .i64 ((f.at i).length:Nat)) (by simp)
    cases hb2
    rw [add_zero_lit]at hc;exact hc
   have cb0:=hSA.cellAt 0 _ rfl
   have cb1:=hSA.cellAt 1 _ rfl
   have cb2:=hSA.cellAt 2 _ rfl
   have hszi:=Hf.out.size i oQ
   have hbud:=Hf.out.budget
   have hwr1:IntKind.i64.wrap (i:Int)=(i:Int):=IntWalk.i64_in _ oQ
   have hil:(i:Int)<(i:Int)+1:=oQ
   simp only at hbn
   subst hbn
   have hrel':∀ N:Int,N=((f.at (i+1)).length:Int)→((List.range (i+1)).map fun j=>Value.int .i64 ((f.at j).length:Nat))++[.int .i64 N]=(List.range (i+1+1)).map fun j=>Value.int .i64 ((f.at j).length:Nat):=by
    rintro N rfl
    rw [List.range_succ (n:=i+1),List.map_append];rfl
   have hlenl:((List.range (i+1)).map fun j=>Value.int .i64 ((f.at j).length:Nat)).length=i+1:=by simp
   have Hrel:=uQ hrel';have Hlenl:=uQ hlenl
   have hS8:=hSA.drew
   clear hp hO hG hS2 d0 d2 e0 e1 c1 hS hA hL hL1 hrel' hlenl
   generalize hLL:((List.range (i+1)).map fun j=>Value.int .i64 ((f.at j).length:Nat))=LL at *
   clear hLL
   cases cut
   ·have hszb:(f.at i).length+cb.length≤16777216:=by
     have:=Hf.out.size (i+1) oQ
     rw [f.at_succ i _ hpw]at this
     simpa [Chg.on] using this
    have hnext:((f.at i).length:Int)+cb.length=((f.at (i+1)).length:Int):=by
     rw [f.at_succ i _ hpw]
     simp [Chg.on]
    have hwr2:IntKind.i64.wrap (((f.at i).length:Int)+cb.length)=((f.at (i+1)).length:Int):=by rw [IntWalk.i64_in _ oQ];exact hnext
    clear hpw hnext hszi
    generalize ((f.at i).length:Int)=L0 at *
    go_wp2_with fail
    generalize wr.heap.size=qc at *
    refine wpL_begin [9,10] (fun w'=>w'.cell? ⟨gl,i,none⟩=some (.int .i64 L0)∧w'.cell? ⟨qc,2,none⟩=some (.slice ba cb.length bc)) kRz ?_
    have hG:_∧_:=⟨cl,cb2⟩
    refine wpL_pure (i:=0) (v:=?_) rfl kRz iQ (Or.inl ⟨by rfl,?_⟩) ?_;rotate_left;focus ((intro wq;go_simp);first|done|exact wQ)
    refine wpL_pure (i:=1) (v:=?_) rfl kRz iQ (Or.inl ⟨by rfl,?_⟩) ?_;rotate_left;focus ((intro wq;go_simp);first|done|exact wQ)
    refine wpL_pure (i:=2) (v:=?_) rfl kRz iQ (Or.inl ⟨by rfl,?_⟩) ?_;rotate_left;focus ((intro wq;go_simp);first|done|exact wQ)
    refine wpL_pure (i:=3) (v:=?_) rfl kRz iQ (Or.inl ⟨by rfl,?_⟩) ?_;rotate_left;focus ((intro wq;go_simp);first|done|exact wQ)
    refine wpL_pure (i:=4) (v:=?_) rfl kRz iQ (Or.inl ⟨by rfl,?_⟩) ?_;rotate_left;focus ((intro wq;go_simp);first|done|exact wQ)
    refine wpL_take (i:=5) (v:=?_) rfl kRz iQ (Or.inl ⟨by rfl,?_⟩) aQ ?_;rotate_left;focus ((intro wq hq;go_split_ands;go_simp);first|done|exact wQ)
    refine wpL_pure (i:=6) (v:=?_) rfl kRz iQ (Or.inl ⟨by rfl,?_⟩) ?_;rotate_left;focus ((intro wq;go_simp);first|done|exact wQ)
    refine wpL_take (i:=7) (v:=?_) rfl kRz iQ (Or.inl ⟨by rfl,?_⟩) aQ ?_;rotate_left;focus ((intro wq hq;go_split_ands;go_simp);first|done|exact wQ)
    refine wpL_pure (i:=8) (v:=?_) rfl kRz iQ (Or.inl ⟨by rfl,?_⟩) ?_;rotate_left;focus ((intro wq;go_simp);first|done|exact wQ)
    refine wpL_pure (i:=9) (v:=?_) rfl kRz iQ (Or.inl ⟨by rfl,?_⟩) ?_;rotate_left;focus ((intro wq;go_simp);first|done|exact wQ)
    refine wpL_pure (i:=10) (v:=?_) rfl kRz iQ (Or.inl ⟨by rfl,?_⟩) ?_;rotate_left;focus ((intro wq;go_simp);first|done|exact wQ)
    refine wpL_done kRz ?_
    clear hG
    simp only [ayQ]
    go_frame
    clear hwr1 hwr2 hil cl cb0 cb1 cb2 hSA w0' w1' w2' hS1
    generalize (wr.alloc (.cells #[.bool false,.int .i64 cn,.slice ba cb.length bc] 128)).drew=w8 at *
    have c9:=hS8.cellAt 0 _ rfl
    have c10:=hS8.cellAt 1 _ rfl
    skip
    obtain ⟨ii,hii,hz0,hz1,hz2⟩:=info_parts infoInt
    have hB:=hS8.alloc (.cells #[.int .i64 (f.at (i+1)).length] 3)
    have hL1:=Hlenl.out
    have h63:LL.length+1≤maxLen:=by rw [hL1];unfold maxLen;omega
    have hby:(LL.length+1) * ii.bytes≤140737488355328:=by rw [hL1,hz2];omega
    clear hL1
    go_wp2_with (at_builtin;go_must (refine wpList_append (w0:=w0) rFz _ _ _ rFz _ ii _ Tryz.underlying44 hii hz0 hz1 rFz oQ rFz rFz (by intro u hu;simp at hu;subst hu;rfl) (hB.sel 3 [2] rfl rfl) (rdsl_new _ _ _ 1 1 1 rFz) h63 hby ?_);intro v2 w5 hS5 hne)
    obtain ⟨oa',on',oc',rfl,_⟩:=id hS5.rd
    clear hne h63 hby hB
    go_roundg (f.waits.length - (i+1))
    case measure=>omega
    case rel=>
     refine ⟨i+1,oa',on',oc',rfl,by omega,by go_num,rfl,?_⟩
     rw [← Hrel.out _ rfl]
     exact hS5
   ·have hcn:(cn:Int)=((f.at (i+1)).length:Int):=by
     have h1:=Hf.out.cuts i _ hpw rfl
     rw [f.at_succ i _ hpw]
     simp only [Chg.on,if_true,List.length_take]at h1 ⊢
     omega
    have hwr2:True:=trivial
    have Hcn:=uQ hcn
    clear hpw hszi hcn
    generalize ((f.at i).length:Int)=L0 at *
    go_wp2_with fail
    generalize wr.heap.size=qc at *
    refine wpL_begin [9,10] (fun w'=>w'.cell? ⟨gl,i,none⟩=some (.int .i64 L0)∧w'.cell? ⟨qc,2,none⟩=some (.slice ba cb.length bc)) kRz ?_
    have hG:_∧_:=⟨cl,cb2⟩
    refine wpL_pure (i:=0) (v:=?_) rfl kRz iQ (Or.inl ⟨by rfl,?_⟩) ?_;rotate_left;focus ((intro wq;go_simp);first|done|exact wQ)
    refine wpL_pure (i:=1) (v:=?_) rfl kRz iQ (Or.inl ⟨by rfl,?_⟩) ?_;rotate_left;focus ((intro wq;go_simp);first|done|exact wQ)
    refine wpL_pure (i:=2) (v:=?_) rfl kRz iQ (Or.inl ⟨by rfl,?_⟩) ?_;rotate_left;focus ((intro wq;go_simp);first|done|exact wQ)
    refine wpL_pure (i:=3) (v:=?_) rfl kRz iQ (Or.inl ⟨by rfl,?_⟩) ?_;rotate_left;focus ((intro wq;go_simp);first|done|exact wQ)
    refine wpL_pure (i:=4) (v:=?_) rfl kRz iQ (Or.inl ⟨by rfl,?_⟩) ?_;rotate_left;focus ((intro wq;go_simp);first|done|exact wQ)
    refine wpL_take (i:=5) (v:=?_) rfl kRz iQ (Or.inl ⟨by rfl,?_⟩) aQ ?_;rotate_left;focus ((intro wq hq;go_split_ands;go_simp);first|done|exact wQ)
    refine wpL_pure (i:=6) (v:=?_) rfl kRz iQ (Or.inl ⟨by rfl,?_⟩) ?_;rotate_left;focus ((intro wq;go_simp);first|done|exact wQ)
    refine wpL_take (i:=7) (v:=?_) rfl kRz iQ (Or.inl ⟨by rfl,?_⟩) aQ ?_;rotate_left;focus ((intro wq hq;go_split_ands;go_simp);first|done|exact wQ)
    refine wpL_pure (i:=8) (v:=?_) rfl kRz iQ (Or.inl ⟨by rfl,?_⟩) ?_;rotate_left;focus ((intro wq;go_simp);first|done|exact wQ)
    refine wpL_pure (i:=9) (v:=?_) rfl kRz iQ (Or.inl ⟨by rfl,?_⟩) ?_;rotate_left;focus ((intro wq;go_simp);first|done|exact wQ)
    refine wpL_pure (i:=10) (v:=?_) rfl kRz iQ (Or.inl ⟨by rfl,?_⟩) ?_;rotate_left;focus ((intro wq;go_simp);first|done|exact wQ)
    refine wpL_done kRz ?_
    clear hG
    simp only [ayQ]
    go_frame
    clear hwr1 hwr2 hil cl cb0 cb1 cb2 hSA w0' w1' w2' hS1
    generalize (wr.alloc (.cells #[.bool true,.int .i64 cn,.slice ba cb.length bc] 128)).drew=w8 at *
    have c9:=hS8.cellAt 0 _ rfl
    have c10:=hS8.cellAt 1 _ rfl
    skip
    obtain ⟨ii,hii,hz0,hz1,hz2⟩:=info_parts infoInt
    have hB:=hS8.alloc (.cells #[.int .i64 cn] 3)
    have hL1:=Hlenl.out
    have h63:LL.length+1≤maxLen:=by rw [hL1];unfold maxLen;omega
    have hby:(LL.length+1) * ii.bytes≤140737488355328:=by rw [hL1,hz2];omega
    clear hL1
    go_wp2_with (at_builtin;go_must (refine wpList_append (w0:=w0) rFz _ _ _ rFz _ ii _ Tryz.underlying44 hii hz0 hz1 rFz oQ rFz rFz (by intro u hu;simp at hu;subst hu;rfl) (hB.sel 3 [2] rfl rfl) (rdsl_new _ _ _ 1 1 1 rFz) h63 hby ?_);intro v2 w5 hS5 hne)
    obtain ⟨oa',on',oc',rfl,_⟩:=id hS5.rd
    clear hne h63 hby hB
    go_roundg (f.waits.length - (i+1))
    case measure=>omega
    case rel=>
     refine ⟨i+1,oa',on',oc',rfl,by omega,by go_num,rfl,?_⟩
     rw [← Hrel.out _ Hcn.out]
     exact hS5
  ·obtain rfl:i=f.waits.length:=by omega
   have hic:¬ (f.waits.length:Int)<(f.waits.length:Int):=oQ
   have hbud:=Hf.out.budget
   have d2':=hS1.pick2.cellAt 2 _ rfl
   have hwrW:IntKind.i64.wrap ((f.waits.length:Int) - 1)=(f.waits.length:Int) - 1:=IntWalk.i64_in _ oQ
   clear d0 d2 e0 e1 c1 hS hA hL hi'
   go_wp2_with fail
   clear d2' hwrW hic
   have Hlow:=uQ hk
   go_loopg [11] f.waits.length (fun gg iq wr=>∃ (n:Nat),gg=n∧n≤f.waits.length∧iq = .int .i64 ((n:Int) - 1)∧Past f k n f.waits.length ∧
    Sat w0 wr (osl 3 1 (.slice la ln lc) ((List.range (f.waits.length+1)).map fun j=>Value.int .i64 ((f.at j).length:Nat))::bsl (.slice (some ⟨g,0,none⟩) f.now.length nc) (f.now.set k z)::filPt b (.slice fa f.fast.length fc) (.slice (some ⟨g,0,none⟩) f.now.length nc) (.slice wa f.waits.length wc)::bsl (.slice fa f.fast.length fc) f.fast::osl 128 3 (.slice wa f.waits.length wc) (ws.flatMap chgCells)::chgs ws::F))
   case atStart=>exact ⟨f.waits.length,rfl,Nat.le_refl _,rfl,(fun j c h1 h2=>by omega),hS1⟩
   case round=>
    obtain ⟨n,hgn,hn,rfl,hpast,hS2⟩:=hrel
    have hgn':=hgn.symm
    subst hgn'
    have hkn:k<(f.at f.waits.length).length:=by rw [← Hf.out.now];exact hk
    have hznow:f.now.set k z=xorAt f.now k y:=by
     unfold xorAt
     rw [List.getD_eq_getElem?_getD,List.getElem?_eq_getElem hk,Option.getD_some,Hx0.out,Hz.out]
    have Hznow:=uQ hznow
    clear hznow
    rcases n with _|j
    ·have hkf:k<f.fast.length:=past_lt hpast (Nat.le_refl _) hkn f.waits.length 0 oQ (Nat.zero_le _)
     have Hrot:=uQ (rot_none y hpast)
     have hrd:=Sat.rd (hS2.sel 4 [3] rfl rfl)
     have hcl:=clone_c hS2 hrd (by have:=Hf.out.size 0 (Nat.zero_le _);rw [Fil.at_zero]at this;omega)
     have b0:=hS2.pick2.cellAt 0 _ rfl
     clear hrd hpast hkn hgn hn
     rw [show (((0:Nat):Int) - 1) = -1 from rfl]
     go_wp2_with fail
     refine hcl.mono ?_
     rintro e w1 ⟨v',rfl,hS3,a3,n3,k3,rfl⟩
     have hP:=hS3.sel 4 [3,0,2] rfl rfl
     have fz:=hP.freeAt 0
     have fz1:=hP.cellAt 0 _ rfl
     have hP2:=hP.set 0 (.slice a3 n3 k3)
     have p0:(w1.setCell ⟨b,0,none⟩ (.slice a3 n3 k3)).cell? ⟨b,0,none⟩=some (.slice a3 n3 k3):=hP2.cellAt 0 _ rfl
     obtain ⟨g3,rfl,p1,p2,hP3⟩:=bsl_set hP2.pick1 hkf (f.fast[k]'hkf ^^^ y)
     have hx1:=xor_u8 (f.fast[k]'hkf) y
     have hn3:n3=f.fast.length:=by
      obtain ⟨_,_,_,he,hl,_⟩:=Sat.rd (hP2.sel 2 [1] rfl rfl)
      cases he
      rw [bys_len,Nat.mul_one]at hl;exact hl.symm
     subst hn3
     have hki:(k:Int)<(f.fast.length:Int):=oQ
     have hzf:f.fast.set k (f.fast[k]'hkf ^^^ y)=xorAt f.fast k y:=by
      unfold xorAt
      rw [List.getD_eq_getElem?_getD,List.getElem?_eq_getElem hkf,Option.getD_some]
     rw [hzf]at hP3
     have Hzf:=uQ hzf
     clear hzf hS3 hP hcl b0
     generalize f.fast[k]'hkf=x3 at *
     generalize x3 ^^^ y=z3 at *
     go_wp2
     go_ret
     refine ⟨.bool true,rfl,rfl,?_⟩
     rw [Hrot.out]
     have h6:=hP3.sel 5 [1,0,2,4] rfl rfl
     rw [Hznow.out]at h6
     have h7:Sat w0 _ (FilRaw b { f with now:=xorAt f.now k y,fast:=xorAt f.fast k y } (.slice (some ⟨g3,0,none⟩) f.fast.length k3) (.slice (some ⟨g,0,none⟩) f.now.length nc) (.slice wa f.waits.length wc) ws++F):=h6
     exact FilRep.shut Hws.out h7
    ·have hj:j<f.waits.length:=hn
     obtain ⟨p,hp⟩:∃ p,ws[j]?=some p:=⟨ws[j]'(by have:=congrArg List.length Hws.out;simp at this;omega),List.getElem?_eq_getElem _⟩
     have hpw:f.waits[j]?=some p.1:=by rw [← Hws.out,List.getElem?_map,hp];rfl
     have hO:=hS2.sel 5 [4] rfl rfl
     obtain ⟨gw,rfl⟩:∃ g,wa=some ⟨g,0,none⟩:=by
      rcases (Sat.osl_cases hO) with ⟨he,hx,_⟩|⟨g,n',cap',cs,he,_⟩
      ·have:=(Value.slice.inj he).2.1;omega
      ·exact ⟨g,(Value.slice.inj he).1⟩
     obtain ⟨w0',w1',w2'⟩:=waits_cells hO hp
     obtain ⟨G,hG,hG'⟩:=chgs_put ws j p hp
     rw [hG]at hS2
     have hS2b:=(Sat.star.1 (hS2.sel 6 [5,0,1,2,3,4] rfl rfl)).sel 7 [2,3,4,5,6,0,1] rfl rfl
     obtain ⟨⟨cut,cn,cb⟩,pv⟩:=p
     obtain ⟨ba,bn,bc,hpb,_,_,hbn⟩:=bsl_cap' (hS2b.sel 6 [5] rfl rfl)
     simp only at hpb w0' w1' w2' hpw hbn
     subst hpb
     subst hbn
     obtain ⟨gl,rfl⟩:∃ g,la=some ⟨g,0,none⟩:=by
      rcases (Sat.osl_cases hS2b) with ⟨he,hx,_⟩|⟨g,n',cap',cs,he,_⟩
      ·have:=congrArg List.length hx
       simp at this
      ·exact ⟨g,(Value.slice.inj he).1⟩
     have hln:ln=f.waits.length+1:=by
      obtain ⟨_,_,_,he,hl,_⟩:=hS2b.rd
      cases he
      simpa using hl.symm
     subst hln
     have b2:=hS2b.pick2.cellAt 2 _ rfl
     have hic:(j:Int)<(f.waits.length:Int):=oQ
     have hwj:IntKind.i64.wrap ((j:Int) - 1)=(j:Int) - 1:=IntWalk.i64_in _ oQ
     have hil:(j:Int)<(f.waits.length:Int)+1:=oQ
     have hget:((List.range (f.waits.length+1)).map fun j=>Value.int .i64 ((f.at j).length:Nat))[j]?=some (.int .i64 ((f.at j).length:Nat)):=by
      rw [List.getElem?_map,List.getElem?_range oQ];rfl
     have Hget:=uQ hget
     have Hpw:=uQ hpw
     clear hget hpw hO
     cases cut
     ·have hSA:=hS2b.alloc (.cells #[.bool false,.int .i64 cn,.slice ba cb.length bc] 128)
      have cb0:=hSA.cellAt 0 _ rfl
      have cb2:=hSA.cellAt 2 _ rfl
      have cl:=(osl_set hSA.pick1 j undef).2.1 _ Hget.out
      by_cases hle:(f.at j).length≤k
      ·have Hrot:=uQ (rot_found y hpast Hpw.out rfl hle)
       have hkj:k<(f.at (j+1)).length:=past_lt hpast (Nat.le_refl _) hkn (f.waits.length - (j+1)) (j+1) oQ (Nat.le_refl _)
       rw [f.at_succ j _ Hpw.out]at hkj
       simp only [Chg.on,Bool.false_eq_true,if_false,List.length_append]at hkj
       have hszj:=Hf.out.size (j+1) oQ
       rw [f.at_succ j _ Hpw.out]at hszj
       simp only [Chg.on,Bool.false_eq_true,if_false,List.length_append]at hszj
       obtain ⟨t,ht⟩:∃ t,t=k - (f.at j).length:=⟨_,rfl⟩
       have htl:t<cb.length:=oQ
       have hwt:IntKind.i64.wrap ((k:Int) - ((f.at j).length:Int))=(t:Int):=by rw [IntWalk.i64_in _ oQ];omega
       have hti:(t:Int)<(cb.length:Int):=oQ
       have hle1:((f.at j).length:Int)≤(k:Int):=oQ
       have Ht:=uQ ht
       have hrd:rdsl 1 (.slice ba cb.length bc) (bys cb) (wr.alloc (.cells #[.bool false,.int .i64 cn,.slice ba cb.length bc] 128)):=Sat.rd (hSA.sel 7 [6] rfl rfl)
       have hcl:=clone_c hSA hrd oQ
       have Hkj:=uQ hkj;have Hszj:=uQ hszj
       clear hpast hkn hgn ht hkj hszj hrd
       go_wp2_with fail
       refine hcl.mono ?_
       rintro e w1 ⟨v',rfl,hS3,a3,n3,k3,rfl⟩
       clear hcl hSA cb0 cb2 cl w0' w1' w2' b2
       have cl:=(osl_set hS3.pick2 j undef).2.1 _ Hget.out
       obtain ⟨g3,rfl,p1,p2,hP3⟩:=bsl_set hS3 htl (cb[t]'htl ^^^ y)
       have hx1:=xor_u8 (cb[t]'htl) y
       have hn3:n3=cb.length:=by
        obtain ⟨_,_,_,he,hl,_⟩:=Sat.rd hS3
        cases he
        rw [bys_len,Nat.mul_one]at hl;exact hl.symm
       subst hn3
       have hzf:cb.set t (cb[t]'htl ^^^ y)=xorAt cb t y:=by
        unfold xorAt
        rw [List.getD_eq_getElem?_getD,List.getElem?_eq_getElem htl,Option.getD_some]
       rw [hzf]at hP3
       clear hzf hS3
       generalize cb[t]'htl=x3 at *
       generalize x3 ^^^ y=z3 at *
       have b2:=(hP3.sel 5 [4] rfl rfl).cellAt 2 _ rfl
       have hP4:=hP3.sel 9 [6,0,2,3,4,5,8] rfl rfl
       have o2:=(osl_set hP4 (j * 3+2) undef).2.1 _ (chg_cells ws j _ hp).2.2
       obtain ⟨o1,_,hP5⟩:=osl_set hP4 (j * 3+2) (.slice (some ⟨g3,0,none⟩) cb.length k3)
       rw [chg_set ws j _ (xorAt cb t y) _ hp]at hP5
       go_wp2
       go_ret
       refine ⟨.bool true,rfl,rfl,?_⟩
       rw [Hrot.out,← Ht.out]
       have h6:=Sat.star.2 (hP5.sel 7 [1,6,4,5,3,0] rfl rfl)
       rw [Hznow.out]at h6
       have h7:=h6.sel 5 [1,2,3,4,0] rfl rfl
       refine FilRep.shut (fv:= .slice fa f.fast.length fc) (nv:= .slice (some ⟨g,0,none⟩) f.now.length nc) (wv:= .slice (some ⟨gw,0,none⟩) f.waits.length wc) (ws:=ws.set j (⟨false,cn,xorAt cb t y⟩,.slice (some ⟨g3,0,none⟩) cb.length k3)) (by rw [List.map_set,Hws.out]) ?_
       unfold FilRaw
       rw [hG' (⟨false,cn,xorAt cb t y⟩,.slice (some ⟨g3,0,none⟩) cb.length k3)]
       exact h7
      ·have hpn:Past f k j f.waits.length:=by
        intro i c h1 h2 h3
        rcases Nat.lt_or_ge j i with h4|h4
        ·exact hpast i c h4 h2 h3
        ·obtain rfl:i=j:=by omega
         exact .inr oQ
       have hle':¬ ((f.at j).length:Int)≤(k:Int):=oQ
       clear hpast
       go_wp2_with fail
       go_roundg j
       case measure=>omega
       case rel=>
        refine ⟨j,rfl,by omega,rfl,hpn,?_⟩
        rw [hG]
        have:=hSA.sel 8 [6,7,1,2,3,4,5] rfl rfl
        exact (Sat.star.2 this).sel 6 [1,2,3,4,5,0] rfl rfl
     ·have hSA:=hS2b.alloc (.cells #[.bool true,.int .i64 cn,.slice ba cb.length bc] 128)
      have cb0:=hSA.cellAt 0 _ rfl
      have hpn:Past f k j f.waits.length:=by
       intro i c h1 h2 h3
       rcases Nat.lt_or_ge j i with h4|h4
       ·exact hpast i c h4 h2 h3
       ·obtain rfl:i=j:=by omega
        rw [Hpw.out]at h3;cases h3
        exact .inl rfl
      clear hpast
      go_wp2_with fail
      go_roundg j
      case measure=>omega
      case rel=>
       refine ⟨j,rfl,by omega,rfl,hpn,?_⟩
       rw [hG]
       have:=hSA.sel 8 [6,7,1,2,3,4,5] rfl rfl
       exact (Sat.star.2 this).sel 6 [1,2,3,4,5,0] rfl rfl
end
section
variable {P:Program}{w0 w:World}{L L' R:List HProp}{b o:Nat}{ops:Array Oper}{rest:List Oper}{a:Act}{Q:Exit→Act→World→Prop}{dst:Option Tmp}{t ty T sz n c:Nat}{pos:String}{after:Array Edge}{x y:Operand}{v v0 v1 v2:Value}{xs:List Value}{K:Act→World→Prop}{E:Prop}
end
section
variable {w0 w:World}{F R:List HProp}{d i:Nat}{D:Med}{fsv fv nv wv v lv bv:Value}{xs:List RF}{x:RF}{g:Bag}{K:Nat}
section
variable {ops:Array Oper}{a:Act}{Q:Exit→Act→World→Prop}{dst:Option Tmp}{t b n c:Nat}{pos:String}{after:Array Edge}{p q:Operand}{l:Bs}{K:Act→World→Prop}{E:Prop}
theorem eff_storeB (i:Nat) (z:UInt8) (hs:Sat w0 w (bsl (.slice (some ⟨b,0,none⟩) n c) l::R)) (hx:a.eval p = .pointer (some ⟨b,i,none⟩)) (hy:a.eval q = .int .u8 z.toNat) (hi:i<l.length)
  (hK:∀ w',Sat w0 w' (bsl (.slice (some ⟨b,0,none⟩) n c) (l.set i z)::R)→K (a.put dst undef) w') :
  if Region.wanted ⟨dst,.store 5 p q,t,pos,after,none⟩ (yielded ops a.tmps)=true then Oper.wp Tryz.prog ⟨dst,.store 5 p q,t,pos,after,none⟩ a w K Q else E:=by
 have h0:Sat w0 w (osl 5 1 (.slice (some ⟨b,0,none⟩) n c) (bys l)::R):=hs
 refine eff_storeS i h0 hx hy upd0 (by rw [bys_len];exact hi) kRz rfl rfl fun w' hS=>hK w' ?_
 have e:(bys l).set i (.int .u8 z.toNat)=bys (l.set i z):=by unfold bys;rw [List.map_set]
 rw [e]at hS
 exact hS
end
theorem byte_at {b n c i:Nat}{l:Bs} (h:Sat w0 w (bsl (.slice (some ⟨b,0,none⟩) n c) l::R)) (hi:i<l.length):w.cell? ⟨b,i,none⟩=some (.int .u8 (l.getD i 0).toNat):=by
 obtain ⟨g,he,hc,_⟩:=bsl_set h hi 0
 cases he
 rw [hc,List.getD_eq_getElem?_getD,List.getElem?_eq_getElem hi];rfl
end
end Go.Proofs.YtlimfgdbfadohaaGreatDoor
namespace Go.Sha
def rv (l:Bs):Nat→Bs
 |0=>l
 |i+1=>((rv l i).set i ((rv l i).getD (l.length - 1 - i) 0)).set (l.length - 1 - i) ((rv l i).getD i 0)
theorem rv_len (l:Bs):∀ i,(rv l i).length=l.length
 |0=>rfl
 |i+1=>by rw [rv,List.length_set,List.length_set,rv_len l i]
theorem rv_rev {l:Bs} (h:l.length=4∨l.length=8):rv l (l.length / 2)=l.reverse:=by
 rcases h with h|h
 ·rw [h]
  show rv l 2=l.reverse
  match l,h with
  |[a,b,c,d],_=>rfl
 ·rw [h]
  show rv l 4=l.reverse
  match l,h with
  |[a,b,c,d,e,f,g,i],_=>rfl
end Go.Sha
namespace Go.Proofs.YtlimfgdbfadohaaGreatDoor
open Go Go.Sl Go.Med Go.MapKept Go.RowKit
section
variable {w0 w:World}{F:List HProp}{g c:Nat}{l:Bs}
set_option maxRecDepth 20000 in
theorem reverse_c (hl:l.length=4∨l.length=8) (h:Sat w0 w (bsl (.slice (some ⟨g,0,none⟩) l.length c) l::F)) :
  Calls Tryz.prog 134 #[.slice (some ⟨g,0,none⟩) l.length c] w (Rtn fun _ w'=>Sat w0 w' (bsl (.slice (some ⟨g,0,none⟩) l.length c) l.reverse::F)):=by
 have Hl:=uQ hl;have Hrv:=uQ (Sha.rv_rev hl)
 obtain ⟨n,hn⟩:∃ n,l.length=n:=⟨_,rfl⟩
 rw [hn]at h ⊢
 have Hn:=uQ hn
 have e1:IntKind.i64.wrap ((n:Int) - 1)=((n - 1:Nat):Int):=by rw [IntWalk.i64_in _ oQ];omega
 obtain ⟨n1,hn1⟩:∃ n1,n - 1=n1:=⟨_,rfl⟩
 rw [hn1]at e1
 have Hn1:=uQ hn1
 clear hl hn hn1
 go_enter Tryz.func134,Tryz.ntmps134
 go_wp2_with fail
 clear e1
 go_loopg [2,3] (n / 2) (fun gg iq jq wr=>∃ i j:Nat,gg=n / 2 - i∧i≤n / 2∧j+i=n1∧iq = .int .i64 i∧jq = .int .i64 j∧Sat w0 wr (bsl (.slice (some ⟨g,0,none⟩) n c) (Sha.rv l i)::F))
 case atStart=>exact ⟨0,n1,rfl,Nat.zero_le _,rfl,rfl,rfl,h⟩
 case round=>
  obtain ⟨i,j,rfl,hi,hj,rfl,rfl,hS⟩:=hrel
  clear h
  have hnn:=Hl.out
  rw [Hn.out]at hnn
  have hn1:=Hn1.out
  by_cases hil:i<n / 2
  rotate_left
  focus
   obtain rfl:i=n / 2:=by omega
   have c1:¬ ((n / 2:Nat):Int)<(j:Int):=oQ
   have hS:Sat w0 wr (bsl (.slice (some ⟨g,0,none⟩) n c) l.reverse::F):=by
    have hr:=Hrv.out
    rw [Hn.out]at hr
    rw [← hr];exact hS
   obtain ⟨m,hm⟩:∃ m,n / 2=m:=⟨_,rfl⟩
   rw [hm]at c1 ⊢
   clear hi hj hnn hn1 hil hm
   go_wp2_with fail
   go_end0
   exact ⟨_,rfl,hS⟩
  have c1:(i:Int)<(j:Int):=oQ
  have ci:(i:Int)<(n:Int):=oQ
  have cj:(j:Int)<(n:Int):=oQ
  have wi:IntKind.i64.wrap ((i:Int)+1)=((i+1:Nat):Int):=by rw [IntWalk.i64_in _ oQ];omega
  have wj:IntKind.i64.wrap ((j:Int) - 1)=((j - 1:Nat):Int):=by rw [IntWalk.i64_in _ oQ];omega
  have hlen:(Sha.rv l i).length=n:=by rw [Sha.rv_len,Hn.out]
  have hnext:Sha.rv l (i+1)=((Sha.rv l i).set i ((Sha.rv l i).getD j 0)).set j ((Sha.rv l i).getD i 0):=by
   rw [Sha.rv,Hn.out,show n - 1 - i=j by omega]
  have hij:i<n∧j<n∧j - 1+(i+1)=n1:=oQ
  have Hnext:=uQ hnext;have Hij:=uQ hij;have Hlen:=uQ hlen;have Hil:=uQ hil
  generalize Sha.rv l i=k at *
  have h1:=hS.drew
  have a1:=byte_at h1 (i:=i) (by rw [hlen];exact hij.1)
  have a2:=byte_at h1 (i:=j) (by rw [hlen];exact hij.2.1)
  obtain ⟨x,hx⟩:∃ x,k.getD i 0=x:=⟨_,rfl⟩
  obtain ⟨y,hy⟩:∃ y,k.getD j 0=y:=⟨_,rfl⟩
  rw [hx]at a1 Hnext
  rw [hy]at a2 Hnext
  obtain ⟨i1,hi1⟩:∃ i1,i+1=i1:=⟨_,rfl⟩
  obtain ⟨j1,hj1⟩:∃ j1,j - 1=j1:=⟨_,rfl⟩
  rw [hi1]at wi
  rw [hj1]at wj
  have Hi1:=uQ hi1;have Hj1:=uQ hj1
  have hG:World.cell? _ ⟨g,j,none⟩=some (.int .u8 y.toNat)∧World.cell? _ ⟨g,i,none⟩=some (.int .u8 x.toNat):=⟨a2,a1⟩
  clear hS a1 a2 hx hy hi1 hj1 hnext hij hlen hil hi hj hnn hn1
  go_wp2_with fail
  refine wpL_begin [12,13,14,15] (fun w'=>w'.cell? ⟨g,j,none⟩=some (.int .u8 y.toNat)∧w'.cell? ⟨g,i,none⟩=some (.int .u8 x.toNat)) kRz ?_
  refine rP 0 ?_ (y:=mvQ)
  refine rP 1 ?_ (y:=mvQ)
  refine rP 2 ?_ (y:=mvQ)
  refine rP 3 ?_ (y:=mvQ)
  refine rP 4 ?_ (y:=mvQ)
  refine rP 5 ?_ (y:=mvQ)
  refine rP 6 ?_ (y:=ixQ)
  refine rt 7 (h:=?_)
  refine rP 8 ?_ (y:=mvQ)
  refine rP 9 ?_ (y:=mvQ)
  refine rP 10 ?_ (y:=ixQ)
  refine rt 11 (h:=?_)
  clear hG
  refine rP 12 ?_ (y:=ixQ)
  refine rg_eff 13 evD kRz (fun K hK=>?_)
  refine eff_storeB i y h1 evD evD (by rw [Hlen.out];exact Hij.out.1) ?_
  intro w2 h2
  refine hK _ _ (.inl rfl) ?_
  clear hK h1
  refine rP 14 ?_ (y:=ixQ)
  refine rg_eff 15 evD kRz (fun K hK=>?_)
  refine eff_storeB j x h2 evD evD (by rw [List.length_set,Hlen.out];exact Hij.out.2.1) ?_
  intro w3 h3
  refine hK _ _ (.inl rfl) ?_
  clear hK h2
  refine wpL_done kRz ?_
  go_wp2_with fail
  go_roundg (n / 2 - (i+1))
  case measure=>have:=Hil.out;omega
  case rel=>exact ⟨i+1,j - 1,rfl,Nat.succ_le_of_lt Hil.out,Hij.out.2.2,by rw [Hi1.out],by rw [Hj1.out],by rw [Hnext.out];exact h3⟩
theorem bigOf_c {x n:Nat} (hn:n=4∨n=8) (hput:Calls Tryz.prog 133 #[.int .u64 x,.int .i64 n] w (Rtn fun v w'=>Sat w0 w' (bsl v (Frm.le x n)::F)∧∃ a,v = .slice a n n)) :
  Calls Tryz.prog 88 #[.int .u64 x,.int .i64 n] w (Rtn fun v w'=>∃ g,v = .slice (some ⟨g,0,none⟩) n n∧Sat w0 w' (bsl v (Sha.bigL x n)::F)):=by
 have Hl:=uQ (show (Frm.le x n).length=n from Frm.le_len x n)
 have Hb:=uQ (show Sha.bigL x n=(Frm.le x n).reverse from rfl)
 generalize Frm.le x n=l at *
 have Hn:=uQ hn
 clear hn
 go_enter Tryz.func88,Tryz.ntmps88
 go_wp2_with fail
 refine hput.mono ?_
 rintro ee w1 ⟨v,rfl,h1,aa,rfl⟩
 clear hput
 obtain ⟨g,rfl⟩:∃ g,aa=some ⟨g,0,none⟩:=by
  rcases Sat.osl_cases h1 with ⟨he,hh,_⟩|⟨g',n',cap',cs,he,_⟩
  ·have h2:=Hl.out;have h3:=Hn.out
   have h4:=congrArg List.length hh
   rw [bys_len]at h4
   simp only [List.length_nil]at h4
   omega
  ·cases he;exact ⟨_,rfl⟩
 have hr:=reverse_c (l:=l) (g:=g) (c:=n) (by rw [Hl.out];exact Hn.out) (by rw [Hl.out];exact h1)
 rw [Hl.out,← Hb.out]at hr
 clear h1
 go_wp2_with fail
 refine hr.mono ?_
 rintro ee w2 ⟨v,rfl,h2⟩
 clear hr
 go_wp2_with fail
 go_ret
 exact ⟨_,rfl,g,rfl,h2⟩
end
end Go.Proofs.YtlimfgdbfadohaaGreatDoor
