import Derived.Test.YtlimfgdbfadohaaGreatDoorJ9
set_option linter.unusedVariables false
set_option maxHeartbeats 128000000
namespace Go.Sha
theorem blocks_end {s:St}{b:Bs} (h:b.length<64):blocks (b.length / 64) s b=(s,b):=by
 rw [show b.length / 64=0 by omega];rfl
theorem blocks_more {s:St}{b:Bs} (h:64≤b.length):blocks (b.length / 64) s b=blocks ((b.drop 64).length / 64) (take s (b.take 64)) (b.drop 64):=by
 obtain ⟨n,hn⟩:∃ n,b.length / 64=n+1:=⟨b.length / 64 - 1,by omega⟩
 rw [hn,blocks,if_neg oQ,List.length_drop,show (b.length - 64) / 64=n by omega]
end Go.Sha
namespace Go.Proofs.YtlimfgdbfadohaaGreatDoor
open Go Go.Sl Go.Med Go.MapKept Go.RowKit
def hs11 (s:Sha.St) (rv:Value) (n:Int):Array Value:=#[.bool true,.int .u32 s.a,.int .u32 s.b,.int .u32 s.c,.int .u32 s.d,.int .u32 s.e,.int .u32 s.f,.int .u32 s.g,.int .u32 s.h,rv,.int .i64 n]
theorem run_hs (s:Sha.St) (w:World):(Instr.build 179 #[(0,.bool true),(1,.agg (st8 s))]).run Tryz.prog w = .ok (.agg (hs11 s (.slice none 0 0) 0)) w:=by kernel_rfl
theorem yl_slT {P:Program}{ops:Array Oper}{a:Act}{dst:Option Tmp}{ty t:TypeId}{pos:String}{after:Array Edge}{x y:Operand}{vx vy v:Value} (hx:a.eval x=vx) (hy:a.eval y=vy) (hr:∀ w,(Instr.sliceAt ty vx none (some vy) none).run P w = .ok v w):Yields P ops ⟨dst,.slice ty x none (some y) none,t,pos,after,none⟩ v a:=
 .inl ⟨want_none _ rfl,fun w=>by simp only [execOp,hx,hy,Option.map_some,Option.map_none,Sem.run_bind,hr,Result.andThen_ok,Sem.run_pure]⟩
section
variable {w0 w:World}{F:List HProp}{p:Nat}{bv:Value}{b:Bs}
theorem shabegin_c (h:Sat w0 w F):Calls Tryz.prog 85 #[] w (Rtn fun v w'=>v = .agg (st8 Sha.begin)∧Sat w0 w' F):=by
 go_enter Tryz.func85,Tryz.ntmps85
 go_wp2_with (with_reducible apply at_alloc)
 refine ⟨wl_alloc zSt h rfl ?_⟩
 intro b1 w1 h1
 go_wp2_with (first
  |((with_reducible apply ug_at_build);refine ⟨?_⟩;refine wl_bld (v:= .agg (st8 Sha.begin)) rFz (fun w=>by kernel_rfl) ?_)
  |(with_reducible apply at_store))
 refine ⟨wl_storeA (st8 Sha.begin) h1 rFz rFz rFz upd0 kRz rFz ?_⟩
 intro w2 h2
 go_wp2_with fail
 refine ⟨rfl,_,res_cell rfl h2 rFz pick0 Tryz.underlying176 rfl kRz,_,rfl,rfl,h2.drop⟩
theorem shanew_c (h:Sat w0 w F):Calls Tryz.prog 49 #[] w (Rtn fun v w'=>∃ p,v=ptr p∧Sat w0 w' (pt p (.cells (hs11 Sha.begin (.slice none 0 0) 0) 179 (0,0))::F)):=by
 have hb:=shabegin_c h
 clear h
 go_enter Tryz.func49,Tryz.ntmps49
 go_wp2_with fail
 refine hb.mono ?_
 rintro ee w1 ⟨v,rfl,rfl,h1⟩
 clear hb
 go_wp2_with (first
  |((with_reducible apply ug_at_build);refine ⟨?_⟩;refine wl_bld (ps:=#[(0,.bool true),(1,.agg (st8 Sha.begin))]) (by simp only [List.map_toArray,List.map_cons,List.map_nil];rfl) (run_hs Sha.begin) ?_)
  |(with_reducible apply at_box))
 refine ⟨wl_box h1 rFz rFz ?_⟩
 intro p w2 h2
 have h2:Sat w0 w2 (pt p (.cells (hs11 Sha.begin (.slice none 0 0) 0) 179 (0,0))::F):=h2
 go_wp2_with fail
 go_ret
 exact ⟨_,rfl,p,rfl,h2⟩
theorem shaok_c {s:Sha.St}{rv:Value}{n:Int} (h:Sat w0 w (pt p (.cells (hs11 s rv n) 179 (0,0))::F)):Calls Tryz.prog 86 #[ptr p] w (Rtn fun v w'=>v = .bool true∧w=w'):=by
 have e0:w.cell? ⟨p,0,none⟩=some (.bool true):=h.cellP pick0 0 rfl
 clear h
 go_enter Tryz.func86,Tryz.ntmps86
 go_wp2
 go_ret
 exact ⟨_,rfl,rfl,rfl⟩
set_option maxRecDepth 20000 in
theorem shawrite_c (hl:b.length≤1073741824) (hr:RS w0 F bv b) (hK:Ro w0 F ShaK) (h:Sat w0 w (pt p (.cells (hs11 Sha.begin (.slice none 0 0) 0) 179 (0,0))::F)) :
  Calls Tryz.prog 50 #[ptr p,bv] w (Rtn fun _ w'=>∃ ra rn rc,Sat w0 w' (bsl (.slice ra rn rc) (Sha.blocks (b.length / 64) Sha.begin b).2::pt p (.cells (hs11 (Sha.blocks (b.length / 64) Sha.begin b).1 (.slice ra rn rc) b.length) 179 (0,0))::F)∧(Sha.blocks (b.length / 64) Sha.begin b).2.length<64∧(Sha.blocks (b.length / 64) Sha.begin b).1.Ok):=by
 obtain ⟨a,c,rfl,hc1,hc2⟩:=hr.len h.drop
 have hok:=shaok_c h
 obtain ⟨R,hR⟩:∃ R,Sha.blocks (b.length / 64) Sha.begin b=R:=⟨_,rfl⟩
 rw [hR]
 have Hr:=uQ hr;have HK:=uQ hK;have HR:=uQ hR;have Hl:=uQ hl
 have e10:w.cell? ⟨p,10,none⟩=some (.int .i64 0):=h.cellP pick0 10 rfl
 clear hR hr hK hc1 hc2
 go_enter Tryz.func50,Tryz.ntmps50
 go_wp2_with fail
 refine hok.mono ?_
 rintro ee w1 ⟨v,rfl,rfl,rfl⟩
 clear hok
 obtain ⟨n,hn⟩:∃ n,b.length=n:=⟨_,rfl⟩
 have hw0:IntKind.i64.wrap ((0:Int)+(n:Int))=(n:Int):=by rw [Int.zero_add];exact IntWalk.i64_in _ oQ
 have hw1:IntKind.i64.wrap (n:Int)=(n:Int):=IntWalk.i64_in _ oQ
 rw [hn]
 rw [hn]at Hl
 have Hn:=uQ hn
 have hS0:RS w0 F (.slice a n c) b:=by rw [← hn];exact Hr.out
 clear hl hn Hr
 go_wp2_with (with_reducible apply at_store)
 refine ⟨wl_store (cs':=hs11 Sha.begin (.slice none 0 0) n) h rFz evD rFz upd0 nLz kRz rFz ?_⟩
 intro w2 h2
 clear h e10 hw0 hw1
 have e9:w2.cell? ⟨p,9,none⟩=some (.slice none 0 0):=h2.cellP pick0 9 rfl
 go_wp2_with fail
 clear e9
 go_loopg [1] (b.length / 64) (fun g bq wr=>∃ (b':Bs) (a':Option Addr) (c' m:Nat) (s':Sha.St),bq = .slice a' m c'∧b'.length=m∧g=m / 64∧m≤1073741824∧s'.Ok∧RS w0 F (.slice a' m c') b'∧Sha.blocks (b'.length / 64) s' b'=R∧Sat w0 wr (pt p (.cells (hs11 s' (.slice none 0 0) n) 179 (0,0))::F))
 case atStart=>exact ⟨b,a,c,n,Sha.begin,rfl,Hn.out,by rw [Hn.out],Hl.out,Sha.begin_ok,hS0,HR.out,h2⟩
 case round=>
  obtain ⟨b',a',c',m,s',rfl,hm,rfl,hm2,hs',hrs,hbl,hS⟩:=hrel
  clear h2 hS0
  by_cases h64:64≤m
  rotate_left
  focus
   have c1:¬ (64:Int)≤(m:Int):=oQ
   have hRR:R=(s',b'):=by rw [← hbl,Sha.blocks_end oQ]
   have hcl:=clone_c hS (hrs.rd wr hS.drop) (by rw [hm];omega)
   have Hm:=uQ (show b'.length<64 by omega);have Hs':=uQ hs'
   subst hRR
   clear hm hm2 hs' hrs hbl h64 hS HR
   go_wp2_with fail
   refine hcl.mono ?_
   rintro ee w3 ⟨v,rfl,h3,ra,rn,rc,rfl⟩
   clear hcl
   go_wp2_with (with_reducible apply at_store)
   refine ⟨wl_store (cs':=hs11 s' (.slice ra rn rc) n) (h3.sb:Sat w0 w3 (pt p (.cells (hs11 s' (.slice none 0 0) n) 179 (0,0))::bsl (.slice ra rn rc) b'::F)) rFz evD rFz upd0 nLz kRz rFz ?_⟩
   intro w4 h4
   have Hsh:=uQ (h4.sb:Sat w0 w4 (bsl (.slice ra rn rc) b'::pt p (.cells (hs11 s' (.slice ra rn rc) n) 179 (0,0))::F))
   clear h3 h4
   go_wp2_with fail
   go_end0
   refine ⟨_,rfl,⟨ra,rn,rc,?_⟩,Hm.out,Hs'.out⟩
   rw [Hn.out]
   exact Hsh.out
  have c1:(64:Int)≤(m:Int):=oQ
  obtain ⟨_,_,_,hce,q1,q2⟩:=hrs.cap
  cases hce
  have hslT:=fun w=>run_slT (a:=a') (n:=m) (c:=c') (k:=64) oQ w
  have hslF:=fun w=>run_slF (a:=a') (n:=m) (c:=c') (k:=64) h64 w
  have hrs1:RS w0 F (.slice a' b'.length c') b':=by rw [hm];exact hrs
  have hT:=hrs1.to (k:=64) oQ c' oQ (Nat.le_refl _)
  have hF:=hrs1.from (k:=64) oQ
  rw [hm]at hF
  obtain ⟨ta,tc,htd⟩:∃ ta tc,sliced a' 0 64 c' 1 = .slice ta 64 tc:=⟨_,_,rfl⟩
  obtain ⟨fa,fc,hfd⟩:∃ fa fc,sliced a' 64 m c' 1 = .slice fa (m - 64) fc:=⟨_,_,rfl⟩
  rw [htd]at hslT hT
  rw [hfd]at hslF hF
  have hslT:∀ w,(Instr.sliceAt 27 (.slice a' m c') none (some (.int .i64 64)) none).run Tryz.prog w = .ok (.slice ta 64 tc) w:=hslT
  have hslF:∀ w,(Instr.sliceAt 27 (.slice a' m c') (some (.int .i64 64)) none none).run Tryz.prog w = .ok (.slice fa (m - 64) fc) w:=hslF
  have hmore:=Sha.blocks_more (s:=s') (b:=b') oQ
  rw [hbl]at hmore
  have hln:(b'.drop 64).length=m - 64:=by rw [List.length_drop,hm]
  have h64b:(b'.take 64).length=64:=by rw [List.length_take];omega
  have Hmore:=uQ hmore.symm;have Hln:=uQ hln;have HF:=uQ hF;have Hm2:=uQ (And.intro h64 hm2)
  have htk:=uQ (fun (w':World) (G:List HProp) (hw:Sat w0 w' (pt p (.cells (hs11 s' (.slice none 0 0) n) 179 (0,0))::F))=>shatake_c h64b hs' (hT.more sbD) (Ro.os HK.out) hw)
  have Hok:=uQ (Sha.take_ok s' (b'.take 64))
  obtain ⟨s2,hs2⟩:∃ s2,Sha.take s' (b'.take 64)=s2:=⟨_,rfl⟩
  rw [hs2]at htk Hmore Hok
  have h3:=hS.drew
  have hG:World.rangeAt _ p 1 (st8 s').toList:=fun k v hk=>h3.cellP pick0 (1+k) (by rcases k with _|_|_|_|_|_|_|_|k <;> first|exact hk|cases hk)
  clear hmore hln hF hrs hrs1 hT hbl hs' hm q1 q2 htd hfd hs2 h64b hS h64 hm2
  go_wp2_with fail
  refine wpL_begin [7,8,9,10] (fun w'=>w'.rangeAt p 1 (st8 s').toList) kRz ?_
  refine rP 0 ?_ (y:=mvQ)
  refine rP 1 ?_ (y:=mvQ)
  refine rP 2 ?_ (y:=nlQ)
  refine rP 3 ?_ (y:=flQ)
  refine rg_take 4 evD kRz i3z (tk_loadN (b:=p) (o:=1) (st8 s').toList rFz Tryz.underlying176 rfl kRz (fun w hw=>hw)) aQ gQ ?_
  clear hG
  refine rP 5 ?_ (y:=mvQ)
  refine rP 6 ?_ (y:=(yl_slT evD evD hslT))
  refine rg_eff 7 evD kRz (fun K hK=>?_)
  (refine eff_call2 kRz evD evD ?_)
  refine (htk.out _ F h3).mono ?_
  rintro ee w4 ⟨v,rfl,rfl,h4⟩
  refine hK _ _ (.inl rfl) ?_
  clear hK h3 htk
  refine rP 8 ?_ (y:=nlQ)
  refine rP 9 ?_ (y:=flQ)
  refine rg_eff 10 evD kRz (fun K hK=>?_)
  refine eff_store (cs':=hs11 s2 (.slice none 0 0) n) h4 evD evD rFz upd0 nLz kRz rFz ?_
  intro w5 h5
  refine hK _ _ (.inl rfl) ?_
  clear hK h4
  refine wpL_done kRz ?_
  go_wp2_with ((with_reducible refine at_slF ⟨?_⟩);refine wl_slF rFz rFz hslF ?_)
  go_roundg ((m - 64) / 64)
  case measure=>have:=Hm2.out;omega
  case rel=>exact ⟨b'.drop 64,fa,fc,m - 64,s2,rfl,Hln.out,rfl,by have:=Hm2.out;omega,Hok.out,HF.out,Hmore.out,h5⟩
end
section
variable {P:Program}{w0 w:World}{R:List HProp}{ops:Array Oper}{a:Act}{Q:Exit→Act→World→Prop}{dst:Option Tmp}{t:TypeId}{pos:String}{after:Array Edge}{K:Act→World→Prop}{E:Prop}{d s:Operand}
theorem eff_copy {g off dLen dCap sLen sCap:Nat}{ad:Addr}{cur:Array Value}{T:TypeId} (cs:List Value) (hs:Sat w0 w (pt g (.cells cur T (0,0))::R)) (hd:a.eval d = .slice (some ⟨g,off,none⟩) dLen dCap) (hsv:a.eval s = .slice (some ad) sLen sCap) (hn:cs.length=Nat.min sLen dLen)
  (hsrc:∀ j v,cs[j]?=some v→w.cell? (ad.add j)=some v) (hfit:off+cs.length≤cur.size) (h1:∀ v∈cs,v.oneCell'=true)
  (hK:∀ w',Sat w0 w' (pt g (.cells (cur.toList.take off++(cs++cur.toList.drop (off+cs.length))).toArray T (0,0))::R)→K (a.put dst (goInt cs.length)) w') :
  if Region.wanted ⟨dst,.call { callee:= .builtin .copy,args:=#[d,s],argTypes:=#[27,27] },t,pos,after,none⟩ (yielded ops a.tmps)=true then Oper.wp Tryz.prog ⟨dst,.call { callee:= .builtin .copy,args:=#[d,s],argTypes:=#[27,27] },t,pos,after,none⟩ a w K Q else E:=by
 refine eff_of rfl ?_
 obtain ⟨i,hi,hz0,hz1,hz2⟩:=info8p
 have hsz:(Tryz.prog.info? 5).map (·.size)=some 1:=by rw [hi];simp [hz1]
 have hrun:=run_copy_row (P:=Tryz.prog) w 27 27 t 5 g off dLen dCap ad sLen sCap cur T cs Tryz.underlying27 hsz hs.at hn hsrc hfit h1
 have h2:=hs.turn (w':=w.setRow g (cur.toList.take off++(cs++cur.toList.drop (off+cs.length))).toArray) rfl rfl rfl (by simp) (setRow_heap w g cur _ _ _ hs.at) (fun j hj _=>setRow_other w g j _ hj)
 unfold Oper.wp
 simp [execOp,resolve,invoke,builtin,hd,hsv,hrun,Result.andThen]
 exact hK _ h2
end
theorem run_index8 (s:Sha.St){i:Nat} (hi:i<8) (w:World):(Instr.index 176 (.agg (st8 s)) (.int .i64 (i:Int))).run Tryz.prog w = .ok (.int .u32 (Sha.at_ s.l i:Nat)) w:=by
 rcases i with _|_|_|_|_|_|_|_|i
 all_goals first|omega|kernel_rfl
section
variable {P:Program}{w:World}{ops:Array Oper}{rest:List Oper}{a:Act}{Q:Exit→Act→World→Prop}{dst:Option Tmp}{t ty:TypeId}{pos:String}{after:Array Edge}{x y:Operand}{v vx vy:Value}
theorem wl_index (hx:a.eval x=vx) (hy:a.eval y=vy) (hr:∀ w,(Instr.index ty vx vy).run P w = .ok v w) (h:wpList P ops Q rest (a.put dst v) w):wpList P ops Q (⟨dst,.index ty x y,t,pos,after,none⟩::rest) a w:=
 wpList_plain rfl fun _ hK=>by
  unfold Oper.wp execOp
  simp only [hx,hy,Sem.run_bind,hr,Result.andThen_ok,Sem.run_pure]
  exact hK _ _ h
theorem at_index (h:Stop (wpList P ops Q (⟨dst,.index ty x y,t,pos,after,none⟩::rest) a w)):wpList P ops Q (⟨dst,.index ty x y,t,pos,after,none⟩::rest) a w:=h.out
theorem yl_slP {y:Operand} (hx:a.eval x=vx) (hy:a.eval y=vy) (hr:∀ w,(Instr.sliceAt ty vx (some vy) none none).run P w = .ok v w):Yields P ops ⟨dst,.slice ty x (some y) none none,t,pos,after,none⟩ v a:=
 .inl ⟨want_none _ rfl,fun w=>by simp only [execOp,hx,hy,Option.map_some,Option.map_none,Sem.run_bind,hr,Result.andThen_ok,Sem.run_pure]⟩
end
theorem flat4_len (f:Nat→Sha.Bs) (hf:∀ x,(f x).length=4):∀ l:List Nat,(l.flatMap f).length=4 * l.length
 |[]=>rfl
 |y::l=>by rw [List.flatMap_cons,List.length_append,hf,flat4_len f hf l,List.length_cons];omega
theorem flat4 (f:Nat→Sha.Bs) (hf:∀ x,(f x).length=4):∀ (l:List Nat) (i:Nat) (x:Nat),l[i]?=some x→(l.flatMap f).take (4 * (i+1))=(l.flatMap f).take (4 * i)++f x
 |y::l,0,x,h=>by
  cases h
  rw [List.flatMap_cons,List.take_append,List.take_of_length_le (by rw [hf];decide),hf]
  simp
 |y::l,i+1,x,h=>by
  have ih:=flat4 f hf l i x h
  have e1:(f y++l.flatMap f).take (4 * (i+1+1))=f y++(l.flatMap f).take (4 * (i+1)):=by
   rw [List.take_append,List.take_of_length_le (by rw [hf];omega),hf,show 4 * (i+1+1) - 4=4 * (i+1) by omega]
  have e2:(f y++l.flatMap f).take (4 * (i+1))=f y++(l.flatMap f).take (4 * i):=by
   rw [List.take_append,List.take_of_length_le (by rw [hf];omega),hf,show 4 * (i+1) - 4=4 * i by omega]
  rw [List.flatMap_cons,e1,e2,ih,List.append_assoc]
theorem big4_len (x:Nat):(Sha.bigL x 4).length=4:=by unfold Sha.bigL;rw [List.length_reverse,Frm.le_len]
theorem id_step {D big:Frm.Bs}{lo:Nat} (hD:D.length=32) (hlo:lo+4≤32) (hb:big.length=4) (htk:D.take (lo+4)=D.take lo++big):((bys (D.take lo++List.replicate (32 - lo) 0)).toArray.toList.take lo++(bys big++(bys (D.take lo++List.replicate (32 - lo) 0)).toArray.toList.drop (lo+(bys big).length))).toArray=(bys (D.take (lo+4)++List.replicate (32 - (lo+4)) 0)).toArray:=by
 have l1:(bys (D.take lo)).length=lo:=by rw [bys_len,List.length_take,hD];omega
 have e:(bys (List.replicate (32 - lo) (0:UInt8))).drop 4=bys (List.replicate (32 - (lo+4)) 0):=by
  unfold bys
  rw [List.map_replicate,List.map_replicate,List.drop_replicate,show 32 - lo - 4=32 - (lo+4) by omega]
 congr 1
 rw [List.toList_toArray,bys_append,htk,bys_append,bys_append,List.take_left' l1,List.drop_append,List.drop_of_length_le (by rw [l1];omega),List.nil_append,l1,bys_len big,hb,show lo+4 - lo=4 by omega,e,List.append_assoc]
theorem zID:zeroB Tryz.prog 30=some (.agg (bys Frm.zero32).toArray):=by kernel_rfl
section
variable {w0 w:World}{F:List HProp}{p:Nat}{s:Sha.St}{r:Frm.Bs}{n:Nat}
set_option maxRecDepth 20000 in
theorem shasum_c {ra:Option Addr}{rn rc:Nat} (hrl:r.length<64) (hn:n≤1073741824) (hs:s.Ok) (hK:Ro w0 F ShaK) (h:Sat w0 w (bsl (.slice ra rn rc) r::pt p (.cells (hs11 s (.slice ra rn rc) n) 179 (0,0))::F)) :
  Calls Tryz.prog 51 #[ptr p] w (Rtn fun v w'=>v = .agg (bys ((Sha.blocks ((Sha.pad r++Sha.bigL (8 * n) 8).length / 64) s (Sha.pad r++Sha.bigL (8 * n) 8)).1.l.flatMap fun w=>Sha.bigL w 4)).toArray∧Sat w0 w' F):=by
 obtain ⟨D,hD⟩:∃ D,((Sha.blocks ((Sha.pad r++Sha.bigL (8 * n) 8).length / 64) s (Sha.pad r++Sha.bigL (8 * n) 8)).1.l.flatMap fun w=>Sha.bigL w 4)=D:=⟨_,rfl⟩
 rw [hD]
 have HD:=uQ hD
 have Hrl:=uQ hrl;have Hn:=uQ hn;have Hs:=uQ hs;have HK:=uQ hK
 clear hD hrl hn hs hK
 go_enter Tryz.func51,Tryz.ntmps51
 go_wp2_with (with_reducible apply at_alloc)
 refine ⟨wl_alloc zID h rfl ?_⟩
 intro b2 w2 h2
 clear h
 have h2:Sat w0 w2 (pt p (.cells (hs11 s (.slice ra rn rc) n) 179 (0,0))::bsl (.slice ra rn rc) r::pt b2 (.cells (bys Frm.zero32).toArray 30 (0,0))::F):=h2.sb
 go_wp2_with fail
 refine (shaok_c h2).mono ?_
 rintro ee w3 ⟨v,rfl,rfl,rfl⟩
 have e9:w2.cell? ⟨p,9,none⟩=some (.slice ra rn rc):=h2.cellP pick0 9 rfl
 have hcl:=clone_c h2 (Sat.rd (h2.pick (A:=bsl (.slice ra rn rc) r) pick1)) (by have:=Hrl.out;omega)
 clear h2
 go_wp2_with fail
 refine hcl.mono ?_
 rintro ee w4 ⟨v,rfl,h4,ca,cn,cc,rfl⟩
 clear hcl e9
 go_wp2_with (first
  |((with_reducible refine at_build1 ⟨?_⟩);refine wl_build1 (e:=5) (sz:=1) (by':=1) kRz h4 rFz (cs:=#[.int .u8 128]) rfl rfl nLz ?_;intro bN wN hN)
  |((with_reducible refine at_append ⟨?_⟩);refine wl_app 5 1 1 kRz hN rFz rFz (xs:=bys r) pick1 pick0 rFz (Nat.le_refl 1) rFz (by rw [bys_len];have:=Hrl.out;omega) (by show 1≤65536;decide) dCz (ys:=bys [128]) rfl ?_;intro bA nA cA wA hA))
 rw [← bys_append]at hA
 have h5:Sat w0 wA (bsl (.slice (some ⟨bA,0,none⟩) nA cA) (r++[128]++List.replicate 0 0)::pt p (.cells (hs11 s (.slice ra rn rc) n) 179 (0,0))::pt b2 (.cells (bys Frm.zero32).toArray 30 (0,0))::F):=by
  rw [List.replicate_zero,List.append_nil]
  exact hA.sb
 clear h4 hN hA
 go_wp2_with fail
 obtain ⟨z,hz⟩:∃ z,(119 - r.length%64)%64=z:=⟨_,rfl⟩
 have Hz:=uQ hz
 clear hz
 go_loopg [3] z (fun g tq wr=>∃ (k:Nat) (tv:Value),tv=tq∧g=z - k∧k≤z∧Sat w0 wr (bsl tv (r++[128]++List.replicate k 0)::pt p (.cells (hs11 s (.slice ra rn rc) n) 179 (0,0))::pt b2 (.cells (bys Frm.zero32).toArray 30 (0,0))::F))
 case atStart=>exact ⟨0,_,rfl,rfl,Nat.zero_le _,h5⟩
 case round=>
  obtain ⟨k,tv,rfl,rfl,hk,hS⟩:=hrel
  clear h5
  obtain ⟨ta,tn,tc,rfl,ht1,ht2,ht3⟩:=bsl_cap' hS
  have hlen:(r++[128]++List.replicate k 0).length=r.length+1+k:=by
   rw [List.length_append,List.length_append,List.length_replicate];rfl
  rw [hlen]at ht3
  have hrl:=Hrl.out
  have hzz:=Hz.out
  have hrem2:(tn:Int)%64=((tn%64:Nat):Int):=rfl
  obtain ⟨q,hq⟩:∃ q,tn%64=q:=⟨_,rfl⟩
  rw [hq]at hrem2
  have hq2:q=56↔k=z:=oQ
  have htn:tn≤200:=oQ
  by_cases hkz:k=z
  rotate_left
  ·have c1:((q:Int) != 56)=true:=bne_iff_ne.2 (fun e=>hkz (hq2.1 oQ))
   have hkk:k<z:=oQ
   have Hkk:=uQ hkk;have Htn:=uQ htn
   have hln:(bys (r++[128]++List.replicate k 0)).length≤2147483648:=by rw [bys_len,hlen];omega
   have Hln:=uQ hln
   clear ht1 ht2 ht3 hlen hrl hzz hq hq2 htn hkz hkk hk hln
   go_wp2_with (first
    |((with_reducible refine at_build1 ⟨?_⟩);refine wl_build1 (e:=5) (sz:=1) (by':=1) kRz hS rFz (cs:=#[.int .u8 0]) rfl rfl nLz ?_;intro bM wM hM)
    |((with_reducible refine at_append ⟨?_⟩);refine wl_app 5 1 1 kRz hM rFz rFz (xs:=bys (r++[128]++List.replicate k 0)) pick1 pick0 rFz (Nat.le_refl 1) rFz Hln.out (by show 1≤65536;decide) dCz (ys:=bys [0]) rfl ?_;intro bB nB cB wB hB))
   rw [← bys_append,List.append_assoc,← List.replicate_succ']at hB
   have Hsh:=uQ (show Sat w0 wB (bsl (.slice (some ⟨bB,0,none⟩) nB cB) (r++[128]++List.replicate (k+1) 0)::pt p (.cells (hs11 s (.slice ra rn rc) n) 179 (0,0))::pt b2 (.cells (bys Frm.zero32).toArray 30 (0,0))::F) from hB)
   clear hM hB
   go_wp2_with fail
   go_roundg (z - (k+1))
   case measure=>have:=Hkk.out;omega
   case rel=>exact ⟨k+1,_,rfl,rfl,Nat.succ_le_of_lt Hkk.out,Hsh.out⟩
  ·have c1:((q:Int) != 56)=false:=by rw [hq2.2 hkz];rfl
   have Hpad:=uQ (show Sha.pad r=r++[128]++List.replicate k 0 by unfold Sha.pad;rw [hzz,hkz])
   have e10:wr.cell? ⟨p,10,none⟩=some (.int .i64 (n:Int)):=hS.cellP pick1 10 rfl
   have w1:IntKind.u64.wrap (n:Int)=(n:Int):=by rw [IntKind.wrap_u64];have:=Hn.out;omega
   have w2':(n:Int)%18446744073709551616=(n:Int):=by have:=Hn.out;omega
   obtain ⟨m8,hm8⟩:∃ m8,8 * n=m8:=⟨_,rfl⟩
   have w3:IntKind.u64.wrap (8 * (n:Int))=(m8:Int):=by rw [IntKind.wrap_u64];have:=Hn.out;omega
   have hbig:Calls Tryz.prog 88 #[.int .u64 m8,.int .i64 8] wr (Rtn fun v w'=>∃ g,v = .slice (some ⟨g,0,none⟩) 8 8∧Sat w0 w' (bsl v (Sha.bigL m8 8)::bsl (.slice ta tn tc) (r++[128]++List.replicate k 0)::pt p (.cells (hs11 s (.slice ra rn rc) n) 179 (0,0))::pt b2 (.cells (bys Frm.zero32).toArray 30 (0,0))::F)):=bigOf_c (.inr rfl) (put8_c m8 (by have:=Hn.out;omega) hS)
   have Hm8:=uQ hm8
   have hmod:(r++[128]++List.replicate k 0++Sha.bigL m8 8).length%64=0:=by
    rw [List.length_append,hlen]
    unfold Sha.bigL
    rw [List.length_reverse,Frm.le_len]
    omega
   have hTl:(r++[128]++List.replicate k 0++Sha.bigL m8 8).length≤300:=by
    rw [List.length_append,hlen]
    unfold Sha.bigL
    rw [List.length_reverse,Frm.le_len]
    omega
   have Hmod:=uQ hmod;have HTl:=uQ hTl
   have hln:(bys (r++[128]++List.replicate k 0)).length+(bys (Sha.bigL m8 8)).length≤2147483648:=by rw [← List.length_append,← bys_append,bys_len];omega
   have Hln:=uQ hln
   have hDD:=HD.out
   rw [Hm8.out,Hpad.out]at hDD
   have HD2:=uQ hDD
   clear ht1 ht2 ht3 hlen hrl hzz hq hq2 htn hkz hk hm8 hmod hTl hln hS Hpad hDD HD
   generalize r++[128]++List.replicate k 0=pd at *
   generalize Sha.bigL m8 8=bg at *
   go_wp2_with fail
   refine hbig.mono ?_
   rintro ee w5 ⟨v,rfl,g,rfl,h6⟩
   clear hbig e10 w1 w2' w3 c1
   go_wp2_with (with_reducible apply at_append)
   refine ⟨wl_appD 5 1 1 kRz h6 rFz rFz (xs:=bys pd) (ys:=bys bg) pick1 (Sat.rd h6) (bys_one _) Hln.out dCz ?_⟩
   intro tv w6 h7
   rw [← bys_append]at h7
   obtain ⟨T,hT⟩:∃ T,pd++bg=T:=⟨_,rfl⟩
   rw [hT]at h7 Hmod HTl HD2
   clear h6 hT
   have h7:Sat w0 w6 (pt p (.cells (hs11 s (.slice ra rn rc) n) 179 (0,0))::bsl tv T::pt b2 (.cells (bys Frm.zero32).toArray 30 (0,0))::F):=(show Sat w0 w6 (bsl tv T::_) from h7).sb
   have hrng:w6.rangeAt p 1 (st8 s).toList:=fun k v hk=>h7.cellP pick0 (1+k) (by rcases k with _|_|_|_|_|_|_|_|k <;> first|exact hk|cases hk)
   obtain ⟨a0,m0,c0,rfl,_,_,hm0⟩:=bsl_cap' (h7.pick (A:=bsl tv T) pick1)
   have Hm0:=uQ hm0
   clear hm0
   go_wp2_with (first
    |((with_reducible refine at_load ⟨?_⟩);refine wl_loadW (b:=p) (o:=1) (st8 s).toList rFz hrng Tryz.underlying176 rfl kRz ?_)
    |(with_reducible apply at_alloc))
   refine ⟨wl_alloc zSt h7 rfl ?_⟩
   intro b4 w7 h8
   clear h7 hrng
   go_wp2_with (with_reducible apply at_store)
   refine ⟨wl_storeA (st8 s) h8 rFz rFz rFz upd0 kRz rFz ?_⟩
   intro w8 h9
   clear h8
   obtain ⟨FF,hFF⟩:∃ FF,FF=bsl (.slice a0 m0 c0) T::pt b2 (.cells (bys Frm.zero32).toArray 30 (0,0))::F:=⟨_,rfl⟩
   have h10:Sat w0 w8 (pt b4 (.cells (st8 s) 176 (0,0))::FF):=by rw [hFF];exact h9.sb
   have hrs0:RS w0 FF (.slice a0 m0 c0) T:=by
    rw [hFF]
    exact RS.of_bsl (F:=pt b2 (.cells (bys Frm.zero32).toArray 30 (0,0))::F) (w:=w8) (h9.sb)
   have HKF:Ro w0 FF ShaK:=by rw [hFF];exact Ro.os HK.out
   have HFF:=uQ hFF;have HKF:=uQ HKF
   clear h9 hFF HK
   go_wp2_with fail
   go_frame
   go_loopg [3] (m0 / 64) (fun g bq wr=>∃ (b':Frm.Bs) (a':Option Addr) (c' m:Nat) (s':Sha.St),bq = .slice a' m c'∧b'.length=m∧g=m / 64∧m≤300∧m%64=0∧s'.Ok∧RS w0 FF (.slice a' m c') b'∧((Sha.blocks (b'.length / 64) s' b').1.l.flatMap fun w=>Sha.bigL w 4)=D∧Sat w0 wr (pt b4 (.cells (st8 s') 176 (0,0))::FF))
   case atStart=>exact ⟨T,a0,c0,m0,s,rfl,Hm0.out.symm,rfl,by rw [Hm0.out];exact HTl.out,by rw [Hm0.out];exact Hmod.out,Hs.out,hrs0,HD2.out,h10⟩
   case round=>
    obtain ⟨b',a',c',m,s',rfl,hm,rfl,hm2,hm3,hs',hrs,hbl,hS⟩:=hrel
    clear h10 hrs0
    by_cases h64:64≤m
    rotate_left
    ·obtain rfl:m=0:=by omega
     rw [Sha.blocks_end oQ]at hbl
     have Hbl:=uQ hbl
     have hS:Sat w0 wr (pt b4 (.cells (st8 s') 176 (0,0))::pt b2 (.cells (bys Frm.zero32).toArray 30 (0,0))::F):=by
      rw [HFF.out]at hS
      exact hS.sb
     clear hm hm2 hm3 hrs hbl h64
     go_wp2_with (with_reducible apply at_alloc)
     refine ⟨wl_alloc zID hS rfl ?_⟩
     intro b5 w9 h11
     go_wp2_with ((with_reducible refine at_load ⟨?_⟩);refine wl_loadA (cs:=st8 s') h11 rFz pick1 Tryz.underlying176 rfl kRz ?_)
     have h12:Sat w0 w9 (pt b5 (.cells (bys (D.take (4 * 0)++List.replicate (32 - 4 * 0) 0)).toArray 30 (0,0))::pt b2 (.cells (bys Frm.zero32).toArray 30 (0,0))::F):=h11.sb
     clear hS h11
     have hD8:D=s'.l.flatMap fun w=>Sha.bigL w 4:=Hbl.out.symm
     have hDl:D.length=32:=by rw [hD8,flat4_len _ big4_len];rfl
     have HD8:=uQ hD8;have HDl:=uQ hDl;have Hs':=uQ hs'
     clear hD8 hDl hs'
     go_wp2_with fail
     go_loopg [49] 8 (fun g iq wr=>∃ i:Nat,g=8 - i∧i≤8∧iq = .int .i64 i∧Sat w0 wr (pt b5 (.cells (bys (D.take (4 * i)++List.replicate (32 - 4 * i) 0)).toArray 30 (0,0))::pt b2 (.cells (bys Frm.zero32).toArray 30 (0,0))::F))
     case atStart=>exact ⟨0,rfl,Nat.zero_le _,rfl,h12⟩
     case round=>
      obtain ⟨i,rfl,hi,rfl,hS⟩:=hrel
      clear h12
      by_cases hil:i<8
      rotate_left
      ·obtain rfl:i=8:=by omega
       have hS:Sat w0 wr (pt b5 (.cells (bys D).toArray 30 (0,0))::pt b2 (.cells (bys Frm.zero32).toArray 30 (0,0))::F):=by
        have e:D.take (4 * 8)++List.replicate (32 - 4 * 8) 0=D:=by
         rw [List.take_of_length_le (by rw [HDl.out];exact Nat.le_refl 32)]
         exact List.append_nil _
        rw [e]at hS
        exact hS
       have Hsz:=uQ (show (bys D).toArray.size=32 by rw [List.size_toArray,bys_len,HDl.out])
       have Hon:=uQ (show (bys D).toArray.toList.all (·.oneCell')=true by rw [List.all_eq_true];exact bys_one _)
       clear hi hil
       obtain ⟨A,hA⟩:∃ A,(bys D).toArray=A:=⟨_,rfl⟩
       rw [hA]at hS Hsz Hon
       have HA:=uQ hA
       clear hA
       go_wp2_with (first
        |((with_reducible refine at_load ⟨?_⟩);refine wl_loadA (cs:=A) hS rFz pick0 Tryz.underlying30 rfl (by rw [Hsz.out];kernel_rfl) ?_)
        |(with_reducible apply at_store))
       refine ⟨wl_storeA A (hS.sb:Sat w0 wr (pt b2 (.cells (bys Frm.zero32).toArray 30 (0,0))::F)) rFz rFz (Hsz.out.trans rFz) upd0 (by rw [Hsz.out];kernel_rfl) Hon.out ?_⟩
       intro w10 h13
       have hinf:(Tryz.prog.info? 30).map (·.size)=some A.size:=by rw [Hsz.out];kernel_rfl
       have hrc:=fun tmps hp=>res_cell (tmps:=tmps) (fn:=Tryz.f51) rfl h13 hp pick0 Tryz.underlying30 rfl hinf
       go_wp2_with fail
       refine ⟨rfl,_,hrc _ rFz,_,rfl,?_,h13.drop⟩
       rw [HA.out]
      have hx:s'.l[i]?=some (Sha.at_ s'.l i):=by
       rcases i with _|_|_|_|_|_|_|_|i
       all_goals first|rfl|omega
      have hix:=run_index8 s' hil
      have hlt:Sha.at_ s'.l i<4294967296:=by
       have h:=Hs'.out
       rcases i with _|_|_|_|_|_|_|_|i
       ·exact h.a
       ·exact h.b
       ·exact h.c
       ·exact h.d
       ·exact h.e
       ·exact h.f
       ·exact h.g
       ·exact h.h
       ·omega
      have htk:=flat4 (fun w=>Sha.bigL w 4) big4_len s'.l i _ hx
      rw [← HD8.out]at htk
      generalize Sha.at_ s'.l i=x at *
      have c1:(i:Int)<8:=oQ
      have hwi:=iwQ (i:=i)
      have Hil:=uQ hil;have Htk:=uQ htk
      clear hx htk hi hil
      go_wp2_with ((with_reducible refine at_index ⟨?_⟩);refine wl_index rFz rFz hix ?_)
      obtain ⟨lo,hlo⟩:∃ lo,4 * i=lo:=⟨_,rfl⟩
      have e1:IntKind.i64.wrap (4 * (i:Int))=(lo:Int):=by rw [IntWalk.i64_in _ oQ];omega
      have hl32:lo+4≤32:=by have:=Hil.out;omega
      have c3:(lo:Int)≤32:=oQ
      have hslP:∀ w,(Instr.sliceAt 30 (ptr b5) (some (.int .i64 (lo:Int))) none none).run Tryz.prog w = .ok (.slice (some ⟨b5,lo,none⟩) (32 - lo) (32 - lo)) w:=fun w=>by
       have c4:¬ 32=lo:=oQ
       go_simp
      rw [hlo]at hS
      have Hstep:=uQ (fun (hlo2:True)=>id_step (big:=Sha.bigL x 4) HDl.out hl32 (big4_len x) (by have:=Htk.out;rw [show 4 * (i+1)=lo+4 by omega,hlo]at this;exact this))
      have Hnx:=uQ (show lo+4=4 * (i+1) by omega)
      have hsz:(bys (D.take lo++List.replicate (32 - lo) 0)).toArray.size=32:=by
       rw [List.size_toArray,bys_len,List.length_append,List.length_take,List.length_replicate,HDl.out];omega
      have Hsz:=uQ hsz;have Hl32:=uQ hl32
      have hbig:∀ (w':World) (G:List HProp),Sat w0 w' G→Calls Tryz.prog 88 #[.int .u64 x,.int .i64 4] w' (Rtn fun v w''=>∃ g,v = .slice (some ⟨g,0,none⟩) 4 4∧Sat w0 w'' (bsl v (Sha.bigL x 4)::G)):=fun w' G hw=>bigOf_c (.inl rfl) (put4_c x oQ hw)
      have Hbig:=uQ hbig
      have x1:IntKind.u64.wrap (x:Int)=(x:Int):=by rw [IntKind.wrap_u64];omega
      have x2:(x:Int)%18446744073709551616=(x:Int):=oQ
      generalize (bys (D.take lo++List.replicate (32 - lo) 0)).toArray=cur at *
      have h14:=hS.drew
      clear hS hlo hl32 c3 hlt hix c1 hsz hbig Htk
      have hG:True:=trivial
      refine wpL_begin [] (fun w'=>True) kRz ?_
      refine rP 0 ?_ (y:=mvQ)
      refine rP 1 ?_ (y:=bnQ)
      refine rP 2 ?_ (y:=(yl_slP evD evD hslP))
      refine rP 3 ?_ (y:=mvQ)
      refine rP 4 ?_ (y:=(yl_conv evD rnD))
      refine rg_eff 5 evD kRz (fun K hK=>?_)
      (refine eff_call2 kRz evD evD ?_)
      refine (Hbig.out _ _ h14).mono ?_
      rintro ee w11 ⟨v,rfl,g2,rfl,h15⟩
      refine hK _ _ (.inr (.inl trivial)) ?_
      clear hK h14 hslP e1 x1 x2
      refine rg_eff 6 evD kRz (fun K hK=>?_)
      refine eff_copy (bys (Sha.bigL x 4)) (h15.sb:Sat w0 w11 (pt b5 (.cells cur 30 (0,0))::bsl (.slice (some ⟨g2,0,none⟩) 4 4) (Sha.bigL x 4)::pt b2 (.cells (bys Frm.zero32).toArray 30 (0,0))::F)) evD evD (by rw [bys_len,big4_len];have:=Hl32.out;show 4=Nat.min 4 (32 - lo);exact (Nat.min_eq_left oQ).symm) (fun j v hj=>by
       obtain ⟨a,n,c,he,_,hc⟩:=Sat.rd h15
       cases he
       obtain ⟨ad,h1,h2⟩:=hc j v hj
       cases h1
       exact h2) (by rw [bys_len,big4_len,Hsz.out];exact Hl32.out) (bys_one _) ?_
      intro w12 h16
      refine hK _ _ (.inr (.inl trivial)) ?_
      clear hK h15
      rw [Hstep.out trivial,Hnx.out]at h16
      refine wpL_done kRz ?_
      go_wp2_with fail
      go_roundg (8 - (i+1))
      case measure=>have:=Hil.out;omega
      case rel=>exact ⟨i+1,rfl,Nat.succ_le_of_lt Hil.out,by first|rfl|go_num,h16.sb⟩
    have c1:(0:Int)<(m:Int):=oQ
    have c1':0<m:=oQ
    obtain ⟨_,_,_,hce,q1,q2⟩:=hrs.cap
    cases hce
    have hslT:=fun w=>run_slT (a:=a') (n:=m) (c:=c') (k:=64) oQ w
    have hslF:=fun w=>run_slF (a:=a') (n:=m) (c:=c') (k:=64) h64 w
    have hrs1:RS w0 FF (.slice a' b'.length c') b':=by rw [hm];exact hrs
    have hT:=hrs1.to (k:=64) oQ c' oQ (Nat.le_refl _)
    have hF:=hrs1.from (k:=64) oQ
    rw [hm]at hF
    obtain ⟨ta,tc,htd⟩:∃ ta tc,sliced a' 0 64 c' 1 = .slice ta 64 tc:=⟨_,_,rfl⟩
    obtain ⟨fa,fc,hfd⟩:∃ fa fc,sliced a' 64 m c' 1 = .slice fa (m - 64) fc:=⟨_,_,rfl⟩
    rw [htd]at hslT hT
    rw [hfd]at hslF hF
    have hslT:∀ w,(Instr.sliceAt 27 (.slice a' m c') none (some (.int .i64 64)) none).run Tryz.prog w = .ok (.slice ta 64 tc) w:=hslT
    have hslF:∀ w,(Instr.sliceAt 27 (.slice a' m c') (some (.int .i64 64)) none none).run Tryz.prog w = .ok (.slice fa (m - 64) fc) w:=hslF
    have hmore:=Sha.blocks_more (s:=s') (b:=b') oQ
    rw [hmore]at hbl
    have hln:(b'.drop 64).length=m - 64:=by rw [List.length_drop,hm]
    have h64b:(b'.take 64).length=64:=by rw [List.length_take];omega
    have Hbl:=uQ hbl;have Hln:=uQ hln;have HF:=uQ hF;have Hm2:=uQ (And.intro h64 (And.intro hm2 hm3))
    have htk:=uQ (fun (w':World) (hw:Sat w0 w' (pt b4 (.cells (st8 s') 176 (0,0))::FF))=>shatake_c h64b hs' (hT.more sbD) (Ro.os HKF.out) hw)
    have Hok:=uQ (Sha.take_ok s' (b'.take 64))
    obtain ⟨s2,hs2⟩:∃ s2,Sha.take s' (b'.take 64)=s2:=⟨_,rfl⟩
    rw [hs2]at htk Hbl Hok
    have h3:=hS.drew
    have hG:World.rangeAt _ b4 0 (st8 s').toList:=fun k v hk=>h3.cellP pick0 (0+k) (by rw [Nat.zero_add,← Array.getElem?_toList];exact hk)
    clear hmore hln hF hrs hrs1 hT hbl hs' hm q1 q2 htd hfd hs2 h64b hS h64 hm2 hm3
    go_wp2_with fail
    refine wpL_begin [3,4] (fun w'=>w'.rangeAt b4 0 (st8 s').toList) kRz ?_
    refine rg_take 0 evD kRz i3z (tk_loadN (b:=b4) (o:=0) (st8 s').toList rFz Tryz.underlying176 rfl kRz (fun w hw=>hw)) aQ gQ ?_
    clear hG
    refine rP 1 ?_ (y:=mvQ)
    refine rP 2 ?_ (y:=(yl_slT evD evD hslT))
    refine rg_eff 3 evD kRz (fun K hK=>?_)
    (refine eff_call2 kRz evD evD ?_)
    refine (htk.out _ h3).mono ?_
    rintro ee w4 ⟨v,rfl,rfl,h4⟩
    refine hK _ _ (.inl rfl) ?_
    clear hK h3 htk
    refine rg_eff 4 evD kRz (fun K hK=>?_)
    refine eff_store (cs':=st8 s2) h4 evD evD rFz upd0 nLz kRz rFz ?_
    intro w5 h5
    refine hK _ _ (.inl rfl) ?_
    clear hK h4
    refine wpL_done kRz ?_
    go_wp2_with ((with_reducible refine at_slF ⟨?_⟩);refine wl_slF rFz rFz hslF ?_)
    go_roundg ((m - 64) / 64)
    case measure=>have:=Hm2.out;omega
    case rel=>exact ⟨b'.drop 64,fa,fc,m - 64,s2,rfl,Hln.out,rfl,by have:=Hm2.out;omega,by have:=Hm2.out;omega,Hok.out,HF.out,Hbl.out,h5⟩
end
end Go.Proofs.YtlimfgdbfadohaaGreatDoor
namespace Go.Sha
theorem sum_eq (b:Bs):sum b=((blocks ((pad (blocks (b.length / 64) begin b).2++bigL (8 * b.length) 8).length / 64) (blocks (b.length / 64) begin b).1 (pad (blocks (b.length / 64) begin b).2++bigL (8 * b.length) 8)).1.l.flatMap fun w=>bigL w 4):=rfl
end Go.Sha
namespace Go.Proofs.YtlimfgdbfadohaaGreatDoor
open Go Go.Sl Go.Med Go.MapKept Go.RowKit
theorem sha_len (b:Frm.Bs):(Sha.sum b).length=32:=by
 rw [Sha.sum_eq,flat4_len _ big4_len];rfl
section
variable {w0 w:World}{F:List HProp}{bv:Value}{b:Frm.Bs}
set_option maxRecDepth 20000 in
theorem shaSum_c (hl:b.length≤1073741824) (hr:RS w0 F bv b) (hK:Ro w0 F ShaK) (h:Sat w0 w F) :
  Calls Tryz.prog 22 #[bv] w (Rtn fun v w'=>v = .agg (bys (Sha.sum b)).toArray∧Sat w0 w' F):=by
 obtain ⟨D,hD⟩:∃ D,Sha.sum b=D:=⟨_,rfl⟩
 rw [hD]
 have hDl:D.length=32:=by rw [← hD,sha_len]
 rw [Sha.sum_eq]at hD
 have HD:=uQ hD;have Hr:=uQ hr;have HK:=uQ hK;have Hl:=uQ hl;have HDl:=uQ hDl
 clear hD hr hK hl hDl
 go_enter Tryz.func22,Tryz.ntmps22
 go_wp2_with (with_reducible apply at_alloc)
 refine ⟨wl_alloc zID h rfl ?_⟩
 intro b2 w2 h2
 clear h
 have h2:Sat w0 w2 (pt b2 (.cells (bys Frm.zero32).toArray 30 (0,0))::F):=h2
 go_wp2_with fail
 refine (shanew_c h2).mono ?_
 rintro ee w3 ⟨v,rfl,p,rfl,h3⟩
 clear h2
 go_wp2_with fail
 refine (shawrite_c Hl.out (Hr.out.more sbD) (Ro.os HK.out) h3).mono ?_
 rintro ee w4 ⟨v,rfl,ra,rn,rc,h4,hr64,hok⟩
 clear h3
 have hs:=shasum_c hr64 Hl.out hok (Ro.os HK.out) h4
 rw [HD.out]at hs
 clear h4 hr64 hok
 go_wp2_with fail
 refine hs.mono ?_
 rintro ee w5 ⟨v,rfl,rfl,h5⟩
 clear hs
 have hsz:(bys D).toArray.size=32:=by rw [List.size_toArray,bys_len,HDl.out]
 have hon:(bys D).toArray.toList.all (·.oneCell')=true:=by rw [List.all_eq_true];exact bys_one _
 obtain ⟨A,hA⟩:∃ A,(bys D).toArray=A:=⟨_,rfl⟩
 rw [hA]at hsz hon ⊢
 have HA:=uQ hA;have Hsz:=uQ hsz;have Hon:=uQ hon
 clear hA hsz hon
 go_wp2_with (with_reducible apply at_store)
 refine ⟨wl_storeA A h5 rFz rFz (Hsz.out.trans rFz) upd0 (by rw [Hsz.out];kernel_rfl) Hon.out ?_⟩
 intro w6 h6
 have hinf:(Tryz.prog.info? 30).map (·.size)=some A.size:=by rw [Hsz.out];kernel_rfl
 have hrc:=fun tmps hp=>res_cell (tmps:=tmps) (fn:=Tryz.f22) rfl h6 hp pick0 Tryz.underlying30 rfl hinf
 go_wp2_with fail
 refine ⟨rfl,_,hrc _ rFz,_,rfl,?_,h6.drop⟩
 rw [HA.out]
end
end Go.Proofs.YtlimfgdbfadohaaGreatDoor
namespace Go.Tab
end Go.Tab
namespace Go.Proofs.YtlimfgdbfadohaaGreatDoor
open Go Go.Sl Go.Med Go.MapKept Go.RowKit
section
variable {w0 w:World}{F:List HProp}{p m K r ps pn B:Nat}{L:Seg.Log}{M:Med}{seg:Int}{d:Bool}{k:Frm.Bs}{mp:Frm.Bs→Option Seg.Plc}
set_option maxRecDepth 20000 in
theorem rpput_c (hB:B≤134217000) (hk:k.length=32) (data:Frm.Bs) (da:Option Addr) (dc:Nat) (hd:Ro w0 F (rdsl 1 (.slice da data.length dc) (bys data))) (hLd:data.length≤1099511627) (hL:L.Ok) (hM:M.Ok K) (hKK:K+4≤1099511627776) (hH:Ro w0 F Half)
  (h0:(L.append M ⟨0,k,data⟩).2.2=0) (h:Sat w0 w (rpPt r m seg p ps pn d::TabML pn mp B::LogRep p m L::MedRep m M::F)) :
  Calls Tryz.prog 57 #[ptr r,.agg (bys k).toArray,.slice da data.length dc] w (Rtn fun v w'=>v=errno 0 ∧
   Sat w0 w' (rpPt r m seg p ps pn true::TabML pn (Tab.put mp k (L.append M ⟨0,k,data⟩).2.1) (B+1)::LogRep p m (L.append M ⟨0,k,data⟩).1.1::MedRep m (L.append M ⟨0,k,data⟩).1.2::F)):=by
 have hks:(bys k).length=32:=by rw [bys_len,hk]
 have hap:=uQ (fun (w':World) (R:List HProp) (hh:Ro w0 R Half) (hr:Ro w0 R (rdsl 1 (.slice da data.length dc) (bys data))) (hw:Sat w0 w' (LogRep p m L::MedRep m M::R))=>lappend_c ⟨0,k,data⟩ hk da dc hr hh hLd hL hM hKK hw)
 generalize L.append M ⟨0,k,data⟩=q at *
 obtain ⟨⟨L2,M2⟩,pc,e2⟩:=q
 dsimp only at h0 hap ⊢
 subst h0
 have HB:=uQ hB;have Hkey:=uQ hk;have Hks:=uQ hks;have Hd:=uQ hd;have HH:=uQ hH
 clear hB hk hks hd hLd hL hM hKK hH
 go_enter Tryz.func57,Tryz.ntmps57
 go_wp2_with (with_reducible apply at_box)
 refine ⟨wl_box h evD evD ?_⟩
 intro b4 w4 h4
 replace h4:Sat w0 w4 (pt b4 (.cells (bys k).toArray 30 (0,0))::rpPt r m seg p ps pn d::TabML pn mp B::LogRep p m L::MedRep m M::F):=h4
 clear h
 go_wp2_with fail
 refine (rokY_c (h4.sb:Sat w0 w4 (rpPt r m seg p ps pn d::pt b4 (.cells (bys k).toArray 30 (0,0))::TabML pn mp B::LogRep p m L::MedRep m M::F))).mono ?_
 rintro ee w5 ⟨v,rfl,rfl,rfl⟩
 go_wp2_with fail
 have h5:=h4.drew
 clear h4
 refine wpL_begin [7,8,9,10,12,13] (fun w'=>w'.cell? ⟨r,2,none⟩=some (.pointer (some ⟨p,0,none⟩))∧w'.rangeAt b4 0 (bys k)) kRz ?_
 have hGf:∀ (w':World) (R:List HProp) (dd:Bool),Sat w0 w' (pt b4 (.cells (bys k).toArray 30 (0,0))::rpPt r m seg p ps pn dd::R)→w'.cell? ⟨r,2,none⟩=some (.pointer (some ⟨p,0,none⟩))∧w'.rangeAt b4 0 (bys k):=fun w' R dd hw=>⟨hw.cellP pick1 2 rfl,fun j z hj=>by rw [Nat.zero_add];exact hw.cellP pick0 j (by rw [List.getElem?_toArray];exact hj)⟩
 have HGf:=uQ hGf
 have hG:=hGf _ _ _ h5
 clear hGf
 refine rP 0 ?_ (y:=mvQ)
 refine rP 1 ?_ (y:=nlQ)
 refine rP 2 ?_ (y:=flQ)
 refine rt 3 (h:=?_)
 refine rg_take 4 evD kRz i3z (tk_loadN (b:=b4) (o:=0) (bys k) rFz Tryz.underlying30 rfl (by rw [Hks.out];kernel_rfl) (fun w hw=>hw.2)) aQ gQ ?_
 clear hG
 refine rP 5 ?_ (y:=mvQ)
 refine rP 6 ?_ (y:=(yl_build3 evD evD evD (fun w=>run_buildEnt ⟨0,k,data⟩ Hkey.out da data.length dc w)))
 refine rg_eff2 7 11 evD evD kRz (fun K hK=>?_) (fun K hK=>?_)
 ·(refine eff_call2 kRz evD evD ?_)
  refine (hap.out _ _ (Ro.os HH.out) (Ro.os Hd.out) (h5.sb:Sat w0 _ (LogRep p m L::MedRep m M::pt b4 (.cells (bys k).toArray 30 (0,0))::rpPt r m seg p ps pn d::TabML pn mp B::F))).mono ?_
  rintro ee w6 ⟨v,rfl,rfl,h6⟩
  refine hK _ _ (.inl rfl) ?_
  clear hK hap h5
  refine rP 8 ?_ (y:=mvQ)
  refine rP 9 ?_ (y:=(yl_extract evD rnD))
  refine rP 10 ?_ (y:=(yl_extract evD rnD))
  refine rg_eff 11 evD kRz (fun K hK=>?_)
  refine eff_alloc (zValL) h6 rfl ?_
  intro b7 w7 h7
  refine hK _ _ (.inr (.inl (HGf.out _ _ _ (h7.sb:Sat w0 w7 (pt b4 (.cells (bys k).toArray 30 (0,0))::rpPt r m seg p ps pn d::TabML pn mp B::pt b7 (.cells (penc Seg.Plc.zero).toArray 107 (0,0))::LogRep p m L2::MedRep m M2::F))))) ?_
  clear hK h6
  have h8:Sat w0 w7 (pt b7 (.cells (penc Seg.Plc.zero).toArray 107 (0,0))::pt b4 (.cells (bys k).toArray 30 (0,0))::rpPt r m seg p ps pn d::TabML pn mp B::LogRep p m L2::MedRep m M2::F):=h7.sb
  clear h7
  refine rg_eff 12 evD kRz (fun K hK=>?_)
  refine eff_store (cs':=(penc pc).toArray) h8 evD evD rFz upd0 nLz kRz rFz ?_
  intro w9 h9
  refine hK _ _ (.inl rfl) ?_
  clear hK h8
  refine rP 13 ?_ (y:=asQ)
  refine wpL_done kRz ?_
  go_wp2_with fail
  have h10:=h9.drew
  clear h9
  replace h10:Sat w0 _ (pt b4 (.cells (bys k).toArray 30 (0,0))::rpPt r m seg p ps pn d::TabML pn mp B::pt b7 (.cells (penc pc).toArray 107 (0,0))::LogRep p m L2::MedRep m M2::F):=h10.sb
  refine wpL_begin [6] (fun w'=>w'.cell? ⟨r,4,none⟩=some (.pointer (some ⟨pn,0,none⟩))∧w'.rangeAt b4 0 (bys k)∧w'.rangeAt b7 0 (penc pc)) kRz ?_
  have hG:World.cell? _ ⟨r,4,none⟩=some (.pointer (some ⟨pn,0,none⟩))∧World.rangeAt _ b4 0 (bys k)∧World.rangeAt _ b7 0 (penc pc):=⟨h10.cellP pick1 4 rfl,fun j z hj=>by rw [Nat.zero_add];exact h10.cellP pick0 j (by rw [List.getElem?_toArray];exact hj),fun j z hj=>by rw [Nat.zero_add];exact h10.cellP pick3 j (by rw [List.getElem?_toArray];exact hj)⟩
  refine rP 0 ?_ (y:=mvQ)
  refine rP 1 ?_ (y:=nlQ)
  refine rP 2 ?_ (y:=flQ)
  refine rt 3 (h:=?_)
  refine rg_take 4 evD kRz i3z (tk_loadN (b:=b4) (o:=0) (bys k) rFz Tryz.underlying30 rfl (by rw [Hks.out];kernel_rfl) (fun w hw=>hw.2.1)) aQ gQ ?_
  refine rg_take 5 evD kRz i3z (tk_loadN (b:=b7) (o:=0) (penc pc) rFz Tryz.underlying107 rfl kRz (fun w hw=>hw.2.2)) aQ gQ ?_
  clear hG
  refine rg_eff 6 evD kRz (fun K hK=>?_)
  (refine eff_call3 kRz evD evD evD ?_)
  refine (putL_c HB.out Hkey.out pc (h10.sb:Sat w0 _ (TabML pn mp B::pt b4 (.cells (bys k).toArray 30 (0,0))::rpPt r m seg p ps pn d::pt b7 (.cells (penc pc).toArray 107 (0,0))::LogRep p m L2::MedRep m M2::F))).mono ?_
  rintro ee w11 ⟨v,rfl,h11⟩
  refine hK _ _ (.inl rfl) ?_
  clear hK h10
  refine wpL_done kRz ?_
  go_wp2_with (with_reducible apply at_store)
  refine ⟨wl_store (cs':=#[ptr m,.int .i64 seg,ptr p,ptr ps,ptr pn,.bool true]) (h11.sb:Sat w0 w11 (rpPt r m seg p ps pn d::TabML pn (Tab.put mp k pc) (B+1)::pt b4 (.cells (bys k).toArray 30 (0,0))::pt b7 (.cells (penc pc).toArray 107 (0,0))::LogRep p m L2::MedRep m M2::F)) rFz rFz rFz upd0 nLz kRz rFz ?_⟩
  intro w12 h12
  go_wp2_with fail
  go_ret
  exact ⟨_,rfl,rfl,h12.sb⟩
 ·refine eff_alloc (zValL) h5 rfl ?_
  intro b7 w6 h6
  refine hK _ _ (.inr (.inl (HGf.out _ _ _ (h6.sb:Sat w0 w6 (pt b4 (.cells (bys k).toArray 30 (0,0))::rpPt r m seg p ps pn d::pt b7 (.cells (penc Seg.Plc.zero).toArray 107 (0,0))::TabML pn mp B::LogRep p m L::MedRep m M::F))))) ?_
  clear hK h5
  refine rg_eff 7 evD kRz (fun K hK=>?_)
  (refine eff_call2 kRz evD evD ?_)
  refine (hap.out _ _ (Ro.os HH.out) (Ro.os Hd.out) (h6.sb:Sat w0 _ (LogRep p m L::MedRep m M::pt b7 (.cells (penc Seg.Plc.zero).toArray 107 (0,0))::pt b4 (.cells (bys k).toArray 30 (0,0))::rpPt r m seg p ps pn d::TabML pn mp B::F))).mono ?_
  rintro ee w7 ⟨v,rfl,rfl,h7⟩
  refine hK _ _ (.inl rfl) ?_
  clear hK hap h6
  refine rP 8 ?_ (y:=mvQ)
  refine rP 9 ?_ (y:=(yl_extract evD rnD))
  refine rP 10 ?_ (y:=(yl_extract evD rnD))
  have h8:Sat w0 w7 (pt b7 (.cells (penc Seg.Plc.zero).toArray 107 (0,0))::pt b4 (.cells (bys k).toArray 30 (0,0))::rpPt r m seg p ps pn d::TabML pn mp B::LogRep p m L2::MedRep m M2::F):=h7.sb
  clear h7
  refine rg_eff 12 evD kRz (fun K hK=>?_)
  refine eff_store (cs':=(penc pc).toArray) h8 evD evD rFz upd0 nLz kRz rFz ?_
  intro w9 h9
  refine hK _ _ (.inl rfl) ?_
  clear hK h8
  refine rP 13 ?_ (y:=asQ)
  refine wpL_done kRz ?_
  go_wp2_with fail
  have h10:=h9.drew
  clear h9
  replace h10:Sat w0 _ (pt b4 (.cells (bys k).toArray 30 (0,0))::rpPt r m seg p ps pn d::TabML pn mp B::pt b7 (.cells (penc pc).toArray 107 (0,0))::LogRep p m L2::MedRep m M2::F):=h10.sb
  refine wpL_begin [6] (fun w'=>w'.cell? ⟨r,4,none⟩=some (.pointer (some ⟨pn,0,none⟩))∧w'.rangeAt b4 0 (bys k)∧w'.rangeAt b7 0 (penc pc)) kRz ?_
  have hG:World.cell? _ ⟨r,4,none⟩=some (.pointer (some ⟨pn,0,none⟩))∧World.rangeAt _ b4 0 (bys k)∧World.rangeAt _ b7 0 (penc pc):=⟨h10.cellP pick1 4 rfl,fun j z hj=>by rw [Nat.zero_add];exact h10.cellP pick0 j (by rw [List.getElem?_toArray];exact hj),fun j z hj=>by rw [Nat.zero_add];exact h10.cellP pick3 j (by rw [List.getElem?_toArray];exact hj)⟩
  refine rP 0 ?_ (y:=mvQ)
  refine rP 1 ?_ (y:=nlQ)
  refine rP 2 ?_ (y:=flQ)
  refine rt 3 (h:=?_)
  refine rg_take 4 evD kRz i3z (tk_loadN (b:=b4) (o:=0) (bys k) rFz Tryz.underlying30 rfl (by rw [Hks.out];kernel_rfl) (fun w hw=>hw.2.1)) aQ gQ ?_
  refine rg_take 5 evD kRz i3z (tk_loadN (b:=b7) (o:=0) (penc pc) rFz Tryz.underlying107 rfl kRz (fun w hw=>hw.2.2)) aQ gQ ?_
  clear hG
  refine rg_eff 6 evD kRz (fun K hK=>?_)
  (refine eff_call3 kRz evD evD evD ?_)
  refine (putL_c HB.out Hkey.out pc (h10.sb:Sat w0 _ (TabML pn mp B::pt b4 (.cells (bys k).toArray 30 (0,0))::rpPt r m seg p ps pn d::pt b7 (.cells (penc pc).toArray 107 (0,0))::LogRep p m L2::MedRep m M2::F))).mono ?_
  rintro ee w11 ⟨v,rfl,h11⟩
  refine hK _ _ (.inl rfl) ?_
  clear hK h10
  refine wpL_done kRz ?_
  go_wp2_with (with_reducible apply at_store)
  refine ⟨wl_store (cs':=#[ptr m,.int .i64 seg,ptr p,ptr ps,ptr pn,.bool true]) (h11.sb:Sat w0 w11 (rpPt r m seg p ps pn d::TabML pn (Tab.put mp k pc) (B+1)::pt b4 (.cells (bys k).toArray 30 (0,0))::pt b7 (.cells (penc pc).toArray 107 (0,0))::LogRep p m L2::MedRep m M2::F)) rFz rFz rFz upd0 nLz kRz rFz ?_⟩
  intro w12 h12
  go_wp2_with fail
  go_ret
  exact ⟨_,rfl,rfl,h12.sb⟩
end
section
variable {w0 w:World}{F:List HProp}{p m K r ps pn B:Nat}{L:Seg.Log}{M:Med}{seg:Int}{d:Bool}{k:Frm.Bs}{mp:Frm.Bs→Option Seg.Plc}
set_option maxRecDepth 20000 in
theorem rpplace_c (hB:B≤268435000) (hk:k.length=32) (h:Sat w0 w (rpPt r m seg p ps pn d::TabML pn mp B::F)) :
  Calls Tryz.prog 90 #[ptr r,.agg (bys k).toArray] w (Rtn fun v w'=>v = .tuple #[.agg (penc ((mp k).getD Seg.Plc.zero)).toArray,.bool (mp k).isSome]∧Sat w0 w' (rpPt r m seg p ps pn d::TabML pn mp B::F)):=by
 have Hk:=uQ hk;have Hks:=uQ (show (bys k).length=32 by rw [bys_len,hk]);have HB:=uQ hB
 clear hk hB
 go_enter Tryz.func90,Tryz.ntmps90
 go_wp2_with (with_reducible apply at_box)
 refine ⟨wl_box h evD evD ?_⟩
 intro b3 w3 h3
 go_wp2_with (with_reducible apply at_alloc)
 refine ⟨wl_alloc zValL h3 rfl ?_⟩
 intro b4 w4 h4
 replace h4:Sat w0 w4 (rpPt r m seg p ps pn d::pt b4 (.cells (penc Seg.Plc.zero).toArray 107 (0,0))::pt b3 (.cells (bys k).toArray 30 (0,0))::TabML pn mp B::F):=h4.sb
 clear h h3
 go_wp2_with fail
 refine (rokY_c h4).mono ?_
 rintro ee w5 ⟨v,rfl,rfl,rfl⟩
 go_wp2_with fail
 have h5:=h4.drew
 clear h4
 refine wpL_begin [5,6,7,8,9] (fun w'=>w'.cell? ⟨r,4,none⟩=some (.pointer (some ⟨pn,0,none⟩))∧w'.rangeAt b3 0 (bys k)) kRz ?_
 have hG:World.cell? _ ⟨r,4,none⟩=some (.pointer (some ⟨pn,0,none⟩))∧World.rangeAt _ b3 0 (bys k):=⟨h5.cellP pick0 4 rfl,fun j z hj=>by rw [Nat.zero_add];exact h5.cellP pick2 j (by rw [List.getElem?_toArray];exact hj)⟩
 refine rP 0 ?_ (y:=mvQ)
 refine rP 1 ?_ (y:=nlQ)
 refine rP 2 ?_ (y:=flQ)
 refine rt 3 (h:=?_)
 refine rg_take 4 evD kRz i3z (tk_loadN (b:=b3) (o:=0) (bys k) rFz Tryz.underlying30 rfl (by rw [Hks.out];kernel_rfl) (fun w hw=>hw.2)) aQ gQ ?_
 clear hG
 refine rg_eff 5 evD kRz (fun K hK=>?_)
 (refine eff_call2 kRz evD evD ?_)
 refine (getL_c HB.out Hk.out (h5.sb:Sat w0 _ (TabML pn mp B::pt b4 (.cells (penc Seg.Plc.zero).toArray 107 (0,0))::rpPt r m seg p ps pn d::pt b3 (.cells (bys k).toArray 30 (0,0))::F))).mono ?_
 rintro ee w6 ⟨v,rfl,rfl,h6⟩
 refine hK _ _ (.inl rfl) ?_
 clear hK h5
 generalize hpc:(mp k).getD Seg.Plc.zero=pc at *
 have Hpc:=uQ hpc
 clear hpc
 refine rP 6 ?_ (y:=(yl_extract evD rnD))
 refine rP 7 ?_ (y:=(yl_extract evD rnD))
 have h7:Sat w0 w6 (pt b4 (.cells (penc Seg.Plc.zero).toArray 107 (0,0))::rpPt r m seg p ps pn d::pt b3 (.cells (bys k).toArray 30 (0,0))::TabML pn mp B::F):=h6.sb
 clear h6
 refine rg_eff 8 evD kRz (fun K hK=>?_)
 refine eff_store (cs':=(penc pc).toArray) h7 evD evD rFz upd0 nLz kRz rFz ?_
 intro w9 h9
 refine hK _ _ (.inl rfl) ?_
 clear hK h7
 refine rP 9 ?_ (y:=asQ)
 refine wpL_done kRz ?_
 go_wp2_with fail
 refine ⟨rfl,_,res_cell_tmp rfl h9 rFz pick0 Tryz.underlying107 rfl kRz,_,rfl,?_,h9.sb⟩
 rw [Hpc.out];rfl
set_option maxRecDepth 20000 in
theorem rphas_c (hB:B≤268435000) (hk:k.length=32) (h:Sat w0 w (rpPt r m seg p ps pn d::TabML pn mp B::F)) :
  Calls Tryz.prog 54 #[ptr r,.agg (bys k).toArray] w (Rtn fun v w'=>v = .bool (mp k).isSome∧Sat w0 w' (rpPt r m seg p ps pn d::TabML pn mp B::F)):=by
 have Hk:=uQ hk;have Hks:=uQ (show (bys k).length=32 by rw [bys_len,hk]);have HB:=uQ hB
 clear hk hB
 go_enter Tryz.func54,Tryz.ntmps54
 go_wp2_with (with_reducible apply at_box)
 refine ⟨wl_box h evD evD ?_⟩
 intro b3 w3 h3
 replace h3:Sat w0 w3 (pt b3 (.cells (bys k).toArray 30 (0,0))::rpPt r m seg p ps pn d::TabML pn mp B::F):=h3
 clear h
 go_wp2_with ((with_reducible refine at_load ⟨?_⟩);refine wl_loadA h3 rFz pick0 Tryz.underlying30 rfl (by rw [List.size_toArray,Hks.out];kernel_rfl) ?_)
 refine (rpplace_c HB.out Hk.out (h3.sb:Sat w0 w3 (rpPt r m seg p ps pn d::TabML pn mp B::pt b3 (.cells (bys k).toArray 30 (0,0))::F))).mono ?_
 rintro ee w4 ⟨v,rfl,rfl,h4⟩
 clear h3
 generalize (mp k).getD Seg.Plc.zero=pc at *
 go_wp2_with (with_reducible apply at_alloc)
 refine ⟨wl_alloc zValL h4 rfl ?_⟩
 intro b5 w5 h5
 go_wp2_with (with_reducible apply at_store)
 refine ⟨wl_storeA (penc pc).toArray h5 rFz rFz rFz upd0 kRz rFz ?_⟩
 intro w6 h6
 go_wp2_with fail
 go_ret
 exact ⟨_,rfl,rfl,h6.sb⟩
end
section
variable {w0 w:World}{F:List HProp}{p m K r ps pn B:Nat}{L:Seg.Log}{M:Med}{seg:Int}{d:Bool}{k:Frm.Bs}{mp:Frm.Bs→Option Seg.Plc}
theorem _root_.Go.Seg.lread_key3 (L:Seg.Log) (M:Med) (q:Seg.Plc):(L.read M q).1.key.length=32:=by
 unfold Seg.Log.read
 split
 ·rfl
 split
 ·rfl
 split
 ·rfl
 split
 ·rfl
 ·exact Seg.read_key _
theorem putsAt_all {a b:Array Value} (h:a.size=b.size):putsAt a 0 b.toList=b:=by
 apply putsAt_eq
 rw [putsAt_list _ _ _ (by rw [Array.length_toList];omega),List.take_zero,List.nil_append,Nat.zero_add,List.drop_of_length_le (by rw [Array.length_toList,Array.length_toList];omega),List.append_nil]
set_option maxRecDepth 20000 in
theorem rpgetE_c (hB:B≤268435000) (hk:k.length=32) (pl:Seg.Plc) (hm:mp k=some pl) (hH:Ro w0 F Half) (hL:L.Ok) (hM:M.Ok K) (h1 : -9223372036854775808≤pl.at_∧pl.at_≤9223372036854775807) (h2 : -9223372036854775808≤pl.size∧pl.size≤9223372036854775807) (e:Int) (he:e≠0) (hr:(L.read M pl).2=e) (h:Sat w0 w (rpPt r m seg p ps pn d::TabML pn mp B::LogRep p m L::MedRep m M::F)) :
  Calls Tryz.prog 32 #[ptr r,.agg (bys k).toArray] w (Rtn fun v w'=>v = .tuple #[.slice none 0 0,errno e]∧Sat w0 w' (rpPt r m seg p ps pn d::TabML pn mp B::LogRep p m L::MedRep m M::F)):=by
 have Hk:=uQ hk;have Hks:=uQ (show (bys k).length=32 by rw [bys_len,hk])
 have HT:=uQ (fun (w':World) (R:List HProp) (hw:Sat w0 w' (TabML pn mp B::R))=>getL_c hB hk hw)
 rw [hm,Option.getD_some,Option.isSome_some]at HT
 have HH:=uQ hH
 have HR:=uQ (fun (w':World) (R:List HProp) (hh:Ro w0 R Half) (hw:Sat w0 w' (LogRep p m L::MedRep m M::R))=>lread_c hh hL hM pl h1 h2 hw)
 have hx:(L.read M pl).1.key.length=32:=Seg.lread_key3 L M pl
 have he1:(e != 0)=true:=bne_iff_ne.2 he
 generalize L.read M pl=q at *
 obtain ⟨x,e2⟩:=q
 dsimp only at hr HR hx
 subst hr
 have Hx:=uQ hx
 clear hk hB hm hH hL hM h1 h2 he hx
 go_enter Tryz.func32,Tryz.ntmps32
 go_wp2_with (with_reducible apply at_box)
 refine ⟨wl_box h evD evD ?_⟩
 intro b3 w3 h3
 have h4:Sat w0 w3 (rpPt r m seg p ps pn d::pt b3 (.cells (bys k).toArray 30 (0,0))::TabML pn mp B::LogRep p m L::MedRep m M::F):=h3.sb
 clear h h3
 go_wp2_with fail
 refine (rokY_c h4).mono ?_
 rintro ee w5 ⟨v,rfl,rfl,rfl⟩
 go_wp2_with fail
 have h5:=h4.drew
 clear h4
 refine wpL_begin [5,6,7,8,10,11] (fun w'=>w'.cell? ⟨r,4,none⟩=some (.pointer (some ⟨pn,0,none⟩))∧w'.rangeAt b3 0 (bys k)) kRz ?_
 have hGf:∀ (w':World) (R:List HProp),Sat w0 w' (rpPt r m seg p ps pn d::pt b3 (.cells (bys k).toArray 30 (0,0))::R)→w'.cell? ⟨r,4,none⟩=some (.pointer (some ⟨pn,0,none⟩))∧w'.rangeAt b3 0 (bys k):=fun w' R hw=>⟨hw.cellP pick0 4 rfl,fun j z hj=>by rw [Nat.zero_add];exact hw.cellP pick1 j (by rw [List.getElem?_toArray];exact hj)⟩
 have HGf:=uQ hGf
 have hG:=hGf _ _ h5
 clear hGf
 refine rP 0 ?_ (y:=mvQ)
 refine rP 1 ?_ (y:=nlQ)
 refine rP 2 ?_ (y:=flQ)
 refine rt 3 (h:=?_)
 refine rg_take 4 evD kRz i3z (tk_loadN (b:=b3) (o:=0) (bys k) rFz Tryz.underlying30 rfl (by rw [Hks.out];kernel_rfl) (fun w hw=>hw.2)) aQ gQ ?_
 clear hG
 refine rg_eff2 5 9 evD evD kRz (fun K hK=>?_) (fun K hK=>?_)
 ·(refine eff_call2 kRz evD evD ?_)
  refine (HT.out _ _ (h5.sb:Sat w0 _ (TabML pn mp B::rpPt r m seg p ps pn d::pt b3 (.cells (bys k).toArray 30 (0,0))::LogRep p m L::MedRep m M::F))).mono ?_
  rintro ee w6 ⟨v,rfl,rfl,h6⟩
  refine hK _ _ (.inl rfl) ?_
  clear hK h5
  refine rP 6 ?_ (y:=mvQ)
  refine rP 7 ?_ (y:=(yl_extract evD rnD))
  refine rP 8 ?_ (y:=(yl_extract evD rnD))
  refine rg_eff 9 evD kRz (fun K hK=>?_)
  refine eff_alloc (zValL) h6 rfl ?_
  intro b6 w7 h7
  refine hK _ _ (.inr (.inl (HGf.out _ _ (h7.sb:Sat w0 w7 (rpPt r m seg p ps pn d::pt b3 (.cells (bys k).toArray 30 (0,0))::pt b6 (.cells (penc Seg.Plc.zero).toArray 107 (0,0))::TabML pn mp B::LogRep p m L::MedRep m M::F))))) ?_
  clear hK h6
  have h8:Sat w0 w7 (pt b6 (.cells (penc Seg.Plc.zero).toArray 107 (0,0))::rpPt r m seg p ps pn d::pt b3 (.cells (bys k).toArray 30 (0,0))::TabML pn mp B::LogRep p m L::MedRep m M::F):=h7.sb
  clear h7
  refine rg_eff 10 evD kRz (fun K hK=>?_)
  refine eff_store (cs':=(penc pl).toArray) h8 evD evD rFz upd0 nLz kRz rFz ?_
  intro w9 h9
  refine hK _ _ (.inl rfl) ?_
  clear hK h8
  refine rP 11 ?_ (y:=asQ)
  refine wpL_done kRz ?_
  go_wp2_with fail
  have h10:=h9.drew
  clear h9 HGf
  refine wpL_begin [5,6,7,8,10,11] (fun w'=>w'.cell? ⟨r,2,none⟩=some (.pointer (some ⟨p,0,none⟩))∧w'.rangeAt b6 0 (penc pl)) kRz ?_
  have hGf:∀ (w':World) (R:List HProp),Sat w0 w' (pt b6 (.cells (penc pl).toArray 107 (0,0))::rpPt r m seg p ps pn d::R)→w'.cell? ⟨r,2,none⟩=some (.pointer (some ⟨p,0,none⟩))∧w'.rangeAt b6 0 (penc pl):=fun w' R hw=>⟨hw.cellP pick1 2 rfl,fun j z hj=>by rw [Nat.zero_add];exact hw.cellP pick0 j (by rw [List.getElem?_toArray];exact hj)⟩
  have HGf:=uQ hGf
  have hG:=hGf _ _ h10
  clear hGf
  refine rP 0 ?_ (y:=mvQ)
  refine rP 1 ?_ (y:=nlQ)
  refine rP 2 ?_ (y:=flQ)
  refine rt 3 (h:=?_)
  refine rg_take 4 evD kRz i3z (tk_loadN (b:=b6) (o:=0) (penc pl) rFz Tryz.underlying107 rfl kRz (fun w hw=>hw.2)) aQ gQ ?_
  clear hG
  refine rg_eff2 5 9 evD evD kRz (fun K hK=>?_) (fun K hK=>?_)
  ·(refine eff_call2 kRz evD evD ?_)
   refine (HR.out _ _ (Ro.os HH.out) (h10.sb:Sat w0 _ (LogRep p m L::MedRep m M::pt b6 (.cells (penc pl).toArray 107 (0,0))::rpPt r m seg p ps pn d::pt b3 (.cells (bys k).toArray 30 (0,0))::TabML pn mp B::F))).mono ?_
   rintro ee w11 ⟨v,rfl,da,dc,rfl,h11⟩
   refine hK _ _ (.inl rfl) ?_
   clear hK h10
   refine rP 6 ?_ (y:=mvQ)
   refine rP 7 ?_ (y:=(yl_extract evD rnD))
   refine rP 8 ?_ (y:=(yl_extract evD rnD))
   refine rg_eff 9 evD kRz (fun K hK=>?_)
   refine eff_alloc (zEnt) h11 rfl ?_
   intro b8 w12 h12
   refine hK _ _ (.inr (.inl (HGf.out _ _ (h12.sb:Sat w0 w12 (pt b6 (.cells (penc pl).toArray 107 (0,0))::rpPt r m seg p ps pn d::pt b8 (.cells zeroEntV.cells 137 (0,0))::bsl (.slice da x.data.length dc) x.data::LogRep p m L::MedRep m M::pt b3 (.cells (bys k).toArray 30 (0,0))::TabML pn mp B::F))))) ?_
   clear hK h11
   refine rg_eff 10 evD kRz (fun K hK=>?_)
   refine eff_store (cs':=entA x (.slice da x.data.length dc)) (v:= .agg (entA x (.slice da x.data.length dc))) h12 evD evD (by exact putsAt_all (show (entA Frm.zeroE (.slice none 0 0)).size=(entA x (.slice da x.data.length dc)).size by rw [entA_size _ _ Hx.out];rfl)) upd0 (show 0+(entA x (.slice da x.data.length dc)).size≤(entA Frm.zeroE (.slice none 0 0)).size by rw [entA_size _ _ Hx.out];exact Nat.le_refl _) (show _=some (entA x (.slice da x.data.length dc)).size by rw [entA_size _ _ Hx.out];exact infoEntSize) (entA_one _ _ _ _) ?_
   intro w13 h13
   refine hK _ _ (.inl rfl) ?_
   clear hK h12
   refine rP 11 ?_ (y:=asQ)
   refine wpL_done kRz ?_
   go_wp2_with fail
   go_ret2
   exact ⟨_,rfl,rfl,h13.sb⟩
  ·refine eff_alloc (zEnt) h10 rfl ?_
   intro b8 w11 h11
   refine hK _ _ (.inr (.inl (HGf.out _ _ (h11.sb:Sat w0 w11 (pt b6 (.cells (penc pl).toArray 107 (0,0))::rpPt r m seg p ps pn d::pt b8 (.cells zeroEntV.cells 137 (0,0))::pt b3 (.cells (bys k).toArray 30 (0,0))::TabML pn mp B::LogRep p m L::MedRep m M::F))))) ?_
   clear hK h10
   refine rg_eff 5 evD kRz (fun K hK=>?_)
   (refine eff_call2 kRz evD evD ?_)
   refine (HR.out _ _ (Ro.os HH.out) (h11.sb:Sat w0 _ (LogRep p m L::MedRep m M::pt b8 (.cells zeroEntV.cells 137 (0,0))::pt b6 (.cells (penc pl).toArray 107 (0,0))::rpPt r m seg p ps pn d::pt b3 (.cells (bys k).toArray 30 (0,0))::TabML pn mp B::F))).mono ?_
   rintro ee w12 ⟨v,rfl,da,dc,rfl,h12⟩
   refine hK _ _ (.inl rfl) ?_
   clear hK h11
   refine rP 6 ?_ (y:=mvQ)
   refine rP 7 ?_ (y:=(yl_extract evD rnD))
   refine rP 8 ?_ (y:=(yl_extract evD rnD))
   replace h12:Sat w0 w12 (pt b8 (.cells zeroEntV.cells 137 (0,0))::bsl (.slice da x.data.length dc) x.data::LogRep p m L::MedRep m M::pt b6 (.cells (penc pl).toArray 107 (0,0))::rpPt r m seg p ps pn d::pt b3 (.cells (bys k).toArray 30 (0,0))::TabML pn mp B::F):=h12.sb
   refine rg_eff 10 evD kRz (fun K hK=>?_)
   refine eff_store (cs':=entA x (.slice da x.data.length dc)) (v:= .agg (entA x (.slice da x.data.length dc))) h12 evD evD (by exact putsAt_all (show (entA Frm.zeroE (.slice none 0 0)).size=(entA x (.slice da x.data.length dc)).size by rw [entA_size _ _ Hx.out];rfl)) upd0 (show 0+(entA x (.slice da x.data.length dc)).size≤(entA Frm.zeroE (.slice none 0 0)).size by rw [entA_size _ _ Hx.out];exact Nat.le_refl _) (show _=some (entA x (.slice da x.data.length dc)).size by rw [entA_size _ _ Hx.out];exact infoEntSize) (entA_one _ _ _ _) ?_
   intro w13 h13
   refine hK _ _ (.inl rfl) ?_
   clear hK h12
   refine rP 11 ?_ (y:=asQ)
   refine wpL_done kRz ?_
   go_wp2_with fail
   go_ret2
   exact ⟨_,rfl,rfl,h13.sb⟩
 ·refine eff_alloc (zValL) h5 rfl ?_
  intro b6 w6 h6
  refine hK _ _ (.inr (.inl (HGf.out _ _ (h6.sb:Sat w0 w6 (rpPt r m seg p ps pn d::pt b3 (.cells (bys k).toArray 30 (0,0))::pt b6 (.cells (penc Seg.Plc.zero).toArray 107 (0,0))::TabML pn mp B::LogRep p m L::MedRep m M::F))))) ?_
  clear hK h5
  refine rg_eff 5 evD kRz (fun K hK=>?_)
  (refine eff_call2 kRz evD evD ?_)
  refine (HT.out _ _ (h6.sb:Sat w0 _ (TabML pn mp B::pt b6 (.cells (penc Seg.Plc.zero).toArray 107 (0,0))::rpPt r m seg p ps pn d::pt b3 (.cells (bys k).toArray 30 (0,0))::LogRep p m L::MedRep m M::F))).mono ?_
  rintro ee w7 ⟨v,rfl,rfl,h7⟩
  refine hK _ _ (.inl rfl) ?_
  clear hK h6
  refine rP 6 ?_ (y:=mvQ)
  refine rP 7 ?_ (y:=(yl_extract evD rnD))
  refine rP 8 ?_ (y:=(yl_extract evD rnD))
  have h8:Sat w0 w7 (pt b6 (.cells (penc Seg.Plc.zero).toArray 107 (0,0))::rpPt r m seg p ps pn d::pt b3 (.cells (bys k).toArray 30 (0,0))::TabML pn mp B::LogRep p m L::MedRep m M::F):=h7.sb
  clear h7
  refine rg_eff 10 evD kRz (fun K hK=>?_)
  refine eff_store (cs':=(penc pl).toArray) h8 evD evD rFz upd0 nLz kRz rFz ?_
  intro w9 h9
  refine hK _ _ (.inl rfl) ?_
  clear hK h8
  refine rP 11 ?_ (y:=asQ)
  refine wpL_done kRz ?_
  go_wp2_with fail
  have h10:=h9.drew
  clear h9 HGf
  refine wpL_begin [5,6,7,8,10,11] (fun w'=>w'.cell? ⟨r,2,none⟩=some (.pointer (some ⟨p,0,none⟩))∧w'.rangeAt b6 0 (penc pl)) kRz ?_
  have hGf:∀ (w':World) (R:List HProp),Sat w0 w' (pt b6 (.cells (penc pl).toArray 107 (0,0))::rpPt r m seg p ps pn d::R)→w'.cell? ⟨r,2,none⟩=some (.pointer (some ⟨p,0,none⟩))∧w'.rangeAt b6 0 (penc pl):=fun w' R hw=>⟨hw.cellP pick1 2 rfl,fun j z hj=>by rw [Nat.zero_add];exact hw.cellP pick0 j (by rw [List.getElem?_toArray];exact hj)⟩
  have HGf:=uQ hGf
  have hG:=hGf _ _ h10
  clear hGf
  refine rP 0 ?_ (y:=mvQ)
  refine rP 1 ?_ (y:=nlQ)
  refine rP 2 ?_ (y:=flQ)
  refine rt 3 (h:=?_)
  refine rg_take 4 evD kRz i3z (tk_loadN (b:=b6) (o:=0) (penc pl) rFz Tryz.underlying107 rfl kRz (fun w hw=>hw.2)) aQ gQ ?_
  clear hG
  refine rg_eff2 5 9 evD evD kRz (fun K hK=>?_) (fun K hK=>?_)
  ·(refine eff_call2 kRz evD evD ?_)
   refine (HR.out _ _ (Ro.os HH.out) (h10.sb:Sat w0 _ (LogRep p m L::MedRep m M::pt b6 (.cells (penc pl).toArray 107 (0,0))::rpPt r m seg p ps pn d::pt b3 (.cells (bys k).toArray 30 (0,0))::TabML pn mp B::F))).mono ?_
   rintro ee w11 ⟨v,rfl,da,dc,rfl,h11⟩
   refine hK _ _ (.inl rfl) ?_
   clear hK h10
   refine rP 6 ?_ (y:=mvQ)
   refine rP 7 ?_ (y:=(yl_extract evD rnD))
   refine rP 8 ?_ (y:=(yl_extract evD rnD))
   refine rg_eff 9 evD kRz (fun K hK=>?_)
   refine eff_alloc (zEnt) h11 rfl ?_
   intro b8 w12 h12
   refine hK _ _ (.inr (.inl (HGf.out _ _ (h12.sb:Sat w0 w12 (pt b6 (.cells (penc pl).toArray 107 (0,0))::rpPt r m seg p ps pn d::pt b8 (.cells zeroEntV.cells 137 (0,0))::bsl (.slice da x.data.length dc) x.data::LogRep p m L::MedRep m M::pt b3 (.cells (bys k).toArray 30 (0,0))::TabML pn mp B::F))))) ?_
   clear hK h11
   refine rg_eff 10 evD kRz (fun K hK=>?_)
   refine eff_store (cs':=entA x (.slice da x.data.length dc)) (v:= .agg (entA x (.slice da x.data.length dc))) h12 evD evD (by exact putsAt_all (show (entA Frm.zeroE (.slice none 0 0)).size=(entA x (.slice da x.data.length dc)).size by rw [entA_size _ _ Hx.out];rfl)) upd0 (show 0+(entA x (.slice da x.data.length dc)).size≤(entA Frm.zeroE (.slice none 0 0)).size by rw [entA_size _ _ Hx.out];exact Nat.le_refl _) (show _=some (entA x (.slice da x.data.length dc)).size by rw [entA_size _ _ Hx.out];exact infoEntSize) (entA_one _ _ _ _) ?_
   intro w13 h13
   refine hK _ _ (.inl rfl) ?_
   clear hK h12
   refine rP 11 ?_ (y:=asQ)
   refine wpL_done kRz ?_
   go_wp2_with fail
   go_ret2
   exact ⟨_,rfl,rfl,h13.sb⟩
  ·refine eff_alloc (zEnt) h10 rfl ?_
   intro b8 w11 h11
   refine hK _ _ (.inr (.inl (HGf.out _ _ (h11.sb:Sat w0 w11 (pt b6 (.cells (penc pl).toArray 107 (0,0))::rpPt r m seg p ps pn d::pt b8 (.cells zeroEntV.cells 137 (0,0))::pt b3 (.cells (bys k).toArray 30 (0,0))::TabML pn mp B::LogRep p m L::MedRep m M::F))))) ?_
   clear hK h10
   refine rg_eff 5 evD kRz (fun K hK=>?_)
   (refine eff_call2 kRz evD evD ?_)
   refine (HR.out _ _ (Ro.os HH.out) (h11.sb:Sat w0 _ (LogRep p m L::MedRep m M::pt b8 (.cells zeroEntV.cells 137 (0,0))::pt b6 (.cells (penc pl).toArray 107 (0,0))::rpPt r m seg p ps pn d::pt b3 (.cells (bys k).toArray 30 (0,0))::TabML pn mp B::F))).mono ?_
   rintro ee w12 ⟨v,rfl,da,dc,rfl,h12⟩
   refine hK _ _ (.inl rfl) ?_
   clear hK h11
   refine rP 6 ?_ (y:=mvQ)
   refine rP 7 ?_ (y:=(yl_extract evD rnD))
   refine rP 8 ?_ (y:=(yl_extract evD rnD))
   replace h12:Sat w0 w12 (pt b8 (.cells zeroEntV.cells 137 (0,0))::bsl (.slice da x.data.length dc) x.data::LogRep p m L::MedRep m M::pt b6 (.cells (penc pl).toArray 107 (0,0))::rpPt r m seg p ps pn d::pt b3 (.cells (bys k).toArray 30 (0,0))::TabML pn mp B::F):=h12.sb
   refine rg_eff 10 evD kRz (fun K hK=>?_)
   refine eff_store (cs':=entA x (.slice da x.data.length dc)) (v:= .agg (entA x (.slice da x.data.length dc))) h12 evD evD (by exact putsAt_all (show (entA Frm.zeroE (.slice none 0 0)).size=(entA x (.slice da x.data.length dc)).size by rw [entA_size _ _ Hx.out];rfl)) upd0 (show 0+(entA x (.slice da x.data.length dc)).size≤(entA Frm.zeroE (.slice none 0 0)).size by rw [entA_size _ _ Hx.out];exact Nat.le_refl _) (show _=some (entA x (.slice da x.data.length dc)).size by rw [entA_size _ _ Hx.out];exact infoEntSize) (entA_one _ _ _ _) ?_
   intro w13 h13
   refine hK _ _ (.inl rfl) ?_
   clear hK h12
   refine rP 11 ?_ (y:=asQ)
   refine wpL_done kRz ?_
   go_wp2_with fail
   go_ret2
   exact ⟨_,rfl,rfl,h13.sb⟩
set_option maxRecDepth 20000 in
theorem rpgetY_c (hB:B≤268435000) (hk:k.length=32) (pl:Seg.Plc) (hm:mp k=some pl) (hH:Ro w0 F Half) (hL:L.Ok) (hM:M.Ok K) (h1 : -9223372036854775808≤pl.at_∧pl.at_≤9223372036854775807) (h2 : -9223372036854775808≤pl.size∧pl.size≤9223372036854775807) (data:Frm.Bs) (hdl:data.length≤140737488355328) (hr:L.read M pl=(⟨0,k,data⟩,0)) (h:Sat w0 w (rpPt r m seg p ps pn d::TabML pn mp B::LogRep p m L::MedRep m M::F)) :
  Calls Tryz.prog 32 #[ptr r,.agg (bys k).toArray] w (Rtn fun v w'=>∃ bv a n c,v = .tuple #[bv,errno 0]∧bv = .slice a n c∧Sat w0 w' (bsl bv data::rpPt r m seg p ps pn d::TabML pn mp B::LogRep p m L::MedRep m M::F)):=by
 have Hk:=uQ hk;have Hks:=uQ (show (bys k).length=32 by rw [bys_len,hk])
 have HT:=uQ (fun (w':World) (R:List HProp) (hw:Sat w0 w' (TabML pn mp B::R))=>getL_c hB hk hw)
 rw [hm,Option.getD_some,Option.isSome_some]at HT
 have HH:=uQ hH
 have HR:=uQ (fun (w':World) (R:List HProp) (hh:Ro w0 R Half) (hw:Sat w0 w' (LogRep p m L::MedRep m M::R))=>lread_c hh hL hM pl h1 h2 hw)
 rw [hr]at HR
 have Hdl:=uQ hdl
 clear hk hB hm hH hL hM h1 h2 hr hdl
 go_enter Tryz.func32,Tryz.ntmps32
 go_wp2_with (with_reducible apply at_box)
 refine ⟨wl_box h evD evD ?_⟩
 intro b3 w3 h3
 have h4:Sat w0 w3 (rpPt r m seg p ps pn d::pt b3 (.cells (bys k).toArray 30 (0,0))::TabML pn mp B::LogRep p m L::MedRep m M::F):=h3.sb
 clear h h3
 go_wp2_with fail
 refine (rokY_c h4).mono ?_
 rintro ee w5 ⟨v,rfl,rfl,rfl⟩
 go_wp2_with fail
 have h5:=h4.drew
 clear h4
 refine wpL_begin [5,6,7,8,10,11] (fun w'=>w'.cell? ⟨r,4,none⟩=some (.pointer (some ⟨pn,0,none⟩))∧w'.rangeAt b3 0 (bys k)) kRz ?_
 have hGf:∀ (w':World) (R:List HProp),Sat w0 w' (rpPt r m seg p ps pn d::pt b3 (.cells (bys k).toArray 30 (0,0))::R)→w'.cell? ⟨r,4,none⟩=some (.pointer (some ⟨pn,0,none⟩))∧w'.rangeAt b3 0 (bys k):=fun w' R hw=>⟨hw.cellP pick0 4 rfl,fun j z hj=>by rw [Nat.zero_add];exact hw.cellP pick1 j (by rw [List.getElem?_toArray];exact hj)⟩
 have HGf:=uQ hGf
 have hG:=hGf _ _ h5
 clear hGf
 refine rP 0 ?_ (y:=mvQ)
 refine rP 1 ?_ (y:=nlQ)
 refine rP 2 ?_ (y:=flQ)
 refine rt 3 (h:=?_)
 refine rg_take 4 evD kRz i3z (tk_loadN (b:=b3) (o:=0) (bys k) rFz Tryz.underlying30 rfl (by rw [Hks.out];kernel_rfl) (fun w hw=>hw.2)) aQ gQ ?_
 clear hG
 refine rg_eff2 5 9 evD evD kRz (fun K hK=>?_) (fun K hK=>?_)
 focus
  (refine eff_call2 kRz evD evD ?_)
  refine (HT.out _ _ (h5.sb:Sat w0 _ (TabML pn mp B::rpPt r m seg p ps pn d::pt b3 (.cells (bys k).toArray 30 (0,0))::LogRep p m L::MedRep m M::F))).mono ?_
  rintro ee w6 ⟨v,rfl,rfl,h6⟩
  refine hK _ _ (.inl rfl) ?_
  clear hK h5
  refine rP 6 ?_ (y:=mvQ)
  refine rP 7 ?_ (y:=(yl_extract evD rnD))
  refine rP 8 ?_ (y:=(yl_extract evD rnD))
  refine rg_eff 9 evD kRz (fun K hK=>?_)
  refine eff_alloc (zValL) h6 rfl ?_
  intro b6 w7 h7
  refine hK _ _ (.inr (.inl (HGf.out _ _ (h7.sb:Sat w0 w7 (rpPt r m seg p ps pn d::pt b3 (.cells (bys k).toArray 30 (0,0))::pt b6 (.cells (penc Seg.Plc.zero).toArray 107 (0,0))::TabML pn mp B::LogRep p m L::MedRep m M::F))))) ?_
  clear hK h6
  have h8:Sat w0 w7 (pt b6 (.cells (penc Seg.Plc.zero).toArray 107 (0,0))::rpPt r m seg p ps pn d::pt b3 (.cells (bys k).toArray 30 (0,0))::TabML pn mp B::LogRep p m L::MedRep m M::F):=h7.sb
  clear h7
 rotate_left
 focus
  refine eff_alloc (zValL) h5 rfl ?_
  intro b6 w6 h6
  refine hK _ _ (.inr (.inl (HGf.out _ _ (h6.sb:Sat w0 w6 (rpPt r m seg p ps pn d::pt b3 (.cells (bys k).toArray 30 (0,0))::pt b6 (.cells (penc Seg.Plc.zero).toArray 107 (0,0))::TabML pn mp B::LogRep p m L::MedRep m M::F))))) ?_
  clear hK h5
  refine rg_eff 5 evD kRz (fun K hK=>?_)
  (refine eff_call2 kRz evD evD ?_)
  refine (HT.out _ _ (h6.sb:Sat w0 _ (TabML pn mp B::pt b6 (.cells (penc Seg.Plc.zero).toArray 107 (0,0))::rpPt r m seg p ps pn d::pt b3 (.cells (bys k).toArray 30 (0,0))::LogRep p m L::MedRep m M::F))).mono ?_
  rintro ee w7 ⟨v,rfl,rfl,h7⟩
  refine hK _ _ (.inl rfl) ?_
  clear hK h6
  refine rP 6 ?_ (y:=mvQ)
  refine rP 7 ?_ (y:=(yl_extract evD rnD))
  refine rP 8 ?_ (y:=(yl_extract evD rnD))
  have h8:Sat w0 w7 (pt b6 (.cells (penc Seg.Plc.zero).toArray 107 (0,0))::rpPt r m seg p ps pn d::pt b3 (.cells (bys k).toArray 30 (0,0))::TabML pn mp B::LogRep p m L::MedRep m M::F):=h7.sb
  clear h7
 all_goals
  refine rg_eff 10 evD kRz (fun K hK=>?_)
  refine eff_store (cs':=(penc pl).toArray) h8 evD evD rFz upd0 nLz kRz rFz ?_
  intro w9 h9
  refine hK _ _ (.inl rfl) ?_
  clear hK h8
  refine rP 11 ?_ (y:=asQ)
  refine wpL_done kRz ?_
  go_wp2_with fail
  have h10:=h9.drew
  clear h9 HGf
  refine wpL_begin [5,6,7,8,10,11] (fun w'=>w'.cell? ⟨r,2,none⟩=some (.pointer (some ⟨p,0,none⟩))∧w'.rangeAt b6 0 (penc pl)) kRz ?_
  have hGf:∀ (w':World) (R:List HProp),Sat w0 w' (pt b6 (.cells (penc pl).toArray 107 (0,0))::rpPt r m seg p ps pn d::R)→w'.cell? ⟨r,2,none⟩=some (.pointer (some ⟨p,0,none⟩))∧w'.rangeAt b6 0 (penc pl):=fun w' R hw=>⟨hw.cellP pick1 2 rfl,fun j z hj=>by rw [Nat.zero_add];exact hw.cellP pick0 j (by rw [List.getElem?_toArray];exact hj)⟩
  have HGf:=uQ hGf
  have hG:=hGf _ _ h10
  clear hGf
  refine rP 0 ?_ (y:=mvQ)
  refine rP 1 ?_ (y:=nlQ)
  refine rP 2 ?_ (y:=flQ)
  refine rt 3 (h:=?_)
  refine rg_take 4 evD kRz i3z (tk_loadN (b:=b6) (o:=0) (penc pl) rFz Tryz.underlying107 rfl kRz (fun w hw=>hw.2)) aQ gQ ?_
  clear hG
  refine rg_eff2 5 9 evD evD kRz (fun K hK=>?_) (fun K hK=>?_)
  focus
   (refine eff_call2 kRz evD evD ?_)
   refine (HR.out _ _ (Ro.os HH.out) (h10.sb:Sat w0 _ (LogRep p m L::MedRep m M::pt b6 (.cells (penc pl).toArray 107 (0,0))::rpPt r m seg p ps pn d::pt b3 (.cells (bys k).toArray 30 (0,0))::TabML pn mp B::F))).mono ?_
   rintro ee w11 ⟨v,rfl,da,dc,rfl,h11⟩
   refine hK _ _ (.inl rfl) ?_
   clear hK h10
   refine rP 6 ?_ (y:=mvQ)
   refine rP 7 ?_ (y:=(yl_extract evD rnD))
   refine rP 8 ?_ (y:=(yl_extract evD rnD))
   refine rg_eff 9 evD kRz (fun K hK=>?_)
   refine eff_alloc (zEnt) h11 rfl ?_
   intro b8 w12 h12
   refine hK _ _ (.inr (.inl (HGf.out _ _ (h12.sb:Sat w0 w12 (pt b6 (.cells (penc pl).toArray 107 (0,0))::rpPt r m seg p ps pn d::pt b8 (.cells zeroEntV.cells 137 (0,0))::bsl (.slice da data.length dc) data::LogRep p m L::MedRep m M::pt b3 (.cells (bys k).toArray 30 (0,0))::TabML pn mp B::F))))) ?_
   clear hK h11
  rotate_left
  focus
   refine eff_alloc (zEnt) h10 rfl ?_
   intro b8 w11 h11
   refine hK _ _ (.inr (.inl (HGf.out _ _ (h11.sb:Sat w0 w11 (pt b6 (.cells (penc pl).toArray 107 (0,0))::rpPt r m seg p ps pn d::pt b8 (.cells zeroEntV.cells 137 (0,0))::pt b3 (.cells (bys k).toArray 30 (0,0))::TabML pn mp B::LogRep p m L::MedRep m M::F))))) ?_
   clear hK h10
   refine rg_eff 5 evD kRz (fun K hK=>?_)
   (refine eff_call2 kRz evD evD ?_)
   refine (HR.out _ _ (Ro.os HH.out) (h11.sb:Sat w0 _ (LogRep p m L::MedRep m M::pt b8 (.cells zeroEntV.cells 137 (0,0))::pt b6 (.cells (penc pl).toArray 107 (0,0))::rpPt r m seg p ps pn d::pt b3 (.cells (bys k).toArray 30 (0,0))::TabML pn mp B::F))).mono ?_
   rintro ee w12 ⟨v,rfl,da,dc,rfl,h12⟩
   refine hK _ _ (.inl rfl) ?_
   clear hK h11
   refine rP 6 ?_ (y:=mvQ)
   refine rP 7 ?_ (y:=(yl_extract evD rnD))
   refine rP 8 ?_ (y:=(yl_extract evD rnD))
   replace h12:Sat w0 w12 (pt b8 (.cells zeroEntV.cells 137 (0,0))::bsl (.slice da data.length dc) data::LogRep p m L::MedRep m M::pt b6 (.cells (penc pl).toArray 107 (0,0))::rpPt r m seg p ps pn d::pt b3 (.cells (bys k).toArray 30 (0,0))::TabML pn mp B::F):=h12.sb
  all_goals
   refine rg_eff 10 evD kRz (fun K hK=>?_)
   refine eff_store (cs':=entA ⟨0,k,data⟩ (.slice da data.length dc)) (v:= .agg (entA ⟨0,k,data⟩ (.slice da data.length dc))) h12 evD evD (by exact putsAt_all (show (entA Frm.zeroE (.slice none 0 0)).size=(entA ⟨0,k,data⟩ (.slice da data.length dc)).size by rw [entA_size _ _ (show (⟨0,k,data⟩:Frm.Ent).key.length=32 from Hk.out)];rfl)) upd0 (show 0+(entA ⟨0,k,data⟩ (.slice da data.length dc)).size≤(entA Frm.zeroE (.slice none 0 0)).size by rw [entA_size _ _ (show (⟨0,k,data⟩:Frm.Ent).key.length=32 from Hk.out)];exact Nat.le_refl _) (show _=some (entA ⟨0,k,data⟩ (.slice da data.length dc)).size by rw [entA_size _ _ (show (⟨0,k,data⟩:Frm.Ent).key.length=32 from Hk.out)];exact infoEntSize) (entA_one _ _ _ _) ?_
   intro w13 h13
   refine hK _ _ (.inl rfl) ?_
   clear hK h12
   refine rP 11 ?_ (y:=asQ)
   refine wpL_done kRz ?_
   have e0:w13.cell? ⟨b8,0,none⟩=some (.int .i64 0):=h13.cellP pick0 0 (by unfold entA;rw [List.getElem?_toArray];rfl)
   have f1:w13.rangeAt b8 1 (bys k):=fun j z hj=>h13.cellP pick0 (1+j) (by unfold entA;rw [List.getElem?_toArray];exact entL_key (⟨0,k,data⟩:Frm.Ent) _ hj)
   have f2:w13.rangeAt b3 0 (bys k):=fun j z hj=>by rw [Nat.zero_add];exact (h13.pk (A:=pt b3 (.cells (bys k).toArray 30 (0,0)))).cellAt j z (by rw [List.getElem?_toArray];exact hj)
   have e33:w13.cell? ⟨b8,33,none⟩=some (.slice da data.length dc):=h13.cellP pick0 33 (by unfold entA;rw [List.getElem?_toArray];exact entL_at33 (⟨0,k,data⟩:Frm.Ent) _ Hk.out)
   have hnk:∀ w,(binOp .neq 30 (.agg (bys k).toArray) (.agg (bys k).toArray)).run Tryz.prog w = .ok (.bool false) w:=fun w=>by rw [neq_key k k Hk.out Hk.out w];simp
   have hcl:=clone_c h13 (Sat.rd (h13.sb:Sat w0 w13 (bsl (.slice da data.length dc) data::F))) Hdl.out
   clear HGf HH HR HT
   go_wp2_with (first
    |((with_reducible refine at_load ⟨?_⟩);first
     |refine wl_loadW (b:=b8) (o:=1) (bys k) rFz f1 Tryz.underlying30 rfl (by rw [Hks.out];kernel_rfl) ?_
     |refine wl_loadW (b:=b3) (o:=0) (bys k) rFz f2 Tryz.underlying30 rfl (by rw [Hks.out];kernel_rfl) ?_)
    |((with_reducible apply ug_load);refine ⟨?_⟩;refine ug_op (by first|rfl|kernel_rfl) ?_))
   refine hcl.mono ?_
   rintro ee w14 ⟨v,rfl,h14,a,n,c,rfl⟩
   clear hcl
   go_wp2_with fail
   go_ret2
   exact ⟨_,rfl,_,a,n,c,rfl,rfl,h14.sb⟩
end
end Go.Proofs.YtlimfgdbfadohaaGreatDoor
namespace Go.Rep
open Go.Frm (Bs)
structure Qal where
 kind:Int
 key:Bs
 data:Bs
 n:Int
 m:Int
 l:List Int
def Qal.cut (c:Qal):Qal:=⟨c.kind,c.key,c.data.take 200,c.n,c.m,c.l.take 60⟩
end Go.Rep
namespace Go.Proofs.YtlimfgdbfadohaaGreatDoor
open Go Go.Sl Go.Med Go.MapKept Go.RowKit
section
variable {w0 w:World}{F R:List HProp}{v bv dv x lv:Value}
end
abbrev PV:=Frm.Bs×Frm.Bs×Value
theorem neqG_key (x y:Operand) (k l:Frm.Bs) (hk:k.length=32) (hl:l.length=32) (w:World):((do eqGuard .neq 30 x y (.agg (bys k).toArray) (.agg (bys l).toArray);binOp .neq 30 (.agg (bys k).toArray) (.agg (bys l).toArray)):Sem Value).run Tryz.prog w = .ok (.bool (!decide (k=l))) w:=by
 have h:=neq_key k l hk hl w
 simp [eqGuard,Sem.run_bind,h]
section
variable {w0 w:World}{F:List HProp}{av bv mv:Value}
end
section
variable {w0 w:World}{F:List HProp}{A1 A2 A3 A4 B1 B2 B3 B4:HProp}{s r t:Nat}{k b u:Frm.Bs}{bv:Value}
def GetE (w0:World) (F:List HProp) (A1 A2 A3 A4:HProp) (r:Nat) (k:Frm.Bs) (e:Int):Prop:=∀ (w':World) (R:List HProp),Sub R F→Sat w0 w' (A1::A2::A3::A4::R)→Calls Tryz.prog 32 #[ptr r,.agg (bys k).toArray] w' (Rtn fun v w''=>v = .tuple #[.slice none 0 0,errno e]∧Sat w0 w'' (A1::A2::A3::A4::R))
def GetY (w0:World) (F:List HProp) (A1 A2 A3 A4:HProp) (r:Nat) (k d:Frm.Bs):Prop:=∀ (w':World) (R:List HProp),Sub R F→Sat w0 w' (A1::A2::A3::A4::R)→Calls Tryz.prog 32 #[ptr r,.agg (bys k).toArray] w' (Rtn fun v w''=>∃ (bv:Value) (a:Option Addr) (n c:Nat),v = .tuple #[bv,errno 0]∧bv = .slice a n c∧Sat w0 w'' (bsl bv d::A1::A2::A3::A4::R))
def SGetE (w0:World) (F:List HProp) (A1 A2 A3 A4:HProp) (s r t:Nat) (k:Frm.Bs) (e:Int):Prop:=∀ (w':World) (R:List HProp),Sub R F→Sat w0 w' (stoPt s r t false::A1::A2::A3::A4::R)→Calls Tryz.prog 11 #[ptr s,.agg (bys k).toArray] w' (Rtn fun v w''=>v = .tuple #[.slice none 0 0,errno e]∧Sat w0 w'' (stoPt s r t false::A1::A2::A3::A4::R))
def SGetY (w0:World) (F:List HProp) (A1 A2 A3 A4:HProp) (s r t:Nat) (k u:Frm.Bs):Prop:=∀ (w':World) (R:List HProp),Sub R F→Sat w0 w' (stoPt s r t false::A1::A2::A3::A4::R)→Calls Tryz.prog 11 #[ptr s,.agg (bys k).toArray] w' (Rtn fun v w''=>∃ (a:Option Addr) (n c:Nat),v = .tuple #[.slice a n c,errno 0]∧Sat w0 w'' (bsl (.slice a n c) u::stoPt s r t false::A1::A2::A3::A4::R))
set_option maxRecDepth 20000 in
theorem sgetE_c {e:Int} (he:e≠0) (hk:k.length=32) (hg:GetE w0 F A1 A2 A3 A4 r k e):SGetE w0 F A1 A2 A3 A4 s r t k e:=by
 intro w R hR h
 have Hks:=uQ (show (bys k).length=32 by rw [bys_len,hk])
 have he':¬ e=0:=he
 have Hg:=uQ hg;have HR:=uQ hR
 clear hk hg hR he
 go_enter Tryz.func11,Tryz.ntmps11
 go_wp2_with (with_reducible apply at_box)
 refine ⟨wl_box h evD evD ?_⟩
 intro b3 w3 h3
 replace h3:Sat w0 w3 (stoPt s r t false::pt b3 (.cells (bys k).toArray 30 (0,0))::A1::A2::A3::A4::R):=h3.pick1
 clear h
 have hok:=sok_c h3
 go_wp2_with fail
 refine hok.mono ?_
 rintro ee w4 ⟨v,rfl,rfl,rfl⟩
 clear hok
 go_wp2_with fail
 have h5:=h3.drew
 have hG:World.cell? _ ⟨s,0,none⟩=some (ptr r)∧World.rangeAt _ b3 0 (bys k):=⟨h5.cellP pick0 0 rfl,fun j v hj=>h5.cellP pick1 (0+j) (by simpa using hj)⟩
 clear h3
 refine wpL_begin [5,6,7,8,9,10] (fun w'=>w'.cell? ⟨s,0,none⟩=some (ptr r)∧w'.rangeAt b3 0 (bys k)) kRz ?_
 refine rP 0 ?_ (y:=mvQ)
 refine rP 1 ?_ (y:=nlQ)
 refine rP 2 ?_ (y:=flQ)
 refine rt 3 (h:=?_)
 refine rg_take 4 evD kRz i3z (tk_loadN (b:=b3) (o:=0) (bys k) rFz Tryz.underlying30 rfl (by rw [Hks.out];kernel_rfl) (fun w hw=>hw.2)) aQ gQ ?_
 clear hG
 refine rg_eff 5 evD kRz (fun K hK=>?_)
 (refine eff_call2 kRz evD evD ?_)
 refine (Hg.out _ (stoPt s r t false::pt b3 (.cells (bys k).toArray 30 (0,0))::R) (sub_drop (sub_drop HR.out)) (h5.sb)).mono ?_
 rintro ee w6 ⟨v,rfl,rfl,h6⟩
 refine hK _ _ (.inl rfl) ?_
 clear hK h5
 refine rP 6 ?_ (y:=mvQ)
 refine rP 7 ?_ (y:=(yl_extract evD rnD))
 refine rP 8 ?_ (y:=(yl_extract evD rnD))
 refine rP 9 ?_ (y:=asQ)
 refine rP 10 ?_ (y:=asQ)
 refine wpL_done kRz ?_
 go_wp2_with fail
 go_ret2
 exact ⟨_,rfl,rfl,h6.sb⟩
set_option maxRecDepth 20000 in
theorem sgetY_c (hk:k=Sha.sum u) (hu:u.length≤250) (hSK:Ro w0 F ShaK) (hg:GetY w0 F A1 A2 A3 A4 r k (Lz.wrapB u)):SGetY w0 F A1 A2 A3 A4 s r t k u:=by
 intro w R hR h
 have hkl:k.length=32:=by rw [hk];exact sha_len u
 have Hks:=uQ (show (bys k).length=32 by rw [bys_len,hkl])
 have hbin:∀ x y w,((do eqGuard .neq 30 x y (.agg (bys k).toArray) (.agg (bys k).toArray);binOp .neq 30 (.agg (bys k).toArray) (.agg (bys k).toArray)):Sem Value).run Tryz.prog w = .ok (.bool false) w:=fun x y w=>by rw [neqG_key x y _ _ hkl hkl];simp
 have Hsha:=uQ (fun (w':World) (G:List HProp) (bv:Value) (hs:RS w0 G bv u) (hk:Ro w0 G ShaK) (hw:Sat w0 w' G)=>shaSum_c oQ hs hk hw)
 rw [← hk]at Hsha
 have Huw:=uQ (fun (w':World) (G:List HProp) (bv:Value) (hs:RS w0 G bv (Lz.wrapB u)) (hw:Sat w0 w' G)=>unwrap_c hu hs hw)
 have Hg:=uQ hg;have HR:=uQ hR;have HSK:=uQ (Ro.of_sub hSK hR)
 generalize Lz.wrapB u=W at *
 clear hk hg hR hu hSK hkl
 go_enter Tryz.func11,Tryz.ntmps11
 go_wp2_with (with_reducible apply at_box)
 refine ⟨wl_box h evD evD ?_⟩
 intro b3 w3 h3
 replace h3:Sat w0 w3 (stoPt s r t false::pt b3 (.cells (bys k).toArray 30 (0,0))::A1::A2::A3::A4::R):=h3.pick1
 clear h
 have hok:=sok_c h3
 go_wp2_with fail
 refine hok.mono ?_
 rintro ee w4 ⟨v,rfl,rfl,rfl⟩
 clear hok
 go_wp2_with fail
 have h5:=h3.drew
 have hG:World.cell? _ ⟨s,0,none⟩=some (ptr r)∧World.rangeAt _ b3 0 (bys k):=⟨h5.cellP pick0 0 rfl,fun j v hj=>h5.cellP pick1 (0+j) (by simpa using hj)⟩
 clear h3
 refine wpL_begin [5,6,7,8,9,10] (fun w'=>w'.cell? ⟨s,0,none⟩=some (ptr r)∧w'.rangeAt b3 0 (bys k)) kRz ?_
 refine rP 0 ?_ (y:=mvQ)
 refine rP 1 ?_ (y:=nlQ)
 refine rP 2 ?_ (y:=flQ)
 refine rt 3 (h:=?_)
 refine rg_take 4 evD kRz i3z (tk_loadN (b:=b3) (o:=0) (bys k) rFz Tryz.underlying30 rfl (by rw [Hks.out];kernel_rfl) (fun w hw=>hw.2)) aQ gQ ?_
 clear hG
 refine rg_eff 5 evD kRz (fun K hK=>?_)
 (refine eff_call2 kRz evD evD ?_)
 refine (Hg.out _ (stoPt s r t false::pt b3 (.cells (bys k).toArray 30 (0,0))::R) (sub_drop (sub_drop HR.out)) (h5.sb)).mono ?_
 rintro ee w6 ⟨v,rfl,bv,wa,wn,wc,rfl,rfl,h6⟩
 refine hK _ _ (.inl rfl) ?_
 clear hK h5
 refine rP 6 ?_ (y:=mvQ)
 refine rP 7 ?_ (y:=(yl_extract evD rnD))
 refine rP 8 ?_ (y:=(yl_extract evD rnD))
 refine rP 9 ?_ (y:=asQ)
 refine rP 10 ?_ (y:=asQ)
 refine wpL_done kRz ?_
 have huw:=Huw.out w6 _ _ (RS.of_bsl h6) h6
 clear Huw
 go_wp2_with fail
 refine huw.mono ?_
 rintro ee w7 ⟨v,rfl,ra,rn,rc,rfl,h7⟩
 clear huw h6
 go_wp2_with fail
 have h8:=h7.drew
 have hG:World.rangeAt _ b3 0 (bys k):=fun j v hj=>h8.cellP (pick_there (pick_there (pick_there (pick_there (pick_there (pick_there (pick_there pick0))))))) (0+j) (by simpa using hj)
 clear h7
 refine wpL_begin [3] (fun w'=>w'.rangeAt b3 0 (bys k)) kRz ?_
 refine rP 0 ?_ (y:=mvQ)
 refine rg_take 2 evD kRz i3z (tk_loadN (b:=b3) (o:=0) (bys k) rFz Tryz.underlying30 rfl (by rw [Hks.out];kernel_rfl) (fun w hw=>hw)) aQ gQ ?_
 clear hG
 refine rg_eff 1 evD kRz (fun K hK=>?_)
 (refine eff_call1 kRz evD ?_)
 refine (Hsha.out _ _ _ (RS.of_bsl h8) (Ro.os HSK.out) h8).mono ?_
 rintro ee w9 ⟨v,rfl,rfl,h9⟩
 refine hK _ _ (.inr (.inl (fun j v hj=>h9.cellP (pick_there (pick_there (pick_there (pick_there (pick_there (pick_there (pick_there pick0))))))) (0+j) (by simpa using hj)))) ?_
 clear hK h8
 refine rP 3 ?_ (y:=(yl_bin evD evD (hbin _ _)))
 refine wpL_done kRz ?_
 clear hbin
 have Hsh:=uQ (h9.sb:Sat w0 w9 (bsl (.slice ra rn rc) u::stoPt s r t false::A1::A2::A3::A4::R))
 clear h9
 go_wp2_with fail
 go_ret2
 exact ⟨_,rfl,ra,rn,rc,rfl,Hsh.out⟩
end
section
variable {w0 w:World}{F:List HProp}{A1 A2 A3 A4 B1 B2 B3 B4:HProp}{s r t:Nat}{k b u:Frm.Bs}{bv:Value}
def HasB (w0:World) (A1 A2 A3 A4:HProp) (r:Nat) (k:Frm.Bs) (hb:Bool):Prop:=∀ (w':World) (R:List HProp),Sat w0 w' (A1::A2::A3::A4::R)→Calls Tryz.prog 54 #[ptr r,.agg (bys k).toArray] w' (Rtn fun v w''=>v = .bool hb∧Sat w0 w'' (A1::A2::A3::A4::R))
def PutY (w0:World) (F:List HProp) (A1 A2 A3 A4 B1 B2 B3 B4:HProp) (r:Nat) (k W:Frm.Bs):Prop:=∀ (w':World) (R:List HProp) (da:Option Addr) (dc:Nat),Sub R F→Ro w0 R (rdsl 1 (.slice da W.length dc) (bys W))→Sat w0 w' (A1::A2::A3::A4::R)→Calls Tryz.prog 57 #[ptr r,.agg (bys k).toArray,.slice da W.length dc] w' (Rtn fun v w''=>v=errno 0∧Sat w0 w'' (B1::B2::B3::B4::R))
def KeepE (w0:World) (F:List HProp) (A1 A2 A3 A4 B1 B2 B3 B4:HProp) (s r t:Nat) (k:Frm.Bs) (bv:Value) (e:Int):Prop:=∀ (w':World) (R:List HProp),Sub R F→Sat w0 w' (stoPt s r t false::A1::A2::A3::A4::R)→Calls Tryz.prog 24 #[ptr s,.agg (bys k).toArray,bv] w' (Rtn fun v w''=>v=errno e∧Sat w0 w'' (stoPt s r t false::B1::B2::B3::B4::R))
set_option maxRecDepth 20000 in
theorem skeepP_c {hb:Bool} (hk:k.length=32) (hl:b.length≤250) (hr:RS w0 F bv b) (hhas:HasB w0 A1 A2 A3 A4 r k hb) (hget:hb=true→∃ e:Int,e≠0∧e≠12∧SGetE w0 F A1 A2 A3 A4 s r t k e) (hput:PutY w0 F A1 A2 A3 A4 B1 B2 B3 B4 r k (Lz.wrapB b)) :
  KeepE w0 F A1 A2 A3 A4 B1 B2 B3 B4 s r t k bv 0:=by
 intro w R hR h
 have Hks:=uQ (show (bys k).length=32 by rw [bys_len,hk])
 have hinf:(Tryz.prog.info? 30).map (·.size)=some (bys k).toArray.size:=by rw [List.size_toArray,Hks.out];kernel_rfl
 have Hwr:=uQ (fun (w':World) (G:List HProp) (hs:RS w0 G bv b) (hw:Sat w0 w' G)=>wrap_c hl hs hw)
 have HH:=uQ hhas;have HG:=uQ hget;have HP:=uQ hput;have HR:=uQ hR;have Hr:=uQ (hr.more hR)
 generalize Lz.wrapB b=W at *
 obtain ⟨ba,bc,rfl,y1,y2⟩:=hr.len (h.sub (sub_drop (sub_drop (sub_drop (sub_drop (sub_drop hR))))):Sat w0 w F)
 clear hk hl hr hhas hget hput hR y1 y2
 go_enter Tryz.func24,Tryz.ntmps24
 go_wp2_with (with_reducible apply at_box)
 refine ⟨wl_box h evD evD ?_⟩
 intro b4 w4 h4
 replace h4:Sat w0 w4 (stoPt s r t false::pt b4 (.cells (bys k).toArray 30 (0,0))::A1::A2::A3::A4::R):=h4.pick1
 clear h
 go_wp2_with fail
 have h5:=h4.drew
 have hG:World.cell? _ ⟨s,0,none⟩=some (ptr r)∧World.rangeAt _ b4 0 (bys k):=⟨h5.cellP pick0 0 rfl,fun j v hj=>h5.cellP pick1 (0+j) (by simpa using hj)⟩
 clear h4
 refine wpL_begin [5] (fun w'=>w'.cell? ⟨s,0,none⟩=some (ptr r)∧w'.rangeAt b4 0 (bys k)) kRz ?_
 refine rP 0 ?_ (y:=mvQ)
 refine rP 1 ?_ (y:=nlQ)
 refine rP 2 ?_ (y:=flQ)
 refine rt 3 (h:=?_)
 refine rg_take 4 evD kRz i3z (tk_loadN (b:=b4) (o:=0) (bys k) rFz Tryz.underlying30 rfl (by rw [Hks.out];kernel_rfl) (fun w hw=>hw.2)) aQ gQ ?_
 clear hG
 refine rg_eff 5 evD kRz (fun K hK=>?_)
 (refine eff_call2 kRz evD evD ?_)
 refine (HH.out _ (stoPt s r t false::pt b4 (.cells (bys k).toArray 30 (0,0))::R) (h5.sb)).mono ?_
 rintro ee w6 ⟨v,rfl,rfl,h6'⟩
 refine hK _ _ (.inl rfl) ?_
 clear hK h5
 have h6:Sat w0 w6 (stoPt s r t false::A1::A2::A3::A4::pt b4 (.cells (bys k).toArray 30 (0,0))::R):=h6'.sb
 clear h6' HH
 refine wpL_done kRz ?_
 cases hb
 case' true=>
  obtain ⟨e,e0,e12,hge⟩:=HG.out rfl
  have z1:¬ e=12:=e12
  have z2:¬ e=0:=e0
  have z3:(e==12)=false:=beq_eq_false_iff_ne.2 e12
  have z4:(e==0)=false:=beq_eq_false_iff_ne.2 e0
  have hge2:=hge w6 _ (sub_drop HR.out) h6
  clear hge e0 e12 HG
  go_wp2_with ((with_reducible refine at_load ⟨?_⟩);refine wl_loadA (cs:=(bys k).toArray) h6 rFz (pick_there (pick_there (pick_there (pick_there (pick_there pick0))))) Tryz.underlying30 rfl hinf ?_)
  refine hge2.mono ?_
  rintro ee w7 ⟨v,rfl,rfl,h7⟩
  have e2:w7.cell? ⟨s,2,none⟩=some (.bool false):=h7.cellP pick0 2 rfl
  clear hge2 h6
  go_wp2_with fail
  clear z1 z2 z3 z4
 case' false=>
  have h7:=h6
  have e2:w6.cell? ⟨s,2,none⟩=some (.bool false):=h7.cellP pick0 2 rfl
  clear HG h6
  go_wp2_with fail
 all_goals
  refine (Hwr.out _ _ (Hr.out.more sbD) h7).mono ?_
  rintro ee w8 ⟨v,rfl,ra,rn,rc,rfl,h8⟩
  obtain ⟨_,_,_,q0,q1,q2,q3⟩:=bsl_cap' h8
  cases q0
  subst q3
  clear h7 e2 q1 q2
  go_wp2_with fail
  have h9:=h8.drew
  have hG:World.cell? _ ⟨s,0,none⟩=some (ptr r)∧World.rangeAt _ b4 0 (bys k):=⟨h9.cellP pick1 0 rfl,fun j v hj=>h9.cellP pick6 (0+j) (by simpa using hj)⟩
  clear h8
  refine wpL_begin [6,7] (fun w'=>w'.cell? ⟨s,0,none⟩=some (ptr r)∧w'.rangeAt b4 0 (bys k)) kRz ?_
  refine rP 0 ?_ (y:=mvQ)
  refine rP 1 ?_ (y:=nlQ)
  refine rP 2 ?_ (y:=flQ)
  refine rt 3 (h:=?_)
  refine rg_take 4 evD kRz i3z (tk_loadN (b:=b4) (o:=0) (bys k) rFz Tryz.underlying30 rfl (by rw [Hks.out];kernel_rfl) (fun w hw=>hw.2)) aQ gQ ?_
  clear hG
  refine rP 5 ?_ (y:=mvQ)
  refine rg_eff 6 evD kRz (fun K hK=>?_)
  (refine eff_call3 kRz evD evD evD ?_)
  refine (HP.out _ (bsl (.slice ra W.length rc) W::stoPt s r t false::pt b4 (.cells (bys k).toArray 30 (0,0))::R) ra rc (sub_drop (sub_drop (sub_drop HR.out))) (Ro.of_pick (Ro.bsl _ _) pick0) (h9.sb)).mono ?_
  rintro ee w10 ⟨v,rfl,rfl,h10⟩
  refine hK _ _ (.inl rfl) ?_
  clear hK h9
  refine rP 7 ?_ (y:=asQ)
  refine wpL_done kRz ?_
  go_wp2_with fail
  go_ret
  exact ⟨_,rfl,rfl,h10.sb⟩
set_option maxRecDepth 20000 in
theorem skeepY_c (hk:k.length=32) (hr:RS w0 F bv b) (hhas:HasB w0 A1 A2 A3 A4 r k true) (hget:SGetY w0 F A1 A2 A3 A4 s r t k u) :
  KeepE w0 F A1 A2 A3 A4 A1 A2 A3 A4 s r t k bv (if u=b then 0 else 19):=by
 intro w R hR h
 obtain ⟨e0,he0⟩:∃ e:Int,(if u=b then (0:Int) else 19)=e:=⟨_,rfl⟩
 rw [he0]
 have He:=uQ he0
 have Hks:=uQ (show (bys k).length=32 by rw [bys_len,hk])
 have hinf:(Tryz.prog.info? 30).map (·.size)=some (bys k).toArray.size:=by rw [List.size_toArray,Hks.out];kernel_rfl
 have HH:=uQ hhas;have HG:=uQ hget;have HR:=uQ hR;have Hr:=uQ (hr.more hR)
 clear hk hr hhas hget hR he0
 go_enter Tryz.func24,Tryz.ntmps24
 go_wp2_with (with_reducible apply at_box)
 refine ⟨wl_box h evD evD ?_⟩
 intro b4 w4 h4
 replace h4:Sat w0 w4 (stoPt s r t false::pt b4 (.cells (bys k).toArray 30 (0,0))::A1::A2::A3::A4::R):=h4.pick1
 clear h
 go_wp2_with fail
 have h5:=h4.drew
 have hG:World.cell? _ ⟨s,0,none⟩=some (ptr r)∧World.rangeAt _ b4 0 (bys k):=⟨h5.cellP pick0 0 rfl,fun j v hj=>h5.cellP pick1 (0+j) (by simpa using hj)⟩
 clear h4
 refine wpL_begin [5] (fun w'=>w'.cell? ⟨s,0,none⟩=some (ptr r)∧w'.rangeAt b4 0 (bys k)) kRz ?_
 refine rP 0 ?_ (y:=mvQ)
 refine rP 1 ?_ (y:=nlQ)
 refine rP 2 ?_ (y:=flQ)
 refine rt 3 (h:=?_)
 refine rg_take 4 evD kRz i3z (tk_loadN (b:=b4) (o:=0) (bys k) rFz Tryz.underlying30 rfl (by rw [Hks.out];kernel_rfl) (fun w hw=>hw.2)) aQ gQ ?_
 clear hG
 refine rg_eff 5 evD kRz (fun K hK=>?_)
 (refine eff_call2 kRz evD evD ?_)
 refine (HH.out _ (stoPt s r t false::pt b4 (.cells (bys k).toArray 30 (0,0))::R) (h5.sb)).mono ?_
 rintro ee w6 ⟨v,rfl,rfl,h6'⟩
 refine hK _ _ (.inl rfl) ?_
 clear hK h5
 have h6:Sat w0 w6 (stoPt s r t false::A1::A2::A3::A4::pt b4 (.cells (bys k).toArray 30 (0,0))::R):=h6'.sb
 clear h6' HH
 refine wpL_done kRz ?_
 have hge:=HG.out w6 _ (sub_drop HR.out) h6
 go_wp2_with ((with_reducible refine at_load ⟨?_⟩);refine wl_loadA (cs:=(bys k).toArray) h6 rFz (pick_there (pick_there (pick_there (pick_there (pick_there pick0))))) Tryz.underlying30 rfl hinf ?_)
 refine hge.mono ?_
 rintro ee w7 ⟨v,rfl,ra,rn,rc,rfl,h7⟩
 have heq:=bequal_c u b (Sat.rd h7) (Hr.out.rd _ (h7.sb:Sat w0 w7 R))
 have Hsh:=uQ (h7.sb:Sat w0 w7 (stoPt s r t false::A1::A2::A3::A4::R))
 clear hge h6 h7
 by_cases hub:u=b
 ·rw [decide_eq_true hub]at heq
  have Hub:=uQ hub
  clear hub
  go_wp2_with fail
  refine heq.mono ?_
  rintro ee w8 ⟨v,rfl,rfl,rfl⟩
  clear heq
  go_wp2_with fail
  go_ret
  exact ⟨_,rfl,by rw [← He.out,if_pos Hub.out];rfl,Hsh.out⟩
 ·rw [decide_eq_false hub]at heq
  have Hub:=uQ hub
  clear hub
  go_wp2_with fail
  refine heq.mono ?_
  rintro ee w8 ⟨v,rfl,rfl,rfl⟩
  clear heq
  go_wp2_with fail
  go_ret
  exact ⟨_,rfl,by rw [← He.out,if_neg Hub.out];rfl,Hsh.out⟩
end
section
variable {w0 w:World}{F:List HProp}{A1 A2 A3 A4 B1 B2 B3 B4:HProp}{s r t BR:Nat}{mR:Frm.Bs→Option Rep.Rfc}{x:Rep.Rfc}{b:Frm.Bs}{bv:Value}
theorem run_id0 (w:World):(Instr.build 30 #[]).run Tryz.prog w = .ok (.agg (bys Frm.zero32).toArray) w:=by kernel_rfl
theorem plCnt:placesB Tryz.prog 60=some [(0,1),(1,1)]:=by kernel_rfl
theorem run_cnt (a b:Int) (w:World):(Instr.build 60 #[(0,.int .i64 a),(1,.int .i64 b)]).run Tryz.prog w = .ok (.agg (renc ⟨a,b⟩).toArray) w:=
 run_build (P:=Tryz.prog) [(0,.int .i64 a),(1,.int .i64 b)] plCnt zValR (by
  intro q hq
  simp only [List.mem_cons,List.not_mem_nil,or_false]at hq
  rcases hq with rfl|rfl
  ·exact ⟨0,rfl,by show 0+1≤2;decide⟩
  ·exact ⟨1,rfl,by show 1+1≤2;decide⟩) w
set_option maxRecDepth 20000 in
theorem sputOk_c (hBR:BR≤134217000) (hl:b.length≤250) (hr:RS w0 F bv b) (hz:Sha.sum b≠Frm.zero32) (hmR:(mR (Sha.sum b)).getD ⟨0,0⟩=x) (hx0:0≤x.refs) (hx1:x.refs<1000000) (hSK:Ro w0 F ShaK) (hkeep:KeepE w0 F A1 A2 A3 A4 B1 B2 B3 B4 s r t (Sha.sum b) bv 0) (h:Sat w0 w (stoPt s r t false::TabMR t mR BR::A1::A2::A3::A4::F)) :
  Calls Tryz.prog 7 #[ptr s,bv] w (Rtn fun v w'=>v = .tuple #[.agg (bys (Sha.sum b)).toArray,errno 0]∧Sat w0 w' (stoPt s r t false::TabMR t (Tab.put mR (Sha.sum b) ⟨x.refs+1,(b.length:Nat)⟩) (BR+1)::B1::B2::B3::B4::F)):=by
 have Hsha:=uQ (fun (w':World) (R:List HProp) (hs:RS w0 R bv b) (hk:Ro w0 R ShaK) (hw:Sat w0 w' R)=>shaSum_c oQ hs hk hw)
 have hk:=sha_len b
 generalize Sha.sum b=k at *
 have Hks:=uQ (show (bys k).length=32 by rw [bys_len,hk])
 have Hsz:=uQ (show (bys k).toArray.size=32 by rw [List.size_toArray,bys_len,hk])
 have Hon:=uQ (show (bys k).toArray.toList.all (·.oneCell')=true by rw [List.all_eq_true];exact bys_one _)
 have Hget:=uQ (fun (w':World) (R:List HProp) (hw:Sat w0 w' (TabMR t mR BR::R))=>getR_c (k:=k) (Nat.le_trans hBR dCz) hk hw)
 have Hput:=uQ (fun (w':World) (R:List HProp) (hw:Sat w0 w' (TabMR t mR BR::R))=>putR_c hBR hk ⟨x.refs+1,(b.length:Nat)⟩ hw)
 generalize Tab.put mR k ⟨x.refs+1,(b.length:Nat)⟩=mR2 at *
 rw [hmR]at Hget
 have hbin:∀ w,(Op.equalIn 10000 30 (.agg (bys k).toArray) (.agg (bys Frm.zero32).toArray)).run Tryz.prog w = .ok false w:=fun w=>by rw [eqIn_key k _ hk dCz,decide_eq_false hz]
 obtain ⟨ba,bc,rfl,q1,q2⟩:=hr.len (h.sb:Sat w0 w F)
 have c1:¬ (16379:Int)<(b.length:Int):=oQ
 have c2:¬ (1073741824:Int)≤x.refs:=oQ
 have hwx:IntKind.i64.wrap (x.refs+1)=x.refs+1:=IntWalk.i64_in _ oQ
 have HSK:=uQ hSK;have Hr:=uQ hr;have Hkeep:=uQ hkeep
 have hinf:(Tryz.prog.info? 30).map (·.size)=some (bys k).toArray.size:=by rw [Hsz.out];kernel_rfl
 clear hBR hl hr hz hmR hSK hk q1 q2 hx0 hx1 hkeep
 go_enter Tryz.func7,Tryz.ntmps7
 go_wp2_with (with_reducible apply at_alloc)
 refine ⟨wl_alloc zID h rfl ?_⟩
 intro b4 w4 h4
 replace h4:Sat w0 w4 (stoPt s r t false::TabMR t mR BR::pt b4 (.cells (bys Frm.zero32).toArray 30 (0,0))::A1::A2::A3::A4::F):=h4.sb
 clear h
 have hok:=sok_c h4
 go_wp2_with fail
 refine hok.mono ?_
 rintro ee w5 ⟨v,rfl,rfl,rfl⟩
 clear hok
 go_wp2_with fail
 refine (Hsha.out _ _ (Hr.out.more sbD) (Ro.os HSK.out) h4).mono ?_
 rintro ee w6 ⟨v,rfl,rfl,h6⟩
 clear h4 c1
 go_wp2_with (with_reducible apply at_alloc)
 refine ⟨wl_alloc zID h6 rfl ?_⟩
 intro b6 w7 h7
 clear h6
 go_wp2_with (with_reducible apply at_store)
 refine ⟨wl_storeA (bys k).toArray h7 rFz rFz (Hsz.out.trans rFz) upd0 (by rw [Hsz.out];kernel_rfl) Hon.out ?_⟩
 intro w8 h8
 clear h7
 go_wp2_with (first
  |((with_reducible refine at_load ⟨?_⟩);refine wl_loadA (cs:=(bys k).toArray) h8 rFz pick0 Tryz.underlying30 rfl hinf ?_)
  |((with_reducible refine at_build0 ⟨?_⟩);refine wl_build0 run_id0 ?_))
 clear hbin
 have h9:=h8.drew
 have hG:World.cell? _ ⟨s,1,none⟩=some (ptr t)∧World.rangeAt _ b6 0 (bys k):=⟨h9.cellP pick1 1 rfl,fun j v hj=>h9.cellP pick0 (0+j) (by simpa using hj)⟩
 clear h8
 refine wpL_begin [5,6,7,8,10,11] (fun w'=>w'.cell? ⟨s,1,none⟩=some (ptr t)∧w'.rangeAt b6 0 (bys k)) kRz ?_
 refine rP 0 ?_ (y:=mvQ)
 refine rP 1 ?_ (y:=nlQ)
 refine rP 2 ?_ (y:=flQ)
 refine rt 3 (h:=?_)
 refine rg_take 4 evD kRz i3z (tk_loadN (b:=b6) (o:=0) (bys k) rFz Tryz.underlying30 rfl (by rw [Hks.out];kernel_rfl) (fun w hw=>hw.2)) aQ gQ ?_
 clear hG
 refine rg_eff2 5 9 evD evD kRz (fun K hK=>?_) (fun K hK=>?_)
 focus
  (refine eff_call2 kRz evD evD ?_)
  refine (Hget.out _ _ (h9.sb:Sat w0 _ (TabMR t mR BR::pt b6 (.cells (bys k).toArray 30 (0,0))::stoPt s r t false::pt b4 (.cells (bys Frm.zero32).toArray 30 (0,0))::A1::A2::A3::A4::F))).mono ?_
  rintro ee w10 ⟨v,rfl,rfl,h10⟩
  refine hK _ _ (.inl rfl) ?_
  clear hK h9
  refine rP 6 ?_ (y:=mvQ)
  refine rP 7 ?_ (y:=(yl_extract evD rnD))
  refine rP 8 ?_ (y:=(yl_extract evD rnD))
  refine rg_eff 9 evD kRz (fun K hK=>?_)
  refine eff_alloc (zValR) h10 rfl ?_
  intro b8 w11 h11
  refine hK _ _ (.inr (.inl ⟨h11.cellP pick3 1 rfl,fun j v hj=>h11.cellP pick2 (0+j) (by simpa using hj)⟩)) ?_
  clear hK h10
 rotate_left
 focus
  refine eff_alloc (zValR) h9 rfl ?_
  intro b8 w10 h10
  refine hK _ _ (.inr (.inl ⟨h10.cellP pick2 1 rfl,fun j v hj=>h10.cellP pick1 (0+j) (by simpa using hj)⟩)) ?_
  clear hK h9
  refine rg_eff 5 evD kRz (fun K hK=>?_)
  (refine eff_call2 kRz evD evD ?_)
  refine (Hget.out _ _ (h10.sb:Sat w0 _ (TabMR t mR BR::pt b8 (.cells (renc zwR).toArray 60 (0,0))::pt b6 (.cells (bys k).toArray 30 (0,0))::stoPt s r t false::pt b4 (.cells (bys Frm.zero32).toArray 30 (0,0))::A1::A2::A3::A4::F))).mono ?_
  rintro ee w11 ⟨v,rfl,rfl,h11'⟩
  refine hK _ _ (.inl rfl) ?_
  clear hK h10
  have h11:Sat w0 w11 (pt b8 (.cells (renc zwR).toArray 60 (0,0))::TabMR t mR BR::pt b6 (.cells (bys k).toArray 30 (0,0))::stoPt s r t false::pt b4 (.cells (bys Frm.zero32).toArray 30 (0,0))::A1::A2::A3::A4::F):=h11'.sb
  clear h11'
  refine rP 6 ?_ (y:=mvQ)
  refine rP 7 ?_ (y:=(yl_extract evD rnD))
  refine rP 8 ?_ (y:=(yl_extract evD rnD))
 all_goals
  refine rg_eff 10 evD kRz (fun K hK=>?_)
  refine eff_store (cs':=(renc x).toArray) h11 evD evD rFz upd0 nLz kRz rFz ?_
  intro w12 h12
  refine hK _ _ (.inl rfl) ?_
  clear hK h11
  refine rP 11 ?_ (y:=asQ)
  refine wpL_done kRz ?_
  have h13:Sat w0 w12 (stoPt s r t false::A1::A2::A3::A4::pt b8 (.cells (renc x).toArray 60 (0,0))::TabMR t mR BR::pt b6 (.cells (bys k).toArray 30 (0,0))::pt b4 (.cells (bys Frm.zero32).toArray 30 (0,0))::F):=h12.sb
  clear h12
  have e8:w12.cell? ⟨b8,0,none⟩=some (.int .i64 x.refs):=h13.cellP (pick_there (pick_there (pick_there (pick_there (pick_there pick0))))) 0 rfl
  go_wp2_with ((with_reducible refine at_load ⟨?_⟩);refine wl_loadA (cs:=(bys k).toArray) h13 rFz (pick_there (pick_there (pick_there (pick_there (pick_there (pick_there (pick_there pick0))))))) Tryz.underlying30 rfl hinf ?_)
  refine (Hkeep.out _ (pt b8 (.cells (renc x).toArray 60 (0,0))::TabMR t mR BR::pt b6 (.cells (bys k).toArray 30 (0,0))::pt b4 (.cells (bys Frm.zero32).toArray 30 (0,0))::F) (sub_drop (sub_drop (sub_drop (sub_drop sub_refl)))) h13).mono ?_
  rintro ee w14 ⟨v,rfl,rfl,h14⟩
  clear e8 h13 c2
  go_wp2_with fail
  have h15:=h14.drew
  have hG:World.cell? _ ⟨s,1,none⟩=some (ptr t)∧World.cell? _ ⟨b8,0,none⟩=some (.int .i64 x.refs)∧World.rangeAt _ b6 0 (bys k):=⟨h15.cellP pick0 1 rfl,h15.cellP pick5 0 rfl,fun j v hj=>h15.cellP pick7 (0+j) (by simpa using hj)⟩
  clear h14
  refine wpL_begin [11] (fun w'=>w'.cell? ⟨s,1,none⟩=some (ptr t)∧w'.cell? ⟨b8,0,none⟩=some (.int .i64 x.refs)∧w'.rangeAt b6 0 (bys k)) kRz ?_
  refine rP 0 ?_ (y:=mvQ)
  refine rP 1 ?_ (y:=nlQ)
  refine rP 2 ?_ (y:=flQ)
  refine rt 3 (h:=?_)
  refine rg_take 4 evD kRz i3z (tk_loadN (b:=b6) (o:=0) (bys k) rFz Tryz.underlying30 rfl (by rw [Hks.out];kernel_rfl) (fun w hw=>hw.2.2)) aQ gQ ?_
  refine rP 5 ?_ (y:=flQ)
  refine rt 6 (h:=?_)
  clear hG
  refine rP 7 ?_ (y:=bnQ)
  refine rP 8 ?_ (y:=mvQ)
  refine rP 9 ?_ (y:=(yl_len evD rnD))
  refine rp 10 (hy:=(yl_build2 evD evD (fun w=>run_cnt (x.refs+1) (b.length:Nat) w))) (h:=?_)
  refine rg_eff 11 evD kRz (fun K hK=>?_)
  (refine eff_call3 kRz evD evD evD ?_)
  refine (Hput.out _ _ (h15.sb:Sat w0 _ (TabMR t mR BR::pt b4 (.cells (bys Frm.zero32).toArray 30 (0,0))::pt b6 (.cells (bys k).toArray 30 (0,0))::stoPt s r t false::B1::B2::B3::B4::F))).mono ?_
  rintro ee w16 ⟨v,rfl,h16'⟩
  refine hK _ _ (.inl rfl) ?_
  clear hK h15 hwx
  have h16:Sat w0 w16 (pt b4 (.cells (bys Frm.zero32).toArray 30 (0,0))::pt b6 (.cells (bys k).toArray 30 (0,0))::stoPt s r t false::TabMR t mR2 (BR+1)::B1::B2::B3::B4::F):=h16'.sb
  clear h16'
  refine wpL_done kRz ?_
  go_wp2_with (first
   |((with_reducible refine at_load ⟨?_⟩);refine wl_loadA (cs:=(bys k).toArray) h16 rFz pick1 Tryz.underlying30 rfl hinf ?_)
   |(with_reducible apply at_store))
  refine ⟨wl_storeA (bys k).toArray h16 rFz rFz (Hsz.out.trans rFz) upd0 (by rw [Hsz.out];kernel_rfl) Hon.out ?_⟩
  intro w17 h17
  have hrc:=fun tmps hp=>res_cell_tmp (tmps:=tmps) (fn:=Tryz.f7) rfl h17 hp pick0 Tryz.underlying30 rfl hinf
  go_wp2_with fail
  refine ⟨rfl,_,hrc _ rFz,_,rfl,rfl,h17.sb⟩
set_option maxRecDepth 20000 in
theorem sputNo_c {e:Int} (he:e≠0) (hBR:BR≤134217000) (hl:b.length≤250) (hr:RS w0 F bv b) (hz:Sha.sum b≠Frm.zero32) (hmR:(mR (Sha.sum b)).getD ⟨0,0⟩=x) (hx0:0≤x.refs) (hx1:x.refs<1000000) (hSK:Ro w0 F ShaK) (hkeep:KeepE w0 F A1 A2 A3 A4 B1 B2 B3 B4 s r t (Sha.sum b) bv e) (h:Sat w0 w (stoPt s r t false::TabMR t mR BR::A1::A2::A3::A4::F)) :
  Calls Tryz.prog 7 #[ptr s,bv] w (Rtn fun v w'=>v = .tuple #[.agg (bys Frm.zero32).toArray,errno e]∧Sat w0 w' (stoPt s r t false::TabMR t mR BR::B1::B2::B3::B4::F)):=by
 have Hsha:=uQ (fun (w':World) (R:List HProp) (hs:RS w0 R bv b) (hk:Ro w0 R ShaK) (hw:Sat w0 w' R)=>shaSum_c oQ hs hk hw)
 have hk:=sha_len b
 generalize Sha.sum b=k at *
 have Hks:=uQ (show (bys k).length=32 by rw [bys_len,hk])
 have Hsz:=uQ (show (bys k).toArray.size=32 by rw [List.size_toArray,bys_len,hk])
 have Hon:=uQ (show (bys k).toArray.toList.all (·.oneCell')=true by rw [List.all_eq_true];exact bys_one _)
 have Hget:=uQ (fun (w':World) (R:List HProp) (hw:Sat w0 w' (TabMR t mR BR::R))=>getR_c (k:=k) (Nat.le_trans hBR dCz) hk hw)
 rw [hmR]at Hget
 have hbin:∀ w,(Op.equalIn 10000 30 (.agg (bys k).toArray) (.agg (bys Frm.zero32).toArray)).run Tryz.prog w = .ok false w:=fun w=>by rw [eqIn_key k _ hk dCz,decide_eq_false hz]
 obtain ⟨ba,bc,rfl,q1,q2⟩:=hr.len (h.sb:Sat w0 w F)
 have c1:¬ (16379:Int)<(b.length:Int):=oQ
 have c2:¬ (1073741824:Int)≤x.refs:=oQ
 have he':¬ e=0:=he
 have HSK:=uQ hSK;have Hr:=uQ hr;have Hkeep:=uQ hkeep
 have hinf:(Tryz.prog.info? 30).map (·.size)=some (bys k).toArray.size:=by rw [Hsz.out];kernel_rfl
 clear hBR hl hr hz hmR hSK hk q1 q2 hx0 hx1 hkeep he
 go_enter Tryz.func7,Tryz.ntmps7
 go_wp2_with (with_reducible apply at_alloc)
 refine ⟨wl_alloc zID h rfl ?_⟩
 intro b4 w4 h4
 replace h4:Sat w0 w4 (stoPt s r t false::TabMR t mR BR::pt b4 (.cells (bys Frm.zero32).toArray 30 (0,0))::A1::A2::A3::A4::F):=h4.sb
 clear h
 have hok:=sok_c h4
 go_wp2_with fail
 refine hok.mono ?_
 rintro ee w5 ⟨v,rfl,rfl,rfl⟩
 clear hok
 go_wp2_with fail
 refine (Hsha.out _ _ (Hr.out.more sbD) (Ro.os HSK.out) h4).mono ?_
 rintro ee w6 ⟨v,rfl,rfl,h6⟩
 clear h4 c1
 go_wp2_with (with_reducible apply at_alloc)
 refine ⟨wl_alloc zID h6 rfl ?_⟩
 intro b6 w7 h7
 clear h6
 go_wp2_with (with_reducible apply at_store)
 refine ⟨wl_storeA (bys k).toArray h7 rFz rFz (Hsz.out.trans rFz) upd0 (by rw [Hsz.out];kernel_rfl) Hon.out ?_⟩
 intro w8 h8
 clear h7
 go_wp2_with (first
  |((with_reducible refine at_load ⟨?_⟩);refine wl_loadA (cs:=(bys k).toArray) h8 rFz pick0 Tryz.underlying30 rfl hinf ?_)
  |((with_reducible refine at_build0 ⟨?_⟩);refine wl_build0 run_id0 ?_))
 clear hbin
 have h9:=h8.drew
 have hG:World.cell? _ ⟨s,1,none⟩=some (ptr t)∧World.rangeAt _ b6 0 (bys k):=⟨h9.cellP pick1 1 rfl,fun j v hj=>h9.cellP pick0 (0+j) (by simpa using hj)⟩
 clear h8
 refine wpL_begin [5,6,7,8,10,11] (fun w'=>w'.cell? ⟨s,1,none⟩=some (ptr t)∧w'.rangeAt b6 0 (bys k)) kRz ?_
 refine rP 0 ?_ (y:=mvQ)
 refine rP 1 ?_ (y:=nlQ)
 refine rP 2 ?_ (y:=flQ)
 refine rt 3 (h:=?_)
 refine rg_take 4 evD kRz i3z (tk_loadN (b:=b6) (o:=0) (bys k) rFz Tryz.underlying30 rfl (by rw [Hks.out];kernel_rfl) (fun w hw=>hw.2)) aQ gQ ?_
 clear hG
 refine rg_eff2 5 9 evD evD kRz (fun K hK=>?_) (fun K hK=>?_)
 focus
  (refine eff_call2 kRz evD evD ?_)
  refine (Hget.out _ _ (h9.sb:Sat w0 _ (TabMR t mR BR::pt b6 (.cells (bys k).toArray 30 (0,0))::stoPt s r t false::pt b4 (.cells (bys Frm.zero32).toArray 30 (0,0))::A1::A2::A3::A4::F))).mono ?_
  rintro ee w10 ⟨v,rfl,rfl,h10⟩
  refine hK _ _ (.inl rfl) ?_
  clear hK h9
  refine rP 6 ?_ (y:=mvQ)
  refine rP 7 ?_ (y:=(yl_extract evD rnD))
  refine rP 8 ?_ (y:=(yl_extract evD rnD))
  refine rg_eff 9 evD kRz (fun K hK=>?_)
  refine eff_alloc (zValR) h10 rfl ?_
  intro b8 w11 h11
  refine hK _ _ (.inr (.inl ⟨h11.cellP pick3 1 rfl,fun j v hj=>h11.cellP pick2 (0+j) (by simpa using hj)⟩)) ?_
  clear hK h10
 rotate_left
 focus
  refine eff_alloc (zValR) h9 rfl ?_
  intro b8 w10 h10
  refine hK _ _ (.inr (.inl ⟨h10.cellP pick2 1 rfl,fun j v hj=>h10.cellP pick1 (0+j) (by simpa using hj)⟩)) ?_
  clear hK h9
  refine rg_eff 5 evD kRz (fun K hK=>?_)
  (refine eff_call2 kRz evD evD ?_)
  refine (Hget.out _ _ (h10.sb:Sat w0 _ (TabMR t mR BR::pt b8 (.cells (renc zwR).toArray 60 (0,0))::pt b6 (.cells (bys k).toArray 30 (0,0))::stoPt s r t false::pt b4 (.cells (bys Frm.zero32).toArray 30 (0,0))::A1::A2::A3::A4::F))).mono ?_
  rintro ee w11 ⟨v,rfl,rfl,h11'⟩
  refine hK _ _ (.inl rfl) ?_
  clear hK h10
  have h11:Sat w0 w11 (pt b8 (.cells (renc zwR).toArray 60 (0,0))::TabMR t mR BR::pt b6 (.cells (bys k).toArray 30 (0,0))::stoPt s r t false::pt b4 (.cells (bys Frm.zero32).toArray 30 (0,0))::A1::A2::A3::A4::F):=h11'.sb
  clear h11'
  refine rP 6 ?_ (y:=mvQ)
  refine rP 7 ?_ (y:=(yl_extract evD rnD))
  refine rP 8 ?_ (y:=(yl_extract evD rnD))
 all_goals
  refine rg_eff 10 evD kRz (fun K hK=>?_)
  refine eff_store (cs':=(renc x).toArray) h11 evD evD rFz upd0 nLz kRz rFz ?_
  intro w12 h12
  refine hK _ _ (.inl rfl) ?_
  clear hK h11
  refine rP 11 ?_ (y:=asQ)
  refine wpL_done kRz ?_
  have h13:Sat w0 w12 (stoPt s r t false::A1::A2::A3::A4::pt b8 (.cells (renc x).toArray 60 (0,0))::TabMR t mR BR::pt b6 (.cells (bys k).toArray 30 (0,0))::pt b4 (.cells (bys Frm.zero32).toArray 30 (0,0))::F):=h12.sb
  clear h12
  have e8:w12.cell? ⟨b8,0,none⟩=some (.int .i64 x.refs):=h13.cellP (pick_there (pick_there (pick_there (pick_there (pick_there pick0))))) 0 rfl
  go_wp2_with ((with_reducible refine at_load ⟨?_⟩);refine wl_loadA (cs:=(bys k).toArray) h13 rFz (pick_there (pick_there (pick_there (pick_there (pick_there (pick_there (pick_there pick0))))))) Tryz.underlying30 rfl hinf ?_)
  refine (Hkeep.out _ (pt b8 (.cells (renc x).toArray 60 (0,0))::TabMR t mR BR::pt b6 (.cells (bys k).toArray 30 (0,0))::pt b4 (.cells (bys Frm.zero32).toArray 30 (0,0))::F) (sub_drop (sub_drop (sub_drop (sub_drop sub_refl)))) h13).mono ?_
  rintro ee w14 ⟨v,rfl,rfl,h14⟩
  clear e8 h13 c2
  go_wp2_with (first
   |((with_reducible refine at_build0 ⟨?_⟩);refine wl_build0 run_id0 ?_)
   |(with_reducible apply at_store))
  refine ⟨wl_storeA (bys Frm.zero32).toArray (h14.pick pick8) rFz rFz rFz upd0 kRz rFz ?_⟩
  intro w17 h17
  have hrc:=fun tmps hp=>res_cell_tmp (tmps:=tmps) (fn:=Tryz.f7) rfl h17 hp pick0 Tryz.underlying30 rfl kRz
  go_wp2_with fail
  refine ⟨rfl,_,hrc _ rFz,_,rfl,rfl,h17.sb⟩
set_option maxRecDepth 20000 in
theorem sputZ_c (hl:b.length≤250) (hr:RS w0 F bv b) (hz:Sha.sum b=Frm.zero32) (hSK:Ro w0 F ShaK) (h:Sat w0 w (stoPt s r t false::F)) :
  Calls Tryz.prog 7 #[ptr s,bv] w (Rtn fun v w'=>v = .tuple #[.agg (bys Frm.zero32).toArray,errno 19]∧Sat w0 w' (stoPt s r t false::F)):=by
 have Hsha:=uQ (fun (w':World) (R:List HProp) (hs:RS w0 R bv b) (hk:Ro w0 R ShaK) (hw:Sat w0 w' R)=>shaSum_c oQ hs hk hw)
 rw [hz]at Hsha
 have hbin:∀ w,(Op.equalIn 10000 30 (.agg (bys Frm.zero32).toArray) (.agg (bys Frm.zero32).toArray)).run Tryz.prog w = .ok true w:=fun w=>by rw [eqIn_key _ _ dCz dCz,decide_eq_true rfl]
 obtain ⟨ba,bc,rfl,q1,q2⟩:=hr.len (h.sb:Sat w0 w F)
 have c1:¬ (16379:Int)<(b.length:Int):=oQ
 have HSK:=uQ hSK;have Hr:=uQ hr
 have hinf:(Tryz.prog.info? 30).map (·.size)=some (bys Frm.zero32).toArray.size:=by kernel_rfl
 clear hl hr hz hSK q1 q2
 go_enter Tryz.func7,Tryz.ntmps7
 go_wp2_with (with_reducible apply at_alloc)
 refine ⟨wl_alloc zID h rfl ?_⟩
 intro b4 w4 h4
 replace h4:Sat w0 w4 (stoPt s r t false::pt b4 (.cells (bys Frm.zero32).toArray 30 (0,0))::F):=h4.sb
 clear h
 have hok:=sok_c h4
 go_wp2_with fail
 refine hok.mono ?_
 rintro ee w5 ⟨v,rfl,rfl,rfl⟩
 clear hok
 go_wp2_with fail
 refine (Hsha.out _ _ (Hr.out.more sbD) (Ro.os HSK.out) h4).mono ?_
 rintro ee w6 ⟨v,rfl,rfl,h6⟩
 clear h4 c1
 go_wp2_with (with_reducible apply at_alloc)
 refine ⟨wl_alloc zID h6 rfl ?_⟩
 intro b6 w7 h7
 clear h6
 go_wp2_with (with_reducible apply at_store)
 refine ⟨wl_storeA (bys Frm.zero32).toArray h7 rFz rFz rFz upd0 kRz rFz ?_⟩
 intro w8 h8
 clear h7
 go_wp2_with (first
  |((with_reducible refine at_load ⟨?_⟩);refine wl_loadA (cs:=(bys Frm.zero32).toArray) h8 rFz pick0 Tryz.underlying30 rfl hinf ?_)
  |((with_reducible refine at_build0 ⟨?_⟩);refine wl_build0 run_id0 ?_)
  |(with_reducible apply at_store))
 refine ⟨wl_storeA (bys Frm.zero32).toArray (h8.pick pick2) rFz rFz rFz upd0 kRz rFz ?_⟩
 intro w9 h9
 clear h8
 have hrc:=fun tmps hp=>res_cell_tmp (tmps:=tmps) (fn:=Tryz.f7) rfl h9 hp pick0 Tryz.underlying30 rfl hinf
 go_wp2_with fail
 refine ⟨rfl,_,hrc _ rFz,_,rfl,rfl,h9.sb⟩
end
end Go.Proofs.YtlimfgdbfadohaaGreatDoor
namespace Go.Frm
open Go.Med (xorAt)
theorem xor_shift28 (a b:Nat):(a ^^^ b) / 268435456=a / 268435456 ^^^ b / 268435456:=by
 have h:=Nat.shiftRight_xor_distrib (a:=a) (b:=b) (i:=28)
 simpa [Nat.shiftRight_eq_div_pow] using h
theorem xor_cancel {a b c:Nat} (h:a ^^^ c=b ^^^ c):a=b:=by
 have:=congrArg (· ^^^ c) h
 simp only [Nat.xor_assoc,Nat.xor_self,Nat.xor_zero]at this
 exact this
theorem half_top:∀ i,i<16→∀ j,j<16→half.getD i 0 / 268435456=half.getD j 0 / 268435456→i=j:=by decide
theorem fold4_inj {x y:Nat} (hx:x<4294967296) (hy:y<4294967296) (h:fold4 x=fold4 y):x=y:=by
 unfold fold4 at h
 have h1:=congrArg (· / 268435456) h
 simp only [xor_shift28]at h1
 rw [Nat.div_eq_of_lt (show x / 16<268435456 by omega),Nat.div_eq_of_lt (show y / 16<268435456 by omega),Nat.zero_xor,Nat.zero_xor]at h1
 have h2:=half_top (x%16) (Nat.mod_lt _ dCz) (y%16) (Nat.mod_lt _ dCz) h1
 rw [h2]at h
 have h3:=xor_cancel h
 omega
theorem crcStep_inj {x y:Nat} (hx:x<4294967296) (hy:y<4294967296){c d:UInt8} (h:crcStep x c=crcStep y d):x ^^^ c.toNat=y ^^^ d.toNat:=by
 unfold crcStep at h
 have a:=xor_lt hx (show c.toNat<4294967296 by have:=c.toNat_lt;omega)
 have b:=xor_lt hy (show d.toNat<4294967296 by have:=d.toNat_lt;omega)
 exact fold4_inj a b (fold4_inj (fold4_lt a) (fold4_lt b) h)
theorem foldl_inj:∀ (v:Bs){x y:Nat},x<4294967296→y<4294967296→v.foldl crcStep x=v.foldl crcStep y→x=y
 |[],x,y,_,_,h=>h
 |c::v,x,y,hx,hy,h=>by
  have:=foldl_inj v (crcStep_lt hx c) (crcStep_lt hy c) h
  exact xor_cancel (crcStep_inj hx hy this)
theorem crc_ne (u v:Bs){c d:UInt8} (h:c≠d):crc (u++c::v)≠crc (u++d::v):=fun e=>by
 unfold crc crcAdd at e
 rw [List.foldl_append,List.foldl_append,List.foldl_cons,List.foldl_cons]at e
 have hx:u.foldl crcStep (4294967295 - 0)<4294967296:=foldl_lt u _ dCz
 generalize u.foldl crcStep (4294967295 - 0)=x at *
 have l1:=foldl_lt v _ (crcStep_lt hx c)
 have l2:=foldl_lt v _ (crcStep_lt hx d)
 have h1:v.foldl crcStep (crcStep x c)=v.foldl crcStep (crcStep x d):=oQ
 have h2:=crcStep_inj hx hx (foldl_inj v (crcStep_lt hx c) (crcStep_lt hx d) h1)
 rw [Nat.xor_comm x,Nat.xor_comm x]at h2
 have h3:=xor_cancel h2
 exact h (UInt8.toNat_inj.1 h3)
theorem num_inj:∀ {a b:Bs},a.length=b.length→num a=num b→a=b
 |[],[],_,_=>rfl
 |[],_::_,h,_=>by cases h
 |_::_,[],h,_=>by cases h
 |c::a,d::b,h,e=>by
  have e':c.toNat+256 * num a=d.toNat+256 * num b:=e
  have hc:=c.toNat_lt
  have hd:=d.toNat_lt
  have h1:c.toNat=d.toNat:=oQ
  have h2:num a=num b:=oQ
  rw [UInt8.toNat_inj.1 h1,num_inj (by simpa using h) h2]
structure Whole (s:Bs):Prop where
 len:8≤s.length
 sum:crc (s.drop 4)=num (s.take 4)
theorem set_split {s:Bs}{i:Nat} (h:i<s.length) (y:UInt8):s=s.take i++s[i]::s.drop (i+1)∧xorAt s i y=s.take i++(s[i] ^^^ y)::s.drop (i+1):=by
 refine ⟨by rw [List.getElem_cons_drop,List.take_append_drop],?_⟩
 unfold xorAt
 rw [List.set_eq_take_append_cons_drop,if_pos h,List.getD_eq_getElem?_getD,List.getElem?_eq_getElem h,Option.getD_some]
theorem Whole.same {s:Bs}{i:Nat}{y:UInt8} (h:Whole s) (h':Whole (xorAt s i y)):xorAt s i y=s:=by
 by_cases hi:i<s.length
 rotate_left
 ·unfold xorAt
  exact List.set_eq_of_length_le oQ
 obtain ⟨e1,e2⟩:=set_split hi y
 by_cases hc:s[i]=s[i] ^^^ y
 ·rw [e2,← hc];exact e1.symm
 exfalso
 have hs:=h.sum
 have hs':=h'.sum
 by_cases h4:i<4
 ·have d1:(xorAt s i y).drop 4=s.drop 4:=by
   unfold xorAt
   rw [List.drop_set_of_lt h4]
  rw [d1,hs]at hs'
  have t:=num_inj (by rw [List.length_take,List.length_take,Med.xorAt_len]) hs'
  have t2:=congrArg (fun z=>z[i]?) t
  simp only [List.getElem?_take,if_pos h4]at t2
  rw [List.getElem?_eq_getElem hi,e2,List.getElem?_append_right (by rw [List.length_take];omega),List.length_take,Nat.min_eq_left oQ,Nat.sub_self]at t2
  exact hc (by simpa using t2)
 ·have d1:(xorAt s i y).take 4=s.take 4:=by
   unfold xorAt
   rw [List.take_set,List.set_eq_of_length_le (by rw [List.length_take];omega)]
  rw [d1,← hs]at hs'
  have k1:s.drop 4=(s.take i).drop 4++s[i]::s.drop (i+1):=by
   conv=>lhs;rw [e1]
   rw [List.drop_append_of_le_length (by rw [List.length_take];omega)]
  have k2:(xorAt s i y).drop 4=(s.take i).drop 4++(s[i] ^^^ y)::s.drop (i+1):=by
   rw [e2,List.drop_append_of_le_length (by rw [List.length_take];omega)]
  rw [k1,k2]at hs'
  exact crc_ne _ _ (Ne.symm hc) hs'
theorem read_whole {s:Bs} (h0:(read s).2.2=0) (h1:(read s).2.1=s.length):Whole s:=by
 unfold read at h0 h1
 split at h0
 ·cases h0
 rename_i g1
 rw [if_neg g1]at h1
 dsimp only at h0 h1
 split at h0
 ·cases h0
 rename_i g2
 rw [if_neg g2]at h1
 split at h0
 ·cases h0
 rename_i g3
 rw [if_neg g3]at h1
 split at h0
 ·cases h0
 rename_i g4
 rw [if_neg g4]at h1
 have hn:num ((s.drop 4).take 4)=s.length:=by
  split at h1 <;> exact h1
 rw [hn,List.take_length]at g4
 exact ⟨by omega,by simpa using g4⟩
end Go.Frm
namespace Go.Seg
open Go.Med
open Go.Frm (Bs Ent encs GoodE)
open Go.Rep
section
variable {K r E B n:Nat}{L:Log}{M:Med}{C:List (List Ent)}{k:Bs}{pl:Plc}
theorem rot_all {K:Nat} (ok:M.Ok K) (q:Quiet M) (h:Calm K r M) (s:ByteArray) (i:Int) (y:UInt8) (t:ByteArray):(M.rot s i y).1.all t=M.all t∨(∃ j:Nat,(M.rot s i y).1.all t=(xorAt (M.all t).1 j y,(M.all t).2)):=by
 have hq:=q.rot s i y
 unfold Med.rot at hq ⊢
 cases hn:nget M.now s with
 |none=>exact .inl rfl
 |some j=>
  rw [hn]at hq
  dsimp only at hq ⊢
  split
  ·exact .inl rfl
  ·rename_i hi
   rw [if_neg hi]at hq
   have hlt:j<M.files.length:=ok.nowOk.ids _ (nget_mem hn)
   cases ht:nget M.now t with
   |none=>left;rw [all_none hq (show nget (M.setFile j _).now t=none from ht),all_none q ht]
   |some u=>
    by_cases e:u=j
    ·subst e
     right
     refine ⟨i.toNat,?_⟩
     rw [all_some hq (show nget (M.setFile u _).now t=some u from ht),all_some q ht]
     show (((M.setFile u _).file u).now,(0:Int))=_
     rw [file_set hlt,if_pos rfl,((ok.file u).rot _ _).2]
    ·left
     rw [all_some hq (show nget (M.setFile j _).now t=some u from ht),all_some q ht]
     show (((M.setFile j _).file u).now,(0:Int))=_
     rw [file_set hlt,if_neg e]
theorem read_by (q:Quiet M) (t:ByteArray) (a n:Int):M.read t a n=if (M.all t).2≠0 then ([],9) else if a<0∨n<0 then ([],2) else if ((M.all t).1.length:Int)<a∨((M.all t).1.length:Int) - a<n then ([],3) else (((M.all t).1.drop a.toNat).take n.toNat,0):=by
 unfold Med.read
 rw [q.off]
 cases hi:nget M.now t with
 |none=>rw [all_none q hi];rfl
 |some i=>
  rw [all_some q hi]
  simp only [ne_eq,not_true_eq_false,if_false,Bool.false_eq_true]
theorem xor_part (l:Bs) (j:Nat) (y:UInt8) (a n:Nat):∃ j',((xorAt l j y).drop a).take n=xorAt ((l.drop a).take n) j' y:=by
 unfold xorAt
 rw [List.drop_set]
 split
 ·refine ⟨((l.drop a).take n).length,?_⟩
  rw [List.set_eq_of_length_le (Nat.le_refl _)]
 ·rename_i h
  rw [List.take_set]
  by_cases hj:j - a<((l.drop a).take n).length
  ·refine ⟨j - a,?_⟩
   have hjn:j - a<n:=by rw [List.length_take]at hj;omega
   have e:((l.drop a).take n).getD (j - a) 0=l.getD j 0:=by
    rw [List.getD_eq_getElem?_getD,List.getElem?_take,if_pos hjn,List.getElem?_drop,show a+(j - a)=j by omega,List.getD_eq_getElem?_getD]
   rw [e]
  ·refine ⟨((l.drop a).take n).length,?_⟩
   rw [List.set_eq_of_length_le oQ,List.set_eq_of_length_le (Nat.le_refl _)]
theorem rot_read {x:Ent} (ok:M.Ok K) (q:Quiet M) (hc:Calm K r M) (hx:L.read M pl=(x,0)) (s:ByteArray) (i:Int) (y:UInt8):L.read (M.rot s i y).1 pl=(x,0)∨(L.read (M.rot s i y).1 pl).2≠0:=by
 by_cases he:(L.read (M.rot s i y).1 pl).2=0
 rotate_left
 ·exact .inr he
 left
 have hq:=q.rot s i y
 have hra:=rot_all ok q hc s i y (name pl.seg)
 generalize (M.rot s i y).1=M2 at *
 have hread:M2.read (name pl.seg) pl.at_ pl.size=M.read (name pl.seg) pl.at_ pl.size∨∃ j,M2.read (name pl.seg) pl.at_ pl.size=(xorAt (M.read (name pl.seg) pl.at_ pl.size).1 j y,(M.read (name pl.seg) pl.at_ pl.size).2):=by
  rcases hra with e|⟨j,e⟩
  ·left;rw [read_by hq,read_by q,e]
  ·rw [read_by hq,read_by q,e]
   simp only [xorAt_len]
   split
   ·exact .inl rfl
   split
   ·exact .inl rfl
   split
   ·exact .inl rfl
   ·right
    obtain ⟨j',e'⟩:=xor_part (M.all (name pl.seg)).1 j y pl.at_.toNat pl.size.toNat
    exact ⟨j',by rw [e']⟩
 unfold Log.read at hx he ⊢
 split at hx
 ·cases hx
 rename_i u hu
 (try rw [hu]at he)
 (try rw [hu])
 (try simp only at hx he ⊢)
 rcases hread with e|⟨j,e⟩
 ·rw [e];exact hx
 rw [e]at he ⊢
 generalize M.read (name pl.seg) pl.at_ pl.size=rd at *
 obtain ⟨b,eb⟩:=rd
 simp only at hx he ⊢
 split at hx
 ·rename_i g;cases hx;exact absurd rfl g
 rename_i g1
 rw [if_neg g1]at he ⊢
 split at hx
 ·rename_i g;have:=congrArg Prod.snd hx;exact absurd this g
 rename_i g2
 split at hx
 ·rename_i g;have:=congrArg Prod.snd hx;cases this
 rename_i g3
 split at he
 ·rename_i g;exact absurd he g
 rename_i g4
 split at he
 ·cases he
 rename_i g5
 have w1:=Frm.read_whole (s:=b) (by simpa using g2) (by simpa using g3)
 have w2:=Frm.read_whole (s:=xorAt b j y) (by simpa using g4) (by simpa using g5)
 rw [w1.same w2,if_neg g2,if_neg g3]
 exact hx
end
end Go.Seg
