import Derived.Test.YtlimfgdbfadohaaGreatDoorJ9
set_option linter.unusedVariables false
set_option maxHeartbeats 128000000
namespace Go.Proofs.YtlimfgdbfadohaaGreatDoor
open Go Go.Sl Go.aB Go.MapKept Go.RowKit
section
variable {P:Program}{w0 w:World}{R:List aC}{ops:Array Oper}{a:Act}{Q:Exit→Act→World→Prop}{dst:Option Tmp}{t:TypeId}{pos:String}{after:Array Edge}{K:Act→World→Prop}{E:Prop}{d s:Operand}
theorem Y4 {g off dLen dCap sLen sCap:Nat}{ad:Addr}{cur:Array Value}{T:TypeId} (cs:List Value) (hs:Sat w0 w (pt g (.cells cur T (0,0))::R)) (hd:a.eval d = .slice (some ⟨g,off,none⟩) dLen dCap) (hsv:a.eval s = .slice (some ad) sLen sCap) (hn:cs.length=Nat.min sLen dLen)
  (hsrc:∀ j v,cs[j]?=some v→w.cell? (ad.add j)=some v) (hfit:off+cs.length≤cur.size) (h1:∀ v∈cs,v.oneCell'=true)
  (hK:∀ w',Sat w0 w' (pt g (.cells (cur.toList.take off++(cs++cur.toList.drop (off+cs.length))).toArray T (0,0))::R)→K (a.put dst (goInt cs.length)) w') :
  if Region.wanted ⟨dst,.call { callee:= .builtin .copy,args:=#[d,s],argTypes:=#[27,27] },t,pos,after,none⟩ (yielded ops a.tmps)=true then Oper.wp Tryz.prog ⟨dst,.call { callee:= .builtin .copy,args:=#[d,s],argTypes:=#[27,27] },t,pos,after,none⟩ a w K Q else E:=by
 refine xR rfl ?_
 obtain ⟨i,hi,hz0,hz1,hz2⟩:=uF
 have hsz:(Tryz.prog.info? 5).map (·.size)=some 1:=by rw [hi];simp [hz1]
 have hrun:=run_copy_row (P:=Tryz.prog) w 27 27 t 5 g off dLen dCap ad sLen sCap cur T cs Tryz.underlying27 hsz hs.at hn hsrc hfit h1
 have h2:=hs.turn (w':=w.setRow g (cur.toList.take off++(cs++cur.toList.drop (off+cs.length))).toArray) rfl rfl rfl (by simp) (setRow_heap w g cur _ _ _ hs.at) (fun j hj _=>setRow_other w g j _ hj)
 unfold Oper.wp
 simp [execOp,resolve,invoke,builtin,hd,hsv,hrun,Result.andThen]
 exact hK _ h2
end
theorem aey (s:aA.St){i:Nat} (hi:i<8) (w:World):(Instr.index 176 (.agg (iG s)) (.int .i64 (i:Int))).run Tryz.prog w = .ok (.int .u32 (aA.at_ s.l i:Nat)) w:=by
 rcases i with _|_|_|_|_|_|_|_|i
 all_goals first|omega|kernel_rfl
section
variable {P:Program}{w:World}{ops:Array Oper}{rest:List Oper}{a:Act}{Q:Exit→Act→World→Prop}{dst:Option Tmp}{t ty:TypeId}{pos:String}{after:Array Edge}{x y:Operand}{v vx vy:Value}
theorem agO (hx:a.eval x=vx) (hy:a.eval y=vy) (hr:∀ w,(Instr.index ty vx vy).run P w = .ok v w) (h:wpList P ops Q rest (a.put dst v) w):wpList P ops Q (⟨dst,.index ty x y,t,pos,after,none⟩::rest) a w:=
 wpList_plain rfl fun _ hK=>by
  unfold Oper.wp execOp
  simp only [hx,hy,Sem.run_bind,hr,Result.andThen_ok,Sem.run_pure]
  exact hK _ _ h
theorem XZ (h:Stop (wpList P ops Q (⟨dst,.index ty x y,t,pos,after,none⟩::rest) a w)):wpList P ops Q (⟨dst,.index ty x y,t,pos,after,none⟩::rest) a w:=h.out
theorem ahb {y:Operand} (hx:a.eval x=vx) (hy:a.eval y=vy) (hr:∀ w,(Instr.sliceAt ty vx (some vy) none none).run P w = .ok v w):Yields P ops ⟨dst,.slice ty x (some y) none none,t,pos,after,none⟩ v a:=
 .inl ⟨kR _ rfl,fun w=>by simp only [execOp,hx,hy,Option.map_some,Option.map_none,Sem.run_bind,hr,Result.andThen_ok,Sem.run_pure]⟩
end
theorem Iw (f:Nat→aA.Bs) (hf:∀ x,(f x).length=4):∀ l:List Nat,(l.flatMap f).length=4 * l.length
 |[]=>rfl
 |y::l=>by rw [List.flatMap_cons,List.length_append,hf,Iw f hf l,List.length_cons];omega
theorem Pj (f:Nat→aA.Bs) (hf:∀ x,(f x).length=4):∀ (l:List Nat) (i:Nat) (x:Nat),l[i]?=some x→(l.flatMap f).take (4 * (i+1))=(l.flatMap f).take (4 * i)++f x
 |y::l,0,x,h=>by
  cases h
  rw [List.flatMap_cons,List.take_append,List.take_of_length_le (by rw [hf];decide),hf]
  simp
 |y::l,i+1,x,h=>by
  have ih:=Pj f hf l i x h
  have e1:(f y++l.flatMap f).take (4 * (i+1+1))=f y++(l.flatMap f).take (4 * (i+1)):=by
   rw [List.take_append,List.take_of_length_le (by rw [hf];omega),hf,show 4 * (i+1+1) - 4=4 * (i+1) by omega]
  have e2:(f y++l.flatMap f).take (4 * (i+1))=f y++(l.flatMap f).take (4 * i):=by
   rw [List.take_append,List.take_of_length_le (by rw [hf];omega),hf,show 4 * (i+1) - 4=4 * i by omega]
  rw [List.flatMap_cons,e1,e2,ih,List.append_assoc]
theorem zk (x:Nat):(aA.fE x 4).length=4:=by unfold aA.fE;rw [List.length_reverse,ak.gW]
theorem aaH {D big:ak.Bs}{lo:Nat} (hD:D.length=32) (hlo:lo+4≤32) (hb:big.length=4) (htk:D.take (lo+4)=D.take lo++big):((ay (D.take lo++List.replicate (32 - lo) 0)).toArray.toList.take lo++(ay big++(ay (D.take lo++List.replicate (32 - lo) 0)).toArray.toList.drop (lo+(ay big).length))).toArray=(ay (D.take (lo+4)++List.replicate (32 - (lo+4)) 0)).toArray:=by
 have l1:(ay (D.take lo)).length=lo:=by rw [aU,List.length_take,hD];omega
 have e:(ay (List.replicate (32 - lo) (0:UInt8))).drop 4=ay (List.replicate (32 - (lo+4)) 0):=by
  unfold ay
  rw [List.map_replicate,List.map_replicate,List.drop_replicate,show 32 - lo - 4=32 - (lo+4) by omega]
 congr 1
 rw [List.toList_toArray,jQ,htk,jQ,jQ,List.take_left' l1,List.drop_append,List.drop_of_length_le (by rw [l1];omega),List.nil_append,l1,aU big,hb,show lo+4 - lo=4 by omega,e,List.append_assoc]
theorem oz:iH Tryz.prog 30=some (.agg (ay ak.zero32).toArray):=by kernel_rfl
section
variable {w0 w:World}{F:List aC}{p:Nat}{s:aA.St}{r:ak.Bs}{n:Nat}
set_option maxRecDepth 20000 in
theorem afc {ra:Option Addr}{rn rc:Nat} (hrl:r.length<64) (hn:n≤1073741824) (hs:s.Ok) (hK:Ro w0 F kE) (h:Sat w0 w (aK (.slice ra rn rc) r::pt p (.cells (hs11 s (.slice ra rn rc) n) 179 (0,0))::F)) :
  Calls Tryz.prog 51 #[ptr p] w (aI fun v w'=>v = .agg (ay ((aA.blocks ((aA.pad r++aA.fE (8 * n) 8).length / 64) s (aA.pad r++aA.fE (8 * n) 8)).1.l.flatMap fun w=>aA.fE w 4)).toArray∧Sat w0 w' F):=by
 obtain ⟨D,hD⟩:∃ D,((aA.blocks ((aA.pad r++aA.fE (8 * n) 8).length / 64) s (aA.pad r++aA.fE (8 * n) 8)).1.l.flatMap fun w=>aA.fE w 4)=D:=⟨_,rfl⟩
 rw [hD]
 have HD:=uQ hD
 have Hrl:=uQ hrl;have Hn:=uQ hn;have Hs:=uQ hs;have HK:=uQ hK
 clear hD hrl hn hs hK
 go_enter Tryz.func51,Tryz.ntmps51
 go_wp2_with (with_reducible apply dY)
 refine ⟨dS oz h rfl ?_⟩
 intro b2 w2 h2
 clear h
 have h2:Sat w0 w2 (pt p (.cells (hs11 s (.slice ra rn rc) n) 179 (0,0))::aK (.slice ra rn rc) r::pt b2 (.cells (ay ak.zero32).toArray 30 (0,0))::F):=h2.sb
 go_wp2_with fail
 refine (Uu h2).mono ?_
 rintro ee w3 ⟨v,rfl,rfl,rfl⟩
 have e9:w2.cell? ⟨p,9,none⟩=some (.slice ra rn rc):=h2.cellP aH 9 rfl
 have hcl:=qA h2 (Sat.rd (h2.pick (A:=aK (.slice ra rn rc) r) aP)) (by have:=Hrl.out;omega)
 clear h2
 go_wp2_with fail
 refine hcl.mono ?_
 rintro ee w4 ⟨v,rfl,h4,ca,cn,cc,rfl⟩
 clear hcl e9
 go_wp2_with (first
  |((with_reducible refine kU ⟨?_⟩);refine lu (e:=5) (sz:=1) (dX:=1) au h4 ah (cs:=#[.int .u8 128]) rfl rfl bH ?_;intro bN wN hN)
  |((with_reducible refine jf ⟨?_⟩);refine lq 5 1 1 au hN ah ah (xs:=ay r) aP aH ah (Nat.le_refl 1) ah (by rw [aU];have:=Hrl.out;omega) (by show 1≤65536;decide) aJ (ys:=ay [128]) rfl ?_;intro bA nA cA wA hA))
 rw [← jQ]at hA
 have h5:Sat w0 wA (aK (.slice (some ⟨bA,0,none⟩) nA cA) (r++[128]++List.replicate 0 0)::pt p (.cells (hs11 s (.slice ra rn rc) n) 179 (0,0))::pt b2 (.cells (ay ak.zero32).toArray 30 (0,0))::F):=by
  rw [List.replicate_zero,List.append_nil]
  exact hA.sb
 clear h4 hN hA
 go_wp2_with fail
 obtain ⟨z,hz⟩:∃ z,(119 - r.length%64)%64=z:=⟨_,rfl⟩
 have Hz:=uQ hz
 clear hz
 go_loopg [3] z (fun g tq wr=>∃ (k:Nat) (tv:Value),tv=tq∧g=z - k∧k≤z∧Sat w0 wr (aK tv (r++[128]++List.replicate k 0)::pt p (.cells (hs11 s (.slice ra rn rc) n) 179 (0,0))::pt b2 (.cells (ay ak.zero32).toArray 30 (0,0))::F))
 case atStart=>exact ⟨0,_,rfl,rfl,Nat.zero_le _,h5⟩
 case round=>
  obtain ⟨k,tv,rfl,rfl,hk,hS⟩:=hrel
  clear h5
  obtain ⟨ta,tn,tc,rfl,ht1,ht2,ht3⟩:=iY hS
  have hlen:(r++[128]++List.replicate k 0).length=r.length+1+k:=by
   rw [List.length_append,List.length_append,List.length_replicate];rfl
  rw [hlen]at ht3
  have hrl:=Hrl.out
  have hzz:=Hz.out
  have aax:(tn:Int)%64=((tn%64:Nat):Int):=rfl
  obtain ⟨q,hq⟩:∃ q,tn%64=q:=⟨_,rfl⟩
  rw [hq]at aax
  have hq2:q=56↔k=z:=oQ
  have htn:tn≤200:=oQ
  by_cases hkz:k=z
  rotate_left
  ·have c1:((q:Int) != 56)=true:=bne_iff_ne.2 (fun e=>hkz (hq2.1 oQ))
   have hkk:k<z:=oQ
   have yV:=uQ hkk;have Htn:=uQ htn
   have hln:(ay (r++[128]++List.replicate k 0)).length≤2147483648:=by rw [aU,hlen];omega
   have jX:=uQ hln
   clear ht1 ht2 ht3 hlen hrl hzz hq hq2 htn hkz hkk hk hln
   go_wp2_with (first
    |((with_reducible refine kU ⟨?_⟩);refine lu (e:=5) (sz:=1) (dX:=1) au hS ah (cs:=#[.int .u8 0]) rfl rfl bH ?_;intro bM wM hM)
    |((with_reducible refine jf ⟨?_⟩);refine lq 5 1 1 au hM ah ah (xs:=ay (r++[128]++List.replicate k 0)) aP aH ah (Nat.le_refl 1) ah jX.out (by show 1≤65536;decide) aJ (ys:=ay [0]) rfl ?_;intro bB nB cB wB hB))
   rw [← jQ,List.append_assoc,← List.replicate_succ']at hB
   have iP:=uQ (show Sat w0 wB (aK (.slice (some ⟨bB,0,none⟩) nB cB) (r++[128]++List.replicate (k+1) 0)::pt p (.cells (hs11 s (.slice ra rn rc) n) 179 (0,0))::pt b2 (.cells (ay ak.zero32).toArray 30 (0,0))::F) from hB)
   clear hM hB
   go_wp2_with fail
   go_roundg (z - (k+1))
   case measure=>have:=yV.out;omega
   case rel=>exact ⟨k+1,_,rfl,rfl,Nat.succ_le_of_lt yV.out,iP.out⟩
  ·have c1:((q:Int) != 56)=false:=by rw [hq2.2 hkz];rfl
   have MO:=uQ (show aA.pad r=r++[128]++List.replicate k 0 by unfold aA.pad;rw [hzz,hkz])
   have e10:wr.cell? ⟨p,10,none⟩=some (.int .i64 (n:Int)):=hS.cellP aP 10 rfl
   have w1:IntKind.u64.wrap (n:Int)=(n:Int):=by rw [IntKind.wrap_u64];have:=Hn.out;omega
   have w2':(n:Int)%18446744073709551616=(n:Int):=by have:=Hn.out;omega
   obtain ⟨m8,Qy⟩:∃ m8,8 * n=m8:=⟨_,rfl⟩
   have w3:IntKind.u64.wrap (8 * (n:Int))=(m8:Int):=by rw [IntKind.wrap_u64];have:=Hn.out;omega
   have hbig:Calls Tryz.prog 88 #[.int .u64 m8,.int .i64 8] wr (aI fun v w'=>∃ g,v = .slice (some ⟨g,0,none⟩) 8 8∧Sat w0 w' (aK v (aA.fE m8 8)::aK (.slice ta tn tc) (r++[128]++List.replicate k 0)::pt p (.cells (hs11 s (.slice ra rn rc) n) 179 (0,0))::pt b2 (.cells (ay ak.zero32).toArray 30 (0,0))::F)):=NR (.inr rfl) (ac2 m8 (by have:=Hn.out;omega) hS)
   have WM:=uQ Qy
   have hmod:(r++[128]++List.replicate k 0++aA.fE m8 8).length%64=0:=by
    rw [List.length_append,hlen]
    unfold aA.fE
    rw [List.length_reverse,ak.gW]
    omega
   have hTl:(r++[128]++List.replicate k 0++aA.fE m8 8).length≤300:=by
    rw [List.length_append,hlen]
    unfold aA.fE
    rw [List.length_reverse,ak.gW]
    omega
   have MI:=uQ hmod;have Md:=uQ hTl
   have hln:(ay (r++[128]++List.replicate k 0)).length+(ay (aA.fE m8 8)).length≤2147483648:=by rw [← List.length_append,← jQ,aU];omega
   have jX:=uQ hln
   have hDD:=HD.out
   rw [WM.out,MO.out]at hDD
   have HD2:=uQ hDD
   clear ht1 ht2 ht3 hlen hrl hzz hq hq2 htn hkz hk Qy hmod hTl hln hS MO hDD HD
   generalize r++[128]++List.replicate k 0=pd at *
   generalize aA.fE m8 8=bg at *
   go_wp2_with fail
   refine hbig.mono ?_
   rintro ee w5 ⟨v,rfl,g,rfl,h6⟩
   clear hbig e10 w1 w2' w3 c1
   go_wp2_with (with_reducible apply jf)
   refine ⟨wY 5 1 1 au h6 ah ah (xs:=ay pd) (ys:=ay bg) aP (Sat.rd h6) (jU _) jX.out aJ ?_⟩
   intro tv w6 h7
   rw [← jQ]at h7
   obtain ⟨T,hT⟩:∃ T,pd++bg=T:=⟨_,rfl⟩
   rw [hT]at h7 MI Md HD2
   clear h6 hT
   have h7:Sat w0 w6 (pt p (.cells (hs11 s (.slice ra rn rc) n) 179 (0,0))::aK tv T::pt b2 (.cells (ay ak.zero32).toArray 30 (0,0))::F):=(show Sat w0 w6 (aK tv T::_) from h7).sb
   have QG:w6.rangeAt p 1 (iG s).toList:=fun k v hk=>h7.cellP aH (1+k) (by rcases k with _|_|_|_|_|_|_|_|k <;> first|exact hk|cases hk)
   obtain ⟨a0,m0,c0,rfl,_,_,hm0⟩:=iY (h7.pick (A:=aK tv T) aP)
   have Gt:=uQ hm0
   clear hm0
   go_wp2_with (first
    |((with_reducible refine bI ⟨?_⟩);refine jw (b:=p) (o:=1) (iG s).toList ah QG Tryz.underlying176 rfl au ?_)
    |(with_reducible apply dY))
   refine ⟨dS F7 h7 rfl ?_⟩
   intro b4 w7 h8
   clear h7 QG
   go_wp2_with (with_reducible apply bU)
   refine ⟨eH (iG s) h8 ah ah ah bJ au ah ?_⟩
   intro w8 h9
   clear h8
   obtain ⟨FF,BA⟩:∃ FF,FF=aK (.slice a0 m0 c0) T::pt b2 (.cells (ay ak.zero32).toArray 30 (0,0))::F:=⟨_,rfl⟩
   have h10:Sat w0 w8 (pt b4 (.cells (iG s) 176 (0,0))::FF):=by rw [BA];exact h9.sb
   have QI:RS w0 FF (.slice a0 m0 c0) T:=by
    rw [BA]
    exact RS.sK (F:=pt b2 (.cells (ay ak.zero32).toArray 30 (0,0))::F) (w:=w8) (h9.sb)
   have Gf:Ro w0 FF kE:=by rw [BA];exact Ro.os HK.out
   have VX:=uQ BA;have Gf:=uQ Gf
   clear h9 BA HK
   go_wp2_with fail
   go_frame
   go_loopg [3] (m0 / 64) (fun g bq wr=>∃ (b':ak.Bs) (a':Option Addr) (c' m:Nat) (s':aA.St),bq = .slice a' m c'∧b'.length=m∧g=m / 64∧m≤300∧m%64=0∧s'.Ok∧RS w0 FF (.slice a' m c') b'∧((aA.blocks (b'.length / 64) s' b').1.l.flatMap fun w=>aA.fE w 4)=D∧Sat w0 wr (pt b4 (.cells (iG s') 176 (0,0))::FF))
   case atStart=>exact ⟨T,a0,c0,m0,s,rfl,Gt.out.symm,rfl,by rw [Gt.out];exact Md.out,by rw [Gt.out];exact MI.out,Hs.out,QI,HD2.out,h10⟩
   case round=>
    obtain ⟨b',a',c',m,s',rfl,hm,rfl,hm2,Jb,hs',hrs,hbl,hS⟩:=hrel
    clear h10 QI
    by_cases h64:64≤m
    rotate_left
    ·obtain rfl:m=0:=by omega
     rw [aA.NU oQ]at hbl
     have lK:=uQ hbl
     have hS:Sat w0 wr (pt b4 (.cells (iG s') 176 (0,0))::pt b2 (.cells (ay ak.zero32).toArray 30 (0,0))::F):=by
      rw [VX.out]at hS
      exact hS.sb
     clear hm hm2 Jb hrs hbl h64
     go_wp2_with (with_reducible apply dY)
     refine ⟨dS oz hS rfl ?_⟩
     intro b5 w9 h11
     go_wp2_with ((with_reducible refine bI ⟨?_⟩);refine fB (cs:=iG s') h11 ah aP Tryz.underlying176 rfl au ?_)
     have h12:Sat w0 w9 (pt b5 (.cells (ay (D.take (4 * 0)++List.replicate (32 - 4 * 0) 0)).toArray 30 (0,0))::pt b2 (.cells (ay ak.zero32).toArray 30 (0,0))::F):=h11.sb
     clear hS h11
     have IK:D=s'.l.flatMap fun w=>aA.fE w 4:=lK.out.symm
     have hDl:D.length=32:=by rw [IK,Iw _ zk];rfl
     have VW:=uQ IK;have yR:=uQ hDl;have GL:=uQ hs'
     clear IK hDl hs'
     go_wp2_with fail
     go_loopg [49] 8 (fun g iq wr=>∃ i:Nat,g=8 - i∧i≤8∧iq = .int .i64 i∧Sat w0 wr (pt b5 (.cells (ay (D.take (4 * i)++List.replicate (32 - 4 * i) 0)).toArray 30 (0,0))::pt b2 (.cells (ay ak.zero32).toArray 30 (0,0))::F))
     case atStart=>exact ⟨0,rfl,Nat.zero_le _,rfl,h12⟩
     case round=>
      obtain ⟨i,rfl,hi,rfl,hS⟩:=hrel
      clear h12
      by_cases hil:i<8
      rotate_left
      ·obtain rfl:i=8:=by omega
       have hS:Sat w0 wr (pt b5 (.cells (ay D).toArray 30 (0,0))::pt b2 (.cells (ay ak.zero32).toArray 30 (0,0))::F):=by
        have e:D.take (4 * 8)++List.replicate (32 - 4 * 8) 0=D:=by
         rw [List.take_of_length_le (by rw [yR.out];exact Nat.le_refl 32)]
         exact List.append_nil _
        rw [e]at hS
        exact hS
       have dw:=uQ (show (ay D).toArray.size=32 by rw [List.size_toArray,aU,yR.out])
       have jA:=uQ (show (ay D).toArray.toList.all (·.oneCell')=true by rw [List.all_eq_true];exact jU _)
       clear hi hil
       obtain ⟨A,hA⟩:∃ A,(ay D).toArray=A:=⟨_,rfl⟩
       rw [hA]at hS dw jA
       have HA:=uQ hA
       clear hA
       go_wp2_with (first
        |((with_reducible refine bI ⟨?_⟩);refine fB (cs:=A) hS ah aH Tryz.underlying30 rfl (by rw [dw.out];kernel_rfl) ?_)
        |(with_reducible apply bU))
       refine ⟨eH A (hS.sb:Sat w0 wr (pt b2 (.cells (ay ak.zero32).toArray 30 (0,0))::F)) ah ah (dw.out.trans ah) bJ (by rw [dw.out];kernel_rfl) jA.out ?_⟩
       intro w10 h13
       have gV:(Tryz.prog.info? 30).map (·.size)=some A.size:=by rw [dw.out];kernel_rfl
       have hrc:=fun tmps hp=>uI (tmps:=tmps) (fn:=Tryz.f51) rfl h13 hp aH Tryz.underlying30 rfl gV
       go_wp2_with fail
       refine ⟨rfl,_,hrc _ ah,_,rfl,?_,h13.drop⟩
       rw [HA.out]
      have hx:s'.l[i]?=some (aA.at_ s'.l i):=by
       rcases i with _|_|_|_|_|_|_|_|i
       all_goals first|rfl|omega
      have hix:=aey s' hil
      have hlt:aA.at_ s'.l i<4294967296:=by
       have h:=GL.out
       rcases i with _|_|_|_|_|_|_|_|i
       ·exact h.a
       ·exact h.b
       ·exact h.c
       ·exact h.d
       ·exact h.e
       ·exact h.f
       ·exact h.g
       ·exact h.h
       ·omega
      have htk:=Pj (fun w=>aA.fE w 4) zk s'.l i _ hx
      rw [← VW.out]at htk
      generalize aA.at_ s'.l i=x at *
      have c1:(i:Int)<8:=oQ
      have hwi:=pU (i:=i)
      have jL:=uQ hil;have iM:=uQ htk
      clear hx htk hi hil
      go_wp2_with ((with_reducible refine XZ ⟨?_⟩);refine agO ah ah hix ?_)
      obtain ⟨lo,hlo⟩:∃ lo,4 * i=lo:=⟨_,rfl⟩
      have e1:IntKind.i64.wrap (4 * (i:Int))=(lo:Int):=by rw [IntWalk.i64_in _ oQ];omega
      have I8:lo+4≤32:=by have:=jL.out;omega
      have c3:(lo:Int)≤32:=oQ
      have QM:∀ w,(Instr.sliceAt 30 (ptr b5) (some (.int .i64 (lo:Int))) none none).run Tryz.prog w = .ok (.slice (some ⟨b5,lo,none⟩) (32 - lo) (32 - lo)) w:=fun w=>by
       have c4:¬ 32=lo:=oQ
       go_simp
      rw [hlo]at hS
      have Xi:=uQ (fun (hlo2:True)=>aaH (big:=aA.fE x 4) yR.out I8 (zk x) (by have:=iM.out;rw [show 4 * (i+1)=lo+4 by omega,hlo]at this;exact this))
      have vC:=uQ (show lo+4=4 * (i+1) by omega)
      have hsz:(ay (D.take lo++List.replicate (32 - lo) 0)).toArray.size=32:=by
       rw [List.size_toArray,aU,List.length_append,List.length_take,List.length_replicate,yR.out];omega
      have dw:=uQ hsz;have MF:=uQ I8
      have hbig:∀ (w':World) (G:List aC),Sat w0 w' G→Calls Tryz.prog 88 #[.int .u64 x,.int .i64 4] w' (aI fun v w''=>∃ g,v = .slice (some ⟨g,0,none⟩) 4 4∧Sat w0 w'' (aK v (aA.fE x 4)::G)):=fun w' G hw=>NR (.inl rfl) (CO x oQ hw)
      have Hbig:=uQ hbig
      have x1:IntKind.u64.wrap (x:Int)=(x:Int):=by rw [IntKind.wrap_u64];omega
      have x2:(x:Int)%18446744073709551616=(x:Int):=oQ
      generalize (ay (D.take lo++List.replicate (32 - lo) 0)).toArray=cur at *
      have jE:=hS.drew
      clear hS hlo I8 c3 hlt hix c1 hsz hbig iM
      have hG:True:=trivial
      refine dh [] (fun w'=>True) au ?_
      refine rP 0 ?_ (y:=aG)
      refine rP 1 ?_ (y:=dB)
      refine rP 2 ?_ (y:=(ahb aj aj QM))
      refine rP 3 ?_ (y:=aG)
      refine rP 4 ?_ (y:=(VE aj bT))
      refine bG 5 aj au (fun K hK=>?_)
      (refine eU au aj aj ?_)
      refine (Hbig.out _ _ jE).mono ?_
      rintro ee fU ⟨v,rfl,g2,rfl,h15⟩
      refine hK _ _ (.inr (.inl trivial)) ?_
      clear hK jE QM e1 x1 x2
      refine bG 6 aj au (fun K hK=>?_)
      refine Y4 (ay (aA.fE x 4)) (h15.sb:Sat w0 fU (pt b5 (.cells cur 30 (0,0))::aK (.slice (some ⟨g2,0,none⟩) 4 4) (aA.fE x 4)::pt b2 (.cells (ay ak.zero32).toArray 30 (0,0))::F)) aj aj (by rw [aU,zk];have:=MF.out;show 4=Nat.min 4 (32 - lo);exact (Nat.min_eq_left oQ).symm) (fun j v hj=>by
       obtain ⟨a,n,c,he,_,hc⟩:=Sat.rd h15
       cases he
       obtain ⟨ad,h1,h2⟩:=hc j v hj
       cases h1
       exact h2) (by rw [aU,zk,dw.out];exact MF.out) (jU _) ?_
      intro w12 h16
      refine hK _ _ (.inr (.inl trivial)) ?_
      clear hK h15
      rw [Xi.out trivial,vC.out]at h16
      refine cu au ?_
      go_wp2_with fail
      go_roundg (8 - (i+1))
      case measure=>have:=jL.out;omega
      case rel=>exact ⟨i+1,rfl,Nat.succ_le_of_lt jL.out,by first|rfl|go_num,h16.sb⟩
    have c1:(0:Int)<(m:Int):=oQ
    have c1':0<m:=oQ
    obtain ⟨_,_,_,hce,q1,q2⟩:=hrs.cap
    cases hce
    have uD:=fun w=>KO (a:=a') (n:=m) (c:=c') (k:=64) oQ w
    have uz:=fun w=>zX (a:=a') (n:=m) (c:=c') (k:=64) h64 w
    have yA:RS w0 FF (.slice a' b'.length c') b':=by rw [hm];exact hrs
    have hT:=yA.to (k:=64) oQ c' oQ (Nat.le_refl _)
    have hF:=yA.from (k:=64) oQ
    rw [hm]at hF
    obtain ⟨ta,tc,htd⟩:∃ ta tc,sliced a' 0 64 c' 1 = .slice ta 64 tc:=⟨_,_,rfl⟩
    obtain ⟨fa,fc,hfd⟩:∃ fa fc,sliced a' 64 m c' 1 = .slice fa (m - 64) fc:=⟨_,_,rfl⟩
    rw [htd]at uD hT
    rw [hfd]at uz hF
    have uD:∀ w,(Instr.sliceAt 27 (.slice a' m c') none (some (.int .i64 64)) none).run Tryz.prog w = .ok (.slice ta 64 tc) w:=uD
    have uz:∀ w,(Instr.sliceAt 27 (.slice a' m c') (some (.int .i64 64)) none none).run Tryz.prog w = .ok (.slice fa (m - 64) fc) w:=uz
    have hmore:=aA.NV (s:=s') (b:=b') oQ
    rw [hmore]at hbl
    have hln:(b'.drop 64).length=m - 64:=by rw [List.length_drop,hm]
    have Bz:(b'.take 64).length=64:=by rw [List.length_take];omega
    have lK:=uQ hbl;have jX:=uQ hln;have HF:=uQ hF;have vk:=uQ (And.intro h64 (And.intro hm2 Jb))
    have htk:=uQ (fun (w':World) (hw:Sat w0 w' (pt b4 (.cells (iG s') 176 (0,0))::FF))=>Uw Bz hs' (hT.more iJ) (Ro.os Gf.out) hw)
    have bY:=uQ (aA.Le s' (b'.take 64))
    obtain ⟨s2,hs2⟩:∃ s2,aA.take s' (b'.take 64)=s2:=⟨_,rfl⟩
    rw [hs2]at htk lK bY
    have h3:=hS.drew
    have hG:World.rangeAt _ b4 0 (iG s').toList:=fun k v hk=>h3.cellP aH (0+k) (by rw [Nat.zero_add,← Array.getElem?_toList];exact hk)
    clear hmore hln hF hrs yA hT hbl hs' hm q1 q2 htd hfd hs2 Bz hS h64 hm2 Jb
    go_wp2_with fail
    refine dh [3,4] (fun w'=>w'.rangeAt b4 0 (iG s').toList) au ?_
    refine dK 0 aj au bC (gu (b:=b4) (o:=0) (iG s').toList ah Tryz.underlying176 rfl au (fun w hw=>hw)) aQ gQ ?_
    clear hG
    refine rP 1 ?_ (y:=aG)
    refine rP 2 ?_ (y:=(VF aj aj uD))
    refine bG 3 aj au (fun K hK=>?_)
    (refine eU au aj aj ?_)
    refine (htk.out _ h3).mono ?_
    rintro ee w4 ⟨v,rfl,rfl,h4⟩
    refine hK _ _ (.inl rfl) ?_
    clear hK h3 htk
    refine bG 4 aj au (fun K hK=>?_)
    refine jD (cs':=iG s2) h4 aj aj ah bJ bH au ah ?_
    intro w5 h5
    refine hK _ _ (.inl rfl) ?_
    clear hK h4
    refine cu au ?_
    go_wp2_with ((with_reducible refine xJ ⟨?_⟩);refine yM ah ah uz ?_)
    go_roundg ((m - 64) / 64)
    case measure=>have:=vk.out;omega
    case rel=>exact ⟨b'.drop 64,fa,fc,m - 64,s2,rfl,jX.out,rfl,by have:=vk.out;omega,by have:=vk.out;omega,bY.out,HF.out,lK.out,h5⟩
end
end Go.Proofs.YtlimfgdbfadohaaGreatDoor
namespace Go.aA
theorem UR (b:Bs):sum b=((blocks ((pad (blocks (b.length / 64) begin b).2++fE (8 * b.length) 8).length / 64) (blocks (b.length / 64) begin b).1 (pad (blocks (b.length / 64) begin b).2++fE (8 * b.length) 8)).1.l.flatMap fun w=>fE w 4):=rfl
end Go.aA
namespace Go.Proofs.YtlimfgdbfadohaaGreatDoor
open Go Go.Sl Go.aB Go.MapKept Go.RowKit
theorem lg (b:ak.Bs):(aA.sum b).length=32:=by
 rw [aA.UR,Iw _ zk];rfl
section
variable {w0 w:World}{F:List aC}{bv:Value}{b:ak.Bs}
set_option maxRecDepth 20000 in
theorem C9 (hl:b.length≤1073741824) (hr:RS w0 F bv b) (hK:Ro w0 F kE) (h:Sat w0 w F) :
  Calls Tryz.prog 22 #[bv] w (aI fun v w'=>v = .agg (ay (aA.sum b)).toArray∧Sat w0 w' F):=by
 obtain ⟨D,hD⟩:∃ D,aA.sum b=D:=⟨_,rfl⟩
 rw [hD]
 have hDl:D.length=32:=by rw [← hD,lg]
 rw [aA.UR]at hD
 have HD:=uQ hD;have Hr:=uQ hr;have HK:=uQ hK;have Hl:=uQ hl;have yR:=uQ hDl
 clear hD hr hK hl hDl
 go_enter Tryz.func22,Tryz.ntmps22
 go_wp2_with (with_reducible apply dY)
 refine ⟨dS oz h rfl ?_⟩
 intro b2 w2 h2
 clear h
 have h2:Sat w0 w2 (pt b2 (.cells (ay ak.zero32).toArray 30 (0,0))::F):=h2
 go_wp2_with fail
 refine (afb h2).mono ?_
 rintro ee w3 ⟨v,rfl,p,rfl,h3⟩
 clear h2
 go_wp2_with fail
 refine (afd Hl.out (Hr.out.more iJ) (Ro.os HK.out) h3).mono ?_
 rintro ee w4 ⟨v,rfl,ra,rn,rc,h4,QF,hok⟩
 clear h3
 have hs:=afc QF Hl.out hok (Ro.os HK.out) h4
 rw [HD.out]at hs
 clear h4 QF hok
 go_wp2_with fail
 refine hs.mono ?_
 rintro ee w5 ⟨v,rfl,rfl,h5⟩
 clear hs
 have hsz:(ay D).toArray.size=32:=by rw [List.size_toArray,aU,yR.out]
 have hon:(ay D).toArray.toList.all (·.oneCell')=true:=by rw [List.all_eq_true];exact jU _
 obtain ⟨A,hA⟩:∃ A,(ay D).toArray=A:=⟨_,rfl⟩
 rw [hA]at hsz hon ⊢
 have HA:=uQ hA;have dw:=uQ hsz;have jA:=uQ hon
 clear hA hsz hon
 go_wp2_with (with_reducible apply bU)
 refine ⟨eH A h5 ah ah (dw.out.trans ah) bJ (by rw [dw.out];kernel_rfl) jA.out ?_⟩
 intro w6 h6
 have gV:(Tryz.prog.info? 30).map (·.size)=some A.size:=by rw [dw.out];kernel_rfl
 have hrc:=fun tmps hp=>uI (tmps:=tmps) (fn:=Tryz.f22) rfl h6 hp aH Tryz.underlying30 rfl gV
 go_wp2_with fail
 refine ⟨rfl,_,hrc _ ah,_,rfl,?_,h6.drop⟩
 rw [HA.out]
end
end Go.Proofs.YtlimfgdbfadohaaGreatDoor
namespace Go.Tab
end Go.Tab
namespace Go.Proofs.YtlimfgdbfadohaaGreatDoor
open Go Go.Sl Go.aB Go.MapKept Go.RowKit
section
variable {w0 w:World}{F:List aC}{p m K r ps pn B:Nat}{L:Seg.Log}{M:aB}{seg:Int}{d:Bool}{k:ak.Bs}{mp:ak.Bs→Option Seg.bF}
theorem adP (h:Sat w0 w (dA r m seg p ps pn d::aZ pn mp B::F)) :
  Calls Tryz.prog 40 #[ptr r] w (aI fun v w'=>∃ t:Tab.Tb Seg.bF,(t.Ok∧t.Is mp)∧v = .int .i64 t.n∧w=w'):=by
 have hok:=yH h
 have hle:=abq (h.sb:Sat w0 w (aZ pn mp B::dA r m seg p ps pn d::F))
 have e4:w.cell? ⟨r,4,none⟩=some (.pointer (some ⟨pn,0,none⟩)):=h.cellAt 4 _ rfl
 clear h
 go_enter Tryz.func40,Tryz.ntmps40
 go_wp2_with fail
 refine hok.mono ?_
 rintro e w1 ⟨v,rfl,rfl,rfl⟩
 go_wp2_with fail
 refine hle.mono ?_
 rintro e w2 ⟨v,rfl,t,ht,rfl,rfl⟩
 go_wp2_with fail
 go_ret
 exact ⟨_,rfl,t,ht,rfl,rfl⟩
set_option maxRecDepth 20000 in
theorem ad8 (hB:B≤134217000) (hk:k.length=32) (data:ak.Bs) (da:Option Addr) (dc:Nat) (hd:Ro w0 F (bK 1 (.slice da data.length dc) (ay data))) (BI:data.length≤1099511627) (hL:L.Ok) (hM:M.Ok K) (oW:K+4≤1099511627776) (hH:Ro w0 F Half)
  (h0:(L.append M ⟨0,k,data⟩).2.2=0) (h:Sat w0 w (dA r m seg p ps pn d::aZ pn mp B::aS p m L::aT m M::F)) :
  Calls Tryz.prog 57 #[ptr r,.agg (ay k).toArray,.slice da data.length dc] w (aI fun v w'=>v=errno 0 ∧
   Sat w0 w' (dA r m seg p ps pn true::aZ pn (Tab.put mp k (L.append M ⟨0,k,data⟩).2.1) (B+1)::aS p m (L.append M ⟨0,k,data⟩).1.1::aT m (L.append M ⟨0,k,data⟩).1.2::F)):=by
 have hks:(ay k).length=32:=by rw [aU,hk]
 have hap:=uQ (fun (w':World) (R:List aC) (hh:Ro w0 R Half) (hr:Ro w0 R (bK 1 (.slice da data.length dc) (ay data))) (hw:Sat w0 w' (aS p m L::aT m M::R))=>Rk ⟨0,k,data⟩ hk da dc hr hh BI hL hM oW hw)
 generalize L.append M ⟨0,k,data⟩=q at *
 obtain ⟨⟨L2,M2⟩,pc,e2⟩:=q
 dsimp only at h0 hap ⊢
 subst h0
 have HB:=uQ hB;have tK:=uQ hk;have dW:=uQ hks;have Hd:=uQ hd;have HH:=uQ hH
 clear hB hk hks hd BI hL hM oW hH
 go_enter Tryz.func57,Tryz.ntmps57
 go_wp2_with (with_reducible apply fH)
 refine ⟨fO h aj aj ?_⟩
 intro b4 w4 h4
 replace h4:Sat w0 w4 (pt b4 (.cells (ay k).toArray 30 (0,0))::dA r m seg p ps pn d::aZ pn mp B::aS p m L::aT m M::F):=h4
 clear h
 go_wp2_with fail
 refine (yH (h4.sb:Sat w0 w4 (dA r m seg p ps pn d::pt b4 (.cells (ay k).toArray 30 (0,0))::aZ pn mp B::aS p m L::aT m M::F))).mono ?_
 rintro ee w5 ⟨v,rfl,rfl,rfl⟩
 go_wp2_with fail
 have h5:=h4.drew
 clear h4
 refine dh [7,8,9,10,12,13] (fun w'=>w'.cell? ⟨r,2,none⟩=some (.pointer (some ⟨p,0,none⟩))∧w'.rangeAt b4 0 (ay k)) au ?_
 have lS:∀ (w':World) (R:List aC) (dd:Bool),Sat w0 w' (pt b4 (.cells (ay k).toArray 30 (0,0))::dA r m seg p ps pn dd::R)→w'.cell? ⟨r,2,none⟩=some (.pointer (some ⟨p,0,none⟩))∧w'.rangeAt b4 0 (ay k):=fun w' R dd hw=>⟨hw.cellP aP 2 rfl,fun j z hj=>by rw [Nat.zero_add];exact hw.cellP aH j (by rw [List.getElem?_toArray];exact hj)⟩
 have lY:=uQ lS
 have hG:=lS _ _ _ h5
 clear lS
 refine rP 0 ?_ (y:=aG)
 refine rP 1 ?_ (y:=dL)
 refine rP 2 ?_ (y:=cO)
 refine rt 3 (h:=?_)
 refine dK 4 aj au bC (gu (b:=b4) (o:=0) (ay k) ah Tryz.underlying30 rfl (by rw [dW.out];kernel_rfl) (fun w hw=>hw.2)) aQ gQ ?_
 clear hG
 refine rP 5 ?_ (y:=aG)
 refine rP 6 ?_ (y:=(F5 aj aj aj (fun w=>aej ⟨0,k,data⟩ tK.out da data.length dc w)))
 refine rM 7 11 aj aj au (fun K hK=>?_) (fun K hK=>?_)
 ·(refine eU au aj aj ?_)
  refine (hap.out _ _ (Ro.os HH.out) (Ro.os Hd.out) (h5.sb:Sat w0 _ (aS p m L::aT m M::pt b4 (.cells (ay k).toArray 30 (0,0))::dA r m seg p ps pn d::aZ pn mp B::F))).mono ?_
  rintro ee w6 ⟨v,rfl,rfl,h6⟩
  refine hK _ _ (.inl rfl) ?_
  clear hK hap h5
  refine rP 8 ?_ (y:=aG)
  refine rP 9 ?_ (y:=(fC aj bT))
  refine rP 10 ?_ (y:=(fC aj bT))
  refine bG 11 aj au (fun K hK=>?_)
  refine kP (qP) h6 rfl ?_
  intro b7 w7 h7
  refine hK _ _ (.inr (.inl (lY.out _ _ _ (h7.sb:Sat w0 w7 (pt b4 (.cells (ay k).toArray 30 (0,0))::dA r m seg p ps pn d::aZ pn mp B::pt b7 (.cells (aW Seg.bF.zero).toArray 107 (0,0))::aS p m L2::aT m M2::F))))) ?_
  clear hK h6
  have h8:Sat w0 w7 (pt b7 (.cells (aW Seg.bF.zero).toArray 107 (0,0))::pt b4 (.cells (ay k).toArray 30 (0,0))::dA r m seg p ps pn d::aZ pn mp B::aS p m L2::aT m M2::F):=h7.sb
  clear h7
  refine bG 12 aj au (fun K hK=>?_)
  refine jD (cs':=(aW pc).toArray) h8 aj aj ah bJ bH au ah ?_
  intro w9 h9
  refine hK _ _ (.inl rfl) ?_
  clear hK h8
  refine rP 13 ?_ (y:=dN)
  refine cu au ?_
  go_wp2_with fail
  have h10:=h9.drew
  clear h9
  replace h10:Sat w0 _ (pt b4 (.cells (ay k).toArray 30 (0,0))::dA r m seg p ps pn d::aZ pn mp B::pt b7 (.cells (aW pc).toArray 107 (0,0))::aS p m L2::aT m M2::F):=h10.sb
  refine dh [6] (fun w'=>w'.cell? ⟨r,4,none⟩=some (.pointer (some ⟨pn,0,none⟩))∧w'.rangeAt b4 0 (ay k)∧w'.rangeAt b7 0 (aW pc)) au ?_
  have hG:World.cell? _ ⟨r,4,none⟩=some (.pointer (some ⟨pn,0,none⟩))∧World.rangeAt _ b4 0 (ay k)∧World.rangeAt _ b7 0 (aW pc):=⟨h10.cellP aP 4 rfl,fun j z hj=>by rw [Nat.zero_add];exact h10.cellP aH j (by rw [List.getElem?_toArray];exact hj),fun j z hj=>by rw [Nat.zero_add];exact h10.cellP iy j (by rw [List.getElem?_toArray];exact hj)⟩
  refine rP 0 ?_ (y:=aG)
  refine rP 1 ?_ (y:=dL)
  refine rP 2 ?_ (y:=cO)
  refine rt 3 (h:=?_)
  refine dK 4 aj au bC (gu (b:=b4) (o:=0) (ay k) ah Tryz.underlying30 rfl (by rw [dW.out];kernel_rfl) (fun w hw=>hw.2.1)) aQ gQ ?_
  refine dK 5 aj au bC (gu (b:=b7) (o:=0) (aW pc) ah Tryz.underlying107 rfl au (fun w hw=>hw.2.2)) aQ gQ ?_
  clear hG
  refine bG 6 aj au (fun K hK=>?_)
  (refine vU au aj aj aj ?_)
  refine (Kr HB.out tK.out pc (h10.sb:Sat w0 _ (aZ pn mp B::pt b4 (.cells (ay k).toArray 30 (0,0))::dA r m seg p ps pn d::pt b7 (.cells (aW pc).toArray 107 (0,0))::aS p m L2::aT m M2::F))).mono ?_
  rintro ee fU ⟨v,rfl,h11⟩
  refine hK _ _ (.inl rfl) ?_
  clear hK h10
  refine cu au ?_
  go_wp2_with (with_reducible apply bU)
  refine ⟨eX (cs':=#[ptr m,.int .i64 seg,ptr p,ptr ps,ptr pn,.bool true]) (h11.sb:Sat w0 fU (dA r m seg p ps pn d::aZ pn (Tab.put mp k pc) (B+1)::pt b4 (.cells (ay k).toArray 30 (0,0))::pt b7 (.cells (aW pc).toArray 107 (0,0))::aS p m L2::aT m M2::F)) ah ah ah bJ bH au ah ?_⟩
  intro w12 h12
  go_wp2_with fail
  go_ret
  exact ⟨_,rfl,rfl,h12.sb⟩
 ·refine kP (qP) h5 rfl ?_
  intro b7 w6 h6
  refine hK _ _ (.inr (.inl (lY.out _ _ _ (h6.sb:Sat w0 w6 (pt b4 (.cells (ay k).toArray 30 (0,0))::dA r m seg p ps pn d::pt b7 (.cells (aW Seg.bF.zero).toArray 107 (0,0))::aZ pn mp B::aS p m L::aT m M::F))))) ?_
  clear hK h5
  refine bG 7 aj au (fun K hK=>?_)
  (refine eU au aj aj ?_)
  refine (hap.out _ _ (Ro.os HH.out) (Ro.os Hd.out) (h6.sb:Sat w0 _ (aS p m L::aT m M::pt b7 (.cells (aW Seg.bF.zero).toArray 107 (0,0))::pt b4 (.cells (ay k).toArray 30 (0,0))::dA r m seg p ps pn d::aZ pn mp B::F))).mono ?_
  rintro ee w7 ⟨v,rfl,rfl,h7⟩
  refine hK _ _ (.inl rfl) ?_
  clear hK hap h6
  refine rP 8 ?_ (y:=aG)
  refine rP 9 ?_ (y:=(fC aj bT))
  refine rP 10 ?_ (y:=(fC aj bT))
  have h8:Sat w0 w7 (pt b7 (.cells (aW Seg.bF.zero).toArray 107 (0,0))::pt b4 (.cells (ay k).toArray 30 (0,0))::dA r m seg p ps pn d::aZ pn mp B::aS p m L2::aT m M2::F):=h7.sb
  clear h7
  refine bG 12 aj au (fun K hK=>?_)
  refine jD (cs':=(aW pc).toArray) h8 aj aj ah bJ bH au ah ?_
  intro w9 h9
  refine hK _ _ (.inl rfl) ?_
  clear hK h8
  refine rP 13 ?_ (y:=dN)
  refine cu au ?_
  go_wp2_with fail
  have h10:=h9.drew
  clear h9
  replace h10:Sat w0 _ (pt b4 (.cells (ay k).toArray 30 (0,0))::dA r m seg p ps pn d::aZ pn mp B::pt b7 (.cells (aW pc).toArray 107 (0,0))::aS p m L2::aT m M2::F):=h10.sb
  refine dh [6] (fun w'=>w'.cell? ⟨r,4,none⟩=some (.pointer (some ⟨pn,0,none⟩))∧w'.rangeAt b4 0 (ay k)∧w'.rangeAt b7 0 (aW pc)) au ?_
  have hG:World.cell? _ ⟨r,4,none⟩=some (.pointer (some ⟨pn,0,none⟩))∧World.rangeAt _ b4 0 (ay k)∧World.rangeAt _ b7 0 (aW pc):=⟨h10.cellP aP 4 rfl,fun j z hj=>by rw [Nat.zero_add];exact h10.cellP aH j (by rw [List.getElem?_toArray];exact hj),fun j z hj=>by rw [Nat.zero_add];exact h10.cellP iy j (by rw [List.getElem?_toArray];exact hj)⟩
  refine rP 0 ?_ (y:=aG)
  refine rP 1 ?_ (y:=dL)
  refine rP 2 ?_ (y:=cO)
  refine rt 3 (h:=?_)
  refine dK 4 aj au bC (gu (b:=b4) (o:=0) (ay k) ah Tryz.underlying30 rfl (by rw [dW.out];kernel_rfl) (fun w hw=>hw.2.1)) aQ gQ ?_
  refine dK 5 aj au bC (gu (b:=b7) (o:=0) (aW pc) ah Tryz.underlying107 rfl au (fun w hw=>hw.2.2)) aQ gQ ?_
  clear hG
  refine bG 6 aj au (fun K hK=>?_)
  (refine vU au aj aj aj ?_)
  refine (Kr HB.out tK.out pc (h10.sb:Sat w0 _ (aZ pn mp B::pt b4 (.cells (ay k).toArray 30 (0,0))::dA r m seg p ps pn d::pt b7 (.cells (aW pc).toArray 107 (0,0))::aS p m L2::aT m M2::F))).mono ?_
  rintro ee fU ⟨v,rfl,h11⟩
  refine hK _ _ (.inl rfl) ?_
  clear hK h10
  refine cu au ?_
  go_wp2_with (with_reducible apply bU)
  refine ⟨eX (cs':=#[ptr m,.int .i64 seg,ptr p,ptr ps,ptr pn,.bool true]) (h11.sb:Sat w0 fU (dA r m seg p ps pn d::aZ pn (Tab.put mp k pc) (B+1)::pt b4 (.cells (ay k).toArray 30 (0,0))::pt b7 (.cells (aW pc).toArray 107 (0,0))::aS p m L2::aT m M2::F)) ah ah ah bJ bH au ah ?_⟩
  intro w12 h12
  go_wp2_with fail
  go_ret
  exact ⟨_,rfl,rfl,h12.sb⟩
end
def vP:Tab.Slot Seg.bF:=⟨2,ak.zero32,Seg.bF.zero⟩
theorem aeL (w:World):(Instr.build 170 #[(0,.int .i64 2)]).run Tryz.prog w = .ok (.agg (slotL aW vP).toArray) w:=by
 refine (run_build (P:=Tryz.prog) [(0,.int .i64 2)] SY Ag (by
  intro p' hp
  simp only [List.mem_cons,List.not_mem_nil,or_false]at hp
  have hzz:(Value.agg (slotL aW (⟨0,ak.zero32,Seg.bF.zero⟩:Tab.Slot (Seg.bF))).toArray).cells.size=36:=by
   show (slotL aW (⟨0,ak.zero32,Seg.bF.zero⟩:Tab.Slot (Seg.bF))).toArray.size=36
   rw [List.size_toArray,gB aW _ aJ 3 rfl]
  rw [hzz]
  rcases hp with rfl
  exact ⟨0,rfl,by show 0+1≤36;omega⟩) w).trans ?_
 rfl
section
variable {w0 w:World}{F R:List aC}{p B:Nat}{sv:Value}{k:ak.Bs}{m:ak.Bs→Option (Seg.bF)}
set_option maxRecDepth 20000 in
theorem OA (hB:B≤134217000) (hk:k.length=32) (h:Sat w0 w (aZ p m B::F)) :
  Calls Tryz.prog 103 #[ptr p,.agg (ay k).toArray] w (aI fun v w'=>v = .bool (m k).isSome∧Sat w0 w' (aZ p (Tab.del m k) B::F)):=by
 obtain ⟨t,sv,⟨ok,is,hb⟩,hR⟩:=aZ.open h
 obtain ⟨d,he⟩:=ok.ends k
 have hsz:t.slots.length≤536872000:=by have:=ok.size;omega
 have Hlen:=uQ (show ∀ x∈t.slots,(slotL aW x).length=36 from fun x hx=>gB aW x (ok.good.key x hx) 3 (uG _))
 obtain ⟨la,lc,rfl⟩:=jm Hlen.out (Sat.rd (hR.pick aP)) aJ
 have hrl:0<(t.slots.flatMap (slotL aW)).length:=by rw [jr Hlen.out];have:=ok.good.gZ;omega
 obtain ⟨bk,rfl⟩:=sO (hR.pick aP) hrl
 have Hk:=uQ hk;have bY:=uQ ok;have fF:=uQ is;have Hb:=uQ hb;have He:=uQ he;have dw:=uQ hsz;have HB:=uQ hB
 have fZ:=uQ ok.good.gZ
 have nR:=uQ (show (ay k).length=32 by rw [aU,hk])
 clear h hk ok is hb he hsz hB hrl
 go_enter Tryz.func103,Tryz.ntmps103
 go_wp2_with (with_reducible apply fH)
 refine ⟨fO hR aj aj ?_⟩
 intro b4 w4 hS4
 have hA:Sat w0 w4 (dR p 172 (.slice (some ⟨bk,0,none⟩) t.slots.length lc) t.n t.gone::aF 170 36 (.slice (some ⟨bk,0,none⟩) t.slots.length lc) (t.slots.flatMap (slotL aW))::pt b4 (.cells (ay k).toArray 30 (0,0))::F):=hS4.sb
 clear hR hS4
 go_wp2_with fail
 refine (CJ fZ.out hA).mono ?_
 rintro ee w7 ⟨v',rfl,rfl,rfl⟩
 go_wp2_with ((with_reducible refine bI ⟨?_⟩);refine fB hA ah (aO (aO (aH (A:=pt b4 (.cells (ay k).toArray 30 (0,0)))))) Tryz.underlying30 rfl (by rw [List.size_toArray,nR.out];kernel_rfl) ?_)
 have hf:=Bl bY.out.good (Nat.le_trans dw.out aJ) Hk.out He.out hA
 clear hA
 refine hf.mono ?_
 rintro ee w8 ⟨v',rfl,x,hx,rfl,fG⟩
 clear hf
 have hlt:=Tab.jS (k:=k) (d:=d) fZ.out
 by_cases h1:x.st=1
 rotate_left
 ·have hd:decide (x.st=1)=false:=decide_eq_false h1
  have hno:m k=none:=by
   obtain ⟨_,q2⟩:=fF.out.some bY.out He.out hx
   exact q2 h1
  have Hno:=uQ hno
  have uY:=uQ (show Tab.del m k=m from by
   funext l
   unfold Tab.del
   split
   ·rename_i e;rw [e,hno]
   ·rfl)
  clear h1 hx hno hlt
  go_wp2_with fail
  go_ret
  exact ⟨_,rfl,by rw [Hno.out];rfl,by rw [uY.out];exact aZ.shut bY.out fF.out Hb.out (fG.sb)⟩
 ·have hd:decide (x.st=1)=true:=decide_eq_true h1
  have xF:=uQ (show (m k).isSome=true from by rw [(fF.out.some bY.out He.out hx).1 h1];rfl)
  have l9:=uQ (sU (f:=slotL aW) (k:=36) (i:=Tab.pos k t.slots.length d) (x:=vP) Hlen.out (gB aW _ rfl 3 rfl) hlt)
  obtain ⟨hn0,hok2⟩:=Tab.OB bY.out He.out hx h1 (z:=vP) rfl rfl
  have lN:=uQ (fun n g=>Tab.Rf fF.out (Tab.Il bY.out.good He.out hx h1 (z:=vP) rfl rfl).2 n g)
  have hrl:(t.slots.flatMap (slotL aW)).length=36 * t.slots.length:=jr Hlen.out
  have hls:=gB aW vP rfl 3 rfl
  have hwn:IntKind.i64.wrap ((t.n:Int) - 1)=((t.n - 1:Nat):Int):=by rw [IntWalk.i64_in _ (by have:=Hb.out;have:=HB.out;omega)];omega
  have hwg:IntKind.i64.wrap ((t.gone:Int)+1)=((t.gone+1:Nat):Int):=by rw [IntWalk.i64_in _ (by have:=Hb.out;have:=HB.out;omega)];omega
  have hle:(t.slots.set (Tab.pos k t.slots.length d) vP).length=t.slots.length:=List.length_set
  have Hb2:=uQ (show (t.n - 1)+(t.gone+1)≤B by have:=Hb.out;omega)
  have lQ:=uQ hok2
  generalize hns:t.slots.set (Tab.pos k t.slots.length d) vP=ns at *
  clear hns hok2
  clear h1 hx
  generalize Tab.pos k t.slots.length d=P0 at *
  have c0:(0:Int)≤(P0:Int):=oQ
  have c1:(P0:Int)<(t.slots.length:Int):=oQ
  go_wp2_with (first
   |((with_reducible refine bI ⟨?_⟩);refine gK fG ah aY bH aj au ?_)
   |((with_reducible apply wW);refine ⟨?_⟩;refine uM ah (fun w=>aeL w) ?_)
   |(with_reducible apply bU))
  refine ⟨Dp (vs:=slotL aW vP) (P0 * 36) fG ah ah rfl (fD bJ) (by rw [hrl,hls];omega) (by rw [hls];kernel_rfl) (kJ aW _ ah) ?_⟩
  intro w12 gq
  rw [← l9.out]at gq
  clear fG
  go_wp2_with (first
   |((with_reducible refine bI ⟨?_⟩);refine gK gq ah aY bH aj au ?_)
   |(with_reducible apply bU))
  refine ⟨eX (cs':=#[.slice (some ⟨bk,0,none⟩) t.slots.length lc,.int .i64 ((t.n - 1:Nat):Int),.int .i64 t.gone]) gq ah ah ah bJ bH au ah ?_⟩
  intro jH nK
  clear gq
  go_wp2_with (first
   |((with_reducible refine bI ⟨?_⟩);refine gK nK ah aY bH aj au ?_)
   |(with_reducible apply bU))
  refine ⟨eX (cs':=#[.slice (some ⟨bk,0,none⟩) t.slots.length lc,.int .i64 ((t.n - 1:Nat):Int),.int .i64 ((t.gone+1:Nat):Int)]) nK ah ah ah bJ bH au ah ?_⟩
  intro pq x9
  clear nK hwn hwg
  go_wp2_with fail
  have hSd:=x9.drew
  clear x9
  have hw8:IntKind.i64.wrap (8 * ((t.n - 1:Nat):Int))=8 * ((t.n - 1:Nat):Int):=IntWalk.i64_in _ (by have:=Hb.out;have:=HB.out;omega)
  have aaD:wrap64 (8 * ((t.n - 1:Nat):Int))=8 * ((t.n - 1:Nat):Int):=IntWalk.wrap64_in _ (by have:=Hb.out;have:=HB.out;omega)
  have Ar:=uQ (show t.n - 1≤134217728 by have:=Hb.out;have:=HB.out;omega)
  clear hn0
  generalize t.n - 1=n1 at *
  generalize t.gone+1=g1 at *
  by_cases c8:8<t.slots.length
  ·have xO:(8:Int)<(t.slots.length:Int):=by omega
   have Ia:decide ((8:Int)<(t.slots.length:Int))=true:=decide_eq_true xO
   by_cases c9:8 * n1<t.slots.length
   ·have xP:8 * (n1:Int)<(t.slots.length:Int):=by omega
    have Ib:decide (8 * (n1:Int)<(t.slots.length:Int))=true:=decide_eq_true xP
    refine dh [] (fun w'=>w'.cell? ⟨p,0,none⟩=some (.slice (some ⟨bk,0,none⟩) t.slots.length lc)∧w'.cell? ⟨p,1,none⟩=some (.int .i64 n1)) au ?_
    have hG:World.cell? _ ⟨p,0,none⟩=some (.slice (some ⟨bk,0,none⟩) t.slots.length lc)∧World.cell? _ ⟨p,1,none⟩=some (.int .i64 n1):=⟨hSd.cellP aY 0 rfl,hSd.cellP aY 1 rfl⟩
    refine rP 0 ?_ (y:=aG)
    refine rP 1 ?_ (y:=dL)
    refine rP 2 ?_ (y:=cO)
    refine rt 3 (h:=?_)
    refine rP 4 ?_ (y:=(nG aj bT))
    refine rP 5 ?_ (y:=dB)
    refine rP 6 ?_ (y:=aG)
    refine rP 7 ?_ (y:=(fV ah aj))
    refine rP 8 ?_ (y:=(xg ah aj))
    refine rP 9 ?_ (y:=(uN ah aj bT))
    refine dK 10 aj au bC (nC ah aj au (by intro wq hq;first|exact hq|exact hq.1|exact hq.2|exact hq.2.1|exact hq.2.2|exact hq.2.2.1|exact hq.2.2.2|exact hq.2.2.2.1|exact hq.2.2.2.2)) aQ gQ ?_
    refine rP 11 ?_ (y:=(FZ ah aj bT))
    refine rP 12 ?_ (y:=(fV ah aj))
    refine rP 13 ?_ (y:=(xg ah aj))
    refine rP 14 ?_ (y:=(uN ah aj bT))
    refine dK 15 aj au bC (nC ah aj au (by intro wq hq;first|exact hq|exact hq.1|exact hq.2|exact hq.2.1|exact hq.2.2|exact hq.2.2.1|exact hq.2.2.2|exact hq.2.2.2.1|exact hq.2.2.2.2)) aQ gQ ?_
    refine rP 16 ?_ (y:=(jJ ah aj aj bT))
    refine rP 17 ?_ (y:=(jJ ah aj aj bT))
    refine rP 18 ?_ (y:=(jK ah aj aj))
    clear hG
    refine cu au ?_
    try simp only [jB]
    try go_frame
    have hrn:=TJ (t:=⟨ns,n1,g1⟩) (N:=n1) lQ.out (Nat.le_refl _) Ar.out (by show ns.length≤_;have:=dw.out;omega) (hSd.sb:Sat w0 _ (dR p 172 (.slice (some ⟨bk,0,none⟩) t.slots.length lc) n1 g1::aF 170 36 (.slice (some ⟨bk,0,none⟩) t.slots.length lc) (ns.flatMap (slotL aW))::pt b4 (.cells (ay k).toArray 30 (0,0))::F))
    have e1:World.cell? _ ⟨p,1,none⟩=some (.int .i64 n1):=hSd.cellP aY 1 rfl
    clear hSd
    go_wp2_with fail
    refine hrn.mono ?_
    rintro ee Dk ⟨v',rfl,s',sv',lG,IU⟩
    clear hrn
    have AL:=uQ lG
    clear lG e1
    go_wp2_with fail
    go_ret
    exact ⟨_,rfl,by rw [xF.out];rfl,aZ.shut (t:=⟨s',n1,0⟩) AL.out.ok0 (AL.out.is (lN.out n1 g1) n1 0) (by have:=Hb2.out;simp only;omega) (IU.sb)⟩
   ·have xP:¬ 8 * (n1:Int)<(t.slots.length:Int):=by omega
    have Ib:decide (8 * (n1:Int)<(t.slots.length:Int))=false:=decide_eq_false xP
    refine dh [] (fun w'=>w'.cell? ⟨p,0,none⟩=some (.slice (some ⟨bk,0,none⟩) t.slots.length lc)∧w'.cell? ⟨p,1,none⟩=some (.int .i64 n1)) au ?_
    have hG:World.cell? _ ⟨p,0,none⟩=some (.slice (some ⟨bk,0,none⟩) t.slots.length lc)∧World.cell? _ ⟨p,1,none⟩=some (.int .i64 n1):=⟨hSd.cellP aY 0 rfl,hSd.cellP aY 1 rfl⟩
    refine rP 0 ?_ (y:=aG)
    refine rP 1 ?_ (y:=dL)
    refine rP 2 ?_ (y:=cO)
    refine rt 3 (h:=?_)
    refine rP 4 ?_ (y:=(nG aj bT))
    refine rP 5 ?_ (y:=dB)
    refine rP 6 ?_ (y:=aG)
    refine rP 7 ?_ (y:=(fV ah aj))
    refine rP 8 ?_ (y:=(xg ah aj))
    refine rP 9 ?_ (y:=(uN ah aj bT))
    refine dK 10 aj au bC (nC ah aj au (by intro wq hq;first|exact hq|exact hq.1|exact hq.2|exact hq.2.1|exact hq.2.2|exact hq.2.2.1|exact hq.2.2.2|exact hq.2.2.2.1|exact hq.2.2.2.2)) aQ gQ ?_
    refine rP 11 ?_ (y:=(FZ ah aj bT))
    refine rP 12 ?_ (y:=(fV ah aj))
    refine rP 13 ?_ (y:=(xg ah aj))
    refine rP 14 ?_ (y:=(uN ah aj bT))
    refine dK 15 aj au bC (nC ah aj au (by intro wq hq;first|exact hq|exact hq.1|exact hq.2|exact hq.2.1|exact hq.2.2|exact hq.2.2.1|exact hq.2.2.2|exact hq.2.2.2.1|exact hq.2.2.2.2)) aQ gQ ?_
    refine rP 16 ?_ (y:=(jJ ah aj aj bT))
    refine rP 17 ?_ (y:=(jJ ah aj aj bT))
    refine rP 18 ?_ (y:=(jK ah aj aj))
    clear hG
    refine cu au ?_
    try simp only [jB]
    try go_frame
    go_wp2_with fail
    go_ret
    exact ⟨_,rfl,by rw [xF.out];rfl,aZ.shut (t:=⟨ns,n1,g1⟩) lQ.out (lN.out n1 g1) Hb2.out (hSd.sb)⟩
  ·have xO:¬ (8:Int)<(t.slots.length:Int):=by omega
   have Ia:decide ((8:Int)<(t.slots.length:Int))=false:=decide_eq_false xO
   refine dh [] (fun w'=>w'.cell? ⟨p,0,none⟩=some (.slice (some ⟨bk,0,none⟩) t.slots.length lc)∧w'.cell? ⟨p,1,none⟩=some (.int .i64 n1)) au ?_
   have hG:World.cell? _ ⟨p,0,none⟩=some (.slice (some ⟨bk,0,none⟩) t.slots.length lc)∧World.cell? _ ⟨p,1,none⟩=some (.int .i64 n1):=⟨hSd.cellP aY 0 rfl,hSd.cellP aY 1 rfl⟩
   refine rP 0 ?_ (y:=aG)
   refine rP 1 ?_ (y:=dL)
   refine rP 2 ?_ (y:=cO)
   refine rt 3 (h:=?_)
   refine rP 4 ?_ (y:=(nG aj bT))
   refine rP 5 ?_ (y:=dB)
   refine rP 6 ?_ (y:=aG)
   refine dF 7 aj au bC ah gQ ?_
   refine dF 8 aj au bC ah gQ ?_
   refine dF 9 aj au bC ah gQ ?_
   refine dF 10 aj au bC ah gQ ?_
   refine dF 11 aj au bC ah gQ ?_
   refine dF 12 aj au bC ah gQ ?_
   refine dF 13 aj au bC ah gQ ?_
   refine dF 14 aj au bC ah gQ ?_
   refine dF 15 aj au bC ah gQ ?_
   refine dF 16 aj au bC ah gQ ?_
   refine dF 17 aj au bC ah gQ ?_
   refine rP 18 ?_ (y:=(jK ah aj aj))
   clear hG
   refine cu au ?_
   try simp only [jB]
   try go_frame
   go_wp2_with fail
   go_ret
   exact ⟨_,rfl,by rw [xF.out];rfl,aZ.shut (t:=⟨ns,n1,g1⟩) lQ.out (lN.out n1 g1) Hb2.out (hSd.sb)⟩
end
section
variable {w0 w:World}{F:List aC}{p m K r ps pn B:Nat}{L:Seg.Log}{M:aB}{seg:Int}{d:Bool}{k:ak.Bs}{mp:ak.Bs→Option Seg.bF}
set_option maxRecDepth 20000 in
theorem ad7 (hB:B≤268435000) (hk:k.length=32) (h:Sat w0 w (dA r m seg p ps pn d::aZ pn mp B::F)) :
  Calls Tryz.prog 90 #[ptr r,.agg (ay k).toArray] w (aI fun v w'=>v = .tuple #[.agg (aW ((mp k).getD Seg.bF.zero)).toArray,.bool (mp k).isSome]∧Sat w0 w' (dA r m seg p ps pn d::aZ pn mp B::F)):=by
 have Hk:=uQ hk;have dW:=uQ (show (ay k).length=32 by rw [aU,hk]);have HB:=uQ hB
 clear hk hB
 go_enter Tryz.func90,Tryz.ntmps90
 go_wp2_with (with_reducible apply fH)
 refine ⟨fO h aj aj ?_⟩
 intro b3 w3 h3
 go_wp2_with (with_reducible apply dY)
 refine ⟨dS qP h3 rfl ?_⟩
 intro b4 w4 h4
 replace h4:Sat w0 w4 (dA r m seg p ps pn d::pt b4 (.cells (aW Seg.bF.zero).toArray 107 (0,0))::pt b3 (.cells (ay k).toArray 30 (0,0))::aZ pn mp B::F):=h4.sb
 clear h h3
 go_wp2_with fail
 refine (yH h4).mono ?_
 rintro ee w5 ⟨v,rfl,rfl,rfl⟩
 go_wp2_with fail
 have h5:=h4.drew
 clear h4
 refine dh [5,6,7,8,9] (fun w'=>w'.cell? ⟨r,4,none⟩=some (.pointer (some ⟨pn,0,none⟩))∧w'.rangeAt b3 0 (ay k)) au ?_
 have hG:World.cell? _ ⟨r,4,none⟩=some (.pointer (some ⟨pn,0,none⟩))∧World.rangeAt _ b3 0 (ay k):=⟨h5.cellP aH 4 rfl,fun j z hj=>by rw [Nat.zero_add];exact h5.cellP dM j (by rw [List.getElem?_toArray];exact hj)⟩
 refine rP 0 ?_ (y:=aG)
 refine rP 1 ?_ (y:=dL)
 refine rP 2 ?_ (y:=cO)
 refine rt 3 (h:=?_)
 refine dK 4 aj au bC (gu (b:=b3) (o:=0) (ay k) ah Tryz.underlying30 rfl (by rw [dW.out];kernel_rfl) (fun w hw=>hw.2)) aQ gQ ?_
 clear hG
 refine bG 5 aj au (fun K hK=>?_)
 (refine eU au aj aj ?_)
 refine (IE HB.out Hk.out (h5.sb:Sat w0 _ (aZ pn mp B::pt b4 (.cells (aW Seg.bF.zero).toArray 107 (0,0))::dA r m seg p ps pn d::pt b3 (.cells (ay k).toArray 30 (0,0))::F))).mono ?_
 rintro ee w6 ⟨v,rfl,rfl,h6⟩
 refine hK _ _ (.inl rfl) ?_
 clear hK h5
 generalize hpc:(mp k).getD Seg.bF.zero=pc at *
 have Gy:=uQ hpc
 clear hpc
 refine rP 6 ?_ (y:=(fC aj bT))
 refine rP 7 ?_ (y:=(fC aj bT))
 have h7:Sat w0 w6 (pt b4 (.cells (aW Seg.bF.zero).toArray 107 (0,0))::dA r m seg p ps pn d::pt b3 (.cells (ay k).toArray 30 (0,0))::aZ pn mp B::F):=h6.sb
 clear h6
 refine bG 8 aj au (fun K hK=>?_)
 refine jD (cs':=(aW pc).toArray) h7 aj aj ah bJ bH au ah ?_
 intro w9 h9
 refine hK _ _ (.inl rfl) ?_
 clear hK h7
 refine rP 9 ?_ (y:=dN)
 refine cu au ?_
 go_wp2_with fail
 refine ⟨rfl,_,kC rfl h9 ah aH Tryz.underlying107 rfl au,_,rfl,?_,h9.sb⟩
 rw [Gy.out];rfl
set_option maxRecDepth 20000 in
theorem TV (hB:B≤268435000) (hk:k.length=32) (h:Sat w0 w (dA r m seg p ps pn d::aZ pn mp B::F)) :
  Calls Tryz.prog 54 #[ptr r,.agg (ay k).toArray] w (aI fun v w'=>v = .bool (mp k).isSome∧Sat w0 w' (dA r m seg p ps pn d::aZ pn mp B::F)):=by
 have Hk:=uQ hk;have dW:=uQ (show (ay k).length=32 by rw [aU,hk]);have HB:=uQ hB
 clear hk hB
 go_enter Tryz.func54,Tryz.ntmps54
 go_wp2_with (with_reducible apply fH)
 refine ⟨fO h aj aj ?_⟩
 intro b3 w3 h3
 replace h3:Sat w0 w3 (pt b3 (.cells (ay k).toArray 30 (0,0))::dA r m seg p ps pn d::aZ pn mp B::F):=h3
 clear h
 go_wp2_with ((with_reducible refine bI ⟨?_⟩);refine fB h3 ah aH Tryz.underlying30 rfl (by rw [List.size_toArray,dW.out];kernel_rfl) ?_)
 refine (ad7 HB.out Hk.out (h3.sb:Sat w0 w3 (dA r m seg p ps pn d::aZ pn mp B::pt b3 (.cells (ay k).toArray 30 (0,0))::F))).mono ?_
 rintro ee w4 ⟨v,rfl,rfl,h4⟩
 clear h3
 generalize (mp k).getD Seg.bF.zero=pc at *
 go_wp2_with (with_reducible apply dY)
 refine ⟨dS qP h4 rfl ?_⟩
 intro b5 w5 h5
 go_wp2_with (with_reducible apply bU)
 refine ⟨eH (aW pc).toArray h5 ah ah ah bJ au ah ?_⟩
 intro w6 h6
 go_wp2_with fail
 go_ret
 exact ⟨_,rfl,rfl,h6.sb⟩
end
section
variable {w0 w:World}{F:List aC}{p m K r ps pn B:Nat}{L:Seg.Log}{M:aB}{seg:Int}{d:Bool}{k:ak.Bs}{mp:ak.Bs→Option Seg.bF}
theorem ade {a b:Array Value} (h:a.size=b.size):eG a 0 b.toList=b:=by
 apply rH
 rw [lW _ _ _ (by rw [Array.length_toList];omega),List.take_zero,List.nil_append,Nat.zero_add,List.drop_of_length_le (by rw [Array.length_toList,Array.length_toList];omega),List.append_nil]
set_option maxRecDepth 20000 in
theorem ad4 (hB:B≤268435000) (hk:k.length=32) (hm:mp k=none) (h:Sat w0 w (dA r m seg p ps pn d::aZ pn mp B::aS p m L::aT m M::F)) :
  Calls Tryz.prog 32 #[ptr r,.agg (ay k).toArray] w (aI fun v w'=>v = .tuple #[.slice none 0 0,errno 9]∧Sat w0 w' (dA r m seg p ps pn d::aZ pn mp B::aS p m L::aT m M::F)):=by
 have Hk:=uQ hk;have dW:=uQ (show (ay k).length=32 by rw [aU,hk])
 have HT:=uQ (fun (w':World) (R:List aC) (hw:Sat w0 w' (aZ pn mp B::R))=>IE hB hk hw)
 rw [hm,Option.getD_none,Option.isSome_none]at HT
 clear hk hB hm
 go_enter Tryz.func32,Tryz.ntmps32
 go_wp2_with (with_reducible apply fH)
 refine ⟨fO h aj aj ?_⟩
 intro b3 w3 h3
 have h4:Sat w0 w3 (dA r m seg p ps pn d::pt b3 (.cells (ay k).toArray 30 (0,0))::aZ pn mp B::aS p m L::aT m M::F):=h3.sb
 clear h h3
 go_wp2_with fail
 refine (yH h4).mono ?_
 rintro ee w5 ⟨v,rfl,rfl,rfl⟩
 go_wp2_with fail
 have h5:=h4.drew
 clear h4
 refine dh [5,6,7,8,10,11] (fun w'=>w'.cell? ⟨r,4,none⟩=some (.pointer (some ⟨pn,0,none⟩))∧w'.rangeAt b3 0 (ay k)) au ?_
 have lS:∀ (w':World) (R:List aC),Sat w0 w' (dA r m seg p ps pn d::pt b3 (.cells (ay k).toArray 30 (0,0))::R)→w'.cell? ⟨r,4,none⟩=some (.pointer (some ⟨pn,0,none⟩))∧w'.rangeAt b3 0 (ay k):=fun w' R hw=>⟨hw.cellP aH 4 rfl,fun j z hj=>by rw [Nat.zero_add];exact hw.cellP aP j (by rw [List.getElem?_toArray];exact hj)⟩
 have lY:=uQ lS
 have hG:=lS _ _ h5
 clear lS
 refine rP 0 ?_ (y:=aG)
 refine rP 1 ?_ (y:=dL)
 refine rP 2 ?_ (y:=cO)
 refine rt 3 (h:=?_)
 refine dK 4 aj au bC (gu (b:=b3) (o:=0) (ay k) ah Tryz.underlying30 rfl (by rw [dW.out];kernel_rfl) (fun w hw=>hw.2)) aQ gQ ?_
 clear hG
 refine rM 5 9 aj aj au (fun K hK=>?_) (fun K hK=>?_)
 ·(refine eU au aj aj ?_)
  refine (HT.out _ _ (h5.sb:Sat w0 _ (aZ pn mp B::dA r m seg p ps pn d::pt b3 (.cells (ay k).toArray 30 (0,0))::aS p m L::aT m M::F))).mono ?_
  rintro ee w6 ⟨v,rfl,rfl,h6⟩
  refine hK _ _ (.inl rfl) ?_
  clear hK h5
  refine rP 6 ?_ (y:=aG)
  refine rP 7 ?_ (y:=(fC aj bT))
  refine rP 8 ?_ (y:=(fC aj bT))
  refine bG 9 aj au (fun K hK=>?_)
  refine kP (qP) h6 rfl ?_
  intro b6 w7 h7
  refine hK _ _ (.inr (.inl (lY.out _ _ (h7.sb:Sat w0 w7 (dA r m seg p ps pn d::pt b3 (.cells (ay k).toArray 30 (0,0))::pt b6 (.cells (aW Seg.bF.zero).toArray 107 (0,0))::aZ pn mp B::aS p m L::aT m M::F))))) ?_
  clear hK h6
  have h8:Sat w0 w7 (pt b6 (.cells (aW Seg.bF.zero).toArray 107 (0,0))::dA r m seg p ps pn d::pt b3 (.cells (ay k).toArray 30 (0,0))::aZ pn mp B::aS p m L::aT m M::F):=h7.sb
  clear h7
  refine bG 10 aj au (fun K hK=>?_)
  refine jD (cs':=(aW Seg.bF.zero).toArray) h8 aj aj ah bJ bH au ah ?_
  intro w9 h9
  refine hK _ _ (.inl rfl) ?_
  clear hK h8
  refine rP 11 ?_ (y:=dN)
  refine cu au ?_
  go_wp2_with fail
  go_ret2
  exact ⟨_,rfl,rfl,h9.sb⟩
 ·refine kP (qP) h5 rfl ?_
  intro b6 w6 h6
  refine hK _ _ (.inr (.inl (lY.out _ _ (h6.sb:Sat w0 w6 (dA r m seg p ps pn d::pt b3 (.cells (ay k).toArray 30 (0,0))::pt b6 (.cells (aW Seg.bF.zero).toArray 107 (0,0))::aZ pn mp B::aS p m L::aT m M::F))))) ?_
  clear hK h5
  refine bG 5 aj au (fun K hK=>?_)
  (refine eU au aj aj ?_)
  refine (HT.out _ _ (h6.sb:Sat w0 _ (aZ pn mp B::pt b6 (.cells (aW Seg.bF.zero).toArray 107 (0,0))::dA r m seg p ps pn d::pt b3 (.cells (ay k).toArray 30 (0,0))::aS p m L::aT m M::F))).mono ?_
  rintro ee w7 ⟨v,rfl,rfl,h7⟩
  refine hK _ _ (.inl rfl) ?_
  clear hK h6
  refine rP 6 ?_ (y:=aG)
  refine rP 7 ?_ (y:=(fC aj bT))
  refine rP 8 ?_ (y:=(fC aj bT))
  have h8:Sat w0 w7 (pt b6 (.cells (aW Seg.bF.zero).toArray 107 (0,0))::dA r m seg p ps pn d::pt b3 (.cells (ay k).toArray 30 (0,0))::aZ pn mp B::aS p m L::aT m M::F):=h7.sb
  clear h7
  refine bG 10 aj au (fun K hK=>?_)
  refine jD (cs':=(aW Seg.bF.zero).toArray) h8 aj aj ah bJ bH au ah ?_
  intro w9 h9
  refine hK _ _ (.inl rfl) ?_
  clear hK h8
  refine rP 11 ?_ (y:=dN)
  refine cu au ?_
  go_wp2_with fail
  go_ret2
  exact ⟨_,rfl,rfl,h9.sb⟩
set_option maxRecDepth 20000 in
theorem ad5 (hB:B≤268435000) (hk:k.length=32) (pl:Seg.bF) (hm:mp k=some pl) (hH:Ro w0 F Half) (hL:L.Ok) (hM:M.Ok K) (h1 : -9223372036854775808≤pl.at_∧pl.at_≤9223372036854775807) (h2 : -9223372036854775808≤pl.size∧pl.size≤9223372036854775807) (data:ak.Bs) (hdl:data.length≤140737488355328) (hr:L.read M pl=(⟨0,k,data⟩,0)) (h:Sat w0 w (dA r m seg p ps pn d::aZ pn mp B::aS p m L::aT m M::F)) :
  Calls Tryz.prog 32 #[ptr r,.agg (ay k).toArray] w (aI fun v w'=>∃ bv a n c,v = .tuple #[bv,errno 0]∧bv = .slice a n c∧Sat w0 w' (aK bv data::dA r m seg p ps pn d::aZ pn mp B::aS p m L::aT m M::F)):=by
 have Hk:=uQ hk;have dW:=uQ (show (ay k).length=32 by rw [aU,hk])
 have HT:=uQ (fun (w':World) (R:List aC) (hw:Sat w0 w' (aZ pn mp B::R))=>IE hB hk hw)
 rw [hm,Option.getD_some,Option.isSome_some]at HT
 have HH:=uQ hH
 have HR:=uQ (fun (w':World) (R:List aC) (hh:Ro w0 R Half) (hw:Sat w0 w' (aS p m L::aT m M::R))=>abE hh hL hM pl h1 h2 hw)
 rw [hr]at HR
 have xu:=uQ hdl
 clear hk hB hm hH hL hM h1 h2 hr hdl
 go_enter Tryz.func32,Tryz.ntmps32
 go_wp2_with (with_reducible apply fH)
 refine ⟨fO h aj aj ?_⟩
 intro b3 w3 h3
 have h4:Sat w0 w3 (dA r m seg p ps pn d::pt b3 (.cells (ay k).toArray 30 (0,0))::aZ pn mp B::aS p m L::aT m M::F):=h3.sb
 clear h h3
 go_wp2_with fail
 refine (yH h4).mono ?_
 rintro ee w5 ⟨v,rfl,rfl,rfl⟩
 go_wp2_with fail
 have h5:=h4.drew
 clear h4
 refine dh [5,6,7,8,10,11] (fun w'=>w'.cell? ⟨r,4,none⟩=some (.pointer (some ⟨pn,0,none⟩))∧w'.rangeAt b3 0 (ay k)) au ?_
 have lS:∀ (w':World) (R:List aC),Sat w0 w' (dA r m seg p ps pn d::pt b3 (.cells (ay k).toArray 30 (0,0))::R)→w'.cell? ⟨r,4,none⟩=some (.pointer (some ⟨pn,0,none⟩))∧w'.rangeAt b3 0 (ay k):=fun w' R hw=>⟨hw.cellP aH 4 rfl,fun j z hj=>by rw [Nat.zero_add];exact hw.cellP aP j (by rw [List.getElem?_toArray];exact hj)⟩
 have lY:=uQ lS
 have hG:=lS _ _ h5
 clear lS
 refine rP 0 ?_ (y:=aG)
 refine rP 1 ?_ (y:=dL)
 refine rP 2 ?_ (y:=cO)
 refine rt 3 (h:=?_)
 refine dK 4 aj au bC (gu (b:=b3) (o:=0) (ay k) ah Tryz.underlying30 rfl (by rw [dW.out];kernel_rfl) (fun w hw=>hw.2)) aQ gQ ?_
 clear hG
 refine rM 5 9 aj aj au (fun K hK=>?_) (fun K hK=>?_)
 focus
  (refine eU au aj aj ?_)
  refine (HT.out _ _ (h5.sb:Sat w0 _ (aZ pn mp B::dA r m seg p ps pn d::pt b3 (.cells (ay k).toArray 30 (0,0))::aS p m L::aT m M::F))).mono ?_
  rintro ee w6 ⟨v,rfl,rfl,h6⟩
  refine hK _ _ (.inl rfl) ?_
  clear hK h5
  refine rP 6 ?_ (y:=aG)
  refine rP 7 ?_ (y:=(fC aj bT))
  refine rP 8 ?_ (y:=(fC aj bT))
  refine bG 9 aj au (fun K hK=>?_)
  refine kP (qP) h6 rfl ?_
  intro b6 w7 h7
  refine hK _ _ (.inr (.inl (lY.out _ _ (h7.sb:Sat w0 w7 (dA r m seg p ps pn d::pt b3 (.cells (ay k).toArray 30 (0,0))::pt b6 (.cells (aW Seg.bF.zero).toArray 107 (0,0))::aZ pn mp B::aS p m L::aT m M::F))))) ?_
  clear hK h6
  have h8:Sat w0 w7 (pt b6 (.cells (aW Seg.bF.zero).toArray 107 (0,0))::dA r m seg p ps pn d::pt b3 (.cells (ay k).toArray 30 (0,0))::aZ pn mp B::aS p m L::aT m M::F):=h7.sb
  clear h7
 rotate_left
 focus
  refine kP (qP) h5 rfl ?_
  intro b6 w6 h6
  refine hK _ _ (.inr (.inl (lY.out _ _ (h6.sb:Sat w0 w6 (dA r m seg p ps pn d::pt b3 (.cells (ay k).toArray 30 (0,0))::pt b6 (.cells (aW Seg.bF.zero).toArray 107 (0,0))::aZ pn mp B::aS p m L::aT m M::F))))) ?_
  clear hK h5
  refine bG 5 aj au (fun K hK=>?_)
  (refine eU au aj aj ?_)
  refine (HT.out _ _ (h6.sb:Sat w0 _ (aZ pn mp B::pt b6 (.cells (aW Seg.bF.zero).toArray 107 (0,0))::dA r m seg p ps pn d::pt b3 (.cells (ay k).toArray 30 (0,0))::aS p m L::aT m M::F))).mono ?_
  rintro ee w7 ⟨v,rfl,rfl,h7⟩
  refine hK _ _ (.inl rfl) ?_
  clear hK h6
  refine rP 6 ?_ (y:=aG)
  refine rP 7 ?_ (y:=(fC aj bT))
  refine rP 8 ?_ (y:=(fC aj bT))
  have h8:Sat w0 w7 (pt b6 (.cells (aW Seg.bF.zero).toArray 107 (0,0))::dA r m seg p ps pn d::pt b3 (.cells (ay k).toArray 30 (0,0))::aZ pn mp B::aS p m L::aT m M::F):=h7.sb
  clear h7
 all_goals
  refine bG 10 aj au (fun K hK=>?_)
  refine jD (cs':=(aW pl).toArray) h8 aj aj ah bJ bH au ah ?_
  intro w9 h9
  refine hK _ _ (.inl rfl) ?_
  clear hK h8
  refine rP 11 ?_ (y:=dN)
  refine cu au ?_
  go_wp2_with fail
  have h10:=h9.drew
  clear h9 lY
  refine dh [5,6,7,8,10,11] (fun w'=>w'.cell? ⟨r,2,none⟩=some (.pointer (some ⟨p,0,none⟩))∧w'.rangeAt b6 0 (aW pl)) au ?_
  have lS:∀ (w':World) (R:List aC),Sat w0 w' (pt b6 (.cells (aW pl).toArray 107 (0,0))::dA r m seg p ps pn d::R)→w'.cell? ⟨r,2,none⟩=some (.pointer (some ⟨p,0,none⟩))∧w'.rangeAt b6 0 (aW pl):=fun w' R hw=>⟨hw.cellP aP 2 rfl,fun j z hj=>by rw [Nat.zero_add];exact hw.cellP aH j (by rw [List.getElem?_toArray];exact hj)⟩
  have lY:=uQ lS
  have hG:=lS _ _ h10
  clear lS
  refine rP 0 ?_ (y:=aG)
  refine rP 1 ?_ (y:=dL)
  refine rP 2 ?_ (y:=cO)
  refine rt 3 (h:=?_)
  refine dK 4 aj au bC (gu (b:=b6) (o:=0) (aW pl) ah Tryz.underlying107 rfl au (fun w hw=>hw.2)) aQ gQ ?_
  clear hG
  refine rM 5 9 aj aj au (fun K hK=>?_) (fun K hK=>?_)
  focus
   (refine eU au aj aj ?_)
   refine (HR.out _ _ (Ro.os HH.out) (h10.sb:Sat w0 _ (aS p m L::aT m M::pt b6 (.cells (aW pl).toArray 107 (0,0))::dA r m seg p ps pn d::pt b3 (.cells (ay k).toArray 30 (0,0))::aZ pn mp B::F))).mono ?_
   rintro ee fU ⟨v,rfl,da,dc,rfl,h11⟩
   refine hK _ _ (.inl rfl) ?_
   clear hK h10
   refine rP 6 ?_ (y:=aG)
   refine rP 7 ?_ (y:=(fC aj bT))
   refine rP 8 ?_ (y:=(fC aj bT))
   refine bG 9 aj au (fun K hK=>?_)
   refine kP (yP) h11 rfl ?_
   intro b8 w12 h12
   refine hK _ _ (.inr (.inl (lY.out _ _ (h12.sb:Sat w0 w12 (pt b6 (.cells (aW pl).toArray 107 (0,0))::dA r m seg p ps pn d::pt b8 (.cells uP.cells 137 (0,0))::aK (.slice da data.length dc) data::aS p m L::aT m M::pt b3 (.cells (ay k).toArray 30 (0,0))::aZ pn mp B::F))))) ?_
   clear hK h11
  rotate_left
  focus
   refine kP (yP) h10 rfl ?_
   intro b8 fU h11
   refine hK _ _ (.inr (.inl (lY.out _ _ (h11.sb:Sat w0 fU (pt b6 (.cells (aW pl).toArray 107 (0,0))::dA r m seg p ps pn d::pt b8 (.cells uP.cells 137 (0,0))::pt b3 (.cells (ay k).toArray 30 (0,0))::aZ pn mp B::aS p m L::aT m M::F))))) ?_
   clear hK h10
   refine bG 5 aj au (fun K hK=>?_)
   (refine eU au aj aj ?_)
   refine (HR.out _ _ (Ro.os HH.out) (h11.sb:Sat w0 _ (aS p m L::aT m M::pt b8 (.cells uP.cells 137 (0,0))::pt b6 (.cells (aW pl).toArray 107 (0,0))::dA r m seg p ps pn d::pt b3 (.cells (ay k).toArray 30 (0,0))::aZ pn mp B::F))).mono ?_
   rintro ee w12 ⟨v,rfl,da,dc,rfl,h12⟩
   refine hK _ _ (.inl rfl) ?_
   clear hK h11
   refine rP 6 ?_ (y:=aG)
   refine rP 7 ?_ (y:=(fC aj bT))
   refine rP 8 ?_ (y:=(fC aj bT))
   replace h12:Sat w0 w12 (pt b8 (.cells uP.cells 137 (0,0))::aK (.slice da data.length dc) data::aS p m L::aT m M::pt b6 (.cells (aW pl).toArray 107 (0,0))::dA r m seg p ps pn d::pt b3 (.cells (ay k).toArray 30 (0,0))::aZ pn mp B::F):=h12.sb
  all_goals
   refine bG 10 aj au (fun K hK=>?_)
   refine jD (cs':=dI ⟨0,k,data⟩ (.slice da data.length dc)) (v:= .agg (dI ⟨0,k,data⟩ (.slice da data.length dc))) h12 aj aj (by exact ade (show (dI ak.zeroE (.slice none 0 0)).size=(dI ⟨0,k,data⟩ (.slice da data.length dc)).size by rw [kV _ _ (show (⟨0,k,data⟩:ak.aX).key.length=32 from Hk.out)];rfl)) bJ (show 0+(dI ⟨0,k,data⟩ (.slice da data.length dc)).size≤(dI ak.zeroE (.slice none 0 0)).size by rw [kV _ _ (show (⟨0,k,data⟩:ak.aX).key.length=32 from Hk.out)];exact Nat.le_refl _) (show _=some (dI ⟨0,k,data⟩ (.slice da data.length dc)).size by rw [kV _ _ (show (⟨0,k,data⟩:ak.aX).key.length=32 from Hk.out)];exact Cc) (O1 _ _ _ _) ?_
   intro jH h13
   refine hK _ _ (.inl rfl) ?_
   clear hK h12
   refine rP 11 ?_ (y:=dN)
   refine cu au ?_
   have e0:jH.cell? ⟨b8,0,none⟩=some (.int .i64 0):=h13.cellP aH 0 (by unfold dI;rw [List.getElem?_toArray];rfl)
   have f1:jH.rangeAt b8 1 (ay k):=fun j z hj=>h13.cellP aH (1+j) (by unfold dI;rw [List.getElem?_toArray];exact Zf (⟨0,k,data⟩:ak.aX) _ hj)
   have f2:jH.rangeAt b3 0 (ay k):=fun j z hj=>by rw [Nat.zero_add];exact (h13.pk (A:=pt b3 (.cells (ay k).toArray 30 (0,0)))).cellAt j z (by rw [List.getElem?_toArray];exact hj)
   have e33:jH.cell? ⟨b8,33,none⟩=some (.slice da data.length dc):=h13.cellP aH 33 (by unfold dI;rw [List.getElem?_toArray];exact Ze (⟨0,k,data⟩:ak.aX) _ Hk.out)
   have hnk:∀ w,(binOp .neq 30 (.agg (ay k).toArray) (.agg (ay k).toArray)).run Tryz.prog w = .ok (.bool false) w:=fun w=>by rw [RZ k k Hk.out Hk.out w];simp
   have hcl:=qA h13 (Sat.rd (h13.sb:Sat w0 jH (aK (.slice da data.length dc) data::F))) xu.out
   clear lY HH HR HT
   go_wp2_with (first
    |((with_reducible refine bI ⟨?_⟩);first
     |refine jw (b:=b8) (o:=1) (ay k) ah f1 Tryz.underlying30 rfl (by rw [dW.out];kernel_rfl) ?_
     |refine jw (b:=b3) (o:=0) (ay k) ah f2 Tryz.underlying30 rfl (by rw [dW.out];kernel_rfl) ?_)
    |((with_reducible apply U7);refine ⟨?_⟩;refine U8 (by first|rfl|kernel_rfl) ?_))
   refine hcl.mono ?_
   rintro ee pq ⟨v,rfl,jE,a,n,c,rfl⟩
   clear hcl
   go_wp2_with fail
   go_ret2
   exact ⟨_,rfl,_,a,n,c,rfl,rfl,jE.sb⟩
end
end Go.Proofs.YtlimfgdbfadohaaGreatDoor
namespace Go.Rep
open Go.ak (Bs)
structure GY where
 kind:Int
 key:Bs
 data:Bs
 n:Int
 m:Int
 l:List Int
def GY.cut (c:GY):GY:=⟨c.kind,c.key,c.data.take 200,c.n,c.m,c.l.take 60⟩
end Go.Rep
namespace Go.Proofs.YtlimfgdbfadohaaGreatDoor
open Go Go.Sl Go.aB Go.MapKept Go.RowKit
section
variable {w0 w:World}{F R:List aC}{v bv dv x lv:Value}
end
abbrev PV:=ak.Bs×ak.Bs×Value
theorem ab4 (x y:Operand) (k l:ak.Bs) (hk:k.length=32) (hl:l.length=32) (w:World):((do eqGuard .neq 30 x y (.agg (ay k).toArray) (.agg (ay l).toArray);binOp .neq 30 (.agg (ay k).toArray) (.agg (ay l).toArray)):Sem Value).run Tryz.prog w = .ok (.bool (!decide (k=l))) w:=by
 have h:=RZ k l hk hl w
 simp [eqGuard,Sem.run_bind,h]
section
variable {w0 w:World}{F:List aC}{av bv mv:Value}
end
section
variable {w0 w:World}{F:List aC}{A1 A2 A3 A4 B1 B2 B3 B4:aC}{s r t:Nat}{k b u:ak.Bs}{bv:Value}
def LY (w0:World) (F:List aC) (A1 A2 A3 A4:aC) (r:Nat) (k:ak.Bs) (e:Int):Prop:=∀ (w':World) (R:List aC),Sub R F→Sat w0 w' (A1::A2::A3::A4::R)→Calls Tryz.prog 32 #[ptr r,.agg (ay k).toArray] w' (aI fun v w''=>v = .tuple #[.slice none 0 0,errno e]∧Sat w0 w'' (A1::A2::A3::A4::R))
def LZ (w0:World) (F:List aC) (A1 A2 A3 A4:aC) (r:Nat) (k d:ak.Bs):Prop:=∀ (w':World) (R:List aC),Sub R F→Sat w0 w' (A1::A2::A3::A4::R)→Calls Tryz.prog 32 #[ptr r,.agg (ay k).toArray] w' (aI fun v w''=>∃ (bv:Value) (a:Option Addr) (n c:Nat),v = .tuple #[bv,errno 0]∧bv = .slice a n c∧Sat w0 w'' (aK bv d::A1::A2::A3::A4::R))
def Nb (w0:World) (F:List aC) (A1 A2 A3 A4:aC) (s r t:Nat) (k:ak.Bs) (e:Int):Prop:=∀ (w':World) (R:List aC),Sub R F→Sat w0 w' (dG s r t false::A1::A2::A3::A4::R)→Calls Tryz.prog 11 #[ptr s,.agg (ay k).toArray] w' (aI fun v w''=>v = .tuple #[.slice none 0 0,errno e]∧Sat w0 w'' (dG s r t false::A1::A2::A3::A4::R))
def Nc (w0:World) (F:List aC) (A1 A2 A3 A4:aC) (s r t:Nat) (k u:ak.Bs):Prop:=∀ (w':World) (R:List aC),Sub R F→Sat w0 w' (dG s r t false::A1::A2::A3::A4::R)→Calls Tryz.prog 11 #[ptr s,.agg (ay k).toArray] w' (aI fun v w''=>∃ (a:Option Addr) (n c:Nat),v = .tuple #[.slice a n c,errno 0]∧Sat w0 w'' (aK (.slice a n c) u::dG s r t false::A1::A2::A3::A4::R))
set_option maxRecDepth 20000 in
theorem ae9 {e:Int} (he:e≠0) (hk:k.length=32) (hg:LY w0 F A1 A2 A3 A4 r k e):Nb w0 F A1 A2 A3 A4 s r t k e:=by
 intro w R hR h
 have dW:=uQ (show (ay k).length=32 by rw [aU,hk])
 have he':¬ e=0:=he
 have Hg:=uQ hg;have HR:=uQ hR
 clear hk hg hR he
 go_enter Tryz.func11,Tryz.ntmps11
 go_wp2_with (with_reducible apply fH)
 refine ⟨fO h aj aj ?_⟩
 intro b3 w3 h3
 replace h3:Sat w0 w3 (dG s r t false::pt b3 (.cells (ay k).toArray 30 (0,0))::A1::A2::A3::A4::R):=h3.aP
 clear h
 have hok:=rO h3
 go_wp2_with fail
 refine hok.mono ?_
 rintro ee w4 ⟨v,rfl,rfl,rfl⟩
 clear hok
 go_wp2_with fail
 have h5:=h3.drew
 have hG:World.cell? _ ⟨s,0,none⟩=some (ptr r)∧World.rangeAt _ b3 0 (ay k):=⟨h5.cellP aH 0 rfl,fun j v hj=>h5.cellP aP (0+j) (by simpa using hj)⟩
 clear h3
 refine dh [5,6,7,8,9,10] (fun w'=>w'.cell? ⟨s,0,none⟩=some (ptr r)∧w'.rangeAt b3 0 (ay k)) au ?_
 refine rP 0 ?_ (y:=aG)
 refine rP 1 ?_ (y:=dL)
 refine rP 2 ?_ (y:=cO)
 refine rt 3 (h:=?_)
 refine dK 4 aj au bC (gu (b:=b3) (o:=0) (ay k) ah Tryz.underlying30 rfl (by rw [dW.out];kernel_rfl) (fun w hw=>hw.2)) aQ gQ ?_
 clear hG
 refine bG 5 aj au (fun K hK=>?_)
 (refine eU au aj aj ?_)
 refine (Hg.out _ (dG s r t false::pt b3 (.cells (ay k).toArray 30 (0,0))::R) (jv (jv HR.out)) (h5.sb)).mono ?_
 rintro ee w6 ⟨v,rfl,rfl,h6⟩
 refine hK _ _ (.inl rfl) ?_
 clear hK h5
 refine rP 6 ?_ (y:=aG)
 refine rP 7 ?_ (y:=(fC aj bT))
 refine rP 8 ?_ (y:=(fC aj bT))
 refine rP 9 ?_ (y:=dN)
 refine rP 10 ?_ (y:=dN)
 refine cu au ?_
 go_wp2_with fail
 go_ret2
 exact ⟨_,rfl,rfl,h6.sb⟩
set_option maxRecDepth 20000 in
theorem Ut (hk:k=aA.sum u) (hu:u.length≤250) (jl:Ro w0 F kE) (hg:LZ w0 F A1 A2 A3 A4 r k (Lz.iV u)):Nc w0 F A1 A2 A3 A4 s r t k u:=by
 intro w R hR h
 have hkl:k.length=32:=by rw [hk];exact lg u
 have dW:=uQ (show (ay k).length=32 by rw [aU,hkl])
 have nM:∀ x y w,((do eqGuard .neq 30 x y (.agg (ay k).toArray) (.agg (ay k).toArray);binOp .neq 30 (.agg (ay k).toArray) (.agg (ay k).toArray)):Sem Value).run Tryz.prog w = .ok (.bool false) w:=fun x y w=>by rw [ab4 x y _ _ hkl hkl];simp
 have qX:=uQ (fun (w':World) (G:List aC) (bv:Value) (hs:RS w0 G bv u) (hk:Ro w0 G kE) (hw:Sat w0 w' G)=>C9 oQ hs hk hw)
 rw [← hk]at qX
 have MX:=uQ (fun (w':World) (G:List aC) (bv:Value) (hs:RS w0 G bv (Lz.iV u)) (hw:Sat w0 w' G)=>agB hu hs hw)
 have Hg:=uQ hg;have HR:=uQ hR;have lZ:=uQ (Ro.of_sub jl hR)
 generalize Lz.iV u=W at *
 clear hk hg hR hu jl hkl
 go_enter Tryz.func11,Tryz.ntmps11
 go_wp2_with (with_reducible apply fH)
 refine ⟨fO h aj aj ?_⟩
 intro b3 w3 h3
 replace h3:Sat w0 w3 (dG s r t false::pt b3 (.cells (ay k).toArray 30 (0,0))::A1::A2::A3::A4::R):=h3.aP
 clear h
 have hok:=rO h3
 go_wp2_with fail
 refine hok.mono ?_
 rintro ee w4 ⟨v,rfl,rfl,rfl⟩
 clear hok
 go_wp2_with fail
 have h5:=h3.drew
 have hG:World.cell? _ ⟨s,0,none⟩=some (ptr r)∧World.rangeAt _ b3 0 (ay k):=⟨h5.cellP aH 0 rfl,fun j v hj=>h5.cellP aP (0+j) (by simpa using hj)⟩
 clear h3
 refine dh [5,6,7,8,9,10] (fun w'=>w'.cell? ⟨s,0,none⟩=some (ptr r)∧w'.rangeAt b3 0 (ay k)) au ?_
 refine rP 0 ?_ (y:=aG)
 refine rP 1 ?_ (y:=dL)
 refine rP 2 ?_ (y:=cO)
 refine rt 3 (h:=?_)
 refine dK 4 aj au bC (gu (b:=b3) (o:=0) (ay k) ah Tryz.underlying30 rfl (by rw [dW.out];kernel_rfl) (fun w hw=>hw.2)) aQ gQ ?_
 clear hG
 refine bG 5 aj au (fun K hK=>?_)
 (refine eU au aj aj ?_)
 refine (Hg.out _ (dG s r t false::pt b3 (.cells (ay k).toArray 30 (0,0))::R) (jv (jv HR.out)) (h5.sb)).mono ?_
 rintro ee w6 ⟨v,rfl,bv,wa,wn,wc,rfl,rfl,h6⟩
 refine hK _ _ (.inl rfl) ?_
 clear hK h5
 refine rP 6 ?_ (y:=aG)
 refine rP 7 ?_ (y:=(fC aj bT))
 refine rP 8 ?_ (y:=(fC aj bT))
 refine rP 9 ?_ (y:=dN)
 refine rP 10 ?_ (y:=dN)
 refine cu au ?_
 have QS:=MX.out w6 _ _ (RS.sK h6) h6
 clear MX
 go_wp2_with fail
 refine QS.mono ?_
 rintro ee w7 ⟨v,rfl,ra,rn,rc,rfl,h7⟩
 clear QS h6
 go_wp2_with fail
 have h8:=h7.drew
 have hG:World.rangeAt _ b3 0 (ay k):=fun j v hj=>h8.cellP (aO (aO (aO (aO (aO (aO (aO aH))))))) (0+j) (by simpa using hj)
 clear h7
 refine dh [3] (fun w'=>w'.rangeAt b3 0 (ay k)) au ?_
 refine rP 0 ?_ (y:=aG)
 refine dK 2 aj au bC (gu (b:=b3) (o:=0) (ay k) ah Tryz.underlying30 rfl (by rw [dW.out];kernel_rfl) (fun w hw=>hw)) aQ gQ ?_
 clear hG
 refine bG 1 aj au (fun K hK=>?_)
 (refine vT au aj ?_)
 refine (qX.out _ _ _ (RS.sK h8) (Ro.os lZ.out) h8).mono ?_
 rintro ee w9 ⟨v,rfl,rfl,h9⟩
 refine hK _ _ (.inr (.inl (fun j v hj=>h9.cellP (aO (aO (aO (aO (aO (aO (aO aH))))))) (0+j) (by simpa using hj)))) ?_
 clear hK h8
 refine rP 3 ?_ (y:=(VD aj aj (nM _ _)))
 refine cu au ?_
 clear nM
 have iP:=uQ (h9.sb:Sat w0 w9 (aK (.slice ra rn rc) u::dG s r t false::A1::A2::A3::A4::R))
 clear h9
 go_wp2_with fail
 go_ret2
 exact ⟨_,rfl,ra,rn,rc,rfl,iP.out⟩
end
section
variable {w0 w:World}{F:List aC}{A1 A2 A3 A4 B1 B2 B3 B4:aC}{s r t:Nat}{k b u:ak.Bs}{bv:Value}
def Dw (w0:World) (A1 A2 A3 A4:aC) (r:Nat) (k:ak.Bs) (hb:Bool):Prop:=∀ (w':World) (R:List aC),Sat w0 w' (A1::A2::A3::A4::R)→Calls Tryz.prog 54 #[ptr r,.agg (ay k).toArray] w' (aI fun v w''=>v = .bool hb∧Sat w0 w'' (A1::A2::A3::A4::R))
def Na (w0:World) (F:List aC) (A1 A2 A3 A4 B1 B2 B3 B4:aC) (r:Nat) (k W:ak.Bs):Prop:=∀ (w':World) (R:List aC) (da:Option Addr) (dc:Nat),Sub R F→Ro w0 R (bK 1 (.slice da W.length dc) (ay W))→Sat w0 w' (A1::A2::A3::A4::R)→Calls Tryz.prog 57 #[ptr r,.agg (ay k).toArray,.slice da W.length dc] w' (aI fun v w''=>v=errno 0∧Sat w0 w'' (B1::B2::B3::B4::R))
def DK (w0:World) (F:List aC) (A1 A2 A3 A4 B1 B2 B3 B4:aC) (s r t:Nat) (k:ak.Bs) (bv:Value) (e:Int):Prop:=∀ (w':World) (R:List aC),Sub R F→Sat w0 w' (dG s r t false::A1::A2::A3::A4::R)→Calls Tryz.prog 24 #[ptr s,.agg (ay k).toArray,bv] w' (aI fun v w''=>v=errno e∧Sat w0 w'' (dG s r t false::B1::B2::B3::B4::R))
set_option maxRecDepth 20000 in
theorem afm {hb:Bool} (hk:k.length=32) (hl:b.length≤250) (hr:RS w0 F bv b) (hhas:Dw w0 A1 A2 A3 A4 r k hb) (hget:hb=true→∃ e:Int,e≠0∧e≠12∧Nb w0 F A1 A2 A3 A4 s r t k e) (hput:Na w0 F A1 A2 A3 A4 B1 B2 B3 B4 r k (Lz.iV b)) :
  DK w0 F A1 A2 A3 A4 B1 B2 B3 B4 s r t k bv 0:=by
 intro w R hR h
 have dW:=uQ (show (ay k).length=32 by rw [aU,hk])
 have gV:(Tryz.prog.info? 30).map (·.size)=some (ay k).toArray.size:=by rw [List.size_toArray,dW.out];kernel_rfl
 have Xu:=uQ (fun (w':World) (G:List aC) (hs:RS w0 G bv b) (hw:Sat w0 w' G)=>ag1 hl hs hw)
 have HH:=uQ hhas;have HG:=uQ hget;have HP:=uQ hput;have HR:=uQ hR;have Hr:=uQ (hr.more hR)
 generalize Lz.iV b=W at *
 obtain ⟨ba,bc,rfl,y1,y2⟩:=hr.len (h.sub (jv (jv (jv (jv (jv hR))))):Sat w0 w F)
 clear hk hl hr hhas hget hput hR y1 y2
 go_enter Tryz.func24,Tryz.ntmps24
 go_wp2_with (with_reducible apply fH)
 refine ⟨fO h aj aj ?_⟩
 intro b4 w4 h4
 replace h4:Sat w0 w4 (dG s r t false::pt b4 (.cells (ay k).toArray 30 (0,0))::A1::A2::A3::A4::R):=h4.aP
 clear h
 go_wp2_with fail
 have h5:=h4.drew
 have hG:World.cell? _ ⟨s,0,none⟩=some (ptr r)∧World.rangeAt _ b4 0 (ay k):=⟨h5.cellP aH 0 rfl,fun j v hj=>h5.cellP aP (0+j) (by simpa using hj)⟩
 clear h4
 refine dh [5] (fun w'=>w'.cell? ⟨s,0,none⟩=some (ptr r)∧w'.rangeAt b4 0 (ay k)) au ?_
 refine rP 0 ?_ (y:=aG)
 refine rP 1 ?_ (y:=dL)
 refine rP 2 ?_ (y:=cO)
 refine rt 3 (h:=?_)
 refine dK 4 aj au bC (gu (b:=b4) (o:=0) (ay k) ah Tryz.underlying30 rfl (by rw [dW.out];kernel_rfl) (fun w hw=>hw.2)) aQ gQ ?_
 clear hG
 refine bG 5 aj au (fun K hK=>?_)
 (refine eU au aj aj ?_)
 refine (HH.out _ (dG s r t false::pt b4 (.cells (ay k).toArray 30 (0,0))::R) (h5.sb)).mono ?_
 rintro ee w6 ⟨v,rfl,rfl,h6'⟩
 refine hK _ _ (.inl rfl) ?_
 clear hK h5
 have h6:Sat w0 w6 (dG s r t false::A1::A2::A3::A4::pt b4 (.cells (ay k).toArray 30 (0,0))::R):=h6'.sb
 clear h6' HH
 refine cu au ?_
 cases hb
 case' true=>
  obtain ⟨e,e0,e12,hge⟩:=HG.out rfl
  have z1:¬ e=12:=e12
  have z2:¬ e=0:=e0
  have z3:(e==12)=false:=beq_eq_false_iff_ne.2 e12
  have z4:(e==0)=false:=beq_eq_false_iff_ne.2 e0
  have Qp:=hge w6 _ (jv HR.out) h6
  clear hge e0 e12 HG
  go_wp2_with ((with_reducible refine bI ⟨?_⟩);refine fB (cs:=(ay k).toArray) h6 ah (aO (aO (aO (aO (aO aH))))) Tryz.underlying30 rfl gV ?_)
  refine Qp.mono ?_
  rintro ee w7 ⟨v,rfl,rfl,h7⟩
  have e2:w7.cell? ⟨s,2,none⟩=some (.bool false):=h7.cellP aH 2 rfl
  clear Qp h6
  go_wp2_with fail
  clear z1 z2 z3 z4
 case' false=>
  have h7:=h6
  have e2:w6.cell? ⟨s,2,none⟩=some (.bool false):=h7.cellP aH 2 rfl
  clear HG h6
  go_wp2_with fail
 all_goals
  refine (Xu.out _ _ (Hr.out.more iJ) h7).mono ?_
  rintro ee w8 ⟨v,rfl,ra,rn,rc,rfl,h8⟩
  obtain ⟨_,_,_,q0,q1,q2,q3⟩:=iY h8
  cases q0
  subst q3
  clear h7 e2 q1 q2
  go_wp2_with fail
  have h9:=h8.drew
  have hG:World.cell? _ ⟨s,0,none⟩=some (ptr r)∧World.rangeAt _ b4 0 (ay k):=⟨h9.cellP aP 0 rfl,fun j v hj=>h9.cellP J8 (0+j) (by simpa using hj)⟩
  clear h8
  refine dh [6,7] (fun w'=>w'.cell? ⟨s,0,none⟩=some (ptr r)∧w'.rangeAt b4 0 (ay k)) au ?_
  refine rP 0 ?_ (y:=aG)
  refine rP 1 ?_ (y:=dL)
  refine rP 2 ?_ (y:=cO)
  refine rt 3 (h:=?_)
  refine dK 4 aj au bC (gu (b:=b4) (o:=0) (ay k) ah Tryz.underlying30 rfl (by rw [dW.out];kernel_rfl) (fun w hw=>hw.2)) aQ gQ ?_
  clear hG
  refine rP 5 ?_ (y:=aG)
  refine bG 6 aj au (fun K hK=>?_)
  (refine vU au aj aj aj ?_)
  refine (HP.out _ (aK (.slice ra W.length rc) W::dG s r t false::pt b4 (.cells (ay k).toArray 30 (0,0))::R) ra rc (jv (jv (jv HR.out))) (Ro.J5 (Ro.aK _ _) aH) (h9.sb)).mono ?_
  rintro ee w10 ⟨v,rfl,rfl,h10⟩
  refine hK _ _ (.inl rfl) ?_
  clear hK h9
  refine rP 7 ?_ (y:=dN)
  refine cu au ?_
  go_wp2_with fail
  go_ret
  exact ⟨_,rfl,rfl,h10.sb⟩
set_option maxRecDepth 20000 in
theorem afn (hk:k.length=32) (hr:RS w0 F bv b) (hhas:Dw w0 A1 A2 A3 A4 r k true) (hget:Nc w0 F A1 A2 A3 A4 s r t k u) :
  DK w0 F A1 A2 A3 A4 A1 A2 A3 A4 s r t k bv (if u=b then 0 else 19):=by
 intro w R hR h
 obtain ⟨e0,he0⟩:∃ e:Int,(if u=b then (0:Int) else 19)=e:=⟨_,rfl⟩
 rw [he0]
 have He:=uQ he0
 have dW:=uQ (show (ay k).length=32 by rw [aU,hk])
 have gV:(Tryz.prog.info? 30).map (·.size)=some (ay k).toArray.size:=by rw [List.size_toArray,dW.out];kernel_rfl
 have HH:=uQ hhas;have HG:=uQ hget;have HR:=uQ hR;have Hr:=uQ (hr.more hR)
 clear hk hr hhas hget hR he0
 go_enter Tryz.func24,Tryz.ntmps24
 go_wp2_with (with_reducible apply fH)
 refine ⟨fO h aj aj ?_⟩
 intro b4 w4 h4
 replace h4:Sat w0 w4 (dG s r t false::pt b4 (.cells (ay k).toArray 30 (0,0))::A1::A2::A3::A4::R):=h4.aP
 clear h
 go_wp2_with fail
 have h5:=h4.drew
 have hG:World.cell? _ ⟨s,0,none⟩=some (ptr r)∧World.rangeAt _ b4 0 (ay k):=⟨h5.cellP aH 0 rfl,fun j v hj=>h5.cellP aP (0+j) (by simpa using hj)⟩
 clear h4
 refine dh [5] (fun w'=>w'.cell? ⟨s,0,none⟩=some (ptr r)∧w'.rangeAt b4 0 (ay k)) au ?_
 refine rP 0 ?_ (y:=aG)
 refine rP 1 ?_ (y:=dL)
 refine rP 2 ?_ (y:=cO)
 refine rt 3 (h:=?_)
 refine dK 4 aj au bC (gu (b:=b4) (o:=0) (ay k) ah Tryz.underlying30 rfl (by rw [dW.out];kernel_rfl) (fun w hw=>hw.2)) aQ gQ ?_
 clear hG
 refine bG 5 aj au (fun K hK=>?_)
 (refine eU au aj aj ?_)
 refine (HH.out _ (dG s r t false::pt b4 (.cells (ay k).toArray 30 (0,0))::R) (h5.sb)).mono ?_
 rintro ee w6 ⟨v,rfl,rfl,h6'⟩
 refine hK _ _ (.inl rfl) ?_
 clear hK h5
 have h6:Sat w0 w6 (dG s r t false::A1::A2::A3::A4::pt b4 (.cells (ay k).toArray 30 (0,0))::R):=h6'.sb
 clear h6' HH
 refine cu au ?_
 have hge:=HG.out w6 _ (jv HR.out) h6
 go_wp2_with ((with_reducible refine bI ⟨?_⟩);refine fB (cs:=(ay k).toArray) h6 ah (aO (aO (aO (aO (aO aH))))) Tryz.underlying30 rfl gV ?_)
 refine hge.mono ?_
 rintro ee w7 ⟨v,rfl,ra,rn,rc,rfl,h7⟩
 have heq:=DZ u b (Sat.rd h7) (Hr.out.rd _ (h7.sb:Sat w0 w7 R))
 have iP:=uQ (h7.sb:Sat w0 w7 (dG s r t false::A1::A2::A3::A4::R))
 clear hge h6 h7
 by_cases hub:u=b
 ·rw [decide_eq_true hub]at heq
  have GX:=uQ hub
  clear hub
  go_wp2_with fail
  refine heq.mono ?_
  rintro ee w8 ⟨v,rfl,rfl,rfl⟩
  clear heq
  go_wp2_with fail
  go_ret
  exact ⟨_,rfl,by rw [← He.out,if_pos GX.out];rfl,iP.out⟩
 ·rw [decide_eq_false hub]at heq
  have GX:=uQ hub
  clear hub
  go_wp2_with fail
  refine heq.mono ?_
  rintro ee w8 ⟨v,rfl,rfl,rfl⟩
  clear heq
  go_wp2_with fail
  go_ret
  exact ⟨_,rfl,by rw [← He.out,if_neg GX.out];rfl,iP.out⟩
end
section
variable {w0 w:World}{F:List aC}{A1 A2 A3 A4 B1 B2 B3 B4:aC}{s r t BR:Nat}{mR:ak.Bs→Option Rep.dU}{x:Rep.dU}{b:ak.Bs}{bv:Value}
theorem yJ (w:World):(Instr.build 30 #[]).run Tryz.prog w = .ok (.agg (ay ak.zero32).toArray) w:=by kernel_rfl
theorem acU:qJ Tryz.prog 60=some [(0,1),(1,1)]:=by kernel_rfl
theorem Uc (a b:Int) (w:World):(Instr.build 60 #[(0,.int .i64 a),(1,.int .i64 b)]).run Tryz.prog w = .ok (.agg (aN ⟨a,b⟩).toArray) w:=
 run_build (P:=Tryz.prog) [(0,.int .i64 a),(1,.int .i64 b)] acU nH (by
  intro q hq
  simp only [List.mem_cons,List.not_mem_nil,or_false]at hq
  rcases hq with rfl|rfl
  ·exact ⟨0,rfl,by show 0+1≤2;decide⟩
  ·exact ⟨1,rfl,by show 1+1≤2;decide⟩) w
set_option maxRecDepth 20000 in
theorem UF (gY:BR≤134217000) (hl:b.length≤250) (hr:RS w0 F bv b) (hz:aA.sum b≠ak.zero32) (hmR:(mR (aA.sum b)).getD ⟨0,0⟩=x) (hx0:0≤x.refs) (hx1:x.refs<1000000) (jl:Ro w0 F kE) (hkeep:DK w0 F A1 A2 A3 A4 B1 B2 B3 B4 s r t (aA.sum b) bv 0) (h:Sat w0 w (dG s r t false::bW t mR BR::A1::A2::A3::A4::F)) :
  Calls Tryz.prog 7 #[ptr s,bv] w (aI fun v w'=>v = .tuple #[.agg (ay (aA.sum b)).toArray,errno 0]∧Sat w0 w' (dG s r t false::bW t (Tab.put mR (aA.sum b) ⟨x.refs+1,(b.length:Nat)⟩) (BR+1)::B1::B2::B3::B4::F)):=by
 have qX:=uQ (fun (w':World) (R:List aC) (hs:RS w0 R bv b) (hk:Ro w0 R kE) (hw:Sat w0 w' R)=>C9 oQ hs hk hw)
 have hk:=lg b
 generalize aA.sum b=k at *
 have dW:=uQ (show (ay k).length=32 by rw [aU,hk])
 have dw:=uQ (show (ay k).toArray.size=32 by rw [List.size_toArray,aU,hk])
 have jA:=uQ (show (ay k).toArray.toList.all (·.oneCell')=true by rw [List.all_eq_true];exact jU _)
 have lM:=uQ (fun (w':World) (R:List aC) (hw:Sat w0 w' (bW t mR BR::R))=>zH (k:=k) (Nat.le_trans gY aJ) hk hw)
 have ql:=uQ (fun (w':World) (R:List aC) (hw:Sat w0 w' (bW t mR BR::R))=>Tf gY hk ⟨x.refs+1,(b.length:Nat)⟩ hw)
 generalize Tab.put mR k ⟨x.refs+1,(b.length:Nat)⟩=JE at *
 rw [hmR]at lM
 have nM:∀ w,(Op.equalIn 10000 30 (.agg (ay k).toArray) (.agg (ay ak.zero32).toArray)).run Tryz.prog w = .ok false w:=fun w=>by rw [pJ k _ hk aJ,decide_eq_false hz]
 obtain ⟨ba,bc,rfl,q1,q2⟩:=hr.len (h.sb:Sat w0 w F)
 have c1:¬ (16379:Int)<(b.length:Int):=oQ
 have c2:¬ (1073741824:Int)≤x.refs:=oQ
 have hwx:IntKind.i64.wrap (x.refs+1)=x.refs+1:=IntWalk.i64_in _ oQ
 have lZ:=uQ jl;have Hr:=uQ hr;have Gp:=uQ hkeep
 have gV:(Tryz.prog.info? 30).map (·.size)=some (ay k).toArray.size:=by rw [dw.out];kernel_rfl
 clear gY hl hr hz hmR jl hk q1 q2 hx0 hx1 hkeep
 go_enter Tryz.func7,Tryz.ntmps7
 go_wp2_with (with_reducible apply dY)
 refine ⟨dS oz h rfl ?_⟩
 intro b4 w4 h4
 replace h4:Sat w0 w4 (dG s r t false::bW t mR BR::pt b4 (.cells (ay ak.zero32).toArray 30 (0,0))::A1::A2::A3::A4::F):=h4.sb
 clear h
 have hok:=rO h4
 go_wp2_with fail
 refine hok.mono ?_
 rintro ee w5 ⟨v,rfl,rfl,rfl⟩
 clear hok
 go_wp2_with fail
 refine (qX.out _ _ (Hr.out.more iJ) (Ro.os lZ.out) h4).mono ?_
 rintro ee w6 ⟨v,rfl,rfl,h6⟩
 clear h4 c1
 go_wp2_with (with_reducible apply dY)
 refine ⟨dS oz h6 rfl ?_⟩
 intro b6 w7 h7
 clear h6
 go_wp2_with (with_reducible apply bU)
 refine ⟨eH (ay k).toArray h7 ah ah (dw.out.trans ah) bJ (by rw [dw.out];kernel_rfl) jA.out ?_⟩
 intro w8 h8
 clear h7
 go_wp2_with (first
  |((with_reducible refine bI ⟨?_⟩);refine fB (cs:=(ay k).toArray) h8 ah aH Tryz.underlying30 rfl gV ?_)
  |((with_reducible refine rZ ⟨?_⟩);refine tC yJ ?_))
 clear nM
 have h9:=h8.drew
 have hG:World.cell? _ ⟨s,1,none⟩=some (ptr t)∧World.rangeAt _ b6 0 (ay k):=⟨h9.cellP aP 1 rfl,fun j v hj=>h9.cellP aH (0+j) (by simpa using hj)⟩
 clear h8
 refine dh [5,6,7,8,10,11] (fun w'=>w'.cell? ⟨s,1,none⟩=some (ptr t)∧w'.rangeAt b6 0 (ay k)) au ?_
 refine rP 0 ?_ (y:=aG)
 refine rP 1 ?_ (y:=dL)
 refine rP 2 ?_ (y:=cO)
 refine rt 3 (h:=?_)
 refine dK 4 aj au bC (gu (b:=b6) (o:=0) (ay k) ah Tryz.underlying30 rfl (by rw [dW.out];kernel_rfl) (fun w hw=>hw.2)) aQ gQ ?_
 clear hG
 refine rM 5 9 aj aj au (fun K hK=>?_) (fun K hK=>?_)
 focus
  (refine eU au aj aj ?_)
  refine (lM.out _ _ (h9.sb:Sat w0 _ (bW t mR BR::pt b6 (.cells (ay k).toArray 30 (0,0))::dG s r t false::pt b4 (.cells (ay ak.zero32).toArray 30 (0,0))::A1::A2::A3::A4::F))).mono ?_
  rintro ee w10 ⟨v,rfl,rfl,h10⟩
  refine hK _ _ (.inl rfl) ?_
  clear hK h9
  refine rP 6 ?_ (y:=aG)
  refine rP 7 ?_ (y:=(fC aj bT))
  refine rP 8 ?_ (y:=(fC aj bT))
  refine bG 9 aj au (fun K hK=>?_)
  refine kP (nH) h10 rfl ?_
  intro b8 fU h11
  refine hK _ _ (.inr (.inl ⟨h11.cellP iy 1 rfl,fun j v hj=>h11.cellP dM (0+j) (by simpa using hj)⟩)) ?_
  clear hK h10
 rotate_left
 focus
  refine kP (nH) h9 rfl ?_
  intro b8 w10 h10
  refine hK _ _ (.inr (.inl ⟨h10.cellP dM 1 rfl,fun j v hj=>h10.cellP aP (0+j) (by simpa using hj)⟩)) ?_
  clear hK h9
  refine bG 5 aj au (fun K hK=>?_)
  (refine eU au aj aj ?_)
  refine (lM.out _ _ (h10.sb:Sat w0 _ (bW t mR BR::pt b8 (.cells (aN gJ).toArray 60 (0,0))::pt b6 (.cells (ay k).toArray 30 (0,0))::dG s r t false::pt b4 (.cells (ay ak.zero32).toArray 30 (0,0))::A1::A2::A3::A4::F))).mono ?_
  rintro ee fU ⟨v,rfl,rfl,mZ⟩
  refine hK _ _ (.inl rfl) ?_
  clear hK h10
  have h11:Sat w0 fU (pt b8 (.cells (aN gJ).toArray 60 (0,0))::bW t mR BR::pt b6 (.cells (ay k).toArray 30 (0,0))::dG s r t false::pt b4 (.cells (ay ak.zero32).toArray 30 (0,0))::A1::A2::A3::A4::F):=mZ.sb
  clear mZ
  refine rP 6 ?_ (y:=aG)
  refine rP 7 ?_ (y:=(fC aj bT))
  refine rP 8 ?_ (y:=(fC aj bT))
 all_goals
  refine bG 10 aj au (fun K hK=>?_)
  refine jD (cs':=(aN x).toArray) h11 aj aj ah bJ bH au ah ?_
  intro w12 h12
  refine hK _ _ (.inl rfl) ?_
  clear hK h11
  refine rP 11 ?_ (y:=dN)
  refine cu au ?_
  have h13:Sat w0 w12 (dG s r t false::A1::A2::A3::A4::pt b8 (.cells (aN x).toArray 60 (0,0))::bW t mR BR::pt b6 (.cells (ay k).toArray 30 (0,0))::pt b4 (.cells (ay ak.zero32).toArray 30 (0,0))::F):=h12.sb
  clear h12
  have e8:w12.cell? ⟨b8,0,none⟩=some (.int .i64 x.refs):=h13.cellP (aO (aO (aO (aO (aO aH))))) 0 rfl
  go_wp2_with ((with_reducible refine bI ⟨?_⟩);refine fB (cs:=(ay k).toArray) h13 ah (aO (aO (aO (aO (aO (aO (aO aH))))))) Tryz.underlying30 rfl gV ?_)
  refine (Gp.out _ (pt b8 (.cells (aN x).toArray 60 (0,0))::bW t mR BR::pt b6 (.cells (ay k).toArray 30 (0,0))::pt b4 (.cells (ay ak.zero32).toArray 30 (0,0))::F) (jv (jv (jv (jv wV)))) h13).mono ?_
  rintro ee pq ⟨v,rfl,rfl,jE⟩
  clear e8 h13 c2
  go_wp2_with fail
  have h15:=jE.drew
  have hG:World.cell? _ ⟨s,1,none⟩=some (ptr t)∧World.cell? _ ⟨b8,0,none⟩=some (.int .i64 x.refs)∧World.rangeAt _ b6 0 (ay k):=⟨h15.cellP aH 1 rfl,h15.cellP EX 0 rfl,fun j v hj=>h15.cellP EY (0+j) (by simpa using hj)⟩
  clear jE
  refine dh [11] (fun w'=>w'.cell? ⟨s,1,none⟩=some (ptr t)∧w'.cell? ⟨b8,0,none⟩=some (.int .i64 x.refs)∧w'.rangeAt b6 0 (ay k)) au ?_
  refine rP 0 ?_ (y:=aG)
  refine rP 1 ?_ (y:=dL)
  refine rP 2 ?_ (y:=cO)
  refine rt 3 (h:=?_)
  refine dK 4 aj au bC (gu (b:=b6) (o:=0) (ay k) ah Tryz.underlying30 rfl (by rw [dW.out];kernel_rfl) (fun w hw=>hw.2.2)) aQ gQ ?_
  refine rP 5 ?_ (y:=cO)
  refine rt 6 (h:=?_)
  clear hG
  refine rP 7 ?_ (y:=dB)
  refine rP 8 ?_ (y:=aG)
  refine rP 9 ?_ (y:=(nG aj bT))
  refine rp 10 (hy:=(LP aj aj (fun w=>Uc (x.refs+1) (b.length:Nat) w))) (h:=?_)
  refine bG 11 aj au (fun K hK=>?_)
  (refine vU au aj aj aj ?_)
  refine (ql.out _ _ (h15.sb:Sat w0 _ (bW t mR BR::pt b4 (.cells (ay ak.zero32).toArray 30 (0,0))::pt b6 (.cells (ay k).toArray 30 (0,0))::dG s r t false::B1::B2::B3::B4::F))).mono ?_
  rintro ee w16 ⟨v,rfl,Bv⟩
  refine hK _ _ (.inl rfl) ?_
  clear hK h15 hwx
  have h16:Sat w0 w16 (pt b4 (.cells (ay ak.zero32).toArray 30 (0,0))::pt b6 (.cells (ay k).toArray 30 (0,0))::dG s r t false::bW t JE (BR+1)::B1::B2::B3::B4::F):=Bv.sb
  clear Bv
  refine cu au ?_
  go_wp2_with (first
   |((with_reducible refine bI ⟨?_⟩);refine fB (cs:=(ay k).toArray) h16 ah aP Tryz.underlying30 rfl gV ?_)
   |(with_reducible apply bU))
  refine ⟨eH (ay k).toArray h16 ah ah (dw.out.trans ah) bJ (by rw [dw.out];kernel_rfl) jA.out ?_⟩
  intro Ve h17
  have hrc:=fun tmps hp=>kC (tmps:=tmps) (fn:=Tryz.f7) rfl h17 hp aH Tryz.underlying30 rfl gV
  go_wp2_with fail
  refine ⟨rfl,_,hrc _ ah,_,rfl,rfl,h17.sb⟩
set_option maxRecDepth 20000 in
theorem afw {e:Int} (he:e≠0) (gY:BR≤134217000) (hl:b.length≤250) (hr:RS w0 F bv b) (hz:aA.sum b≠ak.zero32) (hmR:(mR (aA.sum b)).getD ⟨0,0⟩=x) (hx0:0≤x.refs) (hx1:x.refs<1000000) (jl:Ro w0 F kE) (hkeep:DK w0 F A1 A2 A3 A4 B1 B2 B3 B4 s r t (aA.sum b) bv e) (h:Sat w0 w (dG s r t false::bW t mR BR::A1::A2::A3::A4::F)) :
  Calls Tryz.prog 7 #[ptr s,bv] w (aI fun v w'=>v = .tuple #[.agg (ay ak.zero32).toArray,errno e]∧Sat w0 w' (dG s r t false::bW t mR BR::B1::B2::B3::B4::F)):=by
 have qX:=uQ (fun (w':World) (R:List aC) (hs:RS w0 R bv b) (hk:Ro w0 R kE) (hw:Sat w0 w' R)=>C9 oQ hs hk hw)
 have hk:=lg b
 generalize aA.sum b=k at *
 have dW:=uQ (show (ay k).length=32 by rw [aU,hk])
 have dw:=uQ (show (ay k).toArray.size=32 by rw [List.size_toArray,aU,hk])
 have jA:=uQ (show (ay k).toArray.toList.all (·.oneCell')=true by rw [List.all_eq_true];exact jU _)
 have lM:=uQ (fun (w':World) (R:List aC) (hw:Sat w0 w' (bW t mR BR::R))=>zH (k:=k) (Nat.le_trans gY aJ) hk hw)
 rw [hmR]at lM
 have nM:∀ w,(Op.equalIn 10000 30 (.agg (ay k).toArray) (.agg (ay ak.zero32).toArray)).run Tryz.prog w = .ok false w:=fun w=>by rw [pJ k _ hk aJ,decide_eq_false hz]
 obtain ⟨ba,bc,rfl,q1,q2⟩:=hr.len (h.sb:Sat w0 w F)
 have c1:¬ (16379:Int)<(b.length:Int):=oQ
 have c2:¬ (1073741824:Int)≤x.refs:=oQ
 have he':¬ e=0:=he
 have lZ:=uQ jl;have Hr:=uQ hr;have Gp:=uQ hkeep
 have gV:(Tryz.prog.info? 30).map (·.size)=some (ay k).toArray.size:=by rw [dw.out];kernel_rfl
 clear gY hl hr hz hmR jl hk q1 q2 hx0 hx1 hkeep he
 go_enter Tryz.func7,Tryz.ntmps7
 go_wp2_with (with_reducible apply dY)
 refine ⟨dS oz h rfl ?_⟩
 intro b4 w4 h4
 replace h4:Sat w0 w4 (dG s r t false::bW t mR BR::pt b4 (.cells (ay ak.zero32).toArray 30 (0,0))::A1::A2::A3::A4::F):=h4.sb
 clear h
 have hok:=rO h4
 go_wp2_with fail
 refine hok.mono ?_
 rintro ee w5 ⟨v,rfl,rfl,rfl⟩
 clear hok
 go_wp2_with fail
 refine (qX.out _ _ (Hr.out.more iJ) (Ro.os lZ.out) h4).mono ?_
 rintro ee w6 ⟨v,rfl,rfl,h6⟩
 clear h4 c1
 go_wp2_with (with_reducible apply dY)
 refine ⟨dS oz h6 rfl ?_⟩
 intro b6 w7 h7
 clear h6
 go_wp2_with (with_reducible apply bU)
 refine ⟨eH (ay k).toArray h7 ah ah (dw.out.trans ah) bJ (by rw [dw.out];kernel_rfl) jA.out ?_⟩
 intro w8 h8
 clear h7
 go_wp2_with (first
  |((with_reducible refine bI ⟨?_⟩);refine fB (cs:=(ay k).toArray) h8 ah aH Tryz.underlying30 rfl gV ?_)
  |((with_reducible refine rZ ⟨?_⟩);refine tC yJ ?_))
 clear nM
 have h9:=h8.drew
 have hG:World.cell? _ ⟨s,1,none⟩=some (ptr t)∧World.rangeAt _ b6 0 (ay k):=⟨h9.cellP aP 1 rfl,fun j v hj=>h9.cellP aH (0+j) (by simpa using hj)⟩
 clear h8
 refine dh [5,6,7,8,10,11] (fun w'=>w'.cell? ⟨s,1,none⟩=some (ptr t)∧w'.rangeAt b6 0 (ay k)) au ?_
 refine rP 0 ?_ (y:=aG)
 refine rP 1 ?_ (y:=dL)
 refine rP 2 ?_ (y:=cO)
 refine rt 3 (h:=?_)
 refine dK 4 aj au bC (gu (b:=b6) (o:=0) (ay k) ah Tryz.underlying30 rfl (by rw [dW.out];kernel_rfl) (fun w hw=>hw.2)) aQ gQ ?_
 clear hG
 refine rM 5 9 aj aj au (fun K hK=>?_) (fun K hK=>?_)
 focus
  (refine eU au aj aj ?_)
  refine (lM.out _ _ (h9.sb:Sat w0 _ (bW t mR BR::pt b6 (.cells (ay k).toArray 30 (0,0))::dG s r t false::pt b4 (.cells (ay ak.zero32).toArray 30 (0,0))::A1::A2::A3::A4::F))).mono ?_
  rintro ee w10 ⟨v,rfl,rfl,h10⟩
  refine hK _ _ (.inl rfl) ?_
  clear hK h9
  refine rP 6 ?_ (y:=aG)
  refine rP 7 ?_ (y:=(fC aj bT))
  refine rP 8 ?_ (y:=(fC aj bT))
  refine bG 9 aj au (fun K hK=>?_)
  refine kP (nH) h10 rfl ?_
  intro b8 fU h11
  refine hK _ _ (.inr (.inl ⟨h11.cellP iy 1 rfl,fun j v hj=>h11.cellP dM (0+j) (by simpa using hj)⟩)) ?_
  clear hK h10
 rotate_left
 focus
  refine kP (nH) h9 rfl ?_
  intro b8 w10 h10
  refine hK _ _ (.inr (.inl ⟨h10.cellP dM 1 rfl,fun j v hj=>h10.cellP aP (0+j) (by simpa using hj)⟩)) ?_
  clear hK h9
  refine bG 5 aj au (fun K hK=>?_)
  (refine eU au aj aj ?_)
  refine (lM.out _ _ (h10.sb:Sat w0 _ (bW t mR BR::pt b8 (.cells (aN gJ).toArray 60 (0,0))::pt b6 (.cells (ay k).toArray 30 (0,0))::dG s r t false::pt b4 (.cells (ay ak.zero32).toArray 30 (0,0))::A1::A2::A3::A4::F))).mono ?_
  rintro ee fU ⟨v,rfl,rfl,mZ⟩
  refine hK _ _ (.inl rfl) ?_
  clear hK h10
  have h11:Sat w0 fU (pt b8 (.cells (aN gJ).toArray 60 (0,0))::bW t mR BR::pt b6 (.cells (ay k).toArray 30 (0,0))::dG s r t false::pt b4 (.cells (ay ak.zero32).toArray 30 (0,0))::A1::A2::A3::A4::F):=mZ.sb
  clear mZ
  refine rP 6 ?_ (y:=aG)
  refine rP 7 ?_ (y:=(fC aj bT))
  refine rP 8 ?_ (y:=(fC aj bT))
 all_goals
  refine bG 10 aj au (fun K hK=>?_)
  refine jD (cs':=(aN x).toArray) h11 aj aj ah bJ bH au ah ?_
  intro w12 h12
  refine hK _ _ (.inl rfl) ?_
  clear hK h11
  refine rP 11 ?_ (y:=dN)
  refine cu au ?_
  have h13:Sat w0 w12 (dG s r t false::A1::A2::A3::A4::pt b8 (.cells (aN x).toArray 60 (0,0))::bW t mR BR::pt b6 (.cells (ay k).toArray 30 (0,0))::pt b4 (.cells (ay ak.zero32).toArray 30 (0,0))::F):=h12.sb
  clear h12
  have e8:w12.cell? ⟨b8,0,none⟩=some (.int .i64 x.refs):=h13.cellP (aO (aO (aO (aO (aO aH))))) 0 rfl
  go_wp2_with ((with_reducible refine bI ⟨?_⟩);refine fB (cs:=(ay k).toArray) h13 ah (aO (aO (aO (aO (aO (aO (aO aH))))))) Tryz.underlying30 rfl gV ?_)
  refine (Gp.out _ (pt b8 (.cells (aN x).toArray 60 (0,0))::bW t mR BR::pt b6 (.cells (ay k).toArray 30 (0,0))::pt b4 (.cells (ay ak.zero32).toArray 30 (0,0))::F) (jv (jv (jv (jv wV)))) h13).mono ?_
  rintro ee pq ⟨v,rfl,rfl,jE⟩
  clear e8 h13 c2
  go_wp2_with (first
   |((with_reducible refine rZ ⟨?_⟩);refine tC yJ ?_)
   |(with_reducible apply bU))
  refine ⟨eH (ay ak.zero32).toArray (jE.pick acR) ah ah ah bJ au ah ?_⟩
  intro Ve h17
  have hrc:=fun tmps hp=>kC (tmps:=tmps) (fn:=Tryz.f7) rfl h17 hp aH Tryz.underlying30 rfl au
  go_wp2_with fail
  refine ⟨rfl,_,hrc _ ah,_,rfl,rfl,h17.sb⟩
set_option maxRecDepth 20000 in
theorem afx (hl:b.length≤250) (hr:RS w0 F bv b) (hz:aA.sum b=ak.zero32) (jl:Ro w0 F kE) (h:Sat w0 w (dG s r t false::F)) :
  Calls Tryz.prog 7 #[ptr s,bv] w (aI fun v w'=>v = .tuple #[.agg (ay ak.zero32).toArray,errno 19]∧Sat w0 w' (dG s r t false::F)):=by
 have qX:=uQ (fun (w':World) (R:List aC) (hs:RS w0 R bv b) (hk:Ro w0 R kE) (hw:Sat w0 w' R)=>C9 oQ hs hk hw)
 rw [hz]at qX
 have nM:∀ w,(Op.equalIn 10000 30 (.agg (ay ak.zero32).toArray) (.agg (ay ak.zero32).toArray)).run Tryz.prog w = .ok true w:=fun w=>by rw [pJ _ _ aJ aJ,decide_eq_true rfl]
 obtain ⟨ba,bc,rfl,q1,q2⟩:=hr.len (h.sb:Sat w0 w F)
 have c1:¬ (16379:Int)<(b.length:Int):=oQ
 have lZ:=uQ jl;have Hr:=uQ hr
 have gV:(Tryz.prog.info? 30).map (·.size)=some (ay ak.zero32).toArray.size:=by kernel_rfl
 clear hl hr hz jl q1 q2
 go_enter Tryz.func7,Tryz.ntmps7
 go_wp2_with (with_reducible apply dY)
 refine ⟨dS oz h rfl ?_⟩
 intro b4 w4 h4
 replace h4:Sat w0 w4 (dG s r t false::pt b4 (.cells (ay ak.zero32).toArray 30 (0,0))::F):=h4.sb
 clear h
 have hok:=rO h4
 go_wp2_with fail
 refine hok.mono ?_
 rintro ee w5 ⟨v,rfl,rfl,rfl⟩
 clear hok
 go_wp2_with fail
 refine (qX.out _ _ (Hr.out.more iJ) (Ro.os lZ.out) h4).mono ?_
 rintro ee w6 ⟨v,rfl,rfl,h6⟩
 clear h4 c1
 go_wp2_with (with_reducible apply dY)
 refine ⟨dS oz h6 rfl ?_⟩
 intro b6 w7 h7
 clear h6
 go_wp2_with (with_reducible apply bU)
 refine ⟨eH (ay ak.zero32).toArray h7 ah ah ah bJ au ah ?_⟩
 intro w8 h8
 clear h7
 go_wp2_with (first
  |((with_reducible refine bI ⟨?_⟩);refine fB (cs:=(ay ak.zero32).toArray) h8 ah aH Tryz.underlying30 rfl gV ?_)
  |((with_reducible refine rZ ⟨?_⟩);refine tC yJ ?_)
  |(with_reducible apply bU))
 refine ⟨eH (ay ak.zero32).toArray (h8.pick dM) ah ah ah bJ au ah ?_⟩
 intro w9 h9
 clear h8
 have hrc:=fun tmps hp=>kC (tmps:=tmps) (fn:=Tryz.f7) rfl h9 hp aH Tryz.underlying30 rfl gV
 go_wp2_with fail
 refine ⟨rfl,_,hrc _ ah,_,rfl,rfl,h9.sb⟩
end
end Go.Proofs.YtlimfgdbfadohaaGreatDoor
namespace Go.aB
open Go.Seg (zh Ec)
def At (M:aB) (s:ByteArray) (i:Int) (k:Nat):Prop:=dD M.now s=some k∧0≤i∧i<((M.file k).now.length:Int)
section
variable {K:Nat}{M:aB}{s t:ByteArray}{i:Int}{k:Nat}{y:UInt8}{b:Bs}
end
end Go.aB
namespace Go.Seg
open Go.aB
open Go.ak (Bs aX encs jd)
open Go.Rep
section
variable {K:Nat}{L:Log}{M:aB}{s:ByteArray}{i:Int}{k:Nat}{y:UInt8}{x:aX}
end
abbrev TT:=Bs→Option (Bs×Nat)
def TT.put (T:TT) (b:Bs):TT:=fun x=>if x=aA.sum b then some (b,((T x).map (·.2)).getD 0+1) else T x
structure jO (n c:Nat) (L:Log) (M:aB) (C:List (List aX)) (T:TT) (mR:Bs→Option dU):Prop where
 rp:Rp (4 * n) 1048576 0 0 n L M C
 txt:∀ k,o7 C.flatten k=(T k).map fun p=>Lz.iV p.1
 cnt:∀ k,mR k=(T k).map fun p=>⟨(p.2:Int),(p.1.length:Int)⟩
 sum:∀ k p,T k=some p→k=aA.sum p.1∧p.1.length≤150∧p.2≤c
section
variable {n c:Nat}{L:Log}{M:aB}{C:List (List aX)}{T:TT}{mR:Bs→Option dU}{k b:Bs}{p:Bs×Nat}
theorem jO.mono (h:jO n c L M C T mR){n' c':Nat} (h1:n≤n') (h2:c≤c'):jO n' c' L M C T mR:=
 ⟨h.rp.mono oQ (Nat.le_refl _) (Nat.le_refl _) h1,h.txt,h.cnt,fun k p hp=>⟨(h.sum k p hp).1,(h.sum k p hp).2.1,Nat.le_trans (h.sum k p hp).2.2 h2⟩⟩
theorem jO.has (h:jO n c L M C T mR) (k:Bs):(jc (iD 0 C) k).isSome=(T k).isSome:=by
 rw [(SA _ k).1,KG,h.txt]
 cases T k <;> rfl
theorem jO.got (h:jO n c L M C T mR) (hp:T k=some p):∃ pl,jc (iD 0 C) k=some pl∧L.read M pl=(⟨0,k,Lz.iV p.1⟩,0)∧(-9223372036854775808≤pl.at_∧pl.at_≤9223372036854775807)∧(-9223372036854775808≤pl.size∧pl.size≤9223372036854775807):=by
 have hs:=h.has k
 rw [hp]at hs
 obtain ⟨pl,hpl⟩:=Option.isSome_iff_exists.1 hs
 obtain ⟨d,h1,h2,_,h4,h5,_⟩:=h.rp.got hpl
 rw [h.txt,hp]at h2
 cases h2
 exact ⟨pl,hpl,h1,h4,h5⟩
theorem jO.Og (h:jO n c L M C T mR) (k:Bs):(mR k).getD ⟨0,0⟩=⟨(((T k).map (·.2)).getD 0:Nat),(((T k).map (·.1.length)).getD 0:Nat)⟩:=by
 rw [h.cnt]
 cases T k <;> rfl
theorem ac7 (T:TT) (b:Bs):T.put b (aA.sum b)=some (b,((T (aA.sum b)).map (·.2)).getD 0+1):=if_pos rfl
theorem jO.Oh (h:jO n c L M C T mR) (b:Bs):∀ k,Tab.put mR (aA.sum b) ⟨((((T (aA.sum b)).map (·.2)).getD 0:Nat):Int)+1,(b.length:Nat)⟩ k=(T.put b k).map fun p=>⟨(p.2:Int),(p.1.length:Int)⟩:=fun k=>by
 unfold Tab.put TT.put
 by_cases e:k=aA.sum b
 ·subst e
  rw [if_pos rfl,if_pos rfl]
  show _=some _
  congr 1
 ·rw [if_neg e,if_neg e];exact h.cnt k
theorem jO.UO (h:jO n c L M C T mR) (hb:b.length≤150):∀ k p,T.put b k=some p→k=aA.sum p.1∧p.1.length≤150∧p.2≤c+1:=fun k p hp=>by
 unfold TT.put at hp
 by_cases e:k=aA.sum b
 ·rw [if_pos e]at hp
  cases hp
  refine ⟨e,hb,?_⟩
  show ((T k).map (·.2)).getD 0+1≤c+1
  cases hT:T k with
  |none=>exact Nat.succ_le_succ (Nat.zero_le _)
  |some q=>exact Nat.succ_le_succ (h.sum k q hT).2.2
 ·rw [if_neg e]at hp
  have:=h.sum k p hp
  exact ⟨this.1,this.2.1,Nat.le_succ_of_le this.2.2⟩
theorem Vy (hb:b.length≤150):(Lz.iV b).length≤300:=by have:=Lz.FW b;omega
theorem ag2 (hk:k.length=32) (hb:b.length≤150):(ak.encode ⟨0,k,Lz.iV b⟩).2=0:=ZX hk _ (Vy hb)
theorem jO.put (h:jO n c L M C T mR) (hn:n<400) (hb:b.length≤150) :
  (L.append M ⟨0,aA.sum b,Lz.iV b⟩).2.2=0∧∃ C',jO (n+1) (c+1) (L.append M ⟨0,aA.sum b,Lz.iV b⟩).1.1 (L.append M ⟨0,aA.sum b,Lz.iV b⟩).1.2 C' (T.put b) (Tab.put mR (aA.sum b) ⟨((((T (aA.sum b)).map (·.2)).getD 0:Nat):Int)+1,(b.length:Nat)⟩)∧jc (iD 0 C')=Tab.put (jc (iD 0 C)) (aA.sum b) (L.append M ⟨0,aA.sum b,Lz.iV b⟩).2.1:=by
 have hk:=Go.Proofs.YtlimfgdbfadohaaGreatDoor.lg b
 have he:=ag2 hk hb
 have hu:=h.rp.hg.used
 have hrm:=h.rp.hg.keeps.calm.room
 have hnm:=h.rp.hg.names
 have hd:(⟨0,aA.sum b,Lz.iV b⟩:aX).data.length≤300:=Vy hb
 obtain ⟨a1,_⟩:=h.rp.hg.append oQ ⟨0,aA.sum b,Lz.iV b⟩ hk hd he (.inr ⟨by omega,by omega⟩)
 refine ⟨a1,?_⟩
 obtain ⟨C',b1,_,b3,row,b4,b5,b6⟩:=h.rp.yes oQ hk hd he a1
 refine ⟨C',⟨b1.mono oQ (Nat.le_refl _) (Nat.le_refl _) (Nat.le_refl _),fun k=>?_,h.Oh b,h.UO hb⟩,?_⟩
 ·rw [b3,acy rfl]
  unfold Tab.put TT.put
  show (if k=aA.sum b then some (Lz.iV b) else o7 C.flatten k)=_
  by_cases e:k=aA.sum b
  ·rw [if_pos e,if_pos e];rfl
  ·rw [if_neg e,if_neg e];exact h.txt k
 ·rw [b4,acp (by unfold iC;rw [b5])]
  have e1:jo row=aA.sum b:=by unfold jo;rw [b5]
  rw [e1,b6]
theorem jO.more (h:jO n c L M C T mR){cc:Nat} (hT:T (aA.sum b)=some (b,cc)) (hb:b.length≤150):jO n (c+1) L M C (T.put b) (Tab.put mR (aA.sum b) ⟨((((T (aA.sum b)).map (·.2)).getD 0:Nat):Int)+1,(b.length:Nat)⟩):=by
 refine ⟨h.rp,fun k=>?_,h.Oh b,h.UO hb⟩
 rw [h.txt]
 unfold TT.put
 by_cases e:k=aA.sum b
 ·rw [if_pos e,e,hT];rfl
 ·rw [if_neg e]
end
end Go.Seg
namespace Go.Proofs.YtlimfgdbfadohaaGreatDoor
open Go Go.Sl Go.aB Go.MapKept Go.RowKit
def gX (w0:World) (s m n c:Nat) (T:Seg.TT) (F:List aC) (w:World):Prop:=
 ∃ (r t p ps pn B BR:Nat) (seg:Int) (d:Bool) (L:Seg.Log) (M:aB) (C:List (List ak.aX)) (mR:ak.Bs→Option Rep.dU),Seg.jO n c L M C T mR∧B≤n∧BR≤c∧Sat w0 w (dG s r t false::bW t mR BR::dA r m seg p ps pn d::aZ pn (Rep.jc (Rep.iD 0 C)) B::aS p m L::aT m M::F)
section
variable {w0 w:World}{F:List aC}{s m n c:Nat}{T:Seg.TT}{k b:ak.Bs}{bv:Value}{q:ak.Bs×Nat}
theorem gX.mono (h:gX w0 s m n c T F w){n' c':Nat} (h1:n≤n') (h2:c≤c'):gX w0 s m n' c' T F w:=by
 obtain ⟨r,t,p,ps,pn,B,BR,seg,d,L,M,C,mR,hf,hB,gY,hS⟩:=h
 exact ⟨r,t,p,ps,pn,B,BR,seg,d,L,M,C,mR,hf.mono h1 h2,Nat.le_trans hB h1,Nat.le_trans gY h2,hS⟩
theorem gX.push (h:gX w0 s m n c T F w):∃ G:List aC,Sat w0 w G∧Sub G F∧(∀ w',Sat w0 w' G→gX w0 s m n c T F w')∧(∀ (A:aC) w',Sat w0 w' (A::G)→gX w0 s m n c T (A::F) w'):=by
 obtain ⟨r,t,p,ps,pn,B,BR,seg,d,L,M,C,mR,hf,hB,gY,hS⟩:=h
 exact ⟨_,hS,iJ,fun w' hw=>⟨r,t,p,ps,pn,B,BR,seg,d,L,M,C,mR,hf,hB,gY,hw⟩,fun A w' hw=>⟨r,t,p,ps,pn,B,BR,seg,d,L,M,C,mR,hf,hB,gY,hw.sb⟩⟩
theorem gX.one (h:gX w0 s m n c T F w):∃ P:aC,Sat w0 w (P::F)∧∀ (X:List aC) w',Sat w0 w' (P::X)→gX w0 s m n c T X w':=by
 obtain ⟨r,t,p,ps,pn,B,BR,seg,d,L,M,C,mR,hf,hB,gY,hS⟩:=h
 refine ⟨stars [dG s r t false,bW t mR BR,dA r m seg p ps pn d,aZ pn (Rep.jc (Rep.iD 0 C)) B,aS p m L,aT m M],Sat.join (M:=[dG s r t false,bW t mR BR,dA r m seg p ps pn d,aZ pn (Rep.jc (Rep.iD 0 C)) B,aS p m L,aT m M]) hS (aX.refl _),fun X w' hw=>⟨r,t,p,ps,pn,B,BR,seg,d,L,M,C,mR,hf,hB,gY,?_⟩⟩
 exact Sat.split (M:=[dG s r t false,bW t mR BR,dA r m seg p ps pn d,aZ pn (Rep.jc (Rep.iD 0 C)) B,aS p m L,aT m M]) hw (aX.refl _)
theorem gX.drop {A:aC} (h:gX w0 s m n c T (A::F) w):gX w0 s m n c T F w:=by
 obtain ⟨r,t,p,ps,pn,B,BR,seg,d,L,M,C,mR,hf,hB,gY,hS⟩:=h
 exact ⟨r,t,p,ps,pn,B,BR,seg,d,L,M,C,mR,hf,hB,gY,hS.sb⟩
theorem hasB {r m p ps pn B:Nat}{seg:Int}{d:Bool}{mp:ak.Bs→Option Seg.bF}{A3 A4:aC} (hB:B≤268435000) (hk:k.length=32):Dw w0 (dA r m seg p ps pn d) (aZ pn mp B) A3 A4 r k (mp k).isSome:=fun w' R hw=>
 (TV hB hk hw).mono (by rintro e w'' ⟨v,rfl,h1,h2⟩;exact ⟨v,rfl,h1,h2⟩)
theorem P5 {r m p ps pn B K:Nat}{seg:Int}{d:Bool}{mp:ak.Bs→Option Seg.bF}{L:Seg.Log}{M:aB}{data:ak.Bs}{pl:Seg.bF} (hB:B≤268435000) (hk:k.length=32) (hm:mp k=some pl) (hH:Ro w0 F Half) (hL:L.Ok) (hM:M.Ok K) (h1 : -9223372036854775808≤pl.at_∧pl.at_≤9223372036854775807) (h2 : -9223372036854775808≤pl.size∧pl.size≤9223372036854775807) (hd:data.length≤100000) (hr:L.read M pl=(⟨0,k,data⟩,0)):LZ w0 F (dA r m seg p ps pn d) (aZ pn mp B) (aS p m L) (aT m M) r k data:=fun w' R hR hw=>
 ad5 hB hk pl hm (Ro.of_sub hH hR) hL hM h1 h2 data oQ hr hw
theorem ac5 {r m p ps pn B K:Nat}{seg:Int}{d:Bool}{mp:ak.Bs→Option Seg.bF}{L L':Seg.Log}{M M':aB}{W:ak.Bs}{pl:Seg.bF} (hB:B≤134217000) (hk:k.length=32) (hW:W.length≤100000) (hL:L.Ok) (hM:M.Ok K) (oW:K≤1000000) (hH:Ro w0 F Half) (hap:L.append M ⟨0,k,W⟩=((L',M'),pl,0)) :
  Na w0 F (dA r m seg p ps pn d) (aZ pn mp B) (aS p m L) (aT m M) (dA r m seg p ps pn true) (aZ pn (Tab.put mp k pl) (B+1)) (aS p m L') (aT m M') r k W:=fun w' R da dc hR hd hw=>by
 have:=ad8 hB hk W da dc hd oQ hL hM oQ (Ro.of_sub hH hR) (by rw [hap]) hw
 rw [hap]at this
 exact this
theorem UM (hn:n<300) (hc:c<1000) (hb:b.length≤150) (hr:RS w0 F bv b) (hH:Ro w0 F Half) (jl:Ro w0 F kE) (h:gX w0 s m n c T F w) :
  Calls Tryz.prog 7 #[ptr s,bv] w (aI fun v w'=>(v = .tuple #[.agg (ay (aA.sum b)).toArray,errno 0]∧aA.sum b≠ak.zero32∧(T (aA.sum b)=none∨∃ cc,T (aA.sum b)=some (b,cc))∧gX w0 s m (n+1) (c+1) (T.put b) F w')∨(v = .tuple #[.agg (ay ak.zero32).toArray,errno 19]∧gX w0 s m n c T F w'∧(aA.sum b=ak.zero32∨∃ u cc,T (aA.sum b)=some (u,cc)∧u≠b))):=by
 obtain ⟨r,t,p,ps,pn,B,BR,seg,d,L,M,C,mR,hf,hB,gY,hS⟩:=h
 have hk:=lg b
 by_cases hz:aA.sum b=ak.zero32
 ·refine (afx oQ (hr.more iJ) hz (Ro.os jl) hS).mono ?_
  rintro e w' ⟨v,rfl,h1,h2⟩
  exact ⟨v,rfl,.inr ⟨h1,⟨r,t,p,ps,pn,B,BR,seg,d,L,M,C,mR,hf,hB,gY,h2⟩,.inl hz⟩⟩
 have hok:=hf.rp.hg.keeps.log
 have hmd:=hf.rp.hg.keeps.calm.ok
 have hx:=hf.Og (aA.sum b)
 have hcs:((T (aA.sum b)).map (·.2)).getD 0≤c:=by
  cases hT:T (aA.sum b) with
  |none=>exact Nat.zero_le _
  |some q=>exact (hf.sum _ q hT).2.2
 obtain ⟨cv,hcv⟩:∃ x,((T (aA.sum b)).map (·.2)).getD 0=x:=⟨_,rfl⟩
 rw [hcv]at hx hcs
 have hhas:Dw w0 (dA r m seg p ps pn d) (aZ pn (Rep.jc (Rep.iD 0 C)) B) (aS p m L) (aT m M) r (aA.sum b) (T (aA.sum b)).isSome:=by
  have:=hasB (w0:=w0) (r:=r) (m:=m) (p:=p) (ps:=ps) (pn:=pn) (B:=B) (seg:=seg) (d:=d) (mp:=Rep.jc (Rep.iD 0 C)) (A3:=aS p m L) (A4:=aT m M) oQ hk
  rwa [hf.has]at this
 cases hT:T (aA.sum b) with
 |none=>
  obtain ⟨a1,C',a2,a3⟩:=hf.put (b:=b) oQ hb
  rw [hcv]at a2
  rw [hT]at hhas
  have hap:L.append M ⟨0,aA.sum b,Lz.iV b⟩=(((L.append M ⟨0,aA.sum b,Lz.iV b⟩).1.1,(L.append M ⟨0,aA.sum b,Lz.iV b⟩).1.2),(L.append M ⟨0,aA.sum b,Lz.iV b⟩).2.1,0):=Prod.ext rfl (Prod.ext rfl a1)
  have hkp:=afm (s:=s) (t:=t) (F:=F) hk oQ hr hhas (fun e=>by cases e) (ac5 oQ hk (by have:=Lz.FW b;omega) hok hmd oQ hH hap)
  refine (UF oQ oQ hr hz hx (by show (0:Int)≤(cv:Int);omega) (by show ((cv:Nat):Int)<1000000;omega) jl hkp hS).mono ?_
  rintro e w' ⟨v,rfl,h1,h2⟩
  exact ⟨v,rfl,.inl ⟨h1,hz,.inl rfl,r,t,p,ps,pn,B+1,BR+1,seg,true,_,_,C',_,a2,by omega,by omega,by rw [a3];exact h2⟩⟩
 |some q=>
  obtain ⟨u,cc⟩:=q
  obtain ⟨pl,g1,g2,g3,g4⟩:=hf.got hT
  obtain ⟨s1,s2,s3⟩:=hf.sum _ _ hT
  have s2:u.length≤150:=s2
  have I4:=P5 (w0:=w0) (F:=F) (r:=r) (m:=m) (p:=p) (ps:=ps) (pn:=pn) (B:=B) (seg:=seg) (d:=d) (data:=Lz.iV u) oQ hk g1 hH hok hmd g3 g4 (by have:=Lz.FW u;omega) g2
  have hsg:=Ut (s:=s) (t:=t) s1 oQ jl I4
  rw [hT]at hhas
  have hkp:=afn hk hr hhas hsg
  by_cases hub:u=b
  ·subst hub
   rw [if_pos rfl]at hkp
   have hmo:=hf.more hT hb
   rw [hcv]at hmo
   refine (UF oQ oQ hr hz hx (by show (0:Int)≤(cv:Int);omega) (by show ((cv:Nat):Int)<1000000;omega) jl hkp hS).mono ?_
   rintro e w' ⟨v,rfl,h1,h2⟩
   exact ⟨v,rfl,.inl ⟨h1,hz,.inr ⟨cc,rfl⟩,r,t,p,ps,pn,B,BR+1,seg,d,L,M,C,_,hmo.mono (Nat.le_succ _) (Nat.le_refl _),by omega,by omega,h2⟩⟩
  ·rw [if_neg hub]at hkp
   refine (afw aJ oQ oQ hr hz hx (by show (0:Int)≤(cv:Int);omega) (by show ((cv:Nat):Int)<1000000;omega) jl hkp hS).mono ?_
   rintro e w' ⟨v,rfl,h1,h2⟩
   exact ⟨v,rfl,.inr ⟨h1,⟨r,t,p,ps,pn,B,BR,seg,d,L,M,C,mR,hf,hB,gY,h2⟩,.inr ⟨u,cc,rfl,hub⟩⟩⟩
end
structure D.At (W:World) (d:D):Prop where
 kind:pR d.kind
 name:d.name.size≤9223372036854775807
 to:d.to.size≤9223372036854775807
 n:pR d.n
 m:pR d.m
 b:bK 1 d.bv (ay d.b) W
 bc:kK d.bv
 l:bK 1 d.lv (ints d.l) W
 lc:kK d.lv
 li:∀ z∈d.l,pR z
structure D.Fit (w0:World) (F:List aC) (d:D):Prop where
 name:d.name.size≤30
 to:d.to.size≤30
 n:pR d.n
 m:pR d.m
 b:d.b.length≤100
 l:Ro w0 F (bK 1 d.lv (ints d.l))
 lc:kK d.lv
 li:∀ z∈d.l,pR z
section
variable {w0 w W:World}{F:List aC}{m fb nb b r:Nat}{M:aB}{bs:List Nat}{wv v bv dv:Value}{s:ByteArray}{fs:List bD}{K:Nat}
end
def ahx (M0 M:aB):Prop:=M=M0∨∃ (nm:ByteArray) (i:Int) (y:UInt8) (k:Nat),At M0 nm i k∧M=(M0.lX nm i y).1
section
variable {w0 w:World}{F:List aC}{s m n c:Nat}{T:Seg.TT}{G:ak.Bs→Prop}{k b:ak.Bs}{bv:Value}{q:ak.Bs×Nat}{M0 M:aB}
end
end Go.Proofs.YtlimfgdbfadohaaGreatDoor
