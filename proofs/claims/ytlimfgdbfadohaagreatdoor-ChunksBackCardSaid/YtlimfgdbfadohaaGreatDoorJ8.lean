import Derived.Test.YtlimfgdbfadohaaGreatDoorJ7
set_option linter.unusedVariables false
set_option maxHeartbeats 128000000
namespace Go.Proofs.YtlimfgdbfadohaaGreatDoor
open Go Go.Sl Go.aB Go.MapKept Go.RowKit
section
variable {P:Program}{w0 w:World}{L R:List aC}{ops:Array Oper}{rest:List Oper}{a:Act}{Q:Exit→Act→World→Prop}{dst:Option Tmp}{t ty e:TypeId}{pos:String}{after:Array Edge}{x y s:Operand}{sz dX:Nat}{v v1:Value}
theorem aeJ (hb:oU P t e sz dX=true) (w:World):(Instr.buildSlice t 0 #[]).run P w = .ok (.slice (some ⟨w.heap.size,0,none⟩) 0 0) (w.alloc (.cells #[] e)):=by
 obtain ⟨hu,i,z,hi,hz,e1,e2,e3,e4⟩:=vJ hb
 have hsz':(sizeOf e).run P w = .ok i.size w:=by simp [sizeOf,typeInfo,hi]
 have hf:Instr.fill (fun i'=>some (i' * i.size,i.size)) ((Array.range 0).map ((#[]:Array Value)[· % (#[]:Array Value).size]!)) []=some #[]:=by unfold Instr.fill;simp
 unfold Instr.buildSlice
 simp only [Sem.run_bind,run_underlying hu,Result.andThen_ok,hsz',Nat.zero_mul,if_neg (show ¬ (0>2^24) by omega)]
 simp [newRow,go_sem]
theorem X7 (h:Stop (wpList P ops Q (⟨dst,.buildSlice ty 0 #[],t,pos,after,none⟩::rest) a w)):wpList P ops Q (⟨dst,.buildSlice ty 0 #[],t,pos,after,none⟩::rest) a w:=h.out
theorem agT (hb:oU P ty e sz dX=true) (hs:Sat w0 w L)
  (hK:∀ b w',Sat w0 w' (aF e sz (.slice (some ⟨b,0,none⟩) 0 0) []::L)→wpList P ops Q rest (a.put dst (.slice (some ⟨b,0,none⟩) 0 0)) w'):wpList P ops Q (⟨dst,.buildSlice ty 0 #[],t,pos,after,none⟩::rest) a w:=by
 refine wpList_plain rfl fun _ hK'=>?_
 have hS:=hs.alloc (.cells #[] e)
 unfold Oper.wp execOp
 simp only [List.map_toArray,List.map_nil,Sem.run_bind,Sem.run_pure,aeJ hb w,Result.andThen_ok]
 exact hK' _ _ (hK _ _ (Sat.jV hS (by simp) (Nat.le_refl _) (by simp) aJ (by simp)))
end
section
variable {w0 w:World}{F:List aC}{p b n c B:Nat}{m:ak.Bs→Option Seg.bF}{xs:List Value}
set_option maxRecDepth 20000 in
theorem Yx (h1:∀ u∈xs,u.oneCell'=true) (hl:xs.length≤2147483648) (h:Sat w0 w (aF 170 36 (.slice (some ⟨b,0,none⟩) n c) xs::F)) :
  Calls Tryz.prog 82 #[.slice (some ⟨b,0,none⟩) n c] w (aI fun v w'=>Sat w0 w' (aF 170 36 v xs::aF 170 36 (.slice (some ⟨b,0,none⟩) n c) xs::F)):=by
 have H1:=uQ h1;have Hl:=uQ hl
 have he:∀ w,(binOp .eql 167 (.slice (some ⟨b,0,none⟩) n c) (.slice none 0 0)).run Tryz.prog w = .ok (.bool false) w:=fun w=>by first|kernel_rfl|rfl
 clear h1 hl
 go_enter Tryz.func82,Tryz.ntmps82
 go_wp2_with (first
  |((with_reducible refine X7 ⟨?_⟩);refine agT (e:=170) (sz:=36) (dX:=64) au h ?_;intro bN wN hN)
  |(with_reducible apply jf))
 refine ⟨wY 170 36 64 au hN ah ah aH (Sat.rd hN.drop) H1.out (by have:=Hl.out;simp only [List.length_nil];omega) aJ ?_⟩
 intro v' w' hS
 rw [List.nil_append]at hS
 go_wp2_with fail
 go_ret
 exact ⟨_,rfl,hS⟩
theorem afp (s:List (Tab.Slot Seg.bF)):∀ u∈s.flatMap (slotL aW),u.oneCell'=true:=fun u hu=>by
 obtain ⟨x,_,hx⟩:=List.mem_flatMap.1 hu
 have:=(List.all_eq_true.1 (kJ aW x (EW _))) u hx
 exact this
set_option maxRecDepth 20000 in
theorem YD (hB:B≤14000000) (h:Sat w0 w (aZ p m B::F)) :
  Calls Tryz.prog 46 #[ptr p] w (aI fun v w'=>∃ q,v=ptr q∧Sat w0 w' (aZ q m B::aZ p m B::F)):=by
 obtain ⟨t,sv,⟨ok,is,hb⟩,hR⟩:=aZ.open h
 have hsz:t.slots.length≤56000008:=by have:=ok.size;omega
 have Hlen:=uQ (show ∀ x∈t.slots,(slotL aW x).length=36 from fun x hx=>gB aW x (ok.good.key x hx) 3 (uG _))
 have fZ:=uQ ok.good.gZ
 have MZ:=uQ (show (t.slots.flatMap (slotL aW)).length=t.slots.length * 36 from (jr Hlen.out).trans (Nat.mul_comm _ _))
 obtain ⟨la,lc,rfl⟩:=jm Hlen.out (Sat.rd (hR.pick aP)) aJ
 obtain ⟨bs,rfl⟩:∃ bs,la=some ⟨bs,0,none⟩:=by
  rcases Sat.jR (hR.pick aP) with ⟨_,he,_⟩|⟨b,n,cap,cs,he,_⟩
  ·have:=congrArg List.length he
   have:=MZ.out
   have:=fZ.out
   simp only [List.length_nil]at *;omega
  ·cases he;exact ⟨b,rfl⟩
 have hok:=CJ fZ.out hR
 have bY:=uQ ok;have fF:=uQ is;have Hb:=uQ hb;have dw:=uQ hsz
 clear h ok is hb hsz hB
 go_enter Tryz.func46,Tryz.ntmps46
 go_wp2_with fail
 refine hok.mono ?_
 rintro ee w1 ⟨v,rfl,rfl,rfl⟩
 clear hok
 go_wp2_with fail
 have hR1:=hR.drew
 clear hR
 refine dh [13,14,15] (fun w'=>w'.cell? ⟨p,0,none⟩=some (.slice (some ⟨bs,0,none⟩) t.slots.length lc)∧w'.cell? ⟨p,1,none⟩=some (.int .i64 t.n)∧w'.cell? ⟨p,2,none⟩=some (.int .i64 t.gone)) au ?_
 have hG:World.cell? _ ⟨p,0,none⟩=some (.slice (some ⟨bs,0,none⟩) t.slots.length lc)∧World.cell? _ ⟨p,1,none⟩=some (.int .i64 t.n)∧World.cell? _ ⟨p,2,none⟩=some (.int .i64 t.gone):=⟨hR1.cellAt 0 _ rfl,hR1.cellAt 1 _ rfl,hR1.cellAt 2 _ rfl⟩
 refine rP 0 ?_ (y:=aG)
 refine rP 1 ?_ (y:=dL)
 refine rP 2 ?_ (y:=cO)
 refine rt 3 (h:=?_)
 refine rP 5 ?_ (y:=aG)
 refine rP 6 ?_ (y:=dL)
 refine rP 7 ?_ (y:=cO)
 refine rt 8 (h:=?_)
 refine rP 9 ?_ (y:=aG)
 refine rP 10 ?_ (y:=dL)
 refine rP 11 ?_ (y:=cO)
 refine rt 12 (h:=?_)
 clear hG
 refine bG 4 aj au (fun K hK=>?_)
 (refine vT au aj ?_)
 refine (Yx (afp _) (by rw [MZ.out];have:=dw.out;omega) (hR1.sb:Sat w0 _ (aF 170 36 (.slice (some ⟨bs,0,none⟩) t.slots.length lc) (t.slots.flatMap (slotL aW))::dR p 172 (.slice (some ⟨bs,0,none⟩) t.slots.length lc) t.n t.gone::F))).mono ?_
 rintro ee w2 ⟨v,rfl,h2⟩
 refine hK _ _ (.inr (.inl ⟨h2.cellP dM 0 rfl,h2.cellP dM 1 rfl,h2.cellP dM 2 rfl⟩)) ?_
 clear hK hR1
 obtain ⟨a2,c2,rfl⟩:=jm Hlen.out (Sat.rd h2) aJ
 refine rp 13 (hy:=(by (refine Or.inl ⟨by rfl,?_⟩;((intro wq;go_simp);first|done|exact wQ)))) (h:=?_)
 refine bG 14 aj au (fun K hK=>?_)
 refine OL (cs:=#[.slice a2 t.slots.length c2,.int .i64 t.n,.int .i64 t.gone]) h2 aj aj ?_
 intro q w3 h3
 refine hK _ _ (.inl rfl) ?_
 clear hK h2
 refine rP 15 ?_ (y:=dN)
 refine cu au ?_
 try simp only [jB]
 try go_frame
 go_wp2_with fail
 go_ret
 have h4:=aZ.shut bY.out fF.out Hb.out (h3.sb:Sat w0 w3 (dR p 172 (.slice (some ⟨bs,0,none⟩) t.slots.length lc) t.n t.gone::aF 170 36 (.slice (some ⟨bs,0,none⟩) t.slots.length lc) (t.slots.flatMap (slotL aW))::dR q 172 (.slice a2 t.slots.length c2) t.n t.gone::aF 170 36 (.slice a2 t.slots.length c2) (t.slots.flatMap (slotL aW))::F))
 exact ⟨_,rfl,q,rfl,aZ.shut bY.out fF.out Hb.out (h4.sb)⟩
theorem abq (h:Sat w0 w (aZ p m B::F)) :
  Calls Tryz.prog 69 #[ptr p] w (aI fun v w'=>∃ t:Tab.Tb Seg.bF,(t.Ok∧t.Is m)∧v = .int .i64 t.n∧w=w'):=by
 obtain ⟨t,sv,⟨ok,is,hb⟩,hR⟩:=aZ.open h
 have Hlen:=uQ (show ∀ x∈t.slots,(slotL aW x).length=36 from fun x hx=>gB aW x (ok.good.key x hx) 3 (uG _))
 obtain ⟨la,lc,rfl⟩:=jm Hlen.out (Sat.rd (hR.pick aP)) aJ
 have hok:=CJ ok.good.gZ hR
 have e1:w.cell? ⟨p,1,none⟩=some (.int .i64 t.n):=hR.cellAt 1 _ rfl
 have H:=uQ (And.intro ok is)
 clear h ok is hb hR
 go_enter Tryz.func69,Tryz.ntmps69
 go_wp2_with fail
 refine hok.mono ?_
 rintro ee w1 ⟨v,rfl,rfl,rfl⟩
 clear hok
 go_wp2_with fail
 go_ret
 exact ⟨_,rfl,t,H.out,rfl,rfl⟩
end
section
variable {w0 w:World}{F:List aC}{p q m d K i:Nat}{L:Seg.Log}{M D:aB}{tv:Value}
set_option maxRecDepth 20000 in
theorem YW (t:List Int) (htl:t.length≤1048576) (hL:L.Ok) (hM:M.Ok K) (hK:K≤1048576) (hr:Ro w0 F (bK 1 tv (ints t))) (h:Sat w0 w (aS p m L::aT m M::F)) :
  Calls Tryz.prog 45 #[ptr p,tv] w (aI fun v w'=>v=errno (Seg.Log.drop t t.length L M).2∧Sat w0 w' (aS p m (Seg.Log.drop t t.length L M).1.1::aT m (Seg.Log.drop t t.length L M).1.2::F)):=by
 obtain ⟨ta,tc,rfl⟩:=aaX (hr w h.drop.drop)
 have Hr:=uQ hr;have y5:=uQ htl;have HK:=uQ hK
 have w1:IntKind.i64.wrap ((t.length:Int) - 1)=(t.length:Int) - 1:=IntWalk.i64_in _ oQ
 have H0:=uQ (show L.Ok∧M.Ok K from ⟨hL,hM⟩)
 clear hr htl hK hL hM
 go_enter Tryz.func45,Tryz.ntmps45
 go_wp2_with fail
 go_loopg [5] t.length (fun g iq wr=>∃ (k:Nat) (L':Seg.Log) (M':aB),g=0+k∧k≤t.length∧iq = .int .i64 ((k:Int) - 1)∧Seg.Log.drop t t.length L M=Seg.Log.drop t k L' M'∧L'.Ok∧M'.Ok (K+(t.length - k))∧Sat w0 wr (aS p m L'::aT m M'::F))
 case atStart=>exact ⟨t.length,L,M,(Nat.zero_add _).symm,Nat.le_refl _,rfl,rfl,H0.out.1,H0.out.2.mono (Nat.le_add_right _ _),h⟩
 case round=>
  obtain ⟨k,L',M',rfl,hk,rfl,he,hL,hM,hS⟩:=hrel
  clear h
  cases k with
  |zero=>
   have c1:¬ (((0:Nat):Int) - 1)≥0:=by decide
   have He:=uQ he;have HM:=uQ hM;have HL:=uQ hL
   clear he hL hM hk
   by_cases ht:t=[]
   ·have hb:((t.length:Int)==0)=true:=by rw [ht];rfl
    have Hf:=uQ (Seg.drop_nil (L:=L') (M:=M') ht)
    clear ht
    go_wp2_with fail
    go_ret
    rw [He.out,Hf.out]
    exact ⟨_,rfl,rfl,hS⟩
   ·have hb:((t.length:Int)==0)=false:=by
     rw [beq_eq_false_iff_ne]
     intro e
     exact ht (List.eq_nil_of_length_eq_zero oQ)
    have Hf:=uQ (Seg.drop_end (L:=L') (M:=M') ht)
    clear ht
    go_wp2_with fail
    refine (abH HM.out hS).mono ?_
    rintro ee w2 ⟨v,rfl,rfl,hS2⟩
    clear hS
    go_wp2_with fail
    go_ret
    rw [He.out,Hf.out]
    exact ⟨_,rfl,rfl,hS2⟩
  |succ k=>
   have e1:((k+1:Nat):Int) - 1=(k:Int):=oQ
   rw [e1]
   have c1:(k:Int)≥0:=oQ
   have c2:(k:Int)<(t.length:Int):=oQ
   have w2:IntKind.i64.wrap ((k:Int) - 1)=(k:Int) - 1:=IntWalk.i64_in _ (by have:=y5.out;omega)
   obtain ⟨s,hs⟩:∃ s,t[k]?=some s:=⟨_,List.getElem?_eq_getElem oQ⟩
   have hgd:t.getD k 0=s:=by rw [List.getD,hs];rfl
   obtain ⟨bk,off,cc,e2,c0⟩:=Jt (Hr.out _ hS.drop.drop) hs
   cases e2
   have hrm:=abG hL hM (by have:=HK.out;have:=y5.out;omega) s hS
   have He:=uQ he;have Hk:=uQ hk
   have iZ:=hL.remove M' s
   have Jc:=Seg.TI (L:=L') hM s
   have Gl:=uQ (fun (h0:(L'.remove M' s).2=0)=>Seg.YX (t:=t) (L:=L') (M:=M') (k:=k) (by rw [hgd];exact h0))
   have Hno:=uQ (fun (h0:(L'.remove M' s).2≠0)=>Seg.YZ (t:=t) (L:=L') (M:=M') (k:=k) (by rw [hgd];exact h0))
   rw [hgd]at Gl Hno
   clear he hk hs hgd hL hM hS
   generalize L'.remove M' s=r at *
   obtain ⟨⟨L2,M2⟩,e⟩:=r
   dsimp only at hrm iZ Jc Gl Hno
   have WI:=uQ iZ;have WO:=uQ Jc
   clear iZ Jc
   go_wp2_with fail
   refine hrm.mono ?_
   rintro ee w3 ⟨v,rfl,rfl,hS3⟩
   clear hrm c0
   by_cases h0:e=0
   ·subst h0
    have Hf:=uQ (Gl.out rfl)
    go_wp2_with fail
    go_roundg (0+k)
    case measure=>omega
    case rel=>exact ⟨k,L2,M2,rfl,Nat.le_of_succ_le Hk.out,by first|rfl|go_num,He.out.trans Hf.out,WI.out,WO.out.mono (by have:=Hk.out;omega),hS3⟩
   ·have hb:(e != 0)=true:=by rw [bne_iff_ne];exact h0
    have hb2:(e==0)=false:=by rw [beq_eq_false_iff_ne];exact h0
    have Hf:=uQ (Hno.out h0)
    clear h0
    go_wp2_with fail
    go_ret
    rw [He.out,Hf.out]
    exact ⟨_,rfl,rfl,hS3⟩
end
abbrev dA (r m:Nat) (seg:Int) (p ps pn:Nat) (d:Bool):aC:=pt r (.cells #[ptr m,.int .i64 seg,ptr p,ptr ps,ptr pn,.bool d] 109 (0,0))
section
variable {w0 w:World}{F:List aC}{p m K r ps pn:Nat}{L:Seg.Log}{M:aB}{limit:Int}
theorem ace (hM:M.Ok K) (hl:M.list=[]) (h:Sat w0 w (aT m M::F)):Calls Tryz.prog 76 #[ptr m] w (aI fun v w'=>v = .int .i64 (-1)∧Sat w0 w' (aT m M::F)):=by
 have hls:=Ry hM h
 go_enter Tryz.func76,Tryz.ntmps76
 go_wp2_with fail
 refine hls.mono ?_
 rintro e w1 ⟨v,rfl,hS,a,n,c,rfl⟩
 clear hls
 have hn:n=0:=by
  obtain ⟨_,_,_,he,hl2,_⟩:=Sat.rd hS
  cases he
  rw [hl]at hl2
  simpa [strs] using hl2.symm
 subst hn
 go_wp2_with fail
 go_loopg [3,11] 0 (fun g lv iq wr=>lv = .int .i64 (-1)∧iq = .int .i64 0∧wr=w1)
 case atStart=>exact ⟨rfl,rfl,rfl⟩
 case round=>
  obtain ⟨rfl,rfl,rfl⟩:=hrel
  go_wp2
  go_ret
  exact ⟨_,rfl,rfl,hS.drop⟩
theorem aeb {bt:Rep.Told}{v:Value} (h:xH w0 F bt [] p m L M v w):∃ (ps pi:Nat) (uv tv:Value),v = .tuple #[ptr ps,.agg (fJ Rep.eY.zero),errno 0]∧(∃ a c,tv = .slice a 0 c) ∧
  Sat w0 w (iw ps (-1) pi uv tv::aZ pi (fun _=>none) 0::aF 207 3 uv []::aS p m L::aT m M::F):=by
 have hr:Rep.run bt [] = .inr 0:=rfl
 unfold xH at h
 rw [hr]at h
 obtain ⟨ps,pi,uv,tv,av,kv,rfl,⟨_,_,hk⟩,⟨⟨a',c',rfl⟩,_⟩,hS⟩:=h
 obtain rfl:kv=[]:=List.length_eq_zero_iff.1 (Nat.le_zero.1 hk)
 exact ⟨ps,pi,uv,_,rfl,⟨a',c',rfl⟩,hS.sb⟩
set_option maxRecDepth 20000 in
theorem ZC (hL:L.Ok) (hs:L.aV=[]) (hM:M.Ok K) (hl:M.list=[]) (hH:Ro w0 F Half) (h:Sat w0 w (aS p m L::aT m M::F)) :
  Calls Tryz.prog 44 #[ptr p,ptr m] w (aI fun v w'=>∃ (ps pi:Nat) (uv tv:Value),v = .tuple #[ptr ps,.agg (fJ Rep.eY.zero),errno 0]∧(∃ a c,tv = .slice a 0 c) ∧
   Sat w0 w' (iw ps (-1) pi uv tv::aZ pi (fun _=>none) 0::aF 207 3 uv []::aS p m L::aT m M::F)):=by
 have HL:=uQ hL;have Hs:=uQ hs;have HM:=uQ hM;have Hl:=uQ hl;have HH:=uQ hH
 clear hL hs hM hl hH
 go_enter Tryz.func44,Tryz.ntmps44
 go_wp2_with (with_reducible apply dY)
 refine ⟨dS tH h rfl ?_⟩
 intro b5 w5 h5
 have hla:=abj (F:=pt b5 (.cells (fJ Rep.eY.zero) 53 (0,0))::F) HL.out HM.out (Ro.os HH.out) (h5.sb:Sat w0 w5 (aS p m L::aT m M::pt b5 (.cells (fJ Rep.eY.zero) 53 (0,0))::F))
 rw [Hs.out,show Rep.lastOf (dJ L M) []=(-1,0) from rfl]at hla
 clear h h5
 go_wp2_with fail
 refine hla.mono ?_
 rintro ee w6 ⟨v,rfl,rfl,h6⟩
 clear hla
 go_wp2_with fail
 refine (ace HM.out Hl.out (h6.sb:Sat w0 w6 (aT m M::aS p m L::pt b5 (.cells (fJ Rep.eY.zero) 53 (0,0))::F))).mono ?_
 rintro ee w7 ⟨v,rfl,rfl,h7⟩
 clear h6
 have QK:=aem (F:=pt b5 (.cells (fJ Rep.eY.zero) 53 (0,0))::F) HL.out HM.out (Ro.os HH.out) (by rw [Hs.out];exact Nat.zero_le _) (by rw [Hs.out];intro r hr;cases hr) (h7.sb:Sat w0 w7 (aS p m L::aT m M::pt b5 (.cells (fJ Rep.eY.zero) 53 (0,0))::F))
 clear h7
 go_wp2_with fail
 refine QK.mono ?_
 rintro ee w8 ⟨v,rfl,h8⟩
 clear QK
 rw [Hs.out]at h8
 obtain ⟨ps,pi,uv,tv,rfl,Jk,h9⟩:=aeb h8
 clear h8
 have h10:Sat w0 w8 (pt b5 (.cells (fJ Rep.eY.zero) 53 (0,0))::iw ps (-1) pi uv tv::aZ pi (fun _=>none) 0::aF 207 3 uv []::aS p m L::aT m M::F):=h9.sb
 clear h9
 go_wp2_with ((with_reducible refine bU ⟨?_⟩);refine eH (fJ Rep.eY.zero) h10 ah ah ah bJ au ah ?_;intro fU h11)
 refine ⟨rfl,_,zU rfl h11 ah aH Tryz.underlying53 rfl au,_,rfl,ps,pi,uv,tv,rfl,Jk,h11.drop⟩
theorem acW:qJ Tryz.prog 109=some [(0,1),(1,1),(2,1),(3,1),(4,1),(5,1)]:=by kernel_rfl
theorem ahj:iH Tryz.prog 109=some (.agg #[.pointer none,.int .i64 0,.pointer none,.pointer none,.pointer none,.bool false]):=by kernel_rfl
theorem aeH (seg:Int) (w:World):(Instr.build 109 #[(0,ptr m),(1,.int .i64 seg),(2,ptr p),(3,ptr ps),(4,ptr pn)]).run Tryz.prog w = .ok (.agg #[ptr m,.int .i64 seg,ptr p,ptr ps,ptr pn,.bool false]) w:=
 run_build (P:=Tryz.prog) [(0,ptr m),(1,.int .i64 seg),(2,ptr p),(3,ptr ps),(4,ptr pn)] acW ahj (by
  intro q hq
  simp only [List.mem_cons,List.not_mem_nil,or_false]at hq
  rcases hq with rfl|rfl|rfl|rfl|rfl
  ·exact ⟨0,rfl,by show 0+1≤6;decide⟩
  ·exact ⟨1,rfl,by show 1+1≤6;decide⟩
  ·exact ⟨2,rfl,by show 2+1≤6;decide⟩
  ·exact ⟨3,rfl,by show 3+1≤6;decide⟩
  ·exact ⟨4,rfl,by show 4+1≤6;decide⟩) w
set_option maxRecDepth 20000 in
theorem adT {ι:Type}{N:Int} (mi:ι→ak.Bs→Option Seg.bF) (Bf:ι→Nat) (uf:ι→List Rep.Use) (Q:ι→Prop) (h1:128≤limit) (h2:limit≤1048576) (hM:M.Ok K) (hK:K≤1048576) (ha:Seg.alive M=0) (hB:∀ x,Q x→Bf x≤14000000)
  (hfd:∀ (p b5:Nat) (w':World),Sat w0 w' (aS p m (Seg.fresh M limit)::aT m M::pt b5 (.cells (fJ Rep.eY.zero) 53 (0,0))::F)→Calls Tryz.prog 44 #[ptr p,ptr m] w' (aI fun v w''=>∃ (ps pi:Nat) (uv tv:Value) (x:ι),v = .tuple #[ptr ps,.agg (fJ Rep.eY.zero),errno 0]∧(∃ a c,tv = .slice a 0 c)∧Q x ∧
   Sat w0 w'' (iw ps N pi uv tv::aZ pi (mi x) (Bf x)::aF 207 3 uv ((uf x).flatMap gU)::aS p m (Seg.fresh M limit)::aT m M::pt b5 (.cells (fJ Rep.eY.zero) 53 (0,0))::F)))
  (h:Sat w0 w (aT m M::F)) :
  Calls Tryz.prog 18 #[ptr m,.int .i64 limit] w (aI fun v w'=>∃ (r p ps pi pn:Nat) (uv:Value) (x:ι),v = .tuple #[ptr r,.agg (fJ Rep.eY.zero),errno 0]∧Q x ∧
   Sat w0 w' (dA r m limit p ps pn false::iw ps N pi uv (.slice none 0 0)::aZ pn (mi x) (Bf x)::aZ pi (mi x) (Bf x)::aF 207 3 uv ((uf x).flatMap gU)::aS p m (Seg.fresh M limit)::aT m M::F)):=by
 have HL:=uQ (Seg.IB hM limit h1 h2)
 have Hop:=uQ (fun (w':World) (R:List aC) (hw:Sat w0 w' (aT m M::R))=>acF hM limit hw ha h1 h2)
 generalize Seg.fresh M limit=L at *
 have HM:=uQ hM;have HK:=uQ hK;have HB:=uQ hB;have Wy:=uQ hfd
 clear h1 h2 hM hK ha hB hfd
 go_enter Tryz.func18,Tryz.ntmps18
 go_wp2_with (with_reducible apply dY)
 refine ⟨dS tH h rfl ?_⟩
 intro b5 w5 h5
 go_wp2_with fail
 refine (Hop.out _ _ (h5.sb:Sat w0 w5 (aT m M::pt b5 (.cells (fJ Rep.eY.zero) 53 (0,0))::F))).mono ?_
 rintro ee w6 ⟨v,rfl,p,rfl,h6⟩
 clear h h5
 go_wp2_with fail
 refine (Wy.out p b5 _ h6).mono ?_
 rintro ee w7 ⟨v,rfl,ps,pi,uv,tv,x,rfl,⟨ta,tc,rfl⟩,hq,h7⟩
 have Hq:=uQ hq
 have VU:=uQ (HB.out x hq)
 clear h6 hq
 go_wp2_with (with_reducible apply dY)
 refine ⟨dS tH h7 rfl ?_⟩
 intro b10 w8 h8
 clear h7
 go_wp2_with (with_reducible apply bU)
 refine ⟨eH (fJ Rep.eY.zero) h8 ah ah ah bJ au ah ?_⟩
 intro w9 h9
 clear h8
 replace h9:Sat w0 w9 (aS p m L::aT m M::iw ps N pi uv (.slice ta 0 tc)::aZ pi (mi x) (Bf x)::aF 207 3 uv ((uf x).flatMap gU)::pt b5 (.cells (fJ Rep.eY.zero) 53 (0,0))::F):=h9.sb
 go_wp2_with ((with_reducible refine bI ⟨?_⟩);refine gK aQ ah aY bH aj au ?_)
 have hdr:=YW (tv:= .slice ta 0 tc) [] (Nat.zero_le _) HL.out HM.out HK.out (fun w _=>Ky 1 0 w |> fun _=>⟨ta,0,tc,rfl,rfl,fun j x hj=>by cases hj⟩) h9
 rw [show ([]:List Int).length=0 from rfl,Seg.drop_nil rfl]at hdr
 refine hdr.mono ?_
 rintro ee w10 ⟨v,rfl,rfl,h10⟩
 clear hdr h9
 go_wp2_with (with_reducible apply bU)
 refine ⟨eX (cs':=#[.int .i64 N,ptr pi,uv,.slice none 0 0]) h10 ah ah ah agD bH au ah ?_⟩
 intro fU h11
 replace h11:Sat w0 fU (aZ pi (mi x) (Bf x)::iw ps N pi uv (.slice none 0 0)::aS p m L::aT m M::aF 207 3 uv ((uf x).flatMap gU)::pt b5 (.cells (fJ Rep.eY.zero) 53 (0,0))::F):=h11.sb
 clear h10
 go_wp2_with ((with_reducible refine bI ⟨?_⟩);refine gK h11 ah aP bH aj au ?_)
 refine (YD VU.out h11).mono ?_
 rintro ee w12 ⟨v,rfl,pn,rfl,h12⟩
 clear h11
 go_wp2_with (first
  |((with_reducible apply wW);refine ⟨?_⟩;first|refine uM ah (aeH limit) ?_|refine uM ah Fp ?_)
  |((with_reducible refine fH ⟨?_⟩);refine fO h12 ah ah ?_;intro r jH h13)
  |(with_reducible apply bU))
 refine ⟨eH (fJ Rep.eY.zero) (h13.sb:Sat w0 jH (pt b5 (.cells (fJ Rep.eY.zero) 53 (0,0))::dA r m limit p ps pn false::iw ps N pi uv (.slice none 0 0)::aZ pn (mi x) (Bf x)::aZ pi (mi x) (Bf x)::aF 207 3 uv ((uf x).flatMap gU)::aS p m L::aT m M::F)) ah ah ah bJ au ah ?_⟩
 intro pq jE
 go_wp2_with fail
 refine ⟨rfl,_,zU rfl jE ah aH Tryz.underlying53 rfl au,_,rfl,r,p,ps,pi,pn,uv,x,rfl,Hq.out,jE.drop⟩
theorem adR (h1:128≤limit) (h2:limit≤1048576) (hM:M.Ok K) (hK:K≤1048576) (ha:Seg.alive M=0) (hf:(Seg.fresh M limit).aV=[]) (hl:M.list=[]) (hH:Ro w0 F Half) (h:Sat w0 w (aT m M::F)) :
  Calls Tryz.prog 18 #[ptr m,.int .i64 limit] w (aI fun v w'=>∃ (r p ps pi pn:Nat) (uv:Value),v = .tuple #[ptr r,.agg (fJ Rep.eY.zero),errno 0] ∧
   Sat w0 w' (dA r m limit p ps pn false::iw ps (-1) pi uv (.slice none 0 0)::aZ pn (fun _=>none) 0::aZ pi (fun _=>none) 0::aF 207 3 uv []::aS p m (Seg.fresh M limit)::aT m M::F)):=by
 refine (adT (ι:=Unit) (N:= -1) (fun _ _=>none) (fun _=>0) (fun _=>[]) (fun _=>True) h1 h2 hM hK ha (fun _ _=>by decide) (fun p b5 w' hw=>?_) h).mono ?_
 ·refine (ZC (Seg.IB hM limit h1 h2) hf hM hl (Ro.os hH) hw).mono ?_
  rintro e w' ⟨v,rfl,ps,pi,uv,tv,rfl,Jk,hS⟩
  exact ⟨_,rfl,ps,pi,uv,tv,(),rfl,Jk,trivial,hS⟩
 ·rintro e w' ⟨v,rfl,r,p,ps,pi,pn,uv,_,rfl,_,hS⟩
  exact ⟨_,rfl,r,p,ps,pi,pn,uv,rfl,hS⟩
theorem yH {seg:Int}{d:Bool} (h:Sat w0 w (dA r m seg p ps pn d::F)):Calls Tryz.prog 62 #[ptr r] w (aI fun v w'=>v = .bool true∧w=w'):=by
 have e2:w.cell? ⟨r,2,none⟩=some (.pointer (some ⟨p,0,none⟩)):=h.cellAt 2 _ rfl
 go_enter Tryz.func62,Tryz.ntmps62
 go_wp2
 go_ret
 exact ⟨_,rfl,rfl,rfl⟩
end
theorem afl {K:Nat}{M:aB} (h:M.Ok K) (ho:M.off=false):M.size ByteArray.empty=(0,9):=by
 have hn:dD M.now ByteArray.empty=none:=by
  cases hi:dD M.now ByteArray.empty with
  |none=>rfl
  |some i=>exact absurd rfl (h.iO.ne _ (kX hi))
 unfold aB.size
 rw [ho,hn];rfl
section
variable {w0 w:World}{F:List aC}
abbrev RX (r m p ps pi pn:Nat) (uv:Value) (limit:Int) (M:aB) (F:List aC):List aC:=
 dA r m limit p ps pn false::iw ps (-1) pi uv (.slice none 0 0)::aZ pn (fun _=>none) 0::aZ pi (fun _=>none) 0::aF 207 3 uv []::aS p m ⟨limit,[],false,0⟩::aT m M::F
theorem adU {m K r0:Nat}{M:aB}{limit:Int} (h1:128≤limit) (h2:limit≤1048576) (hM:Seg.Calm K r0 M) (hK:K≤1048576) (qB:M.now=[]) (hH:Ro w0 F Half) (h:Sat w0 w (aT m M::F)) :
  Calls Tryz.prog 18 #[ptr m,.int .i64 limit] w (aI fun v w'=>∃ (r p ps pi pn:Nat) (uv:Value),v = .tuple #[ptr r,.agg (fJ Rep.eY.zero),errno 0]∧Seg.Rp K r0 0 0 0 ⟨limit,[],false,0⟩ M []∧Sat w0 w' (RX r m p ps pi pn uv limit M F)):=by
 have hl:M.list=[]:=by rw [hM.quiet.list,qB];rfl
 have hfr:Seg.fresh M limit=⟨limit,[],false,0⟩:=by
  unfold Seg.fresh Seg.found
  rw [hl]
  rfl
 have ha:Seg.alive M=0:=by unfold Seg.alive;rw [afl hM.ok hM.quiet.off];rfl
 have hu:M.used=0:=by unfold aB.used;rw [qB];rfl
 refine (adR h1 h2 hM.ok hK ha (by rw [hfr];rfl) hl hH h).mono ?_
 rintro e w' ⟨v,rfl,r,p,ps,pi,pn,uv,rfl,hS⟩
 have hok:=Seg.IB hM.ok limit h1 h2
 rw [hfr]at hS hok
 refine ⟨_,rfl,r,p,ps,pi,pn,uv,rfl,⟨⟨⟨hok,hM,fun s hs=>by cases hs⟩,rfl,fun k es hk=>(by simp at hk),fun k es hk=>(by simp at hk),fun es he=>(by cases he),Nat.le_refl _,by rw [hu];omega,by rw [qB];exact Nat.le_refl _,fun k i hk hi=>by rw [qB]at hi;cases hi⟩,by rw [qB];rfl,Nat.le_refl _,fun p hp=>by rw [qB]at hp;cases hp⟩,hS.sb⟩
end
end Go.Proofs.YtlimfgdbfadohaaGreatDoor
namespace Go.Rep
structure dU where
 refs:Int
 size:Int
end Go.Rep
namespace Go.Proofs.YtlimfgdbfadohaaGreatDoor
open Go Go.Sl Go.aB Go.MapKept Go.RowKit
def aN (a:Rep.dU):List Value:=[.int .i64 a.refs,.int .i64 a.size]
abbrev gJ:Rep.dU:=⟨0,0⟩
theorem rJ (a:Rep.dU):(aN a).length=2:=rfl
theorem yF (a:Rep.dU):(aN a).all (·.oneCell')=true:=rfl
theorem xk:iH Tryz.prog 120=some (.agg (slotL aN ⟨0,ak.zero32,gJ⟩).toArray):=by kernel_rfl
theorem S9:qJ Tryz.prog 120=some [(0,1),(1,32),(33,2)]:=by kernel_rfl
section
variable {w0 w:World}{F R:List aC}{p n gn d c:Nat}{sv v:Value}{k:ak.Bs}{s:List (Tab.Slot (Rep.dU))}{a:Option Addr}
theorem EP (hl:0<s.length) (h:Sat w0 w (dR p 123 (.slice a s.length c) n gn::F)) :
  Calls Tryz.prog 52 #[ptr p] w (aI fun v w'=>v = .bool true∧w=w'):=by
 have e0:w.cell? ⟨p,0,none⟩=some (.slice a s.length c):=h.cellAt 0 _ rfl
 have c1:(0:Int)<(s.length:Int):=oQ
 go_enter Tryz.func52,Tryz.ntmps52
 go_wp2
 go_ret
 exact ⟨_,rfl,rfl,rfl⟩
set_option maxRecDepth 20000 in
theorem Bo (g:Tab.Good s) (hc:s.length≤1073741824) (hk:k.length=32) (he:Tab.Ends s k d) (h:Sat w0 w (dR p 123 sv n gn::aF 120 35 sv (s.flatMap (slotL aN))::F)) :
  Calls Tryz.prog 53 #[ptr p,.agg (ay k).toArray] w (aI fun v w'=>∃ x,s[Tab.pos k s.length d]?=some x∧v = .tuple #[.int .i64 (Tab.pos k s.length d:Nat),.int .i64 ((d:Int)+1),.bool (decide (x.st=1))] ∧
   Sat w0 w' (dR p 123 sv n gn::aF 120 35 sv (s.flatMap (slotL aN))::F)):=by
 have Hk:=uQ hk;have HG:=uQ g;have HE:=uQ he;have Hc:=uQ hc
 have Hlen:=uQ (show ∀ x∈s,(slotL aN x).length=35 from fun x hx=>gB aN x (g.key x hx) 2 (rJ _))
 obtain ⟨la,lc,rfl⟩:=jm Hlen.out (Sat.rd (h.pick aP)) aJ
 obtain ⟨j,hj,_⟩:=g.pow
 have wH:j<40:=by
  rcases Nat.lt_or_ge j 40 with q|q
  ·exact q
  ·have:2^40≤2^j:=Nat.pow_le_pow_right aJ q
   have zI:(2:Nat)^40=1099511627776:=by decide
   omega
 have Hj:=uQ hj;have vg:=uQ wH
 have Hd:=uQ (show d<s.length from he.lt)
 have hp0:0<s.length:=g.gZ
 have fZ:=uQ hp0
 have AA:=uQ (Tab.Kq (k:=k) hp0)
 clear hj wH hk g he hc hp0
 go_enter Tryz.func53,Tryz.ntmps53
 go_wp2_with ((with_reducible refine fH ⟨?_⟩);refine fO aQ aj aj ?_;intro bB wB hB)
 have hB1:=hB.drew
 clear hB
 refine dh [6,7] (fun w'=>w'.rangeAt bB 0 (ay k)∧w'.cell? ⟨p,0,none⟩=some (.slice la s.length lc)) au ?_
 have hG:World.rangeAt _ bB 0 (ay k)∧World.cell? _ ⟨p,0,none⟩=some (.slice la s.length lc):=⟨lV (hB1.pk (A:=pt bB (.cells (ay k).toArray 30 (0,0)))),hB1.cellP aY 0 rfl⟩
 refine dK 0 aj au bC (gu (b:=bB) (o:=0) (ay k) ah Tryz.underlying30 rfl (by rw [aU,Hk.out];kernel_rfl) (fun w hw=>hw.1)) aQ gQ ?_
 refine rP 1 ?_ (y:=aG)
 refine rP 2 ?_ (y:=dL)
 refine rP 3 ?_ (y:=cO)
 refine rt 4 (h:=?_)
 refine rP 5 ?_ (y:=(nG aj bT))
 clear hG
 have hh:=Je k Hk.out j vg.out hB1
 rw [← Hj.out]at hh
 refine bG 6 aj au (fun K hK=>?_)
 (refine eU au aj aj ?_)
 refine hh.mono ?_
 rintro ee w2 ⟨v,rfl,rfl,hS2⟩
 refine hK _ _ (.inl rfl) ?_
 clear hK hh hB1
 refine rP 7 ?_ (y:=dN)
 refine cu au ?_
 try simp only [jB]
 try go_frame
 rw [← AA.out]
 go_wp2_with fail
 go_loopg [7,8] d (fun g aq sq wr=>∃ e:Nat,g=d - e∧e≤d∧aq = .int .i64 (Tab.pos k s.length e:Nat)∧sq = .int .i64 ((e:Int)+1) ∧
  Sat w0 wr (pt bB (.cells (ay k).toArray 30 (0,0))::dR p 123 (.slice la s.length lc) n gn::aF 120 35 (.slice la s.length lc) (s.flatMap (slotL aN))::F))
 case atStart=>exact ⟨0,rfl,Nat.zero_le _,rfl,rfl,hS2.sb⟩
 case round=>
  obtain ⟨e,rfl,hed,rfl,rfl,hS⟩:=hrel
  clear hS2
  have hlt:=Tab.jS (k:=k) (d:=e) fZ.out
  have hdl:=Hd.out
  have hcl:=Hc.out
  obtain ⟨x,hx⟩:∃ x,s[Tab.pos k s.length e]?=some x:=⟨_,List.getElem?_eq_getElem hlt⟩
  have hxm:=List.mem_of_getElem? hx
  have hst:=HG.out.st x hxm
  have Hxk:=uQ (HG.out.key x hxm)
  obtain ⟨bk,off,c',hsv,hcell⟩:=mJ Hlen.out (Sat.rd (hS.pick dM)) hx aJ
  have nS:=uQ (Tab.Ko (k:=k) (d:=e) fZ.out)
  have vw:=uQ (DN (Tab.pos k s.length e+1) j oQ (by have:=vg.out;omega))
  have jM:=uQ (show e=d↔x.stop k from ⟨fun h=>by
    subst h
    obtain ⟨y,hy,hs⟩:=HE.out.here
    rw [hx]at hy;cases hy;exact hs,fun h=>by
    rcases Nat.lt_or_ge e d with q|q
    ·exact absurd ⟨x,hx,h⟩ (HE.out.no e q)
    ·omega⟩)
  have Hx:=uQ hx
  cases hsv
  have c0:(0:Int)≤((Tab.pos k s.length e:Nat):Int):=oQ
  have c1:((Tab.pos k s.length e:Nat):Int)<(s.length:Int):=oQ
  have c2:Tab.pos k s.length e<s.length:=hlt
  have e0:wr.cell? ⟨p,0,none⟩=some (.slice (some ⟨bk,off,none⟩) s.length lc):=hS.cellP aY 0 rfl
  have fA:=Hlen.out x hxm
  clear hx hxm
  have hq:bits .and .i64 (((Tab.pos k s.length e:Nat):Int)+1) ((s.length:Int) - 1)=((Tab.pos k s.length (e+1):Nat):Int):=by
   have h1:=vw.out
   rw [← Hj.out,nS.out]at h1
   rw [← h1]
   congr 1
   have:=fZ.out
   omega
  have hw1:IntKind.i64.wrap (((Tab.pos k s.length e:Nat):Int)+1)=((Tab.pos k s.length e:Nat):Int)+1:=IntWalk.i64_in _ oQ
  have hw2:IntKind.i64.wrap ((s.length:Int) - 1)=(s.length:Int) - 1:=IntWalk.i64_in _ oQ
  have hw3:IntKind.i64.wrap ((e:Int)+1+1)=(e:Int)+1+1:=IntWalk.i64_in _ oQ
  clear hdl hcl
  generalize hP1:Tab.pos k s.length (e+1)=P1 at hq
  have uT:=uQ hP1
  generalize hP:Tab.pos k s.length e=P0 at *
  have HP:=uQ hP
  clear hP1 hP hlt vw nS
  have uZ:=uQ hed
  clear hed
  go_wp2_with (with_reducible apply bI)
  refine ⟨gK hS ah aY bH aj au ?_⟩
  go_wp2_with (with_reducible apply bI)
  refine ⟨jw (b:=bk) (o:=off+P0 * 35) (slotL aN x) ah hcell Tryz.underlying120 rfl (by rw [fA];kernel_rfl) ?_⟩
  go_wp2_with (with_reducible apply dY)
  refine ⟨dS xk hS rfl ?_⟩
  intro b9 w9 iT
  go_wp2_with (first|((with_reducible refine bU ⟨?_⟩);refine eH (slotL aN x).toArray iT ah ah (by rw [List.size_toArray,fA];rfl) bJ (by rw [List.size_toArray,fA];kernel_rfl) (by rw [List.toList_toArray];exact kJ aN x (yF _)) ?_;intro w10 bP)|(with_reducible apply bI))
  refine ⟨?_⟩
  clear hS iT hcell e0
  have f0:w10.cell? ⟨b9,0,none⟩=some (.int .i64 x.st):=bP.cellP aH 0 (by rw [List.getElem?_toArray];rfl)
  have f1:w10.rangeAt b9 1 (ay x.key):=qL (bP.pick aH)
  have f2:w10.cell? ⟨p,0,none⟩=some (.slice (some ⟨bk,off,none⟩) s.length lc):=bP.cellP aY 0 rfl
  have hend:Sat w0 w10 (pt bB (.cells (ay k).toArray 30 (0,0))::dR p 123 (.slice (some ⟨bk,off,none⟩) s.length lc) n gn::aF 120 35 (.slice (some ⟨bk,off,none⟩) s.length lc) (s.flatMap (slotL aN))::F):=bP.sb
  have h3:x.st=0∨x.st=1∨x.st=2:=oQ
  rcases h3 with h3|h3|h3
  ·have h4:e=d:=jM.out.2 (.inl h3)
   rw [h3]at f0
   have Hdx:=uQ (show decide (x.st=1)=false by rw [h3];rfl)
   have kT:=uQ (show (x.st:Int)=0 by rw [h3];rfl)
   clear jM hst h3 f1 f2 hq hw1 hw2 hw3 c0 c1 c2
   subst h4
   go_wp2_with fail
   have iR:=bP.drew
   clear bP
   refine dh [4,7] (fun w'=>w'.cell? ⟨b9,0,none⟩=some (.int .i64 0)) au ?_
   have hG:World.cell? _ ⟨b9,0,none⟩=some (.int .i64 0):=iR.cellP aH 0 (by rw [List.getElem?_toArray,← kT.out];rfl)
   clear f0
   refine rP 0 ?_ (y:=aG)
   refine rP 1 ?_ (y:=aG)
   refine rP 2 ?_ (y:=cO)
   refine rt 3 (h:=?_)
   refine rP 4 ?_ (y:=dB)
   refine rP 5 ?_ (y:=dN)
   refine rP 6 ?_ (y:=dN)
   refine rP 7 ?_ (y:=dN)
   refine cu au ?_
   clear hG
   try simp only [jB]
   try go_frame
   go_wp2_with fail
   go_ret3
   exact ⟨_,rfl,x,by rw [HP.out];exact Hx.out,by rw [HP.out,Hdx.out];rfl,iR.sb⟩
  ·have f3:w10.rangeAt bB 0 (ay k):=lV (bP.pk (A:=pt bB (.cells (ay k).toArray 30 (0,0))))
   have hkk:=pJ x.key k Hxk.out Hk.out
   rw [h3]at f0
   by_cases hxk:x.key=k
   ·have h4:e=d:=jM.out.2 (.inr ⟨h3,hxk⟩)
    have Hdx:=uQ (show decide (x.st=1)=true by rw [h3];rfl)
    have kT:=uQ (show (x.st:Int)=1 by rw [h3];rfl)
    rw [decide_eq_true hxk]at hkk
    clear jM hst h3 hxk hq hw1 hw2 hw3 c0 c1 c2 f2
    subst h4
    go_wp2_with (first
     |((with_reducible refine qw ⟨?_⟩);refine qO (o:=1) ah ah (ay x.key) _ f1 Tryz.underlying30 rfl (by rw [aU,Hxk.out];kernel_rfl) ?_)
     |((with_reducible refine qw ⟨?_⟩);refine qO (o:=0) ah ah (ay k) _ f3 Tryz.underlying30 rfl (by rw [aU,Hk.out];kernel_rfl) ?_))
    clear hkk f1 f3
    have iR:=bP.drew
    clear bP
    refine dh [4,7] (fun w'=>w'.cell? ⟨b9,0,none⟩=some (.int .i64 1)) au ?_
    have hG:World.cell? _ ⟨b9,0,none⟩=some (.int .i64 1):=iR.cellP aH 0 (by rw [List.getElem?_toArray,← kT.out];rfl)
    clear f0
    refine rP 0 ?_ (y:=aG)
    refine rP 1 ?_ (y:=aG)
    refine rP 2 ?_ (y:=cO)
    refine rt 3 (h:=?_)
    refine rP 4 ?_ (y:=dB)
    refine rP 5 ?_ (y:=dN)
    refine rP 6 ?_ (y:=dN)
    refine rP 7 ?_ (y:=dN)
    refine cu au ?_
    clear hG
    try simp only [jB]
    try go_frame
    go_wp2_with fail
    go_ret3
    exact ⟨_,rfl,x,by rw [HP.out];exact Hx.out,by rw [HP.out,Hdx.out];rfl,iR.sb⟩
   ·have h4:e<d:=by
     have:=uZ.out
     rcases Nat.lt_or_ge e d with q|q
     ·exact q
     ·exact absurd (jM.out.1 oQ) (fun h=>h.elim (fun h=>by omega) fun h=>hxk h.2)
    rw [decide_eq_false hxk]at hkk
    have H4:=uQ h4
    clear jM hst h3 hxk h4
    go_wp2_with (first
     |((with_reducible refine qw ⟨?_⟩);refine qO (o:=1) ah ah (ay x.key) _ f1 Tryz.underlying30 rfl (by rw [aU,Hxk.out];kernel_rfl) ?_)
     |((with_reducible refine qw ⟨?_⟩);refine qO (o:=0) ah ah (ay k) _ f3 Tryz.underlying30 rfl (by rw [aU,Hk.out];kernel_rfl) ?_))
    go_roundg (d - (e+1))
    case measure=>have:=H4.out;omega
    case rel=>exact ⟨e+1,rfl,H4.out,by rw [uT.out],by first|rfl|go_num,bP.sb⟩
  ·have h4:e<d:=by
    have:=uZ.out
    rcases Nat.lt_or_ge e d with q|q
    ·exact q
    ·exact absurd (jM.out.1 oQ) (fun h=>h.elim (fun h=>by omega) fun h=>by omega)
   rw [h3]at f0
   have H4:=uQ h4
   clear jM hst h3 f1 h4
   go_wp2_with fail
   go_roundg (d - (e+1))
   case measure=>have:=H4.out;omega
   case rel=>exact ⟨e+1,rfl,H4.out,by rw [uT.out],by first|rfl|go_num,bP.sb⟩
end
def bW (p:Nat) (m:ak.Bs→Option (Rep.dU)) (B:Nat):aC:=fun h=>∃ (t:Tab.Tb (Rep.dU)) (sv:Value),(t.Ok∧t.Is m∧t.n+t.gone≤B)∧stars [dR p 123 sv t.n t.gone,aF 120 35 sv (t.slots.flatMap (slotL aN))] h
theorem nH:iH Tryz.prog 60=some (.agg (aN ⟨0,0⟩).toArray):=by kernel_rfl
section
variable {w0 w:World}{F R:List aC}{p B:Nat}{sv v:Value}{k:ak.Bs}{m:ak.Bs→Option (Rep.dU)}{t:Tab.Tb (Rep.dU)}
theorem bW.open (h:Sat w0 w (bW p m B::F)):∃ (t:Tab.Tb (Rep.dU)) (sv:Value),(t.Ok∧t.Is m∧t.n+t.gone≤B)∧Sat w0 w (dR p 123 sv t.n t.gone::aF 120 35 sv (t.slots.flatMap (slotL aN))::F):=by
 obtain ⟨ha,x,hx,q,r,dd,rfl,⟨t,sv,hin,hp⟩,hq⟩:=h
 refine ⟨t,sv,hin,ha,_,hx,?_⟩
 show stars ([dR p 123 sv t.n t.gone,aF 120 35 sv (t.slots.flatMap (slotL aN))]++F) _
 rw [pX]
 exact ⟨q,r,dd,rfl,hp,hq⟩
theorem bW.shut (h1:t.Ok) (h2:t.Is m) (h3:t.n+t.gone≤B) (h:Sat w0 w (dR p 123 sv t.n t.gone::aF 120 35 sv (t.slots.flatMap (slotL aN))::F)):Sat w0 w (bW p m B::F):=
 Sat.join (M:=[dR p 123 sv t.n t.gone,aF 120 35 sv (t.slots.flatMap (slotL aN))]) h fun _ hx=>⟨t,sv,⟨h1,h2,h3⟩,hx⟩
theorem ab9 (h:Sat w0 w F):Calls Tryz.prog 83 #[] w (aI fun v w'=>∃ p,v=ptr p∧Sat w0 w' (bW p (fun _=>none) 0::F)):=by
 go_enter Tryz.func83,Tryz.ntmps83
 go_wp2_with (first
  |((with_reducible refine at_make ⟨?_⟩);refine Ae (e:=120) (sz:=35) (dX:=56) (n:=8) au xk h ah ah aJ aJ ?_;intro bM wM hM)
  |((with_reducible refine fH ⟨?_⟩);refine fO hM aj aj ?_;intro bB wB hB))
 go_ret
 refine ⟨_,rfl,bB,rfl,?_⟩
 have e:(List.replicate 8 (slotL aN ⟨0,ak.zero32,gJ⟩)).flatten=(List.replicate 8 (⟨0,ak.zero32,gJ⟩:Tab.Slot (Rep.dU))).flatMap (slotL aN):=(zV 8 _).symm
 rw [e]at hB
 exact bW.shut (t:=⟨List.replicate 8 ⟨0,ak.zero32,gJ⟩,0,0⟩) (Tab.JM aJ rfl) (Tab.JL rfl 0 0) (Nat.le_refl 0) hB
set_option maxRecDepth 20000 in
theorem zH (hB:B≤268435000) (hk:k.length=32) (h:Sat w0 w (bW p m B::F)) :
  Calls Tryz.prog 23 #[ptr p,.agg (ay k).toArray] w (aI fun v w'=>v = .tuple #[.agg (aN ((m k).getD ⟨0,0⟩)).toArray,.bool (m k).isSome]∧Sat w0 w' (bW p m B::F)):=by
 obtain ⟨t,sv,⟨ok,is,hb⟩,hR⟩:=bW.open h
 obtain ⟨d,he⟩:=ok.ends k
 have hsz:t.slots.length≤1073741824:=by have:=ok.size;omega
 have Hlen:=uQ (show ∀ x∈t.slots,(slotL aN x).length=35 from fun x hx=>gB aN x (ok.good.key x hx) 2 (rJ _))
 obtain ⟨la,lc,rfl⟩:=jm Hlen.out (Sat.rd (hR.pick aP)) aJ
 have Hk:=uQ hk;have bY:=uQ ok;have fF:=uQ is;have Hb:=uQ hb;have He:=uQ he;have dw:=uQ hsz
 have fZ:=uQ ok.good.gZ
 clear h hk ok is hb he hsz hB
 go_enter Tryz.func23,Tryz.ntmps23
 go_wp2_with (first|((with_reducible refine fH ⟨?_⟩);refine fO aQ aj aj ?_;intro bB wB hB)|(with_reducible apply dY))
 refine ⟨dS nH hB rfl ?_⟩
 intro b4 w4 hS4
 go_wp2_with (with_reducible apply dY)
 refine ⟨dS nH hS4 rfl ?_⟩
 intro b6 w6 hS6
 have jZ:Sat w0 w6 (dR p 123 (.slice la t.slots.length lc) t.n t.gone::pt b6 (.cells (aN gJ).toArray 60 (0,0))::pt b4 (.cells (aN gJ).toArray 60 (0,0))::pt bB (.cells (ay k).toArray 30 (0,0))::aF 120 35 (.slice la t.slots.length lc) (t.slots.flatMap (slotL aN))::F):=hS6.sb
 clear hB hS4 hS6 hR
 go_wp2_with fail
 refine (EP fZ.out jZ).mono ?_
 rintro ee w7 ⟨v,rfl,rfl,rfl⟩
 go_wp2_with ((with_reducible refine bI ⟨?_⟩);refine fB jZ ah (aO (aO (aO aH))) Tryz.underlying30 rfl (by rw [List.size_toArray,aU,Hk.out];kernel_rfl) ?_)
 have hf:=Bo bY.out.good dw.out Hk.out He.out (jZ.sb:Sat w0 w6 (dR p 123 (.slice la t.slots.length lc) t.n t.gone::aF 120 35 (.slice la t.slots.length lc) (t.slots.flatMap (slotL aN))::pt b6 (.cells (aN gJ).toArray 60 (0,0))::pt b4 (.cells (aN gJ).toArray 60 (0,0))::F))
 clear jZ
 refine hf.mono ?_
 rintro ee w8 ⟨v,rfl,x,hx,rfl,fG⟩
 clear hf
 obtain ⟨m1,m2⟩:=fF.out.some bY.out He.out hx
 have hxm:=List.mem_of_getElem? hx
 have hxk:=bY.out.good.key x hxm
 obtain ⟨bk,off,c',hsv,hcell⟩:=mJ Hlen.out (Sat.rd (fG.pick aP)) hx aJ
 cases hsv
 have hlt:=Tab.jS (k:=k) (d:=d) fZ.out
 have hval:∀ j v,(aN x.val)[j]?=some v→w8.cell? ⟨bk,off+Tab.pos k t.slots.length d * 35+33+j,none⟩=some v:=fun j v hj=>by
  rw [Nat.add_assoc _ 33 j]
  exact hcell (33+j) v (FB aN x hxk hj)
 clear hcell hx hxm
 generalize Tab.pos k t.slots.length d=P0 at *
 have c0:(0:Int)≤(P0:Int):=oQ
 have c1:(P0:Int)<(t.slots.length:Int):=oQ
 have e0:w8.cell? ⟨p,0,none⟩=some (.slice (some ⟨bk,off,none⟩) t.slots.length lc):=fG.cellP aY 0 rfl
 by_cases h1:x.st=1
 ·have hd:decide (x.st=1)=true:=decide_eq_true h1
  have Hm:=uQ (m1 h1)
  clear m1 m2 h1
  go_wp2_with (first
   |((with_reducible refine bI ⟨?_⟩);refine gK fG ah aY bH aj au ?_)
   |((with_reducible refine bI ⟨?_⟩);refine jw (b:=bk) (o:=off+P0 * 35+33) (aN x.val) ah hval Tryz.underlying60 rfl au ?_)
   |((with_reducible refine bU ⟨?_⟩);refine eH (aN x.val).toArray fG ah ah ah (fD (fD (fD bJ))) au ah ?_;intro w10 bP))
  refine ⟨rfl,_,kC rfl bP ah aY Tryz.underlying60 rfl au,_,rfl,?_,bW.shut bY.out fF.out Hb.out (bP.sb)⟩
  rw [Hm.out];rfl
 ·have hd:decide (x.st=1)=false:=decide_eq_false h1
  have Hm:=uQ (m2 h1)
  clear m1 m2 h1
  go_wp2_with (first
   |((with_reducible refine bI ⟨?_⟩);refine fB fG ah (aO (aO (aH (A:=pt b6 (.cells (aN gJ).toArray 60 (0,0)))))) Tryz.underlying60 rfl au ?_)
   |((with_reducible refine bU ⟨?_⟩);refine eH (aN gJ).toArray fG ah ah ah (fD (fD (fD bJ))) au ah ?_;intro w10 bP))
  refine ⟨rfl,_,kC rfl bP ah (aO (aO (aO aH))) Tryz.underlying60 rfl au,_,rfl,?_,bW.shut bY.out fF.out Hb.out (bP.sb)⟩
  rw [Hm.out];rfl
end
section
variable {w0 w:World}{F R:List aC}{p B N:Nat}{sv v:Value}{k:ak.Bs}{m:ak.Bs→Option (Rep.dU)}{t:Tab.Tb (Rep.dU)}
set_option maxRecDepth 20000 in
theorem TK (ok:t.Ok) (hN:t.n≤N) (hNb:N≤134217728) (Qw:t.slots.length≤1073741824) (h:Sat w0 w (dR p 123 sv t.n t.gone::aF 120 35 sv (t.slots.flatMap (slotL aN))::F)) :
  Calls Tryz.prog 58 #[ptr p,.int .i64 N] w (aI fun _ w'=>∃ s' sv',Tab.tV t s' N∧Sat w0 w' (dR p 123 sv' t.n 0::aF 120 35 sv' (s'.flatMap (slotL aN))::F)):=by
 have bY:=uQ ok;have HN:=uQ hN;have Mc:=uQ hNb
 have Hlen:=uQ (show ∀ x∈t.slots,(slotL aN x).length=35 from fun x hx=>gB aN x (ok.good.key x hx) 2 (rJ _))
 obtain ⟨la,lc,rfl⟩:=jm Hlen.out (Sat.rd (h.pick aP)) aJ
 have hw0:IntKind.i64.wrap (2 * (N:Int))=2 * (N:Int):=IntWalk.i64_in _ oQ
 have QT:wrap64 (2 * (N:Int))=2 * (N:Int):=IntWalk.wrap64_in _ oQ
 clear ok hN
 go_enter Tryz.func58,Tryz.ntmps58
 go_wp2_with fail
 go_loopg [4] (4 * N) (fun g cq wr=>∃ c:Nat,g=4 * N+8 - c∧cq = .int .i64 c∧(∃ j,c=2^j∧3≤j)∧8≤c∧(c=8∨c<4 * N)∧wr=w)
 case atStart=>exact ⟨8,by omega,rfl,⟨3,rfl,Nat.le_refl 3⟩,Nat.le_refl 8,.inl rfl,rfl⟩
 case round=>
  obtain ⟨c,rfl,rfl,⟨j,hj,hj3⟩,hc8,hc,rfl⟩:=hrel
  by_cases hlt:c<2 * N
  ·have c1:(c:Int)<2 * (N:Int):=by omega
   have hw1:IntKind.i64.wrap ((c:Int) * 2)=(c:Int) * 2:=IntWalk.i64_in _ oQ
   have QU:wrap64 ((c:Int) * 2)=(c:Int) * 2:=IntWalk.wrap64_in _ oQ
   have Hj:=uQ hj;have Am:=uQ hj3;have dH:=uQ hlt;have rW:=uQ hc8
   clear hj hj3 hlt hc hc8
   go_wp2_with fail
   go_roundg (4 * N+8 - c * 2)
   case measure=>have:=dH.out;have:=rW.out;omega
   case rel=>exact ⟨c * 2,rfl,by first|rfl|go_num,⟨j+1,by rw [Nat.pow_succ,Hj.out],by have:=Am.out;omega⟩,by have:=rW.out;omega,.inr (by have:=dH.out;omega),rfl⟩
  ·have c1:¬ (c:Int)<2 * (N:Int):=by omega
   have HC:=uQ (show (∃ j,c=2^j∧3≤j)∧2 * N≤c∧8≤c∧(c=8∨c<4 * N) from ⟨⟨j,hj,hj3⟩,by omega,hc8,hc⟩)
   have hcb:c≤1073741824:=oQ
   have qR:=uQ hcb
   clear hj hj3 hlt hc hc8 hw0 hcb hNb
   go_wp2_with (first
    |((with_reducible refine bI ⟨?_⟩);refine gK h ah aY bH aj au ?_)
    |((with_reducible refine at_make ⟨?_⟩);refine Ae (e:=120) (sz:=35) (dX:=56) (n:=c) au xk h ah ah (by have:=qR.out;omega) (by have:=qR.out;omega) ?_;intro bM wM hM)
    |((with_reducible refine bU ⟨?_⟩);refine eX aQ ah aj pQ eP bH au ah ?_;intro wS hS))
   have e8:(List.replicate c (slotL aN ⟨0,ak.zero32,gJ⟩)).flatten=(List.replicate c (⟨0,ak.zero32,gJ⟩:Tab.Slot (Rep.dU))).flatMap (slotL aN):=(zV c _).symm
   rw [e8]at hS
   have hS0:Sat w0 _ (dR p 123 (.slice (some ⟨bM,0,none⟩) c c) t.n 0::aF 120 35 (.slice (some ⟨bM,0,none⟩) c c) ((List.replicate c (⟨0,ak.zero32,gJ⟩:Tab.Slot (Rep.dU))).flatMap (slotL aN))::aF 120 35 (.slice la t.slots.length lc) (t.slots.flatMap (slotL aN))::F):=hS.sb
   clear hS hM h e8 c1
   go_wp2_with fail
   go_loopg [31] t.slots.length (fun g iq wr=>∃ (i:Nat) (cur:List (Tab.Slot (Rep.dU))),g=t.slots.length - i∧i≤t.slots.length∧iq = .int .i64 i∧Tab.Half t.slots cur i∧cur.length=c ∧
    Sat w0 wr (dR p 123 (.slice (some ⟨bM,0,none⟩) c c) t.n 0::aF 120 35 (.slice (some ⟨bM,0,none⟩) c c) (cur.flatMap (slotL aN))::aF 120 35 (.slice la t.slots.length lc) (t.slots.flatMap (slotL aN))::F))
   case atStart=>exact ⟨0,_,rfl,Nat.zero_le _,rfl,Tab.half_start HC.out.1 aJ rfl,List.length_replicate,hS0⟩
   case round=>
    obtain ⟨i,cur,rfl,hi,rfl,hH,hcl,hS⟩:=hrel
    clear hS0
    have HH:=uQ hH;have gy:=uQ hcl
    by_cases hlt:i<t.slots.length
    rotate_left
    ·obtain rfl:i=t.slots.length:=by omega
     have c1:¬ (t.slots.length:Int)<(t.slots.length:Int):=oQ
     clear hlt hH hi
     go_wp2_with fail
     go_end0
     obtain ⟨q1,q2,q3,q4⟩:=HH.out.done
     exact ⟨_,rfl,cur,⟨q1,q2,q3.trans bY.out.n.symm,q4.trans bY.out.n.symm,by rw [gy.out];exact HC.out.2.1,by rw [gy.out];exact HC.out.2.2.1,by rw [gy.out];exact HC.out.2.2.2⟩,_,hS.sb⟩
    have c1:(i:Int)<(t.slots.length:Int):=oQ
    have hwi:=pU (i:=i)
    obtain ⟨x,hx⟩:∃ x,t.slots[i]?=some x:=⟨_,List.getElem?_eq_getElem hlt⟩
    have hxm:=List.mem_of_getElem? hx
    have hst:=bY.out.good.st x hxm
    have Hxk:=uQ (bY.out.good.key x hxm)
    obtain ⟨bk,off,c',hsv,hcell⟩:=mJ Hlen.out (Sat.rd (hS.pick dM)) hx aJ
    cases hsv
    have fA:=Hlen.out x hxm
    have Hx:=uQ hx;have dH:=uQ hlt
    clear hx hxm hlt hH hi
    go_wp2_with (first
     |((with_reducible refine bI ⟨?_⟩);refine jw (b:=bk) (o:=off+i * 35) (slotL aN x) ah hcell Tryz.underlying120 rfl (by rw [fA];kernel_rfl) ?_)
     |(with_reducible apply dY))
    refine ⟨dS xk hS rfl ?_⟩
    intro b7 w7 hS7
    go_wp2_with (first|((with_reducible refine bU ⟨?_⟩);refine eH (slotL aN x).toArray hS7 ah ah (by rw [List.size_toArray,fA];rfl) bJ (by rw [List.size_toArray,fA];kernel_rfl) (by rw [List.toList_toArray];exact kJ aN x (yF _)) ?_;intro w10 bP)|(with_reducible apply bI))
    refine ⟨?_⟩
    clear hS hS7 hcell
    have f0:w10.cell? ⟨b7,0,none⟩=some (.int .i64 x.st):=bP.cellP aH 0 (by rw [List.getElem?_toArray];rfl)
    have f1:w10.rangeAt b7 1 (ay x.key):=qL (bP.pick aH)
    by_cases h1:x.st=1
    rotate_left
    ·have hst1:((x.st:Int)==1)=false:=by rw [beq_eq_false_iff_ne];omega
     have H1:=uQ h1
     clear h1 f1
     go_wp2_with fail
     go_roundg (t.slots.length - (i+1))
     case measure=>have:=dH.out;omega
     case rel=>exact ⟨i+1,cur,rfl,dH.out,by first|rfl|go_num,HH.out.skip Hx.out H1.out,gy.out,bP.sb⟩
    ·have hus:Tab.used cur<cur.length:=by
      have h2:=HH.out.nu
      have h3:=Tab.IC t.slots i
      have h4:=bY.out.n
      have h5:=HN.out
      have h6:=HC.out
      rw [gy.out];omega
     obtain ⟨dd,hdd⟩:=Tab.Ei (k:=x.key) HH.out.good (Tab.Eo hus)
     have H1:=uQ h1;have qh:=uQ hdd
     have hst1:((x.st:Int)==1)=true:=by rw [h1];rfl
     have uX:=uQ (show ∀ y∈cur,(slotL aN y).length=35 from fun y hy=>gB aN y (HH.out.good.key y hy) 2 (rJ _))
     clear h1 hus hdd
     go_wp2_with ((with_reducible refine bI ⟨?_⟩);refine jw (b:=b7) (o:=1) (ay x.key) ah f1 Tryz.underlying30 rfl (by rw [aU,Hxk.out];kernel_rfl) ?_)
     have hf:=Bo HH.out.good (by rw [gy.out];exact qR.out) Hxk.out qh.out (bP.sb:Sat w0 w10 (dR p 123 (.slice (some ⟨bM,0,none⟩) c c) t.n 0::aF 120 35 (.slice (some ⟨bM,0,none⟩) c c) (cur.flatMap (slotL aN))::pt b7 (.cells (slotL aN x).toArray 120 (0,0))::aF 120 35 (.slice (some ⟨bk,off,none⟩) t.slots.length lc) (t.slots.flatMap (slotL aN))::F))
     clear bP f0 f1
     refine hf.mono ?_
     rintro ee fU ⟨v,rfl,y,hy,rfl,iR⟩
     clear hf hy
     have hlt2:=Tab.jS (k:=x.key) (d:=dd) HH.out.good.gZ
     rw [gy.out]at hlt2
     have vG:=uQ (sU (f:=slotL aN) (k:=35) (i:=Tab.pos x.key cur.length dd) (x:=x) uX.out fA (Tab.jS HH.out.good.gZ))
     have vH:=uQ (HH.out.step bY.out.good Hx.out H1.out qh.out)
     rw [gy.out]at vG vH
     rw [gy.out]
     have hrl:(cur.flatMap (slotL aN)).length=35 * c:=by rw [jr uX.out,gy.out]
     generalize Tab.pos x.key c dd=P0 at *
     have c2:(0:Int)≤(P0:Int):=oQ
     have c3:(P0:Int)<(c:Int):=oQ
     go_wp2_with fail
     have hSd:=iR.drew
     clear iR
     refine dh [6,7] (fun w'=>w'.cell? ⟨p,0,none⟩=some (.slice (some ⟨bM,0,none⟩) c c)∧w'.rangeAt b7 0 (slotL aN x)) au ?_
     have hG:World.cell? _ ⟨p,0,none⟩=some (.slice (some ⟨bM,0,none⟩) c c)∧World.rangeAt _ b7 0 (slotL aN x):=⟨hSd.cellP aY 0 rfl,lV (hSd.pk (A:=pt b7 (.cells (slotL aN x).toArray 120 (0,0))))⟩
     refine rP 0 ?_ (y:=aG)
     refine rP 1 ?_ (y:=dL)
     refine rP 2 ?_ (y:=cO)
     refine rt 3 (h:=?_)
     refine rP 4 ?_ (y:=aG)
     refine dK 5 aj au bC (gu (b:=b7) (o:=0) (slotL aN x) ah Tryz.underlying120 rfl (by rw [fA];kernel_rfl) (fun w hw=>hw.2)) aQ gQ ?_
     refine rP 6 ?_ (y:=dZ)
     clear hG
     refine bG 7 aj au (fun K hK=>?_)
     refine sF (vs:=slotL aN x) (P0 * 35) hSd aj aj rfl (fD bJ) (by rw [fA,hrl];omega) (by rw [fA];kernel_rfl) (kJ aN x (yF _)) ?_
     intro w12 gq
     refine hK _ _ (.inl rfl) ?_
     clear hK hSd
     refine cu au ?_
     try simp only [jB]
     try go_frame
     rw [← vG.out]at gq
     go_wp2_with fail
     go_roundg (t.slots.length - (i+1))
     case measure=>have:=dH.out;omega
     case rel=>exact ⟨i+1,_,rfl,dH.out,by first|rfl|go_num,vH.out,by rw [List.length_set];exact gy.out,gq.sb⟩
end
theorem aeO (k:ak.Bs) (hk:k.length=32) (v:Rep.dU) (w:World) :
  (Instr.build 120 #[(0,.int .i64 1),(1,.agg (ay k).toArray),(2,.agg (aN v).toArray)]).run Tryz.prog w = .ok (.agg (slotL aN ⟨1,k,v⟩).toArray) w:=by
 have hbk:(ay k).toArray.size=32:=by rw [List.size_toArray,aU,hk]
 refine (run_build (P:=Tryz.prog) [(0,.int .i64 1),(1,.agg (ay k).toArray),(2,.agg (aN v).toArray)] S9 xk (by
  intro p' hp
  simp only [List.mem_cons,List.not_mem_nil,or_false]at hp
  have hzz:(Value.agg (slotL aN (⟨0,ak.zero32,gJ⟩:Tab.Slot (Rep.dU))).toArray).cells.size=35:=by
   show (slotL aN (⟨0,ak.zero32,gJ⟩:Tab.Slot (Rep.dU))).toArray.size=35
   rw [List.size_toArray,gB aN _ aJ 2 rfl]
  rw [hzz]
  rcases hp with rfl|rfl|rfl
  ·exact ⟨0,rfl,by show 0+1≤35;omega⟩
  ·refine ⟨1,?_,?_⟩
   ·show some (1,32)=some (1,(ay k).toArray.size);rw [hbk]
   ·show 1+(ay k).toArray.size≤35;omega
  ·exact ⟨33,rfl,by show 33+2≤35;omega⟩) w).trans ?_
 rw [show (Value.agg (slotL aN (⟨0,ak.zero32,gJ⟩:Tab.Slot (Rep.dU))).toArray).cells=(slotL aN (⟨0,ak.zero32,gJ⟩:Tab.Slot (Rep.dU))).toArray from rfl,Kv aN ⟨0,ak.zero32,gJ⟩ k v aJ hk rfl 2 rfl]
section
variable {w0 w:World}{F R:List aC}{p B:Nat}{sv:Value}{k:ak.Bs}{m:ak.Bs→Option (Rep.dU)}
set_option maxRecDepth 20000 in
theorem Tf (hB:B≤134217000) (hk:k.length=32) (v:Rep.dU) (h:Sat w0 w (bW p m B::F)) :
  Calls Tryz.prog 25 #[ptr p,.agg (ay k).toArray,.agg (aN v).toArray] w (aI fun _ w'=>Sat w0 w' (bW p (Tab.put m k v) (B+1)::F)):=by
 obtain ⟨t,sv,⟨ok,is,hb⟩,hR⟩:=bW.open h
 obtain ⟨d,he⟩:=ok.ends k
 have hsz:t.slots.length≤1073741824:=by have:=ok.size;omega
 have Hlen:=uQ (show ∀ x∈t.slots,(slotL aN x).length=35 from fun x hx=>gB aN x (ok.good.key x hx) 2 (rJ _))
 obtain ⟨la,lc,rfl⟩:=jm Hlen.out (Sat.rd (hR.pick aP)) aJ
 have hrl:0<(t.slots.flatMap (slotL aN)).length:=by rw [jr Hlen.out];have:=ok.good.gZ;omega
 obtain ⟨bk,rfl⟩:=sO (hR.pick aP) hrl
 have Hk:=uQ hk;have bY:=uQ ok;have fF:=uQ is;have Hb:=uQ hb;have He:=uQ he;have dw:=uQ hsz;have HB:=uQ hB
 have fZ:=uQ ok.good.gZ
 have nR:=uQ (show (ay k).length=32 by rw [aU,hk])
 clear h hk ok is hb he hsz hB hrl
 go_enter Tryz.func25,Tryz.ntmps25
 go_wp2_with (with_reducible apply fH)
 refine ⟨fO hR aj aj ?_⟩
 intro b4 w4 hS4
 go_wp2_with (with_reducible apply fH)
 refine ⟨fO hS4 aj aj ?_⟩
 intro b5 w5 hS5
 have hA:Sat w0 w5 (dR p 123 (.slice (some ⟨bk,0,none⟩) t.slots.length lc) t.n t.gone::aF 120 35 (.slice (some ⟨bk,0,none⟩) t.slots.length lc) (t.slots.flatMap (slotL aN))::pt b4 (.cells (ay k).toArray 30 (0,0))::pt b5 (.cells (aN v).toArray 60 (0,0))::F):=hS5.sb
 clear hR hS4 hS5
 go_wp2_with fail
 refine (EP fZ.out hA).mono ?_
 rintro ee w7 ⟨v',rfl,rfl,rfl⟩
 go_wp2_with ((with_reducible refine bI ⟨?_⟩);refine fB hA ah (aO (aO (aH (A:=pt b4 (.cells (ay k).toArray 30 (0,0)))))) Tryz.underlying30 rfl (by rw [List.size_toArray,nR.out];kernel_rfl) ?_)
 have hf:=Bo bY.out.good dw.out Hk.out He.out hA
 clear hA
 refine hf.mono ?_
 rintro ee w8 ⟨v',rfl,x,hx,rfl,fG⟩
 clear hf
 have hlt:=Tab.jS (k:=k) (d:=d) fZ.out
 by_cases h1:x.st=1
 ·have hd:decide (x.st=1)=true:=decide_eq_true h1
  have hxm:=List.mem_of_getElem? hx
  have l9:=uQ (CX (f:=slotL aN) (k:=35) (o:=33) (x':=⟨x.st,x.key,v⟩) (vs:=aN v) Hlen.out hx (KY aN x v (bY.out.good.key x hxm) rfl) (by show 33+2≤35;decide))
  have lQ:=uQ (Tab.Ku bY.out He.out hx h1 v)
  have lN:=uQ (Tab.zJ fF.out (Tab.Fb bY.out.good He.out hx h1 v).2 t.n t.gone)
  have hrl:(t.slots.flatMap (slotL aN)).length=35 * t.slots.length:=jr Hlen.out
  clear hx hxm h1
  generalize Tab.pos k t.slots.length d=P0 at *
  have c0:(0:Int)≤(P0:Int):=oQ
  have c1:(P0:Int)<(t.slots.length:Int):=oQ
  go_wp2_with fail
  have hSd:=fG.drew
  clear fG
  refine dh [6,7,8] (fun w'=>w'.cell? ⟨p,0,none⟩=some (.slice (some ⟨bk,0,none⟩) t.slots.length lc)∧w'.rangeAt b5 0 (aN v)) au ?_
  have hG:World.cell? _ ⟨p,0,none⟩=some (.slice (some ⟨bk,0,none⟩) t.slots.length lc)∧World.rangeAt _ b5 0 (aN v):=⟨hSd.cellP aY 0 rfl,lV (hSd.pk (A:=pt b5 (.cells (aN v).toArray 60 (0,0))))⟩
  refine rP 0 ?_ (y:=aG)
  refine rP 1 ?_ (y:=dL)
  refine rP 2 ?_ (y:=cO)
  refine rt 3 (h:=?_)
  refine rP 4 ?_ (y:=aG)
  refine dK 5 aj au bC (gu (b:=b5) (o:=0) (aN v) ah Tryz.underlying60 rfl au (fun w hw=>hw.2)) aQ gQ ?_
  refine rP 6 ?_ (y:=dZ)
  refine rP 7 ?_ (y:=cO)
  clear hG
  refine bG 8 aj au (fun K hK=>?_)
  refine sF (vs:=aN v) (P0 * 35+33) hSd aj aj rfl (fD bJ) (by rw [hrl];show P0 * 35+33+2≤_;omega) au ah ?_
  intro w12 gq
  refine hK _ _ (.inl rfl) ?_
  clear hK hSd
  refine cu au ?_
  try simp only [jB]
  try go_frame
  rw [← l9.out]at gq
  go_wp2_with fail
  go_end0
  exact ⟨_,rfl,bW.shut (sv:= .slice (some ⟨bk,0,none⟩) t.slots.length lc) lQ.out lN.out (Nat.le_succ_of_le Hb.out) (gq.sb)⟩
 have hd:decide (x.st=1)=false:=decide_eq_false h1
 have hb4:=Hb.out
 have hB4:=HB.out
 have wL:=dw.out
 obtain ⟨hA1,hA2,hA3,wu,vX,vY,vZ,wz,wC⟩:=LJ t.n t.gone t.slots.length oQ wL
 have Hx:=uQ hx;have H1:=uQ h1
 clear hx h1 hb4 hB4 wL
 go_wp2_with fail
 have hSd:=fG.drew
 clear fG
 have e0:World.cell? _ ⟨p,0,none⟩=some (.slice (some ⟨bk,0,none⟩) t.slots.length lc):=hSd.cellP aY 0 rfl
 have e1:World.cell? _ ⟨p,1,none⟩=some (.int .i64 t.n):=hSd.cellP aY 1 rfl
 have e2:World.cell? _ ⟨p,2,none⟩=some (.int .i64 t.gone):=hSd.cellP aY 2 rfl
 go_region
 have hcmp:3 * t.slots.length<4 * (t.n+t.gone+1)∨4 * (t.n+t.gone+1)≤3 * t.slots.length:=oQ
 rcases hcmp with hcmp|hcmp
 focus
  have hci:(3:Int) * (t.slots.length:Int)<4 * ((t.n:Int)+(t.gone:Int)+1):=oQ
  have hrn:=TK (N:=t.n+1) bY.out (Nat.le_succ _) (by have:=Hb.out;have:=HB.out;omega) dw.out hSd
  rw [show (((t.n+1:Nat)):Int)=(t.n:Int)+1 by omega]at hrn
  clear hSd e0 e2
  go_wp2_with fail
  refine hrn.mono ?_
  rintro ee w9 ⟨v',rfl,s',sv',lG,iT⟩
  clear hrn e1 hci hcmp
  have hok1:=lG.ok
  have rC:=lG.is fF.out t.n 0
  have rD:4 * ((⟨s',t.n,0⟩:Tab.Tb (Rep.dU)).n+(⟨s',t.n,0⟩:Tab.Tb (Rep.dU)).gone+1)≤3 * (⟨s',t.n,0⟩:Tab.Tb (Rep.dU)).slots.length:=by have:=lG.lo;simp only;omega
  have hb1:(⟨s',t.n,0⟩:Tab.Tb (Rep.dU)).n+(⟨s',t.n,0⟩:Tab.Tb (Rep.dU)).gone≤B:=by have:=Hb.out;simp only;omega
  have bP:Sat w0 w9 (dR p 123 sv' (⟨s',t.n,0⟩:Tab.Tb (Rep.dU)).n (⟨s',t.n,0⟩:Tab.Tb (Rep.dU)).gone::aF 120 35 sv' ((⟨s',t.n,0⟩:Tab.Tb (Rep.dU)).slots.flatMap (slotL aN))::pt b4 (.cells (ay k).toArray 30 (0,0))::pt b5 (.cells (aN v).toArray 60 (0,0))::F):=iT
  clear iT lG hA1 hA2 hA3 wu vX vY vZ wz wC
  generalize (⟨s',t.n,0⟩:Tab.Tb (Rep.dU))=t1 at hok1 rC rD hb1 bP
  have oI:=uQ (show ∀ x∈t1.slots,(slotL aN x).length=35 from fun x hx=>gB aN x (hok1.good.key x hx) 2 (rJ _))
  obtain ⟨Ce,oZ,rfl⟩:=jm oI.out (Sat.rd (bP.pick aP)) aJ
  have je:=uQ hok1;have oG:=uQ rC;have qV:=uQ rD;have Hb1:=uQ hb1
  obtain ⟨d1,he1⟩:=hok1.ends k
  have lC:=uQ he1
  have hno:m k=none:=by
   obtain ⟨_,q2⟩:=fF.out.some bY.out He.out Hx.out
   exact q2 H1.out
  have hsz1:t1.slots.length≤1073741824:=by have:=hok1.size;have:=HB.out;omega
  clear hok1 rC rD hb1 he1
  go_wp2_with ((with_reducible refine bI ⟨?_⟩);refine fB bP ah (aO (aO (aH (A:=pt b4 (.cells (ay k).toArray 30 (0,0)))))) Tryz.underlying30 rfl (by rw [List.size_toArray,nR.out];kernel_rfl) ?_)
  have hf:=Bo je.out.good hsz1 Hk.out lC.out bP
  clear bP hsz1
  refine hf.mono ?_
  rintro ee Vh ⟨v',rfl,x1,hx1,rfl,hT⟩
  have oJ:=uQ hx1
  have oC:=uQ (show x1.st≠1 from fun h=>by
   have:=(oG.out.some je.out lC.out hx1).1 h
   rw [hno]at this;cases this)
  clear hf hx1 hno Hx H1 He bY fF Hlen fZ Hb dw hlt hd
  go_wp2_with fail
 rotate_left
 focus
  have hci:¬ (3:Int) * (t.slots.length:Int)<4 * ((t.n:Int)+(t.gone:Int)+1):=oQ
  have qV:=uQ hcmp
  clear e0 e1 e2 hcmp
  go_wp2_with fail
  clear hci hA1 hA2 hA3 wu vX vY vZ wz wC hlt hd fZ dw
  obtain ⟨t1,rfl⟩:∃ y,y=t:=⟨t,rfl⟩
  obtain ⟨x1,rfl⟩:∃ y,y=x:=⟨x,rfl⟩
  obtain ⟨d1,rfl⟩:∃ y,y=d:=⟨d,rfl⟩
  obtain ⟨Ce,wI⟩:∃ y:Option Addr,y=some ⟨bk,0,none⟩:=⟨_,rfl⟩
  obtain ⟨oZ,rfl⟩:∃ y,y=lc:=⟨lc,rfl⟩
  rw [← wI]at hSd
  have hT:=hSd
  have je:=uQ bY.out;have oG:=uQ fF.out;have Hb1:=uQ Hb.out;have lC:=uQ He.out;have oJ:=uQ Hx.out;have oC:=uQ H1.out;have oI:=uQ Hlen.out
  clear hSd bY fF Hb He Hx H1 Hlen wI
 all_goals
  have hrl:(t1.slots.flatMap (slotL aN)).length=35 * t1.slots.length:=jr oI.out
  obtain ⟨bk1,rfl⟩:=sO (hT.pick aP) (by rw [hrl];have:=je.out.good.gZ;omega)
  have l9:=uQ (sU (f:=slotL aN) (k:=35) (i:=Tab.pos k t1.slots.length d1) (x:=⟨1,k,v⟩) oI.out (gB aN _ Hk.out 2 rfl) (Tab.jS je.out.good.gZ))
  have lQ:=uQ (Tab.Kt je.out qV.out lC.out oJ.out oC.out Hk.out v)
  have lN:=uQ (Tab.zJ oG.out (Tab.CQ je.out.good lC.out oJ.out oC.out Hk.out v).2 (t1.n+1) t1.gone)
  have hlt1:=Tab.jS (k:=k) (d:=d1) je.out.good.gZ
  have hls:=gB aN (⟨1,k,v⟩:Tab.Slot (Rep.dU)) Hk.out 2 rfl
  have hwn:IntKind.i64.wrap ((t1.n:Int)+1)=(t1.n:Int)+1:=IntWalk.i64_in _ (by have:=Hb1.out;have:=HB.out;omega)
  clear oJ oC lC je oG qV
  generalize Tab.pos k t1.slots.length d1=P1 at *
  have c0:(0:Int)≤(P1:Int):=oQ
  have c1:(P1:Int)<(t1.slots.length:Int):=oQ
  have hSd:=hT.drew
  clear hT
  refine dh [8,9] (fun w'=>w'.cell? ⟨p,0,none⟩=some (.slice (some ⟨bk1,0,none⟩) t1.slots.length oZ)∧w'.rangeAt b4 0 (ay k)∧w'.rangeAt b5 0 (aN v)) au ?_
  have hG:World.cell? _ ⟨p,0,none⟩=some (.slice (some ⟨bk1,0,none⟩) t1.slots.length oZ)∧World.rangeAt _ b4 0 (ay k)∧World.rangeAt _ b5 0 (aN v):=⟨hSd.cellP aY 0 rfl,lV (hSd.pk (A:=pt b4 (.cells (ay k).toArray 30 (0,0)))),lV (hSd.pk (A:=pt b5 (.cells (aN v).toArray 60 (0,0))))⟩
  refine rP 0 ?_ (y:=aG)
  refine rP 1 ?_ (y:=dL)
  refine rP 2 ?_ (y:=cO)
  refine rt 3 (h:=?_)
  refine rP 4 ?_ (y:=aG)
  refine dK 5 aj au bC (gu (b:=b4) (o:=0) (ay k) ah Tryz.underlying30 rfl (by rw [nR.out];kernel_rfl) (fun w hw=>hw.2.1)) aQ gQ ?_
  refine dK 6 aj au bC (gu (b:=b5) (o:=0) (aN v) ah Tryz.underlying60 rfl au (fun w hw=>hw.2.2)) aQ gQ ?_
  refine rP 7 ?_ (y:=(F5 aj aj aj (fun w=>aeO k Hk.out v w)))
  refine rP 8 ?_ (y:=dZ)
  clear hG
  refine bG 9 aj au (fun K hK=>?_)
  refine sF (vs:=slotL aN ⟨1,k,v⟩) (P1 * 35) hSd aj aj rfl (fD bJ) (by rw [hrl,hls];omega) (by rw [hls];kernel_rfl) (kJ aN _ ah) ?_
  intro w12 gq
  refine hK _ _ (.inl rfl) ?_
  clear hK hSd
  refine cu au ?_
  try simp only [jB]
  try go_frame
  rw [← l9.out]at gq
  go_wp2_with (first
   |((with_reducible refine bI ⟨?_⟩);refine gK gq ah aY bH aj au ?_)
   |((with_reducible refine bU ⟨?_⟩);refine eX aQ ah aj pQ eP bH au ah ?_;intro wS hS))
  go_end0
  exact ⟨_,rfl,bW.shut (sv:= .slice (some ⟨bk1,0,none⟩) t1.slots.length oZ) lQ.out lN.out (by have:=Hb1.out;simp only;omega) (hS.sb)⟩
end
set_option maxRecDepth 20000 in
theorem Yz (x y:Tab.Slot (Rep.dU)) (hx:x.key.length=32) (hy:y.key.length=32) (W:World) :
  Calls Tryz.prog 150 #[.agg (slotL aN x).toArray,.agg (slotL aN y).toArray] W fun e w'=>e = .returned (.int .i64 (Lib.compareBytes x.key y.key))∧∃ q os',w'=Sort.grow (W.drewN q) os':=by
 have h0:=Sat.start W
 have h1:=h0.alloc (.cells (slotL aN x).toArray 120)
 have h2:=(h1.alloc (.cells (slotL aN y).toArray 120)).drew
 have hsz:(W.alloc (.cells (slotL aN x).toArray 120)).heap.size=W.heap.size+1:=Array.size_push ..
 rw [hsz]at h2
 have r1:bK 1 (.slice (some ⟨W.heap.size,1,none⟩) 32 32) (ay x.key) ((W.alloc (.cells (slotL aN x).toArray 120)).alloc (.cells (slotL aN y).toArray 120)).drew:=
  ⟨_,_,_,rfl,by rw [aU,hx],fun j z hj=>⟨_,rfl,by rw [y9];exact qL (h2.pick aP) j z hj⟩⟩
 have r2:bK 1 (.slice (some ⟨W.heap.size+1,1,none⟩) 32 32) (ay y.key) ((W.alloc (.cells (slotL aN x).toArray 120)).alloc (.cells (slotL aN y).toArray 120)).drew:=
  ⟨_,_,_,rfl,by rw [aU,hy],fun j z hj=>⟨_,rfl,by rw [y9];exact qL (h2.pick aH) j z hj⟩⟩
 have hb:=NK x.key y.key r1 r2
 clear h0 h1 h2 r1 r2 hsz
 generalize Lib.compareBytes x.key y.key=r at *
 go_enter Tryz.func150,Tryz.ntmps150
 go_wp2_with fail
 have hG:True:=trivial
 refine dh [] (fun w'=>True) au ?_
 refine rP 0 ?_ (y:=cO)
 refine rp 1 (hy:=(by (refine Or.inl ⟨by rfl,?_⟩;((intro wq;go_simp);first|done|exact wQ)))) (h:=?_)
 refine rP 2 ?_ (y:=cO)
 refine rp 3 (hy:=(by (refine Or.inl ⟨by rfl,?_⟩;((intro wq;go_simp);first|done|exact wQ)))) (h:=?_)
 refine bG 4 aj au (fun K hK=>?_)
 (refine eU au aj aj ?_)
 refine hb.mono ?_
 rintro e w' ⟨rfl,rfl⟩
 refine hK _ _ (.inr (.inr rfl)) ?_
 clear hK hb
 refine rP 5 ?_ (y:=dN)
 refine cu au ?_
 clear hG
 go_wp2_with fail
 go_ret
 exact ⟨rfl,1,#[.cells (slotL aN x).toArray 120,.cells (slotL aN y).toArray 120],by rw [Sort.alloc_eq_grow,Sort.alloc_eq_grow,Sort.grow_grow,Sort.drew_grow];rfl⟩
abbrev dG (s r t:Nat) (st:Bool):aC:=pt s (.cells #[ptr r,ptr t,.bool st] 64 (0,0))
section
variable {w0 w:World}{F:List aC}
theorem ad6 {r m p ps pn:Nat}{seg:Int}{d:Bool} (h:Sat w0 w (dA r m seg p ps pn d::F)):Calls Tryz.prog 47 #[ptr r] w (aI fun v w'=>v=ptr p∧w=w'):=by
 have e2:w.cell? ⟨r,2,none⟩=some (.pointer (some ⟨p,0,none⟩)):=h.cellAt 2 _ rfl
 have hok:=yH h
 clear h
 go_enter Tryz.func47,Tryz.ntmps47
 go_wp2_with fail
 refine hok.mono ?_
 rintro ee w1 ⟨v,rfl,rfl,rfl⟩
 go_wp2_with fail
 go_ret
 exact ⟨_,rfl,rfl,rfl⟩
theorem rO {s r t:Nat}{st:Bool} (h:Sat w0 w (dG s r t st::F)):Calls Tryz.prog 21 #[ptr s] w (aI fun v w'=>v = .bool true∧w=w'):=by
 have e0:w.cell? ⟨s,0,none⟩=some (.pointer (some ⟨r,0,none⟩)):=h.cellAt 0 _ rfl
 go_enter Tryz.func21,Tryz.ntmps21
 go_wp2
 go_ret
 exact ⟨_,rfl,rfl,rfl⟩
theorem Zq (h:Sat w0 w F):Calls Tryz.prog 48 #[.slice none 0 0] w (aI fun v w'=>∃ t,v = .tuple #[ptr t,errno 0]∧Sat w0 w' (bW t (fun _=>none) 0::F)):=by
 have hn:=ab9 h
 clear h
 go_enter Tryz.func48,Tryz.ntmps48
 go_wp2_with fail
 refine hn.mono ?_
 rintro ee w1 ⟨v,rfl,t,rfl,h1⟩
 clear hn
 go_wp2_with fail
 go_loopg [12] 0 (fun g iq wr=>g=0∧iq = .int .i64 0∧Sat w0 wr (bW t (fun _=>none) 0::F))
 case atStart=>exact ⟨rfl,rfl,h1⟩
 case round=>
  obtain ⟨rfl,rfl,hS⟩:=hrel
  clear h1
  go_wp2_with fail
  go_loopg [34] 0 (fun g iq wr=>g=0∧iq = .int .i64 0∧Sat w0 wr (bW t (fun _=>none) 0::F))
  case atStart=>exact ⟨rfl,rfl,hS⟩
  case round=>
   obtain ⟨rfl,rfl,hT⟩:=hrel
   clear hS
   go_wp2_with fail
   go_ret2
   exact ⟨_,rfl,t,rfl,hT⟩
theorem acY:qJ Tryz.prog 64=some [(0,1),(1,1),(2,1)]:=by kernel_rfl
theorem ahk:iH Tryz.prog 64=some (.agg #[.pointer none,.pointer none,.bool false]):=by kernel_rfl
theorem aeQ (r t:Nat) (st:Bool) (w:World):(Instr.build 64 #[(0,ptr r),(1,ptr t),(2,.bool st)]).run Tryz.prog w = .ok (.agg #[ptr r,ptr t,.bool st]) w:=
 run_build (P:=Tryz.prog) [(0,ptr r),(1,ptr t),(2,.bool st)] acY ahk (by
  intro q hq
  simp only [List.mem_cons,List.not_mem_nil,or_false]at hq
  rcases hq with rfl|rfl|rfl
  ·exact ⟨0,rfl,by show 0+1≤3;decide⟩
  ·exact ⟨1,rfl,by show 1+1≤3;decide⟩
  ·exact ⟨2,rfl,by show 2+1≤3;decide⟩) w
theorem ab8 {r m p ps pn:Nat}{seg:Int}{d st:Bool} (h:Sat w0 w (dA r m seg p ps pn d::F)) :
  Calls Tryz.prog 20 #[ptr r,.slice none 0 0,.bool st] w (aI fun v w'=>∃ s t,v = .tuple #[ptr s,errno 0]∧Sat w0 w' (dG s r t st::bW t (fun _=>none) 0::dA r m seg p ps pn d::F)):=by
 have iZ:=ad6 h
 have hfil:=Zq h
 clear h
 go_enter Tryz.func20,Tryz.ntmps20
 go_wp2_with fail
 refine iZ.mono ?_
 rintro ee w1 ⟨v,rfl,rfl,rfl⟩
 clear iZ
 go_wp2_with fail
 refine hfil.mono ?_
 rintro ee w2 ⟨v,rfl,t,rfl,h2⟩
 clear hfil
 go_wp2_with (first
  |((with_reducible refine G6 ⟨?_⟩);refine Lp ah ah ah (aeQ r t st) ?_)
  |((with_reducible refine fH ⟨?_⟩);refine fO h2 ah ah ?_;intro s w3 h3))
 go_ret2
 exact ⟨_,rfl,s,t,rfl,h3⟩
abbrev SX (s t r m p ps pi pn:Nat) (uv:Value) (limit:Int) (M:aB) (F:List aC):List aC:=
 dG s r t false::bW t (fun _=>none) 0::RX r m p ps pi pn uv limit M F
set_option maxRecDepth 20000 in
theorem acH (z:Int) (hH:Ro w0 F Half) (h:Sat w0 w F) :
  Calls Tryz.prog 5 #[.int .i64 z] w (aI fun v w'=>∃ (s t r m p ps pi pn:Nat) (uv:Value) (limit:Int) (M:aB),v = .tuple #[ptr s,ptr m,.bool true]∧128≤limit∧limit≤3000∧(z=500→limit=500)∧M=aB.new 1048576∧Seg.Rp 0 1048576 0 0 0 ⟨limit,[],false,0⟩ M []∧Sat w0 w' (SX s t r m p ps pi pn uv limit M F)):=by
 have hnew:=acd 1048576 aJ h
 have hlim:=agK z 128 3000 aJ
 have hwi:=agJ z 128 3000
 have hz:z=500→within z 128 3000=500:=by rintro rfl;decide
 generalize within z 128 3000=lim at *
 have DI:=uQ hlim;have HH:=uQ hH;have Hz:=uQ hz
 clear h hlim hH hz
 go_enter Tryz.func5,Tryz.ntmps5
 go_wp2_with fail
 refine hnew.mono ?_
 rintro ee w1 ⟨v,rfl,m,rfl,h1⟩
 clear hnew
 go_wp2_with fail
 refine (hwi _).mono ?_
 rintro ee w2 ⟨v,rfl,rfl,rfl⟩
 clear hwi
 have hop:=adU (K:=0) DI.out.1 (by have:=DI.out.2;omega) (Seg.Calm.new 0 1048576 aJ) (Nat.zero_le _) rfl HH.out h1
 clear h1
 go_wp2_with fail
 refine hop.mono ?_
 rintro ee w3 ⟨v,rfl,r,p,ps,pi,pn,uv,rfl,hR,h3⟩
 clear hop
 have HR:=uQ hR
 clear hR
 go_wp2_with (with_reducible apply dY)
 refine ⟨dS tH h3 rfl ?_⟩
 intro b8 w7 h7
 go_wp2_with (with_reducible apply bU)
 refine ⟨eH (fJ Rep.eY.zero) h7 ah ah ah bJ au ah ?_⟩
 intro w8 h8
 have h9:=h8.drop
 clear h3 h7 h8
 have h9:Sat w0 w8 (RX r m p ps pi pn uv lim (aB.new 1048576) F):=h9
 have hnw:=ab8 (st:=false) h9
 clear h9
 go_wp2_with fail
 refine hnw.mono ?_
 rintro ee w10 ⟨v,rfl,s,t,rfl,h10⟩
 clear hnw
 go_wp2_with fail
 go_ret3
 exact ⟨_,rfl,s,t,r,m,p,ps,pi,pn,uv,lim,_,rfl,DI.out.1,DI.out.2,Hz.out,rfl,HR.out,h10⟩
end
section
variable {w0 w:World}{F:List aC}
set_option maxRecDepth 20000 in
theorem aeX {s r t B:Nat}{st:Bool}{mp:ak.Bs→Option Rep.dU}{k:ak.Bs} (hB:B≤268435000) (hk:k.length=32) (h:Sat w0 w (dG s r t st::bW t mp B::F)) :
  Calls Tryz.prog 34 #[ptr s,.agg (ay k).toArray] w (aI fun v w'=>v = .agg (aN ((mp k).getD ⟨0,0⟩)).toArray∧Sat w0 w' (dG s r t st::bW t mp B::F)):=by
 have dW:=uQ (show (ay k).length=32 by rw [aU,hk])
 have HT:=uQ (fun (w':World) (R:List aC) (hw:Sat w0 w' (bW t mp B::R))=>zH (k:=k) hB hk hw)
 obtain ⟨x,hx⟩:∃ x,(mp k).getD (⟨0,0⟩:Rep.dU)=x:=⟨_,rfl⟩
 obtain ⟨ok,hok⟩:∃ ok,(mp k).isSome=ok:=⟨_,rfl⟩
 rw [hx,hok]at HT
 rw [hx]
 clear hx hok hB hk
 go_enter Tryz.func34,Tryz.ntmps34
 go_wp2_with (with_reducible apply fH)
 refine ⟨fO h aj aj ?_⟩
 intro b3 w3 h3
 replace h3:Sat w0 w3 (pt b3 (.cells (ay k).toArray 30 (0,0))::dG s r t st::bW t mp B::F):=h3
 clear h
 go_wp2_with (with_reducible apply dY)
 refine ⟨dS nH h3 rfl ?_⟩
 intro b4 w4 h4
 clear h3
 have hok:=rO (h4.sb:Sat w0 w4 (dG s r t st::pt b4 (.cells (aN gJ).toArray 60 (0,0))::pt b3 (.cells (ay k).toArray 30 (0,0))::bW t mp B::F))
 go_wp2_with fail
 refine hok.mono ?_
 rintro ee w5 ⟨v,rfl,rfl,rfl⟩
 clear hok
 go_wp2_with fail
 have h9:=h4.drew
 have hG:World.cell? _ ⟨s,1,none⟩=some (ptr t)∧World.rangeAt _ b3 0 (ay k):=⟨h9.cellP dM 1 rfl,fun j v hj=>h9.cellP aP (0+j) (by simpa using hj)⟩
 clear h4
 refine dh [5,6,7,8,10,11] (fun w'=>w'.cell? ⟨s,1,none⟩=some (ptr t)∧w'.rangeAt b3 0 (ay k)) au ?_
 refine rP 0 ?_ (y:=aG)
 refine rP 1 ?_ (y:=dL)
 refine rP 2 ?_ (y:=cO)
 refine rt 3 (h:=?_)
 refine dK 4 aj au bC (gu (b:=b3) (o:=0) (ay k) ah Tryz.underlying30 rfl (by rw [dW.out];kernel_rfl) (fun w hw=>hw.2)) aQ gQ ?_
 clear hG
 refine rM 5 9 aj aj au (fun K hK=>?_) (fun K hK=>?_)
 focus
  (refine eU au aj aj ?_)
  refine (HT.out _ _ (h9.sb:Sat w0 _ (bW t mp B::pt b4 (.cells (aN gJ).toArray 60 (0,0))::pt b3 (.cells (ay k).toArray 30 (0,0))::dG s r t st::F))).mono ?_
  rintro ee w10 ⟨v,rfl,rfl,h10⟩
  refine hK _ _ (.inl rfl) ?_
  clear hK h9
  refine rP 6 ?_ (y:=aG)
  refine rP 7 ?_ (y:=(fC aj bT))
  refine rP 8 ?_ (y:=(fC aj bT))
  refine bG 9 aj au (fun K hK=>?_)
  refine kP (nH) h10 rfl ?_
  intro b8 fU h11
  refine hK _ _ (.inr (.inl ⟨h11.cellP ny 1 rfl,fun j v hj=>h11.cellP iy (0+j) (by simpa using hj)⟩)) ?_
  clear hK h10
 rotate_left
 focus
  refine kP (nH) h9 rfl ?_
  intro b8 w10 h10
  refine hK _ _ (.inr (.inl ⟨h10.cellP iy 1 rfl,fun j v hj=>h10.cellP dM (0+j) (by simpa using hj)⟩)) ?_
  clear hK h9
  refine bG 5 aj au (fun K hK=>?_)
  (refine eU au aj aj ?_)
  refine (HT.out _ _ (h10.sb:Sat w0 _ (bW t mp B::pt b8 (.cells (aN gJ).toArray 60 (0,0))::pt b4 (.cells (aN gJ).toArray 60 (0,0))::pt b3 (.cells (ay k).toArray 30 (0,0))::dG s r t st::F))).mono ?_
  rintro ee fU ⟨v,rfl,rfl,mZ⟩
  refine hK _ _ (.inl rfl) ?_
  clear hK h10
  have h11:Sat w0 fU (pt b8 (.cells (aN gJ).toArray 60 (0,0))::bW t mp B::pt b4 (.cells (aN gJ).toArray 60 (0,0))::pt b3 (.cells (ay k).toArray 30 (0,0))::dG s r t st::F):=mZ.sb
  clear mZ
  refine rP 6 ?_ (y:=aG)
  refine rP 7 ?_ (y:=(fC aj bT))
  refine rP 8 ?_ (y:=(fC aj bT))
 all_goals
  refine bG 10 aj au (fun K hK=>?_)
  refine jD (cs':=(aN x).toArray) h11 aj aj ah bJ bH au ah ?_
  intro w12 h12
  refine hK _ _ (.inl rfl) ?_
  clear hK h11
  refine rP 11 ?_ (y:=dN)
  refine cu au ?_
  go_wp2_with (first
   |((with_reducible refine bI ⟨?_⟩);refine fB (cs:=(aN x).toArray) h12 ah aH Tryz.underlying60 rfl au ?_)
   |(with_reducible apply bU))
  refine ⟨eH (aN x).toArray (h12.sb:Sat w0 w12 (pt b4 (.cells (aN gJ).toArray 60 (0,0))::dG s r t st::bW t mp B::F)) ah ah ah bJ au ah ?_⟩
  intro jH h13
  go_wp2_with fail
  refine ⟨rfl,_,uI rfl h13 ah aH Tryz.underlying60 rfl au,_,rfl,rfl,h13.drop⟩
end
end Go.Proofs.YtlimfgdbfadohaaGreatDoor
namespace Go.Lz
abbrev Bs:=List UInt8
def LH (b:Bs):Bs:=[0]++ak.le b.length 4++b
theorem agZ (b:Bs):(LH b).length=5+b.length:=by
 unfold LH
 rw [List.length_append,List.length_append,ak.gW];rfl
def ext (n:Nat):Bs:=List.replicate (n / 255) 255++[UInt8.ofNat (n%255)]
def tail4 (n:Nat):Bs:=if 15≤n then ext (n - 15) else []
def seqB (lit:Bs) (d n:Nat):Bs:=
 [UInt8.ofNat (min lit.length 15 * 16+min (n - 4) 15)]++tail4 lit.length++lit++(if n=0 then [] else ak.le d 2++tail4 (n - 4))
def kN (out:Bs) (d:Nat):Nat→Bs
 |0=>out
 |n+1=>kN (out++[out.getD (out.length - d) 0]) d n
abbrev Part:=Bs×Nat×Nat
def tell (acc:Bs):List Part→Bs
 |[]=>acc
 |p::ps=>tell (kN (acc++p.1) p.2.1 p.2.2) ps
theorem U4 (p:Part):∀ (ps:List Part) (acc:Bs),tell acc (ps++[p])=kN (tell acc ps++p.1) p.2.1 p.2.2
 |[],acc=>rfl
 |q::ps,acc=>U4 p ps _
structure Part.Ok (acc:Bs) (p:Part):Prop where
 d0:0<p.2.1
 d1:p.2.1≤65535
 d2:p.2.1≤(acc++p.1).length
 n4:4≤p.2.2
def common (b:Bs) (c i e:Nat):Nat→Nat→Nat
 |0,k=>k
 |f+1,k=>if i+k<e∧b.getD (c+k) 0=b.getD (i+k) 0 then common b c i e f (k+1) else k
theorem Ol (b:Bs) (c i e:Nat):∀ f k,k≤common b c i e f k
 |0,k=>Nat.le_refl k
 |f+1,k=>by
  unfold common
  split
  ·exact Nat.le_trans (Nat.le_succ k) (Ol b c i e f (k+1))
  ·exact Nat.le_refl k
theorem Oi (b:Bs) (c i e:Nat):∀ f k,i+k≤e→i+common b c i e f k≤e
 |0,k,h=>h
 |f+1,k,h=>by
  unfold common
  split
  ·rename_i h1;exact Oi b c i e f (k+1) oQ
  ·exact h
theorem Om (b:Bs) (c i e:Nat):∀ f k j,k≤j→j<common b c i e f k→b.getD (c+j) 0=b.getD (i+j) 0
 |0,k,j,h1,h2=>absurd h2 (by unfold common;omega)
 |f+1,k,j,h1,h2=>by
  unfold common at h2
  split at h2
  ·rename_i h
   rcases Nat.eq_or_lt_of_le h1 with rfl|h3
   ·exact h.2
   ·exact Om b c i e f (k+1) j h3 h2
  ·omega
theorem take_snoc {b:Bs}{i:Nat} (h:i<b.length):b.take (i+1)=b.take i++[b.getD i 0]:=by
 rw [List.take_add_one,List.getElem?_eq_getElem h,List.getD_eq_getElem?_getD,List.getElem?_eq_getElem h];rfl
theorem Oq {b:Bs}{c d:Nat} (hd:0<d):∀ (m i:Nat),c+d=i→i+m≤b.length→(∀ j,j<m→b.getD (c+j) 0=b.getD (i+j) 0)→kN (b.take i) d m=b.take (i+m)
 |0,i,_,_,_=>rfl
 |m+1,i,hi,hl,hs=>by
  have hil:(b.take i).length=i:=by rw [List.length_take];omega
  have h0:(b.take i).getD ((b.take i).length - d) 0=b.getD i 0:=by
   rw [hil,show i - d=c by omega,List.getD_eq_getElem?_getD,List.getElem?_take,if_pos oQ,← List.getD_eq_getElem?_getD]
   exact hs 0 oQ
  show kN (b.take i++[(b.take i).getD ((b.take i).length - d) 0]) d m=_
  rw [h0,← take_snoc oQ]
  have:=Oq (b:=b) (c:=c+1) hd m (i+1) oQ oQ (fun j hj=>by
   have:=hs (j+1) oQ
   rw [show c+1+j=c+(j+1) by omega,show i+1+j=i+(j+1) by omega];exact this)
  rw [this,show i+1+m=i+(m+1) by omega]
theorem Oj (b:Bs) (c i e q:Nat) (he:i+q≤e) (hs:∀ j,j<q→b.getD (c+j) 0=b.getD (i+j) 0):∀ f k,k≤q→q≤k+f→q≤common b c i e f k
 |0,k,h1,h2=>h2
 |f+1,k,h1,h2=>by
  unfold common
  rcases Nat.eq_or_lt_of_le h1 with rfl|h3
  ·split
   ·exact Nat.le_trans (Nat.le_succ k) (Ol b c i e f (k+1))
   ·exact Nat.le_refl k
  ·rw [if_pos ⟨by omega,hs k h3⟩]
   exact Oj b c i e q he hs f (k+1) h3 oQ
def rX (acc:Bs):List Part→Prop
 |[]=>True
 |p::ps=>Part.Ok acc p∧rX (kN (acc++p.1) p.2.1 p.2.2) ps
theorem rX.snoc {p:Part}:∀ {ps:List Part}{acc:Bs},rX acc ps→Part.Ok (tell acc ps) p→rX acc (ps++[p])
 |[],acc,_,h=>⟨h,trivial⟩
 |q::ps,acc,h,k=>⟨h.1,rX.snoc h.2 k⟩
def cut (b:Bs) (i j:Nat):Bs:=(b.take j).drop i
theorem U0 {b:Bs}{i j:Nat} (h:i≤j):b.take i++cut b i j=b.take j:=by
 unfold cut
 rw [show b.take i=(b.take j).take i by rw [List.take_take,Nat.min_eq_left h],List.take_append_drop]
def pW (b:Bs) (hs:Nat→Nat):Nat→(Nat→Nat)→Nat→Nat→List Part→List Part×Nat
 |0,T,told,i,ps=>(ps,told)
 |f+1,T,told,i,ps=>
  if i+12≤b.length then
   if T (hs i)=0∨65535<i - (T (hs i) - 1)∨cut b (T (hs i) - 1) (T (hs i) - 1+4)≠cut b i (i+4) then pW b hs f (fun x=>if x=hs i then i+1 else T x) told (i+1) ps
   else pW b hs f (fun x=>if x=hs i then i+1 else T x) (i+common b (T (hs i) - 1) i (b.length - 5) b.length 0) (i+common b (T (hs i) - 1) i (b.length - 5) b.length 0)
    (ps++[(cut b told i,i - (T (hs i) - 1),common b (T (hs i) - 1) i (b.length - 5) b.length 0)])
  else (ps,told)
theorem Oy {b:Bs}{i j q:Nat} (h:i+q<j) (hj:j≤b.length):(cut b i j).getD q 0=b.getD (i+q) 0:=by
 unfold cut
 rw [List.getD_eq_getElem?_getD,List.getElem?_drop,List.getElem?_take,if_pos h,← List.getD_eq_getElem?_getD]
structure Inv (b:Bs) (T:Nat→Nat) (told i:Nat) (ps:List Part):Prop where
 le:told≤i
 ib:i≤b.length
 T:∀ x,T x≤i
 tell:tell [] ps=b.take told
 ok:rX [] ps
theorem Inv.skip {b:Bs}{T:Nat→Nat}{told i:Nat}{ps:List Part} (h:Inv b T told i ps) (hi:i+12≤b.length) (x0:Nat):Inv b (fun x=>if x=x0 then i+1 else T x) told (i+1) ps:=
 ⟨Nat.le_succ_of_le h.le,by omega,fun x=>by
  show (if x=x0 then i+1 else T x)≤i+1
  split
  ·omega
  ·have:=h.T x;omega,h.tell,h.ok⟩
theorem Inv.part {b:Bs}{T:Nat→Nat}{told i:Nat}{ps:List Part} (h:Inv b T told i ps) (hi:i+12≤b.length) (x0:Nat){c:Nat} (hc:c<i) (hd:¬ 65535<i - c) (he:cut b c (c+4)=cut b i (i+4)) :
  Inv b (fun x=>if x=x0 then i+1 else T x) (i+common b c i (b.length - 5) b.length 0) (i+common b c i (b.length - 5) b.length 0) (ps++[(cut b told i,i - c,common b c i (b.length - 5) b.length 0)])∧4≤common b c i (b.length - 5) b.length 0∧i+common b c i (b.length - 5) b.length 0≤b.length - 5:=by
 have hs4:∀ j,j<4→b.getD (c+j) 0=b.getD (i+j) 0:=fun j hj=>by
  rw [← Oy (b:=b) (i:=c) (j:=c+4) oQ oQ,← Oy (b:=b) (i:=i) (j:=i+4) oQ oQ,he]
 have hm4:=Oj b c i (b.length - 5) 4 oQ hs4 b.length 0 oQ oQ
 have hme:=Oi b c i (b.length - 5) b.length 0 oQ
 have hms:=fun j=>Om b c i (b.length - 5) b.length 0 j (Nat.zero_le j)
 generalize common b c i (b.length - 5) b.length 0=m at *
 have hcp:=Oq (b:=b) (c:=c) (d:=i - c) oQ m i oQ oQ hms
 have hp:Part.Ok (Lz.tell [] ps) (cut b told i,i - c,m):=⟨by show 0<i - c;omega,by show i - c≤65535;omega,by
  show i - c≤(Lz.tell [] ps++cut b told i).length
  rw [h.tell,U0 h.le,List.length_take];omega,hm4⟩
 refine ⟨⟨Nat.le_refl _,by omega,fun x=>?_,?_,h.ok.snoc hp⟩,hm4,hme⟩
 ·show (if x=x0 then i+1 else T x)≤i+m
  split
  ·omega
  ·have:=h.T x;omega
 ·rw [U4,h.tell]
  show kN (b.take told++cut b told i) (i - c) m=_
  rw [U0 h.le,hcp]
theorem La (b:Bs) (hs:Nat→Nat):∀ f T told i ps,Inv b T told i ps→tell [] (pW b hs f T told i ps).1=b.take (pW b hs f T told i ps).2∧rX [] (pW b hs f T told i ps).1∧(pW b hs f T told i ps).2≤b.length
 |0,T,told,i,ps,h=>⟨h.tell,h.ok,Nat.le_trans h.le h.ib⟩
 |f+1,T,told,i,ps,h=>by
  unfold pW
  split
  ·rename_i hi
   split
   ·exact La b hs f _ told (i+1) ps (h.skip hi _)
   ·rename_i hc
    have h0:T (hs i)≠0:=fun e=>hc (.inl e)
    have hTi:=h.T (hs i)
    exact La b hs f _ _ _ _ (h.part hi _ oQ (fun e=>hc (.inr (.inl e))) (Decidable.byContradiction fun e=>hc (.inr (.inr e)))).1
  ·exact ⟨h.tell,h.ok,Nat.le_trans h.le h.ib⟩
def parts (b:Bs) (hs:Nat→Nat):List Part×Nat:=pW b hs (b.length+1) (fun _=>0) 0 0 []
def block (b:Bs) (hs:Nat→Nat):Bs:=((parts b hs).1.flatMap fun p=>seqB p.1 p.2.1 p.2.2)++seqB (b.drop (parts b hs).2) 0 0
theorem acQ (b:Bs) (hs:Nat→Nat):tell [] (parts b hs).1++b.drop (parts b hs).2=b∧rX [] (parts b hs).1∧(parts b hs).2≤b.length:=by
 obtain ⟨h1,h2,h3⟩:=La b hs (b.length+1) (fun _=>0) 0 0 [] ⟨Nat.le_refl _,Nat.zero_le _,fun _=>Nat.le_refl _,rfl,trivial⟩
 unfold parts
 exact ⟨by rw [h1,List.take_append_drop],h2,h3⟩
theorem agb (a m:Nat):(UInt8.ofNat (min a 15 * 16+min m 15)).toNat / 16=min a 15:=by
 rw [UInt8.toNat_ofNat'];omega
theorem agc (a m:Nat):(UInt8.ofNat (min a 15 * 16+min m 15)).toNat%16=min m 15:=by
 rw [UInt8.toNat_ofNat'];omega
theorem Zk {n:Nat} (h:n<255):ext n=[UInt8.ofNat n]:=by
 unfold ext
 rw [Nat.div_eq_of_lt h,Nat.mod_eq_of_lt h];rfl
theorem yL {n:Nat} (h:n<270):tail4 n=if 15≤n then [UInt8.ofNat (n - 15)] else []:=by
 unfold tail4
 by_cases h1:15≤n
 ·rw [if_pos h1,if_pos h1,Zk oQ]
 ·rw [if_neg h1,if_neg h1]
theorem Ad {n:Nat} (h:n<270):(tail4 n).length≤1:=by
 rw [yL h]
 split
 ·exact Nat.le_refl _
 ·exact Nat.zero_le _
def flat (ps:List Part):Bs:=ps.flatMap fun p=>seqB p.1 p.2.1 p.2.2
theorem Po (ps:List Part) (p:Part):flat (ps++[p])=flat ps++seqB p.1 p.2.1 p.2.2:=by
 unfold flat
 rw [List.flatMap_append,List.flatMap_cons,List.flatMap_nil,List.append_nil]
theorem ae7 {lit:Bs}{d n:Nat} (h1:lit.length<270) (h2:n<270):(seqB lit d n).length≤lit.length+5:=by
 have e1:=Ad h1
 have e2:=Ad (n:=n - 4) oQ
 unfold seqB
 by_cases h:n=0
 ·rw [if_pos h]
  simp only [List.length_append,List.length_singleton,List.length_nil];omega
 ·rw [if_neg h]
  simp only [List.length_append,List.length_singleton,ak.gW];omega
def hsh (b:Bs) (i:Nat):Nat:=ak.num ((b.drop i).take 4) * 2654435761%4294967296 / 1048576
theorem aaA (b:Bs) (i:Nat):hsh b i<4096:=by unfold hsh;omega
def blk (b:Bs):Bs:=block b (hsh b)
def iV (b:Bs):Bs:=if (blk b).length<b.length then [1]++ak.le b.length 4++blk b else LH b
theorem FW (b:Bs):(iV b).length≤5+b.length:=by
 unfold iV
 split
 ·simp only [List.length_append,List.length_singleton,ak.gW];omega
 ·rw [agZ];exact Nat.le_refl _
end Go.Lz
namespace Go.aA
abbrev Bs:=List UInt8
abbrev W:=4294967296
def rr (n x:Nat):Nat:=(x * 2^(32 - n)%W) ||| (x / 2^n)
def big (b:Bs):Nat:=b.foldl (fun x c=>x * 256+c.toNat) 0
def g0 (x:Nat):Nat:=rr 7 x ^^^ rr 18 x ^^^ (x / 8)
def g1 (x:Nat):Nat:=rr 17 x ^^^ rr 19 x ^^^ (x / 1024)
def first (b:Bs):List Nat:=(List.range' 0 16).map fun i=>big ((b.drop (4 * i)).take 4)
def at_ (l:List Nat) (i:Nat):Nat:=l.getD i 0
def next (l:List Nat):Nat:=(((at_ l (l.length - 16)+g0 (at_ l (l.length - 15)))%W+at_ l (l.length - 7))%W+g1 (at_ l (l.length - 2)))%W
def more:Nat→List Nat→List Nat
 |0,l=>l
 |n+1,l=>more n (l++[next l])
def sched (b:Bs):List Nat:=more 48 (first b)
structure St where
 a:Nat
 b:Nat
 c:Nat
 d:Nat
 e:Nat
 f:Nat
 g:Nat
 h:Nat
def St.l (s:St):List Nat:=[s.a,s.b,s.c,s.d,s.e,s.f,s.g,s.h]
def K:List Nat:=[1116352408,1899447441,3049323471,3921009573,961987163,1508970993,2453635748,2870763221,3624381080,310598401,607225278,1426881987,1925078388,2162078206,2614888103,3248222580,3835390401,4022224774,264347078,604807628,770255983,1249150122,1555081692,1996064986,2554220882,2821834349,2952996808,3210313671,3336571891,3584528711,113926993,338241895,666307205,773529912,1294757372,1396182291,1695183700,1986661051,2177026350,2456956037,2730485921,2820302411,3259730800,3345764771,3516065817,3600352804,4094571909,275423344,430227734,506948616,659060556,883997877,958139571,1322822218,1537002063,1747873779,1955562222,2024104815,2227730452,2361852424,2428436474,2756734187,3204031479,3329325298]
def t1 (s:St) (k w:Nat):Nat:=(((((s.h+(rr 6 s.e ^^^ rr 11 s.e ^^^ rr 25 s.e))%W+((s.e &&& s.f) ^^^ ((W - 1 - s.e) &&& s.g)))%W+k)%W)+w)%W
def t2 (s:St):Nat:=((rr 2 s.a ^^^ rr 13 s.a ^^^ rr 22 s.a)+((s.a &&& s.b) ^^^ (s.a &&& s.c) ^^^ (s.b &&& s.c)))%W
def round (s:St) (k w:Nat):St:=⟨(t1 s k w+t2 s)%W,s.a,s.b,s.c,(s.d+t1 s k w)%W,s.e,s.f,s.g⟩
def rounds (b:Bs) (s:St) (i:Nat):St:=(List.range' 0 i).foldl (fun s i=>round s (at_ K i) (at_ (sched b) i)) s
def add (s v:St):St:=⟨(s.a+v.a)%W,(s.b+v.b)%W,(s.c+v.c)%W,(s.d+v.d)%W,(s.e+v.e)%W,(s.f+v.f)%W,(s.g+v.g)%W,(s.h+v.h)%W⟩
def take (s:St) (b:Bs):St:=add s (rounds b s 64)
def begin:St:=⟨1779033703,3144134277,1013904242,2773480762,1359893119,2600822924,528734635,1541459225⟩
def blocks:Nat→St→Bs→St×Bs
 |0,s,b=>(s,b)
 |n+1,s,b=>if b.length<64 then (s,b) else blocks n (take s (b.take 64)) (b.drop 64)
def fE (x n:Nat):Bs:=(ak.le x n).reverse
def pad (r:Bs):Bs:=r++[128]++List.replicate ((119 - r.length%64)%64) 0
def sum (b:Bs):Bs:=
 let p:=blocks (b.length / 64) begin b
 let t:=pad p.2++fE (8 * b.length) 8
 ((blocks (t.length / 64) p.1 t).1.l).flatMap fun w=>fE w 4
theorem SN {x y:Nat} (hx:x<4294967296) (hy:y<4294967296):x ||| y<4294967296:=Nat.or_lt_two_pow (n:=32) hx hy
theorem nD {x y:Nat} (hx:x<4294967296) (hy:y<4294967296):x ^^^ y<4294967296:=Nat.xor_lt_two_pow (n:=32) hx hy
theorem oP {x y:Nat} (hx:x<4294967296):x &&& y<4294967296:=Nat.lt_of_le_of_lt Nat.and_le_left hx
theorem nO (n:Nat){x:Nat} (hx:x<4294967296):rr n x<4294967296:=SN (Nat.mod_lt _ aJ) (Nat.lt_of_le_of_lt (Nat.div_le_self _ _) hx)
end Go.aA
namespace Go.Proofs.YtlimfgdbfadohaaGreatDoor
open Go Go.Sl Go.aB Go.MapKept Go.RowKit
section
variable {w0 w:World}{F:List aC}
theorem agm (x:Nat) (hx:x<4294967296) (h:Sat w0 w F):Calls Tryz.prog 173 #[.int .u32 x,.int .i64 (-2)] w (aI fun v w'=>v = .int .u32 (aA.rr 2 x:Nat)∧Sat w0 w' F):=by
 have hf:=uQ (show aA.rr 2 x=(x * 1073741824%4294967296) ||| (x / 4) from rfl)
 have e1:IntKind.u32.wrap ((x:Int) * 1073741824)=((x * 1073741824%4294967296:Nat):Int):=by rw [IntKind.wrap_u32];omega
 have e2:(x:Int) / 4=((x / 4:Nat):Int):=rfl
 have ha:x * 1073741824%4294967296<4294967296:=Nat.mod_lt _ aJ
 have hb:x / 4<4294967296:=Nat.lt_of_le_of_lt (Nat.div_le_self _ _) hx
 generalize x * 1073741824%4294967296=a at *
 generalize x / 4=b at *
 have e3:=u32_or_nat a b ha hb
 have hS:=h.drew
 have e0:bits .and .i64 (-2:Int) 31=30:=by decide
 have tZ:wrap64 (32 - 30:Int)=2:=by rw [IntWalk.wrap64_in _ aJ];rfl
 clear ha hb h
 go_enter Tryz.func173,Tryz.ntmps173
 go_wp2_with fail
 go_region
 go_wp2
 go_ret
 exact ⟨_,rfl,by rw [hf.out];rfl,hS⟩
theorem adJ (x:Nat) (hx:x<4294967296) (h:Sat w0 w F):Calls Tryz.prog 132 #[.int .u32 x,.int .i64 2] w (aI fun v w'=>v = .int .u32 (aA.rr 2 x:Nat)∧Sat w0 w' F):=by
 have e0:IntKind.i64.wrap (-(2:Int)) = -2:=by decide
 have ht:=agm x hx h
 go_enter Tryz.func132,Tryz.ntmps132
 go_wp2_with fail
 refine ht.mono ?_
 rintro ee w1 ⟨v,rfl,rfl,h1⟩
 clear ht
 go_wp2_with fail
 go_ret
 exact ⟨_,rfl,rfl,h1⟩
theorem agn (x:Nat) (hx:x<4294967296) (h:Sat w0 w F):Calls Tryz.prog 173 #[.int .u32 x,.int .i64 (-6)] w (aI fun v w'=>v = .int .u32 (aA.rr 6 x:Nat)∧Sat w0 w' F):=by
 have hf:=uQ (show aA.rr 6 x=(x * 67108864%4294967296) ||| (x / 64) from rfl)
 have e1:IntKind.u32.wrap ((x:Int) * 67108864)=((x * 67108864%4294967296:Nat):Int):=by rw [IntKind.wrap_u32];omega
 have e2:(x:Int) / 64=((x / 64:Nat):Int):=rfl
 have ha:x * 67108864%4294967296<4294967296:=Nat.mod_lt _ aJ
 have hb:x / 64<4294967296:=Nat.lt_of_le_of_lt (Nat.div_le_self _ _) hx
 generalize x * 67108864%4294967296=a at *
 generalize x / 64=b at *
 have e3:=u32_or_nat a b ha hb
 have hS:=h.drew
 have e0:bits .and .i64 (-6:Int) 31=26:=by decide
 have tZ:wrap64 (32 - 26:Int)=6:=by rw [IntWalk.wrap64_in _ aJ];rfl
 clear ha hb h
 go_enter Tryz.func173,Tryz.ntmps173
 go_wp2_with fail
 go_region
 go_wp2
 go_ret
 exact ⟨_,rfl,by rw [hf.out];rfl,hS⟩
theorem adK (x:Nat) (hx:x<4294967296) (h:Sat w0 w F):Calls Tryz.prog 132 #[.int .u32 x,.int .i64 6] w (aI fun v w'=>v = .int .u32 (aA.rr 6 x:Nat)∧Sat w0 w' F):=by
 have e0:IntKind.i64.wrap (-(6:Int)) = -6:=by decide
 have ht:=agn x hx h
 go_enter Tryz.func132,Tryz.ntmps132
 go_wp2_with fail
 refine ht.mono ?_
 rintro ee w1 ⟨v,rfl,rfl,h1⟩
 clear ht
 go_wp2_with fail
 go_ret
 exact ⟨_,rfl,rfl,h1⟩
theorem agp (x:Nat) (hx:x<4294967296) (h:Sat w0 w F):Calls Tryz.prog 173 #[.int .u32 x,.int .i64 (-7)] w (aI fun v w'=>v = .int .u32 (aA.rr 7 x:Nat)∧Sat w0 w' F):=by
 have hf:=uQ (show aA.rr 7 x=(x * 33554432%4294967296) ||| (x / 128) from rfl)
 have e1:IntKind.u32.wrap ((x:Int) * 33554432)=((x * 33554432%4294967296:Nat):Int):=by rw [IntKind.wrap_u32];omega
 have e2:(x:Int) / 128=((x / 128:Nat):Int):=rfl
 have ha:x * 33554432%4294967296<4294967296:=Nat.mod_lt _ aJ
 have hb:x / 128<4294967296:=Nat.lt_of_le_of_lt (Nat.div_le_self _ _) hx
 generalize x * 33554432%4294967296=a at *
 generalize x / 128=b at *
 have e3:=u32_or_nat a b ha hb
 have hS:=h.drew
 have e0:bits .and .i64 (-7:Int) 31=25:=by decide
 have tZ:wrap64 (32 - 25:Int)=7:=by rw [IntWalk.wrap64_in _ aJ];rfl
 clear ha hb h
 go_enter Tryz.func173,Tryz.ntmps173
 go_wp2_with fail
 go_region
 go_wp2
 go_ret
 exact ⟨_,rfl,by rw [hf.out];rfl,hS⟩
theorem adL (x:Nat) (hx:x<4294967296) (h:Sat w0 w F):Calls Tryz.prog 132 #[.int .u32 x,.int .i64 7] w (aI fun v w'=>v = .int .u32 (aA.rr 7 x:Nat)∧Sat w0 w' F):=by
 have e0:IntKind.i64.wrap (-(7:Int)) = -7:=by decide
 have ht:=agp x hx h
 go_enter Tryz.func132,Tryz.ntmps132
 go_wp2_with fail
 refine ht.mono ?_
 rintro ee w1 ⟨v,rfl,rfl,h1⟩
 clear ht
 go_wp2_with fail
 go_ret
 exact ⟨_,rfl,rfl,h1⟩
theorem agd (x:Nat) (hx:x<4294967296) (h:Sat w0 w F):Calls Tryz.prog 173 #[.int .u32 x,.int .i64 (-11)] w (aI fun v w'=>v = .int .u32 (aA.rr 11 x:Nat)∧Sat w0 w' F):=by
 have hf:=uQ (show aA.rr 11 x=(x * 2097152%4294967296) ||| (x / 2048) from rfl)
 have e1:IntKind.u32.wrap ((x:Int) * 2097152)=((x * 2097152%4294967296:Nat):Int):=by rw [IntKind.wrap_u32];omega
 have e2:(x:Int) / 2048=((x / 2048:Nat):Int):=rfl
 have ha:x * 2097152%4294967296<4294967296:=Nat.mod_lt _ aJ
 have hb:x / 2048<4294967296:=Nat.lt_of_le_of_lt (Nat.div_le_self _ _) hx
 generalize x * 2097152%4294967296=a at *
 generalize x / 2048=b at *
 have e3:=u32_or_nat a b ha hb
 have hS:=h.drew
 have e0:bits .and .i64 (-11:Int) 31=21:=by decide
 have tZ:wrap64 (32 - 21:Int)=11:=by rw [IntWalk.wrap64_in _ aJ];rfl
 clear ha hb h
 go_enter Tryz.func173,Tryz.ntmps173
 go_wp2_with fail
 go_region
 go_wp2
 go_ret
 exact ⟨_,rfl,by rw [hf.out];rfl,hS⟩
theorem adC (x:Nat) (hx:x<4294967296) (h:Sat w0 w F):Calls Tryz.prog 132 #[.int .u32 x,.int .i64 11] w (aI fun v w'=>v = .int .u32 (aA.rr 11 x:Nat)∧Sat w0 w' F):=by
 have e0:IntKind.i64.wrap (-(11:Int)) = -11:=by decide
 have ht:=agd x hx h
 go_enter Tryz.func132,Tryz.ntmps132
 go_wp2_with fail
 refine ht.mono ?_
 rintro ee w1 ⟨v,rfl,rfl,h1⟩
 clear ht
 go_wp2_with fail
 go_ret
 exact ⟨_,rfl,rfl,h1⟩
theorem agf (x:Nat) (hx:x<4294967296) (h:Sat w0 w F):Calls Tryz.prog 173 #[.int .u32 x,.int .i64 (-13)] w (aI fun v w'=>v = .int .u32 (aA.rr 13 x:Nat)∧Sat w0 w' F):=by
 have hf:=uQ (show aA.rr 13 x=(x * 524288%4294967296) ||| (x / 8192) from rfl)
 have e1:IntKind.u32.wrap ((x:Int) * 524288)=((x * 524288%4294967296:Nat):Int):=by rw [IntKind.wrap_u32];omega
 have e2:(x:Int) / 8192=((x / 8192:Nat):Int):=rfl
 have ha:x * 524288%4294967296<4294967296:=Nat.mod_lt _ aJ
 have hb:x / 8192<4294967296:=Nat.lt_of_le_of_lt (Nat.div_le_self _ _) hx
 generalize x * 524288%4294967296=a at *
 generalize x / 8192=b at *
 have e3:=u32_or_nat a b ha hb
 have hS:=h.drew
 have e0:bits .and .i64 (-13:Int) 31=19:=by decide
 have tZ:wrap64 (32 - 19:Int)=13:=by rw [IntWalk.wrap64_in _ aJ];rfl
 clear ha hb h
 go_enter Tryz.func173,Tryz.ntmps173
 go_wp2_with fail
 go_region
 go_wp2
 go_ret
 exact ⟨_,rfl,by rw [hf.out];rfl,hS⟩
theorem adD (x:Nat) (hx:x<4294967296) (h:Sat w0 w F):Calls Tryz.prog 132 #[.int .u32 x,.int .i64 13] w (aI fun v w'=>v = .int .u32 (aA.rr 13 x:Nat)∧Sat w0 w' F):=by
 have e0:IntKind.i64.wrap (-(13:Int)) = -13:=by decide
 have ht:=agf x hx h
 go_enter Tryz.func132,Tryz.ntmps132
 go_wp2_with fail
 refine ht.mono ?_
 rintro ee w1 ⟨v,rfl,rfl,h1⟩
 clear ht
 go_wp2_with fail
 go_ret
 exact ⟨_,rfl,rfl,h1⟩
theorem agh (x:Nat) (hx:x<4294967296) (h:Sat w0 w F):Calls Tryz.prog 173 #[.int .u32 x,.int .i64 (-17)] w (aI fun v w'=>v = .int .u32 (aA.rr 17 x:Nat)∧Sat w0 w' F):=by
 have hf:=uQ (show aA.rr 17 x=(x * 32768%4294967296) ||| (x / 131072) from rfl)
 have e1:IntKind.u32.wrap ((x:Int) * 32768)=((x * 32768%4294967296:Nat):Int):=by rw [IntKind.wrap_u32];omega
 have e2:(x:Int) / 131072=((x / 131072:Nat):Int):=rfl
 have ha:x * 32768%4294967296<4294967296:=Nat.mod_lt _ aJ
 have hb:x / 131072<4294967296:=Nat.lt_of_le_of_lt (Nat.div_le_self _ _) hx
 generalize x * 32768%4294967296=a at *
 generalize x / 131072=b at *
 have e3:=u32_or_nat a b ha hb
 have hS:=h.drew
 have e0:bits .and .i64 (-17:Int) 31=15:=by decide
 have tZ:wrap64 (32 - 15:Int)=17:=by rw [IntWalk.wrap64_in _ aJ];rfl
 clear ha hb h
 go_enter Tryz.func173,Tryz.ntmps173
 go_wp2_with fail
 go_region
 go_wp2
 go_ret
 exact ⟨_,rfl,by rw [hf.out];rfl,hS⟩
theorem adE (x:Nat) (hx:x<4294967296) (h:Sat w0 w F):Calls Tryz.prog 132 #[.int .u32 x,.int .i64 17] w (aI fun v w'=>v = .int .u32 (aA.rr 17 x:Nat)∧Sat w0 w' F):=by
 have e0:IntKind.i64.wrap (-(17:Int)) = -17:=by decide
 have ht:=agh x hx h
 go_enter Tryz.func132,Tryz.ntmps132
 go_wp2_with fail
 refine ht.mono ?_
 rintro ee w1 ⟨v,rfl,rfl,h1⟩
 clear ht
 go_wp2_with fail
 go_ret
 exact ⟨_,rfl,rfl,h1⟩
theorem agi (x:Nat) (hx:x<4294967296) (h:Sat w0 w F):Calls Tryz.prog 173 #[.int .u32 x,.int .i64 (-18)] w (aI fun v w'=>v = .int .u32 (aA.rr 18 x:Nat)∧Sat w0 w' F):=by
 have hf:=uQ (show aA.rr 18 x=(x * 16384%4294967296) ||| (x / 262144) from rfl)
 have e1:IntKind.u32.wrap ((x:Int) * 16384)=((x * 16384%4294967296:Nat):Int):=by rw [IntKind.wrap_u32];omega
 have e2:(x:Int) / 262144=((x / 262144:Nat):Int):=rfl
 have ha:x * 16384%4294967296<4294967296:=Nat.mod_lt _ aJ
 have hb:x / 262144<4294967296:=Nat.lt_of_le_of_lt (Nat.div_le_self _ _) hx
 generalize x * 16384%4294967296=a at *
 generalize x / 262144=b at *
 have e3:=u32_or_nat a b ha hb
 have hS:=h.drew
 have e0:bits .and .i64 (-18:Int) 31=14:=by decide
 have tZ:wrap64 (32 - 14:Int)=18:=by rw [IntWalk.wrap64_in _ aJ];rfl
 clear ha hb h
 go_enter Tryz.func173,Tryz.ntmps173
 go_wp2_with fail
 go_region
 go_wp2
 go_ret
 exact ⟨_,rfl,by rw [hf.out];rfl,hS⟩
theorem adF (x:Nat) (hx:x<4294967296) (h:Sat w0 w F):Calls Tryz.prog 132 #[.int .u32 x,.int .i64 18] w (aI fun v w'=>v = .int .u32 (aA.rr 18 x:Nat)∧Sat w0 w' F):=by
 have e0:IntKind.i64.wrap (-(18:Int)) = -18:=by decide
 have ht:=agi x hx h
 go_enter Tryz.func132,Tryz.ntmps132
 go_wp2_with fail
 refine ht.mono ?_
 rintro ee w1 ⟨v,rfl,rfl,h1⟩
 clear ht
 go_wp2_with fail
 go_ret
 exact ⟨_,rfl,rfl,h1⟩
theorem agj (x:Nat) (hx:x<4294967296) (h:Sat w0 w F):Calls Tryz.prog 173 #[.int .u32 x,.int .i64 (-19)] w (aI fun v w'=>v = .int .u32 (aA.rr 19 x:Nat)∧Sat w0 w' F):=by
 have hf:=uQ (show aA.rr 19 x=(x * 8192%4294967296) ||| (x / 524288) from rfl)
 have e1:IntKind.u32.wrap ((x:Int) * 8192)=((x * 8192%4294967296:Nat):Int):=by rw [IntKind.wrap_u32];omega
 have e2:(x:Int) / 524288=((x / 524288:Nat):Int):=rfl
 have ha:x * 8192%4294967296<4294967296:=Nat.mod_lt _ aJ
 have hb:x / 524288<4294967296:=Nat.lt_of_le_of_lt (Nat.div_le_self _ _) hx
 generalize x * 8192%4294967296=a at *
 generalize x / 524288=b at *
 have e3:=u32_or_nat a b ha hb
 have hS:=h.drew
 have e0:bits .and .i64 (-19:Int) 31=13:=by decide
 have tZ:wrap64 (32 - 13:Int)=19:=by rw [IntWalk.wrap64_in _ aJ];rfl
 clear ha hb h
 go_enter Tryz.func173,Tryz.ntmps173
 go_wp2_with fail
 go_region
 go_wp2
 go_ret
 exact ⟨_,rfl,by rw [hf.out];rfl,hS⟩
theorem adG (x:Nat) (hx:x<4294967296) (h:Sat w0 w F):Calls Tryz.prog 132 #[.int .u32 x,.int .i64 19] w (aI fun v w'=>v = .int .u32 (aA.rr 19 x:Nat)∧Sat w0 w' F):=by
 have e0:IntKind.i64.wrap (-(19:Int)) = -19:=by decide
 have ht:=agj x hx h
 go_enter Tryz.func132,Tryz.ntmps132
 go_wp2_with fail
 refine ht.mono ?_
 rintro ee w1 ⟨v,rfl,rfl,h1⟩
 clear ht
 go_wp2_with fail
 go_ret
 exact ⟨_,rfl,rfl,h1⟩
theorem agk (x:Nat) (hx:x<4294967296) (h:Sat w0 w F):Calls Tryz.prog 173 #[.int .u32 x,.int .i64 (-22)] w (aI fun v w'=>v = .int .u32 (aA.rr 22 x:Nat)∧Sat w0 w' F):=by
 have hf:=uQ (show aA.rr 22 x=(x * 1024%4294967296) ||| (x / 4194304) from rfl)
 have e1:IntKind.u32.wrap ((x:Int) * 1024)=((x * 1024%4294967296:Nat):Int):=by rw [IntKind.wrap_u32];omega
 have e2:(x:Int) / 4194304=((x / 4194304:Nat):Int):=rfl
 have ha:x * 1024%4294967296<4294967296:=Nat.mod_lt _ aJ
 have hb:x / 4194304<4294967296:=Nat.lt_of_le_of_lt (Nat.div_le_self _ _) hx
 generalize x * 1024%4294967296=a at *
 generalize x / 4194304=b at *
 have e3:=u32_or_nat a b ha hb
 have hS:=h.drew
 have e0:bits .and .i64 (-22:Int) 31=10:=by decide
 have tZ:wrap64 (32 - 10:Int)=22:=by rw [IntWalk.wrap64_in _ aJ];rfl
 clear ha hb h
 go_enter Tryz.func173,Tryz.ntmps173
 go_wp2_with fail
 go_region
 go_wp2
 go_ret
 exact ⟨_,rfl,by rw [hf.out];rfl,hS⟩
theorem adH (x:Nat) (hx:x<4294967296) (h:Sat w0 w F):Calls Tryz.prog 132 #[.int .u32 x,.int .i64 22] w (aI fun v w'=>v = .int .u32 (aA.rr 22 x:Nat)∧Sat w0 w' F):=by
 have e0:IntKind.i64.wrap (-(22:Int)) = -22:=by decide
 have ht:=agk x hx h
 go_enter Tryz.func132,Tryz.ntmps132
 go_wp2_with fail
 refine ht.mono ?_
 rintro ee w1 ⟨v,rfl,rfl,h1⟩
 clear ht
 go_wp2_with fail
 go_ret
 exact ⟨_,rfl,rfl,h1⟩
theorem agl (x:Nat) (hx:x<4294967296) (h:Sat w0 w F):Calls Tryz.prog 173 #[.int .u32 x,.int .i64 (-25)] w (aI fun v w'=>v = .int .u32 (aA.rr 25 x:Nat)∧Sat w0 w' F):=by
 have hf:=uQ (show aA.rr 25 x=(x * 128%4294967296) ||| (x / 33554432) from rfl)
 have e1:IntKind.u32.wrap ((x:Int) * 128)=((x * 128%4294967296:Nat):Int):=by rw [IntKind.wrap_u32];omega
 have e2:(x:Int) / 33554432=((x / 33554432:Nat):Int):=rfl
 have ha:x * 128%4294967296<4294967296:=Nat.mod_lt _ aJ
 have hb:x / 33554432<4294967296:=Nat.lt_of_le_of_lt (Nat.div_le_self _ _) hx
 generalize x * 128%4294967296=a at *
 generalize x / 33554432=b at *
 have e3:=u32_or_nat a b ha hb
 have hS:=h.drew
 have e0:bits .and .i64 (-25:Int) 31=7:=by decide
 have tZ:wrap64 (32 - 7:Int)=25:=by rw [IntWalk.wrap64_in _ aJ];rfl
 clear ha hb h
 go_enter Tryz.func173,Tryz.ntmps173
 go_wp2_with fail
 go_region
 go_wp2
 go_ret
 exact ⟨_,rfl,by rw [hf.out];rfl,hS⟩
theorem adI (x:Nat) (hx:x<4294967296) (h:Sat w0 w F):Calls Tryz.prog 132 #[.int .u32 x,.int .i64 25] w (aI fun v w'=>v = .int .u32 (aA.rr 25 x:Nat)∧Sat w0 w' F):=by
 have e0:IntKind.i64.wrap (-(25:Int)) = -25:=by decide
 have ht:=agl x hx h
 go_enter Tryz.func132,Tryz.ntmps132
 go_wp2_with fail
 refine ht.mono ?_
 rintro ee w1 ⟨v,rfl,rfl,h1⟩
 clear ht
 go_wp2_with fail
 go_ret
 exact ⟨_,rfl,rfl,h1⟩
end
end Go.Proofs.YtlimfgdbfadohaaGreatDoor
namespace Go.aA
theorem D5:∀ (b:Bs),big b<256^b.length:=by
 have h:∀ (b:Bs) (x:Nat),b.foldl (fun x c=>x * 256+c.toNat) x<(x+1) * 256^b.length:=by
  intro b
  induction b with
  |nil=>intro x;simp
  |cons c b ih=>
   intro x
   have h1:=ih (x * 256+c.toNat)
   have h2:=c.toNat_lt
   rw [List.foldl_cons,List.length_cons,Nat.pow_succ,Nat.mul_comm (256^b.length),← Nat.mul_assoc]
   refine Nat.lt_of_lt_of_le h1 (Nat.mul_le_mul_right _ ?_)
   omega
 intro b
 have:=h b 0
 rwa [Nat.zero_add,Nat.one_mul]at this
theorem NS (b:Bs) (c:UInt8):big (b++[c])=big b * 256+c.toNat:=by unfold big;rw [List.foldl_append];rfl
theorem EM:∀ (n:Nat) (l:List Nat),more (n+1) l=more n l++[next (more n l)]
 |0,l=>rfl
 |n+1,l=>by
  have:=EM n (l++[next l])
  rw [more,this];rfl
theorem xY (b:Bs):(first b).length=16:=by unfold first;rw [List.length_map,List.length_range']
theorem EL:∀ (n:Nat) (l:List Nat),(more n l).length=l.length+n
 |0,l=>rfl
 |n+1,l=>by rw [EM,List.length_append,EL n l];rfl
theorem zY (b:Bs):(sched b).length=64:=by unfold sched;rw [EL,xY]
def uS (l:List Nat):Prop:=∀ x∈l,x<4294967296
theorem qx {l:List Nat} (h:uS l) (i:Nat):at_ l i<4294967296:=by
 unfold at_
 rw [List.getD_eq_getElem?_getD]
 cases hi:l[i]? with
 |none=>decide
 |some x=>exact h x (List.mem_of_getElem? hi)
theorem En (b:Bs):uS (first b):=fun x hx=>by
 unfold first at hx
 obtain ⟨i,_,rfl⟩:=List.mem_map.1 hx
 have h1:=D5 ((b.drop (4 * i)).take 4)
 have h2:((b.drop (4 * i)).take 4).length≤4:=by rw [List.length_take];omega
 exact Nat.lt_of_lt_of_le h1 (Nat.pow_le_pow_right aJ h2)
theorem EK:∀ (n:Nat) (l:List Nat),uS l→uS (more n l)
 |0,l,h=>h
 |n+1,l,h=>EK n _ fun x hx=>by
  rcases List.mem_append.1 hx with hx|hx
  ·exact h x hx
  ·rw [List.mem_singleton.1 hx];exact Nat.mod_lt _ aJ
theorem aeV (b:Bs):uS (sched b):=EK _ _ (En b)
theorem ZH {x:Nat} (h:x<4294967296):g0 x<4294967296:=nD (nD (nO 7 h) (nO 18 h)) (Nat.lt_of_le_of_lt (Nat.div_le_self _ _) h)
theorem ZI {x:Nat} (h:x<4294967296):g1 x<4294967296:=nD (nD (nO 17 h) (nO 19 h)) (Nat.lt_of_le_of_lt (Nat.div_le_self _ _) h)
end Go.aA
namespace Go.Proofs.YtlimfgdbfadohaaGreatDoor
open Go Go.Sl Go.aB Go.MapKept Go.RowKit
section
variable {w0 w:World}{F:List aC}{a:Option Addr}{n c k:Nat}{b:Bs}
theorem CY {l h:Nat} (h1:l≤h) (h2:h≤c) (w:World):(Instr.sliceAt 27 (.slice a n c) (some (.int .i64 l)) (some (.int .i64 h)) none).run Tryz.prog w = .ok (sliced a l h c 1) w:=by
 rw [run_sliceAt_slice _ _ _ _ _ _ wX,run_slice_lh _ _ _ _ _ wX .i64 .i64 (l:Int) (h:Int) oQ oQ oQ,Bg,Fz]
 simp [Result.andThen]
theorem RS.mid {l h:Nat} (hr:RS w0 F (.slice a b.length c) b) (h1:l≤h) (h2:h≤b.length):RS w0 F (sliced a l h c 1) ((b.drop l).take (h - l)):=by
 obtain ⟨a',n',c',he,q1,q2⟩:=hr.cap
 cases he
 refine ⟨fun w hw=>?_,⟨_,_,_,rfl,by omega,by omega⟩⟩
 refine ⟨_,_,_,rfl,by rw [aU,List.length_take,List.length_drop,Nat.mul_one];omega,fun j y hj=>?_⟩
 obtain ⟨u,hu,rfl⟩:=nX.1 hj
 rw [List.getElem?_take]at hu
 split at hu
 ·rename_i hjk
  rw [List.getElem?_drop]at hu
  obtain ⟨bk,off,rfl,hc⟩:=iU (hr.rd w hw) (nX.2 ⟨u,hu,rfl⟩)
  rw [if_neg oQ]
  refine ⟨_,rfl,?_⟩
  have:=hc (l+j) _ (nX.2 ⟨u,hu,rfl⟩)
  show w.cell? (((⟨bk,off,none⟩:Addr).add (l * 1)).add j)=_
  rw [Addr.add_mid,Addr.add_mid,Nat.mul_one,Nat.add_assoc];exact this
 ·cases hu
def w32 (l:List Nat):List Value:=l.map fun x:Nat=>Value.int .u32 (x:Int)
theorem Dl (l:List Nat):(w32 l).length=l.length:=List.length_map ..
def jk (l:List Nat):Array Value:=(w32 l++List.replicate (64 - l.length) (Value.int .u32 0)).toArray
theorem vM {l:List Nat} (h:l.length≤64):(jk l).size=64:=by unfold jk;rw [List.size_toArray,List.length_append,Dl,List.length_replicate];omega
theorem AV {l:List Nat}{i:Nat} (h:i<l.length):(jk l)[i]?=some (.int .u32 (aA.at_ l i:Nat)):=by
 unfold jk w32 aA.at_
 rw [List.getElem?_toArray,List.getElem?_append_left (by rw [List.length_map];exact h),List.getElem?_map,List.getD_eq_getElem?_getD,List.getElem?_eq_getElem h]
 rfl
theorem XT {l:List Nat}{x:Nat} (h:l.length<64):eG (jk l) l.length [.int .u32 (x:Int)]=jk (l++[x]):=by
 have hs:=vM (Nat.le_of_lt h)
 apply rH
 rw [lW _ _ _ (by rw [hs,List.length_singleton];omega)]
 unfold jk w32
 dsimp only
 rw [List.take_left' (by rw [List.length_map]),List.map_append,List.drop_append,List.drop_of_length_le (by rw [List.length_map];simp),List.nil_append,List.length_map,List.length_append,List.length_singleton,List.drop_replicate]
 simp only [List.map_cons,List.map_nil,List.length_singleton,List.append_assoc]
 congr 3
 omega
theorem Nw {l:List Nat}{x m:Nat} (hm:l.length=m) (h:m<64):eG (jk l) m [.int .u32 (x:Int)]=jk (l++[x]):=by subst hm;exact XT h
theorem Nv (l:List Nat):(jk l).toList.all (·.oneCell')=true:=by
 unfold jk w32
 rw [List.toList_toArray,List.all_append,List.all_map,Bool.and_eq_true]
 refine ⟨List.all_eq_true.2 fun _ _=>rfl,List.all_eq_true.2 fun x hx=>?_⟩
 rw [List.eq_of_mem_replicate hx];rfl
theorem F6:iH Tryz.prog 129=some (.agg (jk [])):=by kernel_rfl
theorem Cb:(Tryz.prog.info? 129).map (·.size)=some 64:=by kernel_rfl
theorem acJ (x cb:Nat) (h:cb<256) (hx:x<16777216):bits .or .u64 ((x * 256:Nat):Int) (cb:Int)=((x * 256+cb:Nat):Int):=by
 rw [u64_or_nat _ _ oQ oQ]
 have:=Nat.two_pow_add_eq_or_of_lt (i:=8) (b:=cb) h x
 rw [Nat.mul_comm]at this
 rw [show (256:Nat)=2^8 from rfl,← this]
theorem ZQ (l:Bs) (hl:l.length=4) (hr:RS w0 F (.slice a 4 c) l) (h:Sat w0 w F) :
  Calls Tryz.prog 172 #[.slice a 4 c] w (aI fun v w'=>v = .tuple #[.int .u64 (aA.big l:Nat),.bool true]∧w=w'):=by
 have Hr:=uQ (hr.rd w h);have Hl:=uQ hl
 clear hr hl
 go_enter Tryz.func172,Tryz.ntmps172
 go_wp2_with fail
 go_loopg [4,17] 4 (fun g xv iq wr=>∃ i:Nat,g=4 - i∧i≤4∧xv = .int .u64 (aA.big (l.take i):Nat)∧iq = .int .i64 i∧wr=w)
 case atStart=>exact ⟨0,rfl,Nat.zero_le _,rfl,rfl,rfl⟩
 case round=>
  obtain ⟨i,rfl,hi,rfl,rfl,rfl⟩:=hrel
  by_cases hil:i<4
  rotate_left
  focus
   obtain rfl:i=4:=by omega
   have e:l.take 4=l:=List.take_of_length_le (by rw [Hl.out];exact Nat.le_refl 4)
   rw [e]
   go_wp2_with fail
   go_ret2
   exact ⟨_,rfl,rfl,rfl⟩
  have hll:i<l.length:=by rw [Hl.out];exact hil
  have hb:(ay l)[i]?=some (.int .u8 (l[i]'hll).toNat):=by unfold ay;simp [hll]
  obtain ⟨bk,off,rfl,c1⟩:=zQ Hr.out hb
  have Hn:=uQ (show aA.big (l.take (i+1))=aA.big (l.take i) * 256+(l[i]'hll).toNat by rw [List.take_succ_eq_append_getElem hll,aA.NS])
  have hcb:=(l[i]'hll).toNat_lt
  have hx:aA.big (l.take i)<16777216:=by
   have h1:=aA.D5 (l.take i)
   have h2:(l.take i).length≤3:=by rw [List.length_take];omega
   exact Nat.lt_of_lt_of_le h1 (Nat.pow_le_pow_right aJ h2)
  generalize (l[i]'hll).toNat=cb at *
  generalize aA.big (l.take i)=x at *
  obtain ⟨y,hy⟩:∃ y,x * 256=y:=⟨_,rfl⟩
  obtain ⟨z,hz⟩:∃ z,y+cb=z:=⟨_,rfl⟩
  have e1:IntKind.u64.wrap ((x:Int) * 256)=(y:Int):=by rw [IntKind.wrap_u64];omega
  have e2:=acJ x cb hcb hx
  rw [hy,hz]at e2
  rw [hy,hz]at Hn
  have e3:IntKind.u64.wrap (cb:Int)=(cb:Int):=by rw [IntKind.wrap_u64];omega
  have e4:(cb:Int)%18446744073709551616=(cb:Int):=oQ
  have hic:(i:Int)<4:=oQ
  have hwi:=pU (i:=i)
  have jL:=uQ hil
  clear hb hcb hx hil hi hll hy hz
  go_wp2_with fail
  go_roundg (4 - (i+1))
  case measure=>have:=jL.out;omega
  case rel=>exact ⟨i+1,rfl,Nat.succ_le_of_lt jL.out,by rw [Hn.out],by first|rfl|go_num,rfl⟩
theorem ag0 (x:Nat):IntKind.u32.wrap (x:Int)=((x%4294967296:Nat):Int):=by rw [IntKind.wrap_u32];rfl
theorem jP (x c:Nat):IntKind.u32.wrap ((x:Int)+(c:Int))=(((x+c)%4294967296:Nat):Int):=by rw [← Int.natCast_add,ag0]
theorem PU {x:Nat} (hx:x<4294967296):∃ a b d u:Nat,aA.rr 7 x=a∧aA.rr 18 x=b∧bits .xor .u32 (a:Int) (b:Int)=(d:Int)∧bits .xor .u32 (d:Int) ((x:Int) / 8)=(u:Int)∧aA.g0 x=u∧u<4294967296:=
 ⟨_,_,aA.rr 7 x ^^^ aA.rr 18 x,_,rfl,rfl,u32_xor_nat _ _ (aA.nO 7 hx) (aA.nO 18 hx),u32_xor_nat _ (x / 8) (aA.nD (aA.nO 7 hx) (aA.nO 18 hx)) (Nat.lt_of_le_of_lt (Nat.div_le_self _ _) hx),rfl,aA.ZH hx⟩
theorem PW {x:Nat} (hx:x<4294967296):∃ a b d u:Nat,aA.rr 17 x=a∧aA.rr 19 x=b∧bits .xor .u32 (a:Int) (b:Int)=(d:Int)∧bits .xor .u32 (d:Int) ((x:Int) / 1024)=(u:Int)∧aA.g1 x=u∧u<4294967296:=
 ⟨_,_,aA.rr 17 x ^^^ aA.rr 19 x,_,rfl,rfl,u32_xor_nat _ _ (aA.nO 17 hx) (aA.nO 19 hx),u32_xor_nat _ (x / 1024) (aA.nD (aA.nO 17 hx) (aA.nO 19 hx)) (Nat.lt_of_le_of_lt (Nat.div_le_self _ _) hx),rfl,aA.ZI hx⟩
theorem SH (x u y v:Nat):∃ s1 s2 s3:Nat,IntKind.u32.wrap ((x:Int)+(u:Int))=(s1:Int)∧IntKind.u32.wrap ((s1:Int)+(y:Int))=(s2:Int)∧IntKind.u32.wrap ((s2:Int)+(v:Int))=(s3:Int)∧(((x+u)%4294967296+y)%4294967296+v)%4294967296=s3:=
 ⟨_,_,_,jP _ _,jP _ _,jP _ _,rfl⟩
set_option maxRecDepth 20000 in
theorem aeW (hb:b.length=64) (hr:RS w0 F (.slice a 64 c) b) (h:Sat w0 w F) :
  Calls Tryz.prog 131 #[.slice a 64 c] w (aI fun v w'=>v = .agg (jk (aA.sched b))∧Sat w0 w' F):=by
 have Hr:=uQ hr;have Hb:=uQ hb
 obtain ⟨_,_,_,hce,hc1,hc2⟩:=hr.cap
 cases hce
 have Hc:=uQ (And.intro hc1 hc2)
 clear hr hb hc1 hc2
 go_enter Tryz.func131,Tryz.ntmps131
 go_wp2_with (with_reducible apply dY)
 refine ⟨dS F6 h rfl ?_⟩
 intro b2 w2 h2
 clear h
 go_wp2_with (with_reducible apply dY)
 refine ⟨dS F6 h2 rfl ?_⟩
 intro b3 w3 h3
 clear h2
 go_wp2_with fail
 go_loopg [12] 16 (fun g iq wr=>∃ i:Nat,g=16 - i∧i≤16∧iq = .int .i64 i∧Sat w0 wr (pt b3 (.cells (jk ((aA.first b).take i)) 129 (0,0))::pt b2 (.cells (jk []) 129 (0,0))::F))
 case atStart=>exact ⟨0,rfl,Nat.zero_le _,rfl,h3⟩
 case round=>
  obtain ⟨i,rfl,hi,rfl,hS⟩:=hrel
  clear h3
  by_cases hil:i<16
  rotate_left
  focus
   obtain rfl:i=16:=by omega
   have e:(aA.first b).take 16=aA.first b:=List.take_of_length_le (by rw [aA.xY];exact Nat.le_refl 16)
   rw [e]at hS
   clear hi hil e
   go_wp2_with fail
   go_loopg [7] 48 (fun g iq wr=>∃ i:Nat,g=48 - i∧i≤48∧iq = .int .i64 ((16+i:Nat):Int)∧Sat w0 wr (pt b3 (.cells (jk (aA.more i (aA.first b))) 129 (0,0))::pt b2 (.cells (jk []) 129 (0,0))::F))
   case atStart=>exact ⟨0,rfl,Nat.zero_le _,rfl,hS⟩
   case round=>
    obtain ⟨j,rfl,hj,rfl,hT⟩:=hrel
    clear hS
    by_cases hjl:j<48
    rotate_left
    focus
     obtain rfl:j=48:=by omega
     have hT:Sat w0 _ (pt b3 (.cells (jk (aA.sched b)) 129 (0,0))::pt b2 (.cells (jk []) 129 (0,0))::F):=hT
     have dw:=uQ (vM (l:=aA.sched b) (by rw [aA.zY];exact Nat.le_refl _))
     have jA:=uQ (Nv (aA.sched b))
     obtain ⟨A,hA⟩:∃ A,jk (aA.sched b)=A:=⟨_,rfl⟩
     rw [hA]at hT dw jA
     have HA:=uQ hA
     clear hj hjl hA
     go_wp2_with (first
      |((with_reducible refine bI ⟨?_⟩);refine fB (cs:=A) hT ah aH Tryz.underlying129 rfl (by rw [dw.out];exact Cb) ?_)
      |(with_reducible apply bU))
     refine ⟨eH A (hT.sb:Sat w0 _ (pt b2 (.cells (jk []) 129 (0,0))::F)) ah ah (dw.out.trans (vM (l:=[]) aJ).symm) bJ (by rw [dw.out];exact Cb) jA.out ?_⟩
     intro w9 h9
     go_wp2_with fail
     have gV:(Tryz.prog.info? 129).map (·.size)=some A.size:=by rw [dw.out];exact Cb
     have hrc:=fun tmps hp=>uI (tmps:=tmps) (fn:=Tryz.f131) rfl h9 hp aH Tryz.underlying129 rfl gV
     refine ⟨rfl,_,hrc _ ah,_,rfl,?_,h9.drop⟩
     rw [HA.out]
    obtain ⟨l,hl⟩:∃ l,aA.more j (aA.first b)=l:=⟨_,rfl⟩
    have hll:l.length=16+j:=by rw [← hl,aA.EL,aA.xY]
    have hal:aA.uS l:=by rw [← hl];exact aA.EK _ _ (aA.En b)
    have vC:=uQ (show aA.more (j+1) (aA.first b)=l++[aA.next l] by rw [aA.EM,hl])
    rw [hl]at hT
    obtain ⟨m,hm⟩:∃ m,16+j=m:=⟨_,rfl⟩
    rw [hm]
    rw [hm]at hll
    obtain ⟨ni,h15⟩:∃ p,m - 15=p:=⟨_,rfl⟩
    obtain ⟨p2,h2⟩:∃ p,m - 2=p:=⟨_,rfl⟩
    obtain ⟨p16,h16⟩:∃ p,m - 16=p:=⟨_,rfl⟩
    obtain ⟨p7,h7⟩:∃ p,m - 7=p:=⟨_,rfl⟩
    have hmm:16≤m∧m<64:=oQ
    have hnx:aA.next l=(((aA.at_ l p16+aA.g0 (aA.at_ l ni))%4294967296+aA.at_ l p7)%4294967296+aA.g1 (aA.at_ l p2))%4294967296:=by
     unfold aA.next
     rw [hll,h15,h2,h16,h7]
    have g15:=AV (l:=l) (i:=ni) oQ
    have g2:=AV (l:=l) (i:=p2) oQ
    have g16:=AV (l:=l) (i:=p16) oQ
    have g7:=AV (l:=l) (i:=p7) oQ
    have l15:=aA.qx hal ni
    have l2:=aA.qx hal p2
    have Ri:=aA.qx hal p16
    have l7:=aA.qx hal p7
    generalize aA.at_ l ni=x15 at *
    generalize aA.at_ l p2=x2 at *
    generalize aA.at_ l p16=x16 at *
    generalize aA.at_ l p7=x7 at *
    have hput:=Nw (l:=l) (x:=aA.next l) hll hmm.2
    have dw:=uQ (vM (l:=l) oQ)
    have c1:(m:Int)<64:=oQ
    have Jp:IntKind.i64.wrap ((m:Int) - 15)=(ni:Int):=by rw [IntWalk.i64_in _ oQ];omega
    have i2:IntKind.i64.wrap ((m:Int) - 2)=(p2:Int):=by rw [IntWalk.i64_in _ oQ];omega
    have i16:IntKind.i64.wrap ((m:Int) - 16)=(p16:Int):=by rw [IntWalk.i64_in _ oQ];omega
    have i7:IntKind.i64.wrap ((m:Int) - 7)=(p7:Int):=by rw [IntWalk.i64_in _ oQ];omega
    have im:IntKind.i64.wrap ((m:Int)+1)=((m+1:Nat):Int):=by rw [IntWalk.i64_in _ oQ];omega
    have b15:(ni:Int)<64:=oQ
    have b2':(p2:Int)<64:=oQ
    have b16:(p16:Int)<64:=oQ
    have b7:(p7:Int)<64:=oQ
    have Hi:=uQ (And.intro i16 (And.intro i7 (And.intro b16 b7)))
    have Hm:=uQ (And.intro hm hjl);have Gv:=uQ hmm
    have hT2:=hT.drew
    have e15:World.cell? _ ⟨b3,ni,none⟩=some (.int .u32 (x15:Int)):=hT2.cellP aH ni g15
    have e2:World.cell? _ ⟨b3,p2,none⟩=some (.int .u32 (x2:Int)):=hT2.cellP aH p2 g2
    have Hg:=uQ (And.intro g16 g7)
    have ql:=uQ hput;have WW:=uQ hnx
    have Hl:=uQ (And.intro l15 (And.intro l2 (And.intro Ri l7)))
    clear hT hl hll hal hm h15 h2 h16 h7 hmm hnx g15 g2 g16 g7 l15 l2 Ri l7 hput hj hjl i16 i7 b16 b7
    go_wp2_with fail
    go_region
    clear e15 e2 Jp i2 b15 b2'
    obtain ⟨ra,rb,rd,u0,ha,hb,hd,hu,hg0,hu0⟩:=PU Hl.out.1
    have hr:=adL x15 Hl.out.1 hT2
    rw [ha]at hr
    go_wp2_with fail
    refine hr.mono ?_
    rintro ee w4 ⟨v,rfl,rfl,h4⟩
    clear hr hT2
    have hr:=adF x15 Hl.out.1 h4
    rw [hb]at hr
    go_wp2_with fail
    refine hr.mono ?_
    rintro ee w5 ⟨v,rfl,rfl,h5⟩
    clear hr h4
    go_wp2_with fail
    clear ha hb hd hu
    obtain ⟨sa,sb,sd,u1,ha,hb,hd,hu,hg1,hu1⟩:=PW Hl.out.2.1
    have hr:=adE x2 Hl.out.2.1 h5
    rw [ha]at hr
    refine hr.mono ?_
    rintro ee w6 ⟨v,rfl,rfl,h6⟩
    clear hr h5
    have hr:=adG x2 Hl.out.2.1 h6
    rw [hb]at hr
    go_wp2_with fail
    refine hr.mono ?_
    rintro ee w7 ⟨v,rfl,rfl,h7⟩
    clear hr h6
    go_wp2_with fail
    clear ha hb hd hu
    obtain ⟨s1,s2,s3,k1,k2,k3,k4⟩:=SH x16 u0 x7 u1
    have hnx2:aA.next l=s3:=by rw [WW.out,hg0,hg1,k4]
    have hpt:=ql.out
    rw [hnx2]at hpt vC
    have h8:=h7.drew
    obtain ⟨i16,i7,b16,b7⟩:=Hi.out
    have hG:World.cell? _ ⟨b3,p16,none⟩=some (.int .u32 (x16:Int))∧World.cell? _ ⟨b3,p7,none⟩=some (.int .u32 (x7:Int)):=⟨h8.cellP aH p16 Hg.out.1,h8.cellP aH p7 Hg.out.2⟩
    clear h7
    refine dh [11,13,14,15] (fun w'=>w'.cell? ⟨b3,p16,none⟩=some (.int .u32 (x16:Int))∧w'.cell? ⟨b3,p7,none⟩=some (.int .u32 (x7:Int))) au ?_
    refine rP 0 ?_ (y:=aG)
    refine rP 1 ?_ (y:=aG)
    refine rP 2 ?_ (y:=dB)
    refine rP 3 ?_ (y:=dZ)
    refine rt 4 (h:=?_)
    refine rP 5 ?_ (y:=aG)
    refine rP 6 ?_ (y:=dB)
    refine rP 7 ?_ (y:=aG)
    refine rP 8 ?_ (y:=dB)
    refine rP 9 ?_ (y:=dZ)
    refine rt 10 (h:=?_)
    clear hG
    refine rP 11 ?_ (y:=dB)
    refine rP 12 ?_ (y:=aG)
    refine rP 13 ?_ (y:=dB)
    refine rP 14 ?_ (y:=dZ)
    refine bG 15 aj au (fun K hK=>?_)
    refine jD (cs':=jk (l++[s3])) h8 aj aj hpt bJ (by rw [dw.out];exact Nat.succ_le_of_lt Gv.out.2) au ah ?_
    intro w9 h9
    refine hK _ _ (.inl rfl) ?_
    clear hK h8
    refine cu au ?_
    go_wp2_with fail
    go_roundg (48 - (j+1))
    case measure=>have:=Hm.out;omega
    case rel=>exact ⟨j+1,rfl,Nat.succ_le_of_lt Hm.out.2,by rw [← Nat.add_assoc,Hm.out.1];first|rfl|go_num,by rw [vC.out];exact h9⟩
  have hc4:4 * i+4≤c:=by have:=Hc.out.1;omega
  obtain ⟨lo,hlo⟩:∃ lo,4 * i=lo:=⟨_,rfl⟩
  have e1:IntKind.i64.wrap (4 * (i:Int))=(lo:Int):=by rw [IntWalk.i64_in _ oQ];omega
  obtain ⟨hi4,hh⟩:∃ hh,lo+4=hh:=⟨_,rfl⟩
  have e2:IntKind.i64.wrap ((lo:Int)+4)=(hi4:Int):=by rw [IntWalk.i64_in _ oQ];omega
  have hsl:=fun w=>CY (a:=a) (n:=64) (c:=c) (l:=lo) (h:=hi4) oQ oQ w
  have hrm:RS w0 (pt b3 (.cells (jk ((aA.first b).take i)) 129 (0,0))::pt b2 (.cells (jk []) 129 (0,0))::F) (sliced a lo hi4 c 1) ((b.drop lo).take 4):=by
   have h1:=(RS.mid (b:=b) (a:=a) (c:=c) (l:=lo) (h:=hi4) (by rw [Hb.out];exact Hr.out) oQ (by rw [Hb.out];omega)).more (G:=pt b3 (.cells (jk ((aA.first b).take i)) 129 (0,0))::pt b2 (.cells (jk []) 129 (0,0))::F) iJ
   rw [show hi4 - lo=4 by omega]at h1
   exact h1
  obtain ⟨sa,sc,hsd⟩:∃ sa sc,sliced a lo hi4 c 1 = .slice sa 4 sc:=⟨_,_,by unfold sliced;rw [show hi4 - lo=4 by omega]⟩
  rw [hsd]at hrm
  have hsl:∀ w,(Instr.sliceAt 27 (.slice a 64 c) (some (.int .i64 lo)) (some (.int .i64 hi4)) none).run Tryz.prog w = .ok (.slice sa 4 sc) w:=fun w=>by rw [hsl w,hsd]
  have hgb:=ZQ ((b.drop lo).take 4) (by rw [List.length_take,List.length_drop,Hb.out];omega) hrm hS
  have hfl:((aA.first b).take i).length=i:=by rw [List.length_take,aA.xY];omega
  have hft:(aA.first b).take (i+1)=(aA.first b).take i++[aA.big ((b.drop lo).take 4)]:=by
   rw [List.take_add_one]
   unfold aA.first
   rw [List.getElem?_map,List.getElem?_range' hil,Option.map_some,Option.toList_some,Nat.one_mul,Nat.zero_add,hlo]
  have hbg:aA.big ((b.drop lo).take 4)<4294967296:=by
   have h1:=aA.D5 ((b.drop lo).take 4)
   have h2:((b.drop lo).take 4).length≤4:=by rw [List.length_take];omega
   exact Nat.lt_of_lt_of_le h1 (Nat.pow_le_pow_right aJ h2)
  have WC:=uQ hft
  generalize aA.big ((b.drop lo).take 4)=X at *
  generalize (aA.first b).take i=l at *
  have hpt:=Nw (x:=X) hfl oQ
  have hsz:=vM (l:=l) oQ
  have x1:IntKind.u32.wrap (X:Int)=(X:Int):=by rw [IntKind.wrap_u32];omega
  have x2:(X:Int)%4294967296=(X:Int):=oQ
  have c1:(i:Int)<16:=oQ
  have c2:(i:Int)<64:=oQ
  have hwi:=pU (i:=i)
  have jL:=uQ hil;have yY:=uQ hpt;have dw:=uQ hsz
  clear hrm hsd hc4 hlo hh hfl hft hbg hpt hsz hi hil
  go_wp2_with ((with_reducible refine zi ⟨?_⟩);refine Af ah ah ah hsl ?_)
  refine hgb.mono ?_
  rintro ee w4 ⟨v,rfl,rfl,rfl⟩
  clear hgb hsl e1 e2
  go_wp2_with (with_reducible apply bU)
  refine ⟨eX (cs':=jk (l++[X])) hS ah ah yY.out bJ (by rw [dw.out];exact Nat.succ_le_of_lt (Nat.lt_trans jL.out aJ)) au ah ?_⟩
  intro w5 h5
  go_wp2_with fail
  go_roundg (16 - (i+1))
  case measure=>have:=jL.out;omega
  case rel=>exact ⟨i+1,rfl,Nat.succ_le_of_lt jL.out,by first|rfl|go_num,by rw [WC.out];exact h5⟩
end
end Go.Proofs.YtlimfgdbfadohaaGreatDoor
