import Derived.Test.YtlimfgdbfadohaaGreatDoorJ8
import Derived.Laws.BitsAllLaws
set_option linter.unusedVariables false
set_option maxHeartbeats 128000000
namespace Go.Proofs.YtlimfgdbfadohaaGreatDoor
open Go Go.Sl Go.aB Go.MapKept Go.RowKit
section
variable {w0 w:World}{F:List aC}{p:Nat}{ov bv:Value}{out b:ak.Bs}
theorem ac1 (x:Nat) (hx:x<18446744073709551616) (h:Sat w0 w F) :
  Calls Tryz.prog 133 #[.int .u64 x,.int .i64 2] w (aI fun v w'=>Sat w0 w' (aK v (ak.le x 2)::F)∧∃ a,v = .slice a 2 2):=by
 have Hx:=uQ hx
 clear hx
 have hmk:∀ w,(Instr.makeSlice 27 (.int .i64 2) (.int .i64 2)).run Tryz.prog w = .ok (.slice (some ⟨w.heap.size,0,none⟩) 2 2) (w.alloc (.cells #[.int .u8 0,.int .u8 0] 5)):=fun w=>by kernel_rfl
 go_enter Tryz.func133,Tryz.ntmps133
 go_wp2_with fail
 have hA:=h.alloc (.cells #[.int .u8 0,.int .u8 0] 5)
 have hB:Sat w0 (w.alloc (.cells #[.int .u8 0,.int .u8 0] 5)) (aK (.slice (some ⟨w.heap.size,0,none⟩) 2 2) [0,0]::F):=Sat.jV hA rfl (Nat.le_refl _) (Nat.le_refl _) (by unfold maxLen;omega) rfl
 obtain ⟨b0,b1,hb0,hb1,hle⟩:∃ b0 b1:UInt8,(x:Int)%256=b0.toNat∧(x:Int) / 256%256=b1.toNat∧ak.le x 2=[b0,b1]:=by
  refine ⟨_,_,?_,?_,rfl⟩
  all_goals (rw [UInt8.toNat_ofNat'];omega)
 have lD:=uQ hle
 clear hle hmk hA
 generalize w.heap.size=q at *
 go_loopg [17] 2 (fun g iq wr=>∃ (i:Nat) (l':Bs),g=2 - i∧i≤2∧iq = .int .i64 i∧l'=(match i with|0=>[0,0]|1=>[b0,0]|_=>[b0,b1])∧Sat w0 wr (aK (.slice (some ⟨q,0,none⟩) 2 2) l'::F))
 case atStart=>exact ⟨0,_,rfl,by omega,rfl,rfl,hB⟩
 case round=>
  obtain ⟨i,l',rfl,hi,rfl,hl',hS⟩:=hrel
  clear hB
  obtain rfl|rfl|rfl:i=0∨i=1∨i=2:=by omega
  ·obtain rfl:l'=[0,0]:=hl'
   obtain ⟨g,he,e0,e1,hS5⟩:=nV (i:=0) hS (by simp) b0
   cases he
   go_wp2_with fail
   go_roundg 1
   case measure=>omega
   case rel=>exact ⟨1,[b0,0],rfl,by omega,rfl,rfl,hS5⟩
  ·obtain rfl:l'=[b0,0]:=hl'
   obtain ⟨g,he,e0,e1,hS5⟩:=nV (i:=1) hS (by simp) b1
   cases he
   go_wp2_with fail
   go_roundg 0
   case measure=>omega
   case rel=>exact ⟨2,[b0,b1],rfl,by omega,rfl,rfl,hS5⟩
  ·obtain rfl:l'=[b0,b1]:=hl'
   go_wp2
   go_ret
   exact ⟨_,rfl,by rw [lD.out];exact hS,_,rfl⟩
theorem ZL (c0:UInt8) (a:Option Addr) (c:Nat) (h:bK 1 (.slice a 1 c) (ay [c0]) w) :
  Calls Tryz.prog 101 #[.slice a 1 c] w (aI fun v w'=>v = .tuple #[.int .u64 (c0.toNat:Int),.bool true]∧w=w'):=by
 obtain ⟨bk,off,rfl,hc⟩:=iU h (i:=0) rfl
 have e0:w.cell? ⟨bk,off,none⟩=some (.int .u8 c0.toNat):=hc 0 _ rfl
 have t0:=c0.toNat_lt
 clear hc h
 go_enter Tryz.func101,Tryz.ntmps101
 go_wp2_with fail
 go_loopg [17,4] 1 (fun g iq xq wr=>(g=1∧iq = .int .i64 0∧xq = .int .u64 0∧wr=w)∨(g=0∧iq = .int .i64 1∧xq = .int .u64 (c0.toNat:Int)∧wr=w))
 case atStart=>exact .inl ⟨rfl,rfl,rfl,rfl⟩
 case round=>
  rcases hrel with ⟨rfl,rfl,rfl,rfl⟩|⟨rfl,rfl,rfl,rfl⟩
  ·have hq:bits .or .u64 (0:Int) (c0.toNat:Int)=(c0.toNat:Int):=by
    have:=u64_or_nat 0 c0.toNat aJ oQ
    rw [Nat.zero_or]at this;exact this
   go_wp2_with fail
   go_roundg 0
   case measure=>decide
   case rel=>exact .inr ⟨rfl,by first|rfl|go_num,rfl,rfl⟩
  ·go_wp2
   go_ret2
   exact ⟨_,rfl,rfl,rfl⟩
theorem ZM (c0 c1:UInt8) (a:Option Addr) (c:Nat) (h:bK 1 (.slice a 2 c) (ay [c0,c1]) w) :
  Calls Tryz.prog 101 #[.slice a 2 c] w (aI fun v w'=>v = .tuple #[.int .u64 (ak.num [c0,c1]:Nat),.bool true]∧w=w'):=by
 obtain ⟨bk,off,rfl,hc⟩:=iU h (i:=0) rfl
 have e0:w.cell? ⟨bk,off,none⟩=some (.int .u8 c0.toNat):=hc 0 _ rfl
 have e1:w.cell? ⟨bk,off+1,none⟩=some (.int .u8 c1.toNat):=hc 1 _ rfl
 have t0:=c0.toNat_lt
 have t1:=c1.toNat_lt
 clear hc h
 go_enter Tryz.func101,Tryz.ntmps101
 go_wp2_with fail
 go_loopg [17,4] 2 (fun g iq xq wr=>∃ i:Nat,g=2 - i∧i≤2∧iq = .int .i64 i∧xq = .int .u64 (ak.num ([c0,c1].take i):Nat)∧wr=w)
 case atStart=>exact ⟨0,rfl,by omega,rfl,rfl,rfl⟩
 case round=>
  obtain ⟨i,rfl,hi,rfl,rfl,rfl⟩:=hrel
  obtain rfl|rfl|rfl:i=0∨i=1∨i=2:=by omega
  ·have hq:bits .or .u64 ((ak.num []:Nat):Int) (c0.toNat:Int)=((ak.num [c0]:Nat):Int):=by
    have:=SQ [] c0 0 rfl aJ
    simpa using this
   go_wp2_with fail
   go_roundg (2 - 1)
   case measure=>decide
   case rel=>exact ⟨1,rfl,by decide,by first|rfl|go_num,rfl,rfl⟩
  ·have hq:bits .or .u64 ((ak.num [c0]:Nat):Int) ((c1.toNat:Int) * 256)=((ak.num [c0,c1]:Nat):Int):=SQ [c0] c1 1 rfl aJ
   go_wp2_with fail
   go_roundg (2 - 2)
   case measure=>decide
   case rel=>exact ⟨2,rfl,by decide,by first|rfl|go_num,rfl,rfl⟩
  ·go_wp2
   go_ret2
   exact ⟨_,rfl,rfl,rfl⟩
theorem aag (hl:4≤b.length) (hr:RS w0 F bv b) (h:Sat w0 w F) :
  Calls Tryz.prog 135 #[bv] w (aI fun v w'=>v = .int .u32 (Lz.hsh b 0:Nat)∧w=w'):=by
 obtain ⟨a,c,rfl,h1,h2⟩:=hr.len h
 have ht:=(hr.to hl c oQ (Nat.le_refl c)).rd w h
 have hs:sliced a 0 4 c 1 = .slice (if c=0 then a else a.map (·.add (0 * 1))) 4 c:=rfl
 rw [hs]at ht
 have hg:=PY (b.take 4) (by rw [List.length_take];omega) _ c ht
 have hrun:∀ w,(Instr.sliceAt 27 (.slice a b.length c) none (some (.int .i64 4)) none).run Tryz.prog w = .ok (.slice (if c=0 then a else a.map (·.add (0 * 1))) 4 c) w:=fun w=>KO (k:=4) oQ w
 have hlt:ak.num (b.take 4)<4294967296:=by
  have h3:=ak.sJ (b.take 4)
  have h4:(b.take 4).length=4:=by rw [List.length_take];omega
  rw [h4]at h3
  exact h3
 have Hn:=uQ (show Lz.hsh b 0=ak.num (b.take 4) * 2654435761%4294967296 / 1048576 from rfl)
 generalize ak.num (b.take 4)=X at *
 obtain ⟨Y,hY⟩:∃ Y,X * 2654435761%4294967296=Y:=⟨_,rfl⟩
 obtain ⟨Z,hZ⟩:∃ Z,Y / 1048576=Z:=⟨_,rfl⟩
 have x1:IntKind.u32.wrap (X:Int)=(X:Int):=by rw [IntKind.wrap_u32];omega
 have x2:(X:Int)%4294967296=(X:Int):=oQ
 have x3:IntKind.u32.wrap ((X:Int) * 2654435761)=(Y:Int):=by rw [IntKind.wrap_u32];omega
 have x4:(Y:Int) / 1048576=(Z:Int):=oQ
 rw [hY,hZ]at Hn
 generalize (if c=0 then a else a.map (·.add (0 * 1)))=a2 at *
 clear hr h ht hs hlt hY hZ h1 h2 hl
 go_enter Tryz.func135,Tryz.ntmps135
 go_wp2_with ((with_reducible refine X4 ⟨?_⟩);refine agR ah ah hrun ?_)
 refine hg.mono ?_
 rintro ee w1 ⟨v,rfl,rfl,rfl⟩
 clear hg hrun
 go_wp2
 go_ret
 exact ⟨_,rfl,by rw [Hn.out];rfl,rfl⟩
set_option maxRecDepth 20000 in
theorem YB {c i e:Nat} (hl:b.length≤1000000) (hc:c≤i) (he:e≤b.length) (hi:i≤b.length) (hr:RS w0 F bv b) (h:Sat w0 w F) :
  Calls Tryz.prog 136 #[bv,.int .i64 c,.int .i64 i,.int .i64 e] w (aI fun v w'=>v = .int .i64 (Lz.common b c i e b.length 0:Nat)∧Sat w0 w' F):=by
 obtain ⟨ba,bc,rfl,h1,h2⟩:=hr.len h
 have Hr:=uQ hr;have Hp:=uQ (And.intro hl (And.intro hc (And.intro he hi)))
 clear hr hl hc he hi h1 h2
 go_enter Tryz.func136,Tryz.ntmps136
 go_wp2_with fail
 go_loopg [9] b.length (fun g kq wr=>∃ (f k:Nat),f=g∧f+k=b.length∧kq = .int .i64 k∧Lz.common b c i e b.length 0=Lz.common b c i e f k∧Sat w0 wr F)
 case atStart=>exact ⟨b.length,0,rfl,rfl,rfl,rfl,h⟩
 case round=>
  obtain ⟨f,k,rfl,hfk,rfl,heq,hS⟩:=hrel
  clear h
  obtain ⟨p1,p2,p3,p4⟩:=Hp.out
  obtain ⟨u,hu⟩:∃ u,i+k=u:=⟨_,rfl⟩
  obtain ⟨v,hv⟩:∃ v,c+k=v:=⟨_,rfl⟩
  have a1:IntKind.i64.wrap ((i:Int)+(k:Int))=(u:Int):=by rw [IntWalk.i64_in _ oQ];omega
  have a2:IntKind.i64.wrap ((c:Int)+(k:Int))=(v:Int):=by rw [IntWalk.i64_in _ oQ];omega
  have a3:IntKind.i64.wrap ((k:Int)+1)=((k+1:Nat):Int):=by rw [IntWalk.i64_in _ oQ];omega
  by_cases hik:u<e
  ·obtain ⟨f,rfl⟩:∃ g,f=g+1:=⟨f - 1,by omega⟩
   have g1:(ay b)[v]?=some (.int .u8 (b.getD v 0).toNat):=nX.2 ⟨_,by rw [List.getD_eq_getElem?_getD,List.getElem?_eq_getElem (show v<b.length by omega)];rfl,rfl⟩
   have g2:(ay b)[u]?=some (.int .u8 (b.getD u 0).toNat):=nX.2 ⟨_,by rw [List.getD_eq_getElem?_getD,List.getElem?_eq_getElem (show u<b.length by omega)];rfl,rfl⟩
   obtain ⟨bk,off,rfl,hcs⟩:=iU (Hr.out.rd _ hS.drew) g1
   have e1:=hcs _ _ g1
   have e2:=hcs _ _ g2
   have hq:(((b.getD v 0).toNat:Int)==((b.getD u 0).toNat:Int))=decide (b.getD v 0=b.getD u 0):=by
    rw [Bool.eq_iff_iff,beq_iff_eq,decide_eq_true_eq]
    constructor
    ·intro q;exact UInt8.toNat_inj.1 oQ
    ·intro q;rw [q]
   have hst:Lz.common b c i e (f+1) k=if b.getD v 0=b.getD u 0 then Lz.common b c i e f (k+1) else k:=by
    rw [Lz.common,hu,hv]
    by_cases q:b.getD v 0=b.getD u 0
    ·rw [if_pos ⟨hik,q⟩,if_pos q]
    ·rw [if_neg (fun x=>q x.2),if_neg q]
   have c1:(u:Int)<(e:Int):=oQ
   have N8:decide ((u:Int)<(e:Int))=true:=decide_eq_true c1
   have b1:(v:Int)<(b.length:Int):=oQ
   have b2:(u:Int)<(b.length:Int):=oQ
   have aao:=uQ (show f+(k+1)=b.length by omega)
   have Heq:=uQ (heq.trans hst)
   generalize b.getD v 0=x1 at *
   generalize b.getD u 0=x2 at *
   have hS2:=hS.drew
   have hG:World.cell? _ ⟨bk,off+v,none⟩=some (.int .u8 x1.toNat)∧World.cell? _ ⟨bk,off+u,none⟩=some (.int .u8 x2.toNat):=⟨e1,e2⟩
   clear g1 g2 hcs hst heq hS e1 e2 p1 p2 p3 p4 hik hfk hu hv
   by_cases hx:x1=x2
   ·rw [decide_eq_true hx]at hq
    rw [if_pos hx]at Heq
    clear hx
    go_wp2_with fail
    refine dh [] (fun w'=>w'.cell? ⟨bk,off+v,none⟩=some (.int .u8 x1.toNat)∧w'.cell? ⟨bk,off+u,none⟩=some (.int .u8 x2.toNat)) au ?_
    refine rP 0 ?_ (y:=aG)
    refine rP 1 ?_ (y:=aG)
    refine rP 2 ?_ (y:=dB)
    refine rP 3 ?_ (y:=aG)
    refine rP 4 ?_ (y:=dB)
    refine rP 5 ?_ (y:=aG)
    refine rP 6 ?_ (y:=(fV ah aj))
    refine rP 7 ?_ (y:=(fV ah aj))
    refine rP 8 ?_ (y:=(fV ah aj))
    refine rP 9 ?_ (y:=(jJ ah aj aj bT))
    refine rP 10 ?_ (y:=(uO ah aj aj bT))
    refine dK 11 aj au bC (nC ah aj au (by intro wq hq;first|exact hq|exact hq.1|exact hq.2|exact hq.2.1|exact hq.2.2|exact hq.2.2.1|exact hq.2.2.2|exact hq.2.2.2.1|exact hq.2.2.2.2)) aQ gQ ?_
    refine rP 12 ?_ (y:=(fV ah aj))
    refine rP 13 ?_ (y:=(fV ah aj))
    refine rP 14 ?_ (y:=(fV ah aj))
    refine rP 15 ?_ (y:=(jJ ah aj aj bT))
    refine rP 16 ?_ (y:=(uO ah aj aj bT))
    refine dK 17 aj au bC (nC ah aj au (by intro wq hq;first|exact hq|exact hq.1|exact hq.2|exact hq.2.1|exact hq.2.2|exact hq.2.2.1|exact hq.2.2.2|exact hq.2.2.2.1|exact hq.2.2.2.2)) aQ gQ ?_
    clear hG
    refine rP 18 ?_ (y:=(jJ ah aj aj bT))
    refine rP 19 ?_ (y:=(jK ah aj aj))
    refine cu au ?_
    go_wp2_with fail
    go_roundg f
    case measure=>exact Nat.lt_succ_self f
    case rel=>exact ⟨f,k+1,rfl,aao.out,by first|rfl|go_num,Heq.out,hS2⟩
   ·rw [decide_eq_false hx]at hq
    rw [if_neg hx]at Heq
    clear hx
    go_wp2_with fail
    refine dh [] (fun w'=>w'.cell? ⟨bk,off+v,none⟩=some (.int .u8 x1.toNat)∧w'.cell? ⟨bk,off+u,none⟩=some (.int .u8 x2.toNat)) au ?_
    refine rP 0 ?_ (y:=aG)
    refine rP 1 ?_ (y:=aG)
    refine rP 2 ?_ (y:=dB)
    refine rP 3 ?_ (y:=aG)
    refine rP 4 ?_ (y:=dB)
    refine rP 5 ?_ (y:=aG)
    refine rP 6 ?_ (y:=(fV ah aj))
    refine rP 7 ?_ (y:=(fV ah aj))
    refine rP 8 ?_ (y:=(fV ah aj))
    refine rP 9 ?_ (y:=(jJ ah aj aj bT))
    refine rP 10 ?_ (y:=(uO ah aj aj bT))
    refine dK 11 aj au bC (nC ah aj au (by intro wq hq;first|exact hq|exact hq.1|exact hq.2|exact hq.2.1|exact hq.2.2|exact hq.2.2.1|exact hq.2.2.2|exact hq.2.2.2.1|exact hq.2.2.2.2)) aQ gQ ?_
    refine rP 12 ?_ (y:=(fV ah aj))
    refine rP 13 ?_ (y:=(fV ah aj))
    refine rP 14 ?_ (y:=(fV ah aj))
    refine rP 15 ?_ (y:=(jJ ah aj aj bT))
    refine rP 16 ?_ (y:=(uO ah aj aj bT))
    refine dK 17 aj au bC (nC ah aj au (by intro wq hq;first|exact hq|exact hq.1|exact hq.2|exact hq.2.1|exact hq.2.2|exact hq.2.2.1|exact hq.2.2.2|exact hq.2.2.2.1|exact hq.2.2.2.2)) aQ gQ ?_
    clear hG
    refine rP 18 ?_ (y:=(jJ ah aj aj bT))
    refine rP 19 ?_ (y:=(jK ah aj aj))
    refine cu au ?_
    go_wp2_with fail
    go_ret
    exact ⟨_,rfl,by rw [Heq.out];rfl,hS2⟩
  ·have c1:¬ (u:Int)<(e:Int):=by omega
   have N8:decide ((u:Int)<(e:Int))=false:=decide_eq_false c1
   have D8:decide (u<e)=false:=decide_eq_false hik
   have Heq:=uQ (show Lz.common b c i e b.length 0=k by
    rw [heq]
    cases f with
    |zero=>rfl
    |succ f=>rw [Lz.common,hu,if_neg (fun x=>hik x.1)])
   have hS2:=hS.drew
   clear p1 p2 p3 p4 heq hik hS hu hv
   have hG:True:=trivial
   go_wp2_with fail
   refine dh [] (fun _=>True) au ?_
   refine rP 0 ?_ (y:=aG)
   refine rP 1 ?_ (y:=aG)
   refine rP 2 ?_ (y:=dB)
   refine rP 3 ?_ (y:=aG)
   refine rP 4 ?_ (y:=dB)
   refine rP 5 ?_ (y:=aG)
   refine dF 6 aj au bC ah gQ ?_
   refine dF 7 aj au bC ah gQ ?_
   refine dF 8 aj au bC ah gQ ?_
   refine dF 9 aj au bC ah gQ ?_
   refine dF 10 aj au bC ah gQ ?_
   refine dF 11 aj au bC ah gQ ?_
   refine dF 12 aj au bC ah gQ ?_
   refine dF 13 aj au bC ah gQ ?_
   refine dF 14 aj au bC ah gQ ?_
   refine dF 15 aj au bC ah gQ ?_
   refine dF 16 aj au bC ah gQ ?_
   refine dF 17 aj au bC ah gQ ?_
   refine dF 18 aj au bC ah gQ ?_
   refine rP 19 ?_ (y:=(jK ah aj aj))
   refine cu au ?_
   go_wp2_with fail
   go_ret
   exact ⟨_,rfl,by rw [Heq.out];rfl,hS2⟩
set_option maxRecDepth 20000 in
theorem JD {n:Nat} (hn:15≤n) (hn2:n<270) (ho:out.length≤1000000) (h:Sat w0 w (pt p (.cells #[ov] 234 (0,0))::aK ov out::F)) :
  Calls Tryz.prog 174 #[ptr p,.int .i64 n] w (aI fun _ w'=>∃ v',Sat w0 w' (pt p (.cells #[v'] 234 (0,0))::aK v' (out++Lz.tail4 n)::F)):=by
 obtain ⟨oa,on,oc,rfl,x1,x2,x3⟩:=iY h.aP
 clear x1 x2 x3
 have Ho:=uQ ho
 have Ht:=uQ (show Lz.tail4 n=[UInt8.ofNat (n - 15)] by rw [Lz.yL hn2,if_pos hn])
 have hw1:IntKind.i64.wrap ((n:Int) - 15)=((n - 15:Nat):Int):=by rw [IntWalk.i64_in _ oQ];omega
 have hc8:((n - 15:Nat):Int)%256=((UInt8.ofNat (n - 15)).toNat:Int):=by rw [UInt8.toNat_ofNat'];omega
 have hc9:IntKind.u8.wrap ((n - 15:Nat):Int)=((UInt8.ofNat (n - 15)).toNat:Int):=by rw [IntKind.wrap_u8];exact hc8
 have c1:¬ (255:Int)≤((n - 15:Nat):Int):=oQ
 generalize UInt8.ofNat (n - 15)=c at *
 generalize n - 15=m at *
 clear ho hn hn2
 go_enter Tryz.func174,Tryz.ntmps174
 go_wp2_with fail
 clear hw1
 go_loopg [1] 0 (fun g iq wr=>g=0∧iq = .int .i64 m∧wr=w)
 case atStart=>exact ⟨rfl,rfl,rfl⟩
 case round=>
  obtain ⟨rfl,rfl,rfl⟩:=hrel
  have e0:wr.cell? ⟨p,0,none⟩=some (.slice oa on oc):=h.cellP aH 0 rfl
  go_wp2_with (first
   |((with_reducible refine kU ⟨?_⟩);refine lu (e:=5) (sz:=1) (dX:=1) au h ah (cs:=#[.int .u8 c.toNat]) rfl rfl bH ?_;intro bN wN hN)
   |(with_reducible apply jf))
  refine ⟨lq 5 1 1 au hN ah ah (xs:=ay out) dM aH ah (Nat.le_refl 1) ah (by rw [aU];have:=Ho.out;omega) (by show 1≤65536;decide) aJ (ys:=ay [c]) rfl ?_⟩
  intro bA nA cA wA hA
  clear hN e0 h
  rw [← jQ]at hA
  go_wp2_with (with_reducible apply bU)
  refine ⟨eX (cs':=#[.slice (some ⟨bA,0,none⟩) nA cA]) (hA.sb:Sat w0 wA (pt p (.cells #[.slice oa on oc] 234 (0,0))::aK (.slice (some ⟨bA,0,none⟩) nA cA) (out++[c])::F)) ah aj ah bJ bH au ah ?_⟩
  intro w3 h3
  go_wp2_with fail
  go_end0
  exact ⟨_,rfl,_,by rw [Ht.out];exact h3⟩
end
theorem acI:∀ x,x<16→∀ y,y<16→bits .or .i64 (((x * 16:Nat)):Int) ((y:Nat):Int)=((x * 16+y:Nat):Int):=by decide +kernel
theorem U6 (A m:Nat):∃ (x y t u:Nat) (c:UInt8),min (A:Int) 15=(x:Int)∧min (m:Int) 15=(y:Int)∧(x:Int) * 16=(t:Int)∧bits .or .i64 (t:Int) (y:Int)=(u:Int)∧IntKind.u8.wrap (u:Int)=(c.toNat:Int)∧UInt8.ofNat (min A 15 * 16+min m 15)=c:=by
 refine ⟨min A 15,min m 15,min A 15 * 16,min A 15 * 16+min m 15,_,by omega,by omega,by omega,acI _ oQ _ oQ,?_,rfl⟩
 rw [IntKind.wrap_u8,UInt8.toNat_ofNat'];omega
section
variable {w0 w:World}{F:List aC}{p:Nat}{ov bv:Value}{out lit:ak.Bs}
set_option maxRecDepth 20000 in
theorem abM (hl:lit.length<270) (ho:out.length≤100000) (hr:RS w0 F bv lit) (h:Sat w0 w (pt p (.cells #[ov] 234 (0,0))::aK ov out::F)) :
  Calls Tryz.prog 137 #[ptr p,bv,.int .i64 0,.int .i64 0] w (aI fun _ w'=>∃ v',Sat w0 w' (pt p (.cells #[v'] 234 (0,0))::aK v' (out++Lz.seqB lit 0 0)::F)):=by
 obtain ⟨ba,bc,rfl,y1,y2⟩:=hr.len (h.sb:Sat w0 w F)
 obtain ⟨oa,on,oc,rfl,x1,x2,x3⟩:=iY h.aP
 clear x1 x2 x3 y1 y2
 obtain ⟨A,hA⟩:∃ A,lit.length=A:=⟨_,rfl⟩
 obtain ⟨x,y,t,u,c,hx,hy,ht,hu,hc,hcc⟩:=U6 A 0
 have hy:min (0:Int) 15=(y:Int):=hy
 have He:=uQ (show Lz.seqB lit 0 0=([c]++Lz.tail4 A)++lit by
  unfold Lz.seqB
  rw [hA,if_pos rfl,List.append_nil,show 0 - 4=0 from rfl,hcc])
 have Ho:=uQ ho;have Hr:=uQ hr
 have Hl:=uQ (show A<270 by omega)
 have HA:=uQ hA
 rw [hA]
 have e0:w.cell? ⟨p,0,none⟩=some (.slice oa on oc):=h.cellP aH 0 rfl
 clear hr hl ho hcc hA
 go_enter Tryz.func137,Tryz.ntmps137
 go_wp2_with (first
  |((with_reducible refine kU ⟨?_⟩);refine lu (e:=5) (sz:=1) (dX:=1) au h ah (cs:=#[.int .u8 c.toNat]) rfl rfl bH ?_;intro bN wN hN)
  |(with_reducible apply jf))
 refine ⟨lq 5 1 1 au hN ah ah (xs:=ay out) dM aH ah (Nat.le_refl 1) ah (by rw [aU];have:=Ho.out;omega) (by show 1≤65536;decide) aJ (ys:=ay [c]) rfl ?_⟩
 intro bA nA cA wA hA
 rw [← jQ]at hA
 clear hN e0 h hx hy ht hu hc
 go_wp2_with (with_reducible apply bU)
 refine ⟨eX (cs':=#[.slice (some ⟨bA,0,none⟩) nA cA]) (hA.sb:Sat w0 wA (pt p (.cells #[.slice oa on oc] 234 (0,0))::aK (.slice (some ⟨bA,0,none⟩) nA cA) (out++[c])::F)) ah aj ah bJ bH au ah ?_⟩
 intro w3 h3
 clear hA
 by_cases h15:15≤A
 focus
  have c15:(15:Int)≤(A:Int):=oQ
  have hmr:=JD h15 Hl.out (out:=out++[c]) (by rw [List.length_append,List.length_singleton];have:=Ho.out;omega) h3
  clear h3 h15
  go_wp2_with fail
  refine hmr.mono ?_
  rintro ee w4 ⟨v,rfl,vv,h4⟩
  clear hmr
  rw [List.append_assoc]at h4
 rotate_left
 focus
  have c15:¬ (15:Int)≤(A:Int):=oQ
  have h4:Sat w0 w3 (pt p (.cells #[.slice (some ⟨bA,0,none⟩) nA cA] 234 (0,0))::aK (.slice (some ⟨bA,0,none⟩) nA cA) (out++([c]++Lz.tail4 A))::F):=by
   rw [Lz.yL Hl.out,if_neg h15,List.append_nil];exact h3
  clear h3 h15
 all_goals
  obtain ⟨va,vn,vc,q0,x1,x2,x3⟩:=iY h4.aP
  (try subst q0)
  clear x1 x2 x3
  have e0:=h4.cellP aH 0 rfl
  go_wp2_with (with_reducible apply jf)
  refine ⟨wY 5 1 1 au h4 ah ah (xs:=ay (out++([c]++Lz.tail4 A))) (ys:=ay lit) aP (by rw [← HA.out];exact Hr.out.rd _ h4.drop.drop) (jU _) (by rw [aU,aU,List.length_append,List.length_append,HA.out];have:=Ho.out;have:=Hl.out;have:=Lz.Ad Hl.out;show out.length+(1+(Lz.tail4 A).length)+A≤2147483648;omega) aJ ?_⟩
  intro v5 w5 h5
  rw [← jQ,List.append_assoc]at h5
  obtain ⟨ta,tn,tc,rfl,x1,x2,x3⟩:=iY (show Sat w0 w5 (aK v5 (out++(([c]++Lz.tail4 A)++lit))::_) from h5)
  clear x1 x2 x3 h4 e0
  go_wp2_with (with_reducible apply bU)
  refine ⟨eX (cs':=#[.slice ta tn tc]) (h5.pick aP) ah aj ah bJ bH au ah ?_⟩
  intro w6 h6
  clear h5 c15
  go_wp2_with fail
  go_end0
  exact ⟨_,rfl,_,by rw [He.out];exact h6⟩
set_option maxRecDepth 20000 in
theorem abN {d n:Nat} (hl:lit.length<270) (hd:d≤65535) (hn:4≤n) (hn2:n<270) (ho:out.length≤100000) (hr:RS w0 F bv lit) (h:Sat w0 w (pt p (.cells #[ov] 234 (0,0))::aK ov out::F)) :
  Calls Tryz.prog 137 #[ptr p,bv,.int .i64 d,.int .i64 n] w (aI fun _ w'=>∃ v',Sat w0 w' (pt p (.cells #[v'] 234 (0,0))::aK v' (out++Lz.seqB lit d n)::F)):=by
 obtain ⟨ba,bc,rfl,y1,y2⟩:=hr.len (h.sb:Sat w0 w F)
 obtain ⟨oa,on,oc,rfl,x1,x2,x3⟩:=iY h.aP
 clear x1 x2 x3 y1 y2
 obtain ⟨A,hA⟩:∃ A,lit.length=A:=⟨_,rfl⟩
 obtain ⟨m,hm⟩:∃ m,n - 4=m:=⟨_,rfl⟩
 obtain ⟨x,y,t,u,c,hx,hy,ht,hu,hc,hcc⟩:=U6 A m
 have He:=uQ (show Lz.seqB lit d n=(([c]++Lz.tail4 A)++lit)++(ak.le d 2++Lz.tail4 m) by
  unfold Lz.seqB
  rw [hA,hm,if_neg oQ,hcc])
 have c0:(0:Int)<(n:Int):=oQ
 have hw4:IntKind.i64.wrap ((n:Int) - 4)=(m:Int):=by rw [IntWalk.i64_in _ oQ];omega
 have z1:((n:Int)==0)=false:=by rw [beq_eq_false_iff_ne];omega
 have hwd:IntKind.u64.wrap (d:Int)=(d:Int):=by rw [IntKind.wrap_u64];omega
 have hwd2:(d:Int)%18446744073709551616=(d:Int):=oQ
 have Hd:=uQ hd;have Hm:=uQ (show m<270 by omega);have Hz:=uQ (And.intro z1 (And.intro hwd hwd2))
 have Ho:=uQ ho;have Hr:=uQ hr
 have Hl:=uQ (show A<270 by omega)
 have HA:=uQ hA
 rw [hA]
 have e0:w.cell? ⟨p,0,none⟩=some (.slice oa on oc):=h.cellP aH 0 rfl
 clear hr hl ho hcc hA hd hn hn2 hm z1 hwd hwd2
 go_enter Tryz.func137,Tryz.ntmps137
 go_wp2_with (first
  |((with_reducible refine kU ⟨?_⟩);refine lu (e:=5) (sz:=1) (dX:=1) au h ah (cs:=#[.int .u8 c.toNat]) rfl rfl bH ?_;intro bN wN hN)
  |(with_reducible apply jf))
 refine ⟨lq 5 1 1 au hN ah ah (xs:=ay out) dM aH ah (Nat.le_refl 1) ah (by rw [aU];have:=Ho.out;omega) (by show 1≤65536;decide) aJ (ys:=ay [c]) rfl ?_⟩
 intro bA nA cA wA hA
 rw [← jQ]at hA
 clear hN e0 h hx hy ht hu hc c0 hw4
 go_wp2_with (with_reducible apply bU)
 refine ⟨eX (cs':=#[.slice (some ⟨bA,0,none⟩) nA cA]) (hA.sb:Sat w0 wA (pt p (.cells #[.slice oa on oc] 234 (0,0))::aK (.slice (some ⟨bA,0,none⟩) nA cA) (out++[c])::F)) ah aj ah bJ bH au ah ?_⟩
 intro w3 h3
 clear hA
 by_cases h15:15≤A
 focus
  have c15:(15:Int)≤(A:Int):=oQ
  have hmr:=JD h15 Hl.out (out:=out++[c]) (by rw [List.length_append,List.length_singleton];have:=Ho.out;omega) h3
  clear h3 h15
  go_wp2_with fail
  refine hmr.mono ?_
  rintro ee w4 ⟨v,rfl,vv,h4⟩
  clear hmr
  rw [List.append_assoc]at h4
 rotate_left
 focus
  have c15:¬ (15:Int)≤(A:Int):=oQ
  have h4:Sat w0 w3 (pt p (.cells #[.slice (some ⟨bA,0,none⟩) nA cA] 234 (0,0))::aK (.slice (some ⟨bA,0,none⟩) nA cA) (out++([c]++Lz.tail4 A))::F):=by
   rw [Lz.yL Hl.out,if_neg h15,List.append_nil];exact h3
  clear h3 h15
 all_goals
  obtain ⟨va,vn,vc,q0,x1,x2,x3⟩:=iY h4.aP
  (try subst q0)
  clear x1 x2 x3
  have e0:=h4.cellP aH 0 rfl
  go_wp2_with (with_reducible apply jf)
  refine ⟨wY 5 1 1 au h4 ah ah (xs:=ay (out++([c]++Lz.tail4 A))) (ys:=ay lit) aP (by rw [← HA.out];exact Hr.out.rd _ h4.drop.drop) (jU _) (by rw [aU,aU,List.length_append,List.length_append,HA.out];have:=Ho.out;have:=Hl.out;have:=Lz.Ad Hl.out;show out.length+(1+(Lz.tail4 A).length)+A≤2147483648;omega) aJ ?_⟩
  intro v5 w5 h5
  rw [← jQ,List.append_assoc]at h5
  obtain ⟨ta,tn,tc,rfl,x1,x2,x3⟩:=iY (show Sat w0 w5 (aK v5 (out++(([c]++Lz.tail4 A)++lit))::_) from h5)
  clear x1 x2 x3 h4 e0
  go_wp2_with (with_reducible apply bU)
  refine ⟨eX (cs':=#[.slice ta tn tc]) (h5.pick aP) ah aj ah bJ bH au ah ?_⟩
  intro w6 h6
  clear h5 c15
  obtain ⟨z1,hwd,hwd2⟩:=Hz.out
  go_wp2_with fail
  have h7:=h6.drew
  have hG:World.cell? _ ⟨p,0,none⟩=some (.slice ta tn tc):=h7.cellP aH 0 rfl
  clear h6
  refine dh [8,9,10,11] (fun w'=>w'.cell? ⟨p,0,none⟩=some (.slice ta tn tc)) au ?_
  refine rP 0 ?_ (y:=aG)
  refine rP 1 ?_ (y:=aG)
  refine rP 2 ?_ (y:=dL)
  refine rP 3 ?_ (y:=cO)
  refine rt 4 (h:=?_)
  clear hG
  refine rP 5 ?_ (y:=aG)
  refine rP 6 ?_ (y:=(VE aj bT))
  refine bG 7 aj au (fun K hK=>?_)
  (refine eU au aj aj ?_)
  refine (ac1 d (by have:=Hd.out;omega) h7).mono ?_
  rintro ee w8 ⟨v,rfl,h8,pa,rfl⟩
  refine hK _ _ (.inr (.inl (h8.cellP aP 0 rfl))) ?_
  clear hK h7 z1 hwd hwd2
  refine bG 8 aj au (fun K hK=>?_)
  refine Y1 1 1 au (xs:=ay (out++(([c]++Lz.tail4 A)++lit))) (h8.pick dM) aj aj (ys:=ay (ak.le d 2)) (Sat.rd h8) (jU _) (by rw [aU,aU,List.length_append,List.length_append,List.length_append,HA.out,ak.gW];have:=Ho.out;have:=Hl.out;have:=Lz.Ad Hl.out;show out.length+(1+(Lz.tail4 A).length+A)+2≤2147483648;omega) aJ ?_
  intro v9 w9 h9
  refine hK _ _ (.inl rfl) ?_
  rw [← jQ,List.append_assoc]at h9
  obtain ⟨xa,xn,xc,rfl,x1,x2,x3⟩:=iY (show Sat w0 w9 (aK v9 (out++((([c]++Lz.tail4 A)++lit)++ak.le d 2))::_) from h9)
  clear hK h8 x1 x2 x3
  refine rP 9 ?_ (y:=dL)
  refine rP 10 ?_ (y:=cO)
  refine bG 11 aj au (fun K hK=>?_)
  refine jD (cs':=#[.slice xa xn xc]) (v:= .slice xa xn xc) (h9.sb:Sat w0 w9 (pt p (.cells #[.slice ta tn tc] 234 (0,0))::aK (.slice xa xn xc) (out++((([c]++Lz.tail4 A)++lit)++ak.le d 2))::F)) aj aj ah bJ bH au ah ?_
  intro w10 h10
  refine hK _ _ (.inl rfl) ?_
  clear hK h9
  refine cu au ?_
  by_cases sG:15≤m
  ·have c15:(15:Int)≤(m:Int):=by omega
   have hmr:=JD sG Hm.out (by rw [List.length_append,List.length_append,List.length_append,List.length_append,HA.out,ak.gW];have:=Ho.out;have:=Hl.out;have:=Lz.Ad Hl.out;show out.length+(1+(Lz.tail4 A).length+A+2)≤1000000;omega) h10
   clear h10 sG
   go_wp2_with fail
   refine hmr.mono ?_
   rintro ee fU ⟨v,rfl,vv,h11⟩
   clear hmr
   go_wp2_with fail
   go_end0
   exact ⟨_,rfl,vv,by rw [He.out];simpa only [List.append_assoc] using h11⟩
  ·have c15:¬ (15:Int)≤(m:Int):=by omega
   have Wv:=uQ (show Lz.tail4 m=[] by rw [Lz.yL Hm.out,if_neg sG])
   clear sG
   go_wp2_with fail
   go_end0
   exact ⟨_,rfl,_,by rw [He.out,Wv.out,List.append_nil];exact h10⟩
end
def Dh (N:Nat) (T:Nat→Nat):Array Value:=((List.range N).map fun x=>Value.int .i64 (T x:Nat)).toArray
theorem UZ (N:Nat) (T:Nat→Nat):(Dh N T).size=N:=by unfold Dh;rw [List.size_toArray,List.length_map,List.length_range]
theorem UY {N:Nat}{T:Nat→Nat}{i:Nat} (h:i<N):(Dh N T)[i]?=some (.int .i64 (T i:Nat)):=by
 unfold Dh
 rw [List.getElem?_toArray,List.getElem?_map,List.getElem?_range h];rfl
theorem af2 (N:Nat):(Array.replicate N (Value.int .i64 0))=Dh N (fun _=>0):=by
 apply Array.ext_getElem?
 intro j
 by_cases hj:j<N
 ·rw [UY hj,Array.getElem?_replicate,if_pos hj];rfl
 ·rw [Array.getElem?_eq_none (by rw [Array.size_replicate];omega),Array.getElem?_eq_none (by rw [UZ];omega)]
theorem ahm:iH Tryz.prog 231=some (.agg (Array.replicate 4096 (.int .i64 0))):=by kernel_rfl
structure TabIs (A:Array Value) (T:Nat→Nat):Prop where
 size:A.size=4096
 at_:∀ i,i<4096→A[i]?=some (.int .i64 (T i:Nat))
theorem ahl:∃ A,iH Tryz.prog 231=some (.agg A)∧TabIs A (fun _=>0):=⟨_,ahm.trans (by rw [af2]),UZ _ _,fun i hi=>UY hi⟩
theorem TabIs.put {A:Array Value}{T:Nat→Nat} (h:TabIs A T){i:Nat} (hi:i<4096) (x:Nat):∃ A',eG A i [.int .i64 (x:Nat)]=A'∧TabIs A' (fun j=>if j=i then x else T j):=by
 refine ⟨_,rfl,?_,fun j hj=>?_⟩
 ·show (A.setIfInBounds i _).size=_
  rw [Array.size_setIfInBounds];exact h.size
 ·show (A.setIfInBounds i _)[j]?=_
  by_cases e:j=i
  ·subst e
   rw [Array.getElem?_setIfInBounds_self_of_lt (by rw [h.size];exact hj),if_pos rfl]
  ·rw [Array.getElem?_setIfInBounds_ne (fun c=>e c.symm),h.at_ j hj,if_neg e]
theorem aeh (w:World):(Instr.build 234 #[]).run Tryz.prog w = .ok (.agg #[.slice none 0 0]) w:=by kernel_rfl
section
variable {P:Program}{ops:Array Oper}{a:Act}{dst:Option Tmp}{t ty:TypeId}{pos:String}{after:Array Edge}{x y z:Operand}{v vx vy vz:Value}{g:Option (Nat×Bool)}
theorem Ee {op:Oper}{w:World}{K:Act→World→Prop}{Q:Exit→Act→World→Prop} (hw:Region.wanted op (yielded ops a.tmps)=false) (h:K (a.put op.dst undef) w):if Region.wanted op (yielded ops a.tmps)=true then Oper.wp P op a w K Q else K (a.put op.dst undef) w:=by
 rw [if_neg (by rw [hw];decide)];exact h
theorem VA (hw:Region.wanted ⟨dst,.slice ty x (some y) (some z) none,t,pos,after,g⟩ (yielded ops a.tmps)=true) (hx:a.eval x=vx) (hy:a.eval y=vy) (hz:a.eval z=vz) (hr:∀ w,(Instr.sliceAt ty vx (some vy) (some vz) none).run P w = .ok v w):Yields P ops ⟨dst,.slice ty x (some y) (some z) none,t,pos,after,g⟩ v a:=
 .inl ⟨hw,fun w=>by simp only [execOp,hx,hy,hz,Option.map_some,Option.map_none,Sem.run_bind,hr,Result.andThen_ok,Sem.run_pure]⟩
end
section
variable {P:Program}{w:World}{ops:Array Oper}{rest:List Oper}{a:Act}{Q:Exit→Act→World→Prop}{dst:Option Tmp}{t ty:TypeId}{pos:String}{after:Array Edge}{x y:Operand}{v vx vy:Value}
theorem Vm (hx:a.eval x=vx) (hy:a.eval y=vy) (hr:∀ w,(Instr.indexAt ty vx vy).run P w = .ok v w) (h:wpList P ops Q rest (a.put dst v) w):wpList P ops Q (⟨dst,.indexAddr ty x y,t,pos,after,none⟩::rest) a w:=
 wpList_plain rfl fun _ hK=>by
  unfold Oper.wp execOp
  simp only [hx,hy,Sem.run_bind,hr,Result.andThen_ok,Sem.run_pure]
  exact hK _ _ h
theorem NG (h:Stop (wpList P ops Q (⟨dst,.indexAddr ty x y,t,pos,after,none⟩::rest) a w)):wpList P ops Q (⟨dst,.indexAddr ty x y,t,pos,after,none⟩::rest) a w:=h.out
theorem Ue {e:TypeId}{N b i:Nat}{k:IntKind} (hu:P.underlying ty=some (.array N e)) (hs:∀ w,(sizeOf e).run P w = .ok 1 w) (hi:i<N) (w:World):(Instr.indexAt ty (.pointer (some ⟨b,0,none⟩)) (.int k (i:Int))).run P w = .ok (.pointer (some ⟨b,i,none⟩)) w:=by
 have h1:(0:Int)≤(i:Int)∧(i:Int)<(N:Int):=oQ
 unfold Instr.indexAt
 simp only [asIntOf,Sem.run_bind,Sem.run_pure,Result.andThen_ok,run_underlying hu,Instr.sureAddr,hs,if_pos h1,Int.toNat_natCast,Nat.mul_one,pG]
end
theorem afj (w:World):(sizeOf 3).run Tryz.prog w = .ok 1 w:=by kernel_rfl
section
variable {w0 w:World}{F:List aC}{p:Nat}{ov bv:Value}{out b:ak.Bs}
theorem KX {ba:Option Addr}{bc i j:Nat} (hr:RS w0 F (.slice ba b.length bc) b) (hbc:b.length≤bc) (h1:i≤j) (h2:j≤b.length):∃ a c,(∀ w,(Instr.sliceAt 27 (.slice ba b.length bc) (some (.int .i64 i)) (some (.int .i64 j)) none).run Tryz.prog w = .ok (.slice a (j - i) c) w)∧RS w0 F (.slice a (j - i) c) (Lz.cut b i j):=by
 have hm:=RS.mid hr h1 h2
 have e:Lz.cut b i j=(b.drop i).take (j - i):=by unfold Lz.cut;rw [List.drop_take]
 rw [← e]at hm
 refine ⟨_,_,fun w=>(CY h1 oQ w).trans ?_,hm⟩
 rfl
set_option maxRecDepth 20000 in
theorem UG (hl:b.length≤250) (hr:RS w0 F bv b) (h:Sat w0 w F) :
  Calls Tryz.prog 91 #[bv] w (aI fun v w'=>∃ ra rn rc,v = .tuple #[.slice ra rn rc,errno 0]∧Sat w0 w' (aK (.slice ra rn rc) (Lz.blk b)::F)):=by
 obtain ⟨ba,bc,rfl,hc1,hc2⟩:=hr.len h
 have Hr:=uQ hr;have Hl:=uQ hl;have Hc:=uQ hc1
 have k1:¬ (65536:Int)<(b.length:Int):=oQ
 have k2:IntKind.i64.wrap ((b.length:Int) - 12)=(b.length:Int) - 12:=IntWalk.i64_in _ oQ
 clear hr hl hc1 hc2
 go_enter Tryz.func91,Tryz.ntmps91
 go_wp2_with (with_reducible apply dY)
 refine ⟨?_⟩
 obtain ⟨A0,hz0,hA0⟩:=ahl
 refine dS hz0 h rfl ?_
 intro b5 w5 h5
 have h5:Sat w0 w5 (pt b5 (.cells A0 231 (0,0))::F):=h5
 clear h k1 hz0
 go_wp2_with (first
  |((with_reducible apply wW);refine ⟨?_⟩;refine uM ah aeh ?_)
  |(with_reducible apply fH))
 refine ⟨fO h5 ah ah ?_⟩
 intro p w7 h7
 have h8:Sat w0 w7 (pt b5 (.cells A0 231 (0,0))::pt p (.cells #[.slice none 0 0] 234 (0,0))::aK (.slice none 0 0) []::F):=
  (Sat.fM.2 h7:Sat w0 w7 (aK (.slice none 0 0) []::pt p (.cells #[.slice none 0 0] 234 (0,0))::pt b5 (.cells A0 231 (0,0))::F)).sb
 clear h5 h7
 go_wp2_with fail
 try go_frame
 go_loopg [7,8] (b.length+1) (fun g tq iq wr=>∃ (f told i:Nat) (T:Nat→Nat) (ps:List Lz.Part) (v':Value) (A:Array Value),f=g∧tq = .int .i64 told∧iq = .int .i64 i∧Lz.parts b (Lz.hsh b)=Lz.pW b (Lz.hsh b) f T told i ps∧b.length+1≤i+f∧Lz.Inv b T told i ps∧(Lz.flat ps).length≤2 * told∧TabIs A T∧Sat w0 wr (pt b5 (.cells A 231 (0,0))::pt p (.cells #[v'] 234 (0,0))::aK v' (Lz.flat ps)::F))
 case atStart=>exact ⟨b.length+1,0,0,_,[],_,A0,rfl,rfl,rfl,rfl,by omega,⟨Nat.le_refl _,Nat.zero_le _,fun _=>Nat.le_refl _,rfl,trivial⟩,Nat.le_refl _,hA0,h8⟩
 case round=>
  obtain ⟨f,told,i,T,ps,v',A,rfl,rfl,rfl,hpt,hf,hI,hfl,hA,hS⟩:=hrel
  clear h8 hA0
  have hb:=Hl.out
  have hle:=hI.le
  have hib:=hI.ib
  by_cases hi:i+12≤b.length
  rotate_left
  focus
   as_aux_lemma=>
    have c1:¬ (i:Int)≤(b.length:Int) - 12:=oQ
    have yY:=uQ (show Lz.parts b (Lz.hsh b)=(ps,told) by
     rw [hpt]
     cases f with
     |zero=>rfl
     |succ f=>rw [Lz.pW,if_neg hi])
    have htl:told≤b.length:=oQ
    have hsl:=fun w=>zX (a:=ba) (n:=b.length) (c:=bc) (k:=told) htl w
    have hrd:=Hr.out.from htl
    obtain ⟨a2,c2,he⟩:∃ a2 c2,sliced ba told b.length bc 1 = .slice a2 (b.length - told) c2:=⟨_,_,rfl⟩
    rw [he]at hrd
    simp only [he]at hsl
    have hseq:=uQ (fun (w':World) (hw:Sat w0 w' (pt p (.cells #[v'] 234 (0,0))::aK v' (Lz.flat ps)::F))=>abM (by rw [List.length_drop];omega) oQ hrd hw)
    have hS2:Sat w0 _ (pt p (.cells #[v'] 234 (0,0))::aK v' (Lz.flat ps)::F):=hS.sb
    have Hb:=uQ (show Lz.blk b=Lz.flat ps++Lz.seqB (b.drop told) 0 0 by unfold Lz.blk Lz.block;rw [yY.out];rfl)
    clear hS hpt hf hI hfl hle hib hi htl hrd he hb yY
    go_wp2_with ((with_reducible refine xJ ⟨?_⟩);refine yM ah ah hsl ?_)
    refine (hseq.out _ hS2).mono ?_
    rintro ee w8 ⟨v,rfl,vv,h8⟩
    obtain ⟨va,vn,vc,rfl,x1,x2,x3⟩:=iY h8.aP
    clear x1 x2 x3
    have e0:w8.cell? ⟨p,0,none⟩=some (.slice va vn vc):=h8.cellP aH 0 rfl
    have iP:=uQ (h8.sb:Sat w0 w8 (aK (.slice va vn vc) (Lz.flat ps++Lz.seqB (b.drop told) 0 0)::F))
    clear h8 hS2 hseq
    go_wp2_with fail
    go_ret2
    exact ⟨_,rfl,va,vn,vc,rfl,by rw [Hb.out];exact iP.out⟩
  obtain ⟨f,rfl⟩:∃ g,f=g+1:=⟨f - 1,by omega⟩
  have hT:=hI.T (Lz.hsh b i)
  have BG:=Lz.aaA b i
  have c1:(i:Int)≤(b.length:Int) - 12:=oQ
  have hil:i≤b.length:=hib
  have hsl:∀ w,(Instr.sliceAt 27 (.slice ba b.length bc) (some (.int .i64 i)) none none).run Tryz.prog w = .ok (sliced ba i b.length bc 1) w:=fun w=>zX (a:=ba) (n:=b.length) (c:=bc) (k:=i) hil w
  have hrd:=Hr.out.from hil
  obtain ⟨a2,c2,he⟩:∃ a2 c2,sliced ba i b.length bc 1 = .slice a2 (b.length - i) c2:=⟨_,_,rfl⟩
  rw [he]at hrd
  simp only [he]at hsl
  have hha:=aag (b:=b.drop i) (by rw [List.length_drop];omega) (hrd.more iJ) hS
  rw [show Lz.hsh (b.drop i) 0=Lz.hsh b i by unfold Lz.hsh;rw [List.drop_zero]]at hha
  have kT:=uQ (show Lz.parts b (Lz.hsh b)=if T (Lz.hsh b i)=0∨65535<i - (T (Lz.hsh b i) - 1)∨Lz.cut b (T (Lz.hsh b i) - 1) (T (Lz.hsh b i) - 1+4)≠Lz.cut b i (i+4) then Lz.pW b (Lz.hsh b) f (fun x=>if x=Lz.hsh b i then i+1 else T x) told (i+1) ps
   else Lz.pW b (Lz.hsh b) f (fun x=>if x=Lz.hsh b i then i+1 else T x) (i+Lz.common b (T (Lz.hsh b i) - 1) i (b.length - 5) b.length 0) (i+Lz.common b (T (Lz.hsh b i) - 1) i (b.length - 5) b.length 0)
    (ps++[(Lz.cut b told i,i - (T (Lz.hsh b i) - 1),Lz.common b (T (Lz.hsh b i) - 1) i (b.length - 5) b.length 0)]) by rw [hpt,Lz.pW,if_pos hi])
  have HI:=uQ hI
  generalize Lz.hsh b i=H at *
  have e0:wr.cell? ⟨b5,H,none⟩=some (.int .i64 (T H:Nat)):=hS.cellP aH H (hA.at_ H BG)
  have hix:=fun (w:World)=>Ue (P:=Tryz.prog) (k:= .u32) (b:=b5) Tryz.underlying231 afj BG w
  obtain ⟨A',hput,hA'⟩:=hA.put BG (i+1)
  have ql:=uQ hput
  have dw:=uQ (show H+1≤A.size by rw [hA.size];omega)
  obtain ⟨i1,hi1⟩:∃ i1,i+1=i1:=⟨_,rfl⟩
  have hwi:IntKind.i64.wrap ((i:Int)+1)=(i1:Int):=by rw [IntWalk.i64_in _ oQ];omega
  rw [hi1]at ql hA'
  have HA':=uQ hA'
  have yU:=uQ hi1
  obtain ⟨z,hz⟩:∃ z:Int,(T H:Int) - 1=z:=⟨_,rfl⟩
  have hwz:IntKind.i64.wrap ((T H:Int) - 1)=z:=by rw [IntWalk.i64_in _ oQ];exact hz
  have Hh:=uQ (And.intro BG (And.intro hT (And.intro hi (And.intro hf (And.intro hfl (And.intro hle hz))))))
  have Gz:=uQ hrd
  clear hpt hI hT BG hi hf hfl hle hib hil hz hrd he hb hi1 hA hA' hput
  go_wp2_with ((with_reducible refine xJ ⟨?_⟩);refine yM ah ah hsl ?_)
  refine hha.mono ?_
  rintro ee w8 ⟨v,rfl,rfl,rfl⟩
  clear hha hsl
  go_wp2_with (first
   |((with_reducible refine NG ⟨?_⟩);refine Vm ah ah hix ?_)
   |(with_reducible apply bU))
  refine ⟨eX (cs':=A') hS ah aj ql.out bJ (show H+1≤A.size from dw.out) au ah ?_⟩
  intro w9 h9
  clear hS e0 hix
  obtain ⟨q1,q2,q3,q4,q5,q6,q7⟩:=Hh.out
  have hb:=Hl.out
  have GU:=uQ (HI.out.skip q3 H)
  rw [yU.out]at GU kT
  by_cases h0:T H=0
  ·as_aux_lemma=>
    have cz:z<0:=oQ
    have czd:decide (z<0)=true:=decide_eq_true cz
    have Hp:=uQ (kT.out.trans (if_pos (.inl h0)))
    have Hm:=uQ (And.intro (show b.length+1≤i1+f by have:=yU.out;omega) q5)
    have h10:=h9.drew
    clear q1 q2 q3 q4 q5 q6 q7 h0 hb h9
    have hG:True:=trivial
    go_wp2_with fail
    refine dh [] (fun _=>True) au ?_
    refine rP 0 ?_ (y:=aG)
    refine rP 1 ?_ (y:=dB)
    refine rP 2 ?_ (y:=aG)
    refine dF 3 aj au bC ah gQ ?_
    refine dF 4 aj au bC ah gQ ?_
    refine dF 5 aj au bC ah gQ ?_
    refine dF 6 aj au bC ah gQ ?_
    refine rP 7 ?_ (y:=(jK ah aj aj))
    refine rP 8 ?_ (y:=aG)
    refine dF 9 aj au bC ah gQ ?_
    refine dF 10 aj au bC ah gQ ?_
    refine dF 11 aj au bC ah gQ ?_
    refine dF 12 aj au bC ah gQ ?_
    refine dF 13 aj au bC ah gQ ?_
    refine dF 14 aj au bC ah gQ ?_
    refine dF 15 aj au bC ah gQ ?_
    refine dF 16 aj au bC ah gQ ?_
    refine dF 17 aj au bC ah gQ ?_
    refine dF 18 aj au bC ah gQ ?_
    refine bG 19 aj au (fun K hK=>?_)
    refine Ee ah (hK _ _ (.inr (.inr rfl)) ?_)
    clear hK
    refine dF 20 aj au bC ah gQ ?_
    refine rP 21 ?_ (y:=(jK ah aj aj))
    refine cu au ?_
    go_wp2_with fail
    go_roundg f
    case measure=>exact Nat.lt_succ_self f
    case rel=>exact ⟨f,told,i1,_,ps,v',A',rfl,rfl,by first|rfl|go_num,Hp.out,Hm.out.1,GU.out,Hm.out.2,HA'.out,h10⟩
  obtain ⟨c,hc⟩:∃ c,T H - 1=c:=⟨_,rfl⟩
  obtain rfl:z=(c:Int):=by omega
  have hci:c<i:=oQ
  rw [hc]at kT
  obtain ⟨sa,sc,hs1,hr1⟩:=KX (b:=b) (i:=c) (j:=c+4) Hr.out Hc.out oQ oQ
  obtain ⟨ta,tc,hs2,hr2⟩:=KX (b:=b) (i:=i) (j:=i+4) Hr.out Hc.out oQ oQ
  rw [show c+4 - c=4 by omega]at hr1
  simp only [show c+4 - c=4 by omega]at hs1
  rw [show i+4 - i=4 by omega]at hr2
  simp only [show i+4 - i=4 by omega]at hs2
  have h10:=h9.drew
  have heq:=DZ _ _ (hr1.rd _ (h10.sb:Sat w0 _ F)) (hr2.rd _ (h10.sb:Sat w0 _ F))
  have cz:decide ((c:Int)<0)=false:=decide_eq_false oQ
  obtain ⟨D,hD⟩:∃ D,i - c=D:=⟨_,rfl⟩
  obtain ⟨c4,hc4⟩:∃ c4,c+4=c4:=⟨_,rfl⟩
  obtain ⟨i4,hi4⟩:∃ i4,i+4=i4:=⟨_,rfl⟩
  rw [hc4]at heq;rw [hi4]at heq
  simp only [hc4]at hs1
  simp only [hi4]at hs2
  have hw1:IntKind.i64.wrap ((i:Int) - (c:Int))=(D:Int):=by rw [IntWalk.i64_in _ oQ];omega
  have cf:decide ((65535:Int)<(D:Int))=false:=decide_eq_false oQ
  have cfn:decide (65535<D)=false:=decide_eq_false oQ
  have hw2:IntKind.i64.wrap ((c:Int)+4)=(c4:Int):=by rw [IntWalk.i64_in _ oQ];omega
  have hw3:IntKind.i64.wrap ((i:Int)+4)=(i4:Int):=by rw [IntWalk.i64_in _ oQ];omega
  have HD:=uQ (And.intro hD (And.intro hc4 hi4))
  have Ws:=uQ (show T H=c+1 by omega)
  obtain ⟨Q,hQ⟩:∃ Q,decide (Lz.cut b c c4=Lz.cut b i i4)=Q:=⟨_,rfl⟩
  rw [hQ]at heq
  rw [← hc4,← hi4]at hQ
  have HQ:=uQ hQ
  have Hm:=uQ (And.intro q4 (And.intro q5 (And.intro q6 (And.intro q3 hci))))
  obtain ⟨n5,uw⟩:∃ n5,b.length - 5=n5:=⟨_,rfl⟩
  have hwf:IntKind.i64.wrap ((b.length:Int) - 5)=(n5:Int):=by rw [IntWalk.i64_in _ oQ];omega
  have WR:=uQ uw
  have Xr:=uQ hwf;have Xt:=uQ hwi
  clear q1 q2 q3 q4 q5 q6 q7 h0 hb h9 hr1 hr2 hQ hc hci hwz hwi hwf hD hc4 hi4 uw
  go_wp2_with fail
  have hG:True:=trivial
  refine dh [] (fun _=>True) au ?_
  refine rP 0 ?_ (y:=aG)
  refine rP 1 ?_ (y:=dB)
  refine rP 2 ?_ (y:=aG)
  refine rP 3 ?_ (y:=(fV ah aj))
  refine rP 4 ?_ (y:=(fV ah aj))
  refine rP 5 ?_ (y:=(jJ ah aj aj bT))
  refine rP 6 ?_ (y:=(jJ ah aj aj bT))
  refine rP 7 ?_ (y:=(jK ah aj aj))
  refine rP 8 ?_ (y:=aG)
  refine rP 9 ?_ (y:=(fV ah aj))
  refine rP 10 ?_ (y:=(fV ah aj))
  refine rP 11 ?_ (y:=(fV ah aj))
  refine rP 12 ?_ (y:=(jJ ah aj aj bT))
  refine rP 13 ?_ (y:=(VA ah aj aj aj hs1))
  refine rP 14 ?_ (y:=(fV ah aj))
  refine rP 15 ?_ (y:=(fV ah aj))
  refine rP 16 ?_ (y:=(fV ah aj))
  refine rP 17 ?_ (y:=(jJ ah aj aj bT))
  refine rP 18 ?_ (y:=(VA ah aj aj aj hs2))
  refine bG 19 aj au (fun K hK=>?_)
  refine zx [.slice sa 4 sc,.slice ta 4 tc] ah au ah ?_
  refine heq.mono ?_
  rintro ee fU ⟨v,rfl,rfl,rfl⟩
  refine hK _ _ (.inr (.inr rfl)) ?_
  clear hK heq hs1 hs2
  refine rP 20 ?_ (y:=(VB ah aj bT))
  refine rP 21 ?_ (y:=(jK ah aj aj))
  refine cu au ?_
  cases Q with
  |false=>
   as_aux_lemma=>
    have Hp:=uQ (kT.out.trans (if_pos (.inr (.inr (of_decide_eq_false HQ.out)))))
    have hwi:=Xt.out
    clear cz hw1 cf cfn hw2 hw3
    go_wp2_with fail
    go_roundg f
    case measure=>exact Nat.lt_succ_self f
    case rel=>exact ⟨f,told,i1,_,ps,v',A',rfl,rfl,by first|rfl|go_num,Hp.out,by have:=Hm.out;have:=yU.out;omega,GU.out,Hm.out.2.1,HA'.out,h10⟩
  |true=>
   as_aux_lemma=>
    obtain ⟨q4,q5,q6,q3,hci⟩:=Hm.out
    have heq:=of_decide_eq_true HQ.out
    have hb:=Hl.out
    have hi1:=yU.out
    obtain ⟨hD,hc4,hi4⟩:=HD.out
    have uw:=WR.out
    obtain ⟨g1,g2,g3⟩:=HI.out.part q3 H hci oQ heq
    rw [hi1,hD,uw]at g1;rw [uw]at g2 g3;rw [hD,uw]at kT
    have Hp:=uQ (kT.out.trans (if_neg (by
     rintro (x|x|x)
     ·have:=Ws.out;omega
     ·rw [← hD]at x;omega
     ·exact x heq)))
    have hcm:=uQ (fun (w':World) (hw:Sat w0 w' (pt b5 (.cells A' 231 (0,0))::pt p (.cells #[v'] 234 (0,0))::aK v' (Lz.flat ps)::F))=>YB (c:=c) (i:=i) (e:=n5) oQ oQ oQ oQ (Hr.out.more iJ) hw)
    generalize Lz.common b c i n5 b.length 0=m at *
    obtain ⟨im,him⟩:∃ im,i+m=im:=⟨_,rfl⟩
    rw [him]at g1 g3 Hp
    obtain ⟨ua,uc,hs3,hr3⟩:=KX (b:=b) (i:=told) (j:=i) Hr.out Hc.out q6 oQ
    have hcl:(Lz.cut b told i).length=i - told:=by unfold Lz.cut;rw [List.length_drop,List.length_take];omega
    have lH:=uQ (fun (w':World) (hw:Sat w0 w' (pt p (.cells #[v'] 234 (0,0))::aK v' (Lz.flat ps)::pt b5 (.cells A' 231 (0,0))::F))=>abN (lit:=Lz.cut b told i) (d:=D) (n:=m) oQ oQ g2 oQ oQ (hr3.more iJ) hw)
    have Ak:=uQ (show (Lz.flat (ps++[(Lz.cut b told i,D,m)])).length≤2 * im by
     rw [Lz.Po,List.length_append]
     have:=Lz.ae7 (lit:=Lz.cut b told i) (d:=D) (n:=m) oQ oQ
     show (Lz.flat ps).length+(Lz.seqB (Lz.cut b told i) D m).length≤2 * im
     omega)
    have pF:=uQ (show Lz.flat (ps++[(Lz.cut b told i,D,m)])=Lz.flat ps++Lz.seqB (Lz.cut b told i) D m from Lz.Po _ _)
    have hwm:IntKind.i64.wrap ((i:Int)+(m:Int))=(im:Int):=by rw [IntWalk.i64_in _ oQ];omega
    have Hg:=uQ (And.intro g1 (show b.length+1≤im+f by omega))
    have hwf:=Xr.out
    clear cz cf cfn hw2 hw3 q4 q5 q6 q3 hci heq hb g1 g2 g3 hr3 hcl hi1 hD hc4 hi4 uw him
    go_wp2_with fail
    refine (hcm.out _ h10).mono ?_
    rintro ee w12 ⟨v,rfl,rfl,h12⟩
    clear hcm h10 hwf
    go_wp2_with ((with_reducible refine zi ⟨?_⟩);refine Af ah ah ah hs3 ?_)
    refine (lH.out _ (h12.sb)).mono ?_
    rintro ee jH ⟨v,rfl,vv,h13⟩
    clear lH h12 hs3
    go_wp2_with fail
    go_roundg f
    case measure=>exact Nat.lt_succ_self f
    case rel=>exact ⟨f,im,im,_,_,vv,A',rfl,by first|rfl|go_num,by first|rfl|go_num,Hp.out,Hg.out.2,Hg.out.1,Ak.out,HA'.out,by rw [pF.out];exact h13.sb⟩
end
abbrev ku (q p:Nat) (ov:Value) (most:Nat):aC:=pt q (.cells #[ptr p,ov,.int .i64 (most:Nat)] 247 (0,0))
section
variable {w0 w:World}{F:List aC}{v bv rv ov:Value}{p q n k most d:Nat}{l m r out:ak.Bs}
set_option maxRecDepth 20000 in
theorem TQ {c0:UInt8} (hr:RS w0 F rv (c0::r)) (h:Sat w0 w (ji p rv::F)):Calls Tryz.prog 182 #[ptr p,.int .i64 1] w (aI fun v w'=>∃ rv',v = .int .u64 (c0.toNat:Int)∧(∀ F0,RS w0 F0 rv (c0::r)→RS w0 F0 rv' r)∧Sat w0 w' (ji p rv'::F)):=by
 have her:=zS h
 have htk:=KL (k:=1) (m:=c0::r) (by rw [List.length_cons];omega) hr h
 clear hr
 go_enter Tryz.func182,Tryz.ntmps182
 go_wp2_with fail
 refine her.mono ?_
 rintro ee w1 ⟨v,rfl,rfl,rfl⟩
 clear her
 go_wp2_with fail
 refine htk.mono ?_
 rintro ee w2 ⟨v,rfl,ta,tc,ra,rc,rfl,hT,hF,h2⟩
 have hg:=ZL c0 ta tc (hT.rd w2 h2.drop)
 have HF:=uQ hF
 clear htk h hT hF
 go_wp2_with fail
 refine hg.mono ?_
 rintro ee w3 ⟨v,rfl,rfl,rfl⟩
 clear hg
 go_wp2
 go_ret
 exact ⟨_,rfl,_,rfl,HF.out,h2⟩
set_option maxRecDepth 20000 in
theorem adQ {c0 c1:UInt8} (hr:RS w0 F rv (c0::c1::r)) (h:Sat w0 w (ji p rv::F)):Calls Tryz.prog 182 #[ptr p,.int .i64 2] w (aI fun v w'=>∃ rv',v = .int .u64 (ak.num [c0,c1]:Nat)∧(∀ F0,RS w0 F0 rv (c0::c1::r)→RS w0 F0 rv' r)∧Sat w0 w' (ji p rv'::F)):=by
 have her:=zS h
 have htk:=KL (k:=2) (m:=c0::c1::r) (by rw [List.length_cons,List.length_cons];omega) hr h
 clear hr
 go_enter Tryz.func182,Tryz.ntmps182
 go_wp2_with fail
 refine her.mono ?_
 rintro ee w1 ⟨v,rfl,rfl,rfl⟩
 clear her
 go_wp2_with fail
 refine htk.mono ?_
 rintro ee w2 ⟨v,rfl,ta,tc,ra,rc,rfl,hT,hF,h2⟩
 have hg:=ZM c0 c1 ta tc (hT.rd w2 h2.drop)
 have HF:=uQ hF
 obtain ⟨N,hN⟩:∃ N,Hid (ak.num [c0,c1]=N):=⟨_,uQ rfl⟩
 rw [hN.out]at hg
 clear htk h hT hF
 go_wp2_with fail
 refine hg.mono ?_
 rintro ee w3 ⟨v,rfl,rfl,rfl⟩
 clear hg
 go_wp2
 go_ret
 exact ⟨_,rfl,_,by rw [hN.out];rfl,HF.out,h2⟩
theorem adi (hk:k≤m.length) (hl:k≤140737488355328) (hr:RS w0 F rv m) (h:Sat w0 w (ji p rv::F)):Calls Tryz.prog 183 #[ptr p,.int .i64 k] w (aI fun v w'=>∃ rv',(∀ F0,RS w0 F0 rv m→RS w0 F0 rv' (m.drop k))∧(∃ a n c,v = .slice a n c)∧Sat w0 w' (aK v (m.take k)::ji p rv'::F)):=by
 have htk:=KL (k:=k) hk hr h
 have Hl:=uQ (show (m.take k).length≤140737488355328 by rw [List.length_take];omega)
 clear hr hk hl
 go_enter Tryz.func183,Tryz.ntmps183
 go_wp2_with fail
 refine htk.mono ?_
 rintro ee w2 ⟨v,rfl,ta,tc,ra,rc,rfl,hT,hF,h2⟩
 have hc:=qA h2 (hT.rd w2 h2.drop) Hl.out
 have HF:=uQ hF
 clear htk h hT hF
 go_wp2_with fail
 refine hc.mono ?_
 rintro ee w3 ⟨v,rfl,h3,a3,n3,c3,rfl⟩
 clear hc
 go_wp2
 go_ret
 exact ⟨_,rfl,_,HF.out,⟨_,_,_,rfl⟩,h3⟩
theorem adO (hr:RS w0 F rv m) (h:Sat w0 w (ji p rv::F)):Calls Tryz.prog 186 #[ptr p] w (aI fun v w'=>v = .int .i64 (m.length:Nat)∧w=w'):=by
 obtain ⟨a,c,rfl,_,_⟩:=hr.len h.drop
 have e0:w.cell? ⟨p,0,none⟩=some (.slice a m.length c):=h.cellAt 0 _ rfl
 clear hr h
 go_enter Tryz.func186,Tryz.ntmps186
 go_wp2
 go_ret
 exact ⟨_,rfl,rfl,rfl⟩
set_option maxRecDepth 20000 in
theorem RH {L:Nat} (hL:L<270) (hr:RS w0 F rv (Lz.tail4 L++r)) (h:Sat w0 w (ku q p ov most::ji p rv::F)) :
  Calls Tryz.prog 184 #[ptr q,.int .i64 (min L 15:Nat)] w (aI fun v w'=>∃ rv',v = .int .i64 (L:Nat)∧(∀ F0,RS w0 F0 rv (Lz.tail4 L++r)→RS w0 F0 rv' r)∧Sat w0 w' (ku q p ov most::ji p rv'::F)):=by
 by_cases h15:15≤L
 ·have ht:Lz.tail4 L++r=UInt8.ofNat (L - 15)::r:=by rw [Lz.yL hL,if_pos h15];rfl
  rw [ht]at hr ⊢
  rw [show min L 15=15 by omega]
  have hcn:(UInt8.ofNat (L - 15)).toNat=L - 15:=by rw [UInt8.toNat_ofNat'];omega
  generalize UInt8.ofNat (L - 15)=c at *
  have hnum:=TQ (c0:=c) (F:=ku q p ov most::F) (hr.more iJ) (h.sb)
  have e0:w.cell? ⟨q,0,none⟩=some (.pointer (some ⟨p,0,none⟩)):=h.cellAt 0 _ rfl
  have hw1:IntKind.i64.wrap (c.toNat:Int)=(c.toNat:Int):=IntWalk.i64_in _ oQ
  have hw2:IntKind.i64.wrap (15+(c.toNat:Int))=(L:Int):=by rw [IntWalk.i64_in _ oQ];omega
  have hc1:decide ((c.toNat:Int)<255)=true:=decide_eq_true oQ
  have hc2:(c.toNat:Int)<255:=oQ
  clear hr h ht hL h15 hcn
  go_enter Tryz.func184,Tryz.ntmps184
  go_wp2_with fail
  try go_frame
  go_loopg [1] 1 (fun g iq wr=>g=1∧iq = .int .i64 15∧wr=w)
  case atStart=>exact ⟨rfl,rfl,rfl⟩
  case round=>
   obtain ⟨rfl,rfl,rfl⟩:=hrel
   go_wp2_with fail
   refine hnum.mono ?_
   rintro ee w1 ⟨v,rfl,rv',rfl,hF,h1⟩
   have HF:=uQ hF
   clear hnum e0 hF
   go_wp2_with fail
   go_ret
   exact ⟨_,rfl,rv',rfl,HF.out,h1.sb⟩
 ·have ht:Lz.tail4 L++r=r:=by rw [Lz.yL hL,if_neg h15];rfl
  rw [ht]at hr ⊢
  rw [show min L 15=L by omega]
  have hc1:(L:Int)<15:=oQ
  clear ht hL h15
  go_enter Tryz.func184,Tryz.ntmps184
  go_wp2_with fail
  go_ret
  exact ⟨_,rfl,rv,rfl,fun _ h=>h,h⟩
set_option maxRecDepth 20000 in
theorem abL {n:Nat} (hd0:0<d) (hd:d≤out.length) (ho:out.length+n≤100000) (h:Sat w0 w (ku q p ov most::aK ov out::F)) :
  Calls Tryz.prog 187 #[ptr q,.int .i64 d,.int .i64 n] w (aI fun _ w'=>∃ v',Sat w0 w' (ku q p v' most::aK v' (Lz.kN out d n)::F)):=by
 have Hd:=uQ (And.intro hd0 (And.intro hd ho))
 clear hd0 hd ho
 go_enter Tryz.func187,Tryz.ntmps187
 go_wp2_with fail
 try go_frame
 go_loopg [7] n (fun g iq wr=>∃ (j:Nat) (out':ak.Bs) (v':Value),g=n - j∧j≤n∧iq = .int .i64 j∧Lz.kN out d n=Lz.kN out' d (n - j)∧out'.length=out.length+j∧Sat w0 wr (ku q p v' most::aK v' out'::F))
 case atStart=>exact ⟨0,out,ov,rfl,Nat.zero_le _,rfl,rfl,rfl,h⟩
 case round=>
  obtain ⟨j,out',v',rfl,hj,rfl,heq,hlen,hS⟩:=hrel
  clear h
  obtain ⟨p1,p2,p3⟩:=Hd.out
  by_cases hjn:j<n
  rotate_left
  focus
   obtain rfl:j=n:=by omega
   have Heq:=uQ (show Lz.kN out d j=out' by rw [heq,Nat.sub_self];rfl)
   clear heq hlen hj hjn p1 p2 p3
   have c1:¬ ((j:Int)<(j:Int)):=oQ
   go_wp2_with fail
   go_end0
   exact ⟨_,rfl,v',by rw [Heq.out];exact hS⟩
  obtain ⟨va,vn,vc,rfl,_,_,hvn⟩:=iY hS.aP
  subst hvn
  have c1:(j:Int)<(n:Int):=oQ
  have hw1:IntKind.i64.wrap ((out'.length:Int) - (d:Int))=((out'.length - d:Nat):Int):=by rw [IntWalk.i64_in _ oQ];omega
  have hw2:IntKind.i64.wrap ((j:Int)+1)=((j+1:Nat):Int):=by rw [IntWalk.i64_in _ oQ];omega
  have g1:(ay out')[out'.length - d]?=some (.int .u8 (out'.getD (out'.length - d) 0).toNat):=nX.2 ⟨_,by rw [List.getD_eq_getElem?_getD,List.getElem?_eq_getElem (show out'.length - d<out'.length by omega)];rfl,rfl⟩
  have hS2:=hS.drew
  obtain ⟨bk,off,rfl,hcs⟩:=iU (Sat.rd hS2.aP) g1
  have e1:=hcs _ _ g1
  have cb:((out'.length - d:Nat):Int)<(out'.length:Int):=oQ
  have Heq:=uQ (show Lz.kN out d n=Lz.kN (out'++[out'.getD (out'.length - d) 0]) d (n - (j+1)) by
   rw [heq,show n - j=(n - (j+1))+1 by omega];rfl)
  have Hl:=uQ (And.intro hjn (show out'.length≤100000 by omega))
  have Hn:=uQ hlen
  generalize out'.getD (out'.length - d) 0=x at *
  have hG:World.cell? _ ⟨q,1,none⟩=some (.slice (some ⟨bk,off,none⟩) out'.length vc)∧World.cell? _ ⟨bk,off+(out'.length - d),none⟩=some (.int .u8 x.toNat):=⟨hS2.cellP aH 1 rfl,e1⟩
  have Hg:=uQ (show ∀ w',Sat w0 w' (ku q p (.slice (some ⟨bk,off,none⟩) out'.length vc) most::aK (.slice (some ⟨bk,off,none⟩) out'.length vc) out'::F)→World.cell? w' ⟨q,1,none⟩=some (.slice (some ⟨bk,off,none⟩) out'.length vc)∧World.cell? w' ⟨bk,off+(out'.length - d),none⟩=some (.int .u8 x.toNat) from fun w' hw=>by
   obtain ⟨_,_,hb,hc⟩:=iU (Sat.rd hw.aP) g1
   cases hb
   exact ⟨hw.cellP aH 1 rfl,hc _ _ g1⟩)
  generalize out'.length - d=ix at *
  clear hS heq hlen hj hjn p1 p2 p3 g1 hcs e1
  go_wp2_with fail
  refine dh [19,20,21,22] (fun w'=>w'.cell? ⟨q,1,none⟩=some (.slice (some ⟨bk,off,none⟩) out'.length vc)∧w'.cell? ⟨bk,off+ix,none⟩=some (.int .u8 x.toNat)) au ?_
  refine rP 0 ?_ (y:=aG)
  refine rP 1 ?_ (y:=aG)
  refine rP 2 ?_ (y:=dL)
  refine rP 3 ?_ (y:=cO)
  refine rt 4 (h:=?_)
  refine rP 5 ?_ (y:=aG)
  refine rP 6 ?_ (y:=dL)
  refine rP 7 ?_ (y:=cO)
  refine rt 8 (h:=?_)
  refine rP 9 ?_ (y:=aG)
  refine rP 10 ?_ (y:=dL)
  refine rP 11 ?_ (y:=cO)
  refine rt 12 (h:=?_)
  refine rP 13 ?_ (y:=(nG aj bT))
  refine rP 14 ?_ (y:=aG)
  refine rP 15 ?_ (y:=dB)
  refine rP 16 ?_ (y:=dZ)
  refine rt 17 (h:=?_)
  clear hG
  refine bG 18 aj au (fun K hK=>?_)
  refine OM (e:=5) (sz:=1) (dX:=1) au hS2 aj (cs:=#[.int .u8 x.toNat]) rfl rfl bH ?_
  intro bN wN hN
  refine hK _ _ (.inr (.inl (Hg.out _ hN.drop))) ?_
  clear hK hS2
  refine bG 19 aj au (fun K hK=>?_)
  refine OJ 5 1 1 au hN aj aj (xs:=ay out') dM aH ah (Nat.le_refl 1) ah (by rw [aU];have:=Hl.out.2;omega) (by show 1≤65536;decide) aJ (ys:=ay [x]) rfl ?_
  intro bA nA cA wA hA
  refine hK _ _ (.inl rfl) ?_
  rw [← jQ]at hA
  clear hK hN
  refine rP 20 ?_ (y:=dL)
  refine rP 21 ?_ (y:=cO)
  refine bG 22 aj au (fun K hK=>?_)
  refine jD (cs':=#[ptr p,.slice (some ⟨bA,0,none⟩) nA cA,.int .i64 (most:Nat)]) (v:= .slice (some ⟨bA,0,none⟩) nA cA) (hA.sb:Sat w0 wA (ku q p (.slice (some ⟨bk,off,none⟩) out'.length vc) most::aK (.slice (some ⟨bA,0,none⟩) nA cA) (out'++[x])::F)) aj aj ah bJ bH au ah ?_
  intro w5 h5
  refine hK _ _ (.inl rfl) ?_
  clear hK hA
  refine cu au ?_
  go_wp2_with fail
  go_roundg (n - (j+1))
  case measure=>have:=Hl.out.1;omega
  case rel=>exact ⟨j+1,_,_,rfl,Nat.succ_le_of_lt Hl.out.1,by first|rfl|go_num,Heq.out,by rw [List.length_append,Hn.out];rfl,h5⟩
end
end Go.Proofs.YtlimfgdbfadohaaGreatDoor
namespace Go.Lz
theorem Ih:∀ (n:Nat) (out:Bs) (d:Nat),(kN out d n).length=out.length+n
 |0,out,d=>rfl
 |n+1,out,d=>by
  unfold kN
  rw [Ih n,List.length_append,List.length_singleton];omega
theorem U3:∀ (ps:List Part) (acc:Bs),acc.length≤(tell acc ps).length
 |[],acc=>Nat.le_refl _
 |p::ps,acc=>by
  have h:=U3 ps (kN (acc++p.1) p.2.1 p.2.2)
  rw [Ih,List.length_append]at h
  show acc.length≤(tell (kN (acc++p.1) p.2.1 p.2.2) ps).length
  omega
theorem abm (d:Nat) (hd:d≤65535):∃ c0 c1:UInt8,ak.le d 2=[c0,c1]∧ak.num [c0,c1]=d:=by
 refine ⟨_,_,rfl,?_⟩
 have:=ak.CG 2 d (by show d<65536;omega)
 exact this
end Go.Lz
namespace Go.Proofs.YtlimfgdbfadohaaGreatDoor
open Go Go.Sl Go.aB Go.MapKept Go.RowKit
theorem aga:∀ t,t<256→bits .and .i64 ((t:Nat):Int) 15=((t%16:Nat):Int):=by decide +kernel
section
variable {w0 w:World}{F:List aC}{v bv rv ov:Value}{p q k most:Nat}{lit r out:ak.Bs}
set_option maxRecDepth 20000 in
theorem Tt {d n:Nat} (hn:n=0∧r=[]∨4≤n∧n<270) (hd:n≠0→0<d∧d≤65535∧d≤out.length+lit.length) (hl:lit.length<270) (hm:out.length+lit.length+n≤most) (hm2:most≤65536) (hr:RS w0 F rv (Lz.seqB lit d n++r)) (h:Sat w0 w (ku q p ov most::ji p rv::aK ov out::F)) :
  Calls Tryz.prog 148 #[ptr q] w (aI fun v w'=>∃ rv' v',v = .tuple #[.bool (decide (n=0)),errno 0]∧RS w0 F rv' r∧Sat w0 w' (ku q p v' most::ji p rv'::aK v' (Lz.kN (out++lit) d n)::F)):=by
 obtain ⟨oa,on,oc,rfl,_,_,hon⟩:=iY h.dM
 subst hon
 obtain ⟨tok,htok⟩:∃ c,UInt8.ofNat (min lit.length 15 * 16+min (n - 4) 15)=c:=⟨_,rfl⟩
 have hhi:=Lz.agb lit.length (n - 4)
 have hlo:=Lz.agc lit.length (n - 4)
 obtain ⟨s1,hs1⟩:∃ s1,(if n=0 then [] else ak.le d 2++Lz.tail4 (n - 4))++r=s1:=⟨_,rfl⟩
 have lH:Lz.seqB lit d n++r=tok::(Lz.tail4 lit.length++(lit++s1)):=by
  unfold Lz.seqB
  rw [htok,← hs1]
  simp only [List.append_assoc,List.cons_append,List.nil_append]
 rw [lH]at hr
 rw [htok]at hhi hlo
 have hT:tok.toNat<256:=tok.toNat_lt
 have hand:=aga tok.toNat hT
 rw [hlo]at hand
 obtain ⟨XE,Qm⟩:∃ x,min lit.length 15=x:=⟨_,rfl⟩
 obtain ⟨m,hmn⟩:∃ m,n - 4=m:=⟨_,rfl⟩
 rw [hmn]at hand hs1
 obtain ⟨m15,sG⟩:∃ x,min m 15=x:=⟨_,rfl⟩
 rw [sG]at hand
 have hsh:(tok.toNat:Int) / 16=(XE:Int):=oQ
 have hw1:IntKind.i64.wrap (tok.toNat:Int)=(tok.toNat:Int):=IntWalk.i64_in _ oQ
 have hnum:=TQ (F:=ku q p (.slice oa out.length oc) most::aK (.slice oa out.length oc) out::F) (hr.more iJ) (h.sb)
 have e0:w.cell? ⟨q,0,none⟩=some (.pointer (some ⟨p,0,none⟩)):=h.cellAt 0 _ rfl
 have Hr:=uQ hr;have Hl:=uQ hl;have Hm:=uQ (And.intro hm hm2);have MS:=uQ hs1;have Hand:=uQ hand;have MH:=uQ (And.intro hmn sG);have V8:=uQ Qm;have Hn:=uQ hn;have Hd:=uQ hd
 obtain ⟨LL,wF⟩:∃ LL,lit.length=LL:=⟨_,rfl⟩
 have oD:=uQ wF
 clear hr hl hm hm2 hs1 hn hd htok hhi hlo lH hT h wF hand hmn sG Qm
 go_enter Tryz.func148,Tryz.ntmps148
 go_wp2_with fail
 refine hnum.mono ?_
 rintro ee w1 ⟨v,rfl,rv1,rfl,hF1,h1'⟩
 have h1:Sat w0 w1 (ku q p (.slice oa out.length oc) most::ji p rv1::aK (.slice oa out.length oc) out::F):=h1'.sb
 have qm:=uQ (hF1 _ Hr.out)
 clear hnum e0 h1' hF1
 go_wp2_with fail
 have h2:=h1.drew
 have hG:World.cell? _ ⟨q,0,none⟩=some (.pointer (some ⟨p,0,none⟩)):=h2.cellP aH 0 rfl
 have hlen:=RH (L:=lit.length) (r:=lit++s1) (F:=aK (.slice oa out.length oc) out::F) Hl.out (qm.out.more iJ) h2
 rw [V8.out,oD.out]at hlen
 clear h1 hw1
 refine dh [8,9] (fun w'=>w'.cell? ⟨q,0,none⟩=some (.pointer (some ⟨p,0,none⟩))) au ?_
 refine rP 0 ?_ (y:=aG)
 refine rP 1 ?_ (y:=dL)
 refine rP 2 ?_ (y:=cO)
 refine rt 3 (h:=?_)
 clear hG
 refine rP 4 ?_ (y:=aG)
 refine rP 5 ?_ (y:=aG)
 refine rP 6 ?_ (y:=dB)
 refine bG 7 aj au (fun K hK=>?_)
 (refine eU au aj aj ?_)
 refine hlen.mono ?_
 rintro ee w3 ⟨v,rfl,KP,rfl,hF2,h3⟩
 refine hK _ _ (.inr (.inl (h3.cellP aH 0 rfl))) ?_
 rw [oD.out]at qm
 have AB:=uQ (hF2 _ qm.out)
 clear hK hlen h2 hF2 hsh
 refine bG 8 aj au (fun K hK=>?_)
 (refine eU au aj aj ?_)
 refine (adi (k:=LL) (m:=lit++s1) (F:=ku q p (.slice oa out.length oc) most::aK (.slice oa out.length oc) out::F) (by rw [List.length_append,oD.out];omega) (by have:=Hl.out;have:=oD.out;omega) (AB.out.more iJ) (h3.sb)).mono ?_
 rintro ee w4 ⟨v,rfl,rv3,hF3,⟨la,ln,lc,rfl⟩,h4⟩
 refine hK _ _ (.inl rfl) ?_
 have hr3:=hF3 _ AB.out
 rw [show (lit++s1).take LL=lit by rw [← oD.out,List.take_left'];rfl]at h4
 rw [show (lit++s1).drop LL=s1 by rw [← oD.out,List.drop_left'];rfl]at hr3
 obtain ⟨_,_,_,q0,x1,x2,x3⟩:=iY h4
 cases q0
 rw [oD.out]at x3
 subst x3
 have DJ:=uQ hr3
 clear hK h3 hF3 hr3 x1 x2 AB qm
 refine rP 9 ?_ (y:=dN)
 refine cu au ?_
 have h5:Sat w0 w4 (ku q p (.slice oa out.length oc) most::ji p rv3::aK (.slice oa out.length oc) out::aK (.slice la ln lc) lit::F):=h4.sb
 have e0:w4.cell? ⟨q,0,none⟩=some (.pointer (some ⟨p,0,none⟩)):=h5.cellP aH 0 rfl
 have her:=zS (h5.sb:Sat w0 w4 (ji p rv3::F))
 obtain ⟨yI,Jj⟩:∃ x,most - out.length=x:=⟨_,rfl⟩
 have hm:=Hm.out
 have hwr:IntKind.i64.wrap ((most:Int) - (out.length:Int))=(yI:Int):=by rw [IntWalk.i64_in _ oQ];omega
 have hlr:=oD.out
 have cr:decide ((yI:Int)<(ln:Int))=false:=decide_eq_false oQ
 have vO:decide (yI<ln)=false:=decide_eq_false oQ
 clear h4 hm Jj hlr
 go_wp2_with fail
 refine her.mono ?_
 rintro ee w5 ⟨v,rfl,rfl,rfl⟩
 clear her e0
 go_wp2_with fail
 have h6:=h5.drew
 have hG:World.cell? _ ⟨q,2,none⟩=some (.int .i64 (most:Nat))∧World.cell? _ ⟨q,1,none⟩=some (.slice oa out.length oc):=⟨h6.cellP aH 2 rfl,h6.cellP aH 1 rfl⟩
 clear h5
 refine dh [11,12] (fun w'=>w'.cell? ⟨q,2,none⟩=some (.int .i64 (most:Nat))∧w'.cell? ⟨q,1,none⟩=some (.slice oa out.length oc)) au ?_
 refine rP 0 ?_ (y:=aG)
 refine rP 1 ?_ (y:=(nG aj bT))
 refine rP 2 ?_ (y:=aG)
 refine rP 3 ?_ (y:=dL)
 refine rP 4 ?_ (y:=cO)
 refine rt 5 (h:=?_)
 refine rP 6 ?_ (y:=aG)
 refine rP 7 ?_ (y:=dL)
 refine rP 8 ?_ (y:=cO)
 refine rt 9 (h:=?_)
 clear hG
 refine rP 10 ?_ (y:=(nG aj bT))
 refine rP 11 ?_ (y:=dB)
 refine rP 12 ?_ (y:=dB)
 refine cu au ?_
 have e1:World.cell? _ ⟨q,1,none⟩=some (.slice oa out.length oc):=h6.cellP aH 1 rfl
 clear hwr cr vO
 go_wp2_with (with_reducible apply jf)
 refine ⟨wY 5 1 1 au h6 ah ah (xs:=ay out) (ys:=ay lit) dM (Sat.rd (h6.sb:Sat w0 _ (aK (.slice la ln lc) lit::F))) (jU _) (by rw [aU,aU];have:=Hm.out;omega) aJ ?_⟩
 intro v7 w7 h7
 rw [← jQ]at h7
 have h7:Sat w0 w7 (aK v7 (out++lit)::ku q p (.slice oa out.length oc) most::ji p rv3::F):=(show Sat w0 w7 (aK v7 (out++lit)::ku q p (.slice oa out.length oc) most::ji p rv3::aK (.slice la ln lc) lit::F) from h7).sb
 obtain ⟨ta,tn,tc,rfl,x1,x2,x3⟩:=iY h7
 have Gw:=uQ x3
 clear h6 e1 x1 x2 x3
 go_wp2_with (with_reducible apply bU)
 refine ⟨eX (cs':=#[ptr p,.slice ta tn tc,.int .i64 (most:Nat)]) (h7.pick aP) ah aj ah bJ bH au ah ?_⟩
 intro w8 h8
 replace h8:Sat w0 w8 (ku q p (.slice ta tn tc) most::aK (.slice ta tn tc) (out++lit)::ji p rv3::F):=h8
 clear h7
 have e0:w8.cell? ⟨q,0,none⟩=some (.pointer (some ⟨p,0,none⟩)):=h8.cellP aH 0 rfl
 have hlf:=adO (p:=p) (F:=ku q p (.slice ta tn tc) most::aK (.slice ta tn tc) (out++lit)::F) (DJ.out.more iJ) (h8.sb)
 rcases Hn.out with ⟨hn0,hr0⟩|⟨hn4,uw⟩
 ·as_aux_lemma=>
   subst hn0 hr0
   have hs0:s1=[]:=by rw [← MS.out];rfl
   subst hs0
   have iP:=uQ (h8.sb:Sat w0 w8 (ku q p (.slice ta tn tc) most::ji p rv3::aK (.slice ta tn tc) (out++lit)::F))
   clear h8
   go_wp2_with fail
   refine hlf.mono ?_
   rintro ee w9 ⟨v,rfl,rfl,rfl⟩
   clear hlf e0
   go_wp2_with fail
   go_ret2
   exact ⟨_,rfl,rfl,rv3,DJ.out,_,iP.out⟩
 ·as_aux_lemma=>
   obtain ⟨hd0,hd1,hd2⟩:=Hd.out oQ
   obtain ⟨c0,c1,hle,hnum⟩:=Lz.abm d hd1
   have hs1:s1=c0::c1::(Lz.tail4 m++r):=by rw [← MS.out,if_neg oQ,hle];rfl
   subst hs1
   have z0:(((c0::c1::(Lz.tail4 m++r)).length:Int)==0)=false:=by rw [beq_eq_false_iff_ne,List.length_cons];omega
   obtain ⟨zl,hzl⟩:∃ x,(c0::c1::(Lz.tail4 m++r)).length=x:=⟨_,rfl⟩
   rw [hzl]at hlf z0
   have VK:¬ d=0:=oQ
   have zd2:(d==0)=false:=beq_eq_false_iff_ne.2 VK
   have hol:=Gw.out
   rw [List.length_append,oD.out]at hol
   have hm:=Hm.out
   obtain ⟨hmn,sG⟩:=MH.out
   have zd:((d:Int)==0)=false:=by rw [beq_eq_false_iff_ne];omega
   have cd:decide ((tn:Int)<(d:Int))=false:=decide_eq_false (by have:=oD.out;omega)
   have D9:decide (tn<d)=false:=decide_eq_false (by have:=oD.out;omega)
   have hwd:IntKind.i64.wrap (d:Int)=(d:Int):=IntWalk.i64_in _ oQ
   have hw4:IntKind.i64.wrap ((m:Int)+4)=(n:Int):=by rw [IntWalk.i64_in _ oQ];omega
   obtain ⟨yI,Jj⟩:∃ x,most - tn=x:=⟨_,rfl⟩
   have hwr:IntKind.i64.wrap ((most:Int) - (tn:Int))=(yI:Int):=by have:=oD.out;rw [IntWalk.i64_in _ oQ];omega
   have cr:decide ((yI:Int)<(n:Int))=false:=decide_eq_false (by have:=oD.out;omega)
   have vO:decide (yI<n)=false:=decide_eq_false (by have:=oD.out;omega)
   have hnm:=adQ (p:=p) (F:=ku q p (.slice ta tn tc) most::aK (.slice ta tn tc) (out++lit)::F) (DJ.out.more iJ) (h8.sb)
   rw [hnum]at hnm
   have H7:=uQ (And.intro zd (And.intro cd (And.intro D9 (And.intro hw4 (And.intro hwr (And.intro cr vO))))))
   have qh:=uQ (And.intro hd0 (show d≤(out++lit).length by rw [List.length_append];omega))
   have Gv:=uQ (show m<270 by omega)
   have Az:=uQ (show (out++lit).length+n≤100000 by rw [List.length_append];omega)
   have MK:=uQ (show ¬ n=0 by omega)
   clear hd0 hd1 hd2 hle hnum hzl hol hm hmn sG zd cd D9 hw4 hwr cr vO Jj hn4 uw
   go_wp2_with fail
   refine hlf.mono ?_
   rintro ee w9 ⟨v,rfl,rfl,rfl⟩
   clear hlf
   go_wp2_with fail
   clear z0
   refine hnm.mono ?_
   rintro ee w10 ⟨v,rfl,Uj,rfl,Qe,P8⟩
   have h10:Sat w0 w10 (ku q p (.slice ta tn tc) most::ji p Uj::aK (.slice ta tn tc) (out++lit)::F):=P8.sb
   have MQ:=uQ (Qe _ DJ.out)
   clear hnm h8 P8 Qe e0
   have e0:w10.cell? ⟨q,0,none⟩=some (.pointer (some ⟨p,0,none⟩)):=h10.cellP aH 0 rfl
   have her:=zS (h10.sb:Sat w0 w10 (ji p Uj::F))
   go_wp2_with fail
   refine her.mono ?_
   rintro ee fU ⟨v,rfl,rfl,rfl⟩
   clear her e0 hwd
   have e1:w10.cell? ⟨q,1,none⟩=some (.slice ta tn tc):=h10.cellP aH 1 rfl
   obtain ⟨zd,cd,D9,hw4,hwr,cr,vO⟩:=H7.out
   have hand:=Hand.out
   have hlen:=RH (L:=m) (r:=r) (F:=aK (.slice ta tn tc) (out++lit)::F) Gv.out (MQ.out.more iJ) h10
   rw [MH.out.2]at hlen
   clear hw4 hwr cr vO
   go_wp2_with fail
   refine hlen.mono ?_
   rintro ee w12 ⟨v,rfl,KQ,rfl,Qg,h12⟩
   have Xa:=uQ (Qg _ MQ.out)
   clear hlen h10 Qg zd cd D9 hand e1 VK zd2
   have e0:w12.cell? ⟨q,0,none⟩=some (.pointer (some ⟨p,0,none⟩)):=h12.cellP aH 0 rfl
   have her:=zS (h12.sb:Sat w0 w12 (ji p KQ::F))
   go_wp2_with fail
   refine her.mono ?_
   rintro ee jH ⟨v,rfl,rfl,rfl⟩
   clear her e0
   obtain ⟨_,_,_,hw4,hwr,cr,vO⟩:=H7.out
   go_wp2_with fail
   have jE:=h12.drew
   have hG:World.cell? _ ⟨q,2,none⟩=some (.int .i64 (most:Nat))∧World.cell? _ ⟨q,1,none⟩=some (.slice ta tn tc):=⟨jE.cellP aH 2 rfl,jE.cellP aH 1 rfl⟩
   clear h12
   refine dh [11,12] (fun w'=>w'.cell? ⟨q,2,none⟩=some (.int .i64 (most:Nat))∧w'.cell? ⟨q,1,none⟩=some (.slice ta tn tc)) au ?_
   refine rP 0 ?_ (y:=aG)
   refine rP 1 ?_ (y:=dB)
   refine rP 2 ?_ (y:=aG)
   refine rP 3 ?_ (y:=dL)
   refine rP 4 ?_ (y:=cO)
   refine rt 5 (h:=?_)
   refine rP 6 ?_ (y:=aG)
   refine rP 7 ?_ (y:=dL)
   refine rP 8 ?_ (y:=cO)
   refine rt 9 (h:=?_)
   clear hG
   refine rP 10 ?_ (y:=(nG aj bT))
   refine rP 11 ?_ (y:=dB)
   refine rP 12 ?_ (y:=dB)
   refine cu au ?_
   have hcp:=abL (q:=q) (p:=p) (ov:= .slice ta tn tc) (most:=most) (d:=d) (n:=n) (out:=out++lit) (F:=ji p KQ::F) qh.out.1 qh.out.2 Az.out (jE.sb)
   clear hwr cr vO jE
   go_wp2_with fail
   refine hcp.mono ?_
   rintro ee Dk ⟨v,rfl,vv,h15⟩
   clear hcp
   have hd0:decide (n=0)=false:=decide_eq_false MK.out
   go_wp2_with fail
   go_ret2
   exact ⟨_,rfl,KQ,vv,by rw [decide_eq_false MK.out];rfl,Xa.out,h15.sb⟩
theorem aeG (p:Nat) (n:Int) (w:World):(Instr.build 247 #[(0,ptr p),(2,.int .i64 n)]).run Tryz.prog w = .ok (.agg #[ptr p,.slice none 0 0,.int .i64 n]) w:=by kernel_rfl
set_option maxRecDepth 20000 in
theorem abC {ps:List Lz.Part}{lit b:ak.Bs}{most:Nat} (hok:Lz.rX [] ps) (ht:Lz.tell [] ps++lit=b) (hb:b.length≤250) (hm:b.length≤most) (hm2:most≤65536) (hk:(Lz.flat ps++Lz.seqB lit 0 0).length≤1000000) (hr:RS w0 F rv (Lz.flat ps++Lz.seqB lit 0 0)) (h:Sat w0 w F) :
  Calls Tryz.prog 102 #[rv,.int .i64 (most:Nat)] w (aI fun v w'=>∃ ra rn rc,v = .tuple #[.slice ra rn rc,errno 0]∧Sat w0 w' (aK (.slice ra rn rc) b::F)):=by
 obtain ⟨B,hB⟩:∃ B,Lz.flat ps++Lz.seqB lit 0 0=B:=⟨_,rfl⟩
 rw [hB]at hr hk
 obtain ⟨ba,bc,rfl,y1,y2⟩:=hr.len h
 have hop:=adS oQ hr h
 have c1:decide ((most:Int)<0)=false:=decide_eq_false oQ
 have c2:decide ((65536:Int)<(most:Int))=false:=decide_eq_false oQ
 have N9:decide (65536<most)=false:=decide_eq_false oQ
 have bY:=uQ hok;have Ht:=uQ ht;have Hb:=uQ (And.intro hb (And.intro hm hm2));have HB:=uQ hB
 clear hr y1 y2 hok ht hb hm hm2 hk hB
 go_enter Tryz.func102,Tryz.ntmps102
 go_wp2_with fail
 refine hop.mono ?_
 rintro ee w1 ⟨v,rfl,p,wU,rfl,h1,hR⟩
 have HR:=uQ hR
 clear hop h hR c1 c2 N9
 go_wp2_with (first
  |((with_reducible apply wW);refine ⟨?_⟩;refine uM (ps:=#[(0,ptr p),(2,.int .i64 (most:Nat))]) (by simp only [List.map_toArray,List.map_cons,List.map_nil];rfl) (fun w=>aeG p most w) ?_)
  |(with_reducible apply fH))
 refine ⟨fO h1 ah ah ?_⟩
 intro q w2 h2
 have h3:Sat w0 w2 (ku q p (.slice none 0 0) most::ji p wU::aK (.slice none 0 0) []::aK wU B::F):=
  (Sat.fM.2 h2:Sat w0 w2 (aK (.slice none 0 0) []::ku q p (.slice none 0 0) most::ji p wU::aK wU B::F)).sb
 clear h1 h2
 go_wp2_with fail
 try go_frame
 go_loopg [7] ps.length (fun g iq wr=>∃ (qs:List Lz.Part) (acc:ak.Bs) (rv' v':Value),qs.length=g∧Lz.tell acc qs++lit=b∧Lz.rX acc qs∧RS w0 (aK wU B::F) rv' (Lz.flat qs++Lz.seqB lit 0 0)∧Sat w0 wr (ku q p v' most::ji p rv'::aK v' acc::aK wU B::F))
 case atStart=>exact ⟨ps,[],wU,_,rfl,Ht.out,bY.out,by rw [HB.out];exact HR.out,h3⟩
 case round=>
  obtain ⟨qs,acc,rv',v',rfl,hbt,hqk,hrs,hS⟩:=hrel
  clear h3
  obtain ⟨b1,b2,b3⟩:=Hb.out
  have hbl:=congrArg List.length hbt
  rw [List.length_append]at hbl
  cases qs with
  |nil=>
   as_aux_lemma=>
    have e:Lz.flat []++Lz.seqB lit 0 0=Lz.seqB lit 0 0++[]:=by rw [List.append_nil];rfl
    rw [e]at hrs
    have lH:=Tt (q:=q) (p:=p) (most:=most) (n:=0) (d:=0) (.inl ⟨rfl,rfl⟩) (fun c=>absurd rfl c) oQ (by have:(Lz.tell acc []).length=acc.length:=rfl;omega) b3 hrs hS
    have Wh:=uQ (show Lz.kN (acc++lit) 0 0=b from hbt)
    clear hS hrs hbt hqk hbl b1 b2 b3
    go_wp2_with fail
    refine lH.mono ?_
    rintro ee w5 ⟨v,rfl,KP,v2,rfl,hr2,h5⟩
    rw [Wh.out]at h5
    obtain ⟨ta,tn,tc,rfl,x1,x2,x3⟩:=iY h5.dM
    have e1:w5.cell? ⟨q,1,none⟩=some (.slice ta tn tc):=h5.cellP aH 1 rfl
    have iP:=uQ (h5.sb:Sat w0 w5 (aK (.slice ta tn tc) b::F))
    clear lH h5 hr2 x1 x2 x3
    go_wp2_with fail
    go_ret2
    exact ⟨_,rfl,ta,tn,tc,rfl,iP.out⟩
  |cons x qs=>
   as_aux_lemma=>
    obtain ⟨xl,xd,xn⟩:=x
    have e:Lz.flat ((xl,xd,xn)::qs)++Lz.seqB lit 0 0=Lz.seqB xl xd xn++(Lz.flat qs++Lz.seqB lit 0 0):=by
     unfold Lz.flat
     rw [List.flatMap_cons,List.append_assoc]
    rw [e]at hrs
    obtain ⟨⟨o1,o2,o3,o4⟩,hqk⟩:=hqk
    have htl:=Lz.U3 qs (Lz.kN (acc++xl) xd xn)
    rw [Lz.Ih,List.length_append]at htl
    have hbl:(Lz.tell (Lz.kN (acc++xl) xd xn) qs).length+lit.length=b.length:=hbl
    rw [List.length_append]at o3
    have o1:0<xd:=o1
    have o2:xd≤65535:=o2
    have o3:xd≤acc.length+xl.length:=o3
    have o4:4≤xn:=o4
    have lH:=Tt (q:=q) (p:=p) (most:=most) (n:=xn) (d:=xd) (lit:=xl) (r:=Lz.flat qs++Lz.seqB lit 0 0) (out:=acc) (F:=aK wU B::F) (.inr ⟨o4,by omega⟩) (fun _=>⟨o1,o2,o3⟩) oQ oQ b3 hrs hS
    rw [decide_eq_false (show ¬ xn=0 by omega)]at lH
    have Hn:=uQ (And.intro hqk (show Lz.tell (Lz.kN (acc++xl) xd xn) qs++lit=b from hbt))
    clear hS hrs hbt hqk hbl b1 b2 b3 o1 o2 o3 o4 htl e
    go_wp2_with fail
    refine lH.mono ?_
    rintro ee w5 ⟨v,rfl,KP,v2,rfl,hr2,h5⟩
    have AB:=uQ hr2
    clear lH hr2
    go_wp2_with fail
    go_roundg qs.length
    case measure=>exact Nat.lt_succ_self _
    case rel=>exact ⟨qs,_,KP,v2,rfl,Hn.out.2,Hn.out.1,AB.out,h5⟩
end
section
variable {w0 w:World}{F:List aC}{bv:Value}{b rest:ak.Bs}
set_option maxRecDepth 20000 in
theorem Vx {kd:UInt8}{n:Nat} (hn:n<4294967296) (hl:rest.length≤100000) (hr:RS w0 F bv rest) (h:Sat w0 w F) :
  Calls Tryz.prog 92 #[.int .u8 (kd.toNat:Int),.int .i64 (n:Nat),bv] w (aI fun v w'=>Sat w0 w' (aK v ([kd]++ak.le n 4++rest)::F)):=by
 obtain ⟨a,c,rfl,hc1,hc2⟩:=hr.len h
 obtain ⟨L,hL⟩:∃ L,rest.length=L:=⟨_,rfl⟩
 have Hr:=uQ hr;have Hl:=uQ (show rest.length≤100000 from hl);have Hn:=uQ hn;have HL:=uQ hL
 rw [hL]at hl ⊢
 have hmk:∀ w,(Instr.makeSlice 27 (.int .i64 0) (.int .i64 ((5+L:Nat):Int))).run Tryz.prog w = .ok (.slice (some ⟨w.heap.size,0,none⟩) 0 (5+L)) (w.alloc (.cells (madeCells #[.int .u8 0] (5+L)) 5)):=RN 0 (5+L) oQ oQ
 have hw5:IntKind.i64.wrap (5+(L:Int))=((5+L:Nat):Int):=by rw [IntWalk.i64_in _ oQ];omega
 have hA:=h.alloc (.cells (madeCells #[.int .u8 0] (5+L)) 5)
 have hB:Sat w0 _ (aK (.slice (some ⟨w.heap.size,0,none⟩) 0 (5+L)) []::F):=RI (l:=0) (c:=5+L) oQ oQ hA
 have hwn:IntKind.u64.wrap (n:Int)=(n:Int):=by rw [IntKind.wrap_u64];omega
 have hwn2:(n:Int)%18446744073709551616=(n:Int):=oQ
 generalize 5+L=L5 at *
 clear hr hl hc1 hc2 hA hL hn
 go_enter Tryz.func92,Tryz.ntmps92
 go_wp2_with (first
  |((with_reducible refine kU ⟨?_⟩);refine lu (e:=5) (sz:=1) (dX:=1) au hB ah (cs:=#[.int .u8 kd.toNat]) rfl rfl bH ?_;intro bN wN hN)
  |((with_reducible refine jf ⟨?_⟩);refine lq 5 1 1 au hN ah ah (xs:=ay []) aP aH ah (Nat.le_refl 1) ah aJ (by show 1≤65536;decide) aJ (ys:=ay [kd]) rfl ?_;intro bA nA cA wA hA))
 have h2:Sat w0 wA (aK (.slice (some ⟨bA,0,none⟩) nA cA) ([]++[kd])::F):=hA
 have hput:Calls Tryz.prog 133 #[.int .u64 (n:Nat),.int .i64 4] wA (aI fun v w'=>Sat w0 w' (aK v (ak.le n 4)::aK (.slice (some ⟨bA,0,none⟩) nA cA) ([]++[kd])::F)∧∃ a,v = .slice a 4 4):=CO n (by have:=Hn.out;omega) h2
 clear hB hN hA h2 hw5 hmk
 go_wp2_with fail
 refine hput.mono ?_
 rintro ee w4 ⟨v,rfl,h3,pa,rfl⟩
 clear hput hwn hwn2
 go_wp2_with (with_reducible apply jf)
 refine ⟨wY 5 1 1 au h3 ah ah (xs:=ay ([]++[kd])) (ys:=ay (ak.le n 4)) aP (Sat.rd h3) (jU _) (by rw [aU,aU,ak.gW];show 1+4≤2147483648;decide) aJ ?_⟩
 intro v' w5 h4
 rw [← jQ]at h4
 have h5:Sat w0 w5 (aK v' ([]++[kd]++ak.le n 4)::F):=(show Sat w0 w5 (aK v' ([]++[kd]++ak.le n 4)::aK (.slice pa 4 4) (ak.le n 4)::F) from h4).sb
 clear h3 h4
 go_wp2_with (with_reducible apply jf)
 refine ⟨wY 5 1 1 au h5 ah ah (xs:=ay ([]++[kd]++ak.le n 4)) (ys:=ay rest) aH (show bK 1 (.slice a L c) (ay rest) w5 by rw [← HL.out];exact Hr.out.rd _ h5.drop) (jU _) (by rw [aU,aU,List.length_append,ak.gW];have:=Hl.out;show 1+4+rest.length≤2147483648;omega) aJ ?_⟩
 intro v2 w6 h6
 rw [← jQ]at h6
 have iP:=uQ (show Sat w0 w6 (aK v2 ([kd]++ak.le n 4++rest)::F) from h6)
 clear h5 h6
 go_wp2_with fail
 go_ret
 exact ⟨_,rfl,iP.out⟩
theorem ag1 (hl:b.length≤250) (hr:RS w0 F bv b) (h:Sat w0 w F) :
  Calls Tryz.prog 56 #[bv,.bool false] w (aI fun v w'=>∃ ra rn rc,v = .tuple #[.slice ra rn rc,errno 0]∧Sat w0 w' (aK (.slice ra rn rc) (Lz.iV b)::F)):=by
 obtain ⟨a,c,rfl,hc1,hc2⟩:=hr.len h
 have lH:=UG hl hr h
 have k1:¬ (16379:Int)<(b.length:Int):=oQ
 have Hr:=uQ hr;have Hl:=uQ hl
 by_cases hs:(Lz.blk b).length<b.length
 ·have He:=uQ (show Lz.iV b=[1]++ak.le b.length 4++Lz.blk b by unfold Lz.iV;rw [if_pos hs])
  have k2:((Lz.blk b).length:Int)<(b.length:Int):=oQ
  have Hs:=uQ hs
  clear hr hl hc1 hc2 hs
  go_enter Tryz.func56,Tryz.ntmps56
  go_wp2_with fail
  refine lH.mono ?_
  rintro ee w1 ⟨v,rfl,ra,rn,rc,rfl,h1⟩
  obtain ⟨_,_,_,q0,q1,q2,q3⟩:=iY h1
  cases q0
  subst q3
  have hpt:=Vx (kd:=1) (n:=b.length) (by have:=Hl.out;omega) (by have:=Hl.out;have:=Hs.out;omega) (RS.sK h1) h1
  clear lH h q1 q2 k1
  go_wp2_with fail
  refine hpt.mono ?_
  rintro ee w2 ⟨v,rfl,h2⟩
  obtain ⟨va,vn,vc,rfl,x1,x2,x3⟩:=iY h2
  clear x1 x2 x3
  have iP:=uQ (h2.sb:Sat w0 w2 (aK (.slice va vn vc) ([1]++ak.le b.length 4++Lz.blk b)::F))
  clear hpt h1 h2
  go_wp2_with fail
  go_ret2
  exact ⟨_,rfl,va,vn,vc,rfl,by rw [He.out];exact iP.out⟩
 ·have He:=uQ (show Lz.iV b=[0]++ak.le b.length 4++b by unfold Lz.iV;rw [if_neg hs];rfl)
  have k2:¬ ((Lz.blk b).length:Int)<(b.length:Int):=oQ
  clear hr hl hc1 hc2 hs
  go_enter Tryz.func56,Tryz.ntmps56
  go_wp2_with fail
  refine lH.mono ?_
  rintro ee w1 ⟨v,rfl,ra,rn,rc,rfl,h1⟩
  obtain ⟨_,_,_,q0,q1,q2,q3⟩:=iY h1
  cases q0
  subst q3
  have hpt:=Vx (kd:=0) (n:=b.length) (by have:=Hl.out;omega) (by have:=Hl.out;omega) Hr.out h1.drop
  clear lH h q1 q2 k1
  go_wp2_with fail
  refine hpt.mono ?_
  rintro ee w2 ⟨v,rfl,h2⟩
  obtain ⟨va,vn,vc,rfl,x1,x2,x3⟩:=iY h2
  clear x1 x2 x3
  have iP:=uQ h2
  clear hpt h1 h2
  go_wp2_with fail
  go_ret2
  exact ⟨_,rfl,va,vn,vc,rfl,by rw [He.out];exact iP.out⟩
theorem abB {kd:UInt8}{n:Nat} (hkd:kd.toNat≤1) (hn:n≤16379) (hr:RS w0 F bv ([kd]++ak.le n 4++rest)) (h:Sat w0 w F) :
  Calls Tryz.prog 65 #[bv] w (aI fun v w'=>v = .tuple #[.int .i64 (kd.toNat:Int),.int .i64 (n:Nat),errno 0]∧w=w'):=by
 obtain ⟨W,hW⟩:∃ W,[kd]++ak.le n 4++rest=W:=⟨_,rfl⟩
 have hg0:W[0]?=some kd:=by rw [← hW];rfl
 have Ql:(W.drop 1).take 4=ak.le n 4:=by
  rw [← hW]
  show (ak.le n 4++rest).take 4=_
  rw [List.take_left' (ak.gW n 4)]
 have BL:5≤W.length:=by rw [← hW];simp only [List.length_append,List.length_singleton,ak.gW];omega
 rw [hW]at hr
 obtain ⟨a,c,rfl,hc1,hc2⟩:=hr.len h
 have hm:=RS.mid (l:=1) (h:=5) hr oQ BL
 rw [show (5:Nat) - 1=4 from rfl,Ql]at hm
 obtain ⟨sa,sc,hsd⟩:∃ sa sc,sliced a 1 5 c 1 = .slice sa 4 sc:=⟨_,_,rfl⟩
 rw [hsd]at hm
 have hsl:∀ w,(Instr.sliceAt 27 (.slice a W.length c) (some (.int .i64 1)) (some (.int .i64 5)) none).run Tryz.prog w = .ok (.slice sa 4 sc) w:=fun w=>by rw [← hsd];exact CY (l:=1) (h:=5) oQ oQ w
 have hg:=PY (ak.le n 4) (ak.gW n 4) sa sc (hm.rd w h)
 rw [ak.CG 4 n (by show n<4294967296;omega)]at hg
 have g1:(ay W)[0]?=some (.int .u8 kd.toNat):=nX.2 ⟨_,hg0,rfl⟩
 obtain ⟨bk,off,rfl,hcs⟩:=iU (hr.rd w h) g1
 have e0:=hcs _ _ g1
 rw [Nat.add_zero]at e0
 obtain ⟨WL,BK⟩:∃ x,W.length=x:=⟨_,rfl⟩
 rw [BK]at hsl ⊢
 have c1:¬ (WL:Int)<5:=oQ
 have c2:decide ((1:Int)<(kd.toNat:Int))=false:=decide_eq_false oQ
 have N9:decide (1<kd.toNat)=false:=decide_eq_false oQ
 have c3:decide ((16379:Int)<(n:Int))=false:=decide_eq_false oQ
 have c3n:decide (16379<n)=false:=decide_eq_false oQ
 have c4:(0:Int)<(WL:Int):=oQ
 have hw1:IntKind.i64.wrap (n:Int)=(n:Int):=IntWalk.i64_in _ oQ
 have hw2:IntKind.i64.wrap (kd.toNat:Int)=(kd.toNat:Int):=IntWalk.i64_in _ oQ
 clear hr h hm hsd hc1 hc2 hW Ql BL hg0 hcs g1 BK hn hkd
 go_enter Tryz.func65,Tryz.ntmps65
 go_wp2_with ((with_reducible refine zi ⟨?_⟩);refine Af ah ah ah hsl ?_)
 refine hg.mono ?_
 rintro ee w1 ⟨v,rfl,rfl,rfl⟩
 clear hg hsl
 go_wp2_with fail
 go_ret3
 exact ⟨_,rfl,rfl,rfl⟩
set_option maxRecDepth 20000 in
theorem abD (hl:b.length≤250) (hs:(Lz.blk b).length<b.length) (hr:RS w0 F bv (Lz.blk b)) (h:Sat w0 w F) :
  Calls Tryz.prog 66 #[bv,.int .i64 (b.length:Nat)] w (aI fun v w'=>∃ ra rn rc,v = .tuple #[.slice ra rn rc,errno 0]∧Sat w0 w' (aK (.slice ra rn rc) b::F)):=by
 obtain ⟨t1,t2,t3⟩:=Lz.acQ b (Lz.hsh b)
 have hlo:=abC (most:=b.length) (w0:=w0) (F:=F) (w:=w) t2 t1 hl (Nat.le_refl _) oQ (show (Lz.blk b).length≤1000000 by omega) hr h
 have Hr:=uQ hr;have Hl:=uQ hl
 obtain ⟨ba,bc,rfl,y1,y2⟩:=hr.len h
 obtain ⟨K,hK⟩:∃ K,(Lz.blk b).length=K:=⟨_,rfl⟩
 obtain ⟨N,hN⟩:∃ N,b.length=N:=⟨_,rfl⟩
 rw [hK,hN]at hs
 have c1:decide ((N:Int)≤(K:Int))=false:=decide_eq_false oQ
 have D8:decide (N≤K)=false:=decide_eq_false oQ
 have HN:=uQ hN
 rw [hK]at hlo Hr ⊢
 rw [hN]at hlo ⊢
 clear hr h y1 y2 t1 t2 t3 hl hN hs
 go_enter Tryz.func66,Tryz.ntmps66
 go_wp2_with fail
 refine hlo.mono ?_
 rintro ee w1 ⟨v,rfl,ra,rn,rc,rfl,h1⟩
 obtain ⟨_,_,_,q0,q1,q2,q3⟩:=iY h1
 cases q0
 rw [HN.out]at q3
 subst q3
 have lH:=UG Hl.out (RS.sK h1) h1
 clear hlo q1 q2
 go_wp2_with fail
 refine lH.mono ?_
 rintro ee w2 ⟨v,rfl,sa,sn,sc,rfl,h2⟩
 have heq:=DZ (Lz.blk b) (Lz.blk b) (Sat.rd h2) (Hr.out.rd _ (h2.sb:Sat w0 w2 F))
 rw [decide_eq_true rfl]at heq
 have iP:=uQ h2.drop
 clear lH h1 h2
 go_wp2_with fail
 refine heq.mono ?_
 rintro ee w3 ⟨v,rfl,rfl,rfl⟩
 clear heq
 go_wp2_with fail
 go_ret2
 exact ⟨_,rfl,_,_,_,rfl,iP.out⟩
set_option maxRecDepth 20000 in
theorem agB (hl:b.length≤250) (hr:RS w0 F bv (Lz.iV b)) (h:Sat w0 w F) :
  Calls Tryz.prog 33 #[bv] w (aI fun v w'=>∃ ra rn rc,v = .tuple #[.slice ra rn rc,errno 0]∧Sat w0 w' (aK (.slice ra rn rc) b::F)):=by
 obtain ⟨kd,rest,hW,hkd,hcase⟩:∃ (kd:UInt8) (rest:ak.Bs),Lz.iV b=[kd]++ak.le b.length 4++rest∧kd.toNat≤1∧(kd.toNat=1∧rest=Lz.blk b∧(Lz.blk b).length<b.length∨kd.toNat=0∧rest=b):=by
  unfold Lz.iV
  split
  ·rename_i hs;exact ⟨1,_,rfl,Nat.le_refl _,.inl ⟨rfl,rfl,hs⟩⟩
  ·exact ⟨0,b,rfl,by decide,.inr ⟨rfl,rfl⟩⟩
 rw [hW]at hr
 have hlk:=abB hkd oQ hr h
 have hd5:([kd]++ak.le b.length 4++rest).drop 5=rest:=by
  rw [List.drop_left']
  simp only [List.length_append,List.length_singleton,ak.gW]
 have BL:5≤([kd]++ak.le b.length 4++rest).length:=by simp only [List.length_append,List.length_singleton,ak.gW];omega
 obtain ⟨ba,bc,a2,c2,rfl,y1,y2,hsl,hrd⟩:=Ox hr h BL
 rw [hd5]at hsl hrd
 obtain ⟨WL,BK⟩:∃ x,([kd]++ak.le b.length 4++rest).length=x:=⟨_,rfl⟩
 rw [BK]at hlk hsl ⊢
 have Hl:=uQ hl;have Gz:=uQ hrd
 clear hr y1 y2 hd5 BL hW hkd BK hrd hl
 rcases hcase with ⟨k1,rfl,k3⟩|⟨k1,rfl⟩
 ·rw [k1]at hlk
  have hlo:=abD Hl.out k3 Gz.out h
  clear k1 k3 h
  go_enter Tryz.func33,Tryz.ntmps33
  go_wp2_with fail
  refine hlk.mono ?_
  rintro ee w1 ⟨v,rfl,rfl,rfl⟩
  clear hlk
  go_wp2_with ((with_reducible refine xJ ⟨?_⟩);refine yM ah ah hsl ?_)
  refine hlo.mono ?_
  rintro ee w2 ⟨v,rfl,ra,rn,rc,rfl,h2⟩
  have iP:=uQ h2
  clear hlo hsl h2
  go_wp2_with fail
  go_ret2
  exact ⟨_,rfl,_,_,_,rfl,iP.out⟩
 ·rw [k1]at hlk
  have hcl:=qA h (Gz.out.rd _ h) (by have:=Hl.out;omega)
  clear k1 h
  go_enter Tryz.func33,Tryz.ntmps33
  go_wp2_with fail
  refine hlk.mono ?_
  rintro ee w1 ⟨v,rfl,rfl,rfl⟩
  clear hlk
  go_wp2_with ((with_reducible refine xJ ⟨?_⟩);refine yM ah ah hsl ?_)
  refine hcl.mono ?_
  rintro ee w2 ⟨v,rfl,h2,ra,rn,rc,rfl⟩
  have iP:=uQ h2
  clear hcl hsl h2
  go_wp2_with fail
  go_ret2
  exact ⟨_,rfl,_,_,_,rfl,iP.out⟩
end
end Go.Proofs.YtlimfgdbfadohaaGreatDoor
namespace Go.aA
structure St.Ok (s:St):Prop where
 a:s.a<4294967296
 b:s.b<4294967296
 c:s.c<4294967296
 d:s.d<4294967296
 e:s.e<4294967296
 f:s.f<4294967296
 g:s.g<4294967296
 h:s.h<4294967296
theorem rG (x:Nat):x%4294967296<4294967296:=Nat.mod_lt _ aJ
theorem adV {s:St} (h:s.Ok) (k w:Nat):(round s k w).Ok:=⟨rG _,h.a,h.b,h.c,rG _,h.e,h.f,h.g⟩
theorem rounds_succ (b:Bs) (s:St) (i:Nat):rounds b s (i+1)=round (rounds b s i) (at_ K i) (at_ (sched b) i):=by
 unfold rounds
 rw [List.range'_concat,List.foldl_append,Nat.one_mul,Nat.zero_add];rfl
theorem KF {s:St} (h:s.Ok) (b:Bs):∀ i,(rounds b s i).Ok
 |0=>h
 |i+1=>by rw [rounds_succ];exact adV (KF h b i) _ _
theorem XG (s v:St):(add s v).Ok:=⟨rG _,rG _,rG _,rG _,rG _,rG _,rG _,rG _⟩
theorem Le (s:St) (b:Bs):(take s b).Ok:=XG _ _
theorem NQ:begin.Ok:=⟨by decide,by decide,by decide,by decide,by decide,by decide,by decide,by decide⟩
def mix (s v:St) (i:Nat):List Nat:=(add s v).l.take i++s.l.drop i
theorem abS (s v:St){i:Nat} (hi:i≤8):(mix s v i).length=8:=by
 unfold mix
 rw [List.length_append,List.length_take,List.length_drop,show (add s v).l.length=8 from rfl,show s.l.length=8 from rfl];omega
end Go.aA
namespace Go.Proofs.YtlimfgdbfadohaaGreatDoor
open Go Go.Sl Go.aB Go.MapKept Go.RowKit
def kE (w:World):Prop:=∀ i,i<64→w.cell? ⟨0,i,none⟩=some (.int .u32 (aA.at_ aA.K i:Nat))
def iG (s:aA.St):Array Value:=#[.int .u32 s.a,.int .u32 s.b,.int .u32 s.c,.int .u32 s.d,.int .u32 s.e,.int .u32 s.f,.int .u32 s.g,.int .u32 s.h]
theorem F7:iH Tryz.prog 176=some (.agg #[.int .u32 0,.int .u32 0,.int .u32 0,.int .u32 0,.int .u32 0,.int .u32 0,.int .u32 0,.int .u32 0]):=by kernel_rfl
theorem aeP (x0 x1 x2 x3 x4 x5 x6 x7:Int) (w:World):(Instr.build 176 #[(0,.int .u32 x0),(1,.int .u32 x1),(2,.int .u32 x2),(3,.int .u32 x3),(4,.int .u32 x4),(5,.int .u32 x5),(6,.int .u32 x6),(7,.int .u32 x7)]).run Tryz.prog w = .ok (.agg #[.int .u32 x0,.int .u32 x1,.int .u32 x2,.int .u32 x3,.int .u32 x4,.int .u32 x5,.int .u32 x6,.int .u32 x7]) w:=by kernel_rfl
theorem afC (s:aA.St){i:Nat} (hi:i<8):(iG s)[i]?=some (.int .u32 (aA.at_ s.l i:Nat)):=by
 rcases i with _|_|_|_|_|_|_|_|i
 all_goals first|rfl|omega
theorem abQ (s v:aA.St){i:Nat} (hi:i<8):(w32 (aA.mix s v i)).toArray[i]?=some (.int .u32 (aA.at_ s.l i:Nat)):=by
 rcases i with _|_|_|_|_|_|_|_|i
 all_goals first|rfl|omega
theorem abT (s v:aA.St){i:Nat} (hi:i<8):eG (w32 (aA.mix s v i)).toArray i [.int .u32 (((aA.at_ s.l i+aA.at_ v.l i)%4294967296:Nat):Int)]=(w32 (aA.mix s v (i+1))).toArray:=by
 rcases i with _|_|_|_|_|_|_|_|i
 all_goals first|rfl|omega
theorem aeE {x n:Nat} (h:bits .xor .u32 IntKind.u32.max (x:Int)=(n:Int)) (w:World):(Op.unary .xor (.int .u32 (x:Int))).run Tryz.prog w = .ok (.int .u32 (n:Int)) w:=by
 rw [← h]
 first|rfl|go_simp
theorem afW {s:aA.St} (h:s.Ok){k w:Nat}:∃ r6 r11 r25 d1 d2 u1 a1 n1 a2 x1 u2 u3 u4:Nat,aA.rr 6 s.e=r6∧aA.rr 11 s.e=r11∧aA.rr 25 s.e=r25∧bits .xor .u32 (r6:Int) (r11:Int)=(d1:Int)∧bits .xor .u32 (d1:Int) (r25:Int)=(d2:Int)∧IntKind.u32.wrap ((s.h:Int)+(d2:Int))=(u1:Int) ∧
  bits .and .u32 (s.e:Int) (s.f:Int)=(a1:Int)∧bits .xor .u32 IntKind.u32.max (s.e:Int)=(n1:Int)∧bits .and .u32 (n1:Int) (s.g:Int)=(a2:Int)∧bits .xor .u32 (a1:Int) (a2:Int)=(x1:Int)∧IntKind.u32.wrap ((u1:Int)+(x1:Int))=(u2:Int)∧IntKind.u32.wrap ((u2:Int)+(k:Int))=(u3:Int)∧IntKind.u32.wrap ((u3:Int)+(w:Int))=(u4:Int)∧aA.t1 s k w=u4:=by
 have hr:=fun n=>aA.nO n h.e
 have hn:4294967295 - s.e<4294967296:=oQ
 exact ⟨_,_,_,aA.rr 6 s.e ^^^ aA.rr 11 s.e,aA.rr 6 s.e ^^^ aA.rr 11 s.e ^^^ aA.rr 25 s.e,_,s.e &&& s.f,4294967295 - s.e,(4294967295 - s.e) &&& s.g,(s.e &&& s.f) ^^^ ((4294967295 - s.e) &&& s.g),_,_,_,rfl,rfl,rfl,u32_xor_nat _ _ (hr 6) (hr 11),u32_xor_nat _ _ (aA.nD (hr 6) (hr 11)) (hr 25),jP _ _,u32_and_nat _ _ h.e h.f,JY _ h.e,u32_and_nat _ _ hn h.g,u32_xor_nat _ _ (aA.oP h.e) (aA.oP hn),jP _ _,jP _ _,jP _ _,rfl⟩
theorem afY {s:aA.St} (h:s.Ok):∃ r2 r13 r22 d1 d2 a1 a2 x1 a3 x2 u:Nat,aA.rr 2 s.a=r2∧aA.rr 13 s.a=r13∧aA.rr 22 s.a=r22∧bits .xor .u32 (r2:Int) (r13:Int)=(d1:Int)∧bits .xor .u32 (d1:Int) (r22:Int)=(d2:Int)∧bits .and .u32 (s.a:Int) (s.b:Int)=(a1:Int)∧bits .and .u32 (s.a:Int) (s.c:Int)=(a2:Int)∧bits .xor .u32 (a1:Int) (a2:Int)=(x1:Int)∧bits .and .u32 (s.b:Int) (s.c:Int)=(a3:Int)∧bits .xor .u32 (x1:Int) (a3:Int)=(x2:Int)∧IntKind.u32.wrap ((d2:Int)+(x2:Int))=(u:Int)∧aA.t2 s=u:=by
 have hr:=fun n=>aA.nO n h.a
 exact ⟨_,_,_,aA.rr 2 s.a ^^^ aA.rr 13 s.a,aA.rr 2 s.a ^^^ aA.rr 13 s.a ^^^ aA.rr 22 s.a,s.a &&& s.b,s.a &&& s.c,(s.a &&& s.b) ^^^ (s.a &&& s.c),s.b &&& s.c,(s.a &&& s.b) ^^^ (s.a &&& s.c) ^^^ (s.b &&& s.c),_,rfl,rfl,rfl,u32_xor_nat _ _ (hr 2) (hr 13),u32_xor_nat _ _ (aA.nD (hr 2) (hr 13)) (hr 22),u32_and_nat _ _ h.a h.b,u32_and_nat _ _ h.a h.c,u32_xor_nat _ _ (aA.oP h.a) (aA.oP h.a),u32_and_nat _ _ h.b h.c,u32_xor_nat _ _ (aA.nD (aA.oP h.a) (aA.oP h.a)) (aA.oP h.b),jP _ _,rfl⟩
theorem adl (s:aA.St) (k w t u:Nat) (ht:aA.t1 s k w=t) (hu:aA.t2 s=u):∃ z1 z2:Nat,IntKind.u32.wrap ((t:Int)+(u:Int))=(z1:Int)∧IntKind.u32.wrap ((s.d:Int)+(t:Int))=(z2:Int)∧aA.round s k w=⟨z1,s.a,s.b,s.c,z2,s.e,s.f,s.g⟩:=
 ⟨_,_,jP _ _,jP _ _,by unfold aA.round;rw [ht,hu]⟩
section
variable {w0 w:World}{F:List aC}{a:Option Addr}{n c k:Nat}{b:Bs}{s:aA.St}
set_option maxRecDepth 20000 in
theorem Uw (hb:b.length=64) (hs:s.Ok) (hr:RS w0 F (.slice a 64 c) b) (hK:Ro w0 F kE) (h:Sat w0 w F) :
  Calls Tryz.prog 87 #[.agg (iG s),.slice a 64 c] w (aI fun v w'=>v = .agg (iG (aA.take s b))∧Sat w0 w' F):=by
 have Hr:=uQ hr;have Hb:=uQ hb;have Hs:=uQ hs;have HK:=uQ hK
 clear hr hb hs hK
 go_enter Tryz.func87,Tryz.ntmps87
 go_wp2_with (with_reducible apply fH)
 refine ⟨fO h aj aj ?_⟩
 intro b2 w2 h2
 replace h2:Sat w0 w2 (pt b2 (.cells (iG s) 176 (0,0))::F):=h2
 clear h
 go_wp2_with (with_reducible apply dY)
 refine ⟨dS F7 h2 rfl ?_⟩
 intro b4 w4 h4
 clear h2
 have hsc:=aeW Hb.out (Hr.out.more iJ) h4
 clear h4
 go_wp2_with fail
 refine hsc.mono ?_
 rintro ee w5 ⟨v,rfl,rfl,h5⟩
 clear hsc
 have dw:=uQ (vM (l:=aA.sched b) (by rw [aA.zY];exact Nat.le_refl _))
 have jA:=uQ (Nv (aA.sched b))
 have nP:=uQ (fun (i:Nat) (hi:i<64)=>AV (l:=aA.sched b) (i:=i) (by rw [aA.zY];exact hi))
 have Hwl:=uQ (aA.qx (aA.aeV b))
 generalize hA:jk (aA.sched b)=A at *
 clear hA
 go_wp2_with (with_reducible apply dY)
 refine ⟨dS F6 h5 rfl ?_⟩
 intro b5 w6 h6
 clear h5
 go_wp2_with (with_reducible apply bU)
 refine ⟨eH A h6 ah ah (dw.out.trans (vM (l:=[]) aJ).symm) bJ (by rw [dw.out];exact Cb) jA.out ?_⟩
 intro w7 h7
 clear h6
 go_wp2_with (first
  |((with_reducible refine bI ⟨?_⟩);refine fB (cs:=iG s) h7 ah (aO (aO aH)) Tryz.underlying176 rfl au ?_)
  |(with_reducible apply dY))
 refine ⟨dS F7 h7 rfl ?_⟩
 intro b6 w8 h8
 clear h7
 go_wp2_with (with_reducible apply bU)
 refine ⟨eH (iG s) h8 ah ah ah bJ au ah ?_⟩
 intro w9 h9
 clear h8
 go_wp2_with fail
 go_loopg [16] 64 (fun g iq wr=>∃ i:Nat,g=64 - i∧i≤64∧iq = .int .i64 i∧Sat w0 wr (pt b6 (.cells (iG (aA.rounds b s i)) 176 (0,0))::pt b5 (.cells A 129 (0,0))::pt b4 (.cells #[.int .u32 0,.int .u32 0,.int .u32 0,.int .u32 0,.int .u32 0,.int .u32 0,.int .u32 0,.int .u32 0] 176 (0,0))::pt b2 (.cells (iG s) 176 (0,0))::F))
 case atStart=>exact ⟨0,rfl,Nat.zero_le _,rfl,h9⟩
 case round=>
  obtain ⟨i,rfl,hi,rfl,hS⟩:=hrel
  clear h9
  by_cases hil:i<64
  rotate_left
  focus
   obtain rfl:i=64:=by omega
   have Hf:=uQ (show aA.take s b=aA.add s (aA.rounds b s 64) from rfl)
   obtain ⟨v,hv⟩:∃ v,aA.rounds b s 64=v:=⟨_,rfl⟩
   rw [hv]at hS Hf
   clear hv hi hil
   go_wp2_with fail
   go_loopg [96] 8 (fun g iq wr=>∃ i:Nat,g=8 - i∧i≤8∧iq = .int .i64 i∧Sat w0 wr (pt b2 (.cells (w32 (aA.mix s v i)).toArray 176 (0,0))::pt b6 (.cells (iG v) 176 (0,0))::pt b4 (.cells #[.int .u32 0,.int .u32 0,.int .u32 0,.int .u32 0,.int .u32 0,.int .u32 0,.int .u32 0,.int .u32 0] 176 (0,0))::F))
   case atStart=>exact ⟨0,rfl,Nat.zero_le _,rfl,hS.sb⟩
   case round=>
    obtain ⟨j,rfl,hj,rfl,hT⟩:=hrel
    clear hS
    by_cases hjl:j<8
    rotate_left
    focus
     obtain rfl:j=8:=by omega
     have hT:Sat w0 _ (pt b4 (.cells #[.int .u32 0,.int .u32 0,.int .u32 0,.int .u32 0,.int .u32 0,.int .u32 0,.int .u32 0,.int .u32 0] 176 (0,0))::pt b2 (.cells (iG (aA.add s v)) 176 (0,0))::F):=hT.sb
     clear hj hjl
     go_wp2_with (first
      |((with_reducible refine bI ⟨?_⟩);refine fB (cs:=iG (aA.add s v)) hT ah aP Tryz.underlying176 rfl au ?_)
      |(with_reducible apply bU))
     refine ⟨eH (iG (aA.add s v)) hT ah ah ah bJ au ah ?_⟩
     intro w10 h10
     go_wp2_with fail
     refine ⟨rfl,_,uI rfl h10 ah aH Tryz.underlying176 rfl au,_,rfl,by rw [Hf.out],h10.drop.drop⟩
    have c1:(j:Int)<8:=oQ
    have QV:IntKind.i64.wrap ((j:Int)+1)=(j:Int)+1:=IntWalk.i64_in _ oQ
    have g1:=abQ s v hjl
    have g2:=afC v hjl
    have hpt:=abT s v hjl
    have hsz:(w32 (aA.mix s v j)).toArray.size=8:=by rw [List.size_toArray,Dl,aA.abS s v hj]
    have hw1:=jP (aA.at_ s.l j) (aA.at_ v.l j)
    obtain ⟨z,hz⟩:∃ z,(aA.at_ s.l j+aA.at_ v.l j)%4294967296=z:=⟨_,rfl⟩
    rw [hz]at hpt hw1
    generalize aA.at_ s.l j=x1 at *
    generalize aA.at_ v.l j=x2 at *
    have xB:=uQ hjl;have yY:=uQ hpt;have Xf:=uQ hsz
    have hT2:=hT.drew
    have hG:World.cell? _ ⟨b2,j,none⟩=some (.int .u32 (x1:Int))∧World.cell? _ ⟨b6,j,none⟩=some (.int .u32 (x2:Int)):=⟨hT2.cellP aH j g1,hT2.cellP aP j g2⟩
    clear hT g1 g2 hpt hsz hz hj hjl
    go_wp2_with fail
    refine dh [6,7,8] (fun w'=>w'.cell? ⟨b2,j,none⟩=some (.int .u32 (x1:Int))∧w'.cell? ⟨b6,j,none⟩=some (.int .u32 (x2:Int))) au ?_
    refine rP 0 ?_ (y:=aG)
    refine rP 1 ?_ (y:=dZ)
    refine rt 2 (h:=?_)
    refine rP 3 ?_ (y:=aG)
    refine rP 4 ?_ (y:=dZ)
    refine rt 5 (h:=?_)
    clear hG
    refine rP 6 ?_ (y:=dB)
    refine rP 7 ?_ (y:=dZ)
    refine bG 8 aj au (fun K hK=>?_)
    refine jD (cs':=(w32 (aA.mix s v (j+1))).toArray) hT2 aj aj yY.out bJ (by rw [Xf.out];exact Nat.succ_le_of_lt xB.out) au ah ?_
    intro fU h11
    refine hK _ _ (.inl rfl) ?_
    clear hK hT2
    refine cu au ?_
    go_wp2_with fail
    go_roundg (8 - (j+1))
    case measure=>have:=xB.out;omega
    case rel=>exact ⟨j+1,rfl,Nat.succ_le_of_lt xB.out,by first|rfl|go_num,h11⟩
  have qm:=uQ (aA.rounds_succ b s i)
  have hro:=aA.KF Hs.out b i
  have g5:=nP.out i hil
  generalize aA.rounds b s i=r at *
  generalize aA.at_ (aA.sched b) i=wi at *
  obtain ⟨r6,r11,r25,d1,d2,u1,a1,n1,a2,x1,u2,u3,u4,f1,f2,f3,f4,f5,f6,f7,f8,f9,f10,f11,f12,f13,f14⟩:=afW hro (k:=aA.at_ aA.K i) (w:=wi)
  obtain ⟨q2,q13,q22,e1,e2,m1,m2,y1,m3,y2,uu,j1,j2,j3,j4,j5,j6,j7,j8,j9,j10,j11,j12⟩:=afY hro
  obtain ⟨z1,z2,l1,l2,l3⟩:=adl r (aA.at_ aA.K i) wi u4 uu f14 j12
  have HKK:=uQ (fun (w':World) (hw:Sat w0 w' F)=>HK.out w' hw i hil)
  generalize aA.at_ aA.K i=ki at *
  rw [l3]at qm
  have jZ:=uQ (fun (w':World) (G:List aC) (hw:Sat w0 w' G)=>adK r.e hro.e hw)
  have uh:=uQ (fun (w':World) (G:List aC) (hw:Sat w0 w' G)=>adC r.e hro.e hw)
  have uq:=uQ (fun (w':World) (G:List aC) (hw:Sat w0 w' G)=>adI r.e hro.e hw)
  have hR2:=uQ (fun (w':World) (G:List aC) (hw:Sat w0 w' G)=>adJ r.a hro.a hw)
  have uj:=uQ (fun (w':World) (G:List aC) (hw:Sat w0 w' G)=>adD r.a hro.a hw)
  have um:=uQ (fun (w':World) (G:List aC) (hw:Sat w0 w' G)=>adH r.a hro.a hw)
  rw [f1]at jZ;rw [f2]at uh;rw [f3]at uq;rw [j1]at hR2;rw [j2]at uj;rw [j3]at um
  obtain ⟨ra,rb,rc,rd,re,rf,rg,rh⟩:=r
  have hS:Sat w0 wr (pt b6 (.cells #[.int .u32 ra,.int .u32 rb,.int .u32 rc,.int .u32 rd,.int .u32 re,.int .u32 rf,.int .u32 rg,.int .u32 rh] 176 (0,0))::pt b5 (.cells A 129 (0,0))::pt b4 (.cells #[.int .u32 0,.int .u32 0,.int .u32 0,.int .u32 0,.int .u32 0,.int .u32 0,.int .u32 0,.int .u32 0] 176 (0,0))::pt b2 (.cells (iG s) 176 (0,0))::F):=hS
  dsimp only at f6 f7 f8 f9 j6 j7 j9 l2 qm jZ uh uq hR2 uj um
  obtain ⟨G,BF⟩:∃ G,G=pt b6 (.cells #[.int .u32 ra,.int .u32 rb,.int .u32 rc,.int .u32 rd,.int .u32 re,.int .u32 rf,.int .u32 rg,.int .u32 rh] 176 (0,0))::pt b5 (.cells A 129 (0,0))::pt b4 (.cells #[.int .u32 0,.int .u32 0,.int .u32 0,.int .u32 0,.int .u32 0,.int .u32 0,.int .u32 0,.int .u32 0] 176 (0,0))::pt b2 (.cells (iG s) 176 (0,0))::F:=⟨_,rfl⟩
  have HG:=uQ BF
  have Du:=uQ (show ∀ w',Sat w0 w' G→w'.cell? ⟨b6,7,none⟩=some (.int .u32 (rh:Int))∧w'.cell? ⟨b6,5,none⟩=some (.int .u32 (rf:Int))∧w'.cell? ⟨b6,6,none⟩=some (.int .u32 (rg:Int))∧w'.cell? ⟨0,i,none⟩=some (.int .u32 (ki:Int))∧w'.cell? ⟨b5,i,none⟩=some (.int .u32 (wi:Int)) from fun w' hw=>by
   rw [BF]at hw
   exact ⟨hw.cellP aH 7 rfl,hw.cellP aH 5 rfl,hw.cellP aH 6 rfl,HKK.out w' (hw.sb),hw.cellP aP i g5⟩)
  have HG2:=uQ (show ∀ w',Sat w0 w' G→w'.cell? ⟨b6,1,none⟩=some (.int .u32 (rb:Int))∧w'.cell? ⟨b6,2,none⟩=some (.int .u32 (rc:Int)) from fun w' hw=>by
   rw [BF]at hw
   exact ⟨hw.cellP aH 1 rfl,hw.cellP aH 2 rfl⟩)
  have v4:wr.cell? ⟨b6,4,none⟩=some (.int .u32 (re:Int)):=hS.cellP aH 4 rfl
  rw [← BF]at hS
  have c1:(i:Int)<64:=oQ
  have hwi:=pU (i:=i)
  have jL:=uQ hil
  clear BF hil hi hro f1 f2 f3 f14 j1 j2 j3 j12 l3 g5 HKK
  go_wp2_with fail
  have h1:=hS.drew
  have hG:=Du.out _ h1
  clear hS v4
  refine dh [29,30] (fun w'=>w'.cell? ⟨b6,7,none⟩=some (.int .u32 (rh:Int))∧w'.cell? ⟨b6,5,none⟩=some (.int .u32 (rf:Int))∧w'.cell? ⟨b6,6,none⟩=some (.int .u32 (rg:Int))∧w'.cell? ⟨0,i,none⟩=some (.int .u32 (ki:Int))∧w'.cell? ⟨b5,i,none⟩=some (.int .u32 (wi:Int))) au ?_
  refine rP 0 ?_ (y:=dZ)
  refine rt 1 (h:=?_)
  refine rP 2 ?_ (y:=aG)
  refine rP 4 ?_ (y:=aG)
  refine rP 7 ?_ (y:=aG)
  refine rP 11 ?_ (y:=aG)
  refine rP 12 ?_ (y:=dZ)
  refine rt 13 (h:=?_)
  refine rP 14 ?_ (y:=dB)
  refine rP 15 ?_ (y:=aG)
  refine rP 16 ?_ (y:=(ahc aj (aeE f8)))
  refine rP 17 ?_ (y:=dZ)
  refine rt 18 (h:=?_)
  refine rP 19 ?_ (y:=dB)
  refine rP 20 ?_ (y:=dB)
  refine rP 22 ?_ (y:=aG)
  refine rP 23 ?_ (y:=dZ)
  refine rt 24 (h:=?_)
  refine rP 26 ?_ (y:=aG)
  refine rP 27 ?_ (y:=dZ)
  refine rt 28 (h:=?_)
  clear hG
  refine bG 3 aj au (fun K hK=>?_)
  (refine eU au aj aj ?_)
  refine (jZ.out _ _ h1).mono ?_
  rintro ee fU ⟨v,rfl,rfl,h2⟩
  refine hK _ _ (.inr (.inl (Du.out _ h2))) ?_
  clear hK h1
  refine bG 5 aj au (fun K hK=>?_)
  (refine eU au aj aj ?_)
  refine (uh.out _ _ h2).mono ?_
  rintro ee w12 ⟨v,rfl,rfl,h3⟩
  refine hK _ _ (.inr (.inl (Du.out _ h3))) ?_
  clear hK h2
  refine rP 6 ?_ (y:=dB)
  refine bG 8 aj au (fun K hK=>?_)
  (refine eU au aj aj ?_)
  refine (uq.out _ _ h3).mono ?_
  rintro ee jH ⟨v,rfl,rfl,h4⟩
  refine hK _ _ (.inr (.inl (Du.out _ h4))) ?_
  clear hK h3
  refine rP 9 ?_ (y:=dB)
  refine rP 10 ?_ (y:=dB)
  refine rP 21 ?_ (y:=dB)
  refine rP 25 ?_ (y:=dB)
  refine rP 29 ?_ (y:=dB)
  refine rP 30 ?_ (y:=dN)
  refine cu au ?_
  clear f4 f5 f6 f7 f8 f9 f10 f11 f12 f13 jZ uh uq
  have v0:jH.cell? ⟨b6,0,none⟩=some (.int .u32 (ra:Int)):=by
   have h5:=h4
   rw [HG.out]at h5
   exact h5.cellP aH 0 rfl
  go_wp2_with fail
  have h5:=h4.drew
  have hG:=HG2.out _ h5
  clear h4 v0
  refine dh [22,23,24] (fun w'=>w'.cell? ⟨b6,1,none⟩=some (.int .u32 (rb:Int))∧w'.cell? ⟨b6,2,none⟩=some (.int .u32 (rc:Int))) au ?_
  refine rP 0 ?_ (y:=aG)
  refine rP 2 ?_ (y:=aG)
  refine rP 5 ?_ (y:=aG)
  refine rP 8 ?_ (y:=aG)
  refine rP 9 ?_ (y:=dZ)
  refine rt 10 (h:=?_)
  refine rP 11 ?_ (y:=dB)
  refine rP 12 ?_ (y:=aG)
  refine rP 13 ?_ (y:=dZ)
  refine rt 14 (h:=?_)
  refine rP 15 ?_ (y:=dB)
  refine rP 16 ?_ (y:=dB)
  refine rP 17 ?_ (y:=dZ)
  refine rt 18 (h:=?_)
  refine rP 19 ?_ (y:=dZ)
  refine rt 20 (h:=?_)
  refine rP 21 ?_ (y:=dB)
  refine rP 22 ?_ (y:=dB)
  clear hG
  refine bG 1 aj au (fun K hK=>?_)
  (refine eU au aj aj ?_)
  refine (hR2.out _ _ h5).mono ?_
  rintro ee pq ⟨v,rfl,rfl,h6⟩
  refine hK _ _ (.inr (.inl (HG2.out _ h6))) ?_
  clear hK h5
  refine bG 3 aj au (fun K hK=>?_)
  (refine eU au aj aj ?_)
  refine (uj.out _ _ h6).mono ?_
  rintro ee Dk ⟨v,rfl,rfl,h7⟩
  refine hK _ _ (.inr (.inl (HG2.out _ h7))) ?_
  clear hK h6
  refine rP 4 ?_ (y:=dB)
  refine bG 6 aj au (fun K hK=>?_)
  (refine eU au aj aj ?_)
  refine (um.out _ _ h7).mono ?_
  rintro ee w16 ⟨v,rfl,rfl,h8⟩
  refine hK _ _ (.inr (.inl (HG2.out _ h8))) ?_
  clear hK h7
  refine rP 7 ?_ (y:=dB)
  refine rP 23 ?_ (y:=dB)
  refine rP 24 ?_ (y:=dN)
  refine cu au ?_
  clear j4 j5 j6 j7 j8 j9 j10 j11 hR2 uj um
  rw [HG.out]at h8
  have v1:w16.cell? ⟨b6,1,none⟩=some (.int .u32 (rb:Int)):=h8.cellP aH 1 rfl
  have v2:w16.cell? ⟨b6,2,none⟩=some (.int .u32 (rc:Int)):=h8.cellP aH 2 rfl
  have v3:w16.cell? ⟨b6,3,none⟩=some (.int .u32 (rd:Int)):=h8.cellP aH 3 rfl
  have v5:w16.cell? ⟨b6,5,none⟩=some (.int .u32 (rf:Int)):=h8.cellP aH 5 rfl
  have v6:w16.cell? ⟨b6,6,none⟩=some (.int .u32 (rg:Int)):=h8.cellP aH 6 rfl
  go_wp2_with (first
   |((with_reducible apply wW);refine ⟨?_⟩;refine uM (ps:=#[(0,.int .u32 (z1:Int)),(1,.int .u32 (ra:Int)),(2,.int .u32 (rb:Int)),(3,.int .u32 (rc:Int)),(4,.int .u32 (z2:Int)),(5,.int .u32 (re:Int)),(6,.int .u32 (rf:Int)),(7,.int .u32 (rg:Int))]) (by simp only [List.map_toArray,List.map_cons,List.map_nil];rfl) (fun w=>aeP _ _ _ _ _ _ _ _ w) ?_)
   |(with_reducible apply bU))
  refine ⟨eH #[.int .u32 (z1:Int),.int .u32 (ra:Int),.int .u32 (rb:Int),.int .u32 (rc:Int),.int .u32 (z2:Int),.int .u32 (re:Int),.int .u32 (rf:Int),.int .u32 (rg:Int)] h8 ah ah ah bJ au ah ?_⟩
  intro Ve h9
  clear h8 v1 v2 v3 v5 v6
  go_wp2_with fail
  go_roundg (64 - (i+1))
  case measure=>have:=jL.out;omega
  case rel=>exact ⟨i+1,rfl,Nat.succ_le_of_lt jL.out,by first|rfl|go_num,by rw [qm.out];exact h9⟩
end
structure D where
 kind:Int
 name:ByteArray
 to:ByteArray
 n:Int
 m:Int
 bv:Value
 b:Bs
 lv:Value
 l:List Int
structure D.Few (w0:World) (F:List aC) (d e:D):Prop where
 kind:e.kind=d.kind
 name:e.name=shortS d.name 30
 to:e.to=shortS d.to 30
 n:e.n=d.n
 m:e.m=d.m
 b:e.b=d.b.take 100
 l:e.l=d.l.take 60
 lr:Ro w0 F (bK 1 e.lv (ints e.l))
 lc:kK e.lv
section
variable {w0 w:World}{F:List aC}{m fb nb b r:Nat}{M:aB}{bs:List Nat}{wv v bv dv:Value}{s:ByteArray}{fs:List bD}{K:Nat}
end
section
variable {P:Program}{w0 w:World}{L L' R:List aC}{b o:Nat}{ops:Array Oper}{rest:List Oper}{a:Act}{Q:Exit→Act→World→Prop}{dst:Option Tmp}{t ty T sz n c:Nat}{pos:String}{after:Array Edge}{x y:Operand}{v v0 v1 v2:Value}{xs:List Value}{K:Act→World→Prop}{E:Prop}
end
section
variable {w0 w:World}{F R:List aC}{d i:Nat}{D:aB}{Ep fv nv wv v lv bv:Value}{xs:List RF}{x:RF}{g:Ah}{K:Nat}
section
variable {ops:Array Oper}{a:Act}{Q:Exit→Act→World→Prop}{dst:Option Tmp}{t b n c:Nat}{pos:String}{after:Array Edge}{p q:Operand}{l:Bs}{K:Act→World→Prop}{E:Prop}
theorem OO (i:Nat) (z:UInt8) (hs:Sat w0 w (aK (.slice (some ⟨b,0,none⟩) n c) l::R)) (hx:a.eval p = .pointer (some ⟨b,i,none⟩)) (hy:a.eval q = .int .u8 z.toNat) (hi:i<l.length)
  (hK:∀ w',Sat w0 w' (aK (.slice (some ⟨b,0,none⟩) n c) (l.set i z)::R)→K (a.put dst undef) w') :
  if Region.wanted ⟨dst,.store 5 p q,t,pos,after,none⟩ (yielded ops a.tmps)=true then Oper.wp Tryz.prog ⟨dst,.store 5 p q,t,pos,after,none⟩ a w K Q else E:=by
 have h0:Sat w0 w (aF 5 1 (.slice (some ⟨b,0,none⟩) n c) (ay l)::R):=hs
 refine Y6 i h0 hx hy bJ (by rw [aU];exact hi) au rfl rfl fun w' hS=>hK w' ?_
 have e:(ay l).set i (.int .u8 z.toNat)=ay (l.set i z):=by unfold ay;rw [List.map_set]
 rw [e]at hS
 exact hS
end
theorem byte_at {b n c i:Nat}{l:Bs} (h:Sat w0 w (aK (.slice (some ⟨b,0,none⟩) n c) l::R)) (hi:i<l.length):w.cell? ⟨b,i,none⟩=some (.int .u8 (l.getD i 0).toNat):=by
 obtain ⟨g,he,hc,_⟩:=nV h hi 0
 cases he
 rw [hc,List.getD_eq_getElem?_getD,List.getElem?_eq_getElem hi];rfl
end
end Go.Proofs.YtlimfgdbfadohaaGreatDoor
namespace Go.aA
def rv (l:Bs):Nat→Bs
 |0=>l
 |i+1=>((rv l i).set i ((rv l i).getD (l.length - 1 - i) 0)).set (l.length - 1 - i) ((rv l i).getD i 0)
theorem Uk (l:Bs):∀ i,(rv l i).length=l.length
 |0=>rfl
 |i+1=>by rw [rv,List.length_set,List.length_set,Uk l i]
theorem aeT {l:Bs} (h:l.length=4∨l.length=8):rv l (l.length / 2)=l.reverse:=by
 rcases h with h|h
 ·rw [h]
  show rv l 2=l.reverse
  match l,h with
  |[a,b,c,d],_=>rfl
 ·rw [h]
  show rv l 4=l.reverse
  match l,h with
  |[a,b,c,d,e,f,g,i],_=>rfl
end Go.aA
namespace Go.Proofs.YtlimfgdbfadohaaGreatDoor
open Go Go.Sl Go.aB Go.MapKept Go.RowKit
section
variable {w0 w:World}{F:List aC}{g c:Nat}{l:Bs}
set_option maxRecDepth 20000 in
theorem adz (hl:l.length=4∨l.length=8) (h:Sat w0 w (aK (.slice (some ⟨g,0,none⟩) l.length c) l::F)) :
  Calls Tryz.prog 134 #[.slice (some ⟨g,0,none⟩) l.length c] w (aI fun _ w'=>Sat w0 w' (aK (.slice (some ⟨g,0,none⟩) l.length c) l.reverse::F)):=by
 have Hl:=uQ hl;have Xc:=uQ (aA.aeT hl)
 obtain ⟨n,hn⟩:∃ n,l.length=n:=⟨_,rfl⟩
 rw [hn]at h ⊢
 have Hn:=uQ hn
 have e1:IntKind.i64.wrap ((n:Int) - 1)=((n - 1:Nat):Int):=by rw [IntWalk.i64_in _ oQ];omega
 obtain ⟨n1,hn1⟩:∃ n1,n - 1=n1:=⟨_,rfl⟩
 rw [hn1]at e1
 have Ar:=uQ hn1
 clear hl hn hn1
 go_enter Tryz.func134,Tryz.ntmps134
 go_wp2_with fail
 clear e1
 go_loopg [2,3] (n / 2) (fun gg iq jq wr=>∃ i j:Nat,gg=n / 2 - i∧i≤n / 2∧j+i=n1∧iq = .int .i64 i∧jq = .int .i64 j∧Sat w0 wr (aK (.slice (some ⟨g,0,none⟩) n c) (aA.rv l i)::F))
 case atStart=>exact ⟨0,n1,rfl,Nat.zero_le _,rfl,rfl,rfl,h⟩
 case round=>
  obtain ⟨i,j,rfl,hi,hj,rfl,rfl,hS⟩:=hrel
  clear h
  have hnn:=Hl.out
  rw [Hn.out]at hnn
  have hn1:=Ar.out
  by_cases hil:i<n / 2
  rotate_left
  focus
   obtain rfl:i=n / 2:=by omega
   have c1:¬ ((n / 2:Nat):Int)<(j:Int):=oQ
   have hS:Sat w0 wr (aK (.slice (some ⟨g,0,none⟩) n c) l.reverse::F):=by
    have hr:=Xc.out
    rw [Hn.out]at hr
    rw [← hr];exact hS
   obtain ⟨m,hm⟩:∃ m,n / 2=m:=⟨_,rfl⟩
   rw [hm]at c1 ⊢
   clear hi hj hnn hn1 hil hm
   go_wp2_with fail
   go_end0
   exact ⟨_,rfl,hS⟩
  have c1:(i:Int)<(j:Int):=oQ
  have ci:(i:Int)<(n:Int):=oQ
  have cj:(j:Int)<(n:Int):=oQ
  have wi:IntKind.i64.wrap ((i:Int)+1)=((i+1:Nat):Int):=by rw [IntWalk.i64_in _ oQ];omega
  have wj:IntKind.i64.wrap ((j:Int) - 1)=((j - 1:Nat):Int):=by rw [IntWalk.i64_in _ oQ];omega
  have hlen:(aA.rv l i).length=n:=by rw [aA.Uk,Hn.out]
  have hnext:aA.rv l (i+1)=((aA.rv l i).set i ((aA.rv l i).getD j 0)).set j ((aA.rv l i).getD i 0):=by
   rw [aA.rv,Hn.out,show n - 1 - i=j by omega]
  have hij:i<n∧j<n∧j - 1+(i+1)=n1:=oQ
  have nS:=uQ hnext;have Gn:=uQ hij;have Hlen:=uQ hlen;have jL:=uQ hil
  generalize aA.rv l i=k at *
  have h1:=hS.drew
  have a1:=byte_at h1 (i:=i) (by rw [hlen];exact hij.1)
  have a2:=byte_at h1 (i:=j) (by rw [hlen];exact hij.2.1)
  obtain ⟨x,hx⟩:∃ x,k.getD i 0=x:=⟨_,rfl⟩
  obtain ⟨y,hy⟩:∃ y,k.getD j 0=y:=⟨_,rfl⟩
  rw [hx]at a1 nS
  rw [hy]at a2 nS
  obtain ⟨i1,hi1⟩:∃ i1,i+1=i1:=⟨_,rfl⟩
  obtain ⟨j1,hj1⟩:∃ j1,j - 1=j1:=⟨_,rfl⟩
  rw [hi1]at wi
  rw [hj1]at wj
  have yU:=uQ hi1;have WE:=uQ hj1
  have hG:World.cell? _ ⟨g,j,none⟩=some (.int .u8 y.toNat)∧World.cell? _ ⟨g,i,none⟩=some (.int .u8 x.toNat):=⟨a2,a1⟩
  clear hS a1 a2 hx hy hi1 hj1 hnext hij hlen hil hi hj hnn hn1
  go_wp2_with fail
  refine dh [12,13,14,15] (fun w'=>w'.cell? ⟨g,j,none⟩=some (.int .u8 y.toNat)∧w'.cell? ⟨g,i,none⟩=some (.int .u8 x.toNat)) au ?_
  refine rP 0 ?_ (y:=aG)
  refine rP 1 ?_ (y:=aG)
  refine rP 2 ?_ (y:=aG)
  refine rP 3 ?_ (y:=aG)
  refine rP 4 ?_ (y:=aG)
  refine rP 5 ?_ (y:=aG)
  refine rP 6 ?_ (y:=dZ)
  refine rt 7 (h:=?_)
  refine rP 8 ?_ (y:=aG)
  refine rP 9 ?_ (y:=aG)
  refine rP 10 ?_ (y:=dZ)
  refine rt 11 (h:=?_)
  clear hG
  refine rP 12 ?_ (y:=dZ)
  refine bG 13 aj au (fun K hK=>?_)
  refine OO i y h1 aj aj (by rw [Hlen.out];exact Gn.out.1) ?_
  intro w2 h2
  refine hK _ _ (.inl rfl) ?_
  clear hK h1
  refine rP 14 ?_ (y:=dZ)
  refine bG 15 aj au (fun K hK=>?_)
  refine OO j x h2 aj aj (by rw [List.length_set,Hlen.out];exact Gn.out.2.1) ?_
  intro w3 h3
  refine hK _ _ (.inl rfl) ?_
  clear hK h2
  refine cu au ?_
  go_wp2_with fail
  go_roundg (n / 2 - (i+1))
  case measure=>have:=jL.out;omega
  case rel=>exact ⟨i+1,j - 1,rfl,Nat.succ_le_of_lt jL.out,Gn.out.2.2,by rw [yU.out],by rw [WE.out],by rw [nS.out];exact h3⟩
theorem NR {x n:Nat} (hn:n=4∨n=8) (hput:Calls Tryz.prog 133 #[.int .u64 x,.int .i64 n] w (aI fun v w'=>Sat w0 w' (aK v (ak.le x n)::F)∧∃ a,v = .slice a n n)) :
  Calls Tryz.prog 88 #[.int .u64 x,.int .i64 n] w (aI fun v w'=>∃ g,v = .slice (some ⟨g,0,none⟩) n n∧Sat w0 w' (aK v (aA.fE x n)::F)):=by
 have Hl:=uQ (show (ak.le x n).length=n from ak.gW x n)
 have Hb:=uQ (show aA.fE x n=(ak.le x n).reverse from rfl)
 generalize ak.le x n=l at *
 have Hn:=uQ hn
 clear hn
 go_enter Tryz.func88,Tryz.ntmps88
 go_wp2_with fail
 refine hput.mono ?_
 rintro ee w1 ⟨v,rfl,h1,aa,rfl⟩
 clear hput
 obtain ⟨g,rfl⟩:∃ g,aa=some ⟨g,0,none⟩:=by
  rcases Sat.jR h1 with ⟨he,hh,_⟩|⟨g',n',cap',cs,he,_⟩
  ·have h2:=Hl.out;have h3:=Hn.out
   have h4:=congrArg List.length hh
   rw [aU]at h4
   simp only [List.length_nil]at h4
   omega
  ·cases he;exact ⟨_,rfl⟩
 have hr:=adz (l:=l) (g:=g) (c:=n) (by rw [Hl.out];exact Hn.out) (by rw [Hl.out];exact h1)
 rw [Hl.out,← Hb.out]at hr
 clear h1
 go_wp2_with fail
 refine hr.mono ?_
 rintro ee w2 ⟨v,rfl,h2⟩
 clear hr
 go_wp2_with fail
 go_ret
 exact ⟨_,rfl,g,rfl,h2⟩
end
end Go.Proofs.YtlimfgdbfadohaaGreatDoor
namespace Go.aA
theorem NU {s:St}{b:Bs} (h:b.length<64):blocks (b.length / 64) s b=(s,b):=by
 rw [show b.length / 64=0 by omega];rfl
theorem NV {s:St}{b:Bs} (h:64≤b.length):blocks (b.length / 64) s b=blocks ((b.drop 64).length / 64) (take s (b.take 64)) (b.drop 64):=by
 obtain ⟨n,hn⟩:∃ n,b.length / 64=n+1:=⟨b.length / 64 - 1,by omega⟩
 rw [hn,blocks,if_neg oQ,List.length_drop,show (b.length - 64) / 64=n by omega]
end Go.aA
namespace Go.Proofs.YtlimfgdbfadohaaGreatDoor
open Go Go.Sl Go.aB Go.MapKept Go.RowKit
def hs11 (s:aA.St) (rv:Value) (n:Int):Array Value:=#[.bool true,.int .u32 s.a,.int .u32 s.b,.int .u32 s.c,.int .u32 s.d,.int .u32 s.e,.int .u32 s.f,.int .u32 s.g,.int .u32 s.h,rv,.int .i64 n]
theorem aex (s:aA.St) (w:World):(Instr.build 179 #[(0,.bool true),(1,.agg (iG s))]).run Tryz.prog w = .ok (.agg (hs11 s (.slice none 0 0) 0)) w:=by kernel_rfl
theorem VF {P:Program}{ops:Array Oper}{a:Act}{dst:Option Tmp}{ty t:TypeId}{pos:String}{after:Array Edge}{x y:Operand}{vx vy v:Value} (hx:a.eval x=vx) (hy:a.eval y=vy) (hr:∀ w,(Instr.sliceAt ty vx none (some vy) none).run P w = .ok v w):Yields P ops ⟨dst,.slice ty x none (some y) none,t,pos,after,none⟩ v a:=
 .inl ⟨kR _ rfl,fun w=>by simp only [execOp,hx,hy,Option.map_some,Option.map_none,Sem.run_bind,hr,Result.andThen_ok,Sem.run_pure]⟩
section
variable {w0 w:World}{F:List aC}{p:Nat}{bv:Value}{b:Bs}
theorem afa (h:Sat w0 w F):Calls Tryz.prog 85 #[] w (aI fun v w'=>v = .agg (iG aA.begin)∧Sat w0 w' F):=by
 go_enter Tryz.func85,Tryz.ntmps85
 go_wp2_with (with_reducible apply dY)
 refine ⟨dS F7 h rfl ?_⟩
 intro b1 w1 h1
 go_wp2_with (first
  |((with_reducible apply wW);refine ⟨?_⟩;refine uM (v:= .agg (iG aA.begin)) ah (fun w=>by kernel_rfl) ?_)
  |(with_reducible apply bU))
 refine ⟨eH (iG aA.begin) h1 ah ah ah bJ au ah ?_⟩
 intro w2 h2
 go_wp2_with fail
 refine ⟨rfl,_,uI rfl h2 ah aH Tryz.underlying176 rfl au,_,rfl,rfl,h2.drop⟩
theorem afb (h:Sat w0 w F):Calls Tryz.prog 49 #[] w (aI fun v w'=>∃ p,v=ptr p∧Sat w0 w' (pt p (.cells (hs11 aA.begin (.slice none 0 0) 0) 179 (0,0))::F)):=by
 have hb:=afa h
 clear h
 go_enter Tryz.func49,Tryz.ntmps49
 go_wp2_with fail
 refine hb.mono ?_
 rintro ee w1 ⟨v,rfl,rfl,h1⟩
 clear hb
 go_wp2_with (first
  |((with_reducible apply wW);refine ⟨?_⟩;refine uM (ps:=#[(0,.bool true),(1,.agg (iG aA.begin))]) (by simp only [List.map_toArray,List.map_cons,List.map_nil];rfl) (aex aA.begin) ?_)
  |(with_reducible apply fH))
 refine ⟨fO h1 ah ah ?_⟩
 intro p w2 h2
 have h2:Sat w0 w2 (pt p (.cells (hs11 aA.begin (.slice none 0 0) 0) 179 (0,0))::F):=h2
 go_wp2_with fail
 go_ret
 exact ⟨_,rfl,p,rfl,h2⟩
theorem Uu {s:aA.St}{rv:Value}{n:Int} (h:Sat w0 w (pt p (.cells (hs11 s rv n) 179 (0,0))::F)):Calls Tryz.prog 86 #[ptr p] w (aI fun v w'=>v = .bool true∧w=w'):=by
 have e0:w.cell? ⟨p,0,none⟩=some (.bool true):=h.cellP aH 0 rfl
 clear h
 go_enter Tryz.func86,Tryz.ntmps86
 go_wp2
 go_ret
 exact ⟨_,rfl,rfl,rfl⟩
set_option maxRecDepth 20000 in
theorem afd (hl:b.length≤1073741824) (hr:RS w0 F bv b) (hK:Ro w0 F kE) (h:Sat w0 w (pt p (.cells (hs11 aA.begin (.slice none 0 0) 0) 179 (0,0))::F)) :
  Calls Tryz.prog 50 #[ptr p,bv] w (aI fun _ w'=>∃ ra rn rc,Sat w0 w' (aK (.slice ra rn rc) (aA.blocks (b.length / 64) aA.begin b).2::pt p (.cells (hs11 (aA.blocks (b.length / 64) aA.begin b).1 (.slice ra rn rc) b.length) 179 (0,0))::F)∧(aA.blocks (b.length / 64) aA.begin b).2.length<64∧(aA.blocks (b.length / 64) aA.begin b).1.Ok):=by
 obtain ⟨a,c,rfl,hc1,hc2⟩:=hr.len h.drop
 have hok:=Uu h
 obtain ⟨R,hR⟩:∃ R,aA.blocks (b.length / 64) aA.begin b=R:=⟨_,rfl⟩
 rw [hR]
 have Hr:=uQ hr;have HK:=uQ hK;have HR:=uQ hR;have Hl:=uQ hl
 have e10:w.cell? ⟨p,10,none⟩=some (.int .i64 0):=h.cellP aH 10 rfl
 clear hR hr hK hc1 hc2
 go_enter Tryz.func50,Tryz.ntmps50
 go_wp2_with fail
 refine hok.mono ?_
 rintro ee w1 ⟨v,rfl,rfl,rfl⟩
 clear hok
 obtain ⟨n,hn⟩:∃ n,b.length=n:=⟨_,rfl⟩
 have hw0:IntKind.i64.wrap ((0:Int)+(n:Int))=(n:Int):=by rw [Int.zero_add];exact IntWalk.i64_in _ oQ
 have hw1:IntKind.i64.wrap (n:Int)=(n:Int):=IntWalk.i64_in _ oQ
 rw [hn]
 rw [hn]at Hl
 have Hn:=uQ hn
 have hS0:RS w0 F (.slice a n c) b:=by rw [← hn];exact Hr.out
 clear hl hn Hr
 go_wp2_with (with_reducible apply bU)
 refine ⟨eX (cs':=hs11 aA.begin (.slice none 0 0) n) h ah aj ah bJ bH au ah ?_⟩
 intro w2 h2
 clear h e10 hw0 hw1
 have e9:w2.cell? ⟨p,9,none⟩=some (.slice none 0 0):=h2.cellP aH 9 rfl
 go_wp2_with fail
 clear e9
 go_loopg [1] (b.length / 64) (fun g bq wr=>∃ (b':Bs) (a':Option Addr) (c' m:Nat) (s':aA.St),bq = .slice a' m c'∧b'.length=m∧g=m / 64∧m≤1073741824∧s'.Ok∧RS w0 F (.slice a' m c') b'∧aA.blocks (b'.length / 64) s' b'=R∧Sat w0 wr (pt p (.cells (hs11 s' (.slice none 0 0) n) 179 (0,0))::F))
 case atStart=>exact ⟨b,a,c,n,aA.begin,rfl,Hn.out,by rw [Hn.out],Hl.out,aA.NQ,hS0,HR.out,h2⟩
 case round=>
  obtain ⟨b',a',c',m,s',rfl,hm,rfl,hm2,hs',hrs,hbl,hS⟩:=hrel
  clear h2 hS0
  by_cases h64:64≤m
  rotate_left
  focus
   have c1:¬ (64:Int)≤(m:Int):=oQ
   have hRR:R=(s',b'):=by rw [← hbl,aA.NU oQ]
   have hcl:=qA hS (hrs.rd wr hS.drop) (by rw [hm];omega)
   have Hm:=uQ (show b'.length<64 by omega);have GL:=uQ hs'
   subst hRR
   clear hm hm2 hs' hrs hbl h64 hS HR
   go_wp2_with fail
   refine hcl.mono ?_
   rintro ee w3 ⟨v,rfl,h3,ra,rn,rc,rfl⟩
   clear hcl
   go_wp2_with (with_reducible apply bU)
   refine ⟨eX (cs':=hs11 s' (.slice ra rn rc) n) (h3.sb:Sat w0 w3 (pt p (.cells (hs11 s' (.slice none 0 0) n) 179 (0,0))::aK (.slice ra rn rc) b'::F)) ah aj ah bJ bH au ah ?_⟩
   intro w4 h4
   have iP:=uQ (h4.sb:Sat w0 w4 (aK (.slice ra rn rc) b'::pt p (.cells (hs11 s' (.slice ra rn rc) n) 179 (0,0))::F))
   clear h3 h4
   go_wp2_with fail
   go_end0
   refine ⟨_,rfl,⟨ra,rn,rc,?_⟩,Hm.out,GL.out⟩
   rw [Hn.out]
   exact iP.out
  have c1:(64:Int)≤(m:Int):=oQ
  obtain ⟨_,_,_,hce,q1,q2⟩:=hrs.cap
  cases hce
  have uD:=fun w=>KO (a:=a') (n:=m) (c:=c') (k:=64) oQ w
  have uz:=fun w=>zX (a:=a') (n:=m) (c:=c') (k:=64) h64 w
  have yA:RS w0 F (.slice a' b'.length c') b':=by rw [hm];exact hrs
  have hT:=yA.to (k:=64) oQ c' oQ (Nat.le_refl _)
  have hF:=yA.from (k:=64) oQ
  rw [hm]at hF
  obtain ⟨ta,tc,htd⟩:∃ ta tc,sliced a' 0 64 c' 1 = .slice ta 64 tc:=⟨_,_,rfl⟩
  obtain ⟨fa,fc,hfd⟩:∃ fa fc,sliced a' 64 m c' 1 = .slice fa (m - 64) fc:=⟨_,_,rfl⟩
  rw [htd]at uD hT
  rw [hfd]at uz hF
  have uD:∀ w,(Instr.sliceAt 27 (.slice a' m c') none (some (.int .i64 64)) none).run Tryz.prog w = .ok (.slice ta 64 tc) w:=uD
  have uz:∀ w,(Instr.sliceAt 27 (.slice a' m c') (some (.int .i64 64)) none none).run Tryz.prog w = .ok (.slice fa (m - 64) fc) w:=uz
  have hmore:=aA.NV (s:=s') (b:=b') oQ
  rw [hbl]at hmore
  have hln:(b'.drop 64).length=m - 64:=by rw [List.length_drop,hm]
  have Bz:(b'.take 64).length=64:=by rw [List.length_take];omega
  have MJ:=uQ hmore.symm;have jX:=uQ hln;have HF:=uQ hF;have vk:=uQ (And.intro h64 hm2)
  have htk:=uQ (fun (w':World) (G:List aC) (hw:Sat w0 w' (pt p (.cells (hs11 s' (.slice none 0 0) n) 179 (0,0))::F))=>Uw Bz hs' (hT.more iJ) (Ro.os HK.out) hw)
  have bY:=uQ (aA.Le s' (b'.take 64))
  obtain ⟨s2,hs2⟩:∃ s2,aA.take s' (b'.take 64)=s2:=⟨_,rfl⟩
  rw [hs2]at htk MJ bY
  have h3:=hS.drew
  have hG:World.rangeAt _ p 1 (iG s').toList:=fun k v hk=>h3.cellP aH (1+k) (by rcases k with _|_|_|_|_|_|_|_|k <;> first|exact hk|cases hk)
  clear hmore hln hF hrs yA hT hbl hs' hm q1 q2 htd hfd hs2 Bz hS h64 hm2
  go_wp2_with fail
  refine dh [7,8,9,10] (fun w'=>w'.rangeAt p 1 (iG s').toList) au ?_
  refine rP 0 ?_ (y:=aG)
  refine rP 1 ?_ (y:=aG)
  refine rP 2 ?_ (y:=dL)
  refine rP 3 ?_ (y:=cO)
  refine dK 4 aj au bC (gu (b:=p) (o:=1) (iG s').toList ah Tryz.underlying176 rfl au (fun w hw=>hw)) aQ gQ ?_
  clear hG
  refine rP 5 ?_ (y:=aG)
  refine rP 6 ?_ (y:=(VF aj aj uD))
  refine bG 7 aj au (fun K hK=>?_)
  (refine eU au aj aj ?_)
  refine (htk.out _ F h3).mono ?_
  rintro ee w4 ⟨v,rfl,rfl,h4⟩
  refine hK _ _ (.inl rfl) ?_
  clear hK h3 htk
  refine rP 8 ?_ (y:=dL)
  refine rP 9 ?_ (y:=cO)
  refine bG 10 aj au (fun K hK=>?_)
  refine jD (cs':=hs11 s2 (.slice none 0 0) n) h4 aj aj ah bJ bH au ah ?_
  intro w5 h5
  refine hK _ _ (.inl rfl) ?_
  clear hK h4
  refine cu au ?_
  go_wp2_with ((with_reducible refine xJ ⟨?_⟩);refine yM ah ah uz ?_)
  go_roundg ((m - 64) / 64)
  case measure=>have:=vk.out;omega
  case rel=>exact ⟨b'.drop 64,fa,fc,m - 64,s2,rfl,jX.out,rfl,by have:=vk.out;omega,bY.out,HF.out,MJ.out,h5⟩
end
end Go.Proofs.YtlimfgdbfadohaaGreatDoor
