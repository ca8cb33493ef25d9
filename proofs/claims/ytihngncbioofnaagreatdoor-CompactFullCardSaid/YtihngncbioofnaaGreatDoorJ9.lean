import Derived.Test.YtihngncbioofnaaGreatDoorJ8
import Derived.Test.YtihngncbioofnaaGreatDoorShelf
set_option maxRecDepth 20000
set_option linter.unusedVariables false
set_option maxHeartbeats 128000000
namespace Go.Proofs.YtihngncbioofnaaGreatDoor
open Go Go.Sl Go.ay Go.MapKept Go.RowKit
section
variable {w0 w:World}{F:List aH}{v bv rv:Value}{p n:Nat}{l:Bs}
theorem agq (l:Bs) (hl:l.length=4) (a:Option Addr) (c:Nat) (h:bG 1 (.slice a 4 c) (aA l) w) :
  Calls Tryz.prog 144 #[.slice a 4 c] w (aP fun v w'=>v = .tuple #[.int .u64 (ah.num l:Nat),.bool true]∧w=w'):=Xd l hl a c h
theorem ahS (x:Nat) (h:Sat w0 w F):Calls Tryz.prog 228 #[.int .u64 0,.int .u64 x] w (aP fun v w'=>v = .int .u64 (Xx.lane 0 x:Nat)∧Sat w0 w' F):=vX 0 x h
theorem zT (hr:RS w0 F bv l) (h:Sat w0 w F){k:Nat} (hk:k≤l.length):∃ a c a2 c2,bv = .slice a l.length c∧l.length≤c∧c≤9223372036854775807∧(∀ w,(Instr.sliceAt 39 (.slice a l.length c) (some (.int .i64 k)) none none).run Tryz.prog w = .ok (.slice a2 (l.drop k).length c2) w)∧RS w0 F (.slice a2 (l.drop k).length c2) (l.drop k):=by
 obtain ⟨a,c,rfl,h1,h2⟩:=hr.len h;have hs:=hr.from hk;obtain ⟨a2,c2,he,h3,h4⟩:=hs.len h;refine ⟨a,c,a2,c2,rfl,h1,h2,fun w=>?_,by rw [← he];exact hs⟩;rw [← he];exact akV hk w
theorem afa (hr:RS w0 F bv l) (h:Sat w0 w F){k:Nat} (hk:k≤l.length):∃ a c a2 c2,bv = .slice a l.length c∧l.length≤c∧c≤9223372036854775807∧(∀ w,(Instr.sliceAt 39 (.slice a l.length c) none (some (.int .i64 k)) none).run Tryz.prog w = .ok (.slice a2 k c2) w)∧RS w0 F (.slice a2 k c2) (l.take k):=by
 obtain ⟨a,c,rfl,h1,h2⟩:=hr.len h;have hs:=hr.to hk c oQ (abL c);obtain ⟨a2,c2,he,h3,h4⟩:=hs.len h;have e:(l.take k).length=k:=by rw [acA];omega
 rw [e]at he;refine ⟨a,c,a2,c2,rfl,h1,h2,fun w=>?_,by rw [← he];exact hs⟩;rw [← he];exact aaW oQ w
theorem am6 (x:Nat) (hx:x<18446744073709551616) (l:Bs) (hl:l.length≤1073741824) (hr:RS w0 F bv l) (h:Sat w0 w F):Calls Tryz.prog 231 #[.int .u64 x,bv] w (aP fun v w'=>v = .int .u64 (Xx.tail x l:Nat)∧Sat w0 w' F):=by
 obtain ⟨ba,bc,rfl,hb1,hb2⟩:=hr.len h;have Hr:=uQ hr;have Hx:=uQ hx;have Hl:=uQ hl;clear hr hx hl hb1 hb2;go_enter Tryz.func231,Tryz.ntmps231;go_wp2_with fail
 go_loopg [0,1] l.length (fun g xq bq wr=>∃ (y:Nat) (m:Bs),g=m.length∧m.length≤l.length∧xq = .int .u64 (y:Nat)∧y<18446744073709551616∧RS w0 F bq m∧Xx.kU l.length x l=Xx.kU m.length y m∧Sat w0 wr F)
 case atStart=>exact ⟨x,l,rfl,abL _,rfl,Hx.out,Hr.out,rfl,h⟩
 case round=>
  obtain ⟨y,m,rfl,hml,rfl,hy,hRS,heq,hS⟩:=hrel;clear h;by_cases h8:8≤m.length
  ·as_aux_lemma=>
   obtain ⟨a,c,a2,c2,rfl,k1,k2,hrun,Xz⟩:=zT hRS hS h8;have hwd:=GU m h8 hRS hS;have hst:Xx.kU m.length y m=Xx.kU (m.drop 8).length (Xx.t8 y (ah.num (m.take 8))) (m.drop 8):=by rw [Xx.amc h8 (abL _),acL]
   generalize ah.num (m.take 8)=N at *
   have hln:=uQ (fun (w:World) (hS:Sat w0 w F)=>ahS N hS);obtain ⟨r,z,u,g1,hr1,g3,g4,hu,Yi⟩:=al7 hy N;generalize Xx.lane 0 N=t at *
   have htu:=uQ (fun (w:World) (hS:Sat w0 w F)=>ams r hr1 hS);generalize Xx.turn r 27=s at *
   rw [Yi]at hst;have XZ:(m.drop 8).length<m.length:=by rw [acL];omega
   generalize m.drop 8=m2 at *
   have c1:(8:Int)≤(m.length:Int):=oQ;have Hu:=uQ hu;have nP:=uQ (heq.trans hst);have HR:=uQ Xz;have bV:=uQ (And.intro XZ hml);clear hu hr1 hst Yi heq Xz hRS XZ hml hy k1 k2 h8;go_wp2_with fail;refine hwd.mono ?_;rintro ee w2 ⟨v,rfl,rfl,rfl⟩;clear hwd;go_wp2_with fail;refine (hln.out _ hS).mono ?_;rintro ee w3 ⟨v,rfl,rfl,h3⟩;clear hln hS;go_wp2_with fail;refine (htu.out _ h3).mono ?_;rintro ee w4 ⟨v,rfl,rfl,h4⟩;clear htu h3;go_wp2_with ((with_reducible refine Nl ⟨?_⟩);refine SV aj aj hrun ?_)
   go_roundg m2.length
   case measure=>exact bV.out.1
   case rel=>exact ⟨u,m2,rfl,by have:=bV.out;omega,rfl,Hu.out,HR.out,nP.out,h4⟩
  ·have hst:Xx.kU l.length x l=(y,m):=heq.trans (Xx.amd h8);have hT:Xx.tail x l=(Xx.tail4 y m).2.foldl Xx.t1 (Xx.tail4 y m).1:=by unfold Xx.tail;rw [hst]
   have hl2:m.length≤1073741824:=acz hml Hl.out;have c1:¬ (8:Int)≤(m.length:Int):=oQ;clear heq hst h8 hml;by_cases h4:4≤m.length
   ·have e4:Xx.tail4 y m=(Xx.t4 y (ah.num (m.take 4)),m.drop 4):=by unfold Xx.tail4;rw [acr h4]
    rw [e4]at hT;obtain ⟨a,c,a2,c2,rfl,k1,k2,hrunT,XB⟩:=afa hRS hS h4;obtain ⟨a',c',a3,c3,he,_,_,Yf,XA⟩:=zT hRS hS h4;cases he;have hgt:=agq (m.take 4) (by rw [acA];omega) a2 c2 (XB.rd _ hS);obtain ⟨t,r,z,u,g0,g1,hr1,g3,g4,hu,Yh⟩:=al5 hy (ah.num (m.take 4));rw [Yh]at hT;generalize ah.num (m.take 4)=N at *
    have htu:=amr r hr1 hS;generalize Xx.turn r 23=s at *
    have hl4:(m.drop 4).length≤1073741824:=by rw [acL];omega
    have Vt:(4:Int)≤(m.length:Int):=oQ;dsimp only at hT;generalize m.drop 4=m2 at *
    have Hu:=uQ hu;have HT:=uQ hT;have HR:=uQ XA;clear hu hr1 hT Yh hRS XB XA hy k1 k2 h4 e4 hl2
    go_wp2_with (first
     |((with_reducible refine Vb ⟨?_⟩);refine ab7 aj aj hrunT ?_))
    refine hgt.mono ?_;rintro ee w2 ⟨v,rfl,rfl,rfl⟩;clear hgt;go_wp2_with fail;refine htu.mono ?_;rintro ee w3 ⟨v,rfl,rfl,h3⟩;clear htu hS;go_wp2_with ((with_reducible refine Nl ⟨?_⟩);refine SV aj aj Yf ?_);clear c1 Vt g0 g1 g3 g4 hrunT Yf;have Hm:=uQ (show m2.length≤1073741824 from by omega);have D8:=uQ HR.out;have HE:=uQ HT.out;have Hy:=uQ Hu.out;go_wp2_with fail
    go_loopg [0,42] m2.length (fun g xq iq wr=>∃ (i z:Nat),g=m2.length - i∧i≤m2.length∧xq = .int .u64 (z:Nat)∧iq = .int .i64 i∧z<18446744073709551616∧z=(m2.take i).foldl Xx.t1 u∧Sat w0 wr F)
    case atStart=>exact ⟨0,u,rfl,acV _,rfl,rfl,Hy.out,rfl,h3⟩
    case round=>
     obtain ⟨i,z,rfl,hi,rfl,rfl,hz,hze,iZ⟩:=hrel;by_cases hi':i<m2.length
     ·as_aux_lemma=>
      have hb:(aA m2)[i]?=some (.int .u8 (m2[i]'hi').toNat):=by unfold aA;simp [hi']
      obtain ⟨bk,off,rfl,c1⟩:=wF (D8.out.rd _ iZ) hb;have hic:(i:Int)<(m2.length:Int):=oQ;have hwi:IntKind.i64.wrap ((i:Int)+1)=(i:Int)+1:=acC _ (by have:=Hm.out;omega);have hnx:(m2.take (i+1)).foldl Xx.t1 u=Xx.t1 z (m2[i]'hi'):=by rw [agm hi',aob,← hze,List.foldl_cons,List.foldl_nil]
      have hcb:=(m2[i]'hi').toNat_lt;obtain ⟨q,r,u,g1,g2,hr,g3,hu,FI⟩:=abo hz (m2[i]'hi');rw [FI]at hnx;have ht1:=hnx;clear hnx hb FI;generalize (m2[i]'hi').toNat=cb at *
      have htu:=abw r hr iZ;generalize Xx.turn r 11=s at *
      have hcm:IntKind.u64.wrap (cb:Int)=(cb:Int):=by rw [ahL];omega
      have Hu:=uQ hu;have MZ:=uQ ht1;have Hi:=uQ hi';clear hu hr ht1 hze hz hcb hi hi';go_wp2_with fail;refine htu.mono ?_;rintro ee w9 ⟨v,rfl,rfl,h9⟩;clear htu iZ;go_wp2
      go_roundg (m2.length - (i+1))
      case measure=>have:=Hi.out;omega
      case rel=>exact ⟨i+1,u,rfl,adi Hi.out,rfl,by first|rfl|go_num,Hu.out,MZ.out.symm,h9⟩
     ·as_aux_lemma=>
      obtain rfl:i=m2.length:=by omega
      have hic:¬ (m2.length:Int)<(m2.length:Int):=oQ;rw [adk]at hze;have Hf:=uQ (show Xx.tail x l=z by rw [HE.out,hze]);clear hze hz hi hi';go_wp2;go_ret;exact ⟨_,rfl,by first|(rw [Hf.out];rfl)|(rw [← HE.out,Hf.out];rfl),iZ⟩
   ·have e4:Xx.tail4 y m=(y,m):=by unfold Xx.tail4;rw [abA h4]
    rw [e4]at hT;dsimp only at hT;obtain ⟨a,c,rfl,k1,k2⟩:=hRS.len hS;have Vt:¬ (4:Int)≤(m.length:Int):=oQ;have HT:=uQ hT;clear e4 h4 k1 k2 hT;have Hm:=uQ (show m.length≤1073741824 from by omega);have D8:=uQ hRS;have HE:=uQ HT.out;have Hy:=uQ hy;go_wp2_with fail
    go_loopg [0,42] m.length (fun g xq iq wr=>∃ (i z:Nat),g=m.length - i∧i≤m.length∧xq = .int .u64 (z:Nat)∧iq = .int .i64 i∧z<18446744073709551616∧z=(m.take i).foldl Xx.t1 y∧Sat w0 wr F)
    case atStart=>exact ⟨0,y,rfl,acV _,rfl,rfl,Hy.out,rfl,hS⟩
    case round=>
     obtain ⟨i,z,rfl,hi,rfl,rfl,hz,hze,iZ⟩:=hrel;by_cases hi':i<m.length
     ·as_aux_lemma=>
      have hb:(aA m)[i]?=some (.int .u8 (m[i]'hi').toNat):=by unfold aA;simp [hi']
      obtain ⟨bk,off,rfl,c1⟩:=wF (D8.out.rd _ iZ) hb;have hic:(i:Int)<(m.length:Int):=oQ;have hwi:IntKind.i64.wrap ((i:Int)+1)=(i:Int)+1:=acC _ (by have:=Hm.out;omega);have hnx:(m.take (i+1)).foldl Xx.t1 y=Xx.t1 z (m[i]'hi'):=by rw [agm hi',aob,← hze,List.foldl_cons,List.foldl_nil]
      have hcb:=(m[i]'hi').toNat_lt;obtain ⟨q,r,u,g1,g2,hr,g3,hu,FI⟩:=abo hz (m[i]'hi');rw [FI]at hnx;have ht1:=hnx;clear hnx hb FI;generalize (m[i]'hi').toNat=cb at *
      have htu:=abw r hr iZ;generalize Xx.turn r 11=s at *
      have hcm:IntKind.u64.wrap (cb:Int)=(cb:Int):=by rw [ahL];omega
      have Hu:=uQ hu;have MZ:=uQ ht1;have Hi:=uQ hi';clear hu hr ht1 hze hz hcb hi hi';go_wp2_with fail;refine htu.mono ?_;rintro ee w9 ⟨v,rfl,rfl,h9⟩;clear htu iZ;go_wp2
      go_roundg (m.length - (i+1))
      case measure=>have:=Hi.out;omega
      case rel=>exact ⟨i+1,u,rfl,adi Hi.out,rfl,by first|rfl|go_num,Hu.out,MZ.out.symm,h9⟩
     ·as_aux_lemma=>
      obtain rfl:i=m.length:=by omega
      have hic:¬ (m.length:Int)<(m.length:Int):=oQ;rw [adk]at hze;have Hf:=uQ (show Xx.tail x l=z by rw [HE.out,hze]);clear hze hz hi hi';go_wp2;go_ret;exact ⟨_,rfl,by first|(rw [Hf.out];rfl)|(rw [← HE.out,Hf.out];rfl),iZ⟩
end
abbrev anM (p:Nat) (rv:Value):aH:=pt p (.cells #[rv,errno 0,.bool true] 332 (0,0))
section
variable {w0 w:World}{F:List aH}{v bv rv:Value}{p n k:Nat}{l m:Bs}
end
section
variable {P:Program}{w0 w:World}{ops:Array Oper}{rest:List Oper}{a:Act}{Q:Exit→Act→World→Prop}{dst:Option Tmp}{t ty:TypeId}{pos:String}{after:Array Edge}{v:Value}{parts:Array (Nat×Operand)}
theorem amQ (parts':Array (Nat×Value)) (he:parts.map (fun p=>(p.1,a.eval p.2))=parts') (hr:∀ w,(Instr.build ty parts').run P w = .ok v w) (h:wpList P ops Q rest (a.put dst v) w):wpList P ops Q (⟨dst,.build ty parts,t,pos,after,none⟩::rest) a w:=
 aeB rfl fun _ hK=>by
  unfold Oper.wp execOp;simp only [he,acN,hr,acB,ac1];exact hK _ _ h
theorem ad7 (h:Stop (wpList P ops Q (⟨dst,.build ty parts,t,pos,after,none⟩::rest) a w)):wpList P ops Q (⟨dst,.build ty parts,t,pos,after,none⟩::rest) a w:=h.out
end
section
variable {w0 w:World}{F:List aH}
abbrev oM (mg:ByteArray) (kd:Bool) (k:Nat):Array Value:=#[.string mg,.bool kd,.int .i64 k]
abbrev OY:Array Value:=oM ⟨#[72,79,65,82,68,73,68,88]⟩ true 3
abbrev SB:Array Value:=oM ⟨#[72,79,65,82,68,85,83,69]⟩ false 3
theorem acp:jr Tryz.prog 213=some (.agg #[.string ⟨#[]⟩,.bool false,.int .i64 0]):=by kernel_rfl
theorem akJ (w:World):(Instr.build 213 #[(0,.string ⟨#[72,79,65,82,68,73,68,88]⟩),(1,.bool true),(2,.int .i64 3)]).run Tryz.prog w = .ok (.agg OY) w:=by kernel_rfl
theorem ak2 (w:World):(Instr.build 213 #[(0,.string ⟨#[72,79,65,82,68,85,83,69]⟩),(1,.bool false),(2,.int .i64 3)]).run Tryz.prog w = .ok (.agg SB) w:=by kernel_rfl
theorem ahr (h:Sat w0 w F):Calls Tryz.prog 131 #[] w (aP fun v w'=>v = .agg OY∧Sat w0 w' F):=by
 go_enter Tryz.func131,Tryz.ntmps131;go_wp2_with (with_reducible apply gq);refine ⟨fF acp h rfl ?_⟩;intro b4 w4 h4;have hb:=akJ
 go_wp2_with (first
  |((with_reducible refine cO ⟨?_⟩);refine gJ OY h4 aj aj aj cZ au aj ?_;intro w9 h9))
 refine ⟨rfl,_,Dv rfl h9 aj bC Tryz.underlying213 rfl au,?_⟩;exact ⟨_,rfl,rfl,h9.drop⟩
theorem amG (h:Sat w0 w F):Calls Tryz.prog 136 #[] w (aP fun v w'=>v = .agg SB∧Sat w0 w' F):=by
 go_enter Tryz.func136,Tryz.ntmps136;go_wp2_with (with_reducible apply gq);refine ⟨fF acp h rfl ?_⟩;intro b4 w4 h4;have hb:=ak2
 go_wp2_with (first
  |((with_reducible refine cO ⟨?_⟩);refine gJ SB h4 aj aj aj cZ au aj ?_;intro w9 h9))
 refine ⟨rfl,_,Dv rfl h9 aj bC Tryz.underlying213 rfl au,?_⟩;exact ⟨_,rfl,rfl,h9.drop⟩
end
abbrev yO (x:dF.Rw) (nv:Value):Array Value:=(aA x.key++[nv]).toArray
section
variable {w0 w:World}{F:List aH}{na nb:Value}
theorem Q9 {x:dF.Rw}{nv:Value}{j:Nat}{v:Value} (h:(aA x.key)[j]?=some v):(yO x nv)[j]?=some v:=by
 have hj:j<(aA x.key).length:=by
  rcases amB j (aA x.key).length with k|k
  ·exact k
  ·rw [ahF k]at h;cases h
 rw [abY,ac2 hj];exact h
theorem Rf {x:dF.Rw}{nv:Value} (hk:x.key.length=32):(yO x nv)[32]?=some nv:=by
 rw [abY,ac0 (by rw [aX,hk];exact abL 32),aX,hk];rfl
theorem aml (a b:ah.Bs) (ha:a.length=32) (hb:b.length=32) (h:Sat w0 w F) :
  Calls Tryz.prog 227 #[.agg (aA a).toArray,.agg (aA b).toArray] w (aP fun v w'=>v = .bool (decide (a<b))∧Sat w0 w' F):=by
 have He:=uQ (show decide (Lib.compareBytes a b<0)=decide (a<b) from decide_eq_decide.2 (Tab.IZ a b));go_enter Tryz.func227,Tryz.ntmps227;go_wp2_with (with_reducible apply fK);refine ⟨fM h ak ak ?_⟩;intro b2 w2 h2;go_wp2_with (with_reducible apply fK);refine ⟨fM h2 ak ak ?_⟩;intro b3 w3 h3;have hS:=h3.drew;have r1:bG 1 (.slice (some ⟨b2,0,none⟩) 32 32) (aA a) w3.drew:=⟨_,_,_,rfl,by rw [aX,ha],fun j z hj=>⟨_,rfl,by rw [zJ,acT];exact hS.cellP aY j (by rw [abY];exact hj)⟩⟩;have r2:bG 1 (.slice (some ⟨b3,0,none⟩) 32 32) (aA b) w3.drew:=⟨_,_,_,rfl,by rw [aX,hb],fun j z hj=>⟨_,rfl,by rw [zJ,acT];exact hS.cellP aV j (by rw [abY];exact hj)⟩⟩;have hbc:=Vk a b r1 r2;generalize Lib.compareBytes a b=r at *
 clear h h2 h3 r1 r2 ha hb;go_wp2_with fail;have hG:True:=trivial;refine dS [] (fun w'=>True) au ?_;refine rp 0 (hy:=(by (refine Or.inl ⟨by rfl,?_⟩;((intro wq;go_simp);first|done|exact wQ)))) (h:=?_);refine rp 1 (hy:=(by (refine Or.inl ⟨by rfl,?_⟩;((intro wq;go_simp);first|done|exact wQ)))) (h:=?_);refine bY 2 ak au (fun K hK=>?_)
 (refine gZ au ak ak ?_)
 refine hbc.mono ?_;rintro e w' ⟨rfl,rfl⟩;refine hK _ _ (.inr (.inr rfl)) ?_;clear hK hbc;refine rP 3 ?_ (y:=kM);refine rP 4 ?_ (y:=fZ);refine dI au ?_;clear hG;go_wp2_with fail;go_ret;exact ⟨_,rfl,by rw [← He.out];rfl,hS.drop.drop⟩
theorem adQ (mg:ByteArray) (k:Nat) (a b:dF.Rw) (ha:a.key.length=32) (hb:b.key.length=32) (h:Sat w0 w F) :
  Calls Tryz.prog 207 #[.agg (oM mg true k),.agg (yO a na),.agg (yO b nb)] w (aP fun v w'=>v = .bool (decide (dF.ahead true a b))∧Sat w0 w' F):=by
 have He:=uQ (show decide (dF.ahead true a b)=decide (a.key<b.key) from decide_eq_decide.2 Iff.rfl);have hia:(Tryz.prog.info? 50).map (·.size)=some (aA a.key).length:=by rw [aX,ha];kernel_rfl
 have hib:(Tryz.prog.info? 50).map (·.size)=some (aA b.key).length:=by rw [aX,hb];kernel_rfl
 have Hl:=uQ (fun (w':World) (R:List aH) (hw:Sat w0 w' R)=>aml a.key b.key ha hb hw);clear ha hb;go_enter Tryz.func207,Tryz.ntmps207;go_wp2_with (with_reducible apply fK);refine ⟨fM h ak ak ?_⟩;intro b1 w1 h1;go_wp2_with (with_reducible apply fK);refine ⟨fM h1 ak ak ?_⟩;intro b2 w2 h2;go_wp2_with (with_reducible apply fK);refine ⟨fM h2 ak ak ?_⟩;intro b3 w3 h3;clear h h1 h2
 go_wp2_with (first
  |((with_reducible refine bI ⟨?_⟩);first
   |refine gu h3 aj (aT aY) bJ ak au ?_
   |refine DW (o:=0) (aA a.key) h3 aj aY (fun j v hj=>by rw [acT];exact Q9 hj) Tryz.underlying50 rfl hia ?_
   |refine DW (o:=0) (aA b.key) h3 aj aV (fun j v hj=>by rw [acT];exact Q9 hj) Tryz.underlying50 rfl hib ?_))
 refine (Hl.out _ _ h3).mono ?_;rintro e w4 ⟨v,rfl,rfl,h4⟩;clear Hl h3;go_wp2;go_ret;exact ⟨_,rfl,by rw [He.out];rfl,h4.drop.drop.drop⟩
end
structure RV where
 x:dF.Rw
 nv:Value
def fD (r:RV):List Value:=aA r.x.key++[r.nv]
structure uy (w0:World) (F:List aH) (r:RV):Prop where
 key:r.x.key.length=32
 rd:Ro w0 F (bG 1 r.nv (ints r.x.nums))
 ne:0<r.x.nums.length
section
variable {w0 w:World}{F:List aH}{lv:Value}
theorem qw (r:RV) (h:r.x.key.length=32):(fD r).length=33:=by unfold fD;rw [aaK,aX,h];rfl
theorem uy.sub {r:RV}{G:List aH} (h:uy w0 F r) (k:Sub G F):uy w0 G r:=⟨h.key,Ro.of_sub h.rd k,h.ne⟩
theorem ZI {nv:Value}{l:List Int} (h:bG 1 nv (ints l) w) (hl:0<l.length):∃ bk off c,nv = .slice (some ⟨bk,off,none⟩) l.length c∧w.cell? ⟨bk,off,none⟩=some (.int .i64 (l.getD 0 0)):=by
 have h0:l[0]?=some (l.getD 0 0):=by rw [acG,aaI hl];rfl
 obtain ⟨bk,off,cc,hsv,hcell⟩:=jG (f:=fun i:Int=>[Value.int .i64 i]) (k:=1) (l:=l) (fun u _=>rfl) (by rw [show ints l=l.flatMap fun i=>[Value.int .i64 i] from by unfold ints;exact List.map_eq_flatMap]at h;exact h) h0 aN;have f0:=hcell 0 _ rfl;rw [adb,aif]at f0;exact ⟨bk,off,cc,hsv,f0⟩
theorem adR (mg:ByteArray) (k:Nat) (a b:RV) (ha:uy w0 F a) (hb:uy w0 F b) (h:Sat w0 w F) :
  Calls Tryz.prog 207 #[.agg (oM mg false k),.agg (yO a.x a.nv),.agg (yO b.x b.nv)] w (aP fun v w'=>v = .bool (decide (dF.ahead false a.x b.x))∧Sat w0 w' F):=by
 obtain ⟨a,na⟩:=a;obtain ⟨b,nb⟩:=b;have He:=uQ (show decide (dF.ahead false a b)=decide (a.nums.getD 0 0<b.nums.getD 0 0) from decide_eq_decide.2 Iff.rfl);have Ha:=uQ ha;have Hb:=uQ hb;clear ha hb;go_enter Tryz.func207,Tryz.ntmps207;go_wp2_with (with_reducible apply fK);refine ⟨fM h ak ak ?_⟩;intro b1 w1 h1;go_wp2_with (with_reducible apply fK);refine ⟨fM h1 ak ak ?_⟩;intro b2 w2 h2;go_wp2_with (with_reducible apply fK);refine ⟨fM h2 ak ak ?_⟩;intro b3 w3 h3;clear h h1 h2;have hS:=h3.drew;obtain ⟨ka,oa,ca,e1,f1⟩:=ZI (Ha.out.rd _ hS.drop.drop.drop) Ha.out.ne;obtain ⟨kb,ob,cb,e2,f2⟩:=ZI (Hb.out.rd _ hS.drop.drop.drop) Hb.out.ne;dsimp only at e1 e2 f1 f2;subst e1 e2;have hG0:=And.intro (hS.cellP aY 32 (Rf Ha.out.key)) (And.intro f1 (And.intro (hS.cellP aV 32 (Rf Hb.out.key)) f2));have MI:=uQ Ha.out.ne;have MJ:=uQ Hb.out.ne;dsimp only at MI MJ;clear f1 f2
 generalize a.nums.getD 0 0=X at *
 generalize b.nums.getD 0 0=Y at *
 have q1:(0:Int)<(a.nums.length:Int):=by have:=MI.out;omega
 have q2:(0:Int)<(b.nums.length:Int):=by have:=MJ.out;omega
 have q3:0<a.nums.length:=MI.out;have q4:0<b.nums.length:=MJ.out;go_wp2_with ((with_reducible refine bI ⟨?_⟩);refine gu h3 aj (aT aY) bJ ak au ?_);clear h3;refine dS [8,9] (fun w'=>w'.cell? ⟨b2,32,none⟩=some (.slice (some ⟨ka,oa,none⟩) a.nums.length ca)∧w'.cell? ⟨ka,oa,none⟩=some (.int .i64 X)∧w'.cell? ⟨b3,32,none⟩=some (.slice (some ⟨kb,ob,none⟩) b.nums.length cb)∧w'.cell? ⟨kb,ob,none⟩=some (.int .i64 Y)) au ?_;have hG:=hG0;clear hG0;refine rP 0 ?_ (y:=bW);refine rt 1 (h:=?_);refine rP 2 ?_ (y:=jf);refine rt 3 (h:=?_);refine rP 4 ?_ (y:=bW);refine rt 5 (h:=?_);refine rP 6 ?_ (y:=jf);refine rt 7 (h:=?_);clear hG;refine rP 8 ?_ (y:=kM);refine rP 9 ?_ (y:=fZ);refine dI au ?_;go_wp2_with fail;go_ret;exact ⟨_,rfl,by rw [He.out];rfl,hS.drop.drop.drop⟩
theorem adS (mg:ByteArray) (kd:Bool) (k:Nat) (a b:RV) (ha:uy w0 F a) (hb:uy w0 F b) (h:Sat w0 w F) :
  Calls Tryz.prog 207 #[.agg (oM mg kd k),.agg (yO a.x a.nv),.agg (yO b.x b.nv)] w (aP fun v w'=>v = .bool (decide (dF.ahead kd a.x b.x))∧Sat w0 w' F):=by
 cases kd
 ·exact adR mg k a b ha hb h
 ·exact adQ mg k a.x b.x ha.key hb.key h
theorem aj0 (mg:ByteArray) (kd:Bool) (k:Nat) (rs:List RV) (hn:rs.length≤1073741824) (hr:Ro w0 F (bG 33 lv (rs.flatMap fD))) (he:∀ r∈rs,uy w0 F r) (h:Sat w0 w F) :
  Calls Tryz.prog 173 #[.agg (oM mg kd k),lv] w (aP fun v w'=>∃ t:Bool,v = .bool t∧(t=true↔dF.UJ kd (rs.map (·.x)))∧Sat w0 w' F):=by
 obtain ⟨la,lc,rfl⟩:=jl (fun r hr=>qw r (he r hr).key) (hr w h) aN;have Hr:=uQ hr;have He:=uQ he;have Hn:=uQ hn;clear hr he hn;go_enter Tryz.func173,Tryz.ntmps173;go_wp2_with (with_reducible apply fK);refine ⟨fM h ak ak ?_⟩;intro b2 w2 h2;clear h;go_wp2_with fail
 go_loopg [5] rs.length (fun g iq wr=>∃ m:Nat,g=rs.length - m∧iq = .int .i64 ((m:Int)+1)∧(∀ i a b,i<m→(rs.map (·.x))[i]?=some a→(rs.map (·.x))[i+1]?=some b→dF.ahead kd a b)∧m≤rs.length∧Sat w0 wr (pt b2 (.cells (oM mg kd k) 213 (0,0))::F))
 case atStart=>exact ⟨0,rfl,rfl,fun i a b hi=>absurd hi (Nat.not_lt_zero _),acV _,h2⟩
 case round=>
  obtain ⟨m,rfl,rfl,hal,hm,hS⟩:=hrel;clear h2;have Ea:=uQ hal;clear hal;by_cases hlt:m+1<rs.length
  ·have c1:(m:Int)+1<(rs.length:Int):=by omega
   have c0:(m:Int)<(rs.length:Int):=oQ;have c2:(0:Int)≤(m:Int)+1:=oQ;have hw0:IntKind.i64.wrap (m:Int)=(m:Int):=acC _ (by have:=Hn.out;omega);have hw1:IntKind.i64.wrap ((m:Int)+1 - 1)=(m:Int):=by rw [Int.add_sub_cancel];exact hw0
   have hw2:IntKind.i64.wrap ((m:Int)+1+1)=(m:Int)+1+1:=acC _ (by have:=Hn.out;omega);obtain ⟨r1,hx1⟩:∃ q,rs[m]?=some q:=⟨_,aaI oQ⟩;obtain ⟨r2,hx2⟩:∃ q,rs[m+1]?=some q:=⟨_,aaI hlt⟩;have nR:=uQ hx1;have UF:=uQ hx2;have H1:=uQ (He.out r1 (abV hx1));have H2:=uQ (He.out r2 (abV hx2));have hS1:=hS.drew;obtain ⟨bk,off,c',hsv,hc1⟩:=jG (f:=fD) (k:=33) (fun r hr=>qw r (He.out r hr).key) (Hr.out _ hS1.drop) hx1 aN;cases hsv;obtain ⟨Ny,off',c2',e2,hc2⟩:=jG (f:=fD) (k:=33) (fun r hr=>qw r (He.out r hr).key) (Hr.out _ hS1.drop) hx2 aN;cases e2;have hG0:World.rangeAt _ b2 0 [.string mg,.bool kd,.int .i64 k]∧World.rangeAt _ bk (off+m * 33) (fD r1)∧World.rangeAt _ bk (off+(m+1) * 33) (fD r2):=⟨oZ (l:=[.string mg,.bool kd,.int .i64 k]) hS1,hc1,hc2⟩;have hah:=adS mg kd k r1 r2 (H1.out.sub pV) (H2.out.sub pV) hS1;have bV:=uQ hlt;clear hx1 hx2 hc1 hc2 hlt hm hS
   by_cases hab:dF.ahead kd r1.x r2.x
   ·rw [adt hab]at hah;have LM:=uQ hab;clear hab;go_wp2_with fail;refine dS [10,11] (fun w'=>w'.rangeAt b2 0 [.string mg,.bool kd,.int .i64 k]∧w'.rangeAt bk (off+m * 33) (fD r1)∧w'.rangeAt bk (off+(m+1) * 33) (fD r2)) au ?_;have hG:=hG0;clear hG0;refine gV 0 ak au eU (iI (b:=b2) (o:=0) [.string mg,.bool kd,.int .i64 k] aj Tryz.underlying213 rfl au (fun w hw=>hw.1)) aQ gQ ?_;refine rP 1 ?_ (y:=aZ);refine rP 2 ?_ (y:=aZ);refine rP 3 ?_ (y:=kM);refine rP 4 ?_ (y:=jf);refine gV 5 ak au eU (iI (b:=bk) (o:=off+m * 33) (fD r1) aj Tryz.underlying221 rfl (by rw [qw _ H1.out.key];kernel_rfl) (fun w hw=>hw.2.1)) aQ gQ ?_;refine rP 6 ?_ (y:=aZ);refine rP 7 ?_ (y:=aZ);refine rP 8 ?_ (y:=jf);refine gV 9 ak au eU (iI (b:=bk) (o:=off+(m+1) * 33) (fD r2) aj Tryz.underlying221 rfl (by rw [qw _ H2.out.key];kernel_rfl) (fun w hw=>hw.2.2)) aQ gQ ?_;clear hG;refine bY 10 ak au (fun K hK=>?_)
    (refine xM au ak ak ak ?_)
    refine hah.mono ?_;rintro ee w9 ⟨v,rfl,rfl,h9⟩;refine hK _ _ (.inl rfl) ?_;clear hK hah hS1;refine rP 11 ?_ (y:=(wL ak bU));refine dI au ?_;go_wp2_with fail
    go_roundg (rs.length - (m+1))
    case measure=>have:=bV.out;omega
    case rel=>
     refine ⟨m+1,rfl,by first|rfl|go_num,fun i a b hi ha hb=>?_,Nat.le_of_lt bV.out,h9⟩;rcases Nat.lt_succ_iff_lt_or_eq.1 hi with hi|rfl
     ·exact Ea.out i a b hi ha hb
     ·rw [acE,nR.out]at ha;rw [acE,UF.out]at hb;cases ha;cases hb;exact LM.out
   ·rw [ac4 hab]at hah;have LM:=uQ hab;clear hab;go_wp2_with fail;refine dS [10,11] (fun w'=>w'.rangeAt b2 0 [.string mg,.bool kd,.int .i64 k]∧w'.rangeAt bk (off+m * 33) (fD r1)∧w'.rangeAt bk (off+(m+1) * 33) (fD r2)) au ?_;have hG:=hG0;clear hG0;refine gV 0 ak au eU (iI (b:=b2) (o:=0) [.string mg,.bool kd,.int .i64 k] aj Tryz.underlying213 rfl au (fun w hw=>hw.1)) aQ gQ ?_;refine rP 1 ?_ (y:=aZ);refine rP 2 ?_ (y:=aZ);refine rP 3 ?_ (y:=kM);refine rP 4 ?_ (y:=jf);refine gV 5 ak au eU (iI (b:=bk) (o:=off+m * 33) (fD r1) aj Tryz.underlying221 rfl (by rw [qw _ H1.out.key];kernel_rfl) (fun w hw=>hw.2.1)) aQ gQ ?_;refine rP 6 ?_ (y:=aZ);refine rP 7 ?_ (y:=aZ);refine rP 8 ?_ (y:=jf);refine gV 9 ak au eU (iI (b:=bk) (o:=off+(m+1) * 33) (fD r2) aj Tryz.underlying221 rfl (by rw [qw _ H2.out.key];kernel_rfl) (fun w hw=>hw.2.2)) aQ gQ ?_;clear hG;refine bY 10 ak au (fun K hK=>?_)
    (refine xM au ak ak ak ?_)
    refine hah.mono ?_;rintro ee w9 ⟨v,rfl,rfl,h9⟩;refine hK _ _ (.inl rfl) ?_;clear hK hah hS1;refine rP 11 ?_ (y:=(wL ak bU));refine dI au ?_;go_wp2_with fail;go_ret;refine ⟨_,rfl,false,rfl,⟨fun k=>(by cases k),fun k=>absurd (k m r1.x r2.x ?_ ?_) LM.out⟩,h9.drop⟩
    ·rw [acE,nR.out];rfl
    ·rw [acE,UF.out];rfl
  ·have c1:¬ (m:Int)+1<(rs.length:Int):=by omega
   have bV:=uQ hlt;clear hlt hm;go_wp2;go_ret;refine ⟨_,rfl,.inr ⟨rfl,fun i a b ha hb=>?_,hS.drop⟩⟩;have hi:=(abW.1 hb).1;rw [abl]at hi;exact Ea.out i a b (by have:=bV.out;omega) ha hb
end
section
variable {P:Program}{w0 w:World}{L F:List aH}{ops:Array Oper}{rest:List Oper}{a:Act}{Q:Exit→Act→World→Prop}{dst:Option Tmp}{t ty:TypeId}{pos:String}{after:Array Edge}{x y s:Operand}{v vx vy:Value}{l m:Bs}
theorem Ls (hx:a.eval x=vx) (hy:a.eval y=vy) (hr:∀ w,(Instr.sliceAt ty vx (some vy) none none).run P w = .ok v w):Yields P ops ⟨dst,.slice ty x (some y) none none,t,pos,after,none⟩ v a:=
 .inl ⟨lI _ rfl,fun w=>by simp only [execOp,hx,hy,ahf,an5,acN,hr,acB,ac1]⟩
theorem amS (l c:Nat) (h1:l≤c) (h2:c≤1099511627776) (hs:Sat w0 w L) (hx:a.eval x = .int .i64 l) (hy:a.eval y = .int .i64 c)
  (hK:∀ b w',Sat w0 w' (bK (.slice (some ⟨b,0,none⟩) l c) (List.replicate l 0)::L)→wpList Tryz.prog ops Q rest (a.put dst (.slice (some ⟨b,0,none⟩) l c)) w') :
  wpList Tryz.prog ops Q (⟨dst,.makeSlice 39 x y,t,pos,after,none⟩::rest) a w:=by
 have hS:=hs.alloc (.cells (madeCells #[.int .u8 0] c) 5);refine aeB rfl fun _ hK'=>?_;unfold Oper.wp execOp;simp only [hx,hy,Y6 l c h1 h2,acN,ac1,acB];exact hK' _ _ (hK _ _ (Y4 h1 h2 hS))
theorem ad9 (h:Stop (wpList P ops Q (⟨dst,.makeSlice ty x y,t,pos,after,none⟩::rest) a w)):wpList P ops Q (⟨dst,.makeSlice ty x y,t,pos,after,none⟩::rest) a w:=h.out
theorem ab2 (hs:Sat w0 w (bK v l::F)) (hv:a.eval s=v) (hy:a.eval y=vy) (hx:bG 1 vy (aA m) w) (hlen:l.length+m.length≤1099511627776)
  (hK:∀ v' w',Sat w0 w' (bK v' (l++m)::F)→wpList Tryz.prog ops Q rest (a.put dst v') w') :
  wpList Tryz.prog ops Q (⟨dst,.call { callee:= .builtin .append,args:=#[s,y],argTypes:=#[39,39] },39,pos,after,none⟩::rest) a w:=by
 obtain ⟨i,hi,hz0,hz1,hz2⟩:=uK;have h63:(aA l).length+(aA m).length≤maxLen:=by rw [aX,aX];unfold maxLen;omega
 have hby:((aA l).length+(aA m).length) * i.bytes≤140737488355328:=by rw [aX,aX,hz2];omega
 refine y7 (w0:=w0) rfl s y 39 rfl _ i _ Tryz.underlying39 hi hz0 hz1 aj oQ hv hy (vS _) hs hx h63 hby ?_;intro v' w' hS hn;rw [← zO]at hS;exact hK v' w' hS
end
section
variable {w0 w:World}{F:List aH}{v bv rv:Value}{p n:Nat}{l:Bs}
theorem alR (n:Nat):∃ x:Nat,IntKind.u64.wrap ((2870177450012600261:Int)+(n:Int))=(x:Int)∧x<18446744073709551616∧(2870177450012600261+n)%18446744073709551616=x:=by
 obtain ⟨x,a,b,c⟩:=abm 2870177450012600261 n;unfold Xx.W at c;exact ⟨x,(adu (fun z=>IntKind.u64.wrap (z+(n:Int))) (show (2870177450012600261:Int)=((2870177450012600261:Nat):Int) from rfl)).trans a,b,c⟩
theorem ahe (hl0:l≠[]) (hl:l.length≤1073741824) (hr:RS w0 F bv l) (h:Sat w0 w (jy p Xx.Ln.zero (.slice none 0 0) 0::F)) :
  Calls Tryz.prog 209 #[ptr p,bv] w (aP fun _ w'=>∃ rv bA cA,Sat w0 w' (jy p (Xx.jQ l.length Xx.Ln.zero l).1 rv l.length::bK (.slice (some ⟨bA,0,none⟩) l.length cA) l::F)∧RS w0 (bK (.slice (some ⟨bA,0,none⟩) l.length cA) l::F) rv (Xx.jQ l.length Xx.Ln.zero l).2):=by
 obtain ⟨ba,bc,rfl,hb1,hb2⟩:=(hr.more (G:=jy p Xx.Ln.zero (.slice none 0 0) 0::F) pV).len h;have Hr:=uQ hr;have Hl:=uQ hl;have Ei:=uQ hl0;have c0:w.cell? ⟨p,0,none⟩=some (.bool true):=h.cellAt 0 _ rfl;have n1:IntKind.u64.wrap (l.length:Int)=(l.length:Int):=by rw [ahL];omega
 have n2:(l.length:Int)%18446744073709551616=(l.length:Int):=oQ;have n3:IntKind.i64.wrap (l.length:Int)=(l.length:Int):=acC _ oQ;clear hr hl hb1 hb2 hl0;go_enter Tryz.func209,Tryz.ntmps209
 go_wp2_with (first
  |((with_reducible refine bI ⟨?_⟩);refine gu h aj aV bJ ak au ?_)
  |(with_reducible apply cO))
 refine ⟨fG (v:= .int .u64 l.length) h aj aj aj cZ (by exact abL 8) au aj ?_⟩;intro w1 h1;have h2:Sat w0 w1 (jy p Xx.Ln.zero (.slice none 0 0) l.length::F):=h1;clear h h1 c0
 go_wp2_with (first
  |((with_reducible refine bI ⟨?_⟩);refine gu h2 aj aV bJ ak au ?_)
  |(with_reducible apply ad9))
 refine ⟨amS 0 l.length (acV _) (by have:=Hl.out;omega) h2 aj aj ?_⟩;intro bM w3 h3
 go_wp2_with (first
  |((with_reducible refine bI ⟨?_⟩);refine gu h3 aj aY bJ ak au ?_)
  |(with_reducible apply lX))
 refine ⟨ab2 (m:=[]) h3 aj aj (wG 1 0 _) (by simp) ?_⟩;intro v4 w4 h4;go_wp2_with (with_reducible apply lX);refine ⟨ab2 (m:=l) h4 aj aj (Hr.out.rd _ h4.drop.drop) (by simp only [List.replicate,acM,adF];have:=Hl.out;omega) ?_⟩;intro v5 w5 h5;have h6:Sat w0 w5 (bK v5 l::jy p Xx.Ln.zero (.slice none 0 0) l.length::F):=h5;clear h2 h3 h4 h5;obtain ⟨bA,cA,rfl⟩:∃ bA cA,v5 = .slice (some ⟨bA,0,none⟩) l.length cA:=by
  rcases Sat.kP h6 with ⟨_,he,_⟩|⟨b,n,cap,cs,he,k1,_⟩
  ·exfalso;apply Ei.out;have:=adu List.length he;rw [aX]at this;exact agl (by simpa using this)
  ·rw [aX,adb]at k1;subst k1;exact ⟨b,cap,he⟩
 have h7:Sat w0 w5 (jy p Xx.Ln.zero (.slice none 0 0) l.length::bK (.slice (some ⟨bA,0,none⟩) l.length cA) l::F):=h6.sb;have vg:=uQ (show RS w0 (bK (.slice (some ⟨bA,0,none⟩) l.length cA) l::F) (.slice (some ⟨bA,0,none⟩) l.length cA) l from RS.aiT h7.drop);clear h6;go_wp2_with fail
 go_loopg [4] l.length (fun g aq wr=>∃ (ln:Xx.Ln) (m:Bs),g=m.length∧m.length≤l.length∧ln.lt∧RS w0 (bK (.slice (some ⟨bA,0,none⟩) l.length cA) l::F) aq m∧Xx.jQ l.length Xx.Ln.zero l=Xx.jQ m.length ln m ∧
  Sat w0 wr (jy p ln (.slice none 0 0) l.length::bK (.slice (some ⟨bA,0,none⟩) l.length cA) l::F))
 case atStart=>exact ⟨Xx.Ln.zero,l,rfl,abL _,Xx.acv,vg.out,rfl,h7⟩
 case round=>
  obtain ⟨⟨la,lb,lc,ld⟩,m,rfl,hml,hlt,hRS,heq,hS⟩:=hrel;clear h7 vg;by_cases h32:32≤m.length
  ·obtain ⟨a,c,a4,c4,rfl,k1,k2,hrun4,rs4⟩:=zT hRS hS.drop h32;obtain ⟨_,_,a0,c0,he,_,_,QV,QO⟩:=zT hRS hS.drop (k:=0) oQ;cases he;obtain ⟨_,_,a1,c1,he,_,_,QW,QS⟩:=zT hRS hS.drop (k:=8) oQ;cases he;obtain ⟨_,_,a2,c2,he,_,_,QX,QT⟩:=zT hRS hS.drop (k:=16) oQ;cases he;obtain ⟨_,_,a3,c3,he,_,_,QY,QU⟩:=zT hRS hS.drop (k:=24) oQ;cases he;have hst:Xx.jQ m.length ⟨la,lb,lc,ld⟩ m=Xx.jQ (m.drop 32).length (Xx.strip ⟨la,lb,lc,ld⟩ m) (m.drop 32):=by rw [Xx.agw h32 (abL _),acL]
   have hsl:=Xx.abn ⟨la,lb,lc,ld⟩ m;have hsp:Xx.strip ⟨la,lb,lc,ld⟩ m=⟨Xx.lane la (ah.num ((m.drop 0).take 8)),Xx.lane lb (ah.num ((m.drop 8).take 8)),Xx.lane lc (ah.num ((m.drop 16).take 8)),Xx.lane ld (ah.num ((m.drop 24).take 8))⟩:=rfl;obtain ⟨N0,Uk⟩:∃ N,Hid (ah.num ((m.drop 0).take 8)=N):=⟨_,uQ rfl⟩;obtain ⟨N1,Il⟩:∃ N,Hid (ah.num ((m.drop 8).take 8)=N):=⟨_,uQ rfl⟩;obtain ⟨N2,qM⟩:∃ N,Hid (ah.num ((m.drop 16).take 8)=N):=⟨_,uQ rfl⟩;obtain ⟨N3,Ul⟩:∃ N,Hid (ah.num ((m.drop 24).take 8)=N):=⟨_,uQ rfl⟩;rw [Uk.out,Il.out,qM.out,Ul.out]at hsp;obtain ⟨n0,Ua⟩:∃ N,Hid (Xx.lane la N0=N):=⟨_,uQ rfl⟩;obtain ⟨n1',Ub⟩:∃ N,Hid (Xx.lane lb N1=N):=⟨_,uQ rfl⟩;obtain ⟨yB,Uc⟩:∃ N,Hid (Xx.lane lc N2=N):=⟨_,uQ rfl⟩;obtain ⟨FZ,Ue⟩:∃ N,Hid (Xx.lane ld N3=N):=⟨_,uQ rfl⟩;rw [Ua.out,Ub.out,Uc.out,Ue.out]at hsp
   rw [hsp]at hst hsl;have nP:=uQ (heq.trans hst);have Hsl:=uQ hsl;have adq:=uQ rs4;have G6:=uQ h32;have Hll:=uQ (show (m.drop 32).length<m.length∧(m.drop 32).length≤l.length by rw [acL];omega);replace QO:=uQ QO;replace QS:=uQ QS;replace QT:=uQ QT;replace QU:=uQ QU;replace QV:=uQ QV;replace QW:=uQ QW;replace QX:=uQ QX;replace QY:=uQ QY;have ads:=uQ hrun4;have cc:(32:Int)≤(m.length:Int):=oQ;clear hst hsl hsp heq hRS rs4 hlt hml k1 k2 h32 hrun4;go_wp2_with fail
   go_loopg [45] 4 (fun g iq wr=>∃ (i:Nat),g=4 - i∧i≤4∧iq = .int .i64 i∧Sat w0 wr ((match i with|0=>jy p ⟨la,lb,lc,ld⟩ (.slice none 0 0) l.length|1=>jy p ⟨n0,lb,lc,ld⟩ (.slice none 0 0) l.length|2=>jy p ⟨n0,n1',lc,ld⟩ (.slice none 0 0) l.length|3=>jy p ⟨n0,n1',yB,ld⟩ (.slice none 0 0) l.length|_=>jy p ⟨n0,n1',yB,FZ⟩ (.slice none 0 0) l.length)::bK (.slice (some ⟨bA,0,none⟩) l.length cA) l::F))
   case atStart=>exact ⟨0,rfl,by omega,rfl,hS⟩
   case round=>
    obtain ⟨i,rfl,hi,rfl,uI⟩:=hrel;clear hS;obtain rfl|rfl|rfl|rfl|rfl:i=0∨i=1∨i=2∨i=3∨i=4:=by omega
    ·have hw1:(8:Int) * 0=0:=by decide
     have hw2:IntKind.i64.wrap (0:Int)=(0:Int):=by decide
     have HG:=uQ (fun (w:World) (R:List aH) (hS:Sat w0 w (jy p ⟨la,lb,lc,ld⟩ (.slice none 0 0) l.length::R))=>show w.cell? ⟨p,2,none⟩=some (.int .u64 la) from hS.cellAt 2 _ rfl);go_wp2_with fail;have hS1:=uI.drew;clear uI;refine dS [13,16,17] (fun w'=>w'.cell? ⟨p,2,none⟩=some (.int .u64 la)) au ?_;have hG:=HG.out _ _ hS1;refine rP 0 ?_ (y:=aZ);refine rP 1 ?_ (y:=aZ);refine rP 2 ?_ (y:=aZ);refine rP 3 ?_ (y:=aZ);refine rP 4 ?_ (y:=dV);refine rP 5 ?_ (y:=bW);refine rP 6 ?_ (y:=jf);refine rt 7 (h:=?_);refine rP 8 ?_ (y:=aZ);refine rP 9 ?_ (y:=aZ);refine rP 10 ?_ (y:=kM);refine rP 11 ?_ (y:=(Ls ak (by go_simp;first|done|rfl) QV.out));refine rP 14 ?_ (y:=dV);refine rP 15 ?_ (y:=bW);clear hG;refine bY 12 ak au (fun K hK=>?_)
     (refine oJ au ak ?_)
     refine (GU (m.drop 0) (by rw [acL];have:=G6.out;omega) (QO.out.more pV) hS1).mono ?_;rintro ee w12 ⟨v,rfl,rfl,rfl⟩;refine hK _ _ (.inr (.inr rfl)) ?_;clear hK;rw [Uk.out];refine bY 13 ak au (fun K hK=>?_)
     (refine gZ au ak ak ?_)
     refine (vX la N0 hS1).mono ?_;rintro ee jU ⟨v,rfl,rfl,h13⟩;refine hK _ _ (.inl rfl) ?_;clear hK hS1;rw [Ua.out];refine rP 16 ?_ (y:=jf);refine bY 17 ak au (fun K hK=>?_);refine kW (v:= .int .u64 n0) h13 ak ak aj cZ (by exact (by decide:3≤8)) au aj ?_;intro BH h17;refine hK _ _ (.inl rfl) ?_;clear hK h13;refine dI au ?_
     try simp only [jT]
     try go_frame
     have h18:Sat w0 BH (jy p ⟨n0,lb,lc,ld⟩ (.slice none 0 0) l.length::bK (.slice (some ⟨bA,0,none⟩) l.length cA) l::F):=h17;clear h17;go_wp2_with fail
     go_roundg 3
     case measure=>omega
     case rel=>exact ⟨1,rfl,by omega,rfl,h18⟩
    ·have hw1:(8:Int) * 1=8:=by decide
     have hw2:IntKind.i64.wrap (8:Int)=(8:Int):=by decide
     have HG:=uQ (fun (w:World) (R:List aH) (hS:Sat w0 w (jy p ⟨n0,lb,lc,ld⟩ (.slice none 0 0) l.length::R))=>show w.cell? ⟨p,3,none⟩=some (.int .u64 lb) from hS.cellAt 3 _ rfl);go_wp2_with fail;have hS1:=uI.drew;clear uI;refine dS [13,16,17] (fun w'=>w'.cell? ⟨p,3,none⟩=some (.int .u64 lb)) au ?_;have hG:=HG.out _ _ hS1;refine rP 0 ?_ (y:=aZ);refine rP 1 ?_ (y:=aZ);refine rP 2 ?_ (y:=aZ);refine rP 3 ?_ (y:=aZ);refine rP 4 ?_ (y:=dV);refine rP 5 ?_ (y:=bW);refine rP 6 ?_ (y:=jf);refine rt 7 (h:=?_);refine rP 8 ?_ (y:=aZ);refine rP 9 ?_ (y:=aZ);refine rP 10 ?_ (y:=kM);refine rP 11 ?_ (y:=(Ls ak (by go_simp;first|done|rfl) QW.out));refine rP 14 ?_ (y:=dV);refine rP 15 ?_ (y:=bW);clear hG;refine bY 12 ak au (fun K hK=>?_)
     (refine oJ au ak ?_)
     refine (GU (m.drop 8) (by rw [acL];have:=G6.out;omega) (QS.out.more pV) hS1).mono ?_;rintro ee w12 ⟨v,rfl,rfl,rfl⟩;refine hK _ _ (.inr (.inr rfl)) ?_;clear hK;rw [Il.out];refine bY 13 ak au (fun K hK=>?_)
     (refine gZ au ak ak ?_)
     refine (vX lb N1 hS1).mono ?_;rintro ee jU ⟨v,rfl,rfl,h13⟩;refine hK _ _ (.inl rfl) ?_;clear hK hS1;rw [Ub.out];refine rP 16 ?_ (y:=jf);refine bY 17 ak au (fun K hK=>?_);refine kW (v:= .int .u64 n1') h13 ak ak aj cZ (by exact (by decide:4≤8)) au aj ?_;intro BH h17;refine hK _ _ (.inl rfl) ?_;clear hK h13;refine dI au ?_
     try simp only [jT]
     try go_frame
     have h18:Sat w0 BH (jy p ⟨n0,n1',lc,ld⟩ (.slice none 0 0) l.length::bK (.slice (some ⟨bA,0,none⟩) l.length cA) l::F):=h17;clear h17;go_wp2_with fail
     go_roundg 2
     case measure=>omega
     case rel=>exact ⟨2,rfl,by omega,rfl,h18⟩
    ·have hw1:(8:Int) * 2=16:=by decide
     have hw2:IntKind.i64.wrap (16:Int)=(16:Int):=by decide
     have HG:=uQ (fun (w:World) (R:List aH) (hS:Sat w0 w (jy p ⟨n0,n1',lc,ld⟩ (.slice none 0 0) l.length::R))=>show w.cell? ⟨p,4,none⟩=some (.int .u64 lc) from hS.cellAt 4 _ rfl);go_wp2_with fail;have hS1:=uI.drew;clear uI;refine dS [13,16,17] (fun w'=>w'.cell? ⟨p,4,none⟩=some (.int .u64 lc)) au ?_;have hG:=HG.out _ _ hS1;refine rP 0 ?_ (y:=aZ);refine rP 1 ?_ (y:=aZ);refine rP 2 ?_ (y:=aZ);refine rP 3 ?_ (y:=aZ);refine rP 4 ?_ (y:=dV);refine rP 5 ?_ (y:=bW);refine rP 6 ?_ (y:=jf);refine rt 7 (h:=?_);refine rP 8 ?_ (y:=aZ);refine rP 9 ?_ (y:=aZ);refine rP 10 ?_ (y:=kM);refine rP 11 ?_ (y:=(Ls ak (by go_simp;first|done|rfl) QX.out));refine rP 14 ?_ (y:=dV);refine rP 15 ?_ (y:=bW);clear hG;refine bY 12 ak au (fun K hK=>?_)
     (refine oJ au ak ?_)
     refine (GU (m.drop 16) (by rw [acL];have:=G6.out;omega) (QT.out.more pV) hS1).mono ?_;rintro ee w12 ⟨v,rfl,rfl,rfl⟩;refine hK _ _ (.inr (.inr rfl)) ?_;clear hK;rw [qM.out];refine bY 13 ak au (fun K hK=>?_)
     (refine gZ au ak ak ?_)
     refine (vX lc N2 hS1).mono ?_;rintro ee jU ⟨v,rfl,rfl,h13⟩;refine hK _ _ (.inl rfl) ?_;clear hK hS1;rw [Uc.out];refine rP 16 ?_ (y:=jf);refine bY 17 ak au (fun K hK=>?_);refine kW (v:= .int .u64 yB) h13 ak ak aj cZ (by exact (by decide:5≤8)) au aj ?_;intro BH h17;refine hK _ _ (.inl rfl) ?_;clear hK h13;refine dI au ?_
     try simp only [jT]
     try go_frame
     have h18:Sat w0 BH (jy p ⟨n0,n1',yB,ld⟩ (.slice none 0 0) l.length::bK (.slice (some ⟨bA,0,none⟩) l.length cA) l::F):=h17;clear h17;go_wp2_with fail
     go_roundg 1
     case measure=>omega
     case rel=>exact ⟨3,rfl,by omega,rfl,h18⟩
    ·have hw1:(8:Int) * 3=24:=by decide
     have hw2:IntKind.i64.wrap (24:Int)=(24:Int):=by decide
     have HG:=uQ (fun (w:World) (R:List aH) (hS:Sat w0 w (jy p ⟨n0,n1',yB,ld⟩ (.slice none 0 0) l.length::R))=>show w.cell? ⟨p,5,none⟩=some (.int .u64 ld) from hS.cellAt 5 _ rfl);go_wp2_with fail;have hS1:=uI.drew;clear uI;refine dS [13,16,17] (fun w'=>w'.cell? ⟨p,5,none⟩=some (.int .u64 ld)) au ?_;have hG:=HG.out _ _ hS1;refine rP 0 ?_ (y:=aZ);refine rP 1 ?_ (y:=aZ);refine rP 2 ?_ (y:=aZ);refine rP 3 ?_ (y:=aZ);refine rP 4 ?_ (y:=dV);refine rP 5 ?_ (y:=bW);refine rP 6 ?_ (y:=jf);refine rt 7 (h:=?_);refine rP 8 ?_ (y:=aZ);refine rP 9 ?_ (y:=aZ);refine rP 10 ?_ (y:=kM);refine rP 11 ?_ (y:=(Ls ak (by go_simp;first|done|rfl) QY.out));refine rP 14 ?_ (y:=dV);refine rP 15 ?_ (y:=bW);clear hG;refine bY 12 ak au (fun K hK=>?_)
     (refine oJ au ak ?_)
     refine (GU (m.drop 24) (by rw [acL];have:=G6.out;omega) (QU.out.more pV) hS1).mono ?_;rintro ee w12 ⟨v,rfl,rfl,rfl⟩;refine hK _ _ (.inr (.inr rfl)) ?_;clear hK;rw [Ul.out];refine bY 13 ak au (fun K hK=>?_)
     (refine gZ au ak ak ?_)
     refine (vX ld N3 hS1).mono ?_;rintro ee jU ⟨v,rfl,rfl,h13⟩;refine hK _ _ (.inl rfl) ?_;clear hK hS1;rw [Ue.out];refine rP 16 ?_ (y:=jf);refine bY 17 ak au (fun K hK=>?_);refine kW (v:= .int .u64 FZ) h13 ak ak aj cZ (by exact (by decide:6≤8)) au aj ?_;intro BH h17;refine hK _ _ (.inl rfl) ?_;clear hK h13;refine dI au ?_
     try simp only [jT]
     try go_frame
     have h18:Sat w0 BH (jy p ⟨n0,n1',yB,FZ⟩ (.slice none 0 0) l.length::bK (.slice (some ⟨bA,0,none⟩) l.length cA) l::F):=h17;clear h17;go_wp2_with fail
     go_roundg 0
     case measure=>omega
     case rel=>exact ⟨4,rfl,by omega,rfl,h18⟩
    ·have hS4:Sat w0 wr (jy p ⟨n0,n1',yB,FZ⟩ (.slice none 0 0) l.length::bK (.slice (some ⟨bA,0,none⟩) l.length cA) l::F):=uI;clear uI;go_wp2_with ((with_reducible refine Nl ⟨?_⟩);refine SV aj aj ads.out ?_)
     go_roundg (m.drop 32).length
     case measure=>exact Hll.out.1
     case rel=>exact ⟨⟨n0,n1',yB,FZ⟩,m.drop 32,rfl,Hll.out.2,Hsl.out,by have k:=adq.out;rw [acL]at k;exact k,nP.out,hS4⟩
  ·have hst:=uQ (show Xx.jQ l.length Xx.Ln.zero l=(⟨la,lb,lc,ld⟩,m) from heq.trans (Xx.agx h32));have D8:=uQ hRS;obtain ⟨a,c,rfl,k1,k2⟩:=hRS.len hS.drop;have cc:¬ (32:Int)≤(m.length:Int):=oQ;clear heq hlt hml h32 hRS k1 k2;go_wp2_with ((with_reducible refine cO ⟨?_⟩);refine fG (v:= .slice a m.length c) hS aj aj aj cZ (by exact ahD 7) au aj ?_;intro w9 h9)
   go_end0
   exact ⟨_,rfl,.slice a m.length c,bA,cA,by rw [hst.out];exact h9,by rw [hst.out];exact D8.out⟩
theorem ahd {ln:Xx.Ln}{m:Bs} (hln:ln.lt) (hn:n≤1073741824) (hm:m.length≤1073741824) (hr:RS w0 F rv m) (h:Sat w0 w (jy p ln rv n::F)):Calls Tryz.prog 210 #[ptr p] w (aP fun v w'=>v = .int .u64 (Xx.f3 (Xx.f2 (Xx.f1 (Xx.tail (((if 32≤n then Xx.joined ln else 2870177450012600261)+n)%18446744073709551616) m))):Nat)∧Sat w0 w' (jy p ln rv n::F)):=by
 obtain ⟨ra,rc,rfl,k1,k2⟩:=(hr.more (G:=jy p ln rv n::F) pV).len h;have Hr:=uQ (fun (w:World) (x:Nat) (hx:x<18446744073709551616) (hS:Sat w0 w (jy p ln (.slice ra m.length rc) n::F))=>am6 x hx m hm (hr.more pV) hS);have c0:w.cell? ⟨p,0,none⟩=some (.bool true):=h.cellAt 0 _ rfl;have Hj:=uQ (fun (w:World) (hS:Sat w0 w (jy p ln (.slice ra m.length rc) n::F))=>ahI hln hS);have Xu:=uQ (fun (w:World) (hS:Sat w0 w (jy p ln (.slice ra m.length rc) n::F))=>show w.cell? ⟨p,7,none⟩=some (.int .u64 n)∧w.cell? ⟨p,6,none⟩=some (.slice ra m.length rc) from ⟨hS.cellAt 7 _ rfl,hS.cellAt 6 _ rfl⟩);have Hn:=uQ hn;clear hr hm k1 k2 hn;by_cases h32:32≤n
 ·rw [acr h32];generalize Xx.joined ln=J at *
  obtain ⟨x,e1,hx,e2⟩:=abm J n;change (J+n)%18446744073709551616=x at e2;rw [e2];have htl:Xx.tail x m<18446744073709551616:=Xx.abq x m (show x<Xx.W from hx);have qY:=uQ (fun (w:World) (hS:Sat w0 w (jy p ln (.slice ra m.length rc) n::F))=>Hr.out w x hx hS);generalize Xx.tail x m=y at *
  obtain ⟨t1,t2,t3,t4,t5,f1,f2,f3,f4,f5,f6⟩:=WI htl;have LX:=uQ f6;have kK:=uQ e1;have Hf:=uQ (And.intro f1 (And.intro f2 (And.intro f3 (And.intro f4 f5))));have ci:(32:Int)≤(n:Int):=oQ;clear hx htl f6 e1 e2 f1 f2 f3 f4 f5 Hr h32 hln;go_enter Tryz.func210,Tryz.ntmps210;go_wp2_with ((with_reducible refine bI ⟨?_⟩);refine gu h aj aV bJ ak au ?_);refine (Hj.out _ h).mono ?_;rintro ee w1 ⟨v,rfl,rfl,h1⟩;clear h c0 Hj;go_wp2_with fail;have hS:=h1.drew;clear h1;refine dS [10,11] (fun w'=>w'.cell? ⟨p,7,none⟩=some (.int .u64 n)∧w'.cell? ⟨p,6,none⟩=some (.slice ra m.length rc)) au ?_;have hG:=Xu.out _ hS;refine rP 0 ?_ (y:=aZ);refine rP 1 ?_ (y:=aZ);refine rP 2 ?_ (y:=dV);refine rP 3 ?_ (y:=bW);refine rt 4 (h:=?_);refine rp 5 (hy:=(qG ak ak (by intro wq;have e1:=kK.out;(go_simp);first|done|exact wQ))) (h:=?_);refine rP 6 ?_ (y:=aZ);refine rP 7 ?_ (y:=dV)
  refine rP 8 ?_ (y:=bW);refine rt 9 (h:=?_);clear hG;refine bY 10 ak au (fun K hK=>?_)
  (refine gZ au ak ak ?_)
  refine (qY.out _ hS).mono ?_;rintro ee w2 ⟨v,rfl,rfl,h2⟩;refine hK _ _ (.inl rfl) ?_;clear hK hS qY;refine rP 11 ?_ (y:=fZ);refine dI au ?_
  try simp only [jT]
  try go_frame
  obtain ⟨f1,f2,f3,f4,f5⟩:=Hf.out;go_wp2;go_ret;exact ⟨_,rfl,by rw [LX.out];rfl,h2⟩
 ·rw [abA h32];obtain ⟨x,e1,hx,e2⟩:=alR n;rw [e2];have htl:Xx.tail x m<18446744073709551616:=Xx.abq x m (show x<Xx.W from hx);have qY:=uQ (fun (w:World) (hS:Sat w0 w (jy p ln (.slice ra m.length rc) n::F))=>Hr.out w x hx hS);generalize Xx.tail x m=y at *
  obtain ⟨t1,t2,t3,t4,t5,f1,f2,f3,f4,f5,f6⟩:=WI htl;have LX:=uQ f6;have kK:=uQ e1;have Hf:=uQ (And.intro f1 (And.intro f2 (And.intro f3 (And.intro f4 f5))));have ci:¬ (32:Int)≤(n:Int):=oQ;clear hx htl f6 e1 e2 f1 f2 f3 f4 f5 Hr h32 hln Hj;go_enter Tryz.func210,Tryz.ntmps210;go_wp2_with ((with_reducible refine bI ⟨?_⟩);refine gu h aj aV bJ ak au ?_);have h1:=h;clear h c0;go_wp2_with fail;have hS:=h1.drew;clear h1;refine dS [10,11] (fun w'=>w'.cell? ⟨p,7,none⟩=some (.int .u64 n)∧w'.cell? ⟨p,6,none⟩=some (.slice ra m.length rc)) au ?_;have hG:=Xu.out _ hS;refine rP 0 ?_ (y:=aZ);refine rP 1 ?_ (y:=aZ);refine rP 2 ?_ (y:=dV);refine rP 3 ?_ (y:=bW);refine rt 4 (h:=?_);refine rp 5 (hy:=(qG ak ak (by intro wq;have e1:=kK.out;(go_simp);first|done|exact wQ))) (h:=?_);refine rP 6 ?_ (y:=aZ);refine rP 7 ?_ (y:=dV);refine rP 8 ?_ (y:=bW);refine rt 9 (h:=?_);clear hG
  refine bY 10 ak au (fun K hK=>?_)
  (refine gZ au ak ak ?_)
  refine (qY.out _ hS).mono ?_;rintro ee w2 ⟨v,rfl,rfl,h2⟩;refine hK _ _ (.inl rfl) ?_;clear hK hS qY;refine rP 11 ?_ (y:=fZ);refine dI au ?_
  try simp only [jT]
  try go_frame
  obtain ⟨f1,f2,f3,f4,f5⟩:=Hf.out;go_wp2;go_ret;exact ⟨_,rfl,by rw [LX.out];rfl,h2⟩
theorem am5 (hl0:l≠[]) (hl:l.length≤1073741824) (hr:RS w0 F bv l) (h:Sat w0 w F):Calls Tryz.prog 174 #[bv,.int .u64 0] w (aP fun v w'=>v = .int .u64 (Xx.sum l:Nat)∧Sat w0 w' F):=by
 obtain ⟨ba,bc,rfl,_,_⟩:=hr.len h;have Hr:=uQ hr;have Hl:=uQ hl;have Ei:=uQ hl0;have Hz:=uQ (show Xx.sum l=Xx.f3 (Xx.f2 (Xx.f1 (Xx.tail (((if 32≤l.length then Xx.joined (Xx.jQ l.length Xx.Ln.zero l).1 else 2870177450012600261)+l.length)%18446744073709551616) (Xx.jQ l.length Xx.Ln.zero l).2))) from rfl);clear hr hl hl0;go_enter Tryz.func174,Tryz.ntmps174;go_wp2_with fail;refine (aiC h).mono ?_;rintro ee w1 ⟨v,rfl,p,rfl,h1⟩;go_wp2_with fail;refine (ahe Ei.out Hl.out Hr.out h1).mono ?_;rintro ee w2 ⟨v,rfl,rv,bA,cA,h2,hrs⟩;have hgl:=Xx.Xi l.length Xx.Ln.zero l Xx.acv;have hlen:(Xx.jQ l.length Xx.Ln.zero l).2.length≤1073741824:=acz (Xx.Xh l.length Xx.Ln.zero l) Hl.out;have hs:=ahd hgl Hl.out hlen hrs h2;rw [← Hz.out]at hs;clear hgl hlen hrs h h1 h2 Hz;go_wp2_with fail;refine hs.mono ?_;rintro ee w3 ⟨v,rfl,rfl,h3⟩;clear hs;go_wp2;go_ret;exact ⟨_,rfl,rfl,h3.drop.drop⟩
end
end Go.Proofs.YtihngncbioofnaaGreatDoor
namespace Go.Sl
open Go
section
variable {P:Program}{ops:Array Oper}{Q:Exit→Act→World→Prop}{late:List Nat}{G:World→Prop}{n:Nat}{l:Array Bool}{a:Act}{w:World}{oi oj:Oper}
theorem rU (i j:Nat) (hi:ops.toList[i]?=some oi) (hj:ops.toList[j]?=some oj) (hr:Region.ready .any ops l=[i,j])
  (h1:∀ K:Act→World→Prop,(∀ a' w',keeps late G i w w'→jm P ops Q late G n (l.setIfInBounds i true) a' w'→K a' w') →
   if Region.wanted oi (yielded ops a.tmps)=true then Oper.wp P oi a w K Q else K (a.put oi.dst undef) w)
  (h2:∀ K:Act→World→Prop,(∀ a' w',keeps late G j w w'→jm P ops Q late G n (l.setIfInBounds j true) a' w'→K a' w') →
   if Region.wanted oj (yielded ops a.tmps)=true then Oper.wp P oj a w K Q else K (a.put oj.dst undef) w):jm P ops Q late G (n+1) l a w:=by
 rw [ah6]at hi hj;refine ⟨(fun h0=>by rw [hr]at h0;cases h0),fun k hk=>?_⟩;rw [hr]at hk;have hk2:k=i∨k=j:=by simpa using hk
 rcases hk2 with rfl|rfl
 ·have:=h1 _ (fun a' w' h1 h2=>And.intro h1 h2);unfold wpOp;rw [hi];show if Region.wanted oi (yielded ops a.tmps)=true then _ else _
  split
  ·rename_i hw;rw [acr hw]at this;exact .inl this
  ·rename_i hw;rw [abA hw]at this;exact this
 ·have:=h2 _ (fun a' w' h1 h2=>And.intro h1 h2);unfold wpOp;rw [hj];show if Region.wanted oj (yielded ops a.tmps)=true then _ else _
  split
  ·rename_i hw;rw [acr hw]at this;exact .inl this
  ·rename_i hw;rw [abA hw]at this;exact this
end
end Go.Sl
namespace Go.Proofs.YtihngncbioofnaaGreatDoor
open Go Go.Sl Go.ay Go.MapKept Go.RowKit
section
variable {P:Program}{w0 w:World}{L F:List aH}{ops:Array Oper}{rest:List Oper}{a:Act}{Q:Exit→Act→World→Prop}{K:Act→World→Prop}{E:Prop}{dst:Option Tmp}{t ty:TypeId}{pos:String}{after:Array Edge}{x y s:Operand}{v vy:Value}{l m:Bs}
theorem ace (hs:Sat w0 w (jk v l::F)) (hv:a.eval s=v) (hy:a.eval y=vy) (hx:bG 1 vy (aA m) w) (hm:m≠[]) (hlen:l.length+m.length≤1099511627776) (hK:∀ v' w',Sat w0 w' (jk v' (l++m)::F)→K (a.put dst v') w') :
  Oper.wp Tryz.prog ⟨dst,.call { callee:= .builtin .append,args:=#[s,y],argTypes:=#[39,39] },39,pos,after,none⟩ a w K Q:=by
 obtain ⟨i,hi,hz0,hz1,hz2⟩:=uK;have h63:(aA l).length+(aA m).length≤maxLen:=by rw [aX,aX];unfold maxLen;omega
 have hby:((aA l).length+(aA m).length) * i.bytes≤140737488355328:=by rw [aX,aX,hz2];omega
 obtain ⟨v',w',hr,hS⟩:=akx (P:=Tryz.prog) 39 39 5 i _ Tryz.underlying39 hi hz0 hz1 aj oQ (vS _) (fun e=>hm (by cases m with|nil=>rfl|cons z r=>cases e)) hs hx h63 hby;rw [← zO]at hS;unfold Oper.wp execOp;simp only [resolve,invoke,builtin,acN,ac1,acB,aes,acS,adw,hv,hy,hr];exact hK _ _ hS
theorem V8 (hs:Sat w0 w (jk v l::F)) (hv:a.eval s=v) (hy:a.eval y=vy) (hx:bG 1 vy (aA m) w) (hm:m≠[]) (hlen:l.length+m.length≤1099511627776) (hK:∀ v' w',Sat w0 w' (jk v' (l++m)::F)→K (a.put dst v') w') :
  if Region.wanted ⟨dst,.call { callee:= .builtin .append,args:=#[s,y],argTypes:=#[39,39] },39,pos,after,none⟩ (yielded ops a.tmps)=true then
   Oper.wp Tryz.prog ⟨dst,.call { callee:= .builtin .append,args:=#[s,y],argTypes:=#[39,39] },39,pos,after,none⟩ a w K Q else E:=xO rfl (ace hs hv hy hx hm hlen hK)
theorem SN (hs:Sat w0 w (jk v l::F)) (hv:a.eval s=v) (hy:a.eval y=vy) (hx:bG 1 vy (aA m) w) (hm:m≠[]) (hlen:l.length+m.length≤1099511627776) (hK:∀ v' w',Sat w0 w' (jk v' (l++m)::F)→wpList Tryz.prog ops Q rest (a.put dst v') w') :
  wpList Tryz.prog ops Q (⟨dst,.call { callee:= .builtin .append,args:=#[s,y],argTypes:=#[39,39] },39,pos,after,none⟩::rest) a w:=
 aeB rfl fun _ hK'=>ace hs hv hy hx hm hlen fun v' w' h=>hK' _ _ (hK v' w' h)
theorem adO (h:Sat w0 w (jk v l::F)) (e:l=m):Sat w0 w (jk v m::F):=e ▸ h
theorem adP (h:Sat w0 w (jk v l::F)):Sat w0 w (jk v (l++[])::F):=by rw [acM];exact h
theorem aea (h:Stop (wpList P ops Q (⟨dst,.slice ty x none none none,t,pos,after,none⟩::rest) a w)):wpList P ops Q (⟨dst,.slice ty x none none none,t,pos,after,none⟩::rest) a w:=h.out
theorem amT (hx:a.eval x=v) (hr:∀ w,(Instr.sliceAt ty v none none none).run P w = .ok vy w) (h:wpList P ops Q rest (a.put dst vy) w):wpList P ops Q (⟨dst,.slice ty x none none none,t,pos,after,none⟩::rest) a w:=
 aeB rfl fun _ hK=>by
  unfold Oper.wp execOp;simp only [hx,an5,acN,hr,acB,ac1];exact hK _ _ h
theorem U6 (h:Stop (wpList P ops Q (⟨dst,.call { callee:= .builtin .append,args:=#[s,y],argTypes:=#[39,39] },t,pos,after,none⟩::rest) a w)):wpList P ops Q (⟨dst,.call { callee:= .builtin .append,args:=#[s,y],argTypes:=#[39,39] },t,pos,after,none⟩::rest) a w:=h.out
theorem Wh (sb:ByteArray) (hl:sb.data.toList=l) (hle:l.length≤1073741824) (hs:Sat w0 w F) (hx:a.eval x = .string sb) (hK:∀ v' w',Sat w0 w' (jk v' l::F)→K (a.put dst v') w') :
  if Region.wanted ⟨dst,.convert 9 39 x,t,pos,after,none⟩ (yielded ops a.tmps)=true then Oper.wp Tryz.prog ⟨dst,.convert 9 39 x,t,pos,after,none⟩ a w K Q else E:=by
 refine xO rfl ?_;have hr:=Lib.run_convert_string_bytes (P:=Tryz.prog) w 9 39 5 sb Tryz.underlying9 Tryz.underlying39 Tryz.underlying5;unfold Oper.wp execOp;simp only [hx,acN,hr,acB,ac1];exact hK _ _ (ad4 hs 5 sb l hl hle)
theorem RS.P9 (h:Sat w0 w (jk v l::F)):RS w0 (jk v l::F) v l:=by
 refine ⟨fun w hw=>Nh hw,?_⟩;rcases Nc h with h|⟨b,n,cap,cs,m,rfl,hl,hn,hc,hcm,htk,hmk,hp⟩
 ·obtain ⟨a,n,c,e,h1,h2,h3⟩:=EM h;exact ⟨a,n,c,e,h1,h2⟩
 ·exact ⟨_,n,cap,rfl,hn,hcm⟩
end
section
variable {w0 w:World}{F:List aH}{lv:Value}
theorem uU (r:RV) (h:r.x.key.length=32):(fD r).toArray.size=33:=by rw [abX];exact qw r h
theorem rvG (r:RV) (h:r.x.key.length=32):(fD r).toArray.getD 32 undef=r.nv:=by
 rw [ai8,show (fD r).toArray[32]?=some r.nv from Rf (x:=r.x) (nv:=r.nv) h];rfl
theorem ak5 {w:World}{r:RV} (h:bG 1 r.nv (ints r.x.nums) w):(fD r).toArray.toList.all (·.oneCell')=true:=by
 obtain ⟨a,n,c,e,_⟩:=h;unfold fD;rw [e];rw [acW,ahh,uz];rfl
def BO:RV:=⟨⟨ah.zero32,[]⟩,.slice none 0 0⟩
theorem Lu:jr Tryz.prog 221=some (.agg (fD BO).toArray):=by kernel_rfl
theorem ahy {w:World}{sv:Value}{l:List Int}{i:Nat}{s:Int} (h:bG 1 sv (ints l) w) (hs:l[i]?=some s):∃ bk off c,sv = .slice (some ⟨bk,off,none⟩) l.length c∧w.cell? ⟨bk,off+i,none⟩=some (.int .i64 s):=by
 obtain ⟨bk,off,cc,hsv,hcell⟩:=jG (f:=fun i:Int=>[Value.int .i64 i]) (k:=1) (l:=l) (fun u _=>rfl) (by rw [show ints l=l.flatMap fun i=>[Value.int .i64 i] from by unfold ints;exact List.map_eq_flatMap]at h;exact h) hs aN;have f0:=hcell 0 _ rfl;rw [adb,aif]at f0;exact ⟨bk,off,cc,hsv,f0⟩
theorem ahz {w:World}{sv:Value}{l:List Int} (h:bG 1 sv (ints l) w):∃ a c,sv = .slice a l.length c:=
 jl (f:=fun i:Int=>[Value.int .i64 i]) (k:=1) (l:=l) (fun u _=>rfl) (by rw [show ints l=l.flatMap fun i=>[Value.int .i64 i] from by unfold ints;exact List.map_eq_flatMap]at h;exact h) aN
theorem Vr (oP:ByteArray) (mg:Bs) (hmb:oP.data.toList=mg) (X0:mg.length=8) (kd:Bool) (k:Nat) (hk:k≤3) (rs:List RV) (hok:dF.Ok k kd (rs.map (·.x))) (hr:Ro w0 F (bG 33 lv (rs.flatMap fD))) (he:∀ r∈rs,uy w0 F r) (h:Sat w0 w F) :
  Calls Tryz.prog 132 #[.agg (oM oP kd k),lv] w (aP fun v w'=>∃ bv,v = .tuple #[bv,errno 0]∧Sat w0 w' (jk bv (dF.book Xx.sum mg kd (rs.map (·.x)))::F)):=by
 obtain ⟨la,lc,rfl⟩:=jl (fun r hr=>qw r (he r hr).key) (hr w h) aN;have hn:rs.length≤65536:=by have:=hok.len;rwa [abl]at this
 have Hr:=uQ hr;have He:=uQ he;have Hn:=uQ hn;have dw:=uQ hok;have Uh:=uQ hmb;have zu:=uQ X0;have c1:¬ (65536:Int)<(rs.length:Int):=oQ;have c2:IntKind.u64.wrap (rs.length:Int)=(rs.length:Int):=by rw [ahL];omega
 clear hr he hn hok hmb X0;go_enter Tryz.func132,Tryz.ntmps132;go_wp2_with (with_reducible apply fK);refine ⟨fM h ak ak ?_⟩;intro b2 w2 hS0;replace hS0:Sat w0 w2 (pt b2 (.cells (oM oP kd k) 213 (0,0))::F):=hS0;clear h;go_wp2_with fail;have hS1:=hS0.drew;clear hS0;have hG0:=hS1.cellAt 0 (.string oP) rfl;refine dS [2,7,8] (fun w'=>w'.cell? ⟨b2,0,none⟩=some (.string oP)) au ?_;have hG:=hG0;refine rP 0 ?_ (y:=bW);refine rt 1 (h:=?_);clear hG;refine rP 3 ?_ (y:=aZ);refine rP 4 ?_ (y:=(o8 ak bU));refine rP 5 ?_ (y:=(y9 ak bU));refine rU 2 6 ak ak au (fun K hK=>?_) (fun K hK=>?_)
 focus
  refine Wh oP Uh.out (by rw [zu.out];decide) hS1 ak ?_;intro v16 w3 h3;refine hK _ _ (.inl rfl) ?_;clear hK hS1 hG0;refine bY 6 ak au (fun K hK=>?_)
  (refine gZ au ak ak ?_)
  refine (Dq rs.length (by have:=Hn.out;omega) h3).mono ?_;rintro ee w4 ⟨v,rfl,h4,_⟩;refine hK _ _ (.inr (.inl ((h4.drop.drop).cellAt 0 (.string oP) rfl))) ?_;clear hK h3;refine bY 7 ak au (fun K hK=>?_);refine V8 (h4.sb:Sat w0 _ (jk v16 mg::bK v (ah.le rs.length 4)::pt b2 (.cells (oM oP kd k) 213 (0,0))::F)) ak ak (Sat.rd h4) (fun e=>by cases e) (by rw [zu.out,ah.kJ];decide) ?_;intro v6 w5 h5;refine hK _ _ (.inl rfl) ?_;clear hK h4;refine rP 8 ?_ (y:=fZ);refine dI au ?_
  try simp only [jT]
  try go_frame
  have hB:Sat w0 w5 (jk v6 (mg++ah.le rs.length 4)::pt b2 (.cells (oM oP kd k) 213 (0,0))::F):=h5.sb;clear h5
 rotate_left
 focus
  (refine gZ au ak ak ?_)
  refine (Dq rs.length (by have:=Hn.out;omega) hS1).mono ?_;rintro ee w4 ⟨v,rfl,h4,_⟩;refine hK _ _ (.inr (.inl ((h4.drop).cellAt 0 (.string oP) rfl))) ?_;clear hK hS1 hG0;refine bY 2 ak au (fun K hK=>?_);refine Wh oP Uh.out (by rw [zu.out];decide) h4 ak ?_;intro v16 w3 h3;refine hK _ _ (.inl rfl) ?_;clear hK h4;refine bY 7 ak au (fun K hK=>?_);refine V8 (h3.sb:Sat w0 _ (jk v16 mg::bK v (ah.le rs.length 4)::pt b2 (.cells (oM oP kd k) 213 (0,0))::F)) ak ak (Sat.rd h3.drop) (fun e=>by cases e) (by rw [zu.out,ah.kJ];decide) ?_;intro v6 w5 h5;refine hK _ _ (.inl rfl) ?_;clear hK h3;refine rP 8 ?_ (y:=fZ);refine dI au ?_
  try simp only [jT]
  try go_frame
  have hB:Sat w0 w5 (jk v6 (mg++ah.le rs.length 4)::pt b2 (.cells (oM oP kd k) 213 (0,0))::F):=h5.sb;clear h5
 all_goals
  as_aux_lemma=>
   have hX0:=uQ hB;go_wp2_with fail
   go_loopg [6,24] rs.length (fun g bq iq wr=>∃ (i:Nat) (bv:Value),g=rs.length - i∧i≤rs.length∧bv=bq∧iq = .int .i64 i∧Sat w0 wr (jk bv (mg++ah.le rs.length 4++dF.mX kd ((rs.map (·.x)).take i))::pt b2 (.cells (oM oP kd k) 213 (0,0))::F))
   case atStart=>exact ⟨0,_,rfl,acV _,rfl,rfl,by rw [adH,dF.QC,acM];exact hB⟩
   case round=>
    obtain ⟨i,bv,rfl,hi,rfl,rfl,hS⟩:=hrel;clear hB hX0;by_cases hlt:i<rs.length
    ·as_aux_lemma=>
     have c3:(i:Int)<(rs.length:Int):=oQ;have hwi:IntKind.i64.wrap ((i:Int)+1)=(i:Int)+1:=acC _ (by have:=Hn.out;omega);obtain ⟨r,hx⟩:∃ q,rs[i]?=some q:=⟨_,aaI hlt⟩;have H1:=uQ (He.out r (abV hx));have vH:=uQ (dw.out.row r.x (List.mem_map_of_mem (abV hx)));have htk:=dF.akb (kd:=kd) (show (rs.map (·.x))[i]?=some r.x by rw [acE,hx];rfl);have XD:(mg++ah.le rs.length 4++dF.mX kd ((rs.map (·.x)).take i)).length≤3000000:=by
      rw [aaK,aaK,zu.out,ah.kJ,dF.QB _ (fun q hq=>dw.out.row q (adG hq)),acA,abl];have h1:=Hn.out;have h2:min i rs.length * dF.qV kd k≤65536 * 44:=anv oQ (dF.aaB hk);omega
     obtain ⟨bk,off,c',hsv,hcell⟩:=jG (f:=fD) (k:=33) (fun r hr=>qw r (He.out r hr).key) (Hr.out _ hS.drop.drop) hx aN;cases hsv;have Ym:mg++ah.le rs.length 4++dF.mX kd ((rs.map (·.x)).take (i+1))=(mg++ah.le rs.length 4++dF.mX kd ((rs.map (·.x)).take i))++(if kd then r.x.key else [])++dF.oU r.x.nums:=by
      rw [htk];unfold dF.rowB;simp only [acD]
     generalize mg++ah.le rs.length 4++dF.mX kd ((rs.map (·.x)).take i)=X at *
     have Ir:=uQ Ym;have HX:=uQ XD;have bV:=uQ hlt;clear hx htk Ym XD hlt hi
     go_wp2_with (first
      |((with_reducible refine bI ⟨?_⟩);refine iL (b:=bk) (o:=off+i * 33) (fD r) aj hcell Tryz.underlying221 rfl (by rw [qw _ H1.out.key];kernel_rfl) ?_)
      |(with_reducible apply gq))
     refine ⟨fF Lu hS rfl ?_⟩;intro b8 w8 h8;clear hS hcell;go_wp2_with (with_reducible apply cO);refine ⟨gJ (fD r).toArray h8 aj aj (by rw [uU _ H1.out.key];rfl) cZ (by rw [uU _ H1.out.key];kernel_rfl) (ak5 (H1.out.rd _ h8.drop.drop.drop)) ?_⟩;intro w9 h9;clear h8;have hgd:(fD r).toArray.getD 32 undef=r.nv:=rvG _ H1.out.key;obtain ⟨kb,hkb⟩:∃ kb,Hid (kd=kb):=⟨_,uQ rfl⟩;cases kd
     focus
      have hQ:=adP (h9.pick aY);have gY:=uQ (show mg++ah.le rs.length 4++dF.mX false ((rs.map (·.x)).take (i+1))=X++[]++dF.oU r.x.nums from Ir.out);have HY:=uQ (show (X++([]:Bs)).length≤3000100 by rw [acM];have:=HX.out;omega);generalize X++([]:Bs)=Y at *
      clear h9 Ir HX
     rotate_left
     focus
      have hrd:bG 1 (.slice (some ⟨b8,0,none⟩) 32 32) (aA r.x.key) w9:=⟨_,_,_,rfl,by rw [aX,H1.out.key],fun j z hj=>⟨_,rfl,by rw [zJ,acT];exact h9.cellP aV j (Q9 hj)⟩⟩;have gY:=uQ (show mg++ah.le rs.length 4++dF.mX true ((rs.map (·.x)).take (i+1))=X++r.x.key++dF.oU r.x.nums from Ir.out);have HY:=uQ (show (X++r.x.key).length≤3000100 by rw [aaK,H1.out.key];have:=HX.out;omega);have hsl:∀ w,(Instr.sliceAt 50 (.pointer (some ⟨b8,0,none⟩)) none none none).run Tryz.prog w = .ok (.slice (some ⟨b8,0,none⟩) 32 32) w:=fun w=>by kernel_rfl
      go_wp2_with (first
       |((with_reducible refine bI ⟨?_⟩);refine gu h9 aj (aT aY) bJ ak au ?_)
       |(with_reducible apply aea))
      refine ⟨amT aj hsl ?_⟩;refine SN (m:=r.x.key) (h9.pick aY) aj aj hrd (fun e=>by have:=H1.out.key;rw [e]at this;cases this) (by rw [H1.out.key];have:=HX.out;omega) ?_;intro v33 w10 hQ;generalize X++r.x.key=Y at *
      clear h9 Ir HX hrd
     all_goals
      obtain ⟨na,nc,Jt⟩:=ahz (H1.out.rd _ (hQ.drop.drop.drop));rw [Jt]at hgd;have Hnv:=uQ Jt;go_wp2_with ((with_reducible refine bI ⟨?_⟩);first|refine gu (o:=32) hQ aj aY (by rw [uU _ H1.out.key];decide) hgd au ?_|refine gu hQ aj (aT aY) bJ ak au ?_);clear hgd;rw [hkb.out]at hQ
      go_loopg [6,37] r.x.nums.length (fun g bq jq wr=>∃ (j:Nat) (cv:Value),g=r.x.nums.length - j∧j≤r.x.nums.length∧cv=bq∧jq = .int .i64 j∧Sat w0 wr (jk cv (Y++dF.oU (r.x.nums.take j))::pt b8 (.cells (fD r).toArray 221 (0,0))::pt b2 (.cells (oM oP kb k) 213 (0,0))::F))
      case atStart=>exact ⟨0,_,rfl,acV _,rfl,rfl,by rw [adH,dF.ZF,acM];exact hQ⟩
      case round=>
       obtain ⟨j,cv,rfl,hj,rfl,rfl,hSj⟩:=hrel;clear hQ;by_cases hjl:j<r.x.nums.length
       ·obtain ⟨n,hn⟩:∃ n,r.x.nums[j]?=some n:=⟨_,aaI hjl⟩;have hnb:=vH.out.num n (abV hn);obtain ⟨bk2,of2,cc2,e2,hcj⟩:=ahy (H1.out.rd _ (hSj.drop.drop.drop)) hn;rw [Hnv.out]at e2;cases e2;have Hnk:=uQ (dF.aiO hn);obtain ⟨x,rfl⟩:∃ x:Nat,n=(x:Int):=⟨n.toNat,by omega⟩;have d1:decide ((x:Int)<0)=false:=by rw [adE];omega
        have d2:decide ((4294967295:Int)<(x:Int))=false:=by rw [adE];omega
        have d3:¬ (x:Int)<0:=oQ;have d4:¬ (4294967295:Int)<(x:Int):=oQ;have d5:IntKind.u64.wrap (x:Int)=(x:Int):=by rw [ahL];omega
        have c4:(j:Int)<(r.x.nums.length:Int):=oQ;have Ju:IntKind.i64.wrap ((j:Int)+1)=(j:Int)+1:=acC _ (by have:=vH.out.len;omega);have Uo:=uQ (fun (w':World) (R:List aH) (hw:Sat w0 w' R)=>Dq x oQ hw);have hyl:(Y++dF.oU (r.x.nums.take j)).length≤4000000:=by rw [aaK,dF.ZE,acA];have:=vH.out.len;have:=HY.out;omega
        have Iu:=uQ hyl;have lD:=uQ hjl;clear hn hnb hjl hj hyl;go_wp2_with fail;refine (Uo.out _ _ hSj).mono ?_;rintro ee w5 ⟨v,rfl,h5,_⟩;clear Uo hcj hSj;go_wp2_with (with_reducible apply U6);refine ⟨SN (m:=ah.le x 4) (h5.pick aY) aj aj (Sat.rd h5) (fun e=>by cases e) (by rw [ah.kJ];have:=Iu.out;omega) ?_⟩;intro v6 w6 h6;go_wp2_with fail
        go_roundg (r.x.nums.length - (j+1))
        case measure=>have:=lD.out;omega
        case rel=>exact ⟨j+1,_,rfl,adi lD.out,rfl,by first|rfl|go_num,by rw [Hnk.out,← acD];exact h6.sb⟩
       ·have c4:¬ (j:Int)<(r.x.nums.length:Int):=by omega
        obtain rfl:j=r.x.nums.length:=by omega
        rw [adk]at hSj;clear hj hjl;go_wp2_with fail
        go_roundg (rs.length - (i+1))
        case measure=>have:=bV.out;omega
        case rel=>exact ⟨i+1,_,rfl,adi bV.out,rfl,by first|rfl|go_num,by rw [gY.out];rw [← hkb.out]at hSj;exact hSj.sb⟩
    ·as_aux_lemma=>
     have c3:¬ (i:Int)<(rs.length:Int):=oQ;obtain rfl:i=rs.length:=by omega
     have eb:mg++ah.le rs.length 4++dF.mX kd ((rs.map (·.x)).take rs.length)=dF.body mg kd (rs.map (·.x)):=by
      unfold dF.body;rw [acX (by rw [abl];exact abL _),abl]
     have hSb:=adO hS eb;have lW:=uQ (dF.aev (mg:=mg) zu.out hk dw.out)
     have qN:=uQ (show dF.body mg kd (rs.map (·.x))≠[] from fun e=>by
      have:=dF.Nz (mg:=mg) (kd:=kd) zu.out dw.out.row;rw [e]at this;simp only [adF]at this;omega)
     have uJ:=aj0 oP kd k rs (by have:=Hn.out;omega) (Ro.os Hr.out) (fun r hr=>(He.out r hr).sub pV) hSb;clear hS hi hlt eb;go_wp2_with ((with_reducible refine bI ⟨?_⟩);refine iW hSb aj aY Tryz.underlying213 rfl au ?_);refine uJ.mono ?_;rintro ee w5 ⟨v,rfl,t,rfl,ht,h5⟩;obtain rfl:t=true:=ht.2 dw.out.rise;clear uJ hSb ht;go_wp2_with fail;have hxs:=am5 qN.out (by have:=lW.out;omega) (RS.P9 h5) h5;obtain ⟨S,HS⟩:∃ S,Hid (Xx.sum (dF.body mg kd (rs.map (·.x)))=S):=⟨_,uQ rfl⟩;have HSl:=uQ (show S<Xx.W by rw [← HS.out];exact Xx.sum_lt _);rw [HS.out]at hxs;refine hxs.mono ?_;rintro ee w6 ⟨v,rfl,rfl,h6⟩;clear h5 hxs;go_wp2_with fail;refine (ajq S HSl.out h6).mono ?_;rintro ee w7 ⟨v,rfl,h7,_⟩;clear h6;go_wp2_with (with_reducible apply U6)
     refine ⟨SN (m:=ah.le S 8) (h7.pick aY) aj aj (Sat.rd h7) (fun e=>by have k:=adu List.length e;rw [ah.kJ]at k;cases k) (by rw [ah.kJ];have:=lW.out;omega) ?_⟩;intro v8 w8 h8;have h9:Sat w0 w8 (jk v8 (dF.book Xx.sum mg kd (rs.map (·.x)))::F):=by unfold dF.book;rw [HS.out];exact h8.sb
     clear h7 h8;go_wp2_with fail
     go_ret2
     exact ⟨_,rfl,v8,rfl,h9⟩
end
section
variable {P:Program}{w w':World}{ops:Array Oper}{rest:List Oper}{a:Act}{Q:Exit→Act→World→Prop}{dst:Option Tmp}{t ty:TypeId}{pos:String}{after:Array Edge}{n:Nat}{xs:Array (Nat×Operand)}{v:Value}
theorem ad5 (h:Stop (wpList P ops Q (⟨dst,.buildSlice ty n xs,t,pos,after,none⟩::rest) a w)):wpList P ops Q (⟨dst,.buildSlice ty n xs,t,pos,after,none⟩::rest) a w:=h.out
theorem amP (parts':Array (Nat×Value)) (he:xs.map (fun p=>(p.1,a.eval p.2))=parts') (hr:(Instr.buildSlice ty n parts').run P w = .ok v w') (h:wpList P ops Q rest (a.put dst v) w'):wpList P ops Q (⟨dst,.buildSlice ty n xs,t,pos,after,none⟩::rest) a w:=
 aeB rfl fun _ hK=>by
  unfold Oper.wp execOp;simp only [he,acN,hr,acB,ac1];exact hK _ _ h
end
section
variable {w0 w:World}{F:List aH}
theorem amC (a b c:Int) (h:Sat w0 w F):Calls Tryz.prog 138 #[.agg #[.int .i64 a,.int .i64 b,.int .i64 c]] w
  (aP fun v w'=>∃ q,v = .agg (fD ⟨⟨ah.zero32,[a,b,c]⟩,.slice (some ⟨q,0,none⟩) 3 3⟩).toArray∧Sat w0 w' (pt q (.cells #[.int .i64 a,.int .i64 b,.int .i64 c] 3 (0,0))::F)):=by
 have hbs:∀ w,(Instr.buildSlice 29 3 #[(0,.int .i64 a),(1,.int .i64 b),(2,.int .i64 c)]).run Tryz.prog w = .ok (.slice (some ⟨w.heap.size,0,none⟩) 3 3) (w.alloc (.cells #[.int .i64 a,.int .i64 b,.int .i64 c] 3)):=fun w=>by kernel_rfl
 have hrow:∀ w q,(Instr.build 221 #[(1,.slice (some ⟨q,0,none⟩) 3 3)]).run Tryz.prog w = .ok (.agg (fD ⟨⟨ah.zero32,[a,b,c]⟩,.slice (some ⟨q,0,none⟩) 3 3⟩).toArray) w:=fun w q=>by kernel_rfl
 go_enter Tryz.func138,Tryz.ntmps138;go_wp2_with (with_reducible apply fK);refine ⟨fM h aj aj ?_⟩;intro b1 w1 h1;go_wp2_with (with_reducible apply gq);refine ⟨fF Lu h1 rfl ?_⟩;intro b2 w2 h2;have hS:=h2.alloc (.cells #[.int .i64 a,.int .i64 b,.int .i64 c] 3);generalize hq:w2.heap.size=q at *
 have hq2:=hq
 go_wp2_with (first
  |((with_reducible refine bI ⟨?_⟩);refine gu h2 aj aY bJ ak au ?_)
  |((with_reducible refine cO ⟨?_⟩);refine gJ (fD ⟨⟨ah.zero32,[a,b,c]⟩,.slice (some ⟨q,0,none⟩) 3 3⟩).toArray hS aj aj aj RN au aj ?_;intro w9 h9))
 refine ⟨rfl,_,Dv rfl h9 aj bC Tryz.underlying221 rfl au,?_⟩;exact ⟨_,rfl,q,rfl,h9.sb⟩
theorem aja:rM Tryz.prog 221=some [(0,32),(32,1)]:=by kernel_rfl
theorem akT (k:ah.Bs) (hk:k.length=32) (x:dF.Rw) (hx:x.key=k) (nv:Value) (q:Nat) (Jt:nv = .slice (some ⟨q,0,none⟩) 3 3) (w:World):(Instr.build 221 #[(0,.agg (aA k).toArray),(1,nv)]).run Tryz.prog w = .ok (.agg (fD ⟨x,nv⟩).toArray) w:=by
 subst Jt;subst hx
 have h:=aod (P:=Tryz.prog) [(0,.agg (aA x.key).toArray),(1,.slice (some ⟨q,0,none⟩) 3 3)] aja Lu (by
  intro p hp;have hzz:(Value.agg (fD BO).toArray).cells.size=33:=by rfl
  rw [hzz];rcases acK.1 hp with rfl|hp
  ·refine ⟨0,?_,?_⟩
   ·show some (0,32)=some (0,(aA x.key).toArray.size);rw [abX,aX,hk]
   ·show 0+(aA x.key).toArray.size≤33;rw [abX,aX,hk];decide
  ·rw [acO.1 hp];exact ⟨32,rfl,by show 32+1≤33;omega⟩) w
 refine h.trans ?_;have hz:ah.zero32.length=32:=rfl;have hzl:(fD BO).length=33:=qw _ hz;have e:eu (eu (fD BO).toArray 0 (aA x.key)) 32 [.slice (some ⟨q,0,none⟩) 3 3]=(fD ⟨x,.slice (some ⟨q,0,none⟩) 3 3⟩).toArray:=by
  apply qR;rw [Bg _ _ _ (by rw [kE,abX,hzl];exact abL 33),Bg _ _ _ (by rw [abX,hzl,aX,hk];decide),acW];have e1:jY (fD BO) 0 (aA x.key)=aA x.key++[.slice none 0 0]:=by
   unfold fD BO;rw [Gh _ _ _ _ (by rw [aX,aX,hk,hz];decide),Dt (by rw [aX,aX,hk,hz])]
  have h0:=Bc (aA x.key) [.slice none 0 0] [.slice (some ⟨q,0,none⟩) 3 3] 0;rw [aX,hk,Dt (xs:=[Value.slice none 0 0]) (vs:=[Value.slice (some ⟨q,0,none⟩) 3 3]) aj]at h0;rw [e1];exact h0
 exact adu (fun x=>Result.ok (Value.agg x) w) e
theorem ahj (k:ah.Bs) (hk:k.length=32) (a b c:Int) (h:Sat w0 w F):Calls Tryz.prog 134 #[.agg (aA k++[Value.int .i64 a,Value.int .i64 b,Value.int .i64 c]).toArray] w
  (aP fun v w'=>∃ q,v = .agg (fD ⟨⟨k,[a,b,c]⟩,.slice (some ⟨q,0,none⟩) 3 3⟩).toArray∧Sat w0 w' (pt q (.cells #[.int .i64 a,.int .i64 b,.int .i64 c] 3 (0,0))::F)):=by
 have hbs:∀ w,(Instr.buildSlice 29 3 #[(0,.int .i64 a),(1,.int .i64 b),(2,.int .i64 c)]).run Tryz.prog w = .ok (.slice (some ⟨w.heap.size,0,none⟩) 3 3) (w.alloc (.cells #[.int .i64 a,.int .i64 b,.int .i64 c] 3)):=fun w=>by kernel_rfl
 have hrow:∀ w q,(Instr.build 221 #[(0,.agg (aA k).toArray),(1,.slice (some ⟨q,0,none⟩) 3 3)]).run Tryz.prog w = .ok (.agg (fD ⟨⟨k,[a,b,c]⟩,.slice (some ⟨q,0,none⟩) 3 3⟩).toArray) w:=fun w q=>akT k hk ⟨k,[a,b,c]⟩ rfl _ q rfl w;have hsz:(aA k++[Value.int .i64 a,Value.int .i64 b,Value.int .i64 c]).toArray.size=35:=by rw [abX,aaK,aX,hk];rfl
 have hat:∀ j v,([Value.int .i64 a,Value.int .i64 b,Value.int .i64 c]:List Value)[j]?=some v→(aA k++[Value.int .i64 a,Value.int .i64 b,Value.int .i64 c]).toArray.getD (32+j) undef=v:=fun j v hj=>by
  rw [ai8,abY,ac0 (by rw [aX,hk];omega),aX,hk,Nat.add_sub_cancel_left,hj];rfl
 have hki:(Tryz.prog.info? 50).map (·.size)=some (aA k).length:=by rw [aX,hk];kernel_rfl
 go_enter Tryz.func134,Tryz.ntmps134;go_wp2_with (with_reducible apply fK);refine ⟨fM h aj aj ?_⟩;intro b1 w1 h1;go_wp2_with (with_reducible apply gq);refine ⟨fF Lu h1 rfl ?_⟩;intro b2 w2 h2;replace h2:Sat w0 w2 (pt b2 (.cells (fD BO).toArray 221 (0,0))::pt b1 (.cells (aA k++[Value.int .i64 a,Value.int .i64 b,Value.int .i64 c]).toArray 219 (0,0))::F):=h2;have hS:=h2.alloc (.cells #[.int .i64 a,.int .i64 b,.int .i64 c] 3);have hrs:∀ q,(fD ⟨⟨k,[a,b,c]⟩,.slice (some ⟨q,0,none⟩) 3 3⟩).toArray.size=33:=fun q=>uU _ hk
 go_wp2_with (first
  |((with_reducible refine bI ⟨?_⟩);first
   |refine DW (o:=0) (aA k) h2 aj aY (fun j v hj=>by rw [acT,abY,ac2 (abW.1 hj).1];exact hj) Tryz.underlying50 rfl hki ?_
   |refine gu (o:=32) h2 aj aY (by show 33≤(aA k++_).toArray.size;rw [hsz];decide) (hat 0 _ rfl) au ?_
   |refine gu (o:=33) h2 aj aY (by show 34≤(aA k++_).toArray.size;rw [hsz];decide) (hat 1 _ rfl) au ?_
   |refine gu (o:=34) h2 aj aY (by show 35≤(aA k++_).toArray.size;rw [hsz];decide) (hat 2 _ rfl) au ?_)
  |(with_reducible apply ad5))
 refine ⟨amP #[(0,.int .i64 a),(1,.int .i64 b),(2,.int .i64 c)] (by simp only [aes,acS,adw];rfl) (hbs _) ?_⟩;generalize hq:w2.heap.size=q at *
 go_wp2_with (with_reducible apply ad7);refine ⟨amQ #[(0,.agg (aA k).toArray),(1,.slice (some ⟨q,0,none⟩) 3 3)] (by simp only [aes,acS,adw];rfl) (fun w=>hrow w q) ?_⟩;go_wp2_with (with_reducible apply cO);refine ⟨gJ (fD ⟨⟨k,[a,b,c]⟩,.slice (some ⟨q,0,none⟩) 3 3⟩).toArray hS aj aj (by rw [hrs q];rfl) RN (by rw [hrs q];kernel_rfl) (by unfold fD;rw [acW,ahh,uz];rfl) ?_⟩;intro w9 h9;go_wp2_with fail;refine ⟨rfl,_,Dv rfl h9 aj bC Tryz.underlying221 rfl (by rw [hrs q];kernel_rfl),?_⟩;exact ⟨_,rfl,_,rfl,h9.sb⟩
end
end Go.Proofs.YtihngncbioofnaaGreatDoor
namespace Go.Rep
def lH (u:Use):dF.Rw:=⟨ah.zero32,[u.seg,u.size,u.live]⟩
def lF (p:ah.Bs×Seg.aU):dF.Rw:=⟨p.1,[p.2.seg,p.2.at_,p.2.size]⟩
end Go.Rep
namespace Go.Proofs.YtihngncbioofnaaGreatDoor
open Go Go.Sl Go.ay Go.MapKept Go.RowKit
def rG (rs:List RV):aH:=stars (rs.map fun r=>aB 3 1 r.nv (ints r.x.nums))
section
variable {w0 w:World}{F:List aH}{lv:Value}{rs:List RV}{r:RV}
theorem aiP (rs:List RV) (r:RV):rG (rs++[r])=star (aB 3 1 r.nv (ints r.x.nums)) (rG rs):=by
 unfold rG;rw [acI,qy,acS,adw,DF,DC]
theorem ZG (h:Sat w0 w (aB 3 1 r.nv (ints r.x.nums)::rG rs::F)):Sat w0 w (rG (rs++[r])::F):=by
 rw [aiP];exact Sat.star.2 h
theorem ZH (hr:r∈rs) (hk:r.x.key.length=32) (hn:0<r.x.nums.length):uy w0 (rG rs::F) r:=by
 refine ⟨hk,fun w hw=>?_,hn⟩;obtain ⟨G,hG⟩:=KG (rs.map fun r=>aB 3 1 r.nv (ints r.x.nums)) _ (List.mem_map_of_mem hr);have h1:Sat w0 w (star (aB 3 1 r.nv (ints r.x.nums)) G::F):=by rw [← hG];exact hw
 exact Sat.rd (Sat.star.1 h1)
theorem ZB {q:Nat}{a b c:Int} (h:Sat w0 w (pt q (.cells #[.int .i64 a,.int .i64 b,.int .i64 c] 3 (0,0))::F)):Sat w0 w (aB 3 1 (.slice (some ⟨q,0,none⟩) 3 3) (ints [a,b,c])::F):=
 Sat.kR h rfl (abL _) (abL _) aN rfl
theorem aaX {k:ah.Bs}{ns:List Int}{a:Option Addr}{n c:Nat}:(fD ⟨⟨k,ns⟩,.slice a n c⟩).toArray.toList.all (·.oneCell')=true:=by
 rw [acW];unfold fD;rw [ahh,uz];rfl
theorem aji (us:List Rep.Use) (hl:us.length≤65536) (hr:Ro w0 F (bG 3 lv (us.flatMap bT))) (h:Sat w0 w F) :
  Calls Tryz.prog 137 #[lv,.func (.func 138) #[] #[]] w (aP fun v w'=>∃ rs:List RV,rs.map (·.x)=us.map Rep.lH∧Sat w0 w' (aB 221 33 v (rs.flatMap fD)::rG rs::F)):=by
 obtain ⟨la,lc,rfl⟩:=jl (fun u _=>DK u) (hr w h) aN;have Hr:=uQ hr;have Hl:=uQ hl;clear hr hl;go_enter Tryz.func137,Tryz.ntmps137;go_wp2_with fail
 go_loopg [5,10] us.length (fun g ov iq wr=>∃ (i:Nat) (rs:List RV) (o2:Value),g=us.length - i∧i≤us.length∧o2=ov∧iq = .int .i64 i∧(rs.map (·.x)=(us.take i).map Rep.lH∧∀ r∈rs,r.x.key.length=32)∧Sat w0 wr (aB 221 33 o2 (rs.flatMap fD)::rG rs::F))
 case atStart=>exact ⟨0,[],_,rfl,acV _,rfl,rfl,⟨rfl,fun r hr=>by cases hr⟩,Sat.gI.2 (Sat.emp.2 h)⟩
 case round=>
  obtain ⟨i,rs,ov,rfl,hi,rfl,rfl,hrs,hS⟩:=hrel;clear h;by_cases hlt:i<us.length
  ·as_aux_lemma=>
    have c3:(i:Int)<(us.length:Int):=oQ;have hwi:IntKind.i64.wrap ((i:Int)+1)=(i:Int)+1:=acC _ (by have:=Hl.out;omega);obtain ⟨u,hx⟩:∃ u,us[i]?=some u:=⟨_,aaI hlt⟩;obtain ⟨bk,off,c',hsv,hcell⟩:=jG (f:=bT) (k:=3) (fun u _=>DK u) (Hr.out _ hS.drop.drop) hx aN;cases hsv;have bV:=uQ hlt;have sD:=uQ hrs;have gY:=uQ (show us.take (i+1)=us.take i++[u] from dF.mZ hx)
    have jJ:=uQ (show (rs.flatMap fD).length≤2147483648 from by
     rw [iY fun r hr=>qw r (hrs.2 r hr)];have:=adu List.length hrs.1;rw [abl,abl,acA]at this;have:=Hl.out;omega)
    clear hx hlt hi hrs
    go_wp2_with (first
     |((with_reducible refine bI ⟨?_⟩);refine iL (b:=bk) (o:=off+i * 3) (bT u) aj hcell Tryz.underlying45 rfl au ?_)
     |(with_reducible apply gq))
    refine ⟨fF acu hS rfl ?_⟩;intro b8 w8 h8;clear hS hcell;go_wp2_with (with_reducible apply cO);refine ⟨gJ (bT u).toArray h8 aj aj aj cZ au aj ?_⟩;intro w9 h9;clear h8;go_wp2_with ((with_reducible refine bI ⟨?_⟩);refine iW h9 aj aV Tryz.underlying45 rfl au ?_);refine (amC u.seg u.size u.live h9).mono ?_;rintro ee w10 ⟨v,rfl,q,rfl,h10⟩;clear h9;have h11:=ZB h10;clear h10
    go_wp2_with (first
     |((with_reducible refine pI ⟨?_⟩);refine o7 (e:=221) (sz:=33) (eY:=56) (cs:=(fD ⟨Rep.lH u,.slice (some ⟨q,0,none⟩) 3 3⟩).toArray) au h11 aj rfl (uU ⟨Rep.lH u,.slice (some ⟨q,0,none⟩) 3 3⟩ rfl) bJ ?_;intro bN wN hN)
     |(with_reducible apply lX))
    refine ⟨pW (cs:=(fD ⟨Rep.lH u,.slice (some ⟨q,0,none⟩) 3 3⟩).toArray) 221 33 56 au hN aj aj (aT (aT (aT aV))) aV (uU ⟨Rep.lH u,.slice (some ⟨q,0,none⟩) 3 3⟩ rfl) bJ aaX jJ.out (by rw [uU ⟨Rep.lH u,.slice (some ⟨q,0,none⟩) 3 3⟩ rfl];decide) bJ rfl ?_⟩;intro b' n' c2 nN ku;go_wp2_with fail
    go_roundg (us.length - (i+1))
    case measure=>have:=bV.out;omega
    case rel=>
     refine ⟨i+1,rs++[⟨Rep.lH u,.slice (some ⟨q,0,none⟩) 3 3⟩],_,rfl,adi bV.out,rfl,by first|rfl|go_num,⟨?_,?_⟩,?_⟩
     ·rw [acI,gY.out,acI,sD.out.1];rfl
     ·intro r hr;rcases ac3.1 hr with hr|hr
      ·exact sD.out.2 r hr
      ·rw [acO.1 hr];exact rfl
     ·rw [adz,ada,anX,acM];have h15:Sat w0 nN (aB 3 1 (.slice (some ⟨q,0,none⟩) 3 3) (ints (Rep.lH u).nums)::rG rs::aB 221 33 (.slice (some ⟨b',0,none⟩) n' c2) (rs.flatMap fD++fD ⟨Rep.lH u,.slice (some ⟨q,0,none⟩) 3 3⟩)::F):=ku.sb;exact (ZG (r:=⟨Rep.lH u,.slice (some ⟨q,0,none⟩) 3 3⟩) h15).sb
  ·have c3:¬ (i:Int)<(us.length:Int):=by omega
   have hi2:i=us.length:=oQ;subst hi2;rw [adk]at hrs;clear hi hlt;go_wp2_with fail;go_ret;exact ⟨_,rfl,rs,hrs.1,hS⟩
theorem ajh (us:List (ah.Bs×Seg.aU)) (hl:us.length≤65536) (hk:∀ q∈us,q.1.length=32) (hr:Ro w0 F (bG 35 lv (us.flatMap jX))) (h:Sat w0 w F) :
  Calls Tryz.prog 133 #[lv,.func (.func 134) #[] #[]] w (aP fun v w'=>∃ rs:List RV,rs.map (·.x)=us.map Rep.lF∧Sat w0 w' (aB 221 33 v (rs.flatMap fD)::rG rs::F)):=by
 have Hk:=uQ hk;clear hk;obtain ⟨la,lc,rfl⟩:=jl (fun u hu=>rD u (Hk.out u hu)) (hr w h) aN;have Hr:=uQ hr;have Hl:=uQ hl;clear hr hl;go_enter Tryz.func133,Tryz.ntmps133;go_wp2_with fail
 go_loopg [5,10] us.length (fun g ov iq wr=>∃ (i:Nat) (rs:List RV) (o2:Value),g=us.length - i∧i≤us.length∧o2=ov∧iq = .int .i64 i∧(rs.map (·.x)=(us.take i).map Rep.lF∧∀ r∈rs,r.x.key.length=32)∧Sat w0 wr (aB 221 33 o2 (rs.flatMap fD)::rG rs::F))
 case atStart=>exact ⟨0,[],_,rfl,acV _,rfl,rfl,⟨rfl,fun r hr=>by cases hr⟩,Sat.gI.2 (Sat.emp.2 h)⟩
 case round=>
  obtain ⟨i,rs,ov,rfl,hi,rfl,rfl,hrs,hS⟩:=hrel;clear h;by_cases hlt:i<us.length
  ·as_aux_lemma=>
    have c3:(i:Int)<(us.length:Int):=oQ;have hwi:IntKind.i64.wrap ((i:Int)+1)=(i:Int)+1:=acC _ (by have:=Hl.out;omega);obtain ⟨u,hx⟩:∃ u,us[i]?=some u:=⟨_,aaI hlt⟩;obtain ⟨bk,off,c',hsv,hcell⟩:=jG (f:=jX) (k:=35) (fun u hu=>rD u (Hk.out u hu)) (Hr.out _ hS.drop.drop) hx aN;cases hsv;have bV:=uQ hlt;have sD:=uQ hrs;have gY:=uQ (show us.take (i+1)=us.take i++[u] from dF.mZ hx)
    have jJ:=uQ (show (rs.flatMap fD).length≤2147483648 from by
     rw [iY fun r hr=>qw r (hrs.2 r hr)];have:=adu List.length hrs.1;rw [abl,abl,acA]at this;have:=Hl.out;omega)
    have vC:=uQ (Hk.out u (abV hx));clear hx hlt hi hrs
    go_wp2_with (first
     |((with_reducible refine bI ⟨?_⟩);refine iL (b:=bk) (o:=off+i * 35) (jX u) aj hcell Tryz.underlying219 rfl (by rw [rD _ vC.out];kernel_rfl) ?_)
     |(with_reducible apply gq))
    refine ⟨fF zKv hS rfl ?_⟩;intro b8 w8 h8;clear hS hcell;go_wp2_with (with_reducible apply cO);refine ⟨gJ (jX u).toArray h8 aj aj (by rw [abX,rD _ vC.out];rfl) cZ (by rw [abX,rD _ vC.out];kernel_rfl) (by rw [acW];exact YD u) ?_⟩;intro w9 h9;clear h8;go_wp2_with ((with_reducible refine bI ⟨?_⟩);refine iW h9 aj aV Tryz.underlying219 rfl (by rw [abX,rD _ vC.out];kernel_rfl) ?_);refine (ahj u.1 vC.out u.2.seg u.2.at_ u.2.size h9).mono ?_;rintro ee w10 ⟨v,rfl,q,rfl,h10⟩;clear h9;have h11:=ZB h10;clear h10
    go_wp2_with (first
     |((with_reducible refine pI ⟨?_⟩);refine o7 (e:=221) (sz:=33) (eY:=56) (cs:=(fD ⟨Rep.lF u,.slice (some ⟨q,0,none⟩) 3 3⟩).toArray) au h11 aj rfl (uU ⟨Rep.lF u,.slice (some ⟨q,0,none⟩) 3 3⟩ vC.out) bJ ?_;intro bN wN hN)
     |(with_reducible apply lX))
    refine ⟨pW (cs:=(fD ⟨Rep.lF u,.slice (some ⟨q,0,none⟩) 3 3⟩).toArray) 221 33 56 au hN aj aj (aT (aT (aT aV))) aV (uU ⟨Rep.lF u,.slice (some ⟨q,0,none⟩) 3 3⟩ vC.out) bJ aaX jJ.out (by rw [uU ⟨Rep.lF u,.slice (some ⟨q,0,none⟩) 3 3⟩ vC.out];decide) bJ rfl ?_⟩;intro b' n' c2 nN ku;go_wp2_with fail
    go_roundg (us.length - (i+1))
    case measure=>have:=bV.out;omega
    case rel=>
     refine ⟨i+1,rs++[⟨Rep.lF u,.slice (some ⟨q,0,none⟩) 3 3⟩],_,rfl,adi bV.out,rfl,by first|rfl|go_num,⟨?_,?_⟩,?_⟩
     ·rw [acI,gY.out,acI,sD.out.1];rfl
     ·intro r hr;rcases ac3.1 hr with hr|hr
      ·exact sD.out.2 r hr
      ·rw [acO.1 hr];exact vC.out
     ·rw [adz,ada,anX,acM];have h15:Sat w0 nN (aB 3 1 (.slice (some ⟨q,0,none⟩) 3 3) (ints (Rep.lF u).nums)::rG rs::aB 221 33 (.slice (some ⟨b',0,none⟩) n' c2) (rs.flatMap fD++fD ⟨Rep.lF u,.slice (some ⟨q,0,none⟩) 3 3⟩)::F):=ku.sb;exact (ZG (r:=⟨Rep.lF u,.slice (some ⟨q,0,none⟩) 3 3⟩) h15).sb
  ·have c3:¬ (i:Int)<(us.length:Int):=by omega
   have hi2:i=us.length:=oQ;subst hi2;rw [adk]at hrs;clear hi hlt;go_wp2_with fail;go_ret;exact ⟨_,rfl,rs,hrs.1,hS⟩
end
end Go.Proofs.YtihngncbioofnaaGreatDoor
namespace Go.aC
open Go.ay
open Go.Seg (Log Keeps Holds HG mJ mag aU)
open Go.ah (dA encs fH dN aG)
open Go.Rep (Use)
section
variable {n K r E B c:Nat}{L:Log}{M:ay}{C:List (List aG)}{N:Int}{us:List Use}{ps:List (Bs×aU)}
theorem mJ.size (h:mJ L c us ps){s:Int} (hs:s∈L.aF.take c):L.size s≤33554432:=by
 rw [← h.aF]at hs;obtain ⟨u,hu,rfl⟩:=abZ.1 hs;obtain ⟨_,_,h3,h4⟩:=h.use u hu;omega
theorem mJ.idx (h:mJ L c us ps) (hL:L.Ok) (hl:ps.length≤65536):dF.Ok 3 true (ps.map Rep.lF):=by
 refine ⟨by rw [abl];exact hl,fun r hr=>?_,fun i a b ha hb=>?_⟩
 ·obtain ⟨q,hq,rfl⟩:=abZ.1 hr;obtain ⟨p1,p2,p3,p4⟩:=h.plc q hq;have hz:=mJ.size h p4;have hsg:=adG p4;obtain ⟨x,hx,hxe⟩:=abZ.1 hsg;have hnm:=hL.nums x hx;refine ⟨h.key q hq,rfl,fun m hm=>?_⟩;simp only [Rep.lF,acK,ag0,aoj]at hm;rcases hm with rfl|rfl|rfl <;> omega
 ·rw [acE]at ha hb;obtain ⟨x,hx,rfl⟩:=ag4.1 ha;obtain ⟨y,hy,rfl⟩:=ag4.1 hb;obtain ⟨i1,rfl⟩:=abW.1 hx;obtain ⟨i2,rfl⟩:=abW.1 hy;unfold dF.ahead;rw [acr rfl];exact anl.1 h.rise i (i+1) i1 i2 oQ
theorem mJ.uses (h:mJ L c us ps) (hL:L.Ok) (hl:us.length≤65536):dF.Ok 3 false (us.map Rep.lH):=by
 have uJ:(us.map (·.seg)).Pairwise (· < ·):=by
  rw [h.aF];exact (Seg.KC hL).sublist (List.take_sublist _ _)
 refine ⟨by rw [abl];exact hl,fun r hr=>?_,fun i a b ha hb=>?_⟩
 ·obtain ⟨u,hu,rfl⟩:=abZ.1 hr;obtain ⟨p1,p2,p3,p4⟩:=h.use u hu;have hsg:u.seg∈L.aF:=adG (by rw [← h.aF];exact abZ.2 ⟨u,hu,rfl⟩);obtain ⟨x,hx,hxe⟩:=abZ.1 hsg;have hnm:=hL.nums x hx;refine ⟨rfl,rfl,fun m hm=>?_⟩;simp only [Rep.lH,acK,ag0,aoj]at hm;rcases hm with rfl|rfl|rfl <;> omega
 ·rw [acE]at ha hb;obtain ⟨x,hx,rfl⟩:=ag4.1 ha;obtain ⟨y,hy,rfl⟩:=ag4.1 hb;obtain ⟨i1,rfl⟩:=abW.1 hx;obtain ⟨i2,rfl⟩:=abW.1 hy;unfold dF.ahead;rw [abA aN];have:=anl.1 uJ i (i+1) (by rw [abl];exact i1) (by rw [abl];exact i2) oQ;rw [List.getElem_map,List.getElem_map]at this;exact this
end
structure Hd (T:Kept) (P:ByteArray→Prop) (K:Nat) (M:ay):Prop where
 ok:M.Ok K
 nm:∀ k,k≤M.waits.length→(∀ t∈T,bP (M.mD k) t.1=some t.2.1)∧∀ p∈M.mD k,(∃ t∈T,p.1=t.1)∨P p.1
 fil:∀ t∈T,M.file t.2.1=t.2.2
section
variable {T:Kept}{P:ByteArray→Prop}{K K' r:Nat}{M:ay}{s:ByteArray}{L:Log}{N:Int}
end
section
variable {T:Kept}{P:ByteArray→Prop}{n K K' E B c:Nat}{L:Log}{M M':ay}{C:List (List aG)}{N:Int}{b1 b2:ah.Bs}{us:List Use}
def newer (N:Int) (s:ByteArray):Prop:=∃ m:Int,N<m∧s=Seg.name m
end
end Go.aC
namespace Go.Proofs.YtihngncbioofnaaGreatDoor
open Go Go.Sl Go.ay Go.MapKept Go.RowKit
section
variable {P:Program}{w0 w:World}{L:List aH}{ops:Array Oper}{rest:List Oper}{a:Act}{Q:Exit→Act→World→Prop}{dst:Option Tmp}{t ty e:TypeId}{pos:String}{after:Array Edge}{x y:Operand}{v1 v2:Value}{cs1 cs2:Array Value}{g:Nat×Bool}{op:Op}{sz eY:Nat}
theorem akX (hb:pG P t e sz eY=true) (h1:v1.cells.size=sz) (h2:v2.cells.size=sz) (hle:2 * sz≤16777216) (w:World) :
  (Instr.buildSlice t 2 #[(0,v1),(1,v2)]).run P w = .ok (.slice (some ⟨w.heap.size,0,none⟩) 2 2) (w.alloc (.cells (v1.cells++v2.cells) e)):=by
 obtain ⟨hu,i,z,hi,hz,e1,e2,e3,e4⟩:=xE hb;subst e1;have hzv:(zeroValue e).run P w = .ok z w:=by simp [zeroValue,typeInfo,hi,hz]
 have hsz':(sizeOf e).run P w = .ok i.size w:=by simp [sizeOf,typeInfo,hi]
 have hnz:¬ (2 * i.size=0):=oQ;have hle':¬ (2 * i.size>2^24):=oQ;unfold Instr.buildSlice;simp only [acN,agK hu,acB,hsz',abA hle',abA hnz,hzv,ac1];have hf:Instr.fill (fun i'=>some (i' * i.size,i.size)) ((Array.range (2 * i.size)).map (z.cells[· % z.cells.size]!)) [(0,v1),(1,v2)]=some (v1.cells++v2.cells):=by
  generalize hz0:(Array.range (2 * i.size)).map (z.cells[· % z.cells.size]!)=z0;have hs1:z0.size=2 * i.size:=by rw [← hz0];simp
  have hf1:∀ (v:Value) (off:Nat) (cs:Array Value),v.cells.zipIdx.foldl (fun cs (c,j)=>cs.setIfInBounds (off+j) c) cs=eu cs off v.cells.toList:=fun v off cs=>by
   have:=Ob v.cells.toList 0 off cs;rw [aif]at this;rw [← this,← Array.foldl_toList,Array.toList_zipIdx]
  unfold Instr.fill;simp only [Nat.zero_mul];have hc:¬ ((v1.cells.size≠i.size || 0+v1.cells.size>z0.size)=true):=by
   rw [hs1];simp [h1];omega
  simp only [abA hc];rw [hf1];unfold Instr.fill;simp only [Nat.one_mul];have hc2:¬ ((v2.cells.size≠i.size || i.size+v2.cells.size>(eu z0 0 v1.cells.toList).size)=true):=by
   rw [kE,hs1];simp [h2];omega
  simp only [abA hc2];rw [hf1];unfold Instr.fill
  congr 1
  apply Array.toList_inj.1;have hl1:v1.cells.toList.length=i.size:=by rw [acJ];exact h1
  have hl2:v2.cells.toList.length=i.size:=by rw [acJ];exact h2
  have hz1:z0.toList.length=2 * i.size:=by rw [acJ];exact hs1
  rw [lg _ _ _ (by rw [kE,hs1,hl2];omega),lg _ _ _ (by rw [hs1,hl1];omega),aoo];rw [adH,adl,acT,ado oQ,acX oQ,adp (by rw [aaK,acL,hl1,hl2,hz1];omega),acM]
 simp only [hf];simp [newRow,go_sem]
theorem amZ (hb:pG P ty e sz eY=true) (hs:Sat w0 w L) (hx:a.eval x=v1) (hy:a.eval y=v2) (hc1:v1.cells=cs1) (hc2:v2.cells=cs2) (h1:cs1.size=sz) (h2:cs2.size=sz) (hle:2 * sz≤16777216)
  (hK:∀ b w',Sat w0 w' (pt b (.cells (cs1++cs2) e (0,0))::L)→wpList P ops Q rest (a.put dst (.slice (some ⟨b,0,none⟩) 2 2)) w'):wpList P ops Q (⟨dst,.buildSlice ty 2 #[(0,x),(1,y)],t,pos,after,none⟩::rest) a w:=by
 subst hc1;subst hc2;refine aeB rfl fun _ hK'=>?_;have hS:=hs.alloc (.cells (v1.cells++v2.cells) e);unfold Oper.wp execOp;simp only [hx,hy,aes,acS,adw,acN,ac1,akX hb h1 h2 hle w,acB];exact hK' _ _ (hK _ _ hS)
end
end Go.Proofs.YtihngncbioofnaaGreatDoor
namespace Go.aC
open Go.ah (Bs)
theorem Qh (l p:List UInt8):Lib.hasPrefix l p=decide (l.take p.length=p):=by
 rw [anu,decide_eq_true_iff];unfold Lib.hasPrefix;rw [List.isPrefixOf_iff_prefix,List.prefix_iff_eq_take];exact eq_comm
theorem afb {l p:List UInt8} (h:l.take p.length=p):Lib.trimPrefix l p=l.drop p.length:=by
 unfold Lib.trimPrefix;rw [acr (by rw [Qh,decide_eq_true_iff];exact h)]
theorem Zv {s:ByteArray} (h:s.data.toList.take 4=[105,100,120,46]∨s.data.toList.take 4=[117,115,101,46]):number s=Seg.number ⟨(Seg.lead++s.data.toList.drop 4).toArray⟩:=by unfold number;rw [acr h]
theorem aiL {s:ByteArray} (h:¬ (s.data.toList.take 4=[105,100,120,46]∨s.data.toList.take 4=[117,115,101,46])):number s=(0,false):=by unfold number;rw [abA h]
end Go.aC
namespace Go.Proofs.YtihngncbioofnaaGreatDoor
open Go Go.Sl Go.ay Go.MapKept Go.RowKit
section
variable {P:Program}{w:World}{ops:Array Oper}{rest:List Oper}{a:Act}{Q:Exit→Act→World→Prop}{dst:Option Tmp}{t ty:TypeId}{pos:String}{after:Array Edge}{x y:Operand}
theorem aed (h:Stop (wpList P ops Q (⟨dst,.buildSlice ty 2 #[(0,x),(1,y)],t,pos,after,none⟩::rest) a w)):wpList P ops Q (⟨dst,.buildSlice ty 2 #[(0,x),(1,y)],t,pos,after,none⟩::rest) a w:=h.out
end
section
variable {w0 w:World}{F:List aH}{m K:Nat}{M:ay}
theorem VR (s p:ByteArray) (w:World):Calls Tryz.prog 143 #[.string s,.string p] w (aP fun v w'=>v = .tuple #[.string ⟨(Lib.trimPrefix s.data.toList p.data.toList).toArray⟩,.bool (Lib.hasPrefix s.data.toList p.data.toList)]∧w=w'):=
 (Tryz.strings_CutPrefix s p w).mono fun e w' ⟨he,hw⟩=>⟨_,he,rfl,hw.symm⟩
theorem VT (s p:ByteArray) (k:Nat) (hk:p.data.toList.length=k) (h:s.data.toList.take k=p.data.toList) (w:World):Calls Tryz.prog 143 #[.string s,.string p] w (aP fun v w'=>v = .tuple #[.string ⟨(s.data.toList.drop k).toArray⟩,.bool true]∧w=w'):=by
 subst hk;have hc:=VR s p w;rw [aC.afb h,aC.Qh,adt h]at hc;exact hc
theorem VQ (s p:ByteArray) (k:Nat) (hk:p.data.toList.length=k) (h:¬ s.data.toList.take k=p.data.toList) (w:World):Calls Tryz.prog 143 #[.string s,.string p] w (aP fun v w'=>(∃ r:ByteArray,v = .tuple #[.string r,.bool false])∧w=w'):=by
 subst hk;have hc:=VR s p w;rw [aC.Qh,ac4 h]at hc;exact hc.mono fun e w' ⟨v,he,hv,hw⟩=>⟨v,he,⟨_,hv⟩,hw⟩
theorem YJ (r:List UInt8):(⟨#[115,101,103,46]⟩:ByteArray)++(⟨r.toArray⟩:ByteArray)=⟨(Seg.lead++r).toArray⟩:=by
 apply ByteArray.ext;rw [ByteArray.data_append];apply Array.toList_inj.1;simp [Seg.lead]
theorem X6 (s:ByteArray) (hs:s.size≤4000000000) (h:Sat w0 w F) :
  Calls Tryz.prog 85 #[.string s] w (aP fun v w'=>v = .tuple #[.int .i64 (aC.number s).1,.bool (aC.number s).2]∧Sat w0 w' F):=by
 have Hs:=uQ hs;have hsz:∀ r:List UInt8,r.length≤4000000000→¬ 9223372036854775807<(⟨#[115,101,103,46]⟩:ByteArray).size+(⟨r.toArray⟩:ByteArray).size:=fun r hr=>by
  have:(⟨r.toArray⟩:ByteArray).size=r.length:=by show r.toArray.size=_;exact abX ..
  have h4:(⟨#[115,101,103,46]⟩:ByteArray).size=4:=rfl;omega
 have iC:=uQ hsz;have Hl:=uQ (show s.data.toList.length≤4000000000 from by rw [acJ];exact hs);clear hs hsz;go_enter Tryz.func85,Tryz.ntmps85;go_wp2_with ((with_reducible refine aed ⟨?_⟩);refine amZ (e:=9) (sz:=1) (eY:=16) (cs1:=#[.string ⟨#[105,100,120,46]⟩]) (cs2:=#[.string ⟨#[117,115,101,46]⟩]) au h aj aj rfl rfl rfl rfl bJ ?_;intro b w1 h1);replace h1:Sat w0 w1 (pt b (.cells #[.string ⟨#[105,100,120,46]⟩,.string ⟨#[117,115,101,46]⟩] 9 (0,0))::F):=h1
 go_loopg [10] 3 (fun g iq wr=>∃ i:Nat,g=3 - i∧i≤2∧iq = .int .i64 i∧wr=w1∧(1≤i→¬ s.data.toList.take 4=[105,100,120,46])∧(2≤i→¬ s.data.toList.take 4=[117,115,101,46]))
 case atStart=>exact ⟨0,rfl,by omega,rfl,rfl,fun h=>by omega,fun h=>by omega⟩
 case round=>
  obtain ⟨i,rfl,hi,rfl,rfl,hn1,hn2⟩:=hrel;have h01:i=0∨i=1∨i=2:=oQ;clear hi h;have c0:=h1.cellAt 0 (.string ⟨#[105,100,120,46]⟩) rfl;have c1:=h1.cellAt 1 (.string ⟨#[117,115,101,46]⟩) rfl;rcases h01 with rfl|rfl|rfl
  ·clear hn1 hn2 c1;go_wp2_with fail;by_cases ht:s.data.toList.take 4=[105,100,120,46]
   ·refine (VT s ⟨#[105,100,120,46]⟩ 4 rfl ht _).mono ?_;rintro e w2 ⟨v,rfl,rfl,rfl⟩;have hz:=iC.out (s.data.toList.drop 4) (by rw [acL];have:=Hl.out;omega);have Hy:=uQ (aC.Zv (s:=s) (.inl ht));clear ht iC;go_wp2_with fail;rw [show (⟨#[115,101,103,46]⟩:ByteArray)++(⟨(s.data.toList.drop 4).toArray⟩:ByteArray)=⟨(Seg.lead++s.data.toList.drop 4).toArray⟩ from YJ _];refine (Ru _ h1).mono ?_;rintro e w3 ⟨v,rfl,rfl,h3⟩;go_wp2_with fail
    go_ret2
    exact ⟨_,rfl,by rw [Hy.out];rfl,h3.drop⟩
   ·refine (VQ s ⟨#[105,100,120,46]⟩ 4 rfl ht _).mono ?_;rintro e w2 ⟨v,rfl,⟨r,rfl⟩,rfl⟩;clear c0;go_wp2_with fail
    go_roundg 2
    case measure=>omega
    case rel=>exact ⟨1,rfl,by omega,rfl,rfl,fun _=>ht,fun h=>by omega⟩
  ·have ht1:=hn1 oQ;clear hn1 hn2 c0;go_wp2_with fail;by_cases ht:s.data.toList.take 4=[117,115,101,46]
   ·refine (VT s ⟨#[117,115,101,46]⟩ 4 rfl ht _).mono ?_;rintro e w2 ⟨v,rfl,rfl,rfl⟩;have hz:=iC.out (s.data.toList.drop 4) (by rw [acL];have:=Hl.out;omega);have Hy:=uQ (aC.Zv (s:=s) (.inr ht));clear ht ht1 iC;go_wp2_with fail;rw [show (⟨#[115,101,103,46]⟩:ByteArray)++(⟨(s.data.toList.drop 4).toArray⟩:ByteArray)=⟨(Seg.lead++s.data.toList.drop 4).toArray⟩ from YJ _];refine (Ru _ h1).mono ?_;rintro e w3 ⟨v,rfl,rfl,h3⟩;go_wp2_with fail
    go_ret2
    exact ⟨_,rfl,by rw [Hy.out];rfl,h3.drop⟩
   ·refine (VQ s ⟨#[117,115,101,46]⟩ 4 rfl ht _).mono ?_;rintro e w2 ⟨v,rfl,⟨r,rfl⟩,rfl⟩;clear c1;go_wp2_with fail
    go_roundg 1
    case measure=>omega
    case rel=>exact ⟨2,rfl,by omega,rfl,rfl,fun _=>ht1,fun _=>ht⟩
  ·have Hy:=uQ (aC.aiL (s:=s) (fun h=>h.elim (hn1 oQ) (hn2 oQ)));clear hn1 hn2 c0 c1;go_wp2_with fail
   go_ret2
   exact ⟨_,rfl,by rw [Hy.out];rfl,h1.drop⟩
end
section
variable {w0 w:World}{F:List aH}{m K:Nat}{M:ay}
theorem Zq {v:Value}{l:List ByteArray} (h:bG 1 v (strs l) w):∃ a c,v = .slice a l.length c:=by
 obtain ⟨a,n,c,rfl,hl,hx⟩:=h;unfold strs at hl;rw [abl,adb]at hl;exact ⟨a,c,by rw [hl]⟩
theorem PZ {l:List ByteArray}{i:Nat}{s:ByteArray}{a:Option Addr}{n c:Nat} (h:bG 1 (.slice a n c) (strs l) w) (hi:l[i]?=some s):∃ bk off,a=some ⟨bk,off,none⟩∧w.cell? ⟨bk,off+i,none⟩=some (.string s):=by
 have hx:(strs l)[i]?=some (.string s):=by unfold strs;rw [acE,hi];rfl
 obtain ⟨bk,off,rfl,hc⟩:=qU h hx;exact ⟨bk,off,rfl,hc _ _ hx⟩
theorem YP (ok:M.Ok K):M.list.length≤500:=by
 unfold ay.list;split
 ·exact acV _
 ·rw [abl];exact ok.gG.len
theorem aiz {l:List ByteArray}{i:Nat}{s:ByteArray} (h:l[i]?=some s) (x:Int):aC.yD (l.drop i) x=aC.yD (l.drop (i+1)) (if (aC.number s).2=true then max x (aC.number s).1 else x):=by
 obtain ⟨hi,rfl⟩:=abW.1 h;rw [aic hi]
 rfl
theorem aiA (hM:M.Ok K) (hn:∀ f∈M.list,f.size≤4000000000) (h:Sat w0 w (aJ m M::F)):Calls Tryz.prog 106 #[ptr m] w (aP fun v w'=>v = .int .i64 (aC.newest M)∧Sat w0 w' (aJ m M::F)):=by
 have hls:=JB hM h;have Hlen:=uQ (YP hM);have Hn:=uQ hn;have Hw:=uQ (show aC.yD M.list (-1)=aC.newest M from rfl);clear hn hM;generalize M.list=l at *
 generalize aC.newest M=W at *
 go_enter Tryz.func106,Tryz.ntmps106;go_wp2_with fail;refine hls.mono ?_;rintro e w1 ⟨v,rfl,hS,_⟩;clear hls h;obtain ⟨a,c,rfl⟩:=Zq (Sat.rd hS);go_wp2_with fail
 go_loopg [3,11] l.length (fun g lv iq wr=>∃ (i:Nat) (x:Int),g=l.length - i∧i≤l.length∧lv = .int .i64 x∧iq = .int .i64 i∧aC.yD (l.drop i) x=W∧Sat w0 wr (aB 9 1 (.slice a l.length c) (strs l)::aJ m M::F))
 case atStart=>exact ⟨0,-1,rfl,acV _,rfl,rfl,Hw.out,hS⟩
 case round=>
  obtain ⟨i,x,rfl,hi,rfl,rfl,hx,hS2⟩:=hrel;clear hS;by_cases hlt:i<l.length
  ·have c1:(i:Int)<(l.length:Int):=by omega
   have hwi:IntKind.i64.wrap ((i:Int)+1)=(i:Int)+1:=acC _ (by have:=Hlen.out;omega);obtain ⟨s,hs⟩:∃ s,l[i]?=some s:=⟨_,aaI hlt⟩;obtain ⟨bk,off,rfl,hc⟩:=PZ (Sat.rd hS2) hs;have Hx:=uQ (hx.symm.trans (aiz hs x));have hsz:=Hn.out s (abV hs);have bV:=uQ hlt;clear hx hs hlt hi;go_wp2_with fail;refine (X6 s hsz hS2).mono ?_;rintro e w2 ⟨v,rfl,rfl,hS3⟩;clear hS2 hc;generalize (aC.number s).1=n at *
   generalize (aC.number s).2=b at *
   cases b with
   |true=>
    go_wp2_with fail
    go_roundg (l.length - (i+1))
    case measure=>have:=bV.out;omega
    case rel=>exact ⟨i+1,max x n,rfl,adi bV.out,by first|rfl|(congr 1),by first|rfl|go_num,Hx.out.symm,hS3⟩
   |false=>
    go_wp2_with fail
    go_roundg (l.length - (i+1))
    case measure=>have:=bV.out;omega
    case rel=>exact ⟨i+1,x,rfl,adi bV.out,rfl,by first|rfl|go_num,Hx.out.symm,hS3⟩
  ·have c1:¬ (i:Int)<(l.length:Int):=by omega
   have Hx:=uQ (show x=W by rw [adp oQ]at hx;exact hx);clear hx hlt hi;go_wp2_with fail;go_ret;exact ⟨_,rfl,by rw [Hx.out];rfl,hS2.drop⟩
end
end Go.Proofs.YtihngncbioofnaaGreatDoor
namespace Go.Seg
open Go.ay
open Go.ah (Bs aG encs fH)
open Go.Rep
structure Rp (K r E B n:Nat) (L:Log) (M:ay) (C:List (List aG)):Prop where
 hg:HG K r E B n L M C
 tmp:bP M.now aC.tmp=none
 few:C.flatten.length≤n
 small:∀ p∈M.now,p.1.size≤24
 thin:∀ e∈C.flatten,e.data.length≤300
section
variable {K r E B n:Nat}{L:Log}{M M':ay}{C:List (List aG)}{x:aG}
theorem Zc (k:Int):(name k).size≤24:=by
 rcases aC.Kw k with z|⟨z,_⟩
 ·rw [z];decide
 ·rw [z];decide
theorem HG.apart {K' E' B':Nat} (h:HG K r E B n L M C) (c:Calm K' r M') (ha:∀ k:Int,M'.all (name k)=M.all (name k)) (hu:M'.used≤n * 400+B') (hn:M'.now.length≤n+E'):HG K' r E' B' n L M' C:=by
 have has:∀ k:Int,(∃ i,bP M'.now (name k)=some i)↔∃ i,bP M.now (name k)=some i:=fun k=>by
  rw [← aC.EJ c.quiet,← aC.EJ h.keeps.calm.quiet,ha]
 exact ⟨⟨h.keeps.log,c,fun s hs=>(has s.1).2 (h.keeps.has s hs)⟩,h.len,h.at_,fun k es hk=>by rw [ha];exact h.file k es hk,h.good,h.count,hu,hn,fun k i hk hi=>by
  obtain ⟨j,hj⟩:=(has k).1 ⟨i,hi⟩;exact h.cover k j hk hj⟩
theorem abu {l:List aG} (h:∀ e∈l,e.data.length≤300) (hd:x.data.length≤300):∀ e∈l++[x],e.data.length≤300:=fun e he=>by
 rcases ac3.1 he with he|he
 ·exact h e he
 ·rw [acO.1 he];exact hd
theorem Rp.grown (h:Rp K r E B n L M C){K' n':Nat}{L':Log}{C':List (List aG)} (hg:HG K' r E B n' L' M' C') (hr:aC.Grown M M') (hf:C'.flatten.length≤n') (ht:∀ e∈C'.flatten,e.data.length≤300):Rp K' r E B n' L' M' C':=by
 refine ⟨hg,?_,hf,fun p hp=>?_,ht⟩
 ·cases hi:bP M'.now aC.tmp with
  |none=>rfl
  |some i=>
   rcases hr _ (jF hi) with q|⟨k,q⟩
   ·have:=Dh h.hg.keeps.calm.ok.gG.mG.keys (show (aC.tmp,i)∈M.now from q);rw [h.tmp]at this;cases this
   ·exact absurd q (aC.GH k)
 ·rcases hr p hp with q|⟨k,q⟩
  ·exact h.small p q
  ·rw [q];exact Zc k
theorem Rp.mono (h:Rp K r E B n L M C){K' E' B' n':Nat} (h1:K≤K') (h2:E≤E') (h3:B≤B') (h4:n≤n'):Rp K' r E' B' n' L M C:=⟨h.hg.mono h1 h2 h3 h4,h.tmp,acz h.few h4,h.small,h.thin⟩
theorem Rp.yes (h:Rp K r E B n L M C) (hn:n<1000) (hk:x.key.length=32) (hd:x.data.length≤300) (h0:(ah.encode x).2=0) (hz:(L.append M x).2.2=0) :
  ∃ C',Rp (K+4) r E B (n+1) (L.append M x).1.1 (L.append M x).1.2 C'∧C'=put C (L.fits (ah.encode x).1.length) x∧C'.flatten=C.flatten++[x]∧∃ row,dW 0 C'=dW 0 C++[row]∧row.2.e=x∧iH row=(L.append M x).2.1:=by
 obtain ⟨_,_,_,a4⟩:=h.hg.append hn x hk hd h0 (.inl hz);have hfl:=aad C (L.fits (ah.encode x).1.length) x h.hg.Aa;refine ⟨_,h.grown a4 (aC.FT L M x) ?_ ?_,rfl,hfl,_,aaD C _ x h.hg.Aa,Z' C _ x,(h.hg.ad2 h0 hz).symm⟩
 ·rw [hfl,aaK,ac7];have:=h.few;omega
 ·rw [hfl];exact abu h.thin hd
theorem Rp.no (h:Rp K r E B n L M C) (hk:x.key.length=32) (hz:(L.append M x).2.2≠0):Rp (K+4) r E B n (L.append M x).1.1 (L.append M x).1.2 C:=
 h.grown (h.hg.IJ x hk hz) (aC.FT L M x) h.few h.thin
theorem Rp.commit (h:Rp K r E B n L M C) (hn:n<1000) (hz:(L.append M bf).2.2=0) :
  (L.commit M).2.2=0∧(L.commit M).1.1.on=false∧∃ C',Rp (K+5) r E B (n+1) (L.commit M).1.1 (L.commit M).1.2 C'∧(∃ row,dW 0 C'=dW 0 C++[row]∧row.2.e=bf)∧C'.flatten=C.flatten++[bf]∧(∃ es,C'≠[]∧C'[C'.length - 1]?=some es∧lS es=true):=by
 obtain ⟨a1,a2,_,a4⟩:=h.hg.commit hn (.inl hz);have hfl:=aad C (L.fits (ah.encode bf).1.length) bf h.hg.Aa;refine ⟨a1,a2,_,h.grown a4 (aC.YH L M) ?_ ?_,⟨_,aaD C _ bf h.hg.Aa,Z' C _ bf⟩,hfl,afH C _⟩
 ·rw [hfl,aaK,ac7];have:=h.few;omega
 ·rw [hfl];exact abu h.thin aN
theorem Rp.aeT (h:Rp K r E B n L M C) (hz:(L.append M bf).2.2≠0):(L.commit M).2.2=(L.append M bf).2.2∧(L.commit M).1=(L.append M bf).1:=by
 rw [Log.Cj,acr hz];exact ⟨rfl,rfl⟩
theorem Rp.run (h:Rp K r E B n L M C) (hl:∃ es,C≠[]∧C[C.length - 1]?=some es∧lS es=true):Rep.run (fun s=>L.bytes M s) L.aF = .inr C.length∧L.aF.length=C.length∧0<C.length∧L.aF.take C.length=L.aF∧nY L.aF=(C.length:Int) - 1:=by
 obtain ⟨es,hne,he,hen⟩:=hl;have hp:0<C.length:=amK.2 hne;obtain ⟨c,h1,h2,h3,h4⟩:=h.hg.run;have e1:c=C.length:=by
  by_cases hh:c=C.length
  ·exact hh
  ·have:=h4 (C.length - 1) es oQ he;rw [hen]at this;cases this
 obtain ⟨s1,s2⟩:=h.hg.aF;refine ⟨by rw [← e1];exact h1,s1,hp,by rw [← s1];exact adk,?_⟩;have e:L.aF.getLast?=some ((C.length:Int) - 1):=by
  rw [adv,s1,s2 _ oQ]
  congr 1;omega
 unfold nY;rw [e]
theorem Rp.rows (h:Rp K r E B n L M C):rowsOf (fun s=>L.bytes M s) L.aF=dW 0 C:=by
 have e:=h.hg.rows C.length;rw [← h.hg.aF.1,adk,h.hg.aF.1,adk]at e;exact e
theorem Rp.iY (h:Rp K r E B n L M C):(rowsOf (fun s=>L.bytes M s) L.aF).length≤n:=by
 rw [h.rows,← abl (f:=fun r:Row=>r.2.e),QE];exact h.few
theorem Rp.row (h:Rp K r E B n L M C){q:Row} (hq:q∈dW 0 C):L.read M (iH q)=(q.2.e,0)∧fH q.2.e∧(q.2.size:Int)≤4294967296∧(q.2.at_:Int)≤4294967296:=by
 refine ⟨h.hg.Qs hq,?_⟩;obtain ⟨j,es,h5,h6,h7⟩:=J8 C 0 hq;obtain ⟨u,v,h8,h9,h10⟩:=CJ es 8 h7;have hat:=abV (h.hg.at_ j es h5);have hsz:=h.hg.keeps.log.sizes _ hat;have he:(encs es).length=(encs u).length+((ah.encode q.2.e).1.length+(encs v).length):=by
  conv=>lhs;rw [h8]
  rw [xP,aaK]
  congr 1
  exact aaK
 simp only at hsz;exact ⟨(h.hg.good es (abV h5)).1 _ (by rw [h8];simp),by omega,by omega⟩
theorem Rp.QK (h:Rp K r E B n L M C):∀ q∈rowsOf (fun s=>L.bytes M s) L.aF,(q.2.size:Int)≤4294967296:=fun q hq=>by
 rw [h.rows]at hq;exact (h.row hq).2.2.1
theorem Rp.hint (h:Rp K r E B n L M C){kv:List (Bs×dP)} (hk:Tab.Lists (ledger (rowsOf (fun s=>L.bytes M s) L.aF)) kv) (h32:∀ q∈kv,q.1.length=32) :
  mJ L C.length ((jC (fun s=>L.bytes M s) L.aF).map (upd kv)) (puts kv):=by
 have e:L.aF.take C.length=L.aF:=by rw [← h.hg.aF.1];exact adk
 have:=h.hg.hint (abL _) (kv:=kv) (by rw [e];exact hk) h32;rw [e]at this;exact this
theorem Rp.save (h:Rp K r E B n L M C) (hn:n+E≤480){N:Int} (h1:0≤N) (h2:N<1048576) (b1 b2:Bs) :
  Rp (K+600) r (E+2) (B+b1.length+b2.length) n L (aC.save M N b1 b2).1 C∧((aC.save M N b1 b2).2=0∨(aC.save M N b1 b2).2=11) ∧
   (∀ f∈(aC.write (aC.write M (aC.name aC.idx N) b1).1 (aC.name aC.use N) b2).1.dR.1.list,f.size≤4000000000):=by
 have hnm:=h.hg.names;have s:=aC.Kt (b1:=b1) (b2:=b2) h.hg.keeps.calm h.tmp oQ h1 h2;have g1:=aC.AQ (ld:=aC.idx) rfl aN N h1 h2;have g2:=aC.AQ (ld:=aC.use) rfl aN N h1 h2;have hsz:∀ ld:ByteArray,ld.data.toList.length=4→(aC.name ld N).size≤24:=fun ld hl=>by
  show (aC.name ld N).data.size≤24;rw [← acJ,aC.name_eq ld N h1 h2,aaK,hl,vU];omega
 refine ⟨⟨h.hg.apart s.calm (fun k=>?_) (by have:=s.used;have:=h.hg.used;omega) (by have:=s.len;omega),s.tmp,h.few,fun p hp=>?_,h.thin⟩,s.done.imp (·.1) id,fun f hf=>?_⟩
 ·by_cases hk:0≤k∧k<1048576
  ·exact s.other _ (aC.GH k).symm (aC.Ky k N h1 h2) (aC.Kz k N h1 h2) (aC.Qc (by rw [aC.yF]))
  ·exact s.other _ (aC.GH k).symm (aC.Ky k N h1 h2) (aC.Kz k N h1 h2) (aC.Qc (by rw [aC.yF]))
 ·rcases s.names p hp with q|q|q
  ·exact h.small p q
  ·rw [q];exact hsz _ rfl
  ·rw [q];exact hsz _ rfl
 ·have w1:=aC.DY (b:=b1) h.hg.keeps.calm h.tmp oQ g1 (aC.OZ N h1 h2);have w2:=aC.DY (b:=b2) w1.calm w1.tmp (by have:=w1.len;omega) g2 (aC.SC N h1 h2);rw [w2.calm.dR.quiet.list,aC.KJ]at hf;obtain ⟨p,hp,rfl⟩:=abZ.1 hf;refine acz (m:=24) ?_ aN;rcases w2.names p hp with q|q
  ·rcases w1.names p q with q|q
   ·exact h.small p q
   ·rw [q];exact hsz _ rfl
  ·rw [q];exact hsz _ rfl
end
end Go.Seg
namespace Go.Tab
open Go.ah (Bs)
section
variable {α V:Type}{m:Bs→Option V}{k:Bs}{v:V}
theorem Pj [DecidableEq α]:∀ {l l':List α},l.Nodup→(∀ x∈l,x∈l')→l.length≤l'.length
 |[],_,_,_=>acV _
 |a::l,l',hd,hs=>by
  obtain ⟨h1,h2⟩:=amL.1 hd;have hm:=hs a (.head _);have ih:=Pj (l':=l'.erase a) h2 (fun x hx=>(List.mem_erase_of_ne (fun e:x=a=>h1 (by rw [← e];exact hx))).2 (hs x (.tail _ hx)));rw [List.length_erase_of_mem hm]at ih;have:=List.length_pos_of_mem hm;rw [ac5];omega
theorem ah4 {t:Tb V} (h:t.Ok) (hi:t.Is m){kv:List (Bs×V)} (hl:Lists m kv):t.n=kv.length:=by
 have hA:((t.slots.filter fun x=>x.st==1).map (·.key)).Nodup:=by
  rw [List.nodup_iff_pairwise_ne,aij,List.pairwise_filter,anl];intro i j hi hj hij p1 p2 e;have:=h.good.one (aaI hi) (aaI hj) (by simpa using p1) (by simpa using p2) e;omega
 have hn:t.n=((t.slots.filter fun x=>x.st==1).map (·.key)).length:=by
  rw [abl,h.n];unfold jP;rw [List.countP_eq_length_filter]
 have hB:=hl.keys;have hAB:∀ x∈(t.slots.filter fun x=>x.st==1).map (·.key),x∈kv.map (·.1):=fun x hx=>by
  obtain ⟨y,hy,rfl⟩:=abZ.1 hx;obtain ⟨h1,h2⟩:=acY.1 hy;obtain ⟨i,hi1,hi2⟩:=anA h1;have:m y.key=some y.val:=(hi _ _).1 ⟨i,y,by rw [aaI hi1,hi2],by simpa using h2,rfl,rfl⟩;exact abZ.2 ⟨(y.key,y.val),(hl.mem _ _).2 this,rfl⟩
 have hBA:∀ x∈kv.map (·.1),x∈(t.slots.filter fun x=>x.st==1).map (·.key):=fun x hx=>by
  obtain ⟨q,hq,rfl⟩:=abZ.1 hx;obtain ⟨i,y,h1,h2,h3,h4⟩:=(hi q.1 q.2).2 ((hl.mem q.1 q.2).1 hq);exact abZ.2 ⟨y,acY.2 ⟨abV h1,by simpa using h2⟩,h3⟩
 have l1:=Pj hA hAB;have l2:=Pj hB hBA;rw [abl]at l1 l2 hn;rw [abl]at l1 l2;omega
end
end Go.Tab
namespace Go.Seg
open Go.ay
open Go.ah (Bs aG encs fH)
section
variable {K r:Nat}{L:Log}{M:ay}
end
end Go.Seg
namespace Go.Rep
open Go.ah (Bs aG fH)
open Go.Seg (aU)
open Go.Tab
def wz (es:List aG) (kv:List (Bs×aU)):List (Bs×Bs):=kv.map fun q=>(q.1,(jA es q.1).getD [])
theorem ai6 {l:List Row}{es:List aG}{kv:List (Bs×aU)} (he:l.map (·.2.e)=es) (h:Lists (dO l) kv):Lists (jA es) (wz es kv):=by
 subst he;refine ⟨?_,fun k v=>?_⟩
 ·unfold wz;rw [aij];exact h.rise
 ·unfold wz;rw [abZ];obtain ⟨o1,_⟩:=Zu l k;constructor
  ·rintro ⟨q,hq,e⟩;have e1:q.1=k:=adu Prod.fst e;have e2:(jA (l.map (·.2.e)) q.1).getD []=v:=adu Prod.snd e;rw [e1]at e2;have hn:=(h.mem q.1 q.2).1 hq;rw [e1]at hn;rw [hn]at o1;cases ho:jA (l.map (·.2.e)) k with
   |none=>rw [ho]at o1;cases o1
   |some d=>rw [ho]at e2;exact adu some e2
  ·intro ho;rw [ho]at o1;cases hn:dO l k with
   |none=>rw [hn]at o1;cases o1
   |some pl=>exact ⟨(k,pl),(h.mem _ _).2 hn,by simp only;rw [ho];rfl⟩
end Go.Rep
namespace Go.Seg
open Go.ay
open Go.ah (Bs aG encs fH)
open Go.Rep
section
variable {K r E B n:Nat}{L:Log}{M:ay}{C:List (List aG)}{k:Bs}{pl:aU}
theorem Oj (hk:k.length=32) (d:Bs) (hd:d.length≤300):(ah.encode ⟨0,k,d⟩).2=0:=abv (d:=⟨0,k,d⟩) hk hd
theorem agD (hk:k.length=32):(ah.encode ⟨1,k,[]⟩).2=0:=abv (d:=⟨1,k,[]⟩) hk (acV _)
end
end Go.Seg
