import Derived.Test.YtihngncbioofnaaGreatDoorJ2
import Derived.Lib.SlBytesConst
import Derived.Laws.IdiomStrings
import Derived.Deep.MidRow
import Derived.Laws.ResultCell
set_option maxRecDepth 20000
set_option linter.unusedVariables false
set_option maxHeartbeats 128000000
namespace Go.Proofs.YtihngncbioofnaaGreatDoor
open Go Go.Sl Go.ay Go.MapKept Go.RowKit
section
variable {w0 w:World}{F:List aH}{v bv dv x:Value}{q:Nat}
section
variable {ops:Array Oper}{rest:List Oper}{o:Oper}{a:Act}{Q:Exit→Act→World→Prop}
theorem BJ (hgd:o.guard=none) (s y:Operand) (ho:o.op = .call { callee:= .builtin .append,args:=#[s,y],argTypes:=#[39,39] })
  (hv:a.eval s=v) (hxv:a.eval y=x) {l m:Bs} (h:Sat w0 w (bK v l::F)) (hx:bG 1 x (aA m) w) (hlen:l.length+m.length≤1099511627776) (hne:l++m≠[])
  (hK:∀ b n c w',Sat w0 w' (bK (.slice (some ⟨b,0,none⟩) n c) (l++m)::F)→n=(l++m).length→n≤c→c≤9223372036854775807→wpList Tryz.prog ops Q rest (a.put o.dst (.slice (some ⟨b,0,none⟩) n c)) w'):wpList Tryz.prog ops Q (o::rest) a w:=by
 obtain ⟨i,hi,hz0,hz1,hz2⟩:=uK;have h63:(aA l).length+(aA m).length≤maxLen:=by rw [aX,aX];unfold maxLen;omega
 have hby:((aA l).length+(aA m).length) * i.bytes≤140737488355328:=by rw [aX,aX,hz2];omega
 refine y7 (w0:=w0) hgd s y 39 ho _ i _ Tryz.underlying39 hi hz0 hz1 aj oQ hv hxv (vS _) h hx h63 hby ?_;intro v' w' hS hn;obtain ⟨b,n,c,rfl⟩:=hn (by rw [← zO];intro e;apply hne;simpa [aA] using e);rw [← zO]at hS;obtain ⟨a',n',c',he,h1,h2,h3⟩:=EM hS;cases he;exact hK b n c w' hS h3 h1 h2
end
theorem aiS (t:Int) (h:t=0∨t=1∨t=2):IntKind.u8.wrap t=((UInt8.ofNat t.toNat).toNat:Int):=by
 rcases h with rfl|rfl|rfl <;> decide
theorem ahN (e:ah.aG) (hk:e.key.length=32) (dv:Value) (h:Sat w0 w (pt q (.cells (dU e dv) 52 (0,0))::F)):bG 1 (.slice (some ⟨q,1,none⟩) 32 32) (aA e.key) w:=by
 refine ⟨_,32,32,rfl,by rw [aX,hk],fun i y hi=>⟨_,rfl,?_⟩⟩;have e1:(⟨q,1,none⟩:Addr).add i=⟨q,1+i,none⟩:=by unfold Addr.add;split <;> simp_all
 rw [e1];exact h.cellAt _ _ (Wv e dv hk i y (by simpa using hi))
theorem afE (e:ah.aG) (hk:e.key.length=32) (da:Option Addr) (dc:Nat) (hd:Ro w0 F (bG 1 (.slice da e.data.length dc) (aA e.data))) (hH:Ro w0 F Half) (h:Sat w0 w F) (hL:e.data.length≤1099511627) :
  Calls Tryz.prog 125 #[.agg (dU e (.slice da e.data.length dc))] w (aP fun v w'=>∃ bv,v = .tuple #[bv,errno (ah.encode e).2]∧(∃ a n c,bv = .slice a n c)∧Sat w0 w' (bK bv (ah.encode e).1::F)):=by
 have hA:=h.alloc (.cells (dU e (.slice da e.data.length dc)) 52);have hch:=Vy e hk da dc hA;have hat:=hA.at;have hsz:=lT e (.slice da e.data.length dc) hk;have qI:=uQ hat;have iC:=uQ hsz;have Hk:=uQ hk;have HL:=uQ hL;have Hd:=uQ hd;have HH:=uQ hH;clear hat hsz hk hA hL hd hH;go_enter Tryz.func125,Tryz.ntmps125;go_wp2_with (refine wpList_load_row (P:=Tryz.prog) aj 52 _ aj _ aj _ _ (0,0) _ qI.out Tryz.underlying52 aj (by rw [iC.out];kernel_rfl) ?_);refine hch.mono ?_;rintro ee w1 ⟨v,rfl,rfl,hS1⟩;clear hch;generalize w.heap.size=q at *
 by_cases hc:ah.check e=0
 ·have XE:=uQ hS1.at;have hsc:=agk e Hk.out da dc hS1 (by have:=HL.out;omega);have Hc:=uQ hc;have htag:e.tag=0∨e.tag=1∨e.tag=2:=by
   unfold ah.check at hc;by_cases t0:e.tag=0
   ·exact .inl t0
   by_cases t2:e.tag=2
   ·exact .inr (.inr t2)
   by_cases t1:e.tag=1
   ·exact .inr (.inl t1)
   simp [t0,t1,t2]at hc
  have adx:=uQ htag;rw [hc];clear hc htag;go_wp2_with (refine wpList_load_row (P:=Tryz.prog) aj 52 _ aj _ aj _ _ (0,0) _ XE.out Tryz.underlying52 aj (by rw [iC.out];kernel_rfl) ?_);refine hsc.mono ?_;rintro ee w2 ⟨v,rfl,rfl,hS2⟩;clear hsc XE qI;have X3:9≤ah.size e∧ah.size e≤41+e.data.length:=by
   unfold ah.size;rw [abA (by rw [Hc.out];simp)];split <;> omega
  have hN:=uQ X3;have hmk:=Y6 4 (ah.size e) oQ (by have:=HL.out;omega);have hcast:((4:Nat):Int)=4:=rfl;rw [hcast]at hmk;have hA2:=(hS2.alloc (.cells (madeCells #[.int .u8 0] (ah.size e)) 5));have hB:=Y4 (l:=4) oQ (by have:=HL.out;omega) hA2;have hput:=Dq (ah.size e) (by have:=HL.out;omega) hB;have OV:IntKind.u64.wrap (ah.size e:Int)=(ah.size e:Int):=by
   rw [show ∀ n:Int,IntKind.u64.wrap n=n%18446744073709551616 from fun n=>by simp [IntKind.wrap,IntKind.bits,IntKind.signed]];have:=HL.out;omega
  clear hcast X3 hA2;go_wp2_with fail;refine hput.mono ?_;rintro ee w3 ⟨v,rfl,hS3,pa,rfl⟩;clear hput OV hB hmk;generalize w2.heap.size=q2 at *
  have c0:=(hS3.sel 3 [2] rfl rfl).cellAt 0 _ (zV e _);have hr1:bG 1 (.slice pa 4 4) (aA (ah.le (ah.size e) 4)) w3:=Sat.rd hS3;have hl4:=ah.kJ (ah.size e) 4;obtain ⟨tb,htb⟩:∃ tb,tb=UInt8.ofNat e.tag.toNat:=⟨_,rfl⟩;have Yk:e.tag%256=(tb.toNat:Int):=by
   rw [htb,← aiS _ adx.out];exact (IntKind.wrap_u8' _).symm
  have MX:=uQ htb;clear htb;have hd3:=Hd.out;have Fg:=uQ (show (List.replicate 4 (0:UInt8)++ah.le (ah.size e) 4).length=8 by rw [aaK,hl4,adI]);have Uf:=uQ hl4;clear hl4;by_cases ht2:e.tag=2
  ·have um:=uQ ht2;rw [ht2]at c0;have Yj:tb=2:=by rw [MX.out,ht2];rfl
   have ady:=uQ Yj;clear Yk Yj
   go_wp2_with (first
    |(at_builtin;refine BJ (w0:=w0) (l:=List.replicate 4 0) (m:=ah.le (ah.size e) 4) aj _ _ aj aj aj (hS3.sel 3 [1,2] rfl rfl) hr1 (by rw [Uf.out,adI];omega) (by simp) ?_;intro b4 n4 k4 w4 hS4 hx1 hx2 hx3;clear hx1 hx2 hx3 hr1 c0 hS3;have c0:=hS4.aY.cellAt 0 _ (zV e _);rw [um.out]at c0;have hB4:=hS4.alloc (.cells #[.int .u8 2] 5);have hr4:bG 1 (.slice (some ⟨w4.heap.size,0,none⟩) 1 1) (aA [2]) (w4.alloc (.cells #[.int .u8 2] 5)):=Bl w4 #[.int .u8 2] 5 1 1 1 rfl)
    |(at_builtin;refine BJ (w0:=w0) (l:=List.replicate 4 0++ah.le (ah.size e) 4) (m:=[2]) aj _ _ aj aj aj hB4.aY hr4 (by rw [Fg.out];simp) (by simp) ?_;intro b5 n5 k5 w5 hS5 hx1 hx2 hx3;clear hx1 hx2 hx3 hr4 hB4 hS4 c0;have c0:=hS5.eH.cellAt 0 _ (zV e _);rw [um.out]at c0;have zQ:=hS5.eH.cellAt 33 _ (EU e _ Hk.out);have AA:=Hd.out w5 (hS5.sel 3 [] rfl rfl))
    |(at_builtin;refine BJ (w0:=w0) (l:=List.replicate 4 0++ah.le (ah.size e) 4++[2]) (m:=e.data) aj _ _ aj aj aj hS5 AA (by rw [aaK,Fg.out];have:=HL.out;simp;omega) (by simp) ?_;intro b7 n7 k7 w7 hS7 vW Az hk7;have hn4:4≤n7:=(by rw [vW];simp only [aaK,adI];omega);have hk4:¬ k7=4:=(by rw [vW]at Az;simp only [aaK,adI,ac5]at Az;omega);have ag5:(4:Int)≤(n7:Int):=oQ;have Em:=uQ vW;clear vW AA hS5 zQ c0))
   have hbody:List.replicate 4 0++ah.le (ah.size e) 4++[2]++e.data=List.replicate 4 0++ah.body e:=by
    unfold ah.body;rw [acr um.out,← MX.out,ady.out];simp only [acD,adl]
   obtain ⟨XX,Ox,LJ,Fj⟩:∃ XX:List aH,(∀ w' A,Sat w0 w' (A::XX)→Sat w0 w' (A::F))∧Ro w0 (bK (.slice (some ⟨b7,0,none⟩) n7 k7) (List.replicate 4 0++ah.body e)::XX) Half∧Sat w0 w7 (bK (.slice (some ⟨b7,0,none⟩) n7 k7) (List.replicate 4 0++ah.le (ah.size e) 4++[2]++e.data)::XX):=
    ⟨_::_::F,fun w' A hw=>hw.sel 3 [0] rfl rfl,Ro.more (L:=[_,_,_]) HH.out,hS7⟩
   clear hS7;have hS7:=Fj;clear Fj;rw [hbody]at hS7 Em;have hbl:(ah.body e).length≤1099511627776:=by
    have h1:=HL.out;have h2:=Hk.out;unfold ah.body;simp only [aaK,ah.kJ,ac5,adF];split <;> simp <;> omega
   have OH:n7=4+(ah.body e).length:=by rw [Em.out,aaK,adI]
   have hrb:∀ w',Sat w0 w' (bK (.slice (some ⟨b7,0,none⟩) n7 k7) (List.replicate 4 0++ah.body e)::XX)→bG 1 (.slice (some ⟨b7,4,none⟩) (n7 - 4) (k7 - 4)) (aA (ah.body e)) w':=by
    intro w' hw';have h1:=Qr (lo:=4) (k:=n7 - 4) (Sat.rd hw') oQ (some ⟨b7,4,none⟩) (by rw [abA hk4];simp [qO]) Az (k7 - 4);have h2:((aA (List.replicate 4 0++ah.body e)).drop 4).take (n7 - 4)=aA (ah.body e):=by
     rw [zO,anf (by simp [aA])];have:(aA (List.replicate 4 0)).drop 4=[]:=by simp [aA]
     rw [this,adl,acX (by rw [aX];omega)]
    rw [h2]at h1;exact h1
   have Aq:=NP (F:=bK (.slice (some ⟨b7,0,none⟩) n7 k7) (List.replicate 4 0++ah.body e)::XX) (ah.body e) LJ hrb hS7 hbl;have lW:=uQ hbl;clear hrb hbl OH;go_wp2_with fail;refine Aq.mono ?_;rintro ee w8 ⟨v,rfl,rfl,rfl⟩;clear Aq;have OA:=ah.NQ (ah.body e);have FD:=Dq (ah.crc (ah.body e)) oQ hS7;have hwc:IntKind.u64.wrap (ah.crc (ah.body e):Int)=(ah.crc (ah.body e):Int):=by
    rw [show ∀ n:Int,IntKind.u64.wrap n=n%18446744073709551616 from fun n=>by simp [IntKind.wrap,IntKind.bits,IntKind.signed]];omega
   have OU:(ah.crc (ah.body e):Int)%18446744073709551616=(ah.crc (ah.body e):Int):=by omega
   clear OA;go_wp2_with fail;refine FD.mono ?_;rintro ee w9 ⟨v,rfl,iZ,pb,rfl⟩;clear FD hwc OU;have OM:bG 1 (.slice pb 4 4) (aA (ah.le (ah.crc (ah.body e)) 4)) w9:=Sat.rd iZ;go_wp2_with (refine ab9 (w0:=w0) (x:=ah.le (ah.crc (ah.body e)) 4) aj _ _ aj b7 n7 k7 aj aj iZ.aY OM (by intro e0;have:=ah.kJ (ah.crc (ah.body e)) 4;rw [e0]at this;cases this) (by rw [ah.kJ,aaK,adI];omega) ?_;intro w10 dL)
   go_ret2
   have hfin:ah.encode e=(ah.le (ah.crc (ah.body e)) 4++ah.body e,0):=by unfold ah.encode;rw [abA (by rw [Hc.out];simp)]
   rw [hfin];refine ⟨_,rfl,_,rfl,⟨_,_,_,rfl⟩,?_⟩;have hdr:(List.replicate 4 (0:UInt8)++ah.body e).drop (ah.le (ah.crc (ah.body e)) 4).length=ah.body e:=by
    rw [ah.kJ,anf (by simp)];simp
   rw [hdr]at dL;exact Ox _ _ (dL.sel 2 [0] rfl rfl)
  ·have ht2b:(e.tag==2)=false:=by simpa using ht2
   have um:=uQ ht2;clear ht2
   go_wp2_with (first
    |(at_builtin;refine BJ (w0:=w0) (l:=List.replicate 4 0) (m:=ah.le (ah.size e) 4) aj _ _ aj aj aj (hS3.sel 3 [1,2] rfl rfl) hr1 (by rw [Uf.out,adI];omega) (by simp) ?_;intro b4 n4 k4 w4 hS4 hx1 hx2 hx3;clear hx1 hx2 hx3 hr1 c0 hS3;have c0:=hS4.aY.cellAt 0 _ (zV e _);have hB4:=hS4.alloc (.cells #[.int .u8 tb.toNat] 5);have hr4:bG 1 (.slice (some ⟨w4.heap.size,0,none⟩) 1 1) (aA [tb]) (w4.alloc (.cells #[.int .u8 tb.toNat] 5)):=Bl w4 #[.int .u8 tb.toNat] 5 1 1 1 rfl)
    |(at_builtin;refine BJ (w0:=w0) (l:=List.replicate 4 0++ah.le (ah.size e) 4) (m:=[tb]) aj _ _ aj aj aj hB4.aY hr4 (by rw [Fg.out];simp) (by simp) ?_;intro b5 n5 k5 w5 hS5 hx1 hx2 hx3;clear hx1 hx2 hx3 hr4 hB4 hS4 c0;have c0:=hS5.eH.cellAt 0 _ (zV e _);have zQ:=hS5.eH.cellAt 33 _ (EU e _ Hk.out);have Yc:=ahN e Hk.out _ hS5.eH)
    |(at_builtin;refine BJ (w0:=w0) (l:=List.replicate 4 0++ah.le (ah.size e) 4++[tb]) (m:=e.key) aj _ _ aj aj aj hS5 Yc (by rw [aaK,Fg.out,Hk.out];simp) (by simp) ?_;intro b6 n6 k6 w6 hS6 hx1 hx2 hx3;clear hx1 hx2 hx3 Yc hS5 c0 zQ;have zQ:=hS6.eH.cellAt 33 _ (EU e _ Hk.out);have AA:=Hd.out w6 (hS6.sel 3 [] rfl rfl))
    |(at_builtin;refine BJ (w0:=w0) (l:=List.replicate 4 0++ah.le (ah.size e) 4++[tb]++e.key) (m:=e.data) aj _ _ aj aj aj hS6 AA (by rw [aaK,aaK,Fg.out,Hk.out];have:=HL.out;simp;omega) (by simp) ?_;intro b7 n7 k7 w7 hS7 vW Az hk7;have hn4:4≤n7:=(by rw [vW];simp only [aaK,adI];omega);have hk4:¬ k7=4:=(by rw [vW]at Az;simp only [aaK,adI,ac5]at Az;omega);have ag5:(4:Int)≤(n7:Int):=oQ;have Em:=uQ vW;clear vW AA hS6 zQ))
   have hbody:List.replicate 4 0++ah.le (ah.size e) 4++[tb]++e.key++e.data=List.replicate 4 0++ah.body e:=by
    unfold ah.body;rw [abA um.out,MX.out];simp only [acD]
   obtain ⟨XX,Ox,LJ,Fj⟩:∃ XX:List aH,(∀ w' A,Sat w0 w' (A::XX)→Sat w0 w' (A::F))∧Ro w0 (bK (.slice (some ⟨b7,0,none⟩) n7 k7) (List.replicate 4 0++ah.body e)::XX) Half∧Sat w0 w7 (bK (.slice (some ⟨b7,0,none⟩) n7 k7) (List.replicate 4 0++ah.le (ah.size e) 4++[tb]++e.key++e.data)::XX):=
    ⟨_::_::F,fun w' A hw=>hw.sel 3 [0] rfl rfl,Ro.more (L:=[_,_,_]) HH.out,hS7⟩
   clear hS7;have hS7:=Fj;clear Fj;rw [hbody]at hS7 Em;have hbl:(ah.body e).length≤1099511627776:=by
    have h1:=HL.out;have h2:=Hk.out;unfold ah.body;simp only [aaK,ah.kJ,ac5,adF];split <;> simp <;> omega
   have OH:n7=4+(ah.body e).length:=by rw [Em.out,aaK,adI]
   have hrb:∀ w',Sat w0 w' (bK (.slice (some ⟨b7,0,none⟩) n7 k7) (List.replicate 4 0++ah.body e)::XX)→bG 1 (.slice (some ⟨b7,4,none⟩) (n7 - 4) (k7 - 4)) (aA (ah.body e)) w':=by
    intro w' hw';have h1:=Qr (lo:=4) (k:=n7 - 4) (Sat.rd hw') oQ (some ⟨b7,4,none⟩) (by rw [abA hk4];simp [qO]) Az (k7 - 4);have h2:((aA (List.replicate 4 0++ah.body e)).drop 4).take (n7 - 4)=aA (ah.body e):=by
     rw [zO,anf (by simp [aA])];have:(aA (List.replicate 4 0)).drop 4=[]:=by simp [aA]
     rw [this,adl,acX (by rw [aX];omega)]
    rw [h2]at h1;exact h1
   have Aq:=NP (F:=bK (.slice (some ⟨b7,0,none⟩) n7 k7) (List.replicate 4 0++ah.body e)::XX) (ah.body e) LJ hrb hS7 hbl;have lW:=uQ hbl;clear hrb hbl OH;go_wp2_with fail;refine Aq.mono ?_;rintro ee w8 ⟨v,rfl,rfl,rfl⟩;clear Aq;have OA:=ah.NQ (ah.body e);have FD:=Dq (ah.crc (ah.body e)) oQ hS7;have hwc:IntKind.u64.wrap (ah.crc (ah.body e):Int)=(ah.crc (ah.body e):Int):=by
    rw [show ∀ n:Int,IntKind.u64.wrap n=n%18446744073709551616 from fun n=>by simp [IntKind.wrap,IntKind.bits,IntKind.signed]];omega
   have OU:(ah.crc (ah.body e):Int)%18446744073709551616=(ah.crc (ah.body e):Int):=by omega
   clear OA;go_wp2_with fail;refine FD.mono ?_;rintro ee w9 ⟨v,rfl,iZ,pb,rfl⟩;clear FD hwc OU;have OM:bG 1 (.slice pb 4 4) (aA (ah.le (ah.crc (ah.body e)) 4)) w9:=Sat.rd iZ;go_wp2_with (refine ab9 (w0:=w0) (x:=ah.le (ah.crc (ah.body e)) 4) aj _ _ aj b7 n7 k7 aj aj iZ.aY OM (by intro e0;have:=ah.kJ (ah.crc (ah.body e)) 4;rw [e0]at this;cases this) (by rw [ah.kJ,aaK,adI];omega) ?_;intro w10 dL)
   go_ret2
   have hfin:ah.encode e=(ah.le (ah.crc (ah.body e)) 4++ah.body e,0):=by unfold ah.encode;rw [abA (by rw [Hc.out];simp)]
   rw [hfin];refine ⟨_,rfl,_,rfl,⟨_,_,_,rfl⟩,?_⟩;have hdr:(List.replicate 4 (0:UInt8)++ah.body e).drop (ah.le (ah.crc (ah.body e)) 4).length=ah.body e:=by
    rw [ah.kJ,anf (by simp)];simp
   rw [hdr]at dL;exact Ox _ _ (dL.sel 2 [0] rfl rfl)
 ·have Hf:=uQ (show ah.encode e=([],ah.check e) by unfold ah.encode;rw [acr hc]);have hcb:(ah.check e==0)=false:=by simpa using hc
  clear hc;generalize ah.check e=E at *
  go_wp2
  go_ret2
  rw [Hf.out];exact ⟨_,rfl,.slice none 0 0,rfl,⟨_,_,_,rfl⟩,Sat.gI.2 hS1.drop⟩
end
end Go.Proofs.YtihngncbioofnaaGreatDoor
namespace Go.Seg
abbrev Bs:=List UInt8
def iO (n:Nat):Nat→Bs
 |0=>[]
 |k+1=>iO (n / 10) k++[UInt8.ofNat (48+n%10)]
def lead:Bs:=[115,101,103,46]
def name (n:Int):ByteArray:=if n<0∨1048576≤n then ByteArray.empty else ⟨(lead++iO n.toNat 8).toArray⟩
theorem V5:∀ k,iO 0 k=List.replicate k 48
 |0=>rfl
 |k+1=>by
  show iO (0 / 10) k++[UInt8.ofNat (48+0%10)]=_;rw [Nat.zero_div,V5 k,List.replicate_succ',show UInt8.ofNat (48+0%10)=48 from rfl]
theorem vU (n k:Nat):(iO n k).length=k:=by
 induction k generalizing n with
 |zero=>rfl
 |succ k ih=>simp [iO,ih]
def l9 (c:UInt8):Bool:=decide (48≤c.toNat) && decide (c.toNat≤57)
def val (b:Bs):Nat:=b.foldl (fun n c=>10 * n+(c.toNat - 48)) 0
theorem Le (b:Bs) (c:UInt8):val (b++[c])=10 * val b+(c.toNat - 48):=by unfold val;rw [aob];rfl
theorem amH (k:Nat):∀ n,n<10^k→val (iO n k)=n:=by
 induction k with
 |zero=>intro n h;simp at h;subst h;rfl
 |succ k ih=>
  intro n h;show val (iO (n / 10) k++[UInt8.ofNat (48+n%10)])=n;rw [Le,ih (n / 10) (by rw [Nat.div_lt_iff_lt_mul oQ];rw [aoq]at h;exact h),anL];omega
theorem NS (k:Nat):∀ n,(iO n k).all l9=true:=by
 induction k with
 |zero=>intro n;rfl
 |succ k ih=>
  intro n;show (iO (n / 10) k++[UInt8.ofNat (48+n%10)]).all l9=true;rw [ahh,ih,aoJ];simp only [aoI,List.all_nil,Bool.and_true,l9,anL];rw [adg,acF,acF];omega
theorem afj (b:Bs) (h:b.all l9=true):iO (val b) b.length=b:=by
 rw [← List.reverse_reverse b]at *
 generalize b.reverse=r at *
 induction r with
 |nil=>rfl
 |cons c r ih=>
  rw [List.reverse_cons]at h ⊢;rw [ahh,adg]at h;have hc:l9 c=true:=by simpa using h.2
  unfold l9 at hc;rw [adg,acF,acF]at hc;rw [Le,aaK,ac7];show iO ((10 * val r.reverse+(c.toNat - 48)) / 10) r.reverse.length++[UInt8.ofNat (48+(10 * val r.reverse+(c.toNat - 48))%10)]=_;have e1:(10 * val r.reverse+(c.toNat - 48)) / 10=val r.reverse:=by omega
  have e2:48+(10 * val r.reverse+(c.toNat - 48))%10=c.toNat:=by omega
  rw [e1,e2,ih h.1,UInt8.ofNat_toNat]
theorem amI (b:Bs) (h:b.all l9=true):val b<10^b.length:=by
 rw [← List.reverse_reverse b]at *
 generalize b.reverse=r at *
 induction r with
 |nil=>simp [val]
 |cons c r ih=>
  rw [List.reverse_cons]at h ⊢;rw [ahh,adg]at h;have hc:l9 c=true:=by simpa using h.2
  unfold l9 at hc;rw [adg,acF,acF]at hc;rw [Le,aaK,ac7,aoq];have:=ih h.1;omega
def number (s:ByteArray):Int×Bool:=
 let l:=s.data.toList
 if l.length=12∧l.take 4=lead∧(l.drop 4).all l9=true∧val (l.drop 4)<1048576 then (val (l.drop 4),true) else (0,false)
end Go.Seg
namespace Go.Proofs.YtihngncbioofnaaGreatDoor
open Go Go.Sl Go.ay Go.MapKept Go.RowKit
section
variable {w0 w:World}{F:List aH}{v bv dv x:Value}{q:Nat}
def mrow (q:Nat) (l:Bs):aH:=pt q (.cells (aA l).toArray 5 (l.length,l.length+1))
theorem JE {l:Bs} (h:Sat w0 w (mrow q l::F)){i:Nat} (hi:i<l.length) (x:UInt8) :
  w.cell? ⟨q,i,none⟩=some (.int .u8 (l[i]'hi).toNat)∧w.frozen? ⟨q,i,none⟩=false∧Sat w0 (w.setCell ⟨q,i,none⟩ (.int .u8 x.toNat)) (mrow q (l.set i x)::F):=by
 have hb:=h.at;refine ⟨?_,?_,?_⟩
 ·simp only [World.cell?,hb];rw [abY];unfold aA;rw [acE,aaI hi];rfl
 ·simp only [World.frozen?,hb];simp;omega
 ·refine h.turn rfl rfl rfl (by simp) ?_ ?_
  ·simp only [World.setCell,ai9,anJ,hb];simp only [ahf,Option.some.injEq];rw [ag6]
   congr 1
   unfold aA;rw [List.setIfInBounds_toArray,List.map_set,abA (by simp)]
  ·intro j hj _;simp only [World.setCell,ai9];rw [abA (Ne.symm hj)]
theorem aik {l:Bs} (h:Sat w0 w (mrow q l::F)) (c:Nat):(convert 39 9 (.slice (some ⟨q,0,none⟩) l.length c)).run Tryz.prog w = .ok (.string ⟨l.toArray⟩) w:=by
 refine run_convert_bytes_back (P:=Tryz.prog) w _ _ 5 _ c l Tryz.underlying39 Tryz.underlying5 Tryz.underlying9 (fun j hj=>?_);rw [qO];exact (JE h hj 0).1
theorem yQ (n:Int) (h:Sat w0 w F) :
  Calls Tryz.prog 48 #[.int .i64 n] w (aP fun v w'=>v = .string (Seg.name n)∧Sat w0 w' F):=by
 by_cases h1:n<0
 ·have Hf:=uQ (show Seg.name n=ByteArray.empty by unfold Seg.name;rw [acr (.inl h1)]);go_enter Tryz.func48,Tryz.ntmps48;go_wp2;go_ret;exact ⟨_,rfl,by rw [Hf.out];rfl,h⟩
 have h1d:decide (n<0)=false:=ac4 h1;by_cases h2:1048576≤n
 ·have Hf:=uQ (show Seg.name n=ByteArray.empty by unfold Seg.name;rw [acr (.inr h2)]);go_enter Tryz.func48,Tryz.ntmps48;go_wp2;go_ret;exact ⟨_,rfl,by rw [Hf.out];rfl,h⟩
 have Fe:decide (1048576≤n)=false:=ac4 h2;obtain ⟨m0,rfl⟩:=aom (show 0≤n by omega);have Hf:=uQ (show Seg.name (m0:Int)=⟨(Seg.lead++Seg.iO m0 8).toArray⟩ by unfold Seg.name;rw [abA oQ];rfl);have hm0:m0<10^8:=by omega
 have Hm:=uQ hm0;have hcv:=Lib.run_convert_bytes_const (P:=Tryz.prog) w 39 5 #[.int .u8 115,.int .u8 101,.int .u8 103,.int .u8 46,.int .u8 48,.int .u8 48,.int .u8 48,.int .u8 48,.int .u8 48,.int .u8 48,.int .u8 48,.int .u8 48] 12 12 Tryz.underlying39 Tryz.underlying5;have hB:Sat w0 (w.alloc (.cells #[.int .u8 115,.int .u8 101,.int .u8 103,.int .u8 46,.int .u8 48,.int .u8 48,.int .u8 48,.int .u8 48,.int .u8 48,.int .u8 48,.int .u8 48,.int .u8 48] 5 (12,13))) (mrow w.heap.size (Seg.lead++List.replicate 8 48)::F):=h.alloc _;simp only [abX,ac5,adF,acT,Nat.reduceAdd]at hcv;clear hm0;go_enter Tryz.func48,Tryz.ntmps48;go_wp2_with fail;clear h1 h2 h1d Fe;generalize w.heap.size=q at *
 go_loopg [0,4] 8 (fun g nv iq wr=>∃ (k m:Nat) (tail:Bs),g=k∧k≤8∧nv = .int .i64 m∧iq = .int .i64 ((k:Int)+3)∧m<10^k∧Seg.lead++Seg.iO m0 8=Seg.lead++Seg.iO m k++tail∧tail.length=8 - k ∧
  Sat w0 wr (mrow q (Seg.lead++List.replicate k 48++tail)::F))
 case atStart=>exact ⟨8,m0,[],rfl,abL _,rfl,rfl,Hm.out,by simp,rfl,by simpa using hB⟩
 case round=>
  obtain ⟨k,m,tail,hgk,hk,rfl,rfl,hm,hfin,htl,hS⟩:=hrel;have agZ:=hgk.symm;subst agZ;have bF:=uQ hfin;have qY:=uQ htl;clear hB hfin htl;by_cases hp:0<m
  ·obtain ⟨k',rfl⟩:∃ k',k=k'+1:=by
    cases k with
    |zero=>simp at hm;omega
    |succ k'=>exact ⟨k',rfl⟩
   have hlen:(Seg.lead++List.replicate (k'+1) 48++tail).length=12:=by
    have:=qY.out;simp [Seg.lead];omega
   have hidx:k'+4<(Seg.lead++List.replicate (k'+1) 48++tail).length:=by omega
   obtain ⟨e0,e1,hS5⟩:=JE hS hidx (UInt8.ofNat (48+m%10));generalize (Seg.lead++List.replicate (k'+1) 48++tail)[k'+4]'hidx=old at e0;have hpi:(0:Int)<(m:Int):=by omega
   have hki:(k':Int)+4<12:=by omega
   have hdg:48+(m:Int)%10=((UInt8.ofNat (48+m%10)).toNat:Int):=by rw [anL];omega
   have hm2:m<10 * 10^k':=by rw [aoq]at hm;omega
   have hbig:10^(k'+1)≤10^8:=anR aN hk;have hw1:IntKind.i64.wrap ((m:Int) / 10)=(m:Int) / 10:=by rw [adL];omega
   have Hm2:=uQ hm2;have Hdg:=uQ (show Seg.iO m (k'+1)=Seg.iO (m / 10) k'++[UInt8.ofNat (48+m%10)] by rfl);have hc3:((k'+1:Nat):Int)+3=(k':Int)+4:=by omega
   rw [hc3];clear hm hm2 hlen hidx hbig;generalize UInt8.ofNat (48+m%10)=dg at *
   go_wp2_with fail
   go_roundg k'
   case rel=>
    refine ⟨k',m / 10,dg::tail,rfl,by omega,?_,?_,?_,?_,?_,?_⟩
    ·congr 1
    ·congr 1;omega
    ·have:=Hm2.out;omega
    ·rw [bF.out,Hdg.out];simp
    ·have:=qY.out;simp;omega
    ·have e:(Seg.lead++List.replicate (k'+1) 48++tail).set (k'+4) dg=Seg.lead++List.replicate k' 48++dg::tail:=by
      have hl:(Seg.lead++List.replicate k' (48:UInt8)).length=k'+4:=by simp only [Seg.lead,aaK,adI,ac5,adF];omega
      rw [List.replicate_succ',← acD,acD (Seg.lead++List.replicate k' 48),List.set_append_right _ _ oQ,hl,anm]
      rfl
     rw [← e];exact hS5
   case measure=>omega
  ·have hm0:m=0:=by omega
   subst hm0;have htx:=aik hS 12;have hlen:(Seg.lead++List.replicate k 48++tail).length=12:=by
    have:=qY.out;simp [Seg.lead];omega
   rw [hlen]at htx;clear hm;go_wp2;go_ret;refine ⟨_,rfl,?_,hS.drop⟩;rw [Hf.out,bF.out,Seg.V5];simp
end
section
variable {w0 w:World}{F:List aH}{v bv dv x:Value}{q:Nat}
theorem Nv (s:ByteArray):(s.extract 0 4).toList=s.data.toList.take 4:=by
 rw [Go.Lib.extract_toList];simp
theorem aef (s:ByteArray) (h:s.size=12):(s.extract 4 12).data.toList=s.data.toList.drop 4:=by
 rw [Go.Lib.extract_data];refine acX ?_;have:s.data.toList.length=12:=by rw [acJ];exact h
 rw [acL];omega
theorem Ru (s:ByteArray) (h:Sat w0 w F) :
  Calls Tryz.prog 103 #[.string s] w (aP fun v w'=>v = .tuple #[.int .i64 (Seg.number s).1,.bool (Seg.number s).2]∧Sat w0 w' F):=by
 by_cases h1:s.size=12
 ·have hs:((s.size:Int)=12):=by omega
  have h1d:decide ((s.size:Int)=12)=true:=adt hs;by_cases h2:s.data.toList.take 4=Seg.lead
  ·have Fe:((s.extract 0 4).toList==[115,101,103,46])=true:=by rw [Nv s,h2];rfl
   have hN:=uQ (show Seg.number s=if (s.data.toList.drop 4).all Seg.l9=true∧Seg.val (s.data.toList.drop 4)<1048576 then ((Seg.val (s.data.toList.drop 4):Int),true) else (0,false) by
    unfold Seg.number;simp only [acJ,show s.data.size=12 from h1,h2,true_and])
   have Hb:=uQ (aef s h1);have hcv:=run_bytes_of_string (P:=Tryz.prog) w 9 39 5 (s.extract 4 12) Tryz.underlying9 Tryz.underlying39 Tryz.underlying5;have hz:(s.extract 4 12).size=8:=by simp [ByteArray.size_extract,h1]
   have hcell:∀ (i:Nat) (hi:i<8),((w.alloc (.cells (bytesRow (s.extract 4 12) (grownCap w (s.extract 4 12).size 0 5)) 5 ((bytesRow (s.extract 4 12) (grownCap w (s.extract 4 12).size 0 5)).size,(bytesRow (s.extract 4 12) (grownCap w (s.extract 4 12).size 0 5)).size+1))).drew).cell? ⟨w.heap.size,0+i,none⟩=some (.int .u8 ((s.extract 4 12).data[i]'(by have:(s.extract 4 12).data.size=8:=hz;omega)).toNat):=by
    intro i hi;rw [acT];exact (World.cell?_alloc_mark w.drew _ _ _ _).trans (bytesRow_at _ _ _ _)
   have hB:Sat w0 ((w.alloc (.cells (bytesRow (s.extract 4 12) (grownCap w (s.extract 4 12).size 0 5)) 5 ((bytesRow (s.extract 4 12) (grownCap w (s.extract 4 12).size 0 5)).size,(bytesRow (s.extract 4 12) (grownCap w (s.extract 4 12).size 0 5)).size+1))).drew) F:=(h.drew.alloc _).drop;rw [hz]at hcv hcell hB;have Hlen:=uQ (show (s.data.toList.drop 4).length=8 by rw [acL,acJ,show s.data.size=12 from h1]);have hcell':∀ (i:Nat) (hi:i<(s.data.toList.drop 4).length),((w.alloc (.cells (bytesRow (s.extract 4 12) (grownCap w 8 0 5)) 5 ((bytesRow (s.extract 4 12) (grownCap w 8 0 5)).size,(bytesRow (s.extract 4 12) (grownCap w 8 0 5)).size+1))).drew).cell? ⟨w.heap.size,0+i,none⟩=some (.int .u8 ((s.data.toList.drop 4)[i]'hi).toNat):=by
    intro i hi;rw [hcell i (by rw [← Hlen.out];exact hi)]
    congr 4
    have:=Hb.out;rw [← Array.getElem_toList];exact getElem_congr this rfl _
   clear hcell;generalize grownCap w 8 0 5=cap at *
   generalize s.data.toList.drop 4=l at *
   go_enter Tryz.func103,Tryz.ntmps103;go_wp2_with fail;clear hcv h1d Fe hs h1 h2;generalize World.drew _=wb at *
   generalize w.heap.size=q at *
   go_loopg [4,19] 8 (fun g nv iq wr=>∃ i:Nat,g=8 - i∧i≤8∧nv = .int .i64 (Seg.val (l.take i))∧iq = .int .i64 i∧(l.take i).all Seg.l9=true∧wr=wb)
   case atStart=>exact ⟨0,rfl,by omega,rfl,rfl,rfl,rfl⟩
   case round=>
    obtain ⟨i,rfl,hi,rfl,rfl,hall,rfl⟩:=hrel;have vg:=uQ hall;clear hall;by_cases hi':i<8
    ·have hil:i<l.length:=by have:=Hlen.out;omega
     have hc:=hcell' i hil;rw [acT]at hc;have Hc:=uQ (aot hil);have hii:(i:Int)<8:=by omega
     have Hn:=uQ (show Seg.val (l.take (i+1))=10 * Seg.val (l.take i)+(l[i].toNat - 48) by rw [agm hil,Seg.Le]);have Hd:=uQ (show (l.take (i+1)).all Seg.l9=Seg.l9 l[i] by rw [agm hil,ahh,vg.out,aoJ];simp);have Hv:=uQ (Seg.amI _ vg.out);generalize l[i]=c at *
     by_cases hd:Seg.l9 c=true
     ·have hd':=hd;unfold Seg.l9 at hd';rw [adg,acF,acF]at hd';have b1:¬ c.toNat<48:=by omega
      have b2:¬ 57<c.toNat:=by omega
      have b3:(c.toNat:Int) - 48=((c.toNat - 48:Nat):Int):=by omega
      have ahg:Seg.val (l.take i)<100000000:=by
       have:=Hv.out;rw [acA]at this;exact Nat.lt_of_lt_of_le this (anR aN oQ:_≤10^8)
      have vw:=uQ hd';have b4:IntKind.i64.wrap (10 * (Seg.val (l.take i):Int))=10 * (Seg.val (l.take i):Int):=by rw [adL];omega
      have b5:IntKind.i64.wrap (10 * (Seg.val (l.take i):Int)+((c.toNat - 48:Nat):Int))=10 * (Seg.val (l.take i):Int)+((c.toNat - 48:Nat):Int):=by rw [adL];omega
      have b6:IntKind.i64.wrap ((i:Int)+1)=(i:Int)+1:=by rw [adL];omega
      clear ahg hd' hcell';generalize c.toNat - 48=d at *
      go_wp2_with fail
      go_roundg (8 - (i+1))
      case measure=>omega
      case rel=>
       refine ⟨i+1,rfl,by omega,?_,rfl,by rw [Hd.out,hd],rfl⟩;rw [Hn.out];rfl
     ·have hno:¬ (l.all Seg.l9=true∧Seg.val l<1048576):=fun hh=>hd (aeD.1 hh.1 _ Hc.out);have Xv:=uQ (hN.out.trans (abA hno));have hd':=hd;unfold Seg.l9 at hd';rw [adg,acF,acF]at hd';clear hcell' hno Hn Hd;by_cases b1:c.toNat<48
      ·clear hd';go_wp2
       go_ret2
       exact ⟨_,rfl,by rw [Xv.out];rfl,hB⟩
      ·have b2:57<c.toNat:=by omega
       clear hd';go_wp2
       go_ret2
       exact ⟨_,rfl,by rw [Xv.out];rfl,hB⟩
    ·obtain rfl:i=8:=by omega
     have hc8:((8:Nat):Int)=8:=rfl;rw [hc8];clear hc8 hi;have htk:=uQ (show l.take 8=l from acX (by have:=Hlen.out;omega))
     have hN3:=uQ (show Seg.number s=if Seg.val l<1048576 then ((Seg.val l:Int),true) else (0,false) by
      have:=vg.out;rw [htk.out]at this;rw [hN.out];simp only [this,true_and])
     rw [htk.out];clear hcell' hi';obtain ⟨V,hV⟩:∃ V:Int,V=(Seg.val l:Int):=⟨_,rfl⟩;have HV:=uQ hV;rw [← hV];by_cases hv:1048576≤V
     ·have hvd:decide (1048576≤V)=true:=adt hv;have Hv:=uQ hv;clear hv hV;go_wp2
      go_ret2
      exact ⟨_,rfl,by rw [hN3.out,abA (by have:=Hv.out;have:=HV.out;omega)];rfl,hB⟩
     ·have hvd:decide (1048576≤V)=false:=ac4 hv;have Hv:=uQ hv;clear hv hV;go_wp2
      go_ret2
      exact ⟨_,rfl,by rw [hN3.out,acr (by have:=Hv.out;have:=HV.out;omega),← HV.out];rfl,hB⟩
  ·have Fe:((s.extract 0 4).toList==[115,101,103,46])=false:=by rw [Nv s];exact ahB h2
   have hN:=uQ (show Seg.number s=(0,false) by
    unfold Seg.number;simp only [h2,false_and,and_false,anY])
   go_enter Tryz.func103,Tryz.ntmps103;go_wp2
   go_ret2
   exact ⟨_,rfl,by rw [hN.out];rfl,h⟩
 ·have hs:¬ ((s.size:Int)=12):=by omega
  have h1d:decide ((s.size:Int)=12)=false:=ac4 hs
  have hN:=uQ (show Seg.number s=(0,false) by
    unfold Seg.number;simp only [acJ,show ¬ s.data.size=12 from h1,false_and,anY])
  go_enter Tryz.func103,Tryz.ntmps103;go_wp2
  go_ret2
  exact ⟨_,rfl,by rw [hN.out];rfl,h⟩
end
end Go.Proofs.YtihngncbioofnaaGreatDoor
namespace Go.Seg
open Go.ay
structure Log where
 limit:Int
 l:List (Int×Int)
 on:Bool
 fresh:Int
def alive (M:ay):Int:=if (M.size ByteArray.empty).2=9 then 0 else (M.size ByteArray.empty).2
def found (M:ay) (l:List ByteArray):List (Int×Int):=l.filterMap fun s=>if (number s).2=true then some ((number s).1,(M.size s).1) else none
def fresh (M:ay) (limit:Int):Log:=⟨limit,found M M.list,false,0⟩
theorem agd (M:ay) (l:List ByteArray) (s:ByteArray):found M (l++[s])=found M l++(if (number s).2=true then [((number s).1,(M.size s).1)] else []):=by
 unfold found;rw [List.filterMap_append]
 congr 1
 by_cases h:(number s).2=true <;> simp [h]
theorem agc (M:ay) (l:List ByteArray):(found M l).length≤l.length:=List.length_filterMap_le _ _
end Go.Seg
namespace Go.Proofs.YtihngncbioofnaaGreatDoor
open Go Go.Sl Go.ay Go.MapKept Go.RowKit
def eF (l:List (Int×Int)):List Value:=l.flatMap fun s=>[.int .i64 s.1,.int .i64 s.2]
abbrev mF (p m:Nat) (L:Seg.Log) (lv:Value):aH:=pt p (.cells #[ptr m,.int .i64 L.limit,lv,.bool L.on,.int .i64 L.fresh] 99 (0,0))
def Cb (p m:Nat) (L:Seg.Log) (lv:Value):List aH:=[mF p m L lv,aB 105 2 lv (eF L.l)]
def aK (p m:Nat) (L:Seg.Log):aH:=fun h=>∃ lv,stars (Cb p m L lv) h
theorem Yx:(Tryz.prog.info? 105).map (fun i=>(i.zero,i.size,i.bytes))=some (some (.agg #[.int .i64 0,.int .i64 0]),2,16):=by kernel_rfl
section
variable {w0 w:World}{F:List aH}{v bv dv x lv:Value}{q p m K:Nat}{L:Seg.Log}{M:ay}
theorem aK.open (h:Sat w0 w (aK p m L::F)):∃ lv,Sat w0 w (Cb p m L lv++F):=by
 obtain ⟨ha,x,hx,p,q,d,rfl,⟨lv,hp⟩,hq⟩:=h;refine ⟨lv,ha,_,hx,?_⟩;rw [qy];exact ⟨p,q,d,rfl,hp,hq⟩
theorem aK.shut (h:Sat w0 w (Cb p m L lv++F)):Sat w0 w (aK p m L::F):=
 h.join fun _ hx=>⟨lv,hx⟩
theorem kT (l:List (Int×Int)):(eF l).length=2 * l.length:=by
 unfold eF
 induction l with
 |nil=>rfl
 |cons a l ih=>rw [ada,aaK,ih];simp;omega
theorem Bz (l k:List (Int×Int)):eF (l++k)=eF l++eF k:=by unfold eF;rw [adz]
theorem adT (hM:M.Ok K) (h:Sat w0 w (aJ m M::F)) :
  Calls Tryz.prog 101 #[ptr m] w (aP fun v w'=>v=errno (Seg.alive M)∧w=w'):=by
 have hs:=KE hM h ByteArray.empty;have Ea:=uQ (show Seg.alive M=if (M.size ByteArray.empty).2=9 then 0 else (M.size ByteArray.empty).2 from rfl);generalize (M.size ByteArray.empty).2=e at *
 generalize (M.size ByteArray.empty).1=n at *
 by_cases he:e=9
 ·subst he;go_enter Tryz.func101,Tryz.ntmps101;go_wp2_with fail;refine hs.mono ?_;rintro e w1 ⟨v,rfl,rfl,rfl⟩;clear hs;go_wp2;go_ret;exact ⟨_,rfl,by rw [Ea.out];rfl,rfl⟩
 ·have hed:(e==9)=false:=ahB he;have He:=uQ he;clear he;go_enter Tryz.func101,Tryz.ntmps101;go_wp2_with fail;refine hs.mono ?_;rintro e w1 ⟨v,rfl,rfl,rfl⟩;clear hs;go_wp2;go_ret;exact ⟨_,rfl,by rw [Ea.out,abA He.out];rfl,rfl⟩
theorem ai0 (hM:M.Ok K) (limit:Int) (h:Sat w0 w (aJ m M::F)) (ha:Seg.alive M=0) (h1:128≤limit) (h2:limit≤1048576) :
  Calls Tryz.prog 56 #[ptr m,.int .i64 limit] w (aP fun v w'=>∃ p,v = .tuple #[ptr p,errno 0]∧Sat w0 w' (aK p m (Seg.fresh M limit)::aJ m M::F)):=by
 have hal:=adT hM h;rw [ha]at hal;have hd1:decide (limit<128)=false:=ac4 oQ;have hd2:decide (1048576<limit)=false:=ac4 oQ;obtain ⟨i,hi,hz0,hz1,hz2⟩:=info_parts Yx
 have hll:=uQ (show M.list.length≤500 by
  unfold ay.list;split
  ·simp
  ·rw [abl];exact hM.gG.len)
 clear h1 h2 ha;go_enter Tryz.func56,Tryz.ntmps56;go_wp2_with fail;refine hal.mono ?_;rintro e w1 ⟨v,rfl,rfl,rfl⟩;clear hal;have hB:=h.alloc (.cells #[ptr m,.int .i64 limit,.slice none 0 0,.bool false,.int .i64 0] 99);have hL:=JB hM hB.aY;go_wp2_with fail;refine hL.mono ?_;rintro e w2 ⟨v,rfl,hS,ba,bn,bc,rfl⟩;have hlen:bn=M.list.length:=by
  obtain ⟨a',n',c',he,hl,_⟩:=Sat.rd hS;cases he;rw [alX,adb]at hl;exact hl.symm
 clear hL hB;subst hlen;generalize w.heap.size=q at *
 go_wp2_with fail
 go_loopg [32] M.list.length (fun g iq wr=>∃ (i:Nat) (lv:Value),g=M.list.length - i∧i≤M.list.length∧iq = .int .i64 i∧Sat w0 wr (Cb q m ⟨limit,Seg.found M (M.list.take i),false,0⟩ lv++aB 9 1 (.slice ba M.list.length bc) (strs M.list)::aJ m M::F))
 case atStart=>exact ⟨0,.slice none 0 0,rfl,acV _,rfl,by
  have:=Sat.gI (T:=105) (sz:=2) |>.2 hS;exact this.sel 4 [3,0,1,2] rfl rfl⟩
 case round=>
  obtain ⟨j,lv,rfl,hj,rfl,hR⟩:=hrel;clear hS;by_cases hj':j<M.list.length
  ·have hx:M.list[j]?=some (M.list[j]'hj'):=aaI hj';have hcx:=Sat.rd (hR.sel 3 [2] rfl rfl);obtain ⟨bk,off,hba,c1⟩:=wF hcx (alV hx)
   have ny:=uQ (show Seg.found M (M.list.take (j+1))=Seg.found M (M.list.take j)++(if (Seg.number M.list[j]).2=true then [((Seg.number M.list[j]).1,(M.size M.list[j]).1)] else []) by
    rw [agm hj',Seg.agd])
   have hnum:=Ru M.list[j] hR;have zl:=uQ (Seg.agc M (M.list.take j));generalize M.list[j]=s at *
   have hic:(j:Int)<(M.list.length:Int):=by omega
   have hjl:=uQ hj';clear hx hcx hj';subst hba;go_wp2_with fail;refine hnum.mono ?_;rintro e w3 ⟨v,rfl,rfl,Jm⟩;clear hnum;have hwi:IntKind.i64.wrap ((j:Int)+1)=(j:Int)+1:=acC _ (by have:=hll.out;have:=hjl.out;omega);cases hb:(Seg.number s).2
   ·have Hb:=uQ hb;clear hb;go_wp2
    go_roundg (M.list.length - (j+1))
    case measure=>have:=hjl.out;omega
    case rel=>
     refine ⟨j+1,lv,rfl,adi hjl.out,by first|rfl|go_num,?_⟩;rw [ny.out,Hb.out,abA aN,acM];exact Jm
   ·have Hb:=uQ hb;clear hb;have hsz:=KE hM (Jm.sel 4 [3,0,1,2] rfl rfl) s;go_wp2_with fail;refine hsz.mono ?_;rintro e w4 ⟨v,rfl,rfl,rfl⟩;clear hsz;have c2:=Jm.cellAt 2 _ rfl;generalize (M.size s).1=sz at *
    generalize (M.size s).2=se at *
    generalize (Seg.number s).1=nu at *
    have h7:=Jm.alloc (.cells #[.int .i64 nu,.int .i64 sz] 105);have hoc:∀ u∈(#[.int .i64 nu,.int .i64 sz]:Array Value).toList,u.oneCell'=true:=by
     intro u hu;simp only [acK,ag0,aoj]at hu;rcases hu with rfl|rfl <;> rfl
    have hlen:(eF (Seg.found M (M.list.take j))).length≤2 * 500:=by
     rw [kT];have:=zl.out;have:=hll.out;rw [acA]at *;omega
    have h63:(eF (Seg.found M (M.list.take j))).length+2≤maxLen:=by unfold maxLen;omega
    have hby:((eF (Seg.found M (M.list.take j))).length+2) * i.bytes≤140737488355328:=by rw [hz2];omega
    have h8:Sat w0 _ (aB 105 2 lv (eF (Seg.found M (M.list.take j)))::mF q m ⟨limit,Seg.found M (M.list.take j),false,0⟩ lv::aB 9 1 (.slice (some ⟨bk,off,none⟩) M.list.length bc) (strs M.list)::aJ m M::F):=h7.sel 5 [2,1,3,4] rfl rfl;clear hlen;go_wp2_with (at_builtin;go_must (refine y7 (w0:=w0) aj _ _ _ aj _ i _ Tryz.underlying97 hi hz0 hz1 aj oQ aj aj hoc h8 (Bl _ _ _ 2 1 1 aj) h63 hby ?_);intro v2 w5 hS5 hne;obtain ⟨ab,an,ac,rfl⟩:=hne (by simp);have e2:=hS5.aY.cellAt 2 _ rfl;have g2:=hS5.aY.oL 2);have hS6:=hS5.aY.set 2 (.slice (some ⟨ab,0,none⟩) an ac);generalize w5.setCell _ _=w6 at *
    go_roundg (M.list.length - (j+1))
    case measure=>have:=hjl.out;omega
    case rel=>
     refine ⟨j+1,.slice (some ⟨ab,0,none⟩) an ac,rfl,adi hjl.out,by first|rfl|go_num,?_⟩;rw [ny.out,Hb.out,acr rfl];unfold Cb;rw [Bz];exact hS6
  ·obtain rfl:j=M.list.length:=by omega
   have hic:¬ (M.list.length:Int)<(M.list.length:Int):=by omega
   rw [adk]at hR;clear hj hj';go_wp2
   go_ret2
   refine ⟨_,rfl,q,rfl,?_⟩;exact aK.shut (hR.sel 4 [0,1,3] rfl rfl)
end
section
variable {P:Program}{w0 w:World}{R:List aH}{v x:Value}{xs ys:List Value}
theorem aky (t ty e:TypeId) (i:TypeInfo) (z:Value) (ht:P.underlying t=some (.slice e)) (hi:P.info? e=some i) (hz:i.zero=some z)
  (hs:i.size=1) (hzs:z.cells.size=1) (b n cap:Nat) (hl:xs.length=n) (hcap:cap≤n) (hold:bG 1 (.slice (some ⟨b,0,none⟩) n cap) xs w)
  (h:Sat w0 w R) (hx:bG 1 x ys w) (hy0:ys≠[]) (h63:xs.length+ys.length≤maxLen) (hby:(xs.length+ys.length) * i.bytes≤140737488355328) :
  ∃ b' n' c' w',(Builtin.append_ #[t,t] ty #[.slice (some ⟨b,0,none⟩) n cap,x]).run P w = .ok (.slice (some ⟨b',0,none⟩) n' c') w'∧Sat w0 w' (aB e 1 (.slice (some ⟨b',0,none⟩) n' c') (xs++ys)::R):=by
 obtain ⟨xa,m,c,rfl,hyl,yx⟩:=hx;obtain ⟨b1,n1,c1,he1,hol,hoc⟩:=hold;cases he1;rw [adb]at hyl;have hm:0<m:=by
  rw [← hyl];exact amK.2 hy0
 obtain ⟨ad,rfl⟩:∃ ad,xa=some ad:=by
  obtain ⟨y,hy⟩:∃ y,ys[0]?=some y:=by
   cases ys with
   |nil=>exact absurd rfl hy0
   |cons y _=>exact ⟨y,rfl⟩
  obtain ⟨b,hb,_⟩:=yx 0 y hy;exact ⟨b,hb⟩
 have hnews:∀ j u,ys[j]?=some u→w.cell? (ad.add j)=some u:=fun j u hj=>by
  obtain ⟨b,hb,hx⟩:=yx j u hj;cases hb;exact hx
 have holds:∀ j u,xs[j]?=some u→w.cell? ((⟨b,0,none⟩:Addr).add j)=some u:=fun j u hj=>by
  obtain ⟨b',hb,hx⟩:=hoc j u hj;cases hb;exact hx
 have h63':maxLen=9223372036854775807:=rfl;have hr:=run_append_grow (P:=P) w t ty e i z ht hi hz ⟨b,0,none⟩ n cap xs (by rw [hs];omega) holds ad m c ys (by rw [hs];omega) hnews oQ oQ (growslice_fits oQ (by rw [← hl,← hyl];exact hby));refine ⟨_,_,_,_,hr,?_⟩;have hge:=grownCap_ge w (n+m) cap e;have hcm:=grownCap_le_maxLen w (n+m) cap e oQ;have:=(h.drew).alloc (.cells (xs.toArray++ys.toArray++Builtin.zeroCells z.cells (grownCap w (n+m) cap e - (n+m))) e);refine Sat.kR this ?_ hge ?_ hcm ?_
 ·rw [aaK,hl,hyl,adb]
 ·simp only [Array.size_append,abX,size_zeroCells,hzs];omega
 ·simp only [aoo,acD];rw [← acD];have e1:(n+m) * 1=(xs++ys).length:=by rw [aaK,hl,hyl,adb]
  rw [e1];exact List.take_left
theorem alU {ops:Array Oper}{o:Oper}{a:Act}{K:Act→World→Prop}{Q:Exit→Act→World→Prop}{E:Prop} (hgd:o.guard=none) (s y:Operand) (t:TypeId)
  (ho:o.op = .call { callee:= .builtin .append,args:=#[s,y],argTypes:=#[t,t] })
  (e:TypeId) (i:TypeInfo) (z:Value) (ht:P.underlying t=some (.slice e)) (hi:P.info? e=some i) (hz:i.zero=some z)
  (hs:i.size=1) (hzs:z.cells.size=1) {b n cap:Nat} (hl:xs.length=n) (hcap:cap≤n) (hold:bG 1 (.slice (some ⟨b,0,none⟩) n cap) xs w)
  (h:Sat w0 w R) (hv:a.eval s = .slice (some ⟨b,0,none⟩) n cap) (hxv:a.eval y=x) (hx:bG 1 x ys w) (hy0:ys≠[]) (h63:xs.length+ys.length≤maxLen) (hby:(xs.length+ys.length) * i.bytes≤140737488355328)
  (hK:∀ b' n' c' w',Sat w0 w' (aB e 1 (.slice (some ⟨b',0,none⟩) n' c') (xs++ys)::R)→K (a.put o.dst (.slice (some ⟨b',0,none⟩) n' c')) w') :
  if Region.wanted o (yielded ops a.tmps)=true then Oper.wp P o a w K Q else E:=by
 have hw:Region.wanted o (yielded ops a.tmps)=true:=by simp [Region.wanted,hgd]
 rw [acr hw];obtain ⟨b',n',c',w',hr,h2⟩:=aky (P:=P) t o.type e i z ht hi hz hs hzs b n cap hl hcap hold h hx hy0 h63 hby;unfold Oper.wp execOp;simp only [ho,resolve,invoke,builtin,acN,ac1,acB,aes,acS,adw,hv,hxv,hr];exact hK _ _ _ w' h2
end
section
variable {w0 w:World}{F:List aH}{v bv dv x lv:Value}{q p m K:Nat}{L:Seg.Log}{M:ay}
theorem tu (h:Sat w0 w (mF p m L lv::F)) :
  Calls Tryz.prog 45 #[ptr p] w (aP fun v w'=>v = .bool true∧w=w'):=by
 have c0:=h.cellAt 0 _ rfl;go_enter Tryz.func45,Tryz.ntmps45;go_wp2;go_ret;exact ⟨_,rfl,rfl,rfl⟩
theorem aiD (hl:L.l=[]) (h:Sat w0 w (mF p m L lv::aB 105 2 lv (eF L.l)::F)) :
  Calls Tryz.prog 171 #[ptr p] w (aP fun v w'=>v = .int .i64 0∧w=w'):=by
 have hok:=tu h;have c2:=h.cellAt 2 _ rfl;have hlv:∃ a c,lv = .slice a 0 c:=by
  obtain ⟨a,n,c,rfl,hn,_⟩:=Sat.rd h.aY;refine ⟨a,c,?_⟩;rw [hl]at hn;have:n=0:=by simp [eF]at hn;omega
  rw [this]
 obtain ⟨la,lc,rfl⟩:=hlv;go_enter Tryz.func171,Tryz.ntmps171;go_wp2_with (go_at_call 45;refine hok.mono ?_;rintro e w1 ⟨v,rfl,rfl,rfl⟩);go_ret;exact ⟨_,rfl,rfl,rfl⟩
theorem alx (hon:L.on=false) (h:Sat w0 w (mF p m L lv::F)) :
  Calls Tryz.prog 170 #[ptr p] w (aP fun v w'=>v=errno 0∧w=w'):=by
 have c3:=h.cellAt 3 _ rfl;rw [hon]at c3;go_enter Tryz.func170,Tryz.ntmps170;go_wp2;go_ret;exact ⟨_,rfl,rfl,rfl⟩
end
section
variable {P:Program}{w0 w:World}{R:List aH}{b:Nat}
def eu (cs:Array Value):Nat→List Value→Array Value
 |_,[]=>cs
 |o,v::r=>eu (cs.setIfInBounds o v) (o+1) r
theorem kE:∀ (vs:List Value) (cs:Array Value) (o:Nat),(eu cs o vs).size=cs.size
 |[],_,_=>rfl
 |v::r,cs,o=>by rw [eu,kE r,Array.size_setIfInBounds]
theorem Sat.sets:∀ (vs:List Value){cs:Array Value}{T:TypeId}{w:World} (o:Nat),Sat w0 w (pt b (.cells cs T (0,0))::R)→Sat w0 (w.setCells b o vs) (pt b (.cells (eu cs o vs) T (0,0))::R)
 |[],_,_,_,_,h=>h
 |v::r,_,_,_,o,h=>Sat.sets r (o+1) (h.set o v)
theorem GV {ops:Array Oper}{rest:List Oper}{op:Oper}{a:Act}{Q:Exit→Act→World→Prop}{cs:Array Value}{T:TypeId} (hgd:op.guard=none) (ty:TypeId) (x y:Operand) (ho:op.op = .store ty x y)
  (o:Nat) (v:Value) (hx:a.eval x = .pointer (some ⟨b,o,none⟩)) (hy:a.eval y=v) (hfit:o+v.cells.size≤cs.size)
  (hi:(P.info? ty).map (·.size)=some v.cells.size) (h1:v.cells.all (·.oneCell')=true) (h:Sat w0 w (pt b (.cells cs T (0,0))::R))
  (hK:∀ w',Sat w0 w' (pt b (.cells (eu cs o v.cells.toList) T (0,0))::R)→wpList P ops Q rest (a.put op.dst undef) w'):wpList P ops Q (op::rest) a w:=by
 have hth:w.there b o v.cells.size:=by
  intro j hj;refine ⟨?_,h.oL _⟩;rw [h.cellAt (o+j) _ (aib (show o+j<cs.size by omega))]
  rfl
 refine aeB hgd fun _ hK'=>?_
 have hst:=run_storeCells_cells (P:=P) b o v.cells.toList 0 w (fun j hj=>by simpa using (hth j (by simpa using hj)).1) (fun j hj=>by simpa using (hth j (by simpa using hj)).2)
  (fun u hu=>(Array.all_eq_true_iff_forall_mem.1 h1) u (by simpa using hu))
 have hrun:(storeVar ty ⟨b,o,none⟩ v).run P w = .ok () (w.setCells b o v.cells.toList):=by
  cases hq:P.info? ty with
  |none=>simp [hq]at hi
  |some i=>
   have hs:v.cells.size=i.size:=by simp [hq]at hi;omega
   simp only [aif]at hst;simp [storeVar,sizeOf,typeInfo,hq,hs,hst]
 unfold Oper.wp execOp;simp only [ho,hx,hy,Instr.storeAt,Instr.sureAddr,acN,ac1,acB,hrun];exact hK' _ _ (hK _ (Sat.sets _ _ h))
structure Stop (p:Prop):Prop where
 out:p
theorem am0 {ops:Array Oper}{rest:List Oper}{op:Oper}{a:Act}{Q:Exit→Act→World→Prop}{ty:TypeId}{x y:Operand} (ho:op.op = .store ty x y)
  (h:Stop (wpList P ops Q (op::rest) a w)):wpList P ops Q (op::rest) a w:=h.out
end
end Go.Proofs.YtihngncbioofnaaGreatDoor
namespace Go.Sl
open Go
def Pick (A:aH) (L R:List aH):Prop:=L.Perm (A::R)
def oI (A B:aH) (L L':List aH):Prop:=∃ R,L.Perm (A::R)∧L'.Perm (B::R)
def Sub (L M:List aH):Prop:=∃ X,L.Perm (M++X)
section
variable {A B A1 A2 A3 A4 A5 A6 A7 A8 A9 A10 A11 A12:aH}{L M R L':List aH}{w0 w:World}
theorem aT (h:Pick A L R):Pick A (B::L) (B::R):=(h.cons B).trans (List.Perm.swap _ _ _)
theorem aV:Pick A (A::R) R:=anr _
theorem aY:Pick A (A1::A::R) (A1::R):=aT aV
theorem eH:Pick A (A1::A2::A::R) (A1::A2::R):=aT aY
theorem iJ:Pick A (A1::A2::A3::A::R) (A1::A2::A3::R):=aT eH
theorem rJ:Pick A (A1::A2::A3::A4::A::R) (A1::A2::A3::A4::R):=aT iJ
theorem jh (h:oI A B L L'):oI A B (A1::L) (A1::L'):=by
 obtain ⟨R,h1,h2⟩:=h;exact ⟨A1::R,(h1.cons A1).trans (List.Perm.swap _ _ _),(h2.cons A1).trans (List.Perm.swap _ _ _)⟩
theorem cZ:oI A B (A::R) (B::R):=⟨R,anr _,anr _⟩
theorem RN:oI A B (A1::A::R) (A1::B::R):=jh cZ
theorem amA:oI A B (A1::A2::A::R) (A1::A2::B::R):=jh RN
theorem RD:Sub L L:=⟨[],by simp⟩
theorem Rz (h:Sub L M):Sub (A::L) M:=by
 obtain ⟨X,h⟩:=h;exact ⟨A::X,(h.cons A).trans anV.symm⟩
theorem RG (p:Pick A L R) (h:Sub R M):Sub L (A::M):=by
 obtain ⟨X,h⟩:=h;exact ⟨X,p.trans (h.cons A)⟩
theorem Sat.pick (h:Sat w0 w L) (p:Pick A L R):Sat w0 w (A::R):=h.perm p
theorem Sat.sub (h:Sat w0 w L) (p:Sub L M):Sat w0 w M:=by
 obtain ⟨X,h2⟩:=p;exact (h.perm h2).V6
theorem Ro.oV {A:aH}{p:World→Prop} (h:Ro w0 (A::R) p) (k:Pick A L R):Ro w0 L p:=fun w hw=>h w (hw.pick k)
theorem Ro.of_sub {p:World→Prop} (h:Ro w0 M p) (k:Sub L M):Ro w0 L p:=fun w hw=>h w (hw.sub k)
theorem Sat.cellP {b:Nat}{cs:Array Value}{T:TypeId} (h:Sat w0 w L) (p:Pick (pt b (.cells cs T (0,0))) L R) (i:Nat){v:Value} (hv:cs[i]?=some v):w.cell? ⟨b,i,none⟩=some v:=(h.pick p).cellAt i v hv
end
end Go.Sl
namespace Go.Proofs.YtihngncbioofnaaGreatDoor
open Go Go.Sl Go.ay Go.MapKept Go.RowKit
section
variable {P:Program}{w0 w:World}{L L' R:List aH}{b:Nat}{ops:Array Oper}{rest:List Oper}{a:Act}{Q:Exit→Act→World→Prop}
variable {dst:Option Tmp}{t ty T:TypeId}{pos:String}{after:Array Edge}{x y:Operand}{cs:Array Value}{v:Value}{o:Nat}
def yH (P:Program) (ty:TypeId):Bool:=match P.underlying ty with
 |some d => !d.isRow
 |none=>false
theorem akL (h1:yH P ty=true) (hc:w.cell? ⟨b,o,none⟩=some v):(loadVar ty ⟨b,o,none⟩).run P w = .ok v w:=by
 unfold yH at h1;cases hu:P.underlying ty with
 |none=>rw [hu]at h1;cases h1
 |some d=>
  rw [hu]at h1;have hagg:(isAgg ty).run P w = .ok false w:=by
   unfold isAgg;rw [acN,agK hu w];cases d <;> simp_all [TypeDesc.isRow]
  simp [loadVar,acN,hagg];rw [hc]
theorem aaS {ad:Addr} (h1:yH P ty=true) (hc:w.cell? ad=some v):(loadVar ty ad).run P w = .ok v w:=by
 unfold yH at h1;cases hu:P.underlying ty with
 |none=>rw [hu]at h1;cases h1
 |some d=>
  rw [hu]at h1;have hagg:(isAgg ty).run P w = .ok false w:=by
   unfold isAgg;rw [acN,agK hu w];cases d <;> simp_all [TypeDesc.isRow]
  simp [loadVar,acN,hagg];rw [hc]
theorem WC (a:Act) (after:Array Edge) (g:Option (Nat×Bool)):execOp a.eval ⟨dst,.call { callee:= .builtin .len,args:=#[x],argTypes:=#[ty] },t,pos,after,g⟩=(do pure (.value (← Builtin.len_ #[ty] t #[a.eval x]))):=by
 rw [BigFrame.execOp_builtin,BigFrame.builtin_len];simp
theorem agu {i:Nat} (hlt:i+1≤cs.size) (hv:cs.getD i undef=v):cs[i]?=some v:=by
 rw [← hv,ai8,aib (show i<cs.size by omega)];rfl
theorem gu (hs:Sat w0 w L) (hx:a.eval x = .pointer (some ⟨b,o,none⟩)) (p:Pick (pt b (.cells cs T (0,0))) L R) (hlt:o+1≤cs.size) (hv:cs.getD o undef=v) (h1:yH P ty=true)
  (h:wpList P ops Q rest (a.put dst v) w):wpList P ops Q (⟨dst,.load ty x,t,pos,after,none⟩::rest) a w:=
 aeB rfl fun _ hK=>by
  unfold Oper.wp execOp;simp only [hx,Instr.loadAt,Instr.sureAddr,acN,ac1,acB,akL h1 (hs.cellP p o (agu hlt hv))];exact hK _ _ h
theorem DW (ks:List Value) (hs:Sat w0 w L) (hx:a.eval x = .pointer (some ⟨b,o,none⟩)) (p:Pick (pt b (.cells cs T (0,0))) L R) (hv:∀ j v,ks[j]?=some v→cs[o+j]?=some v)
  {d:TypeDesc} (hu:P.underlying ty=some d) (hd:d.isRow=true) (hi:(P.info? ty).map (·.size)=some ks.length)
  (h:wpList P ops Q rest (a.put dst (.agg ks.toArray)) w):wpList P ops Q (⟨dst,.load ty x,t,pos,after,none⟩::rest) a w:=
 wpList_load_mid rfl ty x rfl b o hx ks d (fun j v hj=>hs.cellP p (o+j) (hv j v hj)) hu hd hi h
theorem iW (hs:Sat w0 w L) (hx:a.eval x = .pointer (some ⟨b,0,none⟩)) (p:Pick (pt b (.cells cs T (0,0))) L R){d:TypeDesc} (hu:P.underlying ty=some d) (hd:d.isRow=true) (hi:(P.info? ty).map (·.size)=some cs.size)
  (h:wpList P ops Q rest (a.put dst (.agg cs)) w):wpList P ops Q (⟨dst,.load ty x,t,pos,after,none⟩::rest) a w:=by
 refine wpList_load_row rfl ty x rfl b hx T cs (0,0) d (hs.pick p).at hu ?_ hi h;cases d <;> simp_all [TypeDesc.isRow]
theorem fG (hs:Sat w0 w L) (hx:a.eval x = .pointer (some ⟨b,o,none⟩)) (hy:a.eval y=v){cs':Array Value} (hcs:eu cs o v.cells.toList=cs') (u:oI (pt b (.cells cs T (0,0))) (pt b (.cells cs' T (0,0))) L L') (hfit:o+v.cells.size≤cs.size)
  (hi:(P.info? ty).map (·.size)=some v.cells.size) (h1:v.cells.toList.all (·.oneCell')=true)
  (hK:∀ w',Sat w0 w' L'→wpList P ops Q rest (a.put dst undef) w'):wpList P ops Q (⟨dst,.store ty x y,t,pos,after,none⟩::rest) a w:=by
 subst hcs;obtain ⟨R',h2,h3⟩:=u;exact GV rfl ty x y rfl o v hx hy hfit hi (by rw [← Array.all_toList];exact h1) (hs.perm h2) fun w' hS=>hK w' (hS.perm h3.symm)
theorem fM (hs:Sat w0 w L) (hy:a.eval y=v) (hcs:v.cells=cs)
  (hK:∀ b w',Sat w0 w' (pt b (.cells cs ty (0,0))::L)→wpList P ops Q rest (a.put dst (.pointer (some ⟨b,0,none⟩))) w'):wpList P ops Q (⟨dst,.box ty y,t,pos,after,none⟩::rest) a w:=by
 subst hcs;refine aeB rfl fun _ hK'=>?_;have hS:=hs.alloc (.cells v.cells ty);unfold Oper.wp execOp;have hrun:(Instr.box ty v).run P w = .ok (.pointer (some ⟨w.heap.size,0,none⟩)) (w.alloc (.cells v.cells ty)):=by
  simp [Instr.box,newVar,newRow,go_sem]
 simp only [hy,acN,ac1,hrun,acB];exact hK' _ _ (hK _ _ hS)
def jr (P:Program) (ty:TypeId):Option Value:=(P.info? ty).bind (·.zero)
theorem Kr (hz:jr P ty=some v) (w:World):(zeroValue ty).run P w = .ok v w:=by
 unfold jr at hz;cases hq:P.info? ty with
 |none=>simp [hq]at hz
 |some i=>
  rw [hq]at hz;have hz':i.zero=some v:=hz;simp [zeroValue,typeInfo,hq,hz']
theorem fF (hz:jr P ty=some v) (hs:Sat w0 w L) (hcs:v.cells=cs)
  (hK:∀ b w',Sat w0 w' (pt b (.cells cs ty (0,0))::L)→wpList P ops Q rest (a.put dst (.pointer (some ⟨b,0,none⟩))) w'):wpList P ops Q (⟨dst,.alloc ty,t,pos,after,none⟩::rest) a w:=by
 subst hcs;refine aeB rfl fun _ hK'=>?_;have hS:=hs.alloc (.cells v.cells ty);unfold Oper.wp execOp;have hrun:(Instr.alloc ty true (.tuple #[])).run P w = .ok (.pointer (some ⟨w.heap.size,0,none⟩)) (w.alloc (.cells v.cells ty)):=by
  simp [Instr.alloc,Kr hz w,newVar,newRow,go_sem,Result.andThen]
 simp only [acN,ac1,hrun,acB];exact hK' _ _ (hK _ _ hS)
theorem og {fn:Func}{p u:Tmp}{tmps:Array Value}{d:TypeDesc} (hf:fn.results=#[.cell p ty,.tmp u]) (hs:Sat w0 w L) (hp:tmps.getD p undef = .pointer (some ⟨b,0,none⟩)) (k:Pick (pt b (.cells cs T (0,0))) L R)
  (hu:P.underlying ty=some d) (hd:d.isRow=true) (hi:(P.info? ty).map (·.size)=some cs.size) :
  (results fn tmps).run P w = .ok (.tuple #[.agg cs,tmps.getD u undef]) w:=by
 rw [results_cell_tmp hf tmps P w,hp];have hl:=run_loadVar_row (P:=P) w b T ty cs (0,0) d (hs.pick k).at hu (by cases d <;> simp_all [TypeDesc.isRow]) hi;simp [asAddr,hl,Result.andThen]
theorem aK.shut2 {p m:Nat}{L:Seg.Log}{lv:Value}{F:List aH} (h:Sat w0 w (mF p m L lv::aB 105 2 lv (eF L.l)::F)):Sat w0 w (aK p m L::F):=aK.shut h
theorem aK.oW {p m:Nat}{L:Seg.Log}{F:List aH} (h:Sat w0 w (aK p m L::F)):∃ lv,Sat w0 w (mF p m L lv::aB 105 2 lv (eF L.l)::F):=aK.open h
theorem lg:∀ (ys:List Value) (cs:Array Value) (o:Nat),o+ys.length≤cs.size→(eu cs o ys).toList=cs.toList.take o++ys++cs.toList.drop (o+ys.length)
 |[],cs,o,h=>by simp [eu]
 |y::ys,cs,o,h=>by
  simp only [ac5]at h;rw [eu,lg ys _ (o+1) (by rw [Array.size_setIfInBounds];omega),Array.toList_setIfInBounds];have hlt:o<cs.toList.length:=by simp;omega
  rw [List.set_eq_take_append_cons_drop,acr hlt];have h1:(cs.toList.take o).length=o:=by rw [acA];omega
  rw [List.take_append,h1,acX oQ,show o+1 - o=1 by omega,List.take_succ_cons,adH];rw [aou,h1,adp (l:=cs.toList.take o) oQ,adl,show o+1+ys.length - o=ys.length+1 by omega,aop,aol];simp only [ac5,acD,adA,adl];rw [show o+1+ys.length=o+(ys.length+1) by omega]
theorem bI (h:Stop (wpList P ops Q (⟨dst,.load ty x,t,pos,after,none⟩::rest) a w)):wpList P ops Q (⟨dst,.load ty x,t,pos,after,none⟩::rest) a w:=h.out
theorem cO (h:Stop (wpList P ops Q (⟨dst,.store ty x y,t,pos,after,none⟩::rest) a w)):wpList P ops Q (⟨dst,.store ty x y,t,pos,after,none⟩::rest) a w:=h.out
theorem fK (h:Stop (wpList P ops Q (⟨dst,.box ty y,t,pos,after,none⟩::rest) a w)):wpList P ops Q (⟨dst,.box ty y,t,pos,after,none⟩::rest) a w:=h.out
theorem gq (h:Stop (wpList P ops Q (⟨dst,.alloc ty,t,pos,after,none⟩::rest) a w)):wpList P ops Q (⟨dst,.alloc ty,t,pos,after,none⟩::rest) a w:=h.out
theorem pI {ix:Nat}{k:Nat} (h:Stop (wpList P ops Q (⟨dst,.buildSlice ty k #[(ix,x)],t,pos,after,none⟩::rest) a w)):wpList P ops Q (⟨dst,.buildSlice ty k #[(ix,x)],t,pos,after,none⟩::rest) a w:=h.out
theorem lX {s z:Operand}{ta tb:TypeId} (h:Stop (wpList P ops Q (⟨dst,.call { callee:= .builtin .append,args:=#[s,z],argTypes:=#[ta,tb] },t,pos,after,none⟩::rest) a w)):wpList P ops Q (⟨dst,.call { callee:= .builtin .append,args:=#[s,z],argTypes:=#[ta,tb] },t,pos,after,none⟩::rest) a w:=h.out
section
variable {vx vy:Value}{ad:Addr}{fl:Nat}{bo:BinOp}{uo:UnOp}{tz:TypeId}{G:World→Prop}
theorem lI (o:Oper) (h:o.guard=none):Region.wanted o (yielded ops a.tmps)=true:=by simp [Region.wanted,h]
theorem zi (hx:a.eval x=v):Yields P ops ⟨dst,.move x,t,pos,after,none⟩ v a:=
 .inl ⟨lI _ rfl,fun w=>by simp only [execOp,hx];rfl⟩
theorem y8 (hx:a.eval x=v):Yields P ops ⟨dst,.assign x,t,pos,after,none⟩ v a:=
 .inl ⟨lI _ rfl,fun w=>by simp only [execOp,hx];rfl⟩
theorem zk (hx:a.eval x = .pointer (some ad)):Yields P ops ⟨dst,.nilCheck x,t,pos,after,none⟩ (.pointer (some ad)) a:=
 .inl ⟨lI _ rfl,fun w=>by simp only [execOp,hx];rfl⟩
theorem zf (hx:a.eval x=vx) (hr:∀ w,(Instr.fieldAt ty vx fl).run P w = .ok v w):Yields P ops ⟨dst,.fieldAddr ty x fl,t,pos,after,none⟩ v a:=
 .inl ⟨lI _ rfl,fun w=>by simp only [execOp,hx,acN,hr,acB,ac1]⟩
theorem zh (hx:a.eval x=vx) (hy:a.eval y=vy) (hr:∀ w,(Instr.indexAt ty vx vy).run P w = .ok v w):Yields P ops ⟨dst,.indexAddr ty x y,t,pos,after,none⟩ v a:=
 .inl ⟨lI _ rfl,fun w=>by simp only [execOp,hx,hy,acN,hr,acB,ac1]⟩
theorem qG (hx:a.eval x=vx) (hy:a.eval y=vy) (hr:∀ w,((do eqGuard bo ty x y vx vy;binOp bo ty vx vy):Sem Value).run P w = .ok v w):Yields P ops ⟨dst,.binOp bo ty x y tz,t,pos,after,none⟩ v a:=
 .inl ⟨lI _ rfl,fun w=>by simp only [execOp,hx,hy,acN (x:=(do eqGuard bo ty x y vx vy;binOp bo ty vx vy)),hr,acB,ac1]⟩
theorem wL (hx:a.eval x=vx) (hr:∀ w,(Op.unary uo vx).run P w = .ok v w):Yields P ops ⟨dst,.unOp uo ty x,t,pos,after,none⟩ v a:=
 .inl ⟨lI _ rfl,fun w=>by simp only [execOp,hx,acN,hr,acB,ac1]⟩
theorem y9 (hx:a.eval x=vx) (hr:∀ w,(convert ty tz vx).run P w = .ok v w):Yields P ops ⟨dst,.convert ty tz x,t,pos,after,none⟩ v a:=
 .inl ⟨lI _ rfl,fun w=>by simp only [execOp,hx,acN,hr,acB,ac1]⟩
theorem fC (hx:a.eval x=vx) (hr:∀ w,(Instr.extract vx fl).run P w = .ok v w):Yields P ops ⟨dst,.extract x fl,t,pos,after,none⟩ v a:=
 .inl ⟨lI _ rfl,fun w=>by simp only [execOp,hx,acN,hr,acB,ac1]⟩
theorem o8 (hx:a.eval x=vx) (hr:∀ w,(Builtin.len_ #[ty] t #[vx]).run P w = .ok v w):Yields P ops ⟨dst,.call { callee:= .builtin .len,args:=#[x],argTypes:=#[ty] },t,pos,after,none⟩ v a:=
 .inl ⟨lI _ rfl,fun w=>by
  rw [WC,hx];simp only [acN,hr,acB,ac1]⟩
theorem amk (hx:a.eval x = .pointer (some ad)) (h1:yH P ty=true) (hG:∀ w,G w→w.cell? ad=some v):YieldsIf P ops G ⟨dst,.load ty x,t,pos,after,none⟩ v a:=
 .inl ⟨lI _ rfl,fun w hw=>by
  obtain ⟨b,o,el⟩:=ad;have hc:=hG w hw;simp only [execOp,hx,Instr.loadAt,Instr.sureAddr,acN,ac1,acB,aaS h1 hc]⟩
def goB (P:Program) (f:FuncId):Bool:=match P.funcs[f]? with
 |some fn => !(fn.name == "runtime.NumGoroutine") && fn.body.isSome
 |none=>false
theorem akI {f:FuncId} (h:goB P f=true) (args:Array Value) (w:World):(callFunc f args).run P w = .ok (.enter f args) w:=by
 unfold goB at h;cases hf:P.funcs[f]? with
 |none=>rw [hf]at h;cases h
 |some fn=>
  rw [hf]at h;simp only [adg,aoE]at h;obtain ⟨h1,h2⟩:=h;obtain ⟨c,hc⟩:=Option.isSome_iff_exists.1 h2;have h1':fn.name ≠ "runtime.NumGoroutine" := by simpa using h1
  simp [callFunc,hf,h1',hc]
def Upon (K:Act→World→Prop) (Q:Exit→Act→World→Prop) (a:Act) (dst:Option Tmp) (e:Ending) (w:World):Prop:=
 match e with
 |.returned v=>K (a.put dst v) w
 |.panicked chain=>Q (.panic chain) a w
 |.outgrown=>LetsOut Q
theorem xK {f:FuncId}{xs:Array Operand}{ts:Array TypeId}{K:Act→World→Prop}{E:Prop} (vs:List Value) (hf:goB P f=true) (hv:xs.toList.map a.eval=vs)
  (h:Calls P f vs.toArray w (Upon K Q a dst)):if Region.wanted ⟨dst,.call { callee:= .value (.func f),args:=xs,argTypes:=ts },t,pos,after,none⟩ (yielded ops a.tmps)=true then
   Oper.wp P ⟨dst,.call { callee:= .value (.func f),args:=xs,argTypes:=ts },t,pos,after,none⟩ a w K Q else E:=by
 rw [acr (lI _ rfl)];unfold Oper.wp;have e1:(#[]++xs.map a.eval++#[]:Array Value)=vs.toArray:=by
  rw [← hv];cases xs;simp
 rw [execOp_call_go,e1,akI hf,Oper.upon_enter];exact h.mono fun e w' he=>by cases e <;> exact he
theorem oJ {f:FuncId}{x1:Operand}{v1:Value}{ts:Array TypeId}{K:Act→World→Prop}{E:Prop} (hf:goB P f=true) (h1:a.eval x1=v1)
  (h:Calls P f #[v1] w (Upon K Q a dst)):if Region.wanted ⟨dst,.call { callee:= .value (.func f),args:=#[x1],argTypes:=ts },t,pos,after,none⟩ (yielded ops a.tmps)=true then
   Oper.wp P ⟨dst,.call { callee:= .value (.func f),args:=#[x1],argTypes:=ts },t,pos,after,none⟩ a w K Q else E:=
 xK [v1] hf (by simp [h1]) h
theorem gZ {f:FuncId}{x1 x2:Operand}{v1 v2:Value}{ts:Array TypeId}{K:Act→World→Prop}{E:Prop} (hf:goB P f=true) (h1:a.eval x1=v1) (h2:a.eval x2=v2)
  (h:Calls P f #[v1,v2] w (Upon K Q a dst)):if Region.wanted ⟨dst,.call { callee:= .value (.func f),args:=#[x1,x2],argTypes:=ts },t,pos,after,none⟩ (yielded ops a.tmps)=true then
   Oper.wp P ⟨dst,.call { callee:= .value (.func f),args:=#[x1,x2],argTypes:=ts },t,pos,after,none⟩ a w K Q else E:=
 xK [v1,v2] hf (by simp [h1,h2]) h
theorem xM {f:FuncId}{x1 x2 x3:Operand}{v1 v2 v3:Value}{ts:Array TypeId}{K:Act→World→Prop}{E:Prop} (hf:goB P f=true) (h1:a.eval x1=v1) (h2:a.eval x2=v2) (h3:a.eval x3=v3)
  (h:Calls P f #[v1,v2,v3] w (Upon K Q a dst)):if Region.wanted ⟨dst,.call { callee:= .value (.func f),args:=#[x1,x2,x3],argTypes:=ts },t,pos,after,none⟩ (yielded ops a.tmps)=true then
   Oper.wp P ⟨dst,.call { callee:= .value (.func f),args:=#[x1,x2,x3],argTypes:=ts },t,pos,after,none⟩ a w K Q else E:=
 xK [v1,v2,v3] hf (by simp [h1,h2,h3]) h
theorem afC {f:FuncId}{x1 x2 x3 x4:Operand}{v1 v2 v3 v4:Value}{ts:Array TypeId}{K:Act→World→Prop}{E:Prop} (hf:goB P f=true) (h1:a.eval x1=v1) (h2:a.eval x2=v2) (h3:a.eval x3=v3) (h4:a.eval x4=v4)
  (h:Calls P f #[v1,v2,v3,v4] w (Upon K Q a dst)):if Region.wanted ⟨dst,.call { callee:= .value (.func f),args:=#[x1,x2,x3,x4],argTypes:=ts },t,pos,after,none⟩ (yielded ops a.tmps)=true then
   Oper.wp P ⟨dst,.call { callee:= .value (.func f),args:=#[x1,x2,x3,x4],argTypes:=ts },t,pos,after,none⟩ a w K Q else E:=
 xK [v1,v2,v3,v4] hf (by simp [h1,h2,h3,h4]) h
theorem Ak (h:Stop (Yields P ops ⟨dst,.move x,t,pos,after,none⟩ v a)):Yields P ops ⟨dst,.move x,t,pos,after,none⟩ v a:=h.out
theorem Ad (h:Stop (Yields P ops ⟨dst,.assign x,t,pos,after,none⟩ v a)):Yields P ops ⟨dst,.assign x,t,pos,after,none⟩ v a:=h.out
theorem Am (h:Stop (Yields P ops ⟨dst,.nilCheck x,t,pos,after,none⟩ v a)):Yields P ops ⟨dst,.nilCheck x,t,pos,after,none⟩ v a:=h.out
theorem Ah (h:Stop (Yields P ops ⟨dst,.fieldAddr ty x fl,t,pos,after,none⟩ v a)):Yields P ops ⟨dst,.fieldAddr ty x fl,t,pos,after,none⟩ v a:=h.out
theorem Ai (h:Stop (Yields P ops ⟨dst,.indexAddr ty x y,t,pos,after,none⟩ v a)):Yields P ops ⟨dst,.indexAddr ty x y,t,pos,after,none⟩ v a:=h.out
theorem Ae (h:Stop (Yields P ops ⟨dst,.binOp bo ty x y tz,t,pos,after,none⟩ v a)):Yields P ops ⟨dst,.binOp bo ty x y tz,t,pos,after,none⟩ v a:=h.out
theorem Ap (h:Stop (Yields P ops ⟨dst,.unOp uo ty x,t,pos,after,none⟩ v a)):Yields P ops ⟨dst,.unOp uo ty x,t,pos,after,none⟩ v a:=h.out
theorem Af (h:Stop (Yields P ops ⟨dst,.convert ty tz x,t,pos,after,none⟩ v a)):Yields P ops ⟨dst,.convert ty tz x,t,pos,after,none⟩ v a:=h.out
theorem Ag (h:Stop (Yields P ops ⟨dst,.extract x fl,t,pos,after,none⟩ v a)):Yields P ops ⟨dst,.extract x fl,t,pos,after,none⟩ v a:=h.out
theorem Aj (h:Stop (Yields P ops ⟨dst,.call { callee:= .builtin .len,args:=#[x],argTypes:=#[ty] },t,pos,after,none⟩ v a)):Yields P ops ⟨dst,.call { callee:= .builtin .len,args:=#[x],argTypes:=#[ty] },t,pos,after,none⟩ v a:=h.out
variable {late:List Nat}{i n:Nat}{oi:Oper}{l:Array Bool}
theorem Qx (i:Nat) (hi:ops.toList[i]?=some oi) (hc:(Region.noSelect ops && Region.free .any ops l i && (Region.ready .any ops l).contains i && uX ops l)=true)
  (hQ:∀ c a w,Q (.panic c) (a.put oi.dst v) w→Q (.panic c) a w) (hy:Yields P ops oi v a) {a':Act} (ha:a.put oi.dst v=a')
  (h:jm P ops Q late G n (l.setIfInBounds i true) a' w):jm P ops Q late G (n+1) l a w:=
 fO (by rw [← ah6];exact hi) hc hQ hy (by rw [ha];exact h)
theorem gV (i:Nat) (hi:ops.toList[i]?=some oi) (hc:(Region.noSelect ops && Region.free .any ops l i && (Region.ready .any ops l).contains i && Pg ops late i && uX ops l)=true)
  (hQ:∀ c a w,Q (.panic c) (a.put oi.dst v) w→Q (.panic c) a w) (hy:YieldsIf P ops G oi v a) (hG:G w) {a':Act} (ha:a.put oi.dst v=a')
  (h:jm P ops Q late G n (l.setIfInBounds i true) a' w):jm P ops Q late G (n+1) l a w:=
 pY (by rw [← ah6];exact hi) hc hQ hy hG (by rw [ha];exact h)
theorem bY (i:Nat) (hi:ops.toList[i]?=some oi) (hr:Region.ready .any ops l=[i])
  (h:∀ K:Act→World→Prop,(∀ a' w',keeps late G i w w'→jm P ops Q late G n (l.setIfInBounds i true) a' w'→K a' w') →
   if Region.wanted oi (yielded ops a.tmps)=true then Oper.wp P oi a w K Q else K (a.put oi.dst undef) w):jm P ops Q late G (n+1) l a w:=
 pX (by rw [← ah6];exact hi) hr h
end
section
variable {e:TypeId}{sz eY n c:Nat}{xs ys:List Value}{s:Operand}
def pG (P:Program) (t e:TypeId) (sz eY:Nat):Bool:=
 (match P.underlying t with|some (.slice e')=>e'==e|_=>false) &&
 (match P.info? e with
  |some i=>i.size==sz && i.bytes==eY && (match i.zero with|some z=>z.cells.size==sz|none=>false) && decide (0<sz)
  |none=>false)
theorem xE (h:pG P t e sz eY=true):P.underlying t=some (.slice e)∧∃ i z,P.info? e=some i∧i.zero=some z∧i.size=sz∧i.bytes=eY∧z.cells.size=sz∧0<sz:=by
 unfold pG at h;rw [adg]at h;obtain ⟨h1,h2⟩:=h;constructor
 ·split at h1
  ·rename_i e' he;rw [he];congr 2;simpa using h1
  ·cases h1
 ·split at h2
  ·rename_i i hi;simp only [adg,ai7,acF]at h2;obtain ⟨⟨⟨a1,a2⟩,a3⟩,a4⟩:=h2;split at a3
   ·rename_i z hz;exact ⟨i,z,hi,hz,a1,a2,by simpa using a3,a4⟩
   ·cases a3
  ·cases h2
theorem afW (cs zs:Array Value) (h:zs.size=cs.size):cs.zipIdx.foldl (fun acc (x:Value×Nat)=>acc.setIfInBounds (0+x.2) x.1) zs=cs:=by
 have key:∀ (k:Nat) (l:List Value) (acc:Array Value),acc.size=k+l.length→(∀ j,j<k→acc[j]?=cs[j]?)→(∀ j,l[j]?=cs[k+j]?)→k+l.length=cs.size →
   (l.zipIdx k).foldl (fun acc (x:Value×Nat)=>acc.setIfInBounds (0+x.2) x.1) acc=cs:=by
  intro k l
  induction l generalizing k with
  |nil=>
   intro acc h1 h2 _ h4;simp only [List.zipIdx_nil,List.foldl_nil];simp only [adF,aif]at h1 h4;apply Array.ext_getElem?;intro j;by_cases hj:j<k
   ·exact h2 j hj
   ·rw [aoa oQ,aoa oQ]
  |cons v l ih=>
   intro acc h1 h2 h3 h4;simp only [List.zipIdx_cons,List.foldl_cons];simp only [ac5]at h1 h4;rw [acT k];refine ih (k+1) (acc.setIfInBounds k v) (by rw [Array.size_setIfInBounds];omega) ?_ ?_ oQ
   ·intro j hj;by_cases hjk:j=k
    ·subst hjk;have:=h3 0;simp only [List.getElem?_cons_zero,aif]at this;rw [← this,Array.getElem?_setIfInBounds_self_of_lt oQ]
    ·rw [aof oQ];exact h2 j oQ
   ·intro j;have:=h3 (j+1);rw [ah9]at this;rw [this]
    congr 1
    omega
 have:=key 0 cs.toList zs (by simpa using h) (fun j hj=>absurd hj (Nat.not_lt_zero j)) (fun j=>by simp) (by simp)
 conv=>rhs;rw [← this]
 rw [← Array.foldl_toList,Array.toList_zipIdx]
theorem aaN (hb:pG P t e sz eY=true) (hsz:v.cells.size=sz) (hle:sz≤16777216) (w:World) :
  (Instr.buildSlice t 1 #[(0,v)]).run P w = .ok (.slice (some ⟨w.heap.size,0,none⟩) 1 1) (w.alloc (.cells v.cells e)):=by
 obtain ⟨hu,i,z,hi,hz,h1,h2,h3,h4⟩:=xE hb;subst h1;have hzv:(zeroValue e).run P w = .ok z w:=by simp [zeroValue,typeInfo,hi,hz]
 have hsz':(sizeOf e).run P w = .ok i.size w:=by simp [sizeOf,typeInfo,hi]
 have hnz:¬ (1 * i.size=0):=by omega
 have hle':¬ (1 * i.size>2^24):=by omega
 unfold Instr.buildSlice;simp only [acN,agK hu,acB,hsz',abA hle',abA hnz,hzv,ac1];have hf:Instr.fill (fun i'=>some (i' * i.size,i.size)) ((Array.range (1 * i.size)).map (z.cells[· % z.cells.size]!)) [(0,v)]=some v.cells:=by
  have hs1:((Array.range (1 * i.size)).map (z.cells[· % z.cells.size]!)).size=v.cells.size:=by simp [hsz]
  unfold Instr.fill;simp only [Nat.zero_mul];have hc:¬ ((v.cells.size≠i.size || 0+v.cells.size>((Array.range (1 * i.size)).map (z.cells[· % z.cells.size]!)).size)=true):=by
   rw [hs1];simp [hsz]
  simp only [abA hc];unfold Instr.fill
  congr 1
  exact afW _ _ hs1
 simp only [hf];simp [newRow,go_sem]
theorem o7 (hb:pG P ty e sz eY=true) (hs:Sat w0 w L) (hy:a.eval x=v) (hcs:v.cells=cs) (hsz:cs.size=sz) (hle:sz≤16777216)
  (hK:∀ b w',Sat w0 w' (pt b (.cells cs e (0,0))::L)→wpList P ops Q rest (a.put dst (.slice (some ⟨b,0,none⟩) 1 1)) w'):wpList P ops Q (⟨dst,.buildSlice ty 1 #[(0,x)],t,pos,after,none⟩::rest) a w:=by
 subst hcs;refine aeB rfl fun _ hK'=>?_;have hS:=hs.alloc (.cells v.cells e);unfold Oper.wp execOp;simp only [hy,aes,acS,adw,acN,ac1,aaN hb hsz hle w,acB];exact hK' _ _ (hK _ _ hS)
theorem amN (e:TypeId) (sz eY:Nat) (hb:pG P ty e sz eY=true) (hs:Sat w0 w L) (hv:a.eval s=v) (hy:a.eval y = .slice (some ⟨b,0,none⟩) n c){R2:List aH} (p:Pick (aB e sz v xs) L R) (p2:Pick (pt b (.cells cs T (0,0))) R R2)
  (hn:cs.size=n * sz) (h0:0<n) (h1:cs.toList.all (·.oneCell')=true) (h63:xs.length+cs.size≤maxLen) (hby:(xs.length+cs.size) * eY≤140737488355328)
  (hK:∀ b' n' c' w',Sat w0 w' (aB e sz (.slice (some ⟨b',0,none⟩) n' c') (xs++cs.toList)::R2)→wpList P ops Q rest (a.put dst (.slice (some ⟨b',0,none⟩) n' c')) w') :
  wpList P ops Q (⟨dst,.call { callee:= .builtin .append,args:=#[s,y],argTypes:=#[ty,ty] },t,pos,after,none⟩::rest) a w:=by
 obtain ⟨hu,i,z,hi,hz,e1,e2,e3,e4⟩:=xE hb;subst e2;have hne:xs++cs.toList≠[]:=by
  intro h;have:=adu List.length h;simp only [aaK,acJ,adF]at this;have:0<n * sz:=Nat.mul_pos h0 e4;omega
 have hrd:bG sz (.slice (some ⟨b,0,none⟩) n c) cs.toList w:=⟨_,n,c,rfl,by simpa using hn,fun j x hj=>⟨_,rfl,by
  rw [qO];exact ((hs.pick p).pick (aT p2)).cellAt j x (by simpa using hj)⟩⟩
 refine y7 (w0:=w0) rfl s y ty rfl e i z hu hi hz e1 e3 e4 hv hy (fun u hu=>(aeD.1 h1) u hu) (hs.pick p) hrd (by simpa using h63) (by simpa using hby) ?_;intro v' w' hS hv';obtain ⟨b',n',c',rfl⟩:=hv' hne;exact hK b' n' c' w' (hS.pick (aT p2)).drop
theorem pW (e:TypeId) (sz eY:Nat) (hb:pG P ty e sz eY=true) (hs:Sat w0 w L) (hv:a.eval s=v) (hy:a.eval y = .slice (some ⟨b,0,none⟩) n c){R2:List aH} (p:Pick (aB e sz v xs) L R) (p2:Pick (pt b (.cells cs T (0,0))) R R2)
  (hn:cs.size=n * sz) (h0:1≤n) (h1:cs.toList.all (·.oneCell')=true) (h63:xs.length≤2147483648) (h64:cs.size≤65536) (hby:eY≤65000) (hys:cs.toList=ys)
  (hK:∀ b' n' c' w',Sat w0 w' (aB e sz (.slice (some ⟨b',0,none⟩) n' c') (xs++ys)::R2)→wpList P ops Q rest (a.put dst (.slice (some ⟨b',0,none⟩) n' c')) w') :
  wpList P ops Q (⟨dst,.call { callee:= .builtin .append,args:=#[s,y],argTypes:=#[ty,ty] },t,pos,after,none⟩::rest) a w:=by
 subst hys;refine amN e sz eY hb hs hv hy p p2 hn h0 h1 (by unfold maxLen;omega) ?_ hK
 calc (xs.length+cs.size) * eY≤(2147483648+65536) * 65000:=anv oQ hby
  _≤140737488355328:=by decide
end
end
end Go.Proofs.YtihngncbioofnaaGreatDoor
namespace Go.Sl
open Go
section
variable {w0 w:World}{A:aH}{L M R:List aH}
theorem bC (p:Pick A L R:=by first|((repeat (first|with_reducible apply aV|with_reducible apply aT));done)|((repeat (first|apply aV|apply aT));done)|fail):Pick A L R:=p
theorem pV (p:Sub L M:=by repeat (first|(with_reducible apply RD)|((with_reducible apply RG);(· first|((repeat (first|with_reducible apply aV|with_reducible apply aT));done)|((repeat (first|apply aV|apply aT));done)|fail))|(with_reducible apply Rz))):Sub L M:=p
theorem Sat.pk (h:Sat w0 w L) (p:Pick A L R:=by first|((repeat (first|with_reducible apply aV|with_reducible apply aT));done)|((repeat (first|apply aV|apply aT));done)|fail):Sat w0 w (A::R):=h.pick p
theorem Sat.sb (h:Sat w0 w L) (p:Sub L M:=by repeat (first|(with_reducible apply RD)|((with_reducible apply RG);(· first|((repeat (first|with_reducible apply aV|with_reducible apply aT));done)|((repeat (first|apply aV|apply aT));done)|fail))|(with_reducible apply Rz))):Sat w0 w M:=h.sub p
theorem Ro.op {p:World→Prop} (h:Ro w0 (A::R) p) (k:Pick A L R:=by first|((repeat (first|with_reducible apply aV|with_reducible apply aT));done)|((repeat (first|apply aV|apply aT));done)|fail):Ro w0 L p:=h.oV k
theorem Ro.os {p:World→Prop} (h:Ro w0 M p) (k:Sub L M:=by repeat (first|(with_reducible apply RD)|((with_reducible apply RG);(· first|((repeat (first|with_reducible apply aV|with_reducible apply aT));done)|((repeat (first|apply aV|apply aT));done)|fail))|(with_reducible apply Rz))):Ro w0 L p:=h.of_sub k
end
end Go.Sl
namespace Go.Proofs.YtihngncbioofnaaGreatDoor
open Go Go.Sl Go.ay Go.MapKept Go.RowKit
section
variable {P:Program}{ops:Array Oper}{late:List Nat}{G:World→Prop}{n:Nat}{l:Array Bool}{a:Act}{w:World}{oi:Oper}{v:Value}{Q:Exit→Act→World→Prop}
theorem rp (i:Nat) (hi:ops.toList[i]?=some oi:=by conv=>lhs;whnf) (hc:(Region.noSelect ops && Region.free .any ops l i && (Region.ready .any ops l).contains i && uX ops l)=true:=by kernel_rfl)
  (hQ:∀ c a w,Q (.panic c) (a.put oi.dst v) w→Q (.panic c) a w:=by intro _ _ _ h;exact h) (hy:Yields P ops oi v a) {a':Act} (ha:a.put oi.dst v=a':=by go_frame;first|done|rfl)
  (h:jm P ops Q late G n (l.setIfInBounds i true) a' w):jm P ops Q late G (n+1) l a w:=Qx i hi hc hQ hy ha h
theorem rt (i:Nat) (hi:ops.toList[i]?=some oi:=by conv=>lhs;whnf) (hc:(Region.noSelect ops && Region.free .any ops l i && (Region.ready .any ops l).contains i && Pg ops late i && uX ops l)=true:=by kernel_rfl)
  (hQ:∀ c a w,Q (.panic c) (a.put oi.dst v) w→Q (.panic c) a w:=by intro _ _ _ h;exact h) (hy:YieldsIf P ops G oi v a:=by first|exact amk (by conv=>lhs;whnf) au (by intro wq hq;first|exact hq|exact hq.1|exact hq.2|exact hq.2.1|exact hq.2.2|exact hq.2.2.1|exact hq.2.2.2|exact hq.2.2.2.1|exact hq.2.2.2.2)|(refine Or.inl ⟨by rfl,?_⟩;(intro wq hq;go_split_ands;go_simp);first|done|(with_reducible rfl))) (hG:G w:=by assumption) {a':Act} (ha:a.put oi.dst v=a':=by go_frame;first|done|rfl)
  (h:jm P ops Q late G n (l.setIfInBounds i true) a' w):jm P ops Q late G (n+1) l a w:=gV i hi hc hQ hy hG ha h
end
end Go.Proofs.YtihngncbioofnaaGreatDoor
namespace Go.Sl
open Go
theorem eX {A B:aH}{L M:List aH} (p:oI A B L M:=by first|((repeat (first|with_reducible apply cZ|with_reducible apply jh));done)|((repeat (first|apply cZ|apply jh));done)|fail):oI A B L M:=p
theorem ak {α:Sort _}{a b:α} (h:a=b:=by conv=>lhs;whnf):a=b:=h
theorem bU {α:Type}{P:Program}{s:Sem α}{v:α} (h:∀ w,s.run P w = .ok v w:=by ((intro wq;go_simp);first|done|(with_reducible rfl))):∀ w,s.run P w = .ok v w:=h
end Go.Sl
namespace Go.Proofs.YtihngncbioofnaaGreatDoor
open Go Go.Sl Go.ay Go.MapKept Go.RowKit
section
variable {P:Program}{ops:Array Oper}{a:Act}{dst:Option Tmp}{t ty:TypeId}{pos:String}{after:Array Edge}{x y:Operand}{v vx vy:Value}{ad:Addr}{fl:Nat}{bo:BinOp}{tz:TypeId}{g:Option (Nat×Bool)}
theorem aZ (hx:a.eval x=v:=by conv=>lhs;whnf):Yields P ops ⟨dst,.move x,t,pos,after,none⟩ v a:=zi hx
theorem bW (hx:a.eval x=vx:=by conv=>lhs;whnf) (hr:∀ w,(Instr.fieldAt ty vx fl).run P w = .ok v w:=by ((intro wq;go_simp);first|done|(with_reducible rfl))):Yields P ops ⟨dst,.fieldAddr ty x fl,t,pos,after,none⟩ v a:=zf hx hr
theorem dV (hx:a.eval x = .pointer (some ad):=by conv=>lhs;whnf):Yields P ops ⟨dst,.nilCheck x,t,pos,after,none⟩ (.pointer (some ad)) a:=zk hx
theorem jf (hx:a.eval x=vx:=by conv=>lhs;whnf) (hy:a.eval y=vy:=by conv=>lhs;whnf) (hr:∀ w,(Instr.indexAt ty vx vy).run P w = .ok v w:=by ((intro wq;go_simp);first|done|(with_reducible rfl))):Yields P ops ⟨dst,.indexAddr ty x y,t,pos,after,none⟩ v a:=zh hx hy hr
theorem fZ (hx:a.eval x=v:=by conv=>lhs;whnf):Yields P ops ⟨dst,.assign x,t,pos,after,none⟩ v a:=y8 hx
theorem kM (hx:a.eval x=vx:=by conv=>lhs;whnf) (hy:a.eval y=vy:=by conv=>lhs;whnf) (hr:∀ w,((do eqGuard bo ty x y vx vy;binOp bo ty vx vy):Sem Value).run P w = .ok v w:=by ((intro wq;go_simp);first|done|(with_reducible rfl))):Yields P ops ⟨dst,.binOp bo ty x y tz,t,pos,after,none⟩ v a:=qG hx hy hr
end
section
variable {P:Program}{ops:Array Oper}{late:List Nat}{G:World→Prop}{n:Nat}{l:Array Bool}{a a':Act}{w:World}{oi:Oper}{v:Value}{Q:Exit→Act→World→Prop}
theorem rP (i:Nat) (h:jm P ops Q late G n (l.setIfInBounds i true) a' w) (hi:ops.toList[i]?=some oi:=by conv=>lhs;whnf) (hc:(Region.noSelect ops && Region.free .any ops l i && (Region.ready .any ops l).contains i && uX ops l)=true:=by kernel_rfl) (hQ:∀ c a w,Q (.panic c) (a.put oi.dst v) w→Q (.panic c) a w:=by intro _ _ _ h;exact h) (y:Yields P ops oi v a) (ha:a.put oi.dst v=a':=by go_frame;first|done|rfl):jm P ops Q late G (n+1) l a w:=Qx i hi hc hQ y ha h
end
section
variable {P:Program}{w0 w:World}{L L' R:List aH}{b:Nat}{ops:Array Oper}{rest:List Oper}{a:Act}{Q:Exit→Act→World→Prop}{dst:Option Tmp}{t ty T:TypeId}{pos:String}{after:Array Edge}{x y:Operand}{cs:Array Value}{v:Value}{o:Nat}
theorem ldQ (h:wpList P ops Q rest (a.put dst v) w) (hs:Sat w0 w L:=by assumption) (hx:a.eval x = .pointer (some ⟨b,o,none⟩):=by rfl) (p:Pick (pt b (.cells cs T (0,0))) L R:=by exact bC) (hlt:o+1≤cs.size:=by exact bQ) (hv:cs.getD o undef=v:=by exact ak) (h1:yH P ty=true:=by kernel_rfl):wpList P ops Q (⟨dst,.load ty x,t,pos,after,none⟩::rest) a w:=gu hs hx p hlt hv h1 h
theorem stQ (hK:∀ w',Sat w0 w' L'→wpList P ops Q rest (a.put dst undef) w') (hs:Sat w0 w L:=by assumption) (hx:a.eval x = .pointer (some ⟨b,o,none⟩):=by rfl) (hy:a.eval y=v:=by exact ak){cs':Array Value} (hcs:eu cs o v.cells.toList=cs':=by first|(simp only [eu,Value.cells];(try go_frame);first|done|rfl)|rfl) (u:oI (pt b (.cells cs T (0,0))) (pt b (.cells cs' T (0,0))) L L':=by exact eX) (hfit:o+v.cells.size≤cs.size:=by exact bQ) (hi:(P.info? ty).map (·.size)=some v.cells.size:=by kernel_rfl) (h1:v.cells.toList.all (·.oneCell')=true:=by rfl):wpList P ops Q (⟨dst,.store ty x y,t,pos,after,none⟩::rest) a w:=fG hs hx hy hcs u hfit hi h1 hK
end
section
variable {P:Program}{w0 w:World}{L L' R F:List aH}{b:Nat}{ops:Array Oper}{rest:List Oper}{a:Act}{Q:Exit→Act→World→Prop}
variable {dst:Option Tmp}{t ty T e:TypeId}{pos:String}{after:Array Edge}{x y s:Operand}{cs:Array Value}{v:Value}{o n c sz eY:Nat}{xs ys:List Value}{K:Act→World→Prop}{E:Prop}
theorem xO {op:Oper} (hg:op.guard=none) (h:Oper.wp P op a w K Q):if Region.wanted op (yielded ops a.tmps)=true then Oper.wp P op a w K Q else E:=by
 rw [acr (lI _ hg)];exact h
theorem afB (hb:pG P ty e sz eY=true) (hs:Sat w0 w L) (hy:a.eval x=v) (hcs:v.cells=cs) (hsz:cs.size=sz) (hle:sz≤16777216)
  (hK:∀ b w',Sat w0 w' (pt b (.cells cs e (0,0))::L)→K (a.put dst (.slice (some ⟨b,0,none⟩) 1 1)) w') :
  if Region.wanted ⟨dst,.buildSlice ty 1 #[(0,x)],t,pos,after,none⟩ (yielded ops a.tmps)=true then Oper.wp P ⟨dst,.buildSlice ty 1 #[(0,x)],t,pos,after,none⟩ a w K Q else E:=by
 subst hcs;refine xO rfl ?_;have hS:=hs.alloc (.cells v.cells e);unfold Oper.wp execOp;simp only [hy,aes,acS,adw,acN,ac1,aaN hb hsz hle w,acB];exact hK _ _ hS
theorem afz (e:TypeId) (sz eY:Nat) (hb:pG P ty e sz eY=true) (hs:Sat w0 w L) (hv:a.eval s=v) (hy:a.eval y = .slice (some ⟨b,0,none⟩) n c){R2:List aH} (p:Pick (aB e sz v xs) L R) (p2:Pick (pt b (.cells cs T (0,0))) R R2)
  (hn:cs.size=n * sz) (h0:1≤n) (h1:cs.toList.all (·.oneCell')=true) (h63:xs.length≤2147483648) (h64:cs.size≤65536) (hby:eY≤65000) (hys:cs.toList=ys)
  (hK:∀ b' n' c' w',Sat w0 w' (aB e sz (.slice (some ⟨b',0,none⟩) n' c') (xs++ys)::R2)→K (a.put dst (.slice (some ⟨b',0,none⟩) n' c')) w') :
  if Region.wanted ⟨dst,.call { callee:= .builtin .append,args:=#[s,y],argTypes:=#[ty,ty] },t,pos,after,none⟩ (yielded ops a.tmps)=true then
   Oper.wp P ⟨dst,.call { callee:= .builtin .append,args:=#[s,y],argTypes:=#[ty,ty] },t,pos,after,none⟩ a w K Q else E:=by
 refine xO rfl ?_;subst hys;obtain ⟨hu,i,z,hi,hz,e1,e2,e3,e4⟩:=xE hb;subst e2;have hne:xs++cs.toList≠[]:=by
  intro h;have:=adu List.length h;simp only [aaK,acJ,adF]at this;have:0<n * sz:=Nat.mul_pos h0 e4;omega
 have hrd:bG sz (.slice (some ⟨b,0,none⟩) n c) cs.toList w:=⟨_,n,c,rfl,by simpa using hn,fun j x hj=>⟨_,rfl,by
  rw [qO];exact ((hs.pick p).pick (aT p2)).cellAt j x (by simpa using hj)⟩⟩
 have hcl:cs.toList.length=cs.size:=acJ;have h63':xs.length+cs.toList.length≤maxLen:=by rw [hcl];unfold maxLen;omega
 have CU:(xs.length+cs.toList.length) * i.bytes≤140737488355328:=by
  rw [hcl];exact acz (anv (show xs.length+cs.size≤2147483648+65536 by omega) hby) aN
 refine Tf (w0:=w0) s y ty rfl e i z hu hi hz e1 e3 e4 hv hy (fun u hu=>(aeD.1 h1) u hu) (hs.pick p) hrd h63' CU ?_;intro v' w' hS hv';obtain ⟨b',n',c',rfl⟩:=hv' hne;exact hK b' n' c' w' (hS.pick (aT p2)).drop
def rM (P:Program) (t:TypeId):Option (List (Nat×Nat)):=match P.underlying t with
 |some (.struct fields)=>fields.toList.mapM fun f=>(P.info? f.type).map fun i=>(f.offset,i.size)
 |_=>none
theorem run_places (fields:List Field):∀ (pl:List (Nat×Nat)),(fields.mapM fun f=>(P.info? f.type).map fun i=>(f.offset,i.size))=some pl →
  ((fields.mapM fun f=>do pure (f.offset,← sizeOf f.type)):Sem (List (Nat×Nat))).run P w = .ok pl w:=by
 induction fields with
 |nil=>intro pl h;cases h;rfl
 |cons f fields ih=>
  intro pl h;rw [List.mapM_cons]at h ⊢;cases hi:P.info? f.type with
  |none=>simp [hi]at h
  |some i=>
   rw [hi]at h;simp only [ahf,Option.bind_eq_bind,Option.bind_some,Option.bind_eq_some_iff,Option.pure_def,Option.some.injEq]at h;obtain ⟨pl',h1,rfl⟩:=h;have hs:(sizeOf f.type).run P w = .ok i.size w:=by simp [sizeOf,typeInfo,hi]
   simp only [acN,hs,acB,ac1,ih pl' h1]
def Gi (pl:List (Nat×Nat)):Array Value→List (Nat×Value)→Array Value
 |cs,[]=>cs
 |cs,(i,v)::r=>Gi pl (eu cs (pl.getD i (0,0)).1 v.cells.toList) r
theorem Ob:∀ (vs:List Value) (k:Nat) (off:Nat) (cs:Array Value),(vs.zipIdx k).foldl (fun cs (x:Value×Nat)=>cs.setIfInBounds (off+x.2) x.1) cs=eu cs (off+k) vs
 |[],_,_,_=>rfl
 |v::vs,k,off,cs=>by
  rw [List.zipIdx_cons,List.foldl_cons,Ob vs (k+1) off];rfl
theorem WH (pl:List (Nat×Nat)):∀ (parts:List (Nat×Value)) (cs:Array Value),(∀ p∈parts,∃ off,pl[p.1]?=some (off,p.2.cells.size)∧off+p.2.cells.size≤cs.size) →
  Instr.fill (pl.toArray[·]?) cs parts=some (Gi pl cs parts)
 |[],_,_=>rfl
 |(i,v)::r,cs,h=>by
  obtain ⟨off,h1,h2⟩:=h _ (.head _);unfold Instr.fill;have hp:pl.toArray[i]?=some (off,v.cells.size):=by simpa using h1
  simp only [hp];have hc:¬ ((v.cells.size≠v.cells.size || off+v.cells.size>cs.size)=true):=by simp;omega
  rw [abA hc];have hf:v.cells.zipIdx.foldl (fun cs (c,j)=>cs.setIfInBounds (off+j) c) cs=eu cs off v.cells.toList:=by
   rw [← Array.foldl_toList,Array.toList_zipIdx];exact Ob _ 0 off cs
  rw [hf,WH pl r _ (fun p hp=>by
   obtain ⟨o,q1,q2⟩:=h p (.tail _ hp);exact ⟨o,q1,by rw [kE];exact q2⟩)]
  have hg:(pl.getD i (0,0)).1=off:=by rw [acG,h1];rfl
  simp only [Gi,hg]
theorem aod {z:Value}{pl:List (Nat×Nat)} (parts:List (Nat×Value)) (hp:rM P t=some pl) (hz:jr P t=some z)
  (hfit:∀ p∈parts,∃ off,pl[p.1]?=some (off,p.2.cells.size)∧off+p.2.cells.size≤z.cells.size) (w:World) :
  (Instr.build t parts.toArray).run P w = .ok (.agg (Gi pl z.cells parts)) w:=by
 unfold rM at hp;split at hp
 ·rename_i fields hu;have hm:((fields.mapM fun f=>do pure (f.offset,← sizeOf f.type)):Sem (Array (Nat×Nat))).run P w = .ok pl.toArray w:=by
   rw [Array.mapM_eq_mapM_toList];rw [map_eq_pure_bind,acN,run_places fields.toList pl hp]
   rfl
  unfold Instr.build;simp only [acN,Kr hz w,acB,agK hu,hm,WH pl parts z.cells hfit,ac1]
 ·cases hp
theorem GX {i1 i2 i3:Nat}{x1 x2 x3:Operand}{v1 v2 v3:Value} (h1:a.eval x1=v1) (h2:a.eval x2=v2) (h3:a.eval x3=v3) (hr:∀ w,(Instr.build ty #[(i1,v1),(i2,v2),(i3,v3)]).run P w = .ok v w) :
  Yields P ops ⟨dst,.build ty #[(i1,x1),(i2,x2),(i3,x3)],t,pos,after,none⟩ v a:=
 .inl ⟨lI _ rfl,fun w=>by
  simp only [execOp,aes,acS,adw,h1,h2,h3,acN,hr,acB,ac1]⟩
theorem iI {G:World→Prop}{o:Nat} (ks:List Value) (hx:a.eval x = .pointer (some ⟨b,o,none⟩)){d:TypeDesc} (hu:P.underlying ty=some d) (hd:d.isRow=true) (hi:(P.info? ty).map (·.size)=some ks.length) (hG:∀ w,G w→w.rangeAt b o ks) :
  YieldsIf P ops G ⟨dst,.load ty x,t,pos,after,none⟩ (.agg ks.toArray) a:=
 yieldsIf_load_mid (lI _ rfl) ty x rfl b o hx ks d hG hu hd hi
end
section
variable {w0 w:World}{F:List aH}{v lv dv:Value}{sz:Nat}
theorem qU {a:Option Addr}{n c:Nat}{xs:List Value} (h:bG sz (.slice a n c) xs w){i:Nat}{x:Value} (hi:xs[i]?=some x) :
  ∃ bk off,a=some ⟨bk,off,none⟩∧∀ j y,xs[j]?=some y→w.cell? ⟨bk,off+j,none⟩=some y:=by
 obtain ⟨a',n',c',he,hl,hx⟩:=h;cases he;obtain ⟨b,rfl,hc⟩:=hx i x hi;have hlt:i<xs.length:=(abW.1 hi).1;obtain ⟨y,hy⟩:∃ y,xs[0]?=some y:=⟨xs[0]'oQ,aaI _⟩;obtain ⟨b',hb',hc0⟩:=hx 0 y hy;cases hb';obtain ⟨bk,off,spot⟩:=b;have hs:spot=none:=by simpa [Addr.add] using World.cell?_spot hc0
 subst hs;refine ⟨bk,off,rfl,fun j y hj=>?_⟩;obtain ⟨b'',agT,hcj⟩:=hx j y hj;cases agT;rw [Addr.add_mid]at hcj;exact hcj
def afN (es:List (ah.aG×Value)):List Value:=es.flatMap fun p=>kX p.1 p.2
theorem NW (x:ah.aG) (dv:Value) (hk:x.key.length=32):(kX x dv).length=34:=by simp [kX,aA,hk]
theorem afM (x:ah.aG) (dv:Value){j:Nat}{y:Value} (h:(aA x.key)[j]?=some y):(kX x dv)[1+j]?=some y:=by
 unfold kX;rw [aoh,ah9,ac2 (abW.1 h).1];exact h
theorem afL (x:ah.aG) (dv:Value) (hk:x.key.length=32):(kX x dv)[33]?=some dv:=by
 unfold kX;rw [ah9,ac0 (by rw [aX];omega),aX,hk];rfl
theorem JU:rM Tryz.prog 52=some [(0,1),(1,32),(33,1)]:=by kernel_rfl
def wP:Value:= .agg (dU ah.zeroE (.slice none 0 0))
theorem BN:jr Tryz.prog 52=some wP:=by kernel_rfl
theorem ajv (cs:Array Value) (hs:cs.size=34) (u dv:Value) (kl:List Value) (hk:kl.length=32):(eu (eu (eu cs 0 [u]) 1 kl) 33 [dv]).toList=u::(kl++[dv]):=by
 have hcl:cs.toList.length=34:=by simpa using hs
 rw [lg _ _ _ (by rw [kE,kE];simp;omega),lg _ _ _ (by rw [kE];omega),lg _ _ _ (by simp;omega)];simp only [adH,adl,ac7,acT];rw [List.singleton_append,List.take_succ_cons,adH,hk,show 1+32=32+1 by omega,aop,aol];have h1:([u]++kl++cs.toList.drop (1+32)).length=34:=by simp [hk,hcl]
 rw [ado (by simp [hk]),acX (by simp [hk]),adp oQ];simp
theorem qR {cs ds:Array Value} (h:cs.toList=ds.toList):cs=ds:=Array.toList_inj.1 h
theorem aaP (e:ah.aG) (hk:e.key.length=32) (da:Option Addr) (dn dc:Nat) (w:World) :
  (Instr.build 52 #[(0,.int .i64 e.tag),(1,.agg (aA e.key).toArray),(2,.slice da dn dc)]).run Tryz.prog w = .ok (.agg (dU e (.slice da dn dc))) w:=by
 have hz:(dU ah.zeroE (.slice none 0 0)).size=34:=lT _ _ rfl;have hks:(aA e.key).toArray.size=32:=by simp [aA,hk]
 have h:=aod (P:=Tryz.prog) [(0,.int .i64 e.tag),(1,.agg (aA e.key).toArray),(2,.slice da dn dc)] JU BN (by
  intro p hp;simp only [acK,ag0,aoj]at hp;have hzz:wP.cells.size=34:=hz;rw [hzz];rcases hp with rfl|rfl|rfl
  ·exact ⟨0,rfl,by show 0+1≤34;omega⟩
  ·refine ⟨1,?_,?_⟩
   ·show some (1,32)=some (1,(aA e.key).toArray.size);rw [hks]
   ·show 1+(aA e.key).toArray.size≤34;rw [hks];omega
  ·exact ⟨33,rfl,by show 33+1≤34;omega⟩) w
 refine h.trans ?_
 congr 2
 apply qR;exact ajv _ hz _ _ _ (show (aA e.key).toArray.toList.length=32 by rw [acW,aX,hk])
theorem ajC (cs:Array Value) (vs:List Value) (h:vs.length=cs.size):eu cs 0 vs=vs.toArray:=by
 apply qR;rw [lg _ _ _ oQ,adH,adl,adp (by simp;omega),acM,acW]
end
section
variable {w0 w:World}{L L' R:List aH}{b:Nat}{ops:Array Oper}{rest:List Oper}{a:Act}{Q:Exit→Act→World→Prop}
variable {dst:Option Tmp}{t T:TypeId}{pos:String}{after:Array Edge}{x y:Operand}{cs:Array Value}{v:Value}{e:ah.aG}{da:Option Addr}{dn dc:Nat}
theorem afK (e:ah.aG) (a:Option Addr) (n c:Nat):(dU e (.slice a n c)).all (·.oneCell')=true:=by
 rw [← Array.all_toList];unfold dU kX;rw [acW,aoI,ahh];have:(aA e.key).all (·.oneCell')=true:=aeD.2 (vS _);rw [this];rfl
theorem CY:(Tryz.prog.info? 52).map (·.size)=some 34:=by kernel_rfl
theorem jV (hs:Sat w0 w L) (hx:a.eval x = .pointer (some ⟨b,0,none⟩)) (hy:a.eval y = .agg (dU e (.slice da dn dc))) (hk:e.key.length=32) (u:oI (pt b (.cells cs T (0,0))) (pt b (.cells (dU e (.slice da dn dc)) T (0,0))) L L') (hcs:cs.size=34)
  (hK:∀ w',Sat w0 w' L'→wpList Tryz.prog ops Q rest (a.put dst undef) w'):wpList Tryz.prog ops Q (⟨dst,.store 52 x y,t,pos,after,none⟩::rest) a w:=by
 obtain ⟨R',h2,h3⟩:=u;have hz:=lT e (.slice da dn dc) hk;refine GV (w0:=w0) rfl 52 x y rfl 0 (.agg (dU e (.slice da dn dc))) hx hy (show 0+(dU e (.slice da dn dc)).size≤cs.size by omega) (show _=some (dU e (.slice da dn dc)).size by rw [hz];exact CY) (afK _ _ _ _) (hs.perm h2) fun w' hS=>hK w' ?_;have he:eu cs 0 (Value.agg (dU e (.slice da dn dc))).cells.toList=dU e (.slice da dn dc):=by
  show eu cs 0 (dU e (.slice da dn dc)).toList=_;rw [ajC _ _ (by simp;omega)]
 rw [he]at hS;exact hS.perm h3.symm
theorem GR (hs:Sat w0 w L) (hx:a.eval x = .pointer (some ⟨b,0,none⟩)) (p:Pick (pt b (.cells (dU e (.slice da dn dc)) T (0,0))) L R) (hk:e.key.length=32)
  (h:wpList Tryz.prog ops Q rest (a.put dst (.agg (dU e (.slice da dn dc)))) w):wpList Tryz.prog ops Q (⟨dst,.load 52 x,t,pos,after,none⟩::rest) a w:=
 iW hs hx p Tryz.underlying52 rfl (by rw [lT e _ hk];exact CY) h
theorem qm (h:Stop (wpList Tryz.prog ops Q (⟨dst,.store 52 x y,t,pos,after,none⟩::rest) a w)):wpList Tryz.prog ops Q (⟨dst,.store 52 x y,t,pos,after,none⟩::rest) a w:=h.out
theorem EL (h:Stop (wpList Tryz.prog ops Q (⟨dst,.load 52 x,t,pos,after,none⟩::rest) a w)):wpList Tryz.prog ops Q (⟨dst,.load 52 x,t,pos,after,none⟩::rest) a w:=h.out
theorem ak3 (w:World):(Instr.build 52 #[]).run Tryz.prog w = .ok wP w:=aod (P:=Tryz.prog) [] JU BN (by simp) w
theorem tY (hs:Sat w0 w L) (hK:∀ b w',Sat w0 w' (pt b (.cells (dU ah.zeroE (.slice none 0 0)) 52 (0,0))::L)→wpList Tryz.prog ops Q rest (a.put dst (.pointer (some ⟨b,0,none⟩))) w') :
  wpList Tryz.prog ops Q (⟨dst,.alloc 52,t,pos,after,none⟩::rest) a w:=fF BN hs rfl hK
theorem sG (h:Stop (wpList Tryz.prog ops Q (⟨dst,.alloc 52,t,pos,after,none⟩::rest) a w)):wpList Tryz.prog ops Q (⟨dst,.alloc 52,t,pos,after,none⟩::rest) a w:=h.out
theorem Gq {fn:Func}{p u:Tmp}{tmps:Array Value} (hf:fn.results=#[.cell p 52,.tmp u]) (hs:Sat w0 w L) (hp:tmps.getD p undef = .pointer (some ⟨b,0,none⟩)) (k:Pick (pt b (.cells (dU e (.slice da dn dc)) T (0,0))) L R) (hk:e.key.length=32) :
  (results fn tmps).run Tryz.prog w = .ok (.tuple #[.agg (dU e (.slice da dn dc)),tmps.getD u undef]) w:=
 og hf hs hp k Tryz.underlying52 rfl (by rw [lT e _ hk];exact CY)
end
section
variable {P:Program}{w0 w:World}{L L' R:List aH}{b:Nat}{ops:Array Oper}{rest:List Oper}{a:Act}{Q:Exit→Act→World→Prop}
variable {dst:Option Tmp}{t ty T:TypeId}{pos:String}{after:Array Edge}{x y z:Operand}{cs:Array Value}{v:Value}{o:Nat}
variable {vx vy:Value}{ad:Addr}{fl:Nat}{bo:BinOp}{uo:UnOp}{tz:TypeId}{G:World→Prop}
theorem tZ {g:Option (Nat×Bool)} (hw:Region.wanted ⟨dst,.move x,t,pos,after,g⟩ (yielded ops a.tmps)=true) (hx:a.eval x=v):Yields P ops ⟨dst,.move x,t,pos,after,g⟩ v a:=
 .inl ⟨hw,fun w=>by simp only [execOp,hx];rfl⟩
theorem Lr {g:Option (Nat×Bool)} (hw:Region.wanted ⟨dst,.nilCheck x,t,pos,after,g⟩ (yielded ops a.tmps)=true) (hx:a.eval x = .pointer (some ad)):Yields P ops ⟨dst,.nilCheck x,t,pos,after,g⟩ (.pointer (some ad)) a:=
 .inl ⟨hw,fun w=>by simp only [execOp,hx];rfl⟩
theorem BM {g:Option (Nat×Bool)} (hw:Region.wanted ⟨dst,.fieldAddr ty x fl,t,pos,after,g⟩ (yielded ops a.tmps)=true) (hx:a.eval x=vx) (hr:∀ w,(Instr.fieldAt ty vx fl).run P w = .ok v w):Yields P ops ⟨dst,.fieldAddr ty x fl,t,pos,after,g⟩ v a:=
 .inl ⟨hw,fun w=>by simp only [execOp,hx,acN,hr,acB,ac1]⟩
theorem ach {g:Option (Nat×Bool)} (hw:Region.wanted ⟨dst,.indexAddr ty x y,t,pos,after,g⟩ (yielded ops a.tmps)=true) (hx:a.eval x=vx) (hy:a.eval y=vy) (hr:∀ w,(Instr.indexAt ty vx vy).run P w = .ok v w):Yields P ops ⟨dst,.indexAddr ty x y,t,pos,after,g⟩ v a:=
 .inl ⟨hw,fun w=>by simp only [execOp,hx,hy,acN,hr,acB,ac1]⟩
theorem Lp {g:Option (Nat×Bool)} (hw:Region.wanted ⟨dst,.binOp bo ty x y tz,t,pos,after,g⟩ (yielded ops a.tmps)=true) (hx:a.eval x=vx) (hy:a.eval y=vy) (hr:∀ w,((do eqGuard bo ty x y vx vy;binOp bo ty vx vy):Sem Value).run P w = .ok v w):Yields P ops ⟨dst,.binOp bo ty x y tz,t,pos,after,g⟩ v a:=
 .inl ⟨hw,fun w=>by simp only [execOp,hx,hy,acN (x:=(do eqGuard bo ty x y vx vy;binOp bo ty vx vy)),hr,acB,ac1]⟩
theorem am7 {g:Option (Nat×Bool)} (hw:Region.wanted ⟨dst,.unOp uo ty x,t,pos,after,g⟩ (yielded ops a.tmps)=true) (hx:a.eval x=vx) (hr:∀ w,(Op.unary uo vx).run P w = .ok v w):Yields P ops ⟨dst,.unOp uo ty x,t,pos,after,g⟩ v a:=
 .inl ⟨hw,fun w=>by simp only [execOp,hx,acN,hr,acB,ac1]⟩
theorem aci {g:Option (Nat×Bool)} (hw:Region.wanted ⟨dst,.call { callee:= .builtin .len,args:=#[x],argTypes:=#[ty] },t,pos,after,g⟩ (yielded ops a.tmps)=true) (hx:a.eval x=vx) (hr:∀ w,(Builtin.len_ #[ty] t #[vx]).run P w = .ok v w):Yields P ops ⟨dst,.call { callee:= .builtin .len,args:=#[x],argTypes:=#[ty] },t,pos,after,g⟩ v a:=
 .inl ⟨hw,fun w=>by
  rw [WC,hx];simp only [acN,hr,acB,ac1]⟩
theorem DJ {g:Option (Nat×Bool)} (hw:Region.wanted ⟨dst,.load ty x,t,pos,after,g⟩ (yielded ops a.tmps)=true) (hx:a.eval x = .pointer (some ad)) (h1:yH P ty=true) (hG:∀ w,G w→w.cell? ad=some v):YieldsIf P ops G ⟨dst,.load ty x,t,pos,after,g⟩ v a:=
 .inl ⟨hw,fun w hw=>by
  obtain ⟨b,o,el⟩:=ad;have hc:=hG w hw;simp only [execOp,hx,Instr.loadAt,Instr.sureAddr,acN,ac1,acB,aaS h1 hc]⟩
theorem DZ {g:Option (Nat×Bool)}{c:Bool} (hw:Region.wanted ⟨dst,.pick x y z,t,pos,after,g⟩ (yielded ops a.tmps)=true) (hx:a.eval x = .bool c) (hv:(if c then a.eval y else a.eval z)=v):Yields P ops ⟨dst,.pick x y z,t,pos,after,g⟩ v a:=
 .inl ⟨hw,fun w=>by
  subst hv;simp only [execOp,hx];cases c <;> rfl⟩
theorem amj {g:Option (Nat×Bool)} (ks:List Value) (hw:Region.wanted ⟨dst,.load ty x,t,pos,after,g⟩ (yielded ops a.tmps)=true) (hx:a.eval x = .pointer (some ⟨b,o,none⟩)){d:TypeDesc} (hu:P.underlying ty=some d) (hd:d.isRow=true) (hi:(P.info? ty).map (·.size)=some ks.length) (hG:∀ w,G w→w.rangeAt b o ks) :
  YieldsIf P ops G ⟨dst,.load ty x,t,pos,after,g⟩ (.agg ks.toArray) a:=
 yieldsIf_load_mid hw ty x rfl b o hx ks d hG hu hd hi
theorem Wi {g:Option (Nat×Bool)}{f:FuncId}{xs:Array Operand}{ts:Array TypeId}{K:Act→World→Prop}{E:Prop} (vs:List Value) (hw:Region.wanted ⟨dst,.call { callee:= .value (.func f),args:=xs,argTypes:=ts },t,pos,after,g⟩ (yielded ops a.tmps)=true) (hf:goB P f=true) (hv:xs.toList.map a.eval=vs)
  (h:Calls P f vs.toArray w (Upon K Q a dst)):if Region.wanted ⟨dst,.call { callee:= .value (.func f),args:=xs,argTypes:=ts },t,pos,after,g⟩ (yielded ops a.tmps)=true then
   Oper.wp P ⟨dst,.call { callee:= .value (.func f),args:=xs,argTypes:=ts },t,pos,after,g⟩ a w K Q else E:=by
 rw [acr hw];have h0:=xK (P:=P) (ops:=ops) (a:=a) (w:=w) (Q:=Q) (dst:=dst) (t:=t) (pos:=pos) (after:=after) (K:=K) (E:=False) (xs:=xs) (ts:=ts) vs hf hv h;rw [acr (lI _ rfl)]at h0;exact h0
theorem pU {l:Array Bool}{n:Nat}{late:List Nat}{oi:Oper} (i:Nat) (hi:ops.toList[i]?=some oi) (hc:(Region.noSelect ops && Region.free .any ops l i && (Region.ready .any ops l).contains i && uX ops l)=true)
  (hQ:∀ c a w,Q (.panic c) (a.put oi.dst undef) w→Q (.panic c) a w) (hw:Region.wanted oi (yielded ops a.tmps)=false) {a':Act} (ha:a.put oi.dst undef=a')
  (h:jm P ops Q late G n (l.setIfInBounds i true) a' w):jm P ops Q late G (n+1) l a w:=
 Qx i hi hc hQ (.inr ⟨hw,rfl⟩) ha h
end
end Go.Proofs.YtihngncbioofnaaGreatDoor
namespace Go.ay
def ay.which (D:ay) (s:ByteArray):Int:=match bP D.now s with
 |none=> -1
 |some i=>(i:Int)
end Go.ay
namespace Go.Proofs.YtihngncbioofnaaGreatDoor
open Go Go.Sl Go.ay Go.MapKept Go.RowKit
abbrev LG:=List (Value×Names)
structure RF where
 f:bH
 fv:Value
 nv:Value
 wv:Value
 ws:List (jd×Value)
section
variable {w0 w:World}{b o:Nat}{ops:Array Oper}{rest:List Oper}{a:Act}{Q:Exit→Act→World→Prop}{dst:Option Tmp}{t ty:TypeId}{pos:String}{after:Array Edge}{x:Operand}{P:Program}
end
section
variable {w0 w:World}{F R:List aH}{d:Nat}{D:ay}{Xc fv nv wv v:Value}{xs:List RF}{g:LG}{K:Nat}
theorem KG:∀ (l:List aH) (A:aH),A∈l→∃ G,stars l=star A G
 |B::l,A,h=>by
  rcases acK.1 h with rfl|h
  ·exact ⟨_,rfl⟩
  ·obtain ⟨G,hG⟩:=KG l A h;refine ⟨star B G,?_⟩;show star B (stars l)=_;rw [hG,uY]
end
section
variable {P:Program}{w0 w:World}{L L':List aH}{b o:Nat}{ops:Array Oper}{a:Act}{Q:Exit→Act→World→Prop}{dst:Option Tmp}{t ty T:TypeId}{pos:String}{after:Array Edge}{x y:Operand}{cs:Array Value}{v:Value}{K:Act→World→Prop}{E:Prop}
theorem kW (hs:Sat w0 w L) (hx:a.eval x = .pointer (some ⟨b,o,none⟩)) (hy:a.eval y=v){cs':Array Value} (hcs:eu cs o v.cells.toList=cs') (u:oI (pt b (.cells cs T (0,0))) (pt b (.cells cs' T (0,0))) L L') (hfit:o+v.cells.size≤cs.size)
  (hi:(P.info? ty).map (·.size)=some v.cells.size) (h1:v.cells.toList.all (·.oneCell')=true)
  (hK:∀ w',Sat w0 w' L'→K (a.put dst undef) w') :
  if Region.wanted ⟨dst,.store ty x y,t,pos,after,none⟩ (yielded ops a.tmps)=true then Oper.wp P ⟨dst,.store ty x y,t,pos,after,none⟩ a w K Q else E:=by
 subst hcs;obtain ⟨R',h2,h3⟩:=u;refine xO rfl ?_;have h:=hs.perm h2;have hth:w.there b o v.cells.size:=by
  intro j hj;refine ⟨?_,h.oL _⟩;rw [h.cellAt (o+j) _ (aib (show o+j<cs.size by omega))]
  rfl
 have hst:=run_storeCells_cells (P:=P) b o v.cells.toList 0 w (fun j hj=>by simpa using (hth j (by simpa using hj)).1) (fun j hj=>by simpa using (hth j (by simpa using hj)).2)
  (fun u hu=>(aeD.1 h1) u hu)
 have hrun:(storeVar ty ⟨b,o,none⟩ v).run P w = .ok () (w.setCells b o v.cells.toList):=by
  cases hq:P.info? ty with
  |none=>simp [hq]at hi
  |some i=>
   have hs:v.cells.size=i.size:=by simp [hq]at hi;omega
   simp only [aif]at hst;simp [storeVar,sizeOf,typeInfo,hq,hs,hst]
 unfold Oper.wp execOp;simp only [hx,hy,Instr.storeAt,Instr.sureAddr,acN,ac1,acB,hrun];exact hK _ ((Sat.sets _ _ h).perm h3.symm)
end
def RF.zero:RF:=⟨bH.new,.slice none 0 0,.slice none 0 0,.slice none 0 0,[]⟩
section
variable {w0 w:World}{F R:List aH}{d:Nat}{D:ay}{Xc fv nv wv v lv:Value}{xs:List RF}{g:LG}{K:Nat}
end
end Go.Proofs.YtihngncbioofnaaGreatDoor
namespace Go.ay
theorem Tj (l:Bs) (i:Nat) (y:UInt8):(jo l i y).length=l.length:=by unfold jo;simp
def Alike (c d:jd):Prop:=d.cut=c.cut∧d.n=c.n∧d.b.length=c.b.length
theorem aiX {c d:jd} (h:Alike c d){l l':Bs} (hl:l'.length=l.length):(d.on l').length=(c.on l).length:=by
 obtain ⟨h1,h2,h3⟩:=h;unfold jd.on;rw [h1];split
 ·simp [h2,hl]
 ·simp [h3,hl]
theorem at_len {f g:bH} (h0:g.fast.length=f.fast.length) (hw:g.waits.length=f.waits.length)
  (hc:∀ (k:Nat) (c d:jd),f.waits[k]?=some c→g.waits[k]?=some d→Alike c d):∀ k,k≤f.waits.length→(g.at k).length=(f.at k).length:=by
 intro k
 induction k with
 |zero=>intro _;exact h0
 |succ k ih=>
  intro hk;have h1:f.waits[k]?=some (f.waits[k]'oQ):=aaI _;have h2:g.waits[k]?=some (g.waits[k]'oQ):=aaI _;rw [f.zM k _ h1,g.zM k _ h2];exact aiX (hc k _ _ h1 h2) (ih oQ)
theorem am2 {l:Bs}{i:Nat} (y:UInt8) (b:Bs) (h:i<l.length):jo (l++b) i y=jo l i y++b:=by
 unfold jo;rw [List.set_append_left _ _ h,acG,ac2 h,acG]
theorem am3 {l:Bs}{i:Nat} (y:UInt8) (b:Bs) (h:l.length≤i):jo (l++b) i y=l++jo b (i - l.length) y:=by
 unfold jo;rw [List.set_append_right _ _ h,acG,ac0 h,acG]
theorem am4 (l:Bs) (i n:Nat) (y:UInt8):(jo l i y).take n=jo (l.take n) i y:=by
 unfold jo;rw [List.take_set];by_cases h:i<n
 ·rw [acG,acG,an4 h]
 ·rw [List.set_eq_of_length_le (by simp;omega),List.set_eq_of_length_le (by simp;omega)]
theorem aiY (c:jd) (l:Bs) (i:Nat) (y:UInt8) (h:c.cut=true∨i<l.length):c.on (jo l i y)=jo (c.on l) i y:=by
 unfold jd.on;cases hc:c.cut
 ·simp only [afy,anY];rcases h with h|h
  ·rw [hc]at h;cases h
  ·exact (am2 y c.b h).symm
 ·simp only [anJ];exact am4 l i c.n y
def Past (f:bH) (i k n:Nat):Prop:=∀ (j:Nat) (c:jd),k≤j→j<n→f.waits[j]?=some c→c.cut=true∨i<(f.at j).length
theorem Vd {f g:bH}{i k:Nat}{y:UInt8} (h0:g.at k=jo (f.at k) i y) (hw:∀ j,k≤j→g.waits[j]?=f.waits[j]?) (hp:Past f i k f.waits.length) :
  ∀ j,k≤j→j≤f.waits.length→g.at j=jo (f.at j) i y:=by
 intro j hj
 induction hj with
 |refl=>intro _;exact h0
 |@step j hk ih=>
  intro hl;have h1:f.waits[j]?=some (f.waits[j]'oQ):=aaI _;have h2:g.waits[j]?=some (f.waits[j]'oQ):=by rw [hw j hk];exact h1
  rw [f.zM j _ h1,g.zM j _ h2,ih oQ];exact aiY _ _ _ _ (hp j _ hk oQ h1)
theorem aaz (f:bH) (i:Nat) (y:UInt8):∀ n,n≤f.waits.length →
  (yM f i y n=none∧Past f i 0 n) ∨
  ∃ (k:Nat) (c:jd),k<n∧f.waits[k]?=some c∧c.cut=false∧(f.at k).length≤i∧yM f i y n=some (f.waits.set k { c with b:=jo c.b (i - (f.at k).length) y })∧Past f i (k+1) n
 |0,_=> .inl ⟨rfl,fun j c _ h=>by omega⟩
 |n+1,hn=>by
  have h1:f.waits[n]?=some (f.waits[n]'oQ):=aaI _;generalize f.waits[n]'oQ=c at h1;have step:(c.cut=true∨i<(f.at n).length)→yM f i y (n+1)=yM f i y n:=by
   intro h;show (match f.waits[n]? with|none=>_|some c=>_)=_;rw [h1];simp only;rcases h with h|h
   ·rw [acr h]
   ·split
    ·rfl
    ·rw [abA oQ]
  have past:∀ k,(c.cut=true∨i<(f.at n).length)→Past f i k n→Past f i k (n+1):=by
   intro k h hp j d hk hj hd;rcases amB j n with hlt|hge
   ·exact hp j d hk hlt hd
   ·obtain rfl:j=n:=by omega
    rw [h1]at hd;cases hd;exact h
  by_cases h:c.cut=true∨i<(f.at n).length
  ·rcases aaz f i y n oQ with ⟨h2,h3⟩|⟨k,d,h2,h3,h4,h5,h6,h7⟩
   ·exact .inl ⟨(step h).trans h2,past 0 h h3⟩
   ·exact .inr ⟨k,d,by omega,h3,h4,h5,(step h).trans h6,past _ h h7⟩
  ·have hc:c.cut=false:=by cases hcc:c.cut;rfl;exact absurd (.inl hcc) h
   have hl:(f.at n).length≤i:=Nat.le_of_not_lt fun h'=>h (.inr h');refine .inr ⟨n,c,by omega,h1,hc,hl,?_,fun j d hk hj=>by omega⟩;show (match f.waits[n]? with|none=>_|some c=>_)=_;rw [h1];simp only [hc,afy,anY];rw [acr hl]
theorem aaA {f g:bH}{K:Nat} (h:f.Ok K) (h0:g.fast.length=f.fast.length) (hw:g.waits.length=f.waits.length)
  (hc:∀ (k:Nat) (c d:jd),f.waits[k]?=some c→g.waits[k]?=some d→Alike c d) (hn:g.now=g.at f.waits.length):g.Ok K:=by
 have hl:=at_len h0 hw hc;refine ⟨by rw [hw];exact hn,?_,?_,by rw [hw];exact h.budget⟩
 ·intro k d hk hd;have hlt:k<g.waits.length:=(abW.1 hk).1;obtain ⟨c,hcc⟩:∃ c,f.waits[k]?=some c:=⟨f.waits[k]'oQ,aaI _⟩;obtain ⟨a1,a2,a3⟩:=hc k c d hcc hk;rw [hl k oQ,a2];exact h.cuts k c hcc (by rw [← a1];exact hd)
 ·intro k hk;rw [hl k oQ];exact h.size k oQ
theorem bH.Ok.nM {f:bH}{K:Nat} (h:f.Ok K) (i:Nat) (y:UInt8):(f.nM i y).Ok K∧(f.nM i y).now=jo f.now i y:=by
 rcases aaz f i y f.waits.length (abL _) with ⟨h1,h2⟩|⟨k,c,hk,hc,hcut,hlen,h1,h2⟩
 ·have e:f.nM i y={ f with now:=jo f.now i y,fast:=jo f.fast i y }:=by unfold bH.nM;rw [h1]
  rw [e];refine ⟨aaA h (Tj _ _ _) rfl (fun k c d h3 h4=>?_) ?_,rfl⟩
  ·rw [h3]at h4;cases h4;exact ⟨rfl,rfl,rfl⟩
  ·have:=Vd (f:=f) (g:={ f with now:=jo f.now i y,fast:=jo f.fast i y }) (i:=i) (k:=0) (y:=y) rfl (fun j _=>rfl) h2 f.waits.length (acV _) (abL _);rw [this,← h.now]
 ·have e:f.nM i y={ f with now:=jo f.now i y,waits:=f.waits.set k { c with b:=jo c.b (i - (f.at k).length) y } }:=by unfold bH.nM;rw [h1]
  rw [e];have hset:(f.waits.set k { c with b:=jo c.b (i - (f.at k).length) y })[k]?=some { c with b:=jo c.b (i - (f.at k).length) y }:=by rw [List.getElem?_set_self hk]
  refine ⟨aaA h rfl (by simp) (fun j c' d h3 h4=>?_) ?_,rfl⟩
  ·simp only at h4;by_cases hj:k=j
   ·subst hj;rw [hset]at h4;rw [hc]at h3;cases h3;cases h4;exact ⟨rfl,rfl,Tj _ _ _⟩
   ·rw [List.getElem?_set_ne hj,h3]at h4;cases h4;exact ⟨rfl,rfl,rfl⟩
  ·generalize hg:({ f with now:=jo f.now i y,waits:=f.waits.set k { c with b:=jo c.b (i - (f.at k).length) y } }:bH)=g;have hgw:g.waits=f.waits.set k { c with b:=jo c.b (i - (f.at k).length) y }:=by rw [← hg]
   have hgf:g.fast=f.fast:=by rw [← hg]
   have hgn:g.now=jo f.now i y:=by rw [← hg]
   have hk0:g.at k=f.at k:=by unfold bH.at;rw [hgw,hgf,List.take_set_of_le (abL _)]
   have hk1:g.at (k+1)=jo (f.at (k+1)) i y:=by
    rw [g.zM k _ (by rw [hgw];exact hset),hk0,f.zM k c hc];unfold jd.on;simp only [hcut,afy,anY];rw [am3 y c.b hlen]
   have:=Vd hk1 (fun j hj=>by rw [hgw,List.getElem?_set_ne oQ]) h2 f.waits.length hk (abL _);rw [this,hgn,← h.now]
structure Cal where
 kind:Int
 name:ByteArray
 to:ByteArray
 n:Int
 m:Int
 b:Bs
 l:List Int
def AL (m:Int):UInt8:=UInt8.ofNat (m%256).toNat
def ay.does (M:ay) (x:Cal):ay×(Bs×Int×Bool):=
 if x.kind=0 then ((M.create x.name).1,[],(M.create x.name).2,false)
 else if x.kind=1 then ((M.append x.name x.b).1,[],(M.append x.name x.b).2,false)
 else if x.kind=2 then ((M.truncate x.name x.n).1,[],(M.truncate x.name x.n).2,false)
 else if x.kind=3 then ((M.rename x.name x.to).1,[],(M.rename x.name x.to).2,false)
 else if x.kind=4 then ((M.remove x.name).1,[],(M.remove x.name).2,false)
 else if x.kind=5 then ((M.sync x.name).1,[],(M.sync x.name).2,false)
 else if x.kind=6 then (M.dR.1,[],M.dR.2,false)
 else if x.kind=7 then ((M.arm x.n).1,[],(M.arm x.n).2,false)
 else if x.kind=8 then (M.crash x.l,[],0,false)
 else if x.kind=9 then ((M.jR x.n).1,[],(M.jR x.n).2,false)
 else if x.kind=10 then ((M.nM x.name x.n (AL x.m)).1,[],0,(M.nM x.name x.n (AL x.m)).2)
 else (M,(M.read x.name x.n x.m).1,(M.read x.name x.n x.m).2,false)
theorem ay.afn {P:ay×Bs×Int×Bool→Prop}{M:ay}{x:Cal}
  (h0:x.kind=0→P ((M.create x.name).1,[],(M.create x.name).2,false))
  (h1:x.kind=1→P ((M.append x.name x.b).1,[],(M.append x.name x.b).2,false))
  (h2:x.kind=2→P ((M.truncate x.name x.n).1,[],(M.truncate x.name x.n).2,false))
  (h3:x.kind=3→P ((M.rename x.name x.to).1,[],(M.rename x.name x.to).2,false))
  (h4:x.kind=4→P ((M.remove x.name).1,[],(M.remove x.name).2,false))
  (h5:x.kind=5→P ((M.sync x.name).1,[],(M.sync x.name).2,false))
  (h6:x.kind=6→P (M.dR.1,[],M.dR.2,false))
  (h7:x.kind=7→P ((M.arm x.n).1,[],(M.arm x.n).2,false))
  (h8:x.kind=8→P (M.crash x.l,[],0,false))
  (h9:x.kind=9→P ((M.jR x.n).1,[],(M.jR x.n).2,false))
  (h10:x.kind=10→P ((M.nM x.name x.n (AL x.m)).1,[],0,(M.nM x.name x.n (AL x.m)).2))
  (hz:x.kind≠0∧x.kind≠1∧x.kind≠2∧x.kind≠3∧x.kind≠4∧x.kind≠5∧x.kind≠6∧x.kind≠7∧x.kind≠8∧x.kind≠9∧x.kind≠10→P (M,(M.read x.name x.n x.m).1,(M.read x.name x.n x.m).2,false)):P (M.does x):=by
 unfold ay.does;by_cases c0:x.kind=0;· rw [acr c0];exact h0 c0
 rw [abA c0];by_cases c1:x.kind=1;· rw [acr c1];exact h1 c1
 rw [abA c1];by_cases c2:x.kind=2;· rw [acr c2];exact h2 c2
 rw [abA c2];by_cases c3:x.kind=3;· rw [acr c3];exact h3 c3
 rw [abA c3];by_cases c4:x.kind=4;· rw [acr c4];exact h4 c4
 rw [abA c4];by_cases c5:x.kind=5;· rw [acr c5];exact h5 c5
 rw [abA c5];by_cases c6:x.kind=6;· rw [acr c6];exact h6 c6
 rw [abA c6];by_cases c7:x.kind=7;· rw [acr c7];exact h7 c7
 rw [abA c7];by_cases c8:x.kind=8;· rw [acr c8];exact h8 c8
 rw [abA c8];by_cases c9:x.kind=9;· rw [acr c9];exact h9 c9
 rw [abA c9];by_cases c10:x.kind=10;· rw [acr c10];exact h10 c10
 rw [abA c10];exact hz ⟨c0,c1,c2,c3,c4,c5,c6,c7,c8,c9,c10⟩
structure Quiet (M:ay):Prop where
 armed:M.armed=false
 off:M.off=false
 left:M.left=0
theorem Quiet.new (r:Nat):Quiet (new r):=⟨rfl,rfl,rfl⟩
theorem Quiet.step {M:ay} (h:Quiet M):M.step=(M,true):=by simp [ay.step,h.armed]
theorem Quiet.link {M:ay} (h:Quiet M) (x:iT):Quiet (M.link x):=⟨h.armed,h.off,h.left⟩
theorem Quiet.iU {M:ay} (h:Quiet M) (i:Nat) (f:bH):Quiet (M.iU i f):=⟨h.armed,h.off,h.left⟩
theorem Quiet.create {M:ay} (h:Quiet M) (s:ByteArray):Quiet (M.create s).1:=by
 unfold ay.create;rw [h.step];split;· exact h
 split;· exact h
 split;· exact h
 split;· exact h
 split;· exact h
 exact ⟨h.armed,h.off,h.left⟩
theorem Quiet.append {M:ay} (h:Quiet M) (s:ByteArray) (b:Bs):Quiet (M.append s b).1:=by
 unfold ay.append;rw [h.step];split;· exact h
 split;· exact h
 split;· exact h
 split;· exact h
 exact h.iU _ _
theorem Quiet.rename {M:ay} (h:Quiet M) (s t:ByteArray):Quiet (M.rename s t).1:=by
 unfold ay.rename;rw [h.step];split;· exact h
 split;· exact h
 split;· exact h
 split;· exact h
 exact h.link _
theorem Quiet.remove {M:ay} (h:Quiet M) (s:ByteArray):Quiet (M.remove s).1:=by
 unfold ay.remove;rw [h.step];split;· exact h
 split;· exact h
 split;· exact h
 exact h.link _
theorem Quiet.sync {M:ay} (h:Quiet M) (s:ByteArray):Quiet (M.sync s).1:=by
 unfold ay.sync;rw [h.step];split;· exact h
 split;· exact h
 split;· exact h
 exact h.iU _ _
theorem Quiet.dR {M:ay} (h:Quiet M):Quiet M.dR.1:=by
 unfold ay.dR;rw [h.step];split;· exact h
 split;· exact h
 exact ⟨h.armed,h.off,h.left⟩
theorem Quiet.Gx {M:ay} (h:Quiet M){s:ByteArray}{i:Nat} (hs:bP M.now s=some i):M.sync s=(M.iU i (M.file i).sync,0):=by
 unfold ay.sync;rw [h.step,h.off,hs]
 rfl
theorem EX {M:ay}{i:Nat}{f:bH} (hi:i<M.files.length) (j:Nat):(M.iU i f).file j=if j=i then f else M.file j:=by
 unfold ay.iU ay.file;simp only [acG];split
 ·rename_i h;subst h;rw [List.getElem?_set_self hi];rfl
 ·rename_i h;rw [List.getElem?_set_ne (Ne.symm h)]
theorem Quiet.Gw {M:ay} (h:Quiet M):M.dR=({ M with fast:=M.now,waits:=[] },0):=by
 unfold ay.dR;rw [h.step,abA (by rw [h.off];exact Bool.false_ne_true)];simp
theorem Quiet.list {M:ay} (h:Quiet M):M.list=M.now.map (·.1):=by unfold ay.list;rw [h.off];rfl
def qW (M:ay):Prop:=(M.now.map (·.2)).Nodup
theorem SG {M:ay} (hs:nC M.now) (hd:qW M){s:ByteArray}{i:Nat} (h:bP M.now s=some i) :
  (∀ p∈gU M.now s,p.2≠i)∧∀ g:Nat→Nat,(M.now.map fun p=>g p.2).sum=g i+((gU M.now s).map fun p=>g p.2).sum:=by
 have hp:=PL hs.keys (jF h);constructor
 ·have hd':(M.now.map fun p:ByteArray×Nat=>p.2).Nodup:=hd;have:=(hp.map (fun p:ByteArray×Nat=>p.2)).nodup_iff.1 hd';simp only [acS,amL]at this;intro p hp e;exact this.1 (abZ.2 ⟨p,hp,e⟩)
 ·intro g;have:=(hp.map fun p=>g p.2).sum_nat;simpa using this
theorem KH {l:Names}{g h:Nat→Nat} (e:∀ p∈l,g p.2=h p.2):(l.map fun p=>g p.2).sum=(l.map fun p=>h p.2).sum:=by
 rw [amJ e]
theorem abU {M:ay}{K:Nat} (ok:M.Ok K) (hd:qW M){s:ByteArray}{i:Nat} (h:bP M.now s=some i) (f:bH) :
  (M.iU i f).used+(M.file i).now.length=M.used+f.now.length:=by
 obtain ⟨h1,h2⟩:=SG ok.gG.mG hd h;have hi:i<M.files.length:=ok.gG.ids _ (jF h);have e1:=h2 fun j=>(M.file j).now.length;have e2:=h2 fun j=>((M.iU i f).file j).now.length
 have e3:((gU M.now s).map fun p=>((M.iU i f).file p.2).now.length).sum=((gU M.now s).map fun p=>(M.file p.2).now.length).sum:=
  KH (g:=fun j=>((M.iU i f).file j).now.length) (h:=fun j=>(M.file j).now.length) fun p hp=>by rw [EX hi,abA (h1 p hp)]
 have e4:(M.iU i f).file i=f:=by rw [EX hi,acr rfl]
 simp only [e4,e3]at e2;show (M.now.map fun p=>((M.iU i f).file p.2).now.length).sum+_=(M.now.map fun p=>(M.file p.2).now.length).sum+_;rw [e1,e2];omega
theorem KI (l:Names) (s:ByteArray) (g:Nat→Nat):((gU l s).map fun p=>g p.2).sum≤(l.map fun p=>g p.2).sum:=by
 induction l with
 |nil=>exact abL _
 |cons p l ih=>
  unfold gU at ih ⊢;rw [aie];split
  ·simp only [acS,aor];omega
  ·simp only [acS,aor];omega
theorem DI (l:Names) (s:ByteArray) (i:Nat) (g:Nat→Nat):((kC l s i).map fun p=>g p.2).sum=g i+((gU l s).map fun p=>g p.2).sum:=by
 have:=((wo l s i).map fun p=>g p.2).sum_nat;simpa using this
theorem Zr {l:Names}{s:ByteArray}{i:Nat} (h:(l.map (·.2)).Nodup) (hi:∀ p∈l,p.2≠i):((kC l s i).map (·.2)).Nodup:=by
 refine ((wo l s i).map (·.2)).nodup_iff.2 ?_;simp only [acS,amL];refine ⟨fun hm=>?_,h.sublist (anZ.map _)⟩;obtain ⟨p,hp,e⟩:=abZ.1 hm;exact hi p (acY.1 hp).1 e
structure Fits (M M':ay):Prop where
 room:M'.room=M.room
 dst:qW M'
 used:M'.used≤M'.room
theorem alT (M:ay):M.step.1.room=M.room∧M.step.1.now=M.now∧M.step.1.files=M.files:=⟨M.jL.1,M.jL.2.2.1,M.jL.2.2.2.1⟩
theorem Fits.self {M:ay} (hd:qW M) (hu:M.used≤M.room):Fits M M:=⟨rfl,hd,hu⟩
theorem abT {M M':ay} (h1:M'.now=M.now) (h2:M'.files=M.files):M'.used=M.used:=by unfold ay.used ay.file;rw [h1,h2]
theorem Fits.alike {M M':ay} (hd:qW M) (hu:M.used≤M.room) (hr:M'.room=M.room) (h1:M'.now=M.now) (h2:M'.files=M.files):Fits M M':=
 ⟨hr,by unfold qW;rw [h1];exact hd,by rw [abT h1 h2,hr];exact hu⟩
theorem Fits.set {M M':ay}{K:Nat} (ok:M.Ok K) (hd:qW M) (hu:M.used≤M.room) (hr:M'.room=M.room) (h1:M'.now=M.now) (h2:M'.files=M.files){s:ByteArray}{i:Nat} (h:bP M.now s=some i) (f:bH)
  (hf:M.used+f.now.length≤M.room+(M.file i).now.length):Fits M (M'.iU i f):=by
 have e:(M'.iU i f).used=(M.iU i f).used:=abT (by exact h1) (by show M'.files.set i f=M.files.set i f;rw [h2]);have:=abU ok hd h f;refine ⟨hr,by show (M'.now.map (·.2)).Nodup;rw [h1];exact hd,?_⟩;rw [e];show _≤M'.room;rw [hr];omega
theorem Fits.does {M:ay}{K:Nat} (ok:M.Ok K) (hd:qW M) (hu:M.used≤M.room) (x:Cal) (h8:x.kind≠8) (h9:x.kind≠9) :
  Fits M (M.does x).1∧((M.does x).2.2.1=11→x.kind=1∧M.room<M.qF+x.b.length):=by
 have r:=Fits.self hd hu;obtain ⟨s1,s2,s3⟩:=alT M;have rs:Fits M M.step.1:=Fits.alike hd hu s1 s2 s3;refine ay.afn (P:=fun q=>Fits M q.1∧(q.2.2.1=11→x.kind=1∧M.room<M.qF+x.b.length)) ?_ ?_ ?_ ?_ ?_ ?_ ?_ ?_ ?_ ?_ ?_ ?_
 ·intro _;show Fits M (M.create x.name).1∧((M.create x.name).2=11→_);unfold ay.create;split;· exact ⟨r,by simp⟩
  split;· exact ⟨r,by simp⟩
  rename_i hg;split;· exact ⟨r,by simp⟩
  rename_i hn;split;· exact ⟨r,by simp⟩
  split;· exact ⟨rs,by simp⟩
  refine ⟨?_,by simp⟩;have hnn:bP M.now x.name=none:=by simpa using hn
  have hlt:=ok.gG.ids;have hne:x.name≠ByteArray.empty:=qP (by simpa using hg);have xR:(({ M.step.1 with files:=M.files++[bH.new] }:ay).link ⟨ByteArray.empty,x.name,M.files.length⟩).now=kC M.now x.name M.files.length:=by
   show iT.on _ M.step.1.now=_;rw [s2];unfold iT.on;simp only [anJ,abA hne]
  have hdel:=yC hnn;refine ⟨s1,?_,?_⟩
  ·unfold qW;rw [xR];exact Zr hd fun p hp e=>by have:=hlt p hp;omega
  ·have:(({ M.step.1 with files:=M.files++[bH.new] }:ay).link ⟨ByteArray.empty,x.name,M.files.length⟩).used=M.used:=by
    show ((ay.now _).map fun p=>(ay.file _ p.2).now.length).sum=_;rw [xR,DI _ _ _ (fun j=>(ay.file _ j).now.length),hdel];have e0:((({ M.step.1 with files:=M.files++[bH.new] }:ay).link ⟨ByteArray.empty,x.name,M.files.length⟩).file M.files.length).now.length=0:=by
     simp [ay.file,ay.link,bH.new]
    rw [e0,acT];refine KH (g:=fun j=>(ay.file _ j).now.length) (h:=fun j=>(M.file j).now.length) fun p hp=>?_;have:=hlt p hp;simp only [ay.file,ay.link,acG];rw [ac2 this]
   rw [this];show _≤M.step.1.room;rw [s1];exact hu
 ·intro hk1;show Fits M (M.append x.name x.b).1∧((M.append x.name x.b).2=11→_);unfold ay.append;split;· exact ⟨r,by simp⟩
  rename_i hoff;split;· exact ⟨r,by simp⟩
  rename_i i hi;split
  ·rename_i hfull;refine ⟨r,fun _=>⟨hk1,?_⟩⟩;have:M.qF=M.used:=by unfold ay.qF;rw [abA hoff]
   rw [this];omega
  rename_i hfull;split;· exact ⟨rs,by simp⟩
  refine ⟨Fits.set ok hd hu s1 s2 s3 hi _ ?_,by simp⟩;simp only [bH.do,jd.on,afy,anY,aaK];omega
 ·intro _;show Fits M (M.truncate x.name x.n).1∧((M.truncate x.name x.n).2=11→_);unfold ay.truncate;split;· exact ⟨r,by simp⟩
  split;· exact ⟨r,by simp⟩
  rename_i i hi;split;· exact ⟨r,by simp⟩
  split;· exact ⟨rs,by simp⟩
  refine ⟨Fits.set ok hd hu s1 s2 s3 hi _ ?_,by simp⟩;simp only [bH.do,jd.on,anJ,acA];omega
 ·intro _;show Fits M (M.rename x.name x.to).1∧((M.rename x.name x.to).2=11→_);unfold ay.rename;split;· exact ⟨r,by simp⟩
  split;· exact ⟨r,by simp⟩
  rename_i i hi;split;· exact ⟨r,by simp⟩
  rename_i hg;split;· exact ⟨rs,by simp⟩
  refine ⟨?_,by simp⟩;have hne:x.to≠ByteArray.empty:=qP (by simpa using hg);have hs:x.name≠ByteArray.empty:=ok.gG.ne _ (jF hi);obtain ⟨h1,h2⟩:=SG ok.gG.mG hd hi;have xR:(M.step.1.link ⟨x.name,x.to,i⟩).now=kC (gU M.now x.name) x.to i:=by
   show iT.on _ M.step.1.now=_;rw [s2];unfold iT.on;simp only [abA hs,abA hne]
  refine ⟨s1,?_,?_⟩
  ·unfold qW;rw [xR];exact Zr (hd.sublist (anZ.map _)) h1
  ·have e1:=h2 fun j=>(M.file j).now.length;have e2:=KI (gU M.now x.name) x.to fun j=>(M.file j).now.length;have:(M.step.1.link ⟨x.name,x.to,i⟩).used=((kC (gU M.now x.name) x.to i).map fun p=>(M.file p.2).now.length).sum:=by
    show ((ay.now _).map fun p=>(ay.file _ p.2).now.length).sum=_;rw [xR];unfold ay.file ay.link;simp only [s3]
   rw [this,DI _ _ _ (fun j=>(M.file j).now.length)];show _≤M.step.1.room;rw [s1];unfold ay.used at hu;omega
 ·intro _;show Fits M (M.remove x.name).1∧((M.remove x.name).2=11→_);unfold ay.remove;split;· exact ⟨r,by simp⟩
  split;· exact ⟨r,by simp⟩
  rename_i i hi;split;· exact ⟨rs,by simp⟩
  refine ⟨?_,by simp⟩;have hs:x.name≠ByteArray.empty:=ok.gG.ne _ (jF hi);have xR:(M.step.1.link ⟨x.name,ByteArray.empty,0⟩).now=gU M.now x.name:=by
   show iT.on ⟨x.name,ByteArray.empty,0⟩ M.step.1.now=_;rw [s2];unfold iT.on;simp only [abA hs,anJ]
  refine ⟨s1,?_,?_⟩
  ·unfold qW;rw [xR];exact hd.sublist (anZ.map _)
  ·have e2:=KI M.now x.name fun j=>(M.file j).now.length;have:(M.step.1.link ⟨x.name,ByteArray.empty,0⟩).used=((gU M.now x.name).map fun p=>(M.file p.2).now.length).sum:=by
    show ((ay.now _).map fun p=>(ay.file _ p.2).now.length).sum=_;rw [xR];unfold ay.file ay.link;simp only [s3]
   rw [this];show _≤M.step.1.room;rw [s1];unfold ay.used at hu;omega
 ·intro _;show Fits M (M.sync x.name).1∧((M.sync x.name).2=11→_);unfold ay.sync;split;· exact ⟨r,by simp⟩
  split;· exact ⟨r,by simp⟩
  rename_i i hi;split;· exact ⟨rs,by simp⟩
  refine ⟨Fits.set ok hd hu s1 s2 s3 hi _ ?_,by simp⟩;simp only [bH.sync];omega
 ·intro _;show Fits M M.dR.1∧(M.dR.2=11→_);unfold ay.dR;split;· exact ⟨r,by simp⟩
  split;· exact ⟨rs,by simp⟩
  exact ⟨Fits.alike hd hu s1 s2 s3,by simp⟩
 ·intro _;show Fits M (M.arm x.n).1∧((M.arm x.n).2=11→_);unfold ay.arm;split;· exact ⟨r,by simp⟩
  split;· exact ⟨r,by simp⟩
  exact ⟨Fits.alike hd hu rfl rfl rfl,by simp⟩
 ·exact fun h=>absurd h h8
 ·exact fun h=>absurd h h9
 ·intro _;refine ⟨?_,fun h=>by simp at h⟩;show Fits M (M.nM x.name x.n (AL x.m)).1;unfold ay.nM;split;· exact r
  rename_i i hi;split;· exact r
  refine Fits.set ok hd hu rfl rfl rfl hi _ ?_;rw [((ok.file i).nM _ _).2,Tj];omega
 ·intro _;refine ⟨r,fun h=>?_⟩;exfalso;have h':(M.read x.name x.n x.m).2=11:=h;unfold ay.read at h';revert h';split
  ·simp
  split
  ·simp
  simp only;split
  ·simp
  split
  ·simp
  ·simp
def ay.J6 (m:ay) (s t:ByteArray) (gone:Bool):ay×Int:=
 if m.off then (m,12)
 else match bP m.now s with
 |none=>(m,9)
 |some i=>
  if gone=false∧good t=false then (m,7)
  else if m.step.2=false then (m.step.1,12)
  else (m.step.1.link ⟨s,if gone then ByteArray.empty else t,i⟩,0)
def ay.ajZ (D:ay) (l:List Int) (i:Nat) (p:ByteArray×Nat):bH:=(D.file p.2).crash (num l (2 * i+1)) (num l (2 * i+2))
def ay.ajI (D:ay) (l:List Int):ay:=
 let ns:=D.mD (IY (num l 0) D.waits.length)
 { D with fast:=ns.mapIdx fun i p=>(p.1,i),now:=ns.mapIdx fun i p=>(p.1,i),waits:=[],files:=ns.mapIdx (D.ajZ l),off:=false,armed:=false,left:=0 }
def ay.told (D:ay) (x:Cal):ay×(Bs×Int×Bool):=
 if x.kind=0 then ((D.create x.name).1,[],(D.create x.name).2,false)
 else if x.kind=1 then ((D.append x.name x.b).1,[],(D.append x.name x.b).2,false)
 else if x.kind=2 then ((D.truncate x.name x.n).1,[],(D.truncate x.name x.n).2,false)
 else if x.kind=3 then ((D.J6 x.name x.to false).1,[],(D.J6 x.name x.to false).2,false)
 else if x.kind=4 then ((D.J6 x.name ByteArray.empty true).1,[],(D.J6 x.name ByteArray.empty true).2,false)
 else if x.kind=5 then ((D.sync x.name).1,[],(D.sync x.name).2,false)
 else if x.kind=6 then (D.dR.1,[],D.dR.2,false)
 else if x.kind=7 then ((D.arm x.n).1,[],(D.arm x.n).2,false)
 else if x.kind=8 then (D.ajI x.l,[],0,false)
 else if x.kind=9 then ((D.jR x.n).1,[],(D.jR x.n).2,false)
 else if x.kind=10 then ((D.nM x.name x.n (AL x.m)).1,[],0,(D.nM x.name x.n (AL x.m)).2)
 else (D,(D.read x.name x.n x.m).1,(D.read x.name x.n x.m).2,false)
def ren (φ:Nat→Nat) (l:Names):Names:=l.map fun p=>(p.1,φ p.2)
structure Side (φ:Nat→Nat) (L:Nat→Prop) (M D:ay):Prop where
 room:D.room=M.room
 armed:D.armed=M.armed
 left:D.left=M.left
 off:D.off=M.off
 wl:D.waits.length=M.waits.length
 now:D.now=ren φ M.now
 names:∀ k,k≤M.waits.length→D.mD k=ren φ (M.mD k)
 live:∀ k,k≤M.waits.length→∀ p∈M.mD k,L p.2
 once:∀ k,k≤M.waits.length→((M.mD k).map (·.2)).Nodup
 inj:∀ i j,L i→L j→φ i=φ j→i=j
 file:∀ i,L i→D.file (φ i)=M.file i
 lt:∀ i,L i→φ i<D.files.length
 ml:∀ i,L i→i<M.files.length
section
variable {φ:Nat→Nat}{L:Nat→Prop}{M D:ay}{K:Nat}
end
section
variable {φ:Nat→Nat}{L:Nat→Prop}{M D:ay}{K:Nat}
def Both (r q:ay×Int):Prop:=r.2=q.2∧∃ φ L,Side φ L r.1 q.1
end
def bH.Small (f:bH):Prop:=∀ c∈f.waits,c.b.length≤16777216
def ay.Small (m:ay):Prop:=∀ f∈m.files,f.Small
end Go.ay
