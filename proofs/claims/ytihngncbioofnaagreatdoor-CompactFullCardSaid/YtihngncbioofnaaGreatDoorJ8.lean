import Derived.Test.YtihngncbioofnaaGreatDoorJ7
import Derived.Laws.StructEq
import Derived.Lib.ConvBytes
import Derived.ArgAppend
import Derived.Laws.BitsAllLaws
set_option maxRecDepth 20000
set_option linter.unusedVariables false
set_option maxHeartbeats 128000000
namespace Go.Proofs.YtihngncbioofnaaGreatDoor
open Go Go.Sl Go.ay Go.MapKept Go.RowKit
def vN (w0:World) (F:List aH) (bt:Rep.Told) (ns:List Int) (p m:Nat) (L:Seg.Log) (M:ay) (v:Value) (w':World):Prop:=
 match Rep.run bt ns with
 |.inl (fl,e)=>v = .tuple #[.pointer none,.agg (fA fl),errno e]∧Sat w0 w' (aK p m L::aJ m M::F)
 |.inr n=>∃ (ps pi:Nat) (uv tv av:Value) (kv:List (ah.Bs×Rep.dP)),v = .tuple #[ptr ps,.agg (fA Rep.dZ.zero),errno 0] ∧
   (Tab.Lists (Rep.ledger (Rep.rowsOf bt (ns.take n))) kv∧(∀ q∈kv,q.1.length=32)∧kv.length≤(Rep.rowsOf bt (ns.take n)).length) ∧
   ((∃ a' c',tv = .slice a' (ns.length - n) c')∧∀ W,bG 1 av (ints ns) W→bG 1 tv (ints (ns.drop n)) W) ∧
   Sat w0 w' (dh ps (Rep.nY (ns.take n)) pi uv tv::aI pi (Tab.mapOf (Rep.puts kv)) kv.length::aB 45 3 uv (((Rep.jC bt (ns.take n)).map (Rep.upd kv)).flatMap bT)::aB 3 1 av (ints ns)::aK p m L::aJ m M::F)
section
variable {w0 w:World}{F:List aH}{p m K:Nat}{L:Seg.Log}{M:ay}
theorem anb:jr Tryz.prog 193=some (.agg #[.pointer none]):=by kernel_rfl
theorem Q5 (hL:L.Ok) (hM:M.Ok K) (hH:Ro w0 F Half) (hrows:(Rep.rowsOf (dH L M) L.aF).length≤12000000) (hsz:∀ r∈Rep.rowsOf (dH L M) L.aF,(r.2.size:Int)≤4294967296) (h:Sat w0 w (aK p m L::aJ m M::F)) :
  Calls Tryz.prog 62 #[ptr p] w (aP fun v w'=>vN w0 F (dH L M) L.aF p m L M v w'):=by
 have Hlen:=uQ (show L.aF.length≤1048576 from by unfold Seg.Log.aF;rw [abl];have:=hL.len;omega);have hse:=FY hL h
 have MF:=uQ (show ∀ s∈L.aF,0≤s from fun s hs=>by
  unfold Seg.Log.aF at hs;obtain ⟨x,hx,rfl⟩:=abZ.1 hs;exact (hL.nums x hx).1)
 have HL:=uQ hL;have HM:=uQ hM;have HH:=uQ hH;have MQ:=uQ hrows;have iC:=uQ hsz;clear hL hM hH hrows hsz;go_enter Tryz.func62,Tryz.ntmps62;go_wp2_with (with_reducible apply gq);refine ⟨fF qc h rfl ?_⟩;intro b3 w3 h3;clear hse h;go_wp2_with fail;refine (FY HL.out (h3.pick aY)).mono ?_;rintro ee w4 ⟨sv,rfl,h4⟩;have hsp:=split_c HL.out HM.out (Ro.os HH.out) (h4.sb:Sat w0 w4 (aB 3 1 sv (ints L.aF)::aK p m L::aJ m M::pt b3 (.cells (fA Rep.dZ.zero) 63 (0,0))::F));clear h3 h4;go_wp2_with fail;refine hsp.mono ?_;rintro ee w5 ⟨v,rfl,rfl,h5⟩;clear hsp;by_cases h0:(Rep.split (dH L M) L.aF L.aF.length).2=0;rotate_left
 ·have hb:((Rep.split (dH L M) L.aF L.aF.length).2 != 0)=true:=by rw [agL];exact h0
  have Hf:=uQ (show Rep.run (dH L M) L.aF = .inl (Rep.dZ.zero,(Rep.split (dH L M) L.aF L.aF.length).2) by unfold Rep.run;rw [acr h0]);have h6:Sat w0 w5 (pt b3 (.cells (fA Rep.dZ.zero) 63 (0,0))::aK p m L::aJ m M::F):=h5.sb;clear h0 h5
  go_wp2_with (first
   |((with_reducible refine Nj ⟨?_⟩);refine SS (fun w=>Kq w) ?_)
   |((with_reducible refine cO ⟨?_⟩);refine gJ (fA Rep.dZ.zero) h6 aj aj aj cZ au aj ?_;intro w9 h9))
  refine ⟨rfl,_,Bo rfl h9 aj bC Tryz.underlying63 rfl au,_,rfl,?_⟩;unfold vN;rw [Hf.out];exact ⟨rfl,h9.drop⟩
 have hb:((Rep.split (dH L M) L.aF L.aF.length).2 != 0)=false:=by rw [h0];rfl
 have qL:=uQ (Rep.Ry (dH L M) L.aF L.aF.length);have Hf:=uQ (show Rep.run (dH L M) L.aF=Rep.Dy (dH L M) L.aF (Rep.split (dH L M) L.aF L.aF.length).1 by unfold Rep.run;rw [abA (fun h=>h h0)]);rw [h0];generalize (Rep.split (dH L M) L.aF L.aF.length).1=n at *
 clear h0;obtain ⟨tv,htl,⟨ta,tc,rfl⟩,htr⟩:=ame qL.out h5;have Htr:=uQ htr;clear htr;go_wp2_with fail;have hG:True:=trivial;have h6:=h5.drew;clear h5;refine dS [] (fun w'=>True) au ?_;refine rP 1 ?_ (y:=aZ);refine rP 2 ?_ (y:=aZ);refine rP 3 ?_ (y:=(acn ak ak htl));refine bY 0 ak au (fun K hK=>?_);refine xK [] au (by simp) ?_;refine (aiw h6).mono ?_;rintro ee w7 ⟨v,rfl,pi,rfl,h7⟩;refine hK _ _ (.inr (.inl trivial)) ?_;clear hK h6;refine rp 4 (hy:=(by (refine Or.inl ⟨by rfl,?_⟩;((intro wq;go_simp);first|done|exact wQ)))) (h:=?_);refine bY 5 ak au (fun K hK=>?_);refine I9 (cs:=#[.int .i64 (-1),ptr pi,.slice none 0 0,.slice ta (L.aF.length - n) tc]) h7 ak ak ?_;intro ps w8 h8;refine hK _ _ (.inr (.inl trivial)) ?_;clear hK h7;refine rP 6 ?_ (y:=fZ);refine dI au ?_;clear hG;go_wp2_with fail;refine (aiu h8).mono ?_;rintro ee w9 ⟨v,rfl,pg,rfl,h9⟩;clear h8
 go_wp2_with (with_reducible apply gq);refine ⟨fF anb h9 rfl ?_⟩;intro b9 w10 h10;clear h9;obtain ⟨ha,hc,hhl,hhr⟩:=agX qL.out (h10.sb:Sat w0 w10 (aB 3 1 sv (ints L.aF)::F));go_wp2_with ((with_reducible refine cO ⟨?_⟩);refine fG (cs':=#[ptr pg]) h10 aj ak aj cZ bJ au aj ?_;intro iV h11)
 have h12:Sat w0 iV (dh ps (Rep.nY (L.aF.take 0)) pi (.slice none 0 0) (.slice ta (L.aF.length - n) tc)::aB 45 3 (.slice none 0 0) ((Rep.jC (dH L M) (L.aF.take 0)).flatMap bT)::aI pi (fun _=>none) 0::pt b9 (.cells #[ptr pg] 193 (0,0)) ::
  fE pg (Rep.ledger (Rep.rowsOf (dH L M) (L.aF.take 0))) (Rep.rowsOf (dH L M) (L.aF.take 0)).length::pt b3 (.cells (fA Rep.dZ.zero) 63 (0,0))::aB 3 1 sv (ints L.aF)::aK p m L::aJ m M::F):=(Sat.gI.2 h11).sb
 clear h10 h11 htl
 go_loopg [45] n (fun g iq wr=>∃ (i:Nat) (uv:Value),g=n - i∧i≤n∧iq = .int .i64 i∧Rep.bad (dH L M) (L.aF.take i)=none∧Sat w0 wr (dh ps (Rep.nY (L.aF.take i)) pi uv (.slice ta (L.aF.length - n) tc)::aB 45 3 uv ((Rep.jC (dH L M) (L.aF.take i)).flatMap bT)::aI pi (fun _=>none) 0::pt b9 (.cells #[ptr pg] 193 (0,0)) ::
  fE pg (Rep.ledger (Rep.rowsOf (dH L M) (L.aF.take i))) (Rep.rowsOf (dH L M) (L.aF.take i)).length::pt b3 (.cells (fA Rep.dZ.zero) 63 (0,0))::aB 3 1 sv (ints L.aF)::aK p m L::aJ m M::F))
 case atStart=>exact ⟨0,.slice none 0 0,rfl,acV _,rfl,rfl,h12⟩
 case round=>
  obtain ⟨i,uv,rfl,hi,rfl,hbad,hS⟩:=hrel;clear h12;have vk:=uQ hbad;clear hbad;by_cases hlt:i<n;rotate_left
  ·obtain rfl:i=n:=by omega
   have c1:¬ (i:Int)<(i:Int):=oQ;obtain ⟨kv,k1,k2,k3⟩:=fE.lists (hS.pk (A:=fE pg (Rep.ledger (Rep.rowsOf (dH L M) (L.aF.take i))) (Rep.rowsOf (dH L M) (L.aF.take i)).length));have k4:=acz (Rep.QG (dH L M) L.aF i) MQ.out;have hks:∀ q∈kv,q.1.length=32∧0≤q.2.place.size∧q.2.place.size≤4294967296:=fun q hq=>by
    obtain ⟨r,hr,e⟩:=Rep.ah0 ((k1.mem q.1 q.2).1 hq);rw [e];exact ⟨k2 q hq,Int.natCast_nonneg _,iC.out r (Rep.akh _ _ _ r hr)⟩
   have hfl:=afX (us:=Rep.jC (dH L M) (L.aF.take i)) k1 oQ oQ hks (by unfold Rep.jC;rw [abl,acA];have:=Hlen.out;omega)
    (hS.sb:Sat w0 wr (dh ps (Rep.nY (L.aF.take i)) pi uv (.slice ta (L.aF.length - i) tc)::aI pi (fun _=>none) 0::fE pg (Rep.ledger (Rep.rowsOf (dH L M) (L.aF.take i))) (Rep.rowsOf (dH L M) (L.aF.take i)).length ::
     aB 45 3 uv ((Rep.jC (dH L M) (L.aF.take i)).flatMap bT)::pt b3 (.cells (fA Rep.dZ.zero) 63 (0,0))::aB 3 1 sv (ints L.aF)::aK p m L::aJ m M::F))
   have K:=uQ (And.intro k1 (And.intro k2 k3));have Hg:=uQ (Hf.out.trans (Rep.QZ vk.out));have Htv:=uQ Htr.out;clear k1 k2 k3 k4 hks hlt hi;go_wp2_with ((with_reducible refine bI ⟨?_⟩);refine iW (cs:=#[ptr pg]) hS aj (aT (aT (aT aV))) Tryz.underlying193 rfl au ?_);refine hfl.mono ?_;rintro ee nN ⟨v,rfl,ku⟩;clear hfl hS
   go_wp2_with (first
    |((with_reducible refine Nj ⟨?_⟩);refine SS (fun w=>Kq w) ?_)
    |((with_reducible refine cO ⟨?_⟩);refine gJ (fA Rep.dZ.zero) ku aj aj aj (jh (jh (jh (jh cZ)))) au aj ?_;intro w15 h15))
   refine ⟨rfl,_,Bo rfl h15 aj (aT (aT (aT (aT aV)))) Tryz.underlying63 rfl au,_,rfl,?_⟩;unfold vN;rw [Hg.out];exact ⟨ps,pi,uv,.slice ta (L.aF.length - i) tc,sv,kv,rfl,K.out,⟨⟨ta,tc,rfl⟩,Htv.out⟩,h15.sb⟩
  have c1:(i:Int)<(n:Int):=oQ;have hwi:IntKind.i64.wrap ((i:Int)+1)=(i:Int)+1:=acC _ (by have:=qL.out;have:=Hlen.out;omega);have hni:(L.aF.take n).length=n:=by rw [acA];have:=qL.out;omega
  obtain ⟨s,hs⟩:∃ s,(L.aF.take n)[i]?=some s:=⟨_,aaI oQ⟩;have hs2:L.aF[i]?=some s:=by rw [adC]at hs;rw [acr hlt]at hs;exact hs
  have gY:=uQ (show L.aF.take (i+1)=L.aF.take i++[s] by rw [adD,hs2,agU])
  have Ip:=uQ (show ∃ post,L.aF.take n=L.aF.take i++s::post by
   obtain ⟨h1,e⟩:=abW.1 hs;refine ⟨(L.aF.take n).drop (i+1),?_⟩;have e2:L.aF.take i=(L.aF.take n).take i:=by rw [List.take_take,aoe (Nat.le_of_lt hlt)]
   rw [e2,← e,← aic h1,adB])
  have Hs0:=uQ (MF.out s (abV hs2));obtain ⟨bk,off,c',hsv,f0⟩:=sU (hhr _ (Sat.rd (hS.pk (A:=aB 3 1 sv (ints L.aF))))) hs;rw [hni]at hsv;cases hsv
  have hb:=FV HL.out HM.out s (hS.sb:Sat w0 wr (aK p m L::aJ m M::dh ps (Rep.nY (L.aF.take i)) pi uv (.slice ta (L.aF.length - n) tc)::aB 45 3 uv ((Rep.jC (dH L M) (L.aF.take i)).flatMap bT)::aI pi (fun _=>none) 0::pt b9 (.cells #[ptr pg] 193 (0,0)) ::
   fE pg (Rep.ledger (Rep.rowsOf (dH L M) (L.aF.take i))) (Rep.rowsOf (dH L M) (L.aF.take i)).length::pt b3 (.cells (fA Rep.dZ.zero) 63 (0,0))::aB 3 1 sv (ints L.aF)::F))
  have bV:=uQ hlt;clear hS hs hs2 hni hlt hi;go_wp2_with fail;refine hb.mono ?_;rintro ee Lh ⟨v,rfl,bv,rfl,h20⟩;clear hb f0;obtain ⟨hcap,ca,cc,rfl⟩:=NC h20;by_cases h0:(L.bytes M s).2=0;rotate_left
  ·have hb1:((L.bytes M s).2 != 0)=true:=by rw [agL];exact h0
   have Hg:=uQ (show Rep.run (dH L M) L.aF = .inl (Rep.dZ.zero,(L.bytes M s).2) by
    rw [Hf.out];obtain ⟨post,e⟩:=Ip.out;exact Rep.aaL (by rw [e];exact Rep.aei vk.out h0))
   have h21:Sat w0 Lh (pt b3 (.cells (fA Rep.dZ.zero) 63 (0,0))::aK p m L::aJ m M::F):=h20.sb;clear h20 h0 hcap
   go_wp2_with (first
    |((with_reducible refine Nj ⟨?_⟩);refine SS (fun w=>Kq w) ?_)
    |((with_reducible refine cO ⟨?_⟩);refine gJ (fA Rep.dZ.zero) h21 aj aj aj cZ au aj ?_;intro w22 h22))
   refine ⟨rfl,_,Bo rfl h22 aj bC Tryz.underlying63 rfl au,_,rfl,?_⟩;unfold vN;rw [Hg.out];exact ⟨rfl,h22.drop⟩
  have hb1:((L.bytes M s).2 != 0)=false:=by rw [h0];rfl
  have H0:=uQ h0;rw [h0];clear h0;have hbl:=Seg.EN (L:=L) HM.out s;have hsc:=Oe (w0:=w0) (w:=Lh) (L.bytes M s).1 (Ro.bK _ _) hcap (Ro.os HH.out) (acz hbl aN) h20;clear hcap;go_wp2_with fail;refine hsc.mono ?_;rintro ee SH ⟨v,rfl,fs,fv,hfs,hfk,rfl,h21⟩;clear hsc h20;obtain ⟨fa,fc,rfl⟩:=N9 hfk h21;by_cases h1:(ah.scan (L.bytes M s).1).2.2=0;rotate_left
  ·have hb2:((ah.scan (L.bytes M s).1).2.2 != 0)=true:=by rw [agL];exact h1
   have Hg:=uQ (show Rep.run (dH L M) L.aF = .inl (Rep.fault s (ah.scan (L.bytes M s).1).2.1,13) by
    rw [Hf.out];obtain ⟨post,e⟩:=Ip.out;exact Rep.aaL (by rw [e];exact Rep.aej vk.out H0.out h1))
   have h22:Sat w0 SH (pt b3 (.cells (fA Rep.dZ.zero) 63 (0,0))::aK p m L::aJ m M::F):=h21.sb;clear h21 h1 hfs hfk;go_wp2_with fail;refine (afS s (ah.scan (L.bytes M s).1).2.1 h22).mono ?_;rintro ee w23 ⟨v,rfl,rfl,h23⟩;clear h22;go_wp2_with ((with_reducible refine cO ⟨?_⟩);refine gJ (fA (Rep.fault s (ah.scan (L.bytes M s).1).2.1)) h23 aj aj aj cZ au aj ?_;intro Lj vV);refine ⟨rfl,_,Bo rfl vV aj bC Tryz.underlying63 rfl au,_,rfl,?_⟩;unfold vN;rw [Hg.out];exact ⟨rfl,vV.drop⟩
  have hb2:((ah.scan (L.bytes M s).1).2.2 != 0)=false:=by rw [h1];rfl
  have H1:=uQ h1;rw [h1];clear h1
  have h22:Sat w0 SH (fE pg (Rep.ledger (Rep.rowsOf (dH L M) (L.aF.take i)++(fs.take 0).map fun q=>(s,q.1))) ((Rep.rowsOf (dH L M) (L.aF.take i)).length+0)::dh ps (Rep.nY (L.aF.take i)) pi uv (.slice ta (L.aF.length - n) tc)::aB 45 3 uv ((Rep.jC (dH L M) (L.aF.take i)).flatMap bT)::aI pi (fun _=>none) 0::pt b9 (.cells #[ptr pg] 193 (0,0)) ::
   pt b3 (.cells (fA Rep.dZ.zero) 63 (0,0))::aB 3 1 sv (ints L.aF)::aK p m L::aJ m M::aB 54 36 (.slice fa fs.length fc) (jD fs)::kN fs::F):=by
   have q:Sat w0 SH (fE pg (Rep.ledger (Rep.rowsOf (dH L M) (L.aF.take i))) (Rep.rowsOf (dH L M) (L.aF.take i)).length::dh ps (Rep.nY (L.aF.take i)) pi uv (.slice ta (L.aF.length - n) tc)::aB 45 3 uv ((Rep.jC (dH L M) (L.aF.take i)).flatMap bT)::aI pi (fun _=>none) 0::pt b9 (.cells #[ptr pg] 193 (0,0)) ::
   pt b3 (.cells (fA Rep.dZ.zero) 63 (0,0))::aB 3 1 sv (ints L.aF)::aK p m L::aJ m M::aB 54 36 (.slice fa fs.length fc) (jD fs)::kN fs::F):=h21.sb
   rw [adH,adw,acM,aif];exact q
  have H9:=uQ (show (Rep.rowsOf (dH L M) (L.aF.take i)).length+fs.length≤12000000 by
   have q1:=Rep.QG (dH L M) L.aF (i+1);rw [gY.out,Rep.aaG,aaK,abl,show (ah.scan (dH L M s).1).1=fs.map (·.1) from hfs.symm,abl]at q1;exact acz q1 MQ.out)
  have hfl:fs.length≤16777216:=by
   have:=ah.Rj (L.bytes M s).1;rw [← hfs,abl]at this;omega
  have zl:=uQ hfl;have ny:=uQ hfs;have qK:=uQ hfk;clear h21 hbl hfs hfk;go_wp2_with fail
  go_loopg [72] fs.length (fun g jq wr=>∃ j:Nat,g=fs.length - j∧j≤fs.length∧jq = .int .i64 j∧Sat w0 wr (fE pg (Rep.ledger (Rep.rowsOf (dH L M) (L.aF.take i)++(fs.take j).map fun q=>(s,q.1))) ((Rep.rowsOf (dH L M) (L.aF.take i)).length+j)::dh ps (Rep.nY (L.aF.take i)) pi uv (.slice ta (L.aF.length - n) tc)::aB 45 3 uv ((Rep.jC (dH L M) (L.aF.take i)).flatMap bT)::aI pi (fun _=>none) 0::pt b9 (.cells #[ptr pg] 193 (0,0)) ::
   pt b3 (.cells (fA Rep.dZ.zero) 63 (0,0))::aB 3 1 sv (ints L.aF)::aK p m L::aJ m M::aB 54 36 (.slice fa fs.length fc) (jD fs)::kN fs::F))
  case atStart=>exact ⟨0,rfl,acV _,rfl,h22⟩
  case round=>
   obtain ⟨j,rfl,hj,rfl,hS⟩:=hrel;clear h22;by_cases hjl:j<fs.length;rotate_left
   ·obtain rfl:j=fs.length:=by omega
    have d1:¬ (fs.length:Int)<(fs.length:Int):=oQ;rw [adk]at hS;clear hjl hj;have CW:((Rep.jC (dH L M) (L.aF.take i)).flatMap bT).length≤2147483648:=by
     rw [iY (k:=3) fun u _=>rfl];unfold Rep.jC;rw [abl,acA];have:=Hlen.out;omega
    go_wp2_with (first
     |((with_reducible refine cO ⟨?_⟩);refine fG (cs':=#[.int .i64 s,ptr pi,uv,.slice ta (L.aF.length - n) tc]) hS aj ak aj (jh cZ) bJ au aj ?_;intro w40 Ji)
     |((with_reducible refine bI ⟨?_⟩);refine gu Ji aj (aT aV) bJ ak au ?_)
     |(with_reducible apply pI))
    refine ⟨o7 (e:=45) (sz:=3) (eY:=24) au Ji aj (cs:=#[.int .i64 s,.int .i64 ((L.bytes M s).1.length:Nat),.int .i64 0]) rfl rfl aN ?_⟩;intro b41 w41 sK;go_wp2_with (with_reducible apply lX);refine ⟨pW 45 3 24 au sK aj aj (aT (aT (aT aV))) aV rfl (abL 1) aj CW (by show 3≤65536;decide) aN rfl ?_⟩;intro bA nA cA w42 h42;go_wp2_with ((with_reducible refine cO ⟨?_⟩);refine fG (cs':=#[.int .i64 s,ptr pi,.slice (some ⟨bA,0,none⟩) nA cA,.slice ta (L.aF.length - n) tc]) h42 aj ak aj (jh (jh cZ)) bJ au aj ?_;intro w43 h43)
    have h44:Sat w0 w43 (dh ps (Rep.nY (L.aF.take (i+1))) pi (.slice (some ⟨bA,0,none⟩) nA cA) (.slice ta (L.aF.length - n) tc)::aB 45 3 (.slice (some ⟨bA,0,none⟩) nA cA) ((Rep.jC (dH L M) (L.aF.take (i+1))).flatMap bT)::aI pi (fun _=>none) 0::pt b9 (.cells #[ptr pg] 193 (0,0)) ::
     fE pg (Rep.ledger (Rep.rowsOf (dH L M) (L.aF.take (i+1)))) (Rep.rowsOf (dH L M) (L.aF.take (i+1))).length::pt b3 (.cells (fA Rep.dZ.zero) 63 (0,0))::aB 3 1 sv (ints L.aF)::aK p m L::aJ m M::F):=by
     rw [gY.out,Rep.ahY,Rep.amF,Rep.aaG,aaK,abl,show (ah.scan (dH L M s).1).1=fs.map (·.1) from ny.out.symm,abl,aee,adz];exact h43.sb
    clear Ji sK h42 h43 hS
    go_roundg (n - (i+1))
    case measure=>have:=bV.out;omega
    case rel=>exact ⟨i+1,.slice (some ⟨bA,0,none⟩) nA cA,rfl,bV.out,by first|rfl|go_num,by rw [gY.out];exact Rep.aeh vk.out H0.out H1.out,h44⟩
   have d1:(j:Int)<(fs.length:Int):=oQ;have Ju:IntKind.i64.wrap ((j:Int)+1)=(j:Int)+1:=acC _ oQ;obtain ⟨⟨f,dv⟩,hq⟩:∃ q,fs[j]?=some q:=⟨_,aaI hjl⟩;have pO:f.e.key.length=32:=qK.out _ (abV hq);obtain ⟨da,dn,dc,rfl,_,_⟩:=I5 hq wr (hS.pk (A:=kN fs));obtain ⟨bk2,off2,c2,e2,hcell⟩:=jG (f:=fun q:ah.dA×Value=>mO q.1 q.2) (k:=36) (fun q hq=>sH q.1 q.2 (qK.out q hq)) (Sat.rd (hS.pk (A:=aB 54 36 (.slice fa fs.length fc) (jD fs)))) hq aN;cases e2;have Au:(mO f (.slice da dn dc)).length=36:=sH _ _ pO;have vJ:=uQ (show (fs.take (j+1)).map (fun q=>(s,q.1))=(fs.take j).map (fun q=>(s,q.1))++[(s,f)] by rw [adD,hq,agU,acI];rfl);have lD:=uQ hjl;have kL:=uQ pO;clear hq pO hj
   go_wp2_with (first
    |((with_reducible refine bI ⟨?_⟩);refine iL (b:=bk2) (o:=off2+j * 36) (mO f (.slice da dn dc)) aj hcell Tryz.underlying54 rfl (by rw [Au];kernel_rfl) ?_)
    |(with_reducible apply gq))
   refine ⟨fF GY hS rfl ?_⟩;intro b17 w30 h30
   go_wp2_with (first
    |((with_reducible refine cO ⟨?_⟩);refine gJ (fU f (.slice da dn dc)) h30 aj aj (by rw [oK _ _ kL.out];rfl) cZ (by rw [oK _ _ kL.out];kernel_rfl) (E5 _ _ _ _) ?_;intro wJ h31)
    |((with_reducible refine bI ⟨?_⟩);refine iW (cs:=fU f (.slice da dn dc)) h31 aj aV Tryz.underlying54 rfl (by rw [oK _ _ kL.out];kernel_rfl) ?_)
    |((with_reducible refine bI ⟨?_⟩);refine iW (cs:=#[ptr pg]) h31 aj (aT (aT (aT (aT (aT aV))))) Tryz.underlying193 rfl au ?_))
   have hrl:=Rep.QG (dH L M) L.aF i;refine (amg (p:=pg) s f kL.out (by have:=MQ.out;have:=zl.out;have:=lD.out;have:=H9.out;omega) (h31.pick aY)).mono ?_;rintro ee w32 ⟨v,rfl,h32⟩;clear h30 h31 hS hcell;have hnn:∀ x∈Rep.rowsOf (dH L M) (L.aF.take i)++(fs.take j).map (fun q=>(s,q.1)),0≤x.1:=fun x hx=>by
    rcases ac3.1 hx with hx|hx
    ·unfold Rep.rowsOf at hx;obtain ⟨u,hu,hx⟩:=ahK.1 hx;obtain ⟨g,_,rfl⟩:=abZ.1 hx;exact MF.out u (adG hu)
    ·obtain ⟨g,_,rfl⟩:=abZ.1 hx;exact Hs0.out
   rw [← Rep.ah1 _ _ hnn,acD,← vJ.out]at h32;clear hnn;go_wp2_with fail
   go_roundg (fs.length - (j+1))
   case measure=>have:=lD.out;omega
   case rel=>exact ⟨j+1,rfl,lD.out,by first|rfl|go_num,h32.sb⟩
end
end Go.Proofs.YtihngncbioofnaaGreatDoor
namespace Go.Seg
open Go.ay
section
variable {i j K:Nat}{M D:ay}
end
section
variable {i n c K:Nat}{L:Log}{M D:ay}
theorem KC (h:L.Ok):L.aF.Pairwise (· < ·):=h.rise
theorem alk (h:L.Ok):∀ s∈L.aF,0≤s:=fun s hs=>by
 unfold Log.aF at hs;obtain ⟨x,hx,rfl⟩:=abZ.1 hs;exact (h.nums x hx).1
theorem rows_ok (h:L.Ok) (M:ay) (n:Nat):Rep.Rows (Rep.rowsOf (fun s=>L.bytes M s) (L.aF.take n)):=
 Rep.akg ((KC h).sublist (List.take_sublist _ _)) fun s hs=>alk h s (adG hs)
end
end Go.Seg
namespace Go.Rep
open Go.ah (Bs dA aG dN encs fH)
open Go.Seg (aU mag)
open Go.Tab
theorem JH:∀ {l:List Row}{k:Bs}{r:Row},newest l k=some r→r∈l∧dJ r≠2∧fB r=k
 |[],_,_,h=>by cases h
 |x::l,k,r,h=>by
  unfold newest at h;split at h
  ·rename_i y hy;cases h;obtain ⟨h1,h2⟩:=JH hy;exact ⟨.tail _ h1,h2⟩
  ·split at h
   ·rename_i hh;cases h;exact ⟨.head _,hh⟩
   ·cases h
end Go.Rep
namespace Go.Seg
open Go.ay
open Go.ah (Bs dA encs fH dN aG)
open Go.Rep
section
variable {n:Nat}{ds:List aG}{L:Log}{M:ay}{C:List (List aG)}{c:Nat}
end
end Go.Seg
namespace Go.Rep
open Go.ah (Bs dA aG dN encs fH)
open Go.Seg (aU mag)
open Go.Tab
def dO (l:List Row) (k:Bs):Option aU:=(newest l k).bind fun r=>if dJ r=0 then some (iH r) else none
def jA (es:List aG) (k:Bs):Option Bs:=(oO es k).bind fun e=>if e.tag=0 then some e.data else none
section
variable {l:List Row}{r:Row}{k:Bs}{es:List aG}{x:aG}{C:List (List aG)}
theorem JJ (h:dJ r=0):dO (l++[r])=Tab.put (dO l) (fB r) (iH r):=by
 funext k
 unfold dO Tab.put;rw [Df];by_cases hk:k=fB r
 ·rw [acr ⟨by rw [h];decide,hk.symm⟩,acr hk];show (if dJ r=0 then some (iH r) else none)=_;rw [acr h]
 ·rw [abA (fun q=>hk q.2.symm),abA hk]
theorem aiI (h:dJ r=1):dO (l++[r])=Tab.del (dO l) (fB r):=by
 funext k
 unfold dO Tab.del;rw [Df];by_cases hk:k=fB r
 ·rw [acr ⟨by rw [h];decide,hk.symm⟩,acr hk];show (if dJ r=0 then some (iH r) else none)=_;rw [abA (by rw [h];decide)]
 ·rw [abA (fun q=>hk q.2.symm),abA hk]
theorem P6 (h:dJ r=2):dO (l++[r])=dO l:=by
 funext k
 unfold dO;rw [Df,abA (fun q=>q.1 h)]
theorem Zu (l:List Row) (k:Bs):(dO l k).isSome=(jA (l.map (·.2.e)) k).isSome∧∀ r,newest l k=some r→dJ r=0→jA (l.map (·.2.e)) k=some r.2.e.data:=by
 have e:=PW l k;unfold dO jA;rw [← e];cases hn:newest l k with
 |none=>exact ⟨rfl,fun r hr=>by cases hr⟩
 |some r=>
  refine ⟨?_,fun r' hr h0=>?_⟩
  ·show (if dJ r=0 then some (iH r) else none).isSome=(if r.2.e.tag=0 then some r.2.e.data else none).isSome;unfold dJ;split <;> rfl
  ·cases hr;show (if r.2.e.tag=0 then some r.2.e.data else none)=_;rw [acr (show r.2.e.tag=0 from h0)]
theorem aiH {p:aU} (h:dO l k=some p):∃ r∈l,iH r=p∧dJ r=0∧fB r=k∧jA (l.map (·.2.e)) k=some r.2.e.data:=by
 have h':=h;unfold dO at h;obtain ⟨r,h1,h2⟩:=Option.bind_eq_some_iff.1 h;obtain ⟨h3,h4,h5⟩:=JH h1;split at h2
 ·rename_i h6;cases h2;exact ⟨r,h3,rfl,h6,h5,(Zu l k).2 r h1 h6⟩
 ·cases h2
theorem aiR (h:x.tag=0):jA (es++[x])=Tab.put (jA es) x.key x.data:=by
 funext k
 unfold jA Tab.put;rw [O9];by_cases hk:k=x.key
 ·rw [acr ⟨by rw [h];decide,hk.symm⟩,acr hk];show (if x.tag=0 then some x.data else none)=_;rw [acr h]
 ·rw [abA (fun q=>hk q.2.symm),abA hk]
theorem aiQ (h:x.tag=1):jA (es++[x])=Tab.del (jA es) x.key:=by
 funext k
 unfold jA Tab.del;rw [O9];by_cases hk:k=x.key
 ·rw [acr ⟨by rw [h];decide,hk.symm⟩,acr hk];show (if x.tag=0 then some x.data else none)=_;rw [abA (by rw [h];decide)]
 ·rw [abA (fun q=>hk q.2.symm),abA hk]
theorem ZJ (h:x.tag=2):jA (es++[x])=jA es:=by
 funext k
 unfold jA;rw [O9,abA (fun q=>q.1 h)]
theorem aaf {kv:List (Bs×dP)} (h:Tab.Lists (ledger l) kv):Tab.mapOf (puts kv)=dO l:=by
 have hl:=Tab.PI (Gj h.rise)
 funext k
 have key:∀ p,Tab.mapOf (puts kv) k=some p↔dO l k=some p:=fun p=>by
  rw [← hl.mem];unfold puts dO;rw [abZ,Option.bind_eq_some_iff];constructor
  ·rintro ⟨q,hq,e⟩;obtain ⟨h1,h2⟩:=acY.1 hq;have h3:=(h.mem q.1 q.2).1 h1;unfold ledger at h3;obtain ⟨r,h4,h5⟩:=ag4.1 h3;have e1:q.1=k:=adu Prod.fst e;have e2:q.2.place=p:=adu Prod.snd e;refine ⟨r,by rw [← e1];exact h4,?_⟩;have ht:q.2.tag=0:=by simpa using h2
   rw [← h5]at ht e2;simp only at ht e2;rw [acr ht,e2]
  ·rintro ⟨r,h1,h2⟩;split at h2
   ·rename_i ht;cases h2;refine ⟨(k,⟨dJ r,iH r,first l k⟩),acY.2 ⟨(h.mem _ _).2 (by unfold ledger;rw [h1];rfl),by simpa using ht⟩,rfl⟩
   ·cases h2
 cases hn:dO l k with
 |some p=>exact (key p).2 hn
 |none=>
  cases hm:Tab.mapOf (puts kv) k with
  |none=>rfl
  |some p=>rw [(key p).1 hm]at hn;cases hn
theorem WV:∀ (es:List aG) (a:Nat) (x:aG),dN (es++[x]) a=dN es a++[⟨x,a+(encs es).length,(ah.encode x).1.length⟩]
 |[],a,x=>by show [_]=[_];rw [show (encs []).length=0 from rfl,aif]
 |y::es,a,x=>by
  rw [adA,dN,dN,WV es _ x,adA];rw [show encs (y::es)=(ah.encode y).1++encs es from rfl,aaK,an9]
theorem J7:∀ (C D:List (List aG)) (k:Nat),dW k (C++D)=dW k C++dW (k+C.length) D
 |[],D,k=>rfl
 |es::C,D,k=>by
  rw [adA];show _++dW (k+1) (C++D)=(_++dW (k+1) C)++_;rw [J7 C D (k+1),acD,ac5,show k+1+C.length=k+(C.length+1) by omega]
def putRow (C:List (List aG)) (b:Bool) (x:aG):Row:=
 if b then (((C.length - 1:Nat):Int),⟨x,8+(encs (C.getLastD [])).length,(ah.encode x).1.length⟩) else ((C.length:Int),⟨x,8,(ah.encode x).1.length⟩)
theorem aaD (C:List (List aG)) (b:Bool) (x:aG) (hb:b=true→C≠[]):dW 0 (Seg.put C b x)=dW 0 C++[putRow C b x]:=by
 cases b with
 |true=>
  have hne:=hb rfl;unfold Seg.put putRow;simp only [anJ];rw [J7]
  conv=>rhs;rw [Seg.Jy hne,J7]
  rw [acD]
  congr 1
  show _++[]=(_++[])++_;rw [acM,acM,WV,acI,ahJ,acT];have hg:(C.dropLast++[C.getLastD []]).getLastD []=C.getLastD []:=by rw [List.getLastD_eq_getLast?,List.getLast?_concat];rfl
  have hlen:(C.dropLast++[C.getLastD []]).length=C.length:=by rw [← Seg.Jy hne]
  rw [hg,hlen]
  rfl
 |false=>
  unfold Seg.put putRow;simp only [afy,anY];rw [J7]
  congr 1
  show _++[]=_;rw [acM,acT]
  rfl
theorem Z' (C:List (List aG)) (b:Bool) (x:aG):(putRow C b x).2.e=x:=by
 unfold putRow;split <;> rfl
end
end Go.Rep
namespace Go.Seg
open Go.ay
open Go.ah (Bs aG encs fH)
open Go.Rep
section
variable {K r E B n:Nat}{L:Log}{M:ay}{C:List (List aG)}{x:aG}
theorem HG.ad2 (h:HG K r E B n L M C) (h0:(ah.encode x).2=0) (hz:(L.append M x).2.2=0):(L.append M x).2.1=iH (putRow C (L.fits (ah.encode x).1.length) x):=by
 cases hf:L.fits (ah.encode x).1.length with
 |true=>
  rw [Log.zL h0 hf]at hz ⊢;obtain ⟨s,hl⟩:=h.keeps.log.last (xU hf);have hl':=hl;rw [adv]at hl';have hlt:=(abW.1 hl').1;have hlen:=h.len;have hne:C≠[]:=by intro e;rw [e,adF]at hlen;omega
  have hcl:C[L.l.length - 1]?=some (C.getLastD []):=by
   conv=>lhs;rw [Jy hne]
   rw [ac0 (by rw [ahJ];omega),ahJ,show L.l.length - 1 - (C.length - 1)=0 by omega];rfl
  have hat:=h.at_ _ _ hcl;rw [hl']at hat;cases hat;unfold Log.grow at hz ⊢;rw [hl]at hz ⊢;simp only at hz ⊢;split at hz
  ·rename_i g;rw [acr g];unfold putRow iH;simp only [anJ];rw [hlen]
   rfl
  ·rename_i g;exact absurd hz g
 |false=>
  rw [Log.xF h0 hf]at hz ⊢;obtain ⟨_,s2,s3,_,_⟩:=h.keeps.shut;have hnx:(L.shut M).1.1.next=C.length:=by
   have:=h.next;unfold Log.next at this ⊢;rw [s3];exact this
  unfold Log.begin at hz ⊢;rw [acr s2]at hz ⊢;generalize (L.shut M).1.1=L1 at *
  generalize (L.shut M).1.2=M1 at *
  unfold Log.jw at hz ⊢;by_cases g2:1048576≤L1.next
  ·rw [acr g2]at hz;exact absurd (show (16:Int)=0 from hz) aN
  rw [abA g2]at hz ⊢;by_cases g3:(M1.create (name L1.next)).2=0;rotate_left
  ·rw [acr g3]at hz;exact absurd hz g3
  rw [abA (fun q=>q g3)]at hz ⊢;by_cases g4:((M1.create (name L1.next)).1.append (name L1.next) (mag++(ah.encode x).1)).2=0
  ·rw [acr g4,hnx]
   rfl
  rw [abA g4]at hz;split at hz
  ·simp only at hz;split at hz
   ·exact absurd hz aN
   ·rename_i g5;exact absurd hz g5
  ·exact absurd hz g4
end
end Go.Seg
namespace Go.Proofs.YtihngncbioofnaaGreatDoor
open Go Go.Sl Go.ay Go.MapKept Go.RowKit
section
variable {w0 w:World}{F:List aH}{p B:Nat}{m:ah.Bs→Option (Seg.aU)}
theorem ahO (hB:B≤13000000) (h:Sat w0 w (aI p m B::F)) :
  Calls Tryz.prog 97 #[ptr p] w (aP fun v w'=>∃ kv:List (ah.Bs×Seg.aU),(Tab.Lists m kv∧(∀ q∈kv,q.1.length=32)∧kv.length≤B)∧Sat w0 w' (aB 50 32 v (kv.flatMap fun q=>aA q.1)::aI p m B::F)):=by
 have hr:=Qz hB h;clear h;go_enter Tryz.func97,Tryz.ntmps97;go_wp2_with fail;refine hr.mono ?_;rintro ee w1 ⟨sv,rfl,s,⟨hs1,hs2,hs3⟩,hS1⟩;clear hr;have Hs1:=uQ hs1;have qX:=uQ hs2;have UA:=uQ hs3
 have Eh:=uQ (show ∀ q∈s.map fun x=>(x.key,x.val),q.1.length=32 from fun q hq=>by
  obtain ⟨x,hx,rfl⟩:=abZ.1 hq;exact (hs2 x hx).2)
 have Hlen:=uQ (show ∀ x∈s,(slotL aS x).length=36 from fun x hx=>jc aS x (hs2 x hx).2 3 (qQ _));obtain ⟨la,lc,rfl⟩:=jl Hlen.out (Sat.rd hS1) aN;have hsb:s.length≤13000000:=acz hs3 hB;have hS2:Sat w0 w1 (aB 50 32 (.slice none 0 0) (((s.take 0).map fun x=>(x.key,x.val)).flatMap fun q=>aA q.1)::aB 164 36 (.slice la s.length lc) (s.flatMap (slotL aS))::aI p m B::F):=Sat.gI.2 hS1;clear hs1 hs2 hs3 hB hS1;go_wp2_with fail
 go_loopg [3,9] s.length (fun g oq iq wr=>∃ (i:Nat),g=s.length - i∧i≤s.length∧iq = .int .i64 i ∧
  Sat w0 wr (aB 50 32 oq (((s.take i).map fun x=>(x.key,x.val)).flatMap fun q=>aA q.1)::aB 164 36 (.slice la s.length lc) (s.flatMap (slotL aS))::aI p m B::F))
 case atStart=>exact ⟨0,rfl,acV _,rfl,hS2⟩
 case round=>
  obtain ⟨i,rfl,hi,rfl,hS⟩:=hrel;clear hS2;by_cases hlt:i<s.length;rotate_left
  ·obtain rfl:i=s.length:=by omega
   have c1:¬ (s.length:Int)<(s.length:Int):=oQ;rw [adk]at hS;clear hlt hi;go_wp2_with fail;go_ret;refine ⟨_,rfl,s.map fun x=>(x.key,x.val),⟨Hs1.out,by intros;exact Eh.out (_,_) aQ,by rw [abl];exact UA.out⟩,hS.sb⟩
  have c1:(i:Int)<(s.length:Int):=oQ;have hwi:=yA (i:=i);obtain ⟨x,hx⟩:∃ x,s[i]?=some x:=⟨_,aaI hlt⟩;have hxm:=abV hx;have Hxk:=uQ (qX.out x hxm).2;obtain ⟨bk,off,c',hsv,hcell⟩:=jG Hlen.out (Sat.rd (hS.pick aY)) hx aN;cases hsv;have gK:=Hlen.out x hxm
  have gY:=uQ (show ((s.take (i+1)).map fun x=>(x.key,x.val)).flatMap (fun q=>aA q.1)=((s.take i).map fun x=>(x.key,x.val)).flatMap (fun q=>aA q.1)++aA x.key by
   rw [adD,hx,agU,acI,adz];simp)
  have bV:=uQ hlt;have Fz:(((s.take i).map fun x=>(x.key,x.val)).flatMap fun q=>aA q.1).length≤2147483648:=by
   rw [iY (k:=32) fun q hq=>by
    obtain ⟨y,hy,rfl⟩:=abZ.1 hq;rw [aX];exact (qX.out y (adG hy)).2]
   rw [abl];have:=aoi i s;omega
  clear hx hxm hlt hi
  go_wp2_with (first
   |((with_reducible refine bI ⟨?_⟩);refine iL (b:=bk) (o:=off+i * 36) (slotL aS x) aj hcell Tryz.underlying164 rfl (by rw [gK];kernel_rfl) ?_)
   |(with_reducible apply gq))
  refine ⟨fF ug hS rfl ?_⟩;intro b7 w7 hS7
  go_wp2_with (first
   |((with_reducible refine cO ⟨?_⟩);refine gJ (slotL aS x).toArray hS7 aj aj (by rw [abX,gK];rfl) cZ (by rw [abX,gK];kernel_rfl) (by rw [acW];exact mY aS x (uS _)) ?_;intro w10 dL)
   |(with_reducible apply bI))
  refine ⟨?_⟩;clear hS hS7 hcell;have f1:w10.rangeAt b7 1 (aA x.key):=yP (dL.pick aV)
  go_wp2_with (first
   |((with_reducible refine bI ⟨?_⟩);refine iL (b:=b7) (o:=1) (aA x.key) aj f1 Tryz.underlying50 rfl (by rw [aX,Hxk.out];kernel_rfl) ?_)
   |(with_reducible apply pI))
  refine ⟨o7 (e:=50) (sz:=32) (eY:=32) au dL aj (cs:=(aA x.key).toArray) rfl (by rw [abX,aX,Hxk.out]) aN ?_⟩;intro bN wN hN;go_wp2_with (with_reducible apply lX);refine ⟨pW 50 32 32 au hN aj aj (aT (aT aV)) aV (by rw [abX,aX,Hxk.out]) (abL 1) (by rw [acW];exact uz _) Fz (by rw [abX,aX,Hxk.out];decide) aN (by rw [acW]) ?_⟩;intro bA nA cA wA hA;go_wp2_with fail;rw [← gY.out]at hA
  go_roundg (s.length - (i+1))
  case measure=>have:=bV.out;omega
  case rel=>exact ⟨i+1,rfl,bV.out,by first|rfl|go_num,hA.sb⟩
end
def jX (q:ah.Bs×Seg.aU):List Value:=aA q.1++aS q.2
theorem rD (q:ah.Bs×Seg.aU) (hk:q.1.length=32):(jX q).length=35:=by unfold jX;rw [aaK,aX,hk];rfl
theorem YD (q:ah.Bs×Seg.aU):(jX q).all (·.oneCell')=true:=by unfold jX;rw [ahh,uz];rfl
theorem ajc:rM Tryz.prog 219=some [(0,32),(32,3)]:=by kernel_rfl
theorem zKv:jr Tryz.prog 219=some (.agg (jX (ah.zero32,Seg.aU.zero)).toArray):=by kernel_rfl
theorem akK (k:ah.Bs) (hk:k.length=32) (v:Seg.aU) (w:World):(Instr.build 219 #[(0,.agg (aA k).toArray),(1,.agg (aS v).toArray)]).run Tryz.prog w = .ok (.agg (jX (k,v)).toArray) w:=by
 have h:=aod (P:=Tryz.prog) [(0,.agg (aA k).toArray),(1,.agg (aS v).toArray)] ajc zKv (by
  intro p hp;have hzz:(Value.agg (jX (ah.zero32,Seg.aU.zero)).toArray).cells.size=35:=by rfl
  rw [hzz];rcases acK.1 hp with rfl|hp
  ·refine ⟨0,?_,?_⟩
   ·show some (0,32)=some (0,(aA k).toArray.size);rw [abX,aX,hk]
   ·show 0+(aA k).toArray.size≤35;rw [abX,aX,hk];decide
  ·rw [acO.1 hp];exact ⟨32,rfl,by show 32+3≤35;omega⟩) w
 refine h.trans ?_;have hz:ah.zero32.length=32:=rfl;have hzl:(jX (ah.zero32,Seg.aU.zero)).length=35:=rD _ hz;have e:eu (eu (jX (ah.zero32,Seg.aU.zero)).toArray 0 (aA k)) 32 (aS v)=(jX (k,v)).toArray:=by
  apply qR;rw [Bg _ _ _ (by rw [kE,abX,hzl];exact abL 35),Bg _ _ _ (by rw [abX,hzl,aX,hk];decide),acW];have e1:jY (jX (ah.zero32,Seg.aU.zero)) 0 (aA k)=aA k++aS Seg.aU.zero:=by
   unfold jX;rw [Gh _ _ _ _ (by rw [aX,aX,hk,hz];decide),Dt (by rw [aX,aX,hk,hz])]
  have h0:=Bc (aA k) (aS Seg.aU.zero) (aS v) 0;rw [aX,hk,Dt (xs:=aS Seg.aU.zero) (vs:=aS v) aj]at h0;rw [e1];exact h0
 exact adu (fun x=>Result.ok (Value.agg x) w) e
end Go.Proofs.YtihngncbioofnaaGreatDoor
namespace Go.Rep
open Go.ah (Bs dA)
open Go.Seg (aU)
open Go.Tab
def hit (k:Bs) (r:Row):Bool:=decide (dJ r<2) && decide (fB r=k)
section
variable {l:List Row}{k:Bs}{i:Nat}{r:Row}
def elder (r x:Row):Bool:=decide (dJ x=0) && decide (fB x=fB r) && decide (x.1<r.1)
end
section
variable {V:Type}
variable {l:List (Bs×V)}{x y:Bs×V}{i:Nat}
end
section
variable {l:List Row}{us:List Use}{i k:Nat}{r:Row}{u:Use}
end
end Go.Rep
namespace Go.Proofs.YtihngncbioofnaaGreatDoor
open Go Go.Sl Go.ay Go.MapKept Go.RowKit
section
variable {P:Program}{ops:Array Oper}{a:Act}{dst:Option Tmp}{t ty:TypeId}{pos:String}{after:Array Edge}{x y:Operand}{v v1 v2:Value}{i1 i2:Nat}
theorem acj (hx:a.eval x=v1) (hy:a.eval y=v2) (hr:∀ w,(Instr.build ty #[(i1,v1),(i2,v2)]).run P w = .ok v w):Yields P ops ⟨dst,.build ty #[(i1,x),(i2,y)],t,pos,after,none⟩ v a:=
 .inl ⟨lI _ rfl,fun w=>by simp only [execOp,aes,acS,adw,hx,hy,acN,hr,acB,ac1]⟩
end
section
variable {w0 w:World}{F:List aH}{p B:Nat}{m:ah.Bs→Option (Seg.aU)}
end
end Go.Proofs.YtihngncbioofnaaGreatDoor
namespace Go.Proofs.YtihngncbioofnaaGreatDoor
open Go Go.Sl Go.ay Go.ChangeShapes Go.WideShapes Go.RowKit
section
variable {H:Type}{enc:TypeId×Value→H}{W:World}{base:Nat}{spare:Nat→Bool}{held:Bool}
theorem ai2 {t:TypeId}{fuel:Nat}{cs:List Value}{x:DataW H×List MemPlace}{k:Nat} (ht:Tryz.prog.underlying t=some (.array k 5)) (hk:Tryz.prog.cellsOf t=k) (h:DataW.trod enc Tryz.prog W base spare held fuel t cs=some x) :
  ∃ l:Bs,aA l=cs∧l.length=k:=by
 obtain ⟨xs,m,_,_,hl,hxl,hf⟩:=DataW.trod_array ht h;have e1:Tryz.prog.cellsOf 5=1:=by kernel_rfl
 rw [hk]at hl;have hz:∀ i,i<k→∃ z:Int,cs[i]?=some (.int .u8 z)∧(Lit.int .u8 z).wf=true:=by
  intro i hi;have h0:=hf i hi;rw [aaI oQ,e1,adb]at h0;obtain ⟨z,q1,_,q3⟩:=aok Tryz.underlying5 h0;refine ⟨z,?_,q3⟩;have:((cs.drop i).take 1)[0]?=some (.int .u8 z):=by rw [q1];rfl
  rw [adC,acr aN,anQ]at this;exact this
 obtain ⟨zs,z1,z2⟩:=YR hz;have hcs:cs=zs.map (.int .u8):=by
  apply an1;intro i;rw [acE];by_cases hi:i<k
  ·have:=(z2 i _ (aaI oQ)).1;rw [this,aaI (show i<zs.length by omega)];rfl
  ·rw [ahF oQ,ahF oQ];rfl
 refine ⟨GI zs,?_,by unfold GI;rw [abl];exact z1⟩;rw [Vs,hcs];intro z hz;obtain ⟨i,hi,rfl⟩:=anA hz;exact (z2 i _ (aaI hi)).2
structure acw (W:World) (p:ah.aG×Value):Prop where
 key:p.1.key.length=32
 tag:qo p.1.tag
 rd:bG 1 p.2 (aA p.1.data) W
 cap:lQ p.2
end
structure PC where
 n:Int
 es:List (ah.aG×Value)
 ev:Value
 rest:Bs
 rv:Value
 bad:Bool
 at_:Int
 plain:Bool
structure PC.At (W:World) (d:PC):Prop where
 n:qo d.n
 rd:bG 34 d.ev (afN d.es) W
 cap:lQ d.ev
 ents:∀ p∈d.es,acw W p
 rr:bG 1 d.rv (aA d.rest) W
 rc:lQ d.rv
 at_:qo d.at_
section
variable {H:Type}{enc:TypeId×Value→H}{W:World}{base:Nat}{spare:Nat→Bool}{held:Bool}
end
end Go.Proofs.YtihngncbioofnaaGreatDoor
namespace Go.Seg
open Go.ay
open Go.ah (encs fH dN aG)
end Go.Seg
namespace Go.Proofs.YtihngncbioofnaaGreatDoor
open Go Go.Sl Go.ay Go.MapKept Go.RowKit
theorem aju (cs:Array Value) (hs:cs.size=34) (u:Value) (kl:List Value) (hk:kl.length=32):(eu (eu cs 0 [u]) 1 kl).toList=u::(kl++cs.toList.drop 33):=by
 have hcl:cs.toList.length=34:=by simpa using hs
 rw [lg _ _ _ (by rw [kE];omega),lg _ _ _ (by simp;omega)];simp only [adH,adl,ac7,acT];rw [List.singleton_append,List.take_succ_cons,adH,hk,show 1+32=32+1 by omega,aop,aol];simp
section
variable {w0 w:World}{F R:List aH}{v bv dv x lv:Value}{p m:Nat}{L:Seg.Log}{M:ay}
end
end Go.Proofs.YtihngncbioofnaaGreatDoor
namespace Go.Seg
open Go.ay
open Go.ah (Bs dA encs fH dN aG)
open Go.Rep
section
variable {n n2:Nat}{ds ps:List aG}{L L2:Log}{M M2:ay}{C C0 C2:List (List aG)}{c c2:Nat}{d:aG}
structure Same (L L2:Log) (M M2:ay) (c c2:Nat):Prop where
 one:c=L.aF.length
 two:c2=L.aF.length
 aF:L2.aF.take c2=L.aF.take c
 rows:rowsOf (fun s=>L2.bytes M2 s) (L2.aF.take c2)=rowsOf (fun s=>L.bytes M s) (L.aF.take c)
 uses:jC (fun s=>L2.bytes M2 s) (L2.aF.take c2)=jC (fun s=>L.bytes M s) (L.aF.take c)
 le:L.aF.length≤L2.aF.length
end
theorem Yy:∀ {l l':List Int},l.Pairwise (· < ·)→l'.Pairwise (· < ·)→(∀ p,p∈l↔p∈l')→l=l'
 |[],[],_,_,_=>rfl
 |[],b::l',_,_,h=>by have:=(h b).2 (.head _);cases this
 |a::l,[],_,_,h=>by have:=(h a).1 (.head _);cases this
 |a::l,b::l',h1,h2,h=>by
  obtain ⟨a1,a2⟩:=aeA.1 h1;obtain ⟨b1,b2⟩:=aeA.1 h2;have hab:a=b:=by
   rcases acK.1 ((h a).1 (.head _)) with e|h3
   ·exact e
   ·rcases acK.1 ((h b).2 (.head _)) with e|h4
    ·exact e.symm
    ·have:=b1 a h3;have:=a1 b h4;omega
  subst hab
  congr 1
  refine Yy a2 b2 fun p=>?_;have:=h p;rw [acK,acK]at this;constructor
  ·intro hp;rcases this.1 (.inr hp) with e|h3
   ·subst e;have:=a1 p hp;omega
   ·exact h3
  ·intro hp;rcases this.2 (.inr hp) with e|h3
   ·subst e;have:=b1 p hp;omega
   ·exact h3
section
variable {n:Nat}{ds:List aG}{L:Log}{M:ay}{C C0:List (List aG)}{c:Nat}{d x:aG}{xe:aG}
end
end Go.Seg
namespace Go.aC
open Go.ay
open Go.Rep (Use)
open Go.Seg (aU)
def fin (n:Int) (us:List Use) (i:Nat):Bool:=decide (i=us.length) && (decide (0<i) && decide ((us.getD (i - 1) ⟨0,0,0⟩).seg=n))
def af2 (sz:Int→Int) (s:Int) (u:Use):Bool:=decide (u.seg=s) && (decide (u.size=sz s) && decide (u.live≤u.size))
def WM (sz:Int→Int) (n:Int) (us:List Use):List Int→Nat→Bool
 |[],i=>fin n us i
 |s::ss,i=>if n<s then fin n us i else match us[i]? with
  |none=>false
  |some u=>if af2 sz s u=true then WM sz n us ss (i+1) else false
def fits (L:Seg.Log) (us:List Use) (n:Int):Bool:=WM L.size n us L.aF 0
def lies (p:aU) (sz:Int→Int):Bool:=decide (8≤p.at_) && (decide (41≤p.size) && decide (p.size≤sz p.seg - p.at_))
def sizes (us:List Use):Int→Int:=us.foldl (fun f u=>fun s=>if s=u.seg then u.size else f s) fun _=>0
section
variable {T:Kept}{s1 s2 s:ByteArray}{b1 b2 b:Bs}{K:Nat}{M:ay}
end
theorem agi {M:ay}{lim:Int} (hoff:M.off=false) (s:Int):s∈(Seg.fresh M lim).aF↔(0≤s∧s<1048576)∧∃ i,bP M.now (Seg.name s)=some i:=by
 constructor
 ·intro hs;unfold Seg.Log.aF at hs;obtain ⟨x,hx,rfl⟩:=abZ.1 hs;obtain ⟨t,ht,hn,rfl⟩:=Seg.CP hx;obtain ⟨a,b,c⟩:=Seg.Dk hn;refine ⟨⟨a,b⟩,?_⟩;simp only;rw [c];exact Seg.YQ ht
 ·rintro ⟨⟨a,b⟩,i,hi⟩;have:=Seg.agj (lim:=lim) hoff a b hi;unfold Seg.nf at this;exact adG this
end Go.aC
namespace Go.Seg
open Go.ay
open Go.ah (Bs dA encs fH dN aG)
open Go.Rep
structure mJ (L:Log) (c:Nat) (us:List Use) (ps:List (Bs×aU)):Prop where
 aF:us.map (·.seg)=L.aF.take c
 use:∀ u∈us,0≤u.live∧u.live≤u.size∧u.size=L.size u.seg∧u.size≤33554432
 key:∀ q∈ps,q.1.length=32
 rise:ps.Pairwise fun a b=>a.1<b.1
 plc:∀ q∈ps,8≤q.2.at_∧41≤q.2.size∧q.2.at_+q.2.size≤L.size q.2.seg∧q.2.seg∈L.aF.take c
section
variable {K r E B n c:Nat}{L:Log}{M:ay}{C:List (List aG)}
theorem HG.alc (h:HG K r E B n L M C) (hc:c≤C.length):∀ s∈L.aF.take c,∃ (j:Nat) (es:List aG),s=(j:Int)∧j<c∧C[j]?=some es:=fun s hs=>by
 obtain ⟨j,hj⟩:=an8 hs;rw [adC]at hj;split at hj
 ·rename_i hjc;have hl:j<C.length:=oQ;have:=h.aF.2 j hl;rw [hj]at this;cases this;exact ⟨j,C[j],rfl,hjc,aaI hl⟩
 ·cases hj
theorem HG.hint (h:HG K r E B n L M C) (hc:c≤C.length){kv:List (Bs×dP)} (hk:Tab.Lists (ledger (rowsOf (fun s=>L.bytes M s) (L.aF.take c))) kv) (h32:∀ q∈kv,q.1.length=32) :
  mJ L c ((jC (fun s=>L.bytes M s) (L.aF.take c)).map (upd kv)) (puts kv):=by
 have hok:=rows_ok h.keeps.log M c;rw [h.rows c]at hok hk;have hseg:=h.alc hc;have hrow:∀ p∈kv,∃ r,r∈Rep.dW 0 (C.take c)∧dJ r≠2∧p.2.tag=dJ r∧p.2.place=iH r:=fun p hp=>by
  have h1:=(hk.mem p.1 p.2).1 hp;unfold ledger at h1;obtain ⟨r,h2,h3⟩:=ag4.1 h1;obtain ⟨h4,h5,_⟩:=JH h2;exact ⟨r,h4,h5,by rw [← h3],by rw [← h3]⟩
 refine ⟨?_,fun u hu=>?_,fun q hq=>?_,Rep.Gj hk.rise,fun q hq=>?_⟩
 ·unfold jC;rw [aee,aee]
  conv=>rhs;rw [← List.map_id (L.aF.take c)]
  rfl
 ·obtain ⟨u0,h1,rfl⟩:=abZ.1 hu;unfold jC at h1;obtain ⟨s,hs,rfl⟩:=abZ.1 h1;obtain ⟨j,es,rfl,hjc,hj⟩:=hseg s hs;have hb:=h.bytes hj;have hz:=h.size hj;have hlv:=YU hok hk (j:Int);have hls:=Pq (l:=Rep.dW 0 (C.take c)) (j:Int) _ (abL _);have hsm:=aa6 (C.take c) 0 j es (by rw [adC,acr hjc];exact hj);rw [adk]at hls;rw [acT]at hsm;have hm:mag.length=8:=rfl;have hsz:=h.keeps.log.sizes _ (abV (h.at_ j es hj));unfold upd;simp only [hb,hz,aaK];rw [hlv,hsm]at hls;simp only at hsz;refine ⟨hls.1,?_,trivial,?_⟩
  ·have:=hls.2;omega
  ·omega
 ·unfold puts at hq;obtain ⟨p,hp,rfl⟩:=abZ.1 hq;exact h32 p (acY.1 hp).1
 ·unfold puts at hq;obtain ⟨p,hp,rfl⟩:=abZ.1 hq;obtain ⟨hp1,hp2⟩:=acY.1 hp;obtain ⟨r,h1,_,h3,h4⟩:=hrow p hp1;obtain ⟨j,es,h5,h6,h7⟩:=Rep.J8 (C.take c) 0 h1;obtain ⟨u,v,h8,h9,h10⟩:=Rep.CJ es 8 h7;have hjc:j<c:=by
   have:=(abW.1 h5).1;rw [acA]at this;omega
  have hj:C[j]?=some es:=by rw [adC,acr hjc]at h5;exact h5
  have hg:fH r.2.e:=(h.good es (abV hj)).1 _ (by rw [h8];simp);have hz:=h.size hj;have ht:r.2.e.tag=0:=by
   have:p.2.tag=0:=by simpa using hp2
   rw [h3]at this;exact this
  have hl:r.2.size=41+r.2.e.data.length:=by
   rw [h10,BD hg.1 hg.2];unfold ah.size;rw [abA (by simp [(ah.ES hg.1).1]),abA (by rw [ht];decide)]
  have hes:encs es=encs u++((ah.encode r.2.e).1++encs v):=by rw [h8,xP];rfl
  have hm:mag.length=8:=rfl;have hr1:r.1=(j:Int):=by rw [h6,acT]
  simp only;rw [h4];show 8≤(r.2.at_:Int)∧41≤(r.2.size:Int)∧(r.2.at_:Int)+(r.2.size:Int)≤L.size r.1∧r.1∈L.aF.take c;rw [hr1,hz,aaK,hes,aaK,aaK];refine ⟨by omega,by omega,by omega,?_⟩;have hl:j<C.length:=(abW.1 hj).1;exact abV (i:=j) (by rw [adC,acr hjc];exact h.aF.2 j hl)
end
section
variable {n:Nat}{L:Log}{M:ay}{C:List (List aG)}{c:Cal}
theorem afH (C:List (List aG)) (b:Bool):∃ es,put C b bf≠[]∧(put C b bf)[(put C b bf).length - 1]?=some es∧Rep.lS es=true:=by
 unfold put;cases b with
 |true=>
  simp only [anJ];refine ⟨C.getLastD []++[bf],by simp,?_,?_⟩
  ·rw [aaK,ac7,Nat.add_sub_cancel,ac0 (abL _),anm];rfl
  ·unfold Rep.lS;rw [List.getLast?_concat];rfl
 |false=>
  simp only [afy,anY];refine ⟨[bf],by simp,?_,rfl⟩;rw [aaK,ac7,Nat.add_sub_cancel,ac0 (abL _),anm];rfl
theorem aeU {K r:Nat} (k:Keeps K r L M) (h0:(L.commit M).2.2=0):(L.commit M).1.2.waits=[]∧(L.commit M).1.2.fast=(L.commit M).1.2.now∧(L.commit M).1.1.fresh=0∧(L.commit M).2.1=(L.append M bf).2.1.seg:=by
 rw [Log.Cj]at h0 ⊢;split at h0
 ·rename_i g;exact absurd h0 g
 rename_i g1;rw [abA g1];split at h0
 ·rename_i g;exact absurd h0 g
 rename_i g2;rw [abA g2];split at h0
 ·rename_i g;exact absurd h0 g
 rename_i g3;rw [abA g3];have k1:=(k.append bf rfl).1;have hc:=k1.calm.sync (name (L.append M bf).2.1.seg);have hd:=hc.quiet.Gw;refine ⟨?_,?_,rfl,rfl⟩
 ·show ((L.append M bf).1.2.sync (name (L.append M bf).2.1.seg)).1.dR.1.waits=_;rw [hd]
 ·show ((L.append M bf).1.2.sync (name (L.append M bf).2.1.seg)).1.dR.1.fast=((L.append M bf).1.2.sync (name (L.append M bf).2.1.seg)).1.dR.1.now;rw [hd]
end
end Go.Seg
namespace Go.aC
open Go.ay
open Go.Seg (Log Keeps Holds HG mJ mag)
open Go.ah (dA encs fH dN aG)
open Go.Rep (Use)
section
variable {n K r E B:Nat}{L:Log}{M:ay}{C:List (List aG)}{N:Int}{b1 b2:ah.Bs}
theorem GH (k:Int):tmp≠Seg.name k:=fun e=>by
 rcases Kw k with q|⟨q,_⟩
 ·rw [q]at e;exact RJ e
 ·rw [← e]at q;exact absurd q aN
end
end Go.aC
namespace Go.aC
open Go.ay
open Go.Seg (Log Keeps Holds HG mJ mag aU)
open Go.ah (dA encs fH dN aG)
open Go.Rep (Use)
theorem ae4 {M:ay}{s:ByteArray}{p:ByteArray×Nat} (h:p∈(M.create s).1.now):p∈M.now∨p.1=s:=by
 obtain ⟨_,e1,e2,e3,e4⟩:=M.jL;unfold ay.create at h;split at h;· exact .inl h
 split at h;· exact .inl h
 rename_i hg;split at h;· exact .inl h
 split at h;· exact .inl h
 split at h;· rw [e2]at h;exact .inl h
 have h2:p∈iT.on ⟨ByteArray.empty,s,M.files.length⟩ M.step.1.now:=h;rw [e2]at h2;unfold iT.on at h2;simp only [anJ,abA (qP (by simpa using hg):s≠ByteArray.empty)]at h2;rcases acK.1 ((wo _ _ _).mem_iff.1 h2) with rfl|h3
 ·exact .inr rfl
 ·exact .inl (acY.1 h3).1
theorem U2 (M:ay) (s:ByteArray) (b:Bs):(M.append s b).1.now=M.now:=by
 obtain ⟨_,e1,e2,e3,e4⟩:=M.jL;unfold ay.append;split;· rfl
 split;· rfl
 split;· rfl
 split;· exact e2
 exact e2
theorem KO (M:ay) (s:ByteArray):(M.sync s).1.now=M.now:=by
 obtain ⟨_,e1,e2,e3,e4⟩:=M.jL;unfold ay.sync;split;· rfl
 split;· rfl
 split;· exact e2
 exact e2
theorem KJ (M:ay):M.dR.1.now=M.now:=by
 obtain ⟨_,e1,e2,e3,e4⟩:=M.jL;unfold ay.dR;split;· rfl
 split;· exact e2
 exact e2
theorem J5 {M:ay}{s:ByteArray}{p:ByteArray×Nat} (h:p∈(M.remove s).1.now):p∈M.now:=by
 obtain ⟨_,e1,e2,e3,e4⟩:=M.jL;unfold ay.remove at h;split at h;· exact h
 split at h;· exact h
 split at h;· rw [e2]at h;exact h
 have h2:p∈iT.on ⟨s,ByteArray.empty,0⟩ M.step.1.now:=h;rw [e2]at h2;unfold iT.on at h2;simp only [anJ]at h2;split at h2
 ·exact h2
 ·exact (acY.1 h2).1
def Grown (M M':ay):Prop:=∀ p∈M'.now,p∈M.now∨∃ k,p.1=Seg.name k
theorem Grown.refl (M:ay):Grown M M:=fun p hp=> .inl hp
theorem Grown.trans {A B D:ay} (h:Grown A B) (k:Grown B D):Grown A D:=fun p hp=>by
 rcases k p hp with q|q
 ·exact h p q
 ·exact .inr q
theorem Grown.same {A B:ay} (h:B.now=A.now):Grown A B:=fun p hp=> .inl (by rw [← h];exact hp)
theorem abe (L:Log) (M:ay):Grown M (L.shut M).1.2:=by
 unfold Log.shut;split;· exact Grown.refl M
 split
 ·split <;> exact Grown.same (KO M _)
 ·exact Grown.refl M
theorem aen (L:Log) (M:ay) (b:Bs):Grown M (L.jw M b).1.2:=by
 have hc:Grown M (M.create (Seg.name L.next)).1:=fun p hp=>(ae4 hp).imp id fun e=>⟨_,e⟩;have ha:Grown M ((M.create (Seg.name L.next)).1.append (Seg.name L.next) (mag++b)).1:=hc.trans (Grown.same (U2 _ _ _));unfold Log.jw;split;· exact Grown.refl M
 split;· exact hc
 split;· exact ha
 split
 ·exact ha.trans fun p hp=> .inl (J5 hp)
 ·exact ha
theorem FT (L:Log) (M:ay) (x:aG):Grown M (L.append M x).1.2:=by
 unfold Log.append;split;· exact Grown.refl M
 split
 ·unfold Log.grow;split
  ·exact Grown.refl M
  ·split <;> exact Grown.same (U2 _ _ _)
 ·unfold Log.begin;split
  ·exact (abe L M).trans (aen _ _ _)
  ·exact abe L M
theorem YH (L:Log) (M:ay):Grown M (L.commit M).1.2:=by
 have h:=FT L M Seg.bf;rw [Seg.Log.Cj];split;· exact h
 split;· exact h.trans (Grown.same (KO _ _))
 split;· exact h.trans ((Grown.same (KO _ _)).trans (Grown.same (KJ _)))
 exact h.trans ((Grown.same (KO _ _)).trans (Grown.same (KJ _)))
section
variable {n K B c:Nat}{L:Log}{M M':ay}{C:List (List aG)}{N:Int}{b1 b2:ah.Bs}{us:List Use}
end
end Go.aC
namespace Go.aC
open Go.ay
section
variable {s t:ByteArray}{b b1 b2:Bs}{K r:Nat}{M M':ay}{n:Int}
theorem EJ (q:Quiet M):(M.all t).2=0↔∃ i,bP M.now t=some i:=by
 cases h:bP M.now t with
 |none=>rw [Seg.all_none q h];simp
 |some i=>rw [Seg.all_some q h];simp
structure Wr (s:ByteArray) (b:Bs) (K r:Nat) (M:ay) (R:ay×Int):Prop where
 calm:Seg.Calm K r R.1
 tmp:bP R.1.now aC.tmp=none
 len:R.1.now.length≤M.now.length+1
 used:R.1.used≤M.used+b.length
 other:∀ t,t≠aC.tmp→t≠s→R.1.all t=M.all t
 names:∀ p∈R.1.now,p∈M.now∨p.1=s
 done:R.2=0∧R.1.all s=(b,0)∨R.2=11∧R.1.now=M.now∧∀ t,R.1.all t=M.all t
 room:M.used+b.length≤r→R.2=0
theorem DY (h:Seg.Calm K r M) (ht:bP M.now tmp=none) (hl:M.now.length<500) (hg:good s=true) (hst:s≠tmp):Wr s b (K+5) r M (write M s b):=by
 have e0:tK M=(M,0):=by unfold tK;rw [abt h.quiet ht];rfl
 obtain ⟨c1,c2,c3,c4,c5⟩:=Seg.I4 h agF ht hl;have hc:=h.create tmp;have hi:bP (M.create tmp).1.now tmp=some M.files.length:=by rw [c2];exact Seg.Dj h.ok.gG.mG _ _
 have hroom:(M.create tmp).1.room=r:=hc.room;have hw:write M s b=fill (M.create tmp).1 s b:=by
  unfold write;rw [e0,acr rfl];show (if (M.create tmp).2=0 then _ else _)=_;rw [acr c1]
 rw [hw];have hse:s≠ByteArray.empty:=qP hg;rcases Seg.vP hc.quiet tmp b with ⟨a1,_⟩|⟨j,a1,⟨a2,a3⟩|⟨a2,a3⟩⟩
 ·rw [hi]at a1;cases a1
 ·have hr:=Seg.Gp hc.quiet hi;have hrc:=hc.remove tmp;have hf:fill (M.create tmp).1 s b=(((M.create tmp).1.remove tmp).1,11):=by
   have f1:((M.create tmp).1.append tmp b).2=11:=by rw [a3]
   have f2:((M.create tmp).1.append tmp b).1=(M.create tmp).1:=by rw [a3]
   unfold fill;rw [abA (by rw [f1];decide),acr f1,f2,acr (by rw [hr])]
  have ha:Seg.Alike M ((M.create tmp).1.remove tmp).1:=by
   rcases Seg.ER h.quiet tmp with ⟨q1,_⟩|⟨_,hn,_,c⟩
   ·exact absurd c1 q1
   rw [hr,c];refine ⟨?_,rfl,rfl,fun p hp=>?_⟩
   ·show iT.on ⟨tmp,ByteArray.empty,0⟩ (kC M.now tmp M.files.length)=M.now;unfold iT.on;simp only [abA RJ,anJ];exact Seg.PN hn
   ·have:=h.ok.gG.ids p hp;simp only [ay.file,ay.link,acG];rw [ac2 this]
  rw [hf];refine ⟨hrc.mono oQ,by rw [ha.now];exact ht,by show _≤_;rw [ha.now];omega,by show _≤_;rw [ha.used];omega,fun t _ _=>ha.all t,fun p hp=> .inl (by rw [← ha.now];exact hp),.inr ⟨rfl,ha.now,ha.all⟩,fun hh=>?_⟩;exfalso;rw [c3,hroom]at a2;omega
 ·obtain ⟨b1,b2,b3,b4,b5⟩:=Seg.II hc hi b oQ;have ha:=hc.append tmp b;have hi2:bP ((M.create tmp).1.append tmp b).1.now tmp=some M.files.length:=by rw [b2];exact hi
  have es:=ha.quiet.Gx hi2;have hsy:=ha.sync tmp;have hs0:(((M.create tmp).1.append tmp b).1.sync tmp).2=0:=by rw [es]
  have hal:=Seg.KL ha.ok ha.quiet tmp;have hi3:bP (((M.create tmp).1.append tmp b).1.sync tmp).1.now tmp=some M.files.length:=by rw [hal.now];exact hi2
  have hre:=Seg.Calm.rename hsy tmp s;have er:(((M.create tmp).1.append tmp b).1.sync tmp).1.rename tmp s=((((M.create tmp).1.append tmp b).1.sync tmp).1.link ⟨tmp,s,M.files.length⟩,0):=by
   unfold ay.rename;rw [hsy.quiet.off,hsy.quiet.step,hi3,hg];simp
  have hf:fill (M.create tmp).1 s b=(((M.create tmp).1.append tmp b).1.sync tmp).1.rename tmp s:=by
   unfold fill;rw [acr b1,acr hs0]
  rw [hf];have hall:∀ t,(((M.create tmp).1.append tmp b).1.sync tmp).1.all t=((M.create tmp).1.append tmp b).1.all t:=hal.all;have OI:(((M.create tmp).1.append tmp b).1.sync tmp).1.now=kC M.now tmp M.files.length:=by rw [hal.now,b2,c2]
  have hu0:(((M.create tmp).1.append tmp b).1.sync tmp).1.used=M.used+b.length:=by rw [hal.used,b3,c3]
  have hgt:(((M.create tmp).1.append tmp b).1.sync tmp).1.all tmp=(b,0):=by rw [hall,b4,c4];rfl
  have hot:∀ t,t≠tmp→(((M.create tmp).1.append tmp b).1.sync tmp).1.all t=M.all t:=fun t h1=>by rw [hall,b5 t h1,c5 t h1]
  generalize (((M.create tmp).1.append tmp b).1.sync tmp).1=M2 at *
  have je:(M2.rename tmp s).1.now=kC (gU (kC M.now tmp M.files.length) tmp) s M.files.length:=by
   rw [er];show iT.on _ M2.now=_;rw [OI];unfold iT.on;simp only [abA RJ,abA hse]
  rw [Seg.PN ht]at je;have CV:(M2.rename tmp s).1.file=M2.file:=by rw [er];rfl
  have hq:=hre.quiet;refine ⟨hre.mono oQ,?_,?_,?_,fun t h1 h2=>?_,fun p hp=>?_,.inl ⟨by rw [er],?_⟩,fun _=>by rw [er]⟩
  ·rw [je,Seg.Di (Ne.symm hst)];exact ht
  ·rw [je];exact aiK _ _ _
  ·rw [← hu0];show ((M2.rename tmp s).1.now.map fun p=>((M2.rename tmp s).1.file p.2).now.length).sum≤(M2.now.map fun p=>(M2.file p.2).now.length).sum;rw [je,CV,OI];rw [DI _ _ _ (fun j=>(M2.file j).now.length),DI _ _ _ (fun j=>(M2.file j).now.length),yC ht];have h2:=KI M.now s (fun j=>(M2.file j).now.length);omega
  ·have e1:bP (M2.rename tmp s).1.now t=bP M.now t:=by rw [je,Seg.Di h2]
   have e2:bP M2.now t=bP M.now t:=by rw [OI,Seg.Di h1]
   rw [← hot t h1];cases hj:bP M.now t with
   |none=>rw [hj]at e1 e2;rw [Seg.all_none hq e1,Seg.all_none hsy.quiet e2]
   |some j=>rw [hj]at e1 e2;rw [Seg.all_some hq e1,Seg.all_some hsy.quiet e2,CV]
  ·rw [je]at hp;rcases acK.1 ((wo _ _ _).mem_iff.1 hp) with rfl|hp
   ·exact .inr rfl
   ·exact .inl (acY.1 hp).1
  ·have e1:bP (M2.rename tmp s).1.now s=some M.files.length:=by rw [je];exact Seg.Dj h.ok.gG.mG _ _
   rw [Seg.all_some hq e1,CV];rw [Seg.all_some hsy.quiet hi3]at hgt;exact hgt
theorem J3 (h:Seg.Calm K r M){i:Nat} (hi:bP M.now s=some i):(M.remove s).2=0∧(M.remove s).1.now=gU M.now s∧(∀ t,t≠s→(M.remove s).1.all t=M.all t)∧(M.remove s).1.used≤M.used:=by
 have hr:=Seg.Gp h.quiet hi;have hc:=h.remove s;have hse:s≠ByteArray.empty:=fun e=>h.ok.gG.ne _ (jF hi) e;have je:(M.remove s).1.now=gU M.now s:=by
  rw [hr];show iT.on ⟨s,ByteArray.empty,0⟩ M.now=_;unfold iT.on;simp only [abA hse,anJ]
 have CV:(M.remove s).1.file=M.file:=by rw [hr];rfl
 refine ⟨by rw [hr],je,fun t ht=>?_,?_⟩
 ·have e1:bP (M.remove s).1.now t=bP M.now t:=by rw [je,Seg.AX ht]
  cases hj:bP M.now t with
  |none=>rw [hj]at e1;rw [Seg.all_none hc.quiet e1,Seg.all_none h.quiet hj]
  |some j=>rw [hj]at e1;rw [Seg.all_some hc.quiet e1,Seg.all_some h.quiet hj,CV]
 ·show ((M.remove s).1.now.map fun p=>((M.remove s).1.file p.2).now.length).sum≤(M.now.map fun p=>(M.file p.2).now.length).sum;rw [je,CV];exact KI M.now s (fun j=>(M.file j).now.length)
structure Sw (p:ByteArray→Bool) (K r:Nat) (l:List ByteArray) (M:ay) (R:ay×Int):Prop where
 zero:R.2=0
 calm:Seg.Calm K r R.1
 sub:∀ q∈R.1.now,q∈M.now
 len:R.1.now.length≤M.now.length
 used:R.1.used≤M.used
 other:∀ t,p t=false→R.1.all t=M.all t
 gone:∀ q∈R.1.now,q.1∈l→p q.1=false
theorem RH {p:ByteArray→Bool}:∀ (l:List ByteArray) (K:Nat) (M:ay),Seg.Calm K r M→l.Nodup→(∀ f∈l,∃ i,bP M.now f=some i)→Sw p (K+l.length) r l M (sweep p l M)
 |[],K,M,h,_,_=>⟨rfl,h,fun q hq=>hq,abL _,abL _,fun _ _=>rfl,fun _ _ hl=>by cases hl⟩
 |f::l,K,M,h,hd,hh=>by
  obtain ⟨d1,d2⟩:=amL.1 hd;unfold sweep;split
  ·rename_i hp;obtain ⟨i,hi⟩:=hh f (.head _);obtain ⟨r1,r2,r3,r4⟩:=J3 h hi;rw [acr r1]
   have hs:=RH (p:=p) l (K+1) (M.remove f).1 (h.remove f) d2 (fun g hg=>by
    rw [r2,Seg.AX (fun e=>d1 (by rw [← e];exact hg))];exact hh g (.tail _ hg))
   refine ⟨hs.zero,hs.calm.mono (by rw [ac5];omega),fun q hq=>?_,acz hs.len (by rw [r2];exact AV M.now f),acz hs.used r4,fun t ht=>?_,fun q hq hl=>?_⟩
   ·have:=hs.sub q hq;rw [r2]at this;exact (acY.1 this).1
   ·rw [hs.other t ht,r3 t (fun e=>by rw [e,hp]at ht;cases ht)]
   ·rcases acK.1 hl with e|hl
    ·have:=hs.sub q hq;rw [r2]at this;have:=(acY.1 this).2;rw [e]at this;simp [bne,nD]at this
    ·exact hs.gone q hq hl
  ·rename_i hp;have hs:=RH (p:=p) l K M h d2 (fun g hg=>hh g (.tail _ hg));refine ⟨hs.zero,hs.calm.mono (by rw [ac5];omega),hs.sub,hs.len,hs.used,hs.other,fun q hq hl=>?_⟩;rcases acK.1 hl with e|hl
   ·rw [e];simpa using hp
   ·exact hs.gone q hq hl
theorem aiJ (h:Seg.Calm K r M):(M.now.map (·.1)).Nodup:=h.ok.gG.mG.keys
structure Svd (n:Int) (b1 b2:Bs) (K r:Nat) (M:ay) (R:ay×Int):Prop where
 calm:Seg.Calm K r R.1
 tmp:bP R.1.now aC.tmp=none
 len:R.1.now.length≤M.now.length+2
 used:R.1.used≤M.used+b1.length+b2.length
 other:∀ t,t≠aC.tmp→t≠name idx n→t≠name use n→other n t=false→R.1.all t=M.all t
 names:∀ p∈R.1.now,p∈M.now∨p.1=name idx n∨p.1=name use n
 done:R.2=0∧R.1.all (name idx n)=(b1,0)∧R.1.all (name use n)=(b2,0)∨R.2=11
 room:M.used+b1.length+b2.length≤r→R.2=0
 gone:R.2=0→∀ p∈R.1.now,aC.other n p.1=false
theorem Kt (h:Seg.Calm K r M) (ht:bP M.now tmp=none) (hl:M.now.length≤480) (h1:0≤n) (h2:n<1048576):Svd n b1 b2 (K+600) r M (save M n b1 b2):=by
 have g1:=AQ (ld:=idx) rfl aN n h1 h2;have g2:=AQ (ld:=use) rfl aN n h1 h2;have n1:=OZ n h1 h2;have n2:=SC n h1 h2;have ne:=aio n h1 h2;have o1:other n (name idx n)=false:=ZO (wu (.inl CX) n h1 h2);have o2:other n (name use n)=false:=ZO (wu (.inr GL) n h1 h2);have w1:=DY (b:=b1) h ht oQ g1 n1;unfold save;by_cases c1:(write M (name idx n) b1).2=0;rotate_left
 ·rw [abA c1];have e11:(write M (name idx n) b1).2=11:=by
   rcases w1.done with ⟨e,_⟩|⟨e,_⟩
   ·exact absurd e c1
   ·exact e
  exact ⟨w1.calm.mono oQ,w1.tmp,by have:=w1.len;omega,by have:=w1.used;omega,fun t a b _ _=>w1.other t a b,fun p hp=>(w1.names p hp).imp id .inl,.inr e11,fun hh=>w1.room oQ,fun e=>absurd e c1⟩
 rw [acr c1];have a1:(write M (name idx n) b1).1.all (name idx n)=(b1,0):=by
  rcases w1.done with ⟨_,e⟩|⟨e,_⟩
  ·exact e
  ·rw [e]at c1;cases c1
 have w2:=DY (b:=b2) w1.calm w1.tmp (by have:=w1.len;omega) g2 n2;unfold Rh;generalize hM1:(write M (name idx n) b1).1=M1 at *
 by_cases c2:(write M1 (name use n) b2).2=0;rotate_left
 ·rw [abA c2];have e11:(write M1 (name use n) b2).2=11:=by
   rcases w2.done with ⟨e,_⟩|⟨e,_⟩
   ·exact absurd e c2
   ·exact e
  refine ⟨w2.calm.mono oQ,w2.tmp,?_,?_,fun t a b c _=>?_,fun p hp=>?_,.inr e11,fun hh=>?_,fun e=>absurd e c2⟩
  ·have:=w1.len;have:=w2.len;rw [hM1]at *;omega
  ·have:=w1.used;have:=w2.used;rw [hM1]at *;omega
  ·have:=w1.other t a b;rw [hM1]at this;rw [w2.other t a c,this]
  ·rcases w2.names p hp with q|q
   ·have:=w1.names p (by rw [hM1];exact q);exact this.imp id .inl
   ·exact .inr (.inr q)
  ·have:=w1.used;rw [hM1]at this;exact w2.room oQ
 rw [acr c2];have a2:(write M1 (name use n) b2).1.all (name use n)=(b2,0):=by
  rcases w2.done with ⟨_,e⟩|⟨e,_⟩
  ·exact e
  ·rw [e]at c2;cases c2
 have a3:(write M1 (name use n) b2).1.all (name idx n)=(b1,0):=by rw [w2.other _ n1 ne,a1]
 generalize hM2:(write M1 (name use n) b2).1=M2 at *
 have k2:Seg.Calm (K+5+5) r M2:=by have:=w2.calm;rw [hM2]at this;exact this
 have hd:=k2.quiet.Gw;have hds:=k2.dR;unfold Ri;rw [acr (by rw [hd])];have hz:M2.dR.1.now=M2.now:=by rw [hd]
 have hu:M2.dR.1.used=M2.used:=by rw [hd];rfl
 have hall:∀ t,M2.dR.1.all t=M2.all t:=fun t=>by rw [hd];rfl
 generalize M2.dR.1=M3 at *
 have Aw:M3.list=M3.now.map (·.1):=hds.quiet.list
 have hs:=RH (p:=other n) M3.list (K+5+5) M3 hds (by rw [Aw];exact aiJ hds) (fun f hf=>by
  rw [Aw]at hf;obtain ⟨p,hp,rfl⟩:=abZ.1 hf;exact ⟨p.2,Dh hds.ok.gG.mG.keys (show (p.1,p.2)∈M3.now from hp)⟩)
 have hlen:M3.list.length≤500:=by rw [Aw,abl];exact hds.ok.gG.len
 refine ⟨hs.calm.mono oQ,?_,?_,?_,fun t a b c d=>?_,fun p hp=>?_,.inl ⟨hs.zero,?_,?_⟩,fun _=>hs.zero,fun _ p hp=>hs.gone p hp (by rw [Aw];exact abZ.2 ⟨p,hs.sub p hp,rfl⟩)⟩
 ·cases hi:bP (sweep (other n) M3.list M3).1.now tmp with
  |none=>rfl
  |some i=>
   have q:=hs.sub _ (jF hi);have:=Dh hds.ok.gG.mG.keys q;rw [hz]at this;have e:=w2.tmp;rw [hM2,this]at e;cases e
 ·have:=hs.len;have:=w1.len;have:=w2.len;rw [hM1]at *;rw [hM2]at *;rw [hz]at *;omega
 ·have:=hs.used;have:=w1.used;have:=w2.used;rw [hM1]at *;rw [hM2]at *;omega
 ·have e1:=w1.other t a b;have e2:=w2.other t a c;rw [hM1]at e1;rw [hM2]at e2;rw [hs.other t d,hall,e2,e1]
 ·have q:=hs.sub p hp;rw [hz]at q;rcases w2.names p (by rw [hM2];exact q) with q|q
  ·have:=w1.names p (by rw [hM1];exact q);exact this.imp id .inl
  ·exact .inr (.inr q)
 ·rw [hs.other _ o1,hall,a3]
 ·rw [hs.other _ o2,hall,a2]
end
end Go.aC
namespace Go.dF
open Go.ah (Bs le num kJ JK)
structure Rw where
 key:Bs
 nums:List Int
def oU (ns:List Int):Bs:=ns.flatMap fun n=>le n.toNat 4
def rowB (kd:Bool) (r:Rw):Bs:=(if kd then r.key else [])++oU r.nums
def mX (kd:Bool) (l:List Rw):Bs:=l.flatMap (rowB kd)
def body (mg:Bs) (kd:Bool) (l:List Rw):Bs:=mg++le l.length 4++mX kd l
def book (X:Bs→Nat) (mg:Bs) (kd:Bool) (l:List Rw):Bs:=body mg kd l++le (X (body mg kd l)) 8
structure EG (k:Nat) (r:Rw):Prop where
 key:r.key.length=32
 len:r.nums.length=k
 num:∀ n∈r.nums,0≤n∧n≤4294967295
def ahead (kd:Bool) (a b:Rw):Prop:=if kd then a.key<b.key else a.nums.getD 0 0<b.nums.getD 0 0
instance (kd:Bool) (a b:Rw):Decidable (ahead kd a b):=by unfold ahead;infer_instance
def UJ (kd:Bool) (l:List Rw):Prop:=∀ i a b,l[i]?=some a→l[i+1]?=some b→ahead kd a b
structure Ok (k:Nat) (kd:Bool) (l:List Rw):Prop where
 len:l.length≤65536
 row:∀ r∈l,EG k r
 rise:UJ kd l
section
variable {X:Bs→Nat}{mg:Bs}{kd:Bool}{l:List Rw}{r:Rw}{k i:Nat}{n:Int}{ns:List Int}
theorem ZF:oU []=[]:=rfl
theorem ZC (n:Int) (ns:List Int):oU (n::ns)=le n.toNat 4++oU ns:=rfl
theorem aiN (a b:List Int):oU (a++b)=oU a++oU b:=by unfold oU;rw [adz]
theorem ZE (ns:List Int):(oU ns).length=4 * ns.length:=by
 induction ns with
 |nil=>rfl
 |cons n ns ih=>rw [ZC,aaK,kJ,ih,ac5];omega
theorem QC:mX kd []=[]:=rfl
theorem aaC (r:Rw) (l:List Rw):mX kd (r::l)=rowB kd r++mX kd l:=rfl
theorem aj9 (a b:List Rw):mX kd (a++b)=mX kd a++mX kd b:=by unfold mX;rw [adz]
def qV (kd:Bool) (k:Nat):Nat:=4 * k+if kd then 32 else 0
theorem aj8 (h:EG k r):(rowB kd r).length=qV kd k:=by
 unfold rowB qV;rw [aaK,ZE,h.len];cases kd
 ·simp
 ·rw [acr rfl,acr rfl,h.key];omega
theorem QB:∀ (l:List Rw),(∀ r∈l,EG k r)→(mX kd l).length=l.length * qV kd k
 |[],_=>by simp [QC]
 |r::l,h=>by
  rw [aaC,aaK,aj8 (h r (.head _)),QB l (fun x hx=>h x (.tail _ hx)),ac5,ak4];omega
theorem Nz (hm:mg.length=8) (h:∀ r∈l,EG k r):(body mg kd l).length=12+l.length * qV kd k:=by
 unfold body;rw [aaK,aaK,hm,kJ,QB l h]
theorem IU (hm:mg.length=8) (h:∀ r∈l,EG k r):(book X mg kd l).length=20+l.length * qV kd k:=by
 unfold book;rw [aaK,Nz hm h,kJ];omega
theorem aaB (hk:k≤3):qV kd k≤44:=by unfold qV;split <;> omega
theorem aev (hm:mg.length=8) (hk:k≤3) (h:Ok k kd l):(body mg kd l).length≤3000000:=by
 rw [Nz hm h.row];have h1:=h.len;have h2:l.length * qV kd k≤65536 * 44:=anv h1 (aaB hk);omega
theorem mZ {α:Type}{l:List α}{x:α} (h:l[i]?=some x):l.take (i+1)=l.take i++[x]:=by
 obtain ⟨hi,rfl⟩:=abW.1 h;exact agm hi
theorem akb (h:l[i]?=some r):mX kd (l.take (i+1))=mX kd (l.take i)++rowB kd r:=by
 rw [mZ h,aj9,aaC,QC,acM]
theorem aiO {j:Nat} (h:ns[j]?=some n):oU (ns.take (j+1))=oU (ns.take j)++le n.toNat 4:=by
 rw [mZ h,aiN,ZC,ZF,acM]
def AO:Bs:=[72,79,65,82,68,73,68,88]
def AP:Bs:=[72,79,65,82,68,85,83,69]
end
end Go.dF
namespace Go.Proofs.YtihngncbioofnaaGreatDoor
open Go Go.Sl Go.ay Go.MapKept Go.RowKit
def msl (T sz:Nat) (v:Value) (xs:List Value):aH:=fun h=>
 ∃ b n cap cs m,v = .slice (some ⟨b,0,none⟩) n cap∧xs.length=n * sz∧n≤cap∧cap * sz≤cs.size∧cap≤maxLen∧cs.toList.take (n * sz)=xs∧cs.size≤m∧pt b (.cells cs T (m,m+1)) h
def xG (T sz:Nat) (v:Value) (xs:List Value):aH:=fun h=>aB T sz v xs h∨msl T sz v xs h
abbrev jk (v:Value) (l:ah.Bs):aH:=xG 5 1 v (aA l)
section
variable {P:Program}{w0 w:World}{R:List aH}{T sz b:Nat}{v x:Value}{xs ys:List Value}{fr:Nat×Nat}
theorem NJ {cs:Array Value}{T:TypeId} (h:Sat w0 w (pt b (.cells cs T fr)::R)) (i:Nat) (v:Value) (hv:cs[i]?=some v):w.cell? ⟨b,i,none⟩=some v:=by
 have:=h.at;simp [World.cell?,this,hv]
theorem agf {cs:Array Value}{T:TypeId}{m:Nat} (h:Sat w0 w (pt b (.cells cs T (m,m+1))::R)) (i:Nat) (hi:i<m):w.frozen? ⟨b,i,none⟩=false:=by
 have:=h.at;simp [World.frozen?,this];omega
theorem alr {cs:Array Value}{T:TypeId} (h:Sat w0 w (pt b (.cells cs T fr)::R)) (i:Nat) (v:Value):Sat w0 (w.setCell ⟨b,i,none⟩ v) (pt b (.cells (cs.setIfInBounds i v) T fr)::R):=by
 have hb:=h.at;have hlt:=h.lt;refine h.turn rfl rfl rfl (by simp) ?_ ?_
 ·simp only [World.setCell,ai9,anJ,hb];simp
 ·intro j hj _;simp only [World.setCell,ai9];rw [abA (Ne.symm hj)]
theorem aa9:∀ (vs:List Value){cs:Array Value}{T:TypeId}{w:World} (o:Nat),Sat w0 w (pt b (.cells cs T fr)::R)→Sat w0 (w.setCells b o vs) (pt b (.cells (eu cs o vs) T fr)::R)
 |[],_,_,_,_,h=>h
 |v::r,_,_,_,o,h=>aa9 r (o+1) (alr h o v)
theorem Nc (h:Sat w0 w (xG T sz v xs::R)):Sat w0 w (aB T sz v xs::R)∨∃ b n cap cs m,v = .slice (some ⟨b,0,none⟩) n cap∧xs.length=n * sz∧n≤cap∧cap * sz≤cs.size∧cap≤maxLen∧cs.toList.take (n * sz)=xs∧cs.size≤m∧Sat w0 w (pt b (.cells cs T (m,m+1))::R):=by
 obtain ⟨ha,x,hx,p,q,d,rfl,hp,hq⟩:=h;rcases hp with hp|⟨b,n,cap,cs,m,h1,h2,h3,h4,h5,h6,h7,h8⟩
 ·exact .inl ⟨ha,_,hx,p,q,d,rfl,hp,hq⟩
 ·exact .inr ⟨b,n,cap,cs,m,h1,h2,h3,h4,h5,h6,h7,ha,_,hx,p,q,d,rfl,h8,hq⟩
theorem U4 (h:Sat w0 w (aB T sz v xs::R)):Sat w0 w (xG T sz v xs::R):=h.head fun _ hx=> .inl hx
theorem U5 {n cap m:Nat}{cs:Array Value} (h:Sat w0 w (pt b (.cells cs T (m,m+1))::R)) (h2:xs.length=n * sz) (h3:n≤cap) (h4:cap * sz≤cs.size) (h5:cap≤maxLen) (h6:cs.toList.take (n * sz)=xs) (h7:cs.size≤m):Sat w0 w (xG T sz (.slice (some ⟨b,0,none⟩) n cap) xs::R):=
 h.head fun _ hx=> .inr ⟨b,n,cap,cs,m,rfl,h2,h3,h4,h5,h6,h7,hx⟩
theorem Nh (h:Sat w0 w (xG T sz v xs::R)):bG sz v xs w:=by
 rcases Nc h with h|⟨b,n,cap,cs,m,rfl,hl,hn,hc,hcm,htk,hm,hp⟩
 ·exact Sat.rd h
 ·exact ⟨_,n,cap,rfl,hl,fun j y hj=>⟨_,rfl,by rw [qO];exact NJ hp j y (mZ htk hj)⟩⟩
theorem ad4 (h:Sat w0 w R) (e:TypeId) (s:ByteArray) (l:ah.Bs) (hs:s.data.toList=l) (hl:l.length≤1073741824):Sat w0 (Lib.bytesWorld w e s) (xG e 1 (.slice (some ⟨w.heap.size,0,none⟩) s.size (grownCap w s.size 0 e)) (aA l)::R):=by
 have h1:=(h.drew).alloc (.cells (Lib.bytesCells w e s) e);have hsz:s.size=l.length:=by rw [← hs];exact acJ.symm
 have hge:=grownCap_ge w s.size 0 e;have hcm:=grownCap_le_maxLen w s.size 0 e (by have:maxLen=9223372036854775807:=rfl;omega);have hcs:(Lib.bytesCells w e s).size=grownCap w s.size 0 e:=by
  unfold Lib.bytesCells;rw [Array.size_append,Array.size_map,Array.size_replicate];have:s.data.size=s.size:=rfl;omega
 have h2:Sat w0 (Lib.bytesWorld w e s) (pt w.heap.size (.cells (Lib.bytesCells w e s) e ((Lib.bytesCells w e s).size,(Lib.bytesCells w e s).size+1))::R):=by
  refine h1.turn (w':=Lib.bytesWorld w e s) rfl rfl rfl ?_ (Lib.bytesWorld_at_new w e s) (fun j hj _=>?_)
  ·rw [Lib.bytesWorld_size];exact Nat.le_of_eq (Array.size_push ..)
  ·unfold Lib.bytesWorld World.freeze;rw [abA aN];show (Array.modify _ _ _)[j]?=_;rw [ai9];exact abA (fun e=>hj e.symm)
 refine U5 h2 ?_ hge (by rw [adb,hcs];exact abL _) hcm ?_ (abL _)
 ·rw [aX,hsz,adb]
 ·unfold Lib.bytesCells;rw [aoo,adb,ado (by rw [acJ,Array.size_map];exact abL _),acX (by rw [acJ,Array.size_map];exact abL _),Array.toList_map,hs]
  rfl
theorem akx (t ty e:TypeId) (i:TypeInfo) (z:Value) (ht:P.underlying t=some (.slice e)) (hi:P.info? e=some i) (hz:i.zero=some z)
  (hs:i.size=sz) (hzs:z.cells.size=sz) (hsz:0<sz) (h1:∀ u∈ys,u.oneCell'=true) (hy0:ys≠[])
  (h:Sat w0 w (xG e sz v xs::R)) (hx:bG sz x ys w) (h63:xs.length+ys.length≤maxLen) (hby:(xs.length+ys.length) * i.bytes≤140737488355328) :
  ∃ v' w',(Builtin.append_ #[t,t] ty #[v,x]).run P w = .ok v' w'∧Sat w0 w' (xG e sz v' (xs++ys)::R):=by
 rcases Nc h with h|⟨b,n,cap,cs,mk,rfl,hl,hn,hc,hcm,htk,hmk,hp⟩
 ·obtain ⟨v',w',hr,hS,_⟩:=aaM (P:=P) t ty e i z ht hi hz hs hzs hsz h1 h hx h63 hby;exact ⟨v',w',hr,U4 hS⟩
 ·subst hs;obtain ⟨xa,m,c,rfl,hyl,yx⟩:=hx;have hle:∀ {p q:Nat},p=q * i.size→q≤p:=fun {p q} e=>by rw [e];exact Nat.le_mul_of_pos_right _ hsz
  have hm:=hle hyl;obtain ⟨ad,rfl⟩:∃ ad,xa=some ad:=by
   obtain ⟨y,hy⟩:∃ y,ys[0]?=some y:=by
    cases ys with
    |nil=>exact absurd rfl hy0
    |cons y _=>exact ⟨y,rfl⟩
   obtain ⟨b,hb,_⟩:=yx 0 y hy;exact ⟨b,hb⟩
  have hnews:∀ j u,ys[j]?=some u→w.cell? (ad.add j)=some u:=fun j u hj=>by
   obtain ⟨b,hb,hx⟩:=yx j u hj;cases hb;exact hx
  have hnx:=hle hl;have h63':maxLen=9223372036854775807:=rfl;by_cases hroom:n+m≤cap
  ·have hfit:n * i.size+ys.length≤cs.size:=by
    rw [hyl,← ak4];exact acz (afx _ hroom) hc
   have hr:=run_append_room_cells (P:=P) w t ty e i ht hi b 0 n cap ad m c ys hyl hnews h1 hroom
    (fun j hj=>by rw [acT,NJ hp (n * i.size+j) _ (aib (show n * i.size+j<cs.size by omega))];rfl)
    (fun j hj=>by rw [acT];exact agf hp _ oQ)
   rw [acT]at hr;refine ⟨_,_,hr,U5 (aa9 ys (n * i.size) hp) ?_ hroom (by rw [kE];exact hc) hcm ?_ (by rw [kE];exact hmk)⟩
   ·rw [aaK,hl,hyl,ak4]
   ·rw [lg _ _ _ hfit,htk];have e1:(n+m) * i.size=(xs++ys).length:=by rw [aaK,hl,hyl,ak4]
    rw [e1];exact List.take_left
  ·have holds:∀ j u,xs[j]?=some u→w.cell? ((⟨b,0,none⟩:Addr).add j)=some u:=fun j u hj=>by
    rw [qO];exact NJ hp j u (mZ htk hj)
   have CU:(n+m) * i.bytes≤140737488355328:=acz (afx _ oQ) hby;have hr:=run_append_grow (P:=P) w t ty e i z ht hi hz ⟨b,0,none⟩ n cap xs hl holds ad m c ys hyl hnews oQ oQ (growslice_fits oQ CU);have hge:=grownCap_ge w (n+m) cap e;have hcm':=grownCap_le_maxLen w (n+m) cap e oQ;refine ⟨_,_,hr,U4 (Sat.kR ((hp.drop.drew).alloc (.cells (xs.toArray++ys.toArray++Builtin.zeroCells z.cells (grownCap w (n+m) cap e - (n+m))) e)) ?_ hge ?_ hcm' ?_)⟩
   ·rw [aaK,hl,hyl,ak4]
   ·simp only [Array.size_append,abX,size_zeroCells,hzs];rw [hl,hyl,← ak4,← ak4];exact afx _ oQ
   ·simp only [aoo,acD];rw [← acD];have e1:(n+m) * i.size=(xs++ys).length:=by rw [aaK,hl,hyl,ak4]
    rw [e1];exact List.take_left
end
end Go.Proofs.YtihngncbioofnaaGreatDoor
namespace Go.Xx
open Go.ah (Bs num le yE)
def W:Nat:=18446744073709551616
def p1:Nat:=11400714785074694791
def p2:Nat:=14029467366897019727
def p3:Nat:=1609587929392839161
def p4:Nat:=9650029242287828579
def p5:Nat:=2870177450012600261
def turn (x k:Nat):Nat:=(x * 2^k%W) ||| (x / 2^(64 - k))
def lane (a w:Nat):Nat:=turn ((a+w * p2%W)%W) 31 * p1%W
structure Ln where
 a:Nat
 b:Nat
 c:Nat
 d:Nat
def Ln.zero:Ln:=⟨(p1+p2)%W,p2,0,W - p1⟩
def Ln.lt (l:Ln):Prop:=l.a<W∧l.b<W∧l.c<W∧l.d<W
def strip (l:Ln) (b:Bs):Ln:=⟨lane l.a (num (b.take 8)),lane l.b (num ((b.drop 8).take 8)),lane l.c (num ((b.drop 16).take 8)),lane l.d (num ((b.drop 24).take 8))⟩
def jQ:Nat→Ln→Bs→Ln×Bs
 |0,l,b=>(l,b)
 |n+1,l,b=>if 32≤b.length then jQ n (strip l b) (b.drop 32) else (l,b)
def mix (x a:Nat):Nat:=((x ^^^ lane 0 a) * p1%W+p4)%W
def joined (l:Ln):Nat:=mix (mix (mix (mix ((((turn l.a 1+turn l.b 7)%W+turn l.c 12)%W+turn l.d 18)%W) l.a) l.b) l.c) l.d
def t8 (x w:Nat):Nat:=(turn (x ^^^ lane 0 w) 27 * p1%W+p4)%W
def t4 (x w:Nat):Nat:=(turn (x ^^^ (w * p1%W)) 23 * p2%W+p3)%W
def t1 (x:Nat) (c:UInt8):Nat:=turn (x ^^^ (c.toNat * p5%W)) 11 * p1%W
def kU:Nat→Nat→Bs→Nat×Bs
 |0,x,b=>(x,b)
 |n+1,x,b=>if 8≤b.length then kU n (t8 x (num (b.take 8))) (b.drop 8) else (x,b)
def tail4 (x:Nat) (b:Bs):Nat×Bs:=if 4≤b.length then (t4 x (num (b.take 4)),b.drop 4) else (x,b)
def tail (x:Nat) (b:Bs):Nat:=(tail4 (kU b.length x b).1 (kU b.length x b).2).2.foldl t1 (tail4 (kU b.length x b).1 (kU b.length x b).2).1
def f1 (x:Nat):Nat:=(x ^^^ (x / 8589934592)) * p2%W
def f2 (x:Nat):Nat:=(x ^^^ (x / 536870912)) * p3%W
def f3 (x:Nat):Nat:=x ^^^ (x / 4294967296)
def sum (b:Bs):Nat:=f3 (f2 (f1 (tail (((if 32≤b.length then joined (jQ b.length Ln.zero b).1 else p5)+b.length)%W) (jQ b.length Ln.zero b).2)))
theorem adN:0<W:=by decide
theorem mod_lt (x:Nat):x%W<W:=anH _ adN
theorem W64:W=2^64:=by decide
theorem BL {a b:Nat} (ha:a<W) (hb:b<W):a ^^^ b<W:=by rw [W64]at *;exact Nat.xor_lt_two_pow ha hb
theorem div_lt {x:Nat} (k:Nat) (h:x<W):x / k<W:=anq (an6 _ _) h
theorem FQ (a w:Nat):lane a w<W:=mod_lt _
theorem acv:Ln.zero.lt:=⟨mod_lt _,by decide,by decide,by decide⟩
theorem abn (l:Ln) (b:Bs):(strip l b).lt:=⟨FQ _ _,FQ _ _,FQ _ _,FQ _ _⟩
theorem Xi:∀ (n:Nat) (l:Ln) (b:Bs),l.lt→(jQ n l b).1.lt
 |0,l,b,h=>h
 |n+1,l,b,h=>by
  unfold jQ;split
  ·exact Xi n _ _ (abn l b)
  ·exact h
theorem al8 (x w:Nat):t8 x w<W:=mod_lt _
theorem al6 (x w:Nat):t4 x w<W:=mod_lt _
theorem al4 (x:Nat) (c:UInt8):t1 x c<W:=mod_lt _
theorem abp:∀ (n x:Nat) (b:Bs),x<W→(kU n x b).1<W
 |0,x,b,h=>h
 |n+1,x,b,h=>by
  unfold kU;split
  ·exact abp n _ _ (al8 _ _)
  ·exact h
theorem amb (x:Nat) (b:Bs) (h:x<W):(tail4 x b).1<W:=by
 unfold tail4;split
 ·exact al6 _ _
 ·exact h
theorem WX:∀ (b:Bs) (x:Nat),x<W→b.foldl t1 x<W
 |[],x,h=>h
 |c::b,x,h=>WX b _ (al4 _ _)
theorem abq (x:Nat) (b:Bs) (h:x<W):tail x b<W:=WX _ _ (amb _ _ (abp _ _ _ h))
theorem afP (x:Nat):f2 x<W:=mod_lt _
theorem afQ {x:Nat} (h:x<W):f3 x<W:=BL h (div_lt _ h)
theorem sum_lt (b:Bs):sum b<W:=afQ (afP _)
theorem Xh:∀ (n:Nat) (l:Ln) (b:Bs),(jQ n l b).2.length≤b.length
 |0,l,b=>abL _
 |n+1,l,b=>by
  unfold jQ;split
  ·exact acz (Xh n _ _) (by rw [acL];omega)
  ·exact abL _
theorem agw {n:Nat}{l:Ln}{b:Bs} (hb:32≤b.length) (hn:b.length≤n):jQ n l b=jQ (n - 32) (strip l b) (b.drop 32):=by
 obtain ⟨m,rfl⟩:∃ m,n=m+1:=⟨n - 1,by omega⟩;have h:jQ (m+1) l b=jQ m (strip l b) (b.drop 32):=by
  conv=>lhs;unfold jQ
  rw [acr hb]
 rw [h];exact Xg m (m+1 - 32) (strip l b) (b.drop 32) (by rw [acL];omega) (by rw [acL];omega)
where
 Xg:∀ (n m:Nat) (l:Ln) (b:Bs),b.length≤n→b.length≤m→jQ n l b=jQ m l b
 |0,0,l,b,_,_=>rfl
 |0,m+1,l,b,h,_=>by
  have:¬ 32≤b.length:=oQ;unfold jQ;rw [abA this]
 |n+1,0,l,b,_,h=>by
  have:¬ 32≤b.length:=oQ;unfold jQ;rw [abA this]
 |n+1,m+1,l,b,h1,h2=>by
  unfold jQ;split
  ·exact Xg n m _ _ (by rw [acL];omega) (by rw [acL];omega)
  ·rfl
theorem agx {n:Nat}{l:Ln}{b:Bs} (hb:¬ 32≤b.length):jQ n l b=(l,b):=by
 cases n with
 |zero=>rfl
 |succ n=>unfold jQ;rw [abA hb]
theorem amc {n x:Nat}{b:Bs} (hb:8≤b.length) (hn:b.length≤n):kU n x b=kU (n - 8) (t8 x (num (b.take 8))) (b.drop 8):=by
 obtain ⟨m,rfl⟩:∃ m,n=m+1:=⟨n - 1,by omega⟩;have h:kU (m+1) x b=kU m (t8 x (num (b.take 8))) (b.drop 8):=by
  conv=>lhs;unfold kU
  rw [acr hb]
 rw [h];exact fuel m (m+1 - 8) _ (b.drop 8) (by rw [acL];omega) (by rw [acL];omega)
where
 fuel:∀ (n m x:Nat) (b:Bs),b.length≤n→b.length≤m→kU n x b=kU m x b
 |0,0,x,b,_,_=>rfl
 |0,m+1,x,b,h,_=>by
  have:¬ 8≤b.length:=oQ;unfold kU;rw [abA this]
 |n+1,0,x,b,_,h=>by
  have:¬ 8≤b.length:=oQ;unfold kU;rw [abA this]
 |n+1,m+1,x,b,h1,h2=>by
  unfold kU;split
  ·exact fuel n m _ _ (by rw [acL];omega) (by rw [acL];omega)
  ·rfl
theorem amd {n x:Nat}{b:Bs} (hb:¬ 8≤b.length):kU n x b=(x,b):=by
 cases n with
 |zero=>rfl
 |succ n=>unfold kU;rw [abA hb]
end Go.Xx
namespace Go.Proofs.YtihngncbioofnaaGreatDoor
open Go Go.Sl Go.ay Go.MapKept Go.RowKit
section
variable {x y z a n c:Nat}
theorem wrapN (x:Nat):IntKind.u64.wrap (x:Int)=((x%18446744073709551616:Nat):Int):=by rw [ahL];rfl
theorem mulN (x c:Nat):IntKind.u64.wrap ((x:Int) * (c:Int))=((x * c%18446744073709551616:Nat):Int):=by rw [← Int.natCast_mul,wrapN]
theorem addN (x c:Nat):IntKind.u64.wrap ((x:Int)+(c:Int))=(((x+c)%18446744073709551616:Nat):Int):=by rw [← Int.natCast_add,wrapN]
theorem yI (x y:Nat) (hx:x<18446744073709551616) (hy:y<18446744073709551616):bits .or .u64 (x:Int) (y:Int)=((x ||| y:Nat):Int):=u64_or_nat x y hx hy
theorem BK (x y:Nat) (hx:x<18446744073709551616) (hy:y<18446744073709551616):bits .xor .u64 (x:Int) (y:Int)=((x ^^^ y:Nat):Int):=u64_xor_nat x y hx hy
theorem pR (x:Nat):x%18446744073709551616<18446744073709551616:=anH _ aN
theorem Tm (hx:x<18446744073709551616) (hy:y<18446744073709551616):x ^^^ y<18446744073709551616:=Xx.BL (show x<Xx.W from hx) (show y<Xx.W from hy)
theorem O8 (a w:Nat):Xx.lane a w<18446744073709551616:=Xx.FQ a w
theorem ahT (a x:Nat):∃ y z u:Nat,IntKind.u64.wrap ((x:Int) * 14029467366897019727)=(y:Int)∧IntKind.u64.wrap ((a:Int)+(y:Int))=(z:Int)∧z<18446744073709551616∧IntKind.u64.wrap ((Xx.turn z 31:Nat) * (11400714785074694791:Int))=(u:Int)∧Xx.lane a x=u:=
 ⟨x * Xx.p2%18446744073709551616,(a+x * Xx.p2%18446744073709551616)%18446744073709551616,Xx.turn ((a+x * Xx.p2%18446744073709551616)%18446744073709551616) 31 * Xx.p1%18446744073709551616,mulN x Xx.p2,addN _ _,pR _,mulN _ Xx.p1,rfl⟩
theorem JD (hx:x<18446744073709551616) (a:Nat):∃ y z u:Nat,bits .xor .u64 (x:Int) ((Xx.lane 0 a:Nat):Int)=(y:Int)∧IntKind.u64.wrap ((y:Int) * 11400714785074694791)=(z:Int)∧IntKind.u64.wrap ((z:Int)+9650029242287828579)=(u:Int)∧u<18446744073709551616∧Xx.mix x a=u:=
 ⟨x ^^^ Xx.lane 0 a,(x ^^^ Xx.lane 0 a) * Xx.p1%18446744073709551616,((x ^^^ Xx.lane 0 a) * Xx.p1%18446744073709551616+Xx.p4)%18446744073709551616,BK x _ hx (O8 0 a),mulN _ Xx.p1,addN _ Xx.p4,pR _,rfl⟩
theorem al7 (hx:x<18446744073709551616) (n:Nat):∃ r z u:Nat,bits .xor .u64 (x:Int) ((Xx.lane 0 n:Nat):Int)=(r:Int)∧r<18446744073709551616∧IntKind.u64.wrap ((Xx.turn r 27:Nat) * (11400714785074694791:Int))=(z:Int)∧IntKind.u64.wrap ((z:Int)+9650029242287828579)=(u:Int)∧u<18446744073709551616∧Xx.t8 x n=u:=
 ⟨x ^^^ Xx.lane 0 n,Xx.turn (x ^^^ Xx.lane 0 n) 27 * Xx.p1%18446744073709551616,(Xx.turn (x ^^^ Xx.lane 0 n) 27 * Xx.p1%18446744073709551616+Xx.p4)%18446744073709551616,BK x _ hx (O8 0 n),Tm hx (O8 0 n),mulN _ Xx.p1,addN _ Xx.p4,pR _,rfl⟩
theorem al5 (hx:x<18446744073709551616) (n:Nat):∃ t r z u:Nat,IntKind.u64.wrap ((n:Int) * 11400714785074694791)=(t:Int)∧bits .xor .u64 (x:Int) (t:Int)=(r:Int)∧r<18446744073709551616∧IntKind.u64.wrap ((Xx.turn r 23:Nat) * (14029467366897019727:Int))=(z:Int)∧IntKind.u64.wrap ((z:Int)+1609587929392839161)=(u:Int)∧u<18446744073709551616∧Xx.t4 x n=u:=
 ⟨n * Xx.p1%18446744073709551616,x ^^^ (n * Xx.p1%18446744073709551616),Xx.turn (x ^^^ (n * Xx.p1%18446744073709551616)) 23 * Xx.p2%18446744073709551616,(Xx.turn (x ^^^ (n * Xx.p1%18446744073709551616)) 23 * Xx.p2%18446744073709551616+Xx.p3)%18446744073709551616,mulN n Xx.p1,BK x _ hx (pR _),Tm hx (pR _),mulN _ Xx.p2,addN _ Xx.p3,pR _,rfl⟩
theorem abo (hx:x<18446744073709551616) (c:UInt8):∃ q r u:Nat,IntKind.u64.wrap ((c.toNat:Int) * 2870177450012600261)=(q:Int)∧bits .xor .u64 (x:Int) (q:Int)=(r:Int)∧r<18446744073709551616∧IntKind.u64.wrap ((Xx.turn r 11:Nat) * (11400714785074694791:Int))=(u:Int)∧u<18446744073709551616∧Xx.t1 x c=u:=
 ⟨c.toNat * Xx.p5%18446744073709551616,x ^^^ (c.toNat * Xx.p5%18446744073709551616),Xx.turn (x ^^^ (c.toNat * Xx.p5%18446744073709551616)) 11 * Xx.p1%18446744073709551616,mulN _ Xx.p5,BK x _ hx (pR _),Tm hx (pR _),mulN _ Xx.p1,pR _,rfl⟩
theorem ahH (l:Xx.Ln):∃ s1 s2 x0:Nat,IntKind.u64.wrap ((Xx.turn l.a 1:Nat)+((Xx.turn l.b 7:Nat):Int))=(s1:Int)∧IntKind.u64.wrap ((s1:Int)+((Xx.turn l.c 12:Nat):Int))=(s2:Int)∧IntKind.u64.wrap ((s2:Int)+((Xx.turn l.d 18:Nat):Int))=(x0:Int)∧x0<18446744073709551616∧Xx.joined l=Xx.mix (Xx.mix (Xx.mix (Xx.mix x0 l.a) l.b) l.c) l.d:=
 ⟨_,_,_,addN _ _,addN _ _,addN _ _,pR _,rfl⟩
theorem WI (hx:x<18446744073709551616):∃ t1 t2 t3 t4 t5:Nat,bits .xor .u64 (x:Int) ((x:Int) / 8589934592)=(t1:Int)∧IntKind.u64.wrap ((t1:Int) * 14029467366897019727)=(t2:Int)∧bits .xor .u64 (t2:Int) ((t2:Int) / 536870912)=(t3:Int)∧IntKind.u64.wrap ((t3:Int) * 1609587929392839161)=(t4:Int)∧bits .xor .u64 (t4:Int) ((t4:Int) / 4294967296)=(t5:Int)∧Xx.f3 (Xx.f2 (Xx.f1 x))=t5:=by
 have d:∀ (y k:Nat),y<18446744073709551616→y / k<18446744073709551616:=fun y k h=>anq (an6 _ _) h;exact ⟨x ^^^ (x / 8589934592),(x ^^^ (x / 8589934592)) * Xx.p2%18446744073709551616,Xx.f1 x ^^^ (Xx.f1 x / 536870912),(Xx.f1 x ^^^ (Xx.f1 x / 536870912)) * Xx.p3%18446744073709551616,Xx.f2 (Xx.f1 x) ^^^ (Xx.f2 (Xx.f1 x) / 4294967296),BK x _ hx (d _ _ hx),mulN _ Xx.p2,BK (Xx.f1 x) _ (pR _) (d _ _ (pR _)),mulN _ Xx.p3,BK (Xx.f2 (Xx.f1 x)) _ (pR _) (d _ _ (pR _)),rfl⟩
theorem abm (j n:Nat):∃ x:Nat,IntKind.u64.wrap ((j:Int)+(n:Int))=(x:Int)∧x<18446744073709551616∧(j+n)%Xx.W=x:=⟨(j+n)%18446744073709551616,addN j n,pR _,rfl⟩
end
section
variable {w0 w:World}{F:List aH}{v bv:Value}
theorem amq (x:Nat) (hx:x<18446744073709551616) (h:Sat w0 w F):Calls Tryz.prog 245 #[.int .u64 x,.int .i64 1] w (aP fun v w'=>v = .int .u64 (Xx.turn x 1:Nat)∧Sat w0 w' F):=by
 have hf:=uQ (show Xx.turn x 1=(x * 2%18446744073709551616) ||| (x / 9223372036854775808) from rfl);have e1:IntKind.u64.wrap ((x:Int) * 2)=((x * 2%18446744073709551616:Nat):Int):=by rw [ahL];omega
 have e2:(x:Int) / 9223372036854775808=((x / 9223372036854775808:Nat):Int):=rfl;have ha:x * 2%18446744073709551616<18446744073709551616:=anH _ aN;have hb:x / 9223372036854775808<18446744073709551616:=anq (an6 _ _) hx;generalize x * 2%18446744073709551616=a at *
 generalize x / 9223372036854775808=b at *
 have e3:=yI a b ha hb;have hS:=h.drew;have e0:bits .and .i64 (1:Int) 63=1:=by decide
 have zU:wrap64 (64 - 1:Int)=63:=by rw [adM _ aN];rfl
 clear ha hb h;go_enter Tryz.func245,Tryz.ntmps245;go_wp2_with fail
 go_region
 go_wp2;go_ret;exact ⟨_,rfl,by rw [hf.out];rfl,hS⟩
theorem amv (x:Nat) (hx:x<18446744073709551616) (h:Sat w0 w F):Calls Tryz.prog 245 #[.int .u64 x,.int .i64 7] w (aP fun v w'=>v = .int .u64 (Xx.turn x 7:Nat)∧Sat w0 w' F):=by
 have hf:=uQ (show Xx.turn x 7=(x * 128%18446744073709551616) ||| (x / 144115188075855872) from rfl);have e1:IntKind.u64.wrap ((x:Int) * 128)=((x * 128%18446744073709551616:Nat):Int):=by rw [ahL];omega
 have e2:(x:Int) / 144115188075855872=((x / 144115188075855872:Nat):Int):=rfl;have ha:x * 128%18446744073709551616<18446744073709551616:=anH _ aN;have hb:x / 144115188075855872<18446744073709551616:=anq (an6 _ _) hx;generalize x * 128%18446744073709551616=a at *
 generalize x / 144115188075855872=b at *
 have e3:=yI a b ha hb;have hS:=h.drew;have e0:bits .and .i64 (7:Int) 63=7:=by decide
 have zU:wrap64 (64 - 7:Int)=57:=by rw [adM _ aN];rfl
 clear ha hb h;go_enter Tryz.func245,Tryz.ntmps245;go_wp2_with fail
 go_region
 go_wp2;go_ret;exact ⟨_,rfl,by rw [hf.out];rfl,hS⟩
theorem abw (x:Nat) (hx:x<18446744073709551616) (h:Sat w0 w F):Calls Tryz.prog 245 #[.int .u64 x,.int .i64 11] w (aP fun v w'=>v = .int .u64 (Xx.turn x 11:Nat)∧Sat w0 w' F):=by
 have hf:=uQ (show Xx.turn x 11=(x * 2048%18446744073709551616) ||| (x / 9007199254740992) from rfl);have e1:IntKind.u64.wrap ((x:Int) * 2048)=((x * 2048%18446744073709551616:Nat):Int):=by rw [ahL];omega
 have e2:(x:Int) / 9007199254740992=((x / 9007199254740992:Nat):Int):=rfl;have ha:x * 2048%18446744073709551616<18446744073709551616:=anH _ aN;have hb:x / 9007199254740992<18446744073709551616:=anq (an6 _ _) hx;generalize x * 2048%18446744073709551616=a at *
 generalize x / 9007199254740992=b at *
 have e3:=yI a b ha hb;have hS:=h.drew;have e0:bits .and .i64 (11:Int) 63=11:=by decide
 have zU:wrap64 (64 - 11:Int)=53:=by rw [adM _ aN];rfl
 clear ha hb h;go_enter Tryz.func245,Tryz.ntmps245;go_wp2_with fail
 go_region
 go_wp2;go_ret;exact ⟨_,rfl,by rw [hf.out];rfl,hS⟩
theorem amn (x:Nat) (hx:x<18446744073709551616) (h:Sat w0 w F):Calls Tryz.prog 245 #[.int .u64 x,.int .i64 12] w (aP fun v w'=>v = .int .u64 (Xx.turn x 12:Nat)∧Sat w0 w' F):=by
 have hf:=uQ (show Xx.turn x 12=(x * 4096%18446744073709551616) ||| (x / 4503599627370496) from rfl);have e1:IntKind.u64.wrap ((x:Int) * 4096)=((x * 4096%18446744073709551616:Nat):Int):=by rw [ahL];omega
 have e2:(x:Int) / 4503599627370496=((x / 4503599627370496:Nat):Int):=rfl;have ha:x * 4096%18446744073709551616<18446744073709551616:=anH _ aN;have hb:x / 4503599627370496<18446744073709551616:=anq (an6 _ _) hx;generalize x * 4096%18446744073709551616=a at *
 generalize x / 4503599627370496=b at *
 have e3:=yI a b ha hb;have hS:=h.drew;have e0:bits .and .i64 (12:Int) 63=12:=by decide
 have zU:wrap64 (64 - 12:Int)=52:=by rw [adM _ aN];rfl
 clear ha hb h;go_enter Tryz.func245,Tryz.ntmps245;go_wp2_with fail
 go_region
 go_wp2;go_ret;exact ⟨_,rfl,by rw [hf.out];rfl,hS⟩
theorem amo (x:Nat) (hx:x<18446744073709551616) (h:Sat w0 w F):Calls Tryz.prog 245 #[.int .u64 x,.int .i64 18] w (aP fun v w'=>v = .int .u64 (Xx.turn x 18:Nat)∧Sat w0 w' F):=by
 have hf:=uQ (show Xx.turn x 18=(x * 262144%18446744073709551616) ||| (x / 70368744177664) from rfl);have e1:IntKind.u64.wrap ((x:Int) * 262144)=((x * 262144%18446744073709551616:Nat):Int):=by rw [ahL];omega
 have e2:(x:Int) / 70368744177664=((x / 70368744177664:Nat):Int):=rfl;have ha:x * 262144%18446744073709551616<18446744073709551616:=anH _ aN;have hb:x / 70368744177664<18446744073709551616:=anq (an6 _ _) hx;generalize x * 262144%18446744073709551616=a at *
 generalize x / 70368744177664=b at *
 have e3:=yI a b ha hb;have hS:=h.drew;have e0:bits .and .i64 (18:Int) 63=18:=by decide
 have zU:wrap64 (64 - 18:Int)=46:=by rw [adM _ aN];rfl
 clear ha hb h;go_enter Tryz.func245,Tryz.ntmps245;go_wp2_with fail
 go_region
 go_wp2;go_ret;exact ⟨_,rfl,by rw [hf.out];rfl,hS⟩
theorem amr (x:Nat) (hx:x<18446744073709551616) (h:Sat w0 w F):Calls Tryz.prog 245 #[.int .u64 x,.int .i64 23] w (aP fun v w'=>v = .int .u64 (Xx.turn x 23:Nat)∧Sat w0 w' F):=by
 have hf:=uQ (show Xx.turn x 23=(x * 8388608%18446744073709551616) ||| (x / 2199023255552) from rfl);have e1:IntKind.u64.wrap ((x:Int) * 8388608)=((x * 8388608%18446744073709551616:Nat):Int):=by rw [ahL];omega
 have e2:(x:Int) / 2199023255552=((x / 2199023255552:Nat):Int):=rfl;have ha:x * 8388608%18446744073709551616<18446744073709551616:=anH _ aN;have hb:x / 2199023255552<18446744073709551616:=anq (an6 _ _) hx;generalize x * 8388608%18446744073709551616=a at *
 generalize x / 2199023255552=b at *
 have e3:=yI a b ha hb;have hS:=h.drew;have e0:bits .and .i64 (23:Int) 63=23:=by decide
 have zU:wrap64 (64 - 23:Int)=41:=by rw [adM _ aN];rfl
 clear ha hb h;go_enter Tryz.func245,Tryz.ntmps245;go_wp2_with fail
 go_region
 go_wp2;go_ret;exact ⟨_,rfl,by rw [hf.out];rfl,hS⟩
theorem ams (x:Nat) (hx:x<18446744073709551616) (h:Sat w0 w F):Calls Tryz.prog 245 #[.int .u64 x,.int .i64 27] w (aP fun v w'=>v = .int .u64 (Xx.turn x 27:Nat)∧Sat w0 w' F):=by
 have hf:=uQ (show Xx.turn x 27=(x * 134217728%18446744073709551616) ||| (x / 137438953472) from rfl);have e1:IntKind.u64.wrap ((x:Int) * 134217728)=((x * 134217728%18446744073709551616:Nat):Int):=by rw [ahL];omega
 have e2:(x:Int) / 137438953472=((x / 137438953472:Nat):Int):=rfl;have ha:x * 134217728%18446744073709551616<18446744073709551616:=anH _ aN;have hb:x / 137438953472<18446744073709551616:=anq (an6 _ _) hx;generalize x * 134217728%18446744073709551616=a at *
 generalize x / 137438953472=b at *
 have e3:=yI a b ha hb;have hS:=h.drew;have e0:bits .and .i64 (27:Int) 63=27:=by decide
 have zU:wrap64 (64 - 27:Int)=37:=by rw [adM _ aN];rfl
 clear ha hb h;go_enter Tryz.func245,Tryz.ntmps245;go_wp2_with fail
 go_region
 go_wp2;go_ret;exact ⟨_,rfl,by rw [hf.out];rfl,hS⟩
theorem amu (x:Nat) (hx:x<18446744073709551616) (h:Sat w0 w F):Calls Tryz.prog 245 #[.int .u64 x,.int .i64 31] w (aP fun v w'=>v = .int .u64 (Xx.turn x 31:Nat)∧Sat w0 w' F):=by
 have hf:=uQ (show Xx.turn x 31=(x * 2147483648%18446744073709551616) ||| (x / 8589934592) from rfl);have e1:IntKind.u64.wrap ((x:Int) * 2147483648)=((x * 2147483648%18446744073709551616:Nat):Int):=by rw [ahL];omega
 have e2:(x:Int) / 8589934592=((x / 8589934592:Nat):Int):=rfl;have ha:x * 2147483648%18446744073709551616<18446744073709551616:=anH _ aN;have hb:x / 8589934592<18446744073709551616:=anq (an6 _ _) hx;generalize x * 2147483648%18446744073709551616=a at *
 generalize x / 8589934592=b at *
 have e3:=yI a b ha hb;have hS:=h.drew;have e0:bits .and .i64 (31:Int) 63=31:=by decide
 have zU:wrap64 (64 - 31:Int)=33:=by rw [adM _ aN];rfl
 clear ha hb h;go_enter Tryz.func245,Tryz.ntmps245;go_wp2_with fail
 go_region
 go_wp2;go_ret;exact ⟨_,rfl,by rw [hf.out];rfl,hS⟩
theorem vX (a x:Nat) (h:Sat w0 w F):Calls Tryz.prog 228 #[.int .u64 a,.int .u64 x] w (aP fun v w'=>v = .int .u64 (Xx.lane a x:Nat)∧Sat w0 w' F):=by
 obtain ⟨y,z,u,e1,e2,hz,e3,e4⟩:=ahT a x;rw [e4];have ht:=amu z hz h;clear hz e4 h;generalize Xx.turn z 31=t at *
 go_enter Tryz.func228,Tryz.ntmps228;go_wp2_with fail;refine ht.mono ?_;rintro ee w1 ⟨v,rfl,rfl,hS⟩;clear ht;go_wp2;go_ret;exact ⟨_,rfl,rfl,hS⟩
end
structure RS (w0:World) (F:List aH) (v:Value) (l:Bs):Prop where
 rd:Ro w0 F (bG 1 v (aA l))
 cap:lQ v
section
variable {w0 w:World}{F:List aH}{v:Value}{l:Bs}{a:Option Addr}{n c k:Nat}
theorem abj (w:World):(sizeOf 5).run Tryz.prog w = .ok 1 w:=by kernel_rfl
theorem NT:Tryz.prog.elem 39=5:=by kernel_rfl
theorem KT:Tryz.prog.underlying 39=some (.slice (Tryz.prog.elem 39)):=by rw [NT];exact Tryz.underlying39
theorem akV (hk:k≤n) (w:World):(Instr.sliceAt 39 (.slice a n c) (some (.int .i64 k)) none none).run Tryz.prog w = .ok (sliced a k n c 1) w:=by
 rw [run_sliceAt_slice _ _ _ _ _ _ KT,run_slice_l _ _ _ _ _ KT .i64 (k:Int) oQ oQ,NT,abj];simp [Result.andThen]
theorem aaW (hk:k≤c) (w:World):(Instr.sliceAt 39 (.slice a n c) none (some (.int .i64 k)) none).run Tryz.prog w = .ok (sliced a 0 k c 1) w:=by
 rw [run_sliceAt_slice _ _ _ _ _ _ KT,run_slice_h _ _ _ _ _ KT .i64 (k:Int) oQ oQ,NT,abj];simp [Result.andThen]
theorem RS.len (h:RS w0 F v l) (hS:Sat w0 w F):∃ a c,v = .slice a l.length c∧l.length≤c∧c≤9223372036854775807:=by
 obtain ⟨a,n,c,rfl,h1,h2⟩:=h.cap;obtain ⟨_,_,_,he,hl,_⟩:=h.rd w hS;cases he;rw [aX,adb]at hl;subst hl;exact ⟨a,c,rfl,h1,h2⟩
theorem Ci {l:Bs}{j:Nat}{y:Value}:(aA l)[j]?=some y↔∃ u,l[j]?=some u∧y = .int .u8 u.toNat:=by
 unfold aA;rw [acE,ag4];constructor
 ·rintro ⟨u,h1,h2⟩;exact ⟨u,h1,h2.symm⟩
 ·rintro ⟨u,h1,h2⟩;exact ⟨u,h1,h2.symm⟩
theorem RS.from (h:RS w0 F (.slice a l.length c) l) (hk:k≤l.length):RS w0 F (sliced a k l.length c 1) (l.drop k):=by
 obtain ⟨a',n',c',he,h1,h2⟩:=h.cap;cases he;refine ⟨fun w hw=>?_,⟨_,_,_,rfl,by omega,by omega⟩⟩;refine ⟨_,_,_,rfl,by rw [aX,acL,adb],fun j y hj=>?_⟩;obtain ⟨u,hu,rfl⟩:=Ci.1 hj;rw [anQ]at hu;have hlt:=(abW.1 hu).1;obtain ⟨bk,off,rfl,hc⟩:=qU (h.rd w hw) (Ci.2 ⟨u,hu,rfl⟩);rw [abA oQ];refine ⟨_,rfl,?_⟩;have:=hc (k+j) _ (Ci.2 ⟨u,hu,rfl⟩);show w.cell? (((⟨bk,off,none⟩:Addr).add (k * 1)).add j)=_;rw [Addr.add_mid,Addr.add_mid,adb,an9];exact this
theorem RS.to (h:RS w0 F (.slice a l.length c) l) (hk:k≤l.length) (m:Nat) (hm:k≤m) (hmc:m≤c):RS w0 F (sliced a 0 k m 1) (l.take k):=by
 obtain ⟨a',n',c',he,h1,h2⟩:=h.cap;cases he;refine ⟨fun w hw=>?_,⟨_,_,_,rfl,by omega,by omega⟩⟩;refine ⟨_,_,_,rfl,by rw [aX,acA,adb];omega,fun j y hj=>?_⟩;obtain ⟨u,hu,rfl⟩:=Ci.1 hj;rw [adC]at hu;split at hu
 ·rename_i hjk;obtain ⟨bk,off,rfl,hc⟩:=qU (h.rd w hw) (Ci.2 ⟨u,hu,rfl⟩);rw [abA oQ];refine ⟨_,rfl,?_⟩;have:=hc j _ (Ci.2 ⟨u,hu,rfl⟩);show w.cell? (((⟨bk,off,none⟩:Addr).add (0 * 1)).add j)=_;rw [Addr.add_mid,Addr.add_mid,Nat.zero_mul,aif];exact this
 ·cases hu
theorem RS.aiT (h:Sat w0 w (bK v l::F)):RS w0 (bK v l::F) v l:=by
 obtain ⟨a,n,c,e,h1,h2,h3⟩:=EM h;exact ⟨Ro.bK _ _,⟨a,n,c,e,h1,h2⟩⟩
theorem RS.more (h:RS w0 F v l){G:List aH} (k:Sub G F):RS w0 G v l:=⟨Ro.of_sub h.rd k,h.cap⟩
end
section
variable {P:Program}{w:World}{ops:Array Oper}{rest:List Oper}{a:Act}{Q:Exit→Act→World→Prop}{dst:Option Tmp}{t ty:TypeId}{pos:String}{after:Array Edge}{x y z:Operand}{v vx vy vz:Value}
theorem SV (hx:a.eval x=vx) (hy:a.eval y=vy) (hr:∀ w,(Instr.sliceAt ty vx (some vy) none none).run P w = .ok v w) (h:wpList P ops Q rest (a.put dst v) w):wpList P ops Q (⟨dst,.slice ty x (some y) none none,t,pos,after,none⟩::rest) a w:=
 aeB rfl fun _ hK=>by
  unfold Oper.wp execOp;simp only [hx,hy,ahf,an5,acN,hr,acB,ac1];exact hK _ _ h
theorem ab7 (hx:a.eval x=vx) (hy:a.eval y=vy) (hr:∀ w,(Instr.sliceAt ty vx none (some vy) none).run P w = .ok v w) (h:wpList P ops Q rest (a.put dst v) w):wpList P ops Q (⟨dst,.slice ty x none (some y) none,t,pos,after,none⟩::rest) a w:=
 aeB rfl fun _ hK=>by
  unfold Oper.wp execOp;simp only [hx,hy,ahf,an5,acN,hr,acB,ac1];exact hK _ _ h
theorem Nl (h:Stop (wpList P ops Q (⟨dst,.slice ty x (some y) none none,t,pos,after,none⟩::rest) a w)):wpList P ops Q (⟨dst,.slice ty x (some y) none none,t,pos,after,none⟩::rest) a w:=h.out
theorem Vb (h:Stop (wpList P ops Q (⟨dst,.slice ty x none (some y) none,t,pos,after,none⟩::rest) a w)):wpList P ops Q (⟨dst,.slice ty x none (some y) none,t,pos,after,none⟩::rest) a w:=h.out
end
section
variable {w0 w:World}{F:List aH}{v bv:Value}
theorem yJ (l:Bs) (c:UInt8) (k:Nat) (hl:l.length=k) (hk:k<8):bits .or .u64 ((ah.num l:Nat):Int) ((c.toNat:Int) * ((256^k:Nat):Int))=((ah.num (l++[c]):Nat):Int):=by
 subst hl;have h1:=ah.yE l;have h2:=c.toNat_lt;have h3:256^l.length≤256^7:=anR aN oQ;have h4:c.toNat * 256^l.length≤255 * 256^7:=anv oQ h3;have h5:(256:Nat)^7=72057594037927936:=by decide
 have e:(c.toNat:Int) * ((256^l.length:Nat):Int)=((c.toNat * 256^l.length:Nat):Int):=by rw [Int.natCast_mul]
 rw [e,u64_or_nat _ _ oQ oQ,ah.P8]
 congr 1
 have hp:(256:Nat)^l.length=2^(8 * l.length):=by rw [Nat.pow_mul]
 rw [hp]at h1 ⊢;have:=Nat.two_pow_add_eq_or_of_lt h1 c.toNat;rw [Nat.or_comm,ahC c.toNat,← this,aoh]
theorem agr (c0 c1 c2 c3 c4 c5 c6 c7:UInt8) (a:Option Addr) (c:Nat) (h:bG 1 (.slice a 8 c) (aA [c0,c1,c2,c3,c4,c5,c6,c7]) w) :
  Calls Tryz.prog 144 #[.slice a 8 c] w (aP fun v w'=>v = .tuple #[.int .u64 (ah.num [c0,c1,c2,c3,c4,c5,c6,c7]:Nat),.bool true]∧w=w'):=by
 obtain ⟨bk,off,rfl,hc⟩:=qU h (i:=0) rfl;have e0:w.cell? ⟨bk,off,none⟩=some (.int .u8 c0.toNat):=hc 0 _ rfl;have t0:=c0.toNat_lt;have e1:w.cell? ⟨bk,off+1,none⟩=some (.int .u8 c1.toNat):=hc 1 _ rfl;have t1:=c1.toNat_lt;have e2:w.cell? ⟨bk,off+2,none⟩=some (.int .u8 c2.toNat):=hc 2 _ rfl;have t2:=c2.toNat_lt;have e3:w.cell? ⟨bk,off+3,none⟩=some (.int .u8 c3.toNat):=hc 3 _ rfl;have t3:=c3.toNat_lt;have e4:w.cell? ⟨bk,off+4,none⟩=some (.int .u8 c4.toNat):=hc 4 _ rfl;have t4:=c4.toNat_lt;have e5:w.cell? ⟨bk,off+5,none⟩=some (.int .u8 c5.toNat):=hc 5 _ rfl;have t5:=c5.toNat_lt;have e6:w.cell? ⟨bk,off+6,none⟩=some (.int .u8 c6.toNat):=hc 6 _ rfl;have t6:=c6.toNat_lt;have e7:w.cell? ⟨bk,off+7,none⟩=some (.int .u8 c7.toNat):=hc 7 _ rfl;have t7:=c7.toNat_lt;clear hc h;go_enter Tryz.func144,Tryz.ntmps144;go_wp2_with fail
 go_loopg [17,4] 8 (fun g iq xq wr=>∃ i:Nat,g=8 - i∧i≤8∧iq = .int .i64 i∧xq = .int .u64 (ah.num ([c0,c1,c2,c3,c4,c5,c6,c7].take i):Nat)∧wr=w)
 case atStart=>exact ⟨0,rfl,by omega,rfl,rfl,rfl⟩
 case round=>
  obtain ⟨i,rfl,hi,rfl,rfl,rfl⟩:=hrel;by_cases h4:i<8
  ·have h0:i=0∨i=1∨i=2∨i=3∨i=4∨i=5∨i=6∨i=7:=by omega
   clear hi h4;rcases h0 with rfl|rfl|rfl|rfl|rfl|rfl|rfl|rfl
   ·have hq:bits .or .u64 ((ah.num []:Nat):Int) (c0.toNat:Int)=((ah.num [c0]:Nat):Int):=by
     have:=yJ [] c0 0 rfl aN;simpa using this
    go_wp2_with fail
    go_roundg (8 - 1)
    case measure=>decide
    case rel=>exact ⟨1,rfl,by decide,by first|rfl|go_num,rfl,rfl⟩
   ·have hq:bits .or .u64 ((ah.num [c0]:Nat):Int) ((c1.toNat:Int) * 256)=((ah.num [c0,c1]:Nat):Int):=yJ [c0] c1 1 rfl aN;go_wp2_with fail
    go_roundg (8 - 2)
    case measure=>decide
    case rel=>exact ⟨2,rfl,by decide,by first|rfl|go_num,rfl,rfl⟩
   ·have hq:bits .or .u64 ((ah.num [c0,c1]:Nat):Int) ((c2.toNat:Int) * 65536)=((ah.num [c0,c1,c2]:Nat):Int):=yJ [c0,c1] c2 2 rfl aN;go_wp2_with fail
    go_roundg (8 - 3)
    case measure=>decide
    case rel=>exact ⟨3,rfl,by decide,by first|rfl|go_num,rfl,rfl⟩
   ·have hq:bits .or .u64 ((ah.num [c0,c1,c2]:Nat):Int) ((c3.toNat:Int) * 16777216)=((ah.num [c0,c1,c2,c3]:Nat):Int):=yJ [c0,c1,c2] c3 3 rfl aN;go_wp2_with fail
    go_roundg (8 - 4)
    case measure=>decide
    case rel=>exact ⟨4,rfl,by decide,by first|rfl|go_num,rfl,rfl⟩
   ·have hq:bits .or .u64 ((ah.num [c0,c1,c2,c3]:Nat):Int) ((c4.toNat:Int) * 4294967296)=((ah.num [c0,c1,c2,c3,c4]:Nat):Int):=yJ [c0,c1,c2,c3] c4 4 rfl aN;go_wp2_with fail
    go_roundg (8 - 5)
    case measure=>decide
    case rel=>exact ⟨5,rfl,by decide,by first|rfl|go_num,rfl,rfl⟩
   ·have hq:bits .or .u64 ((ah.num [c0,c1,c2,c3,c4]:Nat):Int) ((c5.toNat:Int) * 1099511627776)=((ah.num [c0,c1,c2,c3,c4,c5]:Nat):Int):=yJ [c0,c1,c2,c3,c4] c5 5 rfl aN;go_wp2_with fail
    go_roundg (8 - 6)
    case measure=>decide
    case rel=>exact ⟨6,rfl,by decide,by first|rfl|go_num,rfl,rfl⟩
   ·have hq:bits .or .u64 ((ah.num [c0,c1,c2,c3,c4,c5]:Nat):Int) ((c6.toNat:Int) * 281474976710656)=((ah.num [c0,c1,c2,c3,c4,c5,c6]:Nat):Int):=yJ [c0,c1,c2,c3,c4,c5] c6 6 rfl aN;go_wp2_with fail
    go_roundg (8 - 7)
    case measure=>decide
    case rel=>exact ⟨7,rfl,by decide,by first|rfl|go_num,rfl,rfl⟩
   ·have hq:bits .or .u64 ((ah.num [c0,c1,c2,c3,c4,c5,c6]:Nat):Int) ((c7.toNat:Int) * 72057594037927936)=((ah.num [c0,c1,c2,c3,c4,c5,c6,c7]:Nat):Int):=yJ [c0,c1,c2,c3,c4,c5,c6] c7 7 rfl aN;go_wp2_with fail
    go_roundg (8 - 8)
    case measure=>decide
    case rel=>exact ⟨8,rfl,by decide,by first|rfl|go_num,rfl,rfl⟩
  ·obtain rfl:i=8:=by omega
   go_wp2
   go_ret2
   exact ⟨_,rfl,rfl,rfl⟩
theorem eight {l:Bs} (h:l.length=8):∃ c0 c1 c2 c3 c4 c5 c6 c7,l=[c0,c1,c2,c3,c4,c5,c6,c7]:=by
 match l,h with
 |[c0,c1,c2,c3,c4,c5,c6,c7],_=>exact ⟨c0,c1,c2,c3,c4,c5,c6,c7,rfl⟩
theorem ags (l:Bs) (hl:l.length=8) (a:Option Addr) (c:Nat) (h:bG 1 (.slice a 8 c) (aA l) w) :
  Calls Tryz.prog 144 #[.slice a 8 c] w (aP fun v w'=>v = .tuple #[.int .u64 (ah.num l:Nat),.bool true]∧w=w'):=by
 obtain ⟨c0,c1,c2,c3,c4,c5,c6,c7,rfl⟩:=eight hl;exact agr c0 c1 c2 c3 c4 c5 c6 c7 a c h
theorem GU (l:Bs) (hl:8≤l.length) (hr:RS w0 F bv l) (h:Sat w0 w F) :
  Calls Tryz.prog 229 #[bv] w (aP fun v w'=>v = .int .u64 (ah.num (l.take 8):Nat)∧w=w'):=by
 obtain ⟨a,c,rfl,h1,h2⟩:=hr.len h;have ht:=(hr.to hl c oQ (abL c)).rd w h;have hs:sliced a 0 8 c 1 = .slice (if c=0 then a else a.map (·.add (0 * 1))) 8 c:=rfl;rw [hs]at ht;have hg:=ags (l.take 8) (by rw [acA];omega) _ c ht;have hrun:∀ w,(Instr.sliceAt 39 (.slice a l.length c) none (some (.int .i64 8)) none).run Tryz.prog w = .ok (.slice (if c=0 then a else a.map (·.add (0 * 1))) 8 c) w:=fun w=>aaW (k:=8) oQ w;generalize (if c=0 then a else a.map (·.add (0 * 1)))=a2 at *
 generalize ah.num (l.take 8)=N at *
 clear ht hs;go_enter Tryz.func229,Tryz.ntmps229;go_wp2_with ((with_reducible refine Vb ⟨?_⟩);refine ab7 aj aj hrun ?_);refine hg.mono ?_;rintro e w1 ⟨v,rfl,rfl,rfl⟩;go_wp2;go_ret;exact ⟨_,rfl,rfl,rfl⟩
theorem ajq (x:Nat) (hx:x<18446744073709551616) (h:Sat w0 w F) :
  Calls Tryz.prog 169 #[.int .u64 x,.int .i64 8] w (aP fun v w'=>Sat w0 w' (bK v (ah.le x 8)::F)∧∃ a,v = .slice a 8 8):=by
 have Hx:=uQ hx;clear hx;have hmk:∀ w,(Instr.makeSlice 39 (.int .i64 8) (.int .i64 8)).run Tryz.prog w = .ok (.slice (some ⟨w.heap.size,0,none⟩) 8 8) (w.alloc (.cells #[.int .u8 0,.int .u8 0,.int .u8 0,.int .u8 0,.int .u8 0,.int .u8 0,.int .u8 0,.int .u8 0] 5)):=fun w=>by kernel_rfl
 go_enter Tryz.func169,Tryz.ntmps169;go_wp2_with fail;have hA:=h.alloc (.cells #[.int .u8 0,.int .u8 0,.int .u8 0,.int .u8 0,.int .u8 0,.int .u8 0,.int .u8 0,.int .u8 0] 5);have hB:Sat w0 (w.alloc (.cells #[.int .u8 0,.int .u8 0,.int .u8 0,.int .u8 0,.int .u8 0,.int .u8 0,.int .u8 0,.int .u8 0] 5)) (bK (.slice (some ⟨w.heap.size,0,none⟩) 8 8) [0,0,0,0,0,0,0,0]::F):=Sat.kR hA rfl (abL _) (abL _) (by unfold maxLen;omega) rfl;obtain ⟨b0,b1,b2,b3,b4,b5,b6,b7,hb0,hb1,hb2,hb3,hb4,hb5,hb6,hb7,hle⟩:∃ b0 b1 b2 b3 b4 b5 b6 b7:UInt8,(x:Int)%256=b0.toNat∧(x:Int) / 256%256=b1.toNat∧(x:Int) / 65536%256=b2.toNat∧(x:Int) / 16777216%256=b3.toNat∧(x:Int) / 4294967296%256=b4.toNat∧(x:Int) / 1099511627776%256=b5.toNat∧(x:Int) / 281474976710656%256=b6.toNat∧(x:Int) / 72057594037927936%256=b7.toNat∧ah.le x 8=[b0,b1,b2,b3,b4,b5,b6,b7]:=by
  refine ⟨_,_,_,_,_,_,_,_,?_,?_,?_,?_,?_,?_,?_,?_,rfl⟩
  all_goals (rw [anL];omega)
 have qL:=uQ hle;clear hle hmk hA;generalize w.heap.size=q at *
 go_loopg [17] 8 (fun g iq wr=>∃ (i:Nat) (l':Bs),g=8 - i∧i≤8∧iq = .int .i64 i∧l'=(match i with|0=>[0,0,0,0,0,0,0,0]|1=>[b0,0,0,0,0,0,0,0]|2=>[b0,b1,0,0,0,0,0,0]|3=>[b0,b1,b2,0,0,0,0,0]|4=>[b0,b1,b2,b3,0,0,0,0]|5=>[b0,b1,b2,b3,b4,0,0,0]|6=>[b0,b1,b2,b3,b4,b5,0,0]|7=>[b0,b1,b2,b3,b4,b5,b6,0]|_=>[b0,b1,b2,b3,b4,b5,b6,b7])∧Sat w0 wr (bK (.slice (some ⟨q,0,none⟩) 8 8) l'::F))
 case atStart=>exact ⟨0,_,rfl,by omega,rfl,rfl,hB⟩
 case round=>
  obtain ⟨i,l',rfl,hi,rfl,hl',hS⟩:=hrel;clear hB;obtain rfl|rfl|rfl|rfl|rfl|rfl|rfl|rfl|rfl:i=0∨i=1∨i=2∨i=3∨i=4∨i=5∨i=6∨i=7∨i=8:=by omega
  ·obtain rfl:l'=[0,0,0,0,0,0,0,0]:=hl';obtain ⟨g,he,e0,e1,hS5⟩:=ru (i:=0) hS (by simp) b0;cases he;go_wp2_with fail
   go_roundg 7
   case measure=>omega
   case rel=>exact ⟨1,[b0,0,0,0,0,0,0,0],rfl,by omega,rfl,rfl,hS5⟩
  ·obtain rfl:l'=[b0,0,0,0,0,0,0,0]:=hl';obtain ⟨g,he,e0,e1,hS5⟩:=ru (i:=1) hS (by simp) b1;cases he;go_wp2_with fail
   go_roundg 6
   case measure=>omega
   case rel=>exact ⟨2,[b0,b1,0,0,0,0,0,0],rfl,by omega,rfl,rfl,hS5⟩
  ·obtain rfl:l'=[b0,b1,0,0,0,0,0,0]:=hl';obtain ⟨g,he,e0,e1,hS5⟩:=ru (i:=2) hS (by simp) b2;cases he;go_wp2_with fail
   go_roundg 5
   case measure=>omega
   case rel=>exact ⟨3,[b0,b1,b2,0,0,0,0,0],rfl,by omega,rfl,rfl,hS5⟩
  ·obtain rfl:l'=[b0,b1,b2,0,0,0,0,0]:=hl';obtain ⟨g,he,e0,e1,hS5⟩:=ru (i:=3) hS (by simp) b3;cases he;go_wp2_with fail
   go_roundg 4
   case measure=>omega
   case rel=>exact ⟨4,[b0,b1,b2,b3,0,0,0,0],rfl,by omega,rfl,rfl,hS5⟩
  ·obtain rfl:l'=[b0,b1,b2,b3,0,0,0,0]:=hl';obtain ⟨g,he,e0,e1,hS5⟩:=ru (i:=4) hS (by simp) b4;cases he;go_wp2_with fail
   go_roundg 3
   case measure=>omega
   case rel=>exact ⟨5,[b0,b1,b2,b3,b4,0,0,0],rfl,by omega,rfl,rfl,hS5⟩
  ·obtain rfl:l'=[b0,b1,b2,b3,b4,0,0,0]:=hl';obtain ⟨g,he,e0,e1,hS5⟩:=ru (i:=5) hS (by simp) b5;cases he;go_wp2_with fail
   go_roundg 2
   case measure=>omega
   case rel=>exact ⟨6,[b0,b1,b2,b3,b4,b5,0,0],rfl,by omega,rfl,rfl,hS5⟩
  ·obtain rfl:l'=[b0,b1,b2,b3,b4,b5,0,0]:=hl';obtain ⟨g,he,e0,e1,hS5⟩:=ru (i:=6) hS (by simp) b6;cases he;go_wp2_with fail
   go_roundg 1
   case measure=>omega
   case rel=>exact ⟨7,[b0,b1,b2,b3,b4,b5,b6,0],rfl,by omega,rfl,rfl,hS5⟩
  ·obtain rfl:l'=[b0,b1,b2,b3,b4,b5,b6,0]:=hl';obtain ⟨g,he,e0,e1,hS5⟩:=ru (i:=7) hS (by simp) b7;cases he;go_wp2_with fail
   go_roundg 0
   case measure=>omega
   case rel=>exact ⟨8,[b0,b1,b2,b3,b4,b5,b6,b7],rfl,by omega,rfl,rfl,hS5⟩
  ·obtain rfl:l'=[b0,b1,b2,b3,b4,b5,b6,b7]:=hl';go_wp2;go_ret;exact ⟨_,rfl,by rw [qL.out];exact hS,_,rfl⟩
end
section
variable {P:Program}{w0 w:World}{L:List aH}{ops:Array Oper}{rest:List Oper}{a:Act}{Q:Exit→Act→World→Prop}{dst:Option Tmp}{t ty e:TypeId}{pos:String}{after:Array Edge}{x y:Operand}{g:Nat×Bool}{op:Op}{sz eY n:Nat}{v:Value}{zs:List Value}
theorem yS (hw:Region.wanted ⟨dst,op,t,pos,after,some g⟩ (yielded ops a.tmps)=true) (h:wpList P ops Q (⟨dst,op,t,pos,after,none⟩::rest) a w):wpList P ops Q (⟨dst,op,t,pos,after,some g⟩::rest) a w:=by
 unfold wpList at h ⊢;rw [acr hw];rw [acr (lI _ rfl)]at h;exact h
theorem abx {xs:Array (Nat×Operand)} (h:Stop (wpList P ops Q (⟨dst,.build ty xs,t,pos,after,some g⟩::rest) a w)):wpList P ops Q (⟨dst,.build ty xs,t,pos,after,some g⟩::rest) a w:=h.out
theorem GK (h:Stop (wpList P ops Q (⟨dst,.load ty x,t,pos,after,some g⟩::rest) a w)):wpList P ops Q (⟨dst,.load ty x,t,pos,after,some g⟩::rest) a w:=h.out
theorem yR {xs:Array (Nat×Operand)} (h:Stop (wpList P ops Q (⟨dst,.build ty xs,t,pos,after,none⟩::rest) a w)):wpList P ops Q (⟨dst,.build ty xs,t,pos,after,none⟩::rest) a w:=h.out
theorem yY {xs:Array (Nat×Operand)}{ps:Array (Nat×Value)} (h1:xs.map (fun p=>(p.1,a.eval p.2))=ps) (hr:∀ w,(Instr.build ty ps).run P w = .ok v w) (h:wpList P ops Q rest (a.put dst v) w) :
  wpList P ops Q (⟨dst,.build ty xs,t,pos,after,none⟩::rest) a w:=
 aeB rfl fun _ hK=>by
  unfold Oper.wp execOp;simp only [h1,acN,hr,acB,ac1];exact hK _ _ h
end
abbrev jy (p:Nat) (l:Xx.Ln) (rv:Value) (n:Nat):aH:=pt p (.cells #[.bool true,.int .u64 0,.int .u64 l.a,.int .u64 l.b,.int .u64 l.c,.int .u64 l.d,rv,.int .u64 n] 322 (0,0))
section
variable {w0 w:World}{F:List aH}{v bv rv:Value}{p n:Nat}{l:Xx.Ln}
theorem am9:jr Tryz.prog 320=some (.agg #[.int .u64 0,.int .u64 0,.int .u64 0,.int .u64 0]):=by kernel_rfl
theorem aiC (h:Sat w0 w F):Calls Tryz.prog 208 #[.int .u64 0] w (aP fun v w'=>∃ p,v=ptr p∧Sat w0 w' (jy p Xx.Ln.zero (.slice none 0 0) 0::F)):=by
 have hb1:∀ w,(Instr.build 322 #[(0,.bool true),(1,.int .u64 0)]).run Tryz.prog w = .ok (.agg #[.bool true,.int .u64 0,.int .u64 0,.int .u64 0,.int .u64 0,.int .u64 0,.slice none 0 0,.int .u64 0]) w:=fun w=>by kernel_rfl
 have hb2:∀ w,(Instr.build 320 #[(0,.int .u64 6983438078262162902),(1,.int .u64 14029467366897019727),(2,.int .u64 0),(3,.int .u64 7046029288634856825)]).run Tryz.prog w = .ok (.agg #[.int .u64 6983438078262162902,.int .u64 14029467366897019727,.int .u64 0,.int .u64 7046029288634856825]) w:=fun w=>by kernel_rfl
 go_enter Tryz.func208,Tryz.ntmps208
 go_wp2_with (first
  |((with_reducible refine fK ⟨?_⟩);refine fM h aj aj ?_;intro bB wB hB)
  |((with_reducible refine cO ⟨?_⟩);refine fG (v:= .agg #[.int .u64 6983438078262162902,.int .u64 14029467366897019727,.int .u64 0,.int .u64 7046029288634856825]) hB aj aj aj cZ aN au aj ?_;intro wS hS))
 go_ret;exact ⟨_,rfl,bB,rfl,hS⟩
theorem ahI (hl:l.lt) (h:Sat w0 w (jy p l rv n::F)):Calls Tryz.prog 230 #[ptr p] w (aP fun v w'=>v = .int .u64 (Xx.joined l:Nat)∧Sat w0 w' (jy p l rv n::F)):=by
 obtain ⟨la,lb,lc,ld⟩:=l;obtain ⟨l1,l2,l3,l4⟩:=hl;simp only at l1 l2 l3 l4;obtain ⟨s1,s2,x0,f1,f2,f3,q5,hJ⟩:=ahH ⟨la,lb,lc,ld⟩;simp only at f1 f2 f3 hJ;have HJ:=uQ hJ;have UC:=uQ (fun (w:World) (R:List aH) (hS:Sat w0 w R)=>amq la l1 hS);have um:=uQ (fun (w:World) (R:List aH) (hS:Sat w0 w R)=>amv lb l2 hS);have UD:=uQ (fun (w:World) (R:List aH) (hS:Sat w0 w R)=>amn lc l3 hS);have UE:=uQ (fun (w:World) (R:List aH) (hS:Sat w0 w R)=>amo ld l4 hS);generalize Xx.turn la 1=ta at *
 generalize Xx.turn lb 7=tb at *
 generalize Xx.turn lc 12=tc at *
 generalize Xx.turn ld 18=td at *
 have Hq:=uQ q5;have Hf:=uQ (And.intro f1 (And.intro f2 f3));clear l1 l2 l3 l4 q5 f1 f2 f3 hJ;go_enter Tryz.func230,Tryz.ntmps230
 go_wp2_with (first
  |((with_reducible refine bI ⟨?_⟩);refine DW (b:=p) (o:=2) [.int .u64 la,.int .u64 lb,.int .u64 lc,.int .u64 ld] h aj aV (fun j v hj=>by
    rcases j with _|_|_|_|j
    ·cases hj;rfl
    ·cases hj;rfl
    ·cases hj;rfl
    ·cases hj;rfl
    ·simp at hj) Tryz.underlying320 rfl au ?_)
  |((with_reducible refine gq ⟨?_⟩);refine fF am9 h rfl ?_;intro b3 w3 h3)
  |((with_reducible refine cO ⟨?_⟩);refine gJ #[.int .u64 la,.int .u64 lb,.int .u64 lc,.int .u64 ld] h3 aj aj aj cZ au aj ?_;intro w4 h4))
 have hS:=h4.drew;clear h h3 h4;refine dS [13,14,15] (fun w'=>w'.cell? ⟨b3,0,none⟩=some (.int .u64 la)∧w'.cell? ⟨b3,1,none⟩=some (.int .u64 lb)∧w'.cell? ⟨b3,2,none⟩=some (.int .u64 lc)∧w'.cell? ⟨b3,3,none⟩=some (.int .u64 ld)) au ?_;have HG:=uQ (fun (w:World) (R:List aH) (hS:Sat w0 w (pt b3 (.cells #[.int .u64 la,.int .u64 lb,.int .u64 lc,.int .u64 ld] 320 (0,0))::R))=>show w.cell? ⟨b3,0,none⟩=some (.int .u64 la)∧w.cell? ⟨b3,1,none⟩=some (.int .u64 lb)∧w.cell? ⟨b3,2,none⟩=some (.int .u64 lc)∧w.cell? ⟨b3,3,none⟩=some (.int .u64 ld) from ⟨hS.cellAt 0 _ rfl,hS.cellAt 1 _ rfl,hS.cellAt 2 _ rfl,hS.cellAt 3 _ rfl⟩);have hG:=HG.out _ _ hS;refine rP 0 ?_ (y:=jf);refine rt 1 (h:=?_);refine rP 3 ?_ (y:=jf);refine rt 4 (h:=?_);refine rP 7 ?_ (y:=jf);refine rt 8 (h:=?_);refine rP 11 ?_ (y:=jf);refine rt 12 (h:=?_);clear hG
 refine bY 2 ak au (fun K hK=>?_)
 (refine gZ au ak ak ?_)
 refine (UC.out _ _ hS).mono ?_;rintro ee w5 ⟨v,rfl,rfl,h5⟩;refine hK _ _ (.inr (.inl (HG.out _ _ h5))) ?_;clear hK hS;refine bY 5 ak au (fun K hK=>?_)
 (refine gZ au ak ak ?_)
 refine (um.out _ _ h5).mono ?_;rintro ee w6 ⟨v,rfl,rfl,h6⟩;refine hK _ _ (.inr (.inl (HG.out _ _ h6))) ?_;clear hK h5;refine rp 6 (hy:=(qG ak ak (by intro wq;have f1:=Hf.out.1;(go_simp);first|done|exact wQ))) (h:=?_);refine bY 9 ak au (fun K hK=>?_)
 (refine gZ au ak ak ?_)
 refine (UD.out _ _ h6).mono ?_;rintro ee w7 ⟨v,rfl,rfl,h7⟩;refine hK _ _ (.inr (.inl (HG.out _ _ h7))) ?_;clear hK h6;refine rp 10 (hy:=(qG ak ak (by intro wq;have f2:=Hf.out.2.1;(go_simp);first|done|exact wQ))) (h:=?_);refine bY 13 ak au (fun K hK=>?_)
 (refine gZ au ak ak ?_)
 refine (UE.out _ _ h7).mono ?_;rintro ee w8 ⟨v,rfl,rfl,h8⟩;refine hK _ _ (.inl rfl) ?_;clear hK h7;refine rp 14 (hy:=(qG ak ak (by intro wq;have f3:=Hf.out.2.2;(go_simp);first|done|exact wQ))) (h:=?_);refine rP 15 ?_ (y:=fZ);refine dI au ?_
 try simp only [jT]
 try go_frame
 clear UC um UD UE HG Hf
 as_aux_lemma=>
  go_wp2_with ((with_reducible refine bI ⟨?_⟩);refine iW h8 aj aV Tryz.underlying320 rfl au ?_)
  go_loopg [27,4] 4 (fun g iq xq wr=>∃ (i x:Nat),g=4 - i∧i≤4∧iq = .int .i64 i∧xq = .int .u64 (x:Nat)∧x<18446744073709551616∧((i=0→x=x0)∧(i=1→x=Xx.mix x0 la)∧(i=2→x=Xx.mix (Xx.mix x0 la) lb)∧(i=3→x=Xx.mix (Xx.mix (Xx.mix x0 la) lb) lc)∧(i=4→x=Xx.mix (Xx.mix (Xx.mix (Xx.mix x0 la) lb) lc) ld))∧Sat w0 wr (pt b3 (.cells #[.int .u64 la,.int .u64 lb,.int .u64 lc,.int .u64 ld] 320 (0,0))::jy p ⟨la,lb,lc,ld⟩ rv n::F))
  case atStart=>exact ⟨0,x0,rfl,by decide,rfl,rfl,Hq.out,⟨fun _=>rfl,fun h=>absurd h aN,fun h=>absurd h aN,fun h=>absurd h aN,fun h=>absurd h aN⟩,h8⟩
  case round=>
   obtain ⟨i,x,rfl,hi,rfl,rfl,hx,hxe,hS⟩:=hrel;clear h8;obtain rfl|rfl|rfl|rfl|rfl:i=0∨i=1∨i=2∨i=3∨i=4:=by omega
   ·as_aux_lemma=>
    have hlc:Calls Tryz.prog 228 #[.int .u64 0,.int .u64 la] wr (aP fun v w'=>v = .int .u64 (Xx.lane 0 la:Nat)∧Sat w0 w' _):=vX 0 la hS;have hix:∀ w,(Instr.index 320 (.agg #[.int .u64 la,.int .u64 lb,.int .u64 lc,.int .u64 ld]) (.int .i64 0)).run Tryz.prog w = .ok (.int .u64 la) w:=fun w=>by kernel_rfl
    obtain ⟨y,z,u,g1,g2,g3,hu,hm⟩:=JD hx la;generalize Xx.lane 0 la=t at *
    have Hu:=uQ hu;have zx:=uQ hm;have zG:=uQ (hxe.1 rfl);clear hx hm hu hxe hS;go_wp2_with fail;refine hlc.mono ?_;rintro ee w9 ⟨v,rfl,rfl,h9⟩;clear hlc;go_wp2
    go_roundg 3
    case measure=>omega
    case rel=>exact ⟨1,u,rfl,by decide,rfl,rfl,Hu.out,⟨fun h=>absurd h aN,fun _=>by rw [← zx.out,zG.out],fun h=>absurd h aN,fun h=>absurd h aN,fun h=>absurd h aN⟩,h9⟩
   ·as_aux_lemma=>
    have hlc:Calls Tryz.prog 228 #[.int .u64 0,.int .u64 lb] wr (aP fun v w'=>v = .int .u64 (Xx.lane 0 lb:Nat)∧Sat w0 w' _):=vX 0 lb hS;have hix:∀ w,(Instr.index 320 (.agg #[.int .u64 la,.int .u64 lb,.int .u64 lc,.int .u64 ld]) (.int .i64 1)).run Tryz.prog w = .ok (.int .u64 lb) w:=fun w=>by kernel_rfl
    obtain ⟨y,z,u,g1,g2,g3,hu,hm⟩:=JD hx lb;generalize Xx.lane 0 lb=t at *
    have Hu:=uQ hu;have zx:=uQ hm;have zG:=uQ (hxe.2.1 rfl);clear hx hm hu hxe hS;go_wp2_with fail;refine hlc.mono ?_;rintro ee w9 ⟨v,rfl,rfl,h9⟩;clear hlc;go_wp2
    go_roundg 2
    case measure=>omega
    case rel=>exact ⟨2,u,rfl,by decide,rfl,rfl,Hu.out,⟨fun h=>absurd h aN,fun h=>absurd h aN,fun _=>by rw [← zx.out,zG.out],fun h=>absurd h aN,fun h=>absurd h aN⟩,h9⟩
   ·as_aux_lemma=>
    have hlc:Calls Tryz.prog 228 #[.int .u64 0,.int .u64 lc] wr (aP fun v w'=>v = .int .u64 (Xx.lane 0 lc:Nat)∧Sat w0 w' _):=vX 0 lc hS;have hix:∀ w,(Instr.index 320 (.agg #[.int .u64 la,.int .u64 lb,.int .u64 lc,.int .u64 ld]) (.int .i64 2)).run Tryz.prog w = .ok (.int .u64 lc) w:=fun w=>by kernel_rfl
    obtain ⟨y,z,u,g1,g2,g3,hu,hm⟩:=JD hx lc;generalize Xx.lane 0 lc=t at *
    have Hu:=uQ hu;have zx:=uQ hm;have zG:=uQ (hxe.2.2.1 rfl);clear hx hm hu hxe hS;go_wp2_with fail;refine hlc.mono ?_;rintro ee w9 ⟨v,rfl,rfl,h9⟩;clear hlc;go_wp2
    go_roundg 1
    case measure=>omega
    case rel=>exact ⟨3,u,rfl,by decide,rfl,rfl,Hu.out,⟨fun h=>absurd h aN,fun h=>absurd h aN,fun h=>absurd h aN,fun _=>by rw [← zx.out,zG.out],fun h=>absurd h aN⟩,h9⟩
   ·as_aux_lemma=>
    have hlc:Calls Tryz.prog 228 #[.int .u64 0,.int .u64 ld] wr (aP fun v w'=>v = .int .u64 (Xx.lane 0 ld:Nat)∧Sat w0 w' _):=vX 0 ld hS;have hix:∀ w,(Instr.index 320 (.agg #[.int .u64 la,.int .u64 lb,.int .u64 lc,.int .u64 ld]) (.int .i64 3)).run Tryz.prog w = .ok (.int .u64 ld) w:=fun w=>by kernel_rfl
    obtain ⟨y,z,u,g1,g2,g3,hu,hm⟩:=JD hx ld;generalize Xx.lane 0 ld=t at *
    have Hu:=uQ hu;have zx:=uQ hm;have zG:=uQ (hxe.2.2.2.1 rfl);clear hx hm hu hxe hS;go_wp2_with fail;refine hlc.mono ?_;rintro ee w9 ⟨v,rfl,rfl,h9⟩;clear hlc;go_wp2
    go_roundg 0
    case measure=>omega
    case rel=>exact ⟨4,u,rfl,by decide,rfl,rfl,Hu.out,⟨fun h=>absurd h aN,fun h=>absurd h aN,fun h=>absurd h aN,fun h=>absurd h aN,fun _=>by rw [← zx.out,zG.out]⟩,h9⟩
   ·have Hx:=uQ (show x=Xx.joined ⟨la,lb,lc,ld⟩ by rw [HJ.out];exact hxe.2.2.2.2 rfl);clear hxe hx;go_wp2;go_ret;exact ⟨_,rfl,by rw [Hx.out];rfl,hS.drop⟩
end
end Go.Proofs.YtihngncbioofnaaGreatDoor
