import Derived.Test.YtadhomdmbcldkaaGreatDoorJ2
import Derived.Deep.MidRow
import Derived.Laws.ResultCell
import Derived.Laws.IdiomStrings
import Derived.Lib.BufferRead
set_option linter.unusedSimpArgs false
open Go.Proofs.Tryz
set_option maxRecDepth 20000
set_option linter.unusedVariables false
set_option maxHeartbeats 128000000
open Go Go.Sl Go.MapKept Go.RowKit
open Go.Proofs.YtadhomdmbcldkaaGreatDoor Go.Proofs.Y
variable {w w0:World}{v dv x bv lv vx vy:Value}{R F L L':List aF}{P:Program}{ops:Array Oper}{a:Act}{Q:Exit->Act->World->Prop}{b n q sz p m K fl dF c dn dc:Nat}{dst:Option Tmp}{after:Array Edge}{y s:Operand}{rest:List Oper}{T ty tz e:TypeId}{cs:Array Value}{xs ys:List Value}{G:World->Prop}{late:List Nat}{oi:Oper}{l:Array Bool}{M:ak.ak}{ad:Addr}{bo:BinOp}{da:Option Addr}
theorem yC0{p:Prop} (h:p:=by intro wq hq;first|exact hq|exact hq.1|exact hq.2|exact hq.2.1|exact hq.2.2|exact hq.2.2.1|exact hq.2.2.2|exact hq.2.2.2.1|exact hq.2.2.2.2):p:=h
theorem yD0{p:Prop} (h:p:=by first|assumption|exact dJ _ _ rfl|exact dJ _ _ aQ|exact dJ _ _ (anS aQ)):p:=h
theorem yG0{p:Prop} (h:p:=by first|rfl|assumption|exact anS aQ):p:=h
theorem yM0{p:Prop} (h:p:=by rw [adX];omega):p:=h
theorem yP0{p:Prop} (h:p:=by have:=Hn.o;omega):p:=h
theorem yX0{p:Prop} (h:p:=by simpa using hj):p:=h
theorem zM0{p:Prop} (h:p:=by rw [adt];omega):p:=h
namespace Go.Proofs.Y
open Go.ak
theorem agz:∀ d:Nat,d<10->(ByteArray.mk #[48,49,50,51,52,53,54,55,56,57]).extract d (d+1)=⟨#[UInt8.ofNat (48+d)]⟩:=by
 intro d hd;rcases d with _|_|_|_|_|_|_|_|_|_|d
 all_goals first|rfl|omega
theorem afD (c:UInt8) (l:Seg.Bs):(ByteArray.mk #[c])++⟨l.toArray⟩=⟨(c::l).toArray⟩:=by
 apply ByteArray.ext;simp
theorem afF (l:Seg.Bs):(ByteArray.mk #[115,101,103,46])++⟨l.toArray⟩=⟨(Seg.lead++l).toArray⟩:=by
 apply ByteArray.ext;simp [Seg.lead]
theorem aly (n:Int) (w:World) :
  Calls prog 25 #[.int .i64 n] w (aN λv w'=>v=.string (Seg.name n)/\w=w'):=by
 by_cases h1:n<0
 ·have Hf:=uQ (show Seg.name n=ByteArray.empty by unfold Seg.name;rw [adU (.inl h1)]);go_enter func25,ntmps25;go_wp2;go_ret;exact ⟨_,rfl,by rw [Hf.o];rfl,rfl⟩
 have h1d:decide (n<0)=false:=aea h1;by_cases h2:1048576<=n
 ·have Hf:=uQ (show Seg.name n=ByteArray.empty by unfold Seg.name;rw [adU (.inr h2)]);go_enter func25,ntmps25;go_wp2;go_ret;exact ⟨_,rfl,by rw [Hf.o];rfl,rfl⟩
 have BM:decide (1048576<=n)=false:=aea h2;obtain ⟨m0,rfl⟩:=Int.eq_ofNat_of_zero_le (show 0<=n by omega);have Hf:=uQ (show Seg.name (m0:Int)=⟨(Seg.lead++Seg.gY m0 8).toArray⟩ by unfold Seg.name;rw [abL oQ];rfl);have hm0:m0<1048576:=by omega
 have Hm:=uQ hm0;clear hm0;go_enter func25,ntmps25;go_wp2_with fail;clear h1 h2 h1d BM
 go_loopg [0,3,4] 8 (λg nv sv iv wr=>∃ (i m:Nat) (tail:Bs),g=8-i/\i<=8/\nv=.int .i64 m/\sv=.string ⟨tail.toArray⟩/\iv=.int .i64 i/\m<1048576/\Seg.gY m0 8=Seg.gY m (8-i)++tail/\wr=w)
 case atStart=>exact ⟨0,m0,[],rfl,by omega,rfl,rfl,rfl,Hm.o,by simp,rfl⟩
 case round=>
  obtain ⟨i,m,tail,rfl,hi,rfl,rfl,rfl,hm,hfin,rfl⟩:=hrel;have bF:=uQ hfin;have VB:=uQ hm;clear hfin hm;by_cases hi':i<8
  ·have hii:(i:Int)<8:=by omega
   have hx:=agz (m%10) (anD _ oQ);have hcc:=afD (UInt8.ofNat (48+m%10)) tail;have hnx:Seg.gY m (8-i)=Seg.gY (m/10) (8-(i+1))++[UInt8.ofNat (48+m%10)]:=by
    rw [show 8-i=(8-(i+1))+1 by omega];rfl
   have AQ:=uQ hnx;have htl:tail.length=i:=by
    have:=aeO List.length bF.o;rw [aa7,Seg.sU,Seg.sU]at this;omega
   have hsz:¬ 9223372036854775807<1+tail.length:=by omega
   have hq:IntKind.i64.wrap ((m:Int)/10)=(m:Int)/10:=by rw [alj];have:=VB.o;omega
   clear htl hnx;have Hx:=uQ hx;have Hcc:=uQ hcc;clear hx hcc;go_wp2_with fail
   go_roundg (8-(i+1))
   case measure=>omega
   case rel=>
    refine ⟨i+1,m/10,UInt8.ofNat (48+m%10)::tail,rfl,by omega,rfl,by rw [Hx.o,Hcc.o],rfl,by have:=VB.o;omega,?_,rfl⟩;rw [bF.o,AQ.o];simp
  ·obtain rfl:i=8:=by omega
   have hc8:((8:Nat):Int)=8:=rfl;rw [hc8];clear hc8 hi' hi;have hcc:=afF tail;have htl:tail.length=8:=by
    have:=aeO List.length bF.o;rw [aa7,Seg.sU,Seg.sU]at this;omega
   go_wp2;go_ret;refine ⟨_,rfl,?_,rfl⟩;rw [Hf.o,bF.o];rfl
end Go.Proofs.Y
namespace Go.Seg
open Go.ak
structure Log where
 limit:Int
 l:List (Int×Int)
 on:Bool
 fresh:Int
def alive (M:ak):Int:=if (M.size ByteArray.empty).2=9 then 0 else (M.size ByteArray.empty).2
def found (M:ak) (l:List ByteArray):List (Int×Int):=l.filterMap λs=>if (number s).2=true then some ((number s).1,(M.size s).1) else none
def fresh (M:ak) (limit:Int):Log:=⟨limit,found M M.list,false,0⟩
theorem ahj (M:ak) (l:List ByteArray) (s:ByteArray):found M (l++[s])=found M l++(if (number s).2=true then [((number s).1,(M.size s).1)] else []):=by
 unfold found;rw [List.filterMap_append]
 congr 1
 by_cases h:(number s).2=true <;> simp [h]
theorem ahi (M:ak) (l:List ByteArray):(found M l).length<=l.length:=List.length_filterMap_le _ _
end Go.Seg
namespace Go.Proofs.Y
open Go.ak
def iy (l:List (Int×Int)):List Value:=l.flatMap λs=>[.int .i64 s.1,.int .i64 s.2]
abbrev zI (p m:Nat) (L:Seg.Log) (lv:Value):aF:=pt p (.cells #[ptr m,.int .i64 L.limit,lv,.bool L.on,.int .i64 L.fresh] 146 (0,0))
def FV (p m:Nat) (L:Seg.Log) (lv:Value):List aF:=[zI p m L lv,aC 148 2 lv (iy L.l)]
def aV (p m:Nat) (L:Seg.Log):aF:=λh=>∃ lv,stars (FV p m L lv) h
theorem aiC:(prog.info? 148).map (λi=>(i.zero,i.size,i.bytes))=some (some (.agg #[.int .i64 0,.int .i64 0]),2,16):=by kernel_rfl
section
variable {L:Seg.Log}
theorem aV.open (h:Sat w0 w (aV p m L::F)):∃ lv,Sat w0 w (FV p m L lv++F):=by
 obtain ⟨ha,x,hx,p,q,d,rfl,⟨lv,hp⟩,hq⟩:=h;refine ⟨lv,ha,_,hx,?_⟩;rw [qx];exact ⟨p,q,d,rfl,hp,hq⟩
theorem aV.shut (h:Sat w0 w (FV p m L lv++F)):Sat w0 w (aV p m L::F):=
 h.join λ_ hx=>⟨lv,hx⟩
theorem pW (l:List (Int×Int)):(iy l).length=2*l.length:=by
 unfold iy
 induction l with
 |nil=>rfl
 |cons a l ih=>rw [aen,aa7,ih];simp;omega
theorem Mc (l k:List (Int×Int)):iy (l++k)=iy l++iy k:=by unfold iy;rw [aeB]
theorem afh (hM:M.Ok K) (h:Sat w0 w (aI m M::F)) :
  Calls prog 93 #[ptr m] w (aN λv w'=>v=errno (Seg.alive M)/\w=w'):=by
 have hs:=Dc hM h ByteArray.empty;have Fp:=uQ (show Seg.alive M=if (M.size ByteArray.empty).2=9 then 0 else (M.size ByteArray.empty).2 from rfl);generalize (M.size ByteArray.empty).2=e at *
 generalize (M.size ByteArray.empty).1=n at *
 by_cases he:e=9
 ·subst he;go_enter func93,ntmps93;go_wp2_with fail;refine hs.mono ?_;rintro e w1 ⟨v,rfl,rfl,rfl⟩;clear hs;go_wp2;go_ret;exact ⟨_,rfl,by rw [Fp.o];rfl,rfl⟩
 ·have hed:(e==9)=false:=aoW he;have He:=uQ he;clear he;go_enter func93,ntmps93;go_wp2_with fail;refine hs.mono ?_;rintro e w1 ⟨v,rfl,rfl,rfl⟩;clear hs;go_wp2;go_ret;exact ⟨_,rfl,by rw [Fp.o,abL He.o];rfl,rfl⟩
theorem Lh (hM:M.Ok K) (limit:Int) (h:Sat w0 w (aI m M::F)) (ha:Seg.alive M=0) (h1:128<=limit) (h2:limit<=1048576) :
  Calls prog 40 #[ptr m,.int .i64 limit] w (aN λv w'=>∃ p,v=.tuple #[ptr p,errno 0]/\Sat w0 w' (aV p m (Seg.fresh M limit)::aI m M::F)):=by
 have hal:=afh hM h;rw [ha]at hal;have hd1:decide (limit<128)=false:=aea oQ;have hd2:decide (1048576<limit)=false:=aea oQ;obtain ⟨i,hi,hz0,hz1,hz2⟩:=info_parts aiC
 have hll:=uQ (show M.list.length<=500 by
  unfold ak.list;split
  ·simp
  ·rw [abl];exact hM.fU.len)
 clear h1 h2 ha;go_enter func40,ntmps40;go_wp2_with fail;refine hal.mono ?_;rintro e w1 ⟨v,rfl,rfl,rfl⟩;clear hal;have hB:=h.alloc (.cells #[ptr m,.int .i64 limit,.slice none 0 0,.bool false,.int .i64 0] 146);have hL:=KF hM hB.aT;go_wp2_with fail;refine hL.mono ?_;rintro e w2 ⟨v,rfl,hS,ba,bn,bc,rfl⟩;have hlen:bn=M.list.length:=by
  obtain ⟨a',n',c',he,hl,_⟩:=Sat.rd hS;cases he;rw [amZ,aeo]at hl;exact hl.symm
 clear hL hB;subst hlen;generalize w.heap.size=q at *
 go_wp2_with fail
 go_loopg [32] M.list.length (λg iq wr=>∃ (i:Nat) (lv:Value),g=M.list.length-i/\i<=M.list.length/\iq=.int .i64 i/\Sat w0 wr (FV q m ⟨limit,Seg.found M (M.list.take i),false,0⟩ lv++aC 9 1 (.slice ba M.list.length bc) (strs M.list)::aI m M::F))
 case atStart=>exact ⟨0,.slice none 0 0,rfl,ad4 _,rfl,by
  have:=Sat.dO (T:=148) (sz:=2) |>.2 hS;exact this.sel 4 [3,0,1,2] rfl rfl⟩
 case round=>
  obtain ⟨j,lv,rfl,hj,rfl,hR⟩:=hrel;clear hS;by_cases hj':j<M.list.length
  ·have hx:M.list[j]?=some (M.list[j]'hj'):=aaJ hj';have hcx:=Sat.rd (hR.sel 3 [2] rfl rfl);obtain ⟨bk,off,hba,c1⟩:=CV hcx (amX hx)
   have nJ:=uQ (show Seg.found M (M.list.take (j+1))=Seg.found M (M.list.take j)++(if (Seg.number M.list[j]).2=true then [((Seg.number M.list[j]).1,(M.size M.list[j]).1)] else []) by
    rw [afB hj',Seg.ahj])
   have hnum:=Ue M.list[j] hR;have kE:=uQ (Seg.ahi M (M.list.take j));generalize M.list[j]=s at *
   have hic:(j:Int)<(M.list.length:Int):=by omega
   have hjl:=uQ hj';clear hx hcx hj';subst hba;go_wp2_with fail;refine hnum.mono ?_;rintro e w3 ⟨v,rfl,rfl,J3⟩;clear hnum;have hwi:IntKind.i64.wrap ((j:Int)+1)=(j:Int)+1:=acO _ (by have:=hll.o;have:=hjl.o;omega);cases hb:(Seg.number s).2
   ·have Hb:=uQ hb;clear hb;go_wp2
    go_roundg (M.list.length-(j+1))
    case measure=>have:=hjl.o;omega
    case rel=>
     refine ⟨j+1,lv,rfl,ad8 hjl.o,by first|rfl|go_num,?_⟩;rw [nJ.o,Hb.o,abL aG,aei];exact J3
   ·have Hb:=uQ hb;clear hb;have hsz:=Dc hM (J3.sel 4 [3,0,1,2] rfl rfl) s;go_wp2_with fail;refine hsz.mono ?_;rintro e w4 ⟨v,rfl,rfl,rfl⟩;clear hsz;have c2:=J3.cellAt 2 _ rfl;generalize (M.size s).1=sz at *
    generalize (M.size s).2=se at *
    generalize (Seg.number s).1=nu at *
    have h7:=J3.alloc (.cells #[.int .i64 nu,.int .i64 sz] 148);have hoc:∀ u∈(#[.int .i64 nu,.int .i64 sz]:Array Value).toList,u.oneCell'=true:=by
     intro u hu;simp only [ad9,aiR,apW]at hu;rcases hu with rfl|rfl <;> rfl
    have hlen:(iy (Seg.found M (M.list.take j))).length<=2*500:=by
     rw [pW];have:=kE.o;have:=hll.o;rw [adt]at *;omega
    have h63:(iy (Seg.found M (M.list.take j))).length+2<=maxLen:=by unfold maxLen;omega
    have hby:((iy (Seg.found M (M.list.take j))).length+2)*i.bytes<=140737488355328:=by rw [hz2];omega
    have h8:Sat w0 _ (aC 148 2 lv (iy (Seg.found M (M.list.take j)))::zI q m ⟨limit,Seg.found M (M.list.take j),false,0⟩ lv::aC 9 1 (.slice (some ⟨bk,off,none⟩) M.list.length bc) (strs M.list)::aI m M::F):=h7.sel 5 [2,1,3,4] rfl rfl;clear hlen;go_wp2_with (at_builtin;go_must (refine Ah (w0:=w0) ah _ _ _ ah _ i _ underlying144 hi hz0 hz1 ah oQ ah ah hoc h8 (Ez _ _ _ 2 1 1 ah) h63 hby ?_);intro v2 w5 hS5 hne;obtain ⟨ab,an,ac,rfl⟩:=hne yF0;have e2:=hS5.aT.cellAt 2 _ rfl;have g2:=hS5.aT.oC 2);have hS6:=hS5.aT.set 2 (.slice (some ⟨ab,0,none⟩) an ac);generalize w5.setCell _ _=w6 at *
    go_roundg (M.list.length-(j+1))
    case measure=>have:=hjl.o;omega
    case rel=>
     refine ⟨j+1,.slice (some ⟨ab,0,none⟩) an ac,rfl,ad8 hjl.o,by first|rfl|go_num,?_⟩;rw [nJ.o,Hb.o,adU rfl];unfold FV;rw [Mc];exact hS6
  ·obtain rfl:j=M.list.length:=by omega
   have hic:¬ (M.list.length:Int)<(M.list.length:Int):=by omega
   rw [aeH]at hR;clear hj hj';go_wp2
   go_ret2
   refine ⟨_,rfl,q,rfl,?_⟩;exact aV.shut (hR.sel 4 [0,1,3] rfl rfl)
end
theorem alR (t ty e:TypeId) (i:TypeInfo) (z:Value) (ht:P.underlying t=some (.slice e)) (hi:P.info? e=some i) (hz:i.zero=some z)
  (hs:i.size=1) (hzs:z.cells.size=1) (b n cap:Nat) (hl:xs.length=n) (hcap:cap<=n) (hold:aW 1 (.slice (some ⟨b,0,none⟩) n cap) xs w)
  (h:Sat w0 w R) (hx:aW 1 x ys w) (hy0:ys≠[]) (h63:xs.length+ys.length<=maxLen) (hby:(xs.length+ys.length)*i.bytes<=140737488355328) :
  ∃ b' n' c' w',(Builtin.append_ #[t,t] ty #[.slice (some ⟨b,0,none⟩) n cap,x]).run P w=.ok (.slice (some ⟨b',0,none⟩) n' c') w'/\Sat w0 w' (aC e 1 (.slice (some ⟨b',0,none⟩) n' c') (xs++ys)::R):=by
 obtain ⟨xa,m,c,rfl,hyl,vS⟩:=hx;obtain ⟨b1,n1,c1,he1,hol,hoc⟩:=hold;cases he1;rw [aeo]at hyl;have hm:0<m:=by
  rw [<-hyl];exact List.length_pos_iff.2 hy0
 obtain ⟨ad,rfl⟩:∃ ad,xa=some ad:=by
  obtain ⟨y,hy⟩:∃ y,ys[0]?=some y:=by
   cases ys with
   |nil=>exact absurd rfl hy0
   |cons y _=>exact ⟨y,rfl⟩
  obtain ⟨b,hb,_⟩:=vS 0 y hy;exact ⟨b,hb⟩
 have hnews:∀ j u,ys[j]?=some u->w.cell? (ad.add j)=some u:=λj u hj=>by
  obtain ⟨b,hb,hx⟩:=vS j u hj;cases hb;exact hx
 have holds:∀ j u,xs[j]?=some u->w.cell? ((⟨b,0,none⟩:Addr).add j)=some u:=λj u hj=>by
  obtain ⟨b',hb,hx⟩:=hoc j u hj;cases hb;exact hx
 have h63':maxLen=9223372036854775807:=rfl;have hr:=run_append_grow (P:=P) w t ty e i z ht hi hz ⟨b,0,none⟩ n cap xs (by rw [hs];omega) holds ad m c ys (by rw [hs];omega) hnews oQ oQ (growslice_fits oQ (by rw [<-hl,<-hyl];exact hby));refine ⟨_,_,_,_,hr,?_⟩;have hge:=grownCap_ge w (n+m) cap e;have hcm:=grownCap_le_maxLen w (n+m) cap e oQ;have:=(h.drew).alloc (.cells (xs.toArray++ys.toArray++Builtin.zeroCells z.cells (grownCap w (n+m) cap e-(n+m))) e);refine Sat.kU this ?_ hge ?_ hcm ?_
 ·rw [aa7,hl,hyl,aeo]
 ·simp only [Array.size_append,abA,size_zeroCells,hzs];omega
 ·simp only [apy,ad2];rw [<-ad2];have e1:(n+m)*1=(xs++ys).length:=by rw [aa7,hl,hyl,aeo]
  rw [e1];exact List.take_left
section
variable {L:Seg.Log}
theorem CS (h:Sat w0 w (zI p m L lv::F)) :
  Calls prog 69 #[ptr p] w (aN λv w'=>v=.bool true/\w=w'):=by
 have c0:=h.cellAt 0 _ rfl;go_enter func69,ntmps69;go_wp2;go_ret;exact ⟨_,rfl,rfl,rfl⟩
end
def eH (cs:Array Value):Nat->List Value->Array Value
 |_,[]=>cs
 |o,v::r=>eH (cs.setIfInBounds o v) (o+1) r
theorem lC:∀ (vs:List Value) (cs:Array Value) (o:Nat),(eH cs o vs).size=cs.size
 |[],_,_=>rfl
 |v::r,cs,o=>by rw [eH,lC r,apC]
theorem Sat.sets:∀ (vs:List Value){cs:Array Value}{T:TypeId}{w:World} (o:Nat),Sat w0 w (pt b (.cells cs T (0,0))::R)->Sat w0 (w.setCells b o vs) (pt b (.cells (eH cs o vs) T (0,0))::R)
 |[],_,_,_,_,h=>h
 |v::r,_,_,_,o,h=>Sat.sets r (o+1) (h.set o v)
theorem EX {ops:Array Oper}{rest:List Oper}{op:Oper}{a:Act}{Q:Exit->Act->World->Prop}{cs:Array Value}{T:TypeId} (hgd:op.guard=none) (ty:TypeId) (x y:Operand) (ho:op.op=.store ty x y)
  (o:Nat) (v:Value) (hx:a.eval x=.pointer (some ⟨b,o,none⟩)) (hy:a.eval y=v) (hfit:o+v.cells.size<=cs.size)
  (hi:(P.info? ty).map (·.size)=some v.cells.size) (h1:v.cells.all (·.oneCell')=true) (h:Sat w0 w (pt b (.cells cs T (0,0))::R))
  (hK:∀ w',Sat w0 w' (pt b (.cells (eH cs o v.cells.toList) T (0,0))::R)->wpList P ops Q rest (a.put op.dst undef) w'):wpList P ops Q (op::rest) a w:=by
 have hth:w.there b o v.cells.size:=by
  intro j hj;refine ⟨?_,h.oC _⟩;rw [h.cellAt (o+j) _ (ajC (show o+j<cs.size by omega))]
  rfl
 refine ae5 hgd λ_ hK'=>?_
 have hst:=run_storeCells_cells (P:=P) b o v.cells.toList 0 w (λj hj=>by simpa using (hth j yX0).1) (λj hj=>by simpa using (hth j yX0).2)
  (λu hu=>(Array.all_eq_true_iff_forall_mem.1 h1) u (by simpa using hu))
 have hrun:(storeVar ty ⟨b,o,none⟩ v).run P w=.ok () (w.setCells b o v.cells.toList):=by
  cases hq:P.info? ty with
  |none=>simp [hq]at hi
  |some i=>
   have hs:v.cells.size=i.size:=by simp [hq]at hi;omega
   simp only [aml]at hst;simp [storeVar,sizeOf,typeInfo,hq,hs,hst]
 unfold Oper.wp execOp;simp only [ho,hx,hy,Instr.storeAt,Instr.sureAddr,aed,aep,adW,hrun];exact hK' _ _ (hK _ (Sat.sets _ _ h))
structure Stop (p:Prop):Prop where
 out:p
theorem Stop.o:type_of% @Stop.out:=@Stop.out
end Go.Proofs.Y
namespace Go.Sl
open Go
def Pick (A:aF) (L R:List aF):Prop:=L.Perm (A::R)
def pF (A B:aF) (L L':List aF):Prop:=∃ R,L.Perm (A::R)/\L'.Perm (B::R)
def Sub (L M:List aF):Prop:=∃ X,L.Perm (M++X)
section
variable {A B A1 A2 A3 A4 A5 A6 A7 A8 A9 U8 A11 A12:aF}{L M R L':List aF}{w0 w:World}
theorem aU (h:Pick A L R):Pick A (B::L) (B::R):=(h.cons B).trans (List.Perm.swap _ _ _)
theorem aK:Pick A (A::R) R:=aoF _
theorem aT:Pick A (A1::A::R) (A1::R):=aU aK
theorem fE:Pick A (A1::A2::A::R) (A1::A2::R):=aU aT
theorem iw:Pick A (A1::A2::A3::A::R) (A1::A2::A3::R):=aU fE
theorem rW:Pick A (A1::A2::A3::A4::A::R) (A1::A2::A3::A4::R):=aU iw
theorem Sz:Pick A (A1::A2::A3::A4::A5::A::R) (A1::A2::A3::A4::A5::R):=aU rW
theorem Lm:Pick A (A1::A2::A3::A4::A5::A6::A::R) (A1::A2::A3::A4::A5::A6::R):=aU Sz
theorem akm:Pick A (A1::A2::A3::A4::A5::A6::A7::A::R) (A1::A2::A3::A4::A5::A6::A7::R):=aU Lm
theorem akn:Pick A (A1::A2::A3::A4::A5::A6::A7::A8::A::R) (A1::A2::A3::A4::A5::A6::A7::A8::R):=aU akm
theorem Lp:Pick A (A1::A2::A3::A4::A5::A6::A7::A8::A9::A::R) (A1::A2::A3::A4::A5::A6::A7::A8::A9::R):=aU akn
theorem yE:Pick A (A1::A2::A3::A4::A5::A6::A7::A8::A9::U8::A::R) (A1::A2::A3::A4::A5::A6::A7::A8::A9::U8::R):=aU Lp
theorem lN (h:pF A B L L'):pF A B (A1::L) (A1::L'):=by
 obtain ⟨R,h1,h2⟩:=h;exact ⟨A1::R,(h1.cons A1).trans (List.Perm.swap _ _ _),(h2.cons A1).trans (List.Perm.swap _ _ _)⟩
theorem bU:pF A B (A::R) (B::R):=⟨R,aoF _,aoF _⟩
theorem Us:pF A B (A1::A::R) (A1::B::R):=lN bU
theorem anF:pF A B (A1::A2::A::R) (A1::A2::B::R):=lN Us
theorem iY:Sub L L:=⟨[],by simp⟩
theorem lg (h:Sub L M):Sub (A::L) M:=by
 obtain ⟨X,h⟩:=h;exact ⟨A::X,(h.cons A).trans ao2.symm⟩
theorem dA (p:Pick A L R) (h:Sub R M):Sub L (A::M):=by
 obtain ⟨X,h⟩:=h;exact ⟨X,p.trans (h.cons A)⟩
theorem Sat.pick (h:Sat w0 w L) (p:Pick A L R):Sat w0 w (A::R):=h.perm p
theorem Sat.sub (h:Sat w0 w L) (p:Sub L M):Sat w0 w M:=by
 obtain ⟨X,h2⟩:=p;exact (h.perm h2).XD
theorem Ro.zM {A:aF}{p:World->Prop} (h:Ro w0 (A::R) p) (k:Pick A L R):Ro w0 L p:=λw hw=>h w (hw.pick k)
theorem Ro.of_sub {p:World->Prop} (h:Ro w0 M p) (k:Sub L M):Ro w0 L p:=λw hw=>h w (hw.sub k)
theorem Sat.cellP {b:Nat}{cs:Array Value}{T:TypeId} (h:Sat w0 w L) (p:Pick (pt b (.cells cs T (0,0))) L R) (i:Nat){v:Value} (hv:cs[i]?=some v):w.cell? ⟨b,i,none⟩=some v:=(h.pick p).cellAt i v hv
end
end Go.Sl
namespace Go.Proofs.Y
open Go.ak
section
variable {t:TypeId}{pos:String}{x:Operand}{o:Nat}
def CU (P:Program) (ty:TypeId):Bool:=match P.underlying ty with
 |some d => !d.isRow
 |none=>false
theorem al1 (h1:CU P ty=true) (hc:w.cell? ⟨b,o,none⟩=some v):(loadVar ty ⟨b,o,none⟩).run P w=.ok v w:=by
 unfold CU at h1;cases hu:P.underlying ty with
 |none=>rw [hu]at h1;cases h1
 |some d=>
  rw [hu]at h1;have hagg:(isAgg ty).run P w=.ok false w:=by
   unfold isAgg;rw [aed,agu hu w];cases d <;> simp_all [TypeDesc.isRow]
  simp [loadVar,aed,hagg];rw [hc]
theorem acg {ad:Addr} (h1:CU P ty=true) (hc:w.cell? ad=some v):(loadVar ty ad).run P w=.ok v w:=by
 unfold CU at h1;cases hu:P.underlying ty with
 |none=>rw [hu]at h1;cases h1
 |some d=>
  rw [hu]at h1;have hagg:(isAgg ty).run P w=.ok false w:=by
   unfold isAgg;rw [aed,agu hu w];cases d <;> simp_all [TypeDesc.isRow]
  simp [loadVar,aed,hagg];rw [hc]
theorem X0 (a:Act) (after:Array Edge) (g:Option (Nat×Bool)):execOp a.eval ⟨dst,.call { callee:= .builtin .len,args:=#[x],argTypes:=#[ty] },t,pos,after,g⟩=(do pure (.value (<-Builtin.len_ #[ty] t #[a.eval x]))):=by
 rw [BigFrame.execOp_builtin,BigFrame.builtin_len];simp
theorem ahs {i:Nat} (hlt:i+1<=cs.size) (hv:cs.getD i undef=v):cs[i]?=some v:=by
 rw [<-hv,apo,ajC (show i<cs.size by omega)];rfl
theorem eY (hs:Sat w0 w L) (hx:a.eval x=.pointer (some ⟨b,o,none⟩)) (p:Pick (pt b (.cells cs T (0,0))) L R) (hlt:o+1<=cs.size) (hv:cs.getD o undef=v) (h1:CU P ty=true)
  (h:wpList P ops Q rest (a.put dst v) w):wpList P ops Q (⟨dst,.load ty x,t,pos,after,none⟩::rest) a w:=
 ae5 rfl λ_ hK=>by
  unfold Oper.wp execOp;simp only [hx,Instr.loadAt,Instr.sureAddr,aed,aep,adW,al1 h1 (hs.cellP p o (ahs hlt hv))];exact hK _ _ h
theorem EW (ks:List Value) (hs:Sat w0 w L) (hx:a.eval x=.pointer (some ⟨b,o,none⟩)) (p:Pick (pt b (.cells cs T (0,0))) L R) (hv:∀ j v,ks[j]?=some v->cs[o+j]?=some v)
  {d:TypeDesc} (hu:P.underlying ty=some d) (hd:d.isRow=true) (hi:(P.info? ty).map (·.size)=some ks.length)
  (h:wpList P ops Q rest (a.put dst (.agg ks.toArray)) w):wpList P ops Q (⟨dst,.load ty x,t,pos,after,none⟩::rest) a w:=
 wpList_load_mid rfl ty x rfl b o hx ks d (λj v hj=>hs.cellP p (o+j) (hv j v hj)) hu hd hi h
theorem iC (hs:Sat w0 w L) (hx:a.eval x=.pointer (some ⟨b,0,none⟩)) (p:Pick (pt b (.cells cs T (0,0))) L R){d:TypeDesc} (hu:P.underlying ty=some d) (hd:d.isRow=true) (hi:(P.info? ty).map (·.size)=some cs.size)
  (h:wpList P ops Q rest (a.put dst (.agg cs)) w):wpList P ops Q (⟨dst,.load ty x,t,pos,after,none⟩::rest) a w:=by
 refine wpList_load_row rfl ty x rfl b hx T cs (0,0) d (hs.pick p).at hu ?_ hi h;cases d <;> simp_all [TypeDesc.isRow]
theorem jM (hs:Sat w0 w L) (hx:a.eval x=.pointer (some ⟨b,o,none⟩)) (hy:a.eval y=v){cs':Array Value} (hcs:eH cs o v.cells.toList=cs') (u:pF (pt b (.cells cs T (0,0))) (pt b (.cells cs' T (0,0))) L L') (hfit:o+v.cells.size<=cs.size)
  (hi:(P.info? ty).map (·.size)=some v.cells.size) (h1:v.cells.toList.all (·.oneCell')=true)
  (hK:∀ w',Sat w0 w' L'->wpList P ops Q rest (a.put dst undef) w'):wpList P ops Q (⟨dst,.store ty x y,t,pos,after,none⟩::rest) a w:=by
 subst hcs;obtain ⟨R',h2,h3⟩:=u;exact EX rfl ty x y rfl o v hx hy hfit hi (by rw [<-Array.all_toList];exact h1) (hs.perm h2) λw' hS=>hK w' (hS.perm h3.symm)
theorem fB (hs:Sat w0 w L) (hy:a.eval y=v) (hcs:v.cells=cs)
  (hK:∀ b w',Sat w0 w' (pt b (.cells cs ty (0,0))::L)->wpList P ops Q rest (a.put dst (.pointer (some ⟨b,0,none⟩))) w'):wpList P ops Q (⟨dst,.box ty y,t,pos,after,none⟩::rest) a w:=by
 subst hcs;refine ae5 rfl λ_ hK'=>?_;have hS:=hs.alloc (.cells v.cells ty);unfold Oper.wp execOp;have hrun:(Instr.box ty v).run P w=.ok (.pointer (some ⟨w.heap.size,0,none⟩)) (w.alloc (.cells v.cells ty)):=by
  simp [Instr.box,newVar,newRow,go_sem]
 simp only [hy,aed,aep,hrun,adW];exact hK' _ _ (hK _ _ hS)
def kD (P:Program) (ty:TypeId):Option Value:=(P.info? ty).bind (·.zero)
theorem LZ (hz:kD P ty=some v) (w:World):(zeroValue ty).run P w=.ok v w:=by
 unfold kD at hz;cases hq:P.info? ty with
 |none=>simp [hq]at hz
 |some i=>
  rw [hq]at hz;have hz':i.zero=some v:=hz;simp [zeroValue,typeInfo,hq,hz']
theorem eU (hz:kD P ty=some v) (hs:Sat w0 w L) (hcs:v.cells=cs)
  (hK:∀ b w',Sat w0 w' (pt b (.cells cs ty (0,0))::L)->wpList P ops Q rest (a.put dst (.pointer (some ⟨b,0,none⟩))) w'):wpList P ops Q (⟨dst,.alloc ty,t,pos,after,none⟩::rest) a w:=by
 subst hcs;refine ae5 rfl λ_ hK'=>?_;have hS:=hs.alloc (.cells v.cells ty);unfold Oper.wp execOp;have hrun:(Instr.alloc ty true (.tuple #[])).run P w=.ok (.pointer (some ⟨w.heap.size,0,none⟩)) (w.alloc (.cells v.cells ty)):=by
  simp [Instr.alloc,LZ hz w,newVar,newRow,go_sem,Result.andThen]
 simp only [aed,aep,hrun,adW];exact hK' _ _ (hK _ _ hS)
theorem SY {fn:Func}{p u:Tmp}{tmps:Array Value}{d:TypeDesc} (hf:fn.results=#[.cell p ty,.tmp u]) (hs:Sat w0 w L) (hp:tmps.getD p undef=.pointer (some ⟨b,0,none⟩)) (k:Pick (pt b (.cells cs T (0,0))) L R)
  (hu:P.underlying ty=some d) (hd:d.isRow=true) (hi:(P.info? ty).map (·.size)=some cs.size) :
  (results fn tmps).run P w=.ok (.tuple #[.agg cs,tmps.getD u undef]) w:=by
 rw [results_cell_tmp hf tmps P w,hp];have hl:=run_loadVar_row (P:=P) w b T ty cs (0,0) d (hs.pick k).at hu (by cases d <;> simp_all [TypeDesc.isRow]) hi;simp [asAddr,hl,Result.andThen]
theorem aV.shut2 {p m:Nat}{L:Seg.Log}{lv:Value}{F:List aF} (h:Sat w0 w (zI p m L lv::aC 148 2 lv (iy L.l)::F)):Sat w0 w (aV p m L::F):=aV.shut h
theorem aV.vX {p m:Nat}{L:Seg.Log}{F:List aF} (h:Sat w0 w (aV p m L::F)):∃ lv,Sat w0 w (zI p m L lv::aC 148 2 lv (iy L.l)::F):=aV.open h
theorem mV:∀ (ys:List Value) (cs:Array Value) (o:Nat),o+ys.length<=cs.size->(eH cs o ys).toList=cs.toList.take o++ys++cs.toList.drop (o+ys.length)
 |[],cs,o,h=>by simp [eH]
 |y::ys,cs,o,h=>by
  simp only [aev]at h;rw [eH,mV ys _ (o+1) (by rw [apC];omega),aoR];have hlt:o<cs.toList.length:=by simp;omega
  rw [List.set_eq_take_append_cons_drop,adU hlt];have h1:(cs.toList.take o).length=o:=by rw [adt];omega
  rw [List.take_append,h1,adZ oQ,show o+1-o=1 by omega,List.take_succ_cons,afC];rw [apM,h1,aeI (l:=cs.toList.take o) oQ,aeV,show o+1+ys.length-o=ys.length+1 by omega,apK,apD];simp only [aev,ad2,aiQ,aeV];rw [show o+1+ys.length=o+(ys.length+1) by omega]
theorem bC (h:Stop (wpList P ops Q (⟨dst,.load ty x,t,pos,after,none⟩::rest) a w)):wpList P ops Q (⟨dst,.load ty x,t,pos,after,none⟩::rest) a w:=h.o
theorem bW (h:Stop (wpList P ops Q (⟨dst,.store ty x y,t,pos,after,none⟩::rest) a w)):wpList P ops Q (⟨dst,.store ty x y,t,pos,after,none⟩::rest) a w:=h.o
theorem fC (h:Stop (wpList P ops Q (⟨dst,.box ty y,t,pos,after,none⟩::rest) a w)):wpList P ops Q (⟨dst,.box ty y,t,pos,after,none⟩::rest) a w:=h.o
theorem eG (h:Stop (wpList P ops Q (⟨dst,.alloc ty,t,pos,after,none⟩::rest) a w)):wpList P ops Q (⟨dst,.alloc ty,t,pos,after,none⟩::rest) a w:=h.o
theorem jh {ix:Nat}{k:Nat} (h:Stop (wpList P ops Q (⟨dst,.buildSlice ty k #[(ix,x)],t,pos,after,none⟩::rest) a w)):wpList P ops Q (⟨dst,.buildSlice ty k #[(ix,x)],t,pos,after,none⟩::rest) a w:=h.o
theorem fZ {s z:Operand}{ta tb:TypeId} (h:Stop (wpList P ops Q (⟨dst,.call { callee:= .builtin .append,args:=#[s,z],argTypes:=#[ta,tb] },t,pos,after,none⟩::rest) a w)):wpList P ops Q (⟨dst,.call { callee:= .builtin .append,args:=#[s,z],argTypes:=#[ta,tb] },t,pos,after,none⟩::rest) a w:=h.o
section
variable {uo:UnOp}
theorem mZ (o:Oper) (h:o.guard=none):Region.wanted o (yielded ops a.tmps)=true:=by simp [Region.wanted,h]
theorem aoo (hx:a.eval x=v):Yields P ops ⟨dst,.move x,t,pos,after,none⟩ v a:=
 .inl ⟨mZ _ rfl,λw=>by simp only [execOp,hx];rfl⟩
theorem aok (hx:a.eval x=v):Yields P ops ⟨dst,.assign x,t,pos,after,none⟩ v a:=
 .inl ⟨mZ _ rfl,λw=>by simp only [execOp,hx];rfl⟩
theorem aop (hx:a.eval x=.pointer (some ad)):Yields P ops ⟨dst,.nilCheck x,t,pos,after,none⟩ (.pointer (some ad)) a:=
 .inl ⟨mZ _ rfl,λw=>by simp only [execOp,hx];rfl⟩
theorem aom (hx:a.eval x=vx) (hr:∀ w,(Instr.fieldAt ty vx fl).run P w=.ok v w):Yields P ops ⟨dst,.fieldAddr ty x fl,t,pos,after,none⟩ v a:=
 .inl ⟨mZ _ rfl,λw=>by simp only [execOp,hx,aed,hr,adW,aep]⟩
theorem aon (hx:a.eval x=vx) (hy:a.eval y=vy) (hr:∀ w,(Instr.indexAt ty vx vy).run P w=.ok v w):Yields P ops ⟨dst,.indexAddr ty x y,t,pos,after,none⟩ v a:=
 .inl ⟨mZ _ rfl,λw=>by simp only [execOp,hx,hy,aed,hr,adW,aep]⟩
theorem Dt (hx:a.eval x=vx) (hy:a.eval y=vy) (hr:∀ w,((do eqGuard bo ty x y vx vy;binOp bo ty vx vy):Sem Value).run P w=.ok v w):Yields P ops ⟨dst,.binOp bo ty x y tz,t,pos,after,none⟩ v a:=
 .inl ⟨mZ _ rfl,λw=>by simp only [execOp,hx,hy,aed (x:=(do eqGuard bo ty x y vx vy;binOp bo ty vx vy)),hr,adW,aep]⟩
theorem EY (hx:a.eval x=vx) (hr:∀ w,(Op.unary uo vx).run P w=.ok v w):Yields P ops ⟨dst,.unOp uo ty x,t,pos,after,none⟩ v a:=
 .inl ⟨mZ _ rfl,λw=>by simp only [execOp,hx,aed,hr,adW,aep]⟩
theorem U6 (hx:a.eval x=vx) (hr:∀ w,(convert ty tz vx).run P w=.ok v w):Yields P ops ⟨dst,.convert ty tz x,t,pos,after,none⟩ v a:=
 .inl ⟨mZ _ rfl,λw=>by simp only [execOp,hx,aed,hr,adW,aep]⟩
theorem nU (hx:a.eval x=vx) (hr:∀ w,(Instr.extract vx fl).run P w=.ok v w):Yields P ops ⟨dst,.extract x fl,t,pos,after,none⟩ v a:=
 .inl ⟨mZ _ rfl,λw=>by simp only [execOp,hx,aed,hr,adW,aep]⟩
theorem xw (hx:a.eval x=vx) (hr:∀ w,(Builtin.len_ #[ty] t #[vx]).run P w=.ok v w):Yields P ops ⟨dst,.call { callee:= .builtin .len,args:=#[x],argTypes:=#[ty] },t,pos,after,none⟩ v a:=
 .inl ⟨mZ _ rfl,λw=>by
  rw [X0,hx];simp only [aed,hr,adW,aep]⟩
theorem acX (hx:a.eval x=.pointer (some ad)) (h1:CU P ty=true) (hG:∀ w,G w->w.cell? ad=some v):YieldsIf P ops G ⟨dst,.load ty x,t,pos,after,none⟩ v a:=
 .inl ⟨mZ _ rfl,λw hw=>by
  obtain ⟨b,o,el⟩:=ad;have hc:=hG w hw;simp only [execOp,hx,Instr.loadAt,Instr.sureAddr,aed,aep,adW,acg h1 hc]⟩
def goB (P:Program) (f:FuncId):Bool:=match P.funcs[f]? with
 |some fn => !(fn.name == "runtime.NumGoroutine") && fn.body.isSome
 |none=>false
theorem alZ {f:FuncId} (h:goB P f=true) (args:Array Value) (w:World):(callFunc f args).run P w=.ok (.enter f args) w:=by
 unfold goB at h;cases hf:P.funcs[f]? with
 |none=>rw [hf]at h;cases h
 |some fn=>
  rw [hf]at h;simp only [aeW,Bool.not_eq_true']at h;obtain ⟨h1,h2⟩:=h;obtain ⟨c,hc⟩:=Option.isSome_iff_exists.1 h2;have h1':fn.name ≠ "runtime.NumGoroutine" := by simpa using h1
  simp [callFunc,hf,h1',hc]
def Upon (K:Act->World->Prop) (Q:Exit->Act->World->Prop) (a:Act) (dst:Option Tmp) (e:Ending) (w:World):Prop:=
 match e with
 |.returned v=>K (a.put dst v) w
 |.panicked chain=>Q (.panic chain) a w
 |.outgrown=>LetsOut Q
theorem D7 {f:FuncId}{xs:Array Operand}{ts:Array TypeId}{K:Act->World->Prop}{E:Prop} (vs:List Value) (hf:goB P f=true) (hv:xs.toList.map a.eval=vs)
  (h:Calls P f vs.toArray w (Upon K Q a dst)):if Region.wanted ⟨dst,.call { callee:= .value (.func f),args:=xs,argTypes:=ts },t,pos,after,none⟩ (yielded ops a.tmps)=true then
   Oper.wp P ⟨dst,.call { callee:= .value (.func f),args:=xs,argTypes:=ts },t,pos,after,none⟩ a w K Q else E:=by
 rw [adU (mZ _ rfl)];unfold Oper.wp;have e1:(#[]++xs.map a.eval++#[]:Array Value)=vs.toArray:=by
  rw [<-hv];cases xs;simp
 rw [execOp_call_go,e1,alZ hf,Oper.upon_enter];exact h.mono λe w' he=>by cases e <;> exact he
theorem uJ {f:FuncId}{x1:Operand}{v1:Value}{ts:Array TypeId}{K:Act->World->Prop}{E:Prop} (hf:goB P f=true) (h1:a.eval x1=v1)
  (h:Calls P f #[v1] w (Upon K Q a dst)):if Region.wanted ⟨dst,.call { callee:= .value (.func f),args:=#[x1],argTypes:=ts },t,pos,after,none⟩ (yielded ops a.tmps)=true then
   Oper.wp P ⟨dst,.call { callee:= .value (.func f),args:=#[x1],argTypes:=ts },t,pos,after,none⟩ a w K Q else E:=
 D7 [v1] hf (by simp [h1]) h
theorem jB {f:FuncId}{x1 x2:Operand}{v1 v2:Value}{ts:Array TypeId}{K:Act->World->Prop}{E:Prop} (hf:goB P f=true) (h1:a.eval x1=v1) (h2:a.eval x2=v2)
  (h:Calls P f #[v1,v2] w (Upon K Q a dst)):if Region.wanted ⟨dst,.call { callee:= .value (.func f),args:=#[x1,x2],argTypes:=ts },t,pos,after,none⟩ (yielded ops a.tmps)=true then
   Oper.wp P ⟨dst,.call { callee:= .value (.func f),args:=#[x1,x2],argTypes:=ts },t,pos,after,none⟩ a w K Q else E:=
 D7 [v1,v2] hf (by simp [h1,h2]) h
theorem JK {f:FuncId}{x1 x2 x3:Operand}{v1 v2 v3:Value}{ts:Array TypeId}{K:Act->World->Prop}{E:Prop} (hf:goB P f=true) (h1:a.eval x1=v1) (h2:a.eval x2=v2) (h3:a.eval x3=v3)
  (h:Calls P f #[v1,v2,v3] w (Upon K Q a dst)):if Region.wanted ⟨dst,.call { callee:= .value (.func f),args:=#[x1,x2,x3],argTypes:=ts },t,pos,after,none⟩ (yielded ops a.tmps)=true then
   Oper.wp P ⟨dst,.call { callee:= .value (.func f),args:=#[x1,x2,x3],argTypes:=ts },t,pos,after,none⟩ a w K Q else E:=
 D7 [v1,v2,v3] hf (by simp [h1,h2,h3]) h
theorem agM {f:FuncId}{x1 x2 x3 x4:Operand}{v1 v2 v3 v4:Value}{ts:Array TypeId}{K:Act->World->Prop}{E:Prop} (hf:goB P f=true) (h1:a.eval x1=v1) (h2:a.eval x2=v2) (h3:a.eval x3=v3) (h4:a.eval x4=v4)
  (h:Calls P f #[v1,v2,v3,v4] w (Upon K Q a dst)):if Region.wanted ⟨dst,.call { callee:= .value (.func f),args:=#[x1,x2,x3,x4],argTypes:=ts },t,pos,after,none⟩ (yielded ops a.tmps)=true then
   Oper.wp P ⟨dst,.call { callee:= .value (.func f),args:=#[x1,x2,x3,x4],argTypes:=ts },t,pos,after,none⟩ a w K Q else E:=
 D7 [v1,v2,v3,v4] hf (by simp [h1,h2,h3,h4]) h
variable {i:Nat}
theorem Tc (i:Nat) (hi:ops.toList[i]?=some oi) (hc:(Region.noSelect ops && Region.free .any ops l i && (Region.ready .any ops l).contains i && yK ops l)=true)
  (hQ:∀ c a w,Q (.panic c) (a.put oi.dst v) w->Q (.panic c) a w) (hy:Yields P ops oi v a) {a':Act} (ha:a.put oi.dst v=a')
  (h:jT P ops Q late G n (l.setIfInBounds i true) a' w):jT P ops Q late G (n+1) l a w:=
 fK (by rw [<-ahC];exact hi) hc hQ hy (by rw [ha];exact h)
theorem gJ (i:Nat) (hi:ops.toList[i]?=some oi) (hc:(Region.noSelect ops && Region.free .any ops l i && (Region.ready .any ops l).contains i && QX ops late i && yK ops l)=true)
  (hQ:∀ c a w,Q (.panic c) (a.put oi.dst v) w->Q (.panic c) a w) (hy:YieldsIf P ops G oi v a) (hG:G w) {a':Act} (ha:a.put oi.dst v=a')
  (h:jT P ops Q late G n (l.setIfInBounds i true) a' w):jT P ops Q late G (n+1) l a w:=
 qY (by rw [<-ahC];exact hi) hc hQ hy hG (by rw [ha];exact h)
theorem cZ (i:Nat) (hi:ops.toList[i]?=some oi) (hr:Region.ready .any ops l=[i])
  (h:∀ K:Act->World->Prop,(∀ a' w',keeps late G i w w'->jT P ops Q late G n (l.setIfInBounds i true) a' w'->K a' w') ->
   if Region.wanted oi (yielded ops a.tmps)=true then Oper.wp P oi a w K Q else K (a.put oi.dst undef) w):jT P ops Q late G (n+1) l a w:=
 qX (by rw [<-ahC];exact hi) hr h
end
def qJ (P:Program) (t e:TypeId) (sz dF:Nat):Bool:=
 (match P.underlying t with|some (.slice e')=>e'==e|_=>false) &&
 (match P.info? e with
  |some i=>i.size==sz && i.bytes==dF && (match i.zero with|some z=>z.cells.size==sz|none=>false) && decide (0<sz)
  |none=>false)
theorem yZ (h:qJ P t e sz dF=true):P.underlying t=some (.slice e)/\∃ i z,P.info? e=some i/\i.zero=some z/\i.size=sz/\i.bytes=dF/\z.cells.size=sz/\0<sz:=by
 unfold qJ at h;rw [aeW]at h;obtain ⟨h1,h2⟩:=h;constructor
 ·split at h1
  ·rename_i e' he;rw [he];congr 2;simpa using h1
  ·cases h1
 ·split at h2
  ·rename_i i hi;simp only [aeW,ako,ad5]at h2;obtain ⟨⟨⟨a1,a2⟩,a3⟩,a4⟩:=h2;split at a3
   ·rename_i z hz;exact ⟨i,z,hi,hz,a1,a2,by simpa using a3,a4⟩
   ·cases a3
  ·cases h2
theorem ag4 (cs zs:Array Value) (h:zs.size=cs.size):cs.zipIdx.foldl (λacc (x:Value×Nat)=>acc.setIfInBounds (0+x.2) x.1) zs=cs:=by
 have key:∀ (k:Nat) (l:List Value) (acc:Array Value),acc.size=k+l.length->(∀ j,j<k->acc[j]?=cs[j]?)->(∀ j,l[j]?=cs[k+j]?)->k+l.length=cs.size ->
   (l.zipIdx k).foldl (λacc (x:Value×Nat)=>acc.setIfInBounds (0+x.2) x.1) acc=cs:=by
  intro k l
  induction l generalizing k with
  |nil=>
   intro acc h1 h2 _ h4;simp only [List.zipIdx_nil,List.foldl_nil];simp only [ae0,aml]at h1 h4;apply Array.ext_getElem?;intro j;by_cases hj:j<k
   ·exact h2 j hj
   ·rw [apr oQ,apr oQ]
  |cons v l ih=>
   intro acc h1 h2 h3 h4;simp only [List.zipIdx_cons,List.foldl_cons];simp only [aev]at h1 h4;rw [aeE k];refine ih (k+1) (acc.setIfInBounds k v) (by rw [apC];omega) ?_ ?_ oQ
   ·intro j hj;by_cases hjk:j=k
    ·subst hjk;have:=h3 0;simp only [List.getElem?_cons_zero,aml]at this;rw [<-this,Array.getElem?_setIfInBounds_self_of_lt oQ]
    ·rw [Array.getElem?_setIfInBounds_ne oQ];exact h2 j oQ
   ·intro j;have:=h3 (j+1);rw [aoL]at this;rw [this]
    congr 1
    omega
 have:=key 0 cs.toList zs yL0 (λj hj=>absurd hj (Nat.not_lt_zero j)) (λj=>by simp) yF0
 conv=>rhs;rw [<-this]
 rw [<-Array.foldl_toList,Array.toList_zipIdx]
theorem ab7 (hb:qJ P t e sz dF=true) (hsz:v.cells.size=sz) (hle:sz<=16777216) (w:World) :
  (Instr.buildSlice t 1 #[(0,v)]).run P w=.ok (.slice (some ⟨w.heap.size,0,none⟩) 1 1) (w.alloc (.cells v.cells e)):=by
 obtain ⟨hu,i,z,hi,hz,h1,h2,h3,h4⟩:=yZ hb;subst h1;have hzv:(zeroValue e).run P w=.ok z w:=by simp [zeroValue,typeInfo,hi,hz]
 have hsz':(sizeOf e).run P w=.ok i.size w:=by simp [sizeOf,typeInfo,hi]
 have hnz:¬ (1*i.size=0):=by omega
 have hle':¬ (1*i.size>2^24):=by omega
 unfold Instr.buildSlice;simp only [aed,agu hu,adW,hsz',abL hle',abL hnz,hzv,aep];have hf:Instr.fill (λi'=>some (i'*i.size,i.size)) ((Array.range (1*i.size)).map (z.cells[· % z.cells.size]!)) [(0,v)]=some v.cells:=by
  have hs1:((Array.range (1*i.size)).map (z.cells[· % z.cells.size]!)).size=v.cells.size:=by simp [hsz]
  unfold Instr.fill;simp only [Nat.zero_mul];have hc:¬ ((v.cells.size≠i.size || 0+v.cells.size>((Array.range (1*i.size)).map (z.cells[· % z.cells.size]!)).size)=true):=by
   rw [hs1];simp [hsz]
  simp only [abL hc];unfold Instr.fill
  congr 1
  exact ag4 _ _ hs1
 simp only [hf];simp [newRow,go_sem]
theorem jg (hb:qJ P ty e sz dF=true) (hs:Sat w0 w L) (hy:a.eval x=v) (hcs:v.cells=cs) (hsz:cs.size=sz) (hle:sz<=16777216)
  (hK:∀ b w',Sat w0 w' (pt b (.cells cs e (0,0))::L)->wpList P ops Q rest (a.put dst (.slice (some ⟨b,0,none⟩) 1 1)) w'):wpList P ops Q (⟨dst,.buildSlice ty 1 #[(0,x)],t,pos,after,none⟩::rest) a w:=by
 subst hcs;refine ae5 rfl λ_ hK'=>?_;have hS:=hs.alloc (.cells v.cells e);unfold Oper.wp execOp;simp only [hy,ahS,aes,ah3,aed,aep,ab7 hb hsz hle w,adW];exact hK' _ _ (hK _ _ hS)
theorem anW (e:TypeId) (sz dF:Nat) (hb:qJ P ty e sz dF=true) (hs:Sat w0 w L) (hv:a.eval s=v) (hy:a.eval y=.slice (some ⟨b,0,none⟩) n c){R2:List aF} (p:Pick (aC e sz v xs) L R) (p2:Pick (pt b (.cells cs T (0,0))) R R2)
  (hn:cs.size=n*sz) (h0:0<n) (h1:cs.toList.all (·.oneCell')=true) (h63:xs.length+cs.size<=maxLen) (hby:(xs.length+cs.size)*dF<=140737488355328)
  (hK:∀ b' n' c' w',Sat w0 w' (aC e sz (.slice (some ⟨b',0,none⟩) n' c') (xs++cs.toList)::R2)->wpList P ops Q rest (a.put dst (.slice (some ⟨b',0,none⟩) n' c')) w') :
  wpList P ops Q (⟨dst,.call { callee:= .builtin .append,args:=#[s,y],argTypes:=#[ty,ty] },t,pos,after,none⟩::rest) a w:=by
 obtain ⟨hu,i,z,hi,hz,e1,e2,e3,e4⟩:=yZ hb;subst e2;have hne:xs++cs.toList≠[]:=by
  intro h;have:=aeO List.length h;simp only [aa7,ad6,ae0]at this;have:0<n*sz:=Nat.mul_pos h0 e4;omega
 have hrd:aW sz (.slice (some ⟨b,0,none⟩) n c) cs.toList w:=⟨_,n,c,rfl,by simpa using hn,λj x hj=>⟨_,rfl,by
  rw [sO];exact ((hs.pick p).pick (aU p2)).cellAt j x yX0⟩⟩
 refine Ah (w0:=w0) rfl s y ty rfl e i z hu hi hz e1 e3 e4 hv hy (λu hu=>(agt.1 h1) u hu) (hs.pick p) hrd (by simpa using h63) (by simpa using hby) ?_;intro v' w' hS hv';obtain ⟨b',n',c',rfl⟩:=hv' hne;exact hK b' n' c' w' (hS.pick (aU p2)).drop
theorem jF (e:TypeId) (sz dF:Nat) (hb:qJ P ty e sz dF=true) (hs:Sat w0 w L) (hv:a.eval s=v) (hy:a.eval y=.slice (some ⟨b,0,none⟩) n c){R2:List aF} (p:Pick (aC e sz v xs) L R) (p2:Pick (pt b (.cells cs T (0,0))) R R2)
  (hn:cs.size=n*sz) (h0:1<=n) (h1:cs.toList.all (·.oneCell')=true) (h63:xs.length<=2147483648) (h64:cs.size<=65536) (hby:dF<=65000) (hys:cs.toList=ys)
  (hK:∀ b' n' c' w',Sat w0 w' (aC e sz (.slice (some ⟨b',0,none⟩) n' c') (xs++ys)::R2)->wpList P ops Q rest (a.put dst (.slice (some ⟨b',0,none⟩) n' c')) w') :
  wpList P ops Q (⟨dst,.call { callee:= .builtin .append,args:=#[s,y],argTypes:=#[ty,ty] },t,pos,after,none⟩::rest) a w:=by
 subst hys;refine anW e sz dF hb hs hv hy p p2 hn h0 h1 zG0 ?_ hK
 calc (xs.length+cs.size)*dF<=(2147483648+65536)*65000:=apu oQ hby
  _<=140737488355328:=by decide
end
end Go.Proofs.Y
namespace Go.Sl
open Go
section
variable {w0 w:World}{A:aF}{L M R:List aF}
theorem bK (p:Pick A L R:=by first|((repeat (first|with_reducible apply aK|with_reducible apply aU));done)|((repeat (first|apply aK|apply aU));done)|fail):Pick A L R:=p
theorem jS (p:Sub L M:=by repeat (first|(with_reducible apply iY)|((with_reducible apply dA);(· first|((repeat (first|with_reducible apply aK|with_reducible apply aU));done)|((repeat (first|apply aK|apply aU));done)|fail))|(with_reducible apply lg))):Sub L M:=p
theorem Sat.pk (h:Sat w0 w L) (p:Pick A L R:=by first|((repeat (first|with_reducible apply aK|with_reducible apply aU));done)|((repeat (first|apply aK|apply aU));done)|fail):Sat w0 w (A::R):=h.pick p
theorem Sat.sb (h:Sat w0 w L) (p:Sub L M:=by repeat (first|(with_reducible apply iY)|((with_reducible apply dA);(· first|((repeat (first|with_reducible apply aK|with_reducible apply aU));done)|((repeat (first|apply aK|apply aU));done)|fail))|(with_reducible apply lg))):Sat w0 w M:=h.sub p
theorem Ro.op {p:World->Prop} (h:Ro w0 (A::R) p) (k:Pick A L R:=by first|((repeat (first|with_reducible apply aK|with_reducible apply aU));done)|((repeat (first|apply aK|apply aU));done)|fail):Ro w0 L p:=h.zM k
theorem Ro.os {p:World->Prop} (h:Ro w0 M p) (k:Sub L M:=by repeat (first|(with_reducible apply iY)|((with_reducible apply dA);(· first|((repeat (first|with_reducible apply aK|with_reducible apply aU));done)|((repeat (first|apply aK|apply aU));done)|fail))|(with_reducible apply lg))):Ro w0 L p:=h.of_sub k
end
end Go.Sl
namespace Go.Proofs.Y
open Go.ak
theorem rp (i:Nat) (hi:ops.toList[i]?=some oi:=by conv=>lhs;whnf) (hc:(Region.noSelect ops && Region.free .any ops l i && (Region.ready .any ops l).contains i && yK ops l)=true:=by kernel_rfl)
  (hQ:∀ c a w,Q (.panic c) (a.put oi.dst v) w->Q (.panic c) a w:=by intro _ _ _ h;exact h) (hy:Yields P ops oi v a) {a':Act} (ha:a.put oi.dst v=a':=by go_frame;first|done|rfl)
  (h:jT P ops Q late G n (l.setIfInBounds i true) a' w):jT P ops Q late G (n+1) l a w:=Tc i hi hc hQ hy ha h
theorem rt (i:Nat) (hi:ops.toList[i]?=some oi:=by conv=>lhs;whnf) (hc:(Region.noSelect ops && Region.free .any ops l i && (Region.ready .any ops l).contains i && QX ops late i && yK ops l)=true:=by kernel_rfl)
  (hQ:∀ c a w,Q (.panic c) (a.put oi.dst v) w->Q (.panic c) a w:=by intro _ _ _ h;exact h) (hy:YieldsIf P ops G oi v a:=by first|exact acX (by conv=>lhs;whnf) au yC0|(refine Or.inl ⟨by rfl,?_⟩;(intro wq hq;go_split_ands;go_simp);first|done|(with_reducible rfl))) (hG:G w:=by assumption) {a':Act} (ha:a.put oi.dst v=a':=by go_frame;first|done|rfl)
  (h:jT P ops Q late G n (l.setIfInBounds i true) a' w):jT P ops Q late G (n+1) l a w:=gJ i hi hc hQ hy hG ha h
end Go.Proofs.Y
namespace Go.Sl
open Go
theorem gZ {A B:aF}{L M:List aF} (p:pF A B L M:=by first|((repeat (first|with_reducible apply bU|with_reducible apply lN));done)|((repeat (first|apply bU|apply lN));done)|fail):pF A B L M:=p
theorem ay {α:Sort _}{a b:α} (h:a=b:=by conv=>lhs;whnf):a=b:=h
theorem bY {α:Type}{P:Program}{s:Sem α}{v:α} (h:∀ w,s.run P w=.ok v w:=by ((intro wq;go_simp);first|done|(with_reducible rfl))):∀ w,s.run P w=.ok v w:=h
end Go.Sl
namespace Go.Proofs.Y
open Go.ak
section
variable {t:TypeId}{pos:String}{x:Operand}{g:Option (Nat×Bool)}
theorem bD (hx:a.eval x=v:=by conv=>lhs;whnf):Yields P ops ⟨dst,.move x,t,pos,after,none⟩ v a:=aoo hx
theorem dh (hx:a.eval x=vx:=by conv=>lhs;whnf) (hr:∀ w,(Instr.fieldAt ty vx fl).run P w=.ok v w:=by ((intro wq;go_simp);first|done|(with_reducible rfl))):Yields P ops ⟨dst,.fieldAddr ty x fl,t,pos,after,none⟩ v a:=aom hx hr
theorem iG (hx:a.eval x=.pointer (some ad):=by conv=>lhs;whnf):Yields P ops ⟨dst,.nilCheck x,t,pos,after,none⟩ (.pointer (some ad)) a:=aop hx
theorem iV (hx:a.eval x=vx:=by conv=>lhs;whnf) (hy:a.eval y=vy:=by conv=>lhs;whnf) (hr:∀ w,(Instr.indexAt ty vx vy).run P w=.ok v w:=by ((intro wq;go_simp);first|done|(with_reducible rfl))):Yields P ops ⟨dst,.indexAddr ty x y,t,pos,after,none⟩ v a:=aon hx hy hr
theorem jU (hx:a.eval x=v:=by conv=>lhs;whnf):Yields P ops ⟨dst,.assign x,t,pos,after,none⟩ v a:=aok hx
theorem lZ (hx:a.eval x=vx:=by conv=>lhs;whnf) (hy:a.eval y=vy:=by conv=>lhs;whnf) (hr:∀ w,((do eqGuard bo ty x y vx vy;binOp bo ty vx vy):Sem Value).run P w=.ok v w:=by ((intro wq;go_simp);first|done|(with_reducible rfl))):Yields P ops ⟨dst,.binOp bo ty x y tz,t,pos,after,none⟩ v a:=Dt hx hy hr
end
section
variable {a':Act}
theorem rP (i:Nat) (h:jT P ops Q late G n (l.setIfInBounds i true) a' w) (hi:ops.toList[i]?=some oi:=by conv=>lhs;whnf) (hc:(Region.noSelect ops && Region.free .any ops l i && (Region.ready .any ops l).contains i && yK ops l)=true:=by kernel_rfl) (hQ:∀ c a w,Q (.panic c) (a.put oi.dst v) w->Q (.panic c) a w:=by intro _ _ _ h;exact h) (y:Yields P ops oi v a) (ha:a.put oi.dst v=a':=by go_frame;first|done|rfl):jT P ops Q late G (n+1) l a w:=Tc i hi hc hQ y ha h
end
section
variable {t:TypeId}{pos:String}{x:Operand}{o:Nat}
end
section
variable {t:TypeId}{pos:String}{x:Operand}{o:Nat}{K:Act->World->Prop}{E:Prop}
theorem BD {op:Oper} (hg:op.guard=none) (h:Oper.wp P op a w K Q):if Region.wanted op (yielded ops a.tmps)=true then Oper.wp P op a w K Q else E:=by
 rw [adU (mZ _ hg)];exact h
theorem JJ (hb:qJ P ty e sz dF=true) (hs:Sat w0 w L) (hy:a.eval x=v) (hcs:v.cells=cs) (hsz:cs.size=sz) (hle:sz<=16777216)
  (hK:∀ b w',Sat w0 w' (pt b (.cells cs e (0,0))::L)->K (a.put dst (.slice (some ⟨b,0,none⟩) 1 1)) w') :
  if Region.wanted ⟨dst,.buildSlice ty 1 #[(0,x)],t,pos,after,none⟩ (yielded ops a.tmps)=true then Oper.wp P ⟨dst,.buildSlice ty 1 #[(0,x)],t,pos,after,none⟩ a w K Q else E:=by
 subst hcs;refine BD rfl ?_;have hS:=hs.alloc (.cells v.cells e);unfold Oper.wp execOp;simp only [hy,ahS,aes,ah3,aed,aep,ab7 hb hsz hle w,adW];exact hK _ _ hS
theorem JI (e:TypeId) (sz dF:Nat) (hb:qJ P ty e sz dF=true) (hs:Sat w0 w L) (hv:a.eval s=v) (hy:a.eval y=.slice (some ⟨b,0,none⟩) n c){R2:List aF} (p:Pick (aC e sz v xs) L R) (p2:Pick (pt b (.cells cs T (0,0))) R R2)
  (hn:cs.size=n*sz) (h0:1<=n) (h1:cs.toList.all (·.oneCell')=true) (h63:xs.length<=2147483648) (h64:cs.size<=65536) (hby:dF<=65000) (hys:cs.toList=ys)
  (hK:∀ b' n' c' w',Sat w0 w' (aC e sz (.slice (some ⟨b',0,none⟩) n' c') (xs++ys)::R2)->K (a.put dst (.slice (some ⟨b',0,none⟩) n' c')) w') :
  if Region.wanted ⟨dst,.call { callee:= .builtin .append,args:=#[s,y],argTypes:=#[ty,ty] },t,pos,after,none⟩ (yielded ops a.tmps)=true then
   Oper.wp P ⟨dst,.call { callee:= .builtin .append,args:=#[s,y],argTypes:=#[ty,ty] },t,pos,after,none⟩ a w K Q else E:=by
 refine BD rfl ?_;subst hys;obtain ⟨hu,i,z,hi,hz,e1,e2,e3,e4⟩:=yZ hb;subst e2;have hne:xs++cs.toList≠[]:=by
  intro h;have:=aeO List.length h;simp only [aa7,ad6,ae0]at this;have:0<n*sz:=Nat.mul_pos h0 e4;omega
 have hrd:aW sz (.slice (some ⟨b,0,none⟩) n c) cs.toList w:=⟨_,n,c,rfl,by simpa using hn,λj x hj=>⟨_,rfl,by
  rw [sO];exact ((hs.pick p).pick (aU p2)).cellAt j x yX0⟩⟩
 have hcl:cs.toList.length=cs.size:=ad6;have h63':xs.length+cs.toList.length<=maxLen:=by rw [hcl];unfold maxLen;omega
 have Eh:(xs.length+cs.toList.length)*i.bytes<=140737488355328:=by
  rw [hcl];exact adT (apu (show xs.length+cs.size<=2147483648+65536 by omega) hby) aG
 refine U0 (w0:=w0) s y ty rfl e i z hu hi hz e1 e3 e4 hv hy (λu hu=>(agt.1 h1) u hu) (hs.pick p) hrd h63' Eh ?_;intro v' w' hS hv';obtain ⟨b',n',c',rfl⟩:=hv' hne;exact hK b' n' c' w' (hS.pick (aU p2)).drop
def tH (P:Program) (t:TypeId):Option (List (Nat×Nat)):=match P.underlying t with
 |some (.struct fields)=>fields.toList.mapM λf=>(P.info? f.type).map λi=>(f.offset,i.size)
 |_=>none
theorem run_places (fields:List Field):∀ (pl:List (Nat×Nat)),(fields.mapM λf=>(P.info? f.type).map λi=>(f.offset,i.size))=some pl ->
  ((fields.mapM λf=>do pure (f.offset,<-sizeOf f.type)):Sem (List (Nat×Nat))).run P w=.ok pl w:=by
 induction fields with
 |nil=>intro pl h;cases h;rfl
 |cons f fields ih=>
  intro pl h;rw [List.mapM_cons]at h ⊢;cases hi:P.info? f.type with
  |none=>simp [hi]at h
  |some i=>
   rw [hi]at h;simp only [aiM,Option.bind_eq_bind,Option.bind_some,Option.bind_eq_some_iff,Option.pure_def,Option.some.injEq]at h;obtain ⟨pl',h1,rfl⟩:=h;have hs:(sizeOf f.type).run P w=.ok i.size w:=by simp [sizeOf,typeInfo,hi]
   simp only [aed,hs,adW,aep,ih pl' h1]
def Ii (pl:List (Nat×Nat)):Array Value->List (Nat×Value)->Array Value
 |cs,[]=>cs
 |cs,(i,v)::r=>Ii pl (eH cs (pl.getD i (0,0)).1 v.cells.toList) r
theorem P5:∀ (vs:List Value) (k:Nat) (off:Nat) (cs:Array Value),(vs.zipIdx k).foldl (λcs (x:Value×Nat)=>cs.setIfInBounds (off+x.2) x.1) cs=eH cs (off+k) vs
 |[],_,_,_=>rfl
 |v::vs,k,off,cs=>by
  rw [List.zipIdx_cons,List.foldl_cons,P5 vs (k+1) off];rfl
theorem X8 (pl:List (Nat×Nat)):∀ (parts:List (Nat×Value)) (cs:Array Value),(∀ p∈parts,∃ off,pl[p.1]?=some (off,p.2.cells.size)/\off+p.2.cells.size<=cs.size) ->
  Instr.fill (pl.toArray[·]?) cs parts=some (Ii pl cs parts)
 |[],_,_=>rfl
 |(i,v)::r,cs,h=>by
  obtain ⟨off,h1,h2⟩:=h _ (.head _);unfold Instr.fill;have hp:pl.toArray[i]?=some (off,v.cells.size):=by simpa using h1
  simp only [hp];have hc:¬ ((v.cells.size≠v.cells.size || off+v.cells.size>cs.size)=true):=by simp;omega
  rw [abL hc];have hf:v.cells.zipIdx.foldl (λcs (c,j)=>cs.setIfInBounds (off+j) c) cs=eH cs off v.cells.toList:=by
   rw [<-Array.foldl_toList,Array.toList_zipIdx];exact P5 _ 0 off cs
  rw [hf,X8 pl r _ (λp hp=>by
   obtain ⟨o,q1,q2⟩:=h p (.tail _ hp);exact ⟨o,q1,by rw [lC];exact q2⟩)]
  have hg:(pl.getD i (0,0)).1=off:=by rw [adV,h1];rfl
  simp only [Ii,hg]
theorem apA {z:Value}{pl:List (Nat×Nat)} (parts:List (Nat×Value)) (hp:tH P t=some pl) (hz:kD P t=some z)
  (hfit:∀ p∈parts,∃ off,pl[p.1]?=some (off,p.2.cells.size)/\off+p.2.cells.size<=z.cells.size) (w:World) :
  (Instr.build t parts.toArray).run P w=.ok (.agg (Ii pl z.cells parts)) w:=by
 unfold tH at hp;split at hp
 ·rename_i fields hu;have hm:((fields.mapM λf=>do pure (f.offset,<-sizeOf f.type)):Sem (Array (Nat×Nat))).run P w=.ok pl.toArray w:=by
   rw [Array.mapM_eq_mapM_toList];rw [map_eq_pure_bind,aed,run_places fields.toList pl hp]
   rfl
  unfold Instr.build;simp only [aed,LZ hz w,adW,agu hu,hm,X8 pl parts z.cells hfit,aep]
 ·cases hp
theorem I5 {i1 i2 i3:Nat}{x1 x2 x3:Operand}{v1 v2 v3:Value} (h1:a.eval x1=v1) (h2:a.eval x2=v2) (h3:a.eval x3=v3) (hr:∀ w,(Instr.build ty #[(i1,v1),(i2,v2),(i3,v3)]).run P w=.ok v w) :
  Yields P ops ⟨dst,.build ty #[(i1,x1),(i2,x2),(i3,x3)],t,pos,after,none⟩ v a:=
 .inl ⟨mZ _ rfl,λw=>by
  simp only [execOp,ahS,aes,ah3,h1,h2,h3,aed,hr,adW,aep]⟩
theorem lM {G:World->Prop}{o:Nat} (ks:List Value) (hx:a.eval x=.pointer (some ⟨b,o,none⟩)){d:TypeDesc} (hu:P.underlying ty=some d) (hd:d.isRow=true) (hi:(P.info? ty).map (·.size)=some ks.length) (hG:∀ w,G w->w.rangeAt b o ks) :
  YieldsIf P ops G ⟨dst,.load ty x,t,pos,after,none⟩ (.agg ks.toArray) a:=
 yieldsIf_load_mid (mZ _ rfl) ty x rfl b o hx ks d hG hu hd hi
end
theorem oJ {a:Option Addr}{n c:Nat}{xs:List Value} (h:aW sz (.slice a n c) xs w){i:Nat}{x:Value} (hi:xs[i]?=some x) :
  ∃ bk off,a=some ⟨bk,off,none⟩/\∀ j y,xs[j]?=some y->w.cell? ⟨bk,off+j,none⟩=some y:=by
 obtain ⟨a',n',c',he,hl,hx⟩:=h;cases he;obtain ⟨b,rfl,hc⟩:=hx i x hi;have hlt:i<xs.length:=(acZ.1 hi).1;obtain ⟨y,hy⟩:∃ y,xs[0]?=some y:=⟨xs[0]'oQ,aaJ _⟩;obtain ⟨b',hb',hc0⟩:=hx 0 y hy;cases hb';obtain ⟨bk,off,spot⟩:=b;have hs:spot=none:=by simpa [Addr.add] using World.cell?_spot hc0
 subst hs;refine ⟨bk,off,rfl,λj y hj=>?_⟩;obtain ⟨b'',ahK,hcj⟩:=hx j y hj;cases ahK;rw [Addr.add_mid]at hcj;exact hcj
def kR (es:List (aj.aJ×Value)):List Value:=es.flatMap λp=>jd p.1 p.2
def uI (es:List (aj.aJ×Value)):aF:=stars (es.map λp=>aY p.2 p.1.data)
theorem wF (x:aj.aJ) (dv:Value) (hk:x.key.length=32):(jd x dv).length=34:=by simp [jd,aB,hk]
theorem XW {es:List (aj.aJ×Value)} (hk:∀ p∈es,p.1.key.length=32):(kR es).length=34*es.length:=by
 unfold kR
 induction es with
 |nil=>rfl
 |cons p es ih=>
  rw [aen,aa7,ih (λq hq=>hk q (.tail _ hq)),wF _ _ (hk p (.head _)),aev];omega
theorem agY (es fs:List (aj.aJ×Value)):kR (es++fs)=kR es++kR fs:=by unfold kR;rw [aeB]
theorem Gg {es:List (aj.aJ×Value)} (hk:∀ p∈es,p.1.key.length=32){i:Nat}{p:aj.aJ×Value} (hi:es[i]?=some p){j:Nat}{y:Value} (hj:(jd p.1 p.2)[j]?=some y):(kR es)[i*34+j]?=some y:=by
 induction es generalizing i with
 |nil=>simp at hi
 |cons q es ih=>
  have hq:=wF q.1 q.2 (hk q (.head _));have e:kR (q::es)=jd q.1 q.2++kR es:=rfl;cases i with
  |zero=>
   obtain rfl:q=p:=by simpa using hi
   have hjl:=(acZ.1 hj).1;rw [e,Nat.zero_mul,aeE,aek hjl];exact hj
  |succ i=>
   rw [e,aew oQ,hq,show (i+1)*34+j-34=i*34+j by omega];exact ih (λr hr=>hk r (.tail _ hr)) (by simpa using hi)
theorem PN (x:aj.aJ) (dv:Value):(jd x dv)[0]?=some (.int .i64 x.tag):=rfl
theorem XT (x:aj.aJ) (dv:Value){j:Nat}{y:Value} (h:(aB x.key)[j]?=some y):(jd x dv)[1+j]?=some y:=by
 unfold jd;rw [apX,aoL,aek (acZ.1 h).1];exact h
theorem XR (x:aj.aJ) (dv:Value) (hk:x.key.length=32):(jd x dv)[33]?=some dv:=by
 unfold jd;rw [aoL,aew (by rw [aP];omega),aP,hk];rfl
theorem SB:tH prog 71=some [(0,1),(1,32),(33,1)]:=by kernel_rfl
def Ak:Value:= .agg (bV aj.zeroE (.slice none 0 0))
theorem EZ:kD prog 71=some Ak:=by kernel_rfl
theorem akK (cs:Array Value) (hs:cs.size=34) (u dv:Value) (kl:List Value) (hk:kl.length=32):(eH (eH (eH cs 0 [u]) 1 kl) 33 [dv]).toList=u::(kl++[dv]):=by
 have hcl:cs.toList.length=34:=by simpa using hs
 rw [mV _ _ _ (by rw [lC,lC];simp;omega),mV _ _ _ (by rw [lC];omega),mV _ _ _ yT0];simp only [afC,aeV,ae3,aeE];rw [List.singleton_append,List.take_succ_cons,afC,hk,show 1+32=32+1 by omega,apK,apD];have h1:([u]++kl++cs.toList.drop (1+32)).length=34:=by simp [hk,hcl]
 rw [aeT (by simp [hk]),adZ (by simp [hk]),aeI oQ];simp
theorem rY {cs ds:Array Value} (h:cs.toList=ds.toList):cs=ds:=Array.toList_inj.1 h
theorem alU (e:aj.aJ) (hk:e.key.length=32) (da:Option Addr) (dn dc:Nat) (w:World) :
  (Instr.build 71 #[(0,.int .i64 e.tag),(1,.agg (aB e.key).toArray),(2,.slice da dn dc)]).run prog w=.ok (.agg (bV e (.slice da dn dc))) w:=by
 have hz:(bV aj.zeroE (.slice none 0 0)).size=34:=dJ _ _ rfl;have hks:(aB e.key).toArray.size=32:=by simp [aB,hk]
 have h:=apA (P:=prog) [(0,.int .i64 e.tag),(1,.agg (aB e.key).toArray),(2,.slice da dn dc)] SB EZ (by
  intro p hp;simp only [ad9,aiR,apW]at hp;have hzz:Ak.cells.size=34:=hz;rw [hzz];rcases hp with rfl|rfl|rfl
  ·exact ⟨0,rfl,by show 0+1<=34;omega⟩
  ·refine ⟨1,?_,?_⟩
   ·show some (1,32)=some (1,(aB e.key).toArray.size);rw [hks]
   ·show 1+(aB e.key).toArray.size<=34;rw [hks];omega
  ·exact ⟨33,rfl,by show 33+1<=34;omega⟩) w
 refine h.trans ?_
 congr 2
 apply rY;exact akK _ hz _ _ _ (show (aB e.key).toArray.toList.length=32 by rw [ad7,aP,hk])
theorem abk (cs:Array Value) (vs:List Value) (h:vs.length=cs.size):eH cs 0 vs=vs.toArray:=by
 apply rY;rw [mV _ _ _ oQ,afC,aeV,aeI yT0,aei,ad7]
section
variable {t:TypeId}{pos:String}{x:Operand}{e:aj.aJ}
theorem agW (e:aj.aJ) (a:Option Addr) (n c:Nat):(bV e (.slice a n c)).all (·.oneCell')=true:=by
 rw [<-Array.all_toList];unfold bV jd;rw [ad7,List.all_cons,ajk];have:(aB e.key).all (·.oneCell')=true:=agt.2 (vK _);rw [this];rfl
theorem yw:(prog.info? 71).map (·.size)=some 34:=by kernel_rfl
theorem jO (hs:Sat w0 w L) (hx:a.eval x=.pointer (some ⟨b,0,none⟩)) (hy:a.eval y=.agg (bV e (.slice da dn dc))) (hk:e.key.length=32) (u:pF (pt b (.cells cs T (0,0))) (pt b (.cells (bV e (.slice da dn dc)) T (0,0))) L L') (hcs:cs.size=34)
  (hK:∀ w',Sat w0 w' L'->wpList prog ops Q rest (a.put dst undef) w'):wpList prog ops Q (⟨dst,.store 71 x y,t,pos,after,none⟩::rest) a w:=by
 obtain ⟨R',h2,h3⟩:=u;have hz:=dJ e (.slice da dn dc) hk;refine EX (w0:=w0) rfl 71 x y rfl 0 (.agg (bV e (.slice da dn dc))) hx hy (show 0+(bV e (.slice da dn dc)).size<=cs.size by omega) (show _=some (bV e (.slice da dn dc)).size by rw [hz];exact yw) (agW _ _ _ _) (hs.perm h2) λw' hS=>hK w' ?_;have he:eH cs 0 (Value.agg (bV e (.slice da dn dc))).cells.toList=bV e (.slice da dn dc):=by
  show eH cs 0 (bV e (.slice da dn dc)).toList=_;rw [abk _ _ yT0]
 rw [he]at hS;exact hS.perm h3.symm
theorem Dn (hs:Sat w0 w L) (hx:a.eval x=.pointer (some ⟨b,0,none⟩)) (p:Pick (pt b (.cells (bV e (.slice da dn dc)) T (0,0))) L R) (hk:e.key.length=32)
  (h:wpList prog ops Q rest (a.put dst (.agg (bV e (.slice da dn dc)))) w):wpList prog ops Q (⟨dst,.load 71 x,t,pos,after,none⟩::rest) a w:=
 iC hs hx p underlying71 rfl (by rw [dJ e _ hk];exact yw) h
theorem ql (h:Stop (wpList prog ops Q (⟨dst,.store 71 x y,t,pos,after,none⟩::rest) a w)):wpList prog ops Q (⟨dst,.store 71 x y,t,pos,after,none⟩::rest) a w:=h.o
theorem Bh (h:Stop (wpList prog ops Q (⟨dst,.load 71 x,t,pos,after,none⟩::rest) a w)):wpList prog ops Q (⟨dst,.load 71 x,t,pos,after,none⟩::rest) a w:=h.o
theorem amj (w:World):(Instr.build 71 #[]).run prog w=.ok Ak w:=apA (P:=prog) [] SB EZ yF0 w
theorem tX (hs:Sat w0 w L) (hK:∀ b w',Sat w0 w' (pt b (.cells (bV aj.zeroE (.slice none 0 0)) 71 (0,0))::L)->wpList prog ops Q rest (a.put dst (.pointer (some ⟨b,0,none⟩))) w') :
  wpList prog ops Q (⟨dst,.alloc 71,t,pos,after,none⟩::rest) a w:=eU EZ hs rfl hK
theorem yM (hs:Sat w0 w L) (hy:a.eval y=.agg (bV e (.slice da dn dc))) (hK:∀ b w',Sat w0 w' (pt b (.cells (bV e (.slice da dn dc)) 71 (0,0))::L)->wpList prog ops Q rest (a.put dst (.pointer (some ⟨b,0,none⟩))) w') :
  wpList prog ops Q (⟨dst,.box 71 y,t,pos,after,none⟩::rest) a w:=fB hs hy rfl hK
theorem xQ (h:Stop (wpList prog ops Q (⟨dst,.box 71 y,t,pos,after,none⟩::rest) a w)):wpList prog ops Q (⟨dst,.box 71 y,t,pos,after,none⟩::rest) a w:=h.o
theorem sS (h:Stop (wpList prog ops Q (⟨dst,.alloc 71,t,pos,after,none⟩::rest) a w)):wpList prog ops Q (⟨dst,.alloc 71,t,pos,after,none⟩::rest) a w:=h.o
theorem Il {fn:Func}{p u:Tmp}{tmps:Array Value} (hf:fn.results=#[.cell p 71,.tmp u]) (hs:Sat w0 w L) (hp:tmps.getD p undef=.pointer (some ⟨b,0,none⟩)) (k:Pick (pt b (.cells (bV e (.slice da dn dc)) T (0,0))) L R) (hk:e.key.length=32) :
  (results fn tmps).run prog w=.ok (.tuple #[.agg (bV e (.slice da dn dc)),tmps.getD u undef]) w:=
 SY hf hs hp k underlying71 rfl (by rw [dJ e _ hk];exact yw)
end
end Go.Proofs.Y
namespace Go.aj
theorem RY (l:Bs) (c:UInt8):num (l++[c])=num l+c.toNat*256^l.length:=by
 induction l with
 |nil=>show c.toNat+256*0=0+c.toNat*1;omega
 |cons d l ih=>
  show d.toNat+256*num (l++[c])=d.toNat+256*num l+c.toNat*256^(l.length+1);rw [ih,apt,Nat.mul_add,<-Nat.mul_assoc,aiS 256 (c.toNat),Nat.mul_assoc,aiS 256 (256^l.length),<-apq]
end Go.aj
namespace Go.Proofs.Y
open Go.ak
theorem Lj (l:Bs) (c:UInt8) (k:Nat) (hl:l.length=k) (hk:k<7):bits .or .u64 ((aj.num l:Nat):Int) ((c.toNat:Int)*((256^k:Nat):Int))=((aj.num (l++[c]):Nat):Int):=by
 subst hl;have h1:=aj.zL l;have h2:=c.toNat_lt;have h3:256^l.length<=256^6:=aoS aG oQ;have h4:c.toNat*256^l.length<=255*256^6:=apu oQ h3;have h5:(256:Nat)^6=281474976710656:=by decide
 have e:(c.toNat:Int)*((256^l.length:Nat):Int)=((c.toNat*256^l.length:Nat):Int):=by rw [apT]
 rw [e,u64_or_nat _ _ oQ oQ,aj.RY]
 congr 1
 have hp:(256:Nat)^l.length=2^(8*l.length):=by rw [Nat.pow_mul]
 rw [hp]at h1 ⊢;have:=Nat.two_pow_add_eq_or_of_lt h1 c.toNat;rw [Nat.or_comm,aiS c.toNat,<-this,apX]
theorem abp {k:Nat}{l:Bs}{a:Option Addr}{n c:Nat} (h:aW 1 (.slice a n c) (aB l) w):aW 1 (.slice a (min n k) c) (aB (l.take k)) w:=by
 obtain ⟨a',n',c',he,hl,hx⟩:=h;cases he;rw [aP,aeo]at hl;refine ⟨a,_,c,rfl,by rw [aP,adt];omega,λj y hj=>?_⟩;have hj':(aB l)[j]?=some y:=by
  unfold aB at hj ⊢;rw [apY,alM]at hj;split at hj
  ·exact hj
  ·cases hj
 exact hx j y hj'
theorem ahp (c0 c1 c2 c3:UInt8) (a:Option Addr) (c:Nat) (h:aW 1 (.slice a 4 c) (aB [c0,c1,c2,c3]) w) :
  Calls prog 227 #[.slice a 4 c] w (aN λv w'=>v=.tuple #[.int .u64 (aj.num [c0,c1,c2,c3]:Nat),.bool true]/\w=w'):=by
 obtain ⟨bk,off,rfl,hc⟩:=oJ h (i:=0) rfl;have e0:w.cell? ⟨bk,off,none⟩=some (.int .u8 c0.toNat):=hc 0 _ rfl;have e1:w.cell? ⟨bk,off+1,none⟩=some (.int .u8 c1.toNat):=hc 1 _ rfl;have e2:w.cell? ⟨bk,off+2,none⟩=some (.int .u8 c2.toNat):=hc 2 _ rfl;have e3:w.cell? ⟨bk,off+3,none⟩=some (.int .u8 c3.toNat):=hc 3 _ rfl;have b0:=c0.toNat_lt;have b1:=c1.toNat_lt;have b2:=c2.toNat_lt;have b3:=c3.toNat_lt;clear hc h;go_enter func227,ntmps227;go_wp2_with fail
 go_loopg [17,4] 4 (λg iq xq wr=>∃ i:Nat,g=4-i/\i<=4/\iq=.int .i64 i/\xq=.int .u64 (aj.num ([c0,c1,c2,c3].take i):Nat)/\wr=w)
 case atStart=>exact ⟨0,rfl,by omega,rfl,rfl,rfl⟩
 case round=>
  obtain ⟨i,rfl,hi,rfl,rfl,rfl⟩:=hrel;by_cases h4:i<4
  ·have h0:i=0\/i=1\/i=2\/i=3:=by omega
   clear hi h4;rcases h0 with rfl|rfl|rfl|rfl
   ·have hq:bits .or .u64 ((aj.num []:Nat):Int) (c0.toNat:Int)=((aj.num [c0]:Nat):Int):=by
     have:=Lj [] c0 0 rfl aG;simpa using this
    go_wp2_with fail
    go_roundg (4-1)
    case measure=>decide
    case rel=>exact ⟨1,rfl,by decide,by first|rfl|go_num,rfl,rfl⟩
   ·have hq:bits .or .u64 ((aj.num [c0]:Nat):Int) ((c1.toNat:Int)*256)=((aj.num [c0,c1]:Nat):Int):=Lj [c0] c1 1 rfl aG;go_wp2_with fail
    go_roundg (4-2)
    case measure=>decide
    case rel=>exact ⟨2,rfl,by decide,by first|rfl|go_num,rfl,rfl⟩
   ·have hq:bits .or .u64 ((aj.num [c0,c1]:Nat):Int) ((c2.toNat:Int)*65536)=((aj.num [c0,c1,c2]:Nat):Int):=Lj [c0,c1] c2 2 rfl aG;go_wp2_with fail
    go_roundg (4-3)
    case measure=>decide
    case rel=>exact ⟨3,rfl,by decide,by first|rfl|go_num,rfl,rfl⟩
   ·have hq:bits .or .u64 ((aj.num [c0,c1,c2]:Nat):Int) ((c3.toNat:Int)*16777216)=((aj.num [c0,c1,c2,c3]:Nat):Int):=Lj [c0,c1,c2] c3 3 rfl aG;go_wp2_with fail
    go_roundg (4-4)
    case measure=>decide
    case rel=>exact ⟨4,rfl,by decide,by first|rfl|go_num,rfl,rfl⟩
  ·obtain rfl:i=4:=by omega
   go_wp2
   go_ret2
   exact ⟨_,rfl,rfl,rfl⟩
theorem four {l:Bs} (h:l.length=4):∃ c0 c1 c2 c3,l=[c0,c1,c2,c3]:=by
 match l,h with
 |[c0,c1,c2,c3],_=>exact ⟨c0,c1,c2,c3,rfl⟩
theorem Yt (l:Bs) (hl:l.length=4) (a:Option Addr) (c:Nat) (h:aW 1 (.slice a 4 c) (aB l) w) :
  Calls prog 227 #[.slice a 4 c] w (aN λv w'=>v=.tuple #[.int .u64 (aj.num l:Nat),.bool true]/\w=w'):=by
 obtain ⟨c0,c1,c2,c3,rfl⟩:=four hl;exact ahp c0 c1 c2 c3 a c h
theorem aaR (l:Bs) (hl:4<=l.length) (a:Option Addr) (n c:Nat) (hn:n<=c) (hc:c<=9223372036854775807) (h:aW 1 (.slice a n c) (aB l) w) :
  Calls prog 184 #[.slice a n c] w (aN λv w'=>v=.int .u32 (aj.num (l.take 4):Nat)/\w=w'):=by
 have hln:n=l.length:=by
  obtain ⟨_,_,_,he,hl',_⟩:=h;cases he;rw [aP,aeo]at hl';exact hl'.symm
 have h4:=abp (k:=4) h;rw [show min n 4=4 by omega]at h4;have hg:=Yt (l.take 4) zM0 a c h4;have hlt:=aj.zL (l.take 4);rw [adt,apg hl]at hlt;have hb:(aj.num (l.take 4):Int)<4294967296:=by omega
 have hc4:(4:Int)<=(c:Int):=by omega
 generalize aj.num (l.take 4)=N at *
 clear hlt hln h4 h hl;have hw:IntKind.u32.wrap (N:Int)=(N:Int):=by rw [IntKind.wrap_u32];omega
 go_enter func184,ntmps184;go_wp2_with (go_at_call 227;refine hg.mono ?_;rintro e w1 ⟨v,rfl,rfl,rfl⟩);go_ret;exact ⟨_,rfl,rfl,rfl⟩
theorem ag9 (t:UInt8) (n:Nat) (hn:n<4294967296) (w:World) :
  Calls prog 185 #[.int .u8 t.toNat,.int .i64 n] w (aN λv w'=>v=.bool (aj.fits t n)/\w=w'):=by
 have htl:=t.toNat_lt;by_cases h0:t=0
 ·subst h0;by_cases h1:41<=n
  ·by_cases h2:n<=16425
   ·have Hf:=uQ (show aj.fits 0 n=true by unfold aj.fits;rw [adU rfl];exact aem ⟨h1,h2⟩);have c1:(41:Int)<=(n:Int):=by omega
    have c2:(n:Int)<=16425:=by omega
    clear h1 h2;go_enter func185,ntmps185;go_wp2;go_ret;rw [Hf.o];exact ⟨_,rfl,rfl,rfl⟩
   ·have Hf:=uQ (show aj.fits 0 n=false by unfold aj.fits;rw [adU rfl];exact aea oQ);have c1:(41:Int)<=(n:Int):=by omega
    have c2:decide ((n:Int)<=16425)=false:=aea oQ;clear h1 h2;go_enter func185,ntmps185;go_wp2;go_ret;rw [Hf.o];exact ⟨_,rfl,rfl,rfl⟩
  ·have Hf:=uQ (show aj.fits 0 n=false by unfold aj.fits;rw [adU rfl];exact aea oQ);have c1:decide ((41:Int)<=(n:Int))=false:=aea oQ;clear h1;go_enter func185,ntmps185;go_wp2;go_ret;rw [Hf.o];exact ⟨_,rfl,rfl,rfl⟩
 by_cases h1:t=1
 ·subst h1;have Hf:=uQ (show aj.fits 1 n=decide (n=41) by unfold aj.fits;rw [abL aG,adU rfl]);have He:=uQ (show ((n:Int)==41)=decide (n=41) by rw [aoT,ako,ad5];omega);go_enter func185,ntmps185;go_wp2;go_ret;rw [Hf.o,<-He.o];exact ⟨_,rfl,rfl,rfl⟩
 by_cases h2:t=2
 ·subst h2;have Hf:=uQ (show aj.fits 2 n=decide (n=9) by unfold aj.fits;rw [abL aG,abL aG,adU rfl]);have He:=uQ (show ((n:Int)==9)=decide (n=9) by rw [aoT,ako,ad5];omega);go_enter func185,ntmps185;go_wp2;go_ret;rw [Hf.o,<-He.o];exact ⟨_,rfl,rfl,rfl⟩
 ·have Hf:=uQ (show aj.fits t n=false by unfold aj.fits;rw [abL h0,abL h1,abL h2]);have g0:((t.toNat:Int)==0)=false:=by rw [ad3];intro h;exact h0 (UInt8.toNat_inj.1 (by rw [show (0:UInt8).toNat=0 from rfl];omega))
  have g1:((t.toNat:Int)==1)=false:=by rw [ad3];intro h;exact h1 (UInt8.toNat_inj.1 (by rw [show (1:UInt8).toNat=1 from rfl];omega))
  have g2:((t.toNat:Int)==2)=false:=by rw [ad3];intro h;exact h2 (UInt8.toNat_inj.1 (by rw [show (2:UInt8).toNat=2 from rfl];omega))
  clear h0 h1 h2;generalize t.toNat=T at *
  go_enter func185,ntmps185;go_wp2;go_ret;rw [Hf.o];exact ⟨_,rfl,rfl,rfl⟩
section
variable {t:TypeId}{pos:String}{x:Operand}{e:aj.aJ}
theorem alV (tag:Int) (w:World):(Instr.build 71 #[(0,.int .i64 tag)]).run prog w=.ok (.agg (bV ⟨tag,aj.zero32,[]⟩ (.slice none 0 0))) w:=by
 have hz:(bV aj.zeroE (.slice none 0 0)).size=34:=dJ _ _ rfl
 have h:=apA (P:=prog) [(0,.int .i64 tag)] SB EZ (by
  intro p hp;rw [aeG]at hp;subst hp;have hzz:Ak.cells.size=34:=hz;rw [hzz];exact ⟨0,rfl,by show 0+1<=34;omega⟩) w
 exact h
theorem adz {tag:Int} (hx:a.eval x=.int .i64 tag) (h:wpList prog ops Q rest (a.put dst (.agg (bV ⟨tag,aj.zero32,[]⟩ (.slice none 0 0)))) w):wpList prog ops Q (⟨dst,.build 71 #[(0,x)],t,pos,after,none⟩::rest) a w:=
 ae5 rfl λ_ hK=>by
  unfold Oper.wp execOp;simp only [ahS,aes,ah3,hx,aed,alV,adW,aep];exact hK _ _ h
theorem Ag (h:wpList prog ops Q rest (a.put dst (.agg (bV aj.zeroE (.slice none 0 0)))) w):wpList prog ops Q (⟨dst,.build 71 #[],t,pos,after,none⟩::rest) a w:=
 ae5 rfl λ_ hK=>by
  unfold Oper.wp execOp;simp only [ahS,ah3,aed,amj,adW,aep];exact hK _ _ h
theorem WA (h:Stop (wpList prog ops Q (⟨dst,.build 71 #[(0,x)],t,pos,after,none⟩::rest) a w)):wpList prog ops Q (⟨dst,.build 71 #[(0,x)],t,pos,after,none⟩::rest) a w:=h.o
theorem y8 (h:Stop (wpList prog ops Q (⟨dst,.build 71 #[],t,pos,after,none⟩::rest) a w)):wpList prog ops Q (⟨dst,.build 71 #[],t,pos,after,none⟩::rest) a w:=h.o
theorem an5 {P:Program}{ty:TypeId}{z:Operand}{vx vy vz:Value} (hx:a.eval x=vx) (hy:a.eval y=vy) (hz:a.eval z=vz) (hr:∀ w,(Instr.sliceAt ty vx (some vy) (some vz) none).run P w=.ok v w)
  (h:wpList P ops Q rest (a.put dst v) w):wpList P ops Q (⟨dst,.slice ty x (some y) (some z) none,t,pos,after,none⟩::rest) a w:=
 ae5 rfl λ_ hK=>by
  unfold Oper.wp execOp;simp only [hx,hy,hz,aiM,ao1,aed,hr,adW,aep];exact hK _ _ h
theorem afz {P:Program}{ty:TypeId}{z:Operand} (h:Stop (wpList P ops Q (⟨dst,.slice ty x (some y) (some z) none,t,pos,after,none⟩::rest) a w)):wpList P ops Q (⟨dst,.slice ty x (some y) (some z) none,t,pos,after,none⟩::rest) a w:=h.o
theorem alS (ad:Addr) (c:Nat) (w:World):(Instr.arrayAt 34 (.slice (some ad) 32 c)).run prog w=.ok (.pointer (some ad)) w:=by
 simp [Instr.arrayAt,agu (P:=prog) underlying34]
theorem akP {e:aj.aJ}{dv:Value} (hk:e.key.length=32) (key:Bs) (hk2:key.length=32):eH (bV e dv) 1 (aB key)=bV ⟨e.tag,key,e.data⟩ dv:=by
 apply rY;have hz:=dJ e dv hk;have h1:(aB key).length=32:=by rw [aP,hk2]
 have h2:(aB e.key).length=32:=by rw [aP,hk]
 rw [mV _ _ _ oQ];unfold bV jd;rw [ad7,ad7,h1,show 1+32=32+1 by omega,apK,List.take_succ_cons,afC,anT oQ,aeI oQ];simp
theorem akO {e:aj.aJ}{dv:Value} (hk:e.key.length=32) (data:Bs) (XF:Value):eH (bV e dv) 33 [XF]=bV ⟨e.tag,e.key,data⟩ XF:=by
 apply rY;have hz:=dJ e dv hk;have h2:(aB e.key).length=32:=by rw [aP,hk]
 rw [mV _ _ _ yT0];unfold bV jd;rw [ad7,ad7,ae3,show 33+1=33+1 from rfl,apK,List.take_succ_cons,aeT oQ,adZ oQ,aeI yT0];simp
theorem aiA:(prog.info? 34).map (·.size)=some 32:=by kernel_rfl
theorem aiD:(prog.info? 59).map (·.size)=some 1:=by kernel_rfl
theorem an7 {dv:Value}{key:Bs} (hs:Sat w0 w L) (hx:a.eval x=.pointer (some ⟨b,1,none⟩)) (hy:a.eval y=.agg (aB key).toArray) (hk:e.key.length=32) (hk2:key.length=32) (u:pF (pt b (.cells (bV e dv) T (0,0))) (pt b (.cells (bV ⟨e.tag,key,e.data⟩ dv) T (0,0))) L L')
  (hK:∀ w',Sat w0 w' L'->wpList prog ops Q rest (a.put dst undef) w'):wpList prog ops Q (⟨dst,.store 34 x y,t,pos,after,none⟩::rest) a w:=by
 obtain ⟨R',h2,h3⟩:=u;have hz:=dJ e dv hk;have hb:(aB key).toArray.size=32:=by simp [aB,hk2]
 refine EX (w0:=w0) rfl 34 x y rfl 1 (.agg (aB key).toArray) hx hy (show 1+(aB key).toArray.size<=(bV e dv).size by omega) (show _=some (aB key).toArray.size by rw [hb];exact aiA) ?_ (hs.perm h2) λw' hS=>hK w' ?_
 ·show (aB key).toArray.all _=true;rw [<-Array.all_toList];exact agt.2 (vK _)
 ·have he:eH (bV e dv) 1 (Value.agg (aB key).toArray).cells.toList=bV ⟨e.tag,key,e.data⟩ dv:=akP hk key hk2;rw [he]at hS;exact hS.perm h3.symm
theorem an6 {dv:Value}{data:Bs} (hs:Sat w0 w L) (hx:a.eval x=.pointer (some ⟨b,33,none⟩)) (hy:a.eval y=.slice da dn dc) (hk:e.key.length=32) (u:pF (pt b (.cells (bV e dv) T (0,0))) (pt b (.cells (bV ⟨e.tag,e.key,data⟩ (.slice da dn dc)) T (0,0))) L L')
  (hK:∀ w',Sat w0 w' L'->wpList prog ops Q rest (a.put dst undef) w'):wpList prog ops Q (⟨dst,.store 59 x y,t,pos,after,none⟩::rest) a w:=by
 obtain ⟨R',h2,h3⟩:=u;have hz:=dJ e dv hk;refine EX (w0:=w0) rfl 59 x y rfl 33 (.slice da dn dc) hx hy (show 33+1<=(bV e dv).size by omega) aiD (by simp [Value.cells,Value.oneCell']) (hs.perm h2) λw' hS=>hK w' ?_;have he:eH (bV e dv) 33 (Value.slice da dn dc).cells.toList=bV ⟨e.tag,e.key,data⟩ (.slice da dn dc):=akO hk data _;rw [he]at hS;exact hS.perm h3.symm
theorem EC {fn:Func}{p u q:Tmp}{tmps:Array Value} (hf:fn.results=#[.cell p 71,.tmp u,.tmp q]) (hs:Sat w0 w L) (hp:tmps.getD p undef=.pointer (some ⟨b,0,none⟩)) (k:Pick (pt b (.cells (bV e (.slice da dn dc)) T (0,0))) L R) (hk:e.key.length=32) :
  (results fn tmps).run prog w=.ok (.tuple #[.agg (bV e (.slice da dn dc)),tmps.getD u undef,tmps.getD q undef]) w:=by
 have hl:=run_loadVar_row (P:=prog) w b T 71 (bV e (.slice da dn dc)) (0,0) _ (hs.pick k).at underlying71 ah (by rw [dJ e _ hk];exact yw);have hp':tmps[p]?.getD undef=.pointer (some ⟨b,0,none⟩):=by simpa using hp
 simp [results,hf,hp',asAddr,hl,Result.andThen]
end
theorem SV {l:Bs}{bk off n c:Nat} (h:aW 1 (.slice (some ⟨bk,off,none⟩) n c) (aB l) w) (i j c':Nat) (hij:i<=j) (hj:j<=l.length):aW 1 (.slice (some ⟨bk,off+i,none⟩) (j-i) c') (aB ((l.take j).drop i)) w:=by
 obtain ⟨a',n',c'',he,hl,hx⟩:=h;cases he;refine ⟨_,_,_,rfl,by rw [aP,adX,adt];omega,λk y hk=>⟨_,rfl,?_⟩⟩;have hk':(aB l)[i+k]?=some y:=by
  unfold aB at hk ⊢;rw [List.map_drop,apY,aoz,alM]at hk;split at hk
  ·exact hk
  ·cases hk
 obtain ⟨b',hb',hc⟩:=hx _ _ hk';cases hb';rw [Addr.add_mid]at hc ⊢;rw [apq];exact hc
theorem P7 (l:Bs) (hr:Ro w0 F (aW 1 bv (aB l))) (hcap:nN bv) (hH:Ro w0 F Half) (hl:l.length<=1099511627776) (h:Sat w0 w F) :
  Calls prog 142 #[bv] w (aN λv w'=>∃ da dc,v=.tuple #[.agg (bV (aj.read l).1 (.slice da (aj.read l).1.data.length dc)),.int .i64 (aj.read l).2.1,errno (aj.read l).2.2]/\Sat w0 w' (aY (.slice da (aj.read l).1.data.length dc) (aj.read l).1.data::F)):=by
 obtain ⟨ba,bn,bc,rfl,hbn,hbc⟩:=hcap;have hln:bn=l.length:=by
  obtain ⟨_,_,_,he,hl',_⟩:=hr w h;cases he;rw [aP,aeo]at hl';exact hl'.symm
 subst hln;by_cases h9:l.length<9
 ·have Hf:=uQ (show aj.read l=(aj.zeroE,0,3) by unfold aj.read;rw [adU h9]);have c1:(l.length:Int)<9:=by omega
  clear hr hH h9 hl;go_enter func142,ntmps142;go_wp2_with (first|((with_reducible refine sS ⟨?_⟩);refine tX aQ ?_;intro bE wE hE)|((with_reducible refine y8 ⟨?_⟩);refine Ag ?_)|((with_reducible refine ql ⟨?_⟩);first|(refine jO aQ ah ah yG0 gZ yD0 ?_;intro wS hS)|(refine jO (e:=aj.zeroE) (da:=none) (dn:=0) (dc:=0) aQ ah ah rfl gZ yD0 ?_;intro wS hS)));rw [Hf.o];refine ⟨rfl,_,EC rfl aQ ah bK rfl,_,rfl,none,0,rfl,Sat.dO.2 (Sat.sb hS)⟩
 obtain ⟨bk,off,rfl,hcell⟩:∃ bk off,ba=some ⟨bk,off,none⟩/\True:=by
  have hx:(aB l)[0]?=some (.int .u8 (l[0]'oQ).toNat):=by
   unfold aB;rw [ad1,aaJ oQ];rfl
  obtain ⟨bk,off,hb,_⟩:=oJ (hr w h) hx;exact ⟨bk,off,hb,trivial⟩
 clear hcell;have hrd:=hr w h;have AV:=uQ (show ∀ (i j:Nat),i<=j->j<=l.length->∀ w,Sat w0 w F->aW 1 (.slice (some ⟨bk,off+i,none⟩) (j-i) (bc-i)) (aB ((l.take j).drop i)) w from λi j h1 h2 w hw=>SV (hr w hw) i j (bc-i) h1 h2)
 have aeC:=uQ (show ∀ w,Sat w0 w F->Calls prog 184 #[.slice (some ⟨bk,off+4,none⟩) (l.length-4) (bc-4)] w (aN λv w'=>v=.int .u32 (aj.num ((l.drop 4).take 4):Nat)/\w=w') from λw hw=>aaR (l.drop 4) yM0 _ (l.length-4) (bc-4) oQ oQ (by
  have:=AV.o 4 l.length oQ (ab1 _) w hw;rw [aeH]at this;exact this))
 have aeD:=uQ (show ∀ w,Sat w0 w F->Calls prog 184 #[.slice (some ⟨bk,off,none⟩) l.length bc] w (aN λv w'=>v=.int .u32 (aj.num (l.take 4):Nat)/\w=w') from λw hw=>aaR l oQ _ l.length bc hbn hbc (hr w hw))
 have qF:=uQ (show aj.read l=if aj.fits (l.getD 8 0) (aj.num ((l.drop 4).take 4))=false then (aj.zeroE,0,4)
  else if l.length<aj.num ((l.drop 4).take 4) then (aj.zeroE,0,3)
  else if aj.crc ((l.take (aj.num ((l.drop 4).take 4))).drop 4)≠aj.num (l.take 4) then (aj.zeroE,0,13)
  else if 41<=aj.num ((l.drop 4).take 4) then (⟨(l.getD 8 0).toNat,(l.drop 9).take 32,(l.take (aj.num ((l.drop 4).take 4))).drop 41⟩,aj.num ((l.drop 4).take 4),0)
  else (⟨(l.getD 8 0).toNat,aj.zero32,[]⟩,aj.num ((l.drop 4).take 4),0) by unfold aj.read;rw [abL h9])
 have hN:aj.num ((l.drop 4).take 4)<4294967296:=by
  have:=aj.zL ((l.drop 4).take 4);rw [adt,adX]at this;have h4:min 4 (l.length-4)=4:=by omega
  rw [h4]at this;omega
 generalize hNN:aj.num ((l.drop 4).take 4)=N at *
 have hfits:=λw=>ag9 (l.getD 8 0) N hN w;have hfg:aj.fits (l.getD 8 0) N=true->9<=N:=by
  unfold aj.fits;intro hh;split at hh
  ·have:=aoK hh;omega
  ·split at hh
   ·have:=aoK hh;omega
   ·split at hh
    ·have:=aoK hh;omega
    ·cases hh
 have hc8:∀ w,Sat w0 w F->w.cell? ⟨bk,off+8,none⟩=some (.int .u8 (l.getD 8 0).toNat):=λw hw=>by
  have hx:(aB l)[8]?=some (.int .u8 (l.getD 8 0).toNat):=by
   unfold aB;rw [ad1,adV,aaJ oQ];rfl
  obtain ⟨DX,off',hb,hc⟩:=oJ (hr w hw) hx;cases hb;exact hc _ _ hx
 have Aq:=uQ hc8;have Hr:=uQ hr;have HH:=uQ hH;have Hl:=uQ hl;have Hfg:=uQ hfg;have aer:=uQ hfits;have c1:¬ (l.length:Int)<9:=by omega
 have c2:¬ bc=4:=by omega
 have c3:(4:Int)<=(l.length:Int):=by omega
 have c4:(l.length:Int)<=(bc:Int):=by omega
 have c5:(8:Int)<(l.length:Int):=by omega
 have qZ:=uQ (show l.length<=bc/\bc<=9223372036854775807/\9<=l.length/\N<4294967296 from ⟨hbn,hbc,by omega,hN⟩);have hcv:IntKind.i64.wrap (N:Int)=(N:Int):=by rw [alj];omega
 clear hrd hNN hc8 hr hH hl h9 hbn hbc hfg hfits hN;generalize l.getD 8 0=tg at *
 have Zo:=tg.toNat_lt;have hct:IntKind.i64.wrap (tg.toNat:Int)=(tg.toNat:Int):=by rw [alj];omega
 have htb:(tg.toNat:Int)<256:=by omega
 go_enter func142,ntmps142;go_wp2_with ((with_reducible refine sS ⟨?_⟩);refine tX aQ ?_;intro bE wE hE);refine (aeC.o _ hE.drop).mono ?_;rintro ee w2 ⟨v,rfl,rfl,rfl⟩;have e8:=Aq.o _ hE.drop;go_wp2_with fail;refine (aer.o _).mono ?_;rintro ee w2 ⟨v,rfl,rfl,rfl⟩;cases hft:aj.fits tg N
 ·have Hf:=uQ (qF.o.trans (adU hft));clear hft;go_wp2_with (first|((with_reducible refine y8 ⟨?_⟩);refine Ag ?_)|((with_reducible refine ql ⟨?_⟩);first|(refine jO aQ ah ah yG0 gZ yD0 ?_;intro wS hS)|(refine jO (e:=aj.zeroE) (da:=none) (dn:=0) (dc:=0) aQ ah ah rfl gZ yD0 ?_;intro wS hS)));rw [Hf.o];refine ⟨rfl,_,EC rfl aQ ah bK rfl,_,rfl,none,0,rfl,Sat.dO.2 (Sat.sb hS)⟩
 have Hf:=uQ (qF.o.trans (abL (by rw [hft];decide)));have YK:=Hfg.o hft;clear hft;by_cases J7:l.length<N
 ·have vC:=uQ (Hf.o.trans (adU J7));have c6:(l.length:Int)<(N:Int):=by omega
  clear J7 YK;go_wp2_with (first|((with_reducible refine y8 ⟨?_⟩);refine Ag ?_)|((with_reducible refine ql ⟨?_⟩);first|(refine jO aQ ah ah yG0 gZ yD0 ?_;intro wS hS)|(refine jO (e:=aj.zeroE) (da:=none) (dn:=0) (dc:=0) aQ ah ah rfl gZ yD0 ?_;intro wS hS)));rw [vC.o];refine ⟨rfl,_,EC rfl aQ ah bK rfl,_,rfl,none,0,rfl,Sat.dO.2 (Sat.sb hS)⟩
 have vC:=uQ (Hf.o.trans (abL J7));clear Hf qF;have c6:¬ (l.length:Int)<(N:Int):=by omega
 have c7:(4:Int)<=(N:Int):=by omega
 have c8:(N:Int)<=(bc:Int):=by omega
 have AA:=uQ (show N<=l.length/\9<=N by omega);clear J7 YK;go_wp2_with fail;refine (Pm ((l.take N).drop 4) (Ro.os HH.o) (λw hw=>AV.o 4 N (by have:=AA.o;omega) AA.o.1 w (hw.sb)) hE (by rw [adX,adt];have:=Hl.o;omega)).mono ?_;rintro ee w2 ⟨v,rfl,rfl,rfl⟩;go_wp2_with fail;refine (aeD.o _ hE.drop).mono ?_;rintro ee w2 ⟨v,rfl,rfl,rfl⟩;generalize aj.crc ((l.take N).drop 4)=A at *
 generalize aj.num (l.take 4)=B at *
 by_cases hAB:A=B;rotate_left
 ·have Jg:=uQ (vC.o.trans (adU hAB));have c9:((A:Int)==(B:Int))=false:=by rw [ad3];omega
  clear hAB;go_wp2_with (first|((with_reducible refine y8 ⟨?_⟩);refine Ag ?_)|((with_reducible refine ql ⟨?_⟩);first|(refine jO aQ ah ah yG0 gZ yD0 ?_;intro wS hS)|(refine jO (e:=aj.zeroE) (da:=none) (dn:=0) (dc:=0) aQ ah ah rfl gZ yD0 ?_;intro wS hS)));rw [Jg.o];refine ⟨rfl,_,EC rfl aQ ah bK rfl,_,rfl,none,0,rfl,Sat.dO.2 (Sat.sb hS)⟩
 subst hAB;have Jg:=uQ (vC.o.trans (abL (λh=>h rfl)));clear vC;by_cases rJ:41<=N;rotate_left
 ·have NV:=uQ (Jg.o.trans (abL rJ));have c9:¬ (41:Int)<=(N:Int):=by omega
  clear rJ;go_wp2_with (first|((with_reducible refine WA ⟨?_⟩);refine adz ah ?_)|((with_reducible refine sS ⟨?_⟩);refine tX aQ ?_;intro bE wE hE)|((with_reducible refine ql ⟨?_⟩);first|(refine jO aQ ah ah yG0 gZ yD0 ?_;intro wS hS)|(refine jO (e:=aj.zeroE) (da:=none) (dn:=0) (dc:=0) aQ ah ah rfl gZ yD0 ?_;intro wS hS))|((with_reducible refine Bh ⟨?_⟩);refine Dn aQ ah bK yG0 ?_));rw [NV.o];simp only [ae0];refine ⟨rfl,_,EC rfl aQ ah bK rfl,_,rfl,none,0,rfl,Sat.dO.2 (Sat.sb hS)⟩
 have NV:=uQ (Jg.o.trans (adU rJ));have qg:=uQ (show ((l.drop 9).take 32).length=32 by rw [adt,adX];have:=AA.o;omega);have Jh:=uQ (show (aB ((l.drop 9).take 32)).length=32 by rw [aP];exact qg.o)
 have aeK:=uQ (show ∀ w,Sat w0 w F->w.rangeAt bk (off+9) (aB ((l.drop 9).take 32)) from λw hw=>by
  intro j y hj;have hsb:=AV.o 9 41 aG (by have:=AA.o;omega) w hw;have e:(l.take 41).drop 9=(l.drop 9).take 32:=by rw [List.drop_take]
  rw [e]at hsb;obtain ⟨b',o',hb,hc⟩:=oJ hsb hj;cases hb;exact hc _ _ hj)
 have c9:(41:Int)<=(N:Int):=by omega
 have c10:¬ bc=9:=by have:=AA.o;have:=qZ.o;omega
 have c11:(41:Int)<=(bc:Int):=by omega
 obtain ⟨ad,had,hsl⟩:∃ ad:Addr,(41<N->ad=⟨bk,off+41,none⟩)/\∀ w,(Instr.sliceAt 59 (.slice (some ⟨bk,off,none⟩) l.length bc) (some (.int .i64 41)) (some (.int .i64 N)) none).run prog w=.ok (.slice (some ad) (N-41) (bc-41)) w:=by
  by_cases hce:bc=41
  ·refine ⟨⟨bk,off,none⟩,λhh=>by have:=AA.o;have:=qZ.o;omega,λw=>?_⟩;have c12:(N:Int)<=41:=by omega
   have c13:¬ (41:Int)<(N:Int):=by omega
   go_simp
  ·refine ⟨⟨bk,off+41,none⟩,λ_=>rfl,λw=>?_⟩;go_simp
 have Had:=uQ had
 have aej:=uQ (show ∀ w,Sat w0 w F->aW 1 (.slice (some ad) (N-41) (bc-41)) (aB ((l.take N).drop 41)) w from λw hw=>by
  by_cases h2:41<N
  ·rw [Had.o h2];exact AV.o 41 N oQ AA.o.1 w hw
  ·have:(l.take N).drop 41=[]:=aeI zM0;rw [this,show N-41=0 by omega];exact ⟨_,0,_,rfl,rfl,by simp [aB]⟩)
 clear rJ had;have hat:=λw=>alS ⟨bk,off+9,none⟩ (bc-9) w
 go_wp2_with (first
  |((with_reducible refine WA ⟨?_⟩);refine adz ah ?_)|((with_reducible refine sS ⟨?_⟩);refine tX aQ ?_;intro bE wE hE)|((with_reducible refine ql ⟨?_⟩);first|(refine jO aQ ah ah yG0 gZ yD0 ?_;intro wS hS)|(refine jO (e:=aj.zeroE) (da:=none) (dn:=0) (dc:=0) aQ ah ah rfl gZ yD0 ?_;intro wS hS))
  |((with_reducible refine bC ⟨?_⟩);refine wpList_load_mid ah 34 _ ah bk (off+9) ah (aB ((l.drop 9).take 32)) _ (aeK.o _ (Sat.sb aQ)) underlying34 rfl (by rw [Jh.o];kernel_rfl) ?_)
  |((with_reducible refine bW ⟨?_⟩);refine an7 (key:=(l.drop 9).take 32) aQ ah ah rfl qg.o gZ ?_;intro wK hK)
  |((with_reducible refine afz ⟨?_⟩);refine an5 ah ah ah hsl ?_))
 refine (xW hK (aej.o _ (hK.sb)) (by rw [adX,adt];have:=Hl.o;omega)).mono ?_;rintro ee w3 ⟨v,rfl,hS3,ca,cn,cc,rfl⟩;have hcn:cn=((l.take N).drop 41).length:=by
  obtain ⟨_,_,_,he,hl',_⟩:=Sat.rd hS3;cases he;rw [aP,aeo]at hl';exact hl'.symm
 subst hcn;have Vt:=qg.o;generalize (l.drop 9).take 32=key at *
 generalize (l.take N).drop 41=data at *
 go_wp2_with (first
  |((with_reducible refine bW ⟨?_⟩);refine an6 (e:=⟨(tg.toNat:Int),key,[]⟩) (data:=data) aQ ah ah Vt gZ ?_;intro wD hD)
  |((with_reducible refine Bh ⟨?_⟩);refine Dn aQ ah bK yG0 ?_)|((with_reducible refine ql ⟨?_⟩);first|(refine jO aQ ah ah yG0 gZ yD0 ?_;intro wS hS)|(refine jO (e:=aj.zeroE) (da:=none) (dn:=0) (dc:=0) aQ ah ah rfl gZ yD0 ?_;intro wS hS)))
 rw [NV.o];simp only;refine ⟨rfl,_,EC rfl aQ ah bK Vt,_,rfl,ca,cc,rfl,Sat.sb hS⟩
end Go.Proofs.Y
namespace Go.aj
structure dK where
 e:aJ
 at_:Nat
 size:Nat
def nS:Nat->Bs->Nat->List dK×Nat×Int
 |0,_,at_=>([],at_,0)
 |k+1,b,at_=>
  if b=[] then ([],at_,0)
  else if (read b).2.2≠0 then ([],at_,(read b).2.2)
  else (⟨(read b).1,at_,(read b).2.1⟩::(nS k (b.drop (read b).2.1) (at_+(read b).2.1)).1,(nS k (b.drop (read b).2.1) (at_+(read b).2.1)).2)
def vU:Bs:=[72,79,65,82,68,83,69,71]
def scan (b:Bs):List dK×Nat×Int:=if b.take 8=vU then nS b.length (b.drop 8) 8 else ([],0,4)
end Go.aj
namespace Go.Proofs.Y
open Go.ak
section
variable {av:Value}
theorem abq {l:Bs} (h:aW 1 v (aB l) w):(convert 59 9 v).run prog w=.ok (.string ⟨l.toArray⟩) w:=by
 obtain ⟨a,n,c,rfl,hl,hx⟩:=h;rw [aP,aeo]at hl;subst hl;cases a with
 |none=>
  obtain rfl:l=[]:=by
   cases l with
   |nil=>rfl
   |cons d l=>obtain ⟨b,hb,_⟩:=hx 0 _ rfl;cases hb
  exact Lib.run_convert_nil_bytes (P:=prog) w _ _ 5 c underlying59 underlying5 underlying9
 |some ad=>
  refine run_convert_bytes_back (P:=prog) w _ _ 5 ad c l underlying59 underlying5 underlying9 (λj hj=>?_);have hy:(aB l)[j]?=some (.int .u8 (l[j]'hj).toNat):=by unfold aB;rw [ad1,aaJ hj];rfl
  obtain ⟨b,hb,hc⟩:=hx _ _ hy;cases hb;simpa using hc
theorem afO (la lb:Bs) (ha:aW 1 av (aB la) w) (hb:aW 1 bv (aB lb) w) :
  Calls prog 183 #[av,bv] w (aN λv w'=>v=.bool (decide (la=lb))/\w=w'):=by
 have h1:=abq ha;have h2:=abq hb
 have He:=uQ (show ((la.toArray.toList:List UInt8)==lb.toArray.toList)=decide (la=lb) by
  rw [aoT,ako,ad5])
 clear ha hb;go_enter func183,ntmps183;go_wp2;go_ret;rw [<-He.o];exact ⟨_,rfl,rfl,rfl⟩
theorem ahJ (l lp:Bs) (a:Option Addr) (n c:Nat) (hn:n<=c) (hc:c<=9223372036854775807) (ha:aW 1 (.slice a n c) (aB l) w) (pa:Option Addr) (pn pc:Nat) (hp:aW 1 (.slice pa pn pc) (aB lp) w) :
  Calls prog 141 #[.slice a n c,.slice pa pn pc] w (aN λv w'=>v=.bool (decide (l.take lp.length=lp))/\w=w'):=by
 have hln:n=l.length:=by
  obtain ⟨_,_,_,he,hl',_⟩:=ha;cases he;rw [aP,aeo]at hl';exact hl'.symm
 have hpn:pn=lp.length:=by
  obtain ⟨_,_,_,he,hl',_⟩:=hp;cases he;rw [aP,aeo]at hl';exact hl'.symm
 subst hln hpn;by_cases hle:lp.length<=l.length
 ·have h4:=abp (k:=lp.length) ha;rw [show min l.length lp.length=lp.length by omega]at h4;have hq:=afO _ _ h4 hp;have c1:(lp.length:Int)<=(l.length:Int):=by omega
  have c2:(lp.length:Int)<=(c:Int):=by omega
  have c3:lp.length<=l.length:=hle;clear h4 ha hp;go_enter func141,ntmps141;go_wp2_with (go_at_call 183;refine hq.mono ?_;rintro e w1 ⟨v,rfl,rfl,rfl⟩);go_ret;exact ⟨_,rfl,rfl,rfl⟩
 ·have c1:¬ lp.length<=l.length:=hle;have c2:decide ((lp.length:Int)<=(l.length:Int))=false:=aea oQ
  have He:=uQ (show decide (l.take lp.length=lp)=false by
   apply aea;intro hh;have:=aeO List.length hh;rw [adt]at this;omega)
  clear ha hp;go_enter func141,ntmps141;go_wp2;go_ret;rw [He.o];exact ⟨_,rfl,rfl,rfl⟩
end
end Go.Proofs.Y
namespace Go.aj
def D6 (long:Nat) (x:aJ):aJ:=⟨x.tag,x.key,x.data.take long⟩
def few (l:List aJ) (n long:Nat):List aJ:=(l.take n).map (D6 long)
end Go.aj
namespace Go.Proofs.Y
open Go.ak
theorem SN {k:Nat}{l:Bs}{a:Option Addr}{n c:Nat} (h:aW 1 (.slice a n c) (aB l) w):aW 1 (.slice a (min n k) c) (aB (l.take k)) w:=by
 obtain ⟨a',n',c',he,hl,hx⟩:=h;cases he;rw [aP,aeo]at hl;refine ⟨a,_,c,rfl,by rw [aP,adt];omega,λj y hj=>?_⟩;have hj':(aB l)[j]?=some y:=by
  unfold aB at hj ⊢;rw [apY,alM]at hj;split at hj
  ·exact hj
  ·cases hj
 exact hx j y hj'
theorem agw (es:List (aj.aJ×Value)) (x:aj.aJ) (dv:Value):uI (es++[(x,dv)])=star (aY dv x.data) (uI es):=by
 unfold uI;rw [aef,qx,EJ];show star (stars [aY dv x.data]) _=_;rw [EK]
theorem JQ (e:aj.aJ) (a:Option Addr) (n c:Nat):(bV e (.slice a n c)).toList.all (·.oneCell')=true:=by
 unfold bV jd;rw [ad7,List.all_cons,ajk];have:(aB e.key).all (·.oneCell')=true:=agt.2 (vK _);rw [this];rfl
structure E5 (w0:World) (F:List aF) (p:aj.aJ×Value):Prop where
 key:p.1.key.length=32
 rd:Ro w0 F (aW 1 p.2 (aB p.1.data))
 cap:nN p.2
theorem X4 {es fs:List (aj.aJ×Value)}{i long:Nat} (h:fs.map (·.1)=((es.map (·.1)).take i).map (aj.D6 long)) (hk:∀ p∈es,p.1.key.length=32):∀ p∈fs,p.1.key.length=32:=by
 intro p hp;have h1:p.1∈fs.map (·.1):=adu.2 ⟨p,hp,rfl⟩;rw [h,adu]at h1;obtain ⟨x,hx,he⟩:=h1;obtain ⟨q,hq,rfl⟩:=adu.1 (ae2 hx);rw [<-he];exact hk q hq
theorem ag3 (es:List (aj.aJ×Value)) (n long:Nat) (hlong:long<=1099511627776) (hn:n<=1048576) (hr:Ro w0 F (aW 34 lv (kR es))) (he:∀ p∈es,E5 w0 F p) (h:Sat w0 w F) :
  Calls prog 34 #[lv,.int .i64 n,.int .i64 long] w (aN λv w'=>∃ fs:List (aj.aJ×Value),fs.map (·.1)=aj.few (es.map (·.1)) n long/\Sat w0 w' (aC 71 34 v (kR fs)::uI fs::F)):=by
 obtain ⟨la,ln,lc,rfl,hl,_⟩:=hr w h;rw [XW (λp hp=>(he p hp).key)]at hl;obtain rfl:ln=es.length:=by omega
 have Hr:=uQ hr;have He:=uQ he;have aez:=uQ hlong;have Hn:=uQ hn;clear hr he hl hn;go_enter func34,ntmps34;go_wp2_with fail
 go_loopg [8,7] es.length (λg iq ov wr=>∃ (i:Nat) (fs:List (aj.aJ×Value)),g=es.length-i/\i<=es.length/\i<=n/\iq=.int .i64 i/\fs.map (·.1)=((es.map (·.1)).take i).map (aj.D6 long) /\
  Sat w0 wr (aC 71 34 ov (kR fs)::uI fs::F))
 case atStart=>exact ⟨0,[],rfl,ad4 _,ad4 _,rfl,rfl,Sat.dO.2 (Sat.emp.2 h)⟩
 case round=>
  obtain ⟨i,fs,rfl,hi,hin,rfl,hfs,hS⟩:=hrel;have nJ:=uQ hfs;have Hi:=uQ hi;have aA:=uQ hin;clear h hfs hi hin;by_cases hlt:i<es.length/\i<n
  ·obtain ⟨hl1,hl2⟩:=hlt;have c1:(i:Int)<(es.length:Int):=by omega
   have c2:(i:Int)<(n:Int):=by omega
   have hwi:IntKind.i64.wrap ((i:Int)+1)=(i:Int)+1:=acO _ yP0;have DC:=uQ hl1;have Hl2:=uQ hl2;have ru:=uQ (X4 nJ.o (λp hp=>(He.o p hp).key));clear hl1 hl2;obtain ⟨x,hx⟩:∃ x,es[i]?=some x:=⟨_,aaJ DC.o⟩;have hxe:=He.o x (acr hx);have hk:∀ p∈es,p.1.key.length=32:=λp hp=>(He.o p hp).key
   have hcut:=uQ (show fs.map (·.1)++[aj.D6 long x.1]=((es.map (·.1)).take (i+1)).map (aj.D6 long) by
    rw [nJ.o,aeN,aef,ad1,hx];rfl)
   have Zj:Ro w0 (aC 71 34 u7 (kR fs)::uI fs::F) (aW 34 (.slice la es.length lc) (kR es)):=Ro.os Hr.o;obtain ⟨bk,off,rfl,_⟩:=oJ (Zj _ hS) (Gg hk hx (PN _ _))
   have HG:=uQ (show ∀ w' L,Ro w0 L (aW 34 (.slice (some ⟨bk,off,none⟩) es.length lc) (kR es))->Sat w0 w' L->w'.cell? ⟨bk,off+i*34,none⟩=some (.int .i64 x.1.tag)/\w'.rangeAt bk (off+i*34+1) (aB x.1.key)/\w'.cell? ⟨bk,off+i*34+33,none⟩=some x.2 by
    intro w' L hL hw;obtain ⟨DX,off',Gv,hcell⟩:=oJ (hL w' hw) (Gg hk hx (PN _ _));cases Gv;refine ⟨hcell _ _ (Gg hk hx (PN _ _)),λj y hj=>?_,?_⟩
    ·have:=hcell _ _ (Gg hk hx (XT _ x.2 hj));rw [show off+(i*34+(1+j))=off+i*34+1+j by omega]at this;exact this
    ·have:=hcell _ _ (Gg hk hx (XR _ _ hxe.key));rw [show off+(i*34+33)=off+i*34+33 by omega]at this;exact this)
   obtain ⟨⟨tag,key,data⟩,dv⟩:=x;obtain ⟨da,dn,dc,rfl,hdn,hdc⟩:=hxe.cap;have hdl:dn=data.length:=by
    obtain ⟨a',n',c',he,hl,_⟩:=hxe.rd _ (hS.sb);cases he;rw [aP,aeo]at hl;exact hl.symm
   have FP:=uQ hxe.rd;have dQ:=uQ (show key.length=32 from hxe.key);have hks:(aB key).length=32:=by rw [aP];exact dQ.o
   have kX:=uQ hks;have hcap:nN (.slice da dn dc):=hxe.cap;clear hx hxe hk Zj hks hcap;go_wp2_with fail;refine eF [19,20,21,22] (λw'=>w'.cell? ⟨bk,off+i*34,none⟩=some (.int .i64 tag)/\w'.rangeAt bk (off+i*34+1) (aB key)/\w'.cell? ⟨bk,off+i*34+33,none⟩=some (.slice da dn dc)) au ?_;have hG:=HG.o _ _ (Ro.os Hr.o) hS.drew;refine rP 0 ?_ (y:=bD);refine rP 1 ?_ (y:=bD);refine rP 2 ?_ (y:=bD);refine rP 3 ?_ (y:=iV);refine rP 4 ?_ (y:=dh);refine rt 5 (h:=?_);refine rP 6 ?_ (y:=bD);refine rP 7 ?_ (y:=bD);refine rP 8 ?_ (y:=iV);refine rP 9 ?_ (y:=dh);refine gJ 10 ay au bP (lM (b:=bk) (o:=off+i*34+1) (aB key) ah underlying34 rfl yJ0 (λw hw=>hw.2.1)) aQ (by go_frame;first|done|rfl) ?_;refine rP 11 ?_ (y:=bD);refine rP 12 ?_ (y:=bD);refine rP 13 ?_ (y:=iV);refine rP 14 ?_ (y:=dh);refine rt 15 (h:=?_);refine rP 16 ?_ (y:=bD);clear hG
   refine cZ 17 ay au (λK hK=>?_)
   (refine jB au ay ay ?_)
   refine (cut_c da dn dc long hdn hdc _).mono ?_;rintro e w3 ⟨v,rfl,rfl,rfl⟩;refine hK _ _ (.inr (.inr rfl)) ?_;clear hK K;refine cZ 18 ay au (λK hK=>?_)
   (refine uJ au ay ?_)
   refine (Pj hS.drew (data.take long) (SN ((Ro.os FP.o) _ hS.drew)) (by rw [adt];have:=aez.o;omega)).mono ?_;rintro e w4 ⟨v,rfl,hS4,ca,cn,cc,rfl⟩;refine hK _ _ (.inr (.inl (HG.o _ _ (Ro.os Hr.o) hS4))) ?_;clear hK K;refine rP 19 ?_ (y:=(I5 ay ay ay (λw=>alU ⟨tag,key,data.take long⟩ dQ.o ca cn cc w)));refine cZ 20 ay au (λK hK=>?_);refine JJ (e:=71) (sz:=34) (dF:=64) au hS4 ay (cs:=bV ⟨tag,key,data.take long⟩ (.slice ca cn cc)) rfl (dJ _ _ dQ.o) bG ?_;intro bN w5 hN;refine hK _ _ (.inl rfl) ?_;clear hK K hS4;have hlen:(kR fs).length<=2147483648:=by
    rw [XW ru.o];have:=aeO List.length nJ.o;simp only [abl,adt]at this;have:=Hn.o;have:=aA.o;omega
   refine cZ 21 ay au (λK hK=>?_);refine JI 71 34 64 au hN ah ah bK bK ((dJ _ _ dQ.o).trans aG) (ab1 1) (JQ _ _ _ _) hlen (by rw [dJ _ _ dQ.o];decide) aG rfl ?_;intro bA nA cA w6 hA;refine hK _ _ (.inl rfl) ?_;clear hK K hN hlen;refine rP 22 ?_ (y:=jU);refine dX au ?_;go_wp2_with fail
   go_roundg (es.length-(i+1))
   case measure=>have:=DC.o;omega
   case rel=>
    refine ⟨i+1,fs++[(⟨tag,key,data.take long⟩,.slice ca cn cc)],rfl,ad8 DC.o,ad8 Hl2.o,by first|rfl|go_num,?_,?_⟩
    ·rw [<-hcut.o,aef];rfl
    ·rw [agY,agw];have h9:Sat w0 w6 (aC 71 34 (.slice (some ⟨bA,0,none⟩) nA cA) (kR fs++kR [(⟨tag,key,data.take long⟩,.slice ca cn cc)])::aY (.slice ca cn cc) (data.take long)::uI fs::F):=by
      have e:kR [((⟨tag,key,data.take long⟩:aj.aJ),Value.slice ca cn cc)]=(bV ⟨tag,key,data.take long⟩ (.slice ca cn cc)).toList:=by
       unfold kR bV;simp
      rw [e];exact Sat.sb hA
     have h10:Sat w0 w6 (aY (.slice ca cn cc) (data.take long)::uI fs::aC 71 34 (.slice (some ⟨bA,0,none⟩) nA cA) (kR fs++kR [(⟨tag,key,data.take long⟩,.slice ca cn cc)])::F):=h9.sb;exact (Sat.star.2 h10).aT
  ·have hfin:fs.map (·.1)=aj.few (es.map (·.1)) n long:=by
    rw [nJ.o];unfold aj.few
    congr 1
    have:=Hi.o;have:=aA.o;by_cases hh:i=n
    ·rw [hh]
    ·rw [adZ (by rw [abl];omega),adZ (by rw [abl];omega)]
   by_cases hl1:i<es.length
   ·have c1:(i:Int)<(es.length:Int):=by omega
    have c2:¬ (i:Int)<(n:Int):=by omega
    have bF:=uQ hfin;clear hfin hlt hl1;go_wp2;go_ret;exact ⟨_,rfl,fs,bF.o,hS⟩
   ·have c1:¬ (i:Int)<(es.length:Int):=by omega
    have bF:=uQ hfin;clear hfin hlt hl1;go_wp2;go_ret;exact ⟨_,rfl,fs,bF.o,hS⟩
end Go.Proofs.Y
namespace Go.aj
theorem zW {b:Bs} (h:(read b).2.2=0):9<=(read b).2.1/\(read b).2.1<=b.length/\(read b).1.key.length=32:=by
 unfold read at *
 dsimp only at *
 split at h
 ·simp at h
 rename_i h9;rw [abL h9];split at h
 ·simp at h
 rename_i hf;rw [abL hf];split at h
 ·simp at h
 rename_i hl;rw [abL hl];split at h
 ·simp at h
 rename_i hc;rw [abL hc];have hfit:fits (b.getD 8 0) (num ((b.drop 4).take 4))=true:=by
  cases hh:fits (b.getD 8 0) (num ((b.drop 4).take 4)) with
  |true=>rfl
  |false=>exact absurd hh hf
 have Ee:9<=num ((b.drop 4).take 4):=by
  unfold fits at hfit;split at hfit
  ·have:=aoK hfit;omega
  ·split at hfit
   ·have:=aoK hfit;omega
   ·split at hfit
    ·have:=aoK hfit;omega
    ·cases hfit
 split
 ·rename_i rJ;refine ⟨Ee,Nat.not_lt.1 hl,?_⟩;simp only [adt,adX];omega
 ·exact ⟨Ee,Nat.not_lt.1 hl,rfl⟩
theorem LD (b:Bs):(read b).1.key.length=32:=by
 unfold read;dsimp only;split
 ·rfl
 split
 ·rfl
 split
 ·rfl
 split
 ·rfl
 rename_i h9 hf hl hc;split
 ·rename_i rJ;simp only [adt,adX];omega
 ·rfl
end Go.aj
namespace Go.Proofs.Y
open Go.ak
def nP (f:aj.dK) (dv:Value):List Value:=jd f.e dv++[.int .i64 f.at_,.int .i64 f.size]
def jQ (f:aj.dK) (dv:Value):Array Value:=(nP f dv).toArray
def iF (fs:List (aj.dK×Value)):List Value:=fs.flatMap λp=>nP p.1 p.2
def kQ (fs:List (aj.dK×Value)):aF:=stars (fs.map λp=>aY p.2 p.1.e.data)
theorem xY (f:aj.dK) (dv:Value) (hk:f.e.key.length=32):(nP f dv).length=36:=by unfold nP;rw [aa7,wF _ _ hk];rfl
theorem rH (f:aj.dK) (dv:Value) (hk:f.e.key.length=32):(jQ f dv).size=36:=by unfold jQ;rw [abA,xY _ _ hk]
theorem PX {fs:List (aj.dK×Value)} (hk:∀ p∈fs,p.1.e.key.length=32):(iF fs).length=36*fs.length:=by
 unfold iF
 induction fs with
 |nil=>rfl
 |cons p fs ih=>
  rw [aen,aa7,ih (λq hq=>hk q (.tail _ hq)),xY _ _ (hk p (.head _)),aev];omega
theorem Yj (es fs:List (aj.dK×Value)):iF (es++fs)=iF es++iF fs:=by unfold iF;rw [aeB]
theorem Xu (es:List (aj.dK×Value)) (x:aj.dK) (dv:Value):kQ (es++[(x,dv)])=star (aY dv x.e.data) (kQ es):=by
 unfold kQ;rw [aef,qx,EJ];show star (stars [aY dv x.e.data]) _=_;rw [EK]
theorem akq:tH prog 154=some [(0,34),(34,1),(35,1)]:=by kernel_rfl
def U7:aj.dK:=⟨aj.zeroE,0,0⟩
theorem Ns:kD prog 154=some (.agg (jQ U7 (.slice none 0 0))):=by kernel_rfl
theorem akL (cs:Array Value) (hs:cs.size=36) (el:List Value) (u v:Value) (hk:el.length=34):(eH (eH (eH cs 0 el) 34 [u]) 35 [v]).toList=el++[u,v]:=by
 have hcl:cs.toList.length=36:=by simpa using hs
 have e1:(eH cs 0 el).toList=el++cs.toList.drop 34:=by
  rw [mV _ _ _ oQ,afC,aeV,aeE,hk]
 have e2:(eH (eH cs 0 el) 34 [u]).toList=el++[u]++cs.toList.drop 35:=by
  rw [mV _ _ _ (by rw [lC];simp;omega),e1,aeT oQ,adZ oQ,ae3,apM,hk,aeI (l:=el) oQ,aeV,apD]
 have h3:(el++[u]).length=35:=by simp [hk]
 rw [mV _ _ _ (by rw [lC,lC];simp;omega),e2,aeT oQ,adZ oQ,ae3,aeI (by rw [aa7,h3,adX];omega)];simp
theorem ab8 (e:aj.aJ) (hk:e.key.length=32) (da:Option Addr) (dn dc:Nat) (at_ n:Nat) (w:World) :
  (Instr.build 154 #[(0,.agg (bV e (.slice da dn dc))),(1,.int .i64 at_),(2,.int .i64 n)]).run prog w=.ok (.agg (jQ ⟨e,at_,n⟩ (.slice da dn dc))) w:=by
 have hz:(jQ U7 (.slice none 0 0)).size=36:=rH _ _ rfl;have he:(bV e (.slice da dn dc)).size=34:=dJ _ _ hk
 have h:=apA (P:=prog) [(0,.agg (bV e (.slice da dn dc))),(1,.int .i64 at_),(2,.int .i64 n)] akq Ns (by
  intro p hp;simp only [ad9,aiR,apW]at hp;have hzz:(Value.agg (jQ U7 (.slice none 0 0))).cells.size=36:=hz;rw [hzz];rcases hp with rfl|rfl|rfl
  ·refine ⟨0,?_,?_⟩
   ·show some (0,34)=some (0,(bV e (.slice da dn dc)).size);rw [he]
   ·show 0+(bV e (.slice da dn dc)).size<=36;omega
  ·exact ⟨34,rfl,by show 34+1<=36;omega⟩
  ·exact ⟨35,rfl,by show 35+1<=36;omega⟩) w
 refine h.trans ?_
 congr 2
 apply rY;exact akL _ hz _ _ _ (show (bV e (.slice da dn dc)).toList.length=34 by rw [ad6,he])
section
variable {t:TypeId}{pos:String}{x z:Operand}{v1 v2 v3:Value}{i1 i2 i3:Nat}
theorem Nh (h1:a.eval x=v1) (h2:a.eval y=v2) (h3:a.eval z=v3) (hr:∀ w,(Instr.build ty #[(i1,v1),(i2,v2),(i3,v3)]).run P w=.ok v w) (h:wpList P ops Q rest (a.put dst v) w) :
  wpList P ops Q (⟨dst,.build ty #[(i1,x),(i2,y),(i3,z)],t,pos,after,none⟩::rest) a w:=
 ae5 rfl λ_ hK=>by
  unfold Oper.wp execOp;simp only [ahS,aes,ah3,h1,h2,h3,aed,hr,adW,aep];exact hK _ _ h
theorem Ju (h:Stop (wpList P ops Q (⟨dst,.build ty #[(i1,x),(i2,y),(i3,z)],t,pos,after,none⟩::rest) a w)):wpList P ops Q (⟨dst,.build ty #[(i1,x),(i2,y),(i3,z)],t,pos,after,none⟩::rest) a w:=h.o
theorem Gi (f:aj.dK) (a:Option Addr) (n c:Nat):(jQ f (.slice a n c)).toList.all (·.oneCell')=true:=by
 unfold jQ nP;rw [ad7,ajk];have h1:(jd f.e (.slice a n c)).all (·.oneCell')=true:=by
  have:=JQ f.e a n c;unfold bV at this
  rwa [ad7]at this
 rw [h1];rfl
end
theorem UQ {L:List aF}{b:Nat}{ops:Array Oper}{rest:List Oper}{a:Act}{Q:Exit->Act->World->Prop}{dst:Option Tmp}{t:TypeId}{pos:String}{after:Array Edge}{P:Program}{ty:TypeId}{x y:Operand}{vx vy:Value} (hx:a.eval x=vx) (hy:a.eval y=vy) (hr:∀ w,(Instr.sliceAt ty vx (some vy) none none).run P w=.ok v w)
  (h:wpList P ops Q rest (a.put dst v) w):wpList P ops Q (⟨dst,.slice ty x (some y) none none,t,pos,after,none⟩::rest) a w:=
 ae5 rfl λ_ hK=>by
  unfold Oper.wp execOp;simp only [hx,hy,aiM,ao1,aed,hr,adW,aep];exact hK _ _ h
theorem OV {ops:Array Oper}{rest:List Oper}{a:Act}{Q:Exit->Act->World->Prop}{dst:Option Tmp}{t:TypeId}{pos:String}{after:Array Edge}{P:Program}{ty:TypeId}{x y:Operand} (h:Stop (wpList P ops Q (⟨dst,.slice ty x (some y) none none,t,pos,after,none⟩::rest) a w)):wpList P ops Q (⟨dst,.slice ty x (some y) none none,t,pos,after,none⟩::rest) a w:=h.o
theorem Qa (l:Bs) (hr:Ro w0 F (aW 1 bv (aB l))) (hcap:nN bv) (hH:Ro w0 F Half) (hl:l.length<=268435456) (h:Sat w0 w F) :
  Calls prog 96 #[bv] w (aN λv w'=>∃ (fs:List (aj.dK×Value)) (ov:Value),fs.map (·.1)=(aj.scan l).1/\(∀ p∈fs,p.1.e.key.length=32)/\v=.tuple #[ov,.int .i64 (aj.scan l).2.1,errno (aj.scan l).2.2] /\
   Sat w0 w' (aC 154 36 ov (iF fs)::kQ fs::F)):=by
 obtain ⟨ba,bn,bc,rfl,hbn,hbc⟩:=hcap;have hln:bn=l.length:=by
  obtain ⟨_,_,_,he,hl',_⟩:=hr w h;cases he;rw [aP,aeo]at hl';exact hl'.symm
 subst hln;have hcv:=Lib.run_convert_bytes_const (P:=prog) w 59 5 #[.int .u8 72,.int .u8 79,.int .u8 65,.int .u8 82,.int .u8 68,.int .u8 83,.int .u8 69,.int .u8 71] 8 8 underlying59 underlying5;have hB:Sat w0 (w.alloc (.cells #[.int .u8 72,.int .u8 79,.int .u8 65,.int .u8 82,.int .u8 68,.int .u8 83,.int .u8 69,.int .u8 71] 5 (8,9))) (mrow w.heap.size aj.vU::F):=h.alloc _;simp only [abA,aev,ae0,aeE,Nat.reduceAdd]at hcv;have hmr:aW 1 (.slice (some ⟨w.heap.size,0,none⟩) 8 8) (aB aj.vU) (w.alloc (.cells #[.int .u8 72,.int .u8 79,.int .u8 65,.int .u8 82,.int .u8 68,.int .u8 83,.int .u8 69,.int .u8 71] 5 (8,9))):=by
  refine ⟨_,8,8,rfl,rfl,λj x hj=>⟨_,rfl,?_⟩⟩;rw [sO];have hjl:j<aj.vU.length:=by
   have:=(acZ.1 hj).1;rw [aP]at this;exact this
  have hx:=(KL (l:=aj.vU) hB hjl 0).1;unfold aB at hj;rw [ad1,aaJ hjl]at hj;cases hj;exact hx
 have hpre:=ahJ l aj.vU ba l.length bc hbn hbc (hr _ hB.drop) _ 8 8 hmr;have Hr:=uQ hr;have HH:=uQ hH;have Hl:=uQ hl;have qZ:=uQ (show l.length<=bc/\bc<=9223372036854775807 from ⟨hbn,hbc⟩);have hF:=uQ hB.drop;clear hr hH hl hbn hbc hB hmr;cases hm:decide (l.take aj.vU.length=aj.vU)
 ·have Hf:=uQ (show aj.scan l=([],0,4) by
   unfold aj.scan;have:¬ l.take 8=aj.vU:=of_decide_eq_false hm;rw [abL this])
  rw [hm]at hpre;clear hm;go_enter func96,ntmps96;go_wp2_with fail;refine hpre.mono ?_;rintro e w1 ⟨v,rfl,rfl,rfl⟩;go_wp2
  go_ret3
  refine ⟨_,rfl,[],_,by rw [Hf.o];rfl,by simp,?_,Sat.dO.2 (Sat.emp.2 hF.o)⟩;rw [Hf.o];rfl
 ·have hlm:l.take 8=aj.vU:=aoK hm;have Y2:8<=l.length:=by
   have:=aeO List.length hlm;rw [adt]at this;have h8:aj.vU.length=8:=rfl;omega
  have Hf:=uQ (show aj.scan l=aj.nS l.length (l.drop 8) 8 by
   unfold aj.scan;rw [adU hlm])
  have H8:=uQ Y2;rw [hm]at hpre;obtain ⟨bk,off,rfl⟩:∃ bk off,ba=some ⟨bk,off,none⟩:=by
   obtain ⟨b',o',hb,_⟩:=oJ (i:=0) (x:= .int .u8 (l[0]'oQ).toNat) (Hr.o _ hF.o) (by unfold aB;rw [ad1,aaJ oQ];rfl);exact ⟨_,_,hb⟩
  clear hm hlm Y2;go_enter func96,ntmps96;go_wp2_with fail;refine hpre.mono ?_;rintro e w1 ⟨v,rfl,rfl,rfl⟩;go_wp2_with fail
  go_loopg [6,5] (l.length-8) (λg aq ov wr=>∃ (at_:Nat) (fs:List (aj.dK×Value)),g=l.length-at_/\8<=at_/\at_<=l.length/\9*fs.length<=at_/\aq=.int .i64 at_/\(∀ p∈fs,p.1.e.key.length=32) /\
   (∃ k,l.length-at_<=k/\aj.scan l=(fs.map (·.1)++(aj.nS k (l.drop at_) at_).1,(aj.nS k (l.drop at_) at_).2)) /\
   Sat w0 wr (aC 154 36 ov (iF fs)::kQ fs::F))
  case atStart=>
   exact ⟨8,[],rfl,ab1 _,H8.o,ad4 _,rfl,by simp,⟨l.length,by omega,by rw [Hf.o];rfl⟩,Sat.dO.2 (Sat.emp.2 hF.o)⟩
  case round=>
   obtain ⟨at_,fs,rfl,h8,hat,hfl,rfl,hfk,⟨k,hk,hsc⟩,hS⟩:=hrel;have Hk:=uQ hk;have vH:=uQ hsc;have ru:=uQ hfk;have oO:=uQ (show at_<=l.length/\8<=at_/\9*fs.length<=at_ from ⟨hat,h8,hfl⟩);clear hk hsc hfk h8 hfl;by_cases hlt:at_<l.length
   ·have c1:(at_:Int)<(l.length:Int):=by omega
    have c2:(at_:Int)<=(bc:Int):=by have:=qZ.o;omega
    have c3:(l.length:Int)<=(bc:Int):=by have:=qZ.o;omega
    have c4:(at_:Int)<=(l.length:Int):=by omega
    have c5:(0:Int)<=(at_:Int):=by omega
    have c6:¬ bc=at_:=by have:=qZ.o;omega
    have hsl:∀ w,(Instr.sliceAt 59 (.slice (some ⟨bk,off,none⟩) l.length bc) (some (.int .i64 at_)) none none).run prog w=.ok (.slice (some ⟨bk,off+at_,none⟩) (l.length-at_) (bc-at_)) w:=by
     intro w;go_simp
    have hrd:=uQ (λw hw=>SV (Hr.o w hw) at_ l.length (bc-at_) hat (ab1 _));rw [aeH]at hrd;have aS:=uQ hlt;clear hlt hat;go_wp2_with ((with_reducible refine OV ⟨?_⟩);refine UQ ah ah hsl ?_);refine (P7 (l.drop at_) (Ro.os hrd.o) ⟨_,_,_,rfl,by have:=qZ.o;omega,by have:=qZ.o;omega⟩ (Ro.os HH.o) (by rw [adX];have:=Hl.o;omega) hS).mono ?_;rintro ee w2 ⟨v,rfl,da,dc,rfl,hS2⟩;have FQ:=uQ (aj.LD (l.drop at_));obtain ⟨k,rfl⟩:∃ k',k=k'+1:=⟨k-1,by have:=Hk.o;have:=aS.o;omega⟩
    have xK:=uQ (show l.drop at_≠[] by
     intro h0;have:=aeO List.length h0;rw [adX]at this;have:=aS.o;simp only [ae0]at *
     omega)
    by_cases hz:(aj.read (l.drop at_)).2.2=0
    ·have bI:=uQ (aj.zW hz)
     have AU:=uQ (show aj.scan l=(fs.map (·.1)++(⟨(aj.read (l.drop at_)).1,at_,(aj.read (l.drop at_)).2.1⟩::(aj.nS k ((l.drop at_).drop (aj.read (l.drop at_)).2.1) (at_+(aj.read (l.drop at_)).2.1)).1),(aj.nS k ((l.drop at_).drop (aj.read (l.drop at_)).2.1) (at_+(aj.read (l.drop at_)).2.1)).2) by
      rw [vH.o];simp only [aj.nS];rw [abL xK.o,abL (λh=>h hz)])
     have hN:=bI.o.2.1;rw [adX]at hN;rw [apD]at AU;generalize aj.read (l.drop at_)=r at *
     obtain ⟨e,n,er⟩:=r;obtain rfl:er=0:=hz;have Hn:=uQ (show 9<=n/\n<=l.length-at_ from ⟨bI.o.1,hN⟩);have dQ:=uQ (show e.key.length=32 from FQ.o);clear hN vH FQ bI
     try clear hz
     simp only at AU hS2;have hw:IntKind.i64.wrap ((at_:Int)+(n:Int))=((at_+n:Nat):Int):=by
      rw [acO _ (by have:=Hn.o;have:=Hl.o;omega)];omega
     have hlen:(iF fs).length<=2147483648:=by
      rw [PX ru.o];have:=oO.o;have:=Hl.o;omega
     go_wp2_with (first
      |((with_reducible refine sS ⟨?_⟩);refine tX aQ ?_;intro bE wE hE)|((with_reducible refine ql ⟨?_⟩);first|(refine jO aQ ah ah yG0 gZ yD0 ?_;intro wS hS)|(refine jO (e:=aj.zeroE) (da:=none) (dn:=0) (dc:=0) aQ ah ah rfl gZ yD0 ?_;intro wS hS))|((with_reducible refine Bh ⟨?_⟩);refine Dn aQ ah bK yG0 ?_)
      |((with_reducible refine Ju ⟨?_⟩);refine Nh ah ah ah (λw=>ab8 e dQ.o da _ dc at_ n w) ?_)
      |((with_reducible refine jh ⟨?_⟩);refine jg (e:=154) (sz:=36) (dF:=80) au aQ ay (cs:=jQ ⟨e,at_,n⟩ (.slice da e.data.length dc)) rfl (rH _ _ dQ.o) bG ?_;intro bN wN hN)
      |((with_reducible refine fZ ⟨?_⟩);refine jF 154 36 80 au aQ ah ah bK bK ((rH _ _ dQ.o).trans aG) (ab1 1) (Gi _ _ _ _) hlen (by rw [rH _ _ dQ.o];decide) aG rfl ?_;intro bA nA cA wA hA))
     go_roundg (l.length-(at_+n))
     case measure=>have:=Hn.o;omega
     case rel=>
      refine ⟨at_+n,fs++[(⟨e,at_,n⟩,.slice da e.data.length dc)],rfl,by have:=oO.o;omega,by have:=Hn.o;have:=oO.o;omega,by rw [aa7,ae3];have:=oO.o;have:=Hn.o;omega,by first|rfl|go_num,?_,⟨k,by have:=Hn.o;have:=Hk.o;omega,?_⟩,?_⟩
      ·intro p hp;rw [aeQ]at hp;rcases hp with hp|hp
       ·exact ru.o p hp
       ·rw [aeG]at hp;subst hp;exact dQ.o
      ·rw [AU.o,aef,ad2];rfl
      ·rw [Yj,Xu];have e9:iF [((⟨e,at_,n⟩:aj.dK),Value.slice da e.data.length dc)]=(jQ ⟨e,at_,n⟩ (.slice da e.data.length dc)).toList:=by
        unfold iF jQ;simp
       rw [e9];have h10:Sat w0 wA (aY (.slice da e.data.length dc) e.data::kQ fs::aC 154 36 (.slice (some ⟨bA,0,none⟩) nA cA) (iF fs++(jQ ⟨e,at_,n⟩ (.slice da e.data.length dc)).toList)::F):=hA.sb;exact (Sat.star.2 h10).aT
    ·have hfin:=uQ (show aj.scan l=(fs.map (·.1),at_,(aj.read (l.drop at_)).2.2) by
      rw [vH.o];simp only [aj.nS];rw [abL xK.o,adU hz,aei])
     have c9:((aj.read (l.drop at_)).2.2==0)=false:=by rw [ad3];exact hz
     clear hz vH;go_wp2_with (first|((with_reducible refine sS ⟨?_⟩);refine tX aQ ?_;intro bE wE hE)|((with_reducible refine ql ⟨?_⟩);first|(refine jO aQ ah ah yG0 gZ yD0 ?_;intro wS hS)|(refine jO (e:=aj.zeroE) (da:=none) (dn:=0) (dc:=0) aQ ah ah rfl gZ yD0 ?_;intro wS hS))|((with_reducible refine Bh ⟨?_⟩);refine Dn aQ ah bK yG0 ?_))
     go_ret3
     refine ⟨_,rfl,fs,u5,by rw [hfin.o],ru.o,?_,Sat.sb aQ⟩;rw [hfin.o];rfl
   ·have c1:¬ (at_:Int)<(l.length:Int):=by omega
    have hfin:=uQ (show aj.scan l=(fs.map (·.1),at_,0) by
     rw [vH.o,aeI oQ];cases k <;> simp [aj.nS])
    clear hlt hat;go_wp2
    go_ret3
    refine ⟨_,rfl,fs,by rw [hfin.o],λa b hm=>ru.o _ hm,u5,?_,hS⟩;rw [hfin.o];rfl
end Go.Proofs.Y
