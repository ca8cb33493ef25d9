import Derived.Test.YtihngncbioofnaaGreatDoorJ6
open Go.Proofs.Tryz
set_option maxRecDepth 20000
set_option linter.unusedVariables false
set_option linter.unusedSimpArgs false
set_option maxHeartbeats 128000000
open Go Go.Sl Go.MapKept Go.RowKit
open Go.Proofs.YtihngncbioofnaaGreatDoor
variable {w0 w:World}{F R L:List aG}{v bv x lv sv dv v1:Value}{p K m b B sz eX d i r ps pn:Nat}{P:Program}{ty t e:TypeId}{ops:Array Oper}{a:Act}{Q:Exit->Act->World->Prop}{dst:Option Tmp}{after:Array Edge}{y s:Operand}{M D:ay.ay}{rest:List Oper}{E:Prop}{cs:Array Value}{xs:List Value}{k:aj.Bs}
theorem yJ0{p:Prop} (h:p:=by rw [show ints l=l.flatMap λi=>[Value.int .i64 i] from by unfold ints;exact List.map_eq_flatMap]at h;exact h):p:=h
theorem yO0{p:Prop} (h:p:=by rw [pq _ _ lG.o];kernel_rfl):p:=h
theorem zG0{p:Prop} (h:p:=by have:=Hb.o;have:=HB.o;omega):p:=h
namespace Go.aj
theorem Yn {l:Bs} (h:l.length=4):∃ c0 c1 c2 c3,l=[c0,c1,c2,c3]:=by
 match l,h with
 |[c0,c1,c2,c3],_=>exact ⟨c0,c1,c2,c3,rfl⟩
theorem ER {x:aI} (h:(encode x).2=0):check x=0/\(encode x).1=le (crc (body x)) 4++body x:=by
 unfold encode at *
 split at h
 ·rename_i hc;exact absurd h hc
 ·rename_i hc;rw [abj hc];exact ⟨by simpa using hc,rfl⟩
theorem EL {x:aI} (h:check x=0):x.tag=0/\x.data.length<=16384\/x.tag=2/\x.key=zero32/\x.data=[]\/x.tag=1/\x.data=[]:=by
 unfold check at h;split at h
 ·rename_i t;split at h
  ·cases h
  ·exact .inl ⟨t,by omega⟩
 split at h
 ·rename_i t;split at h
  ·cases h
  rename_i hk;split at h
  ·cases h
  rename_i hd;exact .inr (.inl ⟨t,by simpa using hk,agZ oQ⟩)
 split at h
 ·rename_i t;split at h
  ·cases h
  rename_i hd;exact .inr (.inr ⟨t,agZ oQ⟩)
 ·cases h
theorem RG {x:aI} (h:(encode x).2=0) (hk:x.key.length=32) (rest:Bs):read ((encode x).1++rest)=(x,(encode x).1.length,0):=by
 have hz:=Seg.Ba h hk;obtain ⟨hc,he⟩:=ER h;have hs:size x=9\/41<=size x:=by
  unfold size;rw [abj (by simp [hc])];by_cases ht:x.tag=2
  ·rw [acg ht];omega
  ·rw [abj ht];omega
 have hs2:size x<=16425:=by
  rcases EL hc with ⟨t,d⟩|⟨t,k,d⟩|⟨t,d⟩
  all_goals
   unfold size;rw [abj (by simp [hc])];by_cases ht:x.tag=2
   ·rw [acg ht];omega
   ·rw [abj ht]
    first|omega|(rw [d];simp)
 obtain ⟨c0,c1,c2,c3,hC⟩:=Yn (jk (crc (body x)) 4);obtain ⟨s0,s1,s2,s3,hS⟩:=Yn (jk (size x) 4);have hnum:num [s0,s1,s2,s3]=size x:=by rw [<-hS];exact AB 4 _ oQ
 have Ah:num [c0,c1,c2,c3]=crc (body x):=by rw [<-hC];exact AB 4 _ (OL _)
 have hb:body x=[s0,s1,s2,s3]++(UInt8.ofNat x.tag.toNat::((if x.tag=2 then [] else x.key)++x.data)):=by unfold body;rw [hS];simp
 have hE:(encode x).1=c0::c1::c2::c3::s0::s1::s2::s3::UInt8.ofNat x.tag.toNat::((if x.tag=2 then [] else x.key)++x.data):=by rw [he,hC,hb];rfl
 have hlen:((if x.tag=2 then [] else x.key)++x.data).length+9=size x:=by rw [<-hz,hE];simp
 have hT:UInt8.ofNat x.tag.toNat=0/\x.tag=0/\41<=size x\/UInt8.ofNat x.tag.toNat=1/\x.tag=1/\size x=41\/UInt8.ofNat x.tag.toNat=2/\x.tag=2/\size x=9:=by
  rcases EL hc with ⟨t,d⟩|⟨t,k,d⟩|⟨t,d⟩
  ·left;rw [t];refine ⟨rfl,rfl,?_⟩;unfold size;rw [abj (by simp [hc]),abj (by rw [t];decide)];omega
  ·right;right;rw [t];refine ⟨rfl,rfl,?_⟩;unfold size;rw [abj (by simp [hc]),acg t]
  ·right;left;rw [t];refine ⟨rfl,rfl,?_⟩;unfold size;rw [abj (by simp [hc]),abj (by rw [t];decide),d];rfl
 have hfit:fits (UInt8.ofNat x.tag.toNat) (size x)=true:=by
  rcases hT with ⟨a,_,b⟩|⟨a,_,b⟩|⟨a,_,b⟩
  ·rw [a];unfold fits;rw [acg rfl,adY];omega
  ·rw [a];unfold fits;rw [abj aN,acg rfl,adY];omega
  ·rw [a];unfold fits;rw [abj aN,abj aN,acg rfl,adY];omega
 generalize hP:(if x.tag=2 then [] else x.key)++x.data=P at *
 generalize hG:UInt8.ofNat x.tag.toNat=T at *
 have hL:((encode x).1++rest)=c0::c1::c2::c3::s0::s1::s2::s3::T::(P++rest):=by rw [hE];rfl
 have hll:(c0::c1::c2::c3::s0::s1::s2::s3::T::(P++rest)).length=size x+rest.length:=by simp;omega
 have htk:(c0::c1::c2::c3::s0::s1::s2::s3::T::(P++rest)).take (size x)=c0::c1::c2::c3::s0::s1::s2::s3::T::P:=by
  have:c0::c1::c2::c3::s0::s1::s2::s3::T::(P++rest)=(c0::c1::c2::c3::s0::s1::s2::s3::T::P)++rest:=rfl;rw [this,aeC yW0,ad9 yW0]
 rw [hz,hL];unfold read;dsimp only;rw [abj (by rw [hll];omega)];have hn:num (((c0::c1::c2::c3::s0::s1::s2::s3::T::(P++rest)).drop 4).take 4)=size x:=hnum;have h8:(c0::c1::c2::c3::s0::s1::s2::s3::T::(P++rest)).getD 8 0=T:=rfl;have h4:num ((c0::c1::c2::c3::s0::s1::s2::s3::T::(P++rest)).take 4)=crc (body x):=Ah;rw [hn,h8,hfit,abj aN,abj (by rw [hll];omega),htk,h4];have hdr:(c0::c1::c2::c3::s0::s1::s2::s3::T::P).drop 4=body x:=by rw [hb];rfl
 rw [hdr,abj yF0];have h9:(c0::c1::c2::c3::s0::s1::s2::s3::T::(P++rest)).drop 9=P++rest:=rfl;have qH:(c0::c1::c2::c3::s0::s1::s2::s3::T::P).drop 41=P.drop 32:=rfl;rw [h9,qH];rcases hT with ⟨a,t,b⟩|⟨a,t,b⟩|⟨a,t,b⟩
 ·rw [acg b];rw [abj (by rw [t];decide)]at hP;have e1:(P++rest).take 32=x.key:=by rw [<-hP,adQ,aeC oQ,ad9 oQ]
  have e2:P.drop 32=x.data:=by rw [<-hP,apU,aew oQ,hk];simp
  rw [e1,e2,a];obtain ⟨tag,key,data⟩:=x;simp only at t ⊢;rw [t];rfl
 ·rw [acg oQ];rw [abj (by rw [t];decide)]at hP;have e1:(P++rest).take 32=x.key:=by rw [<-hP,adQ,aeC oQ,ad9 oQ]
  have e2:P.drop 32=x.data:=by rw [<-hP,apU,aew oQ,hk];simp
  rw [e1,e2,a];obtain ⟨tag,key,data⟩:=x;simp only at t ⊢;rw [t];rfl
 ·rw [abj oQ,a];rcases EL hc with ⟨t',d⟩|⟨t',k,d⟩|⟨t',d⟩
  ·rw [t]at t';cases t'
  ·obtain ⟨tag,key,data⟩:=x;simp only at t k d ⊢;rw [t,k,d];rfl
  ·rw [t]at t';cases t'
def encs (l:List aI):Bs:=l.flatMap λx=>(encode x).1
def gu (x:aI):Prop:=(encode x).2=0/\x.key.length=32
def dI:List aI->Nat->List dD
 |[],_=>[]
 |x::l,at_=>⟨x,at_,(encode x).1.length⟩::dI l (at_+(encode x).1.length)
theorem yA:∀ (l:List aI) (at_:Nat),(dI l at_).map (·.e)=l
 |[],_=>rfl
 |x::l,at_=>by rw [dI,ad7,yA l]
theorem XM {x:aI} (h:gu x):0<(encode x).1.length:=apO.2 (Seg.XL x h.1)
theorem acG:∀ (l:List aI) (k at_:Nat),(∀ x∈l,gu x)->(encs l).length<=k->oZ k (encs l) at_=(dI l at_,at_+(encs l).length,0)
 |[],k,at_,_,_=>by
  cases k with
  |zero=>rfl
  |succ k=>rfl
 |x::l,k,at_,hg,hk=>by
  have h1:=hg x (.head _);have e:encs (x::l)=(encode x).1++encs l:=rfl;have hp:=XM h1;rw [e,aaL]at hk;cases k with
  |zero=>omega
  |succ k=>
   have hr:=RG h1.1 h1.2 (encs l);have hd:((encode x).1++encs l).drop (encode x).1.length=encs l:=by simp
   rw [e];unfold oZ;rw [abj (by intro hh;have:=aey List.length hh;rw [aaL]at this;simp only [aeL]at this;omega),hr];simp only [ne_eq,not_true_eq_false,apA,hd];rw [acG l k (at_+(encode x).1.length) (λy hy=>hg y (.tail _ hy)) oQ];simp only [dI,aaL,apB]
theorem Le (l:List aI) (hg:∀ x∈l,gu x):scan (Seg.mag++encs l)=(dI l 8,(Seg.mag++encs l).length,0):=by
 unfold scan;rw [acg ah];have e:(Seg.mag++encs l).drop 8=encs l:=rfl;rw [e,acG l _ 8 hg (by rw [aaL];omega),aaL]
 rfl
end Go.aj
namespace Go.Seg
open Go.ay
open Go.aj (encs gu)
theorem FX {a b:Int} (ha:0<=a) (ha2:a<1048576) (hb:0<=b) (hb2:b<1048576) (h:name a=name b):a=b:=by
 have h1:=Ku a ha ha2;have h2:=Ku b hb hb2;rw [h]at h1;rw [h1]at h2;exact aey Prod.fst h2
theorem Pj (n:Int) (h1:0<=n) (h2:n<1048576):good (name n)=true:=by
 unfold name;rw [abj oQ];unfold good;have hl:(lead++iW n.toNat 8).length=12:=by rw [aaL,wJ];rfl
 have hs:(⟨(lead++iW n.toNat 8).toArray⟩:ByteArray).size=12:=by show (lead++iW n.toNat 8).toArray.size=12;simp [hl]
 rw [hs];simp only [aiJ];have hd:(iW n.toNat 8).all oO=true:=by
  rw [ae0];intro c hc;have:=(ae0.1 (OQ 8 n.toNat)) c hc;unfold nJ at this;rw [aev,adY,adY]at this;unfold oO;have e1:(48:UInt8)<=c:=UInt8.le_iff_toNat_le.2 this.1;have e2:c<=57:=UInt8.le_iff_toNat_le.2 this.2;simp [e1,e2]
 rw [hd]
 rfl
theorem agY {M:ay}{K r:Nat} (h:Calm K r M){s t:ByteArray}{i:Nat} (h1:bU M.now s=some i) (h2:bU M.now t=some i):t=s:=by
 by_cases e:t=s
 ·exact e
 ·exfalso;have:=(Un h.ok.ig.ny h.dst h1).1 (t,i) (aem.2 ⟨jD h2,by simpa [bne,oL] using e⟩);exact this rfl
theorem all_some {M:ay} (q:Quiet M){s:ByteArray}{i:Nat} (h:bU M.now s=some i):M.all s=((M.file i).now,0):=by
 unfold ay.all;rw [q.off,h];rfl
theorem all_none {M:ay} (q:Quiet M){s:ByteArray} (h:bU M.now s=none):M.all s=([],9):=by
 unfold ay.all;rw [q.off,h];rfl
section
variable {K r:Nat}{M:ay}{L:Log}
theorem I4 (h:Calm K r M){s:ByteArray}{i:Nat} (hi:bU M.now s=some i) (b:Bs) (hr:M.used+b.length<=M.room) :
  (M.append s b).2=0/\(M.append s b).1.now=M.now/\(M.append s b).1.used=M.used+b.length/\(M.append s b).1.all s=((M.all s).1++b,0)/\∀ t,t≠s->(M.append s b).1.all t=M.all t:=by
 have hlt:i<M.files.length:=h.ok.ig.ids _ (jD hi);rcases wF h.quiet s b with ⟨a1,_⟩|⟨j,a1,⟨a2,a3⟩|⟨a2,a3⟩⟩
 ·rw [hi]at a1;cases a1
 ·exfalso;omega
 rw [hi]at a1;cases a1;have hq:=(h.append s b).quiet;rw [a3]at hq ⊢;refine ⟨rfl,rfl,?_,?_,λt ht=>?_⟩
 ·have:=adp h.ok h.dst hi ((M.file i).do ⟨false,0,b⟩);have e:((M.file i).do ⟨false,0,b⟩).now.length=(M.file i).now.length+b.length:=by simp [bK.do,jm.on]
  rw [e]at this;show (M.jf i _).used=_;omega
 ·rw [all_some hq (show bU (M.jf i _).now s=some i from hi),all_some h.quiet hi];show (((M.jf i _).file i).now,(0:Int))=_;rw [EU hlt,acg rfl];rfl
 ·cases hj:bU M.now t with
  |none=>rw [all_none hq (show bU (M.jf i _).now t=none from hj),all_none h.quiet hj]
  |some j=>
   rw [all_some hq (show bU (M.jf i _).now t=some j from hj),all_some h.quiet hj];show (((M.jf i _).file j).now,(0:Int))=_;rw [EU hlt,abj (λe=>ht (agY h hi (by rw [<-e];exact hj)))]
theorem Jg (h:Calm K r M){s:ByteArray} (hg:good s=true) (hn:bU M.now s=none) (hl:M.now.length<500) :
  (M.create s).2=0/\(M.create s).1.now=kV M.now s M.files.length/\(M.create s).1.used=M.used/\(M.create s).1.all s=([],0)/\∀ t,t≠s->(M.create s).1.all t=M.all t:=by
 rcases EN h.quiet s with ⟨c1,c2,c3⟩|⟨_,_,_,c⟩
 ·exfalso;apply c1;unfold ay.create;rw [h.quiet.off,h.quiet.step,hg,hn];simp only [afX,apA,Bool.true_eq_false,Option.isSome_none];rw [abj oQ]
 have hq:=(h.create s).quiet;rw [c]at hq ⊢;refine ⟨rfl,rfl,?_,?_,λt ht=>?_⟩
 ·show ((kV M.now s M.files.length).map λp=>((M.files++[bK.new]).getD p.2 bK.new).now.length).sum=_;rw [DN _ _ _ (λj=>((M.files++[bK.new]).getD j bK.new).now.length),yH hn];have e0:((M.files++[bK.new]).getD M.files.length bK.new).now.length=0:=by simp [bK.new]
  rw [e0,ad8];refine ay.Lu (g:=λj=>((M.files++[bK.new]).getD j bK.new).now.length) (h:=λj=>(M.file j).now.length) λp hp=>?_;have:=h.ok.ig.ids p hp;simp only [ay.file,adT];rw [aej this]
 ·refine (all_some hq (i:=M.files.length) (CZ h.ok.ig.ny _ _)).trans ?_;simp [ay.file,bK.new]
 ·have e:=CY (l:=M.now) (i:=M.files.length) ht;cases hj:bU M.now t with
  |none=>rw [hj]at e;exact (all_none hq e).trans (all_none h.quiet hj).symm
  |some j=>
   rw [hj]at e;refine (all_some hq e).trans ?_;rw [all_some h.quiet hj];have:=h.ok.ig.ids _ (jD hj);simp only [ay.file,adT];rw [aej this]
theorem abJ (q:Quiet M){s:ByteArray}{l:Bs} (h:M.all s=(l,0)){a n:Nat} (hn:a+n<=l.length):M.read s a n=((l.drop a).take n,0):=by
 unfold ay.all at h;unfold ay.read;rw [q.off]at h ⊢;simp only [afX,apA]at h ⊢;split at h
 ·cases h
 ·rename_i i hi;cases h;rw [abj oQ,abj oQ];simp
theorem Log.am7 (L:Log) (M:ay):(L.shut M).1.1.limit=L.limit:=by
 unfold Log.shut;split
 ·rfl
 split
 ·split <;> rfl
 ·rfl
structure Holds (n:Nat) (L:Log) (M:ay) (C:List (List aj.aI)):Prop where
 keeps:Keeps (n*5) 1048576 L M
 len:L.l.length=C.length
 at_:∀ (k:Nat) (es:List aj.aI),C[k]?=some es->L.l[k]?=some ((k:Int),8+((encs es).length:Int))
 file:∀ (k:Nat) (es:List aj.aI),C[k]?=some es->M.all (name k)=(mag++encs es,0)
 good:∀ es∈C,(∀ x∈es,gu x)/\es≠[]
 fit:∀ es∈C,8+((encs es).length:Int)<=L.limit\/es.length=1
 count:C.length<=n
 used:M.used<=n*400
 names:M.now.length<=n
 only:∀ (s:ByteArray) (i:Nat),bU M.now s=some i->∃ k:Nat,k<C.length/\s=name k
def put (C:List (List aj.aI)) (on:Bool) (x:aj.aI):List (List aj.aI):=if on then C.dropLast++[C.getLastD []++[x]] else C++[[x]]
theorem JO {C:List (List aj.aI)} (h:C≠[]):C=C.dropLast++[C.getLastD []]:=by
 conv=>lhs;rw [<-List.dropLast_concat_getLast h]
 rw [List.getLastD_eq_getLast?,List.getLast?_eq_some_getLast h];rfl
theorem abt (C:List (List aj.aI)) (on:Bool) (x:aj.aI) (h:on=true->C≠[]):(put C on x).flatten=C.flatten++[x]:=by
 unfold put;cases on with
 |false=>simp
 |true=>
  have e:=JO (h rfl);simp only [apa]
  conv=>rhs;rw [e]
  simp only [List.flatten_append,ao1,List.flatten_nil,adV,adQ]
theorem yu (a b:List aj.aI):encs (a++b)=encs a++encs b:=by unfold encs;rw [aeB]
theorem ES (x:aj.aI):encs [x]=(aj.encode x).1:=by unfold encs;simp
variable {n:Nat}{C:List (List aj.aI)}
theorem ag2 {x:aj.aI} (h0:(aj.encode x).2=0) (hk:x.key.length=32) (hd:x.data.length<=300):(aj.encode x).1.length<=341:=by
 rw [Ba h0 hk];unfold aj.size;split
 ·omega
 ·split <;> omega
end
structure Cal where
 kind:Int
 e:aj.aI
 n:Int
 p:aV
 l:List Int
def Cal.cut (c:Cal):Cal:=⟨c.kind,aj.Xk 300 c.e,c.n,c.p,c.l.take 60⟩
end Go.Seg
namespace Go.Proofs.Y
open Go.ay
theorem alq {k:Nat}{l:List Int}{a:Option Addr}{n c:Nat} (h:bF 1 (.slice a n c) (ints l) w):bF 1 (.slice a (min n k) c) (ints (l.take k)) w:=by
 obtain ⟨a',n',c',he,hl,hx⟩:=h;cases he;have hil:∀ l:List Int,(ints l).length=l.length:=λl=>aa4 ..;rw [hil,aes]at hl;refine ⟨a,_,c,rfl,by rw [hil,ads];omega,λj y hj=>?_⟩;have hj':(ints l)[j]?=some y:=by
  unfold ints at hj ⊢;rw [aoU,aeY]at hj;split at hj
  ·exact hj
  ·cases hj
 exact hx j y hj'
theorem Mc (x lo hi:Int) (h:lo<=hi):lo<=within x lo hi/\within x lo hi<=hi:=by
 unfold within;split
 ·exact ⟨aoZ _,h⟩
 ·split <;> omega
end Go.Proofs.Y
namespace Go.Seg
open Go.ay
theorem Jc {K:Nat}{L:Log}{M:ay} (h:M.Ok K) (n:Int):(L.bytes M n).1.length<=16777216:=by
 unfold Log.bytes;split
 ·simp
 ·unfold ay.all;split
  ·simp
  split
  ·simp
  ·exact (h.file _).vG
open Go.ay
open Go.aj (encs gu)
section
variable {n:Nat}{M:ay}{L:Log}{C:List (List aj.aI)}
def ahI (C:List (List aj.aI)):Prop:=∀ es∈C,∀ (k:Nat) (x:aj.aI),es[k]?=some x->x.tag=2->k+1=es.length
def akI (es:List aj.aI):Prop:=∀ x∈es,x.tag≠2
structure Tail (on:Bool) (C:List (List aj.aI)):Prop where
 last:ahI C
 tail:on=true->akI (C.getLastD [])
theorem uX {k:Nat} (h:L.fits k=true):L.on=true:=by
 unfold Log.fits at h;rw [aev]at h;exact h.1
end
end Go.Seg
namespace Go.Proofs.Y
open Go.ay
theorem O5 {fs:List (aj.dD×Value)}{v:Value} (hk:∀ p∈fs,p.1.e.key.length=32) (h:Sat w0 w (aC 54 36 v (jO fs)::R)):∃ a c,v=.slice a fs.length c:=by
 obtain ⟨a,n,c,rfl,hl,hx⟩:=Sat.rd h;rw [Ye hk]at hl;obtain rfl:n=fs.length:=by omega
 exact ⟨a,c,rfl⟩
theorem Xo:∀ (fs:List (aj.dD×Value)) (i:Nat) (p:aj.dD×Value),fs[i]?=some p->∃ G,lI fs=star (bQ p.2 p.1.e.data) G
 |[],_,_,h=>by cases h
 |x::fs,0,p,h=>by
  obtain rfl:x=p:=by simpa using h
  exact ⟨_,rfl⟩
 |x::fs,i+1,p,h=>by
  obtain ⟨G,hG⟩:=Xo fs i p yP0;refine ⟨star (bQ x.2 x.1.e.data) G,?_⟩;show star (bQ x.2 x.1.e.data) (lI fs)=_;rw [hG,yZ]
theorem Jh {fs:List (aj.dD×Value)}{i:Nat}{p:aj.dD×Value} (h:fs[i]?=some p):Ro w0 (lI fs::R) (bF 1 p.2 (aA p.1.e.data)):=λw hw=>by
 obtain ⟨G,hG⟩:=Xo fs i p h;rw [hG]at hw;exact Sat.rd (Sat.star.1 hw)
theorem Oz {l:Bs} (h:Sat w0 w (bQ v l::R)):lY v/\∃ a c,v=.slice a l.length c:=by
 refine ⟨afT h,?_⟩;obtain ⟨a,n,c,rfl,_,_,rfl⟩:=BU h;exact ⟨a,c,rfl⟩
end Go.Proofs.Y
namespace Go.aj
theorem acF:∀ (k:Nat) (b:Bs) (at_:Nat),(oZ k b at_).1.length<=k
 |0,_,_=>abl 0
 |k+1,b,at_=>by
  unfold oZ;split
  ·exact aea _
  split
  ·exact aea _
  ·simp only [aep];have:=acF k;exact Nat.succ_le_succ (this _ _)
theorem Tz (b:Bs):(scan b).1.length<=b.length:=by
 unfold scan;split
 ·exact acF _ _ _
 ·exact aea _
end Go.aj
namespace Go.Proofs.Y
open Go.ay
abbrev dF (L:Seg.Log) (M:ay):Rep.Told:=λn=>L.bytes M n
section
variable {L:Seg.Log}
theorem split_c (hL:L.Ok) (hM:M.Ok K) (hH:Ro w0 F Half) (h:Sat w0 w (aC 3 1 sv (ints L.aF)::aK p m L::aJ m M::F)) :
  Calls prog 111 #[ptr p,sv] w (aP λv w'=>v=.tuple #[.int .i64 (Rep.split (dF L M) L.aF L.aF.length).1,errno (Rep.split (dF L M) L.aF L.aF.length).2] /\
   Sat w0 w' (aC 3 1 sv (ints L.aF)::aK p m L::aJ m M::F)):=by
 have HL:=uQ hL;have HM:=uQ hM;have HH:=uQ hH;have Hlen:=uQ (show L.aF.length<=1073741824 from by unfold Seg.Log.aF;rw [aa4];have:=hL.len;omega);obtain ⟨sa,sc,rfl⟩:∃ a c,sv=.slice a L.aF.length c:=by
  obtain ⟨a,n,c,rfl,hl,_⟩:=Sat.rd h;refine ⟨a,c,?_⟩;rw [show (ints L.aF).length=L.aF.length from aa4 ..,aes]at hl;rw [hl]
 have w1:IntKind.i64.wrap ((L.aF.length:Int)-1)=(L.aF.length:Int)-1:=adr _ yM0;clear hL hM hH;go_enter func111,ntmps111;go_wp2_with fail
 go_loopg [6] L.aF.length (λg iq wr=>∃ k:Nat,g=0+k/\k<=L.aF.length/\iq=.int .i64 ((k:Int)-1)/\Rep.split (dF L M) L.aF L.aF.length=Rep.split (dF L M) L.aF k /\
  Sat w0 wr (aC 3 1 (.slice sa L.aF.length sc) (ints L.aF)::aK p m L::aJ m M::F))
 case atStart=>exact ⟨L.aF.length,(ad8 _).symm,abl _,rfl,rfl,h⟩
 case round=>
  obtain ⟨k,rfl,hk,rfl,he,hS⟩:=hrel;clear h;cases k with
  |zero=>
   have c1:¬ (((0:Nat):Int)-1)>=0:=by decide
   have He:=uQ he;clear he;go_wp2_with fail
   go_ret2
   rw [He.o];exact ⟨_,rfl,rfl,hS⟩
  |succ k=>
   have e1:((k+1:Nat):Int)-1=(k:Int):=oQ;rw [e1];have c1:(k:Int)>=0:=oQ;have c2:(k:Int)<(L.aF.length:Int):=oQ;have w2:IntKind.i64.wrap ((k:Int)-1)=(k:Int)-1:=adr _ yM0;have w3:IntKind.i64.wrap ((k:Int)+1)=((k+1:Nat):Int):=by rw [adr _ yM0];omega
   obtain ⟨s,hs⟩:∃ s,L.aF[k]?=some s:=⟨_,aay oQ⟩;have hgd:L.aF.getD k 0=s:=by rw [List.getD,hs];rfl
   have Hu:=uQ (show Rep.split (dF L M) L.aF (k+1)=if (L.bytes M s).2≠0 then (0,(L.bytes M s).2) else if (aj.scan (L.bytes M s).1).2.2=0/\Rep.yw (aj.scan (L.bytes M s).1).1=true then (k+1,0) else Rep.split (dF L M) L.aF k by
    rw [Rep.split,hgd])
   obtain ⟨bk,off,cc,hsv,hcell⟩:=jd (f:=λi:Int=>[Value.int .i64 i]) (k:=1) (l:=L.aF) (λu _=>rfl) (by have:=Sat.rd hS;rw [show ints L.aF=L.aF.flatMap λi=>[Value.int .i64 i] from by unfold ints;exact List.map_eq_flatMap]at this;exact this) hs aN;cases hsv;have f0:=hcell 0 _ rfl;rw [aes,ai6]at f0;have He:=uQ he;have hb:=Qr HL.o HM.o s (hS.sb:Sat w0 wr (aK p m L::aJ m M::aC 3 1 (.slice (some ⟨bk,off,none⟩) L.aF.length sc) (ints L.aF)::F));have hk':=uQ hk;clear hcell hs hgd he hS hk;go_wp2_with fail;refine hb.mono ?_;rintro ee w3 ⟨v,rfl,bv,rfl,hS3⟩;clear hb;obtain ⟨hcap,ca,cc,rfl⟩:=Oz hS3;by_cases h0:(L.bytes M s).2=0;rotate_left
   ·have hb:((L.bytes M s).2 != 0)=true:=by rw [afZ];exact h0
    have Hf:=uQ (show Rep.split (dF L M) L.aF (k+1)=(0,(L.bytes M s).2) by rw [Hu.o,acg h0]);clear h0;go_wp2_with fail
    go_ret2
    rw [He.o,Hf.o];exact ⟨_,rfl,rfl,hS3.sb⟩
   have hb:((L.bytes M s).2 != 0)=false:=by rw [h0];rfl
   have H0:=uQ h0;rw [h0];clear h0;have hbl:=Seg.Jc (L:=L) HM.o s;have hsc:=O9 (w0:=w0) (w:=w3) (L.bytes M s).1 (Ro.bQ _ _) hcap (Ro.os HH.o) (adt hbl aN) hS3;have oz:=uQ hbl;clear hcap hbl;go_wp2_with fail;refine hsc.mono ?_;rintro ee w4 ⟨v,rfl,fs,fv,hfs,hfk,rfl,hS4⟩;clear hsc hS3;obtain ⟨fa,fc,rfl⟩:=O5 hfk hS4;have hS5:Sat w0 w4 (aC 3 1 (.slice (some ⟨bk,off,none⟩) L.aF.length sc) (ints L.aF)::aK p m L::aJ m M::F):=hS4.sb;by_cases h1:(aj.scan (L.bytes M s).1).2.2=0;rotate_left
   ·have hb1:((aj.scan (L.bytes M s).1).2.2==0)=false:=by rw [adX];exact h1
    have Hf:=uQ (show Rep.split (dF L M) L.aF (k+1)=Rep.split (dF L M) L.aF k by rw [Hu.o,abj (λh=>h H0.o),abj (λh=>h1 h.1)]);clear h1 hS4 hfs hfk;go_wp2_with fail
    go_roundg (0+k)
    case measure=>omega
    case rel=>exact ⟨k,rfl,Nat.le_of_succ_le hk'.o,by first|rfl|go_num,He.o.trans Hf.o,hS5⟩
   have hb1:((aj.scan (L.bytes M s).1).2.2==0)=true:=ai5.2 h1
   have hen:=ag4 (w:=w4) fs hfk (by
    have:=aj.Tz (L.bytes M s).1;rw [<-hfs,aa4]at this;have:=oz.o;omega) (Sat.rd hS4)
   rw [hfs]at hen;clear hS4 hfs hfk;by_cases h2:Rep.yw (aj.scan (L.bytes M s).1).1=true
   ·have Hf:=uQ (show Rep.split (dF L M) L.aF (k+1)=(k+1,0) by rw [Hu.o,abj (λh=>h H0.o),acg ⟨h1,h2⟩]);rw [h2]at hen;clear h1 h2;go_wp2_with fail;refine hen.mono ?_;rintro ee w5 ⟨v,rfl,rfl,rfl⟩;clear hen;go_wp2_with fail
    go_ret2
    rw [He.o,Hf.o];exact ⟨_,rfl,rfl,hS5⟩
   ·have Hf:=uQ (show Rep.split (dF L M) L.aF (k+1)=Rep.split (dF L M) L.aF k by rw [Hu.o,abj (λh=>h H0.o),abj (λh=>h2 h.2)]);rw [ap8]at h2;rw [h2]at hen;clear h1 h2;go_wp2_with fail;refine hen.mono ?_;rintro ee w5 ⟨v,rfl,rfl,rfl⟩;clear hen;go_wp2_with fail
    go_roundg (0+k)
    case measure=>omega
    case rel=>exact ⟨k,rfl,Nat.le_of_succ_le hk'.o,by first|rfl|go_num,He.o.trans Hf.o,hS5⟩
end
theorem yU {L R:List aG}{b:Nat}{T:TypeId}{cs:Array Value}{fn:Func}{p:Tmp}{tmps:Array Value}{d:TypeDesc} (hf:fn.results=#[.cell p ty]) (hs:Sat w0 w L) (hp:tmps.getD p undef=.pointer (some ⟨b,0,none⟩)) (k:Pick (pt b (.cells cs T (0,0))) L R)
  (hu:P.underlying ty=some d) (hd:d.isRow=true) (hi:(P.info? ty).map (·.size)=some cs.size):(results fn tmps).run P w=.ok (.agg cs) w:=by
 have hl:=run_loadVar_row (P:=P) w b T ty cs (0,0) d (hs.pick k).at hu (by cases d <;> simp_all [TypeDesc.isRow]) hi;have e:(results fn tmps).run P w=((asAddr (tmps.getD p undef)).run P w).andThen λa w₁=>(loadVar ty a).run P w₁:=by
  simp only [results,hf];simp [ad1,Result.andThen]
 rw [e,hp];simp [asAddr,hl,Result.andThen]
end Go.Proofs.Y
namespace Go.Rep
def lastOf (bt:Told) (ns:List Int):Int×Int:=
 if (split bt ns ns.length).2≠0 then (0,(split bt ns ns.length).2) else if (split bt ns ns.length).1=0 then (-1,0) else (ns.getD ((split bt ns ns.length).1-1) 0,0)
end Go.Rep
namespace Go.Proofs.Y
open Go.ay
section
variable {L:Seg.Log}
theorem tY {sv:Value}{l:List Int}{i:Nat}{s:Int} (h:bF 1 sv (ints l) w) (hs:l[i]?=some s):∃ bk off c,sv=.slice (some ⟨bk,off,none⟩) l.length c/\w.cell? ⟨bk,off+i,none⟩=some (.int .i64 s):=by
 obtain ⟨bk,off,cc,hsv,hcell⟩:=jd (f:=λi:Int=>[Value.int .i64 i]) (k:=1) (l:=l) (λu _=>rfl) yJ0 hs aN;have f0:=hcell 0 _ rfl;rw [aes,ai6]at f0;exact ⟨bk,off,cc,hsv,f0⟩
theorem FI {sv:Value}{l:List Int} (h:bF 1 sv (ints l) w):∃ a c,sv=.slice a l.length c:=by
 obtain ⟨a,n,c,rfl,hl,_⟩:=h;refine ⟨a,c,?_⟩;rw [show (ints l).length=l.length from aa4 ..,aes]at hl;rw [hl]
theorem FN (hL:L.Ok) (hM:M.Ok K) (hH:Ro w0 F Half) (h:Sat w0 w (aK p m L::aJ m M::F)) :
  Calls prog 105 #[ptr p] w (aP λv w'=>v=.tuple #[.int .i64 (Rep.lastOf (dF L M) L.aF).1,errno (Rep.lastOf (dF L M) L.aF).2]/\Sat w0 w' (aK p m L::aJ m M::F)):=by
 have Hlen:=uQ (show L.aF.length<=1073741824 from by unfold Seg.Log.aF;rw [aa4];have:=hL.len;omega);have hse:=FV hL h;have HL:=uQ hL;have HM:=uQ hM;have HH:=uQ hH;clear hL hM hH h;go_enter func105,ntmps105;go_wp2_with fail;refine hse.mono ?_;rintro ee w1 ⟨v,rfl,hS⟩;clear hse;have hsp:=split_c HL.o HM.o HH.o hS;go_wp2_with fail;refine hsp.mono ?_;rintro ee w2 ⟨v',rfl,rfl,hS2⟩;clear hsp hS;have qX:=uQ (Rep.TK (dF L M) L.aF L.aF.length);have HS:=uQ (hS2.sb:Sat w0 w2 (aK p m L::aJ m M::F));have hrd:=Sat.rd hS2;clear hS2;by_cases h0:(Rep.split (dF L M) L.aF L.aF.length).2=0
 ·have hb:((Rep.split (dF L M) L.aF L.aF.length).2 != 0)=false:=by rw [h0];rfl
  by_cases h1:(Rep.split (dF L M) L.aF L.aF.length).1=0
  ·have Hf:=uQ (show Rep.lastOf (dF L M) L.aF=(-1,0) by unfold Rep.lastOf;rw [abj (λh=>h h0),acg h1]);have hb1:(((Rep.split (dF L M) L.aF L.aF.length).1:Int)==0)=true:=by rw [h1];rfl
   clear hrd h0 h1;go_wp2_with fail
   go_ret2
   rw [Hf.o];exact ⟨_,rfl,rfl,HS.o⟩
  ·have Hf:=uQ (show Rep.lastOf (dF L M) L.aF=(L.aF.getD ((Rep.split (dF L M) L.aF L.aF.length).1-1) 0,0) by unfold Rep.lastOf;rw [abj (λh=>h h0),abj h1]);have hle:=qX.o;generalize (Rep.split (dF L M) L.aF L.aF.length).1=n at *
   have hb1:((n:Int)==0)=false:=by rw [adX];omega
   have w1:IntKind.i64.wrap ((n:Int)-1)=((n-1:Nat):Int):=by rw [adr _ yM0];omega
   have hlt:n-1<L.aF.length:=oQ;have hs:L.aF[n-1]?=some (L.aF.getD (n-1) 0):=by rw [List.getD,aay hlt];rfl
   generalize L.aF.getD (n-1) 0=s at *
   generalize n-1=j at *
   obtain ⟨bk,off,c,rfl,f0⟩:=tY hrd hs;have c1:(0:Int)<=(j:Int):=oQ;have c2:(j:Int)<(L.aF.length:Int):=oQ;clear hrd h0 h1 hs hlt hle;go_wp2_with fail
   go_ret2
   rw [Hf.o];exact ⟨_,rfl,rfl,HS.o⟩
 ·have hb:((Rep.split (dF L M) L.aF L.aF.length).2 != 0)=true:=by rw [afZ];exact h0
  have Hf:=uQ (show Rep.lastOf (dF L M) L.aF=(0,(Rep.split (dF L M) L.aF L.aF.length).2) by unfold Rep.lastOf;rw [acg h0]);clear hrd h0;go_wp2_with fail
  go_ret2
  rw [Hf.o];exact ⟨_,rfl,rfl,HS.o⟩
end
section
variable {pos:String}{x:Operand}{v2:Value}{i1 i2:Nat}
theorem ady (h1:a.eval x=v1) (h2:a.eval y=v2) (hr:∀ w,(Instr.build ty #[(i1,v1),(i2,v2)]).run P w=.ok v w) (h:wpList P ops Q rest (a.put dst v) w) :
  wpList P ops Q (⟨dst,.build ty #[(i1,x),(i2,y)],t,pos,after,none⟩::rest) a w:=
 aeV rfl λ_ hK=>by
  unfold Oper.wp execOp;simp only [aeX,ad7,aeF,h1,h2,ad1,hr,adu,aek];exact hK _ _ h
theorem Uw (hr:∀ w,(Instr.build ty #[]).run P w=.ok v w) (h:wpList P ops Q rest (a.put dst v) w):wpList P ops Q (⟨dst,.build ty #[],t,pos,after,none⟩::rest) a w:=
 aeV rfl λ_ hK=>by
  unfold Oper.wp execOp;simp only [aeX,aeF,ad1,hr,adu,aek];exact hK _ _ h
theorem vK {L R:List aG}{b:Nat}{T:TypeId}{cs:Array Value}{fn:Func}{t p u:Tmp}{tmps:Array Value}{d:TypeDesc} (hf:fn.results=#[.tmp t,.cell p ty,.tmp u]) (hs:Sat w0 w L) (hp:tmps.getD p undef=.pointer (some ⟨b,0,none⟩)) (k:Pick (pt b (.cells cs T (0,0))) L R)
  (hu:P.underlying ty=some d) (hd:d.isRow=true) (hi:(P.info? ty).map (·.size)=some cs.size):(results fn tmps).run P w=.ok (.tuple #[tmps.getD t undef,.agg cs,tmps.getD u undef]) w:=by
 have hl:=run_loadVar_row (P:=P) w b T ty cs (0,0) d (hs.pick k).at hu (by cases d <;> simp_all [TypeDesc.isRow]) hi;have e:(results fn tmps).run P w=((asAddr (tmps.getD p undef)).run P w).andThen λa w₁=>((loadVar ty a).run P w₁).andThen λv w₂=> .ok (.tuple #[tmps.getD t undef,v,tmps.getD u undef]) w₂:=by
  simp only [results,hf];simp [ad1,Result.andThen]
 rw [e,hp];simp [asAddr,hl,Result.andThen]
theorem Ws (h:Stop (wpList P ops Q (⟨dst,.build ty #[(i1,x),(i2,y)],t,pos,after,none⟩::rest) a w)):wpList P ops Q (⟨dst,.build ty #[(i1,x),(i2,y)],t,pos,after,none⟩::rest) a w:=h.o
theorem Oj (h:Stop (wpList P ops Q (⟨dst,.build ty #[],t,pos,after,none⟩::rest) a w)):wpList P ops Q (⟨dst,.build ty #[],t,pos,after,none⟩::rest) a w:=h.o
end
theorem Rk:sN prog 63=some [(0,1),(1,1),(2,1),(3,32),(35,1)]:=by kernel_rfl
theorem amg (x y:Int) (w:World):(Instr.build 63 #[(0,.int .i64 x),(1,.int .i64 y)]).run prog w=.ok (.agg (dP ⟨x,y,0⟩)) w:=by
 have h:=apP (P:=prog) [(0,.int .i64 x),(1,.int .i64 y)] Rk nO (by
  intro p hp;have hzz:(Value.agg (dP Rep.dJ.zero)).cells.size=36:=by rfl
  rw [hzz];rcases ad5.1 hp with rfl|hp
  ·exact ⟨0,rfl,by show 0+1<=36;omega⟩
  ·rw [adZ.1 hp];exact ⟨1,rfl,by show 1+1<=36;omega⟩) w
 exact h
theorem amh (x y z:Int) (w:World):(Instr.build 63 #[(0,.int .i64 x),(1,.int .i64 y),(2,.int .i64 z)]).run prog w=.ok (.agg (dP ⟨x,y,z⟩)) w:=by
 have h:=apP (P:=prog) [(0,.int .i64 x),(1,.int .i64 y),(2,.int .i64 z)] Rk nO (by
  intro p hp;have hzz:(Value.agg (dP Rep.dJ.zero)).cells.size=36:=by rfl
  rw [hzz];rcases ad5.1 hp with rfl|hp
  ·exact ⟨0,rfl,by show 0+1<=36;omega⟩
  rcases ad5.1 hp with rfl|hp
  ·exact ⟨1,rfl,by show 1+1<=36;omega⟩
  ·rw [adZ.1 hp];exact ⟨2,rfl,by show 2+1<=36;omega⟩) w
 exact h
theorem KZ (w:World):(Instr.build 63 #[]).run prog w=.ok (.agg (dP Rep.dJ.zero)) w:=apP (P:=prog) [] Rk nO yF0 w
theorem ahi (s:Int) (at_:Nat) (h:Sat w0 w F):Calls prog 114 #[.int .i64 s,.int .i64 at_] w (aP λv w'=>v=.agg (dP (Rep.fault s at_))/\Sat w0 w' F):=by
 have hone:∀ f,(dP f).size=36:=λf=>rfl;by_cases h0:at_=0
 ·have hb:((at_:Int)==0)=true:=by rw [h0];rfl
  have e:=uQ (show Rep.fault s at_=⟨1,s,0⟩ from acg h0);clear h0;go_enter func114,ntmps114;go_wp2_with (with_reducible apply fB);refine ⟨eF nO h rfl ?_⟩;intro b4 w4 h4
  go_wp2_with (first
   |((with_reducible refine Ws ⟨?_⟩);refine ady ah ah (λw=>amg 1 s w) ?_)
   |((with_reducible refine dh ⟨?_⟩);refine fP (dP ⟨1,s,0⟩) h4 ah ah ah cZ au ah ?_;intro w9 h9))
  refine ⟨rfl,_,yU rfl h9 ah bJ underlying63 rfl au,?_⟩;exact ⟨_,rfl,by rw [e.o],h9.drop⟩
 ·have hb:((at_:Int)==0)=false:=by rw [adX];omega
  have e:=uQ (show Rep.fault s at_=⟨2,s,at_⟩ from abj h0);clear h0;go_enter func114,ntmps114;go_wp2_with (with_reducible apply fB);refine ⟨eF nO h rfl ?_⟩;intro b4 w4 h4
  go_wp2_with (first
   |((with_reducible refine Wu ⟨?_⟩);refine adz ah ah ah (λw=>amh 2 s at_ w) ?_)
   |((with_reducible refine dh ⟨?_⟩);refine fP (dP ⟨2,s,at_⟩) h4 ah ah ah cZ au ah ?_;intro w9 h9))
  refine ⟨rfl,_,yU rfl h9 ah bJ underlying63 rfl au,?_⟩;exact ⟨_,rfl,by rw [e.o],h9.drop⟩
end Go.Proofs.Y
namespace Go.Rep
open Go.aj (Bs)
def Dx (bt:Told) (ns:List Int) (n:Nat):(dJ×Int) ⊕ Nat:=match bad bt (ns.take n) with
 |some x=> .inl x
 |none=> .inr n
def run (bt:Told) (ns:List Int):(dJ×Int) ⊕ Nat:=
 if (split bt ns ns.length).2≠0 then .inl (dJ.zero,(split bt ns ns.length).2) else Dx bt ns (split bt ns ns.length).1
theorem aci {bt:Told}{ns:List Int}{n:Nat}{x:dJ×Int} (h:bad bt (ns.take n)=some x):Dx bt ns n=.inl x:=by unfold Dx;rw [h]
theorem Ti {bt:Told}{ns:List Int}{n:Nat} (h:bad bt (ns.take n)=none):Dx bt ns n=.inr n:=by unfold Dx;rw [h]
def oP (l:List Int):Int:=match l.getLast? with
 |some s=>s
 |none=> -1
theorem aaJ:∀ {l:List Row}{k:Bs}{r:Row},newest l k=some r->r∈l
 |[],_,_,h=>by cases h
 |x::l,k,r,h=>by
  unfold newest at h;split at h
  ·rename_i y hy;cases h;exact .tail _ (aaJ hy)
  ·split at h
   ·cases h;exact .head _
   ·cases h
theorem ajy {l:List Row}{k:Bs}{a:dY} (h:ledger l k=some a):∃ r∈l,a.place=iP r:=by
 unfold ledger at h;cases hn:newest l k with
 |none=>rw [hn]at h;cases h
 |some r=>rw [hn]at h;cases h;exact ⟨r,aaJ hn,rfl⟩
theorem alR (bt:Told) (ns:List Int) (n:Nat):∀ r∈rowsOf bt (ns.take n),r∈rowsOf bt ns:=λr hr=>by
 unfold rowsOf at hr ⊢;obtain ⟨s,hs,h⟩:=ajc.1 hr;exact ajc.2 ⟨s,aeP hs,h⟩
theorem SC (bt:Told) (ns:List Int) (n:Nat):(rowsOf bt (ns.take n)).length<=(rowsOf bt ns).length:=by
 have e:rowsOf bt ns=rowsOf bt (ns.take n)++rowsOf bt (ns.drop n):=by
  unfold rowsOf;rw [<-aeB,aeS]
 rw [e,aaL];omega
theorem aju (l:List Int) (s:Int):oP (l++[s])=s:=by unfold oP;rw [aja];rfl
end Go.Rep
namespace Go.Proofs.Y
open Go.ay
section
variable {K:Act->World->Prop}{pos:String}
theorem Jk (hs:Sat w0 w L) (hy:a.eval y=v) (hcs:v.cells=cs)
  (hK:∀ b w',Sat w0 w' (pt b (.cells cs ty (0,0))::L)->K (a.put dst (.pointer (some ⟨b,0,none⟩))) w') :
  if Region.wanted ⟨dst,.box ty y,t,pos,after,none⟩ (yielded ops a.tmps)=true then Oper.wp P ⟨dst,.box ty y,t,pos,after,none⟩ a w K Q else E:=by
 subst hcs;refine yj rfl ?_;have hS:=hs.alloc (.cells v.cells ty);unfold Oper.wp execOp;have hrun:(Instr.box ty v).run P w=.ok (.pointer (some ⟨w.heap.size,0,none⟩)) (w.alloc (.cells v.cells ty)):=by
  simp [Instr.box,newVar,newRow,go_sem]
 simp only [hy,ad1,aek,hrun,adu];exact hK _ _ hS
end
theorem anP {l:List Int}{n:Nat} (hn:n<=l.length) (h:Sat w0 w (aC 3 1 sv (ints l)::R)) :
  ∃ tv,(∀ w,(Instr.sliceAt 29 sv (some (.int .i64 n)) none none).run prog w=.ok tv w)/\(∃ a' c',tv=.slice a' (l.length-n) c')/\∀ W,bF 1 sv (ints l) W->bF 1 tv (ints (l.drop n)) W:=by
 rcases h.lC with ⟨rfl,he,h'⟩|⟨g,k,cap,cs,rfl,hl,hk,hc,hcm,htk,hp⟩
 ·obtain rfl:l=[]:=by simpa [ints] using he
  obtain rfl:n=0:=by simpa using hn
  refine ⟨.slice none 0 0,λw=>by go_simp,⟨none,0,rfl⟩,λW hW=>by simpa using hW⟩
 ·obtain rfl:k=l.length:=by simpa [ints] using hl.symm
  by_cases hce:cap=n
  ·have hd:l.drop n=[]:=List.drop_eq_nil_of_le oQ;have e0:l.length-n=0:=oQ;rw [hd,e0];have h1:n<=cap:=oQ;have h2:l.length=n:=oQ;refine ⟨.slice (some ⟨g,0,none⟩) 0 0,λw=>?_,⟨_,_,rfl⟩,λW hW=>⟨_,_,_,rfl,rfl,λj x hj=>by cases hj⟩⟩;have h4:(0:Int)<=(n:Int):=oQ;have h5:(n:Int).toNat=n:=oQ;subst hce;go_simp
  ·refine ⟨.slice (some ⟨g,n,none⟩) (l.length-n) (cap-n),λw=>?_,⟨_,_,rfl⟩,λW hW=>?_⟩
   ·have h4:(0:Int)<=(n:Int):=by omega
    have h5:(n:Int).toNat=n:=oQ;have h6:n<=cap:=oQ;go_simp
   ·obtain ⟨a,n',c,he,hl',hx⟩:=hW;cases he;refine ⟨_,_,_,rfl,by unfold ints;rw [aa4,ad3,aes],λj x hj=>⟨_,rfl,?_⟩⟩;have hj2:(ints l)[n+j]?=some x:=by
     unfold ints at hj ⊢;rw [List.map_drop,ao5]at hj;exact hj
    obtain ⟨ad,e,hc'⟩:=hx (n+j) x hj2;cases e;rw [zS,ad8]at hc';rw [zS];exact hc'
theorem aij {l:List Int}{n:Nat} (hn:n<=l.length) (h:Sat w0 w (aC 3 1 sv (ints l)::R)) :
  ∃ a' c',(∀ w,(Instr.sliceAt 29 sv none (some (.int .i64 n)) none).run prog w=.ok (.slice a' n c') w)/\∀ W,bF 1 sv (ints l) W->bF 1 (.slice a' n c') (ints (l.take n)) W:=by
 rcases h.lC with ⟨rfl,he,h'⟩|⟨g,k,cap,cs,rfl,hl,hk,hc,hcm,htk,hp⟩
 ·obtain rfl:l=[]:=by simpa [ints] using he
  obtain rfl:n=0:=by simpa using hn
  refine ⟨none,0,λw=>by go_simp,λW hW=>by simpa using hW⟩
 ·obtain rfl:k=l.length:=by simpa [ints] using hl.symm
  refine ⟨some ⟨g,0,none⟩,cap,λw=>?_,λW hW=>?_⟩
  ·have h4:(0:Int)<=(n:Int):=by omega
   have h5:(n:Int).toNat=n:=oQ;have h6:n<=cap:=oQ;go_simp
  ·obtain ⟨a,n',c,he,hl',hx⟩:=hW;cases he;refine ⟨_,_,_,rfl,by unfold ints;rw [aa4,ads,aes];omega,λj x hj=>?_⟩;refine hx j x ?_;unfold ints at hj ⊢;rw [aoU,aeY]at hj;split at hj
   ·exact hj
   ·cases hj
theorem gJ.lists {p B:Nat}{m:aj.Bs->Option Rep.dY} (h:Sat w0 w (gJ p m B::R)):∃ kv,Tab.Lists m kv/\(∀ q∈kv,q.1.length=32)/\kv.length<=B:=by
 obtain ⟨t,sv',⟨ok,is,hb⟩,hS⟩:=gJ.open h;have hp:=List.mergeSort_perm (t.slots.filter λx=>decide (x.st=1)) (λa b:Tab.Slot Rep.dY=>decide (¬ b.key<a.key))
 have hw:=List.pairwise_mergeSort (le:=λa b:Tab.Slot Rep.dY=>decide (¬ b.key<a.key)) (λa b c h1 h2=>by
   rw [adY]at h1 h2 ⊢;intro h3;rcases Tab.Ja a.key b.key with q|q|q
   ·exact h2 (aqk h3 q)
   ·exact h2 (q ▸ h3)
   ·exact h1 q) (λa b=>by
   rw [Bool.or_eq_true,adY,adY];by_cases q:b.key<a.key
   ·exact .inr λq2=>apL _ (aqk q q2)
   ·exact .inl q) (t.slots.filter λx=>decide (x.st=1))
 obtain ⟨h1,h2⟩:=Tab.Qu ok.good is hp (hw.imp λ{a b} q=>by rwa [adY]at q);refine ⟨_,h1,λq hq=>?_,?_⟩
 ·obtain ⟨x,hx,rfl⟩:=abL.1 hq;exact (h2 x hx).2
 ·rw [aa4,hp.length_eq,<-List.countP_eq_length_filter];have e:t.slots.countP (λx=>decide (x.st=1))=Tab.kD t.slots:=by
   unfold Tab.kD;refine List.countP_congr λx _=>?_;simp
  have:=ok.n;omega
section
variable {pos:String}{x:Operand}
theorem Uu (e:TypeId) (sz eX:Nat){xs ys:List Value} (hb:pX P ty e sz eX=true) (hs:Sat w0 w L) (hv:a.eval s=v) (hy:a.eval y=v1) (p:Pick (aC e sz v xs) L R) (hrd:bF sz v1 ys w) (h1:∀ u∈ys,u.oneCell'=true)
  (h63:xs.length+ys.length<=2147483648) (hby:eX<=65000)
  (hK:∀ v' w',Sat w0 w' (aC e sz v' (xs++ys)::R)->wpList P ops Q rest (a.put dst v') w') :
  wpList P ops Q (⟨dst,.call { callee:= .builtin .append,args:=#[s,y],argTypes:=#[ty,ty] },t,pos,after,none⟩::rest) a w:=by
 obtain ⟨hu,i,z,hi,hz,e1,e2,e3,e4⟩:=xW hb;subst e2;refine zo (w0:=w0) rfl s y ty rfl e i z hu hi hz e1 e3 e4 hv hy h1 (hs.pick p) hrd zF0 ?_ λv' w' hS _=>hK v' w' hS
 calc (xs.length+ys.length)*i.bytes<=2147483648*65000:=an9 h63 hby
  _<=140737488355328:=by decide
end
section
variable {t:Nat}{pos:String}{ys:List Value}{K:Act->World->Prop}
end
section
variable {pos:String}{x:Operand}
theorem amx (hb:pX P t e sz eX=true) (w:World):(Instr.buildSlice t 0 #[]).run P w=.ok (.slice (some ⟨w.heap.size,0,none⟩) 0 0) (w.alloc (.cells #[] e)):=by
 obtain ⟨hu,i,z,hi,hz,e1,e2,e3,e4⟩:=xW hb;have hsz':(sizeOf e).run P w=.ok i.size w:=by simp [sizeOf,typeInfo,hi]
 have hf:Instr.fill (λi'=>some (i'*i.size,i.size)) ((Array.range 0).map ((#[]:Array Value)[· % (#[]:Array Value).size]!)) []=some #[]:=by unfold Instr.fill;simp
 unfold Instr.buildSlice;simp only [ad1,afM hu,adu,hsz',Nat.zero_mul,abj (show ¬ (0>2^24) by omega)];simp [newRow,go_sem]
theorem Om (h:Stop (wpList P ops Q (⟨dst,.buildSlice ty 0 #[],t,pos,after,none⟩::rest) a w)):wpList P ops Q (⟨dst,.buildSlice ty 0 #[],t,pos,after,none⟩::rest) a w:=h.o
theorem Ux (hb:pX P ty e sz eX=true) (hs:Sat w0 w L)
  (hK:∀ b w',Sat w0 w' (aC e sz (.slice (some ⟨b,0,none⟩) 0 0) []::L)->wpList P ops Q rest (a.put dst (.slice (some ⟨b,0,none⟩) 0 0)) w'):wpList P ops Q (⟨dst,.buildSlice ty 0 #[],t,pos,after,none⟩::rest) a w:=by
 refine aeV rfl λ_ hK'=>?_;have hS:=hs.alloc (.cells #[] e);unfold Oper.wp execOp;simp only [aeX,aeF,ad1,aek,amx hb w,adu];exact hK' _ _ (hK _ _ (Sat.lN hS yF0 (abl _) yF0 aN yF0))
end
section
variable {n c:Nat}{m:aj.Bs->Option Seg.aV}
theorem agb (h1:∀ u∈xs,u.oneCell'=true) (hl:xs.length<=2147483648) (h:Sat w0 w (aC 164 36 (.slice (some ⟨b,0,none⟩) n c) xs::F)) :
  Calls prog 87 #[.slice (some ⟨b,0,none⟩) n c] w (aP λv w'=>Sat w0 w' (aC 164 36 v xs::aC 164 36 (.slice (some ⟨b,0,none⟩) n c) xs::F)):=by
 have H1:=uQ h1;have Hl:=uQ hl;have he:∀ w,(binOp .eql 161 (.slice (some ⟨b,0,none⟩) n c) (.slice none 0 0)).run prog w=.ok (.bool false) w:=λw=>by first|kernel_rfl|rfl
 clear h1 hl;go_enter func87,ntmps87
 go_wp2_with (first
  |((with_reducible refine Om ⟨?_⟩);refine Ux (e:=164) (sz:=36) (eX:=64) au h ?_;intro bN wN hN)
  |(with_reducible apply lH))
 refine ⟨Uu 164 36 64 au hN ah ah aU (Sat.rd hN.drop) H1.o (by have:=Hl.o;simp only [aeL];omega) aN ?_⟩;intro v' w' hS;rw [aeu]at hS;go_wp2_with fail;go_ret;exact ⟨_,rfl,hS⟩
theorem ang (s:List (Tab.Slot Seg.aV)):∀ u∈s.flatMap (slotL aW),u.oneCell'=true:=λu hu=>by
 obtain ⟨x,_,hx⟩:=ajc.1 hu;have:=(ae0.1 (rM aW x (yO _))) u hx;exact this
theorem OI (hB:B<=14000000) (h:Sat w0 w (aH p m B::F)) :
  Calls prog 43 #[ptr p] w (aP λv w'=>∃ q,v=ptr q/\Sat w0 w' (aH q m B::aH p m B::F)):=by
 obtain ⟨t,sv,⟨ok,is,hb⟩,hR⟩:=aH.open h;have hsz:t.slots.length<=56000008:=by have:=ok.size;omega
 have Hlen:=uQ (show ∀ x∈t.slots,(slotL aW x).length=36 from λx hx=>lS aW x (ok.good.key x hx) 3 (wY _));have lV:=uQ ok.good.nY;have VQ:=uQ (show (t.slots.flatMap (slotL aW)).length=t.slots.length*36 from (jy Hlen.o).trans (aiv _ _));obtain ⟨la,lc,rfl⟩:=jK Hlen.o (Sat.rd (hR.pick bf)) aN;obtain ⟨bs,rfl⟩:∃ bs,la=some ⟨bs,0,none⟩:=by
  rcases Sat.lC (hR.pick bf) with ⟨_,he,_⟩|⟨b,n,cap,cs,he,_⟩
  ·have:=aey List.length he;have:=VQ.o;have:=lV.o;simp only [aeL]at *;omega
  ·cases he;exact ⟨b,rfl⟩
 have hok:=Dh lV.o hR;have dB:=uQ ok;have lF:=uQ is;have Hb:=uQ hb;have iZ:=uQ hsz;clear h ok is hb hsz hB;go_enter func43,ntmps43;go_wp2_with fail;refine hok.mono ?_;rintro ee w1 ⟨v,rfl,rfl,rfl⟩;clear hok;go_wp2_with fail;have hR1:=hR.drew;clear hR;refine dN [13,14,15] (λw'=>w'.cell? ⟨p,0,none⟩=some (.slice (some ⟨bs,0,none⟩) t.slots.length lc)/\w'.cell? ⟨p,1,none⟩=some (.int .i64 t.n)/\w'.cell? ⟨p,2,none⟩=some (.int .i64 t.gone)) au ?_;have hG:World.cell? _ ⟨p,0,none⟩=some (.slice (some ⟨bs,0,none⟩) t.slots.length lc)/\World.cell? _ ⟨p,1,none⟩=some (.int .i64 t.n)/\World.cell? _ ⟨p,2,none⟩=some (.int .i64 t.gone):=⟨hR1.cellAt 0 _ rfl,hR1.cellAt 1 _ rfl,hR1.cellAt 2 _ rfl⟩;refine rP 0 ?_ (y:=aZ);refine rP 1 ?_ (y:=dW);refine rP 2 ?_ (y:=bY);refine rt 3 (h:=?_);refine rP 5 ?_ (y:=aZ);refine rP 6 ?_ (y:=dW);refine rP 7 ?_ (y:=bY)
 refine rt 8 (h:=?_);refine rP 9 ?_ (y:=aZ);refine rP 10 ?_ (y:=dW);refine rP 11 ?_ (y:=bY);refine rt 12 (h:=?_);clear hG;refine bW 4 ak au (λK hK=>?_)
 (refine qF au ak ?_)
 refine (agb (ang _) (by rw [VQ.o];have:=iZ.o;omega) (hR1.sb:Sat w0 _ (aC 164 36 (.slice (some ⟨bs,0,none⟩) t.slots.length lc) (t.slots.flatMap (slotL aW))::iI p 166 (.slice (some ⟨bs,0,none⟩) t.slots.length lc) t.n t.gone::F))).mono ?_;rintro ee w2 ⟨v,rfl,h2⟩;refine hK _ _ (.inr (.inl ⟨h2.cellP eH 0 rfl,h2.cellP eH 1 rfl,h2.cellP eH 2 rfl⟩)) ?_;clear hK hR1;obtain ⟨a2,c2,rfl⟩:=jK Hlen.o (Sat.rd h2) aN;refine rp 13 (hy:=yE0) (h:=?_);refine bW 14 ak au (λK hK=>?_);refine Jk (cs:=#[.slice a2 t.slots.length c2,.int .i64 t.n,.int .i64 t.gone]) h2 ak ak ?_;intro q w3 h3;refine hK _ _ (.inl rfl) ?_;clear hK h2;refine rP 15 ?_ (y:=iy);refine dH au ?_
 try simp only [kP]
 try go_frame
 go_wp2_with fail;go_ret;have h4:=aH.shut dB.o lF.o Hb.o (h3.sb:Sat w0 w3 (iI p 166 (.slice (some ⟨bs,0,none⟩) t.slots.length lc) t.n t.gone::aC 164 36 (.slice (some ⟨bs,0,none⟩) t.slots.length lc) (t.slots.flatMap (slotL aW))::iI q 166 (.slice a2 t.slots.length c2) t.n t.gone::aC 164 36 (.slice a2 t.slots.length c2) (t.slots.flatMap (slotL aW))::F));exact ⟨_,rfl,q,rfl,aH.shut dB.o lF.o Hb.o (h4.sb)⟩
theorem ajB (h:Sat w0 w (aH p m B::F)) :
  Calls prog 100 #[ptr p] w (aP λv w'=>∃ t:Tab.Tb Seg.aV,(t.Ok/\t.Is m)/\v=.int .i64 t.n/\w=w'):=by
 obtain ⟨t,sv,⟨ok,is,hb⟩,hR⟩:=aH.open h;have Hlen:=uQ (show ∀ x∈t.slots,(slotL aW x).length=36 from λx hx=>lS aW x (ok.good.key x hx) 3 (wY _));obtain ⟨la,lc,rfl⟩:=jK Hlen.o (Sat.rd (hR.pick bf)) aN;have hok:=Dh ok.good.nY hR;have e1:w.cell? ⟨p,1,none⟩=some (.int .i64 t.n):=hR.cellAt 1 _ rfl;have H:=uQ (And.intro ok is);clear h ok is hb hR;go_enter func100,ntmps100;go_wp2_with fail;refine hok.mono ?_;rintro ee w1 ⟨v,rfl,rfl,rfl⟩;clear hok;go_wp2_with fail;go_ret;exact ⟨_,rfl,t,H.o,rfl,rfl⟩
end
def uS (w0:World) (F:List aG) (bt:Rep.Told) (ns:List Int) (p m:Nat) (L:Seg.Log) (M:ay) (v:Value) (w':World):Prop:=
 match Rep.run bt ns with
 |.inl (fl,e)=>v=.tuple #[.pointer none,.agg (dP fl),errno e]/\Sat w0 w' (aK p m L::aJ m M::F)
 |.inr n=>∃ (ps pi:Nat) (uv tv av:Value) (kv:List (aj.Bs×Rep.dY)),v=.tuple #[ptr ps,.agg (dP Rep.dJ.zero),errno 0] /\
   (Tab.Lists (Rep.ledger (Rep.rowsOf bt (ns.take n))) kv/\(∀ q∈kv,q.1.length=32)/\kv.length<=(Rep.rowsOf bt (ns.take n)).length) /\
   ((∃ a' c',tv=.slice a' (ns.length-n) c')/\∀ W,bF 1 av (ints ns) W->bF 1 tv (ints (ns.drop n)) W) /\
   Sat w0 w' (cO ps (Rep.oP (ns.take n)) pi uv tv::aH pi (Tab.mapOf (Rep.puts kv)) kv.length::aC 45 3 uv (((Rep.jR bt (ns.take n)).map (Rep.upd kv)).flatMap bG)::aC 3 1 av (ints ns)::aK p m L::aJ m M::F)
section
variable {L:Seg.Log}
theorem aoR:jF prog 193=some (.agg #[.pointer none]):=by kernel_rfl
theorem KY (hL:L.Ok) (hM:M.Ok K) (hH:Ro w0 F Half) (hrows:(Rep.rowsOf (dF L M) L.aF).length<=12000000) (hsz:∀ r∈Rep.rowsOf (dF L M) L.aF,(r.2.size:Int)<=4294967296) (h:Sat w0 w (aK p m L::aJ m M::F)) :
  Calls prog 62 #[ptr p] w (aP λv w'=>uS w0 F (dF L M) L.aF p m L M v w'):=by
 have Hlen:=uQ (show L.aF.length<=1048576 from by unfold Seg.Log.aF;rw [aa4];have:=hL.len;omega);have hse:=FV hL h
 have BL:=uQ (show ∀ s∈L.aF,0<=s from λs hs=>by
  unfold Seg.Log.aF at hs;obtain ⟨x,hx,rfl⟩:=abL.1 hs;exact (hL.nums x hx).1)
 have HL:=uQ hL;have HM:=uQ hM;have HH:=uQ hH;have NQ:=uQ hrows;have iZ:=uQ hsz;clear hL hM hH hrows hsz;go_enter func62,ntmps62;go_wp2_with (with_reducible apply fB);refine ⟨eF nO h rfl ?_⟩;intro b3 w3 h3;clear hse h;go_wp2_with fail;refine (FV HL.o (h3.pick bf)).mono ?_;rintro ee w4 ⟨sv,rfl,h4⟩;have hsp:=split_c HL.o HM.o (Ro.os HH.o) (h4.sb:Sat w0 w4 (aC 3 1 sv (ints L.aF)::aK p m L::aJ m M::pt b3 (.cells (dP Rep.dJ.zero) 63 (0,0))::F));clear h3 h4;go_wp2_with fail;refine hsp.mono ?_;rintro ee w5 ⟨v,rfl,rfl,h5⟩;clear hsp;by_cases h0:(Rep.split (dF L M) L.aF L.aF.length).2=0;rotate_left
 ·have hb:((Rep.split (dF L M) L.aF L.aF.length).2 != 0)=true:=by rw [afZ];exact h0
  have Hf:=uQ (show Rep.run (dF L M) L.aF=.inl (Rep.dJ.zero,(Rep.split (dF L M) L.aF L.aF.length).2) by unfold Rep.run;rw [acg h0]);have h6:Sat w0 w5 (pt b3 (.cells (dP Rep.dJ.zero) 63 (0,0))::aK p m L::aJ m M::F):=h5.sb;clear h0 h5
  go_wp2_with (first
   |((with_reducible refine Oj ⟨?_⟩);refine Uw (λw=>KZ w) ?_)
   |((with_reducible refine dh ⟨?_⟩);refine fP (dP Rep.dJ.zero) h6 ah ah ah cZ au ah ?_;intro w9 h9))
  refine ⟨rfl,_,vK rfl h9 ah bJ underlying63 rfl au,_,rfl,?_⟩;unfold uS;rw [Hf.o];exact ⟨rfl,h9.drop⟩
 have hb:((Rep.split (dF L M) L.aF L.aF.length).2 != 0)=false:=by rw [h0];rfl
 have qX:=uQ (Rep.TK (dF L M) L.aF L.aF.length);have Hf:=uQ (show Rep.run (dF L M) L.aF=Rep.Dx (dF L M) L.aF (Rep.split (dF L M) L.aF L.aF.length).1 by unfold Rep.run;rw [abj (λh=>h h0)]);rw [h0];generalize (Rep.split (dF L M) L.aF L.aF.length).1=n at *
 clear h0;obtain ⟨tv,htl,⟨ta,tc,rfl⟩,htr⟩:=anP qX.o h5;have Htr:=uQ htr;clear htr;go_wp2_with fail;have hG:True:=trivial;have h6:=h5.drew;clear h5;refine dN [] (λw'=>True) au ?_;refine rP 1 ?_ (y:=aZ);refine rP 2 ?_ (y:=aZ);refine rP 3 ?_ (y:=(adK ak ak htl));refine bW 0 ak au (λK hK=>?_);refine yh [] au yF0 ?_;refine (aaB h6).mono ?_;rintro ee w7 ⟨v,rfl,pi,rfl,h7⟩;refine hK _ _ (.inr (.inl trivial)) ?_;clear hK h6;refine rp 4 (hy:=yE0) (h:=?_);refine bW 5 ak au (λK hK=>?_);refine Jk (cs:=#[.int .i64 (-1),ptr pi,.slice none 0 0,.slice ta (L.aF.length-n) tc]) h7 ak ak ?_;intro ps w8 h8;refine hK _ _ (.inr (.inl trivial)) ?_;clear hK h7;refine rP 6 ?_ (y:=iy);refine dH au ?_;clear hG;go_wp2_with fail;refine (aj2 h8).mono ?_;rintro ee w9 ⟨v,rfl,pg,rfl,h9⟩;clear h8;go_wp2_with (with_reducible apply fB);refine ⟨eF aoR h9 rfl ?_⟩;intro b9 w10 h10;clear h9
 obtain ⟨ha,hc,hhl,hhr⟩:=aij qX.o (h10.sb:Sat w0 w10 (aC 3 1 sv (ints L.aF)::F));go_wp2_with ((with_reducible refine dh ⟨?_⟩);refine gq (cs':=#[ptr pg]) h10 ah ak ah cZ bI au ah ?_;intro iH h11)
 have h12:Sat w0 iH (cO ps (Rep.oP (L.aF.take 0)) pi (.slice none 0 0) (.slice ta (L.aF.length-n) tc)::aC 45 3 (.slice none 0 0) ((Rep.jR (dF L M) (L.aF.take 0)).flatMap bG)::aH pi (λ_=>none) 0::pt b9 (.cells #[ptr pg] 193 (0,0)) ::
  gJ pg (Rep.ledger (Rep.rowsOf (dF L M) (L.aF.take 0))) (Rep.rowsOf (dF L M) (L.aF.take 0)).length::pt b3 (.cells (dP Rep.dJ.zero) 63 (0,0))::aC 3 1 sv (ints L.aF)::aK p m L::aJ m M::F):=(Sat.gB.2 h11).sb
 clear h10 h11 htl
 go_loopg [45] n (λg iq wr=>∃ (i:Nat) (uv:Value),g=n-i/\i<=n/\iq=.int .i64 i/\Rep.bad (dF L M) (L.aF.take i)=none/\Sat w0 wr (cO ps (Rep.oP (L.aF.take i)) pi uv (.slice ta (L.aF.length-n) tc)::aC 45 3 uv ((Rep.jR (dF L M) (L.aF.take i)).flatMap bG)::aH pi (λ_=>none) 0::pt b9 (.cells #[ptr pg] 193 (0,0)) ::
  gJ pg (Rep.ledger (Rep.rowsOf (dF L M) (L.aF.take i))) (Rep.rowsOf (dF L M) (L.aF.take i)).length::pt b3 (.cells (dP Rep.dJ.zero) 63 (0,0))::aC 3 1 sv (ints L.aF)::aK p m L::aJ m M::F))
 case atStart=>exact ⟨0,.slice none 0 0,rfl,aea _,rfl,rfl,h12⟩
 case round=>
  obtain ⟨i,uv,rfl,hi,rfl,hbad,hS⟩:=hrel;clear h12;have vW:=uQ hbad;clear hbad;by_cases hlt:i<n;rotate_left
  ·obtain rfl:i=n:=by omega
   have c1:¬ (i:Int)<(i:Int):=oQ;obtain ⟨kv,k1,k2,k3⟩:=gJ.lists (hS.pk (A:=gJ pg (Rep.ledger (Rep.rowsOf (dF L M) (L.aF.take i))) (Rep.rowsOf (dF L M) (L.aF.take i)).length));have k4:=adt (Rep.SC (dF L M) L.aF i) NQ.o;have hks:∀ q∈kv,q.1.length=32/\0<=q.2.place.size/\q.2.place.size<=4294967296:=λq hq=>by
    obtain ⟨r,hr,e⟩:=Rep.ajy ((k1.mem q.1 q.2).1 hq);rw [e];exact ⟨k2 q hq,Int.natCast_nonneg _,iZ.o r (Rep.alR _ _ _ r hr)⟩
   have hfl:=ahl (us:=Rep.jR (dF L M) (L.aF.take i)) k1 oQ oQ hks (by unfold Rep.jR;rw [aa4,ads];have:=Hlen.o;omega)
    (hS.sb:Sat w0 wr (cO ps (Rep.oP (L.aF.take i)) pi uv (.slice ta (L.aF.length-i) tc)::aH pi (λ_=>none) 0::gJ pg (Rep.ledger (Rep.rowsOf (dF L M) (L.aF.take i))) (Rep.rowsOf (dF L M) (L.aF.take i)).length ::
     aC 45 3 uv ((Rep.jR (dF L M) (L.aF.take i)).flatMap bG)::pt b3 (.cells (dP Rep.dJ.zero) 63 (0,0))::aC 3 1 sv (ints L.aF)::aK p m L::aJ m M::F))
   have K:=uQ (And.intro k1 (And.intro k2 k3));have Hg:=uQ (Hf.o.trans (Rep.Ti vW.o));have Htv:=uQ Htr.o;clear k1 k2 k3 k4 hks hlt hi;go_wp2_with ((with_reducible refine bP ⟨?_⟩);refine iQ (cs:=#[ptr pg]) hS ah (aS (aS (aS aU))) underlying193 rfl au ?_);refine hfl.mono ?_;rintro ee kT ⟨v,rfl,iM⟩;clear hfl hS
   go_wp2_with (first
    |((with_reducible refine Oj ⟨?_⟩);refine Uw (λw=>KZ w) ?_)
    |((with_reducible refine dh ⟨?_⟩);refine fP (dP Rep.dJ.zero) iM ah ah ah (ku (ku (ku (ku cZ)))) au ah ?_;intro Bh h15))
   refine ⟨rfl,_,vK rfl h15 ah (aS (aS (aS (aS aU)))) underlying63 rfl au,_,rfl,?_⟩;unfold uS;rw [Hg.o];exact ⟨ps,pi,uv,.slice ta (L.aF.length-i) tc,sv,kv,rfl,K.o,⟨⟨ta,tc,rfl⟩,Htv.o⟩,h15.sb⟩
  have c1:(i:Int)<(n:Int):=oQ;have hwi:IntKind.i64.wrap ((i:Int)+1)=(i:Int)+1:=adr _ (by have:=qX.o;have:=Hlen.o;omega);have hni:(L.aF.take n).length=n:=by rw [ads];have:=qX.o;omega
  obtain ⟨s,hs⟩:∃ s,(L.aF.take n)[i]?=some s:=⟨_,aay oQ⟩;have hs2:L.aF[i]?=some s:=by rw [aeY]at hs;rw [acg hlt]at hs;exact hs
  have eG:=uQ (show L.aF.take (i+1)=L.aF.take i++[s] by rw [aeK,hs2,afw])
  have IE:=uQ (show ∃ post,L.aF.take n=L.aF.take i++s::post by
   obtain ⟨h1,e⟩:=abm.1 hs;refine ⟨(L.aF.take n).drop (i+1),?_⟩;have e2:L.aF.take i=(L.aF.take n).take i:=by rw [List.take_take,ap1 (Nat.le_of_lt hlt)]
   rw [e2,<-e,<-ah3 h1,aeS])
  have Hs0:=uQ (BL.o s (abA hs2));obtain ⟨bk,off,c',hsv,f0⟩:=tY (hhr _ (Sat.rd (hS.pk (A:=aC 3 1 sv (ints L.aF))))) hs;rw [hni]at hsv;cases hsv
  have hb:=Qr HL.o HM.o s (hS.sb:Sat w0 wr (aK p m L::aJ m M::cO ps (Rep.oP (L.aF.take i)) pi uv (.slice ta (L.aF.length-n) tc)::aC 45 3 uv ((Rep.jR (dF L M) (L.aF.take i)).flatMap bG)::aH pi (λ_=>none) 0::pt b9 (.cells #[ptr pg] 193 (0,0)) ::
   gJ pg (Rep.ledger (Rep.rowsOf (dF L M) (L.aF.take i))) (Rep.rowsOf (dF L M) (L.aF.take i)).length::pt b3 (.cells (dP Rep.dJ.zero) 63 (0,0))::aC 3 1 sv (ints L.aF)::F))
  have bT:=uQ hlt;clear hS hs hs2 hni hlt hi;go_wp2_with fail;refine hb.mono ?_;rintro ee GR ⟨v,rfl,bv,rfl,h20⟩;clear hb f0;obtain ⟨hcap,ca,cc,rfl⟩:=Oz h20;by_cases h0:(L.bytes M s).2=0;rotate_left
  ·have hb1:((L.bytes M s).2 != 0)=true:=by rw [afZ];exact h0
   have Hg:=uQ (show Rep.run (dF L M) L.aF=.inl (Rep.dJ.zero,(L.bytes M s).2) by
    rw [Hf.o];obtain ⟨post,e⟩:=IE.o;exact Rep.aci (by rw [e];exact Rep.afD vW.o h0))
   have h21:Sat w0 GR (pt b3 (.cells (dP Rep.dJ.zero) 63 (0,0))::aK p m L::aJ m M::F):=h20.sb;clear h20 h0 hcap
   go_wp2_with (first
    |((with_reducible refine Oj ⟨?_⟩);refine Uw (λw=>KZ w) ?_)
    |((with_reducible refine dh ⟨?_⟩);refine fP (dP Rep.dJ.zero) h21 ah ah ah cZ au ah ?_;intro uK h22))
   refine ⟨rfl,_,vK rfl h22 ah bJ underlying63 rfl au,_,rfl,?_⟩;unfold uS;rw [Hg.o];exact ⟨rfl,h22.drop⟩
  have hb1:((L.bytes M s).2 != 0)=false:=by rw [h0];rfl
  have H0:=uQ h0;rw [h0];clear h0;have hbl:=Seg.Jc (L:=L) HM.o s;have hsc:=O9 (w0:=w0) (w:=GR) (L.bytes M s).1 (Ro.bQ _ _) hcap (Ro.os HH.o) (adt hbl aN) h20;clear hcap;go_wp2_with fail;refine hsc.mono ?_;rintro ee Bo ⟨v,rfl,fs,fv,hfs,hfk,rfl,h21⟩;clear hsc h20;obtain ⟨fa,fc,rfl⟩:=O5 hfk h21;by_cases h1:(aj.scan (L.bytes M s).1).2.2=0;rotate_left
  ·have hb2:((aj.scan (L.bytes M s).1).2.2 != 0)=true:=by rw [afZ];exact h1
   have Hg:=uQ (show Rep.run (dF L M) L.aF=.inl (Rep.fault s (aj.scan (L.bytes M s).1).2.1,13) by
    rw [Hf.o];obtain ⟨post,e⟩:=IE.o;exact Rep.aci (by rw [e];exact Rep.afE vW.o H0.o h1))
   have h22:Sat w0 Bo (pt b3 (.cells (dP Rep.dJ.zero) 63 (0,0))::aK p m L::aJ m M::F):=h21.sb;clear h21 h1 hfs hfk;go_wp2_with fail;refine (ahi s (aj.scan (L.bytes M s).1).2.1 h22).mono ?_;rintro ee w23 ⟨v,rfl,rfl,h23⟩;clear h22;go_wp2_with ((with_reducible refine dh ⟨?_⟩);refine fP (dP (Rep.fault s (aj.scan (L.bytes M s).1).2.1)) h23 ah ah ah cZ au ah ?_;intro w24 yB);refine ⟨rfl,_,vK rfl yB ah bJ underlying63 rfl au,_,rfl,?_⟩;unfold uS;rw [Hg.o];exact ⟨rfl,yB.drop⟩
  have hb2:((aj.scan (L.bytes M s).1).2.2 != 0)=false:=by rw [h1];rfl
  have H1:=uQ h1;rw [h1];clear h1
  have h22:Sat w0 Bo (gJ pg (Rep.ledger (Rep.rowsOf (dF L M) (L.aF.take i)++(fs.take 0).map λq=>(s,q.1))) ((Rep.rowsOf (dF L M) (L.aF.take i)).length+0)::cO ps (Rep.oP (L.aF.take i)) pi uv (.slice ta (L.aF.length-n) tc)::aC 45 3 uv ((Rep.jR (dF L M) (L.aF.take i)).flatMap bG)::aH pi (λ_=>none) 0::pt b9 (.cells #[ptr pg] 193 (0,0)) ::
   pt b3 (.cells (dP Rep.dJ.zero) 63 (0,0))::aC 3 1 sv (ints L.aF)::aK p m L::aJ m M::aC 54 36 (.slice fa fs.length fc) (jO fs)::lI fs::F):=by
   have q:Sat w0 Bo (gJ pg (Rep.ledger (Rep.rowsOf (dF L M) (L.aF.take i))) (Rep.rowsOf (dF L M) (L.aF.take i)).length::cO ps (Rep.oP (L.aF.take i)) pi uv (.slice ta (L.aF.length-n) tc)::aC 45 3 uv ((Rep.jR (dF L M) (L.aF.take i)).flatMap bG)::aH pi (λ_=>none) 0::pt b9 (.cells #[ptr pg] 193 (0,0)) ::
   pt b3 (.cells (dP Rep.dJ.zero) 63 (0,0))::aC 3 1 sv (ints L.aF)::aK p m L::aJ m M::aC 54 36 (.slice fa fs.length fc) (jO fs)::lI fs::F):=h21.sb
   rw [aeO,aeF,adV,ai6];exact q
  have Ii:=uQ (show (Rep.rowsOf (dF L M) (L.aF.take i)).length+fs.length<=12000000 by
   have q1:=Rep.SC (dF L M) L.aF (i+1);rw [eG.o,Rep.ab8,aaL,aa4,show (aj.scan (dF L M s).1).1=fs.map (·.1) from hfs.symm,aa4]at q1;exact adt q1 NQ.o)
  have hfl:fs.length<=16777216:=by
   have:=aj.Tz (L.bytes M s).1;rw [<-hfs,aa4]at this;omega
  have sV:=uQ hfl;have oC:=uQ hfs;have qW:=uQ hfk;clear h21 hbl hfs hfk;go_wp2_with fail
  go_loopg [72] fs.length (λg jq wr=>∃ j:Nat,g=fs.length-j/\j<=fs.length/\jq=.int .i64 j/\Sat w0 wr (gJ pg (Rep.ledger (Rep.rowsOf (dF L M) (L.aF.take i)++(fs.take j).map λq=>(s,q.1))) ((Rep.rowsOf (dF L M) (L.aF.take i)).length+j)::cO ps (Rep.oP (L.aF.take i)) pi uv (.slice ta (L.aF.length-n) tc)::aC 45 3 uv ((Rep.jR (dF L M) (L.aF.take i)).flatMap bG)::aH pi (λ_=>none) 0::pt b9 (.cells #[ptr pg] 193 (0,0)) ::
   pt b3 (.cells (dP Rep.dJ.zero) 63 (0,0))::aC 3 1 sv (ints L.aF)::aK p m L::aJ m M::aC 54 36 (.slice fa fs.length fc) (jO fs)::lI fs::F))
  case atStart=>exact ⟨0,rfl,aea _,rfl,h22⟩
  case round=>
   obtain ⟨j,rfl,hj,rfl,hS⟩:=hrel;clear h22;by_cases hjl:j<fs.length;rotate_left
   ·obtain rfl:j=fs.length:=by omega
    have d1:¬ (fs.length:Int)<(fs.length:Int):=oQ;rw [aeo]at hS;clear hjl hj;have rG:((Rep.jR (dF L M) (L.aF.take i)).flatMap bG).length<=2147483648:=by
     rw [jy (k:=3) λu _=>rfl];unfold Rep.jR;rw [aa4,ads];have:=Hlen.o;omega
    go_wp2_with (first
     |((with_reducible refine dh ⟨?_⟩);refine gq (cs':=#[.int .i64 s,ptr pi,uv,.slice ta (L.aF.length-n) tc]) hS ah ak ah (ku cZ) bI au ah ?_;intro w40 Jy)
     |((with_reducible refine bP ⟨?_⟩);refine fZ Jy ah (aS aU) bI ak au ?_)
     |(with_reducible apply nR))
    refine ⟨nN (e:=45) (sz:=3) (eX:=24) au Jy ah (cs:=#[.int .i64 s,.int .i64 ((L.bytes M s).1.length:Nat),.int .i64 0]) rfl rfl aN ?_⟩;intro b41 w41 qH;go_wp2_with (with_reducible apply lH);refine ⟨oh 45 3 24 au qH ah ah (aS (aS (aS aU))) aU rfl (abl 1) ah rG (by show 3<=65536;decide) aN rfl ?_⟩;intro bA nA cA w42 h42;go_wp2_with ((with_reducible refine dh ⟨?_⟩);refine gq (cs':=#[.int .i64 s,ptr pi,.slice (some ⟨bA,0,none⟩) nA cA,.slice ta (L.aF.length-n) tc]) h42 ah ak ah (ku (ku cZ)) bI au ah ?_;intro Us h43)
    have Po:Sat w0 Us (cO ps (Rep.oP (L.aF.take (i+1))) pi (.slice (some ⟨bA,0,none⟩) nA cA) (.slice ta (L.aF.length-n) tc)::aC 45 3 (.slice (some ⟨bA,0,none⟩) nA cA) ((Rep.jR (dF L M) (L.aF.take (i+1))).flatMap bG)::aH pi (λ_=>none) 0::pt b9 (.cells #[ptr pg] 193 (0,0)) ::
     gJ pg (Rep.ledger (Rep.rowsOf (dF L M) (L.aF.take (i+1)))) (Rep.rowsOf (dF L M) (L.aF.take (i+1))).length::pt b3 (.cells (dP Rep.dJ.zero) 63 (0,0))::aC 3 1 sv (ints L.aF)::aK p m L::aJ m M::F):=by
     rw [eG.o,Rep.aju,Rep.aof,Rep.ab8,aaL,aa4,show (aj.scan (dF L M s).1).1=fs.map (·.1) from oC.o.symm,aa4,aeW,aeB];exact h43.sb
    clear Jy qH h42 h43 hS
    go_roundg (n-(i+1))
    case measure=>have:=bT.o;omega
    case rel=>exact ⟨i+1,.slice (some ⟨bA,0,none⟩) nA cA,rfl,bT.o,by first|rfl|go_num,by rw [eG.o];exact Rep.afC vW.o H0.o H1.o,Po⟩
   have d1:(j:Int)<(fs.length:Int):=oQ;have CP:IntKind.i64.wrap ((j:Int)+1)=(j:Int)+1:=adr _ oQ;obtain ⟨⟨f,dv⟩,hq⟩:∃ q,fs[j]?=some q:=⟨_,aay hjl⟩;have qh:f.e.key.length=32:=qW.o _ (abA hq);obtain ⟨da,dn,dc,rfl,_,_⟩:=Jh hq wr (hS.pk (A:=lI fs));obtain ⟨bk2,off2,c2,e2,hcell⟩:=jd (f:=λq:aj.dD×Value=>nT q.1 q.2) (k:=36) (λq hq=>tK q.1 q.2 (qW.o q hq)) (Sat.rd (hS.pk (A:=aC 54 36 (.slice fa fs.length fc) (jO fs)))) hq aN;cases e2;have Aj:(nT f (.slice da dn dc)).length=36:=tK _ _ qh;have wo:=uQ (show (fs.take (j+1)).map (λq=>(s,q.1))=(fs.take j).map (λq=>(s,q.1))++[(s,f)] by rw [aeK,hq,afw,adU];rfl);have kK:=uQ hjl;have lG:=uQ qh;clear hq qh hj
   go_wp2_with (first
    |((with_reducible refine bP ⟨?_⟩);refine iR (b:=bk2) (o:=off2+j*36) (nT f (.slice da dn dc)) ah hcell underlying54 rfl (by rw [Aj];kernel_rfl) ?_)
    |(with_reducible apply fB))
   refine ⟨eF G5 hS rfl ?_⟩;intro b17 Ur h30
   go_wp2_with (first
    |((with_reducible refine dh ⟨?_⟩);refine fP (gV f (.slice da dn dc)) h30 ah ah (by rw [pq _ _ lG.o];rfl) cZ yO0 (EW _ _ _ _) ?_;intro GU h31)
    |((with_reducible refine bP ⟨?_⟩);refine iQ (cs:=gV f (.slice da dn dc)) h31 ah aU underlying54 rfl yO0 ?_)
    |((with_reducible refine bP ⟨?_⟩);refine iQ (cs:=#[ptr pg]) h31 ah (aS (aS (aS (aS (aS aU))))) underlying193 rfl au ?_))
   have hrl:=Rep.SC (dF L M) L.aF i;refine (anR (p:=pg) s f lG.o (by have:=NQ.o;have:=sV.o;have:=kK.o;have:=Ii.o;omega) (h31.pick bf)).mono ?_;rintro ee w32 ⟨v,rfl,h32⟩;clear h30 h31 hS hcell;have hnn:∀ x∈Rep.rowsOf (dF L M) (L.aF.take i)++(fs.take j).map (λq=>(s,q.1)),0<=x.1:=λx hx=>by
    rcases aeg.1 hx with hx|hx
    ·unfold Rep.rowsOf at hx;obtain ⟨u,hu,hx⟩:=ajc.1 hx;obtain ⟨g,_,rfl⟩:=abL.1 hx;exact BL.o u (aeP hu)
    ·obtain ⟨g,_,rfl⟩:=abL.1 hx;exact Hs0.o
   rw [<-Rep.ajz _ _ hnn,adQ,<-wo.o]at h32;clear hnn;go_wp2_with fail
   go_roundg (fs.length-(j+1))
   case measure=>have:=kK.o;omega
   case rel=>exact ⟨j+1,rfl,kK.o,by first|rfl|go_num,h32.sb⟩
end
end Go.Proofs.Y
namespace Go.aj
theorem alu {b:Bs} (h:(read b).2.2=0):(read b).1.tag=0\/(read b).1.tag=1\/(read b).1.tag=2:=by
 unfold read at *
 dsimp only at *
 split at h
 ·simp at h
 rename_i h9;rw [abj h9];split at h
 ·simp at h
 rename_i hf;rw [abj hf];split at h
 ·simp at h
 rename_i hl;rw [abj hl];split at h
 ·simp at h
 rename_i hc;rw [abj hc];have ht:b.getD 8 0=0\/b.getD 8 0=1\/b.getD 8 0=2:=by
  unfold fits at hf;split at hf
  ·exact .inl aQ
  split at hf
  ·exact .inr (.inl aQ)
  split at hf
  ·exact .inr (.inr aQ)
  ·exact absurd rfl hf
 split
 all_goals
  dsimp only;rcases ht with e|e|e <;> rw [e]
  ·exact .inl rfl
  ·exact .inr (.inl rfl)
  ·exact .inr (.inr rfl)
theorem acH:∀ (k:Nat) (b:Bs) (at_:Nat),∀ f∈(oZ k b at_).1,(f.e.tag=0\/f.e.tag=1\/f.e.tag=2)/\f.e.key.length=32/\9<=f.size/\f.size<=b.length
 |0,_,_,f,hf=>by cases hf
 |k+1,b,at_,f,hf=>by
  unfold oZ at hf;split at hf
  ·cases hf
  split at hf
  ·cases hf
  rename_i he;have he:(read b).2.2=0:=by simpa using he
  have h1:=abK he;simp only at hf;rcases ad5.1 hf with rfl|hf
  ·exact ⟨alu he,h1.2.2,h1.1,h1.2.1⟩
  ·have h2:=acH k _ _ f hf;refine ⟨h2.1,h2.2.1,h2.2.2.1,adt h2.2.2.2 ?_⟩;rw [ad3];omega
theorem scan_ok (b:Bs):∀ f∈(scan b).1,(f.e.tag=0\/f.e.tag=1\/f.e.tag=2)/\f.e.key.length=32/\9<=f.size/\f.size<=b.length:=λf hf=>by
 unfold scan at hf;split at hf
 ·have h:=acH _ _ _ f hf;refine ⟨h.1,h.2.1,h.2.2.1,adt h.2.2.2 ?_⟩;rw [ad3];omega
 ·cases hf
end Go.aj
namespace Go.Rep
open Go.aj (Bs dD)
open Go.Seg (aV)
open Go.Tab
theorem ab7 {bt:Told}{ns:List Int}{r:Row} (h:r∈rowsOf bt ns):r.1∈ns/\r.2∈(aj.scan (bt r.1).1).1:=by
 unfold rowsOf at h;obtain ⟨s,hs,h⟩:=ajc.1 h;obtain ⟨f,hf,rfl⟩:=abL.1 h;exact ⟨hs,hf⟩
theorem alQ {bt:Told}{ns:List Int} (hr:ns.Pairwise (· < ·)) (h0:∀ s∈ns,0<=s):Rows (rowsOf bt ns):=by
 refine ⟨λr h=>(aj.scan_ok _ _ (ab7 h).2).1,λr h=>h0 _ (ab7 h).1,?_⟩;unfold rowsOf;rw [List.pairwise_flatMap];refine ⟨λs _=>?_,hr.imp λ{a b} hab x hx y hy=>?_⟩
 ·rw [ajM];exact List.pairwise_of_forall λ_ _=>aoZ s
 ·obtain ⟨_,_,rfl⟩:=abL.1 hx;obtain ⟨_,_,rfl⟩:=abL.1 hy;exact Int.le_of_lt hab
end Go.Rep
namespace Go.Seg
open Go.ay
section
variable {φ:Nat->Nat}{V:Nat->Prop}{M D:ay}{K:Nat}{L:Log}
end
end Go.Seg
namespace Go.Proofs.Y
open Go.ay
section
variable {L':List aG}{o:Nat}{T:TypeId}{pos:String}{x:Operand}{K:Act->World->Prop}
theorem nH (hz:jF P ty=some v) (hs:Sat w0 w L) (hcs:v.cells=cs)
  (hK:∀ b w',Sat w0 w' (pt b (.cells cs ty (0,0))::L)->K (a.put dst (.pointer (some ⟨b,0,none⟩))) w') :
  if Region.wanted ⟨dst,.alloc ty,t,pos,after,none⟩ (yielded ops a.tmps)=true then Oper.wp P ⟨dst,.alloc ty,t,pos,after,none⟩ a w K Q else E:=by
 subst hcs;refine yj rfl ?_;have hS:=hs.alloc (.cells v.cells ty);unfold Oper.wp execOp;have hrun:(Instr.alloc ty true (.tuple #[])).run P w=.ok (.pointer (some ⟨w.heap.size,0,none⟩)) (w.alloc (.cells v.cells ty)):=by
  simp [Instr.alloc,Lc hz w,newVar,newRow,go_sem,Result.andThen]
 simp only [ad1,aek,hrun,adu];exact hK _ _ hS
end
section
variable {Yq fv nv wv:Value}{xs:List RF}{x:RF}{g:ML}
section
variable {o:Nat}{t ty:Nat}{pos:String}
end
end
end Go.Proofs.Y
namespace Go.Seg
open Go.ay
section
variable {K K':Nat}{M M':ay}{L:Log}{s t:ByteArray}{i:Nat}{sure opn:List (aV×aj.aI)}
theorem V6:∀ (x y u v:Bs),x.length=y.length->x<y->x++u<y++v
 |[],[],_,_,_,h=>absurd h (List.not_lt_nil [])
 |[],_::_,_,_,h,_=>by simp at h
 |_::_,[],_,_,h,_=>by simp at h
 |a::x,b::y,u,v,hl,h=>by
  rw [aeI,aeI,List.cons_lt_cons_iff];rcases List.cons_lt_cons_iff.1 h with h1|⟨e,h1⟩
  ·exact .inl h1
  ·exact .inr ⟨e,V6 x y u v (by simpa using hl) h1⟩
theorem Oc:∀ (x u v:Bs),u<v->x++u<x++v
 |[],_,_,h=>h
 |a::x,u,v,h=>by
  rw [aeI,aeI,List.cons_lt_cons_iff];exact .inr ⟨rfl,Oc x u v h⟩
theorem Xy:∀ (k a b:Nat),a<b->b<10^k->iW a k<iW b k
 |0,a,b,h,hb=>by simp at hb;omega
 |k+1,a,b,h,hb=>by
  show iW (a/10) k++[UInt8.ofNat (48+a%10)]<iW (b/10) k++[UInt8.ofNat (48+b%10)];have hb':b/10<10^k:=by rw [Nat.div_lt_iff_lt_mul oQ];rw [Nat.pow_succ]at hb;exact hb
  rcases akJ (a/10) (b/10) with q|q
  ·exact V6 _ _ _ _ (by rw [wJ,wJ]) (Xy k _ _ q hb')
  ·have e:a/10=b/10:=by omega
   rw [e];refine Oc _ _ _ ?_;rw [List.cons_lt_cons_iff];left;rw [UInt8.lt_iff_toNat_lt,ao6,ao6];omega
theorem ajV {a b:Int} (h1:0<=a) (h2:a<b) (h3:b<1048576):lt (name a) (name b)=true:=by
 unfold name;rw [abj oQ,abj oQ];unfold lt;rw [adY];show lead++iW a.toNat 8<lead++iW b.toNat 8;exact Oc _ _ _ (Xy 8 _ _ oQ oQ)
theorem C9 {s:ByteArray} (h:(number s).2=true):0<=(number s).1/\(number s).1<1048576/\name (number s).1=s:=by
 unfold number at h ⊢;dsimp only at h ⊢;split at h
 ·rename_i hc;rw [acg hc];obtain ⟨c1,c2,c3,c4⟩:=hc;refine ⟨by simp only;omega,by simp only;omega,?_⟩;simp only;unfold name;rw [abj oQ];have hl:(s.data.toList.drop 4).length=8:=by
   have:s.data.toList.length=12:=by first|exact c1|(rw [ad4];exact c1)
   rw [ad3,this]
  have hd:=agI (s.data.toList.drop 4) c3;rw [hl]at hd;have e:lead++iW (Int.toNat ((val (s.data.toList.drop 4):Nat):Int)) 8=s.data.toList:=by
   rw [apM,hd,<-c2,aeS]
  rw [e]
 ·cases h
theorem Cj {l:List ByteArray}{x:Int×Int} (h:x∈found M l):∃ t∈l,(number t).2=true/\x=((number t).1,(M.size t).1):=by
 unfold found at h;obtain ⟨t,ht,he⟩:=List.mem_filterMap.1 h;split at he
 ·rename_i hn;exact ⟨t,ht,hn,(ai2 he).symm⟩
 ·cases he
theorem aag (h:t∈M.list):∃ i,bU M.now t=some i:=by
 unfold ay.list at h;split at h
 ·cases h
 ·obtain ⟨p,hp,rfl⟩:=abL.1 h;cases hg:bU M.now p.1 with
  |none=>exact absurd rfl (Kq hg p hp)
  |some i=>exact ⟨i,rfl⟩
theorem Ym:∀ (l:List ByteArray),l.Pairwise (λa b=>lt a b=true)->((found M l).map (·.1)).Pairwise (· < ·)
 |[],_=>List.Pairwise.nil
 |t::l,h=>by
  obtain ⟨h1,h2⟩:=aeZ.1 h;have ih:=Ym l h2;by_cases hn:(number t).2=true
  ·have e:found M (t::l)=((number t).1,(M.size t).1)::found M l:=by unfold found;rw [List.filterMap_cons];simp [hn]
   rw [e,ad7,aeZ];refine ⟨λx hx=>?_,ih⟩;obtain ⟨y,hy,rfl⟩:=abL.1 hx;obtain ⟨u,hu,hun,rfl⟩:=Cj hy;have hlt:=h1 u hu;obtain ⟨a1,a2,a3⟩:=C9 hn;obtain ⟨b1,b2,b3⟩:=C9 hun;rcases Int.lt_or_le (number t).1 (number u).1 with q|q
   ·exact q
   ·exfalso;rcases Int.lt_or_eq_of_le q with q|q
    ·have h3:=ajV b1 q a2;rw [a3,b3]at h3;have:=lt_trans hlt h3;rw [lt_irrefl]at this;cases this
    ·rw [<-a3,<-q,b3,lt_irrefl]at hlt;cases hlt
  ·have e:found M (t::l)=found M l:=by unfold found;rw [List.filterMap_cons];simp [hn]
   rw [e];exact ih
theorem Jt (ok:M.Ok K) (limit:Int) (h1:128<=limit) (h2:limit<=1048576):(fresh M limit).Ok:=by
 refine ⟨⟨h1,h2⟩,?_,λx hx=>?_,λx hx=>?_,⟨aoZ _,by simp [fresh]⟩,λhh=>by cases hh⟩
 ·refine Ym M.list ?_;unfold ay.list;split
  ·exact List.Pairwise.nil
  ·rw [ajM];exact ok.ig.ny
 ·obtain ⟨t,_,hn,rfl⟩:=Cj hx;have:=C9 hn;exact ⟨this.1,this.2.1⟩
 ·obtain ⟨t,_,hn,rfl⟩:=Cj hx;unfold ay.size;split
  ·simp
  split
  ·simp
  ·have:=(ok.file ‹Nat›).vG;simp only;omega
end
section
variable {φ:Nat->Nat}{V:Nat->Prop}{M D:ay}{K:Nat}{L:Log}
end
section
variable {i:Nat}{M D:ay}{L:Log}
end
open Go.ay
open Go.aj (encs gu)
section
variable {K:Nat}{M M':ay}{L:Log}{s t:ByteArray}{i:Nat}
def nf (L:Log):List Int:=(L.l.map (·.1)).take (L.l.length-L.fresh.toNat)
variable {sure opn:List (aV×aj.aI)}
end
end Go.Seg
namespace Go.ay
section
variable {c c' K:Nat}{f:bK}{M:ay}
end
end Go.ay
namespace Go.Seg
open Go.ay
section
variable {c c' K n:Nat}{L:Log}{M:ay}
theorem agf:(aj.encode bC).1.length=9:=(Ba (x:=bC) ah ah).trans ah
end
def Log.drop (t:List Int):Nat->Log->ay->(Log×ay)×Int
 |0,L,M=>if t=[] then ((L,M),0) else ((L,M.dR.1),M.dR.2)
 |k+1,L,M=>if (L.remove M (t.getD k 0)).2=0 then Log.drop t k (L.remove M (t.getD k 0)).1.1 (L.remove M (t.getD k 0)).1.2 else L.remove M (t.getD k 0)
section
variable {t:List Int}{L:Log}{M D:ay}{K i:Nat}
theorem drop_nil (h:t=[]):Log.drop t 0 L M=((L,M),0):=by unfold Log.drop;rw [acg h]
theorem drop_end (h:t≠[]):Log.drop t 0 L M=((L,M.dR.1),M.dR.2):=by unfold Log.drop;rw [abj h]
theorem agW {k:Nat} (h:(L.remove M (t.getD k 0)).2=0):Log.drop t (k+1) L M=Log.drop t k (L.remove M (t.getD k 0)).1.1 (L.remove M (t.getD k 0)).1.2:=by
 conv=>lhs;unfold Log.drop
 rw [acg h]
theorem agX {k:Nat} (h:(L.remove M (t.getD k 0)).2≠0):Log.drop t (k+1) L M=L.remove M (t.getD k 0):=by
 conv=>lhs;unfold Log.drop
 rw [abj h]
theorem KJ (h:M.Ok K) (n:Int):(L.remove M n).1.2.Ok (K+1):=by
 unfold Log.remove;cases L.at n with
 |none=>exact h.mono (ai7 K)
 |some i=>simp only;split <;> exact h.remove _
end
end Go.Seg
namespace Go.Proofs.Y
open Go.ay
section
variable {q:Nat}{L:Seg.Log}{tv:Value}
theorem agV (t:List Int) (htl:t.length<=1048576) (hL:L.Ok) (hM:M.Ok K) (hK:K<=1048576) (hr:Ro w0 F (bF 1 tv (ints t))) (h:Sat w0 w (aK p m L::aJ m M::F)) :
  Calls prog 58 #[ptr p,tv] w (aP λv w'=>v=errno (Seg.Log.drop t t.length L M).2/\Sat w0 w' (aK p m (Seg.Log.drop t t.length L M).1.1::aJ m (Seg.Log.drop t t.length L M).1.2::F)):=by
 obtain ⟨ta,tc,rfl⟩:=FI (hr w h.drop.drop);have Hr:=uQ hr;have nG:=uQ htl;have HK:=uQ hK;have w1:IntKind.i64.wrap ((t.length:Int)-1)=(t.length:Int)-1:=adr _ oQ;have H0:=uQ (show L.Ok/\M.Ok K from ⟨hL,hM⟩);clear hr htl hK hL hM;go_enter func58,ntmps58;go_wp2_with fail
 go_loopg [5] t.length (λg iq wr=>∃ (k:Nat) (L':Seg.Log) (M':ay),g=0+k/\k<=t.length/\iq=.int .i64 ((k:Int)-1)/\Seg.Log.drop t t.length L M=Seg.Log.drop t k L' M'/\L'.Ok/\M'.Ok (K+(t.length-k))/\Sat w0 wr (aK p m L'::aJ m M'::F))
 case atStart=>exact ⟨t.length,L,M,(ad8 _).symm,abl _,rfl,rfl,H0.o.1,H0.o.2.mono (Nat.le_add_right _ _),h⟩
 case round=>
  obtain ⟨k,L',M',rfl,hk,rfl,he,hL,hM,hS⟩:=hrel;clear h;cases k with
  |zero=>
   have c1:¬ (((0:Nat):Int)-1)>=0:=by decide
   have He:=uQ he;have HM:=uQ hM;have HL:=uQ hL;clear he hL hM hk;by_cases ht:t=[]
   ·have hb:((t.length:Int)==0)=true:=by rw [ht];rfl
    have Hf:=uQ (Seg.drop_nil (L:=L') (M:=M') ht);clear ht;go_wp2_with fail;go_ret;rw [He.o,Hf.o];exact ⟨_,rfl,rfl,hS⟩
   ·have hb:((t.length:Int)==0)=false:=by
     rw [adX];intro e;exact ht (agZ oQ)
    have Hf:=uQ (Seg.drop_end (L:=L') (M:=M') ht);clear ht;go_wp2_with fail;refine (aan HM.o hS).mono ?_;rintro ee w2 ⟨v,rfl,rfl,hS2⟩;clear hS;go_wp2_with fail;go_ret;rw [He.o,Hf.o];exact ⟨_,rfl,rfl,hS2⟩
  |succ k=>
   have e1:((k+1:Nat):Int)-1=(k:Int):=oQ;rw [e1];have c1:(k:Int)>=0:=oQ;have c2:(k:Int)<(t.length:Int):=oQ;have w2:IntKind.i64.wrap ((k:Int)-1)=(k:Int)-1:=adr _ (by have:=nG.o;omega);obtain ⟨s,hs⟩:∃ s,t[k]?=some s:=⟨_,aay oQ⟩;have hgd:t.getD k 0=s:=by rw [List.getD,hs];rfl
   obtain ⟨bk,off,cc,e2,c0⟩:=tY (Hr.o _ hS.drop.drop) hs;cases e2;have hrm:=Qy hL hM (by have:=HK.o;have:=nG.o;omega) s hS;have He:=uQ he;have Hk:=uQ hk;have iY:=hL.remove M' s;have PY:=Seg.KJ (L:=L') hM s;have Nq:=uQ (λ(h0:(L'.remove M' s).2=0)=>Seg.agW (t:=t) (L:=L') (M:=M') (k:=k) (by rw [hgd];exact h0));have Hno:=uQ (λ(h0:(L'.remove M' s).2≠0)=>Seg.agX (t:=t) (L:=L') (M:=M') (k:=k) (by rw [hgd];exact h0));rw [hgd]at Nq Hno;clear he hk hs hgd hL hM hS;generalize L'.remove M' s=r at *
   obtain ⟨⟨L2,M2⟩,e⟩:=r;dsimp only at hrm iY PY Nq Hno;have aex:=uQ iY;have aez:=uQ PY;clear iY PY;go_wp2_with fail;refine hrm.mono ?_;rintro ee w3 ⟨v,rfl,rfl,hS3⟩;clear hrm c0;by_cases h0:e=0
   ·subst h0;have Hf:=uQ (Nq.o rfl);go_wp2_with fail
    go_roundg (0+k)
    case measure=>omega
    case rel=>exact ⟨k,L2,M2,rfl,Nat.le_of_succ_le Hk.o,by first|rfl|go_num,He.o.trans Hf.o,aex.o,aez.o.mono (by have:=Hk.o;omega),hS3⟩
   ·have hb:(e != 0)=true:=by rw [afZ];exact h0
    have hb2:(e==0)=false:=by rw [adX];exact h0
    have Hf:=uQ (Hno.o h0);clear h0;go_wp2_with fail;go_ret;rw [He.o,Hf.o];exact ⟨_,rfl,rfl,hS3⟩
end
end Go.Proofs.Y
namespace Go.Sl
open Go
section
variable {P:Program}{ops:Array Oper}{Q:Exit->Act->World->Prop}{late:List Nat}{G:World->Prop}{n:Nat}{l:Array Bool}{a:Act}{w:World}{oi oj:Oper}
theorem sO (i j:Nat) (hi:ops.toList[i]?=some oi) (hj:ops.toList[j]?=some oj) (hr:Region.ready .any ops l=[i,j])
  (h1:∀ K:Act->World->Prop,(∀ a' w',keeps late G i w w'->jV P ops Q late G n (l.setIfInBounds i true) a' w'->K a' w') ->
   if Region.wanted oi (yielded ops a.tmps)=true then Oper.wp P oi a w K Q else K (a.put oi.dst undef) w)
  (h2:∀ K:Act->World->Prop,(∀ a' w',keeps late G j w w'->jV P ops Q late G n (l.setIfInBounds j true) a' w'->K a' w') ->
   if Region.wanted oj (yielded ops a.tmps)=true then Oper.wp P oj a w K Q else K (a.put oj.dst undef) w):jV P ops Q late G (n+1) l a w:=by
 rw [ajw]at hi hj;refine ⟨(λh0=>by rw [hr]at h0;cases h0),λk hk=>?_⟩;rw [hr]at hk;have hk2:k=i\/k=j:=by simpa using hk
 rcases hk2 with rfl|rfl
 ·have:=h1 _ (λa' w' h1 h2=>And.intro h1 h2);unfold wpOp;rw [hi];show if Region.wanted oi (yielded ops a.tmps)=true then _ else _
  split
  ·rename_i hw;rw [acg hw]at this;exact .inl this
  ·rename_i hw;rw [abj hw]at this;exact this
 ·have:=h2 _ (λa' w' h1 h2=>And.intro h1 h2);unfold wpOp;rw [hj];show if Region.wanted oj (yielded ops a.tmps)=true then _ else _
  split
  ·rename_i hw;rw [acg hw]at this;exact .inl this
  ·rename_i hw;rw [abj hw]at this;exact this
end
end Go.Sl
namespace Go.Proofs.Y
open Go.ay
abbrev aY (r m:Nat) (seg:Int) (p ps pn:Nat) (d:Bool):aG:=pt r (.cells #[ptr m,.int .i64 seg,ptr p,ptr ps,ptr pn,.bool d] 91 (0,0))
section
variable {L:Seg.Log}{limit:Int}
theorem aj7 (hM:M.Ok K) (hl:M.list=[]) (h:Sat w0 w (aJ m M::F)):Calls prog 106 #[ptr m] w (aP λv w'=>v=.int .i64 (-1)/\Sat w0 w' (aJ m M::F)):=by
 have hls:=JY hM h;go_enter func106,ntmps106;go_wp2_with fail;refine hls.mono ?_;rintro e w1 ⟨v,rfl,hS,a,n,c,rfl⟩;clear hls;have hn:n=0:=by
  obtain ⟨_,_,_,he,hl2,_⟩:=Sat.rd hS;cases he;rw [hl]at hl2;simpa [strs] using hl2.symm
 subst hn;go_wp2_with fail
 go_loopg [3,11] 0 (λg lv iq wr=>lv=.int .i64 (-1)/\iq=.int .i64 0/\wr=w1)
 case atStart=>exact ⟨rfl,rfl,rfl⟩
 case round=>
  obtain ⟨rfl,rfl,rfl⟩:=hrel;go_wp2;go_ret;exact ⟨_,rfl,rfl,hS.drop⟩
theorem al6 {bt:Rep.Told}{v:Value} (h:uS w0 F bt [] p m L M v w):∃ (ps pi:Nat) (uv tv:Value),v=.tuple #[ptr ps,.agg (dP Rep.dJ.zero),errno 0]/\(∃ a c,tv=.slice a 0 c) /\
  Sat w0 w (cO ps (-1) pi uv tv::aH pi (λ_=>none) 0::aC 45 3 uv []::aK p m L::aJ m M::F):=by
 have hr:Rep.run bt []=.inr 0:=rfl;unfold uS at h;rw [hr]at h;obtain ⟨ps,pi,uv,tv,av,kv,rfl,⟨_,_,hk⟩,⟨⟨a',c',rfl⟩,_⟩,hS⟩:=h;obtain rfl:kv=[]:=List.length_eq_zero_iff.1 (Nat.le_zero.1 hk);exact ⟨ps,pi,uv,_,rfl,⟨a',c',rfl⟩,hS.sb⟩
theorem ahx (hL:L.Ok) (hs:L.aF=[]) (hM:M.Ok K) (hl:M.list=[]) (hH:Ro w0 F Half) (h:Sat w0 w (aK p m L::aJ m M::F)) :
  Calls prog 57 #[ptr p,ptr m] w (aP λv w'=>∃ (ps pi:Nat) (uv tv:Value),v=.tuple #[ptr ps,.agg (dP Rep.dJ.zero),errno 0]/\(∃ a c,tv=.slice a 0 c) /\
   Sat w0 w' (cO ps (-1) pi uv tv::aH pi (λ_=>none) 0::aC 45 3 uv []::aK p m L::aJ m M::F)):=by
 have HL:=uQ hL;have Hs:=uQ hs;have HM:=uQ hM;have Hl:=uQ hl;have HH:=uQ hH;clear hL hs hM hl hH;go_enter func57,ntmps57;go_wp2_with (with_reducible apply fB);refine ⟨eF nO h rfl ?_⟩;intro b5 w5 h5;have hla:=FN (F:=pt b5 (.cells (dP Rep.dJ.zero) 63 (0,0))::F) HL.o HM.o (Ro.os HH.o) (h5.sb:Sat w0 w5 (aK p m L::aJ m M::pt b5 (.cells (dP Rep.dJ.zero) 63 (0,0))::F));rw [Hs.o,show Rep.lastOf (dF L M) []=(-1,0) from rfl]at hla;clear h h5;go_wp2_with fail;refine hla.mono ?_;rintro ee w6 ⟨v,rfl,rfl,h6⟩;clear hla;go_wp2_with fail;refine (aj7 HM.o Hl.o (h6.sb:Sat w0 w6 (aJ m M::aK p m L::pt b5 (.cells (dP Rep.dJ.zero) 63 (0,0))::F))).mono ?_;rintro ee w7 ⟨v,rfl,rfl,h7⟩;clear h6
 have mY:=KY (F:=pt b5 (.cells (dP Rep.dJ.zero) 63 (0,0))::F) HL.o HM.o (Ro.os HH.o) (by rw [Hs.o];exact aea _) (by rw [Hs.o];intro r hr;cases hr) (h7.sb:Sat w0 w7 (aK p m L::aJ m M::pt b5 (.cells (dP Rep.dJ.zero) 63 (0,0))::F));clear h7;go_wp2_with fail;refine mY.mono ?_;rintro ee w8 ⟨v,rfl,h8⟩;clear mY;rw [Hs.o]at h8;obtain ⟨ps,pi,uv,tv,rfl,rF,h9⟩:=al6 h8;clear h8;have h10:Sat w0 w8 (pt b5 (.cells (dP Rep.dJ.zero) 63 (0,0))::cO ps (-1) pi uv tv::aH pi (λ_=>none) 0::aC 45 3 uv []::aK p m L::aJ m M::F):=h9.sb;clear h9;go_wp2_with ((with_reducible refine dh ⟨?_⟩);refine fP (dP Rep.dJ.zero) h10 ah ah ah cZ au ah ?_;intro iH h11);refine ⟨rfl,_,vK rfl h11 ah aU underlying63 rfl au,_,rfl,ps,pi,uv,tv,rfl,rF,h11.drop⟩
theorem akO:sN prog 91=some [(0,1),(1,1),(2,1),(3,1),(4,1),(5,1)]:=by kernel_rfl
theorem aoV:jF prog 91=some (.agg #[.pointer none,.int .i64 0,.pointer none,.pointer none,.pointer none,.bool false]):=by kernel_rfl
theorem ams (seg:Int) (w:World):(Instr.build 91 #[(0,ptr m),(1,.int .i64 seg),(2,ptr p),(3,ptr ps),(4,ptr pn)]).run prog w=.ok (.agg #[ptr m,.int .i64 seg,ptr p,ptr ps,ptr pn,.bool false]) w:=
 apP (P:=prog) [(0,ptr m),(1,.int .i64 seg),(2,ptr p),(3,ptr ps),(4,ptr pn)] akO aoV (by
  intro q hq;simp only [ad5,ah4,apX]at hq;rcases hq with rfl|rfl|rfl|rfl|rfl
  ·exact ⟨0,rfl,by show 0+1<=6;decide⟩
  ·exact ⟨1,rfl,by show 1+1<=6;decide⟩
  ·exact ⟨2,rfl,by show 2+1<=6;decide⟩
  ·exact ⟨3,rfl,by show 3+1<=6;decide⟩
  ·exact ⟨4,rfl,by show 4+1<=6;decide⟩) w
theorem RZ {ι:Type}{N:Int} (mi:ι->aj.Bs->Option Seg.aV) (Bf:ι->Nat) (uf:ι->List Rep.Use) (Q:ι->Prop) (h1:128<=limit) (h2:limit<=1048576) (hM:M.Ok K) (hK:K<=1048576) (ha:Seg.alive M=0) (hB:∀ x,Q x->Bf x<=14000000)
  (hfd:∀ (p b5:Nat) (w':World),Sat w0 w' (aK p m (Seg.fresh M limit)::aJ m M::pt b5 (.cells (dP Rep.dJ.zero) 63 (0,0))::F)->Calls prog 57 #[ptr p,ptr m] w' (aP λv w''=>∃ (ps pi:Nat) (uv tv:Value) (x:ι),v=.tuple #[ptr ps,.agg (dP Rep.dJ.zero),errno 0]/\(∃ a c,tv=.slice a 0 c)/\Q x /\
   Sat w0 w'' (cO ps N pi uv tv::aH pi (mi x) (Bf x)::aC 45 3 uv ((uf x).flatMap bG)::aK p m (Seg.fresh M limit)::aJ m M::pt b5 (.cells (dP Rep.dJ.zero) 63 (0,0))::F)))
  (h:Sat w0 w (aJ m M::F)) :
  Calls prog 19 #[ptr m,.int .i64 limit] w (aP λv w'=>∃ (r p ps pi pn:Nat) (uv:Value) (x:ι),v=.tuple #[ptr r,.agg (dP Rep.dJ.zero),errno 0]/\Q x /\
   Sat w0 w' (aY r m limit p ps pn false::cO ps N pi uv (.slice none 0 0)::aH pn (mi x) (Bf x)::aH pi (mi x) (Bf x)::aC 45 3 uv ((uf x).flatMap bG)::aK p m (Seg.fresh M limit)::aJ m M::F)):=by
 have HL:=uQ (Seg.Jt hM limit h1 h2);have Hop:=uQ (λ(w':World) (R:List aG) (hw:Sat w0 w' (aJ m M::R))=>aky hM limit hw ha h1 h2);generalize Seg.fresh M limit=L at *
 have HM:=uQ hM;have HK:=uQ hK;have HB:=uQ hB;have Hfd:=uQ hfd;clear h1 h2 hM hK ha hB hfd;go_enter func19,ntmps19;go_wp2_with (with_reducible apply fB);refine ⟨eF nO h rfl ?_⟩;intro b5 w5 h5;go_wp2_with fail;refine (Hop.o _ _ (h5.sb:Sat w0 w5 (aJ m M::pt b5 (.cells (dP Rep.dJ.zero) 63 (0,0))::F))).mono ?_;rintro ee w6 ⟨v,rfl,p,rfl,h6⟩;clear h h5;go_wp2_with fail;refine (Hfd.o p b5 _ h6).mono ?_;rintro ee w7 ⟨v,rfl,ps,pi,uv,tv,x,rfl,⟨ta,tc,rfl⟩,hq,h7⟩;have Hq:=uQ hq;have HBx:=uQ (HB.o x hq);clear h6 hq;go_wp2_with (with_reducible apply fB);refine ⟨eF nO h7 rfl ?_⟩;intro b10 w8 h8;clear h7;go_wp2_with (with_reducible apply dh);refine ⟨fP (dP Rep.dJ.zero) h8 ah ah ah cZ au ah ?_⟩;intro w9 h9;clear h8
 replace h9:Sat w0 w9 (aK p m L::aJ m M::cO ps N pi uv (.slice ta 0 tc)::aH pi (mi x) (Bf x)::aC 45 3 uv ((uf x).flatMap bG)::pt b5 (.cells (dP Rep.dJ.zero) 63 (0,0))::F):=h9.sb;go_wp2_with ((with_reducible refine bP ⟨?_⟩);refine fZ aQ ah bJ bI ak au ?_);have hdr:=agV (tv:= .slice ta 0 tc) [] (aea _) HL.o HM.o HK.o (λw _=>xu 1 0 w |> λ_=>⟨ta,0,tc,rfl,rfl,λj x hj=>by cases hj⟩) h9;rw [show ([]:List Int).length=0 from rfl,Seg.drop_nil rfl]at hdr;refine hdr.mono ?_;rintro ee w10 ⟨v,rfl,rfl,h10⟩;clear hdr h9;go_wp2_with (with_reducible apply dh);refine ⟨gq (cs':=#[.int .i64 N,ptr pi,uv,.slice none 0 0]) h10 ah ah ah an8 bI au ah ?_⟩;intro iH h11;replace h11:Sat w0 iH (aH pi (mi x) (Bf x)::cO ps N pi uv (.slice none 0 0)::aK p m L::aJ m M::aC 45 3 uv ((uf x).flatMap bG)::pt b5 (.cells (dP Rep.dJ.zero) 63 (0,0))::F):=h11.sb;clear h10
 go_wp2_with ((with_reducible refine bP ⟨?_⟩);refine fZ h11 ah bf bI ak au ?_);refine (OI HBx.o h11).mono ?_;rintro ee w12 ⟨v,rfl,pn,rfl,h12⟩;clear h11
 go_wp2_with (first
  |((with_reducible apply y7);refine ⟨?_⟩;first|refine vS ah (ams limit) ?_|refine vS ah KZ ?_)
  |((with_reducible refine fD ⟨?_⟩);refine fE h12 ah ah ?_;intro r jM h13)
  |(with_reducible apply dh))
 refine ⟨fP (dP Rep.dJ.zero) (h13.sb:Sat w0 jM (pt b5 (.cells (dP Rep.dJ.zero) 63 (0,0))::aY r m limit p ps pn false::cO ps N pi uv (.slice none 0 0)::aH pn (mi x) (Bf x)::aH pi (mi x) (Bf x)::aC 45 3 uv ((uf x).flatMap bG)::aK p m L::aJ m M::F)) ah ah ah cZ au ah ?_⟩;intro kT iM;go_wp2_with fail;refine ⟨rfl,_,vK rfl iM ah aU underlying63 rfl au,_,rfl,r,p,ps,pi,pn,uv,x,rfl,Hq.o,iM.drop⟩
theorem alH (h1:128<=limit) (h2:limit<=1048576) (hM:M.Ok K) (hK:K<=1048576) (ha:Seg.alive M=0) (hf:(Seg.fresh M limit).aF=[]) (hl:M.list=[]) (hH:Ro w0 F Half) (h:Sat w0 w (aJ m M::F)) :
  Calls prog 19 #[ptr m,.int .i64 limit] w (aP λv w'=>∃ (r p ps pi pn:Nat) (uv:Value),v=.tuple #[ptr r,.agg (dP Rep.dJ.zero),errno 0] /\
   Sat w0 w' (aY r m limit p ps pn false::cO ps (-1) pi uv (.slice none 0 0)::aH pn (λ_=>none) 0::aH pi (λ_=>none) 0::aC 45 3 uv []::aK p m (Seg.fresh M limit)::aJ m M::F)):=by
 refine (RZ (ι:=Unit) (N:= -1) (λ_ _=>none) (λ_=>0) (λ_=>[]) (λ_=>True) h1 h2 hM hK ha (λ_ _=>by decide) (λp b5 w' hw=>?_) h).mono ?_
 ·refine (ahx (Seg.Jt hM limit h1 h2) hf hM hl (Ro.os hH) hw).mono ?_;rintro e w' ⟨v,rfl,ps,pi,uv,tv,rfl,rF,hS⟩;exact ⟨_,rfl,ps,pi,uv,tv,(),rfl,rF,trivial,hS⟩
 ·rintro e w' ⟨v,rfl,r,p,ps,pi,pn,uv,_,rfl,_,hS⟩;exact ⟨_,rfl,r,p,ps,pi,pn,uv,rfl,hS⟩
theorem nZ {seg:Int}{d:Bool} (h:Sat w0 w (aY r m seg p ps pn d::F)):Calls prog 42 #[ptr r] w (aP λv w'=>v=.bool true/\w=w'):=by
 have e2:w.cell? ⟨r,2,none⟩=some (.pointer (some ⟨p,0,none⟩)):=h.cellAt 2 _ rfl;go_enter func42,ntmps42;go_wp2;go_ret;exact ⟨_,rfl,rfl,rfl⟩
end
end Go.Proofs.Y
namespace Go.Tab
end Go.Tab
namespace Go.Proofs.Y
open Go.ay
section
variable {L:Seg.Log}{seg:Int}{d:Bool}{mp:aj.Bs->Option Seg.aV}
theorem alG (h:Sat w0 w (aY r m seg p ps pn d::aH pn mp B::F)) :
  Calls prog 55 #[ptr r] w (aP λv w'=>∃ t:Tab.Tb Seg.aV,(t.Ok/\t.Is mp)/\v=.int .i64 t.n/\w=w'):=by
 have hok:=nZ h;have hle:=ajB (h.sb:Sat w0 w (aH pn mp B::aY r m seg p ps pn d::F));have e4:w.cell? ⟨r,4,none⟩=some (.pointer (some ⟨pn,0,none⟩)):=h.cellAt 4 _ rfl;clear h;go_enter func55,ntmps55;go_wp2_with fail;refine hok.mono ?_;rintro e w1 ⟨v,rfl,rfl,rfl⟩;go_wp2_with fail;refine hle.mono ?_;rintro e w2 ⟨v,rfl,t,ht,rfl,rfl⟩;go_wp2_with fail;go_ret;exact ⟨_,rfl,t,ht,rfl,rfl⟩
theorem SN (hB:B<=134217000) (hk:k.length=32) (data:aj.Bs) (da:Option Addr) (dc:Nat) (hd:Ro w0 F (bF 1 (.slice da data.length dc) (aA data))) (tN:data.length<=1099511627) (hL:L.Ok) (hM:M.Ok K) (kR:K+4<=1099511627776) (hH:Ro w0 F Half)
  (h0:(L.append M ⟨0,k,data⟩).2.2=0) (h:Sat w0 w (aY r m seg p ps pn d::aH pn mp B::aK p m L::aJ m M::F)) :
  Calls prog 52 #[ptr r,.agg (aA k).toArray,.slice da data.length dc] w (aP λv w'=>v=errno 0 /\
   Sat w0 w' (aY r m seg p ps pn true::aH pn (Tab.put mp k (L.append M ⟨0,k,data⟩).2.1) (B+1)::aK p m (L.append M ⟨0,k,data⟩).1.1::aJ m (L.append M ⟨0,k,data⟩).1.2::F)):=by
 have hks:(aA k).length=32:=by rw [aX,hk]
 have hap:=uQ (λ(w':World) (R:List aG) (hh:Ro w0 R Half) (hr:Ro w0 R (bF 1 (.slice da data.length dc) (aA data))) (hw:Sat w0 w' (aK p m L::aJ m M::R))=>CU ⟨0,k,data⟩ hk da dc hr hh tN hL hM kR hw);generalize L.append M ⟨0,k,data⟩=q at *
 obtain ⟨⟨L2,M2⟩,pc,e2⟩:=q;dsimp only at h0 hap ⊢;subst h0;have HB:=uQ hB;have dS:=uQ hk;have iK:=uQ hks;have Hd:=uQ hd;have HH:=uQ hH;clear hB hk hks hd tN hL hM kR hH;go_enter func52,ntmps52;go_wp2_with (with_reducible apply fD);refine ⟨fE h ak ak ?_⟩;intro b4 w4 h4;replace h4:Sat w0 w4 (pt b4 (.cells (aA k).toArray 50 (0,0))::aY r m seg p ps pn d::aH pn mp B::aK p m L::aJ m M::F):=h4;clear h;go_wp2_with fail;refine (nZ (h4.sb:Sat w0 w4 (aY r m seg p ps pn d::pt b4 (.cells (aA k).toArray 50 (0,0))::aH pn mp B::aK p m L::aJ m M::F))).mono ?_;rintro ee w5 ⟨v,rfl,rfl,rfl⟩;go_wp2_with fail;have h5:=h4.drew;clear h4;refine dN [7,8,9,10,12,13] (λw'=>w'.cell? ⟨r,2,none⟩=some (.pointer (some ⟨p,0,none⟩))/\w'.rangeAt b4 0 (aA k)) au ?_
 have l7:∀ (w':World) (R:List aG) (dd:Bool),Sat w0 w' (pt b4 (.cells (aA k).toArray 50 (0,0))::aY r m seg p ps pn dd::R)->w'.cell? ⟨r,2,none⟩=some (.pointer (some ⟨p,0,none⟩))/\w'.rangeAt b4 0 (aA k):=λw' R dd hw=>⟨hw.cellP bf 2 rfl,λj z hj=>by rw [ad8];exact hw.cellP aU j yK0⟩;have mV:=uQ l7;have hG:=l7 _ _ _ h5;clear l7;refine rP 0 ?_ (y:=aZ);refine rP 1 ?_ (y:=dW);refine rP 2 ?_ (y:=bY);refine rt 3 (h:=?_);refine gK 4 ak au bV (jh (b:=b4) (o:=0) (aA k) ah underlying50 rfl yG0 (λw hw=>hw.2)) aQ gQ ?_;clear hG;refine rP 5 ?_ (y:=aZ);refine rP 6 ?_ (y:=(GZ ak ak ak (λw=>acr ⟨0,k,data⟩ dS.o da data.length dc w)));refine sO 7 11 ak ak au (λK hK=>?_) (λK hK=>?_)
 ·(refine iC au ak ak ?_)
  refine (hap.o _ _ (Ro.os HH.o) (Ro.os Hd.o) (h5.sb:Sat w0 _ (aK p m L::aJ m M::pt b4 (.cells (aA k).toArray 50 (0,0))::aY r m seg p ps pn d::aH pn mp B::F))).mono ?_;rintro ee w6 ⟨v,rfl,rfl,h6⟩;refine hK _ _ (.inl rfl) ?_;clear hK hap h5;refine rP 8 ?_ (y:=aZ);refine rP 9 ?_ (y:=(iF ak dw));refine rP 10 ?_ (y:=(iF ak dw));refine bW 11 ak au (λK hK=>?_);refine nH (ou) h6 rfl ?_;intro b7 w7 h7;refine hK _ _ (.inr (.inl (mV.o _ _ _ (h7.sb:Sat w0 w7 (pt b4 (.cells (aA k).toArray 50 (0,0))::aY r m seg p ps pn d::aH pn mp B::pt b7 (.cells (aW Seg.aV.zero).toArray 94 (0,0))::aK p m L2::aJ m M2::F))))) ?_;clear hK h6;have h8:Sat w0 w7 (pt b7 (.cells (aW Seg.aV.zero).toArray 94 (0,0))::pt b4 (.cells (aA k).toArray 50 (0,0))::aY r m seg p ps pn d::aH pn mp B::aK p m L2::aJ m M2::F):=h7.sb;clear h7;refine bW 12 ak au (λK hK=>?_)
  refine kQ (cs':=(aW pc).toArray) h8 ak ak ah cZ bI au ah ?_;intro w9 h9;refine hK _ _ (.inl rfl) ?_;clear hK h8;refine rP 13 ?_ (y:=iy);refine dH au ?_;go_wp2_with fail;have h10:=h9.drew;clear h9;replace h10:Sat w0 _ (pt b4 (.cells (aA k).toArray 50 (0,0))::aY r m seg p ps pn d::aH pn mp B::pt b7 (.cells (aW pc).toArray 94 (0,0))::aK p m L2::aJ m M2::F):=h10.sb;refine dN [6] (λw'=>w'.cell? ⟨r,4,none⟩=some (.pointer (some ⟨pn,0,none⟩))/\w'.rangeAt b4 0 (aA k)/\w'.rangeAt b7 0 (aW pc)) au ?_;have hG:World.cell? _ ⟨r,4,none⟩=some (.pointer (some ⟨pn,0,none⟩))/\World.rangeAt _ b4 0 (aA k)/\World.rangeAt _ b7 0 (aW pc):=⟨h10.cellP bf 4 rfl,λj z hj=>by rw [ad8];exact h10.cellP aU j yK0,λj z hj=>by rw [ad8];exact h10.cellP iO j yK0⟩;refine rP 0 ?_ (y:=aZ);refine rP 1 ?_ (y:=dW);refine rP 2 ?_ (y:=bY);refine rt 3 (h:=?_)
  refine gK 4 ak au bV (jh (b:=b4) (o:=0) (aA k) ah underlying50 rfl yG0 (λw hw=>hw.2.1)) aQ gQ ?_;refine gK 5 ak au bV (jh (b:=b7) (o:=0) (aW pc) ah underlying94 rfl au (λw hw=>hw.2.2)) aQ gQ ?_;clear hG;refine bW 6 ak au (λK hK=>?_)
  (refine wL au ak ak ak ?_)
  refine (KG HB.o dS.o pc (h10.sb:Sat w0 _ (aH pn mp B::pt b4 (.cells (aA k).toArray 50 (0,0))::aY r m seg p ps pn d::pt b7 (.cells (aW pc).toArray 94 (0,0))::aK p m L2::aJ m M2::F))).mono ?_;rintro ee iH ⟨v,rfl,h11⟩;refine hK _ _ (.inl rfl) ?_;clear hK h10;refine dH au ?_;go_wp2_with (with_reducible apply dh);refine ⟨gq (cs':=#[ptr m,.int .i64 seg,ptr p,ptr ps,ptr pn,.bool true]) (h11.sb:Sat w0 iH (aY r m seg p ps pn d::aH pn (Tab.put mp k pc) (B+1)::pt b4 (.cells (aA k).toArray 50 (0,0))::pt b7 (.cells (aW pc).toArray 94 (0,0))::aK p m L2::aJ m M2::F)) ah ah ah cZ bI au ah ?_⟩;intro w12 h12;go_wp2_with fail;go_ret;exact ⟨_,rfl,rfl,h12.sb⟩
 ·refine nH (ou) h5 rfl ?_;intro b7 w6 h6;refine hK _ _ (.inr (.inl (mV.o _ _ _ (h6.sb:Sat w0 w6 (pt b4 (.cells (aA k).toArray 50 (0,0))::aY r m seg p ps pn d::pt b7 (.cells (aW Seg.aV.zero).toArray 94 (0,0))::aH pn mp B::aK p m L::aJ m M::F))))) ?_;clear hK h5;refine bW 7 ak au (λK hK=>?_)
  (refine iC au ak ak ?_)
  refine (hap.o _ _ (Ro.os HH.o) (Ro.os Hd.o) (h6.sb:Sat w0 _ (aK p m L::aJ m M::pt b7 (.cells (aW Seg.aV.zero).toArray 94 (0,0))::pt b4 (.cells (aA k).toArray 50 (0,0))::aY r m seg p ps pn d::aH pn mp B::F))).mono ?_;rintro ee w7 ⟨v,rfl,rfl,h7⟩;refine hK _ _ (.inl rfl) ?_;clear hK hap h6;refine rP 8 ?_ (y:=aZ);refine rP 9 ?_ (y:=(iF ak dw));refine rP 10 ?_ (y:=(iF ak dw));have h8:Sat w0 w7 (pt b7 (.cells (aW Seg.aV.zero).toArray 94 (0,0))::pt b4 (.cells (aA k).toArray 50 (0,0))::aY r m seg p ps pn d::aH pn mp B::aK p m L2::aJ m M2::F):=h7.sb;clear h7;refine bW 12 ak au (λK hK=>?_);refine kQ (cs':=(aW pc).toArray) h8 ak ak ah cZ bI au ah ?_;intro w9 h9;refine hK _ _ (.inl rfl) ?_;clear hK h8;refine rP 13 ?_ (y:=iy);refine dH au ?_;go_wp2_with fail;have h10:=h9.drew;clear h9
  replace h10:Sat w0 _ (pt b4 (.cells (aA k).toArray 50 (0,0))::aY r m seg p ps pn d::aH pn mp B::pt b7 (.cells (aW pc).toArray 94 (0,0))::aK p m L2::aJ m M2::F):=h10.sb;refine dN [6] (λw'=>w'.cell? ⟨r,4,none⟩=some (.pointer (some ⟨pn,0,none⟩))/\w'.rangeAt b4 0 (aA k)/\w'.rangeAt b7 0 (aW pc)) au ?_;have hG:World.cell? _ ⟨r,4,none⟩=some (.pointer (some ⟨pn,0,none⟩))/\World.rangeAt _ b4 0 (aA k)/\World.rangeAt _ b7 0 (aW pc):=⟨h10.cellP bf 4 rfl,λj z hj=>by rw [ad8];exact h10.cellP aU j yK0,λj z hj=>by rw [ad8];exact h10.cellP iO j yK0⟩;refine rP 0 ?_ (y:=aZ);refine rP 1 ?_ (y:=dW);refine rP 2 ?_ (y:=bY);refine rt 3 (h:=?_);refine gK 4 ak au bV (jh (b:=b4) (o:=0) (aA k) ah underlying50 rfl yG0 (λw hw=>hw.2.1)) aQ gQ ?_;refine gK 5 ak au bV (jh (b:=b7) (o:=0) (aW pc) ah underlying94 rfl au (λw hw=>hw.2.2)) aQ gQ ?_;clear hG
  refine bW 6 ak au (λK hK=>?_)
  (refine wL au ak ak ak ?_)
  refine (KG HB.o dS.o pc (h10.sb:Sat w0 _ (aH pn mp B::pt b4 (.cells (aA k).toArray 50 (0,0))::aY r m seg p ps pn d::pt b7 (.cells (aW pc).toArray 94 (0,0))::aK p m L2::aJ m M2::F))).mono ?_;rintro ee iH ⟨v,rfl,h11⟩;refine hK _ _ (.inl rfl) ?_;clear hK h10;refine dH au ?_;go_wp2_with (with_reducible apply dh);refine ⟨gq (cs':=#[ptr m,.int .i64 seg,ptr p,ptr ps,ptr pn,.bool true]) (h11.sb:Sat w0 iH (aY r m seg p ps pn d::aH pn (Tab.put mp k pc) (B+1)::pt b4 (.cells (aA k).toArray 50 (0,0))::pt b7 (.cells (aW pc).toArray 94 (0,0))::aK p m L2::aJ m M2::F)) ah ah ah cZ bI au ah ?_⟩;intro w12 h12;go_wp2_with fail;go_ret;exact ⟨_,rfl,rfl,h12.sb⟩
def mP:aj.Bs:=1::List.replicate 31 0
theorem vI:mP.length=32:=rfl
theorem acu (w:World):(Instr.build 50 #[(0,.int .u8 1)]).run prog w=.ok (.agg (aA mP).toArray) w:=by kernel_rfl
end
end Go.Proofs.Y
namespace Go.Tab
open Go.aj (Bs num)
section
variable {V:Type}{s:List (Slot V)}{x z:Slot V}{k:Bs}{v:V}{d:Nat}
def del (m:Bs->Option V) (k:Bs):Bs->Option V:=λl=>if l=k then none else m l
theorem Xv (g:Good s) (he:Ends s k d) (hx:s[pos k s.length d]?=some x) (hf:x.st=1) (hz:z.st=2) (Qe:z.key.length=32) :
  Good (s.set (pos k s.length d) z)/\∀ k' v',Has (s.set (pos k s.length d) z) k' v'↔k'≠k/\Has s k' v':=by
 obtain ⟨hk,_⟩:=Jp he hx hf;have hlt:pos k s.length d<s.length:=uz g.nY;generalize hp:pos k s.length d=p at *
 have hst:∀ q l,qQ (s.set p z) l q->qQ s l q:=λq l=>by
  unfold qQ;by_cases h:p=q
  ·subst h;rw [vO hlt];rintro ⟨y,hy,h1⟩;cases hy;rcases h1 with h1|⟨h1,_⟩ <;> omega
  ·rw [sS h];exact id
 refine ⟨⟨by rw [ai3];exact g.pow,λy hy=>?_,λy hy=>?_,λq y hq hy=>?_⟩,λk' v'=>?_⟩
 ·rcases aog hy with h|rfl
  ·exact g.st y h
  ·omega
 ·rcases aog hy with h|rfl
  ·exact g.key y h
  ·exact Qe
 ·rw [ai3];by_cases h:p=q
  ·subst h;rw [vO hlt]at hq;cases hq;omega
  ·rw [sS h]at hq;obtain ⟨d',a,b,c⟩:=g.reach q y hq hy;exact ⟨d',a,b,λe h hh=>c e h (hst _ _ hh)⟩
 ·constructor
  ·rintro ⟨q,y,hq,h1,h2,h3⟩;by_cases h:p=q
   ·subst h;rw [vO hlt]at hq;cases hq;omega
   ·rw [sS h]at hq;refine ⟨λe=>?_,q,y,hq,h1,h2,h3⟩;exact h (g.one hx hq hf h1 (hk.trans (e.symm.trans h2.symm)))
  ·rintro ⟨hne,q,y,hq,h1,h2,h3⟩;have:p≠q:=λh=>by
    subst h;rw [hx]at hq;cases hq;exact hne (h2.symm.trans hk)
   exact ⟨q,y,by rw [sS this];exact hq,h1,h2,h3⟩
theorem ai1 {t:Tb V}{m:Bs->Option V}{s':List (Slot V)} (hm:t.Is m) (h:∀ k' v',Has s' k' v'↔k'≠k/\Has t.slots k' v') (n g:Nat):(⟨s',n,g⟩:Tb V).Is (del m k):=λk' v'=>by
 rw [show (⟨s',n,g⟩:Tb V).slots=s' from rfl,h];unfold del;split
 ·rename_i e;exact ⟨λq=>absurd e q.1,λq=>by cases q⟩
 ·rename_i e;rw [hm];exact ⟨λq=>q.2,λq=>⟨e,q⟩⟩
theorem agG {t:Tb V} (h:t.Ok) (he:Ends t.slots k d) (hx:t.slots[pos k t.slots.length d]?=some x) (hf:x.st=1) (hz:z.st=2) (Qe:z.key.length=32) :
  0<t.n/\(⟨t.slots.set (pos k t.slots.length d) z,t.n-1,t.gone+1⟩:Tb V).Ok:=by
 have h1:=xw (λx=>x.st==1) t.slots _ x z hx;have h2:=xw (λx=>x.st != 0) t.slots _ x z hx;have hn:0<kD t.slots:=by
  unfold kD;exact List.countP_pos_iff.2 ⟨x,abA hx,by simp [hf]⟩
 have hn2:=h.n;refine ⟨by omega,(Xv h.good he hx hf hz Qe).1,?_,?_,?_,?_⟩
 ·unfold kD at *;simp [hf,hz]at h1 ⊢;omega
 ·have:=h.gone;unfold used at *;simp [hf,hz]at h2 ⊢;omega
 ·have:=h.load;simp only [ai3];omega
 ·have:=h.size;simp only [ai3];omega
theorem wz.ok0 {t:Tb V}{s':List (Slot V)} (h:wz t s' t.n):(⟨s',t.n,0⟩:Tb V).Ok:=
 ⟨h.good,h.nf.symm,by rw [h.nu];rfl,by have:=h.lo;have:=h.lo8;have:=h.hi;simp only;omega,by have:=h.hi;simp only;omega⟩
end
end Go.Tab
namespace Go.Proofs.Y
open Go.ay
def yg:Tab.Slot Seg.aV:=⟨2,aj.zero32,Seg.aV.zero⟩
theorem amA (w:World):(Instr.build 164 #[(0,.int .i64 2)]).run prog w=.ok (.agg (slotL aW yg).toArray) w:=by
 refine (apP (P:=prog) [(0,.int .i64 2)] abk xC (by
  intro p' hp;simp only [ad5,ah4,apX]at hp;have hzz:(Value.agg (slotL aW (⟨0,aj.zero32,Seg.aV.zero⟩:Tab.Slot (Seg.aV))).toArray).cells.size=36:=by
   show (slotL aW (⟨0,aj.zero32,Seg.aV.zero⟩:Tab.Slot (Seg.aV))).toArray.size=36;rw [abn,lS aW _ aN 3 rfl]
  rw [hzz];rcases hp with rfl
  exact ⟨0,rfl,by show 0+1<=36;omega⟩) w).trans ?_
 rfl
section
variable {m:aj.Bs->Option (Seg.aV)}
theorem Xu (hB:B<=134217000) (hk:k.length=32) (h:Sat w0 w (aH p m B::F)) :
  Calls prog 109 #[ptr p,.agg (aA k).toArray] w (aP λv w'=>v=.bool (m k).isSome/\Sat w0 w' (aH p (Tab.del m k) B::F)):=by
 obtain ⟨t,sv,⟨ok,is,hb⟩,hR⟩:=aH.open h;obtain ⟨d,he⟩:=ok.ends k;have hsz:t.slots.length<=536872000:=by have:=ok.size;omega
 have Hlen:=uQ (show ∀ x∈t.slots,(slotL aW x).length=36 from λx hx=>lS aW x (ok.good.key x hx) 3 (wY _));obtain ⟨la,lc,rfl⟩:=jK Hlen.o (Sat.rd (hR.pick bf)) aN;have hrl:0<(t.slots.flatMap (slotL aW)).length:=by rw [jy Hlen.o];have:=ok.good.nY;omega
 obtain ⟨bk,rfl⟩:=Rf (hR.pick bf) hrl;have Hk:=uQ hk;have dB:=uQ ok;have lF:=uQ is;have Hb:=uQ hb;have He:=uQ he;have iZ:=uQ hsz;have HB:=uQ hB;have lV:=uQ ok.good.nY;have Ed:=uQ (show (aA k).length=32 by rw [aX,hk]);clear h hk ok is hb he hsz hB hrl;go_enter func109,ntmps109;go_wp2_with (with_reducible apply fD);refine ⟨fE hR ak ak ?_⟩;intro b4 w4 hS4;have hA:Sat w0 w4 (iI p 166 (.slice (some ⟨bk,0,none⟩) t.slots.length lc) t.n t.gone::aC 164 36 (.slice (some ⟨bk,0,none⟩) t.slots.length lc) (t.slots.flatMap (slotL aW))::pt b4 (.cells (aA k).toArray 50 (0,0))::F):=hS4.sb;clear hR hS4;go_wp2_with fail;refine (Dh lV.o hA).mono ?_;rintro ee w7 ⟨v',rfl,rfl,rfl⟩;go_wp2_with ((with_reducible refine bP ⟨?_⟩);refine iQ hA ah (aS (aS (aU (A:=pt b4 (.cells (aA k).toArray 50 (0,0)))))) underlying50 rfl (by rw [abn,Ed.o];kernel_rfl) ?_)
 have hf:=O1 dB.o.good (adt iZ.o aN) Hk.o He.o hA;clear hA;refine hf.mono ?_;rintro ee w8 ⟨v',rfl,x,hx,rfl,mO⟩;clear hf;have hlt:=Tab.uz (k:=k) (d:=d) lV.o;by_cases h1:x.st=1;rotate_left
 ·have hd:decide (x.st=1)=false:=ad2 h1;have hno:m k=none:=by
   obtain ⟨_,q2⟩:=lF.o.some dB.o He.o hx;exact q2 h1
  have Hno:=uQ hno
  have Nc:=uQ (show Tab.del m k=m from by
   funext l
   unfold Tab.del;split
   ·rename_i e;rw [e,hno]
   ·rfl)
  clear h1 hx hno hlt;go_wp2_with fail;go_ret;exact ⟨_,rfl,by rw [Hno.o];rfl,by rw [Nc.o];exact aH.shut dB.o lF.o Hb.o (mO.sb)⟩
 ·have hd:decide (x.st=1)=true:=aeb h1;have NW:=uQ (show (m k).isSome=true from by rw [(lF.o.some dB.o He.o hx).1 h1];rfl);have xO:=uQ (KW (f:=slotL aW) (k:=36) (i:=Tab.pos k t.slots.length d) (x:=yg) Hlen.o (lS aW _ rfl 3 rfl) hlt);obtain ⟨hn0,hok2⟩:=Tab.agG dB.o He.o hx h1 (z:=yg) rfl rfl;have zu:=uQ (λn g=>Tab.ai1 lF.o (Tab.Xv dB.o.good He.o hx h1 (z:=yg) rfl rfl).2 n g);have hrl:(t.slots.flatMap (slotL aW)).length=36*t.slots.length:=jy Hlen.o;have hls:=lS aW yg rfl 3 rfl;have hwn:IntKind.i64.wrap ((t.n:Int)-1)=((t.n-1:Nat):Int):=by rw [adr _ zG0];omega
  have hwg:IntKind.i64.wrap ((t.gone:Int)+1)=((t.gone+1:Nat):Int):=by rw [adr _ zG0];omega
  have hle:(t.slots.set (Tab.pos k t.slots.length d) yg).length=t.slots.length:=ai3;have Hb2:=uQ (show (t.n-1)+(t.gone+1)<=B by have:=Hb.o;omega);have ru:=uQ hok2;generalize hns:t.slots.set (Tab.pos k t.slots.length d) yg=ns at *
  clear hns hok2;clear h1 hx;generalize Tab.pos k t.slots.length d=P0 at *
  have c0:(0:Int)<=(P0:Int):=oQ;have c1:(P0:Int)<(t.slots.length:Int):=oQ
  go_wp2_with (first
   |((with_reducible refine bP ⟨?_⟩);refine fZ mO ah bJ bI ak au ?_)
   |((with_reducible apply y7);refine ⟨?_⟩;refine vS ah (λw=>amA w) ?_)
   |(with_reducible apply dh))
  refine ⟨aoz (vs:=slotL aW yg) (P0*36) mO ah ah rfl (ku cZ) (by rw [hrl,hls];omega) (by rw [hls];kernel_rfl) (rM aW _ ah) ?_⟩;intro w12 mM;rw [<-xO.o]at mM;clear mO
  go_wp2_with (first
   |((with_reducible refine bP ⟨?_⟩);refine fZ mM ah bJ bI ak au ?_)
   |(with_reducible apply dh))
  refine ⟨gq (cs':=#[.slice (some ⟨bk,0,none⟩) t.slots.length lc,.int .i64 ((t.n-1:Nat):Int),.int .i64 t.gone]) mM ah ah ah cZ bI au ah ?_⟩;intro jM uY;clear mM
  go_wp2_with (first
   |((with_reducible refine bP ⟨?_⟩);refine fZ uY ah bJ bI ak au ?_)
   |(with_reducible apply dh))
  refine ⟨gq (cs':=#[.slice (some ⟨bk,0,none⟩) t.slots.length lc,.int .i64 ((t.n-1:Nat):Int),.int .i64 ((t.gone+1:Nat):Int)]) uY ah ah ah cZ bI au ah ?_⟩;intro kT JE;clear uY hwn hwg;go_wp2_with fail;have hSd:=JE.drew;clear JE;have hw8:IntKind.i64.wrap (8*((t.n-1:Nat):Int))=8*((t.n-1:Nat):Int):=adr _ zG0;have apo:wrap64 (8*((t.n-1:Nat):Int))=8*((t.n-1:Nat):Int):=ahJ _ zG0;have IB:=uQ (show t.n-1<=134217728 by have:=Hb.o;have:=HB.o;omega);clear hn0;generalize t.n-1=n1 at *
  generalize t.gone+1=g1 at *
  by_cases c8:8<t.slots.length
  ·have OB:(8:Int)<(t.slots.length:Int):=by omega
   have c8d:decide ((8:Int)<(t.slots.length:Int))=true:=aeb OB;by_cases c9:8*n1<t.slots.length
   ·have OC:8*(n1:Int)<(t.slots.length:Int):=by omega
    have c9d:decide (8*(n1:Int)<(t.slots.length:Int))=true:=aeb OC;refine dN [] (λw'=>w'.cell? ⟨p,0,none⟩=some (.slice (some ⟨bk,0,none⟩) t.slots.length lc)/\w'.cell? ⟨p,1,none⟩=some (.int .i64 n1)) au ?_;have hG:World.cell? _ ⟨p,0,none⟩=some (.slice (some ⟨bk,0,none⟩) t.slots.length lc)/\World.cell? _ ⟨p,1,none⟩=some (.int .i64 n1):=⟨hSd.cellP bJ 0 rfl,hSd.cellP bJ 1 rfl⟩;refine rP 0 ?_ (y:=aZ);refine rP 1 ?_ (y:=dW);refine rP 2 ?_ (y:=bY);refine rt 3 (h:=?_);refine rP 4 ?_ (y:=(qU ak dw));refine rP 5 ?_ (y:=jH);refine rP 6 ?_ (y:=aZ);refine rP 7 ?_ (y:=(iU ah ak));refine rP 8 ?_ (y:=(MF ah ak));refine rP 9 ?_ (y:=(o8 ah ak dw));refine gK 10 ak au bV (o7 ah ak au yC0) aQ gQ ?_;refine rP 11 ?_ (y:=(adI ah ak dw));refine rP 12 ?_ (y:=(iU ah ak));refine rP 13 ?_ (y:=(MF ah ak));refine rP 14 ?_ (y:=(o8 ah ak dw))
    refine gK 15 ak au bV (o7 ah ak au yC0) aQ gQ ?_;refine rP 16 ?_ (y:=(rO ah ak ak dw));refine rP 17 ?_ (y:=(rO ah ak ak dw));refine rP 18 ?_ (y:=(nC ah ak ak));clear hG;refine dH au ?_
    try simp only [kP]
    try go_frame
    have hrn:=RN (t:=⟨ns,n1,g1⟩) (N:=n1) ru.o (abl _) IB.o (by show ns.length<=_;have:=iZ.o;omega) (hSd.sb:Sat w0 _ (iI p 166 (.slice (some ⟨bk,0,none⟩) t.slots.length lc) n1 g1::aC 164 36 (.slice (some ⟨bk,0,none⟩) t.slots.length lc) (ns.flatMap (slotL aW))::pt b4 (.cells (aA k).toArray 50 (0,0))::F));have e1:World.cell? _ ⟨p,1,none⟩=some (.int .i64 n1):=hSd.cellP bJ 1 rfl;clear hSd;go_wp2_with fail;refine hrn.mono ?_;rintro ee Bh ⟨v',rfl,s',sv',Aq,ah6⟩;clear hrn;have VF:=uQ Aq;clear Aq e1;go_wp2_with fail;go_ret;exact ⟨_,rfl,by rw [NW.o];rfl,aH.shut (t:=⟨s',n1,0⟩) VF.o.ok0 (VF.o.is (zu.o n1 g1) n1 0) (by have:=Hb2.o;simp only;omega) (ah6.sb)⟩
   ·have OC:¬ 8*(n1:Int)<(t.slots.length:Int):=by omega
    have c9d:decide (8*(n1:Int)<(t.slots.length:Int))=false:=ad2 OC;refine dN [] (λw'=>w'.cell? ⟨p,0,none⟩=some (.slice (some ⟨bk,0,none⟩) t.slots.length lc)/\w'.cell? ⟨p,1,none⟩=some (.int .i64 n1)) au ?_;have hG:World.cell? _ ⟨p,0,none⟩=some (.slice (some ⟨bk,0,none⟩) t.slots.length lc)/\World.cell? _ ⟨p,1,none⟩=some (.int .i64 n1):=⟨hSd.cellP bJ 0 rfl,hSd.cellP bJ 1 rfl⟩;refine rP 0 ?_ (y:=aZ);refine rP 1 ?_ (y:=dW);refine rP 2 ?_ (y:=bY);refine rt 3 (h:=?_);refine rP 4 ?_ (y:=(qU ak dw));refine rP 5 ?_ (y:=jH);refine rP 6 ?_ (y:=aZ);refine rP 7 ?_ (y:=(iU ah ak));refine rP 8 ?_ (y:=(MF ah ak));refine rP 9 ?_ (y:=(o8 ah ak dw));refine gK 10 ak au bV (o7 ah ak au yC0) aQ gQ ?_;refine rP 11 ?_ (y:=(adI ah ak dw));refine rP 12 ?_ (y:=(iU ah ak));refine rP 13 ?_ (y:=(MF ah ak));refine rP 14 ?_ (y:=(o8 ah ak dw))
    refine gK 15 ak au bV (o7 ah ak au yC0) aQ gQ ?_;refine rP 16 ?_ (y:=(rO ah ak ak dw));refine rP 17 ?_ (y:=(rO ah ak ak dw));refine rP 18 ?_ (y:=(nC ah ak ak));clear hG;refine dH au ?_
    try simp only [kP]
    try go_frame
    go_wp2_with fail;go_ret;exact ⟨_,rfl,by rw [NW.o];rfl,aH.shut (t:=⟨ns,n1,g1⟩) ru.o (zu.o n1 g1) Hb2.o (hSd.sb)⟩
  ·have OB:¬ (8:Int)<(t.slots.length:Int):=by omega
   have c8d:decide ((8:Int)<(t.slots.length:Int))=false:=ad2 OB;refine dN [] (λw'=>w'.cell? ⟨p,0,none⟩=some (.slice (some ⟨bk,0,none⟩) t.slots.length lc)/\w'.cell? ⟨p,1,none⟩=some (.int .i64 n1)) au ?_;have hG:World.cell? _ ⟨p,0,none⟩=some (.slice (some ⟨bk,0,none⟩) t.slots.length lc)/\World.cell? _ ⟨p,1,none⟩=some (.int .i64 n1):=⟨hSd.cellP bJ 0 rfl,hSd.cellP bJ 1 rfl⟩;refine rP 0 ?_ (y:=aZ);refine rP 1 ?_ (y:=dW);refine rP 2 ?_ (y:=bY);refine rt 3 (h:=?_);refine rP 4 ?_ (y:=(qU ak dw));refine rP 5 ?_ (y:=jH);refine rP 6 ?_ (y:=aZ);refine eu 7 ak au bV ah gQ ?_;refine eu 8 ak au bV ah gQ ?_;refine eu 9 ak au bV ah gQ ?_;refine eu 10 ak au bV ah gQ ?_;refine eu 11 ak au bV ah gQ ?_;refine eu 12 ak au bV ah gQ ?_;refine eu 13 ak au bV ah gQ ?_;refine eu 14 ak au bV ah gQ ?_;refine eu 15 ak au bV ah gQ ?_;refine eu 16 ak au bV ah gQ ?_
   refine eu 17 ak au bV ah gQ ?_;refine rP 18 ?_ (y:=(nC ah ak ak));clear hG;refine dH au ?_
   try simp only [kP]
   try go_frame
   go_wp2_with fail;go_ret;exact ⟨_,rfl,by rw [NW.o];rfl,aH.shut (t:=⟨ns,n1,g1⟩) ru.o (zu.o n1 g1) Hb2.o (hSd.sb)⟩
end
section
variable {m:aj.Bs->Option (Seg.aV)}
theorem ajf (hB:B<=13000000) (h:Sat w0 w (aH p m B::F)) :
  Calls prog 97 #[ptr p] w (aP λv w'=>∃ kv:List (aj.Bs×Seg.aV),(Tab.Lists m kv/\(∀ q∈kv,q.1.length=32)/\kv.length<=B)/\Sat w0 w' (aC 50 32 v (kv.flatMap λq=>aA q.1)::aH p m B::F)):=by
 have hr:=RU hB h;clear h;go_enter func97,ntmps97;go_wp2_with fail;refine hr.mono ?_;rintro ee w1 ⟨sv,rfl,s,⟨hs1,hs2,hs3⟩,hS1⟩;clear hr;have Hs1:=uQ hs1;have rY:=uQ hs2;have VI:=uQ hs3
 have Ej:=uQ (show ∀ q∈s.map λx=>(x.key,x.val),q.1.length=32 from λq hq=>by
  obtain ⟨x,hx,rfl⟩:=abL.1 hq;exact (hs2 x hx).2)
 have Hlen:=uQ (show ∀ x∈s,(slotL aW x).length=36 from λx hx=>lS aW x (hs2 x hx).2 3 (wY _));obtain ⟨la,lc,rfl⟩:=jK Hlen.o (Sat.rd hS1) aN;have hsb:s.length<=13000000:=adt hs3 hB;have hS2:Sat w0 w1 (aC 50 32 (.slice none 0 0) (((s.take 0).map λx=>(x.key,x.val)).flatMap λq=>aA q.1)::aC 164 36 (.slice la s.length lc) (s.flatMap (slotL aW))::aH p m B::F):=Sat.gB.2 hS1;clear hs1 hs2 hs3 hB hS1;go_wp2_with fail
 go_loopg [3,9] s.length (λg oq iq wr=>∃ (i:Nat),g=s.length-i/\i<=s.length/\iq=.int .i64 i /\
  Sat w0 wr (aC 50 32 oq (((s.take i).map λx=>(x.key,x.val)).flatMap λq=>aA q.1)::aC 164 36 (.slice la s.length lc) (s.flatMap (slotL aW))::aH p m B::F))
 case atStart=>exact ⟨0,rfl,aea _,rfl,hS2⟩
 case round=>
  obtain ⟨i,rfl,hi,rfl,hS⟩:=hrel;clear hS2;by_cases hlt:i<s.length;rotate_left
  ·obtain rfl:i=s.length:=by omega
   have c1:¬ (s.length:Int)<(s.length:Int):=oQ;rw [aeo]at hS;clear hlt hi;go_wp2_with fail;go_ret;refine ⟨_,rfl,s.map λx=>(x.key,x.val),⟨Hs1.o,by intros;exact Ej.o (_,_) aQ,by rw [aa4];exact VI.o⟩,hS.sb⟩
  have c1:(i:Int)<(s.length:Int):=oQ;have hwi:=CS (i:=i);obtain ⟨x,hx⟩:∃ x,s[i]?=some x:=⟨_,aay hlt⟩;have hxm:=abA hx;have Hxk:=uQ (rY.o x hxm).2;obtain ⟨bk,off,c',hsv,hcell⟩:=jd Hlen.o (Sat.rd (hS.pick bf)) hx aN;cases hsv;have jo:=Hlen.o x hxm
  have eG:=uQ (show ((s.take (i+1)).map λx=>(x.key,x.val)).flatMap (λq=>aA q.1)=((s.take i).map λx=>(x.key,x.val)).flatMap (λq=>aA q.1)++aA x.key by
   rw [aeK,hx,afw,adU,aeB];simp)
  have bT:=uQ hlt;have Fj:(((s.take i).map λx=>(x.key,x.val)).flatMap λq=>aA q.1).length<=2147483648:=by
   rw [jy (k:=32) λq hq=>by
    obtain ⟨y,hy,rfl⟩:=abL.1 hq;rw [aX];exact (rY.o y (aeP hy)).2]
   rw [aa4];have:=apE i s;omega
  clear hx hxm hlt hi
  go_wp2_with (first
   |((with_reducible refine bP ⟨?_⟩);refine iR (b:=bk) (o:=off+i*36) (slotL aW x) ah hcell underlying164 rfl yX0 ?_)
   |(with_reducible apply fB))
  refine ⟨eF xC hS rfl ?_⟩;intro b7 w7 hS7
  go_wp2_with (first
   |((with_reducible refine dh ⟨?_⟩);refine fP (slotL aW x).toArray hS7 ah ah (by rw [abn,jo];rfl) cZ yQ0 (by rw [ad6];exact rM aW x (yO _)) ?_;intro w10 fK)
   |(with_reducible apply bP))
  refine ⟨?_⟩;clear hS hS7 hcell;have f1:w10.rangeAt b7 1 (aA x.key):=DJ (fK.pick aU)
  go_wp2_with (first
   |((with_reducible refine bP ⟨?_⟩);refine iR (b:=b7) (o:=1) (aA x.key) ah f1 underlying50 rfl yS0 ?_)
   |(with_reducible apply nR))
  refine ⟨nN (e:=50) (sz:=32) (eX:=32) au fK ah (cs:=(aA x.key).toArray) rfl (by rw [abn,aX,Hxk.o]) aN ?_⟩;intro bN wN hN;go_wp2_with (with_reducible apply lH);refine ⟨oh 50 32 32 au hN ah ah (aS (aS aU)) aU (by rw [abn,aX,Hxk.o]) (abl 1) (by rw [ad6];exact tH _) Fj (by rw [abn,aX,Hxk.o];decide) aN (by rw [ad6]) ?_⟩;intro bA nA cA wA hA;go_wp2_with fail;rw [<-eG.o]at hA
  go_roundg (s.length-(i+1))
  case measure=>have:=bT.o;omega
  case rel=>exact ⟨i+1,rfl,bT.o,by first|rfl|go_num,hA.sb⟩
end
end Go.Proofs.Y
