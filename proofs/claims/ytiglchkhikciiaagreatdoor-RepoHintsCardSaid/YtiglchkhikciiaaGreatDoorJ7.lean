import Derived.Test.YtiglchkhikciiaaGreatDoorJ6
set_option linter.unusedVariables false
set_option maxHeartbeats 128000000
namespace Go.aj
theorem RX {l:Bs} (h:l.length=4):∃ c0 c1 c2 c3,l=[c0,c1,c2,c3]:=by
 match l,h with
 |[c0,c1,c2,c3],_=>exact ⟨c0,c1,c2,c3,rfl⟩
theorem Kq {x:aP} (h:(encode x).2=0):check x=0∧(encode x).1=le (crc (body x)) 4++body x:=by
 unfold encode at *
 split at h
 ·rename_i hc;exact absurd h hc
 ·rename_i hc
  rw [abw hc]
  exact ⟨by simpa using hc,rfl⟩
theorem EI {x:aP} (h:check x=0):x.tag=0∧x.data.length≤16384∨x.tag=2∧x.key=zero32∧x.data=[]∨x.tag=1∧x.data=[]:=by
 unfold check at h
 split at h
 ·rename_i t;split at h
  ·cases h
  ·exact .inl ⟨t,by omega⟩
 split at h
 ·rename_i t
  split at h
  ·cases h
  rename_i hk
  split at h
  ·cases h
  rename_i hd
  exact .inr (.inl ⟨t,by simpa using hk,aj2 oQ⟩)
 split at h
 ·rename_i t
  split at h
  ·cases h
  rename_i hd
  exact .inr (.inr ⟨t,aj2 oQ⟩)
 ·cases h
theorem MW {x:aP} (h:(encode x).2=0) (hk:x.key.length=32) (rest:Bs):read ((encode x).1++rest)=(x,(encode x).1.length,0):=by
 have hz:=Seg.GY h hk
 obtain ⟨hc,he⟩:=Kq h
 have hs:size x=9∨41≤size x:=by
  unfold size
  rw [abw (by simp [hc])]
  by_cases ht:x.tag=2
  ·rw [ac3 ht];omega
  ·rw [abw ht];omega
 have hs2:size x≤16425:=by
  rcases EI hc with ⟨t,d⟩|⟨t,k,d⟩|⟨t,d⟩
  all_goals
   unfold size
   rw [abw (by simp [hc])]
   by_cases ht:x.tag=2
   ·rw [ac3 ht];omega
   ·rw [abw ht]
    first|omega|(rw [d];simp)
 obtain ⟨c0,c1,c2,c3,hC⟩:=RX (iH (crc (body x)) 4)
 obtain ⟨s0,s1,s2,s3,hS⟩:=RX (iH (size x) 4)
 have hnum:num [s0,s1,s2,s3]=size x:=by rw [← hS];exact yF 4 _ oQ
 have yj:num [c0,c1,c2,c3]=crc (body x):=by rw [← hC];exact yF 4 _ (J6 _)
 have hb:body x=[s0,s1,s2,s3]++(UInt8.ofNat x.tag.toNat::((if x.tag=2 then [] else x.key)++x.data)):=by unfold body;rw [hS];simp
 have hE:(encode x).1=c0::c1::c2::c3::s0::s1::s2::s3::UInt8.ofNat x.tag.toNat::((if x.tag=2 then [] else x.key)++x.data):=by rw [he,hC,hb];rfl
 have hlen:((if x.tag=2 then [] else x.key)++x.data).length+9=size x:=by rw [← hz,hE];simp
 have hT:UInt8.ofNat x.tag.toNat=0∧x.tag=0∧41≤size x∨UInt8.ofNat x.tag.toNat=1∧x.tag=1∧size x=41∨UInt8.ofNat x.tag.toNat=2∧x.tag=2∧size x=9:=by
  rcases EI hc with ⟨t,d⟩|⟨t,k,d⟩|⟨t,d⟩
  ·left;rw [t];refine ⟨rfl,rfl,?_⟩
   unfold size;rw [abw (by simp [hc]),abw (by rw [t];decide)];omega
  ·right;right;rw [t];refine ⟨rfl,rfl,?_⟩
   unfold size;rw [abw (by simp [hc]),ac3 t]
  ·right;left;rw [t];refine ⟨rfl,rfl,?_⟩
   unfold size;rw [abw (by simp [hc]),abw (by rw [t];decide),d];rfl
 have hfit:fits (UInt8.ofNat x.tag.toNat) (size x)=true:=by
  rcases hT with ⟨a,_,b⟩|⟨a,_,b⟩|⟨a,_,b⟩
  ·rw [a];unfold fits;rw [ac3 rfl,adN];omega
  ·rw [a];unfold fits;rw [abw aN,ac3 rfl,adN];omega
  ·rw [a];unfold fits;rw [abw aN,abw aN,ac3 rfl,adN];omega
 generalize hP:(if x.tag=2 then [] else x.key)++x.data=P at *
 generalize hG:UInt8.ofNat x.tag.toNat=T at *
 have hL:((encode x).1++rest)=c0::c1::c2::c3::s0::s1::s2::s3::T::(P++rest):=by rw [hE];rfl
 have hll:(c0::c1::c2::c3::s0::s1::s2::s3::T::(P++rest)).length=size x+rest.length:=by simp;omega
 have htk:(c0::c1::c2::c3::s0::s1::s2::s3::T::(P++rest)).take (size x)=c0::c1::c2::c3::s0::s1::s2::s3::T::P:=by
  have:c0::c1::c2::c3::s0::s1::s2::s3::T::(P++rest)=(c0::c1::c2::c3::s0::s1::s2::s3::T::P)++rest:=rfl
  rw [this,ajb (by simp;omega),aeb (by simp;omega)]
 rw [hz,hL]
 unfold read
 dsimp only
 rw [abw (by rw [hll];omega)]
 have hn:num (((c0::c1::c2::c3::s0::s1::s2::s3::T::(P++rest)).drop 4).take 4)=size x:=hnum
 have h8:(c0::c1::c2::c3::s0::s1::s2::s3::T::(P++rest)).getD 8 0=T:=rfl
 have h4:num ((c0::c1::c2::c3::s0::s1::s2::s3::T::(P++rest)).take 4)=crc (body x):=yj
 rw [hn,h8,hfit,abw aN,abw (by rw [hll];omega),htk,h4]
 have hdr:(c0::c1::c2::c3::s0::s1::s2::s3::T::P).drop 4=body x:=by rw [hb];rfl
 rw [hdr,abw (by simp)]
 have h9:(c0::c1::c2::c3::s0::s1::s2::s3::T::(P++rest)).drop 9=P++rest:=rfl
 have oI:(c0::c1::c2::c3::s0::s1::s2::s3::T::P).drop 41=P.drop 32:=rfl
 rw [h9,oI]
 rcases hT with ⟨a,t,b⟩|⟨a,t,b⟩|⟨a,t,b⟩
 ·rw [ac3 b]
  rw [abw (by rw [t];decide)]at hP
  have e1:(P++rest).take 32=x.key:=by rw [← hP,adR,ajb oQ,aeb oQ]
  have e2:P.drop 32=x.data:=by rw [← hP,ak7,aiz oQ,hk];simp
  rw [e1,e2,a]
  obtain ⟨tag,key,data⟩:=x
  simp only at t ⊢
  rw [t];rfl
 ·rw [ac3 oQ]
  rw [abw (by rw [t];decide)]at hP
  have e1:(P++rest).take 32=x.key:=by rw [← hP,adR,ajb oQ,aeb oQ]
  have e2:P.drop 32=x.data:=by rw [← hP,ak7,aiz oQ,hk];simp
  rw [e1,e2,a]
  obtain ⟨tag,key,data⟩:=x
  simp only at t ⊢
  rw [t];rfl
 ·rw [abw oQ,a]
  rcases EI hc with ⟨t',d⟩|⟨t',k,d⟩|⟨t',d⟩
  ·rw [t]at t';cases t'
  ·obtain ⟨tag,key,data⟩:=x
   simp only at t k d ⊢
   rw [t,k,d];rfl
  ·rw [t]at t';cases t'
def encs (l:List aP):Bs:=l.flatMap fun x=>(encode x).1
def iw (x:aP):Prop:=(encode x).2=0∧x.key.length=32
def jf:List aP→Nat→List fO
 |[],_=>[]
 |x::l,at_=>⟨x,at_,(encode x).1.length⟩::jf l (at_+(encode x).1.length)
theorem Ky:∀ (l:List aP) (at_:Nat),(jf l at_).map (·.e)=l
 |[],_=>rfl
 |x::l,at_=>by rw [jf,ag8,Ky l]
theorem abC {x:aP} (h:iw x):0<(encode x).1.length:=akA.2 (Seg.Q7 x h.1)
theorem Xo:∀ (l:List aP) (k at_:Nat),(∀ x∈l,iw x)→(encs l).length≤k→mQ k (encs l) at_=(jf l at_,at_+(encs l).length,0)
 |[],k,at_,_,_=>by
  cases k with
  |zero=>rfl
  |succ k=>rfl
 |x::l,k,at_,hg,hk=>by
  have h1:=hg x (.head _)
  have e:encs (x::l)=(encode x).1++encs l:=rfl
  have hp:=abC h1
  rw [e,aal]at hk
  cases k with
  |zero=>omega
  |succ k=>
   have hr:=MW h1.1 h1.2 (encs l)
   have hd:((encode x).1++encs l).drop (encode x).1.length=encs l:=by simp
   rw [e]
   unfold mQ
   rw [abw (by intro hh;have:=aje List.length hh;rw [aal]at this;simp only [ajn]at this;omega),hr]
   simp only [ne_eq,not_true_eq_false,akO,hd]
   rw [Xo l k (at_+(encode x).1.length) (fun y hy=>hg y (.tail _ hy)) oQ]
   simp only [jf,aal,akU]
theorem NP (l:List aP) (hg:∀ x∈l,iw x):scan (Seg.mag++encs l)=(jf l 8,(Seg.mag++encs l).length,0):=by
 unfold scan
 rw [ac3 ah]
 have e:(Seg.mag++encs l).drop 8=encs l:=rfl
 rw [e,Xo l _ 8 hg (by rw [aal];omega),aal]
 rfl
end Go.aj
namespace Go.Seg
open Go.ay
open Go.aj (encs iw)
theorem Dt {a b:Int} (ha:0≤a) (ha2:a<1048576) (hb:0≤b) (hb2:b<1048576) (h:name a=name b):a=b:=by
 have h1:=FX a ha ha2
 have h2:=FX b hb hb2
 rw [h]at h1
 rw [h1]at h2
 exact aje Prod.fst h2
theorem KD (n:Int) (h1:0≤n) (h2:n<1048576):good (name n)=true:=by
 unfold name
 rw [abw oQ]
 unfold good
 have hl:(lead++gK n.toNat 8).length=12:=by rw [aal,vH];rfl
 have hs:(⟨(lead++gK n.toNat 8).toArray⟩:ByteArray).size=12:=by show (lead++gK n.toNat 8).toArray.size=12;simp [hl]
 rw [hs]
 simp only [ajZ]
 have hd:(gK n.toNat 8).all mM=true:=by
  rw [ajE]
  intro c hc
  have:=(ajE.1 (J8 8 n.toNat)) c hc
  unfold lu at this
  rw [ajc,adN,adN]at this
  unfold mM
  have e1:(48:UInt8)≤c:=UInt8.le_iff_toNat_le.2 this.1
  have e2:c≤57:=UInt8.le_iff_toNat_le.2 this.2
  simp [e1,e2]
 rw [hd]
 rfl
theorem abv {M:ay}{K r:Nat} (h:Calm K r M){s t:ByteArray}{i:Nat} (h1:bP M.now s=some i) (h2:bP M.now t=some i):t=s:=by
 by_cases e:t=s
 ·exact e
 ·exfalso
  have:=(Ol h.ok.fH.lF h.dst h1).1 (t,i) (aji.2 ⟨jk h2,by simpa [bne,mF] using e⟩)
  exact this rfl
theorem all_some {M:ay} (q:Quiet M){s:ByteArray}{i:Nat} (h:bP M.now s=some i):M.all s=((M.file i).now,0):=by
 unfold ay.all;rw [q.off,h];rfl
theorem all_none {M:ay} (q:Quiet M){s:ByteArray} (h:bP M.now s=none):M.all s=([],9):=by
 unfold ay.all;rw [q.off,h];rfl
section
variable {K r:Nat}{M:ay}{L:Log}
theorem Eu (h:Calm K r M){s:ByteArray}{i:Nat} (hi:bP M.now s=some i) (b:Bs) (hr:M.used+b.length≤M.room) :
  (M.append s b).2=0∧(M.append s b).1.now=M.now∧(M.append s b).1.used=M.used+b.length∧(M.append s b).1.all s=((M.all s).1++b,0)∧∀ t,t≠s→(M.append s b).1.all t=M.all t:=by
 have hlt:i<M.files.length:=h.ok.fH.ids _ (jk hi)
 rcases tN h.quiet s b with ⟨a1,_⟩|⟨j,a1,⟨a2,a3⟩|⟨a2,a3⟩⟩
 ·rw [hi]at a1;cases a1
 ·exfalso;omega
 rw [hi]at a1
 cases a1
 have hq:=(h.append s b).quiet
 rw [a3]at hq ⊢
 refine ⟨rfl,rfl,?_,?_,fun t ht=>?_⟩
 ·have:=X5 h.ok h.dst hi ((M.file i).do ⟨false,0,b⟩)
  have e:((M.file i).do ⟨false,0,b⟩).now.length=(M.file i).now.length+b.length:=by simp [bC.do,iJ.on]
  rw [e]at this
  show (M.gZ i _).used=_
  omega
 ·rw [all_some hq (show bP (M.gZ i _).now s=some i from hi),all_some h.quiet hi]
  show (((M.gZ i _).file i).now,(0:Int))=_
  rw [BG hlt,ac3 rfl];rfl
 ·cases hj:bP M.now t with
  |none=>rw [all_none hq (show bP (M.gZ i _).now t=none from hj),all_none h.quiet hj]
  |some j=>
   rw [all_some hq (show bP (M.gZ i _).now t=some j from hj),all_some h.quiet hj]
   show (((M.gZ i _).file j).now,(0:Int))=_
   rw [BG hlt,abw (fun e=>ht (abv h hi (by rw [← e];exact hj)))]
theorem EL (h:Calm K r M){s:ByteArray} (hg:good s=true) (hn:bP M.now s=none) (hl:M.now.length<500) :
  (M.create s).2=0∧(M.create s).1.now=jP M.now s M.files.length∧(M.create s).1.used=M.used∧(M.create s).1.all s=([],0)∧∀ t,t≠s→(M.create s).1.all t=M.all t:=by
 rcases BD h.quiet s with ⟨c1,c2,c3⟩|⟨_,_,_,c⟩
 ·exfalso
  apply c1
  unfold ay.create
  rw [h.quiet.off,h.quiet.step,hg,hn]
  simp only [ajK,akO,Bool.true_eq_false,Option.isSome_none]
  rw [abw oQ]
 have hq:=(h.create s).quiet
 rw [c]at hq ⊢
 refine ⟨rfl,rfl,?_,?_,fun t ht=>?_⟩
 ·show ((jP M.now s M.files.length).map fun p=>((M.files++[bC.new]).getD p.2 bC.new).now.length).sum=_
  rw [Am _ _ _ (fun j=>((M.files++[bC.new]).getD j bC.new).now.length),vW hn]
  have e0:((M.files++[bC.new]).getD M.files.length bC.new).now.length=0:=by simp [bC.new]
  rw [e0,aen]
  refine ay.G5 (g:=fun j=>((M.files++[bC.new]).getD j bC.new).now.length) (h:=fun j=>(M.file j).now.length) fun p hp=>?_
  have:=h.ok.fH.ids p hp
  simp only [ay.file,adP]
  rw [adV this]
 ·refine (all_some hq (i:=M.files.length) (zN h.ok.fH.lF _ _)).trans ?_
  simp [ay.file,bC.new]
 ·have e:=zM (l:=M.now) (i:=M.files.length) ht
  cases hj:bP M.now t with
  |none=>rw [hj]at e;exact (all_none hq e).trans (all_none h.quiet hj).symm
  |some j=>
   rw [hj]at e
   refine (all_some hq e).trans ?_
   rw [all_some h.quiet hj]
   have:=h.ok.fH.ids _ (jk hj)
   simp only [ay.file,adP]
   rw [adV this]
theorem Wi (q:Quiet M){s:ByteArray}{l:Bs} (h:M.all s=(l,0)){a n:Nat} (hn:a+n≤l.length):M.read s a n=((l.drop a).take n,0):=by
 unfold ay.all at h
 unfold ay.read
 rw [q.off]at h ⊢
 simp only [ajK,akO]at h ⊢
 split at h
 ·cases h
 ·rename_i i hi
  cases h
  rw [abw oQ,abw oQ]
  simp
theorem Log.ahu (L:Log) (M:ay):(L.shut M).1.1.limit=L.limit:=by
 unfold Log.shut
 split
 ·rfl
 split
 ·split <;> rfl
 ·rfl
structure Holds (n:Nat) (L:Log) (M:ay) (C:List (List aj.aP)):Prop where
 keeps:Keeps (n * 5) 1048576 L M
 len:L.l.length=C.length
 at_:∀ (k:Nat) (es:List aj.aP),C[k]?=some es→L.l[k]?=some ((k:Int),8+((encs es).length:Int))
 file:∀ (k:Nat) (es:List aj.aP),C[k]?=some es→M.all (name k)=(mag++encs es,0)
 good:∀ es∈C,(∀ x∈es,iw x)∧es≠[]
 fit:∀ es∈C,8+((encs es).length:Int)≤L.limit∨es.length=1
 count:C.length≤n
 used:M.used≤n * 400
 names:M.now.length≤n
 only:∀ (s:ByteArray) (i:Nat),bP M.now s=some i→∃ k:Nat,k<C.length∧s=name k
def put (C:List (List aj.aP)) (on:Bool) (x:aj.aP):List (List aj.aP):=if on then C.dropLast++[C.getLastD []++[x]] else C++[[x]]
theorem Dh {C:List (List aj.aP)} (h:C≠[]):C=C.dropLast++[C.getLastD []]:=by
 conv=>lhs;rw [← List.dropLast_concat_getLast h]
 rw [List.getLastD_eq_getLast?,List.getLast?_eq_some_getLast h];rfl
theorem VQ (C:List (List aj.aP)) (on:Bool) (x:aj.aP) (h:on=true→C≠[]):(put C on x).flatten=C.flatten++[x]:=by
 unfold put
 cases on with
 |false=>simp
 |true=>
  have e:=Dh (h rfl)
  simp only [akL]
  conv=>rhs;rw [e]
  simp only [List.flatten_append,ale,List.flatten_nil,afo,adR]
theorem vJ (a b:List aj.aP):encs (a++b)=encs a++encs b:=by unfold encs;rw [ajj]
theorem zx (x:aj.aP):encs [x]=(aj.encode x).1:=by unfold encs;simp
variable {n:Nat}{C:List (List aj.aP)}
theorem abz {x:aj.aP} (h0:(aj.encode x).2=0) (hk:x.key.length=32) (hd:x.data.length≤300):(aj.encode x).1.length≤341:=by
 rw [GY h0 hk]
 unfold aj.size
 split
 ·omega
 ·split <;> omega
theorem Wj {s:Int×Int}{x:aj.aP}{es:List aj.aP} (hK:Keeps K r L M) (hl:L.l.getLast?=some s) (hall:M.all (name s.1)=(mag++encs (es++[x]),0)) (hg:iw x) :
  L.read M ⟨s.1,8+((encs es).length:Int),((aj.encode x).1.length:Int)⟩=(x,0):=by
 unfold Log.read
 have hat:=hK.log.Qc hl
 simp only [hat]
 have hr:=Wi hK.calm.quiet hall (a:=8+(encs es).length) (n:=(aj.encode x).1.length) (by rw [vJ,zx];simp only [aal];have:mag.length=8:=rfl;omega)
 have hd:((mag++encs (es++[x])).drop (8+(encs es).length)).take (aj.encode x).1.length=(aj.encode x).1:=by
  rw [vJ,zx,← adR,ak7,aiz (by simp only [aal];have:mag.length=8:=rfl;omega)]
  have:8+(encs es).length - (mag++encs es).length=0:=by simp only [aal];have:mag.length=8:=rfl;omega
  rw [this,alu,ajd,aiv]
 rw [hd]at hr
 have hz:((8+(encs es).length:Nat):Int)=8+((encs es).length:Int):=oQ
 rw [hz]at hr
 have hre:=aj.MW hg.1 hg.2 []
 rw [afo]at hre
 rw [hr]
 simp only [hre]
 rw [abw aN,abw aN,abw (by simp)]
end
end Go.Seg
namespace Go.Seg
structure Cal where
 kind:Int
 e:aj.aP
 n:Int
 p:aU
 l:List Int
def Cal.cut (c:Cal):Cal:=⟨c.kind,aj.Qz 300 c.e,c.n,c.p,c.l.take 60⟩
end Go.Seg
namespace Go.Proofs.YtiglchkhikciiaaGreatDoor
open Go Go.Sl Go.ay Go.MapKept Go.RowKit
section
variable {w0 w:World}{F R:List aG}{v bv dv x lv:Value}
theorem afV {k:Nat}{l:List Int}{a:Option Addr}{n c:Nat} (h:bg 1 (.slice a n c) (ints l) w):bg 1 (.slice a (min n k) c) (ints (l.take k)) w:=by
 obtain ⟨a',n',c',he,hl,hx⟩:=h
 cases he
 have hil:∀ l:List Int,(ints l).length=l.length:=fun l=>aaJ ..
 rw [hil,aiw]at hl
 refine ⟨a,_,c,rfl,by rw [hil,acJ];omega,fun j y hj=>?_⟩
 have hj':(ints l)[j]?=some y:=by
  unfold ints at hj ⊢
  rw [ala,ajl]at hj
  split at hj
  ·exact hj
  ·cases hj
 exact hx j y hj'
end
section
variable {w0 w:World}{F R:List aG}{v bv dv x lv:Value}
theorem aiB (x lo hi:Int) (h:lo≤hi):lo≤within x lo hi∧within x lo hi≤hi:=by
 unfold within
 split
 ·exact ⟨alC _,h⟩
 ·split <;> omega
end
end Go.Proofs.YtiglchkhikciiaaGreatDoor
namespace Go.Seg
open Go.ay
theorem Qo {K:Nat}{L:Log}{M:ay} (h:M.Ok K) (n:Int):(L.bytes M n).1.length≤16777216:=by
 unfold Log.bytes
 split
 ·simp
 ·unfold ay.all
  split
  ·simp
  split
  ·simp
  ·exact (h.file _).su
end Go.Seg
namespace Go.Seg
open Go.ay
open Go.aj (encs iw)
section
variable {n:Nat}{M:ay}{L:Log}{C:List (List aj.aP)}
def aaU (C:List (List aj.aP)):Prop:=∀ es∈C,∀ (k:Nat) (x:aj.aP),es[k]?=some x→x.tag=2→k+1=es.length
def aeV (es:List aj.aP):Prop:=∀ x∈es,x.tag≠2
structure Tail (on:Bool) (C:List (List aj.aP)):Prop where
 last:aaU C
 tail:on=true→aeV (C.getLastD [])
theorem BJ {k:Nat} (h:L.fits k=true):L.on=true:=by
 unfold Log.fits at h
 rw [ajc]at h
 exact h.1
end
end Go.Seg
namespace Go.Proofs.YtiglchkhikciiaaGreatDoor
open Go Go.Sl Go.ay Go.MapKept Go.RowKit
section
variable {w0 w:World}{F R:List aG}{v bv dv x lv:Value}
theorem RH {fs:List (aj.fO×Value)}{v:Value} (hk:∀ p∈fs,p.1.e.key.length=32) (h:Sat w0 w (aC 80 36 v (lq fs)::R)):∃ a c,v = .slice a fs.length c:=by
 obtain ⟨a,n,c,rfl,hl,hx⟩:=Sat.rd h
 rw [RG hk]at hl
 obtain rfl:n=fs.length:=by omega
 exact ⟨a,c,rfl⟩
theorem QE:∀ (fs:List (aj.fO×Value)) (i:Nat) (p:aj.fO×Value),fs[i]?=some p→∃ G,pq fs=star (bJ p.2 p.1.e.data) G
 |[],_,_,h=>by cases h
 |x::fs,0,p,h=>by
  obtain rfl:x=p:=by simpa using h
  exact ⟨_,rfl⟩
 |x::fs,i+1,p,h=>by
  obtain ⟨G,hG⟩:=QE fs i p (by simpa using h)
  refine ⟨star (bJ x.2 x.1.e.data) G,?_⟩
  show star (bJ x.2 x.1.e.data) (pq fs)=_
  rw [hG,wR]
theorem aa6 {fs:List (aj.fO×Value)}{i:Nat}{p:aj.fO×Value} (h:fs[i]?=some p):Ro w0 (pq fs::R) (bg 1 p.2 (aA p.1.e.data)):=fun w hw=>by
 obtain ⟨G,hG⟩:=QE fs i p h
 rw [hG]at hw
 exact Sat.rd (Sat.star.1 hw)
theorem Ql {l:Bs} (h:Sat w0 w (bJ v l::R)):kV v∧∃ a c,v = .slice a l.length c:=by
 refine ⟨aaF h,?_⟩
 obtain ⟨a,n,c,rfl,_,_,rfl⟩:=zo h
 exact ⟨a,c,rfl⟩
end
end Go.Proofs.YtiglchkhikciiaaGreatDoor
namespace Go.aj
theorem Xn:∀ (k:Nat) (b:Bs) (at_:Nat),(mQ k b at_).1.length≤k
 |0,_,_=>acy 0
 |k+1,b,at_=>by
  unfold mQ
  split
  ·exact afm _
  split
  ·exact afm _
  ·simp only [aja]
   have:=Xn k
   exact Nat.succ_le_succ (this _ _)
theorem Xq (b:Bs):(scan b).1.length≤b.length:=by
 unfold scan
 split
 ·exact Xn _ _ _
 ·exact afm _
end Go.aj
namespace Go.Proofs.YtiglchkhikciiaaGreatDoor
open Go Go.Sl Go.ay Go.MapKept Go.RowKit
abbrev dB (L:Seg.Log) (M:ay):Rep.Told:=fun n=>L.bytes M n
section
variable {w0 w:World}{F:List aG}{p m K:Nat}{L:Seg.Log}{M:ay}{sv:Value}
set_option maxRecDepth 20000 in
theorem split_c (hL:L.Ok) (hM:M.Ok K) (hH:Ro w0 F Half) (h:Sat w0 w (aC 3 1 sv (ints L.aF)::aI p m L::aH m M::F)) :
  Calls Tryz.prog 142 #[ptr p,sv] w (aO fun v w'=>v = .tuple #[.int .i64 (Rep.split (dB L M) L.aF L.aF.length).1,errno (Rep.split (dB L M) L.aF L.aF.length).2] ∧
   Sat w0 w' (aC 3 1 sv (ints L.aF)::aI p m L::aH m M::F)):=by
 have HL:=uQ hL;have HM:=uQ hM;have HH:=uQ hH
 have Hlen:=uQ (show L.aF.length≤1073741824 from by unfold Seg.Log.aF;rw [aaJ];have:=hL.len;omega)
 obtain ⟨sa,sc,rfl⟩:∃ a c,sv = .slice a L.aF.length c:=by
  obtain ⟨a,n,c,rfl,hl,_⟩:=Sat.rd h
  refine ⟨a,c,?_⟩
  rw [show (ints L.aF).length=L.aF.length from aaJ ..,aiw]at hl
  rw [hl]
 have w1:IntKind.i64.wrap ((L.aF.length:Int) - 1)=(L.aF.length:Int) - 1:=acI _ (by have:=Hlen.out;omega)
 clear hL hM hH
 go_enter Tryz.func142,Tryz.ntmps142
 go_wp2_with fail
 go_loopg [6] L.aF.length (fun g iq wr=>∃ k:Nat,g=0+k∧k≤L.aF.length∧iq = .int .i64 ((k:Int) - 1)∧Rep.split (dB L M) L.aF L.aF.length=Rep.split (dB L M) L.aF k ∧
  Sat w0 wr (aC 3 1 (.slice sa L.aF.length sc) (ints L.aF)::aI p m L::aH m M::F))
 case atStart=>exact ⟨L.aF.length,(aen _).symm,acy _,rfl,rfl,h⟩
 case round=>
  obtain ⟨k,rfl,hk,rfl,he,hS⟩:=hrel
  clear h
  cases k with
  |zero=>
   have c1:¬ (((0:Nat):Int) - 1)≥0:=by decide
   have He:=uQ he
   clear he
   go_wp2_with fail
   go_ret2
   rw [He.out]
   exact ⟨_,rfl,rfl,hS⟩
  |succ k=>
   have e1:((k+1:Nat):Int) - 1=(k:Int):=oQ
   rw [e1]
   have c1:(k:Int)≥0:=oQ
   have c2:(k:Int)<(L.aF.length:Int):=oQ
   have w2:IntKind.i64.wrap ((k:Int) - 1)=(k:Int) - 1:=acI _ (by have:=Hlen.out;omega)
   have w3:IntKind.i64.wrap ((k:Int)+1)=((k+1:Nat):Int):=by rw [acI _ (by have:=Hlen.out;omega)];omega
   obtain ⟨s,hs⟩:∃ s,L.aF[k]?=some s:=⟨_,aak oQ⟩
   have hgd:L.aF.getD k 0=s:=by rw [List.getD,hs];rfl
   have Hu:=uQ (show Rep.split (dB L M) L.aF (k+1)=if (L.bytes M s).2≠0 then (0,(L.bytes M s).2) else if (aj.scan (L.bytes M s).1).2.2=0∧Rep.vK (aj.scan (L.bytes M s).1).1=true then (k+1,0) else Rep.split (dB L M) L.aF k by
    rw [Rep.split,hgd])
   obtain ⟨bk,off,cc,hsv,hcell⟩:=iC (f:=fun i:Int=>[Value.int .i64 i]) (k:=1) (l:=L.aF) (fun u _=>rfl) (by have:=Sat.rd hS;rw [show ints L.aF=L.aF.flatMap fun i=>[Value.int .i64 i] from by unfold ints;exact List.map_eq_flatMap]at this;exact this) hs aN
   cases hsv
   have f0:=hcell 0 _ rfl
   rw [aiw,akc]at f0
   have He:=uQ he
   have hb:=UC HL.out HM.out s (hS.sb:Sat w0 wr (aI p m L::aH m M::aC 3 1 (.slice (some ⟨bk,off,none⟩) L.aF.length sc) (ints L.aF)::F))
   have hk':=uQ hk
   clear hcell hs hgd he hS hk
   go_wp2_with fail
   refine hb.mono ?_
   rintro ee w3 ⟨v,rfl,bv,rfl,hS3⟩
   clear hb
   obtain ⟨hcap,ca,cc,rfl⟩:=Ql hS3
   by_cases h0:(L.bytes M s).2=0
   rotate_left
   ·have hb:((L.bytes M s).2 != 0)=true:=by rw [aj6];exact h0
    have Hf:=uQ (show Rep.split (dB L M) L.aF (k+1)=(0,(L.bytes M s).2) by rw [Hu.out,ac3 h0])
    clear h0
    go_wp2_with fail
    go_ret2
    rw [He.out,Hf.out]
    exact ⟨_,rfl,rfl,hS3.sb⟩
   have hb:((L.bytes M s).2 != 0)=false:=by rw [h0];rfl
   have H0:=uQ h0
   rw [h0]
   clear h0
   have hbl:=Seg.Qo (L:=L) HM.out s
   have hsc:=RZ (w0:=w0) (w:=w3) (L.bytes M s).1 (Ro.bJ _ _) hcap (Ro.os HH.out) (adr hbl aN) hS3
   have oh:=uQ hbl
   clear hcap hbl
   go_wp2_with fail
   refine hsc.mono ?_
   rintro ee w4 ⟨v,rfl,fs,fv,hfs,hfk,rfl,hS4⟩
   clear hsc hS3
   obtain ⟨fa,fc,rfl⟩:=RH hfk hS4
   have hS5:Sat w0 w4 (aC 3 1 (.slice (some ⟨bk,off,none⟩) L.aF.length sc) (ints L.aF)::aI p m L::aH m M::F):=hS4.sb
   by_cases h1:(aj.scan (L.bytes M s).1).2.2=0
   rotate_left
   ·have hb1:((aj.scan (L.bytes M s).1).2.2==0)=false:=by rw [adW];exact h1
    have Hf:=uQ (show Rep.split (dB L M) L.aF (k+1)=Rep.split (dB L M) L.aF k by rw [Hu.out,abw (fun h=>h H0.out),abw (fun h=>h1 h.1)])
    clear h1 hS4 hfs hfk
    go_wp2_with fail
    go_roundg (0+k)
    case measure=>omega
    case rel=>exact ⟨k,rfl,Nat.le_of_succ_le hk'.out,by first|rfl|go_num,He.out.trans Hf.out,hS5⟩
   have hb1:((aj.scan (L.bytes M s).1).2.2==0)=true:=akr.2 h1
   have hen:=abD (w:=w4) fs hfk (by
    have:=aj.Xq (L.bytes M s).1
    rw [← hfs,aaJ]at this
    have:=oh.out;omega) (Sat.rd hS4)
   rw [hfs]at hen
   clear hS4 hfs hfk
   by_cases h2:Rep.vK (aj.scan (L.bytes M s).1).1=true
   ·have Hf:=uQ (show Rep.split (dB L M) L.aF (k+1)=(k+1,0) by rw [Hu.out,abw (fun h=>h H0.out),ac3 ⟨h1,h2⟩])
    rw [h2]at hen
    clear h1 h2
    go_wp2_with fail
    refine hen.mono ?_
    rintro ee w5 ⟨v,rfl,rfl,rfl⟩
    clear hen
    go_wp2_with fail
    go_ret2
    rw [He.out,Hf.out]
    exact ⟨_,rfl,rfl,hS5⟩
   ·have Hf:=uQ (show Rep.split (dB L M) L.aF (k+1)=Rep.split (dB L M) L.aF k by rw [Hu.out,abw (fun h=>h H0.out),abw (fun h=>h2 h.2)])
    rw [Bool.not_eq_true]at h2
    rw [h2]at hen
    clear h1 h2
    go_wp2_with fail
    refine hen.mono ?_
    rintro ee w5 ⟨v,rfl,rfl,rfl⟩
    clear hen
    go_wp2_with fail
    go_roundg (0+k)
    case measure=>omega
    case rel=>exact ⟨k,rfl,Nat.le_of_succ_le hk'.out,by first|rfl|go_num,He.out.trans Hf.out,hS5⟩
end
section
variable {P:Program}{w0 w:World}{t ty:TypeId}
theorem wJ {L R:List aG}{b:Nat}{T:TypeId}{cs:Array Value}{fn:Func}{p:Tmp}{tmps:Array Value}{d:TypeDesc} (hf:fn.results=#[.cell p ty]) (hs:Sat w0 w L) (hp:tmps.getD p undef = .pointer (some ⟨b,0,none⟩)) (k:Pick (pt b (.cells cs T (0,0))) L R)
  (hu:P.underlying ty=some d) (hd:d.isRow=true) (hi:(P.info? ty).map (·.size)=some cs.size):(results fn tmps).run P w = .ok (.agg cs) w:=by
 have hl:=run_loadVar_row (P:=P) w b T ty cs (0,0) d (hs.pick k).at hu (by cases d <;> simp_all [TypeDesc.isRow]) hi
 have e:(results fn tmps).run P w=((asAddr (tmps.getD p undef)).run P w).andThen fun a w₁=>(loadVar ty a).run P w₁:=by
  simp only [results,hf]
  simp [Result.andThen]
 rw [e,hp]
 simp [asAddr,hl,Result.andThen]
end
end Go.Proofs.YtiglchkhikciiaaGreatDoor
namespace Go.Rep
def lastOf (bt:Told) (ns:List Int):Int×Int:=
 if (split bt ns ns.length).2≠0 then (0,(split bt ns ns.length).2) else if (split bt ns ns.length).1=0 then (-1,0) else (ns.getD ((split bt ns ns.length).1 - 1) 0,0)
end Go.Rep
namespace Go.Proofs.YtiglchkhikciiaaGreatDoor
open Go Go.Sl Go.ay Go.MapKept Go.RowKit
section
variable {w0 w:World}{F:List aG}{p m K:Nat}{L:Seg.Log}{M:ay}{sv:Value}
theorem CZ {sv:Value}{l:List Int}{i:Nat}{s:Int} (h:bg 1 sv (ints l) w) (hs:l[i]?=some s):∃ bk off c,sv = .slice (some ⟨bk,off,none⟩) l.length c∧w.cell? ⟨bk,off+i,none⟩=some (.int .i64 s):=by
 obtain ⟨bk,off,cc,hsv,hcell⟩:=iC (f:=fun i:Int=>[Value.int .i64 i]) (k:=1) (l:=l) (fun u _=>rfl) (by rw [show ints l=l.flatMap fun i=>[Value.int .i64 i] from by unfold ints;exact List.map_eq_flatMap]at h;exact h) hs aN
 have f0:=hcell 0 _ rfl
 rw [aiw,akc]at f0
 exact ⟨bk,off,cc,hsv,f0⟩
theorem Uw {sv:Value}{l:List Int} (h:bg 1 sv (ints l) w):∃ a c,sv = .slice a l.length c:=by
 obtain ⟨a,n,c,rfl,hl,_⟩:=h
 refine ⟨a,c,?_⟩
 rw [show (ints l).length=l.length from aaJ ..,aiw]at hl
 rw [hl]
set_option maxRecDepth 20000 in
theorem FH (hL:L.Ok) (hM:M.Ok K) (hH:Ro w0 F Half) (h:Sat w0 w (aI p m L::aH m M::F)) :
  Calls Tryz.prog 91 #[ptr p] w (aO fun v w'=>v = .tuple #[.int .i64 (Rep.lastOf (dB L M) L.aF).1,errno (Rep.lastOf (dB L M) L.aF).2]∧Sat w0 w' (aI p m L::aH m M::F)):=by
 have Hlen:=uQ (show L.aF.length≤1073741824 from by unfold Seg.Log.aF;rw [aaJ];have:=hL.len;omega)
 have hse:=Dn hL h
 have HL:=uQ hL;have HM:=uQ hM;have HH:=uQ hH
 clear hL hM hH h
 go_enter Tryz.func91,Tryz.ntmps91
 go_wp2_with fail
 refine hse.mono ?_
 rintro ee w1 ⟨v,rfl,hS⟩
 clear hse
 have hsp:=split_c HL.out HM.out HH.out hS
 go_wp2_with fail
 refine hsp.mono ?_
 rintro ee w2 ⟨v',rfl,rfl,hS2⟩
 clear hsp hS
 have o7:=uQ (Rep.N7 (dB L M) L.aF L.aF.length)
 have HS:=uQ (hS2.sb:Sat w0 w2 (aI p m L::aH m M::F))
 have hrd:=Sat.rd hS2
 clear hS2
 by_cases h0:(Rep.split (dB L M) L.aF L.aF.length).2=0
 ·have hb:((Rep.split (dB L M) L.aF L.aF.length).2 != 0)=false:=by rw [h0];rfl
  by_cases h1:(Rep.split (dB L M) L.aF L.aF.length).1=0
  ·have Hf:=uQ (show Rep.lastOf (dB L M) L.aF=(-1,0) by unfold Rep.lastOf;rw [abw (fun h=>h h0),ac3 h1])
   have hb1:(((Rep.split (dB L M) L.aF L.aF.length).1:Int)==0)=true:=by rw [h1];rfl
   clear hrd h0 h1
   go_wp2_with fail
   go_ret2
   rw [Hf.out]
   exact ⟨_,rfl,rfl,HS.out⟩
  ·have Hf:=uQ (show Rep.lastOf (dB L M) L.aF=(L.aF.getD ((Rep.split (dB L M) L.aF L.aF.length).1 - 1) 0,0) by unfold Rep.lastOf;rw [abw (fun h=>h h0),abw h1])
   have hle:=o7.out
   generalize (Rep.split (dB L M) L.aF L.aF.length).1=n at *
   have hb1:((n:Int)==0)=false:=by rw [adW];omega
   have w1:IntKind.i64.wrap ((n:Int) - 1)=((n - 1:Nat):Int):=by rw [acI _ (by have:=Hlen.out;omega)];omega
   have hlt:n - 1<L.aF.length:=oQ
   have hs:L.aF[n - 1]?=some (L.aF.getD (n - 1) 0):=by rw [List.getD,aak hlt];rfl
   generalize L.aF.getD (n - 1) 0=s at *
   generalize n - 1=j at *
   obtain ⟨bk,off,c,rfl,f0⟩:=CZ hrd hs
   have c1:(0:Int)≤(j:Int):=oQ
   have c2:(j:Int)<(L.aF.length:Int):=oQ
   clear hrd h0 h1 hs hlt hle
   go_wp2_with fail
   go_ret2
   rw [Hf.out]
   exact ⟨_,rfl,rfl,HS.out⟩
 ·have hb:((Rep.split (dB L M) L.aF L.aF.length).2 != 0)=true:=by rw [aj6];exact h0
  have Hf:=uQ (show Rep.lastOf (dB L M) L.aF=(0,(Rep.split (dB L M) L.aF L.aF.length).2) by unfold Rep.lastOf;rw [ac3 h0])
  clear hrd h0
  go_wp2_with fail
  go_ret2
  rw [Hf.out]
  exact ⟨_,rfl,rfl,HS.out⟩
end
section
variable {P:Program}{w0 w:World}{ops:Array Oper}{rest:List Oper}{a:Act}{Q:Exit→Act→World→Prop}{dst:Option Tmp}{t ty:TypeId}{pos:String}{after:Array Edge}{x y:Operand}{v v1 v2:Value}{i1 i2:Nat}
theorem Yd (h1:a.eval x=v1) (h2:a.eval y=v2) (hr:∀ w,(Instr.build ty #[(i1,v1),(i2,v2)]).run P w = .ok v w) (h:wpList P ops Q rest (a.put dst v) w) :
  wpList P ops Q (⟨dst,.build ty #[(i1,x),(i2,y)],t,pos,after,none⟩::rest) a w:=
 ajx rfl fun _ hK=>by
  unfold Oper.wp execOp
  simp only [ajR,ag8,ajP,h1,h2,adO,hr,ac2,aeC]
  exact hK _ _ h
theorem Ou (hr:∀ w,(Instr.build ty #[]).run P w = .ok v w) (h:wpList P ops Q rest (a.put dst v) w):wpList P ops Q (⟨dst,.build ty #[],t,pos,after,none⟩::rest) a w:=
 ajx rfl fun _ hK=>by
  unfold Oper.wp execOp
  simp only [ajR,ajP,adO,hr,ac2,aeC]
  exact hK _ _ h
theorem uI {L R:List aG}{b:Nat}{T:TypeId}{cs:Array Value}{fn:Func}{t p u:Tmp}{tmps:Array Value}{d:TypeDesc} (hf:fn.results=#[.tmp t,.cell p ty,.tmp u]) (hs:Sat w0 w L) (hp:tmps.getD p undef = .pointer (some ⟨b,0,none⟩)) (k:Pick (pt b (.cells cs T (0,0))) L R)
  (hu:P.underlying ty=some d) (hd:d.isRow=true) (hi:(P.info? ty).map (·.size)=some cs.size):(results fn tmps).run P w = .ok (.tuple #[tmps.getD t undef,.agg cs,tmps.getD u undef]) w:=by
 have hl:=run_loadVar_row (P:=P) w b T ty cs (0,0) d (hs.pick k).at hu (by cases d <;> simp_all [TypeDesc.isRow]) hi
 have e:(results fn tmps).run P w=((asAddr (tmps.getD p undef)).run P w).andThen fun a w₁=>((loadVar ty a).run P w₁).andThen fun v w₂=> .ok (.tuple #[tmps.getD t undef,v,tmps.getD u undef]) w₂:=by
  simp only [results,hf]
  simp [Result.andThen]
 rw [e,hp]
 simp [asAddr,hl,Result.andThen]
theorem P8 (h:Stop (wpList P ops Q (⟨dst,.build ty #[(i1,x),(i2,y)],t,pos,after,none⟩::rest) a w)):wpList P ops Q (⟨dst,.build ty #[(i1,x),(i2,y)],t,pos,after,none⟩::rest) a w:=h.out
theorem JK (h:Stop (wpList P ops Q (⟨dst,.build ty #[],t,pos,after,none⟩::rest) a w)):wpList P ops Q (⟨dst,.build ty #[],t,pos,after,none⟩::rest) a w:=h.out
end
section
variable {w0 w:World}{F:List aG}
theorem MK:qW Tryz.prog 33=some [(0,1),(1,1),(2,1),(3,32),(35,1)]:=by kernel_rfl
theorem agJ (x y:Int) (w:World):(Instr.build 33 #[(0,.int .i64 x),(1,.int .i64 y)]).run Tryz.prog w = .ok (.agg (dK ⟨x,y,0⟩)) w:=by
 have h:=ak8 (P:=Tryz.prog) [(0,.int .i64 x),(1,.int .i64 y)] MK mV (by
  intro p hp
  have hzz:(Value.agg (dK Rep.dI.zero)).cells.size=36:=by rfl
  rw [hzz]
  rcases aer.1 hp with rfl|hp
  ·exact ⟨0,rfl,by show 0+1≤36;omega⟩
  ·rw [aiR.1 hp]
   exact ⟨1,rfl,by show 1+1≤36;omega⟩) w
 exact h
theorem agK (x y z:Int) (w:World):(Instr.build 33 #[(0,.int .i64 x),(1,.int .i64 y),(2,.int .i64 z)]).run Tryz.prog w = .ok (.agg (dK ⟨x,y,z⟩)) w:=by
 have h:=ak8 (P:=Tryz.prog) [(0,.int .i64 x),(1,.int .i64 y),(2,.int .i64 z)] MK mV (by
  intro p hp
  have hzz:(Value.agg (dK Rep.dI.zero)).cells.size=36:=by rfl
  rw [hzz]
  rcases aer.1 hp with rfl|hp
  ·exact ⟨0,rfl,by show 0+1≤36;omega⟩
  rcases aer.1 hp with rfl|hp
  ·exact ⟨1,rfl,by show 1+1≤36;omega⟩
  ·rw [aiR.1 hp]
   exact ⟨2,rfl,by show 2+1≤36;omega⟩) w
 exact h
theorem GK (w:World):(Instr.build 33 #[]).run Tryz.prog w = .ok (.agg (dK Rep.dI.zero)) w:=ak8 (P:=Tryz.prog) [] MK mV (by simp) w
set_option maxRecDepth 20000 in
theorem abU (s:Int) (at_:Nat) (h:Sat w0 w F):Calls Tryz.prog 150 #[.int .i64 s,.int .i64 at_] w (aO fun v w'=>v = .agg (dK (Rep.fault s at_))∧Sat w0 w' F):=by
 have hone:∀ f,(dK f).size=36:=fun f=>rfl
 by_cases h0:at_=0
 ·have hb:((at_:Int)==0)=true:=by rw [h0];rfl
  have e:=uQ (show Rep.fault s at_=⟨1,s,0⟩ from ac3 h0)
  clear h0
  go_enter Tryz.func150,Tryz.ntmps150
  go_wp2_with (with_reducible apply eU)
  refine ⟨dU mV h rfl ?_⟩
  intro b4 w4 h4
  go_wp2_with (first
   |((with_reducible refine P8 ⟨?_⟩);refine Yd ah ah (fun w=>agJ 1 s w) ?_)
   |((with_reducible refine bY ⟨?_⟩);refine fE (dK ⟨1,s,0⟩) h4 ah ah ah bZ au ah ?_;intro w9 h9))
  refine ⟨rfl,_,wJ rfl h9 ah aY Tryz.underlying33 rfl au,?_⟩
  exact ⟨_,rfl,by rw [e.out],h9.drop⟩
 ·have hb:((at_:Int)==0)=false:=by rw [adW];omega
  have e:=uQ (show Rep.fault s at_=⟨2,s,at_⟩ from abw h0)
  clear h0
  go_enter Tryz.func150,Tryz.ntmps150
  go_wp2_with (with_reducible apply eU)
  refine ⟨dU mV h rfl ?_⟩
  intro b4 w4 h4
  go_wp2_with (first
   |((with_reducible refine P9 ⟨?_⟩);refine Ye ah ah ah (fun w=>agK 2 s at_ w) ?_)
   |((with_reducible refine bY ⟨?_⟩);refine fE (dK ⟨2,s,at_⟩) h4 ah ah ah bZ au ah ?_;intro w9 h9))
  refine ⟨rfl,_,wJ rfl h9 ah aY Tryz.underlying33 rfl au,?_⟩
  exact ⟨_,rfl,by rw [e.out],h9.drop⟩
end
end Go.Proofs.YtiglchkhikciiaaGreatDoor
namespace Go.Rep
open Go.aj (Bs)
def Ad (bt:Told) (ns:List Int) (n:Nat):(dI×Int) ⊕ Nat:=match bad bt (ns.take n) with
 |some x=> .inl x
 |none=> .inr n
def run (bt:Told) (ns:List Int):(dI×Int) ⊕ Nat:=
 if (split bt ns ns.length).2≠0 then .inl (dI.zero,(split bt ns ns.length).2) else Ad bt ns (split bt ns ns.length).1
theorem WZ {bt:Told}{ns:List Int}{n:Nat}{x:dI×Int} (h:bad bt (ns.take n)=some x):Ad bt ns n = .inl x:=by unfold Ad;rw [h]
theorem W9 {bt:Told}{ns:List Int}{n:Nat} (h:bad bt (ns.take n)=none):Ad bt ns n = .inr n:=by unfold Ad;rw [h]
def oL (l:List Int):Int:=match l.getLast? with
 |some s=>s
 |none=> -1
theorem Ve:∀ {l:List Row}{k:Bs}{r:Row},newest l k=some r→r∈l
 |[],_,_,h=>by cases h
 |x::l,k,r,h=>by
  unfold newest at h
  split at h
  ·rename_i y hy
   cases h
   exact .tail _ (Ve hy)
  ·split at h
   ·cases h;exact .head _
   ·cases h
theorem aed {l:List Row}{k:Bs}{a:dF} (h:ledger l k=some a):∃ r∈l,a.place=jV r:=by
 unfold ledger at h
 cases hn:newest l k with
 |none=>rw [hn]at h;cases h
 |some r=>rw [hn]at h;cases h;exact ⟨r,Ve hn,rfl⟩
theorem agl (bt:Told) (ns:List Int) (n:Nat):∀ r∈rowsOf bt (ns.take n),r∈rowsOf bt ns:=fun r hr=>by
 unfold rowsOf at hr ⊢
 obtain ⟨s,hs,h⟩:=alq.1 hr
 exact alq.2 ⟨s,ajm hs,h⟩
theorem Nq (bt:Told) (ns:List Int) (n:Nat):(rowsOf bt (ns.take n)).length≤(rowsOf bt ns).length:=by
 have e:rowsOf bt ns=rowsOf bt (ns.take n)++rowsOf bt (ns.drop n):=by
  unfold rowsOf;rw [← ajj,ajs]
 rw [e,aal];omega
theorem ad8 (l:List Int) (s:Int):oL (l++[s])=s:=by unfold oL;rw [List.getLast?_append];rfl
end Go.Rep
namespace Go.Proofs.YtiglchkhikciiaaGreatDoor
open Go Go.Sl Go.ay Go.MapKept Go.RowKit
section
variable {P:Program}{w0 w:World}{L R:List aG}{b:Nat}{ops:Array Oper}{a:Act}{Q:Exit→Act→World→Prop}{K:Act→World→Prop}{E:Prop}{dst:Option Tmp}{t ty:TypeId}{pos:String}{after:Array Edge}{y:Operand}{v:Value}{cs:Array Value}
theorem J9 (hs:Sat w0 w L) (hy:a.eval y=v) (hcs:v.cells=cs)
  (hK:∀ b w',Sat w0 w' (pt b (.cells cs ty (0,0))::L)→K (a.put dst (.pointer (some ⟨b,0,none⟩))) w') :
  if Region.wanted ⟨dst,.box ty y,t,pos,after,none⟩ (yielded ops a.tmps)=true then Oper.wp P ⟨dst,.box ty y,t,pos,after,none⟩ a w K Q else E:=by
 subst hcs
 refine xU rfl ?_
 have hS:=hs.alloc (.cells v.cells ty)
 unfold Oper.wp execOp
 have hrun:(Instr.box ty v).run P w = .ok (.pointer (some ⟨w.heap.size,0,none⟩)) (w.alloc (.cells v.cells ty)):=by
  simp [Instr.box,newVar,newRow,go_sem]
 simp only [hy,adO,aeC,hrun,ac2]
 exact hK _ _ hS
end
section
variable {w0 w:World}{F R:List aG}{sv:Value}
theorem ah4 {l:List Int}{n:Nat} (hn:n≤l.length) (h:Sat w0 w (aC 3 1 sv (ints l)::R)) :
  ∃ tv,(∀ w,(Instr.sliceAt 37 sv (some (.int .i64 n)) none none).run Tryz.prog w = .ok tv w)∧(∃ a' c',tv = .slice a' (l.length - n) c')∧∀ W,bg 1 sv (ints l) W→bg 1 tv (ints (l.drop n)) W:=by
 rcases h.jQ with ⟨rfl,he,h'⟩|⟨g,k,cap,cs,rfl,hl,hk,hc,hcm,htk,hp⟩
 ·obtain rfl:l=[]:=by simpa [ints] using he
  obtain rfl:n=0:=by simpa using hn
  refine ⟨.slice none 0 0,fun w=>by go_simp,⟨none,0,rfl⟩,fun W hW=>by simpa using hW⟩
 ·obtain rfl:k=l.length:=by simpa [ints] using hl.symm
  by_cases hce:cap=n
  ·have hd:l.drop n=[]:=List.drop_eq_nil_of_le oQ
   have e0:l.length - n=0:=oQ
   rw [hd,e0]
   have h1:n≤cap:=oQ
   have h2:l.length=n:=oQ
   refine ⟨.slice (some ⟨g,0,none⟩) 0 0,fun w=>?_,⟨_,_,rfl⟩,fun W hW=>⟨_,_,_,rfl,rfl,fun j x hj=>by cases hj⟩⟩
   have h4:(0:Int)≤(n:Int):=oQ
   have h5:(n:Int).toNat=n:=oQ
   subst hce
   go_simp
  ·refine ⟨.slice (some ⟨g,n,none⟩) (l.length - n) (cap - n),fun w=>?_,⟨_,_,rfl⟩,fun W hW=>?_⟩
   ·have h4:(0:Int)≤(n:Int):=by omega
    have h5:(n:Int).toNat=n:=oQ
    have h6:n≤cap:=oQ
    go_simp
   ·obtain ⟨a,n',c,he,hl',hx⟩:=hW
    cases he
    refine ⟨_,_,_,rfl,by unfold ints;rw [aaJ,adU,aiw],fun j x hj=>⟨_,rfl,?_⟩⟩
    have hj2:(ints l)[n+j]?=some x:=by
     unfold ints at hj ⊢
     rw [List.map_drop,akG]at hj
     exact hj
    obtain ⟨ad,e,hc'⟩:=hx (n+j) x hj2
    cases e
    rw [tK,aen]at hc'
    rw [tK]
    exact hc'
theorem acX {l:List Int}{n:Nat} (hn:n≤l.length) (h:Sat w0 w (aC 3 1 sv (ints l)::R)) :
  ∃ a' c',(∀ w,(Instr.sliceAt 37 sv none (some (.int .i64 n)) none).run Tryz.prog w = .ok (.slice a' n c') w)∧∀ W,bg 1 sv (ints l) W→bg 1 (.slice a' n c') (ints (l.take n)) W:=by
 rcases h.jQ with ⟨rfl,he,h'⟩|⟨g,k,cap,cs,rfl,hl,hk,hc,hcm,htk,hp⟩
 ·obtain rfl:l=[]:=by simpa [ints] using he
  obtain rfl:n=0:=by simpa using hn
  refine ⟨none,0,fun w=>by go_simp,fun W hW=>by simpa using hW⟩
 ·obtain rfl:k=l.length:=by simpa [ints] using hl.symm
  refine ⟨some ⟨g,0,none⟩,cap,fun w=>?_,fun W hW=>?_⟩
  ·have h4:(0:Int)≤(n:Int):=by omega
   have h5:(n:Int).toNat=n:=oQ
   have h6:n≤cap:=oQ
   go_simp
  ·obtain ⟨a,n',c,he,hl',hx⟩:=hW
   cases he
   refine ⟨_,_,_,rfl,by unfold ints;rw [aaJ,acJ,aiw];omega,fun j x hj=>?_⟩
   refine hx j x ?_
   unfold ints at hj ⊢
   rw [ala,ajl]at hj
   split at hj
   ·exact hj
   ·cases hj
theorem dY.lists {p B:Nat}{m:aj.Bs→Option Rep.dF} (h:Sat w0 w (dY p m B::R)):∃ kv,Tab.Lists m kv∧(∀ q∈kv,q.1.length=32)∧kv.length≤B:=by
 obtain ⟨t,sv',⟨ok,is,hb⟩,hS⟩:=dY.open h
 have hp:=List.mergeSort_perm (t.slots.filter fun x=>decide (x.st=1)) (fun a b:Tab.Slot Rep.dF=>decide (¬ b.key<a.key))
 have hw:=List.pairwise_mergeSort (le:=fun a b:Tab.Slot Rep.dF=>decide (¬ b.key<a.key)) (fun a b c h1 h2=>by
   rw [adN]at h1 h2 ⊢
   intro h3
   rcases Tab.EG a.key b.key with q|q|q
   ·exact h2 (alD h3 q)
   ·exact h2 (q ▸ h3)
   ·exact h1 q) (fun a b=>by
   rw [Bool.or_eq_true,adN,adN]
   by_cases q:b.key<a.key
   ·exact .inr fun q2=>ak2 _ (alD q q2)
   ·exact .inl q) (t.slots.filter fun x=>decide (x.st=1))
 obtain ⟨h1,h2⟩:=Tab.LK ok.good is hp (hw.imp fun {a b} q=>by rwa [adN]at q)
 refine ⟨_,h1,fun q hq=>?_,?_⟩
 ·obtain ⟨x,hx,rfl⟩:=acK.1 hq
  exact (h2 x hx).2
 ·rw [aaJ,hp.length_eq,← List.countP_eq_length_filter]
  have e:t.slots.countP (fun x=>decide (x.st=1))=Tab.jB t.slots:=by
   unfold Tab.jB
   refine List.countP_congr fun x _=>?_
   simp
  have:=ok.n;omega
end
section
variable {P:Program}{w0 w:World}{L R:List aG}{ops:Array Oper}{rest:List Oper}{a:Act}{Q:Exit→Act→World→Prop}{dst:Option Tmp}{t ty e:TypeId}{pos:String}{after:Array Edge}{x y s:Operand}{sz dS:Nat}{v v1:Value}
theorem agZ (hb:nP P t e sz dS=true) (w:World):(Instr.buildSlice t 0 #[]).run P w = .ok (.slice (some ⟨w.heap.size,0,none⟩) 0 0) (w.alloc (.cells #[] e)):=by
 obtain ⟨hu,i,z,hi,hz,e1,e2,e3,e4⟩:=vg hb
 have hsz':(sizeOf e).run P w = .ok i.size w:=by simp [sizeOf,typeInfo,hi]
 have hf:Instr.fill (fun i'=>some (i' * i.size,i.size)) ((Array.range 0).map ((#[]:Array Value)[· % (#[]:Array Value).size]!)) []=some #[]:=by unfold Instr.fill;simp
 unfold Instr.buildSlice
 simp only [adO,ajO hu,ac2,hsz',Nat.zero_mul,abw (show ¬ (0>2^24) by omega)]
 simp [newRow,go_sem]
theorem Qe (h:Stop (wpList P ops Q (⟨dst,.buildSlice ty 0 #[],t,pos,after,none⟩::rest) a w)):wpList P ops Q (⟨dst,.buildSlice ty 0 #[],t,pos,after,none⟩::rest) a w:=h.out
theorem Yh (hb:nP P ty e sz dS=true) (hs:Sat w0 w L)
  (hK:∀ b w',Sat w0 w' (aC e sz (.slice (some ⟨b,0,none⟩) 0 0) []::L)→wpList P ops Q rest (a.put dst (.slice (some ⟨b,0,none⟩) 0 0)) w'):wpList P ops Q (⟨dst,.buildSlice ty 0 #[],t,pos,after,none⟩::rest) a w:=by
 refine ajx rfl fun _ hK'=>?_
 have hS:=hs.alloc (.cells #[] e)
 unfold Oper.wp execOp
 simp only [ajR,ajP,adO,aeC,agZ hb w,ac2]
 exact hK' _ _ (hK _ _ (Sat.kC hS (by simp) (acy _) (by simp) aN (by simp)))
theorem Yc (e:TypeId) (sz dS:Nat){xs ys:List Value} (hb:nP P ty e sz dS=true) (hs:Sat w0 w L) (hv:a.eval s=v) (hy:a.eval y=v1) (p:Pick (aC e sz v xs) L R) (hrd:bg sz v1 ys w) (h1:∀ u∈ys,u.oneCell'=true)
  (h63:xs.length+ys.length≤2147483648) (hby:dS≤65000)
  (hK:∀ v' w',Sat w0 w' (aC e sz v' (xs++ys)::R)→wpList P ops Q rest (a.put dst v') w') :
  wpList P ops Q (⟨dst,.call { callee:= .builtin .append,args:=#[s,y],argTypes:=#[ty,ty] },t,pos,after,none⟩::rest) a w:=by
 obtain ⟨hu,i,z,hi,hz,e1,e2,e3,e4⟩:=vg hb
 subst e2
 refine wW (w0:=w0) rfl s y ty rfl e i z hu hi hz e1 e3 e4 hv hy h1 (hs.pick p) hrd (by unfold maxLen;omega) ?_ fun v' w' hS _=>hK v' w' hS
 calc (xs.length+ys.length) * i.bytes≤2147483648 * 65000:=akI h63 hby
  _≤140737488355328:=by decide
end
section
variable {w0 w:World}{F:List aG}{p b n c B:Nat}{m:aj.Bs→Option Seg.aU}{xs:List Value}
set_option maxRecDepth 20000 in
theorem aaP (h1:∀ u∈xs,u.oneCell'=true) (hl:xs.length≤2147483648) (h:Sat w0 w (aC 178 36 (.slice (some ⟨b,0,none⟩) n c) xs::F)) :
  Calls Tryz.prog 95 #[.slice (some ⟨b,0,none⟩) n c] w (aO fun v w'=>Sat w0 w' (aC 178 36 v xs::aC 178 36 (.slice (some ⟨b,0,none⟩) n c) xs::F)):=by
 have H1:=uQ h1;have Hl:=uQ hl
 have he:∀ w,(binOp .eql 175 (.slice (some ⟨b,0,none⟩) n c) (.slice none 0 0)).run Tryz.prog w = .ok (.bool false) w:=fun w=>by first|kernel_rfl|rfl
 clear h1 hl
 go_enter Tryz.func95,Tryz.ntmps95
 go_wp2_with (first
  |((with_reducible refine Qe ⟨?_⟩);refine Yh (e:=178) (sz:=36) (dS:=64) au h ?_;intro bN wN hN)
  |(with_reducible apply lg))
 refine ⟨Yc 178 36 64 au hN ah ah aT (Sat.rd hN.drop) H1.out (by have:=Hl.out;simp only [ajn];omega) aN ?_⟩
 intro v' w' hS
 rw [ajd]at hS
 go_wp2_with fail
 go_ret
 exact ⟨_,rfl,hS⟩
theorem ahz (s:List (Tab.Slot Seg.aU)):∀ u∈s.flatMap (slotL aK),u.oneCell'=true:=fun u hu=>by
 obtain ⟨x,_,hx⟩:=alq.1 hu
 have:=(ajE.1 (lQ aK x (uF _))) u hx
 exact this
set_option maxRecDepth 20000 in
theorem J4 (hB:B≤14000000) (h:Sat w0 w (aJ p m B::F)) :
  Calls Tryz.prog 48 #[ptr p] w (aO fun v w'=>∃ q,v=ptr q∧Sat w0 w' (aJ q m B::aJ p m B::F)):=by
 obtain ⟨t,sv,⟨ok,is,hb⟩,hR⟩:=aJ.open h
 have hsz:t.slots.length≤56000008:=by have:=ok.size;omega
 have Hlen:=uQ (show ∀ x∈t.slots,(slotL aK x).length=36 from fun x hx=>iT aK x (ok.good.key x hx) 3 (oM _))
 have iV:=uQ ok.good.jG
 have PG:=uQ (show (t.slots.flatMap (slotL aK)).length=t.slots.length * 36 from (iE Hlen.out).trans (ajW _ _))
 obtain ⟨la,lc,rfl⟩:=iD Hlen.out (Sat.rd (hR.pick aZ)) aN
 obtain ⟨bs,rfl⟩:∃ bs,la=some ⟨bs,0,none⟩:=by
  rcases Sat.jQ (hR.pick aZ) with ⟨_,he,_⟩|⟨b,n,cap,cs,he,_⟩
  ·have:=aje List.length he
   have:=PG.out
   have:=iV.out
   simp only [ajn]at *;omega
  ·cases he;exact ⟨b,rfl⟩
 have hok:=zS iV.out hR
 have bU:=uQ ok;have iK:=uQ is;have Hb:=uQ hb;have gq:=uQ hsz
 clear h ok is hb hsz hB
 go_enter Tryz.func48,Tryz.ntmps48
 go_wp2_with fail
 refine hok.mono ?_
 rintro ee w1 ⟨v,rfl,rfl,rfl⟩
 clear hok
 go_wp2_with fail
 have hR1:=hR.drew
 clear hR
 refine dH [13,14,15] (fun w'=>w'.cell? ⟨p,0,none⟩=some (.slice (some ⟨bs,0,none⟩) t.slots.length lc)∧w'.cell? ⟨p,1,none⟩=some (.int .i64 t.n)∧w'.cell? ⟨p,2,none⟩=some (.int .i64 t.gone)) au ?_
 have hG:World.cell? _ ⟨p,0,none⟩=some (.slice (some ⟨bs,0,none⟩) t.slots.length lc)∧World.cell? _ ⟨p,1,none⟩=some (.int .i64 t.n)∧World.cell? _ ⟨p,2,none⟩=some (.int .i64 t.gone):=⟨hR1.cellAt 0 _ rfl,hR1.cellAt 1 _ rfl,hR1.cellAt 2 _ rfl⟩
 refine rP 0 ?_ (y:=aX)
 refine rP 1 ?_ (y:=dZ)
 refine rP 2 ?_ (y:=cO)
 refine rt 3 (h:=?_)
 refine rP 5 ?_ (y:=aX)
 refine rP 6 ?_ (y:=dZ)
 refine rP 7 ?_ (y:=cO)
 refine rt 8 (h:=?_)
 refine rP 9 ?_ (y:=aX)
 refine rP 10 ?_ (y:=dZ)
 refine rP 11 ?_ (y:=cO)
 refine rt 12 (h:=?_)
 clear hG
 refine bV 4 ak au (fun K hK=>?_)
 (refine pF au ak ?_)
 refine (aaP (ahz _) (by rw [PG.out];have:=gq.out;omega) (hR1.sb:Sat w0 _ (aC 178 36 (.slice (some ⟨bs,0,none⟩) t.slots.length lc) (t.slots.flatMap (slotL aK))::fU p 180 (.slice (some ⟨bs,0,none⟩) t.slots.length lc) t.n t.gone::F))).mono ?_
 rintro ee w2 ⟨v,rfl,h2⟩
 refine hK _ _ (.inr (.inl ⟨h2.cellP fG 0 rfl,h2.cellP fG 1 rfl,h2.cellP fG 2 rfl⟩)) ?_
 clear hK hR1
 obtain ⟨a2,c2,rfl⟩:=iD Hlen.out (Sat.rd h2) aN
 refine rp 13 (hy:=(by (refine Or.inl ⟨by rfl,?_⟩;((intro wq;go_simp);first|done|exact wQ)))) (h:=?_)
 refine bV 14 ak au (fun K hK=>?_)
 refine J9 (cs:=#[.slice a2 t.slots.length c2,.int .i64 t.n,.int .i64 t.gone]) h2 ak ak ?_
 intro q w3 h3
 refine hK _ _ (.inl rfl) ?_
 clear hK h2
 refine rP 15 ?_ (y:=fJ)
 refine dD au ?_
 try simp only [iO]
 try go_frame
 go_wp2_with fail
 go_ret
 have h4:=aJ.shut bU.out iK.out Hb.out (h3.sb:Sat w0 w3 (fU p 180 (.slice (some ⟨bs,0,none⟩) t.slots.length lc) t.n t.gone::aC 178 36 (.slice (some ⟨bs,0,none⟩) t.slots.length lc) (t.slots.flatMap (slotL aK))::fU q 180 (.slice a2 t.slots.length c2) t.n t.gone::aC 178 36 (.slice a2 t.slots.length c2) (t.slots.flatMap (slotL aK))::F))
 exact ⟨_,rfl,q,rfl,aJ.shut bU.out iK.out Hb.out (h4.sb)⟩
theorem aef (h:Sat w0 w (aJ p m B::F)) :
  Calls Tryz.prog 72 #[ptr p] w (aO fun v w'=>∃ t:Tab.Tb Seg.aU,(t.Ok∧t.Is m)∧v = .int .i64 t.n∧w=w'):=by
 obtain ⟨t,sv,⟨ok,is,hb⟩,hR⟩:=aJ.open h
 have Hlen:=uQ (show ∀ x∈t.slots,(slotL aK x).length=36 from fun x hx=>iT aK x (ok.good.key x hx) 3 (oM _))
 obtain ⟨la,lc,rfl⟩:=iD Hlen.out (Sat.rd (hR.pick aZ)) aN
 have hok:=zS ok.good.jG hR
 have e1:w.cell? ⟨p,1,none⟩=some (.int .i64 t.n):=hR.cellAt 1 _ rfl
 have H:=uQ (And.intro ok is)
 clear h ok is hb hR
 go_enter Tryz.func72,Tryz.ntmps72
 go_wp2_with fail
 refine hok.mono ?_
 rintro ee w1 ⟨v,rfl,rfl,rfl⟩
 clear hok
 go_wp2_with fail
 go_ret
 exact ⟨_,rfl,t,H.out,rfl,rfl⟩
end
def tJ (w0:World) (F:List aG) (bt:Rep.Told) (ns:List Int) (p m:Nat) (L:Seg.Log) (M:ay) (v:Value) (w':World):Prop:=
 match Rep.run bt ns with
 |.inl (fl,e)=>v = .tuple #[.pointer none,.agg (dK fl),errno e]∧Sat w0 w' (aI p m L::aH m M::F)
 |.inr n=>∃ (ps pi:Nat) (uv tv av:Value) (kv:List (aj.Bs×Rep.dF)),v = .tuple #[ptr ps,.agg (dK Rep.dI.zero),errno 0] ∧
   (Tab.Lists (Rep.ledger (Rep.rowsOf bt (ns.take n))) kv∧(∀ q∈kv,q.1.length=32)∧kv.length≤(Rep.rowsOf bt (ns.take n)).length) ∧
   ((∃ a' c',tv = .slice a' (ns.length - n) c')∧∀ W,bg 1 av (ints ns) W→bg 1 tv (ints (ns.drop n)) W) ∧
   Sat w0 w' (cZ ps (Rep.oL (ns.take n)) pi uv tv::aJ pi (Tab.mapOf (Rep.puts kv)) kv.length::aC 73 3 uv (((Rep.jl bt (ns.take n)).map (Rep.upd kv)).flatMap bI)::aC 3 1 av (ints ns)::aI p m L::aH m M::F)
section
variable {w0 w:World}{F:List aG}{p m K:Nat}{L:Seg.Log}{M:ay}
theorem ai4:jy Tryz.prog 250=some (.agg #[.pointer none]):=by kernel_rfl
set_option maxRecDepth 20000 in
theorem NG (hL:L.Ok) (hM:M.Ok K) (hH:Ro w0 F Half) (hrows:(Rep.rowsOf (dB L M) L.aF).length≤12000000) (hsz:∀ r∈Rep.rowsOf (dB L M) L.aF,(r.2.size:Int)≤4294967296) (h:Sat w0 w (aI p m L::aH m M::F)) :
  Calls Tryz.prog 93 #[ptr p] w (aO fun v w'=>tJ w0 F (dB L M) L.aF p m L M v w'):=by
 have Hlen:=uQ (show L.aF.length≤1048576 from by unfold Seg.Log.aF;rw [aaJ];have:=hL.len;omega)
 have hse:=Dn hL h
 have Ji:=uQ (show ∀ s∈L.aF,0≤s from fun s hs=>by
  unfold Seg.Log.aF at hs
  obtain ⟨x,hx,rfl⟩:=acK.1 hs
  exact (hL.nums x hx).1)
 have HL:=uQ hL;have HM:=uQ hM;have HH:=uQ hH;have Jr:=uQ hrows;have gq:=uQ hsz
 clear hL hM hH hrows hsz
 go_enter Tryz.func93,Tryz.ntmps93
 go_wp2_with (with_reducible apply eU)
 refine ⟨dU mV h rfl ?_⟩
 intro b3 w3 h3
 clear hse h
 go_wp2_with fail
 refine (Dn HL.out (h3.pick aZ)).mono ?_
 rintro ee w4 ⟨sv,rfl,h4⟩
 have hsp:=split_c HL.out HM.out (Ro.os HH.out) (h4.sb:Sat w0 w4 (aC 3 1 sv (ints L.aF)::aI p m L::aH m M::pt b3 (.cells (dK Rep.dI.zero) 33 (0,0))::F))
 clear h3 h4
 go_wp2_with fail
 refine hsp.mono ?_
 rintro ee w5 ⟨v,rfl,rfl,h5⟩
 clear hsp
 by_cases h0:(Rep.split (dB L M) L.aF L.aF.length).2=0
 rotate_left
 ·have hb:((Rep.split (dB L M) L.aF L.aF.length).2 != 0)=true:=by rw [aj6];exact h0
  have Hf:=uQ (show Rep.run (dB L M) L.aF = .inl (Rep.dI.zero,(Rep.split (dB L M) L.aF L.aF.length).2) by unfold Rep.run;rw [ac3 h0])
  have h6:Sat w0 w5 (pt b3 (.cells (dK Rep.dI.zero) 33 (0,0))::aI p m L::aH m M::F):=h5.sb
  clear h0 h5
  go_wp2_with (first
   |((with_reducible refine JK ⟨?_⟩);refine Ou (fun w=>GK w) ?_)
   |((with_reducible refine bY ⟨?_⟩);refine fE (dK Rep.dI.zero) h6 ah ah ah bZ au ah ?_;intro w9 h9))
  refine ⟨rfl,_,uI rfl h9 ah aY Tryz.underlying33 rfl au,_,rfl,?_⟩
  unfold tJ
  rw [Hf.out]
  exact ⟨rfl,h9.drop⟩
 have hb:((Rep.split (dB L M) L.aF L.aF.length).2 != 0)=false:=by rw [h0];rfl
 have o7:=uQ (Rep.N7 (dB L M) L.aF L.aF.length)
 have Hf:=uQ (show Rep.run (dB L M) L.aF=Rep.Ad (dB L M) L.aF (Rep.split (dB L M) L.aF L.aF.length).1 by unfold Rep.run;rw [abw (fun h=>h h0)])
 rw [h0]
 generalize (Rep.split (dB L M) L.aF L.aF.length).1=n at *
 clear h0
 obtain ⟨tv,htl,⟨ta,tc,rfl⟩,htr⟩:=ah4 o7.out h5
 have Zy:=uQ htr
 clear htr
 go_wp2_with fail
 have hG:True:=trivial
 have h6:=h5.drew
 clear h5
 refine dH [] (fun w'=>True) au ?_
 refine rP 1 ?_ (y:=aX)
 refine rP 2 ?_ (y:=aX)
 refine rP 3 ?_ (y:=(Yr ak ak htl))
 refine bV 0 ak au (fun K hK=>?_)
 refine zu [] au (by simp) ?_
 refine (U5 h6).mono ?_
 rintro ee w7 ⟨v,rfl,pi,rfl,h7⟩
 refine hK _ _ (.inr (.inl trivial)) ?_
 clear hK h6
 refine rp 4 (hy:=(by (refine Or.inl ⟨by rfl,?_⟩;((intro wq;go_simp);first|done|exact wQ)))) (h:=?_)
 refine bV 5 ak au (fun K hK=>?_)
 refine J9 (cs:=#[.int .i64 (-1),ptr pi,.slice none 0 0,.slice ta (L.aF.length - n) tc]) h7 ak ak ?_
 intro ps w8 h8
 refine hK _ _ (.inr (.inl trivial)) ?_
 clear hK h7
 refine rP 6 ?_ (y:=fJ)
 refine dD au ?_
 clear hG
 go_wp2_with fail
 refine (aeM h8).mono ?_
 rintro ee w9 ⟨v,rfl,pg,rfl,h9⟩
 clear h8
 go_wp2_with (with_reducible apply eU)
 refine ⟨dU ai4 h9 rfl ?_⟩
 intro b9 w10 h10
 clear h9
 obtain ⟨ha,hc,hhl,hhr⟩:=acX o7.out (h10.sb:Sat w0 w10 (aC 3 1 sv (ints L.aF)::F))
 go_wp2_with ((with_reducible refine bY ⟨?_⟩);refine eY (cs':=#[ptr pg]) h10 ah ak ah bZ bF au ah ?_;intro jd h11)
 have h12:Sat w0 jd (cZ ps (Rep.oL (L.aF.take 0)) pi (.slice none 0 0) (.slice ta (L.aF.length - n) tc)::aC 73 3 (.slice none 0 0) ((Rep.jl (dB L M) (L.aF.take 0)).flatMap bI)::aJ pi (fun _=>none) 0::pt b9 (.cells #[ptr pg] 250 (0,0)) ::
  dY pg (Rep.ledger (Rep.rowsOf (dB L M) (L.aF.take 0))) (Rep.rowsOf (dB L M) (L.aF.take 0)).length::pt b3 (.cells (dK Rep.dI.zero) 33 (0,0))::aC 3 1 sv (ints L.aF)::aI p m L::aH m M::F):=(Sat.fD.2 h11).sb
 clear h10 h11 htl
 go_loopg [45] n (fun g iq wr=>∃ (i:Nat) (uv:Value),g=n - i∧i≤n∧iq = .int .i64 i∧Rep.bad (dB L M) (L.aF.take i)=none∧Sat w0 wr (cZ ps (Rep.oL (L.aF.take i)) pi uv (.slice ta (L.aF.length - n) tc)::aC 73 3 uv ((Rep.jl (dB L M) (L.aF.take i)).flatMap bI)::aJ pi (fun _=>none) 0::pt b9 (.cells #[ptr pg] 250 (0,0)) ::
  dY pg (Rep.ledger (Rep.rowsOf (dB L M) (L.aF.take i))) (Rep.rowsOf (dB L M) (L.aF.take i)).length::pt b3 (.cells (dK Rep.dI.zero) 33 (0,0))::aC 3 1 sv (ints L.aF)::aI p m L::aH m M::F))
 case atStart=>exact ⟨0,.slice none 0 0,rfl,afm _,rfl,rfl,h12⟩
 case round=>
  obtain ⟨i,uv,rfl,hi,rfl,hbad,hS⟩:=hrel
  clear h12
  have sV:=uQ hbad
  clear hbad
  by_cases hlt:i<n
  rotate_left
  ·obtain rfl:i=n:=by omega
   have c1:¬ (i:Int)<(i:Int):=oQ
   obtain ⟨kv,k1,k2,k3⟩:=dY.lists (hS.pk (A:=dY pg (Rep.ledger (Rep.rowsOf (dB L M) (L.aF.take i))) (Rep.rowsOf (dB L M) (L.aF.take i)).length))
   have k4:=adr (Rep.Nq (dB L M) L.aF i) Jr.out
   have hks:∀ q∈kv,q.1.length=32∧0≤q.2.place.size∧q.2.place.size≤4294967296:=fun q hq=>by
    obtain ⟨r,hr,e⟩:=Rep.aed ((k1.mem q.1 q.2).1 hq)
    rw [e]
    exact ⟨k2 q hq,Int.natCast_nonneg _,gq.out r (Rep.agl _ _ _ r hr)⟩
   have hfl:=abZ (us:=Rep.jl (dB L M) (L.aF.take i)) k1 oQ oQ hks (by unfold Rep.jl;rw [aaJ,acJ];have:=Hlen.out;omega)
    (hS.sb:Sat w0 wr (cZ ps (Rep.oL (L.aF.take i)) pi uv (.slice ta (L.aF.length - i) tc)::aJ pi (fun _=>none) 0::dY pg (Rep.ledger (Rep.rowsOf (dB L M) (L.aF.take i))) (Rep.rowsOf (dB L M) (L.aF.take i)).length ::
     aC 73 3 uv ((Rep.jl (dB L M) (L.aF.take i)).flatMap bI)::pt b3 (.cells (dK Rep.dI.zero) 33 (0,0))::aC 3 1 sv (ints L.aF)::aI p m L::aH m M::F))
   have K:=uQ (And.intro k1 (And.intro k2 k3))
   have Hg:=uQ (Hf.out.trans (Rep.W9 sV.out))
   have Zz:=uQ Zy.out
   clear k1 k2 k3 k4 hks hlt hi
   go_wp2_with ((with_reducible refine bD ⟨?_⟩);refine gI (cs:=#[ptr pg]) hS ah (aW (aW (aW aT))) Tryz.underlying250 rfl au ?_)
   refine hfl.mono ?_
   rintro ee kR ⟨v,rfl,gW⟩
   clear hfl hS
   go_wp2_with (first
    |((with_reducible refine JK ⟨?_⟩);refine Ou (fun w=>GK w) ?_)
    |((with_reducible refine bY ⟨?_⟩);refine fE (dK Rep.dI.zero) gW ah ah ah (jh (jh (jh (jh bZ)))) au ah ?_;intro Ar h15))
   refine ⟨rfl,_,uI rfl h15 ah (aW (aW (aW (aW aT)))) Tryz.underlying33 rfl au,_,rfl,?_⟩
   unfold tJ
   rw [Hg.out]
   exact ⟨ps,pi,uv,.slice ta (L.aF.length - i) tc,sv,kv,rfl,K.out,⟨⟨ta,tc,rfl⟩,Zz.out⟩,h15.sb⟩
  have c1:(i:Int)<(n:Int):=oQ
  have hwi:IntKind.i64.wrap ((i:Int)+1)=(i:Int)+1:=acI _ (by have:=o7.out;have:=Hlen.out;omega)
  have hni:(L.aF.take n).length=n:=by rw [acJ];have:=o7.out;omega
  obtain ⟨s,hs⟩:∃ s,(L.aF.take n)[i]?=some s:=⟨_,aak oQ⟩
  have hs2:L.aF[i]?=some s:=by rw [ajl]at hs;rw [ac3 hlt]at hs;exact hs
  have fB:=uQ (show L.aF.take (i+1)=L.aF.take i++[s] by rw [ajL,hs2,ajY])
  have zh:=uQ (show ∃ post,L.aF.take n=L.aF.take i++s::post by
   obtain ⟨h1,e⟩:=abl.1 hs
   refine ⟨(L.aF.take n).drop (i+1),?_⟩
   have e2:L.aF.take i=(L.aF.take n).take i:=by rw [List.take_take,alh (Nat.le_of_lt hlt)]
   rw [e2,← e,← ajX h1,ajs])
  have Zq:=uQ (Ji.out s (abA hs2))
  obtain ⟨bk,off,c',hsv,f0⟩:=CZ (hhr _ (Sat.rd (hS.pk (A:=aC 3 1 sv (ints L.aF))))) hs
  rw [hni]at hsv
  cases hsv
  have hb:=UC HL.out HM.out s (hS.sb:Sat w0 wr (aI p m L::aH m M::cZ ps (Rep.oL (L.aF.take i)) pi uv (.slice ta (L.aF.length - n) tc)::aC 73 3 uv ((Rep.jl (dB L M) (L.aF.take i)).flatMap bI)::aJ pi (fun _=>none) 0::pt b9 (.cells #[ptr pg] 250 (0,0)) ::
   dY pg (Rep.ledger (Rep.rowsOf (dB L M) (L.aF.take i))) (Rep.rowsOf (dB L M) (L.aF.take i)).length::pt b3 (.cells (dK Rep.dI.zero) 33 (0,0))::aC 3 1 sv (ints L.aF)::F))
  have bT:=uQ hlt
  clear hS hs hs2 hni hlt hi
  go_wp2_with fail
  refine hb.mono ?_
  rintro ee DU ⟨v,rfl,bv,rfl,h20⟩
  clear hb f0
  obtain ⟨hcap,ca,cc,rfl⟩:=Ql h20
  by_cases h0:(L.bytes M s).2=0
  rotate_left
  ·have hb1:((L.bytes M s).2 != 0)=true:=by rw [aj6];exact h0
   have Hg:=uQ (show Rep.run (dB L M) L.aF = .inl (Rep.dI.zero,(L.bytes M s).2) by
    rw [Hf.out]
    obtain ⟨post,e⟩:=zh.out
    exact Rep.WZ (by rw [e];exact Rep.aas sV.out h0))
   have h21:Sat w0 DU (pt b3 (.cells (dK Rep.dI.zero) 33 (0,0))::aI p m L::aH m M::F):=h20.sb
   clear h20 h0 hcap
   go_wp2_with (first
    |((with_reducible refine JK ⟨?_⟩);refine Ou (fun w=>GK w) ?_)
    |((with_reducible refine bY ⟨?_⟩);refine fE (dK Rep.dI.zero) h21 ah ah ah bZ au ah ?_;intro rC h22))
   refine ⟨rfl,_,uI rfl h22 ah aY Tryz.underlying33 rfl au,_,rfl,?_⟩
   unfold tJ
   rw [Hg.out]
   exact ⟨rfl,h22.drop⟩
  have hb1:((L.bytes M s).2 != 0)=false:=by rw [h0];rfl
  have H0:=uQ h0
  rw [h0]
  clear h0
  have hbl:=Seg.Qo (L:=L) HM.out s
  have hsc:=RZ (w0:=w0) (w:=DU) (L.bytes M s).1 (Ro.bJ _ _) hcap (Ro.os HH.out) (adr hbl aN) h20
  clear hcap
  go_wp2_with fail
  refine hsc.mono ?_
  rintro ee yP ⟨v,rfl,fs,fv,hfs,hfk,rfl,h21⟩
  clear hsc h20
  obtain ⟨fa,fc,rfl⟩:=RH hfk h21
  by_cases h1:(aj.scan (L.bytes M s).1).2.2=0
  rotate_left
  ·have hb2:((aj.scan (L.bytes M s).1).2.2 != 0)=true:=by rw [aj6];exact h1
   have Hg:=uQ (show Rep.run (dB L M) L.aF = .inl (Rep.fault s (aj.scan (L.bytes M s).1).2.1,13) by
    rw [Hf.out]
    obtain ⟨post,e⟩:=zh.out
    exact Rep.WZ (by rw [e];exact Rep.aat sV.out H0.out h1))
   have h22:Sat w0 yP (pt b3 (.cells (dK Rep.dI.zero) 33 (0,0))::aI p m L::aH m M::F):=h21.sb
   clear h21 h1 hfs hfk
   go_wp2_with fail
   refine (abU s (aj.scan (L.bytes M s).1).2.1 h22).mono ?_
   rintro ee X7 ⟨v,rfl,rfl,h23⟩
   clear h22
   go_wp2_with ((with_reducible refine bY ⟨?_⟩);refine fE (dK (Rep.fault s (aj.scan (L.bytes M s).1).2.1)) h23 ah ah ah bZ au ah ?_;intro w24 vN)
   refine ⟨rfl,_,uI rfl vN ah aY Tryz.underlying33 rfl au,_,rfl,?_⟩
   unfold tJ
   rw [Hg.out]
   exact ⟨rfl,vN.drop⟩
  have hb2:((aj.scan (L.bytes M s).1).2.2 != 0)=false:=by rw [h1];rfl
  have H1:=uQ h1
  rw [h1]
  clear h1
  have h22:Sat w0 yP (dY pg (Rep.ledger (Rep.rowsOf (dB L M) (L.aF.take i)++(fs.take 0).map fun q=>(s,q.1))) ((Rep.rowsOf (dB L M) (L.aF.take i)).length+0)::cZ ps (Rep.oL (L.aF.take i)) pi uv (.slice ta (L.aF.length - n) tc)::aC 73 3 uv ((Rep.jl (dB L M) (L.aF.take i)).flatMap bI)::aJ pi (fun _=>none) 0::pt b9 (.cells #[ptr pg] 250 (0,0)) ::
   pt b3 (.cells (dK Rep.dI.zero) 33 (0,0))::aC 3 1 sv (ints L.aF)::aI p m L::aH m M::aC 80 36 (.slice fa fs.length fc) (lq fs)::pq fs::F):=by
   have q:Sat w0 yP (dY pg (Rep.ledger (Rep.rowsOf (dB L M) (L.aF.take i))) (Rep.rowsOf (dB L M) (L.aF.take i)).length::cZ ps (Rep.oL (L.aF.take i)) pi uv (.slice ta (L.aF.length - n) tc)::aC 73 3 uv ((Rep.jl (dB L M) (L.aF.take i)).flatMap bI)::aJ pi (fun _=>none) 0::pt b9 (.cells #[ptr pg] 250 (0,0)) ::
   pt b3 (.cells (dK Rep.dI.zero) 33 (0,0))::aC 3 1 sv (ints L.aF)::aI p m L::aH m M::aC 80 36 (.slice fa fs.length fc) (lq fs)::pq fs::F):=h21.sb
   rw [ajD,ajP,afo,akc]
   exact q
  have YT:=uQ (show (Rep.rowsOf (dB L M) (L.aF.take i)).length+fs.length≤12000000 by
   have q1:=Rep.Nq (dB L M) L.aF (i+1)
   rw [fB.out,Rep.WS,aal,aaJ,show (aj.scan (dB L M s).1).1=fs.map (·.1) from hfs.symm,aaJ]at q1
   exact adr q1 Jr.out)
  have hfl:fs.length≤16777216:=by
   have:=aj.Xq (L.bytes M s).1
   rw [← hfs,aaJ]at this;omega
  have xw:=uQ hfl;have pU:=uQ hfs;have sZ:=uQ hfk
  clear h21 hbl hfs hfk
  go_wp2_with fail
  go_loopg [72] fs.length (fun g jq wr=>∃ j:Nat,g=fs.length - j∧j≤fs.length∧jq = .int .i64 j∧Sat w0 wr (dY pg (Rep.ledger (Rep.rowsOf (dB L M) (L.aF.take i)++(fs.take j).map fun q=>(s,q.1))) ((Rep.rowsOf (dB L M) (L.aF.take i)).length+j)::cZ ps (Rep.oL (L.aF.take i)) pi uv (.slice ta (L.aF.length - n) tc)::aC 73 3 uv ((Rep.jl (dB L M) (L.aF.take i)).flatMap bI)::aJ pi (fun _=>none) 0::pt b9 (.cells #[ptr pg] 250 (0,0)) ::
   pt b3 (.cells (dK Rep.dI.zero) 33 (0,0))::aC 3 1 sv (ints L.aF)::aI p m L::aH m M::aC 80 36 (.slice fa fs.length fc) (lq fs)::pq fs::F))
  case atStart=>exact ⟨0,rfl,afm _,rfl,h22⟩
  case round=>
   obtain ⟨j,rfl,hj,rfl,hS⟩:=hrel
   clear h22
   by_cases hjl:j<fs.length
   rotate_left
   ·obtain rfl:j=fs.length:=by omega
    have d1:¬ (fs.length:Int)<(fs.length:Int):=oQ
    rw [aiv]at hS
    clear hjl hj
    have vS:((Rep.jl (dB L M) (L.aF.take i)).flatMap bI).length≤2147483648:=by
     rw [iE (k:=3) fun u _=>rfl]
     unfold Rep.jl
     rw [aaJ,acJ]
     have:=Hlen.out;omega
    go_wp2_with (first
     |((with_reducible refine bY ⟨?_⟩);refine eY (cs':=#[.int .i64 s,ptr pi,uv,.slice ta (L.aF.length - n) tc]) hS ah ak ah (jh bZ) bF au ah ?_;intro w40 BO)
     |((with_reducible refine bD ⟨?_⟩);refine dV BO ah (aW aT) bF ak au ?_)
     |(with_reducible apply ny))
    refine ⟨nH (e:=73) (sz:=3) (dS:=24) au BO ah (cs:=#[.int .i64 s,.int .i64 ((L.bytes M s).1.length:Nat),.int .i64 0]) rfl rfl aN ?_⟩
    intro b41 w41 oI
    go_wp2_with (with_reducible apply lg)
    refine ⟨nG 73 3 24 au oI ah ah (aW (aW (aW aT))) aT rfl (acy 1) ah vS (by show 3≤65536;decide) aN rfl ?_⟩
    intro bA nA cA w42 h42
    go_wp2_with ((with_reducible refine bY ⟨?_⟩);refine eY (cs':=#[.int .i64 s,ptr pi,.slice (some ⟨bA,0,none⟩) nA cA,.slice ta (L.aF.length - n) tc]) h42 ah ak ah (jh (jh bZ)) bF au ah ?_;intro Oq h43)
    have KF:Sat w0 Oq (cZ ps (Rep.oL (L.aF.take (i+1))) pi (.slice (some ⟨bA,0,none⟩) nA cA) (.slice ta (L.aF.length - n) tc)::aC 73 3 (.slice (some ⟨bA,0,none⟩) nA cA) ((Rep.jl (dB L M) (L.aF.take (i+1))).flatMap bI)::aJ pi (fun _=>none) 0::pt b9 (.cells #[ptr pg] 250 (0,0)) ::
     dY pg (Rep.ledger (Rep.rowsOf (dB L M) (L.aF.take (i+1)))) (Rep.rowsOf (dB L M) (L.aF.take (i+1))).length::pt b3 (.cells (dK Rep.dI.zero) 33 (0,0))::aC 3 1 sv (ints L.aF)::aI p m L::aH m M::F):=by
     rw [fB.out,Rep.ad8,Rep.air,Rep.WS,aal,aaJ,show (aj.scan (dB L M s).1).1=fs.map (·.1) from pU.out.symm,aaJ,aj9,ajj]
     exact h43.sb
    clear BO oI h42 h43 hS
    go_roundg (n - (i+1))
    case measure=>have:=bT.out;omega
    case rel=>exact ⟨i+1,.slice (some ⟨bA,0,none⟩) nA cA,rfl,bT.out,by first|rfl|go_num,by rw [fB.out];exact Rep.aar sV.out H0.out H1.out,KF⟩
   have d1:(j:Int)<(fs.length:Int):=oQ
   have Lc:IntKind.i64.wrap ((j:Int)+1)=(j:Int)+1:=acI _ oQ
   obtain ⟨⟨f,dv⟩,hq⟩:∃ q,fs[j]?=some q:=⟨_,aak hjl⟩
   have KO:f.e.key.length=32:=sZ.out _ (abA hq)
   obtain ⟨da,dn,dc,rfl,_,_⟩:=aa6 hq wr (hS.pk (A:=pq fs))
   obtain ⟨bk2,off2,c2,e2,hcell⟩:=iC (f:=fun q:aj.fO×Value=>ug q.1 q.2) (k:=36) (fun q hq=>BK q.1 q.2 (sZ.out q hq)) (Sat.rd (hS.pk (A:=aC 80 36 (.slice fa fs.length fc) (lq fs)))) hq aN
   cases e2
   have CB:(ug f (.slice da dn dc)).length=36:=BK _ _ KO
   have Zx:=uQ (show (fs.take (j+1)).map (fun q=>(s,q.1))=(fs.take j).map (fun q=>(s,q.1))++[(s,f)] by rw [ajL,hq,ajY,aey];rfl)
   have pV:=uQ hjl;have Eh:=uQ KO
   clear hq KO hj
   go_wp2_with (first
    |((with_reducible refine bD ⟨?_⟩);refine gU (b:=bk2) (o:=off2+j * 36) (ug f (.slice da dn dc)) ah hcell Tryz.underlying80 rfl (by rw [CB];kernel_rfl) ?_)
    |(with_reducible apply eU))
   refine ⟨dU Yu hS rfl ?_⟩
   intro b17 yQ h30
   go_wp2_with (first
    |((with_reducible refine bY ⟨?_⟩);refine fE (kG f (.slice da dn dc)) h30 ah ah (by rw [yc _ _ Eh.out];rfl) bZ (by rw [yc _ _ Eh.out];kernel_rfl) (RD _ _ _ _) ?_;intro X9 h31)
    |((with_reducible refine bD ⟨?_⟩);refine gI (cs:=kG f (.slice da dn dc)) h31 ah aT Tryz.underlying80 rfl (by rw [yc _ _ Eh.out];kernel_rfl) ?_)
    |((with_reducible refine bD ⟨?_⟩);refine gI (cs:=#[ptr pg]) h31 ah (aW (aW (aW (aW (aW aT))))) Tryz.underlying250 rfl au ?_))
   have hrl:=Rep.Nq (dB L M) L.aF i
   refine (ah5 (p:=pg) s f Eh.out (by have:=Jr.out;have:=xw.out;have:=pV.out;have:=YT.out;omega) (h31.pick aZ)).mono ?_
   rintro ee w32 ⟨v,rfl,h32⟩
   clear h30 h31 hS hcell
   have hnn:∀ x∈Rep.rowsOf (dB L M) (L.aF.take i)++(fs.take j).map (fun q=>(s,q.1)),0≤x.1:=fun x hx=>by
    rcases ajk.1 hx with hx|hx
    ·unfold Rep.rowsOf at hx
     obtain ⟨u,hu,hx⟩:=alq.1 hx
     obtain ⟨g,_,rfl⟩:=acK.1 hx
     exact Ji.out u (ajm hu)
    ·obtain ⟨g,_,rfl⟩:=acK.1 hx
     exact Zq.out
   rw [← Rep.aee _ _ hnn,adR,← Zx.out]at h32
   clear hnn
   go_wp2_with fail
   go_roundg (fs.length - (j+1))
   case measure=>have:=pV.out;omega
   case rel=>exact ⟨j+1,rfl,pV.out,by first|rfl|go_num,h32.sb⟩
end
end Go.Proofs.YtiglchkhikciiaaGreatDoor
namespace Go.aj
theorem afZ {b:Bs} (h:(read b).2.2=0):(read b).1.tag=0∨(read b).1.tag=1∨(read b).1.tag=2:=by
 unfold read at *
 dsimp only at *
 split at h
 ·simp at h
 rename_i h9
 rw [abw h9]
 split at h
 ·simp at h
 rename_i hf
 rw [abw hf]
 split at h
 ·simp at h
 rename_i hl
 rw [abw hl]
 split at h
 ·simp at h
 rename_i hc
 rw [abw hc]
 have ht:b.getD 8 0=0∨b.getD 8 0=1∨b.getD 8 0=2:=by
  unfold fits at hf
  split at hf
  ·exact .inl aQ
  split at hf
  ·exact .inr (.inl aQ)
  split at hf
  ·exact .inr (.inr aQ)
  ·exact absurd rfl hf
 split
 all_goals
  dsimp only
  rcases ht with e|e|e <;> rw [e]
  ·exact .inl rfl
  ·exact .inr (.inl rfl)
  ·exact .inr (.inr rfl)
theorem Xp:∀ (k:Nat) (b:Bs) (at_:Nat),∀ f∈(mQ k b at_).1,(f.e.tag=0∨f.e.tag=1∨f.e.tag=2)∧f.e.key.length=32∧9≤f.size∧f.size≤b.length
 |0,_,_,f,hf=>by cases hf
 |k+1,b,at_,f,hf=>by
  unfold mQ at hf
  split at hf
  ·cases hf
  split at hf
  ·cases hf
  rename_i he
  have he:(read b).2.2=0:=by simpa using he
  have h1:=Wn he
  simp only at hf
  rcases aer.1 hf with rfl|hf
  ·exact ⟨afZ he,h1.2.2,h1.1,h1.2.1⟩
  ·have h2:=Xp k _ _ f hf
   refine ⟨h2.1,h2.2.1,h2.2.2.1,adr h2.2.2.2 ?_⟩
   rw [adU];omega
theorem scan_ok (b:Bs):∀ f∈(scan b).1,(f.e.tag=0∨f.e.tag=1∨f.e.tag=2)∧f.e.key.length=32∧9≤f.size∧f.size≤b.length:=fun f hf=>by
 unfold scan at hf
 split at hf
 ·have h:=Xp _ _ _ f hf
  refine ⟨h.1,h.2.1,h.2.2.1,adr h.2.2.2 ?_⟩
  rw [adU];omega
 ·cases hf
end Go.aj
namespace Go.Rep
open Go.aj (Bs fO)
open Go.Seg (aU)
open Go.Tab
theorem WR {bt:Told}{ns:List Int}{r:Row} (h:r∈rowsOf bt ns):r.1∈ns∧r.2∈(aj.scan (bt r.1).1).1:=by
 unfold rowsOf at h
 obtain ⟨s,hs,h⟩:=alq.1 h
 obtain ⟨f,hf,rfl⟩:=acK.1 h
 exact ⟨hs,hf⟩
theorem agk {bt:Told}{ns:List Int} (hr:ns.Pairwise (· < ·)) (h0:∀ s∈ns,0≤s):Rows (rowsOf bt ns):=by
 refine ⟨fun r h=>(aj.scan_ok _ _ (WR h).2).1,fun r h=>h0 _ (WR h).1,?_⟩
 unfold rowsOf
 rw [List.pairwise_flatMap]
 refine ⟨fun s _=>?_,hr.imp fun {a b} hab x hx y hy=>?_⟩
 ·rw [aki]
  exact List.pairwise_of_forall fun _ _=>alC s
 ·obtain ⟨_,_,rfl⟩:=acK.1 hx
  obtain ⟨_,_,rfl⟩:=acK.1 hy
  exact Int.le_of_lt hab
end Go.Rep
namespace Go.Seg
open Go.ay
structure Fit (K:Nat) (D:ay):Prop where
 ok:D.Ok K
 small:D.Small
 files:D.files.length≤500+K
section
variable {φ:Nat→Nat}{V:Nat→Prop}{M D:ay}{K:Nat}{L:Log}
end
end Go.Seg
namespace Go.Proofs.YtiglchkhikciiaaGreatDoor
open Go Go.Sl Go.ay Go.MapKept Go.RowKit
section
variable {P:Program}{w0 w:World}{L L':List aG}{b o:Nat}{ops:Array Oper}{a:Act}{Q:Exit→Act→World→Prop}{dst:Option Tmp}{t ty T:TypeId}{pos:String}{after:Array Edge}{x y:Operand}{cs:Array Value}{v:Value}{K:Act→World→Prop}{E:Prop}
theorem ql (hz:jy P ty=some v) (hs:Sat w0 w L) (hcs:v.cells=cs)
  (hK:∀ b w',Sat w0 w' (pt b (.cells cs ty (0,0))::L)→K (a.put dst (.pointer (some ⟨b,0,none⟩))) w') :
  if Region.wanted ⟨dst,.alloc ty,t,pos,after,none⟩ (yielded ops a.tmps)=true then Oper.wp P ⟨dst,.alloc ty,t,pos,after,none⟩ a w K Q else E:=by
 subst hcs
 refine xU rfl ?_
 have hS:=hs.alloc (.cells v.cells ty)
 unfold Oper.wp execOp
 have hrun:(Instr.alloc ty true (.tuple #[])).run P w = .ok (.pointer (some ⟨w.heap.size,0,none⟩)) (w.alloc (.cells v.cells ty)):=by
  simp [Instr.alloc,GN hz w,newVar,newRow,go_sem,Result.andThen]
 simp only [adO,aeC,hrun,ac2]
 exact hK _ _ hS
end
section
variable {w0 w:World}{F R:List aG}{d i:Nat}{D:ay}{EZ fv nv wv v lv bv:Value}{xs:List RF}{x:RF}{g:Iw}{K:Nat}
section
variable {P:Program}{b o:Nat}{ops:Array Oper}{rest:List Oper}{a:Act}{Q:Exit→Act→World→Prop}{dst:Option Tmp}{t ty:Nat}{pos:String}{after:Array Edge}{y:Operand}
end
end
end Go.Proofs.YtiglchkhikciiaaGreatDoor
namespace Go.Seg
end Go.Seg
namespace Go.Proofs.YtiglchkhikciiaaGreatDoor
open Go Go.Sl Go.ay Go.MapKept Go.RowKit
abbrev ajF (p d:Nat) (L:Seg.Log) (lv:Value):aG:=pt p (.cells #[ptr d,.int .i64 L.limit,lv,.bool L.on,.int .i64 L.fresh] 463 (0,0))
section
variable {w0 w:World}{F R:List aG}{p d:Nat}{L:Seg.Log}{lv v:Value}{D:ay}{K:Nat}
end
end Go.Proofs.YtiglchkhikciiaaGreatDoor
namespace Go.Seg
open Go.ay
section
variable {K K':Nat}{M M':ay}{L:Log}{s t:ByteArray}{i:Nat}{sure opn:List (aU×aj.aP)}
theorem PU:∀ (x y u v:Bs),x.length=y.length→x<y→x++u<y++v
 |[],[],_,_,_,h=>absurd h (List.not_lt_nil [])
 |[],_::_,_,_,h,_=>by simp at h
 |_::_,[],_,_,h,_=>by simp at h
 |a::x,b::y,u,v,hl,h=>by
  rw [ajN,ajN,List.cons_lt_cons_iff]
  rcases List.cons_lt_cons_iff.1 h with h1|⟨e,h1⟩
  ·exact .inl h1
  ·exact .inr ⟨e,PU x y u v (by simpa using hl) h1⟩
theorem JG:∀ (x u v:Bs),u<v→x++u<x++v
 |[],_,_,h=>h
 |a::x,u,v,h=>by
  rw [ajN,ajN,List.cons_lt_cons_iff]
  exact .inr ⟨rfl,JG x u v h⟩
theorem QK:∀ (k a b:Nat),a<b→b<10^k→gK a k<gK b k
 |0,a,b,h,hb=>by simp at hb;omega
 |k+1,a,b,h,hb=>by
  show gK (a / 10) k++[UInt8.ofNat (48+a%10)]<gK (b / 10) k++[UInt8.ofNat (48+b%10)]
  have hb':b / 10<10^k:=by rw [Nat.div_lt_iff_lt_mul oQ];rw [alA]at hb;exact hb
  rcases akf (a / 10) (b / 10) with q|q
  ·exact PU _ _ _ _ (by rw [vH,vH]) (QK k _ _ q hb')
  ·have e:a / 10=b / 10:=by omega
   rw [e]
   refine JG _ _ _ ?_
   rw [List.cons_lt_cons_iff]
   left
   rw [UInt8.lt_iff_toNat_lt,akH,akH]
   omega
theorem aeE {a b:Int} (h1:0≤a) (h2:a<b) (h3:b<1048576):lt (name a) (name b)=true:=by
 unfold name
 rw [abw oQ,abw oQ]
 unfold lt
 rw [adN]
 show lead++gK a.toNat 8<lead++gK b.toNat 8
 exact JG _ _ _ (QK 8 _ _ oQ oQ)
theorem zO {s:ByteArray} (h:(number s).2=true):0≤(number s).1∧(number s).1<1048576∧name (number s).1=s:=by
 unfold number at h ⊢
 dsimp only at h ⊢
 split at h
 ·rename_i hc
  rw [ac3 hc]
  obtain ⟨c1,c2,c3,c4⟩:=hc
  refine ⟨by simp only;omega,by simp only;omega,?_⟩
  simp only
  unfold name
  rw [abw oQ]
  have hl:(s.data.toList.drop 4).length=8:=by
   have:s.data.toList.length=12:=by first|exact c1|(rw [adu];exact c1)
   rw [adU,this]
  have hd:=abg (s.data.toList.drop 4) c3
  rw [hl]at hd
  have e:lead++gK (Int.toNat ((val (s.data.toList.drop 4):Nat):Int)) 8=s.data.toList:=by
   rw [alf,hd,← c2,ajs]
  rw [e]
 ·cases h
theorem zC {l:List ByteArray}{x:Int×Int} (h:x∈found M l):∃ t∈l,(number t).2=true∧x=((number t).1,(M.size t).1):=by
 unfold found at h
 obtain ⟨t,ht,he⟩:=List.mem_filterMap.1 h
 split at he
 ·rename_i hn;exact ⟨t,ht,hn,(ake he).symm⟩
 ·cases he
theorem UL (h:t∈M.list):∃ i,bP M.now t=some i:=by
 unfold ay.list at h
 split at h
 ·cases h
 ·obtain ⟨p,hp,rfl⟩:=acK.1 h
  cases hg:bP M.now p.1 with
  |none=>exact absurd rfl (FW hg p hp)
  |some i=>exact ⟨i,rfl⟩
theorem RU:∀ (l:List ByteArray),l.Pairwise (fun a b=>lt a b=true)→((found M l).map (·.1)).Pairwise (· < ·)
 |[],_=>List.Pairwise.nil
 |t::l,h=>by
  obtain ⟨h1,h2⟩:=akl.1 h
  have ih:=RU l h2
  by_cases hn:(number t).2=true
  ·have e:found M (t::l)=((number t).1,(M.size t).1)::found M l:=by unfold found;rw [List.filterMap_cons];simp [hn]
   rw [e,ag8,akl]
   refine ⟨fun x hx=>?_,ih⟩
   obtain ⟨y,hy,rfl⟩:=acK.1 hx
   obtain ⟨u,hu,hun,rfl⟩:=zC hy
   have hlt:=h1 u hu
   obtain ⟨a1,a2,a3⟩:=zO hn
   obtain ⟨b1,b2,b3⟩:=zO hun
   rcases Int.lt_or_le (number t).1 (number u).1 with q|q
   ·exact q
   ·exfalso
    rcases Int.lt_or_eq_of_le q with q|q
    ·have h3:=aeE b1 q a2
     rw [a3,b3]at h3
     have:=lt_trans hlt h3
     rw [lt_irrefl]at this;cases this
    ·rw [← a3,← q,b3,lt_irrefl]at hlt;cases hlt
  ·have e:found M (t::l)=found M l:=by unfold found;rw [List.filterMap_cons];simp [hn]
   rw [e];exact ih
theorem BL (ok:M.Ok K) (limit:Int) (h1:128≤limit) (h2:limit≤1048576):(fresh M limit).Ok:=by
 refine ⟨⟨h1,h2⟩,?_,fun x hx=>?_,fun x hx=>?_,⟨alC _,by simp [fresh]⟩,fun hh=>by cases hh⟩
 ·refine RU M.list ?_
  unfold ay.list
  split
  ·exact List.Pairwise.nil
  ·rw [aki];exact ok.fH.lF
 ·obtain ⟨t,_,hn,rfl⟩:=zC hx
  have:=zO hn
  exact ⟨this.1,this.2.1⟩
 ·obtain ⟨t,_,hn,rfl⟩:=zC hx
  unfold ay.size
  split
  ·simp
  split
  ·simp
  ·have:=(ok.file ‹Nat›).su
   simp only
   omega
end
section
variable {φ:Nat→Nat}{V:Nat→Prop}{M D:ay}{K:Nat}{L:Log}
end
structure Two (i:Nat) (L:Log) (M D:ay):Prop where
 log:L.Ok
 ok:M.Ok (i * 2000)
 fit:Fit (i * 2000) D
 side:∃ φ V,Side φ V M D
 fresh:L.fresh≤i
section
variable {i:Nat}{M D:ay}{L:Log}
end
end Go.Seg
namespace Go.Seg
open Go.ay
open Go.aj (encs iw)
section
variable {K:Nat}{M M':ay}{L:Log}{s t:ByteArray}{i:Nat}
def nf (L:Log):List Int:=(L.l.map (·.1)).take (L.l.length - L.fresh.toNat)
variable {sure opn:List (aU×aj.aP)}
end
end Go.Seg
namespace Go.Seg
open Go.ay
def Log.drop (t:List Int):Nat→Log→ay→(Log×ay)×Int
 |0,L,M=>if t=[] then ((L,M),0) else ((L,M.dN.1),M.dN.2)
 |k+1,L,M=>if (L.remove M (t.getD k 0)).2=0 then Log.drop t k (L.remove M (t.getD k 0)).1.1 (L.remove M (t.getD k 0)).1.2 else L.remove M (t.getD k 0)
section
variable {t:List Int}{L:Log}{M D:ay}{K i:Nat}
theorem drop_nil (h:t=[]):Log.drop t 0 L M=((L,M),0):=by unfold Log.drop;rw [ac3 h]
theorem drop_end (h:t≠[]):Log.drop t 0 L M=((L,M.dN.1),M.dN.2):=by unfold Log.drop;rw [abw h]
theorem abt {k:Nat} (h:(L.remove M (t.getD k 0)).2=0):Log.drop t (k+1) L M=Log.drop t k (L.remove M (t.getD k 0)).1.1 (L.remove M (t.getD k 0)).1.2:=by
 conv=>lhs;unfold Log.drop
 rw [ac3 h]
theorem abu {k:Nat} (h:(L.remove M (t.getD k 0)).2≠0):Log.drop t (k+1) L M=L.remove M (t.getD k 0):=by
 conv=>lhs;unfold Log.drop
 rw [abw h]
theorem Na (h:M.Ok K) (n:Int):(L.remove M n).1.2.Ok (K+1):=by
 unfold Log.remove
 cases L.at n with
 |none=>exact h.mono (aj8 K)
 |some i=>simp only;split <;> exact h.remove _
end
end Go.Seg
namespace Go.Proofs.YtiglchkhikciiaaGreatDoor
open Go Go.Sl Go.ay Go.MapKept Go.RowKit
section
variable {w0 w:World}{F:List aG}{p q m d K i:Nat}{L:Seg.Log}{M D:ay}{tv:Value}
set_option maxRecDepth 20000 in
theorem abr (t:List Int) (htl:t.length≤1048576) (hL:L.Ok) (hM:M.Ok K) (hK:K≤1048576) (hr:Ro w0 F (bg 1 tv (ints t))) (h:Sat w0 w (aI p m L::aH m M::F)) :
  Calls Tryz.prog 47 #[ptr p,tv] w (aO fun v w'=>v=errno (Seg.Log.drop t t.length L M).2∧Sat w0 w' (aI p m (Seg.Log.drop t t.length L M).1.1::aH m (Seg.Log.drop t t.length L M).1.2::F)):=by
 obtain ⟨ta,tc,rfl⟩:=Uw (hr w h.drop.drop)
 have Hr:=uQ hr;have pY:=uQ htl;have HK:=uQ hK
 have w1:IntKind.i64.wrap ((t.length:Int) - 1)=(t.length:Int) - 1:=acI _ oQ
 have H0:=uQ (show L.Ok∧M.Ok K from ⟨hL,hM⟩)
 clear hr htl hK hL hM
 go_enter Tryz.func47,Tryz.ntmps47
 go_wp2_with fail
 go_loopg [5] t.length (fun g iq wr=>∃ (k:Nat) (L':Seg.Log) (M':ay),g=0+k∧k≤t.length∧iq = .int .i64 ((k:Int) - 1)∧Seg.Log.drop t t.length L M=Seg.Log.drop t k L' M'∧L'.Ok∧M'.Ok (K+(t.length - k))∧Sat w0 wr (aI p m L'::aH m M'::F))
 case atStart=>exact ⟨t.length,L,M,(aen _).symm,acy _,rfl,rfl,H0.out.1,H0.out.2.mono (Nat.le_add_right _ _),h⟩
 case round=>
  obtain ⟨k,L',M',rfl,hk,rfl,he,hL,hM,hS⟩:=hrel
  clear h
  cases k with
  |zero=>
   have c1:¬ (((0:Nat):Int) - 1)≥0:=by decide
   have He:=uQ he;have HM:=uQ hM;have HL:=uQ hL
   clear he hL hM hk
   by_cases ht:t=[]
   ·have hb:((t.length:Int)==0)=true:=by rw [ht];rfl
    have Hf:=uQ (Seg.drop_nil (L:=L') (M:=M') ht)
    clear ht
    go_wp2_with fail
    go_ret
    rw [He.out,Hf.out]
    exact ⟨_,rfl,rfl,hS⟩
   ·have hb:((t.length:Int)==0)=false:=by
     rw [adW]
     intro e
     exact ht (aj2 oQ)
    have Hf:=uQ (Seg.drop_end (L:=L') (M:=M') ht)
    clear ht
    go_wp2_with fail
    refine (aew HM.out hS).mono ?_
    rintro ee w2 ⟨v,rfl,rfl,hS2⟩
    clear hS
    go_wp2_with fail
    go_ret
    rw [He.out,Hf.out]
    exact ⟨_,rfl,rfl,hS2⟩
  |succ k=>
   have e1:((k+1:Nat):Int) - 1=(k:Int):=oQ
   rw [e1]
   have c1:(k:Int)≥0:=oQ
   have c2:(k:Int)<(t.length:Int):=oQ
   have w2:IntKind.i64.wrap ((k:Int) - 1)=(k:Int) - 1:=acI _ (by have:=pY.out;omega)
   obtain ⟨s,hs⟩:∃ s,t[k]?=some s:=⟨_,aak oQ⟩
   have hgd:t.getD k 0=s:=by rw [List.getD,hs];rfl
   obtain ⟨bk,off,cc,e2,c0⟩:=CZ (Hr.out _ hS.drop.drop) hs
   cases e2
   have hrm:=UU hL hM (by have:=HK.out;have:=pY.out;omega) s hS
   have He:=uQ he;have Hk:=uQ hk
   have gG:=hL.remove M' s
   have KQ:=Seg.Na (L:=L') hM s
   have I5:=uQ (fun (h0:(L'.remove M' s).2=0)=>Seg.abt (t:=t) (L:=L') (M:=M') (k:=k) (by rw [hgd];exact h0))
   have Hno:=uQ (fun (h0:(L'.remove M' s).2≠0)=>Seg.abu (t:=t) (L:=L') (M:=M') (k:=k) (by rw [hgd];exact h0))
   rw [hgd]at I5 Hno
   clear he hk hs hgd hL hM hS
   generalize L'.remove M' s=r at *
   obtain ⟨⟨L2,M2⟩,e⟩:=r
   dsimp only at hrm gG KQ I5 Hno
   have Y9:=uQ gG;have Zb:=uQ KQ
   clear gG KQ
   go_wp2_with fail
   refine hrm.mono ?_
   rintro ee w3 ⟨v,rfl,rfl,hS3⟩
   clear hrm c0
   by_cases h0:e=0
   ·subst h0
    have Hf:=uQ (I5.out rfl)
    go_wp2_with fail
    go_roundg (0+k)
    case measure=>omega
    case rel=>exact ⟨k,L2,M2,rfl,Nat.le_of_succ_le Hk.out,by first|rfl|go_num,He.out.trans Hf.out,Y9.out,Zb.out.mono (by have:=Hk.out;omega),hS3⟩
   ·have hb:(e != 0)=true:=by rw [aj6];exact h0
    have hb2:(e==0)=false:=by rw [adW];exact h0
    have Hf:=uQ (Hno.out h0)
    clear h0
    go_wp2_with fail
    go_ret
    rw [He.out,Hf.out]
    exact ⟨_,rfl,rfl,hS3⟩
end
end Go.Proofs.YtiglchkhikciiaaGreatDoor
namespace Go.Sl
open Go
section
variable {P:Program}{ops:Array Oper}{Q:Exit→Act→World→Prop}{late:List Nat}{G:World→Prop}{n:Nat}{l:Array Bool}{a:Act}{w:World}{oi oj:Oper}
theorem yL (i j:Nat) (hi:ops.toList[i]?=some oi) (hj:ops.toList[j]?=some oj) (hr:Region.ready .any ops l=[i,j])
  (h1:∀ K:Act→World→Prop,(∀ a' w',keeps late G i w w'→iI P ops Q late G n (l.setIfInBounds i true) a' w'→K a' w') →
   if Region.wanted oi (yielded ops a.tmps)=true then Oper.wp P oi a w K Q else K (a.put oi.dst undef) w)
  (h2:∀ K:Act→World→Prop,(∀ a' w',keeps late G j w w'→iI P ops Q late G n (l.setIfInBounds j true) a' w'→K a' w') →
   if Region.wanted oj (yielded ops a.tmps)=true then Oper.wp P oj a w K Q else K (a.put oj.dst undef) w):iI P ops Q late G (n+1) l a w:=by
 rw [akg]at hi hj
 refine ⟨(fun h0=>by rw [hr]at h0;cases h0),fun k hk=>?_⟩
 rw [hr]at hk
 have hk2:k=i∨k=j:=by simpa using hk
 rcases hk2 with rfl|rfl
 ·have:=h1 _ (fun a' w' h1 h2=>And.intro h1 h2)
  unfold wpOp
  rw [hi]
  show if Region.wanted oi (yielded ops a.tmps)=true then _ else _
  split
  ·rename_i hw;rw [ac3 hw]at this;exact .inl this
  ·rename_i hw;rw [abw hw]at this;exact this
 ·have:=h2 _ (fun a' w' h1 h2=>And.intro h1 h2)
  unfold wpOp
  rw [hj]
  show if Region.wanted oj (yielded ops a.tmps)=true then _ else _
  split
  ·rename_i hw;rw [ac3 hw]at this;exact .inl this
  ·rename_i hw;rw [abw hw]at this;exact this
end
end Go.Sl
namespace Go.Proofs.YtiglchkhikciiaaGreatDoor
open Go Go.Sl Go.ay Go.MapKept Go.RowKit
abbrev bG (r m:Nat) (seg:Int) (p ps pn:Nat) (d:Bool):aG:=pt r (.cells #[ptr m,.int .i64 seg,ptr p,ptr ps,ptr pn,.bool d] 65 (0,0))
section
variable {w0 w:World}{F:List aG}{p m K r ps pn:Nat}{L:Seg.Log}{M:ay}{limit:Int}
theorem aeP (hM:M.Ok K) (hl:M.list=[]) (h:Sat w0 w (aH m M::F)):Calls Tryz.prog 15 #[ptr m] w (aO fun v w'=>v = .int .i64 (-1)∧Sat w0 w' (aH m M::F)):=by
 have hls:=Dk hM h
 go_enter Tryz.func15,Tryz.ntmps15
 go_wp2_with fail
 refine hls.mono ?_
 rintro e w1 ⟨v,rfl,hS,a,n,c,rfl⟩
 clear hls
 have hn:n=0:=by
  obtain ⟨_,_,_,he,hl2,_⟩:=Sat.rd hS
  cases he
  rw [hl]at hl2
  simpa [strs] using hl2.symm
 subst hn
 go_wp2_with fail
 go_loopg [3,11] 0 (fun g lv iq wr=>lv = .int .i64 (-1)∧iq = .int .i64 0∧wr=w1)
 case atStart=>exact ⟨rfl,rfl,rfl⟩
 case round=>
  obtain ⟨rfl,rfl,rfl⟩:=hrel
  go_wp2
  go_ret
  exact ⟨_,rfl,rfl,hS.drop⟩
theorem agy {bt:Rep.Told}{v:Value} (h:tJ w0 F bt [] p m L M v w):∃ (ps pi:Nat) (uv tv:Value),v = .tuple #[ptr ps,.agg (dK Rep.dI.zero),errno 0]∧(∃ a c,tv = .slice a 0 c) ∧
  Sat w0 w (cZ ps (-1) pi uv tv::aJ pi (fun _=>none) 0::aC 73 3 uv []::aI p m L::aH m M::F):=by
 have hr:Rep.run bt [] = .inr 0:=rfl
 unfold tJ at h
 rw [hr]at h
 obtain ⟨ps,pi,uv,tv,av,kv,rfl,⟨_,_,hk⟩,⟨⟨a',c',rfl⟩,_⟩,hS⟩:=h
 obtain rfl:kv=[]:=List.length_eq_zero_iff.1 (Nat.le_zero.1 hk)
 exact ⟨ps,pi,uv,_,rfl,⟨a',c',rfl⟩,hS.sb⟩
set_option maxRecDepth 20000 in
theorem ace (hL:L.Ok) (hs:L.aF=[]) (hM:M.Ok K) (hl:M.list=[]) (hH:Ro w0 F Half) (h:Sat w0 w (aI p m L::aH m M::F)) :
  Calls Tryz.prog 46 #[ptr p,ptr m] w (aO fun v w'=>∃ (ps pi:Nat) (uv tv:Value),v = .tuple #[ptr ps,.agg (dK Rep.dI.zero),errno 0]∧(∃ a c,tv = .slice a 0 c) ∧
   Sat w0 w' (cZ ps (-1) pi uv tv::aJ pi (fun _=>none) 0::aC 73 3 uv []::aI p m L::aH m M::F)):=by
 have HL:=uQ hL;have Hs:=uQ hs;have HM:=uQ hM;have Hl:=uQ hl;have HH:=uQ hH
 clear hL hs hM hl hH
 go_enter Tryz.func46,Tryz.ntmps46
 go_wp2_with (with_reducible apply eU)
 refine ⟨dU mV h rfl ?_⟩
 intro b5 w5 h5
 have hla:=FH (F:=pt b5 (.cells (dK Rep.dI.zero) 33 (0,0))::F) HL.out HM.out (Ro.os HH.out) (h5.sb:Sat w0 w5 (aI p m L::aH m M::pt b5 (.cells (dK Rep.dI.zero) 33 (0,0))::F))
 rw [Hs.out,show Rep.lastOf (dB L M) []=(-1,0) from rfl]at hla
 clear h h5
 go_wp2_with fail
 refine hla.mono ?_
 rintro ee w6 ⟨v,rfl,rfl,h6⟩
 clear hla
 go_wp2_with fail
 refine (aeP HM.out Hl.out (h6.sb:Sat w0 w6 (aH m M::aI p m L::pt b5 (.cells (dK Rep.dI.zero) 33 (0,0))::F))).mono ?_
 rintro ee w7 ⟨v,rfl,rfl,h7⟩
 clear h6
 have lV:=NG (F:=pt b5 (.cells (dK Rep.dI.zero) 33 (0,0))::F) HL.out HM.out (Ro.os HH.out) (by rw [Hs.out];exact afm _) (by rw [Hs.out];intro r hr;cases hr) (h7.sb:Sat w0 w7 (aI p m L::aH m M::pt b5 (.cells (dK Rep.dI.zero) 33 (0,0))::F))
 clear h7
 go_wp2_with fail
 refine lV.mono ?_
 rintro ee w8 ⟨v,rfl,h8⟩
 clear lV
 rw [Hs.out]at h8
 obtain ⟨ps,pi,uv,tv,rfl,um,h9⟩:=agy h8
 clear h8
 have h10:Sat w0 w8 (pt b5 (.cells (dK Rep.dI.zero) 33 (0,0))::cZ ps (-1) pi uv tv::aJ pi (fun _=>none) 0::aC 73 3 uv []::aI p m L::aH m M::F):=h9.sb
 clear h9
 go_wp2_with ((with_reducible refine bY ⟨?_⟩);refine fE (dK Rep.dI.zero) h10 ah ah ah bZ au ah ?_;intro jd h11)
 refine ⟨rfl,_,uI rfl h11 ah aT Tryz.underlying33 rfl au,_,rfl,ps,pi,uv,tv,rfl,um,h11.drop⟩
theorem aft:qW Tryz.prog 65=some [(0,1),(1,1),(2,1),(3,1),(4,1),(5,1)]:=by kernel_rfl
theorem ai8:jy Tryz.prog 65=some (.agg #[.pointer none,.int .i64 0,.pointer none,.pointer none,.pointer none,.bool false]):=by kernel_rfl
theorem agW (seg:Int) (w:World):(Instr.build 65 #[(0,ptr m),(1,.int .i64 seg),(2,ptr p),(3,ptr ps),(4,ptr pn)]).run Tryz.prog w = .ok (.agg #[ptr m,.int .i64 seg,ptr p,ptr ps,ptr pn,.bool false]) w:=
 ak8 (P:=Tryz.prog) [(0,ptr m),(1,.int .i64 seg),(2,ptr p),(3,ptr ps),(4,ptr pn)] aft ai8 (by
  intro q hq
  simp only [aer,ajU,alb]at hq
  rcases hq with rfl|rfl|rfl|rfl|rfl
  ·exact ⟨0,rfl,by show 0+1≤6;decide⟩
  ·exact ⟨1,rfl,by show 1+1≤6;decide⟩
  ·exact ⟨2,rfl,by show 2+1≤6;decide⟩
  ·exact ⟨3,rfl,by show 3+1≤6;decide⟩
  ·exact ⟨4,rfl,by show 4+1≤6;decide⟩) w
set_option maxRecDepth 20000 in
theorem WJ {ι:Type}{N:Int} (mi:ι→aj.Bs→Option Seg.aU) (Bf:ι→Nat) (uf:ι→List Rep.Use) (Q:ι→Prop) (h1:128≤limit) (h2:limit≤1048576) (hM:M.Ok K) (hK:K≤1048576) (ha:Seg.alive M=0) (hB:∀ x,Q x→Bf x≤14000000)
  (hfd:∀ (p b5:Nat) (w':World),Sat w0 w' (aI p m (Seg.fresh M limit)::aH m M::pt b5 (.cells (dK Rep.dI.zero) 33 (0,0))::F)→Calls Tryz.prog 46 #[ptr p,ptr m] w' (aO fun v w''=>∃ (ps pi:Nat) (uv tv:Value) (x:ι),v = .tuple #[ptr ps,.agg (dK Rep.dI.zero),errno 0]∧(∃ a c,tv = .slice a 0 c)∧Q x ∧
   Sat w0 w'' (cZ ps N pi uv tv::aJ pi (mi x) (Bf x)::aC 73 3 uv ((uf x).flatMap bI)::aI p m (Seg.fresh M limit)::aH m M::pt b5 (.cells (dK Rep.dI.zero) 33 (0,0))::F)))
  (h:Sat w0 w (aH m M::F)) :
  Calls Tryz.prog 10 #[ptr m,.int .i64 limit] w (aO fun v w'=>∃ (r p ps pi pn:Nat) (uv:Value) (x:ι),v = .tuple #[ptr r,.agg (dK Rep.dI.zero),errno 0]∧Q x ∧
   Sat w0 w' (bG r m limit p ps pn false::cZ ps N pi uv (.slice none 0 0)::aJ pn (mi x) (Bf x)::aJ pi (mi x) (Bf x)::aC 73 3 uv ((uf x).flatMap bI)::aI p m (Seg.fresh M limit)::aH m M::F)):=by
 have HL:=uQ (Seg.BL hM limit h1 h2)
 have Hop:=uQ (fun (w':World) (R:List aG) (hw:Sat w0 w' (aH m M::R))=>afh hM limit hw ha h1 h2)
 generalize Seg.fresh M limit=L at *
 have HM:=uQ hM;have HK:=uQ hK;have HB:=uQ hB;have Y4:=uQ hfd
 clear h1 h2 hM hK ha hB hfd
 go_enter Tryz.func10,Tryz.ntmps10
 go_wp2_with (with_reducible apply eU)
 refine ⟨dU mV h rfl ?_⟩
 intro b5 w5 h5
 go_wp2_with fail
 refine (Hop.out _ _ (h5.sb:Sat w0 w5 (aH m M::pt b5 (.cells (dK Rep.dI.zero) 33 (0,0))::F))).mono ?_
 rintro ee w6 ⟨v,rfl,p,rfl,h6⟩
 clear h h5
 go_wp2_with fail
 refine (Y4.out p b5 _ h6).mono ?_
 rintro ee w7 ⟨v,rfl,ps,pi,uv,tv,x,rfl,⟨ta,tc,rfl⟩,hq,h7⟩
 have Hq:=uQ hq
 have YB:=uQ (HB.out x hq)
 clear h6 hq
 go_wp2_with (with_reducible apply eU)
 refine ⟨dU mV h7 rfl ?_⟩
 intro b10 w8 h8
 clear h7
 go_wp2_with (with_reducible apply bY)
 refine ⟨fE (dK Rep.dI.zero) h8 ah ah ah bZ au ah ?_⟩
 intro w9 h9
 clear h8
 replace h9:Sat w0 w9 (aI p m L::aH m M::cZ ps N pi uv (.slice ta 0 tc)::aJ pi (mi x) (Bf x)::aC 73 3 uv ((uf x).flatMap bI)::pt b5 (.cells (dK Rep.dI.zero) 33 (0,0))::F):=h9.sb
 go_wp2_with ((with_reducible refine bD ⟨?_⟩);refine dV aQ ah aY bF ak au ?_)
 have hdr:=abr (tv:= .slice ta 0 tc) [] (afm _) HL.out HM.out HK.out (fun w _=>yI 1 0 w |> fun _=>⟨ta,0,tc,rfl,rfl,fun j x hj=>by cases hj⟩) h9
 rw [show ([]:List Int).length=0 from rfl,Seg.drop_nil rfl]at hdr
 refine hdr.mono ?_
 rintro ee w10 ⟨v,rfl,rfl,h10⟩
 clear hdr h9
 go_wp2_with (with_reducible apply bY)
 refine ⟨eY (cs':=#[.int .i64 N,ptr pi,uv,.slice none 0 0]) h10 ah ah ah aio bF au ah ?_⟩
 intro jd h11
 replace h11:Sat w0 jd (aJ pi (mi x) (Bf x)::cZ ps N pi uv (.slice none 0 0)::aI p m L::aH m M::aC 73 3 uv ((uf x).flatMap bI)::pt b5 (.cells (dK Rep.dI.zero) 33 (0,0))::F):=h11.sb
 clear h10
 go_wp2_with ((with_reducible refine bD ⟨?_⟩);refine dV h11 ah aZ bF ak au ?_)
 refine (J4 YB.out h11).mono ?_
 rintro ee w12 ⟨v,rfl,pn,rfl,h12⟩
 clear h11
 go_wp2_with (first
  |((with_reducible apply Ig);refine ⟨?_⟩;first|refine yR ah (agW limit) ?_|refine yR ah GK ?_)
  |((with_reducible refine eG ⟨?_⟩);refine eH h12 ah ah ?_;intro r jF h13)
  |(with_reducible apply bY))
 refine ⟨fE (dK Rep.dI.zero) (h13.sb:Sat w0 jF (pt b5 (.cells (dK Rep.dI.zero) 33 (0,0))::bG r m limit p ps pn false::cZ ps N pi uv (.slice none 0 0)::aJ pn (mi x) (Bf x)::aJ pi (mi x) (Bf x)::aC 73 3 uv ((uf x).flatMap bI)::aI p m L::aH m M::F)) ah ah ah bZ au ah ?_⟩
 intro kR gW
 go_wp2_with fail
 refine ⟨rfl,_,uI rfl gW ah aT Tryz.underlying33 rfl au,_,rfl,r,p,ps,pi,pn,uv,x,rfl,Hq.out,gW.drop⟩
theorem WH (h1:128≤limit) (h2:limit≤1048576) (hM:M.Ok K) (hK:K≤1048576) (ha:Seg.alive M=0) (hf:(Seg.fresh M limit).aF=[]) (hl:M.list=[]) (hH:Ro w0 F Half) (h:Sat w0 w (aH m M::F)) :
  Calls Tryz.prog 10 #[ptr m,.int .i64 limit] w (aO fun v w'=>∃ (r p ps pi pn:Nat) (uv:Value),v = .tuple #[ptr r,.agg (dK Rep.dI.zero),errno 0] ∧
   Sat w0 w' (bG r m limit p ps pn false::cZ ps (-1) pi uv (.slice none 0 0)::aJ pn (fun _=>none) 0::aJ pi (fun _=>none) 0::aC 73 3 uv []::aI p m (Seg.fresh M limit)::aH m M::F)):=by
 refine (WJ (ι:=Unit) (N:= -1) (fun _ _=>none) (fun _=>0) (fun _=>[]) (fun _=>True) h1 h2 hM hK ha (fun _ _=>by decide) (fun p b5 w' hw=>?_) h).mono ?_
 ·refine (ace (Seg.BL hM limit h1 h2) hf hM hl (Ro.os hH) hw).mono ?_
  rintro e w' ⟨v,rfl,ps,pi,uv,tv,rfl,um,hS⟩
  exact ⟨_,rfl,ps,pi,uv,tv,(),rfl,um,trivial,hS⟩
 ·rintro e w' ⟨v,rfl,r,p,ps,pi,pn,uv,_,rfl,_,hS⟩
  exact ⟨_,rfl,r,p,ps,pi,pn,uv,rfl,hS⟩
theorem oO {seg:Int}{d:Bool} (h:Sat w0 w (bG r m seg p ps pn d::F)):Calls Tryz.prog 51 #[ptr r] w (aO fun v w'=>v = .bool true∧w=w'):=by
 have e2:w.cell? ⟨r,2,none⟩=some (.pointer (some ⟨p,0,none⟩)):=h.cellAt 2 _ rfl
 go_enter Tryz.func51,Tryz.ntmps51
 go_wp2
 go_ret
 exact ⟨_,rfl,rfl,rfl⟩
end
end Go.Proofs.YtiglchkhikciiaaGreatDoor
namespace Go.Tab
theorem count_one {α:Type} (p:α→Bool):∀ (s:List α) (i:Nat),i<s.length→(∀ j x,s[j]?=some x→(p x=true↔j=i))→s.countP p=1
 |[],i,h,_=>absurd h (Nat.not_lt_zero _)
 |x::s,0,_,h=>by
  have h0:p x=true:=(h 0 x rfl).2 rfl
  have h1:s.countP p=0:=List.countP_eq_zero.2 fun y hy hp=>by
   obtain ⟨j,hj,rfl⟩:=akp hy
   have:=(h (j+1) s[j] (by rw [aj3,aak hj])).1 hp
   omega
  rw [alp,h0,h1];rfl
 |x::s,i+1,hl,h=>by
  have h0:p x=false:=by
   cases hx:p x with
   |false=>rfl
   |true=>have:=(h 0 x rfl).1 hx;omega
  rw [alp,h0,count_one p s i (by simpa using hl) fun j y hy=>by rw [h (j+1) y (by rw [aj3];exact hy)];omega];rfl
theorem afg {V:Type}{t:Tb V}{k:aj.Bs}{v:V} (h:t.Ok) (hi:t.Is (put (fun _=>none) k v)):t.n=1:=by
 rw [h.n]
 have hk:Has t.slots k v:=(hi k v).2 (by unfold put;rw [ac3 rfl])
 obtain ⟨i,x,hx,h1,hxk,_⟩:=hk
 refine count_one _ t.slots i (abl.1 hx).1 fun j y hy=>?_
 constructor
 ·intro hp
  have hy1:y.st=1:=by simpa using hp
  have hyk:y.key=k:=by
   have:=(hi y.key y.val).1 ⟨j,y,hy,hy1,rfl,rfl⟩
   unfold put at this
   split at this
   ·assumption
   ·cases this
  exact h.good.one hy hx hy1 h1 (hyk.trans hxk.symm)
 ·rintro rfl
  rw [hx]at hy
  cases hy
  simpa using h1
end Go.Tab
namespace Go.Proofs.YtiglchkhikciiaaGreatDoor
open Go Go.Sl Go.ay Go.MapKept Go.RowKit
section
variable {w0 w:World}{F:List aG}{p m K r ps pn B:Nat}{L:Seg.Log}{M:ay}{seg:Int}{d:Bool}{k:aj.Bs}{mp:aj.Bs→Option Seg.aU}
theorem WB (h:Sat w0 w (bG r m seg p ps pn d::aJ pn mp B::F)) :
  Calls Tryz.prog 25 #[ptr r] w (aO fun v w'=>∃ t:Tab.Tb Seg.aU,(t.Ok∧t.Is mp)∧v = .int .i64 t.n∧w=w'):=by
 have hok:=oO h
 have hle:=aef (h.sb:Sat w0 w (aJ pn mp B::bG r m seg p ps pn d::F))
 have e4:w.cell? ⟨r,4,none⟩=some (.pointer (some ⟨pn,0,none⟩)):=h.cellAt 4 _ rfl
 clear h
 go_enter Tryz.func25,Tryz.ntmps25
 go_wp2_with fail
 refine hok.mono ?_
 rintro e w1 ⟨v,rfl,rfl,rfl⟩
 go_wp2_with fail
 refine hle.mono ?_
 rintro e w2 ⟨v,rfl,t,ht,rfl,rfl⟩
 go_wp2_with fail
 go_ret
 exact ⟨_,rfl,t,ht,rfl,rfl⟩
set_option maxRecDepth 20000 in
theorem WV (hB:B≤134217000) (hk:k.length=32) (data:aj.Bs) (da:Option Addr) (dc:Nat) (hd:Ro w0 F (bg 1 (.slice da data.length dc) (aA data))) (qK:data.length≤1099511627) (hL:L.Ok) (hM:M.Ok K) (jK:K+4≤1099511627776) (hH:Ro w0 F Half)
  (h0:(L.append M ⟨0,k,data⟩).2.2=0) (h:Sat w0 w (bG r m seg p ps pn d::aJ pn mp B::aI p m L::aH m M::F)) :
  Calls Tryz.prog 21 #[ptr r,.agg (aA k).toArray,.slice da data.length dc] w (aO fun v w'=>v=errno 0 ∧
   Sat w0 w' (bG r m seg p ps pn true::aJ pn (Tab.put mp k (L.append M ⟨0,k,data⟩).2.1) (B+1)::aI p m (L.append M ⟨0,k,data⟩).1.1::aH m (L.append M ⟨0,k,data⟩).1.2::F)):=by
 have hks:(aA k).length=32:=by rw [aV,hk]
 have hap:=uQ (fun (w':World) (R:List aG) (hh:Ro w0 R Half) (hr:Ro w0 R (bg 1 (.slice da data.length dc) (aA data))) (hw:Sat w0 w' (aI p m L::aH m M::R))=>Df ⟨0,k,data⟩ hk da dc hr hh qK hL hM jK hw)
 generalize L.append M ⟨0,k,data⟩=q at *
 obtain ⟨⟨L2,M2⟩,pc,e2⟩:=q
 dsimp only at h0 hap ⊢
 subst h0
 have HB:=uQ hB;have dO:=uQ hk;have gJ:=uQ hks;have Hd:=uQ hd;have HH:=uQ hH
 clear hB hk hks hd qK hL hM jK hH
 go_enter Tryz.func21,Tryz.ntmps21
 go_wp2_with (with_reducible apply eG)
 refine ⟨eH h ak ak ?_⟩
 intro b4 w4 h4
 replace h4:Sat w0 w4 (pt b4 (.cells (aA k).toArray 31 (0,0))::bG r m seg p ps pn d::aJ pn mp B::aI p m L::aH m M::F):=h4
 clear h
 go_wp2_with fail
 refine (oO (h4.sb:Sat w0 w4 (bG r m seg p ps pn d::pt b4 (.cells (aA k).toArray 31 (0,0))::aJ pn mp B::aI p m L::aH m M::F))).mono ?_
 rintro ee w5 ⟨v,rfl,rfl,rfl⟩
 go_wp2_with fail
 have h5:=h4.drew
 clear h4
 refine dH [7,8,9,10,12,13] (fun w'=>w'.cell? ⟨r,2,none⟩=some (.pointer (some ⟨p,0,none⟩))∧w'.rangeAt b4 0 (aA k)) au ?_
 have kH:∀ (w':World) (R:List aG) (dd:Bool),Sat w0 w' (pt b4 (.cells (aA k).toArray 31 (0,0))::bG r m seg p ps pn dd::R)→w'.cell? ⟨r,2,none⟩=some (.pointer (some ⟨p,0,none⟩))∧w'.rangeAt b4 0 (aA k):=fun w' R dd hw=>⟨hw.cellP aZ 2 rfl,fun j z hj=>by rw [aen];exact hw.cellP aT j (by rw [abL];exact hj)⟩
 have kU:=uQ kH
 have hG:=kH _ _ _ h5
 clear kH
 refine rP 0 ?_ (y:=aX)
 refine rP 1 ?_ (y:=dZ)
 refine rP 2 ?_ (y:=cO)
 refine rt 3 (h:=?_)
 refine eP 4 ak au bK (ig (b:=b4) (o:=0) (aA k) ah Tryz.underlying31 rfl (by rw [gJ.out];kernel_rfl) (fun w hw=>hw.2)) aQ gQ ?_
 clear hG
 refine rP 5 ?_ (y:=aX)
 refine rP 6 ?_ (y:=(Aw ak ak ak (fun w=>Xd ⟨0,k,data⟩ dO.out da data.length dc w)))
 refine yL 7 11 ak ak au (fun K hK=>?_) (fun K hK=>?_)
 ·(refine gy au ak ak ?_)
  refine (hap.out _ _ (Ro.os HH.out) (Ro.os Hd.out) (h5.sb:Sat w0 _ (aI p m L::aH m M::pt b4 (.cells (aA k).toArray 31 (0,0))::bG r m seg p ps pn d::aJ pn mp B::F))).mono ?_
  rintro ee w6 ⟨v,rfl,rfl,h6⟩
  refine hK _ _ (.inl rfl) ?_
  clear hK hap h5
  refine rP 8 ?_ (y:=aX)
  refine rP 9 ?_ (y:=(jw ak dh))
  refine rP 10 ?_ (y:=(jw ak dh))
  refine bV 11 ak au (fun K hK=>?_)
  refine ql (og) h6 rfl ?_
  intro b7 w7 h7
  refine hK _ _ (.inr (.inl (kU.out _ _ _ (h7.sb:Sat w0 w7 (pt b4 (.cells (aA k).toArray 31 (0,0))::bG r m seg p ps pn d::aJ pn mp B::pt b7 (.cells (aK Seg.aU.zero).toArray 116 (0,0))::aI p m L2::aH m M2::F))))) ?_
  clear hK h6
  have h8:Sat w0 w7 (pt b7 (.cells (aK Seg.aU.zero).toArray 116 (0,0))::pt b4 (.cells (aA k).toArray 31 (0,0))::bG r m seg p ps pn d::aJ pn mp B::aI p m L2::aH m M2::F):=h7.sb
  clear h7
  refine bV 12 ak au (fun K hK=>?_)
  refine kP (cs':=(aK pc).toArray) h8 ak ak ah bZ bF au ah ?_
  intro w9 h9
  refine hK _ _ (.inl rfl) ?_
  clear hK h8
  refine rP 13 ?_ (y:=fJ)
  refine dD au ?_
  go_wp2_with fail
  have h10:=h9.drew
  clear h9
  replace h10:Sat w0 _ (pt b4 (.cells (aA k).toArray 31 (0,0))::bG r m seg p ps pn d::aJ pn mp B::pt b7 (.cells (aK pc).toArray 116 (0,0))::aI p m L2::aH m M2::F):=h10.sb
  refine dH [6] (fun w'=>w'.cell? ⟨r,4,none⟩=some (.pointer (some ⟨pn,0,none⟩))∧w'.rangeAt b4 0 (aA k)∧w'.rangeAt b7 0 (aK pc)) au ?_
  have hG:World.cell? _ ⟨r,4,none⟩=some (.pointer (some ⟨pn,0,none⟩))∧World.rangeAt _ b4 0 (aA k)∧World.rangeAt _ b7 0 (aK pc):=⟨h10.cellP aZ 4 rfl,fun j z hj=>by rw [aen];exact h10.cellP aT j (by rw [abL];exact hj),fun j z hj=>by rw [aen];exact h10.cellP iZ j (by rw [abL];exact hj)⟩
  refine rP 0 ?_ (y:=aX)
  refine rP 1 ?_ (y:=dZ)
  refine rP 2 ?_ (y:=cO)
  refine rt 3 (h:=?_)
  refine eP 4 ak au bK (ig (b:=b4) (o:=0) (aA k) ah Tryz.underlying31 rfl (by rw [gJ.out];kernel_rfl) (fun w hw=>hw.2.1)) aQ gQ ?_
  refine eP 5 ak au bK (ig (b:=b7) (o:=0) (aK pc) ah Tryz.underlying116 rfl au (fun w hw=>hw.2.2)) aQ gQ ?_
  clear hG
  refine bV 6 ak au (fun K hK=>?_)
  (refine vI au ak ak ak ?_)
  refine (Gi HB.out dO.out pc (h10.sb:Sat w0 _ (aJ pn mp B::pt b4 (.cells (aA k).toArray 31 (0,0))::bG r m seg p ps pn d::pt b7 (.cells (aK pc).toArray 116 (0,0))::aI p m L2::aH m M2::F))).mono ?_
  rintro ee jd ⟨v,rfl,h11⟩
  refine hK _ _ (.inl rfl) ?_
  clear hK h10
  refine dD au ?_
  go_wp2_with (with_reducible apply bY)
  refine ⟨eY (cs':=#[ptr m,.int .i64 seg,ptr p,ptr ps,ptr pn,.bool true]) (h11.sb:Sat w0 jd (bG r m seg p ps pn d::aJ pn (Tab.put mp k pc) (B+1)::pt b4 (.cells (aA k).toArray 31 (0,0))::pt b7 (.cells (aK pc).toArray 116 (0,0))::aI p m L2::aH m M2::F)) ah ah ah bZ bF au ah ?_⟩
  intro w12 h12
  go_wp2_with fail
  go_ret
  exact ⟨_,rfl,rfl,h12.sb⟩
 ·refine ql (og) h5 rfl ?_
  intro b7 w6 h6
  refine hK _ _ (.inr (.inl (kU.out _ _ _ (h6.sb:Sat w0 w6 (pt b4 (.cells (aA k).toArray 31 (0,0))::bG r m seg p ps pn d::pt b7 (.cells (aK Seg.aU.zero).toArray 116 (0,0))::aJ pn mp B::aI p m L::aH m M::F))))) ?_
  clear hK h5
  refine bV 7 ak au (fun K hK=>?_)
  (refine gy au ak ak ?_)
  refine (hap.out _ _ (Ro.os HH.out) (Ro.os Hd.out) (h6.sb:Sat w0 _ (aI p m L::aH m M::pt b7 (.cells (aK Seg.aU.zero).toArray 116 (0,0))::pt b4 (.cells (aA k).toArray 31 (0,0))::bG r m seg p ps pn d::aJ pn mp B::F))).mono ?_
  rintro ee w7 ⟨v,rfl,rfl,h7⟩
  refine hK _ _ (.inl rfl) ?_
  clear hK hap h6
  refine rP 8 ?_ (y:=aX)
  refine rP 9 ?_ (y:=(jw ak dh))
  refine rP 10 ?_ (y:=(jw ak dh))
  have h8:Sat w0 w7 (pt b7 (.cells (aK Seg.aU.zero).toArray 116 (0,0))::pt b4 (.cells (aA k).toArray 31 (0,0))::bG r m seg p ps pn d::aJ pn mp B::aI p m L2::aH m M2::F):=h7.sb
  clear h7
  refine bV 12 ak au (fun K hK=>?_)
  refine kP (cs':=(aK pc).toArray) h8 ak ak ah bZ bF au ah ?_
  intro w9 h9
  refine hK _ _ (.inl rfl) ?_
  clear hK h8
  refine rP 13 ?_ (y:=fJ)
  refine dD au ?_
  go_wp2_with fail
  have h10:=h9.drew
  clear h9
  replace h10:Sat w0 _ (pt b4 (.cells (aA k).toArray 31 (0,0))::bG r m seg p ps pn d::aJ pn mp B::pt b7 (.cells (aK pc).toArray 116 (0,0))::aI p m L2::aH m M2::F):=h10.sb
  refine dH [6] (fun w'=>w'.cell? ⟨r,4,none⟩=some (.pointer (some ⟨pn,0,none⟩))∧w'.rangeAt b4 0 (aA k)∧w'.rangeAt b7 0 (aK pc)) au ?_
  have hG:World.cell? _ ⟨r,4,none⟩=some (.pointer (some ⟨pn,0,none⟩))∧World.rangeAt _ b4 0 (aA k)∧World.rangeAt _ b7 0 (aK pc):=⟨h10.cellP aZ 4 rfl,fun j z hj=>by rw [aen];exact h10.cellP aT j (by rw [abL];exact hj),fun j z hj=>by rw [aen];exact h10.cellP iZ j (by rw [abL];exact hj)⟩
  refine rP 0 ?_ (y:=aX)
  refine rP 1 ?_ (y:=dZ)
  refine rP 2 ?_ (y:=cO)
  refine rt 3 (h:=?_)
  refine eP 4 ak au bK (ig (b:=b4) (o:=0) (aA k) ah Tryz.underlying31 rfl (by rw [gJ.out];kernel_rfl) (fun w hw=>hw.2.1)) aQ gQ ?_
  refine eP 5 ak au bK (ig (b:=b7) (o:=0) (aK pc) ah Tryz.underlying116 rfl au (fun w hw=>hw.2.2)) aQ gQ ?_
  clear hG
  refine bV 6 ak au (fun K hK=>?_)
  (refine vI au ak ak ak ?_)
  refine (Gi HB.out dO.out pc (h10.sb:Sat w0 _ (aJ pn mp B::pt b4 (.cells (aA k).toArray 31 (0,0))::bG r m seg p ps pn d::pt b7 (.cells (aK pc).toArray 116 (0,0))::aI p m L2::aH m M2::F))).mono ?_
  rintro ee jd ⟨v,rfl,h11⟩
  refine hK _ _ (.inl rfl) ?_
  clear hK h10
  refine dD au ?_
  go_wp2_with (with_reducible apply bY)
  refine ⟨eY (cs':=#[ptr m,.int .i64 seg,ptr p,ptr ps,ptr pn,.bool true]) (h11.sb:Sat w0 jd (bG r m seg p ps pn d::aJ pn (Tab.put mp k pc) (B+1)::pt b4 (.cells (aA k).toArray 31 (0,0))::pt b7 (.cells (aK pc).toArray 116 (0,0))::aI p m L2::aH m M2::F)) ah ah ah bZ bF au ah ?_⟩
  intro w12 h12
  go_wp2_with fail
  go_ret
  exact ⟨_,rfl,rfl,h12.sb⟩
def F9:aj.Bs:=1::List.replicate 31 0
theorem aff:F9.length=32:=rfl
theorem agM (w:World):(Instr.build 31 #[(0,.int .u8 1)]).run Tryz.prog w = .ok (.agg (aA F9).toArray) w:=by kernel_rfl
theorem aei:((Seg.fresh qO 200).append qO ⟨0,F9,[]⟩).2.2=0:=by rw [UO];kernel_rfl
theorem aej:qO.list=[]:=by kernel_rfl
set_option maxRecDepth 20000 in
theorem aem (hH:Ro w0 F Half) (h:Sat w0 w F):Calls Tryz.prog 19 #[] w (aO fun v w'=>v = .bool true∧Sat w0 w' F):=by
 have hnew:Calls Tryz.prog 9 #[.int .i64 1000] w (aO fun v w'=>∃ m,v = .tuple #[ptr m,errno 0]∧Sat w0 w' (aH m qO::F)):=U9 1000 aN h
 have HH:=uQ hH
 have bU:qO.Ok 20:=ay.Ok.new 20 1000 aN
 clear hH
 go_enter Tryz.func19,Tryz.ntmps19
 go_wp2_with fail
 refine hnew.mono ?_
 rintro e w1 ⟨v,rfl,m,rfl,hS⟩
 clear hnew h
 go_wp2_with fail
 refine (WH (K:=20) (limit:=200) aN aN bU aN aek (by rw [UO];rfl) aej HH.out hS).mono ?_
 rintro e w2 ⟨v,rfl,r,p,ps,pi,pn,uv,rfl,h2⟩
 clear hS
 go_wp2_with (with_reducible apply eU)
 refine ⟨dU mV h2 rfl ?_⟩
 intro b4 w4 h4
 go_wp2_with ((with_reducible refine bY ⟨?_⟩);refine fE (dK Rep.dI.zero) h4 ah ah ah bZ au ah ?_;intro w5 h5)
 go_wp2_with (first
  |((with_reducible apply ail);refine ⟨?_⟩;refine XY ah ?_)
  |((with_reducible apply Ig);refine ⟨?_⟩;refine yR ah agM ?_))
 have h6:Sat w0 w5 (bG r m 200 p ps pn false::aJ pn (fun _=>none) 0::aI p m (Seg.fresh qO 200)::aH m qO::pt b4 (.cells (dK Rep.dI.zero) 33 (0,0))::cZ ps (-1) pi uv (.slice none 0 0)::aJ pi (fun _=>none) 0::aC 73 3 uv []::F):=h5.sb
 clear h2 h4 h5
 have hp:=WV aN aff [] none 0 (fun w _=>yI 1 0 w) (afm _) (Seg.BL bU 200 aN aN) bU aN (Ro.os HH.out) aei h6
 generalize (Seg.fresh qO 200).append qO ⟨0,F9,[]⟩=q at *
 obtain ⟨⟨L2,M2⟩,pc,e2⟩:=q
 refine hp.mono ?_
 rintro e w7 ⟨v,rfl,rfl,h7⟩
 clear hp h6
 go_wp2_with fail
 refine (WB h7).mono ?_
 rintro e w8 ⟨v,rfl,t,⟨ok,is⟩,rfl,rfl⟩
 rw [Tab.afg ok is]
 go_wp2_with fail
 go_ret
 exact ⟨_,rfl,rfl,h7.sb⟩
end
end Go.Proofs.YtiglchkhikciiaaGreatDoor
namespace Go.Tab
open Go.aj (Bs num)
section
variable {V:Type}{s:List (Slot V)}{x z:Slot V}{k:Bs}{v:V}{d:Nat}
def del (m:Bs→Option V) (k:Bs):Bs→Option V:=fun l=>if l=k then none else m l
theorem QI (g:Good s) (he:Ends s k d) (hx:s[pos k s.length d]?=some x) (hf:x.st=1) (hz:z.st=2) (Le:z.key.length=32) :
  Good (s.set (pos k s.length d) z)∧∀ k' v',Has (s.set (pos k s.length d) z) k' v'↔k'≠k∧Has s k' v':=by
 obtain ⟨hk,_⟩:=ES he hx hf
 have hlt:pos k s.length d<s.length:=lX g.jG
 generalize hp:pos k s.length d=p at *
 have hst:∀ q l,oU (s.set p z) l q→oU s l q:=fun q l=>by
  unfold oU
  by_cases h:p=q
  ·subst h
   rw [sJ hlt]
   rintro ⟨y,hy,h1⟩
   cases hy
   rcases h1 with h1|⟨h1,_⟩ <;> omega
  ·rw [qC h];exact id
 refine ⟨⟨by rw [aj0];exact g.pow,fun y hy=>?_,fun y hy=>?_,fun q y hq hy=>?_⟩,fun k' v'=>?_⟩
 ·rcases akw hy with h|rfl
  ·exact g.st y h
  ·omega
 ·rcases akw hy with h|rfl
  ·exact g.key y h
  ·exact Le
 ·rw [aj0]
  by_cases h:p=q
  ·subst h
   rw [sJ hlt]at hq
   cases hq
   omega
  ·rw [qC h]at hq
   obtain ⟨d',a,b,c⟩:=g.reach q y hq hy
   exact ⟨d',a,b,fun e h hh=>c e h (hst _ _ hh)⟩
 ·constructor
  ·rintro ⟨q,y,hq,h1,h2,h3⟩
   by_cases h:p=q
   ·subst h
    rw [sJ hlt]at hq
    cases hq
    omega
   ·rw [qC h]at hq
    refine ⟨fun e=>?_,q,y,hq,h1,h2,h3⟩
    exact h (g.one hx hq hf h1 (hk.trans (e.symm.trans h2.symm)))
  ·rintro ⟨hne,q,y,hq,h1,h2,h3⟩
   have:p≠q:=fun h=>by
    subst h
    rw [hx]at hq
    cases hq
    exact hne (h2.symm.trans hk)
   exact ⟨q,y,by rw [qC this];exact hq,h1,h2,h3⟩
theorem adL {t:Tb V}{m:Bs→Option V}{s':List (Slot V)} (hm:t.Is m) (h:∀ k' v',Has s' k' v'↔k'≠k∧Has t.slots k' v') (n g:Nat):(⟨s',n,g⟩:Tb V).Is (del m k):=fun k' v'=>by
 rw [show (⟨s',n,g⟩:Tb V).slots=s' from rfl,h]
 unfold del
 split
 ·rename_i e
  exact ⟨fun q=>absurd e q.1,fun q=>by cases q⟩
 ·rename_i e
  rw [hm]
  exact ⟨fun q=>q.2,fun q=>⟨e,q⟩⟩
theorem abe {t:Tb V} (h:t.Ok) (he:Ends t.slots k d) (hx:t.slots[pos k t.slots.length d]?=some x) (hf:x.st=1) (hz:z.st=2) (Le:z.key.length=32) :
  0<t.n∧(⟨t.slots.set (pos k t.slots.length d) z,t.n - 1,t.gone+1⟩:Tb V).Ok:=by
 have h1:=uJ (fun x=>x.st==1) t.slots _ x z hx
 have h2:=uJ (fun x=>x.st != 0) t.slots _ x z hx
 have hn:0<jB t.slots:=by
  unfold jB
  exact List.countP_pos_iff.2 ⟨x,abA hx,by simp [hf]⟩
 have hn2:=h.n
 refine ⟨by omega,(QI h.good he hx hf hz Le).1,?_,?_,?_,?_⟩
 ·unfold jB at *;simp [hf,hz]at h1 ⊢;omega
 ·have:=h.gone;unfold used at *;simp [hf,hz]at h2 ⊢;omega
 ·have:=h.load;simp only [aj0];omega
 ·have:=h.size;simp only [aj0];omega
theorem uX.ok0 {t:Tb V}{s':List (Slot V)} (h:uX t s' t.n):(⟨s',t.n,0⟩:Tb V).Ok:=
 ⟨h.good,h.nf.symm,by rw [h.nu];rfl,by have:=h.lo;have:=h.lo8;have:=h.hi;simp only;omega,by have:=h.hi;simp only;omega⟩
end
end Go.Tab
namespace Go.Proofs.YtiglchkhikciiaaGreatDoor
open Go Go.Sl Go.ay Go.MapKept Go.RowKit
def vG:Tab.Slot Seg.aU:=⟨2,aj.zero32,Seg.aU.zero⟩
theorem ag2 (w:World):(Instr.build 178 #[(0,.int .i64 2)]).run Tryz.prog w = .ok (.agg (slotL aK vG).toArray) w:=by
 refine (ak8 (P:=Tryz.prog) [(0,.int .i64 2)] VH uN (by
  intro p' hp
  simp only [aer,ajU,alb]at hp
  have hzz:(Value.agg (slotL aK (⟨0,aj.zero32,Seg.aU.zero⟩:Tab.Slot (Seg.aU))).toArray).cells.size=36:=by
   show (slotL aK (⟨0,aj.zero32,Seg.aU.zero⟩:Tab.Slot (Seg.aU))).toArray.size=36
   rw [aaI,iT aK _ aN 3 rfl]
  rw [hzz]
  rcases hp with rfl
  exact ⟨0,rfl,by show 0+1≤36;omega⟩) w).trans ?_
 rfl
section
variable {w0 w:World}{F R:List aG}{p B:Nat}{sv:Value}{k:aj.Bs}{m:aj.Bs→Option (Seg.aU)}
set_option maxRecDepth 20000 in
theorem QH (hB:B≤134217000) (hk:k.length=32) (h:Sat w0 w (aJ p m B::F)) :
  Calls Tryz.prog 97 #[ptr p,.agg (aA k).toArray] w (aO fun v w'=>v = .bool (m k).isSome∧Sat w0 w' (aJ p (Tab.del m k) B::F)):=by
 obtain ⟨t,sv,⟨ok,is,hb⟩,hR⟩:=aJ.open h
 obtain ⟨d,he⟩:=ok.ends k
 have hsz:t.slots.length≤536872000:=by have:=ok.size;omega
 have Hlen:=uQ (show ∀ x∈t.slots,(slotL aK x).length=36 from fun x hx=>iT aK x (ok.good.key x hx) 3 (oM _))
 obtain ⟨la,lc,rfl⟩:=iD Hlen.out (Sat.rd (hR.pick aZ)) aN
 have hrl:0<(t.slots.flatMap (slotL aK)).length:=by rw [iE Hlen.out];have:=ok.good.jG;omega
 obtain ⟨bk,rfl⟩:=Dw (hR.pick aZ) hrl
 have Hk:=uQ hk;have bU:=uQ ok;have iK:=uQ is;have Hb:=uQ hb;have He:=uQ he;have gq:=uQ hsz;have HB:=uQ hB
 have iV:=uQ ok.good.jG
 have sW:=uQ (show (aA k).length=32 by rw [aV,hk])
 clear h hk ok is hb he hsz hB hrl
 go_enter Tryz.func97,Tryz.ntmps97
 go_wp2_with (with_reducible apply eG)
 refine ⟨eH hR ak ak ?_⟩
 intro b4 w4 hS4
 have hA:Sat w0 w4 (fU p 180 (.slice (some ⟨bk,0,none⟩) t.slots.length lc) t.n t.gone::aC 178 36 (.slice (some ⟨bk,0,none⟩) t.slots.length lc) (t.slots.flatMap (slotL aK))::pt b4 (.cells (aA k).toArray 31 (0,0))::F):=hS4.sb
 clear hR hS4
 go_wp2_with fail
 refine (zS iV.out hA).mono ?_
 rintro ee w7 ⟨v',rfl,rfl,rfl⟩
 go_wp2_with ((with_reducible refine bD ⟨?_⟩);refine gI hA ah (aW (aW (aT (A:=pt b4 (.cells (aA k).toArray 31 (0,0)))))) Tryz.underlying31 rfl (by rw [aaI,sW.out];kernel_rfl) ?_)
 have hf:=BH bU.out.good (adr gq.out aN) Hk.out He.out hA
 clear hA
 refine hf.mono ?_
 rintro ee w8 ⟨v',rfl,x,hx,rfl,iR⟩
 clear hf
 have hlt:=Tab.lX (k:=k) (d:=d) iV.out
 by_cases h1:x.st=1
 rotate_left
 ·have hd:decide (x.st=1)=false:=aex h1
  have hno:m k=none:=by
   obtain ⟨_,q2⟩:=iK.out.some bU.out He.out hx
   exact q2 h1
  have Hno:=uQ hno
  have IV:=uQ (show Tab.del m k=m from by
   funext l
   unfold Tab.del
   split
   ·rename_i e;rw [e,hno]
   ·rfl)
  clear h1 hx hno hlt
  go_wp2_with fail
  go_ret
  exact ⟨_,rfl,by rw [Hno.out];rfl,by rw [IV.out];exact aJ.shut bU.out iK.out Hb.out (iR.sb)⟩
 ·have hd:decide (x.st=1)=true:=aiu h1
  have Jy:=uQ (show (m k).isSome=true from by rw [(iK.out.some bU.out He.out hx).1 h1];rfl)
  have pW:=uQ (Ac (f:=slotL aK) (k:=36) (i:=Tab.pos k t.slots.length d) (x:=vG) Hlen.out (iT aK _ rfl 3 rfl) hlt)
  obtain ⟨hn0,hok2⟩:=Tab.abe bU.out He.out hx h1 (z:=vG) rfl rfl
  have qF:=uQ (fun n g=>Tab.adL iK.out (Tab.QI bU.out.good He.out hx h1 (z:=vG) rfl rfl).2 n g)
  have hrl:(t.slots.flatMap (slotL aK)).length=36 * t.slots.length:=iE Hlen.out
  have hls:=iT aK vG rfl 3 rfl
  have hwn:IntKind.i64.wrap ((t.n:Int) - 1)=((t.n - 1:Nat):Int):=by rw [acI _ (by have:=Hb.out;have:=HB.out;omega)];omega
  have hwg:IntKind.i64.wrap ((t.gone:Int)+1)=((t.gone+1:Nat):Int):=by rw [acI _ (by have:=Hb.out;have:=HB.out;omega)];omega
  have hle:(t.slots.set (Tab.pos k t.slots.length d) vG).length=t.slots.length:=aj0
  have Hb2:=uQ (show (t.n - 1)+(t.gone+1)≤B by have:=Hb.out;omega)
  have l7:=uQ hok2
  generalize hns:t.slots.set (Tab.pos k t.slots.length d) vG=ns at *
  clear hns hok2
  clear h1 hx
  generalize Tab.pos k t.slots.length d=P0 at *
  have c0:(0:Int)≤(P0:Int):=oQ
  have c1:(P0:Int)<(t.slots.length:Int):=oQ
  go_wp2_with (first
   |((with_reducible refine bD ⟨?_⟩);refine dV iR ah aY bF ak au ?_)
   |((with_reducible apply Ig);refine ⟨?_⟩;refine yR ah (fun w=>ag2 w) ?_)
   |(with_reducible apply bY))
  refine ⟨aiO (vs:=slotL aK vG) (P0 * 36) iR ah ah rfl (jh bZ) (by rw [hrl,hls];omega) (by rw [hls];kernel_rfl) (lQ aK _ ah) ?_⟩
  intro w12 iP
  rw [← pW.out]at iP
  clear iR
  go_wp2_with (first
   |((with_reducible refine bD ⟨?_⟩);refine dV iP ah aY bF ak au ?_)
   |(with_reducible apply bY))
  refine ⟨eY (cs':=#[.slice (some ⟨bk,0,none⟩) t.slots.length lc,.int .i64 ((t.n - 1:Nat):Int),.int .i64 t.gone]) iP ah ah ah bZ bF au ah ?_⟩
  intro jF qo
  clear iP
  go_wp2_with (first
   |((with_reducible refine bD ⟨?_⟩);refine dV qo ah aY bF ak au ?_)
   |(with_reducible apply bY))
  refine ⟨eY (cs':=#[.slice (some ⟨bk,0,none⟩) t.slots.length lc,.int .i64 ((t.n - 1:Nat):Int),.int .i64 ((t.gone+1:Nat):Int)]) qo ah ah ah bZ bF au ah ?_⟩
  intro kR Fa
  clear qo hwn hwg
  go_wp2_with fail
  have hSd:=Fa.drew
  clear Fa
  have hw8:IntKind.i64.wrap (8 * ((t.n - 1:Nat):Int))=8 * ((t.n - 1:Nat):Int):=acI _ (by have:=Hb.out;have:=HB.out;omega)
  have ajA:wrap64 (8 * ((t.n - 1:Nat):Int))=8 * ((t.n - 1:Nat):Int):=ajM _ (by have:=Hb.out;have:=HB.out;omega)
  have Ei:=uQ (show t.n - 1≤134217728 by have:=Hb.out;have:=HB.out;omega)
  clear hn0
  generalize t.n - 1=n1 at *
  generalize t.gone+1=g1 at *
  by_cases c8:8<t.slots.length
  ·have JW:(8:Int)<(t.slots.length:Int):=by omega
   have c8d:decide ((8:Int)<(t.slots.length:Int))=true:=aiu JW
   by_cases c9:8 * n1<t.slots.length
   ·have JX:8 * (n1:Int)<(t.slots.length:Int):=by omega
    have c9d:decide (8 * (n1:Int)<(t.slots.length:Int))=true:=aiu JX
    refine dH [] (fun w'=>w'.cell? ⟨p,0,none⟩=some (.slice (some ⟨bk,0,none⟩) t.slots.length lc)∧w'.cell? ⟨p,1,none⟩=some (.int .i64 n1)) au ?_
    have hG:World.cell? _ ⟨p,0,none⟩=some (.slice (some ⟨bk,0,none⟩) t.slots.length lc)∧World.cell? _ ⟨p,1,none⟩=some (.int .i64 n1):=⟨hSd.cellP aY 0 rfl,hSd.cellP aY 1 rfl⟩
    refine rP 0 ?_ (y:=aX)
    refine rP 1 ?_ (y:=dZ)
    refine rP 2 ?_ (y:=cO)
    refine rt 3 (h:=?_)
    refine rP 4 ?_ (y:=(nZ ak dh))
    refine rP 5 ?_ (y:=jm)
    refine rP 6 ?_ (y:=aX)
    refine rP 7 ?_ (y:=(fM ah ak))
    refine rP 8 ?_ (y:=(wX ah ak))
    refine rP 9 ?_ (y:=(kT ah ak dh))
    refine eP 10 ak au bK (kY ah ak au (by intro wq hq;first|exact hq|exact hq.1|exact hq.2|exact hq.2.1|exact hq.2.2|exact hq.2.2.1|exact hq.2.2.2|exact hq.2.2.2.1|exact hq.2.2.2.2)) aQ gQ ?_
    refine rP 11 ?_ (y:=(Yp ah ak dh))
    refine rP 12 ?_ (y:=(fM ah ak))
    refine rP 13 ?_ (y:=(wX ah ak))
    refine rP 14 ?_ (y:=(kT ah ak dh))
    refine eP 15 ak au bK (kY ah ak au (by intro wq hq;first|exact hq|exact hq.1|exact hq.2|exact hq.2.1|exact hq.2.2|exact hq.2.2.1|exact hq.2.2.2|exact hq.2.2.2.1|exact hq.2.2.2.2)) aQ gQ ?_
    refine rP 16 ?_ (y:=(oV ah ak ak dh))
    refine rP 17 ?_ (y:=(oV ah ak ak dh))
    refine rP 18 ?_ (y:=(jX ah ak ak))
    clear hG
    refine dD au ?_
    try simp only [iO]
    try go_frame
    have hrn:=Wv (t:=⟨ns,n1,g1⟩) (N:=n1) l7.out (acy _) Ei.out (by show ns.length≤_;have:=gq.out;omega) (hSd.sb:Sat w0 _ (fU p 180 (.slice (some ⟨bk,0,none⟩) t.slots.length lc) n1 g1::aC 178 36 (.slice (some ⟨bk,0,none⟩) t.slots.length lc) (ns.flatMap (slotL aK))::pt b4 (.cells (aA k).toArray 31 (0,0))::F))
    have e1:World.cell? _ ⟨p,1,none⟩=some (.int .i64 n1):=hSd.cellP aY 1 rfl
    clear hSd
    go_wp2_with fail
    refine hrn.mono ?_
    rintro ee Ar ⟨v',rfl,s',sv',qw,acL⟩
    clear hrn
    have Pq:=uQ qw
    clear qw e1
    go_wp2_with fail
    go_ret
    exact ⟨_,rfl,by rw [Jy.out];rfl,aJ.shut (t:=⟨s',n1,0⟩) Pq.out.ok0 (Pq.out.is (qF.out n1 g1) n1 0) (by have:=Hb2.out;simp only;omega) (acL.sb)⟩
   ·have JX:¬ 8 * (n1:Int)<(t.slots.length:Int):=by omega
    have c9d:decide (8 * (n1:Int)<(t.slots.length:Int))=false:=aex JX
    refine dH [] (fun w'=>w'.cell? ⟨p,0,none⟩=some (.slice (some ⟨bk,0,none⟩) t.slots.length lc)∧w'.cell? ⟨p,1,none⟩=some (.int .i64 n1)) au ?_
    have hG:World.cell? _ ⟨p,0,none⟩=some (.slice (some ⟨bk,0,none⟩) t.slots.length lc)∧World.cell? _ ⟨p,1,none⟩=some (.int .i64 n1):=⟨hSd.cellP aY 0 rfl,hSd.cellP aY 1 rfl⟩
    refine rP 0 ?_ (y:=aX)
    refine rP 1 ?_ (y:=dZ)
    refine rP 2 ?_ (y:=cO)
    refine rt 3 (h:=?_)
    refine rP 4 ?_ (y:=(nZ ak dh))
    refine rP 5 ?_ (y:=jm)
    refine rP 6 ?_ (y:=aX)
    refine rP 7 ?_ (y:=(fM ah ak))
    refine rP 8 ?_ (y:=(wX ah ak))
    refine rP 9 ?_ (y:=(kT ah ak dh))
    refine eP 10 ak au bK (kY ah ak au (by intro wq hq;first|exact hq|exact hq.1|exact hq.2|exact hq.2.1|exact hq.2.2|exact hq.2.2.1|exact hq.2.2.2|exact hq.2.2.2.1|exact hq.2.2.2.2)) aQ gQ ?_
    refine rP 11 ?_ (y:=(Yp ah ak dh))
    refine rP 12 ?_ (y:=(fM ah ak))
    refine rP 13 ?_ (y:=(wX ah ak))
    refine rP 14 ?_ (y:=(kT ah ak dh))
    refine eP 15 ak au bK (kY ah ak au (by intro wq hq;first|exact hq|exact hq.1|exact hq.2|exact hq.2.1|exact hq.2.2|exact hq.2.2.1|exact hq.2.2.2|exact hq.2.2.2.1|exact hq.2.2.2.2)) aQ gQ ?_
    refine rP 16 ?_ (y:=(oV ah ak ak dh))
    refine rP 17 ?_ (y:=(oV ah ak ak dh))
    refine rP 18 ?_ (y:=(jX ah ak ak))
    clear hG
    refine dD au ?_
    try simp only [iO]
    try go_frame
    go_wp2_with fail
    go_ret
    exact ⟨_,rfl,by rw [Jy.out];rfl,aJ.shut (t:=⟨ns,n1,g1⟩) l7.out (qF.out n1 g1) Hb2.out (hSd.sb)⟩
  ·have JW:¬ (8:Int)<(t.slots.length:Int):=by omega
   have c8d:decide ((8:Int)<(t.slots.length:Int))=false:=aex JW
   refine dH [] (fun w'=>w'.cell? ⟨p,0,none⟩=some (.slice (some ⟨bk,0,none⟩) t.slots.length lc)∧w'.cell? ⟨p,1,none⟩=some (.int .i64 n1)) au ?_
   have hG:World.cell? _ ⟨p,0,none⟩=some (.slice (some ⟨bk,0,none⟩) t.slots.length lc)∧World.cell? _ ⟨p,1,none⟩=some (.int .i64 n1):=⟨hSd.cellP aY 0 rfl,hSd.cellP aY 1 rfl⟩
   refine rP 0 ?_ (y:=aX)
   refine rP 1 ?_ (y:=dZ)
   refine rP 2 ?_ (y:=cO)
   refine rt 3 (h:=?_)
   refine rP 4 ?_ (y:=(nZ ak dh))
   refine rP 5 ?_ (y:=jm)
   refine rP 6 ?_ (y:=aX)
   refine dP 7 ak au bK ah gQ ?_
   refine dP 8 ak au bK ah gQ ?_
   refine dP 9 ak au bK ah gQ ?_
   refine dP 10 ak au bK ah gQ ?_
   refine dP 11 ak au bK ah gQ ?_
   refine dP 12 ak au bK ah gQ ?_
   refine dP 13 ak au bK ah gQ ?_
   refine dP 14 ak au bK ah gQ ?_
   refine dP 15 ak au bK ah gQ ?_
   refine dP 16 ak au bK ah gQ ?_
   refine dP 17 ak au bK ah gQ ?_
   refine rP 18 ?_ (y:=(jX ah ak ak))
   clear hG
   refine dD au ?_
   try simp only [iO]
   try go_frame
   go_wp2_with fail
   go_ret
   exact ⟨_,rfl,by rw [Jy.out];rfl,aJ.shut (t:=⟨ns,n1,g1⟩) l7.out (qF.out n1 g1) Hb2.out (hSd.sb)⟩
end
end Go.Proofs.YtiglchkhikciiaaGreatDoor
